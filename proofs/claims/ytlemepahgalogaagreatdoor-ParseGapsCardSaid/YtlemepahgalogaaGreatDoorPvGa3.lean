/- Part 3 of the proof: pure values for the machine's values, what functions compute over them, and laws of what is computed. Conditions: none beyond each theorem's own premises. -/
import Derived.Test.YtlemepahgalogaaGreatDoorPvGa2
import Derived.RecoverIn
import Derived.Test.YtlemepahgalogaaGreatDoorShelf
import Derived.Lib.AppendIntMem
import Derived.Lib.ItoaLen
import Derived.Lib.ParseIntBTie
import Derived.Shelf.Strings.BuilderK
import Derived.RangeFuncNested
noncomputable section
set_option maxHeartbeats 4000000
set_option maxRecDepth 200000
set_option linter.unusedSimpArgs false
set_option linter.unusedVariables false
namespace Go.Pv
open Go Go.Proofs
def qL5:GamT:=ofL []
theorem qNz (gl:Gl):qam Tryz.prog gl (gam qL5):=qag
def qPO:LpsT:=fun r fr σ=>.fail
def qDp (r:qR) (n k:Int) (t:qU):Tr PV:=let z1:=qbo [.int .i64 0,.str [],.int .i64 0,.int .i64 0,.str [],.int .i64 0] r (nNat 0);.ite (iLt 0 (xLen r)) (.ite (qas 0) (.ite z1 (.ite (iEq (xInt r (nNat 0) 0) k) (.ite (sEq t []) (.ret (.bool true)) (.ite (qas 0) (.ite z1 (.ret (.bool (sEq (xStr r (nNat 0) 1) t))) .fail) .fail)) (.ret (.bool false))) .fail) .fail) (.ret (.bool false))
theorem qQx (r:qR) (n k:Int) (t:qU):(tcall tbT qL5 qPO Tryz.f86 [.ref [.sl r .non,.int .i64 n],.int .i64 k,.str t]).flat=qDp r n k t:=by kernel_rfl
def qHO (r:qR) (n k:Int) (t:qU):Option PV:=(qDp r n k t).run
def qpn (r:qR) (n k:Int) (t:qU):Bool:=(qbQ (gVal (qHO r n k t)))
def qeS (r:qR) (n k:Int) (t:qU):Bool:=isW (qHO r n k t) (.bool (qpn r n k t))
def qBj:List PV→Tr PV|[.ref [.sl r .non,.int .i64 n],.int .i64 k,.str t]=>.ite (qeS r n k t) (.ret (.bool (qpn r n k t))) (.fail)|_=>.fail
theorem qrX (gl:Gl):SimP Tryz.prog gl 86 fun args=>(qBj args).run:=by
 refine SimP.of_flat (G:=qL5) (L:=qPO) qai (qNz gl ) qah  Tryz.func86 rfl (by rfl) (by kernel_rfl) (qac (by kernel_rfl)) ?_
 intro args x h;unfold qBj at h
 split at h
 ·exact (congrArg Tr.run (qQx _ _ _ _)).trans (qae h fun h=>by cases h)
 ·cases h
def qwf:GamT:=ofL [(86,.pure qBj)]
theorem qEz (gl:Gl):qam Tryz.prog gl (gam qwf):=(qaf (qrX gl) qag)
def qC9:LpsT:=fun r fr σ=>.fail
def qmY (r:qR) (n:Int):Tr PV:=let z1:=xStr r (nNat 0) 1;.ite (qeS (qad r) n 1 []) (.ite (bNot (qpn (qad r) n 1 [])) (.ret (.bool false)) (.ite (qas 0) (.ite (qbo [.int .i64 0,.str [],.int .i64 0,.int .i64 0,.str [],.int .i64 0] r (nNat 0)) (.ite (sEq z1 [98,97,115,101]) (.ret (.bool false)) (.ite (sEq z1 [118,105,101,119]) (.ret (.bool false)) (.ite (sEq z1 [111,110]) (.ret (.bool false)) (.ite (sEq z1 [110,111,116]) (.ret (.bool false)) (.ret (.bool true)))))) .fail) .fail)) .fail
theorem qKd (r:qR) (n:Int):(tcall tbT qwf qC9 Tryz.f148 [.ref [.sl r .non,.int .i64 n]]).flat=qmY r n:=by kernel_rfl
def qlX (r:qR) (n:Int):Option PV:=(qmY r n).run
def ql7 (r:qR) (n:Int):Bool:=(qbQ (gVal (qlX r n)))
def qjT (r:qR) (n:Int):Bool:=isW (qlX r n) (.bool (ql7 r n))
def qpI:List PV→Tr PV|[.ref [.sl r .non,.int .i64 n]]=>.ite (qjT r n) (.ret (.bool (ql7 r n))) (.fail)|_=>.fail
theorem qt3 (gl:Gl):SimP Tryz.prog gl 148 fun args=>(qpI args).run:=by
 refine SimP.of_flat (G:=qwf) (L:=qC9) qai (qEz gl ) qah  Tryz.func148 rfl (by rfl) (by kernel_rfl) (qac (by kernel_rfl)) ?_
 intro args x h;unfold qpI at h
 split at h
 ·exact (congrArg Tr.run (qKd _ _)).trans (qae h fun h=>by cases h)
 ·cases h
def qNB:GamT:=ofL []
theorem qMo (gl:Gl):qam Tryz.prog gl (gam qNB):=qag
def qPZ:LpsT:=fun r fr σ=>.fail
def qDX (r:qR) (n:Int):Tr (PR×Store):=let z1:qR:=[[.sl (qaa (qad r)) .non,.int .i64 n]];.ite (iLt 0 (xLen (qad r))) (.ite (qas 0) (.ite (qbo [.int .i64 0,.str [],.int .i64 0,.int .i64 0,.str [],.int .i64 0] (qad r) (nNat 0)) (.ret (PR.pan (.iface 172 (.agg [.int .i64 (xInt (qad r) (nNat 0) 5)])),Store.mk z1 [] [138])) .fail) .fail) (.ret (PR.pan (.iface 172 (.agg [.int .i64 n])),Store.mk z1 [] [138]))
theorem qQh (r:qR) (n:Int):(nrmM tbT qNB qPZ Tryz.f85 [.ptr 0 0] ⟨[[.sl r .non,.int .i64 n]],[],[138]⟩).flat=qDX r n:=by kernel_rfl
def qEL (r:qR) (n:Int):Option (PR×Store):=(qDX r n).run
def qAd (r:qR) (n:Int):Int:=(gInt (gAt (gCs (gAt (gCs (gOut (qak (qEL r n)) 0)) 0)) 0))
def qAP (r:qR) (n:Int):qR:=(gRow (gAt (gObj (qak (qEL r n)) 0) 0))
def qo7 (r:qR) (n:Int):Bool:=isW (qEL r n) ((.pan (.iface 172 (.agg [.int .i64 (qAd r n)]))),⟨[[.sl (qAP r n) .non,.int .i64 n]],[],[138]⟩)
def qed:List PV→Store→Tr (PR×Store)|[.ptr 0 0],⟨[[.sl r .non,.int .i64 n]],[],[138]⟩=>.ite (qo7 r n) (.ret ((.pan (.iface 172 (.agg [.int .i64 (qAd r n)]))),⟨[[.sl (qAP r n) .non,.int .i64 n]],[],[138]⟩)) (.fail)|_,_=>.fail
theorem qoh (gl:Gl):SimM Tryz.prog gl 85 fun args σ=>(qed args σ).run:=by
 refine SimM.of_nrm (G:=qNB) (L:=qPZ) qai (qMo gl ) qah Tryz.func85 rfl (by rfl) (by kernel_rfl) (qac (by kernel_rfl)) ?_
 intro args σ x h;unfold qed at h
 split at h
 ·exact (congrArg Tr.run (qQh _ _)).trans (qae h fun h=>by cases h)
 ·cases h
def qAi:GamT:=ofL []
theorem qFK (gl:Gl):qam Tryz.prog gl (gam qAi):=qag
def qIM:LpsT:=fun r fr σ=>.fail
def qvm (r:qR) (n:Int):Tr (PR×Store):=let z1:=qad r;let z2:=nNat 0;.ite (qas 0) (.ite (qbo [.int .i64 0,.str [],.int .i64 0,.int .i64 0,.str [],.int .i64 0] z1 z2) (.ite (qa1 (qas 1) true (nNat 1) (nXs z1) (nXs z1)) (.ite (qan z1 6) (.ret (PR.val (.agg [.int .i64 (xInt z1 z2 0),.str (xStr z1 z2 1),.int .i64 (xInt z1 z2 2),.int .i64 (xInt z1 z2 3),.str (xStr z1 z2 4),.int .i64 (xInt z1 z2 5)]),Store.mk [[.sl (qaa (xSub z1 (nNat 1) (nXs z1))) .non,.int .i64 n]] [] [138])) .fail) .fail) .fail) .fail
theorem qMO (r:qR) (n:Int):(nrmM tbT qAi qIM Tryz.f136 [.ptr 0 0] ⟨[[.sl r .non,.int .i64 n]],[],[138]⟩).flat=qvm r n:=by kernel_rfl
def qfG (r:qR) (n:Int):Option (PR×Store):=(qvm r n).run
def qwL (r:qR) (n:Int):Int:=(gInt (gAt (gCs (gOut (qak (qfG r n)) 0)) 0))
def qkF (r:qR) (n:Int):qU:=(gStr (gAt (gCs (gOut (qak (qfG r n)) 0)) 1))
def qmi (r:qR) (n:Int):Int:=(gInt (gAt (gCs (gOut (qak (qfG r n)) 0)) 2))
def qmF (r:qR) (n:Int):Int:=(gInt (gAt (gCs (gOut (qak (qfG r n)) 0)) 3))
def qlU (r:qR) (n:Int):qU:=(gStr (gAt (gCs (gOut (qak (qfG r n)) 0)) 4))
def qq7 (r:qR) (n:Int):Int:=(gInt (gAt (gCs (gOut (qak (qfG r n)) 0)) 5))
def qgX (r:qR) (n:Int):qR:=(gRow (gAt (gObj (qak (qfG r n)) 0) 0))
def qcT (r:qR) (n:Int):Bool:=isW (qfG r n) ((.val (.agg [.int .i64 (qwL r n),.str (qkF r n),.int .i64 (qmi r n),.int .i64 (qmF r n),.str (qlU r n),.int .i64 (qq7 r n)])),⟨[[.sl (qgX r n) .non,.int .i64 n]],[],[138]⟩)
def qid:List PV→Store→Tr (PR×Store)|[.ptr 0 0],⟨[[.sl r .non,.int .i64 n]],[],[138]⟩=>.ite (qcT r n) (.ret ((.val (.agg [.int .i64 (qwL r n),.str (qkF r n),.int .i64 (qmi r n),.int .i64 (qmF r n),.str (qlU r n),.int .i64 (qq7 r n)])),⟨[[.sl (qgX r n) .non,.int .i64 n]],[],[138]⟩)) (.fail)|_,_=>.fail
theorem qgd (gl:Gl):SimM Tryz.prog gl 136 fun args σ=>(qid args σ).run:=by
 refine SimM.of_nrm (G:=qAi) (L:=qIM) qai (qFK gl ) qah Tryz.func136 rfl (by rfl) (by kernel_rfl) (qac (by kernel_rfl)) ?_
 intro args σ x h;unfold qid at h
 split at h
 ·exact (congrArg Tr.run (qMO _ _)).trans (qae h fun h=>by cases h)
 ·cases h
def qCf:GamT:=ofL [(86,.pure qBj),(136,.may (frameT qid))]
theorem qHG (gl:Gl):qam Tryz.prog gl (gam qCf):=(qaf (qrX gl) (qaj (SimM.frameT (qgd gl)) qag))
def qIg:LpsT:=fun r fr σ=>.fail
def qpE (k:Int) (t:qU) (r:qR) (n:Int):Tr (PR×Store):=let z1:=qad (qad r);.ite (qeS z1 n k t) (.ite (bNot (qpn z1 n k t)) (.ret (PR.val (.bool false),Store.mk [[.sl (qaa (qad r)) .non,.int .i64 n]] [] [138])) (.ite (qcT z1 n) (.ret (PR.val (.bool true),Store.mk [[.sl (qaa (qaa (qgX z1 n))) .non,.int .i64 n]] [] [138])) .fail)) .fail
theorem qNe (k:Int) (t:qU) (r:qR) (n:Int):(nrmM tbT qCf qIg Tryz.f106 [.ptr 0 0,.int .i64 k,.str t] ⟨[[.sl r .non,.int .i64 n]],[],[138]⟩).flat=qpE k t r n:=by kernel_rfl
def qlG (k:Int) (t:qU) (r:qR) (n:Int):Option (PR×Store):=(qpE k t r n).run
def qbd (k:Int) (t:qU) (r:qR) (n:Int):Bool:=(qbQ (gOut (qak (qlG k t r n)) 0))
def qbh (k:Int) (t:qU) (r:qR) (n:Int):qR:=(gRow (gAt (gObj (qak (qlG k t r n)) 0) 0))
def qaN (k:Int) (t:qU) (r:qR) (n:Int):Bool:=isW (qlG k t r n) ((.val (.bool (qbd k t r n))),⟨[[.sl (qbh k t r n) .non,.int .i64 n]],[],[138]⟩)
def qcb:List PV→Store→Tr (PR×Store)|[.ptr 0 0,.int .i64 k,.str t],⟨[[.sl r .non,.int .i64 n]],[],[138]⟩=>.ite (qaN k t r n) (.ret ((.val (.bool (qbd k t r n))),⟨[[.sl (qbh k t r n) .non,.int .i64 n]],[],[138]⟩)) (.fail)|_,_=>.fail
theorem qbm (gl:Gl):SimM Tryz.prog gl 106 fun args σ=>(qcb args σ).run:=by
 refine SimM.of_nrm (G:=qCf) (L:=qIg) qai (qHG gl ) qah Tryz.func106 rfl (by rfl) (by kernel_rfl) (qac (by kernel_rfl)) ?_
 intro args σ x h;unfold qcb at h
 split at h
 ·exact (congrArg Tr.run (qNe _ _ _ _)).trans (qae h fun h=>by cases h)
 ·cases h
def qAl:GamT:=ofL [(85,.may (frameT qed)),(86,.pure qBj),(136,.may (frameT qid))]
theorem qIn (gl:Gl):qam Tryz.prog gl (gam qAl):=(qaj (SimM.frameT (qoh gl)) (qaf (qrX gl) (qaj (SimM.frameT (qgd gl)) qag)))
def qGO:LpsT:=fun r fr σ=>.fail
def qpL (k:Int) (t:qU) (r:qR) (n:Int):Tr (PR×Store):=let z1:=qad (qad r);.ite (qeS z1 n k t) (.ite (bNot (qpn z1 n k t)) (.ite (qo7 z1 n) (.ret (PR.pan (.iface 172 (.agg [.int .i64 (qAd z1 n)])),Store.mk [[.sl (qaa (qaa (qAP z1 n))) .non,.int .i64 n]] [] [138])) .fail) (.ite (qcT z1 n) (.ret (PR.val (.agg [.int .i64 (qwL z1 n),.str (qkF z1 n),.int .i64 (qmi z1 n),.int .i64 (qmF z1 n),.str (qlU z1 n),.int .i64 (qq7 z1 n)]),Store.mk [[.sl (qaa (qaa (qgX z1 n))) .non,.int .i64 n]] [] [138])) .fail)) .fail
theorem qOR (k:Int) (t:qU) (r:qR) (n:Int):(nrmM tbT qAl qGO Tryz.f150 [.ptr 0 0,.int .i64 k,.str t] ⟨[[.sl r .non,.int .i64 n]],[],[138]⟩).flat=qpL k t r n:=by kernel_rfl
def qcV (k:Int) (t:qU) (r:qR) (n:Int):Option (PR×Store):=(qpL k t r n).run
def qfR (k:Int) (t:qU) (r:qR) (n:Int):Int:=(gInt (gAt (gCs (gAt (gCs (gOut (qak (qcV k t r n)) 0)) 0)) 0))
def qf4 (k:Int) (t:qU) (r:qR) (n:Int):qR:=(gRow (gAt (gObj (qak (qcV k t r n)) 0) 0))
def qis (k:Int) (t:qU) (r:qR) (n:Int):Bool:=isW (qcV k t r n) ((.pan (.iface 172 (.agg [.int .i64 (qfR k t r n)]))),⟨[[.sl (qf4 k t r n) .non,.int .i64 n]],[],[138]⟩)
def qs1 (k:Int) (t:qU) (r:qR) (n:Int):Int:=(gInt (gAt (gCs (gOut (qak (qcV k t r n)) 0)) 0))
def qmh (k:Int) (t:qU) (r:qR) (n:Int):qU:=(gStr (gAt (gCs (gOut (qak (qcV k t r n)) 0)) 1))
def qoM (k:Int) (t:qU) (r:qR) (n:Int):Int:=(gInt (gAt (gCs (gOut (qak (qcV k t r n)) 0)) 2))
def qnU (k:Int) (t:qU) (r:qR) (n:Int):Int:=(gInt (gAt (gCs (gOut (qak (qcV k t r n)) 0)) 3))
def qoJ (k:Int) (t:qU) (r:qR) (n:Int):qU:=(gStr (gAt (gCs (gOut (qak (qcV k t r n)) 0)) 4))
def qoR (k:Int) (t:qU) (r:qR) (n:Int):Int:=(gInt (gAt (gCs (gOut (qak (qcV k t r n)) 0)) 5))
def qf8 (k:Int) (t:qU) (r:qR) (n:Int):qR:=(gRow (gAt (gObj (qak (qcV k t r n)) 0) 0))
def qie (k:Int) (t:qU) (r:qR) (n:Int):Bool:=isW (qcV k t r n) ((.val (.agg [.int .i64 (qs1 k t r n),.str (qmh k t r n),.int .i64 (qoM k t r n),.int .i64 (qnU k t r n),.str (qoJ k t r n),.int .i64 (qoR k t r n)])),⟨[[.sl (qf8 k t r n) .non,.int .i64 n]],[],[138]⟩)
def qsx:List PV→Store→Tr (PR×Store)|[.ptr 0 0,.int .i64 k,.str t],⟨[[.sl r .non,.int .i64 n]],[],[138]⟩=>.ite (qis k t r n) (.ret ((.pan (.iface 172 (.agg [.int .i64 (qfR k t r n)]))),⟨[[.sl (qf4 k t r n) .non,.int .i64 n]],[],[138]⟩)) (.ite (qie k t r n) (.ret ((.val (.agg [.int .i64 (qs1 k t r n),.str (qmh k t r n),.int .i64 (qoM k t r n),.int .i64 (qnU k t r n),.str (qoJ k t r n),.int .i64 (qoR k t r n)])),⟨[[.sl (qf8 k t r n) .non,.int .i64 n]],[],[138]⟩)) (.fail))|_,_=>.fail
theorem qrZ (gl:Gl):SimM Tryz.prog gl 150 fun args σ=>(qsx args σ).run:=by
 refine SimM.of_nrm (G:=qAl) (L:=qGO) qai (qIn gl ) qah Tryz.func150 rfl (by rfl) (by kernel_rfl) (qac (by kernel_rfl)) ?_
 intro args σ x h;unfold qsx at h
 split at h
 ·exact (congrArg Tr.run (qOR _ _ _ _)).trans (qae h fun h=>qae h fun h=>by cases h)
 ·cases h
def qAL:GamT:=ofL [(150,.may (frameT qsx))]
theorem qI1 (gl:Gl):qam Tryz.prog gl (gam qAL):=(qaj (SimM.frameT (qrZ gl)) qag)
def qIu:LpsT:=fun r fr σ=>.fail
def qxW (t:qU) (r:qR) (n:Int):Tr (PR×Store):=let z1:=qad (qad r);.ite (qis 6 t z1 n) (.ret (PR.pan (.iface 172 (.agg [.int .i64 (qfR 6 t z1 n)])),Store.mk [[.sl (qaa (qaa (qf4 6 t z1 n))) .non,.int .i64 n]] [] [138])) (.ite (qie 6 t z1 n) (.ret (PR.val (.tup []),Store.mk [[.sl (qaa (qaa (qf8 6 t z1 n))) .non,.int .i64 n]] [] [138])) .fail)
theorem qOr (t:qU) (r:qR) (n:Int):(nrmM tbT qAL qIu Tryz.f109 [.ptr 0 0,.str t] ⟨[[.sl r .non,.int .i64 n]],[],[138]⟩).flat=qxW t r n:=by kernel_rfl
def qlt (t:qU) (r:qR) (n:Int):Option (PR×Store):=(qxW t r n).run
def qbg (t:qU) (r:qR) (n:Int):Int:=(gInt (gAt (gCs (gAt (gCs (gOut (qak (qlt t r n)) 0)) 0)) 0))
def qbc (t:qU) (r:qR) (n:Int):qR:=(gRow (gAt (gObj (qak (qlt t r n)) 0) 0))
def qbn (t:qU) (r:qR) (n:Int):Bool:=isW (qlt t r n) ((.pan (.iface 172 (.agg [.int .i64 (qbg t r n)]))),⟨[[.sl (qbc t r n) .non,.int .i64 n]],[],[138]⟩)
def qbe (t:qU) (r:qR) (n:Int):qR:=(gRow (gAt (gObj (qak (qlt t r n)) 0) 0))
def qbq (t:qU) (r:qR) (n:Int):Bool:=isW (qlt t r n) ((.val (.tup [])),⟨[[.sl (qbe t r n) .non,.int .i64 n]],[],[138]⟩)
def qhR:List PV→Store→Tr (PR×Store)|[.ptr 0 0,.str t],⟨[[.sl r .non,.int .i64 n]],[],[138]⟩=>.ite (qbn t r n) (.ret ((.pan (.iface 172 (.agg [.int .i64 (qbg t r n)]))),⟨[[.sl (qbc t r n) .non,.int .i64 n]],[],[138]⟩)) (.ite (qbq t r n) (.ret ((.val (.tup [])),⟨[[.sl (qbe t r n) .non,.int .i64 n]],[],[138]⟩)) (.fail))|_,_=>.fail
theorem qeO (gl:Gl):SimM Tryz.prog gl 109 fun args σ=>(qhR args σ).run:=by
 refine SimM.of_nrm (G:=qAL) (L:=qIu) qai (qI1 gl ) qah Tryz.func109 rfl (by rfl) (by kernel_rfl) (qac (by kernel_rfl)) ?_
 intro args σ x h;unfold qhR at h
 split at h
 ·exact (congrArg Tr.run (qOr _ _ _)).trans (qae h fun h=>qae h fun h=>by cases h)
 ·cases h
def qCe:GamT:=ofL [(85,.may (frameT qed)),(136,.may (frameT qid)),(148,.pure qpI)]
theorem qHN (gl:Gl):qam Tryz.prog gl (gam qCe):=(qaj (SimM.frameT (qoh gl)) (qaj (SimM.frameT (qgd gl)) (qaf (qt3 gl) qag)))
def qGM:LpsT:=fun r fr σ=>.fail
def qqV (r:qR) (n:Int):Tr (PR×Store):=let z1:=qad (qad r);.ite (qjT z1 n) (.ite (bNot (ql7 z1 n)) (.ite (qo7 z1 n) (.ret (PR.pan (.iface 172 (.agg [.int .i64 (qAd z1 n)])),Store.mk [[.sl (qaa (qaa (qAP z1 n))) .non,.int .i64 n]] [] [138])) .fail) (.ite (qcT z1 n) (.ret (PR.val (.str (qkF z1 n)),Store.mk [[.sl (qaa (qaa (qgX z1 n))) .non,.int .i64 n]] [] [138])) .fail)) .fail
theorem qOc (r:qR) (n:Int):(nrmM tbT qCe qGM Tryz.f111 [.ptr 0 0] ⟨[[.sl r .non,.int .i64 n]],[],[138]⟩).flat=qqV r n:=by kernel_rfl
def qhp (r:qR) (n:Int):Option (PR×Store):=(qqV r n).run
def qf1 (r:qR) (n:Int):Int:=(gInt (gAt (gCs (gAt (gCs (gOut (qak (qhp r n)) 0)) 0)) 0))
def qge (r:qR) (n:Int):qR:=(gRow (gAt (gObj (qak (qhp r n)) 0) 0))
def qiA (r:qR) (n:Int):Bool:=isW (qhp r n) ((.pan (.iface 172 (.agg [.int .i64 (qf1 r n)]))),⟨[[.sl (qge r n) .non,.int .i64 n]],[],[138]⟩)
def qeH (r:qR) (n:Int):qU:=(gStr (gOut (qak (qhp r n)) 0))
def qga (r:qR) (n:Int):qR:=(gRow (gAt (gObj (qak (qhp r n)) 0) 0))
def qik (r:qR) (n:Int):Bool:=isW (qhp r n) ((.val (.str (qeH r n))),⟨[[.sl (qga r n) .non,.int .i64 n]],[],[138]⟩)
def qts:List PV→Store→Tr (PR×Store)|[.ptr 0 0],⟨[[.sl r .non,.int .i64 n]],[],[138]⟩=>.ite (qiA r n) (.ret ((.pan (.iface 172 (.agg [.int .i64 (qf1 r n)]))),⟨[[.sl (qge r n) .non,.int .i64 n]],[],[138]⟩)) (.ite (qik r n) (.ret ((.val (.str (qeH r n))),⟨[[.sl (qga r n) .non,.int .i64 n]],[],[138]⟩)) (.fail))|_,_=>.fail
theorem qrD (gl:Gl):SimM Tryz.prog gl 111 fun args σ=>(qts args σ).run:=by
 refine SimM.of_nrm (G:=qCe) (L:=qGM) qai (qHN gl ) qah Tryz.func111 rfl (by rfl) (by kernel_rfl) (qac (by kernel_rfl)) ?_
 intro args σ x h;unfold qts at h
 split at h
 ·exact (congrArg Tr.run (qOc _ _)).trans (qae h fun h=>qae h fun h=>by cases h)
 ·cases h
def qFJ:GamT:=ofL [(85,.may (frameT qed)),(106,.may (frameT qcb))]
theorem qKC (gl:Gl):qam Tryz.prog gl (gam qFJ):=(qaj (SimM.frameT (qoh gl)) (qaj (SimM.frameT (qbm gl)) qag))
def qLx:LpsT:=fun r fr σ=>.fail
def qsm (r:qR) (n:Int):Tr (PR×Store):=let z1:=qad (qad r);let z2:=qaa (qbh 1 [105,110,116] z1 n);let z3:=qaa (qbh 1 [115,121,109] (qad z2) n);.ite (qaN 1 [105,110,116] z1 n) (.ite (qbd 1 [105,110,116] z1 n) (.ret (PR.val (.int .i64 1),Store.mk [[.sl (qaa z2) .non,.int .i64 n]] [] [138])) (.ite (qaN 1 [115,121,109] (qad z2) n) (.ite (qbd 1 [115,121,109] (qad z2) n) (.ret (PR.val (.int .i64 2),Store.mk [[.sl (qaa z3) .non,.int .i64 n]] [] [138])) (.ite (qo7 (qad z3) n) (.ret (PR.pan (.iface 172 (.agg [.int .i64 (qAd (qad z3) n)])),Store.mk [[.sl (qaa (qaa (qAP (qad z3) n))) .non,.int .i64 n]] [] [138])) .fail)) .fail)) .fail
theorem qPc (r:qR) (n:Int):(nrmM tbT qFJ qLx Tryz.f138 [.ptr 0 0] ⟨[[.sl r .non,.int .i64 n]],[],[138]⟩).flat=qsm r n:=by kernel_rfl
def qkB (r:qR) (n:Int):Option (PR×Store):=(qsm r n).run
def qha (r:qR) (n:Int):Int:=(gInt (gOut (qak (qkB r n)) 0))
def qgI (r:qR) (n:Int):qR:=(gRow (gAt (gObj (qak (qkB r n)) 0) 0))
def qjp (r:qR) (n:Int):Bool:=isW (qkB r n) ((.val (.int .i64 (qha r n))),⟨[[.sl (qgI r n) .non,.int .i64 n]],[],[138]⟩)
def qhG (r:qR) (n:Int):Int:=(gInt (gAt (gCs (gAt (gCs (gOut (qak (qkB r n)) 0)) 0)) 0))
def qgL (r:qR) (n:Int):qR:=(gRow (gAt (gObj (qak (qkB r n)) 0) 0))
def qkv (r:qR) (n:Int):Bool:=isW (qkB r n) ((.pan (.iface 172 (.agg [.int .i64 (qhG r n)]))),⟨[[.sl (qgL r n) .non,.int .i64 n]],[],[138]⟩)
def quU:List PV→Store→Tr (PR×Store)|[.ptr 0 0],⟨[[.sl r .non,.int .i64 n]],[],[138]⟩=>.ite (qjp r n) (.ret ((.val (.int .i64 (qha r n))),⟨[[.sl (qgI r n) .non,.int .i64 n]],[],[138]⟩)) (.ite (qkv r n) (.ret ((.pan (.iface 172 (.agg [.int .i64 (qhG r n)]))),⟨[[.sl (qgL r n) .non,.int .i64 n]],[],[138]⟩)) (.fail))|_,_=>.fail
theorem qq5 (gl:Gl):SimM Tryz.prog gl 138 fun args σ=>(quU args σ).run:=by
 refine SimM.of_nrm (G:=qFJ) (L:=qLx) qai (qKC gl ) qah Tryz.func138 rfl (by rfl) (by kernel_rfl) (qac (by kernel_rfl)) ?_
 intro args σ x h;unfold quU at h
 split at h
 ·exact (congrArg Tr.run (qPc _ _)).trans (qae h fun h=>qae h fun h=>by cases h)
 ·cases h
def qAQ:GamT:=ofL [(86,.pure qBj),(136,.may (frameT qid)),(150,.may (frameT qsx))]
theorem qF4 (gl:Gl):qam Tryz.prog gl (gam qAQ):=(qaf (qrX gl) (qaj (SimM.frameT (qgd gl)) (qaj (SimM.frameT (qrZ gl)) qag)))
def qIW:LpsT:=fun r fr σ=>.fail
def qhc (r:qR) (n:Int):Tr (PR×Store):=let z1:=qad (qad r);let z2:qR:=[[.sl (qaa (qaa (qgX z1 n))) .non,.int .i64 n]];let z3:Tr (PR×Store):=.ite (qcT z1 n) (.ret (PR.val (.agg [.int .i64 2,.str [],.int .i64 (qmi z1 n),.int .i64 (qmF z1 n),.str (qlU z1 n)]),Store.mk z2 [] [138])) .fail;.ite (qeS z1 n 2 []) (.ite (qpn z1 n 2 []) (.ite (qcT z1 n) (.ret (PR.val (.agg [.int .i64 1,.str (qkF z1 n),.int .i64 0,.int .i64 0,.str []]),Store.mk z2 [] [138])) .fail) (.ite (qeS z1 n 4 []) (.ite (qpn z1 n 4 []) z3 (.ite (qeS z1 n 5 []) (.ite (qpn z1 n 5 []) z3 (.ite (qis 3 [] z1 n) (.ret (PR.pan (.iface 172 (.agg [.int .i64 (qfR 3 [] z1 n)])),Store.mk [[.sl (qaa (qaa (qf4 3 [] z1 n))) .non,.int .i64 n]] [] [138])) (.ite (qie 3 [] z1 n) (.ret (PR.val (.agg [.int .i64 3,.str [],.int .i64 0,.int .i64 0,.str []]),Store.mk [[.sl (qaa (qaa (qf8 3 [] z1 n))) .non,.int .i64 n]] [] [138])) .fail))) .fail)) .fail)) .fail
theorem qND (r:qR) (n:Int):(nrmM tbT qAQ qIW Tryz.f113 [.ptr 0 0] ⟨[[.sl r .non,.int .i64 n]],[],[138]⟩).flat=qhc r n:=by kernel_rfl
def qb8 (r:qR) (n:Int):Option (PR×Store):=(qhc r n).run
def qcR (r:qR) (n:Int):Int:=(gInt (gAt (gCs (gOut (qak (qb8 r n)) 0)) 0))
def qcQ (r:qR) (n:Int):qU:=(gStr (gAt (gCs (gOut (qak (qb8 r n)) 0)) 1))
def qb1 (r:qR) (n:Int):Int:=(gInt (gAt (gCs (gOut (qak (qb8 r n)) 0)) 2))
def qb6 (r:qR) (n:Int):Int:=(gInt (gAt (gCs (gOut (qak (qb8 r n)) 0)) 3))
def qbT (r:qR) (n:Int):qU:=(gStr (gAt (gCs (gOut (qak (qb8 r n)) 0)) 4))
def qdS (r:qR) (n:Int):qR:=(gRow (gAt (gObj (qak (qb8 r n)) 0) 0))
def qeX (r:qR) (n:Int):Bool:=isW (qb8 r n) ((.val (.agg [.int .i64 (qcR r n),.str (qcQ r n),.int .i64 (qb1 r n),.int .i64 (qb6 r n),.str (qbT r n)])),⟨[[.sl (qdS r n) .non,.int .i64 n]],[],[138]⟩)
def qdJ (r:qR) (n:Int):Int:=(gInt (gAt (gCs (gAt (gCs (gOut (qak (qb8 r n)) 0)) 0)) 0))
def qdO (r:qR) (n:Int):qR:=(gRow (gAt (gObj (qak (qb8 r n)) 0) 0))
def qeB (r:qR) (n:Int):Bool:=isW (qb8 r n) ((.pan (.iface 172 (.agg [.int .i64 (qdJ r n)]))),⟨[[.sl (qdO r n) .non,.int .i64 n]],[],[138]⟩)
def qom:List PV→Store→Tr (PR×Store)|[.ptr 0 0],⟨[[.sl r .non,.int .i64 n]],[],[138]⟩=>.ite (qeX r n) (.ret ((.val (.agg [.int .i64 (qcR r n),.str (qcQ r n),.int .i64 (qb1 r n),.int .i64 (qb6 r n),.str (qbT r n)])),⟨[[.sl (qdS r n) .non,.int .i64 n]],[],[138]⟩)) (.ite (qeB r n) (.ret ((.pan (.iface 172 (.agg [.int .i64 (qdJ r n)]))),⟨[[.sl (qdO r n) .non,.int .i64 n]],[],[138]⟩)) (.fail))|_,_=>.fail
theorem qmm (gl:Gl):SimM Tryz.prog gl 113 fun args σ=>(qom args σ).run:=by
 refine SimM.of_nrm (G:=qAQ) (L:=qIW) qai (qF4 gl ) qah Tryz.func113 rfl (by rfl) (by kernel_rfl) (qac (by kernel_rfl)) ?_
 intro args σ x h;unfold qom at h
 split at h
 ·exact (congrArg Tr.run (qND _ _)).trans (qae h fun h=>qae h fun h=>by cases h)
 ·cases h
def qI0:GamT:=ofL [(85,.may (frameT qed)),(106,.may (frameT qcb))]
theorem qHq (gl:Gl):qam Tryz.prog gl (gam qI0):=(qaj (SimM.frameT (qoh gl)) (qaj (SimM.frameT (qbm gl)) qag))
def qDE:Code:=qc3 Tryz.f149 2
def qDO:LI:=⟨20,[0,5,6,7],fun e=>match e with|.ret=>[2]|.exit 0=>[0]|_=>[],false⟩
def qBy:LpsT:=fun r fr σ=>.fail
def qsA (vs:List PV) (σ:Store):Option (PExit×List PV×Store):=lval (lstep tbT qI0 qBy qDE qDO) vs σ
def qsZ (r:qR) (n n2:Int) (r2:qR) (n3:Int):Tr LR:=let z1:=xStr r (nNat n2) 0;let z2:Store:=Store.mk [[.sl (qaa (qbh 6 z1 (qad r2) n3)) .non,.int .i64 n3]] [] [138];.ite (iLt n2 n) (.ite (qas n2) (.ite (qbo [.str []] r (nNat n2)) (.ite (qaN 6 z1 (qad r2) n3) (.ite (qbd 6 z1 (qad r2) n3) (.ret (.out .ret [.int .i64 (iAdd .i64 n2 1)] z2)) (.ret (.next [.ptr 0 0,.sl r .full,.int .i64 n,.int .i64 (iAdd .i64 n2 1)] z2))) .fail) .fail) .fail) (.ret (.out (.exit 0) [.ptr 0 0] (Store.mk [[.sl r2 .non,.int .i64 n3]] [] [138])))
theorem qPW (r:qR) (n n2:Int) (r2:qR) (n3:Int):lstep tbT qI0 qBy qDE qDO [.ptr 0 0,.sl r .full,.int .i64 n,.int .i64 n2] ⟨[[.sl r2 .non,.int .i64 n3]],[],[138]⟩=qsZ r n n2 r2 n3:=by kernel_rfl
theorem qGc (r:qR) (n n2:Int) (r2:qR) (n3:Int):qsA [.ptr 0 0,.sl r .full,.int .i64 n,.int .i64 n2] ⟨[[.sl r2 .non,.int .i64 n3]],[],[138]⟩=lnext qsA (qsZ r n n2 r2 n3).run:=by unfold qsA;rw [qaJ,qPW]
def qrV (r:qR) (n n2:Int) (r2:qR) (n3:Int):Option (PExit×List PV×Store):=qsA [.ptr 0 0,.sl r .full,.int .i64 n,.int .i64 n2] ⟨[[.sl r2 .non,.int .i64 n3]],[],[138]⟩
def qq8 (r:qR) (n n2:Int) (r2:qR) (n3:Int):Int:=(gInt (gOut (qrV r n n2 r2 n3) 0))
def qrx (r:qR) (n n2:Int) (r2:qR) (n3:Int):qR:=(gRow (gAt (gObj (qrV r n n2 r2 n3) 0) 0))
def qxA (r:qR) (n n2:Int) (r2:qR) (n3:Int):Bool:=isW (qrV r n n2 r2 n3) (.ret,[.int .i64 (qq8 r n n2 r2 n3)],⟨[[.sl (qrx r n n2 r2 n3) .non,.int .i64 n3]],[],[138]⟩)
def qqt (r:qR) (n n2:Int) (r2:qR) (n3:Int):qR:=(gRow (gAt (gObj (qrV r n n2 r2 n3) 0) 0))
def qvD (r:qR) (n n2:Int) (r2:qR) (n3:Int):Bool:=isW (qrV r n n2 r2 n3) ((.exit 0),[.ptr 0 0],⟨[[.sl (qqt r n n2 r2 n3) .non,.int .i64 n3]],[],[138]⟩)
def qmu:List PV→Store→Tr (PExit×List PV×Store)|[.ptr 0 0,.sl r .full,.int .i64 n,.int .i64 n2],⟨[[.sl r2 .non,.int .i64 n3]],[],[138]⟩=>.ite (qxA r n n2 r2 n3) (.ret (.ret,[.int .i64 (qq8 r n n2 r2 n3)],⟨[[.sl (qrx r n n2 r2 n3) .non,.int .i64 n3]],[],[138]⟩)) (.ite (qvD r n n2 r2 n3) (.ret ((.exit 0),[.ptr 0 0],⟨[[.sl (qqt r n n2 r2 n3) .non,.int .i64 n3]],[],[138]⟩)) (.fail))|_,_=>.fail
theorem qLY:∀ vs σ r,(qmu vs σ).run=some r→qsA vs σ=some r:=by
 intro vs σ r h;unfold qmu at h
 split at h
 ·exact qae h fun h=>qae h fun h=>by cases h
 ·cases h
theorem qG1 (gl:Gl):∀ fr σ e fr' σ',(orc qDO qmu fr σ).run=some (e,fr',σ')→LDoes Tryz.prog gl qDE fr σ e fr' σ':=qbu qai (qHq gl ) qah (L:=qBy) (qac (by kernel_rfl)) (by kernel_rfl) qLY
def qOP:LpsT:=fun r fr σ=>bif Nat.beq r 2 then orc qDO qmu fr σ else .fail
def qCD (r:qR) (n:Int):Tr (PR×Store):=let z1:qR:=[[.str [61]],[.str [33,61]],[.str [60]],[.str [60,61]],[.str [62]],[.str [62,61]]];let z2:=xLen z1;let z3:=qad r;let z4:=qad (qqt z1 z2 0 z3 n);.ite (qxA z1 z2 0 z3 n) (.ret (PR.val (.int .i64 (qq8 z1 z2 0 z3 n)),Store.mk [[.sl (qaa (qrx z1 z2 0 z3 n)) .non,.int .i64 n]] [] [138])) (.ite (qvD z1 z2 0 z3 n) (.ite (qo7 z4 n) (.ret (PR.pan (.iface 172 (.agg [.int .i64 (qAd z4 n)])),Store.mk [[.sl (qaa (qaa (qAP z4 n))) .non,.int .i64 n]] [] [138])) .fail) .fail)
theorem qQs (r:qR) (n:Int):(nrmM tbT qI0 qOP Tryz.f149 [.ptr 0 0] ⟨[[.sl r .non,.int .i64 n]],[],[138]⟩).flat=qCD r n:=by kernel_rfl
def qtK (r:qR) (n:Int):Option (PR×Store):=(qCD r n).run
def qvC (r:qR) (n:Int):Int:=(gInt (gOut (qak (qtK r n)) 0))
def qww (r:qR) (n:Int):qR:=(gRow (gAt (gObj (qak (qtK r n)) 0) 0))
def qCp (r:qR) (n:Int):Bool:=isW (qtK r n) ((.val (.int .i64 (qvC r n))),⟨[[.sl (qww r n) .non,.int .i64 n]],[],[138]⟩)
def qx2 (r:qR) (n:Int):Int:=(gInt (gAt (gCs (gAt (gCs (gOut (qak (qtK r n)) 0)) 0)) 0))
def qwc (r:qR) (n:Int):qR:=(gRow (gAt (gObj (qak (qtK r n)) 0) 0))
def qCo (r:qR) (n:Int):Bool:=isW (qtK r n) ((.pan (.iface 172 (.agg [.int .i64 (qx2 r n)]))),⟨[[.sl (qwc r n) .non,.int .i64 n]],[],[138]⟩)
def qNZ:List PV→Store→Tr (PR×Store)|[.ptr 0 0],⟨[[.sl r .non,.int .i64 n]],[],[138]⟩=>.ite (qCp r n) (.ret ((.val (.int .i64 (qvC r n))),⟨[[.sl (qww r n) .non,.int .i64 n]],[],[138]⟩)) (.ite (qCo r n) (.ret ((.pan (.iface 172 (.agg [.int .i64 (qx2 r n)]))),⟨[[.sl (qwc r n) .non,.int .i64 n]],[],[138]⟩)) (.fail))|_,_=>.fail
theorem qN3 (gl:Gl):SimM Tryz.prog gl 149 fun args σ=>(qNZ args σ).run:=by
 refine SimM.of_nrm (G:=qI0) (L:=qOP) qai (qHq gl ) qah Tryz.func149 rfl (by rfl) (by kernel_rfl) (qax (L:=lps qOP) [(2,qDE)] (by kernel_rfl) (List.forall_mem_cons.2 ⟨fun fr σ e fr' σ' h=>qG1 gl  fr σ e fr' σ' h,(List.forall_mem_nil _)⟩)) ?_
 intro args σ x h;unfold qNZ at h
 split at h
 ·exact (congrArg Tr.run (qQs _ _)).trans (qae h fun h=>qae h fun h=>by cases h)
 ·cases h
def qEu:GamT:=ofL [(106,.may (frameT qcb)),(113,.may (frameT qom)),(qc6,.flag)]
theorem qH0 (gl:Gl):qam Tryz.prog gl (gam qEu):=(qaj (SimM.frameT (qbm gl)) (qaj (SimM.frameT (qmm gl)) (qbp qag)))
def qz2:Code:=qc3 Tryz.f151 2
def qyU:LI:=⟨17,[0,1,5],fun e=>match e with|.exit 0=>[5]|_=>[],false⟩
def qw5:LpsT:=fun r fr σ=>.fail
def qhW (vs:List PV) (σ:Store):Option (PExit×List PV×Store):=lval (lstep tbT qEu qw5 qz2 qyU) vs σ
def qsD (l r:qR) (n:Int):Tr LR:=let z1:=qaa (qbh 6 [44] (qad r) n);let z2:=qad z1;let z3:qR:=[[.int .i64 (qcR z2 n),.str (qcQ z2 n),.int .i64 (qb1 z2 n),.int .i64 (qb6 z2 n),.str (qbT z2 n)]];.ite (qaN 6 [44] (qad r) n) (.ite (qbd 6 [44] (qad r) n) (.ite (qeX z2 n) (.ite (qaz l z3 56) (.ite (qar z3 5) (.ite (qan l 5) (.ret (.next [.ptr 0 0,.mth 113 [.ptr 0 0],.sl (xApp l z3) (.tok 0)] (Store.mk [[.sl (qaa (qdS z2 n)) .non,.int .i64 n]] [(nXs (xApp l z3),5,94)] [138]))) .fail) .fail) .fail) (.ite (qeB z2 n) (.ret (.out (.pan (.iface 172 (.agg [.int .i64 (qdJ z2 n)]))) [] (Store.mk [[.sl (qaa (qdO z2 n)) .non,.int .i64 n]] [] [138]))) .fail)) (.ret (.out (.exit 0) [.sl l .full] (Store.mk [[.sl z1 .non,.int .i64 n]] [] [138])))) .fail
theorem qPr (l r:qR) (n:Int):lstep tbT qEu qw5 qz2 qyU [.ptr 0 0,.mth 113 [.ptr 0 0],.sl l .full] ⟨[[.sl r .non,.int .i64 n]],[],[138]⟩=qsD l r n:=by kernel_rfl
theorem qP5 (l r:qR) (n:Int):qhW [.ptr 0 0,.mth 113 [.ptr 0 0],.sl l .full] ⟨[[.sl r .non,.int .i64 n]],[],[138]⟩=lnext qhW (qsD l r n).run:=by unfold qhW;rw [qaJ,qPr]
def qnS (l r:qR) (n:Int) (k:Nat):Tr LR:=let z1:=qaa (qbh 6 [44] (qad r) n);let z2:=qad z1;let z3:qR:=[[.int .i64 (qcR z2 n),.str (qcQ z2 n),.int .i64 (qb1 z2 n),.int .i64 (qb6 z2 n),.str (qbT z2 n)]];.ite (qaN 6 [44] (qad r) n) (.ite (qbd 6 [44] (qad r) n) (.ite (qeX z2 n) (.ite (qaz l z3 56) (.ite (qar z3 5) (.ite (qan l 5) (.ite (nEq k (nXs l)) (.ret (.next [.ptr 0 0,.mth 113 [.ptr 0 0],.sl (xApp l z3) (.tok 0)] (Store.mk [[.sl (qaa (qdS z2 n)) .non,.int .i64 n]] [(nXs (xApp l z3),5,94)] [138]))) .fail) .fail) .fail) .fail) (.ite (qeB z2 n) (.ret (.out (.pan (.iface 172 (.agg [.int .i64 (qdJ z2 n)]))) [] (Store.mk [[.sl (qaa (qdO z2 n)) .non,.int .i64 n]] [(k,5,94)] [138]))) .fail)) (.ret (.out (.exit 0) [.sl l (.tok 0)] (Store.mk [[.sl z1 .non,.int .i64 n]] [(k,5,94)] [138])))) .fail
theorem qMk (l r:qR) (n:Int) (k:Nat):lstep tbT qEu qw5 qz2 qyU [.ptr 0 0,.mth 113 [.ptr 0 0],.sl l (.tok 0)] ⟨[[.sl r .non,.int .i64 n]],[(k,5,94)],[138]⟩=qnS l r n k:=by kernel_rfl
theorem qL0 (l r:qR) (n:Int) (k:Nat):qhW [.ptr 0 0,.mth 113 [.ptr 0 0],.sl l (.tok 0)] ⟨[[.sl r .non,.int .i64 n]],[(k,5,94)],[138]⟩=lnext qhW (qnS l r n k).run:=by unfold qhW;rw [qaJ,qMk]
def qd1 (l r:qR) (n:Int):Option (PExit×List PV×Store):=qhW [.ptr 0 0,.mth 113 [.ptr 0 0],.sl l .full] ⟨[[.sl r .non,.int .i64 n]],[],[138]⟩
def qrk (l r:qR) (n:Int):Int:=(gInt (gAt (gCs (gAt (gCs (gPan (qd1 l r n))) 0)) 0))
def qq9 (l r:qR) (n:Int):qR:=(gRow (gAt (gObj (qd1 l r n) 0) 0))
def qwB (l r:qR) (n:Int):Bool:=isW (qd1 l r n) ((.pan (.iface 172 (.agg [.int .i64 (qrk l r n)]))),[],⟨[[.sl (qq9 l r n) .non,.int .i64 n]],[],[138]⟩)
def qrr (l r:qR) (n:Int):qR:=(gRow (gOut (qd1 l r n) 0))
def qqr (l r:qR) (n:Int):qR:=(gRow (gAt (gObj (qd1 l r n) 0) 0))
def qv9 (l r:qR) (n:Int):Bool:=isW (qd1 l r n) ((.exit 0),[.sl (qrr l r n) .full],⟨[[.sl (qqr l r n) .non,.int .i64 n]],[],[138]⟩)
def qqn (l r:qR) (n:Int):Int:=(gInt (gAt (gCs (gAt (gCs (gPan (qd1 l r n))) 0)) 0))
def qqD (l r:qR) (n:Int):qR:=(gRow (gAt (gObj (qd1 l r n) 0) 0))
def qvS (l r:qR) (n:Int):Nat:=(gTok (qd1 l r n) 0)
def qxH (l r:qR) (n:Int):Bool:=isW (qd1 l r n) ((.pan (.iface 172 (.agg [.int .i64 (qqn l r n)]))),[],⟨[[.sl (qqD l r n) .non,.int .i64 n]],[((qvS l r n),5,94)],[138]⟩)
def qqd (l r:qR) (n:Int):qR:=(gRow (gOut (qd1 l r n) 0))
def qp9 (l r:qR) (n:Int):qR:=(gRow (gAt (gObj (qd1 l r n) 0) 0))
def qxT (l r:qR) (n:Int):Nat:=(gTok (qd1 l r n) 0)
def qxX (l r:qR) (n:Int):Bool:=isW (qd1 l r n) ((.exit 0),[.sl (qqd l r n) (.tok 0)],⟨[[.sl (qp9 l r n) .non,.int .i64 n]],[((qxT l r n),5,94)],[138]⟩)
def qmP:List PV→Store→Tr (PExit×List PV×Store)|[.ptr 0 0,.mth 113 [.ptr 0 0],.sl l .full],⟨[[.sl r .non,.int .i64 n]],[],[138]⟩=>.ite (qwB l r n) (.ret ((.pan (.iface 172 (.agg [.int .i64 (qrk l r n)]))),[],⟨[[.sl (qq9 l r n) .non,.int .i64 n]],[],[138]⟩)) (.ite (qv9 l r n) (.ret ((.exit 0),[.sl (qrr l r n) .full],⟨[[.sl (qqr l r n) .non,.int .i64 n]],[],[138]⟩)) (.ite (qxH l r n) (.ret ((.pan (.iface 172 (.agg [.int .i64 (qqn l r n)]))),[],⟨[[.sl (qqD l r n) .non,.int .i64 n]],[((qvS l r n),5,94)],[138]⟩)) (.ite (qxX l r n) (.ret ((.exit 0),[.sl (qqd l r n) (.tok 0)],⟨[[.sl (qp9 l r n) .non,.int .i64 n]],[((qxT l r n),5,94)],[138]⟩)) (.fail))))|_,_=>.fail
theorem qMy:∀ vs σ r,(qmP vs σ).run=some r→qhW vs σ=some r:=by
 intro vs σ r h;unfold qmP at h
 split at h
 ·exact qae h fun h=>qae h fun h=>qae h fun h=>qae h fun h=>by cases h
 ·cases h
theorem qGJ (gl:Gl):∀ fr σ e fr' σ',(orc qyU qmP fr σ).run=some (e,fr',σ')→LDoes Tryz.prog gl qz2 fr σ e fr' σ':=qbu qai (qH0 gl ) qah (L:=qw5) (qac (by kernel_rfl)) (by kernel_rfl) qMy
def qOV:LpsT:=fun r fr σ=>bif Nat.beq r 2 then orc qyU qmP fr σ else .fail
def qzt (r:qR) (n:Int):Tr (PR×Store):=let z1:=qad (qad r);let z2:qR:=[[.int .i64 (qcR z1 n),.str (qcQ z1 n),.int .i64 (qb1 z1 n),.int .i64 (qb6 z1 n),.str (qbT z1 n)]];let z3:=qaa (qdS z1 n);.ite (qeX z1 n) (.ite (qwB z2 z3 n) (.ret (PR.pan (.iface 172 (.agg [.int .i64 (qrk z2 z3 n)])),Store.mk [[.sl (qaa (qq9 z2 z3 n)) .non,.int .i64 n]] [] [138])) (.ite (qv9 z2 z3 n) (.ret (PR.val (.sl (qaa (qrr z2 z3 n)) .non),Store.mk [[.sl (qaa (qqr z2 z3 n)) .non,.int .i64 n]] [] [138])) (.ite (qxH z2 z3 n) (.ret (PR.pan (.iface 172 (.agg [.int .i64 (qqn z2 z3 n)])),Store.mk [[.sl (qaa (qqD z2 z3 n)) .non,.int .i64 n]] [] [138])) (.ite (qxX z2 z3 n) (.ret (PR.val (.sl (qaa (qqd z2 z3 n)) .non),Store.mk [[.sl (qaa (qp9 z2 z3 n)) .non,.int .i64 n]] [] [138])) .fail)))) (.ite (qeB z1 n) (.ret (PR.pan (.iface 172 (.agg [.int .i64 (qdJ z1 n)])),Store.mk [[.sl (qaa (qaa (qdO z1 n))) .non,.int .i64 n]] [] [138])) .fail)
theorem qQB (r:qR) (n:Int):(nrmM tbT qEu qOV Tryz.f151 [.ptr 0 0,.mth 113 [.ptr 0 0]] ⟨[[.sl r .non,.int .i64 n]],[],[138]⟩).flat=qzt r n:=by kernel_rfl
def qtX (r:qR) (n:Int):Option (PR×Store):=(qzt r n).run
def qxt (r:qR) (n:Int):Int:=(gInt (gAt (gCs (gAt (gCs (gOut (qak (qtX r n)) 0)) 0)) 0))
def qxY (r:qR) (n:Int):qR:=(gRow (gAt (gObj (qak (qtX r n)) 0) 0))
def qAD (r:qR) (n:Int):Bool:=isW (qtX r n) ((.pan (.iface 172 (.agg [.int .i64 (qxt r n)]))),⟨[[.sl (qxY r n) .non,.int .i64 n]],[],[138]⟩)
def qvP (r:qR) (n:Int):qR:=(gRow (gOut (qak (qtX r n)) 0))
def qqC (r:qR) (n:Int):qR:=(gRow (gAt (gObj (qak (qtX r n)) 0) 0))
def qB7 (r:qR) (n:Int):Bool:=isW (qtX r n) ((.val (.sl (qvP r n) .non)),⟨[[.sl (qqC r n) .non,.int .i64 n]],[],[138]⟩)
def qOm:List PV→Store→Tr (PR×Store)|[.ptr 0 0,.mth 113 [.ptr 0 0]],⟨[[.sl r .non,.int .i64 n]],[],[138]⟩=>.ite (qAD r n) (.ret ((.pan (.iface 172 (.agg [.int .i64 (qxt r n)]))),⟨[[.sl (qxY r n) .non,.int .i64 n]],[],[138]⟩)) (.ite (qB7 r n) (.ret ((.val (.sl (qvP r n) .non)),⟨[[.sl (qqC r n) .non,.int .i64 n]],[],[138]⟩)) (.fail))|_,_=>.fail
theorem qNS (gl:Gl):SimM Tryz.prog gl 151 fun args σ=>(qOm args σ).run:=by
 refine SimM.of_nrm (G:=qEu) (L:=qOV) qai (qH0 gl ) qah Tryz.func151 rfl (by rfl) (by kernel_rfl) (qax (L:=lps qOV) [(2,qz2)] (by kernel_rfl) (List.forall_mem_cons.2 ⟨fun fr σ e fr' σ' h=>qGJ gl  fr σ e fr' σ' h,(List.forall_mem_nil _)⟩)) ?_
 intro args σ x h;unfold qOm at h
 split at h
 ·exact (congrArg Tr.run (qQB _ _)).trans (qae h fun h=>qae h fun h=>by cases h)
 ·cases h
def qMr:GamT:=ofL [(106,.may (frameT qcb)),(109,.may (frameT qhR)),(113,.may (frameT qom)),(151,.may (frameT qOm)),(qc6,.flag)]
theorem qOf (gl:Gl):qam Tryz.prog gl (gam qMr):=(qaj (SimM.frameT (qbm gl)) (qaj (SimM.frameT (qeO gl)) (qaj (SimM.frameT (qmm gl)) (qaj (SimM.frameT (qNS gl)) (qbp qag)))))
def qO3:LpsT:=fun r fr σ=>.fail
def qr3 (r:qR) (n:Int):Tr (PR×Store):=let z1:=qad (qad r);let z2:=qad (qaa (qbe [40] z1 n));let z3:=qaa (qbh 6 [41] z2 n);let z4:=qad z3;let z5:=qad (qaa (qqC z4 n));.ite (qbn [40] z1 n) (.ret (PR.pan (.iface 172 (.agg [.int .i64 (qbg [40] z1 n)])),Store.mk [[.sl (qaa (qaa (qbc [40] z1 n))) .non,.int .i64 n]] [] [138])) (.ite (qbq [40] z1 n) (.ite (qaN 6 [41] z2 n) (.ite (qbd 6 [41] z2 n) (.ret (PR.val (.sl [] .non),Store.mk [[.sl (qaa z3) .non,.int .i64 n]] [] [138])) (.ite (qAD z4 n) (.ret (PR.pan (.iface 172 (.agg [.int .i64 (qxt z4 n)])),Store.mk [[.sl (qaa (qaa (qxY z4 n))) .non,.int .i64 n]] [] [138])) (.ite (qB7 z4 n) (.ite (qbn [41] z5 n) (.ret (PR.pan (.iface 172 (.agg [.int .i64 (qbg [41] z5 n)])),Store.mk [[.sl (qaa (qaa (qbc [41] z5 n))) .non,.int .i64 n]] [] [138])) (.ite (qbq [41] z5 n) (.ret (PR.val (.sl (qaa (qaa (qvP z4 n))) .non),Store.mk [[.sl (qaa (qaa (qbe [41] z5 n))) .non,.int .i64 n]] [] [138])) .fail)) .fail))) .fail) .fail)
theorem qQi (r:qR) (n:Int):(nrmM tbT qMr qO3 Tryz.f112 [.ptr 0 0,.mth 113 [.ptr 0 0]] ⟨[[.sl r .non,.int .i64 n]],[],[138]⟩).flat=qr3 r n:=by kernel_rfl
def qpt (r:qR) (n:Int):Option (PR×Store):=(qr3 r n).run
def qvt (r:qR) (n:Int):Int:=(gInt (gAt (gCs (gAt (gCs (gOut (qak (qpt r n)) 0)) 0)) 0))
def qxw (r:qR) (n:Int):qR:=(gRow (gAt (gObj (qak (qpt r n)) 0) 0))
def qCi (r:qR) (n:Int):Bool:=isW (qpt r n) ((.pan (.iface 172 (.agg [.int .i64 (qvt r n)]))),⟨[[.sl (qxw r n) .non,.int .i64 n]],[],[138]⟩)
def qv3 (r:qR) (n:Int):qR:=(gRow (gOut (qak (qpt r n)) 0))
def qrs (r:qR) (n:Int):qR:=(gRow (gAt (gObj (qak (qpt r n)) 0) 0))
def qBN (r:qR) (n:Int):Bool:=isW (qpt r n) ((.val (.sl (qv3 r n) .non)),⟨[[.sl (qrs r n) .non,.int .i64 n]],[],[138]⟩)
def qMG:List PV→Store→Tr (PR×Store)|[.ptr 0 0,.mth 113 [.ptr 0 0]],⟨[[.sl r .non,.int .i64 n]],[],[138]⟩=>.ite (qCi r n) (.ret ((.pan (.iface 172 (.agg [.int .i64 (qvt r n)]))),⟨[[.sl (qxw r n) .non,.int .i64 n]],[],[138]⟩)) (.ite (qBN r n) (.ret ((.val (.sl (qv3 r n) .non)),⟨[[.sl (qrs r n) .non,.int .i64 n]],[],[138]⟩)) (.fail))|_,_=>.fail
theorem qLX (gl:Gl):SimM Tryz.prog gl 112 fun args σ=>(qMG args σ).run:=by
 refine SimM.of_nrm (G:=qMr) (L:=qO3) qai (qOf gl ) qah Tryz.func112 rfl (by rfl) (by kernel_rfl) (qac (by kernel_rfl)) ?_
 intro args σ x h;unfold qMG at h
 split at h
 ·exact (congrArg Tr.run (qQi _ _)).trans (qae h fun h=>qae h fun h=>by cases h)
 ·cases h
def qBf:GamT:=ofL [(111,.may (frameT qts)),(112,.may (frameT qMG)),(113,.may (frameT qom)),(qc6,.flag)]
theorem qIl (gl:Gl):qam Tryz.prog gl (gam qBf):=(qaj (SimM.frameT (qrD gl)) (qaj (SimM.frameT (qLX gl)) (qaj (SimM.frameT (qmm gl)) (qbp qag))))
def qIp:LpsT:=fun r fr σ=>.fail
def qqm (r:qR) (n:Int):Tr (PR×Store):=let z1:=qad (qad r);let z2:=qad (qaa (qga z1 n));.ite (qiA z1 n) (.ret (PR.pan (.iface 172 (.agg [.int .i64 (qf1 z1 n)])),Store.mk [[.sl (qaa (qaa (qge z1 n))) .non,.int .i64 n]] [] [138])) (.ite (qik z1 n) (.ite (qCi z2 n) (.ret (PR.pan (.iface 172 (.agg [.int .i64 (qvt z2 n)])),Store.mk [[.sl (qaa (qaa (qxw z2 n))) .non,.int .i64 n]] [] [138])) (.ite (qBN z2 n) (.ret (PR.val (.agg [.str (qeH z1 n),.sl (qaa (qaa (qv3 z2 n))) .non]),Store.mk [[.sl (qaa (qaa (qrs z2 n))) .non,.int .i64 n]] [] [138])) .fail)) .fail)
theorem qNh (r:qR) (n:Int):(nrmM tbT qBf qIp Tryz.f51 [.ptr 0 0] ⟨[[.sl r .non,.int .i64 n]],[],[138]⟩).flat=qqm r n:=by kernel_rfl
def qfJ (r:qR) (n:Int):Option (PR×Store):=(qqm r n).run
def qdR (r:qR) (n:Int):Int:=(gInt (gAt (gCs (gAt (gCs (gOut (qak (qfJ r n)) 0)) 0)) 0))
def qdN (r:qR) (n:Int):qR:=(gRow (gAt (gObj (qak (qfJ r n)) 0) 0))
def qfd (r:qR) (n:Int):Bool:=isW (qfJ r n) ((.pan (.iface 172 (.agg [.int .i64 (qdR r n)]))),⟨[[.sl (qdN r n) .non,.int .i64 n]],[],[138]⟩)
def qcP (r:qR) (n:Int):qU:=(gStr (gAt (gCs (gOut (qak (qfJ r n)) 0)) 0))
def qfb (r:qR) (n:Int):qR:=(gRow (gAt (gCs (gOut (qak (qfJ r n)) 0)) 1))
def qdm (r:qR) (n:Int):qR:=(gRow (gAt (gObj (qak (qfJ r n)) 0) 0))
def qeG (r:qR) (n:Int):Bool:=isW (qfJ r n) ((.val (.agg [.str (qcP r n),.sl (qfb r n) .non])),⟨[[.sl (qdm r n) .non,.int .i64 n]],[],[138]⟩)
def qtl:List PV→Store→Tr (PR×Store)|[.ptr 0 0],⟨[[.sl r .non,.int .i64 n]],[],[138]⟩=>.ite (qfd r n) (.ret ((.pan (.iface 172 (.agg [.int .i64 (qdR r n)]))),⟨[[.sl (qdN r n) .non,.int .i64 n]],[],[138]⟩)) (.ite (qeG r n) (.ret ((.val (.agg [.str (qcP r n),.sl (qfb r n) .non])),⟨[[.sl (qdm r n) .non,.int .i64 n]],[],[138]⟩)) (.fail))|_,_=>.fail
theorem qrS (gl:Gl):SimM Tryz.prog gl 51 fun args σ=>(qtl args σ).run:=by
 refine SimM.of_nrm (G:=qBf) (L:=qIp) qai (qIl gl ) qah Tryz.func51 rfl (by rfl) (by kernel_rfl) (qac (by kernel_rfl)) ?_
 intro args σ x h;unfold qtl at h
 split at h
 ·exact (congrArg Tr.run (qNh _ _)).trans (qae h fun h=>qae h fun h=>by cases h)
 ·cases h
def qGw:GamT:=ofL [(51,.may (frameT qtl)),(106,.may (frameT qcb)),(113,.may (frameT qom)),(148,.pure qpI),(149,.may (frameT qNZ))]
theorem qJ6 (gl:Gl):qam Tryz.prog gl (gam qGw):=(qaj (SimM.frameT (qrS gl)) (qaj (SimM.frameT (qbm gl)) (qaj (SimM.frameT (qmm gl)) (qaf (qt3 gl) (qaj (SimM.frameT (qN3 gl)) qag)))))
def qLp:LpsT:=fun r fr σ=>.fail
def qlh (r:qR) (n:Int):Tr (PR×Store):=let z1:=qad (qad r);let z2:=qad (qaa (qbh 1 [110,111,116] z1 n));let z3:=qaa (qaa (qfb z2 n));let z4:qR:=[[.sl (qaa (qaa (qdm z2 n))) .non,.int .i64 n]];let z5:=qad (qaa (qdS z2 n));let z6:=qad (qaa (qww z5 n));let z7:List PV:=[.int .i64 (qcR z2 n),.str (qcQ z2 n),.int .i64 (qb1 z2 n),.int .i64 (qb6 z2 n),.str (qbT z2 n)];.ite (qaN 1 [110,111,116] z1 n) (.ite (qbd 1 [110,111,116] z1 n) (.ite (qfd z2 n) (.ret (PR.pan (.iface 172 (.agg [.int .i64 (qdR z2 n)])),Store.mk [[.sl (qaa (qaa (qdN z2 n))) .non,.int .i64 n]] [] [138])) (.ite (qeG z2 n) (.ret (PR.val (.agg [.int .i64 2,.str (qcP z2 n),.sl z3 .non,.int .i64 0,.int .i64 0,.str [],.int .i64 0,.int .i64 0,.str [],.int .i64 0,.str [],.int .i64 0,.int .i64 0,.str []]),Store.mk z4 [] [138])) .fail)) (.ite (qjT z2 n) (.ite (ql7 z2 n) (.ite (qfd z2 n) (.ret (PR.pan (.iface 172 (.agg [.int .i64 (qdR z2 n)])),Store.mk [[.sl (qaa (qaa (qdN z2 n))) .non,.int .i64 n]] [] [138])) (.ite (qeG z2 n) (.ret (PR.val (.agg [.int .i64 1,.str (qcP z2 n),.sl z3 .non,.int .i64 0,.int .i64 0,.str [],.int .i64 0,.int .i64 0,.str [],.int .i64 0,.str [],.int .i64 0,.int .i64 0,.str []]),Store.mk z4 [] [138])) .fail)) (.ite (qeX z2 n) (.ite (qCp z5 n) (.ite (qeX z6 n) (.ite (qo9 z7 z7) (.ret (PR.val (.agg [.int .i64 3,.str [],.sl [] .non,.int .i64 (qvC z5 n),.int .i64 (qcR z2 n),.str (qcQ z2 n),.int .i64 (qb1 z2 n),.int .i64 (qb6 z2 n),.str (qbT z2 n),.int .i64 (qcR z6 n),.str (qcQ z6 n),.int .i64 (qb1 z6 n),.int .i64 (qb6 z6 n),.str (qbT z6 n)]),Store.mk [[.sl (qaa (qaa (qdS z6 n))) .non,.int .i64 n]] [] [138])) .fail) (.ite (qeB z6 n) (.ret (PR.pan (.iface 172 (.agg [.int .i64 (qdJ z6 n)])),Store.mk [[.sl (qaa (qaa (qdO z6 n))) .non,.int .i64 n]] [] [138])) .fail)) (.ite (qCo z5 n) (.ret (PR.pan (.iface 172 (.agg [.int .i64 (qx2 z5 n)])),Store.mk [[.sl (qaa (qaa (qwc z5 n))) .non,.int .i64 n]] [] [138])) .fail)) (.ite (qeB z2 n) (.ret (PR.pan (.iface 172 (.agg [.int .i64 (qdJ z2 n)])),Store.mk [[.sl (qaa (qaa (qdO z2 n))) .non,.int .i64 n]] [] [138])) .fail))) .fail)) .fail
theorem qO9 (r:qR) (n:Int):(nrmM tbT qGw qLp Tryz.f108 [.ptr 0 0] ⟨[[.sl r .non,.int .i64 n]],[],[138]⟩).flat=qlh r n:=by kernel_rfl
def qbD (r:qR) (n:Int):Option (PR×Store):=(qlh r n).run
def qjm (r:qR) (n:Int):Int:=(gInt (gAt (gCs (gAt (gCs (gOut (qak (qbD r n)) 0)) 0)) 0))
def qjy (r:qR) (n:Int):qR:=(gRow (gAt (gObj (qak (qbD r n)) 0) 0))
def qnP (r:qR) (n:Int):Bool:=isW (qbD r n) ((.pan (.iface 172 (.agg [.int .i64 (qjm r n)]))),⟨[[.sl (qjy r n) .non,.int .i64 n]],[],[138]⟩)
def qkn (r:qR) (n:Int):Int:=(gInt (gAt (gCs (gOut (qak (qbD r n)) 0)) 0))
def qjl (r:qR) (n:Int):qU:=(gStr (gAt (gCs (gOut (qak (qbD r n)) 0)) 1))
def qkl (r:qR) (n:Int):qR:=(gRow (gAt (gCs (gOut (qak (qbD r n)) 0)) 2))
def qgA (r:qR) (n:Int):Int:=(gInt (gAt (gCs (gOut (qak (qbD r n)) 0)) 3))
def qgg (r:qR) (n:Int):Int:=(gInt (gAt (gCs (gOut (qak (qbD r n)) 0)) 4))
def qgB (r:qR) (n:Int):qU:=(gStr (gAt (gCs (gOut (qak (qbD r n)) 0)) 5))
def qfQ (r:qR) (n:Int):Int:=(gInt (gAt (gCs (gOut (qak (qbD r n)) 0)) 6))
def qfX (r:qR) (n:Int):Int:=(gInt (gAt (gCs (gOut (qak (qbD r n)) 0)) 7))
def qfN (r:qR) (n:Int):qU:=(gStr (gAt (gCs (gOut (qak (qbD r n)) 0)) 8))
def qgs (r:qR) (n:Int):Int:=(gInt (gAt (gCs (gOut (qak (qbD r n)) 0)) 9))
def qgb (r:qR) (n:Int):qU:=(gStr (gAt (gCs (gOut (qak (qbD r n)) 0)) 10))
def qfW (r:qR) (n:Int):Int:=(gInt (gAt (gCs (gOut (qak (qbD r n)) 0)) 11))
def qgr (r:qR) (n:Int):Int:=(gInt (gAt (gCs (gOut (qak (qbD r n)) 0)) 12))
def qgp (r:qR) (n:Int):qU:=(gStr (gAt (gCs (gOut (qak (qbD r n)) 0)) 13))
def qgw (r:qR) (n:Int):qR:=(gRow (gAt (gObj (qak (qbD r n)) 0) 0))
def qmq (r:qR) (n:Int):Bool:=isW (qbD r n) ((.val (.agg [.int .i64 (qkn r n),.str (qjl r n),.sl (qkl r n) .non,.int .i64 (qgA r n),.int .i64 (qgg r n),.str (qgB r n),.int .i64 (qfQ r n),.int .i64 (qfX r n),.str (qfN r n),.int .i64 (qgs r n),.str (qgb r n),.int .i64 (qfW r n),.int .i64 (qgr r n),.str (qgp r n)])),⟨[[.sl (qgw r n) .non,.int .i64 n]],[],[138]⟩)
def qCJ:List PV→Store→Tr (PR×Store)|[.ptr 0 0],⟨[[.sl r .non,.int .i64 n]],[],[138]⟩=>.ite (qnP r n) (.ret ((.pan (.iface 172 (.agg [.int .i64 (qjm r n)]))),⟨[[.sl (qjy r n) .non,.int .i64 n]],[],[138]⟩)) (.ite (qmq r n) (.ret ((.val (.agg [.int .i64 (qkn r n),.str (qjl r n),.sl (qkl r n) .non,.int .i64 (qgA r n),.int .i64 (qgg r n),.str (qgB r n),.int .i64 (qfQ r n),.int .i64 (qfX r n),.str (qfN r n),.int .i64 (qgs r n),.str (qgb r n),.int .i64 (qfW r n),.int .i64 (qgr r n),.str (qgp r n)])),⟨[[.sl (qgw r n) .non,.int .i64 n]],[],[138]⟩)) (.fail))|_,_=>.fail
theorem qCZ (gl:Gl):SimM Tryz.prog gl 108 fun args σ=>(qCJ args σ).run:=by
 refine SimM.of_nrm (G:=qGw) (L:=qLp) qai (qJ6 gl ) qah Tryz.func108 rfl (by rfl) (by kernel_rfl) (qac (by kernel_rfl)) ?_
 intro args σ x h;unfold qCJ at h
 split at h
 ·exact (congrArg Tr.run (qO9 _ _)).trans (qae h fun h=>qae h fun h=>by cases h)
 ·cases h
def qFa:GamT:=ofL [(106,.may (frameT qcb)),(108,.may (frameT qCJ)),(qc6,.flag)]
theorem qG5 (gl:Gl):qam Tryz.prog gl (gam qFa):=(qaj (SimM.frameT (qbm gl)) (qaj (SimM.frameT (qCZ gl)) (qbp qag)))
def qzM:Code:=qc3 Tryz.f107 2
def qzv:LI:=⟨17,[0,1,5],fun e=>match e with|.exit 0=>[5]|_=>[],false⟩
def qvF:LpsT:=fun r fr σ=>.fail
def qhY (vs:List PV) (σ:Store):Option (PExit×List PV×Store):=lval (lstep tbT qFa qvF qzM qzv) vs σ
def qtH (l r:qR) (n:Int):Tr LR:=let z1:=qaa (qbh 6 [44] (qad r) n);let z2:=qad z1;let z3:qR:=[[.int .i64 (qkn z2 n),.str (qjl z2 n),.sl (qaa (qkl z2 n)) .non,.int .i64 (qgA z2 n),.int .i64 (qgg z2 n),.str (qgB z2 n),.int .i64 (qfQ z2 n),.int .i64 (qfX z2 n),.str (qfN z2 n),.int .i64 (qgs z2 n),.str (qgb z2 n),.int .i64 (qfW z2 n),.int .i64 (qgr z2 n),.str (qgp z2 n)]];.ite (qaN 6 [44] (qad r) n) (.ite (qbd 6 [44] (qad r) n) (.ite (qnP z2 n) (.ret (.out (.pan (.iface 172 (.agg [.int .i64 (qjm z2 n)]))) [] (Store.mk [[.sl (qaa (qjy z2 n)) .non,.int .i64 n]] [] [138]))) (.ite (qmq z2 n) (.ite (qaz l z3 168) (.ite (qar z3 14) (.ite (qan l 14) (.ret (.next [.ptr 0 0,.mth 108 [.ptr 0 0],.sl (xApp l z3) (.tok 0)] (Store.mk [[.sl (qaa (qgw z2 n)) .non,.int .i64 n]] [(nXs (xApp l z3),14,96)] [138]))) .fail) .fail) .fail) .fail)) (.ret (.out (.exit 0) [.sl l .full] (Store.mk [[.sl z1 .non,.int .i64 n]] [] [138])))) .fail
theorem qPL (l r:qR) (n:Int):lstep tbT qFa qvF qzM qzv [.ptr 0 0,.mth 108 [.ptr 0 0],.sl l .full] ⟨[[.sl r .non,.int .i64 n]],[],[138]⟩=qtH l r n:=by kernel_rfl
theorem qPX (l r:qR) (n:Int):qhY [.ptr 0 0,.mth 108 [.ptr 0 0],.sl l .full] ⟨[[.sl r .non,.int .i64 n]],[],[138]⟩=lnext qhY (qtH l r n).run:=by unfold qhY;rw [qaJ,qPL]
def qmS (l r:qR) (n:Int) (k:Nat):Tr LR:=let z1:=qaa (qbh 6 [44] (qad r) n);let z2:=qad z1;let z3:qR:=[[.int .i64 (qkn z2 n),.str (qjl z2 n),.sl (qaa (qkl z2 n)) .non,.int .i64 (qgA z2 n),.int .i64 (qgg z2 n),.str (qgB z2 n),.int .i64 (qfQ z2 n),.int .i64 (qfX z2 n),.str (qfN z2 n),.int .i64 (qgs z2 n),.str (qgb z2 n),.int .i64 (qfW z2 n),.int .i64 (qgr z2 n),.str (qgp z2 n)]];.ite (qaN 6 [44] (qad r) n) (.ite (qbd 6 [44] (qad r) n) (.ite (qnP z2 n) (.ret (.out (.pan (.iface 172 (.agg [.int .i64 (qjm z2 n)]))) [] (Store.mk [[.sl (qaa (qjy z2 n)) .non,.int .i64 n]] [(k,14,96)] [138]))) (.ite (qmq z2 n) (.ite (qaz l z3 168) (.ite (qar z3 14) (.ite (qan l 14) (.ite (nEq k (nXs l)) (.ret (.next [.ptr 0 0,.mth 108 [.ptr 0 0],.sl (xApp l z3) (.tok 0)] (Store.mk [[.sl (qaa (qgw z2 n)) .non,.int .i64 n]] [(nXs (xApp l z3),14,96)] [138]))) .fail) .fail) .fail) .fail) .fail)) (.ret (.out (.exit 0) [.sl l (.tok 0)] (Store.mk [[.sl z1 .non,.int .i64 n]] [(k,14,96)] [138])))) .fail
theorem qOk (l r:qR) (n:Int) (k:Nat):lstep tbT qFa qvF qzM qzv [.ptr 0 0,.mth 108 [.ptr 0 0],.sl l (.tok 0)] ⟨[[.sl r .non,.int .i64 n]],[(k,14,96)],[138]⟩=qmS l r n k:=by kernel_rfl
theorem qOe (l r:qR) (n:Int) (k:Nat):qhY [.ptr 0 0,.mth 108 [.ptr 0 0],.sl l (.tok 0)] ⟨[[.sl r .non,.int .i64 n]],[(k,14,96)],[138]⟩=lnext qhY (qmS l r n k).run:=by unfold qhY;rw [qaJ,qOk]
def qd6 (l r:qR) (n:Int):Option (PExit×List PV×Store):=qhY [.ptr 0 0,.mth 108 [.ptr 0 0],.sl l .full] ⟨[[.sl r .non,.int .i64 n]],[],[138]⟩
def qqv (l r:qR) (n:Int):Int:=(gInt (gAt (gCs (gAt (gCs (gPan (qd6 l r n))) 0)) 0))
def qqZ (l r:qR) (n:Int):qR:=(gRow (gAt (gObj (qd6 l r n) 0) 0))
def qvn (l r:qR) (n:Int):Bool:=isW (qd6 l r n) ((.pan (.iface 172 (.agg [.int .i64 (qqv l r n)]))),[],⟨[[.sl (qqZ l r n) .non,.int .i64 n]],[],[138]⟩)
def qpO (l r:qR) (n:Int):qR:=(gRow (gOut (qd6 l r n) 0))
def qpG (l r:qR) (n:Int):qR:=(gRow (gAt (gObj (qd6 l r n) 0) 0))
def qxS (l r:qR) (n:Int):Bool:=isW (qd6 l r n) ((.exit 0),[.sl (qpO l r n) .full],⟨[[.sl (qpG l r n) .non,.int .i64 n]],[],[138]⟩)
def qqG (l r:qR) (n:Int):Int:=(gInt (gAt (gCs (gAt (gCs (gPan (qd6 l r n))) 0)) 0))
def qqE (l r:qR) (n:Int):qR:=(gRow (gAt (gObj (qd6 l r n) 0) 0))
def qvy (l r:qR) (n:Int):Nat:=(gTok (qd6 l r n) 0)
def qvr (l r:qR) (n:Int):Bool:=isW (qd6 l r n) ((.pan (.iface 172 (.agg [.int .i64 (qqG l r n)]))),[],⟨[[.sl (qqE l r n) .non,.int .i64 n]],[((qvy l r n),14,96)],[138]⟩)
def qqQ (l r:qR) (n:Int):qR:=(gRow (gOut (qd6 l r n) 0))
def qpz (l r:qR) (n:Int):qR:=(gRow (gAt (gObj (qd6 l r n) 0) 0))
def qvj (l r:qR) (n:Int):Nat:=(gTok (qd6 l r n) 0)
def qv1 (l r:qR) (n:Int):Bool:=isW (qd6 l r n) ((.exit 0),[.sl (qqQ l r n) (.tok 0)],⟨[[.sl (qpz l r n) .non,.int .i64 n]],[((qvj l r n),14,96)],[138]⟩)
def qms:List PV→Store→Tr (PExit×List PV×Store)|[.ptr 0 0,.mth 108 [.ptr 0 0],.sl l .full],⟨[[.sl r .non,.int .i64 n]],[],[138]⟩=>.ite (qvn l r n) (.ret ((.pan (.iface 172 (.agg [.int .i64 (qqv l r n)]))),[],⟨[[.sl (qqZ l r n) .non,.int .i64 n]],[],[138]⟩)) (.ite (qxS l r n) (.ret ((.exit 0),[.sl (qpO l r n) .full],⟨[[.sl (qpG l r n) .non,.int .i64 n]],[],[138]⟩)) (.ite (qvr l r n) (.ret ((.pan (.iface 172 (.agg [.int .i64 (qqG l r n)]))),[],⟨[[.sl (qqE l r n) .non,.int .i64 n]],[((qvy l r n),14,96)],[138]⟩)) (.ite (qv1 l r n) (.ret ((.exit 0),[.sl (qqQ l r n) (.tok 0)],⟨[[.sl (qpz l r n) .non,.int .i64 n]],[((qvj l r n),14,96)],[138]⟩)) (.fail))))|_,_=>.fail
theorem qOO:∀ vs σ r,(qms vs σ).run=some r→qhY vs σ=some r:=by
 intro vs σ r h;unfold qms at h
 split at h
 ·exact qae h fun h=>qae h fun h=>qae h fun h=>qae h fun h=>by cases h
 ·cases h
theorem qHS (gl:Gl):∀ fr σ e fr' σ',(orc qzv qms fr σ).run=some (e,fr',σ')→LDoes Tryz.prog gl qzM fr σ e fr' σ':=qbu qai (qG5 gl ) qah (L:=qvF) (qac (by kernel_rfl)) (by kernel_rfl) qOO
def qMZ:LpsT:=fun r fr σ=>bif Nat.beq r 2 then orc qzv qms fr σ else .fail
def qzN (r:qR) (n:Int):Tr (PR×Store):=let z1:=qad (qad r);let z2:qR:=[[.int .i64 (qkn z1 n),.str (qjl z1 n),.sl (qaa (qkl z1 n)) .non,.int .i64 (qgA z1 n),.int .i64 (qgg z1 n),.str (qgB z1 n),.int .i64 (qfQ z1 n),.int .i64 (qfX z1 n),.str (qfN z1 n),.int .i64 (qgs z1 n),.str (qgb z1 n),.int .i64 (qfW z1 n),.int .i64 (qgr z1 n),.str (qgp z1 n)]];let z3:=qaa (qgw z1 n);.ite (qnP z1 n) (.ret (PR.pan (.iface 172 (.agg [.int .i64 (qjm z1 n)])),Store.mk [[.sl (qaa (qaa (qjy z1 n))) .non,.int .i64 n]] [] [138])) (.ite (qmq z1 n) (.ite (qvn z2 z3 n) (.ret (PR.pan (.iface 172 (.agg [.int .i64 (qqv z2 z3 n)])),Store.mk [[.sl (qaa (qqZ z2 z3 n)) .non,.int .i64 n]] [] [138])) (.ite (qxS z2 z3 n) (.ret (PR.val (.sl (qaa (qpO z2 z3 n)) .non),Store.mk [[.sl (qaa (qpG z2 z3 n)) .non,.int .i64 n]] [] [138])) (.ite (qvr z2 z3 n) (.ret (PR.pan (.iface 172 (.agg [.int .i64 (qqG z2 z3 n)])),Store.mk [[.sl (qaa (qqE z2 z3 n)) .non,.int .i64 n]] [] [138])) (.ite (qv1 z2 z3 n) (.ret (PR.val (.sl (qaa (qqQ z2 z3 n)) .non),Store.mk [[.sl (qaa (qpz z2 z3 n)) .non,.int .i64 n]] [] [138])) .fail)))) .fail)
theorem qQF (r:qR) (n:Int):(nrmM tbT qFa qMZ Tryz.f107 [.ptr 0 0,.mth 108 [.ptr 0 0]] ⟨[[.sl r .non,.int .i64 n]],[],[138]⟩).flat=qzN r n:=by kernel_rfl
def qtL (r:qR) (n:Int):Option (PR×Store):=(qzN r n).run
def qys (r:qR) (n:Int):Int:=(gInt (gAt (gCs (gAt (gCs (gOut (qak (qtL r n)) 0)) 0)) 0))
def qwF (r:qR) (n:Int):qR:=(gRow (gAt (gObj (qak (qtL r n)) 0) 0))
def qBR (r:qR) (n:Int):Bool:=isW (qtL r n) ((.pan (.iface 172 (.agg [.int .i64 (qys r n)]))),⟨[[.sl (qwF r n) .non,.int .i64 n]],[],[138]⟩)
def qw1 (r:qR) (n:Int):qR:=(gRow (gOut (qak (qtL r n)) 0))
def qq4 (r:qR) (n:Int):qR:=(gRow (gAt (gObj (qak (qtL r n)) 0) 0))
def qBw (r:qR) (n:Int):Bool:=isW (qtL r n) ((.val (.sl (qw1 r n) .non)),⟨[[.sl (qq4 r n) .non,.int .i64 n]],[],[138]⟩)
def qMC:List PV→Store→Tr (PR×Store)|[.ptr 0 0,.mth 108 [.ptr 0 0]],⟨[[.sl r .non,.int .i64 n]],[],[138]⟩=>.ite (qBR r n) (.ret ((.pan (.iface 172 (.agg [.int .i64 (qys r n)]))),⟨[[.sl (qwF r n) .non,.int .i64 n]],[],[138]⟩)) (.ite (qBw r n) (.ret ((.val (.sl (qw1 r n) .non)),⟨[[.sl (qq4 r n) .non,.int .i64 n]],[],[138]⟩)) (.fail))|_,_=>.fail
theorem qNk (gl:Gl):SimM Tryz.prog gl 107 fun args σ=>(qMC args σ).run:=by
 refine SimM.of_nrm (G:=qFa) (L:=qMZ) qai (qG5 gl ) qah Tryz.func107 rfl (by rfl) (by kernel_rfl) (qax (L:=lps qMZ) [(2,qzM)] (by kernel_rfl) (List.forall_mem_cons.2 ⟨fun fr σ e fr' σ' h=>qHS gl  fr σ e fr' σ' h,(List.forall_mem_nil _)⟩)) ?_
 intro args σ x h;unfold qMC at h
 split at h
 ·exact (congrArg Tr.run (qQF _ _)).trans (qae h fun h=>qae h fun h=>by cases h)
 ·cases h
def qAT:GamT:=ofL [(51,.may (frameT qtl)),(106,.may (frameT qcb)),(107,.may (frameT qMC)),(108,.may (frameT qCJ)),(109,.may (frameT qhR)),(qc6,.flag)]
theorem qHB (gl:Gl):qam Tryz.prog gl (gam qAT):=(qaj (SimM.frameT (qrS gl)) (qaj (SimM.frameT (qbm gl)) (qaj (SimM.frameT (qNk gl)) (qaj (SimM.frameT (qCZ gl)) (qaj (SimM.frameT (qeO gl)) (qbp qag))))))
def qGr:LpsT:=fun r fr σ=>.fail
def qjJ (r:qR) (n:Int):Tr (PR×Store):=let z1:=qad (qad r);let z2:=qad (qaa (qdm z1 n));let z3:=qad (qaa (qbh 6 [58,45] z2 n));let z4:=qad (qaa (qq4 z3 n));let z5:=qaa (qaa (qfb z1 n));.ite (qfd z1 n) (.ret (PR.pan (.iface 172 (.agg [.int .i64 (qdR z1 n)])),Store.mk [[.sl (qaa (qaa (qdN z1 n))) .non,.int .i64 n]] [] [138])) (.ite (qeG z1 n) (.ite (qaN 6 [58,45] z2 n) (.ite (qbd 6 [58,45] z2 n) (.ite (qBR z3 n) (.ret (PR.pan (.iface 172 (.agg [.int .i64 (qys z3 n)])),Store.mk [[.sl (qaa (qaa (qwF z3 n))) .non,.int .i64 n]] [] [138])) (.ite (qBw z3 n) (.ite (qbn [46] z4 n) (.ret (PR.pan (.iface 172 (.agg [.int .i64 (qbg [46] z4 n)])),Store.mk [[.sl (qaa (qaa (qbc [46] z4 n))) .non,.int .i64 n]] [] [138])) (.ite (qbq [46] z4 n) (.ret (PR.val (.agg [.str (qcP z1 n),.sl z5 .non,.sl (qaa (qaa (qw1 z3 n))) .non]),Store.mk [[.sl (qaa (qaa (qbe [46] z4 n))) .non,.int .i64 n]] [] [138])) .fail)) .fail)) (.ite (qbn [46] z3 n) (.ret (PR.pan (.iface 172 (.agg [.int .i64 (qbg [46] z3 n)])),Store.mk [[.sl (qaa (qaa (qbc [46] z3 n))) .non,.int .i64 n]] [] [138])) (.ite (qbq [46] z3 n) (.ret (PR.val (.agg [.str (qcP z1 n),.sl z5 .non,.sl [] .non]),Store.mk [[.sl (qaa (qaa (qbe [46] z3 n))) .non,.int .i64 n]] [] [138])) .fail))) .fail) .fail)
theorem qN2 (r:qR) (n:Int):(nrmM tbT qAT qGr Tryz.f47 [.ptr 0 0] ⟨[[.sl r .non,.int .i64 n]],[],[138]⟩).flat=qjJ r n:=by kernel_rfl
def qdc (r:qR) (n:Int):Option (PR×Store):=(qjJ r n).run
def qin (r:qR) (n:Int):Int:=(gInt (gAt (gCs (gAt (gCs (gOut (qak (qdc r n)) 0)) 0)) 0))
def qif (r:qR) (n:Int):qR:=(gRow (gAt (gObj (qak (qdc r n)) 0) 0))
def qlS (r:qR) (n:Int):Bool:=isW (qdc r n) ((.pan (.iface 172 (.agg [.int .i64 (qin r n)]))),⟨[[.sl (qif r n) .non,.int .i64 n]],[],[138]⟩)
def qiV (r:qR) (n:Int):qU:=(gStr (gAt (gCs (gOut (qak (qdc r n)) 0)) 0))
def qi0 (r:qR) (n:Int):qR:=(gRow (gAt (gCs (gOut (qak (qdc r n)) 0)) 1))
def qf9 (r:qR) (n:Int):qR:=(gRow (gAt (gCs (gOut (qak (qdc r n)) 0)) 2))
def qfM (r:qR) (n:Int):qR:=(gRow (gAt (gObj (qak (qdc r n)) 0) 0))
def qmK (r:qR) (n:Int):Bool:=isW (qdc r n) ((.val (.agg [.str (qiV r n),.sl (qi0 r n) .non,.sl (qf9 r n) .non])),⟨[[.sl (qfM r n) .non,.int .i64 n]],[],[138]⟩)
def qvq:List PV→Store→Tr (PR×Store)|[.ptr 0 0],⟨[[.sl r .non,.int .i64 n]],[],[138]⟩=>.ite (qlS r n) (.ret ((.pan (.iface 172 (.agg [.int .i64 (qin r n)]))),⟨[[.sl (qif r n) .non,.int .i64 n]],[],[138]⟩)) (.ite (qmK r n) (.ret ((.val (.agg [.str (qiV r n),.sl (qi0 r n) .non,.sl (qf9 r n) .non])),⟨[[.sl (qfM r n) .non,.int .i64 n]],[],[138]⟩)) (.fail))|_,_=>.fail
theorem qzF (gl:Gl):SimM Tryz.prog gl 47 fun args σ=>(qvq args σ).run:=by
 refine SimM.of_nrm (G:=qAT) (L:=qGr) qai (qHB gl ) qah Tryz.func47 rfl (by rfl) (by kernel_rfl) (qac (by kernel_rfl)) ?_
 intro args σ x h;unfold qvq at h
 split at h
 ·exact (congrArg Tr.run (qN2 _ _)).trans (qae h fun h=>qae h fun h=>by cases h)
 ·cases h
def qED:GamT:=ofL [(106,.may (frameT qcb)),(138,.may (frameT quU)),(qc6,.flag)]
theorem qF0 (gl:Gl):qam Tryz.prog gl (gam qED):=(qaj (SimM.frameT (qbm gl)) (qaj (SimM.frameT (qq5 gl)) (qbp qag)))
def qzp:Code:=qc3 Tryz.f161 2
def qz8:LI:=⟨17,[0,1,5],fun e=>match e with|.exit 0=>[5]|_=>[],false⟩
def qwq:LpsT:=fun r fr σ=>.fail
def qh2 (vs:List PV) (σ:Store):Option (PExit×List PV×Store):=lval (lstep tbT qED qwq qzp qz8) vs σ
def qtB (l r:qR) (n:Int):Tr LR:=let z1:=qaa (qbh 6 [44] (qad r) n);let z2:=qad z1;let z3:qR:=[[.int .i64 (qha z2 n)]];.ite (qaN 6 [44] (qad r) n) (.ite (qbd 6 [44] (qad r) n) (.ite (qjp z2 n) (.ite (qaz l z3 8) (.ite (qar z3 1) (.ite (qan l 1) (.ret (.next [.ptr 0 0,.mth 138 [.ptr 0 0],.sl (xApp l z3) (.tok 0)] (Store.mk [[.sl (qaa (qgI z2 n)) .non,.int .i64 n]] [(nXs (xApp l z3),1,112)] [138]))) .fail) .fail) .fail) (.ite (qkv z2 n) (.ret (.out (.pan (.iface 172 (.agg [.int .i64 (qhG z2 n)]))) [] (Store.mk [[.sl (qaa (qgL z2 n)) .non,.int .i64 n]] [] [138]))) .fail)) (.ret (.out (.exit 0) [.sl l .full] (Store.mk [[.sl z1 .non,.int .i64 n]] [] [138])))) .fail
theorem qPz (l r:qR) (n:Int):lstep tbT qED qwq qzp qz8 [.ptr 0 0,.mth 138 [.ptr 0 0],.sl l .full] ⟨[[.sl r .non,.int .i64 n]],[],[138]⟩=qtB l r n:=by kernel_rfl
theorem qPo (l r:qR) (n:Int):qh2 [.ptr 0 0,.mth 138 [.ptr 0 0],.sl l .full] ⟨[[.sl r .non,.int .i64 n]],[],[138]⟩=lnext qh2 (qtB l r n).run:=by unfold qh2;rw [qaJ,qPz]
def qnx (l r:qR) (n:Int) (k:Nat):Tr LR:=let z1:=qaa (qbh 6 [44] (qad r) n);let z2:=qad z1;let z3:qR:=[[.int .i64 (qha z2 n)]];.ite (qaN 6 [44] (qad r) n) (.ite (qbd 6 [44] (qad r) n) (.ite (qjp z2 n) (.ite (qaz l z3 8) (.ite (qar z3 1) (.ite (qan l 1) (.ite (nEq k (nXs l)) (.ret (.next [.ptr 0 0,.mth 138 [.ptr 0 0],.sl (xApp l z3) (.tok 0)] (Store.mk [[.sl (qaa (qgI z2 n)) .non,.int .i64 n]] [(nXs (xApp l z3),1,112)] [138]))) .fail) .fail) .fail) .fail) (.ite (qkv z2 n) (.ret (.out (.pan (.iface 172 (.agg [.int .i64 (qhG z2 n)]))) [] (Store.mk [[.sl (qaa (qgL z2 n)) .non,.int .i64 n]] [(k,1,112)] [138]))) .fail)) (.ret (.out (.exit 0) [.sl l (.tok 0)] (Store.mk [[.sl z1 .non,.int .i64 n]] [(k,1,112)] [138])))) .fail
theorem qL3 (l r:qR) (n:Int) (k:Nat):lstep tbT qED qwq qzp qz8 [.ptr 0 0,.mth 138 [.ptr 0 0],.sl l (.tok 0)] ⟨[[.sl r .non,.int .i64 n]],[(k,1,112)],[138]⟩=qnx l r n k:=by kernel_rfl
theorem qOQ (l r:qR) (n:Int) (k:Nat):qh2 [.ptr 0 0,.mth 138 [.ptr 0 0],.sl l (.tok 0)] ⟨[[.sl r .non,.int .i64 n]],[(k,1,112)],[138]⟩=lnext qh2 (qnx l r n k).run:=by unfold qh2;rw [qaJ,qL3]
def qdZ (l r:qR) (n:Int):Option (PExit×List PV×Store):=qh2 [.ptr 0 0,.mth 138 [.ptr 0 0],.sl l .full] ⟨[[.sl r .non,.int .i64 n]],[],[138]⟩
def qqO (l r:qR) (n:Int):Int:=(gInt (gAt (gCs (gAt (gCs (gPan (qdZ l r n))) 0)) 0))
def qrh (l r:qR) (n:Int):qR:=(gRow (gAt (gObj (qdZ l r n) 0) 0))
def qxO (l r:qR) (n:Int):Bool:=isW (qdZ l r n) ((.pan (.iface 172 (.agg [.int .i64 (qqO l r n)]))),[],⟨[[.sl (qrh l r n) .non,.int .i64 n]],[],[138]⟩)
def qpD (l r:qR) (n:Int):qR:=(gRow (gOut (qdZ l r n) 0))
def qp5 (l r:qR) (n:Int):qR:=(gRow (gAt (gObj (qdZ l r n) 0) 0))
def qvu (l r:qR) (n:Int):Bool:=isW (qdZ l r n) ((.exit 0),[.sl (qpD l r n) .full],⟨[[.sl (qp5 l r n) .non,.int .i64 n]],[],[138]⟩)
def qrv (l r:qR) (n:Int):Int:=(gInt (gAt (gCs (gAt (gCs (gPan (qdZ l r n))) 0)) 0))
def qrm (l r:qR) (n:Int):qR:=(gRow (gAt (gObj (qdZ l r n) 0) 0))
def qxN (l r:qR) (n:Int):Nat:=(gTok (qdZ l r n) 0)
def qxx (l r:qR) (n:Int):Bool:=isW (qdZ l r n) ((.pan (.iface 172 (.agg [.int .i64 (qrv l r n)]))),[],⟨[[.sl (qrm l r n) .non,.int .i64 n]],[((qxN l r n),1,112)],[138]⟩)
def qqc (l r:qR) (n:Int):qR:=(gRow (gOut (qdZ l r n) 0))
def qrA (l r:qR) (n:Int):qR:=(gRow (gAt (gObj (qdZ l r n) 0) 0))
def qvk (l r:qR) (n:Int):Nat:=(gTok (qdZ l r n) 0)
def qyj (l r:qR) (n:Int):Bool:=isW (qdZ l r n) ((.exit 0),[.sl (qqc l r n) (.tok 0)],⟨[[.sl (qrA l r n) .non,.int .i64 n]],[((qvk l r n),1,112)],[138]⟩)
def qnK:List PV→Store→Tr (PExit×List PV×Store)|[.ptr 0 0,.mth 138 [.ptr 0 0],.sl l .full],⟨[[.sl r .non,.int .i64 n]],[],[138]⟩=>.ite (qxO l r n) (.ret ((.pan (.iface 172 (.agg [.int .i64 (qqO l r n)]))),[],⟨[[.sl (qrh l r n) .non,.int .i64 n]],[],[138]⟩)) (.ite (qvu l r n) (.ret ((.exit 0),[.sl (qpD l r n) .full],⟨[[.sl (qp5 l r n) .non,.int .i64 n]],[],[138]⟩)) (.ite (qxx l r n) (.ret ((.pan (.iface 172 (.agg [.int .i64 (qrv l r n)]))),[],⟨[[.sl (qrm l r n) .non,.int .i64 n]],[((qxN l r n),1,112)],[138]⟩)) (.ite (qyj l r n) (.ret ((.exit 0),[.sl (qqc l r n) (.tok 0)],⟨[[.sl (qrA l r n) .non,.int .i64 n]],[((qvk l r n),1,112)],[138]⟩)) (.fail))))|_,_=>.fail
theorem qNt:∀ vs σ r,(qnK vs σ).run=some r→qh2 vs σ=some r:=by
 intro vs σ r h;unfold qnK at h
 split at h
 ·exact qae h fun h=>qae h fun h=>qae h fun h=>qae h fun h=>by cases h
 ·cases h
theorem qGg (gl:Gl):∀ fr σ e fr' σ',(orc qz8 qnK fr σ).run=some (e,fr',σ')→LDoes Tryz.prog gl qzp fr σ e fr' σ':=qbu qai (qF0 gl ) qah (L:=qwq) (qac (by kernel_rfl)) (by kernel_rfl) qNt
def qMi:LpsT:=fun r fr σ=>bif Nat.beq r 2 then orc qz8 qnK fr σ else .fail
def qyP (r:qR) (n:Int):Tr (PR×Store):=let z1:=qad (qad r);let z2:qR:=[[.int .i64 (qha z1 n)]];let z3:=qaa (qgI z1 n);.ite (qjp z1 n) (.ite (qxO z2 z3 n) (.ret (PR.pan (.iface 172 (.agg [.int .i64 (qqO z2 z3 n)])),Store.mk [[.sl (qaa (qrh z2 z3 n)) .non,.int .i64 n]] [] [138])) (.ite (qvu z2 z3 n) (.ret (PR.val (.sl (qaa (qpD z2 z3 n)) .non),Store.mk [[.sl (qaa (qp5 z2 z3 n)) .non,.int .i64 n]] [] [138])) (.ite (qxx z2 z3 n) (.ret (PR.pan (.iface 172 (.agg [.int .i64 (qrv z2 z3 n)])),Store.mk [[.sl (qaa (qrm z2 z3 n)) .non,.int .i64 n]] [] [138])) (.ite (qyj z2 z3 n) (.ret (PR.val (.sl (qaa (qqc z2 z3 n)) .non),Store.mk [[.sl (qaa (qrA z2 z3 n)) .non,.int .i64 n]] [] [138])) .fail)))) (.ite (qkv z1 n) (.ret (PR.pan (.iface 172 (.agg [.int .i64 (qhG z1 n)])),Store.mk [[.sl (qaa (qaa (qgL z1 n))) .non,.int .i64 n]] [] [138])) .fail)
theorem qQH (r:qR) (n:Int):(nrmM tbT qED qMi Tryz.f161 [.ptr 0 0,.mth 138 [.ptr 0 0]] ⟨[[.sl r .non,.int .i64 n]],[],[138]⟩).flat=qyP r n:=by kernel_rfl
def qtR (r:qR) (n:Int):Option (PR×Store):=(qyP r n).run
def qyf (r:qR) (n:Int):Int:=(gInt (gAt (gCs (gAt (gCs (gOut (qak (qtR r n)) 0)) 0)) 0))
def qxo (r:qR) (n:Int):qR:=(gRow (gAt (gObj (qak (qtR r n)) 0) 0))
def qBq (r:qR) (n:Int):Bool:=isW (qtR r n) ((.pan (.iface 172 (.agg [.int .i64 (qyf r n)]))),⟨[[.sl (qxo r n) .non,.int .i64 n]],[],[138]⟩)
def qvw (r:qR) (n:Int):qR:=(gRow (gOut (qak (qtR r n)) 0))
def qq3 (r:qR) (n:Int):qR:=(gRow (gAt (gObj (qak (qtR r n)) 0) 0))
def qAu (r:qR) (n:Int):Bool:=isW (qtR r n) ((.val (.sl (qvw r n) .non)),⟨[[.sl (qq3 r n) .non,.int .i64 n]],[],[138]⟩)
def qOa:List PV→Store→Tr (PR×Store)|[.ptr 0 0,.mth 138 [.ptr 0 0]],⟨[[.sl r .non,.int .i64 n]],[],[138]⟩=>.ite (qBq r n) (.ret ((.pan (.iface 172 (.agg [.int .i64 (qyf r n)]))),⟨[[.sl (qxo r n) .non,.int .i64 n]],[],[138]⟩)) (.ite (qAu r n) (.ret ((.val (.sl (qvw r n) .non)),⟨[[.sl (qq3 r n) .non,.int .i64 n]],[],[138]⟩)) (.fail))|_,_=>.fail
theorem qMj (gl:Gl):SimM Tryz.prog gl 161 fun args σ=>(qOa args σ).run:=by
 refine SimM.of_nrm (G:=qED) (L:=qMi) qai (qF0 gl ) qah Tryz.func161 rfl (by rfl) (by kernel_rfl) (qax (L:=lps qMi) [(2,qzp)] (by kernel_rfl) (List.forall_mem_cons.2 ⟨fun fr σ e fr' σ' h=>qGg gl  fr σ e fr' σ' h,(List.forall_mem_nil _)⟩)) ?_
 intro args σ x h;unfold qOa at h
 split at h
 ·exact (congrArg Tr.run (qQH _ _)).trans (qae h fun h=>qae h fun h=>by cases h)
 ·cases h
def qNV:GamT:=ofL [(106,.may (frameT qcb)),(109,.may (frameT qhR)),(138,.may (frameT quU)),(161,.may (frameT qOa)),(qc6,.flag)]
theorem qOn (gl:Gl):qam Tryz.prog gl (gam qNV):=(qaj (SimM.frameT (qbm gl)) (qaj (SimM.frameT (qeO gl)) (qaj (SimM.frameT (qq5 gl)) (qaj (SimM.frameT (qMj gl)) (qbp qag)))))
def qPx:LpsT:=fun r fr σ=>.fail
def qsP (r:qR) (n:Int):Tr (PR×Store):=let z1:=qad (qad r);let z2:=qad (qaa (qbe [40] z1 n));let z3:=qaa (qbh 6 [41] z2 n);let z4:=qad z3;let z5:=qad (qaa (qq3 z4 n));.ite (qbn [40] z1 n) (.ret (PR.pan (.iface 172 (.agg [.int .i64 (qbg [40] z1 n)])),Store.mk [[.sl (qaa (qaa (qbc [40] z1 n))) .non,.int .i64 n]] [] [138])) (.ite (qbq [40] z1 n) (.ite (qaN 6 [41] z2 n) (.ite (qbd 6 [41] z2 n) (.ret (PR.val (.sl [] .non),Store.mk [[.sl (qaa z3) .non,.int .i64 n]] [] [138])) (.ite (qBq z4 n) (.ret (PR.pan (.iface 172 (.agg [.int .i64 (qyf z4 n)])),Store.mk [[.sl (qaa (qaa (qxo z4 n))) .non,.int .i64 n]] [] [138])) (.ite (qAu z4 n) (.ite (qbn [41] z5 n) (.ret (PR.pan (.iface 172 (.agg [.int .i64 (qbg [41] z5 n)])),Store.mk [[.sl (qaa (qaa (qbc [41] z5 n))) .non,.int .i64 n]] [] [138])) (.ite (qbq [41] z5 n) (.ret (PR.val (.sl (qaa (qaa (qvw z4 n))) .non),Store.mk [[.sl (qaa (qaa (qbe [41] z5 n))) .non,.int .i64 n]] [] [138])) .fail)) .fail))) .fail) .fail)
theorem qQl (r:qR) (n:Int):(nrmM tbT qNV qPx Tryz.f137 [.ptr 0 0,.mth 138 [.ptr 0 0]] ⟨[[.sl r .non,.int .i64 n]],[],[138]⟩).flat=qsP r n:=by kernel_rfl
def qpq (r:qR) (n:Int):Option (PR×Store):=(qsP r n).run
def qyq (r:qR) (n:Int):Int:=(gInt (gAt (gCs (gAt (gCs (gOut (qak (qpq r n)) 0)) 0)) 0))
def qvK (r:qR) (n:Int):qR:=(gRow (gAt (gObj (qak (qpq r n)) 0) 0))
def qA4 (r:qR) (n:Int):Bool:=isW (qpq r n) ((.pan (.iface 172 (.agg [.int .i64 (qyq r n)]))),⟨[[.sl (qvK r n) .non,.int .i64 n]],[],[138]⟩)
def qwN (r:qR) (n:Int):qR:=(gRow (gOut (qak (qpq r n)) 0))
def qpu (r:qR) (n:Int):qR:=(gRow (gAt (gObj (qak (qpq r n)) 0) 0))
def qAg (r:qR) (n:Int):Bool:=isW (qpq r n) ((.val (.sl (qwN r n) .non)),⟨[[.sl (qpu r n) .non,.int .i64 n]],[],[138]⟩)
def qNL:List PV→Store→Tr (PR×Store)|[.ptr 0 0,.mth 138 [.ptr 0 0]],⟨[[.sl r .non,.int .i64 n]],[],[138]⟩=>.ite (qA4 r n) (.ret ((.pan (.iface 172 (.agg [.int .i64 (qyq r n)]))),⟨[[.sl (qvK r n) .non,.int .i64 n]],[],[138]⟩)) (.ite (qAg r n) (.ret ((.val (.sl (qwN r n) .non)),⟨[[.sl (qpu r n) .non,.int .i64 n]],[],[138]⟩)) (.fail))|_,_=>.fail
theorem qMW (gl:Gl):SimM Tryz.prog gl 137 fun args σ=>(qNL args σ).run:=by
 refine SimM.of_nrm (G:=qNV) (L:=qPx) qai (qOn gl ) qah Tryz.func137 rfl (by rfl) (by kernel_rfl) (qac (by kernel_rfl)) ?_
 intro args σ x h;unfold qNL at h
 split at h
 ·exact (congrArg Tr.run (qQl _ _)).trans (qae h fun h=>qae h fun h=>by cases h)
 ·cases h
def qBp:GamT:=ofL [(109,.may (frameT qhR)),(111,.may (frameT qts)),(136,.may (frameT qid)),(137,.may (frameT qNL)),(138,.may (frameT quU)),(qc6,.flag)]
theorem qIB (gl:Gl):qam Tryz.prog gl (gam qBp):=(qaj (SimM.frameT (qeO gl)) (qaj (SimM.frameT (qrD gl)) (qaj (SimM.frameT (qgd gl)) (qaj (SimM.frameT (qMW gl)) (qaj (SimM.frameT (qq5 gl)) (qbp qag))))))
def qIw:LpsT:=fun r fr σ=>.fail
def ql4 (r:qR) (n:Int):Tr (PR×Store):=let z1:=qad (qad r);let z2:=qad (qaa (qgX z1 n));let z3:=qad (qaa (qga z2 n));let z4:=qad (qaa (qpu z3 n));.ite (qcT z1 n) (.ite (qiA z2 n) (.ret (PR.pan (.iface 172 (.agg [.int .i64 (qf1 z2 n)])),Store.mk [[.sl (qaa (qaa (qge z2 n))) .non,.int .i64 n]] [] [138])) (.ite (qik z2 n) (.ite (qA4 z3 n) (.ret (PR.pan (.iface 172 (.agg [.int .i64 (qyq z3 n)])),Store.mk [[.sl (qaa (qaa (qvK z3 n))) .non,.int .i64 n]] [] [138])) (.ite (qAg z3 n) (.ite (qbn [46] z4 n) (.ret (PR.pan (.iface 172 (.agg [.int .i64 (qbg [46] z4 n)])),Store.mk [[.sl (qaa (qaa (qbc [46] z4 n))) .non,.int .i64 n]] [] [138])) (.ite (qbq [46] z4 n) (.ret (PR.val (.agg [.str (qeH z2 n),.bool (sEq (qkF z1 n) [98,97,115,101]),.sl (qaa (qaa (qwN z3 n))) .non]),Store.mk [[.sl (qaa (qaa (qbe [46] z4 n))) .non,.int .i64 n]] [] [138])) .fail)) .fail)) .fail)) .fail
theorem qOS (r:qR) (n:Int):(nrmM tbT qBp qIw Tryz.f87 [.ptr 0 0] ⟨[[.sl r .non,.int .i64 n]],[],[138]⟩).flat=ql4 r n:=by kernel_rfl
def qdU (r:qR) (n:Int):Option (PR×Store):=(ql4 r n).run
def qnJ (r:qR) (n:Int):Int:=(gInt (gAt (gCs (gAt (gCs (gOut (qak (qdU r n)) 0)) 0)) 0))
def qml (r:qR) (n:Int):qR:=(gRow (gAt (gObj (qak (qdU r n)) 0) 0))
def qrN (r:qR) (n:Int):Bool:=isW (qdU r n) ((.pan (.iface 172 (.agg [.int .i64 (qnJ r n)]))),⟨[[.sl (qml r n) .non,.int .i64 n]],[],[138]⟩)
def qmX (r:qR) (n:Int):qU:=(gStr (gAt (gCs (gOut (qak (qdU r n)) 0)) 0))
def qna (r:qR) (n:Int):Bool:=(qbQ (gAt (gCs (gOut (qak (qdU r n)) 0)) 1))
def qme (r:qR) (n:Int):qR:=(gRow (gAt (gCs (gOut (qak (qdU r n)) 0)) 2))
def qjw (r:qR) (n:Int):qR:=(gRow (gAt (gObj (qak (qdU r n)) 0) 0))
def qtf (r:qR) (n:Int):Bool:=isW (qdU r n) ((.val (.agg [.str (qmX r n),.bool (qna r n),.sl (qme r n) .non])),⟨[[.sl (qjw r n) .non,.int .i64 n]],[],[138]⟩)
def qBG:List PV→Store→Tr (PR×Store)|[.ptr 0 0],⟨[[.sl r .non,.int .i64 n]],[],[138]⟩=>.ite (qrN r n) (.ret ((.pan (.iface 172 (.agg [.int .i64 (qnJ r n)]))),⟨[[.sl (qml r n) .non,.int .i64 n]],[],[138]⟩)) (.ite (qtf r n) (.ret ((.val (.agg [.str (qmX r n),.bool (qna r n),.sl (qme r n) .non])),⟨[[.sl (qjw r n) .non,.int .i64 n]],[],[138]⟩)) (.fail))|_,_=>.fail
theorem qHz (gl:Gl):SimM Tryz.prog gl 87 fun args σ=>(qBG args σ).run:=by
 refine SimM.of_nrm (G:=qBp) (L:=qIw) qai (qIB gl ) qah Tryz.func87 rfl (by rfl) (by kernel_rfl) (qac (by kernel_rfl)) ?_
 intro args σ x h;unfold qBG at h
 split at h
 ·exact (congrArg Tr.run (qOS _ _)).trans (qae h fun h=>qae h fun h=>by cases h)
 ·cases h
def qGS:GamT:=ofL [(51,.may (frameT qtl)),(106,.may (frameT qcb)),(109,.may (frameT qhR))]
theorem qKw (gl:Gl):qam Tryz.prog gl (gam qGS):=(qaj (SimM.frameT (qrS gl)) (qaj (SimM.frameT (qbm gl)) (qaj (SimM.frameT (qeO gl)) qag)))
def qLD:LpsT:=fun r fr σ=>.fail
def qs5 (r:qR) (n:Int):Tr (PR×Store):=let z1:=qad (qad r);let z2:=qbd 6 [43] z1 n;let z3:=qad (qaa (qbh 6 [43] z1 n));let z4:=qad (qaa (qbe [45] z3 n));.ite (qaN 6 [43] z1 n) (.ite (bNot z2) (.ite (qbn [45] z3 n) (.ret (PR.pan (.iface 172 (.agg [.int .i64 (qbg [45] z3 n)])),Store.mk [[.sl (qaa (qaa (qbc [45] z3 n))) .non,.int .i64 n]] [] [138])) (.ite (qbq [45] z3 n) (.ite (qfd z4 n) (.ret (PR.pan (.iface 172 (.agg [.int .i64 (qdR z4 n)])),Store.mk [[.sl (qaa (qaa (qdN z4 n))) .non,.int .i64 n]] [] [138])) (.ite (qeG z4 n) (.ret (PR.val (.agg [.bool z2,.str (qcP z4 n),.sl (qaa (qaa (qfb z4 n))) .non]),Store.mk [[.sl (qaa (qaa (qdm z4 n))) .non,.int .i64 n]] [] [138])) .fail)) .fail)) (.ite (qfd z3 n) (.ret (PR.pan (.iface 172 (.agg [.int .i64 (qdR z3 n)])),Store.mk [[.sl (qaa (qaa (qdN z3 n))) .non,.int .i64 n]] [] [138])) (.ite (qeG z3 n) (.ret (PR.val (.agg [.bool z2,.str (qcP z3 n),.sl (qaa (qaa (qfb z3 n))) .non]),Store.mk [[.sl (qaa (qaa (qdm z3 n))) .non,.int .i64 n]] [] [138])) .fail))) .fail
theorem qPK (r:qR) (n:Int):(nrmM tbT qGS qLD Tryz.f142 [.ptr 0 0] ⟨[[.sl r .non,.int .i64 n]],[],[138]⟩).flat=qs5 r n:=by kernel_rfl
def qhX (r:qR) (n:Int):Option (PR×Store):=(qs5 r n).run
def qjF (r:qR) (n:Int):Int:=(gInt (gAt (gCs (gAt (gCs (gOut (qak (qhX r n)) 0)) 0)) 0))
def qjo (r:qR) (n:Int):qR:=(gRow (gAt (gObj (qak (qhX r n)) 0) 0))
def qnG (r:qR) (n:Int):Bool:=isW (qhX r n) ((.pan (.iface 172 (.agg [.int .i64 (qjF r n)]))),⟨[[.sl (qjo r n) .non,.int .i64 n]],[],[138]⟩)
def qjL (r:qR) (n:Int):Bool:=(qbQ (gAt (gCs (gOut (qak (qhX r n)) 0)) 0))
def qj7 (r:qR) (n:Int):qU:=(gStr (gAt (gCs (gOut (qak (qhX r n)) 0)) 1))
def qi8 (r:qR) (n:Int):qR:=(gRow (gAt (gCs (gOut (qak (qhX r n)) 0)) 2))
def qgm (r:qR) (n:Int):qR:=(gRow (gAt (gObj (qak (qhX r n)) 0) 0))
def qmN (r:qR) (n:Int):Bool:=isW (qhX r n) ((.val (.agg [.bool (qjL r n),.str (qj7 r n),.sl (qi8 r n) .non])),⟨[[.sl (qgm r n) .non,.int .i64 n]],[],[138]⟩)
def qC4:List PV→Store→Tr (PR×Store)|[.ptr 0 0],⟨[[.sl r .non,.int .i64 n]],[],[138]⟩=>.ite (qnG r n) (.ret ((.pan (.iface 172 (.agg [.int .i64 (qjF r n)]))),⟨[[.sl (qjo r n) .non,.int .i64 n]],[],[138]⟩)) (.ite (qmN r n) (.ret ((.val (.agg [.bool (qjL r n),.str (qj7 r n),.sl (qi8 r n) .non])),⟨[[.sl (qgm r n) .non,.int .i64 n]],[],[138]⟩)) (.fail))|_,_=>.fail
theorem qCw (gl:Gl):SimM Tryz.prog gl 142 fun args σ=>(qC4 args σ).run:=by
 refine SimM.of_nrm (G:=qGS) (L:=qLD) qai (qKw gl ) qah Tryz.func142 rfl (by rfl) (by kernel_rfl) (qac (by kernel_rfl)) ?_
 intro args σ x h;unfold qC4 at h
 split at h
 ·exact (congrArg Tr.run (qPK _ _)).trans (qae h fun h=>qae h fun h=>by cases h)
 ·cases h
def qEH:GamT:=ofL [(106,.may (frameT qcb)),(142,.may (frameT qC4)),(qc6,.flag)]
theorem qGL (gl:Gl):qam Tryz.prog gl (gam qEH):=(qaj (SimM.frameT (qbm gl)) (qaj (SimM.frameT (qCw gl)) (qbp qag)))
def qzi:Code:=qc3 Tryz.f141 2
def qyK:LI:=⟨17,[0,1,5],fun e=>match e with|.exit 0=>[5]|_=>[],false⟩
def qwM:LpsT:=fun r fr σ=>.fail
def qh1 (vs:List PV) (σ:Store):Option (PExit×List PV×Store):=lval (lstep tbT qEH qwM qzi qyK) vs σ
def qsn (l r:qR) (n:Int):Tr LR:=let z1:=qaa (qbh 6 [44] (qad r) n);let z2:=qad z1;let z3:qR:=[[.bool (qjL z2 n),.str (qj7 z2 n),.sl (qaa (qi8 z2 n)) .non]];.ite (qaN 6 [44] (qad r) n) (.ite (qbd 6 [44] (qad r) n) (.ite (qnG z2 n) (.ret (.out (.pan (.iface 172 (.agg [.int .i64 (qjF z2 n)]))) [] (Store.mk [[.sl (qaa (qjo z2 n)) .non,.int .i64 n]] [] [138]))) (.ite (qmN z2 n) (.ite (qaz l z3 48) (.ite (qar z3 3) (.ite (qan l 3) (.ret (.next [.ptr 0 0,.mth 142 [.ptr 0 0],.sl (xApp l z3) (.tok 0)] (Store.mk [[.sl (qaa (qgm z2 n)) .non,.int .i64 n]] [(nXs (xApp l z3),3,116)] [138]))) .fail) .fail) .fail) .fail)) (.ret (.out (.exit 0) [.sl l .full] (Store.mk [[.sl z1 .non,.int .i64 n]] [] [138])))) .fail
theorem qPs (l r:qR) (n:Int):lstep tbT qEH qwM qzi qyK [.ptr 0 0,.mth 142 [.ptr 0 0],.sl l .full] ⟨[[.sl r .non,.int .i64 n]],[],[138]⟩=qsn l r n:=by kernel_rfl
theorem qP0 (l r:qR) (n:Int):qh1 [.ptr 0 0,.mth 142 [.ptr 0 0],.sl l .full] ⟨[[.sl r .non,.int .i64 n]],[],[138]⟩=lnext qh1 (qsn l r n).run:=by unfold qh1;rw [qaJ,qPs]
def qlZ (l r:qR) (n:Int) (k:Nat):Tr LR:=let z1:=qaa (qbh 6 [44] (qad r) n);let z2:=qad z1;let z3:qR:=[[.bool (qjL z2 n),.str (qj7 z2 n),.sl (qaa (qi8 z2 n)) .non]];.ite (qaN 6 [44] (qad r) n) (.ite (qbd 6 [44] (qad r) n) (.ite (qnG z2 n) (.ret (.out (.pan (.iface 172 (.agg [.int .i64 (qjF z2 n)]))) [] (Store.mk [[.sl (qaa (qjo z2 n)) .non,.int .i64 n]] [(k,3,116)] [138]))) (.ite (qmN z2 n) (.ite (qaz l z3 48) (.ite (qar z3 3) (.ite (qan l 3) (.ite (nEq k (nXs l)) (.ret (.next [.ptr 0 0,.mth 142 [.ptr 0 0],.sl (xApp l z3) (.tok 0)] (Store.mk [[.sl (qaa (qgm z2 n)) .non,.int .i64 n]] [(nXs (xApp l z3),3,116)] [138]))) .fail) .fail) .fail) .fail) .fail)) (.ret (.out (.exit 0) [.sl l (.tok 0)] (Store.mk [[.sl z1 .non,.int .i64 n]] [(k,3,116)] [138])))) .fail
theorem qOy (l r:qR) (n:Int) (k:Nat):lstep tbT qEH qwM qzi qyK [.ptr 0 0,.mth 142 [.ptr 0 0],.sl l (.tok 0)] ⟨[[.sl r .non,.int .i64 n]],[(k,3,116)],[138]⟩=qlZ l r n k:=by kernel_rfl
theorem qMt (l r:qR) (n:Int) (k:Nat):qh1 [.ptr 0 0,.mth 142 [.ptr 0 0],.sl l (.tok 0)] ⟨[[.sl r .non,.int .i64 n]],[(k,3,116)],[138]⟩=lnext qh1 (qlZ l r n k).run:=by unfold qh1;rw [qaJ,qOy]
def qd4 (l r:qR) (n:Int):Option (PExit×List PV×Store):=qh1 [.ptr 0 0,.mth 142 [.ptr 0 0],.sl l .full] ⟨[[.sl r .non,.int .i64 n]],[],[138]⟩
def qqP (l r:qR) (n:Int):Int:=(gInt (gAt (gCs (gAt (gCs (gPan (qd4 l r n))) 0)) 0))
def qpX (l r:qR) (n:Int):qR:=(gRow (gAt (gObj (qd4 l r n) 0) 0))
def qxs (l r:qR) (n:Int):Bool:=isW (qd4 l r n) ((.pan (.iface 172 (.agg [.int .i64 (qqP l r n)]))),[],⟨[[.sl (qpX l r n) .non,.int .i64 n]],[],[138]⟩)
def qrq (l r:qR) (n:Int):qR:=(gRow (gOut (qd4 l r n) 0))
def qp6 (l r:qR) (n:Int):qR:=(gRow (gAt (gObj (qd4 l r n) 0) 0))
def qyn (l r:qR) (n:Int):Bool:=isW (qd4 l r n) ((.exit 0),[.sl (qrq l r n) .full],⟨[[.sl (qp6 l r n) .non,.int .i64 n]],[],[138]⟩)
def qqp (l r:qR) (n:Int):Int:=(gInt (gAt (gCs (gAt (gCs (gPan (qd4 l r n))) 0)) 0))
def qrn (l r:qR) (n:Int):qR:=(gRow (gAt (gObj (qd4 l r n) 0) 0))
def qxr (l r:qR) (n:Int):Nat:=(gTok (qd4 l r n) 0)
def qvl (l r:qR) (n:Int):Bool:=isW (qd4 l r n) ((.pan (.iface 172 (.agg [.int .i64 (qqp l r n)]))),[],⟨[[.sl (qrn l r n) .non,.int .i64 n]],[((qxr l r n),3,116)],[138]⟩)
def qro (l r:qR) (n:Int):qR:=(gRow (gOut (qd4 l r n) 0))
def qqw (l r:qR) (n:Int):qR:=(gRow (gAt (gObj (qd4 l r n) 0) 0))
def qvM (l r:qR) (n:Int):Nat:=(gTok (qd4 l r n) 0)
def qxu (l r:qR) (n:Int):Bool:=isW (qd4 l r n) ((.exit 0),[.sl (qro l r n) (.tok 0)],⟨[[.sl (qqw l r n) .non,.int .i64 n]],[((qvM l r n),3,116)],[138]⟩)
def qmn:List PV→Store→Tr (PExit×List PV×Store)|[.ptr 0 0,.mth 142 [.ptr 0 0],.sl l .full],⟨[[.sl r .non,.int .i64 n]],[],[138]⟩=>.ite (qxs l r n) (.ret ((.pan (.iface 172 (.agg [.int .i64 (qqP l r n)]))),[],⟨[[.sl (qpX l r n) .non,.int .i64 n]],[],[138]⟩)) (.ite (qyn l r n) (.ret ((.exit 0),[.sl (qrq l r n) .full],⟨[[.sl (qp6 l r n) .non,.int .i64 n]],[],[138]⟩)) (.ite (qvl l r n) (.ret ((.pan (.iface 172 (.agg [.int .i64 (qqp l r n)]))),[],⟨[[.sl (qrn l r n) .non,.int .i64 n]],[((qxr l r n),3,116)],[138]⟩)) (.ite (qxu l r n) (.ret ((.exit 0),[.sl (qro l r n) (.tok 0)],⟨[[.sl (qqw l r n) .non,.int .i64 n]],[((qvM l r n),3,116)],[138]⟩)) (.fail))))|_,_=>.fail
theorem qNP:∀ vs σ r,(qmn vs σ).run=some r→qh1 vs σ=some r:=by
 intro vs σ r h;unfold qmn at h
 split at h
 ·exact qae h fun h=>qae h fun h=>qae h fun h=>qae h fun h=>by cases h
 ·cases h
theorem qHR (gl:Gl):∀ fr σ e fr' σ',(orc qyK qmn fr σ).run=some (e,fr',σ')→LDoes Tryz.prog gl qzi fr σ e fr' σ':=qbu qai (qGL gl ) qah (L:=qwM) (qac (by kernel_rfl)) (by kernel_rfl) qNP
def qNM:LpsT:=fun r fr σ=>bif Nat.beq r 2 then orc qyK qmn fr σ else .fail
def qzJ (r:qR) (n:Int):Tr (PR×Store):=let z1:=qad (qad r);let z2:qR:=[[.bool (qjL z1 n),.str (qj7 z1 n),.sl (qaa (qi8 z1 n)) .non]];let z3:=qaa (qgm z1 n);.ite (qnG z1 n) (.ret (PR.pan (.iface 172 (.agg [.int .i64 (qjF z1 n)])),Store.mk [[.sl (qaa (qaa (qjo z1 n))) .non,.int .i64 n]] [] [138])) (.ite (qmN z1 n) (.ite (qxs z2 z3 n) (.ret (PR.pan (.iface 172 (.agg [.int .i64 (qqP z2 z3 n)])),Store.mk [[.sl (qaa (qpX z2 z3 n)) .non,.int .i64 n]] [] [138])) (.ite (qyn z2 z3 n) (.ret (PR.val (.sl (qaa (qrq z2 z3 n)) .non),Store.mk [[.sl (qaa (qp6 z2 z3 n)) .non,.int .i64 n]] [] [138])) (.ite (qvl z2 z3 n) (.ret (PR.pan (.iface 172 (.agg [.int .i64 (qqp z2 z3 n)])),Store.mk [[.sl (qaa (qrn z2 z3 n)) .non,.int .i64 n]] [] [138])) (.ite (qxu z2 z3 n) (.ret (PR.val (.sl (qaa (qro z2 z3 n)) .non),Store.mk [[.sl (qaa (qqw z2 z3 n)) .non,.int .i64 n]] [] [138])) .fail)))) .fail)
theorem qQE (r:qR) (n:Int):(nrmM tbT qEH qNM Tryz.f141 [.ptr 0 0,.mth 142 [.ptr 0 0]] ⟨[[.sl r .non,.int .i64 n]],[],[138]⟩).flat=qzJ r n:=by kernel_rfl
def qtW (r:qR) (n:Int):Option (PR×Store):=(qzJ r n).run
def qvX (r:qR) (n:Int):Int:=(gInt (gAt (gCs (gAt (gCs (gOut (qak (qtW r n)) 0)) 0)) 0))
def qyo (r:qR) (n:Int):qR:=(gRow (gAt (gObj (qak (qtW r n)) 0) 0))
def qAe (r:qR) (n:Int):Bool:=isW (qtW r n) ((.pan (.iface 172 (.agg [.int .i64 (qvX r n)]))),⟨[[.sl (qyo r n) .non,.int .i64 n]],[],[138]⟩)
def qv8 (r:qR) (n:Int):qR:=(gRow (gOut (qak (qtW r n)) 0))
def qpC (r:qR) (n:Int):qR:=(gRow (gAt (gObj (qak (qtW r n)) 0) 0))
def qCk (r:qR) (n:Int):Bool:=isW (qtW r n) ((.val (.sl (qv8 r n) .non)),⟨[[.sl (qpC r n) .non,.int .i64 n]],[],[138]⟩)
def qMU:List PV→Store→Tr (PR×Store)|[.ptr 0 0,.mth 142 [.ptr 0 0]],⟨[[.sl r .non,.int .i64 n]],[],[138]⟩=>.ite (qAe r n) (.ret ((.pan (.iface 172 (.agg [.int .i64 (qvX r n)]))),⟨[[.sl (qyo r n) .non,.int .i64 n]],[],[138]⟩)) (.ite (qCk r n) (.ret ((.val (.sl (qv8 r n) .non)),⟨[[.sl (qpC r n) .non,.int .i64 n]],[],[138]⟩)) (.fail))|_,_=>.fail
theorem qLW (gl:Gl):SimM Tryz.prog gl 141 fun args σ=>(qMU args σ).run:=by
 refine SimM.of_nrm (G:=qEH) (L:=qNM) qai (qGL gl ) qah Tryz.func141 rfl (by rfl) (by kernel_rfl) (qax (L:=lps qNM) [(2,qzi)] (by kernel_rfl) (List.forall_mem_cons.2 ⟨fun fr σ e fr' σ' h=>qHR gl  fr σ e fr' σ' h,(List.forall_mem_nil _)⟩)) ?_
 intro args σ x h;unfold qMU at h
 split at h
 ·exact (congrArg Tr.run (qQE _ _)).trans (qae h fun h=>qae h fun h=>by cases h)
 ·cases h
def qvs:GamT:=ofL [(138,.may (frameT quU)),(150,.may (frameT qsx))]
theorem qEw (gl:Gl):qam Tryz.prog gl (gam qvs):=(qaj (SimM.frameT (qq5 gl)) (qaj (SimM.frameT (qrZ gl)) qag))
def qD0:LpsT:=fun r fr σ=>.fail
def qmt (r:qR) (n:Int):Tr (PR×Store):=let z1:=qad (qad r);let z2:=qad (qaa (qf8 2 [] z1 n));.ite (qis 2 [] z1 n) (.ret (PR.pan (.iface 172 (.agg [.int .i64 (qfR 2 [] z1 n)])),Store.mk [[.sl (qaa (qaa (qf4 2 [] z1 n))) .non,.int .i64 n]] [] [138])) (.ite (qie 2 [] z1 n) (.ite (qjp z2 n) (.ret (PR.val (.agg [.str (qmh 2 [] z1 n),.int .i64 (qha z2 n)]),Store.mk [[.sl (qaa (qaa (qgI z2 n))) .non,.int .i64 n]] [] [138])) (.ite (qkv z2 n) (.ret (PR.pan (.iface 172 (.agg [.int .i64 (qhG z2 n)])),Store.mk [[.sl (qaa (qaa (qgL z2 n))) .non,.int .i64 n]] [] [138])) .fail)) .fail)
theorem qKH (r:qR) (n:Int):(nrmM tbT qvs qD0 Tryz.f140 [.ptr 0 0] ⟨[[.sl r .non,.int .i64 n]],[],[138]⟩).flat=qmt r n:=by kernel_rfl
def qdE (r:qR) (n:Int):Option (PR×Store):=(qmt r n).run
def qek (r:qR) (n:Int):Int:=(gInt (gAt (gCs (gAt (gCs (gOut (qak (qdE r n)) 0)) 0)) 0))
def qem (r:qR) (n:Int):qR:=(gRow (gAt (gObj (qak (qdE r n)) 0) 0))
def qgj (r:qR) (n:Int):Bool:=isW (qdE r n) ((.pan (.iface 172 (.agg [.int .i64 (qek r n)]))),⟨[[.sl (qem r n) .non,.int .i64 n]],[],[138]⟩)
def qer (r:qR) (n:Int):qU:=(gStr (gAt (gCs (gOut (qak (qdE r n)) 0)) 0))
def qeh (r:qR) (n:Int):Int:=(gInt (gAt (gCs (gOut (qak (qdE r n)) 0)) 1))
def qei (r:qR) (n:Int):qR:=(gRow (gAt (gObj (qak (qdE r n)) 0) 0))
def qf7 (r:qR) (n:Int):Bool:=isW (qdE r n) ((.val (.agg [.str (qer r n),.int .i64 (qeh r n)])),⟨[[.sl (qei r n) .non,.int .i64 n]],[],[138]⟩)
def qm7:List PV→Store→Tr (PR×Store)|[.ptr 0 0],⟨[[.sl r .non,.int .i64 n]],[],[138]⟩=>.ite (qgj r n) (.ret ((.pan (.iface 172 (.agg [.int .i64 (qek r n)]))),⟨[[.sl (qem r n) .non,.int .i64 n]],[],[138]⟩)) (.ite (qf7 r n) (.ret ((.val (.agg [.str (qer r n),.int .i64 (qeh r n)])),⟨[[.sl (qei r n) .non,.int .i64 n]],[],[138]⟩)) (.fail))|_,_=>.fail
theorem qoG (gl:Gl):SimM Tryz.prog gl 140 fun args σ=>(qm7 args σ).run:=by
 refine SimM.of_nrm (G:=qvs) (L:=qD0) qai (qEw gl ) qah Tryz.func140 rfl (by rfl) (by kernel_rfl) (qac (by kernel_rfl)) ?_
 intro args σ x h;unfold qm7 at h
 split at h
 ·exact (congrArg Tr.run (qKH _ _)).trans (qae h fun h=>qae h fun h=>by cases h)
 ·cases h
def qEk:GamT:=ofL [(106,.may (frameT qcb)),(140,.may (frameT qm7)),(qc6,.flag)]
theorem qH4 (gl:Gl):qam Tryz.prog gl (gam qEk):=(qaj (SimM.frameT (qbm gl)) (qaj (SimM.frameT (qoG gl)) (qbp qag)))
def qy7:Code:=qc3 Tryz.f162 2
def qzP:LI:=⟨17,[0,1,5],fun e=>match e with|.exit 0=>[5]|_=>[],false⟩
def qwR:LpsT:=fun r fr σ=>.fail
def qhZ (vs:List PV) (σ:Store):Option (PExit×List PV×Store):=lval (lstep tbT qEk qwR qy7 qzP) vs σ
def qsj (l r:qR) (n:Int):Tr LR:=let z1:=qaa (qbh 6 [44] (qad r) n);let z2:=qad z1;let z3:qR:=[[.str (qer z2 n),.int .i64 (qeh z2 n)]];.ite (qaN 6 [44] (qad r) n) (.ite (qbd 6 [44] (qad r) n) (.ite (qgj z2 n) (.ret (.out (.pan (.iface 172 (.agg [.int .i64 (qek z2 n)]))) [] (Store.mk [[.sl (qaa (qem z2 n)) .non,.int .i64 n]] [] [138]))) (.ite (qf7 z2 n) (.ite (qaz l z3 24) (.ite (qar z3 2) (.ite (qan l 2) (.ret (.next [.ptr 0 0,.mth 140 [.ptr 0 0],.sl (xApp l z3) (.tok 0)] (Store.mk [[.sl (qaa (qei z2 n)) .non,.int .i64 n]] [(nXs (xApp l z3),2,114)] [138]))) .fail) .fail) .fail) .fail)) (.ret (.out (.exit 0) [.sl l .full] (Store.mk [[.sl z1 .non,.int .i64 n]] [] [138])))) .fail
theorem qO6 (l r:qR) (n:Int):lstep tbT qEk qwR qy7 qzP [.ptr 0 0,.mth 140 [.ptr 0 0],.sl l .full] ⟨[[.sl r .non,.int .i64 n]],[],[138]⟩=qsj l r n:=by kernel_rfl
theorem qPI (l r:qR) (n:Int):qhZ [.ptr 0 0,.mth 140 [.ptr 0 0],.sl l .full] ⟨[[.sl r .non,.int .i64 n]],[],[138]⟩=lnext qhZ (qsj l r n).run:=by unfold qhZ;rw [qaJ,qO6]
def qmo (l r:qR) (n:Int) (k:Nat):Tr LR:=let z1:=qaa (qbh 6 [44] (qad r) n);let z2:=qad z1;let z3:qR:=[[.str (qer z2 n),.int .i64 (qeh z2 n)]];.ite (qaN 6 [44] (qad r) n) (.ite (qbd 6 [44] (qad r) n) (.ite (qgj z2 n) (.ret (.out (.pan (.iface 172 (.agg [.int .i64 (qek z2 n)]))) [] (Store.mk [[.sl (qaa (qem z2 n)) .non,.int .i64 n]] [(k,2,114)] [138]))) (.ite (qf7 z2 n) (.ite (qaz l z3 24) (.ite (qar z3 2) (.ite (qan l 2) (.ite (nEq k (nXs l)) (.ret (.next [.ptr 0 0,.mth 140 [.ptr 0 0],.sl (xApp l z3) (.tok 0)] (Store.mk [[.sl (qaa (qei z2 n)) .non,.int .i64 n]] [(nXs (xApp l z3),2,114)] [138]))) .fail) .fail) .fail) .fail) .fail)) (.ret (.out (.exit 0) [.sl l (.tok 0)] (Store.mk [[.sl z1 .non,.int .i64 n]] [(k,2,114)] [138])))) .fail
theorem qMJ (l r:qR) (n:Int) (k:Nat):lstep tbT qEk qwR qy7 qzP [.ptr 0 0,.mth 140 [.ptr 0 0],.sl l (.tok 0)] ⟨[[.sl r .non,.int .i64 n]],[(k,2,114)],[138]⟩=qmo l r n k:=by kernel_rfl
theorem qO1 (l r:qR) (n:Int) (k:Nat):qhZ [.ptr 0 0,.mth 140 [.ptr 0 0],.sl l (.tok 0)] ⟨[[.sl r .non,.int .i64 n]],[(k,2,114)],[138]⟩=lnext qhZ (qmo l r n k).run:=by unfold qhZ;rw [qaJ,qMJ]
def qd3 (l r:qR) (n:Int):Option (PExit×List PV×Store):=qhZ [.ptr 0 0,.mth 140 [.ptr 0 0],.sl l .full] ⟨[[.sl r .non,.int .i64 n]],[],[138]⟩
def qq1 (l r:qR) (n:Int):Int:=(gInt (gAt (gCs (gAt (gCs (gPan (qd3 l r n))) 0)) 0))
def qrp (l r:qR) (n:Int):qR:=(gRow (gAt (gObj (qd3 l r n) 0) 0))
def qw4 (l r:qR) (n:Int):Bool:=isW (qd3 l r n) ((.pan (.iface 172 (.agg [.int .i64 (qq1 l r n)]))),[],⟨[[.sl (qrp l r n) .non,.int .i64 n]],[],[138]⟩)
def qri (l r:qR) (n:Int):qR:=(gRow (gOut (qd3 l r n) 0))
def qqq (l r:qR) (n:Int):qR:=(gRow (gAt (gObj (qd3 l r n) 0) 0))
def qvW (l r:qR) (n:Int):Bool:=isW (qd3 l r n) ((.exit 0),[.sl (qri l r n) .full],⟨[[.sl (qqq l r n) .non,.int .i64 n]],[],[138]⟩)
def qqK (l r:qR) (n:Int):Int:=(gInt (gAt (gCs (gAt (gCs (gPan (qd3 l r n))) 0)) 0))
def qpK (l r:qR) (n:Int):qR:=(gRow (gAt (gObj (qd3 l r n) 0) 0))
def qyk (l r:qR) (n:Int):Nat:=(gTok (qd3 l r n) 0)
def qwh (l r:qR) (n:Int):Bool:=isW (qd3 l r n) ((.pan (.iface 172 (.agg [.int .i64 (qqK l r n)]))),[],⟨[[.sl (qpK l r n) .non,.int .i64 n]],[((qyk l r n),2,114)],[138]⟩)
def qqf (l r:qR) (n:Int):qR:=(gRow (gOut (qd3 l r n) 0))
def qpv (l r:qR) (n:Int):qR:=(gRow (gAt (gObj (qd3 l r n) 0) 0))
def qvz (l r:qR) (n:Int):Nat:=(gTok (qd3 l r n) 0)
def qwX (l r:qR) (n:Int):Bool:=isW (qd3 l r n) ((.exit 0),[.sl (qqf l r n) (.tok 0)],⟨[[.sl (qpv l r n) .non,.int .i64 n]],[((qvz l r n),2,114)],[138]⟩)
def qmA:List PV→Store→Tr (PExit×List PV×Store)|[.ptr 0 0,.mth 140 [.ptr 0 0],.sl l .full],⟨[[.sl r .non,.int .i64 n]],[],[138]⟩=>.ite (qw4 l r n) (.ret ((.pan (.iface 172 (.agg [.int .i64 (qq1 l r n)]))),[],⟨[[.sl (qrp l r n) .non,.int .i64 n]],[],[138]⟩)) (.ite (qvW l r n) (.ret ((.exit 0),[.sl (qri l r n) .full],⟨[[.sl (qqq l r n) .non,.int .i64 n]],[],[138]⟩)) (.ite (qwh l r n) (.ret ((.pan (.iface 172 (.agg [.int .i64 (qqK l r n)]))),[],⟨[[.sl (qpK l r n) .non,.int .i64 n]],[((qyk l r n),2,114)],[138]⟩)) (.ite (qwX l r n) (.ret ((.exit 0),[.sl (qqf l r n) (.tok 0)],⟨[[.sl (qpv l r n) .non,.int .i64 n]],[((qvz l r n),2,114)],[138]⟩)) (.fail))))|_,_=>.fail
theorem qO2:∀ vs σ r,(qmA vs σ).run=some r→qhZ vs σ=some r:=by
 intro vs σ r h;unfold qmA at h
 split at h
 ·exact qae h fun h=>qae h fun h=>qae h fun h=>qae h fun h=>by cases h
 ·cases h
theorem qHf (gl:Gl):∀ fr σ e fr' σ',(orc qzP qmA fr σ).run=some (e,fr',σ')→LDoes Tryz.prog gl qy7 fr σ e fr' σ':=qbu qai (qH4 gl ) qah (L:=qwR) (qac (by kernel_rfl)) (by kernel_rfl) qO2
def qMX:LpsT:=fun r fr σ=>bif Nat.beq r 2 then orc qzP qmA fr σ else .fail
def qzB (r:qR) (n:Int):Tr (PR×Store):=let z1:=qad (qad r);let z2:qR:=[[.str (qer z1 n),.int .i64 (qeh z1 n)]];let z3:=qaa (qei z1 n);.ite (qgj z1 n) (.ret (PR.pan (.iface 172 (.agg [.int .i64 (qek z1 n)])),Store.mk [[.sl (qaa (qaa (qem z1 n))) .non,.int .i64 n]] [] [138])) (.ite (qf7 z1 n) (.ite (qw4 z2 z3 n) (.ret (PR.pan (.iface 172 (.agg [.int .i64 (qq1 z2 z3 n)])),Store.mk [[.sl (qaa (qrp z2 z3 n)) .non,.int .i64 n]] [] [138])) (.ite (qvW z2 z3 n) (.ret (PR.val (.sl (qaa (qri z2 z3 n)) .non),Store.mk [[.sl (qaa (qqq z2 z3 n)) .non,.int .i64 n]] [] [138])) (.ite (qwh z2 z3 n) (.ret (PR.pan (.iface 172 (.agg [.int .i64 (qqK z2 z3 n)])),Store.mk [[.sl (qaa (qpK z2 z3 n)) .non,.int .i64 n]] [] [138])) (.ite (qwX z2 z3 n) (.ret (PR.val (.sl (qaa (qqf z2 z3 n)) .non),Store.mk [[.sl (qaa (qpv z2 z3 n)) .non,.int .i64 n]] [] [138])) .fail)))) .fail)
theorem qQD (r:qR) (n:Int):(nrmM tbT qEk qMX Tryz.f162 [.ptr 0 0,.mth 140 [.ptr 0 0]] ⟨[[.sl r .non,.int .i64 n]],[],[138]⟩).flat=qzB r n:=by kernel_rfl
def qtI (r:qR) (n:Int):Option (PR×Store):=(qzB r n).run
def qwW (r:qR) (n:Int):Int:=(gInt (gAt (gCs (gAt (gCs (gOut (qak (qtI r n)) 0)) 0)) 0))
def qw9 (r:qR) (n:Int):qR:=(gRow (gAt (gObj (qak (qtI r n)) 0) 0))
def qCj (r:qR) (n:Int):Bool:=isW (qtI r n) ((.pan (.iface 172 (.agg [.int .i64 (qwW r n)]))),⟨[[.sl (qw9 r n) .non,.int .i64 n]],[],[138]⟩)
def qwC (r:qR) (n:Int):qR:=(gRow (gOut (qak (qtI r n)) 0))
def qpU (r:qR) (n:Int):qR:=(gRow (gAt (gObj (qak (qtI r n)) 0) 0))
def qAN (r:qR) (n:Int):Bool:=isW (qtI r n) ((.val (.sl (qwC r n) .non)),⟨[[.sl (qpU r n) .non,.int .i64 n]],[],[138]⟩)
def qN4:List PV→Store→Tr (PR×Store)|[.ptr 0 0,.mth 140 [.ptr 0 0]],⟨[[.sl r .non,.int .i64 n]],[],[138]⟩=>.ite (qCj r n) (.ret ((.pan (.iface 172 (.agg [.int .i64 (qwW r n)]))),⟨[[.sl (qw9 r n) .non,.int .i64 n]],[],[138]⟩)) (.ite (qAN r n) (.ret ((.val (.sl (qwC r n) .non)),⟨[[.sl (qpU r n) .non,.int .i64 n]],[],[138]⟩)) (.fail))|_,_=>.fail
theorem qM6 (gl:Gl):SimM Tryz.prog gl 162 fun args σ=>(qN4 args σ).run:=by
 refine SimM.of_nrm (G:=qEk) (L:=qMX) qai (qH4 gl ) qah Tryz.func162 rfl (by rfl) (by kernel_rfl) (qax (L:=lps qMX) [(2,qy7)] (by kernel_rfl) (List.forall_mem_cons.2 ⟨fun fr σ e fr' σ' h=>qHf gl  fr σ e fr' σ' h,(List.forall_mem_nil _)⟩)) ?_
 intro args σ x h;unfold qN4 at h
 split at h
 ·exact (congrArg Tr.run (qQD _ _)).trans (qae h fun h=>qae h fun h=>by cases h)
 ·cases h
def qNu:GamT:=ofL [(106,.may (frameT qcb)),(109,.may (frameT qhR)),(140,.may (frameT qm7)),(162,.may (frameT qN4)),(qc6,.flag)]
theorem qOt (gl:Gl):qam Tryz.prog gl (gam qNu):=(qaj (SimM.frameT (qbm gl)) (qaj (SimM.frameT (qeO gl)) (qaj (SimM.frameT (qoG gl)) (qaj (SimM.frameT (qM6 gl)) (qbp qag)))))
def qP3:LpsT:=fun r fr σ=>.fail
def qsd (r:qR) (n:Int):Tr (PR×Store):=let z1:=qad (qad r);let z2:=qad (qaa (qbe [40] z1 n));let z3:=qaa (qbh 6 [41] z2 n);let z4:=qad z3;let z5:=qad (qaa (qpU z4 n));.ite (qbn [40] z1 n) (.ret (PR.pan (.iface 172 (.agg [.int .i64 (qbg [40] z1 n)])),Store.mk [[.sl (qaa (qaa (qbc [40] z1 n))) .non,.int .i64 n]] [] [138])) (.ite (qbq [40] z1 n) (.ite (qaN 6 [41] z2 n) (.ite (qbd 6 [41] z2 n) (.ret (PR.val (.sl [] .non),Store.mk [[.sl (qaa z3) .non,.int .i64 n]] [] [138])) (.ite (qCj z4 n) (.ret (PR.pan (.iface 172 (.agg [.int .i64 (qwW z4 n)])),Store.mk [[.sl (qaa (qaa (qw9 z4 n))) .non,.int .i64 n]] [] [138])) (.ite (qAN z4 n) (.ite (qbn [41] z5 n) (.ret (PR.pan (.iface 172 (.agg [.int .i64 (qbg [41] z5 n)])),Store.mk [[.sl (qaa (qaa (qbc [41] z5 n))) .non,.int .i64 n]] [] [138])) (.ite (qbq [41] z5 n) (.ret (PR.val (.sl (qaa (qaa (qwC z4 n))) .non),Store.mk [[.sl (qaa (qaa (qbe [41] z5 n))) .non,.int .i64 n]] [] [138])) .fail)) .fail))) .fail) .fail)
theorem qQc (r:qR) (n:Int):(nrmM tbT qNu qP3 Tryz.f139 [.ptr 0 0,.mth 140 [.ptr 0 0]] ⟨[[.sl r .non,.int .i64 n]],[],[138]⟩).flat=qsd r n:=by kernel_rfl
def qps (r:qR) (n:Int):Option (PR×Store):=(qsd r n).run
def qvh (r:qR) (n:Int):Int:=(gInt (gAt (gCs (gAt (gCs (gOut (qak (qps r n)) 0)) 0)) 0))
def qw6 (r:qR) (n:Int):qR:=(gRow (gAt (gObj (qak (qps r n)) 0) 0))
def qAn (r:qR) (n:Int):Bool:=isW (qps r n) ((.pan (.iface 172 (.agg [.int .i64 (qvh r n)]))),⟨[[.sl (qw6 r n) .non,.int .i64 n]],[],[138]⟩)
def qws (r:qR) (n:Int):qR:=(gRow (gOut (qak (qps r n)) 0))
def qpQ (r:qR) (n:Int):qR:=(gRow (gAt (gObj (qak (qps r n)) 0) 0))
def qBc (r:qR) (n:Int):Bool:=isW (qps r n) ((.val (.sl (qws r n) .non)),⟨[[.sl (qpQ r n) .non,.int .i64 n]],[],[138]⟩)
def qMa:List PV→Store→Tr (PR×Store)|[.ptr 0 0,.mth 140 [.ptr 0 0]],⟨[[.sl r .non,.int .i64 n]],[],[138]⟩=>.ite (qAn r n) (.ret ((.pan (.iface 172 (.agg [.int .i64 (qvh r n)]))),⟨[[.sl (qw6 r n) .non,.int .i64 n]],[],[138]⟩)) (.ite (qBc r n) (.ret ((.val (.sl (qws r n) .non)),⟨[[.sl (qpQ r n) .non,.int .i64 n]],[],[138]⟩)) (.fail))|_,_=>.fail
theorem qMc (gl:Gl):SimM Tryz.prog gl 139 fun args σ=>(qMa args σ).run:=by
 refine SimM.of_nrm (G:=qNu) (L:=qP3) qai (qOt gl ) qah Tryz.func139 rfl (by rfl) (by kernel_rfl) (qac (by kernel_rfl)) ?_
 intro args σ x h;unfold qMa at h
 split at h
 ·exact (congrArg Tr.run (qQc _ _)).trans (qae h fun h=>qae h fun h=>by cases h)
 ·cases h
def qNb:GamT:=ofL [(106,.may (frameT qcb)),(109,.may (frameT qhR)),(111,.may (frameT qts)),(136,.may (frameT qid)),(139,.may (frameT qMa)),(140,.may (frameT qm7)),(141,.may (frameT qMU)),(142,.may (frameT qC4)),(qc6,.flag)]
theorem qOh (gl:Gl):qam Tryz.prog gl (gam qNb):=(qaj (SimM.frameT (qbm gl)) (qaj (SimM.frameT (qeO gl)) (qaj (SimM.frameT (qrD gl)) (qaj (SimM.frameT (qgd gl)) (qaj (SimM.frameT (qMc gl)) (qaj (SimM.frameT (qoG gl)) (qaj (SimM.frameT (qLW gl)) (qaj (SimM.frameT (qCw gl)) (qbp qag)))))))))
def qPM:LpsT:=fun r fr σ=>.fail
def qsJ (r:qR) (n:Int):Tr (PR×Store):=let z1:=qad (qaa (qgX (qad (qad r)) n));let z2:=qad (qaa (qga z1 n));let z3:=qad (qaa (qpQ z2 n));let z4:=qad (qaa (qbh 6 [58] z3 n));let z5:=qad (qaa (qpC z4 n));let z6:=qaa (qaa (qws z2 n));.ite (qcT (qad (qad r)) n) (.ite (qiA z1 n) (.ret (PR.pan (.iface 172 (.agg [.int .i64 (qf1 z1 n)])),Store.mk [[.sl (qaa (qaa (qge z1 n))) .non,.int .i64 n]] [] [138])) (.ite (qik z1 n) (.ite (qAn z2 n) (.ret (PR.pan (.iface 172 (.agg [.int .i64 (qvh z2 n)])),Store.mk [[.sl (qaa (qaa (qw6 z2 n))) .non,.int .i64 n]] [] [138])) (.ite (qBc z2 n) (.ite (qaN 6 [58] z3 n) (.ite (qbd 6 [58] z3 n) (.ite (qAe z4 n) (.ret (PR.pan (.iface 172 (.agg [.int .i64 (qvX z4 n)])),Store.mk [[.sl (qaa (qaa (qyo z4 n))) .non,.int .i64 n]] [] [138])) (.ite (qCk z4 n) (.ite (qbn [46] z5 n) (.ret (PR.pan (.iface 172 (.agg [.int .i64 (qbg [46] z5 n)])),Store.mk [[.sl (qaa (qaa (qbc [46] z5 n))) .non,.int .i64 n]] [] [138])) (.ite (qbq [46] z5 n) (.ret (PR.val (.agg [.str (qeH z1 n),.sl z6 .non,.sl (qaa (qaa (qv8 z4 n))) .non]),Store.mk [[.sl (qaa (qaa (qbe [46] z5 n))) .non,.int .i64 n]] [] [138])) .fail)) .fail)) (.ite (qbn [46] z4 n) (.ret (PR.pan (.iface 172 (.agg [.int .i64 (qbg [46] z4 n)])),Store.mk [[.sl (qaa (qaa (qbc [46] z4 n))) .non,.int .i64 n]] [] [138])) (.ite (qbq [46] z4 n) (.ret (PR.val (.agg [.str (qeH z1 n),.sl z6 .non,.sl [] .non]),Store.mk [[.sl (qaa (qaa (qbe [46] z4 n))) .non,.int .i64 n]] [] [138])) .fail))) .fail) .fail)) .fail)) .fail
theorem qQr (r:qR) (n:Int):(nrmM tbT qNb qPM Tryz.f88 [.ptr 0 0] ⟨[[.sl r .non,.int .i64 n]],[],[138]⟩).flat=qsJ r n:=by kernel_rfl
def qnR (r:qR) (n:Int):Option (PR×Store):=(qsJ r n).run
def qvA (r:qR) (n:Int):Int:=(gInt (gAt (gCs (gAt (gCs (gOut (qak (qnR r n)) 0)) 0)) 0))
def qxM (r:qR) (n:Int):qR:=(gRow (gAt (gObj (qak (qnR r n)) 0) 0))
def qCh (r:qR) (n:Int):Bool:=isW (qnR r n) ((.pan (.iface 172 (.agg [.int .i64 (qvA r n)]))),⟨[[.sl (qxM r n) .non,.int .i64 n]],[],[138]⟩)
def qv4 (r:qR) (n:Int):qU:=(gStr (gAt (gCs (gOut (qak (qnR r n)) 0)) 0))
def qwA (r:qR) (n:Int):qR:=(gRow (gAt (gCs (gOut (qak (qnR r n)) 0)) 1))
def qqe (r:qR) (n:Int):qR:=(gRow (gAt (gCs (gOut (qak (qnR r n)) 0)) 2))
def qpH (r:qR) (n:Int):qR:=(gRow (gAt (gObj (qak (qnR r n)) 0) 0))
def qAA (r:qR) (n:Int):Bool:=isW (qnR r n) ((.val (.agg [.str (qv4 r n),.sl (qwA r n) .non,.sl (qqe r n) .non])),⟨[[.sl (qpH r n) .non,.int .i64 n]],[],[138]⟩)
def qMm:List PV→Store→Tr (PR×Store)|[.ptr 0 0],⟨[[.sl r .non,.int .i64 n]],[],[138]⟩=>.ite (qCh r n) (.ret ((.pan (.iface 172 (.agg [.int .i64 (qvA r n)]))),⟨[[.sl (qxM r n) .non,.int .i64 n]],[],[138]⟩)) (.ite (qAA r n) (.ret ((.val (.agg [.str (qv4 r n),.sl (qwA r n) .non,.sl (qqe r n) .non])),⟨[[.sl (qpH r n) .non,.int .i64 n]],[],[138]⟩)) (.fail))|_,_=>.fail
theorem qN0 (gl:Gl):SimM Tryz.prog gl 88 fun args σ=>(qMm args σ).run:=by
 refine SimM.of_nrm (G:=qNb) (L:=qPM) qai (qOh gl ) qah Tryz.func88 rfl (by rfl) (by kernel_rfl) (qac (by kernel_rfl)) ?_
 intro args σ x h;unfold qMm at h
 split at h
 ·exact (congrArg Tr.run (qQr _ _)).trans (qae h fun h=>qae h fun h=>by cases h)
 ·cases h
def qtk:GamT:=ofL [(47,.may (frameT qvq)),(86,.pure qBj),(87,.may (frameT qBG)),(88,.may (frameT qMm)),(qyZ,.hint [(3,0,3,80),(3,1,3,85),(3,2,3,51)])]
theorem qz7 (gl:Gl):qam Tryz.prog gl (gam qtk):=(qaj (SimM.frameT (qzF gl)) (qaf (qrX gl) (qaj (SimM.frameT (qHz gl)) (qaj (SimM.frameT (qN0 gl)) (qcO (K:=.hint [(3,0,3,80),(3,1,3,85),(3,2,3,51)]) trivial qag)))))
def qp8:Code:=qc3 Tryz.f35 2
def qqM:LI:=⟨41,[0,2,3],fun e=>match e with|.exit 0=>[2,3]|_=>[],false⟩
def qrO:LpsT:=fun r fr σ=>.fail
def qfg (vs:List PV) (σ:Store):Option (PExit×List PV×Store):=lval (lstep tbT qtk qrO qp8 qqM) vs σ
def qbM (r:qR) (n:Int) (r2 r3 r4 r5 r6 r7:qR) (k k2 k3:Nat):Tr LR:=let z1:=qad r;let z2:List PV:=[.sl r2 .full,.sl r3 .full,.sl r4 .full];let z3:List PV:=[.sl r5 (.tok 0),.sl r6 (.tok 1),.sl r7 (.tok 2)];let z4:qR:=[[.str (qmX z1 n),.bool (qna z1 n),.sl (qaa (qme z1 n)) .non]];let z5:List PV:=[.ptr 0 0,.ptr 1 0,.ptr 2 0];let z6:Tr LR:=.ite (qrN z1 n) (.ret (.out (.pan (.iface 172 (.agg [.int .i64 (qnJ z1 n)]))) [] (Store.mk [[.sl (qaa (qml z1 n)) .non,.int .i64 n],z2,z3] [(k,3,80),(k2,3,85),(k3,3,51)] [138,27,27]))) (.ite (qtf z1 n) (.ite (qo9 z3 z3) (.ite (qaz r5 z4 48) (.ite (qar z4 3) (.ite (qan r5 3) (.ite (nEq k (nXs r5)) (.ret (.next z5 (Store.mk [[.sl (qaa (qjw z1 n)) .non,.int .i64 n],z2,[.sl (xApp r5 z4) (.tok 0),.sl r6 (.tok 1),.sl r7 (.tok 2)]] [(nXs (xApp r5 z4),3,80),(k2,3,85),(k3,3,51)] [138,27,27]))) .fail) .fail) .fail) .fail) .fail) .fail);let z7:qR:=[[.str (qv4 z1 n),.sl (qaa (qwA z1 n)) .non,.sl (qaa (qqe z1 n)) .non]];let z8:qR:=[[.str (qiV z1 n),.sl (qaa (qi0 z1 n)) .non,.sl (qaa (qf9 z1 n)) .non]];.ite (iLt 0 (xLen r)) (.ite (qeS z1 n 1 [98,97,115,101]) (.ite (qpn z1 n 1 [98,97,115,101]) z6 (.ite (qeS z1 n 1 [118,105,101,119]) (.ite (qpn z1 n 1 [118,105,101,119]) z6 (.ite (qeS z1 n 1 [111,110]) (.ite (qpn z1 n 1 [111,110]) (.ite (qCh z1 n) (.ret (.out (.pan (.iface 172 (.agg [.int .i64 (qvA z1 n)]))) [] (Store.mk [[.sl (qaa (qxM z1 n)) .non,.int .i64 n],z2,z3] [(k,3,80),(k2,3,85),(k3,3,51)] [138,27,27]))) (.ite (qAA z1 n) (.ite (qo9 z3 z3) (.ite (qaz r6 z7 64) (.ite (qar z7 3) (.ite (qan r6 3) (.ite (nEq k2 (nXs r6)) (.ret (.next z5 (Store.mk [[.sl (qaa (qpH z1 n)) .non,.int .i64 n],z2,[.sl r5 (.tok 0),.sl (xApp r6 z7) (.tok 1),.sl r7 (.tok 2)]] [(k,3,80),(nXs (xApp r6 z7),3,85),(k3,3,51)] [138,27,27]))) .fail) .fail) .fail) .fail) .fail) .fail)) (.ite (qlS z1 n) (.ret (.out (.pan (.iface 172 (.agg [.int .i64 (qin z1 n)]))) [] (Store.mk [[.sl (qaa (qif z1 n)) .non,.int .i64 n],z2,z3] [(k,3,80),(k2,3,85),(k3,3,51)] [138,27,27]))) (.ite (qmK z1 n) (.ite (qo9 z3 z3) (.ite (qaz r7 z8 64) (.ite (qar z8 3) (.ite (qan r7 3) (.ite (nEq k3 (nXs r7)) (.ret (.next z5 (Store.mk [[.sl (qaa (qfM z1 n)) .non,.int .i64 n],z2,[.sl r5 (.tok 0),.sl r6 (.tok 1),.sl (xApp r7 z8) (.tok 2)]] [(k,3,80),(k2,3,85),(nXs (xApp r7 z8),3,51)] [138,27,27]))) .fail) .fail) .fail) .fail) .fail) .fail))) .fail)) .fail)) .fail) (.ret (.out (.exit 0) [.ptr 1 0,.ptr 2 0] (Store.mk [[.sl r .non,.int .i64 n],z2,z3] [(k,3,80),(k2,3,85),(k3,3,51)] [138,27,27])))
theorem qKv (r:qR) (n:Int) (r2 r3 r4 r5 r6 r7:qR) (k k2 k3:Nat):lstep tbT qtk qrO qp8 qqM [.ptr 0 0,.ptr 1 0,.ptr 2 0] ⟨[[.sl r .non,.int .i64 n],[.sl r2 .full,.sl r3 .full,.sl r4 .full],[.sl r5 (.tok 0),.sl r6 (.tok 1),.sl r7 (.tok 2)]],[(k,3,80),(k2,3,85),(k3,3,51)],[138,27,27]⟩=qbM r n r2 r3 r4 r5 r6 r7 k k2 k3:=by kernel_rfl
theorem qwr (r:qR) (n:Int) (r2 r3 r4 r5 r6 r7:qR) (k k2 k3:Nat):qfg [.ptr 0 0,.ptr 1 0,.ptr 2 0] ⟨[[.sl r .non,.int .i64 n],[.sl r2 .full,.sl r3 .full,.sl r4 .full],[.sl r5 (.tok 0),.sl r6 (.tok 1),.sl r7 (.tok 2)]],[(k,3,80),(k2,3,85),(k3,3,51)],[138,27,27]⟩=lnext qfg (qbM r n r2 r3 r4 r5 r6 r7 k k2 k3).run:=by unfold qfg;rw [qaJ,qKv]
def qaT (r:qR) (n:Int) (r2 r3 r4 r5 r6 r7:qR) (k k2 k3:Nat):Option (PExit×List PV×Store):=qfg [.ptr 0 0,.ptr 1 0,.ptr 2 0] ⟨[[.sl r .non,.int .i64 n],[.sl r2 .full,.sl r3 .full,.sl r4 .full],[.sl r5 (.tok 0),.sl r6 (.tok 1),.sl r7 (.tok 2)]],[(k,3,80),(k2,3,85),(k3,3,51)],[138,27,27]⟩
def qko (r:qR) (n:Int) (r2 r3 r4 r5 r6 r7:qR) (k k2 k3:Nat):Int:=(gInt (gAt (gCs (gAt (gCs (gPan (qaT r n r2 r3 r4 r5 r6 r7 k k2 k3))) 0)) 0))
def qjZ (r:qR) (n:Int) (r2 r3 r4 r5 r6 r7:qR) (k k2 k3:Nat):qR:=(gRow (gAt (gObj (qaT r n r2 r3 r4 r5 r6 r7 k k2 k3) 0) 0))
def qkT (r:qR) (n:Int) (r2 r3 r4 r5 r6 r7:qR) (k k2 k3:Nat):qR:=(gRow (gAt (gObj (qaT r n r2 r3 r4 r5 r6 r7 k k2 k3) 1) 0))
def qlN (r:qR) (n:Int) (r2 r3 r4 r5 r6 r7:qR) (k k2 k3:Nat):qR:=(gRow (gAt (gObj (qaT r n r2 r3 r4 r5 r6 r7 k k2 k3) 1) 1))
def qk8 (r:qR) (n:Int) (r2 r3 r4 r5 r6 r7:qR) (k k2 k3:Nat):qR:=(gRow (gAt (gObj (qaT r n r2 r3 r4 r5 r6 r7 k k2 k3) 1) 2))
def qlu (r:qR) (n:Int) (r2 r3 r4 r5 r6 r7:qR) (k k2 k3:Nat):qR:=(gRow (gAt (gObj (qaT r n r2 r3 r4 r5 r6 r7 k k2 k3) 2) 0))
def qla (r:qR) (n:Int) (r2 r3 r4 r5 r6 r7:qR) (k k2 k3:Nat):qR:=(gRow (gAt (gObj (qaT r n r2 r3 r4 r5 r6 r7 k k2 k3) 2) 1))
def qlL (r:qR) (n:Int) (r2 r3 r4 r5 r6 r7:qR) (k k2 k3:Nat):qR:=(gRow (gAt (gObj (qaT r n r2 r3 r4 r5 r6 r7 k k2 k3) 2) 2))
def qnV (r:qR) (n:Int) (r2 r3 r4 r5 r6 r7:qR) (k k2 k3:Nat):Nat:=(gTok (qaT r n r2 r3 r4 r5 r6 r7 k k2 k3) 0)
def qkK (r:qR) (n:Int) (r2 r3 r4 r5 r6 r7:qR) (k k2 k3:Nat):Nat:=(gTok (qaT r n r2 r3 r4 r5 r6 r7 k k2 k3) 1)
def qln (r:qR) (n:Int) (r2 r3 r4 r5 r6 r7:qR) (k k2 k3:Nat):Nat:=(gTok (qaT r n r2 r3 r4 r5 r6 r7 k k2 k3) 2)
def qok (r:qR) (n:Int) (r2 r3 r4 r5 r6 r7:qR) (k k2 k3:Nat):Bool:=isW (qaT r n r2 r3 r4 r5 r6 r7 k k2 k3) ((.pan (.iface 172 (.agg [.int .i64 (qko r n r2 r3 r4 r5 r6 r7 k k2 k3)]))),[],⟨[[.sl (qjZ r n r2 r3 r4 r5 r6 r7 k k2 k3) .non,.int .i64 n],[.sl (qkT r n r2 r3 r4 r5 r6 r7 k k2 k3) .full,.sl (qlN r n r2 r3 r4 r5 r6 r7 k k2 k3) .full,.sl (qk8 r n r2 r3 r4 r5 r6 r7 k k2 k3) .full],[.sl (qlu r n r2 r3 r4 r5 r6 r7 k k2 k3) (.tok 0),.sl (qla r n r2 r3 r4 r5 r6 r7 k k2 k3) (.tok 1),.sl (qlL r n r2 r3 r4 r5 r6 r7 k k2 k3) (.tok 2)]],[((qnV r n r2 r3 r4 r5 r6 r7 k k2 k3),3,80),((qkK r n r2 r3 r4 r5 r6 r7 k k2 k3),3,85),((qln r n r2 r3 r4 r5 r6 r7 k k2 k3),3,51)],[138,27,27]⟩)
def qkk (r:qR) (n:Int) (r2 r3 r4 r5 r6 r7:qR) (k k2 k3:Nat):qR:=(gRow (gAt (gObj (qaT r n r2 r3 r4 r5 r6 r7 k k2 k3) 0) 0))
def qlr (r:qR) (n:Int) (r2 r3 r4 r5 r6 r7:qR) (k k2 k3:Nat):qR:=(gRow (gAt (gObj (qaT r n r2 r3 r4 r5 r6 r7 k k2 k3) 1) 0))
def qkU (r:qR) (n:Int) (r2 r3 r4 r5 r6 r7:qR) (k k2 k3:Nat):qR:=(gRow (gAt (gObj (qaT r n r2 r3 r4 r5 r6 r7 k k2 k3) 1) 1))
def qkY (r:qR) (n:Int) (r2 r3 r4 r5 r6 r7:qR) (k k2 k3:Nat):qR:=(gRow (gAt (gObj (qaT r n r2 r3 r4 r5 r6 r7 k k2 k3) 1) 2))
def qhu (r:qR) (n:Int) (r2 r3 r4 r5 r6 r7:qR) (k k2 k3:Nat):qR:=(gRow (gAt (gObj (qaT r n r2 r3 r4 r5 r6 r7 k k2 k3) 2) 0))
def qg6 (r:qR) (n:Int) (r2 r3 r4 r5 r6 r7:qR) (k k2 k3:Nat):qR:=(gRow (gAt (gObj (qaT r n r2 r3 r4 r5 r6 r7 k k2 k3) 2) 1))
def qhF (r:qR) (n:Int) (r2 r3 r4 r5 r6 r7:qR) (k k2 k3:Nat):qR:=(gRow (gAt (gObj (qaT r n r2 r3 r4 r5 r6 r7 k k2 k3) 2) 2))
def qov (r:qR) (n:Int) (r2 r3 r4 r5 r6 r7:qR) (k k2 k3:Nat):Nat:=(gTok (qaT r n r2 r3 r4 r5 r6 r7 k k2 k3) 0)
def qlq (r:qR) (n:Int) (r2 r3 r4 r5 r6 r7:qR) (k k2 k3:Nat):Nat:=(gTok (qaT r n r2 r3 r4 r5 r6 r7 k k2 k3) 1)
def qkX (r:qR) (n:Int) (r2 r3 r4 r5 r6 r7:qR) (k k2 k3:Nat):Nat:=(gTok (qaT r n r2 r3 r4 r5 r6 r7 k k2 k3) 2)
def qn9 (r:qR) (n:Int) (r2 r3 r4 r5 r6 r7:qR) (k k2 k3:Nat):Bool:=isW (qaT r n r2 r3 r4 r5 r6 r7 k k2 k3) ((.exit 0),[.ptr 1 0,.ptr 2 0],⟨[[.sl (qkk r n r2 r3 r4 r5 r6 r7 k k2 k3) .non,.int .i64 n],[.sl (qlr r n r2 r3 r4 r5 r6 r7 k k2 k3) .full,.sl (qkU r n r2 r3 r4 r5 r6 r7 k k2 k3) .full,.sl (qkY r n r2 r3 r4 r5 r6 r7 k k2 k3) .full],[.sl (qhu r n r2 r3 r4 r5 r6 r7 k k2 k3) (.tok 0),.sl (qg6 r n r2 r3 r4 r5 r6 r7 k k2 k3) (.tok 1),.sl (qhF r n r2 r3 r4 r5 r6 r7 k k2 k3) (.tok 2)]],[((qov r n r2 r3 r4 r5 r6 r7 k k2 k3),3,80),((qlq r n r2 r3 r4 r5 r6 r7 k k2 k3),3,85),((qkX r n r2 r3 r4 r5 r6 r7 k k2 k3),3,51)],[138,27,27]⟩)
def qhd:List PV→Store→Tr (PExit×List PV×Store)|[.ptr 0 0,.ptr 1 0,.ptr 2 0],⟨[[.sl r .non,.int .i64 n],[.sl r2 .full,.sl r3 .full,.sl r4 .full],[.sl r5 (.tok 0),.sl r6 (.tok 1),.sl r7 (.tok 2)]],[(k,3,80),(k2,3,85),(k3,3,51)],[138,27,27]⟩=>.ite (qok r n r2 r3 r4 r5 r6 r7 k k2 k3) (.ret ((.pan (.iface 172 (.agg [.int .i64 (qko r n r2 r3 r4 r5 r6 r7 k k2 k3)]))),[],⟨[[.sl (qjZ r n r2 r3 r4 r5 r6 r7 k k2 k3) .non,.int .i64 n],[.sl (qkT r n r2 r3 r4 r5 r6 r7 k k2 k3) .full,.sl (qlN r n r2 r3 r4 r5 r6 r7 k k2 k3) .full,.sl (qk8 r n r2 r3 r4 r5 r6 r7 k k2 k3) .full],[.sl (qlu r n r2 r3 r4 r5 r6 r7 k k2 k3) (.tok 0),.sl (qla r n r2 r3 r4 r5 r6 r7 k k2 k3) (.tok 1),.sl (qlL r n r2 r3 r4 r5 r6 r7 k k2 k3) (.tok 2)]],[((qnV r n r2 r3 r4 r5 r6 r7 k k2 k3),3,80),((qkK r n r2 r3 r4 r5 r6 r7 k k2 k3),3,85),((qln r n r2 r3 r4 r5 r6 r7 k k2 k3),3,51)],[138,27,27]⟩)) (.ite (qn9 r n r2 r3 r4 r5 r6 r7 k k2 k3) (.ret ((.exit 0),[.ptr 1 0,.ptr 2 0],⟨[[.sl (qkk r n r2 r3 r4 r5 r6 r7 k k2 k3) .non,.int .i64 n],[.sl (qlr r n r2 r3 r4 r5 r6 r7 k k2 k3) .full,.sl (qkU r n r2 r3 r4 r5 r6 r7 k k2 k3) .full,.sl (qkY r n r2 r3 r4 r5 r6 r7 k k2 k3) .full],[.sl (qhu r n r2 r3 r4 r5 r6 r7 k k2 k3) (.tok 0),.sl (qg6 r n r2 r3 r4 r5 r6 r7 k k2 k3) (.tok 1),.sl (qhF r n r2 r3 r4 r5 r6 r7 k k2 k3) (.tok 2)]],[((qov r n r2 r3 r4 r5 r6 r7 k k2 k3),3,80),((qlq r n r2 r3 r4 r5 r6 r7 k k2 k3),3,85),((qkX r n r2 r3 r4 r5 r6 r7 k k2 k3),3,51)],[138,27,27]⟩)) (.fail))|_,_=>.fail
theorem qIS:∀ vs σ r,(qhd vs σ).run=some r→qfg vs σ=some r:=by
 intro vs σ r h;unfold qhd at h
 split at h
 ·exact qae h fun h=>qae h fun h=>by cases h
 ·cases h
theorem qBB (gl:Gl):∀ fr σ e fr' σ',(orc qqM qhd fr σ).run=some (e,fr',σ')→LDoes Tryz.prog gl qp8 fr σ e fr' σ':=qbu qai (qz7 gl ) qah (L:=qrO) (qac (by kernel_rfl)) (by kernel_rfl) qIS
def qA2:LpsT:=fun r fr σ=>bif Nat.beq r 2 then orc qqM qhd fr σ else .fail
def qqR (r:qR) (n:Int):Tr (PR×Store):=let z1:=qad r;.ite (qok z1 n [] [] [] [] [] [] 0 0 0) (.ret (PR.pan (.iface 172 (.agg [.int .i64 (qko z1 n [] [] [] [] [] [] 0 0 0)])),Store.mk [[.sl (qaa (qjZ z1 n [] [] [] [] [] [] 0 0 0)) .non,.int .i64 n]] [] [138])) (.ite (qn9 z1 n [] [] [] [] [] [] 0 0 0) (.ret (PR.val (.agg [.sl (qaa (qhu z1 n [] [] [] [] [] [] 0 0 0)) .non,.sl (qaa (qg6 z1 n [] [] [] [] [] [] 0 0 0)) .non,.sl (qaa (qhF z1 n [] [] [] [] [] [] 0 0 0)) .non]),Store.mk [[.sl (qaa (qkk z1 n [] [] [] [] [] [] 0 0 0)) .non,.int .i64 n]] [] [138])) .fail)
theorem qM8 (r:qR) (n:Int):(nrmM tbT qtk qA2 Tryz.f35 [.ptr 0 0] ⟨[[.sl r .non,.int .i64 n]],[],[138]⟩).flat=qqR r n:=by kernel_rfl
def qe7 (r:qR) (n:Int):Option (PR×Store):=(qqR r n).run
def qm2 (r:qR) (n:Int):Int:=(gInt (gAt (gCs (gAt (gCs (gOut (qak (qe7 r n)) 0)) 0)) 0))
def qnw (r:qR) (n:Int):qR:=(gRow (gAt (gObj (qak (qe7 r n)) 0) 0))
def qs2 (r:qR) (n:Int):Bool:=isW (qe7 r n) ((.pan (.iface 172 (.agg [.int .i64 (qm2 r n)]))),⟨[[.sl (qnw r n) .non,.int .i64 n]],[],[138]⟩)
def qm1 (r:qR) (n:Int):qR:=(gRow (gAt (gCs (gOut (qak (qe7 r n)) 0)) 0))
def qjS (r:qR) (n:Int):qR:=(gRow (gAt (gCs (gOut (qak (qe7 r n)) 0)) 1))
def qjQ (r:qR) (n:Int):qR:=(gRow (gAt (gCs (gOut (qak (qe7 r n)) 0)) 2))
def qi4 (r:qR) (n:Int):qR:=(gRow (gAt (gObj (qak (qe7 r n)) 0) 0))
def qsl (r:qR) (n:Int):Bool:=isW (qe7 r n) ((.val (.agg [.sl (qm1 r n) .non,.sl (qjS r n) .non,.sl (qjQ r n) .non])),⟨[[.sl (qi4 r n) .non,.int .i64 n]],[],[138]⟩)
def qBi:List PV→Store→Tr (PR×Store)|[.ptr 0 0],⟨[[.sl r .non,.int .i64 n]],[],[138]⟩=>.ite (qs2 r n) (.ret ((.pan (.iface 172 (.agg [.int .i64 (qm2 r n)]))),⟨[[.sl (qnw r n) .non,.int .i64 n]],[],[138]⟩)) (.ite (qsl r n) (.ret ((.val (.agg [.sl (qm1 r n) .non,.sl (qjS r n) .non,.sl (qjQ r n) .non])),⟨[[.sl (qi4 r n) .non,.int .i64 n]],[],[138]⟩)) (.fail))|_,_=>.fail
theorem qF8 (gl:Gl):SimM Tryz.prog gl 35 fun args σ=>(qBi args σ).run:=by
 refine SimM.of_nrm (G:=qtk) (L:=qA2) qai (qz7 gl ) qah Tryz.func35 rfl (by rfl) (by kernel_rfl) (qax (L:=lps qA2) [(2,qp8)] (by kernel_rfl) (List.forall_mem_cons.2 ⟨fun fr σ e fr' σ' h=>qBB gl  fr σ e fr' σ' h,(List.forall_mem_nil _)⟩)) ?_
 intro args σ x h;unfold qBi at h
 split at h
 ·exact (congrArg Tr.run (qM8 _ _)).trans (qae h fun h=>qae h fun h=>by cases h)
 ·cases h
end Go.Pv
set_option linter.unusedSimpArgs false
set_option linter.unusedVariables false
namespace Go.Pv
open Go.RowKit
abbrev PD:=FuncId×List PV×List PV
def DefL (H:Gh) (w:World):List PD→List Deferred→Prop
 |[],[]=>True
 |(f,avs,caps)::p,d::ds=>(∃ vs cs:List Value,d={ target:=.fn (.func f) cs.toArray,args:=vs.toArray }∧RelL H w avs vs∧RelL H w caps cs)∧DefL H w p ds
 |_,_=>False
theorem DefL.mono {H H':Gh} {w w':World} (g:Mono H w H' w'):∀ {p:List PD} {ds:List Deferred},DefL H w p ds→DefL H' w' p ds
 |[],[],_=>trivial
 |(f,avs,caps)::p,d::ds,⟨⟨vs,cs,e,h1,h2⟩,k⟩=>⟨⟨vs,cs,e,h1.mono g,h2.mono g⟩,DefL.mono g k⟩
 |[],_::_,h=>h.elim
 |_::_,[],h=>h.elim
def StD (gl:Gl) (H0:Gh) (w0:World) (fr:List PV) (σ:Store) (pd:List PD) (a:Act) (w:World):Prop :=
 ∃ H,Ev gl H0 w0 H w∧Ok gl H σ w∧RelL H w fr a.tmps.toList∧DefL H w pd a.defers
def pdefer (fr:List PV) (c:Call):Option PD:=match c.callee with
 |.value f=>match ev fr f with
  |.fn g caps=>some (g,c.args.toList.map (ev fr),caps)
  |_=>none
 |_=>none
def passert (tb:Tab) (fr:List PV) (x:Operand) (t:TypeId) (ok:Bool):Option PV:=match tb t,ev fr x,ok with
 |some K,.iface t' v,true=>match K.kd with
  |.agg _ _ _=>match Nat.beq t' t with
   |true=>some (.tup [v,.bool true])
   |false=>none
  |_=>none
 |_,_,_=>none
inductive DR where
 |ok (fr:List PV) (σ:Store) (pd:List PD)
 |pan (x:PV) (fr:List PV) (σ:Store) (pd:List PD)
def dfin (Γ:Gam) (fr:List PV) (σ:Store) (pd:List PD) (o:Oper):Option (PV×Store)→Option DR
 |some (x,σ')=>some (.ok (pput fr o.dst x) σ' pd)
 |none=>(ppan Γ fr σ o).map fun r=>.pan r.1 fr r.2 pd
def dop (tb:Tab) (Γ:Gam) (fr:List PV) (σ:Store) (pd:List PD) (o:Oper):Option DR:=match o.op with
 |.defer c=>match o.dst with
  |none=>(pdefer fr c).map fun d=>.ok fr σ (d::pd)
  |some _=>none
 |.typeAssert x _ t ok=>(passert tb fr x t ok).map fun y=>.ok (pput fr o.dst y) σ pd
 |_=>dfin Γ fr σ pd o (pop tb Γ fr σ o)
def dops (tb:Tab) (Γ:Gam) (ops:List Oper):List Oper→List PV→Store→List PD→Option DR
 |[],fr,σ,pd=>some (.ok fr σ pd)
 |o::rest,fr,σ,pd=>match pwanted ops fr o with
  |none=>none
  |some false=>dops tb Γ ops rest (pput fr o.dst (.tup [])) σ pd
  |some true=>match dop tb Γ fr σ pd o with
   |some (.ok fr' σ' pd')=>dops tb Γ ops rest fr' σ' pd'
   |r=>r
def dexec (tb:Tab) (Γ:Gam):Code→List PV→Store→List PD→Option (PExit×List PV×Store×List PD)
 |.skip,fr,σ,pd=>some (.normal,fr,σ,pd)
 |.ret,fr,σ,pd=>some (.ret,fr,σ,pd)
 |.region _ ops draw,fr,σ,pd=>match draw with
  |true=>none
  |false=>match dops tb Γ ops.toList ops.toList fr σ pd with
   |some (.ok fr' σ' pd')=>some (.normal,fr',σ',pd')
   |some (.pan x fr' σ' pd')=>some (.pan x,fr',σ',pd')
   |none=>none
 |.seq a b,fr,σ,pd=>match dexec tb Γ a fr σ pd with
  |some (.normal,fr',σ',pd')=>dexec tb Γ b fr' σ' pd'
  |r=>r
 |.cond c a b,fr,σ,pd=>match ev fr c with
  |.bool t=>match t with
   |true=>dexec tb Γ a fr σ pd
   |false=>dexec tb Γ b fr σ pd
  |_=>none
 |_,_,_,_=>none
section
variable {P : Program} {tb : Tab} {gl : Gl} {Γ : Gam} {H0 : Gh} {w0 : World} {fr : List PV} {σ : Store} {pd : List PD} {a : Act} {w : World} {Q : Exit → Act → World → Prop}
theorem quN (hst:StD gl H0 w0 fr σ pd a w) {ops:Array Oper} {o:Oper} {b:Bool} (h:pwanted ops.toList fr o=some b):Region.wanted o (yielded ops a.tmps)=b:=by
 obtain⟨H,hev,hok,hfr,hd⟩:=hst;refine qbF (gl:=gl) (H0:={ H with K:=(w.heap.size,a.defers) }) (w0:=w) (σ:=σ) ⟨_,Ev.refl _ w,hok.setK _,hfr.mono (Mono.setK' H w _),Nat.le_refl _,[],rfl,List.nodup_nil,fun D h=>by cases h⟩ h
theorem qKU (hst:StD gl H0 w0 fr σ pd a w) (dst:Option Tmp):StD gl H0 w0 (pput fr dst (.tup [])) σ pd (a.put dst undef) w:=by
 obtain⟨H,hev,hok,hfr,hd⟩:=hst;exact⟨H,hev,hok,qtx hfr (.tup [] [] .nil),by rw [qf0];exact hd⟩
theorem qxz (hT:qaK P tb) {H:Gh} (hfr:RelL H w fr a.tmps.toList) {o:Oper} {x:Operand} {s t:TypeId} {ok:Bool} (ho:o.op=.typeAssert x s t ok) {y:PV} (h:passert tb fr x t ok=some y) :
  ∃ v,(execOp a.eval o).run P w=.ok (.value v) w∧Rel H w y v:=by
 unfold passert at h
 split at h
 ·rename_i K t' v hK hx;split at h
  ·rename_i fs hd gd hkd;split at h
   ·rename_i hb;have e:=Nat.eq_of_beq_eq_true hb;subst e;simp only [Option.some.injEq] at h
    subst h;have hr:=qaF hfr x;rw [hx] at hr;obtain⟨i,z,_,_,_,_,_,hk⟩:=qfF (hT _ _ hK);rw [hk] at hkd;obtain⟨fields,hu,_⟩:=quj hkd;generalize hv:a.eval x=xv at hr;cases hr with
    |iface _ _ u hu' =>
     refine⟨.tuple #[u,.bool true],?_,?_⟩
     ·simp [execOp,ho,hv,Instr.typeAssert,run_underlying,hu]
     ·exact .tup [v,.bool true] [u,.bool true] (.cons _ _ _ _ hu' (.cons _ _ _ _ (.bool _) .nil))
   ·cases h
  ·cases h
 ·cases h
theorem qy0 {H:Gh} (hfr:RelL H w fr a.tmps.toList) {o:Oper} {c:Call} (ho:o.op=.defer c) {d:PD} (h:pdefer fr c=some d) :
  ∃ vs cs:List Value,(execOp a.eval o).run P w=.ok (.defer { target:=.fn (.func d.1) cs.toArray,args:=vs.toArray }) w∧RelL H w d.2.1 vs∧RelL H w d.2.2 cs:=by
 unfold pdefer at h
 split at h
 ·rename_i f hc;split at h
  ·rename_i g caps hf;simp only [Option.some.injEq] at h
   subst h;have hr:=qaF hfr f;rw [hf] at hr;generalize hv:a.eval f=fv at hr;cases hr with
   |fn _ _ cs hcs =>
    refine⟨c.args.toList.map a.eval,cs,?_,?_,hcs⟩
    ·have e1:(c.args.toList.map a.eval).toArray=c.args.map a.eval:=by rw [← Array.toList_map,Array.toArray_toList]
     simp [execOp,ho,resolve,hc,hv,Deferred.ofValue,e1]
    ·refine qc1.2 ⟨by simp,fun i x v hx hv=>?_⟩
     rw [List.getElem?_map] at hx hv;cases he:c.args.toList[i]? with
     |none=>rw [he] at hx;cases hx
     |some q =>
      rw [he] at hx hv;cases hx
      cases hv
      exact qaF hfr q
  ·cases h
 ·cases h
theorem qzg (hT:qaK P tb) (hΓ:qam P gl Γ) (hst:StD gl H0 w0 fr σ pd a w) {o:Oper} {n:Nat} {next:Act→World→Prop} :
  ∀ {R:DR},dop tb Γ fr σ pd o=some R →
  (match R with|.ok fr' σ' pd'=>∀ a' w',StD gl H0 w0 fr' σ' pd' a' w'→next a' w'|.pan x fr' σ' pd'=>∀ a' w',StD gl H0 w0 fr' σ' pd' a' w'→Q (.panic [{ v:=toV x,recovered:=false }]) a' w')→o.wpIn (rnd none) n P a w next Q:=by
 intro R h hn;obtain⟨H,hev,hok,hfr,hd⟩:=hst;unfold dop at h
 split at h
 ·rename_i c ho;split at h
  ·rename_i hdst;obtain⟨d,hp,hR⟩:=qaw h;subst hR;obtain⟨vs,cs,hrun,h1,h2⟩:=qy0 (P:=P) hfr ho hp;refine⟨fun _ _=>trivial,?_⟩
   rw [show (rnd none).round=none from rfl,Oper.semAt_none,hrun,Oper.uponIn_defer,hdst]
   exact hn _ _ ⟨H,hev,hok,hfr,⟨vs,cs,rfl,h1,h2⟩,hd⟩
  ·cases h
 ·rename_i x s t ok ho;obtain⟨y,hp,hR⟩:=qaw h;subst hR;obtain⟨v,hrun,hv⟩:=qxz hT hfr ho hp;refine (RunsTo.value (R:=fun v' w'=>v'=v∧w'=w) hrun ⟨rfl,rfl⟩) none n next Q fun v' w' ⟨e1,e2⟩=>?_
  subst e1 e2;exact hn _ _ ⟨H,hev,hok,qtx hfr hv,by rw [qf0];exact hd⟩
 ·unfold dfin at h
  split at h
  ·rename_i x σ' hp;simp only [Option.some.injEq] at h
   subst h;refine qz0 hT hΓ hok hfr hp none n next Q fun v w' ⟨H',hev',hok',hx⟩=>hn _ _ ⟨H',hev.trans hev',hok',qtx (hfr.mono hev'.mono) hx,by rw [qf0];exact hd.mono hev'.mono⟩
  ·obtain⟨r,hp,hR⟩:=qaw h;subst hR;refine qo5 hΓ hok hfr (x:=r.1) (σ':=r.2) hp none n next Q fun w' ⟨H',hev',hok'⟩=>hn a w' ⟨H',hev.trans hev',hok',hfr.mono hev'.mono,hd.mono hev'.mono⟩
theorem quT (hT:qaK P tb) (hΓ:qam P gl Γ) {ops:Array Oper} {n:Nat}:∀ (l:List Oper) (fr:List PV) (σ:Store) (pd:List PD) (a:Act) (w:World) (R:DR),StD gl H0 w0 fr σ pd a w→dops tb Γ ops.toList l fr σ pd=some R →
  (match R with|.ok fr' σ' pd'=>∀ a' w',StD gl H0 w0 fr' σ' pd' a' w'→Q .normal a' w'|.pan x fr' σ' pd'=>∀ a' w',StD gl H0 w0 fr' σ' pd' a' w'→Q (.panic [{ v:=toV x,recovered:=false }]) a' w')→wpListIn (rnd none) n P ops Q l a w:=by
 intro l
 induction l with
 |nil =>
  intro fr σ pd a w R hst h hq;simp only [dops,Option.some.injEq] at h
  subst h;exact hq a w hst
 |cons o l ih =>
  intro fr σ pd a w R hst h hq;simp only [dops] at h
  split at h
  ·cases h
  ·rename_i hw;have hwn:=quN hst hw;simp only [wpListIn,hwn];exact⟨fun _ _=>trivial,ih _ _ _ _ _ _ (qKU hst _) h hq⟩
  ·rename_i hw;have hwn:=quN hst hw;simp only [wpListIn,hwn,if_true];split at h
   ·rename_i fr' σ' pd' hp;exact qzg hT hΓ hst hp fun a' w' hst'=>ih _ _ _ _ _ _ hst' h hq
   ·rename_i hne;cases R with
    |ok fr' σ' pd'=>exact (hne _ _ _ h).elim
    |pan x fr' σ' pd'=>exact qzg hT hΓ hst h hq
theorem qls (hT:qaK P tb) (hΓ:qam P gl Γ) {n:Nat}:∀ (c:Code) (fr:List PV) (σ:Store) (pd:List PD) (e:PExit) (fr':List PV) (σ':Store) (pd':List PD),dexec tb Γ c fr σ pd=some (e,fr',σ',pd') →
  ∀ (Q:Exit→Act→World→Prop) (a:Act) (w:World),StD gl H0 w0 fr σ pd a w→(∀ a' w',StD gl H0 w0 fr' σ' pd' a' w'→Q e.as a' w')→c.wpIn (rnd none) n P Q a w:=by
 intro c
 induction c with
 |skip =>
  intro fr σ pd e fr' σ' pd' h Q a w hst hq;simp only [dexec,Option.some.injEq,Prod.mk.injEq] at h
  obtain⟨rfl,rfl,rfl,rfl⟩:=h;exact wpIn_skip (hq _ _ hst)
 |ret =>
  intro fr σ pd e fr' σ' pd' h Q a w hst hq;simp only [dexec,Option.some.injEq,Prod.mk.injEq] at h
  obtain⟨rfl,rfl,rfl,rfl⟩:=h;exact wpIn_ret (hq _ _ hst)
 |region id ops draw =>
  intro fr σ pd e fr' σ' pd' h Q a w hst hq;cases draw with
  |true=>simp only [dexec] at h;cases h
  |false =>
   simp only [dexec] at h
   refine wpIn_region_list ?_;split at h
   ·rename_i fr1 σ1 pd1 hp;simp only [Option.some.injEq,Prod.mk.injEq] at h
    obtain⟨rfl,rfl,rfl,rfl⟩:=h;exact quT hT hΓ _ _ _ _ _ _ _ hst hp hq
   ·rename_i x fr1 σ1 pd1 hp;simp only [Option.some.injEq,Prod.mk.injEq] at h
    obtain⟨rfl,rfl,rfl,rfl⟩:=h;exact quT hT hΓ _ _ _ _ _ _ _ hst hp hq
   ·cases h
 |seq x y ihx ihy =>
  intro fr σ pd e fr' σ' pd' h Q a w hst hq;simp only [dexec] at h
  refine wpIn_seq ?_;split at h
  ·rename_i fr1 σ1 pd1 hx;exact ihx _ _ _ _ _ _ _ hx _ _ _ hst fun a1 w1 hst1=>ihy _ _ _ _ _ _ _ h _ _ _ hst1 hq
  ·rename_i hne;refine ihx _ _ _ _ _ _ _ h _ _ _ hst fun a1 w1 hst1=>?_
   cases e with
   |normal=>exact (hne _ _ _ h).elim
   |exit id=>exact hq _ _ hst1
   |ret=>exact hq _ _ hst1
   |pan x=>exact hq _ _ hst1
 |cond c x y ihx ihy =>
  intro fr σ pd e fr' σ' pd' h Q a w hst hq;simp only [dexec] at h
  split at h
  ·rename_i t hc;obtain⟨H,hev,hok,hfr,hd⟩:=id hst;have hr:=qaF hfr c;rw [hc] at hr;generalize hv:a.eval c=cv at hr;cases hr
   cases t with
   |true=>exact wpIn_cond hv (ihx _ _ _ _ _ _ _ h _ _ _ hst hq)
   |false=>exact wpIn_cond hv (ihy _ _ _ _ _ _ _ h _ _ _ hst hq)
  ·cases h
 |_ =>
  intro fr σ pd e fr' σ' pd' h;simp only [dexec] at h
  cases h
end
inductive PMode where
 |ret
 |pan (x:PV)
def PMode.as:PMode→FrameMode
 |.ret=>.returning
 |.pan x=>.panicking [{ v:=toV x,recovered:=false }]
theorem PMode.settled (m:PMode):settle m.as=m.as:=by cases m<;>rfl
theorem PMode.notRun (m:PMode):m.as≠.run:=by cases m<;>simp [PMode.as]
structure DefOk (P:Program) (gl:Gl) (f:FuncId) (args:List PV) (m:PMode) (σ:Store) (m':PMode) (σ':Store):Prop where
 ent : ∃ fn, P.funcs[f]? = some fn ∧ (fn.name == "runtime.NumGoroutine") = false ∧ fn.body.isNone = false
 run:∀ (H:Gh) (w:World) (vs:List Value),Ok gl H σ w→RelL H w args vs →
  CallsDIn (rnd none) 0 P f vs.toArray m.as w fun e u' w'=>(∃ v,e=.returned v)∧settle u'=m'.as∧qA9 gl H w σ' w'
inductive LeaveP (P:Program) (gl:Gl):List PD→PMode→Store→Store→Prop
 |nil (σ:Store):LeaveP P gl [] .ret σ σ
 |cons {f:FuncId} {avs caps:List PV} {pd:List PD} {m m':PMode} {σ σ' σ'':Store} (h:DefOk P gl f (avs++caps) m σ m' σ') (k:LeaveP P gl pd m' σ' σ''):LeaveP P gl ((f,avs,caps)::pd) m σ σ''
section
variable {P : Program} {tb : Tab} {gl : Gl} {Γ : Gam}
theorem LeaveP.sound {fn:Func} {tmps:Array Value} {R:Ending→World→Prop} {H0:Gh} {w0:World} {pd:List PD} {m:PMode} {σ σ':Store} (h:LeaveP P gl pd m σ σ') :
  ∀ {H:Gh} {w:World} {ds:List Deferred},Ev gl H0 w0 H w→Ok gl H σ w→DefL H w pd ds →
  (∀ H' w',Ev gl H0 w0 H' w'→Ok gl H' σ' w'→Mono H w H' w'→∃ v,(results fn tmps).run P w'=.ok v w'∧R (.returned v) w')→LeavesInM (rnd none) 0 P fn tmps R ds m.as w:=by
 induction h with
 |nil σ =>
  intro H w ds hev hok hd hR;cases ds with
  |cons d ds=>exact hd.elim
  |nil=>exact hR H w hev hok (Ev.refl (gl:=gl) H w).mono
 |@cons f avs caps pd m m' σ σ' σ'' h k ih =>
  intro H w ds hev hok hd hR;cases ds with
  |nil=>exact hd.elim
  |cons d ds =>
   obtain⟨⟨vs,cs,hde,h1,h2⟩,hd⟩:=hd;subst hde;obtain⟨fn',hfn,hname,hbody⟩:=h.ent;have e1:(vs++cs).toArray=vs.toArray++cs.toArray:=by simp
   have hc:=h.run H w (vs++cs) hok (h1.app h2);rw [e1] at hc;refine⟨m.notRun,.inr ⟨(fun h=>by cases h),.func f,cs.toArray,f,vs.toArray++cs.toArray,rfl,?_,fun _ _=>trivial,?_⟩⟩
   ·simp only [invoke,callFunc,Sem.run_bind,run_program,Result.andThen_ok,hfn,hname,hbody,Bool.false_eq_true,if_false,Sem.run_pure]
   ·refine hc.mono ?_;rintro e u' w' ⟨⟨v,rfl⟩,hu,H',hev',hok'⟩;show LeavesInM (rnd none) 0 P fn tmps R ds (settle u') w'
    rw [hu];exact ih (hev.trans hev') hok' (hd.mono hev'.mono) fun H'' w'' e1 e2 e3=>hR H'' w'' e1 e2 (hev'.mono.trans e3)
theorem SimP.of_defer (hT : qaK P tb) (hΓ : qam P gl Γ) {f : FuncId} {fn : Func} {c : Code} (hf : P.funcs[f]? = some fn) (hb : fn.body = some c) (hn : (fn.name == "runtime.NumGoroutine") = false)
  {F:List PV→Option PV} (h:∀ args x,F args=some x→∃ (e:PExit) (m:PMode) (fr:List PV) (σ:Store) (pd:List PD) (σ':Store) (xs:List PV),dexec tb Γ c (args++List.replicate (fn.ntmps - args.length) .top) ⟨[],[],[]⟩ []=some (e,fr,σ,pd)∧((e=.ret∧m=.ret)∨∃ y,e=.pan y∧m=.pan y)∧LeaveP P gl pd m σ σ'∧presults tb fr σ' fn.results.toList=some xs∧pout (xs.map (oview σ'.objs))=x):SimP P gl f F where
 ent:=⟨fn,hf,hn,by simp [hb]⟩
 run:=by
  intro args x hx H w vs hB hob htk hgl hrel;obtain⟨e,m,fr0,σ0,pd,σ',xs0,hdo,he,hlv,hxs0,hpo0⟩:=h args x hx;refine qno (r:=none) (n:=0) (callsIn_of_wp_marks hf hb trivial ?_);have hst:StD gl { H with K:=(w.heap.size,[]) } w (args++List.replicate (fn.ntmps - args.length) .top) ⟨[],[],[]⟩ [] { tmps:=vs.toArray++Array.replicate (fn.ntmps - vs.toArray.size) undef,defers:=[] } w:=by
   refine⟨{ H with K:=(w.heap.size,[]) },Ev.refl _ w,⟨by show H.B≤_;rw [hB];exact Nat.le_refl _,fun b o e=>⟨by show b < H.B;rw [hB];exact qal (hgl b o e),hgl b o e⟩,by simp [hob],fun id b cs e=>by simp [hob] at e,fun i j b e=>by simp [hob] at e,by simp [htk],fun t T e=>by simp [htk] at e,fun t u T U e=>by simp [htk] at e,rfl,fun id b T cs e=>by simp [hob] at e⟩,?_,trivial⟩
   have hl:=hrel.len;have e:(vs.toArray++Array.replicate (fn.ntmps - vs.toArray.size) undef).toList=vs++List.replicate (fn.ntmps - args.length) undef:=by simp [hl]
   rw [e];refine (hrel.mono (Mono.setK' H w _)).app ?_;have:=RelL.tops (H:={ H with K:=(w.heap.size,[]) }) (w:=w) (List.replicate (fn.ntmps - args.length) undef)
   simpa using this
  refine qls hT hΓ c _ _ _ e fr0 σ0 pd hdo _ _ _ hst fun a w1 hst1=>?_
  have fin:LeavesInM (rnd none) 0 P fn a.tmps (fun e w'=>∃ v,e=.returned v∧(Below w.heap.size w w'∧Dr gl w w')∧Rel { H with aux:=fun _ _=>False } w' x v) a.defers m.as w1:=by
   obtain⟨H',hev1,hok1,hfr1,hd⟩:=hst1;refine hlv.sound hev1 hok1 hd fun H'' w' hev hok hmo=>?_
   have hfr:=hfr1.mono hmo;obtain⟨vs',hvs,hrs⟩:=qdn hT hok hfr _ _ hxs0;have hbel:Below w.heap.size w w':=⟨hev.os,hev.tape,hev.output,hev.size,fun b hlt=>hev.block b (by show b < H.B;rw [hB];exact hlt) (by show b∉H.ob;rw [hob];simp)⟩
   have hrun:(results fn a.tmps).run P w'=.ok (if h:vs'.toArray.size=1 then vs'.toArray[0] else .tuple vs'.toArray) w':=by
    rw [qgv];simp only [Sem.run_bind,hvs,Result.andThen_ok,Sem.run_pure]
   have back:∀ {y:PV} {u:Value},Rel { { H with K:=(w.heap.size,[]) } with aux:=fun _ _=>False } w' y u→Rel { H with aux:=fun _ _=>False } w' y u:=fun h=>Rel.mono (Mono.setK { H with aux:=fun _ _=>False } w' (w.heap.size,[])) h
   have backL:∀ {y:List PV} {u:List Value},RelL { { H with K:=(w.heap.size,[]) } with aux:=fun _ _=>False } w' y u→RelL { H with aux:=fun _ _=>False } w' y u:=fun h=>RelL.mono (Mono.setK { H with aux:=fun _ _=>False } w' (w.heap.size,[])) h
   refine⟨_,hrun,_,rfl,⟨hbel,hev.dr⟩,?_⟩;subst hpo0;have hl:=hrs.len;cases hrs with
   |nil =>
    simp only [List.map_nil,pout,qa7];exact .tup [] [] .nil
   |cons y v ys us hy hys =>
    cases hys with
    |nil=>exact back (qte hev hok hob htk hy)
    |cons y2 v2 ys us hy2 hys =>
     have h1:¬ ((v::v2::us).toArray.size=1):=by simp
     rw [dif_neg h1];exact .tup _ _ (backL (qoq hev hok hob htk (.cons _ _ _ _ hy (.cons _ _ _ _ hy2 hys))))
  rcases he with⟨rfl,rfl⟩|⟨y,rfl,rfl⟩
  ·exact fin
  ·exact fin
theorem DefOk.of_quiet (hT : qaK P tb) (hΓ : qam P gl Γ) {f : FuncId} {fn : Func} {c : Code} (hf : P.funcs[f]? = some fn) (hb : fn.body = some c) (hn : (fn.name == "runtime.NumGoroutine") = false) (hr : fn.results.toList = [])
  {args:List PV} {m:PMode} {σ:Store} {e:PExit} {σ':Store} (he:e=.normal∨e=.ret) (h:(dexec tb Γ c (args++List.replicate (fn.ntmps - args.length) .top) σ []).map (fun r=>(r.1,r.2.2.1,r.2.2.2))=some (e,σ',[])):DefOk P gl f args m σ m σ' where
 ent:=⟨fn,hf,hn,by simp [hb]⟩
 run:=by
  obtain⟨⟨e1,fr,σ1,pd1⟩,h,h2⟩:=qaw h;simp only [Prod.mk.injEq] at h2;rw [h2.1,h2.2.1,h2.2.2] at h
  intro H w vs hok hrel;have key:c.wpIn (rnd none) 0 P (bodyPost P fn fun e w'=>(∃ v,e=.returned v)∧qA9 gl H w σ' w') { tmps:=vs.toArray++Array.replicate (fn.ntmps - vs.toArray.size) undef,defers:=[] } w:=by
   have hst:StD gl H w (args++List.replicate (fn.ntmps - args.length) .top) σ [] { tmps:=vs.toArray++Array.replicate (fn.ntmps - vs.toArray.size) undef,defers:=[] } w:=by
    refine⟨H,Ev.refl _ w,hok,?_,trivial⟩;have hl:=hrel.len;have e:(vs.toArray++Array.replicate (fn.ntmps - vs.toArray.size) undef).toList=vs++List.replicate (fn.ntmps - args.length) undef:=by simp [hl]
    rw [e];refine hrel.app ?_;have:=RelL.tops (H:=H) (w:=w) (List.replicate (fn.ntmps - args.length) undef);simpa using this
   refine qls hT hΓ c _ _ _ _ _ _ _ h _ _ _ hst fun a w1 hst1=>?_
   obtain⟨H',hev1,hok1,hfr1,hd⟩:=hst1;have hds:a.defers=[]:=by
    cases hda:a.defers with
    |nil=>rfl
    |cons d ds=>rw [hda] at hd;exact hd.elim
   have hrun:(results fn a.tmps).run P w1=.ok (.tuple #[]) w1:=by
    obtain⟨vs',hvs,hrs⟩:=qdn hT hok1 hfr1 [] [] rfl;cases hrs
    rw [qgv,hr];simp only [Sem.run_bind,hvs,Result.andThen_ok,Sem.run_pure];rfl
   rcases he with rfl|rfl
   ·exact⟨hds,_,hrun,⟨_,rfl⟩,H',hev1,hok1⟩
   ·exact⟨hds,_,hrun,⟨_,rfl⟩,H',hev1,hok1⟩
  refine (callsDIn_of_wp (u:=m.as) hf hb trivial key).mono ?_;rintro e u' w' ⟨rfl,h1,h2⟩;exact⟨h1,m.settled,h2⟩
theorem DefOk.of_recover (hT : qaK P tb) (hΓ : qam P gl Γ) {f : FuncId} {fn : Func} {i0 : Nat} {ops : Array Oper} {c : Code} (hf : P.funcs[f]? = some fn) (hb : fn.body = some (.seq (.region i0 ops false) c)) (hn : (fn.name == "runtime.NumGoroutine") = false) (hr : fn.results.toList = [])
  {d0 d1:Nat} {o0 o1:Oper} (hops:ops=#[o0,o1]) (h0:o0.op=.call { callee:=.builtin .recover,args:=#[],argTypes:=#[] }) (h0d:o0.dst=some d0) (h0g:o0.guard=none) (h1:o1.op=.assign (.tmp d0)) (h1d:o1.dst=some d1) (h1g:o1.guard=none)
  {args:List PV} (hd0:args.length≤d0∧d0 < fn.ntmps) {m:PMode} {y:PV} (hm:(m=.ret∧y=.nili)∨(m=.pan y∧∀ H w,Rel H w y (toV y))) {σ:Store} {e:PExit} {σ':Store} (he:e=.normal∨e=.ret)
  (h:(dexec tb Γ c (((args++List.replicate (fn.ntmps - args.length) PV.top).set d0 y).set d1 y) σ []).map (fun r=>(r.1,r.2.2.1,r.2.2.2))=some (e,σ',[])):DefOk P gl f args m σ .ret σ' where
 ent:=⟨fn,hf,hn,by simp [hb]⟩
 run:=by
  obtain⟨⟨e1,fr,σ1,pd1⟩,h,h2⟩:=qaw h;simp only [Prod.mk.injEq] at h2;rw [h2.1,h2.2.1,h2.2.2] at h
  intro H w vs hok hrel;refine callsDIn_of_wpSIn hf hb trivial fun c₀ cs hc₀=>?_
  refine wpSIn_seq (wpSIn_region ?_);have hl:=hrel.len;have hsz:d0 < (vs.toArray++Array.replicate (fn.ntmps - vs.toArray.size) undef).size:=by
   have:=hd0.2;simp only [Array.size_append,List.size_toArray,Array.size_replicate];omega
  have main:∀ (v:Value) (cs':List Frame) (u':FrameMode),Rel H w y v→cs'={ c₀ with mode:=u' }::cs→settle u'=.returning →
    c.wpSIn (rnd none) 0 P (bodyPostS P fn c₀ cs fun e u' w'=>(∃ v,e=.returned v)∧settle u'=PMode.ret.as∧qA9 gl H w σ' w') { tmps:=((vs.toArray++Array.replicate (fn.ntmps - vs.toArray.size) undef).set! d0 v).set! d1 v,defers:=[] } cs' w:=by
   intro v cs' u' hv hcs hu;refine wpSIn_of_wpIn rfl ?_;have hst:StD gl H w (((args++List.replicate (fn.ntmps - args.length) PV.top).set d0 y).set d1 y) σ [] { tmps:=((vs.toArray++Array.replicate (fn.ntmps - vs.toArray.size) undef).set! d0 v).set! d1 v,defers:=[] } w:=by
    refine⟨H,Ev.refl _ w,hok,?_,trivial⟩;have e:(((vs.toArray++Array.replicate (fn.ntmps - vs.toArray.size) undef).set! d0 v).set! d1 v).toList=((vs++List.replicate (fn.ntmps - args.length) undef).set d0 v).set d1 v:=by simp [hl]
    rw [e];refine RelL.set (RelL.set (hrel.app ?_) _ hv) _ hv;have:=RelL.tops (H:=H) (w:=w) (List.replicate (fn.ntmps - args.length) undef);simpa using this
   refine qls hT hΓ c _ _ _ _ _ _ _ h _ _ _ hst fun a w1 hst1=>?_
   obtain⟨H',hev1,hok1,hfr1,hd⟩:=hst1;have hds:a.defers=[]:=by
    cases hda:a.defers with
    |nil=>rfl
    |cons d ds=>rw [hda] at hd;exact hd.elim
   have hrun:(results fn a.tmps).run P w1=.ok (.tuple #[]) w1:=by
    obtain⟨vs',hvs,hrs⟩:=qdn hT hok1 hfr1 [] [] rfl;cases hrs
    rw [qgv,hr];simp only [Sem.run_bind,hvs,Result.andThen_ok,Sem.run_pure];rfl
   rcases he with rfl|rfl
   ·exact⟨hds,u',hcs,_,hrun,⟨_,rfl⟩,hu,H',hev1,hok1⟩
   ·exact⟨hds,u',hcs,_,hrun,⟨_,rfl⟩,hu,H',hev1,hok1⟩
  subst hops;have run0:∀ a:Act,(execOp a.eval o0).run P w=.ok .recover w:=by
   intro a;simp [execOp,h0,resolve,invoke,builtin]
  have run1:∀ a:Act,(execOp a.eval o1).run P w=.ok (.value (a.eval (.tmp d0))) w:=by
   intro a;simp [execOp,h1]
  have hlt:d0 < vs.length+(fn.ntmps - vs.length):=by
   have:=hd0.2;omega
  have want0:∀ ys,Region.wanted o0 ys=true:=fun ys=>by simp [Region.wanted,h0g]
  have want1:∀ ys,Region.wanted o1 ys=true:=fun ys=>by simp [Region.wanted,h1g]
  have get0:∀ v,((vs.toArray++Array.replicate (fn.ntmps - vs.toArray.size) undef).set! d0 v).getD d0 undef=v:=by
   intro v;simp only [Array.getD_eq_getD_getElem?,Array.set!_eq_setIfInBounds,Array.getElem?_setIfInBounds,if_true,if_pos hsz,Option.getD_some]
  rcases hm with⟨rfl,rfl⟩|⟨rfl,hy⟩
  ·have hrec:recoverD (c₀::cs)=none:=by simp [recoverD,hc₀,PMode.as]
   have hcc:(c₀::cs)={ c₀ with mode:=.returning }::cs:=by
    have:c₀.mode=.returning:=hc₀;rw [← this]
   have:=main .nilIface (c₀::cs) .returning .nili hcc rfl;simp [wpOpsSIn,List.range,List.range.loop,run0,run1,want0,want1,hrec,h0d,h1d,Act.put,Act.eval,Exit.thenS,get0];refine⟨fun _ _=>trivial,fun _ _=>trivial,?_⟩
   rw [if_pos hlt];simpa using this
  ·have hrec:recoverD (c₀::cs)=some (toV y,{ c₀ with mode:=.panicking [{ v:=toV y,recovered:=true }] }::cs):=by simp [recoverD,hc₀,PMode.as]
   have:=main (toV y) _ (.panicking [{ v:=toV y,recovered:=true }]) (hy H w) rfl rfl;simp [wpOpsSIn,List.range,List.range.loop,run0,run1,want0,want1,hrec,h0d,h1d,Act.put,Act.eval,Exit.thenS,get0];refine⟨fun _ _=>trivial,fun _ _=>trivial,?_⟩
   rw [if_pos hlt];simpa using this
theorem qbE {ops:List Oper} {o:Oper} {rest:List Oper} {fr fr':List PV} {σ σ':Store} {pd pd':List PD} (hg:pwanted ops fr o=some true) (h:dop tb Γ fr σ pd o=some (.ok fr' σ' pd')):dops tb Γ ops (o::rest) fr σ pd=dops tb Γ ops rest fr' σ' pd':=by
 simp only [dops,hg,h]
theorem qlW {ops:List Oper} {o:Oper} {rest:List Oper} {fr fr':List PV} {σ σ':Store} {pd pd':List PD} {x:PV} (hg:pwanted ops fr o=some true) (h:dop tb Γ fr σ pd o=some (.pan x fr' σ' pd')):dops tb Γ ops (o::rest) fr σ pd=some (.pan x fr' σ' pd'):=by
 simp only [dops,hg,h]
theorem qaW {a b:Code} {fr fr':List PV} {σ σ':Store} {pd pd':List PD} (h:dexec tb Γ a fr σ pd=some (.normal,fr',σ',pd')):dexec tb Γ (.seq a b) fr σ pd=dexec tb Γ b fr' σ' pd':=by
 simp only [dexec,h]
theorem qjA {a b:Code} {fr fr':List PV} {σ σ':Store} {pd pd':List PD} {x:PV} (h:dexec tb Γ a fr σ pd=some (.pan x,fr',σ',pd')):dexec tb Γ (.seq a b) fr σ pd=some (.pan x,fr',σ',pd'):=by
 simp only [dexec,h]
theorem qdQ {i:Nat} {ops:Array Oper} {fr fr':List PV} {σ σ':Store} {pd pd':List PD} (h:dops tb Γ ops.toList ops.toList fr σ pd=some (.ok fr' σ' pd')):dexec tb Γ (.region i ops false) fr σ pd=some (.normal,fr',σ',pd'):=by
 simp only [dexec,h]
theorem qju {i:Nat} {ops:Array Oper} {fr fr':List PV} {σ σ':Store} {pd pd':List PD} {x:PV} (h:dops tb Γ ops.toList ops.toList fr σ pd=some (.pan x fr' σ' pd')):dexec tb Γ (.region i ops false) fr σ pd=some (.pan x,fr',σ',pd'):=by
 simp only [dexec,h]
theorem qr4 {c:Operand} {a b:Code} {fr:List PV} {σ:Store} {pd:List PD} (h:ev fr c=.bool true):dexec tb Γ (.cond c a b) fr σ pd=dexec tb Γ a fr σ pd:=by
 simp only [dexec,h]
theorem qsv {c:Operand} {a b:Code} {fr:List PV} {σ:Store} {pd:List PD} (h:ev fr c=.bool false):dexec tb Γ (.cond c a b) fr σ pd=dexec tb Γ b fr σ pd:=by
 simp only [dexec,h]
theorem qMe {t:TypeId} {n:Int} (h:(Lit.int .i64 n).wf=true):∀ (H:Gh) (w:World),Rel H w (.iface t (.agg [.int .i64 n])) (toV (.iface t (.agg [.int .i64 n]))) :=
 fun H w=>.iface _ _ _ (.agg _ _ (.cons _ _ _ _ (.int _ _ h) .nil))
theorem qgf {D:List PV→Store→Tr (PR×Store)} {args:List PV} {σ:Store} {id:Nat} {c:List PV} {t:TypeId} {r:PR} {c':List PV} {os:List (List PV)} {tk:List (Nat×Nat×TypeId)} {ts:List TypeId} (h1:qKq args=some id) (h2:σ.objs[id]?=some c) (h3:σ.tys[id]?=some t)
  (h:(D (args.map (ren id σ.objs)) ⟨[qcF c],[],[t]⟩).run=some (r,⟨c'::os,tk,t::ts⟩)):(frameT D args σ).run=some (qEx r,{ σ with objs:=σ.objs.set id (qa7 c') }):=by
 unfold frameT;simp only [h1,h2,h3,Tr.run_bind,h,Option.bind_some];simp only [qBM,Nat.beq_refl,Tr.run_ret]
variable {fr fr' fr1 : List PV} {σ σ' σ1 : Store} {e : PExit}
theorem Does.seqN {a b:Code} (h1:Does P gl a fr σ .normal fr1 σ1) (h2:Does P gl b fr1 σ1 e fr' σ'):Does P gl (.seq a b) fr σ e fr' σ' :=
 fun r n H0 w0 hR Q a w hst hq=>wpIn_seq (h1 r n H0 w0 hR _ _ _ hst fun a1 w1 hst1=>h2 r n H0 w0 hR _ _ _ hst1 hq)
theorem Does.seqR {a b:Code} (h1:Does P gl a fr σ .ret fr' σ'):Does P gl (.seq a b) fr σ .ret fr' σ' :=
 fun r n H0 w0 hR Q a w hst hq=>wpIn_seq (h1 r n H0 w0 hR _ _ _ hst hq)
theorem Does.ret:Does P gl .ret fr σ .ret fr σ:=fun r n H0 w0 hR Q a w hst hq=>wpIn_ret (hq _ _ hst)
theorem Does.condT {c:Operand} {a b:Code} (hc:ev fr c=.bool true) (h:Does P gl a fr σ e fr' σ'):Does P gl (.cond c a b) fr σ e fr' σ':=by
 intro r n H0 w0 hR Q a w hst hq;obtain⟨H,hev,hok,hfr,hd⟩:=id hst;have hr:=qaF hfr c;rw [hc] at hr;generalize hv:a.eval c=cv at hr;cases hr
 exact wpIn_cond hv (h r n H0 w0 hR _ _ _ hst hq)
theorem Does.reg (hT:qaK P tb) (hΓ:qam P gl Γ) {i:Nat} {ops:Array Oper} (h:pops tb Γ ops.toList ops.toList fr σ=some (fr',σ')):Does P gl (.region i ops false) fr σ .normal fr' σ' :=
 fun r n H0 w0 hR Q a w hst hq=>wpIn_region_list (qt2 hT hΓ _ _ _ _ _ _ _ hst h hq r n)
theorem Does.regD (hT:qaK P tb) (hΓ:qam P gl Γ) (hm:P.follows .mixedOrders=true) {i:Nat} {ops:Array Oper} (hd:qmM Γ ops.toList=true) (h:qh3 tb Γ ops.toList ops.toList 0 [] fr σ=some (.ok fr' σ')):Does P gl (.region i ops true) fr σ .normal fr' σ' :=
 fun r n H0 w0 hR Q a w hst hq=>qne hT hΓ hm hst h hd (fun fr1 σ1 e a' w' h'=>by cases e;exact hq _ _ h') (fun x σ1 e=>by cases e) r n
theorem qm4 {ops:List Oper} {o:Oper} {rest:List Oper} {x:PV} (hg:pwanted ops fr o=some true) (h:pop tb Γ fr σ o=some (x,σ')):pops tb Γ ops (o::rest) fr σ=pops tb Γ ops rest (pput fr o.dst x) σ':=by
 simp only [pops,hg,h]
theorem qbl {ops:List Oper} {o:Oper} {rest:List Oper} {x:PV} {j:Nat} {lds:List (Nat×Nat)} (hg:pwanted ops fr o=some true) (h:pop tb Γ fr σ o=some (x,σ')) (hk:writes Γ o=true→qpi o σ σ' lds):qh3 tb Γ ops (o::rest) j lds fr σ=qh3 tb Γ ops rest (j+1) (qFb j lds (ldOf fr o)) (pput fr o.dst x) σ':=by
 simp only [qh3,hg,h];exact if_pos hk
end
theorem qfT {o:Oper} {σ σ':Store} {l l':List (Nat×Nat)} (h:l=l') (k:qpi o σ σ' l'):qpi o σ σ' l:=h ▸ k
def sq1:Code→Code
 |.seq a _=>a
 |.cond _ a _=>a
 |c=>c
def sq2:Code→Code
 |.seq _ b=>b
 |.cond _ _ b=>b
 |c=>c
def qav:Code→Array Oper
 |.region _ o _=>o
 |_=>#[]
def opAt (c:Code) (k:Nat):Oper:=(qav c).getD k default
end Go.Pv
set_option maxHeartbeats 4000000
set_option maxRecDepth 200000
set_option linter.unusedSimpArgs false
set_option linter.unusedVariables false
namespace Go.Pv
open Go Go.Proofs
def qMQ:GamT:=ofL [(35,.may (frameT qBi))]
theorem qNH (gl:Gl):qam Tryz.prog gl (gam qMQ):=(qaj (SimM.frameT (qF8 gl)) qag)
def qPu:LpsT:=fun r fr σ=>.fail
def qI2 (r:qR) (n:Int):Tr (PR×Store):=let z1:=qad (qad r);.ite (qs2 z1 n) (.ret (PR.pan (.iface 172 (.agg [.int .i64 (qm2 z1 n)])),Store.mk [[.sl (qaa (qaa (qnw z1 n))) .non,.int .i64 n]] [] [138])) (.ite (qsl z1 n) (.ret (PR.val (.agg [.sl (qaa (qaa (qm1 z1 n))) .non,.sl (qaa (qaa (qjS z1 n))) .non,.sl (qaa (qaa (qjQ z1 n))) .non]),Store.mk [[.sl (qaa (qaa (qi4 z1 n))) .non,.int .i64 n]] [] [138])) .fail)
theorem qQa (r:qR) (n:Int):(nrmM tbT qMQ qPu Tryz.f34 [.ptr 0 0] ⟨[[.sl r .non,.int .i64 n]],[],[138]⟩).flat=qI2 r n:=by kernel_rfl
def qtQ (r:qR) (n:Int):Option (PR×Store):=(qI2 r n).run
def qBD (r:qR) (n:Int):Int:=(gInt (gAt (gCs (gAt (gCs (gOut (qak (qtQ r n)) 0)) 0)) 0))
def qBC (r:qR) (n:Int):qR:=(gRow (gAt (gObj (qak (qtQ r n)) 0) 0))
def qHF (r:qR) (n:Int):Bool:=isW (qtQ r n) ((.pan (.iface 172 (.agg [.int .i64 (qBD r n)]))),⟨[[.sl (qBC r n) .non,.int .i64 n]],[],[138]⟩)
def qCg (r:qR) (n:Int):qR:=(gRow (gAt (gCs (gOut (qak (qtQ r n)) 0)) 0))
def qwg (r:qR) (n:Int):qR:=(gRow (gAt (gCs (gOut (qak (qtQ r n)) 0)) 1))
def qvo (r:qR) (n:Int):qR:=(gRow (gAt (gCs (gOut (qak (qtQ r n)) 0)) 2))
def qxp (r:qR) (n:Int):qR:=(gRow (gAt (gObj (qak (qtQ r n)) 0) 0))
def qGp (r:qR) (n:Int):Bool:=isW (qtQ r n) ((.val (.agg [.sl (qCg r n) .non,.sl (qwg r n) .non,.sl (qvo r n) .non])),⟨[[.sl (qxp r n) .non,.int .i64 n]],[],[138]⟩)
def qlO:List PV→Store→Tr (PR×Store)|[.ptr 0 0],⟨[[.sl r .non,.int .i64 n]],[],[138]⟩=>.ite (qHF r n) (.ret ((.pan (.iface 172 (.agg [.int .i64 (qBD r n)]))),⟨[[.sl (qBC r n) .non,.int .i64 n]],[],[138]⟩)) (.ite (qGp r n) (.ret ((.val (.agg [.sl (qCg r n) .non,.sl (qwg r n) .non,.sl (qvo r n) .non])),⟨[[.sl (qxp r n) .non,.int .i64 n]],[],[138]⟩)) (.fail))|_,_=>.fail
theorem qOT (gl:Gl):SimM Tryz.prog gl 34 fun args σ=>(qlO args σ).run:=by
 refine SimM.of_nrm (G:=qMQ) (L:=qPu) qai (qNH gl ) qah Tryz.func34 rfl (by rfl) (by kernel_rfl) (qac (by kernel_rfl)) ?_
 intro args σ x h;unfold qlO at h
 split at h
 ·exact (congrArg Tr.run (qQa _ _)).trans (qae h fun h=>qae h fun h=>by cases h)
 ·cases h
def qL4:GamT:=ofL [(47,.may (frameT qvq))]
theorem qOb (gl:Gl):qam Tryz.prog gl (gam qL4):=(qaj (SimM.frameT (qzF gl)) qag)
def qPm:LpsT:=fun r fr σ=>.fail
def qGR (r:qR) (n:Int):Tr (PR×Store):=let z1:=qad (qad r);.ite (qlS z1 n) (.ret (PR.pan (.iface 172 (.agg [.int .i64 (qin z1 n)])),Store.mk [[.sl (qaa (qaa (qif z1 n))) .non,.int .i64 n]] [] [138])) (.ite (qmK z1 n) (.ret (PR.val (.agg [.str (qiV z1 n),.sl (qaa (qaa (qi0 z1 n))) .non,.sl (qaa (qaa (qf9 z1 n))) .non]),Store.mk [[.sl (qaa (qaa (qfM z1 n))) .non,.int .i64 n]] [] [138])) .fail)
theorem qQy (r:qR) (n:Int):(nrmM tbT qL4 qPm Tryz.f46 [.ptr 0 0] ⟨[[.sl r .non,.int .i64 n]],[],[138]⟩).flat=qGR r n:=by kernel_rfl
def qtU (r:qR) (n:Int):Option (PR×Store):=(qGR r n).run
def qBo (r:qR) (n:Int):Int:=(gInt (gAt (gCs (gAt (gCs (gOut (qak (qtU r n)) 0)) 0)) 0))
def qAx (r:qR) (n:Int):qR:=(gRow (gAt (gObj (qak (qtU r n)) 0) 0))
def qI9 (r:qR) (n:Int):Bool:=isW (qtU r n) ((.pan (.iface 172 (.agg [.int .i64 (qBo r n)]))),⟨[[.sl (qAx r n) .non,.int .i64 n]],[],[138]⟩)
def qCl (r:qR) (n:Int):qU:=(gStr (gAt (gCs (gOut (qak (qtU r n)) 0)) 0))
def qAF (r:qR) (n:Int):qR:=(gRow (gAt (gCs (gOut (qak (qtU r n)) 0)) 1))
def qwb (r:qR) (n:Int):qR:=(gRow (gAt (gCs (gOut (qak (qtU r n)) 0)) 2))
def qwT (r:qR) (n:Int):qR:=(gRow (gAt (gObj (qak (qtU r n)) 0) 0))
def qG0 (r:qR) (n:Int):Bool:=isW (qtU r n) ((.val (.agg [.str (qCl r n),.sl (qAF r n) .non,.sl (qwb r n) .non])),⟨[[.sl (qwT r n) .non,.int .i64 n]],[],[138]⟩)
def ql5:List PV→Store→Tr (PR×Store)|[.ptr 0 0],⟨[[.sl r .non,.int .i64 n]],[],[138]⟩=>.ite (qI9 r n) (.ret ((.pan (.iface 172 (.agg [.int .i64 (qBo r n)]))),⟨[[.sl (qAx r n) .non,.int .i64 n]],[],[138]⟩)) (.ite (qG0 r n) (.ret ((.val (.agg [.str (qCl r n),.sl (qAF r n) .non,.sl (qwb r n) .non])),⟨[[.sl (qwT r n) .non,.int .i64 n]],[],[138]⟩)) (.fail))|_,_=>.fail
theorem qOl (gl:Gl):SimM Tryz.prog gl 46 fun args σ=>(ql5 args σ).run:=by
 refine SimM.of_nrm (G:=qL4) (L:=qPm) qai (qOb gl ) qah Tryz.func46 rfl (by rfl) (by kernel_rfl) (qac (by kernel_rfl)) ?_
 intro args σ x h;unfold ql5 at h
 split at h
 ·exact (congrArg Tr.run (qQy _ _)).trans (qae h fun h=>qae h fun h=>by cases h)
 ·cases h
end Go.Pv
set_option maxHeartbeats 4000000
set_option maxRecDepth 200000
set_option linter.unusedSimpArgs false
set_option linter.unusedVariables false
namespace Go.Pv
open Go Go.Proofs
def qaY (k n:Int) (s:qU):Int:=if k=1∧s=[] then 0 else if k=2∧n=0∧s.length≤256 then 0 else 10
def isV (k n:Int) (s:qU):Bool:=decide (k=1∧s=[]∨k=2∧n=0∧s.length≤256)
def qCs:List PV→Tr PV
 |[.agg [.int .i64 k,.int .i64 n,.str s]]=>.ret (.int .i64 (qaY k n s))
 |_=>.fail
theorem qGx (gl:Gl):SimP Tryz.prog gl 184 fun args=>(qCs args).run:=by
 refine SimP.of_tree (G:=ofL []) (L:=fun _ _ _=>.fail) qai qag qah Tryz.func184 rfl (by rfl) (by kernel_rfl) (qac (by kernel_rfl)) ?_
 intro args x h hr;unfold qCs at h
 split at h
 ·rename_i k n s;cases h
  refine Tr.run_as (.ite (iEq k 1) (.ite (sEq s []) (.ret (.int .i64 0)) (.ite (iEq k 2) (.ite (iEq n 0) (.ite (iLe (sLen s) 256) (.ret (.int .i64 0)) (.ret (.int .i64 10))) (.ret (.int .i64 10))) (.ret (.int .i64 10)))) (.ite (iEq k 2) (.ite (iEq n 0) (.ite (iLe (sLen s) 256) (.ret (.int .i64 0)) (.ret (.int .i64 10))) (.ret (.int .i64 10))) (.ret (.int .i64 10)))) (by kernel_rfl) ?_
  simp
  try simp [qaY]
  try ((repeat' split)<;>first|rfl|(simp_all;done)|omega|(simp_all;omega))
 ·cases h
def F_Is:List PV→Tr PV
 |[.agg [.int .i64 k,.int .i64 n,.str s]]=>.ret (.bool (isV k n s))
 |_=>.fail
theorem qPl (gl:Gl):SimP Tryz.prog gl 179 fun args=>(F_Is args).run:=by
 refine SimP.of_tree (G:=ofL []) (L:=fun _ _ _=>.fail) qai qag qah Tryz.func179 rfl (by rfl) (by kernel_rfl) (qac (by kernel_rfl)) ?_
 intro args x h hr;unfold F_Is at h
 split at h
 ·rename_i k n s;cases h
  refine Tr.run_as (.ite (iEq k 1) (.ite (sEq s []) (.ret (.bool true)) (.ite (iEq k 2) (.ite (iEq n 0) (.ret (.bool (iLe (sLen s) 256))) (.ret (.bool false))) (.ret (.bool false)))) (.ite (iEq k 2) (.ite (iEq n 0) (.ret (.bool (iLe (sLen s) 256))) (.ret (.bool false))) (.ret (.bool false)))) (by kernel_rfl) ?_
  simp
  try simp [isV]
  try ((repeat' split)<;>first|rfl|(simp_all;done)|omega|(simp_all;omega))
 ·cases h
def qcK (a b:qU):Bool:=decide (b.length≤a.length)&&decide (a.take b.length=b)
def qtv (a b:qU):Bool:=decide (b.length≤a.length)&&decide (a.drop (a.length - b.length)=b)
def qsO:List PV→Tr PV
 |[.str a,.str b]=>.ret (.bool (qcK a b))
 |_=>.fail
theorem qBU (gl:Gl):SimP Tryz.prog gl 190 fun args=>(qsO args).run:=by
 refine SimP.of_tree (G:=ofL []) (L:=fun _ _ _=>.fail) qai qag qah Tryz.func190 rfl (by rfl) (by kernel_rfl) (qac (by kernel_rfl)) ?_
 intro args x h hr;unfold qsO at h
 split at h
 ·rename_i a b;cases h
  have h1:=qwm hr 0 rfl;have h2:=qwm hr 1 rfl;unfold maxLen at h1 h2;refine Tr.run_as (.ite (iLe (sLen b) (sLen a)) (.ite (qa1 true (qas (sLen b)) 0 (nNat (sLen b)) (nLen a)) (.ret (.bool (sEq (sSub a 0 (nNat (sLen b))) b))) .fail) (.ret (.bool false))) (by kernel_rfl) ?_
  simp [iSub];by_cases hl:b.length≤a.length
  ·simp [qcK,hl]
  ·simp [qcK,hl]
 ·cases h
def qtC:List PV→Tr PV
 |[.str a,.str b]=>.ret (.bool (qtv a b))
 |_=>.fail
theorem qAE (gl:Gl):SimP Tryz.prog gl 201 fun args=>(qtC args).run:=by
 refine SimP.of_tree (G:=ofL []) (L:=fun _ _ _=>.fail) qai qag qah Tryz.func201 rfl (by rfl) (by kernel_rfl) (qac (by kernel_rfl)) ?_
 intro args x h hr;unfold qtC at h
 split at h
 ·rename_i a b;cases h
  have h1:=qwm hr 0 rfl;have h2:=qwm hr 1 rfl;unfold maxLen at h1 h2;refine Tr.run_as (.ite (iLe (sLen b) (sLen a)) (.ite (qa1 (qas (iSub .i64 (sLen a) (sLen b))) true (nNat (iSub .i64 (sLen a) (sLen b))) (nLen a) (nLen a)) (.ret (.bool (sEq (sSub a (nNat (iSub .i64 (sLen a) (sLen b))) (nLen a)) b))) .fail) (.ret (.bool false))) (by kernel_rfl) ?_
  simp [iSub];by_cases hl:b.length≤a.length
  ·have e:IntKind.wrap .i64 ((a.length:Int) - b.length)=(a.length:Int) - b.length:=qaD (by omega)
   have e2:((a.length:Int) - b.length).toNat=a.length - b.length:=by omega
   rw [if_pos hl,e,if_pos (by omega),e2]
   simp [qtv,hl]
  ·simp [qtv,hl]
 ·cases h
def qrg:List PV→Tr PV
 |[.str a,.str b]=>.ret (.bool (qcK a b))
 |_=>.fail
theorem qu7 (gl:Gl):SimP Tryz.prog gl 177 fun args=>(qrg args).run:=by
 refine SimP.of_tree (G:=ofL [(190,.pure qsO)]) (L:=fun _ _ _=>.fail) qai (qaf (qBU gl) qag) qah Tryz.func177 rfl (by rfl) (by kernel_rfl) (qac (by kernel_rfl)) ?_
 intro args x h hr;unfold qrg at h
 split at h
 ·rename_i a b;cases h
  refine Tr.run_as (.ret (.bool (qcK a b))) (by kernel_rfl) ?_
  simp
  try simp
  try ((repeat' split)<;>first|rfl|(simp_all;done)|omega|(simp_all;omega))
 ·cases h
def qxd:List PV→Tr PV
 |[.str a,.str b]=>.ret (.bool (qtv a b))
 |_=>.fail
theorem qET (gl:Gl):SimP Tryz.prog gl 194 fun args=>(qxd args).run:=by
 refine SimP.of_tree (G:=ofL [(201,.pure qtC)]) (L:=fun _ _ _=>.fail) qai (qaf (qAE gl) qag) qah Tryz.func194 rfl (by rfl) (by kernel_rfl) (qac (by kernel_rfl)) ?_
 intro args x h hr;unfold qxd at h
 split at h
 ·rename_i a b;cases h
  refine Tr.run_as (.ret (.bool (qtv a b))) (by kernel_rfl) ?_
  simp
  try simp
  try ((repeat' split)<;>first|rfl|(simp_all;done)|omega|(simp_all;omega))
 ·cases h
def hexL:qU:=[48,49,50,51,52,53,54,55,56,57,97,98,99,100,101,102]
def oneV (c:Int):List UInt8 :=
 if c=34∨c=92 then [92,UInt8.ofNat c.toNat] else if c=10 then [92,110] else if c=9 then [92,116] else if 32≤c∧c≤126 then [UInt8.ofNat c.toNat]
 else [92,120,UInt8.ofNat (sAt hexL (iShr .u8 c 4)).toNat,UInt8.ofNat (sAt hexL (iAnd .u8 c 15)).toNat]
def qOB:List PV→Tr PV
 |[.int .u8 c]=>.ret (.str (oneV c))
 |_=>.fail
theorem qOL (gl:Gl):SimP Tryz.prog gl 187 fun args=>(qOB args).run:=by
 refine SimP.of_tree (G:=ofL []) (L:=fun _ _ _=>.fail) qai qag qah Tryz.func187 rfl (by rfl) (by kernel_rfl) (qac (by kernel_rfl)) ?_
 intro args x h hr;unfold qOB at h
 split at h
 ·rename_i c;cases h
  have h1:=qod hr 0 rfl;obtain⟨n,rfl⟩:=qrf h1;refine Tr.run_as (.ite (iEq (Int.ofNat n.1) 34) (.ite (qfc (qaq .i32 (Int.ofNat n.1))) (.ite (qgo [92] (sOne (qaq .i32 (Int.ofNat n.1)))) (.ret (.str (sApp [92] (sOne (qaq .i32 (Int.ofNat n.1)))))) .fail) .fail) (.ite (iEq (Int.ofNat n.1) 92) (.ite (qfc (qaq .i32 (Int.ofNat n.1))) (.ite (qgo [92] (sOne (qaq .i32 (Int.ofNat n.1)))) (.ret (.str (sApp [92] (sOne (qaq .i32 (Int.ofNat n.1)))))) .fail) .fail) (.ite (iEq (Int.ofNat n.1) 10) (.ret (.str [92,110])) (.ite (iEq (Int.ofNat n.1) 9) (.ret (.str [92,116])) (.ite (iLe 32 (Int.ofNat n.1)) (.ite (iLe (Int.ofNat n.1) 126) (.ite (qfc (qaq .i32 (Int.ofNat n.1))) (.ret (.str (sOne (qaq .i32 (Int.ofNat n.1))))) .fail) (.ite (qau [48,49,50,51,52,53,54,55,56,57,97,98,99,100,101,102] (iShr .u8 (Int.ofNat n.1) 4)) (.ite (qfc (qaq .i32 (sAt [48,49,50,51,52,53,54,55,56,57,97,98,99,100,101,102] (iShr .u8 (Int.ofNat n.1) 4)))) (.ite (qgo [92,120] (sOne (qaq .i32 (sAt [48,49,50,51,52,53,54,55,56,57,97,98,99,100,101,102] (iShr .u8 (Int.ofNat n.1) 4))))) (.ite (qau [48,49,50,51,52,53,54,55,56,57,97,98,99,100,101,102] (iAnd .u8 (Int.ofNat n.1) 15)) (.ite (qfc (qaq .i32 (sAt [48,49,50,51,52,53,54,55,56,57,97,98,99,100,101,102] (iAnd .u8 (Int.ofNat n.1) 15)))) (.ite (qgo (sApp [92,120] (sOne (qaq .i32 (sAt [48,49,50,51,52,53,54,55,56,57,97,98,99,100,101,102] (iShr .u8 (Int.ofNat n.1) 4))))) (sOne (qaq .i32 (sAt [48,49,50,51,52,53,54,55,56,57,97,98,99,100,101,102] (iAnd .u8 (Int.ofNat n.1) 15))))) (.ret
   (.str (sApp (sApp [92,120] (sOne (qaq .i32 (sAt [48,49,50,51,52,53,54,55,56,57,97,98,99,100,101,102] (iShr .u8 (Int.ofNat n.1) 4))))) (sOne (qaq .i32 (sAt [48,49,50,51,52,53,54,55,56,57,97,98,99,100,101,102] (iAnd .u8 (Int.ofNat n.1) 15))))))) .fail) .fail) .fail) .fail) .fail) .fail)) (.ite (qau [48,49,50,51,52,53,54,55,56,57,97,98,99,100,101,102] (iShr .u8 (Int.ofNat n.1) 4)) (.ite (qfc (qaq .i32 (sAt [48,49,50,51,52,53,54,55,56,57,97,98,99,100,101,102] (iShr .u8 (Int.ofNat n.1) 4)))) (.ite (qgo [92,120] (sOne (qaq .i32 (sAt [48,49,50,51,52,53,54,55,56,57,97,98,99,100,101,102] (iShr .u8 (Int.ofNat n.1) 4))))) (.ite (qau [48,49,50,51,52,53,54,55,56,57,97,98,99,100,101,102] (iAnd .u8 (Int.ofNat n.1) 15)) (.ite (qfc (qaq .i32 (sAt [48,49,50,51,52,53,54,55,56,57,97,98,99,100,101,102] (iAnd .u8 (Int.ofNat n.1) 15)))) (.ite (qgo (sApp [92,120] (sOne (qaq .i32 (sAt [48,49,50,51,52,53,54,55,56,57,97,98,99,100,101,102] (iShr .u8 (Int.ofNat n.1) 4))))) (sOne (qaq .i32 (sAt [48,49,50,51,52,53,54,55,56,57,97,98,99,100,101,102] (iAnd .u8 (Int.ofNat n.1) 15))))) (.ret (.str (sApp (sApp [92,120] (sOne (qaq .i32 (sAt [48,49,50,51,52,53,54,55,56,57,97,98,99,100,101,102] (iShr .u8 (Int.ofNat n.1) 4))))) (sOne (qaq .i32 (sAt [48,49,50,51,52,53,54,55,56,57,97,98,99,100,101,102] (iAnd .u8 (Int.ofNat n.1) 15))))))) .fail) .fail) .fail) .fail) .fail) .fail)))))) (by kernel_rfl) ?_
  clear hr h1;apply qJr
  revert n
  decide +kernel
 ·cases h
def qGU (c:Int):Int:=if c < 10 then iAdd .u8 48 c else iSub .u8 (iAdd .u8 97 c) 10
def qb5 (c:Int):Int:=if 48≤c∧c≤57 then c - 48 else if 97≤c∧c≤102 then c - 87 else -1
def qF9:List PV→Tr PV
 |[.int .u8 c]=>.ret (.int .u8 (qGU c))
 |_=>.fail
theorem qKe (gl:Gl):SimP Tryz.prog gl 191 fun args=>(qF9 args).run:=by
 refine SimP.of_tree (G:=ofL []) (L:=fun _ _ _=>.fail) qai qag qah Tryz.func191 rfl (by rfl) (by kernel_rfl) (qac (by kernel_rfl)) ?_
 intro args x h hr;unfold qF9 at h
 split at h
 ·rename_i c;cases h
  have h1:=qod hr 0 rfl;obtain⟨n,rfl⟩:=qrf h1;refine Tr.run_as (.ite (iLt (Int.ofNat n.1) 10) (.ret (.int .u8 (iAdd .u8 48 (Int.ofNat n.1)))) (.ret (.int .u8 (iSub .u8 (iAdd .u8 97 (Int.ofNat n.1)) 10)))) (by kernel_rfl) ?_
  clear hr h1;apply qD5
  revert n
  decide +kernel
 ·cases h
def qHg:List PV→Tr PV
 |[.int .u8 c]=>.ret (.int .i64 (qb5 c))
 |_=>.fail
theorem qJK (gl:Gl):SimP Tryz.prog gl 178 fun args=>(qHg args).run:=by
 refine SimP.of_tree (G:=ofL []) (L:=fun _ _ _=>.fail) qai qag qah Tryz.func178 rfl (by rfl) (by kernel_rfl) (qac (by kernel_rfl)) ?_
 intro args x h hr;unfold qHg at h
 split at h
 ·rename_i c;cases h
  have h1:=qod hr 0 rfl;obtain⟨n,rfl⟩:=qrf h1;refine Tr.run_as (.ite (iLe 48 (Int.ofNat n.1)) (.ite (iLe (Int.ofNat n.1) 57) (.ret (.int .i64 (qaq .i64 (iSub .u8 (Int.ofNat n.1) 48)))) (.ite (iLe 97 (Int.ofNat n.1)) (.ite (iLe (Int.ofNat n.1) 102) (.ret (.int .i64 (iAdd .i64 (qaq .i64 (iSub .u8 (Int.ofNat n.1) 97)) 10))) (.ret (.int .i64 (-1)))) (.ret (.int .i64 (-1))))) (.ite (iLe 97 (Int.ofNat n.1)) (.ite (iLe (Int.ofNat n.1) 102) (.ret (.int .i64 (iAdd .i64 (qaq .i64 (iSub .u8 (Int.ofNat n.1) 97)) 10))) (.ret (.int .i64 (-1)))) (.ret (.int .i64 (-1))))) (by kernel_rfl) ?_
  clear hr h1;apply qD5
  revert n
  decide +kernel
 ·cases h
def qF6:List PV→Tr PV
 |[.int .u8 c]=>.ret (.sl (qab (oneV c)) .non)
 |_=>.fail
theorem qJ2 (gl:Gl):SimP Tryz.prog gl 181 fun args=>(qF6 args).run:=by
 refine SimP.of_tree (G:=ofL [(191,.pure qF9)]) (L:=fun _ _ _=>.fail) qai (qaf (qKe gl) qag) qah Tryz.func181 rfl (by rfl) (by kernel_rfl) (qac (by kernel_rfl)) ?_
 intro args x h hr;unfold qF6 at h
 split at h
 ·rename_i c;cases h
  have h1:=qod hr 0 rfl;obtain⟨n,rfl⟩:=qrf h1;refine Tr.run_as (.ite (iEq (Int.ofNat n.1) 34) (.ret (.sl [[.int .u8 92],[.int .u8 (Int.ofNat n.1)]] .non)) (.ite (iEq (Int.ofNat n.1) 92) (.ret (.sl [[.int .u8 92],[.int .u8 (Int.ofNat n.1)]] .non)) (.ite (iEq (Int.ofNat n.1) 10) (.ret (.sl [[.int .u8 92],[.int .u8 110]] .non)) (.ite (iEq (Int.ofNat n.1) 9) (.ret (.sl [[.int .u8 92],[.int .u8 116]] .non)) (.ite (iLe 32 (Int.ofNat n.1)) (.ite (iLe (Int.ofNat n.1) 126) (.ret (.sl [[.int .u8 (Int.ofNat n.1)]] .non)) (.ret (.sl [[.int .u8 92],[.int .u8 120],[.int .u8 (qGU (iQuo .u8 (Int.ofNat n.1) 16))],[.int .u8 (qGU (iRem (Int.ofNat n.1) 16))]] .non))) (.ret (.sl [[.int .u8 92],[.int .u8 120],[.int .u8 (qGU (iQuo .u8 (Int.ofNat n.1) 16))],[.int .u8 (qGU (iRem (Int.ofNat n.1) 16))]] .non))))))) (by kernel_rfl) ?_
  clear hr h1;apply qJy
  revert n
  decide +kernel
 ·cases h
end Go.Pv
set_option maxHeartbeats 4000000
set_option maxRecDepth 200000
set_option linter.unusedSimpArgs false
set_option linter.unusedVariables false
namespace Go.Pv
open Go Go.Proofs
theorem qe3 {l:List UInt8} {i:Int} {v:UInt8} (h:l[i.toNat]?=some v):sAt l i=v.toNat:=by
 simp [sAt,List.getD_eq_getElem?_getD,h]
theorem qcL {l:List UInt8} {i:Int} {v:UInt8} (h0:0≤i) (h:l[i.toNat]?=some v):qau l i=true:=by
 have:=(List.getElem?_eq_some_iff.1 h).1;simp [h0,this]
def dv:qU→Int→Int→Int
 |[],_,_=>16
 |b::l,c,i=>if (b.toNat:Int)=c then i else dv l c (i+1)
def digV (c:Int):Int:=dv hexL c 0
def qBZ:List PV→Tr PV
 |[.int .u8 c]=>.ret (.int .u8 (digV c))
 |_=>.fail
def qBH:List PV→Store→Option (Int×Int×Store)
 |[.int .u8 c,.int .i64 i],σ=>some (c,i,σ)
 |_,_=>none
def qGt:Int×Int×Store→Tr (PExit×List (Nat×PV)×Store)
 |(c,i,σ)=>Tr.chk (iEq i 0) (.ite (iEq (digV c) 16) (.ret (.exit 0,[],σ)) (.ret (.ret,[(2,.int .u8 (digV c))],σ)))
def qGP:LpsT:=fun r fr σ=>if r=2 then oracle 14 [0,4] qBH qGt fr σ else .fail
def qAU:Code:=qIo Tryz.f210 0
theorem qEj (gl:Gl):∀ vs σ a e out σ',qBH vs σ=some a→(qGt a).run=some (e,out,σ')→LDoes Tryz.prog gl qAU (mk 14 ([0,4].zip vs)) σ e (mk 14 out) σ':=by
 intro vs s a e out σ' hd hr;unfold qBH at hd;split at hd
 ·rename_i c i;cases hd
  obtain⟨h1,h2⟩:=Tr.chk_some hr;simp at h1;subst h1;clear hr;have key:∀ (m:Nat) (i:Int),0≤i→i+m=16→dv (hexL.drop i.toNat) c i=digV c→LDoes Tryz.prog gl qAU (mk 14 ([0,4].zip [.int .u8 c,.int .i64 i])) s e (mk 14 out) σ':=by
   intro m
   induction m with
   |zero =>
    intro i h0 hi hf;have:i=16:=by omega
    subst this;have hf:16=digV c:=hf;simp [← hf] at h2;obtain⟨rfl,rfl,rfl⟩:=h2;refine LDoes.round qai (G:=ofL []) qag qah (L:=fun _ _ _=>.fail) (qac (by kernel_rfl)) (by kernel_rfl) ?_
    refine Tr.all_as (.ite (iLt 16 16) (.ite (qau [48,49,50,51,52,53,54,55,56,57,97,98,99,100,101,102] 16) (.ite (iEq (sAt [48,49,50,51,52,53,54,55,56,57,97,98,99,100,101,102] 16) c) (.ret (.ret,[10,5],[.int .u8 c,.top,.int .u8 (qaq .u8 16),.int .i64 16,.int .i64 16,.bool true,.int .i64 16,.int .i64 16,.int .u8 (sAt [48,49,50,51,52,53,54,55,56,57,97,98,99,100,101,102] 16),.int .u8 c,.bool true,.int .i64 16,.int .u8 (qaq .u8 16),.top],s)) (.ret (.normal,[10,5],[.int .u8 c,.top,.top,.int .i64 16,.int .i64 (iAdd .i64 16 1),.bool true,.int .i64 16,.int .i64 16,.int .u8 (sAt [48,49,50,51,52,53,54,55,56,57,97,98,99,100,101,102] 16),.int .u8 c,.bool false,.top,.top,.int .i64 (iAdd .i64 16 1)],s))) .fail) (.ret (.exit 0,[5],[.int .u8 c,.top,.top,.top,.int .i64 16,.bool false,.top,.top,.top,.top,.top,.top,.top,.top],s))) (by kernel_rfl) ?_
    refine⟨fun h=>by simp at h,fun h=>⟨rfl,by simp [Weak,mk,qby,look],rfl⟩⟩
   |succ m ih =>
    intro i h0 hi hf;obtain⟨v,hv⟩:=qd0 (l:=hexL) (i:=i.toNat) (by show i.toNat < 16;omega)
    rw [qaO hv] at hf;refine LDoes.round qai (G:=ofL []) qag qah (L:=fun _ _ _=>.fail) (qac (by kernel_rfl)) (by kernel_rfl) ?_
    refine Tr.all_as (.ite (iLt i 16) (.ite (qau [48,49,50,51,52,53,54,55,56,57,97,98,99,100,101,102] i) (.ite (iEq (sAt [48,49,50,51,52,53,54,55,56,57,97,98,99,100,101,102] i) c) (.ret (.ret,[10,5],[.int .u8 c,.top,.int .u8 (qaq .u8 i),.int .i64 i,.int .i64 i,.bool true,.int .i64 i,.int .i64 i,.int .u8 (sAt [48,49,50,51,52,53,54,55,56,57,97,98,99,100,101,102] i),.int .u8 c,.bool true,.int .i64 i,.int .u8 (qaq .u8 i),.top],s)) (.ret (.normal,[10,5],[.int .u8 c,.top,.top,.int .i64 i,.int .i64 (iAdd .i64 i 1),.bool true,.int .i64 i,.int .i64 i,.int .u8 (sAt [48,49,50,51,52,53,54,55,56,57,97,98,99,100,101,102] i),.int .u8 c,.bool false,.top,.top,.int .i64 (iAdd .i64 i 1)],s))) .fail) (.ret (.exit 0,[5],[.int .u8 c,.top,.top,.top,.int .i64 i,.bool false,.top,.top,.top,.top,.top,.top,.top,.top],s))) (by kernel_rfl) ?_
    refine⟨fun _=>⟨fun _=>⟨fun h=>?_,fun h=>?_⟩,fun h=>?_⟩,fun h=>by simp at h;omega⟩
    ·have h:iEq (sAt hexL i) c=true:=h;rw [qe3 hv] at h
     simp at h
     simp only [dv,if_pos h] at hf;rw [← hf] at h2;have h16:¬ i=16:=by omega
     simp [h16] at h2;obtain⟨rfl,rfl,rfl⟩:=h2;refine⟨rfl,?_,rfl⟩;simp [Weak,mk,qby,look,qaq,qvp (n:=i) (by omega)]
    ·have h:iEq (sAt hexL i) c=false:=h;rw [qe3 hv] at h
     simp at h
     simp only [dv,if_neg h] at hf;have e1:(i+1).toNat=i.toNat+1:=by omega
     refine LDoes.into ?_ (ih (i+1) (by omega) (by omega) (by rw [e1];exact hf))
     simp [Weak,mk,qby,look,iAdd,qaD (n:=i+1) (by omega)]
    ·have h:qau hexL i=false:=h;rw [qcL h0 hv] at h
     cases h
  exact key 16 0 (by omega) (by omega) rfl
 ·cases hd
theorem qH3 (gl:Gl):SimP Tryz.prog gl 210 fun args=>(qBZ args).run:=by
 refine SimP.of_tree (G:=ofL []) (L:=qGP) qai qag qah Tryz.func210 rfl (by rfl) (by kernel_rfl) (qgu (r:=2) (c1:=qAU) (by kernel_rfl) ?_) ?_
 ·intro fr σ e fr' σ' hh;simp only [lps,qGP,if_true] at hh;exact qii (qEj gl) fr σ e fr' σ' hh
 intro args x h hr;unfold qBZ at h
 split at h
 ·rename_i c;cases h
  refine Tr.run_as (.ite (iEq 0 0) (.ite (iEq (digV c) 16) (.ret (.int .u8 16)) (.ret (.int .u8 (digV c)))) .fail) (by kernel_rfl) ?_
  simp [eq_comm]
 ·cases h
def escB (s:qU):Int :=
 if s=[] then 0 else if sAt s 0=34∨sAt s 0=92 then sAt s 0 else if sAt s 0=110 then 10 else if sAt s 0=116 then 9
 else if sAt s 0=120∧3≤s.length∧digV (sAt s 1) < 16∧digV (sAt s 2) < 16 then iOr .u8 (iShl .u8 (digV (sAt s 1)) 4) (digV (sAt s 2)) else 0
def escN (s:qU):Int :=
 if s=[] then 0 else if sAt s 0=34∨sAt s 0=92 then 1 else if sAt s 0=110 then 1 else if sAt s 0=116 then 1
 else if sAt s 0=120∧3≤s.length∧digV (sAt s 1) < 16∧digV (sAt s 2) < 16 then 3 else 0
def qqI:List PV→Tr PV
 |[.str s]=>.ret (.tup [.int .u8 (escB s),.int .i64 (escN s)])
 |_=>.fail
theorem quW (gl:Gl):SimP Tryz.prog gl 202 fun args=>(qqI args).run:=by
 refine SimP.of_tree (G:=ofL [(210,.pure qBZ)]) (L:=fun _ _ _=>.fail) qai (qaf (qH3 gl) qag) qah Tryz.func202 rfl (by rfl) (by kernel_rfl) (qac (by kernel_rfl)) ?_
 intro args x h hr;unfold qqI at h
 split at h
 ·rename_i s;cases h
  refine Tr.run_as (.ite (sEq s []) (.ret (.tup [.int .u8 0,.int .i64 0])) (.ite (qau s 0) (.ite (iEq (sAt s 0) 34) (.ite (qau s 0) (.ret (.tup [.int .u8 (sAt s 0),.int .i64 1])) .fail) (.ite (iEq (sAt s 0) 92) (.ite (qau s 0) (.ret (.tup [.int .u8 (sAt s 0),.int .i64 1])) .fail) (.ite (iEq (sAt s 0) 110) (.ret (.tup [.int .u8 10,.int .i64 1])) (.ite (iEq (sAt s 0) 116) (.ret (.tup [.int .u8 9,.int .i64 1])) (.ite (iEq (sAt s 0) 120) (.ite (iLe 3 (sLen s)) (.ite (qau s 1) (.ite (iLt (digV (sAt s 1)) 16) (.ite (qau s 2) (.ite (iLt (digV (sAt s 2)) 16) (.ite (qau s 1) (.ite (qau s 2) (.ret (.tup [.int .u8 (iOr .u8 (iShl .u8 (digV (sAt s 1)) 4) (digV (sAt s 2))),.int .i64 3])) .fail) .fail) (.ret (.tup [.int .u8 0,.int .i64 0]))) .fail) (.ret (.tup [.int .u8 0,.int .i64 0]))) .fail) (.ret (.tup [.int .u8 0,.int .i64 0]))) (.ret (.tup [.int .u8 0,.int .i64 0]))))))) .fail)) (by kernel_rfl) ?_
  by_cases h0:s=[]
  ·subst h0;simp [escB,escN]
  ·have hl:0 < s.length:=List.length_pos_iff.2 h0;have k0:qau s 0=true:=by simp [hl]
   by_cases h3:3≤s.length
   ·have k1:qau s 1=true:=by simp;omega
    have k2:qau s 2=true:=by simp;omega
    have h3':(3:Int)≤s.length:=by omega
    simp only [Tr.run_ite,k0,k1,k2,quO,qH8,qCU,qLC,qgY,decide_eq_true_eq,h0,h3',if_true,if_false,escB,escN,h3,true_and,Tr.run_ret]
    repeat' split
    all_goals first|rfl|(simp_all;done)|(exfalso;simp_all;done)|(exfalso;omega)
   ·have h3':¬ (3:Int)≤s.length:=by omega
    simp only [Tr.run_ite,k0,quO,qH8,qCU,qLC,qgY,decide_eq_true_eq,h0,h3',if_true,if_false,escB,escN,h3,false_and,and_false,Tr.run_ret]
    repeat' split
    all_goals first|rfl|(simp_all;done)|(exfalso;simp_all;done)|(exfalso;omega)
 ·cases h
def qeM (n:Nat):qU:=if h:n < 10 then [UInt8.ofNat (48+n)] else qeM (n / 10)++[UInt8.ofNat (48+n % 10)]
 termination_by n
 decreasing_by omega
theorem qmT:∀ (k n:Nat),n < 10 ^ (k+1)→(qeM n).length≤k+1:=by
 intro k
 induction k with
 |zero=>intro n h;unfold qeM;simp at h;simp [h]
 |succ k ih =>
  intro n h;unfold qeM;split
  ·simp
  ·have:=ih (n / 10) (by rw [Nat.pow_succ] at h;omega)
   simp;omega
def qh8 (n:Int):qU:=qeM n.toNat
def qsh (k:Nat):List PV→Tr PV
 |[.int .u64 n]=>Tr.chk (ltN n k) (.ret (.str (qh8 n)))
 |_=>.fail
def qHc:List PV→Tr PV
 |[.int .u64 n]=>.ret (.str (qh8 n))
 |_=>.fail
theorem qzz (gl:Gl):∀ k,SimP Tryz.prog gl 180 fun args=>(qsh k args).run:=by
 intro k
 induction k with
 |zero =>
  refine⟨⟨_,Tryz.func180,by rfl,by rfl⟩,?_⟩
  intro args x h;unfold qsh at h
  split at h
  ·obtain⟨h1,_⟩:=Tr.chk_some h;simp at h1
  ·cases h
 |succ k ih =>
  refine SimP.of_tree (G:=ofL [(180,.pure (qsh k))]) (L:=fun _ _ _=>.fail) qai (qaf ih qag) qah Tryz.func180 rfl (by rfl) (by kernel_rfl) (qac (by kernel_rfl)) ?_
  intro args x h hr;unfold qsh at h
  split at h
  ·rename_i n;obtain⟨h1,h2⟩:=Tr.chk_some h;cases h2
   have hn:0≤n∧n≤18446744073709551615:=qod hr 0 rfl;simp at h1;refine Tr.run_as (.ite (iLt n 10) (.ite (qb7 [[.int .u8 (qaq .u8 (iAdd .u64 48 n))]]) (.ret (.str (qbr [[.int .u8 (qaq .u8 (iAdd .u64 48 n))]]))) .fail) (.ite (ltN (iQuo .u64 n 10) k) (.ite (qb7 [[.int .u8 (qaq .u8 (iAdd .u64 48 (iRem n 10)))]]) (.ite (qgo (qh8 (iQuo .u64 n 10)) (qbr [[.int .u8 (qaq .u8 (iAdd .u64 48 (iRem n 10)))]])) (.ret (.str (sApp (qh8 (iQuo .u64 n 10)) (qbr [[.int .u8 (qaq .u8 (iAdd .u64 48 (iRem n 10)))]])))) .fail) .fail) .fail)) (by kernel_rfl) ?_
   by_cases h10:n < 10
   ·have e1:iAdd .u64 48 n=48+n:=qdA (by omega)
    have e2:qaq .u8 (48+n)=48+n:=qvp (by omega)
    have e3:(48+n).toNat=48+n.toNat:=by omega
    simp [h10,e1,e2,e3,qh8];unfold qeM;rw [dif_pos (by omega)]
    simp [UInt8.ofNat_add]
   ·have e1:iQuo .u64 n 10=n / 10:=by
     unfold iQuo;rw [Int.tdiv_eq_ediv_of_nonneg hn.1];exact qdA (by omega)
    have e2:iRem n 10=n % 10:=Int.tmod_eq_emod_of_nonneg hn.1;have e3:iAdd .u64 48 (n % 10)=48+n % 10:=qdA (by omega)
    have e4:qaq .u8 (48+n % 10)=48+n % 10:=qvp (by omega)
    have e5:(48+n % 10).toNat=48+n.toNat % 10:=by omega
    have e6:(n / 10).toNat=n.toNat / 10:=by omega
    have hl:=qmT 19 (n.toNat / 10) (by omega)
    have e7:¬ n.toNat < 10:=by omega
    have e8:n.toNat / 10 < k:=by omega
    have e9:qeM n.toNat=qeM (n.toNat / 10)++[UInt8.ofNat (48+n.toNat % 10)]:=by
     conv=>lhs;unfold qeM
     rw [dif_neg e7]
    have e10:(qeM (n.toNat / 10)).length+1≤maxLen:=by unfold maxLen;omega
    simp [h10,e1,e2,e3,e4,e5,e6,qh8,e8,e9,e10]
  ·cases h
theorem qKZ (gl:Gl):SimP Tryz.prog gl 180 fun args=>(qHc args).run:=by
 refine SimP.of_each (qzz gl 0).ent ?_;intro args x h;unfold qHc at h
 split at h
 ·rename_i n;cases h
  exact⟨_,qzz gl (n.toNat+1),by simp [qsh,Tr.chk]⟩
 ·cases h
end Go.Pv
set_option maxHeartbeats 4000000
set_option maxRecDepth 200000
set_option linter.unusedSimpArgs false
set_option linter.unusedVariables false
namespace Go.Pv
open Go Go.Proofs
def symB (s:qU):qU:=s.flatMap fun b=>oneV b.toNat
def symV (s:qU):qU:=34::symB s++[34]
def intV (n:Int):qU:=if n < 0 then 45::qh8 (-n) else qh8 n
def qfO (k n:Int) (s:qU):qU:=if isV k n s=true then (if k=1 then intV n else symV s) else []
def symH (s:qU):qU:=34::symB s
theorem qrd (c:Int):1≤(oneV c).length∧(oneV c).length≤4:=by
 unfold oneV
 repeat' split
 all_goals simp
theorem qxi:∀ s,(symB s).length≤4 * s.length
 |[]=>by simp [symB]
 |b::s=>by
  have:=qxi s;have:=qrd b.toNat;simp [symB] at *;omega
theorem qzC (k n:Int) (s:qU):qaY k n s=if isV k n s=true then 0 else 10:=by
 unfold qaY isV;by_cases h1:k=1∧s=[]
 ·simp [h1]
 ·by_cases h2:k=2∧n=0∧s.length≤256
  ·simp [h2]
  ·rw [if_neg h1,if_neg h2,if_neg];simp only [decide_eq_true_eq];rintro (h|h)
   ·exact h1 h
   ·exact h2 h
theorem qGq {n:Int} (h:n≤18446744073709551616):(qh8 n).length≤20:=qmT 19 n.toNat (by omega)
def qBW:List PV→Tr PV
 |[.agg [.int .i64 k,.int .i64 n,.str s]]=>.ret (.tup [.str (qfO k n s),.int .i64 (qaY k n s)])
 |_=>.fail
def qBr:List PV→Store→Option (Int×Int×List UInt8×Int×Store)
 |[.ptr 0 0,.sl [[.int .u8 34]] .full,.int .i64 i],⟨[[.int .i64 k,.int .i64 n,.str s]],[],[42]⟩=>some (k,n,s,i,⟨[[.int .i64 k,.int .i64 n,.str s]],[],[42]⟩)
 |_,_=>none
def qHY:Int×Int×List UInt8×Int×Store→Tr (PExit×List (Nat×PV)×Store)
 |(k,n,s,i,σ)=>Tr.chk (iEq i 0) (Tr.chk (iLe (sLen s) 256) (.ite (sEq s []) (.ret (.exit 0,[(4,.sl (qab (symH s)) .full)],⟨σ.objs,[],σ.tys⟩)) (.ret (.exit 0,[(4,.sl (qab (symH s)) (.tok 0))],⟨σ.objs,[(nLen (symH s),1,5)],σ.tys⟩))))
def qGA:LpsT:=fun r fr σ=>if r=9 then oracle 46 [1,4,5] qBr qHY fr σ else .fail
def qAp:Code:=qIo Tryz.f166 0
theorem qFm (gl:Gl):∀ vs σ a e out σ',qBr vs σ=some a→(qHY a).run=some (e,out,σ')→LDoes Tryz.prog gl qAp (mk 46 ([1,4,5].zip vs)) σ e (mk 46 out) σ':=by
 intro vs s a e out σ' hd hr;unfold qBr at hd;split at hd
 ·rename_i i k n s;cases hd
  obtain⟨h1,h2⟩:=Tr.chk_some hr;obtain⟨h3,h4⟩:=Tr.chk_some h2;simp at h1 h3;subst h1;clear hr h2;have hG:qam Tryz.prog gl (gam (ofL [(181,.pure qF6)])):=qaf (qJ2 gl) qag
  -- the row is the call's own
  have key:∀ (m:Nat) (i:Int) (b:qU),0≤i→i+m=s.length→b++symB (s.drop i.toNat)=symH s→b.length≤1+4 * i.toNat→s≠[] →
    LDoes Tryz.prog gl qAp (mk 46 ([1,4,5].zip [.ptr 0 0,.sl (qab b) (.tok 0),.int .i64 i])) ⟨[[.int .i64 k,.int .i64 n,.str s]],[(nLen b,1,5)],[42]⟩ e (mk 46 out) σ':=by
   intro m
   induction m with
   |zero =>
    intro i b h0 hi hf hb hne;have e1:s.drop i.toNat=[]:=by apply List.drop_eq_nil_of_le;omega
    rw [e1] at hf;simp [symB] at hf;subst hf;simp [hne] at h4;obtain⟨rfl,rfl,rfl⟩:=h4;refine LDoes.round qai hG qah (L:=fun _ _ _=>.fail) (qac (by kernel_rfl)) (by kernel_rfl) ?_
    refine Tr.all_as (.ite (iLt i (sLen s)) (.ite (qau s i) (.ite (qaz (qab (symH s)) (qab (oneV (sAt s i))) 1) (.ite (qar (qab (oneV (sAt s i))) 1) (.ite (qan (qab (symH s)) 1) (.ite (xNil (qab (oneV (sAt s i)))) (.ret (.normal,[32],[.top,.ptr 0 0,.top,.top,.sl (qab (symH s)) (.tok 0),.int .i64 (iAdd .i64 i 1),.top,.top,.top,.top,.top,.top,.top,.top,.top,.top,.top,.top,.top,.top,.top,.top,.top,.top,.top,.top,.top,.top,.int .i64 i,.ptr 0 2,.str s,.int .i64 (sLen s),.bool true,.int .i64 i,.int .i64 (iAdd .i64 i 1),.sl (qab (symH s)) (.tok 0),.ptr 0 2,.str s,.int .i64 i,.int .u8 (sAt s i),.sl (qab (oneV (sAt s i))) .non,.sl (qab (symH s)) (.tok 0),.top,.top,.top,.top],Store.mk [[.int .i64 k,.int .i64 n,.str s]] [(nLen (symH s),1,5)] [42])) (.ite (nEq (nLen (symH s)) (nXs (qab (symH s)))) (.ret (.normal,[32],[.top,.ptr 0 0,.top,.top,.sl (xApp (qab (symH s)) (qab (oneV (sAt s i)))) (.tok 0),.int .i64 (iAdd .i64 i 1),.top,.top,.top,.top,.top,.top,.top,.top,.top,.top,.top,.top,.top,.top,.top,.top,.top,.top,.top,.top,.top,.top,.int .i64 i,.ptr 0 2,.str s,.int .i64 (sLen s),.bool true,.int .i64 i,.int .i64 (iAdd .i64 i 1),.sl (qab (symH s)) (.tok 0),.ptr 0 2,.str s,.int .i64 i,.int .u8 (sAt s i),.sl (qab (oneV (sAt s i))) .non,.sl (xApp (qab (symH s)) (qab (oneV (sAt s i)))) (.tok 0),.top,.top,.top,.top],Store.mk [[.int .i64 k,.int .i64 n,.str s]] [(nXs (xApp (qab (symH s)) (qab (oneV (sAt s i)))),1,5)] [42])) .fail)) .fail)
     .fail) .fail) .fail) (.ret (.exit 0,[32],[.top,.ptr 0 0,.top,.top,.sl (qab (symH s)) (.tok 0),.int .i64 i,.top,.top,.top,.top,.top,.top,.top,.top,.top,.top,.top,.top,.top,.top,.top,.top,.top,.top,.top,.top,.top,.top,.int .i64 i,.ptr 0 2,.str s,.int .i64 (sLen s),.bool false,.top,.top,.top,.top,.top,.top,.top,.top,.top,.top,.top,.top,.top],Store.mk [[.int .i64 k,.int .i64 n,.str s]] [(nLen (symH s),1,5)] [42]))) (by kernel_rfl) ?_
    refine Tr.all_f (by simp;omega) ⟨rfl,by simp [Weak,mk,qby,look],rfl⟩
   |succ m ih =>
    intro i b h0 hi hf hb hne;obtain⟨v,hv⟩:=qd0 (l:=s) (i:=i.toNat) (by omega)
    rw [qaO hv] at hf;have hone:=qrd v.toNat;have e2:(i+1).toNat=i.toNat+1:=by omega
    refine LDoes.round qai hG qah (L:=fun _ _ _=>.fail) (qac (by kernel_rfl)) (by kernel_rfl) ?_
    refine Tr.all_as (.ite (iLt i (sLen s)) (.ite (qau s i) (.ite (qaz (qab b) (qab (oneV (sAt s i))) 1) (.ite (qar (qab (oneV (sAt s i))) 1) (.ite (qan (qab b) 1) (.ite (xNil (qab (oneV (sAt s i)))) (.ret (.normal,[32],[.top,.ptr 0 0,.top,.top,.sl (qab b) (.tok 0),.int .i64 (iAdd .i64 i 1),.top,.top,.top,.top,.top,.top,.top,.top,.top,.top,.top,.top,.top,.top,.top,.top,.top,.top,.top,.top,.top,.top,.int .i64 i,.ptr 0 2,.str s,.int .i64 (sLen s),.bool true,.int .i64 i,.int .i64 (iAdd .i64 i 1),.sl (qab b) (.tok 0),.ptr 0 2,.str s,.int .i64 i,.int .u8 (sAt s i),.sl (qab (oneV (sAt s i))) .non,.sl (qab b) (.tok 0),.top,.top,.top,.top],Store.mk [[.int .i64 k,.int .i64 n,.str s]] [(nLen b,1,5)] [42])) (.ite (nEq (nLen b) (nXs (qab b))) (.ret (.normal,[32],[.top,.ptr 0 0,.top,.top,.sl (xApp (qab b) (qab (oneV (sAt s i)))) (.tok 0),.int .i64 (iAdd .i64 i 1),.top,.top,.top,.top,.top,.top,.top,.top,.top,.top,.top,.top,.top,.top,.top,.top,.top,.top,.top,.top,.top,.top,.int .i64 i,.ptr 0 2,.str s,.int .i64 (sLen s),.bool true,.int .i64 i,.int .i64 (iAdd .i64 i 1),.sl (qab b) (.tok 0),.ptr 0 2,.str s,.int .i64 i,.int .u8 (sAt s i),.sl (qab (oneV (sAt s i))) .non,.sl (xApp (qab b) (qab (oneV (sAt s i)))) (.tok 0),.top,.top,.top,.top],Store.mk [[.int .i64 k,.int .i64 n,.str s]] [(nXs (xApp (qab b) (qab (oneV (sAt s i)))),1,5)] [42])) .fail)) .fail) .fail) .fail) .fail) (.ret (.exit 0,[32],[.top,.ptr 0 0,.top,.top,.sl (qab b)
     (.tok 0),.int .i64 i,.top,.top,.top,.top,.top,.top,.top,.top,.top,.top,.top,.top,.top,.top,.top,.top,.top,.top,.top,.top,.top,.top,.int .i64 i,.ptr 0 2,.str s,.int .i64 (sLen s),.bool false,.top,.top,.top,.top,.top,.top,.top,.top,.top,.top,.top,.top,.top],Store.mk [[.int .i64 k,.int .i64 n,.str s]] [(nLen b,1,5)] [42]))) (by kernel_rfl) ?_
    rw [qe3 hv,qjb,qcW,qcW];refine Tr.all_t (by simp;omega) <| Tr.all_t (qcL h0 hv) <| Tr.all_t (qfh (by omega)) <| Tr.all_t (qph _) <| Tr.all_t (qbS _) <| Tr.all_f (qoX hone.1) <| Tr.all_t (by simp) ?_
    refine LDoes.into ?_ (ih (i+1) (b++oneV v.toNat) (by omega) (by omega) (by rw [← hf,e2];simp [symB]) (by simp;omega) hne)
    simp [Weak,mk,qby,look,iAdd,qaD (n:=i+1) (by omega)]
  by_cases hne:s=[]
  ·subst hne;simp at h4;obtain⟨rfl,rfl,rfl⟩:=h4;refine LDoes.round qai hG qah (L:=fun _ _ _=>.fail) (qac (by kernel_rfl)) (by kernel_rfl) ?_
   refine Tr.all_as (.ite (iLt 0 (sLen [])) (.ite (qau [] 0) (.ite (qaz [[.int .u8 34]] (qab (oneV (sAt [] 0))) 1) (.ite (qar (qab (oneV (sAt [] 0))) 1) (.ite (qan [[.int .u8 34]] 1) (.ite (xNil (qab (oneV (sAt [] 0)))) (.ret (.normal,[32],[.top,.ptr 0 0,.top,.top,.sl [[.int .u8 34]] .full,.int .i64 (iAdd .i64 0 1),.top,.top,.top,.top,.top,.top,.top,.top,.top,.top,.top,.top,.top,.top,.top,.top,.top,.top,.top,.top,.top,.top,.int .i64 0,.ptr 0 2,.str [],.int .i64 (sLen []),.bool true,.int .i64 0,.int .i64 (iAdd .i64 0 1),.sl [[.int .u8 34]] .full,.ptr 0 2,.str [],.int .i64 0,.int .u8 (sAt [] 0),.sl (qab (oneV (sAt [] 0))) .non,.sl [[.int .u8 34]] .full,.top,.top,.top,.top],Store.mk [[.int .i64 k,.int .i64 n,.str []]] [] [42])) (.ret (.normal,[32],[.top,.ptr 0 0,.top,.top,.sl (xApp [[.int .u8 34]] (qab (oneV (sAt [] 0)))) (.tok 0),.int .i64 (iAdd .i64 0 1),.top,.top,.top,.top,.top,.top,.top,.top,.top,.top,.top,.top,.top,.top,.top,.top,.top,.top,.top,.top,.top,.top,.int .i64 0,.ptr 0 2,.str [],.int .i64 (sLen []),.bool true,.int .i64 0,.int .i64 (iAdd .i64 0 1),.sl [[.int .u8 34]] .full,.ptr 0 2,.str [],.int .i64 0,.int .u8 (sAt [] 0),.sl (qab (oneV (sAt [] 0))) .non,.sl (xApp [[.int .u8 34]] (qab (oneV (sAt [] 0)))) (.tok 0),.top,.top,.top,.top],Store.mk [[.int .i64 k,.int .i64 n,.str []]] [(nXs (xApp [[.int .u8 34]] (qab (oneV (sAt [] 0)))),1,5)] [42]))) .fail) .fail) .fail) .fail) (.ret (.exit 0,[32],[.top,.ptr 0 0,.top,.top,.sl [[.int .u8 34]] .full,.int
    .i64 0,.top,.top,.top,.top,.top,.top,.top,.top,.top,.top,.top,.top,.top,.top,.top,.top,.top,.top,.top,.top,.top,.top,.int .i64 0,.ptr 0 2,.str [],.int .i64 (sLen []),.bool false,.top,.top,.top,.top,.top,.top,.top,.top,.top,.top,.top,.top,.top],Store.mk [[.int .i64 k,.int .i64 n,.str []]] [] [42]))) (by kernel_rfl) ?_
   refine Tr.all_f (by simp) ⟨rfl,by simp [Weak,mk,qby,look,symH,symB,qab],rfl⟩
  ·obtain⟨v,hv⟩:=qd0 (l:=s) (i:=0) (List.length_pos_iff.2 hne);have hv':s[(0:Int).toNat]?=some v:=hv;have hone:=qrd v.toNat;have hs:s=v::s.drop 1:=by
    have:=qaO hv;simpa using this
   refine LDoes.round qai hG qah (L:=fun _ _ _=>.fail) (qac (by kernel_rfl)) (by kernel_rfl) ?_
   refine Tr.all_as (.ite (iLt 0 (sLen s)) (.ite (qau s 0) (.ite (qaz [[.int .u8 34]] (qab (oneV (sAt s 0))) 1) (.ite (qar (qab (oneV (sAt s 0))) 1) (.ite (qan [[.int .u8 34]] 1) (.ite (xNil (qab (oneV (sAt s 0)))) (.ret (.normal,[32],[.top,.ptr 0 0,.top,.top,.sl [[.int .u8 34]] .full,.int .i64 (iAdd .i64 0 1),.top,.top,.top,.top,.top,.top,.top,.top,.top,.top,.top,.top,.top,.top,.top,.top,.top,.top,.top,.top,.top,.top,.int .i64 0,.ptr 0 2,.str s,.int .i64 (sLen s),.bool true,.int .i64 0,.int .i64 (iAdd .i64 0 1),.sl [[.int .u8 34]] .full,.ptr 0 2,.str s,.int .i64 0,.int .u8 (sAt s 0),.sl (qab (oneV (sAt s 0))) .non,.sl [[.int .u8 34]] .full,.top,.top,.top,.top],Store.mk [[.int .i64 k,.int .i64 n,.str s]] [] [42])) (.ret (.normal,[32],[.top,.ptr 0 0,.top,.top,.sl (xApp [[.int .u8 34]] (qab (oneV (sAt s 0)))) (.tok 0),.int .i64 (iAdd .i64 0 1),.top,.top,.top,.top,.top,.top,.top,.top,.top,.top,.top,.top,.top,.top,.top,.top,.top,.top,.top,.top,.top,.top,.int .i64 0,.ptr 0 2,.str s,.int .i64 (sLen s),.bool true,.int .i64 0,.int .i64 (iAdd .i64 0 1),.sl [[.int .u8 34]] .full,.ptr 0 2,.str s,.int .i64 0,.int .u8 (sAt s 0),.sl (qab (oneV (sAt s 0))) .non,.sl (xApp [[.int .u8 34]] (qab (oneV (sAt s 0)))) (.tok 0),.top,.top,.top,.top],Store.mk [[.int .i64 k,.int .i64 n,.str s]] [(nXs (xApp [[.int .u8 34]] (qab (oneV (sAt s 0)))),1,5)] [42]))) .fail) .fail) .fail) .fail) (.ret (.exit 0,[32],[.top,.ptr 0 0,.top,.top,.sl [[.int .u8 34]] .full,.int .i64
    0,.top,.top,.top,.top,.top,.top,.top,.top,.top,.top,.top,.top,.top,.top,.top,.top,.top,.top,.top,.top,.top,.top,.int .i64 0,.ptr 0 2,.str s,.int .i64 (sLen s),.bool false,.top,.top,.top,.top,.top,.top,.top,.top,.top,.top,.top,.top,.top],Store.mk [[.int .i64 k,.int .i64 n,.str s]] [] [42]))) (by kernel_rfl) ?_
   have e3:([[PV.int .u8 34]]:List (List PV))=qab [34]:=rfl;rw [qe3 hv',e3,qjb,qcW];refine Tr.all_t (by simp;exact List.length_pos_iff.2 hne) <| Tr.all_t (qcL (by omega) hv') <| Tr.all_t (qfh (by simp;omega)) <| Tr.all_t (qph _) <| Tr.all_t (qbS _) <| Tr.all_f (qoX hone.1) ?_
   have hl:s.length=(s.drop 1).length+1:=by rw [List.length_drop];have:=List.length_pos_iff.2 hne;omega
   refine LDoes.into ?_ (key (s.length - 1) 1 ([34]++oneV v.toNat) (by omega) (by omega) ?_ (by simp;omega) hne)
   ·simp [Weak,mk,qby,look,iAdd,qaD (n:=1) (by omega)]
   ·unfold symH
    conv=>rhs;rw [hs]
    simp [symB]
 ·cases hd
theorem qHW (gl:Gl):SimP Tryz.prog gl 166 fun args=>(qBW args).run:=by
 refine SimP.of_tree (G:=ofL [(179,.pure F_Is),(180,.pure qHc)]) (L:=qGA) qai (qaf (qPl gl) (qaf (qKZ gl) qag)) qah Tryz.func166 rfl (by rfl) (by kernel_rfl) (qgu (r:=9) (c1:=qAp) (by kernel_rfl) ?_) ?_
 ·intro fr σ e fr' σ' hh;simp only [lps,qGA,if_true] at hh;exact qii (qFm gl) fr σ e fr' σ' hh
 intro args x h hr;unfold qBW at h
 split at h
 ·rename_i k n s;cases h
  refine Tr.run_as (.ite (bNot (isV k n s)) (.ret (.tup [.str [],.int .i64 10])) (.ite (iEq k 1) (.ite (iLt n 0) (.ite (qgo [45] (qh8 (iAdd .u64 (qaq .u64 (iSub .i64 0 (iAdd .i64 n 1))) 1))) (.ret (.tup [.str (sApp [45] (qh8 (iAdd .u64 (qaq .u64 (iSub .i64 0 (iAdd .i64 n 1))) 1))),.int .i64 0])) .fail) (.ret (.tup [.str (qh8 (qaq .u64 n)),.int .i64 0]))) (.ite (iEq 0 0) (.ite (iLe (sLen s) 256) (.ite (sEq s []) (.ite (qaz (qab (symH s)) [[.int .u8 34]] 1) (.ite (qar [[.int .u8 34]] 1) (.ite (qan (qab (symH s)) 1) (.ite (qb7 (xApp (qab (symH s)) [[.int .u8 34]])) (.ret (.tup [.str (qbr (xApp (qab (symH s)) [[.int .u8 34]])),.int .i64 0])) .fail) .fail) .fail) .fail) (.ite (qaz (qab (symH s)) [[.int .u8 34]] 1) (.ite (qar [[.int .u8 34]] 1) (.ite (qan (qab (symH s)) 1) (.ite (nEq (nLen (symH s)) (nXs (qab (symH s)))) (.ite (qb7 (xApp (qab (symH s)) [[.int .u8 34]])) (.ret (.tup [.str (qbr (xApp (qab (symH s)) [[.int .u8 34]])),.int .i64 0])) .fail) .fail) .fail) .fail) .fail)) .fail) .fail))) (by kernel_rfl) ?_
  have hc:=qNs hr 0 rfl;have hn:-9223372036854775808≤n∧n≤9223372036854775807:=qod hc 1 rfl;rw [qzC];cases hI:isV k n s with
  |false=>simp [qfO,hI]
  |true =>
   by_cases hk:k=1
   ·by_cases hneg:n < 0
    ·have e1:iAdd .i64 n 1=n+1:=qaD (by omega)
     have e2:iSub .i64 0 (n+1)=-(n+1):=by unfold iSub;rw [qaD (by omega)];omega
     have e3:qaq .u64 (-(n+1))=-(n+1):=qdA (by omega)
     have e4:iAdd .u64 (-(n+1)) 1=-n:=by unfold iAdd;rw [qdA (by omega)];omega
     have e5:=qGq (n:=-n) (by omega)
     have e6:1+(qh8 (-n)).length≤maxLen:=by unfold maxLen;omega
     have e7:qgo [45] (qh8 (-n))=true:=by simp;omega
     simp only [e1,e2,e3,e4,hk,hneg,Tr.run_ite,e7,if_true,qIV,Bool.not_true,Bool.false_eq_true,if_false,quO,qCU,decide_true,Tr.run_ret];subst hk;simp [qfO,hI,intV,hneg]
    ·have e1:qaq .u64 n=n:=qdA (by omega)
     subst hk;simp [qfO,hI,intV,hneg,e1]
   ·have hs:s.length≤256:=by
     unfold isV at hI;simp [hk] at hI;exact hI.2.2
    have hB:=qxi s;have hH:(symH s).length=1+(symB s).length:=by simp [symH];omega
    have e1:xApp (qab (symH s)) [[.int .u8 34]]=qab (symV s):=by
     rw [qiz _ (by omega)]
     rfl
    have e2:qaz (qab (symH s)) [[.int .u8 34]] 1=true:=by simp;omega
    have e3:nEq (nLen (symH s)) (nXs (qab (symH s)))=true:=by simp
    have e4:qar [[.int .u8 34]] 1=true:=rfl;have e5:iLe (sLen s) 256=true:=by simp;omega
    simp only [e1,e2,e3,e4,e5,Tr.run_ite,hk,qIV,Bool.not_true,Bool.false_eq_true,if_false,if_true,quO,decide_false,decide_true,qbS,qwy,qvO,Tr.run_ret];simp [qfO,hI,hk]
 ·cases h
end Go.Pv
set_option maxHeartbeats 4000000
set_option maxRecDepth 200000
set_option linter.unusedSimpArgs false
set_option linter.unusedVariables false
namespace Go.Pv
open Go Go.Proofs Go.RowKit
def VarIs (gl:Gl) (name:String) (cs:Array Value):Prop:=∃ g T f,Tryz.prog.globalNamed name=some g∧gl g=some (.cells cs T f)
structure GlPow (gl:Gl):Prop where
 pow : VarIs gl "internal/strconv.uint64pow10" (Lib.pow10Tab.map fun z => Value.int .u64 z).toArray
structure GlOk (gl:Gl):Prop extends GlPow gl where
 syn : ∃ tp p, VarIs gl "strconv.ErrSyntax" #[.iface tp p]
 rng : ∃ tp p, VarIs gl "strconv.ErrRange" #[.iface tp p]
theorem VarIs.var {gl:Gl} {name:String} {cs:Array Value} (h:VarIs gl name cs) {w:World} (hw:∀ b o,gl b=some o→w.heap[b]?=some o):w.var? Tryz.prog name=some cs:=by
 obtain⟨g,T,f,h1,h2⟩:=h;simp [World.var?,h1,hw g _ h2]
theorem GlPow.dr {gl:Gl} (h:GlPow gl) (w w':World):Dr gl w w':=fun hg=>by
 obtain⟨g,T,f,_,h2⟩:=h.pow;rw [hg g] at h2;cases h2
def qIK (n:Int):qU:=Lib.itoa n
def qlo:List PV→Tr PV
 |[.int .i64 n,.int .i64 b]=>Tr.chk (iEq b 10) (.ret (.str (qIK n)))
 |_=>.fail
theorem qw3 {gl:Gl} (hgl:GlPow gl):SimP Tryz.prog gl 185 fun args=>(qlo args).run:=by
 refine⟨⟨_,Tryz.func185,by rfl,by rfl⟩,?_⟩
 intro args x hx H w vs hB hob htk hw hrel;unfold qlo at hx;split at hx
 ·rename_i n b;obtain⟨h1,h2⟩:=Tr.chk_some hx;cases h2
  simp at h1;subst h1;cases hrel with
  |cons _ v _ vs hv hvs =>
   cases hvs with
   |cons _ v2 _ vs hv2 hvs =>
    cases hvs
    cases hv with
    |int _ _ hwf =>
     cases hv2
     simp [Lit.wf,IntKind.min,IntKind.max,IntKind.signed,IntKind.bits] at hwf;refine (Tryz.strconv_FormatInt_10 n hwf.1 (by omega) w (hgl.pow.var hw)).mono ?_
     rintro e w' ⟨rfl,k,os,rfl⟩;refine⟨_,rfl,⟨Lib.below_grow _ _ (Nat.le_refl _) k os,hgl.dr _ _⟩,.str _ ?_⟩;have:=Lib.itoa_length_le n hwf.1 (by omega)
     show (Lib.itoa n).length≤maxLen
     unfold maxLen;omega
 ·cases hx
def pOk (s:qU):Bool:=match Lib.parseIntB 64 s with
 |.ok _=>true
 |_=>false
def pVal (s:qU):Int:=match Lib.parseIntB 64 s with
 |.ok v=>v
 |.range=>Lib.intSat 64 s
 |_=>0
def qfC (s:qU):Bool:=decide (s.length≤281474976710656)
def qn7:List PV→Tr PV
 |[.str s,.int .i64 b,.int .i64 k]=>Tr.chk (iEq b 10) (Tr.chk (iEq k 64) (Tr.chk (qfC s) (.ite (pOk s) (.ret (.tup [.int .i64 (pVal s),.nili])) (.ret (.tup [.int .i64 (pVal s),.iface 248 .top])))))
 |_=>.fail
theorem qGI (s:qU):(Lit.int .i64 (pVal s)).wf=true:=by
 have key:-9223372036854775808≤pVal s∧pVal s≤9223372036854775807:=by
  unfold pVal;split
  ·rename_i v hv;have h:=Lib.parseIntB_bounds hv;have e:((2 ^ (64 - 1):Nat):Int)=9223372036854775808:=by decide
   rw [e] at h
   omega
  ·unfold Lib.intSat;split
   ·have e:-(((2 ^ (64 - 1):Nat)):Int)=-9223372036854775808:=by decide
    rw [e];omega
   ·have e:(((2 ^ (64 - 1) - 1:Nat)):Int)=9223372036854775807:=by decide
    rw [e];omega
  ·omega
 simp [Lit.wf,IntKind.min,IntKind.max,IntKind.signed,IntKind.bits];omega
theorem qyI {gl:Gl} (hgl:GlOk gl):SimP Tryz.prog gl 196 fun args=>(qn7 args).run:=by
 refine⟨⟨_,Tryz.func196,by rfl,by rfl⟩,?_⟩
 intro args x hx H w vs hB hob htk hw hrel;unfold qn7 at hx;split at hx
 ·rename_i s b k;obtain⟨h1,h2⟩:=Tr.chk_some hx;obtain⟨h3,h4⟩:=Tr.chk_some h2;obtain⟨h5,h6⟩:=Tr.chk_some h4;simp at h1 h3;simp [qfC] at h5;subst h1 h3;have hwf:=qGI s;cases hrel with
  |cons _ v _ vs hv hvs =>
   cases hvs with
   |cons _ v2 _ vs hv2 hvs =>
    cases hvs with
    |cons _ v3 _ vs hv3 hvs =>
     cases hvs
     cases hv2;cases hv3
     cases hv with
     |str _ hl =>
      have hsz:(ByteArray.mk s.toArray).size=s.length:=by simp [ByteArray.size]
      cases hp:Lib.parseIntB 64 s with
      |ok n =>
       have e1:pOk s=true:=by simp [pOk,hp]
       have e2:pVal s=n:=by simp [pVal,hp]
       rw [e2] at hwf;simp [e1,e2] at h6;subst h6;refine (Any.strconv_ParseInt_10_at64_ok Tryz.laysC174 ⟨s.toArray⟩ (by rw [hsz];omega) n hp w).mono ?_
       rintro e w' ⟨rfl,hw'⟩;refine⟨_,rfl,⟨?_,hgl.dr _ _⟩,.tup _ _ (.cons _ _ _ _ (.int _ _ hwf) (.cons _ _ _ _ .nili .nil))⟩;rcases hw' with rfl|⟨t,rfl⟩
       ·exact Below.refl _ _
       ·exact⟨rfl,rfl,rfl,by rw [Lib.bytesWorld_size];omega,fun k hk=>Lib.bytesWorld_at_old w _ _ k hk⟩
      |range =>
       have e1:pOk s=false:=by simp [pOk,hp]
       have e2:pVal s=Lib.intSat 64 s:=by simp [pVal,hp]
       simp [e1,e2] at h6;rw [e2] at hwf;subst h6;obtain⟨tp,p,hv⟩:=hgl.rng;refine (Any.strconv_ParseInt_10_at64_range_var Tryz.laysC174 ⟨s.toArray⟩ (by rw [hsz];omega) hp tp p w (hv.var hw)).mono ?_
       rintro e w' ⟨N,rfl,h1,h2,h3⟩;exact⟨_,rfl,⟨h3,hgl.dr _ _⟩,.tup _ _ (.cons _ _ _ _ (.int _ _ hwf) (.cons _ _ _ _ (.iface _ _ _ (.top _)) .nil))⟩
      |_ =>
       have e1:pOk s=false:=by simp [pOk,hp]
       have e2:pVal s=0:=by simp [pVal,hp]
       rw [e2] at hwf;simp [e1,e2] at h6;subst h6;obtain⟨tp,p,hv⟩:=hgl.syn;refine (Any.strconv_ParseInt_10_at64_syntax_var Tryz.laysC174 ⟨s.toArray⟩ (by rw [hsz];omega) hp tp p w (hv.var hw)).mono ?_
       rintro e w' ⟨N,rfl,h1,h2,h3⟩;exact⟨_,rfl,⟨h3,hgl.dr _ _⟩,.tup _ _ (.cons _ _ _ _ (.int _ _ hwf) (.cons _ _ _ _ (.iface _ _ _ (.top _)) .nil))⟩
 ·cases hx
end Go.Pv
set_option maxHeartbeats 4000000
set_option maxRecDepth 200000
set_option linter.unusedSimpArgs false
set_option linter.unusedVariables false
namespace Go.Pv
open Go Go.Proofs Go.Shelf Go.RowKit
variable {P : Program} {ρ : Ren} {gl : Gl}
theorem qCm {w:World} {b off:Nat} {cs:Array Value} {T:TypeId} {fz:Nat×Nat} (h:w.heap[b]?=some (.cells cs T fz)) (v:Value):w.setCell ⟨b,off,none⟩ v=w.setRow b (cs.setIfInBounds off v):=by
 unfold World.setCell World.setRow
 congr 1
 apply Array.ext_getElem?;intro i;rw [Array.getElem?_modify,Array.getElem?_modify];by_cases hi:b=i
 ·subst hi;rw [if_pos rfl,if_pos rfl,h];rfl
 ·rw [if_neg hi,if_neg hi]
theorem qHH {w:World} {b n:Nat} {cs:Array Value} {T:TypeId} {fz:Nat×Nat} (h:w.heap[b]?=some (.cells cs T fz)):∃ fz',(w.freeze ⟨b,0,none⟩ n).heap[b]?=some (.cells cs T fz'):=by
 unfold World.freeze;split
 ·exact⟨fz,h⟩
 ·obtain⟨lo,hi⟩:=fz;exact⟨_,by simp only [Array.getElem?_modify,if_true,h];rfl⟩
theorem qzZ (w:World) (b n k:Nat) (h:k≠b):(w.freeze ⟨b,0,none⟩ n).heap[k]?=w.heap[k]?:=by
 unfold World.freeze;split
 ·rfl
 ·simp only [Array.getElem?_modify];rw [if_neg (fun e=>h e.symm)]
theorem qAR (w:World) (b n:Nat):(w.freeze ⟨b,0,none⟩ n).heap.size=w.heap.size:=by
 unfold World.freeze;split
 ·rfl
 ·simp
theorem qA7 (w:World) (b n:Nat):(w.freeze ⟨b,0,none⟩ n).os=w.os∧(w.freeze ⟨b,0,none⟩ n).tape=w.tape∧(w.freeze ⟨b,0,none⟩ n).output=w.output:=by
 unfold World.freeze;split<;>exact⟨rfl,rfl,rfl⟩
theorem qy3 (w:World) (b n:Nat):(w.drew.freeze ⟨b,0,none⟩ n).drawn=w.drew.drawn:=by
 unfold World.freeze;split<;>rfl
def qeD (T:TypeId):List PV→Store→Tr (PV×Store)
 |[.ptr 1 0],⟨[o,[.nilp,q]],tk,[t0,t1]⟩=>Tr.chk (t1 == T) (.ret (.tup [],⟨[o,[.ptr 1 0,q]],tk,[t0,t1]⟩))
 |[.ptr 1 0],⟨[o,[.ptr 1 0,q]],tk,[t0,t1]⟩=>.ret (.tup [],⟨[o,[.ptr 1 0,q]],tk,[t0,t1]⟩)
 |_,_=>.fail
theorem qBx {H:Gh} {w:World} {args:List Value} {id off:Nat} (h:RelL H w [.ptr id off] args):∃ b,H.ob[id]?=some b∧args=[.pointer (some ⟨b,off,none⟩)]:=by
 cases h with
 |cons _ v _ vs hv hvs =>
  cases hvs
  cases hv with
  |ptr _ _ b hb=>exact⟨b,hb,rfl⟩
theorem qpr {f:FuncId} {TB:TypeId} (hTB:TB < qfA) (hfresh:∀ (b:Nat) (w:World),w.cell? ⟨b,0,none⟩=some (.pointer none)→w.shape? b=some (TB,2)→w.frozen? ⟨b,0,none⟩=false→Calls P f #[.pointer (some ⟨b,0,none⟩)] w fun e w'=>e=.returned (.tuple #[])∧w'=w.setCell ⟨b,0,none⟩ (.pointer (some ⟨b,0,none⟩)))
  (hused:∀ (b:Nat) (w:World),w.cell? ⟨b,0,none⟩=some (.pointer (some ⟨b,0,none⟩))→Calls P f #[.pointer (some ⟨b,0,none⟩)] w fun e w'=>e=.returned (.tuple #[])∧w'=w)
  (hent : ∃ fn, P.funcs[f]? = some fn ∧ (fn.name == "runtime.NumGoroutine") = false ∧ fn.body.isNone = false) : SimS P gl f fun args σ => (qeD TB args σ).run := by
 refine⟨hent,?_⟩;intro args σ x σ' hx H w vs hok hrel;unfold qeD at hx;split at hx
 ·rename_i o q tk t0 t1;obtain⟨h1,h2⟩:=Tr.chk_some hx;cases h2
  have h1:t1=TB:=by simpa using h1
  subst h1;obtain⟨b,hb,rfl⟩:=qBx hrel;obtain⟨hB,us,ext,T,hheap,hus⟩:=hok.obj 1 b _ hb rfl;obtain⟨cs,hcs,hsz⟩:=hok.ty 1 b _ _ hb rfl rfl hTB;rw [hheap] at hcs;simp only [Option.some.injEq,Obj.cells.injEq] at hcs;obtain⟨rfl,rfl,_⟩:=hcs;have hul:=hus.len;have hext:ext=[]:=by
   apply List.eq_nil_of_length_eq_zero;simp at hsz hul;omega
  subst hext;cases hus with
  |cons _ u0 _ us hu0 hus =>
   cases hu0
   cases hus with
   |cons _ u1 _ us hu1 hus =>
    cases hus
    refine (hfresh b w (by rw [Lib.cell_of_heap hheap];rfl) (by simp [World.shape?,hheap]) (by rw [Lib.frozen_of_heap hheap 0])).mono ?_
    rintro e w' ⟨rfl,rfl⟩;rw [qCm hheap];have hset:=qAb (cs':=[.ptr 1 0,q]) (vs':=[.pointer (some ⟨b,0,none⟩),u1]) hok hb hheap (.cons _ _ _ _ (.ptr _ _ _ hb) (.cons _ _ _ _ hu1 .nil)) (fun c0 hc0=>by cases hc0;exact⟨rfl,rfl⟩)
    exact⟨_,rfl,H,hset.1,hset.2,.tup _ _ .nil⟩
 ·rename_i o q tk t0 t1;cases hx
  obtain⟨b,hb,rfl⟩:=qBx hrel;obtain⟨hB,us,ext,T,hheap,hus⟩:=hok.obj 1 b _ hb rfl;cases hus with
  |cons _ u0 _ us hu0 hus =>
   have hu0':u0=.pointer (some ⟨b,0,none⟩):=by
    cases hu0 with
    |ptr _ _ b' hb' =>
     rw [hb] at hb';cases hb'
     rfl
   subst hu0';refine (hused b w (by rw [Lib.cell_of_heap hheap];rfl)).mono ?_
   rintro e w' ⟨rfl,rfl⟩;exact⟨_,rfl,.same hok (.tup _ _ .nil)⟩
 ·cases hx
def qqo (T:TypeId):List PV→Store→Tr (PV×Store)
 |[.ptr 1 0],⟨[o,[p,.sl xs (.tok 0)]],[(v,1,e)],ty⟩=>Tr.chk (qb7 xs) (Tr.chk (bNot (xNil xs)) (Tr.chk (nEq v (nXs xs)) (Tr.chk (e == T) (.ret (.str (qbr xs),⟨[o,[p,.sl xs (.tok 0)]],[(maxLen+1,1,e)],ty⟩)))))
 |_,_=>.fail
set_option maxRecDepth 100000 in
theorem Any.Builder_String_at (L : Lays.n169 P ρ) (X : Builder.Extra P ρ) (b g cap : Nat) (l : List UInt8) (w : World) (p : Value) (cs cur : Array Value) (T : TypeId) (fz : Nat × Nat)
    (hbk : w.cell? ⟨b, 1, none⟩ = some (.slice (some ⟨g, 0, none⟩) l.length cap)) (hg : w.heap[g]? = some (.cells cur (ρ.t 5) fz)) (hnc : l.length ≤ cap) (hcm : cap ≤ maxLen) (hcs : cur.size = cap)
    (hcell : ∀ j x, l[j]? = some x → w.cell? ((⟨g, 0, none⟩ : Addr).add j) = some (.int .u8 x.toNat)) (h0 : l ≠ []) :
    Calls P (ρ.f 169) #[.pointer (some ⟨b, 0, none⟩)] w fun e w' => e = .returned (.string ⟨l.toArray⟩) ∧ w' = w.drew.freeze ⟨g, 0, none⟩ l.length := by
  have hl0 : l.length ≠ 0 := by simpa using h0
  have c1 : w.drew.cell? ⟨b, 1, none⟩ = some (.slice (some ⟨g, 0, none⟩) l.length cap) := hbk
  have hSD : (Builtin.unsafeSliceData_ #[(ρ.t 37)] (ρ.t 127) #[.slice (some ⟨g, 0, none⟩) l.length cap]).run P w.drew = .ok (.pointer (some ⟨g, 0, none⟩)) w.drew :=
    Lib.run_unsafeSliceData_row _ _ _ _ _ _ (by omega)
  have hUS : (Builtin.unsafeString_ #[(ρ.t 127), (ρ.t 3)] (ρ.t 9) #[.pointer (some ⟨g, 0, none⟩), .int .i64 l.length]).run P w.drew = .ok (.string ⟨l.toArray⟩) (w.drew.freeze ⟨g, 0, none⟩ l.length) := by
    refine Lib.run_unsafeString_row w.drew (ρ.t 127) (ρ.t 3) (ρ.t 9) (ρ.t 5) L.t127 X.cellsByte g cur.size (by have hg' : w.drew.heap[g]? = some (.cells cur (ρ.t 5) fz) := hg; simp [World.shape?, hg']) l h0 (by omega) (by unfold maxLen at hcm; omega) ?_
    intro j x hx
    exact hcell j x hx
  have mixed := L.mixed
  have t72 := L.t72; have a72 := L.a72; have z72 := L.z72; have v72 := L.v72; have u72 := run_underlying L.t72
  have t70 := L.t70; have a70 := L.a70; have z70 := L.z70; have v70 := L.v70; have u70 := run_underlying L.t70
  have t37 := L.t37; have a37 := L.a37; have z37 := L.z37; have v37 := L.v37; have u37 := run_underlying L.t37
  have t127 := L.t127; have a127 := L.a127; have z127 := L.z127; have v127 := L.v127; have u127 := run_underlying L.t127
  have t3 := L.t3; have a3 := L.a3; have z3 := L.z3; have v3 := L.v3; have u3 := run_underlying L.t3
  have t9 := L.t9; have a9 := L.a9; have z9 := L.z9; have v9 := L.v9; have u9 := run_underlying L.t9
  have t5 := X.t5; have a5 := X.a5; have z5 := X.z5; have v5 := X.v5; have u5 := run_underlying X.t5
  go_enter L.f169, Body.n169_ntmps ρ
  go_wp2
  go_region_o
  all_goals (go_wp2; go_ret; exact ⟨rfl, rfl⟩)
theorem Any.sim_String (L : Lays.n169 P ρ) (X : Builder.Extra P ρ) (hent : ∃ fn, P.funcs[ρ.f 169]? = some fn ∧ (fn.name == "runtime.NumGoroutine") = false ∧ fn.body.isNone = false) : SimS P gl (ρ.f 169) fun args σ => (qqo (ρ.t 5) args σ).run := by
 refine⟨hent,?_⟩;intro args σ x σ' hx H w vs hok hrel;unfold qqo at hx;split at hx
 ·rename_i o p xs v e ty;obtain⟨h1,q1⟩:=Tr.chk_some hx;obtain⟨h2,q2⟩:=Tr.chk_some q1;obtain⟨h3,q3⟩:=Tr.chk_some q2;obtain⟨h4,q4⟩:=Tr.chk_some q3;clear hx q1 q2 q3;have h4:e=ρ.t 5:=by simpa using h4
  subst h4;simp at h2 h3;subst h3;cases q4
  unfold qb7 qbr at *;cases hl:pbytes xs with
  |none=>simp [hl] at h1
  |some l =>
   obtain⟨b,hb,rfl⟩:=qBx hrel;obtain⟨hB,us,ext,T,hheap,hus⟩:=hok.obj 1 b _ hb rfl;cases hus with
   |cons _ u0 _ us hu0 hus =>
    cases hus with
    |cons _ u1 _ us hu1 hus =>
     cases hus
     cases hu1 with
     |sl a len cap k _ vss _ hlen hcap hm hrr hrow htag =>
      obtain⟨ns,rfl,rfl⟩:=qsE hl;have hvs:=qux hrr;subst hvs;obtain⟨U,hU,hUnz,hle,hUv⟩:=htag;have hUs:(U.ver,U.k,U.e)=(len,1,ρ.t 5):=by
       have hh:=hok.tkl;have:(H.tk.map fun T=>(T.ver,T.k,T.e))[0]?=some (U.ver,U.k,U.e):=by rw [List.getElem?_map,hU];rfl
       rw [hh] at this;simp at this;rw [← this.1,← this.2.1,← this.2.2];simp [← hlen]
      simp only [Prod.mk.injEq] at hUs;obtain⟨hUver,hUk,hUe⟩:=hUs;have hU0:U.ver≠0:=by
       rw [hUver];intro h0;apply h2;have:ns=[]:=List.eq_nil_of_length_eq_zero (by simpa [h0] using hlen)
       simp [this]
      obtain⟨rfl,hcapU,hkU⟩:=(hUv hUver.symm).2 hU0;obtain⟨hBT,hTob,ob,hcur,hTO⟩:=hok.tok 0 U hU (fun hh=>hU0 hh.1)
      obtain⟨cur,fz,rfl,hvc,hcm,hcs⟩:∃ cur fz,ob=.cells cur U.e fz∧(U.ver≤maxLen→fz=(0,0)∧U.ver≤U.cap)∧U.cap≤maxLen∧cur.size=U.cap * U.k:=by
       rcases hTO with⟨_,hc⟩|⟨hz,_⟩
       ·exact hc
       ·exact absurd hz hUnz
      have hln:(ns.map fun n=>UInt8.ofNat n.toNat).length=len:=by simpa using hlen
      have hk1:k=1:=by rw [hkU,hUk]
      subst hk1;have hln:ns.length=len:=by simpa using hlen
      have hwf:∀ (j:Nat) (n:Int),ns[j]?=some n→0≤n∧n < 256:=by
       intro j n hj;have:=(qbN.1 hrr).2 j [.int .u8 n] [.int .u8 n] (by simp [hj]) (by simp [hj])
       cases this with
       |cons _ _ _ _ hv _ =>
        cases hv with
        |int _ _ hwf=>simp [Lit.wf,IntKind.min,IntKind.max,IntKind.signed,IntKind.bits] at hwf;omega
      have hll:(ns.map fun n=>UInt8.ofNat n.toNat).length=len:=by simpa using hln
      refine (Any.Builder_String_at L X b U.blk cap (ns.map fun n=>UInt8.ofNat n.toNat) w u0 #[] cur T fz (by rw [hll,Lib.cell_of_heap hheap];rfl) (by rw [← hUe];exact hcur) (by rw [hll];exact hcap) hm (by rw [hcs,hUk,hcapU,Nat.mul_one]) ?_ ?_).mono ?_
      ·intro j x hj;rw [List.getElem?_map] at hj;cases hn:ns[j]? with
       |none=>simp [hn] at hj
       |some n =>
        simp [hn] at hj;subst hj;have hb:=hwf j n hn;obtain⟨hk,a',ha',hcell⟩:=hrow j [.int .u8 n] (by simp [hn])
        injection ha' with ha'
        subst ha';have:=(hcell 0 _ rfl).2;rw [Nat.mul_one,qon,Nat.add_zero] at this;rw [this];simp;omega
      ·intro hnil;apply h2;simpa using hnil
      ·rintro e w' ⟨rfl,rfl⟩;rw [hll];have hcur':w.drew.heap[U.blk]?=some (.cells cur U.e fz):=hcur;obtain⟨fz',hfz'⟩:=qHH (n:=len) hcur';have hrest:=qA7 w.drew U.blk len;have hset:=qDl (T':=⟨U.blk,maxLen+1,U.cap,U.k,U.e⟩) (w':=w.drew.freeze ⟨U.blk,0,none⟩ len) hok hU hU0 hUnz rfl (by show U.ver < maxLen+1;omega) hcm (fun _=>by rw [qy3];exact Nat.le_succ _) hrest.1 hrest.2.1 hrest.2.2 (by rw [qAR];exact Nat.le_refl _) (.inl rfl)
        (fun k _ hk=>qzZ w.drew U.blk len k hk) (fz':=fz') (by intro h;simp at h;omega) hcur hfz' hcs (fun _ off _=>rfl)
       refine⟨_,rfl,_,hset.1,?_,?_⟩
       ·have:=hset.2;simpa [hUk,hUe] using this
       ·exact .str (List.map (fun n=>UInt8.ofNat n.toNat) ns) (by simp;omega)
 ·cases hx
end Go.Pv
set_option maxHeartbeats 4000000
set_option maxRecDepth 200000
set_option linter.unusedSimpArgs false
set_option linter.unusedVariables false
namespace Go.Pv
open Go Go.Proofs Go.RowKit
section
variable (b : Nat) (w : World)
theorem qtV (h0:w.cell? ⟨b,0,none⟩=some (.pointer (some ⟨b,0,none⟩))):Calls Tryz.prog 167 #[.pointer (some ⟨b,0,none⟩)] w fun e w'=>e=.returned (.tuple #[])∧w'=w:=by
 obtain⟨j,hj,_⟩:∃ j,Tryz.prog.info? 186=some j∧j.size=2:=⟨_,rfl,rfl⟩;have mixed:Tryz.prog.follows .mixedOrders=true:=qah;have t72:=Tryz.underlying186;have a72:=Tryz.isAgg186;have z72:=Tryz.sizeOf186;have v72:=Tryz.zeroValue186;have u72:=run_underlying Tryz.underlying186;have t70:=Tryz.underlying183;have a70:=Tryz.isAgg183;have z70:=Tryz.sizeOf183;have v70:=Tryz.zeroValue183;have u70:=run_underlying Tryz.underlying183;have t164:=Tryz.underlying214;have a164:=Tryz.isAgg214;have z164:=Tryz.sizeOf214;have v164:=Tryz.zeroValue214;have u164:=run_underlying Tryz.underlying214
 go_enter Tryz.func167,Tryz.ntmps167
 go_wp2
 rw [Lib.run_neq_ptr_same w _ t70 hj]
 go_wp2
 go_end0
 exact⟨rfl,rfl⟩
theorem qsK (h0:w.cell? ⟨b,0,none⟩=some (.pointer none)) (hsh:w.shape? b=some (186,2)) (hfz:w.frozen? ⟨b,0,none⟩=false) :
  Calls Tryz.prog 167 #[.pointer (some ⟨b,0,none⟩)] w fun e w'=>e=.returned (.tuple #[])∧w'=w.setCell ⟨b,0,none⟩ (.pointer (some ⟨b,0,none⟩)):=by
 obtain⟨j,hj,hjs⟩:∃ j,Tryz.prog.info? 186=some j∧j.size=2:=⟨_,rfl,rfl⟩;have mixed:Tryz.prog.follows .mixedOrders=true:=qah;have t72:=Tryz.underlying186;have a72:=Tryz.isAgg186;have z72:=Tryz.sizeOf186;have v72:=Tryz.zeroValue186;have u72:=run_underlying Tryz.underlying186;have t70:=Tryz.underlying183;have a70:=Tryz.isAgg183;have z70:=Tryz.sizeOf183;have v70:=Tryz.zeroValue183;have u70:=run_underlying Tryz.underlying183;have t164:=Tryz.underlying214;have a164:=Tryz.isAgg214;have z164:=Tryz.sizeOf214;have v164:=Tryz.zeroValue214;have u164:=run_underlying Tryz.underlying214
 go_enter Tryz.func167,Tryz.ntmps167
 go_wp2
 rw [Lib.run_to_unsafe w ⟨b,0,none⟩ t70 t164 hj (by rw [hjs];decide) hsh (Nat.zero_lt_succ 1)]
 simp only [Result.andThen];rw [Oper.upon_value]
 go_wp2
 rw [run_callFunc_extern Tryz.func182 (by kernel_rfl) (by kernel_rfl) (by kernel_rfl) (e:=Extern.AbiNoEscape.same) (by kernel_rfl)]
 rw [Lib.run_noEscape];simp only [Result.andThen];rw [Oper.upon_value]
 go_wp2
 rw [Lib.run_from_unsafe w ⟨b,0,none⟩ t164 t70 hj hsh (by kernel_rfl)]
 simp only [Result.andThen];rw [Oper.upon_value]
 go_wp2
 go_end0
 exact⟨rfl,rfl⟩
end
theorem qm5 (gl:Gl):SimS Tryz.prog gl 167 fun args σ=>(qeD 186 args σ).run :=
 qpr (by decide) (fun b w=>qsK b w) (fun b w=>qtV b w) ⟨_,Tryz.func167,by rfl,by rfl⟩
theorem sim_String (gl:Gl):SimS Tryz.prog gl 154 fun args σ=>(qqo 5 args σ).run :=
 Any.sim_String Tryz.lays169 Tryz.Builder_Extra_169 ⟨_,Tryz.func154,by rfl,by rfl⟩
def D_WB:List PV→Store→Tr (PV×Store)
 |[.ptr 1 0,.int .u8 c],⟨[o,[.nilp,.sl [] .full]],[],[t0,186]⟩=>.ret (.nili,⟨[o,[.ptr 1 0,.sl [[.int .u8 c]] (.tok 0)]],[(1,1,5)],[t0,186]⟩)
 |[.ptr 1 0,.int .u8 c],⟨[o,[.ptr 1 0,.sl xs (.tok 0)]],[(v,1,5)],[t0,186]⟩=>Tr.chk (qaz xs [[.int .u8 c]] 1) (Tr.chk (qan xs 1) (Tr.chk (nEq v (nXs xs))
  (.ret (.nili,⟨[o,[.ptr 1 0,.sl (xApp xs [[.int .u8 c]]) (.tok 0)]],[(nXs (xApp xs [[.int .u8 c]]),1,5)],[t0,186]⟩))))
 |_,_=>.fail
theorem qPF (gl:Gl):SimS Tryz.prog gl 186 fun args σ=>(D_WB args σ).run:=by
 refine SimS.of_tree (G:=ofL [(167,.store (qeD 186))]) (L:=fun _ _ _=>.fail) qai (qdx (qm5 gl) qag) qah Tryz.func186 rfl (by rfl) (by kernel_rfl) (qac (by kernel_rfl)) ?_
 intro args σ x σ' h hr;unfold D_WB at h
 split at h
 ·rename_i c o t0;cases h
  refine Tr.run_as (.ite true (.ite (qaz [] [[.int .u8 c]] 1) (.ite (qar [[.int .u8 c]] 1) (.ite (qan [] 1) (.ret (.nili,Store.mk [o,[.ptr 1 0,.sl (xApp [] [[.int .u8 c]]) (.tok 0)]] [(nXs (xApp [] [[.int .u8 c]]),1,5)] [t0,186])) .fail) .fail) .fail) .fail) (by kernel_rfl) ?_
  simp [one]
 ·rename_i c o xs v t0;obtain⟨h1,q1⟩:=Tr.chk_some h;obtain⟨h2,q2⟩:=Tr.chk_some q1;obtain⟨h3,q3⟩:=Tr.chk_some q2;cases q3
  refine Tr.run_as (.ite (qaz xs [[.int .u8 c]] 1) (.ite (qar [[.int .u8 c]] 1) (.ite (qan xs 1) (.ite (nEq v (nXs xs)) (.ret (.nili,Store.mk [o,[.ptr 1 0,.sl (xApp xs [[.int .u8 c]]) (.tok 0)]] [(nXs (xApp xs [[.int .u8 c]]),1,5)] [t0,186])) .fail) .fail) .fail) .fail) (by kernel_rfl) ?_
  simp at h1 h2 h3;simp [h1,h2,h3,one]
 ·cases h
def D_WS:List PV→Store→Tr (PV×Store)
 |[.ptr 1 0,.str l],⟨[o,[.ptr 1 0,.sl xs (.tok 0)]],[(v,1,5)],[t0,186]⟩=>Tr.chk (bNot (xNil (qab l))) (Tr.chk (qaz xs (qab l) 1) (Tr.chk (qan xs 1) (Tr.chk (nEq v (nXs xs))
  (.ret (.tup [.int .i64 (sLen l),.nili],⟨[o,[.ptr 1 0,.sl (xApp xs (qab l)) (.tok 0)]],[(nXs (xApp xs (qab l)),1,5)],[t0,186]⟩)))))
 |_,_=>.fail
theorem qPQ (gl:Gl):SimS Tryz.prog gl 153 fun args σ=>(D_WS args σ).run:=by
 refine SimS.of_tree (G:=ofL [(167,.store (qeD 186))]) (L:=fun _ _ _=>.fail) qai (qdx (qm5 gl) qag) qah Tryz.func153 rfl (by rfl) (by kernel_rfl) (qac (by kernel_rfl)) ?_
 intro args σ x σ' h hr;unfold D_WS at h
 split at h
 ·rename_i l o xs v t0;obtain⟨h0,q0⟩:=Tr.chk_some h;obtain⟨h1,q1⟩:=Tr.chk_some q0;obtain⟨h2,q2⟩:=Tr.chk_some q1;obtain⟨h3,q3⟩:=Tr.chk_some q2;cases q3
  refine Tr.run_as (.ite (qaz xs (qab l) 1) (.ite (qar (qab l) 1) (.ite (qan xs 1) (.ite (xNil (qab l)) (.ret (.tup [.int .i64 (sLen l),.nili],Store.mk [o,[.ptr 1 0,.sl xs (.tok 0)]] [(v,1,5)] [t0,186])) (.ite (nEq v (nXs xs)) (.ret (.tup [.int .i64 (sLen l),.nili],Store.mk [o,[.ptr 1 0,.sl (xApp xs (qab l)) (.tok 0)]] [(nXs (xApp xs (qab l)),1,5)] [t0,186])) .fail)) .fail) .fail) .fail) (by kernel_rfl) ?_
  simp at h0 h1 h2 h3;simp [h0,h1,h2,h3]
 ·cases h
def qdV (k n:Int) (s:qU):qU:=if isV k n s=true then (if k=1 then qIK n else symV s) else []
def qIq:List PV→Tr PV
 |[.agg [.int .i64 k,.int .i64 n,.str s]]=>.ret (.tup [.str (qdV k n s),.int .i64 (qaY k n s)])
 |_=>.fail
def qGi:List PV→Store→Option (Int×Int×List UInt8×Int×Int)
 |[.ptr 0 0,.ptr 1 0,.int .i64 m,.int .i64 i],⟨[[.int .i64 k,.int .i64 n,.str s],[.ptr 1 0,.sl [[.int .u8 34]] (.tok 0)]],[(1,1,5)],[42,186]⟩=>some (k,n,s,m,i)
 |_,_=>none
def qyc (k n:Int) (s:qU) (b:qU):Store:=⟨[[.int .i64 k,.int .i64 n,.str s],[.ptr 1 0,.sl (qab b) (.tok 0)]],[(nLen b,1,5)],[42,186]⟩
def qLg:Int×Int×List UInt8×Int×Int→Tr (PExit×List (Nat×PV)×Store)
 |(k,n,s,m,i)=>Tr.chk (iEq i 0) (Tr.chk (iEq m (sLen s)) (Tr.chk (iLe (sLen s) 256) (.ret (.exit 0,[(1,.ptr 0 0),(5,.ptr 1 0)],⟨[[.int .i64 k,.int .i64 n,.str s],[.ptr 1 0,.sl (qab (symH s)) (.tok 0)]],[(nLen (symH s),1,5)],[42,186]⟩))))
def qLK:LpsT:=fun r fr σ=>if r=9 then oracle 34 [1,5,21,22] qGi qLg fr σ else .fail
def qGY:Code:=qIo Tryz.f169 0
theorem qHy (gl:Gl):∀ vs σ a e out σ',qGi vs σ=some a→(qLg a).run=some (e,out,σ')→LDoes Tryz.prog gl qGY (mk 34 ([1,5,21,22].zip vs)) σ e (mk 34 out) σ':=by
 intro vs st a e out σ' hd hr;unfold qGi at hd;split at hd
 ·rename_i m i k n s;cases hd
  obtain⟨h1,h2⟩:=Tr.chk_some hr;obtain⟨h3,h4⟩:=Tr.chk_some h2;obtain⟨h5,h6⟩:=Tr.chk_some h4;simp at h1 h3 h5;subst h1 h3;clear hr h2 h4;cases h6
  have hG:qam Tryz.prog gl (gam (ofL [(187,.pure qOB),(153,.store D_WS)])):=qaf (qOL gl) (qdx (qPQ gl) qag);have key:∀ (m:Nat) (i:Int) (b:qU),0≤i→i+m=s.length→b++symB (s.drop i.toNat)=symH s→b.length≤1+4 * i.toNat →
    LDoes Tryz.prog gl qGY (mk 34 ([1,5,21,22].zip [.ptr 0 0,.ptr 1 0,.int .i64 (sLen s),.int .i64 i])) (qyc k n s b) (.exit 0) (mk 34 [(1,.ptr 0 0),(5,.ptr 1 0)]) (qyc k n s (symH s)):=by
   intro m
   induction m with
   |zero =>
    intro i b h0 hi hf hb;have e1:s.drop i.toNat=[]:=by apply List.drop_eq_nil_of_le;omega
    rw [e1] at hf;simp [symB] at hf;subst hf;unfold qyc;refine LDoes.round qai hG qah (L:=fun _ _ _=>.fail) (qac (by kernel_rfl)) (by kernel_rfl) ?_
    refine Tr.all_as (.ite (iLt i (sLen s)) (.ite (qau s i) (.ite (bNot (xNil (qab (oneV (sAt s i))))) (.ite (qaz (qab (symH s)) (qab (oneV (sAt s i))) 1) (.ite (qan (qab (symH s)) 1) (.ite (nEq (nLen (symH s)) (nXs (qab (symH s)))) (.ret (.normal,[23],[.top,.ptr 0 0,.top,.top,.top,.ptr 1 0,.int .i64 i,.top,.top,.top,.top,.top,.top,.top,.top,.top,.top,.top,.top,.top,.top,.int .i64 (sLen s),.int .i64 (iAdd .i64 i 1),.bool true,.int .i64 i,.ptr 0 2,.str s,.int .i64 i,.int .u8 (sAt s i),.str (oneV (sAt s i)),.tup [.int .i64 (sLen (oneV (sAt s i))),.nili],.int .i64 (iAdd .i64 i 1),.top,.top],Store.mk [[.int .i64 k,.int .i64 n,.str s],[.ptr 1 0,.sl (xApp (qab (symH s)) (qab (oneV (sAt s i)))) (.tok 0)]] [(nXs (xApp (qab (symH s)) (qab (oneV (sAt s i)))),1,5)] [42,186])) .fail) .fail) .fail) .fail) .fail) (.ret (.exit 0,[23],[.top,.ptr 0 0,.top,.top,.top,.ptr 1 0,.top,.top,.top,.top,.top,.top,.top,.top,.top,.top,.top,.top,.top,.top,.top,.int .i64 (sLen s),.int .i64 i,.bool false,.top,.top,.top,.top,.top,.top,.top,.top,.top,.top],Store.mk [[.int .i64 k,.int .i64 n,.str s],[.ptr 1 0,.sl (qab (symH s)) (.tok 0)]] [(nLen (symH s),1,5)] [42,186]))) (by kernel_rfl) ?_
    exact Tr.all_f (by simp;omega) ⟨rfl,by simp [Weak,mk,qby,look],rfl⟩
   |succ m ih =>
    intro i b h0 hi hf hb;obtain⟨v,hv⟩:=qd0 (l:=s) (i:=i.toNat) (by omega)
    rw [qaO hv] at hf;have hone:=qrd v.toNat;have e2:(i+1).toNat=i.toNat+1:=by omega
    unfold qyc;refine LDoes.round qai hG qah (L:=fun _ _ _=>.fail) (qac (by kernel_rfl)) (by kernel_rfl) ?_
    refine Tr.all_as (.ite (iLt i (sLen s)) (.ite (qau s i) (.ite (bNot (xNil (qab (oneV (sAt s i))))) (.ite (qaz (qab b) (qab (oneV (sAt s i))) 1) (.ite (qan (qab b) 1) (.ite (nEq (nLen b) (nXs (qab b))) (.ret (.normal,[23],[.top,.ptr 0 0,.top,.top,.top,.ptr 1 0,.int .i64 i,.top,.top,.top,.top,.top,.top,.top,.top,.top,.top,.top,.top,.top,.top,.int .i64 (sLen s),.int .i64 (iAdd .i64 i 1),.bool true,.int .i64 i,.ptr 0 2,.str s,.int .i64 i,.int .u8 (sAt s i),.str (oneV (sAt s i)),.tup [.int .i64 (sLen (oneV (sAt s i))),.nili],.int .i64 (iAdd .i64 i 1),.top,.top],Store.mk [[.int .i64 k,.int .i64 n,.str s],[.ptr 1 0,.sl (xApp (qab b) (qab (oneV (sAt s i)))) (.tok 0)]] [(nXs (xApp (qab b) (qab (oneV (sAt s i)))),1,5)] [42,186])) .fail) .fail) .fail) .fail) .fail) (.ret (.exit 0,[23],[.top,.ptr 0 0,.top,.top,.top,.ptr 1 0,.top,.top,.top,.top,.top,.top,.top,.top,.top,.top,.top,.top,.top,.top,.top,.int .i64 (sLen s),.int .i64 i,.bool false,.top,.top,.top,.top,.top,.top,.top,.top,.top,.top],Store.mk [[.int .i64 k,.int .i64 n,.str s],[.ptr 1 0,.sl (qab b) (.tok 0)]] [(nLen b,1,5)] [42,186]))) (by kernel_rfl) ?_
    rw [qe3 hv,qjb,qcW,qcW];refine Tr.all_t (by simp;omega) <| Tr.all_t (qcL h0 hv) <| Tr.all_t (by rw [qoX hone.1];rfl) <| Tr.all_t (qfh (by omega)) <| Tr.all_t (qbS _) <| Tr.all_t (by simp) ?_
    refine LDoes.into ?_ (ih (i+1) (b++oneV v.toNat) (by omega) (by omega) (by rw [← hf,e2];simp [symB]) (by simp;omega))
    simp [Weak,mk,qby,look,iAdd,qaD (n:=i+1) (by omega)]
  have hz:=key s.length 0 [34] (by omega) (by omega) (by simp [symH]) (by simp)
  exact hz
 ·cases hd
theorem qKW {gl:Gl} (hgl:GlPow gl):SimP Tryz.prog gl 169 fun args=>(qIq args).run:=by
 refine SimP.of_tree (G:=ofL [(184,.pure qCs),(185,.pure qlo),(186,.store D_WB),(154,.store (qqo 5))]) (L:=qLK) qai (qaf (qGx gl) (qaf (qw3 hgl) (qdx (qPF gl) (qdx (sim_String gl) qag)))) qah Tryz.func169 rfl (by rfl) (by kernel_rfl) (qgu (r:=9) (c1:=qGY) (by kernel_rfl) ?_) ?_
 ·intro fr σ e fr' σ' hh;simp only [lps,qLK,if_true] at hh;exact qii (qHy gl) fr σ e fr' σ' hh
 intro args x h hr;unfold qIq at h
 split at h
 ·rename_i k n s;cases h
  refine Tr.run_as (.ite (iNe (qaY k n s) 0) (.ret (.tup [.str [],.int .i64 (qaY k n s)])) (.ite (iEq k 1) (.ite (iEq 10 10) (.ret (.tup [.str (qIK n),.int .i64 0])) .fail) (.ite (iEq 0 0) (.ite (iEq (sLen s) (sLen s)) (.ite (iLe (sLen s) 256) (.ite (qaz (qab (symH s)) [[.int .u8 34]] 1) (.ite (qan (qab (symH s)) 1) (.ite (nEq (nLen (symH s)) (nXs (qab (symH s)))) (.ite (qb7 (xApp (qab (symH s)) [[.int .u8 34]])) (.ite (bNot (xNil (xApp (qab (symH s)) [[.int .u8 34]]))) (.ite (nEq (nXs (xApp (qab (symH s)) [[.int .u8 34]])) (nXs (xApp (qab (symH s)) [[.int .u8 34]]))) (.ite true (.ret (.tup [.str (qbr (xApp (qab (symH s)) [[.int .u8 34]])),.int .i64 0])) .fail) .fail) .fail) .fail) .fail) .fail) .fail) .fail) .fail) .fail))) (by kernel_rfl) ?_
  rw [qzC];cases hI:isV k n s with
  |false=>simp [qdV,hI]
  |true =>
   by_cases hk:k=1
   ·subst hk;simp [qdV,hI]
   ·have h2:s.length≤256:=by
     unfold isV at hI;simp at hI;omega
    have e3:([[PV.int .u8 34]]:List (List PV))=qab [34]:=rfl;have hs:=qxi s;have hl:(symH s).length=1+(symB s).length:=by simp [symH];omega
    have e4:qaz (qab (symH s)) (qab [34]) 1=true:=qfh (by simp;omega)
    have e5:symV s=symH s++[34]:=by simp [symV,symH]
    have e6:¬ (symH s++[34]=[]):=by simp
    rw [e3];simp [qdV,hI,hk,qjb,e4,e5,qcW,-qGd,-qMn];exact⟨by omega,by simp [qab]⟩
 ·cases h
end Go.Pv
set_option maxHeartbeats 4000000
set_option maxRecDepth 200000
set_option linter.unusedSimpArgs false
set_option linter.unusedVariables false
namespace Go.Pv
open Go Go.Proofs Go.RowKit
theorem qds {c k:UInt8} (h:c≠k):iEq (c.toNat:Int) (k.toNat:Int)=false:=by
 simp only [quO,decide_eq_false_iff_not];intro e;exact h (UInt8.toNat_inj.1 (by omega))
theorem qhf {c k:UInt8} (h:c=k):iEq (c.toNat:Int) (k.toNat:Int)=true:=by
 subst h;simp
theorem qOD (s:qU) (n:Int):0≤sAt s n∧sAt s n < 256:=by
 have:=(s.getD n.toNat 0).toNat_lt;simp only [qLQ];omega
theorem qLU:∀ (l:qU) (c i:Int),0≤i→i+l.length≤16→0≤dv l c i∧dv l c i≤16
 |[],c,i,h,hl=>by simp [dv]
 |b::l,c,i,h,hl=>by
  have:=qLU l c (i+1) (by omega) (by simp at hl;omega)
  unfold dv;split
  ·simp at hl;omega
  ·exact this
theorem qDM (c:Int):0≤digV c∧digV c≤16:=qLU hexL c 0 (by omega) (by decide)
theorem qJB {a b:Int} (ha:0≤a∧a≤16) (hb:0≤b∧b≤16):0≤iOr .u8 (iShl .u8 a 4) b∧iOr .u8 (iShl .u8 a 4) b < 256:=by
 have key:∀ (x y:Fin 17),0≤iOr .u8 (iShl .u8 (x.val:Int) 4) (y.val:Int)∧iOr .u8 (iShl .u8 (x.val:Int) 4) (y.val:Int) < 256:=by decide +kernel
 have:=key ⟨a.toNat,by omega⟩ ⟨b.toNat,by omega⟩
 have e1:((a.toNat:Nat):Int)=a:=by omega
 have e2:((b.toNat:Nat):Int)=b:=by omega
 rwa [e1,e2] at this
theorem qDw (s:qU):0≤escB s∧escB s < 256:=by
 have h1:=qOD s 0;have h2:=qJB (qDM (sAt s 1)) (qDM (sAt s 2));unfold escB
 repeat' split
 all_goals first|exact h1|exact h2|omega
theorem qDZ (s:qU):0≤escN s∧escN s≤s.length:=by
 unfold escN;by_cases h:s=[]
 ·simp [h]
 ·have:=List.length_pos_iff.2 h
  repeat' split
  all_goals omega
def decP (s:qU):Option (List UInt8):=match s with
 |[]=>some []
 |c::t=>if c=92 then (if escN t=0 then none else (decP (t.drop (escN t).toNat)).map (UInt8.ofNat (escB t).toNat::·)) else (decP t).map (c::·)
 termination_by s.length
 decreasing_by all_goals (simp;try omega)
def qsr (s:qU):Bool:=(decP s).isSome
def decV (s:qU):qU:=(decP s).getD []
def decL (s:qU):Nat:=match s with
 |[]=>0
 |c::t=>if c=92 then (if escN t=0 then 0 else decL (t.drop (escN t).toNat)+1) else decL t+1
 termination_by s.length
 decreasing_by all_goals (simp;try omega)
def badL (s:qU):Nat:=decL s
def qwp:List PV→Tr PV
 |[.str s]=>Tr.chk (qkV s) (.ite (qsr s) (.ret (.tup [.sl (qab (decV s)) .non,.bool true])) (.ret (.tup [.sl [] .non,.bool false])))
 |_=>.fail
def qvH:List PV→Store→Option (List UInt8)
 |[.str s,.sl [] .full],⟨[],[],[]⟩=>some s
 |_,_=>none
def qDb:qU→Tr (PExit×List (Nat×PV)×Store)
 |s=>Tr.chk (qkV s) (.ite (qsr s) (.ite (sEq (decV s) []) (.ret (.exit 0,[(4,.sl [] .full)],⟨[],[],[]⟩)) (.ret (.exit 0,[(4,.sl (qab (decV s)) (.tok 0))],⟨[],[(nLen (decV s),1,5)],[]⟩))) (.ite (nEq (badL s) 0) (.ret (.ret,[(2,.sl [] .full),(3,.bool false)],⟨[],[],[]⟩)) (.ret (.ret,[(2,.sl [] .full),(3,.bool false)],⟨[],[(badL s,1,5)],[]⟩))))
def qDt:LpsT:=fun r fr σ=>if r=2 then oracle 32 [0,4] qvH qDb fr σ else .fail
def qpY:Code:=qIo Tryz.f195 0
theorem qAh (gl : Gl) : ∀ vs σ a e out σ', qvH vs σ = some a → (qDb a).run = some (e, out, σ') → LDoes Tryz.prog gl qpY (mk 32 ([0, 4].zip vs)) σ e (mk 32 out) σ' := by
  intro vs st a e out σ' hd hr
  unfold qvH at hd
  split at hd
  · rename_i s
    injection hd with hd
    subst hd
    obtain ⟨hlen, hr⟩ := Tr.chk_some hr
    simp at hlen
    have hG : qam Tryz.prog gl (gam (ofL [(202, .pure qqI)])) := qaf (quW gl) qag
    have key : ∀ (k : Nat) (b s : List UInt8), s.length ≤ k → b ≠ [] → b.length + s.length ≤ 140737488355328 →
       (match decP s with
        | some x => (PExit.exit 0, [(4, PV.sl (qab (b ++ x)) (.tok 0))], (⟨[], [(nLen (b ++ x), 1, 5)], []⟩ : Store))
        | none => (.ret, [(2, .sl [] .full), (3, .bool false)], ⟨[], [(b.length + decL s, 1, 5)], []⟩)) = (e, out, σ') →
       LDoes Tryz.prog gl qpY (mk 32 ([0, 4].zip [.str s, .sl (qab b) (.tok 0)])) ⟨[], [(nLen b, 1, 5)], []⟩ e (mk 32 out) σ' := by
      intro k
      have base : ∀ (b : List UInt8), b ≠ [] → (PExit.exit 0, [(4, PV.sl (qab b) (.tok 0))], (⟨[], [(nLen b, 1, 5)], []⟩ : Store)) = (e, out, σ') →
         LDoes Tryz.prog gl qpY (mk 32 ([0, 4].zip [.str [], .sl (qab b) (.tok 0)])) ⟨[], [(nLen b, 1, 5)], []⟩ e (mk 32 out) σ' := by
        intro b hb h
        cases h
        refine LDoes.round qai hG qah (L := fun _ _ _ => .fail) (qac (by kernel_rfl)) (by kernel_rfl) ?_
        refine Tr.all_as (.ite (sNe [] []) (.ite (qau [] 0) (.ite (qa1 (qas 1) true (nNat 1) (nLen []) (nLen [])) (.ite (iEq (sAt [] 0) 92) (.ite (iEq (escN (sSub [] (nNat 1) (nLen []))) 0) (.ret (.ret,[3,2,22,15,9],[.str (sSub [] (nNat 1) (nLen [])),.top,.sl [] .full,.bool false,.sl (qab b) (.tok 0),.int .u8 (sAt [] 0),.int .u8 (escB (sSub [] (nNat 1) (nLen []))),.int .i64 (escN (sSub [] (nNat 1) (nLen []))),.str [],.bool true,.str [],.int .u8 (sAt [] 0),.str [],.str (sSub [] (nNat 1) (nLen [])),.int .u8 (sAt [] 0),.bool true,.tup [.int .u8 (escB (sSub [] (nNat 1) (nLen []))),.int .i64 (escN (sSub [] (nNat 1) (nLen [])))],.str (sSub [] (nNat 1) (nLen [])),.tup [.int .u8 (escB (sSub [] (nNat 1) (nLen []))),.int .i64 (escN (sSub [] (nNat 1) (nLen [])))],.int .u8 (escB (sSub [] (nNat 1) (nLen []))),.int .i64 (escN (sSub [] (nNat 1) (nLen []))),.int .i64 (escN (sSub [] (nNat 1) (nLen []))),.bool true,.top,.top,.top,.top,.top,.top,.top,.top,.top],Store.mk [] [(nLen b,1,5)] [])) (.ite (qa1 (qas (escN (sSub [] (nNat 1) (nLen [])))) true (nNat (escN (sSub [] (nNat 1) (nLen [])))) (nLen (sSub [] (nNat 1) (nLen []))) (nLen (sSub [] (nNat 1) (nLen [])))) (.ite (qaz (qab b) [[.int .u8 (escB (sSub [] (nNat 1) (nLen [])))]] 1) (.ite (qar [[.int .u8 (escB (sSub [] (nNat 1) (nLen [])))]] 1) (.ite (qan (qab b) 1) (.ite (nEq (nLen b) (nXs (qab b))) (.ret (.normal,[29,22,15,9],[.str (sSub (sSub [] (nNat 1) (nLen [])) (nNat (escN (sSub [] (nNat 1) (nLen [])))) (nLen (sSub [] (nNat 1)
          (nLen [])))),.top,.top,.top,.sl (xApp (qab b) [[.int .u8 (escB (sSub [] (nNat 1) (nLen [])))]]) (.tok 0),.int .u8 (escB (sSub [] (nNat 1) (nLen []))),.int .u8 (escB (sSub [] (nNat 1) (nLen []))),.int .i64 (escN (sSub [] (nNat 1) (nLen []))),.str [],.bool true,.str [],.int .u8 (sAt [] 0),.str [],.str (sSub [] (nNat 1) (nLen [])),.int .u8 (sAt [] 0),.bool true,.tup [.int .u8 (escB (sSub [] (nNat 1) (nLen []))),.int .i64 (escN (sSub [] (nNat 1) (nLen [])))],.str (sSub [] (nNat 1) (nLen [])),.tup [.int .u8 (escB (sSub [] (nNat 1) (nLen []))),.int .i64 (escN (sSub [] (nNat 1) (nLen [])))],.int .u8 (escB (sSub [] (nNat 1) (nLen []))),.int .i64 (escN (sSub [] (nNat 1) (nLen []))),.int .i64 (escN (sSub [] (nNat 1) (nLen []))),.bool false,.int .u8 (escB (sSub [] (nNat 1) (nLen []))),.str (sSub [] (nNat 1) (nLen [])),.int .i64 (escN (sSub [] (nNat 1) (nLen []))),.str (sSub (sSub [] (nNat 1) (nLen [])) (nNat (escN (sSub [] (nNat 1) (nLen [])))) (nLen (sSub [] (nNat 1) (nLen [])))),.sl (qab b) (.tok 0),.int .u8 (escB (sSub [] (nNat 1) (nLen []))),.sl [[.int .u8 (escB (sSub [] (nNat 1) (nLen [])))]] .full,.sl (xApp (qab b) [[.int .u8 (escB (sSub [] (nNat 1) (nLen [])))]]) (.tok 0),.top],Store.mk [] [(nXs (xApp (qab b) [[.int .u8 (escB (sSub [] (nNat 1) (nLen [])))]]),1,5)] [])) .fail) .fail) .fail) .fail) .fail)) (.ite (qaz (qab b) [[.int .u8 (sAt [] 0)]] 1) (.ite (qar [[.int .u8 (sAt [] 0)]] 1) (.ite (qan (qab b) 1) (.ite (nEq (nLen b) (nXs (qab b)))
          (.ret (.normal,[29,15,9],[.str (sSub [] (nNat 1) (nLen [])),.top,.top,.top,.sl (xApp (qab b) [[.int .u8 (sAt [] 0)]]) (.tok 0),.int .u8 (sAt [] 0),.top,.top,.str [],.bool true,.str [],.int .u8 (sAt [] 0),.str [],.str (sSub [] (nNat 1) (nLen [])),.int .u8 (sAt [] 0),.bool false,.top,.top,.top,.top,.top,.top,.top,.top,.top,.top,.top,.sl (qab b) (.tok 0),.int .u8 (sAt [] 0),.sl [[.int .u8 (sAt [] 0)]] .full,.sl (xApp (qab b) [[.int .u8 (sAt [] 0)]]) (.tok 0),.top],Store.mk [] [(nXs (xApp (qab b) [[.int .u8 (sAt [] 0)]]),1,5)] [])) .fail) .fail) .fail) .fail)) .fail) .fail) (.ret (.exit 0,[9],[.str [],.top,.top,.top,.sl (qab b) (.tok 0),.top,.top,.top,.str [],.bool false,.top,.top,.top,.top,.top,.top,.top,.top,.top,.top,.top,.top,.top,.top,.top,.top,.top,.top,.top,.top,.top,.top],Store.mk [] [(nLen b,1,5)] []))) (by kernel_rfl) ?_
        exact ⟨fun h => by simp at h, fun h => ⟨rfl, by simp [Weak, mk, qby, look], rfl⟩⟩
      induction k with
      | zero =>
        intro b s hk hb hbs h
        have : s = [] := by apply List.eq_nil_of_length_eq_zero; omega
        subst this
        simp [decP] at h
        exact base b hb (by simpa using h)
      | succ k ih =>
        intro b s hk hb hbs h
        cases s with
        | nil =>
          simp [decP] at h
          exact base b hb (by simpa using h)
        | cons c t =>
          have e0 : sAt (c :: t) 0 = c.toNat := by simp
          have e1 : sSub (c :: t) (nNat 1) (nLen (c :: t)) = t := by simp
          have hc := c.toNat_lt
          have e7 := qDZ t
          have e8 := qDw t
          simp at hk hbs
          rw [decP, decL] at h
          refine LDoes.round qai hG qah (L := fun _ _ _ => .fail) (qac (by kernel_rfl)) (by kernel_rfl) ?_
          refine Tr.all_as (.ite (sNe (c :: t) []) (.ite (qau (c :: t) 0) (.ite (qa1 (qas 1) true (nNat 1) (nLen (c :: t)) (nLen (c :: t))) (.ite (iEq (sAt (c :: t) 0) 92) (.ite (iEq (escN (sSub (c :: t) (nNat 1) (nLen (c :: t)))) 0) (.ret (.ret,[3,2,22,15,9],[.str (sSub (c :: t) (nNat 1) (nLen (c :: t))),.top,.sl [] .full,.bool false,.sl (qab b) (.tok 0),.int .u8 (sAt (c :: t) 0),.int .u8 (escB (sSub (c :: t) (nNat 1) (nLen (c :: t)))),.int .i64 (escN (sSub (c :: t) (nNat 1) (nLen (c :: t)))),.str (c :: t),.bool true,.str (c :: t),.int .u8 (sAt (c :: t) 0),.str (c :: t),.str (sSub (c :: t) (nNat 1) (nLen (c :: t))),.int .u8 (sAt (c :: t) 0),.bool true,.tup [.int .u8 (escB (sSub (c :: t) (nNat 1) (nLen (c :: t)))),.int .i64 (escN (sSub (c :: t) (nNat 1) (nLen (c :: t))))],.str (sSub (c :: t) (nNat 1) (nLen (c :: t))),.tup [.int .u8 (escB (sSub (c :: t) (nNat 1) (nLen (c :: t)))),.int .i64 (escN (sSub (c :: t) (nNat 1) (nLen (c :: t))))],.int .u8 (escB (sSub (c :: t) (nNat 1) (nLen (c :: t)))),.int .i64 (escN (sSub (c :: t) (nNat 1) (nLen (c :: t)))),.int .i64 (escN (sSub (c :: t) (nNat 1) (nLen (c :: t)))),.bool true,.top,.top,.top,.top,.top,.top,.top,.top,.top],Store.mk [] [(nLen b,1,5)] [])) (.ite (qa1 (qas (escN (sSub (c :: t) (nNat 1) (nLen (c :: t))))) true (nNat (escN (sSub (c :: t) (nNat 1) (nLen (c :: t))))) (nLen (sSub (c :: t) (nNat 1) (nLen (c :: t)))) (nLen (sSub (c :: t) (nNat 1) (nLen (c :: t))))) (.ite (qaz (qab b) [[.int .u8 (escB (sSub (c :: t) (nNat 1) (nLen (c ::
            t))))]] 1) (.ite (qar [[.int .u8 (escB (sSub (c :: t) (nNat 1) (nLen (c :: t))))]] 1) (.ite (qan (qab b) 1) (.ite (nEq (nLen b) (nXs (qab b))) (.ret (.normal,[29,22,15,9],[.str (sSub (sSub (c :: t) (nNat 1) (nLen (c :: t))) (nNat (escN (sSub (c :: t) (nNat 1) (nLen (c :: t))))) (nLen (sSub (c :: t) (nNat 1) (nLen (c :: t))))),.top,.top,.top,.sl (xApp (qab b) [[.int .u8 (escB (sSub (c :: t) (nNat 1) (nLen (c :: t))))]]) (.tok 0),.int .u8 (escB (sSub (c :: t) (nNat 1) (nLen (c :: t)))),.int .u8 (escB (sSub (c :: t) (nNat 1) (nLen (c :: t)))),.int .i64 (escN (sSub (c :: t) (nNat 1) (nLen (c :: t)))),.str (c :: t),.bool true,.str (c :: t),.int .u8 (sAt (c :: t) 0),.str (c :: t),.str (sSub (c :: t) (nNat 1) (nLen (c :: t))),.int .u8 (sAt (c :: t) 0),.bool true,.tup [.int .u8 (escB (sSub (c :: t) (nNat 1) (nLen (c :: t)))),.int .i64 (escN (sSub (c :: t) (nNat 1) (nLen (c :: t))))],.str (sSub (c :: t) (nNat 1) (nLen (c :: t))),.tup [.int .u8 (escB (sSub (c :: t) (nNat 1) (nLen (c :: t)))),.int .i64 (escN (sSub (c :: t) (nNat 1) (nLen (c :: t))))],.int .u8 (escB (sSub (c :: t) (nNat 1) (nLen (c :: t)))),.int .i64 (escN (sSub (c :: t) (nNat 1) (nLen (c :: t)))),.int .i64 (escN (sSub (c :: t) (nNat 1) (nLen (c :: t)))),.bool false,.int .u8 (escB (sSub (c :: t) (nNat 1) (nLen (c :: t)))),.str (sSub (c :: t) (nNat 1) (nLen (c :: t))),.int .i64 (escN (sSub (c :: t) (nNat 1) (nLen (c :: t)))),.str (sSub (sSub (c :: t) (nNat 1) (nLen (c :: t))) (nNat (escN (sSub (c :: t)
            (nNat 1) (nLen (c :: t))))) (nLen (sSub (c :: t) (nNat 1) (nLen (c :: t))))),.sl (qab b) (.tok 0),.int .u8 (escB (sSub (c :: t) (nNat 1) (nLen (c :: t)))),.sl [[.int .u8 (escB (sSub (c :: t) (nNat 1) (nLen (c :: t))))]] .full,.sl (xApp (qab b) [[.int .u8 (escB (sSub (c :: t) (nNat 1) (nLen (c :: t))))]]) (.tok 0),.top],Store.mk [] [(nXs (xApp (qab b) [[.int .u8 (escB (sSub (c :: t) (nNat 1) (nLen (c :: t))))]]),1,5)] [])) .fail) .fail) .fail) .fail) .fail)) (.ite (qaz (qab b) [[.int .u8 (sAt (c :: t) 0)]] 1) (.ite (qar [[.int .u8 (sAt (c :: t) 0)]] 1) (.ite (qan (qab b) 1) (.ite (nEq (nLen b) (nXs (qab b))) (.ret (.normal,[29,15,9],[.str (sSub (c :: t) (nNat 1) (nLen (c :: t))),.top,.top,.top,.sl (xApp (qab b) [[.int .u8 (sAt (c :: t) 0)]]) (.tok 0),.int .u8 (sAt (c :: t) 0),.top,.top,.str (c :: t),.bool true,.str (c :: t),.int .u8 (sAt (c :: t) 0),.str (c :: t),.str (sSub (c :: t) (nNat 1) (nLen (c :: t))),.int .u8 (sAt (c :: t) 0),.bool false,.top,.top,.top,.top,.top,.top,.top,.top,.top,.top,.top,.sl (qab b) (.tok 0),.int .u8 (sAt (c :: t) 0),.sl [[.int .u8 (sAt (c :: t) 0)]] .full,.sl (xApp (qab b) [[.int .u8 (sAt (c :: t) 0)]]) (.tok 0),.top],Store.mk [] [(nXs (xApp (qab b) [[.int .u8 (sAt (c :: t) 0)]]),1,5)] [])) .fail) .fail) .fail) .fail)) .fail) .fail) (.ret (.exit 0,[9],[.str (c :: t),.top,.top,.top,.sl (qab b) (.tok 0),.top,.top,.top,.str (c :: t),.bool
            false,.top,.top,.top,.top,.top,.top,.top,.top,.top,.top,.top,.top,.top,.top,.top,.top,.top,.top,.top,.top,.top,.top],Store.mk [] [(nLen b,1,5)] []))) (by kernel_rfl) ?_
          rw [e1, e0, qiz b (n := (c.toNat : Int)) (by omega), qiz b e8, Int.toNat_natCast, UInt8.ofNat_toNat]
          simp only [qcW]
          refine Tr.all_t (by simp) <| Tr.all_t (by simp) <| Tr.all_t (by simp) ?_
          by_cases h92 : c = 92
          · subst h92
            refine Tr.all_t (by simp) ?_
            by_cases hn : escN t = 0
            · simp [hn] at h
              obtain ⟨rfl, rfl, rfl⟩ := h
              exact Tr.all_t (by simp [hn]) ⟨rfl, by simp [Weak, mk, qby, look], rfl⟩
            · refine Tr.all_f (by simp [hn]) <| Tr.all_t (by simp; omega) <| Tr.all_t (by simp; omega) <| Tr.all_t (by simp [one]) <| Tr.all_t (qbS _) <| Tr.all_t (by simp) ?_
              refine LDoes.into ?_ (ih (b ++ [UInt8.ofNat (escB t).toNat]) (t.drop (escN t).toNat) (by simp; omega) (by simp) (by simp; omega) ?_)
              · simp [Weak, mk, qby, look]
              · simp [hn] at h
                rw [← h]
                cases hd : decP (t.drop (escN t).toNat) with
                | none => simp; omega
                | some x => simp
          · refine Tr.all_f (qds (k := 92) h92) <| Tr.all_t (by simp; omega) <| Tr.all_t (by simp [one]) <| Tr.all_t (qbS _) <| Tr.all_t (by simp) ?_
            refine LDoes.into ?_ (ih (b ++ [c]) t (by omega) (by simp) (by simp; omega) ?_)
            · simp [Weak, mk, qby, look]
            · simp [h92] at h
              rw [← h]
              cases hd : decP t with
              | none => simp; omega
              | some x => simp
    cases s with
    | nil =>
      simp [qsr, decV, decP] at hr
      obtain ⟨rfl, rfl, rfl⟩ := hr
      refine LDoes.round qai hG qah (L := fun _ _ _ => .fail) (qac (by kernel_rfl)) (by kernel_rfl) ?_
      refine Tr.all_as (.ite (sNe [] []) (.ite (qau [] 0) (.ite (qa1 (qas 1) true (nNat 1) (nLen []) (nLen [])) (.ite (iEq (sAt [] 0) 92) (.ite (iEq (escN (sSub [] (nNat 1) (nLen []))) 0) (.ret (.ret,[3,2,22,15,9],[.str (sSub [] (nNat 1) (nLen [])),.top,.sl [] .full,.bool false,.sl [] .full,.int .u8 (sAt [] 0),.int .u8 (escB (sSub [] (nNat 1) (nLen []))),.int .i64 (escN (sSub [] (nNat 1) (nLen []))),.str [],.bool true,.str [],.int .u8 (sAt [] 0),.str [],.str (sSub [] (nNat 1) (nLen [])),.int .u8 (sAt [] 0),.bool true,.tup [.int .u8 (escB (sSub [] (nNat 1) (nLen []))),.int .i64 (escN (sSub [] (nNat 1) (nLen [])))],.str (sSub [] (nNat 1) (nLen [])),.tup [.int .u8 (escB (sSub [] (nNat 1) (nLen []))),.int .i64 (escN (sSub [] (nNat 1) (nLen [])))],.int .u8 (escB (sSub [] (nNat 1) (nLen []))),.int .i64 (escN (sSub [] (nNat 1) (nLen []))),.int .i64 (escN (sSub [] (nNat 1) (nLen []))),.bool true,.top,.top,.top,.top,.top,.top,.top,.top,.top],Store.mk [] [] [])) (.ite (qa1 (qas (escN (sSub [] (nNat 1) (nLen [])))) true (nNat (escN (sSub [] (nNat 1) (nLen [])))) (nLen (sSub [] (nNat 1) (nLen []))) (nLen (sSub [] (nNat 1) (nLen [])))) (.ite (qaz [] [[.int .u8 (escB (sSub [] (nNat 1) (nLen [])))]] 1) (.ite (qar [[.int .u8 (escB (sSub [] (nNat 1) (nLen [])))]] 1) (.ite (qan [] 1) (.ret (.normal,[29,22,15,9],[.str (sSub (sSub [] (nNat 1) (nLen [])) (nNat (escN (sSub [] (nNat 1) (nLen [])))) (nLen (sSub [] (nNat 1) (nLen [])))),.top,.top,.top,.sl (xApp [] [[.int .u8 (escB (sSub [] (nNat 1) (nLen
        [])))]]) (.tok 0),.int .u8 (escB (sSub [] (nNat 1) (nLen []))),.int .u8 (escB (sSub [] (nNat 1) (nLen []))),.int .i64 (escN (sSub [] (nNat 1) (nLen []))),.str [],.bool true,.str [],.int .u8 (sAt [] 0),.str [],.str (sSub [] (nNat 1) (nLen [])),.int .u8 (sAt [] 0),.bool true,.tup [.int .u8 (escB (sSub [] (nNat 1) (nLen []))),.int .i64 (escN (sSub [] (nNat 1) (nLen [])))],.str (sSub [] (nNat 1) (nLen [])),.tup [.int .u8 (escB (sSub [] (nNat 1) (nLen []))),.int .i64 (escN (sSub [] (nNat 1) (nLen [])))],.int .u8 (escB (sSub [] (nNat 1) (nLen []))),.int .i64 (escN (sSub [] (nNat 1) (nLen []))),.int .i64 (escN (sSub [] (nNat 1) (nLen []))),.bool false,.int .u8 (escB (sSub [] (nNat 1) (nLen []))),.str (sSub [] (nNat 1) (nLen [])),.int .i64 (escN (sSub [] (nNat 1) (nLen []))),.str (sSub (sSub [] (nNat 1) (nLen [])) (nNat (escN (sSub [] (nNat 1) (nLen [])))) (nLen (sSub [] (nNat 1) (nLen [])))),.sl [] .full,.int .u8 (escB (sSub [] (nNat 1) (nLen []))),.sl [[.int .u8 (escB (sSub [] (nNat 1) (nLen [])))]] .full,.sl (xApp [] [[.int .u8 (escB (sSub [] (nNat 1) (nLen [])))]]) (.tok 0),.top],Store.mk [] [(nXs (xApp [] [[.int .u8 (escB (sSub [] (nNat 1) (nLen [])))]]),1,5)] [])) .fail) .fail) .fail) .fail)) (.ite (qaz [] [[.int .u8 (sAt [] 0)]] 1) (.ite (qar [[.int .u8 (sAt [] 0)]] 1) (.ite (qan [] 1) (.ret (.normal,[29,15,9],[.str (sSub [] (nNat 1) (nLen [])),.top,.top,.top,.sl (xApp [] [[.int .u8 (sAt [] 0)]]) (.tok 0),.int .u8 (sAt [] 0),.top,.top,.str [],.bool true,.str [],.int
        .u8 (sAt [] 0),.str [],.str (sSub [] (nNat 1) (nLen [])),.int .u8 (sAt [] 0),.bool false,.top,.top,.top,.top,.top,.top,.top,.top,.top,.top,.top,.sl [] .full,.int .u8 (sAt [] 0),.sl [[.int .u8 (sAt [] 0)]] .full,.sl (xApp [] [[.int .u8 (sAt [] 0)]]) (.tok 0),.top],Store.mk [] [(nXs (xApp [] [[.int .u8 (sAt [] 0)]]),1,5)] [])) .fail) .fail) .fail)) .fail) .fail) (.ret (.exit 0,[9],[.str [],.top,.top,.top,.sl [] .full,.top,.top,.top,.str [],.bool false,.top,.top,.top,.top,.top,.top,.top,.top,.top,.top,.top,.top,.top,.top,.top,.top,.top,.top,.top,.top,.top,.top],Store.mk [] [] []))) (by kernel_rfl) ?_
      exact ⟨fun h => by simp at h, fun h => ⟨rfl, by simp [Weak, mk, qby, look], rfl⟩⟩
    | cons c t =>
      have e0 : sAt (c :: t) 0 = c.toNat := by simp
      have e1 : sSub (c :: t) (nNat 1) (nLen (c :: t)) = t := by simp
      have hc := c.toNat_lt
      have e7 := qDZ t
      have e8 := qDw t
      simp at hlen
      simp only [qsr, decV, badL] at hr
      rw [decP, decL] at hr
      have x1 : xApp [] [[.int .u8 (c.toNat : Int)]] = qab [c] := by simp [qab]
      have x2 : xApp [] [[.int .u8 (escB t)]] = qab [UInt8.ofNat (escB t).toNat] := qiz [] e8
      refine LDoes.round qai hG qah (L := fun _ _ _ => .fail) (qac (by kernel_rfl)) (by kernel_rfl) ?_
      refine Tr.all_as (.ite (sNe (c :: t) []) (.ite (qau (c :: t) 0) (.ite (qa1 (qas 1) true (nNat 1) (nLen (c :: t)) (nLen (c :: t))) (.ite (iEq (sAt (c :: t) 0) 92) (.ite (iEq (escN (sSub (c :: t) (nNat 1) (nLen (c :: t)))) 0) (.ret (.ret,[3,2,22,15,9],[.str (sSub (c :: t) (nNat 1) (nLen (c :: t))),.top,.sl [] .full,.bool false,.sl [] .full,.int .u8 (sAt (c :: t) 0),.int .u8 (escB (sSub (c :: t) (nNat 1) (nLen (c :: t)))),.int .i64 (escN (sSub (c :: t) (nNat 1) (nLen (c :: t)))),.str (c :: t),.bool true,.str (c :: t),.int .u8 (sAt (c :: t) 0),.str (c :: t),.str (sSub (c :: t) (nNat 1) (nLen (c :: t))),.int .u8 (sAt (c :: t) 0),.bool true,.tup [.int .u8 (escB (sSub (c :: t) (nNat 1) (nLen (c :: t)))),.int .i64 (escN (sSub (c :: t) (nNat 1) (nLen (c :: t))))],.str (sSub (c :: t) (nNat 1) (nLen (c :: t))),.tup [.int .u8 (escB (sSub (c :: t) (nNat 1) (nLen (c :: t)))),.int .i64 (escN (sSub (c :: t) (nNat 1) (nLen (c :: t))))],.int .u8 (escB (sSub (c :: t) (nNat 1) (nLen (c :: t)))),.int .i64 (escN (sSub (c :: t) (nNat 1) (nLen (c :: t)))),.int .i64 (escN (sSub (c :: t) (nNat 1) (nLen (c :: t)))),.bool true,.top,.top,.top,.top,.top,.top,.top,.top,.top],Store.mk [] [] [])) (.ite (qa1 (qas (escN (sSub (c :: t) (nNat 1) (nLen (c :: t))))) true (nNat (escN (sSub (c :: t) (nNat 1) (nLen (c :: t))))) (nLen (sSub (c :: t) (nNat 1) (nLen (c :: t)))) (nLen (sSub (c :: t) (nNat 1) (nLen (c :: t))))) (.ite (qaz [] [[.int .u8 (escB (sSub (c :: t) (nNat 1) (nLen (c :: t))))]] 1) (.ite (qar [[.int
        .u8 (escB (sSub (c :: t) (nNat 1) (nLen (c :: t))))]] 1) (.ite (qan [] 1) (.ret (.normal,[29,22,15,9],[.str (sSub (sSub (c :: t) (nNat 1) (nLen (c :: t))) (nNat (escN (sSub (c :: t) (nNat 1) (nLen (c :: t))))) (nLen (sSub (c :: t) (nNat 1) (nLen (c :: t))))),.top,.top,.top,.sl (xApp [] [[.int .u8 (escB (sSub (c :: t) (nNat 1) (nLen (c :: t))))]]) (.tok 0),.int .u8 (escB (sSub (c :: t) (nNat 1) (nLen (c :: t)))),.int .u8 (escB (sSub (c :: t) (nNat 1) (nLen (c :: t)))),.int .i64 (escN (sSub (c :: t) (nNat 1) (nLen (c :: t)))),.str (c :: t),.bool true,.str (c :: t),.int .u8 (sAt (c :: t) 0),.str (c :: t),.str (sSub (c :: t) (nNat 1) (nLen (c :: t))),.int .u8 (sAt (c :: t) 0),.bool true,.tup [.int .u8 (escB (sSub (c :: t) (nNat 1) (nLen (c :: t)))),.int .i64 (escN (sSub (c :: t) (nNat 1) (nLen (c :: t))))],.str (sSub (c :: t) (nNat 1) (nLen (c :: t))),.tup [.int .u8 (escB (sSub (c :: t) (nNat 1) (nLen (c :: t)))),.int .i64 (escN (sSub (c :: t) (nNat 1) (nLen (c :: t))))],.int .u8 (escB (sSub (c :: t) (nNat 1) (nLen (c :: t)))),.int .i64 (escN (sSub (c :: t) (nNat 1) (nLen (c :: t)))),.int .i64 (escN (sSub (c :: t) (nNat 1) (nLen (c :: t)))),.bool false,.int .u8 (escB (sSub (c :: t) (nNat 1) (nLen (c :: t)))),.str (sSub (c :: t) (nNat 1) (nLen (c :: t))),.int .i64 (escN (sSub (c :: t) (nNat 1) (nLen (c :: t)))),.str (sSub (sSub (c :: t) (nNat 1) (nLen (c :: t))) (nNat (escN (sSub (c :: t) (nNat 1) (nLen (c :: t))))) (nLen (sSub (c :: t) (nNat 1) (nLen (c :: t))))),.sl []
        .full,.int .u8 (escB (sSub (c :: t) (nNat 1) (nLen (c :: t)))),.sl [[.int .u8 (escB (sSub (c :: t) (nNat 1) (nLen (c :: t))))]] .full,.sl (xApp [] [[.int .u8 (escB (sSub (c :: t) (nNat 1) (nLen (c :: t))))]]) (.tok 0),.top],Store.mk [] [(nXs (xApp [] [[.int .u8 (escB (sSub (c :: t) (nNat 1) (nLen (c :: t))))]]),1,5)] [])) .fail) .fail) .fail) .fail)) (.ite (qaz [] [[.int .u8 (sAt (c :: t) 0)]] 1) (.ite (qar [[.int .u8 (sAt (c :: t) 0)]] 1) (.ite (qan [] 1) (.ret (.normal,[29,15,9],[.str (sSub (c :: t) (nNat 1) (nLen (c :: t))),.top,.top,.top,.sl (xApp [] [[.int .u8 (sAt (c :: t) 0)]]) (.tok 0),.int .u8 (sAt (c :: t) 0),.top,.top,.str (c :: t),.bool true,.str (c :: t),.int .u8 (sAt (c :: t) 0),.str (c :: t),.str (sSub (c :: t) (nNat 1) (nLen (c :: t))),.int .u8 (sAt (c :: t) 0),.bool false,.top,.top,.top,.top,.top,.top,.top,.top,.top,.top,.top,.sl [] .full,.int .u8 (sAt (c :: t) 0),.sl [[.int .u8 (sAt (c :: t) 0)]] .full,.sl (xApp [] [[.int .u8 (sAt (c :: t) 0)]]) (.tok 0),.top],Store.mk [] [(nXs (xApp [] [[.int .u8 (sAt (c :: t) 0)]]),1,5)] [])) .fail) .fail) .fail)) .fail) .fail) (.ret (.exit 0,[9],[.str (c :: t),.top,.top,.top,.sl [] .full,.top,.top,.top,.str (c :: t),.bool false,.top,.top,.top,.top,.top,.top,.top,.top,.top,.top,.top,.top,.top,.top,.top,.top,.top,.top,.top,.top,.top,.top],Store.mk [] [] []))) (by kernel_rfl) ?_
      rw [e1, e0, x1, x2]
      simp only [qcW]
      refine Tr.all_t (by simp) <| Tr.all_t (by simp) <| Tr.all_t (by simp) ?_
      by_cases h92 : c = 92
      · subst h92
        refine Tr.all_t (by simp) ?_
        by_cases hn : escN t = 0
        · simp [hn] at hr
          obtain ⟨rfl, rfl, rfl⟩ := hr
          exact Tr.all_t (by simp [hn]) ⟨rfl, by simp [Weak, mk, qby, look], rfl⟩
        · refine Tr.all_f (by simp [hn]) <| Tr.all_t (by simp; omega) <| Tr.all_t (by simp) <| Tr.all_t (by simp [one]) <| Tr.all_t (by simp) ?_
          refine LDoes.into ?_ (key t.length ([UInt8.ofNat (escB t).toNat]) (t.drop (escN t).toNat) (by simp) (by simp) (by simp; omega) ?_)
          · simp [Weak, mk, qby, look]
          · cases hd : decP (t.drop (escN t).toNat) with
            | none =>
              simp [hn, hd] at hr ⊢
              rw [Nat.add_comm]
              exact hr
            | some x =>
              simp [hn, hd] at hr ⊢
              exact hr
      · refine Tr.all_f (qds (k := 92) h92) <| Tr.all_t (by simp) <| Tr.all_t (by simp [one]) <| Tr.all_t (by simp) ?_
        refine LDoes.into ?_ (key t.length [c] t (by omega) (by simp) (by simp; omega) ?_)
        · simp [Weak, mk, qby, look]
        · cases hd : decP t with
          | none =>
            simp [h92, hd] at hr ⊢
            rw [Nat.add_comm]
            exact hr
          | some x =>
            simp [h92, hd] at hr ⊢
            exact hr
  · cases hd
theorem qE2 (gl:Gl):SimP Tryz.prog gl 195 fun args=>(qwp args).run:=by
 refine SimP.of_tree (G:=ofL [(202,.pure qqI)]) (L:=qDt) qai (qaf (quW gl) qag) qah Tryz.func195 rfl (by rfl) (by kernel_rfl) (qgu (r:=2) (c1:=qpY) (by kernel_rfl) ?_) ?_
 ·intro fr σ e fr' σ' hh;simp only [lps,qDt,if_true] at hh;exact qii (qAh gl) fr σ e fr' σ' hh
 intro args x h hr;unfold qwp at h
 split at h
 ·rename_i s;obtain⟨h1,h2⟩:=Tr.chk_some h;refine Tr.run_as (.ite (qkV s) (.ite (qsr s) (.ite (sEq (decV s) []) (.ret (.tup [.sl [] .non,.bool true])) (.ret (.tup [.sl (qaa (qab (decV s))) .non,.bool true]))) (.ite (nEq (badL s) 0) (.ret (.tup [.sl [] .non,.bool false])) (.ret (.tup [.sl [] .non,.bool false])))) .fail) (by kernel_rfl) ?_
  by_cases hd:qsr s=true
  ·by_cases he:decV s=[]
   ·simp [hd,he] at h2 ⊢;simp at h1;exact⟨h1,h2⟩
   ·simp [hd,he] at h2 ⊢;simp at h1;exact⟨h1,h2⟩
  ·by_cases he:badL s=0
   ·simp [hd,he] at h2 ⊢;simp at h1;exact⟨h1,h2⟩
   ·simp [hd,he] at h2 ⊢;simp at h1;exact⟨h1,h2⟩
 ·cases h
end Go.Pv
set_option maxHeartbeats 4000000
set_option maxRecDepth 200000
set_option linter.unusedSimpArgs false
set_option linter.unusedVariables false
namespace Go.Pv
open Go Go.Proofs Go.RowKit
def rdV (s:qU):Option (Int×Int×List UInt8) :=
 if qcK s [34]=true∧qtv s [34]=true∧2≤s.length then
  match decP ((s.take (s.length - 1)).drop 1) with
  |some b=>if qaY 2 0 b=0∧qdV 2 0 b=s then some (2,0,b) else none
  |none=>none
 else if pOk s then (if qaY 1 (pVal s) []=0∧qdV 1 (pVal s) []=s then some (1,pVal s,[]) else none) else none
def kRd (s:qU):Int:=match rdV s with|some v=>v.1|none=>0
def nRd (s:qU):Int:=match rdV s with|some v=>v.2.1|none=>0
def sRd (s:qU):qU:=match rdV s with|some v=>v.2.2|none=>[]
def eRd (s:qU):Int:=match rdV s with|some _=>0|none=>10
def quC:List PV→Tr PV
 |[.str s]=>Tr.chk (qkV s) (.ret (.tup [.agg [.int .i64 (kRd s),.int .i64 (nRd s),.str (sRd s)],.int .i64 (eRd s)]))
 |_=>.fail
theorem qJv {gl : Gl} (hgl : GlOk gl) : SimP Tryz.prog gl 189 fun args => (quC args).run := by
  refine SimP.of_tree (G := ofL [(177, .pure qrg), (194, .pure qxd), (195, .pure qwp), (196, .pure qn7), (169, .pure qIq)]) (L := fun _ _ _ => .fail) qai (qaf (qu7 gl) (qaf (qET gl) (qaf (qE2 gl) (qaf (qyI hgl) (qaf (qKW hgl.toGlPow) qag))))) qah Tryz.func189 rfl (by rfl) (by kernel_rfl) (qac (by kernel_rfl)) ?_
  intro args x h hr
  unfold quC at h
  split at h
  · rename_i s
    obtain ⟨h1, h2⟩ := Tr.chk_some h
    refine Tr.run_as (.ite (qcK s [34]) (.ite (qtv s [34]) (.ite (iLe 2 (sLen s)) (.ite (qa1 (qas 1) (qas (iSub .i64 (sLen s) 1)) (nNat 1) (nNat (iSub .i64 (sLen s) 1)) (nLen s)) (.ite (qkV (sSub s (nNat 1) (nNat (iSub .i64 (sLen s) 1)))) (.ite (qsr (sSub s (nNat 1) (nNat (iSub .i64 (sLen s) 1)))) (.ite false (.ret (.tup [.agg [.int .i64 0,.int .i64 0,.str []],.int .i64 10])) (.ite (qb7 (qab (decV (sSub s (nNat 1) (nNat (iSub .i64 (sLen s) 1)))))) (.ite (iNe (qaY 2 0 (qbr (qab (decV (sSub s (nNat 1) (nNat (iSub .i64 (sLen s) 1))))))) 0) (.ret (.tup [.agg [.int .i64 0,.int .i64 0,.str []],.int .i64 10])) (.ite (sNe (qdV 2 0 (qbr (qab (decV (sSub s (nNat 1) (nNat (iSub .i64 (sLen s) 1))))))) s) (.ret (.tup [.agg [.int .i64 0,.int .i64 0,.str []],.int .i64 10])) (.ret (.tup [.agg [.int .i64 2,.int .i64 0,.str (qbr (qab (decV (sSub s (nNat 1) (nNat (iSub .i64 (sLen s) 1))))))],.int .i64 0])))) .fail)) (.ite true (.ret (.tup [.agg [.int .i64 0,.int .i64 0,.str []],.int .i64 10])) (.ite (qb7 []) (.ite (iNe (qaY 2 0 (qbr [])) 0) (.ret (.tup [.agg [.int .i64 0,.int .i64 0,.str []],.int .i64 10])) (.ite (sNe (qdV 2 0 (qbr [])) s) (.ret (.tup [.agg [.int .i64 0,.int .i64 0,.str []],.int .i64 10])) (.ret (.tup [.agg [.int .i64 2,.int .i64 0,.str (qbr [])],.int .i64 0])))) .fail))) .fail) .fail) (.ite (iEq 10 10) (.ite (iEq 64 64) (.ite (qfC s) (.ite (pOk s) (.ite false (.ret (.tup [.agg [.int .i64 0,.int .i64 0,.str []],.int .i64
      10])) (.ite (iNe (qaY 1 (pVal s) []) 0) (.ret (.tup [.agg [.int .i64 0,.int .i64 0,.str []],.int .i64 10])) (.ite (sNe (qdV 1 (pVal s) []) s) (.ret (.tup [.agg [.int .i64 0,.int .i64 0,.str []],.int .i64 10])) (.ret (.tup [.agg [.int .i64 1,.int .i64 (pVal s),.str []],.int .i64 0]))))) (.ite true (.ret (.tup [.agg [.int .i64 0,.int .i64 0,.str []],.int .i64 10])) (.ite (iNe (qaY 1 (pVal s) []) 0) (.ret (.tup [.agg [.int .i64 0,.int .i64 0,.str []],.int .i64 10])) (.ite (sNe (qdV 1 (pVal s) []) s) (.ret (.tup [.agg [.int .i64 0,.int .i64 0,.str []],.int .i64 10])) (.ret (.tup [.agg [.int .i64 1,.int .i64 (pVal s),.str []],.int .i64 0])))))) .fail) .fail) .fail)) (.ite (iEq 10 10) (.ite (iEq 64 64) (.ite (qfC s) (.ite (pOk s) (.ite false (.ret (.tup [.agg [.int .i64 0,.int .i64 0,.str []],.int .i64 10])) (.ite (iNe (qaY 1 (pVal s) []) 0) (.ret (.tup [.agg [.int .i64 0,.int .i64 0,.str []],.int .i64 10])) (.ite (sNe (qdV 1 (pVal s) []) s) (.ret (.tup [.agg [.int .i64 0,.int .i64 0,.str []],.int .i64 10])) (.ret (.tup [.agg [.int .i64 1,.int .i64 (pVal s),.str []],.int .i64 0]))))) (.ite true (.ret (.tup [.agg [.int .i64 0,.int .i64 0,.str []],.int .i64 10])) (.ite (iNe (qaY 1 (pVal s) []) 0) (.ret (.tup [.agg [.int .i64 0,.int .i64 0,.str []],.int .i64 10])) (.ite (sNe (qdV 1 (pVal s) []) s) (.ret (.tup [.agg [.int .i64 0,.int .i64 0,.str []],.int .i64 10])) (.ret (.tup [.agg [.int .i64 1,.int .i64 (pVal s),.str []],.int .i64 0])))))) .fail) .fail)
      .fail)) (.ite (iEq 10 10) (.ite (iEq 64 64) (.ite (qfC s) (.ite (pOk s) (.ite false (.ret (.tup [.agg [.int .i64 0,.int .i64 0,.str []],.int .i64 10])) (.ite (iNe (qaY 1 (pVal s) []) 0) (.ret (.tup [.agg [.int .i64 0,.int .i64 0,.str []],.int .i64 10])) (.ite (sNe (qdV 1 (pVal s) []) s) (.ret (.tup [.agg [.int .i64 0,.int .i64 0,.str []],.int .i64 10])) (.ret (.tup [.agg [.int .i64 1,.int .i64 (pVal s),.str []],.int .i64 0]))))) (.ite true (.ret (.tup [.agg [.int .i64 0,.int .i64 0,.str []],.int .i64 10])) (.ite (iNe (qaY 1 (pVal s) []) 0) (.ret (.tup [.agg [.int .i64 0,.int .i64 0,.str []],.int .i64 10])) (.ite (sNe (qdV 1 (pVal s) []) s) (.ret (.tup [.agg [.int .i64 0,.int .i64 0,.str []],.int .i64 10])) (.ret (.tup [.agg [.int .i64 1,.int .i64 (pVal s),.str []],.int .i64 0])))))) .fail) .fail) .fail)) (by kernel_rfl) ?_
    have hl : s.length ≤ 140737488355328 := by simpa using h1
    cases h2
    have h48 : qfC s = true := by simp [qfC]; omega
    have int : (Tr.ite (iEq 10 10) (Tr.ite (iEq 64 64) (Tr.ite (qfC s) (Tr.ite (pOk s)
              (Tr.ite false (Tr.ret (PV.tup [PV.agg [PV.int IntKind.i64 0, PV.int IntKind.i64 0, PV.str []], PV.int IntKind.i64 10]))
                (Tr.ite (iNe (qaY 1 (pVal s) []) 0) (Tr.ret (PV.tup [PV.agg [PV.int IntKind.i64 0, PV.int IntKind.i64 0, PV.str []], PV.int IntKind.i64 10]))
                  (Tr.ite (sNe (qdV 1 (pVal s) []) s) (Tr.ret (PV.tup [PV.agg [PV.int IntKind.i64 0, PV.int IntKind.i64 0, PV.str []], PV.int IntKind.i64 10]))
                    (Tr.ret (PV.tup [PV.agg [PV.int IntKind.i64 1, PV.int IntKind.i64 (pVal s), PV.str []], PV.int IntKind.i64 0])))))
              (Tr.ite true (Tr.ret (PV.tup [PV.agg [PV.int IntKind.i64 0, PV.int IntKind.i64 0, PV.str []], PV.int IntKind.i64 10]))
                (Tr.ite (iNe (qaY 1 (pVal s) []) 0) (Tr.ret (PV.tup [PV.agg [PV.int IntKind.i64 0, PV.int IntKind.i64 0, PV.str []], PV.int IntKind.i64 10]))
                  (Tr.ite (sNe (qdV 1 (pVal s) []) s) (Tr.ret (PV.tup [PV.agg [PV.int IntKind.i64 0, PV.int IntKind.i64 0, PV.str []], PV.int IntKind.i64 10]))
                    (Tr.ret (PV.tup [PV.agg [PV.int IntKind.i64 1, PV.int IntKind.i64 (pVal s), PV.str []], PV.int IntKind.i64 0])))))) Tr.fail) Tr.fail) Tr.fail).run =
        some (if pOk s then (if qaY 1 (pVal s) [] = 0 ∧ qdV 1 (pVal s) [] = s then .tup [.agg [.int .i64 1, .int .i64 (pVal s), .str []], .int .i64 0] else .tup [.agg [.int .i64 0, .int .i64 0, .str []], .int .i64 10]) else .tup [.agg [.int .i64 0, .int .i64 0, .str []], .int .i64 10]) := by
      cases hp : pOk s with
      | false => simp [h48]
      | true =>
        by_cases hc : qaY 1 (pVal s) [] = 0 <;> by_cases ht : qdV 1 (pVal s) [] = s <;> simp [h48, hc, ht]
    have fin : ∀ o : Option (Int × Int × List UInt8), rdV s = o → PV.tup [.agg [.int .i64 (kRd s), .int .i64 (nRd s), .str (sRd s)], .int .i64 (eRd s)] = match o with | some v => .tup [.agg [.int .i64 v.1, .int .i64 v.2.1, .str v.2.2], .int .i64 0] | none => .tup [.agg [.int .i64 0, .int .i64 0, .str []], .int .i64 10] := by
      intro o ho
      unfold kRd nRd sRd eRd
      rw [ho]
      cases o <;> rfl
    by_cases hq : qcK s [34] = true ∧ qtv s [34] = true ∧ 2 ≤ s.length
    · obtain ⟨p1, p2, p3⟩ := hq
      have e1 : sSub s (nNat 1) (nNat (iSub .i64 (sLen s) 1)) = (s.take (s.length - 1)).drop 1 := by
        have : iSub .i64 (sLen s) 1 = s.length - 1 := by unfold iSub; rw [qgY, qaD (by omega)]
        rw [this]
        simp
        try (congr 2; omega)
      have e2 : qa1 (qas 1) (qas (iSub .i64 (sLen s) 1)) (nNat 1) (nNat (iSub .i64 (sLen s) 1)) (nLen s) = true := by
        have : iSub .i64 (sLen s) 1 = s.length - 1 := by unfold iSub; rw [qgY, qaD (by omega)]
        rw [this]
        simp
        omega
      have e3 : iLe 2 (sLen s) = true := by simp; omega
      rw [e1, p1, p2, e2, e3]
      have e4 : qkV ((s.take (s.length - 1)).drop 1) = true := by simp; omega
      generalize hm : (s.take (s.length - 1)).drop 1 = m at *
      rw [e4]
      cases hd : decP m with
      | none =>
        have h5 : qsr m = false := by simp [qsr, hd]
        have := fin none (by unfold rdV; rw [if_pos ⟨p1, p2, p3⟩, hm, hd])
        rw [this]
        simp [h5]
      | some b =>
        have h5 : qsr m = true := by simp [qsr, hd]
        have h6 : decV m = b := by simp [decV, hd]
        rw [h6]
        by_cases hc : qaY 2 0 b = 0 ∧ qdV 2 0 b = s
        · have := fin (some (2, 0, b)) (by unfold rdV; rw [if_pos ⟨p1, p2, p3⟩, hm, hd]; simp only []; rw [if_pos hc])
          rw [this]
          simp [h5, hc]
        · have := fin none (by unfold rdV; rw [if_pos ⟨p1, p2, p3⟩, hm, hd]; simp only []; rw [if_neg hc])
          rw [this]
          by_cases hc1 : qaY 2 0 b = 0
          · have hc2 : ¬ qdV 2 0 b = s := fun h => hc ⟨hc1, h⟩
            simp [h5, hc1, hc2]
          · simp [h5, hc1]
    · have e9 : rdV s = if pOk s then (if qaY 1 (pVal s) [] = 0 ∧ qdV 1 (pVal s) [] = s then some (1, pVal s, []) else none) else none := by
        unfold rdV
        rw [if_neg hq]
      have e8 : PV.tup [.agg [.int .i64 (kRd s), .int .i64 (nRd s), .str (sRd s)], .int .i64 (eRd s)] = (if pOk s then (if qaY 1 (pVal s) [] = 0 ∧ qdV 1 (pVal s) [] = s then .tup [.agg [.int .i64 1, .int .i64 (pVal s), .str []], .int .i64 0] else .tup [.agg [.int .i64 0, .int .i64 0, .str []], .int .i64 10]) else .tup [.agg [.int .i64 0, .int .i64 0, .str []], .int .i64 10]) := by
        rw [fin _ e9]
        by_cases c1 : pOk s = true
        · by_cases c2 : qaY 1 (pVal s) [] = 0 ∧ qdV 1 (pVal s) [] = s
          · simp only [c1, if_true, if_pos c2]
          · simp only [c1, if_true, if_neg c2]
        · simp only [if_neg c1]
      rw [e8, ← int]
      cases p1 : qcK s [34] with
      | false => simp
      | true =>
        cases p2 : qtv s [34] with
        | false => simp
        | true =>
          have e3 : iLe 2 (sLen s) = false := by simp; have : ¬ 2 ≤ s.length := fun h => hq ⟨p1, p2, h⟩; omega
          rw [e3]
          simp
  · cases h
end Go.Pv
set_option linter.unusedSimpArgs false
set_option linter.unusedVariables false
namespace Go.Pv
open Go.RowKit
def qkA (s:Nat):Option Code:=if s=2 then some .ret else if 3≤s then some (.exit (s - 3)) else none
def exOf (s:Nat):PExit:=if s=2 then .ret else if 3≤s then .exit (s - 3) else .normal
def stOf:PExit→Nat
 |.normal=>0
 |.ret=>2
 |.exit id=>3+id
 |.pan _=>1
def okEx:PExit→Bool
 |.pan _=>false
 |_=>true
def isNo:PExit→Bool
 |.normal=>true
 |_=>false
def recS (r:Loop) (s:Nat):Obj:=.loop { r with state:=if s=0 then .ready else if s=1 then .busy else .done,pending:=qkA s }
def glR (gl:Gl) (e:Nat) (r:Loop) (fr:List PV):Gl:=⟨gl.v,fun e' s=>if e'=e then recS r s else gl.lp e' s,fun e'=>if e'=e then fr else gl.fr e'⟩
def puts (fr:List PV):List Tmp→List PV→List PV
 |p::ps,x::xs=>puts (fr.set p x) ps xs
 |_,_=>fr
section
variable {gl : Gl} {H : Gh} {σ : Store} {w w' : World}
theorem qy8:∀ (ps:List Tmp) (xs:List PV) (vs:List Value) (fr:List PV) (tmps:Array Value),RelL H w fr tmps.toList→RelL H w xs vs→RelL H w (puts fr ps xs) ((ps.zip vs).foldl (fun t p=>t.setIfInBounds p.1 p.2) tmps).toList
 |[],xs,vs,fr,tmps,h,hx=>by cases hx<;>simpa [puts] using h
 |p::ps,[],vs,fr,tmps,h,hx=>by cases hx;simpa [puts] using h
 |p::ps,x::xs,vs,fr,tmps,h,hx=>by
  cases hx with
  |cons _ v _ vs hv hvs =>
   simp only [puts,List.zip_cons_cons,List.foldl_cons];exact qy8 ps xs vs _ _ (by simpa using h.set p hv) hvs
theorem qJT {ps:Array Tmp} {xs:List PV} {vs:List Value} {fr:List PV} {tmps:Array Value} (h:RelL H w fr tmps.toList) (hx:RelL H w xs vs):RelL H w (puts fr ps.toList xs) ((ps.zip vs.toArray).foldl (fun t (p,v)=>t.setIfInBounds p v) tmps).toList:=by
 have:=qy8 ps.toList xs vs fr tmps h hx;have e:(ps.zip vs.toArray).foldl (fun t (p,v)=>t.setIfInBounds p v) tmps=(ps.toList.zip vs).foldl (fun t p=>t.setIfInBounds p.1 p.2) tmps:=by
  rw [← Array.foldl_toList,Array.toList_zip]
 rw [e];exact this
theorem Ok.lp {gl':Gl} (h:Ok gl H σ w) (hv:gl'.v=gl.v) (hl:∀ (t:Nat) (T:Tok),H.tk[t]?=some T→T.k=0→gl'.lp T.e=gl.lp T.e∧gl'.fr T.e=gl.fr T.e):Ok gl' H σ w :=
 ⟨h.B,fun b o e=>h.gl b o (by rw [← hv];exact e),h.len,(fun id b cs e1 e2=>⟨by show gl'.v b=none;rw [hv];exact (h.obj id b cs e1 e2).1,(h.obj id b cs e1 e2).2⟩),h.nd,h.tkl,fun t T e hvv=>by
  obtain⟨h1,h2,o,he,ho⟩:=h.tok t T e hvv;refine⟨h1,h2,o,he,?_⟩;rcases ho with ho|⟨hk,q1,r,q2,q3,q4,q5,q6⟩
  ·exact .inl ho
  ·obtain⟨l1,l2⟩:=hl t T e hk;refine .inr ⟨hk,by rw [l1];exact q1,r,q2,by rw [l2];exact q3,?_,q5,?_⟩
   ·intro n hn;rw [l2];exact q4 n hn
   ·intro m hm;rw [l2];exact q6 m hm,h.tnd,h.tyl,h.ty⟩
theorem Dr.lp {gl':Gl} {w w':World} (h:Dr gl w w') (hv:gl'.v=gl.v):Dr gl' w w':=fun hg=>h (fun b=>by rw [← hv];exact hg b)
theorem Ev.lp {gl':Gl} {H':Gh} (h:Ev gl H w H' w') (hv:gl'.v=gl.v):Ev gl' H w H' w' :=
 ⟨h.B,h.base,h.aux,h.K,h.os,h.tape,h.output,h.size,h.ob,h.tok,h.prot,h.block,h.dr.lp hv,h.fix,h.old,h.obn⟩
theorem qHM (h:Ok gl H σ w) {t:Nat} {T:Tok} (ht:H.tk[t]?=some T) (hk:T.k=0) {s':Nat} {r':Loop} (hr:gl.lp T.e s'=.loop r') (hframe:RelL H w (gl.fr T.e) r'.tmps.toList) :
  Ev gl H w { H with tk:=H.tk.set t { T with ver:=s' } } (w.putObj T.blk (.loop r'))∧Ok gl { H with tk:=H.tk.set t { T with ver:=s' } } { σ with toks:=σ.toks.set t (s',0,T.e) } (w.putObj T.blk (.loop r')):=by
 have htl:t < H.tk.length:=(List.getElem?_eq_some_iff.1 ht).1;have hnv:¬ T.vir:=fun hh=>hh.2 hk
 obtain⟨hB,hob,o,ho,hT⟩:=h.tok t T ht hnv;obtain⟨r0,ho0,hp0,hc0,hd0⟩:∃ r,o=.loop r∧(∀ n,T.cap≤n→qbk n (gl.fr T.e)=gl.fr T.e)∧T.cap≤H.ob.length∧(∀ m,t≤m→qbt m (gl.fr T.e)=gl.fr T.e):=by
  rcases hT with⟨h1,_⟩|⟨_,_,r,h3,_,h5,h6,h7⟩
  ·exact absurd hk h1
  ·exact⟨r,h3,h5,h6,h7⟩
 subst ho0;have hlt:=qal ho;have hsz:(w.putObj T.blk (.loop r')).heap.size=w.heap.size:=qbx ..;have hcase:∀ (u:Nat) (U:Tok),(H.tk.set t { T with ver:=s' })[u]?=some U→(u=t∧U={ T with ver:=s' })∨(u≠t∧H.tk[u]?=some U):=by
  intro u U hu;by_cases hut:u=t
  ·subst hut;rw [List.getElem?_set_self htl] at hu;exact .inl ⟨rfl,(Option.some.inj hu).symm⟩
  ·rw [List.getElem?_set_ne (fun e=>hut e.symm)] at hu
   exact .inr ⟨hut,hu⟩
 have hne:∀ b off,H.prot w b off→b≠T.blk:=fun b off hp e=>by
  have:=hp.2.2.2 T (List.mem_of_getElem? ht) hnv e.symm;rw [hk] at this;omega
 have hcell:∀ b off s,b≠T.blk→(w.putObj T.blk (.loop r')).cell? ⟨b,off,s⟩=w.cell? ⟨b,off,s⟩:=fun b off s e=>World.cell?_of_block (a:=⟨b,off,s⟩) (World.putObj_heap_other e)
 have ev:Ev gl H w { H with tk:=H.tk.set t { T with ver:=s' } } (w.putObj T.blk (.loop r')):=by
  refine⟨rfl,rfl,rfl,rfl,rfl,rfl,rfl,by rw [hsz];exact Nat.le_refl _,fun _ _ h=>h,fun u U hu=>?_,fun b off hp=>?_,fun b hb _=>World.putObj_heap_other (by omega),.of_eq rfl,fun b ds hb=>(World.putObj_heap_other (fun e=>by subst e;rw [ho] at hb;cases hb)).trans hb,fun u U hu hk'=>?_,fun _ hb=>.inl hb⟩
  ·by_cases hut:u=t
   ·subst hut;rw [ht] at hu;cases hu
    exact⟨{ T with ver:=s' },List.getElem?_set_self htl,fun e=>absurd hk e,fun _=>⟨hk,rfl,rfl,rfl⟩⟩
   ·exact⟨U,by show (H.tk.set t _)[u]?=some U;rw [List.getElem?_set_ne (fun e=>hut e.symm)];exact hu,.refl U⟩
  ·refine⟨⟨by rw [hsz];exact hp.1,hp.2.1,hp.2.2.1,fun U hU hvU hbk=>?_⟩,fun s=>hcell b off s (hne b off hp)⟩
   obtain⟨u,hu⟩:=List.mem_iff_getElem?.1 hU;rcases hcase u U hu with⟨_,rfl⟩|⟨_,hu⟩
   ·exact absurd hbk.symm (hne b off hp)
   ·exact hp.2.2.2 U (List.mem_of_getElem? hu) hvU hbk
  ·rcases hcase u U hu with⟨rfl,rfl⟩|⟨_,hu⟩
   ·exact⟨T,ht,hk⟩
   ·exact⟨U,hu,hk'⟩
 refine⟨ev,⟨by rw [hsz];exact h.B,fun b o' eg=>⟨(h.gl b o' eg).1,(World.putObj_heap_other (by have:=(h.gl b o' eg).1;omega)).trans (h.gl b o' eg).2⟩,h.len,fun id b cs e1 e2=>?_,h.nd,?_,fun u U hu hvU=>?_,fun u v U V hu hv hvU hvV hbk=>?_,h.tyl,fun id b T0 cs e1 e2 e3 hTT=>?_⟩⟩
 ·obtain⟨h1,vs,ext,T0,he,hr⟩:=h.obj id b cs e1 e2;exact⟨h1,vs,ext,T0,(World.putObj_heap_other (fun e=>by subst e;rw [ho] at he;cases he)).trans he,hr.mono ev.mono⟩
 ·show (H.tk.set t _).map _=σ.toks.set t _
  rw [List.map_set,h.tkl,hk]
 ·rcases hcase u U hu with⟨rfl,rfl⟩|⟨hut,hu'⟩
  ·exact⟨hB,hob,_,World.putObj_heap_same hlt,.inr ⟨hk,hr.symm,r',rfl,hframe.mono ev.mono,hp0,hc0,hd0⟩⟩
  ·obtain⟨g1,g2,o',g3,g4⟩:=h.tok u U hu' hvU;exact⟨g1,g2,o',(World.putObj_heap_other (fun e=>hut (h.tnd u t U T hu' ht hvU hnv e))).trans g3,g4.mono ev.mono⟩
 ·rcases hcase u U hu with⟨h1,rfl⟩|⟨h1,hu'⟩<;>rcases hcase v V hv with⟨h2,rfl⟩|⟨h2,hv'⟩
  ·rw [h1,h2]
  ·exact absurd (h.tnd v t V T hv' ht hvV hnv hbk.symm) h2
  ·exact absurd (h.tnd u t U T hu' ht hvU hnv hbk) h1
  ·exact h.tnd u v U V hu' hv' hvU hvV hbk
 ·obtain⟨us,he,hs⟩:=h.ty id b T0 cs e1 e2 e3 hTT;exact⟨us,(World.putObj_heap_other (fun e=>by subst e;rw [ho] at he;cases he)).trans he,hs⟩
end
theorem qPe {P:Program} {gl:Gl} {e:Nat} {r:Loop} (hlp:gl.lp e=recS r) {Y:Nat→List PV→Store→Option (PV×Store)}
  (hY:∀ t args σ x σ',Y t args σ=some (x,σ')→∃ fr1 σ1 ex fr2 σ2,args.length=r.params.size∧Does P gl r.assign (puts (gl.fr e) r.params.toList args) σ .normal fr1 σ1∧σ1.toks[t]?=some (0,0,e) ∧
   Does P gl r.body fr1 { σ1 with toks:=σ1.toks.set t (1,0,e) } ex fr2 σ2∧σ2.toks[t]?=some (1,0,e)∧okEx ex=true∧x=.bool (isNo ex)∧σ'={ σ2 with toks:=σ2.toks.set t (stOf ex,0,e) }):qpo P gl qdY (.yld e Y):=by
 intro t args σ x σ' h0 hy H w vs T hok hrel hT;obtain⟨fr1,σ1,ex,fr2,σ2,hlen,hd1,ht1,hd2,ht2,hokx,rfl,rfl⟩:=hY t args σ x σ' hy
 -- what a token of such a state is
 have look:∀ {H1:Gh} {w1:World} {τ:Store} {T1:Tok} {s:Nat},Ok gl H1 τ w1→τ.toks[t]?=some (s,0,e)→H1.tk[t]?=some T1→T1.ver=s∧T1.k=0∧T1.e=e∧w1.heap[T1.blk]?=some (recS r s)∧RelL H1 w1 (gl.fr e) r.tmps.toList:=by
  intro H1 w1 τ T1 s hk1 hs hT1;have e1:(T1.ver,T1.k,T1.e)=(s,0,e):=by
   rw [← hk1.tkl,List.getElem?_map,hT1] at hs;simpa using hs
  simp only [Prod.mk.injEq] at e1;obtain⟨a1,a2,a3⟩:=e1;obtain⟨_,_,o,ho,hTO⟩:=hk1.tok t T1 hT1 (fun hh=>hh.2 (by assumption))
  rcases hTO with⟨b1,_⟩|⟨_,b2,r1,b3,b4,_⟩
  ·exact absurd a2 b1
  ·rw [a1,a3,hlp] at b2;rw [b2] at ho b3;refine⟨a1,a2,a3,ho,?_⟩;rw [a3] at b4;unfold recS at b3;cases b3
   exact b4
 obtain⟨v0,k0,ee0,hl0,hf0⟩:=look hok h0 hT;have hsz:vs.toArray.size=r.params.size:=by rw [← hlen,hrel.len];simp
 have hrun:=run_yield (P:=P) (args:=vs.toArray) hl0 hsz;refine⟨_,_,_,_,hrun,?_⟩;have hRin:RIn (some T.blk) { H with K:=(w.heap.size,[]) }:=fun l hl=>by cases hl;exact⟨t,T,hT,k0,rfl⟩
 refine roundIn_of_wpIn (F:=Fence.wide) (n:=0) (l:=T.blk) trivial ?_;have hst0:St gl { H with K:=(w.heap.size,[]) } w (puts (gl.fr e) r.params.toList args) σ { tmps:=(r.params.zip vs.toArray).foldl (fun t (p,v)=>t.setIfInBounds p v) r.tmps,defers:=[] } w :=
  ⟨_,Ev.refl _ w,hok.setK _,(qJT hf0 hrel).mono (Mono.setK' H w _),Marks.nil (Nat.le_refl _)⟩
 refine hd1 (some T.blk) 0 _ w hRin _ _ w hst0 fun a1 w1 hst1=>?_
 obtain⟨H1,hev1,hok1,hfr1,hm1⟩:=hst1;obtain⟨T1,hT1,hu1⟩:=hev1.tok t T hT;obtain⟨_,hblk1,_,_⟩:=hu1.lp k0;obtain⟨v1,k1,ee1,hl1,hf1⟩:=look hok1 ht1 hT1;rw [hblk1] at hl1;have hbr:=run_beginRound (P:=P) hl1 rfl;refine⟨_,hbr,?_⟩;have hs1:=qHM (s':=1) (r':={ r with state:=.busy,pending:=qkA 1 }) hok1 hT1 k1 (by rw [ee1,hlp];rfl) (by rw [ee1];exact hf1)
 rw [ee1,hblk1] at hs1;obtain⟨hev2,hok2⟩:=hs1;have hst2:St gl { H with K:=(w.heap.size,[]) } w fr1 { σ1 with toks:=σ1.toks.set t (1,0,e) } a1 (w1.putObj T.blk (.loop { r with state:=.busy,pending:=qkA 1 })):=⟨_,hev1.trans hev2,hok2,hfr1.mono hev2.mono,hm1.ev hev2⟩
 refine hd2 (some T.blk) 0 _ w hRin _ _ _ hst2 fun a3 w3 hst3=>?_
 obtain⟨H3,hev3,hok3,hfr3,hm3⟩:=hst3;obtain⟨T3,hT3,hu3⟩:=hev3.tok t T hT;obtain⟨_,hblk3,_,_⟩:=hu3.lp k0;obtain⟨v3,k3,ee3,hl3,hf3⟩:=look hok3 ht2 hT3;rw [hblk3] at hl3
 -- the round's end
 have fin:∀ (jump:Option Code) (s:Nat),recS r s=.loop { r with state:=if jump.isNone then .ready else .done,pending:=jump }→∀ b:Bool,jump.isNone=b →
   ∃ v w',(Instr.endRound T.blk jump).run P w3=.ok v w'∧∃ v',(Ending.returned v)=.returned v'∧Post gl H w (.bool b) { σ2 with toks:=σ2.toks.set t (s,0,e) } v' w':=by
  intro jump s hs b hb;subst hb;have hr:=run_endRound (P:=P) jump hl3;refine⟨_,_,hr,_,rfl,?_⟩;have hs4:=qHM (s':=s) (r':={ r with state:=if jump.isNone then .ready else .done,pending:=jump }) hok3 hT3 k3 (by rw [ee3,hlp];exact hs) (by rw [ee3];exact hf3)
  rw [ee3,hblk3] at hs4;obtain⟨hev4,hok4⟩:=hs4;exact⟨_,(hev3.trans hev4).setK,hok4.setK _,.bool _⟩
 cases ex with
 |pan x=>cases hokx
 |normal=>exact fin none 0 rfl true rfl
 |ret=>exact fin (some .ret) 2 rfl false rfl
 |exit id =>
  refine fin (some (.exit id)) (3+id) ?_ false rfl;have h1:¬ (3+id=0):=by omega
  have h2:¬ (3+id=1):=by omega
  have h3:¬ (3+id=2):=by omega
  have h4:3≤3+id:=by omega
  simp only [recS,qkA,h1,h2,h3,h4,if_true,if_false,Nat.add_sub_cancel_left];rfl
section
variable {gl : Gl} {H : Gh} {σ : Store} {w w' : World}
theorem qOz (h:Ok gl H σ w) {e s:Nat} {r:Loop} (he:gl.lp e s=.loop r) (hfr:RelL H w (gl.fr e) r.tmps.toList) (hp:∀ n,H.ob.length≤n→qbk n (gl.fr e)=gl.fr e) (ht:∀ m,H.tk.length≤m→qbt m (gl.fr e)=gl.fr e) :
  Mono H w { H with tk:=H.tk++[⟨w.heap.size,s,H.ob.length,0,e⟩] } (w.alloc (.loop r))∧Ok gl { H with tk:=H.tk++[⟨w.heap.size,s,H.ob.length,0,e⟩] } { σ with toks:=σ.toks++[(s,0,e)] } (w.alloc (.loop r)) ∧
   (H.tk++[(⟨w.heap.size,s,H.ob.length,0,e⟩:Tok)])[σ.toks.length]?=some ⟨w.heap.size,s,H.ob.length,0,e⟩:=by
 have hb:=qaZ w (.loop r);have hlen:H.tk.length=σ.toks.length:=by rw [← h.tkl];simp
 have hcase:∀ (t:Nat) (T:Tok),(H.tk++[(⟨w.heap.size,s,H.ob.length,0,e⟩:Tok)])[t]?=some T→H.tk[t]?=some T∨(t=H.tk.length∧T=⟨w.heap.size,s,H.ob.length,0,e⟩):=by
  intro t T ht;by_cases htl:t < H.tk.length
  ·rw [List.getElem?_append_left htl] at ht;exact .inl ht
  ·have hlt:=(List.getElem?_eq_some_iff.1 ht).1;have:t=H.tk.length:=by simp at hlt;omega
   subst this;rw [List.getElem?_append_right (Nat.le_refl _)] at ht;simp at ht;exact .inr ⟨rfl,ht.symm⟩
 have hprot:∀ b off,H.prot w b off→({ H with tk:=H.tk++[⟨w.heap.size,s,H.ob.length,0,e⟩] }:Gh).prot (w.alloc (.loop r)) b off:=fun b off hp=>by
  refine⟨Nat.lt_of_lt_of_le hp.1 hb.size,hp.2.1,hp.2.2.1,fun T hT hvv hbk=>?_⟩
  rcases List.mem_append.1 hT with hT|hT
  ·exact hp.2.2.2 T hT hvv hbk
  ·simp at hT;subst hT;have:=hp.1;simp at hbk;omega
 have mo:Mono H w { H with tk:=H.tk++[⟨w.heap.size,s,H.ob.length,0,e⟩] } (w.alloc (.loop r)):=by
  refine⟨fun _ _ h=>h,fun t T ht=>?_,fun b off hp=>⟨hprot b off hp,fun s=>hb.cell (p:=⟨b,off,s⟩) hp.1⟩,fun b off hp=>?_⟩
  ·refine⟨T,?_,.refl T⟩;show (H.tk++[_])[t]?=some T
   rw [List.getElem?_append_left (List.getElem?_eq_some_iff.1 ht).1];exact ht
  ·rcases hp with hp|hp
   ·exact⟨.inl (hprot b off hp),fun s=>hb.cell (p:=⟨b,off,s⟩) hp.1⟩
   ·exact⟨.inr hp,fun s=>hb.cell (p:=⟨b,off,s⟩) (Nat.lt_of_lt_of_le hp.1 h.B)⟩
 refine⟨mo,⟨Nat.le_trans h.B hb.size,fun b o eg=>⟨(h.gl b o eg).1,(hb.block b (qal (h.gl b o eg).2)).trans (h.gl b o eg).2⟩,h.len,fun id b cs e1 e2=>?_,h.nd,by simp [h.tkl],fun t T ht' hvv=>?_,fun t u T U ht hu hvT hvU hbk=>?_,h.tyl,fun id b T' c1 e1 e2 e3 hTT=>?_⟩,?_⟩
 ·obtain⟨hB,vs,ext,T,he,hr⟩:=h.obj id b cs e1 e2;exact⟨hB,vs,ext,T,(hb.block b (qal he)).trans he,hr.mono mo⟩
 ·rcases hcase t T ht' with ht'|⟨rfl,rfl⟩
  ·obtain⟨hB,ho,o,he,hr⟩:=h.tok t T ht' hvv;exact⟨hB,ho,o,(hb.block _ (qal he)).trans he,hr.mono mo⟩
  ·exact⟨h.B,fun hm=>Nat.lt_irrefl _ (h.ob_at hm).2,_,heap_alloc_new w _,.inr ⟨rfl,he.symm,r,rfl,hfr.mono mo,hp,Nat.le_refl _,ht⟩⟩
 ·rcases hcase t T ht with ht|⟨h1,rfl⟩<;>rcases hcase u U hu with hu|⟨h2,rfl⟩
  ·exact h.tnd t u T U ht hu hvT hvU hbk
  ·have:=(h.tk_at (List.mem_of_getElem? ht) hvT).2;simp at hbk;omega
  ·have:=(h.tk_at (List.mem_of_getElem? hu) hvU).2;simp at hbk;omega
  ·rw [h1,h2]
 ·obtain⟨us,he,hs⟩:=h.ty id b T' c1 e1 e2 e3 hTT;exact⟨us,(hb.block b (qal he)).trans he,hs⟩
 ·rw [← hlen,List.getElem?_append_right (Nat.le_refl _)];simp
theorem qz5 {D:Nat} {r r':Loop} (hd:w.heap[D]?=some (.loop r)):Mono H w H (w.putObj D (.loop r')):=by
 have hs:(w.putObj D (.loop r')).heap.size=w.heap.size:=qbx ..;have hlt:=qal hd;have hc:∀ b off s,(w.putObj D (.loop r')).cell? ⟨b,off,s⟩=w.cell? ⟨b,off,s⟩:=fun b off s=>by
  by_cases e:b=D
  ·subst e;simp only [World.cell?,World.putObj_heap_same hlt,hd]
  ·exact World.cell?_of_block (a:=⟨b,off,s⟩) (World.putObj_heap_other e)
 refine⟨fun _ _ h=>h,fun t T h=>⟨T,h,.refl T⟩,fun b off hp=>⟨⟨by rw [hs];exact hp.1,hp.2⟩,hc b off⟩,fun b off hp=>⟨?_,hc b off⟩⟩
 rcases hp with hp|hp
 ·exact .inl ⟨by rw [hs];exact hp.1,hp.2⟩
 ·exact .inr hp
theorem qOv {D:Nat} {r r':Loop} (h:Ok gl H σ w) (hB:H.B≤D) (hd:w.heap[D]?=some (.loop r)) (hn:∀ (t:Nat) (T:Tok),H.tk[t]?=some T→¬ T.vir→T.blk≠D):Ok gl H σ (w.putObj D (.loop r')) where
 B:=by rw [qbx];exact h.B
 gl:=fun b o e=>⟨(h.gl b o e).1,(World.putObj_heap_other (by have:=(h.gl b o e).1;omega)).trans (h.gl b o e).2⟩
 len:=h.len
 obj:=fun id b cs e1 e2=>by
  obtain⟨h1,vs,ext,T,he,hr⟩:=h.obj id b cs e1 e2;have hne:b≠D:=fun e=>by subst e;rw [he] at hd;cases hd
  exact⟨h1,vs,ext,T,(World.putObj_heap_other hne).trans he,hr.mono (qz5 hd)⟩
 nd:=h.nd
 tkl:=h.tkl
 tok:=fun t T e hvv=>by
  obtain⟨h1,h2,o,he,ho⟩:=h.tok t T e hvv;exact⟨h1,h2,o,(World.putObj_heap_other (hn t T e hvv)).trans he,ho.mono (qz5 hd)⟩
 tnd:=h.tnd
 tyl:=h.tyl
 ty:=fun id b T cs e1 e2 e3 hT=>by
  obtain⟨us,he,hs⟩:=h.ty id b T cs e1 e2 e3 hT;have hne:b≠D:=fun e=>by subst e;rw [he] at hd;cases hd
  exact⟨us,(World.putObj_heap_other hne).trans he,hs⟩
end
theorem qEY {P:Program} {gl:Gl} {g:Operand} {ps:Array Tmp} {assign body:Code} {fr:List PV} {σ:Store} {gf:FuncId} {caps:List PV} (hg:ev fr g=.fn gf caps) (eid:Nat)
  (hent : ∃ fn, P.funcs[gf]? = some fn ∧ (fn.name == "runtime.NumGoroutine") = false ∧ fn.body.isNone = false)
  {Y:Nat→List PV→Store→Option (PV×Store)} {D:List PV→Store→Option (PV×Store)}
  (hfresh:∀ (i v k e:Nat),σ.toks[i]?=some (v,k,e)→k=0→e≠eid) (hpd:∀ n,σ.objs.length≤n→qbk n fr=fr) (htd:∀ m,σ.toks.length≤m→qbt m fr=fr)
  (hI:∀ gl':Gl,gl'.v=gl.v→qpo P gl' qdY (.yld eid Y)→SimS P gl' gf D)
  (hY:∀ gl':Gl,gl'.v=gl.v→∀ t args σ x σ',Y t args σ=some (x,σ')→∃ fr1 σ1 ex fr2 σ2,args.length=ps.size∧Does P gl' assign (puts fr ps.toList args) σ .normal fr1 σ1∧σ1.toks[t]?=some (0,0,eid) ∧
   Does P gl' body fr1 { σ1 with toks:=σ1.toks.set t (1,0,eid) } ex fr2 σ2∧σ2.toks[t]?=some (1,0,eid)∧okEx ex=true∧x=.bool (isNo ex)∧σ'={ σ2 with toks:=σ2.toks.set t (stOf ex,0,eid) })
  {x:PV} {σ2:Store} {s:Nat} (hD:D (.yld σ.toks.length::caps) { σ with toks:=σ.toks++[(0,0,eid)] }=some (x,σ2)) (hs:σ2.toks[σ.toks.length]?=some (s,0,eid)) (hs1:s≠1) :
  Does P gl (.rangeFunc g ps assign body) fr σ (exOf s) fr (qd2 σ.toks.length σ2):=by
 intro r n H0 w0 hR Q a w hst hq;obtain⟨H,hev,hok,hfr,hmk⟩:=hst;have hHt:H.tk.length=σ.toks.length:=by rw [← hok.tkl];simp
 have hrg:=qaF hfr g;rw [hg] at hrg;generalize hv:a.eval g=gv at hrg;cases hrg with
 |fn _ _ lb hcaps =>
 refine wpIn_rangeFunc ?_;intro fn hfn
 -- entering: the record;at an outermost loop the block of the rounds' deferred calls
 obtain⟨mark,W0,rec,hent',hb0,hdr0,hrecf,hmark⟩:∃ (mark:List Deferred) (W0:World) (rec:Loop),(Instr.enterLoop fn a.tmps ps assign body (rnd r).round).run P w=.ok (W0.heap.size,mark) (W0.alloc (.loop rec)) ∧
   Below w.heap.size w W0∧W0.drawn=w.drawn∧(rec.state=.ready∧rec.pending=none∧rec.tmps=a.tmps∧rec.params=ps∧rec.assign=assign∧rec.body=body)∧Marks H.K (mark++a.defers) W0:=by
  cases r with
  |none =>
   refine⟨[{ target:=.collected w.heap.size,args:=#[] }],w.alloc (.deferred (some [])),{ state:=.ready,pending:=none,fn,tmps:=a.tmps,params:=ps,assign,body,defers:=w.heap.size },?_,qaZ w _,rfl,⟨rfl,rfl,rfl,rfl,rfl,rfl⟩,?_⟩
   ·have:=run_enterLoop_outer (P:=P) (w:=w) fn a.tmps ps assign body;rw [show w.heap.size+1=(w.alloc (.deferred (some []))).heap.size from by simp] at this
    exact this
   ·obtain⟨k1,Ds,k2,k3,k4⟩:=hmk;refine⟨Nat.le_trans k1 (by simp),w.heap.size::Ds,by rw [k2];rfl,List.nodup_cons.2 ⟨fun hm=>?_,k3⟩,fun D' hD'=>?_⟩
    ·have:=qal (k4 _ hm).2;omega
    ·cases hD' with
     |head=>exact⟨k1,World.alloc_heap_new w _⟩
     |tail _ hD'=>exact⟨(k4 D' hD').1,((qaZ w _).block D' (qal (k4 D' hD').2)).trans (k4 D' hD').2⟩
  |some l0 =>
   obtain⟨t0,T0,ht0,hk0,rfl⟩:=hR.ev hev l0 rfl;obtain⟨_,_,o,ho,hTO⟩:=hok.tok t0 T0 ht0 (fun hh=>hh.2 hk0)
   obtain⟨r0,rfl⟩:∃ r0,o=.loop r0:=by
    rcases hTO with⟨h1,_⟩|⟨_,_,r0,h3,_⟩
    ·exact absurd hk0 h1
    ·exact⟨r0,h3⟩
   exact⟨[],w,{ state:=.ready,pending:=none,fn,tmps:=a.tmps,params:=ps,assign,body,defers:=r0.defers },run_enterLoop_inner ho fn a.tmps ps assign body,Below.refl _ w,rfl,⟨rfl,rfl,rfl,rfl,rfl,rfl⟩,hmk⟩
 obtain⟨q1,q2,q3,q4,q5,q6⟩:=hrecf
 -- the world with the record
 obtain⟨gl',hgl'⟩:∃ gl',gl'=glR gl eid rec fr:=⟨_,rfl⟩;have hgv:gl'.v=gl.v:=by rw [hgl'];rfl
 have hglp:gl'.lp eid=recS rec:=by rw [hgl'];simp [glR]
 have hgfr:gl'.fr eid=fr:=by rw [hgl'];simp [glR]
 have hother:∀ e,e≠eid→gl'.lp e=gl.lp e∧gl'.fr e=gl.fr e:=fun e he=>by rw [hgl'];constructor<;>simp [glR,he]
 have hfreshT:∀ (t:Nat) (T:Tok),H.tk[t]?=some T→T.k=0→T.e≠eid:=fun t T hT hk=>by
  refine hfresh t T.ver T.k T.e ?_ hk;rw [← hok.tkl,List.getElem?_map,hT];rfl
 have hok0:Ok gl' H σ W0:=(hok.of_below hb0).lp hgv fun t T hT hk=>hother T.e (hfreshT t T hT hk)
 have hm0:Mono H w H W0:=Mono.of_below hok.B hb0;have hrs:gl'.lp eid 0=.loop rec:=by
  rw [hglp];unfold recS qkA;simp only [if_true];rw [← q1,if_neg (by omega:¬ (0=2)),if_neg (by omega:¬ (3≤0)),← q2]
 obtain⟨hm1,hok1,hT1⟩:=qOz (e:=eid) (s:=0) hok0 hrs (by rw [hgfr,q3];exact hfr.mono hm0) (by rw [hgfr];intro n hn;exact hpd n (by rw [← hok.len];exact hn)) (by rw [hgfr];intro m hm;exact htd m (by rw [← hHt];exact hm))
 obtain⟨T,hT⟩:∃ T:Tok,T=⟨W0.heap.size,0,H.ob.length,0,eid⟩:=⟨_,rfl⟩;obtain⟨H1,hH1⟩:∃ H1:Gh,H1={ H with tk:=H.tk++[T] }:=⟨_,rfl⟩
 rw [← hT] at hm1 hok1 hT1;rw [← hH1] at hm1 hok1;obtain⟨W1,hW1⟩:∃ W1,W1=W0.alloc (.loop rec):=⟨_,rfl⟩;rw [← hW1] at hm1 hok1;have hb1:Below w.heap.size w W1:=by rw [hW1];exact hb0.alloc hb0.size _
 -- the call
 have hcon:qpo P gl' qdY (.yld eid Y):=qPe (r:=rec) hglp (by rw [hgfr,q4,q5,q6];exact hY gl' hgv)
 have hS:=hI gl' hgv hcon;have hyr:Rel H1 W1 (.yld σ.toks.length) (.func (.yield W0.heap.size) #[] #[]):=by
  have:=Rel.yld (H:=H1) (w:=W1) σ.toks.length T (by rw [hH1];exact hT1) (by rw [hT])
  rw [show T.blk=W0.heap.size from by rw [hT]] at this
  exact this
 have hcall:=hS.run _ _ _ _ hD H1 W1 (.func (.yield W0.heap.size) #[] #[]::lb) hok1 (.cons _ _ _ _ hyr (hcaps.mono (hm0.trans hm1)));obtain⟨gfn,hgf,hgn,hgb⟩:=hent;refine⟨W0.heap.size,mark,W1,{ target:=.fn (.func gf) lb.toArray,args:=#[.func (.yield W0.heap.size) #[] #[]] },W1,gf,(.func (.yield W0.heap.size) #[] #[]::lb).toArray,W1,by rw [hW1];exact hent',?_,fun _ _=>trivial,?_,(fun h=>by cases h),?_⟩
 ·simp only [resolve,hv];simp [go_sem]
 ·have e1:(#[(Value.func (.yield W0.heap.size) #[] #[])]:Array Value)++lb.toArray=(Value.func (.yield W0.heap.size) #[] #[]::lb).toArray:=by
   apply Array.ext';simp
  simp only [invoke,callFunc,Sem.run_bind,run_program,Result.andThen_ok,hgf,hgn,hgb,Bool.false_eq_true,if_false,Sem.run_pure,e1]
 ·refine CallsIn.mono (qlc hcall) ?_;rintro e w3 ⟨v,rfl,H2,hevI,hok2,hv2⟩
  -- behind the function
  have hsz2:σ2.toks.length=H2.tk.length:=by rw [← hok2.tkl];simp
  obtain⟨T2,hT2,hu2⟩:=hevI.tok σ.toks.length T (by rw [hH1];exact hT1)
  obtain⟨k2,blk2,ee2,cap2⟩:=hu2.lp (by rw [hT])
  have ev2:T2.ver=s∧T2.e=eid:=by
   have:(T2.ver,T2.k,T2.e)=(s,0,eid):=by
    rw [← hok2.tkl,List.getElem?_map,hT2] at hs;simpa using hs
   simp only [Prod.mk.injEq] at this;exact⟨this.1,this.2.2⟩
  have blk2':T2.blk=W0.heap.size:=by rw [blk2,hT]
  have hT2nv:¬ T2.vir:=fun hh=>hh.2 k2
  obtain⟨hB2,_,o2,ho2,hTO2⟩:=hok2.tok _ T2 hT2 hT2nv;have hl2:w3.heap[W0.heap.size]?=some (recS rec s):=by
   rcases hTO2 with⟨h1,_⟩|⟨_,h2,_⟩
   ·exact absurd k2 h1
   ·rw [ev2.1,ev2.2,hglp] at h2;rw [← blk2',ho2,h2]
  rw [blk2'] at hB2;have hBl:H.B≤W0.heap.size:=by rw [hevI.B,hH1] at hB2;exact hB2
  have hend:=run_endLoop (P:=P) (w:=w3) (l:=W0.heap.size) (r:={ rec with state:=if s=0 then .ready else if s=1 then .busy else .done,pending:=qkA s }) hl2 (by
   by_cases h0:s=0
   ·simp [h0]
   ·simp [h0,hs1])
  obtain⟨rx,hrx⟩:∃ rx:Loop,rx={ rec with state:=.exhausted,pending:=qkA s }:=⟨_,rfl⟩
  obtain⟨w4,hw4⟩:∃ w4,w4=w3.putObj W0.heap.size (.loop rx):=⟨_,rfl⟩;have hend':(Instr.endLoop W0.heap.size).run P w3=.ok (qkA s) w4:=by rw [hw4,hrx];exact hend
  -- the record is forgotten
  have hsz4:w4.heap.size=w3.heap.size:=by rw [hw4];exact qbx ..
  have hle1:w.heap.size≤W0.heap.size:=hb0.size;have hoth:∀ b,b≠W0.heap.size→w4.heap[b]?=w3.heap[b]?:=fun b hb=>by rw [hw4];exact World.putObj_heap_other hb
  have hH1t:∀ u,u < σ.toks.length→H1.tk[u]?=H.tk[u]?:=fun u hu=>by
   rw [hH1];show (H.tk++[T])[u]?=H.tk[u]?
   rw [List.getElem?_append_left (by omega)]
  have htrim:∀ u U,(H2.trim σ.toks.length).tk[u]?=some U→u < σ.toks.length∧H2.tk[u]?=some U:=fun u U hu=>qb4 hu
  have hokt:=qBz (m:=σ.toks.length) hok2;have hnb:∀ (u:Nat) (U:Tok),(H2.trim σ.toks.length).tk[u]?=some U→¬ U.vir→U.blk≠W0.heap.size:=fun u U hu hvU e=>by
   obtain⟨h1,h2⟩:=htrim u U hu;have:=hok2.tnd u σ.toks.length U T2 h2 hT2 hvU hT2nv (by rw [e,blk2'])
   omega
  have hok4:Ok gl' (H2.trim σ.toks.length) (qd2 σ.toks.length σ2) w4:=by
   rw [hw4];exact qOv hokt (by show H2.B≤_;rw [hevI.B,hH1];exact hBl) hl2 hnb
  have hold:∀ (u:Nat) (U:Tok),(H2.trim σ.toks.length).tk[u]?=some U→U.k=0→∃ U0,H.tk[u]?=some U0∧U0.k=0∧U.e=U0.e:=fun u U hu hk=>by
   obtain⟨h1,h2⟩:=htrim u U hu;obtain⟨U0,g1,g2⟩:=hevI.old u U h2 hk;obtain⟨U1,g3,g4⟩:=hevI.tok u U0 g1;rw [h2] at g3;cases g3
   rw [hH1t u h1] at g1;exact⟨U0,g1,g2,(g4.lp g2).2.2.1⟩
  have hok5:Ok gl (H2.trim σ.toks.length) (qd2 σ.toks.length σ2) w4:=hok4.lp hgv.symm fun u U hu hk=>by
   obtain⟨U0,g1,g2,g3⟩:=hold u U hu hk;have:=hother U.e (by rw [g3];exact hfreshT u U0 g1 g2)
   exact⟨this.1.symm,this.2.symm⟩
  have hev5:Ev gl H w (H2.trim σ.toks.length) w4:=by
   refine⟨hevI.B.trans (by rw [hH1]),hevI.base.trans (by rw [hH1]),hevI.aux.trans (by rw [hH1]),hevI.K.trans (by rw [hH1]),?_,?_,?_,?_,fun id b hb=>hevI.ob id b (by rw [hH1];exact hb),fun u U hu=>?_,fun b off hp=>?_,fun b hb hno=>?_,?_,fun b ds hb=>?_,fun u U hu hk=>?_,fun b hb=>(hevI.obn b hb).elim (fun hm=>.inl (by rw [hH1] at hm;exact hm)) (fun e=>.inr (by rw [hH1] at e;exact e))⟩
   ·rw [hw4];exact hevI.os.trans hb1.os
   ·rw [hw4];exact hevI.tape.trans hb1.tape
   ·rw [hw4];exact hevI.output.trans hb1.output
   ·rw [hsz4];exact Nat.le_trans hb1.size hevI.size
   ·have hlt:u < σ.toks.length:=by have:=(List.getElem?_eq_some_iff.1 hu).1;omega
    obtain⟨U',g1,g2⟩:=hevI.tok u U (by rw [hH1t u hlt];exact hu)
    exact⟨U',by simp only [Gh.trim];rw [List.getElem?_take,if_pos hlt];exact g1,g2⟩
   ·have hbne:b≠W0.heap.size:=fun e=>by have:=hp.1;omega
    obtain⟨p1,c1⟩:=(hm0.trans hm1).prot b off hp;obtain⟨p2,c2⟩:=hevI.prot b off p1;have p3:=qiB (m:=σ.toks.length) p2;exact⟨⟨by rw [hsz4];exact p3.1,p3.2⟩,fun s=>(World.cell?_of_block (a:=⟨b,off,s⟩) (hoth b hbne)).trans ((c2 s).trans (c1 s))⟩
   ·exact (hoth b (by omega)).trans ((hevI.block b (by rw [hH1];exact hb) (by rw [hH1];exact hno)).trans (hb1.block b (Nat.lt_of_lt_of_le hb hok.B)))
   ·intro hg;have h1:w.drawn≤W1.drawn:=by rw [hW1];show w.drawn≤W0.drawn;rw [hdr0];exact Nat.le_refl _
    have h2:=hevI.dr (fun b=>by rw [hgv];exact hg b)
    rw [hw4];exact Nat.le_trans h1 h2
   ·have hlt:=qal hb;exact (hoth b (by omega)).trans (hevI.fix b ds ((hb1.block b hlt).trans hb))
   ·obtain⟨U0,g1,g2,_⟩:=hold u U hu hk;exact⟨U0,g1,g2⟩
  have hmk5:Marks (H2.trim σ.toks.length).K (mark++a.defers) w4:=by
   obtain⟨m1,Ds,m2,m3,m4⟩:=hmark;refine⟨?_,Ds,by rw [hev5.K];exact m2,m3,fun D' hD'=>⟨?_,?_⟩⟩
   ·rw [hev5.K];exact Nat.le_trans m1 (by rw [hsz4];refine Nat.le_trans ?_ hevI.size;rw [hW1];simp)
   ·rw [hev5.K];exact (m4 D' hD').1
   ·have hlt:=qal (m4 D' hD').2;refine (hoth D' (by omega)).trans (hevI.fix D' _ ?_)
    rw [hW1];exact ((qaZ W0 _).block D' hlt).trans (m4 D' hD').2
  have hst5:St gl H0 w0 fr (qd2 σ.toks.length σ2) { a with defers:=mark++a.defers } w4:=⟨_,hev.trans hev5,hok5,hfr.mono hev5.mono,hmk5⟩
  have hfin:=hq _ _ hst5;refine⟨qkA s,w4,hend',?_⟩;unfold exOf at hfin;unfold qkA;by_cases h2:s=2
  ·simp only [h2,if_true] at hfin ⊢;exact wpIn_ret hfin
  ·by_cases h3:3≤s
   ·simp only [h2,h3,if_true,if_false] at hfin ⊢;exact wpIn_exit hfin
   ·simp only [h2,h3,if_false] at hfin ⊢;exact hfin
end Go.Pv
