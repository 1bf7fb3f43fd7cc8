/- Part 3 of the proof: pure values for the machine's values, what functions compute over them, and laws of what is computed. Conditions: none beyond each theorem's own premises. -/
import Derived.Test.YtlemepahgalogaaGreatDoorPvGc2
import Derived.RecoverIn
import Derived.Test.YtlemepahgalogaaGreatDoorShelf
import Derived.Lib.AppendIntMem
import Derived.Lib.ItoaLen
import Derived.Lib.ParseIntBTie
import Derived.Shelf.Strings.BuilderK
import Derived.RangeFuncNested
import Derived.Lib.LastIndexByte
noncomputable section
set_option maxHeartbeats 4000000
set_option maxRecDepth 200000
set_option linter.unusedSimpArgs false
set_option linter.unusedVariables false
namespace Go.Pv
open Go Go.Proofs
def qUC:GamT:=ofL []
theorem qRA (gl:Gl):qal Tryz.prog gl (gam qUC):=qaf
def qVM:LpsT:=fun r fr σ=>.fail
def qHJ (r:qR) (n k:Int) (t:qU):Tr PV:=let z1:=qbV [.int .i64 0,.str [],.int .i64 0,.int .i64 0,.str [],.int .i64 0] r (nNat 0);.ite (iLt 0 (xLen r)) (.ite (qay 0) (.ite z1 (.ite (iEq (xInt r (nNat 0) 0) k) (.ite (sEq t []) (.ret (.bool true)) (.ite (qay 0) (.ite z1 (.ret (.bool (sEq (xStr r (nNat 0) 1) t))) .fail) .fail)) (.ret (.bool false))) .fail) .fail) (.ret (.bool false))
section
variable (r:qR) (n k:Int) (t:qU)
theorem qWA:(tcall tbT qUC qVM Tryz.f86 [.ref [.sl r .non,.int .i64 n],.int .i64 k,.str t]).flat=qHJ r n k t:=by kernel_rfl
def qMm:Option PV:=(qHJ r n k t).run
def qsf:Bool:=(qeS (gVal (qMm r n k t)))
def qfv:Bool:=isW (qMm r n k t) (.bool (qsf r n k t))
end
def qGT:List PV→Tr PV|[.ref [.sl r .non,.int .i64 n],.int .i64 k,.str t]=>.ite (qfv r n k t) (.ret (.bool (qsf r n k t))) (.fail)|_=>.fail
theorem qu4 (gl:Gl):SimP Tryz.prog gl 86 fun args=>(qGT args).run:=by
 refine SimP.of_flat (G:=qUC) (L:=qVM) qaj (qRA gl ) qai  Tryz.func86 rfl (by rfl) (by kernel_rfl) (qac (by kernel_rfl)) ?_
 intro args x h;unfold qGT at h
 split at h
 ·exact (congrArg Tr.run (qWA _ _ _ _)).trans (qae h fun h=>by cases h)
 ·cases h
def qAV:GamT:=ofL [(86,.pure qGT)]
theorem qJb (gl:Gl):qal Tryz.prog gl (gam qAV):=(qag (qu4 gl) qaf)
def qHD:LpsT:=fun r fr σ=>.fail
section
variable (r:qR) (n:Int)
def qoZ:Tr PV:=let z1:=xStr r (nNat 0) 1;.ite (qfv (qad r) n 1 []) (.ite (bNot (qsf (qad r) n 1 [])) (.ret (.bool false)) (.ite (qay 0) (.ite (qbV [.int .i64 0,.str [],.int .i64 0,.int .i64 0,.str [],.int .i64 0] r (nNat 0)) (.ite (sEq z1 [98,97,115,101]) (.ret (.bool false)) (.ite (sEq z1 [118,105,101,119]) (.ret (.bool false)) (.ite (sEq z1 [111,110]) (.ret (.bool false)) (.ite (sEq z1 [110,111,116]) (.ret (.bool false)) (.ret (.bool true)))))) .fail) .fail)) .fail
theorem qPl:(tcall tbT qAV qHD Tryz.f148 [.ref [.sl r .non,.int .i64 n]]).flat=qoZ r n:=by kernel_rfl
def qqt:Option PV:=(qoZ r n).run
def qoJ:Bool:=(qeS (gVal (qqt r n)))
def qlE:Bool:=isW (qqt r n) (.bool (qoJ r n))
end
def qsW:List PV→Tr PV|[.ref [.sl r .non,.int .i64 n]]=>.ite (qlE r n) (.ret (.bool (qoJ r n))) (.fail)|_=>.fail
theorem qxT (gl:Gl):SimP Tryz.prog gl 148 fun args=>(qsW args).run:=by
 refine SimP.of_flat (G:=qAV) (L:=qHD) qaj (qJb gl ) qai  Tryz.func148 rfl (by rfl) (by kernel_rfl) (qac (by kernel_rfl)) ?_
 intro args x h;unfold qsW at h
 split at h
 ·exact (congrArg Tr.run (qPl _ _)).trans (qae h fun h=>by cases h)
 ·cases h
def qT0:GamT:=ofL []
theorem qSU (gl:Gl):qal Tryz.prog gl (gam qT0):=qaf
def qV9:LpsT:=fun r fr σ=>.fail
section
variable (r:qR) (n:Int)
def qIr:Tr (PR×Store):=let z1:qR:=[[.sl (qaa (qad r)) .non,.int .i64 n]];.ite (iLt 0 (xLen (qad r))) (.ite (qay 0) (.ite (qbV [.int .i64 0,.str [],.int .i64 0,.int .i64 0,.str [],.int .i64 0] (qad r) (nNat 0)) (.ret (PR.pan (.iface 172 (.agg [.int .i64 (xInt (qad r) (nNat 0) 5)])),Store.mk z1 [] [138])) .fail) .fail) (.ret (PR.pan (.iface 172 (.agg [.int .i64 n])),Store.mk z1 [] [138]))
theorem qWH:(nrmM tbT qT0 qV9 Tryz.f85 [.ptr 0 0] ⟨[[.sl r .non,.int .i64 n]],[],[138]⟩).flat=qIr r n:=by kernel_rfl
def qJv:Option (PR×Store):=(qIr r n).run
def qGn:Int:=oG (qJv r n)
def qFT:qR:=qbd 0 0 (qJv r n)
def qrx:Bool:=isW (qJv r n) ((.pan (.iface 172 (.agg [.int .i64 (qGn r n)]))),⟨[[.sl (qFT r n) .non,.int .i64 n]],[],[138]⟩)
end
def qcD:List PV→Store→Tr (PR×Store)|[.ptr 0 0],⟨[[.sl r .non,.int .i64 n]],[],[138]⟩=>.ite (qrx r n) (.ret ((.pan (.iface 172 (.agg [.int .i64 (qGn r n)]))),⟨[[.sl (qFT r n) .non,.int .i64 n]],[],[138]⟩)) (.fail)|_,_=>.fail
theorem qmW (gl:Gl):SimM Tryz.prog gl 85 fun args σ=>(qcD args σ).run:=by
 refine SimM.of_nrm (G:=qT0) (L:=qV9) qaj (qSU gl ) qai Tryz.func85 rfl (by rfl) (by kernel_rfl) (qac (by kernel_rfl)) ?_
 intro args σ x h;unfold qcD at h
 split at h
 ·exact (congrArg Tr.run (qWH _ _)).trans (qae h fun h=>by cases h)
 ·cases h
def qEC:GamT:=ofL []
theorem qL1 (gl:Gl):qal Tryz.prog gl (gam qEC):=qaf
def qOn:LpsT:=fun r fr σ=>.fail
section
variable (r:qR) (n:Int)
def qBB:Tr (PR×Store):=let z1:=qad r;let z2:=nNat 0;.ite (qay 0) (.ite (qbV [.int .i64 0,.str [],.int .i64 0,.int .i64 0,.str [],.int .i64 0] z1 z2) (.ite (qbc (qay 1) true (nNat 1) (nXs z1) (nXs z1)) (.ite (qao z1 6) (.ret (PR.val (.agg [.int .i64 (xInt z1 z2 0),.str (xStr z1 z2 1),.int .i64 (xInt z1 z2 2),.int .i64 (xInt z1 z2 3),.str (xStr z1 z2 4),.int .i64 (xInt z1 z2 5)]),Store.mk [[.sl (qaa (xSub z1 (nNat 1) (nXs z1))) .non,.int .i64 n]] [] [138])) .fail) .fail) .fail) .fail
theorem qTC:(nrmM tbT qEC qOn Tryz.f136 [.ptr 0 0] ⟨[[.sl r .non,.int .i64 n]],[],[138]⟩).flat=qBB r n:=by kernel_rfl
def qgR:Option (PR×Store):=(qBB r n).run
def qBr:Int:=qa7 0 (qgR r n)
def qnZ:qU:=qbx 1 (qgR r n)
def qpm:Int:=qa7 2 (qgR r n)
def qoK:Int:=qa7 3 (qgR r n)
def qqr:qU:=qbx 4 (qgR r n)
def qsQ:Int:=qa7 5 (qgR r n)
def qin:qR:=qbd 0 0 (qgR r n)
def qdz:Bool:=isW (qgR r n) ((.val (.agg [.int .i64 (qBr r n),.str (qnZ r n),.int .i64 (qpm r n),.int .i64 (qoK r n),.str (qqr r n),.int .i64 (qsQ r n)])),⟨[[.sl (qin r n) .non,.int .i64 n]],[],[138]⟩)
end
def qkH:List PV→Store→Tr (PR×Store)|[.ptr 0 0],⟨[[.sl r .non,.int .i64 n]],[],[138]⟩=>.ite (qdz r n) (.ret ((.val (.agg [.int .i64 (qBr r n),.str (qnZ r n),.int .i64 (qpm r n),.int .i64 (qoK r n),.str (qqr r n),.int .i64 (qsQ r n)])),⟨[[.sl (qin r n) .non,.int .i64 n]],[],[138]⟩)) (.fail)|_,_=>.fail
theorem qhb (gl:Gl):SimM Tryz.prog gl 136 fun args σ=>(qkH args σ).run:=by
 refine SimM.of_nrm (G:=qEC) (L:=qOn) qaj (qL1 gl ) qai Tryz.func136 rfl (by rfl) (by kernel_rfl) (qac (by kernel_rfl)) ?_
 intro args σ x h;unfold qkH at h
 split at h
 ·exact (congrArg Tr.run (qTC _ _)).trans (qae h fun h=>by cases h)
 ·cases h
def qE5:GamT:=ofL [(86,.pure qGT),(136,.may (frameT qkH))]
theorem qKP (gl:Gl):qal Tryz.prog gl (gam qE5):=(qag (qu4 gl) (qah (SimM.frameT (qhb gl)) qaf))
def qNl:LpsT:=fun r fr σ=>.fail
section
variable (k:Int) (t:qU) (r:qR) (n:Int)
def qsK:Tr (PR×Store):=let z1:=qad (qad r);.ite (qfv z1 n k t) (.ite (bNot (qsf z1 n k t)) (.ret (PR.val (.bool false),Store.mk [[.sl (qaa (qad r)) .non,.int .i64 n]] [] [138])) (.ite (qdz z1 n) (.ret (PR.val (.bool true),Store.mk [[.sl (qaa (qaa (qin z1 n))) .non,.int .i64 n]] [] [138])) .fail)) .fail
theorem qT4:(nrmM tbT qE5 qNl Tryz.f106 [.ptr 0 0,.int .i64 k,.str t] ⟨[[.sl r .non,.int .i64 n]],[],[138]⟩).flat=qsK k t r n:=by kernel_rfl
def qnJ:Option (PR×Store):=(qsK k t r n).run
def qbo:Bool:=qVC (qnJ k t r n)
def qbr:qR:=qbd 0 0 (qnJ k t r n)
def qaP:Bool:=isW (qnJ k t r n) ((.val (.bool (qbo k t r n))),⟨[[.sl (qbr k t r n) .non,.int .i64 n]],[],[138]⟩)
end
def qcC:List PV→Store→Tr (PR×Store)|[.ptr 0 0,.int .i64 k,.str t],⟨[[.sl r .non,.int .i64 n]],[],[138]⟩=>.ite (qaP k t r n) (.ret ((.val (.bool (qbo k t r n))),⟨[[.sl (qbr k t r n) .non,.int .i64 n]],[],[138]⟩)) (.fail)|_,_=>.fail
theorem qbB (gl:Gl):SimM Tryz.prog gl 106 fun args σ=>(qcC args σ).run:=by
 refine SimM.of_nrm (G:=qE5) (L:=qNl) qaj (qKP gl ) qai Tryz.func106 rfl (by rfl) (by kernel_rfl) (qac (by kernel_rfl)) ?_
 intro args σ x h;unfold qcC at h
 split at h
 ·exact (congrArg Tr.run (qT4 _ _ _ _)).trans (qae h fun h=>by cases h)
 ·cases h
def qEQ:GamT:=ofL [(85,.may (frameT qcD)),(86,.pure qGT),(136,.may (frameT qkH))]
theorem qLw (gl:Gl):qal Tryz.prog gl (gam qEQ):=(qah (SimM.frameT (qmW gl)) (qag (qu4 gl) (qah (SimM.frameT (qhb gl)) qaf)))
def qMl:LpsT:=fun r fr σ=>.fail
section
variable (k:Int) (t:qU) (r:qR) (n:Int)
def qsI:Tr (PR×Store):=let z1:=qad (qad r);.ite (qfv z1 n k t) (.ite (bNot (qsf z1 n k t)) (.ite (qrx z1 n) (.ret (PR.pan (.iface 172 (.agg [.int .i64 (qGn z1 n)])),Store.mk [[.sl (qaa (qaa (qFT z1 n))) .non,.int .i64 n]] [] [138])) .fail) (.ite (qdz z1 n) (.ret (PR.val (.agg [.int .i64 (qBr z1 n),.str (qnZ z1 n),.int .i64 (qpm z1 n),.int .i64 (qoK z1 n),.str (qqr z1 n),.int .i64 (qsQ z1 n)]),Store.mk [[.sl (qaa (qaa (qin z1 n))) .non,.int .i64 n]] [] [138])) .fail)) .fail
theorem qRI:(nrmM tbT qEQ qMl Tryz.f150 [.ptr 0 0,.int .i64 k,.str t] ⟨[[.sl r .non,.int .i64 n]],[],[138]⟩).flat=qsI k t r n:=by kernel_rfl
def qdn:Option (PR×Store):=(qsI k t r n).run
def qhN:Int:=oG (qdn k t r n)
def qhC:qR:=qbd 0 0 (qdn k t r n)
def qj9:Bool:=isW (qdn k t r n) ((.pan (.iface 172 (.agg [.int .i64 (qhN k t r n)]))),⟨[[.sl (qhC k t r n) .non,.int .i64 n]],[],[138]⟩)
def qvF:Int:=qa7 0 (qdn k t r n)
def qpb:qU:=qbx 1 (qdn k t r n)
def qrU:Int:=qa7 2 (qdn k t r n)
def qq0:Int:=qa7 3 (qdn k t r n)
def qrD:qU:=qbx 4 (qdn k t r n)
def qrg:Int:=qa7 5 (qdn k t r n)
def qig:qR:=qbd 0 0 (qdn k t r n)
def qkA:Bool:=isW (qdn k t r n) ((.val (.agg [.int .i64 (qvF k t r n),.str (qpb k t r n),.int .i64 (qrU k t r n),.int .i64 (qq0 k t r n),.str (qrD k t r n),.int .i64 (qrg k t r n)])),⟨[[.sl (qig k t r n) .non,.int .i64 n]],[],[138]⟩)
end
def quV:List PV→Store→Tr (PR×Store)|[.ptr 0 0,.int .i64 k,.str t],⟨[[.sl r .non,.int .i64 n]],[],[138]⟩=>.ite (qj9 k t r n) (.ret ((.pan (.iface 172 (.agg [.int .i64 (qhN k t r n)]))),⟨[[.sl (qhC k t r n) .non,.int .i64 n]],[],[138]⟩)) (.ite (qkA k t r n) (.ret ((.val (.agg [.int .i64 (qvF k t r n),.str (qpb k t r n),.int .i64 (qrU k t r n),.int .i64 (qq0 k t r n),.str (qrD k t r n),.int .i64 (qrg k t r n)])),⟨[[.sl (qig k t r n) .non,.int .i64 n]],[],[138]⟩)) (.fail))|_,_=>.fail
theorem qwz (gl:Gl):SimM Tryz.prog gl 150 fun args σ=>(quV args σ).run:=by
 refine SimM.of_nrm (G:=qEQ) (L:=qMl) qaj (qLw gl ) qai Tryz.func150 rfl (by rfl) (by kernel_rfl) (qac (by kernel_rfl)) ?_
 intro args σ x h;unfold quV at h
 split at h
 ·exact (congrArg Tr.run (qRI _ _ _ _)).trans (qae h fun h=>qae h fun h=>by cases h)
 ·cases h
def qFG:GamT:=ofL [(150,.may (frameT quV))]
theorem qLx (gl:Gl):qal Tryz.prog gl (gam qFG):=(qah (SimM.frameT (qwz gl)) qaf)
def qLn:LpsT:=fun r fr σ=>.fail
section
variable (t:qU) (r:qR) (n:Int)
def qzC:Tr (PR×Store):=let z1:=qad (qad r);.ite (qj9 6 t z1 n) (.ret (PR.pan (.iface 172 (.agg [.int .i64 (qhN 6 t z1 n)])),Store.mk [[.sl (qaa (qaa (qhC 6 t z1 n))) .non,.int .i64 n]] [] [138])) (.ite (qkA 6 t z1 n) (.ret (PR.val (.tup []),Store.mk [[.sl (qaa (qaa (qig 6 t z1 n))) .non,.int .i64 n]] [] [138])) .fail)
theorem qS9:(nrmM tbT qFG qLn Tryz.f109 [.ptr 0 0,.str t] ⟨[[.sl r .non,.int .i64 n]],[],[138]⟩).flat=qzC t r n:=by kernel_rfl
def qnW:Option (PR×Store):=(qzC t r n).run
def qbq:Int:=oG (qnW t r n)
def qbp:qR:=qbd 0 0 (qnW t r n)
def qbz:Bool:=isW (qnW t r n) ((.pan (.iface 172 (.agg [.int .i64 (qbq t r n)]))),⟨[[.sl (qbp t r n) .non,.int .i64 n]],[],[138]⟩)
def qbu:qR:=qbd 0 0 (qnW t r n)
def qbA:Bool:=isW (qnW t r n) ((.val (.tup [])),⟨[[.sl (qbu t r n) .non,.int .i64 n]],[],[138]⟩)
end
def qjp:List PV→Store→Tr (PR×Store)|[.ptr 0 0,.str t],⟨[[.sl r .non,.int .i64 n]],[],[138]⟩=>.ite (qbz t r n) (.ret ((.pan (.iface 172 (.agg [.int .i64 (qbq t r n)]))),⟨[[.sl (qbp t r n) .non,.int .i64 n]],[],[138]⟩)) (.ite (qbA t r n) (.ret ((.val (.tup [])),⟨[[.sl (qbu t r n) .non,.int .i64 n]],[],[138]⟩)) (.fail))|_,_=>.fail
theorem qfo (gl:Gl):SimM Tryz.prog gl 109 fun args σ=>(qjp args σ).run:=by
 refine SimM.of_nrm (G:=qFG) (L:=qLn) qaj (qLx gl ) qai Tryz.func109 rfl (by rfl) (by kernel_rfl) (qac (by kernel_rfl)) ?_
 intro args σ x h;unfold qjp at h
 split at h
 ·exact (congrArg Tr.run (qS9 _ _ _)).trans (qae h fun h=>qae h fun h=>by cases h)
 ·cases h
def qF5:GamT:=ofL [(85,.may (frameT qcD)),(136,.may (frameT qkH)),(148,.pure qsW)]
theorem qNP (gl:Gl):qal Tryz.prog gl (gam qF5):=(qah (SimM.frameT (qmW gl)) (qah (SimM.frameT (qhb gl)) (qag (qxT gl) qaf)))
def qM7:LpsT:=fun r fr σ=>.fail
section
variable (r:qR) (n:Int)
def qua:Tr (PR×Store):=let z1:=qad (qad r);.ite (qlE z1 n) (.ite (bNot (qoJ z1 n)) (.ite (qrx z1 n) (.ret (PR.pan (.iface 172 (.agg [.int .i64 (qGn z1 n)])),Store.mk [[.sl (qaa (qaa (qFT z1 n))) .non,.int .i64 n]] [] [138])) .fail) (.ite (qdz z1 n) (.ret (PR.val (.str (qnZ z1 n)),Store.mk [[.sl (qaa (qaa (qin z1 n))) .non,.int .i64 n]] [] [138])) .fail)) .fail
theorem qUA:(nrmM tbT qF5 qM7 Tryz.f111 [.ptr 0 0] ⟨[[.sl r .non,.int .i64 n]],[],[138]⟩).flat=qua r n:=by kernel_rfl
def qi2:Option (PR×Store):=(qua r n).run
def qhi:Int:=oG (qi2 r n)
def qh0:qR:=qbd 0 0 (qi2 r n)
def qj0:Bool:=isW (qi2 r n) ((.pan (.iface 172 (.agg [.int .i64 (qhi r n)]))),⟨[[.sl (qh0 r n) .non,.int .i64 n]],[],[138]⟩)
def qfX:qU:=qQi (qi2 r n)
def qhM:qR:=qbd 0 0 (qi2 r n)
def qj7:Bool:=isW (qi2 r n) ((.val (.str (qfX r n))),⟨[[.sl (qhM r n) .non,.int .i64 n]],[],[138]⟩)
end
def qxg:List PV→Store→Tr (PR×Store)|[.ptr 0 0],⟨[[.sl r .non,.int .i64 n]],[],[138]⟩=>.ite (qj0 r n) (.ret ((.pan (.iface 172 (.agg [.int .i64 (qhi r n)]))),⟨[[.sl (qh0 r n) .non,.int .i64 n]],[],[138]⟩)) (.ite (qj7 r n) (.ret ((.val (.str (qfX r n))),⟨[[.sl (qhM r n) .non,.int .i64 n]],[],[138]⟩)) (.fail))|_,_=>.fail
theorem qvp (gl:Gl):SimM Tryz.prog gl 111 fun args σ=>(qxg args σ).run:=by
 refine SimM.of_nrm (G:=qF5) (L:=qM7) qaj (qNP gl ) qai Tryz.func111 rfl (by rfl) (by kernel_rfl) (qac (by kernel_rfl)) ?_
 intro args σ x h;unfold qxg at h
 split at h
 ·exact (congrArg Tr.run (qUA _ _)).trans (qae h fun h=>qae h fun h=>by cases h)
 ·cases h
def qL0:GamT:=ofL [(85,.may (frameT qcD)),(106,.may (frameT qcC))]
theorem qPa (gl:Gl):qal Tryz.prog gl (gam qL0):=(qah (SimM.frameT (qmW gl)) (qah (SimM.frameT (qbB gl)) qaf))
def qQ0:LpsT:=fun r fr σ=>.fail
section
variable (r:qR) (n:Int)
def qv1:Tr (PR×Store):=let z1:=qad (qad r);let z2:=qaa (qbr 1 [105,110,116] z1 n);let z3:=qaa (qbr 1 [115,121,109] (qad z2) n);.ite (qaP 1 [105,110,116] z1 n) (.ite (qbo 1 [105,110,116] z1 n) (.ret (PR.val (.int .i64 1),Store.mk [[.sl (qaa z2) .non,.int .i64 n]] [] [138])) (.ite (qaP 1 [115,121,109] (qad z2) n) (.ite (qbo 1 [115,121,109] (qad z2) n) (.ret (PR.val (.int .i64 2),Store.mk [[.sl (qaa z3) .non,.int .i64 n]] [] [138])) (.ite (qrx (qad z3) n) (.ret (PR.pan (.iface 172 (.agg [.int .i64 (qGn (qad z3) n)])),Store.mk [[.sl (qaa (qaa (qFT (qad z3) n))) .non,.int .i64 n]] [] [138])) .fail)) .fail)) .fail
theorem qV3:(nrmM tbT qL0 qQ0 Tryz.f138 [.ptr 0 0] ⟨[[.sl r .non,.int .i64 n]],[],[138]⟩).flat=qv1 r n:=by kernel_rfl
def qmG:Option (PR×Store):=(qv1 r n).run
def qjb:Int:=qN4 (qmG r n)
def qiD:qR:=qbd 0 0 (qmG r n)
def qlY:Bool:=isW (qmG r n) ((.val (.int .i64 (qjb r n))),⟨[[.sl (qiD r n) .non,.int .i64 n]],[],[138]⟩)
def qiw:Int:=oG (qmG r n)
def qji:qR:=qbd 0 0 (qmG r n)
def qle:Bool:=isW (qmG r n) ((.pan (.iface 172 (.agg [.int .i64 (qiw r n)]))),⟨[[.sl (qji r n) .non,.int .i64 n]],[],[138]⟩)
end
def qyA:List PV→Store→Tr (PR×Store)|[.ptr 0 0],⟨[[.sl r .non,.int .i64 n]],[],[138]⟩=>.ite (qlY r n) (.ret ((.val (.int .i64 (qjb r n))),⟨[[.sl (qiD r n) .non,.int .i64 n]],[],[138]⟩)) (.ite (qle r n) (.ret ((.pan (.iface 172 (.agg [.int .i64 (qiw r n)]))),⟨[[.sl (qji r n) .non,.int .i64 n]],[],[138]⟩)) (.fail))|_,_=>.fail
theorem qtL (gl:Gl):SimM Tryz.prog gl 138 fun args σ=>(qyA args σ).run:=by
 refine SimM.of_nrm (G:=qL0) (L:=qQ0) qaj (qPa gl ) qai Tryz.func138 rfl (by rfl) (by kernel_rfl) (qac (by kernel_rfl)) ?_
 intro args σ x h;unfold qyA at h
 split at h
 ·exact (congrArg Tr.run (qV3 _ _)).trans (qae h fun h=>qae h fun h=>by cases h)
 ·cases h
def qGj:GamT:=ofL [(86,.pure qGT),(136,.may (frameT qkH)),(150,.may (frameT quV))]
theorem qKB (gl:Gl):qal Tryz.prog gl (gam qGj):=(qag (qu4 gl) (qah (SimM.frameT (qhb gl)) (qah (SimM.frameT (qwz gl)) qaf)))
def qMn:LpsT:=fun r fr σ=>.fail
section
variable (r:qR) (n:Int)
def qjG:Tr (PR×Store):=let z1:=qad (qad r);let z2:qR:=[[.sl (qaa (qaa (qin z1 n))) .non,.int .i64 n]];let z3:Tr (PR×Store):=.ite (qdz z1 n) (.ret (PR.val (.agg [.int .i64 2,.str [],.int .i64 (qpm z1 n),.int .i64 (qoK z1 n),.str (qqr z1 n)]),Store.mk z2 [] [138])) .fail;.ite (qfv z1 n 2 []) (.ite (qsf z1 n 2 []) (.ite (qdz z1 n) (.ret (PR.val (.agg [.int .i64 1,.str (qnZ z1 n),.int .i64 0,.int .i64 0,.str []]),Store.mk z2 [] [138])) .fail) (.ite (qfv z1 n 4 []) (.ite (qsf z1 n 4 []) z3 (.ite (qfv z1 n 5 []) (.ite (qsf z1 n 5 []) z3 (.ite (qj9 3 [] z1 n) (.ret (PR.pan (.iface 172 (.agg [.int .i64 (qhN 3 [] z1 n)])),Store.mk [[.sl (qaa (qaa (qhC 3 [] z1 n))) .non,.int .i64 n]] [] [138])) (.ite (qkA 3 [] z1 n) (.ret (PR.val (.agg [.int .i64 3,.str [],.int .i64 0,.int .i64 0,.str []]),Store.mk [[.sl (qaa (qaa (qig 3 [] z1 n))) .non,.int .i64 n]] [] [138])) .fail))) .fail)) .fail)) .fail
theorem qTJ:(nrmM tbT qGj qMn Tryz.f113 [.ptr 0 0] ⟨[[.sl r .non,.int .i64 n]],[],[138]⟩).flat=qjG r n:=by kernel_rfl
def qcG:Option (PR×Store):=(qjG r n).run
def qdA:Int:=qa7 0 (qcG r n)
def qdr:qU:=qbx 1 (qcG r n)
def qcw:Int:=qa7 2 (qcG r n)
def qcn:Int:=qa7 3 (qcG r n)
def qcp:qU:=qbx 4 (qcG r n)
def qeo:qR:=qbd 0 0 (qcG r n)
def qf7:Bool:=isW (qcG r n) ((.val (.agg [.int .i64 (qdA r n),.str (qdr r n),.int .i64 (qcw r n),.int .i64 (qcn r n),.str (qcp r n)])),⟨[[.sl (qeo r n) .non,.int .i64 n]],[],[138]⟩)
def qej:Int:=oG (qcG r n)
def qes:qR:=qbd 0 0 (qcG r n)
def qfI:Bool:=isW (qcG r n) ((.pan (.iface 172 (.agg [.int .i64 (qej r n)]))),⟨[[.sl (qes r n) .non,.int .i64 n]],[],[138]⟩)
end
def qqT:List PV→Store→Tr (PR×Store)|[.ptr 0 0],⟨[[.sl r .non,.int .i64 n]],[],[138]⟩=>.ite (qf7 r n) (.ret ((.val (.agg [.int .i64 (qdA r n),.str (qdr r n),.int .i64 (qcw r n),.int .i64 (qcn r n),.str (qcp r n)])),⟨[[.sl (qeo r n) .non,.int .i64 n]],[],[138]⟩)) (.ite (qfI r n) (.ret ((.pan (.iface 172 (.agg [.int .i64 (qej r n)]))),⟨[[.sl (qes r n) .non,.int .i64 n]],[],[138]⟩)) (.fail))|_,_=>.fail
theorem qoc (gl:Gl):SimM Tryz.prog gl 113 fun args σ=>(qqT args σ).run:=by
 refine SimM.of_nrm (G:=qGj) (L:=qMn) qaj (qKB gl ) qai Tryz.func113 rfl (by rfl) (by kernel_rfl) (qac (by kernel_rfl)) ?_
 intro args σ x h;unfold qqT at h
 split at h
 ·exact (congrArg Tr.run (qTJ _ _)).trans (qae h fun h=>qae h fun h=>by cases h)
 ·cases h
def qKK:GamT:=ofL [(85,.may (frameT qcD)),(106,.may (frameT qcC))]
theorem qMe (gl:Gl):qal Tryz.prog gl (gam qKK):=(qah (SimM.frameT (qmW gl)) (qah (SimM.frameT (qbB gl)) qaf))
def qHw:Code:=qfZ Tryz.f149 2
def qIs:LI:=⟨20,[0,5,6,7],fun e=>match e with|.ret=>[2]|.exit 0=>[0]|_=>[],false⟩
def qFl:LpsT:=fun r fr σ=>.fail
def qwS (vs:List PV) (σ:Store):Option (PExit×List PV×Store):=lval (lstep tbT qKK qFl qHw qIs) vs σ
section
variable (r:qR) (n n2:Int) (r2:qR) (n3:Int)
def qvW:Tr LR:=let z1:=xStr r (nNat n2) 0;let z2:Store:=Store.mk [[.sl (qaa (qbr 6 z1 (qad r2) n3)) .non,.int .i64 n3]] [] [138];.ite (iLt n2 n) (.ite (qay n2) (.ite (qbV [.str []] r (nNat n2)) (.ite (qaP 6 z1 (qad r2) n3) (.ite (qbo 6 z1 (qad r2) n3) (.ret (.out .ret [.int .i64 (iAdd .i64 n2 1)] z2)) (.ret (.next [.ptr 0 0,.sl r .full,.int .i64 n,.int .i64 (iAdd .i64 n2 1)] z2))) .fail) .fail) .fail) (.ret (.out (.exit 0) [.ptr 0 0] (Store.mk [[.sl r2 .non,.int .i64 n3]] [] [138])))
theorem qVQ:lstep tbT qKK qFl qHw qIs [.ptr 0 0,.sl r .full,.int .i64 n,.int .i64 n2] ⟨[[.sl r2 .non,.int .i64 n3]],[],[138]⟩=qvW r n n2 r2 n3:=by kernel_rfl
theorem qMv:qwS [.ptr 0 0,.sl r .full,.int .i64 n,.int .i64 n2] ⟨[[.sl r2 .non,.int .i64 n3]],[],[138]⟩=lnext qwS (qvW r n n2 r2 n3).run:=by unfold qwS;rw [qaQ,qVQ]
def qwi:Option (PExit×List PV×Store):=qwS [.ptr 0 0,.sl r .full,.int .i64 n,.int .i64 n2] ⟨[[.sl r2 .non,.int .i64 n3]],[],[138]⟩
def quz:Int:=qjR 0 (qwi r n n2 r2 n3)
def qtN:qR:=qa8 0 0 (qwi r n n2 r2 n3)
def qzN:Bool:=isW (qwi r n n2 r2 n3) (.ret,[.int .i64 (quz r n n2 r2 n3)],⟨[[.sl (qtN r n n2 r2 n3) .non,.int .i64 n3]],[],[138]⟩)
def qsD:qR:=qa8 0 0 (qwi r n n2 r2 n3)
def qCH:Bool:=isW (qwi r n n2 r2 n3) ((.exit 0),[.ptr 0 0],⟨[[.sl (qsD r n n2 r2 n3) .non,.int .i64 n3]],[],[138]⟩)
end
def qox:List PV→Store→Tr (PExit×List PV×Store)|[.ptr 0 0,.sl r .full,.int .i64 n,.int .i64 n2],⟨[[.sl r2 .non,.int .i64 n3]],[],[138]⟩=>.ite (qzN r n n2 r2 n3) (.ret (.ret,[.int .i64 (quz r n n2 r2 n3)],⟨[[.sl (qtN r n n2 r2 n3) .non,.int .i64 n3]],[],[138]⟩)) (.ite (qCH r n n2 r2 n3) (.ret ((.exit 0),[.ptr 0 0],⟨[[.sl (qsD r n n2 r2 n3) .non,.int .i64 n3]],[],[138]⟩)) (.fail))|_,_=>.fail
theorem qRX:∀ vs σ r,(qox vs σ).run=some r→qwS vs σ=some r:=by
 intro vs σ r h;unfold qox at h
 split at h
 ·exact qae h fun h=>qae h fun h=>by cases h
 ·cases h
theorem qLs (gl:Gl):∀ fr σ e fr' σ',(orc qIs qox fr σ).run=some (e,fr',σ')→LDoes Tryz.prog gl qHw fr σ e fr' σ':=qcB qaj (qMe gl ) qai (L:=qFl) (qac (by kernel_rfl)) (by kernel_rfl) qRX
def qUQ:LpsT:=fun r fr σ=>bif Nat.beq r 2 then orc qIs qox fr σ else .fail
section
variable (r:qR) (n:Int)
def qHj:Tr (PR×Store):=let z1:qR:=[[.str [61]],[.str [33,61]],[.str [60]],[.str [60,61]],[.str [62]],[.str [62,61]]];let z2:=xLen z1;let z3:=qad r;let z4:=qad (qsD z1 z2 0 z3 n);.ite (qzN z1 z2 0 z3 n) (.ret (PR.val (.int .i64 (quz z1 z2 0 z3 n)),Store.mk [[.sl (qaa (qtN z1 z2 0 z3 n)) .non,.int .i64 n]] [] [138])) (.ite (qCH z1 z2 0 z3 n) (.ite (qrx z4 n) (.ret (PR.pan (.iface 172 (.agg [.int .i64 (qGn z4 n)])),Store.mk [[.sl (qaa (qaa (qFT z4 n))) .non,.int .i64 n]] [] [138])) .fail) .fail)
theorem qWz:(nrmM tbT qKK qUQ Tryz.f149 [.ptr 0 0] ⟨[[.sl r .non,.int .i64 n]],[],[138]⟩).flat=qHj r n:=by kernel_rfl
def qxJ:Option (PR×Store):=(qHj r n).run
def qAO:Int:=qN4 (qxJ r n)
def qAu:qR:=qbd 0 0 (qxJ r n)
def qE6:Bool:=isW (qxJ r n) ((.val (.int .i64 (qAO r n))),⟨[[.sl (qAu r n) .non,.int .i64 n]],[],[138]⟩)
def qBe:Int:=oG (qxJ r n)
def qzh:qR:=qbd 0 0 (qxJ r n)
def qGk:Bool:=isW (qxJ r n) ((.pan (.iface 172 (.agg [.int .i64 (qBe r n)]))),⟨[[.sl (qzh r n) .non,.int .i64 n]],[],[138]⟩)
end
def qUL:List PV→Store→Tr (PR×Store)|[.ptr 0 0],⟨[[.sl r .non,.int .i64 n]],[],[138]⟩=>.ite (qE6 r n) (.ret ((.val (.int .i64 (qAO r n))),⟨[[.sl (qAu r n) .non,.int .i64 n]],[],[138]⟩)) (.ite (qGk r n) (.ret ((.pan (.iface 172 (.agg [.int .i64 (qBe r n)]))),⟨[[.sl (qzh r n) .non,.int .i64 n]],[],[138]⟩)) (.fail))|_,_=>.fail
theorem qR1 (gl:Gl):SimM Tryz.prog gl 149 fun args σ=>(qUL args σ).run:=by
 refine SimM.of_nrm (G:=qKK) (L:=qUQ) qaj (qMe gl ) qai Tryz.func149 rfl (by rfl) (by kernel_rfl) (qaD (L:=lps qUQ) [(2,qHw)] (by kernel_rfl) (List.forall_mem_cons.2 ⟨fun fr σ e fr' σ' h=>qLs gl  fr σ e fr' σ' h,(List.forall_mem_nil _)⟩)) ?_
 intro args σ x h;unfold qUL at h
 split at h
 ·exact (congrArg Tr.run (qWz _ _)).trans (qae h fun h=>qae h fun h=>by cases h)
 ·cases h
def qJ0:GamT:=ofL [(106,.may (frameT qcC)),(113,.may (frameT qqT)),(qdx,.flag)]
theorem qKe (gl:Gl):qal Tryz.prog gl (gam qJ0):=(qah (SimM.frameT (qbB gl)) (qah (SimM.frameT (qoc gl)) (qbt qaf)))
def qDW:Code:=qfZ Tryz.f151 2
def qEh:LI:=⟨17,[0,1,5],fun e=>match e with|.exit 0=>[5]|_=>[],false⟩
def qCu:LpsT:=fun r fr σ=>.fail
def qjO (vs:List PV) (σ:Store):Option (PExit×List PV×Store):=lval (lstep tbT qJ0 qCu qDW qEh) vs σ
section
variable (l r:qR) (n:Int)
def qvg:Tr LR:=let z1:=qaa (qbr 6 [44] (qad r) n);let z2:=qad z1;let z3:qR:=[[.int .i64 (qdA z2 n),.str (qdr z2 n),.int .i64 (qcw z2 n),.int .i64 (qcn z2 n),.str (qcp z2 n)]];.ite (qaP 6 [44] (qad r) n) (.ite (qbo 6 [44] (qad r) n) (.ite (qf7 z2 n) (.ite (qav l z3 56) (.ite (qaq z3 5) (.ite (qao l 5) (.ret (.next [.ptr 0 0,.mth 113 [.ptr 0 0],.sl (xApp l z3) (.tok 0)] (Store.mk [[.sl (qaa (qeo z2 n)) .non,.int .i64 n]] [(nXs (xApp l z3),5,94)] [138]))) .fail) .fail) .fail) (.ite (qfI z2 n) (.ret (.out (.pan (.iface 172 (.agg [.int .i64 (qej z2 n)]))) [] (Store.mk [[.sl (qaa (qes z2 n)) .non,.int .i64 n]] [] [138]))) .fail)) (.ret (.out (.exit 0) [.sl l .full] (Store.mk [[.sl z1 .non,.int .i64 n]] [] [138])))) .fail
theorem qVp:lstep tbT qJ0 qCu qDW qEh [.ptr 0 0,.mth 113 [.ptr 0 0],.sl l .full] ⟨[[.sl r .non,.int .i64 n]],[],[138]⟩=qvg l r n:=by kernel_rfl
theorem qVj:qjO [.ptr 0 0,.mth 113 [.ptr 0 0],.sl l .full] ⟨[[.sl r .non,.int .i64 n]],[],[138]⟩=lnext qjO (qvg l r n).run:=by unfold qjO;rw [qaQ,qVp]
end
section
variable (l r:qR) (n:Int) (k:Nat)
def qpu:Tr LR:=let z1:=qaa (qbr 6 [44] (qad r) n);let z2:=qad z1;let z3:qR:=[[.int .i64 (qdA z2 n),.str (qdr z2 n),.int .i64 (qcw z2 n),.int .i64 (qcn z2 n),.str (qcp z2 n)]];.ite (qaP 6 [44] (qad r) n) (.ite (qbo 6 [44] (qad r) n) (.ite (qf7 z2 n) (.ite (qav l z3 56) (.ite (qaq z3 5) (.ite (qao l 5) (.ite (nEq k (nXs l)) (.ret (.next [.ptr 0 0,.mth 113 [.ptr 0 0],.sl (xApp l z3) (.tok 0)] (Store.mk [[.sl (qaa (qeo z2 n)) .non,.int .i64 n]] [(nXs (xApp l z3),5,94)] [138]))) .fail) .fail) .fail) .fail) (.ite (qfI z2 n) (.ret (.out (.pan (.iface 172 (.agg [.int .i64 (qej z2 n)]))) [] (Store.mk [[.sl (qaa (qes z2 n)) .non,.int .i64 n]] [(k,5,94)] [138]))) .fail)) (.ret (.out (.exit 0) [.sl l (.tok 0)] (Store.mk [[.sl z1 .non,.int .i64 n]] [(k,5,94)] [138])))) .fail
theorem qRW:lstep tbT qJ0 qCu qDW qEh [.ptr 0 0,.mth 113 [.ptr 0 0],.sl l (.tok 0)] ⟨[[.sl r .non,.int .i64 n]],[(k,5,94)],[138]⟩=qpu l r n k:=by kernel_rfl
theorem qTe:qjO [.ptr 0 0,.mth 113 [.ptr 0 0],.sl l (.tok 0)] ⟨[[.sl r .non,.int .i64 n]],[(k,5,94)],[138]⟩=lnext qjO (qpu l r n k).run:=by unfold qjO;rw [qaQ,qRW]
end
section
variable (l r:qR) (n:Int)
def qeJ:Option (PExit×List PV×Store):=qjO [.ptr 0 0,.mth 113 [.ptr 0 0],.sl l .full] ⟨[[.sl r .non,.int .i64 n]],[],[138]⟩
def qtF:Int:=(gInt (gAt (gCs (gAt (gCs (gPan (qeJ l r n))) 0)) 0))
def quE:qR:=qa8 0 0 (qeJ l r n)
def qBx:Bool:=isW (qeJ l r n) ((.pan (.iface 172 (.agg [.int .i64 (qtF l r n)]))),[],⟨[[.sl (quE l r n) .non,.int .i64 n]],[],[138]⟩)
def qsm:qR:=qmV 0 (qeJ l r n)
def qtp:qR:=qa8 0 0 (qeJ l r n)
def qz7:Bool:=isW (qeJ l r n) ((.exit 0),[.sl (qsm l r n) .full],⟨[[.sl (qtp l r n) .non,.int .i64 n]],[],[138]⟩)
def qt8:Int:=(gInt (gAt (gCs (gAt (gCs (gPan (qeJ l r n))) 0)) 0))
def qsn:qR:=qa8 0 0 (qeJ l r n)
def qBn:Nat:=(gTok (qeJ l r n) 0)
def qAS:Bool:=isW (qeJ l r n) ((.pan (.iface 172 (.agg [.int .i64 (qt8 l r n)]))),[],⟨[[.sl (qsn l r n) .non,.int .i64 n]],[((qBn l r n),5,94)],[138]⟩)
def qsw:qR:=qmV 0 (qeJ l r n)
def que:qR:=qa8 0 0 (qeJ l r n)
def qAC:Nat:=(gTok (qeJ l r n) 0)
def qze:Bool:=isW (qeJ l r n) ((.exit 0),[.sl (qsw l r n) (.tok 0)],⟨[[.sl (que l r n) .non,.int .i64 n]],[((qAC l r n),5,94)],[138]⟩)
end
def qpn:List PV→Store→Tr (PExit×List PV×Store)|[.ptr 0 0,.mth 113 [.ptr 0 0],.sl l .full],⟨[[.sl r .non,.int .i64 n]],[],[138]⟩=>.ite (qBx l r n) (.ret ((.pan (.iface 172 (.agg [.int .i64 (qtF l r n)]))),[],⟨[[.sl (quE l r n) .non,.int .i64 n]],[],[138]⟩)) (.ite (qz7 l r n) (.ret ((.exit 0),[.sl (qsm l r n) .full],⟨[[.sl (qtp l r n) .non,.int .i64 n]],[],[138]⟩)) (.ite (qAS l r n) (.ret ((.pan (.iface 172 (.agg [.int .i64 (qt8 l r n)]))),[],⟨[[.sl (qsn l r n) .non,.int .i64 n]],[((qBn l r n),5,94)],[138]⟩)) (.ite (qze l r n) (.ret ((.exit 0),[.sl (qsw l r n) (.tok 0)],⟨[[.sl (que l r n) .non,.int .i64 n]],[((qAC l r n),5,94)],[138]⟩)) (.fail))))|_,_=>.fail
theorem qTX:∀ vs σ r,(qpn vs σ).run=some r→qjO vs σ=some r:=by
 intro vs σ r h;unfold qpn at h
 split at h
 ·exact qae h fun h=>qae h fun h=>qae h fun h=>qae h fun h=>by cases h
 ·cases h
theorem qMY (gl:Gl):∀ fr σ e fr' σ',(orc qEh qpn fr σ).run=some (e,fr',σ')→LDoes Tryz.prog gl qDW fr σ e fr' σ':=qcB qaj (qKe gl ) qai (L:=qCu) (qac (by kernel_rfl)) (by kernel_rfl) qTX
def qTm:LpsT:=fun r fr σ=>bif Nat.beq r 2 then orc qEh qpn fr σ else .fail
section
variable (r:qR) (n:Int)
def qDO:Tr (PR×Store):=let z1:=qad (qad r);let z2:qR:=[[.int .i64 (qdA z1 n),.str (qdr z1 n),.int .i64 (qcw z1 n),.int .i64 (qcn z1 n),.str (qcp z1 n)]];let z3:=qaa (qeo z1 n);.ite (qf7 z1 n) (.ite (qBx z2 z3 n) (.ret (PR.pan (.iface 172 (.agg [.int .i64 (qtF z2 z3 n)])),Store.mk [[.sl (qaa (quE z2 z3 n)) .non,.int .i64 n]] [] [138])) (.ite (qz7 z2 z3 n) (.ret (PR.val (.sl (qaa (qsm z2 z3 n)) .non),Store.mk [[.sl (qaa (qtp z2 z3 n)) .non,.int .i64 n]] [] [138])) (.ite (qAS z2 z3 n) (.ret (PR.pan (.iface 172 (.agg [.int .i64 (qt8 z2 z3 n)])),Store.mk [[.sl (qaa (qsn z2 z3 n)) .non,.int .i64 n]] [] [138])) (.ite (qze z2 z3 n) (.ret (PR.val (.sl (qaa (qsw z2 z3 n)) .non),Store.mk [[.sl (qaa (que z2 z3 n)) .non,.int .i64 n]] [] [138])) .fail)))) (.ite (qfI z1 n) (.ret (PR.pan (.iface 172 (.agg [.int .i64 (qej z1 n)])),Store.mk [[.sl (qaa (qaa (qes z1 n))) .non,.int .i64 n]] [] [138])) .fail)
theorem qWt:(nrmM tbT qJ0 qTm Tryz.f151 [.ptr 0 0,.mth 113 [.ptr 0 0]] ⟨[[.sl r .non,.int .i64 n]],[],[138]⟩).flat=qDO r n:=by kernel_rfl
def qxD:Option (PR×Store):=(qDO r n).run
def qAw:Int:=oG (qxD r n)
def qAA:qR:=qbd 0 0 (qxD r n)
def qE4:Bool:=isW (qxD r n) ((.pan (.iface 172 (.agg [.int .i64 (qAw r n)]))),⟨[[.sl (qAA r n) .non,.int .i64 n]],[],[138]⟩)
def qB4:qR:=qCT (qxD r n)
def qui:qR:=qbd 0 0 (qxD r n)
def qGP:Bool:=isW (qxD r n) ((.val (.sl (qB4 r n) .non)),⟨[[.sl (qui r n) .non,.int .i64 n]],[],[138]⟩)
end
def qRr:List PV→Store→Tr (PR×Store)|[.ptr 0 0,.mth 113 [.ptr 0 0]],⟨[[.sl r .non,.int .i64 n]],[],[138]⟩=>.ite (qE4 r n) (.ret ((.pan (.iface 172 (.agg [.int .i64 (qAw r n)]))),⟨[[.sl (qAA r n) .non,.int .i64 n]],[],[138]⟩)) (.ite (qGP r n) (.ret ((.val (.sl (qB4 r n) .non)),⟨[[.sl (qui r n) .non,.int .i64 n]],[],[138]⟩)) (.fail))|_,_=>.fail
theorem qUw (gl:Gl):SimM Tryz.prog gl 151 fun args σ=>(qRr args σ).run:=by
 refine SimM.of_nrm (G:=qJ0) (L:=qTm) qaj (qKe gl ) qai Tryz.func151 rfl (by rfl) (by kernel_rfl) (qaD (L:=lps qTm) [(2,qDW)] (by kernel_rfl) (List.forall_mem_cons.2 ⟨fun fr σ e fr' σ' h=>qMY gl  fr σ e fr' σ' h,(List.forall_mem_nil _)⟩)) ?_
 intro args σ x h;unfold qRr at h
 split at h
 ·exact (congrArg Tr.run (qWt _ _)).trans (qae h fun h=>qae h fun h=>by cases h)
 ·cases h
def qR6:GamT:=ofL [(106,.may (frameT qcC)),(109,.may (frameT qjp)),(113,.may (frameT qqT)),(151,.may (frameT qRr)),(qdx,.flag)]
theorem qRE (gl:Gl):qal Tryz.prog gl (gam qR6):=(qah (SimM.frameT (qbB gl)) (qah (SimM.frameT (qfo gl)) (qah (SimM.frameT (qoc gl)) (qah (SimM.frameT (qUw gl)) (qbt qaf)))))
def qU7:LpsT:=fun r fr σ=>.fail
section
variable (r:qR) (n:Int)
def qvJ:Tr (PR×Store):=let z1:=qad (qad r);let z2:=qad (qaa (qbu [40] z1 n));let z3:=qaa (qbr 6 [41] z2 n);let z4:=qad z3;let z5:=qad (qaa (qui z4 n));.ite (qbz [40] z1 n) (.ret (PR.pan (.iface 172 (.agg [.int .i64 (qbq [40] z1 n)])),Store.mk [[.sl (qaa (qaa (qbp [40] z1 n))) .non,.int .i64 n]] [] [138])) (.ite (qbA [40] z1 n) (.ite (qaP 6 [41] z2 n) (.ite (qbo 6 [41] z2 n) (.ret (PR.val (.sl [] .non),Store.mk [[.sl (qaa z3) .non,.int .i64 n]] [] [138])) (.ite (qE4 z4 n) (.ret (PR.pan (.iface 172 (.agg [.int .i64 (qAw z4 n)])),Store.mk [[.sl (qaa (qaa (qAA z4 n))) .non,.int .i64 n]] [] [138])) (.ite (qGP z4 n) (.ite (qbz [41] z5 n) (.ret (PR.pan (.iface 172 (.agg [.int .i64 (qbq [41] z5 n)])),Store.mk [[.sl (qaa (qaa (qbp [41] z5 n))) .non,.int .i64 n]] [] [138])) (.ite (qbA [41] z5 n) (.ret (PR.val (.sl (qaa (qaa (qB4 z4 n))) .non),Store.mk [[.sl (qaa (qaa (qbu [41] z5 n))) .non,.int .i64 n]] [] [138])) .fail)) .fail))) .fail) .fail)
theorem qWu:(nrmM tbT qR6 qU7 Tryz.f112 [.ptr 0 0,.mth 113 [.ptr 0 0]] ⟨[[.sl r .non,.int .i64 n]],[],[138]⟩).flat=qvJ r n:=by kernel_rfl
def qsg:Option (PR×Store):=(qvJ r n).run
def qzG:Int:=oG (qsg r n)
def qAD:qR:=qbd 0 0 (qsg r n)
def qFN:Bool:=isW (qsg r n) ((.pan (.iface 172 (.agg [.int .i64 (qzG r n)]))),⟨[[.sl (qAD r n) .non,.int .i64 n]],[],[138]⟩)
def qAZ:qR:=qCT (qsg r n)
def quf:qR:=qbd 0 0 (qsg r n)
def qGV:Bool:=isW (qsg r n) ((.val (.sl (qAZ r n) .non)),⟨[[.sl (quf r n) .non,.int .i64 n]],[],[138]⟩)
end
def qSL:List PV→Store→Tr (PR×Store)|[.ptr 0 0,.mth 113 [.ptr 0 0]],⟨[[.sl r .non,.int .i64 n]],[],[138]⟩=>.ite (qFN r n) (.ret ((.pan (.iface 172 (.agg [.int .i64 (qzG r n)]))),⟨[[.sl (qAD r n) .non,.int .i64 n]],[],[138]⟩)) (.ite (qGV r n) (.ret ((.val (.sl (qAZ r n) .non)),⟨[[.sl (quf r n) .non,.int .i64 n]],[],[138]⟩)) (.fail))|_,_=>.fail
theorem qUh (gl:Gl):SimM Tryz.prog gl 112 fun args σ=>(qSL args σ).run:=by
 refine SimM.of_nrm (G:=qR6) (L:=qU7) qaj (qRE gl ) qai Tryz.func112 rfl (by rfl) (by kernel_rfl) (qac (by kernel_rfl)) ?_
 intro args σ x h;unfold qSL at h
 split at h
 ·exact (congrArg Tr.run (qWu _ _)).trans (qae h fun h=>qae h fun h=>by cases h)
 ·cases h
def qF4:GamT:=ofL [(111,.may (frameT qxg)),(112,.may (frameT qSL)),(113,.may (frameT qqT)),(qdx,.flag)]
theorem qKw (gl:Gl):qal Tryz.prog gl (gam qF4):=(qah (SimM.frameT (qvp gl)) (qah (SimM.frameT (qUh gl)) (qah (SimM.frameT (qoc gl)) (qbt qaf))))
def qL3:LpsT:=fun r fr σ=>.fail
section
variable (r:qR) (n:Int)
def quD:Tr (PR×Store):=let z1:=qad (qad r);let z2:=qad (qaa (qhM z1 n));.ite (qj0 z1 n) (.ret (PR.pan (.iface 172 (.agg [.int .i64 (qhi z1 n)])),Store.mk [[.sl (qaa (qaa (qh0 z1 n))) .non,.int .i64 n]] [] [138])) (.ite (qj7 z1 n) (.ite (qFN z2 n) (.ret (PR.pan (.iface 172 (.agg [.int .i64 (qzG z2 n)])),Store.mk [[.sl (qaa (qaa (qAD z2 n))) .non,.int .i64 n]] [] [138])) (.ite (qGV z2 n) (.ret (PR.val (.agg [.str (qfX z1 n),.sl (qaa (qaa (qAZ z2 n))) .non]),Store.mk [[.sl (qaa (qaa (quf z2 n))) .non,.int .i64 n]] [] [138])) .fail)) .fail)
theorem qSZ:(nrmM tbT qF4 qL3 Tryz.f51 [.ptr 0 0] ⟨[[.sl r .non,.int .i64 n]],[],[138]⟩).flat=quD r n:=by kernel_rfl
def qgX:Option (PR×Store):=(quD r n).run
def qdC:Int:=oG (qgX r n)
def qdu:qR:=qbd 0 0 (qgX r n)
def qeq:Bool:=isW (qgX r n) ((.pan (.iface 172 (.agg [.int .i64 (qdC r n)]))),⟨[[.sl (qdu r n) .non,.int .i64 n]],[],[138]⟩)
def qcR:qU:=qbx 0 (qgX r n)
def qep:qR:=qet 1 (qgX r n)
def qdb:qR:=qbd 0 0 (qgX r n)
def qer:Bool:=isW (qgX r n) ((.val (.agg [.str (qcR r n),.sl (qep r n) .non])),⟨[[.sl (qdb r n) .non,.int .i64 n]],[],[138]⟩)
end
def qqK:List PV→Store→Tr (PR×Store)|[.ptr 0 0],⟨[[.sl r .non,.int .i64 n]],[],[138]⟩=>.ite (qeq r n) (.ret ((.pan (.iface 172 (.agg [.int .i64 (qdC r n)]))),⟨[[.sl (qdu r n) .non,.int .i64 n]],[],[138]⟩)) (.ite (qer r n) (.ret ((.val (.agg [.str (qcR r n),.sl (qep r n) .non])),⟨[[.sl (qdb r n) .non,.int .i64 n]],[],[138]⟩)) (.fail))|_,_=>.fail
theorem qoQ (gl:Gl):SimM Tryz.prog gl 51 fun args σ=>(qqK args σ).run:=by
 refine SimM.of_nrm (G:=qF4) (L:=qL3) qaj (qKw gl ) qai Tryz.func51 rfl (by rfl) (by kernel_rfl) (qac (by kernel_rfl)) ?_
 intro args σ x h;unfold qqK at h
 split at h
 ·exact (congrArg Tr.run (qSZ _ _)).trans (qae h fun h=>qae h fun h=>by cases h)
 ·cases h
def qMd:GamT:=ofL [(51,.may (frameT qqK)),(106,.may (frameT qcC)),(113,.may (frameT qqT)),(148,.pure qsW),(149,.may (frameT qUL))]
theorem qPr (gl:Gl):qal Tryz.prog gl (gam qMd):=(qah (SimM.frameT (qoQ gl)) (qah (SimM.frameT (qbB gl)) (qah (SimM.frameT (qoc gl)) (qag (qxT gl) (qah (SimM.frameT (qR1 gl)) qaf)))))
def qQX:LpsT:=fun r fr σ=>.fail
section
variable (r:qR) (n:Int)
def qmZ:Tr (PR×Store):=let z1:=qad (qad r);let z2:=qad (qaa (qbr 1 [110,111,116] z1 n));let z3:=qaa (qaa (qep z2 n));let z4:qR:=[[.sl (qaa (qaa (qdb z2 n))) .non,.int .i64 n]];let z5:=qad (qaa (qeo z2 n));let z6:=qad (qaa (qAu z5 n));let z7:List PV:=[.int .i64 (qdA z2 n),.str (qdr z2 n),.int .i64 (qcw z2 n),.int .i64 (qcn z2 n),.str (qcp z2 n)];.ite (qaP 1 [110,111,116] z1 n) (.ite (qbo 1 [110,111,116] z1 n) (.ite (qeq z2 n) (.ret (PR.pan (.iface 172 (.agg [.int .i64 (qdC z2 n)])),Store.mk [[.sl (qaa (qaa (qdu z2 n))) .non,.int .i64 n]] [] [138])) (.ite (qer z2 n) (.ret (PR.val (.agg [.int .i64 2,.str (qcR z2 n),.sl z3 .non,.int .i64 0,.int .i64 0,.str [],.int .i64 0,.int .i64 0,.str [],.int .i64 0,.str [],.int .i64 0,.int .i64 0,.str []]),Store.mk z4 [] [138])) .fail)) (.ite (qlE z2 n) (.ite (qoJ z2 n) (.ite (qeq z2 n) (.ret (PR.pan (.iface 172 (.agg [.int .i64 (qdC z2 n)])),Store.mk [[.sl (qaa (qaa (qdu z2 n))) .non,.int .i64 n]] [] [138])) (.ite (qer z2 n) (.ret (PR.val (.agg [.int .i64 1,.str (qcR z2 n),.sl z3 .non,.int .i64 0,.int .i64 0,.str [],.int .i64 0,.int .i64 0,.str [],.int .i64 0,.str [],.int .i64 0,.int .i64 0,.str []]),Store.mk z4 [] [138])) .fail)) (.ite (qf7 z2 n) (.ite (qE6 z5 n) (.ite (qf7 z6 n) (.ite (qg6 z7 z7) (.ret (PR.val (.agg [.int .i64 3,.str [],.sl [] .non,.int .i64 (qAO z5 n),.int .i64 (qdA z2 n),.str (qdr z2 n),.int .i64 (qcw z2 n),.int .i64 (qcn z2 n),.str (qcp z2 n),.int .i64 (qdA z6 n),.str (qdr z6 n),.int .i64 (qcw z6 n),.int .i64 (qcn z6 n),.str (qcp z6 n)]),Store.mk [[.sl (qaa (qaa (qeo z6 n))) .non,.int .i64 n]] [] [138])) .fail) (.ite (qfI z6 n) (.ret (PR.pan (.iface 172 (.agg [.int .i64 (qej z6 n)])),Store.mk [[.sl (qaa (qaa (qes z6 n))) .non,.int .i64 n]] [] [138])) .fail)) (.ite (qGk z5 n) (.ret (PR.pan (.iface 172 (.agg [.int .i64 (qBe z5 n)])),Store.mk [[.sl (qaa (qaa (qzh z5 n))) .non,.int .i64 n]] [] [138])) .fail)) (.ite (qfI z2 n) (.ret (PR.pan (.iface 172 (.agg [.int .i64 (qej z2 n)])),Store.mk [[.sl (qaa (qaa (qes z2 n))) .non,.int .i64 n]] [] [138])) .fail))) .fail)) .fail
theorem qU6:(nrmM tbT qMd qQX Tryz.f108 [.ptr 0 0] ⟨[[.sl r .non,.int .i64 n]],[],[138]⟩).flat=qmZ r n:=by kernel_rfl
def qb0:Option (PR×Store):=(qmZ r n).run
def qlC:Int:=oG (qb0 r n)
def qlM:qR:=qbd 0 0 (qb0 r n)
def qqu:Bool:=isW (qb0 r n) ((.pan (.iface 172 (.agg [.int .i64 (qlC r n)]))),⟨[[.sl (qlM r n) .non,.int .i64 n]],[],[138]⟩)
def qlo:Int:=qa7 0 (qb0 r n)
def ql6:qU:=qbx 1 (qb0 r n)
def qmr:qR:=qet 2 (qb0 r n)
def qhS:Int:=qa7 3 (qb0 r n)
def qg3:Int:=qa7 4 (qb0 r n)
def qgZ:qU:=qbx 5 (qb0 r n)
def qhm:Int:=qa7 6 (qb0 r n)
def qhG:Int:=qa7 7 (qb0 r n)
def qij:qU:=qbx 8 (qb0 r n)
def qhs:Int:=qa7 9 (qb0 r n)
def qhu:qU:=qbx 10 (qb0 r n)
def qhj:Int:=qa7 11 (qb0 r n)
def qhq:Int:=qa7 12 (qb0 r n)
def qhO:qU:=qbx 13 (qb0 r n)
def qhh:qR:=qbd 0 0 (qb0 r n)
def qok:Bool:=isW (qb0 r n) ((.val (.agg [.int .i64 (qlo r n),.str (ql6 r n),.sl (qmr r n) .non,.int .i64 (qhS r n),.int .i64 (qg3 r n),.str (qgZ r n),.int .i64 (qhm r n),.int .i64 (qhG r n),.str (qij r n),.int .i64 (qhs r n),.str (qhu r n),.int .i64 (qhj r n),.int .i64 (qhq r n),.str (qhO r n)])),⟨[[.sl (qhh r n) .non,.int .i64 n]],[],[138]⟩)
end
def qIC:List PV→Store→Tr (PR×Store)|[.ptr 0 0],⟨[[.sl r .non,.int .i64 n]],[],[138]⟩=>.ite (qqu r n) (.ret ((.pan (.iface 172 (.agg [.int .i64 (qlC r n)]))),⟨[[.sl (qlM r n) .non,.int .i64 n]],[],[138]⟩)) (.ite (qok r n) (.ret ((.val (.agg [.int .i64 (qlo r n),.str (ql6 r n),.sl (qmr r n) .non,.int .i64 (qhS r n),.int .i64 (qg3 r n),.str (qgZ r n),.int .i64 (qhm r n),.int .i64 (qhG r n),.str (qij r n),.int .i64 (qhs r n),.str (qhu r n),.int .i64 (qhj r n),.int .i64 (qhq r n),.str (qhO r n)])),⟨[[.sl (qhh r n) .non,.int .i64 n]],[],[138]⟩)) (.fail))|_,_=>.fail
theorem qG5 (gl:Gl):SimM Tryz.prog gl 108 fun args σ=>(qIC args σ).run:=by
 refine SimM.of_nrm (G:=qMd) (L:=qQX) qaj (qPr gl ) qai Tryz.func108 rfl (by rfl) (by kernel_rfl) (qac (by kernel_rfl)) ?_
 intro args σ x h;unfold qIC at h
 split at h
 ·exact (congrArg Tr.run (qU6 _ _)).trans (qae h fun h=>qae h fun h=>by cases h)
 ·cases h
def qI3:GamT:=ofL [(106,.may (frameT qcC)),(108,.may (frameT qIC)),(qdx,.flag)]
theorem qK4 (gl:Gl):qal Tryz.prog gl (gam qI3):=(qah (SimM.frameT (qbB gl)) (qah (SimM.frameT (qG5 gl)) (qbt qaf)))
def qDg:Code:=qfZ Tryz.f107 2
def qD8:LI:=⟨17,[0,1,5],fun e=>match e with|.exit 0=>[5]|_=>[],false⟩
def qCI:LpsT:=fun r fr σ=>.fail
def qjK (vs:List PV) (σ:Store):Option (PExit×List PV×Store):=lval (lstep tbT qI3 qCI qDg qD8) vs σ
section
variable (l r:qR) (n:Int)
def qwk:Tr LR:=let z1:=qaa (qbr 6 [44] (qad r) n);let z2:=qad z1;let z3:qR:=[[.int .i64 (qlo z2 n),.str (ql6 z2 n),.sl (qaa (qmr z2 n)) .non,.int .i64 (qhS z2 n),.int .i64 (qg3 z2 n),.str (qgZ z2 n),.int .i64 (qhm z2 n),.int .i64 (qhG z2 n),.str (qij z2 n),.int .i64 (qhs z2 n),.str (qhu z2 n),.int .i64 (qhj z2 n),.int .i64 (qhq z2 n),.str (qhO z2 n)]];.ite (qaP 6 [44] (qad r) n) (.ite (qbo 6 [44] (qad r) n) (.ite (qqu z2 n) (.ret (.out (.pan (.iface 172 (.agg [.int .i64 (qlC z2 n)]))) [] (Store.mk [[.sl (qaa (qlM z2 n)) .non,.int .i64 n]] [] [138]))) (.ite (qok z2 n) (.ite (qav l z3 168) (.ite (qaq z3 14) (.ite (qao l 14) (.ret (.next [.ptr 0 0,.mth 108 [.ptr 0 0],.sl (xApp l z3) (.tok 0)] (Store.mk [[.sl (qaa (qhh z2 n)) .non,.int .i64 n]] [(nXs (xApp l z3),14,96)] [138]))) .fail) .fail) .fail) .fail)) (.ret (.out (.exit 0) [.sl l .full] (Store.mk [[.sl z1 .non,.int .i64 n]] [] [138])))) .fail
theorem qVY:lstep tbT qI3 qCI qDg qD8 [.ptr 0 0,.mth 108 [.ptr 0 0],.sl l .full] ⟨[[.sl r .non,.int .i64 n]],[],[138]⟩=qwk l r n:=by kernel_rfl
theorem qVx:qjK [.ptr 0 0,.mth 108 [.ptr 0 0],.sl l .full] ⟨[[.sl r .non,.int .i64 n]],[],[138]⟩=lnext qjK (qwk l r n).run:=by unfold qjK;rw [qaQ,qVY]
end
section
variable (l r:qR) (n:Int) (k:Nat)
def qpN:Tr LR:=let z1:=qaa (qbr 6 [44] (qad r) n);let z2:=qad z1;let z3:qR:=[[.int .i64 (qlo z2 n),.str (ql6 z2 n),.sl (qaa (qmr z2 n)) .non,.int .i64 (qhS z2 n),.int .i64 (qg3 z2 n),.str (qgZ z2 n),.int .i64 (qhm z2 n),.int .i64 (qhG z2 n),.str (qij z2 n),.int .i64 (qhs z2 n),.str (qhu z2 n),.int .i64 (qhj z2 n),.int .i64 (qhq z2 n),.str (qhO z2 n)]];.ite (qaP 6 [44] (qad r) n) (.ite (qbo 6 [44] (qad r) n) (.ite (qqu z2 n) (.ret (.out (.pan (.iface 172 (.agg [.int .i64 (qlC z2 n)]))) [] (Store.mk [[.sl (qaa (qlM z2 n)) .non,.int .i64 n]] [(k,14,96)] [138]))) (.ite (qok z2 n) (.ite (qav l z3 168) (.ite (qaq z3 14) (.ite (qao l 14) (.ite (nEq k (nXs l)) (.ret (.next [.ptr 0 0,.mth 108 [.ptr 0 0],.sl (xApp l z3) (.tok 0)] (Store.mk [[.sl (qaa (qhh z2 n)) .non,.int .i64 n]] [(nXs (xApp l z3),14,96)] [138]))) .fail) .fail) .fail) .fail) .fail)) (.ret (.out (.exit 0) [.sl l (.tok 0)] (Store.mk [[.sl z1 .non,.int .i64 n]] [(k,14,96)] [138])))) .fail
theorem qSP:lstep tbT qI3 qCI qDg qD8 [.ptr 0 0,.mth 108 [.ptr 0 0],.sl l (.tok 0)] ⟨[[.sl r .non,.int .i64 n]],[(k,14,96)],[138]⟩=qpN l r n k:=by kernel_rfl
theorem qTj:qjK [.ptr 0 0,.mth 108 [.ptr 0 0],.sl l (.tok 0)] ⟨[[.sl r .non,.int .i64 n]],[(k,14,96)],[138]⟩=lnext qjK (qpN l r n k).run:=by unfold qjK;rw [qaQ,qSP]
end
section
variable (l r:qR) (n:Int)
def qeN:Option (PExit×List PV×Store):=qjK [.ptr 0 0,.mth 108 [.ptr 0 0],.sl l .full] ⟨[[.sl r .non,.int .i64 n]],[],[138]⟩
def qtX:Int:=(gInt (gAt (gCs (gAt (gCs (gPan (qeN l r n))) 0)) 0))
def qtK:qR:=qa8 0 0 (qeN l r n)
def qB0:Bool:=isW (qeN l r n) ((.pan (.iface 172 (.agg [.int .i64 (qtX l r n)]))),[],⟨[[.sl (qtK l r n) .non,.int .i64 n]],[],[138]⟩)
def qsN:qR:=qmV 0 (qeN l r n)
def qub:qR:=qa8 0 0 (qeN l r n)
def qCe:Bool:=isW (qeN l r n) ((.exit 0),[.sl (qsN l r n) .full],⟨[[.sl (qub l r n) .non,.int .i64 n]],[],[138]⟩)
def qtZ:Int:=(gInt (gAt (gCs (gAt (gCs (gPan (qeN l r n))) 0)) 0))
def qtq:qR:=qa8 0 0 (qeN l r n)
def qzg:Nat:=(gTok (qeN l r n) 0)
def qz6:Bool:=isW (qeN l r n) ((.pan (.iface 172 (.agg [.int .i64 (qtZ l r n)]))),[],⟨[[.sl (qtq l r n) .non,.int .i64 n]],[((qzg l r n),14,96)],[138]⟩)
def qsF:qR:=qmV 0 (qeN l r n)
def qtj:qR:=qa8 0 0 (qeN l r n)
def qAo:Nat:=(gTok (qeN l r n) 0)
def qAi:Bool:=isW (qeN l r n) ((.exit 0),[.sl (qsF l r n) (.tok 0)],⟨[[.sl (qtj l r n) .non,.int .i64 n]],[((qAo l r n),14,96)],[138]⟩)
end
def qoX:List PV→Store→Tr (PExit×List PV×Store)|[.ptr 0 0,.mth 108 [.ptr 0 0],.sl l .full],⟨[[.sl r .non,.int .i64 n]],[],[138]⟩=>.ite (qB0 l r n) (.ret ((.pan (.iface 172 (.agg [.int .i64 (qtX l r n)]))),[],⟨[[.sl (qtK l r n) .non,.int .i64 n]],[],[138]⟩)) (.ite (qCe l r n) (.ret ((.exit 0),[.sl (qsN l r n) .full],⟨[[.sl (qub l r n) .non,.int .i64 n]],[],[138]⟩)) (.ite (qz6 l r n) (.ret ((.pan (.iface 172 (.agg [.int .i64 (qtZ l r n)]))),[],⟨[[.sl (qtq l r n) .non,.int .i64 n]],[((qzg l r n),14,96)],[138]⟩)) (.ite (qAi l r n) (.ret ((.exit 0),[.sl (qsF l r n) (.tok 0)],⟨[[.sl (qtj l r n) .non,.int .i64 n]],[((qAo l r n),14,96)],[138]⟩)) (.fail))))|_,_=>.fail
theorem qTk:∀ vs σ r,(qoX vs σ).run=some r→qjK vs σ=some r:=by
 intro vs σ r h;unfold qoX at h
 split at h
 ·exact qae h fun h=>qae h fun h=>qae h fun h=>qae h fun h=>by cases h
 ·cases h
theorem qMf (gl:Gl):∀ fr σ e fr' σ',(orc qD8 qoX fr σ).run=some (e,fr',σ')→LDoes Tryz.prog gl qDg fr σ e fr' σ':=qcB qaj (qK4 gl ) qai (L:=qCI) (qac (by kernel_rfl)) (by kernel_rfl) qTk
def qSD:LpsT:=fun r fr σ=>bif Nat.beq r 2 then orc qD8 qoX fr σ else .fail
section
variable (r:qR) (n:Int)
def qDf:Tr (PR×Store):=let z1:=qad (qad r);let z2:qR:=[[.int .i64 (qlo z1 n),.str (ql6 z1 n),.sl (qaa (qmr z1 n)) .non,.int .i64 (qhS z1 n),.int .i64 (qg3 z1 n),.str (qgZ z1 n),.int .i64 (qhm z1 n),.int .i64 (qhG z1 n),.str (qij z1 n),.int .i64 (qhs z1 n),.str (qhu z1 n),.int .i64 (qhj z1 n),.int .i64 (qhq z1 n),.str (qhO z1 n)]];let z3:=qaa (qhh z1 n);.ite (qqu z1 n) (.ret (PR.pan (.iface 172 (.agg [.int .i64 (qlC z1 n)])),Store.mk [[.sl (qaa (qaa (qlM z1 n))) .non,.int .i64 n]] [] [138])) (.ite (qok z1 n) (.ite (qB0 z2 z3 n) (.ret (PR.pan (.iface 172 (.agg [.int .i64 (qtX z2 z3 n)])),Store.mk [[.sl (qaa (qtK z2 z3 n)) .non,.int .i64 n]] [] [138])) (.ite (qCe z2 z3 n) (.ret (PR.val (.sl (qaa (qsN z2 z3 n)) .non),Store.mk [[.sl (qaa (qub z2 z3 n)) .non,.int .i64 n]] [] [138])) (.ite (qz6 z2 z3 n) (.ret (PR.pan (.iface 172 (.agg [.int .i64 (qtZ z2 z3 n)])),Store.mk [[.sl (qaa (qtq z2 z3 n)) .non,.int .i64 n]] [] [138])) (.ite (qAi z2 z3 n) (.ret (PR.val (.sl (qaa (qsF z2 z3 n)) .non),Store.mk [[.sl (qaa (qtj z2 z3 n)) .non,.int .i64 n]] [] [138])) .fail)))) .fail)
theorem qWn:(nrmM tbT qI3 qSD Tryz.f107 [.ptr 0 0,.mth 108 [.ptr 0 0]] ⟨[[.sl r .non,.int .i64 n]],[],[138]⟩).flat=qDf r n:=by kernel_rfl
def qxF:Option (PR×Store):=(qDf r n).run
def qBq:Int:=oG (qxF r n)
def qB1:qR:=qbd 0 0 (qxF r n)
def qFn:Bool:=isW (qxF r n) ((.pan (.iface 172 (.agg [.int .i64 (qBq r n)]))),⟨[[.sl (qB1 r n) .non,.int .i64 n]],[],[138]⟩)
def qAg:qR:=qCT (qxF r n)
def quy:qR:=qbd 0 0 (qxF r n)
def qGQ:Bool:=isW (qxF r n) ((.val (.sl (qAg r n) .non)),⟨[[.sl (quy r n) .non,.int .i64 n]],[],[138]⟩)
end
def qTo:List PV→Store→Tr (PR×Store)|[.ptr 0 0,.mth 108 [.ptr 0 0]],⟨[[.sl r .non,.int .i64 n]],[],[138]⟩=>.ite (qFn r n) (.ret ((.pan (.iface 172 (.agg [.int .i64 (qBq r n)]))),⟨[[.sl (qB1 r n) .non,.int .i64 n]],[],[138]⟩)) (.ite (qGQ r n) (.ret ((.val (.sl (qAg r n) .non)),⟨[[.sl (quy r n) .non,.int .i64 n]],[],[138]⟩)) (.fail))|_,_=>.fail
theorem qSO (gl:Gl):SimM Tryz.prog gl 107 fun args σ=>(qTo args σ).run:=by
 refine SimM.of_nrm (G:=qI3) (L:=qSD) qaj (qK4 gl ) qai Tryz.func107 rfl (by rfl) (by kernel_rfl) (qaD (L:=lps qSD) [(2,qDg)] (by kernel_rfl) (List.forall_mem_cons.2 ⟨fun fr σ e fr' σ' h=>qMf gl  fr σ e fr' σ' h,(List.forall_mem_nil _)⟩)) ?_
 intro args σ x h;unfold qTo at h
 split at h
 ·exact (congrArg Tr.run (qWn _ _)).trans (qae h fun h=>qae h fun h=>by cases h)
 ·cases h
def qEu:GamT:=ofL [(51,.may (frameT qqK)),(106,.may (frameT qcC)),(107,.may (frameT qTo)),(108,.may (frameT qIC)),(109,.may (frameT qjp)),(qdx,.flag)]
theorem qMM (gl:Gl):qal Tryz.prog gl (gam qEu):=(qah (SimM.frameT (qoQ gl)) (qah (SimM.frameT (qbB gl)) (qah (SimM.frameT (qSO gl)) (qah (SimM.frameT (qG5 gl)) (qah (SimM.frameT (qfo gl)) (qbt qaf))))))
def qK8:LpsT:=fun r fr σ=>.fail
section
variable (r:qR) (n:Int)
def qme:Tr (PR×Store):=let z1:=qad (qad r);let z2:=qad (qaa (qdb z1 n));let z3:=qad (qaa (qbr 6 [58,45] z2 n));let z4:=qad (qaa (quy z3 n));let z5:=qaa (qaa (qep z1 n));.ite (qeq z1 n) (.ret (PR.pan (.iface 172 (.agg [.int .i64 (qdC z1 n)])),Store.mk [[.sl (qaa (qaa (qdu z1 n))) .non,.int .i64 n]] [] [138])) (.ite (qer z1 n) (.ite (qaP 6 [58,45] z2 n) (.ite (qbo 6 [58,45] z2 n) (.ite (qFn z3 n) (.ret (PR.pan (.iface 172 (.agg [.int .i64 (qBq z3 n)])),Store.mk [[.sl (qaa (qaa (qB1 z3 n))) .non,.int .i64 n]] [] [138])) (.ite (qGQ z3 n) (.ite (qbz [46] z4 n) (.ret (PR.pan (.iface 172 (.agg [.int .i64 (qbq [46] z4 n)])),Store.mk [[.sl (qaa (qaa (qbp [46] z4 n))) .non,.int .i64 n]] [] [138])) (.ite (qbA [46] z4 n) (.ret (PR.val (.agg [.str (qcR z1 n),.sl z5 .non,.sl (qaa (qaa (qAg z3 n))) .non]),Store.mk [[.sl (qaa (qaa (qbu [46] z4 n))) .non,.int .i64 n]] [] [138])) .fail)) .fail)) (.ite (qbz [46] z3 n) (.ret (PR.pan (.iface 172 (.agg [.int .i64 (qbq [46] z3 n)])),Store.mk [[.sl (qaa (qaa (qbp [46] z3 n))) .non,.int .i64 n]] [] [138])) (.ite (qbA [46] z3 n) (.ret (PR.val (.agg [.str (qcR z1 n),.sl z5 .non,.sl [] .non]),Store.mk [[.sl (qaa (qaa (qbu [46] z3 n))) .non,.int .i64 n]] [] [138])) .fail))) .fail) .fail)
theorem qUz:(nrmM tbT qEu qK8 Tryz.f47 [.ptr 0 0] ⟨[[.sl r .non,.int .i64 n]],[],[138]⟩).flat=qme r n:=by kernel_rfl
def qdL:Option (PR×Store):=(qme r n).run
def qkt:Int:=oG (qdL r n)
def qkK:qR:=qbd 0 0 (qdL r n)
def qqx:Bool:=isW (qdL r n) ((.pan (.iface 172 (.agg [.int .i64 (qkt r n)]))),⟨[[.sl (qkK r n) .non,.int .i64 n]],[],[138]⟩)
def qku:qU:=qbx 0 (qdL r n)
def qjY:qR:=qet 1 (qdL r n)
def qhX:qR:=qet 2 (qdL r n)
def qg8:qR:=qbd 0 0 (qdL r n)
def qpe:Bool:=isW (qdL r n) ((.val (.agg [.str (qku r n),.sl (qjY r n) .non,.sl (qhX r n) .non])),⟨[[.sl (qg8 r n) .non,.int .i64 n]],[],[138]⟩)
end
def qCE:List PV→Store→Tr (PR×Store)|[.ptr 0 0],⟨[[.sl r .non,.int .i64 n]],[],[138]⟩=>.ite (qqx r n) (.ret ((.pan (.iface 172 (.agg [.int .i64 (qkt r n)]))),⟨[[.sl (qkK r n) .non,.int .i64 n]],[],[138]⟩)) (.ite (qpe r n) (.ret ((.val (.agg [.str (qku r n),.sl (qjY r n) .non,.sl (qhX r n) .non])),⟨[[.sl (qg8 r n) .non,.int .i64 n]],[],[138]⟩)) (.fail))|_,_=>.fail
theorem qEk (gl:Gl):SimM Tryz.prog gl 47 fun args σ=>(qCE args σ).run:=by
 refine SimM.of_nrm (G:=qEu) (L:=qK8) qaj (qMM gl ) qai Tryz.func47 rfl (by rfl) (by kernel_rfl) (qac (by kernel_rfl)) ?_
 intro args σ x h;unfold qCE at h
 split at h
 ·exact (congrArg Tr.run (qUz _ _)).trans (qae h fun h=>qae h fun h=>by cases h)
 ·cases h
def qJl:GamT:=ofL [(106,.may (frameT qcC)),(138,.may (frameT qyA)),(qdx,.flag)]
theorem qL9 (gl:Gl):qal Tryz.prog gl (gam qJl):=(qah (SimM.frameT (qbB gl)) (qah (SimM.frameT (qtL gl)) (qbt qaf)))
def qCS:Code:=qfZ Tryz.f161 2
def qCN:LI:=⟨17,[0,1,5],fun e=>match e with|.exit 0=>[5]|_=>[],false⟩
def qCl:LpsT:=fun r fr σ=>.fail
def qjP (vs:List PV) (σ:Store):Option (PExit×List PV×Store):=lval (lstep tbT qJl qCl qCS qCN) vs σ
section
variable (l r:qR) (n:Int)
def qwG:Tr LR:=let z1:=qaa (qbr 6 [44] (qad r) n);let z2:=qad z1;let z3:qR:=[[.int .i64 (qjb z2 n)]];.ite (qaP 6 [44] (qad r) n) (.ite (qbo 6 [44] (qad r) n) (.ite (qlY z2 n) (.ite (qav l z3 8) (.ite (qaq z3 1) (.ite (qao l 1) (.ret (.next [.ptr 0 0,.mth 138 [.ptr 0 0],.sl (xApp l z3) (.tok 0)] (Store.mk [[.sl (qaa (qiD z2 n)) .non,.int .i64 n]] [(nXs (xApp l z3),1,112)] [138]))) .fail) .fail) .fail) (.ite (qle z2 n) (.ret (.out (.pan (.iface 172 (.agg [.int .i64 (qiw z2 n)]))) [] (Store.mk [[.sl (qaa (qji z2 n)) .non,.int .i64 n]] [] [138]))) .fail)) (.ret (.out (.exit 0) [.sl l .full] (Store.mk [[.sl z1 .non,.int .i64 n]] [] [138])))) .fail
theorem qVv:lstep tbT qJl qCl qCS qCN [.ptr 0 0,.mth 138 [.ptr 0 0],.sl l .full] ⟨[[.sl r .non,.int .i64 n]],[],[138]⟩=qwG l r n:=by kernel_rfl
theorem qVO:qjP [.ptr 0 0,.mth 138 [.ptr 0 0],.sl l .full] ⟨[[.sl r .non,.int .i64 n]],[],[138]⟩=lnext qjP (qwG l r n).run:=by unfold qjP;rw [qaQ,qVv]
end
section
variable (l r:qR) (n:Int) (k:Nat)
def qo9:Tr LR:=let z1:=qaa (qbr 6 [44] (qad r) n);let z2:=qad z1;let z3:qR:=[[.int .i64 (qjb z2 n)]];.ite (qaP 6 [44] (qad r) n) (.ite (qbo 6 [44] (qad r) n) (.ite (qlY z2 n) (.ite (qav l z3 8) (.ite (qaq z3 1) (.ite (qao l 1) (.ite (nEq k (nXs l)) (.ret (.next [.ptr 0 0,.mth 138 [.ptr 0 0],.sl (xApp l z3) (.tok 0)] (Store.mk [[.sl (qaa (qiD z2 n)) .non,.int .i64 n]] [(nXs (xApp l z3),1,112)] [138]))) .fail) .fail) .fail) .fail) (.ite (qle z2 n) (.ret (.out (.pan (.iface 172 (.agg [.int .i64 (qiw z2 n)]))) [] (Store.mk [[.sl (qaa (qji z2 n)) .non,.int .i64 n]] [(k,1,112)] [138]))) .fail)) (.ret (.out (.exit 0) [.sl l (.tok 0)] (Store.mk [[.sl z1 .non,.int .i64 n]] [(k,1,112)] [138])))) .fail
theorem qS8:lstep tbT qJl qCl qCS qCN [.ptr 0 0,.mth 138 [.ptr 0 0],.sl l (.tok 0)] ⟨[[.sl r .non,.int .i64 n]],[(k,1,112)],[138]⟩=qo9 l r n k:=by kernel_rfl
theorem qRq:qjP [.ptr 0 0,.mth 138 [.ptr 0 0],.sl l (.tok 0)] ⟨[[.sl r .non,.int .i64 n]],[(k,1,112)],[138]⟩=lnext qjP (qo9 l r n k).run:=by unfold qjP;rw [qaQ,qS8]
end
section
variable (l r:qR) (n:Int)
def qeH:Option (PExit×List PV×Store):=qjP [.ptr 0 0,.mth 138 [.ptr 0 0],.sl l .full] ⟨[[.sl r .non,.int .i64 n]],[],[138]⟩
def qsH:Int:=(gInt (gAt (gCs (gAt (gCs (gPan (qeH l r n))) 0)) 0))
def qtv:qR:=qa8 0 0 (qeH l r n)
def qA2:Bool:=isW (qeH l r n) ((.pan (.iface 172 (.agg [.int .i64 (qsH l r n)]))),[],⟨[[.sl (qtv l r n) .non,.int .i64 n]],[],[138]⟩)
def qtf:qR:=qmV 0 (qeH l r n)
def qtx:qR:=qa8 0 0 (qeH l r n)
def qzV:Bool:=isW (qeH l r n) ((.exit 0),[.sl (qtf l r n) .full],⟨[[.sl (qtx l r n) .non,.int .i64 n]],[],[138]⟩)
def quj:Int:=(gInt (gAt (gCs (gAt (gCs (gPan (qeH l r n))) 0)) 0))
def qsu:qR:=qa8 0 0 (qeH l r n)
def qBC:Nat:=(gTok (qeH l r n) 0)
def qCJ:Bool:=isW (qeH l r n) ((.pan (.iface 172 (.agg [.int .i64 (quj l r n)]))),[],⟨[[.sl (qsu l r n) .non,.int .i64 n]],[((qBC l r n),1,112)],[138]⟩)
def qti:qR:=qmV 0 (qeH l r n)
def qto:qR:=qa8 0 0 (qeH l r n)
def qCg:Nat:=(gTok (qeH l r n) 0)
def qBQ:Bool:=isW (qeH l r n) ((.exit 0),[.sl (qti l r n) (.tok 0)],⟨[[.sl (qto l r n) .non,.int .i64 n]],[((qCg l r n),1,112)],[138]⟩)
end
def qpp:List PV→Store→Tr (PExit×List PV×Store)|[.ptr 0 0,.mth 138 [.ptr 0 0],.sl l .full],⟨[[.sl r .non,.int .i64 n]],[],[138]⟩=>.ite (qA2 l r n) (.ret ((.pan (.iface 172 (.agg [.int .i64 (qsH l r n)]))),[],⟨[[.sl (qtv l r n) .non,.int .i64 n]],[],[138]⟩)) (.ite (qzV l r n) (.ret ((.exit 0),[.sl (qtf l r n) .full],⟨[[.sl (qtx l r n) .non,.int .i64 n]],[],[138]⟩)) (.ite (qCJ l r n) (.ret ((.pan (.iface 172 (.agg [.int .i64 (quj l r n)]))),[],⟨[[.sl (qsu l r n) .non,.int .i64 n]],[((qBC l r n),1,112)],[138]⟩)) (.ite (qBQ l r n) (.ret ((.exit 0),[.sl (qti l r n) (.tok 0)],⟨[[.sl (qto l r n) .non,.int .i64 n]],[((qCg l r n),1,112)],[138]⟩)) (.fail))))|_,_=>.fail
theorem qTS:∀ vs σ r,(qpp vs σ).run=some r→qjP vs σ=some r:=by
 intro vs σ r h;unfold qpp at h
 split at h
 ·exact qae h fun h=>qae h fun h=>qae h fun h=>qae h fun h=>by cases h
 ·cases h
theorem qLh (gl:Gl):∀ fr σ e fr' σ',(orc qCN qpp fr σ).run=some (e,fr',σ')→LDoes Tryz.prog gl qCS fr σ e fr' σ':=qcB qaj (qL9 gl ) qai (L:=qCl) (qac (by kernel_rfl)) (by kernel_rfl) qTS
def qUR:LpsT:=fun r fr σ=>bif Nat.beq r 2 then orc qCN qpp fr σ else .fail
section
variable (r:qR) (n:Int)
def qCR:Tr (PR×Store):=let z1:=qad (qad r);let z2:qR:=[[.int .i64 (qjb z1 n)]];let z3:=qaa (qiD z1 n);.ite (qlY z1 n) (.ite (qA2 z2 z3 n) (.ret (PR.pan (.iface 172 (.agg [.int .i64 (qsH z2 z3 n)])),Store.mk [[.sl (qaa (qtv z2 z3 n)) .non,.int .i64 n]] [] [138])) (.ite (qzV z2 z3 n) (.ret (PR.val (.sl (qaa (qtf z2 z3 n)) .non),Store.mk [[.sl (qaa (qtx z2 z3 n)) .non,.int .i64 n]] [] [138])) (.ite (qCJ z2 z3 n) (.ret (PR.pan (.iface 172 (.agg [.int .i64 (quj z2 z3 n)])),Store.mk [[.sl (qaa (qsu z2 z3 n)) .non,.int .i64 n]] [] [138])) (.ite (qBQ z2 z3 n) (.ret (PR.val (.sl (qaa (qti z2 z3 n)) .non),Store.mk [[.sl (qaa (qto z2 z3 n)) .non,.int .i64 n]] [] [138])) .fail)))) (.ite (qle z1 n) (.ret (PR.pan (.iface 172 (.agg [.int .i64 (qiw z1 n)])),Store.mk [[.sl (qaa (qaa (qji z1 n))) .non,.int .i64 n]] [] [138])) .fail)
theorem qWK:(nrmM tbT qJl qUR Tryz.f161 [.ptr 0 0,.mth 138 [.ptr 0 0]] ⟨[[.sl r .non,.int .i64 n]],[],[138]⟩).flat=qCR r n:=by kernel_rfl
def qxy:Option (PR×Store):=(qCR r n).run
def qBF:Int:=oG (qxy r n)
def qCC:qR:=qbd 0 0 (qxy r n)
def qG0:Bool:=isW (qxy r n) ((.pan (.iface 172 (.agg [.int .i64 (qBF r n)]))),⟨[[.sl (qCC r n) .non,.int .i64 n]],[],[138]⟩)
def qzE:qR:=qCT (qxy r n)
def qur:qR:=qbd 0 0 (qxy r n)
def qFa:Bool:=isW (qxy r n) ((.val (.sl (qzE r n) .non)),⟨[[.sl (qur r n) .non,.int .i64 n]],[],[138]⟩)
end
def qSs:List PV→Store→Tr (PR×Store)|[.ptr 0 0,.mth 138 [.ptr 0 0]],⟨[[.sl r .non,.int .i64 n]],[],[138]⟩=>.ite (qG0 r n) (.ret ((.pan (.iface 172 (.agg [.int .i64 (qBF r n)]))),⟨[[.sl (qCC r n) .non,.int .i64 n]],[],[138]⟩)) (.ite (qFa r n) (.ret ((.val (.sl (qzE r n) .non)),⟨[[.sl (qur r n) .non,.int .i64 n]],[],[138]⟩)) (.fail))|_,_=>.fail
theorem qSb (gl:Gl):SimM Tryz.prog gl 161 fun args σ=>(qSs args σ).run:=by
 refine SimM.of_nrm (G:=qJl) (L:=qUR) qaj (qL9 gl ) qai Tryz.func161 rfl (by rfl) (by kernel_rfl) (qaD (L:=lps qUR) [(2,qCS)] (by kernel_rfl) (List.forall_mem_cons.2 ⟨fun fr σ e fr' σ' h=>qLh gl  fr σ e fr' σ' h,(List.forall_mem_nil _)⟩)) ?_
 intro args σ x h;unfold qSs at h
 split at h
 ·exact (congrArg Tr.run (qWK _ _)).trans (qae h fun h=>qae h fun h=>by cases h)
 ·cases h
def qTx:GamT:=ofL [(106,.may (frameT qcC)),(109,.may (frameT qjp)),(138,.may (frameT qyA)),(161,.may (frameT qSs)),(qdx,.flag)]
theorem qT8 (gl:Gl):qal Tryz.prog gl (gam qTx):=(qah (SimM.frameT (qbB gl)) (qah (SimM.frameT (qfo gl)) (qah (SimM.frameT (qtL gl)) (qah (SimM.frameT (qSb gl)) (qbt qaf)))))
def qVk:LpsT:=fun r fr σ=>.fail
section
variable (r:qR) (n:Int)
def qwJ:Tr (PR×Store):=let z1:=qad (qad r);let z2:=qad (qaa (qbu [40] z1 n));let z3:=qaa (qbr 6 [41] z2 n);let z4:=qad z3;let z5:=qad (qaa (qur z4 n));.ite (qbz [40] z1 n) (.ret (PR.pan (.iface 172 (.agg [.int .i64 (qbq [40] z1 n)])),Store.mk [[.sl (qaa (qaa (qbp [40] z1 n))) .non,.int .i64 n]] [] [138])) (.ite (qbA [40] z1 n) (.ite (qaP 6 [41] z2 n) (.ite (qbo 6 [41] z2 n) (.ret (PR.val (.sl [] .non),Store.mk [[.sl (qaa z3) .non,.int .i64 n]] [] [138])) (.ite (qG0 z4 n) (.ret (PR.pan (.iface 172 (.agg [.int .i64 (qBF z4 n)])),Store.mk [[.sl (qaa (qaa (qCC z4 n))) .non,.int .i64 n]] [] [138])) (.ite (qFa z4 n) (.ite (qbz [41] z5 n) (.ret (PR.pan (.iface 172 (.agg [.int .i64 (qbq [41] z5 n)])),Store.mk [[.sl (qaa (qaa (qbp [41] z5 n))) .non,.int .i64 n]] [] [138])) (.ite (qbA [41] z5 n) (.ret (PR.val (.sl (qaa (qaa (qzE z4 n))) .non),Store.mk [[.sl (qaa (qaa (qbu [41] z5 n))) .non,.int .i64 n]] [] [138])) .fail)) .fail))) .fail) .fail)
theorem qWR:(nrmM tbT qTx qVk Tryz.f137 [.ptr 0 0,.mth 138 [.ptr 0 0]] ⟨[[.sl r .non,.int .i64 n]],[],[138]⟩).flat=qwJ r n:=by kernel_rfl
def qse:Option (PR×Store):=(qwJ r n).run
def qAd:Int:=oG (qse r n)
def qy5:qR:=qbd 0 0 (qse r n)
def qGH:Bool:=isW (qse r n) ((.pan (.iface 172 (.agg [.int .i64 (qAd r n)]))),⟨[[.sl (qy5 r n) .non,.int .i64 n]],[],[138]⟩)
def qzT:qR:=qCT (qse r n)
def qsP:qR:=qbd 0 0 (qse r n)
def qFM:Bool:=isW (qse r n) ((.val (.sl (qzT r n) .non)),⟨[[.sl (qsP r n) .non,.int .i64 n]],[],[138]⟩)
end
def qRO:List PV→Store→Tr (PR×Store)|[.ptr 0 0,.mth 138 [.ptr 0 0]],⟨[[.sl r .non,.int .i64 n]],[],[138]⟩=>.ite (qGH r n) (.ret ((.pan (.iface 172 (.agg [.int .i64 (qAd r n)]))),⟨[[.sl (qy5 r n) .non,.int .i64 n]],[],[138]⟩)) (.ite (qFM r n) (.ret ((.val (.sl (qzT r n) .non)),⟨[[.sl (qsP r n) .non,.int .i64 n]],[],[138]⟩)) (.fail))|_,_=>.fail
theorem qUO (gl:Gl):SimM Tryz.prog gl 137 fun args σ=>(qRO args σ).run:=by
 refine SimM.of_nrm (G:=qTx) (L:=qVk) qaj (qT8 gl ) qai Tryz.func137 rfl (by rfl) (by kernel_rfl) (qac (by kernel_rfl)) ?_
 intro args σ x h;unfold qRO at h
 split at h
 ·exact (congrArg Tr.run (qWR _ _)).trans (qae h fun h=>qae h fun h=>by cases h)
 ·cases h
def qEW:GamT:=ofL [(109,.may (frameT qjp)),(111,.may (frameT qxg)),(136,.may (frameT qkH)),(137,.may (frameT qRO)),(138,.may (frameT qyA)),(qdx,.flag)]
theorem qNn (gl:Gl):qal Tryz.prog gl (gam qEW):=(qah (SimM.frameT (qfo gl)) (qah (SimM.frameT (qvp gl)) (qah (SimM.frameT (qhb gl)) (qah (SimM.frameT (qUO gl)) (qah (SimM.frameT (qtL gl)) (qbt qaf))))))
def qMp:LpsT:=fun r fr σ=>.fail
section
variable (r:qR) (n:Int)
def qpG:Tr (PR×Store):=let z1:=qad (qad r);let z2:=qad (qaa (qin z1 n));let z3:=qad (qaa (qhM z2 n));let z4:=qad (qaa (qsP z3 n));.ite (qdz z1 n) (.ite (qj0 z2 n) (.ret (PR.pan (.iface 172 (.agg [.int .i64 (qhi z2 n)])),Store.mk [[.sl (qaa (qaa (qh0 z2 n))) .non,.int .i64 n]] [] [138])) (.ite (qj7 z2 n) (.ite (qGH z3 n) (.ret (PR.pan (.iface 172 (.agg [.int .i64 (qAd z3 n)])),Store.mk [[.sl (qaa (qaa (qy5 z3 n))) .non,.int .i64 n]] [] [138])) (.ite (qFM z3 n) (.ite (qbz [46] z4 n) (.ret (PR.pan (.iface 172 (.agg [.int .i64 (qbq [46] z4 n)])),Store.mk [[.sl (qaa (qaa (qbp [46] z4 n))) .non,.int .i64 n]] [] [138])) (.ite (qbA [46] z4 n) (.ret (PR.val (.agg [.str (qfX z2 n),.bool (sEq (qnZ z1 n) [98,97,115,101]),.sl (qaa (qaa (qzT z3 n))) .non]),Store.mk [[.sl (qaa (qaa (qbu [46] z4 n))) .non,.int .i64 n]] [] [138])) .fail)) .fail)) .fail)) .fail
theorem qSS:(nrmM tbT qEW qMp Tryz.f87 [.ptr 0 0] ⟨[[.sl r .non,.int .i64 n]],[],[138]⟩).flat=qpG r n:=by kernel_rfl
def qeC:Option (PR×Store):=(qpG r n).run
def qoM:Int:=oG (qeC r n)
def qql:qR:=qbd 0 0 (qeC r n)
def qu3:Bool:=isW (qeC r n) ((.pan (.iface 172 (.agg [.int .i64 (qoM r n)]))),⟨[[.sl (qql r n) .non,.int .i64 n]],[],[138]⟩)
def qqe:qU:=qbx 0 (qeC r n)
def qqi:Bool:=qQ8 1 (qeC r n)
def qpR:qR:=qet 2 (qeC r n)
def qk7:qR:=qbd 0 0 (qeC r n)
def qwg:Bool:=isW (qeC r n) ((.val (.agg [.str (qqe r n),.bool (qqi r n),.sl (qpR r n) .non])),⟨[[.sl (qk7 r n) .non,.int .i64 n]],[],[138]⟩)
end
def qEU:List PV→Store→Tr (PR×Store)|[.ptr 0 0],⟨[[.sl r .non,.int .i64 n]],[],[138]⟩=>.ite (qu3 r n) (.ret ((.pan (.iface 172 (.agg [.int .i64 (qoM r n)]))),⟨[[.sl (qql r n) .non,.int .i64 n]],[],[138]⟩)) (.ite (qwg r n) (.ret ((.val (.agg [.str (qqe r n),.bool (qqi r n),.sl (qpR r n) .non])),⟨[[.sl (qk7 r n) .non,.int .i64 n]],[],[138]⟩)) (.fail))|_,_=>.fail
theorem qOh (gl:Gl):SimM Tryz.prog gl 87 fun args σ=>(qEU args σ).run:=by
 refine SimM.of_nrm (G:=qEW) (L:=qMp) qaj (qNn gl ) qai Tryz.func87 rfl (by rfl) (by kernel_rfl) (qac (by kernel_rfl)) ?_
 intro args σ x h;unfold qEU at h
 split at h
 ·exact (congrArg Tr.run (qSS _ _)).trans (qae h fun h=>qae h fun h=>by cases h)
 ·cases h
def qKL:GamT:=ofL [(51,.may (frameT qqK)),(106,.may (frameT qcC)),(109,.may (frameT qjp))]
theorem qPP (gl:Gl):qal Tryz.prog gl (gam qKL):=(qah (SimM.frameT (qoQ gl)) (qah (SimM.frameT (qbB gl)) (qah (SimM.frameT (qfo gl)) qaf)))
def qQZ:LpsT:=fun r fr σ=>.fail
section
variable (r:qR) (n:Int)
def qxf:Tr (PR×Store):=let z1:=qad (qad r);let z2:=qbo 6 [43] z1 n;let z3:=qad (qaa (qbr 6 [43] z1 n));let z4:=qad (qaa (qbu [45] z3 n));.ite (qaP 6 [43] z1 n) (.ite (bNot z2) (.ite (qbz [45] z3 n) (.ret (PR.pan (.iface 172 (.agg [.int .i64 (qbq [45] z3 n)])),Store.mk [[.sl (qaa (qaa (qbp [45] z3 n))) .non,.int .i64 n]] [] [138])) (.ite (qbA [45] z3 n) (.ite (qeq z4 n) (.ret (PR.pan (.iface 172 (.agg [.int .i64 (qdC z4 n)])),Store.mk [[.sl (qaa (qaa (qdu z4 n))) .non,.int .i64 n]] [] [138])) (.ite (qer z4 n) (.ret (PR.val (.agg [.bool z2,.str (qcR z4 n),.sl (qaa (qaa (qep z4 n))) .non]),Store.mk [[.sl (qaa (qaa (qdb z4 n))) .non,.int .i64 n]] [] [138])) .fail)) .fail)) (.ite (qeq z3 n) (.ret (PR.pan (.iface 172 (.agg [.int .i64 (qdC z3 n)])),Store.mk [[.sl (qaa (qaa (qdu z3 n))) .non,.int .i64 n]] [] [138])) (.ite (qer z3 n) (.ret (PR.val (.agg [.bool z2,.str (qcR z3 n),.sl (qaa (qaa (qep z3 n))) .non]),Store.mk [[.sl (qaa (qaa (qdb z3 n))) .non,.int .i64 n]] [] [138])) .fail))) .fail
theorem qU0:(nrmM tbT qKL qQZ Tryz.f142 [.ptr 0 0] ⟨[[.sl r .non,.int .i64 n]],[],[138]⟩).flat=qxf r n:=by kernel_rfl
def qjJ:Option (PR×Store):=(qxf r n).run
def qlh:Int:=oG (qjJ r n)
def qkZ:qR:=qbd 0 0 (qjJ r n)
def qoW:Bool:=isW (qjJ r n) ((.pan (.iface 172 (.agg [.int .i64 (qlh r n)]))),⟨[[.sl (qkZ r n) .non,.int .i64 n]],[],[138]⟩)
def qk3:Bool:=qQ8 0 (qjJ r n)
def qkX:qU:=qbx 1 (qjJ r n)
def qlg:qR:=qet 2 (qjJ r n)
def qh9:qR:=qbd 0 0 (qjJ r n)
def qof:Bool:=isW (qjJ r n) ((.val (.agg [.bool (qk3 r n),.str (qkX r n),.sl (qlg r n) .non])),⟨[[.sl (qh9 r n) .non,.int .i64 n]],[],[138]⟩)
end
def qHA:List PV→Store→Tr (PR×Store)|[.ptr 0 0],⟨[[.sl r .non,.int .i64 n]],[],[138]⟩=>.ite (qoW r n) (.ret ((.pan (.iface 172 (.agg [.int .i64 (qlh r n)]))),⟨[[.sl (qkZ r n) .non,.int .i64 n]],[],[138]⟩)) (.ite (qof r n) (.ret ((.val (.agg [.bool (qk3 r n),.str (qkX r n),.sl (qlg r n) .non])),⟨[[.sl (qh9 r n) .non,.int .i64 n]],[],[138]⟩)) (.fail))|_,_=>.fail
theorem qHM (gl:Gl):SimM Tryz.prog gl 142 fun args σ=>(qHA args σ).run:=by
 refine SimM.of_nrm (G:=qKL) (L:=qQZ) qaj (qPP gl ) qai Tryz.func142 rfl (by rfl) (by kernel_rfl) (qac (by kernel_rfl)) ?_
 intro args σ x h;unfold qHA at h
 split at h
 ·exact (congrArg Tr.run (qU0 _ _)).trans (qae h fun h=>qae h fun h=>by cases h)
 ·cases h
def qIG:GamT:=ofL [(106,.may (frameT qcC)),(142,.may (frameT qHA)),(qdx,.flag)]
theorem qKk (gl:Gl):qal Tryz.prog gl (gam qIG):=(qah (SimM.frameT (qbB gl)) (qah (SimM.frameT (qHM gl)) (qbt qaf)))
def qDN:Code:=qfZ Tryz.f141 2
def qDJ:LI:=⟨17,[0,1,5],fun e=>match e with|.exit 0=>[5]|_=>[],false⟩
def qy7:LpsT:=fun r fr σ=>.fail
def qjN (vs:List PV) (σ:Store):Option (PExit×List PV×Store):=lval (lstep tbT qIG qy7 qDN qDJ) vs σ
section
variable (l r:qR) (n:Int)
def qw7:Tr LR:=let z1:=qaa (qbr 6 [44] (qad r) n);let z2:=qad z1;let z3:qR:=[[.bool (qk3 z2 n),.str (qkX z2 n),.sl (qaa (qlg z2 n)) .non]];.ite (qaP 6 [44] (qad r) n) (.ite (qbo 6 [44] (qad r) n) (.ite (qoW z2 n) (.ret (.out (.pan (.iface 172 (.agg [.int .i64 (qlh z2 n)]))) [] (Store.mk [[.sl (qaa (qkZ z2 n)) .non,.int .i64 n]] [] [138]))) (.ite (qof z2 n) (.ite (qav l z3 48) (.ite (qaq z3 3) (.ite (qao l 3) (.ret (.next [.ptr 0 0,.mth 142 [.ptr 0 0],.sl (xApp l z3) (.tok 0)] (Store.mk [[.sl (qaa (qh9 z2 n)) .non,.int .i64 n]] [(nXs (xApp l z3),3,116)] [138]))) .fail) .fail) .fail) .fail)) (.ret (.out (.exit 0) [.sl l .full] (Store.mk [[.sl z1 .non,.int .i64 n]] [] [138])))) .fail
theorem qUY:lstep tbT qIG qy7 qDN qDJ [.ptr 0 0,.mth 142 [.ptr 0 0],.sl l .full] ⟨[[.sl r .non,.int .i64 n]],[],[138]⟩=qw7 l r n:=by kernel_rfl
theorem qVF:qjN [.ptr 0 0,.mth 142 [.ptr 0 0],.sl l .full] ⟨[[.sl r .non,.int .i64 n]],[],[138]⟩=lnext qjN (qw7 l r n).run:=by unfold qjN;rw [qaQ,qUY]
end
section
variable (l r:qR) (n:Int) (k:Nat)
def qqh:Tr LR:=let z1:=qaa (qbr 6 [44] (qad r) n);let z2:=qad z1;let z3:qR:=[[.bool (qk3 z2 n),.str (qkX z2 n),.sl (qaa (qlg z2 n)) .non]];.ite (qaP 6 [44] (qad r) n) (.ite (qbo 6 [44] (qad r) n) (.ite (qoW z2 n) (.ret (.out (.pan (.iface 172 (.agg [.int .i64 (qlh z2 n)]))) [] (Store.mk [[.sl (qaa (qkZ z2 n)) .non,.int .i64 n]] [(k,3,116)] [138]))) (.ite (qof z2 n) (.ite (qav l z3 48) (.ite (qaq z3 3) (.ite (qao l 3) (.ite (nEq k (nXs l)) (.ret (.next [.ptr 0 0,.mth 142 [.ptr 0 0],.sl (xApp l z3) (.tok 0)] (Store.mk [[.sl (qaa (qh9 z2 n)) .non,.int .i64 n]] [(nXs (xApp l z3),3,116)] [138]))) .fail) .fail) .fail) .fail) .fail)) (.ret (.out (.exit 0) [.sl l (.tok 0)] (Store.mk [[.sl z1 .non,.int .i64 n]] [(k,3,116)] [138])))) .fail
theorem qT2:lstep tbT qIG qy7 qDN qDJ [.ptr 0 0,.mth 142 [.ptr 0 0],.sl l (.tok 0)] ⟨[[.sl r .non,.int .i64 n]],[(k,3,116)],[138]⟩=qqh l r n k:=by kernel_rfl
theorem qSE:qjN [.ptr 0 0,.mth 142 [.ptr 0 0],.sl l (.tok 0)] ⟨[[.sl r .non,.int .i64 n]],[(k,3,116)],[138]⟩=lnext qjN (qqh l r n k).run:=by unfold qjN;rw [qaQ,qT2]
end
section
variable (l r:qR) (n:Int)
def qeO:Option (PExit×List PV×Store):=qjN [.ptr 0 0,.mth 142 [.ptr 0 0],.sl l .full] ⟨[[.sl r .non,.int .i64 n]],[],[138]⟩
def qum:Int:=(gInt (gAt (gCs (gAt (gCs (gPan (qeO l r n))) 0)) 0))
def qtR:qR:=qa8 0 0 (qeO l r n)
def qzj:Bool:=isW (qeO l r n) ((.pan (.iface 172 (.agg [.int .i64 (qum l r n)]))),[],⟨[[.sl (qtR l r n) .non,.int .i64 n]],[],[138]⟩)
def qul:qR:=qmV 0 (qeO l r n)
def qtY:qR:=qa8 0 0 (qeO l r n)
def qBZ:Bool:=isW (qeO l r n) ((.exit 0),[.sl (qul l r n) .full],⟨[[.sl (qtY l r n) .non,.int .i64 n]],[],[138]⟩)
def quJ:Int:=(gInt (gAt (gCs (gAt (gCs (gPan (qeO l r n))) 0)) 0))
def quq:qR:=qa8 0 0 (qeO l r n)
def qBs:Nat:=(gTok (qeO l r n) 0)
def qCz:Bool:=isW (qeO l r n) ((.pan (.iface 172 (.agg [.int .i64 (quJ l r n)]))),[],⟨[[.sl (quq l r n) .non,.int .i64 n]],[((qBs l r n),3,116)],[138]⟩)
def quC:qR:=qmV 0 (qeO l r n)
def qsr:qR:=qa8 0 0 (qeO l r n)
def qBk:Nat:=(gTok (qeO l r n) 0)
def qy8:Bool:=isW (qeO l r n) ((.exit 0),[.sl (quC l r n) (.tok 0)],⟨[[.sl (qsr l r n) .non,.int .i64 n]],[((qBk l r n),3,116)],[138]⟩)
end
def qqb:List PV→Store→Tr (PExit×List PV×Store)|[.ptr 0 0,.mth 142 [.ptr 0 0],.sl l .full],⟨[[.sl r .non,.int .i64 n]],[],[138]⟩=>.ite (qzj l r n) (.ret ((.pan (.iface 172 (.agg [.int .i64 (qum l r n)]))),[],⟨[[.sl (qtR l r n) .non,.int .i64 n]],[],[138]⟩)) (.ite (qBZ l r n) (.ret ((.exit 0),[.sl (qul l r n) .full],⟨[[.sl (qtY l r n) .non,.int .i64 n]],[],[138]⟩)) (.ite (qCz l r n) (.ret ((.pan (.iface 172 (.agg [.int .i64 (quJ l r n)]))),[],⟨[[.sl (quq l r n) .non,.int .i64 n]],[((qBs l r n),3,116)],[138]⟩)) (.ite (qy8 l r n) (.ret ((.exit 0),[.sl (quC l r n) (.tok 0)],⟨[[.sl (qsr l r n) .non,.int .i64 n]],[((qBk l r n),3,116)],[138]⟩)) (.fail))))|_,_=>.fail
theorem qUg:∀ vs σ r,(qqb vs σ).run=some r→qjN vs σ=some r:=by
 intro vs σ r h;unfold qqb at h
 split at h
 ·exact qae h fun h=>qae h fun h=>qae h fun h=>qae h fun h=>by cases h
 ·cases h
theorem qN6 (gl:Gl):∀ fr σ e fr' σ',(orc qDJ qqb fr σ).run=some (e,fr',σ')→LDoes Tryz.prog gl qDN fr σ e fr' σ':=qcB qaj (qKk gl ) qai (L:=qy7) (qac (by kernel_rfl)) (by kernel_rfl) qUg
def qTg:LpsT:=fun r fr σ=>bif Nat.beq r 2 then orc qDJ qqb fr σ else .fail
section
variable (r:qR) (n:Int)
def qDm:Tr (PR×Store):=let z1:=qad (qad r);let z2:qR:=[[.bool (qk3 z1 n),.str (qkX z1 n),.sl (qaa (qlg z1 n)) .non]];let z3:=qaa (qh9 z1 n);.ite (qoW z1 n) (.ret (PR.pan (.iface 172 (.agg [.int .i64 (qlh z1 n)])),Store.mk [[.sl (qaa (qaa (qkZ z1 n))) .non,.int .i64 n]] [] [138])) (.ite (qof z1 n) (.ite (qzj z2 z3 n) (.ret (PR.pan (.iface 172 (.agg [.int .i64 (qum z2 z3 n)])),Store.mk [[.sl (qaa (qtR z2 z3 n)) .non,.int .i64 n]] [] [138])) (.ite (qBZ z2 z3 n) (.ret (PR.val (.sl (qaa (qul z2 z3 n)) .non),Store.mk [[.sl (qaa (qtY z2 z3 n)) .non,.int .i64 n]] [] [138])) (.ite (qCz z2 z3 n) (.ret (PR.pan (.iface 172 (.agg [.int .i64 (quJ z2 z3 n)])),Store.mk [[.sl (qaa (quq z2 z3 n)) .non,.int .i64 n]] [] [138])) (.ite (qy8 z2 z3 n) (.ret (PR.val (.sl (qaa (quC z2 z3 n)) .non),Store.mk [[.sl (qaa (qsr z2 z3 n)) .non,.int .i64 n]] [] [138])) .fail)))) .fail)
theorem qWL:(nrmM tbT qIG qTg Tryz.f141 [.ptr 0 0,.mth 142 [.ptr 0 0]] ⟨[[.sl r .non,.int .i64 n]],[],[138]⟩).flat=qDm r n:=by kernel_rfl
def qxt:Option (PR×Store):=(qDm r n).run
def qBV:Int:=oG (qxt r n)
def qCB:qR:=qbd 0 0 (qxt r n)
def qGX:Bool:=isW (qxt r n) ((.pan (.iface 172 (.agg [.int .i64 (qBV r n)]))),⟨[[.sl (qCB r n) .non,.int .i64 n]],[],[138]⟩)
def qAv:qR:=qCT (qxt r n)
def qsz:qR:=qbd 0 0 (qxt r n)
def qGD:Bool:=isW (qxt r n) ((.val (.sl (qAv r n) .non)),⟨[[.sl (qsz r n) .non,.int .i64 n]],[],[138]⟩)
end
def qTT:List PV→Store→Tr (PR×Store)|[.ptr 0 0,.mth 142 [.ptr 0 0]],⟨[[.sl r .non,.int .i64 n]],[],[138]⟩=>.ite (qGX r n) (.ret ((.pan (.iface 172 (.agg [.int .i64 (qBV r n)]))),⟨[[.sl (qCB r n) .non,.int .i64 n]],[],[138]⟩)) (.ite (qGD r n) (.ret ((.val (.sl (qAv r n) .non)),⟨[[.sl (qsz r n) .non,.int .i64 n]],[],[138]⟩)) (.fail))|_,_=>.fail
theorem qUI (gl:Gl):SimM Tryz.prog gl 141 fun args σ=>(qTT args σ).run:=by
 refine SimM.of_nrm (G:=qIG) (L:=qTg) qaj (qKk gl ) qai Tryz.func141 rfl (by rfl) (by kernel_rfl) (qaD (L:=lps qTg) [(2,qDN)] (by kernel_rfl) (List.forall_mem_cons.2 ⟨fun fr σ e fr' σ' h=>qN6 gl  fr σ e fr' σ' h,(List.forall_mem_nil _)⟩)) ?_
 intro args σ x h;unfold qTT at h
 split at h
 ·exact (congrArg Tr.run (qWL _ _)).trans (qae h fun h=>qae h fun h=>by cases h)
 ·cases h
def qAy:GamT:=ofL [(138,.may (frameT qyA)),(150,.may (frameT quV))]
theorem qJy (gl:Gl):qal Tryz.prog gl (gam qAy):=(qah (SimM.frameT (qtL gl)) (qah (SimM.frameT (qwz gl)) qaf))
def qHV:LpsT:=fun r fr σ=>.fail
section
variable (r:qR) (n:Int)
def qps:Tr (PR×Store):=let z1:=qad (qad r);let z2:=qad (qaa (qig 2 [] z1 n));.ite (qj9 2 [] z1 n) (.ret (PR.pan (.iface 172 (.agg [.int .i64 (qhN 2 [] z1 n)])),Store.mk [[.sl (qaa (qaa (qhC 2 [] z1 n))) .non,.int .i64 n]] [] [138])) (.ite (qkA 2 [] z1 n) (.ite (qlY z2 n) (.ret (PR.val (.agg [.str (qpb 2 [] z1 n),.int .i64 (qjb z2 n)]),Store.mk [[.sl (qaa (qaa (qiD z2 n))) .non,.int .i64 n]] [] [138])) (.ite (qle z2 n) (.ret (PR.pan (.iface 172 (.agg [.int .i64 (qiw z2 n)])),Store.mk [[.sl (qaa (qaa (qji z2 n))) .non,.int .i64 n]] [] [138])) .fail)) .fail)
theorem qOv:(nrmM tbT qAy qHV Tryz.f140 [.ptr 0 0] ⟨[[.sl r .non,.int .i64 n]],[],[138]⟩).flat=qps r n:=by kernel_rfl
def qed:Option (PR×Store):=(qps r n).run
def qe8:Int:=oG (qed r n)
def qfd:qR:=qbd 0 0 (qed r n)
def qh7:Bool:=isW (qed r n) ((.pan (.iface 172 (.agg [.int .i64 (qe8 r n)]))),⟨[[.sl (qfd r n) .non,.int .i64 n]],[],[138]⟩)
def qfm:qU:=qbx 0 (qed r n)
def qeZ:Int:=qa7 1 (qed r n)
def qe2:qR:=qbd 0 0 (qed r n)
def qhD:Bool:=isW (qed r n) ((.val (.agg [.str (qfm r n),.int .i64 (qeZ r n)])),⟨[[.sl (qe2 r n) .non,.int .i64 n]],[],[138]⟩)
end
def qpy:List PV→Store→Tr (PR×Store)|[.ptr 0 0],⟨[[.sl r .non,.int .i64 n]],[],[138]⟩=>.ite (qh7 r n) (.ret ((.pan (.iface 172 (.agg [.int .i64 (qe8 r n)]))),⟨[[.sl (qfd r n) .non,.int .i64 n]],[],[138]⟩)) (.ite (qhD r n) (.ret ((.val (.agg [.str (qfm r n),.int .i64 (qeZ r n)])),⟨[[.sl (qe2 r n) .non,.int .i64 n]],[],[138]⟩)) (.fail))|_,_=>.fail
theorem qqZ (gl:Gl):SimM Tryz.prog gl 140 fun args σ=>(qpy args σ).run:=by
 refine SimM.of_nrm (G:=qAy) (L:=qHV) qaj (qJy gl ) qai Tryz.func140 rfl (by rfl) (by kernel_rfl) (qac (by kernel_rfl)) ?_
 intro args σ x h;unfold qpy at h
 split at h
 ·exact (congrArg Tr.run (qOv _ _)).trans (qae h fun h=>qae h fun h=>by cases h)
 ·cases h
def qJi:GamT:=ofL [(106,.may (frameT qcC)),(140,.may (frameT qpy)),(qdx,.flag)]
theorem qLf (gl:Gl):qal Tryz.prog gl (gam qJi):=(qah (SimM.frameT (qbB gl)) (qah (SimM.frameT (qqZ gl)) (qbt qaf)))
def qDt:Code:=qfZ Tryz.f162 2
def qEg:LI:=⟨17,[0,1,5],fun e=>match e with|.exit 0=>[5]|_=>[],false⟩
def qAb:LpsT:=fun r fr σ=>.fail
def qjM (vs:List PV) (σ:Store):Option (PExit×List PV×Store):=lval (lstep tbT qJi qAb qDt qEg) vs σ
section
variable (l r:qR) (n:Int)
def quW:Tr LR:=let z1:=qaa (qbr 6 [44] (qad r) n);let z2:=qad z1;let z3:qR:=[[.str (qfm z2 n),.int .i64 (qeZ z2 n)]];.ite (qaP 6 [44] (qad r) n) (.ite (qbo 6 [44] (qad r) n) (.ite (qh7 z2 n) (.ret (.out (.pan (.iface 172 (.agg [.int .i64 (qe8 z2 n)]))) [] (Store.mk [[.sl (qaa (qfd z2 n)) .non,.int .i64 n]] [] [138]))) (.ite (qhD z2 n) (.ite (qav l z3 24) (.ite (qaq z3 2) (.ite (qao l 2) (.ret (.next [.ptr 0 0,.mth 140 [.ptr 0 0],.sl (xApp l z3) (.tok 0)] (Store.mk [[.sl (qaa (qe2 z2 n)) .non,.int .i64 n]] [(nXs (xApp l z3),2,114)] [138]))) .fail) .fail) .fail) .fail)) (.ret (.out (.exit 0) [.sl l .full] (Store.mk [[.sl z1 .non,.int .i64 n]] [] [138])))) .fail
theorem qU8:lstep tbT qJi qAb qDt qEg [.ptr 0 0,.mth 140 [.ptr 0 0],.sl l .full] ⟨[[.sl r .non,.int .i64 n]],[],[138]⟩=quW l r n:=by kernel_rfl
theorem qV8:qjM [.ptr 0 0,.mth 140 [.ptr 0 0],.sl l .full] ⟨[[.sl r .non,.int .i64 n]],[],[138]⟩=lnext qjM (quW l r n).run:=by unfold qjM;rw [qaQ,qU8]
end
section
variable (l r:qR) (n:Int) (k:Nat)
def qqn:Tr LR:=let z1:=qaa (qbr 6 [44] (qad r) n);let z2:=qad z1;let z3:qR:=[[.str (qfm z2 n),.int .i64 (qeZ z2 n)]];.ite (qaP 6 [44] (qad r) n) (.ite (qbo 6 [44] (qad r) n) (.ite (qh7 z2 n) (.ret (.out (.pan (.iface 172 (.agg [.int .i64 (qe8 z2 n)]))) [] (Store.mk [[.sl (qaa (qfd z2 n)) .non,.int .i64 n]] [(k,2,114)] [138]))) (.ite (qhD z2 n) (.ite (qav l z3 24) (.ite (qaq z3 2) (.ite (qao l 2) (.ite (nEq k (nXs l)) (.ret (.next [.ptr 0 0,.mth 140 [.ptr 0 0],.sl (xApp l z3) (.tok 0)] (Store.mk [[.sl (qaa (qe2 z2 n)) .non,.int .i64 n]] [(nXs (xApp l z3),2,114)] [138]))) .fail) .fail) .fail) .fail) .fail)) (.ret (.out (.exit 0) [.sl l (.tok 0)] (Store.mk [[.sl z1 .non,.int .i64 n]] [(k,2,114)] [138])))) .fail
theorem qTc:lstep tbT qJi qAb qDt qEg [.ptr 0 0,.mth 140 [.ptr 0 0],.sl l (.tok 0)] ⟨[[.sl r .non,.int .i64 n]],[(k,2,114)],[138]⟩=qqn l r n k:=by kernel_rfl
theorem qRQ:qjM [.ptr 0 0,.mth 140 [.ptr 0 0],.sl l (.tok 0)] ⟨[[.sl r .non,.int .i64 n]],[(k,2,114)],[138]⟩=lnext qjM (qqn l r n k).run:=by unfold qjM;rw [qaQ,qTc]
end
section
variable (l r:qR) (n:Int)
def qeL:Option (PExit×List PV×Store):=qjM [.ptr 0 0,.mth 140 [.ptr 0 0],.sl l .full] ⟨[[.sl r .non,.int .i64 n]],[],[138]⟩
def qt9:Int:=(gInt (gAt (gCs (gAt (gCs (gPan (qeL l r n))) 0)) 0))
def qsV:qR:=qa8 0 0 (qeL l r n)
def qAT:Bool:=isW (qeL l r n) ((.pan (.iface 172 (.agg [.int .i64 (qt9 l r n)]))),[],⟨[[.sl (qsV l r n) .non,.int .i64 n]],[],[138]⟩)
def qs3:qR:=qmV 0 (qeL l r n)
def qsO:qR:=qa8 0 0 (qeL l r n)
def qCp:Bool:=isW (qeL l r n) ((.exit 0),[.sl (qs3 l r n) .full],⟨[[.sl (qsO l r n) .non,.int .i64 n]],[],[138]⟩)
def qs9:Int:=(gInt (gAt (gCs (gAt (gCs (gPan (qeL l r n))) 0)) 0))
def quh:qR:=qa8 0 0 (qeL l r n)
def qBO:Nat:=(gTok (qeL l r n) 0)
def qAa:Bool:=isW (qeL l r n) ((.pan (.iface 172 (.agg [.int .i64 (qs9 l r n)]))),[],⟨[[.sl (quh l r n) .non,.int .i64 n]],[((qBO l r n),2,114)],[138]⟩)
def qtk:qR:=qmV 0 (qeL l r n)
def qs5:qR:=qa8 0 0 (qeL l r n)
def qAt:Nat:=(gTok (qeL l r n) 0)
def qAs:Bool:=isW (qeL l r n) ((.exit 0),[.sl (qtk l r n) (.tok 0)],⟨[[.sl (qs5 l r n) .non,.int .i64 n]],[((qAt l r n),2,114)],[138]⟩)
end
def qoG:List PV→Store→Tr (PExit×List PV×Store)|[.ptr 0 0,.mth 140 [.ptr 0 0],.sl l .full],⟨[[.sl r .non,.int .i64 n]],[],[138]⟩=>.ite (qAT l r n) (.ret ((.pan (.iface 172 (.agg [.int .i64 (qt9 l r n)]))),[],⟨[[.sl (qsV l r n) .non,.int .i64 n]],[],[138]⟩)) (.ite (qCp l r n) (.ret ((.exit 0),[.sl (qs3 l r n) .full],⟨[[.sl (qsO l r n) .non,.int .i64 n]],[],[138]⟩)) (.ite (qAa l r n) (.ret ((.pan (.iface 172 (.agg [.int .i64 (qs9 l r n)]))),[],⟨[[.sl (quh l r n) .non,.int .i64 n]],[((qBO l r n),2,114)],[138]⟩)) (.ite (qAs l r n) (.ret ((.exit 0),[.sl (qtk l r n) (.tok 0)],⟨[[.sl (qs5 l r n) .non,.int .i64 n]],[((qAt l r n),2,114)],[138]⟩)) (.fail))))|_,_=>.fail
theorem qUB:∀ vs σ r,(qoG vs σ).run=some r→qjM vs σ=some r:=by
 intro vs σ r h;unfold qoG at h
 split at h
 ·exact qae h fun h=>qae h fun h=>qae h fun h=>qae h fun h=>by cases h
 ·cases h
theorem qMU (gl:Gl):∀ fr σ e fr' σ',(orc qEg qoG fr σ).run=some (e,fr',σ')→LDoes Tryz.prog gl qDt fr σ e fr' σ':=qcB qaj (qLf gl ) qai (L:=qAb) (qac (by kernel_rfl)) (by kernel_rfl) qUB
def qSm:LpsT:=fun r fr σ=>bif Nat.beq r 2 then orc qEg qoG fr σ else .fail
section
variable (r:qR) (n:Int)
def qD3:Tr (PR×Store):=let z1:=qad (qad r);let z2:qR:=[[.str (qfm z1 n),.int .i64 (qeZ z1 n)]];let z3:=qaa (qe2 z1 n);.ite (qh7 z1 n) (.ret (PR.pan (.iface 172 (.agg [.int .i64 (qe8 z1 n)])),Store.mk [[.sl (qaa (qaa (qfd z1 n))) .non,.int .i64 n]] [] [138])) (.ite (qhD z1 n) (.ite (qAT z2 z3 n) (.ret (PR.pan (.iface 172 (.agg [.int .i64 (qt9 z2 z3 n)])),Store.mk [[.sl (qaa (qsV z2 z3 n)) .non,.int .i64 n]] [] [138])) (.ite (qCp z2 z3 n) (.ret (PR.val (.sl (qaa (qs3 z2 z3 n)) .non),Store.mk [[.sl (qaa (qsO z2 z3 n)) .non,.int .i64 n]] [] [138])) (.ite (qAa z2 z3 n) (.ret (PR.pan (.iface 172 (.agg [.int .i64 (qs9 z2 z3 n)])),Store.mk [[.sl (qaa (quh z2 z3 n)) .non,.int .i64 n]] [] [138])) (.ite (qAs z2 z3 n) (.ret (PR.val (.sl (qaa (qtk z2 z3 n)) .non),Store.mk [[.sl (qaa (qs5 z2 z3 n)) .non,.int .i64 n]] [] [138])) .fail)))) .fail)
theorem qWx:(nrmM tbT qJi qSm Tryz.f162 [.ptr 0 0,.mth 140 [.ptr 0 0]] ⟨[[.sl r .non,.int .i64 n]],[],[138]⟩).flat=qD3 r n:=by kernel_rfl
def qxz:Option (PR×Store):=(qD3 r n).run
def qzu:Int:=oG (qxz r n)
def qAx:qR:=qbd 0 0 (qxz r n)
def qGi:Bool:=isW (qxz r n) ((.pan (.iface 172 (.agg [.int .i64 (qzu r n)]))),⟨[[.sl (qAx r n) .non,.int .i64 n]],[],[138]⟩)
def qAH:qR:=qCT (qxz r n)
def qtJ:qR:=qbd 0 0 (qxz r n)
def qEO:Bool:=isW (qxz r n) ((.val (.sl (qAH r n) .non)),⟨[[.sl (qtJ r n) .non,.int .i64 n]],[],[138]⟩)
end
def qTi:List PV→Store→Tr (PR×Store)|[.ptr 0 0,.mth 140 [.ptr 0 0]],⟨[[.sl r .non,.int .i64 n]],[],[138]⟩=>.ite (qGi r n) (.ret ((.pan (.iface 172 (.agg [.int .i64 (qzu r n)]))),⟨[[.sl (qAx r n) .non,.int .i64 n]],[],[138]⟩)) (.ite (qEO r n) (.ret ((.val (.sl (qAH r n) .non)),⟨[[.sl (qtJ r n) .non,.int .i64 n]],[],[138]⟩)) (.fail))|_,_=>.fail
theorem qRT (gl:Gl):SimM Tryz.prog gl 162 fun args σ=>(qTi args σ).run:=by
 refine SimM.of_nrm (G:=qJi) (L:=qSm) qaj (qLf gl ) qai Tryz.func162 rfl (by rfl) (by kernel_rfl) (qaD (L:=lps qSm) [(2,qDt)] (by kernel_rfl) (List.forall_mem_cons.2 ⟨fun fr σ e fr' σ' h=>qMU gl  fr σ e fr' σ' h,(List.forall_mem_nil _)⟩)) ?_
 intro args σ x h;unfold qTi at h
 split at h
 ·exact (congrArg Tr.run (qWx _ _)).trans (qae h fun h=>qae h fun h=>by cases h)
 ·cases h
def qR2:GamT:=ofL [(106,.may (frameT qcC)),(109,.may (frameT qjp)),(140,.may (frameT qpy)),(162,.may (frameT qTi)),(qdx,.flag)]
theorem qRD (gl:Gl):qal Tryz.prog gl (gam qR2):=(qah (SimM.frameT (qbB gl)) (qah (SimM.frameT (qfo gl)) (qah (SimM.frameT (qqZ gl)) (qah (SimM.frameT (qRT gl)) (qbt qaf)))))
def qVZ:LpsT:=fun r fr σ=>.fail
section
variable (r:qR) (n:Int)
def qvY:Tr (PR×Store):=let z1:=qad (qad r);let z2:=qad (qaa (qbu [40] z1 n));let z3:=qaa (qbr 6 [41] z2 n);let z4:=qad z3;let z5:=qad (qaa (qtJ z4 n));.ite (qbz [40] z1 n) (.ret (PR.pan (.iface 172 (.agg [.int .i64 (qbq [40] z1 n)])),Store.mk [[.sl (qaa (qaa (qbp [40] z1 n))) .non,.int .i64 n]] [] [138])) (.ite (qbA [40] z1 n) (.ite (qaP 6 [41] z2 n) (.ite (qbo 6 [41] z2 n) (.ret (PR.val (.sl [] .non),Store.mk [[.sl (qaa z3) .non,.int .i64 n]] [] [138])) (.ite (qGi z4 n) (.ret (PR.pan (.iface 172 (.agg [.int .i64 (qzu z4 n)])),Store.mk [[.sl (qaa (qaa (qAx z4 n))) .non,.int .i64 n]] [] [138])) (.ite (qEO z4 n) (.ite (qbz [41] z5 n) (.ret (PR.pan (.iface 172 (.agg [.int .i64 (qbq [41] z5 n)])),Store.mk [[.sl (qaa (qaa (qbp [41] z5 n))) .non,.int .i64 n]] [] [138])) (.ite (qbA [41] z5 n) (.ret (PR.val (.sl (qaa (qaa (qAH z4 n))) .non),Store.mk [[.sl (qaa (qaa (qbu [41] z5 n))) .non,.int .i64 n]] [] [138])) .fail)) .fail))) .fail) .fail)
theorem qWN:(nrmM tbT qR2 qVZ Tryz.f139 [.ptr 0 0,.mth 140 [.ptr 0 0]] ⟨[[.sl r .non,.int .i64 n]],[],[138]⟩).flat=qvY r n:=by kernel_rfl
def qsl:Option (PR×Store):=(qvY r n).run
def qAQ:Int:=oG (qsl r n)
def qBH:qR:=qbd 0 0 (qsl r n)
def qGL:Bool:=isW (qsl r n) ((.pan (.iface 172 (.agg [.int .i64 (qAQ r n)]))),⟨[[.sl (qBH r n) .non,.int .i64 n]],[],[138]⟩)
def qBt:qR:=qCT (qsl r n)
def qtz:qR:=qbd 0 0 (qsl r n)
def qG3:Bool:=isW (qsl r n) ((.val (.sl (qBt r n) .non)),⟨[[.sl (qtz r n) .non,.int .i64 n]],[],[138]⟩)
end
def qSo:List PV→Store→Tr (PR×Store)|[.ptr 0 0,.mth 140 [.ptr 0 0]],⟨[[.sl r .non,.int .i64 n]],[],[138]⟩=>.ite (qGL r n) (.ret ((.pan (.iface 172 (.agg [.int .i64 (qAQ r n)]))),⟨[[.sl (qBH r n) .non,.int .i64 n]],[],[138]⟩)) (.ite (qG3 r n) (.ret ((.val (.sl (qBt r n) .non)),⟨[[.sl (qtz r n) .non,.int .i64 n]],[],[138]⟩)) (.fail))|_,_=>.fail
theorem qTs (gl:Gl):SimM Tryz.prog gl 139 fun args σ=>(qSo args σ).run:=by
 refine SimM.of_nrm (G:=qR2) (L:=qVZ) qaj (qRD gl ) qai Tryz.func139 rfl (by rfl) (by kernel_rfl) (qac (by kernel_rfl)) ?_
 intro args σ x h;unfold qSo at h
 split at h
 ·exact (congrArg Tr.run (qWN _ _)).trans (qae h fun h=>qae h fun h=>by cases h)
 ·cases h
def qRL:GamT:=ofL [(106,.may (frameT qcC)),(109,.may (frameT qjp)),(111,.may (frameT qxg)),(136,.may (frameT qkH)),(139,.may (frameT qSo)),(140,.may (frameT qpy)),(141,.may (frameT qTT)),(142,.may (frameT qHA)),(qdx,.flag)]
theorem qSt (gl:Gl):qal Tryz.prog gl (gam qRL):=(qah (SimM.frameT (qbB gl)) (qah (SimM.frameT (qfo gl)) (qah (SimM.frameT (qvp gl)) (qah (SimM.frameT (qhb gl)) (qah (SimM.frameT (qTs gl)) (qah (SimM.frameT (qqZ gl)) (qah (SimM.frameT (qUI gl)) (qah (SimM.frameT (qHM gl)) (qbt qaf)))))))))
def qUX:LpsT:=fun r fr σ=>.fail
section
variable (r:qR) (n:Int)
def qu2:Tr (PR×Store):=let z1:=qad (qaa (qin (qad (qad r)) n));let z2:=qad (qaa (qhM z1 n));let z3:=qad (qaa (qtz z2 n));let z4:=qad (qaa (qbr 6 [58] z3 n));let z5:=qad (qaa (qsz z4 n));let z6:=qaa (qaa (qBt z2 n));.ite (qdz (qad (qad r)) n) (.ite (qj0 z1 n) (.ret (PR.pan (.iface 172 (.agg [.int .i64 (qhi z1 n)])),Store.mk [[.sl (qaa (qaa (qh0 z1 n))) .non,.int .i64 n]] [] [138])) (.ite (qj7 z1 n) (.ite (qGL z2 n) (.ret (PR.pan (.iface 172 (.agg [.int .i64 (qAQ z2 n)])),Store.mk [[.sl (qaa (qaa (qBH z2 n))) .non,.int .i64 n]] [] [138])) (.ite (qG3 z2 n) (.ite (qaP 6 [58] z3 n) (.ite (qbo 6 [58] z3 n) (.ite (qGX z4 n) (.ret (PR.pan (.iface 172 (.agg [.int .i64 (qBV z4 n)])),Store.mk [[.sl (qaa (qaa (qCB z4 n))) .non,.int .i64 n]] [] [138])) (.ite (qGD z4 n) (.ite (qbz [46] z5 n) (.ret (PR.pan (.iface 172 (.agg [.int .i64 (qbq [46] z5 n)])),Store.mk [[.sl (qaa (qaa (qbp [46] z5 n))) .non,.int .i64 n]] [] [138])) (.ite (qbA [46] z5 n) (.ret (PR.val (.agg [.str (qfX z1 n),.sl z6 .non,.sl (qaa (qaa (qAv z4 n))) .non]),Store.mk [[.sl (qaa (qaa (qbu [46] z5 n))) .non,.int .i64 n]] [] [138])) .fail)) .fail)) (.ite (qbz [46] z4 n) (.ret (PR.pan (.iface 172 (.agg [.int .i64 (qbq [46] z4 n)])),Store.mk [[.sl (qaa (qaa (qbp [46] z4 n))) .non,.int .i64 n]] [] [138])) (.ite (qbA [46] z4 n) (.ret (PR.val (.agg [.str (qfX z1 n),.sl z6 .non,.sl [] .non]),Store.mk [[.sl (qaa (qaa (qbu [46] z4 n))) .non,.int .i64 n]] [] [138])) .fail))) .fail) .fail)) .fail)) .fail
theorem qWI:(nrmM tbT qRL qUX Tryz.f88 [.ptr 0 0] ⟨[[.sl r .non,.int .i64 n]],[],[138]⟩).flat=qu2 r n:=by kernel_rfl
def qp0:Option (PR×Store):=(qu2 r n).run
def qA9:Int:=oG (qp0 r n)
def qCG:qR:=qbd 0 0 (qp0 r n)
def qFK:Bool:=isW (qp0 r n) ((.pan (.iface 172 (.agg [.int .i64 (qA9 r n)]))),⟨[[.sl (qCG r n) .non,.int .i64 n]],[],[138]⟩)
def qBd:qU:=qbx 0 (qp0 r n)
def qBU:qR:=qet 1 (qp0 r n)
def qtt:qR:=qet 2 (qp0 r n)
def qsR:qR:=qbd 0 0 (qp0 r n)
def qFj:Bool:=isW (qp0 r n) ((.val (.agg [.str (qBd r n),.sl (qBU r n) .non,.sl (qtt r n) .non])),⟨[[.sl (qsR r n) .non,.int .i64 n]],[],[138]⟩)
end
def qTh:List PV→Store→Tr (PR×Store)|[.ptr 0 0],⟨[[.sl r .non,.int .i64 n]],[],[138]⟩=>.ite (qFK r n) (.ret ((.pan (.iface 172 (.agg [.int .i64 (qA9 r n)]))),⟨[[.sl (qCG r n) .non,.int .i64 n]],[],[138]⟩)) (.ite (qFj r n) (.ret ((.val (.agg [.str (qBd r n),.sl (qBU r n) .non,.sl (qtt r n) .non])),⟨[[.sl (qsR r n) .non,.int .i64 n]],[],[138]⟩)) (.fail))|_,_=>.fail
theorem qRN (gl:Gl):SimM Tryz.prog gl 88 fun args σ=>(qTh args σ).run:=by
 refine SimM.of_nrm (G:=qRL) (L:=qUX) qaj (qSt gl ) qai Tryz.func88 rfl (by rfl) (by kernel_rfl) (qac (by kernel_rfl)) ?_
 intro args σ x h;unfold qTh at h
 split at h
 ·exact (congrArg Tr.run (qWI _ _)).trans (qae h fun h=>qae h fun h=>by cases h)
 ·cases h
def qvZ:GamT:=ofL [(47,.may (frameT qCE)),(86,.pure qGT),(87,.may (frameT qEU)),(88,.may (frameT qTh)),(quU,.hint [(3,0,3,80),(3,1,3,85),(3,2,3,51)])]
theorem qD2 (gl:Gl):qal Tryz.prog gl (gam qvZ):=(qah (SimM.frameT (qEk gl)) (qag (qu4 gl) (qah (SimM.frameT (qOh gl)) (qah (SimM.frameT (qRN gl)) (qcj (K:=.hint [(3,0,3,80),(3,1,3,85),(3,2,3,51)]) trivial qaf)))))
def qt3:Code:=qfZ Tryz.f35 2
def qtA:LI:=⟨41,[0,2,3],fun e=>match e with|.exit 0=>[2,3]|_=>[],false⟩
def qvR:LpsT:=fun r fr σ=>.fail
def qgw (vs:List PV) (σ:Store):Option (PExit×List PV×Store):=lval (lstep tbT qvZ qvR qt3 qtA) vs σ
section
variable (r:qR) (n:Int) (r2 r3 r4 r5 r6 r7:qR) (k k2 k3:Nat)
def qck:Tr LR:=let z1:=qad r;let z2:List PV:=[.sl r2 .full,.sl r3 .full,.sl r4 .full];let z3:List PV:=[.sl r5 (.tok 0),.sl r6 (.tok 1),.sl r7 (.tok 2)];let z4:qR:=[[.str (qqe z1 n),.bool (qqi z1 n),.sl (qaa (qpR z1 n)) .non]];let z5:List PV:=[.ptr 0 0,.ptr 1 0,.ptr 2 0];let z6:Tr LR:=.ite (qu3 z1 n) (.ret (.out (.pan (.iface 172 (.agg [.int .i64 (qoM z1 n)]))) [] (Store.mk [[.sl (qaa (qql z1 n)) .non,.int .i64 n],z2,z3] [(k,3,80),(k2,3,85),(k3,3,51)] [138,27,27]))) (.ite (qwg z1 n) (.ite (qg6 z3 z3) (.ite (qav r5 z4 48) (.ite (qaq z4 3) (.ite (qao r5 3) (.ite (nEq k (nXs r5)) (.ret (.next z5 (Store.mk [[.sl (qaa (qk7 z1 n)) .non,.int .i64 n],z2,[.sl (xApp r5 z4) (.tok 0),.sl r6 (.tok 1),.sl r7 (.tok 2)]] [(nXs (xApp r5 z4),3,80),(k2,3,85),(k3,3,51)] [138,27,27]))) .fail) .fail) .fail) .fail) .fail) .fail);let z7:qR:=[[.str (qBd z1 n),.sl (qaa (qBU z1 n)) .non,.sl (qaa (qtt z1 n)) .non]];let z8:qR:=[[.str (qku z1 n),.sl (qaa (qjY z1 n)) .non,.sl (qaa (qhX z1 n)) .non]];.ite (iLt 0 (xLen r)) (.ite (qfv z1 n 1 [98,97,115,101]) (.ite (qsf z1 n 1 [98,97,115,101]) z6 (.ite (qfv z1 n 1 [118,105,101,119]) (.ite (qsf z1 n 1 [118,105,101,119]) z6 (.ite (qfv z1 n 1 [111,110]) (.ite (qsf z1 n 1 [111,110]) (.ite (qFK z1 n) (.ret (.out (.pan (.iface 172 (.agg [.int .i64 (qA9 z1 n)]))) [] (Store.mk [[.sl (qaa (qCG z1 n)) .non,.int .i64 n],z2,z3] [(k,3,80),(k2,3,85),(k3,3,51)] [138,27,27]))) (.ite (qFj z1 n) (.ite (qg6 z3 z3) (.ite (qav r6 z7 64) (.ite (qaq z7 3) (.ite (qao r6 3) (.ite (nEq k2 (nXs r6)) (.ret (.next z5 (Store.mk [[.sl (qaa (qsR z1 n)) .non,.int .i64 n],z2,[.sl r5 (.tok 0),.sl (xApp r6 z7) (.tok 1),.sl r7 (.tok 2)]] [(k,3,80),(nXs (xApp r6 z7),3,85),(k3,3,51)] [138,27,27]))) .fail) .fail) .fail) .fail) .fail) .fail)) (.ite (qqx z1 n) (.ret (.out (.pan (.iface 172 (.agg [.int .i64 (qkt z1 n)]))) [] (Store.mk [[.sl (qaa (qkK z1 n)) .non,.int .i64 n],z2,z3] [(k,3,80),(k2,3,85),(k3,3,51)] [138,27,27]))) (.ite (qpe z1 n) (.ite (qg6 z3 z3) (.ite (qav r7 z8 64) (.ite (qaq z8 3) (.ite (qao r7 3) (.ite (nEq k3 (nXs r7)) (.ret (.next z5 (Store.mk [[.sl (qaa (qg8 z1 n)) .non,.int .i64 n],z2,[.sl r5 (.tok 0),.sl r6 (.tok 1),.sl (xApp r7 z8) (.tok 2)]] [(k,3,80),(k2,3,85),(nXs (xApp r7 z8),3,51)] [138,27,27]))) .fail) .fail) .fail) .fail) .fail) .fail))) .fail)) .fail)) .fail) (.ret (.out (.exit 0) [.ptr 1 0,.ptr 2 0] (Store.mk [[.sl r .non,.int .i64 n],z2,z3] [(k,3,80),(k2,3,85),(k3,3,51)] [138,27,27])))
theorem qQp:lstep tbT qvZ qvR qt3 qtA [.ptr 0 0,.ptr 1 0,.ptr 2 0] ⟨[[.sl r .non,.int .i64 n],[.sl r2 .full,.sl r3 .full,.sl r4 .full],[.sl r5 (.tok 0),.sl r6 (.tok 1),.sl r7 (.tok 2)]],[(k,3,80),(k2,3,85),(k3,3,51)],[138,27,27]⟩=qck r n r2 r3 r4 r5 r6 r7 k k2 k3:=by kernel_rfl
theorem qzL:qgw [.ptr 0 0,.ptr 1 0,.ptr 2 0] ⟨[[.sl r .non,.int .i64 n],[.sl r2 .full,.sl r3 .full,.sl r4 .full],[.sl r5 (.tok 0),.sl r6 (.tok 1),.sl r7 (.tok 2)]],[(k,3,80),(k2,3,85),(k3,3,51)],[138,27,27]⟩=lnext qgw (qck r n r2 r3 r4 r5 r6 r7 k k2 k3).run:=by unfold qgw;rw [qaQ,qQp]
def qaZ:Option (PExit×List PV×Store):=qgw [.ptr 0 0,.ptr 1 0,.ptr 2 0] ⟨[[.sl r .non,.int .i64 n],[.sl r2 .full,.sl r3 .full,.sl r4 .full],[.sl r5 (.tok 0),.sl r6 (.tok 1),.sl r7 (.tok 2)]],[(k,3,80),(k2,3,85),(k3,3,51)],[138,27,27]⟩
def qlw:Int:=(gInt (gAt (gCs (gAt (gCs (gPan (qaZ r n r2 r3 r4 r5 r6 r7 k k2 k3))) 0)) 0))
def qkW:qR:=qa8 0 0 (qaZ r n r2 r3 r4 r5 r6 r7 k k2 k3)
def qnj:qR:=qa8 1 0 (qaZ r n r2 r3 r4 r5 r6 r7 k k2 k3)
def qnC:qR:=qa8 1 1 (qaZ r n r2 r3 r4 r5 r6 r7 k k2 k3)
def qmY:qR:=qa8 1 2 (qaZ r n r2 r3 r4 r5 r6 r7 k k2 k3)
def qns:qR:=qa8 2 0 (qaZ r n r2 r3 r4 r5 r6 r7 k k2 k3)
def qmU:qR:=qa8 2 1 (qaZ r n r2 r3 r4 r5 r6 r7 k k2 k3)
def qnT:qR:=qa8 2 2 (qaZ r n r2 r3 r4 r5 r6 r7 k k2 k3)
def qrj:Nat:=(gTok (qaZ r n r2 r3 r4 r5 r6 r7 k k2 k3) 0)
def qnS:Nat:=(gTok (qaZ r n r2 r3 r4 r5 r6 r7 k k2 k3) 1)
def qn4:Nat:=(gTok (qaZ r n r2 r3 r4 r5 r6 r7 k k2 k3) 2)
def qqU:Bool:=isW (qaZ r n r2 r3 r4 r5 r6 r7 k k2 k3) ((.pan (.iface 172 (.agg [.int .i64 (qlw r n r2 r3 r4 r5 r6 r7 k k2 k3)]))),[],⟨[[.sl (qkW r n r2 r3 r4 r5 r6 r7 k k2 k3) .non,.int .i64 n],[.sl (qnj r n r2 r3 r4 r5 r6 r7 k k2 k3) .full,.sl (qnC r n r2 r3 r4 r5 r6 r7 k k2 k3) .full,.sl (qmY r n r2 r3 r4 r5 r6 r7 k k2 k3) .full],[.sl (qns r n r2 r3 r4 r5 r6 r7 k k2 k3) (.tok 0),.sl (qmU r n r2 r3 r4 r5 r6 r7 k k2 k3) (.tok 1),.sl (qnT r n r2 r3 r4 r5 r6 r7 k k2 k3) (.tok 2)]],[((qrj r n r2 r3 r4 r5 r6 r7 k k2 k3),3,80),((qnS r n r2 r3 r4 r5 r6 r7 k k2 k3),3,85),((qn4 r n r2 r3 r4 r5 r6 r7 k k2 k3),3,51)],[138,27,27]⟩)
def qkY:qR:=qa8 0 0 (qaZ r n r2 r3 r4 r5 r6 r7 k k2 k3)
def qnE:qR:=qa8 1 0 (qaZ r n r2 r3 r4 r5 r6 r7 k k2 k3)
def qnt:qR:=qa8 1 1 (qaZ r n r2 r3 r4 r5 r6 r7 k k2 k3)
def qn2:qR:=qa8 1 2 (qaZ r n r2 r3 r4 r5 r6 r7 k k2 k3)
def qjm:qR:=qa8 2 0 (qaZ r n r2 r3 r4 r5 r6 r7 k k2 k3)
def qiZ:qR:=qa8 2 1 (qaZ r n r2 r3 r4 r5 r6 r7 k k2 k3)
def qjC:qR:=qa8 2 2 (qaZ r n r2 r3 r4 r5 r6 r7 k k2 k3)
def qrr:Nat:=(gTok (qaZ r n r2 r3 r4 r5 r6 r7 k k2 k3) 0)
def qmS:Nat:=(gTok (qaZ r n r2 r3 r4 r5 r6 r7 k k2 k3) 1)
def qnp:Nat:=(gTok (qaZ r n r2 r3 r4 r5 r6 r7 k k2 k3) 2)
def qrT:Bool:=isW (qaZ r n r2 r3 r4 r5 r6 r7 k k2 k3) ((.exit 0),[.ptr 1 0,.ptr 2 0],⟨[[.sl (qkY r n r2 r3 r4 r5 r6 r7 k k2 k3) .non,.int .i64 n],[.sl (qnE r n r2 r3 r4 r5 r6 r7 k k2 k3) .full,.sl (qnt r n r2 r3 r4 r5 r6 r7 k k2 k3) .full,.sl (qn2 r n r2 r3 r4 r5 r6 r7 k k2 k3) .full],[.sl (qjm r n r2 r3 r4 r5 r6 r7 k k2 k3) (.tok 0),.sl (qiZ r n r2 r3 r4 r5 r6 r7 k k2 k3) (.tok 1),.sl (qjC r n r2 r3 r4 r5 r6 r7 k k2 k3) (.tok 2)]],[((qrr r n r2 r3 r4 r5 r6 r7 k k2 k3),3,80),((qmS r n r2 r3 r4 r5 r6 r7 k k2 k3),3,85),((qnp r n r2 r3 r4 r5 r6 r7 k k2 k3),3,51)],[138,27,27]⟩)
end
def qiv:List PV→Store→Tr (PExit×List PV×Store)|[.ptr 0 0,.ptr 1 0,.ptr 2 0],⟨[[.sl r .non,.int .i64 n],[.sl r2 .full,.sl r3 .full,.sl r4 .full],[.sl r5 (.tok 0),.sl r6 (.tok 1),.sl r7 (.tok 2)]],[(k,3,80),(k2,3,85),(k3,3,51)],[138,27,27]⟩=>.ite (qqU r n r2 r3 r4 r5 r6 r7 k k2 k3) (.ret ((.pan (.iface 172 (.agg [.int .i64 (qlw r n r2 r3 r4 r5 r6 r7 k k2 k3)]))),[],⟨[[.sl (qkW r n r2 r3 r4 r5 r6 r7 k k2 k3) .non,.int .i64 n],[.sl (qnj r n r2 r3 r4 r5 r6 r7 k k2 k3) .full,.sl (qnC r n r2 r3 r4 r5 r6 r7 k k2 k3) .full,.sl (qmY r n r2 r3 r4 r5 r6 r7 k k2 k3) .full],[.sl (qns r n r2 r3 r4 r5 r6 r7 k k2 k3) (.tok 0),.sl (qmU r n r2 r3 r4 r5 r6 r7 k k2 k3) (.tok 1),.sl (qnT r n r2 r3 r4 r5 r6 r7 k k2 k3) (.tok 2)]],[((qrj r n r2 r3 r4 r5 r6 r7 k k2 k3),3,80),((qnS r n r2 r3 r4 r5 r6 r7 k k2 k3),3,85),((qn4 r n r2 r3 r4 r5 r6 r7 k k2 k3),3,51)],[138,27,27]⟩)) (.ite (qrT r n r2 r3 r4 r5 r6 r7 k k2 k3) (.ret ((.exit 0),[.ptr 1 0,.ptr 2 0],⟨[[.sl (qkY r n r2 r3 r4 r5 r6 r7 k k2 k3) .non,.int .i64 n],[.sl (qnE r n r2 r3 r4 r5 r6 r7 k k2 k3) .full,.sl (qnt r n r2 r3 r4 r5 r6 r7 k k2 k3) .full,.sl (qn2 r n r2 r3 r4 r5 r6 r7 k k2 k3) .full],[.sl (qjm r n r2 r3 r4 r5 r6 r7 k k2 k3) (.tok 0),.sl (qiZ r n r2 r3 r4 r5 r6 r7 k k2 k3) (.tok 1),.sl (qjC r n r2 r3 r4 r5 r6 r7 k k2 k3) (.tok 2)]],[((qrr r n r2 r3 r4 r5 r6 r7 k k2 k3),3,80),((qmS r n r2 r3 r4 r5 r6 r7 k k2 k3),3,85),((qnp r n r2 r3 r4 r5 r6 r7 k k2 k3),3,51)],[138,27,27]⟩)) (.fail))|_,_=>.fail
theorem qLu:∀ vs σ r,(qiv vs σ).run=some r→qgw vs σ=some r:=by
 intro vs σ r h;unfold qiv at h
 split at h
 ·exact qae h fun h=>qae h fun h=>by cases h
 ·cases h
theorem qEH (gl:Gl):∀ fr σ e fr' σ',(orc qtA qiv fr σ).run=some (e,fr',σ')→LDoes Tryz.prog gl qt3 fr σ e fr' σ':=qcB qaj (qD2 gl ) qai (L:=qvR) (qac (by kernel_rfl)) (by kernel_rfl) qLu
def qEA:LpsT:=fun r fr σ=>bif Nat.beq r 2 then orc qtA qiv fr σ else .fail
section
variable (r:qR) (n:Int)
def qt5:Tr (PR×Store):=let z1:=qad r;.ite (qqU z1 n [] [] [] [] [] [] 0 0 0) (.ret (PR.pan (.iface 172 (.agg [.int .i64 (qlw z1 n [] [] [] [] [] [] 0 0 0)])),Store.mk [[.sl (qaa (qkW z1 n [] [] [] [] [] [] 0 0 0)) .non,.int .i64 n]] [] [138])) (.ite (qrT z1 n [] [] [] [] [] [] 0 0 0) (.ret (PR.val (.agg [.sl (qaa (qjm z1 n [] [] [] [] [] [] 0 0 0)) .non,.sl (qaa (qiZ z1 n [] [] [] [] [] [] 0 0 0)) .non,.sl (qaa (qjC z1 n [] [] [] [] [] [] 0 0 0)) .non]),Store.mk [[.sl (qaa (qkY z1 n [] [] [] [] [] [] 0 0 0)) .non,.int .i64 n]] [] [138])) .fail)
theorem qSh:(nrmM tbT qvZ qEA Tryz.f35 [.ptr 0 0] ⟨[[.sl r .non,.int .i64 n]],[],[138]⟩).flat=qt5 r n:=by kernel_rfl
def qgf:Option (PR×Store):=(qt5 r n).run
def qpt:Int:=oG (qgf r n)
def qpr:qR:=qbd 0 0 (qgf r n)
def qwD:Bool:=isW (qgf r n) ((.pan (.iface 172 (.agg [.int .i64 (qpt r n)]))),⟨[[.sl (qpr r n) .non,.int .i64 n]],[],[138]⟩)
def qqm:qR:=qet 0 (qgf r n)
def qln:qR:=qet 1 (qgf r n)
def qk2:qR:=qet 2 (qgf r n)
def qk0:qR:=qbd 0 0 (qgf r n)
def qwC:Bool:=isW (qgf r n) ((.val (.agg [.sl (qqm r n) .non,.sl (qln r n) .non,.sl (qk2 r n) .non])),⟨[[.sl (qk0 r n) .non,.int .i64 n]],[],[138]⟩)
end
def qFR:List PV→Store→Tr (PR×Store)|[.ptr 0 0],⟨[[.sl r .non,.int .i64 n]],[],[138]⟩=>.ite (qwD r n) (.ret ((.pan (.iface 172 (.agg [.int .i64 (qpt r n)]))),⟨[[.sl (qpr r n) .non,.int .i64 n]],[],[138]⟩)) (.ite (qwC r n) (.ret ((.val (.agg [.sl (qqm r n) .non,.sl (qln r n) .non,.sl (qk2 r n) .non])),⟨[[.sl (qk0 r n) .non,.int .i64 n]],[],[138]⟩)) (.fail))|_,_=>.fail
theorem qLF (gl:Gl):SimM Tryz.prog gl 35 fun args σ=>(qFR args σ).run:=by
 refine SimM.of_nrm (G:=qvZ) (L:=qEA) qaj (qD2 gl ) qai Tryz.func35 rfl (by rfl) (by kernel_rfl) (qaD (L:=lps qEA) [(2,qt3)] (by kernel_rfl) (List.forall_mem_cons.2 ⟨fun fr σ e fr' σ' h=>qEH gl  fr σ e fr' σ' h,(List.forall_mem_nil _)⟩)) ?_
 intro args σ x h;unfold qFR at h
 split at h
 ·exact (congrArg Tr.run (qSh _ _)).trans (qae h fun h=>qae h fun h=>by cases h)
 ·cases h
end Go.Pv
set_option linter.unusedSimpArgs false
set_option linter.unusedVariables false
namespace Go.Pv
open Go.RowKit
abbrev PD:=FuncId×List PV×List PV
def DefL (H:Gh) (w:World):List PD→List Deferred→Prop
 |[],[]=>True
 |(f,avs,caps)::p,d::ds=>(∃ vs cs:List Value,d={ target:=.fn (.func f) cs.toArray,args:=vs.toArray }∧RelL H w avs vs∧RelL H w caps cs)∧DefL H w p ds
 |_,_=>False
theorem DefL.mono {H H':Gh} {w w':World} (g:Mono H w H' w'):∀ {p:List PD} {ds:List Deferred},DefL H w p ds→DefL H' w' p ds
 |[],[],_=>trivial
 |(f,avs,caps)::p,d::ds,⟨⟨vs,cs,e,h1,h2⟩,k⟩=>⟨⟨vs,cs,e,h1.mono g,h2.mono g⟩,DefL.mono g k⟩
 |[],_::_,h=>h.elim
 |_::_,[],h=>h.elim
def StD (gl:Gl) (H0:Gh) (w0:World) (fr:List PV) (σ:Store) (pd:List PD) (a:Act) (w:World):Prop :=
 ∃ H,Ev gl H0 w0 H w∧Ok gl H σ w∧RelL H w fr a.tmps.toList∧DefL H w pd a.defers
def pdefer (fr:List PV) (c:Call):Option PD:=match c.callee with
 |.value f=>match ev fr f with
  |.fn g caps=>some (g,c.args.toList.map (ev fr),caps)
  |_=>none
 |_=>none
def passert (tb:Tab) (fr:List PV) (x:Operand) (t:TypeId) (ok:Bool):Option PV:=match tb t,ev fr x,ok with
 |some K,.iface t' v,true=>match K.kd with
  |.agg _ _ _=>match Nat.beq t' t with
   |true=>some (.tup [v,.bool true])
   |false=>none
  |_=>none
 |_,_,_=>none
inductive DR where
 |ok (fr:List PV) (σ:Store) (pd:List PD)
 |pan (x:PV) (fr:List PV) (σ:Store) (pd:List PD)
def dfin (Γ:Gam) (fr:List PV) (σ:Store) (pd:List PD) (o:Oper):Option (PV×Store)→Option DR
 |some (x,σ')=>some (.ok (pput fr o.dst x) σ' pd)
 |none=>(ppan Γ fr σ o).map fun r=>.pan r.1 fr r.2 pd
def dop (tb:Tab) (Γ:Gam) (fr:List PV) (σ:Store) (pd:List PD) (o:Oper):Option DR:=match o.op with
 |.defer c=>match o.dst with
  |none=>(pdefer fr c).map fun d=>.ok fr σ (d::pd)
  |some _=>none
 |.typeAssert x _ t ok=>(passert tb fr x t ok).map fun y=>.ok (pput fr o.dst y) σ pd
 |_=>dfin Γ fr σ pd o (pop tb Γ fr σ o)
def dops (tb:Tab) (Γ:Gam) (ops:List Oper):List Oper→List PV→Store→List PD→Option DR
 |[],fr,σ,pd=>some (.ok fr σ pd)
 |o::rest,fr,σ,pd=>match pwanted ops fr o with
  |none=>none
  |some false=>dops tb Γ ops rest (pput fr o.dst (.tup [])) σ pd
  |some true=>match dop tb Γ fr σ pd o with
   |some (.ok fr' σ' pd')=>dops tb Γ ops rest fr' σ' pd'
   |r=>r
def dexec (tb:Tab) (Γ:Gam):Code→List PV→Store→List PD→Option (PExit×List PV×Store×List PD)
 |.skip,fr,σ,pd=>some (.normal,fr,σ,pd)
 |.ret,fr,σ,pd=>some (.ret,fr,σ,pd)
 |.region _ ops draw,fr,σ,pd=>match draw with
  |true=>none
  |false=>match dops tb Γ ops.toList ops.toList fr σ pd with
   |some (.ok fr' σ' pd')=>some (.normal,fr',σ',pd')
   |some (.pan x fr' σ' pd')=>some (.pan x,fr',σ',pd')
   |none=>none
 |.seq a b,fr,σ,pd=>match dexec tb Γ a fr σ pd with
  |some (.normal,fr',σ',pd')=>dexec tb Γ b fr' σ' pd'
  |r=>r
 |.cond c a b,fr,σ,pd=>match ev fr c with
  |.bool t=>match t with
   |true=>dexec tb Γ a fr σ pd
   |false=>dexec tb Γ b fr σ pd
  |_=>none
 |_,_,_,_=>none
section
variable {P : Program} {tb : Tab} {gl : Gl} {Γ : Gam} {H0 : Gh} {w0 : World} {fr : List PV} {σ : Store} {pd : List PD} {a : Act} {w : World} {Q : Exit → Act → World → Prop}
theorem qx4 (hst:StD gl H0 w0 fr σ pd a w) {ops:Array Oper} {o:Oper} {b:Bool} (h:pwanted ops.toList fr o=some b):Region.wanted o (yielded ops a.tmps)=b:=by
 obtain⟨H,hev,hok,hfr,hd⟩:=hst;refine qbZ (gl:=gl) (H0:={ H with K:=(w.heap.size,a.defers) }) (w0:=w) (σ:=σ) ⟨_,Ev.refl _ w,hok.setK _,hfr.mono (Mono.setK' H w _),Nat.le_refl _,[],rfl,List.nodup_nil,fun D h=>by cases h⟩ h
theorem qPM (hst:StD gl H0 w0 fr σ pd a w) (dst:Option Tmp):StD gl H0 w0 (pput fr dst (.tup [])) σ pd (a.put dst undef) w:=by
 obtain⟨H,hev,hok,hfr,hd⟩:=hst;exact⟨H,hev,hok,qxe hfr (.tup [] [] .nil),by rw [qhZ];exact hd⟩
theorem qCa (hT:qaN P tb) {H:Gh} (hfr:RelL H w fr a.tmps.toList) {o:Oper} {x:Operand} {s t:TypeId} {ok:Bool} (ho:o.op=.typeAssert x s t ok) {y:PV} (h:passert tb fr x t ok=some y) :
  ∃ v,(execOp a.eval o).run P w=.ok (.value v) w∧Rel H w y v:=by
 unfold passert at h
 split at h
 ·rename_i K t' v hK hx;split at h
  ·rename_i fs hd gd hkd;split at h
   ·rename_i hb;have e:=Nat.eq_of_beq_eq_true hb;subst e;simp only [Option.some.injEq] at h
    subst h;have hr:=qaL hfr x;rw [hx] at hr;obtain⟨i,z,_,_,_,_,_,hk⟩:=qgW (hT _ _ hK);rw [hk] at hkd;obtain⟨fields,hu,_⟩:=qyl hkd;generalize hv:a.eval x=xv at hr;cases hr with
    |iface _ _ u hu' =>
     refine⟨.tuple #[u,.bool true],?_,?_⟩
     ·simp [execOp,ho,hv,Instr.typeAssert,run_underlying,hu]
     ·exact .tup [v,.bool true] [u,.bool true] (.cons _ _ _ _ hu' (.cons _ _ _ _ (.bool _) .nil))
   ·cases h
  ·cases h
 ·cases h
theorem qDV {H:Gh} (hfr:RelL H w fr a.tmps.toList) {o:Oper} {c:Call} (ho:o.op=.defer c) {d:PD} (h:pdefer fr c=some d) :
  ∃ vs cs:List Value,(execOp a.eval o).run P w=.ok (.defer { target:=.fn (.func d.1) cs.toArray,args:=vs.toArray }) w∧RelL H w d.2.1 vs∧RelL H w d.2.2 cs:=by
 unfold pdefer at h
 split at h
 ·rename_i f hc;split at h
  ·rename_i g caps hf;simp only [Option.some.injEq] at h
   subst h;have hr:=qaL hfr f;rw [hf] at hr;generalize hv:a.eval f=fv at hr;cases hr with
   |fn _ _ cs hcs =>
    refine⟨c.args.toList.map a.eval,cs,?_,?_,hcs⟩
    ·have e1:(c.args.toList.map a.eval).toArray=c.args.map a.eval:=by rw [← Array.toList_map,Array.toArray_toList]
     simp [execOp,ho,resolve,hc,hv,Deferred.ofValue,e1]
    ·refine qdj.2 ⟨by simp,fun i x v hx hv=>?_⟩
     rw [List.getElem?_map] at hx hv;cases he:c.args.toList[i]? with
     |none=>rw [he] at hx;cases hx
     |some q =>
      rw [he] at hx hv;cases hx
      cases hv
      exact qaL hfr q
  ·cases h
 ·cases h
theorem qDi (hT:qaN P tb) (hΓ:qal P gl Γ) (hst:StD gl H0 w0 fr σ pd a w) {o:Oper} {n:Nat} {next:Act→World→Prop} :
  ∀ {R:DR},dop tb Γ fr σ pd o=some R →
  (match R with|.ok fr' σ' pd'=>∀ a' w',StD gl H0 w0 fr' σ' pd' a' w'→next a' w'|.pan x fr' σ' pd'=>∀ a' w',StD gl H0 w0 fr' σ' pd' a' w'→Q (.panic [{ v:=toV x,recovered:=false }]) a' w')→o.wpIn (rnd none) n P a w next Q:=by
 intro R h hn;obtain⟨H,hev,hok,hfr,hd⟩:=hst;unfold dop at h
 split at h
 ·rename_i c ho;split at h
  ·rename_i hdst;obtain⟨d,hp,hR⟩:=qaC h;subst hR;obtain⟨vs,cs,hrun,h1,h2⟩:=qDV (P:=P) hfr ho hp;refine⟨fun _ _=>trivial,?_⟩
   rw [show (rnd none).round=none from rfl,Oper.semAt_none,hrun,Oper.uponIn_defer,hdst]
   exact hn _ _ ⟨H,hev,hok,hfr,⟨vs,cs,rfl,h1,h2⟩,hd⟩
  ·cases h
 ·rename_i x s t ok ho;obtain⟨y,hp,hR⟩:=qaC h;subst hR;obtain⟨v,hrun,hv⟩:=qCa hT hfr ho hp;refine (RunsTo.value (R:=fun v' w'=>v'=v∧w'=w) hrun ⟨rfl,rfl⟩) none n next Q fun v' w' ⟨e1,e2⟩=>?_
  subst e1 e2;exact hn _ _ ⟨H,hev,hok,qxe hfr hv,by rw [qhZ];exact hd⟩
 ·unfold dfin at h
  split at h
  ·rename_i x σ' hp;simp only [Option.some.injEq] at h
   subst h;refine qDF hT hΓ hok hfr hp none n next Q fun v w' ⟨H',hev',hok',hx⟩=>hn _ _ ⟨H',hev.trans hev',hok',qxe (hfr.mono hev'.mono) hx,by rw [qhZ];exact hd.mono hev'.mono⟩
  ·obtain⟨r,hp,hR⟩:=qaC h;subst hR;refine qrb hΓ hok hfr (x:=r.1) (σ':=r.2) hp none n next Q fun w' ⟨H',hev',hok'⟩=>hn a w' ⟨H',hev.trans hev',hok',hfr.mono hev'.mono,hd.mono hev'.mono⟩
theorem qyQ (hT:qaN P tb) (hΓ:qal P gl Γ) {ops:Array Oper} {n:Nat}:∀ (l:List Oper) (fr:List PV) (σ:Store) (pd:List PD) (a:Act) (w:World) (R:DR),StD gl H0 w0 fr σ pd a w→dops tb Γ ops.toList l fr σ pd=some R →
  (match R with|.ok fr' σ' pd'=>∀ a' w',StD gl H0 w0 fr' σ' pd' a' w'→Q .normal a' w'|.pan x fr' σ' pd'=>∀ a' w',StD gl H0 w0 fr' σ' pd' a' w'→Q (.panic [{ v:=toV x,recovered:=false }]) a' w')→wpListIn (rnd none) n P ops Q l a w:=by
 intro l
 induction l with
 |nil =>
  intro fr σ pd a w R hst h hq;simp only [dops,Option.some.injEq] at h
  subst h;exact hq a w hst
 |cons o l ih =>
  intro fr σ pd a w R hst h hq;simp only [dops] at h
  split at h
  ·cases h
  ·rename_i hw;have hwn:=qx4 hst hw;simp only [wpListIn,hwn];exact⟨fun _ _=>trivial,ih _ _ _ _ _ _ (qPM hst _) h hq⟩
  ·rename_i hw;have hwn:=qx4 hst hw;simp only [wpListIn,hwn,if_true];split at h
   ·rename_i fr' σ' pd' hp;exact qDi hT hΓ hst hp fun a' w' hst'=>ih _ _ _ _ _ _ hst' h hq
   ·rename_i hne;cases R with
    |ok fr' σ' pd'=>exact (hne _ _ _ h).elim
    |pan x fr' σ' pd'=>exact qDi hT hΓ hst h hq
theorem qne (hT:qaN P tb) (hΓ:qal P gl Γ) {n:Nat}:∀ (c:Code) (fr:List PV) (σ:Store) (pd:List PD) (e:PExit) (fr':List PV) (σ':Store) (pd':List PD),dexec tb Γ c fr σ pd=some (e,fr',σ',pd') →
  ∀ (Q:Exit→Act→World→Prop) (a:Act) (w:World),StD gl H0 w0 fr σ pd a w→(∀ a' w',StD gl H0 w0 fr' σ' pd' a' w'→Q e.as a' w')→c.wpIn (rnd none) n P Q a w:=by
 intro c
 induction c with
 |skip =>
  intro fr σ pd e fr' σ' pd' h Q a w hst hq;simp only [dexec,Option.some.injEq,Prod.mk.injEq] at h
  obtain⟨rfl,rfl,rfl,rfl⟩:=h;exact wpIn_skip (hq _ _ hst)
 |ret =>
  intro fr σ pd e fr' σ' pd' h Q a w hst hq;simp only [dexec,Option.some.injEq,Prod.mk.injEq] at h
  obtain⟨rfl,rfl,rfl,rfl⟩:=h;exact wpIn_ret (hq _ _ hst)
 |region id ops draw =>
  intro fr σ pd e fr' σ' pd' h Q a w hst hq;cases draw with
  |true=>simp only [dexec] at h;cases h
  |false =>
   simp only [dexec] at h
   refine wpIn_region_list ?_;split at h
   ·rename_i fr1 σ1 pd1 hp;simp only [Option.some.injEq,Prod.mk.injEq] at h
    obtain⟨rfl,rfl,rfl,rfl⟩:=h;exact qyQ hT hΓ _ _ _ _ _ _ _ hst hp hq
   ·rename_i x fr1 σ1 pd1 hp;simp only [Option.some.injEq,Prod.mk.injEq] at h
    obtain⟨rfl,rfl,rfl,rfl⟩:=h;exact qyQ hT hΓ _ _ _ _ _ _ _ hst hp hq
   ·cases h
 |seq x y ihx ihy =>
  intro fr σ pd e fr' σ' pd' h Q a w hst hq;simp only [dexec] at h
  refine wpIn_seq ?_;split at h
  ·rename_i fr1 σ1 pd1 hx;exact ihx _ _ _ _ _ _ _ hx _ _ _ hst fun a1 w1 hst1=>ihy _ _ _ _ _ _ _ h _ _ _ hst1 hq
  ·rename_i hne;refine ihx _ _ _ _ _ _ _ h _ _ _ hst fun a1 w1 hst1=>?_
   cases e with
   |normal=>exact (hne _ _ _ h).elim
   |exit id=>exact hq _ _ hst1
   |ret=>exact hq _ _ hst1
   |pan x=>exact hq _ _ hst1
 |cond c x y ihx ihy =>
  intro fr σ pd e fr' σ' pd' h Q a w hst hq;simp only [dexec] at h
  split at h
  ·rename_i t hc;obtain⟨H,hev,hok,hfr,hd⟩:=id hst;have hr:=qaL hfr c;rw [hc] at hr;generalize hv:a.eval c=cv at hr;cases hr
   cases t with
   |true=>exact wpIn_cond hv (ihx _ _ _ _ _ _ _ h _ _ _ hst hq)
   |false=>exact wpIn_cond hv (ihy _ _ _ _ _ _ _ h _ _ _ hst hq)
  ·cases h
 |_ =>
  intro fr σ pd e fr' σ' pd' h;simp only [dexec] at h
  cases h
end
inductive PMode where
 |ret
 |pan (x:PV)
def PMode.as:PMode→FrameMode
 |.ret=>.returning
 |.pan x=>.panicking [{ v:=toV x,recovered:=false }]
theorem PMode.settled (m:PMode):settle m.as=m.as:=by cases m<;>rfl
theorem PMode.notRun (m:PMode):m.as≠.run:=by cases m<;>simp [PMode.as]
structure DefOk (P:Program) (gl:Gl) (f:FuncId) (args:List PV) (m:PMode) (σ:Store) (m':PMode) (σ':Store):Prop where
 ent : ∃ fn, P.funcs[f]? = some fn ∧ (fn.name == "runtime.NumGoroutine") = false ∧ fn.body.isNone = false
 run:∀ (H:Gh) (w:World) (vs:List Value),Ok gl H σ w→RelL H w args vs →
  CallsDIn (rnd none) 0 P f vs.toArray m.as w fun e u' w'=>(∃ v,e=.returned v)∧settle u'=m'.as∧qFP gl H w σ' w'
inductive LeaveP (P:Program) (gl:Gl):List PD→PMode→Store→Store→Prop
 |nil (σ:Store):LeaveP P gl [] .ret σ σ
 |cons {f:FuncId} {avs caps:List PV} {pd:List PD} {m m':PMode} {σ σ' σ'':Store} (h:DefOk P gl f (avs++caps) m σ m' σ') (k:LeaveP P gl pd m' σ' σ''):LeaveP P gl ((f,avs,caps)::pd) m σ σ''
section
variable {P : Program} {tb : Tab} {gl : Gl} {Γ : Gam}
theorem LeaveP.sound {fn:Func} {tmps:Array Value} {R:Ending→World→Prop} {H0:Gh} {w0:World} {pd:List PD} {m:PMode} {σ σ':Store} (h:LeaveP P gl pd m σ σ') :
  ∀ {H:Gh} {w:World} {ds:List Deferred},Ev gl H0 w0 H w→Ok gl H σ w→DefL H w pd ds →
  (∀ H' w',Ev gl H0 w0 H' w'→Ok gl H' σ' w'→Mono H w H' w'→∃ v,(results fn tmps).run P w'=.ok v w'∧R (.returned v) w')→LeavesInM (rnd none) 0 P fn tmps R ds m.as w:=by
 induction h with
 |nil σ =>
  intro H w ds hev hok hd hR;cases ds with
  |cons d ds=>exact hd.elim
  |nil=>exact hR H w hev hok (Ev.refl (gl:=gl) H w).mono
 |@cons f avs caps pd m m' σ σ' σ'' h k ih =>
  intro H w ds hev hok hd hR;cases ds with
  |nil=>exact hd.elim
  |cons d ds =>
   obtain⟨⟨vs,cs,hde,h1,h2⟩,hd⟩:=hd;subst hde;obtain⟨fn',hfn,hname,hbody⟩:=h.ent;have e1:(vs++cs).toArray=vs.toArray++cs.toArray:=by simp
   have hc:=h.run H w (vs++cs) hok (h1.app h2);rw [e1] at hc;refine⟨m.notRun,.inr ⟨(fun h=>by cases h),.func f,cs.toArray,f,vs.toArray++cs.toArray,rfl,?_,fun _ _=>trivial,?_⟩⟩
   ·simp only [invoke,callFunc,Sem.run_bind,run_program,Result.andThen_ok,hfn,hname,hbody,Bool.false_eq_true,if_false,Sem.run_pure]
   ·refine hc.mono ?_;rintro e u' w' ⟨⟨v,rfl⟩,hu,H',hev',hok'⟩;show LeavesInM (rnd none) 0 P fn tmps R ds (settle u') w'
    rw [hu];exact ih (hev.trans hev') hok' (hd.mono hev'.mono) fun H'' w'' e1 e2 e3=>hR H'' w'' e1 e2 (hev'.mono.trans e3)
theorem SimP.of_defer (hT : qaN P tb) (hΓ : qal P gl Γ) {f : FuncId} {fn : Func} {c : Code} (hf : P.funcs[f]? = some fn) (hb : fn.body = some c) (hn : (fn.name == "runtime.NumGoroutine") = false)
  {F:List PV→Option PV} (h:∀ args x,F args=some x→∃ (e:PExit) (m:PMode) (fr:List PV) (σ:Store) (pd:List PD) (σ':Store) (xs:List PV),dexec tb Γ c (args++List.replicate (fn.ntmps - args.length) .top) ⟨[],[],[]⟩ []=some (e,fr,σ,pd)∧((e=.ret∧m=.ret)∨∃ y,e=.pan y∧m=.pan y)∧LeaveP P gl pd m σ σ'∧presults tb fr σ' fn.results.toList=some xs∧pout (xs.map (oview σ'.objs))=x):SimP P gl f F where
 ent:=⟨fn,hf,hn,by simp [hb]⟩
 run:=by
  intro args x hx H w vs hB hob htk hgl hrel;obtain⟨e,m,fr0,σ0,pd,σ',xs0,hdo,he,hlv,hxs0,hpo0⟩:=h args x hx;refine qpH (r:=none) (n:=0) (callsIn_of_wp_marks hf hb trivial ?_);have hst:StD gl { H with K:=(w.heap.size,[]) } w (args++List.replicate (fn.ntmps - args.length) .top) ⟨[],[],[]⟩ [] { tmps:=vs.toArray++Array.replicate (fn.ntmps - vs.toArray.size) undef,defers:=[] } w:=by
   refine⟨{ H with K:=(w.heap.size,[]) },Ev.refl _ w,⟨by show H.B≤_;rw [hB];exact Nat.le_refl _,fun b o e=>⟨by show b < H.B;rw [hB];exact qak (hgl b o e),hgl b o e⟩,by simp [hob],fun id b cs e=>by simp [hob] at e,fun i j b e=>by simp [hob] at e,by simp [htk],fun t T e=>by simp [htk] at e,fun t u T U e=>by simp [htk] at e,rfl,fun id b T cs e=>by simp [hob] at e⟩,?_,trivial⟩
   have hl:=hrel.len;have e:(vs.toArray++Array.replicate (fn.ntmps - vs.toArray.size) undef).toList=vs++List.replicate (fn.ntmps - args.length) undef:=by simp [hl]
   rw [e];refine (hrel.mono (Mono.setK' H w _)).app ?_;have:=RelL.tops (H:={ H with K:=(w.heap.size,[]) }) (w:=w) (List.replicate (fn.ntmps - args.length) undef)
   simpa using this
  refine qne hT hΓ c _ _ _ e fr0 σ0 pd hdo _ _ _ hst fun a w1 hst1=>?_
  have fin:LeavesInM (rnd none) 0 P fn a.tmps (fun e w'=>∃ v,e=.returned v∧(Below w.heap.size w w'∧Dr gl w w')∧Rel { H with aux:=fun _ _=>False } w' x v) a.defers m.as w1:=by
   obtain⟨H',hev1,hok1,hfr1,hd⟩:=hst1;refine hlv.sound hev1 hok1 hd fun H'' w' hev hok hmo=>?_
   have hfr:=hfr1.mono hmo;obtain⟨vs',hvs,hrs⟩:=qdX hT hok hfr _ _ hxs0;have hbel:Below w.heap.size w w':=⟨hev.os,hev.tape,hev.output,hev.size,fun b hlt=>hev.block b (by show b < H.B;rw [hB];exact hlt) (by show b∉H.ob;rw [hob];simp)⟩
   have hrun:(results fn a.tmps).run P w'=.ok (if h:vs'.toArray.size=1 then vs'.toArray[0] else .tuple vs'.toArray) w':=by
    rw [qg2];simp only [Sem.run_bind,hvs,Result.andThen_ok,Sem.run_pure]
   have back:∀ {y:PV} {u:Value},Rel { { H with K:=(w.heap.size,[]) } with aux:=fun _ _=>False } w' y u→Rel { H with aux:=fun _ _=>False } w' y u:=fun h=>Rel.mono (Mono.setK { H with aux:=fun _ _=>False } w' (w.heap.size,[])) h
   have backL:∀ {y:List PV} {u:List Value},RelL { { H with K:=(w.heap.size,[]) } with aux:=fun _ _=>False } w' y u→RelL { H with aux:=fun _ _=>False } w' y u:=fun h=>RelL.mono (Mono.setK { H with aux:=fun _ _=>False } w' (w.heap.size,[])) h
   refine⟨_,hrun,_,rfl,⟨hbel,hev.dr⟩,?_⟩;subst hpo0;have hl:=hrs.len;cases hrs with
   |nil =>
    simp only [List.map_nil,pout,qa4];exact .tup [] [] .nil
   |cons y v ys us hy hys =>
    cases hys with
    |nil=>exact back (qvr hev hok hob htk hy)
    |cons y2 v2 ys us hy2 hys =>
     have h1:¬ ((v::v2::us).toArray.size=1):=by simp
     rw [dif_neg h1];exact .tup _ _ (backL (qrK hev hok hob htk (.cons _ _ _ _ hy (.cons _ _ _ _ hy2 hys))))
  rcases he with⟨rfl,rfl⟩|⟨y,rfl,rfl⟩
  ·exact fin
  ·exact fin
theorem DefOk.of_quiet (hT : qaN P tb) (hΓ : qal P gl Γ) {f : FuncId} {fn : Func} {c : Code} (hf : P.funcs[f]? = some fn) (hb : fn.body = some c) (hn : (fn.name == "runtime.NumGoroutine") = false) (hr : fn.results.toList = [])
  {args:List PV} {m:PMode} {σ:Store} {e:PExit} {σ':Store} (he:e=.normal∨e=.ret) (h:(dexec tb Γ c (args++List.replicate (fn.ntmps - args.length) .top) σ []).map (fun r=>(r.1,r.2.2.1,r.2.2.2))=some (e,σ',[])):DefOk P gl f args m σ m σ' where
 ent:=⟨fn,hf,hn,by simp [hb]⟩
 run:=by
  obtain⟨⟨e1,fr,σ1,pd1⟩,h,h2⟩:=qaC h;simp only [Prod.mk.injEq] at h2;rw [h2.1,h2.2.1,h2.2.2] at h
  intro H w vs hok hrel;have key:c.wpIn (rnd none) 0 P (bodyPost P fn fun e w'=>(∃ v,e=.returned v)∧qFP gl H w σ' w') { tmps:=vs.toArray++Array.replicate (fn.ntmps - vs.toArray.size) undef,defers:=[] } w:=by
   have hst:StD gl H w (args++List.replicate (fn.ntmps - args.length) .top) σ [] { tmps:=vs.toArray++Array.replicate (fn.ntmps - vs.toArray.size) undef,defers:=[] } w:=by
    refine⟨H,Ev.refl _ w,hok,?_,trivial⟩;have hl:=hrel.len;have e:(vs.toArray++Array.replicate (fn.ntmps - vs.toArray.size) undef).toList=vs++List.replicate (fn.ntmps - args.length) undef:=by simp [hl]
    rw [e];refine hrel.app ?_;have:=RelL.tops (H:=H) (w:=w) (List.replicate (fn.ntmps - args.length) undef);simpa using this
   refine qne hT hΓ c _ _ _ _ _ _ _ h _ _ _ hst fun a w1 hst1=>?_
   obtain⟨H',hev1,hok1,hfr1,hd⟩:=hst1;have hds:a.defers=[]:=by
    cases hda:a.defers with
    |nil=>rfl
    |cons d ds=>rw [hda] at hd;exact hd.elim
   have hrun:(results fn a.tmps).run P w1=.ok (.tuple #[]) w1:=by
    obtain⟨vs',hvs,hrs⟩:=qdX hT hok1 hfr1 [] [] rfl;cases hrs
    rw [qg2,hr];simp only [Sem.run_bind,hvs,Result.andThen_ok,Sem.run_pure];rfl
   rcases he with rfl|rfl
   ·exact⟨hds,_,hrun,⟨_,rfl⟩,H',hev1,hok1⟩
   ·exact⟨hds,_,hrun,⟨_,rfl⟩,H',hev1,hok1⟩
  refine (callsDIn_of_wp (u:=m.as) hf hb trivial key).mono ?_;rintro e u' w' ⟨rfl,h1,h2⟩;exact⟨h1,m.settled,h2⟩
theorem DefOk.of_recover (hT : qaN P tb) (hΓ : qal P gl Γ) {f : FuncId} {fn : Func} {i0 : Nat} {ops : Array Oper} {c : Code} (hf : P.funcs[f]? = some fn) (hb : fn.body = some (.seq (.region i0 ops false) c)) (hn : (fn.name == "runtime.NumGoroutine") = false) (hr : fn.results.toList = [])
  {d0 d1:Nat} {o0 o1:Oper} (hops:ops=#[o0,o1]) (h0:o0.op=.call { callee:=.builtin .recover,args:=#[],argTypes:=#[] }) (h0d:o0.dst=some d0) (h0g:o0.guard=none) (h1:o1.op=.assign (.tmp d0)) (h1d:o1.dst=some d1) (h1g:o1.guard=none)
  {args:List PV} (hd0:args.length≤d0∧d0 < fn.ntmps) {m:PMode} {y:PV} (hm:(m=.ret∧y=.nili)∨(m=.pan y∧∀ H w,Rel H w y (toV y))) {σ:Store} {e:PExit} {σ':Store} (he:e=.normal∨e=.ret)
  (h:(dexec tb Γ c (((args++List.replicate (fn.ntmps - args.length) PV.top).set d0 y).set d1 y) σ []).map (fun r=>(r.1,r.2.2.1,r.2.2.2))=some (e,σ',[])):DefOk P gl f args m σ .ret σ' where
 ent:=⟨fn,hf,hn,by simp [hb]⟩
 run:=by
  obtain⟨⟨e1,fr,σ1,pd1⟩,h,h2⟩:=qaC h;simp only [Prod.mk.injEq] at h2;rw [h2.1,h2.2.1,h2.2.2] at h
  intro H w vs hok hrel;refine callsDIn_of_wpSIn hf hb trivial fun c₀ cs hc₀=>?_
  refine wpSIn_seq (wpSIn_region ?_);have hl:=hrel.len;have hsz:d0 < (vs.toArray++Array.replicate (fn.ntmps - vs.toArray.size) undef).size:=by
   have:=hd0.2;simp only [Array.size_append,List.size_toArray,Array.size_replicate];omega
  have main:∀ (v:Value) (cs':List Frame) (u':FrameMode),Rel H w y v→cs'={ c₀ with mode:=u' }::cs→settle u'=.returning →
    c.wpSIn (rnd none) 0 P (bodyPostS P fn c₀ cs fun e u' w'=>(∃ v,e=.returned v)∧settle u'=PMode.ret.as∧qFP gl H w σ' w') { tmps:=((vs.toArray++Array.replicate (fn.ntmps - vs.toArray.size) undef).set! d0 v).set! d1 v,defers:=[] } cs' w:=by
   intro v cs' u' hv hcs hu;refine wpSIn_of_wpIn rfl ?_;have hst:StD gl H w (((args++List.replicate (fn.ntmps - args.length) PV.top).set d0 y).set d1 y) σ [] { tmps:=((vs.toArray++Array.replicate (fn.ntmps - vs.toArray.size) undef).set! d0 v).set! d1 v,defers:=[] } w:=by
    refine⟨H,Ev.refl _ w,hok,?_,trivial⟩;have e:(((vs.toArray++Array.replicate (fn.ntmps - vs.toArray.size) undef).set! d0 v).set! d1 v).toList=((vs++List.replicate (fn.ntmps - args.length) undef).set d0 v).set d1 v:=by simp [hl]
    rw [e];refine RelL.set (RelL.set (hrel.app ?_) _ hv) _ hv;have:=RelL.tops (H:=H) (w:=w) (List.replicate (fn.ntmps - args.length) undef);simpa using this
   refine qne hT hΓ c _ _ _ _ _ _ _ h _ _ _ hst fun a w1 hst1=>?_
   obtain⟨H',hev1,hok1,hfr1,hd⟩:=hst1;have hds:a.defers=[]:=by
    cases hda:a.defers with
    |nil=>rfl
    |cons d ds=>rw [hda] at hd;exact hd.elim
   have hrun:(results fn a.tmps).run P w1=.ok (.tuple #[]) w1:=by
    obtain⟨vs',hvs,hrs⟩:=qdX hT hok1 hfr1 [] [] rfl;cases hrs
    rw [qg2,hr];simp only [Sem.run_bind,hvs,Result.andThen_ok,Sem.run_pure];rfl
   rcases he with rfl|rfl
   ·exact⟨hds,u',hcs,_,hrun,⟨_,rfl⟩,hu,H',hev1,hok1⟩
   ·exact⟨hds,u',hcs,_,hrun,⟨_,rfl⟩,hu,H',hev1,hok1⟩
  subst hops;have run0:∀ a:Act,(execOp a.eval o0).run P w=.ok .recover w:=by
   intro a;simp [execOp,h0,resolve,invoke,builtin]
  have run1:∀ a:Act,(execOp a.eval o1).run P w=.ok (.value (a.eval (.tmp d0))) w:=by
   intro a;simp [execOp,h1]
  have hlt:d0 < vs.length+(fn.ntmps - vs.length):=by
   have:=hd0.2;omega
  have want0:∀ ys,Region.wanted o0 ys=true:=fun ys=>by simp [Region.wanted,h0g]
  have want1:∀ ys,Region.wanted o1 ys=true:=fun ys=>by simp [Region.wanted,h1g]
  have get0:∀ v,((vs.toArray++Array.replicate (fn.ntmps - vs.toArray.size) undef).set! d0 v).getD d0 undef=v:=by
   intro v;simp only [Array.getD_eq_getD_getElem?,Array.set!_eq_setIfInBounds,Array.getElem?_setIfInBounds,if_true,if_pos hsz,Option.getD_some]
  rcases hm with⟨rfl,rfl⟩|⟨rfl,hy⟩
  ·have hrec:recoverD (c₀::cs)=none:=by simp [recoverD,hc₀,PMode.as]
   have hcc:(c₀::cs)={ c₀ with mode:=.returning }::cs:=by
    have:c₀.mode=.returning:=hc₀;rw [← this]
   have:=main .nilIface (c₀::cs) .returning .nili hcc rfl;simp [wpOpsSIn,List.range,List.range.loop,run0,run1,want0,want1,hrec,h0d,h1d,Act.put,Act.eval,Exit.thenS,get0];refine⟨fun _ _=>trivial,fun _ _=>trivial,?_⟩
   rw [if_pos hlt];simpa using this
  ·have hrec:recoverD (c₀::cs)=some (toV y,{ c₀ with mode:=.panicking [{ v:=toV y,recovered:=true }] }::cs):=by simp [recoverD,hc₀,PMode.as]
   have:=main (toV y) _ (.panicking [{ v:=toV y,recovered:=true }]) (hy H w) rfl rfl;simp [wpOpsSIn,List.range,List.range.loop,run0,run1,want0,want1,hrec,h0d,h1d,Act.put,Act.eval,Exit.thenS,get0];refine⟨fun _ _=>trivial,fun _ _=>trivial,?_⟩
   rw [if_pos hlt];simpa using this
theorem qa9 {ops:List Oper} {o:Oper} {rest:List Oper} {fr fr':List PV} {σ σ':Store} {pd pd':List PD} (hg:pwanted ops fr o=some true) (h:dop tb Γ fr σ pd o=some (.ok fr' σ' pd')):dops tb Γ ops (o::rest) fr σ pd=dops tb Γ ops rest fr' σ' pd':=by
 simp only [dops,hg,h]
theorem qhp {ops:List Oper} {o:Oper} {rest:List Oper} {fr fr':List PV} {σ σ':Store} {pd pd':List PD} {x:PV} (hg:pwanted ops fr o=some true) (h:dop tb Γ fr σ pd o=some (.pan x fr' σ' pd')):dops tb Γ ops (o::rest) fr σ pd=some (.pan x fr' σ' pd'):=by
 simp only [dops,hg,h]
theorem qau {a b:Code} {fr fr':List PV} {σ σ':Store} {pd pd':List PD} (h:dexec tb Γ a fr σ pd=some (.normal,fr',σ',pd')):dexec tb Γ (.seq a b) fr σ pd=dexec tb Γ b fr' σ' pd':=by
 simp only [dexec,h]
theorem qe7 {a b:Code} {fr fr':List PV} {σ σ':Store} {pd pd':List PD} {x:PV} (h:dexec tb Γ a fr σ pd=some (.pan x,fr',σ',pd')):dexec tb Γ (.seq a b) fr σ pd=some (.pan x,fr',σ',pd'):=by
 simp only [dexec,h]
theorem qb3 {i:Nat} {ops:Array Oper} {fr fr':List PV} {σ σ':Store} {pd pd':List PD} (h:dops tb Γ ops.toList ops.toList fr σ pd=some (.ok fr' σ' pd')):dexec tb Γ (.region i ops false) fr σ pd=some (.normal,fr',σ',pd'):=by
 simp only [dexec,h]
theorem qfj {i:Nat} {ops:Array Oper} {fr fr':List PV} {σ σ':Store} {pd pd':List PD} {x:PV} (h:dops tb Γ ops.toList ops.toList fr σ pd=some (.pan x fr' σ' pd')):dexec tb Γ (.region i ops false) fr σ pd=some (.pan x,fr',σ',pd'):=by
 simp only [dexec,h]
theorem qnf {c:Operand} {a b:Code} {fr:List PV} {σ:Store} {pd:List PD} (h:ev fr c=.bool true):dexec tb Γ (.cond c a b) fr σ pd=dexec tb Γ a fr σ pd:=by
 simp only [dexec,h]
theorem qnQ {c:Operand} {a b:Code} {fr:List PV} {σ:Store} {pd:List PD} (h:ev fr c=.bool false):dexec tb Γ (.cond c a b) fr σ pd=dexec tb Γ b fr σ pd:=by
 simp only [dexec,h]
theorem qSz {t:TypeId} {n:Int} (h:(Lit.int .i64 n).wf=true):∀ (H:Gh) (w:World),Rel H w (.iface t (.agg [.int .i64 n])) (toV (.iface t (.agg [.int .i64 n]))) :=
 fun H w=>.iface _ _ _ (.agg _ _ (.cons _ _ _ _ (.int _ _ h) .nil))
theorem qdF {D:List PV→Store→Tr (PR×Store)} {args:List PV} {σ:Store} {id:Nat} {c:List PV} {t:TypeId} {r:PR} {c':List PV} {os:List (List PV)} {tk:List (Nat×Nat×TypeId)} {ts:List TypeId} (h1:qOs args=some id) (h2:σ.objs[id]?=some c) (h3:σ.tys[id]?=some t)
  (h:(D (args.map (ren id σ.objs)) ⟨[qdf c],[],[t]⟩).run=some (r,⟨c'::os,tk,t::ts⟩)):(frameT D args σ).run=some (qJG r,{ σ with objs:=σ.objs.set id (qa4 c') }):=by
 unfold frameT;simp only [h1,h2,h3,Tr.run_bind,h,Option.bind_some];simp only [qGN,Nat.beq_refl,Tr.run_ret]
variable {fr fr' fr1 : List PV} {σ σ' σ1 : Store} {e : PExit}
theorem Does.seqN {a b:Code} (h1:Does P gl a fr σ .normal fr1 σ1) (h2:Does P gl b fr1 σ1 e fr' σ'):Does P gl (.seq a b) fr σ e fr' σ' :=
 fun r n H0 w0 hR Q a w hst hq=>wpIn_seq (h1 r n H0 w0 hR _ _ _ hst fun a1 w1 hst1=>h2 r n H0 w0 hR _ _ _ hst1 hq)
theorem Does.seqR {a b:Code} (h1:Does P gl a fr σ .ret fr' σ'):Does P gl (.seq a b) fr σ .ret fr' σ' :=
 fun r n H0 w0 hR Q a w hst hq=>wpIn_seq (h1 r n H0 w0 hR _ _ _ hst hq)
theorem Does.ret:Does P gl .ret fr σ .ret fr σ:=fun r n H0 w0 hR Q a w hst hq=>wpIn_ret (hq _ _ hst)
theorem Does.condT {c:Operand} {a b:Code} (hc:ev fr c=.bool true) (h:Does P gl a fr σ e fr' σ'):Does P gl (.cond c a b) fr σ e fr' σ':=by
 intro r n H0 w0 hR Q a w hst hq;obtain⟨H,hev,hok,hfr,hd⟩:=id hst;have hr:=qaL hfr c;rw [hc] at hr;generalize hv:a.eval c=cv at hr;cases hr
 exact wpIn_cond hv (h r n H0 w0 hR _ _ _ hst hq)
theorem Does.reg (hT:qaN P tb) (hΓ:qal P gl Γ) {i:Nat} {ops:Array Oper} (h:pops tb Γ ops.toList ops.toList fr σ=some (fr',σ')):Does P gl (.region i ops false) fr σ .normal fr' σ' :=
 fun r n H0 w0 hR Q a w hst hq=>wpIn_region_list (qyS hT hΓ _ _ _ _ _ _ _ hst h hq r n)
theorem Does.regD (hT:qaN P tb) (hΓ:qal P gl Γ) (hm:P.follows .mixedOrders=true) {i:Nat} {ops:Array Oper} (hd:qod Γ ops.toList=true) (h:qir tb Γ ops.toList ops.toList 0 [] fr σ=some (.ok fr' σ')):Does P gl (.region i ops true) fr σ .normal fr' σ' :=
 fun r n H0 w0 hR Q a w hst hq=>qpQ hT hΓ hm hst h hd (fun fr1 σ1 e a' w' h'=>by cases e;exact hq _ _ h') (fun x σ1 e=>by cases e) r n
theorem qg1 {ops:List Oper} {o:Oper} {rest:List Oper} {x:PV} (hg:pwanted ops fr o=some true) (h:pop tb Γ fr σ o=some (x,σ')):pops tb Γ ops (o::rest) fr σ=pops tb Γ ops rest (pput fr o.dst x) σ':=by
 simp only [pops,hg,h]
theorem qaT {ops:List Oper} {o:Oper} {rest:List Oper} {x:PV} {j:Nat} {lds:List (Nat×Nat)} (hg:pwanted ops fr o=some true) (h:pop tb Γ fr σ o=some (x,σ')) (hk:writes Γ o=true→qr7 o σ σ' lds):qir tb Γ ops (o::rest) j lds fr σ=qir tb Γ ops rest (j+1) (qIR j lds (ldOf fr o)) (pput fr o.dst x) σ':=by
 simp only [qir,hg,h];exact if_pos hk
end
theorem qdy {o:Oper} {σ σ':Store} {l l':List (Nat×Nat)} (h:l=l') (k:qr7 o σ σ' l'):qr7 o σ σ' l:=h ▸ k
def sq1:Code→Code
 |.seq a _=>a
 |.cond _ a _=>a
 |c=>c
def sq2:Code→Code
 |.seq _ b=>b
 |.cond _ _ b=>b
 |c=>c
def qam:Code→Array Oper
 |.region _ o _=>o
 |_=>#[]
def opAt (c:Code) (k:Nat):Oper:=(qam c).getD k default
end Go.Pv
set_option maxHeartbeats 4000000
set_option maxRecDepth 200000
set_option linter.unusedSimpArgs false
set_option linter.unusedVariables false
namespace Go.Pv
open Go Go.Proofs
def qS2:GamT:=ofL [(35,.may (frameT qFR))]
theorem qRR (gl:Gl):qal Tryz.prog gl (gam qS2):=(qah (SimM.frameT (qLF gl)) qaf)
def qVP:LpsT:=fun r fr σ=>.fail
section
variable (r:qR) (n:Int)
def qMS:Tr (PR×Store):=let z1:=qad (qad r);.ite (qwD z1 n) (.ret (PR.pan (.iface 172 (.agg [.int .i64 (qpt z1 n)])),Store.mk [[.sl (qaa (qaa (qpr z1 n))) .non,.int .i64 n]] [] [138])) (.ite (qwC z1 n) (.ret (PR.val (.agg [.sl (qaa (qaa (qqm z1 n))) .non,.sl (qaa (qaa (qln z1 n))) .non,.sl (qaa (qaa (qk2 z1 n))) .non]),Store.mk [[.sl (qaa (qaa (qk0 z1 n))) .non,.int .i64 n]] [] [138])) .fail)
theorem qWS:(nrmM tbT qS2 qVP Tryz.f34 [.ptr 0 0] ⟨[[.sl r .non,.int .i64 n]],[],[138]⟩).flat=qMS r n:=by kernel_rfl
def qxE:Option (PR×Store):=(qMS r n).run
def qGO:Int:=oG (qxE r n)
def qGZ:qR:=qbd 0 0 (qxE r n)
def qNJ:Bool:=isW (qxE r n) ((.pan (.iface 172 (.agg [.int .i64 (qGO r n)]))),⟨[[.sl (qGZ r n) .non,.int .i64 n]],[],[138]⟩)
def qFS:qR:=qet 0 (qxE r n)
def qCb:qR:=qet 1 (qxE r n)
def qzH:qR:=qet 2 (qxE r n)
def qCq:qR:=qbd 0 0 (qxE r n)
def qLj:Bool:=isW (qxE r n) ((.val (.agg [.sl (qFS r n) .non,.sl (qCb r n) .non,.sl (qzH r n) .non])),⟨[[.sl (qCq r n) .non,.int .i64 n]],[],[138]⟩)
end
def qor:List PV→Store→Tr (PR×Store)|[.ptr 0 0],⟨[[.sl r .non,.int .i64 n]],[],[138]⟩=>.ite (qNJ r n) (.ret ((.pan (.iface 172 (.agg [.int .i64 (qGO r n)]))),⟨[[.sl (qGZ r n) .non,.int .i64 n]],[],[138]⟩)) (.ite (qLj r n) (.ret ((.val (.agg [.sl (qFS r n) .non,.sl (qCb r n) .non,.sl (qzH r n) .non])),⟨[[.sl (qCq r n) .non,.int .i64 n]],[],[138]⟩)) (.fail))|_,_=>.fail
theorem qRH (gl:Gl):SimM Tryz.prog gl 34 fun args σ=>(qor args σ).run:=by
 refine SimM.of_nrm (G:=qS2) (L:=qVP) qaj (qRR gl ) qai Tryz.func34 rfl (by rfl) (by kernel_rfl) (qac (by kernel_rfl)) ?_
 intro args σ x h;unfold qor at h
 split at h
 ·exact (congrArg Tr.run (qWS _ _)).trans (qae h fun h=>qae h fun h=>by cases h)
 ·cases h
def qRJ:GamT:=ofL [(47,.may (frameT qCE))]
theorem qSf (gl:Gl):qal Tryz.prog gl (gam qRJ):=(qah (SimM.frameT (qEk gl)) qaf)
def qWe:LpsT:=fun r fr σ=>.fail
section
variable (r:qR) (n:Int)
def qKO:Tr (PR×Store):=let z1:=qad (qad r);.ite (qqx z1 n) (.ret (PR.pan (.iface 172 (.agg [.int .i64 (qkt z1 n)])),Store.mk [[.sl (qaa (qaa (qkK z1 n))) .non,.int .i64 n]] [] [138])) (.ite (qpe z1 n) (.ret (PR.val (.agg [.str (qku z1 n),.sl (qaa (qaa (qjY z1 n))) .non,.sl (qaa (qaa (qhX z1 n))) .non]),Store.mk [[.sl (qaa (qaa (qg8 z1 n))) .non,.int .i64 n]] [] [138])) .fail)
theorem qWM:(nrmM tbT qRJ qWe Tryz.f46 [.ptr 0 0] ⟨[[.sl r .non,.int .i64 n]],[],[138]⟩).flat=qKO r n:=by kernel_rfl
def qxw:Option (PR×Store):=(qKO r n).run
def qGu:Int:=oG (qxw r n)
def qF7:qR:=qbd 0 0 (qxw r n)
def qLC:Bool:=isW (qxw r n) ((.pan (.iface 172 (.agg [.int .i64 (qGu r n)]))),⟨[[.sl (qF7 r n) .non,.int .i64 n]],[],[138]⟩)
def qE1:qU:=qbx 0 (qxw r n)
def qGs:qR:=qet 1 (qxw r n)
def qzp:qR:=qet 2 (qxw r n)
def qzO:qR:=qbd 0 0 (qxw r n)
def qLL:Bool:=isW (qxw r n) ((.val (.agg [.str (qE1 r n),.sl (qGs r n) .non,.sl (qzp r n) .non])),⟨[[.sl (qzO r n) .non,.int .i64 n]],[],[138]⟩)
end
def qpo:List PV→Store→Tr (PR×Store)|[.ptr 0 0],⟨[[.sl r .non,.int .i64 n]],[],[138]⟩=>.ite (qLC r n) (.ret ((.pan (.iface 172 (.agg [.int .i64 (qGu r n)]))),⟨[[.sl (qF7 r n) .non,.int .i64 n]],[],[138]⟩)) (.ite (qLL r n) (.ret ((.val (.agg [.str (qE1 r n),.sl (qGs r n) .non,.sl (qzp r n) .non])),⟨[[.sl (qzO r n) .non,.int .i64 n]],[],[138]⟩)) (.fail))|_,_=>.fail
theorem qSa (gl:Gl):SimM Tryz.prog gl 46 fun args σ=>(qpo args σ).run:=by
 refine SimM.of_nrm (G:=qRJ) (L:=qWe) qaj (qSf gl ) qai Tryz.func46 rfl (by rfl) (by kernel_rfl) (qac (by kernel_rfl)) ?_
 intro args σ x h;unfold qpo at h
 split at h
 ·exact (congrArg Tr.run (qWM _ _)).trans (qae h fun h=>qae h fun h=>by cases h)
 ·cases h
def qTF:GamT:=ofL [(51,.may (frameT qqK))]
theorem qR8 (gl:Gl):qal Tryz.prog gl (gam qTF):=(qah (SimM.frameT (qoQ gl)) qaf)
def qU4:LpsT:=fun r fr σ=>.fail
section
variable (r:qR) (n:Int)
def qMP:Tr (PR×Store):=let z1:=qad (qad r);.ite (qeq z1 n) (.ret (PR.pan (.iface 172 (.agg [.int .i64 (qdC z1 n)])),Store.mk [[.sl (qaa (qaa (qdu z1 n))) .non,.int .i64 n]] [] [138])) (.ite (qer z1 n) (.ret (PR.val (.agg [.str (qcR z1 n),.sl (qaa (qaa (qep z1 n))) .non]),Store.mk [[.sl (qaa (qaa (qdb z1 n))) .non,.int .i64 n]] [] [138])) .fail)
theorem qWi:(nrmM tbT qTF qU4 Tryz.f50 [.ptr 0 0] ⟨[[.sl r .non,.int .i64 n]],[],[138]⟩).flat=qMP r n:=by kernel_rfl
def qBa:Option (PR×Store):=(qMP r n).run
def qGx:Int:=oG (qBa r n)
def qFO:qR:=qbd 0 0 (qBa r n)
def qME:Bool:=isW (qBa r n) ((.pan (.iface 172 (.agg [.int .i64 (qGx r n)]))),⟨[[.sl (qFO r n) .non,.int .i64 n]],[],[138]⟩)
def qGg:qU:=qbx 0 (qBa r n)
def qE7:qR:=qet 1 (qBa r n)
def qBK:qR:=qbd 0 0 (qBa r n)
def qMw:Bool:=isW (qBa r n) ((.val (.agg [.str (qGg r n),.sl (qE7 r n) .non])),⟨[[.sl (qBK r n) .non,.int .i64 n]],[],[138]⟩)
end
def qoz:List PV→Store→Tr (PR×Store)|[.ptr 0 0],⟨[[.sl r .non,.int .i64 n]],[],[138]⟩=>.ite (qME r n) (.ret ((.pan (.iface 172 (.agg [.int .i64 (qGx r n)]))),⟨[[.sl (qFO r n) .non,.int .i64 n]],[],[138]⟩)) (.ite (qMw r n) (.ret ((.val (.agg [.str (qGg r n),.sl (qE7 r n) .non])),⟨[[.sl (qBK r n) .non,.int .i64 n]],[],[138]⟩)) (.fail))|_,_=>.fail
theorem qUc (gl:Gl):SimM Tryz.prog gl 50 fun args σ=>(qoz args σ).run:=by
 refine SimM.of_nrm (G:=qTF) (L:=qU4) qaj (qR8 gl ) qai Tryz.func50 rfl (by rfl) (by kernel_rfl) (qac (by kernel_rfl)) ?_
 intro args σ x h;unfold qoz at h
 split at h
 ·exact (congrArg Tr.run (qWi _ _)).trans (qae h fun h=>qae h fun h=>by cases h)
 ·cases h
end Go.Pv
set_option maxHeartbeats 4000000
set_option maxRecDepth 200000
set_option linter.unusedSimpArgs false
set_option linter.unusedVariables false
namespace Go.Pv
open Go Go.Proofs
def qa5 (k n:Int) (s:qU):Int:=if k=1∧s=[] then 0 else if k=2∧n=0∧s.length≤256 then 0 else 10
def isV (k n:Int) (s:qU):Bool:=decide (k=1∧s=[]∨k=2∧n=0∧s.length≤256)
def qEV:List PV→Tr PV
 |[.agg [.int .i64 k,.int .i64 n,.str s]]=>.ret (.int .i64 (qa5 k n s))
 |_=>.fail
theorem qK6 (gl:Gl):SimP Tryz.prog gl 184 fun args=>(qEV args).run:=by
 refine SimP.of_tree (G:=ofL []) (L:=fun _ _ _=>.fail) qaj qaf qai Tryz.func184 rfl (by rfl) (by kernel_rfl) (qac (by kernel_rfl)) ?_
 intro args x h hr;unfold qEV at h
 split at h
 ·rename_i k n s;cases h
  refine Tr.run_as (.ite (iEq k 1) (.ite (sEq s []) (.ret (.int .i64 0)) (.ite (iEq k 2) (.ite (iEq n 0) (.ite (iLe (sLen s) 256) (.ret (.int .i64 0)) (.ret (.int .i64 10))) (.ret (.int .i64 10))) (.ret (.int .i64 10)))) (.ite (iEq k 2) (.ite (iEq n 0) (.ite (iLe (sLen s) 256) (.ret (.int .i64 0)) (.ret (.int .i64 10))) (.ret (.int .i64 10))) (.ret (.int .i64 10)))) (by kernel_rfl) ?_
  simp
  try simp [qa5]
  try ((repeat' split)<;>first|rfl|(simp_all;done)|omega|(simp_all;omega))
 ·cases h
def F_Is:List PV→Tr PV
 |[.agg [.int .i64 k,.int .i64 n,.str s]]=>.ret (.bool (isV k n s))
 |_=>.fail
theorem qVD (gl:Gl):SimP Tryz.prog gl 179 fun args=>(F_Is args).run:=by
 refine SimP.of_tree (G:=ofL []) (L:=fun _ _ _=>.fail) qaj qaf qai Tryz.func179 rfl (by rfl) (by kernel_rfl) (qac (by kernel_rfl)) ?_
 intro args x h hr;unfold F_Is at h
 split at h
 ·rename_i k n s;cases h
  refine Tr.run_as (.ite (iEq k 1) (.ite (sEq s []) (.ret (.bool true)) (.ite (iEq k 2) (.ite (iEq n 0) (.ret (.bool (iLe (sLen s) 256))) (.ret (.bool false))) (.ret (.bool false)))) (.ite (iEq k 2) (.ite (iEq n 0) (.ret (.bool (iLe (sLen s) 256))) (.ret (.bool false))) (.ret (.bool false)))) (by kernel_rfl) ?_
  simp
  try simp [isV]
  try ((repeat' split)<;>first|rfl|(simp_all;done)|omega|(simp_all;omega))
 ·cases h
def qdk (a b:qU):Bool:=decide (b.length≤a.length)&&decide (a.take b.length=b)
def qwP (a b:qU):Bool:=decide (b.length≤a.length)&&decide (a.drop (a.length - b.length)=b)
def qvl:List PV→Tr PV
 |[.str a,.str b]=>.ret (.bool (qdk a b))
 |_=>.fail
theorem qFp (gl:Gl):SimP Tryz.prog gl 190 fun args=>(qvl args).run:=by
 refine SimP.of_tree (G:=ofL []) (L:=fun _ _ _=>.fail) qaj qaf qai Tryz.func190 rfl (by rfl) (by kernel_rfl) (qac (by kernel_rfl)) ?_
 intro args x h hr;unfold qvl at h
 split at h
 ·rename_i a b;cases h
  have h1:=qBw hr 0 rfl;have h2:=qBw hr 1 rfl;unfold maxLen at h1 h2;refine Tr.run_as (.ite (iLe (sLen b) (sLen a)) (.ite (qbc true (qay (sLen b)) 0 (nNat (sLen b)) (nLen a)) (.ret (.bool (sEq (sSub a 0 (nNat (sLen b))) b))) .fail) (.ret (.bool false))) (by kernel_rfl) ?_
  simp [iSub];by_cases hl:b.length≤a.length
  ·simp [qdk,hl]
  ·simp [qdk,hl]
 ·cases h
def qxp:List PV→Tr PV
 |[.str a,.str b]=>.ret (.bool (qwP a b))
 |_=>.fail
theorem qF2 (gl:Gl):SimP Tryz.prog gl 201 fun args=>(qxp args).run:=by
 refine SimP.of_tree (G:=ofL []) (L:=fun _ _ _=>.fail) qaj qaf qai Tryz.func201 rfl (by rfl) (by kernel_rfl) (qac (by kernel_rfl)) ?_
 intro args x h hr;unfold qxp at h
 split at h
 ·rename_i a b;cases h
  have h1:=qBw hr 0 rfl;have h2:=qBw hr 1 rfl;unfold maxLen at h1 h2;refine Tr.run_as (.ite (iLe (sLen b) (sLen a)) (.ite (qbc (qay (iSub .i64 (sLen a) (sLen b))) true (nNat (iSub .i64 (sLen a) (sLen b))) (nLen a) (nLen a)) (.ret (.bool (sEq (sSub a (nNat (iSub .i64 (sLen a) (sLen b))) (nLen a)) b))) .fail) (.ret (.bool false))) (by kernel_rfl) ?_
  simp [iSub];by_cases hl:b.length≤a.length
  ·have e:IntKind.wrap .i64 ((a.length:Int) - b.length)=(a.length:Int) - b.length:=qaI (by omega)
   have e2:((a.length:Int) - b.length).toNat=a.length - b.length:=by omega
   rw [if_pos hl,e,if_pos (by omega),e2]
   simp [qwP,hl]
  ·simp [qwP,hl]
 ·cases h
def quc:List PV→Tr PV
 |[.str a,.str b]=>.ret (.bool (qdk a b))
 |_=>.fail
theorem qxW (gl:Gl):SimP Tryz.prog gl 177 fun args=>(quc args).run:=by
 refine SimP.of_tree (G:=ofL [(190,.pure qvl)]) (L:=fun _ _ _=>.fail) qaj (qag (qFp gl) qaf) qai Tryz.func177 rfl (by rfl) (by kernel_rfl) (qac (by kernel_rfl)) ?_
 intro args x h hr;unfold quc at h
 split at h
 ·rename_i a b;cases h
  refine Tr.run_as (.ret (.bool (qdk a b))) (by kernel_rfl) ?_
  simp
  try simp
  try ((repeat' split)<;>first|rfl|(simp_all;done)|omega|(simp_all;omega))
 ·cases h
def qy4:List PV→Tr PV
 |[.str a,.str b]=>.ret (.bool (qwP a b))
 |_=>.fail
theorem qJS (gl:Gl):SimP Tryz.prog gl 194 fun args=>(qy4 args).run:=by
 refine SimP.of_tree (G:=ofL [(201,.pure qxp)]) (L:=fun _ _ _=>.fail) qaj (qag (qF2 gl) qaf) qai Tryz.func194 rfl (by rfl) (by kernel_rfl) (qac (by kernel_rfl)) ?_
 intro args x h hr;unfold qy4 at h
 split at h
 ·rename_i a b;cases h
  refine Tr.run_as (.ret (.bool (qwP a b))) (by kernel_rfl) ?_
  simp
  try simp
  try ((repeat' split)<;>first|rfl|(simp_all;done)|omega|(simp_all;omega))
 ·cases h
def hexL:qU:=[48,49,50,51,52,53,54,55,56,57,97,98,99,100,101,102]
def oneV (c:Int):List UInt8 :=
 if c=34∨c=92 then [92,UInt8.ofNat c.toNat] else if c=10 then [92,110] else if c=9 then [92,116] else if 32≤c∧c≤126 then [UInt8.ofNat c.toNat]
 else [92,120,UInt8.ofNat (sAt hexL (iShr .u8 c 4)).toNat,UInt8.ofNat (sAt hexL (iAnd .u8 c 15)).toNat]
def qRx:List PV→Tr PV
 |[.int .u8 c]=>.ret (.str (oneV c))
 |_=>.fail
theorem qS0 (gl:Gl):SimP Tryz.prog gl 187 fun args=>(qRx args).run:=by
 refine SimP.of_tree (G:=ofL []) (L:=fun _ _ _=>.fail) qaj qaf qai Tryz.func187 rfl (by rfl) (by kernel_rfl) (qac (by kernel_rfl)) ?_
 intro args x h hr;unfold qRx at h
 split at h
 ·rename_i c;cases h
  have h1:=qq9 hr 0 rfl;obtain⟨n,rfl⟩:=qtT h1;refine Tr.run_as (.ite (iEq (Int.ofNat n.1) 34) (.ite (qfp (qas .i32 (Int.ofNat n.1))) (.ite (qsh [92] (sOne (qas .i32 (Int.ofNat n.1)))) (.ret (.str (sApp [92] (sOne (qas .i32 (Int.ofNat n.1)))))) .fail) .fail) (.ite (iEq (Int.ofNat n.1) 92) (.ite (qfp (qas .i32 (Int.ofNat n.1))) (.ite (qsh [92] (sOne (qas .i32 (Int.ofNat n.1)))) (.ret (.str (sApp [92] (sOne (qas .i32 (Int.ofNat n.1)))))) .fail) .fail) (.ite (iEq (Int.ofNat n.1) 10) (.ret (.str [92,110])) (.ite (iEq (Int.ofNat n.1) 9) (.ret (.str [92,116])) (.ite (iLe 32 (Int.ofNat n.1)) (.ite (iLe (Int.ofNat n.1) 126) (.ite (qfp (qas .i32 (Int.ofNat n.1))) (.ret (.str (sOne (qas .i32 (Int.ofNat n.1))))) .fail) (.ite (qaz [48,49,50,51,52,53,54,55,56,57,97,98,99,100,101,102] (iShr .u8 (Int.ofNat n.1) 4)) (.ite (qfp (qas .i32 (sAt [48,49,50,51,52,53,54,55,56,57,97,98,99,100,101,102] (iShr .u8 (Int.ofNat n.1) 4)))) (.ite (qsh [92,120] (sOne (qas .i32 (sAt [48,49,50,51,52,53,54,55,56,57,97,98,99,100,101,102] (iShr .u8 (Int.ofNat n.1) 4))))) (.ite (qaz [48,49,50,51,52,53,54,55,56,57,97,98,99,100,101,102] (iAnd .u8 (Int.ofNat n.1) 15)) (.ite (qfp (qas .i32 (sAt [48,49,50,51,52,53,54,55,56,57,97,98,99,100,101,102] (iAnd .u8 (Int.ofNat n.1) 15)))) (.ite (qsh (sApp [92,120] (sOne (qas .i32 (sAt [48,49,50,51,52,53,54,55,56,57,97,98,99,100,101,102] (iShr .u8 (Int.ofNat n.1) 4))))) (sOne (qas .i32 (sAt [48,49,50,51,52,53,54,55,56,57,97,98,99,100,101,102] (iAnd .u8 (Int.ofNat n.1) 15))))) (.ret
   (.str (sApp (sApp [92,120] (sOne (qas .i32 (sAt [48,49,50,51,52,53,54,55,56,57,97,98,99,100,101,102] (iShr .u8 (Int.ofNat n.1) 4))))) (sOne (qas .i32 (sAt [48,49,50,51,52,53,54,55,56,57,97,98,99,100,101,102] (iAnd .u8 (Int.ofNat n.1) 15))))))) .fail) .fail) .fail) .fail) .fail) .fail)) (.ite (qaz [48,49,50,51,52,53,54,55,56,57,97,98,99,100,101,102] (iShr .u8 (Int.ofNat n.1) 4)) (.ite (qfp (qas .i32 (sAt [48,49,50,51,52,53,54,55,56,57,97,98,99,100,101,102] (iShr .u8 (Int.ofNat n.1) 4)))) (.ite (qsh [92,120] (sOne (qas .i32 (sAt [48,49,50,51,52,53,54,55,56,57,97,98,99,100,101,102] (iShr .u8 (Int.ofNat n.1) 4))))) (.ite (qaz [48,49,50,51,52,53,54,55,56,57,97,98,99,100,101,102] (iAnd .u8 (Int.ofNat n.1) 15)) (.ite (qfp (qas .i32 (sAt [48,49,50,51,52,53,54,55,56,57,97,98,99,100,101,102] (iAnd .u8 (Int.ofNat n.1) 15)))) (.ite (qsh (sApp [92,120] (sOne (qas .i32 (sAt [48,49,50,51,52,53,54,55,56,57,97,98,99,100,101,102] (iShr .u8 (Int.ofNat n.1) 4))))) (sOne (qas .i32 (sAt [48,49,50,51,52,53,54,55,56,57,97,98,99,100,101,102] (iAnd .u8 (Int.ofNat n.1) 15))))) (.ret (.str (sApp (sApp [92,120] (sOne (qas .i32 (sAt [48,49,50,51,52,53,54,55,56,57,97,98,99,100,101,102] (iShr .u8 (Int.ofNat n.1) 4))))) (sOne (qas .i32 (sAt [48,49,50,51,52,53,54,55,56,57,97,98,99,100,101,102] (iAnd .u8 (Int.ofNat n.1) 15))))))) .fail) .fail) .fail) .fail) .fail) .fail)))))) (by kernel_rfl) ?_
  clear hr h1;apply qQa
  revert n
  decide +kernel
 ·cases h
def qKr (c:Int):Int:=if c < 10 then iAdd .u8 48 c else iSub .u8 (iAdd .u8 97 c) 10
def qcr (c:Int):Int:=if 48≤c∧c≤57 then c - 48 else if 97≤c∧c≤102 then c - 87 else -1
def qLO:List PV→Tr PV
 |[.int .u8 c]=>.ret (.int .u8 (qKr c))
 |_=>.fail
theorem qOJ (gl:Gl):SimP Tryz.prog gl 191 fun args=>(qLO args).run:=by
 refine SimP.of_tree (G:=ofL []) (L:=fun _ _ _=>.fail) qaj qaf qai Tryz.func191 rfl (by rfl) (by kernel_rfl) (qac (by kernel_rfl)) ?_
 intro args x h hr;unfold qLO at h
 split at h
 ·rename_i c;cases h
  have h1:=qq9 hr 0 rfl;obtain⟨n,rfl⟩:=qtT h1;refine Tr.run_as (.ite (iLt (Int.ofNat n.1) 10) (.ret (.int .u8 (iAdd .u8 48 (Int.ofNat n.1)))) (.ret (.int .u8 (iSub .u8 (iAdd .u8 97 (Int.ofNat n.1)) 10)))) (by kernel_rfl) ?_
  clear hr h1;apply qHc
  revert n
  decide +kernel
 ·cases h
def qLT:List PV→Tr PV
 |[.int .u8 c]=>.ret (.int .i64 (qcr c))
 |_=>.fail
theorem qPy (gl:Gl):SimP Tryz.prog gl 178 fun args=>(qLT args).run:=by
 refine SimP.of_tree (G:=ofL []) (L:=fun _ _ _=>.fail) qaj qaf qai Tryz.func178 rfl (by rfl) (by kernel_rfl) (qac (by kernel_rfl)) ?_
 intro args x h hr;unfold qLT at h
 split at h
 ·rename_i c;cases h
  have h1:=qq9 hr 0 rfl;obtain⟨n,rfl⟩:=qtT h1;refine Tr.run_as (.ite (iLe 48 (Int.ofNat n.1)) (.ite (iLe (Int.ofNat n.1) 57) (.ret (.int .i64 (qas .i64 (iSub .u8 (Int.ofNat n.1) 48)))) (.ite (iLe 97 (Int.ofNat n.1)) (.ite (iLe (Int.ofNat n.1) 102) (.ret (.int .i64 (iAdd .i64 (qas .i64 (iSub .u8 (Int.ofNat n.1) 97)) 10))) (.ret (.int .i64 (-1)))) (.ret (.int .i64 (-1))))) (.ite (iLe 97 (Int.ofNat n.1)) (.ite (iLe (Int.ofNat n.1) 102) (.ret (.int .i64 (iAdd .i64 (qas .i64 (iSub .u8 (Int.ofNat n.1) 97)) 10))) (.ret (.int .i64 (-1)))) (.ret (.int .i64 (-1))))) (by kernel_rfl) ?_
  clear hr h1;apply qHc
  revert n
  decide +kernel
 ·cases h
def qKq:List PV→Tr PV
 |[.int .u8 c]=>.ret (.sl (qab (oneV c)) .non)
 |_=>.fail
theorem qOS (gl:Gl):SimP Tryz.prog gl 181 fun args=>(qKq args).run:=by
 refine SimP.of_tree (G:=ofL [(191,.pure qLO)]) (L:=fun _ _ _=>.fail) qaj (qag (qOJ gl) qaf) qai Tryz.func181 rfl (by rfl) (by kernel_rfl) (qac (by kernel_rfl)) ?_
 intro args x h hr;unfold qKq at h
 split at h
 ·rename_i c;cases h
  have h1:=qq9 hr 0 rfl;obtain⟨n,rfl⟩:=qtT h1;refine Tr.run_as (.ite (iEq (Int.ofNat n.1) 34) (.ret (.sl [[.int .u8 92],[.int .u8 (Int.ofNat n.1)]] .non)) (.ite (iEq (Int.ofNat n.1) 92) (.ret (.sl [[.int .u8 92],[.int .u8 (Int.ofNat n.1)]] .non)) (.ite (iEq (Int.ofNat n.1) 10) (.ret (.sl [[.int .u8 92],[.int .u8 110]] .non)) (.ite (iEq (Int.ofNat n.1) 9) (.ret (.sl [[.int .u8 92],[.int .u8 116]] .non)) (.ite (iLe 32 (Int.ofNat n.1)) (.ite (iLe (Int.ofNat n.1) 126) (.ret (.sl [[.int .u8 (Int.ofNat n.1)]] .non)) (.ret (.sl [[.int .u8 92],[.int .u8 120],[.int .u8 (qKr (iQuo .u8 (Int.ofNat n.1) 16))],[.int .u8 (qKr (iRem (Int.ofNat n.1) 16))]] .non))) (.ret (.sl [[.int .u8 92],[.int .u8 120],[.int .u8 (qKr (iQuo .u8 (Int.ofNat n.1) 16))],[.int .u8 (qKr (iRem (Int.ofNat n.1) 16))]] .non))))))) (by kernel_rfl) ?_
  clear hr h1;apply qQn
  revert n
  decide +kernel
 ·cases h
end Go.Pv
set_option maxHeartbeats 4000000
set_option maxRecDepth 200000
set_option linter.unusedSimpArgs false
set_option linter.unusedVariables false
namespace Go.Pv
open Go Go.Proofs
theorem qfy {l:List UInt8} {i:Int} {v:UInt8} (h:l[i.toNat]?=some v):sAt l i=v.toNat:=by
 simp [sAt,List.getD_eq_getElem?_getD,h]
theorem qdt {l:List UInt8} {i:Int} {v:UInt8} (h0:0≤i) (h:l[i.toNat]?=some v):qaz l i=true:=by
 have:=(List.getElem?_eq_some_iff.1 h).1;simp [h0,this]
def dv:qU→Int→Int→Int
 |[],_,_=>16
 |b::l,c,i=>if (b.toNat:Int)=c then i else dv l c (i+1)
def digV (c:Int):Int:=dv hexL c 0
def qGJ:List PV→Tr PV
 |[.int .u8 c]=>.ret (.int .u8 (digV c))
 |_=>.fail
def qEK:List PV→Store→Option (Int×Int×Store)
 |[.int .u8 c,.int .i64 i],σ=>some (c,i,σ)
 |_,_=>none
def qNe:Int×Int×Store→Tr (PExit×List (Nat×PV)×Store)
 |(c,i,σ)=>Tr.chk (iEq i 0) (.ite (iEq (digV c) 16) (.ret (.exit 0,[],σ)) (.ret (.ret,[(2,.int .u8 (digV c))],σ)))
def qM4:LpsT:=fun r fr σ=>if r=2 then oracle 14 [0,4] qEK qNe fr σ else .fail
def qEN:Code:=qLg Tryz.f210 0
theorem qJx (gl:Gl):∀ vs σ a e out σ',qEK vs σ=some a→(qNe a).run=some (e,out,σ')→LDoes Tryz.prog gl qEN (mk 14 ([0,4].zip vs)) σ e (mk 14 out) σ':=by
 intro vs s a e out σ' hd hr;unfold qEK at hd;split at hd
 ·rename_i c i;cases hd
  obtain⟨h1,h2⟩:=Tr.chk_some hr;simp at h1;subst h1;clear hr;have key:∀ (m:Nat) (i:Int),0≤i→i+m=16→dv (hexL.drop i.toNat) c i=digV c→LDoes Tryz.prog gl qEN (mk 14 ([0,4].zip [.int .u8 c,.int .i64 i])) s e (mk 14 out) σ':=by
   intro m
   induction m with
   |zero =>
    intro i h0 hi hf;have:i=16:=by omega
    subst this;have hf:16=digV c:=hf;simp [← hf] at h2;obtain⟨rfl,rfl,rfl⟩:=h2;refine LDoes.round qaj (G:=ofL []) qaf qai (L:=fun _ _ _=>.fail) (qac (by kernel_rfl)) (by kernel_rfl) ?_
    refine Tr.all_as (.ite (iLt 16 16) (.ite (qaz [48,49,50,51,52,53,54,55,56,57,97,98,99,100,101,102] 16) (.ite (iEq (sAt [48,49,50,51,52,53,54,55,56,57,97,98,99,100,101,102] 16) c) (.ret (.ret,[10,5],[.int .u8 c,.top,.int .u8 (qas .u8 16),.int .i64 16,.int .i64 16,.bool true,.int .i64 16,.int .i64 16,.int .u8 (sAt [48,49,50,51,52,53,54,55,56,57,97,98,99,100,101,102] 16),.int .u8 c,.bool true,.int .i64 16,.int .u8 (qas .u8 16),.top],s)) (.ret (.normal,[10,5],[.int .u8 c,.top,.top,.int .i64 16,.int .i64 (iAdd .i64 16 1),.bool true,.int .i64 16,.int .i64 16,.int .u8 (sAt [48,49,50,51,52,53,54,55,56,57,97,98,99,100,101,102] 16),.int .u8 c,.bool false,.top,.top,.int .i64 (iAdd .i64 16 1)],s))) .fail) (.ret (.exit 0,[5],[.int .u8 c,.top,.top,.top,.int .i64 16,.bool false,.top,.top,.top,.top,.top,.top,.top,.top],s))) (by kernel_rfl) ?_
    refine⟨fun h=>by simp at h,fun h=>⟨rfl,by simp [Weak,mk,qbN,look],rfl⟩⟩
   |succ m ih =>
    intro i h0 hi hf;obtain⟨v,hv⟩:=qeK (l:=hexL) (i:=i.toNat) (by show i.toNat < 16;omega)
    rw [qaR hv] at hf;refine LDoes.round qaj (G:=ofL []) qaf qai (L:=fun _ _ _=>.fail) (qac (by kernel_rfl)) (by kernel_rfl) ?_
    refine Tr.all_as (.ite (iLt i 16) (.ite (qaz [48,49,50,51,52,53,54,55,56,57,97,98,99,100,101,102] i) (.ite (iEq (sAt [48,49,50,51,52,53,54,55,56,57,97,98,99,100,101,102] i) c) (.ret (.ret,[10,5],[.int .u8 c,.top,.int .u8 (qas .u8 i),.int .i64 i,.int .i64 i,.bool true,.int .i64 i,.int .i64 i,.int .u8 (sAt [48,49,50,51,52,53,54,55,56,57,97,98,99,100,101,102] i),.int .u8 c,.bool true,.int .i64 i,.int .u8 (qas .u8 i),.top],s)) (.ret (.normal,[10,5],[.int .u8 c,.top,.top,.int .i64 i,.int .i64 (iAdd .i64 i 1),.bool true,.int .i64 i,.int .i64 i,.int .u8 (sAt [48,49,50,51,52,53,54,55,56,57,97,98,99,100,101,102] i),.int .u8 c,.bool false,.top,.top,.int .i64 (iAdd .i64 i 1)],s))) .fail) (.ret (.exit 0,[5],[.int .u8 c,.top,.top,.top,.int .i64 i,.bool false,.top,.top,.top,.top,.top,.top,.top,.top],s))) (by kernel_rfl) ?_
    refine⟨fun _=>⟨fun _=>⟨fun h=>?_,fun h=>?_⟩,fun h=>?_⟩,fun h=>by simp at h;omega⟩
    ·have h:iEq (sAt hexL i) c=true:=h;rw [qfy hv] at h
     simp at h
     simp only [dv,if_pos h] at hf;rw [← hf] at h2;have h16:¬ i=16:=by omega
     simp [h16] at h2;obtain⟨rfl,rfl,rfl⟩:=h2;refine⟨rfl,?_,rfl⟩;simp [Weak,mk,qbN,look,qas,qzF (n:=i) (by omega)]
    ·have h:iEq (sAt hexL i) c=false:=h;rw [qfy hv] at h
     simp at h
     simp only [dv,if_neg h] at hf;have e1:(i+1).toNat=i.toNat+1:=by omega
     refine LDoes.into ?_ (ih (i+1) (by omega) (by omega) (by rw [e1];exact hf))
     simp [Weak,mk,qbN,look,iAdd,qaI (n:=i+1) (by omega)]
    ·have h:qaz hexL i=false:=h;rw [qdt h0 hv] at h
     cases h
  exact key 16 0 (by omega) (by omega) rfl
 ·cases hd
theorem qKl (gl:Gl):SimP Tryz.prog gl 210 fun args=>(qGJ args).run:=by
 refine SimP.of_tree (G:=ofL []) (L:=qM4) qaj qaf qai Tryz.func210 rfl (by rfl) (by kernel_rfl) (qh3 (r:=2) (c1:=qEN) (by kernel_rfl) ?_) ?_
 ·intro fr σ e fr' σ' hh;simp only [lps,qM4,if_true] at hh;exact qkB (qJx gl) fr σ e fr' σ' hh
 intro args x h hr;unfold qGJ at h
 split at h
 ·rename_i c;cases h
  refine Tr.run_as (.ite (iEq 0 0) (.ite (iEq (digV c) 16) (.ret (.int .u8 16)) (.ret (.int .u8 (digV c)))) .fail) (by kernel_rfl) ?_
  simp [eq_comm]
 ·cases h
def escB (s:qU):Int :=
 if s=[] then 0 else if sAt s 0=34∨sAt s 0=92 then sAt s 0 else if sAt s 0=110 then 10 else if sAt s 0=116 then 9
 else if sAt s 0=120∧3≤s.length∧digV (sAt s 1) < 16∧digV (sAt s 2) < 16 then iOr .u8 (iShl .u8 (digV (sAt s 1)) 4) (digV (sAt s 2)) else 0
def escN (s:qU):Int :=
 if s=[] then 0 else if sAt s 0=34∨sAt s 0=92 then 1 else if sAt s 0=110 then 1 else if sAt s 0=116 then 1
 else if sAt s 0=120∧3≤s.length∧digV (sAt s 1) < 16∧digV (sAt s 2) < 16 then 3 else 0
def qtd:List PV→Tr PV
 |[.str s]=>.ret (.tup [.int .u8 (escB s),.int .i64 (escN s)])
 |_=>.fail
theorem qyr (gl:Gl):SimP Tryz.prog gl 202 fun args=>(qtd args).run:=by
 refine SimP.of_tree (G:=ofL [(210,.pure qGJ)]) (L:=fun _ _ _=>.fail) qaj (qag (qKl gl) qaf) qai Tryz.func202 rfl (by rfl) (by kernel_rfl) (qac (by kernel_rfl)) ?_
 intro args x h hr;unfold qtd at h
 split at h
 ·rename_i s;cases h
  refine Tr.run_as (.ite (sEq s []) (.ret (.tup [.int .u8 0,.int .i64 0])) (.ite (qaz s 0) (.ite (iEq (sAt s 0) 34) (.ite (qaz s 0) (.ret (.tup [.int .u8 (sAt s 0),.int .i64 1])) .fail) (.ite (iEq (sAt s 0) 92) (.ite (qaz s 0) (.ret (.tup [.int .u8 (sAt s 0),.int .i64 1])) .fail) (.ite (iEq (sAt s 0) 110) (.ret (.tup [.int .u8 10,.int .i64 1])) (.ite (iEq (sAt s 0) 116) (.ret (.tup [.int .u8 9,.int .i64 1])) (.ite (iEq (sAt s 0) 120) (.ite (iLe 3 (sLen s)) (.ite (qaz s 1) (.ite (iLt (digV (sAt s 1)) 16) (.ite (qaz s 2) (.ite (iLt (digV (sAt s 2)) 16) (.ite (qaz s 1) (.ite (qaz s 2) (.ret (.tup [.int .u8 (iOr .u8 (iShl .u8 (digV (sAt s 1)) 4) (digV (sAt s 2))),.int .i64 3])) .fail) .fail) (.ret (.tup [.int .u8 0,.int .i64 0]))) .fail) (.ret (.tup [.int .u8 0,.int .i64 0]))) .fail) (.ret (.tup [.int .u8 0,.int .i64 0]))) (.ret (.tup [.int .u8 0,.int .i64 0]))))))) .fail)) (by kernel_rfl) ?_
  by_cases h0:s=[]
  ·subst h0;simp [escB,escN]
  ·have hl:0 < s.length:=List.length_pos_iff.2 h0;have k0:qaz s 0=true:=by simp [hl]
   by_cases h3:3≤s.length
   ·have k1:qaz s 1=true:=by simp;omega
    have k2:qaz s 2=true:=by simp;omega
    have h3':(3:Int)≤s.length:=by omega
    simp only [Tr.run_ite,k0,k1,k2,qx9,qNg,qIi,qRo,qjx,decide_eq_true_eq,h0,h3',if_true,if_false,escB,escN,h3,true_and,Tr.run_ret]
    repeat' split
    all_goals first|rfl|(simp_all;done)|(exfalso;simp_all;done)|(exfalso;omega)
   ·have h3':¬ (3:Int)≤s.length:=by omega
    simp only [Tr.run_ite,k0,qx9,qNg,qIi,qRo,qjx,decide_eq_true_eq,h0,h3',if_true,if_false,escB,escN,h3,false_and,and_false,Tr.run_ret]
    repeat' split
    all_goals first|rfl|(simp_all;done)|(exfalso;simp_all;done)|(exfalso;omega)
 ·cases h
def qfH (n:Nat):qU:=if h:n < 10 then [UInt8.ofNat (48+n)] else qfH (n / 10)++[UInt8.ofNat (48+n % 10)]
 termination_by n
 decreasing_by omega
theorem qpZ:∀ (k n:Nat),n < 10 ^ (k+1)→(qfH n).length≤k+1:=by
 intro k
 induction k with
 |zero=>intro n h;unfold qfH;simp at h;simp [h]
 |succ k ih =>
  intro n h;unfold qfH;split
  ·simp
  ·have:=ih (n / 10) (by rw [Nat.pow_succ] at h;omega)
   simp;omega
def qjS (n:Int):qU:=qfH n.toNat
def qvc (k:Nat):List PV→Tr PV
 |[.int .u64 n]=>Tr.chk (ltN n k) (.ret (.str (qjS n)))
 |_=>.fail
def qL2:List PV→Tr PV
 |[.int .u64 n]=>.ret (.str (qjS n))
 |_=>.fail
theorem qDD (gl:Gl):∀ k,SimP Tryz.prog gl 180 fun args=>(qvc k args).run:=by
 intro k
 induction k with
 |zero =>
  refine⟨⟨_,Tryz.func180,by rfl,by rfl⟩,?_⟩
  intro args x h;unfold qvc at h
  split at h
  ·obtain⟨h1,_⟩:=Tr.chk_some h;simp at h1
  ·cases h
 |succ k ih =>
  refine SimP.of_tree (G:=ofL [(180,.pure (qvc k))]) (L:=fun _ _ _=>.fail) qaj (qag ih qaf) qai Tryz.func180 rfl (by rfl) (by kernel_rfl) (qac (by kernel_rfl)) ?_
  intro args x h hr;unfold qvc at h
  split at h
  ·rename_i n;obtain⟨h1,h2⟩:=Tr.chk_some h;cases h2
   have hn:0≤n∧n≤18446744073709551615:=qq9 hr 0 rfl;simp at h1;refine Tr.run_as (.ite (iLt n 10) (.ite (qcH [[.int .u8 (qas .u8 (iAdd .u64 48 n))]]) (.ret (.str (qbC [[.int .u8 (qas .u8 (iAdd .u64 48 n))]]))) .fail) (.ite (ltN (iQuo .u64 n 10) k) (.ite (qcH [[.int .u8 (qas .u8 (iAdd .u64 48 (iRem n 10)))]]) (.ite (qsh (qjS (iQuo .u64 n 10)) (qbC [[.int .u8 (qas .u8 (iAdd .u64 48 (iRem n 10)))]])) (.ret (.str (sApp (qjS (iQuo .u64 n 10)) (qbC [[.int .u8 (qas .u8 (iAdd .u64 48 (iRem n 10)))]])))) .fail) .fail) .fail)) (by kernel_rfl) ?_
   by_cases h10:n < 10
   ·have e1:iAdd .u64 48 n=48+n:=qee (by omega)
    have e2:qas .u8 (48+n)=48+n:=qzF (by omega)
    have e3:(48+n).toNat=48+n.toNat:=by omega
    simp [h10,e1,e2,e3,qjS];unfold qfH;rw [dif_pos (by omega)]
    simp [UInt8.ofNat_add]
   ·have e1:iQuo .u64 n 10=n / 10:=by
     unfold iQuo;rw [Int.tdiv_eq_ediv_of_nonneg hn.1];exact qee (by omega)
    have e2:iRem n 10=n % 10:=Int.tmod_eq_emod_of_nonneg hn.1;have e3:iAdd .u64 48 (n % 10)=48+n % 10:=qee (by omega)
    have e4:qas .u8 (48+n % 10)=48+n % 10:=qzF (by omega)
    have e5:(48+n % 10).toNat=48+n.toNat % 10:=by omega
    have e6:(n / 10).toNat=n.toNat / 10:=by omega
    have hl:=qpZ 19 (n.toNat / 10) (by omega)
    have e7:¬ n.toNat < 10:=by omega
    have e8:n.toNat / 10 < k:=by omega
    have e9:qfH n.toNat=qfH (n.toNat / 10)++[UInt8.ofNat (48+n.toNat % 10)]:=by
     conv=>lhs;unfold qfH
     rw [dif_neg e7]
    have e10:(qfH (n.toNat / 10)).length+1≤maxLen:=by unfold maxLen;omega
    simp [h10,e1,e2,e3,e4,e5,e6,qjS,e8,e9,e10]
  ·cases h
theorem qPC (gl:Gl):SimP Tryz.prog gl 180 fun args=>(qL2 args).run:=by
 refine SimP.of_each (qDD gl 0).ent ?_;intro args x h;unfold qL2 at h
 split at h
 ·rename_i n;cases h
  exact⟨_,qDD gl (n.toNat+1),by simp [qvc,Tr.chk]⟩
 ·cases h
end Go.Pv
set_option maxHeartbeats 4000000
set_option maxRecDepth 200000
set_option linter.unusedSimpArgs false
set_option linter.unusedVariables false
namespace Go.Pv
open Go Go.Proofs
def symB (s:qU):qU:=s.flatMap fun b=>oneV b.toNat
def symV (s:qU):qU:=34::symB s++[34]
def intV (n:Int):qU:=if n < 0 then 45::qjS (-n) else qjS n
def qhz (k n:Int) (s:qU):qU:=if isV k n s=true then (if k=1 then intV n else symV s) else []
def symH (s:qU):qU:=34::symB s
theorem qtu (c:Int):1≤(oneV c).length∧(oneV c).length≤4:=by
 unfold oneV
 repeat' split
 all_goals simp
theorem qB8:∀ s,(symB s).length≤4 * s.length
 |[]=>by simp [symB]
 |b::s=>by
  have:=qB8 s;have:=qtu b.toNat;simp [symB] at *;omega
theorem qDQ (k n:Int) (s:qU):qa5 k n s=if isV k n s=true then 0 else 10:=by
 unfold qa5 isV;by_cases h1:k=1∧s=[]
 ·simp [h1]
 ·by_cases h2:k=2∧n=0∧s.length≤256
  ·simp [h2]
  ·rw [if_neg h1,if_neg h2,if_neg];simp only [decide_eq_true_eq];rintro (h|h)
   ·exact h1 h
   ·exact h2 h
theorem qLW {n:Int} (h:n≤18446744073709551616):(qjS n).length≤20:=qpZ 19 n.toNat (by omega)
def qFJ:List PV→Tr PV
 |[.agg [.int .i64 k,.int .i64 n,.str s]]=>.ret (.tup [.str (qhz k n s),.int .i64 (qa5 k n s)])
 |_=>.fail
def qEB:List PV→Store→Option (Int×Int×List UInt8×Int×Store)
 |[.ptr 0 0,.sl [[.int .u8 34]] .full,.int .i64 i],⟨[[.int .i64 k,.int .i64 n,.str s]],[],[42]⟩=>some (k,n,s,i,⟨[[.int .i64 k,.int .i64 n,.str s]],[],[42]⟩)
 |_,_=>none
def qOm:Int×Int×List UInt8×Int×Store→Tr (PExit×List (Nat×PV)×Store)
 |(k,n,s,i,σ)=>Tr.chk (iEq i 0) (Tr.chk (iLe (sLen s) 256) (.ite (sEq s []) (.ret (.exit 0,[(4,.sl (qab (symH s)) .full)],⟨σ.objs,[],σ.tys⟩)) (.ret (.exit 0,[(4,.sl (qab (symH s)) (.tok 0))],⟨σ.objs,[(nLen (symH s),1,5)],σ.tys⟩))))
def qNq:LpsT:=fun r fr σ=>if r=9 then oracle 46 [1,4,5] qEB qOm fr σ else .fail
def qFz:Code:=qLg Tryz.f166 0
theorem qI6 (gl:Gl):∀ vs σ a e out σ',qEB vs σ=some a→(qOm a).run=some (e,out,σ')→LDoes Tryz.prog gl qFz (mk 46 ([1,4,5].zip vs)) σ e (mk 46 out) σ':=by
 intro vs s a e out σ' hd hr;unfold qEB at hd;split at hd
 ·rename_i i k n s;cases hd
  obtain⟨h1,h2⟩:=Tr.chk_some hr;obtain⟨h3,h4⟩:=Tr.chk_some h2;simp at h1 h3;subst h1;clear hr h2;have hG:qal Tryz.prog gl (gam (ofL [(181,.pure qKq)])):=qag (qOS gl) qaf
  -- the row is the call's own
  have key:∀ (m:Nat) (i:Int) (b:qU),0≤i→i+m=s.length→b++symB (s.drop i.toNat)=symH s→b.length≤1+4 * i.toNat→s≠[] →
    LDoes Tryz.prog gl qFz (mk 46 ([1,4,5].zip [.ptr 0 0,.sl (qab b) (.tok 0),.int .i64 i])) ⟨[[.int .i64 k,.int .i64 n,.str s]],[(nLen b,1,5)],[42]⟩ e (mk 46 out) σ':=by
   intro m
   induction m with
   |zero =>
    intro i b h0 hi hf hb hne;have e1:s.drop i.toNat=[]:=by apply List.drop_eq_nil_of_le;omega
    rw [e1] at hf;simp [symB] at hf;subst hf;simp [hne] at h4;obtain⟨rfl,rfl,rfl⟩:=h4;refine LDoes.round qaj hG qai (L:=fun _ _ _=>.fail) (qac (by kernel_rfl)) (by kernel_rfl) ?_
    refine Tr.all_as (.ite (iLt i (sLen s)) (.ite (qaz s i) (.ite (qav (qab (symH s)) (qab (oneV (sAt s i))) 1) (.ite (qaq (qab (oneV (sAt s i))) 1) (.ite (qao (qab (symH s)) 1) (.ite (xNil (qab (oneV (sAt s i)))) (.ret (.normal,[32],[.top,.ptr 0 0,.top,.top,.sl (qab (symH s)) (.tok 0),.int .i64 (iAdd .i64 i 1),.top,.top,.top,.top,.top,.top,.top,.top,.top,.top,.top,.top,.top,.top,.top,.top,.top,.top,.top,.top,.top,.top,.int .i64 i,.ptr 0 2,.str s,.int .i64 (sLen s),.bool true,.int .i64 i,.int .i64 (iAdd .i64 i 1),.sl (qab (symH s)) (.tok 0),.ptr 0 2,.str s,.int .i64 i,.int .u8 (sAt s i),.sl (qab (oneV (sAt s i))) .non,.sl (qab (symH s)) (.tok 0),.top,.top,.top,.top],Store.mk [[.int .i64 k,.int .i64 n,.str s]] [(nLen (symH s),1,5)] [42])) (.ite (nEq (nLen (symH s)) (nXs (qab (symH s)))) (.ret (.normal,[32],[.top,.ptr 0 0,.top,.top,.sl (xApp (qab (symH s)) (qab (oneV (sAt s i)))) (.tok 0),.int .i64 (iAdd .i64 i 1),.top,.top,.top,.top,.top,.top,.top,.top,.top,.top,.top,.top,.top,.top,.top,.top,.top,.top,.top,.top,.top,.top,.int .i64 i,.ptr 0 2,.str s,.int .i64 (sLen s),.bool true,.int .i64 i,.int .i64 (iAdd .i64 i 1),.sl (qab (symH s)) (.tok 0),.ptr 0 2,.str s,.int .i64 i,.int .u8 (sAt s i),.sl (qab (oneV (sAt s i))) .non,.sl (xApp (qab (symH s)) (qab (oneV (sAt s i)))) (.tok 0),.top,.top,.top,.top],Store.mk [[.int .i64 k,.int .i64 n,.str s]] [(nXs (xApp (qab (symH s)) (qab (oneV (sAt s i)))),1,5)] [42])) .fail)) .fail)
     .fail) .fail) .fail) (.ret (.exit 0,[32],[.top,.ptr 0 0,.top,.top,.sl (qab (symH s)) (.tok 0),.int .i64 i,.top,.top,.top,.top,.top,.top,.top,.top,.top,.top,.top,.top,.top,.top,.top,.top,.top,.top,.top,.top,.top,.top,.int .i64 i,.ptr 0 2,.str s,.int .i64 (sLen s),.bool false,.top,.top,.top,.top,.top,.top,.top,.top,.top,.top,.top,.top,.top],Store.mk [[.int .i64 k,.int .i64 n,.str s]] [(nLen (symH s),1,5)] [42]))) (by kernel_rfl) ?_
    refine Tr.all_f (by simp;omega) ⟨rfl,by simp [Weak,mk,qbN,look],rfl⟩
   |succ m ih =>
    intro i b h0 hi hf hb hne;obtain⟨v,hv⟩:=qeK (l:=s) (i:=i.toNat) (by omega)
    rw [qaR hv] at hf;have hone:=qtu v.toNat;have e2:(i+1).toNat=i.toNat+1:=by omega
    refine LDoes.round qaj hG qai (L:=fun _ _ _=>.fail) (qac (by kernel_rfl)) (by kernel_rfl) ?_
    refine Tr.all_as (.ite (iLt i (sLen s)) (.ite (qaz s i) (.ite (qav (qab b) (qab (oneV (sAt s i))) 1) (.ite (qaq (qab (oneV (sAt s i))) 1) (.ite (qao (qab b) 1) (.ite (xNil (qab (oneV (sAt s i)))) (.ret (.normal,[32],[.top,.ptr 0 0,.top,.top,.sl (qab b) (.tok 0),.int .i64 (iAdd .i64 i 1),.top,.top,.top,.top,.top,.top,.top,.top,.top,.top,.top,.top,.top,.top,.top,.top,.top,.top,.top,.top,.top,.top,.int .i64 i,.ptr 0 2,.str s,.int .i64 (sLen s),.bool true,.int .i64 i,.int .i64 (iAdd .i64 i 1),.sl (qab b) (.tok 0),.ptr 0 2,.str s,.int .i64 i,.int .u8 (sAt s i),.sl (qab (oneV (sAt s i))) .non,.sl (qab b) (.tok 0),.top,.top,.top,.top],Store.mk [[.int .i64 k,.int .i64 n,.str s]] [(nLen b,1,5)] [42])) (.ite (nEq (nLen b) (nXs (qab b))) (.ret (.normal,[32],[.top,.ptr 0 0,.top,.top,.sl (xApp (qab b) (qab (oneV (sAt s i)))) (.tok 0),.int .i64 (iAdd .i64 i 1),.top,.top,.top,.top,.top,.top,.top,.top,.top,.top,.top,.top,.top,.top,.top,.top,.top,.top,.top,.top,.top,.top,.int .i64 i,.ptr 0 2,.str s,.int .i64 (sLen s),.bool true,.int .i64 i,.int .i64 (iAdd .i64 i 1),.sl (qab b) (.tok 0),.ptr 0 2,.str s,.int .i64 i,.int .u8 (sAt s i),.sl (qab (oneV (sAt s i))) .non,.sl (xApp (qab b) (qab (oneV (sAt s i)))) (.tok 0),.top,.top,.top,.top],Store.mk [[.int .i64 k,.int .i64 n,.str s]] [(nXs (xApp (qab b) (qab (oneV (sAt s i)))),1,5)] [42])) .fail)) .fail) .fail) .fail) .fail) (.ret (.exit 0,[32],[.top,.ptr 0 0,.top,.top,.sl (qab b)
     (.tok 0),.int .i64 i,.top,.top,.top,.top,.top,.top,.top,.top,.top,.top,.top,.top,.top,.top,.top,.top,.top,.top,.top,.top,.top,.top,.int .i64 i,.ptr 0 2,.str s,.int .i64 (sLen s),.bool false,.top,.top,.top,.top,.top,.top,.top,.top,.top,.top,.top,.top,.top],Store.mk [[.int .i64 k,.int .i64 n,.str s]] [(nLen b,1,5)] [42]))) (by kernel_rfl) ?_
    rw [qfy hv,ql8,qdD,qdD];refine Tr.all_t (by simp;omega) <| Tr.all_t (qdt h0 hv) <| Tr.all_t (qgL (by omega)) <| Tr.all_t (qr1 _) <| Tr.all_t (qcd _) <| Tr.all_f (qrf hone.1) <| Tr.all_t (by simp) ?_
    refine LDoes.into ?_ (ih (i+1) (b++oneV v.toNat) (by omega) (by omega) (by rw [← hf,e2];simp [symB]) (by simp;omega) hne)
    simp [Weak,mk,qbN,look,iAdd,qaI (n:=i+1) (by omega)]
  by_cases hne:s=[]
  ·subst hne;simp at h4;obtain⟨rfl,rfl,rfl⟩:=h4;refine LDoes.round qaj hG qai (L:=fun _ _ _=>.fail) (qac (by kernel_rfl)) (by kernel_rfl) ?_
   refine Tr.all_as (.ite (iLt 0 (sLen [])) (.ite (qaz [] 0) (.ite (qav [[.int .u8 34]] (qab (oneV (sAt [] 0))) 1) (.ite (qaq (qab (oneV (sAt [] 0))) 1) (.ite (qao [[.int .u8 34]] 1) (.ite (xNil (qab (oneV (sAt [] 0)))) (.ret (.normal,[32],[.top,.ptr 0 0,.top,.top,.sl [[.int .u8 34]] .full,.int .i64 (iAdd .i64 0 1),.top,.top,.top,.top,.top,.top,.top,.top,.top,.top,.top,.top,.top,.top,.top,.top,.top,.top,.top,.top,.top,.top,.int .i64 0,.ptr 0 2,.str [],.int .i64 (sLen []),.bool true,.int .i64 0,.int .i64 (iAdd .i64 0 1),.sl [[.int .u8 34]] .full,.ptr 0 2,.str [],.int .i64 0,.int .u8 (sAt [] 0),.sl (qab (oneV (sAt [] 0))) .non,.sl [[.int .u8 34]] .full,.top,.top,.top,.top],Store.mk [[.int .i64 k,.int .i64 n,.str []]] [] [42])) (.ret (.normal,[32],[.top,.ptr 0 0,.top,.top,.sl (xApp [[.int .u8 34]] (qab (oneV (sAt [] 0)))) (.tok 0),.int .i64 (iAdd .i64 0 1),.top,.top,.top,.top,.top,.top,.top,.top,.top,.top,.top,.top,.top,.top,.top,.top,.top,.top,.top,.top,.top,.top,.int .i64 0,.ptr 0 2,.str [],.int .i64 (sLen []),.bool true,.int .i64 0,.int .i64 (iAdd .i64 0 1),.sl [[.int .u8 34]] .full,.ptr 0 2,.str [],.int .i64 0,.int .u8 (sAt [] 0),.sl (qab (oneV (sAt [] 0))) .non,.sl (xApp [[.int .u8 34]] (qab (oneV (sAt [] 0)))) (.tok 0),.top,.top,.top,.top],Store.mk [[.int .i64 k,.int .i64 n,.str []]] [(nXs (xApp [[.int .u8 34]] (qab (oneV (sAt [] 0)))),1,5)] [42]))) .fail) .fail) .fail) .fail) (.ret (.exit 0,[32],[.top,.ptr 0 0,.top,.top,.sl [[.int .u8 34]] .full,.int
    .i64 0,.top,.top,.top,.top,.top,.top,.top,.top,.top,.top,.top,.top,.top,.top,.top,.top,.top,.top,.top,.top,.top,.top,.int .i64 0,.ptr 0 2,.str [],.int .i64 (sLen []),.bool false,.top,.top,.top,.top,.top,.top,.top,.top,.top,.top,.top,.top,.top],Store.mk [[.int .i64 k,.int .i64 n,.str []]] [] [42]))) (by kernel_rfl) ?_
   refine Tr.all_f (by simp) ⟨rfl,by simp [Weak,mk,qbN,look,symH,symB,qab],rfl⟩
  ·obtain⟨v,hv⟩:=qeK (l:=s) (i:=0) (List.length_pos_iff.2 hne);have hv':s[(0:Int).toNat]?=some v:=hv;have hone:=qtu v.toNat;have hs:s=v::s.drop 1:=by
    have:=qaR hv;simpa using this
   refine LDoes.round qaj hG qai (L:=fun _ _ _=>.fail) (qac (by kernel_rfl)) (by kernel_rfl) ?_
   refine Tr.all_as (.ite (iLt 0 (sLen s)) (.ite (qaz s 0) (.ite (qav [[.int .u8 34]] (qab (oneV (sAt s 0))) 1) (.ite (qaq (qab (oneV (sAt s 0))) 1) (.ite (qao [[.int .u8 34]] 1) (.ite (xNil (qab (oneV (sAt s 0)))) (.ret (.normal,[32],[.top,.ptr 0 0,.top,.top,.sl [[.int .u8 34]] .full,.int .i64 (iAdd .i64 0 1),.top,.top,.top,.top,.top,.top,.top,.top,.top,.top,.top,.top,.top,.top,.top,.top,.top,.top,.top,.top,.top,.top,.int .i64 0,.ptr 0 2,.str s,.int .i64 (sLen s),.bool true,.int .i64 0,.int .i64 (iAdd .i64 0 1),.sl [[.int .u8 34]] .full,.ptr 0 2,.str s,.int .i64 0,.int .u8 (sAt s 0),.sl (qab (oneV (sAt s 0))) .non,.sl [[.int .u8 34]] .full,.top,.top,.top,.top],Store.mk [[.int .i64 k,.int .i64 n,.str s]] [] [42])) (.ret (.normal,[32],[.top,.ptr 0 0,.top,.top,.sl (xApp [[.int .u8 34]] (qab (oneV (sAt s 0)))) (.tok 0),.int .i64 (iAdd .i64 0 1),.top,.top,.top,.top,.top,.top,.top,.top,.top,.top,.top,.top,.top,.top,.top,.top,.top,.top,.top,.top,.top,.top,.int .i64 0,.ptr 0 2,.str s,.int .i64 (sLen s),.bool true,.int .i64 0,.int .i64 (iAdd .i64 0 1),.sl [[.int .u8 34]] .full,.ptr 0 2,.str s,.int .i64 0,.int .u8 (sAt s 0),.sl (qab (oneV (sAt s 0))) .non,.sl (xApp [[.int .u8 34]] (qab (oneV (sAt s 0)))) (.tok 0),.top,.top,.top,.top],Store.mk [[.int .i64 k,.int .i64 n,.str s]] [(nXs (xApp [[.int .u8 34]] (qab (oneV (sAt s 0)))),1,5)] [42]))) .fail) .fail) .fail) .fail) (.ret (.exit 0,[32],[.top,.ptr 0 0,.top,.top,.sl [[.int .u8 34]] .full,.int .i64
    0,.top,.top,.top,.top,.top,.top,.top,.top,.top,.top,.top,.top,.top,.top,.top,.top,.top,.top,.top,.top,.top,.top,.int .i64 0,.ptr 0 2,.str s,.int .i64 (sLen s),.bool false,.top,.top,.top,.top,.top,.top,.top,.top,.top,.top,.top,.top,.top],Store.mk [[.int .i64 k,.int .i64 n,.str s]] [] [42]))) (by kernel_rfl) ?_
   have e3:([[PV.int .u8 34]]:List (List PV))=qab [34]:=rfl;rw [qfy hv',e3,ql8,qdD];refine Tr.all_t (by simp;exact List.length_pos_iff.2 hne) <| Tr.all_t (qdt (by omega) hv') <| Tr.all_t (qgL (by simp;omega)) <| Tr.all_t (qr1 _) <| Tr.all_t (qcd _) <| Tr.all_f (qrf hone.1) ?_
   have hl:s.length=(s.drop 1).length+1:=by rw [List.length_drop];have:=List.length_pos_iff.2 hne;omega
   refine LDoes.into ?_ (key (s.length - 1) 1 ([34]++oneV v.toNat) (by omega) (by omega) ?_ (by simp;omega) hne)
   ·simp [Weak,mk,qbN,look,iAdd,qaI (n:=1) (by omega)]
   ·unfold symH
    conv=>rhs;rw [hs]
    simp [symB]
 ·cases hd
theorem qMO (gl:Gl):SimP Tryz.prog gl 166 fun args=>(qFJ args).run:=by
 refine SimP.of_tree (G:=ofL [(179,.pure F_Is),(180,.pure qL2)]) (L:=qNq) qaj (qag (qVD gl) (qag (qPC gl) qaf)) qai Tryz.func166 rfl (by rfl) (by kernel_rfl) (qh3 (r:=9) (c1:=qFz) (by kernel_rfl) ?_) ?_
 ·intro fr σ e fr' σ' hh;simp only [lps,qNq,if_true] at hh;exact qkB (qI6 gl) fr σ e fr' σ' hh
 intro args x h hr;unfold qFJ at h
 split at h
 ·rename_i k n s;cases h
  refine Tr.run_as (.ite (bNot (isV k n s)) (.ret (.tup [.str [],.int .i64 10])) (.ite (iEq k 1) (.ite (iLt n 0) (.ite (qsh [45] (qjS (iAdd .u64 (qas .u64 (iSub .i64 0 (iAdd .i64 n 1))) 1))) (.ret (.tup [.str (sApp [45] (qjS (iAdd .u64 (qas .u64 (iSub .i64 0 (iAdd .i64 n 1))) 1))),.int .i64 0])) .fail) (.ret (.tup [.str (qjS (qas .u64 n)),.int .i64 0]))) (.ite (iEq 0 0) (.ite (iLe (sLen s) 256) (.ite (sEq s []) (.ite (qav (qab (symH s)) [[.int .u8 34]] 1) (.ite (qaq [[.int .u8 34]] 1) (.ite (qao (qab (symH s)) 1) (.ite (qcH (xApp (qab (symH s)) [[.int .u8 34]])) (.ret (.tup [.str (qbC (xApp (qab (symH s)) [[.int .u8 34]])),.int .i64 0])) .fail) .fail) .fail) .fail) (.ite (qav (qab (symH s)) [[.int .u8 34]] 1) (.ite (qaq [[.int .u8 34]] 1) (.ite (qao (qab (symH s)) 1) (.ite (nEq (nLen (symH s)) (nXs (qab (symH s)))) (.ite (qcH (xApp (qab (symH s)) [[.int .u8 34]])) (.ret (.tup [.str (qbC (xApp (qab (symH s)) [[.int .u8 34]])),.int .i64 0])) .fail) .fail) .fail) .fail) .fail)) .fail) .fail))) (by kernel_rfl) ?_
  have hc:=qRt hr 0 rfl;have hn:-9223372036854775808≤n∧n≤9223372036854775807:=qq9 hc 1 rfl;rw [qDQ];cases hI:isV k n s with
  |false=>simp [qhz,hI]
  |true =>
   by_cases hk:k=1
   ·by_cases hneg:n < 0
    ·have e1:iAdd .i64 n 1=n+1:=qaI (by omega)
     have e2:iSub .i64 0 (n+1)=-(n+1):=by unfold iSub;rw [qaI (by omega)];omega
     have e3:qas .u64 (-(n+1))=-(n+1):=qee (by omega)
     have e4:iAdd .u64 (-(n+1)) 1=-n:=by unfold iAdd;rw [qee (by omega)];omega
     have e5:=qLW (n:=-n) (by omega)
     have e6:1+(qjS (-n)).length≤maxLen:=by unfold maxLen;omega
     have e7:qsh [45] (qjS (-n))=true:=by simp;omega
     simp only [e1,e2,e3,e4,hk,hneg,Tr.run_ite,e7,if_true,qOj,Bool.not_true,Bool.false_eq_true,if_false,qx9,qIi,decide_true,Tr.run_ret];subst hk;simp [qhz,hI,intV,hneg]
    ·have e1:qas .u64 n=n:=qee (by omega)
     subst hk;simp [qhz,hI,intV,hneg,e1]
   ·have hs:s.length≤256:=by
     unfold isV at hI;simp [hk] at hI;exact hI.2.2
    have hB:=qB8 s;have hH:(symH s).length=1+(symB s).length:=by simp [symH];omega
    have e1:xApp (qab (symH s)) [[.int .u8 34]]=qab (symV s):=by
     rw [qj2 _ (by omega)]
     rfl
    have e2:qav (qab (symH s)) [[.int .u8 34]] 1=true:=by simp;omega
    have e3:nEq (nLen (symH s)) (nXs (qab (symH s)))=true:=by simp
    have e4:qaq [[.int .u8 34]] 1=true:=rfl;have e5:iLe (sLen s) 256=true:=by simp;omega
    simp only [e1,e2,e3,e4,e5,Tr.run_ite,hk,qOj,Bool.not_true,Bool.false_eq_true,if_false,if_true,qx9,decide_false,decide_true,qcd,qAz,qBG,Tr.run_ret];simp [qhz,hI,hk]
 ·cases h
end Go.Pv
set_option maxHeartbeats 4000000
set_option maxRecDepth 200000
set_option linter.unusedSimpArgs false
set_option linter.unusedVariables false
namespace Go.Pv
open Go Go.Proofs Go.RowKit
def VarIs (gl:Gl) (name:String) (cs:Array Value):Prop:=∃ g T f,Tryz.prog.globalNamed name=some g∧gl g=some (.cells cs T f)
structure GlPow (gl:Gl):Prop where
 pow : VarIs gl "internal/strconv.uint64pow10" (Lib.pow10Tab.map fun z => Value.int .u64 z).toArray
structure GlOk (gl:Gl):Prop extends GlPow gl where
 syn : ∃ tp p, VarIs gl "strconv.ErrSyntax" #[.iface tp p]
 rng : ∃ tp p, VarIs gl "strconv.ErrRange" #[.iface tp p]
theorem VarIs.var {gl:Gl} {name:String} {cs:Array Value} (h:VarIs gl name cs) {w:World} (hw:∀ b o,gl b=some o→w.heap[b]?=some o):w.var? Tryz.prog name=some cs:=by
 obtain⟨g,T,f,h1,h2⟩:=h;simp [World.var?,h1,hw g _ h2]
theorem GlPow.dr {gl:Gl} (h:GlPow gl) (w w':World):Dr gl w w':=fun hg=>by
 obtain⟨g,T,f,_,h2⟩:=h.pow;rw [hg g] at h2;cases h2
def qLl (n:Int):qU:=Lib.itoa n
def qmR:List PV→Tr PV
 |[.int .i64 n,.int .i64 b]=>Tr.chk (iEq b 10) (.ret (.str (qLl n)))
 |_=>.fail
theorem qCA {gl:Gl} (hgl:GlPow gl):SimP Tryz.prog gl 185 fun args=>(qmR args).run:=by
 refine⟨⟨_,Tryz.func185,by rfl,by rfl⟩,?_⟩
 intro args x hx H w vs hB hob htk hw hrel;unfold qmR at hx;split at hx
 ·rename_i n b;obtain⟨h1,h2⟩:=Tr.chk_some hx;cases h2
  simp at h1;subst h1;cases hrel with
  |cons _ v _ vs hv hvs =>
   cases hvs with
   |cons _ v2 _ vs hv2 hvs =>
    cases hvs
    cases hv with
    |int _ _ hwf =>
     cases hv2
     simp [Lit.wf,IntKind.min,IntKind.max,IntKind.signed,IntKind.bits] at hwf;refine (Tryz.strconv_FormatInt_10 n hwf.1 (by omega) w (hgl.pow.var hw)).mono ?_
     rintro e w' ⟨rfl,k,os,rfl⟩;refine⟨_,rfl,⟨Lib.below_grow _ _ (Nat.le_refl _) k os,hgl.dr _ _⟩,.str _ ?_⟩;have:=Lib.itoa_length_le n hwf.1 (by omega)
     show (Lib.itoa n).length≤maxLen
     unfold maxLen;omega
 ·cases hx
def pOk (s:qU):Bool:=match Lib.parseIntB 64 s with
 |.ok _=>true
 |_=>false
def pVal (s:qU):Int:=match Lib.parseIntB 64 s with
 |.ok v=>v
 |.range=>Lib.intSat 64 s
 |_=>0
def qgq (s:qU):Bool:=decide (s.length≤281474976710656)
def qrL:List PV→Tr PV
 |[.str s,.int .i64 b,.int .i64 k]=>Tr.chk (iEq b 10) (Tr.chk (iEq k 64) (Tr.chk (qgq s) (.ite (pOk s) (.ret (.tup [.int .i64 (pVal s),.nili])) (.ret (.tup [.int .i64 (pVal s),.iface 248 .top])))))
 |_=>.fail
theorem qK3 (s:qU):(Lit.int .i64 (pVal s)).wf=true:=by
 have key:-9223372036854775808≤pVal s∧pVal s≤9223372036854775807:=by
  unfold pVal;split
  ·rename_i v hv;have h:=Lib.parseIntB_bounds hv;have e:((2 ^ (64 - 1):Nat):Int)=9223372036854775808:=by decide
   rw [e] at h
   omega
  ·unfold Lib.intSat;split
   ·have e:-(((2 ^ (64 - 1):Nat)):Int)=-9223372036854775808:=by decide
    rw [e];omega
   ·have e:(((2 ^ (64 - 1) - 1:Nat)):Int)=9223372036854775807:=by decide
    rw [e];omega
  ·omega
 simp [Lit.wf,IntKind.min,IntKind.max,IntKind.signed,IntKind.bits];omega
theorem qEb {gl:Gl} (hgl:GlOk gl):SimP Tryz.prog gl 196 fun args=>(qrL args).run:=by
 refine⟨⟨_,Tryz.func196,by rfl,by rfl⟩,?_⟩
 intro args x hx H w vs hB hob htk hw hrel;unfold qrL at hx;split at hx
 ·rename_i s b k;obtain⟨h1,h2⟩:=Tr.chk_some hx;obtain⟨h3,h4⟩:=Tr.chk_some h2;obtain⟨h5,h6⟩:=Tr.chk_some h4;simp at h1 h3;simp [qgq] at h5;subst h1 h3;have hwf:=qK3 s;cases hrel with
  |cons _ v _ vs hv hvs =>
   cases hvs with
   |cons _ v2 _ vs hv2 hvs =>
    cases hvs with
    |cons _ v3 _ vs hv3 hvs =>
     cases hvs
     cases hv2;cases hv3
     cases hv with
     |str _ hl =>
      have hsz:(ByteArray.mk s.toArray).size=s.length:=by simp [ByteArray.size]
      cases hp:Lib.parseIntB 64 s with
      |ok n =>
       have e1:pOk s=true:=by simp [pOk,hp]
       have e2:pVal s=n:=by simp [pVal,hp]
       rw [e2] at hwf;simp [e1,e2] at h6;subst h6;refine (Any.strconv_ParseInt_10_at64_ok Tryz.laysC174 ⟨s.toArray⟩ (by rw [hsz];omega) n hp w).mono ?_
       rintro e w' ⟨rfl,hw'⟩;refine⟨_,rfl,⟨?_,hgl.dr _ _⟩,.tup _ _ (.cons _ _ _ _ (.int _ _ hwf) (.cons _ _ _ _ .nili .nil))⟩;rcases hw' with rfl|⟨t,rfl⟩
       ·exact Below.refl _ _
       ·exact⟨rfl,rfl,rfl,by rw [Lib.bytesWorld_size];omega,fun k hk=>Lib.bytesWorld_at_old w _ _ k hk⟩
      |range =>
       have e1:pOk s=false:=by simp [pOk,hp]
       have e2:pVal s=Lib.intSat 64 s:=by simp [pVal,hp]
       simp [e1,e2] at h6;rw [e2] at hwf;subst h6;obtain⟨tp,p,hv⟩:=hgl.rng;refine (Any.strconv_ParseInt_10_at64_range_var Tryz.laysC174 ⟨s.toArray⟩ (by rw [hsz];omega) hp tp p w (hv.var hw)).mono ?_
       rintro e w' ⟨N,rfl,h1,h2,h3⟩;exact⟨_,rfl,⟨h3,hgl.dr _ _⟩,.tup _ _ (.cons _ _ _ _ (.int _ _ hwf) (.cons _ _ _ _ (.iface _ _ _ (.top _)) .nil))⟩
      |_ =>
       have e1:pOk s=false:=by simp [pOk,hp]
       have e2:pVal s=0:=by simp [pVal,hp]
       rw [e2] at hwf;simp [e1,e2] at h6;subst h6;obtain⟨tp,p,hv⟩:=hgl.syn;refine (Any.strconv_ParseInt_10_at64_syntax_var Tryz.laysC174 ⟨s.toArray⟩ (by rw [hsz];omega) hp tp p w (hv.var hw)).mono ?_
       rintro e w' ⟨N,rfl,h1,h2,h3⟩;exact⟨_,rfl,⟨h3,hgl.dr _ _⟩,.tup _ _ (.cons _ _ _ _ (.int _ _ hwf) (.cons _ _ _ _ (.iface _ _ _ (.top _)) .nil))⟩
 ·cases hx
end Go.Pv
set_option maxHeartbeats 4000000
set_option maxRecDepth 200000
set_option linter.unusedSimpArgs false
set_option linter.unusedVariables false
namespace Go.Pv
open Go Go.Proofs Go.Shelf Go.RowKit
variable {P : Program} {ρ : Ren} {gl : Gl}
theorem qFU {w:World} {b off:Nat} {cs:Array Value} {T:TypeId} {fz:Nat×Nat} (h:w.heap[b]?=some (.cells cs T fz)) (v:Value):w.setCell ⟨b,off,none⟩ v=w.setRow b (cs.setIfInBounds off v):=by
 unfold World.setCell World.setRow
 congr 1
 apply Array.ext_getElem?;intro i;rw [Array.getElem?_modify,Array.getElem?_modify];by_cases hi:b=i
 ·subst hi;rw [if_pos rfl,if_pos rfl,h];rfl
 ·rw [if_neg hi,if_neg hi]
theorem qK7 {w:World} {b n:Nat} {cs:Array Value} {T:TypeId} {fz:Nat×Nat} (h:w.heap[b]?=some (.cells cs T fz)):∃ fz',(w.freeze ⟨b,0,none⟩ n).heap[b]?=some (.cells cs T fz'):=by
 unfold World.freeze;split
 ·exact⟨fz,h⟩
 ·obtain⟨lo,hi⟩:=fz;exact⟨_,by simp only [Array.getElem?_modify,if_true,h];rfl⟩
theorem qC9 (w:World) (b n k:Nat) (h:k≠b):(w.freeze ⟨b,0,none⟩ n).heap[k]?=w.heap[k]?:=by
 unfold World.freeze;split
 ·rfl
 ·simp only [Array.getElem?_modify];rw [if_neg (fun e=>h e.symm)]
theorem qFq (w:World) (b n:Nat):(w.freeze ⟨b,0,none⟩ n).heap.size=w.heap.size:=by
 unfold World.freeze;split
 ·rfl
 ·simp
theorem qFi (w:World) (b n:Nat):(w.freeze ⟨b,0,none⟩ n).os=w.os∧(w.freeze ⟨b,0,none⟩ n).tape=w.tape∧(w.freeze ⟨b,0,none⟩ n).output=w.output:=by
 unfold World.freeze;split<;>exact⟨rfl,rfl,rfl⟩
theorem qDc (w:World) (b n:Nat):(w.drew.freeze ⟨b,0,none⟩ n).drawn=w.drew.drawn:=by
 unfold World.freeze;split<;>rfl
def qfz (T:TypeId):List PV→Store→Tr (PV×Store)
 |[.ptr 1 0],⟨[o,[.nilp,q]],tk,[t0,t1]⟩=>Tr.chk (t1 == T) (.ret (.tup [],⟨[o,[.ptr 1 0,q]],tk,[t0,t1]⟩))
 |[.ptr 1 0],⟨[o,[.ptr 1 0,q]],tk,[t0,t1]⟩=>.ret (.tup [],⟨[o,[.ptr 1 0,q]],tk,[t0,t1]⟩)
 |_,_=>.fail
theorem qGU {H:Gh} {w:World} {args:List Value} {id off:Nat} (h:RelL H w [.ptr id off] args):∃ b,H.ob[id]?=some b∧args=[.pointer (some ⟨b,off,none⟩)]:=by
 cases h with
 |cons _ v _ vs hv hvs =>
  cases hvs
  cases hv with
  |ptr _ _ b hb=>exact⟨b,hb,rfl⟩
theorem qsi {f:FuncId} {TB:TypeId} (hTB:TB < qgz) (hfresh:∀ (b:Nat) (w:World),w.cell? ⟨b,0,none⟩=some (.pointer none)→w.shape? b=some (TB,2)→w.frozen? ⟨b,0,none⟩=false→Calls P f #[.pointer (some ⟨b,0,none⟩)] w fun e w'=>e=.returned (.tuple #[])∧w'=w.setCell ⟨b,0,none⟩ (.pointer (some ⟨b,0,none⟩)))
  (hused:∀ (b:Nat) (w:World),w.cell? ⟨b,0,none⟩=some (.pointer (some ⟨b,0,none⟩))→Calls P f #[.pointer (some ⟨b,0,none⟩)] w fun e w'=>e=.returned (.tuple #[])∧w'=w)
  (hent : ∃ fn, P.funcs[f]? = some fn ∧ (fn.name == "runtime.NumGoroutine") = false ∧ fn.body.isNone = false) : SimS P gl f fun args σ => (qfz TB args σ).run := by
 refine⟨hent,?_⟩;intro args σ x σ' hx H w vs hok hrel;unfold qfz at hx;split at hx
 ·rename_i o q tk t0 t1;obtain⟨h1,h2⟩:=Tr.chk_some hx;cases h2
  have h1:t1=TB:=by simpa using h1
  subst h1;obtain⟨b,hb,rfl⟩:=qGU hrel;obtain⟨hB,us,ext,T,hheap,hus⟩:=hok.obj 1 b _ hb rfl;obtain⟨cs,hcs,hsz⟩:=hok.ty 1 b _ _ hb rfl rfl hTB;rw [hheap] at hcs;simp only [Option.some.injEq,Obj.cells.injEq] at hcs;obtain⟨rfl,rfl,_⟩:=hcs;have hul:=hus.len;have hext:ext=[]:=by
   apply List.eq_nil_of_length_eq_zero;simp at hsz hul;omega
  subst hext;cases hus with
  |cons _ u0 _ us hu0 hus =>
   cases hu0
   cases hus with
   |cons _ u1 _ us hu1 hus =>
    cases hus
    refine (hfresh b w (by rw [Lib.cell_of_heap hheap];rfl) (by simp [World.shape?,hheap]) (by rw [Lib.frozen_of_heap hheap 0])).mono ?_
    rintro e w' ⟨rfl,rfl⟩;rw [qFU hheap];have hset:=qGe (cs':=[.ptr 1 0,q]) (vs':=[.pointer (some ⟨b,0,none⟩),u1]) hok hb hheap (.cons _ _ _ _ (.ptr _ _ _ hb) (.cons _ _ _ _ hu1 .nil)) (fun c0 hc0=>by cases hc0;exact⟨rfl,rfl⟩)
    exact⟨_,rfl,H,hset.1,hset.2,.tup _ _ .nil⟩
 ·rename_i o q tk t0 t1;cases hx
  obtain⟨b,hb,rfl⟩:=qGU hrel;obtain⟨hB,us,ext,T,hheap,hus⟩:=hok.obj 1 b _ hb rfl;cases hus with
  |cons _ u0 _ us hu0 hus =>
   have hu0':u0=.pointer (some ⟨b,0,none⟩):=by
    cases hu0 with
    |ptr _ _ b' hb' =>
     rw [hb] at hb';cases hb'
     rfl
   subst hu0';refine (hused b w (by rw [Lib.cell_of_heap hheap];rfl)).mono ?_
   rintro e w' ⟨rfl,rfl⟩;exact⟨_,rfl,.same hok (.tup _ _ .nil)⟩
 ·cases hx
def qth (T:TypeId):List PV→Store→Tr (PV×Store)
 |[.ptr 1 0],⟨[o,[p,.sl xs (.tok 0)]],[(v,1,e)],ty⟩=>Tr.chk (qcH xs) (Tr.chk (bNot (xNil xs)) (Tr.chk (nEq v (nXs xs)) (Tr.chk (e == T) (.ret (.str (qbC xs),⟨[o,[p,.sl xs (.tok 0)]],[(maxLen+1,1,e)],ty⟩)))))
 |_,_=>.fail
set_option maxRecDepth 100000 in
theorem Any.Builder_String_at (L : Lays.n169 P ρ) (X : Builder.Extra P ρ) (b g cap : Nat) (l : List UInt8) (w : World) (p : Value) (cs cur : Array Value) (T : TypeId) (fz : Nat × Nat)
    (hbk : w.cell? ⟨b, 1, none⟩ = some (.slice (some ⟨g, 0, none⟩) l.length cap)) (hg : w.heap[g]? = some (.cells cur (ρ.t 5) fz)) (hnc : l.length ≤ cap) (hcm : cap ≤ maxLen) (hcs : cur.size = cap)
    (hcell : ∀ j x, l[j]? = some x → w.cell? ((⟨g, 0, none⟩ : Addr).add j) = some (.int .u8 x.toNat)) (h0 : l ≠ []) :
    Calls P (ρ.f 169) #[.pointer (some ⟨b, 0, none⟩)] w fun e w' => e = .returned (.string ⟨l.toArray⟩) ∧ w' = w.drew.freeze ⟨g, 0, none⟩ l.length := by
  have hl0 : l.length ≠ 0 := by simpa using h0
  have c1 : w.drew.cell? ⟨b, 1, none⟩ = some (.slice (some ⟨g, 0, none⟩) l.length cap) := hbk
  have hSD : (Builtin.unsafeSliceData_ #[(ρ.t 37)] (ρ.t 127) #[.slice (some ⟨g, 0, none⟩) l.length cap]).run P w.drew = .ok (.pointer (some ⟨g, 0, none⟩)) w.drew :=
    Lib.run_unsafeSliceData_row _ _ _ _ _ _ (by omega)
  have hUS : (Builtin.unsafeString_ #[(ρ.t 127), (ρ.t 3)] (ρ.t 9) #[.pointer (some ⟨g, 0, none⟩), .int .i64 l.length]).run P w.drew = .ok (.string ⟨l.toArray⟩) (w.drew.freeze ⟨g, 0, none⟩ l.length) := by
    refine Lib.run_unsafeString_row w.drew (ρ.t 127) (ρ.t 3) (ρ.t 9) (ρ.t 5) L.t127 X.cellsByte g cur.size (by have hg' : w.drew.heap[g]? = some (.cells cur (ρ.t 5) fz) := hg; simp [World.shape?, hg']) l h0 (by omega) (by unfold maxLen at hcm; omega) ?_
    intro j x hx
    exact hcell j x hx
  have mixed := L.mixed
  have t72 := L.t72; have a72 := L.a72; have z72 := L.z72; have v72 := L.v72; have u72 := run_underlying L.t72
  have t70 := L.t70; have a70 := L.a70; have z70 := L.z70; have v70 := L.v70; have u70 := run_underlying L.t70
  have t37 := L.t37; have a37 := L.a37; have z37 := L.z37; have v37 := L.v37; have u37 := run_underlying L.t37
  have t127 := L.t127; have a127 := L.a127; have z127 := L.z127; have v127 := L.v127; have u127 := run_underlying L.t127
  have t3 := L.t3; have a3 := L.a3; have z3 := L.z3; have v3 := L.v3; have u3 := run_underlying L.t3
  have t9 := L.t9; have a9 := L.a9; have z9 := L.z9; have v9 := L.v9; have u9 := run_underlying L.t9
  have t5 := X.t5; have a5 := X.a5; have z5 := X.z5; have v5 := X.v5; have u5 := run_underlying X.t5
  go_enter L.f169, Body.n169_ntmps ρ
  go_wp2
  go_region_o
  all_goals (go_wp2; go_ret; exact ⟨rfl, rfl⟩)
theorem Any.sim_String (L : Lays.n169 P ρ) (X : Builder.Extra P ρ) (hent : ∃ fn, P.funcs[ρ.f 169]? = some fn ∧ (fn.name == "runtime.NumGoroutine") = false ∧ fn.body.isNone = false) : SimS P gl (ρ.f 169) fun args σ => (qth (ρ.t 5) args σ).run := by
 refine⟨hent,?_⟩;intro args σ x σ' hx H w vs hok hrel;unfold qth at hx;split at hx
 ·rename_i o p xs v e ty;obtain⟨h1,q1⟩:=Tr.chk_some hx;obtain⟨h2,q2⟩:=Tr.chk_some q1;obtain⟨h3,q3⟩:=Tr.chk_some q2;obtain⟨h4,q4⟩:=Tr.chk_some q3;clear hx q1 q2 q3;have h4:e=ρ.t 5:=by simpa using h4
  subst h4;simp at h2 h3;subst h3;cases q4
  unfold qcH qbC at *;cases hl:pbytes xs with
  |none=>simp [hl] at h1
  |some l =>
   obtain⟨b,hb,rfl⟩:=qGU hrel;obtain⟨hB,us,ext,T,hheap,hus⟩:=hok.obj 1 b _ hb rfl;cases hus with
   |cons _ u0 _ us hu0 hus =>
    cases hus with
    |cons _ u1 _ us hu1 hus =>
     cases hus
     cases hu1 with
     |sl a len cap k _ vss _ hlen hcap hm hrr hrow htag =>
      obtain⟨ns,rfl,rfl⟩:=qwf hl;have hvs:=qyw hrr;subst hvs;obtain⟨U,hU,hUnz,hle,hUv⟩:=htag;have hUs:(U.ver,U.k,U.e)=(len,1,ρ.t 5):=by
       have hh:=hok.tkl;have:(H.tk.map fun T=>(T.ver,T.k,T.e))[0]?=some (U.ver,U.k,U.e):=by rw [List.getElem?_map,hU];rfl
       rw [hh] at this;simp at this;rw [← this.1,← this.2.1,← this.2.2];simp [← hlen]
      simp only [Prod.mk.injEq] at hUs;obtain⟨hUver,hUk,hUe⟩:=hUs;have hU0:U.ver≠0:=by
       rw [hUver];intro h0;apply h2;have:ns=[]:=List.eq_nil_of_length_eq_zero (by simpa [h0] using hlen)
       simp [this]
      obtain⟨rfl,hcapU,hkU⟩:=(hUv hUver.symm).2 hU0;obtain⟨hBT,hTob,ob,hcur,hTO⟩:=hok.tok 0 U hU (fun hh=>hU0 hh.1)
      obtain⟨cur,fz,rfl,hvc,hcm,hcs⟩:∃ cur fz,ob=.cells cur U.e fz∧(U.ver≤maxLen→fz=(0,0)∧U.ver≤U.cap)∧U.cap≤maxLen∧cur.size=U.cap * U.k:=by
       rcases hTO with⟨_,hc⟩|⟨hz,_⟩
       ·exact hc
       ·exact absurd hz hUnz
      have hln:(ns.map fun n=>UInt8.ofNat n.toNat).length=len:=by simpa using hlen
      have hk1:k=1:=by rw [hkU,hUk]
      subst hk1;have hln:ns.length=len:=by simpa using hlen
      have hwf:∀ (j:Nat) (n:Int),ns[j]?=some n→0≤n∧n < 256:=by
       intro j n hj;have:=(qci.1 hrr).2 j [.int .u8 n] [.int .u8 n] (by simp [hj]) (by simp [hj])
       cases this with
       |cons _ _ _ _ hv _ =>
        cases hv with
        |int _ _ hwf=>simp [Lit.wf,IntKind.min,IntKind.max,IntKind.signed,IntKind.bits] at hwf;omega
      have hll:(ns.map fun n=>UInt8.ofNat n.toNat).length=len:=by simpa using hln
      refine (Any.Builder_String_at L X b U.blk cap (ns.map fun n=>UInt8.ofNat n.toNat) w u0 #[] cur T fz (by rw [hll,Lib.cell_of_heap hheap];rfl) (by rw [← hUe];exact hcur) (by rw [hll];exact hcap) hm (by rw [hcs,hUk,hcapU,Nat.mul_one]) ?_ ?_).mono ?_
      ·intro j x hj;rw [List.getElem?_map] at hj;cases hn:ns[j]? with
       |none=>simp [hn] at hj
       |some n =>
        simp [hn] at hj;subst hj;have hb:=hwf j n hn;obtain⟨hk,a',ha',hcell⟩:=hrow j [.int .u8 n] (by simp [hn])
        injection ha' with ha'
        subst ha';have:=(hcell 0 _ rfl).2;rw [Nat.mul_one,qra,Nat.add_zero] at this;rw [this];simp;omega
      ·intro hnil;apply h2;simpa using hnil
      ·rintro e w' ⟨rfl,rfl⟩;rw [hll];have hcur':w.drew.heap[U.blk]?=some (.cells cur U.e fz):=hcur;obtain⟨fz',hfz'⟩:=qK7 (n:=len) hcur';have hrest:=qFi w.drew U.blk len;have hset:=qIz (T':=⟨U.blk,maxLen+1,U.cap,U.k,U.e⟩) (w':=w.drew.freeze ⟨U.blk,0,none⟩ len) hok hU hU0 hUnz rfl (by show U.ver < maxLen+1;omega) hcm (fun _=>by rw [qDc];exact Nat.le_succ _) hrest.1 hrest.2.1 hrest.2.2 (by rw [qFq];exact Nat.le_refl _) (.inl rfl)
        (fun k _ hk=>qC9 w.drew U.blk len k hk) (fz':=fz') (by intro h;simp at h;omega) hcur hfz' hcs (fun _ off _=>rfl)
       refine⟨_,rfl,_,hset.1,?_,?_⟩
       ·have:=hset.2;simpa [hUk,hUe] using this
       ·exact .str (List.map (fun n=>UInt8.ofNat n.toNat) ns) (by simp;omega)
 ·cases hx
end Go.Pv
set_option maxHeartbeats 4000000
set_option maxRecDepth 200000
set_option linter.unusedSimpArgs false
set_option linter.unusedVariables false
namespace Go.Pv
open Go Go.Proofs Go.RowKit
section
variable (b : Nat) (w : World)
theorem qxI (h0:w.cell? ⟨b,0,none⟩=some (.pointer (some ⟨b,0,none⟩))):Calls Tryz.prog 167 #[.pointer (some ⟨b,0,none⟩)] w fun e w'=>e=.returned (.tuple #[])∧w'=w:=by
 obtain⟨j,hj,_⟩:∃ j,Tryz.prog.info? 186=some j∧j.size=2:=⟨_,rfl,rfl⟩;have mixed:Tryz.prog.follows .mixedOrders=true:=qai;have t72:=Tryz.underlying186;have a72:=Tryz.isAgg186;have z72:=Tryz.sizeOf186;have v72:=Tryz.zeroValue186;have u72:=run_underlying Tryz.underlying186;have t70:=Tryz.underlying183;have a70:=Tryz.isAgg183;have z70:=Tryz.sizeOf183;have v70:=Tryz.zeroValue183;have u70:=run_underlying Tryz.underlying183;have t164:=Tryz.underlying214;have a164:=Tryz.isAgg214;have z164:=Tryz.sizeOf214;have v164:=Tryz.zeroValue214;have u164:=run_underlying Tryz.underlying214
 go_enter Tryz.func167,Tryz.ntmps167
 go_wp2
 rw [Lib.run_neq_ptr_same w _ t70 hj]
 go_wp2
 go_end0
 exact⟨rfl,rfl⟩
theorem qxj (h0:w.cell? ⟨b,0,none⟩=some (.pointer none)) (hsh:w.shape? b=some (186,2)) (hfz:w.frozen? ⟨b,0,none⟩=false) :
  Calls Tryz.prog 167 #[.pointer (some ⟨b,0,none⟩)] w fun e w'=>e=.returned (.tuple #[])∧w'=w.setCell ⟨b,0,none⟩ (.pointer (some ⟨b,0,none⟩)):=by
 obtain⟨j,hj,hjs⟩:∃ j,Tryz.prog.info? 186=some j∧j.size=2:=⟨_,rfl,rfl⟩;have mixed:Tryz.prog.follows .mixedOrders=true:=qai;have t72:=Tryz.underlying186;have a72:=Tryz.isAgg186;have z72:=Tryz.sizeOf186;have v72:=Tryz.zeroValue186;have u72:=run_underlying Tryz.underlying186;have t70:=Tryz.underlying183;have a70:=Tryz.isAgg183;have z70:=Tryz.sizeOf183;have v70:=Tryz.zeroValue183;have u70:=run_underlying Tryz.underlying183;have t164:=Tryz.underlying214;have a164:=Tryz.isAgg214;have z164:=Tryz.sizeOf214;have v164:=Tryz.zeroValue214;have u164:=run_underlying Tryz.underlying214
 go_enter Tryz.func167,Tryz.ntmps167
 go_wp2
 rw [Lib.run_to_unsafe w ⟨b,0,none⟩ t70 t164 hj (by rw [hjs];decide) hsh (Nat.zero_lt_succ 1)]
 simp only [Result.andThen];rw [Oper.upon_value]
 go_wp2
 rw [run_callFunc_extern Tryz.func182 (by kernel_rfl) (by kernel_rfl) (by kernel_rfl) (e:=Extern.AbiNoEscape.same) (by kernel_rfl)]
 rw [Lib.run_noEscape];simp only [Result.andThen];rw [Oper.upon_value]
 go_wp2
 rw [Lib.run_from_unsafe w ⟨b,0,none⟩ t164 t70 hj hsh (by kernel_rfl)]
 simp only [Result.andThen];rw [Oper.upon_value]
 go_wp2
 go_end0
 exact⟨rfl,rfl⟩
end
theorem qqz (gl:Gl):SimS Tryz.prog gl 167 fun args σ=>(qfz 186 args σ).run :=
 qsi (by decide) (fun b w=>qxj b w) (fun b w=>qxI b w) ⟨_,Tryz.func167,by rfl,by rfl⟩
theorem sim_String (gl:Gl):SimS Tryz.prog gl 154 fun args σ=>(qth 5 args σ).run :=
 Any.sim_String Tryz.lays169 Tryz.Builder_Extra_169 ⟨_,Tryz.func154,by rfl,by rfl⟩
def D_WB:List PV→Store→Tr (PV×Store)
 |[.ptr 1 0,.int .u8 c],⟨[o,[.nilp,.sl [] .full]],[],[t0,186]⟩=>.ret (.nili,⟨[o,[.ptr 1 0,.sl [[.int .u8 c]] (.tok 0)]],[(1,1,5)],[t0,186]⟩)
 |[.ptr 1 0,.int .u8 c],⟨[o,[.ptr 1 0,.sl xs (.tok 0)]],[(v,1,5)],[t0,186]⟩=>Tr.chk (qav xs [[.int .u8 c]] 1) (Tr.chk (qao xs 1) (Tr.chk (nEq v (nXs xs))
  (.ret (.nili,⟨[o,[.ptr 1 0,.sl (xApp xs [[.int .u8 c]]) (.tok 0)]],[(nXs (xApp xs [[.int .u8 c]]),1,5)],[t0,186]⟩))))
 |_,_=>.fail
theorem qUV (gl:Gl):SimS Tryz.prog gl 186 fun args σ=>(D_WB args σ).run:=by
 refine SimS.of_tree (G:=ofL [(167,.store (qfz 186))]) (L:=fun _ _ _=>.fail) qaj (qcf (qqz gl) qaf) qai Tryz.func186 rfl (by rfl) (by kernel_rfl) (qac (by kernel_rfl)) ?_
 intro args σ x σ' h hr;unfold D_WB at h
 split at h
 ·rename_i c o t0;cases h
  refine Tr.run_as (.ite true (.ite (qav [] [[.int .u8 c]] 1) (.ite (qaq [[.int .u8 c]] 1) (.ite (qao [] 1) (.ret (.nili,Store.mk [o,[.ptr 1 0,.sl (xApp [] [[.int .u8 c]]) (.tok 0)]] [(nXs (xApp [] [[.int .u8 c]]),1,5)] [t0,186])) .fail) .fail) .fail) .fail) (by kernel_rfl) ?_
  simp [one]
 ·rename_i c o xs v t0;obtain⟨h1,q1⟩:=Tr.chk_some h;obtain⟨h2,q2⟩:=Tr.chk_some q1;obtain⟨h3,q3⟩:=Tr.chk_some q2;cases q3
  refine Tr.run_as (.ite (qav xs [[.int .u8 c]] 1) (.ite (qaq [[.int .u8 c]] 1) (.ite (qao xs 1) (.ite (nEq v (nXs xs)) (.ret (.nili,Store.mk [o,[.ptr 1 0,.sl (xApp xs [[.int .u8 c]]) (.tok 0)]] [(nXs (xApp xs [[.int .u8 c]]),1,5)] [t0,186])) .fail) .fail) .fail) .fail) (by kernel_rfl) ?_
  simp at h1 h2 h3;simp [h1,h2,h3,one]
 ·cases h
def D_WS:List PV→Store→Tr (PV×Store)
 |[.ptr 1 0,.str l],⟨[o,[.ptr 1 0,.sl xs (.tok 0)]],[(v,1,5)],[t0,186]⟩=>Tr.chk (bNot (xNil (qab l))) (Tr.chk (qav xs (qab l) 1) (Tr.chk (qao xs 1) (Tr.chk (nEq v (nXs xs))
  (.ret (.tup [.int .i64 (sLen l),.nili],⟨[o,[.ptr 1 0,.sl (xApp xs (qab l)) (.tok 0)]],[(nXs (xApp xs (qab l)),1,5)],[t0,186]⟩)))))
 |_,_=>.fail
theorem qU5 (gl:Gl):SimS Tryz.prog gl 153 fun args σ=>(D_WS args σ).run:=by
 refine SimS.of_tree (G:=ofL [(167,.store (qfz 186))]) (L:=fun _ _ _=>.fail) qaj (qcf (qqz gl) qaf) qai Tryz.func153 rfl (by rfl) (by kernel_rfl) (qac (by kernel_rfl)) ?_
 intro args σ x σ' h hr;unfold D_WS at h
 split at h
 ·rename_i l o xs v t0;obtain⟨h0,q0⟩:=Tr.chk_some h;obtain⟨h1,q1⟩:=Tr.chk_some q0;obtain⟨h2,q2⟩:=Tr.chk_some q1;obtain⟨h3,q3⟩:=Tr.chk_some q2;cases q3
  refine Tr.run_as (.ite (qav xs (qab l) 1) (.ite (qaq (qab l) 1) (.ite (qao xs 1) (.ite (xNil (qab l)) (.ret (.tup [.int .i64 (sLen l),.nili],Store.mk [o,[.ptr 1 0,.sl xs (.tok 0)]] [(v,1,5)] [t0,186])) (.ite (nEq v (nXs xs)) (.ret (.tup [.int .i64 (sLen l),.nili],Store.mk [o,[.ptr 1 0,.sl (xApp xs (qab l)) (.tok 0)]] [(nXs (xApp xs (qab l)),1,5)] [t0,186])) .fail)) .fail) .fail) .fail) (by kernel_rfl) ?_
  simp at h0 h1 h2 h3;simp [h0,h1,h2,h3]
 ·cases h
def qeF (k n:Int) (s:qU):qU:=if isV k n s=true then (if k=1 then qLl n else symV s) else []
def qN8:List PV→Tr PV
 |[.agg [.int .i64 k,.int .i64 n,.str s]]=>.ret (.tup [.str (qeF k n s),.int .i64 (qa5 k n s)])
 |_=>.fail
def qL8:List PV→Store→Option (Int×Int×List UInt8×Int×Int)
 |[.ptr 0 0,.ptr 1 0,.int .i64 m,.int .i64 i],⟨[[.int .i64 k,.int .i64 n,.str s],[.ptr 1 0,.sl [[.int .u8 34]] (.tok 0)]],[(1,1,5)],[42,186]⟩=>some (k,n,s,m,i)
 |_,_=>none
def qBY (k n:Int) (s:qU) (b:qU):Store:=⟨[[.int .i64 k,.int .i64 n,.str s],[.ptr 1 0,.sl (qab b) (.tok 0)]],[(nLen b,1,5)],[42,186]⟩
def qQR:Int×Int×List UInt8×Int×Int→Tr (PExit×List (Nat×PV)×Store)
 |(k,n,s,m,i)=>Tr.chk (iEq i 0) (Tr.chk (iEq m (sLen s)) (Tr.chk (iLe (sLen s) 256) (.ret (.exit 0,[(1,.ptr 0 0),(5,.ptr 1 0)],⟨[[.int .i64 k,.int .i64 n,.str s],[.ptr 1 0,.sl (qab (symH s)) (.tok 0)]],[(nLen (symH s),1,5)],[42,186]⟩))))
def qQY:LpsT:=fun r fr σ=>if r=9 then oracle 34 [1,5,21,22] qL8 qQR fr σ else .fail
def qOc:Code:=qLg Tryz.f169 0
theorem qLe (gl:Gl):∀ vs σ a e out σ',qL8 vs σ=some a→(qQR a).run=some (e,out,σ')→LDoes Tryz.prog gl qOc (mk 34 ([1,5,21,22].zip vs)) σ e (mk 34 out) σ':=by
 intro vs st a e out σ' hd hr;unfold qL8 at hd;split at hd
 ·rename_i m i k n s;cases hd
  obtain⟨h1,h2⟩:=Tr.chk_some hr;obtain⟨h3,h4⟩:=Tr.chk_some h2;obtain⟨h5,h6⟩:=Tr.chk_some h4;simp at h1 h3 h5;subst h1 h3;clear hr h2 h4;cases h6
  have hG:qal Tryz.prog gl (gam (ofL [(187,.pure qRx),(153,.store D_WS)])):=qag (qS0 gl) (qcf (qU5 gl) qaf);have key:∀ (m:Nat) (i:Int) (b:qU),0≤i→i+m=s.length→b++symB (s.drop i.toNat)=symH s→b.length≤1+4 * i.toNat →
    LDoes Tryz.prog gl qOc (mk 34 ([1,5,21,22].zip [.ptr 0 0,.ptr 1 0,.int .i64 (sLen s),.int .i64 i])) (qBY k n s b) (.exit 0) (mk 34 [(1,.ptr 0 0),(5,.ptr 1 0)]) (qBY k n s (symH s)):=by
   intro m
   induction m with
   |zero =>
    intro i b h0 hi hf hb;have e1:s.drop i.toNat=[]:=by apply List.drop_eq_nil_of_le;omega
    rw [e1] at hf;simp [symB] at hf;subst hf;unfold qBY;refine LDoes.round qaj hG qai (L:=fun _ _ _=>.fail) (qac (by kernel_rfl)) (by kernel_rfl) ?_
    refine Tr.all_as (.ite (iLt i (sLen s)) (.ite (qaz s i) (.ite (bNot (xNil (qab (oneV (sAt s i))))) (.ite (qav (qab (symH s)) (qab (oneV (sAt s i))) 1) (.ite (qao (qab (symH s)) 1) (.ite (nEq (nLen (symH s)) (nXs (qab (symH s)))) (.ret (.normal,[23],[.top,.ptr 0 0,.top,.top,.top,.ptr 1 0,.int .i64 i,.top,.top,.top,.top,.top,.top,.top,.top,.top,.top,.top,.top,.top,.top,.int .i64 (sLen s),.int .i64 (iAdd .i64 i 1),.bool true,.int .i64 i,.ptr 0 2,.str s,.int .i64 i,.int .u8 (sAt s i),.str (oneV (sAt s i)),.tup [.int .i64 (sLen (oneV (sAt s i))),.nili],.int .i64 (iAdd .i64 i 1),.top,.top],Store.mk [[.int .i64 k,.int .i64 n,.str s],[.ptr 1 0,.sl (xApp (qab (symH s)) (qab (oneV (sAt s i)))) (.tok 0)]] [(nXs (xApp (qab (symH s)) (qab (oneV (sAt s i)))),1,5)] [42,186])) .fail) .fail) .fail) .fail) .fail) (.ret (.exit 0,[23],[.top,.ptr 0 0,.top,.top,.top,.ptr 1 0,.top,.top,.top,.top,.top,.top,.top,.top,.top,.top,.top,.top,.top,.top,.top,.int .i64 (sLen s),.int .i64 i,.bool false,.top,.top,.top,.top,.top,.top,.top,.top,.top,.top],Store.mk [[.int .i64 k,.int .i64 n,.str s],[.ptr 1 0,.sl (qab (symH s)) (.tok 0)]] [(nLen (symH s),1,5)] [42,186]))) (by kernel_rfl) ?_
    exact Tr.all_f (by simp;omega) ⟨rfl,by simp [Weak,mk,qbN,look],rfl⟩
   |succ m ih =>
    intro i b h0 hi hf hb;obtain⟨v,hv⟩:=qeK (l:=s) (i:=i.toNat) (by omega)
    rw [qaR hv] at hf;have hone:=qtu v.toNat;have e2:(i+1).toNat=i.toNat+1:=by omega
    unfold qBY;refine LDoes.round qaj hG qai (L:=fun _ _ _=>.fail) (qac (by kernel_rfl)) (by kernel_rfl) ?_
    refine Tr.all_as (.ite (iLt i (sLen s)) (.ite (qaz s i) (.ite (bNot (xNil (qab (oneV (sAt s i))))) (.ite (qav (qab b) (qab (oneV (sAt s i))) 1) (.ite (qao (qab b) 1) (.ite (nEq (nLen b) (nXs (qab b))) (.ret (.normal,[23],[.top,.ptr 0 0,.top,.top,.top,.ptr 1 0,.int .i64 i,.top,.top,.top,.top,.top,.top,.top,.top,.top,.top,.top,.top,.top,.top,.int .i64 (sLen s),.int .i64 (iAdd .i64 i 1),.bool true,.int .i64 i,.ptr 0 2,.str s,.int .i64 i,.int .u8 (sAt s i),.str (oneV (sAt s i)),.tup [.int .i64 (sLen (oneV (sAt s i))),.nili],.int .i64 (iAdd .i64 i 1),.top,.top],Store.mk [[.int .i64 k,.int .i64 n,.str s],[.ptr 1 0,.sl (xApp (qab b) (qab (oneV (sAt s i)))) (.tok 0)]] [(nXs (xApp (qab b) (qab (oneV (sAt s i)))),1,5)] [42,186])) .fail) .fail) .fail) .fail) .fail) (.ret (.exit 0,[23],[.top,.ptr 0 0,.top,.top,.top,.ptr 1 0,.top,.top,.top,.top,.top,.top,.top,.top,.top,.top,.top,.top,.top,.top,.top,.int .i64 (sLen s),.int .i64 i,.bool false,.top,.top,.top,.top,.top,.top,.top,.top,.top,.top],Store.mk [[.int .i64 k,.int .i64 n,.str s],[.ptr 1 0,.sl (qab b) (.tok 0)]] [(nLen b,1,5)] [42,186]))) (by kernel_rfl) ?_
    rw [qfy hv,ql8,qdD,qdD];refine Tr.all_t (by simp;omega) <| Tr.all_t (qdt h0 hv) <| Tr.all_t (by rw [qrf hone.1];rfl) <| Tr.all_t (qgL (by omega)) <| Tr.all_t (qcd _) <| Tr.all_t (by simp) ?_
    refine LDoes.into ?_ (ih (i+1) (b++oneV v.toNat) (by omega) (by omega) (by rw [← hf,e2];simp [symB]) (by simp;omega))
    simp [Weak,mk,qbN,look,iAdd,qaI (n:=i+1) (by omega)]
  have hz:=key s.length 0 [34] (by omega) (by omega) (by simp [symH]) (by simp)
  exact hz
 ·cases hd
theorem qPz {gl:Gl} (hgl:GlPow gl):SimP Tryz.prog gl 169 fun args=>(qN8 args).run:=by
 refine SimP.of_tree (G:=ofL [(184,.pure qEV),(185,.pure qmR),(186,.store D_WB),(154,.store (qth 5))]) (L:=qQY) qaj (qag (qK6 gl) (qag (qCA hgl) (qcf (qUV gl) (qcf (sim_String gl) qaf)))) qai Tryz.func169 rfl (by rfl) (by kernel_rfl) (qh3 (r:=9) (c1:=qOc) (by kernel_rfl) ?_) ?_
 ·intro fr σ e fr' σ' hh;simp only [lps,qQY,if_true] at hh;exact qkB (qLe gl) fr σ e fr' σ' hh
 intro args x h hr;unfold qN8 at h
 split at h
 ·rename_i k n s;cases h
  refine Tr.run_as (.ite (iNe (qa5 k n s) 0) (.ret (.tup [.str [],.int .i64 (qa5 k n s)])) (.ite (iEq k 1) (.ite (iEq 10 10) (.ret (.tup [.str (qLl n),.int .i64 0])) .fail) (.ite (iEq 0 0) (.ite (iEq (sLen s) (sLen s)) (.ite (iLe (sLen s) 256) (.ite (qav (qab (symH s)) [[.int .u8 34]] 1) (.ite (qao (qab (symH s)) 1) (.ite (nEq (nLen (symH s)) (nXs (qab (symH s)))) (.ite (qcH (xApp (qab (symH s)) [[.int .u8 34]])) (.ite (bNot (xNil (xApp (qab (symH s)) [[.int .u8 34]]))) (.ite (nEq (nXs (xApp (qab (symH s)) [[.int .u8 34]])) (nXs (xApp (qab (symH s)) [[.int .u8 34]]))) (.ite true (.ret (.tup [.str (qbC (xApp (qab (symH s)) [[.int .u8 34]])),.int .i64 0])) .fail) .fail) .fail) .fail) .fail) .fail) .fail) .fail) .fail) .fail))) (by kernel_rfl) ?_
  rw [qDQ];cases hI:isV k n s with
  |false=>simp [qeF,hI]
  |true =>
   by_cases hk:k=1
   ·subst hk;simp [qeF,hI]
   ·have h2:s.length≤256:=by
     unfold isV at hI;simp at hI;omega
    have e3:([[PV.int .u8 34]]:List (List PV))=qab [34]:=rfl;have hs:=qB8 s;have hl:(symH s).length=1+(symB s).length:=by simp [symH];omega
    have e4:qav (qab (symH s)) (qab [34]) 1=true:=qgL (by simp;omega)
    have e5:symV s=symH s++[34]:=by simp [symV,symH]
    have e6:¬ (symH s++[34]=[]):=by simp
    rw [e3];simp [qeF,hI,hk,ql8,e4,e5,qdD,-qOa,-qUk];exact⟨by omega,by simp [qab]⟩
 ·cases h
end Go.Pv
set_option maxHeartbeats 4000000
set_option maxRecDepth 200000
set_option linter.unusedSimpArgs false
set_option linter.unusedVariables false
namespace Go.Pv
open Go Go.Proofs Go.RowKit
theorem qdZ {c k:UInt8} (h:c≠k):iEq (c.toNat:Int) (k.toNat:Int)=false:=by
 simp only [qx9,decide_eq_false_iff_not];intro e;exact h (UInt8.toNat_inj.1 (by omega))
theorem qjq {c k:UInt8} (h:c=k):iEq (c.toNat:Int) (k.toNat:Int)=true:=by
 subst h;simp
theorem qTW (s:qU) (n:Int):0≤sAt s n∧sAt s n < 256:=by
 have:=(s.getD n.toNat 0).toNat_lt;simp only [qRg];omega
theorem qRl:∀ (l:qU) (c i:Int),0≤i→i+l.length≤16→0≤dv l c i∧dv l c i≤16
 |[],c,i,h,hl=>by simp [dv]
 |b::l,c,i,h,hl=>by
  have:=qRl l c (i+1) (by omega) (by simp at hl;omega)
  unfold dv;split
  ·simp at hl;omega
  ·exact this
theorem qH4 (c:Int):0≤digV c∧digV c≤16:=qRl hexL c 0 (by omega) (by decide)
theorem qOz {a b:Int} (ha:0≤a∧a≤16) (hb:0≤b∧b≤16):0≤iOr .u8 (iShl .u8 a 4) b∧iOr .u8 (iShl .u8 a 4) b < 256:=by
 have key:∀ (x y:Fin 17),0≤iOr .u8 (iShl .u8 (x.val:Int) 4) (y.val:Int)∧iOr .u8 (iShl .u8 (x.val:Int) 4) (y.val:Int) < 256:=by decide +kernel
 have:=key ⟨a.toNat,by omega⟩ ⟨b.toNat,by omega⟩
 have e1:((a.toNat:Nat):Int)=a:=by omega
 have e2:((b.toNat:Nat):Int)=b:=by omega
 rwa [e1,e2] at this
theorem qH6 (s:qU):0≤escB s∧escB s < 256:=by
 have h1:=qTW s 0;have h2:=qOz (qH4 (sAt s 1)) (qH4 (sAt s 2));unfold escB
 repeat' split
 all_goals first|exact h1|exact h2|omega
theorem qHS (s:qU):0≤escN s∧escN s≤s.length:=by
 unfold escN;by_cases h:s=[]
 ·simp [h]
 ·have:=List.length_pos_iff.2 h
  repeat' split
  all_goals omega
def decP (s:qU):Option (List UInt8):=match s with
 |[]=>some []
 |c::t=>if c=92 then (if escN t=0 then none else (decP (t.drop (escN t).toNat)).map (UInt8.ofNat (escB t).toNat::·)) else (decP t).map (c::·)
 termination_by s.length
 decreasing_by all_goals (simp;try omega)
def qv4 (s:qU):Bool:=(decP s).isSome
def decV (s:qU):qU:=(decP s).getD []
def decL (s:qU):Nat:=match s with
 |[]=>0
 |c::t=>if c=92 then (if escN t=0 then 0 else decL (t.drop (escN t).toNat)+1) else decL t+1
 termination_by s.length
 decreasing_by all_goals (simp;try omega)
def badL (s:qU):Nat:=decL s
def qz8:List PV→Tr PV
 |[.str s]=>Tr.chk (qm8 s) (.ite (qv4 s) (.ret (.tup [.sl (qab (decV s)) .non,.bool true])) (.ret (.tup [.sl [] .non,.bool false])))
 |_=>.fail
def qzl:List PV→Store→Option (List UInt8)
 |[.str s,.sl [] .full],⟨[],[],[]⟩=>some s
 |_,_=>none
def qID:qU→Tr (PExit×List (Nat×PV)×Store)
 |s=>Tr.chk (qm8 s) (.ite (qv4 s) (.ite (sEq (decV s) []) (.ret (.exit 0,[(4,.sl [] .full)],⟨[],[],[]⟩)) (.ret (.exit 0,[(4,.sl (qab (decV s)) (.tok 0))],⟨[],[(nLen (decV s),1,5)],[]⟩))) (.ite (nEq (badL s) 0) (.ret (.ret,[(2,.sl [] .full),(3,.bool false)],⟨[],[],[]⟩)) (.ret (.ret,[(2,.sl [] .full),(3,.bool false)],⟨[],[(badL s,1,5)],[]⟩))))
def qHF:LpsT:=fun r fr σ=>if r=2 then oracle 32 [0,4] qzl qID fr σ else .fail
def qsM:Code:=qLg Tryz.f195 0
theorem qFF (gl : Gl) : ∀ vs σ a e out σ', qzl vs σ = some a → (qID a).run = some (e, out, σ') → LDoes Tryz.prog gl qsM (mk 32 ([0, 4].zip vs)) σ e (mk 32 out) σ' := by
  intro vs st a e out σ' hd hr
  unfold qzl at hd
  split at hd
  · rename_i s
    injection hd with hd
    subst hd
    obtain ⟨hlen, hr⟩ := Tr.chk_some hr
    simp at hlen
    have hG : qal Tryz.prog gl (gam (ofL [(202, .pure qtd)])) := qag (qyr gl) qaf
    have key : ∀ (k : Nat) (b s : List UInt8), s.length ≤ k → b ≠ [] → b.length + s.length ≤ 140737488355328 →
       (match decP s with
        | some x => (PExit.exit 0, [(4, PV.sl (qab (b ++ x)) (.tok 0))], (⟨[], [(nLen (b ++ x), 1, 5)], []⟩ : Store))
        | none => (.ret, [(2, .sl [] .full), (3, .bool false)], ⟨[], [(b.length + decL s, 1, 5)], []⟩)) = (e, out, σ') →
       LDoes Tryz.prog gl qsM (mk 32 ([0, 4].zip [.str s, .sl (qab b) (.tok 0)])) ⟨[], [(nLen b, 1, 5)], []⟩ e (mk 32 out) σ' := by
      intro k
      have base : ∀ (b : List UInt8), b ≠ [] → (PExit.exit 0, [(4, PV.sl (qab b) (.tok 0))], (⟨[], [(nLen b, 1, 5)], []⟩ : Store)) = (e, out, σ') →
         LDoes Tryz.prog gl qsM (mk 32 ([0, 4].zip [.str [], .sl (qab b) (.tok 0)])) ⟨[], [(nLen b, 1, 5)], []⟩ e (mk 32 out) σ' := by
        intro b hb h
        cases h
        refine LDoes.round qaj hG qai (L := fun _ _ _ => .fail) (qac (by kernel_rfl)) (by kernel_rfl) ?_
        refine Tr.all_as (.ite (sNe [] []) (.ite (qaz [] 0) (.ite (qbc (qay 1) true (nNat 1) (nLen []) (nLen [])) (.ite (iEq (sAt [] 0) 92) (.ite (iEq (escN (sSub [] (nNat 1) (nLen []))) 0) (.ret (.ret,[3,2,22,15,9],[.str (sSub [] (nNat 1) (nLen [])),.top,.sl [] .full,.bool false,.sl (qab b) (.tok 0),.int .u8 (sAt [] 0),.int .u8 (escB (sSub [] (nNat 1) (nLen []))),.int .i64 (escN (sSub [] (nNat 1) (nLen []))),.str [],.bool true,.str [],.int .u8 (sAt [] 0),.str [],.str (sSub [] (nNat 1) (nLen [])),.int .u8 (sAt [] 0),.bool true,.tup [.int .u8 (escB (sSub [] (nNat 1) (nLen []))),.int .i64 (escN (sSub [] (nNat 1) (nLen [])))],.str (sSub [] (nNat 1) (nLen [])),.tup [.int .u8 (escB (sSub [] (nNat 1) (nLen []))),.int .i64 (escN (sSub [] (nNat 1) (nLen [])))],.int .u8 (escB (sSub [] (nNat 1) (nLen []))),.int .i64 (escN (sSub [] (nNat 1) (nLen []))),.int .i64 (escN (sSub [] (nNat 1) (nLen []))),.bool true,.top,.top,.top,.top,.top,.top,.top,.top,.top],Store.mk [] [(nLen b,1,5)] [])) (.ite (qbc (qay (escN (sSub [] (nNat 1) (nLen [])))) true (nNat (escN (sSub [] (nNat 1) (nLen [])))) (nLen (sSub [] (nNat 1) (nLen []))) (nLen (sSub [] (nNat 1) (nLen [])))) (.ite (qav (qab b) [[.int .u8 (escB (sSub [] (nNat 1) (nLen [])))]] 1) (.ite (qaq [[.int .u8 (escB (sSub [] (nNat 1) (nLen [])))]] 1) (.ite (qao (qab b) 1) (.ite (nEq (nLen b) (nXs (qab b))) (.ret (.normal,[29,22,15,9],[.str (sSub (sSub [] (nNat 1) (nLen [])) (nNat (escN (sSub [] (nNat 1) (nLen [])))) (nLen (sSub [] (nNat 1)
          (nLen [])))),.top,.top,.top,.sl (xApp (qab b) [[.int .u8 (escB (sSub [] (nNat 1) (nLen [])))]]) (.tok 0),.int .u8 (escB (sSub [] (nNat 1) (nLen []))),.int .u8 (escB (sSub [] (nNat 1) (nLen []))),.int .i64 (escN (sSub [] (nNat 1) (nLen []))),.str [],.bool true,.str [],.int .u8 (sAt [] 0),.str [],.str (sSub [] (nNat 1) (nLen [])),.int .u8 (sAt [] 0),.bool true,.tup [.int .u8 (escB (sSub [] (nNat 1) (nLen []))),.int .i64 (escN (sSub [] (nNat 1) (nLen [])))],.str (sSub [] (nNat 1) (nLen [])),.tup [.int .u8 (escB (sSub [] (nNat 1) (nLen []))),.int .i64 (escN (sSub [] (nNat 1) (nLen [])))],.int .u8 (escB (sSub [] (nNat 1) (nLen []))),.int .i64 (escN (sSub [] (nNat 1) (nLen []))),.int .i64 (escN (sSub [] (nNat 1) (nLen []))),.bool false,.int .u8 (escB (sSub [] (nNat 1) (nLen []))),.str (sSub [] (nNat 1) (nLen [])),.int .i64 (escN (sSub [] (nNat 1) (nLen []))),.str (sSub (sSub [] (nNat 1) (nLen [])) (nNat (escN (sSub [] (nNat 1) (nLen [])))) (nLen (sSub [] (nNat 1) (nLen [])))),.sl (qab b) (.tok 0),.int .u8 (escB (sSub [] (nNat 1) (nLen []))),.sl [[.int .u8 (escB (sSub [] (nNat 1) (nLen [])))]] .full,.sl (xApp (qab b) [[.int .u8 (escB (sSub [] (nNat 1) (nLen [])))]]) (.tok 0),.top],Store.mk [] [(nXs (xApp (qab b) [[.int .u8 (escB (sSub [] (nNat 1) (nLen [])))]]),1,5)] [])) .fail) .fail) .fail) .fail) .fail)) (.ite (qav (qab b) [[.int .u8 (sAt [] 0)]] 1) (.ite (qaq [[.int .u8 (sAt [] 0)]] 1) (.ite (qao (qab b) 1) (.ite (nEq (nLen b) (nXs (qab b)))
          (.ret (.normal,[29,15,9],[.str (sSub [] (nNat 1) (nLen [])),.top,.top,.top,.sl (xApp (qab b) [[.int .u8 (sAt [] 0)]]) (.tok 0),.int .u8 (sAt [] 0),.top,.top,.str [],.bool true,.str [],.int .u8 (sAt [] 0),.str [],.str (sSub [] (nNat 1) (nLen [])),.int .u8 (sAt [] 0),.bool false,.top,.top,.top,.top,.top,.top,.top,.top,.top,.top,.top,.sl (qab b) (.tok 0),.int .u8 (sAt [] 0),.sl [[.int .u8 (sAt [] 0)]] .full,.sl (xApp (qab b) [[.int .u8 (sAt [] 0)]]) (.tok 0),.top],Store.mk [] [(nXs (xApp (qab b) [[.int .u8 (sAt [] 0)]]),1,5)] [])) .fail) .fail) .fail) .fail)) .fail) .fail) (.ret (.exit 0,[9],[.str [],.top,.top,.top,.sl (qab b) (.tok 0),.top,.top,.top,.str [],.bool false,.top,.top,.top,.top,.top,.top,.top,.top,.top,.top,.top,.top,.top,.top,.top,.top,.top,.top,.top,.top,.top,.top],Store.mk [] [(nLen b,1,5)] []))) (by kernel_rfl) ?_
        exact ⟨fun h => by simp at h, fun h => ⟨rfl, by simp [Weak, mk, qbN, look], rfl⟩⟩
      induction k with
      | zero =>
        intro b s hk hb hbs h
        have : s = [] := by apply List.eq_nil_of_length_eq_zero; omega
        subst this
        simp [decP] at h
        exact base b hb (by simpa using h)
      | succ k ih =>
        intro b s hk hb hbs h
        cases s with
        | nil =>
          simp [decP] at h
          exact base b hb (by simpa using h)
        | cons c t =>
          have e0 : sAt (c :: t) 0 = c.toNat := by simp
          have e1 : sSub (c :: t) (nNat 1) (nLen (c :: t)) = t := by simp
          have hc := c.toNat_lt
          have e7 := qHS t
          have e8 := qH6 t
          simp at hk hbs
          rw [decP, decL] at h
          refine LDoes.round qaj hG qai (L := fun _ _ _ => .fail) (qac (by kernel_rfl)) (by kernel_rfl) ?_
          refine Tr.all_as (.ite (sNe (c :: t) []) (.ite (qaz (c :: t) 0) (.ite (qbc (qay 1) true (nNat 1) (nLen (c :: t)) (nLen (c :: t))) (.ite (iEq (sAt (c :: t) 0) 92) (.ite (iEq (escN (sSub (c :: t) (nNat 1) (nLen (c :: t)))) 0) (.ret (.ret,[3,2,22,15,9],[.str (sSub (c :: t) (nNat 1) (nLen (c :: t))),.top,.sl [] .full,.bool false,.sl (qab b) (.tok 0),.int .u8 (sAt (c :: t) 0),.int .u8 (escB (sSub (c :: t) (nNat 1) (nLen (c :: t)))),.int .i64 (escN (sSub (c :: t) (nNat 1) (nLen (c :: t)))),.str (c :: t),.bool true,.str (c :: t),.int .u8 (sAt (c :: t) 0),.str (c :: t),.str (sSub (c :: t) (nNat 1) (nLen (c :: t))),.int .u8 (sAt (c :: t) 0),.bool true,.tup [.int .u8 (escB (sSub (c :: t) (nNat 1) (nLen (c :: t)))),.int .i64 (escN (sSub (c :: t) (nNat 1) (nLen (c :: t))))],.str (sSub (c :: t) (nNat 1) (nLen (c :: t))),.tup [.int .u8 (escB (sSub (c :: t) (nNat 1) (nLen (c :: t)))),.int .i64 (escN (sSub (c :: t) (nNat 1) (nLen (c :: t))))],.int .u8 (escB (sSub (c :: t) (nNat 1) (nLen (c :: t)))),.int .i64 (escN (sSub (c :: t) (nNat 1) (nLen (c :: t)))),.int .i64 (escN (sSub (c :: t) (nNat 1) (nLen (c :: t)))),.bool true,.top,.top,.top,.top,.top,.top,.top,.top,.top],Store.mk [] [(nLen b,1,5)] [])) (.ite (qbc (qay (escN (sSub (c :: t) (nNat 1) (nLen (c :: t))))) true (nNat (escN (sSub (c :: t) (nNat 1) (nLen (c :: t))))) (nLen (sSub (c :: t) (nNat 1) (nLen (c :: t)))) (nLen (sSub (c :: t) (nNat 1) (nLen (c :: t))))) (.ite (qav (qab b) [[.int .u8 (escB (sSub (c :: t) (nNat 1) (nLen (c ::
            t))))]] 1) (.ite (qaq [[.int .u8 (escB (sSub (c :: t) (nNat 1) (nLen (c :: t))))]] 1) (.ite (qao (qab b) 1) (.ite (nEq (nLen b) (nXs (qab b))) (.ret (.normal,[29,22,15,9],[.str (sSub (sSub (c :: t) (nNat 1) (nLen (c :: t))) (nNat (escN (sSub (c :: t) (nNat 1) (nLen (c :: t))))) (nLen (sSub (c :: t) (nNat 1) (nLen (c :: t))))),.top,.top,.top,.sl (xApp (qab b) [[.int .u8 (escB (sSub (c :: t) (nNat 1) (nLen (c :: t))))]]) (.tok 0),.int .u8 (escB (sSub (c :: t) (nNat 1) (nLen (c :: t)))),.int .u8 (escB (sSub (c :: t) (nNat 1) (nLen (c :: t)))),.int .i64 (escN (sSub (c :: t) (nNat 1) (nLen (c :: t)))),.str (c :: t),.bool true,.str (c :: t),.int .u8 (sAt (c :: t) 0),.str (c :: t),.str (sSub (c :: t) (nNat 1) (nLen (c :: t))),.int .u8 (sAt (c :: t) 0),.bool true,.tup [.int .u8 (escB (sSub (c :: t) (nNat 1) (nLen (c :: t)))),.int .i64 (escN (sSub (c :: t) (nNat 1) (nLen (c :: t))))],.str (sSub (c :: t) (nNat 1) (nLen (c :: t))),.tup [.int .u8 (escB (sSub (c :: t) (nNat 1) (nLen (c :: t)))),.int .i64 (escN (sSub (c :: t) (nNat 1) (nLen (c :: t))))],.int .u8 (escB (sSub (c :: t) (nNat 1) (nLen (c :: t)))),.int .i64 (escN (sSub (c :: t) (nNat 1) (nLen (c :: t)))),.int .i64 (escN (sSub (c :: t) (nNat 1) (nLen (c :: t)))),.bool false,.int .u8 (escB (sSub (c :: t) (nNat 1) (nLen (c :: t)))),.str (sSub (c :: t) (nNat 1) (nLen (c :: t))),.int .i64 (escN (sSub (c :: t) (nNat 1) (nLen (c :: t)))),.str (sSub (sSub (c :: t) (nNat 1) (nLen (c :: t))) (nNat (escN (sSub (c :: t)
            (nNat 1) (nLen (c :: t))))) (nLen (sSub (c :: t) (nNat 1) (nLen (c :: t))))),.sl (qab b) (.tok 0),.int .u8 (escB (sSub (c :: t) (nNat 1) (nLen (c :: t)))),.sl [[.int .u8 (escB (sSub (c :: t) (nNat 1) (nLen (c :: t))))]] .full,.sl (xApp (qab b) [[.int .u8 (escB (sSub (c :: t) (nNat 1) (nLen (c :: t))))]]) (.tok 0),.top],Store.mk [] [(nXs (xApp (qab b) [[.int .u8 (escB (sSub (c :: t) (nNat 1) (nLen (c :: t))))]]),1,5)] [])) .fail) .fail) .fail) .fail) .fail)) (.ite (qav (qab b) [[.int .u8 (sAt (c :: t) 0)]] 1) (.ite (qaq [[.int .u8 (sAt (c :: t) 0)]] 1) (.ite (qao (qab b) 1) (.ite (nEq (nLen b) (nXs (qab b))) (.ret (.normal,[29,15,9],[.str (sSub (c :: t) (nNat 1) (nLen (c :: t))),.top,.top,.top,.sl (xApp (qab b) [[.int .u8 (sAt (c :: t) 0)]]) (.tok 0),.int .u8 (sAt (c :: t) 0),.top,.top,.str (c :: t),.bool true,.str (c :: t),.int .u8 (sAt (c :: t) 0),.str (c :: t),.str (sSub (c :: t) (nNat 1) (nLen (c :: t))),.int .u8 (sAt (c :: t) 0),.bool false,.top,.top,.top,.top,.top,.top,.top,.top,.top,.top,.top,.sl (qab b) (.tok 0),.int .u8 (sAt (c :: t) 0),.sl [[.int .u8 (sAt (c :: t) 0)]] .full,.sl (xApp (qab b) [[.int .u8 (sAt (c :: t) 0)]]) (.tok 0),.top],Store.mk [] [(nXs (xApp (qab b) [[.int .u8 (sAt (c :: t) 0)]]),1,5)] [])) .fail) .fail) .fail) .fail)) .fail) .fail) (.ret (.exit 0,[9],[.str (c :: t),.top,.top,.top,.sl (qab b) (.tok 0),.top,.top,.top,.str (c :: t),.bool
            false,.top,.top,.top,.top,.top,.top,.top,.top,.top,.top,.top,.top,.top,.top,.top,.top,.top,.top,.top,.top,.top,.top],Store.mk [] [(nLen b,1,5)] []))) (by kernel_rfl) ?_
          rw [e1, e0, qj2 b (n := (c.toNat : Int)) (by omega), qj2 b e8, Int.toNat_natCast, UInt8.ofNat_toNat]
          simp only [qdD]
          refine Tr.all_t (by simp) <| Tr.all_t (by simp) <| Tr.all_t (by simp) ?_
          by_cases h92 : c = 92
          · subst h92
            refine Tr.all_t (by simp) ?_
            by_cases hn : escN t = 0
            · simp [hn] at h
              obtain ⟨rfl, rfl, rfl⟩ := h
              exact Tr.all_t (by simp [hn]) ⟨rfl, by simp [Weak, mk, qbN, look], rfl⟩
            · refine Tr.all_f (by simp [hn]) <| Tr.all_t (by simp; omega) <| Tr.all_t (by simp; omega) <| Tr.all_t (by simp [one]) <| Tr.all_t (qcd _) <| Tr.all_t (by simp) ?_
              refine LDoes.into ?_ (ih (b ++ [UInt8.ofNat (escB t).toNat]) (t.drop (escN t).toNat) (by simp; omega) (by simp) (by simp; omega) ?_)
              · simp [Weak, mk, qbN, look]
              · simp [hn] at h
                rw [← h]
                cases hd : decP (t.drop (escN t).toNat) with
                | none => simp; omega
                | some x => simp
          · refine Tr.all_f (qdZ (k := 92) h92) <| Tr.all_t (by simp; omega) <| Tr.all_t (by simp [one]) <| Tr.all_t (qcd _) <| Tr.all_t (by simp) ?_
            refine LDoes.into ?_ (ih (b ++ [c]) t (by omega) (by simp) (by simp; omega) ?_)
            · simp [Weak, mk, qbN, look]
            · simp [h92] at h
              rw [← h]
              cases hd : decP t with
              | none => simp; omega
              | some x => simp
    cases s with
    | nil =>
      simp [qv4, decV, decP] at hr
      obtain ⟨rfl, rfl, rfl⟩ := hr
      refine LDoes.round qaj hG qai (L := fun _ _ _ => .fail) (qac (by kernel_rfl)) (by kernel_rfl) ?_
      refine Tr.all_as (.ite (sNe [] []) (.ite (qaz [] 0) (.ite (qbc (qay 1) true (nNat 1) (nLen []) (nLen [])) (.ite (iEq (sAt [] 0) 92) (.ite (iEq (escN (sSub [] (nNat 1) (nLen []))) 0) (.ret (.ret,[3,2,22,15,9],[.str (sSub [] (nNat 1) (nLen [])),.top,.sl [] .full,.bool false,.sl [] .full,.int .u8 (sAt [] 0),.int .u8 (escB (sSub [] (nNat 1) (nLen []))),.int .i64 (escN (sSub [] (nNat 1) (nLen []))),.str [],.bool true,.str [],.int .u8 (sAt [] 0),.str [],.str (sSub [] (nNat 1) (nLen [])),.int .u8 (sAt [] 0),.bool true,.tup [.int .u8 (escB (sSub [] (nNat 1) (nLen []))),.int .i64 (escN (sSub [] (nNat 1) (nLen [])))],.str (sSub [] (nNat 1) (nLen [])),.tup [.int .u8 (escB (sSub [] (nNat 1) (nLen []))),.int .i64 (escN (sSub [] (nNat 1) (nLen [])))],.int .u8 (escB (sSub [] (nNat 1) (nLen []))),.int .i64 (escN (sSub [] (nNat 1) (nLen []))),.int .i64 (escN (sSub [] (nNat 1) (nLen []))),.bool true,.top,.top,.top,.top,.top,.top,.top,.top,.top],Store.mk [] [] [])) (.ite (qbc (qay (escN (sSub [] (nNat 1) (nLen [])))) true (nNat (escN (sSub [] (nNat 1) (nLen [])))) (nLen (sSub [] (nNat 1) (nLen []))) (nLen (sSub [] (nNat 1) (nLen [])))) (.ite (qav [] [[.int .u8 (escB (sSub [] (nNat 1) (nLen [])))]] 1) (.ite (qaq [[.int .u8 (escB (sSub [] (nNat 1) (nLen [])))]] 1) (.ite (qao [] 1) (.ret (.normal,[29,22,15,9],[.str (sSub (sSub [] (nNat 1) (nLen [])) (nNat (escN (sSub [] (nNat 1) (nLen [])))) (nLen (sSub [] (nNat 1) (nLen [])))),.top,.top,.top,.sl (xApp [] [[.int .u8 (escB (sSub [] (nNat 1) (nLen
        [])))]]) (.tok 0),.int .u8 (escB (sSub [] (nNat 1) (nLen []))),.int .u8 (escB (sSub [] (nNat 1) (nLen []))),.int .i64 (escN (sSub [] (nNat 1) (nLen []))),.str [],.bool true,.str [],.int .u8 (sAt [] 0),.str [],.str (sSub [] (nNat 1) (nLen [])),.int .u8 (sAt [] 0),.bool true,.tup [.int .u8 (escB (sSub [] (nNat 1) (nLen []))),.int .i64 (escN (sSub [] (nNat 1) (nLen [])))],.str (sSub [] (nNat 1) (nLen [])),.tup [.int .u8 (escB (sSub [] (nNat 1) (nLen []))),.int .i64 (escN (sSub [] (nNat 1) (nLen [])))],.int .u8 (escB (sSub [] (nNat 1) (nLen []))),.int .i64 (escN (sSub [] (nNat 1) (nLen []))),.int .i64 (escN (sSub [] (nNat 1) (nLen []))),.bool false,.int .u8 (escB (sSub [] (nNat 1) (nLen []))),.str (sSub [] (nNat 1) (nLen [])),.int .i64 (escN (sSub [] (nNat 1) (nLen []))),.str (sSub (sSub [] (nNat 1) (nLen [])) (nNat (escN (sSub [] (nNat 1) (nLen [])))) (nLen (sSub [] (nNat 1) (nLen [])))),.sl [] .full,.int .u8 (escB (sSub [] (nNat 1) (nLen []))),.sl [[.int .u8 (escB (sSub [] (nNat 1) (nLen [])))]] .full,.sl (xApp [] [[.int .u8 (escB (sSub [] (nNat 1) (nLen [])))]]) (.tok 0),.top],Store.mk [] [(nXs (xApp [] [[.int .u8 (escB (sSub [] (nNat 1) (nLen [])))]]),1,5)] [])) .fail) .fail) .fail) .fail)) (.ite (qav [] [[.int .u8 (sAt [] 0)]] 1) (.ite (qaq [[.int .u8 (sAt [] 0)]] 1) (.ite (qao [] 1) (.ret (.normal,[29,15,9],[.str (sSub [] (nNat 1) (nLen [])),.top,.top,.top,.sl (xApp [] [[.int .u8 (sAt [] 0)]]) (.tok 0),.int .u8 (sAt [] 0),.top,.top,.str [],.bool true,.str [],.int
        .u8 (sAt [] 0),.str [],.str (sSub [] (nNat 1) (nLen [])),.int .u8 (sAt [] 0),.bool false,.top,.top,.top,.top,.top,.top,.top,.top,.top,.top,.top,.sl [] .full,.int .u8 (sAt [] 0),.sl [[.int .u8 (sAt [] 0)]] .full,.sl (xApp [] [[.int .u8 (sAt [] 0)]]) (.tok 0),.top],Store.mk [] [(nXs (xApp [] [[.int .u8 (sAt [] 0)]]),1,5)] [])) .fail) .fail) .fail)) .fail) .fail) (.ret (.exit 0,[9],[.str [],.top,.top,.top,.sl [] .full,.top,.top,.top,.str [],.bool false,.top,.top,.top,.top,.top,.top,.top,.top,.top,.top,.top,.top,.top,.top,.top,.top,.top,.top,.top,.top,.top,.top],Store.mk [] [] []))) (by kernel_rfl) ?_
      exact ⟨fun h => by simp at h, fun h => ⟨rfl, by simp [Weak, mk, qbN, look], rfl⟩⟩
    | cons c t =>
      have e0 : sAt (c :: t) 0 = c.toNat := by simp
      have e1 : sSub (c :: t) (nNat 1) (nLen (c :: t)) = t := by simp
      have hc := c.toNat_lt
      have e7 := qHS t
      have e8 := qH6 t
      simp at hlen
      simp only [qv4, decV, badL] at hr
      rw [decP, decL] at hr
      have x1 : xApp [] [[.int .u8 (c.toNat : Int)]] = qab [c] := by simp [qab]
      have x2 : xApp [] [[.int .u8 (escB t)]] = qab [UInt8.ofNat (escB t).toNat] := qj2 [] e8
      refine LDoes.round qaj hG qai (L := fun _ _ _ => .fail) (qac (by kernel_rfl)) (by kernel_rfl) ?_
      refine Tr.all_as (.ite (sNe (c :: t) []) (.ite (qaz (c :: t) 0) (.ite (qbc (qay 1) true (nNat 1) (nLen (c :: t)) (nLen (c :: t))) (.ite (iEq (sAt (c :: t) 0) 92) (.ite (iEq (escN (sSub (c :: t) (nNat 1) (nLen (c :: t)))) 0) (.ret (.ret,[3,2,22,15,9],[.str (sSub (c :: t) (nNat 1) (nLen (c :: t))),.top,.sl [] .full,.bool false,.sl [] .full,.int .u8 (sAt (c :: t) 0),.int .u8 (escB (sSub (c :: t) (nNat 1) (nLen (c :: t)))),.int .i64 (escN (sSub (c :: t) (nNat 1) (nLen (c :: t)))),.str (c :: t),.bool true,.str (c :: t),.int .u8 (sAt (c :: t) 0),.str (c :: t),.str (sSub (c :: t) (nNat 1) (nLen (c :: t))),.int .u8 (sAt (c :: t) 0),.bool true,.tup [.int .u8 (escB (sSub (c :: t) (nNat 1) (nLen (c :: t)))),.int .i64 (escN (sSub (c :: t) (nNat 1) (nLen (c :: t))))],.str (sSub (c :: t) (nNat 1) (nLen (c :: t))),.tup [.int .u8 (escB (sSub (c :: t) (nNat 1) (nLen (c :: t)))),.int .i64 (escN (sSub (c :: t) (nNat 1) (nLen (c :: t))))],.int .u8 (escB (sSub (c :: t) (nNat 1) (nLen (c :: t)))),.int .i64 (escN (sSub (c :: t) (nNat 1) (nLen (c :: t)))),.int .i64 (escN (sSub (c :: t) (nNat 1) (nLen (c :: t)))),.bool true,.top,.top,.top,.top,.top,.top,.top,.top,.top],Store.mk [] [] [])) (.ite (qbc (qay (escN (sSub (c :: t) (nNat 1) (nLen (c :: t))))) true (nNat (escN (sSub (c :: t) (nNat 1) (nLen (c :: t))))) (nLen (sSub (c :: t) (nNat 1) (nLen (c :: t)))) (nLen (sSub (c :: t) (nNat 1) (nLen (c :: t))))) (.ite (qav [] [[.int .u8 (escB (sSub (c :: t) (nNat 1) (nLen (c :: t))))]] 1) (.ite (qaq [[.int
        .u8 (escB (sSub (c :: t) (nNat 1) (nLen (c :: t))))]] 1) (.ite (qao [] 1) (.ret (.normal,[29,22,15,9],[.str (sSub (sSub (c :: t) (nNat 1) (nLen (c :: t))) (nNat (escN (sSub (c :: t) (nNat 1) (nLen (c :: t))))) (nLen (sSub (c :: t) (nNat 1) (nLen (c :: t))))),.top,.top,.top,.sl (xApp [] [[.int .u8 (escB (sSub (c :: t) (nNat 1) (nLen (c :: t))))]]) (.tok 0),.int .u8 (escB (sSub (c :: t) (nNat 1) (nLen (c :: t)))),.int .u8 (escB (sSub (c :: t) (nNat 1) (nLen (c :: t)))),.int .i64 (escN (sSub (c :: t) (nNat 1) (nLen (c :: t)))),.str (c :: t),.bool true,.str (c :: t),.int .u8 (sAt (c :: t) 0),.str (c :: t),.str (sSub (c :: t) (nNat 1) (nLen (c :: t))),.int .u8 (sAt (c :: t) 0),.bool true,.tup [.int .u8 (escB (sSub (c :: t) (nNat 1) (nLen (c :: t)))),.int .i64 (escN (sSub (c :: t) (nNat 1) (nLen (c :: t))))],.str (sSub (c :: t) (nNat 1) (nLen (c :: t))),.tup [.int .u8 (escB (sSub (c :: t) (nNat 1) (nLen (c :: t)))),.int .i64 (escN (sSub (c :: t) (nNat 1) (nLen (c :: t))))],.int .u8 (escB (sSub (c :: t) (nNat 1) (nLen (c :: t)))),.int .i64 (escN (sSub (c :: t) (nNat 1) (nLen (c :: t)))),.int .i64 (escN (sSub (c :: t) (nNat 1) (nLen (c :: t)))),.bool false,.int .u8 (escB (sSub (c :: t) (nNat 1) (nLen (c :: t)))),.str (sSub (c :: t) (nNat 1) (nLen (c :: t))),.int .i64 (escN (sSub (c :: t) (nNat 1) (nLen (c :: t)))),.str (sSub (sSub (c :: t) (nNat 1) (nLen (c :: t))) (nNat (escN (sSub (c :: t) (nNat 1) (nLen (c :: t))))) (nLen (sSub (c :: t) (nNat 1) (nLen (c :: t))))),.sl []
        .full,.int .u8 (escB (sSub (c :: t) (nNat 1) (nLen (c :: t)))),.sl [[.int .u8 (escB (sSub (c :: t) (nNat 1) (nLen (c :: t))))]] .full,.sl (xApp [] [[.int .u8 (escB (sSub (c :: t) (nNat 1) (nLen (c :: t))))]]) (.tok 0),.top],Store.mk [] [(nXs (xApp [] [[.int .u8 (escB (sSub (c :: t) (nNat 1) (nLen (c :: t))))]]),1,5)] [])) .fail) .fail) .fail) .fail)) (.ite (qav [] [[.int .u8 (sAt (c :: t) 0)]] 1) (.ite (qaq [[.int .u8 (sAt (c :: t) 0)]] 1) (.ite (qao [] 1) (.ret (.normal,[29,15,9],[.str (sSub (c :: t) (nNat 1) (nLen (c :: t))),.top,.top,.top,.sl (xApp [] [[.int .u8 (sAt (c :: t) 0)]]) (.tok 0),.int .u8 (sAt (c :: t) 0),.top,.top,.str (c :: t),.bool true,.str (c :: t),.int .u8 (sAt (c :: t) 0),.str (c :: t),.str (sSub (c :: t) (nNat 1) (nLen (c :: t))),.int .u8 (sAt (c :: t) 0),.bool false,.top,.top,.top,.top,.top,.top,.top,.top,.top,.top,.top,.sl [] .full,.int .u8 (sAt (c :: t) 0),.sl [[.int .u8 (sAt (c :: t) 0)]] .full,.sl (xApp [] [[.int .u8 (sAt (c :: t) 0)]]) (.tok 0),.top],Store.mk [] [(nXs (xApp [] [[.int .u8 (sAt (c :: t) 0)]]),1,5)] [])) .fail) .fail) .fail)) .fail) .fail) (.ret (.exit 0,[9],[.str (c :: t),.top,.top,.top,.sl [] .full,.top,.top,.top,.str (c :: t),.bool false,.top,.top,.top,.top,.top,.top,.top,.top,.top,.top,.top,.top,.top,.top,.top,.top,.top,.top,.top,.top,.top,.top],Store.mk [] [] []))) (by kernel_rfl) ?_
      rw [e1, e0, x1, x2]
      simp only [qdD]
      refine Tr.all_t (by simp) <| Tr.all_t (by simp) <| Tr.all_t (by simp) ?_
      by_cases h92 : c = 92
      · subst h92
        refine Tr.all_t (by simp) ?_
        by_cases hn : escN t = 0
        · simp [hn] at hr
          obtain ⟨rfl, rfl, rfl⟩ := hr
          exact Tr.all_t (by simp [hn]) ⟨rfl, by simp [Weak, mk, qbN, look], rfl⟩
        · refine Tr.all_f (by simp [hn]) <| Tr.all_t (by simp; omega) <| Tr.all_t (by simp) <| Tr.all_t (by simp [one]) <| Tr.all_t (by simp) ?_
          refine LDoes.into ?_ (key t.length ([UInt8.ofNat (escB t).toNat]) (t.drop (escN t).toNat) (by simp) (by simp) (by simp; omega) ?_)
          · simp [Weak, mk, qbN, look]
          · cases hd : decP (t.drop (escN t).toNat) with
            | none =>
              simp [hn, hd] at hr ⊢
              rw [Nat.add_comm]
              exact hr
            | some x =>
              simp [hn, hd] at hr ⊢
              exact hr
      · refine Tr.all_f (qdZ (k := 92) h92) <| Tr.all_t (by simp) <| Tr.all_t (by simp [one]) <| Tr.all_t (by simp) ?_
        refine LDoes.into ?_ (key t.length [c] t (by omega) (by simp) (by simp; omega) ?_)
        · simp [Weak, mk, qbN, look]
        · cases hd : decP t with
          | none =>
            simp [h92, hd] at hr ⊢
            rw [Nat.add_comm]
            exact hr
          | some x =>
            simp [h92, hd] at hr ⊢
            exact hr
  · cases hd
theorem qJO (gl:Gl):SimP Tryz.prog gl 195 fun args=>(qz8 args).run:=by
 refine SimP.of_tree (G:=ofL [(202,.pure qtd)]) (L:=qHF) qaj (qag (qyr gl) qaf) qai Tryz.func195 rfl (by rfl) (by kernel_rfl) (qh3 (r:=2) (c1:=qsM) (by kernel_rfl) ?_) ?_
 ·intro fr σ e fr' σ' hh;simp only [lps,qHF,if_true] at hh;exact qkB (qFF gl) fr σ e fr' σ' hh
 intro args x h hr;unfold qz8 at h
 split at h
 ·rename_i s;obtain⟨h1,h2⟩:=Tr.chk_some h;refine Tr.run_as (.ite (qm8 s) (.ite (qv4 s) (.ite (sEq (decV s) []) (.ret (.tup [.sl [] .non,.bool true])) (.ret (.tup [.sl (qaa (qab (decV s))) .non,.bool true]))) (.ite (nEq (badL s) 0) (.ret (.tup [.sl [] .non,.bool false])) (.ret (.tup [.sl [] .non,.bool false])))) .fail) (by kernel_rfl) ?_
  by_cases hd:qv4 s=true
  ·by_cases he:decV s=[]
   ·simp [hd,he] at h2 ⊢;simp at h1;exact⟨h1,h2⟩
   ·simp [hd,he] at h2 ⊢;simp at h1;exact⟨h1,h2⟩
  ·by_cases he:badL s=0
   ·simp [hd,he] at h2 ⊢;simp at h1;exact⟨h1,h2⟩
   ·simp [hd,he] at h2 ⊢;simp at h1;exact⟨h1,h2⟩
 ·cases h
end Go.Pv
set_option maxHeartbeats 4000000
set_option maxRecDepth 200000
set_option linter.unusedSimpArgs false
set_option linter.unusedVariables false
namespace Go.Pv
open Go Go.Proofs Go.RowKit
def rdV (s:qU):Option (Int×Int×List UInt8) :=
 if qdk s [34]=true∧qwP s [34]=true∧2≤s.length then
  match decP ((s.take (s.length - 1)).drop 1) with
  |some b=>if qa5 2 0 b=0∧qeF 2 0 b=s then some (2,0,b) else none
  |none=>none
 else if pOk s then (if qa5 1 (pVal s) []=0∧qeF 1 (pVal s) []=s then some (1,pVal s,[]) else none) else none
def kRd (s:qU):Int:=match rdV s with|some v=>v.1|none=>0
def nRd (s:qU):Int:=match rdV s with|some v=>v.2.1|none=>0
def sRd (s:qU):qU:=match rdV s with|some v=>v.2.2|none=>[]
def eRd (s:qU):Int:=match rdV s with|some _=>0|none=>10
def qyy:List PV→Tr PV
 |[.str s]=>Tr.chk (qm8 s) (.ret (.tup [.agg [.int .i64 (kRd s),.int .i64 (nRd s),.str (sRd s)],.int .i64 (eRd s)]))
 |_=>.fail
theorem qPH {gl : Gl} (hgl : GlOk gl) : SimP Tryz.prog gl 189 fun args => (qyy args).run := by
  refine SimP.of_tree (G := ofL [(177, .pure quc), (194, .pure qy4), (195, .pure qz8), (196, .pure qrL), (169, .pure qN8)]) (L := fun _ _ _ => .fail) qaj (qag (qxW gl) (qag (qJS gl) (qag (qJO gl) (qag (qEb hgl) (qag (qPz hgl.toGlPow) qaf))))) qai Tryz.func189 rfl (by rfl) (by kernel_rfl) (qac (by kernel_rfl)) ?_
  intro args x h hr
  unfold qyy at h
  split at h
  · rename_i s
    obtain ⟨h1, h2⟩ := Tr.chk_some h
    refine Tr.run_as (.ite (qdk s [34]) (.ite (qwP s [34]) (.ite (iLe 2 (sLen s)) (.ite (qbc (qay 1) (qay (iSub .i64 (sLen s) 1)) (nNat 1) (nNat (iSub .i64 (sLen s) 1)) (nLen s)) (.ite (qm8 (sSub s (nNat 1) (nNat (iSub .i64 (sLen s) 1)))) (.ite (qv4 (sSub s (nNat 1) (nNat (iSub .i64 (sLen s) 1)))) (.ite false (.ret (.tup [.agg [.int .i64 0,.int .i64 0,.str []],.int .i64 10])) (.ite (qcH (qab (decV (sSub s (nNat 1) (nNat (iSub .i64 (sLen s) 1)))))) (.ite (iNe (qa5 2 0 (qbC (qab (decV (sSub s (nNat 1) (nNat (iSub .i64 (sLen s) 1))))))) 0) (.ret (.tup [.agg [.int .i64 0,.int .i64 0,.str []],.int .i64 10])) (.ite (sNe (qeF 2 0 (qbC (qab (decV (sSub s (nNat 1) (nNat (iSub .i64 (sLen s) 1))))))) s) (.ret (.tup [.agg [.int .i64 0,.int .i64 0,.str []],.int .i64 10])) (.ret (.tup [.agg [.int .i64 2,.int .i64 0,.str (qbC (qab (decV (sSub s (nNat 1) (nNat (iSub .i64 (sLen s) 1))))))],.int .i64 0])))) .fail)) (.ite true (.ret (.tup [.agg [.int .i64 0,.int .i64 0,.str []],.int .i64 10])) (.ite (qcH []) (.ite (iNe (qa5 2 0 (qbC [])) 0) (.ret (.tup [.agg [.int .i64 0,.int .i64 0,.str []],.int .i64 10])) (.ite (sNe (qeF 2 0 (qbC [])) s) (.ret (.tup [.agg [.int .i64 0,.int .i64 0,.str []],.int .i64 10])) (.ret (.tup [.agg [.int .i64 2,.int .i64 0,.str (qbC [])],.int .i64 0])))) .fail))) .fail) .fail) (.ite (iEq 10 10) (.ite (iEq 64 64) (.ite (qgq s) (.ite (pOk s) (.ite false (.ret (.tup [.agg [.int .i64 0,.int .i64 0,.str []],.int .i64
      10])) (.ite (iNe (qa5 1 (pVal s) []) 0) (.ret (.tup [.agg [.int .i64 0,.int .i64 0,.str []],.int .i64 10])) (.ite (sNe (qeF 1 (pVal s) []) s) (.ret (.tup [.agg [.int .i64 0,.int .i64 0,.str []],.int .i64 10])) (.ret (.tup [.agg [.int .i64 1,.int .i64 (pVal s),.str []],.int .i64 0]))))) (.ite true (.ret (.tup [.agg [.int .i64 0,.int .i64 0,.str []],.int .i64 10])) (.ite (iNe (qa5 1 (pVal s) []) 0) (.ret (.tup [.agg [.int .i64 0,.int .i64 0,.str []],.int .i64 10])) (.ite (sNe (qeF 1 (pVal s) []) s) (.ret (.tup [.agg [.int .i64 0,.int .i64 0,.str []],.int .i64 10])) (.ret (.tup [.agg [.int .i64 1,.int .i64 (pVal s),.str []],.int .i64 0])))))) .fail) .fail) .fail)) (.ite (iEq 10 10) (.ite (iEq 64 64) (.ite (qgq s) (.ite (pOk s) (.ite false (.ret (.tup [.agg [.int .i64 0,.int .i64 0,.str []],.int .i64 10])) (.ite (iNe (qa5 1 (pVal s) []) 0) (.ret (.tup [.agg [.int .i64 0,.int .i64 0,.str []],.int .i64 10])) (.ite (sNe (qeF 1 (pVal s) []) s) (.ret (.tup [.agg [.int .i64 0,.int .i64 0,.str []],.int .i64 10])) (.ret (.tup [.agg [.int .i64 1,.int .i64 (pVal s),.str []],.int .i64 0]))))) (.ite true (.ret (.tup [.agg [.int .i64 0,.int .i64 0,.str []],.int .i64 10])) (.ite (iNe (qa5 1 (pVal s) []) 0) (.ret (.tup [.agg [.int .i64 0,.int .i64 0,.str []],.int .i64 10])) (.ite (sNe (qeF 1 (pVal s) []) s) (.ret (.tup [.agg [.int .i64 0,.int .i64 0,.str []],.int .i64 10])) (.ret (.tup [.agg [.int .i64 1,.int .i64 (pVal s),.str []],.int .i64 0])))))) .fail) .fail)
      .fail)) (.ite (iEq 10 10) (.ite (iEq 64 64) (.ite (qgq s) (.ite (pOk s) (.ite false (.ret (.tup [.agg [.int .i64 0,.int .i64 0,.str []],.int .i64 10])) (.ite (iNe (qa5 1 (pVal s) []) 0) (.ret (.tup [.agg [.int .i64 0,.int .i64 0,.str []],.int .i64 10])) (.ite (sNe (qeF 1 (pVal s) []) s) (.ret (.tup [.agg [.int .i64 0,.int .i64 0,.str []],.int .i64 10])) (.ret (.tup [.agg [.int .i64 1,.int .i64 (pVal s),.str []],.int .i64 0]))))) (.ite true (.ret (.tup [.agg [.int .i64 0,.int .i64 0,.str []],.int .i64 10])) (.ite (iNe (qa5 1 (pVal s) []) 0) (.ret (.tup [.agg [.int .i64 0,.int .i64 0,.str []],.int .i64 10])) (.ite (sNe (qeF 1 (pVal s) []) s) (.ret (.tup [.agg [.int .i64 0,.int .i64 0,.str []],.int .i64 10])) (.ret (.tup [.agg [.int .i64 1,.int .i64 (pVal s),.str []],.int .i64 0])))))) .fail) .fail) .fail)) (by kernel_rfl) ?_
    have hl : s.length ≤ 140737488355328 := by simpa using h1
    cases h2
    have h48 : qgq s = true := by simp [qgq]; omega
    have int : (Tr.ite (iEq 10 10) (Tr.ite (iEq 64 64) (Tr.ite (qgq s) (Tr.ite (pOk s)
              (Tr.ite false (Tr.ret (PV.tup [PV.agg [PV.int IntKind.i64 0, PV.int IntKind.i64 0, PV.str []], PV.int IntKind.i64 10]))
                (Tr.ite (iNe (qa5 1 (pVal s) []) 0) (Tr.ret (PV.tup [PV.agg [PV.int IntKind.i64 0, PV.int IntKind.i64 0, PV.str []], PV.int IntKind.i64 10]))
                  (Tr.ite (sNe (qeF 1 (pVal s) []) s) (Tr.ret (PV.tup [PV.agg [PV.int IntKind.i64 0, PV.int IntKind.i64 0, PV.str []], PV.int IntKind.i64 10]))
                    (Tr.ret (PV.tup [PV.agg [PV.int IntKind.i64 1, PV.int IntKind.i64 (pVal s), PV.str []], PV.int IntKind.i64 0])))))
              (Tr.ite true (Tr.ret (PV.tup [PV.agg [PV.int IntKind.i64 0, PV.int IntKind.i64 0, PV.str []], PV.int IntKind.i64 10]))
                (Tr.ite (iNe (qa5 1 (pVal s) []) 0) (Tr.ret (PV.tup [PV.agg [PV.int IntKind.i64 0, PV.int IntKind.i64 0, PV.str []], PV.int IntKind.i64 10]))
                  (Tr.ite (sNe (qeF 1 (pVal s) []) s) (Tr.ret (PV.tup [PV.agg [PV.int IntKind.i64 0, PV.int IntKind.i64 0, PV.str []], PV.int IntKind.i64 10]))
                    (Tr.ret (PV.tup [PV.agg [PV.int IntKind.i64 1, PV.int IntKind.i64 (pVal s), PV.str []], PV.int IntKind.i64 0])))))) Tr.fail) Tr.fail) Tr.fail).run =
        some (if pOk s then (if qa5 1 (pVal s) [] = 0 ∧ qeF 1 (pVal s) [] = s then .tup [.agg [.int .i64 1, .int .i64 (pVal s), .str []], .int .i64 0] else .tup [.agg [.int .i64 0, .int .i64 0, .str []], .int .i64 10]) else .tup [.agg [.int .i64 0, .int .i64 0, .str []], .int .i64 10]) := by
      cases hp : pOk s with
      | false => simp [h48]
      | true =>
        by_cases hc : qa5 1 (pVal s) [] = 0 <;> by_cases ht : qeF 1 (pVal s) [] = s <;> simp [h48, hc, ht]
    have fin : ∀ o : Option (Int × Int × List UInt8), rdV s = o → PV.tup [.agg [.int .i64 (kRd s), .int .i64 (nRd s), .str (sRd s)], .int .i64 (eRd s)] = match o with | some v => .tup [.agg [.int .i64 v.1, .int .i64 v.2.1, .str v.2.2], .int .i64 0] | none => .tup [.agg [.int .i64 0, .int .i64 0, .str []], .int .i64 10] := by
      intro o ho
      unfold kRd nRd sRd eRd
      rw [ho]
      cases o <;> rfl
    by_cases hq : qdk s [34] = true ∧ qwP s [34] = true ∧ 2 ≤ s.length
    · obtain ⟨p1, p2, p3⟩ := hq
      have e1 : sSub s (nNat 1) (nNat (iSub .i64 (sLen s) 1)) = (s.take (s.length - 1)).drop 1 := by
        have : iSub .i64 (sLen s) 1 = s.length - 1 := by unfold iSub; rw [qjx, qaI (by omega)]
        rw [this]
        simp
        try (congr 2; omega)
      have e2 : qbc (qay 1) (qay (iSub .i64 (sLen s) 1)) (nNat 1) (nNat (iSub .i64 (sLen s) 1)) (nLen s) = true := by
        have : iSub .i64 (sLen s) 1 = s.length - 1 := by unfold iSub; rw [qjx, qaI (by omega)]
        rw [this]
        simp
        omega
      have e3 : iLe 2 (sLen s) = true := by simp; omega
      rw [e1, p1, p2, e2, e3]
      have e4 : qm8 ((s.take (s.length - 1)).drop 1) = true := by simp; omega
      generalize hm : (s.take (s.length - 1)).drop 1 = m at *
      rw [e4]
      cases hd : decP m with
      | none =>
        have h5 : qv4 m = false := by simp [qv4, hd]
        have := fin none (by unfold rdV; rw [if_pos ⟨p1, p2, p3⟩, hm, hd])
        rw [this]
        simp [h5]
      | some b =>
        have h5 : qv4 m = true := by simp [qv4, hd]
        have h6 : decV m = b := by simp [decV, hd]
        rw [h6]
        by_cases hc : qa5 2 0 b = 0 ∧ qeF 2 0 b = s
        · have := fin (some (2, 0, b)) (by unfold rdV; rw [if_pos ⟨p1, p2, p3⟩, hm, hd]; simp only []; rw [if_pos hc])
          rw [this]
          simp [h5, hc]
        · have := fin none (by unfold rdV; rw [if_pos ⟨p1, p2, p3⟩, hm, hd]; simp only []; rw [if_neg hc])
          rw [this]
          by_cases hc1 : qa5 2 0 b = 0
          · have hc2 : ¬ qeF 2 0 b = s := fun h => hc ⟨hc1, h⟩
            simp [h5, hc1, hc2]
          · simp [h5, hc1]
    · have e9 : rdV s = if pOk s then (if qa5 1 (pVal s) [] = 0 ∧ qeF 1 (pVal s) [] = s then some (1, pVal s, []) else none) else none := by
        unfold rdV
        rw [if_neg hq]
      have e8 : PV.tup [.agg [.int .i64 (kRd s), .int .i64 (nRd s), .str (sRd s)], .int .i64 (eRd s)] = (if pOk s then (if qa5 1 (pVal s) [] = 0 ∧ qeF 1 (pVal s) [] = s then .tup [.agg [.int .i64 1, .int .i64 (pVal s), .str []], .int .i64 0] else .tup [.agg [.int .i64 0, .int .i64 0, .str []], .int .i64 10]) else .tup [.agg [.int .i64 0, .int .i64 0, .str []], .int .i64 10]) := by
        rw [fin _ e9]
        by_cases c1 : pOk s = true
        · by_cases c2 : qa5 1 (pVal s) [] = 0 ∧ qeF 1 (pVal s) [] = s
          · simp only [c1, if_true, if_pos c2]
          · simp only [c1, if_true, if_neg c2]
        · simp only [if_neg c1]
      rw [e8, ← int]
      cases p1 : qdk s [34] with
      | false => simp
      | true =>
        cases p2 : qwP s [34] with
        | false => simp
        | true =>
          have e3 : iLe 2 (sLen s) = false := by simp; have : ¬ 2 ≤ s.length := fun h => hq ⟨p1, p2, h⟩; omega
          rw [e3]
          simp
  · cases h
end Go.Pv
set_option linter.unusedSimpArgs false
set_option linter.unusedVariables false
namespace Go.Pv
open Go.RowKit
def qmC (s:Nat):Option Code:=if s=2 then some .ret else if 3≤s then some (.exit (s - 3)) else none
def exOf (s:Nat):PExit:=if s=2 then .ret else if 3≤s then .exit (s - 3) else .normal
def stOf:PExit→Nat
 |.normal=>0
 |.ret=>2
 |.exit id=>3+id
 |.pan _=>1
def okEx:PExit→Bool
 |.pan _=>false
 |_=>true
def isNo:PExit→Bool
 |.normal=>true
 |_=>false
def recS (r:Loop) (s:Nat):Obj:=.loop { r with state:=if s=0 then .ready else if s=1 then .busy else .done,pending:=qmC s }
def glR (gl:Gl) (e:Nat) (r:Loop) (fr:List PV):Gl:=⟨gl.v,fun e' s=>if e'=e then recS r s else gl.lp e' s,fun e'=>if e'=e then fr else gl.fr e'⟩
def puts (fr:List PV):List Tmp→List PV→List PV
 |p::ps,x::xs=>puts (fr.set p x) ps xs
 |_,_=>fr
section
variable {gl : Gl} {H : Gh} {σ : Store} {w w' : World}
theorem qD1:∀ (ps:List Tmp) (xs:List PV) (vs:List Value) (fr:List PV) (tmps:Array Value),RelL H w fr tmps.toList→RelL H w xs vs→RelL H w (puts fr ps xs) ((ps.zip vs).foldl (fun t p=>t.setIfInBounds p.1 p.2) tmps).toList
 |[],xs,vs,fr,tmps,h,hx=>by cases hx<;>simpa [puts] using h
 |p::ps,[],vs,fr,tmps,h,hx=>by cases hx;simpa [puts] using h
 |p::ps,x::xs,vs,fr,tmps,h,hx=>by
  cases hx with
  |cons _ v _ vs hv hvs =>
   simp only [puts,List.zip_cons_cons,List.foldl_cons];exact qD1 ps xs vs _ _ (by simpa using h.set p hv) hvs
theorem qOQ {ps:Array Tmp} {xs:List PV} {vs:List Value} {fr:List PV} {tmps:Array Value} (h:RelL H w fr tmps.toList) (hx:RelL H w xs vs):RelL H w (puts fr ps.toList xs) ((ps.zip vs.toArray).foldl (fun t (p,v)=>t.setIfInBounds p v) tmps).toList:=by
 have:=qD1 ps.toList xs vs fr tmps h hx;have e:(ps.zip vs.toArray).foldl (fun t (p,v)=>t.setIfInBounds p v) tmps=(ps.toList.zip vs).foldl (fun t p=>t.setIfInBounds p.1 p.2) tmps:=by
  rw [← Array.foldl_toList,Array.toList_zip]
 rw [e];exact this
theorem Ok.lp {gl':Gl} (h:Ok gl H σ w) (hv:gl'.v=gl.v) (hl:∀ (t:Nat) (T:Tok),H.tk[t]?=some T→T.k=0→gl'.lp T.e=gl.lp T.e∧gl'.fr T.e=gl.fr T.e):Ok gl' H σ w :=
 ⟨h.B,fun b o e=>h.gl b o (by rw [← hv];exact e),h.len,(fun id b cs e1 e2=>⟨by show gl'.v b=none;rw [hv];exact (h.obj id b cs e1 e2).1,(h.obj id b cs e1 e2).2⟩),h.nd,h.tkl,fun t T e hvv=>by
  obtain⟨h1,h2,o,he,ho⟩:=h.tok t T e hvv;refine⟨h1,h2,o,he,?_⟩;rcases ho with ho|⟨hk,q1,r,q2,q3,q4,q5,q6⟩
  ·exact .inl ho
  ·obtain⟨l1,l2⟩:=hl t T e hk;refine .inr ⟨hk,by rw [l1];exact q1,r,q2,by rw [l2];exact q3,?_,q5,?_⟩
   ·intro n hn;rw [l2];exact q4 n hn
   ·intro m hm;rw [l2];exact q6 m hm,h.tnd,h.tyl,h.ty⟩
theorem Dr.lp {gl':Gl} {w w':World} (h:Dr gl w w') (hv:gl'.v=gl.v):Dr gl' w w':=fun hg=>h (fun b=>by rw [← hv];exact hg b)
theorem Ev.lp {gl':Gl} {H':Gh} (h:Ev gl H w H' w') (hv:gl'.v=gl.v):Ev gl' H w H' w' :=
 ⟨h.B,h.base,h.aux,h.K,h.os,h.tape,h.output,h.size,h.ob,h.tok,h.prot,h.block,h.dr.lp hv,h.fix,h.old,h.obn⟩
theorem qMj (h:Ok gl H σ w) {t:Nat} {T:Tok} (ht:H.tk[t]?=some T) (hk:T.k=0) {s':Nat} {r':Loop} (hr:gl.lp T.e s'=.loop r') (hframe:RelL H w (gl.fr T.e) r'.tmps.toList) :
  Ev gl H w { H with tk:=H.tk.set t { T with ver:=s' } } (w.putObj T.blk (.loop r'))∧Ok gl { H with tk:=H.tk.set t { T with ver:=s' } } { σ with toks:=σ.toks.set t (s',0,T.e) } (w.putObj T.blk (.loop r')):=by
 have htl:t < H.tk.length:=(List.getElem?_eq_some_iff.1 ht).1;have hnv:¬ T.vir:=fun hh=>hh.2 hk
 obtain⟨hB,hob,o,ho,hT⟩:=h.tok t T ht hnv;obtain⟨r0,ho0,hp0,hc0,hd0⟩:∃ r,o=.loop r∧(∀ n,T.cap≤n→qby n (gl.fr T.e)=gl.fr T.e)∧T.cap≤H.ob.length∧(∀ m,t≤m→qbF m (gl.fr T.e)=gl.fr T.e):=by
  rcases hT with⟨h1,_⟩|⟨_,_,r,h3,_,h5,h6,h7⟩
  ·exact absurd hk h1
  ·exact⟨r,h3,h5,h6,h7⟩
 subst ho0;have hlt:=qak ho;have hsz:(w.putObj T.blk (.loop r')).heap.size=w.heap.size:=qbO ..;have hcase:∀ (u:Nat) (U:Tok),(H.tk.set t { T with ver:=s' })[u]?=some U→(u=t∧U={ T with ver:=s' })∨(u≠t∧H.tk[u]?=some U):=by
  intro u U hu;by_cases hut:u=t
  ·subst hut;rw [List.getElem?_set_self htl] at hu;exact .inl ⟨rfl,(Option.some.inj hu).symm⟩
  ·rw [List.getElem?_set_ne (fun e=>hut e.symm)] at hu
   exact .inr ⟨hut,hu⟩
 have hne:∀ b off,H.prot w b off→b≠T.blk:=fun b off hp e=>by
  have:=hp.2.2.2 T (List.mem_of_getElem? ht) hnv e.symm;rw [hk] at this;omega
 have hcell:∀ b off s,b≠T.blk→(w.putObj T.blk (.loop r')).cell? ⟨b,off,s⟩=w.cell? ⟨b,off,s⟩:=fun b off s e=>World.cell?_of_block (a:=⟨b,off,s⟩) (World.putObj_heap_other e)
 have ev:Ev gl H w { H with tk:=H.tk.set t { T with ver:=s' } } (w.putObj T.blk (.loop r')):=by
  refine⟨rfl,rfl,rfl,rfl,rfl,rfl,rfl,by rw [hsz];exact Nat.le_refl _,fun _ _ h=>h,fun u U hu=>?_,fun b off hp=>?_,fun b hb _=>World.putObj_heap_other (by omega),.of_eq rfl,fun b ds hb=>(World.putObj_heap_other (fun e=>by subst e;rw [ho] at hb;cases hb)).trans hb,fun u U hu hk'=>?_,fun _ hb=>.inl hb⟩
  ·by_cases hut:u=t
   ·subst hut;rw [ht] at hu;cases hu
    exact⟨{ T with ver:=s' },List.getElem?_set_self htl,fun e=>absurd hk e,fun _=>⟨hk,rfl,rfl,rfl⟩⟩
   ·exact⟨U,by show (H.tk.set t _)[u]?=some U;rw [List.getElem?_set_ne (fun e=>hut e.symm)];exact hu,.refl U⟩
  ·refine⟨⟨by rw [hsz];exact hp.1,hp.2.1,hp.2.2.1,fun U hU hvU hbk=>?_⟩,fun s=>hcell b off s (hne b off hp)⟩
   obtain⟨u,hu⟩:=List.mem_iff_getElem?.1 hU;rcases hcase u U hu with⟨_,rfl⟩|⟨_,hu⟩
   ·exact absurd hbk.symm (hne b off hp)
   ·exact hp.2.2.2 U (List.mem_of_getElem? hu) hvU hbk
  ·rcases hcase u U hu with⟨rfl,rfl⟩|⟨_,hu⟩
   ·exact⟨T,ht,hk⟩
   ·exact⟨U,hu,hk'⟩
 refine⟨ev,⟨by rw [hsz];exact h.B,fun b o' eg=>⟨(h.gl b o' eg).1,(World.putObj_heap_other (by have:=(h.gl b o' eg).1;omega)).trans (h.gl b o' eg).2⟩,h.len,fun id b cs e1 e2=>?_,h.nd,?_,fun u U hu hvU=>?_,fun u v U V hu hv hvU hvV hbk=>?_,h.tyl,fun id b T0 cs e1 e2 e3 hTT=>?_⟩⟩
 ·obtain⟨h1,vs,ext,T0,he,hr⟩:=h.obj id b cs e1 e2;exact⟨h1,vs,ext,T0,(World.putObj_heap_other (fun e=>by subst e;rw [ho] at he;cases he)).trans he,hr.mono ev.mono⟩
 ·show (H.tk.set t _).map _=σ.toks.set t _
  rw [List.map_set,h.tkl,hk]
 ·rcases hcase u U hu with⟨rfl,rfl⟩|⟨hut,hu'⟩
  ·exact⟨hB,hob,_,World.putObj_heap_same hlt,.inr ⟨hk,hr.symm,r',rfl,hframe.mono ev.mono,hp0,hc0,hd0⟩⟩
  ·obtain⟨g1,g2,o',g3,g4⟩:=h.tok u U hu' hvU;exact⟨g1,g2,o',(World.putObj_heap_other (fun e=>hut (h.tnd u t U T hu' ht hvU hnv e))).trans g3,g4.mono ev.mono⟩
 ·rcases hcase u U hu with⟨h1,rfl⟩|⟨h1,hu'⟩<;>rcases hcase v V hv with⟨h2,rfl⟩|⟨h2,hv'⟩
  ·rw [h1,h2]
  ·exact absurd (h.tnd v t V T hv' ht hvV hnv hbk.symm) h2
  ·exact absurd (h.tnd u t U T hu' ht hvU hnv hbk) h1
  ·exact h.tnd u v U V hu' hv' hvU hvV hbk
 ·obtain⟨us,he,hs⟩:=h.ty id b T0 cs e1 e2 e3 hTT;exact⟨us,(World.putObj_heap_other (fun e=>by subst e;rw [ho] at he;cases he)).trans he,hs⟩
end
theorem qWc {P:Program} {gl:Gl} {e:Nat} {r:Loop} (hlp:gl.lp e=recS r) {Y:Nat→List PV→Store→Option (PV×Store)}
  (hY:∀ t args σ x σ',Y t args σ=some (x,σ')→∃ fr1 σ1 ex fr2 σ2,args.length=r.params.size∧Does P gl r.assign (puts (gl.fr e) r.params.toList args) σ .normal fr1 σ1∧σ1.toks[t]?=some (0,0,e) ∧
   Does P gl r.body fr1 { σ1 with toks:=σ1.toks.set t (1,0,e) } ex fr2 σ2∧σ2.toks[t]?=some (1,0,e)∧okEx ex=true∧x=.bool (isNo ex)∧σ'={ σ2 with toks:=σ2.toks.set t (stOf ex,0,e) }):qsj P gl qeM (.yld e Y):=by
 intro t args σ x σ' h0 hy H w vs T hok hrel hT;obtain⟨fr1,σ1,ex,fr2,σ2,hlen,hd1,ht1,hd2,ht2,hokx,rfl,rfl⟩:=hY t args σ x σ' hy
 -- what a token of such a state is
 have look:∀ {H1:Gh} {w1:World} {τ:Store} {T1:Tok} {s:Nat},Ok gl H1 τ w1→τ.toks[t]?=some (s,0,e)→H1.tk[t]?=some T1→T1.ver=s∧T1.k=0∧T1.e=e∧w1.heap[T1.blk]?=some (recS r s)∧RelL H1 w1 (gl.fr e) r.tmps.toList:=by
  intro H1 w1 τ T1 s hk1 hs hT1;have e1:(T1.ver,T1.k,T1.e)=(s,0,e):=by
   rw [← hk1.tkl,List.getElem?_map,hT1] at hs;simpa using hs
  simp only [Prod.mk.injEq] at e1;obtain⟨a1,a2,a3⟩:=e1;obtain⟨_,_,o,ho,hTO⟩:=hk1.tok t T1 hT1 (fun hh=>hh.2 (by assumption))
  rcases hTO with⟨b1,_⟩|⟨_,b2,r1,b3,b4,_⟩
  ·exact absurd a2 b1
  ·rw [a1,a3,hlp] at b2;rw [b2] at ho b3;refine⟨a1,a2,a3,ho,?_⟩;rw [a3] at b4;unfold recS at b3;cases b3
   exact b4
 obtain⟨v0,k0,ee0,hl0,hf0⟩:=look hok h0 hT;have hsz:vs.toArray.size=r.params.size:=by rw [← hlen,hrel.len];simp
 have hrun:=run_yield (P:=P) (args:=vs.toArray) hl0 hsz;refine⟨_,_,_,_,hrun,?_⟩;have hRin:RIn (some T.blk) { H with K:=(w.heap.size,[]) }:=fun l hl=>by cases hl;exact⟨t,T,hT,k0,rfl⟩
 refine roundIn_of_wpIn (F:=Fence.wide) (n:=0) (l:=T.blk) trivial ?_;have hst0:St gl { H with K:=(w.heap.size,[]) } w (puts (gl.fr e) r.params.toList args) σ { tmps:=(r.params.zip vs.toArray).foldl (fun t (p,v)=>t.setIfInBounds p v) r.tmps,defers:=[] } w :=
  ⟨_,Ev.refl _ w,hok.setK _,(qOQ hf0 hrel).mono (Mono.setK' H w _),Marks.nil (Nat.le_refl _)⟩
 refine hd1 (some T.blk) 0 _ w hRin _ _ w hst0 fun a1 w1 hst1=>?_
 obtain⟨H1,hev1,hok1,hfr1,hm1⟩:=hst1;obtain⟨T1,hT1,hu1⟩:=hev1.tok t T hT;obtain⟨_,hblk1,_,_⟩:=hu1.lp k0;obtain⟨v1,k1,ee1,hl1,hf1⟩:=look hok1 ht1 hT1;rw [hblk1] at hl1;have hbr:=run_beginRound (P:=P) hl1 rfl;refine⟨_,hbr,?_⟩;have hs1:=qMj (s':=1) (r':={ r with state:=.busy,pending:=qmC 1 }) hok1 hT1 k1 (by rw [ee1,hlp];rfl) (by rw [ee1];exact hf1)
 rw [ee1,hblk1] at hs1;obtain⟨hev2,hok2⟩:=hs1;have hst2:St gl { H with K:=(w.heap.size,[]) } w fr1 { σ1 with toks:=σ1.toks.set t (1,0,e) } a1 (w1.putObj T.blk (.loop { r with state:=.busy,pending:=qmC 1 })):=⟨_,hev1.trans hev2,hok2,hfr1.mono hev2.mono,hm1.ev hev2⟩
 refine hd2 (some T.blk) 0 _ w hRin _ _ _ hst2 fun a3 w3 hst3=>?_
 obtain⟨H3,hev3,hok3,hfr3,hm3⟩:=hst3;obtain⟨T3,hT3,hu3⟩:=hev3.tok t T hT;obtain⟨_,hblk3,_,_⟩:=hu3.lp k0;obtain⟨v3,k3,ee3,hl3,hf3⟩:=look hok3 ht2 hT3;rw [hblk3] at hl3
 -- the round's end
 have fin:∀ (jump:Option Code) (s:Nat),recS r s=.loop { r with state:=if jump.isNone then .ready else .done,pending:=jump }→∀ b:Bool,jump.isNone=b →
   ∃ v w',(Instr.endRound T.blk jump).run P w3=.ok v w'∧∃ v',(Ending.returned v)=.returned v'∧Post gl H w (.bool b) { σ2 with toks:=σ2.toks.set t (s,0,e) } v' w':=by
  intro jump s hs b hb;subst hb;have hr:=run_endRound (P:=P) jump hl3;refine⟨_,_,hr,_,rfl,?_⟩;have hs4:=qMj (s':=s) (r':={ r with state:=if jump.isNone then .ready else .done,pending:=jump }) hok3 hT3 k3 (by rw [ee3,hlp];exact hs) (by rw [ee3];exact hf3)
  rw [ee3,hblk3] at hs4;obtain⟨hev4,hok4⟩:=hs4;exact⟨_,(hev3.trans hev4).setK,hok4.setK _,.bool _⟩
 cases ex with
 |pan x=>cases hokx
 |normal=>exact fin none 0 rfl true rfl
 |ret=>exact fin (some .ret) 2 rfl false rfl
 |exit id =>
  refine fin (some (.exit id)) (3+id) ?_ false rfl;have h1:¬ (3+id=0):=by omega
  have h2:¬ (3+id=1):=by omega
  have h3:¬ (3+id=2):=by omega
  have h4:3≤3+id:=by omega
  simp only [recS,qmC,h1,h2,h3,h4,if_true,if_false,Nat.add_sub_cancel_left];rfl
section
variable {gl : Gl} {H : Gh} {σ : Store} {w w' : World}
theorem qUo (h:Ok gl H σ w) {e s:Nat} {r:Loop} (he:gl.lp e s=.loop r) (hfr:RelL H w (gl.fr e) r.tmps.toList) (hp:∀ n,H.ob.length≤n→qby n (gl.fr e)=gl.fr e) (ht:∀ m,H.tk.length≤m→qbF m (gl.fr e)=gl.fr e) :
  Mono H w { H with tk:=H.tk++[⟨w.heap.size,s,H.ob.length,0,e⟩] } (w.alloc (.loop r))∧Ok gl { H with tk:=H.tk++[⟨w.heap.size,s,H.ob.length,0,e⟩] } { σ with toks:=σ.toks++[(s,0,e)] } (w.alloc (.loop r)) ∧
   (H.tk++[(⟨w.heap.size,s,H.ob.length,0,e⟩:Tok)])[σ.toks.length]?=some ⟨w.heap.size,s,H.ob.length,0,e⟩:=by
 have hb:=qa6 w (.loop r);have hlen:H.tk.length=σ.toks.length:=by rw [← h.tkl];simp
 have hcase:∀ (t:Nat) (T:Tok),(H.tk++[(⟨w.heap.size,s,H.ob.length,0,e⟩:Tok)])[t]?=some T→H.tk[t]?=some T∨(t=H.tk.length∧T=⟨w.heap.size,s,H.ob.length,0,e⟩):=by
  intro t T ht;by_cases htl:t < H.tk.length
  ·rw [List.getElem?_append_left htl] at ht;exact .inl ht
  ·have hlt:=(List.getElem?_eq_some_iff.1 ht).1;have:t=H.tk.length:=by simp at hlt;omega
   subst this;rw [List.getElem?_append_right (Nat.le_refl _)] at ht;simp at ht;exact .inr ⟨rfl,ht.symm⟩
 have hprot:∀ b off,H.prot w b off→({ H with tk:=H.tk++[⟨w.heap.size,s,H.ob.length,0,e⟩] }:Gh).prot (w.alloc (.loop r)) b off:=fun b off hp=>by
  refine⟨Nat.lt_of_lt_of_le hp.1 hb.size,hp.2.1,hp.2.2.1,fun T hT hvv hbk=>?_⟩
  rcases List.mem_append.1 hT with hT|hT
  ·exact hp.2.2.2 T hT hvv hbk
  ·simp at hT;subst hT;have:=hp.1;simp at hbk;omega
 have mo:Mono H w { H with tk:=H.tk++[⟨w.heap.size,s,H.ob.length,0,e⟩] } (w.alloc (.loop r)):=by
  refine⟨fun _ _ h=>h,fun t T ht=>?_,fun b off hp=>⟨hprot b off hp,fun s=>hb.cell (p:=⟨b,off,s⟩) hp.1⟩,fun b off hp=>?_⟩
  ·refine⟨T,?_,.refl T⟩;show (H.tk++[_])[t]?=some T
   rw [List.getElem?_append_left (List.getElem?_eq_some_iff.1 ht).1];exact ht
  ·rcases hp with hp|hp
   ·exact⟨.inl (hprot b off hp),fun s=>hb.cell (p:=⟨b,off,s⟩) hp.1⟩
   ·exact⟨.inr hp,fun s=>hb.cell (p:=⟨b,off,s⟩) (Nat.lt_of_lt_of_le hp.1 h.B)⟩
 refine⟨mo,⟨Nat.le_trans h.B hb.size,fun b o eg=>⟨(h.gl b o eg).1,(hb.block b (qak (h.gl b o eg).2)).trans (h.gl b o eg).2⟩,h.len,fun id b cs e1 e2=>?_,h.nd,by simp [h.tkl],fun t T ht' hvv=>?_,fun t u T U ht hu hvT hvU hbk=>?_,h.tyl,fun id b T' c1 e1 e2 e3 hTT=>?_⟩,?_⟩
 ·obtain⟨hB,vs,ext,T,he,hr⟩:=h.obj id b cs e1 e2;exact⟨hB,vs,ext,T,(hb.block b (qak he)).trans he,hr.mono mo⟩
 ·rcases hcase t T ht' with ht'|⟨rfl,rfl⟩
  ·obtain⟨hB,ho,o,he,hr⟩:=h.tok t T ht' hvv;exact⟨hB,ho,o,(hb.block _ (qak he)).trans he,hr.mono mo⟩
  ·exact⟨h.B,fun hm=>Nat.lt_irrefl _ (h.ob_at hm).2,_,heap_alloc_new w _,.inr ⟨rfl,he.symm,r,rfl,hfr.mono mo,hp,Nat.le_refl _,ht⟩⟩
 ·rcases hcase t T ht with ht|⟨h1,rfl⟩<;>rcases hcase u U hu with hu|⟨h2,rfl⟩
  ·exact h.tnd t u T U ht hu hvT hvU hbk
  ·have:=(h.tk_at (List.mem_of_getElem? ht) hvT).2;simp at hbk;omega
  ·have:=(h.tk_at (List.mem_of_getElem? hu) hvU).2;simp at hbk;omega
  ·rw [h1,h2]
 ·obtain⟨us,he,hs⟩:=h.ty id b T' c1 e1 e2 e3 hTT;exact⟨us,(hb.block b (qak he)).trans he,hs⟩
 ·rw [← hlen,List.getElem?_append_right (Nat.le_refl _)];simp
theorem qD5 {D:Nat} {r r':Loop} (hd:w.heap[D]?=some (.loop r)):Mono H w H (w.putObj D (.loop r')):=by
 have hs:(w.putObj D (.loop r')).heap.size=w.heap.size:=qbO ..;have hlt:=qak hd;have hc:∀ b off s,(w.putObj D (.loop r')).cell? ⟨b,off,s⟩=w.cell? ⟨b,off,s⟩:=fun b off s=>by
  by_cases e:b=D
  ·subst e;simp only [World.cell?,World.putObj_heap_same hlt,hd]
  ·exact World.cell?_of_block (a:=⟨b,off,s⟩) (World.putObj_heap_other e)
 refine⟨fun _ _ h=>h,fun t T h=>⟨T,h,.refl T⟩,fun b off hp=>⟨⟨by rw [hs];exact hp.1,hp.2⟩,hc b off⟩,fun b off hp=>⟨?_,hc b off⟩⟩
 rcases hp with hp|hp
 ·exact .inl ⟨by rw [hs];exact hp.1,hp.2⟩
 ·exact .inr hp
theorem qUp {D:Nat} {r r':Loop} (h:Ok gl H σ w) (hB:H.B≤D) (hd:w.heap[D]?=some (.loop r)) (hn:∀ (t:Nat) (T:Tok),H.tk[t]?=some T→¬ T.vir→T.blk≠D):Ok gl H σ (w.putObj D (.loop r')) where
 B:=by rw [qbO];exact h.B
 gl:=fun b o e=>⟨(h.gl b o e).1,(World.putObj_heap_other (by have:=(h.gl b o e).1;omega)).trans (h.gl b o e).2⟩
 len:=h.len
 obj:=fun id b cs e1 e2=>by
  obtain⟨h1,vs,ext,T,he,hr⟩:=h.obj id b cs e1 e2;have hne:b≠D:=fun e=>by subst e;rw [he] at hd;cases hd
  exact⟨h1,vs,ext,T,(World.putObj_heap_other hne).trans he,hr.mono (qD5 hd)⟩
 nd:=h.nd
 tkl:=h.tkl
 tok:=fun t T e hvv=>by
  obtain⟨h1,h2,o,he,ho⟩:=h.tok t T e hvv;exact⟨h1,h2,o,(World.putObj_heap_other (hn t T e hvv)).trans he,ho.mono (qD5 hd)⟩
 tnd:=h.tnd
 tyl:=h.tyl
 ty:=fun id b T cs e1 e2 e3 hT=>by
  obtain⟨us,he,hs⟩:=h.ty id b T cs e1 e2 e3 hT;have hne:b≠D:=fun e=>by subst e;rw [he] at hd;cases hd
  exact⟨us,(World.putObj_heap_other hne).trans he,hs⟩
end
theorem qJc {P:Program} {gl:Gl} {g:Operand} {ps:Array Tmp} {assign body:Code} {fr:List PV} {σ:Store} {gf:FuncId} {caps:List PV} (hg:ev fr g=.fn gf caps) (eid:Nat)
  (hent : ∃ fn, P.funcs[gf]? = some fn ∧ (fn.name == "runtime.NumGoroutine") = false ∧ fn.body.isNone = false)
  {Y:Nat→List PV→Store→Option (PV×Store)} {D:List PV→Store→Option (PV×Store)}
  (hfresh:∀ (i v k e:Nat),σ.toks[i]?=some (v,k,e)→k=0→e≠eid) (hpd:∀ n,σ.objs.length≤n→qby n fr=fr) (htd:∀ m,σ.toks.length≤m→qbF m fr=fr)
  (hI:∀ gl':Gl,gl'.v=gl.v→qsj P gl' qeM (.yld eid Y)→SimS P gl' gf D)
  (hY:∀ gl':Gl,gl'.v=gl.v→∀ t args σ x σ',Y t args σ=some (x,σ')→∃ fr1 σ1 ex fr2 σ2,args.length=ps.size∧Does P gl' assign (puts fr ps.toList args) σ .normal fr1 σ1∧σ1.toks[t]?=some (0,0,eid) ∧
   Does P gl' body fr1 { σ1 with toks:=σ1.toks.set t (1,0,eid) } ex fr2 σ2∧σ2.toks[t]?=some (1,0,eid)∧okEx ex=true∧x=.bool (isNo ex)∧σ'={ σ2 with toks:=σ2.toks.set t (stOf ex,0,eid) })
  {x:PV} {σ2:Store} {s:Nat} (hD:D (.yld σ.toks.length::caps) { σ with toks:=σ.toks++[(0,0,eid)] }=some (x,σ2)) (hs:σ2.toks[σ.toks.length]?=some (s,0,eid)) (hs1:s≠1) :
  Does P gl (.rangeFunc g ps assign body) fr σ (exOf s) fr (qeI σ.toks.length σ2):=by
 intro r n H0 w0 hR Q a w hst hq;obtain⟨H,hev,hok,hfr,hmk⟩:=hst;have hHt:H.tk.length=σ.toks.length:=by rw [← hok.tkl];simp
 have hrg:=qaL hfr g;rw [hg] at hrg;generalize hv:a.eval g=gv at hrg;cases hrg with
 |fn _ _ lb hcaps =>
 refine wpIn_rangeFunc ?_;intro fn hfn
 -- entering: the record;at an outermost loop the block of the rounds' deferred calls
 obtain⟨mark,W0,rec,hent',hb0,hdr0,hrecf,hmark⟩:∃ (mark:List Deferred) (W0:World) (rec:Loop),(Instr.enterLoop fn a.tmps ps assign body (rnd r).round).run P w=.ok (W0.heap.size,mark) (W0.alloc (.loop rec)) ∧
   Below w.heap.size w W0∧W0.drawn=w.drawn∧(rec.state=.ready∧rec.pending=none∧rec.tmps=a.tmps∧rec.params=ps∧rec.assign=assign∧rec.body=body)∧Marks H.K (mark++a.defers) W0:=by
  cases r with
  |none =>
   refine⟨[{ target:=.collected w.heap.size,args:=#[] }],w.alloc (.deferred (some [])),{ state:=.ready,pending:=none,fn,tmps:=a.tmps,params:=ps,assign,body,defers:=w.heap.size },?_,qa6 w _,rfl,⟨rfl,rfl,rfl,rfl,rfl,rfl⟩,?_⟩
   ·have:=run_enterLoop_outer (P:=P) (w:=w) fn a.tmps ps assign body;rw [show w.heap.size+1=(w.alloc (.deferred (some []))).heap.size from by simp] at this
    exact this
   ·obtain⟨k1,Ds,k2,k3,k4⟩:=hmk;refine⟨Nat.le_trans k1 (by simp),w.heap.size::Ds,by rw [k2];rfl,List.nodup_cons.2 ⟨fun hm=>?_,k3⟩,fun D' hD'=>?_⟩
    ·have:=qak (k4 _ hm).2;omega
    ·cases hD' with
     |head=>exact⟨k1,World.alloc_heap_new w _⟩
     |tail _ hD'=>exact⟨(k4 D' hD').1,((qa6 w _).block D' (qak (k4 D' hD').2)).trans (k4 D' hD').2⟩
  |some l0 =>
   obtain⟨t0,T0,ht0,hk0,rfl⟩:=hR.ev hev l0 rfl;obtain⟨_,_,o,ho,hTO⟩:=hok.tok t0 T0 ht0 (fun hh=>hh.2 hk0)
   obtain⟨r0,rfl⟩:∃ r0,o=.loop r0:=by
    rcases hTO with⟨h1,_⟩|⟨_,_,r0,h3,_⟩
    ·exact absurd hk0 h1
    ·exact⟨r0,h3⟩
   exact⟨[],w,{ state:=.ready,pending:=none,fn,tmps:=a.tmps,params:=ps,assign,body,defers:=r0.defers },run_enterLoop_inner ho fn a.tmps ps assign body,Below.refl _ w,rfl,⟨rfl,rfl,rfl,rfl,rfl,rfl⟩,hmk⟩
 obtain⟨q1,q2,q3,q4,q5,q6⟩:=hrecf
 -- the world with the record
 obtain⟨gl',hgl'⟩:∃ gl',gl'=glR gl eid rec fr:=⟨_,rfl⟩;have hgv:gl'.v=gl.v:=by rw [hgl'];rfl
 have hglp:gl'.lp eid=recS rec:=by rw [hgl'];simp [glR]
 have hgfr:gl'.fr eid=fr:=by rw [hgl'];simp [glR]
 have hother:∀ e,e≠eid→gl'.lp e=gl.lp e∧gl'.fr e=gl.fr e:=fun e he=>by rw [hgl'];constructor<;>simp [glR,he]
 have hfreshT:∀ (t:Nat) (T:Tok),H.tk[t]?=some T→T.k=0→T.e≠eid:=fun t T hT hk=>by
  refine hfresh t T.ver T.k T.e ?_ hk;rw [← hok.tkl,List.getElem?_map,hT];rfl
 have hok0:Ok gl' H σ W0:=(hok.of_below hb0).lp hgv fun t T hT hk=>hother T.e (hfreshT t T hT hk)
 have hm0:Mono H w H W0:=Mono.of_below hok.B hb0;have hrs:gl'.lp eid 0=.loop rec:=by
  rw [hglp];unfold recS qmC;simp only [if_true];rw [← q1,if_neg (by omega:¬ (0=2)),if_neg (by omega:¬ (3≤0)),← q2]
 obtain⟨hm1,hok1,hT1⟩:=qUo (e:=eid) (s:=0) hok0 hrs (by rw [hgfr,q3];exact hfr.mono hm0) (by rw [hgfr];intro n hn;exact hpd n (by rw [← hok.len];exact hn)) (by rw [hgfr];intro m hm;exact htd m (by rw [← hHt];exact hm))
 obtain⟨T,hT⟩:∃ T:Tok,T=⟨W0.heap.size,0,H.ob.length,0,eid⟩:=⟨_,rfl⟩;obtain⟨H1,hH1⟩:∃ H1:Gh,H1={ H with tk:=H.tk++[T] }:=⟨_,rfl⟩
 rw [← hT] at hm1 hok1 hT1;rw [← hH1] at hm1 hok1;obtain⟨W1,hW1⟩:∃ W1,W1=W0.alloc (.loop rec):=⟨_,rfl⟩;rw [← hW1] at hm1 hok1;have hb1:Below w.heap.size w W1:=by rw [hW1];exact hb0.alloc hb0.size _
 -- the call
 have hcon:qsj P gl' qeM (.yld eid Y):=qWc (r:=rec) hglp (by rw [hgfr,q4,q5,q6];exact hY gl' hgv)
 have hS:=hI gl' hgv hcon;have hyr:Rel H1 W1 (.yld σ.toks.length) (.func (.yield W0.heap.size) #[] #[]):=by
  have:=Rel.yld (H:=H1) (w:=W1) σ.toks.length T (by rw [hH1];exact hT1) (by rw [hT])
  rw [show T.blk=W0.heap.size from by rw [hT]] at this
  exact this
 have hcall:=hS.run _ _ _ _ hD H1 W1 (.func (.yield W0.heap.size) #[] #[]::lb) hok1 (.cons _ _ _ _ hyr (hcaps.mono (hm0.trans hm1)));obtain⟨gfn,hgf,hgn,hgb⟩:=hent;refine⟨W0.heap.size,mark,W1,{ target:=.fn (.func gf) lb.toArray,args:=#[.func (.yield W0.heap.size) #[] #[]] },W1,gf,(.func (.yield W0.heap.size) #[] #[]::lb).toArray,W1,by rw [hW1];exact hent',?_,fun _ _=>trivial,?_,(fun h=>by cases h),?_⟩
 ·simp only [resolve,hv];simp [go_sem]
 ·have e1:(#[(Value.func (.yield W0.heap.size) #[] #[])]:Array Value)++lb.toArray=(Value.func (.yield W0.heap.size) #[] #[]::lb).toArray:=by
   apply Array.ext';simp
  simp only [invoke,callFunc,Sem.run_bind,run_program,Result.andThen_ok,hgf,hgn,hgb,Bool.false_eq_true,if_false,Sem.run_pure,e1]
 ·refine CallsIn.mono (qnP hcall) ?_;rintro e w3 ⟨v,rfl,H2,hevI,hok2,hv2⟩
  -- behind the function
  have hsz2:σ2.toks.length=H2.tk.length:=by rw [← hok2.tkl];simp
  obtain⟨T2,hT2,hu2⟩:=hevI.tok σ.toks.length T (by rw [hH1];exact hT1)
  obtain⟨k2,blk2,ee2,cap2⟩:=hu2.lp (by rw [hT])
  have ev2:T2.ver=s∧T2.e=eid:=by
   have:(T2.ver,T2.k,T2.e)=(s,0,eid):=by
    rw [← hok2.tkl,List.getElem?_map,hT2] at hs;simpa using hs
   simp only [Prod.mk.injEq] at this;exact⟨this.1,this.2.2⟩
  have blk2':T2.blk=W0.heap.size:=by rw [blk2,hT]
  have hT2nv:¬ T2.vir:=fun hh=>hh.2 k2
  obtain⟨hB2,_,o2,ho2,hTO2⟩:=hok2.tok _ T2 hT2 hT2nv;have hl2:w3.heap[W0.heap.size]?=some (recS rec s):=by
   rcases hTO2 with⟨h1,_⟩|⟨_,h2,_⟩
   ·exact absurd k2 h1
   ·rw [ev2.1,ev2.2,hglp] at h2;rw [← blk2',ho2,h2]
  rw [blk2'] at hB2;have hBl:H.B≤W0.heap.size:=by rw [hevI.B,hH1] at hB2;exact hB2
  have hend:=run_endLoop (P:=P) (w:=w3) (l:=W0.heap.size) (r:={ rec with state:=if s=0 then .ready else if s=1 then .busy else .done,pending:=qmC s }) hl2 (by
   by_cases h0:s=0
   ·simp [h0]
   ·simp [h0,hs1])
  obtain⟨rx,hrx⟩:∃ rx:Loop,rx={ rec with state:=.exhausted,pending:=qmC s }:=⟨_,rfl⟩
  obtain⟨w4,hw4⟩:∃ w4,w4=w3.putObj W0.heap.size (.loop rx):=⟨_,rfl⟩;have hend':(Instr.endLoop W0.heap.size).run P w3=.ok (qmC s) w4:=by rw [hw4,hrx];exact hend
  -- the record is forgotten
  have hsz4:w4.heap.size=w3.heap.size:=by rw [hw4];exact qbO ..
  have hle1:w.heap.size≤W0.heap.size:=hb0.size;have hoth:∀ b,b≠W0.heap.size→w4.heap[b]?=w3.heap[b]?:=fun b hb=>by rw [hw4];exact World.putObj_heap_other hb
  have hH1t:∀ u,u < σ.toks.length→H1.tk[u]?=H.tk[u]?:=fun u hu=>by
   rw [hH1];show (H.tk++[T])[u]?=H.tk[u]?
   rw [List.getElem?_append_left (by omega)]
  have htrim:∀ u U,(H2.trim σ.toks.length).tk[u]?=some U→u < σ.toks.length∧H2.tk[u]?=some U:=fun u U hu=>qct hu
  have hokt:=qEP (m:=σ.toks.length) hok2;have hnb:∀ (u:Nat) (U:Tok),(H2.trim σ.toks.length).tk[u]?=some U→¬ U.vir→U.blk≠W0.heap.size:=fun u U hu hvU e=>by
   obtain⟨h1,h2⟩:=htrim u U hu;have:=hok2.tnd u σ.toks.length U T2 h2 hT2 hvU hT2nv (by rw [e,blk2'])
   omega
  have hok4:Ok gl' (H2.trim σ.toks.length) (qeI σ.toks.length σ2) w4:=by
   rw [hw4];exact qUp hokt (by show H2.B≤_;rw [hevI.B,hH1];exact hBl) hl2 hnb
  have hold:∀ (u:Nat) (U:Tok),(H2.trim σ.toks.length).tk[u]?=some U→U.k=0→∃ U0,H.tk[u]?=some U0∧U0.k=0∧U.e=U0.e:=fun u U hu hk=>by
   obtain⟨h1,h2⟩:=htrim u U hu;obtain⟨U0,g1,g2⟩:=hevI.old u U h2 hk;obtain⟨U1,g3,g4⟩:=hevI.tok u U0 g1;rw [h2] at g3;cases g3
   rw [hH1t u h1] at g1;exact⟨U0,g1,g2,(g4.lp g2).2.2.1⟩
  have hok5:Ok gl (H2.trim σ.toks.length) (qeI σ.toks.length σ2) w4:=hok4.lp hgv.symm fun u U hu hk=>by
   obtain⟨U0,g1,g2,g3⟩:=hold u U hu hk;have:=hother U.e (by rw [g3];exact hfreshT u U0 g1 g2)
   exact⟨this.1.symm,this.2.symm⟩
  have hev5:Ev gl H w (H2.trim σ.toks.length) w4:=by
   refine⟨hevI.B.trans (by rw [hH1]),hevI.base.trans (by rw [hH1]),hevI.aux.trans (by rw [hH1]),hevI.K.trans (by rw [hH1]),?_,?_,?_,?_,fun id b hb=>hevI.ob id b (by rw [hH1];exact hb),fun u U hu=>?_,fun b off hp=>?_,fun b hb hno=>?_,?_,fun b ds hb=>?_,fun u U hu hk=>?_,fun b hb=>(hevI.obn b hb).elim (fun hm=>.inl (by rw [hH1] at hm;exact hm)) (fun e=>.inr (by rw [hH1] at e;exact e))⟩
   ·rw [hw4];exact hevI.os.trans hb1.os
   ·rw [hw4];exact hevI.tape.trans hb1.tape
   ·rw [hw4];exact hevI.output.trans hb1.output
   ·rw [hsz4];exact Nat.le_trans hb1.size hevI.size
   ·have hlt:u < σ.toks.length:=by have:=(List.getElem?_eq_some_iff.1 hu).1;omega
    obtain⟨U',g1,g2⟩:=hevI.tok u U (by rw [hH1t u hlt];exact hu)
    exact⟨U',by simp only [Gh.trim];rw [List.getElem?_take,if_pos hlt];exact g1,g2⟩
   ·have hbne:b≠W0.heap.size:=fun e=>by have:=hp.1;omega
    obtain⟨p1,c1⟩:=(hm0.trans hm1).prot b off hp;obtain⟨p2,c2⟩:=hevI.prot b off p1;have p3:=qkz (m:=σ.toks.length) p2;exact⟨⟨by rw [hsz4];exact p3.1,p3.2⟩,fun s=>(World.cell?_of_block (a:=⟨b,off,s⟩) (hoth b hbne)).trans ((c2 s).trans (c1 s))⟩
   ·exact (hoth b (by omega)).trans ((hevI.block b (by rw [hH1];exact hb) (by rw [hH1];exact hno)).trans (hb1.block b (Nat.lt_of_lt_of_le hb hok.B)))
   ·intro hg;have h1:w.drawn≤W1.drawn:=by rw [hW1];show w.drawn≤W0.drawn;rw [hdr0];exact Nat.le_refl _
    have h2:=hevI.dr (fun b=>by rw [hgv];exact hg b)
    rw [hw4];exact Nat.le_trans h1 h2
   ·have hlt:=qak hb;exact (hoth b (by omega)).trans (hevI.fix b ds ((hb1.block b hlt).trans hb))
   ·obtain⟨U0,g1,g2,_⟩:=hold u U hu hk;exact⟨U0,g1,g2⟩
  have hmk5:Marks (H2.trim σ.toks.length).K (mark++a.defers) w4:=by
   obtain⟨m1,Ds,m2,m3,m4⟩:=hmark;refine⟨?_,Ds,by rw [hev5.K];exact m2,m3,fun D' hD'=>⟨?_,?_⟩⟩
   ·rw [hev5.K];exact Nat.le_trans m1 (by rw [hsz4];refine Nat.le_trans ?_ hevI.size;rw [hW1];simp)
   ·rw [hev5.K];exact (m4 D' hD').1
   ·have hlt:=qak (m4 D' hD').2;refine (hoth D' (by omega)).trans (hevI.fix D' _ ?_)
    rw [hW1];exact ((qa6 W0 _).block D' hlt).trans (m4 D' hD').2
  have hst5:St gl H0 w0 fr (qeI σ.toks.length σ2) { a with defers:=mark++a.defers } w4:=⟨_,hev.trans hev5,hok5,hfr.mono hev5.mono,hmk5⟩
  have hfin:=hq _ _ hst5;refine⟨qmC s,w4,hend',?_⟩;unfold exOf at hfin;unfold qmC;by_cases h2:s=2
  ·simp only [h2,if_true] at hfin ⊢;exact wpIn_ret hfin
  ·by_cases h3:3≤s
   ·simp only [h2,h3,if_true,if_false] at hfin ⊢;exact wpIn_exit hfin
   ·simp only [h2,h3,if_false] at hfin ⊢;exact hfin
end Go.Pv
set_option linter.unusedSimpArgs false
set_option linter.unusedVariables false
namespace Go.Pv
open Go.RowKit Tr
mutual
def qqD (n m:Nat):PV→Bool
 |.ptr id _=>Nat.blt id n
 |.osl id _ _ _=>Nat.blt id n
 |.yld t=>Nat.blt t m
 |.sl _ _=>false
 |.ref cs=>qoa n m cs
 |.fn _ cs=>qoa n m cs
 |.mth _ cs=>qoa n m cs
 |.iface _ v=>qqD n m v
 |.agg cs=>qoa n m cs
 |.tup cs=>qoa n m cs
 |_=>true
def qoa (n m:Nat):List PV→Bool
 |[]=>true
 |x::xs=>qqD n m x&&qoa n m xs
end
mutual
theorem qIc {n m:Nat}:∀ {x:PV},qqD n m x=true→(∀ n',n≤n'→qbX n' x=x)∧∀ m',m≤m'→dropT m' x=x
 |.top,_=>⟨fun _ _=>rfl,fun _ _=>rfl⟩
 |.bool _,_=>⟨fun _ _=>rfl,fun _ _=>rfl⟩
 |.int _ _,_=>⟨fun _ _=>rfl,fun _ _=>rfl⟩
 |.str _,_=>⟨fun _ _=>rfl,fun _ _=>rfl⟩
 |.nilp,_=>⟨fun _ _=>rfl,fun _ _=>rfl⟩
 |.nilf,_=>⟨fun _ _=>rfl,fun _ _=>rfl⟩
 |.nili,_=>⟨fun _ _=>rfl,fun _ _=>rfl⟩
 |.ptr id off,h=>by
  have h:id < n:=by simpa [qqD] using h
  refine⟨fun n' hn=>?_,fun _ _=>rfl⟩
  simp only [qbX];rw [show decide (id < n')=true from by simp;omega]
  rfl
 |.osl id off len k,h=>by
  have h:id < n:=by simpa [qqD] using h
  refine⟨fun n' hn=>?_,fun _ _=>rfl⟩
  simp only [qbX];rw [show decide (id < n')=true from by simp;omega]
  rfl
 |.yld t,h=>by
  have h:t < m:=by simpa [qqD] using h
  refine⟨fun _ _=>rfl,fun m' hm=>?_⟩
  simp only [dropT];rw [show decide (t < m')=true from by simp;omega]
  rfl
 |.sl _ _,h=>by simp [qqD] at h
 |.ref cs,h=>by
  simp only [qqD] at h
  have:=qfW h;exact⟨fun n' hn=>by simp only [qbX];rw [this.1 n' hn],fun m' hm=>by simp only [dropT];rw [this.2 m' hm]⟩
 |.fn f cs,h=>by
  simp only [qqD] at h
  have:=qfW h;exact⟨fun n' hn=>by simp only [qbX];rw [this.1 n' hn],fun m' hm=>by simp only [dropT];rw [this.2 m' hm]⟩
 |.mth f cs,h=>by
  simp only [qqD] at h
  have:=qfW h;exact⟨fun n' hn=>by simp only [qbX];rw [this.1 n' hn],fun m' hm=>by simp only [dropT];rw [this.2 m' hm]⟩
 |.iface t v,h=>by
  simp only [qqD] at h
  have:=qIc h;exact⟨fun n' hn=>by simp only [qbX];rw [this.1 n' hn],fun m' hm=>by simp only [dropT];rw [this.2 m' hm]⟩
 |.agg cs,h=>by
  simp only [qqD] at h
  have:=qfW h;exact⟨fun n' hn=>by simp only [qbX];rw [this.1 n' hn],fun m' hm=>by simp only [dropT];rw [this.2 m' hm]⟩
 |.tup cs,h=>by
  simp only [qqD] at h
  have:=qfW h;exact⟨fun n' hn=>by simp only [qbX];rw [this.1 n' hn],fun m' hm=>by simp only [dropT];rw [this.2 m' hm]⟩
theorem qfW {n m:Nat}:∀ {xs:List PV},qoa n m xs=true→(∀ n',n≤n'→qby n' xs=xs)∧∀ m',m≤m'→qbF m' xs=xs
 |[],_=>⟨fun _ _=>rfl,fun _ _=>rfl⟩
 |x::xs,h=>by
  simp only [qoa,Bool.and_eq_true] at h
  have h1:=qIc h.1;have h2:=qfW h.2;exact⟨fun n' hn=>by simp only [qby];rw [h1.1 n' hn,h2.1 n' hn],fun m' hm=>by simp only [qbF];rw [h1.2 m' hm,h2.2 m' hm]⟩
end
def qSr:PV→PV→Bool
 |.top,.top=>true
 |.nilp,.nilp=>true
 |.ptr a b,.ptr c d=>Nat.beq a c&&Nat.beq b d
 |_,_=>false
def qIf:List PV→List PV→Bool
 |[],[]=>true
 |x::xs,y::ys=>qSr x y&&qIf xs ys
 |_,_=>false
theorem qPQ:∀ {x y:PV},qSr x y=true→x=y:=by
 intro x y h;unfold qSr at h
 split at h
 ·rfl
 ·rfl
 ·simp only [Bool.and_eq_true] at h
  rw [Nat.eq_of_beq_eq_true h.1,Nat.eq_of_beq_eq_true h.2]
 ·cases h
theorem qC8:∀ {xs ys:List PV},qIf xs ys=true→xs=ys
 |[],[],_=>rfl
 |x::xs,y::ys,h=>by
  simp only [qIf,Bool.and_eq_true] at h
  rw [qPQ h.1,qC8 h.2]
 |[],_::_,h=>by cases h
 |_::_,[],h=>by cases h
structure RI where
 nt:Nat
 ss:List Nat
 bs:List Nat
 vs:List PV
 ps:List Nat
 e:Nat
def RI.fr (I:RI):List PV:=Go.Pv.mk I.nt (I.bs.zip I.vs)
def qJW (k:Nat):Code→Option Code
 |.seq a b=>match qJW k a with
  |some c=>some c
  |none=>qJW k b
 |.cond _ a b=>match qJW k a with
  |some c=>some c
  |none=>qJW k b
 |.block _ c=>qJW k c
 |.rangeFunc g ps x y=>if rfid x y=k then some (.rangeFunc g ps x y) else none
 |_=>none
def rngC (fn:Func) (k:Nat):Code:=match fn.body with
 |some c=>(qJW k c).getD .skip
 |none=>.skip
def rngX:Code→Code
 |.rangeFunc _ _ x _=>x
 |_=>.skip
def rngY:Code→Code
 |.rangeFunc _ _ _ y=>y
 |_=>.skip
def rngG:Code→Operand
 |.rangeFunc g _ _ _=>g
 |_=>.tmp 0
def rngP:Code→Array Tmp
 |.rangeFunc _ ps _ _=>ps
 |_=>#[]
def rngO (c:Code):Code:=.rangeFunc (rngG c) (rngP c) (rngX c) (rngY c)
def qoC (n:Nat) (σ:Store):Store:=if σ.objs.length≤n then σ else dropS n σ
def trimR (n m:Nat) (σ:Store):Store :=
 if (qoC n σ).toks.length≤max m (qsc (qoC n σ).objs) then qoC n σ else qeI (max m (qsc (qoC n σ).objs)) (qoC n σ)
def qDY (tb:Tab) (G:GamT) (L:LpsT) (I:RI) (x y:Code) (t:Nat) (args:List PV) (σ:Store):Tr (Bool×Store) :=
 if args.length=I.ps.length then
  bind (texec tb G L x [] (puts I.fr I.ps args) σ) fun r=>match r.1 with
   |.normal=>match r.2.2.2.toks[t]? with
    |some (0,0,e)=>if e=I.e then
      bind (texec tb G L y [] r.2.2.1 { r.2.2.2 with toks:=r.2.2.2.toks.set t (1,0,I.e) }) fun q=>match q.2.2.2.toks[t]? with
       |some (1,0,e)=>if e=I.e then (match okEx q.1 with|true=>.ret (isNo q.1,{ q.2.2.2 with toks:=q.2.2.2.toks.set t (stOf q.1,0,I.e) })|false=>.fail) else .fail
       |_=>.fail
     else .fail
    |_=>.fail
   |_=>.fail
 else .fail
def rtree (tb:Tab) (G:GamT) (L:LpsT) (I:RI) (x y:Code) (t:Nat) (args:List PV) (σ:Store):Tr (PV×Store) :=
 bind (qDY tb G L I x y t args σ) fun r=>.ret (.bool r.1,trimR σ.objs.length σ.toks.length r.2)
def qIB (e:Nat):List (Nat×Nat×TypeId)→Bool
 |[]=>true
 |(_,k,e')::l=>(!Nat.beq k 0 || !Nat.beq e' e)&&qIB e l
theorem qC1 {e:Nat}:∀ {l:List (Nat×Nat×TypeId)},qIB e l=true→∀ (i v k e':Nat),l[i]?=some (v,k,e')→k=0→e'≠e
 |[],_,i,v,k,e',h,_=>by cases i<;>cases h
 |(v0,k0,e0)::l,h,i,v,k,e',hi,hk=>by
  simp only [qIB,Bool.and_eq_true] at h
  cases i with
  |zero =>
   cases hi
   subst hk;intro e1;subst e1;simp at h
  |succ i=>exact qC1 h.2 i v k e' hi hk
def rorc (I:RI) (g:Operand) (gf:FuncId) (D:List PV→Store→Tr (PV×Store)) (fr:List PV) (σ:Store):Tr (PExit×List PV×Store) :=
 if fr.length=I.nt then
  match ev (mk I.nt (I.ss.zip (rsl I.ss fr))) g with
  |.fn f caps =>
   if f=gf then
    if qIf (rsl I.bs (mk I.nt (I.ss.zip (rsl I.ss fr)))) I.vs&&qIB I.e σ.toks&&qoa σ.objs.length σ.toks.length (mk I.nt (I.ss.zip (rsl I.ss fr))) then
     bind (D (.yld σ.toks.length::caps) { σ with toks:=σ.toks++[(0,0,I.e)] }) fun r=>match r.2.toks[σ.toks.length]? with
      |some (s,0,e)=>if e=I.e then if s=1 then .fail else .ret (exOf s,mk I.nt (I.ss.zip (rsl I.ss fr)),qoC σ.objs.length (qeI σ.toks.length r.2)) else .fail
      |_=>.fail
    else .fail
   else .fail
  |_=>.fail
 else .fail
theorem qgM {α β:Type} (f:α→β):∀ (t:Tr α),(bind t fun r=>.ret (f r)).run=t.run.map f
 |.ret a=>rfl
 |.fail=>rfl
 |.ite b x y=>by
  simp only [Tr.bind,Tr.run_ite];cases b<;>simp [qgM f x,qgM f y]
 |.get xs i z k=>by
  simp only [Tr.bind,Tr.run_get];cases xs[i]? with
  |none=>rfl
  |some cs=>exact qgM f (k cs)
section
variable {P : Program} {tb : Tab} {gl : Gl}
theorem Does.into {c:Code} {fr fr1:List PV} {σ:Store} {e:PExit} {fr':List PV} {σ':Store} (hw:Weak fr fr1) (h:Does P gl c fr1 σ e fr' σ'):Does P gl c fr σ e fr' σ' :=
 fun r n H0 w0 hR Q a w hst hq=>h r n H0 w0 hR Q a w (qBp hw hst) hq
theorem qyV (l:List (Nat×PV)):∀ (n i:Nat),(qbN l n i).length=n
 |0,_=>rfl
 |n+1,i=>by simp [qbN,qyV l n (i+1)]
theorem qVm (n:Nat) (l:List (Nat×PV)):(mk n l).length=n:=qyV l n 0
theorem Weak.set:∀ {xs ys:List PV} (i:Nat) (x:PV),Weak xs ys→Weak (xs.set i x) (ys.set i x)
 |[],[],_,_,_=>trivial
 |a::xs,b::ys,0,x,h=>⟨.inr rfl,h.2⟩
 |a::xs,b::ys,i+1,x,h=>⟨h.1,Weak.set i x h.2⟩
 |[],_::_,_,_,h=>by cases h
 |_::_,[],_,_,h=>by cases h
theorem Weak.puts:∀ (ps:List Tmp) (zs:List PV) {xs ys:List PV},Weak xs ys→Weak (puts xs ps zs) (puts ys ps zs)
 |[],_,_,_,h=>by simpa [Go.Pv.puts] using h
 |_::_,[],_,_,h=>by simpa [Go.Pv.puts] using h
 |p::ps,a::zs,xs,ys,h=>by
  simp only [Go.Pv.puts];exact Weak.puts ps zs (h.set p a)
theorem qNF {G:GamT} {L:LpsT} {I:RI} {x y:Code} (hT:qaN P tb) (hΓ:qal P gl (gam G)) (hm:P.follows .mixedOrders=true) (hLx:qbe P gl (lps L) x) (hLy:qbe P gl (lps L) y) (hdx:qaH (gam G) x=true) (hdy:qaH (gam G) y=true)
  {t:Nat} {args:List PV} {σ:Store} {b:Bool} {σ':Store} (h:(qDY tb G L I x y t args σ).run=some (b,σ')) {fr:List PV} (hw:Weak fr I.fr) :
  ∃ fr1 σ1 ex fr2 σ2,args.length=I.ps.length∧Does P gl x (puts fr I.ps args) σ .normal fr1 σ1∧σ1.toks[t]?=some (0,0,I.e) ∧
   Does P gl y fr1 { σ1 with toks:=σ1.toks.set t (1,0,I.e) } ex fr2 σ2∧σ2.toks[t]?=some (1,0,I.e)∧okEx ex=true∧b=isNo ex∧σ'={ σ2 with toks:=σ2.toks.set t (stOf ex,0,I.e) }:=by
 unfold qDY at h
 split at h
 ·rename_i hl;obtain⟨⟨e1,kn1,fr1,σ1⟩,h1,h2⟩:=bind_some h;have d1:=Does.into (Weak.puts I.ps args hw) (Does.of_tree hT hΓ hm hLx hdx h1);simp only at h2;cases e1 with
  |normal =>
   simp only at h2;split at h2
   ·rename_i e ht;split at h2
    ·rename_i hee;subst hee;obtain⟨⟨ex,kn2,fr2,σ2⟩,h3,h4⟩:=bind_some h2;have d2:=Does.of_tree hT hΓ hm hLy hdy h3;simp only at h4;split at h4
     ·rename_i e ht2;split at h4
      ·rename_i hee;split at h4
       ·rename_i hox;simp only [Tr.run_ret,Option.some.injEq,Prod.mk.injEq] at h4;refine⟨fr1,σ1,ex,fr2,_,hl,d1,ht,d2,?_,hox,h4.1.symm,h4.2.symm⟩;rw [ht2,hee]
       ·cases h4
      ·cases h4
     ·cases h4
    ·cases h2
   ·cases h2
  |exit j=>cases h2
  |ret=>cases h2
  |pan x=>cases h2
 ·cases h
theorem Post.dropS {H:Gh} {σ σ':Store} {w w':World} {b:Bool} {v:Value} {n:Nat} (hok:Ok gl H σ w) (hn:σ.objs.length≤n) (h:Post gl H w (.bool b) σ' v w'):Post gl H w (.bool b) (Go.Pv.dropS n σ') v w':=by
 obtain⟨H',hev,hok',hx⟩:=h;have hn':H.ob.length≤n:=by rw [hok.len];exact hn
 refine⟨H'.keep n,⟨hev.B,hev.base,hev.aux,hev.K,hev.os,hev.tape,hev.output,hev.size,fun id b hid=>?_,hev.tok,fun b off hp=>⟨qoP (hev.prot b off hp).1,(hev.prot b off hp).2⟩,hev.block,hev.dr,hev.fix,hev.old,fun b hb=>hev.obn b (List.mem_of_mem_take hb)⟩,qNI hok' (fun t T e hk=>?_),?_⟩
 ·simp only [Gh.keep];rw [List.getElem?_take,if_pos (Nat.lt_of_lt_of_le (List.getElem?_eq_some_iff.1 hid).1 hn')];exact hev.ob id b hid
 ·obtain⟨T0,e0,k0⟩:=hev.old t T e hk;obtain⟨T1,e1,u⟩:=hev.tok t T0 e0;rw [e] at e1;cases e1
  rw [(u.lp k0).2.2.2];obtain⟨_,_,o,_,ho⟩:=hok.tok t T0 e0 (fun hh=>hh.2 k0)
  rcases ho with⟨h1,_⟩|⟨_,_,r,_,_,_,h6,_⟩
  ·exact absurd k0 h1
  ·omega
 ·cases hx
  exact .bool b
theorem Post.dropT {H:Gh} {σ σ':Store} {w w':World} {b:Bool} {v:Value} {m:Nat} (hok:Ok gl H σ w) (hm:σ.toks.length≤m) (h:Post gl H w (.bool b) σ' v w'):Post gl H w (.bool b) (qeI m σ') v w':=by
 obtain⟨H',hev,hok',hx⟩:=h;have hl:H.tk.length≤m:=by
  have:=congrArg List.length hok.tkl;simp at this;omega
 refine⟨H'.trim m,⟨hev.B,hev.base,hev.aux,hev.K,hev.os,hev.tape,hev.output,hev.size,hev.ob,fun t T ht=>?_,fun b off hp=>⟨qkz (hev.prot b off hp).1,(hev.prot b off hp).2⟩,hev.block,hev.dr,hev.fix,fun t T e hk=>hev.old t T (qct e).2 hk,hev.obn⟩,qEP hok',?_⟩
 ·obtain⟨T',h1,h2⟩:=hev.tok t T ht;refine⟨T',?_,h2⟩;simp only [Gh.trim];rw [List.getElem?_take,if_pos (Nat.lt_of_lt_of_le (List.getElem?_eq_some_iff.1 ht).1 hl)];exact h1
 ·cases hx
  exact .bool b
theorem Post.trimR {H:Gh} {σ σ':Store} {w w':World} {b:Bool} {v:Value} {n m:Nat} (hok:Ok gl H σ w) (hn:σ.objs.length≤n) (hm:σ.toks.length≤m) (h:Post gl H w (.bool b) σ' v w'):Post gl H w (.bool b) (Go.Pv.trimR n m σ') v w':=by
 have h1:Post gl H w (.bool b) (qoC n σ') v w':=by
  unfold qoC;split
  ·exact h
  ·exact h.dropS hok hn
 unfold Go.Pv.trimR;split
 ·exact h1
 ·exact h1.dropT hok (Nat.le_trans hm (Nat.le_max_left _ _))
theorem YCalls.mono {P:Program} {l:Nat} {args:Array Value} {w:World} {R R':Ending→World→Prop} (h:YCalls P l args w R) (hR:∀ e w',R e w'→R' e w'):YCalls P l args w R':=by
 obtain⟨f,tmps,assign,body,h1,h2⟩:=h;exact⟨f,tmps,assign,body,h1,h2.mono hR⟩
theorem qJf {e:Nat} {Y0:Nat→List PV→Store→Option (Bool×Store)} (h:qsj P gl qeM (.yld e fun t args σ=>(Y0 t args σ).map fun r=>(.bool r.1,r.2))) :
  qsj P gl qeM (.yld e fun t args σ=>(Y0 t args σ).map fun r=>(.bool r.1,trimR σ.objs.length σ.toks.length r.2)):=by
 intro t args σ x σ' ht hy H w vs T hok hr hT;obtain⟨r,hr0,he⟩:=Option.map_eq_some_iff.1 hy;simp only [Prod.mk.injEq] at he;obtain⟨rfl,rfl⟩:=he;refine YCalls.mono (h t args σ (.bool r.1) r.2 ht (by simp only [hr0,Option.map_some]) H w vs T hok hr hT) ?_
 rintro e w' ⟨v,rfl,hp⟩;exact⟨v,rfl,hp.trimR hok (Nat.le_refl _) (Nat.le_refl _)⟩
theorem qR3 {G:GamT} {L:LpsT} {I:RI} {g:Operand} {ps:Array Tmp} {x y:Code} {gf:FuncId} {D:List PV→Store→Tr (PV×Store)} (hT:qaN P tb) (hΓ:∀ gl':Gl,gl'.v=gl.v→qal P gl' (gam G)) (hm:P.follows .mixedOrders=true)
  (hLx:∀ gl':Gl,gl'.v=gl.v→qbe P gl' (lps L) x) (hLy:∀ gl':Gl,gl'.v=gl.v→qbe P gl' (lps L) y) (hdx:qaH (gam G) x=true) (hdy:qaH (gam G) y=true) (hps:ps.toList=I.ps)
  (hent : ∃ fn, P.funcs[gf]? = some fn ∧ (fn.name == "runtime.NumGoroutine") = false ∧ fn.body.isNone = false)
  (hI:∀ gl':Gl,gl'.v=gl.v→qsj P gl' qeM (.yld I.e fun t args σ=>(rtree tb G L I x y t args σ).run)→SimS P gl' gf fun args σ=>(D args σ).run) :
  ∀ fr σ e fr' σ',(rorc I g gf D fr σ).run=some (e,fr',σ')→Does P gl (.rangeFunc g ps x y) fr σ e fr' σ':=by
 intro fr σ e fr' σ' h;unfold rorc at h
 split at h
 ·rename_i hn;have hw:=qiP fr I.ss;rw [hn] at hw;generalize hfr1:mk I.nt (I.ss.zip (rsl I.ss fr))=fr1 at h hw;have hl1:fr1.length=I.nt:=by rw [← hfr1];exact qVm _ _
  split at h
  ·rename_i f caps hg;split at h
   ·rename_i hf;subst hf;split at h
    ·rename_i hk;simp only [Bool.and_eq_true] at hk;obtain⟨⟨hk1,hk2⟩,hk3⟩:=hk;obtain⟨⟨v,σ2⟩,h1,h2⟩:=bind_some h;have hkeep:=qfW hk3;simp only at h2;split at h2
     ·rename_i s e' hs;split at h2
      ·rename_i hee;subst hee;split at h2
       ·cases h2
       ·rename_i hs1;simp only [Tr.run_ret,Option.some.injEq,Prod.mk.injEq] at h2;obtain⟨rfl,rfl,rfl⟩:=h2;have hw2:Weak fr1 I.fr:=by
         have:=qiP fr1 I.bs;rw [hl1,qC8 hk1] at this;exact this
        have hd:=qJc (P:=P) (gl:=gl) (g:=g) (ps:=ps) (assign:=x) (body:=y) (fr:=fr1) (σ:=σ) hg I.e hent (Y:=fun t args σ=>(qDY tb G L I x y t args σ).run.map fun r=>(.bool r.1,r.2)) (D:=fun args σ=>(D args σ).run)
         (qC1 hk2) hkeep.1 hkeep.2 (fun gl' hv hc=>hI gl' hv (by
          have:=qJf (Y0:=fun t args σ=>(qDY tb G L I x y t args σ).run) hc
          simp only [rtree,qgM];exact this)) (fun gl' hv t args σ x' σ' hy=>by
          obtain⟨r,hr,he⟩:=Option.map_eq_some_iff.1 hy;simp only [Prod.mk.injEq] at he;obtain⟨rfl,rfl⟩:=he;obtain⟨q1,q2,q3,q4,q5,q6,q7,q8,q9,q10,q11⟩:=qNF hT (hΓ gl' hv) hm (hLx gl' hv) (hLy gl' hv) hdx hdy hr hw2;rw [hps];exact⟨q1,q2,q3,q4,q5,by rw [q6,← hps];simp,q7,q8,q9,q10,q11.1,by rw [q11.2.1],q11.2.2⟩) h1 hs hs1
        have hd2:=Does.into hw hd;unfold qoC;split
        ·exact hd2
        ·have:=hd2.drop (n:=σ.objs.length) (Nat.le_refl _);rw [hkeep.1 _ (Nat.le_refl _)] at this;exact this
      ·cases h2
     ·cases h2
    ·cases h
   ·cases h
  ·cases h
 ·cases h
end
end Go.Pv
set_option maxHeartbeats 4000000
set_option maxRecDepth 200000
set_option linter.unusedSimpArgs false
set_option linter.unusedVariables false
namespace Go.Pv
open Go Go.Proofs Go.RowKit
def twosV:List (List UInt8):=[[58,45],[60,61],[62,61],[33,61]]
structure GlLex (gl:Gl):Prop extends GlOk gl where
 twos : VarIs gl "pedigree/lex.twos" (twosV.map fun l => Value.string ⟨l.toArray⟩).toArray
theorem GlPow.of_v {gl gl':Gl} (h:GlPow gl) (e:gl'.v=gl.v):GlPow gl':=by
 obtain⟨h⟩:=h;exact⟨by unfold VarIs at *;rw [e];exact h⟩
theorem GlOk.of_v {gl gl':Gl} (h:GlOk gl) (e:gl'.v=gl.v):GlOk gl':=by
 obtain⟨h1,h2,h3⟩:=h;exact⟨h1.of_v e,by unfold VarIs at *;rw [e];exact h2,by unfold VarIs at *;rw [e];exact h3⟩
theorem GlLex.of_v {gl gl':Gl} (h:GlLex gl) (e:gl'.v=gl.v):GlLex gl':=by
 obtain⟨h1,h2⟩:=h;exact⟨h1.of_v e,by unfold VarIs at *;rw [e];exact h2⟩
def qK9:List PV:=[.str [58,45],.str [60,61],.str [62,61],.str [33,61]]
theorem qMr : Tryz.prog.globalNamed "pedigree/lex.twos" = some 0 := by kernel_rfl
theorem qIw {gl:Gl} (h:GlLex gl):qsj Tryz.prog gl (qGp+0) (.glob qK9):=by
 obtain⟨g,T,f,h1,h2⟩:=h.twos;rw [qMr] at h1;cases h1
 refine⟨_,T,f,by rw [Nat.add_sub_cancel_left];exact h2,fun H w=>?_⟩
 exact .cons _ _ _ _ (.str [58,45] (by decide)) (.cons _ _ _ _ (.str [60,61] (by decide)) (.cons _ _ _ _ (.str [62,61] (by decide)) (.cons _ _ _ _ (.str [33,61] (by decide)) .nil)))
theorem qKU:maxLen≤9223372036854775807:=by decide
def idxV (s:qU) (c:Int):Int:=Lib.indexByte s c.toNat.toUInt8
theorem qsa (c:UInt8):∀ l:qU,Lib.indexByte l c≤l.length
 |[]=>by simp [Lib.indexByte]
 |b::l=>by
  have:=qsa c l;unfold Lib.indexByte;split
  ·simp only [List.length_cons];omega
  ·split<;>simp only [List.length_cons]<;>omega
def qjs:List PV→Tr PV
 |[.str s,.int .u8 c]=>.ret (.int .i64 (idxV s c))
 |_=>.fail
theorem qpJ (gl:Gl):SimP Tryz.prog gl 170 fun args=>(qjs args).run:=by
 refine⟨⟨_,Tryz.func170,by rfl,by rfl⟩,?_⟩
 intro args x hx H w vs hB hob htk hw hrel;unfold qjs at hx;split at hx
 ·rename_i s c;cases hx
  cases hrel with
  |cons _ v _ vs hv hvs =>
   cases hvs with
   |cons _ v2 _ vs hv2 hvs =>
    cases hvs
    cases hv with
    |str _ hl =>
     cases hv2
     refine (Tryz.strings_IndexByte ⟨s.toArray⟩ c w).mono ?_;rintro e w' ⟨rfl,rfl⟩;refine⟨_,rfl,⟨Below.refl _ _,Dr.of_eq rfl⟩,.int _ _ ?_⟩;have h1:=qsa c.toNat.toUInt8 s;have h2:=Lib.indexByte_ge s c.toNat.toUInt8;have:=qKU;simp only [idxV];generalize Lib.indexByte s c.toNat.toUInt8=q at h1 h2 ⊢;simp [Lit.wf,IntKind.min,IntKind.max,IntKind.signed,IntKind.bits];omega
 ·cases hx
end Go.Pv
