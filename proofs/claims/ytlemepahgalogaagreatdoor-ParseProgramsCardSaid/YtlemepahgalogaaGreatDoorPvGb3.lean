/- Part 3 of the proof: pure values for the machine's values, what functions compute over them, and laws of what is computed. Conditions: none beyond each theorem's own premises. -/
import Derived.Test.YtlemepahgalogaaGreatDoorPvGb2
import Derived.RecoverIn
import Derived.Test.YtlemepahgalogaaGreatDoorShelf
import Derived.Lib.AppendIntMem
import Derived.Lib.ItoaLen
import Derived.Lib.ParseIntBTie
import Derived.Shelf.Strings.BuilderK
import Derived.RangeFuncNested
import Derived.Lib.LastIndexByte
noncomputable section
set_option maxHeartbeats 4000000
set_option maxRecDepth 200000
set_option linter.unusedSimpArgs false
set_option linter.unusedVariables false
namespace Go.Pv
open Go Go.Proofs
def qXV:GamT:=ofL []
theorem qYt (gl:Gl):qal Tryz.prog gl (gam qXV):=qaf
def qZM:LpsT:=fun r fr σ=>.fail
def qMy (r:qR) (n k:Int) (t:qU):Tr PV:=let z1:=qbl [.int .i64 0,.str [],.int .i64 0,.int .i64 0,.str [],.int .i64 0] r (nNat 0);.ite (iLt 0 (xLen r)) (.ite (qax 0) (.ite z1 (.ite (iEq (xInt r (nNat 0) 0) k) (.ite (sEq t []) (.ret (.bool true)) (.ite (qax 0) (.ite z1 (.ret (.bool (sEq (xStr r (nNat 0) 1) t))) .fail) .fail)) (.ret (.bool false))) .fail) .fail) (.ret (.bool false))
section
variable (r:qR) (n k:Int) (t:qU)
theorem zabq:(tcall tbT qXV qZM Tryz.f86 [.ref [.sl r .non,.int .i64 n],.int .i64 k,.str t]).flat=qMy r n k t:=by kernel_rfl
def qRz:Option PV:=(qMy r n k t).run
def qvk:Bool:=(qeC (gVal (qRz r n k t)))
def qgt:Bool:=isW (qRz r n k t) (.bool (qvk r n k t))
end
def qJO:List PV→Tr PV|[.ref [.sl r .non,.int .i64 n],.int .i64 k,.str t]=>.ite (qgt r n k t) (.ret (.bool (qvk r n k t))) (.fail)|_=>.fail
theorem qyw (gl:Gl):SimP Tryz.prog gl 86 fun args=>(qJO args).run:=by
 refine SimP.of_flat (G:=qXV) (L:=qZM) qaj (qYt gl ) qai  Tryz.func86 rfl (by rfl) (by kernel_rfl) (qab (by kernel_rfl)) ?_
 intro args x h;unfold qJO at h
 split at h
 ·exact (congrArg Tr.run (zabq _ _ _ _)).trans (qae h fun h=>by cases h)
 ·cases h
def qC6:GamT:=ofL [(86,.pure qJO)]
theorem qNi (gl:Gl):qal Tryz.prog gl (gam qC6):=(qag (qyw gl) qaf)
def qLU:LpsT:=fun r fr σ=>.fail
section
variable (r:qR) (n:Int)
def qrt:Tr PV:=let z1:=xStr r (nNat 0) 1;.ite (qgt (qac r) n 1 []) (.ite (bNot (qvk (qac r) n 1 [])) (.ret (.bool false)) (.ite (qax 0) (.ite (qbl [.int .i64 0,.str [],.int .i64 0,.int .i64 0,.str [],.int .i64 0] r (nNat 0)) (.ite (sEq z1 [98,97,115,101]) (.ret (.bool false)) (.ite (sEq z1 [118,105,101,119]) (.ret (.bool false)) (.ite (sEq z1 [111,110]) (.ret (.bool false)) (.ite (sEq z1 [110,111,116]) (.ret (.bool false)) (.ret (.bool true)))))) .fail) .fail)) .fail
theorem qUS:(tcall tbT qC6 qLU Tryz.f148 [.ref [.sl r .non,.int .i64 n]]).flat=qrt r n:=by kernel_rfl
def qsN:Option PV:=(qrt r n).run
def qsB:Bool:=(qeC (gVal (qsN r n)))
def qmt:Bool:=isW (qsN r n) (.bool (qsB r n))
end
def qvJ:List PV→Tr PV|[.ref [.sl r .non,.int .i64 n]]=>.ite (qmt r n) (.ret (.bool (qsB r n))) (.fail)|_=>.fail
theorem qCF (gl:Gl):SimP Tryz.prog gl 148 fun args=>(qvJ args).run:=by
 refine SimP.of_flat (G:=qC6) (L:=qLU) qaj (qNi gl ) qai  Tryz.func148 rfl (by rfl) (by kernel_rfl) (qab (by kernel_rfl)) ?_
 intro args x h;unfold qvJ at h
 split at h
 ·exact (congrArg Tr.run (qUS _ _)).trans (qae h fun h=>by cases h)
 ·cases h
def qYi:GamT:=ofL []
theorem qYl (gl:Gl):qal Tryz.prog gl (gam qYi):=qaf
def zaax:LpsT:=fun r fr σ=>.fail
section
variable (r:qR) (n:Int)
def qL9:Tr (PR×Store):=let z1:qR:=[[.sl (qaa (qac r)) .non,.int .i64 n]];.ite (iLt 0 (xLen (qac r))) (.ite (qax 0) (.ite (qbl [.int .i64 0,.str [],.int .i64 0,.int .i64 0,.str [],.int .i64 0] (qac r) (nNat 0)) (.ret (PR.pan (.iface 172 (.agg [.int .i64 (xInt (qac r) (nNat 0) 5)])),Store.mk z1 [] [138])) .fail) .fail) (.ret (PR.pan (.iface 172 (.agg [.int .i64 n])),Store.mk z1 [] [138]))
theorem zaaW:(nrmM tbT qYi zaax Tryz.f85 [.ptr 0 0] ⟨[[.sl r .non,.int .i64 n]],[],[138]⟩).flat=qL9 r n:=by kernel_rfl
def qOx:Option (PR×Store):=(qL9 r n).run
def qJT:Int:=oG (qOx r n)
def qJf:qR:=qbn 0 0 (qOx r n)
def quD:Bool:=isW (qOx r n) ((.pan (.iface 172 (.agg [.int .i64 (qJT r n)]))),⟨[[.sl (qJf r n) .non,.int .i64 n]],[],[138]⟩)
end
def qfo:List PV→Store→Tr (PR×Store)|[.ptr 0 0],⟨[[.sl r .non,.int .i64 n]],[],[138]⟩=>.ite (quD r n) (.ret ((.pan (.iface 172 (.agg [.int .i64 (qJT r n)]))),⟨[[.sl (qJf r n) .non,.int .i64 n]],[],[138]⟩)) (.fail)|_,_=>.fail
theorem qtV (gl:Gl):SimM Tryz.prog gl 85 fun args σ=>(qfo args σ).run:=by
 refine SimM.of_nrm (G:=qYi) (L:=zaax) qaj (qYl gl ) qai Tryz.func85 rfl (by rfl) (by kernel_rfl) (qab (by kernel_rfl)) ?_
 intro args σ x h;unfold qfo at h
 split at h
 ·exact (congrArg Tr.run (zaaW _ _)).trans (qae h fun h=>by cases h)
 ·cases h
def qIP:GamT:=ofL []
theorem qPc (gl:Gl):qal Tryz.prog gl (gam qIP):=qaf
def qRW:LpsT:=fun r fr σ=>.fail
section
variable (r:qR) (n:Int)
def qE3:Tr (PR×Store):=let z1:=qac r;let z2:=nNat 0;.ite (qax 0) (.ite (qbl [.int .i64 0,.str [],.int .i64 0,.int .i64 0,.str [],.int .i64 0] z1 z2) (.ite (qbk (qax 1) true (nNat 1) (nXs z1) (nXs z1)) (.ite (qan z1 6) (.ret (PR.val (.agg [.int .i64 (xInt z1 z2 0),.str (xStr z1 z2 1),.int .i64 (xInt z1 z2 2),.int .i64 (xInt z1 z2 3),.str (xStr z1 z2 4),.int .i64 (xInt z1 z2 5)]),Store.mk [[.sl (qaa (xSub z1 (nNat 1) (nXs z1))) .non,.int .i64 n]] [] [138])) .fail) .fail) .fail) .fail
theorem qWv:(nrmM tbT qIP qRW Tryz.f136 [.ptr 0 0] ⟨[[.sl r .non,.int .i64 n]],[],[138]⟩).flat=qE3 r n:=by kernel_rfl
def qhE:Option (PR×Store):=(qE3 r n).run
def qE7:Int:=qbg 0 (qhE r n)
def qpL:qU:=qbo 1 (qhE r n)
def qsr:Int:=qbg 2 (qhE r n)
def qsu:Int:=qbg 3 (qhE r n)
def qq5:qU:=qbo 4 (qhE r n)
def qv2:Int:=qbg 5 (qhE r n)
def qjW:qR:=qbn 0 0 (qhE r n)
def qdI:Bool:=isW (qhE r n) ((.val (.agg [.int .i64 (qE7 r n),.str (qpL r n),.int .i64 (qsr r n),.int .i64 (qsu r n),.str (qq5 r n),.int .i64 (qv2 r n)])),⟨[[.sl (qjW r n) .non,.int .i64 n]],[],[138]⟩)
end
def qlT:List PV→Store→Tr (PR×Store)|[.ptr 0 0],⟨[[.sl r .non,.int .i64 n]],[],[138]⟩=>.ite (qdI r n) (.ret ((.val (.agg [.int .i64 (qE7 r n),.str (qpL r n),.int .i64 (qsr r n),.int .i64 (qsu r n),.str (qq5 r n),.int .i64 (qv2 r n)])),⟨[[.sl (qjW r n) .non,.int .i64 n]],[],[138]⟩)) (.fail)|_,_=>.fail
theorem qiF (gl:Gl):SimM Tryz.prog gl 136 fun args σ=>(qlT args σ).run:=by
 refine SimM.of_nrm (G:=qIP) (L:=qRW) qaj (qPc gl ) qai Tryz.func136 rfl (by rfl) (by kernel_rfl) (qab (by kernel_rfl)) ?_
 intro args σ x h;unfold qlT at h
 split at h
 ·exact (congrArg Tr.run (qWv _ _)).trans (qae h fun h=>by cases h)
 ·cases h
def qKb:GamT:=ofL [(86,.pure qJO),(136,.may (frameT qlT))]
theorem qO8 (gl:Gl):qal Tryz.prog gl (gam qKb):=(qag (qyw gl) (qah (SimM.frameT (qiF gl)) qaf))
def qSJ:LpsT:=fun r fr σ=>.fail
section
variable (k:Int) (t:qU) (r:qR) (n:Int)
def qxa:Tr (PR×Store):=let z1:=qac (qac r);.ite (qgt z1 n k t) (.ite (bNot (qvk z1 n k t)) (.ret (PR.val (.bool false),Store.mk [[.sl (qaa (qac r)) .non,.int .i64 n]] [] [138])) (.ite (qdI z1 n) (.ret (PR.val (.bool true),Store.mk [[.sl (qaa (qaa (qjW z1 n))) .non,.int .i64 n]] [] [138])) .fail)) .fail
theorem qXI:(nrmM tbT qKb qSJ Tryz.f106 [.ptr 0 0,.int .i64 k,.str t] ⟨[[.sl r .non,.int .i64 n]],[],[138]⟩).flat=qxa k t r n:=by kernel_rfl
def qpg:Option (PR×Store):=(qxa k t r n).run
def qbG:Bool:=zaad (qpg k t r n)
def qbI:qR:=qbn 0 0 (qpg k t r n)
def qa1:Bool:=isW (qpg k t r n) ((.val (.bool (qbG k t r n))),⟨[[.sl (qbI k t r n) .non,.int .i64 n]],[],[138]⟩)
end
def qc0:List PV→Store→Tr (PR×Store)|[.ptr 0 0,.int .i64 k,.str t],⟨[[.sl r .non,.int .i64 n]],[],[138]⟩=>.ite (qa1 k t r n) (.ret ((.val (.bool (qbG k t r n))),⟨[[.sl (qbI k t r n) .non,.int .i64 n]],[],[138]⟩)) (.fail)|_,_=>.fail
theorem qbP (gl:Gl):SimM Tryz.prog gl 106 fun args σ=>(qc0 args σ).run:=by
 refine SimM.of_nrm (G:=qKb) (L:=qSJ) qaj (qO8 gl ) qai Tryz.func106 rfl (by rfl) (by kernel_rfl) (qab (by kernel_rfl)) ?_
 intro args σ x h;unfold qc0 at h
 split at h
 ·exact (congrArg Tr.run (qXI _ _ _ _)).trans (qae h fun h=>by cases h)
 ·cases h
def qLd:GamT:=ofL [(85,.may (frameT qfo)),(86,.pure qJO),(136,.may (frameT qlT))]
theorem qPu (gl:Gl):qal Tryz.prog gl (gam qLd):=(qah (SimM.frameT (qtV gl)) (qag (qyw gl) (qah (SimM.frameT (qiF gl)) qaf)))
def qPi:LpsT:=fun r fr σ=>.fail
section
variable (k:Int) (t:qU) (r:qR) (n:Int)
def qxj:Tr (PR×Store):=let z1:=qac (qac r);.ite (qgt z1 n k t) (.ite (bNot (qvk z1 n k t)) (.ite (quD z1 n) (.ret (PR.pan (.iface 172 (.agg [.int .i64 (qJT z1 n)])),Store.mk [[.sl (qaa (qaa (qJf z1 n))) .non,.int .i64 n]] [] [138])) .fail) (.ite (qdI z1 n) (.ret (PR.val (.agg [.int .i64 (qE7 z1 n),.str (qpL z1 n),.int .i64 (qsr z1 n),.int .i64 (qsu z1 n),.str (qq5 z1 n),.int .i64 (qv2 z1 n)]),Store.mk [[.sl (qaa (qaa (qjW z1 n))) .non,.int .i64 n]] [] [138])) .fail)) .fail
theorem qXP:(nrmM tbT qLd qPi Tryz.f150 [.ptr 0 0,.int .i64 k,.str t] ⟨[[.sl r .non,.int .i64 n]],[],[138]⟩).flat=qxj k t r n:=by kernel_rfl
def qdT:Option (PR×Store):=(qxj k t r n).run
def qic:Int:=oG (qdT k t r n)
def qiU:qR:=qbn 0 0 (qdT k t r n)
def qlZ:Bool:=isW (qdT k t r n) ((.pan (.iface 172 (.agg [.int .i64 (qic k t r n)]))),⟨[[.sl (qiU k t r n) .non,.int .i64 n]],[],[138]⟩)
def qyF:Int:=qbg 0 (qdT k t r n)
def qqT:qU:=qbo 1 (qdT k t r n)
def qti:Int:=qbg 2 (qdT k t r n)
def quv:Int:=qbg 3 (qdT k t r n)
def qt8:qU:=qbo 4 (qdT k t r n)
def qul:Int:=qbg 5 (qdT k t r n)
def qix:qR:=qbn 0 0 (qdT k t r n)
def ql8:Bool:=isW (qdT k t r n) ((.val (.agg [.int .i64 (qyF k t r n),.str (qqT k t r n),.int .i64 (qti k t r n),.int .i64 (quv k t r n),.str (qt8 k t r n),.int .i64 (qul k t r n)])),⟨[[.sl (qix k t r n) .non,.int .i64 n]],[],[138]⟩)
end
def qAx:List PV→Store→Tr (PR×Store)|[.ptr 0 0,.int .i64 k,.str t],⟨[[.sl r .non,.int .i64 n]],[],[138]⟩=>.ite (qlZ k t r n) (.ret ((.pan (.iface 172 (.agg [.int .i64 (qic k t r n)]))),⟨[[.sl (qiU k t r n) .non,.int .i64 n]],[],[138]⟩)) (.ite (ql8 k t r n) (.ret ((.val (.agg [.int .i64 (qyF k t r n),.str (qqT k t r n),.int .i64 (qti k t r n),.int .i64 (quv k t r n),.str (qt8 k t r n),.int .i64 (qul k t r n)])),⟨[[.sl (qix k t r n) .non,.int .i64 n]],[],[138]⟩)) (.fail))|_,_=>.fail
theorem qAi (gl:Gl):SimM Tryz.prog gl 150 fun args σ=>(qAx args σ).run:=by
 refine SimM.of_nrm (G:=qLd) (L:=qPi) qaj (qPu gl ) qai Tryz.func150 rfl (by rfl) (by kernel_rfl) (qab (by kernel_rfl)) ?_
 intro args σ x h;unfold qAx at h
 split at h
 ·exact (congrArg Tr.run (qXP _ _ _ _)).trans (qae h fun h=>qae h fun h=>by cases h)
 ·cases h
def qJF:GamT:=ofL [(150,.may (frameT qAx))]
theorem qOY (gl:Gl):qal Tryz.prog gl (gam qJF):=(qah (SimM.frameT (qAi gl)) qaf)
def qSL:LpsT:=fun r fr σ=>.fail
section
variable (t:qU) (r:qR) (n:Int)
def qFk:Tr (PR×Store):=let z1:=qac (qac r);.ite (qlZ 6 t z1 n) (.ret (PR.pan (.iface 172 (.agg [.int .i64 (qic 6 t z1 n)])),Store.mk [[.sl (qaa (qaa (qiU 6 t z1 n))) .non,.int .i64 n]] [] [138])) (.ite (ql8 6 t z1 n) (.ret (PR.val (.tup []),Store.mk [[.sl (qaa (qaa (qix 6 t z1 n))) .non,.int .i64 n]] [] [138])) .fail)
theorem qWr:(nrmM tbT qJF qSL Tryz.f109 [.ptr 0 0,.str t] ⟨[[.sl r .non,.int .i64 n]],[],[138]⟩).flat=qFk t r n:=by kernel_rfl
def qpz:Option (PR×Store):=(qFk t r n).run
def qbH:Int:=oG (qpz t r n)
def qbF:qR:=qbn 0 0 (qpz t r n)
def qbS:Bool:=isW (qpz t r n) ((.pan (.iface 172 (.agg [.int .i64 (qbH t r n)]))),⟨[[.sl (qbF t r n) .non,.int .i64 n]],[],[138]⟩)
def qbD:qR:=qbn 0 0 (qpz t r n)
def qbQ:Bool:=isW (qpz t r n) ((.val (.tup [])),⟨[[.sl (qbD t r n) .non,.int .i64 n]],[],[138]⟩)
end
def qjr:List PV→Store→Tr (PR×Store)|[.ptr 0 0,.str t],⟨[[.sl r .non,.int .i64 n]],[],[138]⟩=>.ite (qbS t r n) (.ret ((.pan (.iface 172 (.agg [.int .i64 (qbH t r n)]))),⟨[[.sl (qbF t r n) .non,.int .i64 n]],[],[138]⟩)) (.ite (qbQ t r n) (.ret ((.val (.tup [])),⟨[[.sl (qbD t r n) .non,.int .i64 n]],[],[138]⟩)) (.fail))|_,_=>.fail
theorem qge (gl:Gl):SimM Tryz.prog gl 109 fun args σ=>(qjr args σ).run:=by
 refine SimM.of_nrm (G:=qJF) (L:=qSL) qaj (qOY gl ) qai Tryz.func109 rfl (by rfl) (by kernel_rfl) (qab (by kernel_rfl)) ?_
 intro args σ x h;unfold qjr at h
 split at h
 ·exact (congrArg Tr.run (qWr _ _ _)).trans (qae h fun h=>qae h fun h=>by cases h)
 ·cases h
def qI7:GamT:=ofL [(85,.may (frameT qfo)),(136,.may (frameT qlT)),(148,.pure qvJ)]
theorem qSS (gl:Gl):qal Tryz.prog gl (gam qI7):=(qah (SimM.frameT (qtV gl)) (qah (SimM.frameT (qiF gl)) (qag (qCF gl) qaf)))
def qPE:LpsT:=fun r fr σ=>.fail
section
variable (r:qR) (n:Int)
def qxI:Tr (PR×Store):=let z1:=qac (qac r);.ite (qmt z1 n) (.ite (bNot (qsB z1 n)) (.ite (quD z1 n) (.ret (PR.pan (.iface 172 (.agg [.int .i64 (qJT z1 n)])),Store.mk [[.sl (qaa (qaa (qJf z1 n))) .non,.int .i64 n]] [] [138])) .fail) (.ite (qdI z1 n) (.ret (PR.val (.str (qpL z1 n)),Store.mk [[.sl (qaa (qaa (qjW z1 n))) .non,.int .i64 n]] [] [138])) .fail)) .fail
theorem qWf:(nrmM tbT qI7 qPE Tryz.f111 [.ptr 0 0] ⟨[[.sl r .non,.int .i64 n]],[],[138]⟩).flat=qxI r n:=by kernel_rfl
def qjQ:Option (PR×Store):=(qxI r n).run
def qi6:Int:=oG (qjQ r n)
def qhQ:qR:=qbn 0 0 (qjQ r n)
def qk0:Bool:=isW (qjQ r n) ((.pan (.iface 172 (.agg [.int .i64 (qi6 r n)]))),⟨[[.sl (qhQ r n) .non,.int .i64 n]],[],[138]⟩)
def qgq:qU:=qVa (qjQ r n)
def qh2:qR:=qbn 0 0 (qjQ r n)
def qk6:Bool:=isW (qjQ r n) ((.val (.str (qgq r n))),⟨[[.sl (qh2 r n) .non,.int .i64 n]],[],[138]⟩)
end
def qAv:List PV→Store→Tr (PR×Store)|[.ptr 0 0],⟨[[.sl r .non,.int .i64 n]],[],[138]⟩=>.ite (qk0 r n) (.ret ((.pan (.iface 172 (.agg [.int .i64 (qi6 r n)]))),⟨[[.sl (qhQ r n) .non,.int .i64 n]],[],[138]⟩)) (.ite (qk6 r n) (.ret ((.val (.str (qgq r n))),⟨[[.sl (qh2 r n) .non,.int .i64 n]],[],[138]⟩)) (.fail))|_,_=>.fail
theorem qzT (gl:Gl):SimM Tryz.prog gl 111 fun args σ=>(qAv args σ).run:=by
 refine SimM.of_nrm (G:=qI7) (L:=qPE) qaj (qSS gl ) qai Tryz.func111 rfl (by rfl) (by kernel_rfl) (qab (by kernel_rfl)) ?_
 intro args σ x h;unfold qAv at h
 split at h
 ·exact (congrArg Tr.run (qWf _ _)).trans (qae h fun h=>qae h fun h=>by cases h)
 ·cases h
def qSd:GamT:=ofL [(85,.may (frameT qfo)),(106,.may (frameT qc0))]
theorem qUd (gl:Gl):qal Tryz.prog gl (gam qSd):=(qah (SimM.frameT (qtV gl)) (qah (SimM.frameT (qbP gl)) qaf))
def qVJ:LpsT:=fun r fr σ=>.fail
section
variable (r:qR) (n:Int)
def qAz:Tr (PR×Store):=let z1:=qac (qac r);let z2:=qaa (qbI 1 [105,110,116] z1 n);let z3:=qaa (qbI 1 [115,121,109] (qac z2) n);.ite (qa1 1 [105,110,116] z1 n) (.ite (qbG 1 [105,110,116] z1 n) (.ret (PR.val (.int .i64 1),Store.mk [[.sl (qaa z2) .non,.int .i64 n]] [] [138])) (.ite (qa1 1 [115,121,109] (qac z2) n) (.ite (qbG 1 [115,121,109] (qac z2) n) (.ret (PR.val (.int .i64 2),Store.mk [[.sl (qaa z3) .non,.int .i64 n]] [] [138])) (.ite (quD (qac z3) n) (.ret (PR.pan (.iface 172 (.agg [.int .i64 (qJT (qac z3) n)])),Store.mk [[.sl (qaa (qaa (qJf (qac z3) n))) .non,.int .i64 n]] [] [138])) .fail)) .fail)) .fail
theorem zaai:(nrmM tbT qSd qVJ Tryz.f138 [.ptr 0 0] ⟨[[.sl r .non,.int .i64 n]],[],[138]⟩).flat=qAz r n:=by kernel_rfl
def qog:Option (PR×Store):=(qAz r n).run
def qj2:Int:=qHd (qog r n)
def qjB:qR:=qbn 0 0 (qog r n)
def qnB:Bool:=isW (qog r n) ((.val (.int .i64 (qj2 r n))),⟨[[.sl (qjB r n) .non,.int .i64 n]],[],[138]⟩)
def qkg:Int:=oG (qog r n)
def qjs:qR:=qbn 0 0 (qog r n)
def qmE:Bool:=isW (qog r n) ((.pan (.iface 172 (.agg [.int .i64 (qkg r n)]))),⟨[[.sl (qjs r n) .non,.int .i64 n]],[],[138]⟩)
end
def qB0:List PV→Store→Tr (PR×Store)|[.ptr 0 0],⟨[[.sl r .non,.int .i64 n]],[],[138]⟩=>.ite (qnB r n) (.ret ((.val (.int .i64 (qj2 r n))),⟨[[.sl (qjB r n) .non,.int .i64 n]],[],[138]⟩)) (.ite (qmE r n) (.ret ((.pan (.iface 172 (.agg [.int .i64 (qkg r n)]))),⟨[[.sl (qjs r n) .non,.int .i64 n]],[],[138]⟩)) (.fail))|_,_=>.fail
theorem qwX (gl:Gl):SimM Tryz.prog gl 138 fun args σ=>(qB0 args σ).run:=by
 refine SimM.of_nrm (G:=qSd) (L:=qVJ) qaj (qUd gl ) qai Tryz.func138 rfl (by rfl) (by kernel_rfl) (qab (by kernel_rfl)) ?_
 intro args σ x h;unfold qB0 at h
 split at h
 ·exact (congrArg Tr.run (zaai _ _)).trans (qae h fun h=>qae h fun h=>by cases h)
 ·cases h
def qJd:GamT:=ofL [(86,.pure qJO),(136,.may (frameT qlT)),(150,.may (frameT qAx))]
theorem qPm (gl:Gl):qal Tryz.prog gl (gam qJd):=(qag (qyw gl) (qah (SimM.frameT (qiF gl)) (qah (SimM.frameT (qAi gl)) qaf)))
def qQs:LpsT:=fun r fr σ=>.fail
section
variable (r:qR) (n:Int)
def qjg:Tr (PR×Store):=let z1:=qac (qac r);let z2:qR:=[[.sl (qaa (qaa (qjW z1 n))) .non,.int .i64 n]];let z3:Tr (PR×Store):=.ite (qdI z1 n) (.ret (PR.val (.agg [.int .i64 2,.str [],.int .i64 (qsr z1 n),.int .i64 (qsu z1 n),.str (qq5 z1 n)]),Store.mk z2 [] [138])) .fail;.ite (qgt z1 n 2 []) (.ite (qvk z1 n 2 []) (.ite (qdI z1 n) (.ret (PR.val (.agg [.int .i64 1,.str (qpL z1 n),.int .i64 0,.int .i64 0,.str []]),Store.mk z2 [] [138])) .fail) (.ite (qgt z1 n 4 []) (.ite (qvk z1 n 4 []) z3 (.ite (qgt z1 n 5 []) (.ite (qvk z1 n 5 []) z3 (.ite (qlZ 3 [] z1 n) (.ret (PR.pan (.iface 172 (.agg [.int .i64 (qic 3 [] z1 n)])),Store.mk [[.sl (qaa (qaa (qiU 3 [] z1 n))) .non,.int .i64 n]] [] [138])) (.ite (ql8 3 [] z1 n) (.ret (PR.val (.agg [.int .i64 3,.str [],.int .i64 0,.int .i64 0,.str []]),Store.mk [[.sl (qaa (qaa (qix 3 [] z1 n))) .non,.int .i64 n]] [] [138])) .fail))) .fail)) .fail)) .fail
theorem qXp:(nrmM tbT qJd qQs Tryz.f113 [.ptr 0 0] ⟨[[.sl r .non,.int .i64 n]],[],[138]⟩).flat=qjg r n:=by kernel_rfl
def qcZ:Option (PR×Store):=(qjg r n).run
def qdH:Int:=qbg 0 (qcZ r n)
def qdM:qU:=qbo 1 (qcZ r n)
def qcJ:Int:=qbg 2 (qcZ r n)
def qcO:Int:=qbg 3 (qcZ r n)
def qcQ:qU:=qbo 4 (qcZ r n)
def qeS:qR:=qbn 0 0 (qcZ r n)
def qfT:Bool:=isW (qcZ r n) ((.val (.agg [.int .i64 (qdH r n),.str (qdM r n),.int .i64 (qcJ r n),.int .i64 (qcO r n),.str (qcQ r n)])),⟨[[.sl (qeS r n) .non,.int .i64 n]],[],[138]⟩)
def qeT:Int:=oG (qcZ r n)
def qeU:qR:=qbn 0 0 (qcZ r n)
def qgK:Bool:=isW (qcZ r n) ((.pan (.iface 172 (.agg [.int .i64 (qeT r n)]))),⟨[[.sl (qeU r n) .non,.int .i64 n]],[],[138]⟩)
end
def qts:List PV→Store→Tr (PR×Store)|[.ptr 0 0],⟨[[.sl r .non,.int .i64 n]],[],[138]⟩=>.ite (qfT r n) (.ret ((.val (.agg [.int .i64 (qdH r n),.str (qdM r n),.int .i64 (qcJ r n),.int .i64 (qcO r n),.str (qcQ r n)])),⟨[[.sl (qeS r n) .non,.int .i64 n]],[],[138]⟩)) (.ite (qgK r n) (.ret ((.pan (.iface 172 (.agg [.int .i64 (qeT r n)]))),⟨[[.sl (qeU r n) .non,.int .i64 n]],[],[138]⟩)) (.fail))|_,_=>.fail
theorem qqR (gl:Gl):SimM Tryz.prog gl 113 fun args σ=>(qts args σ).run:=by
 refine SimM.of_nrm (G:=qJd) (L:=qQs) qaj (qPm gl ) qai Tryz.func113 rfl (by rfl) (by kernel_rfl) (qab (by kernel_rfl)) ?_
 intro args σ x h;unfold qts at h
 split at h
 ·exact (congrArg Tr.run (qXp _ _)).trans (qae h fun h=>qae h fun h=>by cases h)
 ·cases h
def qPQ:GamT:=ofL [(85,.may (frameT qfo)),(106,.may (frameT qc0))]
theorem qSc (gl:Gl):qal Tryz.prog gl (gam qPQ):=(qah (SimM.frameT (qtV gl)) (qah (SimM.frameT (qbP gl)) qaf))
def qLM:Code:=qc2 Tryz.f149 2
def qL7:LI:=⟨20,[0,5,6,7],fun e=>match e with|.ret=>[2]|.exit 0=>[0]|_=>[],false⟩
def qKe:LpsT:=fun r fr σ=>.fail
def qyH (vs:List PV) (σ:Store):Option (PExit×List PV×Store):=lval (lstep tbT qPQ qKe qLM qL7) vs σ
section
variable (r:qR) (n n2:Int) (r2:qR) (n3:Int)
def qAs:Tr LR:=let z1:=xStr r (nNat n2) 0;let z2:Store:=Store.mk [[.sl (qaa (qbI 6 z1 (qac r2) n3)) .non,.int .i64 n3]] [] [138];.ite (iLt n2 n) (.ite (qax n2) (.ite (qbl [.str []] r (nNat n2)) (.ite (qa1 6 z1 (qac r2) n3) (.ite (qbG 6 z1 (qac r2) n3) (.ret (.out .ret [.int .i64 (iAdd .i64 n2 1)] z2)) (.ret (.next [.ptr 0 0,.sl r .full,.int .i64 n,.int .i64 (iAdd .i64 n2 1)] z2))) .fail) .fail) .fail) (.ret (.out (.exit 0) [.ptr 0 0] (Store.mk [[.sl r2 .non,.int .i64 n3]] [] [138])))
theorem qZK:lstep tbT qPQ qKe qLM qL7 [.ptr 0 0,.sl r .full,.int .i64 n,.int .i64 n2] ⟨[[.sl r2 .non,.int .i64 n3]],[],[138]⟩=qAs r n n2 r2 n3:=by kernel_rfl
theorem qSW:qyH [.ptr 0 0,.sl r .full,.int .i64 n,.int .i64 n2] ⟨[[.sl r2 .non,.int .i64 n3]],[],[138]⟩=lnext qyH (qAs r n n2 r2 n3).run:=by unfold qyH;rw [qaC,qZK]
def qyJ:Option (PExit×List PV×Store):=qyH [.ptr 0 0,.sl r .full,.int .i64 n,.int .i64 n2] ⟨[[.sl r2 .non,.int .i64 n3]],[],[138]⟩
def qwe:Int:=qkU 0 (qyJ r n n2 r2 n3)
def qwq:qR:=qaO 0 0 (qyJ r n n2 r2 n3)
def qCZ:Bool:=isW (qyJ r n n2 r2 n3) (.ret,[.int .i64 (qwe r n n2 r2 n3)],⟨[[.sl (qwq r n n2 r2 n3) .non,.int .i64 n3]],[],[138]⟩)
def qx7:qR:=qaO 0 0 (qyJ r n n2 r2 n3)
def qEs:Bool:=isW (qyJ r n n2 r2 n3) ((.exit 0),[.ptr 0 0],⟨[[.sl (qx7 r n n2 r2 n3) .non,.int .i64 n3]],[],[138]⟩)
end
def qsx:List PV→Store→Tr (PExit×List PV×Store)|[.ptr 0 0,.sl r .full,.int .i64 n,.int .i64 n2],⟨[[.sl r2 .non,.int .i64 n3]],[],[138]⟩=>.ite (qCZ r n n2 r2 n3) (.ret (.ret,[.int .i64 (qwe r n n2 r2 n3)],⟨[[.sl (qwq r n n2 r2 n3) .non,.int .i64 n3]],[],[138]⟩)) (.ite (qEs r n n2 r2 n3) (.ret ((.exit 0),[.ptr 0 0],⟨[[.sl (qx7 r n n2 r2 n3) .non,.int .i64 n3]],[],[138]⟩)) (.fail))|_,_=>.fail
theorem qWT:∀ vs σ r,(qsx vs σ).run=some r→qyH vs σ=some r:=by
 intro vs σ r h;unfold qsx at h
 split at h
 ·exact qae h fun h=>qae h fun h=>by cases h
 ·cases h
theorem qRl (gl:Gl):∀ fr σ e fr' σ',(orc qL7 qsx fr σ).run=some (e,fr',σ')→LDoes Tryz.prog gl qLM fr σ e fr' σ':=qbw qaj (qSc gl ) qai (L:=qKe) (qab (by kernel_rfl)) (by kernel_rfl) qWT
def qZp:LpsT:=fun r fr σ=>bif Nat.beq r 2 then orc qL7 qsx fr σ else .fail
section
variable (r:qR) (n:Int)
def qMZ:Tr (PR×Store):=let z1:qR:=[[.str [61]],[.str [33,61]],[.str [60]],[.str [60,61]],[.str [62]],[.str [62,61]]];let z2:=xLen z1;let z3:=qac r;let z4:=qac (qx7 z1 z2 0 z3 n);.ite (qCZ z1 z2 0 z3 n) (.ret (PR.val (.int .i64 (qwe z1 z2 0 z3 n)),Store.mk [[.sl (qaa (qwq z1 z2 0 z3 n)) .non,.int .i64 n]] [] [138])) (.ite (qEs z1 z2 0 z3 n) (.ite (quD z4 n) (.ret (PR.pan (.iface 172 (.agg [.int .i64 (qJT z4 n)])),Store.mk [[.sl (qaa (qaa (qJf z4 n))) .non,.int .i64 n]] [] [138])) .fail) .fail)
theorem zaa5:(nrmM tbT qPQ qZp Tryz.f149 [.ptr 0 0] ⟨[[.sl r .non,.int .i64 n]],[],[138]⟩).flat=qMZ r n:=by kernel_rfl
def qA9:Option (PR×Store):=(qMZ r n).run
def qDw:Int:=qHd (qA9 r n)
def qFE:qR:=qbn 0 0 (qA9 r n)
def qIJ:Bool:=isW (qA9 r n) ((.val (.int .i64 (qDw r n))),⟨[[.sl (qFE r n) .non,.int .i64 n]],[],[138]⟩)
def qEV:Int:=oG (qA9 r n)
def qF8:qR:=qbn 0 0 (qA9 r n)
def qJG:Bool:=isW (qA9 r n) ((.pan (.iface 172 (.agg [.int .i64 (qEV r n)]))),⟨[[.sl (qF8 r n) .non,.int .i64 n]],[],[138]⟩)
end
def qYH:List PV→Store→Tr (PR×Store)|[.ptr 0 0],⟨[[.sl r .non,.int .i64 n]],[],[138]⟩=>.ite (qIJ r n) (.ret ((.val (.int .i64 (qDw r n))),⟨[[.sl (qFE r n) .non,.int .i64 n]],[],[138]⟩)) (.ite (qJG r n) (.ret ((.pan (.iface 172 (.agg [.int .i64 (qEV r n)]))),⟨[[.sl (qF8 r n) .non,.int .i64 n]],[],[138]⟩)) (.fail))|_,_=>.fail
theorem qZi (gl:Gl):SimM Tryz.prog gl 149 fun args σ=>(qYH args σ).run:=by
 refine SimM.of_nrm (G:=qPQ) (L:=qZp) qaj (qSc gl ) qai Tryz.func149 rfl (by rfl) (by kernel_rfl) (qav (L:=lps qZp) [(2,qLM)] (by kernel_rfl) (List.forall_mem_cons.2 ⟨fun fr σ e fr' σ' h=>qRl gl  fr σ e fr' σ' h,(List.forall_mem_nil _)⟩)) ?_
 intro args σ x h;unfold qYH at h
 split at h
 ·exact (congrArg Tr.run (zaa5 _ _)).trans (qae h fun h=>qae h fun h=>by cases h)
 ·cases h
def qNe:GamT:=ofL [(106,.may (frameT qc0)),(113,.may (frameT qts)),(qd7,.flag)]
theorem qQq (gl:Gl):qal Tryz.prog gl (gam qNe):=(qah (SimM.frameT (qbP gl)) (qah (SimM.frameT (qqR gl)) (qbO qaf)))
def qId:Code:=qc2 Tryz.f151 2
def qGJ:LI:=⟨17,[0,1,5],fun e=>match e with|.exit 0=>[5]|_=>[],false⟩
def qEg:LpsT:=fun r fr σ=>.fail
def qkP (vs:List PV) (σ:Store):Option (PExit×List PV×Store):=lval (lstep tbT qNe qEg qId qGJ) vs σ
section
variable (l r:qR) (n:Int)
def qy7:Tr LR:=let z1:=qaa (qbI 6 [44] (qac r) n);let z2:=qac z1;let z3:qR:=[[.int .i64 (qdH z2 n),.str (qdM z2 n),.int .i64 (qcJ z2 n),.int .i64 (qcO z2 n),.str (qcQ z2 n)]];.ite (qa1 6 [44] (qac r) n) (.ite (qbG 6 [44] (qac r) n) (.ite (qfT z2 n) (.ite (qas l z3 56) (.ite (qap z3 5) (.ite (qan l 5) (.ret (.next [.ptr 0 0,.mth 113 [.ptr 0 0],.sl (xApp l z3) (.tok 0)] (Store.mk [[.sl (qaa (qeS z2 n)) .non,.int .i64 n]] [(nXs (xApp l z3),5,94)] [138]))) .fail) .fail) .fail) (.ite (qgK z2 n) (.ret (.out (.pan (.iface 172 (.agg [.int .i64 (qeT z2 n)]))) [] (Store.mk [[.sl (qaa (qeU z2 n)) .non,.int .i64 n]] [] [138]))) .fail)) (.ret (.out (.exit 0) [.sl l .full] (Store.mk [[.sl z1 .non,.int .i64 n]] [] [138])))) .fail
theorem zaaj:lstep tbT qNe qEg qId qGJ [.ptr 0 0,.mth 113 [.ptr 0 0],.sl l .full] ⟨[[.sl r .non,.int .i64 n]],[],[138]⟩=qy7 l r n:=by kernel_rfl
theorem zaav:qkP [.ptr 0 0,.mth 113 [.ptr 0 0],.sl l .full] ⟨[[.sl r .non,.int .i64 n]],[],[138]⟩=lnext qkP (qy7 l r n).run:=by unfold qkP;rw [qaC,zaaj]
end
section
variable (l r:qR) (n:Int) (k:Nat)
def qqQ:Tr LR:=let z1:=qaa (qbI 6 [44] (qac r) n);let z2:=qac z1;let z3:qR:=[[.int .i64 (qdH z2 n),.str (qdM z2 n),.int .i64 (qcJ z2 n),.int .i64 (qcO z2 n),.str (qcQ z2 n)]];.ite (qa1 6 [44] (qac r) n) (.ite (qbG 6 [44] (qac r) n) (.ite (qfT z2 n) (.ite (qas l z3 56) (.ite (qap z3 5) (.ite (qan l 5) (.ite (nEq k (nXs l)) (.ret (.next [.ptr 0 0,.mth 113 [.ptr 0 0],.sl (xApp l z3) (.tok 0)] (Store.mk [[.sl (qaa (qeS z2 n)) .non,.int .i64 n]] [(nXs (xApp l z3),5,94)] [138]))) .fail) .fail) .fail) .fail) (.ite (qgK z2 n) (.ret (.out (.pan (.iface 172 (.agg [.int .i64 (qeT z2 n)]))) [] (Store.mk [[.sl (qaa (qeU z2 n)) .non,.int .i64 n]] [(k,5,94)] [138]))) .fail)) (.ret (.out (.exit 0) [.sl l (.tok 0)] (Store.mk [[.sl z1 .non,.int .i64 n]] [(k,5,94)] [138])))) .fail
theorem qYK:lstep tbT qNe qEg qId qGJ [.ptr 0 0,.mth 113 [.ptr 0 0],.sl l (.tok 0)] ⟨[[.sl r .non,.int .i64 n]],[(k,5,94)],[138]⟩=qqQ l r n k:=by kernel_rfl
theorem qWG:qkP [.ptr 0 0,.mth 113 [.ptr 0 0],.sl l (.tok 0)] ⟨[[.sl r .non,.int .i64 n]],[(k,5,94)],[138]⟩=lnext qkP (qqQ l r n k).run:=by unfold qkP;rw [qaC,qYK]
end
section
variable (l r:qR) (n:Int)
def qfd:Option (PExit×List PV×Store):=qkP [.ptr 0 0,.mth 113 [.ptr 0 0],.sl l .full] ⟨[[.sl r .non,.int .i64 n]],[],[138]⟩
def qvx:Int:=(gInt (gAt (gCs (gAt (gCs (gPan (qfd l r n))) 0)) 0))
def qxB:qR:=qaO 0 0 (qfd l r n)
def qEY:Bool:=isW (qfd l r n) ((.pan (.iface 172 (.agg [.int .i64 (qvx l r n)]))),[],⟨[[.sl (qxB l r n) .non,.int .i64 n]],[],[138]⟩)
def qwr:qR:=qpM 0 (qfd l r n)
def qxC:qR:=qaO 0 0 (qfd l r n)
def qDv:Bool:=isW (qfd l r n) ((.exit 0),[.sl (qwr l r n) .full],⟨[[.sl (qxC l r n) .non,.int .i64 n]],[],[138]⟩)
def qxq:Int:=(gInt (gAt (gCs (gAt (gCs (gPan (qfd l r n))) 0)) 0))
def qxy:qR:=qaO 0 0 (qfd l r n)
def qEO:Nat:=(gTok (qfd l r n) 0)
def qGc:Bool:=isW (qfd l r n) ((.pan (.iface 172 (.agg [.int .i64 (qxq l r n)]))),[],⟨[[.sl (qxy l r n) .non,.int .i64 n]],[((qEO l r n),5,94)],[138]⟩)
def qwo:qR:=qpM 0 (qfd l r n)
def qvE:qR:=qaO 0 0 (qfd l r n)
def qFr:Nat:=(gTok (qfd l r n) 0)
def qC4:Bool:=isW (qfd l r n) ((.exit 0),[.sl (qwo l r n) (.tok 0)],⟨[[.sl (qvE l r n) .non,.int .i64 n]],[((qFr l r n),5,94)],[138]⟩)
end
def qre:List PV→Store→Tr (PExit×List PV×Store)|[.ptr 0 0,.mth 113 [.ptr 0 0],.sl l .full],⟨[[.sl r .non,.int .i64 n]],[],[138]⟩=>.ite (qEY l r n) (.ret ((.pan (.iface 172 (.agg [.int .i64 (qvx l r n)]))),[],⟨[[.sl (qxB l r n) .non,.int .i64 n]],[],[138]⟩)) (.ite (qDv l r n) (.ret ((.exit 0),[.sl (qwr l r n) .full],⟨[[.sl (qxC l r n) .non,.int .i64 n]],[],[138]⟩)) (.ite (qGc l r n) (.ret ((.pan (.iface 172 (.agg [.int .i64 (qxq l r n)]))),[],⟨[[.sl (qxy l r n) .non,.int .i64 n]],[((qEO l r n),5,94)],[138]⟩)) (.ite (qC4 l r n) (.ret ((.exit 0),[.sl (qwo l r n) (.tok 0)],⟨[[.sl (qvE l r n) .non,.int .i64 n]],[((qFr l r n),5,94)],[138]⟩)) (.fail))))|_,_=>.fail
theorem qY2:∀ vs σ r,(qre vs σ).run=some r→qkP vs σ=some r:=by
 intro vs σ r h;unfold qre at h
 split at h
 ·exact qae h fun h=>qae h fun h=>qae h fun h=>qae h fun h=>by cases h
 ·cases h
theorem qRH (gl:Gl):∀ fr σ e fr' σ',(orc qGJ qre fr σ).run=some (e,fr',σ')→LDoes Tryz.prog gl qId fr σ e fr' σ':=qbw qaj (qQq gl ) qai (L:=qEg) (qab (by kernel_rfl)) (by kernel_rfl) qY2
def qYX:LpsT:=fun r fr σ=>bif Nat.beq r 2 then orc qGJ qre fr σ else .fail
section
variable (r:qR) (n:Int)
def qHB:Tr (PR×Store):=let z1:=qac (qac r);let z2:qR:=[[.int .i64 (qdH z1 n),.str (qdM z1 n),.int .i64 (qcJ z1 n),.int .i64 (qcO z1 n),.str (qcQ z1 n)]];let z3:=qaa (qeS z1 n);.ite (qfT z1 n) (.ite (qEY z2 z3 n) (.ret (PR.pan (.iface 172 (.agg [.int .i64 (qvx z2 z3 n)])),Store.mk [[.sl (qaa (qxB z2 z3 n)) .non,.int .i64 n]] [] [138])) (.ite (qDv z2 z3 n) (.ret (PR.val (.sl (qaa (qwr z2 z3 n)) .non),Store.mk [[.sl (qaa (qxC z2 z3 n)) .non,.int .i64 n]] [] [138])) (.ite (qGc z2 z3 n) (.ret (PR.pan (.iface 172 (.agg [.int .i64 (qxq z2 z3 n)])),Store.mk [[.sl (qaa (qxy z2 z3 n)) .non,.int .i64 n]] [] [138])) (.ite (qC4 z2 z3 n) (.ret (PR.val (.sl (qaa (qwo z2 z3 n)) .non),Store.mk [[.sl (qaa (qvE z2 z3 n)) .non,.int .i64 n]] [] [138])) .fail)))) (.ite (qgK z1 n) (.ret (PR.pan (.iface 172 (.agg [.int .i64 (qeT z1 n)])),Store.mk [[.sl (qaa (qaa (qeU z1 n))) .non,.int .i64 n]] [] [138])) .fail)
theorem zabp:(nrmM tbT qNe qYX Tryz.f151 [.ptr 0 0,.mth 113 [.ptr 0 0]] ⟨[[.sl r .non,.int .i64 n]],[],[138]⟩).flat=qHB r n:=by kernel_rfl
def qA7:Option (PR×Store):=(qHB r n).run
def qFP:Int:=oG (qA7 r n)
def qDI:qR:=qbn 0 0 (qA7 r n)
def qJE:Bool:=isW (qA7 r n) ((.pan (.iface 172 (.agg [.int .i64 (qFP r n)]))),⟨[[.sl (qDI r n) .non,.int .i64 n]],[],[138]⟩)
def qDK:qR:=qGB (qA7 r n)
def qxN:qR:=qbn 0 0 (qA7 r n)
def qLf:Bool:=isW (qA7 r n) ((.val (.sl (qDK r n) .non)),⟨[[.sl (qxN r n) .non,.int .i64 n]],[],[138]⟩)
end
def qYh:List PV→Store→Tr (PR×Store)|[.ptr 0 0,.mth 113 [.ptr 0 0]],⟨[[.sl r .non,.int .i64 n]],[],[138]⟩=>.ite (qJE r n) (.ret ((.pan (.iface 172 (.agg [.int .i64 (qFP r n)]))),⟨[[.sl (qDI r n) .non,.int .i64 n]],[],[138]⟩)) (.ite (qLf r n) (.ret ((.val (.sl (qDK r n) .non)),⟨[[.sl (qxN r n) .non,.int .i64 n]],[],[138]⟩)) (.fail))|_,_=>.fail
theorem qXA (gl:Gl):SimM Tryz.prog gl 151 fun args σ=>(qYh args σ).run:=by
 refine SimM.of_nrm (G:=qNe) (L:=qYX) qaj (qQq gl ) qai Tryz.func151 rfl (by rfl) (by kernel_rfl) (qav (L:=lps qYX) [(2,qId)] (by kernel_rfl) (List.forall_mem_cons.2 ⟨fun fr σ e fr' σ' h=>qRH gl  fr σ e fr' σ' h,(List.forall_mem_nil _)⟩)) ?_
 intro args σ x h;unfold qYh at h
 split at h
 ·exact (congrArg Tr.run (zabp _ _)).trans (qae h fun h=>qae h fun h=>by cases h)
 ·cases h
def qXu:GamT:=ofL [(106,.may (frameT qc0)),(109,.may (frameT qjr)),(113,.may (frameT qts)),(151,.may (frameT qYh)),(qd7,.flag)]
theorem qXr (gl:Gl):qal Tryz.prog gl (gam qXu):=(qah (SimM.frameT (qbP gl)) (qah (SimM.frameT (qge gl)) (qah (SimM.frameT (qqR gl)) (qah (SimM.frameT (qXA gl)) (qbO qaf)))))
def qZ7:LpsT:=fun r fr σ=>.fail
section
variable (r:qR) (n:Int)
def qzL:Tr (PR×Store):=let z1:=qac (qac r);let z2:=qac (qaa (qbD [40] z1 n));let z3:=qaa (qbI 6 [41] z2 n);let z4:=qac z3;let z5:=qac (qaa (qxN z4 n));.ite (qbS [40] z1 n) (.ret (PR.pan (.iface 172 (.agg [.int .i64 (qbH [40] z1 n)])),Store.mk [[.sl (qaa (qaa (qbF [40] z1 n))) .non,.int .i64 n]] [] [138])) (.ite (qbQ [40] z1 n) (.ite (qa1 6 [41] z2 n) (.ite (qbG 6 [41] z2 n) (.ret (PR.val (.sl [] .non),Store.mk [[.sl (qaa z3) .non,.int .i64 n]] [] [138])) (.ite (qJE z4 n) (.ret (PR.pan (.iface 172 (.agg [.int .i64 (qFP z4 n)])),Store.mk [[.sl (qaa (qaa (qDI z4 n))) .non,.int .i64 n]] [] [138])) (.ite (qLf z4 n) (.ite (qbS [41] z5 n) (.ret (PR.pan (.iface 172 (.agg [.int .i64 (qbH [41] z5 n)])),Store.mk [[.sl (qaa (qaa (qbF [41] z5 n))) .non,.int .i64 n]] [] [138])) (.ite (qbQ [41] z5 n) (.ret (PR.val (.sl (qaa (qaa (qDK z4 n))) .non),Store.mk [[.sl (qaa (qaa (qbD [41] z5 n))) .non,.int .i64 n]] [] [138])) .fail)) .fail))) .fail) .fail)
theorem zabr:(nrmM tbT qXu qZ7 Tryz.f112 [.ptr 0 0,.mth 113 [.ptr 0 0]] ⟨[[.sl r .non,.int .i64 n]],[],[138]⟩).flat=qzL r n:=by kernel_rfl
def qvg:Option (PR×Store):=(qzL r n).run
def qGs:Int:=oG (qvg r n)
def qEP:qR:=qbn 0 0 (qvg r n)
def qLa:Bool:=isW (qvg r n) ((.pan (.iface 172 (.agg [.int .i64 (qGs r n)]))),⟨[[.sl (qEP r n) .non,.int .i64 n]],[],[138]⟩)
def qDM:qR:=qGB (qvg r n)
def qwD:qR:=qbn 0 0 (qvg r n)
def qJb:Bool:=isW (qvg r n) ((.val (.sl (qDM r n) .non)),⟨[[.sl (qwD r n) .non,.int .i64 n]],[],[138]⟩)
end
def qWH:List PV→Store→Tr (PR×Store)|[.ptr 0 0,.mth 113 [.ptr 0 0]],⟨[[.sl r .non,.int .i64 n]],[],[138]⟩=>.ite (qLa r n) (.ret ((.pan (.iface 172 (.agg [.int .i64 (qGs r n)]))),⟨[[.sl (qEP r n) .non,.int .i64 n]],[],[138]⟩)) (.ite (qJb r n) (.ret ((.val (.sl (qDM r n) .non)),⟨[[.sl (qwD r n) .non,.int .i64 n]],[],[138]⟩)) (.fail))|_,_=>.fail
theorem qXo (gl:Gl):SimM Tryz.prog gl 112 fun args σ=>(qWH args σ).run:=by
 refine SimM.of_nrm (G:=qXu) (L:=qZ7) qaj (qXr gl ) qai Tryz.func112 rfl (by rfl) (by kernel_rfl) (qab (by kernel_rfl)) ?_
 intro args σ x h;unfold qWH at h
 split at h
 ·exact (congrArg Tr.run (zabr _ _)).trans (qae h fun h=>qae h fun h=>by cases h)
 ·cases h
def qLc:GamT:=ofL [(111,.may (frameT qAv)),(112,.may (frameT qWH)),(113,.may (frameT qts)),(qd7,.flag)]
theorem qR8 (gl:Gl):qal Tryz.prog gl (gam qLc):=(qah (SimM.frameT (qzT gl)) (qah (SimM.frameT (qXo gl)) (qah (SimM.frameT (qqR gl)) (qbO qaf))))
def qSY:LpsT:=fun r fr σ=>.fail
section
variable (r:qR) (n:Int)
def qxW:Tr (PR×Store):=let z1:=qac (qac r);let z2:=qac (qaa (qh2 z1 n));.ite (qk0 z1 n) (.ret (PR.pan (.iface 172 (.agg [.int .i64 (qi6 z1 n)])),Store.mk [[.sl (qaa (qaa (qhQ z1 n))) .non,.int .i64 n]] [] [138])) (.ite (qk6 z1 n) (.ite (qLa z2 n) (.ret (PR.pan (.iface 172 (.agg [.int .i64 (qGs z2 n)])),Store.mk [[.sl (qaa (qaa (qEP z2 n))) .non,.int .i64 n]] [] [138])) (.ite (qJb z2 n) (.ret (PR.val (.agg [.str (qgq z1 n),.sl (qaa (qaa (qDM z2 n))) .non]),Store.mk [[.sl (qaa (qaa (qwD z2 n))) .non,.int .i64 n]] [] [138])) .fail)) .fail)
theorem qYE:(nrmM tbT qLc qSY Tryz.f51 [.ptr 0 0] ⟨[[.sl r .non,.int .i64 n]],[],[138]⟩).flat=qxW r n:=by kernel_rfl
def qhz:Option (PR×Store):=(qxW r n).run
def qeW:Int:=oG (qhz r n)
def qeV:qR:=qbn 0 0 (qhz r n)
def qgc:Bool:=isW (qhz r n) ((.pan (.iface 172 (.agg [.int .i64 (qeW r n)]))),⟨[[.sl (qeV r n) .non,.int .i64 n]],[],[138]⟩)
def qdU:qU:=qbo 0 (qhz r n)
def qgj:qR:=qcX 1 (qhz r n)
def qeB:qR:=qbn 0 0 (qhz r n)
def qf0:Bool:=isW (qhz r n) ((.val (.agg [.str (qdU r n),.sl (qgj r n) .non])),⟨[[.sl (qeB r n) .non,.int .i64 n]],[],[138]⟩)
end
def qys:List PV→Store→Tr (PR×Store)|[.ptr 0 0],⟨[[.sl r .non,.int .i64 n]],[],[138]⟩=>.ite (qgc r n) (.ret ((.pan (.iface 172 (.agg [.int .i64 (qeW r n)]))),⟨[[.sl (qeV r n) .non,.int .i64 n]],[],[138]⟩)) (.ite (qf0 r n) (.ret ((.val (.agg [.str (qdU r n),.sl (qgj r n) .non])),⟨[[.sl (qeB r n) .non,.int .i64 n]],[],[138]⟩)) (.fail))|_,_=>.fail
theorem qyh (gl:Gl):SimM Tryz.prog gl 51 fun args σ=>(qys args σ).run:=by
 refine SimM.of_nrm (G:=qLc) (L:=qSY) qaj (qR8 gl ) qai Tryz.func51 rfl (by rfl) (by kernel_rfl) (qab (by kernel_rfl)) ?_
 intro args σ x h;unfold qys at h
 split at h
 ·exact (congrArg Tr.run (qYE _ _)).trans (qae h fun h=>qae h fun h=>by cases h)
 ·cases h
def qS1:GamT:=ofL [(51,.may (frameT qys)),(106,.may (frameT qc0)),(113,.may (frameT qts)),(148,.pure qvJ),(149,.may (frameT qYH))]
theorem qTg (gl:Gl):qal Tryz.prog gl (gam qS1):=(qah (SimM.frameT (qyh gl)) (qah (SimM.frameT (qbP gl)) (qah (SimM.frameT (qqR gl)) (qag (qCF gl) (qah (SimM.frameT (qZi gl)) qaf)))))
def qVv:LpsT:=fun r fr σ=>.fail
section
variable (r:qR) (n:Int)
def qpr:Tr (PR×Store):=let z1:=qac (qac r);let z2:=qac (qaa (qbI 1 [110,111,116] z1 n));let z3:=qaa (qaa (qgj z2 n));let z4:qR:=[[.sl (qaa (qaa (qeB z2 n))) .non,.int .i64 n]];let z5:=qac (qaa (qeS z2 n));let z6:=qac (qaa (qFE z5 n));let z7:List PV:=[.int .i64 (qdH z2 n),.str (qdM z2 n),.int .i64 (qcJ z2 n),.int .i64 (qcO z2 n),.str (qcQ z2 n)];.ite (qa1 1 [110,111,116] z1 n) (.ite (qbG 1 [110,111,116] z1 n) (.ite (qgc z2 n) (.ret (PR.pan (.iface 172 (.agg [.int .i64 (qeW z2 n)])),Store.mk [[.sl (qaa (qaa (qeV z2 n))) .non,.int .i64 n]] [] [138])) (.ite (qf0 z2 n) (.ret (PR.val (.agg [.int .i64 2,.str (qdU z2 n),.sl z3 .non,.int .i64 0,.int .i64 0,.str [],.int .i64 0,.int .i64 0,.str [],.int .i64 0,.str [],.int .i64 0,.int .i64 0,.str []]),Store.mk z4 [] [138])) .fail)) (.ite (qmt z2 n) (.ite (qsB z2 n) (.ite (qgc z2 n) (.ret (PR.pan (.iface 172 (.agg [.int .i64 (qeW z2 n)])),Store.mk [[.sl (qaa (qaa (qeV z2 n))) .non,.int .i64 n]] [] [138])) (.ite (qf0 z2 n) (.ret (PR.val (.agg [.int .i64 1,.str (qdU z2 n),.sl z3 .non,.int .i64 0,.int .i64 0,.str [],.int .i64 0,.int .i64 0,.str [],.int .i64 0,.str [],.int .i64 0,.int .i64 0,.str []]),Store.mk z4 [] [138])) .fail)) (.ite (qfT z2 n) (.ite (qIJ z5 n) (.ite (qfT z6 n) (.ite (qdY z7 z7) (.ret (PR.val (.agg [.int .i64 3,.str [],.sl [] .non,.int .i64 (qDw z5 n),.int .i64 (qdH z2 n),.str (qdM z2 n),.int .i64 (qcJ z2 n),.int .i64 (qcO z2 n),.str (qcQ z2 n),.int .i64 (qdH z6 n),.str (qdM z6 n),.int .i64 (qcJ z6 n),.int .i64 (qcO z6 n),.str (qcQ z6 n)]),Store.mk [[.sl (qaa (qaa (qeS z6 n))) .non,.int .i64 n]] [] [138])) .fail) (.ite (qgK z6 n) (.ret (PR.pan (.iface 172 (.agg [.int .i64 (qeT z6 n)])),Store.mk [[.sl (qaa (qaa (qeU z6 n))) .non,.int .i64 n]] [] [138])) .fail)) (.ite (qJG z5 n) (.ret (PR.pan (.iface 172 (.agg [.int .i64 (qEV z5 n)])),Store.mk [[.sl (qaa (qaa (qF8 z5 n))) .non,.int .i64 n]] [] [138])) .fail)) (.ite (qgK z2 n) (.ret (PR.pan (.iface 172 (.agg [.int .i64 (qeT z2 n)])),Store.mk [[.sl (qaa (qaa (qeU z2 n))) .non,.int .i64 n]] [] [138])) .fail))) .fail)) .fail
theorem zaaI:(nrmM tbT qS1 qVv Tryz.f108 [.ptr 0 0] ⟨[[.sl r .non,.int .i64 n]],[],[138]⟩).flat=qpr r n:=by kernel_rfl
def qcm:Option (PR×Store):=(qpr r n).run
def qnQ:Int:=oG (qcm r n)
def qnt:qR:=qbn 0 0 (qcm r n)
def qsk:Bool:=isW (qcm r n) ((.pan (.iface 172 (.agg [.int .i64 (qnQ r n)]))),⟨[[.sl (qnt r n) .non,.int .i64 n]],[],[138]⟩)
def qmU:Int:=qbg 0 (qcm r n)
def qnJ:qU:=qbo 1 (qcm r n)
def qnl:qR:=qcX 2 (qcm r n)
def qi2:Int:=qbg 3 (qcm r n)
def qiD:Int:=qbg 4 (qcm r n)
def qi7:qU:=qbo 5 (qcm r n)
def qhY:Int:=qbg 6 (qcm r n)
def qh3:Int:=qbg 7 (qcm r n)
def qi1:qU:=qbo 8 (qcm r n)
def qie:Int:=qbg 9 (qcm r n)
def qiA:qU:=qbo 10 (qcm r n)
def qhV:Int:=qbg 11 (qcm r n)
def qiN:Int:=qbg 12 (qcm r n)
def qiG:qU:=qbo 13 (qcm r n)
def qit:qR:=qbn 0 0 (qcm r n)
def qsy:Bool:=isW (qcm r n) ((.val (.agg [.int .i64 (qmU r n),.str (qnJ r n),.sl (qnl r n) .non,.int .i64 (qi2 r n),.int .i64 (qiD r n),.str (qi7 r n),.int .i64 (qhY r n),.int .i64 (qh3 r n),.str (qi1 r n),.int .i64 (qie r n),.str (qiA r n),.int .i64 (qhV r n),.int .i64 (qiN r n),.str (qiG r n)])),⟨[[.sl (qit r n) .non,.int .i64 n]],[],[138]⟩)
end
def qLq:List PV→Store→Tr (PR×Store)|[.ptr 0 0],⟨[[.sl r .non,.int .i64 n]],[],[138]⟩=>.ite (qsk r n) (.ret ((.pan (.iface 172 (.agg [.int .i64 (qnQ r n)]))),⟨[[.sl (qnt r n) .non,.int .i64 n]],[],[138]⟩)) (.ite (qsy r n) (.ret ((.val (.agg [.int .i64 (qmU r n),.str (qnJ r n),.sl (qnl r n) .non,.int .i64 (qi2 r n),.int .i64 (qiD r n),.str (qi7 r n),.int .i64 (qhY r n),.int .i64 (qh3 r n),.str (qi1 r n),.int .i64 (qie r n),.str (qiA r n),.int .i64 (qhV r n),.int .i64 (qiN r n),.str (qiG r n)])),⟨[[.sl (qit r n) .non,.int .i64 n]],[],[138]⟩)) (.fail))|_,_=>.fail
theorem qMm (gl:Gl):SimM Tryz.prog gl 108 fun args σ=>(qLq args σ).run:=by
 refine SimM.of_nrm (G:=qS1) (L:=qVv) qaj (qTg gl ) qai Tryz.func108 rfl (by rfl) (by kernel_rfl) (qab (by kernel_rfl)) ?_
 intro args σ x h;unfold qLq at h
 split at h
 ·exact (congrArg Tr.run (zaaI _ _)).trans (qae h fun h=>qae h fun h=>by cases h)
 ·cases h
def qM0:GamT:=ofL [(106,.may (frameT qc0)),(108,.may (frameT qLq)),(qd7,.flag)]
theorem qRF (gl:Gl):qal Tryz.prog gl (gam qM0):=(qah (SimM.frameT (qbP gl)) (qah (SimM.frameT (qMm gl)) (qbO qaf)))
def qGX:Code:=qc2 Tryz.f107 2
def qHx:LI:=⟨17,[0,1,5],fun e=>match e with|.exit 0=>[5]|_=>[],false⟩
def qFL:LpsT:=fun r fr σ=>.fail
def qkQ (vs:List PV) (σ:Store):Option (PExit×List PV×Store):=lval (lstep tbT qM0 qFL qGX qHx) vs σ
section
variable (l r:qR) (n:Int)
def qzR:Tr LR:=let z1:=qaa (qbI 6 [44] (qac r) n);let z2:=qac z1;let z3:qR:=[[.int .i64 (qmU z2 n),.str (qnJ z2 n),.sl (qaa (qnl z2 n)) .non,.int .i64 (qi2 z2 n),.int .i64 (qiD z2 n),.str (qi7 z2 n),.int .i64 (qhY z2 n),.int .i64 (qh3 z2 n),.str (qi1 z2 n),.int .i64 (qie z2 n),.str (qiA z2 n),.int .i64 (qhV z2 n),.int .i64 (qiN z2 n),.str (qiG z2 n)]];.ite (qa1 6 [44] (qac r) n) (.ite (qbG 6 [44] (qac r) n) (.ite (qsk z2 n) (.ret (.out (.pan (.iface 172 (.agg [.int .i64 (qnQ z2 n)]))) [] (Store.mk [[.sl (qaa (qnt z2 n)) .non,.int .i64 n]] [] [138]))) (.ite (qsy z2 n) (.ite (qas l z3 168) (.ite (qap z3 14) (.ite (qan l 14) (.ret (.next [.ptr 0 0,.mth 108 [.ptr 0 0],.sl (xApp l z3) (.tok 0)] (Store.mk [[.sl (qaa (qit z2 n)) .non,.int .i64 n]] [(nXs (xApp l z3),14,96)] [138]))) .fail) .fail) .fail) .fail)) (.ret (.out (.exit 0) [.sl l .full] (Store.mk [[.sl z1 .non,.int .i64 n]] [] [138])))) .fail
theorem qZF:lstep tbT qM0 qFL qGX qHx [.ptr 0 0,.mth 108 [.ptr 0 0],.sl l .full] ⟨[[.sl r .non,.int .i64 n]],[],[138]⟩=qzR l r n:=by kernel_rfl
theorem zaaS:qkQ [.ptr 0 0,.mth 108 [.ptr 0 0],.sl l .full] ⟨[[.sl r .non,.int .i64 n]],[],[138]⟩=lnext qkQ (qzR l r n).run:=by unfold qkQ;rw [qaC,qZF]
end
section
variable (l r:qR) (n:Int) (k:Nat)
def qqY:Tr LR:=let z1:=qaa (qbI 6 [44] (qac r) n);let z2:=qac z1;let z3:qR:=[[.int .i64 (qmU z2 n),.str (qnJ z2 n),.sl (qaa (qnl z2 n)) .non,.int .i64 (qi2 z2 n),.int .i64 (qiD z2 n),.str (qi7 z2 n),.int .i64 (qhY z2 n),.int .i64 (qh3 z2 n),.str (qi1 z2 n),.int .i64 (qie z2 n),.str (qiA z2 n),.int .i64 (qhV z2 n),.int .i64 (qiN z2 n),.str (qiG z2 n)]];.ite (qa1 6 [44] (qac r) n) (.ite (qbG 6 [44] (qac r) n) (.ite (qsk z2 n) (.ret (.out (.pan (.iface 172 (.agg [.int .i64 (qnQ z2 n)]))) [] (Store.mk [[.sl (qaa (qnt z2 n)) .non,.int .i64 n]] [(k,14,96)] [138]))) (.ite (qsy z2 n) (.ite (qas l z3 168) (.ite (qap z3 14) (.ite (qan l 14) (.ite (nEq k (nXs l)) (.ret (.next [.ptr 0 0,.mth 108 [.ptr 0 0],.sl (xApp l z3) (.tok 0)] (Store.mk [[.sl (qaa (qit z2 n)) .non,.int .i64 n]] [(nXs (xApp l z3),14,96)] [138]))) .fail) .fail) .fail) .fail) .fail)) (.ret (.out (.exit 0) [.sl l (.tok 0)] (Store.mk [[.sl z1 .non,.int .i64 n]] [(k,14,96)] [138])))) .fail
theorem qZd:lstep tbT qM0 qFL qGX qHx [.ptr 0 0,.mth 108 [.ptr 0 0],.sl l (.tok 0)] ⟨[[.sl r .non,.int .i64 n]],[(k,14,96)],[138]⟩=qqY l r n k:=by kernel_rfl
theorem qY0:qkQ [.ptr 0 0,.mth 108 [.ptr 0 0],.sl l (.tok 0)] ⟨[[.sl r .non,.int .i64 n]],[(k,14,96)],[138]⟩=lnext qkQ (qqY l r n k).run:=by unfold qkQ;rw [qaC,qZd]
end
section
variable (l r:qR) (n:Int)
def qfe:Option (PExit×List PV×Store):=qkQ [.ptr 0 0,.mth 108 [.ptr 0 0],.sl l .full] ⟨[[.sl r .non,.int .i64 n]],[],[138]⟩
def qwP:Int:=(gInt (gAt (gCs (gAt (gCs (gPan (qfe l r n))) 0)) 0))
def qxZ:qR:=qaO 0 0 (qfe l r n)
def qFZ:Bool:=isW (qfe l r n) ((.pan (.iface 172 (.agg [.int .i64 (qwP l r n)]))),[],⟨[[.sl (qxZ l r n) .non,.int .i64 n]],[],[138]⟩)
def qxY:qR:=qpM 0 (qfe l r n)
def qvI:qR:=qaO 0 0 (qfe l r n)
def qFO:Bool:=isW (qfe l r n) ((.exit 0),[.sl (qxY l r n) .full],⟨[[.sl (qvI l r n) .non,.int .i64 n]],[],[138]⟩)
def qvp:Int:=(gInt (gAt (gCs (gAt (gCs (gPan (qfe l r n))) 0)) 0))
def qxK:qR:=qaO 0 0 (qfe l r n)
def qGd:Nat:=(gTok (qfe l r n) 0)
def qEJ:Bool:=isW (qfe l r n) ((.pan (.iface 172 (.agg [.int .i64 (qvp l r n)]))),[],⟨[[.sl (qxK l r n) .non,.int .i64 n]],[((qGd l r n),14,96)],[138]⟩)
def qxn:qR:=qpM 0 (qfe l r n)
def qxz:qR:=qaO 0 0 (qfe l r n)
def qC3:Nat:=(gTok (qfe l r n) 0)
def qD9:Bool:=isW (qfe l r n) ((.exit 0),[.sl (qxn l r n) (.tok 0)],⟨[[.sl (qxz l r n) .non,.int .i64 n]],[((qC3 l r n),14,96)],[138]⟩)
end
def qtf:List PV→Store→Tr (PExit×List PV×Store)|[.ptr 0 0,.mth 108 [.ptr 0 0],.sl l .full],⟨[[.sl r .non,.int .i64 n]],[],[138]⟩=>.ite (qFZ l r n) (.ret ((.pan (.iface 172 (.agg [.int .i64 (qwP l r n)]))),[],⟨[[.sl (qxZ l r n) .non,.int .i64 n]],[],[138]⟩)) (.ite (qFO l r n) (.ret ((.exit 0),[.sl (qxY l r n) .full],⟨[[.sl (qvI l r n) .non,.int .i64 n]],[],[138]⟩)) (.ite (qEJ l r n) (.ret ((.pan (.iface 172 (.agg [.int .i64 (qvp l r n)]))),[],⟨[[.sl (qxK l r n) .non,.int .i64 n]],[((qGd l r n),14,96)],[138]⟩)) (.ite (qD9 l r n) (.ret ((.exit 0),[.sl (qxn l r n) (.tok 0)],⟨[[.sl (qxz l r n) .non,.int .i64 n]],[((qC3 l r n),14,96)],[138]⟩)) (.fail))))|_,_=>.fail
theorem qYf:∀ vs σ r,(qtf vs σ).run=some r→qkQ vs σ=some r:=by
 intro vs σ r h;unfold qtf at h
 split at h
 ·exact qae h fun h=>qae h fun h=>qae h fun h=>qae h fun h=>by cases h
 ·cases h
theorem qQ2 (gl:Gl):∀ fr σ e fr' σ',(orc qHx qtf fr σ).run=some (e,fr',σ')→LDoes Tryz.prog gl qGX fr σ e fr' σ':=qbw qaj (qRF gl ) qai (L:=qFL) (qab (by kernel_rfl)) (by kernel_rfl) qYf
def qXe:LpsT:=fun r fr σ=>bif Nat.beq r 2 then orc qHx qtf fr σ else .fail
section
variable (r:qR) (n:Int)
def qHe:Tr (PR×Store):=let z1:=qac (qac r);let z2:qR:=[[.int .i64 (qmU z1 n),.str (qnJ z1 n),.sl (qaa (qnl z1 n)) .non,.int .i64 (qi2 z1 n),.int .i64 (qiD z1 n),.str (qi7 z1 n),.int .i64 (qhY z1 n),.int .i64 (qh3 z1 n),.str (qi1 z1 n),.int .i64 (qie z1 n),.str (qiA z1 n),.int .i64 (qhV z1 n),.int .i64 (qiN z1 n),.str (qiG z1 n)]];let z3:=qaa (qit z1 n);.ite (qsk z1 n) (.ret (PR.pan (.iface 172 (.agg [.int .i64 (qnQ z1 n)])),Store.mk [[.sl (qaa (qaa (qnt z1 n))) .non,.int .i64 n]] [] [138])) (.ite (qsy z1 n) (.ite (qFZ z2 z3 n) (.ret (PR.pan (.iface 172 (.agg [.int .i64 (qwP z2 z3 n)])),Store.mk [[.sl (qaa (qxZ z2 z3 n)) .non,.int .i64 n]] [] [138])) (.ite (qFO z2 z3 n) (.ret (PR.val (.sl (qaa (qxY z2 z3 n)) .non),Store.mk [[.sl (qaa (qvI z2 z3 n)) .non,.int .i64 n]] [] [138])) (.ite (qEJ z2 z3 n) (.ret (PR.pan (.iface 172 (.agg [.int .i64 (qvp z2 z3 n)])),Store.mk [[.sl (qaa (qxK z2 z3 n)) .non,.int .i64 n]] [] [138])) (.ite (qD9 z2 z3 n) (.ret (PR.val (.sl (qaa (qxn z2 z3 n)) .non),Store.mk [[.sl (qaa (qxz z2 z3 n)) .non,.int .i64 n]] [] [138])) .fail)))) .fail)
theorem zaa7:(nrmM tbT qM0 qXe Tryz.f107 [.ptr 0 0,.mth 108 [.ptr 0 0]] ⟨[[.sl r .non,.int .i64 n]],[],[138]⟩).flat=qHe r n:=by kernel_rfl
def qBc:Option (PR×Store):=(qHe r n).run
def qC5:Int:=oG (qBc r n)
def qC8:qR:=qbn 0 0 (qBc r n)
def qKd:Bool:=isW (qBc r n) ((.pan (.iface 172 (.agg [.int .i64 (qC5 r n)]))),⟨[[.sl (qC8 r n) .non,.int .i64 n]],[],[138]⟩)
def qDm:qR:=qGB (qBc r n)
def qw0:qR:=qbn 0 0 (qBc r n)
def qJI:Bool:=isW (qBc r n) ((.val (.sl (qDm r n) .non)),⟨[[.sl (qw0 r n) .non,.int .i64 n]],[],[138]⟩)
end
def qWo:List PV→Store→Tr (PR×Store)|[.ptr 0 0,.mth 108 [.ptr 0 0]],⟨[[.sl r .non,.int .i64 n]],[],[138]⟩=>.ite (qKd r n) (.ret ((.pan (.iface 172 (.agg [.int .i64 (qC5 r n)]))),⟨[[.sl (qC8 r n) .non,.int .i64 n]],[],[138]⟩)) (.ite (qJI r n) (.ret ((.val (.sl (qDm r n) .non)),⟨[[.sl (qw0 r n) .non,.int .i64 n]],[],[138]⟩)) (.fail))|_,_=>.fail
theorem qYb (gl:Gl):SimM Tryz.prog gl 107 fun args σ=>(qWo args σ).run:=by
 refine SimM.of_nrm (G:=qM0) (L:=qXe) qaj (qRF gl ) qai Tryz.func107 rfl (by rfl) (by kernel_rfl) (qav (L:=lps qXe) [(2,qGX)] (by kernel_rfl) (List.forall_mem_cons.2 ⟨fun fr σ e fr' σ' h=>qQ2 gl  fr σ e fr' σ' h,(List.forall_mem_nil _)⟩)) ?_
 intro args σ x h;unfold qWo at h
 split at h
 ·exact (congrArg Tr.run (zaa7 _ _)).trans (qae h fun h=>qae h fun h=>by cases h)
 ·cases h
def qJq:GamT:=ofL [(51,.may (frameT qys)),(106,.may (frameT qc0)),(107,.may (frameT qWo)),(108,.may (frameT qLq)),(109,.may (frameT qjr)),(qd7,.flag)]
theorem qRS (gl:Gl):qal Tryz.prog gl (gam qJq):=(qah (SimM.frameT (qyh gl)) (qah (SimM.frameT (qbP gl)) (qah (SimM.frameT (qYb gl)) (qah (SimM.frameT (qMm gl)) (qah (SimM.frameT (qge gl)) (qbO qaf))))))
def qSB:LpsT:=fun r fr σ=>.fail
section
variable (r:qR) (n:Int)
def qn1:Tr (PR×Store):=let z1:=qac (qac r);let z2:=qac (qaa (qeB z1 n));let z3:=qac (qaa (qbI 6 [58,45] z2 n));let z4:=qac (qaa (qw0 z3 n));let z5:=qaa (qaa (qgj z1 n));.ite (qgc z1 n) (.ret (PR.pan (.iface 172 (.agg [.int .i64 (qeW z1 n)])),Store.mk [[.sl (qaa (qaa (qeV z1 n))) .non,.int .i64 n]] [] [138])) (.ite (qf0 z1 n) (.ite (qa1 6 [58,45] z2 n) (.ite (qbG 6 [58,45] z2 n) (.ite (qKd z3 n) (.ret (PR.pan (.iface 172 (.agg [.int .i64 (qC5 z3 n)])),Store.mk [[.sl (qaa (qaa (qC8 z3 n))) .non,.int .i64 n]] [] [138])) (.ite (qJI z3 n) (.ite (qbS [46] z4 n) (.ret (PR.pan (.iface 172 (.agg [.int .i64 (qbH [46] z4 n)])),Store.mk [[.sl (qaa (qaa (qbF [46] z4 n))) .non,.int .i64 n]] [] [138])) (.ite (qbQ [46] z4 n) (.ret (PR.val (.agg [.str (qdU z1 n),.sl z5 .non,.sl (qaa (qaa (qDm z3 n))) .non]),Store.mk [[.sl (qaa (qaa (qbD [46] z4 n))) .non,.int .i64 n]] [] [138])) .fail)) .fail)) (.ite (qbS [46] z3 n) (.ret (PR.pan (.iface 172 (.agg [.int .i64 (qbH [46] z3 n)])),Store.mk [[.sl (qaa (qaa (qbF [46] z3 n))) .non,.int .i64 n]] [] [138])) (.ite (qbQ [46] z3 n) (.ret (PR.val (.agg [.str (qdU z1 n),.sl z5 .non,.sl [] .non]),Store.mk [[.sl (qaa (qaa (qbD [46] z3 n))) .non,.int .i64 n]] [] [138])) .fail))) .fail) .fail)
theorem qWl:(nrmM tbT qJq qSB Tryz.f47 [.ptr 0 0] ⟨[[.sl r .non,.int .i64 n]],[],[138]⟩).flat=qn1 r n:=by kernel_rfl
def qel:Option (PR×Store):=(qn1 r n).run
def qlW:Int:=oG (qel r n)
def qlR:qR:=qbn 0 0 (qel r n)
def qr0:Bool:=isW (qel r n) ((.pan (.iface 172 (.agg [.int .i64 (qlW r n)]))),⟨[[.sl (qlR r n) .non,.int .i64 n]],[],[138]⟩)
def qlc:qU:=qbo 0 (qel r n)
def qlQ:qR:=qcX 1 (qel r n)
def qiT:qR:=qcX 2 (qel r n)
def qi3:qR:=qbn 0 0 (qel r n)
def qqD:Bool:=isW (qel r n) ((.val (.agg [.str (qlc r n),.sl (qlQ r n) .non,.sl (qiT r n) .non])),⟨[[.sl (qi3 r n) .non,.int .i64 n]],[],[138]⟩)
end
def qEE:List PV→Store→Tr (PR×Store)|[.ptr 0 0],⟨[[.sl r .non,.int .i64 n]],[],[138]⟩=>.ite (qr0 r n) (.ret ((.pan (.iface 172 (.agg [.int .i64 (qlW r n)]))),⟨[[.sl (qlR r n) .non,.int .i64 n]],[],[138]⟩)) (.ite (qqD r n) (.ret ((.val (.agg [.str (qlc r n),.sl (qlQ r n) .non,.sl (qiT r n) .non])),⟨[[.sl (qi3 r n) .non,.int .i64 n]],[],[138]⟩)) (.fail))|_,_=>.fail
theorem qIh (gl:Gl):SimM Tryz.prog gl 47 fun args σ=>(qEE args σ).run:=by
 refine SimM.of_nrm (G:=qJq) (L:=qSB) qaj (qRS gl ) qai Tryz.func47 rfl (by rfl) (by kernel_rfl) (qab (by kernel_rfl)) ?_
 intro args σ x h;unfold qEE at h
 split at h
 ·exact (congrArg Tr.run (qWl _ _)).trans (qae h fun h=>qae h fun h=>by cases h)
 ·cases h
def qOw:GamT:=ofL [(106,.may (frameT qc0)),(138,.may (frameT qB0)),(qd7,.flag)]
theorem qRJ (gl:Gl):qal Tryz.prog gl (gam qOw):=(qah (SimM.frameT (qbP gl)) (qah (SimM.frameT (qwX gl)) (qbO qaf)))
def qHO:Code:=qc2 Tryz.f161 2
def qH8:LI:=⟨17,[0,1,5],fun e=>match e with|.exit 0=>[5]|_=>[],false⟩
def qEH:LpsT:=fun r fr σ=>.fail
def qkJ (vs:List PV) (σ:Store):Option (PExit×List PV×Store):=lval (lstep tbT qOw qEH qHO qH8) vs σ
section
variable (l r:qR) (n:Int)
def qzU:Tr LR:=let z1:=qaa (qbI 6 [44] (qac r) n);let z2:=qac z1;let z3:qR:=[[.int .i64 (qj2 z2 n)]];.ite (qa1 6 [44] (qac r) n) (.ite (qbG 6 [44] (qac r) n) (.ite (qnB z2 n) (.ite (qas l z3 8) (.ite (qap z3 1) (.ite (qan l 1) (.ret (.next [.ptr 0 0,.mth 138 [.ptr 0 0],.sl (xApp l z3) (.tok 0)] (Store.mk [[.sl (qaa (qjB z2 n)) .non,.int .i64 n]] [(nXs (xApp l z3),1,112)] [138]))) .fail) .fail) .fail) (.ite (qmE z2 n) (.ret (.out (.pan (.iface 172 (.agg [.int .i64 (qkg z2 n)]))) [] (Store.mk [[.sl (qaa (qjs z2 n)) .non,.int .i64 n]] [] [138]))) .fail)) (.ret (.out (.exit 0) [.sl l .full] (Store.mk [[.sl z1 .non,.int .i64 n]] [] [138])))) .fail
theorem qZS:lstep tbT qOw qEH qHO qH8 [.ptr 0 0,.mth 138 [.ptr 0 0],.sl l .full] ⟨[[.sl r .non,.int .i64 n]],[],[138]⟩=qzU l r n:=by kernel_rfl
theorem qZO:qkJ [.ptr 0 0,.mth 138 [.ptr 0 0],.sl l .full] ⟨[[.sl r .non,.int .i64 n]],[],[138]⟩=lnext qkJ (qzU l r n).run:=by unfold qkJ;rw [qaC,qZS]
end
section
variable (l r:qR) (n:Int) (k:Nat)
def qte:Tr LR:=let z1:=qaa (qbI 6 [44] (qac r) n);let z2:=qac z1;let z3:qR:=[[.int .i64 (qj2 z2 n)]];.ite (qa1 6 [44] (qac r) n) (.ite (qbG 6 [44] (qac r) n) (.ite (qnB z2 n) (.ite (qas l z3 8) (.ite (qap z3 1) (.ite (qan l 1) (.ite (nEq k (nXs l)) (.ret (.next [.ptr 0 0,.mth 138 [.ptr 0 0],.sl (xApp l z3) (.tok 0)] (Store.mk [[.sl (qaa (qjB z2 n)) .non,.int .i64 n]] [(nXs (xApp l z3),1,112)] [138]))) .fail) .fail) .fail) .fail) (.ite (qmE z2 n) (.ret (.out (.pan (.iface 172 (.agg [.int .i64 (qkg z2 n)]))) [] (Store.mk [[.sl (qaa (qjs z2 n)) .non,.int .i64 n]] [(k,1,112)] [138]))) .fail)) (.ret (.out (.exit 0) [.sl l (.tok 0)] (Store.mk [[.sl z1 .non,.int .i64 n]] [(k,1,112)] [138])))) .fail
theorem qX9:lstep tbT qOw qEH qHO qH8 [.ptr 0 0,.mth 138 [.ptr 0 0],.sl l (.tok 0)] ⟨[[.sl r .non,.int .i64 n]],[(k,1,112)],[138]⟩=qte l r n k:=by kernel_rfl
theorem qY8:qkJ [.ptr 0 0,.mth 138 [.ptr 0 0],.sl l (.tok 0)] ⟨[[.sl r .non,.int .i64 n]],[(k,1,112)],[138]⟩=lnext qkJ (qte l r n k).run:=by unfold qkJ;rw [qaC,qX9]
end
section
variable (l r:qR) (n:Int)
def qfj:Option (PExit×List PV×Store):=qkJ [.ptr 0 0,.mth 138 [.ptr 0 0],.sl l .full] ⟨[[.sl r .non,.int .i64 n]],[],[138]⟩
def qvz:Int:=(gInt (gAt (gCs (gAt (gCs (gPan (qfj l r n))) 0)) 0))
def qxw:qR:=qaO 0 0 (qfj l r n)
def qDG:Bool:=isW (qfj l r n) ((.pan (.iface 172 (.agg [.int .i64 (qvz l r n)]))),[],⟨[[.sl (qxw l r n) .non,.int .i64 n]],[],[138]⟩)
def qxb:qR:=qpM 0 (qfj l r n)
def qwn:qR:=qaO 0 0 (qfj l r n)
def qDD:Bool:=isW (qfj l r n) ((.exit 0),[.sl (qxb l r n) .full],⟨[[.sl (qwn l r n) .non,.int .i64 n]],[],[138]⟩)
def qxT:Int:=(gInt (gAt (gCs (gAt (gCs (gPan (qfj l r n))) 0)) 0))
def qxv:qR:=qaO 0 0 (qfj l r n)
def qEc:Nat:=(gTok (qfj l r n) 0)
def qFF:Bool:=isW (qfj l r n) ((.pan (.iface 172 (.agg [.int .i64 (qxT l r n)]))),[],⟨[[.sl (qxv l r n) .non,.int .i64 n]],[((qEc l r n),1,112)],[138]⟩)
def qv4:qR:=qpM 0 (qfj l r n)
def qxS:qR:=qaO 0 0 (qfj l r n)
def qGa:Nat:=(gTok (qfj l r n) 0)
def qC2:Bool:=isW (qfj l r n) ((.exit 0),[.sl (qv4 l r n) (.tok 0)],⟨[[.sl (qxS l r n) .non,.int .i64 n]],[((qGa l r n),1,112)],[138]⟩)
end
def qr3:List PV→Store→Tr (PExit×List PV×Store)|[.ptr 0 0,.mth 138 [.ptr 0 0],.sl l .full],⟨[[.sl r .non,.int .i64 n]],[],[138]⟩=>.ite (qDG l r n) (.ret ((.pan (.iface 172 (.agg [.int .i64 (qvz l r n)]))),[],⟨[[.sl (qxw l r n) .non,.int .i64 n]],[],[138]⟩)) (.ite (qDD l r n) (.ret ((.exit 0),[.sl (qxb l r n) .full],⟨[[.sl (qwn l r n) .non,.int .i64 n]],[],[138]⟩)) (.ite (qFF l r n) (.ret ((.pan (.iface 172 (.agg [.int .i64 (qxT l r n)]))),[],⟨[[.sl (qxv l r n) .non,.int .i64 n]],[((qEc l r n),1,112)],[138]⟩)) (.ite (qC2 l r n) (.ret ((.exit 0),[.sl (qv4 l r n) (.tok 0)],⟨[[.sl (qxS l r n) .non,.int .i64 n]],[((qGa l r n),1,112)],[138]⟩)) (.fail))))|_,_=>.fail
theorem qYA:∀ vs σ r,(qr3 vs σ).run=some r→qkJ vs σ=some r:=by
 intro vs σ r h;unfold qr3 at h
 split at h
 ·exact qae h fun h=>qae h fun h=>qae h fun h=>qae h fun h=>by cases h
 ·cases h
theorem qRu (gl:Gl):∀ fr σ e fr' σ',(orc qH8 qr3 fr σ).run=some (e,fr',σ')→LDoes Tryz.prog gl qHO fr σ e fr' σ':=qbw qaj (qRJ gl ) qai (L:=qEH) (qab (by kernel_rfl)) (by kernel_rfl) qYA
def qWV:LpsT:=fun r fr σ=>bif Nat.beq r 2 then orc qH8 qr3 fr σ else .fail
section
variable (r:qR) (n:Int)
def qGL:Tr (PR×Store):=let z1:=qac (qac r);let z2:qR:=[[.int .i64 (qj2 z1 n)]];let z3:=qaa (qjB z1 n);.ite (qnB z1 n) (.ite (qDG z2 z3 n) (.ret (PR.pan (.iface 172 (.agg [.int .i64 (qvz z2 z3 n)])),Store.mk [[.sl (qaa (qxw z2 z3 n)) .non,.int .i64 n]] [] [138])) (.ite (qDD z2 z3 n) (.ret (PR.val (.sl (qaa (qxb z2 z3 n)) .non),Store.mk [[.sl (qaa (qwn z2 z3 n)) .non,.int .i64 n]] [] [138])) (.ite (qFF z2 z3 n) (.ret (PR.pan (.iface 172 (.agg [.int .i64 (qxT z2 z3 n)])),Store.mk [[.sl (qaa (qxv z2 z3 n)) .non,.int .i64 n]] [] [138])) (.ite (qC2 z2 z3 n) (.ret (PR.val (.sl (qaa (qv4 z2 z3 n)) .non),Store.mk [[.sl (qaa (qxS z2 z3 n)) .non,.int .i64 n]] [] [138])) .fail)))) (.ite (qmE z1 n) (.ret (PR.pan (.iface 172 (.agg [.int .i64 (qkg z1 n)])),Store.mk [[.sl (qaa (qaa (qjs z1 n))) .non,.int .i64 n]] [] [138])) .fail)
theorem zabe:(nrmM tbT qOw qWV Tryz.f161 [.ptr 0 0,.mth 138 [.ptr 0 0]] ⟨[[.sl r .non,.int .i64 n]],[],[138]⟩).flat=qGL r n:=by kernel_rfl
def qA6:Option (PR×Store):=(qGL r n).run
def qCY:Int:=oG (qA6 r n)
def qCR:qR:=qbn 0 0 (qA6 r n)
def qJt:Bool:=isW (qA6 r n) ((.pan (.iface 172 (.agg [.int .i64 (qCY r n)]))),⟨[[.sl (qCR r n) .non,.int .i64 n]],[],[138]⟩)
def qD3:qR:=qGB (qA6 r n)
def qvV:qR:=qbn 0 0 (qA6 r n)
def qKg:Bool:=isW (qA6 r n) ((.val (.sl (qD3 r n) .non)),⟨[[.sl (qvV r n) .non,.int .i64 n]],[],[138]⟩)
end
def qX3:List PV→Store→Tr (PR×Store)|[.ptr 0 0,.mth 138 [.ptr 0 0]],⟨[[.sl r .non,.int .i64 n]],[],[138]⟩=>.ite (qJt r n) (.ret ((.pan (.iface 172 (.agg [.int .i64 (qCY r n)]))),⟨[[.sl (qCR r n) .non,.int .i64 n]],[],[138]⟩)) (.ite (qKg r n) (.ret ((.val (.sl (qD3 r n) .non)),⟨[[.sl (qvV r n) .non,.int .i64 n]],[],[138]⟩)) (.fail))|_,_=>.fail
theorem qW9 (gl:Gl):SimM Tryz.prog gl 161 fun args σ=>(qX3 args σ).run:=by
 refine SimM.of_nrm (G:=qOw) (L:=qWV) qaj (qRJ gl ) qai Tryz.func161 rfl (by rfl) (by kernel_rfl) (qav (L:=lps qWV) [(2,qHO)] (by kernel_rfl) (List.forall_mem_cons.2 ⟨fun fr σ e fr' σ' h=>qRu gl  fr σ e fr' σ' h,(List.forall_mem_nil _)⟩)) ?_
 intro args σ x h;unfold qX3 at h
 split at h
 ·exact (congrArg Tr.run (zabe _ _)).trans (qae h fun h=>qae h fun h=>by cases h)
 ·cases h
def qYs:GamT:=ofL [(106,.may (frameT qc0)),(109,.may (frameT qjr)),(138,.may (frameT qB0)),(161,.may (frameT qX3)),(qd7,.flag)]
theorem qX7 (gl:Gl):qal Tryz.prog gl (gam qYs):=(qah (SimM.frameT (qbP gl)) (qah (SimM.frameT (qge gl)) (qah (SimM.frameT (qwX gl)) (qah (SimM.frameT (qW9 gl)) (qbO qaf)))))
def qZ1:LpsT:=fun r fr σ=>.fail
section
variable (r:qR) (n:Int)
def qAN:Tr (PR×Store):=let z1:=qac (qac r);let z2:=qac (qaa (qbD [40] z1 n));let z3:=qaa (qbI 6 [41] z2 n);let z4:=qac z3;let z5:=qac (qaa (qvV z4 n));.ite (qbS [40] z1 n) (.ret (PR.pan (.iface 172 (.agg [.int .i64 (qbH [40] z1 n)])),Store.mk [[.sl (qaa (qaa (qbF [40] z1 n))) .non,.int .i64 n]] [] [138])) (.ite (qbQ [40] z1 n) (.ite (qa1 6 [41] z2 n) (.ite (qbG 6 [41] z2 n) (.ret (PR.val (.sl [] .non),Store.mk [[.sl (qaa z3) .non,.int .i64 n]] [] [138])) (.ite (qJt z4 n) (.ret (PR.pan (.iface 172 (.agg [.int .i64 (qCY z4 n)])),Store.mk [[.sl (qaa (qaa (qCR z4 n))) .non,.int .i64 n]] [] [138])) (.ite (qKg z4 n) (.ite (qbS [41] z5 n) (.ret (PR.pan (.iface 172 (.agg [.int .i64 (qbH [41] z5 n)])),Store.mk [[.sl (qaa (qaa (qbF [41] z5 n))) .non,.int .i64 n]] [] [138])) (.ite (qbQ [41] z5 n) (.ret (PR.val (.sl (qaa (qaa (qD3 z4 n))) .non),Store.mk [[.sl (qaa (qaa (qbD [41] z5 n))) .non,.int .i64 n]] [] [138])) .fail)) .fail))) .fail) .fail)
theorem zabu:(nrmM tbT qYs qZ1 Tryz.f137 [.ptr 0 0,.mth 138 [.ptr 0 0]] ⟨[[.sl r .non,.int .i64 n]],[],[138]⟩).flat=qAN r n:=by kernel_rfl
def qvl:Option (PR×Store):=(qAN r n).run
def qDP:Int:=oG (qvl r n)
def qD7:qR:=qbn 0 0 (qvl r n)
def qIw:Bool:=isW (qvl r n) ((.pan (.iface 172 (.agg [.int .i64 (qDP r n)]))),⟨[[.sl (qD7 r n) .non,.int .i64 n]],[],[138]⟩)
def qET:qR:=qGB (qvl r n)
def qwE:qR:=qbn 0 0 (qvl r n)
def qKv:Bool:=isW (qvl r n) ((.val (.sl (qET r n) .non)),⟨[[.sl (qwE r n) .non,.int .i64 n]],[],[138]⟩)
end
def qXb:List PV→Store→Tr (PR×Store)|[.ptr 0 0,.mth 138 [.ptr 0 0]],⟨[[.sl r .non,.int .i64 n]],[],[138]⟩=>.ite (qIw r n) (.ret ((.pan (.iface 172 (.agg [.int .i64 (qDP r n)]))),⟨[[.sl (qD7 r n) .non,.int .i64 n]],[],[138]⟩)) (.ite (qKv r n) (.ret ((.val (.sl (qET r n) .non)),⟨[[.sl (qwE r n) .non,.int .i64 n]],[],[138]⟩)) (.fail))|_,_=>.fail
theorem qZa (gl:Gl):SimM Tryz.prog gl 137 fun args σ=>(qXb args σ).run:=by
 refine SimM.of_nrm (G:=qYs) (L:=qZ1) qaj (qX7 gl ) qai Tryz.func137 rfl (by rfl) (by kernel_rfl) (qab (by kernel_rfl)) ?_
 intro args σ x h;unfold qXb at h
 split at h
 ·exact (congrArg Tr.run (zabu _ _)).trans (qae h fun h=>qae h fun h=>by cases h)
 ·cases h
def qIE:GamT:=ofL [(109,.may (frameT qjr)),(111,.may (frameT qAv)),(136,.may (frameT qlT)),(137,.may (frameT qXb)),(138,.may (frameT qB0)),(qd7,.flag)]
theorem qPk (gl:Gl):qal Tryz.prog gl (gam qIE):=(qah (SimM.frameT (qge gl)) (qah (SimM.frameT (qzT gl)) (qah (SimM.frameT (qiF gl)) (qah (SimM.frameT (qZa gl)) (qah (SimM.frameT (qwX gl)) (qbO qaf))))))
def qSZ:LpsT:=fun r fr σ=>.fail
section
variable (r:qR) (n:Int)
def qrd:Tr (PR×Store):=let z1:=qac (qac r);let z2:=qac (qaa (qjW z1 n));let z3:=qac (qaa (qh2 z2 n));let z4:=qac (qaa (qwE z3 n));.ite (qdI z1 n) (.ite (qk0 z2 n) (.ret (PR.pan (.iface 172 (.agg [.int .i64 (qi6 z2 n)])),Store.mk [[.sl (qaa (qaa (qhQ z2 n))) .non,.int .i64 n]] [] [138])) (.ite (qk6 z2 n) (.ite (qIw z3 n) (.ret (PR.pan (.iface 172 (.agg [.int .i64 (qDP z3 n)])),Store.mk [[.sl (qaa (qaa (qD7 z3 n))) .non,.int .i64 n]] [] [138])) (.ite (qKv z3 n) (.ite (qbS [46] z4 n) (.ret (PR.pan (.iface 172 (.agg [.int .i64 (qbH [46] z4 n)])),Store.mk [[.sl (qaa (qaa (qbF [46] z4 n))) .non,.int .i64 n]] [] [138])) (.ite (qbQ [46] z4 n) (.ret (PR.val (.agg [.str (qgq z2 n),.bool (sEq (qpL z1 n) [98,97,115,101]),.sl (qaa (qaa (qET z3 n))) .non]),Store.mk [[.sl (qaa (qaa (qbD [46] z4 n))) .non,.int .i64 n]] [] [138])) .fail)) .fail)) .fail)) .fail
theorem qYP:(nrmM tbT qIE qSZ Tryz.f87 [.ptr 0 0] ⟨[[.sl r .non,.int .i64 n]],[],[138]⟩).flat=qrd r n:=by kernel_rfl
def qe7:Option (PR×Store):=(qrd r n).run
def qrO:Int:=oG (qe7 r n)
def qsj:qR:=qbn 0 0 (qe7 r n)
def qyQ:Bool:=isW (qe7 r n) ((.pan (.iface 172 (.agg [.int .i64 (qrO r n)]))),⟨[[.sl (qsj r n) .non,.int .i64 n]],[],[138]⟩)
def qsg:qU:=qbo 0 (qe7 r n)
def qra:Bool:=qBN 1 (qe7 r n)
def qs3:qR:=qcX 2 (qe7 r n)
def qml:qR:=qbn 0 0 (qe7 r n)
def qyS:Bool:=isW (qe7 r n) ((.val (.agg [.str (qsg r n),.bool (qra r n),.sl (qs3 r n) .non])),⟨[[.sl (qml r n) .non,.int .i64 n]],[],[138]⟩)
end
def qJp:List PV→Store→Tr (PR×Store)|[.ptr 0 0],⟨[[.sl r .non,.int .i64 n]],[],[138]⟩=>.ite (qyQ r n) (.ret ((.pan (.iface 172 (.agg [.int .i64 (qrO r n)]))),⟨[[.sl (qsj r n) .non,.int .i64 n]],[],[138]⟩)) (.ite (qyS r n) (.ret ((.val (.agg [.str (qsg r n),.bool (qra r n),.sl (qs3 r n) .non])),⟨[[.sl (qml r n) .non,.int .i64 n]],[],[138]⟩)) (.fail))|_,_=>.fail
theorem qPw (gl:Gl):SimM Tryz.prog gl 87 fun args σ=>(qJp args σ).run:=by
 refine SimM.of_nrm (G:=qIE) (L:=qSZ) qaj (qPk gl ) qai Tryz.func87 rfl (by rfl) (by kernel_rfl) (qab (by kernel_rfl)) ?_
 intro args σ x h;unfold qJp at h
 split at h
 ·exact (congrArg Tr.run (qYP _ _)).trans (qae h fun h=>qae h fun h=>by cases h)
 ·cases h
def qPR:GamT:=ofL [(51,.may (frameT qys)),(106,.may (frameT qc0)),(109,.may (frameT qjr))]
theorem qUt (gl:Gl):qal Tryz.prog gl (gam qPR):=(qah (SimM.frameT (qyh gl)) (qah (SimM.frameT (qbP gl)) (qah (SimM.frameT (qge gl)) qaf)))
def qVW:LpsT:=fun r fr σ=>.fail
section
variable (r:qR) (n:Int)
def qz5:Tr (PR×Store):=let z1:=qac (qac r);let z2:=qbG 6 [43] z1 n;let z3:=qac (qaa (qbI 6 [43] z1 n));let z4:=qac (qaa (qbD [45] z3 n));.ite (qa1 6 [43] z1 n) (.ite (bNot z2) (.ite (qbS [45] z3 n) (.ret (PR.pan (.iface 172 (.agg [.int .i64 (qbH [45] z3 n)])),Store.mk [[.sl (qaa (qaa (qbF [45] z3 n))) .non,.int .i64 n]] [] [138])) (.ite (qbQ [45] z3 n) (.ite (qgc z4 n) (.ret (PR.pan (.iface 172 (.agg [.int .i64 (qeW z4 n)])),Store.mk [[.sl (qaa (qaa (qeV z4 n))) .non,.int .i64 n]] [] [138])) (.ite (qf0 z4 n) (.ret (PR.val (.agg [.bool z2,.str (qdU z4 n),.sl (qaa (qaa (qgj z4 n))) .non]),Store.mk [[.sl (qaa (qaa (qeB z4 n))) .non,.int .i64 n]] [] [138])) .fail)) .fail)) (.ite (qgc z3 n) (.ret (PR.pan (.iface 172 (.agg [.int .i64 (qeW z3 n)])),Store.mk [[.sl (qaa (qaa (qeV z3 n))) .non,.int .i64 n]] [] [138])) (.ite (qf0 z3 n) (.ret (PR.val (.agg [.bool z2,.str (qdU z3 n),.sl (qaa (qaa (qgj z3 n))) .non]),Store.mk [[.sl (qaa (qaa (qeB z3 n))) .non,.int .i64 n]] [] [138])) .fail))) .fail
theorem qZX:(nrmM tbT qPR qVW Tryz.f142 [.ptr 0 0] ⟨[[.sl r .non,.int .i64 n]],[],[138]⟩).flat=qz5 r n:=by kernel_rfl
def qkL:Option (PR×Store):=(qz5 r n).run
def qnG:Int:=oG (qkL r n)
def qmf:qR:=qbn 0 0 (qkL r n)
def qr5:Bool:=isW (qkL r n) ((.pan (.iface 172 (.agg [.int .i64 (qnG r n)]))),⟨[[.sl (qmf r n) .non,.int .i64 n]],[],[138]⟩)
def qnP:Bool:=qBN 0 (qkL r n)
def qmJ:qU:=qbo 1 (qkL r n)
def qn2:qR:=qcX 2 (qkL r n)
def qiI:qR:=qbn 0 0 (qkL r n)
def qsI:Bool:=isW (qkL r n) ((.val (.agg [.bool (qnP r n),.str (qmJ r n),.sl (qn2 r n) .non])),⟨[[.sl (qiI r n) .non,.int .i64 n]],[],[138]⟩)
end
def qLA:List PV→Store→Tr (PR×Store)|[.ptr 0 0],⟨[[.sl r .non,.int .i64 n]],[],[138]⟩=>.ite (qr5 r n) (.ret ((.pan (.iface 172 (.agg [.int .i64 (qnG r n)]))),⟨[[.sl (qmf r n) .non,.int .i64 n]],[],[138]⟩)) (.ite (qsI r n) (.ret ((.val (.agg [.bool (qnP r n),.str (qmJ r n),.sl (qn2 r n) .non])),⟨[[.sl (qiI r n) .non,.int .i64 n]],[],[138]⟩)) (.fail))|_,_=>.fail
theorem qLD (gl:Gl):SimM Tryz.prog gl 142 fun args σ=>(qLA args σ).run:=by
 refine SimM.of_nrm (G:=qPR) (L:=qVW) qaj (qUt gl ) qai Tryz.func142 rfl (by rfl) (by kernel_rfl) (qab (by kernel_rfl)) ?_
 intro args σ x h;unfold qLA at h
 split at h
 ·exact (congrArg Tr.run (qZX _ _)).trans (qae h fun h=>qae h fun h=>by cases h)
 ·cases h
def qNX:GamT:=ofL [(106,.may (frameT qc0)),(142,.may (frameT qLA)),(qd7,.flag)]
theorem qPt (gl:Gl):qal Tryz.prog gl (gam qNX):=(qah (SimM.frameT (qbP gl)) (qah (SimM.frameT (qLD gl)) (qbO qaf)))
def qGw:Code:=qc2 Tryz.f141 2
def qHv:LI:=⟨17,[0,1,5],fun e=>match e with|.exit 0=>[5]|_=>[],false⟩
def qE8:LpsT:=fun r fr σ=>.fail
def qkO (vs:List PV) (σ:Store):Option (PExit×List PV×Store):=lval (lstep tbT qNX qE8 qGw qHv) vs σ
section
variable (l r:qR) (n:Int)
def qzV:Tr LR:=let z1:=qaa (qbI 6 [44] (qac r) n);let z2:=qac z1;let z3:qR:=[[.bool (qnP z2 n),.str (qmJ z2 n),.sl (qaa (qn2 z2 n)) .non]];.ite (qa1 6 [44] (qac r) n) (.ite (qbG 6 [44] (qac r) n) (.ite (qr5 z2 n) (.ret (.out (.pan (.iface 172 (.agg [.int .i64 (qnG z2 n)]))) [] (Store.mk [[.sl (qaa (qmf z2 n)) .non,.int .i64 n]] [] [138]))) (.ite (qsI z2 n) (.ite (qas l z3 48) (.ite (qap z3 3) (.ite (qan l 3) (.ret (.next [.ptr 0 0,.mth 142 [.ptr 0 0],.sl (xApp l z3) (.tok 0)] (Store.mk [[.sl (qaa (qiI z2 n)) .non,.int .i64 n]] [(nXs (xApp l z3),3,116)] [138]))) .fail) .fail) .fail) .fail)) (.ret (.out (.exit 0) [.sl l .full] (Store.mk [[.sl z1 .non,.int .i64 n]] [] [138])))) .fail
theorem zaaG:lstep tbT qNX qE8 qGw qHv [.ptr 0 0,.mth 142 [.ptr 0 0],.sl l .full] ⟨[[.sl r .non,.int .i64 n]],[],[138]⟩=qzV l r n:=by kernel_rfl
theorem qZU:qkO [.ptr 0 0,.mth 142 [.ptr 0 0],.sl l .full] ⟨[[.sl r .non,.int .i64 n]],[],[138]⟩=lnext qkO (qzV l r n).run:=by unfold qkO;rw [qaC,zaaG]
end
section
variable (l r:qR) (n:Int) (k:Nat)
def qrC:Tr LR:=let z1:=qaa (qbI 6 [44] (qac r) n);let z2:=qac z1;let z3:qR:=[[.bool (qnP z2 n),.str (qmJ z2 n),.sl (qaa (qn2 z2 n)) .non]];.ite (qa1 6 [44] (qac r) n) (.ite (qbG 6 [44] (qac r) n) (.ite (qr5 z2 n) (.ret (.out (.pan (.iface 172 (.agg [.int .i64 (qnG z2 n)]))) [] (Store.mk [[.sl (qaa (qmf z2 n)) .non,.int .i64 n]] [(k,3,116)] [138]))) (.ite (qsI z2 n) (.ite (qas l z3 48) (.ite (qap z3 3) (.ite (qan l 3) (.ite (nEq k (nXs l)) (.ret (.next [.ptr 0 0,.mth 142 [.ptr 0 0],.sl (xApp l z3) (.tok 0)] (Store.mk [[.sl (qaa (qiI z2 n)) .non,.int .i64 n]] [(nXs (xApp l z3),3,116)] [138]))) .fail) .fail) .fail) .fail) .fail)) (.ret (.out (.exit 0) [.sl l (.tok 0)] (Store.mk [[.sl z1 .non,.int .i64 n]] [(k,3,116)] [138])))) .fail
theorem qXG:lstep tbT qNX qE8 qGw qHv [.ptr 0 0,.mth 142 [.ptr 0 0],.sl l (.tok 0)] ⟨[[.sl r .non,.int .i64 n]],[(k,3,116)],[138]⟩=qrC l r n k:=by kernel_rfl
theorem qWF:qkO [.ptr 0 0,.mth 142 [.ptr 0 0],.sl l (.tok 0)] ⟨[[.sl r .non,.int .i64 n]],[(k,3,116)],[138]⟩=lnext qkO (qrC l r n k).run:=by unfold qkO;rw [qaC,qXG]
end
section
variable (l r:qR) (n:Int)
def qfg:Option (PExit×List PV×Store):=qkO [.ptr 0 0,.mth 142 [.ptr 0 0],.sl l .full] ⟨[[.sl r .non,.int .i64 n]],[],[138]⟩
def qwC:Int:=(gInt (gAt (gCs (gAt (gCs (gPan (qfg l r n))) 0)) 0))
def qx1:qR:=qaO 0 0 (qfg l r n)
def qEd:Bool:=isW (qfg l r n) ((.pan (.iface 172 (.agg [.int .i64 (qwC l r n)]))),[],⟨[[.sl (qx1 l r n) .non,.int .i64 n]],[],[138]⟩)
def qv7:qR:=qpM 0 (qfg l r n)
def qw9:qR:=qaO 0 0 (qfg l r n)
def qE0:Bool:=isW (qfg l r n) ((.exit 0),[.sl (qv7 l r n) .full],⟨[[.sl (qw9 l r n) .non,.int .i64 n]],[],[138]⟩)
def qvU:Int:=(gInt (gAt (gCs (gAt (gCs (gPan (qfg l r n))) 0)) 0))
def qwO:qR:=qaO 0 0 (qfg l r n)
def qFT:Nat:=(gTok (qfg l r n) 0)
def qEa:Bool:=isW (qfg l r n) ((.pan (.iface 172 (.agg [.int .i64 (qvU l r n)]))),[],⟨[[.sl (qwO l r n) .non,.int .i64 n]],[((qFT l r n),3,116)],[138]⟩)
def qx2:qR:=qpM 0 (qfg l r n)
def qxi:qR:=qaO 0 0 (qfg l r n)
def qGr:Nat:=(gTok (qfg l r n) 0)
def qD8:Bool:=isW (qfg l r n) ((.exit 0),[.sl (qx2 l r n) (.tok 0)],⟨[[.sl (qxi l r n) .non,.int .i64 n]],[((qGr l r n),3,116)],[138]⟩)
end
def qrJ:List PV→Store→Tr (PExit×List PV×Store)|[.ptr 0 0,.mth 142 [.ptr 0 0],.sl l .full],⟨[[.sl r .non,.int .i64 n]],[],[138]⟩=>.ite (qEd l r n) (.ret ((.pan (.iface 172 (.agg [.int .i64 (qwC l r n)]))),[],⟨[[.sl (qx1 l r n) .non,.int .i64 n]],[],[138]⟩)) (.ite (qE0 l r n) (.ret ((.exit 0),[.sl (qv7 l r n) .full],⟨[[.sl (qw9 l r n) .non,.int .i64 n]],[],[138]⟩)) (.ite (qEa l r n) (.ret ((.pan (.iface 172 (.agg [.int .i64 (qvU l r n)]))),[],⟨[[.sl (qwO l r n) .non,.int .i64 n]],[((qFT l r n),3,116)],[138]⟩)) (.ite (qD8 l r n) (.ret ((.exit 0),[.sl (qx2 l r n) (.tok 0)],⟨[[.sl (qxi l r n) .non,.int .i64 n]],[((qGr l r n),3,116)],[138]⟩)) (.fail))))|_,_=>.fail
theorem qWQ:∀ vs σ r,(qrJ vs σ).run=some r→qkO vs σ=some r:=by
 intro vs σ r h;unfold qrJ at h
 split at h
 ·exact qae h fun h=>qae h fun h=>qae h fun h=>qae h fun h=>by cases h
 ·cases h
theorem qSU (gl:Gl):∀ fr σ e fr' σ',(orc qHv qrJ fr σ).run=some (e,fr',σ')→LDoes Tryz.prog gl qGw fr σ e fr' σ':=qbw qaj (qPt gl ) qai (L:=qE8) (qab (by kernel_rfl)) (by kernel_rfl) qWQ
def qZz:LpsT:=fun r fr σ=>bif Nat.beq r 2 then orc qHv qrJ fr σ else .fail
section
variable (r:qR) (n:Int)
def qH5:Tr (PR×Store):=let z1:=qac (qac r);let z2:qR:=[[.bool (qnP z1 n),.str (qmJ z1 n),.sl (qaa (qn2 z1 n)) .non]];let z3:=qaa (qiI z1 n);.ite (qr5 z1 n) (.ret (PR.pan (.iface 172 (.agg [.int .i64 (qnG z1 n)])),Store.mk [[.sl (qaa (qaa (qmf z1 n))) .non,.int .i64 n]] [] [138])) (.ite (qsI z1 n) (.ite (qEd z2 z3 n) (.ret (PR.pan (.iface 172 (.agg [.int .i64 (qwC z2 z3 n)])),Store.mk [[.sl (qaa (qx1 z2 z3 n)) .non,.int .i64 n]] [] [138])) (.ite (qE0 z2 z3 n) (.ret (PR.val (.sl (qaa (qv7 z2 z3 n)) .non),Store.mk [[.sl (qaa (qw9 z2 z3 n)) .non,.int .i64 n]] [] [138])) (.ite (qEa z2 z3 n) (.ret (PR.pan (.iface 172 (.agg [.int .i64 (qvU z2 z3 n)])),Store.mk [[.sl (qaa (qwO z2 z3 n)) .non,.int .i64 n]] [] [138])) (.ite (qD8 z2 z3 n) (.ret (PR.val (.sl (qaa (qx2 z2 z3 n)) .non),Store.mk [[.sl (qaa (qxi z2 z3 n)) .non,.int .i64 n]] [] [138])) .fail)))) .fail)
theorem zaaY:(nrmM tbT qNX qZz Tryz.f141 [.ptr 0 0,.mth 142 [.ptr 0 0]] ⟨[[.sl r .non,.int .i64 n]],[],[138]⟩).flat=qH5 r n:=by kernel_rfl
def qBi:Option (PR×Store):=(qH5 r n).run
def qGf:Int:=oG (qBi r n)
def qCS:qR:=qbn 0 0 (qBi r n)
def qJ8:Bool:=isW (qBi r n) ((.pan (.iface 172 (.agg [.int .i64 (qGf r n)]))),⟨[[.sl (qCS r n) .non,.int .i64 n]],[],[138]⟩)
def qCV:qR:=qGB (qBi r n)
def qvC:qR:=qbn 0 0 (qBi r n)
def qI6:Bool:=isW (qBi r n) ((.val (.sl (qCV r n) .non)),⟨[[.sl (qvC r n) .non,.int .i64 n]],[],[138]⟩)
end
def qXz:List PV→Store→Tr (PR×Store)|[.ptr 0 0,.mth 142 [.ptr 0 0]],⟨[[.sl r .non,.int .i64 n]],[],[138]⟩=>.ite (qJ8 r n) (.ret ((.pan (.iface 172 (.agg [.int .i64 (qGf r n)]))),⟨[[.sl (qCS r n) .non,.int .i64 n]],[],[138]⟩)) (.ite (qI6 r n) (.ret ((.val (.sl (qCV r n) .non)),⟨[[.sl (qvC r n) .non,.int .i64 n]],[],[138]⟩)) (.fail))|_,_=>.fail
theorem qZj (gl:Gl):SimM Tryz.prog gl 141 fun args σ=>(qXz args σ).run:=by
 refine SimM.of_nrm (G:=qNX) (L:=qZz) qaj (qPt gl ) qai Tryz.func141 rfl (by rfl) (by kernel_rfl) (qav (L:=lps qZz) [(2,qGw)] (by kernel_rfl) (List.forall_mem_cons.2 ⟨fun fr σ e fr' σ' h=>qSU gl  fr σ e fr' σ' h,(List.forall_mem_nil _)⟩)) ?_
 intro args σ x h;unfold qXz at h
 split at h
 ·exact (congrArg Tr.run (zaaY _ _)).trans (qae h fun h=>qae h fun h=>by cases h)
 ·cases h
def qDd:GamT:=ofL [(138,.may (frameT qB0)),(150,.may (frameT qAx))]
theorem qNt (gl:Gl):qal Tryz.prog gl (gam qDd):=(qah (SimM.frameT (qwX gl)) (qah (SimM.frameT (qAi gl)) qaf))
def qMF:LpsT:=fun r fr σ=>.fail
section
variable (r:qR) (n:Int)
def qq8:Tr (PR×Store):=let z1:=qac (qac r);let z2:=qac (qaa (qix 2 [] z1 n));.ite (qlZ 2 [] z1 n) (.ret (PR.pan (.iface 172 (.agg [.int .i64 (qic 2 [] z1 n)])),Store.mk [[.sl (qaa (qaa (qiU 2 [] z1 n))) .non,.int .i64 n]] [] [138])) (.ite (ql8 2 [] z1 n) (.ite (qnB z2 n) (.ret (PR.val (.agg [.str (qqT 2 [] z1 n),.int .i64 (qj2 z2 n)]),Store.mk [[.sl (qaa (qaa (qjB z2 n))) .non,.int .i64 n]] [] [138])) (.ite (qmE z2 n) (.ret (PR.pan (.iface 172 (.agg [.int .i64 (qkg z2 n)])),Store.mk [[.sl (qaa (qaa (qjs z2 n))) .non,.int .i64 n]] [] [138])) .fail)) .fail)
theorem qTm:(nrmM tbT qDd qMF Tryz.f140 [.ptr 0 0] ⟨[[.sl r .non,.int .i64 n]],[],[138]⟩).flat=qq8 r n:=by kernel_rfl
def qeE:Option (PR×Store):=(qq8 r n).run
def qfA:Int:=oG (qeE r n)
def qfO:qR:=qbn 0 0 (qeE r n)
def qiW:Bool:=isW (qeE r n) ((.pan (.iface 172 (.agg [.int .i64 (qfA r n)]))),⟨[[.sl (qfO r n) .non,.int .i64 n]],[],[138]⟩)
def qfJ:qU:=qbo 0 (qeE r n)
def qfH:Int:=qbg 1 (qeE r n)
def qfI:qR:=qbn 0 0 (qeE r n)
def qhN:Bool:=isW (qeE r n) ((.val (.agg [.str (qfJ r n),.int .i64 (qfH r n)])),⟨[[.sl (qfI r n) .non,.int .i64 n]],[],[138]⟩)
end
def qqm:List PV→Store→Tr (PR×Store)|[.ptr 0 0],⟨[[.sl r .non,.int .i64 n]],[],[138]⟩=>.ite (qiW r n) (.ret ((.pan (.iface 172 (.agg [.int .i64 (qfA r n)]))),⟨[[.sl (qfO r n) .non,.int .i64 n]],[],[138]⟩)) (.ite (qhN r n) (.ret ((.val (.agg [.str (qfJ r n),.int .i64 (qfH r n)])),⟨[[.sl (qfI r n) .non,.int .i64 n]],[],[138]⟩)) (.fail))|_,_=>.fail
theorem qup (gl:Gl):SimM Tryz.prog gl 140 fun args σ=>(qqm args σ).run:=by
 refine SimM.of_nrm (G:=qDd) (L:=qMF) qaj (qNt gl ) qai Tryz.func140 rfl (by rfl) (by kernel_rfl) (qab (by kernel_rfl)) ?_
 intro args σ x h;unfold qqm at h
 split at h
 ·exact (congrArg Tr.run (qTm _ _)).trans (qae h fun h=>qae h fun h=>by cases h)
 ·cases h
def qNn:GamT:=ofL [(106,.may (frameT qc0)),(140,.may (frameT qqm)),(qd7,.flag)]
theorem qQW (gl:Gl):qal Tryz.prog gl (gam qNn):=(qah (SimM.frameT (qbP gl)) (qah (SimM.frameT (qup gl)) (qbO qaf)))
def qGz:Code:=qc2 Tryz.f162 2
def qHW:LI:=⟨17,[0,1,5],fun e=>match e with|.exit 0=>[5]|_=>[],false⟩
def qFW:LpsT:=fun r fr σ=>.fail
def qkN (vs:List PV) (σ:Store):Option (PExit×List PV×Store):=lval (lstep tbT qNn qFW qGz qHW) vs σ
section
variable (l r:qR) (n:Int)
def qzp:Tr LR:=let z1:=qaa (qbI 6 [44] (qac r) n);let z2:=qac z1;let z3:qR:=[[.str (qfJ z2 n),.int .i64 (qfH z2 n)]];.ite (qa1 6 [44] (qac r) n) (.ite (qbG 6 [44] (qac r) n) (.ite (qiW z2 n) (.ret (.out (.pan (.iface 172 (.agg [.int .i64 (qfA z2 n)]))) [] (Store.mk [[.sl (qaa (qfO z2 n)) .non,.int .i64 n]] [] [138]))) (.ite (qhN z2 n) (.ite (qas l z3 24) (.ite (qap z3 2) (.ite (qan l 2) (.ret (.next [.ptr 0 0,.mth 140 [.ptr 0 0],.sl (xApp l z3) (.tok 0)] (Store.mk [[.sl (qaa (qfI z2 n)) .non,.int .i64 n]] [(nXs (xApp l z3),2,114)] [138]))) .fail) .fail) .fail) .fail)) (.ret (.out (.exit 0) [.sl l .full] (Store.mk [[.sl z1 .non,.int .i64 n]] [] [138])))) .fail
theorem qZT:lstep tbT qNn qFW qGz qHW [.ptr 0 0,.mth 140 [.ptr 0 0],.sl l .full] ⟨[[.sl r .non,.int .i64 n]],[],[138]⟩=qzp l r n:=by kernel_rfl
theorem zaaU:qkN [.ptr 0 0,.mth 140 [.ptr 0 0],.sl l .full] ⟨[[.sl r .non,.int .i64 n]],[],[138]⟩=lnext qkN (qzp l r n).run:=by unfold qkN;rw [qaC,qZT]
end
section
variable (l r:qR) (n:Int) (k:Nat)
def qql:Tr LR:=let z1:=qaa (qbI 6 [44] (qac r) n);let z2:=qac z1;let z3:qR:=[[.str (qfJ z2 n),.int .i64 (qfH z2 n)]];.ite (qa1 6 [44] (qac r) n) (.ite (qbG 6 [44] (qac r) n) (.ite (qiW z2 n) (.ret (.out (.pan (.iface 172 (.agg [.int .i64 (qfA z2 n)]))) [] (Store.mk [[.sl (qaa (qfO z2 n)) .non,.int .i64 n]] [(k,2,114)] [138]))) (.ite (qhN z2 n) (.ite (qas l z3 24) (.ite (qap z3 2) (.ite (qan l 2) (.ite (nEq k (nXs l)) (.ret (.next [.ptr 0 0,.mth 140 [.ptr 0 0],.sl (xApp l z3) (.tok 0)] (Store.mk [[.sl (qaa (qfI z2 n)) .non,.int .i64 n]] [(nXs (xApp l z3),2,114)] [138]))) .fail) .fail) .fail) .fail) .fail)) (.ret (.out (.exit 0) [.sl l (.tok 0)] (Store.mk [[.sl z1 .non,.int .i64 n]] [(k,2,114)] [138])))) .fail
theorem qWP:lstep tbT qNn qFW qGz qHW [.ptr 0 0,.mth 140 [.ptr 0 0],.sl l (.tok 0)] ⟨[[.sl r .non,.int .i64 n]],[(k,2,114)],[138]⟩=qql l r n k:=by kernel_rfl
theorem qZr:qkN [.ptr 0 0,.mth 140 [.ptr 0 0],.sl l (.tok 0)] ⟨[[.sl r .non,.int .i64 n]],[(k,2,114)],[138]⟩=lnext qkN (qql l r n k).run:=by unfold qkN;rw [qaC,qWP]
end
section
variable (l r:qR) (n:Int)
def qfh:Option (PExit×List PV×Store):=qkN [.ptr 0 0,.mth 140 [.ptr 0 0],.sl l .full] ⟨[[.sl r .non,.int .i64 n]],[],[138]⟩
def qxm:Int:=(gInt (gAt (gCs (gAt (gCs (gPan (qfh l r n))) 0)) 0))
def qxU:qR:=qaO 0 0 (qfh l r n)
def qFS:Bool:=isW (qfh l r n) ((.pan (.iface 172 (.agg [.int .i64 (qxm l r n)]))),[],⟨[[.sl (qxU l r n) .non,.int .i64 n]],[],[138]⟩)
def qxL:qR:=qpM 0 (qfh l r n)
def qw1:qR:=qaO 0 0 (qfh l r n)
def qFB:Bool:=isW (qfh l r n) ((.exit 0),[.sl (qxL l r n) .full],⟨[[.sl (qw1 l r n) .non,.int .i64 n]],[],[138]⟩)
def qwt:Int:=(gInt (gAt (gCs (gAt (gCs (gPan (qfh l r n))) 0)) 0))
def qw8:qR:=qaO 0 0 (qfh l r n)
def qGh:Nat:=(gTok (qfh l r n) 0)
def qGq:Bool:=isW (qfh l r n) ((.pan (.iface 172 (.agg [.int .i64 (qwt l r n)]))),[],⟨[[.sl (qw8 l r n) .non,.int .i64 n]],[((qGh l r n),2,114)],[138]⟩)
def qvQ:qR:=qpM 0 (qfh l r n)
def qwH:qR:=qaO 0 0 (qfh l r n)
def qFM:Nat:=(gTok (qfh l r n) 0)
def qDH:Bool:=isW (qfh l r n) ((.exit 0),[.sl (qvQ l r n) (.tok 0)],⟨[[.sl (qwH l r n) .non,.int .i64 n]],[((qFM l r n),2,114)],[138]⟩)
end
def qsL:List PV→Store→Tr (PExit×List PV×Store)|[.ptr 0 0,.mth 140 [.ptr 0 0],.sl l .full],⟨[[.sl r .non,.int .i64 n]],[],[138]⟩=>.ite (qFS l r n) (.ret ((.pan (.iface 172 (.agg [.int .i64 (qxm l r n)]))),[],⟨[[.sl (qxU l r n) .non,.int .i64 n]],[],[138]⟩)) (.ite (qFB l r n) (.ret ((.exit 0),[.sl (qxL l r n) .full],⟨[[.sl (qw1 l r n) .non,.int .i64 n]],[],[138]⟩)) (.ite (qGq l r n) (.ret ((.pan (.iface 172 (.agg [.int .i64 (qwt l r n)]))),[],⟨[[.sl (qw8 l r n) .non,.int .i64 n]],[((qGh l r n),2,114)],[138]⟩)) (.ite (qDH l r n) (.ret ((.exit 0),[.sl (qvQ l r n) (.tok 0)],⟨[[.sl (qwH l r n) .non,.int .i64 n]],[((qFM l r n),2,114)],[138]⟩)) (.fail))))|_,_=>.fail
theorem qXs:∀ vs σ r,(qsL vs σ).run=some r→qkN vs σ=some r:=by
 intro vs σ r h;unfold qsL at h
 split at h
 ·exact qae h fun h=>qae h fun h=>qae h fun h=>qae h fun h=>by cases h
 ·cases h
theorem qRo (gl:Gl):∀ fr σ e fr' σ',(orc qHW qsL fr σ).run=some (e,fr',σ')→LDoes Tryz.prog gl qGz fr σ e fr' σ':=qbw qaj (qQW gl ) qai (L:=qFW) (qab (by kernel_rfl)) (by kernel_rfl) qXs
def qY9:LpsT:=fun r fr σ=>bif Nat.beq r 2 then orc qHW qsL fr σ else .fail
section
variable (r:qR) (n:Int)
def qHk:Tr (PR×Store):=let z1:=qac (qac r);let z2:qR:=[[.str (qfJ z1 n),.int .i64 (qfH z1 n)]];let z3:=qaa (qfI z1 n);.ite (qiW z1 n) (.ret (PR.pan (.iface 172 (.agg [.int .i64 (qfA z1 n)])),Store.mk [[.sl (qaa (qaa (qfO z1 n))) .non,.int .i64 n]] [] [138])) (.ite (qhN z1 n) (.ite (qFS z2 z3 n) (.ret (PR.pan (.iface 172 (.agg [.int .i64 (qxm z2 z3 n)])),Store.mk [[.sl (qaa (qxU z2 z3 n)) .non,.int .i64 n]] [] [138])) (.ite (qFB z2 z3 n) (.ret (PR.val (.sl (qaa (qxL z2 z3 n)) .non),Store.mk [[.sl (qaa (qw1 z2 z3 n)) .non,.int .i64 n]] [] [138])) (.ite (qGq z2 z3 n) (.ret (PR.pan (.iface 172 (.agg [.int .i64 (qwt z2 z3 n)])),Store.mk [[.sl (qaa (qw8 z2 z3 n)) .non,.int .i64 n]] [] [138])) (.ite (qDH z2 z3 n) (.ret (PR.val (.sl (qaa (qvQ z2 z3 n)) .non),Store.mk [[.sl (qaa (qwH z2 z3 n)) .non,.int .i64 n]] [] [138])) .fail)))) .fail)
theorem zabd:(nrmM tbT qNn qY9 Tryz.f162 [.ptr 0 0,.mth 140 [.ptr 0 0]] ⟨[[.sl r .non,.int .i64 n]],[],[138]⟩).flat=qHk r n:=by kernel_rfl
def qBl:Option (PR×Store):=(qHk r n).run
def qDh:Int:=oG (qBl r n)
def qEu:qR:=qbn 0 0 (qBl r n)
def qIz:Bool:=isW (qBl r n) ((.pan (.iface 172 (.agg [.int .i64 (qDh r n)]))),⟨[[.sl (qEu r n) .non,.int .i64 n]],[],[138]⟩)
def qEK:qR:=qGB (qBl r n)
def qv1:qR:=qbn 0 0 (qBl r n)
def qKW:Bool:=isW (qBl r n) ((.val (.sl (qEK r n) .non)),⟨[[.sl (qv1 r n) .non,.int .i64 n]],[],[138]⟩)
end
def qYS:List PV→Store→Tr (PR×Store)|[.ptr 0 0,.mth 140 [.ptr 0 0]],⟨[[.sl r .non,.int .i64 n]],[],[138]⟩=>.ite (qIz r n) (.ret ((.pan (.iface 172 (.agg [.int .i64 (qDh r n)]))),⟨[[.sl (qEu r n) .non,.int .i64 n]],[],[138]⟩)) (.ite (qKW r n) (.ret ((.val (.sl (qEK r n) .non)),⟨[[.sl (qv1 r n) .non,.int .i64 n]],[],[138]⟩)) (.fail))|_,_=>.fail
theorem qXK (gl:Gl):SimM Tryz.prog gl 162 fun args σ=>(qYS args σ).run:=by
 refine SimM.of_nrm (G:=qNn) (L:=qY9) qaj (qQW gl ) qai Tryz.func162 rfl (by rfl) (by kernel_rfl) (qav (L:=lps qY9) [(2,qGz)] (by kernel_rfl) (List.forall_mem_cons.2 ⟨fun fr σ e fr' σ' h=>qRo gl  fr σ e fr' σ' h,(List.forall_mem_nil _)⟩)) ?_
 intro args σ x h;unfold qYS at h
 split at h
 ·exact (congrArg Tr.run (zabd _ _)).trans (qae h fun h=>qae h fun h=>by cases h)
 ·cases h
def qWn:GamT:=ofL [(106,.may (frameT qc0)),(109,.may (frameT qjr)),(140,.may (frameT qqm)),(162,.may (frameT qYS)),(qd7,.flag)]
theorem qV9 (gl:Gl):qal Tryz.prog gl (gam qWn):=(qah (SimM.frameT (qbP gl)) (qah (SimM.frameT (qge gl)) (qah (SimM.frameT (qup gl)) (qah (SimM.frameT (qXK gl)) (qbO qaf)))))
def zaaL:LpsT:=fun r fr σ=>.fail
section
variable (r:qR) (n:Int)
def qAg:Tr (PR×Store):=let z1:=qac (qac r);let z2:=qac (qaa (qbD [40] z1 n));let z3:=qaa (qbI 6 [41] z2 n);let z4:=qac z3;let z5:=qac (qaa (qv1 z4 n));.ite (qbS [40] z1 n) (.ret (PR.pan (.iface 172 (.agg [.int .i64 (qbH [40] z1 n)])),Store.mk [[.sl (qaa (qaa (qbF [40] z1 n))) .non,.int .i64 n]] [] [138])) (.ite (qbQ [40] z1 n) (.ite (qa1 6 [41] z2 n) (.ite (qbG 6 [41] z2 n) (.ret (PR.val (.sl [] .non),Store.mk [[.sl (qaa z3) .non,.int .i64 n]] [] [138])) (.ite (qIz z4 n) (.ret (PR.pan (.iface 172 (.agg [.int .i64 (qDh z4 n)])),Store.mk [[.sl (qaa (qaa (qEu z4 n))) .non,.int .i64 n]] [] [138])) (.ite (qKW z4 n) (.ite (qbS [41] z5 n) (.ret (PR.pan (.iface 172 (.agg [.int .i64 (qbH [41] z5 n)])),Store.mk [[.sl (qaa (qaa (qbF [41] z5 n))) .non,.int .i64 n]] [] [138])) (.ite (qbQ [41] z5 n) (.ret (PR.val (.sl (qaa (qaa (qEK z4 n))) .non),Store.mk [[.sl (qaa (qaa (qbD [41] z5 n))) .non,.int .i64 n]] [] [138])) .fail)) .fail))) .fail) .fail)
theorem zabf:(nrmM tbT qWn zaaL Tryz.f139 [.ptr 0 0,.mth 140 [.ptr 0 0]] ⟨[[.sl r .non,.int .i64 n]],[],[138]⟩).flat=qAg r n:=by kernel_rfl
def qvi:Option (PR×Store):=(qAg r n).run
def qC7:Int:=oG (qvi r n)
def qDB:qR:=qbn 0 0 (qvi r n)
def qKP:Bool:=isW (qvi r n) ((.pan (.iface 172 (.agg [.int .i64 (qC7 r n)]))),⟨[[.sl (qDB r n) .non,.int .i64 n]],[],[138]⟩)
def qEM:qR:=qGB (qvi r n)
def qxt:qR:=qbn 0 0 (qvi r n)
def qIV:Bool:=isW (qvi r n) ((.val (.sl (qEM r n) .non)),⟨[[.sl (qxt r n) .non,.int .i64 n]],[],[138]⟩)
end
def qZC:List PV→Store→Tr (PR×Store)|[.ptr 0 0,.mth 140 [.ptr 0 0]],⟨[[.sl r .non,.int .i64 n]],[],[138]⟩=>.ite (qKP r n) (.ret ((.pan (.iface 172 (.agg [.int .i64 (qC7 r n)]))),⟨[[.sl (qDB r n) .non,.int .i64 n]],[],[138]⟩)) (.ite (qIV r n) (.ret ((.val (.sl (qEM r n) .non)),⟨[[.sl (qxt r n) .non,.int .i64 n]],[],[138]⟩)) (.fail))|_,_=>.fail
theorem qXQ (gl:Gl):SimM Tryz.prog gl 139 fun args σ=>(qZC args σ).run:=by
 refine SimM.of_nrm (G:=qWn) (L:=zaaL) qaj (qV9 gl ) qai Tryz.func139 rfl (by rfl) (by kernel_rfl) (qab (by kernel_rfl)) ?_
 intro args σ x h;unfold qZC at h
 split at h
 ·exact (congrArg Tr.run (zabf _ _)).trans (qae h fun h=>qae h fun h=>by cases h)
 ·cases h
def qXE:GamT:=ofL [(106,.may (frameT qc0)),(109,.may (frameT qjr)),(111,.may (frameT qAv)),(136,.may (frameT qlT)),(139,.may (frameT qZC)),(140,.may (frameT qqm)),(141,.may (frameT qXz)),(142,.may (frameT qLA)),(qd7,.flag)]
theorem qXj (gl:Gl):qal Tryz.prog gl (gam qXE):=(qah (SimM.frameT (qbP gl)) (qah (SimM.frameT (qge gl)) (qah (SimM.frameT (qzT gl)) (qah (SimM.frameT (qiF gl)) (qah (SimM.frameT (qXQ gl)) (qah (SimM.frameT (qup gl)) (qah (SimM.frameT (qZj gl)) (qah (SimM.frameT (qLD gl)) (qbO qaf)))))))))
def qZZ:LpsT:=fun r fr σ=>.fail
section
variable (r:qR) (n:Int)
def qz0:Tr (PR×Store):=let z1:=qac (qaa (qjW (qac (qac r)) n));let z2:=qac (qaa (qh2 z1 n));let z3:=qac (qaa (qxt z2 n));let z4:=qac (qaa (qbI 6 [58] z3 n));let z5:=qac (qaa (qvC z4 n));let z6:=qaa (qaa (qEM z2 n));.ite (qdI (qac (qac r)) n) (.ite (qk0 z1 n) (.ret (PR.pan (.iface 172 (.agg [.int .i64 (qi6 z1 n)])),Store.mk [[.sl (qaa (qaa (qhQ z1 n))) .non,.int .i64 n]] [] [138])) (.ite (qk6 z1 n) (.ite (qKP z2 n) (.ret (PR.pan (.iface 172 (.agg [.int .i64 (qC7 z2 n)])),Store.mk [[.sl (qaa (qaa (qDB z2 n))) .non,.int .i64 n]] [] [138])) (.ite (qIV z2 n) (.ite (qa1 6 [58] z3 n) (.ite (qbG 6 [58] z3 n) (.ite (qJ8 z4 n) (.ret (PR.pan (.iface 172 (.agg [.int .i64 (qGf z4 n)])),Store.mk [[.sl (qaa (qaa (qCS z4 n))) .non,.int .i64 n]] [] [138])) (.ite (qI6 z4 n) (.ite (qbS [46] z5 n) (.ret (PR.pan (.iface 172 (.agg [.int .i64 (qbH [46] z5 n)])),Store.mk [[.sl (qaa (qaa (qbF [46] z5 n))) .non,.int .i64 n]] [] [138])) (.ite (qbQ [46] z5 n) (.ret (PR.val (.agg [.str (qgq z1 n),.sl z6 .non,.sl (qaa (qaa (qCV z4 n))) .non]),Store.mk [[.sl (qaa (qaa (qbD [46] z5 n))) .non,.int .i64 n]] [] [138])) .fail)) .fail)) (.ite (qbS [46] z4 n) (.ret (PR.pan (.iface 172 (.agg [.int .i64 (qbH [46] z4 n)])),Store.mk [[.sl (qaa (qaa (qbF [46] z4 n))) .non,.int .i64 n]] [] [138])) (.ite (qbQ [46] z4 n) (.ret (PR.val (.agg [.str (qgq z1 n),.sl z6 .non,.sl [] .non]),Store.mk [[.sl (qaa (qaa (qbD [46] z4 n))) .non,.int .i64 n]] [] [138])) .fail))) .fail) .fail)) .fail)) .fail
theorem zaaZ:(nrmM tbT qXE qZZ Tryz.f88 [.ptr 0 0] ⟨[[.sl r .non,.int .i64 n]],[],[138]⟩).flat=qz0 r n:=by kernel_rfl
def qsf:Option (PR×Store):=(qz0 r n).run
def qD0:Int:=oG (qsf r n)
def qDC:qR:=qbn 0 0 (qsf r n)
def qIB:Bool:=isW (qsf r n) ((.pan (.iface 172 (.agg [.int .i64 (qD0 r n)]))),⟨[[.sl (qDC r n) .non,.int .i64 n]],[],[138]⟩)
def qEj:qU:=qbo 0 (qsf r n)
def qCN:qR:=qcX 1 (qsf r n)
def qvy:qR:=qcX 2 (qsf r n)
def qvS:qR:=qbn 0 0 (qsf r n)
def qKS:Bool:=isW (qsf r n) ((.val (.agg [.str (qEj r n),.sl (qCN r n) .non,.sl (qvy r n) .non])),⟨[[.sl (qvS r n) .non,.int .i64 n]],[],[138]⟩)
end
def qXa:List PV→Store→Tr (PR×Store)|[.ptr 0 0],⟨[[.sl r .non,.int .i64 n]],[],[138]⟩=>.ite (qIB r n) (.ret ((.pan (.iface 172 (.agg [.int .i64 (qD0 r n)]))),⟨[[.sl (qDC r n) .non,.int .i64 n]],[],[138]⟩)) (.ite (qKS r n) (.ret ((.val (.agg [.str (qEj r n),.sl (qCN r n) .non,.sl (qvy r n) .non])),⟨[[.sl (qvS r n) .non,.int .i64 n]],[],[138]⟩)) (.fail))|_,_=>.fail
theorem qYm (gl:Gl):SimM Tryz.prog gl 88 fun args σ=>(qXa args σ).run:=by
 refine SimM.of_nrm (G:=qXE) (L:=qZZ) qaj (qXj gl ) qai Tryz.func88 rfl (by rfl) (by kernel_rfl) (qab (by kernel_rfl)) ?_
 intro args σ x h;unfold qXa at h
 split at h
 ·exact (congrArg Tr.run (zaaZ _ _)).trans (qae h fun h=>qae h fun h=>by cases h)
 ·cases h
def qyM:GamT:=ofL [(47,.may (frameT qEE)),(86,.pure qJO),(87,.may (frameT qJp)),(88,.may (frameT qXa)),(qom,.hint [(3,0,3,80),(3,1,3,85),(3,2,3,51)])]
theorem qH0 (gl:Gl):qal Tryz.prog gl (gam qyM):=(qah (SimM.frameT (qIh gl)) (qag (qyw gl) (qah (SimM.frameT (qPw gl)) (qah (SimM.frameT (qYm gl)) (qbN (K:=.hint [(3,0,3,80),(3,1,3,85),(3,2,3,51)]) trivial qaf)))))
def qvq:Code:=qc2 Tryz.f35 2
def qwA:LI:=⟨41,[0,2,3],fun e=>match e with|.exit 0=>[2,3]|_=>[],false⟩
def qzG:LpsT:=fun r fr σ=>.fail
def qhh (vs:List PV) (σ:Store):Option (PExit×List PV×Store):=lval (lstep tbT qyM qzG qvq qwA) vs σ
section
variable (r:qR) (n:Int) (r2 r3 r4 r5 r6 r7:qR) (k k2 k3:Nat)
def qcE:Tr LR:=let z1:=qac r;let z2:List PV:=[.sl r2 .full,.sl r3 .full,.sl r4 .full];let z3:List PV:=[.sl r5 (.tok 0),.sl r6 (.tok 1),.sl r7 (.tok 2)];let z4:qR:=[[.str (qsg z1 n),.bool (qra z1 n),.sl (qaa (qs3 z1 n)) .non]];let z5:List PV:=[.ptr 0 0,.ptr 1 0,.ptr 2 0];let z6:Tr LR:=.ite (qyQ z1 n) (.ret (.out (.pan (.iface 172 (.agg [.int .i64 (qrO z1 n)]))) [] (Store.mk [[.sl (qaa (qsj z1 n)) .non,.int .i64 n],z2,z3] [(k,3,80),(k2,3,85),(k3,3,51)] [138,27,27]))) (.ite (qyS z1 n) (.ite (qdY z3 z3) (.ite (qas r5 z4 48) (.ite (qap z4 3) (.ite (qan r5 3) (.ite (nEq k (nXs r5)) (.ret (.next z5 (Store.mk [[.sl (qaa (qml z1 n)) .non,.int .i64 n],z2,[.sl (xApp r5 z4) (.tok 0),.sl r6 (.tok 1),.sl r7 (.tok 2)]] [(nXs (xApp r5 z4),3,80),(k2,3,85),(k3,3,51)] [138,27,27]))) .fail) .fail) .fail) .fail) .fail) .fail);let z7:qR:=[[.str (qEj z1 n),.sl (qaa (qCN z1 n)) .non,.sl (qaa (qvy z1 n)) .non]];let z8:qR:=[[.str (qlc z1 n),.sl (qaa (qlQ z1 n)) .non,.sl (qaa (qiT z1 n)) .non]];.ite (iLt 0 (xLen r)) (.ite (qgt z1 n 1 [98,97,115,101]) (.ite (qvk z1 n 1 [98,97,115,101]) z6 (.ite (qgt z1 n 1 [118,105,101,119]) (.ite (qvk z1 n 1 [118,105,101,119]) z6 (.ite (qgt z1 n 1 [111,110]) (.ite (qvk z1 n 1 [111,110]) (.ite (qIB z1 n) (.ret (.out (.pan (.iface 172 (.agg [.int .i64 (qD0 z1 n)]))) [] (Store.mk [[.sl (qaa (qDC z1 n)) .non,.int .i64 n],z2,z3] [(k,3,80),(k2,3,85),(k3,3,51)] [138,27,27]))) (.ite (qKS z1 n) (.ite (qdY z3 z3) (.ite (qas r6 z7 64) (.ite (qap z7 3) (.ite (qan r6 3) (.ite (nEq k2 (nXs r6)) (.ret (.next z5 (Store.mk [[.sl (qaa (qvS z1 n)) .non,.int .i64 n],z2,[.sl r5 (.tok 0),.sl (xApp r6 z7) (.tok 1),.sl r7 (.tok 2)]] [(k,3,80),(nXs (xApp r6 z7),3,85),(k3,3,51)] [138,27,27]))) .fail) .fail) .fail) .fail) .fail) .fail)) (.ite (qr0 z1 n) (.ret (.out (.pan (.iface 172 (.agg [.int .i64 (qlW z1 n)]))) [] (Store.mk [[.sl (qaa (qlR z1 n)) .non,.int .i64 n],z2,z3] [(k,3,80),(k2,3,85),(k3,3,51)] [138,27,27]))) (.ite (qqD z1 n) (.ite (qdY z3 z3) (.ite (qas r7 z8 64) (.ite (qap z8 3) (.ite (qan r7 3) (.ite (nEq k3 (nXs r7)) (.ret (.next z5 (Store.mk [[.sl (qaa (qi3 z1 n)) .non,.int .i64 n],z2,[.sl r5 (.tok 0),.sl r6 (.tok 1),.sl (xApp r7 z8) (.tok 2)]] [(k,3,80),(k2,3,85),(nXs (xApp r7 z8),3,51)] [138,27,27]))) .fail) .fail) .fail) .fail) .fail) .fail))) .fail)) .fail)) .fail) (.ret (.out (.exit 0) [.ptr 1 0,.ptr 2 0] (Store.mk [[.sl r .non,.int .i64 n],z2,z3] [(k,3,80),(k2,3,85),(k3,3,51)] [138,27,27])))
theorem qUh:lstep tbT qyM qzG qvq qwA [.ptr 0 0,.ptr 1 0,.ptr 2 0] ⟨[[.sl r .non,.int .i64 n],[.sl r2 .full,.sl r3 .full,.sl r4 .full],[.sl r5 (.tok 0),.sl r6 (.tok 1),.sl r7 (.tok 2)]],[(k,3,80),(k2,3,85),(k3,3,51)],[138,27,27]⟩=qcE r n r2 r3 r4 r5 r6 r7 k k2 k3:=by kernel_rfl
theorem qFd:qhh [.ptr 0 0,.ptr 1 0,.ptr 2 0] ⟨[[.sl r .non,.int .i64 n],[.sl r2 .full,.sl r3 .full,.sl r4 .full],[.sl r5 (.tok 0),.sl r6 (.tok 1),.sl r7 (.tok 2)]],[(k,3,80),(k2,3,85),(k3,3,51)],[138,27,27]⟩=lnext qhh (qcE r n r2 r3 r4 r5 r6 r7 k k2 k3).run:=by unfold qhh;rw [qaC,qUh]
def qa7:Option (PExit×List PV×Store):=qhh [.ptr 0 0,.ptr 1 0,.ptr 2 0] ⟨[[.sl r .non,.int .i64 n],[.sl r2 .full,.sl r3 .full,.sl r4 .full],[.sl r5 (.tok 0),.sl r6 (.tok 1),.sl r7 (.tok 2)]],[(k,3,80),(k2,3,85),(k3,3,51)],[138,27,27]⟩
def qmB:Int:=(gInt (gAt (gCs (gAt (gCs (gPan (qa7 r n r2 r3 r4 r5 r6 r7 k k2 k3))) 0)) 0))
def qnE:qR:=qaO 0 0 (qa7 r n r2 r3 r4 r5 r6 r7 k k2 k3)
def qpi:qR:=qaO 1 0 (qa7 r n r2 r3 r4 r5 r6 r7 k k2 k3)
def qpt:qR:=qaO 1 1 (qa7 r n r2 r3 r4 r5 r6 r7 k k2 k3)
def qpF:qR:=qaO 1 2 (qa7 r n r2 r3 r4 r5 r6 r7 k k2 k3)
def qo8:qR:=qaO 2 0 (qa7 r n r2 r3 r4 r5 r6 r7 k k2 k3)
def qp0:qR:=qaO 2 1 (qa7 r n r2 r3 r4 r5 r6 r7 k k2 k3)
def qop:qR:=qaO 2 2 (qa7 r n r2 r3 r4 r5 r6 r7 k k2 k3)
def qtt:Nat:=(gTok (qa7 r n r2 r3 r4 r5 r6 r7 k k2 k3) 0)
def qoy:Nat:=(gTok (qa7 r n r2 r3 r4 r5 r6 r7 k k2 k3) 1)
def qp4:Nat:=(gTok (qa7 r n r2 r3 r4 r5 r6 r7 k k2 k3) 2)
def quW:Bool:=isW (qa7 r n r2 r3 r4 r5 r6 r7 k k2 k3) ((.pan (.iface 172 (.agg [.int .i64 (qmB r n r2 r3 r4 r5 r6 r7 k k2 k3)]))),[],⟨[[.sl (qnE r n r2 r3 r4 r5 r6 r7 k k2 k3) .non,.int .i64 n],[.sl (qpi r n r2 r3 r4 r5 r6 r7 k k2 k3) .full,.sl (qpt r n r2 r3 r4 r5 r6 r7 k k2 k3) .full,.sl (qpF r n r2 r3 r4 r5 r6 r7 k k2 k3) .full],[.sl (qo8 r n r2 r3 r4 r5 r6 r7 k k2 k3) (.tok 0),.sl (qp0 r n r2 r3 r4 r5 r6 r7 k k2 k3) (.tok 1),.sl (qop r n r2 r3 r4 r5 r6 r7 k k2 k3) (.tok 2)]],[((qtt r n r2 r3 r4 r5 r6 r7 k k2 k3),3,80),((qoy r n r2 r3 r4 r5 r6 r7 k k2 k3),3,85),((qp4 r n r2 r3 r4 r5 r6 r7 k k2 k3),3,51)],[138,27,27]⟩)
def qme:qR:=qaO 0 0 (qa7 r n r2 r3 r4 r5 r6 r7 k k2 k3)
def qpu:qR:=qaO 1 0 (qa7 r n r2 r3 r4 r5 r6 r7 k k2 k3)
def qpA:qR:=qaO 1 1 (qa7 r n r2 r3 r4 r5 r6 r7 k k2 k3)
def qpE:qR:=qaO 1 2 (qa7 r n r2 r3 r4 r5 r6 r7 k k2 k3)
def qkE:qR:=qaO 2 0 (qa7 r n r2 r3 r4 r5 r6 r7 k k2 k3)
def qjK:qR:=qaO 2 1 (qa7 r n r2 r3 r4 r5 r6 r7 k k2 k3)
def qkt:qR:=qaO 2 2 (qa7 r n r2 r3 r4 r5 r6 r7 k k2 k3)
def quZ:Nat:=(gTok (qa7 r n r2 r3 r4 r5 r6 r7 k k2 k3) 0)
def qp2:Nat:=(gTok (qa7 r n r2 r3 r4 r5 r6 r7 k k2 k3) 1)
def qpq:Nat:=(gTok (qa7 r n r2 r3 r4 r5 r6 r7 k k2 k3) 2)
def quc:Bool:=isW (qa7 r n r2 r3 r4 r5 r6 r7 k k2 k3) ((.exit 0),[.ptr 1 0,.ptr 2 0],⟨[[.sl (qme r n r2 r3 r4 r5 r6 r7 k k2 k3) .non,.int .i64 n],[.sl (qpu r n r2 r3 r4 r5 r6 r7 k k2 k3) .full,.sl (qpA r n r2 r3 r4 r5 r6 r7 k k2 k3) .full,.sl (qpE r n r2 r3 r4 r5 r6 r7 k k2 k3) .full],[.sl (qkE r n r2 r3 r4 r5 r6 r7 k k2 k3) (.tok 0),.sl (qjK r n r2 r3 r4 r5 r6 r7 k k2 k3) (.tok 1),.sl (qkt r n r2 r3 r4 r5 r6 r7 k k2 k3) (.tok 2)]],[((quZ r n r2 r3 r4 r5 r6 r7 k k2 k3),3,80),((qp2 r n r2 r3 r4 r5 r6 r7 k k2 k3),3,85),((qpq r n r2 r3 r4 r5 r6 r7 k k2 k3),3,51)],[138,27,27]⟩)
end
def qkn:List PV→Store→Tr (PExit×List PV×Store)|[.ptr 0 0,.ptr 1 0,.ptr 2 0],⟨[[.sl r .non,.int .i64 n],[.sl r2 .full,.sl r3 .full,.sl r4 .full],[.sl r5 (.tok 0),.sl r6 (.tok 1),.sl r7 (.tok 2)]],[(k,3,80),(k2,3,85),(k3,3,51)],[138,27,27]⟩=>.ite (quW r n r2 r3 r4 r5 r6 r7 k k2 k3) (.ret ((.pan (.iface 172 (.agg [.int .i64 (qmB r n r2 r3 r4 r5 r6 r7 k k2 k3)]))),[],⟨[[.sl (qnE r n r2 r3 r4 r5 r6 r7 k k2 k3) .non,.int .i64 n],[.sl (qpi r n r2 r3 r4 r5 r6 r7 k k2 k3) .full,.sl (qpt r n r2 r3 r4 r5 r6 r7 k k2 k3) .full,.sl (qpF r n r2 r3 r4 r5 r6 r7 k k2 k3) .full],[.sl (qo8 r n r2 r3 r4 r5 r6 r7 k k2 k3) (.tok 0),.sl (qp0 r n r2 r3 r4 r5 r6 r7 k k2 k3) (.tok 1),.sl (qop r n r2 r3 r4 r5 r6 r7 k k2 k3) (.tok 2)]],[((qtt r n r2 r3 r4 r5 r6 r7 k k2 k3),3,80),((qoy r n r2 r3 r4 r5 r6 r7 k k2 k3),3,85),((qp4 r n r2 r3 r4 r5 r6 r7 k k2 k3),3,51)],[138,27,27]⟩)) (.ite (quc r n r2 r3 r4 r5 r6 r7 k k2 k3) (.ret ((.exit 0),[.ptr 1 0,.ptr 2 0],⟨[[.sl (qme r n r2 r3 r4 r5 r6 r7 k k2 k3) .non,.int .i64 n],[.sl (qpu r n r2 r3 r4 r5 r6 r7 k k2 k3) .full,.sl (qpA r n r2 r3 r4 r5 r6 r7 k k2 k3) .full,.sl (qpE r n r2 r3 r4 r5 r6 r7 k k2 k3) .full],[.sl (qkE r n r2 r3 r4 r5 r6 r7 k k2 k3) (.tok 0),.sl (qjK r n r2 r3 r4 r5 r6 r7 k k2 k3) (.tok 1),.sl (qkt r n r2 r3 r4 r5 r6 r7 k k2 k3) (.tok 2)]],[((quZ r n r2 r3 r4 r5 r6 r7 k k2 k3),3,80),((qp2 r n r2 r3 r4 r5 r6 r7 k k2 k3),3,85),((qpq r n r2 r3 r4 r5 r6 r7 k k2 k3),3,51)],[138,27,27]⟩)) (.fail))|_,_=>.fail
theorem qSb:∀ vs σ r,(qkn vs σ).run=some r→qhh vs σ=some r:=by
 intro vs σ r h;unfold qkn at h
 split at h
 ·exact qae h fun h=>qae h fun h=>by cases h
 ·cases h
theorem qJ1 (gl:Gl):∀ fr σ e fr' σ',(orc qwA qkn fr σ).run=some (e,fr',σ')→LDoes Tryz.prog gl qvq fr σ e fr' σ':=qbw qaj (qH0 gl ) qai (L:=qzG) (qab (by kernel_rfl)) (by kernel_rfl) qSb
def qI1:LpsT:=fun r fr σ=>bif Nat.beq r 2 then orc qwA qkn fr σ else .fail
section
variable (r:qR) (n:Int)
def qvu:Tr (PR×Store):=let z1:=qac r;.ite (quW z1 n [] [] [] [] [] [] 0 0 0) (.ret (PR.pan (.iface 172 (.agg [.int .i64 (qmB z1 n [] [] [] [] [] [] 0 0 0)])),Store.mk [[.sl (qaa (qnE z1 n [] [] [] [] [] [] 0 0 0)) .non,.int .i64 n]] [] [138])) (.ite (quc z1 n [] [] [] [] [] [] 0 0 0) (.ret (PR.val (.agg [.sl (qaa (qkE z1 n [] [] [] [] [] [] 0 0 0)) .non,.sl (qaa (qjK z1 n [] [] [] [] [] [] 0 0 0)) .non,.sl (qaa (qkt z1 n [] [] [] [] [] [] 0 0 0)) .non]),Store.mk [[.sl (qaa (qme z1 n [] [] [] [] [] [] 0 0 0)) .non,.int .i64 n]] [] [138])) .fail)
theorem qYz:(nrmM tbT qyM qI1 Tryz.f35 [.ptr 0 0] ⟨[[.sl r .non,.int .i64 n]],[],[138]⟩).flat=qvu r n:=by kernel_rfl
def qgd:Option (PR×Store):=(qvu r n).run
def qsD:Int:=oG (qgd r n)
def qtd:qR:=qbn 0 0 (qgd r n)
def qyA:Bool:=isW (qgd r n) ((.pan (.iface 172 (.agg [.int .i64 (qsD r n)]))),⟨[[.sl (qtd r n) .non,.int .i64 n]],[],[138]⟩)
def qr7:qR:=qcX 0 (qgd r n)
def qmZ:qR:=qcX 1 (qgd r n)
def qnH:qR:=qcX 2 (qgd r n)
def qnm:qR:=qbn 0 0 (qgd r n)
def qAZ:Bool:=isW (qgd r n) ((.val (.agg [.sl (qr7 r n) .non,.sl (qmZ r n) .non,.sl (qnH r n) .non])),⟨[[.sl (qnm r n) .non,.int .i64 n]],[],[138]⟩)
end
def qI0:List PV→Store→Tr (PR×Store)|[.ptr 0 0],⟨[[.sl r .non,.int .i64 n]],[],[138]⟩=>.ite (qyA r n) (.ret ((.pan (.iface 172 (.agg [.int .i64 (qsD r n)]))),⟨[[.sl (qtd r n) .non,.int .i64 n]],[],[138]⟩)) (.ite (qAZ r n) (.ret ((.val (.agg [.sl (qr7 r n) .non,.sl (qmZ r n) .non,.sl (qnH r n) .non])),⟨[[.sl (qnm r n) .non,.int .i64 n]],[],[138]⟩)) (.fail))|_,_=>.fail
theorem qOI (gl:Gl):SimM Tryz.prog gl 35 fun args σ=>(qI0 args σ).run:=by
 refine SimM.of_nrm (G:=qyM) (L:=qI1) qaj (qH0 gl ) qai Tryz.func35 rfl (by rfl) (by kernel_rfl) (qav (L:=lps qI1) [(2,qvq)] (by kernel_rfl) (List.forall_mem_cons.2 ⟨fun fr σ e fr' σ' h=>qJ1 gl  fr σ e fr' σ' h,(List.forall_mem_nil _)⟩)) ?_
 intro args σ x h;unfold qI0 at h
 split at h
 ·exact (congrArg Tr.run (qYz _ _)).trans (qae h fun h=>qae h fun h=>by cases h)
 ·cases h
end Go.Pv
set_option linter.unusedSimpArgs false
set_option linter.unusedVariables false
namespace Go.Pv
open Go.RowKit
abbrev PD:=FuncId×List PV×List PV
def DefL (H:Gh) (w:World):List PD→List Deferred→Prop
 |[],[]=>True
 |(f,avs,caps)::p,d::ds=>(∃ vs cs:List Value,d={ target:=.fn (.func f) cs.toArray,args:=vs.toArray }∧RelL H w avs vs∧RelL H w caps cs)∧DefL H w p ds
 |_,_=>False
theorem DefL.mono {H H':Gh} {w w':World} (g:Mono H w H' w'):∀ {p:List PD} {ds:List Deferred},DefL H w p ds→DefL H' w' p ds
 |[],[],_=>trivial
 |(f,avs,caps)::p,d::ds,⟨⟨vs,cs,e,h1,h2⟩,k⟩=>⟨⟨vs,cs,e,h1.mono g,h2.mono g⟩,DefL.mono g k⟩
 |[],_::_,h=>h.elim
 |_::_,[],h=>h.elim
def StD (gl:Gl) (H0:Gh) (w0:World) (fr:List PV) (σ:Store) (pd:List PD) (a:Act) (w:World):Prop :=
 ∃ H,Ev gl H0 w0 H w∧Ok gl H σ w∧RelL H w fr a.tmps.toList∧DefL H w pd a.defers
def pdefer (fr:List PV) (c:Call):Option PD:=match c.callee with
 |.value f=>match ev fr f with
  |.fn g caps=>some (g,c.args.toList.map (ev fr),caps)
  |_=>none
 |_=>none
def passert (tb:Tab) (fr:List PV) (x:Operand) (t:TypeId) (ok:Bool):Option PV:=match tb t,ev fr x,ok with
 |some K,.iface t' v,true=>match K.kd with
  |.agg _ _ _=>match Nat.beq t' t with
   |true=>some (.tup [v,.bool true])
   |false=>none
  |_=>none
 |_,_,_=>none
inductive DR where
 |ok (fr:List PV) (σ:Store) (pd:List PD)
 |pan (x:PV) (fr:List PV) (σ:Store) (pd:List PD)
def dfin (Γ:Gam) (fr:List PV) (σ:Store) (pd:List PD) (o:Oper):Option (PV×Store)→Option DR
 |some (x,σ')=>some (.ok (pput fr o.dst x) σ' pd)
 |none=>(ppan Γ fr σ o).map fun r=>.pan r.1 fr r.2 pd
def dop (tb:Tab) (Γ:Gam) (fr:List PV) (σ:Store) (pd:List PD) (o:Oper):Option DR:=match o.op with
 |.defer c=>match o.dst with
  |none=>(pdefer fr c).map fun d=>.ok fr σ (d::pd)
  |some _=>none
 |.typeAssert x _ t ok=>(passert tb fr x t ok).map fun y=>.ok (pput fr o.dst y) σ pd
 |_=>dfin Γ fr σ pd o (pop tb Γ fr σ o)
def dops (tb:Tab) (Γ:Gam) (ops:List Oper):List Oper→List PV→Store→List PD→Option DR
 |[],fr,σ,pd=>some (.ok fr σ pd)
 |o::rest,fr,σ,pd=>match pwanted ops fr o with
  |none=>none
  |some false=>dops tb Γ ops rest (pput fr o.dst (.tup [])) σ pd
  |some true=>match dop tb Γ fr σ pd o with
   |some (.ok fr' σ' pd')=>dops tb Γ ops rest fr' σ' pd'
   |r=>r
def dexec (tb:Tab) (Γ:Gam):Code→List PV→Store→List PD→Option (PExit×List PV×Store×List PD)
 |.skip,fr,σ,pd=>some (.normal,fr,σ,pd)
 |.ret,fr,σ,pd=>some (.ret,fr,σ,pd)
 |.region _ ops draw,fr,σ,pd=>match draw with
  |true=>none
  |false=>match dops tb Γ ops.toList ops.toList fr σ pd with
   |some (.ok fr' σ' pd')=>some (.normal,fr',σ',pd')
   |some (.pan x fr' σ' pd')=>some (.pan x,fr',σ',pd')
   |none=>none
 |.seq a b,fr,σ,pd=>match dexec tb Γ a fr σ pd with
  |some (.normal,fr',σ',pd')=>dexec tb Γ b fr' σ' pd'
  |r=>r
 |.cond c a b,fr,σ,pd=>match ev fr c with
  |.bool t=>match t with
   |true=>dexec tb Γ a fr σ pd
   |false=>dexec tb Γ b fr σ pd
  |_=>none
 |_,_,_,_=>none
section
variable {P : Program} {tb : Tab} {gl : Gl} {Γ : Gam} {H0 : Gh} {w0 : World} {fr : List PV} {σ : Store} {pd : List PD} {a : Act} {w : World} {Q : Exit → Act → World → Prop}
theorem qCk (hst:StD gl H0 w0 fr σ pd a w) {ops:Array Oper} {o:Oper} {b:Bool} (h:pwanted ops.toList fr o=some b):Region.wanted o (yielded ops a.tmps)=b:=by
 obtain⟨H,hev,hok,hfr,hd⟩:=hst;refine qco (gl:=gl) (H0:={ H with K:=(w.heap.size,a.defers) }) (w0:=w) (σ:=σ) ⟨_,Ev.refl _ w,hok.setK _,hfr.mono (Mono.setK' H w _),Nat.le_refl _,[],rfl,List.nodup_nil,fun D h=>by cases h⟩ h
theorem qVj (hst:StD gl H0 w0 fr σ pd a w) (dst:Option Tmp):StD gl H0 w0 (pput fr dst (.tup [])) σ pd (a.put dst undef) w:=by
 obtain⟨H,hev,hok,hfr,hd⟩:=hst;exact⟨H,hev,hok,qx8 hfr (.tup [] [] .nil),by rw [qij];exact hd⟩
theorem qFh (hT:qaY P tb) {H:Gh} (hfr:RelL H w fr a.tmps.toList) {o:Oper} {x:Operand} {s t:TypeId} {ok:Bool} (ho:o.op=.typeAssert x s t ok) {y:PV} (h:passert tb fr x t ok=some y) :
  ∃ v,(execOp a.eval o).run P w=.ok (.value v) w∧Rel H w y v:=by
 unfold passert at h
 split at h
 ·rename_i K t' v hK hx;split at h
  ·rename_i fs hd gd hkd;split at h
   ·rename_i hb;have e:=Nat.eq_of_beq_eq_true hb;subst e;simp only [Option.some.injEq] at h
    subst h;have hr:=qaT hfr x;rw [hx] at hr;obtain⟨i,z,_,_,_,_,_,hk⟩:=qhI (hT _ _ hK);rw [hk] at hkd;obtain⟨fields,hu,_⟩:=qBy hkd;generalize hv:a.eval x=xv at hr;cases hr with
    |iface _ _ u hu' =>
     refine⟨.tuple #[u,.bool true],?_,?_⟩
     ·simp [execOp,ho,hv,Instr.typeAssert,run_underlying,hu]
     ·exact .tup [v,.bool true] [u,.bool true] (.cons _ _ _ _ hu' (.cons _ _ _ _ (.bool _) .nil))
   ·cases h
  ·cases h
 ·cases h
theorem qH1 {H:Gh} (hfr:RelL H w fr a.tmps.toList) {o:Oper} {c:Call} (ho:o.op=.defer c) {d:PD} (h:pdefer fr c=some d) :
  ∃ vs cs:List Value,(execOp a.eval o).run P w=.ok (.defer { target:=.fn (.func d.1) cs.toArray,args:=vs.toArray }) w∧RelL H w d.2.1 vs∧RelL H w d.2.2 cs:=by
 unfold pdefer at h
 split at h
 ·rename_i f hc;split at h
  ·rename_i g caps hf;simp only [Option.some.injEq] at h
   subst h;have hr:=qaT hfr f;rw [hf] at hr;generalize hv:a.eval f=fv at hr;cases hr with
   |fn _ _ cs hcs =>
    refine⟨c.args.toList.map a.eval,cs,?_,?_,hcs⟩
    ·have e1:(c.args.toList.map a.eval).toArray=c.args.map a.eval:=by rw [← Array.toList_map,Array.toArray_toList]
     simp [execOp,ho,resolve,hc,hv,Deferred.ofValue,e1]
    ·refine qdV.2 ⟨by simp,fun i x v hx hv=>?_⟩
     rw [List.getElem?_map] at hx hv;cases he:c.args.toList[i]? with
     |none=>rw [he] at hx;cases hx
     |some q =>
      rw [he] at hx hv;cases hx
      cases hv
      exact qaT hfr q
  ·cases h
 ·cases h
theorem qH3 (hT:qaY P tb) (hΓ:qal P gl Γ) (hst:StD gl H0 w0 fr σ pd a w) {o:Oper} {n:Nat} {next:Act→World→Prop} :
  ∀ {R:DR},dop tb Γ fr σ pd o=some R →
  (match R with|.ok fr' σ' pd'=>∀ a' w',StD gl H0 w0 fr' σ' pd' a' w'→next a' w'|.pan x fr' σ' pd'=>∀ a' w',StD gl H0 w0 fr' σ' pd' a' w'→Q (.panic [{ v:=toV x,recovered:=false }]) a' w')→o.wpIn (rnd none) n P a w next Q:=by
 intro R h hn;obtain⟨H,hev,hok,hfr,hd⟩:=hst;unfold dop at h
 split at h
 ·rename_i c ho;split at h
  ·rename_i hdst;obtain⟨d,hp,hR⟩:=qaJ h;subst hR;obtain⟨vs,cs,hrun,h1,h2⟩:=qH1 (P:=P) hfr ho hp;refine⟨fun _ _=>trivial,?_⟩
   rw [show (rnd none).round=none from rfl,Oper.semAt_none,hrun,Oper.uponIn_defer,hdst]
   exact hn _ _ ⟨H,hev,hok,hfr,⟨vs,cs,rfl,h1,h2⟩,hd⟩
  ·cases h
 ·rename_i x s t ok ho;obtain⟨y,hp,hR⟩:=qaJ h;subst hR;obtain⟨v,hrun,hv⟩:=qFh hT hfr ho hp;refine (RunsTo.value (R:=fun v' w'=>v'=v∧w'=w) hrun ⟨rfl,rfl⟩) none n next Q fun v' w' ⟨e1,e2⟩=>?_
  subst e1 e2;exact hn _ _ ⟨H,hev,hok,qx8 hfr hv,by rw [qij];exact hd⟩
 ·unfold dfin at h
  split at h
  ·rename_i x σ' hp;simp only [Option.some.injEq] at h
   subst h;refine qG5 hT hΓ hok hfr hp none n next Q fun v w' ⟨H',hev',hok',hx⟩=>hn _ _ ⟨H',hev.trans hev',hok',qx8 (hfr.mono hev'.mono) hx,by rw [qij];exact hd.mono hev'.mono⟩
  ·obtain⟨r,hp,hR⟩:=qaJ h;subst hR;refine qux hΓ hok hfr (x:=r.1) (σ':=r.2) hp none n next Q fun w' ⟨H',hev',hok'⟩=>hn a w' ⟨H',hev.trans hev',hok',hfr.mono hev'.mono,hd.mono hev'.mono⟩
theorem qCu (hT:qaY P tb) (hΓ:qal P gl Γ) {ops:Array Oper} {n:Nat}:∀ (l:List Oper) (fr:List PV) (σ:Store) (pd:List PD) (a:Act) (w:World) (R:DR),StD gl H0 w0 fr σ pd a w→dops tb Γ ops.toList l fr σ pd=some R →
  (match R with|.ok fr' σ' pd'=>∀ a' w',StD gl H0 w0 fr' σ' pd' a' w'→Q .normal a' w'|.pan x fr' σ' pd'=>∀ a' w',StD gl H0 w0 fr' σ' pd' a' w'→Q (.panic [{ v:=toV x,recovered:=false }]) a' w')→wpListIn (rnd none) n P ops Q l a w:=by
 intro l
 induction l with
 |nil =>
  intro fr σ pd a w R hst h hq;simp only [dops,Option.some.injEq] at h
  subst h;exact hq a w hst
 |cons o l ih =>
  intro fr σ pd a w R hst h hq;simp only [dops] at h
  split at h
  ·cases h
  ·rename_i hw;have hwn:=qCk hst hw;simp only [wpListIn,hwn];exact⟨fun _ _=>trivial,ih _ _ _ _ _ _ (qVj hst _) h hq⟩
  ·rename_i hw;have hwn:=qCk hst hw;simp only [wpListIn,hwn,if_true];split at h
   ·rename_i fr' σ' pd' hp;exact qH3 hT hΓ hst hp fun a' w' hst'=>ih _ _ _ _ _ _ hst' h hq
   ·rename_i hne;cases R with
    |ok fr' σ' pd'=>exact (hne _ _ _ h).elim
    |pan x fr' σ' pd'=>exact qH3 hT hΓ hst h hq
theorem qpl (hT:qaY P tb) (hΓ:qal P gl Γ) {n:Nat}:∀ (c:Code) (fr:List PV) (σ:Store) (pd:List PD) (e:PExit) (fr':List PV) (σ':Store) (pd':List PD),dexec tb Γ c fr σ pd=some (e,fr',σ',pd') →
  ∀ (Q:Exit→Act→World→Prop) (a:Act) (w:World),StD gl H0 w0 fr σ pd a w→(∀ a' w',StD gl H0 w0 fr' σ' pd' a' w'→Q e.as a' w')→c.wpIn (rnd none) n P Q a w:=by
 intro c
 induction c with
 |skip =>
  intro fr σ pd e fr' σ' pd' h Q a w hst hq;simp only [dexec,Option.some.injEq,Prod.mk.injEq] at h
  obtain⟨rfl,rfl,rfl,rfl⟩:=h;exact wpIn_skip (hq _ _ hst)
 |ret =>
  intro fr σ pd e fr' σ' pd' h Q a w hst hq;simp only [dexec,Option.some.injEq,Prod.mk.injEq] at h
  obtain⟨rfl,rfl,rfl,rfl⟩:=h;exact wpIn_ret (hq _ _ hst)
 |region id ops draw =>
  intro fr σ pd e fr' σ' pd' h Q a w hst hq;cases draw with
  |true=>simp only [dexec] at h;cases h
  |false =>
   simp only [dexec] at h
   refine wpIn_region_list ?_;split at h
   ·rename_i fr1 σ1 pd1 hp;simp only [Option.some.injEq,Prod.mk.injEq] at h
    obtain⟨rfl,rfl,rfl,rfl⟩:=h;exact qCu hT hΓ _ _ _ _ _ _ _ hst hp hq
   ·rename_i x fr1 σ1 pd1 hp;simp only [Option.some.injEq,Prod.mk.injEq] at h
    obtain⟨rfl,rfl,rfl,rfl⟩:=h;exact qCu hT hΓ _ _ _ _ _ _ _ hst hp hq
   ·cases h
 |seq x y ihx ihy =>
  intro fr σ pd e fr' σ' pd' h Q a w hst hq;simp only [dexec] at h
  refine wpIn_seq ?_;split at h
  ·rename_i fr1 σ1 pd1 hx;exact ihx _ _ _ _ _ _ _ hx _ _ _ hst fun a1 w1 hst1=>ihy _ _ _ _ _ _ _ h _ _ _ hst1 hq
  ·rename_i hne;refine ihx _ _ _ _ _ _ _ h _ _ _ hst fun a1 w1 hst1=>?_
   cases e with
   |normal=>exact (hne _ _ _ h).elim
   |exit id=>exact hq _ _ hst1
   |ret=>exact hq _ _ hst1
   |pan x=>exact hq _ _ hst1
 |cond c x y ihx ihy =>
  intro fr σ pd e fr' σ' pd' h Q a w hst hq;simp only [dexec] at h
  split at h
  ·rename_i t hc;obtain⟨H,hev,hok,hfr,hd⟩:=id hst;have hr:=qaT hfr c;rw [hc] at hr;generalize hv:a.eval c=cv at hr;cases hr
   cases t with
   |true=>exact wpIn_cond hv (ihx _ _ _ _ _ _ _ h _ _ _ hst hq)
   |false=>exact wpIn_cond hv (ihy _ _ _ _ _ _ _ h _ _ _ hst hq)
  ·cases h
 |_ =>
  intro fr σ pd e fr' σ' pd' h;simp only [dexec] at h
  cases h
end
inductive PMode where
 |ret
 |pan (x:PV)
def PMode.as:PMode→FrameMode
 |.ret=>.returning
 |.pan x=>.panicking [{ v:=toV x,recovered:=false }]
theorem PMode.settled (m:PMode):settle m.as=m.as:=by cases m<;>rfl
theorem PMode.notRun (m:PMode):m.as≠.run:=by cases m<;>simp [PMode.as]
structure DefOk (P:Program) (gl:Gl) (f:FuncId) (args:List PV) (m:PMode) (σ:Store) (m':PMode) (σ':Store):Prop where
 ent : ∃ fn, P.funcs[f]? = some fn ∧ (fn.name == "runtime.NumGoroutine") = false ∧ fn.body.isNone = false
 run:∀ (H:Gh) (w:World) (vs:List Value),Ok gl H σ w→RelL H w args vs →
  CallsDIn (rnd none) 0 P f vs.toArray m.as w fun e u' w'=>(∃ v,e=.returned v)∧settle u'=m'.as∧qI9 gl H w σ' w'
inductive LeaveP (P:Program) (gl:Gl):List PD→PMode→Store→Store→Prop
 |nil (σ:Store):LeaveP P gl [] .ret σ σ
 |cons {f:FuncId} {avs caps:List PV} {pd:List PD} {m m':PMode} {σ σ' σ'':Store} (h:DefOk P gl f (avs++caps) m σ m' σ') (k:LeaveP P gl pd m' σ' σ''):LeaveP P gl ((f,avs,caps)::pd) m σ σ''
section
variable {P : Program} {tb : Tab} {gl : Gl} {Γ : Gam}
theorem LeaveP.sound {fn:Func} {tmps:Array Value} {R:Ending→World→Prop} {H0:Gh} {w0:World} {pd:List PD} {m:PMode} {σ σ':Store} (h:LeaveP P gl pd m σ σ') :
  ∀ {H:Gh} {w:World} {ds:List Deferred},Ev gl H0 w0 H w→Ok gl H σ w→DefL H w pd ds →
  (∀ H' w',Ev gl H0 w0 H' w'→Ok gl H' σ' w'→Mono H w H' w'→∃ v,(results fn tmps).run P w'=.ok v w'∧R (.returned v) w')→LeavesInM (rnd none) 0 P fn tmps R ds m.as w:=by
 induction h with
 |nil σ =>
  intro H w ds hev hok hd hR;cases ds with
  |cons d ds=>exact hd.elim
  |nil=>exact hR H w hev hok (Ev.refl (gl:=gl) H w).mono
 |@cons f avs caps pd m m' σ σ' σ'' h k ih =>
  intro H w ds hev hok hd hR;cases ds with
  |nil=>exact hd.elim
  |cons d ds =>
   obtain⟨⟨vs,cs,hde,h1,h2⟩,hd⟩:=hd;subst hde;obtain⟨fn',hfn,hname,hbody⟩:=h.ent;have e1:(vs++cs).toArray=vs.toArray++cs.toArray:=by simp
   have hc:=h.run H w (vs++cs) hok (h1.app h2);rw [e1] at hc;refine⟨m.notRun,.inr ⟨(fun h=>by cases h),.func f,cs.toArray,f,vs.toArray++cs.toArray,rfl,?_,fun _ _=>trivial,?_⟩⟩
   ·simp only [invoke,callFunc,Sem.run_bind,run_program,Result.andThen_ok,hfn,hname,hbody,Bool.false_eq_true,if_false,Sem.run_pure]
   ·refine hc.mono ?_;rintro e u' w' ⟨⟨v,rfl⟩,hu,H',hev',hok'⟩;show LeavesInM (rnd none) 0 P fn tmps R ds (settle u') w'
    rw [hu];exact ih (hev.trans hev') hok' (hd.mono hev'.mono) fun H'' w'' e1 e2 e3=>hR H'' w'' e1 e2 (hev'.mono.trans e3)
theorem SimP.of_defer (hT : qaY P tb) (hΓ : qal P gl Γ) {f : FuncId} {fn : Func} {c : Code} (hf : P.funcs[f]? = some fn) (hb : fn.body = some c) (hn : (fn.name == "runtime.NumGoroutine") = false)
  {F:List PV→Option PV} (h:∀ args x,F args=some x→∃ (e:PExit) (m:PMode) (fr:List PV) (σ:Store) (pd:List PD) (σ':Store) (xs:List PV),dexec tb Γ c (args++List.replicate (fn.ntmps - args.length) .top) ⟨[],[],[]⟩ []=some (e,fr,σ,pd)∧((e=.ret∧m=.ret)∨∃ y,e=.pan y∧m=.pan y)∧LeaveP P gl pd m σ σ'∧presults tb fr σ' fn.results.toList=some xs∧pout (xs.map (oview σ'.objs))=x):SimP P gl f F where
 ent:=⟨fn,hf,hn,by simp [hb]⟩
 run:=by
  intro args x hx H w vs hB hob htk hgl hrel;obtain⟨e,m,fr0,σ0,pd,σ',xs0,hdo,he,hlv,hxs0,hpo0⟩:=h args x hx;refine qq0 (r:=none) (n:=0) (callsIn_of_wp_marks hf hb trivial ?_);have hst:StD gl { H with K:=(w.heap.size,[]) } w (args++List.replicate (fn.ntmps - args.length) .top) ⟨[],[],[]⟩ [] { tmps:=vs.toArray++Array.replicate (fn.ntmps - vs.toArray.size) undef,defers:=[] } w:=by
   refine⟨{ H with K:=(w.heap.size,[]) },Ev.refl _ w,⟨by show H.B≤_;rw [hB];exact Nat.le_refl _,fun b o e=>⟨by show b < H.B;rw [hB];exact qak (hgl b o e),hgl b o e⟩,by simp [hob],fun id b cs e=>by simp [hob] at e,fun i j b e=>by simp [hob] at e,by simp [htk],fun t T e=>by simp [htk] at e,fun t u T U e=>by simp [htk] at e,rfl,fun id b T cs e=>by simp [hob] at e⟩,?_,trivial⟩
   have hl:=hrel.len;have e:(vs.toArray++Array.replicate (fn.ntmps - vs.toArray.size) undef).toList=vs++List.replicate (fn.ntmps - args.length) undef:=by simp [hl]
   rw [e];refine (hrel.mono (Mono.setK' H w _)).app ?_;have:=RelL.tops (H:={ H with K:=(w.heap.size,[]) }) (w:=w) (List.replicate (fn.ntmps - args.length) undef)
   simpa using this
  refine qpl hT hΓ c _ _ _ e fr0 σ0 pd hdo _ _ _ hst fun a w1 hst1=>?_
  have fin:LeavesInM (rnd none) 0 P fn a.tmps (fun e w'=>∃ v,e=.returned v∧(Below w.heap.size w w'∧Dr gl w w')∧Rel { H with aux:=fun _ _=>False } w' x v) a.defers m.as w1:=by
   obtain⟨H',hev1,hok1,hfr1,hd⟩:=hst1;refine hlv.sound hev1 hok1 hd fun H'' w' hev hok hmo=>?_
   have hfr:=hfr1.mono hmo;obtain⟨vs',hvs,hrs⟩:=qes hT hok hfr _ _ hxs0;have hbel:Below w.heap.size w w':=⟨hev.os,hev.tape,hev.output,hev.size,fun b hlt=>hev.block b (by show b < H.B;rw [hB];exact hlt) (by show b∉H.ob;rw [hob];simp)⟩
   have hrun:(results fn a.tmps).run P w'=.ok (if h:vs'.toArray.size=1 then vs'.toArray[0] else .tuple vs'.toArray) w':=by
    rw [qhR];simp only [Sem.run_bind,hvs,Result.andThen_ok,Sem.run_pure]
   have back:∀ {y:PV} {u:Value},Rel { { H with K:=(w.heap.size,[]) } with aux:=fun _ _=>False } w' y u→Rel { H with aux:=fun _ _=>False } w' y u:=fun h=>Rel.mono (Mono.setK { H with aux:=fun _ _=>False } w' (w.heap.size,[])) h
   have backL:∀ {y:List PV} {u:List Value},RelL { { H with K:=(w.heap.size,[]) } with aux:=fun _ _=>False } w' y u→RelL { H with aux:=fun _ _=>False } w' y u:=fun h=>RelL.mono (Mono.setK { H with aux:=fun _ _=>False } w' (w.heap.size,[])) h
   refine⟨_,hrun,_,rfl,⟨hbel,hev.dr⟩,?_⟩;subst hpo0;have hl:=hrs.len;cases hrs with
   |nil =>
    simp only [List.map_nil,pout,qbt];exact .tup [] [] .nil
   |cons y v ys us hy hys =>
    cases hys with
    |nil=>exact back (qyR hev hok hob htk hy)
    |cons y2 v2 ys us hy2 hys =>
     have h1:¬ ((v::v2::us).toArray.size=1):=by simp
     rw [dif_neg h1];exact .tup _ _ (backL (quT hev hok hob htk (.cons _ _ _ _ hy (.cons _ _ _ _ hy2 hys))))
  rcases he with⟨rfl,rfl⟩|⟨y,rfl,rfl⟩
  ·exact fin
  ·exact fin
theorem DefOk.of_quiet (hT : qaY P tb) (hΓ : qal P gl Γ) {f : FuncId} {fn : Func} {c : Code} (hf : P.funcs[f]? = some fn) (hb : fn.body = some c) (hn : (fn.name == "runtime.NumGoroutine") = false) (hr : fn.results.toList = [])
  {args:List PV} {m:PMode} {σ:Store} {e:PExit} {σ':Store} (he:e=.normal∨e=.ret) (h:(dexec tb Γ c (args++List.replicate (fn.ntmps - args.length) .top) σ []).map (fun r=>(r.1,r.2.2.1,r.2.2.2))=some (e,σ',[])):DefOk P gl f args m σ m σ' where
 ent:=⟨fn,hf,hn,by simp [hb]⟩
 run:=by
  obtain⟨⟨e1,fr,σ1,pd1⟩,h,h2⟩:=qaJ h;simp only [Prod.mk.injEq] at h2;rw [h2.1,h2.2.1,h2.2.2] at h
  intro H w vs hok hrel;have key:c.wpIn (rnd none) 0 P (bodyPost P fn fun e w'=>(∃ v,e=.returned v)∧qI9 gl H w σ' w') { tmps:=vs.toArray++Array.replicate (fn.ntmps - vs.toArray.size) undef,defers:=[] } w:=by
   have hst:StD gl H w (args++List.replicate (fn.ntmps - args.length) .top) σ [] { tmps:=vs.toArray++Array.replicate (fn.ntmps - vs.toArray.size) undef,defers:=[] } w:=by
    refine⟨H,Ev.refl _ w,hok,?_,trivial⟩;have hl:=hrel.len;have e:(vs.toArray++Array.replicate (fn.ntmps - vs.toArray.size) undef).toList=vs++List.replicate (fn.ntmps - args.length) undef:=by simp [hl]
    rw [e];refine hrel.app ?_;have:=RelL.tops (H:=H) (w:=w) (List.replicate (fn.ntmps - args.length) undef);simpa using this
   refine qpl hT hΓ c _ _ _ _ _ _ _ h _ _ _ hst fun a w1 hst1=>?_
   obtain⟨H',hev1,hok1,hfr1,hd⟩:=hst1;have hds:a.defers=[]:=by
    cases hda:a.defers with
    |nil=>rfl
    |cons d ds=>rw [hda] at hd;exact hd.elim
   have hrun:(results fn a.tmps).run P w1=.ok (.tuple #[]) w1:=by
    obtain⟨vs',hvs,hrs⟩:=qes hT hok1 hfr1 [] [] rfl;cases hrs
    rw [qhR,hr];simp only [Sem.run_bind,hvs,Result.andThen_ok,Sem.run_pure];rfl
   rcases he with rfl|rfl
   ·exact⟨hds,_,hrun,⟨_,rfl⟩,H',hev1,hok1⟩
   ·exact⟨hds,_,hrun,⟨_,rfl⟩,H',hev1,hok1⟩
  refine (callsDIn_of_wp (u:=m.as) hf hb trivial key).mono ?_;rintro e u' w' ⟨rfl,h1,h2⟩;exact⟨h1,m.settled,h2⟩
theorem DefOk.of_recover (hT : qaY P tb) (hΓ : qal P gl Γ) {f : FuncId} {fn : Func} {i0 : Nat} {ops : Array Oper} {c : Code} (hf : P.funcs[f]? = some fn) (hb : fn.body = some (.seq (.region i0 ops false) c)) (hn : (fn.name == "runtime.NumGoroutine") = false) (hr : fn.results.toList = [])
  {d0 d1:Nat} {o0 o1:Oper} (hops:ops=#[o0,o1]) (h0:o0.op=.call { callee:=.builtin .recover,args:=#[],argTypes:=#[] }) (h0d:o0.dst=some d0) (h0g:o0.guard=none) (h1:o1.op=.assign (.tmp d0)) (h1d:o1.dst=some d1) (h1g:o1.guard=none)
  {args:List PV} (hd0:args.length≤d0∧d0 < fn.ntmps) {m:PMode} {y:PV} (hm:(m=.ret∧y=.nili)∨(m=.pan y∧∀ H w,Rel H w y (toV y))) {σ:Store} {e:PExit} {σ':Store} (he:e=.normal∨e=.ret)
  (h:(dexec tb Γ c (((args++List.replicate (fn.ntmps - args.length) PV.top).set d0 y).set d1 y) σ []).map (fun r=>(r.1,r.2.2.1,r.2.2.2))=some (e,σ',[])):DefOk P gl f args m σ .ret σ' where
 ent:=⟨fn,hf,hn,by simp [hb]⟩
 run:=by
  obtain⟨⟨e1,fr,σ1,pd1⟩,h,h2⟩:=qaJ h;simp only [Prod.mk.injEq] at h2;rw [h2.1,h2.2.1,h2.2.2] at h
  intro H w vs hok hrel;refine callsDIn_of_wpSIn hf hb trivial fun c₀ cs hc₀=>?_
  refine wpSIn_seq (wpSIn_region ?_);have hl:=hrel.len;have hsz:d0 < (vs.toArray++Array.replicate (fn.ntmps - vs.toArray.size) undef).size:=by
   have:=hd0.2;simp only [Array.size_append,List.size_toArray,Array.size_replicate];omega
  have main:∀ (v:Value) (cs':List Frame) (u':FrameMode),Rel H w y v→cs'={ c₀ with mode:=u' }::cs→settle u'=.returning →
    c.wpSIn (rnd none) 0 P (bodyPostS P fn c₀ cs fun e u' w'=>(∃ v,e=.returned v)∧settle u'=PMode.ret.as∧qI9 gl H w σ' w') { tmps:=((vs.toArray++Array.replicate (fn.ntmps - vs.toArray.size) undef).set! d0 v).set! d1 v,defers:=[] } cs' w:=by
   intro v cs' u' hv hcs hu;refine wpSIn_of_wpIn rfl ?_;have hst:StD gl H w (((args++List.replicate (fn.ntmps - args.length) PV.top).set d0 y).set d1 y) σ [] { tmps:=((vs.toArray++Array.replicate (fn.ntmps - vs.toArray.size) undef).set! d0 v).set! d1 v,defers:=[] } w:=by
    refine⟨H,Ev.refl _ w,hok,?_,trivial⟩;have e:(((vs.toArray++Array.replicate (fn.ntmps - vs.toArray.size) undef).set! d0 v).set! d1 v).toList=((vs++List.replicate (fn.ntmps - args.length) undef).set d0 v).set d1 v:=by simp [hl]
    rw [e];refine RelL.set (RelL.set (hrel.app ?_) _ hv) _ hv;have:=RelL.tops (H:=H) (w:=w) (List.replicate (fn.ntmps - args.length) undef);simpa using this
   refine qpl hT hΓ c _ _ _ _ _ _ _ h _ _ _ hst fun a w1 hst1=>?_
   obtain⟨H',hev1,hok1,hfr1,hd⟩:=hst1;have hds:a.defers=[]:=by
    cases hda:a.defers with
    |nil=>rfl
    |cons d ds=>rw [hda] at hd;exact hd.elim
   have hrun:(results fn a.tmps).run P w1=.ok (.tuple #[]) w1:=by
    obtain⟨vs',hvs,hrs⟩:=qes hT hok1 hfr1 [] [] rfl;cases hrs
    rw [qhR,hr];simp only [Sem.run_bind,hvs,Result.andThen_ok,Sem.run_pure];rfl
   rcases he with rfl|rfl
   ·exact⟨hds,u',hcs,_,hrun,⟨_,rfl⟩,hu,H',hev1,hok1⟩
   ·exact⟨hds,u',hcs,_,hrun,⟨_,rfl⟩,hu,H',hev1,hok1⟩
  subst hops;have run0:∀ a:Act,(execOp a.eval o0).run P w=.ok .recover w:=by
   intro a;simp [execOp,h0,resolve,invoke,builtin]
  have run1:∀ a:Act,(execOp a.eval o1).run P w=.ok (.value (a.eval (.tmp d0))) w:=by
   intro a;simp [execOp,h1]
  have hlt:d0 < vs.length+(fn.ntmps - vs.length):=by
   have:=hd0.2;omega
  have want0:∀ ys,Region.wanted o0 ys=true:=fun ys=>by simp [Region.wanted,h0g]
  have want1:∀ ys,Region.wanted o1 ys=true:=fun ys=>by simp [Region.wanted,h1g]
  have get0:∀ v,((vs.toArray++Array.replicate (fn.ntmps - vs.toArray.size) undef).set! d0 v).getD d0 undef=v:=by
   intro v;simp only [Array.getD_eq_getD_getElem?,Array.set!_eq_setIfInBounds,Array.getElem?_setIfInBounds,if_true,if_pos hsz,Option.getD_some]
  rcases hm with⟨rfl,rfl⟩|⟨rfl,hy⟩
  ·have hrec:recoverD (c₀::cs)=none:=by simp [recoverD,hc₀,PMode.as]
   have hcc:(c₀::cs)={ c₀ with mode:=.returning }::cs:=by
    have:c₀.mode=.returning:=hc₀;rw [← this]
   have:=main .nilIface (c₀::cs) .returning .nili hcc rfl;simp [wpOpsSIn,List.range,List.range.loop,run0,run1,want0,want1,hrec,h0d,h1d,Act.put,Act.eval,Exit.thenS,get0];refine⟨fun _ _=>trivial,fun _ _=>trivial,?_⟩
   rw [if_pos hlt];simpa using this
  ·have hrec:recoverD (c₀::cs)=some (toV y,{ c₀ with mode:=.panicking [{ v:=toV y,recovered:=true }] }::cs):=by simp [recoverD,hc₀,PMode.as]
   have:=main (toV y) _ (.panicking [{ v:=toV y,recovered:=true }]) (hy H w) rfl rfl;simp [wpOpsSIn,List.range,List.range.loop,run0,run1,want0,want1,hrec,h0d,h1d,Act.put,Act.eval,Exit.thenS,get0];refine⟨fun _ _=>trivial,fun _ _=>trivial,?_⟩
   rw [if_pos hlt];simpa using this
theorem qcg {ops:List Oper} {o:Oper} {rest:List Oper} {fr fr':List PV} {σ σ':Store} {pd pd':List PD} (hg:pwanted ops fr o=some true) (h:dop tb Γ fr σ pd o=some (.ok fr' σ' pd')):dops tb Γ ops (o::rest) fr σ pd=dops tb Γ ops rest fr' σ' pd':=by
 simp only [dops,hg,h]
theorem qqw {ops:List Oper} {o:Oper} {rest:List Oper} {fr fr':List PV} {σ σ':Store} {pd pd':List PD} {x:PV} (hg:pwanted ops fr o=some true) (h:dop tb Γ fr σ pd o=some (.pan x fr' σ' pd')):dops tb Γ ops (o::rest) fr σ pd=some (.pan x fr' σ' pd'):=by
 simp only [dops,hg,h]
theorem qbb {a b:Code} {fr fr':List PV} {σ σ':Store} {pd pd':List PD} (h:dexec tb Γ a fr σ pd=some (.normal,fr',σ',pd')):dexec tb Γ (.seq a b) fr σ pd=dexec tb Γ b fr' σ' pd':=by
 simp only [dexec,h]
theorem qmw {a b:Code} {fr fr':List PV} {σ σ':Store} {pd pd':List PD} {x:PV} (h:dexec tb Γ a fr σ pd=some (.pan x,fr',σ',pd')):dexec tb Γ (.seq a b) fr σ pd=some (.pan x,fr',σ',pd'):=by
 simp only [dexec,h]
theorem qe2 {i:Nat} {ops:Array Oper} {fr fr':List PV} {σ σ':Store} {pd pd':List PD} (h:dops tb Γ ops.toList ops.toList fr σ pd=some (.ok fr' σ' pd')):dexec tb Γ (.region i ops false) fr σ pd=some (.normal,fr',σ',pd'):=by
 simp only [dexec,h]
theorem qmu {i:Nat} {ops:Array Oper} {fr fr':List PV} {σ σ':Store} {pd pd':List PD} {x:PV} (h:dops tb Γ ops.toList ops.toList fr σ pd=some (.pan x fr' σ' pd')):dexec tb Γ (.region i ops false) fr σ pd=some (.pan x,fr',σ',pd'):=by
 simp only [dexec,h]
theorem qAe {c:Operand} {a b:Code} {fr:List PV} {σ:Store} {pd:List PD} (h:ev fr c=.bool true):dexec tb Γ (.cond c a b) fr σ pd=dexec tb Γ a fr σ pd:=by
 simp only [dexec,h]
theorem qAp {c:Operand} {a b:Code} {fr:List PV} {σ:Store} {pd:List PD} (h:ev fr c=.bool false):dexec tb Γ (.cond c a b) fr σ pd=dexec tb Γ b fr σ pd:=by
 simp only [dexec,h]
theorem qYZ {t:TypeId} {n:Int} (h:(Lit.int .i64 n).wf=true):∀ (H:Gh) (w:World),Rel H w (.iface t (.agg [.int .i64 n])) (toV (.iface t (.agg [.int .i64 n]))) :=
 fun H w=>.iface _ _ _ (.agg _ _ (.cons _ _ _ _ (.int _ _ h) .nil))
theorem qh0 {D:List PV→Store→Tr (PR×Store)} {args:List PV} {σ:Store} {id:Nat} {c:List PV} {t:TypeId} {r:PR} {c':List PV} {os:List (List PV)} {tk:List (Nat×Nat×TypeId)} {ts:List TypeId} (h1:qUZ args=some id) (h2:σ.objs[id]?=some c) (h3:σ.tys[id]?=some t)
  (h:(D (args.map (ren id σ.objs)) ⟨[qdG c],[],[t]⟩).run=some (r,⟨c'::os,tk,t::ts⟩)):(frameT D args σ).run=some (qN8 r,{ σ with objs:=σ.objs.set id (qbt c') }):=by
 unfold frameT;simp only [h1,h2,h3,Tr.run_bind,h,Option.bind_some];simp only [qIY,Nat.beq_refl,Tr.run_ret]
variable {fr fr' fr1 : List PV} {σ σ' σ1 : Store} {e : PExit}
theorem Does.seqN {a b:Code} (h1:Does P gl a fr σ .normal fr1 σ1) (h2:Does P gl b fr1 σ1 e fr' σ'):Does P gl (.seq a b) fr σ e fr' σ' :=
 fun r n H0 w0 hR Q a w hst hq=>wpIn_seq (h1 r n H0 w0 hR _ _ _ hst fun a1 w1 hst1=>h2 r n H0 w0 hR _ _ _ hst1 hq)
theorem Does.seqR {a b:Code} (h1:Does P gl a fr σ .ret fr' σ'):Does P gl (.seq a b) fr σ .ret fr' σ' :=
 fun r n H0 w0 hR Q a w hst hq=>wpIn_seq (h1 r n H0 w0 hR _ _ _ hst hq)
theorem Does.ret:Does P gl .ret fr σ .ret fr σ:=fun r n H0 w0 hR Q a w hst hq=>wpIn_ret (hq _ _ hst)
theorem Does.condT {c:Operand} {a b:Code} (hc:ev fr c=.bool true) (h:Does P gl a fr σ e fr' σ'):Does P gl (.cond c a b) fr σ e fr' σ':=by
 intro r n H0 w0 hR Q a w hst hq;obtain⟨H,hev,hok,hfr,hd⟩:=id hst;have hr:=qaT hfr c;rw [hc] at hr;generalize hv:a.eval c=cv at hr;cases hr
 exact wpIn_cond hv (h r n H0 w0 hR _ _ _ hst hq)
theorem Does.reg (hT:qaY P tb) (hΓ:qal P gl Γ) {i:Nat} {ops:Array Oper} (h:pops tb Γ ops.toList ops.toList fr σ=some (fr',σ')):Does P gl (.region i ops false) fr σ .normal fr' σ' :=
 fun r n H0 w0 hR Q a w hst hq=>wpIn_region_list (qBr hT hΓ _ _ _ _ _ _ _ hst h hq r n)
theorem Does.regD (hT:qaY P tb) (hΓ:qal P gl Γ) (hm:P.follows .mixedOrders=true) {i:Nat} {ops:Array Oper} (hd:qqX Γ ops.toList=true) (h:qkT tb Γ ops.toList ops.toList 0 [] fr σ=some (.ok fr' σ')):Does P gl (.region i ops true) fr σ .normal fr' σ' :=
 fun r n H0 w0 hR Q a w hst hq=>qsm hT hΓ hm hst h hd (fun fr1 σ1 e a' w' h'=>by cases e;exact hq _ _ h') (fun x σ1 e=>by cases e) r n
theorem qru {ops:List Oper} {o:Oper} {rest:List Oper} {x:PV} (hg:pwanted ops fr o=some true) (h:pop tb Γ fr σ o=some (x,σ')):pops tb Γ ops (o::rest) fr σ=pops tb Γ ops rest (pput fr o.dst x) σ':=by
 simp only [pops,hg,h]
theorem qbL {ops:List Oper} {o:Oper} {rest:List Oper} {x:PV} {j:Nat} {lds:List (Nat×Nat)} (hg:pwanted ops fr o=some true) (h:pop tb Γ fr σ o=some (x,σ')) (hk:writes Γ o=true→qu4 o σ σ' lds):qkT tb Γ ops (o::rest) j lds fr σ=qkT tb Γ ops rest (j+1) (qNF j lds (ldOf fr o)) (pput fr o.dst x) σ':=by
 simp only [qkT,hg,h];exact if_pos hk
end
theorem qiJ {o:Oper} {σ σ':Store} {l l':List (Nat×Nat)} (h:l=l') (k:qu4 o σ σ' l'):qu4 o σ σ' l:=h ▸ k
def sq1:Code→Code
 |.seq a _=>a
 |.cond _ a _=>a
 |c=>c
def sq2:Code→Code
 |.seq _ b=>b
 |.cond _ _ b=>b
 |c=>c
def qaI:Code→Array Oper
 |.region _ o _=>o
 |_=>#[]
def opAt (c:Code) (k:Nat):Oper:=(qaI c).getD k default
end Go.Pv
set_option maxHeartbeats 4000000
set_option maxRecDepth 200000
set_option linter.unusedSimpArgs false
set_option linter.unusedVariables false
namespace Go.Pv
open Go Go.Proofs
def qWe:GamT:=ofL [(35,.may (frameT qI0))]
theorem qYn (gl:Gl):qal Tryz.prog gl (gam qWe):=(qah (SimM.frameT (qOI gl)) qaf)
def zaaK:LpsT:=fun r fr σ=>.fail
section
variable (r:qR) (n:Int)
def qP9:Tr (PR×Store):=let z1:=qac (qac r);.ite (qyA z1 n) (.ret (PR.pan (.iface 172 (.agg [.int .i64 (qsD z1 n)])),Store.mk [[.sl (qaa (qaa (qtd z1 n))) .non,.int .i64 n]] [] [138])) (.ite (qAZ z1 n) (.ret (PR.val (.agg [.sl (qaa (qaa (qr7 z1 n))) .non,.sl (qaa (qaa (qmZ z1 n))) .non,.sl (qaa (qaa (qnH z1 n))) .non]),Store.mk [[.sl (qaa (qaa (qnm z1 n))) .non,.int .i64 n]] [] [138])) .fail)
theorem zabl:(nrmM tbT qWe zaaK Tryz.f34 [.ptr 0 0] ⟨[[.sl r .non,.int .i64 n]],[],[138]⟩).flat=qP9 r n:=by kernel_rfl
def qBm:Option (PR×Store):=(qP9 r n).run
def qI4:Int:=oG (qBm r n)
def qKt:qR:=qbn 0 0 (qBm r n)
def qSx:Bool:=isW (qBm r n) ((.pan (.iface 172 (.agg [.int .i64 (qI4 r n)]))),⟨[[.sl (qKt r n) .non,.int .i64 n]],[],[138]⟩)
def qJV:qR:=qcX 0 (qBm r n)
def qDS:qR:=qcX 1 (qBm r n)
def qFl:qR:=qcX 2 (qBm r n)
def qER:qR:=qbn 0 0 (qBm r n)
def qPn:Bool:=isW (qBm r n) ((.val (.agg [.sl (qJV r n) .non,.sl (qDS r n) .non,.sl (qFl r n) .non])),⟨[[.sl (qER r n) .non,.int .i64 n]],[],[138]⟩)
end
def qsz:List PV→Store→Tr (PR×Store)|[.ptr 0 0],⟨[[.sl r .non,.int .i64 n]],[],[138]⟩=>.ite (qSx r n) (.ret ((.pan (.iface 172 (.agg [.int .i64 (qI4 r n)]))),⟨[[.sl (qKt r n) .non,.int .i64 n]],[],[138]⟩)) (.ite (qPn r n) (.ret ((.val (.agg [.sl (qJV r n) .non,.sl (qDS r n) .non,.sl (qFl r n) .non])),⟨[[.sl (qER r n) .non,.int .i64 n]],[],[138]⟩)) (.fail))|_,_=>.fail
theorem qXS (gl:Gl):SimM Tryz.prog gl 34 fun args σ=>(qsz args σ).run:=by
 refine SimM.of_nrm (G:=qWe) (L:=zaaK) qaj (qYn gl ) qai Tryz.func34 rfl (by rfl) (by kernel_rfl) (qab (by kernel_rfl)) ?_
 intro args σ x h;unfold qsz at h
 split at h
 ·exact (congrArg Tr.run (zabl _ _)).trans (qae h fun h=>qae h fun h=>by cases h)
 ·cases h
def qWk:GamT:=ofL [(47,.may (frameT qEE))]
theorem qW1 (gl:Gl):qal Tryz.prog gl (gam qWk):=(qah (SimM.frameT (qIh gl)) qaf)
def qZE:LpsT:=fun r fr σ=>.fail
section
variable (r:qR) (n:Int)
def qPZ:Tr (PR×Store):=let z1:=qac (qac r);.ite (qr0 z1 n) (.ret (PR.pan (.iface 172 (.agg [.int .i64 (qlW z1 n)])),Store.mk [[.sl (qaa (qaa (qlR z1 n))) .non,.int .i64 n]] [] [138])) (.ite (qqD z1 n) (.ret (PR.val (.agg [.str (qlc z1 n),.sl (qaa (qaa (qlQ z1 n))) .non,.sl (qaa (qaa (qiT z1 n))) .non]),Store.mk [[.sl (qaa (qaa (qi3 z1 n))) .non,.int .i64 n]] [] [138])) .fail)
theorem zabh:(nrmM tbT qWk qZE Tryz.f46 [.ptr 0 0] ⟨[[.sl r .non,.int .i64 n]],[],[138]⟩).flat=qPZ r n:=by kernel_rfl
def qBo:Option (PR×Store):=(qPZ r n).run
def qKj:Int:=oG (qBo r n)
def qJx:qR:=qbn 0 0 (qBo r n)
def qPj:Bool:=isW (qBo r n) ((.pan (.iface 172 (.agg [.int .i64 (qKj r n)]))),⟨[[.sl (qJx r n) .non,.int .i64 n]],[],[138]⟩)
def qJN:qU:=qbo 0 (qBo r n)
def qJh:qR:=qcX 1 (qBo r n)
def qF6:qR:=qcX 2 (qBo r n)
def qFe:qR:=qbn 0 0 (qBo r n)
def qSz:Bool:=isW (qBo r n) ((.val (.agg [.str (qJN r n),.sl (qJh r n) .non,.sl (qF6 r n) .non])),⟨[[.sl (qFe r n) .non,.int .i64 n]],[],[138]⟩)
end
def qro:List PV→Store→Tr (PR×Store)|[.ptr 0 0],⟨[[.sl r .non,.int .i64 n]],[],[138]⟩=>.ite (qPj r n) (.ret ((.pan (.iface 172 (.agg [.int .i64 (qKj r n)]))),⟨[[.sl (qJx r n) .non,.int .i64 n]],[],[138]⟩)) (.ite (qSz r n) (.ret ((.val (.agg [.str (qJN r n),.sl (qJh r n) .non,.sl (qF6 r n) .non])),⟨[[.sl (qFe r n) .non,.int .i64 n]],[],[138]⟩)) (.fail))|_,_=>.fail
theorem qXq (gl:Gl):SimM Tryz.prog gl 46 fun args σ=>(qro args σ).run:=by
 refine SimM.of_nrm (G:=qWk) (L:=qZE) qaj (qW1 gl ) qai Tryz.func46 rfl (by rfl) (by kernel_rfl) (qab (by kernel_rfl)) ?_
 intro args σ x h;unfold qro at h
 split at h
 ·exact (congrArg Tr.run (zabh _ _)).trans (qae h fun h=>qae h fun h=>by cases h)
 ·cases h
end Go.Pv
set_option maxHeartbeats 4000000
set_option maxRecDepth 200000
set_option linter.unusedSimpArgs false
set_option linter.unusedVariables false
namespace Go.Pv
open Go Go.Proofs
def qbe (k n:Int) (s:qU):Int:=if k=1∧s=[] then 0 else if k=2∧n=0∧s.length≤256 then 0 else 10
def isV (k n:Int) (s:qU):Bool:=decide (k=1∧s=[]∨k=2∧n=0∧s.length≤256)
def qJW:List PV→Tr PV
 |[.agg [.int .i64 k,.int .i64 n,.str s]]=>.ret (.int .i64 (qbe k n s))
 |_=>.fail
theorem qQz (gl:Gl):SimP Tryz.prog gl 184 fun args=>(qJW args).run:=by
 refine SimP.of_tree (G:=ofL []) (L:=fun _ _ _=>.fail) qaj qaf qai Tryz.func184 rfl (by rfl) (by kernel_rfl) (qab (by kernel_rfl)) ?_
 intro args x h hr;unfold qJW at h
 split at h
 ·rename_i k n s;cases h
  refine Tr.run_as (.ite (iEq k 1) (.ite (sEq s []) (.ret (.int .i64 0)) (.ite (iEq k 2) (.ite (iEq n 0) (.ite (iLe (sLen s) 256) (.ret (.int .i64 0)) (.ret (.int .i64 10))) (.ret (.int .i64 10))) (.ret (.int .i64 10)))) (.ite (iEq k 2) (.ite (iEq n 0) (.ite (iLe (sLen s) 256) (.ret (.int .i64 0)) (.ret (.int .i64 10))) (.ret (.int .i64 10))) (.ret (.int .i64 10)))) (by kernel_rfl) ?_
  simp
  try simp [qbe]
  try ((repeat' split)<;>first|rfl|(simp_all;done)|omega|(simp_all;omega))
 ·cases h
def F_Is:List PV→Tr PV
 |[.agg [.int .i64 k,.int .i64 n,.str s]]=>.ret (.bool (isV k n s))
 |_=>.fail
theorem zaar (gl:Gl):SimP Tryz.prog gl 179 fun args=>(F_Is args).run:=by
 refine SimP.of_tree (G:=ofL []) (L:=fun _ _ _=>.fail) qaj qaf qai Tryz.func179 rfl (by rfl) (by kernel_rfl) (qab (by kernel_rfl)) ?_
 intro args x h hr;unfold F_Is at h
 split at h
 ·rename_i k n s;cases h
  refine Tr.run_as (.ite (iEq k 1) (.ite (sEq s []) (.ret (.bool true)) (.ite (iEq k 2) (.ite (iEq n 0) (.ret (.bool (iLe (sLen s) 256))) (.ret (.bool false))) (.ret (.bool false)))) (.ite (iEq k 2) (.ite (iEq n 0) (.ret (.bool (iLe (sLen s) 256))) (.ret (.bool false))) (.ret (.bool false)))) (by kernel_rfl) ?_
  simp
  try simp [isV]
  try ((repeat' split)<;>first|rfl|(simp_all;done)|omega|(simp_all;omega))
 ·cases h
def qdP (a b:qU):Bool:=decide (b.length≤a.length)&&decide (a.take b.length=b)
def qye (a b:qU):Bool:=decide (b.length≤a.length)&&decide (a.drop (a.length - b.length)=b)
def qy8:List PV→Tr PV
 |[.str a,.str b]=>.ret (.bool (qdP a b))
 |_=>.fail
theorem qKT (gl:Gl):SimP Tryz.prog gl 190 fun args=>(qy8 args).run:=by
 refine SimP.of_tree (G:=ofL []) (L:=fun _ _ _=>.fail) qaj qaf qai Tryz.func190 rfl (by rfl) (by kernel_rfl) (qab (by kernel_rfl)) ?_
 intro args x h hr;unfold qy8 at h
 split at h
 ·rename_i a b;cases h
  have h1:=qDp hr 0 rfl;have h2:=qDp hr 1 rfl;unfold maxLen at h1 h2;refine Tr.run_as (.ite (iLe (sLen b) (sLen a)) (.ite (qbk true (qax (sLen b)) 0 (nNat (sLen b)) (nLen a)) (.ret (.bool (sEq (sSub a 0 (nNat (sLen b))) b))) .fail) (.ret (.bool false))) (by kernel_rfl) ?_
  simp [iSub];by_cases hl:b.length≤a.length
  ·simp [qdP,hl]
  ·simp [qdP,hl]
 ·cases h
def qA4:List PV→Tr PV
 |[.str a,.str b]=>.ret (.bool (qye a b))
 |_=>.fail
theorem qIu (gl:Gl):SimP Tryz.prog gl 201 fun args=>(qA4 args).run:=by
 refine SimP.of_tree (G:=ofL []) (L:=fun _ _ _=>.fail) qaj qaf qai Tryz.func201 rfl (by rfl) (by kernel_rfl) (qab (by kernel_rfl)) ?_
 intro args x h hr;unfold qA4 at h
 split at h
 ·rename_i a b;cases h
  have h1:=qDp hr 0 rfl;have h2:=qDp hr 1 rfl;unfold maxLen at h1 h2;refine Tr.run_as (.ite (iLe (sLen b) (sLen a)) (.ite (qbk (qax (iSub .i64 (sLen a) (sLen b))) true (nNat (iSub .i64 (sLen a) (sLen b))) (nLen a) (nLen a)) (.ret (.bool (sEq (sSub a (nNat (iSub .i64 (sLen a) (sLen b))) (nLen a)) b))) .fail) (.ret (.bool false))) (by kernel_rfl) ?_
  simp [iSub];by_cases hl:b.length≤a.length
  ·have e:IntKind.wrap .i64 ((a.length:Int) - b.length)=(a.length:Int) - b.length:=qaP (by omega)
   have e2:((a.length:Int) - b.length).toNat=a.length - b.length:=by omega
   rw [if_pos hl,e,if_pos (by omega),e2]
   simp [qye,hl]
  ·simp [qye,hl]
 ·cases h
def qvA:List PV→Tr PV
 |[.str a,.str b]=>.ret (.bool (qdP a b))
 |_=>.fail
theorem qCn (gl:Gl):SimP Tryz.prog gl 177 fun args=>(qvA args).run:=by
 refine SimP.of_tree (G:=ofL [(190,.pure qy8)]) (L:=fun _ _ _=>.fail) qaj (qag (qKT gl) qaf) qai Tryz.func177 rfl (by rfl) (by kernel_rfl) (qab (by kernel_rfl)) ?_
 intro args x h hr;unfold qvA at h
 split at h
 ·rename_i a b;cases h
  refine Tr.run_as (.ret (.bool (qdP a b))) (by kernel_rfl) ?_
  simp
  try simp
  try ((repeat' split)<;>first|rfl|(simp_all;done)|omega|(simp_all;omega))
 ·cases h
def qFu:List PV→Tr PV
 |[.str a,.str b]=>.ret (.bool (qye a b))
 |_=>.fail
theorem qM2 (gl:Gl):SimP Tryz.prog gl 194 fun args=>(qFu args).run:=by
 refine SimP.of_tree (G:=ofL [(201,.pure qA4)]) (L:=fun _ _ _=>.fail) qaj (qag (qIu gl) qaf) qai Tryz.func194 rfl (by rfl) (by kernel_rfl) (qab (by kernel_rfl)) ?_
 intro args x h hr;unfold qFu at h
 split at h
 ·rename_i a b;cases h
  refine Tr.run_as (.ret (.bool (qye a b))) (by kernel_rfl) ?_
  simp
  try simp
  try ((repeat' split)<;>first|rfl|(simp_all;done)|omega|(simp_all;omega))
 ·cases h
def hexL:qU:=[48,49,50,51,52,53,54,55,56,57,97,98,99,100,101,102]
def oneV (c:Int):List UInt8 :=
 if c=34∨c=92 then [92,UInt8.ofNat c.toNat] else if c=10 then [92,110] else if c=9 then [92,116] else if 32≤c∧c≤126 then [UInt8.ofNat c.toNat]
 else [92,120,UInt8.ofNat (sAt hexL (iShr .u8 c 4)).toNat,UInt8.ofNat (sAt hexL (iAnd .u8 c 15)).toNat]
def qXy:List PV→Tr PV
 |[.int .u8 c]=>.ret (.str (oneV c))
 |_=>.fail
theorem qWA (gl:Gl):SimP Tryz.prog gl 187 fun args=>(qXy args).run:=by
 refine SimP.of_tree (G:=ofL []) (L:=fun _ _ _=>.fail) qaj qaf qai Tryz.func187 rfl (by rfl) (by kernel_rfl) (qab (by kernel_rfl)) ?_
 intro args x h hr;unfold qXy at h
 split at h
 ·rename_i c;cases h
  have h1:=quI hr 0 rfl;obtain⟨n,rfl⟩:=qxP h1;refine Tr.run_as (.ite (iEq (Int.ofNat n.1) 34) (.ite (qgJ (qay .i32 (Int.ofNat n.1))) (.ite (qvh [92] (sOne (qay .i32 (Int.ofNat n.1)))) (.ret (.str (sApp [92] (sOne (qay .i32 (Int.ofNat n.1)))))) .fail) .fail) (.ite (iEq (Int.ofNat n.1) 92) (.ite (qgJ (qay .i32 (Int.ofNat n.1))) (.ite (qvh [92] (sOne (qay .i32 (Int.ofNat n.1)))) (.ret (.str (sApp [92] (sOne (qay .i32 (Int.ofNat n.1)))))) .fail) .fail) (.ite (iEq (Int.ofNat n.1) 10) (.ret (.str [92,110])) (.ite (iEq (Int.ofNat n.1) 9) (.ret (.str [92,116])) (.ite (iLe 32 (Int.ofNat n.1)) (.ite (iLe (Int.ofNat n.1) 126) (.ite (qgJ (qay .i32 (Int.ofNat n.1))) (.ret (.str (sOne (qay .i32 (Int.ofNat n.1))))) .fail) (.ite (qaF [48,49,50,51,52,53,54,55,56,57,97,98,99,100,101,102] (iShr .u8 (Int.ofNat n.1) 4)) (.ite (qgJ (qay .i32 (sAt [48,49,50,51,52,53,54,55,56,57,97,98,99,100,101,102] (iShr .u8 (Int.ofNat n.1) 4)))) (.ite (qvh [92,120] (sOne (qay .i32 (sAt [48,49,50,51,52,53,54,55,56,57,97,98,99,100,101,102] (iShr .u8 (Int.ofNat n.1) 4))))) (.ite (qaF [48,49,50,51,52,53,54,55,56,57,97,98,99,100,101,102] (iAnd .u8 (Int.ofNat n.1) 15)) (.ite (qgJ (qay .i32 (sAt [48,49,50,51,52,53,54,55,56,57,97,98,99,100,101,102] (iAnd .u8 (Int.ofNat n.1) 15)))) (.ite (qvh (sApp [92,120] (sOne (qay .i32 (sAt [48,49,50,51,52,53,54,55,56,57,97,98,99,100,101,102] (iShr .u8 (Int.ofNat n.1) 4))))) (sOne (qay .i32 (sAt [48,49,50,51,52,53,54,55,56,57,97,98,99,100,101,102] (iAnd .u8 (Int.ofNat n.1) 15))))) (.ret
   (.str (sApp (sApp [92,120] (sOne (qay .i32 (sAt [48,49,50,51,52,53,54,55,56,57,97,98,99,100,101,102] (iShr .u8 (Int.ofNat n.1) 4))))) (sOne (qay .i32 (sAt [48,49,50,51,52,53,54,55,56,57,97,98,99,100,101,102] (iAnd .u8 (Int.ofNat n.1) 15))))))) .fail) .fail) .fail) .fail) .fail) .fail)) (.ite (qaF [48,49,50,51,52,53,54,55,56,57,97,98,99,100,101,102] (iShr .u8 (Int.ofNat n.1) 4)) (.ite (qgJ (qay .i32 (sAt [48,49,50,51,52,53,54,55,56,57,97,98,99,100,101,102] (iShr .u8 (Int.ofNat n.1) 4)))) (.ite (qvh [92,120] (sOne (qay .i32 (sAt [48,49,50,51,52,53,54,55,56,57,97,98,99,100,101,102] (iShr .u8 (Int.ofNat n.1) 4))))) (.ite (qaF [48,49,50,51,52,53,54,55,56,57,97,98,99,100,101,102] (iAnd .u8 (Int.ofNat n.1) 15)) (.ite (qgJ (qay .i32 (sAt [48,49,50,51,52,53,54,55,56,57,97,98,99,100,101,102] (iAnd .u8 (Int.ofNat n.1) 15)))) (.ite (qvh (sApp [92,120] (sOne (qay .i32 (sAt [48,49,50,51,52,53,54,55,56,57,97,98,99,100,101,102] (iShr .u8 (Int.ofNat n.1) 4))))) (sOne (qay .i32 (sAt [48,49,50,51,52,53,54,55,56,57,97,98,99,100,101,102] (iAnd .u8 (Int.ofNat n.1) 15))))) (.ret (.str (sApp (sApp [92,120] (sOne (qay .i32 (sAt [48,49,50,51,52,53,54,55,56,57,97,98,99,100,101,102] (iShr .u8 (Int.ofNat n.1) 4))))) (sOne (qay .i32 (sAt [48,49,50,51,52,53,54,55,56,57,97,98,99,100,101,102] (iAnd .u8 (Int.ofNat n.1) 15))))))) .fail) .fail) .fail) .fail) .fail) .fail)))))) (by kernel_rfl) ?_
  clear hr h1;apply qUH
  revert n
  decide +kernel
 ·cases h
def qSM (c:Int):Int:=if c < 10 then iAdd .u8 48 c else iSub .u8 (iAdd .u8 97 c) 10
def qcV (c:Int):Int:=if 48≤c∧c≤57 then c - 48 else if 97≤c∧c≤102 then c - 87 else -1
def qQ1:List PV→Tr PV
 |[.int .u8 c]=>.ret (.int .u8 (qSM c))
 |_=>.fail
theorem qTS (gl:Gl):SimP Tryz.prog gl 191 fun args=>(qQ1 args).run:=by
 refine SimP.of_tree (G:=ofL []) (L:=fun _ _ _=>.fail) qaj qaf qai Tryz.func191 rfl (by rfl) (by kernel_rfl) (qab (by kernel_rfl)) ?_
 intro args x h hr;unfold qQ1 at h
 split at h
 ·rename_i c;cases h
  have h1:=quI hr 0 rfl;obtain⟨n,rfl⟩:=qxP h1;refine Tr.run_as (.ite (iLt (Int.ofNat n.1) 10) (.ret (.int .u8 (iAdd .u8 48 (Int.ofNat n.1)))) (.ret (.int .u8 (iSub .u8 (iAdd .u8 97 (Int.ofNat n.1)) 10)))) (by kernel_rfl) ?_
  clear hr h1;apply qLE
  revert n
  decide +kernel
 ·cases h
def qRG:List PV→Tr PV
 |[.int .u8 c]=>.ret (.int .i64 (qcV c))
 |_=>.fail
theorem qTM (gl:Gl):SimP Tryz.prog gl 178 fun args=>(qRG args).run:=by
 refine SimP.of_tree (G:=ofL []) (L:=fun _ _ _=>.fail) qaj qaf qai Tryz.func178 rfl (by rfl) (by kernel_rfl) (qab (by kernel_rfl)) ?_
 intro args x h hr;unfold qRG at h
 split at h
 ·rename_i c;cases h
  have h1:=quI hr 0 rfl;obtain⟨n,rfl⟩:=qxP h1;refine Tr.run_as (.ite (iLe 48 (Int.ofNat n.1)) (.ite (iLe (Int.ofNat n.1) 57) (.ret (.int .i64 (qay .i64 (iSub .u8 (Int.ofNat n.1) 48)))) (.ite (iLe 97 (Int.ofNat n.1)) (.ite (iLe (Int.ofNat n.1) 102) (.ret (.int .i64 (iAdd .i64 (qay .i64 (iSub .u8 (Int.ofNat n.1) 97)) 10))) (.ret (.int .i64 (-1)))) (.ret (.int .i64 (-1))))) (.ite (iLe 97 (Int.ofNat n.1)) (.ite (iLe (Int.ofNat n.1) 102) (.ret (.int .i64 (iAdd .i64 (qay .i64 (iSub .u8 (Int.ofNat n.1) 97)) 10))) (.ret (.int .i64 (-1)))) (.ret (.int .i64 (-1))))) (by kernel_rfl) ?_
  clear hr h1;apply qLE
  revert n
  decide +kernel
 ·cases h
def qOX:List PV→Tr PV
 |[.int .u8 c]=>.ret (.sl (qad (oneV c)) .non)
 |_=>.fail
theorem qVe (gl:Gl):SimP Tryz.prog gl 181 fun args=>(qOX args).run:=by
 refine SimP.of_tree (G:=ofL [(191,.pure qQ1)]) (L:=fun _ _ _=>.fail) qaj (qag (qTS gl) qaf) qai Tryz.func181 rfl (by rfl) (by kernel_rfl) (qab (by kernel_rfl)) ?_
 intro args x h hr;unfold qOX at h
 split at h
 ·rename_i c;cases h
  have h1:=quI hr 0 rfl;obtain⟨n,rfl⟩:=qxP h1;refine Tr.run_as (.ite (iEq (Int.ofNat n.1) 34) (.ret (.sl [[.int .u8 92],[.int .u8 (Int.ofNat n.1)]] .non)) (.ite (iEq (Int.ofNat n.1) 92) (.ret (.sl [[.int .u8 92],[.int .u8 (Int.ofNat n.1)]] .non)) (.ite (iEq (Int.ofNat n.1) 10) (.ret (.sl [[.int .u8 92],[.int .u8 110]] .non)) (.ite (iEq (Int.ofNat n.1) 9) (.ret (.sl [[.int .u8 92],[.int .u8 116]] .non)) (.ite (iLe 32 (Int.ofNat n.1)) (.ite (iLe (Int.ofNat n.1) 126) (.ret (.sl [[.int .u8 (Int.ofNat n.1)]] .non)) (.ret (.sl [[.int .u8 92],[.int .u8 120],[.int .u8 (qSM (iQuo .u8 (Int.ofNat n.1) 16))],[.int .u8 (qSM (iRem (Int.ofNat n.1) 16))]] .non))) (.ret (.sl [[.int .u8 92],[.int .u8 120],[.int .u8 (qSM (iQuo .u8 (Int.ofNat n.1) 16))],[.int .u8 (qSM (iRem (Int.ofNat n.1) 16))]] .non))))))) (by kernel_rfl) ?_
  clear hr h1;apply qS8
  revert n
  decide +kernel
 ·cases h
end Go.Pv
set_option maxHeartbeats 4000000
set_option maxRecDepth 200000
set_option linter.unusedSimpArgs false
set_option linter.unusedVariables false
namespace Go.Pv
open Go Go.Proofs
theorem qf3 {l:List UInt8} {i:Int} {v:UInt8} (h:l[i.toNat]?=some v):sAt l i=v.toNat:=by
 simp [sAt,List.getD_eq_getElem?_getD,h]
theorem qdS {l:List UInt8} {i:Int} {v:UInt8} (h0:0≤i) (h:l[i.toNat]?=some v):qaF l i=true:=by
 have:=(List.getElem?_eq_some_iff.1 h).1;simp [h0,this]
def dv:qU→Int→Int→Int
 |[],_,_=>16
 |b::l,c,i=>if (b.toNat:Int)=c then i else dv l c (i+1)
def digV (c:Int):Int:=dv hexL c 0
def qIx:List PV→Tr PV
 |[.int .u8 c]=>.ret (.int .u8 (digV c))
 |_=>.fail
def qKN:List PV→Store→Option (Int×Int×Store)
 |[.int .u8 c,.int .i64 i],σ=>some (c,i,σ)
 |_,_=>none
def qO5:Int×Int×Store→Tr (PExit×List (Nat×PV)×Store)
 |(c,i,σ)=>Tr.chk (iEq i 0) (.ite (iEq (digV c) 16) (.ret (.exit 0,[],σ)) (.ret (.ret,[(2,.int .u8 (digV c))],σ)))
def qRg:LpsT:=fun r fr σ=>if r=2 then oracle 14 [0,4] qKN qO5 fr σ else .fail
def qJJ:Code:=qRj Tryz.f210 0
theorem qNW (gl:Gl):∀ vs σ a e out σ',qKN vs σ=some a→(qO5 a).run=some (e,out,σ')→LDoes Tryz.prog gl qJJ (mk 14 ([0,4].zip vs)) σ e (mk 14 out) σ':=by
 intro vs s a e out σ' hd hr;unfold qKN at hd;split at hd
 ·rename_i c i;cases hd
  obtain⟨h1,h2⟩:=Tr.chk_some hr;simp at h1;subst h1;clear hr;have key:∀ (m:Nat) (i:Int),0≤i→i+m=16→dv (hexL.drop i.toNat) c i=digV c→LDoes Tryz.prog gl qJJ (mk 14 ([0,4].zip [.int .u8 c,.int .i64 i])) s e (mk 14 out) σ':=by
   intro m
   induction m with
   |zero =>
    intro i h0 hi hf;have:i=16:=by omega
    subst this;have hf:16=digV c:=hf;simp [← hf] at h2;obtain⟨rfl,rfl,rfl⟩:=h2;refine LDoes.round qaj (G:=ofL []) qaf qai (L:=fun _ _ _=>.fail) (qab (by kernel_rfl)) (by kernel_rfl) ?_
    refine Tr.all_as (.ite (iLt 16 16) (.ite (qaF [48,49,50,51,52,53,54,55,56,57,97,98,99,100,101,102] 16) (.ite (iEq (sAt [48,49,50,51,52,53,54,55,56,57,97,98,99,100,101,102] 16) c) (.ret (.ret,[10,5],[.int .u8 c,.top,.int .u8 (qay .u8 16),.int .i64 16,.int .i64 16,.bool true,.int .i64 16,.int .i64 16,.int .u8 (sAt [48,49,50,51,52,53,54,55,56,57,97,98,99,100,101,102] 16),.int .u8 c,.bool true,.int .i64 16,.int .u8 (qay .u8 16),.top],s)) (.ret (.normal,[10,5],[.int .u8 c,.top,.top,.int .i64 16,.int .i64 (iAdd .i64 16 1),.bool true,.int .i64 16,.int .i64 16,.int .u8 (sAt [48,49,50,51,52,53,54,55,56,57,97,98,99,100,101,102] 16),.int .u8 c,.bool false,.top,.top,.int .i64 (iAdd .i64 16 1)],s))) .fail) (.ret (.exit 0,[5],[.int .u8 c,.top,.top,.top,.int .i64 16,.bool false,.top,.top,.top,.top,.top,.top,.top,.top],s))) (by kernel_rfl) ?_
    refine⟨fun h=>by simp at h,fun h=>⟨rfl,by simp [Weak,mk,qb9,look],rfl⟩⟩
   |succ m ih =>
    intro i h0 hi hf;obtain⟨v,hv⟩:=qfc (l:=hexL) (i:=i.toNat) (by show i.toNat < 16;omega)
    rw [qa3 hv] at hf;refine LDoes.round qaj (G:=ofL []) qaf qai (L:=fun _ _ _=>.fail) (qab (by kernel_rfl)) (by kernel_rfl) ?_
    refine Tr.all_as (.ite (iLt i 16) (.ite (qaF [48,49,50,51,52,53,54,55,56,57,97,98,99,100,101,102] i) (.ite (iEq (sAt [48,49,50,51,52,53,54,55,56,57,97,98,99,100,101,102] i) c) (.ret (.ret,[10,5],[.int .u8 c,.top,.int .u8 (qay .u8 i),.int .i64 i,.int .i64 i,.bool true,.int .i64 i,.int .i64 i,.int .u8 (sAt [48,49,50,51,52,53,54,55,56,57,97,98,99,100,101,102] i),.int .u8 c,.bool true,.int .i64 i,.int .u8 (qay .u8 i),.top],s)) (.ret (.normal,[10,5],[.int .u8 c,.top,.top,.int .i64 i,.int .i64 (iAdd .i64 i 1),.bool true,.int .i64 i,.int .i64 i,.int .u8 (sAt [48,49,50,51,52,53,54,55,56,57,97,98,99,100,101,102] i),.int .u8 c,.bool false,.top,.top,.int .i64 (iAdd .i64 i 1)],s))) .fail) (.ret (.exit 0,[5],[.int .u8 c,.top,.top,.top,.int .i64 i,.bool false,.top,.top,.top,.top,.top,.top,.top,.top],s))) (by kernel_rfl) ?_
    refine⟨fun _=>⟨fun _=>⟨fun h=>?_,fun h=>?_⟩,fun h=>?_⟩,fun h=>by simp at h;omega⟩
    ·have h:iEq (sAt hexL i) c=true:=h;rw [qf3 hv] at h
     simp at h
     simp only [dv,if_pos h] at hf;rw [← hf] at h2;have h16:¬ i=16:=by omega
     simp [h16] at h2;obtain⟨rfl,rfl,rfl⟩:=h2;refine⟨rfl,?_,rfl⟩;simp [Weak,mk,qb9,look,qay,qFx (n:=i) (by omega)]
    ·have h:iEq (sAt hexL i) c=false:=h;rw [qf3 hv] at h
     simp at h
     simp only [dv,if_neg h] at hf;have e1:(i+1).toNat=i.toNat+1:=by omega
     refine LDoes.into ?_ (ih (i+1) (by omega) (by omega) (by rw [e1];exact hf))
     simp [Weak,mk,qb9,look,iAdd,qaP (n:=i+1) (by omega)]
    ·have h:qaF hexL i=false:=h;rw [qdS h0 hv] at h
     cases h
  exact key 16 0 (by omega) (by omega) rfl
 ·cases hd
theorem qPP (gl:Gl):SimP Tryz.prog gl 210 fun args=>(qIx args).run:=by
 refine SimP.of_tree (G:=ofL []) (L:=qRg) qaj qaf qai Tryz.func210 rfl (by rfl) (by kernel_rfl) (qil (r:=2) (c1:=qJJ) (by kernel_rfl) ?_) ?_
 ·intro fr σ e fr' σ' hh;simp only [lps,qRg,if_true] at hh;exact qlP (qNW gl) fr σ e fr' σ' hh
 intro args x h hr;unfold qIx at h
 split at h
 ·rename_i c;cases h
  refine Tr.run_as (.ite (iEq 0 0) (.ite (iEq (digV c) 16) (.ret (.int .u8 16)) (.ret (.int .u8 (digV c)))) .fail) (by kernel_rfl) ?_
  simp [eq_comm]
 ·cases h
def escB (s:qU):Int :=
 if s=[] then 0 else if sAt s 0=34∨sAt s 0=92 then sAt s 0 else if sAt s 0=110 then 10 else if sAt s 0=116 then 9
 else if sAt s 0=120∧3≤s.length∧digV (sAt s 1) < 16∧digV (sAt s 2) < 16 then iOr .u8 (iShl .u8 (digV (sAt s 1)) 4) (digV (sAt s 2)) else 0
def escN (s:qU):Int :=
 if s=[] then 0 else if sAt s 0=34∨sAt s 0=92 then 1 else if sAt s 0=110 then 1 else if sAt s 0=116 then 1
 else if sAt s 0=120∧3≤s.length∧digV (sAt s 1) < 16∧digV (sAt s 2) < 16 then 3 else 0
def qvw:List PV→Tr PV
 |[.str s]=>.ret (.tup [.int .u8 (escB s),.int .i64 (escN s)])
 |_=>.fail
theorem qBF (gl:Gl):SimP Tryz.prog gl 202 fun args=>(qvw args).run:=by
 refine SimP.of_tree (G:=ofL [(210,.pure qIx)]) (L:=fun _ _ _=>.fail) qaj (qag (qPP gl) qaf) qai Tryz.func202 rfl (by rfl) (by kernel_rfl) (qab (by kernel_rfl)) ?_
 intro args x h hr;unfold qvw at h
 split at h
 ·rename_i s;cases h
  refine Tr.run_as (.ite (sEq s []) (.ret (.tup [.int .u8 0,.int .i64 0])) (.ite (qaF s 0) (.ite (iEq (sAt s 0) 34) (.ite (qaF s 0) (.ret (.tup [.int .u8 (sAt s 0),.int .i64 1])) .fail) (.ite (iEq (sAt s 0) 92) (.ite (qaF s 0) (.ret (.tup [.int .u8 (sAt s 0),.int .i64 1])) .fail) (.ite (iEq (sAt s 0) 110) (.ret (.tup [.int .u8 10,.int .i64 1])) (.ite (iEq (sAt s 0) 116) (.ret (.tup [.int .u8 9,.int .i64 1])) (.ite (iEq (sAt s 0) 120) (.ite (iLe 3 (sLen s)) (.ite (qaF s 1) (.ite (iLt (digV (sAt s 1)) 16) (.ite (qaF s 2) (.ite (iLt (digV (sAt s 2)) 16) (.ite (qaF s 1) (.ite (qaF s 2) (.ret (.tup [.int .u8 (iOr .u8 (iShl .u8 (digV (sAt s 1)) 4) (digV (sAt s 2))),.int .i64 3])) .fail) .fail) (.ret (.tup [.int .u8 0,.int .i64 0]))) .fail) (.ret (.tup [.int .u8 0,.int .i64 0]))) .fail) (.ret (.tup [.int .u8 0,.int .i64 0]))) (.ret (.tup [.int .u8 0,.int .i64 0]))))))) .fail)) (by kernel_rfl) ?_
  by_cases h0:s=[]
  ·subst h0;simp [escB,escN]
  ·have hl:0 < s.length:=List.length_pos_iff.2 h0;have k0:qaF s 0=true:=by simp [hl]
   by_cases h3:3≤s.length
   ·have k1:qaF s 1=true:=by simp;omega
    have k2:qaF s 2=true:=by simp;omega
    have h3':(3:Int)≤s.length:=by omega
    simp only [Tr.run_ite,k0,k1,k2,qBP,qOJ,qLl,qV4,qjb,decide_eq_true_eq,h0,h3',if_true,if_false,escB,escN,h3,true_and,Tr.run_ret]
    repeat' split
    all_goals first|rfl|(simp_all;done)|(exfalso;simp_all;done)|(exfalso;omega)
   ·have h3':¬ (3:Int)≤s.length:=by omega
    simp only [Tr.run_ite,k0,qBP,qOJ,qLl,qV4,qjb,decide_eq_true_eq,h0,h3',if_true,if_false,escB,escN,h3,false_and,and_false,Tr.run_ret]
    repeat' split
    all_goals first|rfl|(simp_all;done)|(exfalso;simp_all;done)|(exfalso;omega)
 ·cases h
def qfX (n:Nat):qU:=if h:n < 10 then [UInt8.ofNat (48+n)] else qfX (n / 10)++[UInt8.ofNat (48+n % 10)]
 termination_by n
 decreasing_by omega
theorem qrh:∀ (k n:Nat),n < 10 ^ (k+1)→(qfX n).length≤k+1:=by
 intro k
 induction k with
 |zero=>intro n h;unfold qfX;simp at h;simp [h]
 |succ k ih =>
  intro n h;unfold qfX;split
  ·simp
  ·have:=ih (n / 10) (by rw [Nat.pow_succ] at h;omega)
   simp;omega
def qkR (n:Int):qU:=qfX n.toNat
def qAt (k:Nat):List PV→Tr PV
 |[.int .u64 n]=>Tr.chk (ltN n k) (.ret (.str (qkR n)))
 |_=>.fail
def qP8:List PV→Tr PV
 |[.int .u64 n]=>.ret (.str (qkR n))
 |_=>.fail
theorem qIk (gl:Gl):∀ k,SimP Tryz.prog gl 180 fun args=>(qAt k args).run:=by
 intro k
 induction k with
 |zero =>
  refine⟨⟨_,Tryz.func180,by rfl,by rfl⟩,?_⟩
  intro args x h;unfold qAt at h
  split at h
  ·obtain⟨h1,_⟩:=Tr.chk_some h;simp at h1
  ·cases h
 |succ k ih =>
  refine SimP.of_tree (G:=ofL [(180,.pure (qAt k))]) (L:=fun _ _ _=>.fail) qaj (qag ih qaf) qai Tryz.func180 rfl (by rfl) (by kernel_rfl) (qab (by kernel_rfl)) ?_
  intro args x h hr;unfold qAt at h
  split at h
  ·rename_i n;obtain⟨h1,h2⟩:=Tr.chk_some h;cases h2
   have hn:0≤n∧n≤18446744073709551615:=quI hr 0 rfl;simp at h1;refine Tr.run_as (.ite (iLt n 10) (.ite (qc5 [[.int .u8 (qay .u8 (iAdd .u64 48 n))]]) (.ret (.str (qbW [[.int .u8 (qay .u8 (iAdd .u64 48 n))]]))) .fail) (.ite (ltN (iQuo .u64 n 10) k) (.ite (qc5 [[.int .u8 (qay .u8 (iAdd .u64 48 (iRem n 10)))]]) (.ite (qvh (qkR (iQuo .u64 n 10)) (qbW [[.int .u8 (qay .u8 (iAdd .u64 48 (iRem n 10)))]])) (.ret (.str (sApp (qkR (iQuo .u64 n 10)) (qbW [[.int .u8 (qay .u8 (iAdd .u64 48 (iRem n 10)))]])))) .fail) .fail) .fail)) (by kernel_rfl) ?_
   by_cases h10:n < 10
   ·have e1:iAdd .u64 48 n=48+n:=qeF (by omega)
    have e2:qay .u8 (48+n)=48+n:=qFx (by omega)
    have e3:(48+n).toNat=48+n.toNat:=by omega
    simp [h10,e1,e2,e3,qkR];unfold qfX;rw [dif_pos (by omega)]
    simp [UInt8.ofNat_add]
   ·have e1:iQuo .u64 n 10=n / 10:=by
     unfold iQuo;rw [Int.tdiv_eq_ediv_of_nonneg hn.1];exact qeF (by omega)
    have e2:iRem n 10=n % 10:=Int.tmod_eq_emod_of_nonneg hn.1;have e3:iAdd .u64 48 (n % 10)=48+n % 10:=qeF (by omega)
    have e4:qay .u8 (48+n % 10)=48+n % 10:=qFx (by omega)
    have e5:(48+n % 10).toNat=48+n.toNat % 10:=by omega
    have e6:(n / 10).toNat=n.toNat / 10:=by omega
    have hl:=qrh 19 (n.toNat / 10) (by omega)
    have e7:¬ n.toNat < 10:=by omega
    have e8:n.toNat / 10 < k:=by omega
    have e9:qfX n.toNat=qfX (n.toNat / 10)++[UInt8.ofNat (48+n.toNat % 10)]:=by
     conv=>lhs;unfold qfX
     rw [dif_neg e7]
    have e10:(qfX (n.toNat / 10)).length+1≤maxLen:=by unfold maxLen;omega
    simp [h10,e1,e2,e3,e4,e5,e6,qkR,e8,e9,e10]
  ·cases h
theorem qTy (gl:Gl):SimP Tryz.prog gl 180 fun args=>(qP8 args).run:=by
 refine SimP.of_each (qIk gl 0).ent ?_;intro args x h;unfold qP8 at h
 split at h
 ·rename_i n;cases h
  exact⟨_,qIk gl (n.toNat+1),by simp [qAt,Tr.chk]⟩
 ·cases h
end Go.Pv
set_option maxHeartbeats 4000000
set_option maxRecDepth 200000
set_option linter.unusedSimpArgs false
set_option linter.unusedVariables false
namespace Go.Pv
open Go Go.Proofs
def symB (s:qU):qU:=s.flatMap fun b=>oneV b.toNat
def symV (s:qU):qU:=34::symB s++[34]
def intV (n:Int):qU:=if n < 0 then 45::qkR (-n) else qkR n
def qid (k n:Int) (s:qU):qU:=if isV k n s=true then (if k=1 then intV n else symV s) else []
def symH (s:qU):qU:=34::symB s
theorem qv9 (c:Int):1≤(oneV c).length∧(oneV c).length≤4:=by
 unfold oneV
 repeat' split
 all_goals simp
theorem qDo:∀ s,(symB s).length≤4 * s.length
 |[]=>by simp [symB]
 |b::s=>by
  have:=qDo s;have:=qv9 b.toNat;simp [symB] at *;omega
theorem qIe (k n:Int) (s:qU):qbe k n s=if isV k n s=true then 0 else 10:=by
 unfold qbe isV;by_cases h1:k=1∧s=[]
 ·simp [h1]
 ·by_cases h2:k=2∧n=0∧s.length≤256
  ·simp [h2]
  ·rw [if_neg h1,if_neg h2,if_neg];simp only [decide_eq_true_eq];rintro (h|h)
   ·exact h1 h
   ·exact h2 h
theorem qRB {n:Int} (h:n≤18446744073709551616):(qkR n).length≤20:=qrh 19 n.toNat (by omega)
def qJ7:List PV→Tr PV
 |[.agg [.int .i64 k,.int .i64 n,.str s]]=>.ret (.tup [.str (qid k n s),.int .i64 (qbe k n s)])
 |_=>.fail
def qKH:List PV→Store→Option (Int×Int×List UInt8×Int×Store)
 |[.ptr 0 0,.sl [[.int .u8 34]] .full,.int .i64 i],⟨[[.int .i64 k,.int .i64 n,.str s]],[],[42]⟩=>some (k,n,s,i,⟨[[.int .i64 k,.int .i64 n,.str s]],[],[42]⟩)
 |_,_=>none
def qQv:Int×Int×List UInt8×Int×Store→Tr (PExit×List (Nat×PV)×Store)
 |(k,n,s,i,σ)=>Tr.chk (iEq i 0) (Tr.chk (iLe (sLen s) 256) (.ite (sEq s []) (.ret (.exit 0,[(4,.sl (qad (symH s)) .full)],⟨σ.objs,[],σ.tys⟩)) (.ret (.exit 0,[(4,.sl (qad (symH s)) (.tok 0))],⟨σ.objs,[(nLen (symH s),1,5)],σ.tys⟩))))
def qO0:LpsT:=fun r fr σ=>if r=9 then oracle 46 [1,4,5] qKH qQv fr σ else .fail
def qIy:Code:=qRj Tryz.f166 0
theorem qOm (gl:Gl):∀ vs σ a e out σ',qKH vs σ=some a→(qQv a).run=some (e,out,σ')→LDoes Tryz.prog gl qIy (mk 46 ([1,4,5].zip vs)) σ e (mk 46 out) σ':=by
 intro vs s a e out σ' hd hr;unfold qKH at hd;split at hd
 ·rename_i i k n s;cases hd
  obtain⟨h1,h2⟩:=Tr.chk_some hr;obtain⟨h3,h4⟩:=Tr.chk_some h2;simp at h1 h3;subst h1;clear hr h2;have hG:qal Tryz.prog gl (gam (ofL [(181,.pure qOX)])):=qag (qVe gl) qaf
  -- the row is the call's own
  have key:∀ (m:Nat) (i:Int) (b:qU),0≤i→i+m=s.length→b++symB (s.drop i.toNat)=symH s→b.length≤1+4 * i.toNat→s≠[] →
    LDoes Tryz.prog gl qIy (mk 46 ([1,4,5].zip [.ptr 0 0,.sl (qad b) (.tok 0),.int .i64 i])) ⟨[[.int .i64 k,.int .i64 n,.str s]],[(nLen b,1,5)],[42]⟩ e (mk 46 out) σ':=by
   intro m
   induction m with
   |zero =>
    intro i b h0 hi hf hb hne;have e1:s.drop i.toNat=[]:=by apply List.drop_eq_nil_of_le;omega
    rw [e1] at hf;simp [symB] at hf;subst hf;simp [hne] at h4;obtain⟨rfl,rfl,rfl⟩:=h4;refine LDoes.round qaj hG qai (L:=fun _ _ _=>.fail) (qab (by kernel_rfl)) (by kernel_rfl) ?_
    refine Tr.all_as (.ite (iLt i (sLen s)) (.ite (qaF s i) (.ite (qas (qad (symH s)) (qad (oneV (sAt s i))) 1) (.ite (qap (qad (oneV (sAt s i))) 1) (.ite (qan (qad (symH s)) 1) (.ite (xNil (qad (oneV (sAt s i)))) (.ret (.normal,[32],[.top,.ptr 0 0,.top,.top,.sl (qad (symH s)) (.tok 0),.int .i64 (iAdd .i64 i 1),.top,.top,.top,.top,.top,.top,.top,.top,.top,.top,.top,.top,.top,.top,.top,.top,.top,.top,.top,.top,.top,.top,.int .i64 i,.ptr 0 2,.str s,.int .i64 (sLen s),.bool true,.int .i64 i,.int .i64 (iAdd .i64 i 1),.sl (qad (symH s)) (.tok 0),.ptr 0 2,.str s,.int .i64 i,.int .u8 (sAt s i),.sl (qad (oneV (sAt s i))) .non,.sl (qad (symH s)) (.tok 0),.top,.top,.top,.top],Store.mk [[.int .i64 k,.int .i64 n,.str s]] [(nLen (symH s),1,5)] [42])) (.ite (nEq (nLen (symH s)) (nXs (qad (symH s)))) (.ret (.normal,[32],[.top,.ptr 0 0,.top,.top,.sl (xApp (qad (symH s)) (qad (oneV (sAt s i)))) (.tok 0),.int .i64 (iAdd .i64 i 1),.top,.top,.top,.top,.top,.top,.top,.top,.top,.top,.top,.top,.top,.top,.top,.top,.top,.top,.top,.top,.top,.top,.int .i64 i,.ptr 0 2,.str s,.int .i64 (sLen s),.bool true,.int .i64 i,.int .i64 (iAdd .i64 i 1),.sl (qad (symH s)) (.tok 0),.ptr 0 2,.str s,.int .i64 i,.int .u8 (sAt s i),.sl (qad (oneV (sAt s i))) .non,.sl (xApp (qad (symH s)) (qad (oneV (sAt s i)))) (.tok 0),.top,.top,.top,.top],Store.mk [[.int .i64 k,.int .i64 n,.str s]] [(nXs (xApp (qad (symH s)) (qad (oneV (sAt s i)))),1,5)] [42])) .fail)) .fail)
     .fail) .fail) .fail) (.ret (.exit 0,[32],[.top,.ptr 0 0,.top,.top,.sl (qad (symH s)) (.tok 0),.int .i64 i,.top,.top,.top,.top,.top,.top,.top,.top,.top,.top,.top,.top,.top,.top,.top,.top,.top,.top,.top,.top,.top,.top,.int .i64 i,.ptr 0 2,.str s,.int .i64 (sLen s),.bool false,.top,.top,.top,.top,.top,.top,.top,.top,.top,.top,.top,.top,.top],Store.mk [[.int .i64 k,.int .i64 n,.str s]] [(nLen (symH s),1,5)] [42]))) (by kernel_rfl) ?_
    refine Tr.all_f (by simp;omega) ⟨rfl,by simp [Weak,mk,qb9,look],rfl⟩
   |succ m ih =>
    intro i b h0 hi hf hb hne;obtain⟨v,hv⟩:=qfc (l:=s) (i:=i.toNat) (by omega)
    rw [qa3 hv] at hf;have hone:=qv9 v.toNat;have e2:(i+1).toNat=i.toNat+1:=by omega
    refine LDoes.round qaj hG qai (L:=fun _ _ _=>.fail) (qab (by kernel_rfl)) (by kernel_rfl) ?_
    refine Tr.all_as (.ite (iLt i (sLen s)) (.ite (qaF s i) (.ite (qas (qad b) (qad (oneV (sAt s i))) 1) (.ite (qap (qad (oneV (sAt s i))) 1) (.ite (qan (qad b) 1) (.ite (xNil (qad (oneV (sAt s i)))) (.ret (.normal,[32],[.top,.ptr 0 0,.top,.top,.sl (qad b) (.tok 0),.int .i64 (iAdd .i64 i 1),.top,.top,.top,.top,.top,.top,.top,.top,.top,.top,.top,.top,.top,.top,.top,.top,.top,.top,.top,.top,.top,.top,.int .i64 i,.ptr 0 2,.str s,.int .i64 (sLen s),.bool true,.int .i64 i,.int .i64 (iAdd .i64 i 1),.sl (qad b) (.tok 0),.ptr 0 2,.str s,.int .i64 i,.int .u8 (sAt s i),.sl (qad (oneV (sAt s i))) .non,.sl (qad b) (.tok 0),.top,.top,.top,.top],Store.mk [[.int .i64 k,.int .i64 n,.str s]] [(nLen b,1,5)] [42])) (.ite (nEq (nLen b) (nXs (qad b))) (.ret (.normal,[32],[.top,.ptr 0 0,.top,.top,.sl (xApp (qad b) (qad (oneV (sAt s i)))) (.tok 0),.int .i64 (iAdd .i64 i 1),.top,.top,.top,.top,.top,.top,.top,.top,.top,.top,.top,.top,.top,.top,.top,.top,.top,.top,.top,.top,.top,.top,.int .i64 i,.ptr 0 2,.str s,.int .i64 (sLen s),.bool true,.int .i64 i,.int .i64 (iAdd .i64 i 1),.sl (qad b) (.tok 0),.ptr 0 2,.str s,.int .i64 i,.int .u8 (sAt s i),.sl (qad (oneV (sAt s i))) .non,.sl (xApp (qad b) (qad (oneV (sAt s i)))) (.tok 0),.top,.top,.top,.top],Store.mk [[.int .i64 k,.int .i64 n,.str s]] [(nXs (xApp (qad b) (qad (oneV (sAt s i)))),1,5)] [42])) .fail)) .fail) .fail) .fail) .fail) (.ret (.exit 0,[32],[.top,.ptr 0 0,.top,.top,.sl (qad b)
     (.tok 0),.int .i64 i,.top,.top,.top,.top,.top,.top,.top,.top,.top,.top,.top,.top,.top,.top,.top,.top,.top,.top,.top,.top,.top,.top,.int .i64 i,.ptr 0 2,.str s,.int .i64 (sLen s),.bool false,.top,.top,.top,.top,.top,.top,.top,.top,.top,.top,.top,.top,.top],Store.mk [[.int .i64 k,.int .i64 n,.str s]] [(nLen b,1,5)] [42]))) (by kernel_rfl) ?_
    rw [qf3 hv,qnz,qdL,qdL];refine Tr.all_t (by simp;omega) <| Tr.all_t (qdS h0 hv) <| Tr.all_t (qg3 (by omega)) <| Tr.all_t (qvb _) <| Tr.all_t (qcB _) <| Tr.all_f (qtH hone.1) <| Tr.all_t (by simp) ?_
    refine LDoes.into ?_ (ih (i+1) (b++oneV v.toNat) (by omega) (by omega) (by rw [← hf,e2];simp [symB]) (by simp;omega) hne)
    simp [Weak,mk,qb9,look,iAdd,qaP (n:=i+1) (by omega)]
  by_cases hne:s=[]
  ·subst hne;simp at h4;obtain⟨rfl,rfl,rfl⟩:=h4;refine LDoes.round qaj hG qai (L:=fun _ _ _=>.fail) (qab (by kernel_rfl)) (by kernel_rfl) ?_
   refine Tr.all_as (.ite (iLt 0 (sLen [])) (.ite (qaF [] 0) (.ite (qas [[.int .u8 34]] (qad (oneV (sAt [] 0))) 1) (.ite (qap (qad (oneV (sAt [] 0))) 1) (.ite (qan [[.int .u8 34]] 1) (.ite (xNil (qad (oneV (sAt [] 0)))) (.ret (.normal,[32],[.top,.ptr 0 0,.top,.top,.sl [[.int .u8 34]] .full,.int .i64 (iAdd .i64 0 1),.top,.top,.top,.top,.top,.top,.top,.top,.top,.top,.top,.top,.top,.top,.top,.top,.top,.top,.top,.top,.top,.top,.int .i64 0,.ptr 0 2,.str [],.int .i64 (sLen []),.bool true,.int .i64 0,.int .i64 (iAdd .i64 0 1),.sl [[.int .u8 34]] .full,.ptr 0 2,.str [],.int .i64 0,.int .u8 (sAt [] 0),.sl (qad (oneV (sAt [] 0))) .non,.sl [[.int .u8 34]] .full,.top,.top,.top,.top],Store.mk [[.int .i64 k,.int .i64 n,.str []]] [] [42])) (.ret (.normal,[32],[.top,.ptr 0 0,.top,.top,.sl (xApp [[.int .u8 34]] (qad (oneV (sAt [] 0)))) (.tok 0),.int .i64 (iAdd .i64 0 1),.top,.top,.top,.top,.top,.top,.top,.top,.top,.top,.top,.top,.top,.top,.top,.top,.top,.top,.top,.top,.top,.top,.int .i64 0,.ptr 0 2,.str [],.int .i64 (sLen []),.bool true,.int .i64 0,.int .i64 (iAdd .i64 0 1),.sl [[.int .u8 34]] .full,.ptr 0 2,.str [],.int .i64 0,.int .u8 (sAt [] 0),.sl (qad (oneV (sAt [] 0))) .non,.sl (xApp [[.int .u8 34]] (qad (oneV (sAt [] 0)))) (.tok 0),.top,.top,.top,.top],Store.mk [[.int .i64 k,.int .i64 n,.str []]] [(nXs (xApp [[.int .u8 34]] (qad (oneV (sAt [] 0)))),1,5)] [42]))) .fail) .fail) .fail) .fail) (.ret (.exit 0,[32],[.top,.ptr 0 0,.top,.top,.sl [[.int .u8 34]] .full,.int
    .i64 0,.top,.top,.top,.top,.top,.top,.top,.top,.top,.top,.top,.top,.top,.top,.top,.top,.top,.top,.top,.top,.top,.top,.int .i64 0,.ptr 0 2,.str [],.int .i64 (sLen []),.bool false,.top,.top,.top,.top,.top,.top,.top,.top,.top,.top,.top,.top,.top],Store.mk [[.int .i64 k,.int .i64 n,.str []]] [] [42]))) (by kernel_rfl) ?_
   refine Tr.all_f (by simp) ⟨rfl,by simp [Weak,mk,qb9,look,symH,symB,qad],rfl⟩
  ·obtain⟨v,hv⟩:=qfc (l:=s) (i:=0) (List.length_pos_iff.2 hne);have hv':s[(0:Int).toNat]?=some v:=hv;have hone:=qv9 v.toNat;have hs:s=v::s.drop 1:=by
    have:=qa3 hv;simpa using this
   refine LDoes.round qaj hG qai (L:=fun _ _ _=>.fail) (qab (by kernel_rfl)) (by kernel_rfl) ?_
   refine Tr.all_as (.ite (iLt 0 (sLen s)) (.ite (qaF s 0) (.ite (qas [[.int .u8 34]] (qad (oneV (sAt s 0))) 1) (.ite (qap (qad (oneV (sAt s 0))) 1) (.ite (qan [[.int .u8 34]] 1) (.ite (xNil (qad (oneV (sAt s 0)))) (.ret (.normal,[32],[.top,.ptr 0 0,.top,.top,.sl [[.int .u8 34]] .full,.int .i64 (iAdd .i64 0 1),.top,.top,.top,.top,.top,.top,.top,.top,.top,.top,.top,.top,.top,.top,.top,.top,.top,.top,.top,.top,.top,.top,.int .i64 0,.ptr 0 2,.str s,.int .i64 (sLen s),.bool true,.int .i64 0,.int .i64 (iAdd .i64 0 1),.sl [[.int .u8 34]] .full,.ptr 0 2,.str s,.int .i64 0,.int .u8 (sAt s 0),.sl (qad (oneV (sAt s 0))) .non,.sl [[.int .u8 34]] .full,.top,.top,.top,.top],Store.mk [[.int .i64 k,.int .i64 n,.str s]] [] [42])) (.ret (.normal,[32],[.top,.ptr 0 0,.top,.top,.sl (xApp [[.int .u8 34]] (qad (oneV (sAt s 0)))) (.tok 0),.int .i64 (iAdd .i64 0 1),.top,.top,.top,.top,.top,.top,.top,.top,.top,.top,.top,.top,.top,.top,.top,.top,.top,.top,.top,.top,.top,.top,.int .i64 0,.ptr 0 2,.str s,.int .i64 (sLen s),.bool true,.int .i64 0,.int .i64 (iAdd .i64 0 1),.sl [[.int .u8 34]] .full,.ptr 0 2,.str s,.int .i64 0,.int .u8 (sAt s 0),.sl (qad (oneV (sAt s 0))) .non,.sl (xApp [[.int .u8 34]] (qad (oneV (sAt s 0)))) (.tok 0),.top,.top,.top,.top],Store.mk [[.int .i64 k,.int .i64 n,.str s]] [(nXs (xApp [[.int .u8 34]] (qad (oneV (sAt s 0)))),1,5)] [42]))) .fail) .fail) .fail) .fail) (.ret (.exit 0,[32],[.top,.ptr 0 0,.top,.top,.sl [[.int .u8 34]] .full,.int .i64
    0,.top,.top,.top,.top,.top,.top,.top,.top,.top,.top,.top,.top,.top,.top,.top,.top,.top,.top,.top,.top,.top,.top,.int .i64 0,.ptr 0 2,.str s,.int .i64 (sLen s),.bool false,.top,.top,.top,.top,.top,.top,.top,.top,.top,.top,.top,.top,.top],Store.mk [[.int .i64 k,.int .i64 n,.str s]] [] [42]))) (by kernel_rfl) ?_
   have e3:([[PV.int .u8 34]]:List (List PV))=qad [34]:=rfl;rw [qf3 hv',e3,qnz,qdL];refine Tr.all_t (by simp;exact List.length_pos_iff.2 hne) <| Tr.all_t (qdS (by omega) hv') <| Tr.all_t (qg3 (by simp;omega)) <| Tr.all_t (qvb _) <| Tr.all_t (qcB _) <| Tr.all_f (qtH hone.1) ?_
   have hl:s.length=(s.drop 1).length+1:=by rw [List.length_drop];have:=List.length_pos_iff.2 hne;omega
   refine LDoes.into ?_ (key (s.length - 1) 1 ([34]++oneV v.toNat) (by omega) (by omega) ?_ (by simp;omega) hne)
   ·simp [Weak,mk,qb9,look,iAdd,qaP (n:=1) (by omega)]
   ·unfold symH
    conv=>rhs;rw [hs]
    simp [symB]
 ·cases hd
theorem qSy (gl:Gl):SimP Tryz.prog gl 166 fun args=>(qJ7 args).run:=by
 refine SimP.of_tree (G:=ofL [(179,.pure F_Is),(180,.pure qP8)]) (L:=qO0) qaj (qag (zaar gl) (qag (qTy gl) qaf)) qai Tryz.func166 rfl (by rfl) (by kernel_rfl) (qil (r:=9) (c1:=qIy) (by kernel_rfl) ?_) ?_
 ·intro fr σ e fr' σ' hh;simp only [lps,qO0,if_true] at hh;exact qlP (qOm gl) fr σ e fr' σ' hh
 intro args x h hr;unfold qJ7 at h
 split at h
 ·rename_i k n s;cases h
  refine Tr.run_as (.ite (bNot (isV k n s)) (.ret (.tup [.str [],.int .i64 10])) (.ite (iEq k 1) (.ite (iLt n 0) (.ite (qvh [45] (qkR (iAdd .u64 (qay .u64 (iSub .i64 0 (iAdd .i64 n 1))) 1))) (.ret (.tup [.str (sApp [45] (qkR (iAdd .u64 (qay .u64 (iSub .i64 0 (iAdd .i64 n 1))) 1))),.int .i64 0])) .fail) (.ret (.tup [.str (qkR (qay .u64 n)),.int .i64 0]))) (.ite (iEq 0 0) (.ite (iLe (sLen s) 256) (.ite (sEq s []) (.ite (qas (qad (symH s)) [[.int .u8 34]] 1) (.ite (qap [[.int .u8 34]] 1) (.ite (qan (qad (symH s)) 1) (.ite (qc5 (xApp (qad (symH s)) [[.int .u8 34]])) (.ret (.tup [.str (qbW (xApp (qad (symH s)) [[.int .u8 34]])),.int .i64 0])) .fail) .fail) .fail) .fail) (.ite (qas (qad (symH s)) [[.int .u8 34]] 1) (.ite (qap [[.int .u8 34]] 1) (.ite (qan (qad (symH s)) 1) (.ite (nEq (nLen (symH s)) (nXs (qad (symH s)))) (.ite (qc5 (xApp (qad (symH s)) [[.int .u8 34]])) (.ret (.tup [.str (qbW (xApp (qad (symH s)) [[.int .u8 34]])),.int .i64 0])) .fail) .fail) .fail) .fail) .fail)) .fail) .fail))) (by kernel_rfl) ?_
  have hc:=qWN hr 0 rfl;have hn:-9223372036854775808≤n∧n≤9223372036854775807:=quI hc 1 rfl;rw [qIe];cases hI:isV k n s with
  |false=>simp [qid,hI]
  |true =>
   by_cases hk:k=1
   ·by_cases hneg:n < 0
    ·have e1:iAdd .i64 n 1=n+1:=qaP (by omega)
     have e2:iSub .i64 0 (n+1)=-(n+1):=by unfold iSub;rw [qaP (by omega)];omega
     have e3:qay .u64 (-(n+1))=-(n+1):=qeF (by omega)
     have e4:iAdd .u64 (-(n+1)) 1=-n:=by unfold iAdd;rw [qeF (by omega)];omega
     have e5:=qRB (n:=-n) (by omega)
     have e6:1+(qkR (-n)).length≤maxLen:=by unfold maxLen;omega
     have e7:qvh [45] (qkR (-n))=true:=by simp;omega
     simp only [e1,e2,e3,e4,hk,hneg,Tr.run_ite,e7,if_true,qS2,Bool.not_true,Bool.false_eq_true,if_false,qBP,qLl,decide_true,Tr.run_ret];subst hk;simp [qid,hI,intV,hneg]
    ·have e1:qay .u64 n=n:=qeF (by omega)
     subst hk;simp [qid,hI,intV,hneg,e1]
   ·have hs:s.length≤256:=by
     unfold isV at hI;simp [hk] at hI;exact hI.2.2
    have hB:=qDo s;have hH:(symH s).length=1+(symB s).length:=by simp [symH];omega
    have e1:xApp (qad (symH s)) [[.int .u8 34]]=qad (symV s):=by
     rw [qlU _ (by omega)]
     rfl
    have e2:qas (qad (symH s)) [[.int .u8 34]] 1=true:=by simp;omega
    have e3:nEq (nLen (symH s)) (nXs (qad (symH s)))=true:=by simp
    have e4:qap [[.int .u8 34]] 1=true:=rfl;have e5:iLe (sLen s) 256=true:=by simp;omega
    simp only [e1,e2,e3,e4,e5,Tr.run_ite,hk,qS2,Bool.not_true,Bool.false_eq_true,if_false,if_true,qBP,decide_false,decide_true,qcB,qDa,qFq,Tr.run_ret];simp [qid,hI,hk]
 ·cases h
end Go.Pv
set_option maxHeartbeats 4000000
set_option maxRecDepth 200000
set_option linter.unusedSimpArgs false
set_option linter.unusedVariables false
namespace Go.Pv
open Go Go.Proofs Go.RowKit
def VarIs (gl:Gl) (name:String) (cs:Array Value):Prop:=∃ g T f,Tryz.prog.globalNamed name=some g∧gl g=some (.cells cs T f)
structure GlPow (gl:Gl):Prop where
 pow : VarIs gl "internal/strconv.uint64pow10" (Lib.pow10Tab.map fun z => Value.int .u64 z).toArray
structure GlOk (gl:Gl):Prop extends GlPow gl where
 syn : ∃ tp p, VarIs gl "strconv.ErrSyntax" #[.iface tp p]
 rng : ∃ tp p, VarIs gl "strconv.ErrRange" #[.iface tp p]
theorem VarIs.var {gl:Gl} {name:String} {cs:Array Value} (h:VarIs gl name cs) {w:World} (hw:∀ b o,gl b=some o→w.heap[b]?=some o):w.var? Tryz.prog name=some cs:=by
 obtain⟨g,T,f,h1,h2⟩:=h;simp [World.var?,h1,hw g _ h2]
theorem GlPow.dr {gl:Gl} (h:GlPow gl) (w w':World):Dr gl w w':=fun hg=>by
 obtain⟨g,T,f,_,h2⟩:=h.pow;rw [hg g] at h2;cases h2
def qOM (n:Int):qU:=Lib.itoa n
def qoL:List PV→Tr PV
 |[.int .i64 n,.int .i64 b]=>Tr.chk (iEq b 10) (.ret (.str (qOM n)))
 |_=>.fail
theorem qFn {gl:Gl} (hgl:GlPow gl):SimP Tryz.prog gl 185 fun args=>(qoL args).run:=by
 refine⟨⟨_,Tryz.func185,by rfl,by rfl⟩,?_⟩
 intro args x hx H w vs hB hob htk hw hrel;unfold qoL at hx;split at hx
 ·rename_i n b;obtain⟨h1,h2⟩:=Tr.chk_some hx;cases h2
  simp at h1;subst h1;cases hrel with
  |cons _ v _ vs hv hvs =>
   cases hvs with
   |cons _ v2 _ vs hv2 hvs =>
    cases hvs
    cases hv with
    |int _ _ hwf =>
     cases hv2
     simp [Lit.wf,IntKind.min,IntKind.max,IntKind.signed,IntKind.bits] at hwf;refine (Tryz.strconv_FormatInt_10 n hwf.1 (by omega) w (hgl.pow.var hw)).mono ?_
     rintro e w' ⟨rfl,k,os,rfl⟩;refine⟨_,rfl,⟨Lib.below_grow _ _ (Nat.le_refl _) k os,hgl.dr _ _⟩,.str _ ?_⟩;have:=Lib.itoa_length_le n hwf.1 (by omega)
     show (Lib.itoa n).length≤maxLen
     unfold maxLen;omega
 ·cases hx
def pOk (s:qU):Bool:=match Lib.parseIntB 64 s with
 |.ok _=>true
 |_=>false
def pVal (s:qU):Int:=match Lib.parseIntB 64 s with
 |.ok v=>v
 |.range=>Lib.intSat 64 s
 |_=>0
def qgL (s:qU):Bool:=decide (s.length≤281474976710656)
def qtJ:List PV→Tr PV
 |[.str s,.int .i64 b,.int .i64 k]=>Tr.chk (iEq b 10) (Tr.chk (iEq k 64) (Tr.chk (qgL s) (.ite (pOk s) (.ret (.tup [.int .i64 (pVal s),.nili])) (.ret (.tup [.int .i64 (pVal s),.iface 248 .top])))))
 |_=>.fail
theorem qRM (s:qU):(Lit.int .i64 (pVal s)).wf=true:=by
 have key:-9223372036854775808≤pVal s∧pVal s≤9223372036854775807:=by
  unfold pVal;split
  ·rename_i v hv;have h:=Lib.parseIntB_bounds hv;have e:((2 ^ (64 - 1):Nat):Int)=9223372036854775808:=by decide
   rw [e] at h
   omega
  ·unfold Lib.intSat;split
   ·have e:-(((2 ^ (64 - 1):Nat)):Int)=-9223372036854775808:=by decide
    rw [e];omega
   ·have e:(((2 ^ (64 - 1) - 1:Nat)):Int)=9223372036854775807:=by decide
    rw [e];omega
  ·omega
 simp [Lit.wf,IntKind.min,IntKind.max,IntKind.signed,IntKind.bits];omega
theorem qHj {gl:Gl} (hgl:GlOk gl):SimP Tryz.prog gl 196 fun args=>(qtJ args).run:=by
 refine⟨⟨_,Tryz.func196,by rfl,by rfl⟩,?_⟩
 intro args x hx H w vs hB hob htk hw hrel;unfold qtJ at hx;split at hx
 ·rename_i s b k;obtain⟨h1,h2⟩:=Tr.chk_some hx;obtain⟨h3,h4⟩:=Tr.chk_some h2;obtain⟨h5,h6⟩:=Tr.chk_some h4;simp at h1 h3;simp [qgL] at h5;subst h1 h3;have hwf:=qRM s;cases hrel with
  |cons _ v _ vs hv hvs =>
   cases hvs with
   |cons _ v2 _ vs hv2 hvs =>
    cases hvs with
    |cons _ v3 _ vs hv3 hvs =>
     cases hvs
     cases hv2;cases hv3
     cases hv with
     |str _ hl =>
      have hsz:(ByteArray.mk s.toArray).size=s.length:=by simp [ByteArray.size]
      cases hp:Lib.parseIntB 64 s with
      |ok n =>
       have e1:pOk s=true:=by simp [pOk,hp]
       have e2:pVal s=n:=by simp [pVal,hp]
       rw [e2] at hwf;simp [e1,e2] at h6;subst h6;refine (Any.strconv_ParseInt_10_at64_ok Tryz.laysC174 ⟨s.toArray⟩ (by rw [hsz];omega) n hp w).mono ?_
       rintro e w' ⟨rfl,hw'⟩;refine⟨_,rfl,⟨?_,hgl.dr _ _⟩,.tup _ _ (.cons _ _ _ _ (.int _ _ hwf) (.cons _ _ _ _ .nili .nil))⟩;rcases hw' with rfl|⟨t,rfl⟩
       ·exact Below.refl _ _
       ·exact⟨rfl,rfl,rfl,by rw [Lib.bytesWorld_size];omega,fun k hk=>Lib.bytesWorld_at_old w _ _ k hk⟩
      |range =>
       have e1:pOk s=false:=by simp [pOk,hp]
       have e2:pVal s=Lib.intSat 64 s:=by simp [pVal,hp]
       simp [e1,e2] at h6;rw [e2] at hwf;subst h6;obtain⟨tp,p,hv⟩:=hgl.rng;refine (Any.strconv_ParseInt_10_at64_range_var Tryz.laysC174 ⟨s.toArray⟩ (by rw [hsz];omega) hp tp p w (hv.var hw)).mono ?_
       rintro e w' ⟨N,rfl,h1,h2,h3⟩;exact⟨_,rfl,⟨h3,hgl.dr _ _⟩,.tup _ _ (.cons _ _ _ _ (.int _ _ hwf) (.cons _ _ _ _ (.iface _ _ _ (.top _)) .nil))⟩
      |_ =>
       have e1:pOk s=false:=by simp [pOk,hp]
       have e2:pVal s=0:=by simp [pVal,hp]
       rw [e2] at hwf;simp [e1,e2] at h6;subst h6;obtain⟨tp,p,hv⟩:=hgl.syn;refine (Any.strconv_ParseInt_10_at64_syntax_var Tryz.laysC174 ⟨s.toArray⟩ (by rw [hsz];omega) hp tp p w (hv.var hw)).mono ?_
       rintro e w' ⟨N,rfl,h1,h2,h3⟩;exact⟨_,rfl,⟨h3,hgl.dr _ _⟩,.tup _ _ (.cons _ _ _ _ (.int _ _ hwf) (.cons _ _ _ _ (.iface _ _ _ (.top _)) .nil))⟩
 ·cases hx
end Go.Pv
set_option maxHeartbeats 4000000
set_option maxRecDepth 200000
set_option linter.unusedSimpArgs false
set_option linter.unusedVariables false
namespace Go.Pv
open Go Go.Proofs Go.Shelf Go.RowKit
variable {P : Program} {ρ : Ren} {gl : Gl}
theorem qIK {w:World} {b off:Nat} {cs:Array Value} {T:TypeId} {fz:Nat×Nat} (h:w.heap[b]?=some (.cells cs T fz)) (v:Value):w.setCell ⟨b,off,none⟩ v=w.setRow b (cs.setIfInBounds off v):=by
 unfold World.setCell World.setRow
 congr 1
 apply Array.ext_getElem?;intro i;rw [Array.getElem?_modify,Array.getElem?_modify];by_cases hi:b=i
 ·subst hi;rw [if_pos rfl,if_pos rfl,h];rfl
 ·rw [if_neg hi,if_neg hi]
theorem qQk {w:World} {b n:Nat} {cs:Array Value} {T:TypeId} {fz:Nat×Nat} (h:w.heap[b]?=some (.cells cs T fz)):∃ fz',(w.freeze ⟨b,0,none⟩ n).heap[b]?=some (.cells cs T fz'):=by
 unfold World.freeze;split
 ·exact⟨fz,h⟩
 ·obtain⟨lo,hi⟩:=fz;exact⟨_,by simp only [Array.getElem?_modify,if_true,h];rfl⟩
theorem qHm (w:World) (b n k:Nat) (h:k≠b):(w.freeze ⟨b,0,none⟩ n).heap[k]?=w.heap[k]?:=by
 unfold World.freeze;split
 ·rfl
 ·simp only [Array.getElem?_modify];rw [if_neg (fun e=>h e.symm)]
theorem qI2 (w:World) (b n:Nat):(w.freeze ⟨b,0,none⟩ n).heap.size=w.heap.size:=by
 unfold World.freeze;split
 ·rfl
 ·simp
theorem qIv (w:World) (b n:Nat):(w.freeze ⟨b,0,none⟩ n).os=w.os∧(w.freeze ⟨b,0,none⟩ n).tape=w.tape∧(w.freeze ⟨b,0,none⟩ n).output=w.output:=by
 unfold World.freeze;split<;>exact⟨rfl,rfl,rfl⟩
theorem qIf (w:World) (b n:Nat):(w.drew.freeze ⟨b,0,none⟩ n).drawn=w.drew.drawn:=by
 unfold World.freeze;split<;>rfl
def qgm (T:TypeId):List PV→Store→Tr (PV×Store)
 |[.ptr 1 0],⟨[o,[.nilp,q]],tk,[t0,t1]⟩=>Tr.chk (t1 == T) (.ret (.tup [],⟨[o,[.ptr 1 0,q]],tk,[t0,t1]⟩))
 |[.ptr 1 0],⟨[o,[.ptr 1 0,q]],tk,[t0,t1]⟩=>.ret (.tup [],⟨[o,[.ptr 1 0,q]],tk,[t0,t1]⟩)
 |_,_=>.fail
theorem qKJ {H:Gh} {w:World} {args:List Value} {id off:Nat} (h:RelL H w [.ptr id off] args):∃ b,H.ob[id]?=some b∧args=[.pointer (some ⟨b,off,none⟩)]:=by
 cases h with
 |cons _ v _ vs hv hvs =>
  cases hvs
  cases hv with
  |ptr _ _ b hb=>exact⟨b,hb,rfl⟩
theorem qvn {f:FuncId} {TB:TypeId} (hTB:TB < qgW) (hfresh:∀ (b:Nat) (w:World),w.cell? ⟨b,0,none⟩=some (.pointer none)→w.shape? b=some (TB,2)→w.frozen? ⟨b,0,none⟩=false→Calls P f #[.pointer (some ⟨b,0,none⟩)] w fun e w'=>e=.returned (.tuple #[])∧w'=w.setCell ⟨b,0,none⟩ (.pointer (some ⟨b,0,none⟩)))
  (hused:∀ (b:Nat) (w:World),w.cell? ⟨b,0,none⟩=some (.pointer (some ⟨b,0,none⟩))→Calls P f #[.pointer (some ⟨b,0,none⟩)] w fun e w'=>e=.returned (.tuple #[])∧w'=w)
  (hent : ∃ fn, P.funcs[f]? = some fn ∧ (fn.name == "runtime.NumGoroutine") = false ∧ fn.body.isNone = false) : SimS P gl f fun args σ => (qgm TB args σ).run := by
 refine⟨hent,?_⟩;intro args σ x σ' hx H w vs hok hrel;unfold qgm at hx;split at hx
 ·rename_i o q tk t0 t1;obtain⟨h1,h2⟩:=Tr.chk_some hx;cases h2
  have h1:t1=TB:=by simpa using h1
  subst h1;obtain⟨b,hb,rfl⟩:=qKJ hrel;obtain⟨hB,us,ext,T,hheap,hus⟩:=hok.obj 1 b _ hb rfl;obtain⟨cs,hcs,hsz⟩:=hok.ty 1 b _ _ hb rfl rfl hTB;rw [hheap] at hcs;simp only [Option.some.injEq,Obj.cells.injEq] at hcs;obtain⟨rfl,rfl,_⟩:=hcs;have hul:=hus.len;have hext:ext=[]:=by
   apply List.eq_nil_of_length_eq_zero;simp at hsz hul;omega
  subst hext;cases hus with
  |cons _ u0 _ us hu0 hus =>
   cases hu0
   cases hus with
   |cons _ u1 _ us hu1 hus =>
    cases hus
    refine (hfresh b w (by rw [Lib.cell_of_heap hheap];rfl) (by simp [World.shape?,hheap]) (by rw [Lib.frozen_of_heap hheap 0])).mono ?_
    rintro e w' ⟨rfl,rfl⟩;rw [qIK hheap];have hset:=qIr (cs':=[.ptr 1 0,q]) (vs':=[.pointer (some ⟨b,0,none⟩),u1]) hok hb hheap (.cons _ _ _ _ (.ptr _ _ _ hb) (.cons _ _ _ _ hu1 .nil)) (fun c0 hc0=>by cases hc0;exact⟨rfl,rfl⟩)
    exact⟨_,rfl,H,hset.1,hset.2,.tup _ _ .nil⟩
 ·rename_i o q tk t0 t1;cases hx
  obtain⟨b,hb,rfl⟩:=qKJ hrel;obtain⟨hB,us,ext,T,hheap,hus⟩:=hok.obj 1 b _ hb rfl;cases hus with
  |cons _ u0 _ us hu0 hus =>
   have hu0':u0=.pointer (some ⟨b,0,none⟩):=by
    cases hu0 with
    |ptr _ _ b' hb' =>
     rw [hb] at hb';cases hb'
     rfl
   subst hu0';refine (hused b w (by rw [Lib.cell_of_heap hheap];rfl)).mono ?_
   rintro e w' ⟨rfl,rfl⟩;exact⟨_,rfl,.same hok (.tup _ _ .nil)⟩
 ·cases hx
def qxR (T:TypeId):List PV→Store→Tr (PV×Store)
 |[.ptr 1 0],⟨[o,[p,.sl xs (.tok 0)]],[(v,1,e)],ty⟩=>Tr.chk (qc5 xs) (Tr.chk (bNot (xNil xs)) (Tr.chk (nEq v (nXs xs)) (Tr.chk (e == T) (.ret (.str (qbW xs),⟨[o,[p,.sl xs (.tok 0)]],[(maxLen+1,1,e)],ty⟩)))))
 |_,_=>.fail
set_option maxRecDepth 100000 in
theorem Any.Builder_String_at (L : Lays.n169 P ρ) (X : Builder.Extra P ρ) (b g cap : Nat) (l : List UInt8) (w : World) (p : Value) (cs cur : Array Value) (T : TypeId) (fz : Nat × Nat)
    (hbk : w.cell? ⟨b, 1, none⟩ = some (.slice (some ⟨g, 0, none⟩) l.length cap)) (hg : w.heap[g]? = some (.cells cur (ρ.t 5) fz)) (hnc : l.length ≤ cap) (hcm : cap ≤ maxLen) (hcs : cur.size = cap)
    (hcell : ∀ j x, l[j]? = some x → w.cell? ((⟨g, 0, none⟩ : Addr).add j) = some (.int .u8 x.toNat)) (h0 : l ≠ []) :
    Calls P (ρ.f 169) #[.pointer (some ⟨b, 0, none⟩)] w fun e w' => e = .returned (.string ⟨l.toArray⟩) ∧ w' = w.drew.freeze ⟨g, 0, none⟩ l.length := by
  have hl0 : l.length ≠ 0 := by simpa using h0
  have c1 : w.drew.cell? ⟨b, 1, none⟩ = some (.slice (some ⟨g, 0, none⟩) l.length cap) := hbk
  have hSD : (Builtin.unsafeSliceData_ #[(ρ.t 37)] (ρ.t 127) #[.slice (some ⟨g, 0, none⟩) l.length cap]).run P w.drew = .ok (.pointer (some ⟨g, 0, none⟩)) w.drew :=
    Lib.run_unsafeSliceData_row _ _ _ _ _ _ (by omega)
  have hUS : (Builtin.unsafeString_ #[(ρ.t 127), (ρ.t 3)] (ρ.t 9) #[.pointer (some ⟨g, 0, none⟩), .int .i64 l.length]).run P w.drew = .ok (.string ⟨l.toArray⟩) (w.drew.freeze ⟨g, 0, none⟩ l.length) := by
    refine Lib.run_unsafeString_row w.drew (ρ.t 127) (ρ.t 3) (ρ.t 9) (ρ.t 5) L.t127 X.cellsByte g cur.size (by have hg' : w.drew.heap[g]? = some (.cells cur (ρ.t 5) fz) := hg; simp [World.shape?, hg']) l h0 (by omega) (by unfold maxLen at hcm; omega) ?_
    intro j x hx
    exact hcell j x hx
  have mixed := L.mixed
  have t72 := L.t72; have a72 := L.a72; have z72 := L.z72; have v72 := L.v72; have u72 := run_underlying L.t72
  have t70 := L.t70; have a70 := L.a70; have z70 := L.z70; have v70 := L.v70; have u70 := run_underlying L.t70
  have t37 := L.t37; have a37 := L.a37; have z37 := L.z37; have v37 := L.v37; have u37 := run_underlying L.t37
  have t127 := L.t127; have a127 := L.a127; have z127 := L.z127; have v127 := L.v127; have u127 := run_underlying L.t127
  have t3 := L.t3; have a3 := L.a3; have z3 := L.z3; have v3 := L.v3; have u3 := run_underlying L.t3
  have t9 := L.t9; have a9 := L.a9; have z9 := L.z9; have v9 := L.v9; have u9 := run_underlying L.t9
  have t5 := X.t5; have a5 := X.a5; have z5 := X.z5; have v5 := X.v5; have u5 := run_underlying X.t5
  go_enter L.f169, Body.n169_ntmps ρ
  go_wp2
  go_region_o
  all_goals (go_wp2; go_ret; exact ⟨rfl, rfl⟩)
theorem Any.sim_String (L : Lays.n169 P ρ) (X : Builder.Extra P ρ) (hent : ∃ fn, P.funcs[ρ.f 169]? = some fn ∧ (fn.name == "runtime.NumGoroutine") = false ∧ fn.body.isNone = false) : SimS P gl (ρ.f 169) fun args σ => (qxR (ρ.t 5) args σ).run := by
 refine⟨hent,?_⟩;intro args σ x σ' hx H w vs hok hrel;unfold qxR at hx;split at hx
 ·rename_i o p xs v e ty;obtain⟨h1,q1⟩:=Tr.chk_some hx;obtain⟨h2,q2⟩:=Tr.chk_some q1;obtain⟨h3,q3⟩:=Tr.chk_some q2;obtain⟨h4,q4⟩:=Tr.chk_some q3;clear hx q1 q2 q3;have h4:e=ρ.t 5:=by simpa using h4
  subst h4;simp at h2 h3;subst h3;cases q4
  unfold qc5 qbW at *;cases hl:pbytes xs with
  |none=>simp [hl] at h1
  |some l =>
   obtain⟨b,hb,rfl⟩:=qKJ hrel;obtain⟨hB,us,ext,T,hheap,hus⟩:=hok.obj 1 b _ hb rfl;cases hus with
   |cons _ u0 _ us hu0 hus =>
    cases hus with
    |cons _ u1 _ us hu1 hus =>
     cases hus
     cases hu1 with
     |sl a len cap k _ vss _ hlen hcap hm hrr hrow htag =>
      obtain⟨ns,rfl,rfl⟩:=qz6 hl;have hvs:=qBv hrr;subst hvs;obtain⟨U,hU,hUnz,hle,hUv⟩:=htag;have hUs:(U.ver,U.k,U.e)=(len,1,ρ.t 5):=by
       have hh:=hok.tkl;have:(H.tk.map fun T=>(T.ver,T.k,T.e))[0]?=some (U.ver,U.k,U.e):=by rw [List.getElem?_map,hU];rfl
       rw [hh] at this;simp at this;rw [← this.1,← this.2.1,← this.2.2];simp [← hlen]
      simp only [Prod.mk.injEq] at hUs;obtain⟨hUver,hUk,hUe⟩:=hUs;have hU0:U.ver≠0:=by
       rw [hUver];intro h0;apply h2;have:ns=[]:=List.eq_nil_of_length_eq_zero (by simpa [h0] using hlen)
       simp [this]
      obtain⟨rfl,hcapU,hkU⟩:=(hUv hUver.symm).2 hU0;obtain⟨hBT,hTob,ob,hcur,hTO⟩:=hok.tok 0 U hU (fun hh=>hU0 hh.1)
      obtain⟨cur,fz,rfl,hvc,hcm,hcs⟩:∃ cur fz,ob=.cells cur U.e fz∧(U.ver≤maxLen→fz=(0,0)∧U.ver≤U.cap)∧U.cap≤maxLen∧cur.size=U.cap * U.k:=by
       rcases hTO with⟨_,hc⟩|⟨hz,_⟩
       ·exact hc
       ·exact absurd hz hUnz
      have hln:(ns.map fun n=>UInt8.ofNat n.toNat).length=len:=by simpa using hlen
      have hk1:k=1:=by rw [hkU,hUk]
      subst hk1;have hln:ns.length=len:=by simpa using hlen
      have hwf:∀ (j:Nat) (n:Int),ns[j]?=some n→0≤n∧n < 256:=by
       intro j n hj;have:=(qcA.1 hrr).2 j [.int .u8 n] [.int .u8 n] (by simp [hj]) (by simp [hj])
       cases this with
       |cons _ _ _ _ hv _ =>
        cases hv with
        |int _ _ hwf=>simp [Lit.wf,IntKind.min,IntKind.max,IntKind.signed,IntKind.bits] at hwf;omega
      have hll:(ns.map fun n=>UInt8.ofNat n.toNat).length=len:=by simpa using hln
      refine (Any.Builder_String_at L X b U.blk cap (ns.map fun n=>UInt8.ofNat n.toNat) w u0 #[] cur T fz (by rw [hll,Lib.cell_of_heap hheap];rfl) (by rw [← hUe];exact hcur) (by rw [hll];exact hcap) hm (by rw [hcs,hUk,hcapU,Nat.mul_one]) ?_ ?_).mono ?_
      ·intro j x hj;rw [List.getElem?_map] at hj;cases hn:ns[j]? with
       |none=>simp [hn] at hj
       |some n =>
        simp [hn] at hj;subst hj;have hb:=hwf j n hn;obtain⟨hk,a',ha',hcell⟩:=hrow j [.int .u8 n] (by simp [hn])
        injection ha' with ha'
        subst ha';have:=(hcell 0 _ rfl).2;rw [Nat.mul_one,qtw,Nat.add_zero] at this;rw [this];simp;omega
      ·intro hnil;apply h2;simpa using hnil
      ·rintro e w' ⟨rfl,rfl⟩;rw [hll];have hcur':w.drew.heap[U.blk]?=some (.cells cur U.e fz):=hcur;obtain⟨fz',hfz'⟩:=qQk (n:=len) hcur';have hrest:=qIv w.drew U.blk len;have hset:=qMu (T':=⟨U.blk,maxLen+1,U.cap,U.k,U.e⟩) (w':=w.drew.freeze ⟨U.blk,0,none⟩ len) hok hU hU0 hUnz rfl (by show U.ver < maxLen+1;omega) hcm (fun _=>by rw [qIf];exact Nat.le_succ _) hrest.1 hrest.2.1 hrest.2.2 (by rw [qI2];exact Nat.le_refl _) (.inl rfl)
        (fun k _ hk=>qHm w.drew U.blk len k hk) (fz':=fz') (by intro h;simp at h;omega) hcur hfz' hcs (fun _ off _=>rfl)
       refine⟨_,rfl,_,hset.1,?_,?_⟩
       ·have:=hset.2;simpa [hUk,hUe] using this
       ·exact .str (List.map (fun n=>UInt8.ofNat n.toNat) ns) (by simp;omega)
 ·cases hx
end Go.Pv
set_option maxHeartbeats 4000000
set_option maxRecDepth 200000
set_option linter.unusedSimpArgs false
set_option linter.unusedVariables false
namespace Go.Pv
open Go Go.Proofs Go.RowKit
section
variable (b : Nat) (w : World)
theorem qBb (h0:w.cell? ⟨b,0,none⟩=some (.pointer (some ⟨b,0,none⟩))):Calls Tryz.prog 167 #[.pointer (some ⟨b,0,none⟩)] w fun e w'=>e=.returned (.tuple #[])∧w'=w:=by
 obtain⟨j,hj,_⟩:∃ j,Tryz.prog.info? 186=some j∧j.size=2:=⟨_,rfl,rfl⟩;have mixed:Tryz.prog.follows .mixedOrders=true:=qai;have t72:=Tryz.underlying186;have a72:=Tryz.isAgg186;have z72:=Tryz.sizeOf186;have v72:=Tryz.zeroValue186;have u72:=run_underlying Tryz.underlying186;have t70:=Tryz.underlying183;have a70:=Tryz.isAgg183;have z70:=Tryz.sizeOf183;have v70:=Tryz.zeroValue183;have u70:=run_underlying Tryz.underlying183;have t164:=Tryz.underlying214;have a164:=Tryz.isAgg214;have z164:=Tryz.sizeOf214;have v164:=Tryz.zeroValue214;have u164:=run_underlying Tryz.underlying214
 go_enter Tryz.func167,Tryz.ntmps167
 go_wp2
 rw [Lib.run_neq_ptr_same w _ t70 hj]
 go_wp2
 go_end0
 exact⟨rfl,rfl⟩
theorem qAm (h0:w.cell? ⟨b,0,none⟩=some (.pointer none)) (hsh:w.shape? b=some (186,2)) (hfz:w.frozen? ⟨b,0,none⟩=false) :
  Calls Tryz.prog 167 #[.pointer (some ⟨b,0,none⟩)] w fun e w'=>e=.returned (.tuple #[])∧w'=w.setCell ⟨b,0,none⟩ (.pointer (some ⟨b,0,none⟩)):=by
 obtain⟨j,hj,hjs⟩:∃ j,Tryz.prog.info? 186=some j∧j.size=2:=⟨_,rfl,rfl⟩;have mixed:Tryz.prog.follows .mixedOrders=true:=qai;have t72:=Tryz.underlying186;have a72:=Tryz.isAgg186;have z72:=Tryz.sizeOf186;have v72:=Tryz.zeroValue186;have u72:=run_underlying Tryz.underlying186;have t70:=Tryz.underlying183;have a70:=Tryz.isAgg183;have z70:=Tryz.sizeOf183;have v70:=Tryz.zeroValue183;have u70:=run_underlying Tryz.underlying183;have t164:=Tryz.underlying214;have a164:=Tryz.isAgg214;have z164:=Tryz.sizeOf214;have v164:=Tryz.zeroValue214;have u164:=run_underlying Tryz.underlying214
 go_enter Tryz.func167,Tryz.ntmps167
 go_wp2
 rw [Lib.run_to_unsafe w ⟨b,0,none⟩ t70 t164 hj (by rw [hjs];decide) hsh (Nat.zero_lt_succ 1)]
 simp only [Result.andThen];rw [Oper.upon_value]
 go_wp2
 rw [run_callFunc_extern Tryz.func182 (by kernel_rfl) (by kernel_rfl) (by kernel_rfl) (e:=Extern.AbiNoEscape.same) (by kernel_rfl)]
 rw [Lib.run_noEscape];simp only [Result.andThen];rw [Oper.upon_value]
 go_wp2
 rw [Lib.run_from_unsafe w ⟨b,0,none⟩ t164 t70 hj hsh (by kernel_rfl)]
 simp only [Result.andThen];rw [Oper.upon_value]
 go_wp2
 go_end0
 exact⟨rfl,rfl⟩
end
theorem qr6 (gl:Gl):SimS Tryz.prog gl 167 fun args σ=>(qgm 186 args σ).run :=
 qvn (by decide) (fun b w=>qAm b w) (fun b w=>qBb b w) ⟨_,Tryz.func167,by rfl,by rfl⟩
theorem sim_String (gl:Gl):SimS Tryz.prog gl 154 fun args σ=>(qxR 5 args σ).run :=
 Any.sim_String Tryz.lays169 Tryz.Builder_Extra_169 ⟨_,Tryz.func154,by rfl,by rfl⟩
def D_WB:List PV→Store→Tr (PV×Store)
 |[.ptr 1 0,.int .u8 c],⟨[o,[.nilp,.sl [] .full]],[],[t0,186]⟩=>.ret (.nili,⟨[o,[.ptr 1 0,.sl [[.int .u8 c]] (.tok 0)]],[(1,1,5)],[t0,186]⟩)
 |[.ptr 1 0,.int .u8 c],⟨[o,[.ptr 1 0,.sl xs (.tok 0)]],[(v,1,5)],[t0,186]⟩=>Tr.chk (qas xs [[.int .u8 c]] 1) (Tr.chk (qan xs 1) (Tr.chk (nEq v (nXs xs))
  (.ret (.nili,⟨[o,[.ptr 1 0,.sl (xApp xs [[.int .u8 c]]) (.tok 0)]],[(nXs (xApp xs [[.int .u8 c]]),1,5)],[t0,186]⟩))))
 |_,_=>.fail
theorem qZ6 (gl:Gl):SimS Tryz.prog gl 186 fun args σ=>(D_WB args σ).run:=by
 refine SimS.of_tree (G:=ofL [(167,.store (qgm 186))]) (L:=fun _ _ _=>.fail) qaj (qdw (qr6 gl) qaf) qai Tryz.func186 rfl (by rfl) (by kernel_rfl) (qab (by kernel_rfl)) ?_
 intro args σ x σ' h hr;unfold D_WB at h
 split at h
 ·rename_i c o t0;cases h
  refine Tr.run_as (.ite true (.ite (qas [] [[.int .u8 c]] 1) (.ite (qap [[.int .u8 c]] 1) (.ite (qan [] 1) (.ret (.nili,Store.mk [o,[.ptr 1 0,.sl (xApp [] [[.int .u8 c]]) (.tok 0)]] [(nXs (xApp [] [[.int .u8 c]]),1,5)] [t0,186])) .fail) .fail) .fail) .fail) (by kernel_rfl) ?_
  simp [one]
 ·rename_i c o xs v t0;obtain⟨h1,q1⟩:=Tr.chk_some h;obtain⟨h2,q2⟩:=Tr.chk_some q1;obtain⟨h3,q3⟩:=Tr.chk_some q2;cases q3
  refine Tr.run_as (.ite (qas xs [[.int .u8 c]] 1) (.ite (qap [[.int .u8 c]] 1) (.ite (qan xs 1) (.ite (nEq v (nXs xs)) (.ret (.nili,Store.mk [o,[.ptr 1 0,.sl (xApp xs [[.int .u8 c]]) (.tok 0)]] [(nXs (xApp xs [[.int .u8 c]]),1,5)] [t0,186])) .fail) .fail) .fail) .fail) (by kernel_rfl) ?_
  simp at h1 h2 h3;simp [h1,h2,h3,one]
 ·cases h
def D_WS:List PV→Store→Tr (PV×Store)
 |[.ptr 1 0,.str l],⟨[o,[.ptr 1 0,.sl xs (.tok 0)]],[(v,1,5)],[t0,186]⟩=>Tr.chk (bNot (xNil (qad l))) (Tr.chk (qas xs (qad l) 1) (Tr.chk (qan xs 1) (Tr.chk (nEq v (nXs xs))
  (.ret (.tup [.int .i64 (sLen l),.nili],⟨[o,[.ptr 1 0,.sl (xApp xs (qad l)) (.tok 0)]],[(nXs (xApp xs (qad l)),1,5)],[t0,186]⟩)))))
 |_,_=>.fail
theorem zaaJ (gl:Gl):SimS Tryz.prog gl 153 fun args σ=>(D_WS args σ).run:=by
 refine SimS.of_tree (G:=ofL [(167,.store (qgm 186))]) (L:=fun _ _ _=>.fail) qaj (qdw (qr6 gl) qaf) qai Tryz.func153 rfl (by rfl) (by kernel_rfl) (qab (by kernel_rfl)) ?_
 intro args σ x σ' h hr;unfold D_WS at h
 split at h
 ·rename_i l o xs v t0;obtain⟨h0,q0⟩:=Tr.chk_some h;obtain⟨h1,q1⟩:=Tr.chk_some q0;obtain⟨h2,q2⟩:=Tr.chk_some q1;obtain⟨h3,q3⟩:=Tr.chk_some q2;cases q3
  refine Tr.run_as (.ite (qas xs (qad l) 1) (.ite (qap (qad l) 1) (.ite (qan xs 1) (.ite (xNil (qad l)) (.ret (.tup [.int .i64 (sLen l),.nili],Store.mk [o,[.ptr 1 0,.sl xs (.tok 0)]] [(v,1,5)] [t0,186])) (.ite (nEq v (nXs xs)) (.ret (.tup [.int .i64 (sLen l),.nili],Store.mk [o,[.ptr 1 0,.sl (xApp xs (qad l)) (.tok 0)]] [(nXs (xApp xs (qad l)),1,5)] [t0,186])) .fail)) .fail) .fail) .fail) (by kernel_rfl) ?_
  simp at h0 h1 h2 h3;simp [h0,h1,h2,h3]
 ·cases h
def qe9 (k n:Int) (s:qU):qU:=if isV k n s=true then (if k=1 then qOM n else symV s) else []
def qSl:List PV→Tr PV
 |[.agg [.int .i64 k,.int .i64 n,.str s]]=>.ret (.tup [.str (qe9 k n s),.int .i64 (qbe k n s)])
 |_=>.fail
def qPW:List PV→Store→Option (Int×Int×List UInt8×Int×Int)
 |[.ptr 0 0,.ptr 1 0,.int .i64 m,.int .i64 i],⟨[[.int .i64 k,.int .i64 n,.str s],[.ptr 1 0,.sl [[.int .u8 34]] (.tok 0)]],[(1,1,5)],[42,186]⟩=>some (k,n,s,m,i)
 |_,_=>none
def qGk (k n:Int) (s:qU) (b:qU):Store:=⟨[[.int .i64 k,.int .i64 n,.str s],[.ptr 1 0,.sl (qad b) (.tok 0)]],[(nLen b,1,5)],[42,186]⟩
def qVQ:Int×Int×List UInt8×Int×Int→Tr (PExit×List (Nat×PV)×Store)
 |(k,n,s,m,i)=>Tr.chk (iEq i 0) (Tr.chk (iEq m (sLen s)) (Tr.chk (iLe (sLen s) 256) (.ret (.exit 0,[(1,.ptr 0 0),(5,.ptr 1 0)],⟨[[.int .i64 k,.int .i64 n,.str s],[.ptr 1 0,.sl (qad (symH s)) (.tok 0)]],[(nLen (symH s),1,5)],[42,186]⟩))))
def qVD:LpsT:=fun r fr σ=>if r=9 then oracle 34 [1,5,21,22] qPW qVQ fr σ else .fail
def qQr:Code:=qRj Tryz.f169 0
theorem qQo (gl:Gl):∀ vs σ a e out σ',qPW vs σ=some a→(qVQ a).run=some (e,out,σ')→LDoes Tryz.prog gl qQr (mk 34 ([1,5,21,22].zip vs)) σ e (mk 34 out) σ':=by
 intro vs st a e out σ' hd hr;unfold qPW at hd;split at hd
 ·rename_i m i k n s;cases hd
  obtain⟨h1,h2⟩:=Tr.chk_some hr;obtain⟨h3,h4⟩:=Tr.chk_some h2;obtain⟨h5,h6⟩:=Tr.chk_some h4;simp at h1 h3 h5;subst h1 h3;clear hr h2 h4;cases h6
  have hG:qal Tryz.prog gl (gam (ofL [(187,.pure qXy),(153,.store D_WS)])):=qag (qWA gl) (qdw (zaaJ gl) qaf);have key:∀ (m:Nat) (i:Int) (b:qU),0≤i→i+m=s.length→b++symB (s.drop i.toNat)=symH s→b.length≤1+4 * i.toNat →
    LDoes Tryz.prog gl qQr (mk 34 ([1,5,21,22].zip [.ptr 0 0,.ptr 1 0,.int .i64 (sLen s),.int .i64 i])) (qGk k n s b) (.exit 0) (mk 34 [(1,.ptr 0 0),(5,.ptr 1 0)]) (qGk k n s (symH s)):=by
   intro m
   induction m with
   |zero =>
    intro i b h0 hi hf hb;have e1:s.drop i.toNat=[]:=by apply List.drop_eq_nil_of_le;omega
    rw [e1] at hf;simp [symB] at hf;subst hf;unfold qGk;refine LDoes.round qaj hG qai (L:=fun _ _ _=>.fail) (qab (by kernel_rfl)) (by kernel_rfl) ?_
    refine Tr.all_as (.ite (iLt i (sLen s)) (.ite (qaF s i) (.ite (bNot (xNil (qad (oneV (sAt s i))))) (.ite (qas (qad (symH s)) (qad (oneV (sAt s i))) 1) (.ite (qan (qad (symH s)) 1) (.ite (nEq (nLen (symH s)) (nXs (qad (symH s)))) (.ret (.normal,[23],[.top,.ptr 0 0,.top,.top,.top,.ptr 1 0,.int .i64 i,.top,.top,.top,.top,.top,.top,.top,.top,.top,.top,.top,.top,.top,.top,.int .i64 (sLen s),.int .i64 (iAdd .i64 i 1),.bool true,.int .i64 i,.ptr 0 2,.str s,.int .i64 i,.int .u8 (sAt s i),.str (oneV (sAt s i)),.tup [.int .i64 (sLen (oneV (sAt s i))),.nili],.int .i64 (iAdd .i64 i 1),.top,.top],Store.mk [[.int .i64 k,.int .i64 n,.str s],[.ptr 1 0,.sl (xApp (qad (symH s)) (qad (oneV (sAt s i)))) (.tok 0)]] [(nXs (xApp (qad (symH s)) (qad (oneV (sAt s i)))),1,5)] [42,186])) .fail) .fail) .fail) .fail) .fail) (.ret (.exit 0,[23],[.top,.ptr 0 0,.top,.top,.top,.ptr 1 0,.top,.top,.top,.top,.top,.top,.top,.top,.top,.top,.top,.top,.top,.top,.top,.int .i64 (sLen s),.int .i64 i,.bool false,.top,.top,.top,.top,.top,.top,.top,.top,.top,.top],Store.mk [[.int .i64 k,.int .i64 n,.str s],[.ptr 1 0,.sl (qad (symH s)) (.tok 0)]] [(nLen (symH s),1,5)] [42,186]))) (by kernel_rfl) ?_
    exact Tr.all_f (by simp;omega) ⟨rfl,by simp [Weak,mk,qb9,look],rfl⟩
   |succ m ih =>
    intro i b h0 hi hf hb;obtain⟨v,hv⟩:=qfc (l:=s) (i:=i.toNat) (by omega)
    rw [qa3 hv] at hf;have hone:=qv9 v.toNat;have e2:(i+1).toNat=i.toNat+1:=by omega
    unfold qGk;refine LDoes.round qaj hG qai (L:=fun _ _ _=>.fail) (qab (by kernel_rfl)) (by kernel_rfl) ?_
    refine Tr.all_as (.ite (iLt i (sLen s)) (.ite (qaF s i) (.ite (bNot (xNil (qad (oneV (sAt s i))))) (.ite (qas (qad b) (qad (oneV (sAt s i))) 1) (.ite (qan (qad b) 1) (.ite (nEq (nLen b) (nXs (qad b))) (.ret (.normal,[23],[.top,.ptr 0 0,.top,.top,.top,.ptr 1 0,.int .i64 i,.top,.top,.top,.top,.top,.top,.top,.top,.top,.top,.top,.top,.top,.top,.int .i64 (sLen s),.int .i64 (iAdd .i64 i 1),.bool true,.int .i64 i,.ptr 0 2,.str s,.int .i64 i,.int .u8 (sAt s i),.str (oneV (sAt s i)),.tup [.int .i64 (sLen (oneV (sAt s i))),.nili],.int .i64 (iAdd .i64 i 1),.top,.top],Store.mk [[.int .i64 k,.int .i64 n,.str s],[.ptr 1 0,.sl (xApp (qad b) (qad (oneV (sAt s i)))) (.tok 0)]] [(nXs (xApp (qad b) (qad (oneV (sAt s i)))),1,5)] [42,186])) .fail) .fail) .fail) .fail) .fail) (.ret (.exit 0,[23],[.top,.ptr 0 0,.top,.top,.top,.ptr 1 0,.top,.top,.top,.top,.top,.top,.top,.top,.top,.top,.top,.top,.top,.top,.top,.int .i64 (sLen s),.int .i64 i,.bool false,.top,.top,.top,.top,.top,.top,.top,.top,.top,.top],Store.mk [[.int .i64 k,.int .i64 n,.str s],[.ptr 1 0,.sl (qad b) (.tok 0)]] [(nLen b,1,5)] [42,186]))) (by kernel_rfl) ?_
    rw [qf3 hv,qnz,qdL,qdL];refine Tr.all_t (by simp;omega) <| Tr.all_t (qdS h0 hv) <| Tr.all_t (by rw [qtH hone.1];rfl) <| Tr.all_t (qg3 (by omega)) <| Tr.all_t (qcB _) <| Tr.all_t (by simp) ?_
    refine LDoes.into ?_ (ih (i+1) (b++oneV v.toNat) (by omega) (by omega) (by rw [← hf,e2];simp [symB]) (by simp;omega))
    simp [Weak,mk,qb9,look,iAdd,qaP (n:=i+1) (by omega)]
  have hz:=key s.length 0 [34] (by omega) (by omega) (by simp [symH]) (by simp)
  exact hz
 ·cases hd
theorem qTx {gl:Gl} (hgl:GlPow gl):SimP Tryz.prog gl 169 fun args=>(qSl args).run:=by
 refine SimP.of_tree (G:=ofL [(184,.pure qJW),(185,.pure qoL),(186,.store D_WB),(154,.store (qxR 5))]) (L:=qVD) qaj (qag (qQz gl) (qag (qFn hgl) (qdw (qZ6 gl) (qdw (sim_String gl) qaf)))) qai Tryz.func169 rfl (by rfl) (by kernel_rfl) (qil (r:=9) (c1:=qQr) (by kernel_rfl) ?_) ?_
 ·intro fr σ e fr' σ' hh;simp only [lps,qVD,if_true] at hh;exact qlP (qQo gl) fr σ e fr' σ' hh
 intro args x h hr;unfold qSl at h
 split at h
 ·rename_i k n s;cases h
  refine Tr.run_as (.ite (iNe (qbe k n s) 0) (.ret (.tup [.str [],.int .i64 (qbe k n s)])) (.ite (iEq k 1) (.ite (iEq 10 10) (.ret (.tup [.str (qOM n),.int .i64 0])) .fail) (.ite (iEq 0 0) (.ite (iEq (sLen s) (sLen s)) (.ite (iLe (sLen s) 256) (.ite (qas (qad (symH s)) [[.int .u8 34]] 1) (.ite (qan (qad (symH s)) 1) (.ite (nEq (nLen (symH s)) (nXs (qad (symH s)))) (.ite (qc5 (xApp (qad (symH s)) [[.int .u8 34]])) (.ite (bNot (xNil (xApp (qad (symH s)) [[.int .u8 34]]))) (.ite (nEq (nXs (xApp (qad (symH s)) [[.int .u8 34]])) (nXs (xApp (qad (symH s)) [[.int .u8 34]]))) (.ite true (.ret (.tup [.str (qbW (xApp (qad (symH s)) [[.int .u8 34]])),.int .i64 0])) .fail) .fail) .fail) .fail) .fail) .fail) .fail) .fail) .fail) .fail))) (by kernel_rfl) ?_
  rw [qIe];cases hI:isV k n s with
  |false=>simp [qe9,hI]
  |true =>
   by_cases hk:k=1
   ·subst hk;simp [qe9,hI]
   ·have h2:s.length≤256:=by
     unfold isV at hI;simp at hI;omega
    have e3:([[PV.int .u8 34]]:List (List PV))=qad [34]:=rfl;have hs:=qDo s;have hl:(symH s).length=1+(symB s).length:=by simp [symH];omega
    have e4:qas (qad (symH s)) (qad [34]) 1=true:=qg3 (by simp;omega)
    have e5:symV s=symH s++[34]:=by simp [symV,symH]
    have e6:¬ (symH s++[34]=[]):=by simp
    rw [e3];simp [qe9,hI,hk,qnz,e4,e5,qdL,-qSi,-qYQ];exact⟨by omega,by simp [qad]⟩
 ·cases h
end Go.Pv
set_option maxHeartbeats 4000000
set_option maxRecDepth 200000
set_option linter.unusedSimpArgs false
set_option linter.unusedVariables false
namespace Go.Pv
open Go Go.Proofs Go.RowKit
theorem qen {c k:UInt8} (h:c≠k):iEq (c.toNat:Int) (k.toNat:Int)=false:=by
 simp only [qBP,decide_eq_false_iff_not];intro e;exact h (UInt8.toNat_inj.1 (by omega))
theorem qkf {c k:UInt8} (h:c=k):iEq (c.toNat:Int) (k.toNat:Int)=true:=by
 subst h;simp
theorem qY7 (s:qU) (n:Int):0≤sAt s n∧sAt s n < 256:=by
 have:=(s.getD n.toNat 0).toNat_lt;simp only [qVC];omega
theorem qVq:∀ (l:qU) (c i:Int),0≤i→i+l.length≤16→0≤dv l c i∧dv l c i≤16
 |[],c,i,h,hl=>by simp [dv]
 |b::l,c,i,h,hl=>by
  have:=qVq l c (i+1) (by omega) (by simp at hl;omega)
  unfold dv;split
  ·simp at hl;omega
  ·exact this
theorem qMr (c:Int):0≤digV c∧digV c≤16:=qVq hexL c 0 (by omega) (by decide)
theorem qTV {a b:Int} (ha:0≤a∧a≤16) (hb:0≤b∧b≤16):0≤iOr .u8 (iShl .u8 a 4) b∧iOr .u8 (iShl .u8 a 4) b < 256:=by
 have key:∀ (x y:Fin 17),0≤iOr .u8 (iShl .u8 (x.val:Int) 4) (y.val:Int)∧iOr .u8 (iShl .u8 (x.val:Int) 4) (y.val:Int) < 256:=by decide +kernel
 have:=key ⟨a.toNat,by omega⟩ ⟨b.toNat,by omega⟩
 have e1:((a.toNat:Nat):Int)=a:=by omega
 have e2:((b.toNat:Nat):Int)=b:=by omega
 rwa [e1,e2] at this
theorem qLr (s:qU):0≤escB s∧escB s < 256:=by
 have h1:=qY7 s 0;have h2:=qTV (qMr (sAt s 1)) (qMr (sAt s 2));unfold escB
 repeat' split
 all_goals first|exact h1|exact h2|omega
theorem qMa (s:qU):0≤escN s∧escN s≤s.length:=by
 unfold escN;by_cases h:s=[]
 ·simp [h]
 ·have:=List.length_pos_iff.2 h
  repeat' split
  all_goals omega
def decP (s:qU):Option (List UInt8):=match s with
 |[]=>some []
 |c::t=>if c=92 then (if escN t=0 then none else (decP (t.drop (escN t).toNat)).map (UInt8.ofNat (escB t).toNat::·)) else (decP t).map (c::·)
 termination_by s.length
 decreasing_by all_goals (simp;try omega)
def qAS (s:qU):Bool:=(decP s).isSome
def decV (s:qU):qU:=(decP s).getD []
def decL (s:qU):Nat:=match s with
 |[]=>0
 |c::t=>if c=92 then (if escN t=0 then 0 else decL (t.drop (escN t).toNat)+1) else decL t+1
 termination_by s.length
 decreasing_by all_goals (simp;try omega)
def badL (s:qU):Nat:=decL s
def qGl:List PV→Tr PV
 |[.str s]=>Tr.chk (qoQ s) (.ite (qAS s) (.ret (.tup [.sl (qad (decV s)) .non,.bool true])) (.ret (.tup [.sl [] .non,.bool false])))
 |_=>.fail
def qD4:List PV→Store→Option (List UInt8)
 |[.str s,.sl [] .full],⟨[],[],[]⟩=>some s
 |_,_=>none
def qMD:qU→Tr (PExit×List (Nat×PV)×Store)
 |s=>Tr.chk (qoQ s) (.ite (qAS s) (.ite (sEq (decV s) []) (.ret (.exit 0,[(4,.sl [] .full)],⟨[],[],[]⟩)) (.ret (.exit 0,[(4,.sl (qad (decV s)) (.tok 0))],⟨[],[(nLen (decV s),1,5)],[]⟩))) (.ite (nEq (badL s) 0) (.ret (.ret,[(2,.sl [] .full),(3,.bool false)],⟨[],[],[]⟩)) (.ret (.ret,[(2,.sl [] .full),(3,.bool false)],⟨[],[(badL s,1,5)],[]⟩))))
def qLR:LpsT:=fun r fr σ=>if r=2 then oracle 32 [0,4] qD4 qMD fr σ else .fail
def qwp:Code:=qRj Tryz.f195 0
theorem qKQ (gl : Gl) : ∀ vs σ a e out σ', qD4 vs σ = some a → (qMD a).run = some (e, out, σ') → LDoes Tryz.prog gl qwp (mk 32 ([0, 4].zip vs)) σ e (mk 32 out) σ' := by
  intro vs st a e out σ' hd hr
  unfold qD4 at hd
  split at hd
  · rename_i s
    injection hd with hd
    subst hd
    obtain ⟨hlen, hr⟩ := Tr.chk_some hr
    simp at hlen
    have hG : qal Tryz.prog gl (gam (ofL [(202, .pure qvw)])) := qag (qBF gl) qaf
    have key : ∀ (k : Nat) (b s : List UInt8), s.length ≤ k → b ≠ [] → b.length + s.length ≤ 140737488355328 →
       (match decP s with
        | some x => (PExit.exit 0, [(4, PV.sl (qad (b ++ x)) (.tok 0))], (⟨[], [(nLen (b ++ x), 1, 5)], []⟩ : Store))
        | none => (.ret, [(2, .sl [] .full), (3, .bool false)], ⟨[], [(b.length + decL s, 1, 5)], []⟩)) = (e, out, σ') →
       LDoes Tryz.prog gl qwp (mk 32 ([0, 4].zip [.str s, .sl (qad b) (.tok 0)])) ⟨[], [(nLen b, 1, 5)], []⟩ e (mk 32 out) σ' := by
      intro k
      have base : ∀ (b : List UInt8), b ≠ [] → (PExit.exit 0, [(4, PV.sl (qad b) (.tok 0))], (⟨[], [(nLen b, 1, 5)], []⟩ : Store)) = (e, out, σ') →
         LDoes Tryz.prog gl qwp (mk 32 ([0, 4].zip [.str [], .sl (qad b) (.tok 0)])) ⟨[], [(nLen b, 1, 5)], []⟩ e (mk 32 out) σ' := by
        intro b hb h
        cases h
        refine LDoes.round qaj hG qai (L := fun _ _ _ => .fail) (qab (by kernel_rfl)) (by kernel_rfl) ?_
        refine Tr.all_as (.ite (sNe [] []) (.ite (qaF [] 0) (.ite (qbk (qax 1) true (nNat 1) (nLen []) (nLen [])) (.ite (iEq (sAt [] 0) 92) (.ite (iEq (escN (sSub [] (nNat 1) (nLen []))) 0) (.ret (.ret,[3,2,22,15,9],[.str (sSub [] (nNat 1) (nLen [])),.top,.sl [] .full,.bool false,.sl (qad b) (.tok 0),.int .u8 (sAt [] 0),.int .u8 (escB (sSub [] (nNat 1) (nLen []))),.int .i64 (escN (sSub [] (nNat 1) (nLen []))),.str [],.bool true,.str [],.int .u8 (sAt [] 0),.str [],.str (sSub [] (nNat 1) (nLen [])),.int .u8 (sAt [] 0),.bool true,.tup [.int .u8 (escB (sSub [] (nNat 1) (nLen []))),.int .i64 (escN (sSub [] (nNat 1) (nLen [])))],.str (sSub [] (nNat 1) (nLen [])),.tup [.int .u8 (escB (sSub [] (nNat 1) (nLen []))),.int .i64 (escN (sSub [] (nNat 1) (nLen [])))],.int .u8 (escB (sSub [] (nNat 1) (nLen []))),.int .i64 (escN (sSub [] (nNat 1) (nLen []))),.int .i64 (escN (sSub [] (nNat 1) (nLen []))),.bool true,.top,.top,.top,.top,.top,.top,.top,.top,.top],Store.mk [] [(nLen b,1,5)] [])) (.ite (qbk (qax (escN (sSub [] (nNat 1) (nLen [])))) true (nNat (escN (sSub [] (nNat 1) (nLen [])))) (nLen (sSub [] (nNat 1) (nLen []))) (nLen (sSub [] (nNat 1) (nLen [])))) (.ite (qas (qad b) [[.int .u8 (escB (sSub [] (nNat 1) (nLen [])))]] 1) (.ite (qap [[.int .u8 (escB (sSub [] (nNat 1) (nLen [])))]] 1) (.ite (qan (qad b) 1) (.ite (nEq (nLen b) (nXs (qad b))) (.ret (.normal,[29,22,15,9],[.str (sSub (sSub [] (nNat 1) (nLen [])) (nNat (escN (sSub [] (nNat 1) (nLen [])))) (nLen (sSub [] (nNat 1)
          (nLen [])))),.top,.top,.top,.sl (xApp (qad b) [[.int .u8 (escB (sSub [] (nNat 1) (nLen [])))]]) (.tok 0),.int .u8 (escB (sSub [] (nNat 1) (nLen []))),.int .u8 (escB (sSub [] (nNat 1) (nLen []))),.int .i64 (escN (sSub [] (nNat 1) (nLen []))),.str [],.bool true,.str [],.int .u8 (sAt [] 0),.str [],.str (sSub [] (nNat 1) (nLen [])),.int .u8 (sAt [] 0),.bool true,.tup [.int .u8 (escB (sSub [] (nNat 1) (nLen []))),.int .i64 (escN (sSub [] (nNat 1) (nLen [])))],.str (sSub [] (nNat 1) (nLen [])),.tup [.int .u8 (escB (sSub [] (nNat 1) (nLen []))),.int .i64 (escN (sSub [] (nNat 1) (nLen [])))],.int .u8 (escB (sSub [] (nNat 1) (nLen []))),.int .i64 (escN (sSub [] (nNat 1) (nLen []))),.int .i64 (escN (sSub [] (nNat 1) (nLen []))),.bool false,.int .u8 (escB (sSub [] (nNat 1) (nLen []))),.str (sSub [] (nNat 1) (nLen [])),.int .i64 (escN (sSub [] (nNat 1) (nLen []))),.str (sSub (sSub [] (nNat 1) (nLen [])) (nNat (escN (sSub [] (nNat 1) (nLen [])))) (nLen (sSub [] (nNat 1) (nLen [])))),.sl (qad b) (.tok 0),.int .u8 (escB (sSub [] (nNat 1) (nLen []))),.sl [[.int .u8 (escB (sSub [] (nNat 1) (nLen [])))]] .full,.sl (xApp (qad b) [[.int .u8 (escB (sSub [] (nNat 1) (nLen [])))]]) (.tok 0),.top],Store.mk [] [(nXs (xApp (qad b) [[.int .u8 (escB (sSub [] (nNat 1) (nLen [])))]]),1,5)] [])) .fail) .fail) .fail) .fail) .fail)) (.ite (qas (qad b) [[.int .u8 (sAt [] 0)]] 1) (.ite (qap [[.int .u8 (sAt [] 0)]] 1) (.ite (qan (qad b) 1) (.ite (nEq (nLen b) (nXs (qad b)))
          (.ret (.normal,[29,15,9],[.str (sSub [] (nNat 1) (nLen [])),.top,.top,.top,.sl (xApp (qad b) [[.int .u8 (sAt [] 0)]]) (.tok 0),.int .u8 (sAt [] 0),.top,.top,.str [],.bool true,.str [],.int .u8 (sAt [] 0),.str [],.str (sSub [] (nNat 1) (nLen [])),.int .u8 (sAt [] 0),.bool false,.top,.top,.top,.top,.top,.top,.top,.top,.top,.top,.top,.sl (qad b) (.tok 0),.int .u8 (sAt [] 0),.sl [[.int .u8 (sAt [] 0)]] .full,.sl (xApp (qad b) [[.int .u8 (sAt [] 0)]]) (.tok 0),.top],Store.mk [] [(nXs (xApp (qad b) [[.int .u8 (sAt [] 0)]]),1,5)] [])) .fail) .fail) .fail) .fail)) .fail) .fail) (.ret (.exit 0,[9],[.str [],.top,.top,.top,.sl (qad b) (.tok 0),.top,.top,.top,.str [],.bool false,.top,.top,.top,.top,.top,.top,.top,.top,.top,.top,.top,.top,.top,.top,.top,.top,.top,.top,.top,.top,.top,.top],Store.mk [] [(nLen b,1,5)] []))) (by kernel_rfl) ?_
        exact ⟨fun h => by simp at h, fun h => ⟨rfl, by simp [Weak, mk, qb9, look], rfl⟩⟩
      induction k with
      | zero =>
        intro b s hk hb hbs h
        have : s = [] := by apply List.eq_nil_of_length_eq_zero; omega
        subst this
        simp [decP] at h
        exact base b hb (by simpa using h)
      | succ k ih =>
        intro b s hk hb hbs h
        cases s with
        | nil =>
          simp [decP] at h
          exact base b hb (by simpa using h)
        | cons c t =>
          have e0 : sAt (c :: t) 0 = c.toNat := by simp
          have e1 : sSub (c :: t) (nNat 1) (nLen (c :: t)) = t := by simp
          have hc := c.toNat_lt
          have e7 := qMa t
          have e8 := qLr t
          simp at hk hbs
          rw [decP, decL] at h
          refine LDoes.round qaj hG qai (L := fun _ _ _ => .fail) (qab (by kernel_rfl)) (by kernel_rfl) ?_
          refine Tr.all_as (.ite (sNe (c :: t) []) (.ite (qaF (c :: t) 0) (.ite (qbk (qax 1) true (nNat 1) (nLen (c :: t)) (nLen (c :: t))) (.ite (iEq (sAt (c :: t) 0) 92) (.ite (iEq (escN (sSub (c :: t) (nNat 1) (nLen (c :: t)))) 0) (.ret (.ret,[3,2,22,15,9],[.str (sSub (c :: t) (nNat 1) (nLen (c :: t))),.top,.sl [] .full,.bool false,.sl (qad b) (.tok 0),.int .u8 (sAt (c :: t) 0),.int .u8 (escB (sSub (c :: t) (nNat 1) (nLen (c :: t)))),.int .i64 (escN (sSub (c :: t) (nNat 1) (nLen (c :: t)))),.str (c :: t),.bool true,.str (c :: t),.int .u8 (sAt (c :: t) 0),.str (c :: t),.str (sSub (c :: t) (nNat 1) (nLen (c :: t))),.int .u8 (sAt (c :: t) 0),.bool true,.tup [.int .u8 (escB (sSub (c :: t) (nNat 1) (nLen (c :: t)))),.int .i64 (escN (sSub (c :: t) (nNat 1) (nLen (c :: t))))],.str (sSub (c :: t) (nNat 1) (nLen (c :: t))),.tup [.int .u8 (escB (sSub (c :: t) (nNat 1) (nLen (c :: t)))),.int .i64 (escN (sSub (c :: t) (nNat 1) (nLen (c :: t))))],.int .u8 (escB (sSub (c :: t) (nNat 1) (nLen (c :: t)))),.int .i64 (escN (sSub (c :: t) (nNat 1) (nLen (c :: t)))),.int .i64 (escN (sSub (c :: t) (nNat 1) (nLen (c :: t)))),.bool true,.top,.top,.top,.top,.top,.top,.top,.top,.top],Store.mk [] [(nLen b,1,5)] [])) (.ite (qbk (qax (escN (sSub (c :: t) (nNat 1) (nLen (c :: t))))) true (nNat (escN (sSub (c :: t) (nNat 1) (nLen (c :: t))))) (nLen (sSub (c :: t) (nNat 1) (nLen (c :: t)))) (nLen (sSub (c :: t) (nNat 1) (nLen (c :: t))))) (.ite (qas (qad b) [[.int .u8 (escB (sSub (c :: t) (nNat 1) (nLen (c ::
            t))))]] 1) (.ite (qap [[.int .u8 (escB (sSub (c :: t) (nNat 1) (nLen (c :: t))))]] 1) (.ite (qan (qad b) 1) (.ite (nEq (nLen b) (nXs (qad b))) (.ret (.normal,[29,22,15,9],[.str (sSub (sSub (c :: t) (nNat 1) (nLen (c :: t))) (nNat (escN (sSub (c :: t) (nNat 1) (nLen (c :: t))))) (nLen (sSub (c :: t) (nNat 1) (nLen (c :: t))))),.top,.top,.top,.sl (xApp (qad b) [[.int .u8 (escB (sSub (c :: t) (nNat 1) (nLen (c :: t))))]]) (.tok 0),.int .u8 (escB (sSub (c :: t) (nNat 1) (nLen (c :: t)))),.int .u8 (escB (sSub (c :: t) (nNat 1) (nLen (c :: t)))),.int .i64 (escN (sSub (c :: t) (nNat 1) (nLen (c :: t)))),.str (c :: t),.bool true,.str (c :: t),.int .u8 (sAt (c :: t) 0),.str (c :: t),.str (sSub (c :: t) (nNat 1) (nLen (c :: t))),.int .u8 (sAt (c :: t) 0),.bool true,.tup [.int .u8 (escB (sSub (c :: t) (nNat 1) (nLen (c :: t)))),.int .i64 (escN (sSub (c :: t) (nNat 1) (nLen (c :: t))))],.str (sSub (c :: t) (nNat 1) (nLen (c :: t))),.tup [.int .u8 (escB (sSub (c :: t) (nNat 1) (nLen (c :: t)))),.int .i64 (escN (sSub (c :: t) (nNat 1) (nLen (c :: t))))],.int .u8 (escB (sSub (c :: t) (nNat 1) (nLen (c :: t)))),.int .i64 (escN (sSub (c :: t) (nNat 1) (nLen (c :: t)))),.int .i64 (escN (sSub (c :: t) (nNat 1) (nLen (c :: t)))),.bool false,.int .u8 (escB (sSub (c :: t) (nNat 1) (nLen (c :: t)))),.str (sSub (c :: t) (nNat 1) (nLen (c :: t))),.int .i64 (escN (sSub (c :: t) (nNat 1) (nLen (c :: t)))),.str (sSub (sSub (c :: t) (nNat 1) (nLen (c :: t))) (nNat (escN (sSub (c :: t)
            (nNat 1) (nLen (c :: t))))) (nLen (sSub (c :: t) (nNat 1) (nLen (c :: t))))),.sl (qad b) (.tok 0),.int .u8 (escB (sSub (c :: t) (nNat 1) (nLen (c :: t)))),.sl [[.int .u8 (escB (sSub (c :: t) (nNat 1) (nLen (c :: t))))]] .full,.sl (xApp (qad b) [[.int .u8 (escB (sSub (c :: t) (nNat 1) (nLen (c :: t))))]]) (.tok 0),.top],Store.mk [] [(nXs (xApp (qad b) [[.int .u8 (escB (sSub (c :: t) (nNat 1) (nLen (c :: t))))]]),1,5)] [])) .fail) .fail) .fail) .fail) .fail)) (.ite (qas (qad b) [[.int .u8 (sAt (c :: t) 0)]] 1) (.ite (qap [[.int .u8 (sAt (c :: t) 0)]] 1) (.ite (qan (qad b) 1) (.ite (nEq (nLen b) (nXs (qad b))) (.ret (.normal,[29,15,9],[.str (sSub (c :: t) (nNat 1) (nLen (c :: t))),.top,.top,.top,.sl (xApp (qad b) [[.int .u8 (sAt (c :: t) 0)]]) (.tok 0),.int .u8 (sAt (c :: t) 0),.top,.top,.str (c :: t),.bool true,.str (c :: t),.int .u8 (sAt (c :: t) 0),.str (c :: t),.str (sSub (c :: t) (nNat 1) (nLen (c :: t))),.int .u8 (sAt (c :: t) 0),.bool false,.top,.top,.top,.top,.top,.top,.top,.top,.top,.top,.top,.sl (qad b) (.tok 0),.int .u8 (sAt (c :: t) 0),.sl [[.int .u8 (sAt (c :: t) 0)]] .full,.sl (xApp (qad b) [[.int .u8 (sAt (c :: t) 0)]]) (.tok 0),.top],Store.mk [] [(nXs (xApp (qad b) [[.int .u8 (sAt (c :: t) 0)]]),1,5)] [])) .fail) .fail) .fail) .fail)) .fail) .fail) (.ret (.exit 0,[9],[.str (c :: t),.top,.top,.top,.sl (qad b) (.tok 0),.top,.top,.top,.str (c :: t),.bool
            false,.top,.top,.top,.top,.top,.top,.top,.top,.top,.top,.top,.top,.top,.top,.top,.top,.top,.top,.top,.top,.top,.top],Store.mk [] [(nLen b,1,5)] []))) (by kernel_rfl) ?_
          rw [e1, e0, qlU b (n := (c.toNat : Int)) (by omega), qlU b e8, Int.toNat_natCast, UInt8.ofNat_toNat]
          simp only [qdL]
          refine Tr.all_t (by simp) <| Tr.all_t (by simp) <| Tr.all_t (by simp) ?_
          by_cases h92 : c = 92
          · subst h92
            refine Tr.all_t (by simp) ?_
            by_cases hn : escN t = 0
            · simp [hn] at h
              obtain ⟨rfl, rfl, rfl⟩ := h
              exact Tr.all_t (by simp [hn]) ⟨rfl, by simp [Weak, mk, qb9, look], rfl⟩
            · refine Tr.all_f (by simp [hn]) <| Tr.all_t (by simp; omega) <| Tr.all_t (by simp; omega) <| Tr.all_t (by simp [one]) <| Tr.all_t (qcB _) <| Tr.all_t (by simp) ?_
              refine LDoes.into ?_ (ih (b ++ [UInt8.ofNat (escB t).toNat]) (t.drop (escN t).toNat) (by simp; omega) (by simp) (by simp; omega) ?_)
              · simp [Weak, mk, qb9, look]
              · simp [hn] at h
                rw [← h]
                cases hd : decP (t.drop (escN t).toNat) with
                | none => simp; omega
                | some x => simp
          · refine Tr.all_f (qen (k := 92) h92) <| Tr.all_t (by simp; omega) <| Tr.all_t (by simp [one]) <| Tr.all_t (qcB _) <| Tr.all_t (by simp) ?_
            refine LDoes.into ?_ (ih (b ++ [c]) t (by omega) (by simp) (by simp; omega) ?_)
            · simp [Weak, mk, qb9, look]
            · simp [h92] at h
              rw [← h]
              cases hd : decP t with
              | none => simp; omega
              | some x => simp
    cases s with
    | nil =>
      simp [qAS, decV, decP] at hr
      obtain ⟨rfl, rfl, rfl⟩ := hr
      refine LDoes.round qaj hG qai (L := fun _ _ _ => .fail) (qab (by kernel_rfl)) (by kernel_rfl) ?_
      refine Tr.all_as (.ite (sNe [] []) (.ite (qaF [] 0) (.ite (qbk (qax 1) true (nNat 1) (nLen []) (nLen [])) (.ite (iEq (sAt [] 0) 92) (.ite (iEq (escN (sSub [] (nNat 1) (nLen []))) 0) (.ret (.ret,[3,2,22,15,9],[.str (sSub [] (nNat 1) (nLen [])),.top,.sl [] .full,.bool false,.sl [] .full,.int .u8 (sAt [] 0),.int .u8 (escB (sSub [] (nNat 1) (nLen []))),.int .i64 (escN (sSub [] (nNat 1) (nLen []))),.str [],.bool true,.str [],.int .u8 (sAt [] 0),.str [],.str (sSub [] (nNat 1) (nLen [])),.int .u8 (sAt [] 0),.bool true,.tup [.int .u8 (escB (sSub [] (nNat 1) (nLen []))),.int .i64 (escN (sSub [] (nNat 1) (nLen [])))],.str (sSub [] (nNat 1) (nLen [])),.tup [.int .u8 (escB (sSub [] (nNat 1) (nLen []))),.int .i64 (escN (sSub [] (nNat 1) (nLen [])))],.int .u8 (escB (sSub [] (nNat 1) (nLen []))),.int .i64 (escN (sSub [] (nNat 1) (nLen []))),.int .i64 (escN (sSub [] (nNat 1) (nLen []))),.bool true,.top,.top,.top,.top,.top,.top,.top,.top,.top],Store.mk [] [] [])) (.ite (qbk (qax (escN (sSub [] (nNat 1) (nLen [])))) true (nNat (escN (sSub [] (nNat 1) (nLen [])))) (nLen (sSub [] (nNat 1) (nLen []))) (nLen (sSub [] (nNat 1) (nLen [])))) (.ite (qas [] [[.int .u8 (escB (sSub [] (nNat 1) (nLen [])))]] 1) (.ite (qap [[.int .u8 (escB (sSub [] (nNat 1) (nLen [])))]] 1) (.ite (qan [] 1) (.ret (.normal,[29,22,15,9],[.str (sSub (sSub [] (nNat 1) (nLen [])) (nNat (escN (sSub [] (nNat 1) (nLen [])))) (nLen (sSub [] (nNat 1) (nLen [])))),.top,.top,.top,.sl (xApp [] [[.int .u8 (escB (sSub [] (nNat 1) (nLen
        [])))]]) (.tok 0),.int .u8 (escB (sSub [] (nNat 1) (nLen []))),.int .u8 (escB (sSub [] (nNat 1) (nLen []))),.int .i64 (escN (sSub [] (nNat 1) (nLen []))),.str [],.bool true,.str [],.int .u8 (sAt [] 0),.str [],.str (sSub [] (nNat 1) (nLen [])),.int .u8 (sAt [] 0),.bool true,.tup [.int .u8 (escB (sSub [] (nNat 1) (nLen []))),.int .i64 (escN (sSub [] (nNat 1) (nLen [])))],.str (sSub [] (nNat 1) (nLen [])),.tup [.int .u8 (escB (sSub [] (nNat 1) (nLen []))),.int .i64 (escN (sSub [] (nNat 1) (nLen [])))],.int .u8 (escB (sSub [] (nNat 1) (nLen []))),.int .i64 (escN (sSub [] (nNat 1) (nLen []))),.int .i64 (escN (sSub [] (nNat 1) (nLen []))),.bool false,.int .u8 (escB (sSub [] (nNat 1) (nLen []))),.str (sSub [] (nNat 1) (nLen [])),.int .i64 (escN (sSub [] (nNat 1) (nLen []))),.str (sSub (sSub [] (nNat 1) (nLen [])) (nNat (escN (sSub [] (nNat 1) (nLen [])))) (nLen (sSub [] (nNat 1) (nLen [])))),.sl [] .full,.int .u8 (escB (sSub [] (nNat 1) (nLen []))),.sl [[.int .u8 (escB (sSub [] (nNat 1) (nLen [])))]] .full,.sl (xApp [] [[.int .u8 (escB (sSub [] (nNat 1) (nLen [])))]]) (.tok 0),.top],Store.mk [] [(nXs (xApp [] [[.int .u8 (escB (sSub [] (nNat 1) (nLen [])))]]),1,5)] [])) .fail) .fail) .fail) .fail)) (.ite (qas [] [[.int .u8 (sAt [] 0)]] 1) (.ite (qap [[.int .u8 (sAt [] 0)]] 1) (.ite (qan [] 1) (.ret (.normal,[29,15,9],[.str (sSub [] (nNat 1) (nLen [])),.top,.top,.top,.sl (xApp [] [[.int .u8 (sAt [] 0)]]) (.tok 0),.int .u8 (sAt [] 0),.top,.top,.str [],.bool true,.str [],.int
        .u8 (sAt [] 0),.str [],.str (sSub [] (nNat 1) (nLen [])),.int .u8 (sAt [] 0),.bool false,.top,.top,.top,.top,.top,.top,.top,.top,.top,.top,.top,.sl [] .full,.int .u8 (sAt [] 0),.sl [[.int .u8 (sAt [] 0)]] .full,.sl (xApp [] [[.int .u8 (sAt [] 0)]]) (.tok 0),.top],Store.mk [] [(nXs (xApp [] [[.int .u8 (sAt [] 0)]]),1,5)] [])) .fail) .fail) .fail)) .fail) .fail) (.ret (.exit 0,[9],[.str [],.top,.top,.top,.sl [] .full,.top,.top,.top,.str [],.bool false,.top,.top,.top,.top,.top,.top,.top,.top,.top,.top,.top,.top,.top,.top,.top,.top,.top,.top,.top,.top,.top,.top],Store.mk [] [] []))) (by kernel_rfl) ?_
      exact ⟨fun h => by simp at h, fun h => ⟨rfl, by simp [Weak, mk, qb9, look], rfl⟩⟩
    | cons c t =>
      have e0 : sAt (c :: t) 0 = c.toNat := by simp
      have e1 : sSub (c :: t) (nNat 1) (nLen (c :: t)) = t := by simp
      have hc := c.toNat_lt
      have e7 := qMa t
      have e8 := qLr t
      simp at hlen
      simp only [qAS, decV, badL] at hr
      rw [decP, decL] at hr
      have x1 : xApp [] [[.int .u8 (c.toNat : Int)]] = qad [c] := by simp [qad]
      have x2 : xApp [] [[.int .u8 (escB t)]] = qad [UInt8.ofNat (escB t).toNat] := qlU [] e8
      refine LDoes.round qaj hG qai (L := fun _ _ _ => .fail) (qab (by kernel_rfl)) (by kernel_rfl) ?_
      refine Tr.all_as (.ite (sNe (c :: t) []) (.ite (qaF (c :: t) 0) (.ite (qbk (qax 1) true (nNat 1) (nLen (c :: t)) (nLen (c :: t))) (.ite (iEq (sAt (c :: t) 0) 92) (.ite (iEq (escN (sSub (c :: t) (nNat 1) (nLen (c :: t)))) 0) (.ret (.ret,[3,2,22,15,9],[.str (sSub (c :: t) (nNat 1) (nLen (c :: t))),.top,.sl [] .full,.bool false,.sl [] .full,.int .u8 (sAt (c :: t) 0),.int .u8 (escB (sSub (c :: t) (nNat 1) (nLen (c :: t)))),.int .i64 (escN (sSub (c :: t) (nNat 1) (nLen (c :: t)))),.str (c :: t),.bool true,.str (c :: t),.int .u8 (sAt (c :: t) 0),.str (c :: t),.str (sSub (c :: t) (nNat 1) (nLen (c :: t))),.int .u8 (sAt (c :: t) 0),.bool true,.tup [.int .u8 (escB (sSub (c :: t) (nNat 1) (nLen (c :: t)))),.int .i64 (escN (sSub (c :: t) (nNat 1) (nLen (c :: t))))],.str (sSub (c :: t) (nNat 1) (nLen (c :: t))),.tup [.int .u8 (escB (sSub (c :: t) (nNat 1) (nLen (c :: t)))),.int .i64 (escN (sSub (c :: t) (nNat 1) (nLen (c :: t))))],.int .u8 (escB (sSub (c :: t) (nNat 1) (nLen (c :: t)))),.int .i64 (escN (sSub (c :: t) (nNat 1) (nLen (c :: t)))),.int .i64 (escN (sSub (c :: t) (nNat 1) (nLen (c :: t)))),.bool true,.top,.top,.top,.top,.top,.top,.top,.top,.top],Store.mk [] [] [])) (.ite (qbk (qax (escN (sSub (c :: t) (nNat 1) (nLen (c :: t))))) true (nNat (escN (sSub (c :: t) (nNat 1) (nLen (c :: t))))) (nLen (sSub (c :: t) (nNat 1) (nLen (c :: t)))) (nLen (sSub (c :: t) (nNat 1) (nLen (c :: t))))) (.ite (qas [] [[.int .u8 (escB (sSub (c :: t) (nNat 1) (nLen (c :: t))))]] 1) (.ite (qap [[.int
        .u8 (escB (sSub (c :: t) (nNat 1) (nLen (c :: t))))]] 1) (.ite (qan [] 1) (.ret (.normal,[29,22,15,9],[.str (sSub (sSub (c :: t) (nNat 1) (nLen (c :: t))) (nNat (escN (sSub (c :: t) (nNat 1) (nLen (c :: t))))) (nLen (sSub (c :: t) (nNat 1) (nLen (c :: t))))),.top,.top,.top,.sl (xApp [] [[.int .u8 (escB (sSub (c :: t) (nNat 1) (nLen (c :: t))))]]) (.tok 0),.int .u8 (escB (sSub (c :: t) (nNat 1) (nLen (c :: t)))),.int .u8 (escB (sSub (c :: t) (nNat 1) (nLen (c :: t)))),.int .i64 (escN (sSub (c :: t) (nNat 1) (nLen (c :: t)))),.str (c :: t),.bool true,.str (c :: t),.int .u8 (sAt (c :: t) 0),.str (c :: t),.str (sSub (c :: t) (nNat 1) (nLen (c :: t))),.int .u8 (sAt (c :: t) 0),.bool true,.tup [.int .u8 (escB (sSub (c :: t) (nNat 1) (nLen (c :: t)))),.int .i64 (escN (sSub (c :: t) (nNat 1) (nLen (c :: t))))],.str (sSub (c :: t) (nNat 1) (nLen (c :: t))),.tup [.int .u8 (escB (sSub (c :: t) (nNat 1) (nLen (c :: t)))),.int .i64 (escN (sSub (c :: t) (nNat 1) (nLen (c :: t))))],.int .u8 (escB (sSub (c :: t) (nNat 1) (nLen (c :: t)))),.int .i64 (escN (sSub (c :: t) (nNat 1) (nLen (c :: t)))),.int .i64 (escN (sSub (c :: t) (nNat 1) (nLen (c :: t)))),.bool false,.int .u8 (escB (sSub (c :: t) (nNat 1) (nLen (c :: t)))),.str (sSub (c :: t) (nNat 1) (nLen (c :: t))),.int .i64 (escN (sSub (c :: t) (nNat 1) (nLen (c :: t)))),.str (sSub (sSub (c :: t) (nNat 1) (nLen (c :: t))) (nNat (escN (sSub (c :: t) (nNat 1) (nLen (c :: t))))) (nLen (sSub (c :: t) (nNat 1) (nLen (c :: t))))),.sl []
        .full,.int .u8 (escB (sSub (c :: t) (nNat 1) (nLen (c :: t)))),.sl [[.int .u8 (escB (sSub (c :: t) (nNat 1) (nLen (c :: t))))]] .full,.sl (xApp [] [[.int .u8 (escB (sSub (c :: t) (nNat 1) (nLen (c :: t))))]]) (.tok 0),.top],Store.mk [] [(nXs (xApp [] [[.int .u8 (escB (sSub (c :: t) (nNat 1) (nLen (c :: t))))]]),1,5)] [])) .fail) .fail) .fail) .fail)) (.ite (qas [] [[.int .u8 (sAt (c :: t) 0)]] 1) (.ite (qap [[.int .u8 (sAt (c :: t) 0)]] 1) (.ite (qan [] 1) (.ret (.normal,[29,15,9],[.str (sSub (c :: t) (nNat 1) (nLen (c :: t))),.top,.top,.top,.sl (xApp [] [[.int .u8 (sAt (c :: t) 0)]]) (.tok 0),.int .u8 (sAt (c :: t) 0),.top,.top,.str (c :: t),.bool true,.str (c :: t),.int .u8 (sAt (c :: t) 0),.str (c :: t),.str (sSub (c :: t) (nNat 1) (nLen (c :: t))),.int .u8 (sAt (c :: t) 0),.bool false,.top,.top,.top,.top,.top,.top,.top,.top,.top,.top,.top,.sl [] .full,.int .u8 (sAt (c :: t) 0),.sl [[.int .u8 (sAt (c :: t) 0)]] .full,.sl (xApp [] [[.int .u8 (sAt (c :: t) 0)]]) (.tok 0),.top],Store.mk [] [(nXs (xApp [] [[.int .u8 (sAt (c :: t) 0)]]),1,5)] [])) .fail) .fail) .fail)) .fail) .fail) (.ret (.exit 0,[9],[.str (c :: t),.top,.top,.top,.sl [] .full,.top,.top,.top,.str (c :: t),.bool false,.top,.top,.top,.top,.top,.top,.top,.top,.top,.top,.top,.top,.top,.top,.top,.top,.top,.top,.top,.top,.top,.top],Store.mk [] [] []))) (by kernel_rfl) ?_
      rw [e1, e0, x1, x2]
      simp only [qdL]
      refine Tr.all_t (by simp) <| Tr.all_t (by simp) <| Tr.all_t (by simp) ?_
      by_cases h92 : c = 92
      · subst h92
        refine Tr.all_t (by simp) ?_
        by_cases hn : escN t = 0
        · simp [hn] at hr
          obtain ⟨rfl, rfl, rfl⟩ := hr
          exact Tr.all_t (by simp [hn]) ⟨rfl, by simp [Weak, mk, qb9, look], rfl⟩
        · refine Tr.all_f (by simp [hn]) <| Tr.all_t (by simp; omega) <| Tr.all_t (by simp) <| Tr.all_t (by simp [one]) <| Tr.all_t (by simp) ?_
          refine LDoes.into ?_ (key t.length ([UInt8.ofNat (escB t).toNat]) (t.drop (escN t).toNat) (by simp) (by simp) (by simp; omega) ?_)
          · simp [Weak, mk, qb9, look]
          · cases hd : decP (t.drop (escN t).toNat) with
            | none =>
              simp [hn, hd] at hr ⊢
              rw [Nat.add_comm]
              exact hr
            | some x =>
              simp [hn, hd] at hr ⊢
              exact hr
      · refine Tr.all_f (qen (k := 92) h92) <| Tr.all_t (by simp) <| Tr.all_t (by simp [one]) <| Tr.all_t (by simp) ?_
        refine LDoes.into ?_ (key t.length [c] t (by omega) (by simp) (by simp; omega) ?_)
        · simp [Weak, mk, qb9, look]
        · cases hd : decP t with
          | none =>
            simp [h92, hd] at hr ⊢
            rw [Nat.add_comm]
            exact hr
          | some x =>
            simp [h92, hd] at hr ⊢
            exact hr
  · cases hd
theorem qOh (gl:Gl):SimP Tryz.prog gl 195 fun args=>(qGl args).run:=by
 refine SimP.of_tree (G:=ofL [(202,.pure qvw)]) (L:=qLR) qaj (qag (qBF gl) qaf) qai Tryz.func195 rfl (by rfl) (by kernel_rfl) (qil (r:=2) (c1:=qwp) (by kernel_rfl) ?_) ?_
 ·intro fr σ e fr' σ' hh;simp only [lps,qLR,if_true] at hh;exact qlP (qKQ gl) fr σ e fr' σ' hh
 intro args x h hr;unfold qGl at h
 split at h
 ·rename_i s;obtain⟨h1,h2⟩:=Tr.chk_some h;refine Tr.run_as (.ite (qoQ s) (.ite (qAS s) (.ite (sEq (decV s) []) (.ret (.tup [.sl [] .non,.bool true])) (.ret (.tup [.sl (qaa (qad (decV s))) .non,.bool true]))) (.ite (nEq (badL s) 0) (.ret (.tup [.sl [] .non,.bool false])) (.ret (.tup [.sl [] .non,.bool false])))) .fail) (by kernel_rfl) ?_
  by_cases hd:qAS s=true
  ·by_cases he:decV s=[]
   ·simp [hd,he] at h2 ⊢;simp at h1;exact⟨h1,h2⟩
   ·simp [hd,he] at h2 ⊢;simp at h1;exact⟨h1,h2⟩
  ·by_cases he:badL s=0
   ·simp [hd,he] at h2 ⊢;simp at h1;exact⟨h1,h2⟩
   ·simp [hd,he] at h2 ⊢;simp at h1;exact⟨h1,h2⟩
 ·cases h
end Go.Pv
set_option maxHeartbeats 4000000
set_option maxRecDepth 200000
set_option linter.unusedSimpArgs false
set_option linter.unusedVariables false
namespace Go.Pv
open Go Go.Proofs Go.RowKit
def rdV (s:qU):Option (Int×Int×List UInt8) :=
 if qdP s [34]=true∧qye s [34]=true∧2≤s.length then
  match decP ((s.take (s.length - 1)).drop 1) with
  |some b=>if qbe 2 0 b=0∧qe9 2 0 b=s then some (2,0,b) else none
  |none=>none
 else if pOk s then (if qbe 1 (pVal s) []=0∧qe9 1 (pVal s) []=s then some (1,pVal s,[]) else none) else none
def kRd (s:qU):Int:=match rdV s with|some v=>v.1|none=>0
def nRd (s:qU):Int:=match rdV s with|some v=>v.2.1|none=>0
def sRd (s:qU):qU:=match rdV s with|some v=>v.2.2|none=>[]
def eRd (s:qU):Int:=match rdV s with|some _=>0|none=>10
def qBw:List PV→Tr PV
 |[.str s]=>Tr.chk (qoQ s) (.ret (.tup [.agg [.int .i64 (kRd s),.int .i64 (nRd s),.str (sRd s)],.int .i64 (eRd s)]))
 |_=>.fail
theorem qVp {gl : Gl} (hgl : GlOk gl) : SimP Tryz.prog gl 189 fun args => (qBw args).run := by
  refine SimP.of_tree (G := ofL [(177, .pure qvA), (194, .pure qFu), (195, .pure qGl), (196, .pure qtJ), (169, .pure qSl)]) (L := fun _ _ _ => .fail) qaj (qag (qCn gl) (qag (qM2 gl) (qag (qOh gl) (qag (qHj hgl) (qag (qTx hgl.toGlPow) qaf))))) qai Tryz.func189 rfl (by rfl) (by kernel_rfl) (qab (by kernel_rfl)) ?_
  intro args x h hr
  unfold qBw at h
  split at h
  · rename_i s
    obtain ⟨h1, h2⟩ := Tr.chk_some h
    refine Tr.run_as (.ite (qdP s [34]) (.ite (qye s [34]) (.ite (iLe 2 (sLen s)) (.ite (qbk (qax 1) (qax (iSub .i64 (sLen s) 1)) (nNat 1) (nNat (iSub .i64 (sLen s) 1)) (nLen s)) (.ite (qoQ (sSub s (nNat 1) (nNat (iSub .i64 (sLen s) 1)))) (.ite (qAS (sSub s (nNat 1) (nNat (iSub .i64 (sLen s) 1)))) (.ite false (.ret (.tup [.agg [.int .i64 0,.int .i64 0,.str []],.int .i64 10])) (.ite (qc5 (qad (decV (sSub s (nNat 1) (nNat (iSub .i64 (sLen s) 1)))))) (.ite (iNe (qbe 2 0 (qbW (qad (decV (sSub s (nNat 1) (nNat (iSub .i64 (sLen s) 1))))))) 0) (.ret (.tup [.agg [.int .i64 0,.int .i64 0,.str []],.int .i64 10])) (.ite (sNe (qe9 2 0 (qbW (qad (decV (sSub s (nNat 1) (nNat (iSub .i64 (sLen s) 1))))))) s) (.ret (.tup [.agg [.int .i64 0,.int .i64 0,.str []],.int .i64 10])) (.ret (.tup [.agg [.int .i64 2,.int .i64 0,.str (qbW (qad (decV (sSub s (nNat 1) (nNat (iSub .i64 (sLen s) 1))))))],.int .i64 0])))) .fail)) (.ite true (.ret (.tup [.agg [.int .i64 0,.int .i64 0,.str []],.int .i64 10])) (.ite (qc5 []) (.ite (iNe (qbe 2 0 (qbW [])) 0) (.ret (.tup [.agg [.int .i64 0,.int .i64 0,.str []],.int .i64 10])) (.ite (sNe (qe9 2 0 (qbW [])) s) (.ret (.tup [.agg [.int .i64 0,.int .i64 0,.str []],.int .i64 10])) (.ret (.tup [.agg [.int .i64 2,.int .i64 0,.str (qbW [])],.int .i64 0])))) .fail))) .fail) .fail) (.ite (iEq 10 10) (.ite (iEq 64 64) (.ite (qgL s) (.ite (pOk s) (.ite false (.ret (.tup [.agg [.int .i64 0,.int .i64 0,.str []],.int .i64
      10])) (.ite (iNe (qbe 1 (pVal s) []) 0) (.ret (.tup [.agg [.int .i64 0,.int .i64 0,.str []],.int .i64 10])) (.ite (sNe (qe9 1 (pVal s) []) s) (.ret (.tup [.agg [.int .i64 0,.int .i64 0,.str []],.int .i64 10])) (.ret (.tup [.agg [.int .i64 1,.int .i64 (pVal s),.str []],.int .i64 0]))))) (.ite true (.ret (.tup [.agg [.int .i64 0,.int .i64 0,.str []],.int .i64 10])) (.ite (iNe (qbe 1 (pVal s) []) 0) (.ret (.tup [.agg [.int .i64 0,.int .i64 0,.str []],.int .i64 10])) (.ite (sNe (qe9 1 (pVal s) []) s) (.ret (.tup [.agg [.int .i64 0,.int .i64 0,.str []],.int .i64 10])) (.ret (.tup [.agg [.int .i64 1,.int .i64 (pVal s),.str []],.int .i64 0])))))) .fail) .fail) .fail)) (.ite (iEq 10 10) (.ite (iEq 64 64) (.ite (qgL s) (.ite (pOk s) (.ite false (.ret (.tup [.agg [.int .i64 0,.int .i64 0,.str []],.int .i64 10])) (.ite (iNe (qbe 1 (pVal s) []) 0) (.ret (.tup [.agg [.int .i64 0,.int .i64 0,.str []],.int .i64 10])) (.ite (sNe (qe9 1 (pVal s) []) s) (.ret (.tup [.agg [.int .i64 0,.int .i64 0,.str []],.int .i64 10])) (.ret (.tup [.agg [.int .i64 1,.int .i64 (pVal s),.str []],.int .i64 0]))))) (.ite true (.ret (.tup [.agg [.int .i64 0,.int .i64 0,.str []],.int .i64 10])) (.ite (iNe (qbe 1 (pVal s) []) 0) (.ret (.tup [.agg [.int .i64 0,.int .i64 0,.str []],.int .i64 10])) (.ite (sNe (qe9 1 (pVal s) []) s) (.ret (.tup [.agg [.int .i64 0,.int .i64 0,.str []],.int .i64 10])) (.ret (.tup [.agg [.int .i64 1,.int .i64 (pVal s),.str []],.int .i64 0])))))) .fail) .fail)
      .fail)) (.ite (iEq 10 10) (.ite (iEq 64 64) (.ite (qgL s) (.ite (pOk s) (.ite false (.ret (.tup [.agg [.int .i64 0,.int .i64 0,.str []],.int .i64 10])) (.ite (iNe (qbe 1 (pVal s) []) 0) (.ret (.tup [.agg [.int .i64 0,.int .i64 0,.str []],.int .i64 10])) (.ite (sNe (qe9 1 (pVal s) []) s) (.ret (.tup [.agg [.int .i64 0,.int .i64 0,.str []],.int .i64 10])) (.ret (.tup [.agg [.int .i64 1,.int .i64 (pVal s),.str []],.int .i64 0]))))) (.ite true (.ret (.tup [.agg [.int .i64 0,.int .i64 0,.str []],.int .i64 10])) (.ite (iNe (qbe 1 (pVal s) []) 0) (.ret (.tup [.agg [.int .i64 0,.int .i64 0,.str []],.int .i64 10])) (.ite (sNe (qe9 1 (pVal s) []) s) (.ret (.tup [.agg [.int .i64 0,.int .i64 0,.str []],.int .i64 10])) (.ret (.tup [.agg [.int .i64 1,.int .i64 (pVal s),.str []],.int .i64 0])))))) .fail) .fail) .fail)) (by kernel_rfl) ?_
    have hl : s.length ≤ 140737488355328 := by simpa using h1
    cases h2
    have h48 : qgL s = true := by simp [qgL]; omega
    have int : (Tr.ite (iEq 10 10) (Tr.ite (iEq 64 64) (Tr.ite (qgL s) (Tr.ite (pOk s)
              (Tr.ite false (Tr.ret (PV.tup [PV.agg [PV.int IntKind.i64 0, PV.int IntKind.i64 0, PV.str []], PV.int IntKind.i64 10]))
                (Tr.ite (iNe (qbe 1 (pVal s) []) 0) (Tr.ret (PV.tup [PV.agg [PV.int IntKind.i64 0, PV.int IntKind.i64 0, PV.str []], PV.int IntKind.i64 10]))
                  (Tr.ite (sNe (qe9 1 (pVal s) []) s) (Tr.ret (PV.tup [PV.agg [PV.int IntKind.i64 0, PV.int IntKind.i64 0, PV.str []], PV.int IntKind.i64 10]))
                    (Tr.ret (PV.tup [PV.agg [PV.int IntKind.i64 1, PV.int IntKind.i64 (pVal s), PV.str []], PV.int IntKind.i64 0])))))
              (Tr.ite true (Tr.ret (PV.tup [PV.agg [PV.int IntKind.i64 0, PV.int IntKind.i64 0, PV.str []], PV.int IntKind.i64 10]))
                (Tr.ite (iNe (qbe 1 (pVal s) []) 0) (Tr.ret (PV.tup [PV.agg [PV.int IntKind.i64 0, PV.int IntKind.i64 0, PV.str []], PV.int IntKind.i64 10]))
                  (Tr.ite (sNe (qe9 1 (pVal s) []) s) (Tr.ret (PV.tup [PV.agg [PV.int IntKind.i64 0, PV.int IntKind.i64 0, PV.str []], PV.int IntKind.i64 10]))
                    (Tr.ret (PV.tup [PV.agg [PV.int IntKind.i64 1, PV.int IntKind.i64 (pVal s), PV.str []], PV.int IntKind.i64 0])))))) Tr.fail) Tr.fail) Tr.fail).run =
        some (if pOk s then (if qbe 1 (pVal s) [] = 0 ∧ qe9 1 (pVal s) [] = s then .tup [.agg [.int .i64 1, .int .i64 (pVal s), .str []], .int .i64 0] else .tup [.agg [.int .i64 0, .int .i64 0, .str []], .int .i64 10]) else .tup [.agg [.int .i64 0, .int .i64 0, .str []], .int .i64 10]) := by
      cases hp : pOk s with
      | false => simp [h48]
      | true =>
        by_cases hc : qbe 1 (pVal s) [] = 0 <;> by_cases ht : qe9 1 (pVal s) [] = s <;> simp [h48, hc, ht]
    have fin : ∀ o : Option (Int × Int × List UInt8), rdV s = o → PV.tup [.agg [.int .i64 (kRd s), .int .i64 (nRd s), .str (sRd s)], .int .i64 (eRd s)] = match o with | some v => .tup [.agg [.int .i64 v.1, .int .i64 v.2.1, .str v.2.2], .int .i64 0] | none => .tup [.agg [.int .i64 0, .int .i64 0, .str []], .int .i64 10] := by
      intro o ho
      unfold kRd nRd sRd eRd
      rw [ho]
      cases o <;> rfl
    by_cases hq : qdP s [34] = true ∧ qye s [34] = true ∧ 2 ≤ s.length
    · obtain ⟨p1, p2, p3⟩ := hq
      have e1 : sSub s (nNat 1) (nNat (iSub .i64 (sLen s) 1)) = (s.take (s.length - 1)).drop 1 := by
        have : iSub .i64 (sLen s) 1 = s.length - 1 := by unfold iSub; rw [qjb, qaP (by omega)]
        rw [this]
        simp
        try (congr 2; omega)
      have e2 : qbk (qax 1) (qax (iSub .i64 (sLen s) 1)) (nNat 1) (nNat (iSub .i64 (sLen s) 1)) (nLen s) = true := by
        have : iSub .i64 (sLen s) 1 = s.length - 1 := by unfold iSub; rw [qjb, qaP (by omega)]
        rw [this]
        simp
        omega
      have e3 : iLe 2 (sLen s) = true := by simp; omega
      rw [e1, p1, p2, e2, e3]
      have e4 : qoQ ((s.take (s.length - 1)).drop 1) = true := by simp; omega
      generalize hm : (s.take (s.length - 1)).drop 1 = m at *
      rw [e4]
      cases hd : decP m with
      | none =>
        have h5 : qAS m = false := by simp [qAS, hd]
        have := fin none (by unfold rdV; rw [if_pos ⟨p1, p2, p3⟩, hm, hd])
        rw [this]
        simp [h5]
      | some b =>
        have h5 : qAS m = true := by simp [qAS, hd]
        have h6 : decV m = b := by simp [decV, hd]
        rw [h6]
        by_cases hc : qbe 2 0 b = 0 ∧ qe9 2 0 b = s
        · have := fin (some (2, 0, b)) (by unfold rdV; rw [if_pos ⟨p1, p2, p3⟩, hm, hd]; simp only []; rw [if_pos hc])
          rw [this]
          simp [h5, hc]
        · have := fin none (by unfold rdV; rw [if_pos ⟨p1, p2, p3⟩, hm, hd]; simp only []; rw [if_neg hc])
          rw [this]
          by_cases hc1 : qbe 2 0 b = 0
          · have hc2 : ¬ qe9 2 0 b = s := fun h => hc ⟨hc1, h⟩
            simp [h5, hc1, hc2]
          · simp [h5, hc1]
    · have e9 : rdV s = if pOk s then (if qbe 1 (pVal s) [] = 0 ∧ qe9 1 (pVal s) [] = s then some (1, pVal s, []) else none) else none := by
        unfold rdV
        rw [if_neg hq]
      have e8 : PV.tup [.agg [.int .i64 (kRd s), .int .i64 (nRd s), .str (sRd s)], .int .i64 (eRd s)] = (if pOk s then (if qbe 1 (pVal s) [] = 0 ∧ qe9 1 (pVal s) [] = s then .tup [.agg [.int .i64 1, .int .i64 (pVal s), .str []], .int .i64 0] else .tup [.agg [.int .i64 0, .int .i64 0, .str []], .int .i64 10]) else .tup [.agg [.int .i64 0, .int .i64 0, .str []], .int .i64 10]) := by
        rw [fin _ e9]
        by_cases c1 : pOk s = true
        · by_cases c2 : qbe 1 (pVal s) [] = 0 ∧ qe9 1 (pVal s) [] = s
          · simp only [c1, if_true, if_pos c2]
          · simp only [c1, if_true, if_neg c2]
        · simp only [if_neg c1]
      rw [e8, ← int]
      cases p1 : qdP s [34] with
      | false => simp
      | true =>
        cases p2 : qye s [34] with
        | false => simp
        | true =>
          have e3 : iLe 2 (sLen s) = false := by simp; have : ¬ 2 ≤ s.length := fun h => hq ⟨p1, p2, h⟩; omega
          rw [e3]
          simp
  · cases h
end Go.Pv
set_option linter.unusedSimpArgs false
set_option linter.unusedVariables false
namespace Go.Pv
open Go.RowKit
def qoj (s:Nat):Option Code:=if s=2 then some .ret else if 3≤s then some (.exit (s - 3)) else none
def exOf (s:Nat):PExit:=if s=2 then .ret else if 3≤s then .exit (s - 3) else .normal
def stOf:PExit→Nat
 |.normal=>0
 |.ret=>2
 |.exit id=>3+id
 |.pan _=>1
def okEx:PExit→Bool
 |.pan _=>false
 |_=>true
def isNo:PExit→Bool
 |.normal=>true
 |_=>false
def recS (r:Loop) (s:Nat):Obj:=.loop { r with state:=if s=0 then .ready else if s=1 then .busy else .done,pending:=qoj s }
def glR (gl:Gl) (e:Nat) (r:Loop) (fr:List PV):Gl:=⟨gl.v,fun e' s=>if e'=e then recS r s else gl.lp e' s,fun e'=>if e'=e then fr else gl.fr e'⟩
def puts (fr:List PV):List Tmp→List PV→List PV
 |p::ps,x::xs=>puts (fr.set p x) ps xs
 |_,_=>fr
section
variable {gl : Gl} {H : Gh} {σ : Store} {w w' : World}
theorem qIc:∀ (ps:List Tmp) (xs:List PV) (vs:List Value) (fr:List PV) (tmps:Array Value),RelL H w fr tmps.toList→RelL H w xs vs→RelL H w (puts fr ps xs) ((ps.zip vs).foldl (fun t p=>t.setIfInBounds p.1 p.2) tmps).toList
 |[],xs,vs,fr,tmps,h,hx=>by cases hx<;>simpa [puts] using h
 |p::ps,[],vs,fr,tmps,h,hx=>by cases hx;simpa [puts] using h
 |p::ps,x::xs,vs,fr,tmps,h,hx=>by
  cases hx with
  |cons _ v _ vs hv hvs =>
   simp only [puts,List.zip_cons_cons,List.foldl_cons];exact qIc ps xs vs _ _ (by simpa using h.set p hv) hvs
theorem qT7 {ps:Array Tmp} {xs:List PV} {vs:List Value} {fr:List PV} {tmps:Array Value} (h:RelL H w fr tmps.toList) (hx:RelL H w xs vs):RelL H w (puts fr ps.toList xs) ((ps.zip vs.toArray).foldl (fun t (p,v)=>t.setIfInBounds p v) tmps).toList:=by
 have:=qIc ps.toList xs vs fr tmps h hx;have e:(ps.zip vs.toArray).foldl (fun t (p,v)=>t.setIfInBounds p v) tmps=(ps.toList.zip vs).foldl (fun t p=>t.setIfInBounds p.1 p.2) tmps:=by
  rw [← Array.foldl_toList,Array.toList_zip]
 rw [e];exact this
theorem Ok.lp {gl':Gl} (h:Ok gl H σ w) (hv:gl'.v=gl.v) (hl:∀ (t:Nat) (T:Tok),H.tk[t]?=some T→T.k=0→gl'.lp T.e=gl.lp T.e∧gl'.fr T.e=gl.fr T.e):Ok gl' H σ w :=
 ⟨h.B,fun b o e=>h.gl b o (by rw [← hv];exact e),h.len,(fun id b cs e1 e2=>⟨by show gl'.v b=none;rw [hv];exact (h.obj id b cs e1 e2).1,(h.obj id b cs e1 e2).2⟩),h.nd,h.tkl,fun t T e hvv=>by
  obtain⟨h1,h2,o,he,ho⟩:=h.tok t T e hvv;refine⟨h1,h2,o,he,?_⟩;rcases ho with ho|⟨hk,q1,r,q2,q3,q4,q5,q6⟩
  ·exact .inl ho
  ·obtain⟨l1,l2⟩:=hl t T e hk;refine .inr ⟨hk,by rw [l1];exact q1,r,q2,by rw [l2];exact q3,?_,q5,?_⟩
   ·intro n hn;rw [l2];exact q4 n hn
   ·intro m hm;rw [l2];exact q6 m hm,h.tnd,h.tyl,h.ty⟩
theorem Dr.lp {gl':Gl} {w w':World} (h:Dr gl w w') (hv:gl'.v=gl.v):Dr gl' w w':=fun hg=>h (fun b=>by rw [← hv];exact hg b)
theorem Ev.lp {gl':Gl} {H':Gh} (h:Ev gl H w H' w') (hv:gl'.v=gl.v):Ev gl' H w H' w' :=
 ⟨h.B,h.base,h.aux,h.K,h.os,h.tape,h.output,h.size,h.ob,h.tok,h.prot,h.block,h.dr.lp hv,h.fix,h.old,h.obn⟩
theorem qPD (h:Ok gl H σ w) {t:Nat} {T:Tok} (ht:H.tk[t]?=some T) (hk:T.k=0) {s':Nat} {r':Loop} (hr:gl.lp T.e s'=.loop r') (hframe:RelL H w (gl.fr T.e) r'.tmps.toList) :
  Ev gl H w { H with tk:=H.tk.set t { T with ver:=s' } } (w.putObj T.blk (.loop r'))∧Ok gl { H with tk:=H.tk.set t { T with ver:=s' } } { σ with toks:=σ.toks.set t (s',0,T.e) } (w.putObj T.blk (.loop r')):=by
 have htl:t < H.tk.length:=(List.getElem?_eq_some_iff.1 ht).1;have hnv:¬ T.vir:=fun hh=>hh.2 hk
 obtain⟨hB,hob,o,ho,hT⟩:=h.tok t T ht hnv;obtain⟨r0,ho0,hp0,hc0,hd0⟩:∃ r,o=.loop r∧(∀ n,T.cap≤n→qbK n (gl.fr T.e)=gl.fr T.e)∧T.cap≤H.ob.length∧(∀ m,t≤m→qbX m (gl.fr T.e)=gl.fr T.e):=by
  rcases hT with⟨h1,_⟩|⟨_,_,r,h3,_,h5,h6,h7⟩
  ·exact absurd hk h1
  ·exact⟨r,h3,h5,h6,h7⟩
 subst ho0;have hlt:=qak ho;have hsz:(w.putObj T.blk (.loop r')).heap.size=w.heap.size:=qb8 ..;have hcase:∀ (u:Nat) (U:Tok),(H.tk.set t { T with ver:=s' })[u]?=some U→(u=t∧U={ T with ver:=s' })∨(u≠t∧H.tk[u]?=some U):=by
  intro u U hu;by_cases hut:u=t
  ·subst hut;rw [List.getElem?_set_self htl] at hu;exact .inl ⟨rfl,(Option.some.inj hu).symm⟩
  ·rw [List.getElem?_set_ne (fun e=>hut e.symm)] at hu
   exact .inr ⟨hut,hu⟩
 have hne:∀ b off,H.prot w b off→b≠T.blk:=fun b off hp e=>by
  have:=hp.2.2.2 T (List.mem_of_getElem? ht) hnv e.symm;rw [hk] at this;omega
 have hcell:∀ b off s,b≠T.blk→(w.putObj T.blk (.loop r')).cell? ⟨b,off,s⟩=w.cell? ⟨b,off,s⟩:=fun b off s e=>World.cell?_of_block (a:=⟨b,off,s⟩) (World.putObj_heap_other e)
 have ev:Ev gl H w { H with tk:=H.tk.set t { T with ver:=s' } } (w.putObj T.blk (.loop r')):=by
  refine⟨rfl,rfl,rfl,rfl,rfl,rfl,rfl,by rw [hsz];exact Nat.le_refl _,fun _ _ h=>h,fun u U hu=>?_,fun b off hp=>?_,fun b hb _=>World.putObj_heap_other (by omega),.of_eq rfl,fun b ds hb=>(World.putObj_heap_other (fun e=>by subst e;rw [ho] at hb;cases hb)).trans hb,fun u U hu hk'=>?_,fun _ hb=>.inl hb⟩
  ·by_cases hut:u=t
   ·subst hut;rw [ht] at hu;cases hu
    exact⟨{ T with ver:=s' },List.getElem?_set_self htl,fun e=>absurd hk e,fun _=>⟨hk,rfl,rfl,rfl⟩⟩
   ·exact⟨U,by show (H.tk.set t _)[u]?=some U;rw [List.getElem?_set_ne (fun e=>hut e.symm)];exact hu,.refl U⟩
  ·refine⟨⟨by rw [hsz];exact hp.1,hp.2.1,hp.2.2.1,fun U hU hvU hbk=>?_⟩,fun s=>hcell b off s (hne b off hp)⟩
   obtain⟨u,hu⟩:=List.mem_iff_getElem?.1 hU;rcases hcase u U hu with⟨_,rfl⟩|⟨_,hu⟩
   ·exact absurd hbk.symm (hne b off hp)
   ·exact hp.2.2.2 U (List.mem_of_getElem? hu) hvU hbk
  ·rcases hcase u U hu with⟨rfl,rfl⟩|⟨_,hu⟩
   ·exact⟨T,ht,hk⟩
   ·exact⟨U,hu,hk'⟩
 refine⟨ev,⟨by rw [hsz];exact h.B,fun b o' eg=>⟨(h.gl b o' eg).1,(World.putObj_heap_other (by have:=(h.gl b o' eg).1;omega)).trans (h.gl b o' eg).2⟩,h.len,fun id b cs e1 e2=>?_,h.nd,?_,fun u U hu hvU=>?_,fun u v U V hu hv hvU hvV hbk=>?_,h.tyl,fun id b T0 cs e1 e2 e3 hTT=>?_⟩⟩
 ·obtain⟨h1,vs,ext,T0,he,hr⟩:=h.obj id b cs e1 e2;exact⟨h1,vs,ext,T0,(World.putObj_heap_other (fun e=>by subst e;rw [ho] at he;cases he)).trans he,hr.mono ev.mono⟩
 ·show (H.tk.set t _).map _=σ.toks.set t _
  rw [List.map_set,h.tkl,hk]
 ·rcases hcase u U hu with⟨rfl,rfl⟩|⟨hut,hu'⟩
  ·exact⟨hB,hob,_,World.putObj_heap_same hlt,.inr ⟨hk,hr.symm,r',rfl,hframe.mono ev.mono,hp0,hc0,hd0⟩⟩
  ·obtain⟨g1,g2,o',g3,g4⟩:=h.tok u U hu' hvU;exact⟨g1,g2,o',(World.putObj_heap_other (fun e=>hut (h.tnd u t U T hu' ht hvU hnv e))).trans g3,g4.mono ev.mono⟩
 ·rcases hcase u U hu with⟨h1,rfl⟩|⟨h1,hu'⟩<;>rcases hcase v V hv with⟨h2,rfl⟩|⟨h2,hv'⟩
  ·rw [h1,h2]
  ·exact absurd (h.tnd v t V T hv' ht hvV hnv hbk.symm) h2
  ·exact absurd (h.tnd u t U T hu' ht hvU hnv hbk) h1
  ·exact h.tnd u v U V hu' hv' hvU hvV hbk
 ·obtain⟨us,he,hs⟩:=h.ty id b T0 cs e1 e2 e3 hTT;exact⟨us,(World.putObj_heap_other (fun e=>by subst e;rw [ho] at he;cases he)).trans he,hs⟩
end
theorem qZ0 {P:Program} {gl:Gl} {e:Nat} {r:Loop} (hlp:gl.lp e=recS r) {Y:Nat→List PV→Store→Option (PV×Store)}
  (hY:∀ t args σ x σ',Y t args σ=some (x,σ')→∃ fr1 σ1 ex fr2 σ2,args.length=r.params.size∧Does P gl r.assign (puts (gl.fr e) r.params.toList args) σ .normal fr1 σ1∧σ1.toks[t]?=some (0,0,e) ∧
   Does P gl r.body fr1 { σ1 with toks:=σ1.toks.set t (1,0,e) } ex fr2 σ2∧σ2.toks[t]?=some (1,0,e)∧okEx ex=true∧x=.bool (isNo ex)∧σ'={ σ2 with toks:=σ2.toks.set t (stOf ex,0,e) }):qvm P gl qff (.yld e Y):=by
 intro t args σ x σ' h0 hy H w vs T hok hrel hT;obtain⟨fr1,σ1,ex,fr2,σ2,hlen,hd1,ht1,hd2,ht2,hokx,rfl,rfl⟩:=hY t args σ x σ' hy
 -- what a token of such a state is
 have look:∀ {H1:Gh} {w1:World} {τ:Store} {T1:Tok} {s:Nat},Ok gl H1 τ w1→τ.toks[t]?=some (s,0,e)→H1.tk[t]?=some T1→T1.ver=s∧T1.k=0∧T1.e=e∧w1.heap[T1.blk]?=some (recS r s)∧RelL H1 w1 (gl.fr e) r.tmps.toList:=by
  intro H1 w1 τ T1 s hk1 hs hT1;have e1:(T1.ver,T1.k,T1.e)=(s,0,e):=by
   rw [← hk1.tkl,List.getElem?_map,hT1] at hs;simpa using hs
  simp only [Prod.mk.injEq] at e1;obtain⟨a1,a2,a3⟩:=e1;obtain⟨_,_,o,ho,hTO⟩:=hk1.tok t T1 hT1 (fun hh=>hh.2 (by assumption))
  rcases hTO with⟨b1,_⟩|⟨_,b2,r1,b3,b4,_⟩
  ·exact absurd a2 b1
  ·rw [a1,a3,hlp] at b2;rw [b2] at ho b3;refine⟨a1,a2,a3,ho,?_⟩;rw [a3] at b4;unfold recS at b3;cases b3
   exact b4
 obtain⟨v0,k0,ee0,hl0,hf0⟩:=look hok h0 hT;have hsz:vs.toArray.size=r.params.size:=by rw [← hlen,hrel.len];simp
 have hrun:=run_yield (P:=P) (args:=vs.toArray) hl0 hsz;refine⟨_,_,_,_,hrun,?_⟩;have hRin:RIn (some T.blk) { H with K:=(w.heap.size,[]) }:=fun l hl=>by cases hl;exact⟨t,T,hT,k0,rfl⟩
 refine roundIn_of_wpIn (F:=Fence.wide) (n:=0) (l:=T.blk) trivial ?_;have hst0:St gl { H with K:=(w.heap.size,[]) } w (puts (gl.fr e) r.params.toList args) σ { tmps:=(r.params.zip vs.toArray).foldl (fun t (p,v)=>t.setIfInBounds p v) r.tmps,defers:=[] } w :=
  ⟨_,Ev.refl _ w,hok.setK _,(qT7 hf0 hrel).mono (Mono.setK' H w _),Marks.nil (Nat.le_refl _)⟩
 refine hd1 (some T.blk) 0 _ w hRin _ _ w hst0 fun a1 w1 hst1=>?_
 obtain⟨H1,hev1,hok1,hfr1,hm1⟩:=hst1;obtain⟨T1,hT1,hu1⟩:=hev1.tok t T hT;obtain⟨_,hblk1,_,_⟩:=hu1.lp k0;obtain⟨v1,k1,ee1,hl1,hf1⟩:=look hok1 ht1 hT1;rw [hblk1] at hl1;have hbr:=run_beginRound (P:=P) hl1 rfl;refine⟨_,hbr,?_⟩;have hs1:=qPD (s':=1) (r':={ r with state:=.busy,pending:=qoj 1 }) hok1 hT1 k1 (by rw [ee1,hlp];rfl) (by rw [ee1];exact hf1)
 rw [ee1,hblk1] at hs1;obtain⟨hev2,hok2⟩:=hs1;have hst2:St gl { H with K:=(w.heap.size,[]) } w fr1 { σ1 with toks:=σ1.toks.set t (1,0,e) } a1 (w1.putObj T.blk (.loop { r with state:=.busy,pending:=qoj 1 })):=⟨_,hev1.trans hev2,hok2,hfr1.mono hev2.mono,hm1.ev hev2⟩
 refine hd2 (some T.blk) 0 _ w hRin _ _ _ hst2 fun a3 w3 hst3=>?_
 obtain⟨H3,hev3,hok3,hfr3,hm3⟩:=hst3;obtain⟨T3,hT3,hu3⟩:=hev3.tok t T hT;obtain⟨_,hblk3,_,_⟩:=hu3.lp k0;obtain⟨v3,k3,ee3,hl3,hf3⟩:=look hok3 ht2 hT3;rw [hblk3] at hl3
 -- the round's end
 have fin:∀ (jump:Option Code) (s:Nat),recS r s=.loop { r with state:=if jump.isNone then .ready else .done,pending:=jump }→∀ b:Bool,jump.isNone=b →
   ∃ v w',(Instr.endRound T.blk jump).run P w3=.ok v w'∧∃ v',(Ending.returned v)=.returned v'∧Post gl H w (.bool b) { σ2 with toks:=σ2.toks.set t (s,0,e) } v' w':=by
  intro jump s hs b hb;subst hb;have hr:=run_endRound (P:=P) jump hl3;refine⟨_,_,hr,_,rfl,?_⟩;have hs4:=qPD (s':=s) (r':={ r with state:=if jump.isNone then .ready else .done,pending:=jump }) hok3 hT3 k3 (by rw [ee3,hlp];exact hs) (by rw [ee3];exact hf3)
  rw [ee3,hblk3] at hs4;obtain⟨hev4,hok4⟩:=hs4;exact⟨_,(hev3.trans hev4).setK,hok4.setK _,.bool _⟩
 cases ex with
 |pan x=>cases hokx
 |normal=>exact fin none 0 rfl true rfl
 |ret=>exact fin (some .ret) 2 rfl false rfl
 |exit id =>
  refine fin (some (.exit id)) (3+id) ?_ false rfl;have h1:¬ (3+id=0):=by omega
  have h2:¬ (3+id=1):=by omega
  have h3:¬ (3+id=2):=by omega
  have h4:3≤3+id:=by omega
  simp only [recS,qoj,h1,h2,h3,h4,if_true,if_false,Nat.add_sub_cancel_left];rfl
section
variable {gl : Gl} {H : Gh} {σ : Store} {w w' : World}
theorem qZo (h:Ok gl H σ w) {e s:Nat} {r:Loop} (he:gl.lp e s=.loop r) (hfr:RelL H w (gl.fr e) r.tmps.toList) (hp:∀ n,H.ob.length≤n→qbK n (gl.fr e)=gl.fr e) (ht:∀ m,H.tk.length≤m→qbX m (gl.fr e)=gl.fr e) :
  Mono H w { H with tk:=H.tk++[⟨w.heap.size,s,H.ob.length,0,e⟩] } (w.alloc (.loop r))∧Ok gl { H with tk:=H.tk++[⟨w.heap.size,s,H.ob.length,0,e⟩] } { σ with toks:=σ.toks++[(s,0,e)] } (w.alloc (.loop r)) ∧
   (H.tk++[(⟨w.heap.size,s,H.ob.length,0,e⟩:Tok)])[σ.toks.length]?=some ⟨w.heap.size,s,H.ob.length,0,e⟩:=by
 have hb:=qbf w (.loop r);have hlen:H.tk.length=σ.toks.length:=by rw [← h.tkl];simp
 have hcase:∀ (t:Nat) (T:Tok),(H.tk++[(⟨w.heap.size,s,H.ob.length,0,e⟩:Tok)])[t]?=some T→H.tk[t]?=some T∨(t=H.tk.length∧T=⟨w.heap.size,s,H.ob.length,0,e⟩):=by
  intro t T ht;by_cases htl:t < H.tk.length
  ·rw [List.getElem?_append_left htl] at ht;exact .inl ht
  ·have hlt:=(List.getElem?_eq_some_iff.1 ht).1;have:t=H.tk.length:=by simp at hlt;omega
   subst this;rw [List.getElem?_append_right (Nat.le_refl _)] at ht;simp at ht;exact .inr ⟨rfl,ht.symm⟩
 have hprot:∀ b off,H.prot w b off→({ H with tk:=H.tk++[⟨w.heap.size,s,H.ob.length,0,e⟩] }:Gh).prot (w.alloc (.loop r)) b off:=fun b off hp=>by
  refine⟨Nat.lt_of_lt_of_le hp.1 hb.size,hp.2.1,hp.2.2.1,fun T hT hvv hbk=>?_⟩
  rcases List.mem_append.1 hT with hT|hT
  ·exact hp.2.2.2 T hT hvv hbk
  ·simp at hT;subst hT;have:=hp.1;simp at hbk;omega
 have mo:Mono H w { H with tk:=H.tk++[⟨w.heap.size,s,H.ob.length,0,e⟩] } (w.alloc (.loop r)):=by
  refine⟨fun _ _ h=>h,fun t T ht=>?_,fun b off hp=>⟨hprot b off hp,fun s=>hb.cell (p:=⟨b,off,s⟩) hp.1⟩,fun b off hp=>?_⟩
  ·refine⟨T,?_,.refl T⟩;show (H.tk++[_])[t]?=some T
   rw [List.getElem?_append_left (List.getElem?_eq_some_iff.1 ht).1];exact ht
  ·rcases hp with hp|hp
   ·exact⟨.inl (hprot b off hp),fun s=>hb.cell (p:=⟨b,off,s⟩) hp.1⟩
   ·exact⟨.inr hp,fun s=>hb.cell (p:=⟨b,off,s⟩) (Nat.lt_of_lt_of_le hp.1 h.B)⟩
 refine⟨mo,⟨Nat.le_trans h.B hb.size,fun b o eg=>⟨(h.gl b o eg).1,(hb.block b (qak (h.gl b o eg).2)).trans (h.gl b o eg).2⟩,h.len,fun id b cs e1 e2=>?_,h.nd,by simp [h.tkl],fun t T ht' hvv=>?_,fun t u T U ht hu hvT hvU hbk=>?_,h.tyl,fun id b T' c1 e1 e2 e3 hTT=>?_⟩,?_⟩
 ·obtain⟨hB,vs,ext,T,he,hr⟩:=h.obj id b cs e1 e2;exact⟨hB,vs,ext,T,(hb.block b (qak he)).trans he,hr.mono mo⟩
 ·rcases hcase t T ht' with ht'|⟨rfl,rfl⟩
  ·obtain⟨hB,ho,o,he,hr⟩:=h.tok t T ht' hvv;exact⟨hB,ho,o,(hb.block _ (qak he)).trans he,hr.mono mo⟩
  ·exact⟨h.B,fun hm=>Nat.lt_irrefl _ (h.ob_at hm).2,_,heap_alloc_new w _,.inr ⟨rfl,he.symm,r,rfl,hfr.mono mo,hp,Nat.le_refl _,ht⟩⟩
 ·rcases hcase t T ht with ht|⟨h1,rfl⟩<;>rcases hcase u U hu with hu|⟨h2,rfl⟩
  ·exact h.tnd t u T U ht hu hvT hvU hbk
  ·have:=(h.tk_at (List.mem_of_getElem? ht) hvT).2;simp at hbk;omega
  ·have:=(h.tk_at (List.mem_of_getElem? hu) hvU).2;simp at hbk;omega
  ·rw [h1,h2]
 ·obtain⟨us,he,hs⟩:=h.ty id b T' c1 e1 e2 e3 hTT;exact⟨us,(hb.block b (qak he)).trans he,hs⟩
 ·rw [← hlen,List.getElem?_append_right (Nat.le_refl _)];simp
theorem qHp {D:Nat} {r r':Loop} (hd:w.heap[D]?=some (.loop r)):Mono H w H (w.putObj D (.loop r')):=by
 have hs:(w.putObj D (.loop r')).heap.size=w.heap.size:=qb8 ..;have hlt:=qak hd;have hc:∀ b off s,(w.putObj D (.loop r')).cell? ⟨b,off,s⟩=w.cell? ⟨b,off,s⟩:=fun b off s=>by
  by_cases e:b=D
  ·subst e;simp only [World.cell?,World.putObj_heap_same hlt,hd]
  ·exact World.cell?_of_block (a:=⟨b,off,s⟩) (World.putObj_heap_other e)
 refine⟨fun _ _ h=>h,fun t T h=>⟨T,h,.refl T⟩,fun b off hp=>⟨⟨by rw [hs];exact hp.1,hp.2⟩,hc b off⟩,fun b off hp=>⟨?_,hc b off⟩⟩
 rcases hp with hp|hp
 ·exact .inl ⟨by rw [hs];exact hp.1,hp.2⟩
 ·exact .inr hp
theorem qXL {D:Nat} {r r':Loop} (h:Ok gl H σ w) (hB:H.B≤D) (hd:w.heap[D]?=some (.loop r)) (hn:∀ (t:Nat) (T:Tok),H.tk[t]?=some T→¬ T.vir→T.blk≠D):Ok gl H σ (w.putObj D (.loop r')) where
 B:=by rw [qb8];exact h.B
 gl:=fun b o e=>⟨(h.gl b o e).1,(World.putObj_heap_other (by have:=(h.gl b o e).1;omega)).trans (h.gl b o e).2⟩
 len:=h.len
 obj:=fun id b cs e1 e2=>by
  obtain⟨h1,vs,ext,T,he,hr⟩:=h.obj id b cs e1 e2;have hne:b≠D:=fun e=>by subst e;rw [he] at hd;cases hd
  exact⟨h1,vs,ext,T,(World.putObj_heap_other hne).trans he,hr.mono (qHp hd)⟩
 nd:=h.nd
 tkl:=h.tkl
 tok:=fun t T e hvv=>by
  obtain⟨h1,h2,o,he,ho⟩:=h.tok t T e hvv;exact⟨h1,h2,o,(World.putObj_heap_other (hn t T e hvv)).trans he,ho.mono (qHp hd)⟩
 tnd:=h.tnd
 tyl:=h.tyl
 ty:=fun id b T cs e1 e2 e3 hT=>by
  obtain⟨us,he,hs⟩:=h.ty id b T cs e1 e2 e3 hT;have hne:b≠D:=fun e=>by subst e;rw [he] at hd;cases hd
  exact⟨us,(World.putObj_heap_other hne).trans he,hs⟩
end
theorem qN4 {P:Program} {gl:Gl} {g:Operand} {ps:Array Tmp} {assign body:Code} {fr:List PV} {σ:Store} {gf:FuncId} {caps:List PV} (hg:ev fr g=.fn gf caps) (eid:Nat)
  (hent : ∃ fn, P.funcs[gf]? = some fn ∧ (fn.name == "runtime.NumGoroutine") = false ∧ fn.body.isNone = false)
  {Y:Nat→List PV→Store→Option (PV×Store)} {D:List PV→Store→Option (PV×Store)}
  (hfresh:∀ (i v k e:Nat),σ.toks[i]?=some (v,k,e)→k=0→e≠eid) (hpd:∀ n,σ.objs.length≤n→qbK n fr=fr) (htd:∀ m,σ.toks.length≤m→qbX m fr=fr)
  (hI:∀ gl':Gl,gl'.v=gl.v→qvm P gl' qff (.yld eid Y)→SimS P gl' gf D)
  (hY:∀ gl':Gl,gl'.v=gl.v→∀ t args σ x σ',Y t args σ=some (x,σ')→∃ fr1 σ1 ex fr2 σ2,args.length=ps.size∧Does P gl' assign (puts fr ps.toList args) σ .normal fr1 σ1∧σ1.toks[t]?=some (0,0,eid) ∧
   Does P gl' body fr1 { σ1 with toks:=σ1.toks.set t (1,0,eid) } ex fr2 σ2∧σ2.toks[t]?=some (1,0,eid)∧okEx ex=true∧x=.bool (isNo ex)∧σ'={ σ2 with toks:=σ2.toks.set t (stOf ex,0,eid) })
  {x:PV} {σ2:Store} {s:Nat} (hD:D (.yld σ.toks.length::caps) { σ with toks:=σ.toks++[(0,0,eid)] }=some (x,σ2)) (hs:σ2.toks[σ.toks.length]?=some (s,0,eid)) (hs1:s≠1) :
  Does P gl (.rangeFunc g ps assign body) fr σ (exOf s) fr (qfi σ.toks.length σ2):=by
 intro r n H0 w0 hR Q a w hst hq;obtain⟨H,hev,hok,hfr,hmk⟩:=hst;have hHt:H.tk.length=σ.toks.length:=by rw [← hok.tkl];simp
 have hrg:=qaT hfr g;rw [hg] at hrg;generalize hv:a.eval g=gv at hrg;cases hrg with
 |fn _ _ lb hcaps =>
 refine wpIn_rangeFunc ?_;intro fn hfn
 -- entering: the record;at an outermost loop the block of the rounds' deferred calls
 obtain⟨mark,W0,rec,hent',hb0,hdr0,hrecf,hmark⟩:∃ (mark:List Deferred) (W0:World) (rec:Loop),(Instr.enterLoop fn a.tmps ps assign body (rnd r).round).run P w=.ok (W0.heap.size,mark) (W0.alloc (.loop rec)) ∧
   Below w.heap.size w W0∧W0.drawn=w.drawn∧(rec.state=.ready∧rec.pending=none∧rec.tmps=a.tmps∧rec.params=ps∧rec.assign=assign∧rec.body=body)∧Marks H.K (mark++a.defers) W0:=by
  cases r with
  |none =>
   refine⟨[{ target:=.collected w.heap.size,args:=#[] }],w.alloc (.deferred (some [])),{ state:=.ready,pending:=none,fn,tmps:=a.tmps,params:=ps,assign,body,defers:=w.heap.size },?_,qbf w _,rfl,⟨rfl,rfl,rfl,rfl,rfl,rfl⟩,?_⟩
   ·have:=run_enterLoop_outer (P:=P) (w:=w) fn a.tmps ps assign body;rw [show w.heap.size+1=(w.alloc (.deferred (some []))).heap.size from by simp] at this
    exact this
   ·obtain⟨k1,Ds,k2,k3,k4⟩:=hmk;refine⟨Nat.le_trans k1 (by simp),w.heap.size::Ds,by rw [k2];rfl,List.nodup_cons.2 ⟨fun hm=>?_,k3⟩,fun D' hD'=>?_⟩
    ·have:=qak (k4 _ hm).2;omega
    ·cases hD' with
     |head=>exact⟨k1,World.alloc_heap_new w _⟩
     |tail _ hD'=>exact⟨(k4 D' hD').1,((qbf w _).block D' (qak (k4 D' hD').2)).trans (k4 D' hD').2⟩
  |some l0 =>
   obtain⟨t0,T0,ht0,hk0,rfl⟩:=hR.ev hev l0 rfl;obtain⟨_,_,o,ho,hTO⟩:=hok.tok t0 T0 ht0 (fun hh=>hh.2 hk0)
   obtain⟨r0,rfl⟩:∃ r0,o=.loop r0:=by
    rcases hTO with⟨h1,_⟩|⟨_,_,r0,h3,_⟩
    ·exact absurd hk0 h1
    ·exact⟨r0,h3⟩
   exact⟨[],w,{ state:=.ready,pending:=none,fn,tmps:=a.tmps,params:=ps,assign,body,defers:=r0.defers },run_enterLoop_inner ho fn a.tmps ps assign body,Below.refl _ w,rfl,⟨rfl,rfl,rfl,rfl,rfl,rfl⟩,hmk⟩
 obtain⟨q1,q2,q3,q4,q5,q6⟩:=hrecf
 -- the world with the record
 obtain⟨gl',hgl'⟩:∃ gl',gl'=glR gl eid rec fr:=⟨_,rfl⟩;have hgv:gl'.v=gl.v:=by rw [hgl'];rfl
 have hglp:gl'.lp eid=recS rec:=by rw [hgl'];simp [glR]
 have hgfr:gl'.fr eid=fr:=by rw [hgl'];simp [glR]
 have hother:∀ e,e≠eid→gl'.lp e=gl.lp e∧gl'.fr e=gl.fr e:=fun e he=>by rw [hgl'];constructor<;>simp [glR,he]
 have hfreshT:∀ (t:Nat) (T:Tok),H.tk[t]?=some T→T.k=0→T.e≠eid:=fun t T hT hk=>by
  refine hfresh t T.ver T.k T.e ?_ hk;rw [← hok.tkl,List.getElem?_map,hT];rfl
 have hok0:Ok gl' H σ W0:=(hok.of_below hb0).lp hgv fun t T hT hk=>hother T.e (hfreshT t T hT hk)
 have hm0:Mono H w H W0:=Mono.of_below hok.B hb0;have hrs:gl'.lp eid 0=.loop rec:=by
  rw [hglp];unfold recS qoj;simp only [if_true];rw [← q1,if_neg (by omega:¬ (0=2)),if_neg (by omega:¬ (3≤0)),← q2]
 obtain⟨hm1,hok1,hT1⟩:=qZo (e:=eid) (s:=0) hok0 hrs (by rw [hgfr,q3];exact hfr.mono hm0) (by rw [hgfr];intro n hn;exact hpd n (by rw [← hok.len];exact hn)) (by rw [hgfr];intro m hm;exact htd m (by rw [← hHt];exact hm))
 obtain⟨T,hT⟩:∃ T:Tok,T=⟨W0.heap.size,0,H.ob.length,0,eid⟩:=⟨_,rfl⟩;obtain⟨H1,hH1⟩:∃ H1:Gh,H1={ H with tk:=H.tk++[T] }:=⟨_,rfl⟩
 rw [← hT] at hm1 hok1 hT1;rw [← hH1] at hm1 hok1;obtain⟨W1,hW1⟩:∃ W1,W1=W0.alloc (.loop rec):=⟨_,rfl⟩;rw [← hW1] at hm1 hok1;have hb1:Below w.heap.size w W1:=by rw [hW1];exact hb0.alloc hb0.size _
 -- the call
 have hcon:qvm P gl' qff (.yld eid Y):=qZ0 (r:=rec) hglp (by rw [hgfr,q4,q5,q6];exact hY gl' hgv)
 have hS:=hI gl' hgv hcon;have hyr:Rel H1 W1 (.yld σ.toks.length) (.func (.yield W0.heap.size) #[] #[]):=by
  have:=Rel.yld (H:=H1) (w:=W1) σ.toks.length T (by rw [hH1];exact hT1) (by rw [hT])
  rw [show T.blk=W0.heap.size from by rw [hT]] at this
  exact this
 have hcall:=hS.run _ _ _ _ hD H1 W1 (.func (.yield W0.heap.size) #[] #[]::lb) hok1 (.cons _ _ _ _ hyr (hcaps.mono (hm0.trans hm1)));obtain⟨gfn,hgf,hgn,hgb⟩:=hent;refine⟨W0.heap.size,mark,W1,{ target:=.fn (.func gf) lb.toArray,args:=#[.func (.yield W0.heap.size) #[] #[]] },W1,gf,(.func (.yield W0.heap.size) #[] #[]::lb).toArray,W1,by rw [hW1];exact hent',?_,fun _ _=>trivial,?_,(fun h=>by cases h),?_⟩
 ·simp only [resolve,hv];simp [go_sem]
 ·have e1:(#[(Value.func (.yield W0.heap.size) #[] #[])]:Array Value)++lb.toArray=(Value.func (.yield W0.heap.size) #[] #[]::lb).toArray:=by
   apply Array.ext';simp
  simp only [invoke,callFunc,Sem.run_bind,run_program,Result.andThen_ok,hgf,hgn,hgb,Bool.false_eq_true,if_false,Sem.run_pure,e1]
 ·refine CallsIn.mono (qoJ hcall) ?_;rintro e w3 ⟨v,rfl,H2,hevI,hok2,hv2⟩
  -- behind the function
  have hsz2:σ2.toks.length=H2.tk.length:=by rw [← hok2.tkl];simp
  obtain⟨T2,hT2,hu2⟩:=hevI.tok σ.toks.length T (by rw [hH1];exact hT1)
  obtain⟨k2,blk2,ee2,cap2⟩:=hu2.lp (by rw [hT])
  have ev2:T2.ver=s∧T2.e=eid:=by
   have:(T2.ver,T2.k,T2.e)=(s,0,eid):=by
    rw [← hok2.tkl,List.getElem?_map,hT2] at hs;simpa using hs
   simp only [Prod.mk.injEq] at this;exact⟨this.1,this.2.2⟩
  have blk2':T2.blk=W0.heap.size:=by rw [blk2,hT]
  have hT2nv:¬ T2.vir:=fun hh=>hh.2 k2
  obtain⟨hB2,_,o2,ho2,hTO2⟩:=hok2.tok _ T2 hT2 hT2nv;have hl2:w3.heap[W0.heap.size]?=some (recS rec s):=by
   rcases hTO2 with⟨h1,_⟩|⟨_,h2,_⟩
   ·exact absurd k2 h1
   ·rw [ev2.1,ev2.2,hglp] at h2;rw [← blk2',ho2,h2]
  rw [blk2'] at hB2;have hBl:H.B≤W0.heap.size:=by rw [hevI.B,hH1] at hB2;exact hB2
  have hend:=run_endLoop (P:=P) (w:=w3) (l:=W0.heap.size) (r:={ rec with state:=if s=0 then .ready else if s=1 then .busy else .done,pending:=qoj s }) hl2 (by
   by_cases h0:s=0
   ·simp [h0]
   ·simp [h0,hs1])
  obtain⟨rx,hrx⟩:∃ rx:Loop,rx={ rec with state:=.exhausted,pending:=qoj s }:=⟨_,rfl⟩
  obtain⟨w4,hw4⟩:∃ w4,w4=w3.putObj W0.heap.size (.loop rx):=⟨_,rfl⟩;have hend':(Instr.endLoop W0.heap.size).run P w3=.ok (qoj s) w4:=by rw [hw4,hrx];exact hend
  -- the record is forgotten
  have hsz4:w4.heap.size=w3.heap.size:=by rw [hw4];exact qb8 ..
  have hle1:w.heap.size≤W0.heap.size:=hb0.size;have hoth:∀ b,b≠W0.heap.size→w4.heap[b]?=w3.heap[b]?:=fun b hb=>by rw [hw4];exact World.putObj_heap_other hb
  have hH1t:∀ u,u < σ.toks.length→H1.tk[u]?=H.tk[u]?:=fun u hu=>by
   rw [hH1];show (H.tk++[T])[u]?=H.tk[u]?
   rw [List.getElem?_append_left (by omega)]
  have htrim:∀ u U,(H2.trim σ.toks.length).tk[u]?=some U→u < σ.toks.length∧H2.tk[u]?=some U:=fun u U hu=>qcM hu
  have hokt:=qKX (m:=σ.toks.length) hok2;have hnb:∀ (u:Nat) (U:Tok),(H2.trim σ.toks.length).tk[u]?=some U→¬ U.vir→U.blk≠W0.heap.size:=fun u U hu hvU e=>by
   obtain⟨h1,h2⟩:=htrim u U hu;have:=hok2.tnd u σ.toks.length U T2 h2 hT2 hvU hT2nv (by rw [e,blk2'])
   omega
  have hok4:Ok gl' (H2.trim σ.toks.length) (qfi σ.toks.length σ2) w4:=by
   rw [hw4];exact qXL hokt (by show H2.B≤_;rw [hevI.B,hH1];exact hBl) hl2 hnb
  have hold:∀ (u:Nat) (U:Tok),(H2.trim σ.toks.length).tk[u]?=some U→U.k=0→∃ U0,H.tk[u]?=some U0∧U0.k=0∧U.e=U0.e:=fun u U hu hk=>by
   obtain⟨h1,h2⟩:=htrim u U hu;obtain⟨U0,g1,g2⟩:=hevI.old u U h2 hk;obtain⟨U1,g3,g4⟩:=hevI.tok u U0 g1;rw [h2] at g3;cases g3
   rw [hH1t u h1] at g1;exact⟨U0,g1,g2,(g4.lp g2).2.2.1⟩
  have hok5:Ok gl (H2.trim σ.toks.length) (qfi σ.toks.length σ2) w4:=hok4.lp hgv.symm fun u U hu hk=>by
   obtain⟨U0,g1,g2,g3⟩:=hold u U hu hk;have:=hother U.e (by rw [g3];exact hfreshT u U0 g1 g2)
   exact⟨this.1.symm,this.2.symm⟩
  have hev5:Ev gl H w (H2.trim σ.toks.length) w4:=by
   refine⟨hevI.B.trans (by rw [hH1]),hevI.base.trans (by rw [hH1]),hevI.aux.trans (by rw [hH1]),hevI.K.trans (by rw [hH1]),?_,?_,?_,?_,fun id b hb=>hevI.ob id b (by rw [hH1];exact hb),fun u U hu=>?_,fun b off hp=>?_,fun b hb hno=>?_,?_,fun b ds hb=>?_,fun u U hu hk=>?_,fun b hb=>(hevI.obn b hb).elim (fun hm=>.inl (by rw [hH1] at hm;exact hm)) (fun e=>.inr (by rw [hH1] at e;exact e))⟩
   ·rw [hw4];exact hevI.os.trans hb1.os
   ·rw [hw4];exact hevI.tape.trans hb1.tape
   ·rw [hw4];exact hevI.output.trans hb1.output
   ·rw [hsz4];exact Nat.le_trans hb1.size hevI.size
   ·have hlt:u < σ.toks.length:=by have:=(List.getElem?_eq_some_iff.1 hu).1;omega
    obtain⟨U',g1,g2⟩:=hevI.tok u U (by rw [hH1t u hlt];exact hu)
    exact⟨U',by simp only [Gh.trim];rw [List.getElem?_take,if_pos hlt];exact g1,g2⟩
   ·have hbne:b≠W0.heap.size:=fun e=>by have:=hp.1;omega
    obtain⟨p1,c1⟩:=(hm0.trans hm1).prot b off hp;obtain⟨p2,c2⟩:=hevI.prot b off p1;have p3:=ql9 (m:=σ.toks.length) p2;exact⟨⟨by rw [hsz4];exact p3.1,p3.2⟩,fun s=>(World.cell?_of_block (a:=⟨b,off,s⟩) (hoth b hbne)).trans ((c2 s).trans (c1 s))⟩
   ·exact (hoth b (by omega)).trans ((hevI.block b (by rw [hH1];exact hb) (by rw [hH1];exact hno)).trans (hb1.block b (Nat.lt_of_lt_of_le hb hok.B)))
   ·intro hg;have h1:w.drawn≤W1.drawn:=by rw [hW1];show w.drawn≤W0.drawn;rw [hdr0];exact Nat.le_refl _
    have h2:=hevI.dr (fun b=>by rw [hgv];exact hg b)
    rw [hw4];exact Nat.le_trans h1 h2
   ·have hlt:=qak hb;exact (hoth b (by omega)).trans (hevI.fix b ds ((hb1.block b hlt).trans hb))
   ·obtain⟨U0,g1,g2,_⟩:=hold u U hu hk;exact⟨U0,g1,g2⟩
  have hmk5:Marks (H2.trim σ.toks.length).K (mark++a.defers) w4:=by
   obtain⟨m1,Ds,m2,m3,m4⟩:=hmark;refine⟨?_,Ds,by rw [hev5.K];exact m2,m3,fun D' hD'=>⟨?_,?_⟩⟩
   ·rw [hev5.K];exact Nat.le_trans m1 (by rw [hsz4];refine Nat.le_trans ?_ hevI.size;rw [hW1];simp)
   ·rw [hev5.K];exact (m4 D' hD').1
   ·have hlt:=qak (m4 D' hD').2;refine (hoth D' (by omega)).trans (hevI.fix D' _ ?_)
    rw [hW1];exact ((qbf W0 _).block D' hlt).trans (m4 D' hD').2
  have hst5:St gl H0 w0 fr (qfi σ.toks.length σ2) { a with defers:=mark++a.defers } w4:=⟨_,hev.trans hev5,hok5,hfr.mono hev5.mono,hmk5⟩
  have hfin:=hq _ _ hst5;refine⟨qoj s,w4,hend',?_⟩;unfold exOf at hfin;unfold qoj;by_cases h2:s=2
  ·simp only [h2,if_true] at hfin ⊢;exact wpIn_ret hfin
  ·by_cases h3:3≤s
   ·simp only [h2,h3,if_true,if_false] at hfin ⊢;exact wpIn_exit hfin
   ·simp only [h2,h3,if_false] at hfin ⊢;exact hfin
end Go.Pv
set_option linter.unusedSimpArgs false
set_option linter.unusedVariables false
namespace Go.Pv
open Go.RowKit Tr
mutual
def quO (n m:Nat):PV→Bool
 |.ptr id _=>Nat.blt id n
 |.osl id _ _ _=>Nat.blt id n
 |.yld t=>Nat.blt t m
 |.sl _ _=>false
 |.ref cs=>qqj n m cs
 |.fn _ cs=>qqj n m cs
 |.mth _ cs=>qqj n m cs
 |.iface _ v=>quO n m v
 |.agg cs=>qqj n m cs
 |.tup cs=>qqj n m cs
 |_=>true
def qqj (n m:Nat):List PV→Bool
 |[]=>true
 |x::xs=>quO n m x&&qqj n m xs
end
mutual
theorem qL3 {n m:Nat}:∀ {x:PV},quO n m x=true→(∀ n',n≤n'→qcp n' x=x)∧∀ m',m≤m'→dropT m' x=x
 |.top,_=>⟨fun _ _=>rfl,fun _ _=>rfl⟩
 |.bool _,_=>⟨fun _ _=>rfl,fun _ _=>rfl⟩
 |.int _ _,_=>⟨fun _ _=>rfl,fun _ _=>rfl⟩
 |.str _,_=>⟨fun _ _=>rfl,fun _ _=>rfl⟩
 |.nilp,_=>⟨fun _ _=>rfl,fun _ _=>rfl⟩
 |.nilf,_=>⟨fun _ _=>rfl,fun _ _=>rfl⟩
 |.nili,_=>⟨fun _ _=>rfl,fun _ _=>rfl⟩
 |.ptr id off,h=>by
  have h:id < n:=by simpa [quO] using h
  refine⟨fun n' hn=>?_,fun _ _=>rfl⟩
  simp only [qcp];rw [show decide (id < n')=true from by simp;omega]
  rfl
 |.osl id off len k,h=>by
  have h:id < n:=by simpa [quO] using h
  refine⟨fun n' hn=>?_,fun _ _=>rfl⟩
  simp only [qcp];rw [show decide (id < n')=true from by simp;omega]
  rfl
 |.yld t,h=>by
  have h:t < m:=by simpa [quO] using h
  refine⟨fun _ _=>rfl,fun m' hm=>?_⟩
  simp only [dropT];rw [show decide (t < m')=true from by simp;omega]
  rfl
 |.sl _ _,h=>by simp [quO] at h
 |.ref cs,h=>by
  simp only [quO] at h
  have:=qf2 h;exact⟨fun n' hn=>by simp only [qcp];rw [this.1 n' hn],fun m' hm=>by simp only [dropT];rw [this.2 m' hm]⟩
 |.fn f cs,h=>by
  simp only [quO] at h
  have:=qf2 h;exact⟨fun n' hn=>by simp only [qcp];rw [this.1 n' hn],fun m' hm=>by simp only [dropT];rw [this.2 m' hm]⟩
 |.mth f cs,h=>by
  simp only [quO] at h
  have:=qf2 h;exact⟨fun n' hn=>by simp only [qcp];rw [this.1 n' hn],fun m' hm=>by simp only [dropT];rw [this.2 m' hm]⟩
 |.iface t v,h=>by
  simp only [quO] at h
  have:=qL3 h;exact⟨fun n' hn=>by simp only [qcp];rw [this.1 n' hn],fun m' hm=>by simp only [dropT];rw [this.2 m' hm]⟩
 |.agg cs,h=>by
  simp only [quO] at h
  have:=qf2 h;exact⟨fun n' hn=>by simp only [qcp];rw [this.1 n' hn],fun m' hm=>by simp only [dropT];rw [this.2 m' hm]⟩
 |.tup cs,h=>by
  simp only [quO] at h
  have:=qf2 h;exact⟨fun n' hn=>by simp only [qcp];rw [this.1 n' hn],fun m' hm=>by simp only [dropT];rw [this.2 m' hm]⟩
theorem qf2 {n m:Nat}:∀ {xs:List PV},qqj n m xs=true→(∀ n',n≤n'→qbK n' xs=xs)∧∀ m',m≤m'→qbX m' xs=xs
 |[],_=>⟨fun _ _=>rfl,fun _ _=>rfl⟩
 |x::xs,h=>by
  simp only [qqj,Bool.and_eq_true] at h
  have h1:=qL3 h.1;have h2:=qf2 h.2;exact⟨fun n' hn=>by simp only [qbK];rw [h1.1 n' hn,h2.1 n' hn],fun m' hm=>by simp only [qbX];rw [h1.2 m' hm,h2.2 m' hm]⟩
end
def qYV:PV→PV→Bool
 |.top,.top=>true
 |.nilp,.nilp=>true
 |.ptr a b,.ptr c d=>Nat.beq a c&&Nat.beq b d
 |_,_=>false
def qMY:List PV→List PV→Bool
 |[],[]=>true
 |x::xs,y::ys=>qYV x y&&qMY xs ys
 |_,_=>false
theorem qTP:∀ {x y:PV},qYV x y=true→x=y:=by
 intro x y h;unfold qYV at h
 split at h
 ·rfl
 ·rfl
 ·simp only [Bool.and_eq_true] at h
  rw [Nat.eq_of_beq_eq_true h.1,Nat.eq_of_beq_eq_true h.2]
 ·cases h
theorem qG3:∀ {xs ys:List PV},qMY xs ys=true→xs=ys
 |[],[],_=>rfl
 |x::xs,y::ys,h=>by
  simp only [qMY,Bool.and_eq_true] at h
  rw [qTP h.1,qG3 h.2]
 |[],_::_,h=>by cases h
 |_::_,[],h=>by cases h
structure RI where
 nt:Nat
 ss:List Nat
 bs:List Nat
 vs:List PV
 ps:List Nat
 e:Nat
def RI.fr (I:RI):List PV:=Go.Pv.mk I.nt (I.bs.zip I.vs)
def qNG (k:Nat):Code→Option Code
 |.seq a b=>match qNG k a with
  |some c=>some c
  |none=>qNG k b
 |.cond _ a b=>match qNG k a with
  |some c=>some c
  |none=>qNG k b
 |.block _ c=>qNG k c
 |.rangeFunc g ps x y=>if rfid x y=k then some (.rangeFunc g ps x y) else none
 |_=>none
def rngC (fn:Func) (k:Nat):Code:=match fn.body with
 |some c=>(qNG k c).getD .skip
 |none=>.skip
def rngX:Code→Code
 |.rangeFunc _ _ x _=>x
 |_=>.skip
def rngY:Code→Code
 |.rangeFunc _ _ _ y=>y
 |_=>.skip
def rngG:Code→Operand
 |.rangeFunc g _ _ _=>g
 |_=>.tmp 0
def rngP:Code→Array Tmp
 |.rangeFunc _ ps _ _=>ps
 |_=>#[]
def rngO (c:Code):Code:=.rangeFunc (rngG c) (rngP c) (rngX c) (rngY c)
def qrZ (n:Nat) (σ:Store):Store:=if σ.objs.length≤n then σ else dropS n σ
def trimR (n m:Nat) (σ:Store):Store :=
 if (qrZ n σ).toks.length≤max m (qva (qrZ n σ).objs) then qrZ n σ else qfi (max m (qva (qrZ n σ).objs)) (qrZ n σ)
def qHw (tb:Tab) (G:GamT) (L:LpsT) (I:RI) (x y:Code) (t:Nat) (args:List PV) (σ:Store):Tr (Bool×Store) :=
 if args.length=I.ps.length then
  bind (texec tb G L x [] (puts I.fr I.ps args) σ) fun r=>match r.1 with
   |.normal=>match r.2.2.2.toks[t]? with
    |some (0,0,e)=>if e=I.e then
      bind (texec tb G L y [] r.2.2.1 { r.2.2.2 with toks:=r.2.2.2.toks.set t (1,0,I.e) }) fun q=>match q.2.2.2.toks[t]? with
       |some (1,0,e)=>if e=I.e then (match okEx q.1 with|true=>.ret (isNo q.1,{ q.2.2.2 with toks:=q.2.2.2.toks.set t (stOf q.1,0,I.e) })|false=>.fail) else .fail
       |_=>.fail
     else .fail
    |_=>.fail
   |_=>.fail
 else .fail
def rtree (tb:Tab) (G:GamT) (L:LpsT) (I:RI) (x y:Code) (t:Nat) (args:List PV) (σ:Store):Tr (PV×Store) :=
 bind (qHw tb G L I x y t args σ) fun r=>.ret (.bool r.1,trimR σ.objs.length σ.toks.length r.2)
def qMT (e:Nat):List (Nat×Nat×TypeId)→Bool
 |[]=>true
 |(_,k,e')::l=>(!Nat.beq k 0 || !Nat.beq e' e)&&qMT e l
theorem qHQ {e:Nat}:∀ {l:List (Nat×Nat×TypeId)},qMT e l=true→∀ (i v k e':Nat),l[i]?=some (v,k,e')→k=0→e'≠e
 |[],_,i,v,k,e',h,_=>by cases i<;>cases h
 |(v0,k0,e0)::l,h,i,v,k,e',hi,hk=>by
  simp only [qMT,Bool.and_eq_true] at h
  cases i with
  |zero =>
   cases hi
   subst hk;intro e1;subst e1;simp at h
  |succ i=>exact qHQ h.2 i v k e' hi hk
def rorc (I:RI) (g:Operand) (gf:FuncId) (D:List PV→Store→Tr (PV×Store)) (fr:List PV) (σ:Store):Tr (PExit×List PV×Store) :=
 if fr.length=I.nt then
  match ev (mk I.nt (I.ss.zip (rsl I.ss fr))) g with
  |.fn f caps =>
   if f=gf then
    if qMY (rsl I.bs (mk I.nt (I.ss.zip (rsl I.ss fr)))) I.vs&&qMT I.e σ.toks&&qqj σ.objs.length σ.toks.length (mk I.nt (I.ss.zip (rsl I.ss fr))) then
     bind (D (.yld σ.toks.length::caps) { σ with toks:=σ.toks++[(0,0,I.e)] }) fun r=>match r.2.toks[σ.toks.length]? with
      |some (s,0,e)=>if e=I.e then if s=1 then .fail else .ret (exOf s,mk I.nt (I.ss.zip (rsl I.ss fr)),qrZ σ.objs.length (qfi σ.toks.length r.2)) else .fail
      |_=>.fail
    else .fail
   else .fail
  |_=>.fail
 else .fail
theorem qhc {α β:Type} (f:α→β):∀ (t:Tr α),(bind t fun r=>.ret (f r)).run=t.run.map f
 |.ret a=>rfl
 |.fail=>rfl
 |.ite b x y=>by
  simp only [Tr.bind,Tr.run_ite];cases b<;>simp [qhc f x,qhc f y]
 |.get xs i z k=>by
  simp only [Tr.bind,Tr.run_get];cases xs[i]? with
  |none=>rfl
  |some cs=>exact qhc f (k cs)
section
variable {P : Program} {tb : Tab} {gl : Gl}
theorem Does.into {c:Code} {fr fr1:List PV} {σ:Store} {e:PExit} {fr':List PV} {σ':Store} (hw:Weak fr fr1) (h:Does P gl c fr1 σ e fr' σ'):Does P gl c fr σ e fr' σ' :=
 fun r n H0 w0 hR Q a w hst hq=>h r n H0 w0 hR Q a w (qES hw hst) hq
theorem qB3 (l:List (Nat×PV)):∀ (n i:Nat),(qb9 l n i).length=n
 |0,_=>rfl
 |n+1,i=>by simp [qb9,qB3 l n (i+1)]
theorem zaaD (n:Nat) (l:List (Nat×PV)):(mk n l).length=n:=qB3 l n 0
theorem Weak.set:∀ {xs ys:List PV} (i:Nat) (x:PV),Weak xs ys→Weak (xs.set i x) (ys.set i x)
 |[],[],_,_,_=>trivial
 |a::xs,b::ys,0,x,h=>⟨.inr rfl,h.2⟩
 |a::xs,b::ys,i+1,x,h=>⟨h.1,Weak.set i x h.2⟩
 |[],_::_,_,_,h=>by cases h
 |_::_,[],_,_,h=>by cases h
theorem Weak.puts:∀ (ps:List Tmp) (zs:List PV) {xs ys:List PV},Weak xs ys→Weak (puts xs ps zs) (puts ys ps zs)
 |[],_,_,_,h=>by simpa [Go.Pv.puts] using h
 |_::_,[],_,_,h=>by simpa [Go.Pv.puts] using h
 |p::ps,a::zs,xs,ys,h=>by
  simp only [Go.Pv.puts];exact Weak.puts ps zs (h.set p a)
theorem qPv {G:GamT} {L:LpsT} {I:RI} {x y:Code} (hT:qaY P tb) (hΓ:qal P gl (gam G)) (hm:P.follows .mixedOrders=true) (hLx:qbm P gl (lps L) x) (hLy:qbm P gl (lps L) y) (hdx:qaN (gam G) x=true) (hdy:qaN (gam G) y=true)
  {t:Nat} {args:List PV} {σ:Store} {b:Bool} {σ':Store} (h:(qHw tb G L I x y t args σ).run=some (b,σ')) {fr:List PV} (hw:Weak fr I.fr) :
  ∃ fr1 σ1 ex fr2 σ2,args.length=I.ps.length∧Does P gl x (puts fr I.ps args) σ .normal fr1 σ1∧σ1.toks[t]?=some (0,0,I.e) ∧
   Does P gl y fr1 { σ1 with toks:=σ1.toks.set t (1,0,I.e) } ex fr2 σ2∧σ2.toks[t]?=some (1,0,I.e)∧okEx ex=true∧b=isNo ex∧σ'={ σ2 with toks:=σ2.toks.set t (stOf ex,0,I.e) }:=by
 unfold qHw at h
 split at h
 ·rename_i hl;obtain⟨⟨e1,kn1,fr1,σ1⟩,h1,h2⟩:=bind_some h;have d1:=Does.into (Weak.puts I.ps args hw) (Does.of_tree hT hΓ hm hLx hdx h1);simp only at h2;cases e1 with
  |normal =>
   simp only at h2;split at h2
   ·rename_i e ht;split at h2
    ·rename_i hee;subst hee;obtain⟨⟨ex,kn2,fr2,σ2⟩,h3,h4⟩:=bind_some h2;have d2:=Does.of_tree hT hΓ hm hLy hdy h3;simp only at h4;split at h4
     ·rename_i e ht2;split at h4
      ·rename_i hee;split at h4
       ·rename_i hox;simp only [Tr.run_ret,Option.some.injEq,Prod.mk.injEq] at h4;refine⟨fr1,σ1,ex,fr2,_,hl,d1,ht,d2,?_,hox,h4.1.symm,h4.2.symm⟩;rw [ht2,hee]
       ·cases h4
      ·cases h4
     ·cases h4
    ·cases h2
   ·cases h2
  |exit j=>cases h2
  |ret=>cases h2
  |pan x=>cases h2
 ·cases h
theorem Post.dropS {H:Gh} {σ σ':Store} {w w':World} {b:Bool} {v:Value} {n:Nat} (hok:Ok gl H σ w) (hn:σ.objs.length≤n) (h:Post gl H w (.bool b) σ' v w'):Post gl H w (.bool b) (Go.Pv.dropS n σ') v w':=by
 obtain⟨H',hev,hok',hx⟩:=h;have hn':H.ob.length≤n:=by rw [hok.len];exact hn
 refine⟨H'.keep n,⟨hev.B,hev.base,hev.aux,hev.K,hev.os,hev.tape,hev.output,hev.size,fun id b hid=>?_,hev.tok,fun b off hp=>⟨qqq (hev.prot b off hp).1,(hev.prot b off hp).2⟩,hev.block,hev.dr,hev.fix,hev.old,fun b hb=>hev.obn b (List.mem_of_mem_take hb)⟩,qSw hok' (fun t T e hk=>?_),?_⟩
 ·simp only [Gh.keep];rw [List.getElem?_take,if_pos (Nat.lt_of_lt_of_le (List.getElem?_eq_some_iff.1 hid).1 hn')];exact hev.ob id b hid
 ·obtain⟨T0,e0,k0⟩:=hev.old t T e hk;obtain⟨T1,e1,u⟩:=hev.tok t T0 e0;rw [e] at e1;cases e1
  rw [(u.lp k0).2.2.2];obtain⟨_,_,o,_,ho⟩:=hok.tok t T0 e0 (fun hh=>hh.2 k0)
  rcases ho with⟨h1,_⟩|⟨_,_,r,_,_,_,h6,_⟩
  ·exact absurd k0 h1
  ·omega
 ·cases hx
  exact .bool b
theorem Post.dropT {H:Gh} {σ σ':Store} {w w':World} {b:Bool} {v:Value} {m:Nat} (hok:Ok gl H σ w) (hm:σ.toks.length≤m) (h:Post gl H w (.bool b) σ' v w'):Post gl H w (.bool b) (qfi m σ') v w':=by
 obtain⟨H',hev,hok',hx⟩:=h;have hl:H.tk.length≤m:=by
  have:=congrArg List.length hok.tkl;simp at this;omega
 refine⟨H'.trim m,⟨hev.B,hev.base,hev.aux,hev.K,hev.os,hev.tape,hev.output,hev.size,hev.ob,fun t T ht=>?_,fun b off hp=>⟨ql9 (hev.prot b off hp).1,(hev.prot b off hp).2⟩,hev.block,hev.dr,hev.fix,fun t T e hk=>hev.old t T (qcM e).2 hk,hev.obn⟩,qKX hok',?_⟩
 ·obtain⟨T',h1,h2⟩:=hev.tok t T ht;refine⟨T',?_,h2⟩;simp only [Gh.trim];rw [List.getElem?_take,if_pos (Nat.lt_of_lt_of_le (List.getElem?_eq_some_iff.1 ht).1 hl)];exact h1
 ·cases hx
  exact .bool b
theorem Post.trimR {H:Gh} {σ σ':Store} {w w':World} {b:Bool} {v:Value} {n m:Nat} (hok:Ok gl H σ w) (hn:σ.objs.length≤n) (hm:σ.toks.length≤m) (h:Post gl H w (.bool b) σ' v w'):Post gl H w (.bool b) (Go.Pv.trimR n m σ') v w':=by
 have h1:Post gl H w (.bool b) (qrZ n σ') v w':=by
  unfold qrZ;split
  ·exact h
  ·exact h.dropS hok hn
 unfold Go.Pv.trimR;split
 ·exact h1
 ·exact h1.dropT hok (Nat.le_trans hm (Nat.le_max_left _ _))
theorem YCalls.mono {P:Program} {l:Nat} {args:Array Value} {w:World} {R R':Ending→World→Prop} (h:YCalls P l args w R) (hR:∀ e w',R e w'→R' e w'):YCalls P l args w R':=by
 obtain⟨f,tmps,assign,body,h1,h2⟩:=h;exact⟨f,tmps,assign,body,h1,h2.mono hR⟩
theorem qNN {e:Nat} {Y0:Nat→List PV→Store→Option (Bool×Store)} (h:qvm P gl qff (.yld e fun t args σ=>(Y0 t args σ).map fun r=>(.bool r.1,r.2))) :
  qvm P gl qff (.yld e fun t args σ=>(Y0 t args σ).map fun r=>(.bool r.1,trimR σ.objs.length σ.toks.length r.2)):=by
 intro t args σ x σ' ht hy H w vs T hok hr hT;obtain⟨r,hr0,he⟩:=Option.map_eq_some_iff.1 hy;simp only [Prod.mk.injEq] at he;obtain⟨rfl,rfl⟩:=he;refine YCalls.mono (h t args σ (.bool r.1) r.2 ht (by simp only [hr0,Option.map_some]) H w vs T hok hr hT) ?_
 rintro e w' ⟨v,rfl,hp⟩;exact⟨v,rfl,hp.trimR hok (Nat.le_refl _) (Nat.le_refl _)⟩
theorem qWS {G:GamT} {L:LpsT} {I:RI} {g:Operand} {ps:Array Tmp} {x y:Code} {gf:FuncId} {D:List PV→Store→Tr (PV×Store)} (hT:qaY P tb) (hΓ:∀ gl':Gl,gl'.v=gl.v→qal P gl' (gam G)) (hm:P.follows .mixedOrders=true)
  (hLx:∀ gl':Gl,gl'.v=gl.v→qbm P gl' (lps L) x) (hLy:∀ gl':Gl,gl'.v=gl.v→qbm P gl' (lps L) y) (hdx:qaN (gam G) x=true) (hdy:qaN (gam G) y=true) (hps:ps.toList=I.ps)
  (hent : ∃ fn, P.funcs[gf]? = some fn ∧ (fn.name == "runtime.NumGoroutine") = false ∧ fn.body.isNone = false)
  (hI:∀ gl':Gl,gl'.v=gl.v→qvm P gl' qff (.yld I.e fun t args σ=>(rtree tb G L I x y t args σ).run)→SimS P gl' gf fun args σ=>(D args σ).run) :
  ∀ fr σ e fr' σ',(rorc I g gf D fr σ).run=some (e,fr',σ')→Does P gl (.rangeFunc g ps x y) fr σ e fr' σ':=by
 intro fr σ e fr' σ' h;unfold rorc at h
 split at h
 ·rename_i hn;have hw:=qjN fr I.ss;rw [hn] at hw;generalize hfr1:mk I.nt (I.ss.zip (rsl I.ss fr))=fr1 at h hw;have hl1:fr1.length=I.nt:=by rw [← hfr1];exact zaaD _ _
  split at h
  ·rename_i f caps hg;split at h
   ·rename_i hf;subst hf;split at h
    ·rename_i hk;simp only [Bool.and_eq_true] at hk;obtain⟨⟨hk1,hk2⟩,hk3⟩:=hk;obtain⟨⟨v,σ2⟩,h1,h2⟩:=bind_some h;have hkeep:=qf2 hk3;simp only at h2;split at h2
     ·rename_i s e' hs;split at h2
      ·rename_i hee;subst hee;split at h2
       ·cases h2
       ·rename_i hs1;simp only [Tr.run_ret,Option.some.injEq,Prod.mk.injEq] at h2;obtain⟨rfl,rfl,rfl⟩:=h2;have hw2:Weak fr1 I.fr:=by
         have:=qjN fr1 I.bs;rw [hl1,qG3 hk1] at this;exact this
        have hd:=qN4 (P:=P) (gl:=gl) (g:=g) (ps:=ps) (assign:=x) (body:=y) (fr:=fr1) (σ:=σ) hg I.e hent (Y:=fun t args σ=>(qHw tb G L I x y t args σ).run.map fun r=>(.bool r.1,r.2)) (D:=fun args σ=>(D args σ).run)
         (qHQ hk2) hkeep.1 hkeep.2 (fun gl' hv hc=>hI gl' hv (by
          have:=qNN (Y0:=fun t args σ=>(qHw tb G L I x y t args σ).run) hc
          simp only [rtree,qhc];exact this)) (fun gl' hv t args σ x' σ' hy=>by
          obtain⟨r,hr,he⟩:=Option.map_eq_some_iff.1 hy;simp only [Prod.mk.injEq] at he;obtain⟨rfl,rfl⟩:=he;obtain⟨q1,q2,q3,q4,q5,q6,q7,q8,q9,q10,q11⟩:=qPv hT (hΓ gl' hv) hm (hLx gl' hv) (hLy gl' hv) hdx hdy hr hw2;rw [hps];exact⟨q1,q2,q3,q4,q5,by rw [q6,← hps];simp,q7,q8,q9,q10,q11.1,by rw [q11.2.1],q11.2.2⟩) h1 hs hs1
        have hd2:=Does.into hw hd;unfold qrZ;split
        ·exact hd2
        ·have:=hd2.drop (n:=σ.objs.length) (Nat.le_refl _);rw [hkeep.1 _ (Nat.le_refl _)] at this;exact this
      ·cases h2
     ·cases h2
    ·cases h
   ·cases h
  ·cases h
 ·cases h
end
end Go.Pv
set_option maxHeartbeats 4000000
set_option maxRecDepth 200000
set_option linter.unusedSimpArgs false
set_option linter.unusedVariables false
namespace Go.Pv
open Go Go.Proofs Go.RowKit
def twosV:List (List UInt8):=[[58,45],[60,61],[62,61],[33,61]]
structure GlLex (gl:Gl):Prop extends GlOk gl where
 twos : VarIs gl "pedigree/lex.twos" (twosV.map fun l => Value.string ⟨l.toArray⟩).toArray
theorem GlPow.of_v {gl gl':Gl} (h:GlPow gl) (e:gl'.v=gl.v):GlPow gl':=by
 obtain⟨h⟩:=h;exact⟨by unfold VarIs at *;rw [e];exact h⟩
theorem GlOk.of_v {gl gl':Gl} (h:GlOk gl) (e:gl'.v=gl.v):GlOk gl':=by
 obtain⟨h1,h2,h3⟩:=h;exact⟨h1.of_v e,by unfold VarIs at *;rw [e];exact h2,by unfold VarIs at *;rw [e];exact h3⟩
theorem GlLex.of_v {gl gl':Gl} (h:GlLex gl) (e:gl'.v=gl.v):GlLex gl':=by
 obtain⟨h1,h2⟩:=h;exact⟨h1.of_v e,by unfold VarIs at *;rw [e];exact h2⟩
def qPd:List PV:=[.str [58,45],.str [60,61],.str [62,61],.str [33,61]]
theorem qOP : Tryz.prog.globalNamed "pedigree/lex.twos" = some 0 := by kernel_rfl
theorem qLn {gl:Gl} (h:GlLex gl):qvm Tryz.prog gl (qKG+0) (.glob qPd):=by
 obtain⟨g,T,f,h1,h2⟩:=h.twos;rw [qOP] at h1;cases h1
 refine⟨_,T,f,by rw [Nat.add_sub_cancel_left];exact h2,fun H w=>?_⟩
 exact .cons _ _ _ _ (.str [58,45] (by decide)) (.cons _ _ _ _ (.str [60,61] (by decide)) (.cons _ _ _ _ (.str [62,61] (by decide)) (.cons _ _ _ _ (.str [33,61] (by decide)) .nil)))
theorem qSC:maxLen≤9223372036854775807:=by decide
def idxV (s:qU) (c:Int):Int:=Lib.indexByte s c.toNat.toUInt8
theorem qvd (c:UInt8):∀ l:qU,Lib.indexByte l c≤l.length
 |[]=>by simp [Lib.indexByte]
 |b::l=>by
  have:=qvd c l;unfold Lib.indexByte;split
  ·simp only [List.length_cons];omega
  ·split<;>simp only [List.length_cons]<;>omega
def qjf:List PV→Tr PV
 |[.str s,.int .u8 c]=>.ret (.int .i64 (idxV s c))
 |_=>.fail
theorem qqi (gl:Gl):SimP Tryz.prog gl 170 fun args=>(qjf args).run:=by
 refine⟨⟨_,Tryz.func170,by rfl,by rfl⟩,?_⟩
 intro args x hx H w vs hB hob htk hw hrel;unfold qjf at hx;split at hx
 ·rename_i s c;cases hx
  cases hrel with
  |cons _ v _ vs hv hvs =>
   cases hvs with
   |cons _ v2 _ vs hv2 hvs =>
    cases hvs
    cases hv with
    |str _ hl =>
     cases hv2
     refine (Tryz.strings_IndexByte ⟨s.toArray⟩ c w).mono ?_;rintro e w' ⟨rfl,rfl⟩;refine⟨_,rfl,⟨Below.refl _ _,Dr.of_eq rfl⟩,.int _ _ ?_⟩;have h1:=qvd c.toNat.toUInt8 s;have h2:=Lib.indexByte_ge s c.toNat.toUInt8;have:=qSC;simp only [idxV];generalize Lib.indexByte s c.toNat.toUInt8=q at h1 h2 ⊢;simp [Lit.wf,IntKind.min,IntKind.max,IntKind.signed,IntKind.bits];omega
 ·cases hx
end Go.Pv
