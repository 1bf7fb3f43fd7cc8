/- Part 3 of the proof: pure values for the machine's values, what functions compute over them, and laws of what is computed. Conditions: none beyond each theorem's own premises. -/
import Derived.Test.YtlemepahgalogaaGreatDoorPvGd2
import Derived.RecoverIn
import Derived.Test.YtlemepahgalogaaGreatDoorShelf
import Derived.Lib.AppendIntMem
import Derived.Lib.ItoaLen
import Derived.Lib.ParseIntBTie
import Derived.Shelf.Strings.BuilderK
import Derived.RangeFuncNested
import Derived.Lib.LastIndexByte
noncomputable section
set_option maxHeartbeats 4000000
set_option maxRecDepth 200000
set_option linter.unusedSimpArgs false
set_option linter.unusedVariables false
namespace Go.Pv
open Go Go.Proofs
def qKf:GamT:=ofL []
theorem qLT (gl:Gl):qam Tryz.prog gl (gam qKf):=qag
def qML:LpsT:=fun r fr σ=>.fail
def qA0 (r:qR) (n k:Int) (t:qU):Tr PV:=let z1:=qaM [.int .i64 0,.str [],.int .i64 0,.int .i64 0,.str [],.int .i64 0] r (nNat 0);.ite (iLt 0 (xLen r)) (.ite (qas 0) (.ite z1 (.ite (iEq (xInt r (nNat 0) 0) k) (.ite (sEq t []) (.ret (.bool true)) (.ite (qas 0) (.ite z1 (.ret (.bool (sEq (xStr r (nNat 0) 1) t))) .fail) .fail)) (.ret (.bool false))) .fail) .fail) (.ret (.bool false))
theorem qNT (r:qR) (n k:Int) (t:qU):(tcall tbT qKf qML Tryz.f86 [.ref [.sl r .non,.int .i64 n],.int .i64 k,.str t]).flat=qA0 r n k t:=by kernel_rfl
def qEN (r:qR) (n k:Int) (t:qU):Option PV:=(qA0 r n k t).run
def qnQ (r:qR) (n k:Int) (t:qU):Bool:=(qaZ (gVal (qEN r n k t)))
def qd1 (r:qR) (n k:Int) (t:qU):Bool:=isW (qEN r n k t) (.bool (qnQ r n k t))
def qz8:List PV→Tr PV|[.ref [.sl r .non,.int .i64 n],.int .i64 k,.str t]=>.ite (qd1 r n k t) (.ret (.bool (qnQ r n k t))) (.fail)|_=>.fail
theorem qqm (gl:Gl):SimP Tryz.prog gl 86 fun args=>(qz8 args).run:=by
 refine SimP.of_flat (G:=qKf) (L:=qML) qak (qLT gl ) qah  Tryz.func86 rfl (by rfl) (by kernel_rfl) (qac (by kernel_rfl)) ?_
 intro args x h;unfold qz8 at h
 split at h
 ·exact (congrArg Tr.run (qNT _ _ _ _)).trans (qad h fun h=>by cases h)
 ·cases h
def quh:GamT:=ofL [(86,.pure qz8)]
theorem qCG (gl:Gl):qam Tryz.prog gl (gam quh):=(qae (qqm gl) qag)
def qAA:LpsT:=fun r fr σ=>.fail
def qkm (r:qR) (n:Int):Tr PV:=let z1:=xStr r (nNat 0) 1;.ite (qd1 (qab r) n 1 []) (.ite (bNot (qnQ (qab r) n 1 [])) (.ret (.bool false)) (.ite (qas 0) (.ite (qaM [.int .i64 0,.str [],.int .i64 0,.int .i64 0,.str [],.int .i64 0] r (nNat 0)) (.ite (sEq z1 [98,97,115,101]) (.ret (.bool false)) (.ite (sEq z1 [118,105,101,119]) (.ret (.bool false)) (.ite (sEq z1 [111,110]) (.ret (.bool false)) (.ite (sEq z1 [110,111,116]) (.ret (.bool false)) (.ret (.bool true)))))) .fail) .fail)) .fail
theorem qIg (r:qR) (n:Int):(tcall tbT quh qAA Tryz.f148 [.ref [.sl r .non,.int .i64 n]]).flat=qkm r n:=by kernel_rfl
def qkD (r:qR) (n:Int):Option PV:=(qkm r n).run
def qmj (r:qR) (n:Int):Bool:=(qaZ (gVal (qkD r n)))
def qhT (r:qR) (n:Int):Bool:=isW (qkD r n) (.bool (qmj r n))
def qn2:List PV→Tr PV|[.ref [.sl r .non,.int .i64 n]]=>.ite (qhT r n) (.ret (.bool (qmj r n))) (.fail)|_=>.fail
theorem qtl (gl:Gl):SimP Tryz.prog gl 148 fun args=>(qn2 args).run:=by
 refine SimP.of_flat (G:=quh) (L:=qAA) qak (qCG gl ) qah  Tryz.func148 rfl (by rfl) (by kernel_rfl) (qac (by kernel_rfl)) ?_
 intro args x h;unfold qn2 at h
 split at h
 ·exact (congrArg Tr.run (qIg _ _)).trans (qad h fun h=>by cases h)
 ·cases h
def qJo:GamT:=ofL []
theorem qLf (gl:Gl):qam Tryz.prog gl (gam qJo):=qag
def qMK:LpsT:=fun r fr σ=>.fail
def qBp (r:qR) (n:Int):Tr (PR×Store):=let z1:qR:=[[.sl (qaa (qab r)) .non,.int .i64 n]];.ite (iLt 0 (xLen (qab r))) (.ite (qas 0) (.ite (qaM [.int .i64 0,.str [],.int .i64 0,.int .i64 0,.str [],.int .i64 0] (qab r) (nNat 0)) (.ret (PR.pan (.iface 172 (.agg [.int .i64 (xInt (qab r) (nNat 0) 5)])),Store.mk z1 [] [138])) .fail) .fail) (.ret (PR.pan (.iface 172 (.agg [.int .i64 n])),Store.mk z1 [] [138]))
theorem qNJ (r:qR) (n:Int):(nrmM tbT qJo qMK Tryz.f85 [.ptr 0 0] ⟨[[.sl r .non,.int .i64 n]],[],[138]⟩).flat=qBp r n:=by kernel_rfl
def qB3 (r:qR) (n:Int):Option (PR×Store):=(qBp r n).run
def qzP (r:qR) (n:Int):Int:=(gInt (gAt (gCs (gAt (gCs (gOut (qaj (qB3 r n)) 0)) 0)) 0))
def qAf (r:qR) (n:Int):qR:=(gRow (gAt (gObj (qaj (qB3 r n)) 0) 0))
def qmC (r:qR) (n:Int):Bool:=isW (qB3 r n) ((.pan (.iface 172 (.agg [.int .i64 (qzP r n)]))),⟨[[.sl (qAf r n) .non,.int .i64 n]],[],[138]⟩)
def qds:List PV→Store→Tr (PR×Store)|[.ptr 0 0],⟨[[.sl r .non,.int .i64 n]],[],[138]⟩=>.ite (qmC r n) (.ret ((.pan (.iface 172 (.agg [.int .i64 (qzP r n)]))),⟨[[.sl (qAf r n) .non,.int .i64 n]],[],[138]⟩)) (.fail)|_,_=>.fail
theorem qnx (gl:Gl):SimM Tryz.prog gl 85 fun args σ=>(qds args σ).run:=by
 refine SimM.of_nrm (G:=qJo) (L:=qMK) qak (qLf gl ) qah Tryz.func85 rfl (by rfl) (by kernel_rfl) (qac (by kernel_rfl)) ?_
 intro args σ x h;unfold qds at h
 split at h
 ·exact (congrArg Tr.run (qNJ _ _)).trans (qad h fun h=>by cases h)
 ·cases h
def qAh:GamT:=ofL []
theorem qEl (gl:Gl):qam Tryz.prog gl (gam qAh):=qag
def qES:LpsT:=fun r fr σ=>.fail
def quB (r:qR) (n:Int):Tr (PR×Store):=let z1:=qab r;let z2:=nNat 0;.ite (qas 0) (.ite (qaM [.int .i64 0,.str [],.int .i64 0,.int .i64 0,.str [],.int .i64 0] z1 z2) (.ite (qbd (qas 1) true (nNat 1) (nXs z1) (nXs z1)) (.ite (qaq z1 6) (.ret (PR.val (.agg [.int .i64 (xInt z1 z2 0),.str (xStr z1 z2 1),.int .i64 (xInt z1 z2 2),.int .i64 (xInt z1 z2 3),.str (xStr z1 z2 4),.int .i64 (xInt z1 z2 5)]),Store.mk [[.sl (qaa (xSub z1 (nNat 1) (nXs z1))) .non,.int .i64 n]] [] [138])) .fail) .fail) .fail) .fail
theorem qLD (r:qR) (n:Int):(nrmM tbT qAh qES Tryz.f136 [.ptr 0 0] ⟨[[.sl r .non,.int .i64 n]],[],[138]⟩).flat=quB r n:=by kernel_rfl
def qeI (r:qR) (n:Int):Option (PR×Store):=(quB r n).run
def qwr (r:qR) (n:Int):Int:=(gInt (gAt (gCs (gOut (qaj (qeI r n)) 0)) 0))
def qjn (r:qR) (n:Int):qU:=(gStr (gAt (gCs (gOut (qaj (qeI r n)) 0)) 1))
def qlx (r:qR) (n:Int):Int:=(gInt (gAt (gCs (gOut (qaj (qeI r n)) 0)) 2))
def qkT (r:qR) (n:Int):Int:=(gInt (gAt (gCs (gOut (qaj (qeI r n)) 0)) 3))
def qlh (r:qR) (n:Int):qU:=(gStr (gAt (gCs (gOut (qaj (qeI r n)) 0)) 4))
def qow (r:qR) (n:Int):Int:=(gInt (gAt (gCs (gOut (qaj (qeI r n)) 0)) 5))
def qf1 (r:qR) (n:Int):qR:=(gRow (gAt (gObj (qaj (qeI r n)) 0) 0))
def qcj (r:qR) (n:Int):Bool:=isW (qeI r n) ((.val (.agg [.int .i64 (qwr r n),.str (qjn r n),.int .i64 (qlx r n),.int .i64 (qkT r n),.str (qlh r n),.int .i64 (qow r n)])),⟨[[.sl (qf1 r n) .non,.int .i64 n]],[],[138]⟩)
def qhc:List PV→Store→Tr (PR×Store)|[.ptr 0 0],⟨[[.sl r .non,.int .i64 n]],[],[138]⟩=>.ite (qcj r n) (.ret ((.val (.agg [.int .i64 (qwr r n),.str (qjn r n),.int .i64 (qlx r n),.int .i64 (qkT r n),.str (qlh r n),.int .i64 (qow r n)])),⟨[[.sl (qf1 r n) .non,.int .i64 n]],[],[138]⟩)) (.fail)|_,_=>.fail
theorem qe5 (gl:Gl):SimM Tryz.prog gl 136 fun args σ=>(qhc args σ).run:=by
 refine SimM.of_nrm (G:=qAh) (L:=qES) qak (qEl gl ) qah Tryz.func136 rfl (by rfl) (by kernel_rfl) (qac (by kernel_rfl)) ?_
 intro args σ x h;unfold qhc at h
 split at h
 ·exact (congrArg Tr.run (qLD _ _)).trans (qad h fun h=>by cases h)
 ·cases h
def qzq:GamT:=ofL [(86,.pure qz8),(136,.may (frameT qhc))]
theorem qEj (gl:Gl):qam Tryz.prog gl (gam qzq):=(qae (qqm gl) (qai (SimM.frameT (qe5 gl)) qag))
def qGs:LpsT:=fun r fr σ=>.fail
def qoK (k:Int) (t:qU) (r:qR) (n:Int):Tr (PR×Store):=let z1:=qab (qab r);.ite (qd1 z1 n k t) (.ite (bNot (qnQ z1 n k t)) (.ret (PR.val (.bool false),Store.mk [[.sl (qaa (qab r)) .non,.int .i64 n]] [] [138])) (.ite (qcj z1 n) (.ret (PR.val (.bool true),Store.mk [[.sl (qaa (qaa (qf1 z1 n))) .non,.int .i64 n]] [] [138])) .fail)) .fail
theorem qKF (k:Int) (t:qU) (r:qR) (n:Int):(nrmM tbT qzq qGs Tryz.f106 [.ptr 0 0,.int .i64 k,.str t] ⟨[[.sl r .non,.int .i64 n]],[],[138]⟩).flat=qoK k t r n:=by kernel_rfl
def qjj (k:Int) (t:qU) (r:qR) (n:Int):Option (PR×Store):=(qoK k t r n).run
def qa7 (k:Int) (t:qU) (r:qR) (n:Int):Bool:=(qaZ (gOut (qaj (qjj k t r n)) 0))
def qa5 (k:Int) (t:qU) (r:qR) (n:Int):qR:=(gRow (gAt (gObj (qaj (qjj k t r n)) 0) 0))
def qaG (k:Int) (t:qU) (r:qR) (n:Int):Bool:=isW (qjj k t r n) ((.val (.bool (qa7 k t r n))),⟨[[.sl (qa5 k t r n) .non,.int .i64 n]],[],[138]⟩)
def qbT:List PV→Store→Tr (PR×Store)|[.ptr 0 0,.int .i64 k,.str t],⟨[[.sl r .non,.int .i64 n]],[],[138]⟩=>.ite (qaG k t r n) (.ret ((.val (.bool (qa7 k t r n))),⟨[[.sl (qa5 k t r n) .non,.int .i64 n]],[],[138]⟩)) (.fail)|_,_=>.fail
theorem qbi (gl:Gl):SimM Tryz.prog gl 106 fun args σ=>(qbT args σ).run:=by
 refine SimM.of_nrm (G:=qzq) (L:=qGs) qak (qEj gl ) qah Tryz.func106 rfl (by rfl) (by kernel_rfl) (qac (by kernel_rfl)) ?_
 intro args σ x h;unfold qbT at h
 split at h
 ·exact (congrArg Tr.run (qKF _ _ _ _)).trans (qad h fun h=>by cases h)
 ·cases h
def qyn:GamT:=ofL [(85,.may (frameT qds)),(86,.pure qz8),(136,.may (frameT qhc))]
theorem qEF (gl:Gl):qam Tryz.prog gl (gam qyn):=(qai (SimM.frameT (qnx gl)) (qae (qqm gl) (qai (SimM.frameT (qe5 gl)) qag)))
def qEd:LpsT:=fun r fr σ=>.fail
def qpr (k:Int) (t:qU) (r:qR) (n:Int):Tr (PR×Store):=let z1:=qab (qab r);.ite (qd1 z1 n k t) (.ite (bNot (qnQ z1 n k t)) (.ite (qmC z1 n) (.ret (PR.pan (.iface 172 (.agg [.int .i64 (qzP z1 n)])),Store.mk [[.sl (qaa (qaa (qAf z1 n))) .non,.int .i64 n]] [] [138])) .fail) (.ite (qcj z1 n) (.ret (PR.val (.agg [.int .i64 (qwr z1 n),.str (qjn z1 n),.int .i64 (qlx z1 n),.int .i64 (qkT z1 n),.str (qlh z1 n),.int .i64 (qow z1 n)]),Store.mk [[.sl (qaa (qaa (qf1 z1 n))) .non,.int .i64 n]] [] [138])) .fail)) .fail
theorem qKI (k:Int) (t:qU) (r:qR) (n:Int):(nrmM tbT qyn qEd Tryz.f150 [.ptr 0 0,.int .i64 k,.str t] ⟨[[.sl r .non,.int .i64 n]],[],[138]⟩).flat=qpr k t r n:=by kernel_rfl
def qcw (k:Int) (t:qU) (r:qR) (n:Int):Option (PR×Store):=(qpr k t r n).run
def qeY (k:Int) (t:qU) (r:qR) (n:Int):Int:=(gInt (gAt (gCs (gAt (gCs (gOut (qaj (qcw k t r n)) 0)) 0)) 0))
def qe7 (k:Int) (t:qU) (r:qR) (n:Int):qR:=(gRow (gAt (gObj (qaj (qcw k t r n)) 0) 0))
def qhD (k:Int) (t:qU) (r:qR) (n:Int):Bool:=isW (qcw k t r n) ((.pan (.iface 172 (.agg [.int .i64 (qeY k t r n)]))),⟨[[.sl (qe7 k t r n) .non,.int .i64 n]],[],[138]⟩)
def qrt (k:Int) (t:qU) (r:qR) (n:Int):Int:=(gInt (gAt (gCs (gOut (qaj (qcw k t r n)) 0)) 0))
def qlP (k:Int) (t:qU) (r:qR) (n:Int):qU:=(gStr (gAt (gCs (gOut (qaj (qcw k t r n)) 0)) 1))
def qm9 (k:Int) (t:qU) (r:qR) (n:Int):Int:=(gInt (gAt (gCs (gOut (qaj (qcw k t r n)) 0)) 2))
def qmr (k:Int) (t:qU) (r:qR) (n:Int):Int:=(gInt (gAt (gCs (gOut (qaj (qcw k t r n)) 0)) 3))
def qmW (k:Int) (t:qU) (r:qR) (n:Int):qU:=(gStr (gAt (gCs (gOut (qaj (qcw k t r n)) 0)) 4))
def qng (k:Int) (t:qU) (r:qR) (n:Int):Int:=(gInt (gAt (gCs (gOut (qaj (qcw k t r n)) 0)) 5))
def qe4 (k:Int) (t:qU) (r:qR) (n:Int):qR:=(gRow (gAt (gObj (qaj (qcw k t r n)) 0) 0))
def qhL (k:Int) (t:qU) (r:qR) (n:Int):Bool:=isW (qcw k t r n) ((.val (.agg [.int .i64 (qrt k t r n),.str (qlP k t r n),.int .i64 (qm9 k t r n),.int .i64 (qmr k t r n),.str (qmW k t r n),.int .i64 (qng k t r n)])),⟨[[.sl (qe4 k t r n) .non,.int .i64 n]],[],[138]⟩)
def qqj:List PV→Store→Tr (PR×Store)|[.ptr 0 0,.int .i64 k,.str t],⟨[[.sl r .non,.int .i64 n]],[],[138]⟩=>.ite (qhD k t r n) (.ret ((.pan (.iface 172 (.agg [.int .i64 (qeY k t r n)]))),⟨[[.sl (qe7 k t r n) .non,.int .i64 n]],[],[138]⟩)) (.ite (qhL k t r n) (.ret ((.val (.agg [.int .i64 (qrt k t r n),.str (qlP k t r n),.int .i64 (qm9 k t r n),.int .i64 (qmr k t r n),.str (qmW k t r n),.int .i64 (qng k t r n)])),⟨[[.sl (qe4 k t r n) .non,.int .i64 n]],[],[138]⟩)) (.fail))|_,_=>.fail
theorem qql (gl:Gl):SimM Tryz.prog gl 150 fun args σ=>(qqj args σ).run:=by
 refine SimM.of_nrm (G:=qyn) (L:=qEd) qak (qEF gl ) qah Tryz.func150 rfl (by rfl) (by kernel_rfl) (qac (by kernel_rfl)) ?_
 intro args σ x h;unfold qqj at h
 split at h
 ·exact (congrArg Tr.run (qKI _ _ _ _)).trans (qad h fun h=>qad h fun h=>by cases h)
 ·cases h
def qyW:GamT:=ofL [(150,.may (frameT qqj))]
theorem qEs (gl:Gl):qam Tryz.prog gl (gam qyW):=(qai (SimM.frameT (qql gl)) qag)
def qDt:LpsT:=fun r fr σ=>.fail
def qwa (t:qU) (r:qR) (n:Int):Tr (PR×Store):=let z1:=qab (qab r);.ite (qhD 6 t z1 n) (.ret (PR.pan (.iface 172 (.agg [.int .i64 (qeY 6 t z1 n)])),Store.mk [[.sl (qaa (qaa (qe7 6 t z1 n))) .non,.int .i64 n]] [] [138])) (.ite (qhL 6 t z1 n) (.ret (PR.val (.tup []),Store.mk [[.sl (qaa (qaa (qe4 6 t z1 n))) .non,.int .i64 n]] [] [138])) .fail)
theorem qKH (t:qU) (r:qR) (n:Int):(nrmM tbT qyW qDt Tryz.f109 [.ptr 0 0,.str t] ⟨[[.sl r .non,.int .i64 n]],[],[138]⟩).flat=qwa t r n:=by kernel_rfl
def qjP (t:qU) (r:qR) (n:Int):Option (PR×Store):=(qwa t r n).run
def qa4 (t:qU) (r:qR) (n:Int):Int:=(gInt (gAt (gCs (gAt (gCs (gOut (qaj (qjP t r n)) 0)) 0)) 0))
def qa6 (t:qU) (r:qR) (n:Int):qR:=(gRow (gAt (gObj (qaj (qjP t r n)) 0) 0))
def qbh (t:qU) (r:qR) (n:Int):Bool:=isW (qjP t r n) ((.pan (.iface 172 (.agg [.int .i64 (qa4 t r n)]))),⟨[[.sl (qa6 t r n) .non,.int .i64 n]],[],[138]⟩)
def qa9 (t:qU) (r:qR) (n:Int):qR:=(gRow (gAt (gObj (qaj (qjP t r n)) 0) 0))
def qbg (t:qU) (r:qR) (n:Int):Bool:=isW (qjP t r n) ((.val (.tup [])),⟨[[.sl (qa9 t r n) .non,.int .i64 n]],[],[138]⟩)
def qgA:List PV→Store→Tr (PR×Store)|[.ptr 0 0,.str t],⟨[[.sl r .non,.int .i64 n]],[],[138]⟩=>.ite (qbh t r n) (.ret ((.pan (.iface 172 (.agg [.int .i64 (qa4 t r n)]))),⟨[[.sl (qa6 t r n) .non,.int .i64 n]],[],[138]⟩)) (.ite (qbg t r n) (.ret ((.val (.tup [])),⟨[[.sl (qa9 t r n) .non,.int .i64 n]],[],[138]⟩)) (.fail))|_,_=>.fail
theorem qec (gl:Gl):SimM Tryz.prog gl 109 fun args σ=>(qgA args σ).run:=by
 refine SimM.of_nrm (G:=qyW) (L:=qDt) qak (qEs gl ) qah Tryz.func109 rfl (by rfl) (by kernel_rfl) (qac (by kernel_rfl)) ?_
 intro args σ x h;unfold qgA at h
 split at h
 ·exact (congrArg Tr.run (qKH _ _ _)).trans (qad h fun h=>qad h fun h=>by cases h)
 ·cases h
def qyA:GamT:=ofL [(85,.may (frameT qds)),(136,.may (frameT qhc)),(148,.pure qn2)]
theorem qEn (gl:Gl):qam Tryz.prog gl (gam qyA):=(qai (SimM.frameT (qnx gl)) (qai (SimM.frameT (qe5 gl)) (qae (qtl gl) qag)))
def qGA:LpsT:=fun r fr σ=>.fail
def qo4 (r:qR) (n:Int):Tr (PR×Store):=let z1:=qab (qab r);.ite (qhT z1 n) (.ite (bNot (qmj z1 n)) (.ite (qmC z1 n) (.ret (PR.pan (.iface 172 (.agg [.int .i64 (qzP z1 n)])),Store.mk [[.sl (qaa (qaa (qAf z1 n))) .non,.int .i64 n]] [] [138])) .fail) (.ite (qcj z1 n) (.ret (PR.val (.str (qjn z1 n)),Store.mk [[.sl (qaa (qaa (qf1 z1 n))) .non,.int .i64 n]] [] [138])) .fail)) .fail
theorem qKW (r:qR) (n:Int):(nrmM tbT qyA qGA Tryz.f111 [.ptr 0 0] ⟨[[.sl r .non,.int .i64 n]],[],[138]⟩).flat=qo4 r n:=by kernel_rfl
def qfP (r:qR) (n:Int):Option (PR×Store):=(qo4 r n).run
def qfa (r:qR) (n:Int):Int:=(gInt (gAt (gCs (gAt (gCs (gOut (qaj (qfP r n)) 0)) 0)) 0))
def qfl (r:qR) (n:Int):qR:=(gRow (gAt (gObj (qaj (qfP r n)) 0) 0))
def qhN (r:qR) (n:Int):Bool:=isW (qfP r n) ((.pan (.iface 172 (.agg [.int .i64 (qfa r n)]))),⟨[[.sl (qfl r n) .non,.int .i64 n]],[],[138]⟩)
def qdW (r:qR) (n:Int):qU:=(gStr (gOut (qaj (qfP r n)) 0))
def qfd (r:qR) (n:Int):qR:=(gRow (gAt (gObj (qaj (qfP r n)) 0) 0))
def qhI (r:qR) (n:Int):Bool:=isW (qfP r n) ((.val (.str (qdW r n))),⟨[[.sl (qfd r n) .non,.int .i64 n]],[],[138]⟩)
def qqG:List PV→Store→Tr (PR×Store)|[.ptr 0 0],⟨[[.sl r .non,.int .i64 n]],[],[138]⟩=>.ite (qhN r n) (.ret ((.pan (.iface 172 (.agg [.int .i64 (qfa r n)]))),⟨[[.sl (qfl r n) .non,.int .i64 n]],[],[138]⟩)) (.ite (qhI r n) (.ret ((.val (.str (qdW r n))),⟨[[.sl (qfd r n) .non,.int .i64 n]],[],[138]⟩)) (.fail))|_,_=>.fail
theorem qqQ (gl:Gl):SimM Tryz.prog gl 111 fun args σ=>(qqG args σ).run:=by
 refine SimM.of_nrm (G:=qyA) (L:=qGA) qak (qEn gl ) qah Tryz.func111 rfl (by rfl) (by kernel_rfl) (qac (by kernel_rfl)) ?_
 intro args σ x h;unfold qqG at h
 split at h
 ·exact (congrArg Tr.run (qKW _ _)).trans (qad h fun h=>qad h fun h=>by cases h)
 ·cases h
def qFe:GamT:=ofL [(85,.may (frameT qds)),(106,.may (frameT qbT))]
theorem qH5 (gl:Gl):qam Tryz.prog gl (gam qFe):=(qai (SimM.frameT (qnx gl)) (qai (SimM.frameT (qbi gl)) qag))
def qIX:LpsT:=fun r fr σ=>.fail
def qqr (r:qR) (n:Int):Tr (PR×Store):=let z1:=qab (qab r);let z2:=qaa (qa5 1 [105,110,116] z1 n);let z3:=qaa (qa5 1 [115,121,109] (qab z2) n);.ite (qaG 1 [105,110,116] z1 n) (.ite (qa7 1 [105,110,116] z1 n) (.ret (PR.val (.int .i64 1),Store.mk [[.sl (qaa z2) .non,.int .i64 n]] [] [138])) (.ite (qaG 1 [115,121,109] (qab z2) n) (.ite (qa7 1 [115,121,109] (qab z2) n) (.ret (PR.val (.int .i64 2),Store.mk [[.sl (qaa z3) .non,.int .i64 n]] [] [138])) (.ite (qmC (qab z3) n) (.ret (PR.pan (.iface 172 (.agg [.int .i64 (qzP (qab z3) n)])),Store.mk [[.sl (qaa (qaa (qAf (qab z3) n))) .non,.int .i64 n]] [] [138])) .fail)) .fail)) .fail
theorem qMn (r:qR) (n:Int):(nrmM tbT qFe qIX Tryz.f138 [.ptr 0 0] ⟨[[.sl r .non,.int .i64 n]],[],[138]⟩).flat=qqr r n:=by kernel_rfl
def qja (r:qR) (n:Int):Option (PR×Store):=(qqr r n).run
def qfX (r:qR) (n:Int):Int:=(gInt (gOut (qaj (qja r n)) 0))
def qgm (r:qR) (n:Int):qR:=(gRow (gAt (gObj (qaj (qja r n)) 0) 0))
def qhW (r:qR) (n:Int):Bool:=isW (qja r n) ((.val (.int .i64 (qfX r n))),⟨[[.sl (qgm r n) .non,.int .i64 n]],[],[138]⟩)
def qgB (r:qR) (n:Int):Int:=(gInt (gAt (gCs (gAt (gCs (gOut (qaj (qja r n)) 0)) 0)) 0))
def qgc (r:qR) (n:Int):qR:=(gRow (gAt (gObj (qaj (qja r n)) 0) 0))
def qiE (r:qR) (n:Int):Bool:=isW (qja r n) ((.pan (.iface 172 (.agg [.int .i64 (qgB r n)]))),⟨[[.sl (qgc r n) .non,.int .i64 n]],[],[138]⟩)
def qsW:List PV→Store→Tr (PR×Store)|[.ptr 0 0],⟨[[.sl r .non,.int .i64 n]],[],[138]⟩=>.ite (qhW r n) (.ret ((.val (.int .i64 (qfX r n))),⟨[[.sl (qgm r n) .non,.int .i64 n]],[],[138]⟩)) (.ite (qiE r n) (.ret ((.pan (.iface 172 (.agg [.int .i64 (qgB r n)]))),⟨[[.sl (qgc r n) .non,.int .i64 n]],[],[138]⟩)) (.fail))|_,_=>.fail
theorem qpq (gl:Gl):SimM Tryz.prog gl 138 fun args σ=>(qsW args σ).run:=by
 refine SimM.of_nrm (G:=qFe) (L:=qIX) qak (qH5 gl ) qah Tryz.func138 rfl (by rfl) (by kernel_rfl) (qac (by kernel_rfl)) ?_
 intro args σ x h;unfold qsW at h
 split at h
 ·exact (congrArg Tr.run (qMn _ _)).trans (qad h fun h=>qad h fun h=>by cases h)
 ·cases h
def qzr:GamT:=ofL [(86,.pure qz8),(136,.may (frameT qhc)),(150,.may (frameT qqj))]
theorem qE2 (gl:Gl):qam Tryz.prog gl (gam qzr):=(qae (qqm gl) (qai (SimM.frameT (qe5 gl)) (qai (SimM.frameT (qql gl)) qag)))
def qDH:LpsT:=fun r fr σ=>.fail
def qgM (r:qR) (n:Int):Tr (PR×Store):=let z1:=qab (qab r);let z2:qR:=[[.sl (qaa (qaa (qf1 z1 n))) .non,.int .i64 n]];let z3:Tr (PR×Store):=.ite (qcj z1 n) (.ret (PR.val (.agg [.int .i64 2,.str [],.int .i64 (qlx z1 n),.int .i64 (qkT z1 n),.str (qlh z1 n)]),Store.mk z2 [] [138])) .fail;.ite (qd1 z1 n 2 []) (.ite (qnQ z1 n 2 []) (.ite (qcj z1 n) (.ret (PR.val (.agg [.int .i64 1,.str (qjn z1 n),.int .i64 0,.int .i64 0,.str []]),Store.mk z2 [] [138])) .fail) (.ite (qd1 z1 n 4 []) (.ite (qnQ z1 n 4 []) z3 (.ite (qd1 z1 n 5 []) (.ite (qnQ z1 n 5 []) z3 (.ite (qhD 3 [] z1 n) (.ret (PR.pan (.iface 172 (.agg [.int .i64 (qeY 3 [] z1 n)])),Store.mk [[.sl (qaa (qaa (qe7 3 [] z1 n))) .non,.int .i64 n]] [] [138])) (.ite (qhL 3 [] z1 n) (.ret (PR.val (.agg [.int .i64 3,.str [],.int .i64 0,.int .i64 0,.str []]),Store.mk [[.sl (qaa (qaa (qe4 3 [] z1 n))) .non,.int .i64 n]] [] [138])) .fail))) .fail)) .fail)) .fail
theorem qKv (r:qR) (n:Int):(nrmM tbT qzr qDH Tryz.f113 [.ptr 0 0] ⟨[[.sl r .non,.int .i64 n]],[],[138]⟩).flat=qgM r n:=by kernel_rfl
def qbS (r:qR) (n:Int):Option (PR×Store):=(qgM r n).run
def qci (r:qR) (n:Int):Int:=(gInt (gAt (gCs (gOut (qaj (qbS r n)) 0)) 0))
def qct (r:qR) (n:Int):qU:=(gStr (gAt (gCs (gOut (qaj (qbS r n)) 0)) 1))
def qbM (r:qR) (n:Int):Int:=(gInt (gAt (gCs (gOut (qaj (qbS r n)) 0)) 2))
def qbL (r:qR) (n:Int):Int:=(gInt (gAt (gCs (gOut (qaj (qbS r n)) 0)) 3))
def qbI (r:qR) (n:Int):qU:=(gStr (gAt (gCs (gOut (qaj (qbS r n)) 0)) 4))
def qc4 (r:qR) (n:Int):qR:=(gRow (gAt (gObj (qaj (qbS r n)) 0) 0))
def qea (r:qR) (n:Int):Bool:=isW (qbS r n) ((.val (.agg [.int .i64 (qci r n),.str (qct r n),.int .i64 (qbM r n),.int .i64 (qbL r n),.str (qbI r n)])),⟨[[.sl (qc4 r n) .non,.int .i64 n]],[],[138]⟩)
def qc5 (r:qR) (n:Int):Int:=(gInt (gAt (gCs (gAt (gCs (gOut (qaj (qbS r n)) 0)) 0)) 0))
def qc9 (r:qR) (n:Int):qR:=(gRow (gAt (gObj (qaj (qbS r n)) 0) 0))
def qdQ (r:qR) (n:Int):Bool:=isW (qbS r n) ((.pan (.iface 172 (.agg [.int .i64 (qc5 r n)]))),⟨[[.sl (qc9 r n) .non,.int .i64 n]],[],[138]⟩)
def qnh:List PV→Store→Tr (PR×Store)|[.ptr 0 0],⟨[[.sl r .non,.int .i64 n]],[],[138]⟩=>.ite (qea r n) (.ret ((.val (.agg [.int .i64 (qci r n),.str (qct r n),.int .i64 (qbM r n),.int .i64 (qbL r n),.str (qbI r n)])),⟨[[.sl (qc4 r n) .non,.int .i64 n]],[],[138]⟩)) (.ite (qdQ r n) (.ret ((.pan (.iface 172 (.agg [.int .i64 (qc5 r n)]))),⟨[[.sl (qc9 r n) .non,.int .i64 n]],[],[138]⟩)) (.fail))|_,_=>.fail
theorem qml (gl:Gl):SimM Tryz.prog gl 113 fun args σ=>(qnh args σ).run:=by
 refine SimM.of_nrm (G:=qzr) (L:=qDH) qak (qE2 gl ) qah Tryz.func113 rfl (by rfl) (by kernel_rfl) (qac (by kernel_rfl)) ?_
 intro args σ x h;unfold qnh at h
 split at h
 ·exact (congrArg Tr.run (qKv _ _)).trans (qad h fun h=>qad h fun h=>by cases h)
 ·cases h
def qEE:GamT:=ofL [(85,.may (frameT qds)),(106,.may (frameT qbT))]
theorem qEB (gl:Gl):qam Tryz.prog gl (gam qEE):=(qai (SimM.frameT (qnx gl)) (qai (SimM.frameT (qbi gl)) qag))
def qAv:Code:=qcu Tryz.f149 2
def qBG:LI:=⟨20,[0,5,6,7],fun e=>match e with|.ret=>[2]|.exit 0=>[0]|_=>[],false⟩
def qyK:LpsT:=fun r fr σ=>.fail
def qpU (vs:List PV) (σ:Store):Option (PExit×List PV×Store):=lval (lstep tbT qEE qyK qAv qBG) vs σ
def qrp (r:qR) (n n2:Int) (r2:qR) (n3:Int):Tr LR:=let z1:=xStr r (nNat n2) 0;let z2:Store:=Store.mk [[.sl (qaa (qa5 6 z1 (qab r2) n3)) .non,.int .i64 n3]] [] [138];.ite (iLt n2 n) (.ite (qas n2) (.ite (qaM [.str []] r (nNat n2)) (.ite (qaG 6 z1 (qab r2) n3) (.ite (qa7 6 z1 (qab r2) n3) (.ret (.out .ret [.int .i64 (iAdd .i64 n2 1)] z2)) (.ret (.next [.ptr 0 0,.sl r .full,.int .i64 n,.int .i64 (iAdd .i64 n2 1)] z2))) .fail) .fail) .fail) (.ret (.out (.exit 0) [.ptr 0 0] (Store.mk [[.sl r2 .non,.int .i64 n3]] [] [138])))
theorem qNs (r:qR) (n n2:Int) (r2:qR) (n3:Int):lstep tbT qEE qyK qAv qBG [.ptr 0 0,.sl r .full,.int .i64 n,.int .i64 n2] ⟨[[.sl r2 .non,.int .i64 n3]],[],[138]⟩=qrp r n n2 r2 n3:=by kernel_rfl
theorem qD4 (r:qR) (n n2:Int) (r2:qR) (n3:Int):qpU [.ptr 0 0,.sl r .full,.int .i64 n,.int .i64 n2] ⟨[[.sl r2 .non,.int .i64 n3]],[],[138]⟩=lnext qpU (qrp r n n2 r2 n3).run:=by unfold qpU;rw [qaD,qNs]
def qr0 (r:qR) (n n2:Int) (r2:qR) (n3:Int):Option (PExit×List PV×Store):=qpU [.ptr 0 0,.sl r .full,.int .i64 n,.int .i64 n2] ⟨[[.sl r2 .non,.int .i64 n3]],[],[138]⟩
def qpn (r:qR) (n n2:Int) (r2:qR) (n3:Int):Int:=(gInt (gOut (qr0 r n n2 r2 n3) 0))
def qpJ (r:qR) (n n2:Int) (r2:qR) (n3:Int):qR:=(gRow (gAt (gObj (qr0 r n n2 r2 n3) 0) 0))
def quG (r:qR) (n n2:Int) (r2:qR) (n3:Int):Bool:=isW (qr0 r n n2 r2 n3) (.ret,[.int .i64 (qpn r n n2 r2 n3)],⟨[[.sl (qpJ r n n2 r2 n3) .non,.int .i64 n3]],[],[138]⟩)
def qoL (r:qR) (n n2:Int) (r2:qR) (n3:Int):qR:=(gRow (gAt (gObj (qr0 r n n2 r2 n3) 0) 0))
def qvz (r:qR) (n n2:Int) (r2:qR) (n3:Int):Bool:=isW (qr0 r n n2 r2 n3) ((.exit 0),[.ptr 0 0],⟨[[.sl (qoL r n n2 r2 n3) .non,.int .i64 n3]],[],[138]⟩)
def qme:List PV→Store→Tr (PExit×List PV×Store)|[.ptr 0 0,.sl r .full,.int .i64 n,.int .i64 n2],⟨[[.sl r2 .non,.int .i64 n3]],[],[138]⟩=>.ite (quG r n n2 r2 n3) (.ret (.ret,[.int .i64 (qpn r n n2 r2 n3)],⟨[[.sl (qpJ r n n2 r2 n3) .non,.int .i64 n3]],[],[138]⟩)) (.ite (qvz r n n2 r2 n3) (.ret ((.exit 0),[.ptr 0 0],⟨[[.sl (qoL r n n2 r2 n3) .non,.int .i64 n3]],[],[138]⟩)) (.fail))|_,_=>.fail
theorem qLO:∀ vs σ r,(qme vs σ).run=some r→qpU vs σ=some r:=by
 intro vs σ r h;unfold qme at h
 split at h
 ·exact qad h fun h=>qad h fun h=>by cases h
 ·cases h
theorem qDz (gl:Gl):∀ fr σ e fr' σ',(orc qBG qme fr σ).run=some (e,fr',σ')→LDoes Tryz.prog gl qAv fr σ e fr' σ':=qbq qak (qEB gl ) qah (L:=qyK) (qac (by kernel_rfl)) (by kernel_rfl) qLO
def qKb:LpsT:=fun r fr σ=>bif Nat.beq r 2 then orc qBG qme fr σ else .fail
def qAF (r:qR) (n:Int):Tr (PR×Store):=let z1:qR:=[[.str [61]],[.str [33,61]],[.str [60]],[.str [60,61]],[.str [62]],[.str [62,61]]];let z2:=xLen z1;let z3:=qab r;let z4:=qab (qoL z1 z2 0 z3 n);.ite (quG z1 z2 0 z3 n) (.ret (PR.val (.int .i64 (qpn z1 z2 0 z3 n)),Store.mk [[.sl (qaa (qpJ z1 z2 0 z3 n)) .non,.int .i64 n]] [] [138])) (.ite (qvz z1 z2 0 z3 n) (.ite (qmC z4 n) (.ret (PR.pan (.iface 172 (.agg [.int .i64 (qzP z4 n)])),Store.mk [[.sl (qaa (qaa (qAf z4 n))) .non,.int .i64 n]] [] [138])) .fail) .fail)
theorem qNR (r:qR) (n:Int):(nrmM tbT qEE qKb Tryz.f149 [.ptr 0 0] ⟨[[.sl r .non,.int .i64 n]],[],[138]⟩).flat=qAF r n:=by kernel_rfl
def qsi (r:qR) (n:Int):Option (PR×Store):=(qAF r n).run
def quJ (r:qR) (n:Int):Int:=(gInt (gOut (qaj (qsi r n)) 0))
def qu2 (r:qR) (n:Int):qR:=(gRow (gAt (gObj (qaj (qsi r n)) 0) 0))
def qyx (r:qR) (n:Int):Bool:=isW (qsi r n) ((.val (.int .i64 (quJ r n))),⟨[[.sl (qu2 r n) .non,.int .i64 n]],[],[138]⟩)
def qv0 (r:qR) (n:Int):Int:=(gInt (gAt (gCs (gAt (gCs (gOut (qaj (qsi r n)) 0)) 0)) 0))
def qu7 (r:qR) (n:Int):qR:=(gRow (gAt (gObj (qaj (qsi r n)) 0) 0))
def qAg (r:qR) (n:Int):Bool:=isW (qsi r n) ((.pan (.iface 172 (.agg [.int .i64 (qv0 r n)]))),⟨[[.sl (qu7 r n) .non,.int .i64 n]],[],[138]⟩)
def qJz:List PV→Store→Tr (PR×Store)|[.ptr 0 0],⟨[[.sl r .non,.int .i64 n]],[],[138]⟩=>.ite (qyx r n) (.ret ((.val (.int .i64 (quJ r n))),⟨[[.sl (qu2 r n) .non,.int .i64 n]],[],[138]⟩)) (.ite (qAg r n) (.ret ((.pan (.iface 172 (.agg [.int .i64 (qv0 r n)]))),⟨[[.sl (qu7 r n) .non,.int .i64 n]],[],[138]⟩)) (.fail))|_,_=>.fail
theorem qJA (gl:Gl):SimM Tryz.prog gl 149 fun args σ=>(qJz args σ).run:=by
 refine SimM.of_nrm (G:=qEE) (L:=qKb) qak (qEB gl ) qah Tryz.func149 rfl (by rfl) (by kernel_rfl) (qar (L:=lps qKb) [(2,qAv)] (by kernel_rfl) (List.forall_mem_cons.2 ⟨fun fr σ e fr' σ' h=>qDz gl  fr σ e fr' σ' h,(List.forall_mem_nil _)⟩)) ?_
 intro args σ x h;unfold qJz at h
 split at h
 ·exact (congrArg Tr.run (qNR _ _)).trans (qad h fun h=>qad h fun h=>by cases h)
 ·cases h
def qBX:GamT:=ofL [(106,.may (frameT qbT)),(113,.may (frameT qnh)),(qcD,.flag)]
theorem qFJ (gl:Gl):qam Tryz.prog gl (gam qBX):=(qai (SimM.frameT (qbi gl)) (qai (SimM.frameT (qml gl)) (qbj qag)))
def qxM:Code:=qcu Tryz.f151 2
def qxy:LI:=⟨17,[0,1,5],fun e=>match e with|.exit 0=>[5]|_=>[],false⟩
def qvR:LpsT:=fun r fr σ=>.fail
def qgS (vs:List PV) (σ:Store):Option (PExit×List PV×Store):=lval (lstep tbT qBX qvR qxM qxy) vs σ
def qqY (l r:qR) (n:Int):Tr LR:=let z1:=qaa (qa5 6 [44] (qab r) n);let z2:=qab z1;let z3:qR:=[[.int .i64 (qci z2 n),.str (qct z2 n),.int .i64 (qbM z2 n),.int .i64 (qbL z2 n),.str (qbI z2 n)]];.ite (qaG 6 [44] (qab r) n) (.ite (qa7 6 [44] (qab r) n) (.ite (qea z2 n) (.ite (qaP l z3 56) (.ite (qaC z3 5) (.ite (qaq l 5) (.ret (.next [.ptr 0 0,.mth 113 [.ptr 0 0],.sl (xApp l z3) (.tok 0)] (Store.mk [[.sl (qaa (qc4 z2 n)) .non,.int .i64 n]] [(nXs (xApp l z3),5,94)] [138]))) .fail) .fail) .fail) (.ite (qdQ z2 n) (.ret (.out (.pan (.iface 172 (.agg [.int .i64 (qc5 z2 n)]))) [] (Store.mk [[.sl (qaa (qc9 z2 n)) .non,.int .i64 n]] [] [138]))) .fail)) (.ret (.out (.exit 0) [.sl l .full] (Store.mk [[.sl z1 .non,.int .i64 n]] [] [138])))) .fail
theorem qMG (l r:qR) (n:Int):lstep tbT qBX qvR qxM qxy [.ptr 0 0,.mth 113 [.ptr 0 0],.sl l .full] ⟨[[.sl r .non,.int .i64 n]],[],[138]⟩=qqY l r n:=by kernel_rfl
theorem qMJ (l r:qR) (n:Int):qgS [.ptr 0 0,.mth 113 [.ptr 0 0],.sl l .full] ⟨[[.sl r .non,.int .i64 n]],[],[138]⟩=lnext qgS (qqY l r n).run:=by unfold qgS;rw [qaD,qMG]
def qkS (l r:qR) (n:Int) (k:Nat):Tr LR:=let z1:=qaa (qa5 6 [44] (qab r) n);let z2:=qab z1;let z3:qR:=[[.int .i64 (qci z2 n),.str (qct z2 n),.int .i64 (qbM z2 n),.int .i64 (qbL z2 n),.str (qbI z2 n)]];.ite (qaG 6 [44] (qab r) n) (.ite (qa7 6 [44] (qab r) n) (.ite (qea z2 n) (.ite (qaP l z3 56) (.ite (qaC z3 5) (.ite (qaq l 5) (.ite (nEq k (nXs l)) (.ret (.next [.ptr 0 0,.mth 113 [.ptr 0 0],.sl (xApp l z3) (.tok 0)] (Store.mk [[.sl (qaa (qc4 z2 n)) .non,.int .i64 n]] [(nXs (xApp l z3),5,94)] [138]))) .fail) .fail) .fail) .fail) (.ite (qdQ z2 n) (.ret (.out (.pan (.iface 172 (.agg [.int .i64 (qc5 z2 n)]))) [] (Store.mk [[.sl (qaa (qc9 z2 n)) .non,.int .i64 n]] [(k,5,94)] [138]))) .fail)) (.ret (.out (.exit 0) [.sl l (.tok 0)] (Store.mk [[.sl z1 .non,.int .i64 n]] [(k,5,94)] [138])))) .fail
theorem qKt (l r:qR) (n:Int) (k:Nat):lstep tbT qBX qvR qxM qxy [.ptr 0 0,.mth 113 [.ptr 0 0],.sl l (.tok 0)] ⟨[[.sl r .non,.int .i64 n]],[(k,5,94)],[138]⟩=qkS l r n k:=by kernel_rfl
theorem qK4 (l r:qR) (n:Int) (k:Nat):qgS [.ptr 0 0,.mth 113 [.ptr 0 0],.sl l (.tok 0)] ⟨[[.sl r .non,.int .i64 n]],[(k,5,94)],[138]⟩=lnext qgS (qkS l r n k).run:=by unfold qgS;rw [qaD,qKt]
def qdj (l r:qR) (n:Int):Option (PExit×List PV×Store):=qgS [.ptr 0 0,.mth 113 [.ptr 0 0],.sl l .full] ⟨[[.sl r .non,.int .i64 n]],[],[138]⟩
def qo6 (l r:qR) (n:Int):Int:=(gInt (gAt (gCs (gAt (gCs (gPan (qdj l r n))) 0)) 0))
def qoi (l r:qR) (n:Int):qR:=(gRow (gAt (gObj (qdj l r n) 0) 0))
def qwd (l r:qR) (n:Int):Bool:=isW (qdj l r n) ((.pan (.iface 172 (.agg [.int .i64 (qo6 l r n)]))),[],⟨[[.sl (qoi l r n) .non,.int .i64 n]],[],[138]⟩)
def qo2 (l r:qR) (n:Int):qR:=(gRow (gOut (qdj l r n) 0))
def qoh (l r:qR) (n:Int):qR:=(gRow (gAt (gObj (qdj l r n) 0) 0))
def qt8 (l r:qR) (n:Int):Bool:=isW (qdj l r n) ((.exit 0),[.sl (qo2 l r n) .full],⟨[[.sl (qoh l r n) .non,.int .i64 n]],[],[138]⟩)
def qoS (l r:qR) (n:Int):Int:=(gInt (gAt (gCs (gAt (gCs (gPan (qdj l r n))) 0)) 0))
def qpf (l r:qR) (n:Int):qR:=(gRow (gAt (gObj (qdj l r n) 0) 0))
def que (l r:qR) (n:Int):Nat:=(gTok (qdj l r n) 0)
def quv (l r:qR) (n:Int):Bool:=isW (qdj l r n) ((.pan (.iface 172 (.agg [.int .i64 (qoS l r n)]))),[],⟨[[.sl (qpf l r n) .non,.int .i64 n]],[((que l r n),5,94)],[138]⟩)
def qoO (l r:qR) (n:Int):qR:=(gRow (gOut (qdj l r n) 0))
def qn7 (l r:qR) (n:Int):qR:=(gRow (gAt (gObj (qdj l r n) 0) 0))
def qwF (l r:qR) (n:Int):Nat:=(gTok (qdj l r n) 0)
def qwy (l r:qR) (n:Int):Bool:=isW (qdj l r n) ((.exit 0),[.sl (qoO l r n) (.tok 0)],⟨[[.sl (qn7 l r n) .non,.int .i64 n]],[((qwF l r n),5,94)],[138]⟩)
def ql5:List PV→Store→Tr (PExit×List PV×Store)|[.ptr 0 0,.mth 113 [.ptr 0 0],.sl l .full],⟨[[.sl r .non,.int .i64 n]],[],[138]⟩=>.ite (qwd l r n) (.ret ((.pan (.iface 172 (.agg [.int .i64 (qo6 l r n)]))),[],⟨[[.sl (qoi l r n) .non,.int .i64 n]],[],[138]⟩)) (.ite (qt8 l r n) (.ret ((.exit 0),[.sl (qo2 l r n) .full],⟨[[.sl (qoh l r n) .non,.int .i64 n]],[],[138]⟩)) (.ite (quv l r n) (.ret ((.pan (.iface 172 (.agg [.int .i64 (qoS l r n)]))),[],⟨[[.sl (qpf l r n) .non,.int .i64 n]],[((que l r n),5,94)],[138]⟩)) (.ite (qwy l r n) (.ret ((.exit 0),[.sl (qoO l r n) (.tok 0)],⟨[[.sl (qn7 l r n) .non,.int .i64 n]],[((qwF l r n),5,94)],[138]⟩)) (.fail))))|_,_=>.fail
theorem qJY:∀ vs σ r,(ql5 vs σ).run=some r→qgS vs σ=some r:=by
 intro vs σ r h;unfold ql5 at h
 split at h
 ·exact qad h fun h=>qad h fun h=>qad h fun h=>qad h fun h=>by cases h
 ·cases h
theorem qGy (gl:Gl):∀ fr σ e fr' σ',(orc qxy ql5 fr σ).run=some (e,fr',σ')→LDoes Tryz.prog gl qxM fr σ e fr' σ':=qbq qak (qFJ gl ) qah (L:=qvR) (qac (by kernel_rfl)) (by kernel_rfl) qJY
def qLd:LpsT:=fun r fr σ=>bif Nat.beq r 2 then orc qxy ql5 fr σ else .fail
def qx5 (r:qR) (n:Int):Tr (PR×Store):=let z1:=qab (qab r);let z2:qR:=[[.int .i64 (qci z1 n),.str (qct z1 n),.int .i64 (qbM z1 n),.int .i64 (qbL z1 n),.str (qbI z1 n)]];let z3:=qaa (qc4 z1 n);.ite (qea z1 n) (.ite (qwd z2 z3 n) (.ret (PR.pan (.iface 172 (.agg [.int .i64 (qo6 z2 z3 n)])),Store.mk [[.sl (qaa (qoi z2 z3 n)) .non,.int .i64 n]] [] [138])) (.ite (qt8 z2 z3 n) (.ret (PR.val (.sl (qaa (qo2 z2 z3 n)) .non),Store.mk [[.sl (qaa (qoh z2 z3 n)) .non,.int .i64 n]] [] [138])) (.ite (quv z2 z3 n) (.ret (PR.pan (.iface 172 (.agg [.int .i64 (qoS z2 z3 n)])),Store.mk [[.sl (qaa (qpf z2 z3 n)) .non,.int .i64 n]] [] [138])) (.ite (qwy z2 z3 n) (.ret (PR.val (.sl (qaa (qoO z2 z3 n)) .non),Store.mk [[.sl (qaa (qn7 z2 z3 n)) .non,.int .i64 n]] [] [138])) .fail)))) (.ite (qdQ z1 n) (.ret (PR.pan (.iface 172 (.agg [.int .i64 (qc5 z1 n)])),Store.mk [[.sl (qaa (qaa (qc9 z1 n))) .non,.int .i64 n]] [] [138])) .fail)
theorem qNX (r:qR) (n:Int):(nrmM tbT qBX qLd Tryz.f151 [.ptr 0 0,.mth 113 [.ptr 0 0]] ⟨[[.sl r .non,.int .i64 n]],[],[138]⟩).flat=qx5 r n:=by kernel_rfl
def qr7 (r:qR) (n:Int):Option (PR×Store):=(qx5 r n).run
def qwq (r:qR) (n:Int):Int:=(gInt (gAt (gCs (gAt (gCs (gOut (qaj (qr7 r n)) 0)) 0)) 0))
def quq (r:qR) (n:Int):qR:=(gRow (gAt (gObj (qaj (qr7 r n)) 0) 0))
def qyD (r:qR) (n:Int):Bool:=isW (qr7 r n) ((.pan (.iface 172 (.agg [.int .i64 (qwq r n)]))),⟨[[.sl (quq r n) .non,.int .i64 n]],[],[138]⟩)
def qwL (r:qR) (n:Int):qR:=(gRow (gOut (qaj (qr7 r n)) 0))
def qpB (r:qR) (n:Int):qR:=(gRow (gAt (gObj (qaj (qr7 r n)) 0) 0))
def qzj (r:qR) (n:Int):Bool:=isW (qr7 r n) ((.val (.sl (qwL r n) .non)),⟨[[.sl (qpB r n) .non,.int .i64 n]],[],[138]⟩)
def qJD:List PV→Store→Tr (PR×Store)|[.ptr 0 0,.mth 113 [.ptr 0 0]],⟨[[.sl r .non,.int .i64 n]],[],[138]⟩=>.ite (qyD r n) (.ret ((.pan (.iface 172 (.agg [.int .i64 (qwq r n)]))),⟨[[.sl (quq r n) .non,.int .i64 n]],[],[138]⟩)) (.ite (qzj r n) (.ret ((.val (.sl (qwL r n) .non)),⟨[[.sl (qpB r n) .non,.int .i64 n]],[],[138]⟩)) (.fail))|_,_=>.fail
theorem qJ9 (gl:Gl):SimM Tryz.prog gl 151 fun args σ=>(qJD args σ).run:=by
 refine SimM.of_nrm (G:=qBX) (L:=qLd) qak (qFJ gl ) qah Tryz.func151 rfl (by rfl) (by kernel_rfl) (qar (L:=lps qLd) [(2,qxM)] (by kernel_rfl) (List.forall_mem_cons.2 ⟨fun fr σ e fr' σ' h=>qGy gl  fr σ e fr' σ' h,(List.forall_mem_nil _)⟩)) ?_
 intro args σ x h;unfold qJD at h
 split at h
 ·exact (congrArg Tr.run (qNX _ _)).trans (qad h fun h=>qad h fun h=>by cases h)
 ·cases h
def qLe:GamT:=ofL [(106,.may (frameT qbT)),(109,.may (frameT qgA)),(113,.may (frameT qnh)),(151,.may (frameT qJD)),(qcD,.flag)]
theorem qLX (gl:Gl):qam Tryz.prog gl (gam qLe):=(qai (SimM.frameT (qbi gl)) (qai (SimM.frameT (qec gl)) (qai (SimM.frameT (qml gl)) (qai (SimM.frameT (qJ9 gl)) (qbj qag)))))
def qNv:LpsT:=fun r fr σ=>.fail
def qpZ (r:qR) (n:Int):Tr (PR×Store):=let z1:=qab (qab r);let z2:=qab (qaa (qa9 [40] z1 n));let z3:=qaa (qa5 6 [41] z2 n);let z4:=qab z3;let z5:=qab (qaa (qpB z4 n));.ite (qbh [40] z1 n) (.ret (PR.pan (.iface 172 (.agg [.int .i64 (qa4 [40] z1 n)])),Store.mk [[.sl (qaa (qaa (qa6 [40] z1 n))) .non,.int .i64 n]] [] [138])) (.ite (qbg [40] z1 n) (.ite (qaG 6 [41] z2 n) (.ite (qa7 6 [41] z2 n) (.ret (PR.val (.sl [] .non),Store.mk [[.sl (qaa z3) .non,.int .i64 n]] [] [138])) (.ite (qyD z4 n) (.ret (PR.pan (.iface 172 (.agg [.int .i64 (qwq z4 n)])),Store.mk [[.sl (qaa (qaa (quq z4 n))) .non,.int .i64 n]] [] [138])) (.ite (qzj z4 n) (.ite (qbh [41] z5 n) (.ret (PR.pan (.iface 172 (.agg [.int .i64 (qa4 [41] z5 n)])),Store.mk [[.sl (qaa (qaa (qa6 [41] z5 n))) .non,.int .i64 n]] [] [138])) (.ite (qbg [41] z5 n) (.ret (PR.val (.sl (qaa (qaa (qwL z4 n))) .non),Store.mk [[.sl (qaa (qaa (qa9 [41] z5 n))) .non,.int .i64 n]] [] [138])) .fail)) .fail))) .fail) .fail)
theorem qNK (r:qR) (n:Int):(nrmM tbT qLe qNv Tryz.f112 [.ptr 0 0,.mth 113 [.ptr 0 0]] ⟨[[.sl r .non,.int .i64 n]],[],[138]⟩).flat=qpZ r n:=by kernel_rfl
def qnP (r:qR) (n:Int):Option (PR×Store):=(qpZ r n).run
def qwA (r:qR) (n:Int):Int:=(gInt (gAt (gCs (gAt (gCs (gOut (qaj (qnP r n)) 0)) 0)) 0))
def qtJ (r:qR) (n:Int):qR:=(gRow (gAt (gObj (qaj (qnP r n)) 0) 0))
def qyr (r:qR) (n:Int):Bool:=isW (qnP r n) ((.pan (.iface 172 (.agg [.int .i64 (qwA r n)]))),⟨[[.sl (qtJ r n) .non,.int .i64 n]],[],[138]⟩)
def qt1 (r:qR) (n:Int):qR:=(gRow (gOut (qaj (qnP r n)) 0))
def qpj (r:qR) (n:Int):qR:=(gRow (gAt (gObj (qaj (qnP r n)) 0) 0))
def qzb (r:qR) (n:Int):Bool:=isW (qnP r n) ((.val (.sl (qt1 r n) .non)),⟨[[.sl (qpj r n) .non,.int .i64 n]],[],[138]⟩)
def qKk:List PV→Store→Tr (PR×Store)|[.ptr 0 0,.mth 113 [.ptr 0 0]],⟨[[.sl r .non,.int .i64 n]],[],[138]⟩=>.ite (qyr r n) (.ret ((.pan (.iface 172 (.agg [.int .i64 (qwA r n)]))),⟨[[.sl (qtJ r n) .non,.int .i64 n]],[],[138]⟩)) (.ite (qzb r n) (.ret ((.val (.sl (qt1 r n) .non)),⟨[[.sl (qpj r n) .non,.int .i64 n]],[],[138]⟩)) (.fail))|_,_=>.fail
theorem qJp (gl:Gl):SimM Tryz.prog gl 112 fun args σ=>(qKk args σ).run:=by
 refine SimM.of_nrm (G:=qLe) (L:=qNv) qak (qLX gl ) qah Tryz.func112 rfl (by rfl) (by kernel_rfl) (qac (by kernel_rfl)) ?_
 intro args σ x h;unfold qKk at h
 split at h
 ·exact (congrArg Tr.run (qNK _ _)).trans (qad h fun h=>qad h fun h=>by cases h)
 ·cases h
def qzC:GamT:=ofL [(111,.may (frameT qqG)),(112,.may (frameT qKk)),(113,.may (frameT qnh)),(qcD,.flag)]
theorem qFs (gl:Gl):qam Tryz.prog gl (gam qzC):=(qai (SimM.frameT (qqQ gl)) (qai (SimM.frameT (qJp gl)) (qai (SimM.frameT (qml gl)) (qbj qag))))
def qGj:LpsT:=fun r fr σ=>.fail
def qoB (r:qR) (n:Int):Tr (PR×Store):=let z1:=qab (qab r);let z2:=qab (qaa (qfd z1 n));.ite (qhN z1 n) (.ret (PR.pan (.iface 172 (.agg [.int .i64 (qfa z1 n)])),Store.mk [[.sl (qaa (qaa (qfl z1 n))) .non,.int .i64 n]] [] [138])) (.ite (qhI z1 n) (.ite (qyr z2 n) (.ret (PR.pan (.iface 172 (.agg [.int .i64 (qwA z2 n)])),Store.mk [[.sl (qaa (qaa (qtJ z2 n))) .non,.int .i64 n]] [] [138])) (.ite (qzb z2 n) (.ret (PR.val (.agg [.str (qdW z1 n),.sl (qaa (qaa (qt1 z2 n))) .non]),Store.mk [[.sl (qaa (qaa (qpj z2 n))) .non,.int .i64 n]] [] [138])) .fail)) .fail)
theorem qKG (r:qR) (n:Int):(nrmM tbT qzC qGj Tryz.f51 [.ptr 0 0] ⟨[[.sl r .non,.int .i64 n]],[],[138]⟩).flat=qoB r n:=by kernel_rfl
def qeM (r:qR) (n:Int):Option (PR×Store):=(qoB r n).run
def qc8 (r:qR) (n:Int):Int:=(gInt (gAt (gCs (gAt (gCs (gOut (qaj (qeM r n)) 0)) 0)) 0))
def qc3 (r:qR) (n:Int):qR:=(gRow (gAt (gObj (qaj (qeM r n)) 0) 0))
def qeh (r:qR) (n:Int):Bool:=isW (qeM r n) ((.pan (.iface 172 (.agg [.int .i64 (qc8 r n)]))),⟨[[.sl (qc3 r n) .non,.int .i64 n]],[],[138]⟩)
def qcv (r:qR) (n:Int):qU:=(gStr (gAt (gCs (gOut (qaj (qeM r n)) 0)) 0))
def qd7 (r:qR) (n:Int):qR:=(gRow (gAt (gCs (gOut (qaj (qeM r n)) 0)) 1))
def qcT (r:qR) (n:Int):qR:=(gRow (gAt (gObj (qaj (qeM r n)) 0) 0))
def qdR (r:qR) (n:Int):Bool:=isW (qeM r n) ((.val (.agg [.str (qcv r n),.sl (qd7 r n) .non])),⟨[[.sl (qcT r n) .non,.int .i64 n]],[],[138]⟩)
def qpX:List PV→Store→Tr (PR×Store)|[.ptr 0 0],⟨[[.sl r .non,.int .i64 n]],[],[138]⟩=>.ite (qeh r n) (.ret ((.pan (.iface 172 (.agg [.int .i64 (qc8 r n)]))),⟨[[.sl (qc3 r n) .non,.int .i64 n]],[],[138]⟩)) (.ite (qdR r n) (.ret ((.val (.agg [.str (qcv r n),.sl (qd7 r n) .non])),⟨[[.sl (qcT r n) .non,.int .i64 n]],[],[138]⟩)) (.fail))|_,_=>.fail
theorem qrN (gl:Gl):SimM Tryz.prog gl 51 fun args σ=>(qpX args σ).run:=by
 refine SimM.of_nrm (G:=qzC) (L:=qGj) qak (qFs gl ) qah Tryz.func51 rfl (by rfl) (by kernel_rfl) (qac (by kernel_rfl)) ?_
 intro args σ x h;unfold qpX at h
 split at h
 ·exact (congrArg Tr.run (qKG _ _)).trans (qad h fun h=>qad h fun h=>by cases h)
 ·cases h
def qDY:GamT:=ofL [(51,.may (frameT qpX)),(106,.may (frameT qbT)),(113,.may (frameT qnh)),(148,.pure qn2),(149,.may (frameT qJz))]
theorem qHB (gl:Gl):qam Tryz.prog gl (gam qDY):=(qai (SimM.frameT (qrN gl)) (qai (SimM.frameT (qbi gl)) (qai (SimM.frameT (qml gl)) (qae (qtl gl) (qai (SimM.frameT (qJA gl)) qag)))))
def qJc:LpsT:=fun r fr σ=>.fail
def qj9 (r:qR) (n:Int):Tr (PR×Store):=let z1:=qab (qab r);let z2:=qab (qaa (qa5 1 [110,111,116] z1 n));let z3:=qaa (qaa (qd7 z2 n));let z4:qR:=[[.sl (qaa (qaa (qcT z2 n))) .non,.int .i64 n]];let z5:=qab (qaa (qc4 z2 n));let z6:=qab (qaa (qu2 z5 n));let z7:List PV:=[.int .i64 (qci z2 n),.str (qct z2 n),.int .i64 (qbM z2 n),.int .i64 (qbL z2 n),.str (qbI z2 n)];.ite (qaG 1 [110,111,116] z1 n) (.ite (qa7 1 [110,111,116] z1 n) (.ite (qeh z2 n) (.ret (PR.pan (.iface 172 (.agg [.int .i64 (qc8 z2 n)])),Store.mk [[.sl (qaa (qaa (qc3 z2 n))) .non,.int .i64 n]] [] [138])) (.ite (qdR z2 n) (.ret (PR.val (.agg [.int .i64 2,.str (qcv z2 n),.sl z3 .non,.int .i64 0,.int .i64 0,.str [],.int .i64 0,.int .i64 0,.str [],.int .i64 0,.str [],.int .i64 0,.int .i64 0,.str []]),Store.mk z4 [] [138])) .fail)) (.ite (qhT z2 n) (.ite (qmj z2 n) (.ite (qeh z2 n) (.ret (PR.pan (.iface 172 (.agg [.int .i64 (qc8 z2 n)])),Store.mk [[.sl (qaa (qaa (qc3 z2 n))) .non,.int .i64 n]] [] [138])) (.ite (qdR z2 n) (.ret (PR.val (.agg [.int .i64 1,.str (qcv z2 n),.sl z3 .non,.int .i64 0,.int .i64 0,.str [],.int .i64 0,.int .i64 0,.str [],.int .i64 0,.str [],.int .i64 0,.int .i64 0,.str []]),Store.mk z4 [] [138])) .fail)) (.ite (qea z2 n) (.ite (qyx z5 n) (.ite (qea z6 n) (.ite (qnE z7 z7) (.ret (PR.val (.agg [.int .i64 3,.str [],.sl [] .non,.int .i64 (quJ z5 n),.int .i64 (qci z2 n),.str (qct z2 n),.int .i64 (qbM z2 n),.int .i64 (qbL z2 n),.str (qbI z2 n),.int .i64 (qci z6 n),.str (qct z6 n),.int .i64 (qbM z6 n),.int .i64 (qbL z6 n),.str (qbI z6 n)]),Store.mk [[.sl (qaa (qaa (qc4 z6 n))) .non,.int .i64 n]] [] [138])) .fail) (.ite (qdQ z6 n) (.ret (PR.pan (.iface 172 (.agg [.int .i64 (qc5 z6 n)])),Store.mk [[.sl (qaa (qaa (qc9 z6 n))) .non,.int .i64 n]] [] [138])) .fail)) (.ite (qAg z5 n) (.ret (PR.pan (.iface 172 (.agg [.int .i64 (qv0 z5 n)])),Store.mk [[.sl (qaa (qaa (qu7 z5 n))) .non,.int .i64 n]] [] [138])) .fail)) (.ite (qdQ z2 n) (.ret (PR.pan (.iface 172 (.agg [.int .i64 (qc5 z2 n)])),Store.mk [[.sl (qaa (qaa (qc9 z2 n))) .non,.int .i64 n]] [] [138])) .fail))) .fail)) .fail
theorem qMT (r:qR) (n:Int):(nrmM tbT qDY qJc Tryz.f108 [.ptr 0 0] ⟨[[.sl r .non,.int .i64 n]],[],[138]⟩).flat=qj9 r n:=by kernel_rfl
def qbv (r:qR) (n:Int):Option (PR×Store):=(qj9 r n).run
def qit (r:qR) (n:Int):Int:=(gInt (gAt (gCs (gAt (gCs (gOut (qaj (qbv r n)) 0)) 0)) 0))
def qii (r:qR) (n:Int):qR:=(gRow (gAt (gObj (qaj (qbv r n)) 0) 0))
def qlB (r:qR) (n:Int):Bool:=isW (qbv r n) ((.pan (.iface 172 (.agg [.int .i64 (qit r n)]))),⟨[[.sl (qii r n) .non,.int .i64 n]],[],[138]⟩)
def qih (r:qR) (n:Int):Int:=(gInt (gAt (gCs (gOut (qaj (qbv r n)) 0)) 0))
def qiH (r:qR) (n:Int):qU:=(gStr (gAt (gCs (gOut (qaj (qbv r n)) 0)) 1))
def qif (r:qR) (n:Int):qR:=(gRow (gAt (gCs (gOut (qaj (qbv r n)) 0)) 2))
def qeQ (r:qR) (n:Int):Int:=(gInt (gAt (gCs (gOut (qaj (qbv r n)) 0)) 3))
def qfp (r:qR) (n:Int):Int:=(gInt (gAt (gCs (gOut (qaj (qbv r n)) 0)) 4))
def qfg (r:qR) (n:Int):qU:=(gStr (gAt (gCs (gOut (qaj (qbv r n)) 0)) 5))
def qeT (r:qR) (n:Int):Int:=(gInt (gAt (gCs (gOut (qaj (qbv r n)) 0)) 6))
def qfu (r:qR) (n:Int):Int:=(gInt (gAt (gCs (gOut (qaj (qbv r n)) 0)) 7))
def qfs (r:qR) (n:Int):qU:=(gStr (gAt (gCs (gOut (qaj (qbv r n)) 0)) 8))
def qeU (r:qR) (n:Int):Int:=(gInt (gAt (gCs (gOut (qaj (qbv r n)) 0)) 9))
def qe6 (r:qR) (n:Int):qU:=(gStr (gAt (gCs (gOut (qaj (qbv r n)) 0)) 10))
def qfC (r:qR) (n:Int):Int:=(gInt (gAt (gCs (gOut (qaj (qbv r n)) 0)) 11))
def qfc (r:qR) (n:Int):Int:=(gInt (gAt (gCs (gOut (qaj (qbv r n)) 0)) 12))
def qfv (r:qR) (n:Int):qU:=(gStr (gAt (gCs (gOut (qaj (qbv r n)) 0)) 13))
def qfn (r:qR) (n:Int):qR:=(gRow (gAt (gObj (qaj (qbv r n)) 0) 0))
def qlz (r:qR) (n:Int):Bool:=isW (qbv r n) ((.val (.agg [.int .i64 (qih r n),.str (qiH r n),.sl (qif r n) .non,.int .i64 (qeQ r n),.int .i64 (qfp r n),.str (qfg r n),.int .i64 (qeT r n),.int .i64 (qfu r n),.str (qfs r n),.int .i64 (qeU r n),.str (qe6 r n),.int .i64 (qfC r n),.int .i64 (qfc r n),.str (qfv r n)])),⟨[[.sl (qfn r n) .non,.int .i64 n]],[],[138]⟩)
def qAK:List PV→Store→Tr (PR×Store)|[.ptr 0 0],⟨[[.sl r .non,.int .i64 n]],[],[138]⟩=>.ite (qlB r n) (.ret ((.pan (.iface 172 (.agg [.int .i64 (qit r n)]))),⟨[[.sl (qii r n) .non,.int .i64 n]],[],[138]⟩)) (.ite (qlz r n) (.ret ((.val (.agg [.int .i64 (qih r n),.str (qiH r n),.sl (qif r n) .non,.int .i64 (qeQ r n),.int .i64 (qfp r n),.str (qfg r n),.int .i64 (qeT r n),.int .i64 (qfu r n),.str (qfs r n),.int .i64 (qeU r n),.str (qe6 r n),.int .i64 (qfC r n),.int .i64 (qfc r n),.str (qfv r n)])),⟨[[.sl (qfn r n) .non,.int .i64 n]],[],[138]⟩)) (.fail))|_,_=>.fail
theorem qAw (gl:Gl):SimM Tryz.prog gl 108 fun args σ=>(qAK args σ).run:=by
 refine SimM.of_nrm (G:=qDY) (L:=qJc) qak (qHB gl ) qah Tryz.func108 rfl (by rfl) (by kernel_rfl) (qac (by kernel_rfl)) ?_
 intro args σ x h;unfold qAK at h
 split at h
 ·exact (congrArg Tr.run (qMT _ _)).trans (qad h fun h=>qad h fun h=>by cases h)
 ·cases h
def qC1:GamT:=ofL [(106,.may (frameT qbT)),(108,.may (frameT qAK)),(qcD,.flag)]
theorem qGP (gl:Gl):qam Tryz.prog gl (gam qC1):=(qai (SimM.frameT (qbi gl)) (qai (SimM.frameT (qAw gl)) (qbj qag)))
def qxF:Code:=qcu Tryz.f107 2
def qx7:LI:=⟨17,[0,1,5],fun e=>match e with|.exit 0=>[5]|_=>[],false⟩
def quE:LpsT:=fun r fr σ=>.fail
def qgT (vs:List PV) (σ:Store):Option (PExit×List PV×Store):=lval (lstep tbT qC1 quE qxF qx7) vs σ
def qpV (l r:qR) (n:Int):Tr LR:=let z1:=qaa (qa5 6 [44] (qab r) n);let z2:=qab z1;let z3:qR:=[[.int .i64 (qih z2 n),.str (qiH z2 n),.sl (qaa (qif z2 n)) .non,.int .i64 (qeQ z2 n),.int .i64 (qfp z2 n),.str (qfg z2 n),.int .i64 (qeT z2 n),.int .i64 (qfu z2 n),.str (qfs z2 n),.int .i64 (qeU z2 n),.str (qe6 z2 n),.int .i64 (qfC z2 n),.int .i64 (qfc z2 n),.str (qfv z2 n)]];.ite (qaG 6 [44] (qab r) n) (.ite (qa7 6 [44] (qab r) n) (.ite (qlB z2 n) (.ret (.out (.pan (.iface 172 (.agg [.int .i64 (qit z2 n)]))) [] (Store.mk [[.sl (qaa (qii z2 n)) .non,.int .i64 n]] [] [138]))) (.ite (qlz z2 n) (.ite (qaP l z3 168) (.ite (qaC z3 14) (.ite (qaq l 14) (.ret (.next [.ptr 0 0,.mth 108 [.ptr 0 0],.sl (xApp l z3) (.tok 0)] (Store.mk [[.sl (qaa (qfn z2 n)) .non,.int .i64 n]] [(nXs (xApp l z3),14,96)] [138]))) .fail) .fail) .fail) .fail)) (.ret (.out (.exit 0) [.sl l .full] (Store.mk [[.sl z1 .non,.int .i64 n]] [] [138])))) .fail
theorem qMD (l r:qR) (n:Int):lstep tbT qC1 quE qxF qx7 [.ptr 0 0,.mth 108 [.ptr 0 0],.sl l .full] ⟨[[.sl r .non,.int .i64 n]],[],[138]⟩=qpV l r n:=by kernel_rfl
theorem qNm (l r:qR) (n:Int):qgT [.ptr 0 0,.mth 108 [.ptr 0 0],.sl l .full] ⟨[[.sl r .non,.int .i64 n]],[],[138]⟩=lnext qgT (qpV l r n).run:=by unfold qgT;rw [qaD,qMD]
def ql8 (l r:qR) (n:Int) (k:Nat):Tr LR:=let z1:=qaa (qa5 6 [44] (qab r) n);let z2:=qab z1;let z3:qR:=[[.int .i64 (qih z2 n),.str (qiH z2 n),.sl (qaa (qif z2 n)) .non,.int .i64 (qeQ z2 n),.int .i64 (qfp z2 n),.str (qfg z2 n),.int .i64 (qeT z2 n),.int .i64 (qfu z2 n),.str (qfs z2 n),.int .i64 (qeU z2 n),.str (qe6 z2 n),.int .i64 (qfC z2 n),.int .i64 (qfc z2 n),.str (qfv z2 n)]];.ite (qaG 6 [44] (qab r) n) (.ite (qa7 6 [44] (qab r) n) (.ite (qlB z2 n) (.ret (.out (.pan (.iface 172 (.agg [.int .i64 (qit z2 n)]))) [] (Store.mk [[.sl (qaa (qii z2 n)) .non,.int .i64 n]] [(k,14,96)] [138]))) (.ite (qlz z2 n) (.ite (qaP l z3 168) (.ite (qaC z3 14) (.ite (qaq l 14) (.ite (nEq k (nXs l)) (.ret (.next [.ptr 0 0,.mth 108 [.ptr 0 0],.sl (xApp l z3) (.tok 0)] (Store.mk [[.sl (qaa (qfn z2 n)) .non,.int .i64 n]] [(nXs (xApp l z3),14,96)] [138]))) .fail) .fail) .fail) .fail) .fail)) (.ret (.out (.exit 0) [.sl l (.tok 0)] (Store.mk [[.sl z1 .non,.int .i64 n]] [(k,14,96)] [138])))) .fail
theorem qJK (l r:qR) (n:Int) (k:Nat):lstep tbT qC1 quE qxF qx7 [.ptr 0 0,.mth 108 [.ptr 0 0],.sl l (.tok 0)] ⟨[[.sl r .non,.int .i64 n]],[(k,14,96)],[138]⟩=ql8 l r n k:=by kernel_rfl
theorem qJm (l r:qR) (n:Int) (k:Nat):qgT [.ptr 0 0,.mth 108 [.ptr 0 0],.sl l (.tok 0)] ⟨[[.sl r .non,.int .i64 n]],[(k,14,96)],[138]⟩=lnext qgT (ql8 l r n k).run:=by unfold qgT;rw [qaD,qJK]
def qdg (l r:qR) (n:Int):Option (PExit×List PV×Store):=qgT [.ptr 0 0,.mth 108 [.ptr 0 0],.sl l .full] ⟨[[.sl r .non,.int .i64 n]],[],[138]⟩
def qo5 (l r:qR) (n:Int):Int:=(gInt (gAt (gCs (gAt (gCs (gPan (qdg l r n))) 0)) 0))
def qpg (l r:qR) (n:Int):qR:=(gRow (gAt (gObj (qdg l r n) 0) 0))
def qtB (l r:qR) (n:Int):Bool:=isW (qdg l r n) ((.pan (.iface 172 (.agg [.int .i64 (qo5 l r n)]))),[],⟨[[.sl (qpg l r n) .non,.int .i64 n]],[],[138]⟩)
def qop (l r:qR) (n:Int):qR:=(gRow (gOut (qdg l r n) 0))
def qoZ (l r:qR) (n:Int):qR:=(gRow (gAt (gObj (qdg l r n) 0) 0))
def qvT (l r:qR) (n:Int):Bool:=isW (qdg l r n) ((.exit 0),[.sl (qop l r n) .full],⟨[[.sl (qoZ l r n) .non,.int .i64 n]],[],[138]⟩)
def qpv (l r:qR) (n:Int):Int:=(gInt (gAt (gCs (gAt (gCs (gPan (qdg l r n))) 0)) 0))
def qpy (l r:qR) (n:Int):qR:=(gRow (gAt (gObj (qdg l r n) 0) 0))
def qwn (l r:qR) (n:Int):Nat:=(gTok (qdg l r n) 0)
def qu6 (l r:qR) (n:Int):Bool:=isW (qdg l r n) ((.pan (.iface 172 (.agg [.int .i64 (qpv l r n)]))),[],⟨[[.sl (qpy l r n) .non,.int .i64 n]],[((qwn l r n),14,96)],[138]⟩)
def qoo (l r:qR) (n:Int):qR:=(gRow (gOut (qdg l r n) 0))
def qoW (l r:qR) (n:Int):qR:=(gRow (gAt (gObj (qdg l r n) 0) 0))
def quD (l r:qR) (n:Int):Nat:=(gTok (qdg l r n) 0)
def qt9 (l r:qR) (n:Int):Bool:=isW (qdg l r n) ((.exit 0),[.sl (qoo l r n) (.tok 0)],⟨[[.sl (qoW l r n) .non,.int .i64 n]],[((quD l r n),14,96)],[138]⟩)
def qkE:List PV→Store→Tr (PExit×List PV×Store)|[.ptr 0 0,.mth 108 [.ptr 0 0],.sl l .full],⟨[[.sl r .non,.int .i64 n]],[],[138]⟩=>.ite (qtB l r n) (.ret ((.pan (.iface 172 (.agg [.int .i64 (qo5 l r n)]))),[],⟨[[.sl (qpg l r n) .non,.int .i64 n]],[],[138]⟩)) (.ite (qvT l r n) (.ret ((.exit 0),[.sl (qop l r n) .full],⟨[[.sl (qoZ l r n) .non,.int .i64 n]],[],[138]⟩)) (.ite (qu6 l r n) (.ret ((.pan (.iface 172 (.agg [.int .i64 (qpv l r n)]))),[],⟨[[.sl (qpy l r n) .non,.int .i64 n]],[((qwn l r n),14,96)],[138]⟩)) (.ite (qt9 l r n) (.ret ((.exit 0),[.sl (qoo l r n) (.tok 0)],⟨[[.sl (qoW l r n) .non,.int .i64 n]],[((quD l r n),14,96)],[138]⟩)) (.fail))))|_,_=>.fail
theorem qLk:∀ vs σ r,(qkE vs σ).run=some r→qgT vs σ=some r:=by
 intro vs σ r h;unfold qkE at h
 split at h
 ·exact qad h fun h=>qad h fun h=>qad h fun h=>qad h fun h=>by cases h
 ·cases h
theorem qDD (gl:Gl):∀ fr σ e fr' σ',(orc qx7 qkE fr σ).run=some (e,fr',σ')→LDoes Tryz.prog gl qxF fr σ e fr' σ':=qbq qak (qGP gl ) qah (L:=quE) (qac (by kernel_rfl)) (by kernel_rfl) qLk
def qLj:LpsT:=fun r fr σ=>bif Nat.beq r 2 then orc qx7 qkE fr σ else .fail
def qxS (r:qR) (n:Int):Tr (PR×Store):=let z1:=qab (qab r);let z2:qR:=[[.int .i64 (qih z1 n),.str (qiH z1 n),.sl (qaa (qif z1 n)) .non,.int .i64 (qeQ z1 n),.int .i64 (qfp z1 n),.str (qfg z1 n),.int .i64 (qeT z1 n),.int .i64 (qfu z1 n),.str (qfs z1 n),.int .i64 (qeU z1 n),.str (qe6 z1 n),.int .i64 (qfC z1 n),.int .i64 (qfc z1 n),.str (qfv z1 n)]];let z3:=qaa (qfn z1 n);.ite (qlB z1 n) (.ret (PR.pan (.iface 172 (.agg [.int .i64 (qit z1 n)])),Store.mk [[.sl (qaa (qaa (qii z1 n))) .non,.int .i64 n]] [] [138])) (.ite (qlz z1 n) (.ite (qtB z2 z3 n) (.ret (PR.pan (.iface 172 (.agg [.int .i64 (qo5 z2 z3 n)])),Store.mk [[.sl (qaa (qpg z2 z3 n)) .non,.int .i64 n]] [] [138])) (.ite (qvT z2 z3 n) (.ret (PR.val (.sl (qaa (qop z2 z3 n)) .non),Store.mk [[.sl (qaa (qoZ z2 z3 n)) .non,.int .i64 n]] [] [138])) (.ite (qu6 z2 z3 n) (.ret (PR.pan (.iface 172 (.agg [.int .i64 (qpv z2 z3 n)])),Store.mk [[.sl (qaa (qpy z2 z3 n)) .non,.int .i64 n]] [] [138])) (.ite (qt9 z2 z3 n) (.ret (PR.val (.sl (qaa (qoo z2 z3 n)) .non),Store.mk [[.sl (qaa (qoW z2 z3 n)) .non,.int .i64 n]] [] [138])) .fail)))) .fail)
theorem qNV (r:qR) (n:Int):(nrmM tbT qC1 qLj Tryz.f107 [.ptr 0 0,.mth 108 [.ptr 0 0]] ⟨[[.sl r .non,.int .i64 n]],[],[138]⟩).flat=qxS r n:=by kernel_rfl
def qse (r:qR) (n:Int):Option (PR×Store):=(qxS r n).run
def qvN (r:qR) (n:Int):Int:=(gInt (gAt (gCs (gAt (gCs (gOut (qaj (qse r n)) 0)) 0)) 0))
def qvc (r:qR) (n:Int):qR:=(gRow (gAt (gObj (qaj (qse r n)) 0) 0))
def qzA (r:qR) (n:Int):Bool:=isW (qse r n) ((.pan (.iface 172 (.agg [.int .i64 (qvN r n)]))),⟨[[.sl (qvc r n) .non,.int .i64 n]],[],[138]⟩)
def quF (r:qR) (n:Int):qR:=(gRow (gOut (qaj (qse r n)) 0))
def qoH (r:qR) (n:Int):qR:=(gRow (gAt (gObj (qaj (qse r n)) 0) 0))
def qy6 (r:qR) (n:Int):Bool:=isW (qse r n) ((.val (.sl (quF r n) .non)),⟨[[.sl (qoH r n) .non,.int .i64 n]],[],[138]⟩)
def qKR:List PV→Store→Tr (PR×Store)|[.ptr 0 0,.mth 108 [.ptr 0 0]],⟨[[.sl r .non,.int .i64 n]],[],[138]⟩=>.ite (qzA r n) (.ret ((.pan (.iface 172 (.agg [.int .i64 (qvN r n)]))),⟨[[.sl (qvc r n) .non,.int .i64 n]],[],[138]⟩)) (.ite (qy6 r n) (.ret ((.val (.sl (quF r n) .non)),⟨[[.sl (qoH r n) .non,.int .i64 n]],[],[138]⟩)) (.fail))|_,_=>.fail
theorem qKx (gl:Gl):SimM Tryz.prog gl 107 fun args σ=>(qKR args σ).run:=by
 refine SimM.of_nrm (G:=qC1) (L:=qLj) qak (qGP gl ) qah Tryz.func107 rfl (by rfl) (by kernel_rfl) (qar (L:=lps qLj) [(2,qxF)] (by kernel_rfl) (List.forall_mem_cons.2 ⟨fun fr σ e fr' σ' h=>qDD gl  fr σ e fr' σ' h,(List.forall_mem_nil _)⟩)) ?_
 intro args σ x h;unfold qKR at h
 split at h
 ·exact (congrArg Tr.run (qNV _ _)).trans (qad h fun h=>qad h fun h=>by cases h)
 ·cases h
def qzi:GamT:=ofL [(51,.may (frameT qpX)),(106,.may (frameT qbT)),(107,.may (frameT qKR)),(108,.may (frameT qAK)),(109,.may (frameT qgA)),(qcD,.flag)]
theorem qFg (gl:Gl):qam Tryz.prog gl (gam qzi):=(qai (SimM.frameT (qrN gl)) (qai (SimM.frameT (qbi gl)) (qai (SimM.frameT (qKx gl)) (qai (SimM.frameT (qAw gl)) (qai (SimM.frameT (qec gl)) (qbj qag))))))
def qDV:LpsT:=fun r fr σ=>.fail
def qh1 (r:qR) (n:Int):Tr (PR×Store):=let z1:=qab (qab r);let z2:=qab (qaa (qcT z1 n));let z3:=qab (qaa (qa5 6 [58,45] z2 n));let z4:=qab (qaa (qoH z3 n));let z5:=qaa (qaa (qd7 z1 n));.ite (qeh z1 n) (.ret (PR.pan (.iface 172 (.agg [.int .i64 (qc8 z1 n)])),Store.mk [[.sl (qaa (qaa (qc3 z1 n))) .non,.int .i64 n]] [] [138])) (.ite (qdR z1 n) (.ite (qaG 6 [58,45] z2 n) (.ite (qa7 6 [58,45] z2 n) (.ite (qzA z3 n) (.ret (PR.pan (.iface 172 (.agg [.int .i64 (qvN z3 n)])),Store.mk [[.sl (qaa (qaa (qvc z3 n))) .non,.int .i64 n]] [] [138])) (.ite (qy6 z3 n) (.ite (qbh [46] z4 n) (.ret (PR.pan (.iface 172 (.agg [.int .i64 (qa4 [46] z4 n)])),Store.mk [[.sl (qaa (qaa (qa6 [46] z4 n))) .non,.int .i64 n]] [] [138])) (.ite (qbg [46] z4 n) (.ret (PR.val (.agg [.str (qcv z1 n),.sl z5 .non,.sl (qaa (qaa (quF z3 n))) .non]),Store.mk [[.sl (qaa (qaa (qa9 [46] z4 n))) .non,.int .i64 n]] [] [138])) .fail)) .fail)) (.ite (qbh [46] z3 n) (.ret (PR.pan (.iface 172 (.agg [.int .i64 (qa4 [46] z3 n)])),Store.mk [[.sl (qaa (qaa (qa6 [46] z3 n))) .non,.int .i64 n]] [] [138])) (.ite (qbg [46] z3 n) (.ret (PR.val (.agg [.str (qcv z1 n),.sl z5 .non,.sl [] .non]),Store.mk [[.sl (qaa (qaa (qa9 [46] z3 n))) .non,.int .i64 n]] [] [138])) .fail))) .fail) .fail)
theorem qJM (r:qR) (n:Int):(nrmM tbT qzi qDV Tryz.f47 [.ptr 0 0] ⟨[[.sl r .non,.int .i64 n]],[],[138]⟩).flat=qh1 r n:=by kernel_rfl
def qcN (r:qR) (n:Int):Option (PR×Store):=(qh1 r n).run
def qht (r:qR) (n:Int):Int:=(gInt (gAt (gCs (gAt (gCs (gOut (qaj (qcN r n)) 0)) 0)) 0))
def qg5 (r:qR) (n:Int):qR:=(gRow (gAt (gObj (qaj (qcN r n)) 0) 0))
def qlo (r:qR) (n:Int):Bool:=isW (qcN r n) ((.pan (.iface 172 (.agg [.int .i64 (qht r n)]))),⟨[[.sl (qg5 r n) .non,.int .i64 n]],[],[138]⟩)
def qhv (r:qR) (n:Int):qU:=(gStr (gAt (gCs (gOut (qaj (qcN r n)) 0)) 0))
def qhh (r:qR) (n:Int):qR:=(gRow (gAt (gCs (gOut (qaj (qcN r n)) 0)) 1))
def qfB (r:qR) (n:Int):qR:=(gRow (gAt (gCs (gOut (qaj (qcN r n)) 0)) 2))
def qft (r:qR) (n:Int):qR:=(gRow (gAt (gObj (qaj (qcN r n)) 0) 0))
def qlu (r:qR) (n:Int):Bool:=isW (qcN r n) ((.val (.agg [.str (qhv r n),.sl (qhh r n) .non,.sl (qfB r n) .non])),⟨[[.sl (qft r n) .non,.int .i64 n]],[],[138]⟩)
def qtz:List PV→Store→Tr (PR×Store)|[.ptr 0 0],⟨[[.sl r .non,.int .i64 n]],[],[138]⟩=>.ite (qlo r n) (.ret ((.pan (.iface 172 (.agg [.int .i64 (qht r n)]))),⟨[[.sl (qg5 r n) .non,.int .i64 n]],[],[138]⟩)) (.ite (qlu r n) (.ret ((.val (.agg [.str (qhv r n),.sl (qhh r n) .non,.sl (qfB r n) .non])),⟨[[.sl (qft r n) .non,.int .i64 n]],[],[138]⟩)) (.fail))|_,_=>.fail
theorem qwR (gl:Gl):SimM Tryz.prog gl 47 fun args σ=>(qtz args σ).run:=by
 refine SimM.of_nrm (G:=qzi) (L:=qDV) qak (qFg gl ) qah Tryz.func47 rfl (by rfl) (by kernel_rfl) (qac (by kernel_rfl)) ?_
 intro args σ x h;unfold qtz at h
 split at h
 ·exact (congrArg Tr.run (qJM _ _)).trans (qad h fun h=>qad h fun h=>by cases h)
 ·cases h
def qDp:GamT:=ofL [(106,.may (frameT qbT)),(138,.may (frameT qsW)),(qcD,.flag)]
theorem qET (gl:Gl):qam Tryz.prog gl (gam qDp):=(qai (SimM.frameT (qbi gl)) (qai (SimM.frameT (qpq gl)) (qbj qag)))
def qxe:Code:=qcu Tryz.f161 2
def qxm:LI:=⟨17,[0,1,5],fun e=>match e with|.exit 0=>[5]|_=>[],false⟩
def qws:LpsT:=fun r fr σ=>.fail
def qgU (vs:List PV) (σ:Store):Option (PExit×List PV×Store):=lval (lstep tbT qDp qws qxe qxm) vs σ
def qrh (l r:qR) (n:Int):Tr LR:=let z1:=qaa (qa5 6 [44] (qab r) n);let z2:=qab z1;let z3:qR:=[[.int .i64 (qfX z2 n)]];.ite (qaG 6 [44] (qab r) n) (.ite (qa7 6 [44] (qab r) n) (.ite (qhW z2 n) (.ite (qaP l z3 8) (.ite (qaC z3 1) (.ite (qaq l 1) (.ret (.next [.ptr 0 0,.mth 138 [.ptr 0 0],.sl (xApp l z3) (.tok 0)] (Store.mk [[.sl (qaa (qgm z2 n)) .non,.int .i64 n]] [(nXs (xApp l z3),1,112)] [138]))) .fail) .fail) .fail) (.ite (qiE z2 n) (.ret (.out (.pan (.iface 172 (.agg [.int .i64 (qgB z2 n)]))) [] (Store.mk [[.sl (qaa (qgc z2 n)) .non,.int .i64 n]] [] [138]))) .fail)) (.ret (.out (.exit 0) [.sl l .full] (Store.mk [[.sl z1 .non,.int .i64 n]] [] [138])))) .fail
theorem qMV (l r:qR) (n:Int):lstep tbT qDp qws qxe qxm [.ptr 0 0,.mth 138 [.ptr 0 0],.sl l .full] ⟨[[.sl r .non,.int .i64 n]],[],[138]⟩=qrh l r n:=by kernel_rfl
theorem qMB (l r:qR) (n:Int):qgU [.ptr 0 0,.mth 138 [.ptr 0 0],.sl l .full] ⟨[[.sl r .non,.int .i64 n]],[],[138]⟩=lnext qgU (qrh l r n).run:=by unfold qgU;rw [qaD,qMV]
def qmg (l r:qR) (n:Int) (k:Nat):Tr LR:=let z1:=qaa (qa5 6 [44] (qab r) n);let z2:=qab z1;let z3:qR:=[[.int .i64 (qfX z2 n)]];.ite (qaG 6 [44] (qab r) n) (.ite (qa7 6 [44] (qab r) n) (.ite (qhW z2 n) (.ite (qaP l z3 8) (.ite (qaC z3 1) (.ite (qaq l 1) (.ite (nEq k (nXs l)) (.ret (.next [.ptr 0 0,.mth 138 [.ptr 0 0],.sl (xApp l z3) (.tok 0)] (Store.mk [[.sl (qaa (qgm z2 n)) .non,.int .i64 n]] [(nXs (xApp l z3),1,112)] [138]))) .fail) .fail) .fail) .fail) (.ite (qiE z2 n) (.ret (.out (.pan (.iface 172 (.agg [.int .i64 (qgB z2 n)]))) [] (Store.mk [[.sl (qaa (qgc z2 n)) .non,.int .i64 n]] [(k,1,112)] [138]))) .fail)) (.ret (.out (.exit 0) [.sl l (.tok 0)] (Store.mk [[.sl z1 .non,.int .i64 n]] [(k,1,112)] [138])))) .fail
theorem qKM (l r:qR) (n:Int) (k:Nat):lstep tbT qDp qws qxe qxm [.ptr 0 0,.mth 138 [.ptr 0 0],.sl l (.tok 0)] ⟨[[.sl r .non,.int .i64 n]],[(k,1,112)],[138]⟩=qmg l r n k:=by kernel_rfl
theorem qK9 (l r:qR) (n:Int) (k:Nat):qgU [.ptr 0 0,.mth 138 [.ptr 0 0],.sl l (.tok 0)] ⟨[[.sl r .non,.int .i64 n]],[(k,1,112)],[138]⟩=lnext qgU (qmg l r n k).run:=by unfold qgU;rw [qaD,qKM]
def qdh (l r:qR) (n:Int):Option (PExit×List PV×Store):=qgU [.ptr 0 0,.mth 138 [.ptr 0 0],.sl l .full] ⟨[[.sl r .non,.int .i64 n]],[],[138]⟩
def qnY (l r:qR) (n:Int):Int:=(gInt (gAt (gCs (gAt (gCs (gPan (qdh l r n))) 0)) 0))
def qok (l r:qR) (n:Int):qR:=(gRow (gAt (gObj (qdh l r n) 0) 0))
def quf (l r:qR) (n:Int):Bool:=isW (qdh l r n) ((.pan (.iface 172 (.agg [.int .i64 (qnY l r n)]))),[],⟨[[.sl (qok l r n) .non,.int .i64 n]],[],[138]⟩)
def qpA (l r:qR) (n:Int):qR:=(gRow (gOut (qdh l r n) 0))
def qpM (l r:qR) (n:Int):qR:=(gRow (gAt (gObj (qdh l r n) 0) 0))
def qv8 (l r:qR) (n:Int):Bool:=isW (qdh l r n) ((.exit 0),[.sl (qpA l r n) .full],⟨[[.sl (qpM l r n) .non,.int .i64 n]],[],[138]⟩)
def qpL (l r:qR) (n:Int):Int:=(gInt (gAt (gCs (gAt (gCs (gPan (qdh l r n))) 0)) 0))
def qpI (l r:qR) (n:Int):qR:=(gRow (gAt (gObj (qdh l r n) 0) 0))
def quj (l r:qR) (n:Int):Nat:=(gTok (qdh l r n) 0)
def qvX (l r:qR) (n:Int):Bool:=isW (qdh l r n) ((.pan (.iface 172 (.agg [.int .i64 (qpL l r n)]))),[],⟨[[.sl (qpI l r n) .non,.int .i64 n]],[((quj l r n),1,112)],[138]⟩)
def qpd (l r:qR) (n:Int):qR:=(gRow (gOut (qdh l r n) 0))
def qoq (l r:qR) (n:Int):qR:=(gRow (gAt (gObj (qdh l r n) 0) 0))
def qul (l r:qR) (n:Int):Nat:=(gTok (qdh l r n) 0)
def qvW (l r:qR) (n:Int):Bool:=isW (qdh l r n) ((.exit 0),[.sl (qpd l r n) (.tok 0)],⟨[[.sl (qoq l r n) .non,.int .i64 n]],[((qul l r n),1,112)],[138]⟩)
def qlb:List PV→Store→Tr (PExit×List PV×Store)|[.ptr 0 0,.mth 138 [.ptr 0 0],.sl l .full],⟨[[.sl r .non,.int .i64 n]],[],[138]⟩=>.ite (quf l r n) (.ret ((.pan (.iface 172 (.agg [.int .i64 (qnY l r n)]))),[],⟨[[.sl (qok l r n) .non,.int .i64 n]],[],[138]⟩)) (.ite (qv8 l r n) (.ret ((.exit 0),[.sl (qpA l r n) .full],⟨[[.sl (qpM l r n) .non,.int .i64 n]],[],[138]⟩)) (.ite (qvX l r n) (.ret ((.pan (.iface 172 (.agg [.int .i64 (qpL l r n)]))),[],⟨[[.sl (qpI l r n) .non,.int .i64 n]],[((quj l r n),1,112)],[138]⟩)) (.ite (qvW l r n) (.ret ((.exit 0),[.sl (qpd l r n) (.tok 0)],⟨[[.sl (qoq l r n) .non,.int .i64 n]],[((qul l r n),1,112)],[138]⟩)) (.fail))))|_,_=>.fail
theorem qMd:∀ vs σ r,(qlb vs σ).run=some r→qgU vs σ=some r:=by
 intro vs σ r h;unfold qlb at h
 split at h
 ·exact qad h fun h=>qad h fun h=>qad h fun h=>qad h fun h=>by cases h
 ·cases h
theorem qGh (gl:Gl):∀ fr σ e fr' σ',(orc qxm qlb fr σ).run=some (e,fr',σ')→LDoes Tryz.prog gl qxe fr σ e fr' σ':=qbq qak (qET gl ) qah (L:=qws) (qac (by kernel_rfl)) (by kernel_rfl) qMd
def qJF:LpsT:=fun r fr σ=>bif Nat.beq r 2 then orc qxm qlb fr σ else .fail
def qwX (r:qR) (n:Int):Tr (PR×Store):=let z1:=qab (qab r);let z2:qR:=[[.int .i64 (qfX z1 n)]];let z3:=qaa (qgm z1 n);.ite (qhW z1 n) (.ite (quf z2 z3 n) (.ret (PR.pan (.iface 172 (.agg [.int .i64 (qnY z2 z3 n)])),Store.mk [[.sl (qaa (qok z2 z3 n)) .non,.int .i64 n]] [] [138])) (.ite (qv8 z2 z3 n) (.ret (PR.val (.sl (qaa (qpA z2 z3 n)) .non),Store.mk [[.sl (qaa (qpM z2 z3 n)) .non,.int .i64 n]] [] [138])) (.ite (qvX z2 z3 n) (.ret (PR.pan (.iface 172 (.agg [.int .i64 (qpL z2 z3 n)])),Store.mk [[.sl (qaa (qpI z2 z3 n)) .non,.int .i64 n]] [] [138])) (.ite (qvW z2 z3 n) (.ret (PR.val (.sl (qaa (qpd z2 z3 n)) .non),Store.mk [[.sl (qaa (qoq z2 z3 n)) .non,.int .i64 n]] [] [138])) .fail)))) (.ite (qiE z1 n) (.ret (PR.pan (.iface 172 (.agg [.int .i64 (qgB z1 n)])),Store.mk [[.sl (qaa (qaa (qgc z1 n))) .non,.int .i64 n]] [] [138])) .fail)
theorem qNU (r:qR) (n:Int):(nrmM tbT qDp qJF Tryz.f161 [.ptr 0 0,.mth 138 [.ptr 0 0]] ⟨[[.sl r .non,.int .i64 n]],[],[138]⟩).flat=qwX r n:=by kernel_rfl
def qsl (r:qR) (n:Int):Option (PR×Store):=(qwX r n).run
def qui (r:qR) (n:Int):Int:=(gInt (gAt (gCs (gAt (gCs (gOut (qaj (qsl r n)) 0)) 0)) 0))
def qup (r:qR) (n:Int):qR:=(gRow (gAt (gObj (qaj (qsl r n)) 0) 0))
def qzs (r:qR) (n:Int):Bool:=isW (qsl r n) ((.pan (.iface 172 (.agg [.int .i64 (qui r n)]))),⟨[[.sl (qup r n) .non,.int .i64 n]],[],[138]⟩)
def qvZ (r:qR) (n:Int):qR:=(gRow (gOut (qaj (qsl r n)) 0))
def qoM (r:qR) (n:Int):qR:=(gRow (gAt (gObj (qaj (qsl r n)) 0) 0))
def qyw (r:qR) (n:Int):Bool:=isW (qsl r n) ((.val (.sl (qvZ r n) .non)),⟨[[.sl (qoM r n) .non,.int .i64 n]],[],[138]⟩)
def qJu:List PV→Store→Tr (PR×Store)|[.ptr 0 0,.mth 138 [.ptr 0 0]],⟨[[.sl r .non,.int .i64 n]],[],[138]⟩=>.ite (qzs r n) (.ret ((.pan (.iface 172 (.agg [.int .i64 (qui r n)]))),⟨[[.sl (qup r n) .non,.int .i64 n]],[],[138]⟩)) (.ite (qyw r n) (.ret ((.val (.sl (qvZ r n) .non)),⟨[[.sl (qoM r n) .non,.int .i64 n]],[],[138]⟩)) (.fail))|_,_=>.fail
theorem qJy (gl:Gl):SimM Tryz.prog gl 161 fun args σ=>(qJu args σ).run:=by
 refine SimM.of_nrm (G:=qDp) (L:=qJF) qak (qET gl ) qah Tryz.func161 rfl (by rfl) (by kernel_rfl) (qar (L:=lps qJF) [(2,qxe)] (by kernel_rfl) (List.forall_mem_cons.2 ⟨fun fr σ e fr' σ' h=>qGh gl  fr σ e fr' σ' h,(List.forall_mem_nil _)⟩)) ?_
 intro args σ x h;unfold qJu at h
 split at h
 ·exact (congrArg Tr.run (qNU _ _)).trans (qad h fun h=>qad h fun h=>by cases h)
 ·cases h
def qLr:GamT:=ofL [(106,.may (frameT qbT)),(109,.may (frameT qgA)),(138,.may (frameT qsW)),(161,.may (frameT qJu)),(qcD,.flag)]
theorem qJC (gl:Gl):qam Tryz.prog gl (gam qLr):=(qai (SimM.frameT (qbi gl)) (qai (SimM.frameT (qec gl)) (qai (SimM.frameT (qpq gl)) (qai (SimM.frameT (qJy gl)) (qbj qag)))))
def qNr:LpsT:=fun r fr σ=>.fail
def qrB (r:qR) (n:Int):Tr (PR×Store):=let z1:=qab (qab r);let z2:=qab (qaa (qa9 [40] z1 n));let z3:=qaa (qa5 6 [41] z2 n);let z4:=qab z3;let z5:=qab (qaa (qoM z4 n));.ite (qbh [40] z1 n) (.ret (PR.pan (.iface 172 (.agg [.int .i64 (qa4 [40] z1 n)])),Store.mk [[.sl (qaa (qaa (qa6 [40] z1 n))) .non,.int .i64 n]] [] [138])) (.ite (qbg [40] z1 n) (.ite (qaG 6 [41] z2 n) (.ite (qa7 6 [41] z2 n) (.ret (PR.val (.sl [] .non),Store.mk [[.sl (qaa z3) .non,.int .i64 n]] [] [138])) (.ite (qzs z4 n) (.ret (PR.pan (.iface 172 (.agg [.int .i64 (qui z4 n)])),Store.mk [[.sl (qaa (qaa (qup z4 n))) .non,.int .i64 n]] [] [138])) (.ite (qyw z4 n) (.ite (qbh [41] z5 n) (.ret (PR.pan (.iface 172 (.agg [.int .i64 (qa4 [41] z5 n)])),Store.mk [[.sl (qaa (qaa (qa6 [41] z5 n))) .non,.int .i64 n]] [] [138])) (.ite (qbg [41] z5 n) (.ret (PR.val (.sl (qaa (qaa (qvZ z4 n))) .non),Store.mk [[.sl (qaa (qaa (qa9 [41] z5 n))) .non,.int .i64 n]] [] [138])) .fail)) .fail))) .fail) .fail)
theorem qNy (r:qR) (n:Int):(nrmM tbT qLr qNr Tryz.f137 [.ptr 0 0,.mth 138 [.ptr 0 0]] ⟨[[.sl r .non,.int .i64 n]],[],[138]⟩).flat=qrB r n:=by kernel_rfl
def qnN (r:qR) (n:Int):Option (PR×Store):=(qrB r n).run
def qt4 (r:qR) (n:Int):Int:=(gInt (gAt (gCs (gAt (gCs (gOut (qaj (qnN r n)) 0)) 0)) 0))
def qvp (r:qR) (n:Int):qR:=(gRow (gAt (gObj (qaj (qnN r n)) 0) 0))
def qyF (r:qR) (n:Int):Bool:=isW (qnN r n) ((.pan (.iface 172 (.agg [.int .i64 (qt4 r n)]))),⟨[[.sl (qvp r n) .non,.int .i64 n]],[],[138]⟩)
def qu5 (r:qR) (n:Int):qR:=(gRow (gOut (qaj (qnN r n)) 0))
def qpl (r:qR) (n:Int):qR:=(gRow (gAt (gObj (qaj (qnN r n)) 0) 0))
def qzp (r:qR) (n:Int):Bool:=isW (qnN r n) ((.val (.sl (qu5 r n) .non)),⟨[[.sl (qpl r n) .non,.int .i64 n]],[],[138]⟩)
def qLG:List PV→Store→Tr (PR×Store)|[.ptr 0 0,.mth 138 [.ptr 0 0]],⟨[[.sl r .non,.int .i64 n]],[],[138]⟩=>.ite (qyF r n) (.ret ((.pan (.iface 172 (.agg [.int .i64 (qt4 r n)]))),⟨[[.sl (qvp r n) .non,.int .i64 n]],[],[138]⟩)) (.ite (qzp r n) (.ret ((.val (.sl (qu5 r n) .non)),⟨[[.sl (qpl r n) .non,.int .i64 n]],[],[138]⟩)) (.fail))|_,_=>.fail
theorem qJx (gl:Gl):SimM Tryz.prog gl 137 fun args σ=>(qLG args σ).run:=by
 refine SimM.of_nrm (G:=qLr) (L:=qNr) qak (qJC gl ) qah Tryz.func137 rfl (by rfl) (by kernel_rfl) (qac (by kernel_rfl)) ?_
 intro args σ x h;unfold qLG at h
 split at h
 ·exact (congrArg Tr.run (qNy _ _)).trans (qad h fun h=>qad h fun h=>by cases h)
 ·cases h
def qyI:GamT:=ofL [(109,.may (frameT qgA)),(111,.may (frameT qqG)),(136,.may (frameT qhc)),(137,.may (frameT qLG)),(138,.may (frameT qsW)),(qcD,.flag)]
theorem qFG (gl:Gl):qam Tryz.prog gl (gam qyI):=(qai (SimM.frameT (qec gl)) (qai (SimM.frameT (qqQ gl)) (qai (SimM.frameT (qe5 gl)) (qai (SimM.frameT (qJx gl)) (qai (SimM.frameT (qpq gl)) (qbj qag))))))
def qEU:LpsT:=fun r fr σ=>.fail
def qlg (r:qR) (n:Int):Tr (PR×Store):=let z1:=qab (qab r);let z2:=qab (qaa (qf1 z1 n));let z3:=qab (qaa (qfd z2 n));let z4:=qab (qaa (qpl z3 n));.ite (qcj z1 n) (.ite (qhN z2 n) (.ret (PR.pan (.iface 172 (.agg [.int .i64 (qfa z2 n)])),Store.mk [[.sl (qaa (qaa (qfl z2 n))) .non,.int .i64 n]] [] [138])) (.ite (qhI z2 n) (.ite (qyF z3 n) (.ret (PR.pan (.iface 172 (.agg [.int .i64 (qt4 z3 n)])),Store.mk [[.sl (qaa (qaa (qvp z3 n))) .non,.int .i64 n]] [] [138])) (.ite (qzp z3 n) (.ite (qbh [46] z4 n) (.ret (PR.pan (.iface 172 (.agg [.int .i64 (qa4 [46] z4 n)])),Store.mk [[.sl (qaa (qaa (qa6 [46] z4 n))) .non,.int .i64 n]] [] [138])) (.ite (qbg [46] z4 n) (.ret (PR.val (.agg [.str (qdW z2 n),.bool (sEq (qjn z1 n) [98,97,115,101]),.sl (qaa (qaa (qu5 z3 n))) .non]),Store.mk [[.sl (qaa (qaa (qa9 [46] z4 n))) .non,.int .i64 n]] [] [138])) .fail)) .fail)) .fail)) .fail
theorem qK6 (r:qR) (n:Int):(nrmM tbT qyI qEU Tryz.f87 [.ptr 0 0] ⟨[[.sl r .non,.int .i64 n]],[],[138]⟩).flat=qlg r n:=by kernel_rfl
def qde (r:qR) (n:Int):Option (PR×Store):=(qlg r n).run
def qkH (r:qR) (n:Int):Int:=(gInt (gAt (gCs (gAt (gCs (gOut (qaj (qde r n)) 0)) 0)) 0))
def qkV (r:qR) (n:Int):qR:=(gRow (gAt (gObj (qaj (qde r n)) 0) 0))
def qqE (r:qR) (n:Int):Bool:=isW (qde r n) ((.pan (.iface 172 (.agg [.int .i64 (qkH r n)]))),⟨[[.sl (qkV r n) .non,.int .i64 n]],[],[138]⟩)
def qkU (r:qR) (n:Int):qU:=(gStr (gAt (gCs (gOut (qaj (qde r n)) 0)) 0))
def qlD (r:qR) (n:Int):Bool:=(qaZ (gAt (gCs (gOut (qaj (qde r n)) 0)) 1))
def ql1 (r:qR) (n:Int):qR:=(gRow (gAt (gCs (gOut (qaj (qde r n)) 0)) 2))
def qiT (r:qR) (n:Int):qR:=(gRow (gAt (gObj (qaj (qde r n)) 0) 0))
def qpQ (r:qR) (n:Int):Bool:=isW (qde r n) ((.val (.agg [.str (qkU r n),.bool (qlD r n),.sl (ql1 r n) .non])),⟨[[.sl (qiT r n) .non,.int .i64 n]],[],[138]⟩)
def qza:List PV→Store→Tr (PR×Store)|[.ptr 0 0],⟨[[.sl r .non,.int .i64 n]],[],[138]⟩=>.ite (qqE r n) (.ret ((.pan (.iface 172 (.agg [.int .i64 (qkH r n)]))),⟨[[.sl (qkV r n) .non,.int .i64 n]],[],[138]⟩)) (.ite (qpQ r n) (.ret ((.val (.agg [.str (qkU r n),.bool (qlD r n),.sl (ql1 r n) .non])),⟨[[.sl (qiT r n) .non,.int .i64 n]],[],[138]⟩)) (.fail))|_,_=>.fail
theorem qGv (gl:Gl):SimM Tryz.prog gl 87 fun args σ=>(qza args σ).run:=by
 refine SimM.of_nrm (G:=qyI) (L:=qEU) qak (qFG gl ) qah Tryz.func87 rfl (by rfl) (by kernel_rfl) (qac (by kernel_rfl)) ?_
 intro args σ x h;unfold qza at h
 split at h
 ·exact (congrArg Tr.run (qK6 _ _)).trans (qad h fun h=>qad h fun h=>by cases h)
 ·cases h
def qER:GamT:=ofL [(51,.may (frameT qpX)),(106,.may (frameT qbT)),(109,.may (frameT qgA))]
theorem qG1 (gl:Gl):qam Tryz.prog gl (gam qER):=(qai (SimM.frameT (qrN gl)) (qai (SimM.frameT (qbi gl)) (qai (SimM.frameT (qec gl)) qag)))
def qJi:LpsT:=fun r fr σ=>.fail
def qqw (r:qR) (n:Int):Tr (PR×Store):=let z1:=qab (qab r);let z2:=qa7 6 [43] z1 n;let z3:=qab (qaa (qa5 6 [43] z1 n));let z4:=qab (qaa (qa9 [45] z3 n));.ite (qaG 6 [43] z1 n) (.ite (bNot z2) (.ite (qbh [45] z3 n) (.ret (PR.pan (.iface 172 (.agg [.int .i64 (qa4 [45] z3 n)])),Store.mk [[.sl (qaa (qaa (qa6 [45] z3 n))) .non,.int .i64 n]] [] [138])) (.ite (qbg [45] z3 n) (.ite (qeh z4 n) (.ret (PR.pan (.iface 172 (.agg [.int .i64 (qc8 z4 n)])),Store.mk [[.sl (qaa (qaa (qc3 z4 n))) .non,.int .i64 n]] [] [138])) (.ite (qdR z4 n) (.ret (PR.val (.agg [.bool z2,.str (qcv z4 n),.sl (qaa (qaa (qd7 z4 n))) .non]),Store.mk [[.sl (qaa (qaa (qcT z4 n))) .non,.int .i64 n]] [] [138])) .fail)) .fail)) (.ite (qeh z3 n) (.ret (PR.pan (.iface 172 (.agg [.int .i64 (qc8 z3 n)])),Store.mk [[.sl (qaa (qaa (qc3 z3 n))) .non,.int .i64 n]] [] [138])) (.ite (qdR z3 n) (.ret (PR.val (.agg [.bool z2,.str (qcv z3 n),.sl (qaa (qaa (qd7 z3 n))) .non]),Store.mk [[.sl (qaa (qaa (qcT z3 n))) .non,.int .i64 n]] [] [138])) .fail))) .fail
theorem qMH (r:qR) (n:Int):(nrmM tbT qER qJi Tryz.f142 [.ptr 0 0] ⟨[[.sl r .non,.int .i64 n]],[],[138]⟩).flat=qqw r n:=by kernel_rfl
def qgX (r:qR) (n:Int):Option (PR×Store):=(qqw r n).run
def qim (r:qR) (n:Int):Int:=(gInt (gAt (gCs (gAt (gCs (gOut (qaj (qgX r n)) 0)) 0)) 0))
def qh9 (r:qR) (n:Int):qR:=(gRow (gAt (gObj (qaj (qgX r n)) 0) 0))
def ql9 (r:qR) (n:Int):Bool:=isW (qgX r n) ((.pan (.iface 172 (.agg [.int .i64 (qim r n)]))),⟨[[.sl (qh9 r n) .non,.int .i64 n]],[],[138]⟩)
def qiD (r:qR) (n:Int):Bool:=(qaZ (gAt (gCs (gOut (qaj (qgX r n)) 0)) 0))
def qiO (r:qR) (n:Int):qU:=(gStr (gAt (gCs (gOut (qaj (qgX r n)) 0)) 1))
def qie (r:qR) (n:Int):qR:=(gRow (gAt (gCs (gOut (qaj (qgX r n)) 0)) 2))
def qe0 (r:qR) (n:Int):qR:=(gRow (gAt (gObj (qaj (qgX r n)) 0) 0))
def qlN (r:qR) (n:Int):Bool:=isW (qgX r n) ((.val (.agg [.bool (qiD r n),.str (qiO r n),.sl (qie r n) .non])),⟨[[.sl (qe0 r n) .non,.int .i64 n]],[],[138]⟩)
def qBc:List PV→Store→Tr (PR×Store)|[.ptr 0 0],⟨[[.sl r .non,.int .i64 n]],[],[138]⟩=>.ite (ql9 r n) (.ret ((.pan (.iface 172 (.agg [.int .i64 (qim r n)]))),⟨[[.sl (qh9 r n) .non,.int .i64 n]],[],[138]⟩)) (.ite (qlN r n) (.ret ((.val (.agg [.bool (qiD r n),.str (qiO r n),.sl (qie r n) .non])),⟨[[.sl (qe0 r n) .non,.int .i64 n]],[],[138]⟩)) (.fail))|_,_=>.fail
theorem qBM (gl:Gl):SimM Tryz.prog gl 142 fun args σ=>(qBc args σ).run:=by
 refine SimM.of_nrm (G:=qER) (L:=qJi) qak (qG1 gl ) qah Tryz.func142 rfl (by rfl) (by kernel_rfl) (qac (by kernel_rfl)) ?_
 intro args σ x h;unfold qBc at h
 split at h
 ·exact (congrArg Tr.run (qMH _ _)).trans (qad h fun h=>qad h fun h=>by cases h)
 ·cases h
def qB9:GamT:=ofL [(106,.may (frameT qbT)),(142,.may (frameT qBc)),(qcD,.flag)]
theorem qFR (gl:Gl):qam Tryz.prog gl (gam qB9):=(qai (SimM.frameT (qbi gl)) (qai (SimM.frameT (qBM gl)) (qbj qag)))
def qwM:Code:=qcu Tryz.f141 2
def qx3:LI:=⟨17,[0,1,5],fun e=>match e with|.exit 0=>[5]|_=>[],false⟩
def qva:LpsT:=fun r fr σ=>.fail
def qgW (vs:List PV) (σ:Store):Option (PExit×List PV×Store):=lval (lstep tbT qB9 qva qwM qx3) vs σ
def qrc (l r:qR) (n:Int):Tr LR:=let z1:=qaa (qa5 6 [44] (qab r) n);let z2:=qab z1;let z3:qR:=[[.bool (qiD z2 n),.str (qiO z2 n),.sl (qaa (qie z2 n)) .non]];.ite (qaG 6 [44] (qab r) n) (.ite (qa7 6 [44] (qab r) n) (.ite (ql9 z2 n) (.ret (.out (.pan (.iface 172 (.agg [.int .i64 (qim z2 n)]))) [] (Store.mk [[.sl (qaa (qh9 z2 n)) .non,.int .i64 n]] [] [138]))) (.ite (qlN z2 n) (.ite (qaP l z3 48) (.ite (qaC z3 3) (.ite (qaq l 3) (.ret (.next [.ptr 0 0,.mth 142 [.ptr 0 0],.sl (xApp l z3) (.tok 0)] (Store.mk [[.sl (qaa (qe0 z2 n)) .non,.int .i64 n]] [(nXs (xApp l z3),3,116)] [138]))) .fail) .fail) .fail) .fail)) (.ret (.out (.exit 0) [.sl l .full] (Store.mk [[.sl z1 .non,.int .i64 n]] [] [138])))) .fail
theorem qNg (l r:qR) (n:Int):lstep tbT qB9 qva qwM qx3 [.ptr 0 0,.mth 142 [.ptr 0 0],.sl l .full] ⟨[[.sl r .non,.int .i64 n]],[],[138]⟩=qrc l r n:=by kernel_rfl
theorem qMv (l r:qR) (n:Int):qgW [.ptr 0 0,.mth 142 [.ptr 0 0],.sl l .full] ⟨[[.sl r .non,.int .i64 n]],[],[138]⟩=lnext qgW (qrc l r n).run:=by unfold qgW;rw [qaD,qNg]
def qkL (l r:qR) (n:Int) (k:Nat):Tr LR:=let z1:=qaa (qa5 6 [44] (qab r) n);let z2:=qab z1;let z3:qR:=[[.bool (qiD z2 n),.str (qiO z2 n),.sl (qaa (qie z2 n)) .non]];.ite (qaG 6 [44] (qab r) n) (.ite (qa7 6 [44] (qab r) n) (.ite (ql9 z2 n) (.ret (.out (.pan (.iface 172 (.agg [.int .i64 (qim z2 n)]))) [] (Store.mk [[.sl (qaa (qh9 z2 n)) .non,.int .i64 n]] [(k,3,116)] [138]))) (.ite (qlN z2 n) (.ite (qaP l z3 48) (.ite (qaC z3 3) (.ite (qaq l 3) (.ite (nEq k (nXs l)) (.ret (.next [.ptr 0 0,.mth 142 [.ptr 0 0],.sl (xApp l z3) (.tok 0)] (Store.mk [[.sl (qaa (qe0 z2 n)) .non,.int .i64 n]] [(nXs (xApp l z3),3,116)] [138]))) .fail) .fail) .fail) .fail) .fail)) (.ret (.out (.exit 0) [.sl l (.tok 0)] (Store.mk [[.sl z1 .non,.int .i64 n]] [(k,3,116)] [138])))) .fail
theorem qMe (l r:qR) (n:Int) (k:Nat):lstep tbT qB9 qva qwM qx3 [.ptr 0 0,.mth 142 [.ptr 0 0],.sl l (.tok 0)] ⟨[[.sl r .non,.int .i64 n]],[(k,3,116)],[138]⟩=qkL l r n k:=by kernel_rfl
theorem qLI (l r:qR) (n:Int) (k:Nat):qgW [.ptr 0 0,.mth 142 [.ptr 0 0],.sl l (.tok 0)] ⟨[[.sl r .non,.int .i64 n]],[(k,3,116)],[138]⟩=lnext qgW (qkL l r n k).run:=by unfold qgW;rw [qaD,qMe]
def qdi (l r:qR) (n:Int):Option (PExit×List PV×Store):=qgW [.ptr 0 0,.mth 142 [.ptr 0 0],.sl l .full] ⟨[[.sl r .non,.int .i64 n]],[],[138]⟩
def qph (l r:qR) (n:Int):Int:=(gInt (gAt (gCs (gAt (gCs (gPan (qdi l r n))) 0)) 0))
def qpa (l r:qR) (n:Int):qR:=(gRow (gAt (gObj (qdi l r n) 0) 0))
def qwk (l r:qR) (n:Int):Bool:=isW (qdi l r n) ((.pan (.iface 172 (.agg [.int .i64 (qph l r n)]))),[],⟨[[.sl (qpa l r n) .non,.int .i64 n]],[],[138]⟩)
def qoP (l r:qR) (n:Int):qR:=(gRow (gOut (qdi l r n) 0))
def qoF (l r:qR) (n:Int):qR:=(gRow (gAt (gObj (qdi l r n) 0) 0))
def qvY (l r:qR) (n:Int):Bool:=isW (qdi l r n) ((.exit 0),[.sl (qoP l r n) .full],⟨[[.sl (qoF l r n) .non,.int .i64 n]],[],[138]⟩)
def qo1 (l r:qR) (n:Int):Int:=(gInt (gAt (gCs (gAt (gCs (gPan (qdi l r n))) 0)) 0))
def qn5 (l r:qR) (n:Int):qR:=(gRow (gAt (gObj (qdi l r n) 0) 0))
def qwI (l r:qR) (n:Int):Nat:=(gTok (qdi l r n) 0)
def quP (l r:qR) (n:Int):Bool:=isW (qdi l r n) ((.pan (.iface 172 (.agg [.int .i64 (qo1 l r n)]))),[],⟨[[.sl (qn5 l r n) .non,.int .i64 n]],[((qwI l r n),3,116)],[138]⟩)
def qpi (l r:qR) (n:Int):qR:=(gRow (gOut (qdi l r n) 0))
def qn4 (l r:qR) (n:Int):qR:=(gRow (gAt (gObj (qdi l r n) 0) 0))
def qwj (l r:qR) (n:Int):Nat:=(gTok (qdi l r n) 0)
def quM (l r:qR) (n:Int):Bool:=isW (qdi l r n) ((.exit 0),[.sl (qpi l r n) (.tok 0)],⟨[[.sl (qn4 l r n) .non,.int .i64 n]],[((qwj l r n),3,116)],[138]⟩)
def qkZ:List PV→Store→Tr (PExit×List PV×Store)|[.ptr 0 0,.mth 142 [.ptr 0 0],.sl l .full],⟨[[.sl r .non,.int .i64 n]],[],[138]⟩=>.ite (qwk l r n) (.ret ((.pan (.iface 172 (.agg [.int .i64 (qph l r n)]))),[],⟨[[.sl (qpa l r n) .non,.int .i64 n]],[],[138]⟩)) (.ite (qvY l r n) (.ret ((.exit 0),[.sl (qoP l r n) .full],⟨[[.sl (qoF l r n) .non,.int .i64 n]],[],[138]⟩)) (.ite (quP l r n) (.ret ((.pan (.iface 172 (.agg [.int .i64 (qo1 l r n)]))),[],⟨[[.sl (qn5 l r n) .non,.int .i64 n]],[((qwI l r n),3,116)],[138]⟩)) (.ite (quM l r n) (.ret ((.exit 0),[.sl (qpi l r n) (.tok 0)],⟨[[.sl (qn4 l r n) .non,.int .i64 n]],[((qwj l r n),3,116)],[138]⟩)) (.fail))))|_,_=>.fail
theorem qLP:∀ vs σ r,(qkZ vs σ).run=some r→qgW vs σ=some r:=by
 intro vs σ r h;unfold qkZ at h
 split at h
 ·exact qad h fun h=>qad h fun h=>qad h fun h=>qad h fun h=>by cases h
 ·cases h
theorem qEz (gl:Gl):∀ fr σ e fr' σ',(orc qx3 qkZ fr σ).run=some (e,fr',σ')→LDoes Tryz.prog gl qwM fr σ e fr' σ':=qbq qak (qFR gl ) qah (L:=qva) (qac (by kernel_rfl)) (by kernel_rfl) qLP
def qLo:LpsT:=fun r fr σ=>bif Nat.beq r 2 then orc qx3 qkZ fr σ else .fail
def qxI (r:qR) (n:Int):Tr (PR×Store):=let z1:=qab (qab r);let z2:qR:=[[.bool (qiD z1 n),.str (qiO z1 n),.sl (qaa (qie z1 n)) .non]];let z3:=qaa (qe0 z1 n);.ite (ql9 z1 n) (.ret (PR.pan (.iface 172 (.agg [.int .i64 (qim z1 n)])),Store.mk [[.sl (qaa (qaa (qh9 z1 n))) .non,.int .i64 n]] [] [138])) (.ite (qlN z1 n) (.ite (qwk z2 z3 n) (.ret (PR.pan (.iface 172 (.agg [.int .i64 (qph z2 z3 n)])),Store.mk [[.sl (qaa (qpa z2 z3 n)) .non,.int .i64 n]] [] [138])) (.ite (qvY z2 z3 n) (.ret (PR.val (.sl (qaa (qoP z2 z3 n)) .non),Store.mk [[.sl (qaa (qoF z2 z3 n)) .non,.int .i64 n]] [] [138])) (.ite (quP z2 z3 n) (.ret (PR.pan (.iface 172 (.agg [.int .i64 (qo1 z2 z3 n)])),Store.mk [[.sl (qaa (qn5 z2 z3 n)) .non,.int .i64 n]] [] [138])) (.ite (quM z2 z3 n) (.ret (PR.val (.sl (qaa (qpi z2 z3 n)) .non),Store.mk [[.sl (qaa (qn4 z2 z3 n)) .non,.int .i64 n]] [] [138])) .fail)))) .fail)
theorem qNQ (r:qR) (n:Int):(nrmM tbT qB9 qLo Tryz.f141 [.ptr 0 0,.mth 142 [.ptr 0 0]] ⟨[[.sl r .non,.int .i64 n]],[],[138]⟩).flat=qxI r n:=by kernel_rfl
def qsc (r:qR) (n:Int):Option (PR×Store):=(qxI r n).run
def qwf (r:qR) (n:Int):Int:=(gInt (gAt (gCs (gAt (gCs (gOut (qaj (qsc r n)) 0)) 0)) 0))
def qvQ (r:qR) (n:Int):qR:=(gRow (gAt (gObj (qaj (qsc r n)) 0) 0))
def qz6 (r:qR) (n:Int):Bool:=isW (qsc r n) ((.pan (.iface 172 (.agg [.int .i64 (qwf r n)]))),⟨[[.sl (qvQ r n) .non,.int .i64 n]],[],[138]⟩)
def qt2 (r:qR) (n:Int):qR:=(gRow (gOut (qaj (qsc r n)) 0))
def qpo (r:qR) (n:Int):qR:=(gRow (gAt (gObj (qaj (qsc r n)) 0) 0))
def qyX (r:qR) (n:Int):Bool:=isW (qsc r n) ((.val (.sl (qt2 r n) .non)),⟨[[.sl (qpo r n) .non,.int .i64 n]],[],[138]⟩)
def qL5:List PV→Store→Tr (PR×Store)|[.ptr 0 0,.mth 142 [.ptr 0 0]],⟨[[.sl r .non,.int .i64 n]],[],[138]⟩=>.ite (qz6 r n) (.ret ((.pan (.iface 172 (.agg [.int .i64 (qwf r n)]))),⟨[[.sl (qvQ r n) .non,.int .i64 n]],[],[138]⟩)) (.ite (qyX r n) (.ret ((.val (.sl (qt2 r n) .non)),⟨[[.sl (qpo r n) .non,.int .i64 n]],[],[138]⟩)) (.fail))|_,_=>.fail
theorem qLi (gl:Gl):SimM Tryz.prog gl 141 fun args σ=>(qL5 args σ).run:=by
 refine SimM.of_nrm (G:=qB9) (L:=qLo) qak (qFR gl ) qah Tryz.func141 rfl (by rfl) (by kernel_rfl) (qar (L:=lps qLo) [(2,qwM)] (by kernel_rfl) (List.forall_mem_cons.2 ⟨fun fr σ e fr' σ' h=>qEz gl  fr σ e fr' σ' h,(List.forall_mem_nil _)⟩)) ?_
 intro args σ x h;unfold qL5 at h
 split at h
 ·exact (congrArg Tr.run (qNQ _ _)).trans (qad h fun h=>qad h fun h=>by cases h)
 ·cases h
def qwH:GamT:=ofL [(138,.may (frameT qsW)),(150,.may (frameT qqj))]
theorem qCI (gl:Gl):qam Tryz.prog gl (gam qwH):=(qai (SimM.frameT (qpq gl)) (qai (SimM.frameT (qql gl)) qag))
def qAl:LpsT:=fun r fr σ=>.fail
def qlU (r:qR) (n:Int):Tr (PR×Store):=let z1:=qab (qab r);let z2:=qab (qaa (qe4 2 [] z1 n));.ite (qhD 2 [] z1 n) (.ret (PR.pan (.iface 172 (.agg [.int .i64 (qeY 2 [] z1 n)])),Store.mk [[.sl (qaa (qaa (qe7 2 [] z1 n))) .non,.int .i64 n]] [] [138])) (.ite (qhL 2 [] z1 n) (.ite (qhW z2 n) (.ret (PR.val (.agg [.str (qlP 2 [] z1 n),.int .i64 (qfX z2 n)]),Store.mk [[.sl (qaa (qaa (qgm z2 n))) .non,.int .i64 n]] [] [138])) (.ite (qiE z2 n) (.ret (PR.pan (.iface 172 (.agg [.int .i64 (qgB z2 n)])),Store.mk [[.sl (qaa (qaa (qgc z2 n))) .non,.int .i64 n]] [] [138])) .fail)) .fail)
theorem qHc (r:qR) (n:Int):(nrmM tbT qwH qAl Tryz.f140 [.ptr 0 0] ⟨[[.sl r .non,.int .i64 n]],[],[138]⟩).flat=qlU r n:=by kernel_rfl
def qc0 (r:qR) (n:Int):Option (PR×Store):=(qlU r n).run
def qdD (r:qR) (n:Int):Int:=(gInt (gAt (gCs (gAt (gCs (gOut (qaj (qc0 r n)) 0)) 0)) 0))
def qdC (r:qR) (n:Int):qR:=(gRow (gAt (gObj (qaj (qc0 r n)) 0) 0))
def qff (r:qR) (n:Int):Bool:=isW (qc0 r n) ((.pan (.iface 172 (.agg [.int .i64 (qdD r n)]))),⟨[[.sl (qdC r n) .non,.int .i64 n]],[],[138]⟩)
def qdz (r:qR) (n:Int):qU:=(gStr (gAt (gCs (gOut (qaj (qc0 r n)) 0)) 0))
def qdv (r:qR) (n:Int):Int:=(gInt (gAt (gCs (gOut (qaj (qc0 r n)) 0)) 1))
def qdy (r:qR) (n:Int):qR:=(gRow (gAt (gObj (qaj (qc0 r n)) 0) 0))
def qeV (r:qR) (n:Int):Bool:=isW (qc0 r n) ((.val (.agg [.str (qdz r n),.int .i64 (qdv r n)])),⟨[[.sl (qdy r n) .non,.int .i64 n]],[],[138]⟩)
def qmh:List PV→Store→Tr (PR×Store)|[.ptr 0 0],⟨[[.sl r .non,.int .i64 n]],[],[138]⟩=>.ite (qff r n) (.ret ((.pan (.iface 172 (.agg [.int .i64 (qdD r n)]))),⟨[[.sl (qdC r n) .non,.int .i64 n]],[],[138]⟩)) (.ite (qeV r n) (.ret ((.val (.agg [.str (qdz r n),.int .i64 (qdv r n)])),⟨[[.sl (qdy r n) .non,.int .i64 n]],[],[138]⟩)) (.fail))|_,_=>.fail
theorem qmL (gl:Gl):SimM Tryz.prog gl 140 fun args σ=>(qmh args σ).run:=by
 refine SimM.of_nrm (G:=qwH) (L:=qAl) qak (qCI gl ) qah Tryz.func140 rfl (by rfl) (by kernel_rfl) (qac (by kernel_rfl)) ?_
 intro args σ x h;unfold qmh at h
 split at h
 ·exact (congrArg Tr.run (qHc _ _)).trans (qad h fun h=>qad h fun h=>by cases h)
 ·cases h
def qDc:GamT:=ofL [(106,.may (frameT qbT)),(140,.may (frameT qmh)),(qcD,.flag)]
theorem qDG (gl:Gl):qam Tryz.prog gl (gam qDc):=(qai (SimM.frameT (qbi gl)) (qai (SimM.frameT (qmL gl)) (qbj qag)))
def qxs:Code:=qcu Tryz.f162 2
def qxV:LI:=⟨17,[0,1,5],fun e=>match e with|.exit 0=>[5]|_=>[],false⟩
def quI:LpsT:=fun r fr σ=>.fail
def qgY (vs:List PV) (σ:Store):Option (PExit×List PV×Store):=lval (lstep tbT qDc quI qxs qxV) vs σ
def qrF (l r:qR) (n:Int):Tr LR:=let z1:=qaa (qa5 6 [44] (qab r) n);let z2:=qab z1;let z3:qR:=[[.str (qdz z2 n),.int .i64 (qdv z2 n)]];.ite (qaG 6 [44] (qab r) n) (.ite (qa7 6 [44] (qab r) n) (.ite (qff z2 n) (.ret (.out (.pan (.iface 172 (.agg [.int .i64 (qdD z2 n)]))) [] (Store.mk [[.sl (qaa (qdC z2 n)) .non,.int .i64 n]] [] [138]))) (.ite (qeV z2 n) (.ite (qaP l z3 24) (.ite (qaC z3 2) (.ite (qaq l 2) (.ret (.next [.ptr 0 0,.mth 140 [.ptr 0 0],.sl (xApp l z3) (.tok 0)] (Store.mk [[.sl (qaa (qdy z2 n)) .non,.int .i64 n]] [(nXs (xApp l z3),2,114)] [138]))) .fail) .fail) .fail) .fail)) (.ret (.out (.exit 0) [.sl l .full] (Store.mk [[.sl z1 .non,.int .i64 n]] [] [138])))) .fail
theorem qM5 (l r:qR) (n:Int):lstep tbT qDc quI qxs qxV [.ptr 0 0,.mth 140 [.ptr 0 0],.sl l .full] ⟨[[.sl r .non,.int .i64 n]],[],[138]⟩=qrF l r n:=by kernel_rfl
theorem qNl (l r:qR) (n:Int):qgY [.ptr 0 0,.mth 140 [.ptr 0 0],.sl l .full] ⟨[[.sl r .non,.int .i64 n]],[],[138]⟩=lnext qgY (qrF l r n).run:=by unfold qgY;rw [qaD,qM5]
def qlE (l r:qR) (n:Int) (k:Nat):Tr LR:=let z1:=qaa (qa5 6 [44] (qab r) n);let z2:=qab z1;let z3:qR:=[[.str (qdz z2 n),.int .i64 (qdv z2 n)]];.ite (qaG 6 [44] (qab r) n) (.ite (qa7 6 [44] (qab r) n) (.ite (qff z2 n) (.ret (.out (.pan (.iface 172 (.agg [.int .i64 (qdD z2 n)]))) [] (Store.mk [[.sl (qaa (qdC z2 n)) .non,.int .i64 n]] [(k,2,114)] [138]))) (.ite (qeV z2 n) (.ite (qaP l z3 24) (.ite (qaC z3 2) (.ite (qaq l 2) (.ite (nEq k (nXs l)) (.ret (.next [.ptr 0 0,.mth 140 [.ptr 0 0],.sl (xApp l z3) (.tok 0)] (Store.mk [[.sl (qaa (qdy z2 n)) .non,.int .i64 n]] [(nXs (xApp l z3),2,114)] [138]))) .fail) .fail) .fail) .fail) .fail)) (.ret (.out (.exit 0) [.sl l (.tok 0)] (Store.mk [[.sl z1 .non,.int .i64 n]] [(k,2,114)] [138])))) .fail
theorem qLW (l r:qR) (n:Int) (k:Nat):lstep tbT qDc quI qxs qxV [.ptr 0 0,.mth 140 [.ptr 0 0],.sl l (.tok 0)] ⟨[[.sl r .non,.int .i64 n]],[(k,2,114)],[138]⟩=qlE l r n k:=by kernel_rfl
theorem qJ4 (l r:qR) (n:Int) (k:Nat):qgY [.ptr 0 0,.mth 140 [.ptr 0 0],.sl l (.tok 0)] ⟨[[.sl r .non,.int .i64 n]],[(k,2,114)],[138]⟩=lnext qgY (qlE l r n k).run:=by unfold qgY;rw [qaD,qLW]
def qdf (l r:qR) (n:Int):Option (PExit×List PV×Store):=qgY [.ptr 0 0,.mth 140 [.ptr 0 0],.sl l .full] ⟨[[.sl r .non,.int .i64 n]],[],[138]⟩
def qoR (l r:qR) (n:Int):Int:=(gInt (gAt (gCs (gAt (gCs (gPan (qdf l r n))) 0)) 0))
def qpe (l r:qR) (n:Int):qR:=(gRow (gAt (gObj (qdf l r n) 0) 0))
def qwl (l r:qR) (n:Int):Bool:=isW (qdf l r n) ((.pan (.iface 172 (.agg [.int .i64 (qoR l r n)]))),[],⟨[[.sl (qpe l r n) .non,.int .i64 n]],[],[138]⟩)
def qoY (l r:qR) (n:Int):qR:=(gRow (gOut (qdf l r n) 0))
def qoG (l r:qR) (n:Int):qR:=(gRow (gAt (gObj (qdf l r n) 0) 0))
def qvg (l r:qR) (n:Int):Bool:=isW (qdf l r n) ((.exit 0),[.sl (qoY l r n) .full],⟨[[.sl (qoG l r n) .non,.int .i64 n]],[],[138]⟩)
def qpx (l r:qR) (n:Int):Int:=(gInt (gAt (gCs (gAt (gCs (gPan (qdf l r n))) 0)) 0))
def qol (l r:qR) (n:Int):qR:=(gRow (gAt (gObj (qdf l r n) 0) 0))
def qtZ (l r:qR) (n:Int):Nat:=(gTok (qdf l r n) 0)
def qtM (l r:qR) (n:Int):Bool:=isW (qdf l r n) ((.pan (.iface 172 (.agg [.int .i64 (qpx l r n)]))),[],⟨[[.sl (qol l r n) .non,.int .i64 n]],[((qtZ l r n),2,114)],[138]⟩)
def qox (l r:qR) (n:Int):qR:=(gRow (gOut (qdf l r n) 0))
def qoe (l r:qR) (n:Int):qR:=(gRow (gAt (gObj (qdf l r n) 0) 0))
def qut (l r:qR) (n:Int):Nat:=(gTok (qdf l r n) 0)
def qwe (l r:qR) (n:Int):Bool:=isW (qdf l r n) ((.exit 0),[.sl (qox l r n) (.tok 0)],⟨[[.sl (qoe l r n) .non,.int .i64 n]],[((qut l r n),2,114)],[138]⟩)
def ql2:List PV→Store→Tr (PExit×List PV×Store)|[.ptr 0 0,.mth 140 [.ptr 0 0],.sl l .full],⟨[[.sl r .non,.int .i64 n]],[],[138]⟩=>.ite (qwl l r n) (.ret ((.pan (.iface 172 (.agg [.int .i64 (qoR l r n)]))),[],⟨[[.sl (qpe l r n) .non,.int .i64 n]],[],[138]⟩)) (.ite (qvg l r n) (.ret ((.exit 0),[.sl (qoY l r n) .full],⟨[[.sl (qoG l r n) .non,.int .i64 n]],[],[138]⟩)) (.ite (qtM l r n) (.ret ((.pan (.iface 172 (.agg [.int .i64 (qpx l r n)]))),[],⟨[[.sl (qol l r n) .non,.int .i64 n]],[((qtZ l r n),2,114)],[138]⟩)) (.ite (qwe l r n) (.ret ((.exit 0),[.sl (qox l r n) (.tok 0)],⟨[[.sl (qoe l r n) .non,.int .i64 n]],[((qut l r n),2,114)],[138]⟩)) (.fail))))|_,_=>.fail
theorem qMj:∀ vs σ r,(ql2 vs σ).run=some r→qgY vs σ=some r:=by
 intro vs σ r h;unfold ql2 at h
 split at h
 ·exact qad h fun h=>qad h fun h=>qad h fun h=>qad h fun h=>by cases h
 ·cases h
theorem qDO (gl:Gl):∀ fr σ e fr' σ',(orc qxV ql2 fr σ).run=some (e,fr',σ')→LDoes Tryz.prog gl qxs fr σ e fr' σ':=qbq qak (qDG gl ) qah (L:=quI) (qac (by kernel_rfl)) (by kernel_rfl) qMj
def qKA:LpsT:=fun r fr σ=>bif Nat.beq r 2 then orc qxV ql2 fr σ else .fail
def qw3 (r:qR) (n:Int):Tr (PR×Store):=let z1:=qab (qab r);let z2:qR:=[[.str (qdz z1 n),.int .i64 (qdv z1 n)]];let z3:=qaa (qdy z1 n);.ite (qff z1 n) (.ret (PR.pan (.iface 172 (.agg [.int .i64 (qdD z1 n)])),Store.mk [[.sl (qaa (qaa (qdC z1 n))) .non,.int .i64 n]] [] [138])) (.ite (qeV z1 n) (.ite (qwl z2 z3 n) (.ret (PR.pan (.iface 172 (.agg [.int .i64 (qoR z2 z3 n)])),Store.mk [[.sl (qaa (qpe z2 z3 n)) .non,.int .i64 n]] [] [138])) (.ite (qvg z2 z3 n) (.ret (PR.val (.sl (qaa (qoY z2 z3 n)) .non),Store.mk [[.sl (qaa (qoG z2 z3 n)) .non,.int .i64 n]] [] [138])) (.ite (qtM z2 z3 n) (.ret (PR.pan (.iface 172 (.agg [.int .i64 (qpx z2 z3 n)])),Store.mk [[.sl (qaa (qol z2 z3 n)) .non,.int .i64 n]] [] [138])) (.ite (qwe z2 z3 n) (.ret (PR.val (.sl (qaa (qox z2 z3 n)) .non),Store.mk [[.sl (qaa (qoe z2 z3 n)) .non,.int .i64 n]] [] [138])) .fail)))) .fail)
theorem qNE (r:qR) (n:Int):(nrmM tbT qDc qKA Tryz.f162 [.ptr 0 0,.mth 140 [.ptr 0 0]] ⟨[[.sl r .non,.int .i64 n]],[],[138]⟩).flat=qw3 r n:=by kernel_rfl
def qsd (r:qR) (n:Int):Option (PR×Store):=(qw3 r n).run
def qvx (r:qR) (n:Int):Int:=(gInt (gAt (gCs (gAt (gCs (gOut (qaj (qsd r n)) 0)) 0)) 0))
def qtN (r:qR) (n:Int):qR:=(gRow (gAt (gObj (qaj (qsd r n)) 0) 0))
def qy9 (r:qR) (n:Int):Bool:=isW (qsd r n) ((.pan (.iface 172 (.agg [.int .i64 (qvx r n)]))),⟨[[.sl (qtN r n) .non,.int .i64 n]],[],[138]⟩)
def qvJ (r:qR) (n:Int):qR:=(gRow (gOut (qaj (qsd r n)) 0))
def qpF (r:qR) (n:Int):qR:=(gRow (gAt (gObj (qaj (qsd r n)) 0) 0))
def qzB (r:qR) (n:Int):Bool:=isW (qsd r n) ((.val (.sl (qvJ r n) .non)),⟨[[.sl (qpF r n) .non,.int .i64 n]],[],[138]⟩)
def qMa:List PV→Store→Tr (PR×Store)|[.ptr 0 0,.mth 140 [.ptr 0 0]],⟨[[.sl r .non,.int .i64 n]],[],[138]⟩=>.ite (qy9 r n) (.ret ((.pan (.iface 172 (.agg [.int .i64 (qvx r n)]))),⟨[[.sl (qtN r n) .non,.int .i64 n]],[],[138]⟩)) (.ite (qzB r n) (.ret ((.val (.sl (qvJ r n) .non)),⟨[[.sl (qpF r n) .non,.int .i64 n]],[],[138]⟩)) (.fail))|_,_=>.fail
theorem qLt (gl:Gl):SimM Tryz.prog gl 162 fun args σ=>(qMa args σ).run:=by
 refine SimM.of_nrm (G:=qDc) (L:=qKA) qak (qDG gl ) qah Tryz.func162 rfl (by rfl) (by kernel_rfl) (qar (L:=lps qKA) [(2,qxs)] (by kernel_rfl) (List.forall_mem_cons.2 ⟨fun fr σ e fr' σ' h=>qDO gl  fr σ e fr' σ' h,(List.forall_mem_nil _)⟩)) ?_
 intro args σ x h;unfold qMa at h
 split at h
 ·exact (congrArg Tr.run (qNE _ _)).trans (qad h fun h=>qad h fun h=>by cases h)
 ·cases h
def qJX:GamT:=ofL [(106,.may (frameT qbT)),(109,.may (frameT qgA)),(140,.may (frameT qmh)),(162,.may (frameT qMa)),(qcD,.flag)]
theorem qLy (gl:Gl):qam Tryz.prog gl (gam qJX):=(qai (SimM.frameT (qbi gl)) (qai (SimM.frameT (qec gl)) (qai (SimM.frameT (qmL gl)) (qai (SimM.frameT (qLt gl)) (qbj qag)))))
def qMC:LpsT:=fun r fr σ=>.fail
def qqt (r:qR) (n:Int):Tr (PR×Store):=let z1:=qab (qab r);let z2:=qab (qaa (qa9 [40] z1 n));let z3:=qaa (qa5 6 [41] z2 n);let z4:=qab z3;let z5:=qab (qaa (qpF z4 n));.ite (qbh [40] z1 n) (.ret (PR.pan (.iface 172 (.agg [.int .i64 (qa4 [40] z1 n)])),Store.mk [[.sl (qaa (qaa (qa6 [40] z1 n))) .non,.int .i64 n]] [] [138])) (.ite (qbg [40] z1 n) (.ite (qaG 6 [41] z2 n) (.ite (qa7 6 [41] z2 n) (.ret (PR.val (.sl [] .non),Store.mk [[.sl (qaa z3) .non,.int .i64 n]] [] [138])) (.ite (qy9 z4 n) (.ret (PR.pan (.iface 172 (.agg [.int .i64 (qvx z4 n)])),Store.mk [[.sl (qaa (qaa (qtN z4 n))) .non,.int .i64 n]] [] [138])) (.ite (qzB z4 n) (.ite (qbh [41] z5 n) (.ret (PR.pan (.iface 172 (.agg [.int .i64 (qa4 [41] z5 n)])),Store.mk [[.sl (qaa (qaa (qa6 [41] z5 n))) .non,.int .i64 n]] [] [138])) (.ite (qbg [41] z5 n) (.ret (PR.val (.sl (qaa (qaa (qvJ z4 n))) .non),Store.mk [[.sl (qaa (qaa (qa9 [41] z5 n))) .non,.int .i64 n]] [] [138])) .fail)) .fail))) .fail) .fail)
theorem qNz (r:qR) (n:Int):(nrmM tbT qJX qMC Tryz.f139 [.ptr 0 0,.mth 140 [.ptr 0 0]] ⟨[[.sl r .non,.int .i64 n]],[],[138]⟩).flat=qqt r n:=by kernel_rfl
def qnO (r:qR) (n:Int):Option (PR×Store):=(qqt r n).run
def qvO (r:qR) (n:Int):Int:=(gInt (gAt (gCs (gAt (gCs (gOut (qaj (qnO r n)) 0)) 0)) 0))
def qt5 (r:qR) (n:Int):qR:=(gRow (gAt (gObj (qaj (qnO r n)) 0) 0))
def qyS (r:qR) (n:Int):Bool:=isW (qnO r n) ((.pan (.iface 172 (.agg [.int .i64 (qvO r n)]))),⟨[[.sl (qt5 r n) .non,.int .i64 n]],[],[138]⟩)
def qtH (r:qR) (n:Int):qR:=(gRow (gOut (qaj (qnO r n)) 0))
def qo9 (r:qR) (n:Int):qR:=(gRow (gAt (gObj (qaj (qnO r n)) 0) 0))
def qz0 (r:qR) (n:Int):Bool:=isW (qnO r n) ((.val (.sl (qtH r n) .non)),⟨[[.sl (qo9 r n) .non,.int .i64 n]],[],[138]⟩)
def qLF:List PV→Store→Tr (PR×Store)|[.ptr 0 0,.mth 140 [.ptr 0 0]],⟨[[.sl r .non,.int .i64 n]],[],[138]⟩=>.ite (qyS r n) (.ret ((.pan (.iface 172 (.agg [.int .i64 (qvO r n)]))),⟨[[.sl (qt5 r n) .non,.int .i64 n]],[],[138]⟩)) (.ite (qz0 r n) (.ret ((.val (.sl (qtH r n) .non)),⟨[[.sl (qo9 r n) .non,.int .i64 n]],[],[138]⟩)) (.fail))|_,_=>.fail
theorem qLJ (gl:Gl):SimM Tryz.prog gl 139 fun args σ=>(qLF args σ).run:=by
 refine SimM.of_nrm (G:=qJX) (L:=qMC) qak (qLy gl ) qah Tryz.func139 rfl (by rfl) (by kernel_rfl) (qac (by kernel_rfl)) ?_
 intro args σ x h;unfold qLF at h
 split at h
 ·exact (congrArg Tr.run (qNz _ _)).trans (qad h fun h=>qad h fun h=>by cases h)
 ·cases h
def qKw:GamT:=ofL [(106,.may (frameT qbT)),(109,.may (frameT qgA)),(111,.may (frameT qqG)),(136,.may (frameT qhc)),(139,.may (frameT qLF)),(140,.may (frameT qmh)),(141,.may (frameT qL5)),(142,.may (frameT qBc)),(qcD,.flag)]
theorem qKi (gl:Gl):qam Tryz.prog gl (gam qKw):=(qai (SimM.frameT (qbi gl)) (qai (SimM.frameT (qec gl)) (qai (SimM.frameT (qqQ gl)) (qai (SimM.frameT (qe5 gl)) (qai (SimM.frameT (qLJ gl)) (qai (SimM.frameT (qmL gl)) (qai (SimM.frameT (qLi gl)) (qai (SimM.frameT (qBM gl)) (qbj qag)))))))))
def qM9:LpsT:=fun r fr σ=>.fail
def qrw (r:qR) (n:Int):Tr (PR×Store):=let z1:=qab (qaa (qf1 (qab (qab r)) n));let z2:=qab (qaa (qfd z1 n));let z3:=qab (qaa (qo9 z2 n));let z4:=qab (qaa (qa5 6 [58] z3 n));let z5:=qab (qaa (qpo z4 n));let z6:=qaa (qaa (qtH z2 n));.ite (qcj (qab (qab r)) n) (.ite (qhN z1 n) (.ret (PR.pan (.iface 172 (.agg [.int .i64 (qfa z1 n)])),Store.mk [[.sl (qaa (qaa (qfl z1 n))) .non,.int .i64 n]] [] [138])) (.ite (qhI z1 n) (.ite (qyS z2 n) (.ret (PR.pan (.iface 172 (.agg [.int .i64 (qvO z2 n)])),Store.mk [[.sl (qaa (qaa (qt5 z2 n))) .non,.int .i64 n]] [] [138])) (.ite (qz0 z2 n) (.ite (qaG 6 [58] z3 n) (.ite (qa7 6 [58] z3 n) (.ite (qz6 z4 n) (.ret (PR.pan (.iface 172 (.agg [.int .i64 (qwf z4 n)])),Store.mk [[.sl (qaa (qaa (qvQ z4 n))) .non,.int .i64 n]] [] [138])) (.ite (qyX z4 n) (.ite (qbh [46] z5 n) (.ret (PR.pan (.iface 172 (.agg [.int .i64 (qa4 [46] z5 n)])),Store.mk [[.sl (qaa (qaa (qa6 [46] z5 n))) .non,.int .i64 n]] [] [138])) (.ite (qbg [46] z5 n) (.ret (PR.val (.agg [.str (qdW z1 n),.sl z6 .non,.sl (qaa (qaa (qt2 z4 n))) .non]),Store.mk [[.sl (qaa (qaa (qa9 [46] z5 n))) .non,.int .i64 n]] [] [138])) .fail)) .fail)) (.ite (qbh [46] z4 n) (.ret (PR.pan (.iface 172 (.agg [.int .i64 (qa4 [46] z4 n)])),Store.mk [[.sl (qaa (qaa (qa6 [46] z4 n))) .non,.int .i64 n]] [] [138])) (.ite (qbg [46] z4 n) (.ret (PR.val (.agg [.str (qdW z1 n),.sl z6 .non,.sl [] .non]),Store.mk [[.sl (qaa (qaa (qa9 [46] z4 n))) .non,.int .i64 n]] [] [138])) .fail))) .fail) .fail)) .fail)) .fail
theorem qNx (r:qR) (n:Int):(nrmM tbT qKw qM9 Tryz.f88 [.ptr 0 0] ⟨[[.sl r .non,.int .i64 n]],[],[138]⟩).flat=qrw r n:=by kernel_rfl
def qmk (r:qR) (n:Int):Option (PR×Store):=(qrw r n).run
def qu8 (r:qR) (n:Int):Int:=(gInt (gAt (gCs (gAt (gCs (gOut (qaj (qmk r n)) 0)) 0)) 0))
def qvV (r:qR) (n:Int):qR:=(gRow (gAt (gObj (qaj (qmk r n)) 0) 0))
def qzm (r:qR) (n:Int):Bool:=isW (qmk r n) ((.pan (.iface 172 (.agg [.int .i64 (qu8 r n)]))),⟨[[.sl (qvV r n) .non,.int .i64 n]],[],[138]⟩)
def quL (r:qR) (n:Int):qU:=(gStr (gAt (gCs (gOut (qaj (qmk r n)) 0)) 0))
def qwE (r:qR) (n:Int):qR:=(gRow (gAt (gCs (gOut (qaj (qmk r n)) 0)) 1))
def qoJ (r:qR) (n:Int):qR:=(gRow (gAt (gCs (gOut (qaj (qmk r n)) 0)) 2))
def qo0 (r:qR) (n:Int):qR:=(gRow (gAt (gObj (qaj (qmk r n)) 0) 0))
def qyN (r:qR) (n:Int):Bool:=isW (qmk r n) ((.val (.agg [.str (quL r n),.sl (qwE r n) .non,.sl (qoJ r n) .non])),⟨[[.sl (qo0 r n) .non,.int .i64 n]],[],[138]⟩)
def qL6:List PV→Store→Tr (PR×Store)|[.ptr 0 0],⟨[[.sl r .non,.int .i64 n]],[],[138]⟩=>.ite (qzm r n) (.ret ((.pan (.iface 172 (.agg [.int .i64 (qu8 r n)]))),⟨[[.sl (qvV r n) .non,.int .i64 n]],[],[138]⟩)) (.ite (qyN r n) (.ret ((.val (.agg [.str (quL r n),.sl (qwE r n) .non,.sl (qoJ r n) .non])),⟨[[.sl (qo0 r n) .non,.int .i64 n]],[],[138]⟩)) (.fail))|_,_=>.fail
theorem qK3 (gl:Gl):SimM Tryz.prog gl 88 fun args σ=>(qL6 args σ).run:=by
 refine SimM.of_nrm (G:=qKw) (L:=qM9) qak (qKi gl ) qah Tryz.func88 rfl (by rfl) (by kernel_rfl) (qac (by kernel_rfl)) ?_
 intro args σ x h;unfold qL6 at h
 split at h
 ·exact (congrArg Tr.run (qNx _ _)).trans (qad h fun h=>qad h fun h=>by cases h)
 ·cases h
def qpT:GamT:=ofL [(47,.may (frameT qtz)),(86,.pure qz8),(87,.may (frameT qza)),(88,.may (frameT qL6)),(qA2,.hint [(3,0,3,80),(3,1,3,85),(3,2,3,51)])]
theorem qxU (gl:Gl):qam Tryz.prog gl (gam qpT):=(qai (SimM.frameT (qwR gl)) (qae (qqm gl) (qai (SimM.frameT (qGv gl)) (qai (SimM.frameT (qK3 gl)) (qc1 (K:=.hint [(3,0,3,80),(3,1,3,85),(3,2,3,51)]) trivial qag)))))
def qps:Code:=qcu Tryz.f35 2
def qn1:LI:=⟨41,[0,2,3],fun e=>match e with|.exit 0=>[2,3]|_=>[],false⟩
def qqx:LpsT:=fun r fr σ=>.fail
def qet (vs:List PV) (σ:Store):Option (PExit×List PV×Store):=lval (lstep tbT qpT qqx qps qn1) vs σ
def qbD (r:qR) (n:Int) (r2 r3 r4 r5 r6 r7:qR) (k k2 k3:Nat):Tr LR:=let z1:=qab r;let z2:List PV:=[.sl r2 .full,.sl r3 .full,.sl r4 .full];let z3:List PV:=[.sl r5 (.tok 0),.sl r6 (.tok 1),.sl r7 (.tok 2)];let z4:qR:=[[.str (qkU z1 n),.bool (qlD z1 n),.sl (qaa (ql1 z1 n)) .non]];let z5:List PV:=[.ptr 0 0,.ptr 1 0,.ptr 2 0];let z6:Tr LR:=.ite (qqE z1 n) (.ret (.out (.pan (.iface 172 (.agg [.int .i64 (qkH z1 n)]))) [] (Store.mk [[.sl (qaa (qkV z1 n)) .non,.int .i64 n],z2,z3] [(k,3,80),(k2,3,85),(k3,3,51)] [138,27,27]))) (.ite (qpQ z1 n) (.ite (qnE z3 z3) (.ite (qaP r5 z4 48) (.ite (qaC z4 3) (.ite (qaq r5 3) (.ite (nEq k (nXs r5)) (.ret (.next z5 (Store.mk [[.sl (qaa (qiT z1 n)) .non,.int .i64 n],z2,[.sl (xApp r5 z4) (.tok 0),.sl r6 (.tok 1),.sl r7 (.tok 2)]] [(nXs (xApp r5 z4),3,80),(k2,3,85),(k3,3,51)] [138,27,27]))) .fail) .fail) .fail) .fail) .fail) .fail);let z7:qR:=[[.str (quL z1 n),.sl (qaa (qwE z1 n)) .non,.sl (qaa (qoJ z1 n)) .non]];let z8:qR:=[[.str (qhv z1 n),.sl (qaa (qhh z1 n)) .non,.sl (qaa (qfB z1 n)) .non]];.ite (iLt 0 (xLen r)) (.ite (qd1 z1 n 1 [98,97,115,101]) (.ite (qnQ z1 n 1 [98,97,115,101]) z6 (.ite (qd1 z1 n 1 [118,105,101,119]) (.ite (qnQ z1 n 1 [118,105,101,119]) z6 (.ite (qd1 z1 n 1 [111,110]) (.ite (qnQ z1 n 1 [111,110]) (.ite (qzm z1 n) (.ret (.out (.pan (.iface 172 (.agg [.int .i64 (qu8 z1 n)]))) [] (Store.mk [[.sl (qaa (qvV z1 n)) .non,.int .i64 n],z2,z3] [(k,3,80),(k2,3,85),(k3,3,51)] [138,27,27]))) (.ite (qyN z1 n) (.ite (qnE z3 z3) (.ite (qaP r6 z7 64) (.ite (qaC z7 3) (.ite (qaq r6 3) (.ite (nEq k2 (nXs r6)) (.ret (.next z5 (Store.mk [[.sl (qaa (qo0 z1 n)) .non,.int .i64 n],z2,[.sl r5 (.tok 0),.sl (xApp r6 z7) (.tok 1),.sl r7 (.tok 2)]] [(k,3,80),(nXs (xApp r6 z7),3,85),(k3,3,51)] [138,27,27]))) .fail) .fail) .fail) .fail) .fail) .fail)) (.ite (qlo z1 n) (.ret (.out (.pan (.iface 172 (.agg [.int .i64 (qht z1 n)]))) [] (Store.mk [[.sl (qaa (qg5 z1 n)) .non,.int .i64 n],z2,z3] [(k,3,80),(k2,3,85),(k3,3,51)] [138,27,27]))) (.ite (qlu z1 n) (.ite (qnE z3 z3) (.ite (qaP r7 z8 64) (.ite (qaC z8 3) (.ite (qaq r7 3) (.ite (nEq k3 (nXs r7)) (.ret (.next z5 (Store.mk [[.sl (qaa (qft z1 n)) .non,.int .i64 n],z2,[.sl r5 (.tok 0),.sl r6 (.tok 1),.sl (xApp r7 z8) (.tok 2)]] [(k,3,80),(k2,3,85),(nXs (xApp r7 z8),3,51)] [138,27,27]))) .fail) .fail) .fail) .fail) .fail) .fail))) .fail)) .fail)) .fail) (.ret (.out (.exit 0) [.ptr 1 0,.ptr 2 0] (Store.mk [[.sl r .non,.int .i64 n],z2,z3] [(k,3,80),(k2,3,85),(k3,3,51)] [138,27,27])))
theorem qHi (r:qR) (n:Int) (r2 r3 r4 r5 r6 r7:qR) (k k2 k3:Nat):lstep tbT qpT qqx qps qn1 [.ptr 0 0,.ptr 1 0,.ptr 2 0] ⟨[[.sl r .non,.int .i64 n],[.sl r2 .full,.sl r3 .full,.sl r4 .full],[.sl r5 (.tok 0),.sl r6 (.tok 1),.sl r7 (.tok 2)]],[(k,3,80),(k2,3,85),(k3,3,51)],[138,27,27]⟩=qbD r n r2 r3 r4 r5 r6 r7 k k2 k3:=by kernel_rfl
theorem qum (r:qR) (n:Int) (r2 r3 r4 r5 r6 r7:qR) (k k2 k3:Nat):qet [.ptr 0 0,.ptr 1 0,.ptr 2 0] ⟨[[.sl r .non,.int .i64 n],[.sl r2 .full,.sl r3 .full,.sl r4 .full],[.sl r5 (.tok 0),.sl r6 (.tok 1),.sl r7 (.tok 2)]],[(k,3,80),(k2,3,85),(k3,3,51)],[138,27,27]⟩=lnext qet (qbD r n r2 r3 r4 r5 r6 r7 k k2 k3).run:=by unfold qet;rw [qaD,qHi]
def qaK (r:qR) (n:Int) (r2 r3 r4 r5 r6 r7:qR) (k k2 k3:Nat):Option (PExit×List PV×Store):=qet [.ptr 0 0,.ptr 1 0,.ptr 2 0] ⟨[[.sl r .non,.int .i64 n],[.sl r2 .full,.sl r3 .full,.sl r4 .full],[.sl r5 (.tok 0),.sl r6 (.tok 1),.sl r7 (.tok 2)]],[(k,3,80),(k2,3,85),(k3,3,51)],[138,27,27]⟩
def qid (r:qR) (n:Int) (r2 r3 r4 r5 r6 r7:qR) (k k2 k3:Nat):Int:=(gInt (gAt (gCs (gAt (gCs (gPan (qaK r n r2 r3 r4 r5 r6 r7 k k2 k3))) 0)) 0))
def qin (r:qR) (n:Int) (r2 r3 r4 r5 r6 r7:qR) (k k2 k3:Nat):qR:=(gRow (gAt (gObj (qaK r n r2 r3 r4 r5 r6 r7 k k2 k3) 0) 0))
def qje (r:qR) (n:Int) (r2 r3 r4 r5 r6 r7:qR) (k k2 k3:Nat):qR:=(gRow (gAt (gObj (qaK r n r2 r3 r4 r5 r6 r7 k k2 k3) 1) 0))
def qjG (r:qR) (n:Int) (r2 r3 r4 r5 r6 r7:qR) (k k2 k3:Nat):qR:=(gRow (gAt (gObj (qaK r n r2 r3 r4 r5 r6 r7 k k2 k3) 1) 1))
def qjm (r:qR) (n:Int) (r2 r3 r4 r5 r6 r7:qR) (k k2 k3:Nat):qR:=(gRow (gAt (gObj (qaK r n r2 r3 r4 r5 r6 r7 k k2 k3) 1) 2))
def qjI (r:qR) (n:Int) (r2 r3 r4 r5 r6 r7:qR) (k k2 k3:Nat):qR:=(gRow (gAt (gObj (qaK r n r2 r3 r4 r5 r6 r7 k k2 k3) 2) 0))
def qj5 (r:qR) (n:Int) (r2 r3 r4 r5 r6 r7:qR) (k k2 k3:Nat):qR:=(gRow (gAt (gObj (qaK r n r2 r3 r4 r5 r6 r7 k k2 k3) 2) 1))
def qjV (r:qR) (n:Int) (r2 r3 r4 r5 r6 r7:qR) (k k2 k3:Nat):qR:=(gRow (gAt (gObj (qaK r n r2 r3 r4 r5 r6 r7 k k2 k3) 2) 2))
def qns (r:qR) (n:Int) (r2 r3 r4 r5 r6 r7:qR) (k k2 k3:Nat):Nat:=(gTok (qaK r n r2 r3 r4 r5 r6 r7 k k2 k3) 0)
def qjK (r:qR) (n:Int) (r2 r3 r4 r5 r6 r7:qR) (k k2 k3:Nat):Nat:=(gTok (qaK r n r2 r3 r4 r5 r6 r7 k k2 k3) 1)
def qka (r:qR) (n:Int) (r2 r3 r4 r5 r6 r7:qR) (k k2 k3:Nat):Nat:=(gTok (qaK r n r2 r3 r4 r5 r6 r7 k k2 k3) 2)
def qmx (r:qR) (n:Int) (r2 r3 r4 r5 r6 r7:qR) (k k2 k3:Nat):Bool:=isW (qaK r n r2 r3 r4 r5 r6 r7 k k2 k3) ((.pan (.iface 172 (.agg [.int .i64 (qid r n r2 r3 r4 r5 r6 r7 k k2 k3)]))),[],⟨[[.sl (qin r n r2 r3 r4 r5 r6 r7 k k2 k3) .non,.int .i64 n],[.sl (qje r n r2 r3 r4 r5 r6 r7 k k2 k3) .full,.sl (qjG r n r2 r3 r4 r5 r6 r7 k k2 k3) .full,.sl (qjm r n r2 r3 r4 r5 r6 r7 k k2 k3) .full],[.sl (qjI r n r2 r3 r4 r5 r6 r7 k k2 k3) (.tok 0),.sl (qj5 r n r2 r3 r4 r5 r6 r7 k k2 k3) (.tok 1),.sl (qjV r n r2 r3 r4 r5 r6 r7 k k2 k3) (.tok 2)]],[((qns r n r2 r3 r4 r5 r6 r7 k k2 k3),3,80),((qjK r n r2 r3 r4 r5 r6 r7 k k2 k3),3,85),((qka r n r2 r3 r4 r5 r6 r7 k k2 k3),3,51)],[138,27,27]⟩)
def qh4 (r:qR) (n:Int) (r2 r3 r4 r5 r6 r7:qR) (k k2 k3:Nat):qR:=(gRow (gAt (gObj (qaK r n r2 r3 r4 r5 r6 r7 k k2 k3) 0) 0))
def qjz (r:qR) (n:Int) (r2 r3 r4 r5 r6 r7:qR) (k k2 k3:Nat):qR:=(gRow (gAt (gObj (qaK r n r2 r3 r4 r5 r6 r7 k k2 k3) 1) 0))
def qjA (r:qR) (n:Int) (r2 r3 r4 r5 r6 r7:qR) (k k2 k3:Nat):qR:=(gRow (gAt (gObj (qaK r n r2 r3 r4 r5 r6 r7 k k2 k3) 1) 1))
def qjt (r:qR) (n:Int) (r2 r3 r4 r5 r6 r7:qR) (k k2 k3:Nat):qR:=(gRow (gAt (gObj (qaK r n r2 r3 r4 r5 r6 r7 k k2 k3) 1) 2))
def qfL (r:qR) (n:Int) (r2 r3 r4 r5 r6 r7:qR) (k k2 k3:Nat):qR:=(gRow (gAt (gObj (qaK r n r2 r3 r4 r5 r6 r7 k k2 k3) 2) 0))
def qfZ (r:qR) (n:Int) (r2 r3 r4 r5 r6 r7:qR) (k k2 k3:Nat):qR:=(gRow (gAt (gObj (qaK r n r2 r3 r4 r5 r6 r7 k k2 k3) 2) 1))
def qge (r:qR) (n:Int) (r2 r3 r4 r5 r6 r7:qR) (k k2 k3:Nat):qR:=(gRow (gAt (gObj (qaK r n r2 r3 r4 r5 r6 r7 k k2 k3) 2) 2))
def qmA (r:qR) (n:Int) (r2 r3 r4 r5 r6 r7:qR) (k k2 k3:Nat):Nat:=(gTok (qaK r n r2 r3 r4 r5 r6 r7 k k2 k3) 0)
def qj4 (r:qR) (n:Int) (r2 r3 r4 r5 r6 r7:qR) (k k2 k3:Nat):Nat:=(gTok (qaK r n r2 r3 r4 r5 r6 r7 k k2 k3) 1)
def qjg (r:qR) (n:Int) (r2 r3 r4 r5 r6 r7:qR) (k k2 k3:Nat):Nat:=(gTok (qaK r n r2 r3 r4 r5 r6 r7 k k2 k3) 2)
def qmJ (r:qR) (n:Int) (r2 r3 r4 r5 r6 r7:qR) (k k2 k3:Nat):Bool:=isW (qaK r n r2 r3 r4 r5 r6 r7 k k2 k3) ((.exit 0),[.ptr 1 0,.ptr 2 0],⟨[[.sl (qh4 r n r2 r3 r4 r5 r6 r7 k k2 k3) .non,.int .i64 n],[.sl (qjz r n r2 r3 r4 r5 r6 r7 k k2 k3) .full,.sl (qjA r n r2 r3 r4 r5 r6 r7 k k2 k3) .full,.sl (qjt r n r2 r3 r4 r5 r6 r7 k k2 k3) .full],[.sl (qfL r n r2 r3 r4 r5 r6 r7 k k2 k3) (.tok 0),.sl (qfZ r n r2 r3 r4 r5 r6 r7 k k2 k3) (.tok 1),.sl (qge r n r2 r3 r4 r5 r6 r7 k k2 k3) (.tok 2)]],[((qmA r n r2 r3 r4 r5 r6 r7 k k2 k3),3,80),((qj4 r n r2 r3 r4 r5 r6 r7 k k2 k3),3,85),((qjg r n r2 r3 r4 r5 r6 r7 k k2 k3),3,51)],[138,27,27]⟩)
def qgE:List PV→Store→Tr (PExit×List PV×Store)|[.ptr 0 0,.ptr 1 0,.ptr 2 0],⟨[[.sl r .non,.int .i64 n],[.sl r2 .full,.sl r3 .full,.sl r4 .full],[.sl r5 (.tok 0),.sl r6 (.tok 1),.sl r7 (.tok 2)]],[(k,3,80),(k2,3,85),(k3,3,51)],[138,27,27]⟩=>.ite (qmx r n r2 r3 r4 r5 r6 r7 k k2 k3) (.ret ((.pan (.iface 172 (.agg [.int .i64 (qid r n r2 r3 r4 r5 r6 r7 k k2 k3)]))),[],⟨[[.sl (qin r n r2 r3 r4 r5 r6 r7 k k2 k3) .non,.int .i64 n],[.sl (qje r n r2 r3 r4 r5 r6 r7 k k2 k3) .full,.sl (qjG r n r2 r3 r4 r5 r6 r7 k k2 k3) .full,.sl (qjm r n r2 r3 r4 r5 r6 r7 k k2 k3) .full],[.sl (qjI r n r2 r3 r4 r5 r6 r7 k k2 k3) (.tok 0),.sl (qj5 r n r2 r3 r4 r5 r6 r7 k k2 k3) (.tok 1),.sl (qjV r n r2 r3 r4 r5 r6 r7 k k2 k3) (.tok 2)]],[((qns r n r2 r3 r4 r5 r6 r7 k k2 k3),3,80),((qjK r n r2 r3 r4 r5 r6 r7 k k2 k3),3,85),((qka r n r2 r3 r4 r5 r6 r7 k k2 k3),3,51)],[138,27,27]⟩)) (.ite (qmJ r n r2 r3 r4 r5 r6 r7 k k2 k3) (.ret ((.exit 0),[.ptr 1 0,.ptr 2 0],⟨[[.sl (qh4 r n r2 r3 r4 r5 r6 r7 k k2 k3) .non,.int .i64 n],[.sl (qjz r n r2 r3 r4 r5 r6 r7 k k2 k3) .full,.sl (qjA r n r2 r3 r4 r5 r6 r7 k k2 k3) .full,.sl (qjt r n r2 r3 r4 r5 r6 r7 k k2 k3) .full],[.sl (qfL r n r2 r3 r4 r5 r6 r7 k k2 k3) (.tok 0),.sl (qfZ r n r2 r3 r4 r5 r6 r7 k k2 k3) (.tok 1),.sl (qge r n r2 r3 r4 r5 r6 r7 k k2 k3) (.tok 2)]],[((qmA r n r2 r3 r4 r5 r6 r7 k k2 k3),3,80),((qj4 r n r2 r3 r4 r5 r6 r7 k k2 k3),3,85),((qjg r n r2 r3 r4 r5 r6 r7 k k2 k3),3,51)],[138,27,27]⟩)) (.fail))|_,_=>.fail
theorem qEY:∀ vs σ r,(qgE vs σ).run=some r→qet vs σ=some r:=by
 intro vs σ r h;unfold qgE at h
 split at h
 ·exact qad h fun h=>qad h fun h=>by cases h
 ·cases h
theorem qzy (gl:Gl):∀ fr σ e fr' σ',(orc qn1 qgE fr σ).run=some (e,fr',σ')→LDoes Tryz.prog gl qps fr σ e fr' σ':=qbq qak (qxU gl ) qah (L:=qqx) (qac (by kernel_rfl)) (by kernel_rfl) qEY
def qyB:LpsT:=fun r fr σ=>bif Nat.beq r 2 then orc qn1 qgE fr σ else .fail
def qod (r:qR) (n:Int):Tr (PR×Store):=let z1:=qab r;.ite (qmx z1 n [] [] [] [] [] [] 0 0 0) (.ret (PR.pan (.iface 172 (.agg [.int .i64 (qid z1 n [] [] [] [] [] [] 0 0 0)])),Store.mk [[.sl (qaa (qin z1 n [] [] [] [] [] [] 0 0 0)) .non,.int .i64 n]] [] [138])) (.ite (qmJ z1 n [] [] [] [] [] [] 0 0 0) (.ret (PR.val (.agg [.sl (qaa (qfL z1 n [] [] [] [] [] [] 0 0 0)) .non,.sl (qaa (qfZ z1 n [] [] [] [] [] [] 0 0 0)) .non,.sl (qaa (qge z1 n [] [] [] [] [] [] 0 0 0)) .non]),Store.mk [[.sl (qaa (qh4 z1 n [] [] [] [] [] [] 0 0 0)) .non,.int .i64 n]] [] [138])) .fail)
theorem qMb (r:qR) (n:Int):(nrmM tbT qpT qyB Tryz.f35 [.ptr 0 0] ⟨[[.sl r .non,.int .i64 n]],[],[138]⟩).flat=qod r n:=by kernel_rfl
def qdG (r:qR) (n:Int):Option (PR×Store):=(qod r n).run
def ql7 (r:qR) (n:Int):Int:=(gInt (gAt (gCs (gAt (gCs (gOut (qaj (qdG r n)) 0)) 0)) 0))
def qkM (r:qR) (n:Int):qR:=(gRow (gAt (gObj (qaj (qdG r n)) 0) 0))
def qrq (r:qR) (n:Int):Bool:=isW (qdG r n) ((.pan (.iface 172 (.agg [.int .i64 (ql7 r n)]))),⟨[[.sl (qkM r n) .non,.int .i64 n]],[],[138]⟩)
def ql4 (r:qR) (n:Int):qR:=(gRow (gAt (gCs (gOut (qaj (qdG r n)) 0)) 0))
def qip (r:qR) (n:Int):qR:=(gRow (gAt (gCs (gOut (qaj (qdG r n)) 0)) 1))
def qiJ (r:qR) (n:Int):qR:=(gRow (gAt (gCs (gOut (qaj (qdG r n)) 0)) 2))
def qh5 (r:qR) (n:Int):qR:=(gRow (gAt (gObj (qaj (qdG r n)) 0) 0))
def qq7 (r:qR) (n:Int):Bool:=isW (qdG r n) ((.val (.agg [.sl (ql4 r n) .non,.sl (qip r n) .non,.sl (qiJ r n) .non])),⟨[[.sl (qh5 r n) .non,.int .i64 n]],[],[138]⟩)
def qzc:List PV→Store→Tr (PR×Store)|[.ptr 0 0],⟨[[.sl r .non,.int .i64 n]],[],[138]⟩=>.ite (qrq r n) (.ret ((.pan (.iface 172 (.agg [.int .i64 (ql7 r n)]))),⟨[[.sl (qkM r n) .non,.int .i64 n]],[],[138]⟩)) (.ite (qq7 r n) (.ret ((.val (.agg [.sl (ql4 r n) .non,.sl (qip r n) .non,.sl (qiJ r n) .non])),⟨[[.sl (qh5 r n) .non,.int .i64 n]],[],[138]⟩)) (.fail))|_,_=>.fail
theorem qGn (gl:Gl):SimM Tryz.prog gl 35 fun args σ=>(qzc args σ).run:=by
 refine SimM.of_nrm (G:=qpT) (L:=qyB) qak (qxU gl ) qah Tryz.func35 rfl (by rfl) (by kernel_rfl) (qar (L:=lps qyB) [(2,qps)] (by kernel_rfl) (List.forall_mem_cons.2 ⟨fun fr σ e fr' σ' h=>qzy gl  fr σ e fr' σ' h,(List.forall_mem_nil _)⟩)) ?_
 intro args σ x h;unfold qzc at h
 split at h
 ·exact (congrArg Tr.run (qMb _ _)).trans (qad h fun h=>qad h fun h=>by cases h)
 ·cases h
end Go.Pv
set_option linter.unusedSimpArgs false
set_option linter.unusedVariables false
namespace Go.Pv
open Go.RowKit
abbrev PD:=FuncId×List PV×List PV
def DefL (H:Gh) (w:World):List PD→List Deferred→Prop
 |[],[]=>True
 |(f,avs,caps)::p,d::ds=>(∃ vs cs:List Value,d={ target:=.fn (.func f) cs.toArray,args:=vs.toArray }∧RelL H w avs vs∧RelL H w caps cs)∧DefL H w p ds
 |_,_=>False
theorem DefL.mono {H H':Gh} {w w':World} (g:Mono H w H' w'):∀ {p:List PD} {ds:List Deferred},DefL H w p ds→DefL H' w' p ds
 |[],[],_=>trivial
 |(f,avs,caps)::p,d::ds,⟨⟨vs,cs,e,h1,h2⟩,k⟩=>⟨⟨vs,cs,e,h1.mono g,h2.mono g⟩,DefL.mono g k⟩
 |[],_::_,h=>h.elim
 |_::_,[],h=>h.elim
def StD (gl:Gl) (H0:Gh) (w0:World) (fr:List PV) (σ:Store) (pd:List PD) (a:Act) (w:World):Prop :=
 ∃ H,Ev gl H0 w0 H w∧Ok gl H σ w∧RelL H w fr a.tmps.toList∧DefL H w pd a.defers
def pdefer (fr:List PV) (c:Call):Option PD:=match c.callee with
 |.value f=>match ev fr f with
  |.fn g caps=>some (g,c.args.toList.map (ev fr),caps)
  |_=>none
 |_=>none
def passert (tb:Tab) (fr:List PV) (x:Operand) (t:TypeId) (ok:Bool):Option PV:=match tb t,ev fr x,ok with
 |some K,.iface t' v,true=>match K.kd with
  |.agg _ _ _=>match Nat.beq t' t with
   |true=>some (.tup [v,.bool true])
   |false=>none
  |_=>none
 |_,_,_=>none
inductive DR where
 |ok (fr:List PV) (σ:Store) (pd:List PD)
 |pan (x:PV) (fr:List PV) (σ:Store) (pd:List PD)
def dfin (Γ:Gam) (fr:List PV) (σ:Store) (pd:List PD) (o:Oper):Option (PV×Store)→Option DR
 |some (x,σ')=>some (.ok (pput fr o.dst x) σ' pd)
 |none=>(ppan Γ fr σ o).map fun r=>.pan r.1 fr r.2 pd
def dop (tb:Tab) (Γ:Gam) (fr:List PV) (σ:Store) (pd:List PD) (o:Oper):Option DR:=match o.op with
 |.defer c=>match o.dst with
  |none=>(pdefer fr c).map fun d=>.ok fr σ (d::pd)
  |some _=>none
 |.typeAssert x _ t ok=>(passert tb fr x t ok).map fun y=>.ok (pput fr o.dst y) σ pd
 |_=>dfin Γ fr σ pd o (pop tb Γ fr σ o)
def dops (tb:Tab) (Γ:Gam) (ops:List Oper):List Oper→List PV→Store→List PD→Option DR
 |[],fr,σ,pd=>some (.ok fr σ pd)
 |o::rest,fr,σ,pd=>match pwanted ops fr o with
  |none=>none
  |some false=>dops tb Γ ops rest (pput fr o.dst (.tup [])) σ pd
  |some true=>match dop tb Γ fr σ pd o with
   |some (.ok fr' σ' pd')=>dops tb Γ ops rest fr' σ' pd'
   |r=>r
def dexec (tb:Tab) (Γ:Gam):Code→List PV→Store→List PD→Option (PExit×List PV×Store×List PD)
 |.skip,fr,σ,pd=>some (.normal,fr,σ,pd)
 |.ret,fr,σ,pd=>some (.ret,fr,σ,pd)
 |.region _ ops draw,fr,σ,pd=>match draw with
  |true=>none
  |false=>match dops tb Γ ops.toList ops.toList fr σ pd with
   |some (.ok fr' σ' pd')=>some (.normal,fr',σ',pd')
   |some (.pan x fr' σ' pd')=>some (.pan x,fr',σ',pd')
   |none=>none
 |.seq a b,fr,σ,pd=>match dexec tb Γ a fr σ pd with
  |some (.normal,fr',σ',pd')=>dexec tb Γ b fr' σ' pd'
  |r=>r
 |.cond c a b,fr,σ,pd=>match ev fr c with
  |.bool t=>match t with
   |true=>dexec tb Γ a fr σ pd
   |false=>dexec tb Γ b fr σ pd
  |_=>none
 |_,_,_,_=>none
section
variable {P : Program} {tb : Tab} {gl : Gl} {Γ : Gam} {H0 : Gh} {w0 : World} {fr : List PV} {σ : Store} {pd : List PD} {a : Act} {w : World} {Q : Exit → Act → World → Prop}
theorem qtg (hst:StD gl H0 w0 fr σ pd a w) {ops:Array Oper} {o:Oper} {b:Bool} (h:pwanted ops.toList fr o=some b):Region.wanted o (yielded ops a.tmps)=b:=by
 obtain⟨H,hev,hok,hfr,hd⟩:=hst;refine qbw (gl:=gl) (H0:={ H with K:=(w.heap.size,a.defers) }) (w0:=w) (σ:=σ) ⟨_,Ev.refl _ w,hok.setK _,hfr.mono (Mono.setK' H w _),Nat.le_refl _,[],rfl,List.nodup_nil,fun D h=>by cases h⟩ h
theorem qHT (hst:StD gl H0 w0 fr σ pd a w) (dst:Option Tmp):StD gl H0 w0 (pput fr dst (.tup [])) σ pd (a.put dst undef) w:=by
 obtain⟨H,hev,hok,hfr,hd⟩:=hst;exact⟨H,hev,hok,qrs hfr (.tup [] [] .nil),by rw [qfj];exact hd⟩
theorem qvP (hT:qaE P tb) {H:Gh} (hfr:RelL H w fr a.tmps.toList) {o:Oper} {x:Operand} {s t:TypeId} {ok:Bool} (ho:o.op=.typeAssert x s t ok) {y:PV} (h:passert tb fr x t ok=some y) :
  ∃ v,(execOp a.eval o).run P w=.ok (.value v) w∧Rel H w y v:=by
 unfold passert at h
 split at h
 ·rename_i K t' v hK hx;split at h
  ·rename_i fs hd gd hkd;split at h
   ·rename_i hb;have e:=Nat.eq_of_beq_eq_true hb;subst e;simp only [Option.some.injEq] at h
    subst h;have hr:=qaz hfr x;rw [hx] at hr;obtain⟨i,z,_,_,_,_,_,hk⟩:=qeH (hT _ _ hK);rw [hk] at hkd;obtain⟨fields,hu,_⟩:=qs7 hkd;generalize hv:a.eval x=xv at hr;cases hr with
    |iface _ _ u hu' =>
     refine⟨.tuple #[u,.bool true],?_,?_⟩
     ·simp [execOp,ho,hv,Instr.typeAssert,run_underlying,hu]
     ·exact .tup [v,.bool true] [u,.bool true] (.cons _ _ _ _ hu' (.cons _ _ _ _ (.bool _) .nil))
   ·cases h
  ·cases h
 ·cases h
theorem qx4 {H:Gh} (hfr:RelL H w fr a.tmps.toList) {o:Oper} {c:Call} (ho:o.op=.defer c) {d:PD} (h:pdefer fr c=some d) :
  ∃ vs cs:List Value,(execOp a.eval o).run P w=.ok (.defer { target:=.fn (.func d.1) cs.toArray,args:=vs.toArray }) w∧RelL H w d.2.1 vs∧RelL H w d.2.2 cs:=by
 unfold pdefer at h
 split at h
 ·rename_i f hc;split at h
  ·rename_i g caps hf;simp only [Option.some.injEq] at h
   subst h;have hr:=qaz hfr f;rw [hf] at hr;generalize hv:a.eval f=fv at hr;cases hr with
   |fn _ _ cs hcs =>
    refine⟨c.args.toList.map a.eval,cs,?_,?_,hcs⟩
    ·have e1:(c.args.toList.map a.eval).toArray=c.args.map a.eval:=by rw [← Array.toList_map,Array.toArray_toList]
     simp [execOp,ho,resolve,hc,hv,Deferred.ofValue,e1]
    ·refine qcn.2 ⟨by simp,fun i x v hx hv=>?_⟩
     rw [List.getElem?_map] at hx hv;cases he:c.args.toList[i]? with
     |none=>rw [he] at hx;cases hx
     |some q =>
      rw [he] at hx hv;cases hx
      cases hv
      exact qaz hfr q
  ·cases h
 ·cases h
theorem qw9 (hT:qaE P tb) (hΓ:qam P gl Γ) (hst:StD gl H0 w0 fr σ pd a w) {o:Oper} {n:Nat} {next:Act→World→Prop} :
  ∀ {R:DR},dop tb Γ fr σ pd o=some R →
  (match R with|.ok fr' σ' pd'=>∀ a' w',StD gl H0 w0 fr' σ' pd' a' w'→next a' w'|.pan x fr' σ' pd'=>∀ a' w',StD gl H0 w0 fr' σ' pd' a' w'→Q (.panic [{ v:=toV x,recovered:=false }]) a' w')→o.wpIn (rnd none) n P a w next Q:=by
 intro R h hn;obtain⟨H,hev,hok,hfr,hd⟩:=hst;unfold dop at h
 split at h
 ·rename_i c ho;split at h
  ·rename_i hdst;obtain⟨d,hp,hR⟩:=qau h;subst hR;obtain⟨vs,cs,hrun,h1,h2⟩:=qx4 (P:=P) hfr ho hp;refine⟨fun _ _=>trivial,?_⟩
   rw [show (rnd none).round=none from rfl,Oper.semAt_none,hrun,Oper.uponIn_defer,hdst]
   exact hn _ _ ⟨H,hev,hok,hfr,⟨vs,cs,rfl,h1,h2⟩,hd⟩
  ·cases h
 ·rename_i x s t ok ho;obtain⟨y,hp,hR⟩:=qau h;subst hR;obtain⟨v,hrun,hv⟩:=qvP hT hfr ho hp;refine (RunsTo.value (R:=fun v' w'=>v'=v∧w'=w) hrun ⟨rfl,rfl⟩) none n next Q fun v' w' ⟨e1,e2⟩=>?_
  subst e1 e2;exact hn _ _ ⟨H,hev,hok,qrs hfr hv,by rw [qfj];exact hd⟩
 ·unfold dfin at h
  split at h
  ·rename_i x σ' hp;simp only [Option.some.injEq] at h
   subst h;refine qxn hT hΓ hok hfr hp none n next Q fun v w' ⟨H',hev',hok',hx⟩=>hn _ _ ⟨H',hev.trans hev',hok',qrs (hfr.mono hev'.mono) hx,by rw [qfj];exact hd.mono hev'.mono⟩
  ·obtain⟨r,hp,hR⟩:=qau h;subst hR;refine qnr hΓ hok hfr (x:=r.1) (σ':=r.2) hp none n next Q fun w' ⟨H',hev',hok'⟩=>hn a w' ⟨H',hev.trans hev',hok',hfr.mono hev'.mono,hd.mono hev'.mono⟩
theorem qsq (hT:qaE P tb) (hΓ:qam P gl Γ) {ops:Array Oper} {n:Nat}:∀ (l:List Oper) (fr:List PV) (σ:Store) (pd:List PD) (a:Act) (w:World) (R:DR),StD gl H0 w0 fr σ pd a w→dops tb Γ ops.toList l fr σ pd=some R →
  (match R with|.ok fr' σ' pd'=>∀ a' w',StD gl H0 w0 fr' σ' pd' a' w'→Q .normal a' w'|.pan x fr' σ' pd'=>∀ a' w',StD gl H0 w0 fr' σ' pd' a' w'→Q (.panic [{ v:=toV x,recovered:=false }]) a' w')→wpListIn (rnd none) n P ops Q l a w:=by
 intro l
 induction l with
 |nil =>
  intro fr σ pd a w R hst h hq;simp only [dops,Option.some.injEq] at h
  subst h;exact hq a w hst
 |cons o l ih =>
  intro fr σ pd a w R hst h hq;simp only [dops] at h
  split at h
  ·cases h
  ·rename_i hw;have hwn:=qtg hst hw;simp only [wpListIn,hwn];exact⟨fun _ _=>trivial,ih _ _ _ _ _ _ (qHT hst _) h hq⟩
  ·rename_i hw;have hwn:=qtg hst hw;simp only [wpListIn,hwn,if_true];split at h
   ·rename_i fr' σ' pd' hp;exact qw9 hT hΓ hst hp fun a' w' hst'=>ih _ _ _ _ _ _ hst' h hq
   ·rename_i hne;cases R with
    |ok fr' σ' pd'=>exact (hne _ _ _ h).elim
    |pan x fr' σ' pd'=>exact qw9 hT hΓ hst h hq
theorem qjC (hT:qaE P tb) (hΓ:qam P gl Γ) {n:Nat}:∀ (c:Code) (fr:List PV) (σ:Store) (pd:List PD) (e:PExit) (fr':List PV) (σ':Store) (pd':List PD),dexec tb Γ c fr σ pd=some (e,fr',σ',pd') →
  ∀ (Q:Exit→Act→World→Prop) (a:Act) (w:World),StD gl H0 w0 fr σ pd a w→(∀ a' w',StD gl H0 w0 fr' σ' pd' a' w'→Q e.as a' w')→c.wpIn (rnd none) n P Q a w:=by
 intro c
 induction c with
 |skip =>
  intro fr σ pd e fr' σ' pd' h Q a w hst hq;simp only [dexec,Option.some.injEq,Prod.mk.injEq] at h
  obtain⟨rfl,rfl,rfl,rfl⟩:=h;exact wpIn_skip (hq _ _ hst)
 |ret =>
  intro fr σ pd e fr' σ' pd' h Q a w hst hq;simp only [dexec,Option.some.injEq,Prod.mk.injEq] at h
  obtain⟨rfl,rfl,rfl,rfl⟩:=h;exact wpIn_ret (hq _ _ hst)
 |region id ops draw =>
  intro fr σ pd e fr' σ' pd' h Q a w hst hq;cases draw with
  |true=>simp only [dexec] at h;cases h
  |false =>
   simp only [dexec] at h
   refine wpIn_region_list ?_;split at h
   ·rename_i fr1 σ1 pd1 hp;simp only [Option.some.injEq,Prod.mk.injEq] at h
    obtain⟨rfl,rfl,rfl,rfl⟩:=h;exact qsq hT hΓ _ _ _ _ _ _ _ hst hp hq
   ·rename_i x fr1 σ1 pd1 hp;simp only [Option.some.injEq,Prod.mk.injEq] at h
    obtain⟨rfl,rfl,rfl,rfl⟩:=h;exact qsq hT hΓ _ _ _ _ _ _ _ hst hp hq
   ·cases h
 |seq x y ihx ihy =>
  intro fr σ pd e fr' σ' pd' h Q a w hst hq;simp only [dexec] at h
  refine wpIn_seq ?_;split at h
  ·rename_i fr1 σ1 pd1 hx;exact ihx _ _ _ _ _ _ _ hx _ _ _ hst fun a1 w1 hst1=>ihy _ _ _ _ _ _ _ h _ _ _ hst1 hq
  ·rename_i hne;refine ihx _ _ _ _ _ _ _ h _ _ _ hst fun a1 w1 hst1=>?_
   cases e with
   |normal=>exact (hne _ _ _ h).elim
   |exit id=>exact hq _ _ hst1
   |ret=>exact hq _ _ hst1
   |pan x=>exact hq _ _ hst1
 |cond c x y ihx ihy =>
  intro fr σ pd e fr' σ' pd' h Q a w hst hq;simp only [dexec] at h
  split at h
  ·rename_i t hc;obtain⟨H,hev,hok,hfr,hd⟩:=id hst;have hr:=qaz hfr c;rw [hc] at hr;generalize hv:a.eval c=cv at hr;cases hr
   cases t with
   |true=>exact wpIn_cond hv (ihx _ _ _ _ _ _ _ h _ _ _ hst hq)
   |false=>exact wpIn_cond hv (ihy _ _ _ _ _ _ _ h _ _ _ hst hq)
  ·cases h
 |_ =>
  intro fr σ pd e fr' σ' pd' h;simp only [dexec] at h
  cases h
end
inductive PMode where
 |ret
 |pan (x:PV)
def PMode.as:PMode→FrameMode
 |.ret=>.returning
 |.pan x=>.panicking [{ v:=toV x,recovered:=false }]
theorem PMode.settled (m:PMode):settle m.as=m.as:=by cases m<;>rfl
theorem PMode.notRun (m:PMode):m.as≠.run:=by cases m<;>simp [PMode.as]
structure DefOk (P:Program) (gl:Gl) (f:FuncId) (args:List PV) (m:PMode) (σ:Store) (m':PMode) (σ':Store):Prop where
 ent : ∃ fn, P.funcs[f]? = some fn ∧ (fn.name == "runtime.NumGoroutine") = false ∧ fn.body.isNone = false
 run:∀ (H:Gh) (w:World) (vs:List Value),Ok gl H σ w→RelL H w args vs →
  CallsDIn (rnd none) 0 P f vs.toArray m.as w fun e u' w'=>(∃ v,e=.returned v)∧settle u'=m'.as∧qzX gl H w σ' w'
inductive LeaveP (P:Program) (gl:Gl):List PD→PMode→Store→Store→Prop
 |nil (σ:Store):LeaveP P gl [] .ret σ σ
 |cons {f:FuncId} {avs caps:List PV} {pd:List PD} {m m':PMode} {σ σ' σ'':Store} (h:DefOk P gl f (avs++caps) m σ m' σ') (k:LeaveP P gl pd m' σ' σ''):LeaveP P gl ((f,avs,caps)::pd) m σ σ''
section
variable {P : Program} {tb : Tab} {gl : Gl} {Γ : Gam}
theorem LeaveP.sound {fn:Func} {tmps:Array Value} {R:Ending→World→Prop} {H0:Gh} {w0:World} {pd:List PD} {m:PMode} {σ σ':Store} (h:LeaveP P gl pd m σ σ') :
  ∀ {H:Gh} {w:World} {ds:List Deferred},Ev gl H0 w0 H w→Ok gl H σ w→DefL H w pd ds →
  (∀ H' w',Ev gl H0 w0 H' w'→Ok gl H' σ' w'→Mono H w H' w'→∃ v,(results fn tmps).run P w'=.ok v w'∧R (.returned v) w')→LeavesInM (rnd none) 0 P fn tmps R ds m.as w:=by
 induction h with
 |nil σ =>
  intro H w ds hev hok hd hR;cases ds with
  |cons d ds=>exact hd.elim
  |nil=>exact hR H w hev hok (Ev.refl (gl:=gl) H w).mono
 |@cons f avs caps pd m m' σ σ' σ'' h k ih =>
  intro H w ds hev hok hd hR;cases ds with
  |nil=>exact hd.elim
  |cons d ds =>
   obtain⟨⟨vs,cs,hde,h1,h2⟩,hd⟩:=hd;subst hde;obtain⟨fn',hfn,hname,hbody⟩:=h.ent;have e1:(vs++cs).toArray=vs.toArray++cs.toArray:=by simp
   have hc:=h.run H w (vs++cs) hok (h1.app h2);rw [e1] at hc;refine⟨m.notRun,.inr ⟨(fun h=>by cases h),.func f,cs.toArray,f,vs.toArray++cs.toArray,rfl,?_,fun _ _=>trivial,?_⟩⟩
   ·simp only [invoke,callFunc,Sem.run_bind,run_program,Result.andThen_ok,hfn,hname,hbody,Bool.false_eq_true,if_false,Sem.run_pure]
   ·refine hc.mono ?_;rintro e u' w' ⟨⟨v,rfl⟩,hu,H',hev',hok'⟩;show LeavesInM (rnd none) 0 P fn tmps R ds (settle u') w'
    rw [hu];exact ih (hev.trans hev') hok' (hd.mono hev'.mono) fun H'' w'' e1 e2 e3=>hR H'' w'' e1 e2 (hev'.mono.trans e3)
theorem SimP.of_defer (hT : qaE P tb) (hΓ : qam P gl Γ) {f : FuncId} {fn : Func} {c : Code} (hf : P.funcs[f]? = some fn) (hb : fn.body = some c) (hn : (fn.name == "runtime.NumGoroutine") = false)
  {F:List PV→Option PV} (h:∀ args x,F args=some x→∃ (e:PExit) (m:PMode) (fr:List PV) (σ:Store) (pd:List PD) (σ':Store) (xs:List PV),dexec tb Γ c (args++List.replicate (fn.ntmps - args.length) .top) ⟨[],[],[]⟩ []=some (e,fr,σ,pd)∧((e=.ret∧m=.ret)∨∃ y,e=.pan y∧m=.pan y)∧LeaveP P gl pd m σ σ'∧presults tb fr σ' fn.results.toList=some xs∧pout (xs.map (oview σ'.objs))=x):SimP P gl f F where
 ent:=⟨fn,hf,hn,by simp [hb]⟩
 run:=by
  intro args x hx H w vs hB hob htk hgl hrel;obtain⟨e,m,fr0,σ0,pd,σ',xs0,hdo,he,hlv,hxs0,hpo0⟩:=h args x hx;refine qlw (r:=none) (n:=0) (callsIn_of_wp_marks hf hb trivial ?_);have hst:StD gl { H with K:=(w.heap.size,[]) } w (args++List.replicate (fn.ntmps - args.length) .top) ⟨[],[],[]⟩ [] { tmps:=vs.toArray++Array.replicate (fn.ntmps - vs.toArray.size) undef,defers:=[] } w:=by
   refine⟨{ H with K:=(w.heap.size,[]) },Ev.refl _ w,⟨by show H.B≤_;rw [hB];exact Nat.le_refl _,fun b o e=>⟨by show b < H.B;rw [hB];exact qal (hgl b o e),hgl b o e⟩,by simp [hob],fun id b cs e=>by simp [hob] at e,fun i j b e=>by simp [hob] at e,by simp [htk],fun t T e=>by simp [htk] at e,fun t u T U e=>by simp [htk] at e,rfl,fun id b T cs e=>by simp [hob] at e⟩,?_,trivial⟩
   have hl:=hrel.len;have e:(vs.toArray++Array.replicate (fn.ntmps - vs.toArray.size) undef).toList=vs++List.replicate (fn.ntmps - args.length) undef:=by simp [hl]
   rw [e];refine (hrel.mono (Mono.setK' H w _)).app ?_;have:=RelL.tops (H:={ H with K:=(w.heap.size,[]) }) (w:=w) (List.replicate (fn.ntmps - args.length) undef)
   simpa using this
  refine qjC hT hΓ c _ _ _ e fr0 σ0 pd hdo _ _ _ hst fun a w1 hst1=>?_
  have fin:LeavesInM (rnd none) 0 P fn a.tmps (fun e w'=>∃ v,e=.returned v∧(Below w.heap.size w w'∧Dr gl w w')∧Rel { H with aux:=fun _ _=>False } w' x v) a.defers m.as w1:=by
   obtain⟨H',hev1,hok1,hfr1,hd⟩:=hst1;refine hlv.sound hev1 hok1 hd fun H'' w' hev hok hmo=>?_
   have hfr:=hfr1.mono hmo;obtain⟨vs',hvs,hrs⟩:=qcJ hT hok hfr _ _ hxs0;have hbel:Below w.heap.size w w':=⟨hev.os,hev.tape,hev.output,hev.size,fun b hlt=>hev.block b (by show b < H.B;rw [hB];exact hlt) (by show b∉H.ob;rw [hob];simp)⟩
   have hrun:(results fn a.tmps).run P w'=.ok (if h:vs'.toArray.size=1 then vs'.toArray[0] else .tuple vs'.toArray) w':=by
    rw [qe2];simp only [Sem.run_bind,hvs,Result.andThen_ok,Sem.run_pure]
   have back:∀ {y:PV} {u:Value},Rel { { H with K:=(w.heap.size,[]) } with aux:=fun _ _=>False } w' y u→Rel { H with aux:=fun _ _=>False } w' y u:=fun h=>Rel.mono (Mono.setK { H with aux:=fun _ _=>False } w' (w.heap.size,[])) h
   have backL:∀ {y:List PV} {u:List Value},RelL { { H with K:=(w.heap.size,[]) } with aux:=fun _ _=>False } w' y u→RelL { H with aux:=fun _ _=>False } w' y u:=fun h=>RelL.mono (Mono.setK { H with aux:=fun _ _=>False } w' (w.heap.size,[])) h
   refine⟨_,hrun,_,rfl,⟨hbel,hev.dr⟩,?_⟩;subst hpo0;have hl:=hrs.len;cases hrs with
   |nil =>
    simp only [List.map_nil,pout,qaV];exact .tup [] [] .nil
   |cons y v ys us hy hys =>
    cases hys with
    |nil=>exact back (qqW hev hok hob htk hy)
    |cons y2 v2 ys us hy2 hys =>
     have h1:¬ ((v::v2::us).toArray.size=1):=by simp
     rw [dif_neg h1];exact .tup _ _ (backL (qnt hev hok hob htk (.cons _ _ _ _ hy (.cons _ _ _ _ hy2 hys))))
  rcases he with⟨rfl,rfl⟩|⟨y,rfl,rfl⟩
  ·exact fin
  ·exact fin
theorem DefOk.of_quiet (hT : qaE P tb) (hΓ : qam P gl Γ) {f : FuncId} {fn : Func} {c : Code} (hf : P.funcs[f]? = some fn) (hb : fn.body = some c) (hn : (fn.name == "runtime.NumGoroutine") = false) (hr : fn.results.toList = [])
  {args:List PV} {m:PMode} {σ:Store} {e:PExit} {σ':Store} (he:e=.normal∨e=.ret) (h:(dexec tb Γ c (args++List.replicate (fn.ntmps - args.length) .top) σ []).map (fun r=>(r.1,r.2.2.1,r.2.2.2))=some (e,σ',[])):DefOk P gl f args m σ m σ' where
 ent:=⟨fn,hf,hn,by simp [hb]⟩
 run:=by
  obtain⟨⟨e1,fr,σ1,pd1⟩,h,h2⟩:=qau h;simp only [Prod.mk.injEq] at h2;rw [h2.1,h2.2.1,h2.2.2] at h
  intro H w vs hok hrel;have key:c.wpIn (rnd none) 0 P (bodyPost P fn fun e w'=>(∃ v,e=.returned v)∧qzX gl H w σ' w') { tmps:=vs.toArray++Array.replicate (fn.ntmps - vs.toArray.size) undef,defers:=[] } w:=by
   have hst:StD gl H w (args++List.replicate (fn.ntmps - args.length) .top) σ [] { tmps:=vs.toArray++Array.replicate (fn.ntmps - vs.toArray.size) undef,defers:=[] } w:=by
    refine⟨H,Ev.refl _ w,hok,?_,trivial⟩;have hl:=hrel.len;have e:(vs.toArray++Array.replicate (fn.ntmps - vs.toArray.size) undef).toList=vs++List.replicate (fn.ntmps - args.length) undef:=by simp [hl]
    rw [e];refine hrel.app ?_;have:=RelL.tops (H:=H) (w:=w) (List.replicate (fn.ntmps - args.length) undef);simpa using this
   refine qjC hT hΓ c _ _ _ _ _ _ _ h _ _ _ hst fun a w1 hst1=>?_
   obtain⟨H',hev1,hok1,hfr1,hd⟩:=hst1;have hds:a.defers=[]:=by
    cases hda:a.defers with
    |nil=>rfl
    |cons d ds=>rw [hda] at hd;exact hd.elim
   have hrun:(results fn a.tmps).run P w1=.ok (.tuple #[]) w1:=by
    obtain⟨vs',hvs,hrs⟩:=qcJ hT hok1 hfr1 [] [] rfl;cases hrs
    rw [qe2,hr];simp only [Sem.run_bind,hvs,Result.andThen_ok,Sem.run_pure];rfl
   rcases he with rfl|rfl
   ·exact⟨hds,_,hrun,⟨_,rfl⟩,H',hev1,hok1⟩
   ·exact⟨hds,_,hrun,⟨_,rfl⟩,H',hev1,hok1⟩
  refine (callsDIn_of_wp (u:=m.as) hf hb trivial key).mono ?_;rintro e u' w' ⟨rfl,h1,h2⟩;exact⟨h1,m.settled,h2⟩
theorem DefOk.of_recover (hT : qaE P tb) (hΓ : qam P gl Γ) {f : FuncId} {fn : Func} {i0 : Nat} {ops : Array Oper} {c : Code} (hf : P.funcs[f]? = some fn) (hb : fn.body = some (.seq (.region i0 ops false) c)) (hn : (fn.name == "runtime.NumGoroutine") = false) (hr : fn.results.toList = [])
  {d0 d1:Nat} {o0 o1:Oper} (hops:ops=#[o0,o1]) (h0:o0.op=.call { callee:=.builtin .recover,args:=#[],argTypes:=#[] }) (h0d:o0.dst=some d0) (h0g:o0.guard=none) (h1:o1.op=.assign (.tmp d0)) (h1d:o1.dst=some d1) (h1g:o1.guard=none)
  {args:List PV} (hd0:args.length≤d0∧d0 < fn.ntmps) {m:PMode} {y:PV} (hm:(m=.ret∧y=.nili)∨(m=.pan y∧∀ H w,Rel H w y (toV y))) {σ:Store} {e:PExit} {σ':Store} (he:e=.normal∨e=.ret)
  (h:(dexec tb Γ c (((args++List.replicate (fn.ntmps - args.length) PV.top).set d0 y).set d1 y) σ []).map (fun r=>(r.1,r.2.2.1,r.2.2.2))=some (e,σ',[])):DefOk P gl f args m σ .ret σ' where
 ent:=⟨fn,hf,hn,by simp [hb]⟩
 run:=by
  obtain⟨⟨e1,fr,σ1,pd1⟩,h,h2⟩:=qau h;simp only [Prod.mk.injEq] at h2;rw [h2.1,h2.2.1,h2.2.2] at h
  intro H w vs hok hrel;refine callsDIn_of_wpSIn hf hb trivial fun c₀ cs hc₀=>?_
  refine wpSIn_seq (wpSIn_region ?_);have hl:=hrel.len;have hsz:d0 < (vs.toArray++Array.replicate (fn.ntmps - vs.toArray.size) undef).size:=by
   have:=hd0.2;simp only [Array.size_append,List.size_toArray,Array.size_replicate];omega
  have main:∀ (v:Value) (cs':List Frame) (u':FrameMode),Rel H w y v→cs'={ c₀ with mode:=u' }::cs→settle u'=.returning →
    c.wpSIn (rnd none) 0 P (bodyPostS P fn c₀ cs fun e u' w'=>(∃ v,e=.returned v)∧settle u'=PMode.ret.as∧qzX gl H w σ' w') { tmps:=((vs.toArray++Array.replicate (fn.ntmps - vs.toArray.size) undef).set! d0 v).set! d1 v,defers:=[] } cs' w:=by
   intro v cs' u' hv hcs hu;refine wpSIn_of_wpIn rfl ?_;have hst:StD gl H w (((args++List.replicate (fn.ntmps - args.length) PV.top).set d0 y).set d1 y) σ [] { tmps:=((vs.toArray++Array.replicate (fn.ntmps - vs.toArray.size) undef).set! d0 v).set! d1 v,defers:=[] } w:=by
    refine⟨H,Ev.refl _ w,hok,?_,trivial⟩;have e:(((vs.toArray++Array.replicate (fn.ntmps - vs.toArray.size) undef).set! d0 v).set! d1 v).toList=((vs++List.replicate (fn.ntmps - args.length) undef).set d0 v).set d1 v:=by simp [hl]
    rw [e];refine RelL.set (RelL.set (hrel.app ?_) _ hv) _ hv;have:=RelL.tops (H:=H) (w:=w) (List.replicate (fn.ntmps - args.length) undef);simpa using this
   refine qjC hT hΓ c _ _ _ _ _ _ _ h _ _ _ hst fun a w1 hst1=>?_
   obtain⟨H',hev1,hok1,hfr1,hd⟩:=hst1;have hds:a.defers=[]:=by
    cases hda:a.defers with
    |nil=>rfl
    |cons d ds=>rw [hda] at hd;exact hd.elim
   have hrun:(results fn a.tmps).run P w1=.ok (.tuple #[]) w1:=by
    obtain⟨vs',hvs,hrs⟩:=qcJ hT hok1 hfr1 [] [] rfl;cases hrs
    rw [qe2,hr];simp only [Sem.run_bind,hvs,Result.andThen_ok,Sem.run_pure];rfl
   rcases he with rfl|rfl
   ·exact⟨hds,u',hcs,_,hrun,⟨_,rfl⟩,hu,H',hev1,hok1⟩
   ·exact⟨hds,u',hcs,_,hrun,⟨_,rfl⟩,hu,H',hev1,hok1⟩
  subst hops;have run0:∀ a:Act,(execOp a.eval o0).run P w=.ok .recover w:=by
   intro a;simp [execOp,h0,resolve,invoke,builtin]
  have run1:∀ a:Act,(execOp a.eval o1).run P w=.ok (.value (a.eval (.tmp d0))) w:=by
   intro a;simp [execOp,h1]
  have hlt:d0 < vs.length+(fn.ntmps - vs.length):=by
   have:=hd0.2;omega
  have want0:∀ ys,Region.wanted o0 ys=true:=fun ys=>by simp [Region.wanted,h0g]
  have want1:∀ ys,Region.wanted o1 ys=true:=fun ys=>by simp [Region.wanted,h1g]
  have get0:∀ v,((vs.toArray++Array.replicate (fn.ntmps - vs.toArray.size) undef).set! d0 v).getD d0 undef=v:=by
   intro v;simp only [Array.getD_eq_getD_getElem?,Array.set!_eq_setIfInBounds,Array.getElem?_setIfInBounds,if_true,if_pos hsz,Option.getD_some]
  rcases hm with⟨rfl,rfl⟩|⟨rfl,hy⟩
  ·have hrec:recoverD (c₀::cs)=none:=by simp [recoverD,hc₀,PMode.as]
   have hcc:(c₀::cs)={ c₀ with mode:=.returning }::cs:=by
    have:c₀.mode=.returning:=hc₀;rw [← this]
   have:=main .nilIface (c₀::cs) .returning .nili hcc rfl;simp [wpOpsSIn,List.range,List.range.loop,run0,run1,want0,want1,hrec,h0d,h1d,Act.put,Act.eval,Exit.thenS,get0];refine⟨fun _ _=>trivial,fun _ _=>trivial,?_⟩
   rw [if_pos hlt];simpa using this
  ·have hrec:recoverD (c₀::cs)=some (toV y,{ c₀ with mode:=.panicking [{ v:=toV y,recovered:=true }] }::cs):=by simp [recoverD,hc₀,PMode.as]
   have:=main (toV y) _ (.panicking [{ v:=toV y,recovered:=true }]) (hy H w) rfl rfl;simp [wpOpsSIn,List.range,List.range.loop,run0,run1,want0,want1,hrec,h0d,h1d,Act.put,Act.eval,Exit.thenS,get0];refine⟨fun _ _=>trivial,fun _ _=>trivial,?_⟩
   rw [if_pos hlt];simpa using this
theorem qbx {ops:List Oper} {o:Oper} {rest:List Oper} {fr fr':List PV} {σ σ':Store} {pd pd':List PD} (hg:pwanted ops fr o=some true) (h:dop tb Γ fr σ pd o=some (.ok fr' σ' pd')):dops tb Γ ops (o::rest) fr σ pd=dops tb Γ ops rest fr' σ' pd':=by
 simp only [dops,hg,h]
theorem qkP {ops:List Oper} {o:Oper} {rest:List Oper} {fr fr':List PV} {σ σ':Store} {pd pd':List PD} {x:PV} (hg:pwanted ops fr o=some true) (h:dop tb Γ fr σ pd o=some (.pan x fr' σ' pd')):dops tb Γ ops (o::rest) fr σ pd=some (.pan x fr' σ' pd'):=by
 simp only [dops,hg,h]
theorem qaN {a b:Code} {fr fr':List PV} {σ σ':Store} {pd pd':List PD} (h:dexec tb Γ a fr σ pd=some (.normal,fr',σ',pd')):dexec tb Γ (.seq a b) fr σ pd=dexec tb Γ b fr' σ' pd':=by
 simp only [dexec,h]
theorem qhZ {a b:Code} {fr fr':List PV} {σ σ':Store} {pd pd':List PD} {x:PV} (h:dexec tb Γ a fr σ pd=some (.pan x,fr',σ',pd')):dexec tb Γ (.seq a b) fr σ pd=some (.pan x,fr',σ',pd'):=by
 simp only [dexec,h]
theorem qda {i:Nat} {ops:Array Oper} {fr fr':List PV} {σ σ':Store} {pd pd':List PD} (h:dops tb Γ ops.toList ops.toList fr σ pd=some (.ok fr' σ' pd')):dexec tb Γ (.region i ops false) fr σ pd=some (.normal,fr',σ',pd'):=by
 simp only [dexec,h]
theorem qij {i:Nat} {ops:Array Oper} {fr fr':List PV} {σ σ':Store} {pd pd':List PD} {x:PV} (h:dops tb Γ ops.toList ops.toList fr σ pd=some (.pan x fr' σ' pd')):dexec tb Γ (.region i ops false) fr σ pd=some (.pan x,fr',σ',pd'):=by
 simp only [dexec,h]
theorem qqq {c:Operand} {a b:Code} {fr:List PV} {σ:Store} {pd:List PD} (h:ev fr c=.bool true):dexec tb Γ (.cond c a b) fr σ pd=dexec tb Γ a fr σ pd:=by
 simp only [dexec,h]
theorem qp2 {c:Operand} {a b:Code} {fr:List PV} {σ:Store} {pd:List PD} (h:ev fr c=.bool false):dexec tb Γ (.cond c a b) fr σ pd=dexec tb Γ b fr σ pd:=by
 simp only [dexec,h]
theorem qKY {t:TypeId} {n:Int} (h:(Lit.int .i64 n).wf=true):∀ (H:Gh) (w:World),Rel H w (.iface t (.agg [.int .i64 n])) (toV (.iface t (.agg [.int .i64 n]))) :=
 fun H w=>.iface _ _ _ (.agg _ _ (.cons _ _ _ _ (.int _ _ h) .nil))
theorem qeW {D:List PV→Store→Tr (PR×Store)} {args:List PV} {σ:Store} {id:Nat} {c:List PV} {t:TypeId} {r:PR} {c':List PV} {os:List (List PV)} {tk:List (Nat×Nat×TypeId)} {ts:List TypeId} (h1:qGZ args=some id) (h2:σ.objs[id]?=some c) (h3:σ.tys[id]?=some t)
  (h:(D (args.map (ren id σ.objs)) ⟨[qb8 c],[],[t]⟩).run=some (r,⟨c'::os,tk,t::ts⟩)):(frameT D args σ).run=some (qCN r,{ σ with objs:=σ.objs.set id (qaV c') }):=by
 unfold frameT;simp only [h1,h2,h3,Tr.run_bind,h,Option.bind_some];simp only [qzd,Nat.beq_refl,Tr.run_ret]
variable {fr fr' fr1 : List PV} {σ σ' σ1 : Store} {e : PExit}
theorem Does.seqN {a b:Code} (h1:Does P gl a fr σ .normal fr1 σ1) (h2:Does P gl b fr1 σ1 e fr' σ'):Does P gl (.seq a b) fr σ e fr' σ' :=
 fun r n H0 w0 hR Q a w hst hq=>wpIn_seq (h1 r n H0 w0 hR _ _ _ hst fun a1 w1 hst1=>h2 r n H0 w0 hR _ _ _ hst1 hq)
theorem Does.seqR {a b:Code} (h1:Does P gl a fr σ .ret fr' σ'):Does P gl (.seq a b) fr σ .ret fr' σ' :=
 fun r n H0 w0 hR Q a w hst hq=>wpIn_seq (h1 r n H0 w0 hR _ _ _ hst hq)
theorem Does.ret:Does P gl .ret fr σ .ret fr σ:=fun r n H0 w0 hR Q a w hst hq=>wpIn_ret (hq _ _ hst)
theorem Does.condT {c:Operand} {a b:Code} (hc:ev fr c=.bool true) (h:Does P gl a fr σ e fr' σ'):Does P gl (.cond c a b) fr σ e fr' σ':=by
 intro r n H0 w0 hR Q a w hst hq;obtain⟨H,hev,hok,hfr,hd⟩:=id hst;have hr:=qaz hfr c;rw [hc] at hr;generalize hv:a.eval c=cv at hr;cases hr
 exact wpIn_cond hv (h r n H0 w0 hR _ _ _ hst hq)
theorem Does.reg (hT:qaE P tb) (hΓ:qam P gl Γ) {i:Nat} {ops:Array Oper} (h:pops tb Γ ops.toList ops.toList fr σ=some (fr',σ')):Does P gl (.region i ops false) fr σ .normal fr' σ' :=
 fun r n H0 w0 hR Q a w hst hq=>wpIn_region_list (qto hT hΓ _ _ _ _ _ _ _ hst h hq r n)
theorem Does.regD (hT:qaE P tb) (hΓ:qam P gl Γ) (hm:P.follows .mixedOrders=true) {i:Nat} {ops:Array Oper} (hd:qkK Γ ops.toList=true) (h:qgZ tb Γ ops.toList ops.toList 0 [] fr σ=some (.ok fr' σ')):Does P gl (.region i ops true) fr σ .normal fr' σ' :=
 fun r n H0 w0 hR Q a w hst hq=>qmd hT hΓ hm hst h hd (fun fr1 σ1 e a' w' h'=>by cases e;exact hq _ _ h') (fun x σ1 e=>by cases e) r n
theorem qkw {ops:List Oper} {o:Oper} {rest:List Oper} {x:PV} (hg:pwanted ops fr o=some true) (h:pop tb Γ fr σ o=some (x,σ')):pops tb Γ ops (o::rest) fr σ=pops tb Γ ops rest (pput fr o.dst x) σ':=by
 simp only [pops,hg,h]
theorem qbe {ops:List Oper} {o:Oper} {rest:List Oper} {x:PV} {j:Nat} {lds:List (Nat×Nat)} (hg:pwanted ops fr o=some true) (h:pop tb Γ fr σ o=some (x,σ')) (hk:writes Γ o=true→qnB o σ σ' lds):qgZ tb Γ ops (o::rest) j lds fr σ=qgZ tb Γ ops rest (j+1) (qDh j lds (ldOf fr o)) (pput fr o.dst x) σ':=by
 simp only [qgZ,hg,h];exact if_pos hk
end
theorem qfz {o:Oper} {σ σ':Store} {l l':List (Nat×Nat)} (h:l=l') (k:qnB o σ σ' l'):qnB o σ σ' l:=h ▸ k
def sq1:Code→Code
 |.seq a _=>a
 |.cond _ a _=>a
 |c=>c
def sq2:Code→Code
 |.seq _ b=>b
 |.cond _ _ b=>b
 |c=>c
def qat:Code→Array Oper
 |.region _ o _=>o
 |_=>#[]
def opAt (c:Code) (k:Nat):Oper:=(qat c).getD k default
end Go.Pv
set_option maxHeartbeats 4000000
set_option maxRecDepth 200000
set_option linter.unusedSimpArgs false
set_option linter.unusedVariables false
namespace Go.Pv
open Go Go.Proofs
def qLh:GamT:=ofL [(35,.may (frameT qzc))]
theorem qJw (gl:Gl):qam Tryz.prog gl (gam qLh):=(qai (SimM.frameT (qGn gl)) qag)
def qMW:LpsT:=fun r fr σ=>.fail
def qE5 (r:qR) (n:Int):Tr (PR×Store):=let z1:=qab (qab r);.ite (qrq z1 n) (.ret (PR.pan (.iface 172 (.agg [.int .i64 (ql7 z1 n)])),Store.mk [[.sl (qaa (qaa (qkM z1 n))) .non,.int .i64 n]] [] [138])) (.ite (qq7 z1 n) (.ret (PR.val (.agg [.sl (qaa (qaa (ql4 z1 n))) .non,.sl (qaa (qaa (qip z1 n))) .non,.sl (qaa (qaa (qiJ z1 n))) .non]),Store.mk [[.sl (qaa (qaa (qh5 z1 n))) .non,.int .i64 n]] [] [138])) .fail)
theorem qNB (r:qR) (n:Int):(nrmM tbT qLh qMW Tryz.f34 [.ptr 0 0] ⟨[[.sl r .non,.int .i64 n]],[],[138]⟩).flat=qE5 r n:=by kernel_rfl
def qsf (r:qR) (n:Int):Option (PR×Store):=(qE5 r n).run
def qzt (r:qR) (n:Int):Int:=(gInt (gAt (gCs (gAt (gCs (gOut (qaj (qsf r n)) 0)) 0)) 0))
def qyM (r:qR) (n:Int):qR:=(gRow (gAt (gObj (qaj (qsf r n)) 0) 0))
def qE6 (r:qR) (n:Int):Bool:=isW (qsf r n) ((.pan (.iface 172 (.agg [.int .i64 (qzt r n)]))),⟨[[.sl (qyM r n) .non,.int .i64 n]],[],[138]⟩)
def qyT (r:qR) (n:Int):qR:=(gRow (gAt (gCs (gOut (qaj (qsf r n)) 0)) 0))
def qtI (r:qR) (n:Int):qR:=(gRow (gAt (gCs (gOut (qaj (qsf r n)) 0)) 1))
def qvi (r:qR) (n:Int):qR:=(gRow (gAt (gCs (gOut (qaj (qsf r n)) 0)) 2))
def qtA (r:qR) (n:Int):qR:=(gRow (gAt (gObj (qaj (qsf r n)) 0) 0))
def qGt (r:qR) (n:Int):Bool:=isW (qsf r n) ((.val (.agg [.sl (qyT r n) .non,.sl (qtI r n) .non,.sl (qvi r n) .non])),⟨[[.sl (qtA r n) .non,.int .i64 n]],[],[138]⟩)
def qkN:List PV→Store→Tr (PR×Store)|[.ptr 0 0],⟨[[.sl r .non,.int .i64 n]],[],[138]⟩=>.ite (qE6 r n) (.ret ((.pan (.iface 172 (.agg [.int .i64 (qzt r n)]))),⟨[[.sl (qyM r n) .non,.int .i64 n]],[],[138]⟩)) (.ite (qGt r n) (.ret ((.val (.agg [.sl (qyT r n) .non,.sl (qtI r n) .non,.sl (qvi r n) .non])),⟨[[.sl (qtA r n) .non,.int .i64 n]],[],[138]⟩)) (.fail))|_,_=>.fail
theorem qKN (gl:Gl):SimM Tryz.prog gl 34 fun args σ=>(qkN args σ).run:=by
 refine SimM.of_nrm (G:=qLh) (L:=qMW) qak (qJw gl ) qah Tryz.func34 rfl (by rfl) (by kernel_rfl) (qac (by kernel_rfl)) ?_
 intro args σ x h;unfold qkN at h
 split at h
 ·exact (congrArg Tr.run (qNB _ _)).trans (qad h fun h=>qad h fun h=>by cases h)
 ·cases h
def qLR:GamT:=ofL [(47,.may (frameT qtz))]
theorem qL2 (gl:Gl):qam Tryz.prog gl (gam qLR):=(qai (SimM.frameT (qwR gl)) qag)
def qMP:LpsT:=fun r fr σ=>.fail
def qFj (r:qR) (n:Int):Tr (PR×Store):=let z1:=qab (qab r);.ite (qlo z1 n) (.ret (PR.pan (.iface 172 (.agg [.int .i64 (qht z1 n)])),Store.mk [[.sl (qaa (qaa (qg5 z1 n))) .non,.int .i64 n]] [] [138])) (.ite (qlu z1 n) (.ret (PR.val (.agg [.str (qhv z1 n),.sl (qaa (qaa (qhh z1 n))) .non,.sl (qaa (qaa (qfB z1 n))) .non]),Store.mk [[.sl (qaa (qaa (qft z1 n))) .non,.int .i64 n]] [] [138])) .fail)
theorem qND (r:qR) (n:Int):(nrmM tbT qLR qMP Tryz.f46 [.ptr 0 0] ⟨[[.sl r .non,.int .i64 n]],[],[138]⟩).flat=qFj r n:=by kernel_rfl
def qr5 (r:qR) (n:Int):Option (PR×Store):=(qFj r n).run
def qyV (r:qR) (n:Int):Int:=(gInt (gAt (gCs (gAt (gCs (gOut (qaj (qr5 r n)) 0)) 0)) 0))
def qzM (r:qR) (n:Int):qR:=(gRow (gAt (gObj (qaj (qr5 r n)) 0) 0))
def qFX (r:qR) (n:Int):Bool:=isW (qr5 r n) ((.pan (.iface 172 (.agg [.int .i64 (qyV r n)]))),⟨[[.sl (qzM r n) .non,.int .i64 n]],[],[138]⟩)
def qz2 (r:qR) (n:Int):qU:=(gStr (gAt (gCs (gOut (qaj (qr5 r n)) 0)) 0))
def qAe (r:qR) (n:Int):qR:=(gRow (gAt (gCs (gOut (qaj (qr5 r n)) 0)) 1))
def qun (r:qR) (n:Int):qR:=(gRow (gAt (gCs (gOut (qaj (qr5 r n)) 0)) 2))
def qtX (r:qR) (n:Int):qR:=(gRow (gAt (gObj (qaj (qr5 r n)) 0) 0))
def qDZ (r:qR) (n:Int):Bool:=isW (qr5 r n) ((.val (.agg [.str (qz2 r n),.sl (qAe r n) .non,.sl (qun r n) .non])),⟨[[.sl (qtX r n) .non,.int .i64 n]],[],[138]⟩)
def qlY:List PV→Store→Tr (PR×Store)|[.ptr 0 0],⟨[[.sl r .non,.int .i64 n]],[],[138]⟩=>.ite (qFX r n) (.ret ((.pan (.iface 172 (.agg [.int .i64 (qyV r n)]))),⟨[[.sl (qzM r n) .non,.int .i64 n]],[],[138]⟩)) (.ite (qDZ r n) (.ret ((.val (.agg [.str (qz2 r n),.sl (qAe r n) .non,.sl (qun r n) .non])),⟨[[.sl (qtX r n) .non,.int .i64 n]],[],[138]⟩)) (.fail))|_,_=>.fail
theorem qKX (gl:Gl):SimM Tryz.prog gl 46 fun args σ=>(qlY args σ).run:=by
 refine SimM.of_nrm (G:=qLR) (L:=qMP) qak (qL2 gl ) qah Tryz.func46 rfl (by rfl) (by kernel_rfl) (qac (by kernel_rfl)) ?_
 intro args σ x h;unfold qlY at h
 split at h
 ·exact (congrArg Tr.run (qND _ _)).trans (qad h fun h=>qad h fun h=>by cases h)
 ·cases h
end Go.Pv
set_option maxHeartbeats 4000000
set_option maxRecDepth 200000
set_option linter.unusedSimpArgs false
set_option linter.unusedVariables false
namespace Go.Pv
open Go Go.Proofs
def qbr (k n:Int) (s:qU):Int:=if k=1∧s=[] then 0 else if k=2∧n=0∧s.length≤256 then 0 else 10
def isV (k n:Int) (s:qU):Bool:=decide (k=1∧s=[]∨k=2∧n=0∧s.length≤256)
def qy7:List PV→Tr PV
 |[.agg [.int .i64 k,.int .i64 n,.str s]]=>.ret (.int .i64 (qbr k n s))
 |_=>.fail
theorem qEC (gl:Gl):SimP Tryz.prog gl 184 fun args=>(qy7 args).run:=by
 refine SimP.of_tree (G:=ofL []) (L:=fun _ _ _=>.fail) qak qag qah Tryz.func184 rfl (by rfl) (by kernel_rfl) (qac (by kernel_rfl)) ?_
 intro args x h hr;unfold qy7 at h
 split at h
 ·rename_i k n s;cases h
  refine Tr.run_as (.ite (iEq k 1) (.ite (sEq s []) (.ret (.int .i64 0)) (.ite (iEq k 2) (.ite (iEq n 0) (.ite (iLe (sLen s) 256) (.ret (.int .i64 0)) (.ret (.int .i64 10))) (.ret (.int .i64 10))) (.ret (.int .i64 10)))) (.ite (iEq k 2) (.ite (iEq n 0) (.ite (iLe (sLen s) 256) (.ret (.int .i64 0)) (.ret (.int .i64 10))) (.ret (.int .i64 10))) (.ret (.int .i64 10)))) (by kernel_rfl) ?_
  simp
  try simp [qbr]
  try ((repeat' split)<;>first|rfl|(simp_all;done)|omega|(simp_all;omega))
 ·cases h
def qdd (a b:qU):Bool:=decide (b.length≤a.length)&&decide (a.take b.length=b)
def qwu (a b:qU):Bool:=decide (b.length≤a.length)&&decide (a.drop (a.length - b.length)=b)
def qr4:List PV→Tr PV
 |[.str a,.str b]=>.ret (.bool (qdd a b))
 |_=>.fail
theorem qzJ (gl:Gl):SimP Tryz.prog gl 190 fun args=>(qr4 args).run:=by
 refine SimP.of_tree (G:=ofL []) (L:=fun _ _ _=>.fail) qak qag qah Tryz.func190 rfl (by rfl) (by kernel_rfl) (qac (by kernel_rfl)) ?_
 intro args x h hr;unfold qr4 at h
 split at h
 ·rename_i a b;cases h
  have h1:=qvU hr 0 rfl;have h2:=qvU hr 1 rfl;unfold maxLen at h1 h2;refine Tr.run_as (.ite (iLe (sLen b) (sLen a)) (.ite (qbd true (qas (sLen b)) 0 (nNat (sLen b)) (nLen a)) (.ret (.bool (sEq (sSub a 0 (nNat (sLen b))) b))) .fail) (.ret (.bool false))) (by kernel_rfl) ?_
  simp [iSub];by_cases hl:b.length≤a.length
  ·simp [qdd,hl]
  ·simp [qdd,hl]
 ·cases h
def qq4:List PV→Tr PV
 |[.str a,.str b]=>.ret (.bool (qwu a b))
 |_=>.fail
theorem qyy (gl:Gl):SimP Tryz.prog gl 201 fun args=>(qq4 args).run:=by
 refine SimP.of_tree (G:=ofL []) (L:=fun _ _ _=>.fail) qak qag qah Tryz.func201 rfl (by rfl) (by kernel_rfl) (qac (by kernel_rfl)) ?_
 intro args x h hr;unfold qq4 at h
 split at h
 ·rename_i a b;cases h
  have h1:=qvU hr 0 rfl;have h2:=qvU hr 1 rfl;unfold maxLen at h1 h2;refine Tr.run_as (.ite (iLe (sLen b) (sLen a)) (.ite (qbd (qas (iSub .i64 (sLen a) (sLen b))) true (nNat (iSub .i64 (sLen a) (sLen b))) (nLen a) (nLen a)) (.ret (.bool (sEq (sSub a (nNat (iSub .i64 (sLen a) (sLen b))) (nLen a)) b))) .fail) (.ret (.bool false))) (by kernel_rfl) ?_
  simp [iSub];by_cases hl:b.length≤a.length
  ·have e:IntKind.wrap .i64 ((a.length:Int) - b.length)=(a.length:Int) - b.length:=qcY (by omega)
   have e2:((a.length:Int) - b.length).toNat=a.length - b.length:=by omega
   rw [if_pos hl,e,if_pos (by omega),e2]
   simp [qwu,hl]
  ·simp [qwu,hl]
 ·cases h
def qn0:List PV→Tr PV
 |[.str a,.str b]=>.ret (.bool (qdd a b))
 |_=>.fail
theorem qsz (gl:Gl):SimP Tryz.prog gl 177 fun args=>(qn0 args).run:=by
 refine SimP.of_tree (G:=ofL [(190,.pure qr4)]) (L:=fun _ _ _=>.fail) qak (qae (qzJ gl) qag) qah Tryz.func177 rfl (by rfl) (by kernel_rfl) (qac (by kernel_rfl)) ?_
 intro args x h hr;unfold qn0 at h
 split at h
 ·rename_i a b;cases h
  refine Tr.run_as (.ret (.bool (qdd a b))) (by kernel_rfl) ?_
  simp
  try simp
  try ((repeat' split)<;>first|rfl|(simp_all;done)|omega|(simp_all;omega))
 ·cases h
def qvI:List PV→Tr PV
 |[.str a,.str b]=>.ret (.bool (qwu a b))
 |_=>.fail
theorem qCS (gl:Gl):SimP Tryz.prog gl 194 fun args=>(qvI args).run:=by
 refine SimP.of_tree (G:=ofL [(201,.pure qq4)]) (L:=fun _ _ _=>.fail) qak (qae (qyy gl) qag) qah Tryz.func194 rfl (by rfl) (by kernel_rfl) (qac (by kernel_rfl)) ?_
 intro args x h hr;unfold qvI at h
 split at h
 ·rename_i a b;cases h
  refine Tr.run_as (.ret (.bool (qwu a b))) (by kernel_rfl) ?_
  simp
  try simp
  try ((repeat' split)<;>first|rfl|(simp_all;done)|omega|(simp_all;omega))
 ·cases h
def hexL:qU:=[48,49,50,51,52,53,54,55,56,57,97,98,99,100,101,102]
def oneV (c:Int):List UInt8 :=
 if c=34∨c=92 then [92,UInt8.ofNat c.toNat] else if c=10 then [92,110] else if c=9 then [92,116] else if 32≤c∧c≤126 then [UInt8.ofNat c.toNat]
 else [92,120,UInt8.ofNat (sAt hexL (iShr .u8 c 4)).toNat,UInt8.ofNat (sAt hexL (iAnd .u8 c 15)).toNat]
def qLv:List PV→Tr PV
 |[.int .u8 c]=>.ret (.str (oneV c))
 |_=>.fail
theorem qMl (gl:Gl):SimP Tryz.prog gl 187 fun args=>(qLv args).run:=by
 refine SimP.of_tree (G:=ofL []) (L:=fun _ _ _=>.fail) qak qag qah Tryz.func187 rfl (by rfl) (by kernel_rfl) (qac (by kernel_rfl)) ?_
 intro args x h hr;unfold qLv at h
 split at h
 ·rename_i c;cases h
  have h1:=qKQ hr 0 rfl;obtain⟨n,rfl⟩:=qHo h1;refine Tr.run_as (.ite (iEq (Int.ofNat n.1) 34) (.ite (qed (qcy .i32 (Int.ofNat n.1))) (.ite (quN [92] (sOne (qcy .i32 (Int.ofNat n.1)))) (.ret (.str (sApp [92] (sOne (qcy .i32 (Int.ofNat n.1)))))) .fail) .fail) (.ite (iEq (Int.ofNat n.1) 92) (.ite (qed (qcy .i32 (Int.ofNat n.1))) (.ite (quN [92] (sOne (qcy .i32 (Int.ofNat n.1)))) (.ret (.str (sApp [92] (sOne (qcy .i32 (Int.ofNat n.1)))))) .fail) .fail) (.ite (iEq (Int.ofNat n.1) 10) (.ret (.str [92,110])) (.ite (iEq (Int.ofNat n.1) 9) (.ret (.str [92,116])) (.ite (iLe 32 (Int.ofNat n.1)) (.ite (iLe (Int.ofNat n.1) 126) (.ite (qed (qcy .i32 (Int.ofNat n.1))) (.ret (.str (sOne (qcy .i32 (Int.ofNat n.1))))) .fail) (.ite (qa0 [48,49,50,51,52,53,54,55,56,57,97,98,99,100,101,102] (iShr .u8 (Int.ofNat n.1) 4)) (.ite (qed (qcy .i32 (sAt [48,49,50,51,52,53,54,55,56,57,97,98,99,100,101,102] (iShr .u8 (Int.ofNat n.1) 4)))) (.ite (quN [92,120] (sOne (qcy .i32 (sAt [48,49,50,51,52,53,54,55,56,57,97,98,99,100,101,102] (iShr .u8 (Int.ofNat n.1) 4))))) (.ite (qa0 [48,49,50,51,52,53,54,55,56,57,97,98,99,100,101,102] (iAnd .u8 (Int.ofNat n.1) 15)) (.ite (qed (qcy .i32 (sAt [48,49,50,51,52,53,54,55,56,57,97,98,99,100,101,102] (iAnd .u8 (Int.ofNat n.1) 15)))) (.ite (quN (sApp [92,120] (sOne (qcy .i32 (sAt [48,49,50,51,52,53,54,55,56,57,97,98,99,100,101,102] (iShr .u8 (Int.ofNat n.1) 4))))) (sOne (qcy .i32 (sAt [48,49,50,51,52,53,54,55,56,57,97,98,99,100,101,102] (iAnd .u8 (Int.ofNat n.1) 15))))) (.ret
   (.str (sApp (sApp [92,120] (sOne (qcy .i32 (sAt [48,49,50,51,52,53,54,55,56,57,97,98,99,100,101,102] (iShr .u8 (Int.ofNat n.1) 4))))) (sOne (qcy .i32 (sAt [48,49,50,51,52,53,54,55,56,57,97,98,99,100,101,102] (iAnd .u8 (Int.ofNat n.1) 15))))))) .fail) .fail) .fail) .fail) .fail) .fail)) (.ite (qa0 [48,49,50,51,52,53,54,55,56,57,97,98,99,100,101,102] (iShr .u8 (Int.ofNat n.1) 4)) (.ite (qed (qcy .i32 (sAt [48,49,50,51,52,53,54,55,56,57,97,98,99,100,101,102] (iShr .u8 (Int.ofNat n.1) 4)))) (.ite (quN [92,120] (sOne (qcy .i32 (sAt [48,49,50,51,52,53,54,55,56,57,97,98,99,100,101,102] (iShr .u8 (Int.ofNat n.1) 4))))) (.ite (qa0 [48,49,50,51,52,53,54,55,56,57,97,98,99,100,101,102] (iAnd .u8 (Int.ofNat n.1) 15)) (.ite (qed (qcy .i32 (sAt [48,49,50,51,52,53,54,55,56,57,97,98,99,100,101,102] (iAnd .u8 (Int.ofNat n.1) 15)))) (.ite (quN (sApp [92,120] (sOne (qcy .i32 (sAt [48,49,50,51,52,53,54,55,56,57,97,98,99,100,101,102] (iShr .u8 (Int.ofNat n.1) 4))))) (sOne (qcy .i32 (sAt [48,49,50,51,52,53,54,55,56,57,97,98,99,100,101,102] (iAnd .u8 (Int.ofNat n.1) 15))))) (.ret (.str (sApp (sApp [92,120] (sOne (qcy .i32 (sAt [48,49,50,51,52,53,54,55,56,57,97,98,99,100,101,102] (iShr .u8 (Int.ofNat n.1) 4))))) (sOne (qcy .i32 (sAt [48,49,50,51,52,53,54,55,56,57,97,98,99,100,101,102] (iAnd .u8 (Int.ofNat n.1) 15))))))) .fail) .fail) .fail) .fail) .fail) .fail)))))) (by kernel_rfl) ?_
  clear hr h1;apply qIk
  revert n
  decide +kernel
 ·cases h
end Go.Pv
set_option maxHeartbeats 4000000
set_option maxRecDepth 200000
set_option linter.unusedSimpArgs false
set_option linter.unusedVariables false
namespace Go.Pv
open Go Go.Proofs
theorem qyR {l:List UInt8} {i:Int} {v:UInt8} (h:l[i.toNat]?=some v):sAt l i=v.toNat:=by
 simp [sAt,List.getD_eq_getElem?_getD,h]
theorem qwV {l:List UInt8} {i:Int} {v:UInt8} (h0:0≤i) (h:l[i.toNat]?=some v):qa0 l i=true:=by
 have:=(List.getElem?_eq_some_iff.1 h).1;simp [h0,this]
def dv:qU→Int→Int→Int
 |[],_,_=>16
 |b::l,c,i=>if (b.toNat:Int)=c then i else dv l c (i+1)
def digV (c:Int):Int:=dv hexL c 0
def qzx:List PV→Tr PV
 |[.int .u8 c]=>.ret (.int .u8 (digV c))
 |_=>.fail
def qzU:List PV→Store→Option (Int×Int×Store)
 |[.int .u8 c,.int .i64 i],σ=>some (c,i,σ)
 |_,_=>none
def qGF:Int×Int×Store→Tr (PExit×List (Nat×PV)×Store)
 |(c,i,σ)=>Tr.chk (iEq i 0) (.ite (iEq (digV c) 16) (.ret (.exit 0,[],σ)) (.ret (.ret,[(2,.int .u8 (digV c))],σ)))
def qE1:LpsT:=fun r fr σ=>if r=2 then oracle 14 [0,4] qzU qGF fr σ else .fail
def qzD:Code:=qKZ Tryz.f210 0
theorem qCe (gl:Gl):∀ vs σ a e out σ',qzU vs σ=some a→(qGF a).run=some (e,out,σ')→LDoes Tryz.prog gl qzD (mk 14 ([0,4].zip vs)) σ e (mk 14 out) σ':=by
 intro vs s a e out σ' hd hr;unfold qzU at hd;split at hd
 ·rename_i c i;cases hd
  obtain⟨h1,h2⟩:=Tr.chk_some hr;simp at h1;subst h1;clear hr;have key:∀ (m:Nat) (i:Int),0≤i→i+m=16→dv (hexL.drop i.toNat) c i=digV c→LDoes Tryz.prog gl qzD (mk 14 ([0,4].zip [.int .u8 c,.int .i64 i])) s e (mk 14 out) σ':=by
   intro m
   induction m with
   |zero =>
    intro i h0 hi hf;have:i=16:=by omega
    subst this;have hf:16=digV c:=hf;simp [← hf] at h2;obtain⟨rfl,rfl,rfl⟩:=h2;refine LDoes.round qak (G:=ofL []) qag qah (L:=fun _ _ _=>.fail) (qac (by kernel_rfl)) (by kernel_rfl) ?_
    refine Tr.all_as (.ite (iLt 16 16) (.ite (qa0 [48,49,50,51,52,53,54,55,56,57,97,98,99,100,101,102] 16) (.ite (iEq (sAt [48,49,50,51,52,53,54,55,56,57,97,98,99,100,101,102] 16) c) (.ret (.ret,[10,5],[.int .u8 c,.top,.int .u8 (qcy .u8 16),.int .i64 16,.int .i64 16,.bool true,.int .i64 16,.int .i64 16,.int .u8 (sAt [48,49,50,51,52,53,54,55,56,57,97,98,99,100,101,102] 16),.int .u8 c,.bool true,.int .i64 16,.int .u8 (qcy .u8 16),.top],s)) (.ret (.normal,[10,5],[.int .u8 c,.top,.top,.int .i64 16,.int .i64 (iAdd .i64 16 1),.bool true,.int .i64 16,.int .i64 16,.int .u8 (sAt [48,49,50,51,52,53,54,55,56,57,97,98,99,100,101,102] 16),.int .u8 c,.bool false,.top,.top,.int .i64 (iAdd .i64 16 1)],s))) .fail) (.ret (.exit 0,[5],[.int .u8 c,.top,.top,.top,.int .i64 16,.bool false,.top,.top,.top,.top,.top,.top,.top,.top],s))) (by kernel_rfl) ?_
    refine⟨fun h=>by simp at h,fun h=>⟨rfl,by simp [Weak,mk,qcC,look],rfl⟩⟩
   |succ m ih =>
    intro i h0 hi hf;obtain⟨v,hv⟩:=qp7 (l:=hexL) (i:=i.toNat) (by show i.toNat < 16;omega)
    rw [qbE hv] at hf;refine LDoes.round qak (G:=ofL []) qag qah (L:=fun _ _ _=>.fail) (qac (by kernel_rfl)) (by kernel_rfl) ?_
    refine Tr.all_as (.ite (iLt i 16) (.ite (qa0 [48,49,50,51,52,53,54,55,56,57,97,98,99,100,101,102] i) (.ite (iEq (sAt [48,49,50,51,52,53,54,55,56,57,97,98,99,100,101,102] i) c) (.ret (.ret,[10,5],[.int .u8 c,.top,.int .u8 (qcy .u8 i),.int .i64 i,.int .i64 i,.bool true,.int .i64 i,.int .i64 i,.int .u8 (sAt [48,49,50,51,52,53,54,55,56,57,97,98,99,100,101,102] i),.int .u8 c,.bool true,.int .i64 i,.int .u8 (qcy .u8 i),.top],s)) (.ret (.normal,[10,5],[.int .u8 c,.top,.top,.int .i64 i,.int .i64 (iAdd .i64 i 1),.bool true,.int .i64 i,.int .i64 i,.int .u8 (sAt [48,49,50,51,52,53,54,55,56,57,97,98,99,100,101,102] i),.int .u8 c,.bool false,.top,.top,.int .i64 (iAdd .i64 i 1)],s))) .fail) (.ret (.exit 0,[5],[.int .u8 c,.top,.top,.top,.int .i64 i,.bool false,.top,.top,.top,.top,.top,.top,.top,.top],s))) (by kernel_rfl) ?_
    refine⟨fun _=>⟨fun _=>⟨fun h=>?_,fun h=>?_⟩,fun h=>?_⟩,fun h=>by simp at h;omega⟩
    ·have h:iEq (sAt hexL i) c=true:=h;rw [qyR hv] at h
     simp at h
     simp only [dv,if_pos h] at hf;rw [← hf] at h2;have h16:¬ i=16:=by omega
     simp [h16] at h2;obtain⟨rfl,rfl,rfl⟩:=h2;refine⟨rfl,?_,rfl⟩;simp [Weak,mk,qcC,look,qcy,qLw (n:=i) (by omega)]
    ·have h:iEq (sAt hexL i) c=false:=h;rw [qyR hv] at h
     simp at h
     simp only [dv,if_neg h] at hf;have e1:(i+1).toNat=i.toNat+1:=by omega
     refine LDoes.into ?_ (ih (i+1) (by omega) (by omega) (by rw [e1];exact hf))
     simp [Weak,mk,qcC,look,iAdd,qcY (n:=i+1) (by omega)]
    ·have h:qa0 hexL i=false:=h;rw [qwV h0 hv] at h
     cases h
  exact key 16 0 (by omega) (by omega) rfl
 ·cases hd
theorem qFS (gl:Gl):SimP Tryz.prog gl 210 fun args=>(qzx args).run:=by
 refine SimP.of_tree (G:=ofL []) (L:=qE1) qak qag qah Tryz.func210 rfl (by rfl) (by kernel_rfl) (qmR (r:=2) (c1:=qzD) (by kernel_rfl) ?_) ?_
 ·intro fr σ e fr' σ' hh;simp only [lps,qE1,if_true] at hh;exact qqe (qCe gl) fr σ e fr' σ' hh
 intro args x h hr;unfold qzx at h
 split at h
 ·rename_i c;cases h
  refine Tr.run_as (.ite (iEq 0 0) (.ite (iEq (digV c) 16) (.ret (.int .u8 16)) (.ret (.int .u8 (digV c)))) .fail) (by kernel_rfl) ?_
  simp [eq_comm]
 ·cases h
def escB (s:qU):Int :=
 if s=[] then 0 else if sAt s 0=34∨sAt s 0=92 then sAt s 0 else if sAt s 0=110 then 10 else if sAt s 0=116 then 9
 else if sAt s 0=120∧3≤s.length∧digV (sAt s 1) < 16∧digV (sAt s 2) < 16 then iOr .u8 (iShl .u8 (digV (sAt s 1)) 4) (digV (sAt s 2)) else 0
def escN (s:qU):Int :=
 if s=[] then 0 else if sAt s 0=34∨sAt s 0=92 then 1 else if sAt s 0=110 then 1 else if sAt s 0=116 then 1
 else if sAt s 0=120∧3≤s.length∧digV (sAt s 1) < 16∧digV (sAt s 2) < 16 then 3 else 0
def qov:List PV→Tr PV
 |[.str s]=>.ret (.tup [.int .u8 (escB s),.int .i64 (escN s)])
 |_=>.fail
theorem qsP (gl:Gl):SimP Tryz.prog gl 202 fun args=>(qov args).run:=by
 refine SimP.of_tree (G:=ofL [(210,.pure qzx)]) (L:=fun _ _ _=>.fail) qak (qae (qFS gl) qag) qah Tryz.func202 rfl (by rfl) (by kernel_rfl) (qac (by kernel_rfl)) ?_
 intro args x h hr;unfold qov at h
 split at h
 ·rename_i s;cases h
  refine Tr.run_as (.ite (sEq s []) (.ret (.tup [.int .u8 0,.int .i64 0])) (.ite (qa0 s 0) (.ite (iEq (sAt s 0) 34) (.ite (qa0 s 0) (.ret (.tup [.int .u8 (sAt s 0),.int .i64 1])) .fail) (.ite (iEq (sAt s 0) 92) (.ite (qa0 s 0) (.ret (.tup [.int .u8 (sAt s 0),.int .i64 1])) .fail) (.ite (iEq (sAt s 0) 110) (.ret (.tup [.int .u8 10,.int .i64 1])) (.ite (iEq (sAt s 0) 116) (.ret (.tup [.int .u8 9,.int .i64 1])) (.ite (iEq (sAt s 0) 120) (.ite (iLe 3 (sLen s)) (.ite (qa0 s 1) (.ite (iLt (digV (sAt s 1)) 16) (.ite (qa0 s 2) (.ite (iLt (digV (sAt s 2)) 16) (.ite (qa0 s 1) (.ite (qa0 s 2) (.ret (.tup [.int .u8 (iOr .u8 (iShl .u8 (digV (sAt s 1)) 4) (digV (sAt s 2))),.int .i64 3])) .fail) .fail) (.ret (.tup [.int .u8 0,.int .i64 0]))) .fail) (.ret (.tup [.int .u8 0,.int .i64 0]))) .fail) (.ret (.tup [.int .u8 0,.int .i64 0]))) (.ret (.tup [.int .u8 0,.int .i64 0]))))))) .fail)) (by kernel_rfl) ?_
  by_cases h0:s=[]
  ·subst h0;simp [escB,escN]
  ·have hl:0 < s.length:=List.length_pos_iff.2 h0;have k0:qa0 s 0=true:=by simp [hl]
   by_cases h3:3≤s.length
   ·have k1:qa0 s 1=true:=by simp;omega
    have k2:qa0 s 2=true:=by simp;omega
    have h3':(3:Int)≤s.length:=by omega
    simp only [Tr.run_ite,k0,k1,k2,qFA,qF6,qIT,qJj,qrr,decide_eq_true_eq,h0,h3',if_true,if_false,escB,escN,h3,true_and,Tr.run_ret]
    repeat' split
    all_goals first|rfl|(simp_all;done)|(exfalso;simp_all;done)|(exfalso;omega)
   ·have h3':¬ (3:Int)≤s.length:=by omega
    simp only [Tr.run_ite,k0,qFA,qF6,qIT,qJj,qrr,decide_eq_true_eq,h0,h3',if_true,if_false,escB,escN,h3,false_and,and_false,Tr.run_ret]
    repeat' split
    all_goals first|rfl|(simp_all;done)|(exfalso;simp_all;done)|(exfalso;omega)
 ·cases h
end Go.Pv
set_option maxHeartbeats 4000000
set_option maxRecDepth 200000
set_option linter.unusedSimpArgs false
set_option linter.unusedVariables false
namespace Go.Pv
open Go Go.Proofs
def symB (s:qU):qU:=s.flatMap fun b=>oneV b.toNat
def symV (s:qU):qU:=34::symB s++[34]
def symH (s:qU):qU:=34::symB s
theorem qBw (c:Int):1≤(oneV c).length∧(oneV c).length≤4:=by
 unfold oneV
 repeat' split
 all_goals simp
theorem qAI:∀ s,(symB s).length≤4 * s.length
 |[]=>by simp [symB]
 |b::s=>by
  have:=qAI s;have:=qBw b.toNat;simp [symB] at *;omega
theorem qDC (k n:Int) (s:qU):qbr k n s=if isV k n s=true then 0 else 10:=by
 unfold qbr isV;by_cases h1:k=1∧s=[]
 ·simp [h1]
 ·by_cases h2:k=2∧n=0∧s.length≤256
  ·simp [h2]
  ·rw [if_neg h1,if_neg h2,if_neg];simp only [decide_eq_true_eq];rintro (h|h)
   ·exact h1 h
   ·exact h2 h
end Go.Pv
set_option maxHeartbeats 4000000
set_option maxRecDepth 200000
set_option linter.unusedSimpArgs false
set_option linter.unusedVariables false
namespace Go.Pv
open Go Go.Proofs Go.RowKit
def VarIs (gl:Gl) (name:String) (cs:Array Value):Prop:=∃ g T f,Tryz.prog.globalNamed name=some g∧gl g=some (.cells cs T f)
structure GlPow (gl:Gl):Prop where
 pow : VarIs gl "internal/strconv.uint64pow10" (Lib.pow10Tab.map fun z => Value.int .u64 z).toArray
structure GlOk (gl:Gl):Prop extends GlPow gl where
 syn : ∃ tp p, VarIs gl "strconv.ErrSyntax" #[.iface tp p]
 rng : ∃ tp p, VarIs gl "strconv.ErrRange" #[.iface tp p]
theorem VarIs.var {gl:Gl} {name:String} {cs:Array Value} (h:VarIs gl name cs) {w:World} (hw:∀ b o,gl b=some o→w.heap[b]?=some o):w.var? Tryz.prog name=some cs:=by
 obtain⟨g,T,f,h1,h2⟩:=h;simp [World.var?,h1,hw g _ h2]
theorem GlPow.dr {gl:Gl} (h:GlPow gl) (w w':World):Dr gl w w':=fun hg=>by
 obtain⟨g,T,f,_,h2⟩:=h.pow;rw [hg g] at h2;cases h2
def qJB (n:Int):qU:=Lib.itoa n
def qjk:List PV→Tr PV
 |[.int .i64 n,.int .i64 b]=>Tr.chk (iEq b 10) (.ret (.str (qJB n)))
 |_=>.fail
theorem qv1 {gl:Gl} (hgl:GlPow gl):SimP Tryz.prog gl 185 fun args=>(qjk args).run:=by
 refine⟨⟨_,Tryz.func185,by rfl,by rfl⟩,?_⟩
 intro args x hx H w vs hB hob htk hw hrel;unfold qjk at hx;split at hx
 ·rename_i n b;obtain⟨h1,h2⟩:=Tr.chk_some hx;cases h2
  simp at h1;subst h1;cases hrel with
  |cons _ v _ vs hv hvs =>
   cases hvs with
   |cons _ v2 _ vs hv2 hvs =>
    cases hvs
    cases hv with
    |int _ _ hwf =>
     cases hv2
     simp [Lit.wf,IntKind.min,IntKind.max,IntKind.signed,IntKind.bits] at hwf;refine (Tryz.strconv_FormatInt_10 n hwf.1 (by omega) w (hgl.pow.var hw)).mono ?_
     rintro e w' ⟨rfl,k,os,rfl⟩;refine⟨_,rfl,⟨Lib.below_grow _ _ (Nat.le_refl _) k os,hgl.dr _ _⟩,.str _ ?_⟩;have:=Lib.itoa_length_le n hwf.1 (by omega)
     show (Lib.itoa n).length≤maxLen
     unfold maxLen;omega
 ·cases hx
def pOk (s:qU):Bool:=match Lib.parseIntB 64 s with
 |.ok _=>true
 |_=>false
def pVal (s:qU):Int:=match Lib.parseIntB 64 s with
 |.ok v=>v
 |.range=>Lib.intSat 64 s
 |_=>0
def qeu (s:qU):Bool:=decide (s.length≤281474976710656)
def qm3:List PV→Tr PV
 |[.str s,.int .i64 b,.int .i64 k]=>Tr.chk (iEq b 10) (Tr.chk (iEq k 64) (Tr.chk (qeu s) (.ite (pOk s) (.ret (.tup [.int .i64 (pVal s),.nili])) (.ret (.tup [.int .i64 (pVal s),.iface 248 .top])))))
 |_=>.fail
theorem qJq (s:qU):(Lit.int .i64 (pVal s)).wf=true:=by
 have key:-9223372036854775808≤pVal s∧pVal s≤9223372036854775807:=by
  unfold pVal;split
  ·rename_i v hv;have h:=Lib.parseIntB_bounds hv;have e:((2 ^ (64 - 1):Nat):Int)=9223372036854775808:=by decide
   rw [e] at h
   omega
  ·unfold Lib.intSat;split
   ·have e:-(((2 ^ (64 - 1):Nat)):Int)=-9223372036854775808:=by decide
    rw [e];omega
   ·have e:(((2 ^ (64 - 1) - 1:Nat)):Int)=9223372036854775807:=by decide
    rw [e];omega
  ·omega
 simp [Lit.wf,IntKind.min,IntKind.max,IntKind.signed,IntKind.bits];omega
theorem qxt {gl:Gl} (hgl:GlOk gl):SimP Tryz.prog gl 196 fun args=>(qm3 args).run:=by
 refine⟨⟨_,Tryz.func196,by rfl,by rfl⟩,?_⟩
 intro args x hx H w vs hB hob htk hw hrel;unfold qm3 at hx;split at hx
 ·rename_i s b k;obtain⟨h1,h2⟩:=Tr.chk_some hx;obtain⟨h3,h4⟩:=Tr.chk_some h2;obtain⟨h5,h6⟩:=Tr.chk_some h4;simp at h1 h3;simp [qeu] at h5;subst h1 h3;have hwf:=qJq s;cases hrel with
  |cons _ v _ vs hv hvs =>
   cases hvs with
   |cons _ v2 _ vs hv2 hvs =>
    cases hvs with
    |cons _ v3 _ vs hv3 hvs =>
     cases hvs
     cases hv2;cases hv3
     cases hv with
     |str _ hl =>
      have hsz:(ByteArray.mk s.toArray).size=s.length:=by simp [ByteArray.size]
      cases hp:Lib.parseIntB 64 s with
      |ok n =>
       have e1:pOk s=true:=by simp [pOk,hp]
       have e2:pVal s=n:=by simp [pVal,hp]
       rw [e2] at hwf;simp [e1,e2] at h6;subst h6;refine (Any.strconv_ParseInt_10_at64_ok Tryz.laysC174 ⟨s.toArray⟩ (by rw [hsz];omega) n hp w).mono ?_
       rintro e w' ⟨rfl,hw'⟩;refine⟨_,rfl,⟨?_,hgl.dr _ _⟩,.tup _ _ (.cons _ _ _ _ (.int _ _ hwf) (.cons _ _ _ _ .nili .nil))⟩;rcases hw' with rfl|⟨t,rfl⟩
       ·exact Below.refl _ _
       ·exact⟨rfl,rfl,rfl,by rw [Lib.bytesWorld_size];omega,fun k hk=>Lib.bytesWorld_at_old w _ _ k hk⟩
      |range =>
       have e1:pOk s=false:=by simp [pOk,hp]
       have e2:pVal s=Lib.intSat 64 s:=by simp [pVal,hp]
       simp [e1,e2] at h6;rw [e2] at hwf;subst h6;obtain⟨tp,p,hv⟩:=hgl.rng;refine (Any.strconv_ParseInt_10_at64_range_var Tryz.laysC174 ⟨s.toArray⟩ (by rw [hsz];omega) hp tp p w (hv.var hw)).mono ?_
       rintro e w' ⟨N,rfl,h1,h2,h3⟩;exact⟨_,rfl,⟨h3,hgl.dr _ _⟩,.tup _ _ (.cons _ _ _ _ (.int _ _ hwf) (.cons _ _ _ _ (.iface _ _ _ (.top _)) .nil))⟩
      |_ =>
       have e1:pOk s=false:=by simp [pOk,hp]
       have e2:pVal s=0:=by simp [pVal,hp]
       rw [e2] at hwf;simp [e1,e2] at h6;subst h6;obtain⟨tp,p,hv⟩:=hgl.syn;refine (Any.strconv_ParseInt_10_at64_syntax_var Tryz.laysC174 ⟨s.toArray⟩ (by rw [hsz];omega) hp tp p w (hv.var hw)).mono ?_
       rintro e w' ⟨N,rfl,h1,h2,h3⟩;exact⟨_,rfl,⟨h3,hgl.dr _ _⟩,.tup _ _ (.cons _ _ _ _ (.int _ _ hwf) (.cons _ _ _ _ (.iface _ _ _ (.top _)) .nil))⟩
 ·cases hx
end Go.Pv
set_option maxHeartbeats 4000000
set_option maxRecDepth 200000
set_option linter.unusedSimpArgs false
set_option linter.unusedVariables false
namespace Go.Pv
open Go Go.Proofs Go.Shelf Go.RowKit
variable {P : Program} {ρ : Ren} {gl : Gl}
theorem qyY {w:World} {b off:Nat} {cs:Array Value} {T:TypeId} {fz:Nat×Nat} (h:w.heap[b]?=some (.cells cs T fz)) (v:Value):w.setCell ⟨b,off,none⟩ v=w.setRow b (cs.setIfInBounds off v):=by
 unfold World.setCell World.setRow
 congr 1
 apply Array.ext_getElem?;intro i;rw [Array.getElem?_modify,Array.getElem?_modify];by_cases hi:b=i
 ·subst hi;rw [if_pos rfl,if_pos rfl,h];rfl
 ·rw [if_neg hi,if_neg hi]
theorem qD5 {w:World} {b n:Nat} {cs:Array Value} {T:TypeId} {fz:Nat×Nat} (h:w.heap[b]?=some (.cells cs T fz)):∃ fz',(w.freeze ⟨b,0,none⟩ n).heap[b]?=some (.cells cs T fz'):=by
 unfold World.freeze;split
 ·exact⟨fz,h⟩
 ·obtain⟨lo,hi⟩:=fz;exact⟨_,by simp only [Array.getElem?_modify,if_true,h];rfl⟩
theorem qxp (w:World) (b n k:Nat) (h:k≠b):(w.freeze ⟨b,0,none⟩ n).heap[k]?=w.heap[k]?:=by
 unfold World.freeze;split
 ·rfl
 ·simp only [Array.getElem?_modify];rw [if_neg (fun e=>h e.symm)]
theorem qy2 (w:World) (b n:Nat):(w.freeze ⟨b,0,none⟩ n).heap.size=w.heap.size:=by
 unfold World.freeze;split
 ·rfl
 ·simp
theorem qyU (w:World) (b n:Nat):(w.freeze ⟨b,0,none⟩ n).os=w.os∧(w.freeze ⟨b,0,none⟩ n).tape=w.tape∧(w.freeze ⟨b,0,none⟩ n).output=w.output:=by
 unfold World.freeze;split<;>exact⟨rfl,rfl,rfl⟩
theorem qxK (w:World) (b n:Nat):(w.drew.freeze ⟨b,0,none⟩ n).drawn=w.drew.drawn:=by
 unfold World.freeze;split<;>rfl
def qd6 (T:TypeId):List PV→Store→Tr (PV×Store)
 |[.ptr 1 0],⟨[o,[.nilp,q]],tk,[t0,t1]⟩=>Tr.chk (t1 == T) (.ret (.tup [],⟨[o,[.ptr 1 0,q]],tk,[t0,t1]⟩))
 |[.ptr 1 0],⟨[o,[.ptr 1 0,q]],tk,[t0,t1]⟩=>.ret (.tup [],⟨[o,[.ptr 1 0,q]],tk,[t0,t1]⟩)
 |_,_=>.fail
theorem qzh {H:Gh} {w:World} {args:List Value} {id off:Nat} (h:RelL H w [.ptr id off] args):∃ b,H.ob[id]?=some b∧args=[.pointer (some ⟨b,off,none⟩)]:=by
 cases h with
 |cons _ v _ vs hv hvs =>
  cases hvs
  cases hv with
  |ptr _ _ b hb=>exact⟨b,hb,rfl⟩
theorem qnW {f:FuncId} {TB:TypeId} (hTB:TB < qez) (hfresh:∀ (b:Nat) (w:World),w.cell? ⟨b,0,none⟩=some (.pointer none)→w.shape? b=some (TB,2)→w.frozen? ⟨b,0,none⟩=false→Calls P f #[.pointer (some ⟨b,0,none⟩)] w fun e w'=>e=.returned (.tuple #[])∧w'=w.setCell ⟨b,0,none⟩ (.pointer (some ⟨b,0,none⟩)))
  (hused:∀ (b:Nat) (w:World),w.cell? ⟨b,0,none⟩=some (.pointer (some ⟨b,0,none⟩))→Calls P f #[.pointer (some ⟨b,0,none⟩)] w fun e w'=>e=.returned (.tuple #[])∧w'=w)
  (hent : ∃ fn, P.funcs[f]? = some fn ∧ (fn.name == "runtime.NumGoroutine") = false ∧ fn.body.isNone = false) : SimS P gl f fun args σ => (qd6 TB args σ).run := by
 refine⟨hent,?_⟩;intro args σ x σ' hx H w vs hok hrel;unfold qd6 at hx;split at hx
 ·rename_i o q tk t0 t1;obtain⟨h1,h2⟩:=Tr.chk_some hx;cases h2
  have h1:t1=TB:=by simpa using h1
  subst h1;obtain⟨b,hb,rfl⟩:=qzh hrel;obtain⟨hB,us,ext,T,hheap,hus⟩:=hok.obj 1 b _ hb rfl;obtain⟨cs,hcs,hsz⟩:=hok.ty 1 b _ _ hb rfl rfl hTB;rw [hheap] at hcs;simp only [Option.some.injEq,Obj.cells.injEq] at hcs;obtain⟨rfl,rfl,_⟩:=hcs;have hul:=hus.len;have hext:ext=[]:=by
   apply List.eq_nil_of_length_eq_zero;simp at hsz hul;omega
  subst hext;cases hus with
  |cons _ u0 _ us hu0 hus =>
   cases hu0
   cases hus with
   |cons _ u1 _ us hu1 hus =>
    cases hus
    refine (hfresh b w (by rw [Lib.cell_of_heap hheap];rfl) (by simp [World.shape?,hheap]) (by rw [Lib.frozen_of_heap hheap 0])).mono ?_
    rintro e w' ⟨rfl,rfl⟩;rw [qyY hheap];have hset:=qy5 (cs':=[.ptr 1 0,q]) (vs':=[.pointer (some ⟨b,0,none⟩),u1]) hok hb hheap (.cons _ _ _ _ (.ptr _ _ _ hb) (.cons _ _ _ _ hu1 .nil)) (fun c0 hc0=>by cases hc0;exact⟨rfl,rfl⟩)
    exact⟨_,rfl,H,hset.1,hset.2,.tup _ _ .nil⟩
 ·rename_i o q tk t0 t1;cases hx
  obtain⟨b,hb,rfl⟩:=qzh hrel;obtain⟨hB,us,ext,T,hheap,hus⟩:=hok.obj 1 b _ hb rfl;cases hus with
  |cons _ u0 _ us hu0 hus =>
   have hu0':u0=.pointer (some ⟨b,0,none⟩):=by
    cases hu0 with
    |ptr _ _ b' hb' =>
     rw [hb] at hb';cases hb'
     rfl
   subst hu0';refine (hused b w (by rw [Lib.cell_of_heap hheap];rfl)).mono ?_
   rintro e w' ⟨rfl,rfl⟩;exact⟨_,rfl,.same hok (.tup _ _ .nil)⟩
 ·cases hx
def qpG (T:TypeId):List PV→Store→Tr (PV×Store)
 |[.ptr 1 0],⟨[o,[p,.sl xs (.tok 0)]],[(v,1,e)],ty⟩=>Tr.chk (qdO xs) (Tr.chk (bNot (xNil xs)) (Tr.chk (nEq v (nXs xs)) (Tr.chk (e == T) (.ret (.str (qcc xs),⟨[o,[p,.sl xs (.tok 0)]],[(maxLen+1,1,e)],ty⟩)))))
 |_,_=>.fail
set_option maxRecDepth 100000 in
theorem Any.Builder_String_at (L : Lays.n169 P ρ) (X : Builder.Extra P ρ) (b g cap : Nat) (l : List UInt8) (w : World) (p : Value) (cs cur : Array Value) (T : TypeId) (fz : Nat × Nat)
    (hbk : w.cell? ⟨b, 1, none⟩ = some (.slice (some ⟨g, 0, none⟩) l.length cap)) (hg : w.heap[g]? = some (.cells cur (ρ.t 5) fz)) (hnc : l.length ≤ cap) (hcm : cap ≤ maxLen) (hcs : cur.size = cap)
    (hcell : ∀ j x, l[j]? = some x → w.cell? ((⟨g, 0, none⟩ : Addr).add j) = some (.int .u8 x.toNat)) (h0 : l ≠ []) :
    Calls P (ρ.f 169) #[.pointer (some ⟨b, 0, none⟩)] w fun e w' => e = .returned (.string ⟨l.toArray⟩) ∧ w' = w.drew.freeze ⟨g, 0, none⟩ l.length := by
  have hl0 : l.length ≠ 0 := by simpa using h0
  have c1 : w.drew.cell? ⟨b, 1, none⟩ = some (.slice (some ⟨g, 0, none⟩) l.length cap) := hbk
  have hSD : (Builtin.unsafeSliceData_ #[(ρ.t 37)] (ρ.t 127) #[.slice (some ⟨g, 0, none⟩) l.length cap]).run P w.drew = .ok (.pointer (some ⟨g, 0, none⟩)) w.drew :=
    Lib.run_unsafeSliceData_row _ _ _ _ _ _ (by omega)
  have hUS : (Builtin.unsafeString_ #[(ρ.t 127), (ρ.t 3)] (ρ.t 9) #[.pointer (some ⟨g, 0, none⟩), .int .i64 l.length]).run P w.drew = .ok (.string ⟨l.toArray⟩) (w.drew.freeze ⟨g, 0, none⟩ l.length) := by
    refine Lib.run_unsafeString_row w.drew (ρ.t 127) (ρ.t 3) (ρ.t 9) (ρ.t 5) L.t127 X.cellsByte g cur.size (by have hg' : w.drew.heap[g]? = some (.cells cur (ρ.t 5) fz) := hg; simp [World.shape?, hg']) l h0 (by omega) (by unfold maxLen at hcm; omega) ?_
    intro j x hx
    exact hcell j x hx
  have mixed := L.mixed
  have t72 := L.t72; have a72 := L.a72; have z72 := L.z72; have v72 := L.v72; have u72 := run_underlying L.t72
  have t70 := L.t70; have a70 := L.a70; have z70 := L.z70; have v70 := L.v70; have u70 := run_underlying L.t70
  have t37 := L.t37; have a37 := L.a37; have z37 := L.z37; have v37 := L.v37; have u37 := run_underlying L.t37
  have t127 := L.t127; have a127 := L.a127; have z127 := L.z127; have v127 := L.v127; have u127 := run_underlying L.t127
  have t3 := L.t3; have a3 := L.a3; have z3 := L.z3; have v3 := L.v3; have u3 := run_underlying L.t3
  have t9 := L.t9; have a9 := L.a9; have z9 := L.z9; have v9 := L.v9; have u9 := run_underlying L.t9
  have t5 := X.t5; have a5 := X.a5; have z5 := X.z5; have v5 := X.v5; have u5 := run_underlying X.t5
  go_enter L.f169, Body.n169_ntmps ρ
  go_wp2
  go_region_o
  all_goals (go_wp2; go_ret; exact ⟨rfl, rfl⟩)
theorem Any.sim_String (L : Lays.n169 P ρ) (X : Builder.Extra P ρ) (hent : ∃ fn, P.funcs[ρ.f 169]? = some fn ∧ (fn.name == "runtime.NumGoroutine") = false ∧ fn.body.isNone = false) : SimS P gl (ρ.f 169) fun args σ => (qpG (ρ.t 5) args σ).run := by
 refine⟨hent,?_⟩;intro args σ x σ' hx H w vs hok hrel;unfold qpG at hx;split at hx
 ·rename_i o p xs v e ty;obtain⟨h1,q1⟩:=Tr.chk_some hx;obtain⟨h2,q2⟩:=Tr.chk_some q1;obtain⟨h3,q3⟩:=Tr.chk_some q2;obtain⟨h4,q4⟩:=Tr.chk_some q3;clear hx q1 q2 q3;have h4:e=ρ.t 5:=by simpa using h4
  subst h4;simp at h2 h3;subst h3;cases q4
  unfold qdO qcc at *;cases hl:pbytes xs with
  |none=>simp [hl] at h1
  |some l =>
   obtain⟨b,hb,rfl⟩:=qzh hrel;obtain⟨hB,us,ext,T,hheap,hus⟩:=hok.obj 1 b _ hb rfl;cases hus with
   |cons _ u0 _ us hu0 hus =>
    cases hus with
    |cons _ u1 _ us hu1 hus =>
     cases hus
     cases hu1 with
     |sl a len cap k _ vss _ hlen hcap hm hrr hrow htag =>
      obtain⟨ns,rfl,rfl⟩:=qrv hl;have hvs:=qtw hrr;subst hvs;obtain⟨U,hU,hUnz,hle,hUv⟩:=htag;have hUs:(U.ver,U.k,U.e)=(len,1,ρ.t 5):=by
       have hh:=hok.tkl;have:(H.tk.map fun T=>(T.ver,T.k,T.e))[0]?=some (U.ver,U.k,U.e):=by rw [List.getElem?_map,hU];rfl
       rw [hh] at this;simp at this;rw [← this.1,← this.2.1,← this.2.2];simp [← hlen]
      simp only [Prod.mk.injEq] at hUs;obtain⟨hUver,hUk,hUe⟩:=hUs;have hU0:U.ver≠0:=by
       rw [hUver];intro h0;apply h2;have:ns=[]:=List.eq_nil_of_length_eq_zero (by simpa [h0] using hlen)
       simp [this]
      obtain⟨rfl,hcapU,hkU⟩:=(hUv hUver.symm).2 hU0;obtain⟨hBT,hTob,ob,hcur,hTO⟩:=hok.tok 0 U hU (fun hh=>hU0 hh.1)
      obtain⟨cur,fz,rfl,hvc,hcm,hcs⟩:∃ cur fz,ob=.cells cur U.e fz∧(U.ver≤maxLen→fz=(0,0)∧U.ver≤U.cap)∧U.cap≤maxLen∧cur.size=U.cap * U.k:=by
       rcases hTO with⟨_,hc⟩|⟨hz,_⟩
       ·exact hc
       ·exact absurd hz hUnz
      have hln:(ns.map fun n=>UInt8.ofNat n.toNat).length=len:=by simpa using hlen
      have hk1:k=1:=by rw [hkU,hUk]
      subst hk1;have hln:ns.length=len:=by simpa using hlen
      have hwf:∀ (j:Nat) (n:Int),ns[j]?=some n→0≤n∧n < 256:=by
       intro j n hj;have:=(qbH.1 hrr).2 j [.int .u8 n] [.int .u8 n] (by simp [hj]) (by simp [hj])
       cases this with
       |cons _ _ _ _ hv _ =>
        cases hv with
        |int _ _ hwf=>simp [Lit.wf,IntKind.min,IntKind.max,IntKind.signed,IntKind.bits] at hwf;omega
      have hll:(ns.map fun n=>UInt8.ofNat n.toNat).length=len:=by simpa using hln
      refine (Any.Builder_String_at L X b U.blk cap (ns.map fun n=>UInt8.ofNat n.toNat) w u0 #[] cur T fz (by rw [hll,Lib.cell_of_heap hheap];rfl) (by rw [← hUe];exact hcur) (by rw [hll];exact hcap) hm (by rw [hcs,hUk,hcapU,Nat.mul_one]) ?_ ?_).mono ?_
      ·intro j x hj;rw [List.getElem?_map] at hj;cases hn:ns[j]? with
       |none=>simp [hn] at hj
       |some n =>
        simp [hn] at hj;subst hj;have hb:=hwf j n hn;obtain⟨hk,a',ha',hcell⟩:=hrow j [.int .u8 n] (by simp [hn])
        injection ha' with ha'
        subst ha';have:=(hcell 0 _ rfl).2;rw [Nat.mul_one,qna,Nat.add_zero] at this;rw [this];simp;omega
      ·intro hnil;apply h2;simpa using hnil
      ·rintro e w' ⟨rfl,rfl⟩;rw [hll];have hcur':w.drew.heap[U.blk]?=some (.cells cur U.e fz):=hcur;obtain⟨fz',hfz'⟩:=qD5 (n:=len) hcur';have hrest:=qyU w.drew U.blk len;have hset:=qAH (T':=⟨U.blk,maxLen+1,U.cap,U.k,U.e⟩) (w':=w.drew.freeze ⟨U.blk,0,none⟩ len) hok hU hU0 hUnz rfl (by show U.ver < maxLen+1;omega) hcm (fun _=>by rw [qxK];exact Nat.le_succ _) hrest.1 hrest.2.1 hrest.2.2 (by rw [qy2];exact Nat.le_refl _) (.inl rfl)
        (fun k _ hk=>qxp w.drew U.blk len k hk) (fz':=fz') (by intro h;simp at h;omega) hcur hfz' hcs (fun _ off _=>rfl)
       refine⟨_,rfl,_,hset.1,?_,?_⟩
       ·have:=hset.2;simpa [hUk,hUe] using this
       ·exact .str (List.map (fun n=>UInt8.ofNat n.toNat) ns) (by simp;omega)
 ·cases hx
end Go.Pv
set_option maxHeartbeats 4000000
set_option maxRecDepth 200000
set_option linter.unusedSimpArgs false
set_option linter.unusedVariables false
namespace Go.Pv
open Go Go.Proofs Go.RowKit
section
variable (b : Nat) (w : World)
theorem qsh (h0:w.cell? ⟨b,0,none⟩=some (.pointer (some ⟨b,0,none⟩))):Calls Tryz.prog 167 #[.pointer (some ⟨b,0,none⟩)] w fun e w'=>e=.returned (.tuple #[])∧w'=w:=by
 obtain⟨j,hj,_⟩:∃ j,Tryz.prog.info? 186=some j∧j.size=2:=⟨_,rfl,rfl⟩;have mixed:Tryz.prog.follows .mixedOrders=true:=qah;have t72:=Tryz.underlying186;have a72:=Tryz.isAgg186;have z72:=Tryz.sizeOf186;have v72:=Tryz.zeroValue186;have u72:=run_underlying Tryz.underlying186;have t70:=Tryz.underlying183;have a70:=Tryz.isAgg183;have z70:=Tryz.sizeOf183;have v70:=Tryz.zeroValue183;have u70:=run_underlying Tryz.underlying183;have t164:=Tryz.underlying214;have a164:=Tryz.isAgg214;have z164:=Tryz.sizeOf214;have v164:=Tryz.zeroValue214;have u164:=run_underlying Tryz.underlying214
 go_enter Tryz.func167,Tryz.ntmps167
 go_wp2
 rw [Lib.run_neq_ptr_same w _ t70 hj]
 go_wp2
 go_end0
 exact⟨rfl,rfl⟩
theorem qrj (h0:w.cell? ⟨b,0,none⟩=some (.pointer none)) (hsh:w.shape? b=some (186,2)) (hfz:w.frozen? ⟨b,0,none⟩=false) :
  Calls Tryz.prog 167 #[.pointer (some ⟨b,0,none⟩)] w fun e w'=>e=.returned (.tuple #[])∧w'=w.setCell ⟨b,0,none⟩ (.pointer (some ⟨b,0,none⟩)):=by
 obtain⟨j,hj,hjs⟩:∃ j,Tryz.prog.info? 186=some j∧j.size=2:=⟨_,rfl,rfl⟩;have mixed:Tryz.prog.follows .mixedOrders=true:=qah;have t72:=Tryz.underlying186;have a72:=Tryz.isAgg186;have z72:=Tryz.sizeOf186;have v72:=Tryz.zeroValue186;have u72:=run_underlying Tryz.underlying186;have t70:=Tryz.underlying183;have a70:=Tryz.isAgg183;have z70:=Tryz.sizeOf183;have v70:=Tryz.zeroValue183;have u70:=run_underlying Tryz.underlying183;have t164:=Tryz.underlying214;have a164:=Tryz.isAgg214;have z164:=Tryz.sizeOf214;have v164:=Tryz.zeroValue214;have u164:=run_underlying Tryz.underlying214
 go_enter Tryz.func167,Tryz.ntmps167
 go_wp2
 rw [Lib.run_to_unsafe w ⟨b,0,none⟩ t70 t164 hj (by rw [hjs];decide) hsh (Nat.zero_lt_succ 1)]
 simp only [Result.andThen];rw [Oper.upon_value]
 go_wp2
 rw [run_callFunc_extern Tryz.func182 (by kernel_rfl) (by kernel_rfl) (by kernel_rfl) (e:=Extern.AbiNoEscape.same) (by kernel_rfl)]
 rw [Lib.run_noEscape];simp only [Result.andThen];rw [Oper.upon_value]
 go_wp2
 rw [Lib.run_from_unsafe w ⟨b,0,none⟩ t164 t70 hj hsh (by kernel_rfl)]
 simp only [Result.andThen];rw [Oper.upon_value]
 go_wp2
 go_end0
 exact⟨rfl,rfl⟩
end
theorem qk6 (gl:Gl):SimS Tryz.prog gl 167 fun args σ=>(qd6 186 args σ).run :=
 qnW (by decide) (fun b w=>qrj b w) (fun b w=>qsh b w) ⟨_,Tryz.func167,by rfl,by rfl⟩
theorem sim_String (gl:Gl):SimS Tryz.prog gl 154 fun args σ=>(qpG 5 args σ).run :=
 Any.sim_String Tryz.lays169 Tryz.Builder_Extra_169 ⟨_,Tryz.func154,by rfl,by rfl⟩
def D_WB:List PV→Store→Tr (PV×Store)
 |[.ptr 1 0,.int .u8 c],⟨[o,[.nilp,.sl [] .full]],[],[t0,186]⟩=>.ret (.nili,⟨[o,[.ptr 1 0,.sl [[.int .u8 c]] (.tok 0)]],[(1,1,5)],[t0,186]⟩)
 |[.ptr 1 0,.int .u8 c],⟨[o,[.ptr 1 0,.sl xs (.tok 0)]],[(v,1,5)],[t0,186]⟩=>Tr.chk (qaP xs [[.int .u8 c]] 1) (Tr.chk (qaq xs 1) (Tr.chk (nEq v (nXs xs))
  (.ret (.nili,⟨[o,[.ptr 1 0,.sl (xApp xs [[.int .u8 c]]) (.tok 0)]],[(nXs (xApp xs [[.int .u8 c]]),1,5)],[t0,186]⟩))))
 |_,_=>.fail
theorem qMu (gl:Gl):SimS Tryz.prog gl 186 fun args σ=>(D_WB args σ).run:=by
 refine SimS.of_tree (G:=ofL [(167,.store (qd6 186))]) (L:=fun _ _ _=>.fail) qak (qcK (qk6 gl) qag) qah Tryz.func186 rfl (by rfl) (by kernel_rfl) (qac (by kernel_rfl)) ?_
 intro args σ x σ' h hr;unfold D_WB at h
 split at h
 ·rename_i c o t0;cases h
  refine Tr.run_as (.ite true (.ite (qaP [] [[.int .u8 c]] 1) (.ite (qaC [[.int .u8 c]] 1) (.ite (qaq [] 1) (.ret (.nili,Store.mk [o,[.ptr 1 0,.sl (xApp [] [[.int .u8 c]]) (.tok 0)]] [(nXs (xApp [] [[.int .u8 c]]),1,5)] [t0,186])) .fail) .fail) .fail) .fail) (by kernel_rfl) ?_
  simp [one]
 ·rename_i c o xs v t0;obtain⟨h1,q1⟩:=Tr.chk_some h;obtain⟨h2,q2⟩:=Tr.chk_some q1;obtain⟨h3,q3⟩:=Tr.chk_some q2;cases q3
  refine Tr.run_as (.ite (qaP xs [[.int .u8 c]] 1) (.ite (qaC [[.int .u8 c]] 1) (.ite (qaq xs 1) (.ite (nEq v (nXs xs)) (.ret (.nili,Store.mk [o,[.ptr 1 0,.sl (xApp xs [[.int .u8 c]]) (.tok 0)]] [(nXs (xApp xs [[.int .u8 c]]),1,5)] [t0,186])) .fail) .fail) .fail) .fail) (by kernel_rfl) ?_
  simp at h1 h2 h3;simp [h1,h2,h3,one]
 ·cases h
def D_WS:List PV→Store→Tr (PV×Store)
 |[.ptr 1 0,.str l],⟨[o,[.ptr 1 0,.sl xs (.tok 0)]],[(v,1,5)],[t0,186]⟩=>Tr.chk (bNot (xNil (qaf l))) (Tr.chk (qaP xs (qaf l) 1) (Tr.chk (qaq xs 1) (Tr.chk (nEq v (nXs xs))
  (.ret (.tup [.int .i64 (sLen l),.nili],⟨[o,[.ptr 1 0,.sl (xApp xs (qaf l)) (.tok 0)]],[(nXs (xApp xs (qaf l)),1,5)],[t0,186]⟩)))))
 |_,_=>.fail
theorem qNc (gl:Gl):SimS Tryz.prog gl 153 fun args σ=>(D_WS args σ).run:=by
 refine SimS.of_tree (G:=ofL [(167,.store (qd6 186))]) (L:=fun _ _ _=>.fail) qak (qcK (qk6 gl) qag) qah Tryz.func153 rfl (by rfl) (by kernel_rfl) (qac (by kernel_rfl)) ?_
 intro args σ x σ' h hr;unfold D_WS at h
 split at h
 ·rename_i l o xs v t0;obtain⟨h0,q0⟩:=Tr.chk_some h;obtain⟨h1,q1⟩:=Tr.chk_some q0;obtain⟨h2,q2⟩:=Tr.chk_some q1;obtain⟨h3,q3⟩:=Tr.chk_some q2;cases q3
  refine Tr.run_as (.ite (qaP xs (qaf l) 1) (.ite (qaC (qaf l) 1) (.ite (qaq xs 1) (.ite (xNil (qaf l)) (.ret (.tup [.int .i64 (sLen l),.nili],Store.mk [o,[.ptr 1 0,.sl xs (.tok 0)]] [(v,1,5)] [t0,186])) (.ite (nEq v (nXs xs)) (.ret (.tup [.int .i64 (sLen l),.nili],Store.mk [o,[.ptr 1 0,.sl (xApp xs (qaf l)) (.tok 0)]] [(nXs (xApp xs (qaf l)),1,5)] [t0,186])) .fail)) .fail) .fail) .fail) (by kernel_rfl) ?_
  simp at h0 h1 h2 h3;simp [h0,h1,h2,h3]
 ·cases h
def qdJ (k n:Int) (s:qU):qU:=if isV k n s=true then (if k=1 then qJB n else symV s) else []
def qFb:List PV→Tr PV
 |[.agg [.int .i64 k,.int .i64 n,.str s]]=>.ret (.tup [.str (qdJ k n s),.int .i64 (qbr k n s)])
 |_=>.fail
def qFC:List PV→Store→Option (Int×Int×List UInt8×Int×Int)
 |[.ptr 0 0,.ptr 1 0,.int .i64 m,.int .i64 i],⟨[[.int .i64 k,.int .i64 n,.str s],[.ptr 1 0,.sl [[.int .u8 34]] (.tok 0)]],[(1,1,5)],[42,186]⟩=>some (k,n,s,m,i)
 |_,_=>none
def quH (k n:Int) (s:qU) (b:qU):Store:=⟨[[.int .i64 k,.int .i64 n,.str s],[.ptr 1 0,.sl (qaf b) (.tok 0)]],[(nLen b,1,5)],[42,186]⟩
def qJl:Int×Int×List UInt8×Int×Int→Tr (PExit×List (Nat×PV)×Store)
 |(k,n,s,m,i)=>Tr.chk (iEq i 0) (Tr.chk (iEq m (sLen s)) (Tr.chk (iLe (sLen s) 256) (.ret (.exit 0,[(1,.ptr 0 0),(5,.ptr 1 0)],⟨[[.int .i64 k,.int .i64 n,.str s],[.ptr 1 0,.sl (qaf (symH s)) (.tok 0)]],[(nLen (symH s),1,5)],[42,186]⟩))))
def qIV:LpsT:=fun r fr σ=>if r=9 then oracle 34 [1,5,21,22] qFC qJl fr σ else .fail
def qD9:Code:=qKZ Tryz.f169 0
theorem qFI (gl:Gl):∀ vs σ a e out σ',qFC vs σ=some a→(qJl a).run=some (e,out,σ')→LDoes Tryz.prog gl qD9 (mk 34 ([1,5,21,22].zip vs)) σ e (mk 34 out) σ':=by
 intro vs st a e out σ' hd hr;unfold qFC at hd;split at hd
 ·rename_i m i k n s;cases hd
  obtain⟨h1,h2⟩:=Tr.chk_some hr;obtain⟨h3,h4⟩:=Tr.chk_some h2;obtain⟨h5,h6⟩:=Tr.chk_some h4;simp at h1 h3 h5;subst h1 h3;clear hr h2 h4;cases h6
  have hG:qam Tryz.prog gl (gam (ofL [(187,.pure qLv),(153,.store D_WS)])):=qae (qMl gl) (qcK (qNc gl) qag);have key:∀ (m:Nat) (i:Int) (b:qU),0≤i→i+m=s.length→b++symB (s.drop i.toNat)=symH s→b.length≤1+4 * i.toNat →
    LDoes Tryz.prog gl qD9 (mk 34 ([1,5,21,22].zip [.ptr 0 0,.ptr 1 0,.int .i64 (sLen s),.int .i64 i])) (quH k n s b) (.exit 0) (mk 34 [(1,.ptr 0 0),(5,.ptr 1 0)]) (quH k n s (symH s)):=by
   intro m
   induction m with
   |zero =>
    intro i b h0 hi hf hb;have e1:s.drop i.toNat=[]:=by apply List.drop_eq_nil_of_le;omega
    rw [e1] at hf;simp [symB] at hf;subst hf;unfold quH;refine LDoes.round qak hG qah (L:=fun _ _ _=>.fail) (qac (by kernel_rfl)) (by kernel_rfl) ?_
    refine Tr.all_as (.ite (iLt i (sLen s)) (.ite (qa0 s i) (.ite (bNot (xNil (qaf (oneV (sAt s i))))) (.ite (qaP (qaf (symH s)) (qaf (oneV (sAt s i))) 1) (.ite (qaq (qaf (symH s)) 1) (.ite (nEq (nLen (symH s)) (nXs (qaf (symH s)))) (.ret (.normal,[23],[.top,.ptr 0 0,.top,.top,.top,.ptr 1 0,.int .i64 i,.top,.top,.top,.top,.top,.top,.top,.top,.top,.top,.top,.top,.top,.top,.int .i64 (sLen s),.int .i64 (iAdd .i64 i 1),.bool true,.int .i64 i,.ptr 0 2,.str s,.int .i64 i,.int .u8 (sAt s i),.str (oneV (sAt s i)),.tup [.int .i64 (sLen (oneV (sAt s i))),.nili],.int .i64 (iAdd .i64 i 1),.top,.top],Store.mk [[.int .i64 k,.int .i64 n,.str s],[.ptr 1 0,.sl (xApp (qaf (symH s)) (qaf (oneV (sAt s i)))) (.tok 0)]] [(nXs (xApp (qaf (symH s)) (qaf (oneV (sAt s i)))),1,5)] [42,186])) .fail) .fail) .fail) .fail) .fail) (.ret (.exit 0,[23],[.top,.ptr 0 0,.top,.top,.top,.ptr 1 0,.top,.top,.top,.top,.top,.top,.top,.top,.top,.top,.top,.top,.top,.top,.top,.int .i64 (sLen s),.int .i64 i,.bool false,.top,.top,.top,.top,.top,.top,.top,.top,.top,.top],Store.mk [[.int .i64 k,.int .i64 n,.str s],[.ptr 1 0,.sl (qaf (symH s)) (.tok 0)]] [(nLen (symH s),1,5)] [42,186]))) (by kernel_rfl) ?_
    exact Tr.all_f (by simp;omega) ⟨rfl,by simp [Weak,mk,qcC,look],rfl⟩
   |succ m ih =>
    intro i b h0 hi hf hb;obtain⟨v,hv⟩:=qp7 (l:=s) (i:=i.toNat) (by omega)
    rw [qbE hv] at hf;have hone:=qBw v.toNat;have e2:(i+1).toNat=i.toNat+1:=by omega
    unfold quH;refine LDoes.round qak hG qah (L:=fun _ _ _=>.fail) (qac (by kernel_rfl)) (by kernel_rfl) ?_
    refine Tr.all_as (.ite (iLt i (sLen s)) (.ite (qa0 s i) (.ite (bNot (xNil (qaf (oneV (sAt s i))))) (.ite (qaP (qaf b) (qaf (oneV (sAt s i))) 1) (.ite (qaq (qaf b) 1) (.ite (nEq (nLen b) (nXs (qaf b))) (.ret (.normal,[23],[.top,.ptr 0 0,.top,.top,.top,.ptr 1 0,.int .i64 i,.top,.top,.top,.top,.top,.top,.top,.top,.top,.top,.top,.top,.top,.top,.int .i64 (sLen s),.int .i64 (iAdd .i64 i 1),.bool true,.int .i64 i,.ptr 0 2,.str s,.int .i64 i,.int .u8 (sAt s i),.str (oneV (sAt s i)),.tup [.int .i64 (sLen (oneV (sAt s i))),.nili],.int .i64 (iAdd .i64 i 1),.top,.top],Store.mk [[.int .i64 k,.int .i64 n,.str s],[.ptr 1 0,.sl (xApp (qaf b) (qaf (oneV (sAt s i)))) (.tok 0)]] [(nXs (xApp (qaf b) (qaf (oneV (sAt s i)))),1,5)] [42,186])) .fail) .fail) .fail) .fail) .fail) (.ret (.exit 0,[23],[.top,.ptr 0 0,.top,.top,.top,.ptr 1 0,.top,.top,.top,.top,.top,.top,.top,.top,.top,.top,.top,.top,.top,.top,.top,.int .i64 (sLen s),.int .i64 i,.bool false,.top,.top,.top,.top,.top,.top,.top,.top,.top,.top],Store.mk [[.int .i64 k,.int .i64 n,.str s],[.ptr 1 0,.sl (qaf b) (.tok 0)]] [(nLen b,1,5)] [42,186]))) (by kernel_rfl) ?_
    rw [qyR hv,qth,qhb,qhb];refine Tr.all_t (by simp;omega) <| Tr.all_t (qwV h0 hv) <| Tr.all_t (by rw [qDa hone.1];rfl) <| Tr.all_t (qnG (by omega)) <| Tr.all_t (qhE _) <| Tr.all_t (by simp) ?_
    refine LDoes.into ?_ (ih (i+1) (b++oneV v.toNat) (by omega) (by omega) (by rw [← hf,e2];simp [symB]) (by simp;omega))
    simp [Weak,mk,qcC,look,iAdd,qcY (n:=i+1) (by omega)]
  have hz:=key s.length 0 [34] (by omega) (by omega) (by simp [symH]) (by simp)
  exact hz
 ·cases hd
theorem qH8 {gl:Gl} (hgl:GlPow gl):SimP Tryz.prog gl 169 fun args=>(qFb args).run:=by
 refine SimP.of_tree (G:=ofL [(184,.pure qy7),(185,.pure qjk),(186,.store D_WB),(154,.store (qpG 5))]) (L:=qIV) qak (qae (qEC gl) (qae (qv1 hgl) (qcK (qMu gl) (qcK (sim_String gl) qag)))) qah Tryz.func169 rfl (by rfl) (by kernel_rfl) (qmR (r:=9) (c1:=qD9) (by kernel_rfl) ?_) ?_
 ·intro fr σ e fr' σ' hh;simp only [lps,qIV,if_true] at hh;exact qqe (qFI gl) fr σ e fr' σ' hh
 intro args x h hr;unfold qFb at h
 split at h
 ·rename_i k n s;cases h
  refine Tr.run_as (.ite (iNe (qbr k n s) 0) (.ret (.tup [.str [],.int .i64 (qbr k n s)])) (.ite (iEq k 1) (.ite (iEq 10 10) (.ret (.tup [.str (qJB n),.int .i64 0])) .fail) (.ite (iEq 0 0) (.ite (iEq (sLen s) (sLen s)) (.ite (iLe (sLen s) 256) (.ite (qaP (qaf (symH s)) [[.int .u8 34]] 1) (.ite (qaq (qaf (symH s)) 1) (.ite (nEq (nLen (symH s)) (nXs (qaf (symH s)))) (.ite (qdO (xApp (qaf (symH s)) [[.int .u8 34]])) (.ite (bNot (xNil (xApp (qaf (symH s)) [[.int .u8 34]]))) (.ite (nEq (nXs (xApp (qaf (symH s)) [[.int .u8 34]])) (nXs (xApp (qaf (symH s)) [[.int .u8 34]]))) (.ite true (.ret (.tup [.str (qcc (xApp (qaf (symH s)) [[.int .u8 34]])),.int .i64 0])) .fail) .fail) .fail) .fail) .fail) .fail) .fail) .fail) .fail) .fail))) (by kernel_rfl) ?_
  rw [qDC];cases hI:isV k n s with
  |false=>simp [qdJ,hI]
  |true =>
   by_cases hk:k=1
   ·subst hk;simp [qdJ,hI]
   ·have h2:s.length≤256:=by
     unfold isV at hI;simp at hI;omega
    have e3:([[PV.int .u8 34]]:List (List PV))=qaf [34]:=rfl;have hs:=qAI s;have hl:(symH s).length=1+(symB s).length:=by simp [symH];omega
    have e4:qaP (qaf (symH s)) (qaf [34]) 1=true:=qnG (by simp;omega)
    have e5:symV s=symH s++[34]:=by simp [symV,symH]
    have e6:¬ (symH s++[34]=[]):=by simp
    rw [e3];simp [qdJ,hI,hk,qth,e4,e5,qhb,-qGm,-qKy];exact⟨by omega,by simp [qaf]⟩
 ·cases h
end Go.Pv
set_option maxHeartbeats 4000000
set_option maxRecDepth 200000
set_option linter.unusedSimpArgs false
set_option linter.unusedVariables false
namespace Go.Pv
open Go Go.Proofs Go.RowKit
theorem qrL {c k:UInt8} (h:c≠k):iEq (c.toNat:Int) (k.toNat:Int)=false:=by
 simp only [qFA,decide_eq_false_iff_not];intro e;exact h (UInt8.toNat_inj.1 (by omega))
theorem qJE (s:qU) (n:Int):0≤sAt s n∧sAt s n < 256:=by
 have:=(s.getD n.toNat 0).toNat_lt;simp only [qNu];omega
theorem qJa:∀ (l:qU) (c i:Int),0≤i→i+l.length≤16→0≤dv l c i∧dv l c i≤16
 |[],c,i,h,hl=>by simp [dv]
 |b::l,c,i,h,hl=>by
  have:=qJa l c (i+1) (by omega) (by simp at hl;omega)
  unfold dv;split
  ·simp at hl;omega
  ·exact this
theorem qBi (c:Int):0≤digV c∧digV c≤16:=qJa hexL c 0 (by omega) (by decide)
theorem qIr {a b:Int} (ha:0≤a∧a≤16) (hb:0≤b∧b≤16):0≤iOr .u8 (iShl .u8 a 4) b∧iOr .u8 (iShl .u8 a 4) b < 256:=by
 have key:∀ (x y:Fin 17),0≤iOr .u8 (iShl .u8 (x.val:Int) 4) (y.val:Int)∧iOr .u8 (iShl .u8 (x.val:Int) 4) (y.val:Int) < 256:=by decide +kernel
 have:=key ⟨a.toNat,by omega⟩ ⟨b.toNat,by omega⟩
 have e1:((a.toNat:Nat):Int)=a:=by omega
 have e2:((b.toNat:Nat):Int)=b:=by omega
 rwa [e1,e2] at this
theorem qAQ (s:qU):0≤escB s∧escB s < 256:=by
 have h1:=qJE s 0;have h2:=qIr (qBi (sAt s 1)) (qBi (sAt s 2));unfold escB
 repeat' split
 all_goals first|exact h1|exact h2|omega
theorem qBh (s:qU):0≤escN s∧escN s≤s.length:=by
 unfold escN;by_cases h:s=[]
 ·simp [h]
 ·have:=List.length_pos_iff.2 h
  repeat' split
  all_goals omega
def decP (s:qU):Option (List UInt8):=match s with
 |[]=>some []
 |c::t=>if c=92 then (if escN t=0 then none else (decP (t.drop (escN t).toNat)).map (UInt8.ofNat (escB t).toNat::·)) else (decP t).map (c::·)
 termination_by s.length
 decreasing_by all_goals (simp;try omega)
def qqU (s:qU):Bool:=(decP s).isSome
def decV (s:qU):qU:=(decP s).getD []
def decL (s:qU):Nat:=match s with
 |[]=>0
 |c::t=>if c=92 then (if escN t=0 then 0 else decL (t.drop (escN t).toNat)+1) else decL t+1
 termination_by s.length
 decreasing_by all_goals (simp;try omega)
def badL (s:qU):Nat:=decL s
def qt0:List PV→Tr PV
 |[.str s]=>Tr.chk (qsg s) (.ite (qqU s) (.ret (.tup [.sl (qaf (decV s)) .non,.bool true])) (.ret (.tup [.sl [] .non,.bool false])))
 |_=>.fail
def qvo:List PV→Store→Option (List UInt8)
 |[.str s,.sl [] .full],⟨[],[],[]⟩=>some s
 |_,_=>none
def qA4:qU→Tr (PExit×List (Nat×PV)×Store)
 |s=>Tr.chk (qsg s) (.ite (qqU s) (.ite (sEq (decV s) []) (.ret (.exit 0,[(4,.sl [] .full)],⟨[],[],[]⟩)) (.ret (.exit 0,[(4,.sl (qaf (decV s)) (.tok 0))],⟨[],[(nLen (decV s),1,5)],[]⟩))) (.ite (nEq (badL s) 0) (.ret (.ret,[(2,.sl [] .full),(3,.bool false)],⟨[],[],[]⟩)) (.ret (.ret,[(2,.sl [] .full),(3,.bool false)],⟨[],[(badL s,1,5)],[]⟩))))
def qAS:LpsT:=fun r fr σ=>if r=2 then oracle 32 [0,4] qvo qA4 fr σ else .fail
def qnX:Code:=qKZ Tryz.f195 0
theorem qyQ (gl : Gl) : ∀ vs σ a e out σ', qvo vs σ = some a → (qA4 a).run = some (e, out, σ') → LDoes Tryz.prog gl qnX (mk 32 ([0, 4].zip vs)) σ e (mk 32 out) σ' := by
  intro vs st a e out σ' hd hr
  unfold qvo at hd
  split at hd
  · rename_i s
    injection hd with hd
    subst hd
    obtain ⟨hlen, hr⟩ := Tr.chk_some hr
    simp at hlen
    have hG : qam Tryz.prog gl (gam (ofL [(202, .pure qov)])) := qae (qsP gl) qag
    have key : ∀ (k : Nat) (b s : List UInt8), s.length ≤ k → b ≠ [] → b.length + s.length ≤ 140737488355328 →
       (match decP s with
        | some x => (PExit.exit 0, [(4, PV.sl (qaf (b ++ x)) (.tok 0))], (⟨[], [(nLen (b ++ x), 1, 5)], []⟩ : Store))
        | none => (.ret, [(2, .sl [] .full), (3, .bool false)], ⟨[], [(b.length + decL s, 1, 5)], []⟩)) = (e, out, σ') →
       LDoes Tryz.prog gl qnX (mk 32 ([0, 4].zip [.str s, .sl (qaf b) (.tok 0)])) ⟨[], [(nLen b, 1, 5)], []⟩ e (mk 32 out) σ' := by
      intro k
      have base : ∀ (b : List UInt8), b ≠ [] → (PExit.exit 0, [(4, PV.sl (qaf b) (.tok 0))], (⟨[], [(nLen b, 1, 5)], []⟩ : Store)) = (e, out, σ') →
         LDoes Tryz.prog gl qnX (mk 32 ([0, 4].zip [.str [], .sl (qaf b) (.tok 0)])) ⟨[], [(nLen b, 1, 5)], []⟩ e (mk 32 out) σ' := by
        intro b hb h
        cases h
        refine LDoes.round qak hG qah (L := fun _ _ _ => .fail) (qac (by kernel_rfl)) (by kernel_rfl) ?_
        refine Tr.all_as (.ite (sNe [] []) (.ite (qa0 [] 0) (.ite (qbd (qas 1) true (nNat 1) (nLen []) (nLen [])) (.ite (iEq (sAt [] 0) 92) (.ite (iEq (escN (sSub [] (nNat 1) (nLen []))) 0) (.ret (.ret,[3,2,22,15,9],[.str (sSub [] (nNat 1) (nLen [])),.top,.sl [] .full,.bool false,.sl (qaf b) (.tok 0),.int .u8 (sAt [] 0),.int .u8 (escB (sSub [] (nNat 1) (nLen []))),.int .i64 (escN (sSub [] (nNat 1) (nLen []))),.str [],.bool true,.str [],.int .u8 (sAt [] 0),.str [],.str (sSub [] (nNat 1) (nLen [])),.int .u8 (sAt [] 0),.bool true,.tup [.int .u8 (escB (sSub [] (nNat 1) (nLen []))),.int .i64 (escN (sSub [] (nNat 1) (nLen [])))],.str (sSub [] (nNat 1) (nLen [])),.tup [.int .u8 (escB (sSub [] (nNat 1) (nLen []))),.int .i64 (escN (sSub [] (nNat 1) (nLen [])))],.int .u8 (escB (sSub [] (nNat 1) (nLen []))),.int .i64 (escN (sSub [] (nNat 1) (nLen []))),.int .i64 (escN (sSub [] (nNat 1) (nLen []))),.bool true,.top,.top,.top,.top,.top,.top,.top,.top,.top],Store.mk [] [(nLen b,1,5)] [])) (.ite (qbd (qas (escN (sSub [] (nNat 1) (nLen [])))) true (nNat (escN (sSub [] (nNat 1) (nLen [])))) (nLen (sSub [] (nNat 1) (nLen []))) (nLen (sSub [] (nNat 1) (nLen [])))) (.ite (qaP (qaf b) [[.int .u8 (escB (sSub [] (nNat 1) (nLen [])))]] 1) (.ite (qaC [[.int .u8 (escB (sSub [] (nNat 1) (nLen [])))]] 1) (.ite (qaq (qaf b) 1) (.ite (nEq (nLen b) (nXs (qaf b))) (.ret (.normal,[29,22,15,9],[.str (sSub (sSub [] (nNat 1) (nLen [])) (nNat (escN (sSub [] (nNat 1) (nLen [])))) (nLen (sSub [] (nNat 1)
          (nLen [])))),.top,.top,.top,.sl (xApp (qaf b) [[.int .u8 (escB (sSub [] (nNat 1) (nLen [])))]]) (.tok 0),.int .u8 (escB (sSub [] (nNat 1) (nLen []))),.int .u8 (escB (sSub [] (nNat 1) (nLen []))),.int .i64 (escN (sSub [] (nNat 1) (nLen []))),.str [],.bool true,.str [],.int .u8 (sAt [] 0),.str [],.str (sSub [] (nNat 1) (nLen [])),.int .u8 (sAt [] 0),.bool true,.tup [.int .u8 (escB (sSub [] (nNat 1) (nLen []))),.int .i64 (escN (sSub [] (nNat 1) (nLen [])))],.str (sSub [] (nNat 1) (nLen [])),.tup [.int .u8 (escB (sSub [] (nNat 1) (nLen []))),.int .i64 (escN (sSub [] (nNat 1) (nLen [])))],.int .u8 (escB (sSub [] (nNat 1) (nLen []))),.int .i64 (escN (sSub [] (nNat 1) (nLen []))),.int .i64 (escN (sSub [] (nNat 1) (nLen []))),.bool false,.int .u8 (escB (sSub [] (nNat 1) (nLen []))),.str (sSub [] (nNat 1) (nLen [])),.int .i64 (escN (sSub [] (nNat 1) (nLen []))),.str (sSub (sSub [] (nNat 1) (nLen [])) (nNat (escN (sSub [] (nNat 1) (nLen [])))) (nLen (sSub [] (nNat 1) (nLen [])))),.sl (qaf b) (.tok 0),.int .u8 (escB (sSub [] (nNat 1) (nLen []))),.sl [[.int .u8 (escB (sSub [] (nNat 1) (nLen [])))]] .full,.sl (xApp (qaf b) [[.int .u8 (escB (sSub [] (nNat 1) (nLen [])))]]) (.tok 0),.top],Store.mk [] [(nXs (xApp (qaf b) [[.int .u8 (escB (sSub [] (nNat 1) (nLen [])))]]),1,5)] [])) .fail) .fail) .fail) .fail) .fail)) (.ite (qaP (qaf b) [[.int .u8 (sAt [] 0)]] 1) (.ite (qaC [[.int .u8 (sAt [] 0)]] 1) (.ite (qaq (qaf b) 1) (.ite (nEq (nLen b) (nXs (qaf b)))
          (.ret (.normal,[29,15,9],[.str (sSub [] (nNat 1) (nLen [])),.top,.top,.top,.sl (xApp (qaf b) [[.int .u8 (sAt [] 0)]]) (.tok 0),.int .u8 (sAt [] 0),.top,.top,.str [],.bool true,.str [],.int .u8 (sAt [] 0),.str [],.str (sSub [] (nNat 1) (nLen [])),.int .u8 (sAt [] 0),.bool false,.top,.top,.top,.top,.top,.top,.top,.top,.top,.top,.top,.sl (qaf b) (.tok 0),.int .u8 (sAt [] 0),.sl [[.int .u8 (sAt [] 0)]] .full,.sl (xApp (qaf b) [[.int .u8 (sAt [] 0)]]) (.tok 0),.top],Store.mk [] [(nXs (xApp (qaf b) [[.int .u8 (sAt [] 0)]]),1,5)] [])) .fail) .fail) .fail) .fail)) .fail) .fail) (.ret (.exit 0,[9],[.str [],.top,.top,.top,.sl (qaf b) (.tok 0),.top,.top,.top,.str [],.bool false,.top,.top,.top,.top,.top,.top,.top,.top,.top,.top,.top,.top,.top,.top,.top,.top,.top,.top,.top,.top,.top,.top],Store.mk [] [(nLen b,1,5)] []))) (by kernel_rfl) ?_
        exact ⟨fun h => by simp at h, fun h => ⟨rfl, by simp [Weak, mk, qcC, look], rfl⟩⟩
      induction k with
      | zero =>
        intro b s hk hb hbs h
        have : s = [] := by apply List.eq_nil_of_length_eq_zero; omega
        subst this
        simp [decP] at h
        exact base b hb (by simpa using h)
      | succ k ih =>
        intro b s hk hb hbs h
        cases s with
        | nil =>
          simp [decP] at h
          exact base b hb (by simpa using h)
        | cons c t =>
          have e0 : sAt (c :: t) 0 = c.toNat := by simp
          have e1 : sSub (c :: t) (nNat 1) (nLen (c :: t)) = t := by simp
          have hc := c.toNat_lt
          have e7 := qBh t
          have e8 := qAQ t
          simp at hk hbs
          rw [decP, decL] at h
          refine LDoes.round qak hG qah (L := fun _ _ _ => .fail) (qac (by kernel_rfl)) (by kernel_rfl) ?_
          refine Tr.all_as (.ite (sNe (c :: t) []) (.ite (qa0 (c :: t) 0) (.ite (qbd (qas 1) true (nNat 1) (nLen (c :: t)) (nLen (c :: t))) (.ite (iEq (sAt (c :: t) 0) 92) (.ite (iEq (escN (sSub (c :: t) (nNat 1) (nLen (c :: t)))) 0) (.ret (.ret,[3,2,22,15,9],[.str (sSub (c :: t) (nNat 1) (nLen (c :: t))),.top,.sl [] .full,.bool false,.sl (qaf b) (.tok 0),.int .u8 (sAt (c :: t) 0),.int .u8 (escB (sSub (c :: t) (nNat 1) (nLen (c :: t)))),.int .i64 (escN (sSub (c :: t) (nNat 1) (nLen (c :: t)))),.str (c :: t),.bool true,.str (c :: t),.int .u8 (sAt (c :: t) 0),.str (c :: t),.str (sSub (c :: t) (nNat 1) (nLen (c :: t))),.int .u8 (sAt (c :: t) 0),.bool true,.tup [.int .u8 (escB (sSub (c :: t) (nNat 1) (nLen (c :: t)))),.int .i64 (escN (sSub (c :: t) (nNat 1) (nLen (c :: t))))],.str (sSub (c :: t) (nNat 1) (nLen (c :: t))),.tup [.int .u8 (escB (sSub (c :: t) (nNat 1) (nLen (c :: t)))),.int .i64 (escN (sSub (c :: t) (nNat 1) (nLen (c :: t))))],.int .u8 (escB (sSub (c :: t) (nNat 1) (nLen (c :: t)))),.int .i64 (escN (sSub (c :: t) (nNat 1) (nLen (c :: t)))),.int .i64 (escN (sSub (c :: t) (nNat 1) (nLen (c :: t)))),.bool true,.top,.top,.top,.top,.top,.top,.top,.top,.top],Store.mk [] [(nLen b,1,5)] [])) (.ite (qbd (qas (escN (sSub (c :: t) (nNat 1) (nLen (c :: t))))) true (nNat (escN (sSub (c :: t) (nNat 1) (nLen (c :: t))))) (nLen (sSub (c :: t) (nNat 1) (nLen (c :: t)))) (nLen (sSub (c :: t) (nNat 1) (nLen (c :: t))))) (.ite (qaP (qaf b) [[.int .u8 (escB (sSub (c :: t) (nNat 1) (nLen (c ::
            t))))]] 1) (.ite (qaC [[.int .u8 (escB (sSub (c :: t) (nNat 1) (nLen (c :: t))))]] 1) (.ite (qaq (qaf b) 1) (.ite (nEq (nLen b) (nXs (qaf b))) (.ret (.normal,[29,22,15,9],[.str (sSub (sSub (c :: t) (nNat 1) (nLen (c :: t))) (nNat (escN (sSub (c :: t) (nNat 1) (nLen (c :: t))))) (nLen (sSub (c :: t) (nNat 1) (nLen (c :: t))))),.top,.top,.top,.sl (xApp (qaf b) [[.int .u8 (escB (sSub (c :: t) (nNat 1) (nLen (c :: t))))]]) (.tok 0),.int .u8 (escB (sSub (c :: t) (nNat 1) (nLen (c :: t)))),.int .u8 (escB (sSub (c :: t) (nNat 1) (nLen (c :: t)))),.int .i64 (escN (sSub (c :: t) (nNat 1) (nLen (c :: t)))),.str (c :: t),.bool true,.str (c :: t),.int .u8 (sAt (c :: t) 0),.str (c :: t),.str (sSub (c :: t) (nNat 1) (nLen (c :: t))),.int .u8 (sAt (c :: t) 0),.bool true,.tup [.int .u8 (escB (sSub (c :: t) (nNat 1) (nLen (c :: t)))),.int .i64 (escN (sSub (c :: t) (nNat 1) (nLen (c :: t))))],.str (sSub (c :: t) (nNat 1) (nLen (c :: t))),.tup [.int .u8 (escB (sSub (c :: t) (nNat 1) (nLen (c :: t)))),.int .i64 (escN (sSub (c :: t) (nNat 1) (nLen (c :: t))))],.int .u8 (escB (sSub (c :: t) (nNat 1) (nLen (c :: t)))),.int .i64 (escN (sSub (c :: t) (nNat 1) (nLen (c :: t)))),.int .i64 (escN (sSub (c :: t) (nNat 1) (nLen (c :: t)))),.bool false,.int .u8 (escB (sSub (c :: t) (nNat 1) (nLen (c :: t)))),.str (sSub (c :: t) (nNat 1) (nLen (c :: t))),.int .i64 (escN (sSub (c :: t) (nNat 1) (nLen (c :: t)))),.str (sSub (sSub (c :: t) (nNat 1) (nLen (c :: t))) (nNat (escN (sSub (c :: t)
            (nNat 1) (nLen (c :: t))))) (nLen (sSub (c :: t) (nNat 1) (nLen (c :: t))))),.sl (qaf b) (.tok 0),.int .u8 (escB (sSub (c :: t) (nNat 1) (nLen (c :: t)))),.sl [[.int .u8 (escB (sSub (c :: t) (nNat 1) (nLen (c :: t))))]] .full,.sl (xApp (qaf b) [[.int .u8 (escB (sSub (c :: t) (nNat 1) (nLen (c :: t))))]]) (.tok 0),.top],Store.mk [] [(nXs (xApp (qaf b) [[.int .u8 (escB (sSub (c :: t) (nNat 1) (nLen (c :: t))))]]),1,5)] [])) .fail) .fail) .fail) .fail) .fail)) (.ite (qaP (qaf b) [[.int .u8 (sAt (c :: t) 0)]] 1) (.ite (qaC [[.int .u8 (sAt (c :: t) 0)]] 1) (.ite (qaq (qaf b) 1) (.ite (nEq (nLen b) (nXs (qaf b))) (.ret (.normal,[29,15,9],[.str (sSub (c :: t) (nNat 1) (nLen (c :: t))),.top,.top,.top,.sl (xApp (qaf b) [[.int .u8 (sAt (c :: t) 0)]]) (.tok 0),.int .u8 (sAt (c :: t) 0),.top,.top,.str (c :: t),.bool true,.str (c :: t),.int .u8 (sAt (c :: t) 0),.str (c :: t),.str (sSub (c :: t) (nNat 1) (nLen (c :: t))),.int .u8 (sAt (c :: t) 0),.bool false,.top,.top,.top,.top,.top,.top,.top,.top,.top,.top,.top,.sl (qaf b) (.tok 0),.int .u8 (sAt (c :: t) 0),.sl [[.int .u8 (sAt (c :: t) 0)]] .full,.sl (xApp (qaf b) [[.int .u8 (sAt (c :: t) 0)]]) (.tok 0),.top],Store.mk [] [(nXs (xApp (qaf b) [[.int .u8 (sAt (c :: t) 0)]]),1,5)] [])) .fail) .fail) .fail) .fail)) .fail) .fail) (.ret (.exit 0,[9],[.str (c :: t),.top,.top,.top,.sl (qaf b) (.tok 0),.top,.top,.top,.str (c :: t),.bool
            false,.top,.top,.top,.top,.top,.top,.top,.top,.top,.top,.top,.top,.top,.top,.top,.top,.top,.top,.top,.top,.top,.top],Store.mk [] [(nLen b,1,5)] []))) (by kernel_rfl) ?_
          rw [e1, e0, qrE b (n := (c.toNat : Int)) (by omega), qrE b e8, Int.toNat_natCast, UInt8.ofNat_toNat]
          simp only [qhb]
          refine Tr.all_t (by simp) <| Tr.all_t (by simp) <| Tr.all_t (by simp) ?_
          by_cases h92 : c = 92
          · subst h92
            refine Tr.all_t (by simp) ?_
            by_cases hn : escN t = 0
            · simp [hn] at h
              obtain ⟨rfl, rfl, rfl⟩ := h
              exact Tr.all_t (by simp [hn]) ⟨rfl, by simp [Weak, mk, qcC, look], rfl⟩
            · refine Tr.all_f (by simp [hn]) <| Tr.all_t (by simp; omega) <| Tr.all_t (by simp; omega) <| Tr.all_t (by simp [one]) <| Tr.all_t (qhE _) <| Tr.all_t (by simp) ?_
              refine LDoes.into ?_ (ih (b ++ [UInt8.ofNat (escB t).toNat]) (t.drop (escN t).toNat) (by simp; omega) (by simp) (by simp; omega) ?_)
              · simp [Weak, mk, qcC, look]
              · simp [hn] at h
                rw [← h]
                cases hd : decP (t.drop (escN t).toNat) with
                | none => simp; omega
                | some x => simp
          · refine Tr.all_f (qrL (k := 92) h92) <| Tr.all_t (by simp; omega) <| Tr.all_t (by simp [one]) <| Tr.all_t (qhE _) <| Tr.all_t (by simp) ?_
            refine LDoes.into ?_ (ih (b ++ [c]) t (by omega) (by simp) (by simp; omega) ?_)
            · simp [Weak, mk, qcC, look]
            · simp [h92] at h
              rw [← h]
              cases hd : decP t with
              | none => simp; omega
              | some x => simp
    cases s with
    | nil =>
      simp [qqU, decV, decP] at hr
      obtain ⟨rfl, rfl, rfl⟩ := hr
      refine LDoes.round qak hG qah (L := fun _ _ _ => .fail) (qac (by kernel_rfl)) (by kernel_rfl) ?_
      refine Tr.all_as (.ite (sNe [] []) (.ite (qa0 [] 0) (.ite (qbd (qas 1) true (nNat 1) (nLen []) (nLen [])) (.ite (iEq (sAt [] 0) 92) (.ite (iEq (escN (sSub [] (nNat 1) (nLen []))) 0) (.ret (.ret,[3,2,22,15,9],[.str (sSub [] (nNat 1) (nLen [])),.top,.sl [] .full,.bool false,.sl [] .full,.int .u8 (sAt [] 0),.int .u8 (escB (sSub [] (nNat 1) (nLen []))),.int .i64 (escN (sSub [] (nNat 1) (nLen []))),.str [],.bool true,.str [],.int .u8 (sAt [] 0),.str [],.str (sSub [] (nNat 1) (nLen [])),.int .u8 (sAt [] 0),.bool true,.tup [.int .u8 (escB (sSub [] (nNat 1) (nLen []))),.int .i64 (escN (sSub [] (nNat 1) (nLen [])))],.str (sSub [] (nNat 1) (nLen [])),.tup [.int .u8 (escB (sSub [] (nNat 1) (nLen []))),.int .i64 (escN (sSub [] (nNat 1) (nLen [])))],.int .u8 (escB (sSub [] (nNat 1) (nLen []))),.int .i64 (escN (sSub [] (nNat 1) (nLen []))),.int .i64 (escN (sSub [] (nNat 1) (nLen []))),.bool true,.top,.top,.top,.top,.top,.top,.top,.top,.top],Store.mk [] [] [])) (.ite (qbd (qas (escN (sSub [] (nNat 1) (nLen [])))) true (nNat (escN (sSub [] (nNat 1) (nLen [])))) (nLen (sSub [] (nNat 1) (nLen []))) (nLen (sSub [] (nNat 1) (nLen [])))) (.ite (qaP [] [[.int .u8 (escB (sSub [] (nNat 1) (nLen [])))]] 1) (.ite (qaC [[.int .u8 (escB (sSub [] (nNat 1) (nLen [])))]] 1) (.ite (qaq [] 1) (.ret (.normal,[29,22,15,9],[.str (sSub (sSub [] (nNat 1) (nLen [])) (nNat (escN (sSub [] (nNat 1) (nLen [])))) (nLen (sSub [] (nNat 1) (nLen [])))),.top,.top,.top,.sl (xApp [] [[.int .u8 (escB (sSub [] (nNat 1) (nLen
        [])))]]) (.tok 0),.int .u8 (escB (sSub [] (nNat 1) (nLen []))),.int .u8 (escB (sSub [] (nNat 1) (nLen []))),.int .i64 (escN (sSub [] (nNat 1) (nLen []))),.str [],.bool true,.str [],.int .u8 (sAt [] 0),.str [],.str (sSub [] (nNat 1) (nLen [])),.int .u8 (sAt [] 0),.bool true,.tup [.int .u8 (escB (sSub [] (nNat 1) (nLen []))),.int .i64 (escN (sSub [] (nNat 1) (nLen [])))],.str (sSub [] (nNat 1) (nLen [])),.tup [.int .u8 (escB (sSub [] (nNat 1) (nLen []))),.int .i64 (escN (sSub [] (nNat 1) (nLen [])))],.int .u8 (escB (sSub [] (nNat 1) (nLen []))),.int .i64 (escN (sSub [] (nNat 1) (nLen []))),.int .i64 (escN (sSub [] (nNat 1) (nLen []))),.bool false,.int .u8 (escB (sSub [] (nNat 1) (nLen []))),.str (sSub [] (nNat 1) (nLen [])),.int .i64 (escN (sSub [] (nNat 1) (nLen []))),.str (sSub (sSub [] (nNat 1) (nLen [])) (nNat (escN (sSub [] (nNat 1) (nLen [])))) (nLen (sSub [] (nNat 1) (nLen [])))),.sl [] .full,.int .u8 (escB (sSub [] (nNat 1) (nLen []))),.sl [[.int .u8 (escB (sSub [] (nNat 1) (nLen [])))]] .full,.sl (xApp [] [[.int .u8 (escB (sSub [] (nNat 1) (nLen [])))]]) (.tok 0),.top],Store.mk [] [(nXs (xApp [] [[.int .u8 (escB (sSub [] (nNat 1) (nLen [])))]]),1,5)] [])) .fail) .fail) .fail) .fail)) (.ite (qaP [] [[.int .u8 (sAt [] 0)]] 1) (.ite (qaC [[.int .u8 (sAt [] 0)]] 1) (.ite (qaq [] 1) (.ret (.normal,[29,15,9],[.str (sSub [] (nNat 1) (nLen [])),.top,.top,.top,.sl (xApp [] [[.int .u8 (sAt [] 0)]]) (.tok 0),.int .u8 (sAt [] 0),.top,.top,.str [],.bool true,.str [],.int
        .u8 (sAt [] 0),.str [],.str (sSub [] (nNat 1) (nLen [])),.int .u8 (sAt [] 0),.bool false,.top,.top,.top,.top,.top,.top,.top,.top,.top,.top,.top,.sl [] .full,.int .u8 (sAt [] 0),.sl [[.int .u8 (sAt [] 0)]] .full,.sl (xApp [] [[.int .u8 (sAt [] 0)]]) (.tok 0),.top],Store.mk [] [(nXs (xApp [] [[.int .u8 (sAt [] 0)]]),1,5)] [])) .fail) .fail) .fail)) .fail) .fail) (.ret (.exit 0,[9],[.str [],.top,.top,.top,.sl [] .full,.top,.top,.top,.str [],.bool false,.top,.top,.top,.top,.top,.top,.top,.top,.top,.top,.top,.top,.top,.top,.top,.top,.top,.top,.top,.top,.top,.top],Store.mk [] [] []))) (by kernel_rfl) ?_
      exact ⟨fun h => by simp at h, fun h => ⟨rfl, by simp [Weak, mk, qcC, look], rfl⟩⟩
    | cons c t =>
      have e0 : sAt (c :: t) 0 = c.toNat := by simp
      have e1 : sSub (c :: t) (nNat 1) (nLen (c :: t)) = t := by simp
      have hc := c.toNat_lt
      have e7 := qBh t
      have e8 := qAQ t
      simp at hlen
      simp only [qqU, decV, badL] at hr
      rw [decP, decL] at hr
      have x1 : xApp [] [[.int .u8 (c.toNat : Int)]] = qaf [c] := by simp [qaf]
      have x2 : xApp [] [[.int .u8 (escB t)]] = qaf [UInt8.ofNat (escB t).toNat] := qrE [] e8
      refine LDoes.round qak hG qah (L := fun _ _ _ => .fail) (qac (by kernel_rfl)) (by kernel_rfl) ?_
      refine Tr.all_as (.ite (sNe (c :: t) []) (.ite (qa0 (c :: t) 0) (.ite (qbd (qas 1) true (nNat 1) (nLen (c :: t)) (nLen (c :: t))) (.ite (iEq (sAt (c :: t) 0) 92) (.ite (iEq (escN (sSub (c :: t) (nNat 1) (nLen (c :: t)))) 0) (.ret (.ret,[3,2,22,15,9],[.str (sSub (c :: t) (nNat 1) (nLen (c :: t))),.top,.sl [] .full,.bool false,.sl [] .full,.int .u8 (sAt (c :: t) 0),.int .u8 (escB (sSub (c :: t) (nNat 1) (nLen (c :: t)))),.int .i64 (escN (sSub (c :: t) (nNat 1) (nLen (c :: t)))),.str (c :: t),.bool true,.str (c :: t),.int .u8 (sAt (c :: t) 0),.str (c :: t),.str (sSub (c :: t) (nNat 1) (nLen (c :: t))),.int .u8 (sAt (c :: t) 0),.bool true,.tup [.int .u8 (escB (sSub (c :: t) (nNat 1) (nLen (c :: t)))),.int .i64 (escN (sSub (c :: t) (nNat 1) (nLen (c :: t))))],.str (sSub (c :: t) (nNat 1) (nLen (c :: t))),.tup [.int .u8 (escB (sSub (c :: t) (nNat 1) (nLen (c :: t)))),.int .i64 (escN (sSub (c :: t) (nNat 1) (nLen (c :: t))))],.int .u8 (escB (sSub (c :: t) (nNat 1) (nLen (c :: t)))),.int .i64 (escN (sSub (c :: t) (nNat 1) (nLen (c :: t)))),.int .i64 (escN (sSub (c :: t) (nNat 1) (nLen (c :: t)))),.bool true,.top,.top,.top,.top,.top,.top,.top,.top,.top],Store.mk [] [] [])) (.ite (qbd (qas (escN (sSub (c :: t) (nNat 1) (nLen (c :: t))))) true (nNat (escN (sSub (c :: t) (nNat 1) (nLen (c :: t))))) (nLen (sSub (c :: t) (nNat 1) (nLen (c :: t)))) (nLen (sSub (c :: t) (nNat 1) (nLen (c :: t))))) (.ite (qaP [] [[.int .u8 (escB (sSub (c :: t) (nNat 1) (nLen (c :: t))))]] 1) (.ite (qaC [[.int
        .u8 (escB (sSub (c :: t) (nNat 1) (nLen (c :: t))))]] 1) (.ite (qaq [] 1) (.ret (.normal,[29,22,15,9],[.str (sSub (sSub (c :: t) (nNat 1) (nLen (c :: t))) (nNat (escN (sSub (c :: t) (nNat 1) (nLen (c :: t))))) (nLen (sSub (c :: t) (nNat 1) (nLen (c :: t))))),.top,.top,.top,.sl (xApp [] [[.int .u8 (escB (sSub (c :: t) (nNat 1) (nLen (c :: t))))]]) (.tok 0),.int .u8 (escB (sSub (c :: t) (nNat 1) (nLen (c :: t)))),.int .u8 (escB (sSub (c :: t) (nNat 1) (nLen (c :: t)))),.int .i64 (escN (sSub (c :: t) (nNat 1) (nLen (c :: t)))),.str (c :: t),.bool true,.str (c :: t),.int .u8 (sAt (c :: t) 0),.str (c :: t),.str (sSub (c :: t) (nNat 1) (nLen (c :: t))),.int .u8 (sAt (c :: t) 0),.bool true,.tup [.int .u8 (escB (sSub (c :: t) (nNat 1) (nLen (c :: t)))),.int .i64 (escN (sSub (c :: t) (nNat 1) (nLen (c :: t))))],.str (sSub (c :: t) (nNat 1) (nLen (c :: t))),.tup [.int .u8 (escB (sSub (c :: t) (nNat 1) (nLen (c :: t)))),.int .i64 (escN (sSub (c :: t) (nNat 1) (nLen (c :: t))))],.int .u8 (escB (sSub (c :: t) (nNat 1) (nLen (c :: t)))),.int .i64 (escN (sSub (c :: t) (nNat 1) (nLen (c :: t)))),.int .i64 (escN (sSub (c :: t) (nNat 1) (nLen (c :: t)))),.bool false,.int .u8 (escB (sSub (c :: t) (nNat 1) (nLen (c :: t)))),.str (sSub (c :: t) (nNat 1) (nLen (c :: t))),.int .i64 (escN (sSub (c :: t) (nNat 1) (nLen (c :: t)))),.str (sSub (sSub (c :: t) (nNat 1) (nLen (c :: t))) (nNat (escN (sSub (c :: t) (nNat 1) (nLen (c :: t))))) (nLen (sSub (c :: t) (nNat 1) (nLen (c :: t))))),.sl []
        .full,.int .u8 (escB (sSub (c :: t) (nNat 1) (nLen (c :: t)))),.sl [[.int .u8 (escB (sSub (c :: t) (nNat 1) (nLen (c :: t))))]] .full,.sl (xApp [] [[.int .u8 (escB (sSub (c :: t) (nNat 1) (nLen (c :: t))))]]) (.tok 0),.top],Store.mk [] [(nXs (xApp [] [[.int .u8 (escB (sSub (c :: t) (nNat 1) (nLen (c :: t))))]]),1,5)] [])) .fail) .fail) .fail) .fail)) (.ite (qaP [] [[.int .u8 (sAt (c :: t) 0)]] 1) (.ite (qaC [[.int .u8 (sAt (c :: t) 0)]] 1) (.ite (qaq [] 1) (.ret (.normal,[29,15,9],[.str (sSub (c :: t) (nNat 1) (nLen (c :: t))),.top,.top,.top,.sl (xApp [] [[.int .u8 (sAt (c :: t) 0)]]) (.tok 0),.int .u8 (sAt (c :: t) 0),.top,.top,.str (c :: t),.bool true,.str (c :: t),.int .u8 (sAt (c :: t) 0),.str (c :: t),.str (sSub (c :: t) (nNat 1) (nLen (c :: t))),.int .u8 (sAt (c :: t) 0),.bool false,.top,.top,.top,.top,.top,.top,.top,.top,.top,.top,.top,.sl [] .full,.int .u8 (sAt (c :: t) 0),.sl [[.int .u8 (sAt (c :: t) 0)]] .full,.sl (xApp [] [[.int .u8 (sAt (c :: t) 0)]]) (.tok 0),.top],Store.mk [] [(nXs (xApp [] [[.int .u8 (sAt (c :: t) 0)]]),1,5)] [])) .fail) .fail) .fail)) .fail) .fail) (.ret (.exit 0,[9],[.str (c :: t),.top,.top,.top,.sl [] .full,.top,.top,.top,.str (c :: t),.bool false,.top,.top,.top,.top,.top,.top,.top,.top,.top,.top,.top,.top,.top,.top,.top,.top,.top,.top,.top,.top,.top,.top],Store.mk [] [] []))) (by kernel_rfl) ?_
      rw [e1, e0, x1, x2]
      simp only [qhb]
      refine Tr.all_t (by simp) <| Tr.all_t (by simp) <| Tr.all_t (by simp) ?_
      by_cases h92 : c = 92
      · subst h92
        refine Tr.all_t (by simp) ?_
        by_cases hn : escN t = 0
        · simp [hn] at hr
          obtain ⟨rfl, rfl, rfl⟩ := hr
          exact Tr.all_t (by simp [hn]) ⟨rfl, by simp [Weak, mk, qcC, look], rfl⟩
        · refine Tr.all_f (by simp [hn]) <| Tr.all_t (by simp; omega) <| Tr.all_t (by simp) <| Tr.all_t (by simp [one]) <| Tr.all_t (by simp) ?_
          refine LDoes.into ?_ (key t.length ([UInt8.ofNat (escB t).toNat]) (t.drop (escN t).toNat) (by simp) (by simp) (by simp; omega) ?_)
          · simp [Weak, mk, qcC, look]
          · cases hd : decP (t.drop (escN t).toNat) with
            | none =>
              simp [hn, hd] at hr ⊢
              rw [Nat.add_comm]
              exact hr
            | some x =>
              simp [hn, hd] at hr ⊢
              exact hr
      · refine Tr.all_f (qrL (k := 92) h92) <| Tr.all_t (by simp) <| Tr.all_t (by simp [one]) <| Tr.all_t (by simp) ?_
        refine LDoes.into ?_ (key t.length [c] t (by omega) (by simp) (by simp; omega) ?_)
        · simp [Weak, mk, qcC, look]
        · cases hd : decP t with
          | none =>
            simp [h92, hd] at hr ⊢
            rw [Nat.add_comm]
            exact hr
          | some x =>
            simp [h92, hd] at hr ⊢
            exact hr
  · cases hd
theorem qC9 (gl:Gl):SimP Tryz.prog gl 195 fun args=>(qt0 args).run:=by
 refine SimP.of_tree (G:=ofL [(202,.pure qov)]) (L:=qAS) qak (qae (qsP gl) qag) qah Tryz.func195 rfl (by rfl) (by kernel_rfl) (qmR (r:=2) (c1:=qnX) (by kernel_rfl) ?_) ?_
 ·intro fr σ e fr' σ' hh;simp only [lps,qAS,if_true] at hh;exact qqe (qyQ gl) fr σ e fr' σ' hh
 intro args x h hr;unfold qt0 at h
 split at h
 ·rename_i s;obtain⟨h1,h2⟩:=Tr.chk_some h;refine Tr.run_as (.ite (qsg s) (.ite (qqU s) (.ite (sEq (decV s) []) (.ret (.tup [.sl [] .non,.bool true])) (.ret (.tup [.sl (qaa (qaf (decV s))) .non,.bool true]))) (.ite (nEq (badL s) 0) (.ret (.tup [.sl [] .non,.bool false])) (.ret (.tup [.sl [] .non,.bool false])))) .fail) (by kernel_rfl) ?_
  by_cases hd:qqU s=true
  ·by_cases he:decV s=[]
   ·simp [hd,he] at h2 ⊢;simp at h1;exact⟨h1,h2⟩
   ·simp [hd,he] at h2 ⊢;simp at h1;exact⟨h1,h2⟩
  ·by_cases he:badL s=0
   ·simp [hd,he] at h2 ⊢;simp at h1;exact⟨h1,h2⟩
   ·simp [hd,he] at h2 ⊢;simp at h1;exact⟨h1,h2⟩
 ·cases h
end Go.Pv
set_option maxHeartbeats 4000000
set_option maxRecDepth 200000
set_option linter.unusedSimpArgs false
set_option linter.unusedVariables false
namespace Go.Pv
open Go Go.Proofs Go.RowKit
def rdV (s:qU):Option (Int×Int×List UInt8) :=
 if qdd s [34]=true∧qwu s [34]=true∧2≤s.length then
  match decP ((s.take (s.length - 1)).drop 1) with
  |some b=>if qbr 2 0 b=0∧qdJ 2 0 b=s then some (2,0,b) else none
  |none=>none
 else if pOk s then (if qbr 1 (pVal s) []=0∧qdJ 1 (pVal s) []=s then some (1,pVal s,[]) else none) else none
def kRd (s:qU):Int:=match rdV s with|some v=>v.1|none=>0
def nRd (s:qU):Int:=match rdV s with|some v=>v.2.1|none=>0
def sRd (s:qU):qU:=match rdV s with|some v=>v.2.2|none=>[]
def eRd (s:qU):Int:=match rdV s with|some _=>0|none=>10
def qFD:List PV→Tr PV
 |[.str s]=>Tr.chk (qsg s) (.ret (.tup [.agg [.int .i64 (kRd s),.int .i64 (nRd s),.str (sRd s)],.int .i64 (eRd s)]))
 |_=>.fail
theorem qHz {gl : Gl} (hgl : GlOk gl) : SimP Tryz.prog gl 189 fun args => (qFD args).run := by
  refine SimP.of_tree (G := ofL [(177, .pure qn0), (194, .pure qvI), (195, .pure qt0), (196, .pure qm3), (169, .pure qFb)]) (L := fun _ _ _ => .fail) qak (qae (qsz gl) (qae (qCS gl) (qae (qC9 gl) (qae (qxt hgl) (qae (qH8 hgl.toGlPow) qag))))) qah Tryz.func189 rfl (by rfl) (by kernel_rfl) (qac (by kernel_rfl)) ?_
  intro args x h hr
  unfold qFD at h
  split at h
  · rename_i s
    obtain ⟨h1, h2⟩ := Tr.chk_some h
    refine Tr.run_as (.ite (qdd s [34]) (.ite (qwu s [34]) (.ite (iLe 2 (sLen s)) (.ite (qbd (qas 1) (qas (iSub .i64 (sLen s) 1)) (nNat 1) (nNat (iSub .i64 (sLen s) 1)) (nLen s)) (.ite (qsg (sSub s (nNat 1) (nNat (iSub .i64 (sLen s) 1)))) (.ite (qqU (sSub s (nNat 1) (nNat (iSub .i64 (sLen s) 1)))) (.ite false (.ret (.tup [.agg [.int .i64 0,.int .i64 0,.str []],.int .i64 10])) (.ite (qdO (qaf (decV (sSub s (nNat 1) (nNat (iSub .i64 (sLen s) 1)))))) (.ite (iNe (qbr 2 0 (qcc (qaf (decV (sSub s (nNat 1) (nNat (iSub .i64 (sLen s) 1))))))) 0) (.ret (.tup [.agg [.int .i64 0,.int .i64 0,.str []],.int .i64 10])) (.ite (sNe (qdJ 2 0 (qcc (qaf (decV (sSub s (nNat 1) (nNat (iSub .i64 (sLen s) 1))))))) s) (.ret (.tup [.agg [.int .i64 0,.int .i64 0,.str []],.int .i64 10])) (.ret (.tup [.agg [.int .i64 2,.int .i64 0,.str (qcc (qaf (decV (sSub s (nNat 1) (nNat (iSub .i64 (sLen s) 1))))))],.int .i64 0])))) .fail)) (.ite true (.ret (.tup [.agg [.int .i64 0,.int .i64 0,.str []],.int .i64 10])) (.ite (qdO []) (.ite (iNe (qbr 2 0 (qcc [])) 0) (.ret (.tup [.agg [.int .i64 0,.int .i64 0,.str []],.int .i64 10])) (.ite (sNe (qdJ 2 0 (qcc [])) s) (.ret (.tup [.agg [.int .i64 0,.int .i64 0,.str []],.int .i64 10])) (.ret (.tup [.agg [.int .i64 2,.int .i64 0,.str (qcc [])],.int .i64 0])))) .fail))) .fail) .fail) (.ite (iEq 10 10) (.ite (iEq 64 64) (.ite (qeu s) (.ite (pOk s) (.ite false (.ret (.tup [.agg [.int .i64 0,.int .i64 0,.str []],.int .i64
      10])) (.ite (iNe (qbr 1 (pVal s) []) 0) (.ret (.tup [.agg [.int .i64 0,.int .i64 0,.str []],.int .i64 10])) (.ite (sNe (qdJ 1 (pVal s) []) s) (.ret (.tup [.agg [.int .i64 0,.int .i64 0,.str []],.int .i64 10])) (.ret (.tup [.agg [.int .i64 1,.int .i64 (pVal s),.str []],.int .i64 0]))))) (.ite true (.ret (.tup [.agg [.int .i64 0,.int .i64 0,.str []],.int .i64 10])) (.ite (iNe (qbr 1 (pVal s) []) 0) (.ret (.tup [.agg [.int .i64 0,.int .i64 0,.str []],.int .i64 10])) (.ite (sNe (qdJ 1 (pVal s) []) s) (.ret (.tup [.agg [.int .i64 0,.int .i64 0,.str []],.int .i64 10])) (.ret (.tup [.agg [.int .i64 1,.int .i64 (pVal s),.str []],.int .i64 0])))))) .fail) .fail) .fail)) (.ite (iEq 10 10) (.ite (iEq 64 64) (.ite (qeu s) (.ite (pOk s) (.ite false (.ret (.tup [.agg [.int .i64 0,.int .i64 0,.str []],.int .i64 10])) (.ite (iNe (qbr 1 (pVal s) []) 0) (.ret (.tup [.agg [.int .i64 0,.int .i64 0,.str []],.int .i64 10])) (.ite (sNe (qdJ 1 (pVal s) []) s) (.ret (.tup [.agg [.int .i64 0,.int .i64 0,.str []],.int .i64 10])) (.ret (.tup [.agg [.int .i64 1,.int .i64 (pVal s),.str []],.int .i64 0]))))) (.ite true (.ret (.tup [.agg [.int .i64 0,.int .i64 0,.str []],.int .i64 10])) (.ite (iNe (qbr 1 (pVal s) []) 0) (.ret (.tup [.agg [.int .i64 0,.int .i64 0,.str []],.int .i64 10])) (.ite (sNe (qdJ 1 (pVal s) []) s) (.ret (.tup [.agg [.int .i64 0,.int .i64 0,.str []],.int .i64 10])) (.ret (.tup [.agg [.int .i64 1,.int .i64 (pVal s),.str []],.int .i64 0])))))) .fail) .fail)
      .fail)) (.ite (iEq 10 10) (.ite (iEq 64 64) (.ite (qeu s) (.ite (pOk s) (.ite false (.ret (.tup [.agg [.int .i64 0,.int .i64 0,.str []],.int .i64 10])) (.ite (iNe (qbr 1 (pVal s) []) 0) (.ret (.tup [.agg [.int .i64 0,.int .i64 0,.str []],.int .i64 10])) (.ite (sNe (qdJ 1 (pVal s) []) s) (.ret (.tup [.agg [.int .i64 0,.int .i64 0,.str []],.int .i64 10])) (.ret (.tup [.agg [.int .i64 1,.int .i64 (pVal s),.str []],.int .i64 0]))))) (.ite true (.ret (.tup [.agg [.int .i64 0,.int .i64 0,.str []],.int .i64 10])) (.ite (iNe (qbr 1 (pVal s) []) 0) (.ret (.tup [.agg [.int .i64 0,.int .i64 0,.str []],.int .i64 10])) (.ite (sNe (qdJ 1 (pVal s) []) s) (.ret (.tup [.agg [.int .i64 0,.int .i64 0,.str []],.int .i64 10])) (.ret (.tup [.agg [.int .i64 1,.int .i64 (pVal s),.str []],.int .i64 0])))))) .fail) .fail) .fail)) (by kernel_rfl) ?_
    have hl : s.length ≤ 140737488355328 := by simpa using h1
    cases h2
    have h48 : qeu s = true := by simp [qeu]; omega
    have int : (Tr.ite (iEq 10 10) (Tr.ite (iEq 64 64) (Tr.ite (qeu s) (Tr.ite (pOk s)
              (Tr.ite false (Tr.ret (PV.tup [PV.agg [PV.int IntKind.i64 0, PV.int IntKind.i64 0, PV.str []], PV.int IntKind.i64 10]))
                (Tr.ite (iNe (qbr 1 (pVal s) []) 0) (Tr.ret (PV.tup [PV.agg [PV.int IntKind.i64 0, PV.int IntKind.i64 0, PV.str []], PV.int IntKind.i64 10]))
                  (Tr.ite (sNe (qdJ 1 (pVal s) []) s) (Tr.ret (PV.tup [PV.agg [PV.int IntKind.i64 0, PV.int IntKind.i64 0, PV.str []], PV.int IntKind.i64 10]))
                    (Tr.ret (PV.tup [PV.agg [PV.int IntKind.i64 1, PV.int IntKind.i64 (pVal s), PV.str []], PV.int IntKind.i64 0])))))
              (Tr.ite true (Tr.ret (PV.tup [PV.agg [PV.int IntKind.i64 0, PV.int IntKind.i64 0, PV.str []], PV.int IntKind.i64 10]))
                (Tr.ite (iNe (qbr 1 (pVal s) []) 0) (Tr.ret (PV.tup [PV.agg [PV.int IntKind.i64 0, PV.int IntKind.i64 0, PV.str []], PV.int IntKind.i64 10]))
                  (Tr.ite (sNe (qdJ 1 (pVal s) []) s) (Tr.ret (PV.tup [PV.agg [PV.int IntKind.i64 0, PV.int IntKind.i64 0, PV.str []], PV.int IntKind.i64 10]))
                    (Tr.ret (PV.tup [PV.agg [PV.int IntKind.i64 1, PV.int IntKind.i64 (pVal s), PV.str []], PV.int IntKind.i64 0])))))) Tr.fail) Tr.fail) Tr.fail).run =
        some (if pOk s then (if qbr 1 (pVal s) [] = 0 ∧ qdJ 1 (pVal s) [] = s then .tup [.agg [.int .i64 1, .int .i64 (pVal s), .str []], .int .i64 0] else .tup [.agg [.int .i64 0, .int .i64 0, .str []], .int .i64 10]) else .tup [.agg [.int .i64 0, .int .i64 0, .str []], .int .i64 10]) := by
      cases hp : pOk s with
      | false => simp [h48]
      | true =>
        by_cases hc : qbr 1 (pVal s) [] = 0 <;> by_cases ht : qdJ 1 (pVal s) [] = s <;> simp [h48, hc, ht]
    have fin : ∀ o : Option (Int × Int × List UInt8), rdV s = o → PV.tup [.agg [.int .i64 (kRd s), .int .i64 (nRd s), .str (sRd s)], .int .i64 (eRd s)] = match o with | some v => .tup [.agg [.int .i64 v.1, .int .i64 v.2.1, .str v.2.2], .int .i64 0] | none => .tup [.agg [.int .i64 0, .int .i64 0, .str []], .int .i64 10] := by
      intro o ho
      unfold kRd nRd sRd eRd
      rw [ho]
      cases o <;> rfl
    by_cases hq : qdd s [34] = true ∧ qwu s [34] = true ∧ 2 ≤ s.length
    · obtain ⟨p1, p2, p3⟩ := hq
      have e1 : sSub s (nNat 1) (nNat (iSub .i64 (sLen s) 1)) = (s.take (s.length - 1)).drop 1 := by
        have : iSub .i64 (sLen s) 1 = s.length - 1 := by unfold iSub; rw [qrr, qcY (by omega)]
        rw [this]
        simp
        try (congr 2; omega)
      have e2 : qbd (qas 1) (qas (iSub .i64 (sLen s) 1)) (nNat 1) (nNat (iSub .i64 (sLen s) 1)) (nLen s) = true := by
        have : iSub .i64 (sLen s) 1 = s.length - 1 := by unfold iSub; rw [qrr, qcY (by omega)]
        rw [this]
        simp
        omega
      have e3 : iLe 2 (sLen s) = true := by simp; omega
      rw [e1, p1, p2, e2, e3]
      have e4 : qsg ((s.take (s.length - 1)).drop 1) = true := by simp; omega
      generalize hm : (s.take (s.length - 1)).drop 1 = m at *
      rw [e4]
      cases hd : decP m with
      | none =>
        have h5 : qqU m = false := by simp [qqU, hd]
        have := fin none (by unfold rdV; rw [if_pos ⟨p1, p2, p3⟩, hm, hd])
        rw [this]
        simp [h5]
      | some b =>
        have h5 : qqU m = true := by simp [qqU, hd]
        have h6 : decV m = b := by simp [decV, hd]
        rw [h6]
        by_cases hc : qbr 2 0 b = 0 ∧ qdJ 2 0 b = s
        · have := fin (some (2, 0, b)) (by unfold rdV; rw [if_pos ⟨p1, p2, p3⟩, hm, hd]; simp only []; rw [if_pos hc])
          rw [this]
          simp [h5, hc]
        · have := fin none (by unfold rdV; rw [if_pos ⟨p1, p2, p3⟩, hm, hd]; simp only []; rw [if_neg hc])
          rw [this]
          by_cases hc1 : qbr 2 0 b = 0
          · have hc2 : ¬ qdJ 2 0 b = s := fun h => hc ⟨hc1, h⟩
            simp [h5, hc1, hc2]
          · simp [h5, hc1]
    · have e9 : rdV s = if pOk s then (if qbr 1 (pVal s) [] = 0 ∧ qdJ 1 (pVal s) [] = s then some (1, pVal s, []) else none) else none := by
        unfold rdV
        rw [if_neg hq]
      have e8 : PV.tup [.agg [.int .i64 (kRd s), .int .i64 (nRd s), .str (sRd s)], .int .i64 (eRd s)] = (if pOk s then (if qbr 1 (pVal s) [] = 0 ∧ qdJ 1 (pVal s) [] = s then .tup [.agg [.int .i64 1, .int .i64 (pVal s), .str []], .int .i64 0] else .tup [.agg [.int .i64 0, .int .i64 0, .str []], .int .i64 10]) else .tup [.agg [.int .i64 0, .int .i64 0, .str []], .int .i64 10]) := by
        rw [fin _ e9]
        by_cases c1 : pOk s = true
        · by_cases c2 : qbr 1 (pVal s) [] = 0 ∧ qdJ 1 (pVal s) [] = s
          · simp only [c1, if_true, if_pos c2]
          · simp only [c1, if_true, if_neg c2]
        · simp only [if_neg c1]
      rw [e8, ← int]
      cases p1 : qdd s [34] with
      | false => simp
      | true =>
        cases p2 : qwu s [34] with
        | false => simp
        | true =>
          have e3 : iLe 2 (sLen s) = false := by simp; have : ¬ 2 ≤ s.length := fun h => hq ⟨p1, p2, h⟩; omega
          rw [e3]
          simp
  · cases h
end Go.Pv
set_option linter.unusedSimpArgs false
set_option linter.unusedVariables false
namespace Go.Pv
open Go.RowKit
def qi9 (s:Nat):Option Code:=if s=2 then some .ret else if 3≤s then some (.exit (s - 3)) else none
def exOf (s:Nat):PExit:=if s=2 then .ret else if 3≤s then .exit (s - 3) else .normal
def stOf:PExit→Nat
 |.normal=>0
 |.ret=>2
 |.exit id=>3+id
 |.pan _=>1
def okEx:PExit→Bool
 |.pan _=>false
 |_=>true
def isNo:PExit→Bool
 |.normal=>true
 |_=>false
def recS (r:Loop) (s:Nat):Obj:=.loop { r with state:=if s=0 then .ready else if s=1 then .busy else .done,pending:=qi9 s }
def glR (gl:Gl) (e:Nat) (r:Loop) (fr:List PV):Gl:=⟨gl.v,fun e' s=>if e'=e then recS r s else gl.lp e' s,fun e'=>if e'=e then fr else gl.fr e'⟩
def puts (fr:List PV):List Tmp→List PV→List PV
 |p::ps,x::xs=>puts (fr.set p x) ps xs
 |_,_=>fr
section
variable {gl : Gl} {H : Gh} {σ : Store} {w w' : World}
theorem qwU:∀ (ps:List Tmp) (xs:List PV) (vs:List Value) (fr:List PV) (tmps:Array Value),RelL H w fr tmps.toList→RelL H w xs vs→RelL H w (puts fr ps xs) ((ps.zip vs).foldl (fun t p=>t.setIfInBounds p.1 p.2) tmps).toList
 |[],xs,vs,fr,tmps,h,hx=>by cases hx<;>simpa [puts] using h
 |p::ps,[],vs,fr,tmps,h,hx=>by cases hx;simpa [puts] using h
 |p::ps,x::xs,vs,fr,tmps,h,hx=>by
  cases hx with
  |cons _ v _ vs hv hvs =>
   simp only [puts,List.zip_cons_cons,List.foldl_cons];exact qwU ps xs vs _ _ (by simpa using h.set p hv) hvs
theorem qHe {ps:Array Tmp} {xs:List PV} {vs:List Value} {fr:List PV} {tmps:Array Value} (h:RelL H w fr tmps.toList) (hx:RelL H w xs vs):RelL H w (puts fr ps.toList xs) ((ps.zip vs.toArray).foldl (fun t (p,v)=>t.setIfInBounds p v) tmps).toList:=by
 have:=qwU ps.toList xs vs fr tmps h hx;have e:(ps.zip vs.toArray).foldl (fun t (p,v)=>t.setIfInBounds p v) tmps=(ps.toList.zip vs).foldl (fun t p=>t.setIfInBounds p.1 p.2) tmps:=by
  rw [← Array.foldl_toList,Array.toList_zip]
 rw [e];exact this
theorem Ok.lp {gl':Gl} (h:Ok gl H σ w) (hv:gl'.v=gl.v) (hl:∀ (t:Nat) (T:Tok),H.tk[t]?=some T→T.k=0→gl'.lp T.e=gl.lp T.e∧gl'.fr T.e=gl.fr T.e):Ok gl' H σ w :=
 ⟨h.B,fun b o e=>h.gl b o (by rw [← hv];exact e),h.len,(fun id b cs e1 e2=>⟨by show gl'.v b=none;rw [hv];exact (h.obj id b cs e1 e2).1,(h.obj id b cs e1 e2).2⟩),h.nd,h.tkl,fun t T e hvv=>by
  obtain⟨h1,h2,o,he,ho⟩:=h.tok t T e hvv;refine⟨h1,h2,o,he,?_⟩;rcases ho with ho|⟨hk,q1,r,q2,q3,q4,q5,q6⟩
  ·exact .inl ho
  ·obtain⟨l1,l2⟩:=hl t T e hk;refine .inr ⟨hk,by rw [l1];exact q1,r,q2,by rw [l2];exact q3,?_,q5,?_⟩
   ·intro n hn;rw [l2];exact q4 n hn
   ·intro m hm;rw [l2];exact q6 m hm,h.tnd,h.tyl,h.ty⟩
theorem Dr.lp {gl':Gl} {w w':World} (h:Dr gl w w') (hv:gl'.v=gl.v):Dr gl' w w':=fun hg=>h (fun b=>by rw [← hv];exact hg b)
theorem Ev.lp {gl':Gl} {H':Gh} (h:Ev gl H w H' w') (hv:gl'.v=gl.v):Ev gl' H w H' w' :=
 ⟨h.B,h.base,h.aux,h.K,h.os,h.tape,h.output,h.size,h.ob,h.tok,h.prot,h.block,h.dr.lp hv,h.fix,h.old,h.obn⟩
theorem qFQ (h:Ok gl H σ w) {t:Nat} {T:Tok} (ht:H.tk[t]?=some T) (hk:T.k=0) {s':Nat} {r':Loop} (hr:gl.lp T.e s'=.loop r') (hframe:RelL H w (gl.fr T.e) r'.tmps.toList) :
  Ev gl H w { H with tk:=H.tk.set t { T with ver:=s' } } (w.putObj T.blk (.loop r'))∧Ok gl { H with tk:=H.tk.set t { T with ver:=s' } } { σ with toks:=σ.toks.set t (s',0,T.e) } (w.putObj T.blk (.loop r')):=by
 have htl:t < H.tk.length:=(List.getElem?_eq_some_iff.1 ht).1;have hnv:¬ T.vir:=fun hh=>hh.2 hk
 obtain⟨hB,hob,o,ho,hT⟩:=h.tok t T ht hnv;obtain⟨r0,ho0,hp0,hc0,hd0⟩:∃ r,o=.loop r∧(∀ n,T.cap≤n→qbc n (gl.fr T.e)=gl.fr T.e)∧T.cap≤H.ob.length∧(∀ m,t≤m→qbl m (gl.fr T.e)=gl.fr T.e):=by
  rcases hT with⟨h1,_⟩|⟨_,_,r,h3,_,h5,h6,h7⟩
  ·exact absurd hk h1
  ·exact⟨r,h3,h5,h6,h7⟩
 subst ho0;have hlt:=qal ho;have hsz:(w.putObj T.blk (.loop r')).heap.size=w.heap.size:=qbs ..;have hcase:∀ (u:Nat) (U:Tok),(H.tk.set t { T with ver:=s' })[u]?=some U→(u=t∧U={ T with ver:=s' })∨(u≠t∧H.tk[u]?=some U):=by
  intro u U hu;by_cases hut:u=t
  ·subst hut;rw [List.getElem?_set_self htl] at hu;exact .inl ⟨rfl,(Option.some.inj hu).symm⟩
  ·rw [List.getElem?_set_ne (fun e=>hut e.symm)] at hu
   exact .inr ⟨hut,hu⟩
 have hne:∀ b off,H.prot w b off→b≠T.blk:=fun b off hp e=>by
  have:=hp.2.2.2 T (List.mem_of_getElem? ht) hnv e.symm;rw [hk] at this;omega
 have hcell:∀ b off s,b≠T.blk→(w.putObj T.blk (.loop r')).cell? ⟨b,off,s⟩=w.cell? ⟨b,off,s⟩:=fun b off s e=>World.cell?_of_block (a:=⟨b,off,s⟩) (World.putObj_heap_other e)
 have ev:Ev gl H w { H with tk:=H.tk.set t { T with ver:=s' } } (w.putObj T.blk (.loop r')):=by
  refine⟨rfl,rfl,rfl,rfl,rfl,rfl,rfl,by rw [hsz];exact Nat.le_refl _,fun _ _ h=>h,fun u U hu=>?_,fun b off hp=>?_,fun b hb _=>World.putObj_heap_other (by omega),.of_eq rfl,fun b ds hb=>(World.putObj_heap_other (fun e=>by subst e;rw [ho] at hb;cases hb)).trans hb,fun u U hu hk'=>?_,fun _ hb=>.inl hb⟩
  ·by_cases hut:u=t
   ·subst hut;rw [ht] at hu;cases hu
    exact⟨{ T with ver:=s' },List.getElem?_set_self htl,fun e=>absurd hk e,fun _=>⟨hk,rfl,rfl,rfl⟩⟩
   ·exact⟨U,by show (H.tk.set t _)[u]?=some U;rw [List.getElem?_set_ne (fun e=>hut e.symm)];exact hu,.refl U⟩
  ·refine⟨⟨by rw [hsz];exact hp.1,hp.2.1,hp.2.2.1,fun U hU hvU hbk=>?_⟩,fun s=>hcell b off s (hne b off hp)⟩
   obtain⟨u,hu⟩:=List.mem_iff_getElem?.1 hU;rcases hcase u U hu with⟨_,rfl⟩|⟨_,hu⟩
   ·exact absurd hbk.symm (hne b off hp)
   ·exact hp.2.2.2 U (List.mem_of_getElem? hu) hvU hbk
  ·rcases hcase u U hu with⟨rfl,rfl⟩|⟨_,hu⟩
   ·exact⟨T,ht,hk⟩
   ·exact⟨U,hu,hk'⟩
 refine⟨ev,⟨by rw [hsz];exact h.B,fun b o' eg=>⟨(h.gl b o' eg).1,(World.putObj_heap_other (by have:=(h.gl b o' eg).1;omega)).trans (h.gl b o' eg).2⟩,h.len,fun id b cs e1 e2=>?_,h.nd,?_,fun u U hu hvU=>?_,fun u v U V hu hv hvU hvV hbk=>?_,h.tyl,fun id b T0 cs e1 e2 e3 hTT=>?_⟩⟩
 ·obtain⟨h1,vs,ext,T0,he,hr⟩:=h.obj id b cs e1 e2;exact⟨h1,vs,ext,T0,(World.putObj_heap_other (fun e=>by subst e;rw [ho] at he;cases he)).trans he,hr.mono ev.mono⟩
 ·show (H.tk.set t _).map _=σ.toks.set t _
  rw [List.map_set,h.tkl,hk]
 ·rcases hcase u U hu with⟨rfl,rfl⟩|⟨hut,hu'⟩
  ·exact⟨hB,hob,_,World.putObj_heap_same hlt,.inr ⟨hk,hr.symm,r',rfl,hframe.mono ev.mono,hp0,hc0,hd0⟩⟩
  ·obtain⟨g1,g2,o',g3,g4⟩:=h.tok u U hu' hvU;exact⟨g1,g2,o',(World.putObj_heap_other (fun e=>hut (h.tnd u t U T hu' ht hvU hnv e))).trans g3,g4.mono ev.mono⟩
 ·rcases hcase u U hu with⟨h1,rfl⟩|⟨h1,hu'⟩<;>rcases hcase v V hv with⟨h2,rfl⟩|⟨h2,hv'⟩
  ·rw [h1,h2]
  ·exact absurd (h.tnd v t V T hv' ht hvV hnv hbk.symm) h2
  ·exact absurd (h.tnd u t U T hu' ht hvU hnv hbk) h1
  ·exact h.tnd u v U V hu' hv' hvU hvV hbk
 ·obtain⟨us,he,hs⟩:=h.ty id b T0 cs e1 e2 e3 hTT;exact⟨us,(World.putObj_heap_other (fun e=>by subst e;rw [ho] at he;cases he)).trans he,hs⟩
end
theorem qM4 {P:Program} {gl:Gl} {e:Nat} {r:Loop} (hlp:gl.lp e=recS r) {Y:Nat→List PV→Store→Option (PV×Store)}
  (hY:∀ t args σ x σ',Y t args σ=some (x,σ')→∃ fr1 σ1 ex fr2 σ2,args.length=r.params.size∧Does P gl r.assign (puts (gl.fr e) r.params.toList args) σ .normal fr1 σ1∧σ1.toks[t]?=some (0,0,e) ∧
   Does P gl r.body fr1 { σ1 with toks:=σ1.toks.set t (1,0,e) } ex fr2 σ2∧σ2.toks[t]?=some (1,0,e)∧okEx ex=true∧x=.bool (isNo ex)∧σ'={ σ2 with toks:=σ2.toks.set t (stOf ex,0,e) }):qnV P gl qdl (.yld e Y):=by
 intro t args σ x σ' h0 hy H w vs T hok hrel hT;obtain⟨fr1,σ1,ex,fr2,σ2,hlen,hd1,ht1,hd2,ht2,hokx,rfl,rfl⟩:=hY t args σ x σ' hy
 -- what a token of such a state is
 have look:∀ {H1:Gh} {w1:World} {τ:Store} {T1:Tok} {s:Nat},Ok gl H1 τ w1→τ.toks[t]?=some (s,0,e)→H1.tk[t]?=some T1→T1.ver=s∧T1.k=0∧T1.e=e∧w1.heap[T1.blk]?=some (recS r s)∧RelL H1 w1 (gl.fr e) r.tmps.toList:=by
  intro H1 w1 τ T1 s hk1 hs hT1;have e1:(T1.ver,T1.k,T1.e)=(s,0,e):=by
   rw [← hk1.tkl,List.getElem?_map,hT1] at hs;simpa using hs
  simp only [Prod.mk.injEq] at e1;obtain⟨a1,a2,a3⟩:=e1;obtain⟨_,_,o,ho,hTO⟩:=hk1.tok t T1 hT1 (fun hh=>hh.2 (by assumption))
  rcases hTO with⟨b1,_⟩|⟨_,b2,r1,b3,b4,_⟩
  ·exact absurd a2 b1
  ·rw [a1,a3,hlp] at b2;rw [b2] at ho b3;refine⟨a1,a2,a3,ho,?_⟩;rw [a3] at b4;unfold recS at b3;cases b3
   exact b4
 obtain⟨v0,k0,ee0,hl0,hf0⟩:=look hok h0 hT;have hsz:vs.toArray.size=r.params.size:=by rw [← hlen,hrel.len];simp
 have hrun:=run_yield (P:=P) (args:=vs.toArray) hl0 hsz;refine⟨_,_,_,_,hrun,?_⟩;have hRin:RIn (some T.blk) { H with K:=(w.heap.size,[]) }:=fun l hl=>by cases hl;exact⟨t,T,hT,k0,rfl⟩
 refine roundIn_of_wpIn (F:=Fence.wide) (n:=0) (l:=T.blk) trivial ?_;have hst0:St gl { H with K:=(w.heap.size,[]) } w (puts (gl.fr e) r.params.toList args) σ { tmps:=(r.params.zip vs.toArray).foldl (fun t (p,v)=>t.setIfInBounds p v) r.tmps,defers:=[] } w :=
  ⟨_,Ev.refl _ w,hok.setK _,(qHe hf0 hrel).mono (Mono.setK' H w _),Marks.nil (Nat.le_refl _)⟩
 refine hd1 (some T.blk) 0 _ w hRin _ _ w hst0 fun a1 w1 hst1=>?_
 obtain⟨H1,hev1,hok1,hfr1,hm1⟩:=hst1;obtain⟨T1,hT1,hu1⟩:=hev1.tok t T hT;obtain⟨_,hblk1,_,_⟩:=hu1.lp k0;obtain⟨v1,k1,ee1,hl1,hf1⟩:=look hok1 ht1 hT1;rw [hblk1] at hl1;have hbr:=run_beginRound (P:=P) hl1 rfl;refine⟨_,hbr,?_⟩;have hs1:=qFQ (s':=1) (r':={ r with state:=.busy,pending:=qi9 1 }) hok1 hT1 k1 (by rw [ee1,hlp];rfl) (by rw [ee1];exact hf1)
 rw [ee1,hblk1] at hs1;obtain⟨hev2,hok2⟩:=hs1;have hst2:St gl { H with K:=(w.heap.size,[]) } w fr1 { σ1 with toks:=σ1.toks.set t (1,0,e) } a1 (w1.putObj T.blk (.loop { r with state:=.busy,pending:=qi9 1 })):=⟨_,hev1.trans hev2,hok2,hfr1.mono hev2.mono,hm1.ev hev2⟩
 refine hd2 (some T.blk) 0 _ w hRin _ _ _ hst2 fun a3 w3 hst3=>?_
 obtain⟨H3,hev3,hok3,hfr3,hm3⟩:=hst3;obtain⟨T3,hT3,hu3⟩:=hev3.tok t T hT;obtain⟨_,hblk3,_,_⟩:=hu3.lp k0;obtain⟨v3,k3,ee3,hl3,hf3⟩:=look hok3 ht2 hT3;rw [hblk3] at hl3
 -- the round's end
 have fin:∀ (jump:Option Code) (s:Nat),recS r s=.loop { r with state:=if jump.isNone then .ready else .done,pending:=jump }→∀ b:Bool,jump.isNone=b →
   ∃ v w',(Instr.endRound T.blk jump).run P w3=.ok v w'∧∃ v',(Ending.returned v)=.returned v'∧Post gl H w (.bool b) { σ2 with toks:=σ2.toks.set t (s,0,e) } v' w':=by
  intro jump s hs b hb;subst hb;have hr:=run_endRound (P:=P) jump hl3;refine⟨_,_,hr,_,rfl,?_⟩;have hs4:=qFQ (s':=s) (r':={ r with state:=if jump.isNone then .ready else .done,pending:=jump }) hok3 hT3 k3 (by rw [ee3,hlp];exact hs) (by rw [ee3];exact hf3)
  rw [ee3,hblk3] at hs4;obtain⟨hev4,hok4⟩:=hs4;exact⟨_,(hev3.trans hev4).setK,hok4.setK _,.bool _⟩
 cases ex with
 |pan x=>cases hokx
 |normal=>exact fin none 0 rfl true rfl
 |ret=>exact fin (some .ret) 2 rfl false rfl
 |exit id =>
  refine fin (some (.exit id)) (3+id) ?_ false rfl;have h1:¬ (3+id=0):=by omega
  have h2:¬ (3+id=1):=by omega
  have h3:¬ (3+id=2):=by omega
  have h4:3≤3+id:=by omega
  simp only [recS,qi9,h1,h2,h3,h4,if_true,if_false,Nat.add_sub_cancel_left];rfl
section
variable {gl : Gl} {H : Gh} {σ : Store} {w w' : World}
theorem qLM (h:Ok gl H σ w) {e s:Nat} {r:Loop} (he:gl.lp e s=.loop r) (hfr:RelL H w (gl.fr e) r.tmps.toList) (hp:∀ n,H.ob.length≤n→qbc n (gl.fr e)=gl.fr e) (ht:∀ m,H.tk.length≤m→qbl m (gl.fr e)=gl.fr e) :
  Mono H w { H with tk:=H.tk++[⟨w.heap.size,s,H.ob.length,0,e⟩] } (w.alloc (.loop r))∧Ok gl { H with tk:=H.tk++[⟨w.heap.size,s,H.ob.length,0,e⟩] } { σ with toks:=σ.toks++[(s,0,e)] } (w.alloc (.loop r)) ∧
   (H.tk++[(⟨w.heap.size,s,H.ob.length,0,e⟩:Tok)])[σ.toks.length]?=some ⟨w.heap.size,s,H.ob.length,0,e⟩:=by
 have hb:=qaQ w (.loop r);have hlen:H.tk.length=σ.toks.length:=by rw [← h.tkl];simp
 have hcase:∀ (t:Nat) (T:Tok),(H.tk++[(⟨w.heap.size,s,H.ob.length,0,e⟩:Tok)])[t]?=some T→H.tk[t]?=some T∨(t=H.tk.length∧T=⟨w.heap.size,s,H.ob.length,0,e⟩):=by
  intro t T ht;by_cases htl:t < H.tk.length
  ·rw [List.getElem?_append_left htl] at ht;exact .inl ht
  ·have hlt:=(List.getElem?_eq_some_iff.1 ht).1;have:t=H.tk.length:=by simp at hlt;omega
   subst this;rw [List.getElem?_append_right (Nat.le_refl _)] at ht;simp at ht;exact .inr ⟨rfl,ht.symm⟩
 have hprot:∀ b off,H.prot w b off→({ H with tk:=H.tk++[⟨w.heap.size,s,H.ob.length,0,e⟩] }:Gh).prot (w.alloc (.loop r)) b off:=fun b off hp=>by
  refine⟨Nat.lt_of_lt_of_le hp.1 hb.size,hp.2.1,hp.2.2.1,fun T hT hvv hbk=>?_⟩
  rcases List.mem_append.1 hT with hT|hT
  ·exact hp.2.2.2 T hT hvv hbk
  ·simp at hT;subst hT;have:=hp.1;simp at hbk;omega
 have mo:Mono H w { H with tk:=H.tk++[⟨w.heap.size,s,H.ob.length,0,e⟩] } (w.alloc (.loop r)):=by
  refine⟨fun _ _ h=>h,fun t T ht=>?_,fun b off hp=>⟨hprot b off hp,fun s=>hb.cell (p:=⟨b,off,s⟩) hp.1⟩,fun b off hp=>?_⟩
  ·refine⟨T,?_,.refl T⟩;show (H.tk++[_])[t]?=some T
   rw [List.getElem?_append_left (List.getElem?_eq_some_iff.1 ht).1];exact ht
  ·rcases hp with hp|hp
   ·exact⟨.inl (hprot b off hp),fun s=>hb.cell (p:=⟨b,off,s⟩) hp.1⟩
   ·exact⟨.inr hp,fun s=>hb.cell (p:=⟨b,off,s⟩) (Nat.lt_of_lt_of_le hp.1 h.B)⟩
 refine⟨mo,⟨Nat.le_trans h.B hb.size,fun b o eg=>⟨(h.gl b o eg).1,(hb.block b (qal (h.gl b o eg).2)).trans (h.gl b o eg).2⟩,h.len,fun id b cs e1 e2=>?_,h.nd,by simp [h.tkl],fun t T ht' hvv=>?_,fun t u T U ht hu hvT hvU hbk=>?_,h.tyl,fun id b T' c1 e1 e2 e3 hTT=>?_⟩,?_⟩
 ·obtain⟨hB,vs,ext,T,he,hr⟩:=h.obj id b cs e1 e2;exact⟨hB,vs,ext,T,(hb.block b (qal he)).trans he,hr.mono mo⟩
 ·rcases hcase t T ht' with ht'|⟨rfl,rfl⟩
  ·obtain⟨hB,ho,o,he,hr⟩:=h.tok t T ht' hvv;exact⟨hB,ho,o,(hb.block _ (qal he)).trans he,hr.mono mo⟩
  ·exact⟨h.B,fun hm=>Nat.lt_irrefl _ (h.ob_at hm).2,_,heap_alloc_new w _,.inr ⟨rfl,he.symm,r,rfl,hfr.mono mo,hp,Nat.le_refl _,ht⟩⟩
 ·rcases hcase t T ht with ht|⟨h1,rfl⟩<;>rcases hcase u U hu with hu|⟨h2,rfl⟩
  ·exact h.tnd t u T U ht hu hvT hvU hbk
  ·have:=(h.tk_at (List.mem_of_getElem? ht) hvT).2;simp at hbk;omega
  ·have:=(h.tk_at (List.mem_of_getElem? hu) hvU).2;simp at hbk;omega
  ·rw [h1,h2]
 ·obtain⟨us,he,hs⟩:=h.ty id b T' c1 e1 e2 e3 hTT;exact⟨us,(hb.block b (qal he)).trans he,hs⟩
 ·rw [← hlen,List.getElem?_append_right (Nat.le_refl _)];simp
theorem qx0 {D:Nat} {r r':Loop} (hd:w.heap[D]?=some (.loop r)):Mono H w H (w.putObj D (.loop r')):=by
 have hs:(w.putObj D (.loop r')).heap.size=w.heap.size:=qbs ..;have hlt:=qal hd;have hc:∀ b off s,(w.putObj D (.loop r')).cell? ⟨b,off,s⟩=w.cell? ⟨b,off,s⟩:=fun b off s=>by
  by_cases e:b=D
  ·subst e;simp only [World.cell?,World.putObj_heap_same hlt,hd]
  ·exact World.cell?_of_block (a:=⟨b,off,s⟩) (World.putObj_heap_other e)
 refine⟨fun _ _ h=>h,fun t T h=>⟨T,h,.refl T⟩,fun b off hp=>⟨⟨by rw [hs];exact hp.1,hp.2⟩,hc b off⟩,fun b off hp=>⟨?_,hc b off⟩⟩
 rcases hp with hp|hp
 ·exact .inl ⟨by rw [hs];exact hp.1,hp.2⟩
 ·exact .inr hp
theorem qJR {D:Nat} {r r':Loop} (h:Ok gl H σ w) (hB:H.B≤D) (hd:w.heap[D]?=some (.loop r)) (hn:∀ (t:Nat) (T:Tok),H.tk[t]?=some T→¬ T.vir→T.blk≠D):Ok gl H σ (w.putObj D (.loop r')) where
 B:=by rw [qbs];exact h.B
 gl:=fun b o e=>⟨(h.gl b o e).1,(World.putObj_heap_other (by have:=(h.gl b o e).1;omega)).trans (h.gl b o e).2⟩
 len:=h.len
 obj:=fun id b cs e1 e2=>by
  obtain⟨h1,vs,ext,T,he,hr⟩:=h.obj id b cs e1 e2;have hne:b≠D:=fun e=>by subst e;rw [he] at hd;cases hd
  exact⟨h1,vs,ext,T,(World.putObj_heap_other hne).trans he,hr.mono (qx0 hd)⟩
 nd:=h.nd
 tkl:=h.tkl
 tok:=fun t T e hvv=>by
  obtain⟨h1,h2,o,he,ho⟩:=h.tok t T e hvv;exact⟨h1,h2,o,(World.putObj_heap_other (hn t T e hvv)).trans he,ho.mono (qx0 hd)⟩
 tnd:=h.tnd
 tyl:=h.tyl
 ty:=fun id b T cs e1 e2 e3 hT=>by
  obtain⟨us,he,hs⟩:=h.ty id b T cs e1 e2 e3 hT;have hne:b≠D:=fun e=>by subst e;rw [he] at hd;cases hd
  exact⟨us,(World.putObj_heap_other hne).trans he,hs⟩
end
theorem qC8 {P:Program} {gl:Gl} {g:Operand} {ps:Array Tmp} {assign body:Code} {fr:List PV} {σ:Store} {gf:FuncId} {caps:List PV} (hg:ev fr g=.fn gf caps) (eid:Nat)
  (hent : ∃ fn, P.funcs[gf]? = some fn ∧ (fn.name == "runtime.NumGoroutine") = false ∧ fn.body.isNone = false)
  {Y:Nat→List PV→Store→Option (PV×Store)} {D:List PV→Store→Option (PV×Store)}
  (hfresh:∀ (i v k e:Nat),σ.toks[i]?=some (v,k,e)→k=0→e≠eid) (hpd:∀ n,σ.objs.length≤n→qbc n fr=fr) (htd:∀ m,σ.toks.length≤m→qbl m fr=fr)
  (hI:∀ gl':Gl,gl'.v=gl.v→qnV P gl' qdl (.yld eid Y)→SimS P gl' gf D)
  (hY:∀ gl':Gl,gl'.v=gl.v→∀ t args σ x σ',Y t args σ=some (x,σ')→∃ fr1 σ1 ex fr2 σ2,args.length=ps.size∧Does P gl' assign (puts fr ps.toList args) σ .normal fr1 σ1∧σ1.toks[t]?=some (0,0,eid) ∧
   Does P gl' body fr1 { σ1 with toks:=σ1.toks.set t (1,0,eid) } ex fr2 σ2∧σ2.toks[t]?=some (1,0,eid)∧okEx ex=true∧x=.bool (isNo ex)∧σ'={ σ2 with toks:=σ2.toks.set t (stOf ex,0,eid) })
  {x:PV} {σ2:Store} {s:Nat} (hD:D (.yld σ.toks.length::caps) { σ with toks:=σ.toks++[(0,0,eid)] }=some (x,σ2)) (hs:σ2.toks[σ.toks.length]?=some (s,0,eid)) (hs1:s≠1) :
  Does P gl (.rangeFunc g ps assign body) fr σ (exOf s) fr (qdk σ.toks.length σ2):=by
 intro r n H0 w0 hR Q a w hst hq;obtain⟨H,hev,hok,hfr,hmk⟩:=hst;have hHt:H.tk.length=σ.toks.length:=by rw [← hok.tkl];simp
 have hrg:=qaz hfr g;rw [hg] at hrg;generalize hv:a.eval g=gv at hrg;cases hrg with
 |fn _ _ lb hcaps =>
 refine wpIn_rangeFunc ?_;intro fn hfn
 -- entering: the record;at an outermost loop the block of the rounds' deferred calls
 obtain⟨mark,W0,rec,hent',hb0,hdr0,hrecf,hmark⟩:∃ (mark:List Deferred) (W0:World) (rec:Loop),(Instr.enterLoop fn a.tmps ps assign body (rnd r).round).run P w=.ok (W0.heap.size,mark) (W0.alloc (.loop rec)) ∧
   Below w.heap.size w W0∧W0.drawn=w.drawn∧(rec.state=.ready∧rec.pending=none∧rec.tmps=a.tmps∧rec.params=ps∧rec.assign=assign∧rec.body=body)∧Marks H.K (mark++a.defers) W0:=by
  cases r with
  |none =>
   refine⟨[{ target:=.collected w.heap.size,args:=#[] }],w.alloc (.deferred (some [])),{ state:=.ready,pending:=none,fn,tmps:=a.tmps,params:=ps,assign,body,defers:=w.heap.size },?_,qaQ w _,rfl,⟨rfl,rfl,rfl,rfl,rfl,rfl⟩,?_⟩
   ·have:=run_enterLoop_outer (P:=P) (w:=w) fn a.tmps ps assign body;rw [show w.heap.size+1=(w.alloc (.deferred (some []))).heap.size from by simp] at this
    exact this
   ·obtain⟨k1,Ds,k2,k3,k4⟩:=hmk;refine⟨Nat.le_trans k1 (by simp),w.heap.size::Ds,by rw [k2];rfl,List.nodup_cons.2 ⟨fun hm=>?_,k3⟩,fun D' hD'=>?_⟩
    ·have:=qal (k4 _ hm).2;omega
    ·cases hD' with
     |head=>exact⟨k1,World.alloc_heap_new w _⟩
     |tail _ hD'=>exact⟨(k4 D' hD').1,((qaQ w _).block D' (qal (k4 D' hD').2)).trans (k4 D' hD').2⟩
  |some l0 =>
   obtain⟨t0,T0,ht0,hk0,rfl⟩:=hR.ev hev l0 rfl;obtain⟨_,_,o,ho,hTO⟩:=hok.tok t0 T0 ht0 (fun hh=>hh.2 hk0)
   obtain⟨r0,rfl⟩:∃ r0,o=.loop r0:=by
    rcases hTO with⟨h1,_⟩|⟨_,_,r0,h3,_⟩
    ·exact absurd hk0 h1
    ·exact⟨r0,h3⟩
   exact⟨[],w,{ state:=.ready,pending:=none,fn,tmps:=a.tmps,params:=ps,assign,body,defers:=r0.defers },run_enterLoop_inner ho fn a.tmps ps assign body,Below.refl _ w,rfl,⟨rfl,rfl,rfl,rfl,rfl,rfl⟩,hmk⟩
 obtain⟨q1,q2,q3,q4,q5,q6⟩:=hrecf
 -- the world with the record
 obtain⟨gl',hgl'⟩:∃ gl',gl'=glR gl eid rec fr:=⟨_,rfl⟩;have hgv:gl'.v=gl.v:=by rw [hgl'];rfl
 have hglp:gl'.lp eid=recS rec:=by rw [hgl'];simp [glR]
 have hgfr:gl'.fr eid=fr:=by rw [hgl'];simp [glR]
 have hother:∀ e,e≠eid→gl'.lp e=gl.lp e∧gl'.fr e=gl.fr e:=fun e he=>by rw [hgl'];constructor<;>simp [glR,he]
 have hfreshT:∀ (t:Nat) (T:Tok),H.tk[t]?=some T→T.k=0→T.e≠eid:=fun t T hT hk=>by
  refine hfresh t T.ver T.k T.e ?_ hk;rw [← hok.tkl,List.getElem?_map,hT];rfl
 have hok0:Ok gl' H σ W0:=(hok.of_below hb0).lp hgv fun t T hT hk=>hother T.e (hfreshT t T hT hk)
 have hm0:Mono H w H W0:=Mono.of_below hok.B hb0;have hrs:gl'.lp eid 0=.loop rec:=by
  rw [hglp];unfold recS qi9;simp only [if_true];rw [← q1,if_neg (by omega:¬ (0=2)),if_neg (by omega:¬ (3≤0)),← q2]
 obtain⟨hm1,hok1,hT1⟩:=qLM (e:=eid) (s:=0) hok0 hrs (by rw [hgfr,q3];exact hfr.mono hm0) (by rw [hgfr];intro n hn;exact hpd n (by rw [← hok.len];exact hn)) (by rw [hgfr];intro m hm;exact htd m (by rw [← hHt];exact hm))
 obtain⟨T,hT⟩:∃ T:Tok,T=⟨W0.heap.size,0,H.ob.length,0,eid⟩:=⟨_,rfl⟩;obtain⟨H1,hH1⟩:∃ H1:Gh,H1={ H with tk:=H.tk++[T] }:=⟨_,rfl⟩
 rw [← hT] at hm1 hok1 hT1;rw [← hH1] at hm1 hok1;obtain⟨W1,hW1⟩:∃ W1,W1=W0.alloc (.loop rec):=⟨_,rfl⟩;rw [← hW1] at hm1 hok1;have hb1:Below w.heap.size w W1:=by rw [hW1];exact hb0.alloc hb0.size _
 -- the call
 have hcon:qnV P gl' qdl (.yld eid Y):=qM4 (r:=rec) hglp (by rw [hgfr,q4,q5,q6];exact hY gl' hgv)
 have hS:=hI gl' hgv hcon;have hyr:Rel H1 W1 (.yld σ.toks.length) (.func (.yield W0.heap.size) #[] #[]):=by
  have:=Rel.yld (H:=H1) (w:=W1) σ.toks.length T (by rw [hH1];exact hT1) (by rw [hT])
  rw [show T.blk=W0.heap.size from by rw [hT]] at this
  exact this
 have hcall:=hS.run _ _ _ _ hD H1 W1 (.func (.yield W0.heap.size) #[] #[]::lb) hok1 (.cons _ _ _ _ hyr (hcaps.mono (hm0.trans hm1)));obtain⟨gfn,hgf,hgn,hgb⟩:=hent;refine⟨W0.heap.size,mark,W1,{ target:=.fn (.func gf) lb.toArray,args:=#[.func (.yield W0.heap.size) #[] #[]] },W1,gf,(.func (.yield W0.heap.size) #[] #[]::lb).toArray,W1,by rw [hW1];exact hent',?_,fun _ _=>trivial,?_,(fun h=>by cases h),?_⟩
 ·simp only [resolve,hv];simp [go_sem]
 ·have e1:(#[(Value.func (.yield W0.heap.size) #[] #[])]:Array Value)++lb.toArray=(Value.func (.yield W0.heap.size) #[] #[]::lb).toArray:=by
   apply Array.ext';simp
  simp only [invoke,callFunc,Sem.run_bind,run_program,Result.andThen_ok,hgf,hgn,hgb,Bool.false_eq_true,if_false,Sem.run_pure,e1]
 ·refine CallsIn.mono (qjZ hcall) ?_;rintro e w3 ⟨v,rfl,H2,hevI,hok2,hv2⟩
  -- behind the function
  have hsz2:σ2.toks.length=H2.tk.length:=by rw [← hok2.tkl];simp
  obtain⟨T2,hT2,hu2⟩:=hevI.tok σ.toks.length T (by rw [hH1];exact hT1)
  obtain⟨k2,blk2,ee2,cap2⟩:=hu2.lp (by rw [hT])
  have ev2:T2.ver=s∧T2.e=eid:=by
   have:(T2.ver,T2.k,T2.e)=(s,0,eid):=by
    rw [← hok2.tkl,List.getElem?_map,hT2] at hs;simpa using hs
   simp only [Prod.mk.injEq] at this;exact⟨this.1,this.2.2⟩
  have blk2':T2.blk=W0.heap.size:=by rw [blk2,hT]
  have hT2nv:¬ T2.vir:=fun hh=>hh.2 k2
  obtain⟨hB2,_,o2,ho2,hTO2⟩:=hok2.tok _ T2 hT2 hT2nv;have hl2:w3.heap[W0.heap.size]?=some (recS rec s):=by
   rcases hTO2 with⟨h1,_⟩|⟨_,h2,_⟩
   ·exact absurd k2 h1
   ·rw [ev2.1,ev2.2,hglp] at h2;rw [← blk2',ho2,h2]
  rw [blk2'] at hB2;have hBl:H.B≤W0.heap.size:=by rw [hevI.B,hH1] at hB2;exact hB2
  have hend:=run_endLoop (P:=P) (w:=w3) (l:=W0.heap.size) (r:={ rec with state:=if s=0 then .ready else if s=1 then .busy else .done,pending:=qi9 s }) hl2 (by
   by_cases h0:s=0
   ·simp [h0]
   ·simp [h0,hs1])
  obtain⟨rx,hrx⟩:∃ rx:Loop,rx={ rec with state:=.exhausted,pending:=qi9 s }:=⟨_,rfl⟩
  obtain⟨w4,hw4⟩:∃ w4,w4=w3.putObj W0.heap.size (.loop rx):=⟨_,rfl⟩;have hend':(Instr.endLoop W0.heap.size).run P w3=.ok (qi9 s) w4:=by rw [hw4,hrx];exact hend
  -- the record is forgotten
  have hsz4:w4.heap.size=w3.heap.size:=by rw [hw4];exact qbs ..
  have hle1:w.heap.size≤W0.heap.size:=hb0.size;have hoth:∀ b,b≠W0.heap.size→w4.heap[b]?=w3.heap[b]?:=fun b hb=>by rw [hw4];exact World.putObj_heap_other hb
  have hH1t:∀ u,u < σ.toks.length→H1.tk[u]?=H.tk[u]?:=fun u hu=>by
   rw [hH1];show (H.tk++[T])[u]?=H.tk[u]?
   rw [List.getElem?_append_left (by omega)]
  have htrim:∀ u U,(H2.trim σ.toks.length).tk[u]?=some U→u < σ.toks.length∧H2.tk[u]?=some U:=fun u U hu=>qbP hu
  have hokt:=qzu (m:=σ.toks.length) hok2;have hnb:∀ (u:Nat) (U:Tok),(H2.trim σ.toks.length).tk[u]?=some U→¬ U.vir→U.blk≠W0.heap.size:=fun u U hu hvU e=>by
   obtain⟨h1,h2⟩:=htrim u U hu;have:=hok2.tnd u σ.toks.length U T2 h2 hT2 hvU hT2nv (by rw [e,blk2'])
   omega
  have hok4:Ok gl' (H2.trim σ.toks.length) (qdk σ.toks.length σ2) w4:=by
   rw [hw4];exact qJR hokt (by show H2.B≤_;rw [hevI.B,hH1];exact hBl) hl2 hnb
  have hold:∀ (u:Nat) (U:Tok),(H2.trim σ.toks.length).tk[u]?=some U→U.k=0→∃ U0,H.tk[u]?=some U0∧U0.k=0∧U.e=U0.e:=fun u U hu hk=>by
   obtain⟨h1,h2⟩:=htrim u U hu;obtain⟨U0,g1,g2⟩:=hevI.old u U h2 hk;obtain⟨U1,g3,g4⟩:=hevI.tok u U0 g1;rw [h2] at g3;cases g3
   rw [hH1t u h1] at g1;exact⟨U0,g1,g2,(g4.lp g2).2.2.1⟩
  have hok5:Ok gl (H2.trim σ.toks.length) (qdk σ.toks.length σ2) w4:=hok4.lp hgv.symm fun u U hu hk=>by
   obtain⟨U0,g1,g2,g3⟩:=hold u U hu hk;have:=hother U.e (by rw [g3];exact hfreshT u U0 g1 g2)
   exact⟨this.1.symm,this.2.symm⟩
  have hev5:Ev gl H w (H2.trim σ.toks.length) w4:=by
   refine⟨hevI.B.trans (by rw [hH1]),hevI.base.trans (by rw [hH1]),hevI.aux.trans (by rw [hH1]),hevI.K.trans (by rw [hH1]),?_,?_,?_,?_,fun id b hb=>hevI.ob id b (by rw [hH1];exact hb),fun u U hu=>?_,fun b off hp=>?_,fun b hb hno=>?_,?_,fun b ds hb=>?_,fun u U hu hk=>?_,fun b hb=>(hevI.obn b hb).elim (fun hm=>.inl (by rw [hH1] at hm;exact hm)) (fun e=>.inr (by rw [hH1] at e;exact e))⟩
   ·rw [hw4];exact hevI.os.trans hb1.os
   ·rw [hw4];exact hevI.tape.trans hb1.tape
   ·rw [hw4];exact hevI.output.trans hb1.output
   ·rw [hsz4];exact Nat.le_trans hb1.size hevI.size
   ·have hlt:u < σ.toks.length:=by have:=(List.getElem?_eq_some_iff.1 hu).1;omega
    obtain⟨U',g1,g2⟩:=hevI.tok u U (by rw [hH1t u hlt];exact hu)
    exact⟨U',by simp only [Gh.trim];rw [List.getElem?_take,if_pos hlt];exact g1,g2⟩
   ·have hbne:b≠W0.heap.size:=fun e=>by have:=hp.1;omega
    obtain⟨p1,c1⟩:=(hm0.trans hm1).prot b off hp;obtain⟨p2,c2⟩:=hevI.prot b off p1;have p3:=qhx (m:=σ.toks.length) p2;exact⟨⟨by rw [hsz4];exact p3.1,p3.2⟩,fun s=>(World.cell?_of_block (a:=⟨b,off,s⟩) (hoth b hbne)).trans ((c2 s).trans (c1 s))⟩
   ·exact (hoth b (by omega)).trans ((hevI.block b (by rw [hH1];exact hb) (by rw [hH1];exact hno)).trans (hb1.block b (Nat.lt_of_lt_of_le hb hok.B)))
   ·intro hg;have h1:w.drawn≤W1.drawn:=by rw [hW1];show w.drawn≤W0.drawn;rw [hdr0];exact Nat.le_refl _
    have h2:=hevI.dr (fun b=>by rw [hgv];exact hg b)
    rw [hw4];exact Nat.le_trans h1 h2
   ·have hlt:=qal hb;exact (hoth b (by omega)).trans (hevI.fix b ds ((hb1.block b hlt).trans hb))
   ·obtain⟨U0,g1,g2,_⟩:=hold u U hu hk;exact⟨U0,g1,g2⟩
  have hmk5:Marks (H2.trim σ.toks.length).K (mark++a.defers) w4:=by
   obtain⟨m1,Ds,m2,m3,m4⟩:=hmark;refine⟨?_,Ds,by rw [hev5.K];exact m2,m3,fun D' hD'=>⟨?_,?_⟩⟩
   ·rw [hev5.K];exact Nat.le_trans m1 (by rw [hsz4];refine Nat.le_trans ?_ hevI.size;rw [hW1];simp)
   ·rw [hev5.K];exact (m4 D' hD').1
   ·have hlt:=qal (m4 D' hD').2;refine (hoth D' (by omega)).trans (hevI.fix D' _ ?_)
    rw [hW1];exact ((qaQ W0 _).block D' hlt).trans (m4 D' hD').2
  have hst5:St gl H0 w0 fr (qdk σ.toks.length σ2) { a with defers:=mark++a.defers } w4:=⟨_,hev.trans hev5,hok5,hfr.mono hev5.mono,hmk5⟩
  have hfin:=hq _ _ hst5;refine⟨qi9 s,w4,hend',?_⟩;unfold exOf at hfin;unfold qi9;by_cases h2:s=2
  ·simp only [h2,if_true] at hfin ⊢;exact wpIn_ret hfin
  ·by_cases h3:3≤s
   ·simp only [h2,h3,if_true,if_false] at hfin ⊢;exact wpIn_exit hfin
   ·simp only [h2,h3,if_false] at hfin ⊢;exact hfin
end Go.Pv
set_option linter.unusedSimpArgs false
set_option linter.unusedVariables false
namespace Go.Pv
open Go.RowKit Tr
mutual
def qmB (n m:Nat):PV→Bool
 |.ptr id _=>Nat.blt id n
 |.osl id _ _ _=>Nat.blt id n
 |.yld t=>Nat.blt t m
 |.sl _ _=>false
 |.ref cs=>qlV n m cs
 |.fn _ cs=>qlV n m cs
 |.mth _ cs=>qlV n m cs
 |.iface _ v=>qmB n m v
 |.agg cs=>qlV n m cs
 |.tup cs=>qlV n m cs
 |_=>true
def qlV (n m:Nat):List PV→Bool
 |[]=>true
 |x::xs=>qmB n m x&&qlV n m xs
end
mutual
theorem qAB {n m:Nat}:∀ {x:PV},qmB n m x=true→(∀ n',n≤n'→qbu n' x=x)∧∀ m',m≤m'→dropT m' x=x
 |.top,_=>⟨fun _ _=>rfl,fun _ _=>rfl⟩
 |.bool _,_=>⟨fun _ _=>rfl,fun _ _=>rfl⟩
 |.int _ _,_=>⟨fun _ _=>rfl,fun _ _=>rfl⟩
 |.str _,_=>⟨fun _ _=>rfl,fun _ _=>rfl⟩
 |.nilp,_=>⟨fun _ _=>rfl,fun _ _=>rfl⟩
 |.nilf,_=>⟨fun _ _=>rfl,fun _ _=>rfl⟩
 |.nili,_=>⟨fun _ _=>rfl,fun _ _=>rfl⟩
 |.ptr id off,h=>by
  have h:id < n:=by simpa [qmB] using h
  refine⟨fun n' hn=>?_,fun _ _=>rfl⟩
  simp only [qbu];rw [show decide (id < n')=true from by simp;omega]
  rfl
 |.osl id off len k,h=>by
  have h:id < n:=by simpa [qmB] using h
  refine⟨fun n' hn=>?_,fun _ _=>rfl⟩
  simp only [qbu];rw [show decide (id < n')=true from by simp;omega]
  rfl
 |.yld t,h=>by
  have h:t < m:=by simpa [qmB] using h
  refine⟨fun _ _=>rfl,fun m' hm=>?_⟩
  simp only [dropT];rw [show decide (t < m')=true from by simp;omega]
  rfl
 |.sl _ _,h=>by simp [qmB] at h
 |.ref cs,h=>by
  simp only [qmB] at h
  have:=qdP h;exact⟨fun n' hn=>by simp only [qbu];rw [this.1 n' hn],fun m' hm=>by simp only [dropT];rw [this.2 m' hm]⟩
 |.fn f cs,h=>by
  simp only [qmB] at h
  have:=qdP h;exact⟨fun n' hn=>by simp only [qbu];rw [this.1 n' hn],fun m' hm=>by simp only [dropT];rw [this.2 m' hm]⟩
 |.mth f cs,h=>by
  simp only [qmB] at h
  have:=qdP h;exact⟨fun n' hn=>by simp only [qbu];rw [this.1 n' hn],fun m' hm=>by simp only [dropT];rw [this.2 m' hm]⟩
 |.iface t v,h=>by
  simp only [qmB] at h
  have:=qAB h;exact⟨fun n' hn=>by simp only [qbu];rw [this.1 n' hn],fun m' hm=>by simp only [dropT];rw [this.2 m' hm]⟩
 |.agg cs,h=>by
  simp only [qmB] at h
  have:=qdP h;exact⟨fun n' hn=>by simp only [qbu];rw [this.1 n' hn],fun m' hm=>by simp only [dropT];rw [this.2 m' hm]⟩
 |.tup cs,h=>by
  simp only [qmB] at h
  have:=qdP h;exact⟨fun n' hn=>by simp only [qbu];rw [this.1 n' hn],fun m' hm=>by simp only [dropT];rw [this.2 m' hm]⟩
theorem qdP {n m:Nat}:∀ {xs:List PV},qlV n m xs=true→(∀ n',n≤n'→qbc n' xs=xs)∧∀ m',m≤m'→qbl m' xs=xs
 |[],_=>⟨fun _ _=>rfl,fun _ _=>rfl⟩
 |x::xs,h=>by
  simp only [qlV,Bool.and_eq_true] at h
  have h1:=qAB h.1;have h2:=qdP h.2;exact⟨fun n' hn=>by simp only [qbc];rw [h1.1 n' hn,h2.1 n' hn],fun m' hm=>by simp only [qbl];rw [h1.2 m' hm,h2.2 m' hm]⟩
end
def qJJ:PV→PV→Bool
 |.top,.top=>true
 |.nilp,.nilp=>true
 |.ptr a b,.ptr c d=>Nat.beq a c&&Nat.beq b d
 |_,_=>false
def qBS:List PV→List PV→Bool
 |[],[]=>true
 |x::xs,y::ys=>qJJ x y&&qBS xs ys
 |_,_=>false
theorem qIB:∀ {x y:PV},qJJ x y=true→x=y:=by
 intro x y h;unfold qJJ at h
 split at h
 ·rfl
 ·rfl
 ·simp only [Bool.and_eq_true] at h
  rw [Nat.eq_of_beq_eq_true h.1,Nat.eq_of_beq_eq_true h.2]
 ·cases h
theorem qw2:∀ {xs ys:List PV},qBS xs ys=true→xs=ys
 |[],[],_=>rfl
 |x::xs,y::ys,h=>by
  simp only [qBS,Bool.and_eq_true] at h
  rw [qIB h.1,qw2 h.2]
 |[],_::_,h=>by cases h
 |_::_,[],h=>by cases h
structure RI where
 nt:Nat
 ss:List Nat
 bs:List Nat
 vs:List PV
 ps:List Nat
 e:Nat
def RI.fr (I:RI):List PV:=Go.Pv.mk I.nt (I.bs.zip I.vs)
def qDd (k:Nat):Code→Option Code
 |.seq a b=>match qDd k a with
  |some c=>some c
  |none=>qDd k b
 |.cond _ a b=>match qDd k a with
  |some c=>some c
  |none=>qDd k b
 |.block _ c=>qDd k c
 |.rangeFunc g ps x y=>if rfid x y=k then some (.rangeFunc g ps x y) else none
 |_=>none
def rngC (fn:Func) (k:Nat):Code:=match fn.body with
 |some c=>(qDd k c).getD .skip
 |none=>.skip
def rngX:Code→Code
 |.rangeFunc _ _ x _=>x
 |_=>.skip
def rngY:Code→Code
 |.rangeFunc _ _ _ y=>y
 |_=>.skip
def rngG:Code→Operand
 |.rangeFunc g _ _ _=>g
 |_=>.tmp 0
def rngP:Code→Array Tmp
 |.rangeFunc _ ps _ _=>ps
 |_=>#[]
def rngO (c:Code):Code:=.rangeFunc (rngG c) (rngP c) (rngX c) (rngY c)
def qma (n:Nat) (σ:Store):Store:=if σ.objs.length≤n then σ else dropS n σ
def trimR (n m:Nat) (σ:Store):Store :=
 if (qma n σ).toks.length≤max m (qnJ (qma n σ).objs) then qma n σ else qdk (max m (qnJ (qma n σ).objs)) (qma n σ)
def qxR (tb:Tab) (G:GamT) (L:LpsT) (I:RI) (x y:Code) (t:Nat) (args:List PV) (σ:Store):Tr (Bool×Store) :=
 if args.length=I.ps.length then
  bind (texec tb G L x [] (puts I.fr I.ps args) σ) fun r=>match r.1 with
   |.normal=>match r.2.2.2.toks[t]? with
    |some (0,0,e)=>if e=I.e then
      bind (texec tb G L y [] r.2.2.1 { r.2.2.2 with toks:=r.2.2.2.toks.set t (1,0,I.e) }) fun q=>match q.2.2.2.toks[t]? with
       |some (1,0,e)=>if e=I.e then (match okEx q.1 with|true=>.ret (isNo q.1,{ q.2.2.2 with toks:=q.2.2.2.toks.set t (stOf q.1,0,I.e) })|false=>.fail) else .fail
       |_=>.fail
     else .fail
    |_=>.fail
   |_=>.fail
 else .fail
def rtree (tb:Tab) (G:GamT) (L:LpsT) (I:RI) (x y:Code) (t:Nat) (args:List PV) (σ:Store):Tr (PV×Store) :=
 bind (qxR tb G L I x y t args σ) fun r=>.ret (.bool r.1,trimR σ.objs.length σ.toks.length r.2)
def qA9 (e:Nat):List (Nat×Nat×TypeId)→Bool
 |[]=>true
 |(_,k,e')::l=>(!Nat.beq k 0 || !Nat.beq e' e)&&qA9 e l
theorem qxa {e:Nat}:∀ {l:List (Nat×Nat×TypeId)},qA9 e l=true→∀ (i v k e':Nat),l[i]?=some (v,k,e')→k=0→e'≠e
 |[],_,i,v,k,e',h,_=>by cases i<;>cases h
 |(v0,k0,e0)::l,h,i,v,k,e',hi,hk=>by
  simp only [qA9,Bool.and_eq_true] at h
  cases i with
  |zero =>
   cases hi
   subst hk;intro e1;subst e1;simp at h
  |succ i=>exact qxa h.2 i v k e' hi hk
def rorc (I:RI) (g:Operand) (gf:FuncId) (D:List PV→Store→Tr (PV×Store)) (fr:List PV) (σ:Store):Tr (PExit×List PV×Store) :=
 if fr.length=I.nt then
  match ev (mk I.nt (I.ss.zip (rsl I.ss fr))) g with
  |.fn f caps =>
   if f=gf then
    if qBS (rsl I.bs (mk I.nt (I.ss.zip (rsl I.ss fr)))) I.vs&&qA9 I.e σ.toks&&qlV σ.objs.length σ.toks.length (mk I.nt (I.ss.zip (rsl I.ss fr))) then
     bind (D (.yld σ.toks.length::caps) { σ with toks:=σ.toks++[(0,0,I.e)] }) fun r=>match r.2.toks[σ.toks.length]? with
      |some (s,0,e)=>if e=I.e then if s=1 then .fail else .ret (exOf s,mk I.nt (I.ss.zip (rsl I.ss fr)),qma σ.objs.length (qdk σ.toks.length r.2)) else .fail
      |_=>.fail
    else .fail
   else .fail
  |_=>.fail
 else .fail
theorem qeA {α β:Type} (f:α→β):∀ (t:Tr α),(bind t fun r=>.ret (f r)).run=t.run.map f
 |.ret a=>rfl
 |.fail=>rfl
 |.ite b x y=>by
  simp only [Tr.bind,Tr.run_ite];cases b<;>simp [qeA f x,qeA f y]
 |.get xs i z k=>by
  simp only [Tr.bind,Tr.run_get];cases xs[i]? with
  |none=>rfl
  |some cs=>exact qeA f (k cs)
section
variable {P : Program} {tb : Tab} {gl : Gl}
theorem Does.into {c:Code} {fr fr1:List PV} {σ:Store} {e:PExit} {fr':List PV} {σ':Store} (hw:Weak fr fr1) (h:Does P gl c fr1 σ e fr' σ'):Does P gl c fr σ e fr' σ' :=
 fun r n H0 w0 hR Q a w hst hq=>h r n H0 w0 hR Q a w (qug hw hst) hq
theorem qtp (l:List (Nat×PV)):∀ (n i:Nat),(qcC l n i).length=n
 |0,_=>rfl
 |n+1,i=>by simp [qcC,qtp l n (i+1)]
theorem qM7 (n:Nat) (l:List (Nat×PV)):(mk n l).length=n:=qtp l n 0
theorem Weak.set:∀ {xs ys:List PV} (i:Nat) (x:PV),Weak xs ys→Weak (xs.set i x) (ys.set i x)
 |[],[],_,_,_=>trivial
 |a::xs,b::ys,0,x,h=>⟨.inr rfl,h.2⟩
 |a::xs,b::ys,i+1,x,h=>⟨h.1,Weak.set i x h.2⟩
 |[],_::_,_,_,h=>by cases h
 |_::_,[],_,_,h=>by cases h
theorem Weak.puts:∀ (ps:List Tmp) (zs:List PV) {xs ys:List PV},Weak xs ys→Weak (puts xs ps zs) (puts ys ps zs)
 |[],_,_,_,h=>by simpa [Go.Pv.puts] using h
 |_::_,[],_,_,h=>by simpa [Go.Pv.puts] using h
 |p::ps,a::zs,xs,ys,h=>by
  simp only [Go.Pv.puts];exact Weak.puts ps zs (h.set p a)
theorem qFL {G:GamT} {L:LpsT} {I:RI} {x y:Code} (hT:qaE P tb) (hΓ:qam P gl (gam G)) (hm:P.follows .mixedOrders=true) (hLx:qaU P gl (lps L) x) (hLy:qaU P gl (lps L) y) (hdx:qax (gam G) x=true) (hdy:qax (gam G) y=true)
  {t:Nat} {args:List PV} {σ:Store} {b:Bool} {σ':Store} (h:(qxR tb G L I x y t args σ).run=some (b,σ')) {fr:List PV} (hw:Weak fr I.fr) :
  ∃ fr1 σ1 ex fr2 σ2,args.length=I.ps.length∧Does P gl x (puts fr I.ps args) σ .normal fr1 σ1∧σ1.toks[t]?=some (0,0,I.e) ∧
   Does P gl y fr1 { σ1 with toks:=σ1.toks.set t (1,0,I.e) } ex fr2 σ2∧σ2.toks[t]?=some (1,0,I.e)∧okEx ex=true∧b=isNo ex∧σ'={ σ2 with toks:=σ2.toks.set t (stOf ex,0,I.e) }:=by
 unfold qxR at h
 split at h
 ·rename_i hl;obtain⟨⟨e1,kn1,fr1,σ1⟩,h1,h2⟩:=bind_some h;have d1:=Does.into (Weak.puts I.ps args hw) (Does.of_tree hT hΓ hm hLx hdx h1);simp only at h2;cases e1 with
  |normal =>
   simp only at h2;split at h2
   ·rename_i e ht;split at h2
    ·rename_i hee;subst hee;obtain⟨⟨ex,kn2,fr2,σ2⟩,h3,h4⟩:=bind_some h2;have d2:=Does.of_tree hT hΓ hm hLy hdy h3;simp only at h4;split at h4
     ·rename_i e ht2;split at h4
      ·rename_i hee;split at h4
       ·rename_i hox;simp only [Tr.run_ret,Option.some.injEq,Prod.mk.injEq] at h4;refine⟨fr1,σ1,ex,fr2,_,hl,d1,ht,d2,?_,hox,h4.1.symm,h4.2.symm⟩;rw [ht2,hee]
       ·cases h4
      ·cases h4
     ·cases h4
    ·cases h2
   ·cases h2
  |exit j=>cases h2
  |ret=>cases h2
  |pan x=>cases h2
 ·cases h
theorem Post.dropS {H:Gh} {σ σ':Store} {w w':World} {b:Bool} {v:Value} {n:Nat} (hok:Ok gl H σ w) (hn:σ.objs.length≤n) (h:Post gl H w (.bool b) σ' v w'):Post gl H w (.bool b) (Go.Pv.dropS n σ') v w':=by
 obtain⟨H',hev,hok',hx⟩:=h;have hn':H.ob.length≤n:=by rw [hok.len];exact hn
 refine⟨H'.keep n,⟨hev.B,hev.base,hev.aux,hev.K,hev.os,hev.tape,hev.output,hev.size,fun id b hid=>?_,hev.tok,fun b off hp=>⟨qlR (hev.prot b off hp).1,(hev.prot b off hp).2⟩,hev.block,hev.dr,hev.fix,hev.old,fun b hb=>hev.obn b (List.mem_of_mem_take hb)⟩,qDv hok' (fun t T e hk=>?_),?_⟩
 ·simp only [Gh.keep];rw [List.getElem?_take,if_pos (Nat.lt_of_lt_of_le (List.getElem?_eq_some_iff.1 hid).1 hn')];exact hev.ob id b hid
 ·obtain⟨T0,e0,k0⟩:=hev.old t T e hk;obtain⟨T1,e1,u⟩:=hev.tok t T0 e0;rw [e] at e1;cases e1
  rw [(u.lp k0).2.2.2];obtain⟨_,_,o,_,ho⟩:=hok.tok t T0 e0 (fun hh=>hh.2 k0)
  rcases ho with⟨h1,_⟩|⟨_,_,r,_,_,_,h6,_⟩
  ·exact absurd k0 h1
  ·omega
 ·cases hx
  exact .bool b
theorem Post.dropT {H:Gh} {σ σ':Store} {w w':World} {b:Bool} {v:Value} {m:Nat} (hok:Ok gl H σ w) (hm:σ.toks.length≤m) (h:Post gl H w (.bool b) σ' v w'):Post gl H w (.bool b) (qdk m σ') v w':=by
 obtain⟨H',hev,hok',hx⟩:=h;have hl:H.tk.length≤m:=by
  have:=congrArg List.length hok.tkl;simp at this;omega
 refine⟨H'.trim m,⟨hev.B,hev.base,hev.aux,hev.K,hev.os,hev.tape,hev.output,hev.size,hev.ob,fun t T ht=>?_,fun b off hp=>⟨qhx (hev.prot b off hp).1,(hev.prot b off hp).2⟩,hev.block,hev.dr,hev.fix,fun t T e hk=>hev.old t T (qbP e).2 hk,hev.obn⟩,qzu hok',?_⟩
 ·obtain⟨T',h1,h2⟩:=hev.tok t T ht;refine⟨T',?_,h2⟩;simp only [Gh.trim];rw [List.getElem?_take,if_pos (Nat.lt_of_lt_of_le (List.getElem?_eq_some_iff.1 ht).1 hl)];exact h1
 ·cases hx
  exact .bool b
theorem Post.trimR {H:Gh} {σ σ':Store} {w w':World} {b:Bool} {v:Value} {n m:Nat} (hok:Ok gl H σ w) (hn:σ.objs.length≤n) (hm:σ.toks.length≤m) (h:Post gl H w (.bool b) σ' v w'):Post gl H w (.bool b) (Go.Pv.trimR n m σ') v w':=by
 have h1:Post gl H w (.bool b) (qma n σ') v w':=by
  unfold qma;split
  ·exact h
  ·exact h.dropS hok hn
 unfold Go.Pv.trimR;split
 ·exact h1
 ·exact h1.dropT hok (Nat.le_trans hm (Nat.le_max_left _ _))
theorem YCalls.mono {P:Program} {l:Nat} {args:Array Value} {w:World} {R R':Ending→World→Prop} (h:YCalls P l args w R) (hR:∀ e w',R e w'→R' e w'):YCalls P l args w R':=by
 obtain⟨f,tmps,assign,body,h1,h2⟩:=h;exact⟨f,tmps,assign,body,h1,h2.mono hR⟩
theorem qCH {e:Nat} {Y0:Nat→List PV→Store→Option (Bool×Store)} (h:qnV P gl qdl (.yld e fun t args σ=>(Y0 t args σ).map fun r=>(.bool r.1,r.2))) :
  qnV P gl qdl (.yld e fun t args σ=>(Y0 t args σ).map fun r=>(.bool r.1,trimR σ.objs.length σ.toks.length r.2)):=by
 intro t args σ x σ' ht hy H w vs T hok hr hT;obtain⟨r,hr0,he⟩:=Option.map_eq_some_iff.1 hy;simp only [Prod.mk.injEq] at he;obtain⟨rfl,rfl⟩:=he;refine YCalls.mono (h t args σ (.bool r.1) r.2 ht (by simp only [hr0,Option.map_some]) H w vs T hok hr hT) ?_
 rintro e w' ⟨v,rfl,hp⟩;exact⟨v,rfl,hp.trimR hok (Nat.le_refl _) (Nat.le_refl _)⟩
theorem qLV {G:GamT} {L:LpsT} {I:RI} {g:Operand} {ps:Array Tmp} {x y:Code} {gf:FuncId} {D:List PV→Store→Tr (PV×Store)} (hT:qaE P tb) (hΓ:∀ gl':Gl,gl'.v=gl.v→qam P gl' (gam G)) (hm:P.follows .mixedOrders=true)
  (hLx:∀ gl':Gl,gl'.v=gl.v→qaU P gl' (lps L) x) (hLy:∀ gl':Gl,gl'.v=gl.v→qaU P gl' (lps L) y) (hdx:qax (gam G) x=true) (hdy:qax (gam G) y=true) (hps:ps.toList=I.ps)
  (hent : ∃ fn, P.funcs[gf]? = some fn ∧ (fn.name == "runtime.NumGoroutine") = false ∧ fn.body.isNone = false)
  (hI:∀ gl':Gl,gl'.v=gl.v→qnV P gl' qdl (.yld I.e fun t args σ=>(rtree tb G L I x y t args σ).run)→SimS P gl' gf fun args σ=>(D args σ).run) :
  ∀ fr σ e fr' σ',(rorc I g gf D fr σ).run=some (e,fr',σ')→Does P gl (.rangeFunc g ps x y) fr σ e fr' σ':=by
 intro fr σ e fr' σ' h;unfold rorc at h
 split at h
 ·rename_i hn;have hw:=qgx fr I.ss;rw [hn] at hw;generalize hfr1:mk I.nt (I.ss.zip (rsl I.ss fr))=fr1 at h hw;have hl1:fr1.length=I.nt:=by rw [← hfr1];exact qM7 _ _
  split at h
  ·rename_i f caps hg;split at h
   ·rename_i hf;subst hf;split at h
    ·rename_i hk;simp only [Bool.and_eq_true] at hk;obtain⟨⟨hk1,hk2⟩,hk3⟩:=hk;obtain⟨⟨v,σ2⟩,h1,h2⟩:=bind_some h;have hkeep:=qdP hk3;simp only at h2;split at h2
     ·rename_i s e' hs;split at h2
      ·rename_i hee;subst hee;split at h2
       ·cases h2
       ·rename_i hs1;simp only [Tr.run_ret,Option.some.injEq,Prod.mk.injEq] at h2;obtain⟨rfl,rfl,rfl⟩:=h2;have hw2:Weak fr1 I.fr:=by
         have:=qgx fr1 I.bs;rw [hl1,qw2 hk1] at this;exact this
        have hd:=qC8 (P:=P) (gl:=gl) (g:=g) (ps:=ps) (assign:=x) (body:=y) (fr:=fr1) (σ:=σ) hg I.e hent (Y:=fun t args σ=>(qxR tb G L I x y t args σ).run.map fun r=>(.bool r.1,r.2)) (D:=fun args σ=>(D args σ).run)
         (qxa hk2) hkeep.1 hkeep.2 (fun gl' hv hc=>hI gl' hv (by
          have:=qCH (Y0:=fun t args σ=>(qxR tb G L I x y t args σ).run) hc
          simp only [rtree,qeA];exact this)) (fun gl' hv t args σ x' σ' hy=>by
          obtain⟨r,hr,he⟩:=Option.map_eq_some_iff.1 hy;simp only [Prod.mk.injEq] at he;obtain⟨rfl,rfl⟩:=he;obtain⟨q1,q2,q3,q4,q5,q6,q7,q8,q9,q10,q11⟩:=qFL hT (hΓ gl' hv) hm (hLx gl' hv) (hLy gl' hv) hdx hdy hr hw2;rw [hps];exact⟨q1,q2,q3,q4,q5,by rw [q6,← hps];simp,q7,q8,q9,q10,q11.1,by rw [q11.2.1],q11.2.2⟩) h1 hs hs1
        have hd2:=Does.into hw hd;unfold qma;split
        ·exact hd2
        ·have:=hd2.drop (n:=σ.objs.length) (Nat.le_refl _);rw [hkeep.1 _ (Nat.le_refl _)] at this;exact this
      ·cases h2
     ·cases h2
    ·cases h
   ·cases h
  ·cases h
 ·cases h
end
end Go.Pv
set_option maxHeartbeats 4000000
set_option maxRecDepth 200000
set_option linter.unusedSimpArgs false
set_option linter.unusedVariables false
namespace Go.Pv
open Go Go.Proofs Go.RowKit
def twosV:List (List UInt8):=[[58,45],[60,61],[62,61],[33,61]]
structure GlLex (gl:Gl):Prop extends GlOk gl where
 twos : VarIs gl "pedigree/lex.twos" (twosV.map fun l => Value.string ⟨l.toArray⟩).toArray
theorem GlPow.of_v {gl gl':Gl} (h:GlPow gl) (e:gl'.v=gl.v):GlPow gl':=by
 obtain⟨h⟩:=h;exact⟨by unfold VarIs at *;rw [e];exact h⟩
theorem GlOk.of_v {gl gl':Gl} (h:GlOk gl) (e:gl'.v=gl.v):GlOk gl':=by
 obtain⟨h1,h2,h3⟩:=h;exact⟨h1.of_v e,by unfold VarIs at *;rw [e];exact h2,by unfold VarIs at *;rw [e];exact h3⟩
theorem GlLex.of_v {gl gl':Gl} (h:GlLex gl) (e:gl'.v=gl.v):GlLex gl':=by
 obtain⟨h1,h2⟩:=h;exact⟨h1.of_v e,by unfold VarIs at *;rw [e];exact h2⟩
def qDN:List PV:=[.str [58,45],.str [60,61],.str [62,61],.str [33,61]]
theorem qEo : Tryz.prog.globalNamed "pedigree/lex.twos" = some 0 := by kernel_rfl
theorem qBT {gl:Gl} (h:GlLex gl):qnV Tryz.prog gl (qze+0) (.glob qDN):=by
 obtain⟨g,T,f,h1,h2⟩:=h.twos;rw [qEo] at h1;cases h1
 refine⟨_,T,f,by rw [Nat.add_sub_cancel_left];exact h2,fun H w=>?_⟩
 exact .cons _ _ _ _ (.str [58,45] (by decide)) (.cons _ _ _ _ (.str [60,61] (by decide)) (.cons _ _ _ _ (.str [62,61] (by decide)) (.cons _ _ _ _ (.str [33,61] (by decide)) .nil)))
theorem qGQ:maxLen≤9223372036854775807:=by decide
def idxV (s:qU) (c:Int):Int:=Lib.indexByte s c.toNat.toUInt8
theorem qnA (c:UInt8):∀ l:qU,Lib.indexByte l c≤l.length
 |[]=>by simp [Lib.indexByte]
 |b::l=>by
  have:=qnA c l;unfold Lib.indexByte;split
  ·simp only [List.length_cons];omega
  ·split<;>simp only [List.length_cons]<;>omega
def qf8:List PV→Tr PV
 |[.str s,.int .u8 c]=>.ret (.int .i64 (idxV s c))
 |_=>.fail
theorem qls (gl:Gl):SimP Tryz.prog gl 170 fun args=>(qf8 args).run:=by
 refine⟨⟨_,Tryz.func170,by rfl,by rfl⟩,?_⟩
 intro args x hx H w vs hB hob htk hw hrel;unfold qf8 at hx;split at hx
 ·rename_i s c;cases hx
  cases hrel with
  |cons _ v _ vs hv hvs =>
   cases hvs with
   |cons _ v2 _ vs hv2 hvs =>
    cases hvs
    cases hv with
    |str _ hl =>
     cases hv2
     refine (Tryz.strings_IndexByte ⟨s.toArray⟩ c w).mono ?_;rintro e w' ⟨rfl,rfl⟩;refine⟨_,rfl,⟨Below.refl _ _,Dr.of_eq rfl⟩,.int _ _ ?_⟩;have h1:=qnA c.toNat.toUInt8 s;have h2:=Lib.indexByte_ge s c.toNat.toUInt8;have:=qGQ;simp only [idxV];generalize Lib.indexByte s c.toNat.toUInt8=q at h1 h2 ⊢;simp [Lit.wf,IntKind.min,IntKind.max,IntKind.signed,IntKind.bits];omega
 ·cases hx
end Go.Pv
set_option maxHeartbeats 4000000
set_option maxRecDepth 200000
set_option linter.unusedSimpArgs false
set_option linter.unusedVariables false
namespace Go.Pv
open Go Go.Proofs Go.RowKit
end Go.Pv
set_option maxHeartbeats 4000000
set_option maxRecDepth 200000
set_option linter.unusedSimpArgs false
set_option linter.unusedVariables false
namespace Go.Pv
open Go Go.Proofs
end Go.Pv
set_option maxHeartbeats 4000000
set_option maxRecDepth 200000
set_option linter.unusedSimpArgs false
set_option linter.unusedVariables false
namespace Go.Pv
open Go Go.Proofs Go.RowKit
end Go.Pv
set_option maxHeartbeats 4000000
set_option maxRecDepth 200000
set_option linter.unusedSimpArgs false
set_option linter.unusedVariables false
namespace Go.Pv
open Go Go.Proofs Go.RowKit
end Go.Pv
set_option maxHeartbeats 4000000
set_option maxRecDepth 200000
set_option linter.unusedSimpArgs false
set_option linter.unusedVariables false
namespace Go.Pv
open Go Go.Proofs Go.RowKit
def hx1 (c:UInt8):UInt8:=UInt8.ofNat (sAt hexL (iShr .u8 c.toNat 4)).toNat
end Go.Pv
set_option maxHeartbeats 4000000
set_option maxRecDepth 200000
set_option linter.unusedSimpArgs false
set_option linter.unusedVariables false
namespace Go.Pv
open Go Go.Proofs Go.RowKit
def valid (v:Int×Int×List UInt8):Prop:=(v.1=1∧v.2.2=[]∧-9223372036854775808≤v.2.1∧v.2.1≤9223372036854775807)∨(v.1=2∧v.2.1=0∧v.2.2.length≤256)
end Go.Pv
