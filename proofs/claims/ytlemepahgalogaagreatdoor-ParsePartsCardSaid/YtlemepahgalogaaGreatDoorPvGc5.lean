/- Part 5 of the proof: pure values for the machine's values, what functions compute over them, and laws of what is computed. Conditions: none beyond each theorem's own premises. -/
import Derived.Test.YtlemepahgalogaaGreatDoorPvGc4
noncomputable section
set_option maxHeartbeats 4000000
set_option maxRecDepth 200000
set_option linter.unusedSimpArgs false
set_option linter.unusedVariables false
namespace Go.Pv
open Go Go.Proofs
def qFw:GamT:=ofL [(37,.pure qiH),(92,.may (frameT ql7))]
theorem qN3 (gl:Gl):qal Tryz.prog gl (gam qFw):=(qag (qfA gl) (qah (SimM.frameT (qmu gl)) qaf))
def qEn:Code:=qfZ Tryz.f145 3
def qEq:LI:=⟨29,[0,3,4],fun e=>match e with|.ret=>[2]|.exit 0=>[0]|_=>[],false⟩
def qBN:LpsT:=fun r fr σ=>.fail
def qhA (vs:List PV) (σ:Store):Option (PExit×List PV×Store):=lval (lstep tbT qFw qBN qEn qEq) vs σ
section
variable (ops:qR) (i:Int) (r:qR) (n n2:Int)
def qvq:Tr LR:=let z1:Store:=Store.mk [[.sl r .non,.int .i64 n,.int .i64 n2,.bool false,.int .i64 0]] [] [76];.ite (iLt i (xLen ops)) (.ite (qay i) (.ite (qbV [.str []] ops (nNat i)) (.ite (qbK (qad r) n n2 6 (xStr ops (nNat i) 0)) (.ite (qdh (qad r) n n2 6 (xStr ops (nNat i) 0)) (.ret (.out .ret [.int .i64 (iAdd .i64 i 1)] (Store.mk [[.sl r .non,.int .i64 (iAdd .i64 n 1),.int .i64 n2,.bool false,.int .i64 0]] [] [76]))) (.ret (.next [.ptr 0 0,.sl ops .full,.int .i64 (iAdd .i64 i 1)] z1))) .fail) .fail) .fail) (.ret (.out (.exit 0) [.ptr 0 0] z1))
theorem qVi:lstep tbT qFw qBN qEn qEq [.ptr 0 0,.sl ops .full,.int .i64 i] ⟨[[.sl r .non,.int .i64 n,.int .i64 n2,.bool false,.int .i64 0]],[],[76]⟩=qvq ops i r n n2:=by kernel_rfl
theorem qOi:qhA [.ptr 0 0,.sl ops .full,.int .i64 i] ⟨[[.sl r .non,.int .i64 n,.int .i64 n2,.bool false,.int .i64 0]],[],[76]⟩=lnext qhA (qvq ops i r n n2).run:=by unfold qhA;rw [qaQ,qVi]
end
section
variable (ops:qR) (i:Int) (r:qR) (n n2 n3:Int)
def qtg:Tr LR:=let z1:Store:=Store.mk [[.sl r .non,.int .i64 n,.int .i64 n2,.bool true,.int .i64 n3]] [] [76];.ite (iLt i (xLen ops)) (.ite (qay i) (.ite (qbV [.str []] ops (nNat i)) (.ite (qbb (qad r) n n2 n3 6 (xStr ops (nNat i) 0)) (.ite (qbH (qad r) n n2 n3 6 (xStr ops (nNat i) 0)) (.ret (.out .ret [.int .i64 (iAdd .i64 i 1)] (Store.mk [[.sl r .non,.int .i64 (iAdd .i64 n 1),.int .i64 n2,.bool true,.int .i64 n3]] [] [76]))) (.ret (.next [.ptr 0 0,.sl ops .full,.int .i64 (iAdd .i64 i 1)] z1))) .fail) .fail) .fail) (.ret (.out (.exit 0) [.ptr 0 0] z1))
theorem qR5:lstep tbT qFw qBN qEn qEq [.ptr 0 0,.sl ops .full,.int .i64 i] ⟨[[.sl r .non,.int .i64 n,.int .i64 n2,.bool true,.int .i64 n3]],[],[76]⟩=qtg ops i r n n2 n3:=by kernel_rfl
theorem qMW:qhA [.ptr 0 0,.sl ops .full,.int .i64 i] ⟨[[.sl r .non,.int .i64 n,.int .i64 n2,.bool true,.int .i64 n3]],[],[76]⟩=lnext qhA (qtg ops i r n n2 n3).run:=by unfold qhA;rw [qaQ,qR5]
end
section
variable (ops:qR) (i:Int) (r:qR) (n n2:Int)
def qvB:Option (PExit×List PV×Store):=qhA [.ptr 0 0,.sl ops .full,.int .i64 i] ⟨[[.sl r .non,.int .i64 n,.int .i64 n2,.bool false,.int .i64 0]],[],[76]⟩
def qtC:Int:=qjR 0 (qvB ops i r n n2)
def qqq:Int:=qcm 0 1 (qvB ops i r n n2)
def qCx:Bool:=isW (qvB ops i r n n2) (.ret,[.int .i64 (qtC ops i r n n2)],⟨[[.sl r .non,.int .i64 (qqq ops i r n n2),.int .i64 n2,.bool false,.int .i64 0]],[],[76]⟩)
def qsU:Int:=qcm 0 1 (qvB ops i r n n2)
def qA5:Bool:=isW (qvB ops i r n n2) ((.exit 0),[.ptr 0 0],⟨[[.sl r .non,.int .i64 (qsU ops i r n n2),.int .i64 n2,.bool false,.int .i64 0]],[],[76]⟩)
end
section
variable (ops:qR) (i:Int) (r:qR) (n n2 n3:Int)
def qqJ:Option (PExit×List PV×Store):=qhA [.ptr 0 0,.sl ops .full,.int .i64 i] ⟨[[.sl r .non,.int .i64 n,.int .i64 n2,.bool true,.int .i64 n3]],[],[76]⟩
def qqc:Int:=qjR 0 (qqJ ops i r n n2 n3)
def qlr:Int:=qcm 0 1 (qqJ ops i r n n2 n3)
def qvx:Bool:=isW (qqJ ops i r n n2 n3) (.ret,[.int .i64 (qqc ops i r n n2 n3)],⟨[[.sl r .non,.int .i64 (qlr ops i r n n2 n3),.int .i64 n2,.bool true,.int .i64 n3]],[],[76]⟩)
def qkE:Int:=qcm 0 1 (qqJ ops i r n n2 n3)
def qvP:Bool:=isW (qqJ ops i r n n2 n3) ((.exit 0),[.ptr 0 0],⟨[[.sl r .non,.int .i64 (qkE ops i r n n2 n3),.int .i64 n2,.bool true,.int .i64 n3]],[],[76]⟩)
end
def qqg:List PV→Store→Tr (PExit×List PV×Store)|[.ptr 0 0,.sl ops .full,.int .i64 i],⟨[[.sl r .non,.int .i64 n,.int .i64 n2,.bool false,.int .i64 0]],[],[76]⟩=>.ite (qCx ops i r n n2) (.ret (.ret,[.int .i64 (qtC ops i r n n2)],⟨[[.sl r .non,.int .i64 (qqq ops i r n n2),.int .i64 n2,.bool false,.int .i64 0]],[],[76]⟩)) (.ite (qA5 ops i r n n2) (.ret ((.exit 0),[.ptr 0 0],⟨[[.sl r .non,.int .i64 (qsU ops i r n n2),.int .i64 n2,.bool false,.int .i64 0]],[],[76]⟩)) (.fail))|[.ptr 0 0,.sl ops .full,.int .i64 i],⟨[[.sl r .non,.int .i64 n,.int .i64 n2,.bool true,.int .i64 n3]],[],[76]⟩=>.ite (qvx ops i r n n2 n3) (.ret (.ret,[.int .i64 (qqc ops i r n n2 n3)],⟨[[.sl r .non,.int .i64 (qlr ops i r n n2 n3),.int .i64 n2,.bool true,.int .i64 n3]],[],[76]⟩)) (.ite (qvP ops i r n n2 n3) (.ret ((.exit 0),[.ptr 0 0],⟨[[.sl r .non,.int .i64 (qkE ops i r n n2 n3),.int .i64 n2,.bool true,.int .i64 n3]],[],[76]⟩)) (.fail))|_,_=>.fail
theorem qUf:∀ vs σ r,(qqg vs σ).run=some r→qhA vs σ=some r:=by
 intro vs σ r h;unfold qqg at h
 split at h
 ·exact qae h fun h=>qae h fun h=>by cases h
 ·exact qae h fun h=>qae h fun h=>by cases h
 ·cases h
theorem qLG (gl:Gl):∀ fr σ e fr' σ',(orc qEq qqg fr σ).run=some (e,fr',σ')→LDoes Tryz.prog gl qEn fr σ e fr' σ':=qcB qaj (qN3 gl ) qai (L:=qBN) (qac (by kernel_rfl)) (by kernel_rfl) qUf
def qPt:LpsT:=fun r fr σ=>bif Nat.beq r 3 then orc qEq qqg fr σ else .fail
section
variable (r:qR) (i n:Int)
def qHT:Tr (PR×Store):=let z1:qR:=[[.str [61]],[.str [33,61]],[.str [60]],[.str [60,61]],[.str [62]],[.str [62,61]]];let z2:=qad r;let z3:=qad z2;let z4:=qsU z1 0 z2 i n;.ite (qCx z1 0 z2 i n) (.ret (PR.val (.int .i64 (qtC z1 0 z2 i n)),Store.mk [[.sl (qaa z2) .non,.int .i64 (qqq z1 0 z2 i n),.int .i64 n,.bool false,.int .i64 0]] [] [76])) (.ite (qA5 z1 0 z2 i n) (.ite (qe0 z3 z4 n) (.ret (PR.val (.int .i64 0),Store.mk [[.sl (qaa (qaa z3)) .non,.int .i64 (qeb z3 z4 n),.int .i64 n,.bool true,.int .i64 (qc3 z3 z4 n)]] [] [76])) (.ite (qe5 z3 z4 n) (.ret (PR.val (.int .i64 0),Store.mk [[.sl (qaa (qaa z3)) .non,.int .i64 (qea z3 z4 n),.int .i64 n,.bool false,.int .i64 0]] [] [76])) .fail)) .fail)
theorem qWE:(nrmM tbT qFw qPt Tryz.f145 [.ptr 0 0] ⟨[[.sl r .non,.int .i64 i,.int .i64 n,.bool false,.int .i64 0]],[],[76]⟩).flat=qHT r i n:=by kernel_rfl
def qvS:Option (PR×Store):=(qHT r i n).run
def quY:Int:=qN4 (qvS r i n)
def qtD:Int:=qbY 0 1 (qvS r i n)
def qFk:Bool:=isW (qvS r i n) ((.val (.int .i64 (quY r i n))),⟨[[.sl r .non,.int .i64 (qtD r i n),.int .i64 n,.bool false,.int .i64 0]],[],[76]⟩)
def qz4:Int:=qN4 (qvS r i n)
def qta:Int:=qbY 0 1 (qvS r i n)
def qtM:Int:=qbY 0 4 (qvS r i n)
def qGf:Bool:=isW (qvS r i n) ((.val (.int .i64 (qz4 r i n))),⟨[[.sl r .non,.int .i64 (qta r i n),.int .i64 n,.bool true,.int .i64 (qtM r i n)]],[],[76]⟩)
end
section
variable (r:qR) (i n a:Int)
def qF6:Tr (PR×Store):=let z1:qR:=[[.str [61]],[.str [33,61]],[.str [60]],[.str [60,61]],[.str [62]],[.str [62,61]]];let z2:=qad r;.ite (qvx z1 0 z2 i n a) (.ret (PR.val (.int .i64 (qqc z1 0 z2 i n a)),Store.mk [[.sl (qaa z2) .non,.int .i64 (qlr z1 0 z2 i n a),.int .i64 n,.bool true,.int .i64 a]] [] [76])) (.ite (qvP z1 0 z2 i n a) (.ite (qdM (qad z2) (qkE z1 0 z2 i n a) n a) (.ret (PR.val (.int .i64 0),Store.mk [[.sl (qaa (qaa (qad z2))) .non,.int .i64 (qf9 (qad z2) (qkE z1 0 z2 i n a) n a),.int .i64 n,.bool true,.int .i64 a]] [] [76])) .fail) .fail)
theorem qUW:(nrmM tbT qFw qPt Tryz.f145 [.ptr 0 0] ⟨[[.sl r .non,.int .i64 i,.int .i64 n,.bool true,.int .i64 a]],[],[76]⟩).flat=qF6 r i n a:=by kernel_rfl
def qCU:Option (PR×Store):=(qF6 r i n a).run
def qG8:Int:=qN4 (qCU r i n a)
def qy9:Int:=qbY 0 1 (qCU r i n a)
def qCc:Bool:=isW (qCU r i n a) ((.val (.int .i64 (qG8 r i n a))),⟨[[.sl r .non,.int .i64 (qy9 r i n a),.int .i64 n,.bool true,.int .i64 a]],[],[76]⟩)
end
def qSI:List PV→Store→Tr (PR×Store)|[.ptr 0 0],⟨[[.sl r .non,.int .i64 i,.int .i64 n,.bool false,.int .i64 0]],[],[76]⟩=>.ite (qFk r i n) (.ret ((.val (.int .i64 (quY r i n))),⟨[[.sl r .non,.int .i64 (qtD r i n),.int .i64 n,.bool false,.int .i64 0]],[],[76]⟩)) (.ite (qGf r i n) (.ret ((.val (.int .i64 (qz4 r i n))),⟨[[.sl r .non,.int .i64 (qta r i n),.int .i64 n,.bool true,.int .i64 (qtM r i n)]],[],[76]⟩)) (.fail))|[.ptr 0 0],⟨[[.sl r .non,.int .i64 i,.int .i64 n,.bool true,.int .i64 a]],[],[76]⟩=>.ite (qCc r i n a) (.ret ((.val (.int .i64 (qG8 r i n a))),⟨[[.sl r .non,.int .i64 (qy9 r i n a),.int .i64 n,.bool true,.int .i64 a]],[],[76]⟩)) (.fail)|_,_=>.fail
theorem qUy (gl:Gl):SimM Tryz.prog gl 145 fun args σ=>(qSI args σ).run:=by
 refine SimM.of_nrm (G:=qFw) (L:=qPt) qaj (qN3 gl ) qai Tryz.func145 rfl (by rfl) (by kernel_rfl) (qaD (L:=lps qPt) [(3,qEn)] (by kernel_rfl) (List.forall_mem_cons.2 ⟨fun fr σ e fr' σ' h=>qLG gl  fr σ e fr' σ' h,(List.forall_mem_nil _)⟩)) ?_
 intro args σ x h;unfold qSI at h
 split at h
 ·exact (congrArg Tr.run (qWE _ _ _)).trans (qae h fun h=>qae h fun h=>by cases h)
 ·exact (congrArg Tr.run (qUW _ _ _ _)).trans (qae h fun h=>by cases h)
 ·cases h
end Go.Pv
set_option maxHeartbeats 4000000
set_option maxRecDepth 200000
set_option linter.unusedSimpArgs false
set_option linter.unusedVariables false
namespace Go.Pv
open Go Go.Proofs
def qKZ:GamT:=ofL [(37,.pure qiH),(52,.may (frameT qxn)),(114,.may (frameT qA7)),(143,.pure qzJ),(145,.may (frameT qSI))]
theorem qOU (gl:Gl):qal Tryz.prog gl (gam qKZ):=(qag (qfA gl) (qah (SimM.frameT (qwE gl)) (qah (SimM.frameT (qDU gl)) (qag (qEt gl) (qah (SimM.frameT (qUy gl)) qaf)))))
def qQC:LpsT:=fun r fr σ=>.fail
section
variable (r:qR) (i n:Int)
def qgS:Tr (PR×Store):=let z1:=qad (qad r);let z2:=iAdd .i64 i 1;let z3:=qaa (qaa z1);let z4:=qad (qaa z1);let z5:=qfk z1 i n;let z6:=qe4 z1 i n;let z7:=qad (qaa z4);let z8:=qy9 z4 z5 n z6;let z9:=qaa (qaa z7);let z10:=qe6 z1 i n;let z11:=qtD z4 z10 n;let z12:=qie z1 i n;let z13:=qha z1 i n;let z14:=qfe z1 i n;let z15:=qfh z1 i n;let z16:=qfa z1 i n;let z17:=qta z4 z10 n;let z18:=qtM z4 z10 n;.ite (qbK z1 i n 1 [110,111,116]) (.ite (qdh z1 i n 1 [110,111,116]) (.ite (qhB z1 z2 n) (.ret (PR.val (.agg [.int .i64 2,.str (qf6 z1 z2 n),.sl (qaa (qaa (qfM z1 z2 n))) .non,.int .i64 0,.int .i64 0,.str [],.int .i64 0,.int .i64 0,.str [],.int .i64 0,.str [],.int .i64 0,.int .i64 0,.str []]),Store.mk [[.sl z3 .non,.int .i64 (qf2 z1 z2 n),.int .i64 n,.bool true,.int .i64 (qc8 z1 z2 n)]] [] [76])) (.ite (qhK z1 z2 n) (.ret (PR.val (.agg [.int .i64 2,.str (qei z1 z2 n),.sl (qaa (qaa (qen z1 z2 n))) .non,.int .i64 0,.int .i64 0,.str [],.int .i64 0,.int .i64 0,.str [],.int .i64 0,.str [],.int .i64 0,.int .i64 0,.str []]),Store.mk [[.sl z3 .non,.int .i64 (qfu z1 z2 n),.int .i64 n,.bool false,.int .i64 0]] [] [76])) .fail)) (.ite (qoO z1 i n) (.ite (qvA z1 i n) (.ite (qhB z1 i n) (.ret (PR.val (.agg [.int .i64 1,.str (qf6 z1 i n),.sl (qaa (qaa (qfM z1 i n))) .non,.int .i64 0,.int .i64 0,.str [],.int .i64 0,.int .i64 0,.str [],.int .i64 0,.str [],.int .i64 0,.int .i64 0,.str []]),Store.mk [[.sl z3 .non,.int .i64 (qf2 z1 i n),.int .i64 n,.bool true,.int .i64 (qc8 z1 i n)]] [] [76])) (.ite (qhK z1 i n) (.ret (PR.val (.agg [.int .i64 1,.str (qei z1 i n),.sl (qaa (qaa (qen z1 i n))) .non,.int .i64 0,.int .i64 0,.str [],.int .i64 0,.int .i64 0,.str [],.int .i64 0,.str [],.int .i64 0,.int .i64 0,.str []]),Store.mk [[.sl z3 .non,.int .i64 (qfu z1 i n),.int .i64 n,.bool false,.int .i64 0]] [] [76])) .fail)) (.ite (qkF z1 i n) (.ite (qCc z4 z5 n z6) (.ite (qh2 z7 z8 n z6) (.ret (PR.val (.agg [.int .i64 3,.str [],.sl [] .non,.int .i64 (qG8 z4 z5 n z6),.int .i64 (qhc z1 i n),.str (qhJ z1 i n),.int .i64 (qfi z1 i n),.int .i64 (qe3 z1 i n),.str (qfg z1 i n),.int .i64 (qlj z7 z8 n z6),.str (qlx z7 z8 n z6),.int .i64 (qh6 z7 z8 n z6),.int .i64 (qhL z7 z8 n z6),.str (qic z7 z8 n z6)]),Store.mk [[.sl z9 .non,.int .i64 (qhW z7 z8 n z6),.int .i64 n,.bool true,.int .i64 z6]] [] [76])) .fail) .fail) (.ite (qjW z1 i n) (.ite (qFk z4 z10 n) (.ite (qkF z7 z11 n) (.ret (PR.val (.agg [.int .i64 3,.str [],.sl [] .non,.int .i64 (quY z4 z10 n),.int .i64 z12,.str z13,.int .i64 z14,.int .i64 z15,.str z16,.int .i64 (qhc z7 z11 n),.str (qhJ z7 z11 n),.int .i64 (qfi z7 z11 n),.int .i64 (qe3 z7 z11 n),.str (qfg z7 z11 n)]),Store.mk [[.sl z9 .non,.int .i64 (qfk z7 z11 n),.int .i64 n,.bool true,.int .i64 (qe4 z7 z11 n)]] [] [76])) (.ite (qjW z7 z11 n) (.ret (PR.val (.agg [.int .i64 3,.str [],.sl [] .non,.int .i64 (quY z4 z10 n),.int .i64 z12,.str z13,.int .i64 z14,.int .i64 z15,.str z16,.int .i64 (qie z7 z11 n),.str (qha z7 z11 n),.int .i64 (qfe z7 z11 n),.int .i64 (qfh z7 z11 n),.str (qfa z7 z11 n)]),Store.mk [[.sl z9 .non,.int .i64 (qe6 z7 z11 n),.int .i64 n,.bool false,.int .i64 0]] [] [76])) .fail)) (.ite (qGf z4 z10 n) (.ite (qh2 z7 z17 n z18) (.ret (PR.val (.agg [.int .i64 3,.str [],.sl [] .non,.int .i64 (qz4 z4 z10 n),.int .i64 z12,.str z13,.int .i64 z14,.int .i64 z15,.str z16,.int .i64 (qlj z7 z17 n z18),.str (qlx z7 z17 n z18),.int .i64 (qh6 z7 z17 n z18),.int .i64 (qhL z7 z17 n z18),.str (qic z7 z17 n z18)]),Store.mk [[.sl z9 .non,.int .i64 (qhW z7 z17 n z18),.int .i64 n,.bool true,.int .i64 z18]] [] [76])) .fail) .fail)) .fail))) .fail)) .fail
theorem qVw:(nrmM tbT qKZ qQC Tryz.f95 [.ptr 0 0] ⟨[[.sl r .non,.int .i64 i,.int .i64 n,.bool false,.int .i64 0]],[],[76]⟩).flat=qgS r i n:=by kernel_rfl
def qa0:Option (PR×Store):=(qgS r i n).run
def qtP:Int:=qa7 0 (qa0 r i n)
def qsG:qU:=qbx 1 (qa0 r i n)
def qtV:qR:=qet 2 (qa0 r i n)
def qpM:Int:=qa7 3 (qa0 r i n)
def qqC:Int:=qa7 4 (qa0 r i n)
def qoI:qU:=qbx 5 (qa0 r i n)
def qpT:Int:=qa7 6 (qa0 r i n)
def qqo:Int:=qa7 7 (qa0 r i n)
def qoq:qU:=qbx 8 (qa0 r i n)
def qpV:Int:=qa7 9 (qa0 r i n)
def qp9:qU:=qbx 10 (qa0 r i n)
def qqw:Int:=qa7 11 (qa0 r i n)
def qpv:Int:=qa7 12 (qa0 r i n)
def qoU:qU:=qbx 13 (qa0 r i n)
def qpW:Int:=qbY 0 1 (qa0 r i n)
def qk4:Int:=qbY 0 4 (qa0 r i n)
def qzd:Bool:=isW (qa0 r i n) ((.val (.agg [.int .i64 (qtP r i n),.str (qsG r i n),.sl (qtV r i n) .non,.int .i64 (qpM r i n),.int .i64 (qqC r i n),.str (qoI r i n),.int .i64 (qpT r i n),.int .i64 (qqo r i n),.str (qoq r i n),.int .i64 (qpV r i n),.str (qp9 r i n),.int .i64 (qqw r i n),.int .i64 (qpv r i n),.str (qoU r i n)])),⟨[[.sl r .non,.int .i64 (qpW r i n),.int .i64 n,.bool true,.int .i64 (qk4 r i n)]],[],[76]⟩)
def qtE:Int:=qa7 0 (qa0 r i n)
def qsq:qU:=qbx 1 (qa0 r i n)
def qsp:qR:=qet 2 (qa0 r i n)
def qpw:Int:=qa7 3 (qa0 r i n)
def qoF:Int:=qa7 4 (qa0 r i n)
def qoo:qU:=qbx 5 (qa0 r i n)
def qpg:Int:=qa7 6 (qa0 r i n)
def qpx:Int:=qa7 7 (qa0 r i n)
def qpF:qU:=qbx 8 (qa0 r i n)
def qqk:Int:=qa7 9 (qa0 r i n)
def qou:qU:=qbx 10 (qa0 r i n)
def qpK:Int:=qa7 11 (qa0 r i n)
def qqy:Int:=qa7 12 (qa0 r i n)
def qph:qU:=qbx 13 (qa0 r i n)
def qpY:Int:=qbY 0 1 (qa0 r i n)
def qB2:Bool:=isW (qa0 r i n) ((.val (.agg [.int .i64 (qtE r i n),.str (qsq r i n),.sl (qsp r i n) .non,.int .i64 (qpw r i n),.int .i64 (qoF r i n),.str (qoo r i n),.int .i64 (qpg r i n),.int .i64 (qpx r i n),.str (qpF r i n),.int .i64 (qqk r i n),.str (qou r i n),.int .i64 (qpK r i n),.int .i64 (qqy r i n),.str (qph r i n)])),⟨[[.sl r .non,.int .i64 (qpY r i n),.int .i64 n,.bool false,.int .i64 0]],[],[76]⟩)
end
def qMF:List PV→Store→Tr (PR×Store)|[.ptr 0 0],⟨[[.sl r .non,.int .i64 i,.int .i64 n,.bool false,.int .i64 0]],[],[76]⟩=>.ite (qzd r i n) (.ret ((.val (.agg [.int .i64 (qtP r i n),.str (qsG r i n),.sl (qtV r i n) .non,.int .i64 (qpM r i n),.int .i64 (qqC r i n),.str (qoI r i n),.int .i64 (qpT r i n),.int .i64 (qqo r i n),.str (qoq r i n),.int .i64 (qpV r i n),.str (qp9 r i n),.int .i64 (qqw r i n),.int .i64 (qpv r i n),.str (qoU r i n)])),⟨[[.sl r .non,.int .i64 (qpW r i n),.int .i64 n,.bool true,.int .i64 (qk4 r i n)]],[],[76]⟩)) (.ite (qB2 r i n) (.ret ((.val (.agg [.int .i64 (qtE r i n),.str (qsq r i n),.sl (qsp r i n) .non,.int .i64 (qpw r i n),.int .i64 (qoF r i n),.str (qoo r i n),.int .i64 (qpg r i n),.int .i64 (qpx r i n),.str (qpF r i n),.int .i64 (qqk r i n),.str (qou r i n),.int .i64 (qpK r i n),.int .i64 (qqy r i n),.str (qph r i n)])),⟨[[.sl r .non,.int .i64 (qpY r i n),.int .i64 n,.bool false,.int .i64 0]],[],[76]⟩)) (.fail))|_,_=>.fail
theorem qOH (gl:Gl):SimM Tryz.prog gl 95 fun args σ=>(qMF args σ).run:=by
 refine SimM.of_nrm (G:=qKZ) (L:=qQC) qaj (qOU gl ) qai Tryz.func95 rfl (by rfl) (by kernel_rfl) (qac (by kernel_rfl)) ?_
 intro args σ x h;unfold qMF at h
 split at h
 ·exact (congrArg Tr.run (qVw _ _ _)).trans (qae h fun h=>qae h fun h=>by cases h)
 ·cases h
def quK:GamT:=ofL [(37,.pure qiH),(52,.may (frameT qxn)),(90,.may (frameT qCm)),(95,.may (frameT qMF)),(quU,.hint [(6,2,14,96)])]
theorem qDP (gl:Gl):qal Tryz.prog gl (gam quK):=(qag (qfA gl) (qah (SimM.frameT (qwE gl)) (qah (SimM.frameT (qEj gl)) (qah (SimM.frameT (qOH gl)) (qcj (K:=.hint [(6,2,14,96)]) trivial qaf)))))
def qug:Code:=qfZ Tryz.f40 4
def qsA:LI:=⟨41,[0,2,3],fun e=>match e with|.exit 0=>[0,2,3]|_=>[],false⟩
def quO:LpsT:=fun r fr σ=>.fail
def qeU (vs:List PV) (σ:Store):Option (PExit×List PV×Store):=lval (lstep tbT quK quO qug qsA) vs σ
section
variable (r:qR) (n n2:Int) (s:qU) (r2 r3:qR) (s2:qU) (r4 r5:qR) (k:Nat)
def qhV:Tr LR:=let z1:=qad r;let z2:List PV:=[.str s2,.sl r4 .non,.sl r5 (.tok 0)];let z3:qR:=[[.int .i64 (qtP z1 n n2),.str (qsG z1 n n2),.sl (qaa (qtV z1 n n2)) .non,.int .i64 (qpM z1 n n2),.int .i64 (qqC z1 n n2),.str (qoI z1 n n2),.int .i64 (qpT z1 n n2),.int .i64 (qqo z1 n n2),.str (qoq z1 n n2),.int .i64 (qpV z1 n n2),.str (qp9 z1 n n2),.int .i64 (qqw z1 n n2),.int .i64 (qpv z1 n n2),.str (qoU z1 n n2)]];let z4:=qaa z1;let z5:=qpW z1 n n2;let z6:=qk4 z1 n n2;let z7:List PV:=[.ptr 0 0,.ptr 1 0,.ptr 2 0];let z8:List PV:=[.str s,.sl r2 .full,.sl r3 .full];let z9:List PV:=[.str s2,.sl r4 .non,.sl (xApp r5 z3) (.tok 0)];let z10:qR:=[[.int .i64 (qtE z1 n n2),.str (qsq z1 n n2),.sl (qaa (qsp z1 n n2)) .non,.int .i64 (qpw z1 n n2),.int .i64 (qoF z1 n n2),.str (qoo z1 n n2),.int .i64 (qpg z1 n n2),.int .i64 (qpx z1 n n2),.str (qpF z1 n n2),.int .i64 (qqk z1 n n2),.str (qou z1 n n2),.int .i64 (qpK z1 n n2),.int .i64 (qqy z1 n n2),.str (qph z1 n n2)]];let z11:=qpY z1 n n2;let z12:List PV:=[.str s2,.sl r4 .non,.sl (xApp r5 z10) (.tok 0)];.ite true (.ite (qzd z1 n n2) (.ite (qg6 z2 z2) (.ite (qav r5 z3 168) (.ite (qaq z3 14) (.ite (qao r5 14) (.ite (nEq k (nXs r5)) (.ite (qbb (qad z4) z5 n2 z6 6 [44]) (.ite (bNot (qbH (qad z4) z5 n2 z6 6 [44])) (.ret (.out (.exit 0) z7 (Store.mk [[.sl z4 .non,.int .i64 z5,.int .i64 n2,.bool true,.int .i64 z6],z8,z9] [(nXs (xApp r5 z3),14,96)] [76,51,51]))) (.ret (.next z7 (Store.mk [[.sl z4 .non,.int .i64 (iAdd .i64 z5 1),.int .i64 n2,.bool true,.int .i64 z6],z8,z9] [(nXs (xApp r5 z3),14,96)] [76,51,51])))) .fail) .fail) .fail) .fail) .fail) .fail) (.ite (qB2 z1 n n2) (.ite (qg6 z2 z2) (.ite (qav r5 z10 168) (.ite (qaq z10 14) (.ite (qao r5 14) (.ite (nEq k (nXs r5)) (.ite (qbK (qad z4) z11 n2 6 [44]) (.ite (bNot (qdh (qad z4) z11 n2 6 [44])) (.ret (.out (.exit 0) z7 (Store.mk [[.sl z4 .non,.int .i64 z11,.int .i64 n2,.bool false,.int .i64 0],z8,z12] [(nXs (xApp r5 z10),14,96)] [76,51,51]))) (.ret (.next z7 (Store.mk [[.sl z4 .non,.int .i64 (iAdd .i64 z11 1),.int .i64 n2,.bool false,.int .i64 0],z8,z12] [(nXs (xApp r5 z10),14,96)] [76,51,51])))) .fail) .fail) .fail) .fail) .fail) .fail) .fail)) (.ret (.out (.exit 0) z7 (Store.mk [[.sl r .non,.int .i64 n,.int .i64 n2,.bool false,.int .i64 0],z8,z2] [(k,14,96)] [76,51,51])))
theorem qKf:lstep tbT quK quO qug qsA [.ptr 0 0,.ptr 1 0,.ptr 2 0] ⟨[[.sl r .non,.int .i64 n,.int .i64 n2,.bool false,.int .i64 0],[.str s,.sl r2 .full,.sl r3 .full],[.str s2,.sl r4 .non,.sl r5 (.tok 0)]],[(k,14,96)],[76,51,51]⟩=qhV r n n2 s r2 r3 s2 r4 r5 k:=by kernel_rfl
theorem qvD:qeU [.ptr 0 0,.ptr 1 0,.ptr 2 0] ⟨[[.sl r .non,.int .i64 n,.int .i64 n2,.bool false,.int .i64 0],[.str s,.sl r2 .full,.sl r3 .full],[.str s2,.sl r4 .non,.sl r5 (.tok 0)]],[(k,14,96)],[76,51,51]⟩=lnext qeU (qhV r n n2 s r2 r3 s2 r4 r5 k).run:=by unfold qeU;rw [qaQ,qKf]
end
section
variable (r:qR) (n n2 n3:Int) (s:qU) (r2 r3:qR) (s2:qU) (r4 r5:qR) (k:Nat)
def qsJ:Option (PExit×List PV×Store):=qeU [.ptr 0 0,.ptr 1 0,.ptr 2 0] ⟨[[.sl r .non,.int .i64 n,.int .i64 n2,.bool true,.int .i64 n3],[.str s,.sl r2 .full,.sl r3 .full],[.str s2,.sl r4 .non,.sl r5 (.tok 0)]],[(k,14,96)],[76,51,51]⟩
def qss:Int:=qcm 0 1 (qsJ r n n2 n3 s r2 r3 s2 r4 r5 k)
def qp2:qR:=qa8 2 2 (qsJ r n n2 n3 s r2 r3 s2 r4 r5 k)
def qzq:Nat:=(gTok (qsJ r n n2 n3 s r2 r3 s2 r4 r5 k) 0)
def qq6:Bool:=isW (qsJ r n n2 n3 s r2 r3 s2 r4 r5 k) ((.exit 0),[.ptr 0 0,.ptr 1 0,.ptr 2 0],⟨[[.sl r .non,.int .i64 (qss r n n2 n3 s r2 r3 s2 r4 r5 k),.int .i64 n2,.bool true,.int .i64 n3],[.str s,.sl r2 .full,.sl r3 .full],[.str s2,.sl r4 .non,.sl (qp2 r n n2 n3 s r2 r3 s2 r4 r5 k) (.tok 0)]],[((qzq r n n2 n3 s r2 r3 s2 r4 r5 k),14,96)],[76,51,51]⟩)
end
section
variable (r:qR) (n n2:Int) (s:qU) (r2 r3:qR) (s2:qU) (r4 r5:qR) (k:Nat)
def qb2:Option (PExit×List PV×Store):=qeU [.ptr 0 0,.ptr 1 0,.ptr 2 0] ⟨[[.sl r .non,.int .i64 n,.int .i64 n2,.bool false,.int .i64 0],[.str s,.sl r2 .full,.sl r3 .full],[.str s2,.sl r4 .non,.sl r5 (.tok 0)]],[(k,14,96)],[76,51,51]⟩
def qit:Int:=qcm 0 1 (qb2 r n n2 s r2 r3 s2 r4 r5 k)
def qgk:Int:=qcm 0 4 (qb2 r n n2 s r2 r3 s2 r4 r5 k)
def qgP:qR:=qa8 2 2 (qb2 r n n2 s r2 r3 s2 r4 r5 k)
def qmN:Nat:=(gTok (qb2 r n n2 s r2 r3 s2 r4 r5 k) 0)
def qm0:Bool:=isW (qb2 r n n2 s r2 r3 s2 r4 r5 k) ((.exit 0),[.ptr 0 0,.ptr 1 0,.ptr 2 0],⟨[[.sl r .non,.int .i64 (qit r n n2 s r2 r3 s2 r4 r5 k),.int .i64 n2,.bool true,.int .i64 (qgk r n n2 s r2 r3 s2 r4 r5 k)],[.str s,.sl r2 .full,.sl r3 .full],[.str s2,.sl r4 .non,.sl (qgP r n n2 s r2 r3 s2 r4 r5 k) (.tok 0)]],[((qmN r n n2 s r2 r3 s2 r4 r5 k),14,96)],[76,51,51]⟩)
def qip:Int:=qcm 0 1 (qb2 r n n2 s r2 r3 s2 r4 r5 k)
def qgQ:qR:=qa8 2 2 (qb2 r n n2 s r2 r3 s2 r4 r5 k)
def qng:Nat:=(gTok (qb2 r n n2 s r2 r3 s2 r4 r5 k) 0)
def qnI:Bool:=isW (qb2 r n n2 s r2 r3 s2 r4 r5 k) ((.exit 0),[.ptr 0 0,.ptr 1 0,.ptr 2 0],⟨[[.sl r .non,.int .i64 (qip r n n2 s r2 r3 s2 r4 r5 k),.int .i64 n2,.bool false,.int .i64 0],[.str s,.sl r2 .full,.sl r3 .full],[.str s2,.sl r4 .non,.sl (qgQ r n n2 s r2 r3 s2 r4 r5 k) (.tok 0)]],[((qng r n n2 s r2 r3 s2 r4 r5 k),14,96)],[76,51,51]⟩)
end
def qi3:List PV→Store→Tr (PExit×List PV×Store)|[.ptr 0 0,.ptr 1 0,.ptr 2 0],⟨[[.sl r .non,.int .i64 n,.int .i64 n2,.bool true,.int .i64 n3],[.str s,.sl r2 .full,.sl r3 .full],[.str s2,.sl r4 .non,.sl r5 (.tok 0)]],[(k,14,96)],[76,51,51]⟩=>.ite (qq6 r n n2 n3 s r2 r3 s2 r4 r5 k) (.ret ((.exit 0),[.ptr 0 0,.ptr 1 0,.ptr 2 0],⟨[[.sl r .non,.int .i64 (qss r n n2 n3 s r2 r3 s2 r4 r5 k),.int .i64 n2,.bool true,.int .i64 n3],[.str s,.sl r2 .full,.sl r3 .full],[.str s2,.sl r4 .non,.sl (qp2 r n n2 n3 s r2 r3 s2 r4 r5 k) (.tok 0)]],[((qzq r n n2 n3 s r2 r3 s2 r4 r5 k),14,96)],[76,51,51]⟩)) (.fail)|[.ptr 0 0,.ptr 1 0,.ptr 2 0],⟨[[.sl r .non,.int .i64 n,.int .i64 n2,.bool false,.int .i64 0],[.str s,.sl r2 .full,.sl r3 .full],[.str s2,.sl r4 .non,.sl r5 (.tok 0)]],[(k,14,96)],[76,51,51]⟩=>.ite (qm0 r n n2 s r2 r3 s2 r4 r5 k) (.ret ((.exit 0),[.ptr 0 0,.ptr 1 0,.ptr 2 0],⟨[[.sl r .non,.int .i64 (qit r n n2 s r2 r3 s2 r4 r5 k),.int .i64 n2,.bool true,.int .i64 (qgk r n n2 s r2 r3 s2 r4 r5 k)],[.str s,.sl r2 .full,.sl r3 .full],[.str s2,.sl r4 .non,.sl (qgP r n n2 s r2 r3 s2 r4 r5 k) (.tok 0)]],[((qmN r n n2 s r2 r3 s2 r4 r5 k),14,96)],[76,51,51]⟩)) (.ite (qnI r n n2 s r2 r3 s2 r4 r5 k) (.ret ((.exit 0),[.ptr 0 0,.ptr 1 0,.ptr 2 0],⟨[[.sl r .non,.int .i64 (qip r n n2 s r2 r3 s2 r4 r5 k),.int .i64 n2,.bool false,.int .i64 0],[.str s,.sl r2 .full,.sl r3 .full],[.str s2,.sl r4 .non,.sl (qgQ r n n2 s r2 r3 s2 r4 r5 k) (.tok 0)]],[((qng r n n2 s r2 r3 s2 r4 r5 k),14,96)],[76,51,51]⟩)) (.fail))|_,_=>.fail
theorem qKN:∀ vs σ r,(qi3 vs σ).run=some r→qeU vs σ=some r:=by
 intro vs σ r h;unfold qi3 at h
 split at h
 ·exact qae h fun h=>by cases h
 ·exact qae h fun h=>qae h fun h=>by cases h
 ·cases h
theorem qFs (gl:Gl):∀ fr σ e fr' σ',(orc qsA qi3 fr σ).run=some (e,fr',σ')→LDoes Tryz.prog gl qug fr σ e fr' σ':=qcB qaj (qDP gl ) qai (L:=quO) (qac (by kernel_rfl)) (by kernel_rfl) qKN
def qFc:LpsT:=fun r fr σ=>bif Nat.beq r 4 then orc qsA qi3 fr σ else .fail
section
variable (r:qR) (i n:Int)
def qgA:Tr (PR×Store):=let z1:=qad (qad r);let z2:=qaa z1;let z3:=qad z2;let z4:=qf2 z1 i n;let z5:=qc8 z1 i n;let z6:=iAdd .i64 z4 1;let z7:=qf6 z1 i n;let z8:=qaa (qfM z1 i n);let z9:=qss z2 z6 n z5 [] [] [] z7 z8 [] 0;let z10:=qaa (qaa z3);let z11:=qfu z1 i n;let z12:=iAdd .i64 z11 1;let z13:=qei z1 i n;let z14:=qaa (qen z1 i n);let z15:=qit z2 z12 n [] [] [] z13 z14 [] 0;let z16:=qgk z2 z12 n [] [] [] z13 z14 [] 0;let z17:=qip z2 z12 n [] [] [] z13 z14 [] 0;let z18:PV:=.agg [.str z13,.sl (qaa z14) .non,.sl (qaa (qgQ z2 z12 n [] [] [] z13 z14 [] 0)) .non];let z19:PV:=.agg [.str z13,.sl (qaa z14) .non,.sl [] .non];.ite (qhB z1 i n) (.ite (qbb z3 z4 n z5 6 [58,45]) (.ite (qbH z3 z4 n z5 6 [58,45]) (.ite (qq6 z2 z6 n z5 [] [] [] z7 z8 [] 0) (.ite (qbI [46] z3 z9 n z5) (.ret (PR.val (.agg [.str z7,.sl (qaa z8) .non,.sl (qaa (qp2 z2 z6 n z5 [] [] [] z7 z8 [] 0)) .non]),Store.mk [[.sl z10 .non,.int .i64 (qcT [46] z3 z9 n z5),.int .i64 n,.bool true,.int .i64 z5]] [] [76])) .fail) .fail) (.ite (qbI [46] z3 z4 n z5) (.ret (PR.val (.agg [.str z7,.sl (qaa z8) .non,.sl [] .non]),Store.mk [[.sl z10 .non,.int .i64 (qcT [46] z3 z4 n z5),.int .i64 n,.bool true,.int .i64 z5]] [] [76])) .fail)) .fail) (.ite (qhK z1 i n) (.ite (qbK z3 z11 n 6 [58,45]) (.ite (qdh z3 z11 n 6 [58,45]) (.ite (qm0 z2 z12 n [] [] [] z13 z14 [] 0) (.ite (qbI [46] z3 z15 n z16) (.ret (PR.val (.agg [.str z13,.sl (qaa z14) .non,.sl (qaa (qgP z2 z12 n [] [] [] z13 z14 [] 0)) .non]),Store.mk [[.sl z10 .non,.int .i64 (qcT [46] z3 z15 n z16),.int .i64 n,.bool true,.int .i64 z16]] [] [76])) .fail) (.ite (qnI z2 z12 n [] [] [] z13 z14 [] 0) (.ite (qhY [46] z3 z17 n) (.ret (PR.val z18,Store.mk [[.sl z10 .non,.int .i64 (qfB [46] z3 z17 n),.int .i64 n,.bool true,.int .i64 (qd1 [46] z3 z17 n)]] [] [76])) (.ite (qhI [46] z3 z17 n) (.ret (PR.val z18,Store.mk [[.sl z10 .non,.int .i64 (qf8 [46] z3 z17 n),.int .i64 n,.bool false,.int .i64 0]] [] [76])) .fail)) .fail)) (.ite (qhY [46] z3 z11 n) (.ret (PR.val z19,Store.mk [[.sl z10 .non,.int .i64 (qfB [46] z3 z11 n),.int .i64 n,.bool true,.int .i64 (qd1 [46] z3 z11 n)]] [] [76])) (.ite (qhI [46] z3 z11 n) (.ret (PR.val z19,Store.mk [[.sl z10 .non,.int .i64 (qf8 [46] z3 z11 n),.int .i64 n,.bool false,.int .i64 0]] [] [76])) .fail))) .fail) .fail)
theorem qSJ:(nrmM tbT quK qFc Tryz.f40 [.ptr 0 0] ⟨[[.sl r .non,.int .i64 i,.int .i64 n,.bool false,.int .i64 0]],[],[76]⟩).flat=qgA r i n:=by kernel_rfl
def qb9:Option (PR×Store):=(qgA r i n).run
def qo3:qU:=qbx 0 (qb9 r i n)
def qpU:qR:=qet 1 (qb9 r i n)
def qk8:qR:=qet 2 (qb9 r i n)
def qoB:Int:=qbY 0 1 (qb9 r i n)
def qhf:Int:=qbY 0 4 (qb9 r i n)
def qwa:Bool:=isW (qb9 r i n) ((.val (.agg [.str (qo3 r i n),.sl (qpU r i n) .non,.sl (qk8 r i n) .non])),⟨[[.sl r .non,.int .i64 (qoB r i n),.int .i64 n,.bool true,.int .i64 (qhf r i n)]],[],[76]⟩)
def qkw:qU:=qbx 0 (qb9 r i n)
def qkI:qR:=qet 1 (qb9 r i n)
def qif:qR:=qet 2 (qb9 r i n)
def qqp:Int:=qbY 0 1 (qb9 r i n)
def qwK:Bool:=isW (qb9 r i n) ((.val (.agg [.str (qkw r i n),.sl (qkI r i n) .non,.sl (qif r i n) .non])),⟨[[.sl r .non,.int .i64 (qqp r i n),.int .i64 n,.bool false,.int .i64 0]],[],[76]⟩)
end
def qES:List PV→Store→Tr (PR×Store)|[.ptr 0 0],⟨[[.sl r .non,.int .i64 i,.int .i64 n,.bool false,.int .i64 0]],[],[76]⟩=>.ite (qwa r i n) (.ret ((.val (.agg [.str (qo3 r i n),.sl (qpU r i n) .non,.sl (qk8 r i n) .non])),⟨[[.sl r .non,.int .i64 (qoB r i n),.int .i64 n,.bool true,.int .i64 (qhf r i n)]],[],[76]⟩)) (.ite (qwK r i n) (.ret ((.val (.agg [.str (qkw r i n),.sl (qkI r i n) .non,.sl (qif r i n) .non])),⟨[[.sl r .non,.int .i64 (qqp r i n),.int .i64 n,.bool false,.int .i64 0]],[],[76]⟩)) (.fail))|_,_=>.fail
theorem qM6 (gl:Gl):SimM Tryz.prog gl 40 fun args σ=>(qES args σ).run:=by
 refine SimM.of_nrm (G:=quK) (L:=qFc) qaj (qDP gl ) qai Tryz.func40 rfl (by rfl) (by kernel_rfl) (qaD (L:=lps qFc) [(4,qug)] (by kernel_rfl) (List.forall_mem_cons.2 ⟨fun fr σ e fr' σ' h=>qFs gl  fr σ e fr' σ' h,(List.forall_mem_nil _)⟩)) ?_
 intro args σ x h;unfold qES at h
 split at h
 ·exact (congrArg Tr.run (qSJ _ _ _)).trans (qae h fun h=>qae h fun h=>by cases h)
 ·cases h
end Go.Pv
set_option maxHeartbeats 4000000
set_option maxRecDepth 200000
set_option linter.unusedSimpArgs false
set_option linter.unusedVariables false
namespace Go.Pv
open Go Go.Proofs
end Go.Pv
set_option maxHeartbeats 4000000
set_option maxRecDepth 200000
set_option linter.unusedSimpArgs false
set_option linter.unusedVariables false
namespace Go.Pv
open Go Go.Proofs
end Go.Pv
set_option maxHeartbeats 4000000
set_option maxRecDepth 200000
set_option linter.unusedSimpArgs false
set_option linter.unusedVariables false
namespace Go.Pv
open Go Go.Proofs
def qIk:GamT:=ofL [(92,.may (frameT ql7))]
theorem qPq (gl:Gl):qal Tryz.prog gl (gam qIk):=(qah (SimM.frameT (qmu gl)) qaf)
def qMD:LpsT:=fun r fr σ=>.fail
section
variable (r:qR) (i n:Int)
def qCo:Tr (PR×Store):=let z1:=qad (qad r);.ite (iLt i (xLen (qad r))) (.ite (qe0 z1 i n) (.ret (PR.val (.tup []),Store.mk [[.sl (qaa (qaa z1)) .non,.int .i64 (qeb z1 i n),.int .i64 n,.bool true,.int .i64 (qc3 z1 i n)]] [] [76])) (.ite (qe5 z1 i n) (.ret (PR.val (.tup []),Store.mk [[.sl (qaa (qaa z1)) .non,.int .i64 (qea z1 i n),.int .i64 n,.bool false,.int .i64 0]] [] [76])) .fail)) (.ret (PR.val (.tup []),Store.mk [[.sl (qaa (qad r)) .non,.int .i64 i,.int .i64 n,.bool false,.int .i64 0]] [] [76]))
theorem qV5:(nrmM tbT qIk qMD Tryz.f48 [.ptr 0 0] ⟨[[.sl r .non,.int .i64 i,.int .i64 n,.bool false,.int .i64 0]],[],[76]⟩).flat=qCo r i n:=by kernel_rfl
def qr2:Option (PR×Store):=(qCo r i n).run
def qzy:Int:=qbY 0 1 (qr2 r i n)
def qke:Int:=qbY 0 4 (qr2 r i n)
def qsv:Bool:=isW (qr2 r i n) ((.val (.tup [])),⟨[[.sl r .non,.int .i64 (qzy r i n),.int .i64 n,.bool true,.int .i64 (qke r i n)]],[],[76]⟩)
def qBz:Int:=qbY 0 1 (qr2 r i n)
def qux:Bool:=isW (qr2 r i n) ((.val (.tup [])),⟨[[.sl r .non,.int .i64 (qBz r i n),.int .i64 n,.bool false,.int .i64 0]],[],[76]⟩)
end
section
variable (r:qR) (i n a:Int)
def qAp:Tr (PR×Store):=let z1:=qad (qad r);.ite (iLt i (xLen (qad r))) (.ite (qdM z1 i n a) (.ret (PR.val (.tup []),Store.mk [[.sl (qaa (qaa z1)) .non,.int .i64 (qf9 z1 i n a),.int .i64 n,.bool true,.int .i64 a]] [] [76])) .fail) (.ret (PR.val (.tup []),Store.mk [[.sl (qaa (qad r)) .non,.int .i64 i,.int .i64 n,.bool true,.int .i64 a]] [] [76]))
theorem qUx:(nrmM tbT qIk qMD Tryz.f48 [.ptr 0 0] ⟨[[.sl r .non,.int .i64 i,.int .i64 n,.bool true,.int .i64 a]],[],[76]⟩).flat=qAp r i n a:=by kernel_rfl
def qB9:Option (PR×Store):=(qAp r i n a).run
def qF8:Int:=qbY 0 1 (qB9 r i n a)
def qqj:Bool:=isW (qB9 r i n a) ((.val (.tup [])),⟨[[.sl r .non,.int .i64 (qF8 r i n a),.int .i64 n,.bool true,.int .i64 a]],[],[76]⟩)
end
def qHe:List PV→Store→Tr (PR×Store)|[.ptr 0 0],⟨[[.sl r .non,.int .i64 i,.int .i64 n,.bool false,.int .i64 0]],[],[76]⟩=>.ite (qsv r i n) (.ret ((.val (.tup [])),⟨[[.sl r .non,.int .i64 (qzy r i n),.int .i64 n,.bool true,.int .i64 (qke r i n)]],[],[76]⟩)) (.ite (qux r i n) (.ret ((.val (.tup [])),⟨[[.sl r .non,.int .i64 (qBz r i n),.int .i64 n,.bool false,.int .i64 0]],[],[76]⟩)) (.fail))|[.ptr 0 0],⟨[[.sl r .non,.int .i64 i,.int .i64 n,.bool true,.int .i64 a]],[],[76]⟩=>.ite (qqj r i n a) (.ret ((.val (.tup [])),⟨[[.sl r .non,.int .i64 (qF8 r i n a),.int .i64 n,.bool true,.int .i64 a]],[],[76]⟩)) (.fail)|_,_=>.fail
theorem qHG (gl:Gl):SimM Tryz.prog gl 48 fun args σ=>(qHe args σ).run:=by
 refine SimM.of_nrm (G:=qIk) (L:=qMD) qaj (qPq gl ) qai Tryz.func48 rfl (by rfl) (by kernel_rfl) (qac (by kernel_rfl)) ?_
 intro args σ x h;unfold qHe at h
 split at h
 ·exact (congrArg Tr.run (qV5 _ _ _)).trans (qae h fun h=>qae h fun h=>by cases h)
 ·exact (congrArg Tr.run (qUx _ _ _ _)).trans (qae h fun h=>by cases h)
 ·cases h
end Go.Pv
set_option maxHeartbeats 4000000
set_option maxRecDepth 200000
set_option linter.unusedSimpArgs false
set_option linter.unusedVariables false
namespace Go.Pv
open Go Go.Proofs
def qBy:GamT:=ofL []
theorem qIX (gl:Gl):qal Tryz.prog gl (gam qBy):=qaf
def qIa:LpsT:=fun r fr σ=>.fail
section
variable (c:Int)
def qxa:Tr PV:=.ite (iLe 97 c) (.ret (.bool (iLe c 122))) (.ret (.bool false))
theorem qP1:(tcall tbT qBy qIa Tryz.f97 [.int .u8 c]).flat=qxa c:=by kernel_rfl
def qsB:Option PV:=(qxa c).run
def qix:Bool:=(qeS (gVal (qsB c)))
def qid:Bool:=isW (qsB c) (.bool (qix c))
end
def qsY:List PV→Tr PV|[.int .u8 c]=>.ite (qid c) (.ret (.bool (qix c))) (.fail)|_=>.fail
theorem qyx (gl:Gl):SimP Tryz.prog gl 97 fun args=>(qsY args).run:=by
 refine SimP.of_flat (G:=qBy) (L:=qIa) qaj (qIX gl ) qai  Tryz.func97 rfl (by rfl) (by kernel_rfl) (qac (by kernel_rfl)) ?_
 intro args x h;unfold qsY at h
 split at h
 ·exact (congrArg Tr.run (qP1 _)).trans (qae h fun h=>by cases h)
 ·cases h
def qAG:GamT:=ofL []
theorem qJJ (gl:Gl):qal Tryz.prog gl (gam qAG):=qaf
def qHy:LpsT:=fun r fr σ=>.fail
section
variable (c:Int)
def qvo:Tr PV:=.ite (iLe 65 c) (.ret (.bool (iLe c 90))) (.ret (.bool false))
theorem qOG:(tcall tbT qAG qHy Tryz.f98 [.int .u8 c]).flat=qvo c:=by kernel_rfl
def qsS:Option PV:=(qvo c).run
def qgl:Bool:=(qeS (gVal (qsS c)))
def qfc:Bool:=isW (qsS c) (.bool (qgl c))
end
def qtI:List PV→Tr PV|[.int .u8 c]=>.ite (qfc c) (.ret (.bool (qgl c))) (.fail)|_=>.fail
theorem qyI (gl:Gl):SimP Tryz.prog gl 98 fun args=>(qtI args).run:=by
 refine SimP.of_flat (G:=qAG) (L:=qHy) qaj (qJJ gl ) qai  Tryz.func98 rfl (by rfl) (by kernel_rfl) (qac (by kernel_rfl)) ?_
 intro args x h;unfold qtI at h
 split at h
 ·exact (congrArg Tr.run (qOG _)).trans (qae h fun h=>by cases h)
 ·cases h
def qzM:GamT:=ofL []
theorem qJY (gl:Gl):qal Tryz.prog gl (gam qzM):=qaf
def qHN:LpsT:=fun r fr σ=>.fail
section
variable (c:Int)
def qwd:Tr PV:=.ite (iLe 48 c) (.ret (.bool (iLe c 57))) (.ret (.bool false))
theorem qQu:(tcall tbT qzM qHN Tryz.f100 [.int .u8 c]).flat=qwd c:=by kernel_rfl
def quu:Option PV:=(qwd c).run
def qeY:Bool:=(qeS (gVal (quu c)))
def qdK:Bool:=isW (quu c) (.bool (qeY c))
end
def qo8:List PV→Tr PV|[.int .u8 c]=>.ite (qdK c) (.ret (.bool (qeY c))) (.fail)|_=>.fail
theorem qrZ (gl:Gl):SimP Tryz.prog gl 100 fun args=>(qo8 args).run:=by
 refine SimP.of_flat (G:=qzM) (L:=qHN) qaj (qJY gl ) qai  Tryz.func100 rfl (by rfl) (by kernel_rfl) (qac (by kernel_rfl)) ?_
 intro args x h;unfold qo8 at h
 split at h
 ·exact (congrArg Tr.run (qQu _)).trans (qae h fun h=>by cases h)
 ·cases h
def qz0:GamT:=ofL [(97,.pure qsY),(98,.pure qtI),(100,.pure qo8)]
theorem qI0 (gl:Gl):qal Tryz.prog gl (gam qz0):=(qag (qyx gl) (qag (qyI gl) (qag (qrZ gl) qaf)))
def qHq:LpsT:=fun r fr σ=>.fail
section
variable (c:Int)
def qxb:Tr PV:=.ite (qid c) (.ite (qix c) (.ret (.bool true)) (.ite (qfc c) (.ite (qgl c) (.ret (.bool true)) (.ite (qdK c) (.ite (qeY c) (.ret (.bool true)) (.ret (.bool (iEq c 95)))) .fail)) .fail)) .fail
theorem qPh:(tcall tbT qz0 qHq Tryz.f146 [.int .u8 c]).flat=qxb c:=by kernel_rfl
def qt0:Option PV:=(qxb c).run
def qlH:Bool:=(qeS (gVal (qt0 c)))
def qma:Bool:=isW (qt0 c) (.bool (qlH c))
end
def qza:List PV→Tr PV|[.int .u8 c]=>.ite (qma c) (.ret (.bool (qlH c))) (.fail)|_=>.fail
theorem qI1 (gl:Gl):SimP Tryz.prog gl 146 fun args=>(qza args).run:=by
 refine SimP.of_flat (G:=qz0) (L:=qHq) qaj (qI0 gl ) qai  Tryz.func146 rfl (by rfl) (by kernel_rfl) (qac (by kernel_rfl)) ?_
 intro args x h;unfold qza at h
 split at h
 ·exact (congrArg Tr.run (qPh _)).trans (qae h fun h=>by cases h)
 ·cases h
def qzZ:GamT:=ofL []
theorem qI9 (gl:Gl):qal Tryz.prog gl (gam qzZ):=qaf
def qHu:LpsT:=fun r fr σ=>.fail
section
variable (c:Int)
def qvG:Tr PV:=.ite (iEq c 32) (.ret (.bool true)) (.ite (iEq c 9) (.ret (.bool true)) (.ite (iEq c 10) (.ret (.bool true)) (.ret (.bool (iEq c 13)))))
theorem qOD:(tcall tbT qzZ qHu Tryz.f96 [.int .u8 c]).flat=qvG c:=by kernel_rfl
def quk:Option PV:=(qvG c).run
def qiu:Bool:=(qeS (gVal (quk c)))
def qlV:Bool:=isW (quk c) (.bool (qiu c))
end
def qA8:List PV→Tr PV|[.int .u8 c]=>.ite (qlV c) (.ret (.bool (qiu c))) (.fail)|_=>.fail
theorem qI5 (gl:Gl):SimP Tryz.prog gl 96 fun args=>(qA8 args).run:=by
 refine SimP.of_flat (G:=qzZ) (L:=qHu) qaj (qI9 gl ) qai  Tryz.func96 rfl (by rfl) (by kernel_rfl) (qac (by kernel_rfl)) ?_
 intro args x h;unfold qA8 at h
 split at h
 ·exact (congrArg Tr.run (qOD _)).trans (qae h fun h=>by cases h)
 ·cases h
def qDs:GamT:=ofL [(96,.pure qA8)]
theorem qHK (gl:Gl):qal Tryz.prog gl (gam qDs):=(qag (qI5 gl) qaf)
def qBh:Code:=qfZ Tryz.f43 2
def qzB:LI:=⟨41,[0,1,5],fun e=>match e with|.exit 0=>[1]|_=>[],true⟩
def qzb:LpsT:=fun r fr σ=>.fail
def qrn (vs:List PV) (σ:Store):Option (PExit×List PV×Store):=lval (lstep tbT qDs qzb qBh qzB) vs σ
section
variable (s:qU) (at_:Int) (comment:Bool)
def qos:Tr LR:=let z1:=qaz s at_;let z2:=iAdd .i64 at_ 1;let z3:Store:=Store.mk [] [] [];let z4:Tr LR:=.ite z1 (.ite (iEq (sAt s at_) 37) (.ret (.next [.str s,.int .i64 z2,.bool true] z3)) (.ite comment (.ite z1 (.ret (.next [.str s,.int .i64 z2,.bool (iNe (sAt s at_) 10)] z3)) .fail) (.ret (.next [.str s,.int .i64 z2,.bool false] z3)))) .fail;.ite (iLt at_ (sLen s)) (.ite comment z4 (.ite z1 (.ite (qlV (sAt s at_)) (.ite (qiu (sAt s at_)) z4 (.ite z1 (.ite (iEq (sAt s at_) 37) z4 (.ret (.out (.exit 0) [.int .i64 at_] z3))) .fail)) .fail) .fail)) (.ret (.out (.exit 0) [.int .i64 at_] z3))
theorem qUS:lstep tbT qDs qzb qBh qzB [.str s,.int .i64 at_,.bool comment] ⟨[],[],[]⟩=qos s at_ comment:=by kernel_rfl
theorem qNm:qrn [.str s,.int .i64 at_,.bool comment] ⟨[],[],[]⟩=lnext qrn (qos s at_ comment).run:=by unfold qrn;rw [qaQ,qUS]
def qFY:Option (PExit×List PV×Store):=qrn [.str s,.int .i64 at_,.bool comment] ⟨[],[],[]⟩
def qpa:Int:=qjR 0 (qFY s at_ comment)
def qws:Bool:=isW (qFY s at_ comment) ((.exit 0),[.int .i64 (qpa s at_ comment)],⟨[],[],[]⟩)
end
def qlB:List PV→Store→Tr (PExit×List PV×Store)|[.str s,.int .i64 at_,.bool comment],⟨[],[],[]⟩=>.ite (qws s at_ comment) (.ret ((.exit 0),[.int .i64 (qpa s at_ comment)],⟨[],[],[]⟩)) (.fail)|_,_=>.fail
theorem qPn:∀ vs σ r,(qlB vs σ).run=some r→qrn vs σ=some r:=by
 intro vs σ r h;unfold qlB at h
 split at h
 ·exact qae h fun h=>by cases h
 ·cases h
theorem qJC (gl:Gl):∀ fr σ e fr' σ',(orc qzB qlB fr σ).run=some (e,fr',σ')→LDoes Tryz.prog gl qBh fr σ e fr' σ':=qcB qaj (qHK gl ) qai (L:=qzb) (qac (by kernel_rfl)) (by kernel_rfl) qPn
def qNs:LpsT:=fun r fr σ=>bif Nat.beq r 2 then orc qzB qlB fr σ else .fail
section
variable (s:qU) (at_:Int)
def qEz:Tr PV:=.ite (qws s at_ false) (.ret (.int .i64 (qpa s at_ false))) .fail
theorem qUZ:(tcall tbT qDs qNs Tryz.f43 [.str s,.int .i64 at_]).flat=qEz s at_:=by kernel_rfl
def qHs:Option PV:=(qEz s at_).run
def qmF:Int:=(gInt (gVal (qHs s at_)))
def qgn:Bool:=isW (qHs s at_) (.int .i64 (qmF s at_))
end
def qKu:List PV→Tr PV|[.str s,.int .i64 at_]=>.ite (qgn s at_) (.ret (.int .i64 (qmF s at_))) (.fail)|_=>.fail
theorem qO3 (gl:Gl):SimP Tryz.prog gl 43 fun args=>(qKu args).run:=by
 refine SimP.of_flat (G:=qDs) (L:=qNs) qaj (qHK gl ) qai  Tryz.func43 rfl (by rfl) (by kernel_rfl) (qaD (L:=lps qNs) [(2,qBh)] (by kernel_rfl) (List.forall_mem_cons.2 ⟨fun fr σ e fr' σ' h=>qJC gl  fr σ e fr' σ' h,(List.forall_mem_nil _)⟩)) ?_
 intro args x h;unfold qKu at h
 split at h
 ·exact (congrArg Tr.run (qUZ _ _)).trans (qae h fun h=>by cases h)
 ·cases h
def qwN:GamT:=ofL [(146,.pure qza)]
theorem qCY (gl:Gl):qal Tryz.prog gl (gam qwN):=(qag (qI1 gl) qaf)
def qud:Code:=qfZ Tryz.f99 1
def qs1:LI:=⟨18,[0,1],fun e=>match e with|.exit 0=>[1]|_=>[],true⟩
def qvb:LpsT:=fun r fr σ=>.fail
def qlP (vs:List PV) (σ:Store):Option (PExit×List PV×Store):=lval (lstep tbT qwN qvb qud qs1) vs σ
section
variable (s:qU) (at_:Int)
def qkh:Tr LR:=.ite (iLt at_ (sLen s)) (.ite (qaz s at_) (.ite (qma (sAt s at_)) (.ite (qlH (sAt s at_)) (.ret (.next [.str s,.int .i64 (iAdd .i64 at_ 1)] ⟨[],[],[]⟩)) (.ret (.out (.exit 0) [.int .i64 at_] ⟨[],[],[]⟩))) .fail) .fail) (.ret (.out (.exit 0) [.int .i64 at_] ⟨[],[],[]⟩))
theorem qPW:lstep tbT qwN qvb qud qs1 [.str s,.int .i64 at_] ⟨[],[],[]⟩=qkh s at_:=by kernel_rfl
theorem qHR:qlP [.str s,.int .i64 at_] ⟨[],[],[]⟩=lnext qlP (qkh s at_).run:=by unfold qlP;rw [qaQ,qPW]
def qAk:Option (PExit×List PV×Store):=qlP [.str s,.int .i64 at_] ⟨[],[],[]⟩
def qlc:Int:=qjR 0 (qAk s at_)
def qqI:Bool:=isW (qAk s at_) ((.exit 0),[.int .i64 (qlc s at_)],⟨[],[],[]⟩)
end
def qjf:List PV→Store→Tr (PExit×List PV×Store)|[.str s,.int .i64 at_],⟨[],[],[]⟩=>.ite (qqI s at_) (.ret ((.exit 0),[.int .i64 (qlc s at_)],⟨[],[],[]⟩)) (.fail)|_,_=>.fail
theorem qKS:∀ vs σ r,(qjf vs σ).run=some r→qlP vs σ=some r:=by
 intro vs σ r h;unfold qjf at h
 split at h
 ·exact qae h fun h=>by cases h
 ·cases h
theorem qGI (gl:Gl):∀ fr σ e fr' σ',(orc qs1 qjf fr σ).run=some (e,fr',σ')→LDoes Tryz.prog gl qud fr σ e fr' σ':=qcB qaj (qCY gl ) qai (L:=qvb) (qac (by kernel_rfl)) (by kernel_rfl) qKS
def qFt:LpsT:=fun r fr σ=>bif Nat.beq r 1 then orc qs1 qjf fr σ else .fail
section
variable (s:qU) (at_:Int)
def qBg:Tr PV:=.ite (qqI s at_) (.ret (.int .i64 (qlc s at_))) .fail
theorem qS4:(tcall tbT qwN qFt Tryz.f99 [.str s,.int .i64 at_]).flat=qBg s at_:=by kernel_rfl
def qAR:Option PV:=(qBg s at_).run
def qrO:Int:=(gInt (gVal (qAR s at_)))
def qki:Bool:=isW (qAR s at_) (.int .i64 (qrO s at_))
end
def qGW:List PV→Tr PV|[.str s,.int .i64 at_]=>.ite (qki s at_) (.ret (.int .i64 (qrO s at_))) (.fail)|_=>.fail
theorem qMA (gl:Gl):SimP Tryz.prog gl 99 fun args=>(qGW args).run:=by
 refine SimP.of_flat (G:=qwN) (L:=qFt) qaj (qCY gl ) qai  Tryz.func99 rfl (by rfl) (by kernel_rfl) (qaD (L:=lps qFt) [(1,qud)] (by kernel_rfl) (List.forall_mem_cons.2 ⟨fun fr σ e fr' σ' h=>qGI gl  fr σ e fr' σ' h,(List.forall_mem_nil _)⟩)) ?_
 intro args x h;unfold qGW at h
 split at h
 ·exact (congrArg Tr.run (qS4 _ _)).trans (qae h fun h=>by cases h)
 ·cases h
def qkU:GamT:=ofL [(100,.pure qo8)]
theorem qvH (gl:Gl):qal Tryz.prog gl (gam qkU):=(qag (qrZ gl) qaf)
def qlf:Code:=qfZ Tryz.f102 1
def qmc:LI:=⟨18,[0,1],fun e=>match e with|.exit 0=>[1]|_=>[],true⟩
def qnB:LpsT:=fun r fr σ=>.fail
def qfb (vs:List PV) (σ:Store):Option (PExit×List PV×Store):=lval (lstep tbT qkU qnB qlf qmc) vs σ
section
variable (s:qU) (at_:Int)
def qfw:Tr LR:=.ite (iLt at_ (sLen s)) (.ite (qaz s at_) (.ite (qdK (sAt s at_)) (.ite (qeY (sAt s at_)) (.ret (.next [.str s,.int .i64 (iAdd .i64 at_ 1)] ⟨[],[],[]⟩)) (.ret (.out (.exit 0) [.int .i64 at_] ⟨[],[],[]⟩))) .fail) .fail) (.ret (.out (.exit 0) [.int .i64 at_] ⟨[],[],[]⟩))
theorem qJs:lstep tbT qkU qnB qlf qmc [.str s,.int .i64 at_] ⟨[],[],[]⟩=qfw s at_:=by kernel_rfl
theorem qyc:qfb [.str s,.int .i64 at_] ⟨[],[],[]⟩=lnext qfb (qfw s at_).run:=by unfold qfb;rw [qaQ,qJs]
def qrd:Option (PExit×List PV×Store):=qfb [.str s,.int .i64 at_] ⟨[],[],[]⟩
def qgt:Int:=qjR 0 (qrd s at_)
def qkx:Bool:=isW (qrd s at_) ((.exit 0),[.int .i64 (qgt s at_)],⟨[],[],[]⟩)
end
def qeR:List PV→Store→Tr (PExit×List PV×Store)|[.str s,.int .i64 at_],⟨[],[],[]⟩=>.ite (qkx s at_) (.ret ((.exit 0),[.int .i64 (qgt s at_)],⟨[],[],[]⟩)) (.fail)|_,_=>.fail
theorem qEE:∀ vs σ r,(qeR vs σ).run=some r→qfb vs σ=some r:=by
 intro vs σ r h;unfold qeR at h
 split at h
 ·exact qae h fun h=>by cases h
 ·cases h
theorem qA1 (gl:Gl):∀ fr σ e fr' σ',(orc qmc qeR fr σ).run=some (e,fr',σ')→LDoes Tryz.prog gl qlf fr σ e fr' σ':=qcB qaj (qvH gl ) qai (L:=qnB) (qac (by kernel_rfl)) (by kernel_rfl) qEE
def qwj:LpsT:=fun r fr σ=>bif Nat.beq r 1 then orc qmc qeR fr σ else .fail
section
variable (s:qU) (at_:Int)
def qqR:Tr PV:=.ite (qkx s at_) (.ret (.int .i64 (qgt s at_))) .fail
theorem qLD:(tcall tbT qkU qwj Tryz.f102 [.str s,.int .i64 at_]).flat=qqR s at_:=by kernel_rfl
def qqa:Option PV:=(qqR s at_).run
def qdi:Int:=(gInt (gVal (qqa s at_)))
def qfr:Bool:=isW (qqa s at_) (.int .i64 (qdi s at_))
end
def quM:List PV→Tr PV|[.str s,.int .i64 at_]=>.ite (qfr s at_) (.ret (.int .i64 (qdi s at_))) (.fail)|_=>.fail
theorem qEL (gl:Gl):SimP Tryz.prog gl 102 fun args=>(quM args).run:=by
 refine SimP.of_flat (G:=qkU) (L:=qwj) qaj (qvH gl ) qai  Tryz.func102 rfl (by rfl) (by kernel_rfl) (qaD (L:=lps qwj) [(1,qlf)] (by kernel_rfl) (List.forall_mem_cons.2 ⟨fun fr σ e fr' σ' h=>qA1 gl  fr σ e fr' σ' h,(List.forall_mem_nil _)⟩)) ?_
 intro args x h;unfold quM at h
 split at h
 ·exact (congrArg Tr.run (qLD _ _)).trans (qae h fun h=>by cases h)
 ·cases h
def qjU:GamT:=ofL []
theorem qvt (gl:Gl):qal Tryz.prog gl (gam qjU):=qaf
def qlG:Code:=qfZ Tryz.f103 2
def qlR:LI:=⟨26,[0,5],fun e=>match e with|.ret=>[4]|.exit 0=>[]|_=>[],true⟩
def qnx:LpsT:=fun r fr σ=>.fail
def qdd (vs:List PV) (σ:Store):Option (PExit×List PV×Store):=lval (lstep tbT qjU qnx qlG qlR) vs σ
section
variable (s:qU) (i:Int)
def qdR:Tr LR:=let z1:Store:=Store.mk [] [] [];.ite (iLt i (sLen s)) (.ite (qaz s i) (.ite (iEq (sAt s i) 34) (.ret (.out .ret [.int .i64 (iAdd .i64 i 1)] z1)) (.ite (qaz s i) (.ite (iEq (sAt s i) 92) (.ret (.next [.str s,.int .i64 (iAdd .i64 (iAdd .i64 i 1) 1)] z1)) (.ret (.next [.str s,.int .i64 (iAdd .i64 i 1)] z1))) .fail)) .fail) (.ret (.out (.exit 0) [] z1))
theorem qJV:lstep tbT qjU qnx qlG qlR [.str s,.int .i64 i] ⟨[],[],[]⟩=qdR s i:=by kernel_rfl
theorem qyY:qdd [.str s,.int .i64 i] ⟨[],[],[]⟩=lnext qdd (qdR s i).run:=by unfold qdd;rw [qaQ,qJV]
def qho:Option (PExit×List PV×Store):=qdd [.str s,.int .i64 i] ⟨[],[],[]⟩
def qex:Int:=qjR 0 (qho s i)
def qgu:Bool:=isW (qho s i) (.ret,[.int .i64 (qex s i)],⟨[],[],[]⟩)
def qgo:Bool:=isW (qho s i) ((.exit 0),[],⟨[],[],[]⟩)
end
def qeV:List PV→Store→Tr (PExit×List PV×Store)|[.str s,.int .i64 i],⟨[],[],[]⟩=>.ite (qgu s i) (.ret (.ret,[.int .i64 (qex s i)],⟨[],[],[]⟩)) (.ite (qgo s i) (.ret ((.exit 0),[],⟨[],[],[]⟩)) (.fail))|_,_=>.fail
theorem qFh:∀ vs σ r,(qeV vs σ).run=some r→qdd vs σ=some r:=by
 intro vs σ r h;unfold qeV at h
 split at h
 ·exact qae h fun h=>qae h fun h=>by cases h
 ·cases h
theorem qCv (gl:Gl):∀ fr σ e fr' σ',(orc qlR qeV fr σ).run=some (e,fr',σ')→LDoes Tryz.prog gl qlG fr σ e fr' σ':=qcB qaj (qvt gl ) qai (L:=qnx) (qac (by kernel_rfl)) (by kernel_rfl) qFh
def qwo:LpsT:=fun r fr σ=>bif Nat.beq r 2 then orc qlR qeV fr σ else .fail
section
variable (s:qU) (at_:Int)
def qrI:Tr PV:=let z1:=iAdd .i64 at_ 1;.ite (qgu s z1) (.ret (.int .i64 (qex s z1))) (.ite (qgo s z1) (.ret (.int .i64 (-1))) .fail)
theorem qLy:(tcall tbT qjU qwo Tryz.f103 [.str s,.int .i64 at_]).flat=qrI s at_:=by kernel_rfl
def qpc:Option PV:=(qrI s at_).run
def qa2:Int:=(gInt (gVal (qpc s at_)))
def qf3:Bool:=isW (qpc s at_) (.int .i64 (qa2 s at_))
end
def qwt:List PV→Tr PV|[.str s,.int .i64 at_]=>.ite (qf3 s at_) (.ret (.int .i64 (qa2 s at_))) (.fail)|_=>.fail
theorem qEZ (gl:Gl):SimP Tryz.prog gl 103 fun args=>(qwt args).run:=by
 refine SimP.of_flat (G:=qjU) (L:=qwo) qaj (qvt gl ) qai  Tryz.func103 rfl (by rfl) (by kernel_rfl) (qaD (L:=lps qwo) [(2,qlG)] (by kernel_rfl) (List.forall_mem_cons.2 ⟨fun fr σ e fr' σ' h=>qCv gl  fr σ e fr' σ' h,(List.forall_mem_nil _)⟩)) ?_
 intro args x h;unfold qwt at h
 split at h
 ·exact (congrArg Tr.run (qLy _ _)).trans (qae h fun h=>by cases h)
 ·cases h
def qFx:GamT:=ofL []
theorem qNu (gl:Gl):qal Tryz.prog gl (gam qFx):=qaf
def qLM:LpsT:=fun r fr σ=>.fail
section
variable (v:qU) (v2:Int)
def qAE:Tr PV:=let z1:=sSub v (nNat v2) (nNat (iAdd .i64 v2 2));let z2:=qaz v v2;let z3:=sAt v v2;let z4:Tr PV:=.ite z2 (.ite (iEq z3 40) (.ret (.int .i64 1)) (.ite z2 (.ite (iEq z3 41) (.ret (.int .i64 1)) (.ite z2 (.ite (iEq z3 44) (.ret (.int .i64 1)) (.ite z2 (.ite (iEq z3 46) (.ret (.int .i64 1)) (.ite z2 (.ite (iEq z3 43) (.ret (.int .i64 1)) (.ite z2 (.ite (iEq z3 45) (.ret (.int .i64 1)) (.ite z2 (.ite (iEq z3 61) (.ret (.int .i64 1)) (.ite z2 (.ite (iEq z3 58) (.ret (.int .i64 1)) (.ite z2 (.ite (iEq z3 60) (.ret (.int .i64 1)) (.ite z2 (.ite (iEq z3 62) (.ret (.int .i64 1)) (.ret (.int .i64 0))) .fail)) .fail)) .fail)) .fail)) .fail)) .fail)) .fail)) .fail)) .fail)) .fail;.ite (iLe 2 (iSub .i64 (sLen v) v2)) (.ite (qbc (qay v2) (qay (iAdd .i64 v2 2)) (nNat v2) (nNat (iAdd .i64 v2 2)) (nLen v)) (.ite (sEq z1 [58,45]) (.ret (.int .i64 2)) (.ite (sEq z1 [60,61]) (.ret (.int .i64 2)) (.ite (sEq z1 [62,61]) (.ret (.int .i64 2)) (.ite (sEq z1 [33,61]) (.ret (.int .i64 2)) z4)))) .fail) (.ite (sEq [] [58,45]) (.ret (.int .i64 2)) (.ite (sEq [] [60,61]) (.ret (.int .i64 2)) (.ite (sEq [] [62,61]) (.ret (.int .i64 2)) (.ite (sEq [] [33,61]) (.ret (.int .i64 2)) z4))))
theorem qS7:(tcall tbT qFx qLM Tryz.f104 [.str v,.int .i64 v2]).flat=qAE v v2:=by kernel_rfl
def qB3:Option PV:=(qAE v v2).run
def qd8:Int:=(gInt (gVal (qB3 v v2)))
def qjV:Bool:=isW (qB3 v v2) (.int .i64 (qd8 v v2))
end
def qGB:List PV→Tr PV|[.str v,.int .i64 v2]=>.ite (qjV v v2) (.ret (.int .i64 (qd8 v v2))) (.fail)|_=>.fail
theorem qNL (gl:Gl):SimP Tryz.prog gl 104 fun args=>(qGB args).run:=by
 refine SimP.of_flat (G:=qFx) (L:=qLM) qaj (qNu gl ) qai  Tryz.func104 rfl (by rfl) (by kernel_rfl) (qac (by kernel_rfl)) ?_
 intro args x h;unfold qGB at h
 split at h
 ·exact (congrArg Tr.run (qS7 _ _)).trans (qae h fun h=>by cases h)
 ·cases h
def qzf:GamT:=ofL [(147,.pure qyy)]
theorem qJ7 (gl:Gl):qal Tryz.prog gl (gam qzf):=(qag (qMG gl) qaf)
def qHL:LpsT:=fun r fr σ=>.fail
section
variable (k:Int) (s:qU) (at_:Int)
def qwA:Tr PV:=.ite (qm8 s) (.ite (iNe (eRd s) 0) (.ret (.tup [.agg [.int .i64 0,.str [],.int .i64 0,.int .i64 0,.str [],.int .i64 0],.bool false])) (.ret (.tup [.agg [.int .i64 k,.str s,.int .i64 (kRd s),.int .i64 (nRd s),.str (sRd s),.int .i64 at_],.bool true]))) .fail
theorem qOr:(tcall tbT qzf qHL Tryz.f101 [.int .i64 k,.str s,.int .i64 at_]).flat=qwA k s at_:=by kernel_rfl
def qeg:Option PV:=(qwA k s at_).run
def qgO:Int:=(gInt (gAt (gCs (gAt (gCs (gVal (qeg k s at_))) 0)) 0))
def qgB:qU:=(gStr (gAt (gCs (gAt (gCs (gVal (qeg k s at_))) 0)) 1))
def qel:Int:=(gInt (gAt (gCs (gAt (gCs (gVal (qeg k s at_))) 0)) 2))
def qek:Int:=(gInt (gAt (gCs (gAt (gCs (gVal (qeg k s at_))) 0)) 3))
def qey:qU:=(gStr (gAt (gCs (gAt (gCs (gVal (qeg k s at_))) 0)) 4))
def qew:Int:=(gInt (gAt (gCs (gAt (gCs (gVal (qeg k s at_))) 0)) 5))
def qgE:Bool:=qyt 1 (qeg k s at_)
def qff:Bool:=isW (qeg k s at_) (.tup [.agg [.int .i64 (qgO k s at_),.str (qgB k s at_),.int .i64 (qel k s at_),.int .i64 (qek k s at_),.str (qey k s at_),.int .i64 (qew k s at_)],.bool (qgE k s at_)])
end
def qCn:List PV→Tr PV|[.int .i64 k,.str s,.int .i64 at_]=>.ite (qff k s at_) (.ret (.tup [.agg [.int .i64 (qgO k s at_),.str (qgB k s at_),.int .i64 (qel k s at_),.int .i64 (qek k s at_),.str (qey k s at_),.int .i64 (qew k s at_)],.bool (qgE k s at_)])) (.fail)|_=>.fail
theorem qIY (gl:Gl):SimP Tryz.prog gl 101 fun args=>(qCn args).run:=by
 refine SimP.of_flat (G:=qzf) (L:=qHL) qaj (qJ7 gl ) qai  Tryz.func101 rfl (by rfl) (by kernel_rfl) (qac (by kernel_rfl)) ?_
 intro args x h;unfold qCn at h
 split at h
 ·exact (congrArg Tr.run (qOr _ _ _)).trans (qae h fun h=>by cases h)
 ·cases h
def qGv:GamT:=ofL [(97,.pure qsY),(98,.pure qtI),(99,.pure qGW),(100,.pure qo8),(101,.pure qCn),(102,.pure quM),(103,.pure qwt),(104,.pure qGB)]
theorem qNc (gl:Gl):qal Tryz.prog gl (gam qGv):=(qag (qyx gl) (qag (qyI gl) (qag (qMA gl) (qag (qrZ gl) (qag (qIY gl) (qag (qEL gl) (qag (qEZ gl) (qag (qNL gl) qaf))))))))
def qKD:LpsT:=fun r fr σ=>.fail
section
variable (v:qU) (v2:Int)
def qzn:Tr PV:=let z1:=sAt v v2;let z2:=qrO v v2;let z3:=nNat v2;let z4:=qbc (qay v2) (qay z2) z3 (nNat z2) (nLen v);let z5:=sSub v z3 (nNat z2);let z6:=iLt 64 (sLen z5);let z7:=iAdd .i64 v2 1;let z8:Tr PV:=.ite (qki v v2) (.ite (qfc z1) (.ite (qgl z1) (.ite z4 (.ite (iEq z2 v2) (.ret (.tup [.agg [.int .i64 0,.str [],.int .i64 0,.int .i64 0,.str [],.int .i64 0],.bool false])) (.ite z6 (.ret (.tup [.agg [.int .i64 0,.str [],.int .i64 0,.int .i64 0,.str [],.int .i64 0],.bool false])) (.ite (iEq 2 3) (.ite (iNe z2 z7) (.ret (.tup [.agg [.int .i64 0,.str [],.int .i64 0,.int .i64 0,.str [],.int .i64 0],.bool false])) (.ret (.tup [.agg [.int .i64 2,.str z5,.int .i64 0,.int .i64 0,.str [],.int .i64 v2],.bool true]))) (.ret (.tup [.agg [.int .i64 2,.str z5,.int .i64 0,.int .i64 0,.str [],.int .i64 v2],.bool true]))))) .fail) (.ite z4 (.ite (iEq z2 v2) (.ret (.tup [.agg [.int .i64 0,.str [],.int .i64 0,.int .i64 0,.str [],.int .i64 0],.bool false])) (.ite z6 (.ret (.tup [.agg [.int .i64 0,.str [],.int .i64 0,.int .i64 0,.str [],.int .i64 0],.bool false])) (.ite (iEq 1 3) (.ite (iNe z2 z7) (.ret (.tup [.agg [.int .i64 0,.str [],.int .i64 0,.int .i64 0,.str [],.int .i64 0],.bool false])) (.ret (.tup [.agg [.int .i64 1,.str z5,.int .i64 0,.int .i64 0,.str [],.int .i64 v2],.bool true]))) (.ret (.tup [.agg [.int .i64 1,.str z5,.int .i64 0,.int .i64 0,.str [],.int .i64 v2],.bool true]))))) .fail)) .fail) .fail;let z9:=sSub v z3 (nNat (qdi v z7));let z10:Tr PV:=.ite (qfr v z7) (.ite (qbc (qay v2) (qay (qdi v z7)) z3 (nNat (qdi v z7)) (nLen v)) (.ite (qff 4 z9 v2) (.ret (.tup [.agg [.int .i64 (qgO 4 z9 v2),.str (qgB 4 z9 v2),.int .i64 (qel 4 z9 v2),.int .i64 (qek 4 z9 v2),.str (qey 4 z9 v2),.int .i64 (qew 4 z9 v2)],.bool (qgE 4 z9 v2)])) .fail) .fail) .fail;let z11:=sSub v z3 (nNat (qa2 v v2));let z12:=iAdd .i64 v2 (qd8 v v2);let z13:Tr PV:=.ite (iEq z1 34) (.ite (qf3 v v2) (.ite (iLt (qa2 v v2) 0) (.ret (.tup [.agg [.int .i64 0,.str [],.int .i64 0,.int .i64 0,.str [],.int .i64 0],.bool false])) (.ite (qbc (qay v2) (qay (qa2 v v2)) z3 (nNat (qa2 v v2)) (nLen v)) (.ite (qff 5 z11 v2) (.ret (.tup [.agg [.int .i64 (qgO 5 z11 v2),.str (qgB 5 z11 v2),.int .i64 (qel 5 z11 v2),.int .i64 (qek 5 z11 v2),.str (qey 5 z11 v2),.int .i64 (qew 5 z11 v2)],.bool (qgE 5 z11 v2)])) .fail) .fail)) .fail) (.ite (qjV v v2) (.ite (qbc (qay v2) (qay z12) z3 (nNat z12) (nLen v)) (.ite (iEq z12 v2) (.ret (.tup [.agg [.int .i64 0,.str [],.int .i64 0,.int .i64 0,.str [],.int .i64 0],.bool false])) (.ite (iLt 64 (sLen (sSub v z3 (nNat z12)))) (.ret (.tup [.agg [.int .i64 0,.str [],.int .i64 0,.int .i64 0,.str [],.int .i64 0],.bool false])) (.ite (iEq 6 3) (.ite (iNe z12 z7) (.ret (.tup [.agg [.int .i64 0,.str [],.int .i64 0,.int .i64 0,.str [],.int .i64 0],.bool false])) (.ret (.tup [.agg [.int .i64 6,.str (sSub v z3 (nNat z12)),.int .i64 0,.int .i64 0,.str [],.int .i64 v2],.bool true]))) (.ret (.tup [.agg [.int .i64 6,.str (sSub v z3 (nNat z12)),.int .i64 0,.int .i64 0,.str [],.int .i64 v2],.bool true]))))) .fail) .fail);.ite (qaz v v2) (.ite (qid z1) (.ite (qix z1) z8 (.ite (qfc z1) (.ite (qgl z1) z8 (.ite (iEq z1 95) (.ite (qki v v2) (.ite z4 (.ite (iEq z2 v2) (.ret (.tup [.agg [.int .i64 0,.str [],.int .i64 0,.int .i64 0,.str [],.int .i64 0],.bool false])) (.ite z6 (.ret (.tup [.agg [.int .i64 0,.str [],.int .i64 0,.int .i64 0,.str [],.int .i64 0],.bool false])) (.ite (iEq 3 3) (.ite (iNe z2 z7) (.ret (.tup [.agg [.int .i64 0,.str [],.int .i64 0,.int .i64 0,.str [],.int .i64 0],.bool false])) (.ret (.tup [.agg [.int .i64 3,.str z5,.int .i64 0,.int .i64 0,.str [],.int .i64 v2],.bool true]))) (.ret (.tup [.agg [.int .i64 3,.str z5,.int .i64 0,.int .i64 0,.str [],.int .i64 v2],.bool true]))))) .fail) .fail) (.ite (qdK z1) (.ite (qeY z1) z10 (.ite (iEq z1 45) (.ite (iLt z7 (sLen v)) (.ite (qaz v z7) (.ite (qdK (sAt v z7)) (.ite (qeY (sAt v z7)) z10 z13) .fail) .fail) z13) z13)) .fail))) .fail)) .fail) .fail
theorem qTv:(tcall tbT qGv qKD Tryz.f44 [.str v,.int .i64 v2]).flat=qzn v v2:=by kernel_rfl
def qgY:Option PV:=(qzn v v2).run
def qeE:Int:=(gInt (gAt (gCs (gAt (gCs (gVal (qgY v v2))) 0)) 0))
def qds:qU:=(gStr (gAt (gCs (gAt (gCs (gVal (qgY v v2))) 0)) 1))
def qcV:Int:=(gInt (gAt (gCs (gAt (gCs (gVal (qgY v v2))) 0)) 2))
def qcW:Int:=(gInt (gAt (gCs (gAt (gCs (gVal (qgY v v2))) 0)) 3))
def qcU:qU:=(gStr (gAt (gCs (gAt (gCs (gVal (qgY v v2))) 0)) 4))
def qcY:Int:=(gInt (gAt (gCs (gAt (gCs (gVal (qgY v v2))) 0)) 5))
def qgT:Bool:=qyt 1 (qgY v v2)
def qf4:Bool:=isW (qgY v v2) (.tup [.agg [.int .i64 (qeE v v2),.str (qds v v2),.int .i64 (qcV v v2),.int .i64 (qcW v v2),.str (qcU v v2),.int .i64 (qcY v v2)],.bool (qgT v v2)])
end
def qEI:List PV→Tr PV|[.str v,.int .i64 v2]=>.ite (qf4 v v2) (.ret (.tup [.agg [.int .i64 (qeE v v2),.str (qds v v2),.int .i64 (qcV v v2),.int .i64 (qcW v v2),.str (qcU v v2),.int .i64 (qcY v v2)],.bool (qgT v v2)])) (.fail)|_=>.fail
theorem qMq (gl:Gl):SimP Tryz.prog gl 44 fun args=>(qEI args).run:=by
 refine SimP.of_flat (G:=qGv) (L:=qKD) qaj (qNc gl ) qai  Tryz.func44 rfl (by rfl) (by kernel_rfl) (qac (by kernel_rfl)) ?_
 intro args x h;unfold qEI at h
 split at h
 ·exact (congrArg Tr.run (qTv _ _)).trans (qae h fun h=>by cases h)
 ·cases h
def qlm:GamT:=ofL [(43,.pure qKu),(44,.pure qEI)]
theorem qyh (gl:Gl):qal Tryz.prog gl (gam qlm):=(qag (qO3 gl) (qag (qMq gl) qaf))
def qkQ:Code:=qfZ Tryz.f15 5
def qkj:LI:=⟨39,[0,5,6],fun e=>match e with|.ret=>[2,3,4]|.exit 0=>[5]|_=>[],true⟩
def qli:LpsT:=fun r fr σ=>.fail
def qbs (vs:List PV) (σ:Store):Option (PExit×List PV×Store):=lval (lstep tbT qlm qli qkQ qkj) vs σ
section
variable (s:qU) (out:qR) (at_:Int)
def qhE:Tr LR:=let z1:=iAdd .i64 at_ (sLen (qds s at_));let z2:=xApp out [[.int .i64 (qeE s at_),.str (qds s at_),.int .i64 (qcV s at_),.int .i64 (qcW s at_),.str (qcU s at_),.int .i64 (qcY s at_)]];.ite (iLt at_ (sLen s)) (.ite (qf4 s at_) (.ite (bNot (qgT s at_)) (.ret (.out .ret [.sl (qaF 0 []) .full,.int .i64 at_,.int .i64 120] ⟨[],[],[]⟩)) (.ite (qav out [[.int .i64 (qeE s at_),.str (qds s at_),.int .i64 (qcV s at_),.int .i64 (qcW s at_),.str (qcU s at_),.int .i64 (qcY s at_)]] 64) (.ite (qaq [[.int .i64 (qeE s at_),.str (qds s at_),.int .i64 (qcV s at_),.int .i64 (qcW s at_),.str (qcU s at_),.int .i64 (qcY s at_)]] 6) (.ite (qao out 6) (.ite (qgn s z1) (.ret (.next [.str s,.sl (qaF 0 z2) (.tok 0),.int .i64 (qmF s z1)] (Store.mk [] [(nXs z2,6,44)] []))) .fail) .fail) .fail) .fail)) .fail) (.ret (.out (.exit 0) [.sl out .full] ⟨[],[],[]⟩))
theorem qKz:lstep tbT qlm qli qkQ qkj [.str s,.sl out .full,.int .i64 at_] ⟨[],[],[]⟩=qhE s out at_:=by kernel_rfl
theorem qwn:qbs [.str s,.sl out .full,.int .i64 at_] ⟨[],[],[]⟩=lnext qbs (qhE s out at_).run:=by unfold qbs;rw [qaQ,qKz]
end
section
variable (s:qU) (out:qR) (at_:Int) (k:Nat)
def qfY:Tr LR:=let z1:=iAdd .i64 at_ (sLen (qds s at_));let z2:=xApp out [[.int .i64 (qeE s at_),.str (qds s at_),.int .i64 (qcV s at_),.int .i64 (qcW s at_),.str (qcU s at_),.int .i64 (qcY s at_)]];.ite (iLt at_ (sLen s)) (.ite (qf4 s at_) (.ite (bNot (qgT s at_)) (.ret (.out .ret [.sl (qaF 0 []) .full,.int .i64 at_,.int .i64 120] (Store.mk [] [(k,6,44)] []))) (.ite (qav out [[.int .i64 (qeE s at_),.str (qds s at_),.int .i64 (qcV s at_),.int .i64 (qcW s at_),.str (qcU s at_),.int .i64 (qcY s at_)]] 64) (.ite (qaq [[.int .i64 (qeE s at_),.str (qds s at_),.int .i64 (qcV s at_),.int .i64 (qcW s at_),.str (qcU s at_),.int .i64 (qcY s at_)]] 6) (.ite (qao out 6) (.ite (nEq k (nXs out)) (.ite (qgn s z1) (.ret (.next [.str s,.sl (qaF 0 z2) (.tok 0),.int .i64 (qmF s z1)] (Store.mk [] [(nXs z2,6,44)] []))) .fail) .fail) .fail) .fail) .fail)) .fail) (.ret (.out (.exit 0) [.sl out (.tok 0)] (Store.mk [] [(k,6,44)] [])))
theorem qJw:lstep tbT qlm qli qkQ qkj [.str s,.sl out (.tok 0),.int .i64 at_] ⟨[],[(k,6,44)],[]⟩=qfY s out at_ k:=by kernel_rfl
theorem qre:qbs [.str s,.sl out (.tok 0),.int .i64 at_] ⟨[],[(k,6,44)],[]⟩=lnext qbs (qfY s out at_ k).run:=by unfold qbs;rw [qaQ,qJw]
end
section
variable (s:qU) (out:qR) (at_:Int)
def qba:Option (PExit×List PV×Store):=qbs [.str s,.sl out .full,.int .i64 at_] ⟨[],[],[]⟩
def qc2:qR:=qmV 0 (qba s out at_)
def qc0:Int:=qjR 1 (qba s out at_)
def qce:Int:=qjR 2 (qba s out at_)
def qdN:Bool:=isW (qba s out at_) (.ret,[.sl (qc2 s out at_) .full,.int .i64 (qc0 s out at_),.int .i64 (qce s out at_)],⟨[],[],[]⟩)
def qbP:qR:=qmV 0 (qba s out at_)
def qdT:Bool:=isW (qba s out at_) ((.exit 0),[.sl (qbP s out at_) .full],⟨[],[],[]⟩)
def qc4:qR:=qmV 0 (qba s out at_)
def qcZ:Int:=qjR 1 (qba s out at_)
def qch:Int:=qjR 2 (qba s out at_)
def qdV:Nat:=(gTok (qba s out at_) 0)
def qdQ:Bool:=isW (qba s out at_) (.ret,[.sl (qc4 s out at_) .full,.int .i64 (qcZ s out at_),.int .i64 (qch s out at_)],⟨[],[((qdV s out at_),6,44)],[]⟩)
def qbQ:qR:=qmV 0 (qba s out at_)
def qdO:Nat:=(gTok (qba s out at_) 0)
def qd4:Bool:=isW (qba s out at_) ((.exit 0),[.sl (qbQ s out at_) (.tok 0)],⟨[],[((qdO s out at_),6,44)],[]⟩)
end
def qgD:List PV→Store→Tr (PExit×List PV×Store)|[.str s,.sl out .full,.int .i64 at_],⟨[],[],[]⟩=>.ite (qdN s out at_) (.ret (.ret,[.sl (qc2 s out at_) .full,.int .i64 (qc0 s out at_),.int .i64 (qce s out at_)],⟨[],[],[]⟩)) (.ite (qdT s out at_) (.ret ((.exit 0),[.sl (qbP s out at_) .full],⟨[],[],[]⟩)) (.ite (qdQ s out at_) (.ret (.ret,[.sl (qc4 s out at_) .full,.int .i64 (qcZ s out at_),.int .i64 (qch s out at_)],⟨[],[((qdV s out at_),6,44)],[]⟩)) (.ite (qd4 s out at_) (.ret ((.exit 0),[.sl (qbQ s out at_) (.tok 0)],⟨[],[((qdO s out at_),6,44)],[]⟩)) (.fail))))|_,_=>.fail
theorem qJu:∀ vs σ r,(qgD vs σ).run=some r→qbs vs σ=some r:=by
 intro vs σ r h;unfold qgD at h
 split at h
 ·exact qae h fun h=>qae h fun h=>qae h fun h=>qae h fun h=>by cases h
 ·cases h
theorem qDn (gl:Gl):∀ fr σ e fr' σ',(orc qkj qgD fr σ).run=some (e,fr',σ')→LDoes Tryz.prog gl qkQ fr σ e fr' σ':=qcB qaj (qyh gl ) qai (L:=qli) (qac (by kernel_rfl)) (by kernel_rfl) qJu
def qAJ:LpsT:=fun r fr σ=>bif Nat.beq r 5 then orc qkj qgD fr σ else .fail
section
variable (s:qU)
def qog:Tr PV:=let z1:=qmF s 0;.ite (iLt 65536 (sLen s)) (.ret (.tup [.sl [] .non,.int .i64 0,.int .i64 2])) (.ite (qgn s 0) (.ite (qdN s [] z1) (.ret (.tup [.sl (qaa (qc2 s [] z1)) .non,.int .i64 (qc0 s [] z1),.int .i64 (qce s [] z1)])) (.ite (qdT s [] z1) (.ret (.tup [.sl (qaa (qbP s [] z1)) .non,.int .i64 0,.int .i64 0])) (.ite (qdQ s [] z1) (.ret (.tup [.sl (qaa (qc4 s [] z1)) .non,.int .i64 (qcZ s [] z1),.int .i64 (qch s [] z1)])) (.ite (qd4 s [] z1) (.ret (.tup [.sl (qaa (qbQ s [] z1)) .non,.int .i64 0,.int .i64 0])) .fail)))) .fail)
theorem qPN:(tcall tbT qlm qAJ Tryz.f15 [.str s]).flat=qog s:=by kernel_rfl
def qeQ:Option PV:=(qog s).run
def ql9:qR:=qVB 0 (qeQ s)
def qmj:Int:=qp6 1 (qeQ s)
def qdm:Int:=qp6 2 (qeQ s)
def qg4:Bool:=isW (qeQ s) (.tup [.sl (ql9 s) .non,.int .i64 (qmj s),.int .i64 (qdm s)])
end
def qBE:List PV→Tr PV|[.str s]=>.ite (qg4 s) (.ret (.tup [.sl (ql9 s) .non,.int .i64 (qmj s),.int .i64 (qdm s)])) (.fail)|_=>.fail
theorem qIO (gl:Gl):SimP Tryz.prog gl 15 fun args=>(qBE args).run:=by
 refine SimP.of_flat (G:=qlm) (L:=qAJ) qaj (qyh gl ) qai  Tryz.func15 rfl (by rfl) (by kernel_rfl) (qaD (L:=lps qAJ) [(5,qkQ)] (by kernel_rfl) (List.forall_mem_cons.2 ⟨fun fr σ e fr' σ' h=>qDn gl  fr σ e fr' σ' h,(List.forall_mem_nil _)⟩)) ?_
 intro args x h;unfold qBE at h
 split at h
 ·exact (congrArg Tr.run (qPN _)).trans (qae h fun h=>by cases h)
 ·cases h
end Go.Pv
set_option maxHeartbeats 4000000
set_option maxRecDepth 200000
set_option linter.unusedSimpArgs false
set_option linter.unusedVariables false
namespace Go.Pv
open Go Go.Proofs
def qvX:GamT:=ofL [(15,.pure qBE)]
theorem qMZ (gl:Gl):qal Tryz.prog gl (gam qvX):=(qag (qIO gl) qaf)
def qBo:LpsT:=fun r fr σ=>.fail
section
variable (s:qU)
def qjH:Tr (PV×Store):=let z1:List PV:=[.str [],.sl [] .full,.sl [] .full];.ite (qg4 s) (.ite (iNe (qdm s) 0) (.ret (.tup [.nilp,.int .i64 (qmj s),.int .i64 (qdm s)],Store.mk [z1] [] [51])) (.ret (.tup [.ptr 1 0,.int .i64 0,.int .i64 0],Store.mk [z1,[.sl (ql9 s) .non,.int .i64 0,.int .i64 (sLen s),.bool false,.int .i64 0]] [] [51,76]))) .fail
theorem qSe:(qop tbT qvX qBo Tryz.f36 [.str s] ⟨[[.str [],.sl [] .full,.sl [] .full]],[],[51]⟩).flat=qjH s:=by kernel_rfl
def qbL:Option (PV×Store):=(qjH s).run
def qov:Int:=(gInt (gAt (gCs (gOut (qaX (qbL s)) 0)) 1))
def qhw:Int:=(gInt (gAt (gCs (gOut (qaX (qbL s)) 0)) 2))
def qwv:qU:=(gStr (gAt (gObj (qaX (qbL s)) 0) 0))
def qu6:qR:=(gRow (gAt (gObj (qaX (qbL s)) 0) 1))
def qrz:qR:=(gRow (gAt (gObj (qaX (qbL s)) 0) 2))
def qwp:Bool:=isW (qbL s) (.tup [.nilp,.int .i64 (qov s),.int .i64 (qhw s)],⟨[[.str (qwv s),.sl (qu6 s) .full,.sl (qrz s) .full]],[],[51]⟩)
def qpD:Int:=(gInt (gAt (gCs (gOut (qaX (qbL s)) 0)) 1))
def qht:Int:=(gInt (gAt (gCs (gOut (qaX (qbL s)) 0)) 2))
def qv8:qU:=(gStr (gAt (gObj (qaX (qbL s)) 0) 0))
def quZ:qR:=(gRow (gAt (gObj (qaX (qbL s)) 0) 1))
def qrX:qR:=(gRow (gAt (gObj (qaX (qbL s)) 0) 2))
def qlA:qR:=(gRow (gAt (gObj (qaX (qbL s)) 1) 0))
def qlb:Int:=(gInt (gAt (gObj (qaX (qbL s)) 1) 1))
def qmm:Int:=(gInt (gAt (gObj (qaX (qbL s)) 1) 2))
def qwe:Bool:=isW (qbL s) (.tup [.ptr 1 0,.int .i64 (qpD s),.int .i64 (qht s)],⟨[[.str (qv8 s),.sl (quZ s) .full,.sl (qrX s) .full],[.sl (qlA s) .non,.int .i64 (qlb s),.int .i64 (qmm s),.bool false,.int .i64 0]],[],[51,76]⟩)
def qfT:Tr (PV×Store):=.ite (qg4 s) (.ite (iNe (qdm s) 0) (.ret (.tup [.nilp,.int .i64 (qmj s),.int .i64 (qdm s)],Store.mk [[.str [],.sl [] .full]] [] [48])) (.ret (.tup [.ptr 1 0,.int .i64 0,.int .i64 0],Store.mk [[.str [],.sl [] .full],[.sl (ql9 s) .non,.int .i64 0,.int .i64 (sLen s),.bool false,.int .i64 0]] [] [48,76]))) .fail
theorem qPO:(qop tbT qvX qBo Tryz.f36 [.str s] ⟨[[.str [],.sl [] .full]],[],[48]⟩).flat=qfT s:=by kernel_rfl
def qbv:Option (PV×Store):=(qfT s).run
def qlq:Int:=(gInt (gAt (gCs (gOut (qaX (qbv s)) 0)) 1))
def qgd:Int:=(gInt (gAt (gCs (gOut (qaX (qbv s)) 0)) 2))
def qrw:qU:=(gStr (gAt (gObj (qaX (qbv s)) 0) 0))
def qrp:qR:=(gRow (gAt (gObj (qaX (qbv s)) 0) 1))
def qqF:Bool:=isW (qbv s) (.tup [.nilp,.int .i64 (qlq s),.int .i64 (qgd s)],⟨[[.str (qrw s),.sl (qrp s) .full]],[],[48]⟩)
def qlT:Int:=(gInt (gAt (gCs (gOut (qaX (qbv s)) 0)) 1))
def qf1:Int:=(gInt (gAt (gCs (gOut (qaX (qbv s)) 0)) 2))
def qrq:qU:=(gStr (gAt (gObj (qaX (qbv s)) 0) 0))
def qq3:qR:=(gRow (gAt (gObj (qaX (qbv s)) 0) 1))
def qje:qR:=(gRow (gAt (gObj (qaX (qbv s)) 1) 0))
def qiA:Int:=(gInt (gAt (gObj (qaX (qbv s)) 1) 1))
def qiz:Int:=(gInt (gAt (gObj (qaX (qbv s)) 1) 2))
def qq2:Bool:=isW (qbv s) (.tup [.ptr 1 0,.int .i64 (qlT s),.int .i64 (qf1 s)],⟨[[.str (qrq s),.sl (qq3 s) .full],[.sl (qje s) .non,.int .i64 (qiA s),.int .i64 (qiz s),.bool false,.int .i64 0]],[],[48,76]⟩)
def qDS:Tr (PV×Store):=let z1:List PV:=[.sl [] .full,.sl [] .full,.sl [] .full];.ite (qg4 s) (.ite (iNe (qdm s) 0) (.ret (.tup [.nilp,.int .i64 (qmj s),.int .i64 (qdm s)],Store.mk [z1] [] [27])) (.ret (.tup [.ptr 1 0,.int .i64 0,.int .i64 0],Store.mk [z1,[.sl (ql9 s) .non,.int .i64 0,.int .i64 (sLen s),.bool false,.int .i64 0]] [] [27,76]))) .fail
theorem qOE:(qop tbT qvX qBo Tryz.f36 [.str s] ⟨[[.sl [] .full,.sl [] .full,.sl [] .full]],[],[27]⟩).flat=qDS s:=by kernel_rfl
def qbU:Option (PV×Store):=(qDS s).run
def qru:Int:=(gInt (gAt (gCs (gOut (qaX (qbU s)) 0)) 1))
def qmJ:Int:=(gInt (gAt (gCs (gOut (qaX (qbU s)) 0)) 2))
def qqX:qR:=(gRow (gAt (gObj (qaX (qbU s)) 0) 0))
def qnu:qR:=(gRow (gAt (gObj (qaX (qbU s)) 0) 1))
def qny:qR:=(gRow (gAt (gObj (qaX (qbU s)) 0) 2))
def qye:Bool:=isW (qbU s) (.tup [.nilp,.int .i64 (qru s),.int .i64 (qmJ s)],⟨[[.sl (qqX s) .full,.sl (qnu s) .full,.sl (qny s) .full]],[],[27]⟩)
def qrG:Int:=(gInt (gAt (gCs (gOut (qaX (qbU s)) 0)) 1))
def qni:Int:=(gInt (gAt (gCs (gOut (qaX (qbU s)) 0)) 2))
def qrl:qR:=(gRow (gAt (gObj (qaX (qbU s)) 0) 0))
def qm9:qR:=(gRow (gAt (gObj (qaX (qbU s)) 0) 1))
def qmH:qR:=(gRow (gAt (gObj (qaX (qbU s)) 0) 2))
def qnc:qR:=(gRow (gAt (gObj (qaX (qbU s)) 1) 0))
def qmI:Int:=(gInt (gAt (gObj (qaX (qbU s)) 1) 1))
def qn7:Int:=(gInt (gAt (gObj (qaX (qbU s)) 1) 2))
def qx6:Bool:=isW (qbU s) (.tup [.ptr 1 0,.int .i64 (qrG s),.int .i64 (qni s)],⟨[[.sl (qrl s) .full,.sl (qm9 s) .full,.sl (qmH s) .full],[.sl (qnc s) .non,.int .i64 (qmI s),.int .i64 (qn7 s),.bool false,.int .i64 0]],[],[27,76]⟩)
end
def qzc:List PV→Store→Tr (PV×Store)|[.str s],⟨[[.str [],.sl [] .full,.sl [] .full]],[],[51]⟩=>.ite (qwp s) (.ret (.tup [.nilp,.int .i64 (qov s),.int .i64 (qhw s)],⟨[[.str (qwv s),.sl (qu6 s) .full,.sl (qrz s) .full]],[],[51]⟩)) (.ite (qwe s) (.ret (.tup [.ptr 1 0,.int .i64 (qpD s),.int .i64 (qht s)],⟨[[.str (qv8 s),.sl (quZ s) .full,.sl (qrX s) .full],[.sl (qlA s) .non,.int .i64 (qlb s),.int .i64 (qmm s),.bool false,.int .i64 0]],[],[51,76]⟩)) (.fail))|[.str s],⟨[[.str [],.sl [] .full]],[],[48]⟩=>.ite (qqF s) (.ret (.tup [.nilp,.int .i64 (qlq s),.int .i64 (qgd s)],⟨[[.str (qrw s),.sl (qrp s) .full]],[],[48]⟩)) (.ite (qq2 s) (.ret (.tup [.ptr 1 0,.int .i64 (qlT s),.int .i64 (qf1 s)],⟨[[.str (qrq s),.sl (qq3 s) .full],[.sl (qje s) .non,.int .i64 (qiA s),.int .i64 (qiz s),.bool false,.int .i64 0]],[],[48,76]⟩)) (.fail))|[.str s],⟨[[.sl [] .full,.sl [] .full,.sl [] .full]],[],[27]⟩=>.ite (qye s) (.ret (.tup [.nilp,.int .i64 (qru s),.int .i64 (qmJ s)],⟨[[.sl (qqX s) .full,.sl (qnu s) .full,.sl (qny s) .full]],[],[27]⟩)) (.ite (qx6 s) (.ret (.tup [.ptr 1 0,.int .i64 (qrG s),.int .i64 (qni s)],⟨[[.sl (qrl s) .full,.sl (qm9 s) .full,.sl (qmH s) .full],[.sl (qnc s) .non,.int .i64 (qmI s),.int .i64 (qn7 s),.bool false,.int .i64 0]],[],[27,76]⟩)) (.fail))|_,_=>.fail
theorem qDT (gl:Gl):SimS Tryz.prog gl 36 fun args σ=>(qzc args σ).run:=by
 refine SimS.of_flat (G:=qvX) (L:=qBo) qaj (qMZ gl ) qai Tryz.func36 rfl (by rfl) (by kernel_rfl) (qac (by kernel_rfl)) ?_
 intro args σ x h;unfold qzc at h
 split at h
 ·exact (congrArg Tr.run (qSe _)).trans (qae h fun h=>qae h fun h=>by cases h)
 ·exact (congrArg Tr.run (qPO _)).trans (qae h fun h=>qae h fun h=>by cases h)
 ·exact (congrArg Tr.run (qOE _)).trans (qae h fun h=>qae h fun h=>by cases h)
 ·cases h
def qFe:GamT:=ofL [(36,.store qzc),(40,.may (frameT qES)),(48,.may (frameT qHe))]
theorem qML (gl:Gl):qal Tryz.prog gl (gam qFe):=(qcf (qDT gl) (qah (SimM.frameT (qM6 gl)) (qah (SimM.frameT (qHG gl)) qaf)))
def qNE:LpsT:=fun r fr σ=>.fail
section
variable (s:qU)
def qjc:Tr PV:=let z1:List PV:=[.str [],.sl [] .non,.sl [] .non];let z2:=qad (qlA s);let z3:=qlb s;let z4:=qmm s;let z5:=qad (qaa z2);let z6:=qqp z2 z3 z4;.ite (qwp s) (.ite (iNe (qhw s) 0) (.ret (.tup [.agg z1,.int .i64 (qov s),.int .i64 (qhw s)])) .fail) (.ite (qwe s) (.ite (iNe (qht s) 0) (.ret (.tup [.agg z1,.int .i64 (qpD s),.int .i64 (qht s)])) (.ite (qwa z2 z3 z4) (.ite (qqj z5 (qoB z2 z3 z4) z4 (qhf z2 z3 z4)) (.ite true (.ret (.tup [.agg z1,.int .i64 (qhf z2 z3 z4),.int .i64 130])) (.ret (.tup [.agg [.str (qo3 z2 z3 z4),.sl (qaa (qaa (qpU z2 z3 z4))) .non,.sl (qaa (qaa (qk8 z2 z3 z4))) .non],.int .i64 0,.int .i64 0]))) .fail) (.ite (qwK z2 z3 z4) (.ite (qsv z5 z6 z4) (.ite true (.ret (.tup [.agg z1,.int .i64 (qke z5 z6 z4),.int .i64 130])) (.ret (.tup [.agg [.str (qkw z2 z3 z4),.sl (qaa (qaa (qkI z2 z3 z4))) .non,.sl (qaa (qaa (qif z2 z3 z4))) .non],.int .i64 0,.int .i64 0]))) (.ite (qux z5 z6 z4) (.ite false (.ret (.tup [.agg z1,.int .i64 0,.int .i64 130])) (.ret (.tup [.agg [.str (qkw z2 z3 z4),.sl (qaa (qaa (qkI z2 z3 z4))) .non,.sl (qaa (qaa (qif z2 z3 z4))) .non],.int .i64 0,.int .i64 0]))) .fail)) .fail))) .fail)
theorem qSR:(tcall tbT qFe qNE Tryz.f17 [.str s]).flat=qjc s:=by kernel_rfl
def qeD:Option PV:=(qjc s).run
def qw8:qU:=(gStr (gAt (gCs (gAt (gCs (gVal (qeD s))) 0)) 0))
def qvi:qR:=(gRow (gAt (gCs (gAt (gCs (gVal (qeD s))) 0)) 1))
def qoA:qR:=(gRow (gAt (gCs (gAt (gCs (gVal (qeD s))) 0)) 2))
def qAW:Int:=qp6 1 (qeD s)
def qtH:Int:=qp6 2 (qeD s)
def qvT:Bool:=isW (qeD s) (.tup [.agg [.str (qw8 s),.sl (qvi s) .non,.sl (qoA s) .non],.int .i64 (qAW s),.int .i64 (qtH s)])
end
def qE8:List PV→Tr PV|[.str s]=>.ite (qvT s) (.ret (.tup [.agg [.str (qw8 s),.sl (qvi s) .non,.sl (qoA s) .non],.int .i64 (qAW s),.int .i64 (qtH s)])) (.fail)|_=>.fail
theorem qLP (gl:Gl):SimP Tryz.prog gl 17 fun args=>(qE8 args).run:=by
 refine SimP.of_flat (G:=qFe) (L:=qNE) qaj (qML gl ) qai  Tryz.func17 rfl (by rfl) (by kernel_rfl) (qac (by kernel_rfl)) ?_
 intro args x h;unfold qE8 at h
 split at h
 ·exact (congrArg Tr.run (qSR _)).trans (qae h fun h=>by cases h)
 ·cases h
def qGR:GamT:=ofL [(36,.store qzc),(48,.may (frameT qHe)),(52,.may (frameT qxn))]
theorem qNd (gl:Gl):qal Tryz.prog gl (gam qGR):=(qcf (qDT gl) (qah (SimM.frameT (qHG gl)) (qah (SimM.frameT (qwE gl)) qaf)))
def qKh:LpsT:=fun r fr σ=>.fail
section
variable (s:qU)
def qiY:Tr PV:=let z1:List PV:=[.str [],.sl [] .non];let z2:=qad (qje s);let z3:=qiA s;let z4:=qiz s;let z5:=qad (qaa z2);let z6:=qfu z2 z3 z4;.ite (qqF s) (.ite (iNe (qgd s) 0) (.ret (.tup [.agg z1,.int .i64 (qlq s),.int .i64 (qgd s)])) .fail) (.ite (qq2 s) (.ite (iNe (qf1 s) 0) (.ret (.tup [.agg z1,.int .i64 (qlT s),.int .i64 (qf1 s)])) (.ite (qhB z2 z3 z4) (.ite (qqj z5 (qf2 z2 z3 z4) z4 (qc8 z2 z3 z4)) (.ite true (.ret (.tup [.agg z1,.int .i64 (qc8 z2 z3 z4),.int .i64 130])) (.ret (.tup [.agg [.str (qf6 z2 z3 z4),.sl (qaa (qaa (qfM z2 z3 z4))) .non],.int .i64 0,.int .i64 0]))) .fail) (.ite (qhK z2 z3 z4) (.ite (qsv z5 z6 z4) (.ite true (.ret (.tup [.agg z1,.int .i64 (qke z5 z6 z4),.int .i64 130])) (.ret (.tup [.agg [.str (qei z2 z3 z4),.sl (qaa (qaa (qen z2 z3 z4))) .non],.int .i64 0,.int .i64 0]))) (.ite (qux z5 z6 z4) (.ite false (.ret (.tup [.agg z1,.int .i64 0,.int .i64 130])) (.ret (.tup [.agg [.str (qei z2 z3 z4),.sl (qaa (qaa (qen z2 z3 z4))) .non],.int .i64 0,.int .i64 0]))) .fail)) .fail))) .fail)
theorem qSQ:(tcall tbT qGR qKh Tryz.f19 [.str s]).flat=qiY s:=by kernel_rfl
def qfN:Option PV:=(qiY s).run
def qvu:qU:=(gStr (gAt (gCs (gAt (gCs (gVal (qfN s))) 0)) 0))
def qu9:qR:=(gRow (gAt (gCs (gAt (gCs (gVal (qfN s))) 0)) 1))
def qBT:Int:=qp6 1 (qfN s)
def qsy:Int:=qp6 2 (qfN s)
def quX:Bool:=isW (qfN s) (.tup [.agg [.str (qvu s),.sl (qu9 s) .non],.int .i64 (qBT s),.int .i64 (qsy s)])
end
def qGz:List PV→Tr PV|[.str s]=>.ite (quX s) (.ret (.tup [.agg [.str (qvu s),.sl (qu9 s) .non],.int .i64 (qBT s),.int .i64 (qsy s)])) (.fail)|_=>.fail
theorem qKT (gl:Gl):SimP Tryz.prog gl 19 fun args=>(qGz args).run:=by
 refine SimP.of_flat (G:=qGR) (L:=qKh) qaj (qNd gl ) qai  Tryz.func19 rfl (by rfl) (by kernel_rfl) (qac (by kernel_rfl)) ?_
 intro args x h;unfold qGz at h
 split at h
 ·exact (congrArg Tr.run (qSQ _)).trans (qae h fun h=>by cases h)
 ·cases h
end Go.Pv
set_option maxHeartbeats 4000000
set_option maxRecDepth 200000
set_option linter.unusedSimpArgs false
set_option linter.unusedVariables false
namespace Go.Pv
open Go Go.Proofs
def qzW:GamT:=ofL [(10,.pure qNi),(14,.pure qAK),(16,.pure qAq),(17,.pure qE8),(18,.pure qFr),(19,.pure qGz),(20,.pure qzP),(21,.pure qsX)]
theorem qJN (gl:Gl) (hg:GlLex gl):qal Tryz.prog gl (gam qzW):=(qag (qQl gl) (qag (qJj gl hg) (qag (qDR gl hg) (qag (qLP gl) (qag (qMX gl hg) (qag (qKT gl) (qag (qJQ gl) (qag (qyP gl) qaf))))))))
def qIE:LpsT:=fun r fr σ=>.fail
def qwB (v:qU):Tr PV:=let z1:=qHl v;.ite (qzt v) (.ite (qpL z1) (.ite (qvT z1) (.ite (qvd z1) (.ite (quX z1) (.ite (qrt (qrN z1) (qad (qwb z1)) (qad (qlN z1)) (qw8 z1) (qad (qvi z1)) (qad (qoA z1))) (.ite (qtU (qrN z1) (qad (qwb z1)) (qad (qlN z1)) (qw8 z1) (qad (qvi z1)) (qad (qoA z1))) (.ite (iEq (qzY z1) (qAW z1)) (.ite (iEq (qoN z1) (qtH z1)) (.ite (qhk (qvK z1) (qad (qwX z1)) (qvu z1) (qad (qu9 z1))) (.ite (qlp (qvK z1) (qad (qwX z1)) (qvu z1) (qad (qu9 z1))) (.ite (iEq (qzz z1) (qBT z1)) (.ite (iEq (qt6 z1) (qsy z1)) (.ite qqG (.ret (.bool qup)) .fail) (.ret (.bool false))) (.ret (.bool false))) (.ret (.bool false))) .fail) (.ret (.bool false))) (.ret (.bool false))) (.ret (.bool false))) .fail) .fail) .fail) .fail) .fail) .fail
theorem qQh (v:qU):(tcall tbT qzW qIE Tryz.f7 [.str v]).flat=qwB v:=by kernel_rfl
def qoL:List PV→Tr PV|[.str v]=>qwB v|_=>.fail
theorem qJR (gl:Gl) (hg:GlLex gl):SimP Tryz.prog gl 7 fun args=>(qoL args).run:=by
 refine SimP.of_flat (G:=qzW) (L:=qIE) qaj (qJN gl hg ) qai  Tryz.func7 rfl (by rfl) (by kernel_rfl) (qac (by kernel_rfl)) ?_
 intro args x h;unfold qoL at h
 split at h
 ·exact (congrArg Tr.run (qQh _)).trans h
 ·cases h
end Go.Pv
set_option maxHeartbeats 4000000
set_option linter.unusedSimpArgs false
set_option linter.unusedVariables false
namespace Go.Pv
def qfK (b:UInt8):Bool:=decide (97≤b.toNat)&&decide (b.toNat≤122)
def qkv (b:UInt8):Bool:=decide (65≤b.toNat)&&decide (b.toNat≤90)
def qaw (b:UInt8):Bool:=decide (48≤b.toNat)&&decide (b.toNat≤57)
def innB (b:UInt8):Bool:=qfK b || qkv b || qaw b || decide (b.toNat=95)
def blB (b:UInt8):Bool:=decide (b.toNat=32) || decide (b.toNat=9) || decide (b.toNat=10) || decide (b.toNat=13)
def runL (p:UInt8→Bool):qU→Nat
 |[]=>0
 |b::s=>if p b then runL p s+1 else 0
def incN (n:Nat):Nat:=if n=0 then 0 else n+1
def quoE:Bool→qU→Nat
 |_,[]=>0
 |true,_::s=>incN (quoE false s)
 |false,b::s=>if b.toNat=34 then 1 else if b.toNat=92 then incN (quoE true s) else incN (quoE false s)
def quoL (s:qU):Nat:=quoE false s
theorem qFL {n m:Nat} (h:n≤m):incN n≤m+1:=by unfold incN;split<;>omega
def gapL:Bool→qU→Nat
 |_,[]=>0
 |c,b::s=>if c || blB b || decide (b.toNat=37) then gapL (decide (b.toNat=37) || c&&decide (b.toNat≠10)) s+1 else 0
def qmz (b:UInt8):Bool:=[40,41,44,46,43,45,61,58,60,62].contains b.toNat
def twoB (a b:UInt8):Bool:=decide (a.toNat=58∧b.toNat=45) || decide (a.toNat=60∧b.toNat=61) || decide (a.toNat=62∧b.toNat=61) || decide (a.toNat=33∧b.toNat=61)
def hdIs (p:UInt8→Bool):qU→Bool
 |[]=>false
 |b::_=>p b
def qdS (c:UInt8) (t:qU):Nat:=if hdIs (twoB c) t then 2 else if qmz c then 1 else 0
def valL (k:Int) (s:qU) (n:Nat):Option (Int×Nat×Vl):=match rdV (s.take n) with
 |some v=>some (k,n,v)
 |none=>none
def wdL:qU→Option (Int×Nat×Vl)
 |[]=>none
 |c::t =>
  if qfK c then (if runL innB t+1≤64 then some (1,runL innB t+1,0,0,[]) else none)
  else if qkv c then (if runL innB t+1≤64 then some (2,runL innB t+1,0,0,[]) else none)
  else if c.toNat=95 then (if hdIs innB t then none else some (3,1,0,0,[]))
  else if qaw c || (decide (c.toNat=45)&&hdIs qaw t) then valL 4 (c::t) (runL qaw t+1)
  else if c.toNat=34 then (if quoL t=0 then none else valL 5 (c::t) (quoL t+1))
  else if qdS c t=0 then none else some (6,qdS c t,0,0,[])
abbrev Wd:=Int×List UInt8×Vl×Int
def lexL:Nat→Nat→qU→List Wd×Option Nat
 |0,_,_=>([],none)
 |n+1,at_,s=>match s with
  |[]=>([],none)
  |_=>match wdL s with
   |none=>([],some at_)
   |some (k,m,v) =>
    let r:=lexL n (at_+m+gapL false (s.drop m)) (s.drop (m+gapL false (s.drop m)))
    ((k,s.take m,v,(at_:Int))::r.1,r.2)
def qbM (s:qU):List Wd×Option Nat:=lexL (s.length+1) (gapL false s) (s.drop (gapL false s))
theorem qnD (p:UInt8→Bool):∀ s:qU,runL p s≤s.length
 |[]=>Nat.le_refl _
 |b::s=>by
  have:=qnD p s;unfold runL;split<;>simp only [List.length_cons]<;>omega
theorem qy6:∀ (e:Bool) (s:qU),quoE e s≤s.length
 |_,[]=>by cases ‹Bool›<;>exact Nat.le_refl _
 |true,_::s=>qFL (qy6 false s)
 |false,b::s=>by
  have h1:=qFL (qy6 true s);have h2:=qFL (qy6 false s);simp only [quoE,List.length_cons];split
  ·omega
  ·split
   ·exact h1
   ·exact h2
theorem qGo (s:qU):quoL s≤s.length:=qy6 false s
theorem qmQ:∀ (c:Bool) (s:qU),gapL c s≤s.length
 |_,[]=>Nat.le_refl _
 |c,b::s=>by
  have:=qmQ (decide (b.toNat=37) || c&&decide (b.toNat≠10)) s;unfold gapL;split<;>simp only [List.length_cons]<;>omega
theorem qvz {s:List UInt8} {k:Int} {m:Nat} {v:Vl} (h:wdL s=some (k,m,v)):1≤m∧m≤s.length:=by
 cases s with
 |nil=>cases h
 |cons c t =>
  have h1:=qnD innB t;have h2:=qnD qaw t;have h3:=qGo t;have h4:qdS c t≤(c::t).length:=by
   unfold qdS;cases t with
   |nil=>cases qmz c<;>simp [hdIs]
   |cons d t=>cases hdIs (twoB c) (d::t)<;>cases qmz c<;>simp
  simp only [wdL] at h
  simp only [List.length_cons] at h4 ⊢
  repeat' (split at h)
  all_goals first|(cases h;done)|skip
  all_goals first|(cases h;omega)|(unfold valL at h;split at h<;>first|(cases h;done)|(cases h;omega))
def cW:Cod Wd where
 enc t:=[.int .i64 t.1,.str t.2.1,.int .i64 t.2.2.1.1,.int .i64 t.2.2.1.2.1,.str t.2.2.1.2.2,.int .i64 t.2.2.2]
 dec c:=match c with|[.int .i64 a,.str b,.int .i64 k,.int .i64 n,.str s,.int .i64 p]=>some (a,b,(k,n,s),p)|_=>none
 k:=6
 of_dec c a h:=by
  split at h
  ·cases h;rfl
  ·cases h
 dec_of a:=rfl
 lock a:=rfl
 shut a:=rfl
 len a:=rfl
 one a:=rfl
@[simp] theorem okSize_cW (l:List Wd):qao (rOf cW l) 6=true:=qb4 cW l
@[simp] theorem okNews_cW (l:List Wd):qaq (rOf cW l) 6=true:=qb6 cW l
@[simp] theorem okGet_cW (l:List Wd) (i:Nat):qbV [.int .i64 0,.str [],.int .i64 0,.int .i64 0,.str [],.int .i64 0] (rOf cW l) i=decide (i < l.length):=qcS _ _ (fun _=>rfl) l i
@[simp] theorem xInt_cW0 (l:List Wd) (i:Nat):xInt (rOf cW l) i 0=(l[i]?.getD (0,[],(0,0,[]),0)).1:=by unfold xInt;rw [qap];cases l[i]?<;>rfl
@[simp] theorem xStr_cW1 (l:List Wd) (i:Nat):xStr (rOf cW l) i 1=(l[i]?.getD (0,[],(0,0,[]),0)).2.1:=by unfold xStr;rw [qap];cases l[i]?<;>rfl
@[simp] theorem xInt_cW2 (l:List Wd) (i:Nat):xInt (rOf cW l) i 2=(l[i]?.getD (0,[],(0,0,[]),0)).2.2.1.1:=by unfold xInt;rw [qap];cases l[i]?<;>rfl
@[simp] theorem xInt_cW3 (l:List Wd) (i:Nat):xInt (rOf cW l) i 3=(l[i]?.getD (0,[],(0,0,[]),0)).2.2.1.2.1:=by unfold xInt;rw [qap];cases l[i]?<;>rfl
@[simp] theorem xStr_cW4 (l:List Wd) (i:Nat):xStr (rOf cW l) i 4=(l[i]?.getD (0,[],(0,0,[]),0)).2.2.1.2.2:=by unfold xStr;rw [qap];cases l[i]?<;>rfl
@[simp] theorem xInt_cW5 (l:List Wd) (i:Nat):xInt (rOf cW l) i 5=(l[i]?.getD (0,[],(0,0,[]),0)).2.2.2:=by unfold xInt;rw [qap];cases l[i]?<;>rfl
theorem qNC (l:List Wd) (a:Int) (b:qU) (k n:Int) (s:qU) (p:Int):rOf cW l++[[.int .i64 a,.str b,.int .i64 k,.int .i64 n,.str s,.int .i64 p]]=rOf cW (l++[(a,b,(k,n,s),p)]):=by rw [qga];rfl
theorem qRk (a:Int) (b:qU) (k n:Int) (s:qU) (p:Int):([[.int .i64 a,.str b,.int .i64 k,.int .i64 n,.str s,.int .i64 p]]:List (List PV))=rOf cW [(a,b,(k,n,s),p)]:=rfl
@[simp] theorem qLt (l:List Wd) (a:Int) (b:qU) (k n:Int) (s:qU) (p:Int):[.int .i64 a,.str b,.int .i64 k,.int .i64 n,.str s,.int .i64 p]::rOf cW l=rOf cW ((a,b,(k,n,s),p)::l):=rfl
end Go.Pv
set_option maxHeartbeats 4000000
set_option maxRecDepth 200000
set_option linter.unusedSimpArgs false
set_option linter.unusedVariables false
namespace Go.Pv
open Go Go.Proofs Go.RowKit
def smI (c:Int):Bool:=decide (97≤c)&&decide (c≤122)
def grI (c:Int):Bool:=decide (65≤c)&&decide (c≤90)
def dgI (c:Int):Bool:=decide (48≤c)&&decide (c≤57)
def inI (c:Int):Bool:=smI c || grI c || dgI c || decide (c=95)
theorem qId (b:UInt8):smI (b.toNat:Int)=qfK b:=by unfold smI qfK;congr 1<;>(apply decide_eq_decide.2;omega)
theorem qHh (b:UInt8):grI (b.toNat:Int)=qkv b:=by unfold grI qkv;congr 1<;>(apply decide_eq_decide.2;omega)
theorem qdG (b:UInt8):dgI (b.toNat:Int)=qaw b:=by unfold dgI qaw;congr 1<;>(apply decide_eq_decide.2;omega)
theorem qom (b:UInt8):inI (b.toNat:Int)=innB b:=by
 unfold inI innB;rw [qId,qHh,qdG]
 congr 1
 apply decide_eq_decide.2;omega
theorem qyH (c:Int):qtS c=some (.bool (dgI c)):=by
 unfold qtS qvj dgI
 try dsimp only
 by_cases h:(48:Int)≤c<;>simp [h]
@[simp] theorem qdv (c:Int):qco c=true:=by simp [qco,qbw,qyH]
@[simp] theorem ldigit_v (c:Int):qbw c=dgI c:=by simp [qbw,qyH]
theorem qr8 (c:Int):qmh c=some (.bool (inI c)):=by
 unfold qmh qn1 inI smI grI
 try dsimp only
 by_cases h1:(97:Int)≤c<;>by_cases h2:c≤122<;>by_cases h3:(65:Int)≤c<;>by_cases h4:c≤90<;>by_cases h5:c=95<;>simp [h1,h2,h3,h4,h5]
@[simp] theorem lfollows_is (c:Int):qc7 c=true:=by simp [qc7,qc6,qr8]
@[simp] theorem lfollows_v (c:Int):qc6 c=inI c:=by simp [qc6,qr8]
theorem qLi (s:qU) (hs:s.length < 9223372036854775807):∀ (m i:Nat),i+m=s.length→qfS [.str s,.fn 172 [],.int .i64 (i:Nat)] ⟨[],[],[]⟩=some (.exit 0,[.int .i64 ((i+runL innB (s.drop i):Nat):Int)],⟨[],[],[]⟩):=by
 intro m
 induction m with
 |zero =>
  intro i hi;rw [qKH,List.drop_eq_nil_of_le (by omega)]
  have:¬ (i:Int) < s.length:=by omega
  simp [qoY,runL,this]
 |succ m ih =>
  intro i hi;obtain⟨b,hb⟩:=qeK (l:=s) (i:=i) (by omega)
  have hbe:=(List.getElem?_eq_some_iff.1 hb).2;have w:=qbS (i:=i) (by omega)
  have hlt:i < s.length:=by omega
  have h1:=ih (i+1) (by omega)
  rw [qaR hb,qKH];cases hc:innB b with
  |true =>
   have e:i+(runL innB (s.drop (i+1))+1)=i+1+runL innB (s.drop (i+1)):=by omega
   simp only [runL,hc,if_true,e];rw [← h1];simp [qoY,hlt,hbe,qom,hc,w]
  |false=>simp [qoY,hlt,hbe,qom,hc,runL]
theorem qJ2 (s:qU) (hs:s.length < 9223372036854775807):∀ (m i:Nat),i+m=s.length→qfS [.str s,.fn 173 [],.int .i64 (i:Nat)] ⟨[],[],[]⟩=some (.exit 0,[.int .i64 ((i+runL qaw (s.drop i):Nat):Int)],⟨[],[],[]⟩):=by
 intro m
 induction m with
 |zero =>
  intro i hi;rw [qHZ,List.drop_eq_nil_of_le (by omega)]
  have:¬ (i:Int) < s.length:=by omega
  simp [qkn,runL,this]
 |succ m ih =>
  intro i hi;obtain⟨b,hb⟩:=qeK (l:=s) (i:=i) (by omega)
  have hbe:=(List.getElem?_eq_some_iff.1 hb).2;have w:=qbS (i:=i) (by omega)
  have hlt:i < s.length:=by omega
  have h1:=ih (i+1) (by omega)
  rw [qaR hb,qHZ];cases hc:qaw b with
  |true =>
   have e:i+(runL qaw (s.drop (i+1))+1)=i+1+runL qaw (s.drop (i+1)):=by omega
   simp only [runL,hc,if_true,e];rw [← h1];simp [qkn,hlt,hbe,qdG,hc,w]
  |false=>simp [qkn,hlt,hbe,qdG,hc,runL]
theorem qHr {s:List UInt8} (hs:s.length < 9223372036854775807):qIx s=some (.int .i64 (runL innB s:Nat)):=by
 have h:=qLi s hs s.length 0 (by omega)
 simp at h
 unfold qIx qF1
 try dsimp only
 simp [qvI,qBb,qFV,h]
theorem qSu {s:List UInt8} (hs:s.length < 9223372036854775807):qus s=true:=by simp [qus,qow,qHr hs]
theorem qVf {s:List UInt8} (hs:s.length < 9223372036854775807):qow s=(runL innB s:Nat):=by simp [qow,qHr hs]
theorem qDw {s:List UInt8} (hs:s.length < 9223372036854775807):qBv s=some (.int .i64 (runL qaw s:Nat)):=by
 have h:=qJ2 s hs s.length 0 (by omega)
 simp at h
 unfold qBv qCw
 try dsimp only
 simp [qqE,qs6,qz9,h]
theorem qQs {s:List UInt8} (hs:s.length < 9223372036854775807):qkc s=true:=by simp [qkc,qcI,qDw hs]
theorem qRu {s:List UInt8} (hs:s.length < 9223372036854775807):qcI s=(runL qaw s:Nat):=by simp [qcI,qDw hs]
def qOut (i n:Nat):Option (PExit×List PV×Store):=if n=0 then some (.exit 0,[],⟨[],[],[]⟩) else some (.ret,[.int .i64 ((i+n:Nat):Int)],⟨[],[],[]⟩)
theorem qlu (i n:Nat):qOut i (incN n)=qOut (i+1) n:=by
 unfold qOut incN;by_cases h:n=0
 ·simp [h]
 ·simp [h];omega
theorem qCW (s:qU) (hs:s.length < 9223372036854775800):∀ (m i:Nat),s.length≤i+m→i≤s.length+1→qb5 [.str s,.int .i64 (i:Nat)] ⟨[],[],[]⟩=qOut i (quoE false (s.drop i)):=by
 have hend:∀ i:Nat,s.length≤i→qb5 [.str s,.int .i64 (i:Nat)] ⟨[],[],[]⟩=some (.exit 0,[],⟨[],[],[]⟩):=fun i hi=>by
  rw [qx1];have:¬ (i:Int) < s.length:=by omega
  simp [qdP,this]
 intro m
 induction m with
 |zero =>
  intro i hi _;rw [hend i (by omega),List.drop_eq_nil_of_le (by omega)]
  simp [quoE,qOut]
 |succ m ih =>
  intro i hi hi2;by_cases hlt:i < s.length
  ·obtain⟨b,hb⟩:=qeK (l:=s) (i:=i) hlt;have hbe:=(List.getElem?_eq_some_iff.1 hb).2;have w:=qbS (i:=i) (by omega)
   have w2:=qbS (i:=i+1) (by omega)
   have h1:=ih (i+1) (by omega) (by omega)
   rw [qaR hb,qx1];simp only [quoE];by_cases hq:b.toNat=34
   ·rw [if_pos hq];simp [qdP,hlt,hbe,hq,w,qOut]
   ·rw [if_neg hq];have hq':¬ ((b.toNat:Int)=34):=by omega
    by_cases hp:b.toNat=92
    ·rw [if_pos hp,qlu];have e1:qb5 [.str s,.int .i64 (iAdd .i64 (iAdd .i64 (i:Int) 1) 1)] ⟨[],[],[]⟩=qOut (i+1) (quoE true (s.drop (i+1))):=by
      rw [w,w2];by_cases hl2:i+1 < s.length
      ·obtain⟨c,hc⟩:=qeK (l:=s) (i:=i+1) hl2;rw [qaR hc];simp only [quoE];rw [qlu];exact ih (i+1+1) (by omega) (by omega)
      ·rw [hend (i+1+1) (by omega),List.drop_eq_nil_of_le (by omega)]
       simp [quoE,qOut]
     rw [← e1];have t1:iLt (i:Int) (sLen s)=true:=by simp;omega
     have t2:qaz s (i:Int)=true:=by simp;omega
     have t3:sAt s (i:Int)=92:=by simp [hbe,hlt,hp]
     simp only [qdP,t1,t2,t3];simp
    ·have hp':¬ ((b.toNat:Int)=92):=by omega
     rw [if_neg hp,qlu,← h1,← w];have t1:iLt (i:Int) (sLen s)=true:=by simp;omega
     have t2:qaz s (i:Int)=true:=by simp;omega
     have t3:sAt s (i:Int)=b.toNat:=by simp [hbe,hlt]
     simp only [qdP,t1,t2,t3];simp [hq',hp']
  ·rw [hend i (by omega),List.drop_eq_nil_of_le (by omega)]
   simp [quoE,qOut]
theorem qw6 {c:UInt8} {t:List UInt8} (hs:(c::t).length < 9223372036854775800):qoe (c::t)=some (.int .i64 (if quoL t=0 then 0 else ((quoL t+1:Nat):Int))):=by
 have h:=qCW (c::t) hs t.length 1 (by simp;omega) (by simp)
 simp only [List.drop_succ_cons,List.drop_zero] at h
 unfold qoe qrM
 try dsimp only
 unfold qOut at h
 rw [show quoE false t=quoL t from rfl] at h
 by_cases h0:quoL t=0
 ·rw [if_pos h0] at h ⊢;have h':qb5 [.str (c::t),.int .i64 1] ⟨[],[],[]⟩=some (.exit 0,[],⟨[],[],[]⟩):=h;simp [qgF,qgy,qev,qhH,h']
 ·rw [if_neg h0] at h ⊢;have h':qb5 [.str (c::t),.int .i64 1] ⟨[],[],[]⟩=some (.ret,[.int .i64 ((1+quoL t:Nat):Int)],⟨[],[],[]⟩):=h;simp [qgF,qgy,qev,qhH,h'];omega
theorem qKV:∀ t:qU,(Lib.indexByte t 10=-1∧gapL true t=t.length)∨∃ n:Nat,Lib.indexByte t 10=n∧n < t.length∧gapL true t=n+gapL false (t.drop n)
 |[]=>.inl ⟨rfl,rfl⟩
 |b::u=>by
  by_cases hb:b=10
  ·subst hb;refine .inr ⟨0,rfl,by simp,?_⟩
   simp [gapL,blB]
  ·have hb':(b == 10)=false:=by simpa using hb
   have hbn:b.toNat≠10:=fun h=>hb (UInt8.toNat.inj h)
   have e1:gapL true (b::u)=gapL true u+1:=by simp [gapL,hbn]
   rcases qKV u with⟨h1,h2⟩|⟨n,h1,h2,h3⟩
   ·refine .inl ⟨?_,by rw [e1,h2];rfl⟩
    simp [Lib.indexByte,hb',h1]
   ·refine .inr ⟨n+1,?_,by simpa using h2,?_⟩
    ·have:((n:Int) == -1)=false:=by simp
     simp [Lib.indexByte,hb',h1,this]
    ·rw [e1,h3];simp only [List.drop_succ_cons];omega
theorem qLI {b:UInt8} (h:blB b=true) (t:qU):gapL false (b::t)=gapL false t+1:=by
 have:b.toNat≠37:=by
  intro e;simp [blB,e] at h
 simp [gapL,h,this]
theorem qMC (s:qU) (hs:s.length < 9223372036854775800):∀ (m i:Nat),i+m=s.length→∃ e,(e=PExit.ret∨e=.exit 0)∧qmK [.str s,.int .i64 (i:Nat)] ⟨[],[],[]⟩=some (e,[.int .i64 ((i+gapL false (s.drop i):Nat):Int)],⟨[],[],[]⟩):=by
 intro m
 induction m using Nat.strongRecOn with
 |_ m ih =>
  intro i hi;by_cases hlt:i < s.length
  ·obtain⟨b,hb⟩:=qeK (l:=s) (i:=i) hlt;have hbe:=(List.getElem?_eq_some_iff.1 hb).2;have w:=qbS (i:=i) (by omega)
   rw [qaR hb,qKm];by_cases hbl:blB b=true
   ·obtain⟨e,he,hv⟩:=ih (m - 1) (by omega) (i+1) (by omega)
    refine⟨e,he,?_⟩;rw [qLI hbl];have hv':qmK [.str s,.int .i64 (iAdd .i64 (i:Int) 1)] ⟨[],[],[]⟩=some (e,[.int .i64 ((i+(gapL false (s.drop (i+1))+1):Nat):Int)],⟨[],[],[]⟩):=by
     rw [w,hv,show i+1+gapL false (s.drop (i+1))=i+(gapL false (s.drop (i+1))+1) from by omega]
    rw [← hv'];have hbl2:b.toNat=32∨b.toNat=9∨b.toNat=10∨b.toNat=13:=by simpa [blB,or_assoc] using hbl
    rcases hbl2 with h|h|h|h<;>simp [qiF,hlt,hbe,h]
   ·have hbl2:¬ (b.toNat=32∨b.toNat=9∨b.toNat=10∨b.toNat=13):=by simpa [blB,or_assoc] using hbl
    have n1:¬ ((b.toNat:Int)=32):=by omega
    have n2:¬ ((b.toNat:Int)=9):=by omega
    have n3:¬ ((b.toNat:Int)=10):=by omega
    have n4:¬ ((b.toNat:Int)=13):=by omega
    by_cases h37:b.toNat=37
    ·have e1:gapL false (b::s.drop (i+1))=gapL true (s.drop (i+1))+1:=by simp [gapL,h37]
     have e2:sSub s (nNat (i:Int)) (nLen s)=b::s.drop (i+1):=by
      simp only [qAj,qBm,qKs,Int.toNat_natCast,List.take_length];exact qaR hb
     have hb10:(b == 10)=false:=by
      cases hq:b == 10 with
      |false=>rfl
      |true=>simp at hq;subst hq;simp at h37
     have e3:idxV (b::s.drop (i+1)) 10=if Lib.indexByte (s.drop (i+1)) 10 == -1 then -1 else Lib.indexByte (s.drop (i+1)) 10+1:=by
      show Lib.indexByte (b::s.drop (i+1)) 10=_
      simp only [Lib.indexByte,hb10,Bool.false_eq_true,if_false]
     rw [e1];rcases qKV (s.drop (i+1)) with⟨h1,h2⟩|⟨n,h1,h2,h3⟩
     ·refine⟨.ret,.inl rfl,?_⟩;have e4:idxV (b::s.drop (i+1)) 10=-1:=by rw [e3,h1];rfl
      have e5:i+(gapL true (s.drop (i+1))+1)=s.length:=by rw [h2];simp;omega
      rw [e5];have t1:iLt (i:Int) (sLen s)=true:=by simp;omega
      have t2:qaz s (i:Int)=true:=by simp;omega
      have t3:sAt s (i:Int)=37:=by simp [hbe,hlt,h37]
      have t4:qbc (qay (i:Int)) true (nNat (i:Int)) (nLen s) (nLen s)=true:=by simp;omega
      simp only [qiF,e2,e4,t1,t2,t3,t4];simp
     ·have e4:idxV (b::s.drop (i+1)) 10=((n+1:Nat):Int):=by
       rw [e3,h1];have:((n:Int) == -1)=false:=by simp
       rw [this];simp
      have hn:n < s.length - (i+1):=by simpa using h2
      obtain⟨e,he,hv⟩:=ih (m - (n+1)) (by omega) (i+(n+1)) (by omega)
      refine⟨e,he,?_⟩;have w2:iAdd .i64 (i:Int) ((n+1:Nat):Int)=((i+(n+1):Nat):Int):=qaI (by omega)
      have e6:i+(n+1)+gapL false (s.drop (i+(n+1)))=i+(gapL true (s.drop (i+1))+1):=by
       rw [h3,List.drop_drop,show i+1+n=i+(n+1) from by omega]
       omega
      rw [e6] at hv;have hge:¬ ((n+1:Nat):Int) < 0:=by omega
      have t1:iLt (i:Int) (sLen s)=true:=by simp;omega
      have t2:qaz s (i:Int)=true:=by simp;omega
      have t3:sAt s (i:Int)=37:=by simp [hbe,hlt,h37]
      have t5:iLt ((n+1:Nat):Int) 0=false:=by simp;omega
      have t4:qbc (qay (i:Int)) true (nNat (i:Int)) (nLen s) (nLen s)=true:=by simp;omega
      simp only [qiF,e2,e4,w2,t1,t2,t3,t4,t5];simpa using hv
    ·refine⟨.ret,.inl rfl,?_⟩;have n5:¬ ((b.toNat:Int)=37):=by omega
     have e1:gapL false (b::s.drop (i+1))=0:=by
      have:blB b=false:=by simpa using hbl
      simp [gapL,this,h37]
     rw [e1];simp [qiF,hlt,hbe,n1,n2,n3,n4,n5]
  ·refine⟨.exit 0,.inr rfl,?_⟩;rw [qKm,List.drop_eq_nil_of_le (by omega)]
   have:¬ (i:Int) < s.length:=by omega
   simp [qiF,gapL,this]
theorem qIp {s:List UInt8} (hs:s.length < 9223372036854775800):qHx s=some (.int .i64 (gapL false s:Nat)):=by
 obtain⟨e,he,h⟩:=qMC s hs s.length 0 (by omega)
 simp at h
 unfold qHx qFv
 try dsimp only
 rcases he with rfl|rfl<;>simp [qvO,qvC,qpC,qjd,quS,h]
theorem qNM {s:List UInt8} (hs:s.length < 9223372036854775800):qil s=true:=by simp [qil,qkO,qIp hs]
theorem qQ5 {s:List UInt8} (hs:s.length < 9223372036854775800):qkO s=(gapL false s:Nat):=by simp [qkO,qIp hs]
theorem qDb {s:List UInt8} (hs:s.length < 9223372036854775807) (k:Int):qgV s k=some (.tup [.agg [.int .i64 k,.str (s.take (runL innB s)),.int .i64 0,.int .i64 0,.str [],.int .i64 0],.bool (decide (runL innB s≤64))]):=by
 unfold qgV qzk
 try dsimp only
 have h:=qnD innB s;have e:iLe (runL innB s:Nat) 64=decide (runL innB s≤64):=by simp;omega
 rw [qVf hs,qSu hs,e];have t:qbc true (qay ((runL innB s:Nat):Int)) 0 (nNat ((runL innB s:Nat):Int)) (nLen s)=true:=by simp;omega
 rw [t];simp
theorem qHt {s:List UInt8} (hs:s.length < 9223372036854775807) (k:Int):qjZ s k=true:=by simp [qjZ,qn6,qnL,qiN,qiR,qiQ,qiO,qnn,qDb hs]
def wTup (k:Int) (x:qU) (v:Vl) (p:Int) (b:Bool):PV:=.tup [.agg [.int .i64 k,.str x,.int .i64 v.1,.int .i64 v.2.1,.str v.2.2,.int .i64 p],.bool b]
theorem qMo {s:List UInt8} (hs:s.length < 9223372036854775807) (k:Int):(PV.tup [.agg [.int .i64 (qn6 s k),.str (qnL s k),.int .i64 (qiN s k),.int .i64 (qiR s k),.str (qiQ s k),.int .i64 (qiO s k)],.bool (qnn s k)])=wTup k (s.take (runL innB s)) (0,0,[]) 0 (decide (runL innB s≤64)):=by
 simp [wTup,qn6,qnL,qiN,qiR,qiQ,qiO,qnn,qDb hs]
theorem qw5 {s:List UInt8} (hs:s.length≤140737488355328) (k:Int):qcP s k=some (wTup k s (kRd s,nRd s,sRd s) 0 (decide (eRd s=0))):=by
 unfold qcP qqQ wTup
 try dsimp only
 simp [hs]
theorem qqH {s:List UInt8} (hs:s.length≤140737488355328) (k:Int):qd7 s k=true:=by simp [qd7,qdE,qdl,qcy,qcs,qcz,qcq,qdw,qw5 hs,wTup]
theorem qCP {s:List UInt8} (hs:s.length≤140737488355328) (k:Int):(PV.tup [.agg [.int .i64 (qdE s k),.str (qdl s k),.int .i64 (qcy s k),.int .i64 (qcs s k),.str (qcz s k),.int .i64 (qcq s k)],.bool (qdw s k)])=wTup k s (kRd s,nRd s,sRd s) 0 (decide (eRd s=0)):=by
 simp [wTup,qdE,qdl,qcy,qcs,qcz,qcq,qdw,qw5 hs]
theorem qLb (c:UInt8) (t:qU) (a b:UInt8):qdk (c::t) [a,b]=(decide (c=a)&&hdIs (fun d=>decide (d=b)) t):=by
 unfold qdk;cases t with
 |nil=>simp [hdIs]
 |cons d u=>simp [hdIs,Bool.decide_and]
def wst:Store:=⟨[[.int .i64 0,.str [],.int .i64 0,.int .i64 0,.str [],.int .i64 0]],[],[44]⟩
theorem qWb (c:UInt8) (t:qU):hdIs (twoB c) t=(qdk (c::t) [58,45] || qdk (c::t) [60,61] || qdk (c::t) [62,61] || qdk (c::t) [33,61]):=by
 simp only [qLb];cases t with
 |nil=>simp [hdIs]
 |cons d u =>
  simp only [hdIs,twoB];simp only [← UInt8.toNat_inj];simp [Bool.decide_and]
theorem qly {s p:List UInt8} (h:qdk s p=true) (hp:p.length=2):s.take 2=p:=by
 simp [qdk] at h
 rw [← hp];exact h.2
theorem qFu (c:UInt8) (t:qU) (n:Int):qmg [.str (c::t),.ptr 0 0,.int .u8 n,.agg [.str [58,45],.str [60,61],.str [62,61],.str [33,61]],.int .i64 0] wst =
  if hdIs (twoB c) t then some (.ret,[.ptr 0 0,.bool true],⟨[[.int .i64 6,.str ((c::t).take 2),.int .i64 0,.int .i64 0,.str [],.int .i64 0]],[],[44]⟩)
  else some (.exit 1,[.str (c::t),.ptr 0 0,.int .u8 n],wst):=by
 have i1:iAdd .i64 0 1=1:=by decide
 have i2:iAdd .i64 1 1=2:=by decide
 have i3:iAdd .i64 2 1=3:=by decide
 have i4:iAdd .i64 3 1=4:=by decide
 unfold wst;rw [qWb];rw [qo6];cases h1:qdk (c::t) [58,45] with
 |true=>have q:=qly h1 rfl;simp [qbn,h1];simpa using q.symm
 |false =>
  have e1:(qbn (c::t) n [58,45] [60,61] [62,61] [33,61] 0 0 [] 0 0 [] 0).run=some (.next [.str (c::t),.ptr 0 0,.int .u8 n,.agg [.str [58,45],.str [60,61],.str [62,61],.str [33,61]],.int .i64 1] ⟨[[.int .i64 0,.str [],.int .i64 0,.int .i64 0,.str [],.int .i64 0]],[],[44]⟩):=by simp [qbn,h1,i1]
  rw [e1,qmx,qo6];cases h2:qdk (c::t) [60,61] with
  |true=>have q:=qly h2 rfl;simp [qbn,h2];simpa using q.symm
  |false =>
   have e2:(qbn (c::t) n [58,45] [60,61] [62,61] [33,61] 1 0 [] 0 0 [] 0).run=some (.next [.str (c::t),.ptr 0 0,.int .u8 n,.agg [.str [58,45],.str [60,61],.str [62,61],.str [33,61]],.int .i64 2] ⟨[[.int .i64 0,.str [],.int .i64 0,.int .i64 0,.str [],.int .i64 0]],[],[44]⟩):=by simp [qbn,h2,i2]
   rw [e2,qmx,qo6];cases h3:qdk (c::t) [62,61] with
   |true=>have q:=qly h3 rfl;simp [qbn,h3];simpa using q.symm
   |false =>
    have e3:(qbn (c::t) n [58,45] [60,61] [62,61] [33,61] 2 0 [] 0 0 [] 0).run=some (.next [.str (c::t),.ptr 0 0,.int .u8 n,.agg [.str [58,45],.str [60,61],.str [62,61],.str [33,61]],.int .i64 3] ⟨[[.int .i64 0,.str [],.int .i64 0,.int .i64 0,.str [],.int .i64 0]],[],[44]⟩):=by simp [qbn,h3,i3]
    rw [e3,qmx,qo6];cases h4:qdk (c::t) [33,61] with
    |true=>have q:=qly h4 rfl;simp [qbn,h4];simpa using q.symm
    |false =>
     have e4:(qbn (c::t) n [58,45] [60,61] [62,61] [33,61] 3 0 [] 0 0 [] 0).run=some (.next [.str (c::t),.ptr 0 0,.int .u8 n,.agg [.str [58,45],.str [60,61],.str [62,61],.str [33,61]],.int .i64 4] ⟨[[.int .i64 0,.str [],.int .i64 0,.int .i64 0,.str [],.int .i64 0]],[],[44]⟩):=by simp [qbn,h4,i4]
     rw [e4,qmx,qo6];simp [qbn]
theorem qNo (c:UInt8):∀ l:qU,0≤Lib.indexByte l c↔c∈l
 |[]=>by simp [Lib.indexByte]
 |b::l=>by
  have h1:=qNo c l;have h2:=Lib.indexByte_ge l c;unfold Lib.indexByte;by_cases hb:b=c
  ·subst hb;simp
  ·have hb':(b == c)=false:=by simpa using hb
   have hc:¬ c=b:=fun e=>hb e.symm
   rw [hb'];by_cases h3:Lib.indexByte l c=-1
   ·have:¬ c∈l:=fun hm=>by have:=h1.2 hm;omega
    simp [h3,hc,this]
   ·have:c∈l:=h1.1 (by omega)
    simp [h3,this];omega
theorem qP7 (c:UInt8):iLe 0 (idxV [40,41,44,46,43,45,61,58,60,62] (c.toNat:Int))=qmz c:=by
 have e:idxV [40,41,44,46,43,45,61,58,60,62] (c.toNat:Int)=Lib.indexByte [40,41,44,46,43,45,61,58,60,62] c:=by
  unfold idxV
  congr 1
  simp
 rw [qNg];have h:=qNo c [40,41,44,46,43,45,61,58,60,62];have h':decide (0≤Lib.indexByte [40,41,44,46,43,45,61,58,60,62] c)=decide (c∈[40,41,44,46,43,45,61,58,60,62]):=decide_eq_decide.2 h;rw [e,h'];simp only [List.mem_cons,List.not_mem_nil,or_false,← UInt8.toNat_inj,qmz,List.contains,List.elem_eq_mem];simp
theorem qFd {c:UInt8} {t:List UInt8} (hs:(c::t).length≤140737488355328) (h:qfK c=true):qbf (c::t)=some (wTup 1 ((c::t).take (runL innB (c::t))) (0,0,[]) 0 (decide (runL innB (c::t)≤64))):=by
 have hs':(c::t).length < 9223372036854775807:=by omega
 have h1:97≤c.toNat∧c.toNat≤122:=by simpa [qfK] using h
 have g1:(97:Int)≤c.toNat:=by omega
 have g2:(c.toNat:Int)≤122:=by omega
 rw [← qMo hs'];unfold qbf qeP
 try dsimp only
 cases t<;>simp [g1,g2,qHt hs']
theorem qFm {c:UInt8} {t:List UInt8} (hs:(c::t).length≤140737488355328) (h:qkv c=true):qbf (c::t)=some (wTup 2 ((c::t).take (runL innB (c::t))) (0,0,[]) 0 (decide (runL innB (c::t)≤64))):=by
 have hs':(c::t).length < 9223372036854775807:=by omega
 have h1:65≤c.toNat∧c.toNat≤90:=by simpa [qkv] using h
 have g1:¬ (97:Int)≤c.toNat:=by omega
 have g2:(65:Int)≤c.toNat:=by omega
 have g3:(c.toNat:Int)≤90:=by omega
 rw [← qMo hs'];unfold qbf qeP
 try dsimp only
 cases t<;>simp [g1,g2,g3,qHt hs']
theorem qMJ {c:UInt8} {t:List UInt8} (hs:(c::t).length≤140737488355328) (h:c.toNat=95):qbf (c::t)=some (wTup 3 [95] (0,0,[]) 0 (!hdIs innB t)):=by
 unfold qbf qeP
 try dsimp only
 cases t with
 |nil =>
  have e:inI 0=false:=by decide
  simp [h,hdIs,wTup,e]
 |cons d u =>
  have g:iLt 1 (sLen (c::d::u))=true:=by simp;omega
  rw [g];simp [h,hdIs,qom,wTup]
def dgW (s:qU):PV:=wTup 4 (s.take (runL qaw (s.drop 1)+1)) (kRd (s.take (runL qaw (s.drop 1)+1)),nRd (s.take (runL qaw (s.drop 1)+1)),sRd (s.take (runL qaw (s.drop 1)+1))) 0 (decide (eRd (s.take (runL qaw (s.drop 1)+1))=0))
theorem qKC {c : UInt8} {t : List UInt8} (hs : (c :: t).length ≤ 140737488355328) : (Tr.ite (qbc (qay 1) true (nNat 1) (nLen (c :: t)) (nLen (c :: t)))
          (Tr.ite (qkc (sSub (c :: t) (nNat 1) (nLen (c :: t))))
            (Tr.ite (qbc true (qay (iAdd .i64 1 (qcI (sSub (c :: t) (nNat 1) (nLen (c :: t)))))) 0 (nNat (iAdd .i64 1 (qcI (sSub (c :: t) (nNat 1) (nLen (c :: t)))))) (nLen (c :: t)))
              (Tr.ite (qd7 (sSub (c :: t) 0 (nNat (iAdd .i64 1 (qcI (sSub (c :: t) (nNat 1) (nLen (c :: t))))))) 4)
                (Tr.ret (PV.tup [PV.agg [PV.int .i64 (qdE (sSub (c :: t) 0 (nNat (iAdd .i64 1 (qcI (sSub (c :: t) (nNat 1) (nLen (c :: t))))))) 4), PV.str (qdl (sSub (c :: t) 0 (nNat (iAdd .i64 1 (qcI (sSub (c :: t) (nNat 1) (nLen (c :: t))))))) 4), PV.int .i64 (qcy (sSub (c :: t) 0 (nNat (iAdd .i64 1 (qcI (sSub (c :: t) (nNat 1) (nLen (c :: t))))))) 4), PV.int .i64 (qcs (sSub (c :: t) 0 (nNat (iAdd .i64 1 (qcI (sSub (c :: t) (nNat 1) (nLen (c :: t))))))) 4), PV.str (qcz (sSub (c :: t) 0 (nNat (iAdd .i64 1 (qcI (sSub (c :: t) (nNat 1) (nLen (c :: t))))))) 4), PV.int .i64 (qcq (sSub (c :: t) 0 (nNat (iAdd .i64 1 (qcI (sSub (c :: t) (nNat 1) (nLen (c :: t))))))) 4)], PV.bool (qdw (sSub (c :: t) 0 (nNat (iAdd .i64 1 (qcI (sSub (c :: t) (nNat 1) (nLen (c :: t))))))) 4)]))
                Tr.fail) Tr.fail) Tr.fail) Tr.fail).run = some (dgW (c :: t)) := by
  have e0 : sSub (c :: t) (nNat 1) (nLen (c :: t)) = t := by simp
  have hl : t.length + 1 ≤ 140737488355328 := by simpa using hs
  have hr := qnD qaw t
  rw [e0, qQs (by omega), qRu (by omega)]
  have e1 : iAdd .i64 1 ((runL qaw t : Nat) : Int) = ((runL qaw t + 1 : Nat) : Int) := by
    have : iAdd .i64 1 ((runL qaw t : Nat) : Int) = (1 : Int) + (runL qaw t : Nat) := qaI (by omega)
    rw [this]; omega
  rw [e1]
  have e2 : sSub (c :: t) 0 (nNat ((runL qaw t + 1 : Nat) : Int)) = (c :: t).take (runL qaw t + 1) := by simp [-List.take_succ_cons]
  rw [e2]
  have hl2 : ((c :: t).take (runL qaw t + 1)).length ≤ 140737488355328 := by rw [List.length_take]; omega
  have t1 : qbc (qay 1) true (nNat 1) (nLen (c :: t)) (nLen (c :: t)) = true := by simp
  have t2 : qbc true (qay ((runL qaw t + 1 : Nat) : Int)) 0 (nNat ((runL qaw t + 1 : Nat) : Int)) (nLen (c :: t)) = true := by simp; omega
  rw [t1, t2, qqH hl2, qCP hl2]
  rfl
theorem qPm {c:UInt8} {t:List UInt8} (hs:(c::t).length≤140737488355328) (h:qaw c=true):qbf (c::t)=some (dgW (c::t)):=by
 have h1:48≤c.toNat∧c.toNat≤57:=by simpa [qaw] using h
 have f0:qaz (c::t) 0=true:=by simp
 have f1:iLe 97 (sAt (c::t) 0)=false:=by simp;omega
 have f3:iLe 65 (sAt (c::t) 0)=false:=by simp;omega
 have f5:iEq (sAt (c::t) 0) 95=false:=by simp;omega
 have f6:qbw (sAt (c::t) 0)=true:=by simp [qdG,h]
 rw [← qKC hs];unfold qbf qeP
 try dsimp only
 cases t with
 |nil =>
  have g:iLt 1 (sLen [c])=false:=by simp
  rw [f0,g,f1,f3,f5,f6,qdv];rfl
 |cons d u =>
  have g:iLt 1 (sLen (c::d::u))=true:=by simp;omega
  have g2:qaz (c::d::u) 1=true:=by simp
  rw [f0,g,g2,f1,f3,f5,f6,qdv];rfl
theorem qLA {c d:UInt8} {u:List UInt8} (hs:(c::d::u).length≤140737488355328) (h:c.toNat=45) (hd:qaw d=true):qbf (c::d::u)=some (dgW (c::d::u)):=by
 have f0:qaz (c::d::u) 0=true:=by simp
 have f1:iLe 97 (sAt (c::d::u) 0)=false:=by simp;omega
 have f3:iLe 65 (sAt (c::d::u) 0)=false:=by simp;omega
 have f5:iEq (sAt (c::d::u) 0) 95=false:=by simp;omega
 have f6:qbw (sAt (c::d::u) 0)=false:=by simp [dgI,h]
 have f7:iEq (sAt (c::d::u) 0) 45=true:=by simp;omega
 have f8:qbw (sAt (c::d::u) 1)=true:=by simp [qdG,hd]
 rw [← qKC hs];unfold qbf qeP
 try dsimp only
 have g:iLt 1 (sLen (c::d::u))=true:=by simp;omega
 have g2:qaz (c::d::u) 1=true:=by simp
 rw [f0,g,g2,f1,f3,f5,f6,f7,f8,qdv,qdv];rfl
def symN (t:qU):Nat:=if quoL t=0 then 0 else quoL t+1
def syW (s:qU) (n:Nat):PV:=wTup 5 (s.take n) (kRd (s.take n),nRd (s.take n),sRd (s.take n)) 0 (decide (eRd (s.take n)=0))
theorem qLK {c:UInt8} {t:List UInt8} (hs:(c::t).length≤140737488355328) (h:c.toNat=34):qbf (c::t)=some (syW (c::t) (symN t)):=by
 have hq:qfL (c::t)=((symN t:Nat):Int):=by
  simp only [qfL,qw6 (c:=c) (t:=t) (by omega),qLB,qPi,symN]
  split<;>simp
 have hqi:qiM (c::t)=true:=by
  simp only [qiM,qPe,qw6 (c:=c) (t:=t) (by omega),hq,symN]
  split<;>simp
 have hle:symN t≤(c::t).length:=by
  have:=qGo t;unfold symN;split<;>simp<;>omega
 have hl2:((c::t).take (symN t)).length≤140737488355328:=by rw [List.length_take];omega
 have f0:qaz (c::t) 0=true:=by simp
 have f1:iLe 97 (sAt (c::t) 0)=false:=by simp;omega
 have f3:iLe 65 (sAt (c::t) 0)=false:=by simp;omega
 have f5:iEq (sAt (c::t) 0) 95=false:=by simp;omega
 have f6:qbw (sAt (c::t) 0)=false:=by simp [dgI,h]
 have f7:iEq (sAt (c::t) 0) 45=false:=by simp;omega
 have f9:iEq (sAt (c::t) 0) 34=true:=by simp;omega
 have e2:sSub (c::t) 0 (nNat ((symN t:Nat):Int))=(c::t).take (symN t):=by simp
 have t2:qbc true (qay ((symN t:Nat):Int)) 0 (nNat ((symN t:Nat):Int)) (nLen (c::t))=true:=by simp at hle ⊢;omega
 have leaf:(PV.tup [PV.agg [PV.int .i64 (qdE ((c::t).take (symN t)) 5),PV.str (qdl ((c::t).take (symN t)) 5),PV.int .i64 (qcy ((c::t).take (symN t)) 5),PV.int .i64 (qcs ((c::t).take (symN t)) 5),PV.str (qcz ((c::t).take (symN t)) 5),PV.int .i64 (qcq ((c::t).take (symN t)) 5)],PV.bool (qdw ((c::t).take (symN t)) 5)])=syW (c::t) (symN t):=by rw [qCP hl2];rfl
 rw [← leaf];unfold qbf qeP
 try dsimp only
 cases t with
 |nil =>
  have g:iLt 1 (sLen [c])=false:=by simp
  rw [f0,g,f1,f3,f5,f6,f7,f9,qdv,hqi,hq,t2,e2,qqH hl2];rfl
 |cons d u =>
  have g:iLt 1 (sLen (c::d::u))=true:=by simp;omega
  have g2:qaz (c::d::u) 1=true:=by simp
  rw [f0,g,g2,f1,f3,f5,f6,f7,f9,qdv,hqi,hq,t2,e2,qqH hl2];rfl
def mkW (c:UInt8) (t:qU):PV:=if hdIs (twoB c) t then wTup 6 ((c::t).take 2) (0,0,[]) 0 true else wTup 6 [c] (0,0,[]) 0 (qmz c)
def mkT (v:qU):Tr PV:=(Tr.ite (qc9 v (sAt v 0) [58,45] [60,61] [62,61] [33,61] 0 0 [] 0 0 [] 0)
 (Tr.ret (PV.tup [PV.agg [PV.int .i64 (qe1 v (sAt v 0) [58,45] [60,61] [62,61] [33,61] 0 0 [] 0 0 [] 0),PV.str (qe9 v (sAt v 0) [58,45] [60,61] [62,61] [33,61] 0 0 [] 0 0 [] 0),PV.int .i64 (qd0 v (sAt v 0) [58,45] [60,61] [62,61] [33,61] 0 0 [] 0 0 [] 0),PV.int .i64 (qd5 v (sAt v 0) [58,45] [60,61] [62,61] [33,61] 0 0 [] 0 0 [] 0),PV.str (qd2 v (sAt v 0) [58,45] [60,61] [62,61] [33,61] 0 0 [] 0 0 [] 0),PV.int .i64 (qec v (sAt v 0) [58,45] [60,61] [62,61] [33,61] 0 0 [] 0 0 [] 0)],PV.bool (qfl v (sAt v 0) [58,45] [60,61] [62,61] [33,61] 0 0 [] 0 0 [] 0)]))
 (Tr.ite (qhn v (sAt v 0) [58,45] [60,61] [62,61] [33,61] 0 0 [] 0 0 [] 0)
  (Tr.ite (qbc true (qay 1) 0 (nNat 1) (nLen (qdc v (sAt v 0) [58,45] [60,61] [62,61] [33,61] 0 0 [] 0 0 [] 0)))
   (Tr.ret (PV.tup [PV.agg [PV.int .i64 6,PV.str (sSub (qdc v (sAt v 0) [58,45] [60,61] [62,61] [33,61] 0 0 [] 0 0 [] 0) 0 (nNat 1)),PV.int .i64 0,PV.int .i64 0,PV.str [],PV.int .i64 0],PV.bool (iLe 0 (idxV [40,41,44,46,43,45,61,58,60,62] (qdW v (sAt v 0) [58,45] [60,61] [62,61] [33,61] 0 0 [] 0 0 [] 0)))]))
   Tr.fail)
  Tr.fail))
theorem qT1 (c:UInt8) (t:qU):(mkT (c::t)).run=some (mkW c t):=by
 have hL:=qFu c t (sAt (c::t) 0);unfold wst at hL;have e2:sSub (c::t) 0 (nNat 1)=[c]:=by simp
 have t2:qbc true (qay 1) 0 (nNat 1) (nLen (c::t))=true:=by simp
 have e3:sAt (c::t) 0=(c.toNat:Int):=by simp
 have ho:=qP7 c;unfold mkT mkW;cases h:hdIs (twoB c) t with
 |true =>
  rw [h] at hL;simp only [if_true] at hL ⊢;have a1:qc9 (c::t) (sAt (c::t) 0) [58,45] [60,61] [62,61] [33,61] 0 0 [] 0 0 [] 0=true:=by
   simp only [qc9,qe1,qe9,qd0,qd5,qd2,qec,qfl,qa3,hL];simp
  rw [a1];simp only [qe1,qe9,qd0,qd5,qd2,qec,qfl,qa3,hL];simp [wTup]
 |false =>
  rw [h] at hL;simp only [Bool.false_eq_true,if_false] at hL ⊢;have a0:qc9 (c::t) (sAt (c::t) 0) [58,45] [60,61] [62,61] [33,61] 0 0 [] 0 0 [] 0=false:=by
   cases hq:qc9 (c::t) (sAt (c::t) 0) [58,45] [60,61] [62,61] [33,61] 0 0 [] 0 0 [] 0 with
   |false=>rfl
   |true =>
    simp only [qc9,qa3,hL] at hq;simp at hq
  have a1:qhn (c::t) (sAt (c::t) 0) [58,45] [60,61] [62,61] [33,61] 0 0 [] 0 0 [] 0=true:=by
   simp only [qhn,qdc,qdW,qm7,qnU,qnv,qn3,qn0,qnG,qa3,hL];simp
  have a2:qdc (c::t) (sAt (c::t) 0) [58,45] [60,61] [62,61] [33,61] 0 0 [] 0 0 [] 0=c::t:=by
   simp only [qdc,qa3,hL];simp
  have a3:qdW (c::t) (sAt (c::t) 0) [58,45] [60,61] [62,61] [33,61] 0 0 [] 0 0 [] 0=(c.toNat:Int):=by
   simp only [qdW,qa3,hL];simp
  rw [a0,a1,a2,a3,t2,e2,ho];rfl
theorem qI7 {c:UInt8} {t:List UInt8} (hs:(c::t).length≤140737488355328) (h1:qfK c=false) (h2:qkv c=false) (h3:c.toNat≠95) (h4:qaw c=false) (h5:c.toNat=45→hdIs qaw t=false) (h6:c.toNat≠34):qbf (c::t)=some (mkW c t):=by
 have f0:qaz (c::t) 0=true:=by simp
 have f5:iEq (sAt (c::t) 0) 95=false:=by simp;omega
 have f6:qbw (sAt (c::t) 0)=false:=by simp [qdG,h4]
 have f9:iEq (sAt (c::t) 0) 34=false:=by simp;omega
 have g1:¬ (97≤c.toNat∧c.toNat≤122):=by simpa [qfK] using h1
 have g2:¬ (65≤c.toNat∧c.toNat≤90):=by simpa [qkv] using h2
 rw [← qT1];unfold qbf qeP
 try dsimp only
 have f8:c.toNat=45→qbw (if iLt 1 (sLen (c::t))=true then sAt (c::t) 1 else 0)=false:=fun h=>by
  have:=h5 h;cases t with
  |nil=>simp [dgI]
  |cons d u =>
   have g:iLt 1 (sLen (c::d::u))=true:=by simp;omega
   rw [if_pos g];simpa [qdG,hdIs] using this
 have e97:iLe 97 (sAt (c::t) 0)=decide (97≤c.toNat):=by simp;omega
 have e122:iLe (sAt (c::t) 0) 122=decide (c.toNat≤122):=by simp;omega
 have e65:iLe 65 (sAt (c::t) 0)=decide (65≤c.toNat):=by simp;omega
 have e90:iLe (sAt (c::t) 0) 90=decide (c.toNat≤90):=by simp;omega
 have e45:iEq (sAt (c::t) 0) 45=decide (c.toNat=45):=by simp;omega
 rw [f0,e97,e122,e65,e90,e45,f5,f6,f9,qdv];have key:∀ b:Bool,iLt 1 (sLen (c::t))=b→(b=true→qaz (c::t) 1=true)→True:=fun _ _ _=>trivial
 by_cases k1:97≤c.toNat
 ·have k2:¬ c.toNat≤122:=fun h=>g1 ⟨k1,h⟩
  have k3:65≤c.toNat:=by omega
  have k4:¬ c.toNat≤90:=by omega
  have k5:¬ c.toNat=45:=by omega
  rw [decide_eq_true k1,decide_eq_false k2,decide_eq_true k3,decide_eq_false k4,decide_eq_false k5];cases t with
  |nil =>
   have g:iLt 1 (sLen [c])=false:=by simp
   rw [g];rfl
  |cons d u =>
   have g:iLt 1 (sLen (c::d::u))=true:=by simp;omega
   have g2:qaz (c::d::u) 1=true:=by simp
   rw [g,g2];rfl
 ·by_cases k3:65≤c.toNat
  ·have k4:¬ c.toNat≤90:=fun h=>g2 ⟨k3,h⟩
   have k5:¬ c.toNat=45:=by omega
   rw [decide_eq_false k1,decide_eq_true k3,decide_eq_false k4,decide_eq_false k5];cases t with
   |nil =>
    have g:iLt 1 (sLen [c])=false:=by simp
    rw [g];rfl
   |cons d u =>
    have g:iLt 1 (sLen (c::d::u))=true:=by simp;omega
    have g2:qaz (c::d::u) 1=true:=by simp
    rw [g,g2];rfl
  ·by_cases k5:c.toNat=45
   ·rw [decide_eq_false k1,decide_eq_false k3,decide_eq_true k5];cases t with
    |nil =>
     have g:iLt 1 (sLen [c])=false:=by simp
     have f8':qbw 0=false:=by simp [dgI]
     rw [g,f8',qdv 0];rfl
    |cons d u =>
     have g:iLt 1 (sLen (c::d::u))=true:=by simp;omega
     have g2:qaz (c::d::u) 1=true:=by simp
     have f8':=f8 k5;rw [if_pos g] at f8';rw [g,g2,f8',qdv (sAt (c::d::u) 1)];rfl
   ·rw [decide_eq_false k1,decide_eq_false k3,decide_eq_false k5];cases t with
    |nil =>
     have g:iLt 1 (sLen [c])=false:=by simp
     rw [g];rfl
    |cons d u =>
     have g:iLt 1 (sLen (c::d::u))=true:=by simp;omega
     have g2:qaz (c::d::u) 1=true:=by simp
     rw [g,g2];rfl
end Go.Pv
set_option maxHeartbeats 8000000
set_option maxRecDepth 200000
set_option linter.unusedSimpArgs false
set_option linter.unusedVariables false
namespace Go.Pv
open Go Go.Proofs Go.RowKit
theorem qyL (c:Int):qsB c=some (.bool (smI c)):=by
 unfold qsB qxa smI
 try dsimp only
 by_cases h:(97:Int)≤c<;>simp [h]
@[simp] theorem qkm (c:Int):qid c=true:=by simp [qid,qix,qyL]
@[simp] theorem qpO (c:Int):qix c=smI c:=by simp [qix,qyL]
theorem qxX (c:Int):qsS c=some (.bool (grI c)):=by
 unfold qsS qvo grI
 try dsimp only
 by_cases h:(65:Int)≤c<;>simp [h]
@[simp] theorem qkd (c:Int):qfc c=true:=by simp [qfc,qgl,qxX]
@[simp] theorem qpX (c:Int):qgl c=grI c:=by simp [qgl,qxX]
theorem qyU (c:Int):quu c=some (.bool (dgI c)):=by
 unfold quu qwd dgI
 try dsimp only
 by_cases h:(48:Int)≤c<;>simp [h]
@[simp] theorem qDr (c:Int):qdK c=true:=by simp [qdK,qeY,qyU]
@[simp] theorem qIh (c:Int):qeY c=dgI c:=by simp [qeY,qyU]
theorem qyG (c:Int):qt0 c=some (.bool (inI c)):=by
 unfold qt0 qxb inI
 try dsimp only
 cases h1:smI c<;>cases h2:grI c<;>cases h3:dgI c<;>simp [h1,h2,h3]
@[simp] theorem rinner_is (c:Int):qma c=true:=by simp [qma,qlH,qyG]
@[simp] theorem rinner_v (c:Int):qlH c=inI c:=by simp [qlH,qyG]
def blI (c:Int):Bool:=decide (c=32) || decide (c=9) || decide (c=10) || decide (c=13)
theorem qPv (b:UInt8):blI (b.toNat:Int)=blB b:=by
 unfold blI blB
 congr 1
 ·congr 1
  ·congr 1<;>(apply decide_eq_decide.2;omega)
  ·apply decide_eq_decide.2;omega
 ·apply decide_eq_decide.2;omega
theorem qyB (c:Int):quk c=some (.bool (blI c)):=by
 unfold quk qvG blI
 try dsimp only
 by_cases h1:c=32<;>by_cases h2:c=9<;>by_cases h3:c=10<;>simp [h1,h2,h3]
@[simp] theorem qDC (c:Int):qlV c=true:=by simp [qlV,qiu,qyB]
@[simp] theorem rblank_v (c:Int):qiu c=blI c:=by simp [qiu,qyB]
theorem qJe (s:qU) (hs:s.length < 9223372036854775807):∀ (m i:Nat),i+m=s.length→qlP [.str s,.int .i64 (i:Nat)] ⟨[],[],[]⟩=some (.exit 0,[.int .i64 ((i+runL innB (s.drop i):Nat):Int)],⟨[],[],[]⟩):=by
 intro m
 induction m with
 |zero =>
  intro i hi;rw [qHR,List.drop_eq_nil_of_le (by omega)]
  have:¬ (i:Int) < s.length:=by omega
  simp [qkh,runL,this]
 |succ m ih =>
  intro i hi;obtain⟨b,hb⟩:=qeK (l:=s) (i:=i) (by omega)
  have hbe:=(List.getElem?_eq_some_iff.1 hb).2;have w:=qbS (i:=i) (by omega)
  have hlt:i < s.length:=by omega
  have h1:=ih (i+1) (by omega)
  rw [qaR hb,qHR];cases hc:innB b with
  |true =>
   have e:i+(runL innB (s.drop (i+1))+1)=i+1+runL innB (s.drop (i+1)):=by omega
   simp only [runL,hc,if_true,e];rw [← h1];simp [qkh,hlt,hbe,qom,hc,w]
  |false=>simp [qkh,hlt,hbe,qom,hc,runL]
theorem qDE {s:List UInt8} (hs:s.length < 9223372036854775807) {i:Nat} (hi:i≤s.length):qAR s (i:Nat)=some (.int .i64 ((i+runL innB (s.drop i):Nat):Int)):=by
 have h:=qJe s hs (s.length - i) i (by omega)
 unfold qAR qBg
 try dsimp only
 simp only [qqI,qlc,qAk,h];simp
theorem qQw {s:List UInt8} (hs:s.length < 9223372036854775807) {i:Nat} (hi:i≤s.length):qki s (i:Nat)=true:=by simp only [qki,qrO,qDE hs hi];simp
theorem qSV {s:List UInt8} (hs:s.length < 9223372036854775807) {i:Nat} (hi:i≤s.length):qrO s (i:Nat)=((i+runL innB (s.drop i):Nat):Int):=by simp only [qrO,qDE hs hi];simp
theorem qDB (s:qU) (hs:s.length < 9223372036854775807):∀ (m i:Nat),i+m=s.length→qfb [.str s,.int .i64 (i:Nat)] ⟨[],[],[]⟩=some (.exit 0,[.int .i64 ((i+runL qaw (s.drop i):Nat):Int)],⟨[],[],[]⟩):=by
 intro m
 induction m with
 |zero =>
  intro i hi;rw [qyc,List.drop_eq_nil_of_le (by omega)]
  have:¬ (i:Int) < s.length:=by omega
  simp [qfw,runL,this]
 |succ m ih =>
  intro i hi;obtain⟨b,hb⟩:=qeK (l:=s) (i:=i) (by omega)
  have hbe:=(List.getElem?_eq_some_iff.1 hb).2;have w:=qbS (i:=i) (by omega)
  have hlt:i < s.length:=by omega
  have h1:=ih (i+1) (by omega)
  rw [qaR hb,qyc];cases hc:qaw b with
  |true =>
   have e:i+(runL qaw (s.drop (i+1))+1)=i+1+runL qaw (s.drop (i+1)):=by omega
   simp only [runL,hc,if_true,e];rw [← h1];simp [qfw,hlt,hbe,qdG,hc,w]
  |false=>simp [qfw,hlt,hbe,qdG,hc,runL]
theorem qwZ {s:List UInt8} (hs:s.length < 9223372036854775807) {i:Nat} (hi:i≤s.length):qqa s (i:Nat)=some (.int .i64 ((i+runL qaw (s.drop i):Nat):Int)):=by
 have h:=qDB s hs (s.length - i) i (by omega)
 unfold qqa qqR
 try dsimp only
 simp only [qkx,qgt,qrd,h];simp
theorem qJF {s:List UInt8} (hs:s.length < 9223372036854775807) {i:Nat} (hi:i≤s.length):qfr s (i:Nat)=true:=by simp only [qfr,qdi,qwZ hs hi];simp
theorem qKW {s:List UInt8} (hs:s.length < 9223372036854775807) {i:Nat} (hi:i≤s.length):qdi s (i:Nat)=((i+runL qaw (s.drop i):Nat):Int):=by simp only [qdi,qwZ hs hi];simp
theorem qKt (s:qU) (hs:s.length < 9223372036854775807):∀ (m i:Nat) (c:Bool),i+m=s.length→qrn [.str s,.int .i64 (i:Nat),.bool c] ⟨[],[],[]⟩=some (.exit 0,[.int .i64 ((i+gapL c (s.drop i):Nat):Int)],⟨[],[],[]⟩):=by
 intro m
 induction m with
 |zero =>
  intro i c hi;rw [qNm,List.drop_eq_nil_of_le (by omega)]
  have:¬ (i:Int) < s.length:=by omega
  simp [qos,gapL,this]
 |succ m ih =>
  intro i c hi;obtain⟨b,hb⟩:=qeK (l:=s) (i:=i) (by omega)
  have hbe:=(List.getElem?_eq_some_iff.1 hb).2;have w:=qbS (i:=i) (by omega)
  have hlt:i < s.length:=by omega
  rw [qaR hb,qNm];have q1:iEq (sAt s (i:Int)) 37=decide (b.toNat=37):=by simp [hlt,hbe];omega
  have q2:iNe (sAt s (i:Int)) 10=decide (b.toNat≠10):=by simp [hlt,hbe];omega
  have q3:qiu (sAt s (i:Int))=blB b:=by simp [hlt,hbe,qPv]
  have q4:qaz s (i:Int)=true:=by simp;omega
  have q5:iLt (i:Int) (sLen s)=true:=by simp;omega
  have h1:=ih (i+1) (decide (b.toNat=37) || c&&decide (b.toNat≠10)) (by omega)
  cases hg:(c || blB b || decide (b.toNat=37)) with
  |true =>
   have e:gapL c (b::s.drop (i+1))=gapL (decide (b.toNat=37) || c&&decide (b.toNat≠10)) (s.drop (i+1))+1:=by
    simp only [gapL,hg,if_true]
   rw [e,show i+(gapL (decide (b.toNat=37) || c&&decide (b.toNat≠10)) (s.drop (i+1))+1)=i+1+gapL (decide (b.toNat=37) || c&&decide (b.toNat≠10)) (s.drop (i+1)) from by omega,← h1]
   simp only [qos,q1,q2,q3,q4,q5,qDC,w];cases c<;>cases hb2:blB b<;>by_cases h37:b.toNat=37<;>simp [hb2,h37] at hg ⊢
  |false =>
   have e:gapL c (b::s.drop (i+1))=0:=by
    simp only [gapL,hg,Bool.false_eq_true,if_false]
   rw [e];simp only [Bool.or_eq_false_iff,decide_eq_false_iff_not] at hg;obtain⟨⟨rfl,hb2⟩,h37⟩:=hg;simp only [qos,q1,q2,q3,q4,q5,qDC,w,hb2];simp [h37]
theorem qHd {s:List UInt8} (hs:s.length < 9223372036854775807) {i:Nat} (hi:i≤s.length):qHs s (i:Nat)=some (.int .i64 ((i+gapL false (s.drop i):Nat):Int)):=by
 have h:=qKt s hs (s.length - i) i false (by omega)
 unfold qHs qEz
 try dsimp only
 simp only [qws,qpa,qFY,h];simp
theorem qM8 {s:List UInt8} (hs:s.length < 9223372036854775807) {i:Nat} (hi:i≤s.length):qgn s (i:Nat)=true:=by simp only [qgn,qmF,qHd hs hi];simp
theorem qQ7 {s:List UInt8} (hs:s.length < 9223372036854775807) {i:Nat} (hi:i≤s.length):qmF s (i:Nat)=((i+gapL false (s.drop i):Nat):Int):=by simp only [qmF,qHd hs hi];simp
theorem qEd (s:qU) (hs:s.length < 9223372036854775800):∀ (m i:Nat),s.length≤i+m→i≤s.length+1→qdd [.str s,.int .i64 (i:Nat)] ⟨[],[],[]⟩=qOut i (quoE false (s.drop i)):=by
 have hend:∀ i:Nat,s.length≤i→qdd [.str s,.int .i64 (i:Nat)] ⟨[],[],[]⟩=some (.exit 0,[],⟨[],[],[]⟩):=fun i hi=>by
  rw [qyY];have:¬ (i:Int) < s.length:=by omega
  simp [qdR,this]
 intro m
 induction m with
 |zero =>
  intro i hi _;rw [hend i (by omega),List.drop_eq_nil_of_le (by omega)]
  simp [quoE,qOut]
 |succ m ih =>
  intro i hi hi2;by_cases hlt:i < s.length
  ·obtain⟨b,hb⟩:=qeK (l:=s) (i:=i) hlt;have hbe:=(List.getElem?_eq_some_iff.1 hb).2;have w:=qbS (i:=i) (by omega)
   have w2:=qbS (i:=i+1) (by omega)
   have h1:=ih (i+1) (by omega) (by omega)
   rw [qaR hb,qyY];simp only [quoE];have t1:iLt (i:Int) (sLen s)=true:=by simp;omega
   have t2:qaz s (i:Int)=true:=by simp;omega
   have t3:sAt s (i:Int)=b.toNat:=by simp [hbe,hlt]
   by_cases hq:b.toNat=34
   ·rw [if_pos hq];simp only [qdR,t1,t2,t3];simp [hq,w,qOut]
   ·rw [if_neg hq];have hq':¬ ((b.toNat:Int)=34):=by omega
    by_cases hp:b.toNat=92
    ·rw [if_pos hp,qlu];have e1:qdd [.str s,.int .i64 (iAdd .i64 (iAdd .i64 (i:Int) 1) 1)] ⟨[],[],[]⟩=qOut (i+1) (quoE true (s.drop (i+1))):=by
      rw [w,w2];by_cases hl2:i+1 < s.length
      ·obtain⟨c,hc⟩:=qeK (l:=s) (i:=i+1) hl2;rw [qaR hc];simp only [quoE];rw [qlu];exact ih (i+1+1) (by omega) (by omega)
      ·rw [hend (i+1+1) (by omega),List.drop_eq_nil_of_le (by omega)]
       simp [quoE,qOut]
     rw [← e1];simp only [qdR,t1,t2,t3];simp [hp]
    ·have hp':¬ ((b.toNat:Int)=92):=by omega
     rw [if_neg hp,qlu,← h1,← w];simp only [qdR,t1,t2,t3];simp [hq',hp']
  ·rw [hend i (by omega),List.drop_eq_nil_of_le (by omega)]
   simp [quoE,qOut]
theorem qwq {s:List UInt8} (hs:s.length < 9223372036854775800) {i:Nat} (hi:i < s.length):qpc s (i:Nat)=some (.int .i64 (if quoL (s.drop (i+1))=0 then -1 else ((i+1+quoL (s.drop (i+1)):Nat):Int))):=by
 have h:=qEd s hs (s.length - (i+1)) (i+1) (by omega) (by omega)
 have w:=qbS (i:=i) (by omega)
 unfold qpc qrI
 try dsimp only
 rw [w];unfold qOut at h
 rw [show quoE false (s.drop (i+1))=quoL (s.drop (i+1)) from rfl] at h
 by_cases h0:quoL (s.drop (i+1))=0
 ·rw [if_pos h0] at h ⊢;simp only [qgu,qgo,qex,qho,h];simp
 ·rw [if_neg h0] at h ⊢;simp only [qgu,qgo,qex,qho,h];simp
theorem qKa {s:List UInt8} (hs:s.length < 9223372036854775800) {i:Nat} (hi:i < s.length):qf3 s (i:Nat)=true:=by simp only [qf3,qa2,qwq hs hi];simp
theorem qL7 {s:List UInt8} (hs:s.length < 9223372036854775800) {i:Nat} (hi:i < s.length):qa2 s (i:Nat)=(if quoL (s.drop (i+1))=0 then -1 else ((i+1+quoL (s.drop (i+1)):Nat):Int)):=by simp only [qa2,qwq hs hi];simp
theorem qyJ {s:List UInt8} (hs:s.length≤140737488355328) (k at_:Int):qeg k s at_=some (if eRd s=0 then wTup k s (kRd s,nRd s,sRd s) at_ true else wTup 0 [] (0,0,[]) 0 false):=by
 unfold qeg qwA wTup
 try dsimp only
 by_cases h:eRd s=0<;>simp [hs,h]
theorem qw2 {s:List UInt8} (hs:s.length≤140737488355328) (k at_:Int):qff k s at_=true:=by
 simp only [qff,qgO,qgB,qel,qek,qey,qew,qgE,qyJ hs];by_cases h:eRd s=0<;>simp [h,wTup]
theorem qAf {s:List UInt8} (hs:s.length≤140737488355328) (k at_:Int):(PV.tup [.agg [.int .i64 (qgO k s at_),.str (qgB k s at_),.int .i64 (qel k s at_),.int .i64 (qek k s at_),.str (qey k s at_),.int .i64 (qew k s at_)],.bool (qgE k s at_)])=if eRd s=0 then wTup k s (kRd s,nRd s,sRd s) at_ true else wTup 0 [] (0,0,[]) 0 false:=by
 simp only [qgO,qgB,qel,qek,qey,qew,qgE,qyJ hs];by_cases h:eRd s=0<;>simp [h,wTup]
theorem qEo {v:List UInt8} (hs:v.length < 9223372036854775800) {i:Nat} {c:UInt8} {t:List UInt8} (hv:v.drop i=c::t):qB3 v (i:Nat)=some (.int .i64 (qdS c t:Nat)):=by
 have hl:v.length=i+(t.length+1):=by
  have:=congrArg List.length hv;simp at this;omega
 have hc:v[i]?=some c:=by
  have:(v.drop i)[0]?=some c:=by rw [hv];rfl
  simpa using this
 have hbe:=(List.getElem?_eq_some_iff.1 hc).2;have e3:sAt v (i:Int)=(c.toNat:Int):=by
  have:i < v.length:=by omega
  simp [this,hbe]
 have q:qaz v (i:Int)=true:=by simp;omega
 have k40:iEq (sAt v (i:Int)) 40=decide (c.toNat=40):=by rw [e3];simp;omega
 have k41:iEq (sAt v (i:Int)) 41=decide (c.toNat=41):=by rw [e3];simp;omega
 have k44:iEq (sAt v (i:Int)) 44=decide (c.toNat=44):=by rw [e3];simp;omega
 have k46:iEq (sAt v (i:Int)) 46=decide (c.toNat=46):=by rw [e3];simp;omega
 have k43:iEq (sAt v (i:Int)) 43=decide (c.toNat=43):=by rw [e3];simp;omega
 have k45:iEq (sAt v (i:Int)) 45=decide (c.toNat=45):=by rw [e3];simp;omega
 have k61:iEq (sAt v (i:Int)) 61=decide (c.toNat=61):=by rw [e3];simp;omega
 have k58:iEq (sAt v (i:Int)) 58=decide (c.toNat=58):=by rw [e3];simp;omega
 have k60:iEq (sAt v (i:Int)) 60=decide (c.toNat=60):=by rw [e3];simp;omega
 have k62:iEq (sAt v (i:Int)) 62=decide (c.toNat=62):=by rw [e3];simp;omega
 have w2:iAdd .i64 (i:Int) 2=((i+2:Nat):Int):=qaI (by omega)
 have w3:iSub .i64 (sLen v) (i:Int)=((t.length+1:Nat):Int):=by
  rw [qjx];unfold iSub;rw [qaI (by omega)]
  omega
 have ones:∀ T:Option PV,T=(if c.toNat=40 then some (.int .i64 1) else if c.toNat=41 then some (.int .i64 1) else if c.toNat=44 then some (.int .i64 1) else if c.toNat=46 then some (.int .i64 1) else if c.toNat=43 then some (.int .i64 1) else if c.toNat=45 then some (.int .i64 1) else if c.toNat=61 then some (.int .i64 1) else if c.toNat=58 then some (.int .i64 1) else if c.toNat=60 then some (.int .i64 1) else if c.toNat=62 then some (.int .i64 1) else some (.int .i64 0))→T=some (.int .i64 ((if qmz c then 1 else 0:Nat):Int)):=fun T hT=>by
  rw [hT];cases ho:qmz c with
  |true =>
   simp [qmz] at ho;simp only [if_true]
   repeat' split
   all_goals first|rfl|(exfalso;omega)
  |false =>
   simp [qmz] at ho;simp only [Bool.false_eq_true,if_false]
   repeat' split
   all_goals first|rfl|(exfalso;omega)
 unfold qB3 qAE qdS
 try dsimp only
 rw [w3,w2];cases t with
 |nil =>
  have g:iLe 2 (([]:List UInt8).length+1:Nat)=false:=by decide
  rw [g];simp only [hdIs,Bool.false_eq_true,if_false];refine ones _ ?_;simp only [k40,k41,k44,k46,k43,k45,k61,k58,k60,k62,q];simp
 |cons d u =>
  have g:iLe 2 (((d::u).length+1:Nat):Int)=true:=by simp;omega
  have g2:qbc (qay (i:Int)) (qay ((i+2:Nat):Int)) (nNat (i:Int)) (nNat ((i+2:Nat):Int)) (nLen v)=true:=by simp at hl ⊢;omega
  have g3:sSub v (nNat (i:Int)) (nNat ((i+2:Nat):Int))=[c,d]:=by
   simp only [qAj,qBm,Int.toNat_natCast];rw [List.drop_take,hv,show i+2 - i=2 from by omega]
   rfl
  rw [g,g2,g3];have two:∀ a b:UInt8,sEq [c,d] [a,b]=decide (c.toNat=a.toNat∧d.toNat=b.toNat):=fun a b=>by
   simp [← UInt8.toNat_inj]
  rw [two,two,two,two];have ht:hdIs (twoB c) (d::u)=(decide (c.toNat=58∧d.toNat=45) || decide (c.toNat=60∧d.toNat=61) || decide (c.toNat=62∧d.toNat=61) || decide (c.toNat=33∧d.toNat=61)):=rfl;rw [ht];by_cases z1:c.toNat=58∧d.toNat=45
  ·simp [z1]
  ·by_cases z2:c.toNat=60∧d.toNat=61
   ·simp [z2]
   ·by_cases z3:c.toNat=62∧d.toNat=61
    ·simp [z3]
    ·by_cases z4:c.toNat=33∧d.toNat=61
     ·simp [z4]
     ·have y1:decide (c.toNat=(58:UInt8).toNat∧d.toNat=(45:UInt8).toNat)=false:=decide_eq_false z1;have y2:decide (c.toNat=(60:UInt8).toNat∧d.toNat=(61:UInt8).toNat)=false:=decide_eq_false z2;have y3:decide (c.toNat=(62:UInt8).toNat∧d.toNat=(61:UInt8).toNat)=false:=decide_eq_false z3;have y4:decide (c.toNat=(33:UInt8).toNat∧d.toNat=(61:UInt8).toNat)=false:=decide_eq_false z4;rw [y1,y2,y3,y4,decide_eq_false z1,decide_eq_false z2,decide_eq_false z3,decide_eq_false z4];simp only [Bool.or_false,Bool.false_eq_true,if_false];refine ones _ ?_;simp only [k40,k41,k44,k46,k43,k45,k61,k58,k60,k62,q];simp
theorem qQx {v:List UInt8} (hs:v.length < 9223372036854775800) {i:Nat} {c:UInt8} {t:List UInt8} (hv:v.drop i=c::t):qjV v (i:Nat)=true:=by simp only [qjV,qd8,qEo hs hv];simp
theorem qTn {v:List UInt8} (hs:v.length < 9223372036854775800) {i:Nat} {c:UInt8} {t:List UInt8} (hv:v.drop i=c::t):qd8 v (i:Nat)=(qdS c t:Nat):=by simp only [qd8,qEo hs hv];simp
def rOut (v:qU) (i:Nat):Option (Int×Nat×Vl)→PV
 |some (k,m,x)=>wTup k ((v.drop i).take m) x (i:Nat) true
 |none=>wTup 0 [] (0,0,[]) 0 false
theorem qFA (k:Int) (s:qU) (n:Nat) (v:qU) (i:Nat) (hv:v.drop i=s):rOut v i (valL k s n)=if eRd (s.take n)=0 then wTup k (s.take n) (kRd (s.take n),nRd (s.take n),sRd (s.take n)) (i:Nat) true else wTup 0 [] (0,0,[]) 0 false:=by
 unfold valL eRd kRd nRd sRd rOut;rw [hv];cases h:rdV (s.take n)<;>simp
theorem qNw {v:List UInt8} (hs:v.length≤140737488355328) {i:Nat} {c:UInt8} {t:List UInt8} (hv:v.drop i=c::t):qgY v (i:Nat)=some (rOut v i (wdL (c::t))):=by
 have hs1:v.length < 9223372036854775807:=by omega
 have hs2:v.length < 9223372036854775800:=by omega
 have hl:v.length=i+(t.length+1):=by
  have:=congrArg List.length hv;simp at this;omega
 have hc:v[i]?=some c:=by
  have:(v.drop i)[0]?=some c:=by rw [hv];rfl
  simpa using this
 have ht:v.drop (i+1)=t:=by rw [← List.drop_drop,hv];rfl
 have hbe:=(List.getElem?_eq_some_iff.1 hc).2;have hlt:i < v.length:=by omega
 have e3:sAt v (i:Int)=(c.toNat:Int):=by simp [hlt,hbe]
 have w:=qbS (i:=i) (by omega)
 -- parts of the text from i
 have hsub:∀ n:Nat,sSub v (nNat (i:Int)) (nNat ((i+n:Nat):Int))=(c::t).take n:=fun n=>by
  simp only [qAj,qBm,Int.toNat_natCast];rw [List.drop_take,hv,show i+n - i=n from by omega]
 have hok:∀ n:Nat,n≤t.length+1→qbc (qay (i:Int)) (qay ((i+n:Nat):Int)) (nNat (i:Int)) (nNat ((i+n:Nat):Int)) (nLen v)=true:=fun n hn=>by simp;omega
 have hne:∀ n:Nat,n≠0→iEq ((i+n:Nat):Int) (i:Int)=false:=fun n hn=>by simp;omega
 have hln:∀ n:Nat,n≤t.length+1→iLt 64 (sLen ((c::t).take n))=decide (64 < n):=fun n hn=>by
  simp only [qjx,qIi,List.length_take,List.length_cons];apply decide_eq_decide.2;omega
 have q0:qaz v (i:Int)=true:=by simp;omega
 have q1:smI (sAt v (i:Int))=qfK c:=by rw [e3,qId]
 have q2:grI (sAt v (i:Int))=qkv c:=by rw [e3,qHh]
 have q3:iEq (sAt v (i:Int)) 95=decide (c.toNat=95):=by rw [e3];simp;omega
 have q4:dgI (sAt v (i:Int))=qaw c:=by rw [e3,qdG]
 have q5:iEq (sAt v (i:Int)) 45=decide (c.toNat=45):=by rw [e3];simp;omega
 have q6:iEq (sAt v (i:Int)) 34=decide (c.toNat=34):=by rw [e3];simp;omega
 have n1:=qQw hs1 (i:=i) (by omega)
 have n2:=qSV hs1 (i:=i) (by omega)
 rw [hv] at n2;have z23:iEq 2 3=false:=by decide
 have z13:iEq 1 3=false:=by decide
 have z33:iEq 3 3=true:=by decide
 have z63:iEq 6 3=false:=by decide
 have hr1:=qnD innB t;unfold qgY qzn
 try dsimp only
 by_cases h1:qfK c=true
 ·have e:runL innB (c::t)=runL innB t+1:=by simp [runL,innB,h1]
  rw [e] at n2;have g:qkv c=false:=by
   simp [qfK] at h1;simp [qkv];omega
  simp only [q0,qkm,qpO,qkd,qpX,q1,q2,h1,g,n1,n2,hok (runL innB t+1) (by omega),hne (runL innB t+1) (by omega),hsub,hln (runL innB t+1) (by omega),z13,wdL,if_true]
  by_cases h64:runL innB t+1≤64
  ·have:¬ 64 < runL innB t+1:=by omega
   simp [this,h64,rOut,wTup,hv]
  ·have:64 < runL innB t+1:=by omega
   simp [this,h64,rOut,wTup]
 ·have h1':qfK c=false:=by simpa using h1
  by_cases h2:qkv c=true
  ·have e:runL innB (c::t)=runL innB t+1:=by simp [runL,innB,h2]
   rw [e] at n2;simp only [q0,qkm,qpO,qkd,qpX,q1,q2,h1',h2,n1,n2,hok (runL innB t+1) (by omega),hne (runL innB t+1) (by omega),hsub,hln (runL innB t+1) (by omega),z23,wdL,if_true,Bool.false_eq_true,if_false]
   by_cases h64:runL innB t+1≤64
   ·have:¬ 64 < runL innB t+1:=by omega
    simp [this,h64,rOut,wTup,hv]
   ·have:64 < runL innB t+1:=by omega
    simp [this,h64,rOut,wTup]
  ·have h2':qkv c=false:=by simpa using h2
   by_cases h3:c.toNat=95
   ·have e:runL innB (c::t)=runL innB t+1:=by simp [runL,innB,h3]
    rw [e] at n2;have ee:wdL (c::t)=if hdIs innB t then none else some (3,1,0,0,[]):=by
     show (if qfK c=true then _ else _)=_
     rw [if_neg h1,if_neg h2,if_pos h3]
    have nn:iNe ((i+(runL innB t+1):Nat):Int) (iAdd .i64 (i:Int) 1)=hdIs innB t:=by
     rw [w];cases t with
     |nil=>simp [runL,hdIs]
     |cons d u =>
      simp only [runL,hdIs];cases innB d<;>simp<;>omega
    rw [ee];simp only [q0,qkm,qpO,qkd,qpX,q1,q2,h1',h2',q3,h3,decide_true,n1,n2,hok (runL innB t+1) (by omega),hne (runL innB t+1) (by omega),hsub,hln (runL innB t+1) (by omega),z33,nn]
    cases hh:hdIs innB t with
    |true =>
     by_cases h64:64 < runL innB t+1<;>simp [h64,rOut,wTup]
    |false =>
     have r0:runL innB t=0:=by
      cases t with
      |nil=>rfl
      |cons d u=>simp [hdIs] at hh;simp [runL,hh]
     rw [r0];simp [rOut,wTup,hv]
   ·have val:∀ (k:Int) (n:Nat),n≤t.length+1→((c::t).take n).length≤140737488355328:=fun k n hn=>by rw [List.length_take];simp;omega
    have hr2:=qnD qaw t;have d1:qfr v ((i+1:Nat):Int)=true:=qJF hs1 (by omega)
    have d2:qdi v ((i+1:Nat):Int)=((i+(runL qaw t+1):Nat):Int):=by
     rw [qKW hs1 (by omega),ht]
     congr 1
     omega
    by_cases h4:qaw c=true
    ·have ee:wdL (c::t)=valL 4 (c::t) (runL qaw t+1):=by
      show (if qfK c=true then _ else _)=_
      rw [if_neg h1,if_neg h2,if_neg h3,if_pos (by simp [h4])]
     rw [ee,qFA 4 (c::t) _ v i hv];simp only [q0,qkm,qpO,qkd,qpX,q1,q2,h1',h2',q3,decide_eq_false h3,qDr,qIh,q4,h4,w,d1,d2,hok (runL qaw t+1) (by omega),hsub,qw2 (val 4 (runL qaw t+1) (by omega)),qAf (val 4 (runL qaw t+1) (by omega))]
     rfl
    ·have h4':qaw c=false:=by simpa using h4
     -- a symbol,or a mark
     have rest:∀ T:Tr PV,(c.toNat=45→hdIs qaw t=false)→T.run=(Tr.ite (iEq (sAt v (i:Int)) 34)
       (Tr.ite (qf3 v (i:Int))
        (Tr.ite (iLt (qa2 v (i:Int)) 0)
         (Tr.ret (PV.tup [PV.agg [PV.int .i64 0,PV.str [],PV.int .i64 0,PV.int .i64 0,PV.str [],PV.int .i64 0],PV.bool false]))
         (Tr.ite (qbc (qay (i:Int)) (qay (qa2 v (i:Int))) (nNat (i:Int)) (nNat (qa2 v (i:Int))) (nLen v))
          (Tr.ite (qff 5 (sSub v (nNat (i:Int)) (nNat (qa2 v (i:Int)))) (i:Int))
           (Tr.ret (PV.tup [PV.agg [PV.int .i64 (qgO 5 (sSub v (nNat (i:Int)) (nNat (qa2 v (i:Int)))) (i:Int)),PV.str (qgB 5 (sSub v (nNat (i:Int)) (nNat (qa2 v (i:Int)))) (i:Int)),PV.int .i64 (qel 5 (sSub v (nNat (i:Int)) (nNat (qa2 v (i:Int)))) (i:Int)),PV.int .i64 (qek 5 (sSub v (nNat (i:Int)) (nNat (qa2 v (i:Int)))) (i:Int)),PV.str (qey 5 (sSub v (nNat (i:Int)) (nNat (qa2 v (i:Int)))) (i:Int)),PV.int .i64 (qew 5 (sSub v (nNat (i:Int)) (nNat (qa2 v (i:Int)))) (i:Int))],PV.bool (qgE 5 (sSub v (nNat (i:Int)) (nNat (qa2 v (i:Int)))) (i:Int))]))
           Tr.fail)
          Tr.fail))
        Tr.fail)
       (Tr.ite (qjV v (i:Int))
        (Tr.ite (qbc (qay (i:Int)) (qay (iAdd .i64 (i:Int) (qd8 v (i:Int)))) (nNat (i:Int)) (nNat (iAdd .i64 (i:Int) (qd8 v (i:Int)))) (nLen v))
         (Tr.ite (iEq (iAdd .i64 (i:Int) (qd8 v (i:Int))) (i:Int))
          (Tr.ret (PV.tup [PV.agg [PV.int .i64 0,PV.str [],PV.int .i64 0,PV.int .i64 0,PV.str [],PV.int .i64 0],PV.bool false]))
          (Tr.ite (iLt 64 (sLen (sSub v (nNat (i:Int)) (nNat (iAdd .i64 (i:Int) (qd8 v (i:Int)))))))
           (Tr.ret (PV.tup [PV.agg [PV.int .i64 0,PV.str [],PV.int .i64 0,PV.int .i64 0,PV.str [],PV.int .i64 0],PV.bool false]))
           (Tr.ite (iEq 6 3)
            (Tr.ite (iNe (iAdd .i64 (i:Int) (qd8 v (i:Int))) (iAdd .i64 (i:Int) 1))
             (Tr.ret (PV.tup [PV.agg [PV.int .i64 0,PV.str [],PV.int .i64 0,PV.int .i64 0,PV.str [],PV.int .i64 0],PV.bool false]))
             (Tr.ret (PV.tup [PV.agg [PV.int .i64 6,PV.str (sSub v (nNat (i:Int)) (nNat (iAdd .i64 (i:Int) (qd8 v (i:Int))))),PV.int .i64 0,PV.int .i64 0,PV.str [],PV.int .i64 (i:Int)],PV.bool true])))
            (Tr.ret (PV.tup [PV.agg [PV.int .i64 6,PV.str (sSub v (nNat (i:Int)) (nNat (iAdd .i64 (i:Int) (qd8 v (i:Int))))),PV.int .i64 0,PV.int .i64 0,PV.str [],PV.int .i64 (i:Int)],PV.bool true])))))
         Tr.fail)
        Tr.fail)).run→T.run=some (rOut v i (wdL (c::t))):=by
      intro T h45 hT;rw [hT,q6];have hd:¬ (qaw c || (decide (c.toNat=45)&&hdIs qaw t))=true:=by
       rw [h4'];by_cases hc45:c.toNat=45
       ·simp [hc45,h45 hc45]
       ·simp [hc45]
      by_cases h6:c.toNat=34
      ·have ee:wdL (c::t)=if quoL t=0 then none else valL 5 (c::t) (quoL t+1):=by
        show (if qfK c=true then _ else _)=_
        rw [if_neg h1,if_neg h2,if_neg h3,if_neg hd,if_pos h6]
       rw [ee,decide_eq_true h6,qKa hs2 hlt,qL7 hs2 hlt,ht];have hq:=qGo t;by_cases h0:quoL t=0
       ·rw [if_pos h0,if_pos h0];rfl
       ·rw [if_neg h0,if_neg h0,qFA 5 (c::t) _ v i hv];have e5:((i+1+quoL t:Nat):Int)=((i+(quoL t+1):Nat):Int):=by omega
        have e6:iLt ((i+(quoL t+1):Nat):Int) 0=false:=by simp;omega
        rw [e5,e6,hok (quoL t+1) (by omega),hsub,qw2 (val 5 (quoL t+1) (by omega)),qAf (val 5 (quoL t+1) (by omega))]
        rfl
      ·have ee:wdL (c::t)=if qdS c t=0 then none else some (6,qdS c t,0,0,[]):=by
        show (if qfK c=true then _ else _)=_
        rw [if_neg h1,if_neg h2,if_neg h3,if_neg hd,if_neg h6]
       have hm:qdS c t≤t.length+1∧qdS c t≤2:=by
        unfold qdS;cases t with
        |nil=>cases qmz c<;>simp [hdIs]
        |cons d u=>cases hdIs (twoB c) (d::u)<;>cases qmz c<;>simp
       have wm:iAdd .i64 (i:Int) ((qdS c t:Nat):Int)=((i+qdS c t:Nat):Int):=qaI (by omega)
       rw [ee,decide_eq_false h6,qQx hs2 hv,qTn hs2 hv,wm,hok (qdS c t) hm.1,hsub,hln (qdS c t) hm.1,z63];by_cases h0:qdS c t=0
       ·rw [if_pos h0,h0];have:iEq ((i+0:Nat):Int) (i:Int)=true:=by simp
        rw [this];rfl
       ·have:decide (64 < qdS c t)=false:=decide_eq_false (by omega)
        rw [if_neg h0,hne _ h0,this];simp [rOut,wTup,hv]
     simp only [q0,qkm,qpO,qkd,qpX,q1,q2,h1',h2',q3,decide_eq_false h3,qDr,qIh,q4,h4',q5,w];by_cases h45:c.toNat=45
     ·rw [decide_eq_true h45];cases t with
      |nil =>
       have g:iLt ((i+1:Nat):Int) (sLen v)=false:=by simp at hl ⊢;omega
       rw [g];refine rest _ (fun _=>rfl) ?_
       rw [w];rfl
      |cons d u =>
       have g:iLt ((i+1:Nat):Int) (sLen v)=true:=by simp at hl ⊢;omega
       have g2:qaz v ((i+1:Nat):Int)=true:=by simp at hl ⊢;omega
       have hd1:v[i+1]?=some d:=by
        have:(v.drop (i+1))[0]?=some d:=by rw [ht];rfl
        simpa using this
       have g3:dgI (sAt v ((i+1:Nat):Int))=qaw d:=by
        rw [← qdG];have h5:=(List.getElem?_eq_some_iff.1 hd1);obtain⟨h5a,h5b⟩:=h5
        congr 1
        simp only [qRg,Int.toNat_natCast,List.getD_eq_getElem?_getD,hd1,Option.getD_some]
       rw [g,g2,g3];cases hdd:qaw d with
       |true =>
        have ee:wdL (c::d::u)=valL 4 (c::d::u) (runL qaw (d::u)+1):=by
         show (if qfK c=true then _ else _)=_
         rw [if_neg h1,if_neg h2,if_neg h3,if_pos (by simp [h45,hdIs,hdd])]
        rw [ee,qFA 4 (c::d::u) _ v i hv];simp only [d1,d2,hok (runL qaw (d::u)+1) (by omega),hsub,qw2 (val 4 (runL qaw (d::u)+1) (by omega)),qAf (val 4 (runL qaw (d::u)+1) (by omega))]
        rfl
       |false =>
        refine rest _ (fun _=>by simp [hdIs,hdd]) ?_
        rw [w];rfl
     ·rw [decide_eq_false h45];refine rest _ (fun h=>absurd h h45) ?_
      rw [w];rfl
end Go.Pv
set_option maxHeartbeats 8000000
set_option maxRecDepth 200000
set_option linter.unusedSimpArgs false
set_option linter.unusedVariables false
namespace Go.Pv
open Go Go.Proofs Go.RowKit
theorem qMu {s:List UInt8} (hs:s.length≤140737488355328) (hne:s≠[]):∃ k x v,qbf s=some (wTup k x v 0 (wdL s).isSome)∧∀ k' m v',wdL s=some (k',m,v')→k'=k∧x=s.take m∧v'=v:=by
 obtain⟨c,t,rfl⟩:=List.exists_cons_of_ne_nil hne;have val:∀ (k:Int) (n:Nat),(valL k (c::t) n).isSome=decide (eRd ((c::t).take n)=0)∧∀ k' m v',valL k (c::t) n=some (k',m,v')→k'=k∧(c::t).take n=(c::t).take m∧v'=(kRd ((c::t).take n),nRd ((c::t).take n),sRd ((c::t).take n)):=fun k n=>by
  unfold valL eRd kRd nRd sRd;cases h:rdV ((c::t).take n) with
  |none=>simp
  |some v =>
   refine⟨by simp,fun k' m v' he=>?_⟩
   cases he
   exact⟨rfl,rfl,rfl⟩
 by_cases h1:qfK c=true
 ·have e:runL innB (c::t)=runL innB t+1:=by simp [runL,innB,h1]
  refine⟨1,(c::t).take (runL innB t+1),(0,0,[]),?_,fun k' m v' he=>?_⟩
  ·rw [qFd hs h1,e]
   congr 2
   simp only [wdL,h1,if_true];by_cases hl:runL innB t+1≤64<;>simp [hl]
  ·simp only [wdL,h1,if_true] at he;split at he
   ·cases he;exact⟨rfl,rfl,rfl⟩
   ·cases he
 ·have h1':qfK c=false:=by simpa using h1
  by_cases h2:qkv c=true
  ·have e:runL innB (c::t)=runL innB t+1:=by simp [runL,innB,h2]
   refine⟨2,(c::t).take (runL innB t+1),(0,0,[]),?_,fun k' m v' he=>?_⟩
   ·rw [qFm hs h2,e]
    congr 2
    simp only [wdL,h1',h2,if_true,Bool.false_eq_true,if_false];by_cases hl:runL innB t+1≤64<;>simp [hl]
   ·simp only [wdL,h1',h2,if_true,Bool.false_eq_true,if_false] at he;split at he
    ·cases he;exact⟨rfl,rfl,rfl⟩
    ·cases he
  ·have h2':qkv c=false:=by simpa using h2
   by_cases h3:c.toNat=95
   ·have hc:c=95:=UInt8.toNat_inj.1 h3;refine⟨3,[95],(0,0,[]),?_,fun k' m v' he=>?_⟩
    ·rw [qMJ hs h3]
     congr 2
     simp only [wdL,h1',h2',h3,if_true,Bool.false_eq_true,if_false];cases hdIs innB t<;>simp
    ·simp only [wdL,h1',h2',h3,if_true,Bool.false_eq_true,if_false] at he;split at he
     ·cases he
     ·cases he;exact⟨rfl,by rw [hc];simp,rfl⟩
   ·have dg:qbf (c::t)=some (dgW (c::t))→(qaw c || (decide (c.toNat=45)&&hdIs qaw t))=true→∃ k x v,qbf (c::t)=some (wTup k x v 0 (wdL (c::t)).isSome)∧∀ k' m v',wdL (c::t)=some (k',m,v')→k'=k∧x=(c::t).take m∧v'=v:=fun hw hd=>by
     have e:wdL (c::t)=valL 4 (c::t) (runL qaw t+1):=by simp only [wdL,h1',h2',h3,hd,if_true,Bool.false_eq_true,if_false]
     obtain⟨v1,v2⟩:=val 4 (runL qaw t+1);refine⟨4,(c::t).take (runL qaw t+1),(kRd ((c::t).take (runL qaw t+1)),nRd ((c::t).take (runL qaw t+1)),sRd ((c::t).take (runL qaw t+1))),?_,fun k' m v' he=>v2 k' m v' (by rw [← e];exact he)⟩
     rw [hw,e,v1];rfl
    by_cases h4:qaw c=true
    ·exact dg (qPm hs h4) (by simp [h4])
    ·have h4':qaw c=false:=by simpa using h4
     by_cases h5:c.toNat=45∧hdIs qaw t=true
     ·cases t with
      |nil=>simp [hdIs] at h5
      |cons d u=>exact dg (qLA hs h5.1 h5.2) (by simp [h5.1,h5.2])
     ·have h5':(qaw c || (decide (c.toNat=45)&&hdIs qaw t))=false:=by
       rw [h4'];by_cases hc:c.toNat=45
       ·have:hdIs qaw t=false:=by
         cases hh:hdIs qaw t with
         |false=>rfl
         |true=>exact absurd ⟨hc,hh⟩ h5
        simp [this]
       ·simp [hc]
      by_cases h6:c.toNat=34
      ·have e:wdL (c::t)=if quoL t=0 then none else valL 5 (c::t) (quoL t+1):=by
        show (if qfK c=true then _ else _)=_
        rw [if_neg h1,if_neg h2,if_neg h3,if_neg (by rw [h5'];simp),if_pos h6]
       obtain⟨v1,v2⟩:=val 5 (symN t);refine⟨5,(c::t).take (symN t),(kRd ((c::t).take (symN t)),nRd ((c::t).take (symN t)),sRd ((c::t).take (symN t))),?_,fun k' m v' he=>?_⟩
       ·rw [qLK hs h6,e];by_cases hq:quoL t=0
        ·rw [if_pos hq];unfold syW symN;rw [if_pos hq];have:eRd []=10:=by decide
         simp [this,wTup]
        ·rw [if_neg hq];unfold symN at v1 ⊢;rw [if_neg hq] at v1 ⊢;rw [v1];rfl
       ·rw [e] at he;by_cases hq:quoL t=0
        ·rw [if_pos hq] at he;cases he
        ·rw [if_neg hq] at he;refine v2 k' m v' ?_;unfold symN;rw [if_neg hq];exact he
      ·have e:wdL (c::t)=if qdS c t=0 then none else some (6,qdS c t,0,0,[]):=by
        show (if qfK c=true then _ else _)=_
        rw [if_neg h1,if_neg h2,if_neg h3,if_neg (by rw [h5'];simp),if_neg h6]
       have hm:=qI7 hs h1' h2' h3 h4' (fun hc=>by
        cases hh:hdIs qaw t with
        |false=>rfl
        |true=>exact absurd ⟨hc,hh⟩ h5) h6
       unfold mkW at hm;cases ht:hdIs (twoB c) t with
       |true =>
        rw [ht,if_pos rfl] at hm;have em:qdS c t=2:=by simp [qdS,ht]
        refine⟨6,(c::t).take 2,(0,0,[]),?_,fun k' m v' he=>?_⟩
        ·rw [hm,e,em];rfl
        ·rw [e,em] at he;cases he
         exact⟨rfl,rfl,rfl⟩
       |false =>
        rw [ht,if_neg (by simp)] at hm
        refine⟨6,[c],(0,0,[]),?_,fun k' m v' he=>?_⟩
        ·rw [hm,e]
         congr 2
         unfold qdS;rw [ht];cases qmz c<;>simp
        ·rw [e] at he;split at he
         ·cases he
         ·rename_i hn;have em:qdS c t=1:=by
           unfold qdS at hn ⊢;rw [ht] at hn ⊢;cases ho:qmz c with
           |true=>simp
           |false=>simp [ho] at hn
          rw [em] at he;cases he
          exact⟨rfl,by simp,rfl⟩
def wdT:List TypeId:=[36,3,28,36,9]
def lst (s:qU) (st:Nat) (n n2:Int):List Wd→Store
 |[]=>⟨[[.sl [] .full],[.int .i64 n],[.int .i64 n2],[.sl [] .full],[.str s]],[(st,0,1)],wdT⟩
 |a::l=>⟨[[.sl [] .full],[.int .i64 n],[.int .i64 n2],[.sl (rOf cW (a::l)) (.tok 1)],[.str s]],[(st,0,1),((a::l).length,6,44)],wdT⟩
theorem qPs (s:qU) (st:Nat) (n n2:Int) (l:List Wd) (a:Wd):lst s st n n2 (l++[a])=⟨[[.sl [] .full],[.int .i64 n],[.int .i64 n2],[.sl (rOf cW (l++[a])) (.tok 1)],[.str s]],[(st,0,1),((l++[a]).length,6,44)],wdT⟩:=by
 cases l<;>rfl
def wEnd (s:qU) (acc:List Wd):List Wd×Option Nat→Option (PExit×List PV×Store)
 |(l,none)=>some (.exit 0,[],lst s 0 0 0 (acc++l))
 |(l,some p)=>some (.ret,[],lst s 2 (p:Nat) 120 (acc++l))
theorem qHz (f i:Nat):lexL f i []=([],none):=by cases f<;>rfl
theorem qUi (s:qU) (hs:s.length≤70000):∀ (f i:Nat) (acc:List Wd),i≤s.length→s.length < i+f→acc.length≤i→qfJ [.yld 0,.ptr 4 0,.int .i64 (i:Nat)] (lst s 0 0 0 acc)=wEnd s acc (lexL f i (s.drop i)):=by
 intro f
 induction f with
 |zero=>intro i acc h1 h2 _;omega
 |succ f ih =>
  intro i acc h1 h2 h3;by_cases hlt:i < s.length
  ·have hS:sSub s (nNat (i:Int)) (nLen s)=s.drop i:=by simp
   have hne:s.drop i≠[]:=by
    intro h;have:=congrArg List.length h;simp at this;omega
   have hSl:(s.drop i).length≤140737488355328:=by simp;omega
   obtain⟨k,x,v,hw,hw2⟩:=qMu hSl hne;have a0:qkg (s.drop i)=true:=by simp [qkg,qfD,qd9,qdg,qdB,qdo,qzD,qnK,hw,wTup]
   have a1:qfD (s.drop i)=k:=by simp [qfD,hw,wTup]
   have a2:qd9 (s.drop i)=x:=by simp [qd9,hw,wTup]
   have a3:qdg (s.drop i)=v.1:=by simp [qdg,hw,wTup]
   have a4:qdB (s.drop i)=v.2.1:=by simp [qdB,hw,wTup]
   have a5:qdo (s.drop i)=v.2.2:=by simp [qdo,hw,wTup]
   have a6:qnK (s.drop i)=(wdL (s.drop i)).isSome:=by simp [qnK,hw,wTup]
   have t1:iLt (i:Int) (sLen s)=true:=by simp;omega
   have t2:qbc (qay (i:Int)) true (nNat (i:Int)) (nLen s) (nLen s)=true:=by simp;omega
   have eL:lexL (f+1) i (s.drop i)=match wdL (s.drop i) with
     |none=>([],some i)
     |some (k,m,v) =>
      ((k,(s.drop i).take m,v,(i:Int))::(lexL f (i+m+gapL false ((s.drop i).drop m)) ((s.drop i).drop (m+gapL false ((s.drop i).drop m)))).1,(lexL f (i+m+gapL false ((s.drop i).drop m)) ((s.drop i).drop (m+gapL false ((s.drop i).drop m)))).2):=by
    obtain⟨c,t,hct⟩:=List.exists_cons_of_ne_nil hne;rw [hct];rfl
   rw [eL];cases hwd:wdL (s.drop i) with
   |none =>
    rw [hwd] at a6;cases acc with
    |nil =>
     show qfJ _ ⟨_,_,_⟩=_
     simp only [wdT];rw [qKY];simp only [qv0,hS,a0,a1,a2,a3,a4,a5,a6,t1,t2];simp [wEnd,lst,wdT]
    |cons a l =>
     show qfJ _ ⟨_,_,_⟩=_
     simp only [wdT];rw [qGC];simp only [qqd,hS,a0,a1,a2,a3,a4,a5,a6,t1,t2];simp [wEnd,lst,wdT]
   |some r =>
    obtain⟨k',m,v'⟩:=r;obtain⟨rfl,rfl,rfl⟩:=hw2 k' m v' hwd;rw [hwd] at a6;obtain⟨m1,m2⟩:=qvz hwd;have hx:((s.drop i).take m).length=m:=by rw [List.length_take];omega
    have m3:i+m≤s.length:=by simp at m2;omega
    have e1:iAdd .i64 (i:Int) (sLen ((s.drop i).take m))=((i+m:Nat):Int):=by
     rw [qjx,hx];exact qaI (by omega)
    have hS2:sSub s (nNat ((i+m:Nat):Int)) (nLen s)=s.drop (i+m):=by simp only [qAj,qBm,qKs,Int.toNat_natCast,List.take_length]
    have t3:qbc (qay ((i+m:Nat):Int)) true (nNat ((i+m:Nat):Int)) (nLen s) (nLen s)=true:=by simp;omega
    have g1:qil (s.drop (i+m))=true:=qNM (by simp;omega)
    have g2:qkO (s.drop (i+m))=(gapL false (s.drop (i+m)):Nat):=qQ5 (by simp;omega)
    have g3:=qmQ false (s.drop (i+m));have e2:iAdd .i64 ((i+m:Nat):Int) ((gapL false (s.drop (i+m)):Nat):Int)=((i+m+gapL false (s.drop (i+m)):Nat):Int):=qaI (by simp at g3;omega)
    have hd1:(s.drop i).drop m=s.drop (i+m):=by rw [List.drop_drop]
    have hd2:(s.drop i).drop (m+gapL false (s.drop (i+m)))=s.drop (i+m+gapL false (s.drop (i+m))):=by rw [List.drop_drop];congr 1;omega
    simp only [hd1,hd2];have hih:=ih (i+m+gapL false (s.drop (i+m))) (acc++[(k',(s.drop i).take m,v',(i:Int))]) (by simp at g3;omega) (by omega) (by simp;omega)
    have hfin:wEnd s (acc++[(k',(s.drop i).take m,v',(i:Int))]) (lexL f (i+m+gapL false (s.drop (i+m))) (s.drop (i+m+gapL false (s.drop (i+m)))))=wEnd s acc ((k',(s.drop i).take m,v',(i:Int))::(lexL f (i+m+gapL false (s.drop (i+m))) (s.drop (i+m+gapL false (s.drop (i+m))))).1,(lexL f (i+m+gapL false (s.drop (i+m))) (s.drop (i+m+gapL false (s.drop (i+m))))).2):=by
     cases hr:lexL f (i+m+gapL false (s.drop (i+m))) (s.drop (i+m+gapL false (s.drop (i+m)))) with
     |mk l o=>cases o<;>simp [wEnd]
    rw [← hfin,← hih,qPs];cases acc with
    |nil =>
     show qfJ _ ⟨_,_,_⟩=_
     simp only [wdT];rw [qKY];have o1:qav [] [[PV.int .i64 k',.str ((s.drop i).take m),.int .i64 v'.1,.int .i64 v'.2.1,.str v'.2.2,.int .i64 (i:Int)]] 64=true:=by simp
     have o2:qaq [[PV.int .i64 k',.str ((s.drop i).take m),.int .i64 v'.1,.int .i64 v'.2.1,.str v'.2.2,.int .i64 (i:Int)]] 6=true:=by simp [one]
     simp only [qv0,hS,a0,a1,a2,a3,a4,a5,a6,t1,t2,e1,hS2,t3,g1,g2,e2,o1,o2];simp [qRk,qLt]
    |cons a l =>
     show qfJ _ ⟨_,_,_⟩=_
     simp only [wdT];rw [qGC];have o1:qav (rOf cW (a::l)) [[PV.int .i64 k',.str ((s.drop i).take m),.int .i64 v'.1,.int .i64 v'.2.1,.str v'.2.2,.int .i64 (i:Int)]] 64=true:=by
      simp only [List.length_cons] at h3;simp;omega
     have o2:qaq [[PV.int .i64 k',.str ((s.drop i).take m),.int .i64 v'.1,.int .i64 v'.2.1,.str v'.2.2,.int .i64 (i:Int)]] 6=true:=by simp [one]
     simp only [qqd,hS,a0,a1,a2,a3,a4,a5,a6,t1,t2,e1,hS2,t3,g1,g2,e2,o1,o2];simp [qNC]
  ·have:i=s.length:=by omega
   subst this;rw [List.drop_eq_nil_of_le (Nat.le_refl _),qHz];have t1:iLt (s.length:Int) (sLen s)=false:=by simp
   cases acc with
   |nil =>
    show qfJ _ ⟨_,_,_⟩=_
    simp only [wdT];rw [qKY];simp only [qv0,t1];simp [wEnd,lst,wdT]
   |cons a l =>
    show qfJ _ ⟨_,_,_⟩=_
    simp only [wdT];rw [qGC];simp only [qqd,t1];simp [wEnd,lst,wdT]
def qAh (s:qU):List Wd×Option Nat→Option (PV×Store)
 |(l,none)=>some (.tup [],lst s 0 0 0 l)
 |(l,some p)=>some (.tup [],lst s 2 (p:Nat) 120 l)
theorem qSW {s:List UInt8} (hs:s.length≤70000):qdH [] 0 0 [] s=qAh s (qbM s):=by
 have hg:=qmQ false s;have h:=qUi s hs (s.length+1) (gapL false s) [] hg (by omega) (by simp)
 rw [show lexL (s.length+1) (gapL false s) (s.drop (gapL false s))=qbM s from rfl] at h
 unfold qdH qKM
 try dsimp only
 rw [qNM (by omega),qQ5 (by omega)]
 generalize qbM s=r at h ⊢;simp only [lst,wdT] at h
 generalize ((gapL false s:Nat):Int)=g at h ⊢;obtain⟨l,o⟩:=r;cases o with
 |none =>
  cases l with
  |nil =>
   simp only [wEnd,lst,wdT,List.append_nil,List.nil_append] at h
   simp only [qlJ,qlU,qlv,ql4,qlk,qld,qmf,qiq,qiJ,qjh,qjn,qgh,qgg,qfP,qfq,qfn,qfQ,qfs,qjo,qiS,qjg,qi8,qiI,qiB,qik,qf0,qfU,qfR,qfV,qfO,qfG,qfx,qiX,qi7,qi5,qjB,qiy,qiV,qiC,qis,qjj,qiT,qim,qjt,qjy,qjI,qaK,h];simp [-qdI,qAh,lst,wdT]
  |cons a l =>
   simp only [wEnd,lst,wdT,List.nil_append] at h
   simp only [qlJ,qlU,qlv,ql4,qlk,qld,qmf,qiq,qiJ,qjh,qjn,qgh,qgg,qfP,qfq,qfn,qfQ,qfs,qjo,qiS,qjg,qi8,qiI,qiB,qik,qf0,qfU,qfR,qfV,qfO,qfG,qfx,qiX,qi7,qi5,qjB,qiy,qiV,qiC,qis,qjj,qiT,qim,qjt,qjy,qjI,qaK,h];simp [-qdI,qAh,lst,wdT]
 |some p =>
  cases l with
  |nil =>
   simp only [wEnd,lst,wdT,List.append_nil,List.nil_append] at h
   simp only [qlJ,qlU,qlv,ql4,qlk,qld,qmf,qiq,qiJ,qjh,qjn,qgh,qgg,qfP,qfq,qfn,qfQ,qfs,qjo,qiS,qjg,qi8,qiI,qiB,qik,qf0,qfU,qfR,qfV,qfO,qfG,qfx,qiX,qi7,qi5,qjB,qiy,qiV,qiC,qis,qjj,qiT,qim,qjt,qjy,qjI,qaK,h];simp [-qdI,qAh,lst,wdT]
  |cons a l =>
   simp only [wEnd,lst,wdT,List.nil_append] at h
   simp only [qlJ,qlU,qlv,ql4,qlk,qld,qmf,qiq,qiJ,qjh,qjn,qgh,qgg,qfP,qfq,qfn,qfQ,qfs,qjo,qiS,qjg,qi8,qiI,qiB,qik,qf0,qfU,qfR,qfV,qfO,qfG,qfx,qiX,qi7,qi5,qjB,qiy,qiV,qiC,qis,qjj,qiT,qim,qjt,qjy,qjI,qaK,h];simp [-qdI,qAh,lst,wdT]
def wOut:List Wd×Option Nat→PV
 |(l,none)=>.tup [.sl (rOf cW l) .non,.int .i64 0,.int .i64 0]
 |(_,some p)=>.tup [.sl [] .non,.int .i64 (p:Nat),.int .i64 120]
theorem qII {s:List UInt8} (hs:s.length≤70000):qeX s=some (if 65536 < s.length then .tup [.sl [] .non,.int .i64 0,.int .i64 2] else wOut (qbM s)):=by
 have h:=qSW hs;unfold qeX qp5
 try dsimp only
 have b:qgv s=some (.fn 158 [.ptr 4 0],⟨[[.sl [] .full],[.int .i64 0],[.int .i64 0],[.sl [] .full],[.str s]],[],wdT⟩):=by simp [-qdI,qgv,qvE,wdT]
 have b0:qlz s=true:=by
  simp only [qlz,qlQ,qg7,qmn,qhT,qmo,b,wdT];simp [-qdI]
 have b1:qlQ s=0:=by simp only [qlQ,b];simp [-qdI]
 have b2:qg7 s=0:=by simp only [qg7,b];simp [-qdI]
 have b3:qmn s=[]:=by simp only [qmn,b];simp [-qdI]
 have b4:qhT s=[]:=by simp only [qhT,b];simp [-qdI]
 have b5:qmo s=s:=by simp only [qmo,b];simp [-qdI]
 rw [b0,b1,b2,b3,b4,b5];by_cases hl:65536 < s.length
 ·have:iLt 65536 (sLen s)=true:=by simp;omega
  rw [this,if_pos hl];rfl
 ·have:iLt 65536 (sLen s)=false:=by simp;omega
  rw [this,if_neg hl];generalize qbM s=r at h ⊢;obtain⟨l,o⟩:=r;cases o with
  |none =>
   cases l with
   |nil =>
    simp only [qAh,lst,wdT] at h
    simp only [qrY,qrB,qqP,qrS,qrh,qrQ,qi9,qk1,qmv,qja,qnF,qrv,qrA,qnr,qk9,qiW,qjl,qk5,qm3,qqS,qry,qnq,qrm,qrF,qq8,qrC,h];simp [-qdI,wOut]
   |cons a l =>
    simp only [qAh,lst,wdT] at h
    simp only [qrY,qrB,qqP,qrS,qrh,qrQ,qi9,qk1,qmv,qja,qnF,qrv,qrA,qnr,qk9,qiW,qjl,qk5,qm3,qqS,qry,qnq,qrm,qrF,qq8,qrC,h];simp [-qdI,wOut]
  |some p =>
   cases l with
   |nil =>
    simp only [qAh,lst,wdT] at h
    simp only [qrY,qrB,qqP,qrS,qrh,qrQ,qi9,qk1,qmv,qja,qnF,qrv,qrA,qnr,qk9,qiW,qjl,qk5,qm3,qqS,qry,qnq,qrm,qrF,qq8,qrC,h];simp [-qdI,wOut]
   |cons a l =>
    simp only [qAh,lst,wdT] at h
    simp only [qrY,qrB,qqP,qrS,qrh,qrQ,qi9,qk1,qmv,qja,qnF,qrv,qrA,qnr,qk9,qiW,qjl,qk5,qm3,qqS,qry,qnq,qrm,qrF,qq8,qrC,h];simp [-qdI,wOut]
end Go.Pv
set_option maxHeartbeats 8000000
set_option maxRecDepth 200000
set_option linter.unusedSimpArgs false
set_option linter.unusedVariables false
namespace Go.Pv
open Go Go.Proofs Go.RowKit
def rEnd (acc:List Wd):List Wd×Option Nat→Option (PExit×List PV×Store)
 |(l,none)=>some (.exit 0,[.sl (rOf cW (acc++l)) (aT (acc++l))],aS 6 44 (acc++l))
 |(l,some p)=>some (.ret,[.sl [] .full,.int .i64 (p:Nat),.int .i64 120],aS 6 44 (acc++l))
theorem qTa (s:qU) (hs:s.length≤70000):∀ (f i:Nat) (acc:List Wd),i≤s.length→s.length < i+f→acc.length≤i→qbs [.str s,.sl (rOf cW acc) (aT acc),.int .i64 (i:Nat)] (aS 6 44 acc)=rEnd acc (lexL f i (s.drop i)):=by
 intro f
 induction f with
 |zero=>intro i acc h1 h2 _;omega
 |succ f ih =>
  intro i acc h1 h2 h3;by_cases hlt:i < s.length
  ·have hne:s.drop i≠[]:=by
    intro h;have:=congrArg List.length h;simp at this;omega
   obtain⟨c,t,hct⟩:=List.exists_cons_of_ne_nil hne;have hw:=qNw (v:=s) (by omega) hct
   rw [← hct] at hw;have t1:iLt (i:Int) (sLen s)=true:=by simp;omega
   have eL:lexL (f+1) i (s.drop i)=match wdL (s.drop i) with
     |none=>([],some i)
     |some (k,m,v) =>
      ((k,(s.drop i).take m,v,(i:Int))::(lexL f (i+m+gapL false ((s.drop i).drop m)) ((s.drop i).drop (m+gapL false ((s.drop i).drop m)))).1,(lexL f (i+m+gapL false ((s.drop i).drop m)) ((s.drop i).drop (m+gapL false ((s.drop i).drop m)))).2):=by
    rw [hct];rfl
   rw [eL];cases hwd:wdL (s.drop i) with
   |none =>
    rw [hwd] at hw;simp only [rOut,wTup] at hw;have a0:qf4 s (i:Int)=true:=by simp only [qf4,qeE,qds,qcV,qcW,qcU,qcY,qgT,hw];simp
    have a6:qgT s (i:Int)=false:=by simp only [qgT,hw];simp
    cases acc with
    |nil =>
     show qbs [_,.sl [] .full,_] ⟨[],[],[]⟩=_
     rw [qwn];simp only [qhE,t1,a0,a6];simp [rEnd]
    |cons a l =>
     show qbs [_,.sl (rOf cW (a::l)) (.tok 0),_] ⟨[],[((a::l).length,6,44)],[]⟩=_
     rw [qre];simp only [qfY,t1,a0,a6];simp [rEnd,aS]
   |some r =>
    obtain⟨k,m,v⟩:=r;rw [hwd] at hw;simp only [rOut,wTup] at hw;have a0:qf4 s (i:Int)=true:=by simp only [qf4,qeE,qds,qcV,qcW,qcU,qcY,qgT,hw];simp
    have a1:qeE s (i:Int)=k:=by simp only [qeE,hw];simp
    have a2:qds s (i:Int)=(s.drop i).take m:=by simp only [qds,hw];simp
    have a3:qcV s (i:Int)=v.1:=by simp only [qcV,hw];simp
    have a4:qcW s (i:Int)=v.2.1:=by simp only [qcW,hw];simp
    have a5:qcU s (i:Int)=v.2.2:=by simp only [qcU,hw];simp
    have a7:qcY s (i:Int)=(i:Int):=by simp only [qcY,hw];simp
    have a6:qgT s (i:Int)=true:=by simp only [qgT,hw];simp
    obtain⟨m1,m2⟩:=qvz hwd;have hx:((s.drop i).take m).length=m:=by rw [List.length_take];omega
    have m3:i+m≤s.length:=by simp at m2;omega
    have e1:iAdd .i64 (i:Int) (sLen ((s.drop i).take m))=((i+m:Nat):Int):=by
     rw [qjx,hx];exact qaI (by omega)
    have g1:qgn s ((i+m:Nat):Int)=true:=qM8 (by omega) m3
    have g2:qmF s ((i+m:Nat):Int)=((i+m+gapL false (s.drop (i+m)):Nat):Int):=qQ7 (by omega) m3
    have g3:=qmQ false (s.drop (i+m));have hd1:(s.drop i).drop m=s.drop (i+m):=by rw [List.drop_drop]
    have hd2:(s.drop i).drop (m+gapL false (s.drop (i+m)))=s.drop (i+m+gapL false (s.drop (i+m))):=by rw [List.drop_drop];congr 1;omega
    simp only [hd1,hd2];have hih:=ih (i+m+gapL false (s.drop (i+m))) (acc++[(k,(s.drop i).take m,v,(i:Int))]) (by simp at g3;omega) (by omega) (by simp;omega)
    have hfin:rEnd (acc++[(k,(s.drop i).take m,v,(i:Int))]) (lexL f (i+m+gapL false (s.drop (i+m))) (s.drop (i+m+gapL false (s.drop (i+m)))))=rEnd acc ((k,(s.drop i).take m,v,(i:Int))::(lexL f (i+m+gapL false (s.drop (i+m))) (s.drop (i+m+gapL false (s.drop (i+m))))).1,(lexL f (i+m+gapL false (s.drop (i+m))) (s.drop (i+m+gapL false (s.drop (i+m))))).2):=by
     cases hr:lexL f (i+m+gapL false (s.drop (i+m))) (s.drop (i+m+gapL false (s.drop (i+m)))) with
     |mk l o=>cases o<;>simp [rEnd]
    rw [← hfin,← hih,qSj,qUD];have o2:qaq [[PV.int .i64 k,.str ((s.drop i).take m),.int .i64 v.1,.int .i64 v.2.1,.str v.2.2,.int .i64 (i:Int)]] 6=true:=by simp [one]
    cases acc with
    |nil =>
     show qbs [_,.sl [] .full,_] ⟨[],[],[]⟩=_
     rw [qwn];have o1:qav [] [[PV.int .i64 k,.str ((s.drop i).take m),.int .i64 v.1,.int .i64 v.2.1,.str v.2.2,.int .i64 (i:Int)]] 64=true:=by simp
     simp only [qhE,t1,a0,a1,a2,a3,a4,a5,a6,a7,e1,g1,g2,o1,o2];simp [qRk,qLt]
    |cons a l =>
     show qbs [_,.sl (rOf cW (a::l)) (.tok 0),_] ⟨[],[((a::l).length,6,44)],[]⟩=_
     rw [qre];have o1:qav (rOf cW (a::l)) [[PV.int .i64 k,.str ((s.drop i).take m),.int .i64 v.1,.int .i64 v.2.1,.str v.2.2,.int .i64 (i:Int)]] 64=true:=by
      simp only [List.length_cons] at h3;simp;omega
     simp only [qfY,t1,a0,a1,a2,a3,a4,a5,a6,a7,e1,g1,g2,o1,o2];simp [qNC]
  ·have:i=s.length:=by omega
   subst this;rw [List.drop_eq_nil_of_le (Nat.le_refl _),qHz];have t1:iLt (s.length:Int) (sLen s)=false:=by simp
   cases acc with
   |nil =>
    show qbs [_,.sl [] .full,_] ⟨[],[],[]⟩=_
    rw [qwn];simp only [qhE,t1];simp [rEnd]
   |cons a l =>
    show qbs [_,.sl (rOf cW (a::l)) (.tok 0),_] ⟨[],[((a::l).length,6,44)],[]⟩=_
    rw [qre];simp only [qfY,t1];simp [rEnd,aT,aS]
theorem qJL {s:List UInt8} (hs:s.length≤70000):qeQ s=some (if 65536 < s.length then .tup [.sl [] .non,.int .i64 0,.int .i64 2] else wOut (qbM s)):=by
 have hg:=qmQ false s;have h:=qTa s hs (s.length+1) (gapL false s) [] hg (by omega) (by simp)
 rw [show lexL (s.length+1) (gapL false s) (s.drop (gapL false s))=qbM s from rfl] at h
 unfold qeQ qog
 try dsimp only
 have g1:qgn s 0=true:=qM8 (i:=0) (by omega) (by omega)
 have g2:qmF s 0=(gapL false s:Nat):=by
  have:=qQ7 (s:=s) (i:=0) (by omega) (by omega)
  simpa using this
 rw [g1,g2];by_cases hl:65536 < s.length
 ·have:iLt 65536 (sLen s)=true:=by simp;omega
  rw [this,if_pos hl];rfl
 ·have:iLt 65536 (sLen s)=false:=by simp;omega
  rw [this,if_neg hl];generalize qbM s=r at h ⊢;simp only [qVl,qVt,qiU] at h
  generalize ((gapL false s:Nat):Int)=g at h ⊢;obtain⟨l,o⟩:=r;cases o with
  |none =>
   cases l with
   |nil =>
    simp only [rEnd,List.append_nil,List.nil_append,aT,aS] at h
    simp only [qdN,qdT,qdQ,qd4,qdV,qdO,qce,qch,qc0,qcZ,qbP,qbQ,qc2,qc4,qba,h];simp [wOut]
   |cons a l =>
    simp only [rEnd,List.nil_append,aT,aS] at h
    simp only [qdN,qdT,qdQ,qd4,qdV,qdO,qce,qch,qc0,qcZ,qbP,qbQ,qc2,qc4,qba,h];simp [wOut]
  |some p =>
   cases l with
   |nil =>
    simp only [rEnd,List.append_nil,List.nil_append,aT,aS] at h
    simp only [qdN,qdT,qdQ,qd4,qdV,qdO,qce,qch,qc0,qcZ,qbP,qbQ,qc2,qc4,qba,h];simp [wOut]
   |cons a l =>
    simp only [rEnd,List.nil_append,aT,aS] at h
    simp only [qdN,qdT,qdQ,qd4,qdV,qdO,qce,qch,qc0,qcZ,qbP,qbQ,qc2,qc4,qba,h];simp [wOut]
end Go.Pv
set_option maxHeartbeats 8000000
set_option maxRecDepth 200000
set_option linter.unusedSimpArgs false
set_option linter.unusedVariables false
namespace Go.Pv
open Go Go.Proofs Go.RowKit
def wL (s:qU):List Wd:=match qbM s with|(l,none)=>l|_=>[]
def wN (s:qU):Int:=match (qbM s).2 with|none=>0|some p=>(p:Nat)
def wE (s:qU):Int:=match (qbM s).2 with|none=>0|some _=>120
theorem qLJ (s:qU):wOut (qbM s)=.tup [.sl (rOf cW (wL s)) .non,.int .i64 (wN s),.int .i64 (wE s)]:=by
 unfold wL wN wE;cases h:qbM s with
 |mk l o=>cases o<;>rfl
theorem qmt {s:List UInt8} (hs:s.length≤65536):qeX s=some (.tup [.sl (rOf cW (wL s)) .non,.int .i64 (wN s),.int .i64 (wE s)]):=by
 rw [qII (by omega),if_neg (by omega),qLJ]
theorem qyC {s:List UInt8} (hs:s.length≤65536):qeQ s=some (.tup [.sl (rOf cW (wL s)) .non,.int .i64 (wN s),.int .i64 (wE s)]):=by
 rw [qJL (by omega),if_neg (by omega),qLJ]
section
variable {s : List UInt8} (hs : s.length ≤ 65536)
include hs
theorem qx7:qms s=rOf cW (wL s):=by simp only [qms,qmt hs];simp
theorem qxY:qmb s=wN s:=by simp only [qmb,qmt hs];simp
theorem qxQ:qg9 s=wE s:=by simp only [qg9,qmt hs];simp
theorem qGE:qhx s=true:=by simp only [qhx,qx7 hs,qxY hs,qxQ hs,qmt hs];simp
end
theorem qOX:∀ (f i:Nat) (s:qU),(lexL f i s).1.length≤s.length:=by
 intro f
 induction f with
 |zero=>intro i s;simp [lexL]
 |succ f ih =>
  intro i s;cases s with
  |nil=>simp [lexL]
  |cons c t =>
   simp only [lexL];cases hw:wdL (c::t) with
   |none=>simp
   |some r =>
    obtain⟨k,m,v⟩:=r;have h1:=qvz hw;have:=ih (i+m+gapL false ((c::t).drop m)) ((c::t).drop (m+gapL false ((c::t).drop m)));simp only [List.length_cons,List.length_drop] at this ⊢;simp only [List.length_cons] at h1;omega
theorem qyO (s:qU):(wL s).length≤s.length:=by
 have h:=qOX (s.length+1) (gapL false s) (s.drop (gapL false s));rw [show lexL (s.length+1) (gapL false s) (s.drop (gapL false s))=qbM s from rfl] at h
 unfold wL;cases hw:qbM s with
 |mk l o =>
  rw [hw] at h
  have h2:(s.drop (gapL false s)).length≤s.length:=by simp
  cases o with
  |none=>exact Nat.le_trans h h2
  |some p=>simp
end Go.Pv
set_option maxHeartbeats 8000000
set_option maxRecDepth 200000
set_option linter.unusedSimpArgs false
set_option linter.unusedVariables false
namespace Go.Pv
open Go Go.Proofs Go.RowKit
def gpB (b:UInt8):Bool:=blB b || decide (b.toNat=37)
def Nxt (r r':qU):Prop:=r'=[]∨hdIs gpB r'=true∨∃ b t t',r=b::t∧r'=b::t'
theorem quA {p:UInt8→Bool} (hp:∀ b,gpB b=true→p b=false) {r r':List UInt8} (hn:Nxt r r') (h:hdIs p r=false):hdIs p r'=false:=by
 rcases hn with rfl|hg|⟨b,t,t',rfl,rfl⟩
 ·rfl
 ·cases r' with
  |nil=>rfl
  |cons b t=>exact hp b hg
 ·exact h
theorem qs2 {p:UInt8→Bool} (hp:∀ b,gpB b=true→p b=false) {r r':List UInt8} (hn:Nxt r r'):∀ t:qU,runL p (t++r)=t.length→runL p (t++r')=t.length
 |[],h=>by
  have h1:hdIs p r=false:=by
   cases r with
   |nil=>rfl
   |cons b t =>
    simp only [List.nil_append,runL,List.length_nil] at h
    cases hb:p b with
    |false=>exact hb
    |true=>rw [hb] at h;simp at h
  have h2:=quA hp hn h1;cases r' with
  |nil=>rfl
  |cons b t =>
   have h2:p b=false:=h2;simp [runL,h2]
 |a::t,h=>by
  simp only [List.cons_append,runL,List.length_cons] at h ⊢;cases ha:p a with
  |false=>rw [ha] at h;simp at h
  |true =>
   rw [ha] at h
   simp only [if_true,Nat.add_right_cancel_iff] at h ⊢;exact qs2 hp hn t h
theorem qzS {n m:Nat} (h:incN n=m+1):n=m∧m≠0:=by
 unfold incN at h
 split at h<;>omega
theorem quI (r r':qU):∀ (e:Bool) (t:qU),quoE e (t++r)=t.length→t.length≠0→quoE e (t++r')=t.length
 |_,[],_,h=>absurd rfl h
 |true,a::t,h,_=>by
  simp only [List.cons_append,quoE,List.length_cons] at h ⊢;obtain⟨h1,h2⟩:=qzS h;rw [quI r r' false t h1 h2];simp [incN,h2]
 |false,a::t,h,_=>by
  simp only [List.cons_append,quoE,List.length_cons] at h ⊢;split at h
  ·rename_i h1;rw [if_pos h1];exact h
  ·rename_i h1;rw [if_neg h1];split at h
   ·rename_i h2;rw [if_pos h2];obtain⟨h1,h2⟩:=qzS h;rw [quI r r' true t h1 h2];simp [incN,h2]
   ·rename_i h2;rw [if_neg h2];obtain⟨h1,h2⟩:=qzS h;rw [quI r r' false t h1 h2];simp [incN,h2]
theorem qzI {b:UInt8} (h:gpB b=true):b.toNat=32∨b.toNat=9∨b.toNat=10∨b.toNat=13∨b.toNat=37:=by
 simp only [gpB,blB,Bool.or_eq_true,decide_eq_true_eq] at h
 omega
theorem qMH (b:UInt8) (h:gpB b=true):innB b=false:=by
 rcases qzI h with h|h|h|h|h<;>simp [innB,qfK,qkv,qaw,h]
theorem qVG (b:UInt8) (h:gpB b=true):qaw b=false:=by
 rcases qzI h with h|h|h|h|h<;>simp [qaw,h]
theorem qU2 (c b:UInt8) (h:gpB b=true):twoB c b=false:=by
 rcases qzI h with h|h|h|h|h<;>simp [twoB,h]
theorem qEi {k k':Int} {s:List UInt8} {n m:Nat} {v:Vl} (h:valL k s n=some (k',m,v)):k'=k∧m=n∧rdV (s.take n)=some v:=by
 unfold valL at h
 split at h
 ·rename_i v' hv;cases h
  exact⟨rfl,rfl,hv⟩
 ·cases h
theorem qMy {k:Int} {s s':List UInt8} {n m:Nat} {k':Int} {v:Vl} (h:valL k s n=some (k',m,v)) (e:s'.take n=s.take n):valL k s' n=some (k',m,v):=by
 unfold valL at h ⊢;rw [e];exact h
theorem qSY {x r r':List UInt8} {k:Int} {v:Vl} (h:wdL (x++r)=some (k,x.length,v)) (hn:Nxt r r'):wdL (x++r')=some (k,x.length,v):=by
 have hl:=(qvz h).1;cases x with
 |nil=>simp at hl
 |cons c t =>
  simp only [List.cons_append,wdL,List.length_cons] at h ⊢;by_cases h1:qfK c=true
  ·simp only [h1,if_true] at h ⊢;split at h
   ·rename_i h2;simp only [Option.some.injEq,Prod.mk.injEq,Nat.add_right_cancel_iff] at h
    obtain⟨rfl,h3,rfl⟩:=h;have:=qs2 qMH hn t h3;rw [this,if_pos (by omega)]
   ·cases h
  ·rw [if_neg h1] at h ⊢;by_cases h2:qkv c=true
   ·simp only [h2,if_true] at h ⊢;split at h
    ·rename_i h4;simp only [Option.some.injEq,Prod.mk.injEq,Nat.add_right_cancel_iff] at h
     obtain⟨rfl,h3,rfl⟩:=h;have:=qs2 qMH hn t h3;rw [this,if_pos (by omega)]
    ·cases h
   ·rw [if_neg h2] at h ⊢;by_cases h3:c.toNat=95
    ·rw [if_pos h3] at h ⊢;split at h
     ·cases h
     ·rename_i h4;simp only [Option.some.injEq,Prod.mk.injEq] at h
      obtain⟨rfl,h5,rfl⟩:=h;have ht:t=[]:=by cases t with|nil=>rfl|cons=>simp at h5
      subst ht;have h6:=quA qMH hn (by simpa using h4)
      simp [h6]
    ·rw [if_neg h3] at h ⊢;have dgs:∀ q:Bool,(q || (decide (c.toNat=45)&&hdIs qaw (t++r)))=(q || (decide (c.toNat=45)&&hdIs qaw (t++r')))∨(t=[]∧hdIs qaw r=true):=by
      intro q;cases t with
      |cons a t=>exact .inl rfl
      |nil =>
       cases hr:hdIs qaw r with
       |true=>exact .inr ⟨rfl,rfl⟩
       |false =>
        have:=quA qVG hn hr
        left
        simp [hr,this]
     by_cases h4:(qaw c || (decide (c.toNat=45)&&hdIs qaw (t++r)))=true
     ·rw [if_pos h4] at h
      obtain⟨hk,hm,hv⟩:=qEi h;have h5:runL qaw (t++r)=t.length:=by omega
      have h6:=qs2 qVG hn t h5;have h7:(qaw c || (decide (c.toNat=45)&&hdIs qaw (t++r')))=true:=by
       rcases dgs (qaw c) with e|⟨rfl,e⟩
       ·rw [← e];exact h4
       ·cases r with
        |nil=>simp [hdIs] at e
        |cons b u =>
         have e:qaw b=true:=e;simp [runL,e] at h5
      rw [if_pos h7,h6];rw [h5] at h
      refine qMy h ?_;simp
     ·rw [if_neg h4] at h
      have h7:¬ (qaw c || (decide (c.toNat=45)&&hdIs qaw (t++r')))=true:=by
       rcases dgs (qaw c) with e|⟨rfl,e⟩
       ·rw [← e];exact h4
       ·intro hh;apply h4;simp only [List.nil_append,Bool.or_eq_true,Bool.and_eq_true] at hh ⊢;rcases hh with hh|⟨hh,_⟩
        ·exact .inl hh
        ·exact .inr ⟨hh,e⟩
      rw [if_neg h7];by_cases h5:c.toNat=34
      ·rw [if_pos h5] at h ⊢;split at h
       ·cases h
       ·rename_i h6;obtain⟨hk,hm,hv⟩:=qEi h;have h8:quoL (t++r)=t.length:=by omega
        have h9:quoL (t++r')=t.length:=quI r r' false t h8 (by omega)
        rw [h9,if_neg (by omega)]
        rw [h8] at h
        refine qMy h ?_;simp
      ·rw [if_neg h5] at h ⊢;split at h
       ·cases h
       ·rename_i h6;simp only [Option.some.injEq,Prod.mk.injEq] at h
        obtain⟨rfl,h8,rfl⟩:=h;have h9:qdS c (t++r')=t.length+1:=by
         unfold qdS at h8 ⊢;cases t with
         |nil =>
          show (if hdIs (twoB c) r'=true then 2 else if qmz c=true then 1 else 0)=1
          have h8:(if hdIs (twoB c) r=true then 2 else if qmz c=true then 1 else 0)=1:=h8;cases hr:hdIs (twoB c) r with
          |true=>rw [if_pos hr] at h8;omega
          |false =>
           rw [if_neg (by rw [hr];simp)] at h8
           rw [if_neg (by rw [quA (qU2 c) hn hr];simp)]
           exact h8
         |cons d t =>
          simp only [List.cons_append,hdIs] at h8 ⊢;exact h8
        rw [h9];simp
def gpS:Bool→qU→Option Bool
 |c,[]=>some c
 |c,b::s=>if c || blB b || decide (b.toNat=37) then gpS (decide (b.toNat=37) || c&&decide (b.toNat≠10)) s else none
theorem qMt:∀ (g:qU) (c c':Bool) (s:qU),gpS c g=some c'→gpS c (g++s)=gpS c' s
 |[],c,c',s,h=>by cases h;simp
 |b::g,c,c',s,h=>by
  simp only [gpS] at h
  split at h
  ·rename_i hb;simp only [List.cons_append,gpS,hb,if_true];exact qMt g _ c' s h
  ·cases h
abbrev Wv:=Int×List UInt8×Vl
def stW (w:Wd):Wv:=(w.1,w.2.1,w.2.2.1)
inductive Lx:List Wv→qU→Prop
 |nil (s:qU) (c:Bool) (h:gpS false s=some c):Lx [] s
 |cons (g x r:qU) (k:Int) (v:Vl) (l:List Wv) (hg:gpS false g=some false) (hw:wdL (x++r)=some (k,x.length,v)) (h:Lx l r):Lx ((k,x,v)::l) (g++(x++r))
theorem Lx.tail {z:List UInt8} (hz:hdIs gpB z=true) (h0:∀ c,∃ c',gpS c z=some c') {l:List Wv} {s:List UInt8} (h:Lx l s):Lx l (s++z):=by
 induction h with
 |nil s c h =>
  obtain⟨c',hc⟩:=h0 c;exact .nil _ c' (by rw [qMt s false c z h];exact hc)
 |cons g x r k v l hg hw h ih =>
  rw [List.append_assoc,List.append_assoc];refine .cons g x (r++z) k v l hg (qSY hw ?_) ih;cases r with
  |nil=>exact .inr (.inl hz)
  |cons b r=>exact .inr (.inr ⟨b,r,r++z,rfl,rfl⟩)
end Go.Pv
set_option maxHeartbeats 4000000
set_option linter.unusedSimpArgs false
set_option linter.unusedVariables false
namespace Go.Pv
inductive Rs (α:Type) where
 |ok (a:α) (l:List Wd)
 |no (l:List Wd)
abbrev Ps (α:Type):=List Wd→Rs α
def plc (n:Int):List Wd→Int
 |[]=>n
 |w::_=>w.2.2.2
def wIs (k:Int) (t:qU):List Wd→Bool
 |[]=>false
 |w::_=>decide (w.1=k)&&(decide (t=[]) || decide (w.2.1=t))
def resv (t:qU):Bool:=decide (t=[98,97,115,101]) || decide (t=[118,105,101,119]) || decide (t=[111,110]) || decide (t=[110,111,116])
def wNm:List Wd→Bool
 |[]=>false
 |w::_=>decide (w.1=1)&&!resv w.2.1
section
variable {α β : Type}
def qat (a:α):Ps α:=fun l=>.ok a l
def qmB:Ps α:=fun l=>.no l
def qan (p:Ps α) (f:α→Ps β):Ps β:=fun l=>match p l with
 |.ok a r=>f a r
 |.no r=>.no r
def pIf (k:Int) (t:qU) (p:Wd→Ps α) (q:Ps α):Ps α:=fun l=>match l with
 |[]=>q []
 |w::r=>if wIs k t (w::r) then p w r else q (w::r)
def pCh (c:List Wd→Bool) (p:Ps α) (q:Ps α):Ps α:=fun l=>if c l then p l else q l
def qDo:Ps Wd:=fun l=>match l with
 |[]=>.no []
 |w::r=>.ok w r
def pRep (p:Ps α):Nat→List α→Ps (List α)
 |0,_=>qmB
 |n+1,acc=>qan p fun a=>pIf 6 [44] (fun _=>pRep p n (acc++[a])) (qat (acc++[a]))
def pRow (p:Ps α):Ps (List α):=fun l=>pRep p (l.length+1) [] l
def qjk (p:Ps α) (n:Nat) (acc:List α):Ps (List α):=pIf 6 [44] (fun _=>pRep p n acc) (qat acc)
theorem qcc (p:Ps α) (n:Nat) (acc:List α):pRep p (n+1) acc=qan p fun a=>qjk p n (acc++[a]):=rfl
def qbi (k:Int) (t:qU):Ps Wd:=pIf k t qat qmB
def qkN (p:Ps α):Ps (List α):=qan (qbi 6 [40]) fun _=>pIf 6 [41] (fun _=>qat []) (qan (pRow p) fun l=>qan (qbi 6 [41]) fun _=>qat l)
end
def qmy:Ps (List UInt8):=pCh wNm (qan qDo fun w=>qat w.2.1) qmB
def pTyp:Ps Int:=pIf 1 [105,110,116] (fun _=>qat 1) (pIf 1 [115,121,109] (fun _=>qat 2) qmB)
def qcb:Ps Tm:=pIf 2 [] (fun w=>qat (1,w.2.1,0,0,[])) (pIf 4 [] (fun w=>qat (2,[],w.2.2.1)) (pIf 5 [] (fun w=>qat (2,[],w.2.2.1)) (pIf 3 [] (fun _=>qat (3,[],0,0,[])) qmB)))
def qcJ:Ps At:=qan qmy fun n=>qan (qkN qcb) fun l=>qat (n,l)
def pOp:Ps Int:=pIf 6 [61] (fun _=>qat 1) (pIf 6 [33,61] (fun _=>qat 2) (pIf 6 [60] (fun _=>qat 3) (pIf 6 [60,61] (fun _=>qat 4) (pIf 6 [62] (fun _=>qat 5) (pIf 6 [62,61] (fun _=>qat 6) qmB)))))
def tm0:Tm:=(0,[],0,0,[])
def pLit:Ps Li:=pIf 1 [110,111,116] (fun _=>qan qcJ fun a=>qat (2,a,0,tm0,tm0))
 (pCh wNm (qan qcJ fun a=>qat (1,a,0,tm0,tm0))
  (qan qcb fun a=>qan pOp fun o=>qan qcb fun b=>qat (3,([],[]),o,a,b)))
def pDot {α:Type} (x:α):Ps α:=qan (qbi 6 [46]) fun _=>qat x
def qgj:Ps Ru:=qan qcJ fun a=>pIf 6 [58,45] (fun _=>qan (pRow pLit) fun b=>pDot (a,b)) (pDot (a,[]))
def qDX:Ps De:=qan qDo fun w=>qan qmy fun n=>qan (qkN pTyp) fun t=>pDot (n,decide (w.2.1=[98,97,115,101]),t)
def pAct:Ps Ac:=pIf 6 [43] (fun _=>qan qcJ fun a=>qat (true,a)) (qan (qbi 6 [45]) fun _=>qan qcJ fun a=>qat (false,a))
def qft:Ps Pa:=qan (qbi 2 []) fun w=>qan pTyp fun t=>qat (w.2.1,t)
def pOn:Ps En:=qan qDo fun _=>qan qmy fun n=>qan (qkN qft) fun ps=>pIf 6 [58] (fun _=>qan (pRow pAct) fun l=>pDot (n,ps,l)) (pDot (n,ps,[]))
abbrev Pg:=List De×List En×List Ru
def isDe (l:List Wd):Bool:=wIs 1 [98,97,115,101] l || wIs 1 [118,105,101,119] l
def pOne (g:Pg):Ps Pg:=pCh isDe (qan qDX fun d=>qat (g.1++[d],g.2.1,g.2.2))
 (pCh (wIs 1 [111,110]) (qan pOn fun d=>qat (g.1,g.2.1++[d],g.2.2)) (qan qgj fun d=>qat (g.1,g.2.1,g.2.2++[d])))
def qwy:Nat→Pg→Ps Pg
 |0,_=>qmB
 |n+1,g=>fun l=>match l with
  |[]=>.ok g []
  |w::r=>qan (pOne g) (qwy n) (w::r)
def qsd:Ps Pg:=fun l=>qwy (l.length+1) ([],[],[]) l
def pEnd {α:Type}:Rs α→Rs α
 |.ok a []=>.ok a []
 |.ok _ (w::r)=>.no (w::r)
 |.no r=>.no r
def Alk (l l':List Wd):Prop:=l.map stW=l'.map stW
theorem Alk.nil_iff {l l':List Wd} (h:Alk l l'):l=[]↔l'=[]:=by
 cases l<;>cases l'<;>simp_all [Alk]
theorem Alk.len {l l':List Wd} (h:Alk l l'):l.length=l'.length:=by
 have:=congrArg List.length h;simpa using this
theorem Alk.cons {w:Wd} {l:List Wd} {m:List Wd} (h:Alk (w::l) m):∃ w' l',m=w'::l'∧w'.1=w.1∧w'.2.1=w.2.1∧w'.2.2.1=w.2.2.1∧Alk l l':=by
 cases m with
 |nil=>simp [Alk] at h
 |cons w' l' =>
  simp only [Alk,stW,List.map_cons,List.cons.injEq,Prod.mk.injEq] at h
  exact⟨w',l',rfl,h.1.1.symm,h.1.2.1.symm,h.1.2.2.symm,h.2⟩
theorem Alk.wIs {l l':List Wd} (h:Alk l l') (k:Int) (t:qU):wIs k t l'=wIs k t l:=by
 cases l with
 |nil=>rw [(h.nil_iff.1 rfl)]
 |cons w l =>
  obtain⟨w',l',rfl,h1,h2,_,_⟩:=h.cons;simp only [Go.Pv.wIs,h1,h2]
theorem Alk.wNm {l l':List Wd} (h:Alk l l'):wNm l'=wNm l:=by
 cases l with
 |nil=>rw [(h.nil_iff.1 rfl)]
 |cons w l =>
  obtain⟨w',l',rfl,h1,h2,_,_⟩:=h.cons;simp only [Go.Pv.wNm,h1,h2]
theorem qri (k:Int) (t:qU) {l:List Wd} (h:l≠[]) (m:List Wd):wIs k t (l++m)=wIs k t l:=by
 cases l with
 |nil=>exact absurd rfl h
 |cons=>rfl
theorem qSC {l:List Wd} (h:l≠[]) (m:List Wd):wNm (l++m)=wNm l:=by
 cases l with
 |nil=>exact absurd rfl h
 |cons=>rfl
def Rs.rest {α:Type}:Rs α→List Wd
 |.ok _ r=>r
 |.no r=>r
def Rs.app {α:Type} (m:List Wd):Rs α→Rs α
 |.ok a r=>.ok a (r++m)
 |.no r=>.no (r++m)
def RAlk {α:Type}:Rs α→Rs α→Prop
 |.ok a r,.ok b r'=>a=b∧Alk r r'
 |.no r,.no r'=>Alk r r'
 |_,_=>False
theorem RAlk.ok {α:Type} {a:α} {r:List Wd} {y:Rs α} (h:RAlk (.ok a r) y):∃ r',y=.ok a r'∧Alk r r':=by
 cases y with
 |ok b r'=>exact⟨r',by rw [h.1],h.2⟩
 |no r'=>exact h.elim
theorem RAlk.no {α:Type} {r:List Wd} {y:Rs α} (h:RAlk (.no r) y):∃ r',y=.no r'∧Alk r r':=by
 cases y with
 |ok b r'=>exact h.elim
 |no r'=>exact⟨r',rfl,h⟩
theorem qNK {u r:List Wd} (h:r≠[]):u++r≠[]:=by simp [h]
structure Good {α:Type} (p:Ps α):Prop where
 suf:∀ l,∃ u,l=u++(p l).rest
 ext:∀ l,(p l).rest≠[]→∀ m,p (l++m)=(p l).app m
 alk:∀ {l l'},Alk l l'→RAlk (p l) (p l')
section
variable {α β : Type}
theorem qaE (a:α):Good (qat a):=⟨fun _=>⟨[],rfl⟩,fun _ _ _=>rfl,fun h=>⟨rfl,h⟩⟩
theorem qkV:Good (qmB:Ps α):=⟨fun _=>⟨[],rfl⟩,fun _ _ _=>rfl,fun h=>h⟩
theorem qaU {p:Ps α} {f:α→Ps β} (hp:Good p) (hf:∀ a,Good (f a)):Good (qan p f):=by
 refine⟨fun l=>?_,fun l=>?_,fun {l l'} hl=>?_⟩
 ·obtain⟨u,hu⟩:=hp.suf l;unfold qan;split
  ·rename_i a r h1;rw [h1] at hu;obtain⟨v,hv⟩:=(hf a).suf r;exact⟨u++v,by rw [List.append_assoc,← hv];exact hu⟩
  ·rename_i r h1;rw [h1] at hu;exact⟨u,hu⟩
 ·have he:=hp.ext l;unfold qan;split
  ·rename_i a r h1;rw [h1] at he;intro hr m;obtain⟨v,hv⟩:=(hf a).suf r;rw [he (by show r≠[];rw [hv];exact qNK hr) m]
   exact (hf a).ext r hr m
  ·rename_i r h1;rw [h1] at he;intro hr m;rw [he hr m];rfl
 ·have ha:=hp.alk hl;unfold qan;split
  ·rename_i a r h1;rw [h1] at ha;obtain⟨r',h2,h3⟩:=ha.ok;rw [h2];exact (hf a).alk h3
  ·rename_i r h1;rw [h1] at ha;obtain⟨r',h2,h3⟩:=ha.no;rw [h2];exact h3
abbrev NoAt (f:Wd→β):Prop:=∀ w w':Wd,w'.1=w.1→w'.2.1=w.2.1→w'.2.2.1=w.2.2.1→f w'=f w
theorem qaW {k:Int} {t:List UInt8} {p:Wd→Ps α} {q:Ps α} {w:Wd} {l:List Wd} (h:wIs k t (w::l)=true):pIf k t p q (w::l)=p w l:=if_pos h
theorem qaM {k:Int} {t:List UInt8} {p:Wd→Ps α} {q:Ps α} {l:List Wd} (h:wIs k t l=false):pIf k t p q l=q l:=by
 cases l with
 |nil=>rfl
 |cons w l=>exact if_neg (by rw [h];simp)
theorem qb7 {k:Int} {t:List UInt8} {p:Wd→Ps α} {q:Ps α} (hp:∀ w,Good (p w)) (hw:NoAt p) (hq:Good q):Good (pIf k t p q):=by
 refine⟨fun l=>?_,fun l=>?_,fun {l l'} hl=>?_⟩
 ·cases hi:wIs k t l with
  |false=>rw [qaM hi];exact hq.suf l
  |true=>cases l with
   |nil=>cases hi
   |cons w l =>
    rw [qaW hi];obtain⟨u,hu⟩:=(hp w).suf l;exact⟨w::u,by rw [List.cons_append,← hu]⟩
 ·cases hi:wIs k t l with
  |false =>
   rw [qaM hi];intro hr m;obtain⟨u,hu⟩:=hq.suf l;have hne:l≠[]:=by rw [hu];exact qNK hr
   rw [qaM (by rw [qri k t hne];exact hi)]
   exact hq.ext l hr m
  |true=>cases l with
   |nil=>cases hi
   |cons w l =>
    rw [qaW hi];intro hr m;exact (qaW (l:=l++m) hi).trans ((hp w).ext l hr m)
 ·cases hi:wIs k t l with
  |false=>rw [qaM hi,qaM (by rw [hl.wIs];exact hi)];exact hq.alk hl
  |true=>cases l with
   |nil=>cases hi
   |cons w l =>
    have hi':=(hl.wIs k t).trans hi;obtain⟨w',l',rfl,a1,a2,a3,a4⟩:=hl.cons;rw [qaW hi,qaW hi',hw w w' a1 a2 a3];exact (hp w).alk a4
structure HdT (c:List Wd→Bool):Prop where
 app:∀ {l:List Wd},l≠[]→∀ m,c (l++m)=c l
 alk:∀ {l l':List Wd},Alk l l'→c l'=c l
theorem qQN (k:Int) (t:qU):HdT (wIs k t):=⟨fun h m=>qri k t h m,fun h=>h.wIs k t⟩
theorem qQQ:HdT wNm:=⟨fun h m=>qSC h m,fun h=>h.wNm⟩
theorem qKJ:HdT isDe:=⟨fun h m=>by unfold isDe;rw [qri _ _ h,qri _ _ h],fun h=>by unfold isDe;rw [h.wIs,h.wIs]⟩
theorem qAc {c:List Wd→Bool} {p q:Ps α} (hc:HdT c) (hp:Good p) (hq:Good q):Good (pCh c p q):=by
 refine⟨fun l=>?_,fun l=>?_,fun {l l'} hl=>?_⟩
 ·unfold pCh;split
  ·exact hp.suf l
  ·exact hq.suf l
 ·have key:∀ {z:Ps α},Good z→(z l).rest≠[]→l≠[]:=fun {z} hz hr=>by
   obtain⟨u,hu⟩:=hz.suf l;rw [hu];exact qNK hr
  unfold pCh;split
  ·rename_i hi;intro hr m;rw [hc.app (key hp hr),if_pos hi];exact hp.ext l hr m
  ·rename_i hi;intro hr m;rw [hc.app (key hq hr),if_neg hi];exact hq.ext l hr m
 ·unfold pCh;rw [hc.alk hl];split
  ·exact hp.alk hl
  ·exact hq.alk hl
theorem qu7 {f:Wd→Ps β} (hp:∀ w,Good (f w)) (hw:NoAt f):Good (qan qDo f):=by
 refine⟨fun l=>?_,fun l=>?_,fun {l l'} hl=>?_⟩
 ·cases l with
  |nil=>exact⟨[],rfl⟩
  |cons w l =>
   obtain⟨u,hu⟩:=(hp w).suf l;exact⟨w::u,congrArg (w::·) hu⟩
 ·cases l with
  |nil=>exact fun h=>absurd rfl h
  |cons w l=>exact (hp w).ext l
 ·cases l with
  |nil =>
   have:=hl.nil_iff.1 rfl;subst this;exact hl
  |cons w l =>
   obtain⟨w',l',rfl,a1,a2,a3,a4⟩:=hl.cons;show RAlk (f w l) (f w' l')
   rw [hw w w' a1 a2 a3];exact (hp w).alk a4
theorem qj8 (k:Int) (t:qU) {f:Wd→Ps β} (hp:∀ w,Good (f w)) (hw:NoAt f):Good (qan (qbi k t) f):=by
 have e:qan (qbi k t) f=pIf k t f qmB:=by
  funext l
  unfold qan qbi;cases hi:wIs k t l with
  |false=>rw [qaM hi,qaM hi];rfl
  |true=>cases l with
   |nil=>cases hi
   |cons w l=>rw [qaW hi,qaW hi];rfl
 rw [e];exact qb7 hp hw qkV
theorem qHv {p:Ps α} (hp:Good p) (l:List Wd):(p l).rest.length≤l.length:=by
 obtain⟨u,hu⟩:=hp.suf l;have:=congrArg List.length hu;simp only [List.length_append] at this;omega
theorem qtQ {p:Ps α} (hp:Good p):∀ (n:Nat) (acc:List α) (l:List Wd),l.length < n→(∃ u,l=u++(pRep p n acc l).rest)∧((pRep p n acc l).rest≠[]→∀ m n',(l++m).length < n'→pRep p n' acc (l++m)=(pRep p n acc l).app m)∧∀ {l' n'},Alk l l'→l'.length < n'→RAlk (pRep p n acc l) (pRep p n' acc l')
 |0,_,_,h=>absurd h (Nat.not_lt_zero _)
 |n+1,acc,l,h=>by
  have hz:∀ {n':Nat} {l':List Wd},l'.length < n'→n'=n' - 1+1:=fun h=>by omega
  cases h1:p l with
  |no r =>
   have e:∀ n' l' x,p l'=.no x→pRep p (n'+1) acc l'=.no x:=fun n' l' x hx=>by rw [qcc];unfold qan;rw [hx]
   rw [e n l r h1];have hs:=hp.suf l;have he:=hp.ext l;rw [h1] at hs he;refine⟨hs,fun hr m n' hn=>?_,fun {l' n'} hl hn=>?_⟩
   ·rw [hz hn,e _ _ _ (he hr m)];rfl
   ·have ha:=hp.alk hl;rw [h1] at ha;obtain⟨r',h2,h3⟩:=ha.no;rw [hz hn,e _ _ _ h2];exact h3
  |ok a r =>
   have e:∀ n' l' x,p l'=.ok a x→pRep p (n'+1) acc l'=qjk p n' (acc++[a]) x:=fun n' l' x hx=>by rw [qcc];unfold qan;rw [hx]
   rw [e n l r h1];obtain⟨u,hs⟩:=hp.suf l;have he:=hp.ext l;rw [h1] at hs he;have hs:l=u++r:=hs;have hle:=qHv hp l;rw [h1] at hle;have hle:r.length≤l.length:=hle;cases hi:wIs 6 [44] r with
   |false =>
    have e2:∀ n' x,wIs 6 [44] x=false→qjk p n' (acc++[a]) x=.ok (acc++[a]) x:=fun n' x hx=>by unfold qjk;rw [qaM hx];rfl
    rw [e2 n r hi];refine⟨⟨u,hs⟩,fun hr m n' hn=>?_,fun {l' n'} hl hn=>?_⟩
    ·rw [hz hn,e _ _ _ (he hr m),e2 _ _ (by rw [qri _ _ (show r≠[] from hr)];exact hi)]
     rfl
    ·have ha:=hp.alk hl;rw [h1] at ha;obtain⟨r',h2,h3⟩:=ha.ok;rw [hz hn,e _ _ _ h2,e2 _ _ (by rw [h3.wIs];exact hi)]
     exact⟨rfl,h3⟩
   |true=>cases r with
    |nil=>cases hi
    |cons w r =>
     have e2:∀ n' w' x,wIs 6 [44] (w'::x)=true→qjk p n' (acc++[a]) (w'::x)=pRep p n' (acc++[a]) x:=fun n' w' x hx=>by unfold qjk;rw [qaW hx]
     rw [e2 n w r hi];simp only [List.length_cons] at hle;obtain⟨⟨v,hv⟩,k2,k3⟩:=qtQ hp n (acc++[a]) r (by omega)
     refine⟨⟨u++w::v,by rw [List.append_assoc,List.cons_append,← hv];exact hs⟩,fun hr m n' hn=>?_,fun {l' n'} hl hn=>?_⟩
     ·rw [hz hn,e _ _ _ (he (by simp [Rs.rest]) m)]
      refine (e2 _ w (r++m) hi).trans (k2 hr m _ ?_);simp only [List.length_append] at hn ⊢;omega
     ·have ha:=hp.alk hl;rw [h1] at ha;obtain⟨r',h2,h3⟩:=ha.ok;have hi':=(h3.wIs 6 [44]).trans hi;have hl':=qHv hp l';rw [h2] at hl';have hl':r'.length≤l'.length:=hl';obtain⟨w',r'',rfl,_,_,_,a4⟩:=h3.cons;rw [hz hn,e _ _ _ h2,e2 _ _ _ hi'];refine k3 a4 ?_;simp only [List.length_cons] at hl';omega
theorem qp4 {p:Ps α} (hp:Good p):Good (pRow p) :=
 ⟨fun l=>(qtQ hp _ _ l (Nat.lt_succ_self _)).1,fun l hr m=>(qtQ hp _ _ l (Nat.lt_succ_self _)).2.1 hr m _ (Nat.lt_succ_self _),fun hl=>(qtQ hp _ _ _ (Nat.lt_succ_self _)).2.2 hl (Nat.lt_succ_self _)⟩
theorem qdp (f:β):NoAt (fun _:Wd=>f):=fun _ _ _ _ _=>rfl
theorem qhy {p:Ps α} (hp:Good p):Good (qkN p) :=
 qj8 _ _ (fun _=>qb7 (fun _=>qaE _) (qdp _) (qaU (qp4 hp) fun _=>qj8 _ _ (fun _=>qaE _) (qdp _))) (qdp _)
theorem qpk (a:α):Good (pDot a):=qj8 _ _ (fun _=>qaE _) (qdp _)
end
theorem qez:Good qmy:=qAc qQQ (qu7 (fun _=>qaE _) fun w w' _ h _=>by rw [h]) qkV
theorem qot:Good pTyp:=qb7 (fun _=>qaE _) (qdp _) (qb7 (fun _=>qaE _) (qdp _) qkV)
theorem qhU:Good qcb:=qb7 (fun _=>qaE _) (fun w w' _ h _=>by rw [h]) (qb7 (fun _=>qaE _) (fun w w' _ _ h=>by rw [h]) (qb7 (fun _=>qaE _) (fun w w' _ _ h=>by rw [h]) (qb7 (fun _=>qaE _) (qdp _) qkV)))
theorem good_atom:Good qcJ:=qaU qez fun _=>qaU (qhy qhU) fun _=>qaE _
theorem qT3:Good pOp:=qb7 (fun _=>qaE _) (qdp _) (qb7 (fun _=>qaE _) (qdp _) (qb7 (fun _=>qaE _) (qdp _) (qb7 (fun _=>qaE _) (qdp _) (qb7 (fun _=>qaE _) (qdp _) (qb7 (fun _=>qaE _) (qdp _) qkV)))))
theorem qpz:Good pLit:=qb7 (fun _=>qaU good_atom fun _=>qaE _) (qdp _) (qAc qQQ (qaU good_atom fun _=>qaE _) (qaU qhU fun _=>qaU qT3 fun _=>qaU qhU fun _=>qaE _))
theorem good_rule:Good qgj:=qaU good_atom fun _=>qb7 (fun _=>qaU (qp4 qpz) fun _=>qpk _) (qdp _) (qpk _)
theorem qLq:Good qDX:=qu7 (fun _=>qaU qez fun _=>qaU (qhy qot) fun _=>qpk _) fun w w' _ h _=>by rw [h]
theorem qty:Good pAct:=qb7 (fun _=>qaU good_atom fun _=>qaE _) (qdp _) (qj8 _ _ (fun _=>qaU good_atom fun _=>qaE _) (qdp _))
theorem qhR:Good qft:=qj8 _ _ (fun _=>qaU qot fun _=>qaE _) fun w w' _ h _=>by rw [h]
theorem qTy:Good pOn:=qu7 (fun _=>qaU qez fun _=>qaU (qhy qhR) fun _=>qb7 (fun _=>qaU (qp4 qty) fun _=>qpk _) (qdp _) (qpk _)) (qdp _)
theorem qQy (g:Pg):Good (pOne g):=qAc qKJ (qaU qLq fun _=>qaE _) (qAc (qQN _ _) (qaU qTy fun _=>qaE _) (qaU good_rule fun _=>qaE _))
structure Str {α:Type} (p:Ps α):Prop where
 of:∀ {l a r},p l=.ok a r→r.length < l.length∧∀ m,p (l++m)=.ok a (r++m)
section
variable {α β : Type}
theorem qw9 (x:α):Str (pDot x):=by
 refine⟨fun {l a r} h=>?_⟩
 cases l with
 |nil=>cases h
 |cons w l =>
  have e:∀ l',pDot x (w::l')=if wIs 6 [46] (w::l') then .ok x l' else .no (w::l'):=fun l'=>by
   unfold pDot qan qbi;cases hi:wIs 6 [46] (w::l') with
   |false=>rw [qaM hi];rfl
   |true=>rw [qaW hi];rfl
  rw [e] at h
  split at h
  ·rename_i hi;cases h
   exact⟨Nat.lt_succ_self _,fun m=>(e _).trans (if_pos hi)⟩
  ·cases h
theorem qG7 {r:List Wd} {n:Nat} (h:n < r.length):r≠[]:=by
 intro e;rw [e] at h
 exact absurd h (Nat.not_lt_zero _)
theorem qi1 {p:Ps α} {f:α→Ps β} (hp:Good p) (hf:∀ a,Str (f a)):Str (qan p f):=by
 refine⟨fun {l b r} h=>?_⟩
 unfold qan at h
 split at h
 ·rename_i a r1 h1;obtain⟨k1,k2⟩:=(hf a).of h;have h2:=qHv hp l;have h3:=hp.ext l;rw [h1] at h2 h3;have h2:r1.length≤l.length:=h2;refine⟨by omega,fun m=>?_⟩
  unfold qan;rw [h3 (qG7 k1) m];exact k2 m
 ·cases h
theorem qBM {p:Ps α} {g:α→β} (hp:Str p):Str (qan p fun a=>qat (g a)):=by
 refine⟨fun {l b r} h=>?_⟩
 unfold qan at h
 split at h
 ·rename_i a r1 h1;cases h
  obtain⟨k1,k2⟩:=hp.of h1;exact⟨k1,fun m=>by unfold qan;rw [k2 m];rfl⟩
 ·cases h
theorem qH3 {f:Wd→Ps β} (hf:∀ w,Str (f w)):Str (qan qDo f):=by
 refine⟨fun {l b r} h=>?_⟩
 cases l with
 |nil=>cases h
 |cons w l =>
  obtain⟨k1,k2⟩:=(hf w).of (show f w l=.ok b r from h)
  exact⟨Nat.lt_succ_of_lt k1,fun m=>k2 m⟩
theorem qQ3 {k:Int} {t:List UInt8} {p:Wd→Ps α} {q:Ps α} (hp:∀ w,Str (p w)) (hq:Str q):Str (pIf k t p q):=by
 refine⟨fun {l b r} h=>?_⟩
 cases hi:wIs k t l with
 |false =>
  rw [qaM hi] at h
  obtain⟨k1,k2⟩:=hq.of h;exact⟨k1,fun m=>by rw [qaM (by rw [qri _ _ (qG7 k1)];exact hi)];exact k2 m⟩
 |true=>cases l with
  |nil=>cases hi
  |cons w l =>
   rw [qaW hi] at h
   obtain⟨k1,k2⟩:=(hp w).of h;exact⟨Nat.lt_succ_of_lt k1,fun m=>(qaW (l:=l++m) hi).trans (k2 m)⟩
theorem qQE {c:List Wd→Bool} {p q:Ps α} (hc:HdT c) (hp:Str p) (hq:Str q):Str (pCh c p q):=by
 refine⟨fun {l b r} h=>?_⟩
 unfold pCh at h ⊢;split at h
 ·rename_i hi;obtain⟨k1,k2⟩:=hp.of h;exact⟨k1,fun m=>by rw [hc.app (qG7 k1),if_pos hi];exact k2 m⟩
 ·rename_i hi;obtain⟨k1,k2⟩:=hq.of h;exact⟨k1,fun m=>by rw [hc.app (qG7 k1),if_neg hi];exact k2 m⟩
end
theorem qPI:Str qgj:=qi1 good_atom fun _=>qQ3 (fun _=>qi1 (qp4 qpz) fun _=>qw9 _) (qw9 _)
theorem qP3:Str qDX:=qH3 fun _=>qi1 qez fun _=>qi1 (qhy qot) fun _=>qw9 _
theorem qU1:Str pOn:=qH3 fun _=>qi1 qez fun _=>qi1 (qhy qhR) fun _=>qQ3 (fun _=>qi1 (qp4 qty) fun _=>qw9 _) (qw9 _)
theorem qNt (g:Pg):Str (pOne g):=qQE qKJ (qBM qP3) (qQE (qQN _ _) (qBM qU1) (qBM qPI))
theorem qEl {n:Nat} {g:Pg} {l:List Wd} (h:l≠[]):qwy (n+1) g l=qan (pOne g) (qwy n) l:=by
 cases l with
 |nil=>exact absurd rfl h
 |cons=>rfl
theorem qaA {α β:Type} {p:Ps α} {f:α→Ps β} {l r:List Wd} {a:α} (h:p l=.ok a r):qan p f l=f a r:=by unfold qan;rw [h]
theorem qax {α β:Type} {p:Ps α} {f:α→Ps β} {l r:List Wd} (h:p l=.no r):qan p f l=.no r:=by unfold qan;rw [h]
theorem qCV:∀ (n:Nat) (g:Pg) (l:List Wd),l.length < n→∃ u,l=u++(qwy n g l).rest
 |0,_,_,h=>absurd h (Nat.not_lt_zero _)
 |n+1,g,[],h=>⟨[],rfl⟩
 |n+1,g,w::l,h=>by
  rw [qEl (by simp)]
  obtain⟨u,hu⟩:=(qQy g).suf (w::l);cases h1:pOne g (w::l) with
  |no r=>rw [h1] at hu;rw [qax h1];exact⟨u,hu⟩
  |ok b r =>
   have k1:=((qNt g).of h1).1;rw [h1] at hu;rw [qaA h1];obtain⟨v,hv⟩:=qCV n b r (by simp only [List.length_cons] at k1 h;omega)
   exact⟨u++v,by rw [List.append_assoc,← hv];exact hu⟩
theorem qO7 (l:List Wd):∃ u,l=u++(qsd l).rest:=qCV _ _ _ (Nat.lt_succ_self _)
theorem ch_f {α:Type} {c:List Wd→Bool} {p q:Ps α} {l:List Wd} (h:c l=false):pCh c p q l=q l:=if_neg (by rw [h];simp)
end Go.Pv
set_option maxHeartbeats 4000000
set_option maxRecDepth 200000
set_option linter.unusedSimpArgs false
set_option linter.unusedVariables false
namespace Go.Pv
open Go Go.Proofs
@[simp] def bst (l:List Wd) (n:Int):Store:=⟨[[.sl (rOf cW l) .non,.int .i64 n]],[],[138]⟩
@[simp] def mfit (n:Int):PV:=.iface 172 (.agg [.int .i64 n])
def bOut {α:Type} (f:α→PV) (n:Int):Rs α→PR×Store
 |.ok a r=>(.val (f a),bst r n)
 |.no r=>(.pan (mfit (plc n r)),bst r n)
@[simp] theorem bOut_ok {α:Type} (f:α→PV) (n:Int) (a:α) (r:List Wd):bOut f n (.ok a r)=(.val (f a),bst r n):=rfl
@[simp] theorem bOut_no {α:Type} (f:α→PV) (n:Int) (r:List Wd):bOut f n (.no r)=(.pan (mfit (plc n r)),bst r n):=rfl
@[simp] def vcW (w:Wd):PV:=.agg [.int .i64 w.1,.str w.2.1,.int .i64 w.2.2.1.1,.int .i64 w.2.2.1.2.1,.str w.2.2.1.2.2,.int .i64 w.2.2.2]
@[simp] def vcM (t:Tm):PV:=.agg [.int .i64 t.1,.str t.2.1,.int .i64 t.2.2.1,.int .i64 t.2.2.2.1,.str t.2.2.2.2]
@[simp] def vcA (a:At):PV:=.agg [.str a.1,.sl (rOf cM a.2) .non]
@[simp] def vcL (t:Li):PV:=.agg [.int .i64 t.1,.str t.2.1.1,.sl (rOf cM t.2.1.2) .non,.int .i64 t.2.2.1,.int .i64 t.2.2.2.1.1,.str t.2.2.2.1.2.1,.int .i64 t.2.2.2.1.2.2.1,.int .i64 t.2.2.2.1.2.2.2.1,.str t.2.2.2.1.2.2.2.2,.int .i64 t.2.2.2.2.1,.str t.2.2.2.2.2.1,.int .i64 t.2.2.2.2.2.2.1,.int .i64 t.2.2.2.2.2.2.2.1,.str t.2.2.2.2.2.2.2.2]
@[simp] def vcRu (t:Ru):PV:=.agg [.str t.1.1,.sl (rOf cM t.1.2) .non,.sl (rOf cL t.2) .non]
@[simp] def vcD (t:De):PV:=.agg [.str t.1,.bool t.2.1,.sl (rOf cI t.2.2) .non]
@[simp] def vcP (t:Pa):PV:=.agg [.str t.1,.int .i64 t.2]
@[simp] def vcAc (t:Ac):PV:=.agg [.bool t.1,.str t.2.1,.sl (rOf cM t.2.2) .non]
@[simp] def vcE (t:En):PV:=.agg [.str t.1,.sl (rOf cP t.2.1) .non,.sl (rOf cAc t.2.2) .non]
@[simp] def vcPg (t:Pg):PV:=.agg [.sl (rOf cD t.1) .non,.sl (rOf cE t.2.1) .non,.sl (rOf cRu t.2.2) .non]
attribute [simp] qsf qfv qoJ qlE qrx qGn qFT qdz qBr qpm qoK qsQ qin qnZ qqr qbo qaP qbr qj9 qkA qrU qq0 qrg qhN qvF qhC qig qrD qpb qbz qbA qbq qbp qbu qj0 qj7 qhi qh0 qhM qfX qlY qle qjb qiw qiD qji qf7 qfI qcw qcn qdA qej qeo qes qcp qdr
@[simp] theorem bis_law (l:List Wd) (n k:Int) (t:qU):qMm (rOf cW l) n k t=some (.bool (wIs k t l)):=by
 cases l with
 |nil=>simp [qMm,qHJ,↓Tr.run_ite,wIs]
 |cons w l =>
  by_cases h1:w.1=k<;>by_cases h2:t=[]<;>simp [qMm,qHJ,↓Tr.run_ite,wIs,h1,h2]
@[simp] theorem tail_rOf {α:Type} (C:Cod α) (l:List α):(rOf C l).tail=rOf C l.tail:=by cases l<;>rfl
@[simp] theorem bnamed_law (l:List Wd) (n:Int):qqt (rOf cW l) n=some (.bool (wNm l)):=by
 cases h:wIs 1 [] l with
 |false =>
  have:wNm l=false:=by
   cases l with
   |nil=>rfl
   |cons w l =>
    simp only [wIs,decide_true,Bool.true_or,Bool.and_true,decide_eq_false_iff_not] at h
    simp [wNm,h]
  simp [qqt,qoZ,↓Tr.run_ite,this,h]
 |true=>cases l with
  |nil=>cases h
  |cons w l =>
   have h1:w.1=1:=by simpa [wIs] using h
   by_cases h2:w.2.1=[98,97,115,101]<;>by_cases h3:w.2.1=[118,105,101,119]<;>by_cases h4:w.2.1=[111,110]<;>by_cases h5:w.2.1=[110,111,116]<;>simp [qqt,qoZ,↓Tr.run_ite,wNm,wIs,resv,h1,h2,h3,h4,h5]
@[simp] theorem bno_law (l:List Wd) (n:Int):qJv (rOf cW l) n=some (.pan (mfit (plc n l)),bst l n):=by
 cases l with
 |nil=>simp [qJv,qIr,↓Tr.run_ite,plc]
 |cons w l=>simp [qJv,qIr,↓Tr.run_ite,plc]
@[simp] theorem bpass_law (w:Wd) (l:List Wd) (n:Int):qgR (rOf cW (w::l)) n=some (.val (vcW w),bst l n):=by
 simp [qgR,qBB,↓Tr.run_ite]
theorem qa1 {k:Int} {t:List UInt8} {l:List Wd} (h:wIs k t l=false) (n:Int):qnJ k t (rOf cW l) n=some (.val (.bool false),bst l n):=by
 simp [qnJ,qsK,↓Tr.run_ite,h]
theorem qaY {k:Int} {t:List UInt8} {w:Wd} {l:List Wd} (h:wIs k t (w::l)=true) (n:Int):qnJ k t (rOf cW (w::l)) n=some (.val (.bool true),bst l n):=by
 simp [qnJ,qsK,↓Tr.run_ite,h]
@[simp] theorem bneed_law (k:Int) (t:qU) (l:List Wd) (n:Int):qdn k t (rOf cW l) n=some (bOut vcW n (qbi k t l)):=by
 cases h:wIs k t l with
 |false=>simp [qdn,qsI,↓Tr.run_ite,qbi,qaM h,h,qmB]
 |true=>cases l with
  |nil=>cases h
  |cons w l=>simp [qdn,qsI,↓Tr.run_ite,qbi,qaW h,h,qat]
@[simp] theorem bmark_law (t:qU) (l:List Wd) (n:Int):qnW t (rOf cW l) n=some (bOut (fun _=>.tup []) n (qbi 6 t l)):=by
 cases h:qbi 6 t l<;>simp [qnW,qzC,↓Tr.run_ite,h]
@[simp] theorem bname_law (l:List Wd) (n:Int):qi2 (rOf cW l) n=some (bOut .str n (qmy l)):=by
 cases h:wNm l with
 |false=>simp [qi2,qua,↓Tr.run_ite,qmy,pCh,h,qmB]
 |true=>cases l with
  |nil=>cases h
  |cons w l=>simp [qi2,qua,↓Tr.run_ite,qmy,pCh,h,qDo,qan,qat]
@[simp] theorem btyp_law (l:List Wd) (n:Int):qmG (rOf cW l) n=some (bOut (.int .i64) n (pTyp l)):=by
 cases h:wIs 1 [105,110,116] l with
 |true=>cases l with
  |nil=>cases h
  |cons w l=>simp [qmG,qv1,↓Tr.run_ite,pTyp,qaW h,qaY h,qat]
 |false=>cases h2:wIs 1 [115,121,109] l with
  |true=>cases l with
   |nil=>cases h2
   |cons w l=>simp [qmG,qv1,↓Tr.run_ite,pTyp,qaM h,qa1 h,qaW h2,qaY h2,qat]
  |false=>simp [qmG,qv1,↓Tr.run_ite,pTyp,qaM h,qa1 h,qaM h2,qa1 h2,qmB]
@[simp] theorem bterm_law (l:List Wd) (n:Int):qcG (rOf cW l) n=some (bOut vcM n (qcb l)):=by
 cases h2:wIs 2 [] l with
 |true=>cases l with
  |nil=>cases h2
  |cons w l=>simp [qcG,qjG,↓Tr.run_ite,qcb,qaW h2,qat,h2]
 |false=>cases h4:wIs 4 [] l with
  |true=>cases l with
   |nil=>cases h4
   |cons w l=>simp [qcG,qjG,↓Tr.run_ite,qcb,qaM h2,qaW h4,qat,h2,h4]
  |false=>cases h5:wIs 5 [] l with
   |true=>cases l with
    |nil=>cases h5
    |cons w l=>simp [qcG,qjG,↓Tr.run_ite,qcb,qaM h2,qaM h4,qaW h5,qat,h2,h4,h5]
   |false=>cases h3:wIs 3 [] l with
    |true=>cases l with
     |nil=>cases h3
     |cons w l=>simp [qcG,qjG,↓Tr.run_ite,qcb,qbi,qaM h2,qaM h4,qaM h5,qaW h3,qat,h2,h4,h5,h3]
    |false=>simp [qcG,qjG,↓Tr.run_ite,qcb,qbi,qaM h2,qaM h4,qaM h5,qaM h3,qmB,h2,h4,h5,h3]
end Go.Pv
set_option maxHeartbeats 4000000
set_option maxRecDepth 200000
set_option linter.unusedSimpArgs false
set_option linter.unusedVariables false
namespace Go.Pv
open Go Go.Proofs
theorem qq4 {α:Type} {p:Ps α} (hp:Good p) {l r:List Wd} {a:α} (h:p l=.ok a r):r.length≤l.length:=by
 have:=qHv hp l;rw [h] at this;exact this
theorem qmi {k:Int} {t:List UInt8} {l r:List Wd} {w:Wd} (h:qbi k t l=.ok w r):l=w::r∧wIs k t l=true:=by
 unfold qbi at h
 cases hi:wIs k t l with
 |false=>rw [qaM hi] at h;cases h
 |true=>cases l with
  |nil=>cases hi
  |cons w l=>rw [qaW hi] at h;cases h;exact⟨rfl,rfl⟩
def qeG {α:Type} (p:Ps α):Ps (Option α):=pIf 6 [44] (fun _=>qan p fun a=>qat (some a)) (qat none)
def mstep {α γ:Type} (V X:List α→List Wd→γ) (P:List Wd→γ) (acc:List α):Rs (Option α)→γ
 |.ok (some a) r=>V (acc++[a]) r
 |.ok none r=>X acc r
 |.no r=>P r
theorem qHQ {α γ:Type} {p:Ps α} (hp:Good p) {V X P:List α→List Wd→γ} (E:∀ acc r,acc.length+r.length≤65537→V acc r=mstep V X (P acc) acc (qeG p r)) :
  ∀ (m:Nat) (acc:List α) (r:List Wd),r.length≤m→acc.length+r.length≤65537→match qjk p m acc r with
   |.ok bs r'=>V acc r=X bs r'
   |.no r'=>∃ acc',V acc r=P acc' r'
 |m,acc,r,h,hb=>by
  rw [E acc r hb];unfold qjk qeG;cases hw:wIs 6 [44] r with
  |false=>rw [qaM hw,qaM hw];rfl
  |true=>cases r with
   |nil=>cases hw
   |cons w r =>
    rw [qaW hw,qaW hw];simp only [List.length_cons] at h hb;cases m with
    |zero=>omega
    |succ m =>
     rw [qcc];cases h1:p r with
     |no r'=>rw [qax h1,qax h1];exact⟨acc,rfl⟩
     |ok a r' =>
      have:=qq4 hp h1;rw [qaA h1,qaA h1];exact qHQ hp E m (acc++[a]) r' (by omega) (by simp only [List.length_append,List.length_singleton];omega)
theorem qj4 {α γ:Type} {p:Ps α} (hp:Good p) {V0 V X0 X P:List α→List Wd→γ} {P0:List Wd→γ} (E0:∀ acc r,acc.length+r.length≤65537→V0 acc r=mstep V X0 P0 acc (qeG p r)) (E:∀ acc r,acc.length+r.length≤65537→V acc r=mstep V X (P acc) acc (qeG p r))
  (m:Nat) (acc:List α) (r:List Wd) (h:r.length≤m) (hb:acc.length+r.length≤65537):match qjk p m acc r with
   |.ok bs r'=>V0 acc r=X0 bs r'∨V0 acc r=X bs r'
   |.no r'=>V0 acc r=P0 r'∨∃ acc',V0 acc r=P acc' r':=by
 rw [E0 acc r hb];unfold qjk qeG;cases hw:wIs 6 [44] r with
 |false=>rw [qaM hw,qaM hw];exact .inl rfl
 |true=>cases r with
  |nil=>cases hw
  |cons w r =>
   rw [qaW hw,qaW hw];simp only [List.length_cons] at h hb;cases m with
   |zero=>omega
   |succ m =>
    rw [qcc];cases h1:p r with
    |no r'=>rw [qax h1,qax h1];exact .inl rfl
    |ok a r' =>
     have:=qq4 hp h1;rw [qaA h1,qaA h1];have H:=qHQ hp E m (acc++[a]) r' (by omega) (by simp only [List.length_append,List.length_singleton];omega)
     cases h2:qjk p m (acc++[a]) r' with
     |ok bs r''=>rw [h2] at H;exact .inr H
     |no r''=>rw [h2] at H;exact .inr H
abbrev LOut:=Option (PExit×List PV×Store)
def qnY {α:Type} (C:Cod α) (n:Int) (acc:List α) (r:List Wd):LOut:=some (.exit 0,[.sl (rOf C acc) .full],bst r n)
def qnM (n:Int) (r:List Wd):LOut:=some (.pan (mfit (plc n r)),[],bst r n)
def qnw {α:Type} (C:Cod α) (k:Nat) (t:TypeId) (n:Int) (acc:List α) (r:List Wd):LOut:=some (.exit 0,[.sl (rOf C acc) (.tok 0)],⟨[[.sl (rOf cW r) .non,.int .i64 n]],[(acc.length,k,t)],[138]⟩)
def qmP {α:Type} (k:Nat) (t:TypeId) (n:Int) (acc:List α) (r:List Wd):LOut:=some (.pan (mfit (plc n r)),[],⟨[[.sl (rOf cW r) .non,.int .i64 n]],[(acc.length,k,t)],[138]⟩)
theorem qIq (n:Int):([[.int .i64 n]]:List (List PV))=rOf cI [n]:=rfl
theorem qzr (l:List Int) (n:Int):rOf cI l++[[.int .i64 n]]=rOf cI (l++[n]):=by rw [qga];rfl
attribute [simp] qE4 qGP qAw qui qAA qB4 qBx qz7 qAS qze qBn qAC qsm qsw qtF qt8 quE qtp qsn que
def qyo (n:Int) (acc:List Tm) (r:List Wd):LOut:=qjO [.ptr 0 0,.mth 113 [.ptr 0 0],.sl (rOf cM acc) (.tok 0)] ⟨[[.sl (rOf cW r) .non,.int .i64 n]],[(acc.length,5,94)],[138]⟩
def qQ2 (n:Int) (acc:List Tm) (r:List Wd):LOut:=qjO [.ptr 0 0,.mth 113 [.ptr 0 0],.sl (rOf cM acc) .full] (bst r n)
theorem qUr (n:Int) (acc:List Tm) (r:List Wd) (h:acc.length+r.length≤65537):qyo n acc r=mstep (qyo n) (qnw cM 5 94 n) (qmP 5 94 n acc) acc (qeG qcb r):=by
 conv=>lhs;rw [qyo,qTe]
 unfold qeG;cases hw:wIs 6 [44] r with
 |false=>simp [qpu,↓Tr.run_ite,qaM hw,qa1 hw,qat,qnw,mstep]
 |true=>cases r with
  |nil=>cases hw
  |cons w r =>
   skip
   simp only [qaW hw,qan];cases hp:qcb r with
   |no r'=>simp [qpu,↓Tr.run_ite,qaY hw,hp,qmP,mstep]
   |ok a r' =>
    obtain⟨x1,x2,x3,x4,x5⟩:=a;simp only [List.length_cons] at h
    simp [qpu,↓Tr.run_ite,qaY hw,hp,qat,mstep,qyo,];rw [if_pos (by omega)]
    simp
theorem qSv (n:Int) (acc:List Tm) (r:List Wd) (h:acc.length+r.length≤65537):qQ2 n acc r=mstep (qyo n) (qnY cM n) (qnM n) acc (qeG qcb r):=by
 conv=>lhs;rw [qQ2,bst,qVj]
 unfold qeG;cases hw:wIs 6 [44] r with
 |false=>simp [qvg,↓Tr.run_ite,qaM hw,qa1 hw,qat,qnY,mstep]
 |true=>cases r with
  |nil=>cases hw
  |cons w r =>
   skip
   simp only [qaW hw,qan];cases hp:qcb r with
   |no r'=>simp [qvg,↓Tr.run_ite,qaY hw,hp,qnM,mstep]
   |ok a r' =>
    obtain⟨x1,x2,x3,x4,x5⟩:=a;simp only [List.length_cons] at h
    simp [qvg,↓Tr.run_ite,qaY hw,hp,qat,mstep,qyo,];rw [if_pos (by omega)]
    simp
theorem qSl {l:List Wd} (hl:l.length≤65536) (n:Int):qxD (rOf cW l) n=some (bOut (fun a=>.sl (rOf cM a) .non) n (pRow qcb l)):=by
 unfold pRow;rw [qcc];unfold qan;cases hp:qcb l with
 |no r=>simp [qxD,qDO,↓Tr.run_ite,hp]
 |ok a r =>
  have hr:=qq4 qhU hp;have H:=qj4 qhU (qSv n) (qUr n) l.length [a] r hr (by simp only [List.length_singleton];omega)
  simp only [List.nil_append];obtain⟨x1,x2,x3,x4,x5⟩:=a;cases ht:qjk qcb l.length [(x1,x2,x3,x4,x5)] r with
  |ok bs r' =>
   rw [ht] at H;rcases H with H|H<;>simp [qxD,qDO,qeJ,↓Tr.run_ite,hp,show qjO _ ⟨[[.sl (rOf cW r) .non,.int .i64 n]],[],[138]⟩=_ from H,qnY,qnw]
  |no r' =>
   rw [ht] at H;rcases H with H|⟨_,H⟩<;>simp [qxD,qDO,qeJ,↓Tr.run_ite,hp,show qjO _ ⟨[[.sl (rOf cW r) .non,.int .i64 n]],[],[138]⟩=_ from H,qnM,qmP]
attribute [simp] qFN qGV qzG quf qAD qAZ
theorem qTQ {l:List Wd} (hl:l.length≤65536) (n:Int):qsg (rOf cW l) n=some (bOut (fun a=>.sl (rOf cM a) .non) n (qkN qcb l)):=by
 unfold qkN;cases h1:qbi 6 [40] l with
 |no r=>simp [qsg,qvJ,↓Tr.run_ite,qax h1,h1]
 |ok w l =>
  obtain⟨rfl,-⟩:=qmi h1;simp only [List.length_cons] at hl;rw [qaA h1];cases h2:wIs 6 [41] l with
  |true=>cases l with
   |nil=>cases h2
   |cons w l=>simp [qsg,qvJ,↓Tr.run_ite,h1,qaW h2,qaY h2,qat]
  |false =>
   have k1:=qSl (l:=l) (by omega) n
   rw [qaM h2];cases h3:pRow qcb l with
   |no r=>simp [qsg,qvJ,↓Tr.run_ite,h1,qa1 h2,qax h3,k1,h3]
   |ok a r =>
    rw [qaA h3];cases h4:qbi 6 [41] r with
    |no r=>simp [qsg,qvJ,↓Tr.run_ite,h1,qa1 h2,qax h4,k1,h3,h4]
    |ok w r=>simp [qsg,qvJ,↓Tr.run_ite,h1,qa1 h2,qaA h4,k1,h3,h4,qat]
attribute [simp] qG0 qFa qBF qur qCC qzE qA2 qzV qCJ qBQ qBC qCg qtf qti qsH quj qtv qtx qsu qto
def qx5 (n:Int) (acc:List Int) (r:List Wd):LOut:=qjP [.ptr 0 0,.mth 138 [.ptr 0 0],.sl (rOf cI acc) (.tok 0)] ⟨[[.sl (rOf cW r) .non,.int .i64 n]],[(acc.length,1,112)],[138]⟩
def qQ4 (n:Int) (acc:List Int) (r:List Wd):LOut:=qjP [.ptr 0 0,.mth 138 [.ptr 0 0],.sl (rOf cI acc) .full] (bst r n)
theorem qR0 (n:Int) (acc:List Int) (r:List Wd) (h:acc.length+r.length≤65537):qx5 n acc r=mstep (qx5 n) (qnw cI 1 112 n) (qmP 1 112 n acc) acc (qeG pTyp r):=by
 conv=>lhs;rw [qx5,qRq]
 unfold qeG;cases hw:wIs 6 [44] r with
 |false=>simp [qo9,↓Tr.run_ite,qaM hw,qa1 hw,qat,qnw,mstep]
 |true=>cases r with
  |nil=>cases hw
  |cons w r =>
   skip
   simp only [qaW hw,qan];cases hp:pTyp r with
   |no r'=>simp [qo9,↓Tr.run_ite,qaY hw,hp,qmP,mstep]
   |ok a r' =>
    skip
    simp only [List.length_cons] at h
    simp [qo9,↓Tr.run_ite,qaY hw,hp,qat,mstep,qx5,qIq,qzr,];rw [if_pos (by omega)]
    simp
theorem qT5 (n:Int) (acc:List Int) (r:List Wd) (h:acc.length+r.length≤65537):qQ4 n acc r=mstep (qx5 n) (qnY cI n) (qnM n) acc (qeG pTyp r):=by
 conv=>lhs;rw [qQ4,bst,qVO]
 unfold qeG;cases hw:wIs 6 [44] r with
 |false=>simp [qwG,↓Tr.run_ite,qaM hw,qa1 hw,qat,qnY,mstep]
 |true=>cases r with
  |nil=>cases hw
  |cons w r =>
   skip
   simp only [qaW hw,qan];cases hp:pTyp r with
   |no r'=>simp [qwG,↓Tr.run_ite,qaY hw,hp,qnM,mstep]
   |ok a r' =>
    skip
    simp only [List.length_cons] at h
    simp [qwG,↓Tr.run_ite,qaY hw,hp,qat,mstep,qx5,qIq,qzr,];rw [if_pos (by omega)]
    simp
theorem qSK {l:List Wd} (hl:l.length≤65536) (n:Int):qxy (rOf cW l) n=some (bOut (fun a=>.sl (rOf cI a) .non) n (pRow pTyp l)):=by
 unfold pRow;rw [qcc];unfold qan;cases hp:pTyp l with
 |no r=>simp [qxy,qCR,↓Tr.run_ite,hp]
 |ok a r =>
  have hr:=qq4 qot hp;have H:=qj4 qot (qT5 n) (qR0 n) l.length [a] r hr (by simp only [List.length_singleton];omega)
  simp only [List.nil_append]
  skip
  cases ht:qjk pTyp l.length [a] r with
  |ok bs r' =>
   rw [ht] at H;rcases H with H|H<;>simp [qxy,qCR,qeH,↓Tr.run_ite,hp,qIq,qzr,show qjP _ ⟨[[.sl (rOf cW r) .non,.int .i64 n]],[],[138]⟩=_ from H,qnY,qnw]
  |no r' =>
   rw [ht] at H;rcases H with H|⟨_,H⟩<;>simp [qxy,qCR,qeH,↓Tr.run_ite,hp,qIq,qzr,show qjP _ ⟨[[.sl (rOf cW r) .non,.int .i64 n]],[],[138]⟩=_ from H,qnM,qmP]
attribute [simp] qGH qFM qAd qsP qy5 qzT
theorem qUK {l:List Wd} (hl:l.length≤65536) (n:Int):qse (rOf cW l) n=some (bOut (fun a=>.sl (rOf cI a) .non) n (qkN pTyp l)):=by
 unfold qkN;cases h1:qbi 6 [40] l with
 |no r=>simp [qse,qwJ,↓Tr.run_ite,qax h1,h1]
 |ok w l =>
  obtain⟨rfl,-⟩:=qmi h1;simp only [List.length_cons] at hl;rw [qaA h1];cases h2:wIs 6 [41] l with
  |true=>cases l with
   |nil=>cases h2
   |cons w l=>simp [qse,qwJ,↓Tr.run_ite,h1,qaW h2,qaY h2,qat]
  |false =>
   have k1:=qSK (l:=l) (by omega) n
   rw [qaM h2];cases h3:pRow pTyp l with
   |no r=>simp [qse,qwJ,↓Tr.run_ite,h1,qa1 h2,qax h3,k1,h3]
   |ok a r =>
    rw [qaA h3];cases h4:qbi 6 [41] r with
    |no r=>simp [qse,qwJ,↓Tr.run_ite,h1,qa1 h2,qax h4,k1,h3,h4]
    |ok w r=>simp [qse,qwJ,↓Tr.run_ite,h1,qa1 h2,qaA h4,k1,h3,h4,qat]
attribute [simp] qh7 qhD qe8 qeZ qfd qe2 qfm
@[simp] theorem bparam_law (l:List Wd) (n:Int):qed (rOf cW l) n=some (bOut vcP n (qft l)):=by
 unfold qft;cases h1:qbi 2 [] l with
 |no r=>simp [qed,qps,↓Tr.run_ite,qax h1,h1]
 |ok w r =>
  rw [qaA h1];cases h2:pTyp r<;>simp [qed,qps,↓Tr.run_ite,qan,qat,h1,h2]
attribute [simp] qGi qEO qzu qtJ qAx qAH qAT qCp qAa qAs qBO qAt qs3 qtk qt9 qs9 qsV qsO quh qs5
def qxU (n:Int) (acc:List Pa) (r:List Wd):LOut:=qjM [.ptr 0 0,.mth 140 [.ptr 0 0],.sl (rOf cP acc) (.tok 0)] ⟨[[.sl (rOf cW r) .non,.int .i64 n]],[(acc.length,2,114)],[138]⟩
def qQF (n:Int) (acc:List Pa) (r:List Wd):LOut:=qjM [.ptr 0 0,.mth 140 [.ptr 0 0],.sl (rOf cP acc) .full] (bst r n)
theorem qTN (n:Int) (acc:List Pa) (r:List Wd) (h:acc.length+r.length≤65537):qxU n acc r=mstep (qxU n) (qnw cP 2 114 n) (qmP 2 114 n acc) acc (qeG qft r):=by
 conv=>lhs;rw [qxU,qRQ]
 unfold qeG;cases hw:wIs 6 [44] r with
 |false=>simp [qqn,↓Tr.run_ite,qaM hw,qa1 hw,qat,qnw,mstep]
 |true=>cases r with
  |nil=>cases hw
  |cons w r =>
   skip
   simp only [qaW hw,qan];cases hp:qft r with
   |no r'=>simp [qqn,↓Tr.run_ite,qaY hw,hp,qmP,mstep]
   |ok a r' =>
    obtain⟨x1,x2⟩:=a;simp only [List.length_cons] at h
    simp [qqn,↓Tr.run_ite,qaY hw,hp,qat,mstep,qxU,qH8,qCj,];rw [if_pos (by omega)]
    simp
theorem qUb (n:Int) (acc:List Pa) (r:List Wd) (h:acc.length+r.length≤65537):qQF n acc r=mstep (qxU n) (qnY cP n) (qnM n) acc (qeG qft r):=by
 conv=>lhs;rw [qQF,bst,qV8]
 unfold qeG;cases hw:wIs 6 [44] r with
 |false=>simp [quW,↓Tr.run_ite,qaM hw,qa1 hw,qat,qnY,mstep]
 |true=>cases r with
  |nil=>cases hw
  |cons w r =>
   skip
   simp only [qaW hw,qan];cases hp:qft r with
   |no r'=>simp [quW,↓Tr.run_ite,qaY hw,hp,qnM,mstep]
   |ok a r' =>
    obtain⟨x1,x2⟩:=a;simp only [List.length_cons] at h
    simp [quW,↓Tr.run_ite,qaY hw,hp,qat,mstep,qxU,qH8,qCj,];rw [if_pos (by omega)]
    simp
theorem qTl {l:List Wd} (hl:l.length≤65536) (n:Int):qxz (rOf cW l) n=some (bOut (fun a=>.sl (rOf cP a) .non) n (pRow qft l)):=by
 unfold pRow;rw [qcc];unfold qan;cases hp:qft l with
 |no r=>simp [qxz,qD3,↓Tr.run_ite,hp]
 |ok a r =>
  have hr:=qq4 qhR hp;have H:=qj4 qhR (qUb n) (qTN n) l.length [a] r hr (by simp only [List.length_singleton];omega)
  simp only [List.nil_append];obtain⟨x1,x2⟩:=a;cases ht:qjk qft l.length [(x1,x2)] r with
  |ok bs r' =>
   rw [ht] at H;rcases H with H|H<;>simp [qxz,qD3,qeL,↓Tr.run_ite,hp,qH8,qCj,show qjM _ ⟨[[.sl (rOf cW r) .non,.int .i64 n]],[],[138]⟩=_ from H,qnY,qnw]
  |no r' =>
   rw [ht] at H;rcases H with H|⟨_,H⟩<;>simp [qxz,qD3,qeL,↓Tr.run_ite,hp,qH8,qCj,show qjM _ ⟨[[.sl (rOf cW r) .non,.int .i64 n]],[],[138]⟩=_ from H,qnM,qmP]
attribute [simp] qGL qG3 qAQ qtz qBH qBt
theorem qTt {l:List Wd} (hl:l.length≤65536) (n:Int):qsl (rOf cW l) n=some (bOut (fun a=>.sl (rOf cP a) .non) n (qkN qft l)):=by
 unfold qkN;cases h1:qbi 6 [40] l with
 |no r=>simp [qsl,qvY,↓Tr.run_ite,qax h1,h1]
 |ok w l =>
  obtain⟨rfl,-⟩:=qmi h1;simp only [List.length_cons] at hl;rw [qaA h1];cases h2:wIs 6 [41] l with
  |true=>cases l with
   |nil=>cases h2
   |cons w l=>simp [qsl,qvY,↓Tr.run_ite,h1,qaW h2,qaY h2,qat]
  |false =>
   have k1:=qTl (l:=l) (by omega) n
   rw [qaM h2];cases h3:pRow qft l with
   |no r=>simp [qsl,qvY,↓Tr.run_ite,h1,qa1 h2,qax h3,k1,h3]
   |ok a r =>
    rw [qaA h3];cases h4:qbi 6 [41] r with
    |no r=>simp [qsl,qvY,↓Tr.run_ite,h1,qa1 h2,qax h4,k1,h3,h4]
    |ok w r=>simp [qsl,qvY,↓Tr.run_ite,h1,qa1 h2,qaA h4,k1,h3,h4,qat]
attribute [simp] qeq qer qdC qdb qdu qep qcR qE6 qGk qAO qBe qAu qzh qzN qCH quz qtN qsD qqu qok qhS qg3 qhm qhG qhs qhj qhq qlC qlo qhh qlM qmr qgZ qij qhu qhO ql6 qqx qpe qkt qhX qg8 qkK qjY qku qqi qu3 qwg qoM qk7 qql qpR qqe qk3 qoW qof qlh qh9 qkZ qlg qkX qFK qFj qA9 qtt qsR qCG qBU qBd
theorem qhe {l:List Wd} (hl:l.length≤65536) (n:Int):qgX (rOf cW l) n=some (bOut vcA n (qcJ l)):=by
 unfold qcJ;cases h1:qmy l with
 |no r=>simp [qgX,quD,↓Tr.run_ite,qax h1,h1]
 |ok a r =>
  have hr:=qq4 qez h1;have k:=qTQ (l:=r) (by omega) n
  rw [qaA h1];cases h2:qkN qcb r<;>simp [qgX,quD,↓Tr.run_ite,qan,qat,h1,h2,k]
def opL:List (List UInt8):=[[61],[33,61],[60],[60,61],[62],[62,61]]
def opV (i:Nat) (l:List Wd) (n:Int):LOut:=qwS [.ptr 0 0,.sl (rOf cS opL) .full,.int .i64 6,.int .i64 i] (bst l n)
theorem qIU {i:Nat} {t:List UInt8} (h:opL[i]?=some t) {w:Wd} {l:List Wd} (hw:wIs 6 t (w::l)=true) (n:Int):opV i (w::l) n=some (.ret,[.int .i64 (i+1:Nat)],bst l n):=by
 obtain⟨h3,h4⟩:=List.getElem?_eq_some_iff.1 h;have hi:i < 6:=h3;have h2:((i:Nat):Int) < 6:=by omega
 unfold opV bst;rw [qMv];simp [qvW,↓Tr.run_ite,h4,qaY hw,qbS (show i < 9223372036854775807 by omega),h2,h3]
theorem qIP {i:Nat} {t:List UInt8} (h:opL[i]?=some t) {l:List Wd} (hw:wIs 6 t l=false) (n:Int):opV i l n=opV (i+1) l n:=by
 obtain⟨h3,h4⟩:=List.getElem?_eq_some_iff.1 h;have hi:i < 6:=h3;have h2:((i:Nat):Int) < 6:=by omega
 unfold opV bst
 conv=>lhs;rw [qMv]
 simp [qvW,↓Tr.run_ite,h4,qa1 hw,qbS (show i < 9223372036854775807 by omega),h2,h3]
theorem qWC (l:List Wd) (n:Int):opV 6 l n=some (.exit 0,[.ptr 0 0],bst l n):=by
 unfold opV bst;rw [qMv];simp [qvW,↓Tr.run_ite]
@[simp] theorem bop_law (l:List Wd) (n:Int):qxJ (rOf cW l) n=some (bOut (.int .i64) n (pOp l)):=by
 have e:∀ x,opV 0 l n=x→qwS [.ptr 0 0,.sl (rOf cS opL) .full,.int .i64 6,.int .i64 0] (bst l n)=x:=fun x h=>h
 have fin:∀ i a r,opV 0 l n=some (.ret,[.int .i64 ((i+1:Nat):Int)],bst r n)→((i+1:Nat):Int)=a→qxJ (rOf cW l) n=some (.val (.int .i64 a),bst r n):=by
  intro i a r h ha;have h:=e _ h;simp only [opL,bst] at h
  simp [qxJ,qHj,↓Tr.run_ite,qwi,h,← ha]
 unfold pOp;cases h1:wIs 6 [61] l with
 |true=>cases l with
  |nil=>cases h1
  |cons w l=>rw [qaW h1];exact fin 0 1 l (qIU rfl h1 n) rfl
 |false =>
  have f1:=qIP (i:=0) rfl h1 n;rw [qaM h1];cases h2:wIs 6 [33,61] l with
  |true=>cases l with
   |nil=>cases h2
   |cons w l=>rw [qaW h2];exact fin 1 2 l (f1.trans (qIU rfl h2 n)) rfl
  |false =>
   have f2:=f1.trans (qIP (i:=1) rfl h2 n);rw [qaM h2];cases h3:wIs 6 [60] l with
   |true=>cases l with
    |nil=>cases h3
    |cons w l=>rw [qaW h3];exact fin 2 3 l (f2.trans (qIU rfl h3 n)) rfl
   |false =>
    have f3:=f2.trans (qIP (i:=2) rfl h3 n);rw [qaM h3];cases h4:wIs 6 [60,61] l with
    |true=>cases l with
     |nil=>cases h4
     |cons w l=>rw [qaW h4];exact fin 3 4 l (f3.trans (qIU rfl h4 n)) rfl
    |false =>
     have f4:=f3.trans (qIP (i:=3) rfl h4 n);rw [qaM h4];cases h5:wIs 6 [62] l with
     |true=>cases l with
      |nil=>cases h5
      |cons w l=>rw [qaW h5];exact fin 4 5 l (f4.trans (qIU rfl h5 n)) rfl
     |false =>
      have f5:=f4.trans (qIP (i:=4) rfl h5 n);rw [qaM h5];cases h6:wIs 6 [62,61] l with
      |true=>cases l with
       |nil=>cases h6
       |cons w l=>rw [qaW h6];exact fin 5 6 l (f5.trans (qIU rfl h6 n)) rfl
      |false =>
       have h:=e _ ((f5.trans (qIP (i:=5) rfl h6 n)).trans (qWC l n));simp only [opL,bst] at h
       rw [qaM h6];simp [qxJ,qHj,↓Tr.run_ite,qwi,h,qmB]
theorem qjA {l:List Wd} (hl:l.length≤65536) (n:Int):qb0 (rOf cW l) n=some (bOut vcL n (pLit l)):=by
 unfold pLit;cases h1:wIs 1 [110,111,116] l with
 |true=>cases l with
  |nil=>cases h1
  |cons w l =>
   simp only [List.length_cons] at hl;have k:=qhe (l:=l) (by omega) n
   rw [qaW h1];cases h2:qcJ l<;>simp [qb0,qmZ,↓Tr.run_ite,qaY h1,qan,qat,tm0,h2,k]
 |false =>
  rw [qaM h1];cases h2:wNm l with
  |true =>
   have k:=qhe hl n;unfold pCh;rw [h2];simp only [if_true];cases h3:qcJ l<;>simp [qb0,qmZ,↓Tr.run_ite,qa1 h1,qan,qat,tm0,h2,h3,k]
  |false =>
   rw [ch_f h2];cases h3:qcb l with
   |no r=>simp [qb0,qmZ,↓Tr.run_ite,qa1 h1,h2,h3,qax h3]
   |ok a r =>
    rw [qaA h3];cases h4:pOp r with
    |no r=>simp [qb0,qmZ,↓Tr.run_ite,qa1 h1,h2,h3,h4,qax h4]
    |ok o r =>
     rw [qaA h4];cases h5:qcb r<;>simp [qb0,qmZ,↓Tr.run_ite,qa1 h1,h2,h3,h4,h5,qan,qat]
theorem qiE {l:List Wd} (hl:l.length≤65536) (n:Int):qjJ (rOf cW l) n=some (bOut vcAc n (pAct l)):=by
 unfold pAct;cases h1:wIs 6 [43] l with
 |true=>cases l with
  |nil=>cases h1
  |cons w l =>
   simp only [List.length_cons] at hl;have k:=qhe (l:=l) (by omega) n
   rw [qaW h1];cases h2:qcJ l<;>simp [qjJ,qxf,↓Tr.run_ite,qaY h1,qan,qat,h2,k]
 |false =>
  rw [qaM h1];cases h2:qbi 6 [45] l with
  |no r=>simp [qjJ,qxf,↓Tr.run_ite,qa1 h1,h2,qax h2]
  |ok w l =>
   obtain⟨rfl,-⟩:=qmi h2;simp only [List.length_cons] at hl;have k:=qhe (l:=l) (by omega) n
   rw [qaA h2];cases h3:qcJ l<;>simp [qjJ,qxf,↓Tr.run_ite,qa1 h1,qan,qat,h2,h3,k]
attribute [simp] qFn qGQ qBq quy qB1 qAg qB0 qCe qz6 qAi qzg qAo qsN qsF qtX qtZ qtK qub qtq qtj
def qxV (n:Int) (acc:List Li) (r:List Wd):LOut:=qjK [.ptr 0 0,.mth 108 [.ptr 0 0],.sl (rOf cL acc) (.tok 0)] ⟨[[.sl (rOf cW r) .non,.int .i64 n]],[(acc.length,14,96)],[138]⟩
def qRa (n:Int) (acc:List Li) (r:List Wd):LOut:=qjK [.ptr 0 0,.mth 108 [.ptr 0 0],.sl (rOf cL acc) .full] (bst r n)
theorem qUH (n:Int) (acc:List Li) (r:List Wd) (h:acc.length+r.length≤65537):qxV n acc r=mstep (qxV n) (qnw cL 14 96 n) (qmP 14 96 n acc) acc (qeG pLit r):=by
 conv=>lhs;rw [qxV,qTj]
 unfold qeG;cases hw:wIs 6 [44] r with
 |false=>simp [qpN,↓Tr.run_ite,qaM hw,qa1 hw,qat,qnw,mstep]
 |true=>cases r with
  |nil=>cases hw
  |cons w r =>
   have hl:r.length≤65536:=by simp only [List.length_cons] at h;omega
   simp only [qaW hw,qan];cases hp:pLit r with
   |no r'=>simp [qpN,↓Tr.run_ite,qaY hw,hp,qmP,mstep,qjA hl]
   |ok a r' =>
    obtain⟨x1,⟨x2,x3⟩,x4,⟨x5,x6,x7,x8,x9⟩,⟨y5,y6,y7,y8,y9⟩⟩:=a;simp only [List.length_cons] at h
    simp [qpN,↓Tr.run_ite,qaY hw,hp,qat,mstep,qxV,qvn,qm4,qjA hl];rw [if_pos (by omega)]
    simp
theorem qRF (n:Int) (acc:List Li) (r:List Wd) (h:acc.length+r.length≤65537):qRa n acc r=mstep (qxV n) (qnY cL n) (qnM n) acc (qeG pLit r):=by
 conv=>lhs;rw [qRa,bst,qVx]
 unfold qeG;cases hw:wIs 6 [44] r with
 |false=>simp [qwk,↓Tr.run_ite,qaM hw,qa1 hw,qat,qnY,mstep]
 |true=>cases r with
  |nil=>cases hw
  |cons w r =>
   have hl:r.length≤65536:=by simp only [List.length_cons] at h;omega
   simp only [qaW hw,qan];cases hp:pLit r with
   |no r'=>simp [qwk,↓Tr.run_ite,qaY hw,hp,qnM,mstep,qjA hl]
   |ok a r' =>
    obtain⟨x1,⟨x2,x3⟩,x4,⟨x5,x6,x7,x8,x9⟩,⟨y5,y6,y7,y8,y9⟩⟩:=a;simp only [List.length_cons] at h
    simp [qwk,↓Tr.run_ite,qaY hw,hp,qat,mstep,qxV,qvn,qm4,qjA hl];rw [if_pos (by omega)]
    simp
theorem qUn {l:List Wd} (hl:l.length≤65536) (n:Int):qxF (rOf cW l) n=some (bOut (fun a=>.sl (rOf cL a) .non) n (pRow pLit l)):=by
 unfold pRow;rw [qcc];unfold qan;cases hp:pLit l with
 |no r=>simp [qxF,qDf,↓Tr.run_ite,hp,qjA hl]
 |ok a r =>
  have hr:=qq4 qpz hp;have H:=qj4 qpz (qRF n) (qUH n) l.length [a] r hr (by simp only [List.length_singleton];omega)
  simp only [List.nil_append];obtain⟨x1,⟨x2,x3⟩,x4,⟨x5,x6,x7,x8,x9⟩,⟨y5,y6,y7,y8,y9⟩⟩:=a;cases ht:qjk pLit l.length [(x1,(x2,x3),x4,(x5,x6,x7,x8,x9),(y5,y6,y7,y8,y9))] r with
  |ok bs r' =>
   rw [ht] at H;rcases H with H|H<;>simp [qxF,qDf,qeN,↓Tr.run_ite,hp,qvn,qm4,qjA hl,show qjK _ ⟨[[.sl (rOf cW r) .non,.int .i64 n]],[],[138]⟩=_ from H,qnY,qnw]
  |no r' =>
   rw [ht] at H;rcases H with H|⟨_,H⟩<;>simp [qxF,qDf,qeN,↓Tr.run_ite,hp,qvn,qm4,qjA hl,show qjK _ ⟨[[.sl (rOf cW r) .non,.int .i64 n]],[],[138]⟩=_ from H,qnM,qmP]
attribute [simp] qGX qGD qBV qsz qCB qAv qzj qBZ qCz qy8 qBs qBk qul quC qum quJ qtR qtY quq qsr
def qxP (n:Int) (acc:List Ac) (r:List Wd):LOut:=qjN [.ptr 0 0,.mth 142 [.ptr 0 0],.sl (rOf cAc acc) (.tok 0)] ⟨[[.sl (rOf cW r) .non,.int .i64 n]],[(acc.length,3,116)],[138]⟩
def qRj (n:Int) (acc:List Ac) (r:List Wd):LOut:=qjN [.ptr 0 0,.mth 142 [.ptr 0 0],.sl (rOf cAc acc) .full] (bst r n)
theorem qSp (n:Int) (acc:List Ac) (r:List Wd) (h:acc.length+r.length≤65537):qxP n acc r=mstep (qxP n) (qnw cAc 3 116 n) (qmP 3 116 n acc) acc (qeG pAct r):=by
 conv=>lhs;rw [qxP,qSE]
 unfold qeG;cases hw:wIs 6 [44] r with
 |false=>simp [qqh,↓Tr.run_ite,qaM hw,qa1 hw,qat,qnw,mstep]
 |true=>cases r with
  |nil=>cases hw
  |cons w r =>
   have hl:r.length≤65536:=by simp only [List.length_cons] at h;omega
   simp only [qaW hw,qan];cases hp:pAct r with
   |no r'=>simp [qqh,↓Tr.run_ite,qaY hw,hp,qmP,mstep,qiE hl]
   |ok a r' =>
    obtain⟨x1,⟨x2,x3⟩⟩:=a;simp only [List.length_cons] at h
    simp [qqh,↓Tr.run_ite,qaY hw,hp,qat,mstep,qxP,qAe,qso,qiE hl];rw [if_pos (by omega)]
    simp
theorem qTK (n:Int) (acc:List Ac) (r:List Wd) (h:acc.length+r.length≤65537):qRj n acc r=mstep (qxP n) (qnY cAc n) (qnM n) acc (qeG pAct r):=by
 conv=>lhs;rw [qRj,bst,qVF]
 unfold qeG;cases hw:wIs 6 [44] r with
 |false=>simp [qw7,↓Tr.run_ite,qaM hw,qa1 hw,qat,qnY,mstep]
 |true=>cases r with
  |nil=>cases hw
  |cons w r =>
   have hl:r.length≤65536:=by simp only [List.length_cons] at h;omega
   simp only [qaW hw,qan];cases hp:pAct r with
   |no r'=>simp [qw7,↓Tr.run_ite,qaY hw,hp,qnM,mstep,qiE hl]
   |ok a r' =>
    obtain⟨x1,⟨x2,x3⟩⟩:=a;simp only [List.length_cons] at h
    simp [qw7,↓Tr.run_ite,qaY hw,hp,qat,mstep,qxP,qAe,qso,qiE hl];rw [if_pos (by omega)]
    simp
theorem qUq {l:List Wd} (hl:l.length≤65536) (n:Int):qxt (rOf cW l) n=some (bOut (fun a=>.sl (rOf cAc a) .non) n (pRow pAct l)):=by
 unfold pRow;rw [qcc];unfold qan;cases hp:pAct l with
 |no r=>simp [qxt,qDm,↓Tr.run_ite,hp,qiE hl]
 |ok a r =>
  have hr:=qq4 qty hp;have H:=qj4 qty (qTK n) (qSp n) l.length [a] r hr (by simp only [List.length_singleton];omega)
  simp only [List.nil_append];obtain⟨x1,⟨x2,x3⟩⟩:=a;cases ht:qjk pAct l.length [(x1,(x2,x3))] r with
  |ok bs r' =>
   rw [ht] at H;rcases H with H|H<;>simp [qxt,qDm,qeO,↓Tr.run_ite,hp,qAe,qso,qiE hl,show qjN _ ⟨[[.sl (rOf cW r) .non,.int .i64 n]],[],[138]⟩=_ from H,qnY,qnw]
  |no r' =>
   rw [ht] at H;rcases H with H|⟨_,H⟩<;>simp [qxt,qDm,qeO,↓Tr.run_ite,hp,qAe,qso,qiE hl,show qjN _ ⟨[[.sl (rOf cW r) .non,.int .i64 n]],[],[138]⟩=_ from H,qnM,qmP]
theorem qDp {l:List Wd} (hl:l.length≤65536) (n:Int):qdL (rOf cW l) n=some (bOut vcRu n (qgj l)):=by
 have k1:=qhe hl n;unfold qgj;cases h1:qcJ l with
 |no r=>simp [qdL,qme,↓Tr.run_ite,k1,h1,qax h1]
 |ok a r =>
  have hr:=qq4 good_atom h1;rw [qaA h1];cases h2:wIs 6 [58,45] r with
  |true=>cases r with
   |nil=>cases h2
   |cons w r =>
    simp only [List.length_cons] at hr;have k2:=qUn (l:=r) (by omega) n
    rw [qaW h2];cases h3:pRow pLit r with
    |no r=>simp [qdL,qme,↓Tr.run_ite,k1,h1,qaY h2,k2,h3,qax h3]
    |ok b r =>
     rw [qaA h3];unfold pDot;cases h4:qbi 6 [46] r<;>simp [qdL,qme,↓Tr.run_ite,k1,h1,qaY h2,k2,h3,h4,qan,qat]
  |false =>
   rw [qaM h2];unfold pDot;cases h4:qbi 6 [46] r<;>simp [qdL,qme,↓Tr.run_ite,k1,h1,qa1 h2,h4,qan,qat]
theorem qLk {w:Wd} {l:List Wd} (hl:l.length≤65536) (n:Int):qeC (rOf cW (w::l)) n=some (bOut vcD n (qDX (w::l))):=by
 have e:qDX (w::l)=qan qmy (fun x=>qan (qkN pTyp) fun t=>pDot (x,decide (w.2.1=[98,97,115,101]),t)) l:=rfl
 rw [e];cases h1:qmy l with
 |no r=>simp [qeC,qpG,↓Tr.run_ite,h1,qax h1]
 |ok a r =>
  have hr:=qq4 qez h1;have k2:=qUK (l:=r) (by omega) n
  rw [qaA h1];cases h3:qkN pTyp r with
  |no r=>simp [qeC,qpG,↓Tr.run_ite,h1,k2,h3,qax h3]
  |ok b r =>
   rw [qaA h3];unfold pDot;cases h4:qbi 6 [46] r<;>simp [qeC,qpG,↓Tr.run_ite,h1,k2,h3,h4,qan,qat]
theorem qUt {w:Wd} {l:List Wd} (hl:l.length≤65536) (n:Int):qp0 (rOf cW (w::l)) n=some (bOut vcE n (pOn (w::l))):=by
 have e:pOn (w::l)=qan qmy (fun x=>qan (qkN qft) fun ps=>pIf 6 [58] (fun _=>qan (pRow pAct) fun b=>pDot (x,ps,b)) (pDot (x,ps,[]))) l:=rfl
 rw [e];cases h1:qmy l with
 |no r=>simp [qp0,qu2,↓Tr.run_ite,h1,qax h1]
 |ok a r =>
  have hr:=qq4 qez h1;have k2:=qTt (l:=r) (by omega) n
  rw [qaA h1];cases h3:qkN qft r with
  |no r=>simp [qp0,qu2,↓Tr.run_ite,h1,k2,h3,qax h3]
  |ok b r =>
   have hr3:=qq4 (qhy qhR) h3;rw [qaA h3];cases h5:wIs 6 [58] r with
   |true=>cases r with
    |nil=>cases h5
    |cons w r =>
     simp only [List.length_cons] at hr3;have k6:=qUq (l:=r) (by omega) n
     rw [qaW h5];cases h6:pRow pAct r with
     |no r=>simp [qp0,qu2,↓Tr.run_ite,h1,k2,h3,qaY h5,k6,h6,qax h6]
     |ok b r =>
      rw [qaA h6];unfold pDot;cases h4:qbi 6 [46] r<;>simp [qp0,qu2,↓Tr.run_ite,h1,k2,h3,qaY h5,k6,h6,h4,qan,qat]
   |false =>
    rw [qaM h5];unfold pDot;cases h4:qbi 6 [46] r<;>simp [qp0,qu2,↓Tr.run_ite,h1,k2,h3,qa1 h5,h4,qan,qat]
end Go.Pv
set_option maxHeartbeats 8000000
set_option maxRecDepth 200000
set_option linter.unusedSimpArgs false
set_option linter.unusedVariables false
namespace Go.Pv
open Go Go.Proofs
def AtI (L:List Wd) (i:Int) (l:List Wd):Prop:=∃ m:Nat,i=m∧L.drop m=l∧m≤L.length
@[simp] def qst (L:List Wd) (i n:Int):Store:=⟨[[.sl (rOf cW L) .non,.int .i64 i,.int .i64 n,.bool false,.int .i64 0]],[],[76]⟩
@[simp] def qsb (L:List Wd) (i n a:Int):Store:=⟨[[.sl (rOf cW L) .non,.int .i64 i,.int .i64 n,.bool true,.int .i64 a]],[],[76]⟩
def QOk {α:Type} (f:α→PV) (n:Int) (L:List Wd):Rs α→Option (PR×Store)→Prop
 |.ok a r,W=>∃ i,AtI L i r∧W=some (.val (f a),qst L i n)
 |.no r,W=>∃ a i,W=some (.val (f a),qsb L i n (plc n r))
section
variable {L l : List Wd} {i : Int} {w : Wd}
theorem AtI.step (h:AtI L i (w::l)) (hL:L.length≤65536):AtI L (iAdd .i64 i 1) l:=by
 obtain⟨m,rfl,hd,hm⟩:=h;have hlt:m < L.length:=by
  have:=congrArg List.length hd;simp only [List.length_drop,List.length_cons] at this;omega
 refine⟨m+1,qbS (by omega),?_,hlt⟩
 rw [← List.drop_drop,hd];rfl
theorem AtI.cons (h:AtI L i (w::l)):∃ (m:Nat) (hlt:m < L.length),i=m∧L[m]=w:=by
 obtain⟨m,rfl,hd,hm⟩:=h;have hlt:m < L.length:=by
  have:=congrArg List.length hd;simp only [List.length_drop,List.length_cons] at this;omega
 refine⟨m,hlt,rfl,?_⟩;rw [List.drop_eq_getElem_cons hlt] at hd;exact (List.cons.inj hd).1
theorem AtI.nil (h:AtI L i []):i=L.length:=by
 obtain⟨m,rfl,hd,hm⟩:=h;have:=List.drop_eq_nil_iff.1 hd;omega
end
attribute [simp] qDI qtW qv5 qBu qdh qbK qbH qbb qvA qoO qtm qqO qe0 qe5 qc3 qeb qea qdM qf9 qem qeu qh4 qii qib qhP qq7 qrR qcA qcu qcv qw4 qwx qhl qhv qkP qj3 qde qAL qkD qkT qwm qdq qoT qkC qhY qhI qd1 qfB qf8 qbI qcT qqW qq1 qi0 qhd qlI qlt qlD qnk qj1 qo7 qkF qjW qfi qfe qe3 qfh qfk qe6 qe4 qhc qie qfg qfa qhJ qha qh2 qlj qh6 qhL qhW qlx qic
@[simp] theorem qres_law (t:qU):qIb t=some (.bool (resv t)):=by
 by_cases h2:t=[98,97,115,101]<;>by_cases h3:t=[118,105,101,119]<;>by_cases h4:t=[111,110]<;>by_cases h5:t=[110,111,116]<;>simp [qIb,qFW,↓Tr.run_ite,resv,h2,h3,h4,h5]
section
variable {L l : List Wd} {i : Int} (h : AtI L i l) (n : Int)
include h
theorem qLN:qxd (rOf cW L) i n=some (.int .i64 (plc n l)):=by
 cases l with
 |nil=>have:=h.nil;subst this;simp [qxd,qs8,↓Tr.run_ite,plc]
 |cons w l =>
  obtain⟨m,hlt,rfl,hw⟩:=h.cons;have h2:(m:Int) < (L.length:Int):=by omega
  simp [qxd,qs8,↓Tr.run_ite,plc,hlt,hw,h2]
theorem qb1 (k:Int) (t:qU):quR (rOf cW L) i n k t=some (.bool (wIs k t l)):=by
 cases l with
 |nil=>have:=h.nil;subst this;simp [quR,qsZ,↓Tr.run_ite,wIs]
 |cons w l =>
  obtain⟨m,hlt,rfl,hw⟩:=h.cons;have h2:(m:Int) < (L.length:Int):=by omega
  by_cases h3:w.1=k<;>by_cases h4:t=[]<;>simp [quR,qsZ,↓Tr.run_ite,wIs,hlt,hw,h2,h3,h4]
theorem qC6:qwV (rOf cW L) i n=some (.bool (wNm l)):=by
 have k:=qb1 h n 1 [];cases hi:wIs 1 [] l with
 |false =>
  have:wNm l=false:=by
   cases l with
   |nil=>rfl
   |cons w l =>
    simp only [wIs,decide_true,Bool.true_or,Bool.and_true,decide_eq_false_iff_not] at hi;simp [wNm,hi]
  simp [qwV,quG,↓Tr.run_ite,this,k,hi]
 |true=>cases l with
  |nil=>cases hi
  |cons w l =>
   have h1:w.1=1:=by simpa [wIs] using hi
   obtain⟨m,hlt,rfl,hw⟩:=h.cons;simp [qwV,quG,↓Tr.run_ite,k,hi,hlt,hw,wNm,h1]
theorem qls:qiG (rOf cW L) i n=some (.val (.tup []),qsb L i n (plc n l)):=by
 have k:=qLN h n;simp [qiG,qxr,↓Tr.run_ite,k]
variable (hL : L.length ≤ 65536)
include hL
theorem qo1 (k:Int) (t:qU):QOk vcW n L (qbi k t l) (qbE k t (rOf cW L) i n):=by
 have e:=qb1 h n k t;cases hi:wIs k t l with
 |false =>
  have f:=qls h n;rw [show qbi k t l=.no l from qaM hi]
  refine⟨(0,[],(0,0,[]),0),i,?_⟩;simp [qbE,quH,↓Tr.run_ite,e,hi,f]
 |true=>cases l with
  |nil=>cases hi
  |cons w l =>
   rw [show qbi k t (w::l)=.ok w l from qaW hi]
   refine⟨iAdd .i64 i 1,h.step hL,?_⟩;obtain⟨m,hlt,rfl,hw⟩:=h.cons;simp [qbE,quH,↓Tr.run_ite,e,hi,hlt,hw]
theorem qoD (t:qU):QOk (fun _=>.tup []) n L (qbi 6 t l) (qka t (rOf cW L) i n):=by
 have k:=qo1 h n hL 6 t;cases h1:qbi 6 t l with
 |ok w r =>
  rw [h1] at k;obtain⟨i',hi,k⟩:=k;exact⟨i',hi,by simp [qka,qtl,↓Tr.run_ite,k]⟩
 |no r =>
  rw [h1] at k;obtain⟨a,i',k⟩:=k;exact⟨a,i',by simp [qka,qtl,↓Tr.run_ite,k]⟩
theorem qIK:QOk .str n L (qmy l) (qef (rOf cW L) i n):=by
 have k:=qC6 h n;unfold qmy;cases h1:wNm l with
 |false =>
  have f:=qls h n;rw [ch_f h1];exact⟨[],i,by simp [qef,qp1,↓Tr.run_ite,k,h1,f]⟩
 |true=>cases l with
  |nil=>cases h1
  |cons w l =>
   have e:pCh wNm (qan qDo fun w=>qat w.2.1) qmB (w::l)=.ok w.2.1 l:=if_pos h1
   have h2:wIs 1 [] (w::l)=true:=by
    simp only [wNm,Bool.and_eq_true,decide_eq_true_eq] at h1;simp [wIs,h1.1]
   have k2:=qo1 h n hL 1 [];rw [show qbi 1 [] (w::l)=.ok w l from qaW h2] at k2
   obtain⟨i',hi,k2⟩:=k2;rw [e];exact⟨i',hi,by simp [qef,qp1,↓Tr.run_ite,k,h1,k2]⟩
theorem qvm:QOk vcM n L (qcb l) (qbD (rOf cW L) i n):=by
 have e2:=qb1 h n 2 [];have e4:=qb1 h n 4 [];have e5:=qb1 h n 5 [];have tk:∀ {k:Int} {w:Wd} {l':List Wd},l=w::l'→wIs k [] l=true→∃ i',AtI L i' l'∧qbE k [] (rOf cW L) i n=some (.val (vcW w),qst L i' n):=by
  intro k w l' e hw;have k2:=qo1 h n hL k [];subst e;rw [show qbi k [] (w::l')=.ok w l' from qaW hw] at k2
  exact k2
 unfold qcb;cases h2:wIs 2 [] l with
 |true=>cases l with
  |nil=>cases h2
  |cons w l =>
   obtain⟨i',hi,k2⟩:=tk rfl h2;rw [qaW h2];exact⟨i',hi,by simp [qbD,qjz,↓Tr.run_ite,e2,h2,k2]⟩
 |false =>
  rw [qaM h2];cases h4:wIs 4 [] l with
  |true=>cases l with
   |nil=>cases h4
   |cons w l =>
    obtain⟨i',hi,k2⟩:=tk rfl h4;rw [qaW h4];exact⟨i',hi,by simp [qbD,qjz,↓Tr.run_ite,e2,h2,e4,h4,k2]⟩
  |false =>
   rw [qaM h4];cases h5:wIs 5 [] l with
   |true=>cases l with
    |nil=>cases h5
    |cons w l =>
     obtain⟨i',hi,k2⟩:=tk rfl h5;rw [qaW h5];exact⟨i',hi,by simp [qbD,qjz,↓Tr.run_ite,e2,h2,e4,h4,e5,h5,k2]⟩
   |false =>
    rw [qaM h5];cases h3:wIs 3 [] l with
    |true=>cases l with
     |nil=>cases h3
     |cons w l =>
      obtain⟨i',hi,k2⟩:=tk rfl h3;rw [qaW h3];exact⟨i',hi,by simp [qbD,qjz,↓Tr.run_ite,e2,h2,e4,h4,e5,h5,k2]⟩
    |false =>
     have k2:=qo1 h n hL 3 [];rw [show qbi 3 [] l=.no l from qaM h3] at k2
     obtain⟨a,i',k2⟩:=k2;rw [qaM h3];exact⟨(3,[],0,0,[]),i',by simp [qbD,qjz,↓Tr.run_ite,e2,h2,e4,h4,e5,h5,k2]⟩
end
section
variable (L : List Wd) (i n a : Int)
@[simp] theorem qnextb_law (k:Int) (t:qU):qtn (rOf cW L) i n a k t=some (.bool false):=by simp [qtn,qwu,↓Tr.run_ite]
@[simp] theorem qnameb_law:qtB (rOf cW L) i n a=some (.bool false):=by simp [qtB,qvh,↓Tr.run_ite]
@[simp] theorem qfaultb_law:qpi (rOf cW L) i n a=some (.val (.tup []),qsb L i n a):=by simp [qpi,qqY,↓Tr.run_ite]
@[simp] theorem qtakeb_law (k:Int) (t:qU):qeh k t (rOf cW L) i n a=some (.val (vcW (0,[],(0,0,[]),0)),qsb L i n a):=by simp [qeh,qvy,↓Tr.run_ite]
@[simp] theorem qmarkb_law (t:qU):qte t (rOf cW L) i n a=some (.val (.tup []),qsb L i n a):=by simp [qte,qv2,↓Tr.run_ite]
@[simp] theorem qtnameb_law:qkr (rOf cW L) i n a=some (.val (.str []),qsb L i n a):=by simp [qkr,qqL,↓Tr.run_ite]
@[simp] theorem qtermb_law:qeW (rOf cW L) i n a=some (.val (vcM (3,[],0,0,[])),qsb L i n a):=by simp [qeW,quQ,↓Tr.run_ite]
end
end Go.Pv
set_option maxHeartbeats 8000000
set_option maxRecDepth 200000
set_option linter.unusedSimpArgs false
set_option linter.unusedVariables false
namespace Go.Pv
open Go Go.Proofs
def qF0 {α γ:Type} (L:List Wd) (n:Int) (V G:List α→Int→γ) (B:List α→Int→Int→γ) (acc:List α) (i:Int):Rs α→Prop
 |.no r=>∃ b i',V acc i=B (acc++[b]) i' (plc n r)
 |.ok a r=>match wIs 6 [44] r with
  |true=>∃ i',AtI L i' (r.drop 1)∧V acc i=V (acc++[a]) i'
  |false=>∃ i',AtI L i' r∧V acc i=G (acc++[a]) i'
def qQP {α γ:Type} (L:List Wd) (n:Int) (V G:List α→Int→γ) (B:List α→Int→Int→γ) (acc:List α) (i:Int):Rs α→Prop
 |.no r=>∃ b i',V acc i=B (acc++[b]) i' (plc n r)
 |.ok a r=>match wIs 6 [44] r with
  |true=>match wIs 6 [41] (r.drop 1) with
   |true=>∃ i',V acc i=B (acc++[a]) i' (plc n (r.drop 1))
   |false=>∃ i',AtI L i' (r.drop 1)∧V acc i=V (acc++[a]) i'
  |false=>∃ i',AtI L i' r∧V acc i=G (acc++[a]) i'
section
variable {α γ : Type} {p : Ps α} (hp : Good p) {n : Int} {L : List Wd} {V G : List α → Int → γ} {B : List α → Int → Int → γ}
include hp
theorem qz2 (E:∀ acc i l,AtI L i l→acc.length+l.length≤65537→qF0 L n V G B acc i (p l)) :
  ∀ (m:Nat) (acc:List α) (l:List Wd) (i:Int),AtI L i l→l.length < m→acc.length+l.length≤65537→match pRep p m acc l with
   |.ok bs r=>∃ i',AtI L i' r∧V acc i=G bs i'
   |.no r=>∃ bs i',V acc i=B bs i' (plc n r)
 |0,_,_,_,_,h,_=>absurd h (Nat.not_lt_zero _)
 |m+1,acc,l,i,hi,h,hb=>by
  have e:=E acc i l hi hb;rw [qcc];cases h1:p l with
  |no r =>
   rw [h1] at e;rw [qax h1];obtain⟨b,i',e⟩:=e;exact⟨_,i',e⟩
  |ok a r =>
   have hr:=qq4 hp h1;rw [h1] at e;rw [qaA h1];unfold qjk;cases hw:wIs 6 [44] r with
   |false =>
    simp only [qF0,qQP,hw] at e;rw [qaM hw];exact e
   |true=>cases r with
    |nil=>cases hw
    |cons w r =>
     simp only [qF0,qQP,hw] at e;obtain⟨i',k1,k2⟩:=e;rw [qaW hw,k2];simp only [List.length_cons] at hr;exact qz2 E m (acc++[a]) r i' k1 (by omega) (by simp only [List.length_append,List.length_singleton];omega)
end
attribute [simp] qhB qhK qc8 qf2 qfu qfM qen qf6 qei qyi qCi qAN qAM qg5 qB7 qk6 qih qn8 qnd qnX qnb qgp qjr qi6 qgm qgC
def qaS (b:Bool) (L:List Wd) (n a:Int) (s:qU) (acc:List Tm) (i:Int):Store:=⟨[[.sl (rOf cW L) .non,.int .i64 i,.int .i64 n,.bool b,.int .i64 a],[.str [],.sl [] .full],[.str s,.sl (rOf cM acc) (.tok 0)]],[(acc.length,5,94)],[76,48,48]⟩
def qaV (L:List Wd) (n:Int) (s:qU) (acc:List Tm) (i:Int):LOut:=qbT [.ptr 0 0,.ptr 1 0,.ptr 2 0] (qaS false L n 0 s acc i)
theorem qNa (L:List Wd) (n a:Int) (s:qU) (acc:List Tm) (i:Int):qbT [.ptr 0 0,.ptr 1 0,.ptr 2 0] (qaS true L n a s acc i)=some (.exit 0,[.ptr 0 0,.ptr 1 0,.ptr 2 0],qaS true L n a s acc i):=by
 unfold qaS;rw [qPj];simp [qu8,↓Tr.run_ite]
def qaG (L:List Wd) (n:Int) (s:qU) (acc:List Tm) (i:Int):LOut:=some (.exit 0,[.ptr 0 0,.ptr 1 0,.ptr 2 0],qaS false L n 0 s acc i)
def qaB (L:List Wd) (n:Int) (s:qU) (acc:List Tm) (i a:Int):LOut:=some (.exit 0,[.ptr 0 0,.ptr 1 0,.ptr 2 0],qaS true L n a s acc i)
theorem qSi {L:List Wd} (hL:L.length≤65536) (n:Int) (s:qU) (acc:List Tm) (i:Int) (l:List Wd) (h:AtI L i l) (hb:acc.length+l.length≤65537):qF0 L n (qaV L n s) (qaG L n s) (qaB L n s) acc i (qcb l):=by
 have k:=qvm h n hL;cases h1:qcb l with
 |no r =>
  rw [h1] at k;obtain⟨⟨x1,x2,x3,x4,x5⟩,i',k⟩:=k;refine⟨(x1,x2,x3,x4,x5),i',?_⟩;unfold qaV qaB qaS;rw [qwL];simp [qhF,↓Tr.run_ite,k];rw [if_pos (by omega)]
  rfl
 |ok a r =>
  rw [h1] at k;obtain⟨i',hi,k⟩:=k;obtain⟨x1,x2,x3,x4,x5⟩:=a;have e:=qb1 hi n 6 [44];unfold qF0;cases hw:wIs 6 [44] r with
  |false =>
   simp only [hw];refine⟨i',hi,?_⟩;unfold qaV qaG qaS;rw [qwL];simp [qhF,↓Tr.run_ite,k,e,hw];rw [if_pos (by omega)]
   rfl
  |true=>cases r with
   |nil=>cases hw
   |cons w r =>
    simp only [hw];refine⟨_,hi.step hL,?_⟩;unfold qaV qaS
    conv=>lhs;rw [qwL]
    simp [qhF,↓Tr.run_ite,k,e,hw];rw [if_pos (by omega)]
    simp
theorem qpI {L l:List Wd} {i:Int} (h:AtI L i l) (n:Int) (hL:L.length≤65536):QOk vcA n L (qcJ l) (qcE (rOf cW L) i n):=by
 have bad:=fun i a s acc=>(show qbT _ _=_ from qNa L n a s acc i)
 simp only [qaS] at bad;have bad0:=fun i a s=>bad i a s []
 simp only [qiU,List.length_nil] at bad0;have k1:=qIK h n hL;unfold qcJ qkN;cases h1:qmy l with
 |no r =>
  rw [h1] at k1;obtain⟨s,i1,k1⟩:=k1;rw [qax h1];exact⟨(s,[]),i1,by simp [qcE,qgN,qjF,↓Tr.run_ite,k1,bad0]⟩
 |ok s l =>
  rw [h1] at k1;obtain⟨i1,hi1,k1⟩:=k1;rw [qaA h1];have k2:=qoD hi1 n hL [40];cases h2:qbi 6 [40] l with
  |no r =>
   rw [h2] at k2;obtain⟨a,i2,k2⟩:=k2;rw [qax (qax h2)];exact⟨(s,[]),i2,by simp [qcE,qgN,qjF,↓Tr.run_ite,k1,k2,bad0]⟩
  |ok w l =>
   rw [h2] at k2;obtain⟨i2,hi2,k2⟩:=k2;have k3:=qb1 hi2 n 6 [41];have e0:∀ f:List Tm→Ps At,qan (qan (qbi 6 [40]) fun _=>pIf 6 [41] (fun _=>qat []) (qan (pRow qcb) fun l=>qan (qbi 6 [41]) fun _=>qat l)) f (w::l)=qan (pIf 6 [41] (fun _=>qat []) (qan (pRow qcb) fun l=>qan (qbi 6 [41]) fun _=>qat l)) f l:=by
    intro f;obtain⟨e,_⟩:=qmi h2;have:qbi 6 [40] (w::l)=.ok w l:=by rw [← e];exact h2
    unfold qan;rw [this]
   obtain⟨e,_⟩:=qmi h2;rw [e,e0];cases h3:wIs 6 [41] l with
   |true=>cases l with
    |nil=>cases h3
    |cons w l =>
     rw [qaA (show pIf 6 [41] _ _ (w::l)=.ok [] l from qaW h3)]
     exact⟨_,hi2.step hL,by simp [qcE,qgN,↓Tr.run_ite,k1,k2,k3,h3]⟩
   |false =>
    have hl:l.length≤65536:=by
     obtain⟨m,_,hd,hm⟩:=hi2;rw [← hd,List.length_drop];omega
    have k4:=qz2 qhU (n:=n) (L:=L) (qSi hL n s) (l.length+1) [] l i2 hi2 (Nat.lt_succ_self _) (by simp only [List.length_nil];omega)
    have e1:pIf 6 [41] (fun _=>qat []) (qan (pRow qcb) fun l=>qan (qbi 6 [41]) fun _=>qat l) l=qan (pRow qcb) (fun l=>qan (qbi 6 [41]) fun _=>qat l) l:=qaM h3
    cases h4:pRow qcb l with
    |no r =>
     rw [show pRep qcb (l.length+1) [] l=.no r from h4] at k4
     obtain⟨bs,i4,k4⟩:=k4;rw [qax (e1.trans (qax h4))];have k4:qbT _ _=_:=k4;simp only [qaG,qaB,qaS,qiU,List.length_nil] at k4;exact⟨(s,bs),i4,by simp [qcE,qgN,qbW,↓Tr.run_ite,k1,k2,k3,h3,k4]⟩
    |ok bs r =>
     rw [show pRep qcb (l.length+1) [] l=.ok bs r from h4] at k4
     obtain⟨i4,hi4,k4⟩:=k4;have k4:qbT _ _=_:=k4;simp only [qaG,qaB,qaS,qiU,List.length_nil] at k4;have k5:=qoD hi4 n hL [41];cases h5:qbi 6 [41] r with
     |no r =>
      rw [h5] at k5;obtain⟨a,i5,k5⟩:=k5;rw [qax (e1.trans ((qaA h4).trans (qax h5)))];exact⟨(s,bs),i5,by simp [qcE,qgN,qbW,↓Tr.run_ite,k1,k2,k3,h3,k4,k5]⟩
     |ok w r =>
      rw [h5] at k5;obtain⟨i5,hi5,k5⟩:=k5;rw [qaA (e1.trans ((qaA h4).trans (qaA h5)))];exact⟨i5,hi5,by simp [qcE,qgN,qbW,↓Tr.run_ite,k1,k2,k3,h3,k4,k5]⟩
@[simp] theorem qatomb_law (L:List Wd) (i n a:Int):qll (rOf cW L) i n a=some (.val (vcA ([],[])),qsb L i n a):=by
 have bad:=(show qbT _ _=_ from qNa L n a [] [] i)
 simp only [qaS,qiU,List.length_nil] at bad;simp [qll,qwU,qjF,↓Tr.run_ite,bad]
end Go.Pv
set_option maxHeartbeats 8000000
set_option maxRecDepth 200000
set_option linter.unusedSimpArgs false
set_option linter.unusedVariables false
namespace Go.Pv
open Go Go.Proofs
attribute [simp] qFk qGf qtD qta qtM quY qz4 qCc qG8 qy9 qCx qA5 qqq qtC qsU qvx qvP qlr qqc qkE qzd qB2 qk4 qpM qpw qqC qoF qpT qpg qqo qpx qpV qqk qqw qpK qpv qqy qpW qpY qtP qtE qtV qsp qoI qoo qoq qpF qp9 qou qoU qph qsG qsq
def qoS (b:Bool) (L:List Wd) (n a i:Int):Store:=⟨[[.sl (rOf cW L) .non,.int .i64 i,.int .i64 n,.bool b,.int .i64 a]],[],[76]⟩
def qoV (b:Bool) (j:Nat) (L:List Wd) (n a i:Int):LOut:=qhA [.ptr 0 0,.sl (rOf cS opL) .full,.int .i64 j] (qoS b L n a i)
theorem qQV {j:Nat} {t:List UInt8} (h:opL[j]?=some t):∃ h:j < opL.length,opL[j]=t∧j < 6:=by
 obtain⟨h3,h4⟩:=List.getElem?_eq_some_iff.1 h;exact⟨h3,h4,h3⟩
section
variable {L l : List Wd} {i : Int} {w : Wd} (n : Int)
theorem qIZ {j:Nat} {t:List UInt8} (h:opL[j]?=some t) (hi:AtI L i l) (hw:wIs 6 t l=true):qoV false j L n 0 i=some (.ret,[.int .i64 (j+1:Nat)],qoS false L n 0 (iAdd .i64 i 1)):=by
 obtain⟨h3,h4,h5⟩:=qQV h;have h2:((j:Nat):Int) < 6:=by omega
 have h6:((j:Nat):Int) < (opL.length:Int):=by omega
 have e:=qb1 hi n 6 t;unfold qoV qoS;rw [qOi];simp [qvq,↓Tr.run_ite,h3,h4,e,hw,qbS (show j < 9223372036854775807 by omega),h6]
theorem qIN {j:Nat} {t:List UInt8} (h:opL[j]?=some t) (hi:AtI L i l) (hw:wIs 6 t l=false):qoV false j L n 0 i=qoV false (j+1) L n 0 i:=by
 obtain⟨h3,h4,h5⟩:=qQV h;have h6:((j:Nat):Int) < (opL.length:Int):=by omega
 have e:=qb1 hi n 6 t;unfold qoV qoS
 conv=>lhs;rw [qOi]
 simp [qvq,↓Tr.run_ite,h3,h4,e,hw,qbS (show j < 9223372036854775807 by omega),h6]
theorem qWf (hi:AtI L i l):qoV false 6 L n 0 i=some (.exit 0,[.ptr 0 0],qoS false L n 0 i):=by
 unfold qoV qoS;rw [qOi];have:opL.length=6:=rfl;simp [qvq,↓Tr.run_ite,this]
theorem qIJ (a:Int) {j:Nat} (h:j < 6):qoV true j L n a i=qoV true (j+1) L n a i:=by
 have h3:j < opL.length:=h;have h6:((j:Nat):Int) < (opL.length:Int):=by omega
 unfold qoV qoS
 conv=>lhs;rw [qMW]
 simp [qtg,↓Tr.run_ite,h3,qbS (show j < 9223372036854775807 by omega),h6]
theorem qWa (a:Int):qoV true 6 L n a i=some (.exit 0,[.ptr 0 0],qoS true L n a i):=by
 unfold qoV qoS;rw [qMW];have:opL.length=6:=rfl;simp [qtg,↓Tr.run_ite,this]
theorem qGc:rOf cS opL=[[.str [61]],[.str [33,61]],[.str [60]],[.str [60,61]],[.str [62]],[.str [62,61]]]:=rfl
@[simp] theorem qopb_law (L:List Wd) (i n a:Int):qCU (rOf cW L) i n a=some (.val (.int .i64 0),qsb L i n a):=by
 have h:qhA _ _=_:=(qIJ (L:=L) (i:=i) n a (j:=0) (by omega)).trans ((qIJ n a (j:=1) (by omega)).trans ((qIJ n a (j:=2) (by omega)).trans ((qIJ n a (j:=3) (by omega)).trans ((qIJ n a (j:=4) (by omega)).trans ((qIJ n a (j:=5) (by omega)).trans (qWa n a))))))
 simp only [qoS,qGc,Int.ofNat_zero,Int.natCast_zero] at h
 simp [-qGb,-qdI,qCU,qF6,qqJ,↓Tr.run_ite,h]
theorem qTA (hi:AtI L i l) (hL:L.length≤65536):QOk (.int .i64) n L (pOp l) (qvS (rOf cW L) i n):=by
 have fin:∀ {j:Nat} {a:Int} {w:Wd} {r:List Wd},l=w::r→qoV false 0 L n 0 i=some (.ret,[.int .i64 ((j+1:Nat):Int)],qoS false L n 0 (iAdd .i64 i 1))→((j+1:Nat):Int)=a→QOk (.int .i64) n L (.ok a r) (qvS (rOf cW L) i n):=by
  intro j a w r e h ha;subst e;have h:qhA _ _=_:=h;simp only [qoS,qGc,Int.natCast_zero] at h
  exact⟨_,hi.step hL,by simp [-qGb,-qdI,qvS,qHT,↓Tr.run_ite,qvB,h,← ha]⟩
 unfold pOp;cases h1:wIs 6 [61] l with
 |true=>cases l with
  |nil=>cases h1
  |cons w l=>rw [qaW h1];exact fin (j:=0) rfl (qIZ n rfl hi h1) rfl
 |false =>
  have f1:=qIN n (j:=0) rfl hi h1;rw [qaM h1];cases h2:wIs 6 [33,61] l with
  |true=>cases l with
   |nil=>cases h2
   |cons w l=>rw [qaW h2];exact fin (j:=1) rfl (f1.trans (qIZ n rfl hi h2)) rfl
  |false =>
   have f2:=f1.trans (qIN n (j:=1) rfl hi h2);rw [qaM h2];cases h3:wIs 6 [60] l with
   |true=>cases l with
    |nil=>cases h3
    |cons w l=>rw [qaW h3];exact fin (j:=2) rfl (f2.trans (qIZ n rfl hi h3)) rfl
   |false =>
    have f3:=f2.trans (qIN n (j:=2) rfl hi h3);rw [qaM h3];cases h4:wIs 6 [60,61] l with
    |true=>cases l with
     |nil=>cases h4
     |cons w l=>rw [qaW h4];exact fin (j:=3) rfl (f3.trans (qIZ n rfl hi h4)) rfl
    |false =>
     have f4:=f3.trans (qIN n (j:=3) rfl hi h4);rw [qaM h4];cases h5:wIs 6 [62] l with
     |true=>cases l with
      |nil=>cases h5
      |cons w l=>rw [qaW h5];exact fin (j:=4) rfl (f4.trans (qIZ n rfl hi h5)) rfl
     |false =>
      have f5:=f4.trans (qIN n (j:=4) rfl hi h5);rw [qaM h5];cases h6:wIs 6 [62,61] l with
      |true=>cases l with
       |nil=>cases h6
       |cons w l=>rw [qaW h6];exact fin (j:=5) rfl (f5.trans (qIZ n rfl hi h6)) rfl
      |false =>
       have h:qhA _ _=_:=(f5.trans (qIN n (j:=5) rfl hi h6)).trans (qWf n hi);simp only [qoS,qGc,Int.natCast_zero] at h
       have f:=qls hi n;rw [qaM h6];exact⟨0,i,by simp [-qGb,-qdI,qvS,qHT,↓Tr.run_ite,qvB,h,f]⟩
theorem qPu (h:AtI L i l) (n:Int) (hL:L.length≤65536):QOk vcL n L (pLit l) (qa0 (rOf cW L) i n):=by
 have e1:=qb1 h n 1 [110,111,116];unfold pLit;cases h1:wIs 1 [110,111,116] l with
 |true=>cases l with
  |nil=>cases h1
  |cons w l =>
   have k:=qpI (h.step hL) n hL;rw [qaW h1];cases h2:qcJ l with
   |no r =>
    rw [h2] at k;obtain⟨⟨x1,x2⟩,i',k⟩:=k;rw [qax h2];exact⟨(2,(x1,x2),0,tm0,tm0),i',by simp [qa0,qgS,↓Tr.run_ite,e1,h1,k,tm0]⟩
   |ok a r =>
    rw [h2] at k;obtain⟨i',hi,k⟩:=k;rw [qaA h2];exact⟨i',hi,by simp [qa0,qgS,↓Tr.run_ite,e1,h1,k,tm0]⟩
 |false =>
  have e2:=qC6 h n;rw [qaM h1];cases h2:wNm l with
  |true =>
   have k:=qpI h n hL;rw [show pCh wNm _ _ l=_ from if_pos h2]
   cases h3:qcJ l with
   |no r =>
    rw [h3] at k;obtain⟨⟨x1,x2⟩,i',k⟩:=k;rw [qax h3];exact⟨(1,(x1,x2),0,tm0,tm0),i',by simp [qa0,qgS,↓Tr.run_ite,e1,h1,e2,h2,k,tm0]⟩
   |ok a r =>
    rw [h3] at k;obtain⟨i',hi,k⟩:=k;rw [qaA h3];exact⟨i',hi,by simp [qa0,qgS,↓Tr.run_ite,e1,h1,e2,h2,k,tm0]⟩
  |false =>
   rw [ch_f h2];have k:=qvm h n hL;cases h3:qcb l with
   |no r =>
    rw [h3] at k;obtain⟨⟨x1,x2,x3,x4,x5⟩,i',k⟩:=k;rw [qax h3];exact⟨(3,([],[]),0,(x1,x2,x3,x4,x5),(3,[],0,0,[])),i',by simp [qa0,qgS,↓Tr.run_ite,e1,h1,e2,h2,k,tm0]⟩
   |ok a r =>
    rw [h3] at k;obtain⟨i',hi,k⟩:=k;rw [qaA h3];have k2:=qTA n hi hL;cases h4:pOp r with
    |no r =>
     rw [h4] at k2;obtain⟨x,i2,k2⟩:=k2;rw [qax h4];exact⟨(3,([],[]),x,a,(3,[],0,0,[])),i2,by simp [qa0,qgS,↓Tr.run_ite,e1,h1,e2,h2,k,k2,tm0]⟩
    |ok o r =>
     rw [h4] at k2;obtain⟨i2,hi2,k2⟩:=k2;rw [qaA h4];have k3:=qvm hi2 n hL;cases h5:qcb r with
     |no r =>
      rw [h5] at k3;obtain⟨⟨x1,x2,x3,x4,x5⟩,i3,k3⟩:=k3;rw [qax h5];exact⟨(3,([],[]),o,a,(x1,x2,x3,x4,x5)),i3,by simp [qa0,qgS,↓Tr.run_ite,e1,h1,e2,h2,k,k2,k3,tm0]⟩
     |ok b r =>
      rw [h5] at k3;obtain⟨i3,hi3,k3⟩:=k3;rw [qaA h5];exact⟨i3,hi3,by simp [qa0,qgS,↓Tr.run_ite,e1,h1,e2,h2,k,k2,k3,tm0]⟩
end
end Go.Pv
set_option maxHeartbeats 8000000
set_option maxRecDepth 200000
set_option linter.unusedSimpArgs false
set_option linter.unusedVariables false
namespace Go.Pv
open Go Go.Proofs
attribute [simp] qwa qwK qhf qoB qqp qk8 qif qpU qkI qo3 qkw qq6 qzq qss qp2 qm0 qnI qmN qng qgk qit qip qgP qgQ qsv qux qke qzy qBz
theorem qVR {L l:List Wd} {i:Int} (h:AtI L i l) (hL:L.length≤65536):l.length≤65536:=by
 obtain⟨m,_,hd,hm⟩:=h;rw [← hd,List.length_drop];omega
def qeA (b:Bool) (L:List Wd) (n a:Int) (s:qU) (hd:List Tm) (acc:List Li) (i:Int):Store:=⟨[[.sl (rOf cW L) .non,.int .i64 i,.int .i64 n,.bool b,.int .i64 a],[.str [],.sl [] .full,.sl [] .full],[.str s,.sl (rOf cM hd) .non,.sl (rOf cL acc) (.tok 0)]],[(acc.length,14,96)],[76,51,51]⟩
def qt4 (L:List Wd) (n:Int) (s:qU) (hd:List Tm) (acc:List Li) (i:Int):LOut:=qeU [.ptr 0 0,.ptr 1 0,.ptr 2 0] (qeA false L n 0 s hd acc i)
def qAl (L:List Wd) (n:Int) (s:qU) (hd:List Tm) (acc:List Li) (i:Int):LOut:=some (.exit 0,[.ptr 0 0,.ptr 1 0,.ptr 2 0],qeA false L n 0 s hd acc i)
def qBl (L:List Wd) (n:Int) (s:qU) (hd:List Tm) (acc:List Li) (i a:Int):LOut:=some (.exit 0,[.ptr 0 0,.ptr 1 0,.ptr 2 0],qeA true L n a s hd acc i)
theorem qG2 {L:List Wd} (hL:L.length≤65536) (n:Int) (s:qU) (hd:List Tm) (acc:List Li) (i:Int) (l:List Wd) (h:AtI L i l) (hb:acc.length+l.length≤65537):qF0 L n (qt4 L n s hd) (qAl L n s hd) (qBl L n s hd) acc i (pLit l):=by
 have k:=qPu h n hL;cases h1:pLit l with
 |no r =>
  rw [h1] at k;obtain⟨⟨x1,⟨x2,x3⟩,x4,⟨x5,x6,x7,x8,x9⟩,⟨y5,y6,y7,y8,y9⟩⟩,i',k⟩:=k;refine⟨(x1,(x2,x3),x4,(x5,x6,x7,x8,x9),(y5,y6,y7,y8,y9)),i',?_⟩;unfold qt4 qBl qeA;rw [qvD];simp [qhV,↓Tr.run_ite,k,qvn,qm4];rw [if_pos (by omega)]
  simp
 |ok a r =>
  rw [h1] at k;obtain⟨i',hi,k⟩:=k;obtain⟨x1,⟨x2,x3⟩,x4,⟨x5,x6,x7,x8,x9⟩,⟨y5,y6,y7,y8,y9⟩⟩:=a;have e:=qb1 hi n 6 [44];unfold qF0;cases hw:wIs 6 [44] r with
  |false =>
   simp only [hw];refine⟨i',hi,?_⟩;unfold qt4 qAl qeA;rw [qvD];simp [qhV,↓Tr.run_ite,k,e,hw,qvn,qm4];rw [if_pos (by omega)]
   simp
  |true=>cases r with
   |nil=>cases hw
   |cons w r =>
    simp only [hw];refine⟨_,hi.step hL,?_⟩;unfold qt4 qeA
    conv=>lhs;rw [qvD]
    simp [qhV,↓Tr.run_ite,k,e,hw,qvn,qm4];rw [if_pos (by omega)]
    simp
theorem qKd {L l:List Wd} {i:Int} (h:AtI L i l) (n:Int) (hL:L.length≤65536):QOk vcRu n L (qgj l) (qb9 (rOf cW L) i n):=by
 have k1:=qpI h n hL;unfold qgj pDot;cases h1:qcJ l with
 |no r =>
  rw [h1] at k1;obtain⟨⟨x1,x2⟩,i1,k1⟩:=k1;rw [qax h1];exact⟨((x1,x2),[]),i1,by simp [qb9,qgA,↓Tr.run_ite,k1]⟩
 |ok a l =>
  rw [h1] at k1;obtain⟨i1,hi1,k1⟩:=k1;rw [qaA h1];have e1:=qb1 hi1 n 6 [58,45];cases h2:wIs 6 [58,45] l with
  |false =>
   rw [qaM h2];have k3:=qoD hi1 n hL [46];cases h3:qbi 6 [46] l with
   |no r =>
    rw [h3] at k3;obtain⟨x,i3,k3⟩:=k3;rw [qax h3];exact⟨(a,[]),i3,by simp [qb9,qgA,↓Tr.run_ite,k1,e1,h2,k3]⟩
   |ok w r =>
    rw [h3] at k3;obtain⟨i3,hi3,k3⟩:=k3;rw [qaA h3];exact⟨i3,hi3,by simp [qb9,qgA,↓Tr.run_ite,k1,e1,h2,k3]⟩
  |true=>cases l with
   |nil=>cases h2
   |cons w l =>
    rw [qaW h2];have hi2:=hi1.step hL;have hl:=qVR hi2 hL;have k4:=qz2 qpz (qG2 hL n a.1 a.2) (l.length+1) [] l _ hi2 (Nat.lt_succ_self _) (by simp only [List.length_nil];omega)
    cases h4:pRow pLit l with
    |no r =>
     rw [show pRep pLit (l.length+1) [] l=.no r from h4] at k4
     obtain⟨bs,i4,k4⟩:=k4;rw [qax h4];have k4:qeU _ _=_:=k4;simp only [qBl,qeA,qiU,List.length_nil] at k4;exact⟨(a,bs),i4,by simp [qb9,qgA,qb2,↓Tr.run_ite,k1,e1,h2,k4]⟩
    |ok bs r =>
     rw [show pRep pLit (l.length+1) [] l=.ok bs r from h4] at k4
     obtain⟨i4,hi4,k4⟩:=k4;rw [qaA h4];have k4:qeU _ _=_:=k4;simp only [qAl,qeA,qiU,List.length_nil] at k4;have k5:=qoD hi4 n hL [46];cases h5:qbi 6 [46] r with
     |no r =>
      rw [h5] at k5;obtain⟨x,i5,k5⟩:=k5;rw [qax h5];exact⟨(a,bs),i5,by simp [qb9,qgA,qb2,↓Tr.run_ite,k1,e1,h2,k4,k5]⟩
     |ok w r =>
      rw [h5] at k5;obtain⟨i5,hi5,k5⟩:=k5;rw [qaA h5];exact⟨i5,hi5,by simp [qb9,qgA,qb2,↓Tr.run_ite,k1,e1,h2,k4,k5]⟩
end Go.Pv
set_option maxHeartbeats 8000000
set_option maxRecDepth 200000
set_option linter.unusedSimpArgs false
set_option linter.unusedVariables false
namespace Go.Pv
open Go Go.Proofs
theorem qIu {L l:List Wd} {i:Int} (h:AtI L i l) (n:Int):qr2 (rOf cW L) i n=some (.val (.tup []),match l with|[]=>qst L i n|_=>qsb L i n (plc n l)):=by
 cases l with
 |nil=>have:=h.nil;subst this;simp [qr2,qCo,↓Tr.run_ite]
 |cons w l =>
  have f:=qls h n;obtain⟨m,hlt,rfl,hw⟩:=h.cons;have h2:(m:Int) < (L.length:Int):=by omega
  simp [qr2,qCo,↓Tr.run_ite,h2,f]
end Go.Pv
set_option maxHeartbeats 4000000
set_option maxRecDepth 200000
set_option linter.unusedSimpArgs false
set_option linter.unusedVariables false
namespace Go.Pv
open Go Go.Proofs
attribute [simp] qwD qwC qpt qln qk2 qk0 qpr qqm qqU qrT qnS qmS qn4 qnp qrj qrr qlw qnj qnE qnC qnt qmY qn2 qns qjm qmU qiZ qnT qjC qkW qkY
def bpS (n:Int) (g:Pg) (l:List Wd):Store:=⟨[[.sl (rOf cW l) .non,.int .i64 n],[.sl [] .full,.sl [] .full,.sl [] .full],[.sl (rOf cD g.1) (.tok 0),.sl (rOf cE g.2.1) (.tok 1),.sl (rOf cRu g.2.2) (.tok 2)]],[(g.1.length,3,80),(g.2.1.length,3,85),(g.2.2.length,3,51)],[138,27,27]⟩
def bpV (n:Int) (g:Pg) (l:List Wd):LOut:=qgw [.ptr 0 0,.ptr 1 0,.ptr 2 0] (bpS n g l)
theorem qRy (n:Int) (g:Pg):bpV n g []=some (.exit 0,[.ptr 1 0,.ptr 2 0],bpS n g []):=by
 unfold bpV bpS;rw [qzL];simp [qck,↓Tr.run_ite]
theorem qOL (n:Int) (g:Pg) (w:Wd) (r:List Wd) (hb:g.1.length+g.2.1.length+g.2.2.length+(w::r).length≤65536):bpV n g (w::r)=match pOne g (w::r) with
  |.ok g' r'=>bpV n g' r'
  |.no r'=>some (.pan (mfit (plc n r')),[],bpS n g r'):=by
 have hw:(w::r).length≤65536:=by omega
 simp only [List.length_cons] at hb;have hr:r.length≤65536:=by omega
 have kd:=qLk (w:=w) hr n;have ko:=qUt (w:=w) hr n;have kr:=qDp hw n;have c1:iLt 0 (xLen (rOf cW (w::r)))=true:=by simp
 have dec:isDe (w::r)=true→(bpV n g (w::r)=match pOne g (w::r) with
   |.ok g' r'=>bpV n g' r'
   |.no r'=>some (.pan (mfit (plc n r')),[],bpS n g r')):=by
  intro h1
  conv=>lhs;unfold bpV bpS;rw [qzL]
  have e:pOne g (w::r)=qan qDX (fun d=>qat (g.1++[d],g.2.1,g.2.2)) (w::r):=if_pos h1
  rw [e];have h1:(wIs 1 [98,97,115,101] (w::r) || wIs 1 [118,105,101,119] (w::r))=true:=h1;cases h2:wIs 1 [98,97,115,101] (w::r) with
  |true =>
   cases h3:qDX (w::r) with
   |no r'=>simp [qck,↓Tr.run_ite,c1,h2,kd,h3,bpS,qan]
   |ok d r' =>
    obtain⟨x1,x2,x3⟩:=d;simp [qck,↓Tr.run_ite,c1,h2,kd,h3,bpS,qan,qat,qQT,qOl,bpV];rw [if_pos (by omega)]
    simp
  |false =>
   rw [h2,Bool.false_or] at h1;cases h3:qDX (w::r) with
   |no r'=>simp [qck,↓Tr.run_ite,c1,h1,h2,kd,h3,bpS,qan]
   |ok d r' =>
    obtain⟨x1,x2,x3⟩:=d;simp [qck,↓Tr.run_ite,c1,h1,h2,kd,h3,bpS,qan,qat,qQT,qOl,bpV];rw [if_pos (by omega)]
    simp
 cases h1:isDe (w::r) with
 |true=>exact dec h1
 |false =>
  conv=>lhs;unfold bpV bpS;rw [qzL]
  have f:=h1;simp only [isDe,Bool.or_eq_false_iff] at f;unfold pOne;rw [ch_f h1];cases h2:wIs 1 [111,110] (w::r) with
  |true =>
   have e:∀ p q:Ps Pg,pCh (wIs 1 [111,110]) p q (w::r)=p (w::r):=fun p q=>if_pos h2
   rw [e];cases h3:pOn (w::r) with
   |no r'=>simp [qck,↓Tr.run_ite,c1,f.1,f.2,h2,ko,h3,bpS,qan]
   |ok d r' =>
    obtain⟨x1,x2,x3⟩:=d;simp [qck,↓Tr.run_ite,c1,f.1,f.2,h2,ko,h3,bpS,qan,qat,qVb,qSc,bpV];rw [if_pos (by omega)]
    simp
  |false =>
   rw [ch_f h2];cases h3:qgj (w::r) with
   |no r'=>simp [qck,↓Tr.run_ite,c1,f.1,f.2,h2,kr,h3,bpS,qan]
   |ok d r' =>
    obtain⟨⟨x1,x2⟩,x3⟩:=d;simp [qck,↓Tr.run_ite,c1,f.1,f.2,h2,kr,h3,bpS,qan,qat,qTU,qPL,bpV];rw [if_pos (by omega)]
    simp
theorem qOK {g g':Pg} {l r:List Wd} (h:pOne g l=.ok g' r):g'.1.length+g'.2.1.length+g'.2.2.length=g.1.length+g.2.1.length+g.2.2.length+1:=by
 unfold pOne pCh qan qat at h
 split at h
 ·split at h
  ·cases h;simp only [List.length_append,List.length_singleton];omega
  ·cases h
 ·split at h
  ·split at h
   ·cases h;simp only [List.length_append,List.length_singleton];omega
   ·cases h
  ·split at h
   ·cases h;simp only [List.length_append,List.length_singleton];omega
   ·cases h
theorem qN9 (n:Int):∀ (m:Nat) (g:Pg) (l:List Wd),l.length < m→g.1.length+g.2.1.length+g.2.2.length+l.length≤65536→match qwy m g l with
  |.ok g' r=>bpV n g l=some (.exit 0,[.ptr 1 0,.ptr 2 0],bpS n g' r)
  |.no r=>∃ g',bpV n g l=some (.pan (mfit (plc n r)),[],bpS n g' r)
 |0,_,_,h,_=>absurd h (Nat.not_lt_zero _)
 |m+1,g,[],h,hb=>qRy n g
 |m+1,g,w::r,h,hb=>by
  rw [qEl (by simp),qOL n g w r hb]
  cases h1:pOne g (w::r) with
  |no r'=>rw [qax h1];exact⟨g,rfl⟩
  |ok g' r' =>
   rw [qaA h1];have k1:=((qNt g).of h1).1;have k2:=qOK h1;exact qN9 n m g' r' (by omega) (by omega)
theorem qMb {l:List Wd} (hl:l.length≤65536) (n:Int):qgf (rOf cW l) n=some (bOut vcPg n (qsd l)):=by
 have H:=qN9 n (l.length+1) ([],[],[]) l (Nat.lt_succ_self _) (by simpa using hl)
 unfold qsd;cases h:qwy (l.length+1) ([],[],[]) l with
 |ok g r =>
  rw [h] at H;have H:qgw _ _=_:=H;simp only [bpS,qiU,List.length_nil] at H;simp [qgf,qt5,qaZ,↓Tr.run_ite,H]
 |no r =>
  rw [h] at H;obtain⟨g,H⟩:=H;have H:qgw _ _=_:=H;simp only [bpS,qiU,List.length_nil] at H;simp [qgf,qt5,qaZ,↓Tr.run_ite,H]
end Go.Pv
set_option maxHeartbeats 4000000
set_option linter.unusedSimpArgs false
set_option linter.unusedVariables false
namespace Go.Pv
def lexG (f i:Nat) (s:qU):List Wd×Option Nat:=lexL f (i+gapL false s) (s.drop (gapL false s))
theorem qNN (f i:Nat) {s:List UInt8} (h:s≠[]):lexL (f+1) i s=match wdL s with
  |none=>([],some i)
  |some (k,m,v)=>((k,s.take m,v,(i:Int))::(lexG f (i+m) (s.drop m)).1,(lexG f (i+m) (s.drop m)).2):=by
 obtain⟨c,t,rfl⟩:=List.exists_cons_of_ne_nil h;unfold lexG;simp only [List.drop_drop];rfl
end Go.Pv
set_option maxHeartbeats 4000000
set_option maxRecDepth 200000
set_option linter.unusedSimpArgs false
set_option linter.unusedVariables false
namespace Go.Pv
open Go Go.Proofs
theorem qKE:∀ (f i:Nat) (s:qU) (w:Wd),w∈(lexL f i s).1→(i:Int)≤w.2.2.2∧w.2.2.2≤((i+s.length:Nat):Int)
 |0,_,_,_,h=>by simp [lexL] at h
 |f+1,i,s,w,h=>by
  cases hs:s with
  |nil=>rw [hs] at h;simp [lexL] at h
  |cons c t =>
   have hne:s≠[]:=by rw [hs];simp
   rw [qNN f i hne] at h
   rw [← hs];cases hw:wdL s with
   |none=>rw [hw] at h;simp at h
   |some x =>
    obtain⟨k,m,v⟩:=x;rw [hw] at h
    obtain⟨m1,m2⟩:=qvz hw;simp only [List.mem_cons] at h
    rcases h with rfl|h
    ·exact⟨Int.le_refl _,by simp only;omega⟩
    ·have hg:=qmQ false (s.drop m);have:=qKE f (i+m+gapL false (s.drop m)) ((s.drop m).drop (gapL false (s.drop m))) w h;simp only [List.length_drop] at this hg;omega
theorem qOC {s:List UInt8} {l:List Wd} {o:Option Nat} (h:qbM s=(l,o)) {w:Wd} (hw:w∈l):0≤w.2.2.2∧w.2.2.2≤(s.length:Int):=by
 have:=qKE (s.length+1) (gapL false s) (s.drop (gapL false s)) w (by rw [show lexL (s.length+1) (gapL false s) (s.drop (gapL false s))=qbM s from rfl,h];exact hw)
 have hg:=qmQ false s;simp only [List.length_drop] at this;omega
def prs {α:Type} (p:Ps α) (z:α) (s:qU):α×Int×Int:=if 65536 < s.length then (z,0,2) else match qbM s with
 |(_,some a)=>(z,(a:Int),120)
 |(l,none)=>match pEnd (p l) with
  |.ok a _=>(a,0,0)
  |.no r=>(z,plc s.length r,130)
theorem qm5 {s:List UInt8} (h:65536 < s.length):(qar [.str s]).run=some (.tup [.sl [] .non,.int .i64 0,.int .i64 2]):=by
 have e:qeX s=some (.tup [.sl [] .non,.int .i64 0,.int .i64 2]):=by
  unfold qeX qp5;have:iLt 65536 (sLen s)=true:=by simp;omega
  exact Tr.run_t this rfl
 have e0:qhx s=true:=by simp [qhx,qms,qmb,qg9,e]
 unfold qar;simp [e0,qms,qmb,qg9,e]
theorem qkR {s:List UInt8} (h:s.length≤65536):(qar [.str s]).run=some (.tup [.sl (rOf cW (wL s)) .non,.int .i64 (wN s),.int .i64 (wE s)]):=by
 unfold qar;simp [qGE h,qx7 h,qxY h,qxQ h]
theorem qyu {s:List UInt8} {l:List Wd} {o:Option Nat} (hs:s.length≤65536) (h:qbM s=(l,o)) {u r:List Wd} (hr:l=u++r):(Lit.int .i64 (plc s.length r)).wf=true:=by
 have hb:0≤plc (s.length:Int) r∧plc (s.length:Int) r≤65536:=by
  cases r with
  |nil=>exact⟨Int.natCast_nonneg _,by simp only [plc];omega⟩
  |cons w r =>
   have:=qOC h (w:=w) (by rw [hr];simp)
   exact⟨this.1,by simp only [plc];omega⟩
 generalize plc (s.length:Int) r=x at hb;have h1:IntKind.min .i64=-9223372036854775808:=by decide
 have h2:IntKind.max .i64=9223372036854775807:=by decide
 simp only [Lit.wf,h1,h2,Bool.and_eq_true,decide_eq_true_eq];omega
attribute [simp] qNJ qLj qGO qCb qzH qCq qGZ qFS
theorem qR4 {l:List Wd} (hl:l.length≤65536) (n:Int):qxE (rOf cW l) n=some (bOut vcPg n (qsd l)):=by
 have k:=qMb hl n;cases h:qsd l<;>simp [qxE,qMS,↓Tr.run_ite,k,h]
theorem qOB (s:qU):outP s=some (.tup [vcPg (prs qsd ([],[],[]) s).1,.int .i64 (prs qsd ([],[],[]) s).2.1,.int .i64 (prs qsd ([],[],[]) s).2.2]):=by
 unfold outP prs;by_cases h:65536 < s.length
 ·rw [if_pos h,qm5 h];rfl
 ·rw [if_neg h,qkR (by omega)]
  have hs:s.length≤65536:=by omega
  rcases hw:qbM s with⟨l,o⟩
  cases o with
  |some a =>
   have e1:wN s=(a:Nat):=by unfold wN;rw [hw]
   have e2:wE s=120:=by unfold wE;rw [hw]
   rw [e1,e2];rfl
  |none =>
    have e1:wN s=0:=by unfold wN;rw [hw]
    have e2:wE s=0:=by unfold wE;rw [hw]
    have e3:wL s=l:=by unfold wL;rw [hw]
    rw [e1,e2,e3];have hl:l.length≤65536:=by have:=qyO s;rw [e3] at this;omega
    have k:=qR4 hl s.length;have hd:(qor [.ptr 0 0] ⟨[[.sl (qad (rOf cW l)) .non,.int .i64 s.length]],[],[138]⟩).run=some (bOut vcPg s.length (qsd l)):=by
     unfold qor;rw [qbm];cases h1:qsd l<;>simp [k,h1]
    show finP _=_
    rw [hd];obtain⟨u,hu⟩:=qO7 l;cases h1:qsd l with
    |no r =>
     rw [h1] at hu;have hu:l=u++r:=hu;simp [finP,qgr,qyu hs hw hu,pEnd,h1]
    |ok a r =>
     rw [h1] at hu;have hu:l=u++r:=hu;cases r with
     |nil=>simp [finP,pEnd,h1]
     |cons w r =>
      have e4:qaa (rOf cW (w::r))=cW.enc w::rOf cW r:=qda cW (w::r);have e5:qad (cW.enc w::rOf cW r)=rOf cW (w::r):=qbm cW (w::r);have hb:(qcD [.ptr 0 0] ⟨[[.sl (rOf cW (w::r)) .non,.int .i64 s.length]],[],[138]⟩).run=some (.pan (mfit (plc s.length (w::r))),bst (w::r) s.length):=by
       unfold qcD;simp
      simp only [mfit,bst] at hb;simp [finP,e4,e5,hb,qgr,qyu hs hw hu,pEnd,bst,h1]
attribute [simp] qLC qLL qGu qzp qzO qF7 qGs qE1
theorem qUN {l:List Wd} (hl:l.length≤65536) (n:Int):qxw (rOf cW l) n=some (bOut vcRu n (qgj l)):=by
 have k:=qDp hl n;cases h:qgj l<;>simp [qxw,qKO,↓Tr.run_ite,k,h]
theorem qOZ (s:qU):outR s=some (.tup [vcRu (prs qgj (([],[]),[]) s).1,.int .i64 (prs qgj (([],[]),[]) s).2.1,.int .i64 (prs qgj (([],[]),[]) s).2.2]):=by
 unfold outR prs;by_cases h:65536 < s.length
 ·rw [if_pos h,qm5 h];rfl
 ·rw [if_neg h,qkR (by omega)]
  have hs:s.length≤65536:=by omega
  rcases hw:qbM s with⟨l,o⟩
  cases o with
  |some a =>
   have e1:wN s=(a:Nat):=by unfold wN;rw [hw]
   have e2:wE s=120:=by unfold wE;rw [hw]
   rw [e1,e2];rfl
  |none =>
    have e1:wN s=0:=by unfold wN;rw [hw]
    have e2:wE s=0:=by unfold wE;rw [hw]
    have e3:wL s=l:=by unfold wL;rw [hw]
    rw [e1,e2,e3];have hl:l.length≤65536:=by have:=qyO s;rw [e3] at this;omega
    have k:=qUN hl s.length;have hd:(qpo [.ptr 0 0] ⟨[[.sl (qad (rOf cW l)) .non,.int .i64 s.length]],[],[138]⟩).run=some (bOut vcRu s.length (qgj l)):=by
     unfold qpo;rw [qbm];cases h1:qgj l<;>simp [k,h1]
    show finR _=_
    rw [hd];obtain⟨u,hu⟩:=good_rule.suf l;cases h1:qgj l with
    |no r =>
     rw [h1] at hu;have hu:l=u++r:=hu;simp [finR,qgr,qyu hs hw hu,pEnd,h1]
    |ok a r =>
     rw [h1] at hu;have hu:l=u++r:=hu;cases r with
     |nil=>simp [finR,pEnd,h1]
     |cons w r =>
      have e4:qaa (rOf cW (w::r))=cW.enc w::rOf cW r:=qda cW (w::r);have e5:qad (cW.enc w::rOf cW r)=rOf cW (w::r):=qbm cW (w::r);have hb:(qcD [.ptr 0 0] ⟨[[.sl (rOf cW (w::r)) .non,.int .i64 s.length]],[],[138]⟩).run=some (.pan (mfit (plc s.length (w::r))),bst (w::r) s.length):=by
       unfold qcD;simp
      simp only [mfit,bst] at hb;simp [finR,e4,e5,hb,qgr,qyu hs hw hu,pEnd,bst,h1]
attribute [simp] qME qMw qGx qBK qFO qE7 qGg
theorem qRs {l:List Wd} (hl:l.length≤65536) (n:Int):qBa (rOf cW l) n=some (bOut vcA n (qcJ l)):=by
 have k:=qhe hl n;cases h:qcJ l<;>simp [qBa,qMP,↓Tr.run_ite,k,h]
theorem qPp (s:qU):outA s=some (.tup [vcA (prs qcJ ([],[]) s).1,.int .i64 (prs qcJ ([],[]) s).2.1,.int .i64 (prs qcJ ([],[]) s).2.2]):=by
 unfold outA prs;by_cases h:65536 < s.length
 ·rw [if_pos h,qm5 h];rfl
 ·rw [if_neg h,qkR (by omega)]
  have hs:s.length≤65536:=by omega
  rcases hw:qbM s with⟨l,o⟩
  cases o with
  |some a =>
   have e1:wN s=(a:Nat):=by unfold wN;rw [hw]
   have e2:wE s=120:=by unfold wE;rw [hw]
   rw [e1,e2];rfl
  |none =>
    have e1:wN s=0:=by unfold wN;rw [hw]
    have e2:wE s=0:=by unfold wE;rw [hw]
    have e3:wL s=l:=by unfold wL;rw [hw]
    rw [e1,e2,e3];have hl:l.length≤65536:=by have:=qyO s;rw [e3] at this;omega
    have k:=qRs hl s.length;have hd:(qoz [.ptr 0 0] ⟨[[.sl (qad (rOf cW l)) .non,.int .i64 s.length]],[],[138]⟩).run=some (bOut vcA s.length (qcJ l)):=by
     unfold qoz;rw [qbm];cases h1:qcJ l<;>simp [k,h1]
    show finA _=_
    rw [hd];obtain⟨u,hu⟩:=good_atom.suf l;cases h1:qcJ l with
    |no r =>
     rw [h1] at hu;have hu:l=u++r:=hu;simp [finA,qgr,qyu hs hw hu,pEnd,h1]
    |ok a r =>
     rw [h1] at hu;have hu:l=u++r:=hu;cases r with
     |nil=>simp [finA,pEnd,h1]
     |cons w r =>
      have e4:qaa (rOf cW (w::r))=cW.enc w::rOf cW r:=qda cW (w::r);have e5:qad (cW.enc w::rOf cW r)=rOf cW (w::r):=qbm cW (w::r);have hb:(qcD [.ptr 0 0] ⟨[[.sl (rOf cW (w::r)) .non,.int .i64 s.length]],[],[138]⟩).run=some (.pan (mfit (plc s.length (w::r))),bst (w::r) s.length):=by
       unfold qcD;simp
      simp only [mfit,bst] at hb;simp [finA,e4,e5,hb,qgr,qyu hs hw hu,pEnd,bst,h1]
end Go.Pv
set_option maxHeartbeats 4000000
set_option linter.unusedSimpArgs false
set_option linter.unusedVariables false
namespace Go.Pv
def maxW:Nat:=65538
structure Res {α:Type} (p:Ps α) (Q:α→Prop):Prop where
 of:∀ {l a r},l.length < maxW→p l=.ok a r→Q a∧r.length≤l.length
section
variable {α β : Type}
theorem qbj {a:α} {Q:α→Prop} (h:Q a):Res (qat a) Q:=⟨fun _ e=>by cases e;exact⟨h,Nat.le_refl _⟩⟩
theorem quv {Q:α→Prop}:Res (qmB:Ps α) Q:=⟨fun _ e=>by cases e⟩
theorem qca {p:Ps α} {f:α→Ps β} {Q:α→Prop} {R:β→Prop} (hp:Res p Q) (hf:∀ a,Q a→Res (f a) R):Res (qan p f) R:=by
 refine⟨fun {l b r} hl h=>?_⟩
 unfold qan at h
 split at h
 ·rename_i a r1 h1;obtain⟨q,k⟩:=hp.of hl h1;obtain⟨q2,k2⟩:=(hf a q).of (Nat.lt_of_le_of_lt k hl) h;exact⟨q2,Nat.le_trans k2 k⟩
 ·cases h
theorem qgK {k:Int} {t:List UInt8} {p:Wd→Ps α} {q:Ps α} {Q:α→Prop} (hp:∀ w,Res (p w) Q) (hq:Res q Q):Res (pIf k t p q) Q:=by
 refine⟨fun {l b r} hl h=>?_⟩
 cases hi:wIs k t l with
 |false=>rw [qaM hi] at h;exact hq.of hl h
 |true=>cases l with
  |nil=>cases hi
  |cons w l =>
   rw [qaW hi] at h
   obtain⟨a,b⟩:=(hp w).of (Nat.lt_of_succ_lt hl) h;exact⟨a,Nat.le_succ_of_le b⟩
theorem qQS {c:List Wd→Bool} {p q:Ps α} {Q:α→Prop} (hp:Res p Q) (hq:Res q Q):Res (pCh c p q) Q:=by
 refine⟨fun {l b r} hl h=>?_⟩
 unfold pCh at h
 split at h
 ·exact hp.of hl h
 ·exact hq.of hl h
theorem qO6 {Q:Wd→Prop} (hq:∀ w,Q w):Res qDo Q:=by
 refine⟨fun {l b r} hl h=>?_⟩
 cases l with
 |nil=>cases h
 |cons w l=>cases h;exact⟨hq _,Nat.le_succ _⟩
theorem qzK (k:Int) (t:qU):Res (qbi k t) fun _=>True:=qgK (fun _=>qbj trivial) quv
theorem qLU {p:Ps α} {Q:α→Prop} (hp:Res p Q):∀ (n:Nat) (acc:List α),(∀ a∈acc,Q a)→∀ {l bs r},l.length < maxW→pRep p n acc l=.ok bs r→((∀ a∈bs,Q a)∧bs.length≤acc.length+1+l.length)∧r.length≤l.length
 |0,_,_,_,_,_,_,h=>by cases h
 |n+1,acc,ha,l,bs,r,hl,h=>by
  rw [qcc] at h
  unfold qan at h
  split at h
  ·rename_i a r1 h1;obtain⟨q,k⟩:=hp.of hl h1;have ha':∀ x∈acc++[a],Q x:=fun x hx=>by
    rcases List.mem_append.1 hx with hx|hx
    ·exact ha x hx
    ·rw [List.mem_singleton.1 hx];exact q
   have h:qjk p n (acc++[a]) r1=.ok bs r:=h;unfold qjk at h
   cases hi:wIs 6 [44] r1 with
   |false =>
    rw [qaM hi] at h
    cases h
    exact⟨⟨ha',by simp only [List.length_append,List.length_singleton];omega⟩,k⟩
   |true=>cases r1 with
    |nil=>cases hi
    |cons w r1 =>
     rw [qaW hi] at h
     simp only [List.length_cons] at k;obtain⟨⟨b1,b2⟩,b3⟩:=qLU hp n (acc++[a]) ha' (by omega) h
     simp only [List.length_append,List.length_singleton] at b2;exact⟨⟨b1,by omega⟩,by omega⟩
  ·cases h
theorem qNO {p:Ps α} {Q:α→Prop} (hp:Res p Q):Res (pRow p) fun bs=>bs.length≤maxW∧∀ a∈bs,Q a:=by
 refine⟨fun {l b r} hl h=>?_⟩
 obtain⟨⟨b1,b2⟩,b3⟩:=qLU hp _ [] (fun _ h=>by cases h) hl h
 simp only [List.length_nil] at b2;exact⟨⟨by omega,b1⟩,b3⟩
theorem qPo {p:Ps α} {Q:α→Prop} (hp:Res p Q):Res (qkN p) fun bs=>bs.length≤maxW∧∀ a∈bs,Q a :=
 qca (qzK _ _) fun _ _=>qgK (fun _=>qbj ⟨Nat.zero_le _,fun _ h=>by cases h⟩) (qca (qNO hp) fun _ h=>qca (qzK _ _) fun _ _=>qbj h)
theorem qLQ {a:α} {Q:α→Prop} (h:Q a):Res (pDot a) Q:=qca (qzK _ _) fun _ _=>qbj h
end
theorem qPZ:Res qmy fun _=>True:=qQS (qca (qO6 fun _=>trivial) fun _ _=>qbj trivial) quv
theorem qBP:Res qcb fun _=>True:=qgK (fun _=>qbj trivial) (qgK (fun _=>qbj trivial) (qgK (fun _=>qbj trivial) (qgK (fun _=>qbj trivial) quv)))
theorem qWd:Res pOp fun _=>True:=qgK (fun _=>qbj trivial) (qgK (fun _=>qbj trivial) (qgK (fun _=>qbj trivial) (qgK (fun _=>qbj trivial) (qgK (fun _=>qbj trivial) (qgK (fun _=>qbj trivial) quv)))))
def okA (a:At):Prop:=a.2.length≤maxW
def okLi (x:Li):Prop:=okA x.2.1
def okRu (r:Ru):Prop:=okA r.1∧r.2.length≤maxW∧∀ x∈r.2,okLi x
theorem res_atom:Res qcJ okA:=qca qPZ fun _ _=>qca (qPo qBP) fun _ h=>qbj h.1
theorem qRM:Res pLit okLi:=qgK (fun _=>qca res_atom fun _ h=>qbj h) (qQS (qca res_atom fun _ h=>qbj h) (qca qBP fun _ _=>qca qWd fun _ _=>qca qBP fun _ _=>qbj (Nat.zero_le _)))
theorem res_rule:Res qgj okRu:=qca res_atom fun _ h=>qgK (fun _=>qca (qNO qRM) fun _ k=>qLQ ⟨h,k.1,k.2⟩) (qLQ ⟨h,Nat.zero_le _,fun _ h=>by cases h⟩)
end Go.Pv
set_option maxHeartbeats 8000000
set_option maxRecDepth 200000
set_option linter.unusedSimpArgs false
set_option linter.unusedVariables false
namespace Go.Pv
open Go Go.Proofs
attribute [simp] qwp qwe qhw qht qlb qmm qov qpD qrz qrX qlA qu6 quZ qwv qv8 qqF qq2 qgd qf1 qiA qiz qlq qlT qje qrp qq3 qrw qrq qye qx6 qmJ qni qmI qn7 qru qrG qnu qm9 qny qmH qnc qqX qrl qvT qAW qtH qvi qoA qw8 quX qBT qsy qu9 qvu qqj qF8 qg4 qmj qdm ql9
theorem qx0 {s:List UInt8} (h:65536 < s.length):qeQ s=some (.tup [.sl [] .non,.int .i64 0,.int .i64 2]):=by
 unfold qeQ qog;have:iLt 65536 (sLen s)=true:=by simp;omega
 exact Tr.run_t this rfl
theorem qDK (L:List Wd) (i n a:Int):qB9 (rOf cW L) i n a=some (.val (.tup []),qsb L i n a):=by
 by_cases h:i < (L.length:Int)<;>simp [qB9,qAp,↓Tr.run_ite,h]
theorem qMh (L:List Wd):AtI L 0 L:=⟨0,rfl,rfl,Nat.zero_le _⟩
section
variable {L : List Wd} (hL : L.length ≤ 65536) (n : Int)
include hL
end
@[simp] theorem qRule_law (s:qU):qeD s=some (.tup [vcRu (prs qgj (([],[]),[]) s).1,.int .i64 (prs qgj (([],[]),[]) s).2.1,.int .i64 (prs qgj (([],[]),[]) s).2.2]):=by
 unfold prs;by_cases h:65536 < s.length
 ·rw [if_pos h];simp [qeD,qjc,qbL,qjH,↓Tr.run_ite,qx0 h]
 ·rw [if_neg h];have hs:s.length≤65536:=by omega
  have hr:=qyC hs;rcases hw:qbM s with⟨l,o⟩
  cases o with
  |some a =>
   have e1:wN s=(a:Nat):=by unfold wN;rw [hw]
   have e2:wE s=120:=by unfold wE;rw [hw]
   have e3:wL s=[]:=by unfold wL;rw [hw]
   rw [e1,e2,e3] at hr;simp [qeD,qjc,qbL,qjH,↓Tr.run_ite,hr]
  |none =>
   have e1:wN s=0:=by unfold wN;rw [hw]
   have e2:wE s=0:=by unfold wE;rw [hw]
   have e3:wL s=l:=by unfold wL;rw [hw]
   rw [e1,e2,e3] at hr;have hl:l.length≤65536:=by have:=qyO s;rw [e3] at this;omega
   have k:=qKd (qMh l) s.length hl;cases h1:qgj l with
   |no r =>
    rw [h1] at k;obtain⟨⟨⟨x1,x2⟩,x3⟩,i,k⟩:=k;simp [qeD,qjc,qbL,qjH,↓Tr.run_ite,hr,k,pEnd,h1,qDK]
   |ok a r =>
    rw [h1] at k;obtain⟨i,hi,k⟩:=k;have ke:=qIu hi s.length;cases r with
    |nil=>simp [qeD,qjc,qbL,qjH,↓Tr.run_ite,hr,k,ke,pEnd,h1]
    |cons w r=>simp [qeD,qjc,qbL,qjH,↓Tr.run_ite,hr,k,ke,pEnd,h1]
@[simp] theorem qAtom_law (s:qU):qfN s=some (.tup [vcA (prs qcJ ([],[]) s).1,.int .i64 (prs qcJ ([],[]) s).2.1,.int .i64 (prs qcJ ([],[]) s).2.2]):=by
 unfold prs;by_cases h:65536 < s.length
 ·rw [if_pos h];simp [qfN,qiY,qbv,qfT,↓Tr.run_ite,qx0 h]
 ·rw [if_neg h];have hs:s.length≤65536:=by omega
  have hr:=qyC hs;rcases hw:qbM s with⟨l,o⟩
  cases o with
  |some a =>
   have e1:wN s=(a:Nat):=by unfold wN;rw [hw]
   have e2:wE s=120:=by unfold wE;rw [hw]
   have e3:wL s=[]:=by unfold wL;rw [hw]
   rw [e1,e2,e3] at hr;simp [qfN,qiY,qbv,qfT,↓Tr.run_ite,hr]
  |none =>
   have e1:wN s=0:=by unfold wN;rw [hw]
   have e2:wE s=0:=by unfold wE;rw [hw]
   have e3:wL s=l:=by unfold wL;rw [hw]
   rw [e1,e2,e3] at hr;have hl:l.length≤65536:=by have:=qyO s;rw [e3] at this;omega
   have k:=qpI (qMh l) s.length hl;cases h1:qcJ l with
   |no r =>
    rw [h1] at k;obtain⟨⟨x1,x2⟩,i,k⟩:=k;simp [qfN,qiY,qbv,qfT,↓Tr.run_ite,hr,k,pEnd,h1,qDK]
   |ok a r =>
    rw [h1] at k;obtain⟨i,hi,k⟩:=k;have ke:=qIu hi s.length;cases r with
    |nil=>simp [qfN,qiY,qbv,qfT,↓Tr.run_ite,hr,k,ke,pEnd,h1]
    |cons w r=>simp [qfN,qiY,qbv,qfT,↓Tr.run_ite,hr,k,ke,pEnd,h1]
end Go.Pv
set_option maxHeartbeats 8000000
set_option maxRecDepth 200000
set_option linter.unusedSimpArgs false
set_option linter.unusedVariables false
namespace Go.Pv
open Go Go.Proofs
theorem qHW {ρ:Type} {n:Nat} {V:Nat→ρ} {good:ρ} (hs:∀ i,i < n→V i=V (i+1)) (he:V n=good):V 0=good:=by
 have:∀ k i,i+k=n→V i=good:=by
  intro k
  induction k with
  |zero=>intro i hi;rw [show i=n by omega];exact he
  |succ k ih=>intro i hi;rw [hs i (by omega)];exact ih (i+1) (by omega)
 exact this n 0 (by omega)
theorem qLc {i:Nat} (h:i < 100000):iAdd .i64 (i:Int) 1=((i+1:Nat):Int):=qbS (by omega)
theorem qGY (s:qU) (l:List Tm) (hl:l.length≤maxW):qcO [.ptr 0 0,.ptr 1 0,.int .i64 0] ⟨[[.str s,.sl (rOf cM l) .non],[.str s,.sl (rOf cM l) .non]],[],[48,48]⟩=some (.exit 0,[],⟨[[.str s,.sl (rOf cM l) .non],[.str s,.sl (rOf cM l) .non]],[],[48,48]⟩):=by
 have h:=qHW (n:=l.length) (V:=fun i=>qcO [.ptr 0 0,.ptr 1 0,.int .i64 (i:Nat)] ⟨[[.str s,.sl (rOf cM l) .non],[.str s,.sl (rOf cM l) .non]],[],[48,48]⟩) (good:=some (.exit 0,[],⟨[[.str s,.sl (rOf cM l) .non],[.str s,.sl (rOf cM l) .non]],[],[48,48]⟩)) (fun i hi=>?_) ?_
 ·exact h
 ·show qcO _ _=qcO [.ptr 0 0,.ptr 1 0,.int .i64 ((i+1:Nat):Int)] _
  have hb:i < 100000:=by have:=hl;unfold maxW at this;omega
  conv=>lhs;rw [qDA]
  rw [← qLc hb];simp [ql5,↓Tr.run_ite,hi]
 ·show qcO _ _=_
  rw [qDA];simp [ql5,↓Tr.run_ite]
attribute [simp] qlp qhk qio qnA qmO qtU qrt qjv qm2 qnl
theorem qnH {a:At} (h:okA a):qsL a.1 (rOf cM a.2) a.1 (rOf cM a.2)=some (.bool true):=by
 simp [qsL,qwI,qqs,↓Tr.run_ite,qGY a.1 a.2 h]
theorem qE9 (s:qU) (m:List Tm) (l:List Li) (hl:l.length≤maxW) (hx:∀ x∈l,okLi x):qcM [.ptr 0 0,.ptr 1 0,.int .i64 0] ⟨[[.str s,.sl (rOf cM m) .non,.sl (rOf cL l) .non],[.str s,.sl (rOf cM m) .non,.sl (rOf cL l) .non]],[],[51,51]⟩=some (.exit 0,[],⟨[[.str s,.sl (rOf cM m) .non,.sl (rOf cL l) .non],[.str s,.sl (rOf cM m) .non,.sl (rOf cL l) .non]],[],[51,51]⟩):=by
 have h:=qHW (n:=l.length) (V:=fun i=>qcM [.ptr 0 0,.ptr 1 0,.int .i64 (i:Nat)] ⟨[[.str s,.sl (rOf cM m) .non,.sl (rOf cL l) .non],[.str s,.sl (rOf cM m) .non,.sl (rOf cL l) .non]],[],[51,51]⟩) (good:=some (.exit 0,[],⟨[[.str s,.sl (rOf cM m) .non,.sl (rOf cL l) .non],[.str s,.sl (rOf cM m) .non,.sl (rOf cL l) .non]],[],[51,51]⟩)) (fun i hi=>?_) ?_
 ·exact h
 ·show qcM _ _=qcM [.ptr 0 0,.ptr 1 0,.int .i64 ((i+1:Nat):Int)] _
  have hb:i < 100000:=by have:=hl;unfold maxW at this;omega
  conv=>lhs;rw [qDj]
  rw [← qLc hb];have ha:=qnH (hx _ (List.getElem_mem hi));simp [qh8,↓Tr.run_ite,hi,ha]
 ·show qcM _ _=_
  rw [qDj];simp [qh8,↓Tr.run_ite]
theorem qGa {x:Ru} (h:okRu x):qsC x.1.1 (rOf cM x.1.2) (rOf cL x.2) x.1.1 (rOf cM x.1.2) (rOf cL x.2)=some (.bool true):=by
 have ha:=qnH h.1;simp [qsC,qxo,qqv,↓Tr.run_ite,ha,qE9 x.1.1 x.1.2 x.2 h.2.1 h.2.2]
abbrev prP (s:qU):Pg×Int×Int:=prs qsd ([],[],[]) s
abbrev prR (s:qU):Ru×Int×Int:=prs qgj (([],[]),[]) s
abbrev prA (s:qU):At×Int×Int:=prs qcJ ([],[]) s
attribute [simp] wP_e qKp wP_n qOR qPb qQg wR_e qNQ wR_n qPw qO1 qP4 wA_e qNH wA_n qOp qPT qw1 qz1 qun qGF qzs qB5 qpL qzY qoN qwb qlN qrN qvd qzz qt6 qwX qvK
@[simp] theorem pProg_law (s:qU):qks s=some (.tup [vcPg (prP s).1,.int .i64 (prP s).2.1,.int .i64 (prP s).2.2]):=by simp [qks,qzv,↓Tr.run_ite,qOB]
@[simp] theorem pRule_law (s:qU):qkb s=some (.tup [vcRu (prR s).1,.int .i64 (prR s).2.1,.int .i64 (prR s).2.2]):=by simp [qkb,qA4,↓Tr.run_ite,qOZ]
@[simp] theorem pAtom_law (s:qU):qm6 s=some (.tup [vcA (prA s).1,.int .i64 (prA s).2.1,.int .i64 (prA s).2.2]):=by simp [qm6,qBW,↓Tr.run_ite,qPp]
theorem qG4 {α:Type} (p:Ps α) (z:α) (s:qU) (h:(prs p z s).2.2≠0):(prs p z s).1=z:=by
 unfold prs at h ⊢;split
 ·rfl
 ·rename_i hl;rw [if_neg hl] at h
  split
  ·rfl
  ·rename_i l e;rw [e] at h
   simp only at h
   split
   ·rename_i a r e2;rw [e2] at h
    exact absurd rfl h
   ·rfl
theorem qQD {α:Type} {p:Ps α} {z:α} {s:List UInt8} (h:(prs p z s).2.2=0):s.length≤65536∧∃ l,qbM s=(l,none)∧pEnd (p l)=.ok (prs p z s).1 []:=by
 unfold prs at h ⊢;split at h
 ·cases h
 ·rename_i hl;rw [if_neg hl];refine⟨by omega,?_⟩
  rcases hw:qbM s with⟨l,o⟩
  rw [hw] at h
  cases o with
  |some a=>cases h
  |none =>
   refine⟨l,rfl,?_⟩;simp only at h ⊢;cases hp:p l with
   |no r=>rw [hp] at h;cases h
   |ok a r =>
    rw [hp] at h
    cases r with
    |nil=>rfl
    |cons w r=>cases h
theorem qHo {s:List UInt8} {l:List Wd} (hs:s.length≤65536) (h:qbM s=(l,none)):l.length < maxW:=by
 have:=qyO s;unfold wL at this;rw [h] at this;unfold maxW;exact Nat.lt_of_le_of_lt this (by omega)
theorem qLr {α:Type} {x:Rs α} {a:α} {r:List Wd} (h:pEnd x=.ok a r):x=.ok a []∧r=[]:=by
 cases x with
 |no r=>cases h
 |ok b l=>cases l with
  |nil=>cases h;exact⟨rfl,rfl⟩
  |cons=>cases h
def xTm:Tm:=(1,[88],0,0,[])
theorem qTf:prR [112,40,88,41,32,58,45,32,113,40,88,44,32,95,41,44,32,88,32,33,61,32,45,51,46]=((([112],[xTm]),[(1,([113],[xTm,(3,[],0,0,[])]),0,tm0,tm0),(3,([],[]),2,xTm,(2,[],1,-3,[]))]),0,0):=by kernel_rfl
theorem qTG:prP [112,40,88,41,32,58,45,32,46]=(([],[],[]),8,130):=by kernel_rfl
attribute [simp] qup qqG qzt qHl
@[simp] theorem valive_law:qt1=some (.bool true):=by
 simp [qt1,qvk,↓Tr.run_ite,qTf,qTG]
def cutP (s:qU):qU:=if 1500 < s.length∧s.length≤65536 then s.take 1500 else s
@[simp] theorem vcut_law (s:qU):qys s=some (.str (cutP s)):=by
 unfold cutP;by_cases h1:1500 < s.length
 ·by_cases h2:s.length≤65536
  ·rw [if_pos ⟨h1,h2⟩];have e1:(1500:Int) < (s.length:Int):=by omega
   have e2:(s.length:Int)≤65536:=by omega
   have e3:(1500:Nat)≤s.length:=by omega
   simp [qys,qwY,↓Tr.run_ite,e1,e2,e3]
  ·rw [if_neg (fun h=>h2 h.2)]
   have e1:(1500:Int) < (s.length:Int):=by omega
   have e2:¬ (s.length:Int)≤65536:=by omega
   simp [qys,qwY,↓Tr.run_ite,e1,e2]
 ·rw [if_neg (fun h=>h1 h.1)]
  have e1:¬ (1500:Int) < (s.length:Int):=by omega
  simp [qys,qwY,↓Tr.run_ite,e1]
end Go.Pv
set_option maxHeartbeats 8000000
set_option maxRecDepth 200000
set_option linter.unusedSimpArgs false
set_option linter.unusedVariables false
namespace Go.Pv
open Go Go.Proofs
theorem qVL (s:qU):okRu (prR s).1:=by
 by_cases h:(prR s).2.2=0
 ·obtain⟨hs,l,hw,hp⟩:=qQD h;exact (res_rule.of (qHo hs hw) (qLr hp).1).1
 ·rw [qG4 _ _ _ h];exact⟨Nat.zero_le _,Nat.zero_le _,by simp⟩
theorem qV4 (s:qU):okA (prA s).1:=by
 by_cases h:(prA s).2.2=0
 ·obtain⟨hs,l,hw,hp⟩:=qQD h;exact (res_atom.of (qHo hs hw) (qLr hp).1).1
 ·rw [qG4 _ _ _ h];exact Nat.zero_le _
theorem qwh (s:qU):(qoL [.str s]).run=some (.bool true):=by
 have k:=qGa (qVL (cutP s));have k2:=qnH (qV4 (cutP s));unfold qoL;simp [qwB,↓Tr.run_ite,k,k2]
end Go.Pv
