/- Part 5 of the proof: pure values for the machine's values, what functions compute over them, and laws of what is computed. Conditions: none beyond each theorem's own premises. -/
import Derived.Test.YtlemepahgalogaaGreatDoorPvGb4
noncomputable section
set_option maxHeartbeats 4000000
set_option maxRecDepth 200000
set_option linter.unusedSimpArgs false
set_option linter.unusedVariables false
namespace Go.Pv
open Go Go.Proofs
def qJZ:GamT:=ofL [(37,.pure qd3),(92,.may (frameT qkl))]
theorem qSf (gl:Gl):qal Tryz.prog gl (gam qJZ):=(qag (qcj gl) (qah (SimM.frameT (qiX gl)) qaf))
def qHA:Code:=qc2 Tryz.f145 3
def qH2:LI:=⟨29,[0,3,4],fun e=>match e with|.ret=>[2]|.exit 0=>[0]|_=>[],false⟩
def qDx:LpsT:=fun r fr σ=>.fail
def qib (vs:List PV) (σ:Store):Option (PExit×List PV×Store):=lval (lstep tbT qJZ qDx qHA qH2) vs σ
section
variable (ops:qR) (i:Int) (r:qR) (n n2:Int)
def qyq:Tr LR:=let z1:Store:=Store.mk [[.sl r .non,.int .i64 n,.int .i64 n2,.bool false,.int .i64 0]] [] [76];.ite (iLt i (xLen ops)) (.ite (qax i) (.ite (qbl [.str []] ops (nNat i)) (.ite (qaL (qac r) n n2 6 (xStr ops (nNat i) 0)) (.ite (qbj (qac r) n n2 6 (xStr ops (nNat i) 0)) (.ret (.out .ret [.int .i64 (iAdd .i64 i 1)] (Store.mk [[.sl r .non,.int .i64 (iAdd .i64 n 1),.int .i64 n2,.bool false,.int .i64 0]] [] [76]))) (.ret (.next [.ptr 0 0,.sl ops .full,.int .i64 (iAdd .i64 i 1)] z1))) .fail) .fail) .fail) (.ret (.out (.exit 0) [.ptr 0 0] z1))
theorem zaab:lstep tbT qJZ qDx qHA qH2 [.ptr 0 0,.sl ops .full,.int .i64 i] ⟨[[.sl r .non,.int .i64 n,.int .i64 n2,.bool false,.int .i64 0]],[],[76]⟩=qyq ops i r n n2:=by kernel_rfl
theorem qQc:qib [.ptr 0 0,.sl ops .full,.int .i64 i] ⟨[[.sl r .non,.int .i64 n,.int .i64 n2,.bool false,.int .i64 0]],[],[76]⟩=lnext qib (qyq ops i r n n2).run:=by unfold qib;rw [qaC,zaab]
end
section
variable (ops:qR) (i:Int) (r:qR) (n n2 n3:Int)
def qwk:Tr LR:=let z1:Store:=Store.mk [[.sl r .non,.int .i64 n,.int .i64 n2,.bool true,.int .i64 n3]] [] [76];.ite (iLt i (xLen ops)) (.ite (qax i) (.ite (qbl [.str []] ops (nNat i)) (.ite (qaq (qac r) n n2 n3 6 (xStr ops (nNat i) 0)) (.ite (qaA (qac r) n n2 n3 6 (xStr ops (nNat i) 0)) (.ret (.out .ret [.int .i64 (iAdd .i64 i 1)] (Store.mk [[.sl r .non,.int .i64 (iAdd .i64 n 1),.int .i64 n2,.bool true,.int .i64 n3]] [] [76]))) (.ret (.next [.ptr 0 0,.sl ops .full,.int .i64 (iAdd .i64 i 1)] z1))) .fail) .fail) .fail) (.ret (.out (.exit 0) [.ptr 0 0] z1))
theorem qWz:lstep tbT qJZ qDx qHA qH2 [.ptr 0 0,.sl ops .full,.int .i64 i] ⟨[[.sl r .non,.int .i64 n,.int .i64 n2,.bool true,.int .i64 n3]],[],[76]⟩=qwk ops i r n n2 n3:=by kernel_rfl
theorem qR1:qib [.ptr 0 0,.sl ops .full,.int .i64 i] ⟨[[.sl r .non,.int .i64 n,.int .i64 n2,.bool true,.int .i64 n3]],[],[76]⟩=lnext qib (qwk ops i r n n2 n3).run:=by unfold qib;rw [qaC,qWz]
end
section
variable (ops:qR) (i:Int) (r:qR) (n n2:Int)
def qzJ:Option (PExit×List PV×Store):=qib [.ptr 0 0,.sl ops .full,.int .i64 i] ⟨[[.sl r .non,.int .i64 n,.int .i64 n2,.bool false,.int .i64 0]],[],[76]⟩
def qwK:Int:=qkU 0 (qzJ ops i r n n2)
def qr1:Int:=qbu 0 1 (qzJ ops i r n n2)
def qDE:Bool:=isW (qzJ ops i r n n2) (.ret,[.int .i64 (qwK ops i r n n2)],⟨[[.sl r .non,.int .i64 (qr1 ops i r n n2),.int .i64 n2,.bool false,.int .i64 0]],[],[76]⟩)
def qvT:Int:=qbu 0 1 (qzJ ops i r n n2)
def qEA:Bool:=isW (qzJ ops i r n n2) ((.exit 0),[.ptr 0 0],⟨[[.sl r .non,.int .i64 (qvT ops i r n n2),.int .i64 n2,.bool false,.int .i64 0]],[],[76]⟩)
end
section
variable (ops:qR) (i:Int) (r:qR) (n n2 n3:Int)
def qtn:Option (PExit×List PV×Store):=qib [.ptr 0 0,.sl ops .full,.int .i64 i] ⟨[[.sl r .non,.int .i64 n,.int .i64 n2,.bool true,.int .i64 n3]],[],[76]⟩
def qp9:Int:=qkU 0 (qtn ops i r n n2 n3)
def qn3:Int:=qbu 0 1 (qtn ops i r n n2 n3)
def qzK:Bool:=isW (qtn ops i r n n2 n3) (.ret,[.int .i64 (qp9 ops i r n n2 n3)],⟨[[.sl r .non,.int .i64 (qn3 ops i r n n2 n3),.int .i64 n2,.bool true,.int .i64 n3]],[],[76]⟩)
def qk7:Int:=qbu 0 1 (qtn ops i r n n2 n3)
def qAY:Bool:=isW (qtn ops i r n n2 n3) ((.exit 0),[.ptr 0 0],⟨[[.sl r .non,.int .i64 (qk7 ops i r n n2 n3),.int .i64 n2,.bool true,.int .i64 n3]],[],[76]⟩)
end
def qrp:List PV→Store→Tr (PExit×List PV×Store)|[.ptr 0 0,.sl ops .full,.int .i64 i],⟨[[.sl r .non,.int .i64 n,.int .i64 n2,.bool false,.int .i64 0]],[],[76]⟩=>.ite (qDE ops i r n n2) (.ret (.ret,[.int .i64 (qwK ops i r n n2)],⟨[[.sl r .non,.int .i64 (qr1 ops i r n n2),.int .i64 n2,.bool false,.int .i64 0]],[],[76]⟩)) (.ite (qEA ops i r n n2) (.ret ((.exit 0),[.ptr 0 0],⟨[[.sl r .non,.int .i64 (qvT ops i r n n2),.int .i64 n2,.bool false,.int .i64 0]],[],[76]⟩)) (.fail))|[.ptr 0 0,.sl ops .full,.int .i64 i],⟨[[.sl r .non,.int .i64 n,.int .i64 n2,.bool true,.int .i64 n3]],[],[76]⟩=>.ite (qzK ops i r n n2 n3) (.ret (.ret,[.int .i64 (qp9 ops i r n n2 n3)],⟨[[.sl r .non,.int .i64 (qn3 ops i r n n2 n3),.int .i64 n2,.bool true,.int .i64 n3]],[],[76]⟩)) (.ite (qAY ops i r n n2 n3) (.ret ((.exit 0),[.ptr 0 0],⟨[[.sl r .non,.int .i64 (qk7 ops i r n n2 n3),.int .i64 n2,.bool true,.int .i64 n3]],[],[76]⟩)) (.fail))|_,_=>.fail
theorem qXO:∀ vs σ r,(qrp vs σ).run=some r→qib vs σ=some r:=by
 intro vs σ r h;unfold qrp at h
 split at h
 ·exact qae h fun h=>qae h fun h=>by cases h
 ·exact qae h fun h=>qae h fun h=>by cases h
 ·cases h
theorem qSQ (gl:Gl):∀ fr σ e fr' σ',(orc qH2 qrp fr σ).run=some (e,fr',σ')→LDoes Tryz.prog gl qHA fr σ e fr' σ':=qbw qaj (qSf gl ) qai (L:=qDx) (qab (by kernel_rfl)) (by kernel_rfl) qXO
def qUp:LpsT:=fun r fr σ=>bif Nat.beq r 3 then orc qH2 qrp fr σ else .fail
section
variable (r:qR) (i n:Int)
def qME:Tr (PR×Store):=let z1:qR:=[[.str [61]],[.str [33,61]],[.str [60]],[.str [60,61]],[.str [62]],[.str [62,61]]];let z2:=qac r;let z3:=qac z2;let z4:=qvT z1 0 z2 i n;.ite (qDE z1 0 z2 i n) (.ret (PR.val (.int .i64 (qwK z1 0 z2 i n)),Store.mk [[.sl (qaa z2) .non,.int .i64 (qr1 z1 0 z2 i n),.int .i64 n,.bool false,.int .i64 0]] [] [76])) (.ite (qEA z1 0 z2 i n) (.ite (qet z3 z4 n) (.ret (PR.val (.int .i64 0),Store.mk [[.sl (qaa (qaa z3)) .non,.int .i64 (qdD z3 z4 n),.int .i64 n,.bool true,.int .i64 (qcF z3 z4 n)]] [] [76])) (.ite (qeb z3 z4 n) (.ret (PR.val (.int .i64 0),Store.mk [[.sl (qaa (qaa z3)) .non,.int .i64 (qdz z3 z4 n),.int .i64 n,.bool false,.int .i64 0]] [] [76])) .fail)) .fail)
theorem zabo:(nrmM tbT qJZ qUp Tryz.f145 [.ptr 0 0] ⟨[[.sl r .non,.int .i64 i,.int .i64 n,.bool false,.int .i64 0]],[],[76]⟩).flat=qME r i n:=by kernel_rfl
def qyy:Option (PR×Store):=(qME r i n).run
def qAA:Int:=qHd (qyy r i n)
def qv3:Int:=qbC 0 1 (qyy r i n)
def qIS:Bool:=isW (qyy r i n) ((.val (.int .i64 (qAA r i n))),⟨[[.sl r .non,.int .i64 (qv3 r i n),.int .i64 n,.bool false,.int .i64 0]],[],[76]⟩)
def qDu:Int:=qHd (qyy r i n)
def qxJ:Int:=qbC 0 1 (qyy r i n)
def qw5:Int:=qbC 0 4 (qyy r i n)
def qIC:Bool:=isW (qyy r i n) ((.val (.int .i64 (qDu r i n))),⟨[[.sl r .non,.int .i64 (qxJ r i n),.int .i64 n,.bool true,.int .i64 (qw5 r i n)]],[],[76]⟩)
end
section
variable (r:qR) (i n a:Int)
def qK7:Tr (PR×Store):=let z1:qR:=[[.str [61]],[.str [33,61]],[.str [60]],[.str [60,61]],[.str [62]],[.str [62,61]]];let z2:=qac r;.ite (qzK z1 0 z2 i n a) (.ret (PR.val (.int .i64 (qp9 z1 0 z2 i n a)),Store.mk [[.sl (qaa z2) .non,.int .i64 (qn3 z1 0 z2 i n a),.int .i64 n,.bool true,.int .i64 a]] [] [76])) (.ite (qAY z1 0 z2 i n a) (.ite (qbT (qac z2) (qk7 z1 0 z2 i n a) n a) (.ret (PR.val (.int .i64 0),Store.mk [[.sl (qaa (qaa (qac z2))) .non,.int .i64 (qcC (qac z2) (qk7 z1 0 z2 i n a) n a),.int .i64 n,.bool true,.int .i64 a]] [] [76])) .fail) .fail)
theorem zaaA:(nrmM tbT qJZ qUp Tryz.f145 [.ptr 0 0] ⟨[[.sl r .non,.int .i64 i,.int .i64 n,.bool true,.int .i64 a]],[],[76]⟩).flat=qK7 r i n a:=by kernel_rfl
def qG8:Option (PR×Store):=(qK7 r i n a).run
def qMo:Int:=qHd (qG8 r i n a)
def qDQ:Int:=qbC 0 1 (qG8 r i n a)
def qFA:Bool:=isW (qG8 r i n a) ((.val (.int .i64 (qMo r i n a))),⟨[[.sl r .non,.int .i64 (qDQ r i n a),.int .i64 n,.bool true,.int .i64 a]],[],[76]⟩)
end
def qWt:List PV→Store→Tr (PR×Store)|[.ptr 0 0],⟨[[.sl r .non,.int .i64 i,.int .i64 n,.bool false,.int .i64 0]],[],[76]⟩=>.ite (qIS r i n) (.ret ((.val (.int .i64 (qAA r i n))),⟨[[.sl r .non,.int .i64 (qv3 r i n),.int .i64 n,.bool false,.int .i64 0]],[],[76]⟩)) (.ite (qIC r i n) (.ret ((.val (.int .i64 (qDu r i n))),⟨[[.sl r .non,.int .i64 (qxJ r i n),.int .i64 n,.bool true,.int .i64 (qw5 r i n)]],[],[76]⟩)) (.fail))|[.ptr 0 0],⟨[[.sl r .non,.int .i64 i,.int .i64 n,.bool true,.int .i64 a]],[],[76]⟩=>.ite (qFA r i n a) (.ret ((.val (.int .i64 (qMo r i n a))),⟨[[.sl r .non,.int .i64 (qDQ r i n a),.int .i64 n,.bool true,.int .i64 a]],[],[76]⟩)) (.fail)|_,_=>.fail
theorem qX6 (gl:Gl):SimM Tryz.prog gl 145 fun args σ=>(qWt args σ).run:=by
 refine SimM.of_nrm (G:=qJZ) (L:=qUp) qaj (qSf gl ) qai Tryz.func145 rfl (by rfl) (by kernel_rfl) (qav (L:=lps qUp) [(3,qHA)] (by kernel_rfl) (List.forall_mem_cons.2 ⟨fun fr σ e fr' σ' h=>qSQ gl  fr σ e fr' σ' h,(List.forall_mem_nil _)⟩)) ?_
 intro args σ x h;unfold qWt at h
 split at h
 ·exact (congrArg Tr.run (zabo _ _ _)).trans (qae h fun h=>qae h fun h=>by cases h)
 ·exact (congrArg Tr.run (zaaA _ _ _ _)).trans (qae h fun h=>by cases h)
 ·cases h
end Go.Pv
set_option maxHeartbeats 4000000
set_option maxRecDepth 200000
set_option linter.unusedSimpArgs false
set_option linter.unusedVariables false
namespace Go.Pv
open Go Go.Proofs
def qQH:GamT:=ofL [(37,.pure qd3),(52,.may (frameT qzc)),(114,.may (frameT qDJ)),(143,.pure qE1),(145,.may (frameT qWt))]
theorem qUF (gl:Gl):qal Tryz.prog gl (gam qQH):=(qag (qcj gl) (qah (SimM.frameT (qyr gl)) (qah (SimM.frameT (qH6 gl)) (qag (qGu gl) (qah (SimM.frameT (qX6 gl)) qaf)))))
def qVz:LpsT:=fun r fr σ=>.fail
section
variable (r:qR) (i n:Int)
def qhF:Tr (PR×Store):=let z1:=qac (qac r);let z2:=iAdd .i64 i 1;let z3:=qaa (qaa z1);let z4:=qac (qaa z1);let z5:=qfu z1 i n;let z6:=qfM z1 i n;let z7:=qac (qaa z4);let z8:=qDQ z4 z5 n z6;let z9:=qaa (qaa z7);let z10:=qfC z1 i n;let z11:=qv3 z4 z10 n;let z12:=qio z1 i n;let z13:=qhS z1 i n;let z14:=qfx z1 i n;let z15:=qfN z1 i n;let z16:=qfz z1 i n;let z17:=qxJ z4 z10 n;let z18:=qw5 z4 z10 n;.ite (qaL z1 i n 1 [110,111,116]) (.ite (qbj z1 i n 1 [110,111,116]) (.ite (qgi z1 z2 n) (.ret (PR.val (.agg [.int .i64 2,.str (qe5 z1 z2 n),.sl (qaa (qaa (qe6 z1 z2 n))) .non,.int .i64 0,.int .i64 0,.str [],.int .i64 0,.int .i64 0,.str [],.int .i64 0,.str [],.int .i64 0,.int .i64 0,.str []]),Store.mk [[.sl z3 .non,.int .i64 (qeQ z1 z2 n),.int .i64 n,.bool true,.int .i64 (qdA z1 z2 n)]] [] [76])) (.ite (qgB z1 z2 n) (.ret (PR.val (.agg [.int .i64 2,.str (qeN z1 z2 n),.sl (qaa (qaa (qe0 z1 z2 n))) .non,.int .i64 0,.int .i64 0,.str [],.int .i64 0,.int .i64 0,.str [],.int .i64 0,.str [],.int .i64 0,.int .i64 0,.str []]),Store.mk [[.sl z3 .non,.int .i64 (qeZ z1 z2 n),.int .i64 n,.bool false,.int .i64 0]] [] [76])) .fail)) (.ite (qqA z1 i n) (.ite (qzl z1 i n) (.ite (qgi z1 i n) (.ret (PR.val (.agg [.int .i64 1,.str (qe5 z1 i n),.sl (qaa (qaa (qe6 z1 i n))) .non,.int .i64 0,.int .i64 0,.str [],.int .i64 0,.int .i64 0,.str [],.int .i64 0,.str [],.int .i64 0,.int .i64 0,.str []]),Store.mk [[.sl z3 .non,.int .i64 (qeQ z1 i n),.int .i64 n,.bool true,.int .i64 (qdA z1 i n)]] [] [76])) (.ite (qgB z1 i n) (.ret (PR.val (.agg [.int .i64 1,.str (qeN z1 i n),.sl (qaa (qaa (qe0 z1 i n))) .non,.int .i64 0,.int .i64 0,.str [],.int .i64 0,.int .i64 0,.str [],.int .i64 0,.str [],.int .i64 0,.int .i64 0,.str []]),Store.mk [[.sl z3 .non,.int .i64 (qeZ z1 i n),.int .i64 n,.bool false,.int .i64 0]] [] [76])) .fail)) (.ite (qls z1 i n) (.ite (qFA z4 z5 n z6) (.ite (qiz z7 z8 n z6) (.ret (PR.val (.agg [.int .i64 3,.str [],.sl [] .non,.int .i64 (qMo z4 z5 n z6),.int .i64 (qim z1 i n),.str (qiv z1 i n),.int .i64 (qfR z1 i n),.int .i64 (qfP z1 i n),.str (qfw z1 i n),.int .i64 (qmP z7 z8 n z6),.str (qn4 z7 z8 n z6),.int .i64 (qiS z7 z8 n z6),.int .i64 (qiw z7 z8 n z6),.str (qiZ z7 z8 n z6)]),Store.mk [[.sl z9 .non,.int .i64 (qi0 z7 z8 n z6),.int .i64 n,.bool true,.int .i64 z6]] [] [76])) .fail) .fail) (.ite (qle z1 i n) (.ite (qIS z4 z10 n) (.ite (qls z7 z11 n) (.ret (PR.val (.agg [.int .i64 3,.str [],.sl [] .non,.int .i64 (qAA z4 z10 n),.int .i64 z12,.str z13,.int .i64 z14,.int .i64 z15,.str z16,.int .i64 (qim z7 z11 n),.str (qiv z7 z11 n),.int .i64 (qfR z7 z11 n),.int .i64 (qfP z7 z11 n),.str (qfw z7 z11 n)]),Store.mk [[.sl z9 .non,.int .i64 (qfu z7 z11 n),.int .i64 n,.bool true,.int .i64 (qfM z7 z11 n)]] [] [76])) (.ite (qle z7 z11 n) (.ret (PR.val (.agg [.int .i64 3,.str [],.sl [] .non,.int .i64 (qAA z4 z10 n),.int .i64 z12,.str z13,.int .i64 z14,.int .i64 z15,.str z16,.int .i64 (qio z7 z11 n),.str (qhS z7 z11 n),.int .i64 (qfx z7 z11 n),.int .i64 (qfN z7 z11 n),.str (qfz z7 z11 n)]),Store.mk [[.sl z9 .non,.int .i64 (qfC z7 z11 n),.int .i64 n,.bool false,.int .i64 0]] [] [76])) .fail)) (.ite (qIC z4 z10 n) (.ite (qiz z7 z17 n z18) (.ret (PR.val (.agg [.int .i64 3,.str [],.sl [] .non,.int .i64 (qDu z4 z10 n),.int .i64 z12,.str z13,.int .i64 z14,.int .i64 z15,.str z16,.int .i64 (qmP z7 z17 n z18),.str (qn4 z7 z17 n z18),.int .i64 (qiS z7 z17 n z18),.int .i64 (qiw z7 z17 n z18),.str (qiZ z7 z17 n z18)]),Store.mk [[.sl z9 .non,.int .i64 (qi0 z7 z17 n z18),.int .i64 n,.bool true,.int .i64 z18]] [] [76])) .fail) .fail)) .fail))) .fail)) .fail
theorem qZJ:(nrmM tbT qQH qVz Tryz.f95 [.ptr 0 0] ⟨[[.sl r .non,.int .i64 i,.int .i64 n,.bool false,.int .i64 0]],[],[76]⟩).flat=qhF r i n:=by kernel_rfl
def qa8:Option (PR×Store):=(qhF r i n).run
def qvM:Int:=qbg 0 (qa8 r i n)
def qwQ:qU:=qbo 1 (qa8 r i n)
def qwm:qR:=qcX 2 (qa8 r i n)
def qqe:Int:=qbg 3 (qa8 r i n)
def qrU:Int:=qbg 4 (qa8 r i n)
def qrB:qU:=qbo 5 (qa8 r i n)
def qrr:Int:=qbg 6 (qa8 r i n)
def qs8:Int:=qbg 7 (qa8 r i n)
def qq9:qU:=qbo 8 (qa8 r i n)
def qsG:Int:=qbg 9 (qa8 r i n)
def qqU:qU:=qbo 10 (qa8 r i n)
def qth:Int:=qbg 11 (qa8 r i n)
def qss:Int:=qbg 12 (qa8 r i n)
def qsA:qU:=qbo 13 (qa8 r i n)
def qqr:Int:=qbC 0 1 (qa8 r i n)
def qn6:Int:=qbC 0 4 (qa8 r i n)
def qGe:Bool:=isW (qa8 r i n) ((.val (.agg [.int .i64 (qvM r i n),.str (qwQ r i n),.sl (qwm r i n) .non,.int .i64 (qqe r i n),.int .i64 (qrU r i n),.str (qrB r i n),.int .i64 (qrr r i n),.int .i64 (qs8 r i n),.str (qq9 r i n),.int .i64 (qsG r i n),.str (qqU r i n),.int .i64 (qth r i n),.int .i64 (qss r i n),.str (qsA r i n)])),⟨[[.sl r .non,.int .i64 (qqr r i n),.int .i64 n,.bool true,.int .i64 (qn6 r i n)]],[],[76]⟩)
def qwu:Int:=qbg 0 (qa8 r i n)
def qwY:qU:=qbo 1 (qa8 r i n)
def qwB:qR:=qcX 2 (qa8 r i n)
def qs6:Int:=qbg 3 (qa8 r i n)
def qrD:Int:=qbg 4 (qa8 r i n)
def qrF:qU:=qbo 5 (qa8 r i n)
def qrb:Int:=qbg 6 (qa8 r i n)
def qrH:Int:=qbg 7 (qa8 r i n)
def qqu:qU:=qbo 8 (qa8 r i n)
def qrv:Int:=qbg 9 (qa8 r i n)
def qqJ:qU:=qbo 10 (qa8 r i n)
def qr2:Int:=qbg 11 (qa8 r i n)
def qsO:Int:=qbg 12 (qa8 r i n)
def qqW:qU:=qbo 13 (qa8 r i n)
def qqZ:Int:=qbC 0 1 (qa8 r i n)
def qF9:Bool:=isW (qa8 r i n) ((.val (.agg [.int .i64 (qwu r i n),.str (qwY r i n),.sl (qwB r i n) .non,.int .i64 (qs6 r i n),.int .i64 (qrD r i n),.str (qrF r i n),.int .i64 (qrb r i n),.int .i64 (qrH r i n),.str (qqu r i n),.int .i64 (qrv r i n),.str (qqJ r i n),.int .i64 (qr2 r i n),.int .i64 (qsO r i n),.str (qqW r i n)])),⟨[[.sl r .non,.int .i64 (qqZ r i n),.int .i64 n,.bool false,.int .i64 0]],[],[76]⟩)
end
def qRN:List PV→Store→Tr (PR×Store)|[.ptr 0 0],⟨[[.sl r .non,.int .i64 i,.int .i64 n,.bool false,.int .i64 0]],[],[76]⟩=>.ite (qGe r i n) (.ret ((.val (.agg [.int .i64 (qvM r i n),.str (qwQ r i n),.sl (qwm r i n) .non,.int .i64 (qqe r i n),.int .i64 (qrU r i n),.str (qrB r i n),.int .i64 (qrr r i n),.int .i64 (qs8 r i n),.str (qq9 r i n),.int .i64 (qsG r i n),.str (qqU r i n),.int .i64 (qth r i n),.int .i64 (qss r i n),.str (qsA r i n)])),⟨[[.sl r .non,.int .i64 (qqr r i n),.int .i64 n,.bool true,.int .i64 (qn6 r i n)]],[],[76]⟩)) (.ite (qF9 r i n) (.ret ((.val (.agg [.int .i64 (qwu r i n),.str (qwY r i n),.sl (qwB r i n) .non,.int .i64 (qs6 r i n),.int .i64 (qrD r i n),.str (qrF r i n),.int .i64 (qrb r i n),.int .i64 (qrH r i n),.str (qqu r i n),.int .i64 (qrv r i n),.str (qqJ r i n),.int .i64 (qr2 r i n),.int .i64 (qsO r i n),.str (qqW r i n)])),⟨[[.sl r .non,.int .i64 (qqZ r i n),.int .i64 n,.bool false,.int .i64 0]],[],[76]⟩)) (.fail))|_,_=>.fail
theorem qUV (gl:Gl):SimM Tryz.prog gl 95 fun args σ=>(qRN args σ).run:=by
 refine SimM.of_nrm (G:=qQH) (L:=qVz) qaj (qUF gl ) qai Tryz.func95 rfl (by rfl) (by kernel_rfl) (qab (by kernel_rfl)) ?_
 intro args σ x h;unfold qRN at h
 split at h
 ·exact (congrArg Tr.run (qZJ _ _ _)).trans (qae h fun h=>qae h fun h=>by cases h)
 ·cases h
def qAc:GamT:=ofL [(37,.pure qd3),(52,.may (frameT qzc)),(90,.may (frameT qpZ)),(95,.may (frameT qRN)),(qom,.hint [(6,2,14,96)])]
theorem qHy (gl:Gl):qal Tryz.prog gl (gam qAc):=(qag (qcj gl) (qah (SimM.frameT (qyr gl)) (qah (SimM.frameT (qlf gl)) (qah (SimM.frameT (qUV gl)) (qbN (K:=.hint [(6,2,14,96)]) trivial qaf)))))
def qwl:Code:=qc2 Tryz.f40 4
def qwa:LI:=⟨41,[0,2,3],fun e=>match e with|.exit 0=>[0,2,3]|_=>[],false⟩
def qz7:LpsT:=fun r fr σ=>.fail
def qft (vs:List PV) (σ:Store):Option (PExit×List PV×Store):=lval (lstep tbT qAc qz7 qwl qwa) vs σ
section
variable (r:qR) (n n2:Int) (s:qU) (r2 r3:qR) (s2:qU) (r4 r5:qR) (k:Nat)
def qip:Tr LR:=let z1:=qac r;let z2:List PV:=[.str s2,.sl r4 .non,.sl r5 (.tok 0)];let z3:qR:=[[.int .i64 (qvM z1 n n2),.str (qwQ z1 n n2),.sl (qaa (qwm z1 n n2)) .non,.int .i64 (qqe z1 n n2),.int .i64 (qrU z1 n n2),.str (qrB z1 n n2),.int .i64 (qrr z1 n n2),.int .i64 (qs8 z1 n n2),.str (qq9 z1 n n2),.int .i64 (qsG z1 n n2),.str (qqU z1 n n2),.int .i64 (qth z1 n n2),.int .i64 (qss z1 n n2),.str (qsA z1 n n2)]];let z4:=qaa z1;let z5:=qqr z1 n n2;let z6:=qn6 z1 n n2;let z7:List PV:=[.ptr 0 0,.ptr 1 0,.ptr 2 0];let z8:List PV:=[.str s,.sl r2 .full,.sl r3 .full];let z9:List PV:=[.str s2,.sl r4 .non,.sl (xApp r5 z3) (.tok 0)];let z10:qR:=[[.int .i64 (qwu z1 n n2),.str (qwY z1 n n2),.sl (qaa (qwB z1 n n2)) .non,.int .i64 (qs6 z1 n n2),.int .i64 (qrD z1 n n2),.str (qrF z1 n n2),.int .i64 (qrb z1 n n2),.int .i64 (qrH z1 n n2),.str (qqu z1 n n2),.int .i64 (qrv z1 n n2),.str (qqJ z1 n n2),.int .i64 (qr2 z1 n n2),.int .i64 (qsO z1 n n2),.str (qqW z1 n n2)]];let z11:=qqZ z1 n n2;let z12:List PV:=[.str s2,.sl r4 .non,.sl (xApp r5 z10) (.tok 0)];.ite true (.ite (qGe z1 n n2) (.ite (qdY z2 z2) (.ite (qas r5 z3 168) (.ite (qap z3 14) (.ite (qan r5 14) (.ite (nEq k (nXs r5)) (.ite (qaq (qac z4) z5 n2 z6 6 [44]) (.ite (bNot (qaA (qac z4) z5 n2 z6 6 [44])) (.ret (.out (.exit 0) z7 (Store.mk [[.sl z4 .non,.int .i64 z5,.int .i64 n2,.bool true,.int .i64 z6],z8,z9] [(nXs (xApp r5 z3),14,96)] [76,51,51]))) (.ret (.next z7 (Store.mk [[.sl z4 .non,.int .i64 (iAdd .i64 z5 1),.int .i64 n2,.bool true,.int .i64 z6],z8,z9] [(nXs (xApp r5 z3),14,96)] [76,51,51])))) .fail) .fail) .fail) .fail) .fail) .fail) (.ite (qF9 z1 n n2) (.ite (qdY z2 z2) (.ite (qas r5 z10 168) (.ite (qap z10 14) (.ite (qan r5 14) (.ite (nEq k (nXs r5)) (.ite (qaL (qac z4) z11 n2 6 [44]) (.ite (bNot (qbj (qac z4) z11 n2 6 [44])) (.ret (.out (.exit 0) z7 (Store.mk [[.sl z4 .non,.int .i64 z11,.int .i64 n2,.bool false,.int .i64 0],z8,z12] [(nXs (xApp r5 z10),14,96)] [76,51,51]))) (.ret (.next z7 (Store.mk [[.sl z4 .non,.int .i64 (iAdd .i64 z11 1),.int .i64 n2,.bool false,.int .i64 0],z8,z12] [(nXs (xApp r5 z10),14,96)] [76,51,51])))) .fail) .fail) .fail) .fail) .fail) .fail) .fail)) (.ret (.out (.exit 0) z7 (Store.mk [[.sl r .non,.int .i64 n,.int .i64 n2,.bool false,.int .i64 0],z8,z2] [(k,14,96)] [76,51,51])))
theorem qOH:lstep tbT qAc qz7 qwl qwa [.ptr 0 0,.ptr 1 0,.ptr 2 0] ⟨[[.sl r .non,.int .i64 n,.int .i64 n2,.bool false,.int .i64 0],[.str s,.sl r2 .full,.sl r3 .full],[.str s2,.sl r4 .non,.sl r5 (.tok 0)]],[(k,14,96)],[76,51,51]⟩=qip r n n2 s r2 r3 s2 r4 r5 k:=by kernel_rfl
theorem qzw:qft [.ptr 0 0,.ptr 1 0,.ptr 2 0] ⟨[[.sl r .non,.int .i64 n,.int .i64 n2,.bool false,.int .i64 0],[.str s,.sl r2 .full,.sl r3 .full],[.str s2,.sl r4 .non,.sl r5 (.tok 0)]],[(k,14,96)],[76,51,51]⟩=lnext qft (qip r n n2 s r2 r3 s2 r4 r5 k).run:=by unfold qft;rw [qaC,qOH]
end
section
variable (r:qR) (n n2 n3:Int) (s:qU) (r2 r3:qR) (s2:qU) (r4 r5:qR) (k:Nat)
def qxp:Option (PExit×List PV×Store):=qft [.ptr 0 0,.ptr 1 0,.ptr 2 0] ⟨[[.sl r .non,.int .i64 n,.int .i64 n2,.bool true,.int .i64 n3],[.str s,.sl r2 .full,.sl r3 .full],[.str s2,.sl r4 .non,.sl r5 (.tok 0)]],[(k,14,96)],[76,51,51]⟩
def qv6:Int:=qbu 0 1 (qxp r n n2 n3 s r2 r3 s2 r4 r5 k)
def qq4:qR:=qaO 2 2 (qxp r n n2 n3 s r2 r3 s2 r4 r5 k)
def qGm:Nat:=(gTok (qxp r n n2 n3 s r2 r3 s2 r4 r5 k) 0)
def qtX:Bool:=isW (qxp r n n2 n3 s r2 r3 s2 r4 r5 k) ((.exit 0),[.ptr 0 0,.ptr 1 0,.ptr 2 0],⟨[[.sl r .non,.int .i64 (qv6 r n n2 n3 s r2 r3 s2 r4 r5 k),.int .i64 n2,.bool true,.int .i64 n3],[.str s,.sl r2 .full,.sl r3 .full],[.str s2,.sl r4 .non,.sl (qq4 r n n2 n3 s r2 r3 s2 r4 r5 k) (.tok 0)]],[((qGm r n n2 n3 s r2 r3 s2 r4 r5 k),14,96)],[76,51,51]⟩)
end
section
variable (r:qR) (n n2:Int) (s:qU) (r2 r3:qR) (s2:qU) (r4 r5:qR) (k:Nat)
def qck:Option (PExit×List PV×Store):=qft [.ptr 0 0,.ptr 1 0,.ptr 2 0] ⟨[[.sl r .non,.int .i64 n,.int .i64 n2,.bool false,.int .i64 0],[.str s,.sl r2 .full,.sl r3 .full],[.str s2,.sl r4 .non,.sl r5 (.tok 0)]],[(k,14,96)],[76,51,51]⟩
def qkA:Int:=qbu 0 1 (qck r n n2 s r2 r3 s2 r4 r5 k)
def qg9:Int:=qbu 0 4 (qck r n n2 s r2 r3 s2 r4 r5 k)
def qgV:qR:=qaO 2 2 (qck r n n2 s r2 r3 s2 r4 r5 k)
def qpk:Nat:=(gTok (qck r n n2 s r2 r3 s2 r4 r5 k) 0)
def qoD:Bool:=isW (qck r n n2 s r2 r3 s2 r4 r5 k) ((.exit 0),[.ptr 0 0,.ptr 1 0,.ptr 2 0],⟨[[.sl r .non,.int .i64 (qkA r n n2 s r2 r3 s2 r4 r5 k),.int .i64 n2,.bool true,.int .i64 (qg9 r n n2 s r2 r3 s2 r4 r5 k)],[.str s,.sl r2 .full,.sl r3 .full],[.str s2,.sl r4 .non,.sl (qgV r n n2 s r2 r3 s2 r4 r5 k) (.tok 0)]],[((qpk r n n2 s r2 r3 s2 r4 r5 k),14,96)],[76,51,51]⟩)
def qkm:Int:=qbu 0 1 (qck r n n2 s r2 r3 s2 r4 r5 k)
def qha:qR:=qaO 2 2 (qck r n n2 s r2 r3 s2 r4 r5 k)
def qo7:Nat:=(gTok (qck r n n2 s r2 r3 s2 r4 r5 k) 0)
def qoP:Bool:=isW (qck r n n2 s r2 r3 s2 r4 r5 k) ((.exit 0),[.ptr 0 0,.ptr 1 0,.ptr 2 0],⟨[[.sl r .non,.int .i64 (qkm r n n2 s r2 r3 s2 r4 r5 k),.int .i64 n2,.bool false,.int .i64 0],[.str s,.sl r2 .full,.sl r3 .full],[.str s2,.sl r4 .non,.sl (qha r n n2 s r2 r3 s2 r4 r5 k) (.tok 0)]],[((qo7 r n n2 s r2 r3 s2 r4 r5 k),14,96)],[76,51,51]⟩)
end
def qi8:List PV→Store→Tr (PExit×List PV×Store)|[.ptr 0 0,.ptr 1 0,.ptr 2 0],⟨[[.sl r .non,.int .i64 n,.int .i64 n2,.bool true,.int .i64 n3],[.str s,.sl r2 .full,.sl r3 .full],[.str s2,.sl r4 .non,.sl r5 (.tok 0)]],[(k,14,96)],[76,51,51]⟩=>.ite (qtX r n n2 n3 s r2 r3 s2 r4 r5 k) (.ret ((.exit 0),[.ptr 0 0,.ptr 1 0,.ptr 2 0],⟨[[.sl r .non,.int .i64 (qv6 r n n2 n3 s r2 r3 s2 r4 r5 k),.int .i64 n2,.bool true,.int .i64 n3],[.str s,.sl r2 .full,.sl r3 .full],[.str s2,.sl r4 .non,.sl (qq4 r n n2 n3 s r2 r3 s2 r4 r5 k) (.tok 0)]],[((qGm r n n2 n3 s r2 r3 s2 r4 r5 k),14,96)],[76,51,51]⟩)) (.fail)|[.ptr 0 0,.ptr 1 0,.ptr 2 0],⟨[[.sl r .non,.int .i64 n,.int .i64 n2,.bool false,.int .i64 0],[.str s,.sl r2 .full,.sl r3 .full],[.str s2,.sl r4 .non,.sl r5 (.tok 0)]],[(k,14,96)],[76,51,51]⟩=>.ite (qoD r n n2 s r2 r3 s2 r4 r5 k) (.ret ((.exit 0),[.ptr 0 0,.ptr 1 0,.ptr 2 0],⟨[[.sl r .non,.int .i64 (qkA r n n2 s r2 r3 s2 r4 r5 k),.int .i64 n2,.bool true,.int .i64 (qg9 r n n2 s r2 r3 s2 r4 r5 k)],[.str s,.sl r2 .full,.sl r3 .full],[.str s2,.sl r4 .non,.sl (qgV r n n2 s r2 r3 s2 r4 r5 k) (.tok 0)]],[((qpk r n n2 s r2 r3 s2 r4 r5 k),14,96)],[76,51,51]⟩)) (.ite (qoP r n n2 s r2 r3 s2 r4 r5 k) (.ret ((.exit 0),[.ptr 0 0,.ptr 1 0,.ptr 2 0],⟨[[.sl r .non,.int .i64 (qkm r n n2 s r2 r3 s2 r4 r5 k),.int .i64 n2,.bool false,.int .i64 0],[.str s,.sl r2 .full,.sl r3 .full],[.str s2,.sl r4 .non,.sl (qha r n n2 s r2 r3 s2 r4 r5 k) (.tok 0)]],[((qo7 r n n2 s r2 r3 s2 r4 r5 k),14,96)],[76,51,51]⟩)) (.fail))|_,_=>.fail
theorem qQy:∀ vs σ r,(qi8 vs σ).run=some r→qft vs σ=some r:=by
 intro vs σ r h;unfold qi8 at h
 split at h
 ·exact qae h fun h=>by cases h
 ·exact qae h fun h=>qae h fun h=>by cases h
 ·cases h
theorem qJK (gl:Gl):∀ fr σ e fr' σ',(orc qwa qi8 fr σ).run=some (e,fr',σ')→LDoes Tryz.prog gl qwl fr σ e fr' σ':=qbw qaj (qHy gl ) qai (L:=qz7) (qab (by kernel_rfl)) (by kernel_rfl) qQy
def qKh:LpsT:=fun r fr σ=>bif Nat.beq r 4 then orc qwa qi8 fr σ else .fail
section
variable (r:qR) (i n:Int)
def qgZ:Tr (PR×Store):=let z1:=qac (qac r);let z2:=qaa z1;let z3:=qac z2;let z4:=qeQ z1 i n;let z5:=qdA z1 i n;let z6:=iAdd .i64 z4 1;let z7:=qe5 z1 i n;let z8:=qaa (qe6 z1 i n);let z9:=qv6 z2 z6 n z5 [] [] [] z7 z8 [] 0;let z10:=qaa (qaa z3);let z11:=qeZ z1 i n;let z12:=iAdd .i64 z11 1;let z13:=qeN z1 i n;let z14:=qaa (qe0 z1 i n);let z15:=qkA z2 z12 n [] [] [] z13 z14 [] 0;let z16:=qg9 z2 z12 n [] [] [] z13 z14 [] 0;let z17:=qkm z2 z12 n [] [] [] z13 z14 [] 0;let z18:PV:=.agg [.str z13,.sl (qaa z14) .non,.sl (qaa (qha z2 z12 n [] [] [] z13 z14 [] 0)) .non];let z19:PV:=.agg [.str z13,.sl (qaa z14) .non,.sl [] .non];.ite (qgi z1 i n) (.ite (qaq z3 z4 n z5 6 [58,45]) (.ite (qaA z3 z4 n z5 6 [58,45]) (.ite (qtX z2 z6 n z5 [] [] [] z7 z8 [] 0) (.ite (qat [46] z3 z9 n z5) (.ret (PR.val (.agg [.str z7,.sl (qaa z8) .non,.sl (qaa (qq4 z2 z6 n z5 [] [] [] z7 z8 [] 0)) .non]),Store.mk [[.sl z10 .non,.int .i64 (qaD [46] z3 z9 n z5),.int .i64 n,.bool true,.int .i64 z5]] [] [76])) .fail) .fail) (.ite (qat [46] z3 z4 n z5) (.ret (PR.val (.agg [.str z7,.sl (qaa z8) .non,.sl [] .non]),Store.mk [[.sl z10 .non,.int .i64 (qaD [46] z3 z4 n z5),.int .i64 n,.bool true,.int .i64 z5]] [] [76])) .fail)) .fail) (.ite (qgB z1 i n) (.ite (qaL z3 z11 n 6 [58,45]) (.ite (qbj z3 z11 n 6 [58,45]) (.ite (qoD z2 z12 n [] [] [] z13 z14 [] 0) (.ite (qat [46] z3 z15 n z16) (.ret (PR.val (.agg [.str z13,.sl (qaa z14) .non,.sl (qaa (qgV z2 z12 n [] [] [] z13 z14 [] 0)) .non]),Store.mk [[.sl z10 .non,.int .i64 (qaD [46] z3 z15 n z16),.int .i64 n,.bool true,.int .i64 z16]] [] [76])) .fail) (.ite (qoP z2 z12 n [] [] [] z13 z14 [] 0) (.ite (qbR [46] z3 z17 n) (.ret (PR.val z18,Store.mk [[.sl z10 .non,.int .i64 (qbr [46] z3 z17 n),.int .i64 n,.bool true,.int .i64 (qbi [46] z3 z17 n)]] [] [76])) (.ite (qbM [46] z3 z17 n) (.ret (PR.val z18,Store.mk [[.sl z10 .non,.int .i64 (qbB [46] z3 z17 n),.int .i64 n,.bool false,.int .i64 0]] [] [76])) .fail)) .fail)) (.ite (qbR [46] z3 z11 n) (.ret (PR.val z19,Store.mk [[.sl z10 .non,.int .i64 (qbr [46] z3 z11 n),.int .i64 n,.bool true,.int .i64 (qbi [46] z3 z11 n)]] [] [76])) (.ite (qbM [46] z3 z11 n) (.ret (PR.val z19,Store.mk [[.sl z10 .non,.int .i64 (qbB [46] z3 z11 n),.int .i64 n,.bool false,.int .i64 0]] [] [76])) .fail))) .fail) .fail)
theorem qYo:(nrmM tbT qAc qKh Tryz.f40 [.ptr 0 0] ⟨[[.sl r .non,.int .i64 i,.int .i64 n,.bool false,.int .i64 0]],[],[76]⟩).flat=qgZ r i n:=by kernel_rfl
def qcu:Option (PR×Store):=(qgZ r i n).run
def qtg:qU:=qbo 0 (qcu r i n)
def qrn:qR:=qcX 1 (qcu r i n)
def qmL:qR:=qcX 2 (qcu r i n)
def qrs:Int:=qbC 0 1 (qcu r i n)
def qnd:Int:=qbC 0 4 (qcu r i n)
def qy4:Bool:=isW (qcu r i n) ((.val (.agg [.str (qtg r i n),.sl (qrn r i n) .non,.sl (qmL r i n) .non])),⟨[[.sl r .non,.int .i64 (qrs r i n),.int .i64 n,.bool true,.int .i64 (qnd r i n)]],[],[76]⟩)
def qsl:qU:=qbo 0 (qcu r i n)
def qqV:qR:=qcX 1 (qcu r i n)
def qnI:qR:=qcX 2 (qcu r i n)
def qrW:Int:=qbC 0 1 (qcu r i n)
def qyt:Bool:=isW (qcu r i n) ((.val (.agg [.str (qsl r i n),.sl (qqV r i n) .non,.sl (qnI r i n) .non])),⟨[[.sl r .non,.int .i64 (qrW r i n),.int .i64 n,.bool false,.int .i64 0]],[],[76]⟩)
end
def qJM:List PV→Store→Tr (PR×Store)|[.ptr 0 0],⟨[[.sl r .non,.int .i64 i,.int .i64 n,.bool false,.int .i64 0]],[],[76]⟩=>.ite (qy4 r i n) (.ret ((.val (.agg [.str (qtg r i n),.sl (qrn r i n) .non,.sl (qmL r i n) .non])),⟨[[.sl r .non,.int .i64 (qrs r i n),.int .i64 n,.bool true,.int .i64 (qnd r i n)]],[],[76]⟩)) (.ite (qyt r i n) (.ret ((.val (.agg [.str (qsl r i n),.sl (qqV r i n) .non,.sl (qnI r i n) .non])),⟨[[.sl r .non,.int .i64 (qrW r i n),.int .i64 n,.bool false,.int .i64 0]],[],[76]⟩)) (.fail))|_,_=>.fail
theorem qR3 (gl:Gl):SimM Tryz.prog gl 40 fun args σ=>(qJM args σ).run:=by
 refine SimM.of_nrm (G:=qAc) (L:=qKh) qaj (qHy gl ) qai Tryz.func40 rfl (by rfl) (by kernel_rfl) (qav (L:=lps qKh) [(4,qwl)] (by kernel_rfl) (List.forall_mem_cons.2 ⟨fun fr σ e fr' σ' h=>qJK gl  fr σ e fr' σ' h,(List.forall_mem_nil _)⟩)) ?_
 intro args σ x h;unfold qJM at h
 split at h
 ·exact (congrArg Tr.run (qYo _ _ _)).trans (qae h fun h=>qae h fun h=>by cases h)
 ·cases h
end Go.Pv
set_option maxHeartbeats 4000000
set_option maxRecDepth 200000
set_option linter.unusedSimpArgs false
set_option linter.unusedVariables false
namespace Go.Pv
open Go Go.Proofs
def qtQ:GamT:=ofL [(37,.pure qd3),(89,.may (frameT qqk)),(90,.may (frameT qpZ)),(91,.may (frameT qGg)),(92,.may (frameT qkl)),(qom,.hint [(16,2,1,112)])]
theorem qGY (gl:Gl):qal Tryz.prog gl (gam qtQ):=(qag (qcj gl) (qah (SimM.frameT (quK gl)) (qah (SimM.frameT (qlf gl)) (qah (SimM.frameT (qGE gl)) (qah (SimM.frameT (qiX gl)) (qbN (K:=.hint [(16,2,1,112)]) trivial qaf))))))
def qrK:Code:=qc2 Tryz.f38 4
def qqN:LI:=⟨55,[0,4,5],fun e=>match e with|.exit 0=>[0,4,5]|_=>[],false⟩
def qr4:LpsT:=fun r fr σ=>.fail
def qcy (vs:List PV) (σ:Store):Option (PExit×List PV×Store):=lval (lstep tbT qtQ qr4 qrK qqN) vs σ
section
variable (r:qR) (n n2 n3:Int) (s:qU) (b:Bool) (r2:qR) (s2:qU) (b2:Bool) (r3:qR) (k:Nat)
def qAJ:Tr LR:=let z1:=qac r;let z2:List PV:=[.str s2,.bool b2,.sl r3 (.tok 0)];let z3:qR:=[[.int .i64 (qmC z1 n n2 n3)]];let z4:=qac (qaa z1);let z5:=qh7 z1 n n2 n3;let z6:List PV:=[.ptr 0 0,.ptr 1 0,.ptr 2 0];let z7:List PV:=[.str s,.bool b,.sl r2 .full];let z8:List PV:=[.str s2,.bool b2,.sl (xApp r3 z3) (.tok 0)];let z9:=iAdd .i64 z5 1;.ite false (.ite (qaq z1 n n2 n3 6 [41]) (.ite (bNot (qaA z1 n n2 n3 6 [41])) (.ite (qiy z1 n n2 n3) (.ite (qdY z2 z2) (.ite (qas r3 z3 8) (.ite (qap z3 1) (.ite (qan r3 1) (.ite (nEq k (nXs r3)) (.ite (qaq z4 z5 n2 n3 6 [44]) (.ite (bNot (qaA z4 z5 n2 n3 6 [44])) (.ret (.out (.exit 0) z6 (Store.mk [[.sl (qaa z1) .non,.int .i64 z5,.int .i64 n2,.bool true,.int .i64 n3],z7,z8] [(nXs (xApp r3 z3),1,112)] [76,80,80]))) (.ite (qaq z4 z9 n2 n3 6 [41]) (.ite (qaA z4 z9 n2 n3 6 [41]) (.ite (qbT z4 z9 n2 n3) (.ret (.next z6 (Store.mk [[.sl (qaa z4) .non,.int .i64 (qcC z4 z9 n2 n3),.int .i64 n2,.bool true,.int .i64 n3],z7,z8] [(nXs (xApp r3 z3),1,112)] [76,80,80]))) .fail) (.ret (.next z6 (Store.mk [[.sl (qaa z1) .non,.int .i64 z9,.int .i64 n2,.bool true,.int .i64 n3],z7,z8] [(nXs (xApp r3 z3),1,112)] [76,80,80])))) .fail)) .fail) .fail) .fail) .fail) .fail) .fail) .fail) (.ret (.out (.exit 0) z6 (Store.mk [[.sl r .non,.int .i64 n,.int .i64 n2,.bool true,.int .i64 n3],z7,z2] [(k,1,112)] [76,80,80])))) .fail) (.ret (.out (.exit 0) z6 (Store.mk [[.sl r .non,.int .i64 n,.int .i64 n2,.bool true,.int .i64 n3],z7,z2] [(k,1,112)] [76,80,80])))
theorem qUT:lstep tbT qtQ qr4 qrK qqN [.ptr 0 0,.ptr 1 0,.ptr 2 0] ⟨[[.sl r .non,.int .i64 n,.int .i64 n2,.bool true,.int .i64 n3],[.str s,.bool b,.sl r2 .full],[.str s2,.bool b2,.sl r3 (.tok 0)]],[(k,1,112)],[76,80,80]⟩=qAJ r n n2 n3 s b r2 s2 b2 r3 k:=by kernel_rfl
theorem qUC:qcy [.ptr 0 0,.ptr 1 0,.ptr 2 0] ⟨[[.sl r .non,.int .i64 n,.int .i64 n2,.bool true,.int .i64 n3],[.str s,.bool b,.sl r2 .full],[.str s2,.bool b2,.sl r3 (.tok 0)]],[(k,1,112)],[76,80,80]⟩=lnext qcy (qAJ r n n2 n3 s b r2 s2 b2 r3 k).run:=by unfold qcy;rw [qaC,qUT]
end
section
variable (r:qR) (n n2:Int) (s:qU) (b:Bool) (r2:qR) (s2:qU) (b2:Bool) (r3:qR) (k:Nat)
def qew:Tr LR:=let z1:=qac r;let z2:List PV:=[.str s2,.bool b2,.sl r3 (.tok 0)];let z3:qR:=[[.int .i64 (qk2 z1 n n2)]];let z4:=qaa z1;let z5:=qac z4;let z6:=qiB z1 n n2;let z7:List PV:=[.ptr 0 0,.ptr 1 0,.ptr 2 0];let z8:List PV:=[.str s,.bool b,.sl r2 .full];let z9:List PV:=[.str s2,.bool b2,.sl (xApp r3 z3) (.tok 0)];let z10:=iAdd .i64 z6 1;let z11:qR:=[[.int .i64 (qkZ z1 n n2)]];let z12:=qia z1 n n2;let z13:=qin z1 n n2;let z14:List PV:=[.str s2,.bool b2,.sl (xApp r3 z11) (.tok 0)];let z15:=iAdd .i64 z12 1;.ite true (.ite (qaL z1 n n2 6 [41]) (.ite (bNot (qbj z1 n n2 6 [41])) (.ite (qqd z1 n n2) (.ite (qdY z2 z2) (.ite (qas r3 z3 8) (.ite (qap z3 1) (.ite (qan r3 1) (.ite (nEq k (nXs r3)) (.ite (qaL z5 z6 n2 6 [44]) (.ite (bNot (qbj z5 z6 n2 6 [44])) (.ret (.out (.exit 0) z7 (Store.mk [[.sl z4 .non,.int .i64 z6,.int .i64 n2,.bool false,.int .i64 0],z8,z9] [(nXs (xApp r3 z3),1,112)] [76,80,80]))) (.ite (qaL z5 z10 n2 6 [41]) (.ite (qbj z5 z10 n2 6 [41]) (.ite (qet z5 z10 n2) (.ret (.next z7 (Store.mk [[.sl (qaa z5) .non,.int .i64 (qdD z5 z10 n2),.int .i64 n2,.bool true,.int .i64 (qcF z5 z10 n2)],z8,z9] [(nXs (xApp r3 z3),1,112)] [76,80,80]))) (.ite (qeb z5 z10 n2) (.ret (.next z7 (Store.mk [[.sl (qaa z5) .non,.int .i64 (qdz z5 z10 n2),.int .i64 n2,.bool false,.int .i64 0],z8,z9] [(nXs (xApp r3 z3),1,112)] [76,80,80]))) .fail)) (.ret (.next z7 (Store.mk [[.sl z4 .non,.int .i64 z10,.int .i64 n2,.bool false,.int .i64 0],z8,z9] [(nXs (xApp r3 z3),1,112)] [76,80,80])))) .fail)) .fail) .fail) .fail) .fail) .fail) .fail) (.ite (qqg z1 n n2) (.ite (qdY z2 z2) (.ite (qas r3 z11 8) (.ite (qap z11 1) (.ite (qan r3 1) (.ite (nEq k (nXs r3)) (.ite (qaq z5 z12 n2 z13 6 [44]) (.ite (bNot (qaA z5 z12 n2 z13 6 [44])) (.ret (.out (.exit 0) z7 (Store.mk [[.sl z4 .non,.int .i64 z12,.int .i64 n2,.bool true,.int .i64 z13],z8,z14] [(nXs (xApp r3 z11),1,112)] [76,80,80]))) (.ite (qaq z5 z15 n2 z13 6 [41]) (.ite (qaA z5 z15 n2 z13 6 [41]) (.ite (qbT z5 z15 n2 z13) (.ret (.next z7 (Store.mk [[.sl (qaa z5) .non,.int .i64 (qcC z5 z15 n2 z13),.int .i64 n2,.bool true,.int .i64 z13],z8,z14] [(nXs (xApp r3 z11),1,112)] [76,80,80]))) .fail) (.ret (.next z7 (Store.mk [[.sl z4 .non,.int .i64 z15,.int .i64 n2,.bool true,.int .i64 z13],z8,z14] [(nXs (xApp r3 z11),1,112)] [76,80,80])))) .fail)) .fail) .fail) .fail) .fail) .fail) .fail) .fail)) (.ret (.out (.exit 0) z7 (Store.mk [[.sl r .non,.int .i64 n,.int .i64 n2,.bool false,.int .i64 0],z8,z2] [(k,1,112)] [76,80,80])))) .fail) (.ret (.out (.exit 0) z7 (Store.mk [[.sl r .non,.int .i64 n,.int .i64 n2,.bool false,.int .i64 0],z8,z2] [(k,1,112)] [76,80,80])))
theorem qQg:lstep tbT qtQ qr4 qrK qqN [.ptr 0 0,.ptr 1 0,.ptr 2 0] ⟨[[.sl r .non,.int .i64 n,.int .i64 n2,.bool false,.int .i64 0],[.str s,.bool b,.sl r2 .full],[.str s2,.bool b2,.sl r3 (.tok 0)]],[(k,1,112)],[76,80,80]⟩=qew r n n2 s b r2 s2 b2 r3 k:=by kernel_rfl
theorem qk9:qcy [.ptr 0 0,.ptr 1 0,.ptr 2 0] ⟨[[.sl r .non,.int .i64 n,.int .i64 n2,.bool false,.int .i64 0],[.str s,.bool b,.sl r2 .full],[.str s2,.bool b2,.sl r3 (.tok 0)]],[(k,1,112)],[76,80,80]⟩=lnext qcy (qew r n n2 s b r2 s2 b2 r3 k).run:=by unfold qcy;rw [qaC,qQg]
end
section
variable (r:qR) (n n2 n3:Int) (s:qU) (b:Bool) (r2:qR) (s2:qU) (b2:Bool) (r3:qR) (k:Nat)
def qnL:Option (PExit×List PV×Store):=qcy [.ptr 0 0,.ptr 1 0,.ptr 2 0] ⟨[[.sl r .non,.int .i64 n,.int .i64 n2,.bool true,.int .i64 n3],[.str s,.bool b,.sl r2 .full],[.str s2,.bool b2,.sl r3 (.tok 0)]],[(k,1,112)],[76,80,80]⟩
def qsK:Int:=qbu 0 1 (qnL r n n2 n3 s b r2 s2 b2 r3 k)
def qlh:qR:=qaO 2 2 (qnL r n n2 n3 s b r2 s2 b2 r3 k)
def qFb:Nat:=(gTok (qnL r n n2 n3 s b r2 s2 b2 r3 k) 0)
def qm6:Bool:=isW (qnL r n n2 n3 s b r2 s2 b2 r3 k) ((.exit 0),[.ptr 0 0,.ptr 1 0,.ptr 2 0],⟨[[.sl r .non,.int .i64 (qsK r n n2 n3 s b r2 s2 b2 r3 k),.int .i64 n2,.bool true,.int .i64 n3],[.str s,.bool b,.sl r2 .full],[.str s2,.bool b2,.sl (qlh r n n2 n3 s b r2 s2 b2 r3 k) (.tok 0)]],[((qFb r n n2 n3 s b r2 s2 b2 r3 k),1,112)],[76,80,80]⟩)
end
section
variable (r:qR) (n n2:Int) (s:qU) (b:Bool) (r2:qR) (s2:qU) (b2:Bool) (r3:qR) (k:Nat)
def qbZ:Option (PExit×List PV×Store):=qcy [.ptr 0 0,.ptr 1 0,.ptr 2 0] ⟨[[.sl r .non,.int .i64 n,.int .i64 n2,.bool false,.int .i64 0],[.str s,.bool b,.sl r2 .full],[.str s2,.bool b2,.sl r3 (.tok 0)]],[(k,1,112)],[76,80,80]⟩
def qjy:Int:=qbu 0 1 (qbZ r n n2 s b r2 s2 b2 r3 k)
def qhu:qR:=qaO 2 2 (qbZ r n n2 s b r2 s2 b2 r3 k)
def qoq:Nat:=(gTok (qbZ r n n2 s b r2 s2 b2 r3 k) 0)
def qot:Bool:=isW (qbZ r n n2 s b r2 s2 b2 r3 k) ((.exit 0),[.ptr 0 0,.ptr 1 0,.ptr 2 0],⟨[[.sl r .non,.int .i64 (qjy r n n2 s b r2 s2 b2 r3 k),.int .i64 n2,.bool false,.int .i64 0],[.str s,.bool b,.sl r2 .full],[.str s2,.bool b2,.sl (qhu r n n2 s b r2 s2 b2 r3 k) (.tok 0)]],[((qoq r n n2 s b r2 s2 b2 r3 k),1,112)],[76,80,80]⟩)
def qjS:Int:=qbu 0 1 (qbZ r n n2 s b r2 s2 b2 r3 k)
def qgU:Int:=qbu 0 4 (qbZ r n n2 s b r2 s2 b2 r3 k)
def qg8:qR:=qaO 2 2 (qbZ r n n2 s b r2 s2 b2 r3 k)
def qpR:Nat:=(gTok (qbZ r n n2 s b r2 s2 b2 r3 k) 0)
def qpB:Bool:=isW (qbZ r n n2 s b r2 s2 b2 r3 k) ((.exit 0),[.ptr 0 0,.ptr 1 0,.ptr 2 0],⟨[[.sl r .non,.int .i64 (qjS r n n2 s b r2 s2 b2 r3 k),.int .i64 n2,.bool true,.int .i64 (qgU r n n2 s b r2 s2 b2 r3 k)],[.str s,.bool b,.sl r2 .full],[.str s2,.bool b2,.sl (qg8 r n n2 s b r2 s2 b2 r3 k) (.tok 0)]],[((qpR r n n2 s b r2 s2 b2 r3 k),1,112)],[76,80,80]⟩)
end
def qkz:List PV→Store→Tr (PExit×List PV×Store)|[.ptr 0 0,.ptr 1 0,.ptr 2 0],⟨[[.sl r .non,.int .i64 n,.int .i64 n2,.bool true,.int .i64 n3],[.str s,.bool b,.sl r2 .full],[.str s2,.bool b2,.sl r3 (.tok 0)]],[(k,1,112)],[76,80,80]⟩=>.ite (qm6 r n n2 n3 s b r2 s2 b2 r3 k) (.ret ((.exit 0),[.ptr 0 0,.ptr 1 0,.ptr 2 0],⟨[[.sl r .non,.int .i64 (qsK r n n2 n3 s b r2 s2 b2 r3 k),.int .i64 n2,.bool true,.int .i64 n3],[.str s,.bool b,.sl r2 .full],[.str s2,.bool b2,.sl (qlh r n n2 n3 s b r2 s2 b2 r3 k) (.tok 0)]],[((qFb r n n2 n3 s b r2 s2 b2 r3 k),1,112)],[76,80,80]⟩)) (.fail)|[.ptr 0 0,.ptr 1 0,.ptr 2 0],⟨[[.sl r .non,.int .i64 n,.int .i64 n2,.bool false,.int .i64 0],[.str s,.bool b,.sl r2 .full],[.str s2,.bool b2,.sl r3 (.tok 0)]],[(k,1,112)],[76,80,80]⟩=>.ite (qot r n n2 s b r2 s2 b2 r3 k) (.ret ((.exit 0),[.ptr 0 0,.ptr 1 0,.ptr 2 0],⟨[[.sl r .non,.int .i64 (qjy r n n2 s b r2 s2 b2 r3 k),.int .i64 n2,.bool false,.int .i64 0],[.str s,.bool b,.sl r2 .full],[.str s2,.bool b2,.sl (qhu r n n2 s b r2 s2 b2 r3 k) (.tok 0)]],[((qoq r n n2 s b r2 s2 b2 r3 k),1,112)],[76,80,80]⟩)) (.ite (qpB r n n2 s b r2 s2 b2 r3 k) (.ret ((.exit 0),[.ptr 0 0,.ptr 1 0,.ptr 2 0],⟨[[.sl r .non,.int .i64 (qjS r n n2 s b r2 s2 b2 r3 k),.int .i64 n2,.bool true,.int .i64 (qgU r n n2 s b r2 s2 b2 r3 k)],[.str s,.bool b,.sl r2 .full],[.str s2,.bool b2,.sl (qg8 r n n2 s b r2 s2 b2 r3 k) (.tok 0)]],[((qpR r n n2 s b r2 s2 b2 r3 k),1,112)],[76,80,80]⟩)) (.fail))|_,_=>.fail
theorem qQu:∀ vs σ r,(qkz vs σ).run=some r→qcy vs σ=some r:=by
 intro vs σ r h;unfold qkz at h
 split at h
 ·exact qae h fun h=>by cases h
 ·exact qae h fun h=>qae h fun h=>by cases h
 ·cases h
theorem qIU (gl:Gl):∀ fr σ e fr' σ',(orc qqN qkz fr σ).run=some (e,fr',σ')→LDoes Tryz.prog gl qrK fr σ e fr' σ':=qbw qaj (qGY gl ) qai (L:=qr4) (qab (by kernel_rfl)) (by kernel_rfl) qQu
def qJy:LpsT:=fun r fr σ=>bif Nat.beq r 4 then orc qqN qkz fr σ else .fail
section
variable (c:Bool) (r:qR) (i n:Int)
def qhm:Tr (PR×Store):=let z1:=qac (qac r);let z2:=iAdd .i64 i 1;let z3:=qac (qaa z1);let z4:=qd9 z1 z2 n;let z5:=qaa z3;let z6:=qaD [40] z3 (qcS z1 z2 n) n z4;let z7:=qfG z1 z2 n;let z8:=qac z5;let z9:=qsK z5 z6 n z4 [] false [] z7 c [] 0;let z10:=qac (qaa z8);let z11:=qaa (qaa z10);let z12:=qfE z1 z2 n;let z13:=qbr [40] z3 z12 n;let z14:=qbi [40] z3 z12 n;let z15:=qfF z1 z2 n;let z16:=qsK z5 z13 n z14 [] false [] z15 c [] 0;let z17:=qbB [40] z3 z12 n;let z18:=qjy z5 z17 n [] false [] z15 c [] 0;let z19:=qbi [41] z8 z18 n;let z20:PV:=.agg [.str z15,.bool c,.sl (qaa (qhu z5 z17 n [] false [] z15 c [] 0)) .non];let z21:=qbB [41] z8 z18 n;let z22:=qjS z5 z17 n [] false [] z15 c [] 0;let z23:=qgU z5 z17 n [] false [] z15 c [] 0;.ite (qhX z1 z2 n) (.ite (qat [40] z3 (qcS z1 z2 n) n z4) (.ite (qm6 z5 z6 n z4 [] false [] z7 c [] 0) (.ite (qat [41] z8 z9 n z4) (.ite (qat [46] z10 (qaD [41] z8 z9 n z4) n z4) (.ret (PR.val (.agg [.str z7,.bool c,.sl (qaa (qlh z5 z6 n z4 [] false [] z7 c [] 0)) .non]),Store.mk [[.sl z11 .non,.int .i64 (qaD [46] z10 (qaD [41] z8 z9 n z4) n z4),.int .i64 n,.bool true,.int .i64 z4]] [] [76])) .fail) .fail) .fail) .fail) (.ite (qiK z1 z2 n) (.ite (qbR [40] z3 z12 n) (.ite (qm6 z5 z13 n z14 [] false [] z15 c [] 0) (.ite (qat [41] z8 z16 n z14) (.ite (qat [46] z10 (qaD [41] z8 z16 n z14) n z14) (.ret (PR.val (.agg [.str z15,.bool c,.sl (qaa (qlh z5 z13 n z14 [] false [] z15 c [] 0)) .non]),Store.mk [[.sl z11 .non,.int .i64 (qaD [46] z10 (qaD [41] z8 z16 n z14) n z14),.int .i64 n,.bool true,.int .i64 z14]] [] [76])) .fail) .fail) .fail) (.ite (qbM [40] z3 z12 n) (.ite (qot z5 z17 n [] false [] z15 c [] 0) (.ite (qbR [41] z8 z18 n) (.ite (qat [46] z10 (qbr [41] z8 z18 n) n z19) (.ret (PR.val z20,Store.mk [[.sl z11 .non,.int .i64 (qaD [46] z10 (qbr [41] z8 z18 n) n z19),.int .i64 n,.bool true,.int .i64 z19]] [] [76])) .fail) (.ite (qbM [41] z8 z18 n) (.ite (qbR [46] z10 z21 n) (.ret (PR.val z20,Store.mk [[.sl z11 .non,.int .i64 (qbr [46] z10 z21 n),.int .i64 n,.bool true,.int .i64 (qbi [46] z10 z21 n)]] [] [76])) (.ite (qbM [46] z10 z21 n) (.ret (PR.val z20,Store.mk [[.sl z11 .non,.int .i64 (qbB [46] z10 z21 n),.int .i64 n,.bool false,.int .i64 0]] [] [76])) .fail)) .fail)) (.ite (qpB z5 z17 n [] false [] z15 c [] 0) (.ite (qat [41] z8 z22 n z23) (.ite (qat [46] z10 (qaD [41] z8 z22 n z23) n z23) (.ret (PR.val (.agg [.str z15,.bool c,.sl (qaa (qg8 z5 z17 n [] false [] z15 c [] 0)) .non]),Store.mk [[.sl z11 .non,.int .i64 (qaD [46] z10 (qaD [41] z8 z22 n z23) n z23),.int .i64 n,.bool true,.int .i64 z23]] [] [76])) .fail) .fail) .fail)) .fail)) .fail)
theorem qZv:(nrmM tbT qtQ qJy Tryz.f38 [.ptr 0 0,.bool c] ⟨[[.sl r .non,.int .i64 i,.int .i64 n,.bool false,.int .i64 0]],[],[76]⟩).flat=qhm c r i n:=by kernel_rfl
def qcv:Option (PR×Store):=(qhm c r i n).run
def qlV:qU:=qbo 0 (qcv c r i n)
def qkX:Bool:=qBN 1 (qcv c r i n)
def qma:qR:=qcX 2 (qcv c r i n)
def qlv:Int:=qbC 0 1 (qcv c r i n)
def qh8:Int:=qbC 0 4 (qcv c r i n)
def qq1:Bool:=isW (qcv c r i n) ((.val (.agg [.str (qlV c r i n),.bool (qkX c r i n),.sl (qma c r i n) .non])),⟨[[.sl r .non,.int .i64 (qlv c r i n),.int .i64 n,.bool true,.int .i64 (qh8 c r i n)]],[],[76]⟩)
def qlM:qU:=qbo 0 (qcv c r i n)
def qk8:Bool:=qBN 1 (qcv c r i n)
def qlm:qR:=qcX 2 (qcv c r i n)
def ql4:Int:=qbC 0 1 (qcv c r i n)
def qtc:Bool:=isW (qcv c r i n) ((.val (.agg [.str (qlM c r i n),.bool (qk8 c r i n),.sl (qlm c r i n) .non])),⟨[[.sl r .non,.int .i64 (ql4 c r i n),.int .i64 n,.bool false,.int .i64 0]],[],[76]⟩)
end
def qIG:List PV→Store→Tr (PR×Store)|[.ptr 0 0,.bool c],⟨[[.sl r .non,.int .i64 i,.int .i64 n,.bool false,.int .i64 0]],[],[76]⟩=>.ite (qq1 c r i n) (.ret ((.val (.agg [.str (qlV c r i n),.bool (qkX c r i n),.sl (qma c r i n) .non])),⟨[[.sl r .non,.int .i64 (qlv c r i n),.int .i64 n,.bool true,.int .i64 (qh8 c r i n)]],[],[76]⟩)) (.ite (qtc c r i n) (.ret ((.val (.agg [.str (qlM c r i n),.bool (qk8 c r i n),.sl (qlm c r i n) .non])),⟨[[.sl r .non,.int .i64 (ql4 c r i n),.int .i64 n,.bool false,.int .i64 0]],[],[76]⟩)) (.fail))|_,_=>.fail
theorem qQ3 (gl:Gl):SimM Tryz.prog gl 38 fun args σ=>(qIG args σ).run:=by
 refine SimM.of_nrm (G:=qtQ) (L:=qJy) qaj (qGY gl ) qai Tryz.func38 rfl (by rfl) (by kernel_rfl) (qav (L:=lps qJy) [(4,qrK)] (by kernel_rfl) (List.forall_mem_cons.2 ⟨fun fr σ e fr' σ' h=>qIU gl  fr σ e fr' σ' h,(List.forall_mem_nil _)⟩)) ?_
 intro args σ x h;unfold qIG at h
 split at h
 ·exact (congrArg Tr.run (qZv _ _ _ _)).trans (qae h fun h=>qae h fun h=>by cases h)
 ·cases h
end Go.Pv
set_option maxHeartbeats 4000000
set_option maxRecDepth 200000
set_option linter.unusedSimpArgs false
set_option linter.unusedVariables false
namespace Go.Pv
open Go Go.Proofs
def qOZ:GamT:=ofL [(37,.pure qd3),(52,.may (frameT qzc)),(90,.may (frameT qpZ))]
theorem qT5 (gl:Gl):qal Tryz.prog gl (gam qOZ):=(qag (qcj gl) (qah (SimM.frameT (qyr gl)) (qah (SimM.frameT (qlf gl)) qaf)))
def qVX:LpsT:=fun r fr σ=>.fail
section
variable (r:qR) (i n:Int)
def qpj:Tr (PR×Store):=let z1:=qac (qac r);let z2:=iAdd .i64 i 1;let z3:=qac (qaa z1);let z4:=qbr [45] z1 i n;let z5:=qbi [45] z1 i n;let z6:=qaa (qaa z3);let z7:=qbB [45] z1 i n;.ite (qaL z1 i n 6 [43]) (.ite (qbj z1 i n 6 [43]) (.ite (qgi z1 z2 n) (.ret (PR.val (.agg [.bool true,.str (qe5 z1 z2 n),.sl (qaa (qaa (qe6 z1 z2 n))) .non]),Store.mk [[.sl (qaa (qaa z1)) .non,.int .i64 (qeQ z1 z2 n),.int .i64 n,.bool true,.int .i64 (qdA z1 z2 n)]] [] [76])) (.ite (qgB z1 z2 n) (.ret (PR.val (.agg [.bool true,.str (qeN z1 z2 n),.sl (qaa (qaa (qe0 z1 z2 n))) .non]),Store.mk [[.sl (qaa (qaa z1)) .non,.int .i64 (qeZ z1 z2 n),.int .i64 n,.bool false,.int .i64 0]] [] [76])) .fail)) (.ite (qbR [45] z1 i n) (.ite (quf z3 z4 n z5) (.ret (PR.val (.agg [.bool false,.str (qwh z3 z4 n z5),.sl (qaa (qaa (qx4 z3 z4 n z5))) .non]),Store.mk [[.sl z6 .non,.int .i64 (qvN z3 z4 n z5),.int .i64 n,.bool true,.int .i64 z5]] [] [76])) .fail) (.ite (qbM [45] z1 i n) (.ite (qgi z3 z7 n) (.ret (PR.val (.agg [.bool false,.str (qe5 z3 z7 n),.sl (qaa (qaa (qe6 z3 z7 n))) .non]),Store.mk [[.sl z6 .non,.int .i64 (qeQ z3 z7 n),.int .i64 n,.bool true,.int .i64 (qdA z3 z7 n)]] [] [76])) (.ite (qgB z3 z7 n) (.ret (PR.val (.agg [.bool false,.str (qeN z3 z7 n),.sl (qaa (qaa (qe0 z3 z7 n))) .non]),Store.mk [[.sl z6 .non,.int .i64 (qeZ z3 z7 n),.int .i64 n,.bool false,.int .i64 0]] [] [76])) .fail)) .fail))) .fail
theorem qZW:(nrmM tbT qOZ qVX Tryz.f94 [.ptr 0 0] ⟨[[.sl r .non,.int .i64 i,.int .i64 n,.bool false,.int .i64 0]],[],[76]⟩).flat=qpj r i n:=by kernel_rfl
def qeY:Option (PR×Store):=(qpj r i n).run
def qxd:Bool:=qBN 0 (qeY r i n)
def qxM:qU:=qbo 1 (qeY r i n)
def qxc:qR:=qcX 2 (qeY r i n)
def qvK:Int:=qbC 0 1 (qeY r i n)
def qqE:Int:=qbC 0 4 (qeY r i n)
def qDA:Bool:=isW (qeY r i n) ((.val (.agg [.bool (qxd r i n),.str (qxM r i n),.sl (qxc r i n) .non])),⟨[[.sl r .non,.int .i64 (qvK r i n),.int .i64 n,.bool true,.int .i64 (qqE r i n)]],[],[76]⟩)
def qwG:Bool:=qBN 0 (qeY r i n)
def qvL:qU:=qbo 1 (qeY r i n)
def qwJ:qR:=qcX 2 (qeY r i n)
def qxl:Int:=qbC 0 1 (qeY r i n)
def qF5:Bool:=isW (qeY r i n) ((.val (.agg [.bool (qwG r i n),.str (qvL r i n),.sl (qwJ r i n) .non])),⟨[[.sl r .non,.int .i64 (qxl r i n),.int .i64 n,.bool false,.int .i64 0]],[],[76]⟩)
end
def qQP:List PV→Store→Tr (PR×Store)|[.ptr 0 0],⟨[[.sl r .non,.int .i64 i,.int .i64 n,.bool false,.int .i64 0]],[],[76]⟩=>.ite (qDA r i n) (.ret ((.val (.agg [.bool (qxd r i n),.str (qxM r i n),.sl (qxc r i n) .non])),⟨[[.sl r .non,.int .i64 (qvK r i n),.int .i64 n,.bool true,.int .i64 (qqE r i n)]],[],[76]⟩)) (.ite (qF5 r i n) (.ret ((.val (.agg [.bool (qwG r i n),.str (qvL r i n),.sl (qwJ r i n) .non])),⟨[[.sl r .non,.int .i64 (qxl r i n),.int .i64 n,.bool false,.int .i64 0]],[],[76]⟩)) (.fail))|_,_=>.fail
theorem qUL (gl:Gl):SimM Tryz.prog gl 94 fun args σ=>(qQP args σ).run:=by
 refine SimM.of_nrm (G:=qOZ) (L:=qVX) qaj (qT5 gl ) qai Tryz.func94 rfl (by rfl) (by kernel_rfl) (qab (by kernel_rfl)) ?_
 intro args σ x h;unfold qQP at h
 split at h
 ·exact (congrArg Tr.run (qZW _ _ _)).trans (qae h fun h=>qae h fun h=>by cases h)
 ·cases h
def qHD:GamT:=ofL [(37,.pure qd3),(89,.may (frameT qqk)),(90,.may (frameT qpZ)),(91,.may (frameT qGg)),(92,.may (frameT qkl)),(93,.may (frameT qp5)),(94,.may (frameT qQP)),(qom,.hint [(14,1,2,114),(14,2,3,116)])]
theorem qK5 (gl:Gl):qal Tryz.prog gl (gam qHD):=(qag (qcj gl) (qah (SimM.frameT (quK gl)) (qah (SimM.frameT (qlf gl)) (qah (SimM.frameT (qGE gl)) (qah (SimM.frameT (qiX gl)) (qah (SimM.frameT (ql2 gl)) (qah (SimM.frameT (qUL gl)) (qbN (K:=.hint [(14,1,2,114),(14,2,3,116)]) trivial qaf))))))))
def qIg:Code:=qc2 Tryz.f39 4
def qL5:Code:=qc2 Tryz.f39 15
def qHX:LI:=⟨90,[0,2,3],fun e=>match e with|.exit 0=>[0,2,3]|_=>[],true⟩
def qFt:LpsT:=fun r fr σ=>.fail
def qgX (vs:List PV) (σ:Store):Option (PExit×List PV×Store):=lval (lstep tbT qHD qFt qIg qHX) vs σ
section
variable (r:qR) (n n2 n3:Int) (s:qU) (r2 r3:qR) (s2:qU) (r4 r5:qR) (k k2:Nat)
def qKl:Tr LR:=let z1:=qac r;let z2:=qac (qaa z1);let z3:=qcD 2 [] z1 n n2 n3;let z4:qR:=[[.str (qn7 2 [] z1 n n2 n3),.int .i64 (qmC z2 z3 n2 n3)]];let z5:=qac (qaa z2);let z6:=qh7 z2 z3 n2 n3;let z7:List PV:=[.ptr 0 0,.ptr 1 0,.ptr 2 0];let z8:List PV:=[.str s,.sl (qau 3 r2) .full,.sl (qau 3 r3) .full];let z9:List PV:=[.str s2,.sl (qau 3 (xApp r4 z4)) (.tok 0),.sl (qau 3 r5) (.tok 1)];let z10:=iAdd .i64 z6 1;.ite false (.ite (qaq z1 n n2 n3 6 [41]) (.ite (bNot (qaA z1 n n2 n3 6 [41])) (.ite (qct 2 [] z1 n n2 n3) (.ite (qiy z2 z3 n2 n3) (.ite (qas r4 z4 24) (.ite (qap z4 2) (.ite (qan r4 2) (.ite (nEq k (nXs r4)) (.ite (qaq z5 z6 n2 n3 6 [44]) (.ite (bNot (qaA z5 z6 n2 n3 6 [44])) (.ret (.out (.exit 0) z7 (Store.mk [[.sl (qau 3 (qaa z2)) .non,.int .i64 z6,.int .i64 n2,.bool true,.int .i64 n3],z8,z9] [(nXs (xApp r4 z4),2,114),(k2,3,116)] [76,85,85]))) (.ite (qaq z5 z10 n2 n3 6 [41]) (.ite (qaA z5 z10 n2 n3 6 [41]) (.ite (qbT z5 z10 n2 n3) (.ret (.next z7 (Store.mk [[.sl (qau 3 (qaa z5)) .non,.int .i64 (qcC z5 z10 n2 n3),.int .i64 n2,.bool true,.int .i64 n3],z8,z9] [(nXs (xApp r4 z4),2,114),(k2,3,116)] [76,85,85]))) .fail) (.ret (.next z7 (Store.mk [[.sl (qau 3 (qaa z2)) .non,.int .i64 z10,.int .i64 n2,.bool true,.int .i64 n3],z8,z9] [(nXs (xApp r4 z4),2,114),(k2,3,116)] [76,85,85])))) .fail)) .fail) .fail) .fail) .fail) .fail) .fail) .fail) (.ret (.out (.exit 0) z7 (Store.mk [[.sl r .non,.int .i64 n,.int .i64 n2,.bool true,.int .i64 n3],[.str s,.sl r2 .full,.sl r3 .full],[.str s2,.sl r4 (.tok 0),.sl r5 (.tok 1)]] [(k,2,114),(k2,3,116)] [76,85,85])))) .fail) (.ret (.out (.exit 0) z7 (Store.mk [[.sl r .non,.int .i64 n,.int .i64 n2,.bool true,.int .i64 n3],[.str s,.sl r2 .full,.sl r3 .full],[.str s2,.sl r4 (.tok 0),.sl r5 (.tok 1)]] [(k,2,114),(k2,3,116)] [76,85,85])))
theorem qZV:lstep tbT qHD qFt qIg qHX [.ptr 0 0,.ptr 1 0,.ptr 2 0] ⟨[[.sl r .non,.int .i64 n,.int .i64 n2,.bool true,.int .i64 n3],[.str s,.sl r2 .full,.sl r3 .full],[.str s2,.sl r4 (.tok 0),.sl r5 (.tok 1)]],[(k,2,114),(k2,3,116)],[76,85,85]⟩=qKl r n n2 n3 s r2 r3 s2 r4 r5 k k2:=by kernel_rfl
theorem zaaq:qgX [.ptr 0 0,.ptr 1 0,.ptr 2 0] ⟨[[.sl r .non,.int .i64 n,.int .i64 n2,.bool true,.int .i64 n3],[.str s,.sl r2 .full,.sl r3 .full],[.str s2,.sl r4 (.tok 0),.sl r5 (.tok 1)]],[(k,2,114),(k2,3,116)],[76,85,85]⟩=lnext qgX (qKl r n n2 n3 s r2 r3 s2 r4 r5 k k2).run:=by unfold qgX;rw [qaC,qZV]
end
section
variable (r:qR) (n n2:Int) (s:qU) (r2 r3:qR) (s2:qU) (r4 r5:qR) (k k2:Nat)
def qhx:Tr LR:=let z1:=qac r;let z2:=qac (qaa z1);let z3:=qb0 2 [] z1 n n2;let z4:=qb3 2 [] z1 n n2;let z5:qR:=[[.str (qhK 2 [] z1 n n2),.int .i64 (qmC z2 z3 n2 z4)]];let z6:=nEq k (nXs r4);let z7:=qac (qaa z2);let z8:=qh7 z2 z3 n2 z4;let z9:List PV:=[.ptr 0 0,.ptr 1 0,.ptr 2 0];let z10:=qau 3 (qaa z2);let z11:List PV:=[.str s,.sl (qau 3 r2) .full,.sl (qau 3 r3) .full];let z12:List PV:=[.str s2,.sl (qau 3 (xApp r4 z5)) (.tok 0),.sl (qau 3 r5) (.tok 1)];let z13:=iAdd .i64 z8 1;let z14:=qau 3 (qaa z7);let z15:=qb4 2 [] z1 n n2;let z16:qR:=[[.str (qgg 2 [] z1 n n2),.int .i64 (qk2 z2 z15 n2)]];let z17:=qiB z2 z15 n2;let z18:List PV:=[.str s2,.sl (qau 3 (xApp r4 z16)) (.tok 0),.sl (qau 3 r5) (.tok 1)];let z19:=iAdd .i64 z17 1;let z20:qR:=[[.str (qgg 2 [] z1 n n2),.int .i64 (qkZ z2 z15 n2)]];let z21:=qia z2 z15 n2;let z22:=qin z2 z15 n2;let z23:List PV:=[.str s2,.sl (qau 3 (xApp r4 z20)) (.tok 0),.sl (qau 3 r5) (.tok 1)];let z24:=iAdd .i64 z21 1;.ite true (.ite (qaL z1 n n2 6 [41]) (.ite (bNot (qbj z1 n n2 6 [41])) (.ite (qdf 2 [] z1 n n2) (.ite (qiy z2 z3 n2 z4) (.ite (qas r4 z5 24) (.ite (qap z5 2) (.ite (qan r4 2) (.ite z6 (.ite (qaq z7 z8 n2 z4 6 [44]) (.ite (bNot (qaA z7 z8 n2 z4 6 [44])) (.ret (.out (.exit 0) z9 (Store.mk [[.sl z10 .non,.int .i64 z8,.int .i64 n2,.bool true,.int .i64 z4],z11,z12] [(nXs (xApp r4 z5),2,114),(k2,3,116)] [76,85,85]))) (.ite (qaq z7 z13 n2 z4 6 [41]) (.ite (qaA z7 z13 n2 z4 6 [41]) (.ite (qbT z7 z13 n2 z4) (.ret (.next z9 (Store.mk [[.sl z14 .non,.int .i64 (qcC z7 z13 n2 z4),.int .i64 n2,.bool true,.int .i64 z4],z11,z12] [(nXs (xApp r4 z5),2,114),(k2,3,116)] [76,85,85]))) .fail) (.ret (.next z9 (Store.mk [[.sl z10 .non,.int .i64 z13,.int .i64 n2,.bool true,.int .i64 z4],z11,z12] [(nXs (xApp r4 z5),2,114),(k2,3,116)] [76,85,85])))) .fail)) .fail) .fail) .fail) .fail) .fail) .fail) (.ite (qdj 2 [] z1 n n2) (.ite (qqd z2 z15 n2) (.ite (qas r4 z16 24) (.ite (qap z16 2) (.ite (qan r4 2) (.ite z6 (.ite (qaL z7 z17 n2 6 [44]) (.ite (bNot (qbj z7 z17 n2 6 [44])) (.ret (.out (.exit 0) z9 (Store.mk [[.sl z10 .non,.int .i64 z17,.int .i64 n2,.bool false,.int .i64 0],z11,z18] [(nXs (xApp r4 z16),2,114),(k2,3,116)] [76,85,85]))) (.ite (qaL z7 z19 n2 6 [41]) (.ite (qbj z7 z19 n2 6 [41]) (.ite (qet z7 z19 n2) (.ret (.next z9 (Store.mk [[.sl z14 .non,.int .i64 (qdD z7 z19 n2),.int .i64 n2,.bool true,.int .i64 (qcF z7 z19 n2)],z11,z18] [(nXs (xApp r4 z16),2,114),(k2,3,116)] [76,85,85]))) (.ite (qeb z7 z19 n2) (.ret (.next z9 (Store.mk [[.sl z14 .non,.int .i64 (qdz z7 z19 n2),.int .i64 n2,.bool false,.int .i64 0],z11,z18] [(nXs (xApp r4 z16),2,114),(k2,3,116)] [76,85,85]))) .fail)) (.ret (.next z9 (Store.mk [[.sl z10 .non,.int .i64 z19,.int .i64 n2,.bool false,.int .i64 0],z11,z18] [(nXs (xApp r4 z16),2,114),(k2,3,116)] [76,85,85])))) .fail)) .fail) .fail) .fail) .fail) .fail) (.ite (qqg z2 z15 n2) (.ite (qas r4 z20 24) (.ite (qap z20 2) (.ite (qan r4 2) (.ite z6 (.ite (qaq z7 z21 n2 z22 6 [44]) (.ite (bNot (qaA z7 z21 n2 z22 6 [44])) (.ret (.out (.exit 0) z9 (Store.mk [[.sl z10 .non,.int .i64 z21,.int .i64 n2,.bool true,.int .i64 z22],z11,z23] [(nXs (xApp r4 z20),2,114),(k2,3,116)] [76,85,85]))) (.ite (qaq z7 z24 n2 z22 6 [41]) (.ite (qaA z7 z24 n2 z22 6 [41]) (.ite (qbT z7 z24 n2 z22) (.ret (.next z9 (Store.mk [[.sl z14 .non,.int .i64 (qcC z7 z24 n2 z22),.int .i64 n2,.bool true,.int .i64 z22],z11,z23] [(nXs (xApp r4 z20),2,114),(k2,3,116)] [76,85,85]))) .fail) (.ret (.next z9 (Store.mk [[.sl z10 .non,.int .i64 z24,.int .i64 n2,.bool true,.int .i64 z22],z11,z23] [(nXs (xApp r4 z20),2,114),(k2,3,116)] [76,85,85])))) .fail)) .fail) .fail) .fail) .fail) .fail) .fail)) .fail)) (.ret (.out (.exit 0) z9 (Store.mk [[.sl r .non,.int .i64 n,.int .i64 n2,.bool false,.int .i64 0],[.str s,.sl r2 .full,.sl r3 .full],[.str s2,.sl r4 (.tok 0),.sl r5 (.tok 1)]] [(k,2,114),(k2,3,116)] [76,85,85])))) .fail) (.ret (.out (.exit 0) z9 (Store.mk [[.sl r .non,.int .i64 n,.int .i64 n2,.bool false,.int .i64 0],[.str s,.sl r2 .full,.sl r3 .full],[.str s2,.sl r4 (.tok 0),.sl r5 (.tok 1)]] [(k,2,114),(k2,3,116)] [76,85,85])))
theorem qYd:lstep tbT qHD qFt qIg qHX [.ptr 0 0,.ptr 1 0,.ptr 2 0] ⟨[[.sl r .non,.int .i64 n,.int .i64 n2,.bool false,.int .i64 0],[.str s,.sl r2 .full,.sl r3 .full],[.str s2,.sl r4 (.tok 0),.sl r5 (.tok 1)]],[(k,2,114),(k2,3,116)],[76,85,85]⟩=qhx r n n2 s r2 r3 s2 r4 r5 k k2:=by kernel_rfl
theorem qtv:qgX [.ptr 0 0,.ptr 1 0,.ptr 2 0] ⟨[[.sl r .non,.int .i64 n,.int .i64 n2,.bool false,.int .i64 0],[.str s,.sl r2 .full,.sl r3 .full],[.str s2,.sl r4 (.tok 0),.sl r5 (.tok 1)]],[(k,2,114),(k2,3,116)],[76,85,85]⟩=lnext qgX (qhx r n n2 s r2 r3 s2 r4 r5 k k2).run:=by unfold qgX;rw [qaC,qYd]
end
section
variable (r:qR) (n n2 n3:Int) (s:qU) (r2 r3:qR) (s2:qU) (r4 r5:qR) (k k2:Nat)
def qu6:Option (PExit×List PV×Store):=qgX [.ptr 0 0,.ptr 1 0,.ptr 2 0] ⟨[[.sl r .non,.int .i64 n,.int .i64 n2,.bool true,.int .i64 n3],[.str s,.sl r2 .full,.sl r3 .full],[.str s2,.sl r4 (.tok 0),.sl r5 (.tok 1)]],[(k,2,114),(k2,3,116)],[76,85,85]⟩
def qIi:Int:=qbu 0 1 (qu6 r n n2 n3 s r2 r3 s2 r4 r5 k k2)
def qym:qR:=qaO 2 1 (qu6 r n n2 n3 s r2 r3 s2 r4 r5 k k2)
def qA3:qR:=qaO 2 2 (qu6 r n n2 n3 s r2 r3 s2 r4 r5 k k2)
def qIj:Nat:=(gTok (qu6 r n n2 n3 s r2 r3 s2 r4 r5 k k2) 0)
def qzF:Nat:=(gTok (qu6 r n n2 n3 s r2 r3 s2 r4 r5 k k2) 1)
def qwN:Bool:=isW (qu6 r n n2 n3 s r2 r3 s2 r4 r5 k k2) ((.exit 0),[.ptr 0 0,.ptr 1 0,.ptr 2 0],⟨[[.sl r .non,.int .i64 (qIi r n n2 n3 s r2 r3 s2 r4 r5 k k2),.int .i64 n2,.bool true,.int .i64 n3],[.str s,.sl r2 .full,.sl r3 .full],[.str s2,.sl (qym r n n2 n3 s r2 r3 s2 r4 r5 k k2) (.tok 0),.sl (qA3 r n n2 n3 s r2 r3 s2 r4 r5 k k2) (.tok 1)]],[((qIj r n n2 n3 s r2 r3 s2 r4 r5 k k2),2,114),((qzF r n n2 n3 s r2 r3 s2 r4 r5 k k2),3,116)],[76,85,85]⟩)
end
section
variable (r:qR) (n n2:Int) (s:qU) (r2 r3:qR) (s2:qU) (r4 r5:qR) (k k2:Nat)
def qb6:Option (PExit×List PV×Store):=qgX [.ptr 0 0,.ptr 1 0,.ptr 2 0] ⟨[[.sl r .non,.int .i64 n,.int .i64 n2,.bool false,.int .i64 0],[.str s,.sl r2 .full,.sl r3 .full],[.str s2,.sl r4 (.tok 0),.sl r5 (.tok 1)]],[(k,2,114),(k2,3,116)],[76,85,85]⟩
def qse:Int:=qbu 0 1 (qb6 r n n2 s r2 r3 s2 r4 r5 k k2)
def qmN:Int:=qbu 0 4 (qb6 r n n2 s r2 r3 s2 r4 r5 k k2)
def qmQ:qR:=qaO 2 1 (qb6 r n n2 s r2 r3 s2 r4 r5 k k2)
def qm3:qR:=qaO 2 2 (qb6 r n n2 s r2 r3 s2 r4 r5 k k2)
def qs5:Nat:=(gTok (qb6 r n n2 s r2 r3 s2 r4 r5 k k2) 0)
def qmF:Nat:=(gTok (qb6 r n n2 s r2 r3 s2 r4 r5 k k2) 1)
def qz9:Bool:=isW (qb6 r n n2 s r2 r3 s2 r4 r5 k k2) ((.exit 0),[.ptr 0 0,.ptr 1 0,.ptr 2 0],⟨[[.sl r .non,.int .i64 (qse r n n2 s r2 r3 s2 r4 r5 k k2),.int .i64 n2,.bool true,.int .i64 (qmN r n n2 s r2 r3 s2 r4 r5 k k2)],[.str s,.sl r2 .full,.sl r3 .full],[.str s2,.sl (qmQ r n n2 s r2 r3 s2 r4 r5 k k2) (.tok 0),.sl (qm3 r n n2 s r2 r3 s2 r4 r5 k k2) (.tok 1)]],[((qs5 r n n2 s r2 r3 s2 r4 r5 k k2),2,114),((qmF r n n2 s r2 r3 s2 r4 r5 k k2),3,116)],[76,85,85]⟩)
def qq7:Int:=qbu 0 1 (qb6 r n n2 s r2 r3 s2 r4 r5 k k2)
def qm2:qR:=qaO 2 1 (qb6 r n n2 s r2 r3 s2 r4 r5 k k2)
def qno:qR:=qaO 2 2 (qb6 r n n2 s r2 r3 s2 r4 r5 k k2)
def qsq:Nat:=(gTok (qb6 r n n2 s r2 r3 s2 r4 r5 k k2) 0)
def qnZ:Nat:=(gTok (qb6 r n n2 s r2 r3 s2 r4 r5 k k2) 1)
def qyV:Bool:=isW (qb6 r n n2 s r2 r3 s2 r4 r5 k k2) ((.exit 0),[.ptr 0 0,.ptr 1 0,.ptr 2 0],⟨[[.sl r .non,.int .i64 (qq7 r n n2 s r2 r3 s2 r4 r5 k k2),.int .i64 n2,.bool false,.int .i64 0],[.str s,.sl r2 .full,.sl r3 .full],[.str s2,.sl (qm2 r n n2 s r2 r3 s2 r4 r5 k k2) (.tok 0),.sl (qno r n n2 s r2 r3 s2 r4 r5 k k2) (.tok 1)]],[((qsq r n n2 s r2 r3 s2 r4 r5 k k2),2,114),((qnZ r n n2 s r2 r3 s2 r4 r5 k k2),3,116)],[76,85,85]⟩)
end
def qqM:List PV→Store→Tr (PExit×List PV×Store)|[.ptr 0 0,.ptr 1 0,.ptr 2 0],⟨[[.sl r .non,.int .i64 n,.int .i64 n2,.bool true,.int .i64 n3],[.str s,.sl r2 .full,.sl r3 .full],[.str s2,.sl r4 (.tok 0),.sl r5 (.tok 1)]],[(k,2,114),(k2,3,116)],[76,85,85]⟩=>.ite (qwN r n n2 n3 s r2 r3 s2 r4 r5 k k2) (.ret ((.exit 0),[.ptr 0 0,.ptr 1 0,.ptr 2 0],⟨[[.sl r .non,.int .i64 (qIi r n n2 n3 s r2 r3 s2 r4 r5 k k2),.int .i64 n2,.bool true,.int .i64 n3],[.str s,.sl r2 .full,.sl r3 .full],[.str s2,.sl (qym r n n2 n3 s r2 r3 s2 r4 r5 k k2) (.tok 0),.sl (qA3 r n n2 n3 s r2 r3 s2 r4 r5 k k2) (.tok 1)]],[((qIj r n n2 n3 s r2 r3 s2 r4 r5 k k2),2,114),((qzF r n n2 n3 s r2 r3 s2 r4 r5 k k2),3,116)],[76,85,85]⟩)) (.fail)|[.ptr 0 0,.ptr 1 0,.ptr 2 0],⟨[[.sl r .non,.int .i64 n,.int .i64 n2,.bool false,.int .i64 0],[.str s,.sl r2 .full,.sl r3 .full],[.str s2,.sl r4 (.tok 0),.sl r5 (.tok 1)]],[(k,2,114),(k2,3,116)],[76,85,85]⟩=>.ite (qz9 r n n2 s r2 r3 s2 r4 r5 k k2) (.ret ((.exit 0),[.ptr 0 0,.ptr 1 0,.ptr 2 0],⟨[[.sl r .non,.int .i64 (qse r n n2 s r2 r3 s2 r4 r5 k k2),.int .i64 n2,.bool true,.int .i64 (qmN r n n2 s r2 r3 s2 r4 r5 k k2)],[.str s,.sl r2 .full,.sl r3 .full],[.str s2,.sl (qmQ r n n2 s r2 r3 s2 r4 r5 k k2) (.tok 0),.sl (qm3 r n n2 s r2 r3 s2 r4 r5 k k2) (.tok 1)]],[((qs5 r n n2 s r2 r3 s2 r4 r5 k k2),2,114),((qmF r n n2 s r2 r3 s2 r4 r5 k k2),3,116)],[76,85,85]⟩)) (.ite (qyV r n n2 s r2 r3 s2 r4 r5 k k2) (.ret ((.exit 0),[.ptr 0 0,.ptr 1 0,.ptr 2 0],⟨[[.sl r .non,.int .i64 (qq7 r n n2 s r2 r3 s2 r4 r5 k k2),.int .i64 n2,.bool false,.int .i64 0],[.str s,.sl r2 .full,.sl r3 .full],[.str s2,.sl (qm2 r n n2 s r2 r3 s2 r4 r5 k k2) (.tok 0),.sl (qno r n n2 s r2 r3 s2 r4 r5 k k2) (.tok 1)]],[((qsq r n n2 s r2 r3 s2 r4 r5 k k2),2,114),((qnZ r n n2 s r2 r3 s2 r4 r5 k k2),3,116)],[76,85,85]⟩)) (.fail))|_,_=>.fail
theorem qWJ:∀ vs σ r,(qqM vs σ).run=some r→qgX vs σ=some r:=by
 intro vs σ r h;unfold qqM at h
 split at h
 ·exact qae h fun h=>by cases h
 ·exact qae h fun h=>qae h fun h=>by cases h
 ·cases h
theorem qQ8 (gl:Gl):∀ fr σ e fr' σ',(orc qHX qqM fr σ).run=some (e,fr',σ')→LDoes Tryz.prog gl qIg fr σ e fr' σ':=qbw qaj (qK5 gl ) qai (L:=qFt) (qab (by kernel_rfl)) (by kernel_rfl) qWJ
def qMc:LI:=⟨90,[0,2,3],fun e=>match e with|.exit 2=>[0,2,3]|_=>[],true⟩
def qJD:LpsT:=fun r fr σ=>.fail
def qq6 (vs:List PV) (σ:Store):Option (PExit×List PV×Store):=lval (lstep tbT qHD qJD qL5 qMc) vs σ
section
variable (r:qR) (n n2:Int) (s:qU) (r2 r3:qR) (s2:qU) (r4 r5:qR) (k k2:Nat)
def qqP:Tr LR:=let z1:=qac r;let z2:List PV:=[.str s2,.sl r4 (.tok 0),.sl r5 (.tok 1)];let z3:qR:=[[.bool (qxd z1 n n2),.str (qxM z1 n n2),.sl (qaa (qxc z1 n n2)) .non]];let z4:=qaa z1;let z5:=qvK z1 n n2;let z6:=qqE z1 n n2;let z7:List PV:=[.ptr 0 0,.ptr 1 0,.ptr 2 0];let z8:List PV:=[.str s,.sl r2 .full,.sl r3 .full];let z9:List PV:=[.str s2,.sl r4 (.tok 0),.sl (xApp r5 z3) (.tok 1)];let z10:qR:=[[.bool (qwG z1 n n2),.str (qvL z1 n n2),.sl (qaa (qwJ z1 n n2)) .non]];let z11:=qxl z1 n n2;let z12:List PV:=[.str s2,.sl r4 (.tok 0),.sl (xApp r5 z10) (.tok 1)];.ite true (.ite (qDA z1 n n2) (.ite (qdY z2 z2) (.ite (qas r5 z3 48) (.ite (qap z3 3) (.ite (qan r5 3) (.ite (nEq k2 (nXs r5)) (.ite (qaq (qac z4) z5 n2 z6 6 [44]) (.ite (bNot (qaA (qac z4) z5 n2 z6 6 [44])) (.ret (.out (.exit 2) z7 (Store.mk [[.sl z4 .non,.int .i64 z5,.int .i64 n2,.bool true,.int .i64 z6],z8,z9] [(k,2,114),(nXs (xApp r5 z3),3,116)] [76,85,85]))) (.ret (.next z7 (Store.mk [[.sl z4 .non,.int .i64 (iAdd .i64 z5 1),.int .i64 n2,.bool true,.int .i64 z6],z8,z9] [(k,2,114),(nXs (xApp r5 z3),3,116)] [76,85,85])))) .fail) .fail) .fail) .fail) .fail) .fail) (.ite (qF5 z1 n n2) (.ite (qdY z2 z2) (.ite (qas r5 z10 48) (.ite (qap z10 3) (.ite (qan r5 3) (.ite (nEq k2 (nXs r5)) (.ite (qaL (qac z4) z11 n2 6 [44]) (.ite (bNot (qbj (qac z4) z11 n2 6 [44])) (.ret (.out (.exit 2) z7 (Store.mk [[.sl z4 .non,.int .i64 z11,.int .i64 n2,.bool false,.int .i64 0],z8,z12] [(k,2,114),(nXs (xApp r5 z10),3,116)] [76,85,85]))) (.ret (.next z7 (Store.mk [[.sl z4 .non,.int .i64 (iAdd .i64 z11 1),.int .i64 n2,.bool false,.int .i64 0],z8,z12] [(k,2,114),(nXs (xApp r5 z10),3,116)] [76,85,85])))) .fail) .fail) .fail) .fail) .fail) .fail) .fail)) (.ret (.out (.exit 2) z7 (Store.mk [[.sl r .non,.int .i64 n,.int .i64 n2,.bool false,.int .i64 0],z8,z2] [(k,2,114),(k2,3,116)] [76,85,85])))
theorem qYg:lstep tbT qHD qJD qL5 qMc [.ptr 0 0,.ptr 1 0,.ptr 2 0] ⟨[[.sl r .non,.int .i64 n,.int .i64 n2,.bool false,.int .i64 0],[.str s,.sl r2 .full,.sl r3 .full],[.str s2,.sl r4 (.tok 0),.sl r5 (.tok 1)]],[(k,2,114),(k2,3,116)],[76,85,85]⟩=qqP r n n2 s r2 r3 s2 r4 r5 k k2:=by kernel_rfl
theorem qJ0:qq6 [.ptr 0 0,.ptr 1 0,.ptr 2 0] ⟨[[.sl r .non,.int .i64 n,.int .i64 n2,.bool false,.int .i64 0],[.str s,.sl r2 .full,.sl r3 .full],[.str s2,.sl r4 (.tok 0),.sl r5 (.tok 1)]],[(k,2,114),(k2,3,116)],[76,85,85]⟩=lnext qq6 (qqP r n n2 s r2 r3 s2 r4 r5 k k2).run:=by unfold qq6;rw [qaC,qYg]
end
section
variable (r:qR) (n n2 n3:Int) (s:qU) (r2 r3:qR) (s2:qU) (r4 r5:qR) (k k2:Nat)
def qBz:Option (PExit×List PV×Store):=qq6 [.ptr 0 0,.ptr 1 0,.ptr 2 0] ⟨[[.sl r .non,.int .i64 n,.int .i64 n2,.bool true,.int .i64 n3],[.str s,.sl r2 .full,.sl r3 .full],[.str s2,.sl r4 (.tok 0),.sl r5 (.tok 1)]],[(k,2,114),(k2,3,116)],[76,85,85]⟩
def qAf:Int:=qbu 0 1 (qBz r n n2 n3 s r2 r3 s2 r4 r5 k k2)
def qoG:qR:=qaO 2 1 (qBz r n n2 n3 s r2 r3 s2 r4 r5 k k2)
def qps:qR:=qaO 2 2 (qBz r n n2 n3 s r2 r3 s2 r4 r5 k k2)
def qSX:Nat:=(gTok (qBz r n n2 n3 s r2 r3 s2 r4 r5 k k2) 0)
def qKD:Nat:=(gTok (qBz r n n2 n3 s r2 r3 s2 r4 r5 k k2) 1)
def qmx:Bool:=isW (qBz r n n2 n3 s r2 r3 s2 r4 r5 k k2) ((.exit 2),[.ptr 0 0,.ptr 1 0,.ptr 2 0],⟨[[.sl r .non,.int .i64 (qAf r n n2 n3 s r2 r3 s2 r4 r5 k k2),.int .i64 n2,.bool true,.int .i64 n3],[.str s,.sl r2 .full,.sl r3 .full],[.str s2,.sl (qoG r n n2 n3 s r2 r3 s2 r4 r5 k k2) (.tok 0),.sl (qps r n n2 n3 s r2 r3 s2 r4 r5 k k2) (.tok 1)]],[((qSX r n n2 n3 s r2 r3 s2 r4 r5 k k2),2,114),((qKD r n n2 n3 s r2 r3 s2 r4 r5 k k2),3,116)],[76,85,85]⟩)
end
section
variable (r:qR) (n n2:Int) (s:qU) (r2 r3:qR) (s2:qU) (r4 r5:qR) (k k2:Nat)
def qcY:Option (PExit×List PV×Store):=qq6 [.ptr 0 0,.ptr 1 0,.ptr 2 0] ⟨[[.sl r .non,.int .i64 n,.int .i64 n2,.bool false,.int .i64 0],[.str s,.sl r2 .full,.sl r3 .full],[.str s2,.sl r4 (.tok 0),.sl r5 (.tok 1)]],[(k,2,114),(k2,3,116)],[76,85,85]⟩
def qqh:Int:=qbu 0 1 (qcY r n n2 s r2 r3 s2 r4 r5 k k2)
def qmK:Int:=qbu 0 4 (qcY r n n2 s r2 r3 s2 r4 r5 k k2)
def qnu:qR:=qaO 2 1 (qcY r n n2 s r2 r3 s2 r4 r5 k k2)
def qnr:qR:=qaO 2 2 (qcY r n n2 s r2 r3 s2 r4 r5 k k2)
def qyX:Nat:=(gTok (qcY r n n2 s r2 r3 s2 r4 r5 k k2) 0)
def qtk:Nat:=(gTok (qcY r n n2 s r2 r3 s2 r4 r5 k k2) 1)
def qAH:Bool:=isW (qcY r n n2 s r2 r3 s2 r4 r5 k k2) ((.exit 2),[.ptr 0 0,.ptr 1 0,.ptr 2 0],⟨[[.sl r .non,.int .i64 (qqh r n n2 s r2 r3 s2 r4 r5 k k2),.int .i64 n2,.bool true,.int .i64 (qmK r n n2 s r2 r3 s2 r4 r5 k k2)],[.str s,.sl r2 .full,.sl r3 .full],[.str s2,.sl (qnu r n n2 s r2 r3 s2 r4 r5 k k2) (.tok 0),.sl (qnr r n n2 s r2 r3 s2 r4 r5 k k2) (.tok 1)]],[((qyX r n n2 s r2 r3 s2 r4 r5 k k2),2,114),((qtk r n n2 s r2 r3 s2 r4 r5 k k2),3,116)],[76,85,85]⟩)
def qry:Int:=qbu 0 1 (qcY r n n2 s r2 r3 s2 r4 r5 k k2)
def qnp:qR:=qaO 2 1 (qcY r n n2 s r2 r3 s2 r4 r5 k k2)
def qng:qR:=qaO 2 2 (qcY r n n2 s r2 r3 s2 r4 r5 k k2)
def qzB:Nat:=(gTok (qcY r n n2 s r2 r3 s2 r4 r5 k k2) 0)
def qtp:Nat:=(gTok (qcY r n n2 s r2 r3 s2 r4 r5 k k2) 1)
def qAB:Bool:=isW (qcY r n n2 s r2 r3 s2 r4 r5 k k2) ((.exit 2),[.ptr 0 0,.ptr 1 0,.ptr 2 0],⟨[[.sl r .non,.int .i64 (qry r n n2 s r2 r3 s2 r4 r5 k k2),.int .i64 n2,.bool false,.int .i64 0],[.str s,.sl r2 .full,.sl r3 .full],[.str s2,.sl (qnp r n n2 s r2 r3 s2 r4 r5 k k2) (.tok 0),.sl (qng r n n2 s r2 r3 s2 r4 r5 k k2) (.tok 1)]],[((qzB r n n2 s r2 r3 s2 r4 r5 k k2),2,114),((qtp r n n2 s r2 r3 s2 r4 r5 k k2),3,116)],[76,85,85]⟩)
end
def qqG:List PV→Store→Tr (PExit×List PV×Store)|[.ptr 0 0,.ptr 1 0,.ptr 2 0],⟨[[.sl r .non,.int .i64 n,.int .i64 n2,.bool true,.int .i64 n3],[.str s,.sl r2 .full,.sl r3 .full],[.str s2,.sl r4 (.tok 0),.sl r5 (.tok 1)]],[(k,2,114),(k2,3,116)],[76,85,85]⟩=>.ite (qmx r n n2 n3 s r2 r3 s2 r4 r5 k k2) (.ret ((.exit 2),[.ptr 0 0,.ptr 1 0,.ptr 2 0],⟨[[.sl r .non,.int .i64 (qAf r n n2 n3 s r2 r3 s2 r4 r5 k k2),.int .i64 n2,.bool true,.int .i64 n3],[.str s,.sl r2 .full,.sl r3 .full],[.str s2,.sl (qoG r n n2 n3 s r2 r3 s2 r4 r5 k k2) (.tok 0),.sl (qps r n n2 n3 s r2 r3 s2 r4 r5 k k2) (.tok 1)]],[((qSX r n n2 n3 s r2 r3 s2 r4 r5 k k2),2,114),((qKD r n n2 n3 s r2 r3 s2 r4 r5 k k2),3,116)],[76,85,85]⟩)) (.fail)|[.ptr 0 0,.ptr 1 0,.ptr 2 0],⟨[[.sl r .non,.int .i64 n,.int .i64 n2,.bool false,.int .i64 0],[.str s,.sl r2 .full,.sl r3 .full],[.str s2,.sl r4 (.tok 0),.sl r5 (.tok 1)]],[(k,2,114),(k2,3,116)],[76,85,85]⟩=>.ite (qAH r n n2 s r2 r3 s2 r4 r5 k k2) (.ret ((.exit 2),[.ptr 0 0,.ptr 1 0,.ptr 2 0],⟨[[.sl r .non,.int .i64 (qqh r n n2 s r2 r3 s2 r4 r5 k k2),.int .i64 n2,.bool true,.int .i64 (qmK r n n2 s r2 r3 s2 r4 r5 k k2)],[.str s,.sl r2 .full,.sl r3 .full],[.str s2,.sl (qnu r n n2 s r2 r3 s2 r4 r5 k k2) (.tok 0),.sl (qnr r n n2 s r2 r3 s2 r4 r5 k k2) (.tok 1)]],[((qyX r n n2 s r2 r3 s2 r4 r5 k k2),2,114),((qtk r n n2 s r2 r3 s2 r4 r5 k k2),3,116)],[76,85,85]⟩)) (.ite (qAB r n n2 s r2 r3 s2 r4 r5 k k2) (.ret ((.exit 2),[.ptr 0 0,.ptr 1 0,.ptr 2 0],⟨[[.sl r .non,.int .i64 (qry r n n2 s r2 r3 s2 r4 r5 k k2),.int .i64 n2,.bool false,.int .i64 0],[.str s,.sl r2 .full,.sl r3 .full],[.str s2,.sl (qnp r n n2 s r2 r3 s2 r4 r5 k k2) (.tok 0),.sl (qng r n n2 s r2 r3 s2 r4 r5 k k2) (.tok 1)]],[((qzB r n n2 s r2 r3 s2 r4 r5 k k2),2,114),((qtp r n n2 s r2 r3 s2 r4 r5 k k2),3,116)],[76,85,85]⟩)) (.fail))|_,_=>.fail
theorem qXB:∀ vs σ r,(qqG vs σ).run=some r→qq6 vs σ=some r:=by
 intro vs σ r h;unfold qqG at h
 split at h
 ·exact qae h fun h=>by cases h
 ·exact qae h fun h=>qae h fun h=>by cases h
 ·cases h
theorem qRO (gl:Gl):∀ fr σ e fr' σ',(orc qMc qqG fr σ).run=some (e,fr',σ')→LDoes Tryz.prog gl qL5 fr σ e fr' σ':=qbw qaj (qK5 gl ) qai (L:=qJD) (qab (by kernel_rfl)) (by kernel_rfl) qXB
def qW4:LpsT:=fun r fr σ=>bif Nat.beq r 4 then orc qHX qqM fr σ else bif Nat.beq r 15 then orc qMc qqG fr σ else .fail
section
variable (r:qR) (i n:Int)
def qlj:Tr (PR×Store):=let z1:=qac (qac r);let z2:=iAdd .i64 i 1;let z3:=qac (qaa z1);let z4:=qd9 z1 z2 n;let z5:=qaa z3;let z6:=qaD [40] z3 (qcS z1 z2 n) n z4;let z7:=qfG z1 z2 n;let z8:=qac z5;let z9:=qIi z5 z6 n z4 [] [] [] z7 [] [] 0 0;let z10:=qaa z8;let z11:=qac z10;let z12:=qaD [41] z8 z9 n z4;let z13:=iAdd .i64 z12 1;let z14:=qym z5 z6 n z4 [] [] [] z7 [] [] 0 0;let z15:=qA3 z5 z6 n z4 [] [] [] z7 [] [] 0 0;let z16:=qIj z5 z6 n z4 [] [] [] z7 [] [] 0 0;let z17:=qzF z5 z6 n z4 [] [] [] z7 [] [] 0 0;let z18:=qAf z10 z13 n z4 [] [] [] z7 z14 z15 z16 z17;let z19:=qaa (qaa z11);let z20:=qfE z1 z2 n;let z21:=qbr [40] z3 z20 n;let z22:=qbi [40] z3 z20 n;let z23:=qfF z1 z2 n;let z24:=qIi z5 z21 n z22 [] [] [] z23 [] [] 0 0;let z25:=qaD [41] z8 z24 n z22;let z26:=iAdd .i64 z25 1;let z27:=qym z5 z21 n z22 [] [] [] z23 [] [] 0 0;let z28:=qA3 z5 z21 n z22 [] [] [] z23 [] [] 0 0;let z29:=qIj z5 z21 n z22 [] [] [] z23 [] [] 0 0;let z30:=qzF z5 z21 n z22 [] [] [] z23 [] [] 0 0;let z31:=qAf z10 z26 n z22 [] [] [] z23 z27 z28 z29 z30;let z32:=qbB [40] z3 z20 n;let z33:=qse z5 z32 n [] [] [] z23 [] [] 0 0;let z34:=qmN z5 z32 n [] [] [] z23 [] [] 0 0;let z35:=qaD [41] z8 z33 n z34;let z36:=iAdd .i64 z35 1;let z37:=qmQ z5 z32 n [] [] [] z23 [] [] 0 0;let z38:=qm3 z5 z32 n [] [] [] z23 [] [] 0 0;let z39:=qs5 z5 z32 n [] [] [] z23 [] [] 0 0;let z40:=qmF z5 z32 n [] [] [] z23 [] [] 0 0;let z41:=qAf z10 z36 n z34 [] [] [] z23 z37 z38 z39 z40;let z42:=qq7 z5 z32 n [] [] [] z23 [] [] 0 0;let z43:=qbr [41] z8 z42 n;let z44:=qbi [41] z8 z42 n;let z45:=iAdd .i64 z43 1;let z46:=qm2 z5 z32 n [] [] [] z23 [] [] 0 0;let z47:=qno z5 z32 n [] [] [] z23 [] [] 0 0;let z48:=qsq z5 z32 n [] [] [] z23 [] [] 0 0;let z49:=qnZ z5 z32 n [] [] [] z23 [] [] 0 0;let z50:=qAf z10 z45 n z44 [] [] [] z23 z46 z47 z48 z49;let z51:PV:=.agg [.str z23,.sl (qaa z46) .non,.sl (qaa z47) .non];let z52:=qbB [41] z8 z42 n;let z53:=iAdd .i64 z52 1;let z54:=qqh z10 z53 n [] [] [] z23 z46 z47 z48 z49;let z55:=qmK z10 z53 n [] [] [] z23 z46 z47 z48 z49;let z56:=qry z10 z53 n [] [] [] z23 z46 z47 z48 z49;let z57:PV:=.agg [.str z23,.sl (qaa (qnp z10 z53 n [] [] [] z23 z46 z47 z48 z49)) .non,.sl (qaa (qng z10 z53 n [] [] [] z23 z46 z47 z48 z49)) .non];.ite (qhX z1 z2 n) (.ite (qat [40] z3 (qcS z1 z2 n) n z4) (.ite (qwN z5 z6 n z4 [] [] [] z7 [] [] 0 0) (.ite (qat [41] z8 z9 n z4) (.ite (qaq z11 z12 n z4 6 [58]) (.ite (qaA z11 z12 n z4 6 [58]) (.ite (qmx z10 z13 n z4 [] [] [] z7 z14 z15 z16 z17) (.ite (qat [46] z11 z18 n z4) (.ret (PR.val (.agg [.str z7,.sl (qaa (qoG z10 z13 n z4 [] [] [] z7 z14 z15 z16 z17)) .non,.sl (qaa (qps z10 z13 n z4 [] [] [] z7 z14 z15 z16 z17)) .non]),Store.mk [[.sl z19 .non,.int .i64 (qaD [46] z11 z18 n z4),.int .i64 n,.bool true,.int .i64 z4]] [] [76])) .fail) .fail) (.ite (qat [46] z11 z12 n z4) (.ret (PR.val (.agg [.str z7,.sl (qaa z14) .non,.sl (qaa z15) .non]),Store.mk [[.sl z19 .non,.int .i64 (qaD [46] z11 z12 n z4),.int .i64 n,.bool true,.int .i64 z4]] [] [76])) .fail)) .fail) .fail) .fail) .fail) (.ite (qiK z1 z2 n) (.ite (qbR [40] z3 z20 n) (.ite (qwN z5 z21 n z22 [] [] [] z23 [] [] 0 0) (.ite (qat [41] z8 z24 n z22) (.ite (qaq z11 z25 n z22 6 [58]) (.ite (qaA z11 z25 n z22 6 [58]) (.ite (qmx z10 z26 n z22 [] [] [] z23 z27 z28 z29 z30) (.ite (qat [46] z11 z31 n z22) (.ret (PR.val (.agg [.str z23,.sl (qaa (qoG z10 z26 n z22 [] [] [] z23 z27 z28 z29 z30)) .non,.sl (qaa (qps z10 z26 n z22 [] [] [] z23 z27 z28 z29 z30)) .non]),Store.mk [[.sl z19 .non,.int .i64 (qaD [46] z11 z31 n z22),.int .i64 n,.bool true,.int .i64 z22]] [] [76])) .fail) .fail) (.ite (qat [46] z11 z25 n z22) (.ret (PR.val (.agg [.str z23,.sl (qaa z27) .non,.sl (qaa z28) .non]),Store.mk [[.sl z19 .non,.int .i64 (qaD [46] z11 z25 n z22),.int .i64 n,.bool true,.int .i64 z22]] [] [76])) .fail)) .fail) .fail) .fail) (.ite (qbM [40] z3 z20 n) (.ite (qz9 z5 z32 n [] [] [] z23 [] [] 0 0) (.ite (qat [41] z8 z33 n z34) (.ite (qaq z11 z35 n z34 6 [58]) (.ite (qaA z11 z35 n z34 6 [58]) (.ite (qmx z10 z36 n z34 [] [] [] z23 z37 z38 z39 z40) (.ite (qat [46] z11 z41 n z34) (.ret (PR.val (.agg [.str z23,.sl (qaa (qoG z10 z36 n z34 [] [] [] z23 z37 z38 z39 z40)) .non,.sl (qaa (qps z10 z36 n z34 [] [] [] z23 z37 z38 z39 z40)) .non]),Store.mk [[.sl z19 .non,.int .i64 (qaD [46] z11 z41 n z34),.int .i64 n,.bool true,.int .i64 z34]] [] [76])) .fail) .fail) (.ite (qat [46] z11 z35 n z34) (.ret (PR.val (.agg [.str z23,.sl (qaa z37) .non,.sl (qaa z38) .non]),Store.mk [[.sl z19 .non,.int .i64 (qaD [46] z11 z35 n z34),.int .i64 n,.bool true,.int .i64 z34]] [] [76])) .fail)) .fail) .fail) (.ite (qyV z5 z32 n [] [] [] z23 [] [] 0 0) (.ite (qbR [41] z8 z42 n) (.ite (qaq z11 z43 n z44 6 [58]) (.ite (qaA z11 z43 n z44 6 [58]) (.ite (qmx z10 z45 n z44 [] [] [] z23 z46 z47 z48 z49) (.ite (qat [46] z11 z50 n z44) (.ret (PR.val (.agg [.str z23,.sl (qaa (qoG z10 z45 n z44 [] [] [] z23 z46 z47 z48 z49)) .non,.sl (qaa (qps z10 z45 n z44 [] [] [] z23 z46 z47 z48 z49)) .non]),Store.mk [[.sl z19 .non,.int .i64 (qaD [46] z11 z50 n z44),.int .i64 n,.bool true,.int .i64 z44]] [] [76])) .fail) .fail) (.ite (qat [46] z11 z43 n z44) (.ret (PR.val z51,Store.mk [[.sl z19 .non,.int .i64 (qaD [46] z11 z43 n z44),.int .i64 n,.bool true,.int .i64 z44]] [] [76])) .fail)) .fail) (.ite (qbM [41] z8 z42 n) (.ite (qaL z11 z52 n 6 [58]) (.ite (qbj z11 z52 n 6 [58]) (.ite (qAH z10 z53 n [] [] [] z23 z46 z47 z48 z49) (.ite (qat [46] z11 z54 n z55) (.ret (PR.val (.agg [.str z23,.sl (qaa (qnu z10 z53 n [] [] [] z23 z46 z47 z48 z49)) .non,.sl (qaa (qnr z10 z53 n [] [] [] z23 z46 z47 z48 z49)) .non]),Store.mk [[.sl z19 .non,.int .i64 (qaD [46] z11 z54 n z55),.int .i64 n,.bool true,.int .i64 z55]] [] [76])) .fail) (.ite (qAB z10 z53 n [] [] [] z23 z46 z47 z48 z49) (.ite (qbR [46] z11 z56 n) (.ret (PR.val z57,Store.mk [[.sl z19 .non,.int .i64 (qbr [46] z11 z56 n),.int .i64 n,.bool true,.int .i64 (qbi [46] z11 z56 n)]] [] [76])) (.ite (qbM [46] z11 z56 n) (.ret (PR.val z57,Store.mk [[.sl z19 .non,.int .i64 (qbB [46] z11 z56 n),.int .i64 n,.bool false,.int .i64 0]] [] [76])) .fail)) .fail)) (.ite (qbR [46] z11 z52 n) (.ret (PR.val z51,Store.mk [[.sl z19 .non,.int .i64 (qbr [46] z11 z52 n),.int .i64 n,.bool true,.int .i64 (qbi [46] z11 z52 n)]] [] [76])) (.ite (qbM [46] z11 z52 n) (.ret (PR.val z51,Store.mk [[.sl z19 .non,.int .i64 (qbB [46] z11 z52 n),.int .i64 n,.bool false,.int .i64 0]] [] [76])) .fail))) .fail) .fail)) .fail)) .fail)) .fail)
theorem zaba:(nrmM tbT qHD qW4 Tryz.f39 [.ptr 0 0] ⟨[[.sl r .non,.int .i64 i,.int .i64 n,.bool false,.int .i64 0]],[],[76]⟩).flat=qlj r i n:=by kernel_rfl
def qhJ:Option (PR×Store):=(qlj r i n).run
def qEz:qU:=qbo 0 (qhJ r i n)
def qDe:qR:=qcX 1 (qhJ r i n)
def qwg:qR:=qcX 2 (qhJ r i n)
def qE5:Int:=qbC 0 1 (qhJ r i n)
def qxu:Int:=qbC 0 4 (qhJ r i n)
def qJ9:Bool:=isW (qhJ r i n) ((.val (.agg [.str (qEz r i n),.sl (qDe r i n) .non,.sl (qwg r i n) .non])),⟨[[.sl r .non,.int .i64 (qE5 r i n),.int .i64 n,.bool true,.int .i64 (qxu r i n)]],[],[76]⟩)
def qEr:qU:=qbo 0 (qhJ r i n)
def qF0:qR:=qcX 1 (qhJ r i n)
def qx0:qR:=qcX 2 (qhJ r i n)
def qCO:Int:=qbC 0 1 (qhJ r i n)
def qKk:Bool:=isW (qhJ r i n) ((.val (.agg [.str (qEr r i n),.sl (qF0 r i n) .non,.sl (qx0 r i n) .non])),⟨[[.sl r .non,.int .i64 (qCO r i n),.int .i64 n,.bool false,.int .i64 0]],[],[76]⟩)
end
def qYI:List PV→Store→Tr (PR×Store)|[.ptr 0 0],⟨[[.sl r .non,.int .i64 i,.int .i64 n,.bool false,.int .i64 0]],[],[76]⟩=>.ite (qJ9 r i n) (.ret ((.val (.agg [.str (qEz r i n),.sl (qDe r i n) .non,.sl (qwg r i n) .non])),⟨[[.sl r .non,.int .i64 (qE5 r i n),.int .i64 n,.bool true,.int .i64 (qxu r i n)]],[],[76]⟩)) (.ite (qKk r i n) (.ret ((.val (.agg [.str (qEr r i n),.sl (qF0 r i n) .non,.sl (qx0 r i n) .non])),⟨[[.sl r .non,.int .i64 (qCO r i n),.int .i64 n,.bool false,.int .i64 0]],[],[76]⟩)) (.fail))|_,_=>.fail
theorem qWL (gl:Gl):SimM Tryz.prog gl 39 fun args σ=>(qYI args σ).run:=by
 refine SimM.of_nrm (G:=qHD) (L:=qW4) qaj (qK5 gl ) qai Tryz.func39 rfl (by rfl) (by kernel_rfl) (qav (L:=lps qW4) [(4,qIg),(15,qL5)] (by kernel_rfl) (List.forall_mem_cons.2 ⟨fun fr σ e fr' σ' h=>qQ8 gl  fr σ e fr' σ' h,(List.forall_mem_cons.2 ⟨fun fr σ e fr' σ' h=>qRO gl  fr σ e fr' σ' h,(List.forall_mem_nil _)⟩)⟩)) ?_
 intro args σ x h;unfold qYI at h
 split at h
 ·exact (congrArg Tr.run (zaba _ _ _)).trans (qae h fun h=>qae h fun h=>by cases h)
 ·cases h
end Go.Pv
set_option maxHeartbeats 4000000
set_option maxRecDepth 200000
set_option linter.unusedSimpArgs false
set_option linter.unusedVariables false
namespace Go.Pv
open Go Go.Proofs
end Go.Pv
set_option maxHeartbeats 4000000
set_option maxRecDepth 200000
set_option linter.unusedSimpArgs false
set_option linter.unusedVariables false
namespace Go.Pv
open Go Go.Proofs
def qF1:GamT:=ofL []
theorem qNf (gl:Gl):qal Tryz.prog gl (gam qF1):=qaf
def qMj:LpsT:=fun r fr σ=>.fail
section
variable (c:Int)
def qyC:Tr PV:=.ite (iLe 97 c) (.ret (.bool (iLe c 122))) (.ret (.bool false))
theorem qUk:(tcall tbT qF1 qMj Tryz.f97 [.int .u8 c]).flat=qyC c:=by kernel_rfl
def qvZ:Option PV:=(qyC c).run
def qkB:Bool:=(qeC (gVal (qvZ c)))
def qiP:Bool:=isW (qvZ c) (.bool (qkB c))
end
def qw7:List PV→Tr PV|[.int .u8 c]=>.ite (qiP c) (.ret (.bool (qkB c))) (.fail)|_=>.fail
theorem qCz (gl:Gl):SimP Tryz.prog gl 97 fun args=>(qw7 args).run:=by
 refine SimP.of_flat (G:=qF1) (L:=qMj) qaj (qNf gl ) qai  Tryz.func97 rfl (by rfl) (by kernel_rfl) (qab (by kernel_rfl)) ?_
 intro args x h;unfold qw7 at h
 split at h
 ·exact (congrArg Tr.run (qUk _)).trans (qae h fun h=>by cases h)
 ·cases h
def qFm:GamT:=ofL []
theorem qNo (gl:Gl):qal Tryz.prog gl (gam qFm):=qaf
def qMx:LpsT:=fun r fr σ=>.fail
section
variable (c:Int)
def qzs:Tr PV:=.ite (iLe 65 c) (.ret (.bool (iLe c 90))) (.ret (.bool false))
theorem qTi:(tcall tbT qFm qMx Tryz.f98 [.int .u8 c]).flat=qzs c:=by kernel_rfl
def qxE:Option PV:=(qzs c).run
def qgP:Bool:=(qeC (gVal (qxE c)))
def qfQ:Bool:=isW (qxE c) (.bool (qgP c))
end
def qxh:List PV→Tr PV|[.int .u8 c]=>.ite (qfQ c) (.ret (.bool (qgP c))) (.fail)|_=>.fail
theorem qBJ (gl:Gl):SimP Tryz.prog gl 98 fun args=>(qxh args).run:=by
 refine SimP.of_flat (G:=qFm) (L:=qMx) qaj (qNo gl ) qai  Tryz.func98 rfl (by rfl) (by kernel_rfl) (qab (by kernel_rfl)) ?_
 intro args x h;unfold qxh at h
 split at h
 ·exact (congrArg Tr.run (qTi _)).trans (qae h fun h=>by cases h)
 ·cases h
def qFc:GamT:=ofL []
theorem qNy (gl:Gl):qal Tryz.prog gl (gam qFc):=qaf
def qLk:LpsT:=fun r fr σ=>.fail
section
variable (c:Int)
def qyc:Tr PV:=.ite (iLe 48 c) (.ret (.bool (iLe c 57))) (.ret (.bool false))
theorem qUg:(tcall tbT qFc qLk Tryz.f100 [.int .u8 c]).flat=qyc c:=by kernel_rfl
def qxk:Option PV:=(qyc c).run
def qfp:Bool:=(qeC (gVal (qxk c)))
def qex:Bool:=isW (qxk c) (.bool (qfp c))
end
def qs9:List PV→Tr PV|[.int .u8 c]=>.ite (qex c) (.ret (.bool (qfp c))) (.fail)|_=>.fail
theorem qt2 (gl:Gl):SimP Tryz.prog gl 100 fun args=>(qs9 args).run:=by
 refine SimP.of_flat (G:=qFc) (L:=qLk) qaj (qNy gl ) qai  Tryz.func100 rfl (by rfl) (by kernel_rfl) (qab (by kernel_rfl)) ?_
 intro args x h;unfold qs9 at h
 split at h
 ·exact (congrArg Tr.run (qUg _)).trans (qae h fun h=>by cases h)
 ·cases h
def qDX:GamT:=ofL [(97,.pure qw7),(98,.pure qxh),(100,.pure qs9)]
theorem qNR (gl:Gl):qal Tryz.prog gl (gam qDX):=(qag (qCz gl) (qag (qBJ gl) (qag (qt2 gl) qaf)))
def qL1:LpsT:=fun r fr σ=>.fail
section
variable (c:Int)
def qyv:Tr PV:=.ite (qiP c) (.ite (qkB c) (.ret (.bool true)) (.ite (qfQ c) (.ite (qgP c) (.ret (.bool true)) (.ite (qex c) (.ite (qfp c) (.ret (.bool true)) (.ret (.bool (iEq c 95)))) .fail)) .fail)) .fail
theorem qTD:(tcall tbT qDX qL1 Tryz.f146 [.int .u8 c]).flat=qyv c:=by kernel_rfl
def qvX:Option PV:=(qyv c).run
def qnw:Bool:=(qeC (gVal (qvX c)))
def qmm:Bool:=isW (qvX c) (.bool (qnw c))
end
def qDr:List PV→Tr PV|[.int .u8 c]=>.ite (qmm c) (.ret (.bool (qnw c))) (.fail)|_=>.fail
theorem qNO (gl:Gl):SimP Tryz.prog gl 146 fun args=>(qDr args).run:=by
 refine SimP.of_flat (G:=qDX) (L:=qL1) qaj (qNR gl ) qai  Tryz.func146 rfl (by rfl) (by kernel_rfl) (qab (by kernel_rfl)) ?_
 intro args x h;unfold qDr at h
 split at h
 ·exact (congrArg Tr.run (qTD _)).trans (qae h fun h=>by cases h)
 ·cases h
def qD5:GamT:=ofL []
theorem qM9 (gl:Gl):qal Tryz.prog gl (gam qD5):=qaf
def qMW:LpsT:=fun r fr σ=>.fail
section
variable (c:Int)
def qAF:Tr PV:=.ite (iEq c 32) (.ret (.bool true)) (.ite (iEq c 9) (.ret (.bool true)) (.ite (iEq c 10) (.ret (.bool true)) (.ret (.bool (iEq c 13)))))
theorem qUn:(tcall tbT qD5 qMW Tryz.f96 [.int .u8 c]).flat=qAF c:=by kernel_rfl
def qvR:Option PV:=(qAF c).run
def qjA:Bool:=(qeC (gVal (qvR c)))
def qm7:Bool:=isW (qvR c) (.bool (qjA c))
end
def qED:List PV→Tr PV|[.int .u8 c]=>.ite (qm7 c) (.ret (.bool (qjA c))) (.fail)|_=>.fail
theorem qOl (gl:Gl):SimP Tryz.prog gl 96 fun args=>(qED args).run:=by
 refine SimP.of_flat (G:=qD5) (L:=qMW) qaj (qM9 gl ) qai  Tryz.func96 rfl (by rfl) (by kernel_rfl) (qab (by kernel_rfl)) ?_
 intro args x h;unfold qED at h
 split at h
 ·exact (congrArg Tr.run (qUn _)).trans (qae h fun h=>by cases h)
 ·cases h
def qGF:GamT:=ofL [(96,.pure qED)]
theorem qLt (gl:Gl):qal Tryz.prog gl (gam qGF):=(qag (qOl gl) qaf)
def qGb:Code:=qc2 Tryz.f43 2
def qCL:LI:=⟨41,[0,1,5],fun e=>match e with|.exit 0=>[1]|_=>[],true⟩
def qEh:LpsT:=fun r fr σ=>.fail
def qtS (vs:List PV) (σ:Store):Option (PExit×List PV×Store):=lval (lstep tbT qGF qEh qGb qCL) vs σ
section
variable (s:qU) (at_:Int) (comment:Bool)
def qsc:Tr LR:=let z1:=qaF s at_;let z2:=iAdd .i64 at_ 1;let z3:Store:=Store.mk [] [] [];let z4:Tr LR:=.ite z1 (.ite (iEq (sAt s at_) 37) (.ret (.next [.str s,.int .i64 z2,.bool true] z3)) (.ite comment (.ite z1 (.ret (.next [.str s,.int .i64 z2,.bool (iNe (sAt s at_) 10)] z3)) .fail) (.ret (.next [.str s,.int .i64 z2,.bool false] z3)))) .fail;.ite (iLt at_ (sLen s)) (.ite comment z4 (.ite z1 (.ite (qm7 (sAt s at_)) (.ite (qjA (sAt s at_)) z4 (.ite z1 (.ite (iEq (sAt s at_) 37) z4 (.ret (.out (.exit 0) [.int .i64 at_] z3))) .fail)) .fail) .fail)) (.ret (.out (.exit 0) [.int .i64 at_] z3))
theorem qXN:lstep tbT qGF qEh qGb qCL [.str s,.int .i64 at_,.bool comment] ⟨[],[],[]⟩=qsc s at_ comment:=by kernel_rfl
theorem qQ4:qtS [.str s,.int .i64 at_,.bool comment] ⟨[],[],[]⟩=lnext qtS (qsc s at_ comment).run:=by unfold qtS;rw [qaC,qXN]
def qKZ:Option (PExit×List PV×Store):=qtS [.str s,.int .i64 at_,.bool comment] ⟨[],[],[]⟩
def qqF:Int:=qkU 0 (qKZ s at_ comment)
def qAP:Bool:=isW (qKZ s at_ comment) ((.exit 0),[.int .i64 (qqF s at_ comment)],⟨[],[],[]⟩)
end
def qnW:List PV→Store→Tr (PExit×List PV×Store)|[.str s,.int .i64 at_,.bool comment],⟨[],[],[]⟩=>.ite (qAP s at_ comment) (.ret ((.exit 0),[.int .i64 (qqF s at_ comment)],⟨[],[],[]⟩)) (.fail)|_,_=>.fail
theorem qTr:∀ vs σ r,(qnW vs σ).run=some r→qtS vs σ=some r:=by
 intro vs σ r h;unfold qnW at h
 split at h
 ·exact qae h fun h=>by cases h
 ·cases h
theorem qNj (gl:Gl):∀ fr σ e fr' σ',(orc qCL qnW fr σ).run=some (e,fr',σ')→LDoes Tryz.prog gl qGb fr σ e fr' σ':=qbw qaj (qLt gl ) qai (L:=qEh) (qab (by kernel_rfl)) (by kernel_rfl) qTr
def qOR:LpsT:=fun r fr σ=>bif Nat.beq r 2 then orc qCL qnW fr σ else .fail
section
variable (s:qU) (at_:Int)
def qKq:Tr PV:=.ite (qAP s at_ false) (.ret (.int .i64 (qqF s at_ false))) .fail
theorem zaaz:(tcall tbT qGF qOR Tryz.f43 [.str s,.int .i64 at_]).flat=qKq s at_:=by kernel_rfl
def qLm:Option PV:=(qKq s at_).run
def qoe:Int:=(gInt (gVal (qLm s at_)))
def qg6:Bool:=isW (qLm s at_) (.int .i64 (qoe s at_))
end
def qO4:List PV→Tr PV|[.str s,.int .i64 at_]=>.ite (qg6 s at_) (.ret (.int .i64 (qoe s at_))) (.fail)|_=>.fail
theorem qUI (gl:Gl):SimP Tryz.prog gl 43 fun args=>(qO4 args).run:=by
 refine SimP.of_flat (G:=qGF) (L:=qOR) qaj (qLt gl ) qai  Tryz.func43 rfl (by rfl) (by kernel_rfl) (qav (L:=lps qOR) [(2,qGb)] (by kernel_rfl) (List.forall_mem_cons.2 ⟨fun fr σ e fr' σ' h=>qNj gl  fr σ e fr' σ' h,(List.forall_mem_nil _)⟩)) ?_
 intro args x h;unfold qO4 at h
 split at h
 ·exact (congrArg Tr.run (zaaz _ _)).trans (qae h fun h=>by cases h)
 ·cases h
def qAQ:GamT:=ofL [(146,.pure qDr)]
theorem qH9 (gl:Gl):qal Tryz.prog gl (gam qAQ):=(qag (qNO gl) qaf)
def qvO:Code:=qc2 Tryz.f99 1
def qxG:LI:=⟨18,[0,1],fun e=>match e with|.exit 0=>[1]|_=>[],true⟩
def qAk:LpsT:=fun r fr σ=>.fail
def qm1 (vs:List PV) (σ:Store):Option (PExit×List PV×Store):=lval (lstep tbT qAQ qAk qvO qxG) vs σ
section
variable (s:qU) (at_:Int)
def ql1:Tr LR:=.ite (iLt at_ (sLen s)) (.ite (qaF s at_) (.ite (qmm (sAt s at_)) (.ite (qnw (sAt s at_)) (.ret (.next [.str s,.int .i64 (iAdd .i64 at_ 1)] ⟨[],[],[]⟩)) (.ret (.out (.exit 0) [.int .i64 at_] ⟨[],[],[]⟩))) .fail) .fail) (.ret (.out (.exit 0) [.int .i64 at_] ⟨[],[],[]⟩))
theorem qVn:lstep tbT qAQ qAk qvO qxG [.str s,.int .i64 at_] ⟨[],[],[]⟩=ql1 s at_:=by kernel_rfl
theorem qLy:qm1 [.str s,.int .i64 at_] ⟨[],[],[]⟩=lnext qm1 (ql1 s at_).run:=by unfold qm1;rw [qaC,qVn]
def qEL:Option (PExit×List PV×Store):=qm1 [.str s,.int .i64 at_] ⟨[],[],[]⟩
def qmk:Int:=qkU 0 (qEL s at_)
def quM:Bool:=isW (qEL s at_) ((.exit 0),[.int .i64 (qmk s at_)],⟨[],[],[]⟩)
end
def qkw:List PV→Store→Tr (PExit×List PV×Store)|[.str s,.int .i64 at_],⟨[],[],[]⟩=>.ite (quM s at_) (.ret ((.exit 0),[.int .i64 (qmk s at_)],⟨[],[],[]⟩)) (.fail)|_,_=>.fail
theorem qSu:∀ vs σ r,(qkw vs σ).run=some r→qm1 vs σ=some r:=by
 intro vs σ r h;unfold qkw at h
 split at h
 ·exact qae h fun h=>by cases h
 ·cases h
theorem qK4 (gl:Gl):∀ fr σ e fr' σ',(orc qxG qkw fr σ).run=some (e,fr',σ')→LDoes Tryz.prog gl qvO fr σ e fr' σ':=qbw qaj (qH9 gl ) qai (L:=qAk) (qab (by kernel_rfl)) (by kernel_rfl) qSu
def qJl:LpsT:=fun r fr σ=>bif Nat.beq r 1 then orc qxG qkw fr σ else .fail
section
variable (s:qU) (at_:Int)
def qEe:Tr PV:=.ite (quM s at_) (.ret (.int .i64 (qmk s at_))) .fail
theorem qV8:(tcall tbT qAQ qJl Tryz.f99 [.str s,.int .i64 at_]).flat=qEe s at_:=by kernel_rfl
def qCW:Option PV:=(qEe s at_).run
def quX:Int:=(gInt (gVal (qCW s at_)))
def qkV:Bool:=isW (qCW s at_) (.int .i64 (quX s at_))
end
def qKy:List PV→Tr PV|[.str s,.int .i64 at_]=>.ite (qkV s at_) (.ret (.int .i64 (quX s at_))) (.fail)|_=>.fail
theorem qSE (gl:Gl):SimP Tryz.prog gl 99 fun args=>(qKy args).run:=by
 refine SimP.of_flat (G:=qAQ) (L:=qJl) qaj (qH9 gl ) qai  Tryz.func99 rfl (by rfl) (by kernel_rfl) (qav (L:=lps qJl) [(1,qvO)] (by kernel_rfl) (List.forall_mem_cons.2 ⟨fun fr σ e fr' σ' h=>qK4 gl  fr σ e fr' σ' h,(List.forall_mem_nil _)⟩)) ?_
 intro args x h;unfold qKy at h
 split at h
 ·exact (congrArg Tr.run (qV8 _ _)).trans (qae h fun h=>by cases h)
 ·cases h
def ql7:GamT:=ofL [(100,.pure qs9)]
theorem qAu (gl:Gl):qal Tryz.prog gl (gam ql7):=(qag (qt2 gl) qaf)
def qnf:Code:=qc2 Tryz.f102 1
def qnF:LI:=⟨18,[0,1],fun e=>match e with|.exit 0=>[1]|_=>[],true⟩
def qph:LpsT:=fun r fr σ=>.fail
def qfD (vs:List PV) (σ:Store):Option (PExit×List PV×Store):=lval (lstep tbT ql7 qph qnf qnF) vs σ
section
variable (s:qU) (at_:Int)
def qfV:Tr LR:=.ite (iLt at_ (sLen s)) (.ite (qaF s at_) (.ite (qex (sAt s at_)) (.ite (qfp (sAt s at_)) (.ret (.next [.str s,.int .i64 (iAdd .i64 at_ 1)] ⟨[],[],[]⟩)) (.ret (.out (.exit 0) [.int .i64 at_] ⟨[],[],[]⟩))) .fail) .fail) (.ret (.out (.exit 0) [.int .i64 at_] ⟨[],[],[]⟩))
theorem qNa:lstep tbT ql7 qph qnf qnF [.str s,.int .i64 at_] ⟨[],[],[]⟩=qfV s at_:=by kernel_rfl
theorem qCa:qfD [.str s,.int .i64 at_] ⟨[],[],[]⟩=lnext qfD (qfV s at_).run:=by unfold qfD;rw [qaC,qNa]
def quj:Option (PExit×List PV×Store):=qfD [.str s,.int .i64 at_] ⟨[],[],[]⟩
def qht:Int:=qkU 0 (quj s at_)
def qlL:Bool:=isW (quj s at_) ((.exit 0),[.int .i64 (qht s at_)],⟨[],[],[]⟩)
end
def qfn:List PV→Store→Tr (PExit×List PV×Store)|[.str s,.int .i64 at_],⟨[],[],[]⟩=>.ite (qlL s at_) (.ret ((.exit 0),[.int .i64 (qht s at_)],⟨[],[],[]⟩)) (.fail)|_,_=>.fail
theorem qJ3:∀ vs σ r,(qfn vs σ).run=some r→qfD vs σ=some r:=by
 intro vs σ r h;unfold qfn at h
 split at h
 ·exact qae h fun h=>by cases h
 ·cases h
theorem qFG (gl:Gl):∀ fr σ e fr' σ',(orc qnF qfn fr σ).run=some (e,fr',σ')→LDoes Tryz.prog gl qnf fr σ e fr' σ':=qbw qaj (qAu gl ) qai (L:=qph) (qab (by kernel_rfl)) (by kernel_rfl) qJ3
def qAr:LpsT:=fun r fr σ=>bif Nat.beq r 1 then orc qnF qfn fr σ else .fail
section
variable (s:qU) (at_:Int)
def qto:Tr PV:=.ite (qlL s at_) (.ret (.int .i64 (qht s at_))) .fail
theorem qRm:(tcall tbT ql7 qAr Tryz.f102 [.str s,.int .i64 at_]).flat=qto s at_:=by kernel_rfl
def qrE:Option PV:=(qto s at_).run
def qdJ:Int:=(gInt (gVal (qrE s at_)))
def qf7:Bool:=isW (qrE s at_) (.int .i64 (qdJ s at_))
end
def qAl:List PV→Tr PV|[.str s,.int .i64 at_]=>.ite (qf7 s at_) (.ret (.int .i64 (qdJ s at_))) (.fail)|_=>.fail
theorem qKa (gl:Gl):SimP Tryz.prog gl 102 fun args=>(qAl args).run:=by
 refine SimP.of_flat (G:=ql7) (L:=qAr) qaj (qAu gl ) qai  Tryz.func102 rfl (by rfl) (by kernel_rfl) (qav (L:=lps qAr) [(1,qnf)] (by kernel_rfl) (List.forall_mem_cons.2 ⟨fun fr σ e fr' σ' h=>qFG gl  fr σ e fr' σ' h,(List.forall_mem_nil _)⟩)) ?_
 intro args x h;unfold qAl at h
 split at h
 ·exact (congrArg Tr.run (qRm _ _)).trans (qae h fun h=>by cases h)
 ·cases h
def qlx:GamT:=ofL []
theorem qzz (gl:Gl):qal Tryz.prog gl (gam qlx):=qaf
def qn0:Code:=qc2 Tryz.f103 2
def qnk:LI:=⟨26,[0,5],fun e=>match e with|.ret=>[4]|.exit 0=>[]|_=>[],true⟩
def qpe:LpsT:=fun r fr σ=>.fail
def qdy (vs:List PV) (σ:Store):Option (PExit×List PV×Store):=lval (lstep tbT qlx qpe qn0 qnk) vs σ
section
variable (s:qU) (i:Int)
def qem:Tr LR:=let z1:Store:=Store.mk [] [] [];.ite (iLt i (sLen s)) (.ite (qaF s i) (.ite (iEq (sAt s i) 34) (.ret (.out .ret [.int .i64 (iAdd .i64 i 1)] z1)) (.ite (qaF s i) (.ite (iEq (sAt s i) 92) (.ret (.next [.str s,.int .i64 (iAdd .i64 (iAdd .i64 i 1) 1)] z1)) (.ret (.next [.str s,.int .i64 (iAdd .i64 i 1)] z1))) .fail)) .fail) (.ret (.out (.exit 0) [] z1))
theorem qNJ:lstep tbT qlx qpe qn0 qnk [.str s,.int .i64 i] ⟨[],[],[]⟩=qem s i:=by kernel_rfl
theorem qBX:qdy [.str s,.int .i64 i] ⟨[],[],[]⟩=lnext qdy (qem s i).run:=by unfold qdy;rw [qaC,qNJ]
def qii:Option (PExit×List PV×Store):=qdy [.str s,.int .i64 i] ⟨[],[],[]⟩
def qe4:Int:=qkU 0 (qii s i)
def qhj:Bool:=isW (qii s i) (.ret,[.int .i64 (qe4 s i)],⟨[],[],[]⟩)
def qgS:Bool:=isW (qii s i) ((.exit 0),[],⟨[],[],[]⟩)
end
def qfr:List PV→Store→Tr (PExit×List PV×Store)|[.str s,.int .i64 i],⟨[],[],[]⟩=>.ite (qhj s i) (.ret (.ret,[.int .i64 (qe4 s i)],⟨[],[],[]⟩)) (.ite (qgS s i) (.ret ((.exit 0),[],⟨[],[],[]⟩)) (.fail))|_,_=>.fail
theorem qKw:∀ vs σ r,(qfr vs σ).run=some r→qdy vs σ=some r:=by
 intro vs σ r h;unfold qfr at h
 split at h
 ·exact qae h fun h=>qae h fun h=>by cases h
 ·cases h
theorem qEw (gl:Gl):∀ fr σ e fr' σ',(orc qnk qfr fr σ).run=some (e,fr',σ')→LDoes Tryz.prog gl qn0 fr σ e fr' σ':=qbw qaj (qzz gl ) qai (L:=qpe) (qab (by kernel_rfl)) (by kernel_rfl) qKw
def qAa:LpsT:=fun r fr σ=>bif Nat.beq r 2 then orc qnk qfr fr σ else .fail
section
variable (s:qU) (at_:Int)
def quu:Tr PV:=let z1:=iAdd .i64 at_ 1;.ite (qhj s z1) (.ret (.int .i64 (qe4 s z1))) (.ite (qgS s z1) (.ret (.int .i64 (-1))) .fail)
theorem qPM:(tcall tbT qlx qAa Tryz.f103 [.str s,.int .i64 at_]).flat=quu s at_:=by kernel_rfl
def qrk:Option PV:=(quu s at_).run
def qba:Int:=(gInt (gVal (qrk s at_)))
def qgb:Bool:=isW (qrk s at_) (.int .i64 (qba s at_))
end
def qy5:List PV→Tr PV|[.str s,.int .i64 at_]=>.ite (qgb s at_) (.ret (.int .i64 (qba s at_))) (.fail)|_=>.fail
theorem qJu (gl:Gl):SimP Tryz.prog gl 103 fun args=>(qy5 args).run:=by
 refine SimP.of_flat (G:=qlx) (L:=qAa) qaj (qzz gl ) qai  Tryz.func103 rfl (by rfl) (by kernel_rfl) (qav (L:=lps qAa) [(2,qn0)] (by kernel_rfl) (List.forall_mem_cons.2 ⟨fun fr σ e fr' σ' h=>qEw gl  fr σ e fr' σ' h,(List.forall_mem_nil _)⟩)) ?_
 intro args x h;unfold qy5 at h
 split at h
 ·exact (congrArg Tr.run (qPM _ _)).trans (qae h fun h=>by cases h)
 ·cases h
def qI8:GamT:=ofL []
theorem qPU (gl:Gl):qal Tryz.prog gl (gam qI8):=qaf
def qRb:LpsT:=fun r fr σ=>.fail
section
variable (v:qU) (v2:Int)
def qDV:Tr PV:=let z1:=sSub v (nNat v2) (nNat (iAdd .i64 v2 2));let z2:=qaF v v2;let z3:=sAt v v2;let z4:Tr PV:=.ite z2 (.ite (iEq z3 40) (.ret (.int .i64 1)) (.ite z2 (.ite (iEq z3 41) (.ret (.int .i64 1)) (.ite z2 (.ite (iEq z3 44) (.ret (.int .i64 1)) (.ite z2 (.ite (iEq z3 46) (.ret (.int .i64 1)) (.ite z2 (.ite (iEq z3 43) (.ret (.int .i64 1)) (.ite z2 (.ite (iEq z3 45) (.ret (.int .i64 1)) (.ite z2 (.ite (iEq z3 61) (.ret (.int .i64 1)) (.ite z2 (.ite (iEq z3 58) (.ret (.int .i64 1)) (.ite z2 (.ite (iEq z3 60) (.ret (.int .i64 1)) (.ite z2 (.ite (iEq z3 62) (.ret (.int .i64 1)) (.ret (.int .i64 0))) .fail)) .fail)) .fail)) .fail)) .fail)) .fail)) .fail)) .fail)) .fail)) .fail;.ite (iLe 2 (iSub .i64 (sLen v) v2)) (.ite (qbk (qax v2) (qax (iAdd .i64 v2 2)) (nNat v2) (nNat (iAdd .i64 v2 2)) (nLen v)) (.ite (sEq z1 [58,45]) (.ret (.int .i64 2)) (.ite (sEq z1 [60,61]) (.ret (.int .i64 2)) (.ite (sEq z1 [62,61]) (.ret (.int .i64 2)) (.ite (sEq z1 [33,61]) (.ret (.int .i64 2)) z4)))) .fail) (.ite (sEq [] [58,45]) (.ret (.int .i64 2)) (.ite (sEq [] [60,61]) (.ret (.int .i64 2)) (.ite (sEq [] [62,61]) (.ret (.int .i64 2)) (.ite (sEq [] [33,61]) (.ret (.int .i64 2)) z4))))
theorem qYC:(tcall tbT qI8 qRb Tryz.f104 [.str v,.int .i64 v2]).flat=qDV v v2:=by kernel_rfl
def qEi:Option PV:=(qDV v v2).run
def qeg:Int:=(gInt (gVal (qEi v v2)))
def qln:Bool:=isW (qEi v v2) (.int .i64 (qeg v v2))
end
def qI3:List PV→Tr PV|[.str v,.int .i64 v2]=>.ite (qln v v2) (.ret (.int .i64 (qeg v v2))) (.fail)|_=>.fail
theorem qRK (gl:Gl):SimP Tryz.prog gl 104 fun args=>(qI3 args).run:=by
 refine SimP.of_flat (G:=qI8) (L:=qRb) qaj (qPU gl ) qai  Tryz.func104 rfl (by rfl) (by kernel_rfl) (qab (by kernel_rfl)) ?_
 intro args x h;unfold qI3 at h
 split at h
 ·exact (congrArg Tr.run (qYC _ _)).trans (qae h fun h=>by cases h)
 ·cases h
def qD1:GamT:=ofL [(147,.pure qBw)]
theorem qNk (gl:Gl):qal Tryz.prog gl (gam qD1):=(qag (qPJ gl) qaf)
def qLK:LpsT:=fun r fr σ=>.fail
section
variable (k:Int) (s:qU) (at_:Int)
def qzn:Tr PV:=.ite (qoQ s) (.ite (iNe (eRd s) 0) (.ret (.tup [.agg [.int .i64 0,.str [],.int .i64 0,.int .i64 0,.str [],.int .i64 0],.bool false])) (.ret (.tup [.agg [.int .i64 k,.str s,.int .i64 (kRd s),.int .i64 (nRd s),.str (sRd s),.int .i64 at_],.bool true]))) .fail
theorem qUe:(tcall tbT qD1 qLK Tryz.f101 [.int .i64 k,.str s,.int .i64 at_]).flat=qzn k s at_:=by kernel_rfl
def qeI:Option PV:=(qzn k s at_).run
def qhd:Int:=(gInt (gAt (gCs (gAt (gCs (gVal (qeI k s at_))) 0)) 0))
def qgM:qU:=(gStr (gAt (gCs (gAt (gCs (gVal (qeI k s at_))) 0)) 1))
def qe1:Int:=(gInt (gAt (gCs (gAt (gCs (gVal (qeI k s at_))) 0)) 2))
def qeM:Int:=(gInt (gAt (gCs (gAt (gCs (gVal (qeI k s at_))) 0)) 3))
def qeP:qU:=(gStr (gAt (gCs (gAt (gCs (gVal (qeI k s at_))) 0)) 4))
def qeO:Int:=(gInt (gAt (gCs (gAt (gCs (gVal (qeI k s at_))) 0)) 5))
def qhi:Bool:=qB4 1 (qeI k s at_)
def qfv:Bool:=isW (qeI k s at_) (.tup [.agg [.int .i64 (qhd k s at_),.str (qgM k s at_),.int .i64 (qe1 k s at_),.int .i64 (qeM k s at_),.str (qeP k s at_),.int .i64 (qeO k s at_)],.bool (qhi k s at_)])
end
def qF2:List PV→Tr PV|[.int .i64 k,.str s,.int .i64 at_]=>.ite (qfv k s at_) (.ret (.tup [.agg [.int .i64 (qhd k s at_),.str (qgM k s at_),.int .i64 (qe1 k s at_),.int .i64 (qeM k s at_),.str (qeP k s at_),.int .i64 (qeO k s at_)],.bool (qhi k s at_)])) (.fail)|_=>.fail
theorem qOi (gl:Gl):SimP Tryz.prog gl 101 fun args=>(qF2 args).run:=by
 refine SimP.of_flat (G:=qD1) (L:=qLK) qaj (qNk gl ) qai  Tryz.func101 rfl (by rfl) (by kernel_rfl) (qab (by kernel_rfl)) ?_
 intro args x h;unfold qF2 at h
 split at h
 ·exact (congrArg Tr.run (qUe _ _ _)).trans (qae h fun h=>by cases h)
 ·cases h
def qK2:GamT:=ofL [(97,.pure qw7),(98,.pure qxh),(99,.pure qKy),(100,.pure qs9),(101,.pure qF2),(102,.pure qAl),(103,.pure qy5),(104,.pure qI3)]
theorem qSA (gl:Gl):qal Tryz.prog gl (gam qK2):=(qag (qCz gl) (qag (qBJ gl) (qag (qSE gl) (qag (qt2 gl) (qag (qOi gl) (qag (qKa gl) (qag (qJu gl) (qag (qRK gl) qaf))))))))
def qP6:LpsT:=fun r fr σ=>.fail
section
variable (v:qU) (v2:Int)
def qC1:Tr PV:=let z1:=sAt v v2;let z2:=quX v v2;let z3:=nNat v2;let z4:=qbk (qax v2) (qax z2) z3 (nNat z2) (nLen v);let z5:=sSub v z3 (nNat z2);let z6:=iLt 64 (sLen z5);let z7:=iAdd .i64 v2 1;let z8:Tr PV:=.ite (qkV v v2) (.ite (qfQ z1) (.ite (qgP z1) (.ite z4 (.ite (iEq z2 v2) (.ret (.tup [.agg [.int .i64 0,.str [],.int .i64 0,.int .i64 0,.str [],.int .i64 0],.bool false])) (.ite z6 (.ret (.tup [.agg [.int .i64 0,.str [],.int .i64 0,.int .i64 0,.str [],.int .i64 0],.bool false])) (.ite (iEq 2 3) (.ite (iNe z2 z7) (.ret (.tup [.agg [.int .i64 0,.str [],.int .i64 0,.int .i64 0,.str [],.int .i64 0],.bool false])) (.ret (.tup [.agg [.int .i64 2,.str z5,.int .i64 0,.int .i64 0,.str [],.int .i64 v2],.bool true]))) (.ret (.tup [.agg [.int .i64 2,.str z5,.int .i64 0,.int .i64 0,.str [],.int .i64 v2],.bool true]))))) .fail) (.ite z4 (.ite (iEq z2 v2) (.ret (.tup [.agg [.int .i64 0,.str [],.int .i64 0,.int .i64 0,.str [],.int .i64 0],.bool false])) (.ite z6 (.ret (.tup [.agg [.int .i64 0,.str [],.int .i64 0,.int .i64 0,.str [],.int .i64 0],.bool false])) (.ite (iEq 1 3) (.ite (iNe z2 z7) (.ret (.tup [.agg [.int .i64 0,.str [],.int .i64 0,.int .i64 0,.str [],.int .i64 0],.bool false])) (.ret (.tup [.agg [.int .i64 1,.str z5,.int .i64 0,.int .i64 0,.str [],.int .i64 v2],.bool true]))) (.ret (.tup [.agg [.int .i64 1,.str z5,.int .i64 0,.int .i64 0,.str [],.int .i64 v2],.bool true]))))) .fail)) .fail) .fail;let z9:=sSub v z3 (nNat (qdJ v z7));let z10:Tr PV:=.ite (qf7 v z7) (.ite (qbk (qax v2) (qax (qdJ v z7)) z3 (nNat (qdJ v z7)) (nLen v)) (.ite (qfv 4 z9 v2) (.ret (.tup [.agg [.int .i64 (qhd 4 z9 v2),.str (qgM 4 z9 v2),.int .i64 (qe1 4 z9 v2),.int .i64 (qeM 4 z9 v2),.str (qeP 4 z9 v2),.int .i64 (qeO 4 z9 v2)],.bool (qhi 4 z9 v2)])) .fail) .fail) .fail;let z11:=sSub v z3 (nNat (qba v v2));let z12:=iAdd .i64 v2 (qeg v v2);let z13:Tr PV:=.ite (iEq z1 34) (.ite (qgb v v2) (.ite (iLt (qba v v2) 0) (.ret (.tup [.agg [.int .i64 0,.str [],.int .i64 0,.int .i64 0,.str [],.int .i64 0],.bool false])) (.ite (qbk (qax v2) (qax (qba v v2)) z3 (nNat (qba v v2)) (nLen v)) (.ite (qfv 5 z11 v2) (.ret (.tup [.agg [.int .i64 (qhd 5 z11 v2),.str (qgM 5 z11 v2),.int .i64 (qe1 5 z11 v2),.int .i64 (qeM 5 z11 v2),.str (qeP 5 z11 v2),.int .i64 (qeO 5 z11 v2)],.bool (qhi 5 z11 v2)])) .fail) .fail)) .fail) (.ite (qln v v2) (.ite (qbk (qax v2) (qax z12) z3 (nNat z12) (nLen v)) (.ite (iEq z12 v2) (.ret (.tup [.agg [.int .i64 0,.str [],.int .i64 0,.int .i64 0,.str [],.int .i64 0],.bool false])) (.ite (iLt 64 (sLen (sSub v z3 (nNat z12)))) (.ret (.tup [.agg [.int .i64 0,.str [],.int .i64 0,.int .i64 0,.str [],.int .i64 0],.bool false])) (.ite (iEq 6 3) (.ite (iNe z12 z7) (.ret (.tup [.agg [.int .i64 0,.str [],.int .i64 0,.int .i64 0,.str [],.int .i64 0],.bool false])) (.ret (.tup [.agg [.int .i64 6,.str (sSub v z3 (nNat z12)),.int .i64 0,.int .i64 0,.str [],.int .i64 v2],.bool true]))) (.ret (.tup [.agg [.int .i64 6,.str (sSub v z3 (nNat z12)),.int .i64 0,.int .i64 0,.str [],.int .i64 v2],.bool true]))))) .fail) .fail);.ite (qaF v v2) (.ite (qiP z1) (.ite (qkB z1) z8 (.ite (qfQ z1) (.ite (qgP z1) z8 (.ite (iEq z1 95) (.ite (qkV v v2) (.ite z4 (.ite (iEq z2 v2) (.ret (.tup [.agg [.int .i64 0,.str [],.int .i64 0,.int .i64 0,.str [],.int .i64 0],.bool false])) (.ite z6 (.ret (.tup [.agg [.int .i64 0,.str [],.int .i64 0,.int .i64 0,.str [],.int .i64 0],.bool false])) (.ite (iEq 3 3) (.ite (iNe z2 z7) (.ret (.tup [.agg [.int .i64 0,.str [],.int .i64 0,.int .i64 0,.str [],.int .i64 0],.bool false])) (.ret (.tup [.agg [.int .i64 3,.str z5,.int .i64 0,.int .i64 0,.str [],.int .i64 v2],.bool true]))) (.ret (.tup [.agg [.int .i64 3,.str z5,.int .i64 0,.int .i64 0,.str [],.int .i64 v2],.bool true]))))) .fail) .fail) (.ite (qex z1) (.ite (qfp z1) z10 (.ite (iEq z1 45) (.ite (iLt z7 (sLen v)) (.ite (qaF v z7) (.ite (qex (sAt v z7)) (.ite (qfp (sAt v z7)) z10 z13) .fail) .fail) z13) z13)) .fail))) .fail)) .fail) .fail
theorem qXx:(tcall tbT qK2 qP6 Tryz.f44 [.str v,.int .i64 v2]).flat=qC1 v v2:=by kernel_rfl
def qhH:Option PV:=(qC1 v v2).run
def qfa:Int:=(gInt (gAt (gCs (gAt (gCs (gVal (qhH v v2))) 0)) 0))
def qdX:qU:=(gStr (gAt (gCs (gAt (gCs (gVal (qhH v v2))) 0)) 1))
def qdn:Int:=(gInt (gAt (gCs (gAt (gCs (gVal (qhH v v2))) 0)) 2))
def qdl:Int:=(gInt (gAt (gCs (gAt (gCs (gVal (qhH v v2))) 0)) 3))
def qdo:qU:=(gStr (gAt (gCs (gAt (gCs (gVal (qhH v v2))) 0)) 4))
def qdk:Int:=(gInt (gAt (gCs (gAt (gCs (gVal (qhH v v2))) 0)) 5))
def qhB:Bool:=qB4 1 (qhH v v2)
def qfS:Bool:=isW (qhH v v2) (.tup [.agg [.int .i64 (qfa v v2),.str (qdX v v2),.int .i64 (qdn v v2),.int .i64 (qdl v v2),.str (qdo v v2),.int .i64 (qdk v v2)],.bool (qhB v v2)])
end
def qIQ:List PV→Tr PV|[.str v,.int .i64 v2]=>.ite (qfS v v2) (.ret (.tup [.agg [.int .i64 (qfa v v2),.str (qdX v v2),.int .i64 (qdn v v2),.int .i64 (qdl v v2),.str (qdo v v2),.int .i64 (qdk v v2)],.bool (qhB v v2)])) (.fail)|_=>.fail
theorem qQT (gl:Gl):SimP Tryz.prog gl 44 fun args=>(qIQ args).run:=by
 refine SimP.of_flat (G:=qK2) (L:=qP6) qaj (qSA gl ) qai  Tryz.func44 rfl (by rfl) (by kernel_rfl) (qab (by kernel_rfl)) ?_
 intro args x h;unfold qIQ at h
 split at h
 ·exact (congrArg Tr.run (qXx _ _)).trans (qae h fun h=>by cases h)
 ·cases h
def qmn:GamT:=ofL [(43,.pure qO4),(44,.pure qIQ)]
theorem qCI (gl:Gl):qal Tryz.prog gl (gam qmn):=(qag (qUI gl) (qag (qQT gl) qaf))
def qlt:Code:=qc2 Tryz.f15 5
def qkY:LI:=⟨39,[0,5,6],fun e=>match e with|.ret=>[2,3,4]|.exit 0=>[5]|_=>[],true⟩
def qms:LpsT:=fun r fr σ=>.fail
def qbE (vs:List PV) (σ:Store):Option (PExit×List PV×Store):=lval (lstep tbT qmn qms qlt qkY) vs σ
section
variable (s:qU) (out:qR) (at_:Int)
def qiR:Tr LR:=let z1:=iAdd .i64 at_ (sLen (qdX s at_));let z2:=xApp out [[.int .i64 (qfa s at_),.str (qdX s at_),.int .i64 (qdn s at_),.int .i64 (qdl s at_),.str (qdo s at_),.int .i64 (qdk s at_)]];.ite (iLt at_ (sLen s)) (.ite (qfS s at_) (.ite (bNot (qhB s at_)) (.ret (.out .ret [.sl (qau 0 []) .full,.int .i64 at_,.int .i64 120] ⟨[],[],[]⟩)) (.ite (qas out [[.int .i64 (qfa s at_),.str (qdX s at_),.int .i64 (qdn s at_),.int .i64 (qdl s at_),.str (qdo s at_),.int .i64 (qdk s at_)]] 64) (.ite (qap [[.int .i64 (qfa s at_),.str (qdX s at_),.int .i64 (qdn s at_),.int .i64 (qdl s at_),.str (qdo s at_),.int .i64 (qdk s at_)]] 6) (.ite (qan out 6) (.ite (qg6 s z1) (.ret (.next [.str s,.sl (qau 0 z2) (.tok 0),.int .i64 (qoe s z1)] (Store.mk [] [(nXs z2,6,44)] []))) .fail) .fail) .fail) .fail)) .fail) (.ret (.out (.exit 0) [.sl out .full] ⟨[],[],[]⟩))
theorem qQl:lstep tbT qmn qms qlt qkY [.str s,.sl out .full,.int .i64 at_] ⟨[],[],[]⟩=qiR s out at_:=by kernel_rfl
theorem qz1:qbE [.str s,.sl out .full,.int .i64 at_] ⟨[],[],[]⟩=lnext qbE (qiR s out at_).run:=by unfold qbE;rw [qaC,qQl]
end
section
variable (s:qU) (out:qR) (at_:Int) (k:Nat)
def qf8:Tr LR:=let z1:=iAdd .i64 at_ (sLen (qdX s at_));let z2:=xApp out [[.int .i64 (qfa s at_),.str (qdX s at_),.int .i64 (qdn s at_),.int .i64 (qdl s at_),.str (qdo s at_),.int .i64 (qdk s at_)]];.ite (iLt at_ (sLen s)) (.ite (qfS s at_) (.ite (bNot (qhB s at_)) (.ret (.out .ret [.sl (qau 0 []) .full,.int .i64 at_,.int .i64 120] (Store.mk [] [(k,6,44)] []))) (.ite (qas out [[.int .i64 (qfa s at_),.str (qdX s at_),.int .i64 (qdn s at_),.int .i64 (qdl s at_),.str (qdo s at_),.int .i64 (qdk s at_)]] 64) (.ite (qap [[.int .i64 (qfa s at_),.str (qdX s at_),.int .i64 (qdn s at_),.int .i64 (qdl s at_),.str (qdo s at_),.int .i64 (qdk s at_)]] 6) (.ite (qan out 6) (.ite (nEq k (nXs out)) (.ite (qg6 s z1) (.ret (.next [.str s,.sl (qau 0 z2) (.tok 0),.int .i64 (qoe s z1)] (Store.mk [] [(nXs z2,6,44)] []))) .fail) .fail) .fail) .fail) .fail)) .fail) (.ret (.out (.exit 0) [.sl out (.tok 0)] (Store.mk [] [(k,6,44)] [])))
theorem qN5:lstep tbT qmn qms qlt qkY [.str s,.sl out (.tok 0),.int .i64 at_] ⟨[],[(k,6,44)],[]⟩=qf8 s out at_ k:=by kernel_rfl
theorem quN:qbE [.str s,.sl out (.tok 0),.int .i64 at_] ⟨[],[(k,6,44)],[]⟩=lnext qbE (qf8 s out at_ k).run:=by unfold qbE;rw [qaC,qN5]
end
section
variable (s:qU) (out:qR) (at_:Int)
def qbh:Option (PExit×List PV×Store):=qbE [.str s,.sl out .full,.int .i64 at_] ⟨[],[],[]⟩
def qdv:qR:=qpM 0 (qbh s out at_)
def qdu:Int:=qkU 1 (qbh s out at_)
def qcI:Int:=qkU 2 (qbh s out at_)
def qeo:Bool:=isW (qbh s out at_) (.ret,[.sl (qdv s out at_) .full,.int .i64 (qdu s out at_),.int .i64 (qcI s out at_)],⟨[],[],[]⟩)
def qcd:qR:=qpM 0 (qbh s out at_)
def qey:Bool:=isW (qbh s out at_) ((.exit 0),[.sl (qcd s out at_) .full],⟨[],[],[]⟩)
def qdt:qR:=qpM 0 (qbh s out at_)
def qds:Int:=qkU 1 (qbh s out at_)
def qcH:Int:=qkU 2 (qbh s out at_)
def qed:Nat:=(gTok (qbh s out at_) 0)
def qei:Bool:=isW (qbh s out at_) (.ret,[.sl (qdt s out at_) .full,.int .i64 (qds s out at_),.int .i64 (qcH s out at_)],⟨[],[((qed s out at_),6,44)],[]⟩)
def qce:qR:=qpM 0 (qbh s out at_)
def qeu:Nat:=(gTok (qbh s out at_) 0)
def qer:Bool:=isW (qbh s out at_) ((.exit 0),[.sl (qce s out at_) (.tok 0)],⟨[],[((qeu s out at_),6,44)],[]⟩)
end
def qhv:List PV→Store→Tr (PExit×List PV×Store)|[.str s,.sl out .full,.int .i64 at_],⟨[],[],[]⟩=>.ite (qeo s out at_) (.ret (.ret,[.sl (qdv s out at_) .full,.int .i64 (qdu s out at_),.int .i64 (qcI s out at_)],⟨[],[],[]⟩)) (.ite (qey s out at_) (.ret ((.exit 0),[.sl (qcd s out at_) .full],⟨[],[],[]⟩)) (.ite (qei s out at_) (.ret (.ret,[.sl (qdt s out at_) .full,.int .i64 (qds s out at_),.int .i64 (qcH s out at_)],⟨[],[((qed s out at_),6,44)],[]⟩)) (.ite (qer s out at_) (.ret ((.exit 0),[.sl (qce s out at_) (.tok 0)],⟨[],[((qeu s out at_),6,44)],[]⟩)) (.fail))))|_,_=>.fail
theorem qN9:∀ vs σ r,(qhv vs σ).run=some r→qbE vs σ=some r:=by
 intro vs σ r h;unfold qhv at h
 split at h
 ·exact qae h fun h=>qae h fun h=>qae h fun h=>qae h fun h=>by cases h
 ·cases h
theorem qHK (gl:Gl):∀ fr σ e fr' σ',(orc qkY qhv fr σ).run=some (e,fr',σ')→LDoes Tryz.prog gl qlt fr σ e fr' σ':=qbw qaj (qCI gl ) qai (L:=qms) (qab (by kernel_rfl)) (by kernel_rfl) qN9
def qDW:LpsT:=fun r fr σ=>bif Nat.beq r 5 then orc qkY qhv fr σ else .fail
section
variable (s:qU)
def qrG:Tr PV:=let z1:=qoe s 0;.ite (iLt 65536 (sLen s)) (.ret (.tup [.sl [] .non,.int .i64 0,.int .i64 2])) (.ite (qg6 s 0) (.ite (qeo s [] z1) (.ret (.tup [.sl (qaa (qdv s [] z1)) .non,.int .i64 (qdu s [] z1),.int .i64 (qcI s [] z1)])) (.ite (qey s [] z1) (.ret (.tup [.sl (qaa (qcd s [] z1)) .non,.int .i64 0,.int .i64 0])) (.ite (qei s [] z1) (.ret (.tup [.sl (qaa (qdt s [] z1)) .non,.int .i64 (qds s [] z1),.int .i64 (qcH s [] z1)])) (.ite (qer s [] z1) (.ret (.tup [.sl (qaa (qce s [] z1)) .non,.int .i64 0,.int .i64 0])) .fail)))) .fail)
theorem qTZ:(tcall tbT qmn qDW Tryz.f15 [.str s]).flat=qrG s:=by kernel_rfl
def qfl:Option PV:=(qrG s).run
def qnM:qR:=qZL 0 (qfl s)
def qmO:Int:=qBd 1 (qfl s)
def qdZ:Int:=qBd 2 (qfl s)
def qh4:Bool:=isW (qfl s) (.tup [.sl (qnM s) .non,.int .i64 (qmO s),.int .i64 (qdZ s)])
end
def qDs:List PV→Tr PV|[.str s]=>.ite (qh4 s) (.ret (.tup [.sl (qnM s) .non,.int .i64 (qmO s),.int .i64 (qdZ s)])) (.fail)|_=>.fail
theorem qNY (gl:Gl):SimP Tryz.prog gl 15 fun args=>(qDs args).run:=by
 refine SimP.of_flat (G:=qmn) (L:=qDW) qaj (qCI gl ) qai  Tryz.func15 rfl (by rfl) (by kernel_rfl) (qav (L:=lps qDW) [(5,qlt)] (by kernel_rfl) (List.forall_mem_cons.2 ⟨fun fr σ e fr' σ' h=>qHK gl  fr σ e fr' σ' h,(List.forall_mem_nil _)⟩)) ?_
 intro args x h;unfold qDs at h
 split at h
 ·exact (congrArg Tr.run (qTZ _)).trans (qae h fun h=>by cases h)
 ·cases h
end Go.Pv
set_option maxHeartbeats 4000000
set_option maxRecDepth 200000
set_option linter.unusedSimpArgs false
set_option linter.unusedVariables false
namespace Go.Pv
open Go Go.Proofs
def qAD:GamT:=ofL [(15,.pure qDs)]
theorem qO1 (gl:Gl):qal Tryz.prog gl (gam qAD):=(qag (qNY gl) qaf)
def qDZ:LpsT:=fun r fr σ=>.fail
section
variable (s:qU)
def qLJ:Tr (PV×Store):=let z1:List PV:=[.str [],.sl [] .full,.sl [] .full];.ite (qh4 s) (.ite (iNe (qdZ s) 0) (.ret (.tup [.nilp,.int .i64 (qmO s),.int .i64 (qdZ s)],Store.mk [z1] [] [51])) (.ret (.tup [.ptr 1 0,.int .i64 0,.int .i64 0],Store.mk [z1,[.sl (qnM s) .non,.int .i64 0,.int .i64 (sLen s),.bool false,.int .i64 0]] [] [51,76]))) .fail
theorem qZk:(qrw tbT qAD qDZ Tryz.f36 [.str s] ⟨[[.str [],.sl [] .full,.sl [] .full]],[],[51]⟩).flat=qLJ s:=by kernel_rfl
def qdq:Option (PV×Store):=(qLJ s).run
def qzk:Int:=(gInt (gAt (gCs (gOut (qa4 (qdq s)) 0)) 1))
def qub:Int:=(gInt (gAt (gCs (gOut (qa4 (qdq s)) 0)) 2))
def qy3:qU:=(gStr (gAt (gObj (qa4 (qdq s)) 0) 0))
def qzQ:qR:=(gRow (gAt (gObj (qa4 (qdq s)) 0) 1))
def qty:qR:=(gRow (gAt (gObj (qa4 (qdq s)) 0) 2))
def qHR:Bool:=isW (qdq s) (.tup [.nilp,.int .i64 (qzk s),.int .i64 (qub s)],⟨[[.str (qy3 s),.sl (qzQ s) .full,.sl (qty s) .full]],[],[51]⟩)
def qyp:Int:=(gInt (gAt (gCs (gOut (qa4 (qdq s)) 0)) 1))
def quU:Int:=(gInt (gAt (gCs (gOut (qa4 (qdq s)) 0)) 2))
def qyP:qU:=(gStr (gAt (gObj (qa4 (qdq s)) 0) 0))
def qyl:qR:=(gRow (gAt (gObj (qa4 (qdq s)) 0) 1))
def quH:qR:=(gRow (gAt (gObj (qa4 (qdq s)) 0) 2))
def quP:qR:=(gRow (gAt (gObj (qa4 (qdq s)) 1) 0))
def qt0:Int:=(gInt (gAt (gObj (qa4 (qdq s)) 1) 1))
def qtx:Int:=(gInt (gAt (gObj (qa4 (qdq s)) 1) 2))
def qH4:Bool:=isW (qdq s) (.tup [.ptr 1 0,.int .i64 (qyp s),.int .i64 (quU s)],⟨[[.str (qyP s),.sl (qyl s) .full,.sl (quH s) .full],[.sl (quP s) .non,.int .i64 (qt0 s),.int .i64 (qtx s),.bool false,.int .i64 0]],[],[51,76]⟩)
def qGT:Tr (PV×Store):=.ite (qh4 s) (.ite (iNe (qdZ s) 0) (.ret (.tup [.nilp,.int .i64 (qmO s),.int .i64 (qdZ s)],Store.mk [[.str [],.sl [] .full]] [] [48])) (.ret (.tup [.ptr 1 0,.int .i64 0,.int .i64 0],Store.mk [[.str [],.sl [] .full],[.sl (qnM s) .non,.int .i64 0,.int .i64 (sLen s),.bool false,.int .i64 0]] [] [48,76]))) .fail
theorem qVd:(qrw tbT qAD qDZ Tryz.f36 [.str s] ⟨[[.str [],.sl [] .full]],[],[48]⟩).flat=qGT s:=by kernel_rfl
def qcU:Option (PV×Store):=(qGT s).run
def quY:Int:=(gInt (gAt (gCs (gOut (qa4 (qcU s)) 0)) 1))
def qoo:Int:=(gInt (gAt (gCs (gOut (qa4 (qcU s)) 0)) 2))
def qtq:qU:=(gStr (gAt (gObj (qa4 (qcU s)) 0) 0))
def quy:qR:=(gRow (gAt (gObj (qa4 (qcU s)) 0) 1))
def qBS:Bool:=isW (qcU s) (.tup [.nilp,.int .i64 (quY s),.int .i64 (qoo s)],⟨[[.str (qtq s),.sl (quy s) .full]],[],[48]⟩)
def qtu:Int:=(gInt (gAt (gCs (gOut (qa4 (qcU s)) 0)) 1))
def qp6:Int:=(gInt (gAt (gCs (gOut (qa4 (qcU s)) 0)) 2))
def qus:qU:=(gStr (gAt (gObj (qa4 (qcU s)) 0) 0))
def qu1:qR:=(gRow (gAt (gObj (qa4 (qcU s)) 0) 1))
def qoC:qR:=(gRow (gAt (gObj (qa4 (qcU s)) 1) 0))
def qoE:Int:=(gInt (gAt (gObj (qa4 (qcU s)) 1) 1))
def qow:Int:=(gInt (gAt (gObj (qa4 (qcU s)) 1) 2))
def qCs:Bool:=isW (qcU s) (.tup [.ptr 1 0,.int .i64 (qtu s),.int .i64 (qp6 s)],⟨[[.str (qus s),.sl (qu1 s) .full],[.sl (qoC s) .non,.int .i64 (qoE s),.int .i64 (qow s),.bool false,.int .i64 0]],[],[48,76]⟩)
def qhZ:Tr (PV×Store):=let z1:List PV:=[.sl [] .full,.sl [] .full,.sl [] .full];.ite (qh4 s) (.ite (iNe (qdZ s) 0) (.ret (.tup [.nilp,.int .i64 (qmO s),.int .i64 (qdZ s)],Store.mk [z1] [] [27])) (.ret (.tup [.ptr 1 0,.int .i64 0,.int .i64 0],Store.mk [z1,[.sl (qnM s) .non,.int .i64 0,.int .i64 (sLen s),.bool false,.int .i64 0]] [] [27,76]))) .fail
theorem qTc:(qrw tbT qAD qDZ Tryz.f36 [.str s] ⟨[[.sl [] .full,.sl [] .full,.sl [] .full]],[],[27]⟩).flat=qhZ s:=by kernel_rfl
def qbv:Option (PV×Store):=(qhZ s).run
def qmr:Int:=(gInt (gAt (gCs (gOut (qa4 (qbv s)) 0)) 1))
def qgG:Int:=(gInt (gAt (gCs (gOut (qa4 (qbv s)) 0)) 2))
def quJ:qR:=(gRow (gAt (gObj (qa4 (qbv s)) 0) 0))
def qo5:qR:=(gRow (gAt (gObj (qa4 (qbv s)) 0) 1))
def qpN:qR:=(gRow (gAt (gObj (qa4 (qbv s)) 0) 2))
def quh:Bool:=isW (qbv s) (.tup [.nilp,.int .i64 (qmr s),.int .i64 (qgG s)],⟨[[.sl (quJ s) .full,.sl (qo5 s) .full,.sl (qpN s) .full]],[],[27]⟩)
def qmX:Int:=(gInt (gAt (gCs (gOut (qa4 (qbv s)) 0)) 1))
def qgk:Int:=(gInt (gAt (gCs (gOut (qa4 (qbv s)) 0)) 2))
def qn5:qR:=(gRow (gAt (gObj (qa4 (qbv s)) 0) 0))
def qkq:qR:=(gRow (gAt (gObj (qa4 (qbv s)) 0) 1))
def qkd:qR:=(gRow (gAt (gObj (qa4 (qbv s)) 0) 2))
def qkb:qR:=(gRow (gAt (gObj (qa4 (qbv s)) 1) 0))
def qjo:Int:=(gInt (gAt (gObj (qa4 (qbv s)) 1) 1))
def qjP:Int:=(gInt (gAt (gObj (qa4 (qbv s)) 1) 2))
def quB:Bool:=isW (qbv s) (.tup [.ptr 1 0,.int .i64 (qmX s),.int .i64 (qgk s)],⟨[[.sl (qn5 s) .full,.sl (qkq s) .full,.sl (qkd s) .full],[.sl (qkb s) .non,.int .i64 (qjo s),.int .i64 (qjP s),.bool false,.int .i64 0]],[],[27,76]⟩)
end
def qJi:List PV→Store→Tr (PV×Store)|[.str s],⟨[[.str [],.sl [] .full,.sl [] .full]],[],[51]⟩=>.ite (qHR s) (.ret (.tup [.nilp,.int .i64 (qzk s),.int .i64 (qub s)],⟨[[.str (qy3 s),.sl (qzQ s) .full,.sl (qty s) .full]],[],[51]⟩)) (.ite (qH4 s) (.ret (.tup [.ptr 1 0,.int .i64 (qyp s),.int .i64 (quU s)],⟨[[.str (qyP s),.sl (qyl s) .full,.sl (quH s) .full],[.sl (quP s) .non,.int .i64 (qt0 s),.int .i64 (qtx s),.bool false,.int .i64 0]],[],[51,76]⟩)) (.fail))|[.str s],⟨[[.str [],.sl [] .full]],[],[48]⟩=>.ite (qBS s) (.ret (.tup [.nilp,.int .i64 (quY s),.int .i64 (qoo s)],⟨[[.str (qtq s),.sl (quy s) .full]],[],[48]⟩)) (.ite (qCs s) (.ret (.tup [.ptr 1 0,.int .i64 (qtu s),.int .i64 (qp6 s)],⟨[[.str (qus s),.sl (qu1 s) .full],[.sl (qoC s) .non,.int .i64 (qoE s),.int .i64 (qow s),.bool false,.int .i64 0]],[],[48,76]⟩)) (.fail))|[.str s],⟨[[.sl [] .full,.sl [] .full,.sl [] .full]],[],[27]⟩=>.ite (quh s) (.ret (.tup [.nilp,.int .i64 (qmr s),.int .i64 (qgG s)],⟨[[.sl (quJ s) .full,.sl (qo5 s) .full,.sl (qpN s) .full]],[],[27]⟩)) (.ite (quB s) (.ret (.tup [.ptr 1 0,.int .i64 (qmX s),.int .i64 (qgk s)],⟨[[.sl (qn5 s) .full,.sl (qkq s) .full,.sl (qkd s) .full],[.sl (qkb s) .non,.int .i64 (qjo s),.int .i64 (qjP s),.bool false,.int .i64 0]],[],[27,76]⟩)) (.fail))|_,_=>.fail
theorem qQS (gl:Gl):SimS Tryz.prog gl 36 fun args σ=>(qJi args σ).run:=by
 refine SimS.of_flat (G:=qAD) (L:=qDZ) qaj (qO1 gl ) qai Tryz.func36 rfl (by rfl) (by kernel_rfl) (qab (by kernel_rfl)) ?_
 intro args σ x h;unfold qJi at h
 split at h
 ·exact (congrArg Tr.run (qZk _)).trans (qae h fun h=>qae h fun h=>by cases h)
 ·exact (congrArg Tr.run (qVd _)).trans (qae h fun h=>qae h fun h=>by cases h)
 ·exact (congrArg Tr.run (qTc _)).trans (qae h fun h=>qae h fun h=>by cases h)
 ·cases h
def qu2:GamT:=ofL [(36,.store qJi),(37,.pure qd3),(38,.may (frameT qIG)),(39,.may (frameT qYI)),(40,.may (frameT qJM)),(qom,.hint [(8,0,3,80),(8,1,3,85),(8,2,3,51)])]
theorem qGy (gl:Gl):qal Tryz.prog gl (gam qu2):=(qdw (qQS gl) (qag (qcj gl) (qah (SimM.frameT (qQ3 gl)) (qah (SimM.frameT (qWL gl)) (qah (SimM.frameT (qR3 gl)) (qbN (K:=.hint [(8,0,3,80),(8,1,3,85),(8,2,3,51)]) trivial qaf))))))
def qrT:Code:=qc2 Tryz.f12 5
def qsn:LI:=⟨84,[2,5,8],fun e=>match e with|.exit 0=>[2,5,8]|_=>[],true⟩
def qqc:LpsT:=fun r fr σ=>.fail
def qdm (vs:List PV) (σ:Store):Option (PExit×List PV×Store):=lval (lstep tbT qu2 qqc qrT qsn) vs σ
section
variable (r r2 r3 r4:qR) (n n2:Int) (r5 r6 r7:qR) (k k2 k3:Nat)
def qb1:Tr LR:=let z1:=qac r4;let z2:List PV:=[.sl r5 (.tok 0),.sl r6 (.tok 1),.sl r7 (.tok 2)];let z3:=qdY z2 z2;let z4:qR:=[[.str (qlV true z1 n n2),.bool (qkX true z1 n n2),.sl (qaa (qma true z1 n n2)) .non]];let z5:=qan r5 3;let z6:=nEq k (nXs r5);let z7:List PV:=[.ptr 0 0,.ptr 1 0,.ptr 2 0];let z8:List PV:=[.sl r .full,.sl r2 .full,.sl r3 .full];let z9:=qaa z1;let z10:qR:=[[.str (qlM true z1 n n2),.bool (qk8 true z1 n n2),.sl (qaa (qlm true z1 n n2)) .non]];let z11:qR:=[[.str (qlV false z1 n n2),.bool (qkX false z1 n n2),.sl (qaa (qma false z1 n n2)) .non]];let z12:qR:=[[.str (qlM false z1 n n2),.bool (qk8 false z1 n n2),.sl (qaa (qlm false z1 n n2)) .non]];let z13:qR:=[[.str (qEz z1 n n2),.sl (qaa (qDe z1 n n2)) .non,.sl (qaa (qwg z1 n n2)) .non]];let z14:qR:=[[.str (qEr z1 n n2),.sl (qaa (qF0 z1 n n2)) .non,.sl (qaa (qx0 z1 n n2)) .non]];let z15:qR:=[[.str (qtg z1 n n2),.sl (qaa (qrn z1 n n2)) .non,.sl (qaa (qmL z1 n n2)) .non]];let z16:qR:=[[.str (qsl z1 n n2),.sl (qaa (qqV z1 n n2)) .non,.sl (qaa (qnI z1 n n2)) .non]];.ite true (.ite (iLt n (xLen r4)) (.ite (qaL z1 n n2 1 [98,97,115,101]) (.ite (qbj z1 n n2 1 [98,97,115,101]) (.ite (qq1 true z1 n n2) (.ite z3 (.ite (qas r5 z4 48) (.ite (qap z4 3) (.ite z5 (.ite z6 (.ret (.next z7 (Store.mk [z8,[.sl z9 .non,.int .i64 (qlv true z1 n n2),.int .i64 n2,.bool true,.int .i64 (qh8 true z1 n n2)],[.sl (xApp r5 z4) (.tok 0),.sl r6 (.tok 1),.sl r7 (.tok 2)]] [(nXs (xApp r5 z4),3,80),(k2,3,85),(k3,3,51)] [27,76,27]))) .fail) .fail) .fail) .fail) .fail) (.ite (qtc true z1 n n2) (.ite z3 (.ite (qas r5 z10 48) (.ite (qap z10 3) (.ite z5 (.ite z6 (.ret (.next z7 (Store.mk [z8,[.sl z9 .non,.int .i64 (ql4 true z1 n n2),.int .i64 n2,.bool false,.int .i64 0],[.sl (xApp r5 z10) (.tok 0),.sl r6 (.tok 1),.sl r7 (.tok 2)]] [(nXs (xApp r5 z10),3,80),(k2,3,85),(k3,3,51)] [27,76,27]))) .fail) .fail) .fail) .fail) .fail) .fail)) (.ite (qaL z1 n n2 1 [118,105,101,119]) (.ite (qbj z1 n n2 1 [118,105,101,119]) (.ite (qq1 false z1 n n2) (.ite z3 (.ite (qas r5 z11 48) (.ite (qap z11 3) (.ite z5 (.ite z6 (.ret (.next z7 (Store.mk [z8,[.sl z9 .non,.int .i64 (qlv false z1 n n2),.int .i64 n2,.bool true,.int .i64 (qh8 false z1 n n2)],[.sl (xApp r5 z11) (.tok 0),.sl r6 (.tok 1),.sl r7 (.tok 2)]] [(nXs (xApp r5 z11),3,80),(k2,3,85),(k3,3,51)] [27,76,27]))) .fail) .fail) .fail) .fail) .fail) (.ite (qtc false z1 n n2) (.ite z3 (.ite (qas r5 z12 48) (.ite (qap z12 3) (.ite z5 (.ite z6 (.ret (.next z7 (Store.mk [z8,[.sl z9 .non,.int .i64 (ql4 false z1 n n2),.int .i64 n2,.bool false,.int .i64 0],[.sl (xApp r5 z12) (.tok 0),.sl r6 (.tok 1),.sl r7 (.tok 2)]] [(nXs (xApp r5 z12),3,80),(k2,3,85),(k3,3,51)] [27,76,27]))) .fail) .fail) .fail) .fail) .fail) .fail)) (.ite (qaL z1 n n2 1 [111,110]) (.ite (qbj z1 n n2 1 [111,110]) (.ite (qJ9 z1 n n2) (.ite z3 (.ite (qas r6 z13 64) (.ite (qap z13 3) (.ite (qan r6 3) (.ite (nEq k2 (nXs r6)) (.ret (.next z7 (Store.mk [z8,[.sl z9 .non,.int .i64 (qE5 z1 n n2),.int .i64 n2,.bool true,.int .i64 (qxu z1 n n2)],[.sl r5 (.tok 0),.sl (xApp r6 z13) (.tok 1),.sl r7 (.tok 2)]] [(k,3,80),(nXs (xApp r6 z13),3,85),(k3,3,51)] [27,76,27]))) .fail) .fail) .fail) .fail) .fail) (.ite (qKk z1 n n2) (.ite z3 (.ite (qas r6 z14 64) (.ite (qap z14 3) (.ite (qan r6 3) (.ite (nEq k2 (nXs r6)) (.ret (.next z7 (Store.mk [z8,[.sl z9 .non,.int .i64 (qCO z1 n n2),.int .i64 n2,.bool false,.int .i64 0],[.sl r5 (.tok 0),.sl (xApp r6 z14) (.tok 1),.sl r7 (.tok 2)]] [(k,3,80),(nXs (xApp r6 z14),3,85),(k3,3,51)] [27,76,27]))) .fail) .fail) .fail) .fail) .fail) .fail)) (.ite (qy4 z1 n n2) (.ite z3 (.ite (qas r7 z15 64) (.ite (qap z15 3) (.ite (qan r7 3) (.ite (nEq k3 (nXs r7)) (.ret (.next z7 (Store.mk [z8,[.sl z9 .non,.int .i64 (qrs z1 n n2),.int .i64 n2,.bool true,.int .i64 (qnd z1 n n2)],[.sl r5 (.tok 0),.sl r6 (.tok 1),.sl (xApp r7 z15) (.tok 2)]] [(k,3,80),(k2,3,85),(nXs (xApp r7 z15),3,51)] [27,76,27]))) .fail) .fail) .fail) .fail) .fail) (.ite (qyt z1 n n2) (.ite z3 (.ite (qas r7 z16 64) (.ite (qap z16 3) (.ite (qan r7 3) (.ite (nEq k3 (nXs r7)) (.ret (.next z7 (Store.mk [z8,[.sl z9 .non,.int .i64 (qrW z1 n n2),.int .i64 n2,.bool false,.int .i64 0],[.sl r5 (.tok 0),.sl r6 (.tok 1),.sl (xApp r7 z16) (.tok 2)]] [(k,3,80),(k2,3,85),(nXs (xApp r7 z16),3,51)] [27,76,27]))) .fail) .fail) .fail) .fail) .fail) .fail))) .fail)) .fail)) .fail) (.ret (.out (.exit 0) z7 (Store.mk [z8,[.sl r4 .non,.int .i64 n,.int .i64 n2,.bool false,.int .i64 0],z2] [(k,3,80),(k2,3,85),(k3,3,51)] [27,76,27])))) (.ret (.out (.exit 0) z7 (Store.mk [z8,[.sl r4 .non,.int .i64 n,.int .i64 n2,.bool false,.int .i64 0],z2] [(k,3,80),(k2,3,85),(k3,3,51)] [27,76,27])))
theorem qQN:lstep tbT qu2 qqc qrT qsn [.ptr 0 0,.ptr 1 0,.ptr 2 0] ⟨[[.sl r .full,.sl r2 .full,.sl r3 .full],[.sl r4 .non,.int .i64 n,.int .i64 n2,.bool false,.int .i64 0],[.sl r5 (.tok 0),.sl r6 (.tok 1),.sl r7 (.tok 2)]],[(k,3,80),(k2,3,85),(k3,3,51)],[27,76,27]⟩=qb1 r r2 r3 r4 n n2 r5 r6 r7 k k2 k3:=by kernel_rfl
theorem qf1:qdm [.ptr 0 0,.ptr 1 0,.ptr 2 0] ⟨[[.sl r .full,.sl r2 .full,.sl r3 .full],[.sl r4 .non,.int .i64 n,.int .i64 n2,.bool false,.int .i64 0],[.sl r5 (.tok 0),.sl r6 (.tok 1),.sl r7 (.tok 2)]],[(k,3,80),(k2,3,85),(k3,3,51)],[27,76,27]⟩=lnext qdm (qb1 r r2 r3 r4 n n2 r5 r6 r7 k k2 k3).run:=by unfold qdm;rw [qaC,qQN]
end
section
variable (r r2 r3 r4:qR) (n n2 n3:Int) (r5 r6 r7:qR) (k k2 k3:Nat)
def quR:Tr LR:=let z1:=qac r4;.ite false (.ite (iLt n (xLen r4)) (.ite (qaq z1 n n2 n3 1 [98,97,115,101]) (.ite (qaA z1 n n2 n3 1 [98,97,115,101]) .fail (.ite (qaq z1 n n2 n3 1 [118,105,101,119]) (.ite (qaA z1 n n2 n3 1 [118,105,101,119]) .fail (.ite (qaq z1 n n2 n3 1 [111,110]) (.ite (qaA z1 n n2 n3 1 [111,110]) .fail .fail) .fail)) .fail)) .fail) (.ret (.out (.exit 0) [.ptr 0 0,.ptr 1 0,.ptr 2 0] (Store.mk [[.sl r .full,.sl r2 .full,.sl r3 .full],[.sl r4 .non,.int .i64 n,.int .i64 n2,.bool true,.int .i64 n3],[.sl r5 (.tok 0),.sl r6 (.tok 1),.sl r7 (.tok 2)]] [(k,3,80),(k2,3,85),(k3,3,51)] [27,76,27])))) (.ret (.out (.exit 0) [.ptr 0 0,.ptr 1 0,.ptr 2 0] (Store.mk [[.sl r .full,.sl r2 .full,.sl r3 .full],[.sl r4 .non,.int .i64 n,.int .i64 n2,.bool true,.int .i64 n3],[.sl r5 (.tok 0),.sl r6 (.tok 1),.sl r7 (.tok 2)]] [(k,3,80),(k2,3,85),(k3,3,51)] [27,76,27])))
theorem qQe:lstep tbT qu2 qqc qrT qsn [.ptr 0 0,.ptr 1 0,.ptr 2 0] ⟨[[.sl r .full,.sl r2 .full,.sl r3 .full],[.sl r4 .non,.int .i64 n,.int .i64 n2,.bool true,.int .i64 n3],[.sl r5 (.tok 0),.sl r6 (.tok 1),.sl r7 (.tok 2)]],[(k,3,80),(k2,3,85),(k3,3,51)],[27,76,27]⟩=quR r r2 r3 r4 n n2 n3 r5 r6 r7 k k2 k3:=by kernel_rfl
theorem qO2:qdm [.ptr 0 0,.ptr 1 0,.ptr 2 0] ⟨[[.sl r .full,.sl r2 .full,.sl r3 .full],[.sl r4 .non,.int .i64 n,.int .i64 n2,.bool true,.int .i64 n3],[.sl r5 (.tok 0),.sl r6 (.tok 1),.sl r7 (.tok 2)]],[(k,3,80),(k2,3,85),(k3,3,51)],[27,76,27]⟩=lnext qdm (quR r r2 r3 r4 n n2 n3 r5 r6 r7 k k2 k3).run:=by unfold qdm;rw [qaC,qQe]
end
section
variable (r r2 r3 r4:qR) (n n2:Int) (r5 r6 r7:qR) (k k2 k3:Nat)
def qbc:Option (PExit×List PV×Store):=qdm [.ptr 0 0,.ptr 1 0,.ptr 2 0] ⟨[[.sl r .full,.sl r2 .full,.sl r3 .full],[.sl r4 .non,.int .i64 n,.int .i64 n2,.bool false,.int .i64 0],[.sl r5 (.tok 0),.sl r6 (.tok 1),.sl r7 (.tok 2)]],[(k,3,80),(k2,3,85),(k3,3,51)],[27,76,27]⟩
def qoY:Int:=qbu 1 1 (qbc r r2 r3 r4 n n2 r5 r6 r7 k k2 k3)
def qg7:qR:=qaO 2 0 (qbc r r2 r3 r4 n n2 r5 r6 r7 k k2 k3)
def qhs:qR:=qaO 2 1 (qbc r r2 r3 r4 n n2 r5 r6 r7 k k2 k3)
def qhb:qR:=qaO 2 2 (qbc r r2 r3 r4 n n2 r5 r6 r7 k k2 k3)
def qo3:Nat:=(gTok (qbc r r2 r3 r4 n n2 r5 r6 r7 k k2 k3) 0)
def qlE:Nat:=(gTok (qbc r r2 r3 r4 n n2 r5 r6 r7 k k2 k3) 1)
def qlF:Nat:=(gTok (qbc r r2 r3 r4 n n2 r5 r6 r7 k k2 k3) 2)
def qo1:Bool:=isW (qbc r r2 r3 r4 n n2 r5 r6 r7 k k2 k3) ((.exit 0),[.ptr 0 0,.ptr 1 0,.ptr 2 0],⟨[[.sl r .full,.sl r2 .full,.sl r3 .full],[.sl r4 .non,.int .i64 (qoY r r2 r3 r4 n n2 r5 r6 r7 k k2 k3),.int .i64 n2,.bool false,.int .i64 0],[.sl (qg7 r r2 r3 r4 n n2 r5 r6 r7 k k2 k3) (.tok 0),.sl (qhs r r2 r3 r4 n n2 r5 r6 r7 k k2 k3) (.tok 1),.sl (qhb r r2 r3 r4 n n2 r5 r6 r7 k k2 k3) (.tok 2)]],[((qo3 r r2 r3 r4 n n2 r5 r6 r7 k k2 k3),3,80),((qlE r r2 r3 r4 n n2 r5 r6 r7 k k2 k3),3,85),((qlF r r2 r3 r4 n n2 r5 r6 r7 k k2 k3),3,51)],[27,76,27]⟩)
def qpX:Int:=qbu 1 1 (qbc r r2 r3 r4 n n2 r5 r6 r7 k k2 k3)
def qhq:Int:=qbu 1 4 (qbc r r2 r3 r4 n n2 r5 r6 r7 k k2 k3)
def qhf:qR:=qaO 2 0 (qbc r r2 r3 r4 n n2 r5 r6 r7 k k2 k3)
def qhp:qR:=qaO 2 1 (qbc r r2 r3 r4 n n2 r5 r6 r7 k k2 k3)
def qgY:qR:=qaO 2 2 (qbc r r2 r3 r4 n n2 r5 r6 r7 k k2 k3)
def qpn:Nat:=(gTok (qbc r r2 r3 r4 n n2 r5 r6 r7 k k2 k3) 0)
def qk4:Nat:=(gTok (qbc r r2 r3 r4 n n2 r5 r6 r7 k k2 k3) 1)
def qlk:Nat:=(gTok (qbc r r2 r3 r4 n n2 r5 r6 r7 k k2 k3) 2)
def qoX:Bool:=isW (qbc r r2 r3 r4 n n2 r5 r6 r7 k k2 k3) ((.exit 0),[.ptr 0 0,.ptr 1 0,.ptr 2 0],⟨[[.sl r .full,.sl r2 .full,.sl r3 .full],[.sl r4 .non,.int .i64 (qpX r r2 r3 r4 n n2 r5 r6 r7 k k2 k3),.int .i64 n2,.bool true,.int .i64 (qhq r r2 r3 r4 n n2 r5 r6 r7 k k2 k3)],[.sl (qhf r r2 r3 r4 n n2 r5 r6 r7 k k2 k3) (.tok 0),.sl (qhp r r2 r3 r4 n n2 r5 r6 r7 k k2 k3) (.tok 1),.sl (qgY r r2 r3 r4 n n2 r5 r6 r7 k k2 k3) (.tok 2)]],[((qpn r r2 r3 r4 n n2 r5 r6 r7 k k2 k3),3,80),((qk4 r r2 r3 r4 n n2 r5 r6 r7 k k2 k3),3,85),((qlk r r2 r3 r4 n n2 r5 r6 r7 k k2 k3),3,51)],[27,76,27]⟩)
end
def qky:List PV→Store→Tr (PExit×List PV×Store)|[.ptr 0 0,.nilp,.ptr 1 0],⟨[[.sl r .full,.sl r2 .full,.sl r3 .full],[.sl r4 (.tok 0),.sl r5 (.tok 1),.sl r6 (.tok 2)]],[(k,3,80),(k2,3,85),(k3,3,51)],[27,27]⟩=>.fail|[.ptr 0 0,.ptr 1 0,.ptr 2 0],⟨[[.sl r .full,.sl r2 .full,.sl r3 .full],[.sl r4 .non,.int .i64 n,.int .i64 n2,.bool false,.int .i64 0],[.sl r5 (.tok 0),.sl r6 (.tok 1),.sl r7 (.tok 2)]],[(k,3,80),(k2,3,85),(k3,3,51)],[27,76,27]⟩=>.ite (qo1 r r2 r3 r4 n n2 r5 r6 r7 k k2 k3) (.ret ((.exit 0),[.ptr 0 0,.ptr 1 0,.ptr 2 0],⟨[[.sl r .full,.sl r2 .full,.sl r3 .full],[.sl r4 .non,.int .i64 (qoY r r2 r3 r4 n n2 r5 r6 r7 k k2 k3),.int .i64 n2,.bool false,.int .i64 0],[.sl (qg7 r r2 r3 r4 n n2 r5 r6 r7 k k2 k3) (.tok 0),.sl (qhs r r2 r3 r4 n n2 r5 r6 r7 k k2 k3) (.tok 1),.sl (qhb r r2 r3 r4 n n2 r5 r6 r7 k k2 k3) (.tok 2)]],[((qo3 r r2 r3 r4 n n2 r5 r6 r7 k k2 k3),3,80),((qlE r r2 r3 r4 n n2 r5 r6 r7 k k2 k3),3,85),((qlF r r2 r3 r4 n n2 r5 r6 r7 k k2 k3),3,51)],[27,76,27]⟩)) (.ite (qoX r r2 r3 r4 n n2 r5 r6 r7 k k2 k3) (.ret ((.exit 0),[.ptr 0 0,.ptr 1 0,.ptr 2 0],⟨[[.sl r .full,.sl r2 .full,.sl r3 .full],[.sl r4 .non,.int .i64 (qpX r r2 r3 r4 n n2 r5 r6 r7 k k2 k3),.int .i64 n2,.bool true,.int .i64 (qhq r r2 r3 r4 n n2 r5 r6 r7 k k2 k3)],[.sl (qhf r r2 r3 r4 n n2 r5 r6 r7 k k2 k3) (.tok 0),.sl (qhp r r2 r3 r4 n n2 r5 r6 r7 k k2 k3) (.tok 1),.sl (qgY r r2 r3 r4 n n2 r5 r6 r7 k k2 k3) (.tok 2)]],[((qpn r r2 r3 r4 n n2 r5 r6 r7 k k2 k3),3,80),((qk4 r r2 r3 r4 n n2 r5 r6 r7 k k2 k3),3,85),((qlk r r2 r3 r4 n n2 r5 r6 r7 k k2 k3),3,51)],[27,76,27]⟩)) (.fail))|_,_=>.fail
theorem qRf:∀ vs σ r,(qky vs σ).run=some r→qdm vs σ=some r:=by
 intro vs σ r h;unfold qky at h
 split at h
 ·exact by cases h
 ·exact qae h fun h=>qae h fun h=>by cases h
 ·cases h
theorem qKV (gl:Gl):∀ fr σ e fr' σ',(orc qsn qky fr σ).run=some (e,fr',σ')→LDoes Tryz.prog gl qrT fr σ e fr' σ':=qbw qaj (qGy gl ) qai (L:=qqc) (qab (by kernel_rfl)) (by kernel_rfl) qRf
def qIX:LpsT:=fun r fr σ=>bif Nat.beq r 5 then orc qsn qky fr σ else .fail
section
variable (v:qU)
def qm8:Tr PV:=let z1:List PV:=[.sl [] .non,.sl [] .non,.sl [] .non];let z2:=qn5 v;let z3:=qkq v;let z4:=qkd v;let z5:=qkb v;let z6:=qjo v;let z7:=qjP v;.ite (quh v) (.ite (iNe (qgG v) 0) (.ret (.tup [.agg z1,.int .i64 (qmr v),.int .i64 (qgG v)])) .fail) (.ite (quB v) (.ite (iNe (qgk v) 0) (.ret (.tup [.agg z1,.int .i64 (qmX v),.int .i64 (qgk v)])) (.ite (qo1 z2 z3 z4 z5 z6 z7 [] [] [] 0 0 0) (.ite false (.ret (.tup [.agg z1,.int .i64 0,.int .i64 130])) (.ret (.tup [.agg [.sl (qaa (qg7 z2 z3 z4 z5 z6 z7 [] [] [] 0 0 0)) .non,.sl (qaa (qhs z2 z3 z4 z5 z6 z7 [] [] [] 0 0 0)) .non,.sl (qaa (qhb z2 z3 z4 z5 z6 z7 [] [] [] 0 0 0)) .non],.int .i64 0,.int .i64 0]))) (.ite (qoX z2 z3 z4 z5 z6 z7 [] [] [] 0 0 0) (.ite true (.ret (.tup [.agg z1,.int .i64 (qhq z2 z3 z4 z5 z6 z7 [] [] [] 0 0 0),.int .i64 130])) (.ret (.tup [.agg [.sl (qaa (qhf z2 z3 z4 z5 z6 z7 [] [] [] 0 0 0)) .non,.sl (qaa (qhp z2 z3 z4 z5 z6 z7 [] [] [] 0 0 0)) .non,.sl (qaa (qgY z2 z3 z4 z5 z6 z7 [] [] [] 0 0 0)) .non],.int .i64 0,.int .i64 0]))) .fail))) .fail)
theorem qZt:(tcall tbT qu2 qIX Tryz.f12 [.str v]).flat=qm8 v:=by kernel_rfl
def qgr:Option PV:=(qm8 v).run
def qAV:qR:=(gRow (gAt (gCs (gAt (gCs (gVal (qgr v))) 0)) 0))
def qrg:qR:=(gRow (gAt (gCs (gAt (gCs (gVal (qgr v))) 0)) 1))
def qri:qR:=(gRow (gAt (gCs (gAt (gCs (gVal (qgr v))) 0)) 2))
def qDk:Int:=qBd 1 (qgr v)
def qxD:Int:=qBd 2 (qgr v)
def qAn:Bool:=isW (qgr v) (.tup [.agg [.sl (qAV v) .non,.sl (qrg v) .non,.sl (qri v) .non],.int .i64 (qDk v),.int .i64 (qxD v)])
end
def qLh:List PV→Tr PV|[.str v]=>.ite (qAn v) (.ret (.tup [.agg [.sl (qAV v) .non,.sl (qrg v) .non,.sl (qri v) .non],.int .i64 (qDk v),.int .i64 (qxD v)])) (.fail)|_=>.fail
theorem qOQ (gl:Gl):SimP Tryz.prog gl 12 fun args=>(qLh args).run:=by
 refine SimP.of_flat (G:=qu2) (L:=qIX) qaj (qGy gl ) qai  Tryz.func12 rfl (by rfl) (by kernel_rfl) (qav (L:=lps qIX) [(5,qrT)] (by kernel_rfl) (List.forall_mem_cons.2 ⟨fun fr σ e fr' σ' h=>qKV gl  fr σ e fr' σ' h,(List.forall_mem_nil _)⟩)) ?_
 intro args x h;unfold qLh at h
 split at h
 ·exact (congrArg Tr.run (qZt _)).trans (qae h fun h=>by cases h)
 ·cases h
end Go.Pv
set_option maxHeartbeats 4000000
set_option maxRecDepth 200000
set_option linter.unusedSimpArgs false
set_option linter.unusedVariables false
namespace Go.Pv
open Go Go.Proofs
def qDL:GamT:=ofL [(10,.pure qRD),(11,.pure qGj),(12,.pure qLh),(13,.pure qIM),(14,.pure qDt)]
theorem qNQ (gl:Gl) (hg:GlLex gl):qal Tryz.prog gl (gam qDL):=(qag (qTH gl) (qag (qH7 gl hg) (qag (qOQ gl) (qag (qPq gl) (qag (qOC gl hg) qaf)))))
def qMd:LpsT:=fun r fr σ=>.fail
def qAj (s:qU):Tr PV:=let z1:=qLW s;.ite (qEm s) (.ite (qp7 z1) (.ite (qAn z1) (.ite (qyW (qac (qze z1)) (qac (qsS z1)) (qac (qsP z1)) (qac (qAV z1)) (qac (qrg z1)) (qac (qri z1))) (.ite (qEQ (qac (qze z1)) (qac (qsS z1)) (qac (qsP z1)) (qac (qAV z1)) (qac (qrg z1)) (qac (qri z1))) (.ite (iEq (qAW z1) (qDk z1)) (.ite (iEq (qrM z1) (qxD z1)) (.ite qt6 (.ret (.bool qvG)) .fail) (.ret (.bool false))) (.ret (.bool false))) (.ret (.bool false))) .fail) .fail) .fail) .fail
theorem qS7 (s:qU):(tcall tbT qDL qMd Tryz.f3 [.str s]).flat=qAj s:=by kernel_rfl
def qqn:List PV→Tr PV|[.str s]=>qAj s|_=>.fail
theorem qNK (gl:Gl) (hg:GlLex gl):SimP Tryz.prog gl 3 fun args=>(qqn args).run:=by
 refine SimP.of_flat (G:=qDL) (L:=qMd) qaj (qNQ gl hg ) qai  Tryz.func3 rfl (by rfl) (by kernel_rfl) (qab (by kernel_rfl)) ?_
 intro args x h;unfold qqn at h
 split at h
 ·exact (congrArg Tr.run (qS7 _)).trans h
 ·cases h
end Go.Pv
set_option maxHeartbeats 4000000
set_option linter.unusedSimpArgs false
set_option linter.unusedVariables false
namespace Go.Pv
def qgf (b:UInt8):Bool:=decide (97≤b.toNat)&&decide (b.toNat≤122)
def qmd (b:UInt8):Bool:=decide (65≤b.toNat)&&decide (b.toNat≤90)
def qaE (b:UInt8):Bool:=decide (48≤b.toNat)&&decide (b.toNat≤57)
def innB (b:UInt8):Bool:=qgf b || qmd b || qaE b || decide (b.toNat=95)
def blB (b:UInt8):Bool:=decide (b.toNat=32) || decide (b.toNat=9) || decide (b.toNat=10) || decide (b.toNat=13)
def runL (p:UInt8→Bool):qU→Nat
 |[]=>0
 |b::s=>if p b then runL p s+1 else 0
def incN (n:Nat):Nat:=if n=0 then 0 else n+1
def quoE:Bool→qU→Nat
 |_,[]=>0
 |true,_::s=>incN (quoE false s)
 |false,b::s=>if b.toNat=34 then 1 else if b.toNat=92 then incN (quoE true s) else incN (quoE false s)
def quoL (s:qU):Nat:=quoE false s
theorem qJv {n m:Nat} (h:n≤m):incN n≤m+1:=by unfold incN;split<;>omega
def gapL:Bool→qU→Nat
 |_,[]=>0
 |c,b::s=>if c || blB b || decide (b.toNat=37) then gapL (decide (b.toNat=37) || c&&decide (b.toNat≠10)) s+1 else 0
def qob (b:UInt8):Bool:=[40,41,44,46,43,45,61,58,60,62].contains b.toNat
def twoB (a b:UInt8):Bool:=decide (a.toNat=58∧b.toNat=45) || decide (a.toNat=60∧b.toNat=61) || decide (a.toNat=62∧b.toNat=61) || decide (a.toNat=33∧b.toNat=61)
def hdIs (p:UInt8→Bool):qU→Bool
 |[]=>false
 |b::_=>p b
def qeA (c:UInt8) (t:qU):Nat:=if hdIs (twoB c) t then 2 else if qob c then 1 else 0
def valL (k:Int) (s:qU) (n:Nat):Option (Int×Nat×Vl):=match rdV (s.take n) with
 |some v=>some (k,n,v)
 |none=>none
def wdL:qU→Option (Int×Nat×Vl)
 |[]=>none
 |c::t =>
  if qgf c then (if runL innB t+1≤64 then some (1,runL innB t+1,0,0,[]) else none)
  else if qmd c then (if runL innB t+1≤64 then some (2,runL innB t+1,0,0,[]) else none)
  else if c.toNat=95 then (if hdIs innB t then none else some (3,1,0,0,[]))
  else if qaE c || (decide (c.toNat=45)&&hdIs qaE t) then valL 4 (c::t) (runL qaE t+1)
  else if c.toNat=34 then (if quoL t=0 then none else valL 5 (c::t) (quoL t+1))
  else if qeA c t=0 then none else some (6,qeA c t,0,0,[])
abbrev Wd:=Int×List UInt8×Vl×Int
def lexL:Nat→Nat→qU→List Wd×Option Nat
 |0,_,_=>([],none)
 |n+1,at_,s=>match s with
  |[]=>([],none)
  |_=>match wdL s with
   |none=>([],some at_)
   |some (k,m,v) =>
    let r:=lexL n (at_+m+gapL false (s.drop m)) (s.drop (m+gapL false (s.drop m)))
    ((k,s.take m,v,(at_:Int))::r.1,r.2)
def qcl (s:qU):List Wd×Option Nat:=lexL (s.length+1) (gapL false s) (s.drop (gapL false s))
theorem qpw (p:UInt8→Bool):∀ s:qU,runL p s≤s.length
 |[]=>Nat.le_refl _
 |b::s=>by
  have:=qpw p s;unfold runL;split<;>simp only [List.length_cons]<;>omega
theorem qF3:∀ (e:Bool) (s:qU),quoE e s≤s.length
 |_,[]=>by cases ‹Bool›<;>exact Nat.le_refl _
 |true,_::s=>qJv (qF3 false s)
 |false,b::s=>by
  have h1:=qJv (qF3 true s);have h2:=qJv (qF3 false s);simp only [quoE,List.length_cons];split
  ·omega
  ·split
   ·exact h1
   ·exact h2
theorem qKF (s:qU):quoL s≤s.length:=qF3 false s
theorem qo4:∀ (c:Bool) (s:qU),gapL c s≤s.length
 |_,[]=>Nat.le_refl _
 |c,b::s=>by
  have:=qo4 (decide (b.toNat=37) || c&&decide (b.toNat≠10)) s;unfold gapL;split<;>simp only [List.length_cons]<;>omega
theorem qz4 {s:List UInt8} {k:Int} {m:Nat} {v:Vl} (h:wdL s=some (k,m,v)):1≤m∧m≤s.length:=by
 cases s with
 |nil=>cases h
 |cons c t =>
  have h1:=qpw innB t;have h2:=qpw qaE t;have h3:=qKF t;have h4:qeA c t≤(c::t).length:=by
   unfold qeA;cases t with
   |nil=>cases qob c<;>simp [hdIs]
   |cons d t=>cases hdIs (twoB c) (d::t)<;>cases qob c<;>simp
  simp only [wdL] at h
  simp only [List.length_cons] at h4 ⊢
  repeat' (split at h)
  all_goals first|(cases h;done)|skip
  all_goals first|(cases h;omega)|(unfold valL at h;split at h<;>first|(cases h;done)|(cases h;omega))
def cW:Cod Wd where
 enc t:=[.int .i64 t.1,.str t.2.1,.int .i64 t.2.2.1.1,.int .i64 t.2.2.1.2.1,.str t.2.2.1.2.2,.int .i64 t.2.2.2]
 dec c:=match c with|[.int .i64 a,.str b,.int .i64 k,.int .i64 n,.str s,.int .i64 p]=>some (a,b,(k,n,s),p)|_=>none
 k:=6
 of_dec c a h:=by
  split at h
  ·cases h;rfl
  ·cases h
 dec_of a:=rfl
 lock a:=rfl
 shut a:=rfl
 len a:=rfl
 one a:=rfl
@[simp] theorem okSize_cW (l:List Wd):qan (rOf cW l) 6=true:=qcs cW l
@[simp] theorem okNews_cW (l:List Wd):qap (rOf cW l) 6=true:=qcq cW l
@[simp] theorem okGet_cW (l:List Wd) (i:Nat):qbl [.int .i64 0,.str [],.int .i64 0,.int .i64 0,.str [],.int .i64 0] (rOf cW l) i=decide (i < l.length):=qdc _ _ (fun _=>rfl) l i
@[simp] theorem xInt_cW0 (l:List Wd) (i:Nat):xInt (rOf cW l) i 0=(l[i]?.getD (0,[],(0,0,[]),0)).1:=by unfold xInt;rw [qaw];cases l[i]?<;>rfl
@[simp] theorem xStr_cW1 (l:List Wd) (i:Nat):xStr (rOf cW l) i 1=(l[i]?.getD (0,[],(0,0,[]),0)).2.1:=by unfold xStr;rw [qaw];cases l[i]?<;>rfl
@[simp] theorem xInt_cW2 (l:List Wd) (i:Nat):xInt (rOf cW l) i 2=(l[i]?.getD (0,[],(0,0,[]),0)).2.2.1.1:=by unfold xInt;rw [qaw];cases l[i]?<;>rfl
@[simp] theorem xInt_cW3 (l:List Wd) (i:Nat):xInt (rOf cW l) i 3=(l[i]?.getD (0,[],(0,0,[]),0)).2.2.1.2.1:=by unfold xInt;rw [qaw];cases l[i]?<;>rfl
@[simp] theorem xStr_cW4 (l:List Wd) (i:Nat):xStr (rOf cW l) i 4=(l[i]?.getD (0,[],(0,0,[]),0)).2.2.1.2.2:=by unfold xStr;rw [qaw];cases l[i]?<;>rfl
@[simp] theorem xInt_cW5 (l:List Wd) (i:Nat):xInt (rOf cW l) i 5=(l[i]?.getD (0,[],(0,0,[]),0)).2.2.2:=by unfold xInt;rw [qaw];cases l[i]?<;>rfl
theorem qQw (l:List Wd) (a:Int) (b:qU) (k n:Int) (s:qU) (p:Int):rOf cW l++[[.int .i64 a,.str b,.int .i64 k,.int .i64 n,.str s,.int .i64 p]]=rOf cW (l++[(a,b,(k,n,s),p)]):=by rw [qgz];rfl
theorem qVB (a:Int) (b:qU) (k n:Int) (s:qU) (p:Int):([[.int .i64 a,.str b,.int .i64 k,.int .i64 n,.str s,.int .i64 p]]:List (List PV))=rOf cW [(a,b,(k,n,s),p)]:=rfl
@[simp] theorem qPF (l:List Wd) (a:Int) (b:qU) (k n:Int) (s:qU) (p:Int):[.int .i64 a,.str b,.int .i64 k,.int .i64 n,.str s,.int .i64 p]::rOf cW l=rOf cW ((a,b,(k,n,s),p)::l):=rfl
end Go.Pv
set_option maxHeartbeats 4000000
set_option maxRecDepth 200000
set_option linter.unusedSimpArgs false
set_option linter.unusedVariables false
namespace Go.Pv
open Go Go.Proofs Go.RowKit
def smI (c:Int):Bool:=decide (97≤c)&&decide (c≤122)
def grI (c:Int):Bool:=decide (65≤c)&&decide (c≤90)
def dgI (c:Int):Bool:=decide (48≤c)&&decide (c≤57)
def inI (c:Int):Bool:=smI c || grI c || dgI c || decide (c=95)
theorem qLz (b:UInt8):smI (b.toNat:Int)=qgf b:=by unfold smI qgf;congr 1<;>(apply decide_eq_decide.2;omega)
theorem qMv (b:UInt8):grI (b.toNat:Int)=qmd b:=by unfold grI qmd;congr 1<;>(apply decide_eq_decide.2;omega)
theorem qdN (b:UInt8):dgI (b.toNat:Int)=qaE b:=by unfold dgI qaE;congr 1<;>(apply decide_eq_decide.2;omega)
theorem qr9 (b:UInt8):inI (b.toNat:Int)=innB b:=by
 unfold inI innB;rw [qLz,qMv,qdN]
 congr 1
 apply decide_eq_decide.2;omega
theorem qCd (c:Int):qvW c=some (.bool (dgI c)):=by
 unfold qvW qyI dgI
 try dsimp only
 by_cases h:(48:Int)≤c<;>simp [h]
@[simp] theorem qdR (c:Int):qcW c=true:=by simp [qcW,qbJ,qCd]
@[simp] theorem ldigit_v (c:Int):qbJ c=dgI c:=by simp [qbJ,qCd]
theorem qvc (c:Int):qnV c=some (.bool (inI c)):=by
 unfold qnV qoB inI smI grI
 try dsimp only
 by_cases h1:(97:Int)≤c<;>by_cases h2:c≤122<;>by_cases h3:(65:Int)≤c<;>by_cases h4:c≤90<;>by_cases h5:c=95<;>simp [h1,h2,h3,h4,h5]
@[simp] theorem lfollows_is (c:Int):qdB c=true:=by simp [qdB,qdC,qvc]
@[simp] theorem lfollows_v (c:Int):qdC c=inI c:=by simp [qdC,qvc]
theorem qRZ (s:qU) (hs:s.length < 9223372036854775807):∀ (m i:Nat),i+m=s.length→qf9 [.str s,.fn 172 [],.int .i64 (i:Nat)] ⟨[],[],[]⟩=some (.exit 0,[.int .i64 ((i+runL innB (s.drop i):Nat):Int)],⟨[],[],[]⟩):=by
 intro m
 induction m with
 |zero =>
  intro i hi;rw [qRy,List.drop_eq_nil_of_le (by omega)]
  have:¬ (i:Int) < s.length:=by omega
  simp [qsU,runL,this]
 |succ m ih =>
  intro i hi;obtain⟨b,hb⟩:=qfc (l:=s) (i:=i) (by omega)
  have hbe:=(List.getElem?_eq_some_iff.1 hb).2;have w:=qcf (i:=i) (by omega)
  have hlt:i < s.length:=by omega
  have h1:=ih (i+1) (by omega)
  rw [qa3 hb,qRy];cases hc:innB b with
  |true =>
   have e:i+(runL innB (s.drop (i+1))+1)=i+1+runL innB (s.drop (i+1)):=by omega
   simp only [runL,hc,if_true,e];rw [← h1];simp [qsU,hlt,hbe,qr9,hc,w]
  |false=>simp [qsU,hlt,hbe,qr9,hc,runL]
theorem qM3 (s:qU) (hs:s.length < 9223372036854775807):∀ (m i:Nat),i+m=s.length→qf9 [.str s,.fn 173 [],.int .i64 (i:Nat)] ⟨[],[],[]⟩=some (.exit 0,[.int .i64 ((i+runL qaE (s.drop i):Nat):Int)],⟨[],[],[]⟩):=by
 intro m
 induction m with
 |zero =>
  intro i hi;rw [qLZ,List.drop_eq_nil_of_le (by omega)]
  have:¬ (i:Int) < s.length:=by omega
  simp [qlC,runL,this]
 |succ m ih =>
  intro i hi;obtain⟨b,hb⟩:=qfc (l:=s) (i:=i) (by omega)
  have hbe:=(List.getElem?_eq_some_iff.1 hb).2;have w:=qcf (i:=i) (by omega)
  have hlt:i < s.length:=by omega
  have h1:=ih (i+1) (by omega)
  rw [qa3 hb,qLZ];cases hc:qaE b with
  |true =>
   have e:i+(runL qaE (s.drop (i+1))+1)=i+1+runL qaE (s.drop (i+1)):=by omega
   simp only [runL,hc,if_true,e];rw [← h1];simp [qlC,hlt,hbe,qdN,hc,w]
  |false=>simp [qlC,hlt,hbe,qdN,hc,runL]
theorem qLH {s:List UInt8} (hs:s.length < 9223372036854775807):qL6 s=some (.int .i64 (runL innB s:Nat)):=by
 have h:=qRZ s hs s.length 0 (by omega)
 simp at h
 unfold qL6 qJQ
 try dsimp only
 simp [qzY,qFv,qKO,h]
theorem qYv {s:List UInt8} (hs:s.length < 9223372036854775807):qw4 s=true:=by simp [qw4,qsT,qLH hs]
theorem zaaO {s:List UInt8} (hs:s.length < 9223372036854775807):qsT s=(runL innB s:Nat):=by simp [qsT,qLH hs]
theorem qG0 {s:List UInt8} (hs:s.length < 9223372036854775807):qFC s=some (.int .i64 (runL qaE s:Nat)):=by
 have h:=qM3 s hs s.length 0 (by omega)
 simp at h
 unfold qFC qFg
 try dsimp only
 simp [qtI,qxe,qEC,h]
theorem qU1 {s:List UInt8} (hs:s.length < 9223372036854775807):qlI s=true:=by simp [qlI,qc1,qG0 hs]
theorem qV7 {s:List UInt8} (hs:s.length < 9223372036854775807):qc1 s=(runL qaE s:Nat):=by simp [qc1,qG0 hs]
def qOut (i n:Nat):Option (PExit×List PV×Store):=if n=0 then some (.exit 0,[],⟨[],[],[]⟩) else some (.ret,[.int .i64 ((i+n:Nat):Int)],⟨[],[],[]⟩)
theorem qmV (i n:Nat):qOut i (incN n)=qOut (i+1) n:=by
 unfold qOut incN;by_cases h:n=0
 ·simp [h]
 ·simp [h];omega
theorem qGM (s:qU) (hs:s.length < 9223372036854775800):∀ (m i:Nat),s.length≤i+m→i≤s.length+1→qcr [.str s,.int .i64 (i:Nat)] ⟨[],[],[]⟩=qOut i (quoE false (s.drop i)):=by
 have hend:∀ i:Nat,s.length≤i→qcr [.str s,.int .i64 (i:Nat)] ⟨[],[],[]⟩=some (.exit 0,[],⟨[],[],[]⟩):=fun i hi=>by
  rw [qB6];have:¬ (i:Int) < s.length:=by omega
  simp [qep,this]
 intro m
 induction m with
 |zero =>
  intro i hi _;rw [hend i (by omega),List.drop_eq_nil_of_le (by omega)]
  simp [quoE,qOut]
 |succ m ih =>
  intro i hi hi2;by_cases hlt:i < s.length
  ·obtain⟨b,hb⟩:=qfc (l:=s) (i:=i) hlt;have hbe:=(List.getElem?_eq_some_iff.1 hb).2;have w:=qcf (i:=i) (by omega)
   have w2:=qcf (i:=i+1) (by omega)
   have h1:=ih (i+1) (by omega) (by omega)
   rw [qa3 hb,qB6];simp only [quoE];by_cases hq:b.toNat=34
   ·rw [if_pos hq];simp [qep,hlt,hbe,hq,w,qOut]
   ·rw [if_neg hq];have hq':¬ ((b.toNat:Int)=34):=by omega
    by_cases hp:b.toNat=92
    ·rw [if_pos hp,qmV];have e1:qcr [.str s,.int .i64 (iAdd .i64 (iAdd .i64 (i:Int) 1) 1)] ⟨[],[],[]⟩=qOut (i+1) (quoE true (s.drop (i+1))):=by
      rw [w,w2];by_cases hl2:i+1 < s.length
      ·obtain⟨c,hc⟩:=qfc (l:=s) (i:=i+1) hl2;rw [qa3 hc];simp only [quoE];rw [qmV];exact ih (i+1+1) (by omega) (by omega)
      ·rw [hend (i+1+1) (by omega),List.drop_eq_nil_of_le (by omega)]
       simp [quoE,qOut]
     rw [← e1];have t1:iLt (i:Int) (sLen s)=true:=by simp;omega
     have t2:qaF s (i:Int)=true:=by simp;omega
     have t3:sAt s (i:Int)=92:=by simp [hbe,hlt,hp]
     simp only [qep,t1,t2,t3];simp
    ·have hp':¬ ((b.toNat:Int)=92):=by omega
     rw [if_neg hp,qmV,← h1,← w];have t1:iLt (i:Int) (sLen s)=true:=by simp;omega
     have t2:qaF s (i:Int)=true:=by simp;omega
     have t3:sAt s (i:Int)=b.toNat:=by simp [hbe,hlt]
     simp only [qep,t1,t2,t3];simp [hq',hp']
  ·rw [hend i (by omega),List.drop_eq_nil_of_le (by omega)]
   simp [quoE,qOut]
theorem qyk {c:UInt8} {t:List UInt8} (hs:(c::t).length < 9223372036854775800):qs0 (c::t)=some (.int .i64 (if quoL t=0 then 0 else ((quoL t+1:Nat):Int))):=by
 have h:=qGM (c::t) hs t.length 1 (by simp;omega) (by simp)
 simp only [List.drop_succ_cons,List.drop_zero] at h
 unfold qs0 qtZ
 try dsimp only
 unfold qOut at h
 rw [show quoE false t=quoL t from rfl] at h
 by_cases h0:quoL t=0
 ·rw [if_pos h0] at h ⊢;have h':qcr [.str (c::t),.int .i64 1] ⟨[],[],[]⟩=some (.exit 0,[],⟨[],[],[]⟩):=h;simp [qg5,qgR,qeX,qiH,h']
 ·rw [if_neg h0] at h ⊢;have h':qcr [.str (c::t),.int .i64 1] ⟨[],[],[]⟩=some (.ret,[.int .i64 ((1+quoL t:Nat):Int)],⟨[],[],[]⟩):=h;simp [qg5,qgR,qeX,qiH,h'];omega
theorem qSK:∀ t:qU,(Lib.indexByte t 10=-1∧gapL true t=t.length)∨∃ n:Nat,Lib.indexByte t 10=n∧n < t.length∧gapL true t=n+gapL false (t.drop n)
 |[]=>.inl ⟨rfl,rfl⟩
 |b::u=>by
  by_cases hb:b=10
  ·subst hb;refine .inr ⟨0,rfl,by simp,?_⟩
   simp [gapL,blB]
  ·have hb':(b == 10)=false:=by simpa using hb
   have hbn:b.toNat≠10:=fun h=>hb (UInt8.toNat.inj h)
   have e1:gapL true (b::u)=gapL true u+1:=by simp [gapL,hbn]
   rcases qSK u with⟨h1,h2⟩|⟨n,h1,h2,h3⟩
   ·refine .inl ⟨?_,by rw [e1,h2];rfl⟩
    simp [Lib.indexByte,hb',h1]
   ·refine .inr ⟨n+1,?_,by simpa using h2,?_⟩
    ·have:((n:Int) == -1)=false:=by simp
     simp [Lib.indexByte,hb',h1,this]
    ·rw [e1,h3];simp only [List.drop_succ_cons];omega
theorem qPA {b:UInt8} (h:blB b=true) (t:qU):gapL false (b::t)=gapL false t+1:=by
 have:b.toNat≠37:=by
  intro e;simp [blB,e] at h
 simp [gapL,h,this]
theorem qPY (s:qU) (hs:s.length < 9223372036854775800):∀ (m i:Nat),i+m=s.length→∃ e,(e=PExit.ret∨e=.exit 0)∧qoW [.str s,.int .i64 (i:Nat)] ⟨[],[],[]⟩=some (e,[.int .i64 ((i+gapL false (s.drop i):Nat):Int)],⟨[],[],[]⟩):=by
 intro m
 induction m using Nat.strongRecOn with
 |_ m ih =>
  intro i hi;by_cases hlt:i < s.length
  ·obtain⟨b,hb⟩:=qfc (l:=s) (i:=i) hlt;have hbe:=(List.getElem?_eq_some_iff.1 hb).2;have w:=qcf (i:=i) (by omega)
   rw [qa3 hb,qSq];by_cases hbl:blB b=true
   ·obtain⟨e,he,hv⟩:=ih (m - 1) (by omega) (i+1) (by omega)
    refine⟨e,he,?_⟩;rw [qPA hbl];have hv':qoW [.str s,.int .i64 (iAdd .i64 (i:Int) 1)] ⟨[],[],[]⟩=some (e,[.int .i64 ((i+(gapL false (s.drop (i+1))+1):Nat):Int)],⟨[],[],[]⟩):=by
     rw [w,hv,show i+1+gapL false (s.drop (i+1))=i+(gapL false (s.drop (i+1))+1) from by omega]
    rw [← hv'];have hbl2:b.toNat=32∨b.toNat=9∨b.toNat=10∨b.toNat=13:=by simpa [blB,or_assoc] using hbl
    rcases hbl2 with h|h|h|h<;>simp [qjZ,hlt,hbe,h]
   ·have hbl2:¬ (b.toNat=32∨b.toNat=9∨b.toNat=10∨b.toNat=13):=by simpa [blB,or_assoc] using hbl
    have n1:¬ ((b.toNat:Int)=32):=by omega
    have n2:¬ ((b.toNat:Int)=9):=by omega
    have n3:¬ ((b.toNat:Int)=10):=by omega
    have n4:¬ ((b.toNat:Int)=13):=by omega
    by_cases h37:b.toNat=37
    ·have e1:gapL false (b::s.drop (i+1))=gapL true (s.drop (i+1))+1:=by simp [gapL,h37]
     have e2:sSub s (nNat (i:Int)) (nLen s)=b::s.drop (i+1):=by
      simp only [qFI,qC0,qO7,Int.toNat_natCast,List.take_length];exact qa3 hb
     have hb10:(b == 10)=false:=by
      cases hq:b == 10 with
      |false=>rfl
      |true=>simp at hq;subst hq;simp at h37
     have e3:idxV (b::s.drop (i+1)) 10=if Lib.indexByte (s.drop (i+1)) 10 == -1 then -1 else Lib.indexByte (s.drop (i+1)) 10+1:=by
      show Lib.indexByte (b::s.drop (i+1)) 10=_
      simp only [Lib.indexByte,hb10,Bool.false_eq_true,if_false]
     rw [e1];rcases qSK (s.drop (i+1)) with⟨h1,h2⟩|⟨n,h1,h2,h3⟩
     ·refine⟨.ret,.inl rfl,?_⟩;have e4:idxV (b::s.drop (i+1)) 10=-1:=by rw [e3,h1];rfl
      have e5:i+(gapL true (s.drop (i+1))+1)=s.length:=by rw [h2];simp;omega
      rw [e5];have t1:iLt (i:Int) (sLen s)=true:=by simp;omega
      have t2:qaF s (i:Int)=true:=by simp;omega
      have t3:sAt s (i:Int)=37:=by simp [hbe,hlt,h37]
      have t4:qbk (qax (i:Int)) true (nNat (i:Int)) (nLen s) (nLen s)=true:=by simp;omega
      simp only [qjZ,e2,e4,t1,t2,t3,t4];simp
     ·have e4:idxV (b::s.drop (i+1)) 10=((n+1:Nat):Int):=by
       rw [e3,h1];have:((n:Int) == -1)=false:=by simp
       rw [this];simp
      have hn:n < s.length - (i+1):=by simpa using h2
      obtain⟨e,he,hv⟩:=ih (m - (n+1)) (by omega) (i+(n+1)) (by omega)
      refine⟨e,he,?_⟩;have w2:iAdd .i64 (i:Int) ((n+1:Nat):Int)=((i+(n+1):Nat):Int):=qaP (by omega)
      have e6:i+(n+1)+gapL false (s.drop (i+(n+1)))=i+(gapL true (s.drop (i+1))+1):=by
       rw [h3,List.drop_drop,show i+1+n=i+(n+1) from by omega]
       omega
      rw [e6] at hv;have hge:¬ ((n+1:Nat):Int) < 0:=by omega
      have t1:iLt (i:Int) (sLen s)=true:=by simp;omega
      have t2:qaF s (i:Int)=true:=by simp;omega
      have t3:sAt s (i:Int)=37:=by simp [hbe,hlt,h37]
      have t5:iLt ((n+1:Nat):Int) 0=false:=by simp;omega
      have t4:qbk (qax (i:Int)) true (nNat (i:Int)) (nLen s) (nLen s)=true:=by simp;omega
      simp only [qjZ,e2,e4,w2,t1,t2,t3,t4,t5];simpa using hv
    ·refine⟨.ret,.inl rfl,?_⟩;have n5:¬ ((b.toNat:Int)=37):=by omega
     have e1:gapL false (b::s.drop (i+1))=0:=by
      have:blB b=false:=by simpa using hbl
      simp [gapL,this,h37]
     rw [e1];simp [qjZ,hlt,hbe,n1,n2,n3,n4,n5]
  ·refine⟨.exit 0,.inr rfl,?_⟩;rw [qSq,List.drop_eq_nil_of_le (by omega)]
   have:¬ (i:Int) < s.length:=by omega
   simp [qjZ,gapL,this]
theorem qMs {s:List UInt8} (hs:s.length < 9223372036854775800):qL2 s=some (.int .i64 (gapL false s:Nat)):=by
 obtain⟨e,he,h⟩:=qPY s hs s.length 0 (by omega)
 simp at h
 unfold qL2 qLg
 try dsimp only
 rcases he with rfl|rfl<;>simp [qAb,qzN,qrV,qkH,qzv,h]
theorem qQ9 {s:List UInt8} (hs:s.length < 9223372036854775800):qjt s=true:=by simp [qjt,qlA,qMs hs]
theorem qVH {s:List UInt8} (hs:s.length < 9223372036854775800):qlA s=(gapL false s:Nat):=by simp [qlA,qMs hs]
theorem qGZ {s:List UInt8} (hs:s.length < 9223372036854775807) (k:Int):qhy s k=some (.tup [.agg [.int .i64 k,.str (s.take (runL innB s)),.int .i64 0,.int .i64 0,.str [],.int .i64 0],.bool (decide (runL innB s≤64))]):=by
 unfold qhy qFD
 try dsimp only
 have h:=qpw innB s;have e:iLe (runL innB s:Nat) 64=decide (runL innB s≤64):=by simp;omega
 rw [zaaO hs,qYv hs,e];have t:qbk true (qax ((runL innB s:Nat):Int)) 0 (nNat ((runL innB s:Nat):Int)) (nLen s)=true:=by simp;omega
 rw [t];simp
theorem qMi {s:List UInt8} (hs:s.length < 9223372036854775807) (k:Int):ql3 s k=true:=by simp [ql3,qp1,qoR,qjz,qjX,qj8,qkc,qpI,qGZ hs]
def wTup (k:Int) (x:qU) (v:Vl) (p:Int) (b:Bool):PV:=.tup [.agg [.int .i64 k,.str x,.int .i64 v.1,.int .i64 v.2.1,.str v.2.2,.int .i64 p],.bool b]
theorem qP1 {s:List UInt8} (hs:s.length < 9223372036854775807) (k:Int):(PV.tup [.agg [.int .i64 (qp1 s k),.str (qoR s k),.int .i64 (qjz s k),.int .i64 (qjX s k),.str (qj8 s k),.int .i64 (qkc s k)],.bool (qpI s k)])=wTup k (s.take (runL innB s)) (0,0,[]) 0 (decide (runL innB s≤64)):=by
 simp [wTup,qp1,qoR,qjz,qjX,qj8,qkc,qpI,qGZ hs]
theorem qzS {s:List UInt8} (hs:s.length≤140737488355328) (k:Int):qde s k=some (wTup k s (kRd s,nRd s,sRd s) 0 (decide (eRd s=0))):=by
 unfold qde quk wTup
 try dsimp only
 simp [hs]
theorem qug {s:List UInt8} (hs:s.length≤140737488355328) (k:Int):qev s k=true:=by simp [qev,qdO,qd0,qcT,qcP,qcN,qcK,qd1,qzS hs,wTup]
theorem qIn {s:List UInt8} (hs:s.length≤140737488355328) (k:Int):(PV.tup [.agg [.int .i64 (qdO s k),.str (qd0 s k),.int .i64 (qcT s k),.int .i64 (qcP s k),.str (qcN s k),.int .i64 (qcK s k)],.bool (qd1 s k)])=wTup k s (kRd s,nRd s,sRd s) 0 (decide (eRd s=0)):=by
 simp [wTup,qdO,qd0,qcT,qcP,qcN,qcK,qd1,qzS hs]
theorem qPT (c:UInt8) (t:qU) (a b:UInt8):qdP (c::t) [a,b]=(decide (c=a)&&hdIs (fun d=>decide (d=b)) t):=by
 unfold qdP;cases t with
 |nil=>simp [hdIs]
 |cons d u=>simp [hdIs,Bool.decide_and]
def wst:Store:=⟨[[.int .i64 0,.str [],.int .i64 0,.int .i64 0,.str [],.int .i64 0]],[],[44]⟩
theorem zaau (c:UInt8) (t:qU):hdIs (twoB c) t=(qdP (c::t) [58,45] || qdP (c::t) [60,61] || qdP (c::t) [62,61] || qdP (c::t) [33,61]):=by
 simp only [qPT];cases t with
 |nil=>simp [hdIs]
 |cons d u =>
  simp only [hdIs,twoB];simp only [← UInt8.toNat_inj];simp [Bool.decide_and]
theorem qnU {s p:List UInt8} (h:qdP s p=true) (hp:p.length=2):s.take 2=p:=by
 simp [qdP] at h
 rw [← hp];exact h.2
theorem qIZ (c:UInt8) (t:qU) (n:Int):qns [.str (c::t),.ptr 0 0,.int .u8 n,.agg [.str [58,45],.str [60,61],.str [62,61],.str [33,61]],.int .i64 0] wst =
  if hdIs (twoB c) t then some (.ret,[.ptr 0 0,.bool true],⟨[[.int .i64 6,.str ((c::t).take 2),.int .i64 0,.int .i64 0,.str [],.int .i64 0]],[],[44]⟩)
  else some (.exit 1,[.str (c::t),.ptr 0 0,.int .u8 n],wst):=by
 have i1:iAdd .i64 0 1=1:=by decide
 have i2:iAdd .i64 1 1=2:=by decide
 have i3:iAdd .i64 2 1=3:=by decide
 have i4:iAdd .i64 3 1=4:=by decide
 unfold wst;rw [zaau];rw [qrS];cases h1:qdP (c::t) [58,45] with
 |true=>have q:=qnU h1 rfl;simp [qbA,h1];simpa using q.symm
 |false =>
  have e1:(qbA (c::t) n [58,45] [60,61] [62,61] [33,61] 0 0 [] 0 0 [] 0).run=some (.next [.str (c::t),.ptr 0 0,.int .u8 n,.agg [.str [58,45],.str [60,61],.str [62,61],.str [33,61]],.int .i64 1] ⟨[[.int .i64 0,.str [],.int .i64 0,.int .i64 0,.str [],.int .i64 0]],[],[44]⟩):=by simp [qbA,h1,i1]
  rw [e1,qmT,qrS];cases h2:qdP (c::t) [60,61] with
  |true=>have q:=qnU h2 rfl;simp [qbA,h2];simpa using q.symm
  |false =>
   have e2:(qbA (c::t) n [58,45] [60,61] [62,61] [33,61] 1 0 [] 0 0 [] 0).run=some (.next [.str (c::t),.ptr 0 0,.int .u8 n,.agg [.str [58,45],.str [60,61],.str [62,61],.str [33,61]],.int .i64 2] ⟨[[.int .i64 0,.str [],.int .i64 0,.int .i64 0,.str [],.int .i64 0]],[],[44]⟩):=by simp [qbA,h2,i2]
   rw [e2,qmT,qrS];cases h3:qdP (c::t) [62,61] with
   |true=>have q:=qnU h3 rfl;simp [qbA,h3];simpa using q.symm
   |false =>
    have e3:(qbA (c::t) n [58,45] [60,61] [62,61] [33,61] 2 0 [] 0 0 [] 0).run=some (.next [.str (c::t),.ptr 0 0,.int .u8 n,.agg [.str [58,45],.str [60,61],.str [62,61],.str [33,61]],.int .i64 3] ⟨[[.int .i64 0,.str [],.int .i64 0,.int .i64 0,.str [],.int .i64 0]],[],[44]⟩):=by simp [qbA,h3,i3]
    rw [e3,qmT,qrS];cases h4:qdP (c::t) [33,61] with
    |true=>have q:=qnU h4 rfl;simp [qbA,h4];simpa using q.symm
    |false =>
     have e4:(qbA (c::t) n [58,45] [60,61] [62,61] [33,61] 3 0 [] 0 0 [] 0).run=some (.next [.str (c::t),.ptr 0 0,.int .u8 n,.agg [.str [58,45],.str [60,61],.str [62,61],.str [33,61]],.int .i64 4] ⟨[[.int .i64 0,.str [],.int .i64 0,.int .i64 0,.str [],.int .i64 0]],[],[44]⟩):=by simp [qbA,h4,i4]
     rw [e4,qmT,qrS];simp [qbA]
theorem qPb (c:UInt8):∀ l:qU,0≤Lib.indexByte l c↔c∈l
 |[]=>by simp [Lib.indexByte]
 |b::l=>by
  have h1:=qPb c l;have h2:=Lib.indexByte_ge l c;unfold Lib.indexByte;by_cases hb:b=c
  ·subst hb;simp
  ·have hb':(b == c)=false:=by simpa using hb
   have hc:¬ c=b:=fun e=>hb e.symm
   rw [hb'];by_cases h3:Lib.indexByte l c=-1
   ·have:¬ c∈l:=fun hm=>by have:=h1.2 hm;omega
    simp [h3,hc,this]
   ·have:c∈l:=h1.1 (by omega)
    simp [h3,this];omega
theorem qTe (c:UInt8):iLe 0 (idxV [40,41,44,46,43,45,61,58,60,62] (c.toNat:Int))=qob c:=by
 have e:idxV [40,41,44,46,43,45,61,58,60,62] (c.toNat:Int)=Lib.indexByte [40,41,44,46,43,45,61,58,60,62] c:=by
  unfold idxV
  congr 1
  simp
 rw [qOJ];have h:=qPb c [40,41,44,46,43,45,61,58,60,62];have h':decide (0≤Lib.indexByte [40,41,44,46,43,45,61,58,60,62] c)=decide (c∈[40,41,44,46,43,45,61,58,60,62]):=decide_eq_decide.2 h;rw [e,h'];simp only [List.mem_cons,List.not_mem_nil,or_false,← UInt8.toNat_inj,qob,List.contains,List.elem_eq_mem];simp
theorem qKE {c:UInt8} {t:List UInt8} (hs:(c::t).length≤140737488355328) (h:qgf c=true):qbq (c::t)=some (wTup 1 ((c::t).take (runL innB (c::t))) (0,0,[]) 0 (decide (runL innB (c::t)≤64))):=by
 have hs':(c::t).length < 9223372036854775807:=by omega
 have h1:97≤c.toNat∧c.toNat≤122:=by simpa [qgf] using h
 have g1:(97:Int)≤c.toNat:=by omega
 have g2:(c.toNat:Int)≤122:=by omega
 rw [← qP1 hs'];unfold qbq qfs
 try dsimp only
 cases t<;>simp [g1,g2,qMi hs']
theorem qJk {c:UInt8} {t:List UInt8} (hs:(c::t).length≤140737488355328) (h:qmd c=true):qbq (c::t)=some (wTup 2 ((c::t).take (runL innB (c::t))) (0,0,[]) 0 (decide (runL innB (c::t)≤64))):=by
 have hs':(c::t).length < 9223372036854775807:=by omega
 have h1:65≤c.toNat∧c.toNat≤90:=by simpa [qmd] using h
 have g1:¬ (97:Int)≤c.toNat:=by omega
 have g2:(65:Int)≤c.toNat:=by omega
 have g3:(c.toNat:Int)≤90:=by omega
 rw [← qP1 hs'];unfold qbq qfs
 try dsimp only
 cases t<;>simp [g1,g2,g3,qMi hs']
theorem qSG {c:UInt8} {t:List UInt8} (hs:(c::t).length≤140737488355328) (h:c.toNat=95):qbq (c::t)=some (wTup 3 [95] (0,0,[]) 0 (!hdIs innB t)):=by
 unfold qbq qfs
 try dsimp only
 cases t with
 |nil =>
  have e:inI 0=false:=by decide
  simp [h,hdIs,wTup,e]
 |cons d u =>
  have g:iLt 1 (sLen (c::d::u))=true:=by simp;omega
  rw [g];simp [h,hdIs,qr9,wTup]
def dgW (s:qU):PV:=wTup 4 (s.take (runL qaE (s.drop 1)+1)) (kRd (s.take (runL qaE (s.drop 1)+1)),nRd (s.take (runL qaE (s.drop 1)+1)),sRd (s.take (runL qaE (s.drop 1)+1))) 0 (decide (eRd (s.take (runL qaE (s.drop 1)+1))=0))
theorem qQO {c : UInt8} {t : List UInt8} (hs : (c :: t).length ≤ 140737488355328) : (Tr.ite (qbk (qax 1) true (nNat 1) (nLen (c :: t)) (nLen (c :: t)))
          (Tr.ite (qlI (sSub (c :: t) (nNat 1) (nLen (c :: t))))
            (Tr.ite (qbk true (qax (iAdd .i64 1 (qc1 (sSub (c :: t) (nNat 1) (nLen (c :: t)))))) 0 (nNat (iAdd .i64 1 (qc1 (sSub (c :: t) (nNat 1) (nLen (c :: t)))))) (nLen (c :: t)))
              (Tr.ite (qev (sSub (c :: t) 0 (nNat (iAdd .i64 1 (qc1 (sSub (c :: t) (nNat 1) (nLen (c :: t))))))) 4)
                (Tr.ret (PV.tup [PV.agg [PV.int .i64 (qdO (sSub (c :: t) 0 (nNat (iAdd .i64 1 (qc1 (sSub (c :: t) (nNat 1) (nLen (c :: t))))))) 4), PV.str (qd0 (sSub (c :: t) 0 (nNat (iAdd .i64 1 (qc1 (sSub (c :: t) (nNat 1) (nLen (c :: t))))))) 4), PV.int .i64 (qcT (sSub (c :: t) 0 (nNat (iAdd .i64 1 (qc1 (sSub (c :: t) (nNat 1) (nLen (c :: t))))))) 4), PV.int .i64 (qcP (sSub (c :: t) 0 (nNat (iAdd .i64 1 (qc1 (sSub (c :: t) (nNat 1) (nLen (c :: t))))))) 4), PV.str (qcN (sSub (c :: t) 0 (nNat (iAdd .i64 1 (qc1 (sSub (c :: t) (nNat 1) (nLen (c :: t))))))) 4), PV.int .i64 (qcK (sSub (c :: t) 0 (nNat (iAdd .i64 1 (qc1 (sSub (c :: t) (nNat 1) (nLen (c :: t))))))) 4)], PV.bool (qd1 (sSub (c :: t) 0 (nNat (iAdd .i64 1 (qc1 (sSub (c :: t) (nNat 1) (nLen (c :: t))))))) 4)]))
                Tr.fail) Tr.fail) Tr.fail) Tr.fail).run = some (dgW (c :: t)) := by
  have e0 : sSub (c :: t) (nNat 1) (nLen (c :: t)) = t := by simp
  have hl : t.length + 1 ≤ 140737488355328 := by simpa using hs
  have hr := qpw qaE t
  rw [e0, qU1 (by omega), qV7 (by omega)]
  have e1 : iAdd .i64 1 ((runL qaE t : Nat) : Int) = ((runL qaE t + 1 : Nat) : Int) := by
    have : iAdd .i64 1 ((runL qaE t : Nat) : Int) = (1 : Int) + (runL qaE t : Nat) := qaP (by omega)
    rw [this]; omega
  rw [e1]
  have e2 : sSub (c :: t) 0 (nNat ((runL qaE t + 1 : Nat) : Int)) = (c :: t).take (runL qaE t + 1) := by simp [-List.take_succ_cons]
  rw [e2]
  have hl2 : ((c :: t).take (runL qaE t + 1)).length ≤ 140737488355328 := by rw [List.length_take]; omega
  have t1 : qbk (qax 1) true (nNat 1) (nLen (c :: t)) (nLen (c :: t)) = true := by simp
  have t2 : qbk true (qax ((runL qaE t + 1 : Nat) : Int)) 0 (nNat ((runL qaE t + 1 : Nat) : Int)) (nLen (c :: t)) = true := by simp; omega
  rw [t1, t2, qug hl2, qIn hl2]
  rfl
theorem qUw {c:UInt8} {t:List UInt8} (hs:(c::t).length≤140737488355328) (h:qaE c=true):qbq (c::t)=some (dgW (c::t)):=by
 have h1:48≤c.toNat∧c.toNat≤57:=by simpa [qaE] using h
 have f0:qaF (c::t) 0=true:=by simp
 have f1:iLe 97 (sAt (c::t) 0)=false:=by simp;omega
 have f3:iLe 65 (sAt (c::t) 0)=false:=by simp;omega
 have f5:iEq (sAt (c::t) 0) 95=false:=by simp;omega
 have f6:qbJ (sAt (c::t) 0)=true:=by simp [qdN,h]
 rw [← qQO hs];unfold qbq qfs
 try dsimp only
 cases t with
 |nil =>
  have g:iLt 1 (sLen [c])=false:=by simp
  rw [f0,g,f1,f3,f5,f6,qdR];rfl
 |cons d u =>
  have g:iLt 1 (sLen (c::d::u))=true:=by simp;omega
  have g2:qaF (c::d::u) 1=true:=by simp
  rw [f0,g,g2,f1,f3,f5,f6,qdR];rfl
theorem qP4 {c d:UInt8} {u:List UInt8} (hs:(c::d::u).length≤140737488355328) (h:c.toNat=45) (hd:qaE d=true):qbq (c::d::u)=some (dgW (c::d::u)):=by
 have f0:qaF (c::d::u) 0=true:=by simp
 have f1:iLe 97 (sAt (c::d::u) 0)=false:=by simp;omega
 have f3:iLe 65 (sAt (c::d::u) 0)=false:=by simp;omega
 have f5:iEq (sAt (c::d::u) 0) 95=false:=by simp;omega
 have f6:qbJ (sAt (c::d::u) 0)=false:=by simp [dgI,h]
 have f7:iEq (sAt (c::d::u) 0) 45=true:=by simp;omega
 have f8:qbJ (sAt (c::d::u) 1)=true:=by simp [qdN,hd]
 rw [← qQO hs];unfold qbq qfs
 try dsimp only
 have g:iLt 1 (sLen (c::d::u))=true:=by simp;omega
 have g2:qaF (c::d::u) 1=true:=by simp
 rw [f0,g,g2,f1,f3,f5,f6,f7,f8,qdR,qdR];rfl
def symN (t:qU):Nat:=if quoL t=0 then 0 else quoL t+1
def syW (s:qU) (n:Nat):PV:=wTup 5 (s.take n) (kRd (s.take n),nRd (s.take n),sRd (s.take n)) 0 (decide (eRd (s.take n)=0))
theorem qQL {c:UInt8} {t:List UInt8} (hs:(c::t).length≤140737488355328) (h:c.toNat=34):qbq (c::t)=some (syW (c::t) (symN t)):=by
 have hq:qgl (c::t)=((symN t:Nat):Int):=by
  simp only [qgl,qyk (c:=c) (t:=t) (by omega),qPX,qTL,symN]
  split<;>simp
 have hqi:qjn (c::t)=true:=by
  simp only [qjn,qTt,qyk (c:=c) (t:=t) (by omega),hq,symN]
  split<;>simp
 have hle:symN t≤(c::t).length:=by
  have:=qKF t;unfold symN;split<;>simp<;>omega
 have hl2:((c::t).take (symN t)).length≤140737488355328:=by rw [List.length_take];omega
 have f0:qaF (c::t) 0=true:=by simp
 have f1:iLe 97 (sAt (c::t) 0)=false:=by simp;omega
 have f3:iLe 65 (sAt (c::t) 0)=false:=by simp;omega
 have f5:iEq (sAt (c::t) 0) 95=false:=by simp;omega
 have f6:qbJ (sAt (c::t) 0)=false:=by simp [dgI,h]
 have f7:iEq (sAt (c::t) 0) 45=false:=by simp;omega
 have f9:iEq (sAt (c::t) 0) 34=true:=by simp;omega
 have e2:sSub (c::t) 0 (nNat ((symN t:Nat):Int))=(c::t).take (symN t):=by simp
 have t2:qbk true (qax ((symN t:Nat):Int)) 0 (nNat ((symN t:Nat):Int)) (nLen (c::t))=true:=by simp at hle ⊢;omega
 have leaf:(PV.tup [PV.agg [PV.int .i64 (qdO ((c::t).take (symN t)) 5),PV.str (qd0 ((c::t).take (symN t)) 5),PV.int .i64 (qcT ((c::t).take (symN t)) 5),PV.int .i64 (qcP ((c::t).take (symN t)) 5),PV.str (qcN ((c::t).take (symN t)) 5),PV.int .i64 (qcK ((c::t).take (symN t)) 5)],PV.bool (qd1 ((c::t).take (symN t)) 5)])=syW (c::t) (symN t):=by rw [qIn hl2];rfl
 rw [← leaf];unfold qbq qfs
 try dsimp only
 cases t with
 |nil =>
  have g:iLt 1 (sLen [c])=false:=by simp
  rw [f0,g,f1,f3,f5,f6,f7,f9,qdR,hqi,hq,t2,e2,qug hl2];rfl
 |cons d u =>
  have g:iLt 1 (sLen (c::d::u))=true:=by simp;omega
  have g2:qaF (c::d::u) 1=true:=by simp
  rw [f0,g,g2,f1,f3,f5,f6,f7,f9,qdR,hqi,hq,t2,e2,qug hl2];rfl
def mkW (c:UInt8) (t:qU):PV:=if hdIs (twoB c) t then wTup 6 ((c::t).take 2) (0,0,[]) 0 true else wTup 6 [c] (0,0,[]) 0 (qob c)
def mkT (v:qU):Tr PV:=(Tr.ite (qdE v (sAt v 0) [58,45] [60,61] [62,61] [33,61] 0 0 [] 0 0 [] 0)
 (Tr.ret (PV.tup [PV.agg [PV.int .i64 (qfy v (sAt v 0) [58,45] [60,61] [62,61] [33,61] 0 0 [] 0 0 [] 0),PV.str (qfL v (sAt v 0) [58,45] [60,61] [62,61] [33,61] 0 0 [] 0 0 [] 0),PV.int .i64 (qek v (sAt v 0) [58,45] [60,61] [62,61] [33,61] 0 0 [] 0 0 [] 0),PV.int .i64 (qef v (sAt v 0) [58,45] [60,61] [62,61] [33,61] 0 0 [] 0 0 [] 0),PV.str (qec v (sAt v 0) [58,45] [60,61] [62,61] [33,61] 0 0 [] 0 0 [] 0),PV.int .i64 (qej v (sAt v 0) [58,45] [60,61] [62,61] [33,61] 0 0 [] 0 0 [] 0)],PV.bool (qfB v (sAt v 0) [58,45] [60,61] [62,61] [33,61] 0 0 [] 0 0 [] 0)]))
 (Tr.ite (qiQ v (sAt v 0) [58,45] [60,61] [62,61] [33,61] 0 0 [] 0 0 [] 0)
  (Tr.ite (qbk true (qax 1) 0 (nNat 1) (nLen (qdF v (sAt v 0) [58,45] [60,61] [62,61] [33,61] 0 0 [] 0 0 [] 0)))
   (Tr.ret (PV.tup [PV.agg [PV.int .i64 6,PV.str (sSub (qdF v (sAt v 0) [58,45] [60,61] [62,61] [33,61] 0 0 [] 0 0 [] 0) 0 (nNat 1)),PV.int .i64 0,PV.int .i64 0,PV.str [],PV.int .i64 0],PV.bool (iLe 0 (idxV [40,41,44,46,43,45,61,58,60,62] (qeh v (sAt v 0) [58,45] [60,61] [62,61] [33,61] 0 0 [] 0 0 [] 0)))]))
   Tr.fail)
  Tr.fail))
theorem qXn (c:UInt8) (t:qU):(mkT (c::t)).run=some (mkW c t):=by
 have hL:=qIZ c t (sAt (c::t) 0);unfold wst at hL;have e2:sSub (c::t) 0 (nNat 1)=[c]:=by simp
 have t2:qbk true (qax 1) 0 (nNat 1) (nLen (c::t))=true:=by simp
 have e3:sAt (c::t) 0=(c.toNat:Int):=by simp
 have ho:=qTe c;unfold mkT mkW;cases h:hdIs (twoB c) t with
 |true =>
  rw [h] at hL;simp only [if_true] at hL ⊢;have a1:qdE (c::t) (sAt (c::t) 0) [58,45] [60,61] [62,61] [33,61] 0 0 [] 0 0 [] 0=true:=by
   simp only [qdE,qfy,qfL,qek,qef,qec,qej,qfB,qbd,hL];simp
  rw [a1];simp only [qfy,qfL,qek,qef,qec,qej,qfB,qbd,hL];simp [wTup]
 |false =>
  rw [h] at hL;simp only [Bool.false_eq_true,if_false] at hL ⊢;have a0:qdE (c::t) (sAt (c::t) 0) [58,45] [60,61] [62,61] [33,61] 0 0 [] 0 0 [] 0=false:=by
   cases hq:qdE (c::t) (sAt (c::t) 0) [58,45] [60,61] [62,61] [33,61] 0 0 [] 0 0 [] 0 with
   |false=>rfl
   |true =>
    simp only [qdE,qbd,hL] at hq;simp at hq
  have a1:qiQ (c::t) (sAt (c::t) 0) [58,45] [60,61] [62,61] [33,61] 0 0 [] 0 0 [] 0=true:=by
   simp only [qiQ,qdF,qeh,qpG,qoH,qpJ,qpC,qoF,qpD,qbd,hL];simp
  have a2:qdF (c::t) (sAt (c::t) 0) [58,45] [60,61] [62,61] [33,61] 0 0 [] 0 0 [] 0=c::t:=by
   simp only [qdF,qbd,hL];simp
  have a3:qeh (c::t) (sAt (c::t) 0) [58,45] [60,61] [62,61] [33,61] 0 0 [] 0 0 [] 0=(c.toNat:Int):=by
   simp only [qeh,qbd,hL];simp
  rw [a0,a1,a2,a3,t2,e2,ho];rfl
theorem qNs {c:UInt8} {t:List UInt8} (hs:(c::t).length≤140737488355328) (h1:qgf c=false) (h2:qmd c=false) (h3:c.toNat≠95) (h4:qaE c=false) (h5:c.toNat=45→hdIs qaE t=false) (h6:c.toNat≠34):qbq (c::t)=some (mkW c t):=by
 have f0:qaF (c::t) 0=true:=by simp
 have f5:iEq (sAt (c::t) 0) 95=false:=by simp;omega
 have f6:qbJ (sAt (c::t) 0)=false:=by simp [qdN,h4]
 have f9:iEq (sAt (c::t) 0) 34=false:=by simp;omega
 have g1:¬ (97≤c.toNat∧c.toNat≤122):=by simpa [qgf] using h1
 have g2:¬ (65≤c.toNat∧c.toNat≤90):=by simpa [qmd] using h2
 rw [← qXn];unfold qbq qfs
 try dsimp only
 have f8:c.toNat=45→qbJ (if iLt 1 (sLen (c::t))=true then sAt (c::t) 1 else 0)=false:=fun h=>by
  have:=h5 h;cases t with
  |nil=>simp [dgI]
  |cons d u =>
   have g:iLt 1 (sLen (c::d::u))=true:=by simp;omega
   rw [if_pos g];simpa [qdN,hdIs] using this
 have e97:iLe 97 (sAt (c::t) 0)=decide (97≤c.toNat):=by simp;omega
 have e122:iLe (sAt (c::t) 0) 122=decide (c.toNat≤122):=by simp;omega
 have e65:iLe 65 (sAt (c::t) 0)=decide (65≤c.toNat):=by simp;omega
 have e90:iLe (sAt (c::t) 0) 90=decide (c.toNat≤90):=by simp;omega
 have e45:iEq (sAt (c::t) 0) 45=decide (c.toNat=45):=by simp;omega
 rw [f0,e97,e122,e65,e90,e45,f5,f6,f9,qdR];have key:∀ b:Bool,iLt 1 (sLen (c::t))=b→(b=true→qaF (c::t) 1=true)→True:=fun _ _ _=>trivial
 by_cases k1:97≤c.toNat
 ·have k2:¬ c.toNat≤122:=fun h=>g1 ⟨k1,h⟩
  have k3:65≤c.toNat:=by omega
  have k4:¬ c.toNat≤90:=by omega
  have k5:¬ c.toNat=45:=by omega
  rw [decide_eq_true k1,decide_eq_false k2,decide_eq_true k3,decide_eq_false k4,decide_eq_false k5];cases t with
  |nil =>
   have g:iLt 1 (sLen [c])=false:=by simp
   rw [g];rfl
  |cons d u =>
   have g:iLt 1 (sLen (c::d::u))=true:=by simp;omega
   have g2:qaF (c::d::u) 1=true:=by simp
   rw [g,g2];rfl
 ·by_cases k3:65≤c.toNat
  ·have k4:¬ c.toNat≤90:=fun h=>g2 ⟨k3,h⟩
   have k5:¬ c.toNat=45:=by omega
   rw [decide_eq_false k1,decide_eq_true k3,decide_eq_false k4,decide_eq_false k5];cases t with
   |nil =>
    have g:iLt 1 (sLen [c])=false:=by simp
    rw [g];rfl
   |cons d u =>
    have g:iLt 1 (sLen (c::d::u))=true:=by simp;omega
    have g2:qaF (c::d::u) 1=true:=by simp
    rw [g,g2];rfl
  ·by_cases k5:c.toNat=45
   ·rw [decide_eq_false k1,decide_eq_false k3,decide_eq_true k5];cases t with
    |nil =>
     have g:iLt 1 (sLen [c])=false:=by simp
     have f8':qbJ 0=false:=by simp [dgI]
     rw [g,f8',qdR 0];rfl
    |cons d u =>
     have g:iLt 1 (sLen (c::d::u))=true:=by simp;omega
     have g2:qaF (c::d::u) 1=true:=by simp
     have f8':=f8 k5;rw [if_pos g] at f8';rw [g,g2,f8',qdR (sAt (c::d::u) 1)];rfl
   ·rw [decide_eq_false k1,decide_eq_false k3,decide_eq_false k5];cases t with
    |nil =>
     have g:iLt 1 (sLen [c])=false:=by simp
     rw [g];rfl
    |cons d u =>
     have g:iLt 1 (sLen (c::d::u))=true:=by simp;omega
     have g2:qaF (c::d::u) 1=true:=by simp
     rw [g,g2];rfl
end Go.Pv
set_option maxHeartbeats 8000000
set_option maxRecDepth 200000
set_option linter.unusedSimpArgs false
set_option linter.unusedVariables false
namespace Go.Pv
open Go Go.Proofs Go.RowKit
theorem qBL (c:Int):qvZ c=some (.bool (smI c)):=by
 unfold qvZ qyC smI
 try dsimp only
 by_cases h:(97:Int)≤c<;>simp [h]
@[simp] theorem ql6 (c:Int):qiP c=true:=by simp [qiP,qkB,qBL]
@[simp] theorem qrl (c:Int):qkB c=smI c:=by simp [qkB,qBL]
theorem qBD (c:Int):qxE c=some (.bool (grI c)):=by
 unfold qxE qzs grI
 try dsimp only
 by_cases h:(65:Int)≤c<;>simp [h]
@[simp] theorem qlb (c:Int):qfQ c=true:=by simp [qfQ,qgP,qBD]
@[simp] theorem qta (c:Int):qgP c=grI c:=by simp [qgP,qBD]
theorem qBE (c:Int):qxk c=some (.bool (dgI c)):=by
 unfold qxk qyc dgI
 try dsimp only
 by_cases h:(48:Int)≤c<;>simp [h]
@[simp] theorem qGD (c:Int):qex c=true:=by simp [qex,qfp,qBE]
@[simp] theorem qMO (c:Int):qfp c=dgI c:=by simp [qfp,qBE]
theorem qBY (c:Int):qvX c=some (.bool (inI c)):=by
 unfold qvX qyv inI
 try dsimp only
 cases h1:smI c<;>cases h2:grI c<;>cases h3:dgI c<;>simp [h1,h2,h3]
@[simp] theorem rinner_is (c:Int):qmm c=true:=by simp [qmm,qnw,qBY]
@[simp] theorem rinner_v (c:Int):qnw c=inI c:=by simp [qnw,qBY]
def blI (c:Int):Bool:=decide (c=32) || decide (c=9) || decide (c=10) || decide (c=13)
theorem qUM (b:UInt8):blI (b.toNat:Int)=blB b:=by
 unfold blI blB
 congr 1
 ·congr 1
  ·congr 1<;>(apply decide_eq_decide.2;omega)
  ·apply decide_eq_decide.2;omega
 ·apply decide_eq_decide.2;omega
theorem qBx (c:Int):qvR c=some (.bool (blI c)):=by
 unfold qvR qAF blI
 try dsimp only
 by_cases h1:c=32<;>by_cases h2:c=9<;>by_cases h3:c=10<;>simp [h1,h2,h3]
@[simp] theorem qHh (c:Int):qm7 c=true:=by simp [qm7,qjA,qBx]
@[simp] theorem rblank_v (c:Int):qjA c=blI c:=by simp [qjA,qBx]
theorem qND (s:qU) (hs:s.length < 9223372036854775807):∀ (m i:Nat),i+m=s.length→qm1 [.str s,.int .i64 (i:Nat)] ⟨[],[],[]⟩=some (.exit 0,[.int .i64 ((i+runL innB (s.drop i):Nat):Int)],⟨[],[],[]⟩):=by
 intro m
 induction m with
 |zero =>
  intro i hi;rw [qLy,List.drop_eq_nil_of_le (by omega)]
  have:¬ (i:Int) < s.length:=by omega
  simp [ql1,runL,this]
 |succ m ih =>
  intro i hi;obtain⟨b,hb⟩:=qfc (l:=s) (i:=i) (by omega)
  have hbe:=(List.getElem?_eq_some_iff.1 hb).2;have w:=qcf (i:=i) (by omega)
  have hlt:i < s.length:=by omega
  have h1:=ih (i+1) (by omega)
  rw [qa3 hb,qLy];cases hc:innB b with
  |true =>
   have e:i+(runL innB (s.drop (i+1))+1)=i+1+runL innB (s.drop (i+1)):=by omega
   simp only [runL,hc,if_true,e];rw [← h1];simp [ql1,hlt,hbe,qr9,hc,w]
  |false=>simp [ql1,hlt,hbe,qr9,hc,runL]
theorem qGC {s:List UInt8} (hs:s.length < 9223372036854775807) {i:Nat} (hi:i≤s.length):qCW s (i:Nat)=some (.int .i64 ((i+runL innB (s.drop i):Nat):Int)):=by
 have h:=qND s hs (s.length - i) i (by omega)
 unfold qCW qEe
 try dsimp only
 simp only [quM,qmk,qEL,h];simp
theorem qT1 {s:List UInt8} (hs:s.length < 9223372036854775807) {i:Nat} (hi:i≤s.length):qkV s (i:Nat)=true:=by simp only [qkV,quX,qGC hs hi];simp
theorem qW8 {s:List UInt8} (hs:s.length < 9223372036854775807) {i:Nat} (hi:i≤s.length):quX s (i:Nat)=((i+runL innB (s.drop i):Nat):Int):=by simp only [quX,qGC hs hi];simp
theorem qIb (s:qU) (hs:s.length < 9223372036854775807):∀ (m i:Nat),i+m=s.length→qfD [.str s,.int .i64 (i:Nat)] ⟨[],[],[]⟩=some (.exit 0,[.int .i64 ((i+runL qaE (s.drop i):Nat):Int)],⟨[],[],[]⟩):=by
 intro m
 induction m with
 |zero =>
  intro i hi;rw [qCa,List.drop_eq_nil_of_le (by omega)]
  have:¬ (i:Int) < s.length:=by omega
  simp [qfV,runL,this]
 |succ m ih =>
  intro i hi;obtain⟨b,hb⟩:=qfc (l:=s) (i:=i) (by omega)
  have hbe:=(List.getElem?_eq_some_iff.1 hb).2;have w:=qcf (i:=i) (by omega)
  have hlt:i < s.length:=by omega
  have h1:=ih (i+1) (by omega)
  rw [qa3 hb,qCa];cases hc:qaE b with
  |true =>
   have e:i+(runL qaE (s.drop (i+1))+1)=i+1+runL qaE (s.drop (i+1)):=by omega
   simp only [runL,hc,if_true,e];rw [← h1];simp [qfV,hlt,hbe,qdN,hc,w]
  |false=>simp [qfV,hlt,hbe,qdN,hc,runL]
theorem qzO {s:List UInt8} (hs:s.length < 9223372036854775807) {i:Nat} (hi:i≤s.length):qrE s (i:Nat)=some (.int .i64 ((i+runL qaE (s.drop i):Nat):Int)):=by
 have h:=qIb s hs (s.length - i) i (by omega)
 unfold qrE qto
 try dsimp only
 simp only [qlL,qht,quj,h];simp
theorem qNI {s:List UInt8} (hs:s.length < 9223372036854775807) {i:Nat} (hi:i≤s.length):qf7 s (i:Nat)=true:=by simp only [qf7,qdJ,qzO hs hi];simp
theorem qSt {s:List UInt8} (hs:s.length < 9223372036854775807) {i:Nat} (hi:i≤s.length):qdJ s (i:Nat)=((i+runL qaE (s.drop i):Nat):Int):=by simp only [qdJ,qzO hs hi];simp
theorem qSe (s:qU) (hs:s.length < 9223372036854775807):∀ (m i:Nat) (c:Bool),i+m=s.length→qtS [.str s,.int .i64 (i:Nat),.bool c] ⟨[],[],[]⟩=some (.exit 0,[.int .i64 ((i+gapL c (s.drop i):Nat):Int)],⟨[],[],[]⟩):=by
 intro m
 induction m with
 |zero =>
  intro i c hi;rw [qQ4,List.drop_eq_nil_of_le (by omega)]
  have:¬ (i:Int) < s.length:=by omega
  simp [qsc,gapL,this]
 |succ m ih =>
  intro i c hi;obtain⟨b,hb⟩:=qfc (l:=s) (i:=i) (by omega)
  have hbe:=(List.getElem?_eq_some_iff.1 hb).2;have w:=qcf (i:=i) (by omega)
  have hlt:i < s.length:=by omega
  rw [qa3 hb,qQ4];have q1:iEq (sAt s (i:Int)) 37=decide (b.toNat=37):=by simp [hlt,hbe];omega
  have q2:iNe (sAt s (i:Int)) 10=decide (b.toNat≠10):=by simp [hlt,hbe];omega
  have q3:qjA (sAt s (i:Int))=blB b:=by simp [hlt,hbe,qUM]
  have q4:qaF s (i:Int)=true:=by simp;omega
  have q5:iLt (i:Int) (sLen s)=true:=by simp;omega
  have h1:=ih (i+1) (decide (b.toNat=37) || c&&decide (b.toNat≠10)) (by omega)
  cases hg:(c || blB b || decide (b.toNat=37)) with
  |true =>
   have e:gapL c (b::s.drop (i+1))=gapL (decide (b.toNat=37) || c&&decide (b.toNat≠10)) (s.drop (i+1))+1:=by
    simp only [gapL,hg,if_true]
   rw [e,show i+(gapL (decide (b.toNat=37) || c&&decide (b.toNat≠10)) (s.drop (i+1))+1)=i+1+gapL (decide (b.toNat=37) || c&&decide (b.toNat≠10)) (s.drop (i+1)) from by omega,← h1]
   simp only [qsc,q1,q2,q3,q4,q5,qHh,w];cases c<;>cases hb2:blB b<;>by_cases h37:b.toNat=37<;>simp [hb2,h37] at hg ⊢
  |false =>
   have e:gapL c (b::s.drop (i+1))=0:=by
    simp only [gapL,hg,Bool.false_eq_true,if_false]
   rw [e];simp only [Bool.or_eq_false_iff,decide_eq_false_iff_not] at hg;obtain⟨⟨rfl,hb2⟩,h37⟩:=hg;simp only [qsc,q1,q2,q3,q4,q5,qHh,w,hb2];simp [h37]
theorem qMe {s:List UInt8} (hs:s.length < 9223372036854775807) {i:Nat} (hi:i≤s.length):qLm s (i:Nat)=some (.int .i64 ((i+gapL false (s.drop i):Nat):Int)):=by
 have h:=qSe s hs (s.length - i) i false (by omega)
 unfold qLm qKq
 try dsimp only
 simp only [qAP,qqF,qKZ,h];simp
theorem qRT {s:List UInt8} (hs:s.length < 9223372036854775807) {i:Nat} (hi:i≤s.length):qg6 s (i:Nat)=true:=by simp only [qg6,qoe,qMe hs hi];simp
theorem qV5 {s:List UInt8} (hs:s.length < 9223372036854775807) {i:Nat} (hi:i≤s.length):qoe s (i:Nat)=((i+gapL false (s.drop i):Nat):Int):=by simp only [qoe,qMe hs hi];simp
theorem qHb (s:qU) (hs:s.length < 9223372036854775800):∀ (m i:Nat),s.length≤i+m→i≤s.length+1→qdy [.str s,.int .i64 (i:Nat)] ⟨[],[],[]⟩=qOut i (quoE false (s.drop i)):=by
 have hend:∀ i:Nat,s.length≤i→qdy [.str s,.int .i64 (i:Nat)] ⟨[],[],[]⟩=some (.exit 0,[],⟨[],[],[]⟩):=fun i hi=>by
  rw [qBX];have:¬ (i:Int) < s.length:=by omega
  simp [qem,this]
 intro m
 induction m with
 |zero =>
  intro i hi _;rw [hend i (by omega),List.drop_eq_nil_of_le (by omega)]
  simp [quoE,qOut]
 |succ m ih =>
  intro i hi hi2;by_cases hlt:i < s.length
  ·obtain⟨b,hb⟩:=qfc (l:=s) (i:=i) hlt;have hbe:=(List.getElem?_eq_some_iff.1 hb).2;have w:=qcf (i:=i) (by omega)
   have w2:=qcf (i:=i+1) (by omega)
   have h1:=ih (i+1) (by omega) (by omega)
   rw [qa3 hb,qBX];simp only [quoE];have t1:iLt (i:Int) (sLen s)=true:=by simp;omega
   have t2:qaF s (i:Int)=true:=by simp;omega
   have t3:sAt s (i:Int)=b.toNat:=by simp [hbe,hlt]
   by_cases hq:b.toNat=34
   ·rw [if_pos hq];simp only [qem,t1,t2,t3];simp [hq,w,qOut]
   ·rw [if_neg hq];have hq':¬ ((b.toNat:Int)=34):=by omega
    by_cases hp:b.toNat=92
    ·rw [if_pos hp,qmV];have e1:qdy [.str s,.int .i64 (iAdd .i64 (iAdd .i64 (i:Int) 1) 1)] ⟨[],[],[]⟩=qOut (i+1) (quoE true (s.drop (i+1))):=by
      rw [w,w2];by_cases hl2:i+1 < s.length
      ·obtain⟨c,hc⟩:=qfc (l:=s) (i:=i+1) hl2;rw [qa3 hc];simp only [quoE];rw [qmV];exact ih (i+1+1) (by omega) (by omega)
      ·rw [hend (i+1+1) (by omega),List.drop_eq_nil_of_le (by omega)]
       simp [quoE,qOut]
     rw [← e1];simp only [qem,t1,t2,t3];simp [hp]
    ·have hp':¬ ((b.toNat:Int)=92):=by omega
     rw [if_neg hp,qmV,← h1,← w];simp only [qem,t1,t2,t3];simp [hq',hp']
  ·rw [hend i (by omega),List.drop_eq_nil_of_le (by omega)]
   simp [quoE,qOut]
theorem qyo {s:List UInt8} (hs:s.length < 9223372036854775800) {i:Nat} (hi:i < s.length):qrk s (i:Nat)=some (.int .i64 (if quoL (s.drop (i+1))=0 then -1 else ((i+1+quoL (s.drop (i+1)):Nat):Int))):=by
 have h:=qHb s hs (s.length - (i+1)) (i+1) (by omega) (by omega)
 have w:=qcf (i:=i) (by omega)
 unfold qrk quu
 try dsimp only
 rw [w];unfold qOut at h
 rw [show quoE false (s.drop (i+1))=quoL (s.drop (i+1)) from rfl] at h
 by_cases h0:quoL (s.drop (i+1))=0
 ·rw [if_pos h0] at h ⊢;simp only [qhj,qgS,qe4,qii,h];simp
 ·rw [if_neg h0] at h ⊢;simp only [qhj,qgS,qe4,qii,h];simp
theorem qOf {s:List UInt8} (hs:s.length < 9223372036854775800) {i:Nat} (hi:i < s.length):qgb s (i:Nat)=true:=by simp only [qgb,qba,qyo hs hi];simp
theorem qQE {s:List UInt8} (hs:s.length < 9223372036854775800) {i:Nat} (hi:i < s.length):qba s (i:Nat)=(if quoL (s.drop (i+1))=0 then -1 else ((i+1+quoL (s.drop (i+1)):Nat):Int)):=by simp only [qba,qyo hs hi];simp
theorem qBM {s:List UInt8} (hs:s.length≤140737488355328) (k at_:Int):qeI k s at_=some (if eRd s=0 then wTup k s (kRd s,nRd s,sRd s) at_ true else wTup 0 [] (0,0,[]) 0 false):=by
 unfold qeI qzn wTup
 try dsimp only
 by_cases h:eRd s=0<;>simp [hs,h]
theorem qzd {s:List UInt8} (hs:s.length≤140737488355328) (k at_:Int):qfv k s at_=true:=by
 simp only [qfv,qhd,qgM,qe1,qeM,qeP,qeO,qhi,qBM hs];by_cases h:eRd s=0<;>simp [h,wTup]
theorem qEo {s:List UInt8} (hs:s.length≤140737488355328) (k at_:Int):(PV.tup [.agg [.int .i64 (qhd k s at_),.str (qgM k s at_),.int .i64 (qe1 k s at_),.int .i64 (qeM k s at_),.str (qeP k s at_),.int .i64 (qeO k s at_)],.bool (qhi k s at_)])=if eRd s=0 then wTup k s (kRd s,nRd s,sRd s) at_ true else wTup 0 [] (0,0,[]) 0 false:=by
 simp only [qhd,qgM,qe1,qeM,qeP,qeO,qhi,qBM hs];by_cases h:eRd s=0<;>simp [h,wTup]
theorem qHf {v:List UInt8} (hs:v.length < 9223372036854775800) {i:Nat} {c:UInt8} {t:List UInt8} (hv:v.drop i=c::t):qEi v (i:Nat)=some (.int .i64 (qeA c t:Nat)):=by
 have hl:v.length=i+(t.length+1):=by
  have:=congrArg List.length hv;simp at this;omega
 have hc:v[i]?=some c:=by
  have:(v.drop i)[0]?=some c:=by rw [hv];rfl
  simpa using this
 have hbe:=(List.getElem?_eq_some_iff.1 hc).2;have e3:sAt v (i:Int)=(c.toNat:Int):=by
  have:i < v.length:=by omega
  simp [this,hbe]
 have q:qaF v (i:Int)=true:=by simp;omega
 have k40:iEq (sAt v (i:Int)) 40=decide (c.toNat=40):=by rw [e3];simp;omega
 have k41:iEq (sAt v (i:Int)) 41=decide (c.toNat=41):=by rw [e3];simp;omega
 have k44:iEq (sAt v (i:Int)) 44=decide (c.toNat=44):=by rw [e3];simp;omega
 have k46:iEq (sAt v (i:Int)) 46=decide (c.toNat=46):=by rw [e3];simp;omega
 have k43:iEq (sAt v (i:Int)) 43=decide (c.toNat=43):=by rw [e3];simp;omega
 have k45:iEq (sAt v (i:Int)) 45=decide (c.toNat=45):=by rw [e3];simp;omega
 have k61:iEq (sAt v (i:Int)) 61=decide (c.toNat=61):=by rw [e3];simp;omega
 have k58:iEq (sAt v (i:Int)) 58=decide (c.toNat=58):=by rw [e3];simp;omega
 have k60:iEq (sAt v (i:Int)) 60=decide (c.toNat=60):=by rw [e3];simp;omega
 have k62:iEq (sAt v (i:Int)) 62=decide (c.toNat=62):=by rw [e3];simp;omega
 have w2:iAdd .i64 (i:Int) 2=((i+2:Nat):Int):=qaP (by omega)
 have w3:iSub .i64 (sLen v) (i:Int)=((t.length+1:Nat):Int):=by
  rw [qjb];unfold iSub;rw [qaP (by omega)]
  omega
 have ones:∀ T:Option PV,T=(if c.toNat=40 then some (.int .i64 1) else if c.toNat=41 then some (.int .i64 1) else if c.toNat=44 then some (.int .i64 1) else if c.toNat=46 then some (.int .i64 1) else if c.toNat=43 then some (.int .i64 1) else if c.toNat=45 then some (.int .i64 1) else if c.toNat=61 then some (.int .i64 1) else if c.toNat=58 then some (.int .i64 1) else if c.toNat=60 then some (.int .i64 1) else if c.toNat=62 then some (.int .i64 1) else some (.int .i64 0))→T=some (.int .i64 ((if qob c then 1 else 0:Nat):Int)):=fun T hT=>by
  rw [hT];cases ho:qob c with
  |true =>
   simp [qob] at ho;simp only [if_true]
   repeat' split
   all_goals first|rfl|(exfalso;omega)
  |false =>
   simp [qob] at ho;simp only [Bool.false_eq_true,if_false]
   repeat' split
   all_goals first|rfl|(exfalso;omega)
 unfold qEi qDV qeA
 try dsimp only
 rw [w3,w2];cases t with
 |nil =>
  have g:iLe 2 (([]:List UInt8).length+1:Nat)=false:=by decide
  rw [g];simp only [hdIs,Bool.false_eq_true,if_false];refine ones _ ?_;simp only [k40,k41,k44,k46,k43,k45,k61,k58,k60,k62,q];simp
 |cons d u =>
  have g:iLe 2 (((d::u).length+1:Nat):Int)=true:=by simp;omega
  have g2:qbk (qax (i:Int)) (qax ((i+2:Nat):Int)) (nNat (i:Int)) (nNat ((i+2:Nat):Int)) (nLen v)=true:=by simp at hl ⊢;omega
  have g3:sSub v (nNat (i:Int)) (nNat ((i+2:Nat):Int))=[c,d]:=by
   simp only [qFI,qC0,Int.toNat_natCast];rw [List.drop_take,hv,show i+2 - i=2 from by omega]
   rfl
  rw [g,g2,g3];have two:∀ a b:UInt8,sEq [c,d] [a,b]=decide (c.toNat=a.toNat∧d.toNat=b.toNat):=fun a b=>by
   simp [← UInt8.toNat_inj]
  rw [two,two,two,two];have ht:hdIs (twoB c) (d::u)=(decide (c.toNat=58∧d.toNat=45) || decide (c.toNat=60∧d.toNat=61) || decide (c.toNat=62∧d.toNat=61) || decide (c.toNat=33∧d.toNat=61)):=rfl;rw [ht];by_cases z1:c.toNat=58∧d.toNat=45
  ·simp [z1]
  ·by_cases z2:c.toNat=60∧d.toNat=61
   ·simp [z2]
   ·by_cases z3:c.toNat=62∧d.toNat=61
    ·simp [z3]
    ·by_cases z4:c.toNat=33∧d.toNat=61
     ·simp [z4]
     ·have y1:decide (c.toNat=(58:UInt8).toNat∧d.toNat=(45:UInt8).toNat)=false:=decide_eq_false z1;have y2:decide (c.toNat=(60:UInt8).toNat∧d.toNat=(61:UInt8).toNat)=false:=decide_eq_false z2;have y3:decide (c.toNat=(62:UInt8).toNat∧d.toNat=(61:UInt8).toNat)=false:=decide_eq_false z3;have y4:decide (c.toNat=(33:UInt8).toNat∧d.toNat=(61:UInt8).toNat)=false:=decide_eq_false z4;rw [y1,y2,y3,y4,decide_eq_false z1,decide_eq_false z2,decide_eq_false z3,decide_eq_false z4];simp only [Bool.or_false,Bool.false_eq_true,if_false];refine ones _ ?_;simp only [k40,k41,k44,k46,k43,k45,k61,k58,k60,k62,q];simp
theorem qT3 {v:List UInt8} (hs:v.length < 9223372036854775800) {i:Nat} {c:UInt8} {t:List UInt8} (hv:v.drop i=c::t):qln v (i:Nat)=true:=by simp only [qln,qeg,qHf hs hv];simp
theorem qZA {v:List UInt8} (hs:v.length < 9223372036854775800) {i:Nat} {c:UInt8} {t:List UInt8} (hv:v.drop i=c::t):qeg v (i:Nat)=(qeA c t:Nat):=by simp only [qeg,qHf hs hv];simp
def rOut (v:qU) (i:Nat):Option (Int×Nat×Vl)→PV
 |some (k,m,x)=>wTup k ((v.drop i).take m) x (i:Nat) true
 |none=>wTup 0 [] (0,0,[]) 0 false
theorem qKo (k:Int) (s:qU) (n:Nat) (v:qU) (i:Nat) (hv:v.drop i=s):rOut v i (valL k s n)=if eRd (s.take n)=0 then wTup k (s.take n) (kRd (s.take n),nRd (s.take n),sRd (s.take n)) (i:Nat) true else wTup 0 [] (0,0,[]) 0 false:=by
 unfold valL eRd kRd nRd sRd rOut;rw [hv];cases h:rdV (s.take n)<;>simp
theorem qRt {v:List UInt8} (hs:v.length≤140737488355328) {i:Nat} {c:UInt8} {t:List UInt8} (hv:v.drop i=c::t):qhH v (i:Nat)=some (rOut v i (wdL (c::t))):=by
 have hs1:v.length < 9223372036854775807:=by omega
 have hs2:v.length < 9223372036854775800:=by omega
 have hl:v.length=i+(t.length+1):=by
  have:=congrArg List.length hv;simp at this;omega
 have hc:v[i]?=some c:=by
  have:(v.drop i)[0]?=some c:=by rw [hv];rfl
  simpa using this
 have ht:v.drop (i+1)=t:=by rw [← List.drop_drop,hv];rfl
 have hbe:=(List.getElem?_eq_some_iff.1 hc).2;have hlt:i < v.length:=by omega
 have e3:sAt v (i:Int)=(c.toNat:Int):=by simp [hlt,hbe]
 have w:=qcf (i:=i) (by omega)
 -- parts of the text from i
 have hsub:∀ n:Nat,sSub v (nNat (i:Int)) (nNat ((i+n:Nat):Int))=(c::t).take n:=fun n=>by
  simp only [qFI,qC0,Int.toNat_natCast];rw [List.drop_take,hv,show i+n - i=n from by omega]
 have hok:∀ n:Nat,n≤t.length+1→qbk (qax (i:Int)) (qax ((i+n:Nat):Int)) (nNat (i:Int)) (nNat ((i+n:Nat):Int)) (nLen v)=true:=fun n hn=>by simp;omega
 have hne:∀ n:Nat,n≠0→iEq ((i+n:Nat):Int) (i:Int)=false:=fun n hn=>by simp;omega
 have hln:∀ n:Nat,n≤t.length+1→iLt 64 (sLen ((c::t).take n))=decide (64 < n):=fun n hn=>by
  simp only [qjb,qLl,List.length_take,List.length_cons];apply decide_eq_decide.2;omega
 have q0:qaF v (i:Int)=true:=by simp;omega
 have q1:smI (sAt v (i:Int))=qgf c:=by rw [e3,qLz]
 have q2:grI (sAt v (i:Int))=qmd c:=by rw [e3,qMv]
 have q3:iEq (sAt v (i:Int)) 95=decide (c.toNat=95):=by rw [e3];simp;omega
 have q4:dgI (sAt v (i:Int))=qaE c:=by rw [e3,qdN]
 have q5:iEq (sAt v (i:Int)) 45=decide (c.toNat=45):=by rw [e3];simp;omega
 have q6:iEq (sAt v (i:Int)) 34=decide (c.toNat=34):=by rw [e3];simp;omega
 have n1:=qT1 hs1 (i:=i) (by omega)
 have n2:=qW8 hs1 (i:=i) (by omega)
 rw [hv] at n2;have z23:iEq 2 3=false:=by decide
 have z13:iEq 1 3=false:=by decide
 have z33:iEq 3 3=true:=by decide
 have z63:iEq 6 3=false:=by decide
 have hr1:=qpw innB t;unfold qhH qC1
 try dsimp only
 by_cases h1:qgf c=true
 ·have e:runL innB (c::t)=runL innB t+1:=by simp [runL,innB,h1]
  rw [e] at n2;have g:qmd c=false:=by
   simp [qgf] at h1;simp [qmd];omega
  simp only [q0,ql6,qrl,qlb,qta,q1,q2,h1,g,n1,n2,hok (runL innB t+1) (by omega),hne (runL innB t+1) (by omega),hsub,hln (runL innB t+1) (by omega),z13,wdL,if_true]
  by_cases h64:runL innB t+1≤64
  ·have:¬ 64 < runL innB t+1:=by omega
   simp [this,h64,rOut,wTup,hv]
  ·have:64 < runL innB t+1:=by omega
   simp [this,h64,rOut,wTup]
 ·have h1':qgf c=false:=by simpa using h1
  by_cases h2:qmd c=true
  ·have e:runL innB (c::t)=runL innB t+1:=by simp [runL,innB,h2]
   rw [e] at n2;simp only [q0,ql6,qrl,qlb,qta,q1,q2,h1',h2,n1,n2,hok (runL innB t+1) (by omega),hne (runL innB t+1) (by omega),hsub,hln (runL innB t+1) (by omega),z23,wdL,if_true,Bool.false_eq_true,if_false]
   by_cases h64:runL innB t+1≤64
   ·have:¬ 64 < runL innB t+1:=by omega
    simp [this,h64,rOut,wTup,hv]
   ·have:64 < runL innB t+1:=by omega
    simp [this,h64,rOut,wTup]
  ·have h2':qmd c=false:=by simpa using h2
   by_cases h3:c.toNat=95
   ·have e:runL innB (c::t)=runL innB t+1:=by simp [runL,innB,h3]
    rw [e] at n2;have ee:wdL (c::t)=if hdIs innB t then none else some (3,1,0,0,[]):=by
     show (if qgf c=true then _ else _)=_
     rw [if_neg h1,if_neg h2,if_pos h3]
    have nn:iNe ((i+(runL innB t+1):Nat):Int) (iAdd .i64 (i:Int) 1)=hdIs innB t:=by
     rw [w];cases t with
     |nil=>simp [runL,hdIs]
     |cons d u =>
      simp only [runL,hdIs];cases innB d<;>simp<;>omega
    rw [ee];simp only [q0,ql6,qrl,qlb,qta,q1,q2,h1',h2',q3,h3,decide_true,n1,n2,hok (runL innB t+1) (by omega),hne (runL innB t+1) (by omega),hsub,hln (runL innB t+1) (by omega),z33,nn]
    cases hh:hdIs innB t with
    |true =>
     by_cases h64:64 < runL innB t+1<;>simp [h64,rOut,wTup]
    |false =>
     have r0:runL innB t=0:=by
      cases t with
      |nil=>rfl
      |cons d u=>simp [hdIs] at hh;simp [runL,hh]
     rw [r0];simp [rOut,wTup,hv]
   ·have val:∀ (k:Int) (n:Nat),n≤t.length+1→((c::t).take n).length≤140737488355328:=fun k n hn=>by rw [List.length_take];simp;omega
    have hr2:=qpw qaE t;have d1:qf7 v ((i+1:Nat):Int)=true:=qNI hs1 (by omega)
    have d2:qdJ v ((i+1:Nat):Int)=((i+(runL qaE t+1):Nat):Int):=by
     rw [qSt hs1 (by omega),ht]
     congr 1
     omega
    by_cases h4:qaE c=true
    ·have ee:wdL (c::t)=valL 4 (c::t) (runL qaE t+1):=by
      show (if qgf c=true then _ else _)=_
      rw [if_neg h1,if_neg h2,if_neg h3,if_pos (by simp [h4])]
     rw [ee,qKo 4 (c::t) _ v i hv];simp only [q0,ql6,qrl,qlb,qta,q1,q2,h1',h2',q3,decide_eq_false h3,qGD,qMO,q4,h4,w,d1,d2,hok (runL qaE t+1) (by omega),hsub,qzd (val 4 (runL qaE t+1) (by omega)),qEo (val 4 (runL qaE t+1) (by omega))]
     rfl
    ·have h4':qaE c=false:=by simpa using h4
     -- a symbol,or a mark
     have rest:∀ T:Tr PV,(c.toNat=45→hdIs qaE t=false)→T.run=(Tr.ite (iEq (sAt v (i:Int)) 34)
       (Tr.ite (qgb v (i:Int))
        (Tr.ite (iLt (qba v (i:Int)) 0)
         (Tr.ret (PV.tup [PV.agg [PV.int .i64 0,PV.str [],PV.int .i64 0,PV.int .i64 0,PV.str [],PV.int .i64 0],PV.bool false]))
         (Tr.ite (qbk (qax (i:Int)) (qax (qba v (i:Int))) (nNat (i:Int)) (nNat (qba v (i:Int))) (nLen v))
          (Tr.ite (qfv 5 (sSub v (nNat (i:Int)) (nNat (qba v (i:Int)))) (i:Int))
           (Tr.ret (PV.tup [PV.agg [PV.int .i64 (qhd 5 (sSub v (nNat (i:Int)) (nNat (qba v (i:Int)))) (i:Int)),PV.str (qgM 5 (sSub v (nNat (i:Int)) (nNat (qba v (i:Int)))) (i:Int)),PV.int .i64 (qe1 5 (sSub v (nNat (i:Int)) (nNat (qba v (i:Int)))) (i:Int)),PV.int .i64 (qeM 5 (sSub v (nNat (i:Int)) (nNat (qba v (i:Int)))) (i:Int)),PV.str (qeP 5 (sSub v (nNat (i:Int)) (nNat (qba v (i:Int)))) (i:Int)),PV.int .i64 (qeO 5 (sSub v (nNat (i:Int)) (nNat (qba v (i:Int)))) (i:Int))],PV.bool (qhi 5 (sSub v (nNat (i:Int)) (nNat (qba v (i:Int)))) (i:Int))]))
           Tr.fail)
          Tr.fail))
        Tr.fail)
       (Tr.ite (qln v (i:Int))
        (Tr.ite (qbk (qax (i:Int)) (qax (iAdd .i64 (i:Int) (qeg v (i:Int)))) (nNat (i:Int)) (nNat (iAdd .i64 (i:Int) (qeg v (i:Int)))) (nLen v))
         (Tr.ite (iEq (iAdd .i64 (i:Int) (qeg v (i:Int))) (i:Int))
          (Tr.ret (PV.tup [PV.agg [PV.int .i64 0,PV.str [],PV.int .i64 0,PV.int .i64 0,PV.str [],PV.int .i64 0],PV.bool false]))
          (Tr.ite (iLt 64 (sLen (sSub v (nNat (i:Int)) (nNat (iAdd .i64 (i:Int) (qeg v (i:Int)))))))
           (Tr.ret (PV.tup [PV.agg [PV.int .i64 0,PV.str [],PV.int .i64 0,PV.int .i64 0,PV.str [],PV.int .i64 0],PV.bool false]))
           (Tr.ite (iEq 6 3)
            (Tr.ite (iNe (iAdd .i64 (i:Int) (qeg v (i:Int))) (iAdd .i64 (i:Int) 1))
             (Tr.ret (PV.tup [PV.agg [PV.int .i64 0,PV.str [],PV.int .i64 0,PV.int .i64 0,PV.str [],PV.int .i64 0],PV.bool false]))
             (Tr.ret (PV.tup [PV.agg [PV.int .i64 6,PV.str (sSub v (nNat (i:Int)) (nNat (iAdd .i64 (i:Int) (qeg v (i:Int))))),PV.int .i64 0,PV.int .i64 0,PV.str [],PV.int .i64 (i:Int)],PV.bool true])))
            (Tr.ret (PV.tup [PV.agg [PV.int .i64 6,PV.str (sSub v (nNat (i:Int)) (nNat (iAdd .i64 (i:Int) (qeg v (i:Int))))),PV.int .i64 0,PV.int .i64 0,PV.str [],PV.int .i64 (i:Int)],PV.bool true])))))
         Tr.fail)
        Tr.fail)).run→T.run=some (rOut v i (wdL (c::t))):=by
      intro T h45 hT;rw [hT,q6];have hd:¬ (qaE c || (decide (c.toNat=45)&&hdIs qaE t))=true:=by
       rw [h4'];by_cases hc45:c.toNat=45
       ·simp [hc45,h45 hc45]
       ·simp [hc45]
      by_cases h6:c.toNat=34
      ·have ee:wdL (c::t)=if quoL t=0 then none else valL 5 (c::t) (quoL t+1):=by
        show (if qgf c=true then _ else _)=_
        rw [if_neg h1,if_neg h2,if_neg h3,if_neg hd,if_pos h6]
       rw [ee,decide_eq_true h6,qOf hs2 hlt,qQE hs2 hlt,ht];have hq:=qKF t;by_cases h0:quoL t=0
       ·rw [if_pos h0,if_pos h0];rfl
       ·rw [if_neg h0,if_neg h0,qKo 5 (c::t) _ v i hv];have e5:((i+1+quoL t:Nat):Int)=((i+(quoL t+1):Nat):Int):=by omega
        have e6:iLt ((i+(quoL t+1):Nat):Int) 0=false:=by simp;omega
        rw [e5,e6,hok (quoL t+1) (by omega),hsub,qzd (val 5 (quoL t+1) (by omega)),qEo (val 5 (quoL t+1) (by omega))]
        rfl
      ·have ee:wdL (c::t)=if qeA c t=0 then none else some (6,qeA c t,0,0,[]):=by
        show (if qgf c=true then _ else _)=_
        rw [if_neg h1,if_neg h2,if_neg h3,if_neg hd,if_neg h6]
       have hm:qeA c t≤t.length+1∧qeA c t≤2:=by
        unfold qeA;cases t with
        |nil=>cases qob c<;>simp [hdIs]
        |cons d u=>cases hdIs (twoB c) (d::u)<;>cases qob c<;>simp
       have wm:iAdd .i64 (i:Int) ((qeA c t:Nat):Int)=((i+qeA c t:Nat):Int):=qaP (by omega)
       rw [ee,decide_eq_false h6,qT3 hs2 hv,qZA hs2 hv,wm,hok (qeA c t) hm.1,hsub,hln (qeA c t) hm.1,z63];by_cases h0:qeA c t=0
       ·rw [if_pos h0,h0];have:iEq ((i+0:Nat):Int) (i:Int)=true:=by simp
        rw [this];rfl
       ·have:decide (64 < qeA c t)=false:=decide_eq_false (by omega)
        rw [if_neg h0,hne _ h0,this];simp [rOut,wTup,hv]
     simp only [q0,ql6,qrl,qlb,qta,q1,q2,h1',h2',q3,decide_eq_false h3,qGD,qMO,q4,h4',q5,w];by_cases h45:c.toNat=45
     ·rw [decide_eq_true h45];cases t with
      |nil =>
       have g:iLt ((i+1:Nat):Int) (sLen v)=false:=by simp at hl ⊢;omega
       rw [g];refine rest _ (fun _=>rfl) ?_
       rw [w];rfl
      |cons d u =>
       have g:iLt ((i+1:Nat):Int) (sLen v)=true:=by simp at hl ⊢;omega
       have g2:qaF v ((i+1:Nat):Int)=true:=by simp at hl ⊢;omega
       have hd1:v[i+1]?=some d:=by
        have:(v.drop (i+1))[0]?=some d:=by rw [ht];rfl
        simpa using this
       have g3:dgI (sAt v ((i+1:Nat):Int))=qaE d:=by
        rw [← qdN];have h5:=(List.getElem?_eq_some_iff.1 hd1);obtain⟨h5a,h5b⟩:=h5
        congr 1
        simp only [qVC,Int.toNat_natCast,List.getD_eq_getElem?_getD,hd1,Option.getD_some]
       rw [g,g2,g3];cases hdd:qaE d with
       |true =>
        have ee:wdL (c::d::u)=valL 4 (c::d::u) (runL qaE (d::u)+1):=by
         show (if qgf c=true then _ else _)=_
         rw [if_neg h1,if_neg h2,if_neg h3,if_pos (by simp [h45,hdIs,hdd])]
        rw [ee,qKo 4 (c::d::u) _ v i hv];simp only [d1,d2,hok (runL qaE (d::u)+1) (by omega),hsub,qzd (val 4 (runL qaE (d::u)+1) (by omega)),qEo (val 4 (runL qaE (d::u)+1) (by omega))]
        rfl
       |false =>
        refine rest _ (fun _=>by simp [hdIs,hdd]) ?_
        rw [w];rfl
     ·rw [decide_eq_false h45];refine rest _ (fun h=>absurd h h45) ?_
      rw [w];rfl
end Go.Pv
set_option maxHeartbeats 8000000
set_option maxRecDepth 200000
set_option linter.unusedSimpArgs false
set_option linter.unusedVariables false
namespace Go.Pv
open Go Go.Proofs Go.RowKit
theorem qPK {s:List UInt8} (hs:s.length≤140737488355328) (hne:s≠[]):∃ k x v,qbq s=some (wTup k x v 0 (wdL s).isSome)∧∀ k' m v',wdL s=some (k',m,v')→k'=k∧x=s.take m∧v'=v:=by
 obtain⟨c,t,rfl⟩:=List.exists_cons_of_ne_nil hne;have val:∀ (k:Int) (n:Nat),(valL k (c::t) n).isSome=decide (eRd ((c::t).take n)=0)∧∀ k' m v',valL k (c::t) n=some (k',m,v')→k'=k∧(c::t).take n=(c::t).take m∧v'=(kRd ((c::t).take n),nRd ((c::t).take n),sRd ((c::t).take n)):=fun k n=>by
  unfold valL eRd kRd nRd sRd;cases h:rdV ((c::t).take n) with
  |none=>simp
  |some v =>
   refine⟨by simp,fun k' m v' he=>?_⟩
   cases he
   exact⟨rfl,rfl,rfl⟩
 by_cases h1:qgf c=true
 ·have e:runL innB (c::t)=runL innB t+1:=by simp [runL,innB,h1]
  refine⟨1,(c::t).take (runL innB t+1),(0,0,[]),?_,fun k' m v' he=>?_⟩
  ·rw [qKE hs h1,e]
   congr 2
   simp only [wdL,h1,if_true];by_cases hl:runL innB t+1≤64<;>simp [hl]
  ·simp only [wdL,h1,if_true] at he;split at he
   ·cases he;exact⟨rfl,rfl,rfl⟩
   ·cases he
 ·have h1':qgf c=false:=by simpa using h1
  by_cases h2:qmd c=true
  ·have e:runL innB (c::t)=runL innB t+1:=by simp [runL,innB,h2]
   refine⟨2,(c::t).take (runL innB t+1),(0,0,[]),?_,fun k' m v' he=>?_⟩
   ·rw [qJk hs h2,e]
    congr 2
    simp only [wdL,h1',h2,if_true,Bool.false_eq_true,if_false];by_cases hl:runL innB t+1≤64<;>simp [hl]
   ·simp only [wdL,h1',h2,if_true,Bool.false_eq_true,if_false] at he;split at he
    ·cases he;exact⟨rfl,rfl,rfl⟩
    ·cases he
  ·have h2':qmd c=false:=by simpa using h2
   by_cases h3:c.toNat=95
   ·have hc:c=95:=UInt8.toNat_inj.1 h3;refine⟨3,[95],(0,0,[]),?_,fun k' m v' he=>?_⟩
    ·rw [qSG hs h3]
     congr 2
     simp only [wdL,h1',h2',h3,if_true,Bool.false_eq_true,if_false];cases hdIs innB t<;>simp
    ·simp only [wdL,h1',h2',h3,if_true,Bool.false_eq_true,if_false] at he;split at he
     ·cases he
     ·cases he;exact⟨rfl,by rw [hc];simp,rfl⟩
   ·have dg:qbq (c::t)=some (dgW (c::t))→(qaE c || (decide (c.toNat=45)&&hdIs qaE t))=true→∃ k x v,qbq (c::t)=some (wTup k x v 0 (wdL (c::t)).isSome)∧∀ k' m v',wdL (c::t)=some (k',m,v')→k'=k∧x=(c::t).take m∧v'=v:=fun hw hd=>by
     have e:wdL (c::t)=valL 4 (c::t) (runL qaE t+1):=by simp only [wdL,h1',h2',h3,hd,if_true,Bool.false_eq_true,if_false]
     obtain⟨v1,v2⟩:=val 4 (runL qaE t+1);refine⟨4,(c::t).take (runL qaE t+1),(kRd ((c::t).take (runL qaE t+1)),nRd ((c::t).take (runL qaE t+1)),sRd ((c::t).take (runL qaE t+1))),?_,fun k' m v' he=>v2 k' m v' (by rw [← e];exact he)⟩
     rw [hw,e,v1];rfl
    by_cases h4:qaE c=true
    ·exact dg (qUw hs h4) (by simp [h4])
    ·have h4':qaE c=false:=by simpa using h4
     by_cases h5:c.toNat=45∧hdIs qaE t=true
     ·cases t with
      |nil=>simp [hdIs] at h5
      |cons d u=>exact dg (qP4 hs h5.1 h5.2) (by simp [h5.1,h5.2])
     ·have h5':(qaE c || (decide (c.toNat=45)&&hdIs qaE t))=false:=by
       rw [h4'];by_cases hc:c.toNat=45
       ·have:hdIs qaE t=false:=by
         cases hh:hdIs qaE t with
         |false=>rfl
         |true=>exact absurd ⟨hc,hh⟩ h5
        simp [this]
       ·simp [hc]
      by_cases h6:c.toNat=34
      ·have e:wdL (c::t)=if quoL t=0 then none else valL 5 (c::t) (quoL t+1):=by
        show (if qgf c=true then _ else _)=_
        rw [if_neg h1,if_neg h2,if_neg h3,if_neg (by rw [h5'];simp),if_pos h6]
       obtain⟨v1,v2⟩:=val 5 (symN t);refine⟨5,(c::t).take (symN t),(kRd ((c::t).take (symN t)),nRd ((c::t).take (symN t)),sRd ((c::t).take (symN t))),?_,fun k' m v' he=>?_⟩
       ·rw [qQL hs h6,e];by_cases hq:quoL t=0
        ·rw [if_pos hq];unfold syW symN;rw [if_pos hq];have:eRd []=10:=by decide
         simp [this,wTup]
        ·rw [if_neg hq];unfold symN at v1 ⊢;rw [if_neg hq] at v1 ⊢;rw [v1];rfl
       ·rw [e] at he;by_cases hq:quoL t=0
        ·rw [if_pos hq] at he;cases he
        ·rw [if_neg hq] at he;refine v2 k' m v' ?_;unfold symN;rw [if_neg hq];exact he
      ·have e:wdL (c::t)=if qeA c t=0 then none else some (6,qeA c t,0,0,[]):=by
        show (if qgf c=true then _ else _)=_
        rw [if_neg h1,if_neg h2,if_neg h3,if_neg (by rw [h5'];simp),if_neg h6]
       have hm:=qNs hs h1' h2' h3 h4' (fun hc=>by
        cases hh:hdIs qaE t with
        |false=>rfl
        |true=>exact absurd ⟨hc,hh⟩ h5) h6
       unfold mkW at hm;cases ht:hdIs (twoB c) t with
       |true =>
        rw [ht,if_pos rfl] at hm;have em:qeA c t=2:=by simp [qeA,ht]
        refine⟨6,(c::t).take 2,(0,0,[]),?_,fun k' m v' he=>?_⟩
        ·rw [hm,e,em];rfl
        ·rw [e,em] at he;cases he
         exact⟨rfl,rfl,rfl⟩
       |false =>
        rw [ht,if_neg (by simp)] at hm
        refine⟨6,[c],(0,0,[]),?_,fun k' m v' he=>?_⟩
        ·rw [hm,e]
         congr 2
         unfold qeA;rw [ht];cases qob c<;>simp
        ·rw [e] at he;split at he
         ·cases he
         ·rename_i hn;have em:qeA c t=1:=by
           unfold qeA at hn ⊢;rw [ht] at hn ⊢;cases ho:qob c with
           |true=>simp
           |false=>simp [ho] at hn
          rw [em] at he;cases he
          exact⟨rfl,by simp,rfl⟩
def wdT:List TypeId:=[36,3,28,36,9]
def lst (s:qU) (st:Nat) (n n2:Int):List Wd→Store
 |[]=>⟨[[.sl [] .full],[.int .i64 n],[.int .i64 n2],[.sl [] .full],[.str s]],[(st,0,1)],wdT⟩
 |a::l=>⟨[[.sl [] .full],[.int .i64 n],[.int .i64 n2],[.sl (rOf cW (a::l)) (.tok 1)],[.str s]],[(st,0,1),((a::l).length,6,44)],wdT⟩
theorem qUc (s:qU) (st:Nat) (n n2:Int) (l:List Wd) (a:Wd):lst s st n n2 (l++[a])=⟨[[.sl [] .full],[.int .i64 n],[.int .i64 n2],[.sl (rOf cW (l++[a])) (.tok 1)],[.str s]],[(st,0,1),((l++[a]).length,6,44)],wdT⟩:=by
 cases l<;>rfl
def wEnd (s:qU) (acc:List Wd):List Wd×Option Nat→Option (PExit×List PV×Store)
 |(l,none)=>some (.exit 0,[],lst s 0 0 0 (acc++l))
 |(l,some p)=>some (.ret,[],lst s 2 (p:Nat) 120 (acc++l))
theorem qMg (f i:Nat):lexL f i []=([],none):=by cases f<;>rfl
theorem qW7 (s:qU) (hs:s.length≤70000):∀ (f i:Nat) (acc:List Wd),i≤s.length→s.length < i+f→acc.length≤i→qgy [.yld 0,.ptr 4 0,.int .i64 (i:Nat)] (lst s 0 0 0 acc)=wEnd s acc (lexL f i (s.drop i)):=by
 intro f
 induction f with
 |zero=>intro i acc h1 h2 _;omega
 |succ f ih =>
  intro i acc h1 h2 h3;by_cases hlt:i < s.length
  ·have hS:sSub s (nNat (i:Int)) (nLen s)=s.drop i:=by simp
   have hne:s.drop i≠[]:=by
    intro h;have:=congrArg List.length h;simp at this;omega
   have hSl:(s.drop i).length≤140737488355328:=by simp;omega
   obtain⟨k,x,v,hw,hw2⟩:=qPK hSl hne;have a0:qlw (s.drop i)=true:=by simp [qlw,qf4,qeD,qdK,qdW,qdQ,qFU,qpm,hw,wTup]
   have a1:qf4 (s.drop i)=k:=by simp [qf4,hw,wTup]
   have a2:qeD (s.drop i)=x:=by simp [qeD,hw,wTup]
   have a3:qdK (s.drop i)=v.1:=by simp [qdK,hw,wTup]
   have a4:qdW (s.drop i)=v.2.1:=by simp [qdW,hw,wTup]
   have a5:qdQ (s.drop i)=v.2.2:=by simp [qdQ,hw,wTup]
   have a6:qpm (s.drop i)=(wdL (s.drop i)).isSome:=by simp [qpm,hw,wTup]
   have t1:iLt (i:Int) (sLen s)=true:=by simp;omega
   have t2:qbk (qax (i:Int)) true (nNat (i:Int)) (nLen s) (nLen s)=true:=by simp;omega
   have eL:lexL (f+1) i (s.drop i)=match wdL (s.drop i) with
     |none=>([],some i)
     |some (k,m,v) =>
      ((k,(s.drop i).take m,v,(i:Int))::(lexL f (i+m+gapL false ((s.drop i).drop m)) ((s.drop i).drop (m+gapL false ((s.drop i).drop m)))).1,(lexL f (i+m+gapL false ((s.drop i).drop m)) ((s.drop i).drop (m+gapL false ((s.drop i).drop m)))).2):=by
    obtain⟨c,t,hct⟩:=List.exists_cons_of_ne_nil hne;rw [hct];rfl
   rw [eL];cases hwd:wdL (s.drop i) with
   |none =>
    rw [hwd] at a6;cases acc with
    |nil =>
     show qgy _ ⟨_,_,_⟩=_
     simp only [wdT];rw [qON];simp only [qzo,hS,a0,a1,a2,a3,a4,a5,a6,t1,t2];simp [wEnd,lst,wdT]
    |cons a l =>
     show qgy _ ⟨_,_,_⟩=_
     simp only [wdT];rw [qLj];simp only [qso,hS,a0,a1,a2,a3,a4,a5,a6,t1,t2];simp [wEnd,lst,wdT]
   |some r =>
    obtain⟨k',m,v'⟩:=r;obtain⟨rfl,rfl,rfl⟩:=hw2 k' m v' hwd;rw [hwd] at a6;obtain⟨m1,m2⟩:=qz4 hwd;have hx:((s.drop i).take m).length=m:=by rw [List.length_take];omega
    have m3:i+m≤s.length:=by simp at m2;omega
    have e1:iAdd .i64 (i:Int) (sLen ((s.drop i).take m))=((i+m:Nat):Int):=by
     rw [qjb,hx];exact qaP (by omega)
    have hS2:sSub s (nNat ((i+m:Nat):Int)) (nLen s)=s.drop (i+m):=by simp only [qFI,qC0,qO7,Int.toNat_natCast,List.take_length]
    have t3:qbk (qax ((i+m:Nat):Int)) true (nNat ((i+m:Nat):Int)) (nLen s) (nLen s)=true:=by simp;omega
    have g1:qjt (s.drop (i+m))=true:=qQ9 (by simp;omega)
    have g2:qlA (s.drop (i+m))=(gapL false (s.drop (i+m)):Nat):=qVH (by simp;omega)
    have g3:=qo4 false (s.drop (i+m));have e2:iAdd .i64 ((i+m:Nat):Int) ((gapL false (s.drop (i+m)):Nat):Int)=((i+m+gapL false (s.drop (i+m)):Nat):Int):=qaP (by simp at g3;omega)
    have hd1:(s.drop i).drop m=s.drop (i+m):=by rw [List.drop_drop]
    have hd2:(s.drop i).drop (m+gapL false (s.drop (i+m)))=s.drop (i+m+gapL false (s.drop (i+m))):=by rw [List.drop_drop];congr 1;omega
    simp only [hd1,hd2];have hih:=ih (i+m+gapL false (s.drop (i+m))) (acc++[(k',(s.drop i).take m,v',(i:Int))]) (by simp at g3;omega) (by omega) (by simp;omega)
    have hfin:wEnd s (acc++[(k',(s.drop i).take m,v',(i:Int))]) (lexL f (i+m+gapL false (s.drop (i+m))) (s.drop (i+m+gapL false (s.drop (i+m)))))=wEnd s acc ((k',(s.drop i).take m,v',(i:Int))::(lexL f (i+m+gapL false (s.drop (i+m))) (s.drop (i+m+gapL false (s.drop (i+m))))).1,(lexL f (i+m+gapL false (s.drop (i+m))) (s.drop (i+m+gapL false (s.drop (i+m))))).2):=by
     cases hr:lexL f (i+m+gapL false (s.drop (i+m))) (s.drop (i+m+gapL false (s.drop (i+m)))) with
     |mk l o=>cases o<;>simp [wEnd]
    rw [← hfin,← hih,qUc];cases acc with
    |nil =>
     show qgy _ ⟨_,_,_⟩=_
     simp only [wdT];rw [qON];have o1:qas [] [[PV.int .i64 k',.str ((s.drop i).take m),.int .i64 v'.1,.int .i64 v'.2.1,.str v'.2.2,.int .i64 (i:Int)]] 64=true:=by simp
     have o2:qap [[PV.int .i64 k',.str ((s.drop i).take m),.int .i64 v'.1,.int .i64 v'.2.1,.str v'.2.2,.int .i64 (i:Int)]] 6=true:=by simp [one]
     simp only [qzo,hS,a0,a1,a2,a3,a4,a5,a6,t1,t2,e1,hS2,t3,g1,g2,e2,o1,o2];simp [qVB,qPF]
    |cons a l =>
     show qgy _ ⟨_,_,_⟩=_
     simp only [wdT];rw [qLj];have o1:qas (rOf cW (a::l)) [[PV.int .i64 k',.str ((s.drop i).take m),.int .i64 v'.1,.int .i64 v'.2.1,.str v'.2.2,.int .i64 (i:Int)]] 64=true:=by
      simp only [List.length_cons] at h3;simp;omega
     have o2:qap [[PV.int .i64 k',.str ((s.drop i).take m),.int .i64 v'.1,.int .i64 v'.2.1,.str v'.2.2,.int .i64 (i:Int)]] 6=true:=by simp [one]
     simp only [qso,hS,a0,a1,a2,a3,a4,a5,a6,t1,t2,e1,hS2,t3,g1,g2,e2,o1,o2];simp [qQw]
  ·have:i=s.length:=by omega
   subst this;rw [List.drop_eq_nil_of_le (Nat.le_refl _),qMg];have t1:iLt (s.length:Int) (sLen s)=false:=by simp
   cases acc with
   |nil =>
    show qgy _ ⟨_,_,_⟩=_
    simp only [wdT];rw [qON];simp only [qzo,t1];simp [wEnd,lst,wdT]
   |cons a l =>
    show qgy _ ⟨_,_,_⟩=_
    simp only [wdT];rw [qLj];simp only [qso,t1];simp [wEnd,lst,wdT]
def qFV (s:qU):List Wd×Option Nat→Option (PV×Store)
 |(l,none)=>some (.tup [],lst s 0 0 0 l)
 |(l,some p)=>some (.tup [],lst s 2 (p:Nat) 120 l)
theorem qWa {s:List UInt8} (hs:s.length≤70000):qd4 [] 0 0 [] s=qFV s (qcl s):=by
 have hg:=qo4 false s;have h:=qW7 s hs (s.length+1) (gapL false s) [] hg (by omega) (by simp)
 rw [show lexL (s.length+1) (gapL false s) (s.drop (gapL false s))=qcl s from rfl] at h
 unfold qd4 qRY
 try dsimp only
 rw [qQ9 (by omega),qVH (by omega)]
 generalize qcl s=r at h ⊢;simp only [lst,wdT] at h
 generalize ((gapL false s:Nat):Int)=g at h ⊢;obtain⟨l,o⟩:=r;cases o with
 |none =>
  cases l with
  |nil =>
   simp only [wEnd,lst,wdT,List.append_nil,List.nil_append] at h
   simp only [qn9,qnD,qnT,qmG,qnN,qmo,qnn,qjJ,qjw,qjY,qjI,qgu,qf5,qgD,qgI,qgw,qgo,qfU,qkF,qko,qjM,qjp,qjO,qjj,qjT,qfW,qgv,qgE,qfZ,qgn,qgC,qgA,qjV,qjL,qjk,qkC,qks,qjv,qi9,qkD,qjd,qjl,qj4,qjh,qj1,qki,qaR,h];simp [-qd6,qFV,lst,wdT]
  |cons a l =>
   simp only [wEnd,lst,wdT,List.nil_append] at h
   simp only [qn9,qnD,qnT,qmG,qnN,qmo,qnn,qjJ,qjw,qjY,qjI,qgu,qf5,qgD,qgI,qgw,qgo,qfU,qkF,qko,qjM,qjp,qjO,qjj,qjT,qfW,qgv,qgE,qfZ,qgn,qgC,qgA,qjV,qjL,qjk,qkC,qks,qjv,qi9,qkD,qjd,qjl,qj4,qjh,qj1,qki,qaR,h];simp [-qd6,qFV,lst,wdT]
 |some p =>
  cases l with
  |nil =>
   simp only [wEnd,lst,wdT,List.append_nil,List.nil_append] at h
   simp only [qn9,qnD,qnT,qmG,qnN,qmo,qnn,qjJ,qjw,qjY,qjI,qgu,qf5,qgD,qgI,qgw,qgo,qfU,qkF,qko,qjM,qjp,qjO,qjj,qjT,qfW,qgv,qgE,qfZ,qgn,qgC,qgA,qjV,qjL,qjk,qkC,qks,qjv,qi9,qkD,qjd,qjl,qj4,qjh,qj1,qki,qaR,h];simp [-qd6,qFV,lst,wdT]
  |cons a l =>
   simp only [wEnd,lst,wdT,List.nil_append] at h
   simp only [qn9,qnD,qnT,qmG,qnN,qmo,qnn,qjJ,qjw,qjY,qjI,qgu,qf5,qgD,qgI,qgw,qgo,qfU,qkF,qko,qjM,qjp,qjO,qjj,qjT,qfW,qgv,qgE,qfZ,qgn,qgC,qgA,qjV,qjL,qjk,qkC,qks,qjv,qi9,qkD,qjd,qjl,qj4,qjh,qj1,qki,qaR,h];simp [-qd6,qFV,lst,wdT]
def wOut:List Wd×Option Nat→PV
 |(l,none)=>.tup [.sl (rOf cW l) .non,.int .i64 0,.int .i64 0]
 |(_,some p)=>.tup [.sl [] .non,.int .i64 (p:Nat),.int .i64 120]
theorem qOD {s:List UInt8} (hs:s.length≤70000):qfm s=some (if 65536 < s.length then .tup [.sl [] .non,.int .i64 0,.int .i64 2] else wOut (qcl s)):=by
 have h:=qWa hs;unfold qfm qqH
 try dsimp only
 have b:qg2 s=some (.fn 158 [.ptr 4 0],⟨[[.sl [] .full],[.int .i64 0],[.int .i64 0],[.sl [] .full],[.str s]],[],wdT⟩):=by simp [-qd6,qg2,qzC,wdT]
 have b0:qm9 s=true:=by
  simp only [qm9,qm0,qih,qnK,qif,qne,b,wdT];simp [-qd6]
 have b1:qm0 s=0:=by simp only [qm0,b];simp [-qd6]
 have b2:qih s=0:=by simp only [qih,b];simp [-qd6]
 have b3:qnK s=[]:=by simp only [qnK,b];simp [-qd6]
 have b4:qif s=[]:=by simp only [qif,b];simp [-qd6]
 have b5:qne s=s:=by simp only [qne,b];simp [-qd6]
 rw [b0,b1,b2,b3,b4,b5];by_cases hl:65536 < s.length
 ·have:iLt 65536 (sLen s)=true:=by simp;omega
  rw [this,if_pos hl];rfl
 ·have:iLt 65536 (sLen s)=false:=by simp;omega
  rw [this,if_neg hl];generalize qcl s=r at h ⊢;obtain⟨l,o⟩:=r;cases o with
  |none =>
   cases l with
   |nil =>
    simp only [qFV,lst,wdT] at h
    simp only [quF,qt7,qtM,qum,qtR,quz,qjc,qnx,qmj,qjC,qoO,quV,qtB,qpH,qmy,qkx,qkG,qmA,qpS,quE,qur,qoM,qui,qtU,qtC,qtz,h];simp [-qd6,wOut]
   |cons a l =>
    simp only [qFV,lst,wdT] at h
    simp only [quF,qt7,qtM,qum,qtR,quz,qjc,qnx,qmj,qjC,qoO,quV,qtB,qpH,qmy,qkx,qkG,qmA,qpS,quE,qur,qoM,qui,qtU,qtC,qtz,h];simp [-qd6,wOut]
  |some p =>
   cases l with
   |nil =>
    simp only [qFV,lst,wdT] at h
    simp only [quF,qt7,qtM,qum,qtR,quz,qjc,qnx,qmj,qjC,qoO,quV,qtB,qpH,qmy,qkx,qkG,qmA,qpS,quE,qur,qoM,qui,qtU,qtC,qtz,h];simp [-qd6,wOut]
   |cons a l =>
    simp only [qFV,lst,wdT] at h
    simp only [quF,qt7,qtM,qum,qtR,quz,qjc,qnx,qmj,qjC,qoO,quV,qtB,qpH,qmy,qkx,qkG,qmA,qpS,quE,qur,qoM,qui,qtU,qtC,qtz,h];simp [-qd6,wOut]
end Go.Pv
set_option maxHeartbeats 8000000
set_option maxRecDepth 200000
set_option linter.unusedSimpArgs false
set_option linter.unusedVariables false
namespace Go.Pv
open Go Go.Proofs Go.RowKit
def rEnd (acc:List Wd):List Wd×Option Nat→Option (PExit×List PV×Store)
 |(l,none)=>some (.exit 0,[.sl (rOf cW (acc++l)) (aT (acc++l))],aS 6 44 (acc++l))
 |(l,some p)=>some (.ret,[.sl [] .full,.int .i64 (p:Nat),.int .i64 120],aS 6 44 (acc++l))
theorem qXl (s:qU) (hs:s.length≤70000):∀ (f i:Nat) (acc:List Wd),i≤s.length→s.length < i+f→acc.length≤i→qbE [.str s,.sl (rOf cW acc) (aT acc),.int .i64 (i:Nat)] (aS 6 44 acc)=rEnd acc (lexL f i (s.drop i)):=by
 intro f
 induction f with
 |zero=>intro i acc h1 h2 _;omega
 |succ f ih =>
  intro i acc h1 h2 h3;by_cases hlt:i < s.length
  ·have hne:s.drop i≠[]:=by
    intro h;have:=congrArg List.length h;simp at this;omega
   obtain⟨c,t,hct⟩:=List.exists_cons_of_ne_nil hne;have hw:=qRt (v:=s) (by omega) hct
   rw [← hct] at hw;have t1:iLt (i:Int) (sLen s)=true:=by simp;omega
   have eL:lexL (f+1) i (s.drop i)=match wdL (s.drop i) with
     |none=>([],some i)
     |some (k,m,v) =>
      ((k,(s.drop i).take m,v,(i:Int))::(lexL f (i+m+gapL false ((s.drop i).drop m)) ((s.drop i).drop (m+gapL false ((s.drop i).drop m)))).1,(lexL f (i+m+gapL false ((s.drop i).drop m)) ((s.drop i).drop (m+gapL false ((s.drop i).drop m)))).2):=by
    rw [hct];rfl
   rw [eL];cases hwd:wdL (s.drop i) with
   |none =>
    rw [hwd] at hw;simp only [rOut,wTup] at hw;have a0:qfS s (i:Int)=true:=by simp only [qfS,qfa,qdX,qdn,qdl,qdo,qdk,qhB,hw];simp
    have a6:qhB s (i:Int)=false:=by simp only [qhB,hw];simp
    cases acc with
    |nil =>
     show qbE [_,.sl [] .full,_] ⟨[],[],[]⟩=_
     rw [qz1];simp only [qiR,t1,a0,a6];simp [rEnd]
    |cons a l =>
     show qbE [_,.sl (rOf cW (a::l)) (.tok 0),_] ⟨[],[((a::l).length,6,44)],[]⟩=_
     rw [quN];simp only [qf8,t1,a0,a6];simp [rEnd,aS]
   |some r =>
    obtain⟨k,m,v⟩:=r;rw [hwd] at hw;simp only [rOut,wTup] at hw;have a0:qfS s (i:Int)=true:=by simp only [qfS,qfa,qdX,qdn,qdl,qdo,qdk,qhB,hw];simp
    have a1:qfa s (i:Int)=k:=by simp only [qfa,hw];simp
    have a2:qdX s (i:Int)=(s.drop i).take m:=by simp only [qdX,hw];simp
    have a3:qdn s (i:Int)=v.1:=by simp only [qdn,hw];simp
    have a4:qdl s (i:Int)=v.2.1:=by simp only [qdl,hw];simp
    have a5:qdo s (i:Int)=v.2.2:=by simp only [qdo,hw];simp
    have a7:qdk s (i:Int)=(i:Int):=by simp only [qdk,hw];simp
    have a6:qhB s (i:Int)=true:=by simp only [qhB,hw];simp
    obtain⟨m1,m2⟩:=qz4 hwd;have hx:((s.drop i).take m).length=m:=by rw [List.length_take];omega
    have m3:i+m≤s.length:=by simp at m2;omega
    have e1:iAdd .i64 (i:Int) (sLen ((s.drop i).take m))=((i+m:Nat):Int):=by
     rw [qjb,hx];exact qaP (by omega)
    have g1:qg6 s ((i+m:Nat):Int)=true:=qRT (by omega) m3
    have g2:qoe s ((i+m:Nat):Int)=((i+m+gapL false (s.drop (i+m)):Nat):Int):=qV5 (by omega) m3
    have g3:=qo4 false (s.drop (i+m));have hd1:(s.drop i).drop m=s.drop (i+m):=by rw [List.drop_drop]
    have hd2:(s.drop i).drop (m+gapL false (s.drop (i+m)))=s.drop (i+m+gapL false (s.drop (i+m))):=by rw [List.drop_drop];congr 1;omega
    simp only [hd1,hd2];have hih:=ih (i+m+gapL false (s.drop (i+m))) (acc++[(k,(s.drop i).take m,v,(i:Int))]) (by simp at g3;omega) (by omega) (by simp;omega)
    have hfin:rEnd (acc++[(k,(s.drop i).take m,v,(i:Int))]) (lexL f (i+m+gapL false (s.drop (i+m))) (s.drop (i+m+gapL false (s.drop (i+m)))))=rEnd acc ((k,(s.drop i).take m,v,(i:Int))::(lexL f (i+m+gapL false (s.drop (i+m))) (s.drop (i+m+gapL false (s.drop (i+m))))).1,(lexL f (i+m+gapL false (s.drop (i+m))) (s.drop (i+m+gapL false (s.drop (i+m))))).2):=by
     cases hr:lexL f (i+m+gapL false (s.drop (i+m))) (s.drop (i+m+gapL false (s.drop (i+m)))) with
     |mk l o=>cases o<;>simp [rEnd]
    rw [← hfin,← hih,qWb,qWB];have o2:qap [[PV.int .i64 k,.str ((s.drop i).take m),.int .i64 v.1,.int .i64 v.2.1,.str v.2.2,.int .i64 (i:Int)]] 6=true:=by simp [one]
    cases acc with
    |nil =>
     show qbE [_,.sl [] .full,_] ⟨[],[],[]⟩=_
     rw [qz1];have o1:qas [] [[PV.int .i64 k,.str ((s.drop i).take m),.int .i64 v.1,.int .i64 v.2.1,.str v.2.2,.int .i64 (i:Int)]] 64=true:=by simp
     simp only [qiR,t1,a0,a1,a2,a3,a4,a5,a6,a7,e1,g1,g2,o1,o2];simp [qVB,qPF]
    |cons a l =>
     show qbE [_,.sl (rOf cW (a::l)) (.tok 0),_] ⟨[],[((a::l).length,6,44)],[]⟩=_
     rw [quN];have o1:qas (rOf cW (a::l)) [[PV.int .i64 k,.str ((s.drop i).take m),.int .i64 v.1,.int .i64 v.2.1,.str v.2.2,.int .i64 (i:Int)]] 64=true:=by
      simp only [List.length_cons] at h3;simp;omega
     simp only [qf8,t1,a0,a1,a2,a3,a4,a5,a6,a7,e1,g1,g2,o1,o2];simp [qQw]
  ·have:i=s.length:=by omega
   subst this;rw [List.drop_eq_nil_of_le (Nat.le_refl _),qMg];have t1:iLt (s.length:Int) (sLen s)=false:=by simp
   cases acc with
   |nil =>
    show qbE [_,.sl [] .full,_] ⟨[],[],[]⟩=_
    rw [qz1];simp only [qiR,t1];simp [rEnd]
   |cons a l =>
    show qbE [_,.sl (rOf cW (a::l)) (.tok 0),_] ⟨[],[((a::l).length,6,44)],[]⟩=_
    rw [quN];simp only [qf8,t1];simp [rEnd,aT,aS]
theorem qM6 {s:List UInt8} (hs:s.length≤70000):qfl s=some (if 65536 < s.length then .tup [.sl [] .non,.int .i64 0,.int .i64 2] else wOut (qcl s)):=by
 have hg:=qo4 false s;have h:=qXl s hs (s.length+1) (gapL false s) [] hg (by omega) (by simp)
 rw [show lexL (s.length+1) (gapL false s) (s.drop (gapL false s))=qcl s from rfl] at h
 unfold qfl qrG
 try dsimp only
 have g1:qg6 s 0=true:=qRT (i:=0) (by omega) (by omega)
 have g2:qoe s 0=(gapL false s:Nat):=by
  have:=qV5 (s:=s) (i:=0) (by omega) (by omega)
  simpa using this
 rw [g1,g2];by_cases hl:65536 < s.length
 ·have:iLt 65536 (sLen s)=true:=by simp;omega
  rw [this,if_pos hl];rfl
 ·have:iLt 65536 (sLen s)=false:=by simp;omega
  rw [this,if_neg hl];generalize qcl s=r at h ⊢;simp only [qZP,zaak,qca] at h
  generalize ((gapL false s:Nat):Int)=g at h ⊢;obtain⟨l,o⟩:=r;cases o with
  |none =>
   cases l with
   |nil =>
    simp only [rEnd,List.append_nil,List.nil_append,aT,aS] at h
    simp only [qeo,qey,qei,qer,qed,qeu,qcI,qcH,qdu,qds,qcd,qce,qdv,qdt,qbh,h];simp [wOut]
   |cons a l =>
    simp only [rEnd,List.nil_append,aT,aS] at h
    simp only [qeo,qey,qei,qer,qed,qeu,qcI,qcH,qdu,qds,qcd,qce,qdv,qdt,qbh,h];simp [wOut]
  |some p =>
   cases l with
   |nil =>
    simp only [rEnd,List.append_nil,List.nil_append,aT,aS] at h
    simp only [qeo,qey,qei,qer,qed,qeu,qcI,qcH,qdu,qds,qcd,qce,qdv,qdt,qbh,h];simp [wOut]
   |cons a l =>
    simp only [rEnd,List.nil_append,aT,aS] at h
    simp only [qeo,qey,qei,qer,qed,qeu,qcI,qcH,qdu,qds,qcd,qce,qdv,qdt,qbh,h];simp [wOut]
end Go.Pv
set_option maxHeartbeats 8000000
set_option maxRecDepth 200000
set_option linter.unusedSimpArgs false
set_option linter.unusedVariables false
namespace Go.Pv
open Go Go.Proofs Go.RowKit
def wL (s:qU):List Wd:=match qcl s with|(l,none)=>l|_=>[]
def wN (s:qU):Int:=match (qcl s).2 with|none=>0|some p=>(p:Nat)
def wE (s:qU):Int:=match (qcl s).2 with|none=>0|some _=>120
theorem qQQ (s:qU):wOut (qcl s)=.tup [.sl (rOf cW (wL s)) .non,.int .i64 (wN s),.int .i64 (wE s)]:=by
 unfold wL wN wE;cases h:qcl s with
 |mk l o=>cases o<;>rfl
theorem qnS {s:List UInt8} (hs:s.length≤65536):qfm s=some (.tup [.sl (rOf cW (wL s)) .non,.int .i64 (wN s),.int .i64 (wE s)]):=by
 rw [qOD (by omega),if_neg (by omega),qQQ]
theorem qNc {s:List UInt8} (hs:s.length≤65536):qfl s=some (.tup [.sl (rOf cW (wL s)) .non,.int .i64 (wN s),.int .i64 (wE s)]):=by
 rw [qM6 (by omega),if_neg (by omega),qQQ]
section
variable {s : List UInt8} (hs : s.length ≤ 65536)
include hs
theorem qCt:qmH s=rOf cW (wL s):=by simp only [qmH,qnS hs];simp
theorem qCA:qmI s=wN s:=by simp only [qmI,qnS hs];simp
theorem qCC:qiM s=wE s:=by simp only [qiM,qnS hs];simp
theorem qJ2:qiu s=true:=by simp only [qiu,qCt hs,qCA hs,qCC hs,qnS hs];simp
end
theorem qTj:∀ (f i:Nat) (s:qU),(lexL f i s).1.length≤s.length:=by
 intro f
 induction f with
 |zero=>intro i s;simp [lexL]
 |succ f ih =>
  intro i s;cases s with
  |nil=>simp [lexL]
  |cons c t =>
   simp only [lexL];cases hw:wdL (c::t) with
   |none=>simp
   |some r =>
    obtain⟨k,m,v⟩:=r;have h1:=qz4 hw;have:=ih (i+m+gapL false ((c::t).drop m)) ((c::t).drop (m+gapL false ((c::t).drop m)));simp only [List.length_cons,List.length_drop] at this ⊢;simp only [List.length_cons] at h1;omega
theorem qLT (s:qU):(wL s).length≤s.length:=by
 have h:=qTj (s.length+1) (gapL false s) (s.drop (gapL false s));rw [show lexL (s.length+1) (gapL false s) (s.drop (gapL false s))=qcl s from rfl] at h
 unfold wL;cases hw:qcl s with
 |mk l o =>
  rw [hw] at h
  have h2:(s.drop (gapL false s)).length≤s.length:=by simp
  cases o with
  |none=>exact Nat.le_trans h h2
  |some p=>simp
end Go.Pv
set_option maxHeartbeats 8000000
set_option maxRecDepth 200000
set_option linter.unusedSimpArgs false
set_option linter.unusedVariables false
namespace Go.Pv
open Go Go.Proofs Go.RowKit
def gpB (b:UInt8):Bool:=blB b || decide (b.toNat=37)
def Nxt (r r':qU):Prop:=r'=[]∨hdIs gpB r'=true∨∃ b t t',r=b::t∧r'=b::t'
theorem qvH {p:UInt8→Bool} (hp:∀ b,gpB b=true→p b=false) {r r':List UInt8} (hn:Nxt r r') (h:hdIs p r=false):hdIs p r'=false:=by
 rcases hn with rfl|hg|⟨b,t,t',rfl,rfl⟩
 ·rfl
 ·cases r' with
  |nil=>rfl
  |cons b t=>exact hp b hg
 ·exact h
theorem qvD {p:UInt8→Bool} (hp:∀ b,gpB b=true→p b=false) {r r':List UInt8} (hn:Nxt r r'):∀ t:qU,runL p (t++r)=t.length→runL p (t++r')=t.length
 |[],h=>by
  have h1:hdIs p r=false:=by
   cases r with
   |nil=>rfl
   |cons b t =>
    simp only [List.nil_append,runL,List.length_nil] at h
    cases hb:p b with
    |false=>exact hb
    |true=>rw [hb] at h;simp at h
  have h2:=qvH hp hn h1;cases r' with
  |nil=>rfl
  |cons b t =>
   have h2:p b=false:=h2;simp [runL,h2]
 |a::t,h=>by
  simp only [List.cons_append,runL,List.length_cons] at h ⊢;cases ha:p a with
  |false=>rw [ha] at h;simp at h
  |true =>
   rw [ha] at h
   simp only [if_true,Nat.add_right_cancel_iff] at h ⊢;exact qvD hp hn t h
theorem qFf {n m:Nat} (h:incN n=m+1):n=m∧m≠0:=by
 unfold incN at h
 split at h<;>omega
theorem qvB (r r':qU):∀ (e:Bool) (t:qU),quoE e (t++r)=t.length→t.length≠0→quoE e (t++r')=t.length
 |_,[],_,h=>absurd rfl h
 |true,a::t,h,_=>by
  simp only [List.cons_append,quoE,List.length_cons] at h ⊢;obtain⟨h1,h2⟩:=qFf h;rw [qvB r r' false t h1 h2];simp [incN,h2]
 |false,a::t,h,_=>by
  simp only [List.cons_append,quoE,List.length_cons] at h ⊢;split at h
  ·rename_i h1;rw [if_pos h1];exact h
  ·rename_i h1;rw [if_neg h1];split at h
   ·rename_i h2;rw [if_pos h2];obtain⟨h1,h2⟩:=qFf h;rw [qvB r r' true t h1 h2];simp [incN,h2]
   ·rename_i h2;rw [if_neg h2];obtain⟨h1,h2⟩:=qFf h;rw [qvB r r' false t h1 h2];simp [incN,h2]
theorem qGp {b:UInt8} (h:gpB b=true):b.toNat=32∨b.toNat=9∨b.toNat=10∨b.toNat=13∨b.toNat=37:=by
 simp only [gpB,blB,Bool.or_eq_true,decide_eq_true_eq] at h
 omega
theorem qPH (b:UInt8) (h:gpB b=true):innB b=false:=by
 rcases qGp h with h|h|h|h|h<;>simp [innB,qgf,qmd,qaE,h]
theorem zaap (b:UInt8) (h:gpB b=true):qaE b=false:=by
 rcases qGp h with h|h|h|h|h<;>simp [qaE,h]
theorem zaal (c b:UInt8) (h:gpB b=true):twoB c b=false:=by
 rcases qGp h with h|h|h|h|h<;>simp [twoB,h]
theorem qHF {k k':Int} {s:List UInt8} {n m:Nat} {v:Vl} (h:valL k s n=some (k',m,v)):k'=k∧m=n∧rdV (s.take n)=some v:=by
 unfold valL at h
 split at h
 ·rename_i v' hv;cases h
  exact⟨rfl,rfl,hv⟩
 ·cases h
theorem qQh {k:Int} {s s':List UInt8} {n m:Nat} {k':Int} {v:Vl} (h:valL k s n=some (k',m,v)) (e:s'.take n=s.take n):valL k s' n=some (k',m,v):=by
 unfold valL at h ⊢;rw [e];exact h
theorem qYO {x r r':List UInt8} {k:Int} {v:Vl} (h:wdL (x++r)=some (k,x.length,v)) (hn:Nxt r r'):wdL (x++r')=some (k,x.length,v):=by
 have hl:=(qz4 h).1;cases x with
 |nil=>simp at hl
 |cons c t =>
  simp only [List.cons_append,wdL,List.length_cons] at h ⊢;by_cases h1:qgf c=true
  ·simp only [h1,if_true] at h ⊢;split at h
   ·rename_i h2;simp only [Option.some.injEq,Prod.mk.injEq,Nat.add_right_cancel_iff] at h
    obtain⟨rfl,h3,rfl⟩:=h;have:=qvD qPH hn t h3;rw [this,if_pos (by omega)]
   ·cases h
  ·rw [if_neg h1] at h ⊢;by_cases h2:qmd c=true
   ·simp only [h2,if_true] at h ⊢;split at h
    ·rename_i h4;simp only [Option.some.injEq,Prod.mk.injEq,Nat.add_right_cancel_iff] at h
     obtain⟨rfl,h3,rfl⟩:=h;have:=qvD qPH hn t h3;rw [this,if_pos (by omega)]
    ·cases h
   ·rw [if_neg h2] at h ⊢;by_cases h3:c.toNat=95
    ·rw [if_pos h3] at h ⊢;split at h
     ·cases h
     ·rename_i h4;simp only [Option.some.injEq,Prod.mk.injEq] at h
      obtain⟨rfl,h5,rfl⟩:=h;have ht:t=[]:=by cases t with|nil=>rfl|cons=>simp at h5
      subst ht;have h6:=qvH qPH hn (by simpa using h4)
      simp [h6]
    ·rw [if_neg h3] at h ⊢;have dgs:∀ q:Bool,(q || (decide (c.toNat=45)&&hdIs qaE (t++r)))=(q || (decide (c.toNat=45)&&hdIs qaE (t++r')))∨(t=[]∧hdIs qaE r=true):=by
      intro q;cases t with
      |cons a t=>exact .inl rfl
      |nil =>
       cases hr:hdIs qaE r with
       |true=>exact .inr ⟨rfl,rfl⟩
       |false =>
        have:=qvH zaap hn hr
        left
        simp [hr,this]
     by_cases h4:(qaE c || (decide (c.toNat=45)&&hdIs qaE (t++r)))=true
     ·rw [if_pos h4] at h
      obtain⟨hk,hm,hv⟩:=qHF h;have h5:runL qaE (t++r)=t.length:=by omega
      have h6:=qvD zaap hn t h5;have h7:(qaE c || (decide (c.toNat=45)&&hdIs qaE (t++r')))=true:=by
       rcases dgs (qaE c) with e|⟨rfl,e⟩
       ·rw [← e];exact h4
       ·cases r with
        |nil=>simp [hdIs] at e
        |cons b u =>
         have e:qaE b=true:=e;simp [runL,e] at h5
      rw [if_pos h7,h6];rw [h5] at h
      refine qQh h ?_;simp
     ·rw [if_neg h4] at h
      have h7:¬ (qaE c || (decide (c.toNat=45)&&hdIs qaE (t++r')))=true:=by
       rcases dgs (qaE c) with e|⟨rfl,e⟩
       ·rw [← e];exact h4
       ·intro hh;apply h4;simp only [List.nil_append,Bool.or_eq_true,Bool.and_eq_true] at hh ⊢;rcases hh with hh|⟨hh,_⟩
        ·exact .inl hh
        ·exact .inr ⟨hh,e⟩
      rw [if_neg h7];by_cases h5:c.toNat=34
      ·rw [if_pos h5] at h ⊢;split at h
       ·cases h
       ·rename_i h6;obtain⟨hk,hm,hv⟩:=qHF h;have h8:quoL (t++r)=t.length:=by omega
        have h9:quoL (t++r')=t.length:=qvB r r' false t h8 (by omega)
        rw [h9,if_neg (by omega)]
        rw [h8] at h
        refine qQh h ?_;simp
      ·rw [if_neg h5] at h ⊢;split at h
       ·cases h
       ·rename_i h6;simp only [Option.some.injEq,Prod.mk.injEq] at h
        obtain⟨rfl,h8,rfl⟩:=h;have h9:qeA c (t++r')=t.length+1:=by
         unfold qeA at h8 ⊢;cases t with
         |nil =>
          show (if hdIs (twoB c) r'=true then 2 else if qob c=true then 1 else 0)=1
          have h8:(if hdIs (twoB c) r=true then 2 else if qob c=true then 1 else 0)=1:=h8;cases hr:hdIs (twoB c) r with
          |true=>rw [if_pos hr] at h8;omega
          |false =>
           rw [if_neg (by rw [hr];simp)] at h8
           rw [if_neg (by rw [qvH (zaal c) hn hr];simp)]
           exact h8
         |cons d t =>
          simp only [List.cons_append,hdIs] at h8 ⊢;exact h8
        rw [h9];simp
def gpS:Bool→qU→Option Bool
 |c,[]=>some c
 |c,b::s=>if c || blB b || decide (b.toNat=37) then gpS (decide (b.toNat=37) || c&&decide (b.toNat≠10)) s else none
theorem qRp:∀ (g:qU) (c c':Bool) (s:qU),gpS c g=some c'→gpS c (g++s)=gpS c' s
 |[],c,c',s,h=>by cases h;simp
 |b::g,c,c',s,h=>by
  simp only [gpS] at h
  split at h
  ·rename_i hb;simp only [List.cons_append,gpS,hb,if_true];exact qRp g _ c' s h
  ·cases h
abbrev Wv:=Int×List UInt8×Vl
def stW (w:Wd):Wv:=(w.1,w.2.1,w.2.2.1)
inductive Lx:List Wv→qU→Prop
 |nil (s:qU) (c:Bool) (h:gpS false s=some c):Lx [] s
 |cons (g x r:qU) (k:Int) (v:Vl) (l:List Wv) (hg:gpS false g=some false) (hw:wdL (x++r)=some (k,x.length,v)) (h:Lx l r):Lx ((k,x,v)::l) (g++(x++r))
theorem Lx.tail {z:List UInt8} (hz:hdIs gpB z=true) (h0:∀ c,∃ c',gpS c z=some c') {l:List Wv} {s:List UInt8} (h:Lx l s):Lx l (s++z):=by
 induction h with
 |nil s c h =>
  obtain⟨c',hc⟩:=h0 c;exact .nil _ c' (by rw [qRp s false c z h];exact hc)
 |cons g x r k v l hg hw h ih =>
  rw [List.append_assoc,List.append_assoc];refine .cons g x (r++z) k v l hg (qYO hw ?_) ih;cases r with
  |nil=>exact .inr (.inl hz)
  |cons b r=>exact .inr (.inr ⟨b,r,r++z,rfl,rfl⟩)
end Go.Pv
set_option maxHeartbeats 4000000
set_option linter.unusedSimpArgs false
set_option linter.unusedVariables false
namespace Go.Pv
inductive Rs (α:Type) where
 |ok (a:α) (l:List Wd)
 |no (l:List Wd)
abbrev Ps (α:Type):=List Wd→Rs α
def plc (n:Int):List Wd→Int
 |[]=>n
 |w::_=>w.2.2.2
def wIs (k:Int) (t:qU):List Wd→Bool
 |[]=>false
 |w::_=>decide (w.1=k)&&(decide (t=[]) || decide (w.2.1=t))
def resv (t:qU):Bool:=decide (t=[98,97,115,101]) || decide (t=[118,105,101,119]) || decide (t=[111,110]) || decide (t=[110,111,116])
def wNm:List Wd→Bool
 |[]=>false
 |w::_=>decide (w.1=1)&&!resv w.2.1
section
variable {α β : Type}
def qaz (a:α):Ps α:=fun l=>.ok a l
def qoa:Ps α:=fun l=>.no l
def qar (p:Ps α) (f:α→Ps β):Ps β:=fun l=>match p l with
 |.ok a r=>f a r
 |.no r=>.no r
def pIf (k:Int) (t:qU) (p:Wd→Ps α) (q:Ps α):Ps α:=fun l=>match l with
 |[]=>q []
 |w::r=>if wIs k t (w::r) then p w r else q (w::r)
def pCh (c:List Wd→Bool) (p:Ps α) (q:Ps α):Ps α:=fun l=>if c l then p l else q l
def qIq:Ps Wd:=fun l=>match l with
 |[]=>.no []
 |w::r=>.ok w r
def pRep (p:Ps α):Nat→List α→Ps (List α)
 |0,_=>qoa
 |n+1,acc=>qar p fun a=>pIf 6 [44] (fun _=>pRep p n (acc++[a])) (qaz (acc++[a]))
def pRow (p:Ps α):Ps (List α):=fun l=>pRep p (l.length+1) [] l
def qh9 (p:Ps α) (n:Nat) (acc:List α):Ps (List α):=pIf 6 [44] (fun _=>pRep p n acc) (qaz acc)
theorem qb7 (p:Ps α) (n:Nat) (acc:List α):pRep p (n+1) acc=qar p fun a=>qh9 p n (acc++[a]):=rfl
def qa2 (k:Int) (t:qU):Ps Wd:=pIf k t qaz qoa
def qhC (p:Ps α):Ps (List α):=qar (qa2 6 [40]) fun _=>pIf 6 [41] (fun _=>qaz []) (qar (pRow p) fun l=>qar (qa2 6 [41]) fun _=>qaz l)
end
def qhW:Ps (List UInt8):=pCh wNm (qar qIq fun w=>qaz w.2.1) qoa
def pTyp:Ps Int:=pIf 1 [105,110,116] (fun _=>qaz 1) (pIf 1 [115,121,109] (fun _=>qaz 2) qoa)
def qcz:Ps Tm:=pIf 2 [] (fun w=>qaz (1,w.2.1,0,0,[])) (pIf 4 [] (fun w=>qaz (2,[],w.2.2.1)) (pIf 5 [] (fun w=>qaz (2,[],w.2.2.1)) (pIf 3 [] (fun _=>qaz (3,[],0,0,[])) qoa)))
def qhD:Ps At:=qar qhW fun n=>qar (qhC qcz) fun l=>qaz (n,l)
def pOp:Ps Int:=pIf 6 [61] (fun _=>qaz 1) (pIf 6 [33,61] (fun _=>qaz 2) (pIf 6 [60] (fun _=>qaz 3) (pIf 6 [60,61] (fun _=>qaz 4) (pIf 6 [62] (fun _=>qaz 5) (pIf 6 [62,61] (fun _=>qaz 6) qoa)))))
def tm0:Tm:=(0,[],0,0,[])
def pLit:Ps Li:=pIf 1 [110,111,116] (fun _=>qar qhD fun a=>qaz (2,a,0,tm0,tm0))
 (pCh wNm (qar qhD fun a=>qaz (1,a,0,tm0,tm0))
  (qar qcz fun a=>qar pOp fun o=>qar qcz fun b=>qaz (3,([],[]),o,a,b)))
def pDot {α:Type} (x:α):Ps α:=qar (qa2 6 [46]) fun _=>qaz x
def qjR:Ps Ru:=qar qhD fun a=>pIf 6 [58,45] (fun _=>qar (pRow pLit) fun b=>pDot (a,b)) (pDot (a,[]))
def qt9:Ps De:=qar qIq fun w=>qar qhW fun n=>qar (qhC pTyp) fun t=>pDot (n,decide (w.2.1=[98,97,115,101]),t)
def pAct:Ps Ac:=pIf 6 [43] (fun _=>qar qhD fun a=>qaz (true,a)) (qar (qa2 6 [45]) fun _=>qar qhD fun a=>qaz (false,a))
def qch:Ps Pa:=qar (qa2 2 []) fun w=>qar pTyp fun t=>qaz (w.2.1,t)
def pOn:Ps En:=qar qIq fun _=>qar qhW fun n=>qar (qhC qch) fun ps=>pIf 6 [58] (fun _=>qar (pRow pAct) fun l=>pDot (n,ps,l)) (pDot (n,ps,[]))
abbrev Pg:=List De×List En×List Ru
def isDe (l:List Wd):Bool:=wIs 1 [98,97,115,101] l || wIs 1 [118,105,101,119] l
def pOne (g:Pg):Ps Pg:=pCh isDe (qar qt9 fun d=>qaz (g.1++[d],g.2.1,g.2.2))
 (pCh (wIs 1 [111,110]) (qar pOn fun d=>qaz (g.1,g.2.1++[d],g.2.2)) (qar qjR fun d=>qaz (g.1,g.2.1,g.2.2++[d])))
def qkK:Nat→Pg→Ps Pg
 |0,_=>qoa
 |n+1,g=>fun l=>match l with
  |[]=>.ok g []
  |w::r=>qar (pOne g) (qkK n) (w::r)
def qk5:Ps Pg:=fun l=>qkK (l.length+1) ([],[],[]) l
def pEnd {α:Type}:Rs α→Rs α
 |.ok a []=>.ok a []
 |.ok _ (w::r)=>.no (w::r)
 |.no r=>.no r
def Alk (l l':List Wd):Prop:=l.map stW=l'.map stW
theorem Alk.nil_iff {l l':List Wd} (h:Alk l l'):l=[]↔l'=[]:=by
 cases l<;>cases l'<;>simp_all [Alk]
theorem Alk.len {l l':List Wd} (h:Alk l l'):l.length=l'.length:=by
 have:=congrArg List.length h;simpa using this
theorem Alk.cons {w:Wd} {l:List Wd} {m:List Wd} (h:Alk (w::l) m):∃ w' l',m=w'::l'∧w'.1=w.1∧w'.2.1=w.2.1∧w'.2.2.1=w.2.2.1∧Alk l l':=by
 cases m with
 |nil=>simp [Alk] at h
 |cons w' l' =>
  simp only [Alk,stW,List.map_cons,List.cons.injEq,Prod.mk.injEq] at h
  exact⟨w',l',rfl,h.1.1.symm,h.1.2.1.symm,h.1.2.2.symm,h.2⟩
theorem Alk.wIs {l l':List Wd} (h:Alk l l') (k:Int) (t:qU):wIs k t l'=wIs k t l:=by
 cases l with
 |nil=>rw [(h.nil_iff.1 rfl)]
 |cons w l =>
  obtain⟨w',l',rfl,h1,h2,_,_⟩:=h.cons;simp only [Go.Pv.wIs,h1,h2]
theorem Alk.wNm {l l':List Wd} (h:Alk l l'):wNm l'=wNm l:=by
 cases l with
 |nil=>rw [(h.nil_iff.1 rfl)]
 |cons w l =>
  obtain⟨w',l',rfl,h1,h2,_,_⟩:=h.cons;simp only [Go.Pv.wNm,h1,h2]
theorem quG (k:Int) (t:qU) {l:List Wd} (h:l≠[]) (m:List Wd):wIs k t (l++m)=wIs k t l:=by
 cases l with
 |nil=>exact absurd rfl h
 |cons=>rfl
theorem qYe {l:List Wd} (h:l≠[]) (m:List Wd):wNm (l++m)=wNm l:=by
 cases l with
 |nil=>exact absurd rfl h
 |cons=>rfl
def Rs.rest {α:Type}:Rs α→List Wd
 |.ok _ r=>r
 |.no r=>r
def Rs.app {α:Type} (m:List Wd):Rs α→Rs α
 |.ok a r=>.ok a (r++m)
 |.no r=>.no (r++m)
def RAlk {α:Type}:Rs α→Rs α→Prop
 |.ok a r,.ok b r'=>a=b∧Alk r r'
 |.no r,.no r'=>Alk r r'
 |_,_=>False
theorem RAlk.ok {α:Type} {a:α} {r:List Wd} {y:Rs α} (h:RAlk (.ok a r) y):∃ r',y=.ok a r'∧Alk r r':=by
 cases y with
 |ok b r'=>exact⟨r',by rw [h.1],h.2⟩
 |no r'=>exact h.elim
theorem RAlk.no {α:Type} {r:List Wd} {y:Rs α} (h:RAlk (.no r) y):∃ r',y=.no r'∧Alk r r':=by
 cases y with
 |ok b r'=>exact h.elim
 |no r'=>exact⟨r',rfl,h⟩
theorem qSN {u r:List Wd} (h:r≠[]):u++r≠[]:=by simp [h]
structure Good {α:Type} (p:Ps α):Prop where
 suf:∀ l,∃ u,l=u++(p l).rest
 ext:∀ l,(p l).rest≠[]→∀ m,p (l++m)=(p l).app m
 alk:∀ {l l'},Alk l l'→RAlk (p l) (p l')
section
variable {α β : Type}
theorem qaM (a:α):Good (qaz a):=⟨fun _=>⟨[],rfl⟩,fun _ _ _=>rfl,fun h=>⟨rfl,h⟩⟩
theorem qlz:Good (qoa:Ps α):=⟨fun _=>⟨[],rfl⟩,fun _ _ _=>rfl,fun h=>h⟩
theorem qa6 {p:Ps α} {f:α→Ps β} (hp:Good p) (hf:∀ a,Good (f a)):Good (qar p f):=by
 refine⟨fun l=>?_,fun l=>?_,fun {l l'} hl=>?_⟩
 ·obtain⟨u,hu⟩:=hp.suf l;unfold qar;split
  ·rename_i a r h1;rw [h1] at hu;obtain⟨v,hv⟩:=(hf a).suf r;exact⟨u++v,by rw [List.append_assoc,← hv];exact hu⟩
  ·rename_i r h1;rw [h1] at hu;exact⟨u,hu⟩
 ·have he:=hp.ext l;unfold qar;split
  ·rename_i a r h1;rw [h1] at he;intro hr m;obtain⟨v,hv⟩:=(hf a).suf r;rw [he (by show r≠[];rw [hv];exact qSN hr) m]
   exact (hf a).ext r hr m
  ·rename_i r h1;rw [h1] at he;intro hr m;rw [he hr m];rfl
 ·have ha:=hp.alk hl;unfold qar;split
  ·rename_i a r h1;rw [h1] at ha;obtain⟨r',h2,h3⟩:=ha.ok;rw [h2];exact (hf a).alk h3
  ·rename_i r h1;rw [h1] at ha;obtain⟨r',h2,h3⟩:=ha.no;rw [h2];exact h3
abbrev NoAt (f:Wd→β):Prop:=∀ w w':Wd,w'.1=w.1→w'.2.1=w.2.1→w'.2.2.1=w.2.2.1→f w'=f w
theorem qaX {k:Int} {t:List UInt8} {p:Wd→Ps α} {q:Ps α} {w:Wd} {l:List Wd} (h:wIs k t (w::l)=true):pIf k t p q (w::l)=p w l:=if_pos h
theorem qaK {k:Int} {t:List UInt8} {p:Wd→Ps α} {q:Ps α} {l:List Wd} (h:wIs k t l=false):pIf k t p q l=q l:=by
 cases l with
 |nil=>rfl
 |cons w l=>exact if_neg (by rw [h];simp)
theorem qcw {k:Int} {t:List UInt8} {p:Wd→Ps α} {q:Ps α} (hp:∀ w,Good (p w)) (hw:NoAt p) (hq:Good q):Good (pIf k t p q):=by
 refine⟨fun l=>?_,fun l=>?_,fun {l l'} hl=>?_⟩
 ·cases hi:wIs k t l with
  |false=>rw [qaK hi];exact hq.suf l
  |true=>cases l with
   |nil=>cases hi
   |cons w l =>
    rw [qaX hi];obtain⟨u,hu⟩:=(hp w).suf l;exact⟨w::u,by rw [List.cons_append,← hu]⟩
 ·cases hi:wIs k t l with
  |false =>
   rw [qaK hi];intro hr m;obtain⟨u,hu⟩:=hq.suf l;have hne:l≠[]:=by rw [hu];exact qSN hr
   rw [qaK (by rw [quG k t hne];exact hi)]
   exact hq.ext l hr m
  |true=>cases l with
   |nil=>cases hi
   |cons w l =>
    rw [qaX hi];intro hr m;exact (qaX (l:=l++m) hi).trans ((hp w).ext l hr m)
 ·cases hi:wIs k t l with
  |false=>rw [qaK hi,qaK (by rw [hl.wIs];exact hi)];exact hq.alk hl
  |true=>cases l with
   |nil=>cases hi
   |cons w l =>
    have hi':=(hl.wIs k t).trans hi;obtain⟨w',l',rfl,a1,a2,a3,a4⟩:=hl.cons;rw [qaX hi,qaX hi',hw w w' a1 a2 a3];exact (hp w).alk a4
structure HdT (c:List Wd→Bool):Prop where
 app:∀ {l:List Wd},l≠[]→∀ m,c (l++m)=c l
 alk:∀ {l l':List Wd},Alk l l'→c l'=c l
theorem qV0 (k:Int) (t:qU):HdT (wIs k t):=⟨fun h m=>quG k t h m,fun h=>h.wIs k t⟩
theorem qVT:HdT wNm:=⟨fun h m=>qYe h m,fun h=>h.wNm⟩
theorem qPL:HdT isDe:=⟨fun h m=>by unfold isDe;rw [quG _ _ h,quG _ _ h],fun h=>by unfold isDe;rw [h.wIs,h.wIs]⟩
theorem qDn {c:List Wd→Bool} {p q:Ps α} (hc:HdT c) (hp:Good p) (hq:Good q):Good (pCh c p q):=by
 refine⟨fun l=>?_,fun l=>?_,fun {l l'} hl=>?_⟩
 ·unfold pCh;split
  ·exact hp.suf l
  ·exact hq.suf l
 ·have key:∀ {z:Ps α},Good z→(z l).rest≠[]→l≠[]:=fun {z} hz hr=>by
   obtain⟨u,hu⟩:=hz.suf l;rw [hu];exact qSN hr
  unfold pCh;split
  ·rename_i hi;intro hr m;rw [hc.app (key hp hr),if_pos hi];exact hp.ext l hr m
  ·rename_i hi;intro hr m;rw [hc.app (key hq hr),if_neg hi];exact hq.ext l hr m
 ·unfold pCh;rw [hc.alk hl];split
  ·exact hp.alk hl
  ·exact hq.alk hl
theorem qzt {f:Wd→Ps β} (hp:∀ w,Good (f w)) (hw:NoAt f):Good (qar qIq f):=by
 refine⟨fun l=>?_,fun l=>?_,fun {l l'} hl=>?_⟩
 ·cases l with
  |nil=>exact⟨[],rfl⟩
  |cons w l =>
   obtain⟨u,hu⟩:=(hp w).suf l;exact⟨w::u,congrArg (w::·) hu⟩
 ·cases l with
  |nil=>exact fun h=>absurd rfl h
  |cons w l=>exact (hp w).ext l
 ·cases l with
  |nil =>
   have:=hl.nil_iff.1 rfl;subst this;exact hl
  |cons w l =>
   obtain⟨w',l',rfl,a1,a2,a3,a4⟩:=hl.cons;show RAlk (f w l) (f w' l')
   rw [hw w w' a1 a2 a3];exact (hp w).alk a4
theorem qlY (k:Int) (t:qU) {f:Wd→Ps β} (hp:∀ w,Good (f w)) (hw:NoAt f):Good (qar (qa2 k t) f):=by
 have e:qar (qa2 k t) f=pIf k t f qoa:=by
  funext l
  unfold qar qa2;cases hi:wIs k t l with
  |false=>rw [qaK hi,qaK hi];rfl
  |true=>cases l with
   |nil=>cases hi
   |cons w l=>rw [qaX hi,qaX hi];rfl
 rw [e];exact qcw hp hw qlz
theorem qLP {p:Ps α} (hp:Good p) (l:List Wd):(p l).rest.length≤l.length:=by
 obtain⟨u,hu⟩:=hp.suf l;have:=congrArg List.length hu;simp only [List.length_append] at this;omega
theorem qwd {p:Ps α} (hp:Good p):∀ (n:Nat) (acc:List α) (l:List Wd),l.length < n→(∃ u,l=u++(pRep p n acc l).rest)∧((pRep p n acc l).rest≠[]→∀ m n',(l++m).length < n'→pRep p n' acc (l++m)=(pRep p n acc l).app m)∧∀ {l' n'},Alk l l'→l'.length < n'→RAlk (pRep p n acc l) (pRep p n' acc l')
 |0,_,_,h=>absurd h (Nat.not_lt_zero _)
 |n+1,acc,l,h=>by
  have hz:∀ {n':Nat} {l':List Wd},l'.length < n'→n'=n' - 1+1:=fun h=>by omega
  cases h1:p l with
  |no r =>
   have e:∀ n' l' x,p l'=.no x→pRep p (n'+1) acc l'=.no x:=fun n' l' x hx=>by rw [qb7];unfold qar;rw [hx]
   rw [e n l r h1];have hs:=hp.suf l;have he:=hp.ext l;rw [h1] at hs he;refine⟨hs,fun hr m n' hn=>?_,fun {l' n'} hl hn=>?_⟩
   ·rw [hz hn,e _ _ _ (he hr m)];rfl
   ·have ha:=hp.alk hl;rw [h1] at ha;obtain⟨r',h2,h3⟩:=ha.no;rw [hz hn,e _ _ _ h2];exact h3
  |ok a r =>
   have e:∀ n' l' x,p l'=.ok a x→pRep p (n'+1) acc l'=qh9 p n' (acc++[a]) x:=fun n' l' x hx=>by rw [qb7];unfold qar;rw [hx]
   rw [e n l r h1];obtain⟨u,hs⟩:=hp.suf l;have he:=hp.ext l;rw [h1] at hs he;have hs:l=u++r:=hs;have hle:=qLP hp l;rw [h1] at hle;have hle:r.length≤l.length:=hle;cases hi:wIs 6 [44] r with
   |false =>
    have e2:∀ n' x,wIs 6 [44] x=false→qh9 p n' (acc++[a]) x=.ok (acc++[a]) x:=fun n' x hx=>by unfold qh9;rw [qaK hx];rfl
    rw [e2 n r hi];refine⟨⟨u,hs⟩,fun hr m n' hn=>?_,fun {l' n'} hl hn=>?_⟩
    ·rw [hz hn,e _ _ _ (he hr m),e2 _ _ (by rw [quG _ _ (show r≠[] from hr)];exact hi)]
     rfl
    ·have ha:=hp.alk hl;rw [h1] at ha;obtain⟨r',h2,h3⟩:=ha.ok;rw [hz hn,e _ _ _ h2,e2 _ _ (by rw [h3.wIs];exact hi)]
     exact⟨rfl,h3⟩
   |true=>cases r with
    |nil=>cases hi
    |cons w r =>
     have e2:∀ n' w' x,wIs 6 [44] (w'::x)=true→qh9 p n' (acc++[a]) (w'::x)=pRep p n' (acc++[a]) x:=fun n' w' x hx=>by unfold qh9;rw [qaX hx]
     rw [e2 n w r hi];simp only [List.length_cons] at hle;obtain⟨⟨v,hv⟩,k2,k3⟩:=qwd hp n (acc++[a]) r (by omega)
     refine⟨⟨u++w::v,by rw [List.append_assoc,List.cons_append,← hv];exact hs⟩,fun hr m n' hn=>?_,fun {l' n'} hl hn=>?_⟩
     ·rw [hz hn,e _ _ _ (he (by simp [Rs.rest]) m)]
      refine (e2 _ w (r++m) hi).trans (k2 hr m _ ?_);simp only [List.length_append] at hn ⊢;omega
     ·have ha:=hp.alk hl;rw [h1] at ha;obtain⟨r',h2,h3⟩:=ha.ok;have hi':=(h3.wIs 6 [44]).trans hi;have hl':=qLP hp l';rw [h2] at hl';have hl':r'.length≤l'.length:=hl';obtain⟨w',r'',rfl,_,_,_,a4⟩:=h3.cons;rw [hz hn,e _ _ _ h2,e2 _ _ _ hi'];refine k3 a4 ?_;simp only [List.length_cons] at hl';omega
theorem qsZ {p:Ps α} (hp:Good p):Good (pRow p) :=
 ⟨fun l=>(qwd hp _ _ l (Nat.lt_succ_self _)).1,fun l hr m=>(qwd hp _ _ l (Nat.lt_succ_self _)).2.1 hr m _ (Nat.lt_succ_self _),fun hl=>(qwd hp _ _ _ (Nat.lt_succ_self _)).2.2 hl (Nat.lt_succ_self _)⟩
theorem qd2 (f:β):NoAt (fun _:Wd=>f):=fun _ _ _ _ _=>rfl
theorem qhP {p:Ps α} (hp:Good p):Good (qhC p) :=
 qlY _ _ (fun _=>qcw (fun _=>qaM _) (qd2 _) (qa6 (qsZ hp) fun _=>qlY _ _ (fun _=>qaM _) (qd2 _))) (qd2 _)
theorem qrz (a:α):Good (pDot a):=qlY _ _ (fun _=>qaM _) (qd2 _)
end
theorem qeR:Good qhW:=qDn qVT (qzt (fun _=>qaM _) fun w w' _ h _=>by rw [h]) qlz
theorem qm5:Good pTyp:=qcw (fun _=>qaM _) (qd2 _) (qcw (fun _=>qaM _) (qd2 _) qlz)
theorem qiL:Good qcz:=qcw (fun _=>qaM _) (fun w w' _ h _=>by rw [h]) (qcw (fun _=>qaM _) (fun w w' _ _ h=>by rw [h]) (qcw (fun _=>qaM _) (fun w w' _ _ h=>by rw [h]) (qcw (fun _=>qaM _) (qd2 _) qlz)))
theorem qgs:Good qhD:=qa6 qeR fun _=>qa6 (qhP qiL) fun _=>qaM _
theorem qW2:Good pOp:=qcw (fun _=>qaM _) (qd2 _) (qcw (fun _=>qaM _) (qd2 _) (qcw (fun _=>qaM _) (qd2 _) (qcw (fun _=>qaM _) (qd2 _) (qcw (fun _=>qaM _) (qd2 _) (qcw (fun _=>qaM _) (qd2 _) qlz)))))
theorem qqp:Good pLit:=qcw (fun _=>qa6 qgs fun _=>qaM _) (qd2 _) (qDn qVT (qa6 qgs fun _=>qaM _) (qa6 qiL fun _=>qa6 qW2 fun _=>qa6 qiL fun _=>qaM _))
theorem good_rule:Good qjR:=qa6 qgs fun _=>qcw (fun _=>qa6 (qsZ qqp) fun _=>qrz _) (qd2 _) (qrz _)
theorem qPC:Good qt9:=qzt (fun _=>qa6 qeR fun _=>qa6 (qhP qm5) fun _=>qrz _) fun w w' _ h _=>by rw [h]
theorem qqL:Good pAct:=qcw (fun _=>qa6 qgs fun _=>qaM _) (qd2 _) (qlY _ _ (fun _=>qa6 qgs fun _=>qaM _) (qd2 _))
theorem qfK:Good qch:=qlY _ _ (fun _=>qa6 qm5 fun _=>qaM _) fun w w' _ h _=>by rw [h]
theorem qWp:Good pOn:=qzt (fun _=>qa6 qeR fun _=>qa6 (qhP qfK) fun _=>qcw (fun _=>qa6 (qsZ qqL) fun _=>qrz _) (qd2 _) (qrz _)) (qd2 _)
theorem qUW (g:Pg):Good (pOne g):=qDn qPL (qa6 qPC fun _=>qaM _) (qDn (qV0 _ _) (qa6 qWp fun _=>qaM _) (qa6 good_rule fun _=>qaM _))
structure Str {α:Type} (p:Ps α):Prop where
 of:∀ {l a r},p l=.ok a r→r.length < l.length∧∀ m,p (l++m)=.ok a (r++m)
section
variable {α β : Type}
theorem qyO (x:α):Str (pDot x):=by
 refine⟨fun {l a r} h=>?_⟩
 cases l with
 |nil=>cases h
 |cons w l =>
  have e:∀ l',pDot x (w::l')=if wIs 6 [46] (w::l') then .ok x l' else .no (w::l'):=fun l'=>by
   unfold pDot qar qa2;cases hi:wIs 6 [46] (w::l') with
   |false=>rw [qaK hi];rfl
   |true=>rw [qaX hi];rfl
  rw [e] at h
  split at h
  ·rename_i hi;cases h
   exact⟨Nat.lt_succ_self _,fun m=>(e _).trans (if_pos hi)⟩
  ·cases h
theorem qMN {r:List Wd} {n:Nat} (h:n < r.length):r≠[]:=by
 intro e;rw [e] at h
 exact absurd h (Nat.not_lt_zero _)
theorem qkp {p:Ps α} {f:α→Ps β} (hp:Good p) (hf:∀ a,Str (f a)):Str (qar p f):=by
 refine⟨fun {l b r} h=>?_⟩
 unfold qar at h
 split at h
 ·rename_i a r1 h1;obtain⟨k1,k2⟩:=(hf a).of h;have h2:=qLP hp l;have h3:=hp.ext l;rw [h1] at h2 h3;have h2:r1.length≤l.length:=h2;refine⟨by omega,fun m=>?_⟩
  unfold qar;rw [h3 (qMN k1) m];exact k2 m
 ·cases h
theorem qFR {p:Ps α} {g:α→β} (hp:Str p):Str (qar p fun a=>qaz (g a)):=by
 refine⟨fun {l b r} h=>?_⟩
 unfold qar at h
 split at h
 ·rename_i a r1 h1;cases h
  obtain⟨k1,k2⟩:=hp.of h1;exact⟨k1,fun m=>by unfold qar;rw [k2 m];rfl⟩
 ·cases h
theorem qMf {f:Wd→Ps β} (hf:∀ w,Str (f w)):Str (qar qIq f):=by
 refine⟨fun {l b r} h=>?_⟩
 cases l with
 |nil=>cases h
 |cons w l =>
  obtain⟨k1,k2⟩:=(hf w).of (show f w l=.ok b r from h)
  exact⟨Nat.lt_succ_of_lt k1,fun m=>k2 m⟩
theorem qVR {k:Int} {t:List UInt8} {p:Wd→Ps α} {q:Ps α} (hp:∀ w,Str (p w)) (hq:Str q):Str (pIf k t p q):=by
 refine⟨fun {l b r} h=>?_⟩
 cases hi:wIs k t l with
 |false =>
  rw [qaK hi] at h
  obtain⟨k1,k2⟩:=hq.of h;exact⟨k1,fun m=>by rw [qaK (by rw [quG _ _ (qMN k1)];exact hi)];exact k2 m⟩
 |true=>cases l with
  |nil=>cases hi
  |cons w l =>
   rw [qaX hi] at h
   obtain⟨k1,k2⟩:=(hp w).of h;exact⟨Nat.lt_succ_of_lt k1,fun m=>(qaX (l:=l++m) hi).trans (k2 m)⟩
theorem qVU {c:List Wd→Bool} {p q:Ps α} (hc:HdT c) (hp:Str p) (hq:Str q):Str (pCh c p q):=by
 refine⟨fun {l b r} h=>?_⟩
 unfold pCh at h ⊢;split at h
 ·rename_i hi;obtain⟨k1,k2⟩:=hp.of h;exact⟨k1,fun m=>by rw [hc.app (qMN k1),if_pos hi];exact k2 m⟩
 ·rename_i hi;obtain⟨k1,k2⟩:=hq.of h;exact⟨k1,fun m=>by rw [hc.app (qMN k1),if_neg hi];exact k2 m⟩
end
theorem qUO:Str qjR:=qkp qgs fun _=>qVR (fun _=>qkp (qsZ qqp) fun _=>qyO _) (qyO _)
theorem qTU:Str qt9:=qMf fun _=>qkp qeR fun _=>qkp (qhP qm5) fun _=>qyO _
theorem zaao:Str pOn:=qMf fun _=>qkp qeR fun _=>qkp (qhP qfK) fun _=>qVR (fun _=>qkp (qsZ qqL) fun _=>qyO _) (qyO _)
theorem qDy (g:Pg):Str (pOne g):=qVU qPL (qFR qTU) (qVU (qV0 _ _) (qFR zaao) (qFR qUO))
theorem qlq {n:Nat} {g:Pg} {l:List Wd} (h:l≠[]):qkK (n+1) g l=qar (pOne g) (qkK n) l:=by
 cases l with
 |nil=>exact absurd rfl h
 |cons=>rfl
theorem qao {α β:Type} {p:Ps α} {f:α→Ps β} {l r:List Wd} {a:α} (h:p l=.ok a r):qar p f l=f a r:=by unfold qar;rw [h]
theorem qam {α β:Type} {p:Ps α} {f:α→Ps β} {l r:List Wd} (h:p l=.no r):qar p f l=.no r:=by unfold qar;rw [h]
theorem qGV:∀ (n:Nat) (g:Pg) (l:List Wd) (a:Pg) (r:List Wd),qkK n g l=.ok a r→r=[]
 |0,_,_,_,_,h=>by cases h
 |n+1,g,[],a,r,h=>by cases h;rfl
 |n+1,g,w::l,a,r,h=>by
  rw [qlq (by simp)] at h
  unfold qar at h
  split at h
  ·exact qGV n _ _ _ _ h
  ·cases h
theorem qHE:∀ (n:Nat) (g:Pg) (l:List Wd),l.length < n→∃ u,l=u++(qkK n g l).rest
 |0,_,_,h=>absurd h (Nat.not_lt_zero _)
 |n+1,g,[],h=>⟨[],rfl⟩
 |n+1,g,w::l,h=>by
  rw [qlq (by simp)]
  obtain⟨u,hu⟩:=(qUW g).suf (w::l);cases h1:pOne g (w::l) with
  |no r=>rw [h1] at hu;rw [qam h1];exact⟨u,hu⟩
  |ok b r =>
   have k1:=((qDy g).of h1).1;rw [h1] at hu;rw [qao h1];obtain⟨v,hv⟩:=qHE n b r (by simp only [List.length_cons] at k1 h;omega)
   exact⟨u++v,by rw [List.append_assoc,← hv];exact hu⟩
theorem qT6 (l:List Wd):∃ u,l=u++(qk5 l).rest:=qHE _ _ _ (Nat.lt_succ_self _)
theorem ch_f {α:Type} {c:List Wd→Bool} {p q:Ps α} {l:List Wd} (h:c l=false):pCh c p q l=q l:=if_neg (by rw [h];simp)
end Go.Pv
set_option maxHeartbeats 4000000
set_option maxRecDepth 200000
set_option linter.unusedSimpArgs false
set_option linter.unusedVariables false
namespace Go.Pv
open Go Go.Proofs
@[simp] def bst (l:List Wd) (n:Int):Store:=⟨[[.sl (rOf cW l) .non,.int .i64 n]],[],[138]⟩
@[simp] def mfit (n:Int):PV:=.iface 172 (.agg [.int .i64 n])
def bOut {α:Type} (f:α→PV) (n:Int):Rs α→PR×Store
 |.ok a r=>(.val (f a),bst r n)
 |.no r=>(.pan (mfit (plc n r)),bst r n)
@[simp] theorem bOut_ok {α:Type} (f:α→PV) (n:Int) (a:α) (r:List Wd):bOut f n (.ok a r)=(.val (f a),bst r n):=rfl
@[simp] theorem bOut_no {α:Type} (f:α→PV) (n:Int) (r:List Wd):bOut f n (.no r)=(.pan (mfit (plc n r)),bst r n):=rfl
@[simp] def vcW (w:Wd):PV:=.agg [.int .i64 w.1,.str w.2.1,.int .i64 w.2.2.1.1,.int .i64 w.2.2.1.2.1,.str w.2.2.1.2.2,.int .i64 w.2.2.2]
@[simp] def vcM (t:Tm):PV:=.agg [.int .i64 t.1,.str t.2.1,.int .i64 t.2.2.1,.int .i64 t.2.2.2.1,.str t.2.2.2.2]
@[simp] def vcA (a:At):PV:=.agg [.str a.1,.sl (rOf cM a.2) .non]
@[simp] def vcL (t:Li):PV:=.agg [.int .i64 t.1,.str t.2.1.1,.sl (rOf cM t.2.1.2) .non,.int .i64 t.2.2.1,.int .i64 t.2.2.2.1.1,.str t.2.2.2.1.2.1,.int .i64 t.2.2.2.1.2.2.1,.int .i64 t.2.2.2.1.2.2.2.1,.str t.2.2.2.1.2.2.2.2,.int .i64 t.2.2.2.2.1,.str t.2.2.2.2.2.1,.int .i64 t.2.2.2.2.2.2.1,.int .i64 t.2.2.2.2.2.2.2.1,.str t.2.2.2.2.2.2.2.2]
@[simp] def vcRu (t:Ru):PV:=.agg [.str t.1.1,.sl (rOf cM t.1.2) .non,.sl (rOf cL t.2) .non]
@[simp] def vcD (t:De):PV:=.agg [.str t.1,.bool t.2.1,.sl (rOf cI t.2.2) .non]
@[simp] def vcP (t:Pa):PV:=.agg [.str t.1,.int .i64 t.2]
@[simp] def vcAc (t:Ac):PV:=.agg [.bool t.1,.str t.2.1,.sl (rOf cM t.2.2) .non]
@[simp] def vcE (t:En):PV:=.agg [.str t.1,.sl (rOf cP t.2.1) .non,.sl (rOf cAc t.2.2) .non]
@[simp] def vcPg (t:Pg):PV:=.agg [.sl (rOf cD t.1) .non,.sl (rOf cE t.2.1) .non,.sl (rOf cRu t.2.2) .non]
attribute [simp] qvk qgt qsB qmt quD qJT qJf qdI qE7 qsr qsu qv2 qjW qpL qq5 qbG qa1 qbI qlZ ql8 qti quv qul qic qyF qiU qix qt8 qqT qbS qbQ qbH qbF qbD qk0 qk6 qi6 qhQ qh2 qgq qnB qmE qj2 qkg qjB qjs qfT qgK qcJ qcO qdH qeT qeS qeU qcQ qdM
@[simp] theorem bis_law (l:List Wd) (n k:Int) (t:qU):qRz (rOf cW l) n k t=some (.bool (wIs k t l)):=by
 cases l with
 |nil=>simp [qRz,qMy,↓Tr.run_ite,wIs]
 |cons w l =>
  by_cases h1:w.1=k<;>by_cases h2:t=[]<;>simp [qRz,qMy,↓Tr.run_ite,wIs,h1,h2]
@[simp] theorem tail_rOf {α:Type} (C:Cod α) (l:List α):(rOf C l).tail=rOf C l.tail:=by cases l<;>rfl
@[simp] theorem bnamed_law (l:List Wd) (n:Int):qsN (rOf cW l) n=some (.bool (wNm l)):=by
 cases h:wIs 1 [] l with
 |false =>
  have:wNm l=false:=by
   cases l with
   |nil=>rfl
   |cons w l =>
    simp only [wIs,decide_true,Bool.true_or,Bool.and_true,decide_eq_false_iff_not] at h
    simp [wNm,h]
  simp [qsN,qrt,↓Tr.run_ite,this,h]
 |true=>cases l with
  |nil=>cases h
  |cons w l =>
   have h1:w.1=1:=by simpa [wIs] using h
   by_cases h2:w.2.1=[98,97,115,101]<;>by_cases h3:w.2.1=[118,105,101,119]<;>by_cases h4:w.2.1=[111,110]<;>by_cases h5:w.2.1=[110,111,116]<;>simp [qsN,qrt,↓Tr.run_ite,wNm,wIs,resv,h1,h2,h3,h4,h5]
@[simp] theorem bno_law (l:List Wd) (n:Int):qOx (rOf cW l) n=some (.pan (mfit (plc n l)),bst l n):=by
 cases l with
 |nil=>simp [qOx,qL9,↓Tr.run_ite,plc]
 |cons w l=>simp [qOx,qL9,↓Tr.run_ite,plc]
@[simp] theorem bpass_law (w:Wd) (l:List Wd) (n:Int):qhE (rOf cW (w::l)) n=some (.val (vcW w),bst l n):=by
 simp [qhE,qE3,↓Tr.run_ite]
theorem qa9 {k:Int} {t:List UInt8} {l:List Wd} (h:wIs k t l=false) (n:Int):qpg k t (rOf cW l) n=some (.val (.bool false),bst l n):=by
 simp [qpg,qxa,↓Tr.run_ite,h]
theorem qa5 {k:Int} {t:List UInt8} {w:Wd} {l:List Wd} (h:wIs k t (w::l)=true) (n:Int):qpg k t (rOf cW (w::l)) n=some (.val (.bool true),bst l n):=by
 simp [qpg,qxa,↓Tr.run_ite,h]
@[simp] theorem bneed_law (k:Int) (t:qU) (l:List Wd) (n:Int):qdT k t (rOf cW l) n=some (bOut vcW n (qa2 k t l)):=by
 cases h:wIs k t l with
 |false=>simp [qdT,qxj,↓Tr.run_ite,qa2,qaK h,h,qoa]
 |true=>cases l with
  |nil=>cases h
  |cons w l=>simp [qdT,qxj,↓Tr.run_ite,qa2,qaX h,h,qaz]
@[simp] theorem bmark_law (t:qU) (l:List Wd) (n:Int):qpz t (rOf cW l) n=some (bOut (fun _=>.tup []) n (qa2 6 t l)):=by
 cases h:qa2 6 t l<;>simp [qpz,qFk,↓Tr.run_ite,h]
@[simp] theorem bname_law (l:List Wd) (n:Int):qjQ (rOf cW l) n=some (bOut .str n (qhW l)):=by
 cases h:wNm l with
 |false=>simp [qjQ,qxI,↓Tr.run_ite,qhW,pCh,h,qoa]
 |true=>cases l with
  |nil=>cases h
  |cons w l=>simp [qjQ,qxI,↓Tr.run_ite,qhW,pCh,h,qIq,qar,qaz]
@[simp] theorem btyp_law (l:List Wd) (n:Int):qog (rOf cW l) n=some (bOut (.int .i64) n (pTyp l)):=by
 cases h:wIs 1 [105,110,116] l with
 |true=>cases l with
  |nil=>cases h
  |cons w l=>simp [qog,qAz,↓Tr.run_ite,pTyp,qaX h,qa5 h,qaz]
 |false=>cases h2:wIs 1 [115,121,109] l with
  |true=>cases l with
   |nil=>cases h2
   |cons w l=>simp [qog,qAz,↓Tr.run_ite,pTyp,qaK h,qa9 h,qaX h2,qa5 h2,qaz]
  |false=>simp [qog,qAz,↓Tr.run_ite,pTyp,qaK h,qa9 h,qaK h2,qa9 h2,qoa]
@[simp] theorem bterm_law (l:List Wd) (n:Int):qcZ (rOf cW l) n=some (bOut vcM n (qcz l)):=by
 cases h2:wIs 2 [] l with
 |true=>cases l with
  |nil=>cases h2
  |cons w l=>simp [qcZ,qjg,↓Tr.run_ite,qcz,qaX h2,qaz,h2]
 |false=>cases h4:wIs 4 [] l with
  |true=>cases l with
   |nil=>cases h4
   |cons w l=>simp [qcZ,qjg,↓Tr.run_ite,qcz,qaK h2,qaX h4,qaz,h2,h4]
  |false=>cases h5:wIs 5 [] l with
   |true=>cases l with
    |nil=>cases h5
    |cons w l=>simp [qcZ,qjg,↓Tr.run_ite,qcz,qaK h2,qaK h4,qaX h5,qaz,h2,h4,h5]
   |false=>cases h3:wIs 3 [] l with
    |true=>cases l with
     |nil=>cases h3
     |cons w l=>simp [qcZ,qjg,↓Tr.run_ite,qcz,qa2,qaK h2,qaK h4,qaK h5,qaX h3,qaz,h2,h4,h5,h3]
    |false=>simp [qcZ,qjg,↓Tr.run_ite,qcz,qa2,qaK h2,qaK h4,qaK h5,qaK h3,qoa,h2,h4,h5,h3]
end Go.Pv
set_option maxHeartbeats 4000000
set_option maxRecDepth 200000
set_option linter.unusedSimpArgs false
set_option linter.unusedVariables false
namespace Go.Pv
open Go Go.Proofs
theorem qsC {α:Type} {p:Ps α} (hp:Good p) {l r:List Wd} {a:α} (h:p l=.ok a r):r.length≤l.length:=by
 have:=qLP hp l;rw [h] at this;exact this
theorem qmv {k:Int} {t:List UInt8} {l r:List Wd} {w:Wd} (h:qa2 k t l=.ok w r):l=w::r∧wIs k t l=true:=by
 unfold qa2 at h
 cases hi:wIs k t l with
 |false=>rw [qaK hi] at h;cases h
 |true=>cases l with
  |nil=>cases hi
  |cons w l=>rw [qaX hi] at h;cases h;exact⟨rfl,rfl⟩
def qe8 {α:Type} (p:Ps α):Ps (Option α):=pIf 6 [44] (fun _=>qar p fun a=>qaz (some a)) (qaz none)
def mstep {α γ:Type} (V X:List α→List Wd→γ) (P:List Wd→γ) (acc:List α):Rs (Option α)→γ
 |.ok (some a) r=>V (acc++[a]) r
 |.ok none r=>X acc r
 |.no r=>P r
theorem qMG {α γ:Type} {p:Ps α} (hp:Good p) {V X P:List α→List Wd→γ} (E:∀ acc r,acc.length+r.length≤65537→V acc r=mstep V X (P acc) acc (qe8 p r)) :
  ∀ (m:Nat) (acc:List α) (r:List Wd),r.length≤m→acc.length+r.length≤65537→match qh9 p m acc r with
   |.ok bs r'=>V acc r=X bs r'
   |.no r'=>∃ acc',V acc r=P acc' r'
 |m,acc,r,h,hb=>by
  rw [E acc r hb];unfold qh9 qe8;cases hw:wIs 6 [44] r with
  |false=>rw [qaK hw,qaK hw];rfl
  |true=>cases r with
   |nil=>cases hw
   |cons w r =>
    rw [qaX hw,qaX hw];simp only [List.length_cons] at h hb;cases m with
    |zero=>omega
    |succ m =>
     rw [qb7];cases h1:p r with
     |no r'=>rw [qam h1,qam h1];exact⟨acc,rfl⟩
     |ok a r' =>
      have:=qsC hp h1;rw [qao h1,qao h1];exact qMG hp E m (acc++[a]) r' (by omega) (by simp only [List.length_append,List.length_singleton];omega)
theorem qlJ {α γ:Type} {p:Ps α} (hp:Good p) {V0 V X0 X P:List α→List Wd→γ} {P0:List Wd→γ} (E0:∀ acc r,acc.length+r.length≤65537→V0 acc r=mstep V X0 P0 acc (qe8 p r)) (E:∀ acc r,acc.length+r.length≤65537→V acc r=mstep V X (P acc) acc (qe8 p r))
  (m:Nat) (acc:List α) (r:List Wd) (h:r.length≤m) (hb:acc.length+r.length≤65537):match qh9 p m acc r with
   |.ok bs r'=>V0 acc r=X0 bs r'∨V0 acc r=X bs r'
   |.no r'=>V0 acc r=P0 r'∨∃ acc',V0 acc r=P acc' r':=by
 rw [E0 acc r hb];unfold qh9 qe8;cases hw:wIs 6 [44] r with
 |false=>rw [qaK hw,qaK hw];exact .inl rfl
 |true=>cases r with
  |nil=>cases hw
  |cons w r =>
   rw [qaX hw,qaX hw];simp only [List.length_cons] at h hb;cases m with
   |zero=>omega
   |succ m =>
    rw [qb7];cases h1:p r with
    |no r'=>rw [qam h1,qam h1];exact .inl rfl
    |ok a r' =>
     have:=qsC hp h1;rw [qao h1,qao h1];have H:=qMG hp E m (acc++[a]) r' (by omega) (by simp only [List.length_append,List.length_singleton];omega)
     cases h2:qh9 p m (acc++[a]) r' with
     |ok bs r''=>rw [h2] at H;exact .inr H
     |no r''=>rw [h2] at H;exact .inr H
abbrev LOut:=Option (PExit×List PV×Store)
def qoA {α:Type} (C:Cod α) (n:Int) (acc:List α) (r:List Wd):LOut:=some (.exit 0,[.sl (rOf C acc) .full],bst r n)
def qoK (n:Int) (r:List Wd):LOut:=some (.pan (mfit (plc n r)),[],bst r n)
def qoz {α:Type} (C:Cod α) (k:Nat) (t:TypeId) (n:Int) (acc:List α) (r:List Wd):LOut:=some (.exit 0,[.sl (rOf C acc) (.tok 0)],⟨[[.sl (rOf cW r) .non,.int .i64 n]],[(acc.length,k,t)],[138]⟩)
def qou {α:Type} (k:Nat) (t:TypeId) (n:Int) (acc:List α) (r:List Wd):LOut:=some (.pan (mfit (plc n r)),[],⟨[[.sl (rOf cW r) .non,.int .i64 n]],[(acc.length,k,t)],[138]⟩)
theorem qrc (n:Int):([[.int .i64 n]]:List (List PV))=rOf cI [n]:=rfl
theorem qj3 (l:List Int) (n:Int):rOf cI l++[[.int .i64 n]]=rOf cI (l++[n]):=by rw [qgz];rfl
attribute [simp] qJE qLf qFP qxN qDI qDK qEY qDv qGc qC4 qEO qFr qwr qwo qvx qxq qxB qxC qxy qvE
def qBZ (n:Int) (acc:List Tm) (r:List Wd):LOut:=qkP [.ptr 0 0,.mth 113 [.ptr 0 0],.sl (rOf cM acc) (.tok 0)] ⟨[[.sl (rOf cW r) .non,.int .i64 n]],[(acc.length,5,94)],[138]⟩
def qVG (n:Int) (acc:List Tm) (r:List Wd):LOut:=qkP [.ptr 0 0,.mth 113 [.ptr 0 0],.sl (rOf cM acc) .full] (bst r n)
theorem qZf (n:Int) (acc:List Tm) (r:List Wd) (h:acc.length+r.length≤65537):qBZ n acc r=mstep (qBZ n) (qoz cM 5 94 n) (qou 5 94 n acc) acc (qe8 qcz r):=by
 conv=>lhs;rw [qBZ,qWG]
 unfold qe8;cases hw:wIs 6 [44] r with
 |false=>simp [qqQ,↓Tr.run_ite,qaK hw,qa9 hw,qaz,qoz,mstep]
 |true=>cases r with
  |nil=>cases hw
  |cons w r =>
   skip
   simp only [qaX hw,qar];cases hp:qcz r with
   |no r'=>simp [qqQ,↓Tr.run_ite,qa5 hw,hp,qou,mstep]
   |ok a r' =>
    obtain⟨x1,x2,x3,x4,x5⟩:=a;simp only [List.length_cons] at h
    simp [qqQ,↓Tr.run_ite,qa5 hw,hp,qaz,mstep,qBZ,];rw [if_pos (by omega)]
    simp
theorem qYk (n:Int) (acc:List Tm) (r:List Wd) (h:acc.length+r.length≤65537):qVG n acc r=mstep (qBZ n) (qoA cM n) (qoK n) acc (qe8 qcz r):=by
 conv=>lhs;rw [qVG,bst,zaav]
 unfold qe8;cases hw:wIs 6 [44] r with
 |false=>simp [qy7,↓Tr.run_ite,qaK hw,qa9 hw,qaz,qoA,mstep]
 |true=>cases r with
  |nil=>cases hw
  |cons w r =>
   skip
   simp only [qaX hw,qar];cases hp:qcz r with
   |no r'=>simp [qy7,↓Tr.run_ite,qa5 hw,hp,qoK,mstep]
   |ok a r' =>
    obtain⟨x1,x2,x3,x4,x5⟩:=a;simp only [List.length_cons] at h
    simp [qy7,↓Tr.run_ite,qa5 hw,hp,qaz,mstep,qBZ,];rw [if_pos (by omega)]
    simp
theorem qY5 {l:List Wd} (hl:l.length≤65536) (n:Int):qA7 (rOf cW l) n=some (bOut (fun a=>.sl (rOf cM a) .non) n (pRow qcz l)):=by
 unfold pRow;rw [qb7];unfold qar;cases hp:qcz l with
 |no r=>simp [qA7,qHB,↓Tr.run_ite,hp]
 |ok a r =>
  have hr:=qsC qiL hp;have H:=qlJ qiL (qYk n) (qZf n) l.length [a] r hr (by simp only [List.length_singleton];omega)
  simp only [List.nil_append];obtain⟨x1,x2,x3,x4,x5⟩:=a;cases ht:qh9 qcz l.length [(x1,x2,x3,x4,x5)] r with
  |ok bs r' =>
   rw [ht] at H;rcases H with H|H<;>simp [qA7,qHB,qfd,↓Tr.run_ite,hp,show qkP _ ⟨[[.sl (rOf cW r) .non,.int .i64 n]],[],[138]⟩=_ from H,qoA,qoz]
  |no r' =>
   rw [ht] at H;rcases H with H|⟨_,H⟩<;>simp [qA7,qHB,qfd,↓Tr.run_ite,hp,show qkP _ ⟨[[.sl (rOf cW r) .non,.int .i64 n]],[],[138]⟩=_ from H,qoK,qou]
attribute [simp] qLa qJb qGs qwD qEP qDM
theorem qXt {l:List Wd} (hl:l.length≤65536) (n:Int):qvg (rOf cW l) n=some (bOut (fun a=>.sl (rOf cM a) .non) n (qhC qcz l)):=by
 unfold qhC;cases h1:qa2 6 [40] l with
 |no r=>simp [qvg,qzL,↓Tr.run_ite,qam h1,h1]
 |ok w l =>
  obtain⟨rfl,-⟩:=qmv h1;simp only [List.length_cons] at hl;rw [qao h1];cases h2:wIs 6 [41] l with
  |true=>cases l with
   |nil=>cases h2
   |cons w l=>simp [qvg,qzL,↓Tr.run_ite,h1,qaX h2,qa5 h2,qaz]
  |false =>
   have k1:=qY5 (l:=l) (by omega) n
   rw [qaK h2];cases h3:pRow qcz l with
   |no r=>simp [qvg,qzL,↓Tr.run_ite,h1,qa9 h2,qam h3,k1,h3]
   |ok a r =>
    rw [qao h3];cases h4:qa2 6 [41] r with
    |no r=>simp [qvg,qzL,↓Tr.run_ite,h1,qa9 h2,qam h4,k1,h3,h4]
    |ok w r=>simp [qvg,qzL,↓Tr.run_ite,h1,qa9 h2,qao h4,k1,h3,h4,qaz]
attribute [simp] qJt qKg qCY qvV qCR qD3 qDG qDD qFF qC2 qEc qGa qxb qv4 qvz qxT qxw qwn qxv qxS
def qB2 (n:Int) (acc:List Int) (r:List Wd):LOut:=qkJ [.ptr 0 0,.mth 138 [.ptr 0 0],.sl (rOf cI acc) (.tok 0)] ⟨[[.sl (rOf cW r) .non,.int .i64 n]],[(acc.length,1,112)],[138]⟩
def qVM (n:Int) (acc:List Int) (r:List Wd):LOut:=qkJ [.ptr 0 0,.mth 138 [.ptr 0 0],.sl (rOf cI acc) .full] (bst r n)
theorem qXF (n:Int) (acc:List Int) (r:List Wd) (h:acc.length+r.length≤65537):qB2 n acc r=mstep (qB2 n) (qoz cI 1 112 n) (qou 1 112 n acc) acc (qe8 pTyp r):=by
 conv=>lhs;rw [qB2,qY8]
 unfold qe8;cases hw:wIs 6 [44] r with
 |false=>simp [qte,↓Tr.run_ite,qaK hw,qa9 hw,qaz,qoz,mstep]
 |true=>cases r with
  |nil=>cases hw
  |cons w r =>
   skip
   simp only [qaX hw,qar];cases hp:pTyp r with
   |no r'=>simp [qte,↓Tr.run_ite,qa5 hw,hp,qou,mstep]
   |ok a r' =>
    skip
    simp only [List.length_cons] at h
    simp [qte,↓Tr.run_ite,qa5 hw,hp,qaz,mstep,qB2,qrc,qj3,];rw [if_pos (by omega)]
    simp
theorem qWi (n:Int) (acc:List Int) (r:List Wd) (h:acc.length+r.length≤65537):qVM n acc r=mstep (qB2 n) (qoA cI n) (qoK n) acc (qe8 pTyp r):=by
 conv=>lhs;rw [qVM,bst,qZO]
 unfold qe8;cases hw:wIs 6 [44] r with
 |false=>simp [qzU,↓Tr.run_ite,qaK hw,qa9 hw,qaz,qoA,mstep]
 |true=>cases r with
  |nil=>cases hw
  |cons w r =>
   skip
   simp only [qaX hw,qar];cases hp:pTyp r with
   |no r'=>simp [qzU,↓Tr.run_ite,qa5 hw,hp,qoK,mstep]
   |ok a r' =>
    skip
    simp only [List.length_cons] at h
    simp [qzU,↓Tr.run_ite,qa5 hw,hp,qaz,mstep,qB2,qrc,qj3,];rw [if_pos (by omega)]
    simp
theorem qXT {l:List Wd} (hl:l.length≤65536) (n:Int):qA6 (rOf cW l) n=some (bOut (fun a=>.sl (rOf cI a) .non) n (pRow pTyp l)):=by
 unfold pRow;rw [qb7];unfold qar;cases hp:pTyp l with
 |no r=>simp [qA6,qGL,↓Tr.run_ite,hp]
 |ok a r =>
  have hr:=qsC qm5 hp;have H:=qlJ qm5 (qWi n) (qXF n) l.length [a] r hr (by simp only [List.length_singleton];omega)
  simp only [List.nil_append]
  skip
  cases ht:qh9 pTyp l.length [a] r with
  |ok bs r' =>
   rw [ht] at H;rcases H with H|H<;>simp [qA6,qGL,qfj,↓Tr.run_ite,hp,qrc,qj3,show qkJ _ ⟨[[.sl (rOf cW r) .non,.int .i64 n]],[],[138]⟩=_ from H,qoA,qoz]
  |no r' =>
   rw [ht] at H;rcases H with H|⟨_,H⟩<;>simp [qA6,qGL,qfj,↓Tr.run_ite,hp,qrc,qj3,show qkJ _ ⟨[[.sl (rOf cW r) .non,.int .i64 n]],[],[138]⟩=_ from H,qoK,qou]
attribute [simp] qIw qKv qDP qwE qD7 qET
theorem qYU {l:List Wd} (hl:l.length≤65536) (n:Int):qvl (rOf cW l) n=some (bOut (fun a=>.sl (rOf cI a) .non) n (qhC pTyp l)):=by
 unfold qhC;cases h1:qa2 6 [40] l with
 |no r=>simp [qvl,qAN,↓Tr.run_ite,qam h1,h1]
 |ok w l =>
  obtain⟨rfl,-⟩:=qmv h1;simp only [List.length_cons] at hl;rw [qao h1];cases h2:wIs 6 [41] l with
  |true=>cases l with
   |nil=>cases h2
   |cons w l=>simp [qvl,qAN,↓Tr.run_ite,h1,qaX h2,qa5 h2,qaz]
  |false =>
   have k1:=qXT (l:=l) (by omega) n
   rw [qaK h2];cases h3:pRow pTyp l with
   |no r=>simp [qvl,qAN,↓Tr.run_ite,h1,qa9 h2,qam h3,k1,h3]
   |ok a r =>
    rw [qao h3];cases h4:qa2 6 [41] r with
    |no r=>simp [qvl,qAN,↓Tr.run_ite,h1,qa9 h2,qam h4,k1,h3,h4]
    |ok w r=>simp [qvl,qAN,↓Tr.run_ite,h1,qa9 h2,qao h4,k1,h3,h4,qaz]
attribute [simp] qiW qhN qfA qfH qfO qfI qfJ
@[simp] theorem bparam_law (l:List Wd) (n:Int):qeE (rOf cW l) n=some (bOut vcP n (qch l)):=by
 unfold qch;cases h1:qa2 2 [] l with
 |no r=>simp [qeE,qq8,↓Tr.run_ite,qam h1,h1]
 |ok w r =>
  rw [qao h1];cases h2:pTyp r<;>simp [qeE,qq8,↓Tr.run_ite,qar,qaz,h1,h2]
attribute [simp] qIz qKW qDh qv1 qEu qEK qFS qFB qGq qDH qGh qFM qxL qvQ qxm qwt qxU qw1 qw8 qwH
def qCl (n:Int) (acc:List Pa) (r:List Wd):LOut:=qkN [.ptr 0 0,.mth 140 [.ptr 0 0],.sl (rOf cP acc) (.tok 0)] ⟨[[.sl (rOf cW r) .non,.int .i64 n]],[(acc.length,2,114)],[138]⟩
def qVt (n:Int) (acc:List Pa) (r:List Wd):LOut:=qkN [.ptr 0 0,.mth 140 [.ptr 0 0],.sl (rOf cP acc) .full] (bst r n)
theorem qXm (n:Int) (acc:List Pa) (r:List Wd) (h:acc.length+r.length≤65537):qCl n acc r=mstep (qCl n) (qoz cP 2 114 n) (qou 2 114 n acc) acc (qe8 qch r):=by
 conv=>lhs;rw [qCl,qZr]
 unfold qe8;cases hw:wIs 6 [44] r with
 |false=>simp [qql,↓Tr.run_ite,qaK hw,qa9 hw,qaz,qoz,mstep]
 |true=>cases r with
  |nil=>cases hw
  |cons w r =>
   skip
   simp only [qaX hw,qar];cases hp:qch r with
   |no r'=>simp [qql,↓Tr.run_ite,qa5 hw,hp,qou,mstep]
   |ok a r' =>
    obtain⟨x1,x2⟩:=a;simp only [List.length_cons] at h
    simp [qql,↓Tr.run_ite,qa5 hw,hp,qaz,mstep,qCl,qon,qhG,];rw [if_pos (by omega)]
    simp
theorem qZu (n:Int) (acc:List Pa) (r:List Wd) (h:acc.length+r.length≤65537):qVt n acc r=mstep (qCl n) (qoA cP n) (qoK n) acc (qe8 qch r):=by
 conv=>lhs;rw [qVt,bst,zaaU]
 unfold qe8;cases hw:wIs 6 [44] r with
 |false=>simp [qzp,↓Tr.run_ite,qaK hw,qa9 hw,qaz,qoA,mstep]
 |true=>cases r with
  |nil=>cases hw
  |cons w r =>
   skip
   simp only [qaX hw,qar];cases hp:qch r with
   |no r'=>simp [qzp,↓Tr.run_ite,qa5 hw,hp,qoK,mstep]
   |ok a r' =>
    obtain⟨x1,x2⟩:=a;simp only [List.length_cons] at h
    simp [qzp,↓Tr.run_ite,qa5 hw,hp,qaz,mstep,qCl,qon,qhG,];rw [if_pos (by omega)]
    simp
theorem qWm {l:List Wd} (hl:l.length≤65536) (n:Int):qBl (rOf cW l) n=some (bOut (fun a=>.sl (rOf cP a) .non) n (pRow qch l)):=by
 unfold pRow;rw [qb7];unfold qar;cases hp:qch l with
 |no r=>simp [qBl,qHk,↓Tr.run_ite,hp]
 |ok a r =>
  have hr:=qsC qfK hp;have H:=qlJ qfK (qZu n) (qXm n) l.length [a] r hr (by simp only [List.length_singleton];omega)
  simp only [List.nil_append];obtain⟨x1,x2⟩:=a;cases ht:qh9 qch l.length [(x1,x2)] r with
  |ok bs r' =>
   rw [ht] at H;rcases H with H|H<;>simp [qBl,qHk,qfh,↓Tr.run_ite,hp,qon,qhG,show qkN _ ⟨[[.sl (rOf cW r) .non,.int .i64 n]],[],[138]⟩=_ from H,qoA,qoz]
  |no r' =>
   rw [ht] at H;rcases H with H|⟨_,H⟩<;>simp [qBl,qHk,qfh,↓Tr.run_ite,hp,qon,qhG,show qkN _ ⟨[[.sl (rOf cW r) .non,.int .i64 n]],[],[138]⟩=_ from H,qoK,qou]
attribute [simp] qKP qIV qC7 qxt qDB qEM
theorem qW5 {l:List Wd} (hl:l.length≤65536) (n:Int):qvi (rOf cW l) n=some (bOut (fun a=>.sl (rOf cP a) .non) n (qhC qch l)):=by
 unfold qhC;cases h1:qa2 6 [40] l with
 |no r=>simp [qvi,qAg,↓Tr.run_ite,qam h1,h1]
 |ok w l =>
  obtain⟨rfl,-⟩:=qmv h1;simp only [List.length_cons] at hl;rw [qao h1];cases h2:wIs 6 [41] l with
  |true=>cases l with
   |nil=>cases h2
   |cons w l=>simp [qvi,qAg,↓Tr.run_ite,h1,qaX h2,qa5 h2,qaz]
  |false =>
   have k1:=qWm (l:=l) (by omega) n
   rw [qaK h2];cases h3:pRow qch l with
   |no r=>simp [qvi,qAg,↓Tr.run_ite,h1,qa9 h2,qam h3,k1,h3]
   |ok a r =>
    rw [qao h3];cases h4:qa2 6 [41] r with
    |no r=>simp [qvi,qAg,↓Tr.run_ite,h1,qa9 h2,qam h4,k1,h3,h4]
    |ok w r=>simp [qvi,qAg,↓Tr.run_ite,h1,qa9 h2,qao h4,k1,h3,h4,qaz]
attribute [simp] qgc qf0 qeW qeB qeV qgj qdU qIJ qJG qDw qEV qFE qF8 qCZ qEs qwe qwq qx7 qsk qsy qi2 qiD qhY qh3 qie qhV qiN qnQ qmU qit qnt qnl qi7 qi1 qiA qiG qnJ qr0 qqD qlW qiT qi3 qlR qlQ qlc qra qyQ qyS qrO qml qsj qs3 qsg qnP qr5 qsI qnG qiI qmf qn2 qmJ qIB qKS qD0 qvy qvS qDC qCN qEj
theorem qlG {l:List Wd} (hl:l.length≤65536) (n:Int):qhz (rOf cW l) n=some (bOut vcA n (qhD l)):=by
 unfold qhD;cases h1:qhW l with
 |no r=>simp [qhz,qxW,↓Tr.run_ite,qam h1,h1]
 |ok a r =>
  have hr:=qsC qeR h1;have k:=qXt (l:=r) (by omega) n
  rw [qao h1];cases h2:qhC qcz r<;>simp [qhz,qxW,↓Tr.run_ite,qar,qaz,h1,h2,k]
def opL:List (List UInt8):=[[61],[33,61],[60],[60,61],[62],[62,61]]
def opV (i:Nat) (l:List Wd) (n:Int):LOut:=qyH [.ptr 0 0,.sl (rOf cS opL) .full,.int .i64 6,.int .i64 i] (bst l n)
theorem qOA {i:Nat} {t:List UInt8} (h:opL[i]?=some t) {w:Wd} {l:List Wd} (hw:wIs 6 t (w::l)=true) (n:Int):opV i (w::l) n=some (.ret,[.int .i64 (i+1:Nat)],bst l n):=by
 obtain⟨h3,h4⟩:=List.getElem?_eq_some_iff.1 h;have hi:i < 6:=h3;have h2:((i:Nat):Int) < 6:=by omega
 unfold opV bst;rw [qSW];simp [qAs,↓Tr.run_ite,h4,qa5 hw,qcf (show i < 9223372036854775807 by omega),h2,h3]
theorem qOt {i:Nat} {t:List UInt8} (h:opL[i]?=some t) {l:List Wd} (hw:wIs 6 t l=false) (n:Int):opV i l n=opV (i+1) l n:=by
 obtain⟨h3,h4⟩:=List.getElem?_eq_some_iff.1 h;have hi:i < 6:=h3;have h2:((i:Nat):Int) < 6:=by omega
 unfold opV bst
 conv=>lhs;rw [qSW]
 simp [qAs,↓Tr.run_ite,h4,qa9 hw,qcf (show i < 9223372036854775807 by omega),h2,h3]
theorem zaa0 (l:List Wd) (n:Int):opV 6 l n=some (.exit 0,[.ptr 0 0],bst l n):=by
 unfold opV bst;rw [qSW];simp [qAs,↓Tr.run_ite]
@[simp] theorem bop_law (l:List Wd) (n:Int):qA9 (rOf cW l) n=some (bOut (.int .i64) n (pOp l)):=by
 have e:∀ x,opV 0 l n=x→qyH [.ptr 0 0,.sl (rOf cS opL) .full,.int .i64 6,.int .i64 0] (bst l n)=x:=fun x h=>h
 have fin:∀ i a r,opV 0 l n=some (.ret,[.int .i64 ((i+1:Nat):Int)],bst r n)→((i+1:Nat):Int)=a→qA9 (rOf cW l) n=some (.val (.int .i64 a),bst r n):=by
  intro i a r h ha;have h:=e _ h;simp only [opL,bst] at h
  simp [qA9,qMZ,↓Tr.run_ite,qyJ,h,← ha]
 unfold pOp;cases h1:wIs 6 [61] l with
 |true=>cases l with
  |nil=>cases h1
  |cons w l=>rw [qaX h1];exact fin 0 1 l (qOA rfl h1 n) rfl
 |false =>
  have f1:=qOt (i:=0) rfl h1 n;rw [qaK h1];cases h2:wIs 6 [33,61] l with
  |true=>cases l with
   |nil=>cases h2
   |cons w l=>rw [qaX h2];exact fin 1 2 l (f1.trans (qOA rfl h2 n)) rfl
  |false =>
   have f2:=f1.trans (qOt (i:=1) rfl h2 n);rw [qaK h2];cases h3:wIs 6 [60] l with
   |true=>cases l with
    |nil=>cases h3
    |cons w l=>rw [qaX h3];exact fin 2 3 l (f2.trans (qOA rfl h3 n)) rfl
   |false =>
    have f3:=f2.trans (qOt (i:=2) rfl h3 n);rw [qaK h3];cases h4:wIs 6 [60,61] l with
    |true=>cases l with
     |nil=>cases h4
     |cons w l=>rw [qaX h4];exact fin 3 4 l (f3.trans (qOA rfl h4 n)) rfl
    |false =>
     have f4:=f3.trans (qOt (i:=3) rfl h4 n);rw [qaK h4];cases h5:wIs 6 [62] l with
     |true=>cases l with
      |nil=>cases h5
      |cons w l=>rw [qaX h5];exact fin 4 5 l (f4.trans (qOA rfl h5 n)) rfl
     |false =>
      have f5:=f4.trans (qOt (i:=4) rfl h5 n);rw [qaK h5];cases h6:wIs 6 [62,61] l with
      |true=>cases l with
       |nil=>cases h6
       |cons w l=>rw [qaX h6];exact fin 5 6 l (f5.trans (qOA rfl h6 n)) rfl
      |false =>
       have h:=e _ ((f5.trans (qOt (i:=5) rfl h6 n)).trans (zaa0 l n));simp only [opL,bst] at h
       rw [qaK h6];simp [qA9,qMZ,↓Tr.run_ite,qyJ,h,qoa]
theorem qjq {l:List Wd} (hl:l.length≤65536) (n:Int):qcm (rOf cW l) n=some (bOut vcL n (pLit l)):=by
 unfold pLit;cases h1:wIs 1 [110,111,116] l with
 |true=>cases l with
  |nil=>cases h1
  |cons w l =>
   simp only [List.length_cons] at hl;have k:=qlG (l:=l) (by omega) n
   rw [qaX h1];cases h2:qhD l<;>simp [qcm,qpr,↓Tr.run_ite,qa5 h1,qar,qaz,tm0,h2,k]
 |false =>
  rw [qaK h1];cases h2:wNm l with
  |true =>
   have k:=qlG hl n;unfold pCh;rw [h2];simp only [if_true];cases h3:qhD l<;>simp [qcm,qpr,↓Tr.run_ite,qa9 h1,qar,qaz,tm0,h2,h3,k]
  |false =>
   rw [ch_f h2];cases h3:qcz l with
   |no r=>simp [qcm,qpr,↓Tr.run_ite,qa9 h1,h2,h3,qam h3]
   |ok a r =>
    rw [qao h3];cases h4:pOp r with
    |no r=>simp [qcm,qpr,↓Tr.run_ite,qa9 h1,h2,h3,h4,qam h4]
    |ok o r =>
     rw [qao h4];cases h5:qcz r<;>simp [qcm,qpr,↓Tr.run_ite,qa9 h1,h2,h3,h4,h5,qar,qaz]
theorem qjH {l:List Wd} (hl:l.length≤65536) (n:Int):qkL (rOf cW l) n=some (bOut vcAc n (pAct l)):=by
 unfold pAct;cases h1:wIs 6 [43] l with
 |true=>cases l with
  |nil=>cases h1
  |cons w l =>
   simp only [List.length_cons] at hl;have k:=qlG (l:=l) (by omega) n
   rw [qaX h1];cases h2:qhD l<;>simp [qkL,qz5,↓Tr.run_ite,qa5 h1,qar,qaz,h2,k]
 |false =>
  rw [qaK h1];cases h2:qa2 6 [45] l with
  |no r=>simp [qkL,qz5,↓Tr.run_ite,qa9 h1,h2,qam h2]
  |ok w l =>
   obtain⟨rfl,-⟩:=qmv h2;simp only [List.length_cons] at hl;have k:=qlG (l:=l) (by omega) n
   rw [qao h2];cases h3:qhD l<;>simp [qkL,qz5,↓Tr.run_ite,qa9 h1,qar,qaz,h2,h3,k]
attribute [simp] qKd qJI qC5 qw0 qC8 qDm qFZ qFO qEJ qD9 qGd qC3 qxY qxn qwP qvp qxZ qvI qxK qxz
def qB1 (n:Int) (acc:List Li) (r:List Wd):LOut:=qkQ [.ptr 0 0,.mth 108 [.ptr 0 0],.sl (rOf cL acc) (.tok 0)] ⟨[[.sl (rOf cW r) .non,.int .i64 n]],[(acc.length,14,96)],[138]⟩
def qVI (n:Int) (acc:List Li) (r:List Wd):LOut:=qkQ [.ptr 0 0,.mth 108 [.ptr 0 0],.sl (rOf cL acc) .full] (bst r n)
theorem qY3 (n:Int) (acc:List Li) (r:List Wd) (h:acc.length+r.length≤65537):qB1 n acc r=mstep (qB1 n) (qoz cL 14 96 n) (qou 14 96 n acc) acc (qe8 pLit r):=by
 conv=>lhs;rw [qB1,qY0]
 unfold qe8;cases hw:wIs 6 [44] r with
 |false=>simp [qqY,↓Tr.run_ite,qaK hw,qa9 hw,qaz,qoz,mstep]
 |true=>cases r with
  |nil=>cases hw
  |cons w r =>
   have hl:r.length≤65536:=by simp only [List.length_cons] at h;omega
   simp only [qaX hw,qar];cases hp:pLit r with
   |no r'=>simp [qqY,↓Tr.run_ite,qa5 hw,hp,qou,mstep,qjq hl]
   |ok a r' =>
    obtain⟨x1,⟨x2,x3⟩,x4,⟨x5,x6,x7,x8,x9⟩,⟨y5,y6,y7,y8,y9⟩⟩:=a;simp only [List.length_cons] at h
    simp [qqY,↓Tr.run_ite,qa5 hw,hp,qaz,mstep,qB1,qzi,qpK,qjq hl];rw [if_pos (by omega)]
    simp
theorem qYw (n:Int) (acc:List Li) (r:List Wd) (h:acc.length+r.length≤65537):qVI n acc r=mstep (qB1 n) (qoA cL n) (qoK n) acc (qe8 pLit r):=by
 conv=>lhs;rw [qVI,bst,zaaS]
 unfold qe8;cases hw:wIs 6 [44] r with
 |false=>simp [qzR,↓Tr.run_ite,qaK hw,qa9 hw,qaz,qoA,mstep]
 |true=>cases r with
  |nil=>cases hw
  |cons w r =>
   have hl:r.length≤65536:=by simp only [List.length_cons] at h;omega
   simp only [qaX hw,qar];cases hp:pLit r with
   |no r'=>simp [qzR,↓Tr.run_ite,qa5 hw,hp,qoK,mstep,qjq hl]
   |ok a r' =>
    obtain⟨x1,⟨x2,x3⟩,x4,⟨x5,x6,x7,x8,x9⟩,⟨y5,y6,y7,y8,y9⟩⟩:=a;simp only [List.length_cons] at h
    simp [qzR,↓Tr.run_ite,qa5 hw,hp,qaz,mstep,qB1,qzi,qpK,qjq hl];rw [if_pos (by omega)]
    simp
theorem qZw {l:List Wd} (hl:l.length≤65536) (n:Int):qBc (rOf cW l) n=some (bOut (fun a=>.sl (rOf cL a) .non) n (pRow pLit l)):=by
 unfold pRow;rw [qb7];unfold qar;cases hp:pLit l with
 |no r=>simp [qBc,qHe,↓Tr.run_ite,hp,qjq hl]
 |ok a r =>
  have hr:=qsC qqp hp;have H:=qlJ qqp (qYw n) (qY3 n) l.length [a] r hr (by simp only [List.length_singleton];omega)
  simp only [List.nil_append];obtain⟨x1,⟨x2,x3⟩,x4,⟨x5,x6,x7,x8,x9⟩,⟨y5,y6,y7,y8,y9⟩⟩:=a;cases ht:qh9 pLit l.length [(x1,(x2,x3),x4,(x5,x6,x7,x8,x9),(y5,y6,y7,y8,y9))] r with
  |ok bs r' =>
   rw [ht] at H;rcases H with H|H<;>simp [qBc,qHe,qfe,↓Tr.run_ite,hp,qzi,qpK,qjq hl,show qkQ _ ⟨[[.sl (rOf cW r) .non,.int .i64 n]],[],[138]⟩=_ from H,qoA,qoz]
  |no r' =>
   rw [ht] at H;rcases H with H|⟨_,H⟩<;>simp [qBc,qHe,qfe,↓Tr.run_ite,hp,qzi,qpK,qjq hl,show qkQ _ ⟨[[.sl (rOf cW r) .non,.int .i64 n]],[],[138]⟩=_ from H,qoK,qou]
attribute [simp] qJ8 qI6 qGf qvC qCS qCV qEd qE0 qEa qD8 qFT qGr qv7 qx2 qwC qvU qx1 qw9 qwO qxi
def qBA (n:Int) (acc:List Ac) (r:List Wd):LOut:=qkO [.ptr 0 0,.mth 142 [.ptr 0 0],.sl (rOf cAc acc) (.tok 0)] ⟨[[.sl (rOf cW r) .non,.int .i64 n]],[(acc.length,3,116)],[138]⟩
def qVZ (n:Int) (acc:List Ac) (r:List Wd):LOut:=qkO [.ptr 0 0,.mth 142 [.ptr 0 0],.sl (rOf cAc acc) .full] (bst r n)
theorem qZl (n:Int) (acc:List Ac) (r:List Wd) (h:acc.length+r.length≤65537):qBA n acc r=mstep (qBA n) (qoz cAc 3 116 n) (qou 3 116 n acc) acc (qe8 pAct r):=by
 conv=>lhs;rw [qBA,qWF]
 unfold qe8;cases hw:wIs 6 [44] r with
 |false=>simp [qrC,↓Tr.run_ite,qaK hw,qa9 hw,qaz,qoz,mstep]
 |true=>cases r with
  |nil=>cases hw
  |cons w r =>
   have hl:r.length≤65536:=by simp only [List.length_cons] at h;omega
   simp only [qaX hw,qar];cases hp:pAct r with
   |no r'=>simp [qrC,↓Tr.run_ite,qa5 hw,hp,qou,mstep,qjH hl]
   |ok a r' =>
    obtain⟨x1,⟨x2,x3⟩⟩:=a;simp only [List.length_cons] at h
    simp [qrC,↓Tr.run_ite,qa5 hw,hp,qaz,mstep,qBA,qoI,qku,qjH hl];rw [if_pos (by omega)]
    simp
theorem qWj (n:Int) (acc:List Ac) (r:List Wd) (h:acc.length+r.length≤65537):qVZ n acc r=mstep (qBA n) (qoA cAc n) (qoK n) acc (qe8 pAct r):=by
 conv=>lhs;rw [qVZ,bst,qZU]
 unfold qe8;cases hw:wIs 6 [44] r with
 |false=>simp [qzV,↓Tr.run_ite,qaK hw,qa9 hw,qaz,qoA,mstep]
 |true=>cases r with
  |nil=>cases hw
  |cons w r =>
   have hl:r.length≤65536:=by simp only [List.length_cons] at h;omega
   simp only [qaX hw,qar];cases hp:pAct r with
   |no r'=>simp [qzV,↓Tr.run_ite,qa5 hw,hp,qoK,mstep,qjH hl]
   |ok a r' =>
    obtain⟨x1,⟨x2,x3⟩⟩:=a;simp only [List.length_cons] at h
    simp [qzV,↓Tr.run_ite,qa5 hw,hp,qaz,mstep,qBA,qoI,qku,qjH hl];rw [if_pos (by omega)]
    simp
theorem qYJ {l:List Wd} (hl:l.length≤65536) (n:Int):qBi (rOf cW l) n=some (bOut (fun a=>.sl (rOf cAc a) .non) n (pRow pAct l)):=by
 unfold pRow;rw [qb7];unfold qar;cases hp:pAct l with
 |no r=>simp [qBi,qH5,↓Tr.run_ite,hp,qjH hl]
 |ok a r =>
  have hr:=qsC qqL hp;have H:=qlJ qqL (qWj n) (qZl n) l.length [a] r hr (by simp only [List.length_singleton];omega)
  simp only [List.nil_append];obtain⟨x1,⟨x2,x3⟩⟩:=a;cases ht:qh9 pAct l.length [(x1,(x2,x3))] r with
  |ok bs r' =>
   rw [ht] at H;rcases H with H|H<;>simp [qBi,qH5,qfg,↓Tr.run_ite,hp,qoI,qku,qjH hl,show qkO _ ⟨[[.sl (rOf cW r) .non,.int .i64 n]],[],[138]⟩=_ from H,qoA,qoz]
  |no r' =>
   rw [ht] at H;rcases H with H|⟨_,H⟩<;>simp [qBi,qH5,qfg,↓Tr.run_ite,hp,qoI,qku,qjH hl,show qkO _ ⟨[[.sl (rOf cW r) .non,.int .i64 n]],[],[138]⟩=_ from H,qoK,qou]
theorem qGI {l:List Wd} (hl:l.length≤65536) (n:Int):qel (rOf cW l) n=some (bOut vcRu n (qjR l)):=by
 have k1:=qlG hl n;unfold qjR;cases h1:qhD l with
 |no r=>simp [qel,qn1,↓Tr.run_ite,k1,h1,qam h1]
 |ok a r =>
  have hr:=qsC qgs h1;rw [qao h1];cases h2:wIs 6 [58,45] r with
  |true=>cases r with
   |nil=>cases h2
   |cons w r =>
    simp only [List.length_cons] at hr;have k2:=qZw (l:=r) (by omega) n
    rw [qaX h2];cases h3:pRow pLit r with
    |no r=>simp [qel,qn1,↓Tr.run_ite,k1,h1,qa5 h2,k2,h3,qam h3]
    |ok b r =>
     rw [qao h3];unfold pDot;cases h4:qa2 6 [46] r<;>simp [qel,qn1,↓Tr.run_ite,k1,h1,qa5 h2,k2,h3,h4,qar,qaz]
  |false =>
   rw [qaK h2];unfold pDot;cases h4:qa2 6 [46] r<;>simp [qel,qn1,↓Tr.run_ite,k1,h1,qa9 h2,h4,qar,qaz]
theorem qSj {w:Wd} {l:List Wd} (hl:l.length≤65536) (n:Int):qe7 (rOf cW (w::l)) n=some (bOut vcD n (qt9 (w::l))):=by
 have e:qt9 (w::l)=qar qhW (fun x=>qar (qhC pTyp) fun t=>pDot (x,decide (w.2.1=[98,97,115,101]),t)) l:=rfl
 rw [e];cases h1:qhW l with
 |no r=>simp [qe7,qrd,↓Tr.run_ite,h1,qam h1]
 |ok a r =>
  have hr:=qsC qeR h1;have k2:=qYU (l:=r) (by omega) n
  rw [qao h1];cases h3:qhC pTyp r with
  |no r=>simp [qe7,qrd,↓Tr.run_ite,h1,k2,h3,qam h3]
  |ok b r =>
   rw [qao h3];unfold pDot;cases h4:qa2 6 [46] r<;>simp [qe7,qrd,↓Tr.run_ite,h1,k2,h3,h4,qar,qaz]
theorem qXd {w:Wd} {l:List Wd} (hl:l.length≤65536) (n:Int):qsf (rOf cW (w::l)) n=some (bOut vcE n (pOn (w::l))):=by
 have e:pOn (w::l)=qar qhW (fun x=>qar (qhC qch) fun ps=>pIf 6 [58] (fun _=>qar (pRow pAct) fun b=>pDot (x,ps,b)) (pDot (x,ps,[]))) l:=rfl
 rw [e];cases h1:qhW l with
 |no r=>simp [qsf,qz0,↓Tr.run_ite,h1,qam h1]
 |ok a r =>
  have hr:=qsC qeR h1;have k2:=qW5 (l:=r) (by omega) n
  rw [qao h1];cases h3:qhC qch r with
  |no r=>simp [qsf,qz0,↓Tr.run_ite,h1,k2,h3,qam h3]
  |ok b r =>
   have hr3:=qsC (qhP qfK) h3;rw [qao h3];cases h5:wIs 6 [58] r with
   |true=>cases r with
    |nil=>cases h5
    |cons w r =>
     simp only [List.length_cons] at hr3;have k6:=qYJ (l:=r) (by omega) n
     rw [qaX h5];cases h6:pRow pAct r with
     |no r=>simp [qsf,qz0,↓Tr.run_ite,h1,k2,h3,qa5 h5,k6,h6,qam h6]
     |ok b r =>
      rw [qao h6];unfold pDot;cases h4:qa2 6 [46] r<;>simp [qsf,qz0,↓Tr.run_ite,h1,k2,h3,qa5 h5,k6,h6,h4,qar,qaz]
   |false =>
    rw [qaK h5];unfold pDot;cases h4:qa2 6 [46] r<;>simp [qsf,qz0,↓Tr.run_ite,h1,k2,h3,qa9 h5,h4,qar,qaz]
end Go.Pv
