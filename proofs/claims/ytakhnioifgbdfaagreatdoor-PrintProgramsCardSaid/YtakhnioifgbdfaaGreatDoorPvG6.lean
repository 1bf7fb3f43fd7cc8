/- Part 6 of the proof: pure values for the machine's values, what functions compute over them, and laws of what is computed. Conditions: none beyond each theorem's own premises. -/
import Derived.Test.YtakhnioifgbdfaaGreatDoorPvG5
import Derived.Test.YtakhnioifgbdfaaGreatDoorCards
import Derived.Test.YtakhnioifgbdfaaGreatDoorTie
noncomputable section
set_option maxHeartbeats 4000000
set_option maxRecDepth 200000
set_option linter.unusedSimpArgs false
set_option linter.unusedVariables false
namespace Go.Pv
open Go Go.Proofs Go.RowKit Go.Proofs.YtakhnioifgbdfaaGreatDoor
theorem g_pow : Tryz.prog.globalNamed "internal/strconv.uint64pow10" = some 1 := by kernel_rfl
theorem gt_pow:(Tryz.prog.globals[1]?).map (·.type)=some 217:=by kernel_rfl
theorem g_rng : Tryz.prog.globalNamed "strconv.ErrRange" = some 6 := by kernel_rfl
theorem gt_rng:(Tryz.prog.globals[6]?).map (·.type)=some 165:=by kernel_rfl
theorem g_syn : Tryz.prog.globalNamed "strconv.ErrSyntax" = some 5 := by kernel_rfl
theorem gt_syn:(Tryz.prog.globals[5]?).map (·.type)=some 165:=by kernel_rfl
theorem g_two : Tryz.prog.globalNamed "pedigree/lex.twos" = some 0 := by kernel_rfl
theorem gt_two:(Tryz.prog.globals[0]?).map (·.type)=some 211:=by kernel_rfl
def glAt (W:World):Gl:=⟨fun b=>W.heap[b]?,fun _ _=>.cells #[] 0 (0,0),fun _=>[]⟩
def laidL : List (String × DataW Unit) := [("math/bits.deBruijn32tab", Rows.laid_math_bits_deBruijn32tab), ("math/bits.deBruijn64tab", Rows.laid_math_bits_deBruijn64tab), ("internal/strconv.uint64pow10", Rows.laid_internal_strconv_uint64pow10), ("strconv.ErrRange", Rows.laid_strconv_ErrRange), ("strconv.ErrSyntax", Rows.laid_strconv_ErrSyntax), ("pedigree/lex.twos", Rows.laid_pedigree_lex_twos)]
theorem qnU:(laidL.filter fun x=>x.2.handleName?.isSome)=[]:=by kernel_rfl
theorem qGy {W:World} (h:laidMetH Tryz.prog laidL W):GlPow (glAt W):=by
 unfold laidMetH at h
 rw [qnU] at h
 obtain⟨ps,hl,_⟩:=h;refine⟨?_⟩;obtain ⟨g, t, cs, fuel, p, h1, h2, h3, h4⟩ := qph (nm := "internal/strconv.uint64pow10") hl (.tail _ (.tail _ (.head _)));obtain rfl:=Option.some.inj (g_pow.symm.trans h1);obtain rfl:=Option.some.inj (gt_pow.symm.trans h2);have e:(Rows.laid_internal_strconv_uint64pow10:DataW Unit)=Lib.tabData .u64 Lib.pow10Tab:=by rfl
 rw [e] at h4;have hc:=Lib.cells_of_tab Tryz.underlying217 Tryz.underlying132 (by kernel_rfl) (by kernel_rfl) h4
 obtain⟨T,f,hh⟩:=qrO h1 h3;refine⟨1,T,f,g_pow,?_⟩;show W.heap[1]?=_
 rw [← hc];simpa using hh
theorem qJ7 {W:World} (h0:laidMetH Tryz.prog laidL W):GlOk (glAt W):=by
 have h:=h0;unfold laidMetH at h
 rw [qnU] at h
 obtain⟨ps,hl,_⟩:=h;refine⟨qGy h0,?_,?_⟩
 ·obtain ⟨g, t, cs, fuel, p, h1, h2, h3, h4⟩ := qph (nm := "strconv.ErrSyntax") hl (.tail _ (.tail _ (.tail _ (.tail _ (.head _)))));obtain rfl:=Option.some.inj (g_syn.symm.trans h1);obtain rfl:=Option.some.inj (gt_syn.symm.trans h2);obtain⟨u,v,rfl⟩:=qwv Tryz.underlying165 h4;obtain⟨T,f,hh⟩:=qrO h1 h3;exact⟨u,v,5,T,f,g_syn,hh⟩
 ·obtain ⟨g, t, cs, fuel, p, h1, h2, h3, h4⟩ := qph (nm := "strconv.ErrRange") hl (.tail _ (.tail _ (.tail _ (.head _))));obtain rfl:=Option.some.inj (g_rng.symm.trans h1);obtain rfl:=Option.some.inj (gt_rng.symm.trans h2);obtain⟨u,v,rfl⟩:=qwv Tryz.underlying165 h4;obtain⟨T,f,hh⟩:=qrO h1 h3;exact⟨u,v,6,T,f,g_rng,hh⟩
theorem qxA {H:Type} {enc:TypeId×Value→H} {P:Program} {w:World} {base:Nat} {sp:Nat→Bool} {held:Bool} {fuel:Nat} {t e:TypeId} {n:Nat} {cs:List Value} {zs:List (List UInt8)} {p:List MemPlace}
  (ht:P.underlying t=some (.array n e)) (he:P.underlying e=some .string) (hce:P.cellsOf e=1) (hct:P.cellsOf t=n)
  (h:DataW.trod enc P w base sp held fuel t cs=some (.agg (zs.map fun z=>.lit (.string z)),p)):cs=zs.map fun z=>Value.string ⟨z.toArray⟩:=by
 cases fuel with
 |zero=>simp [DataW.trod] at h
 |succ fuel =>
  simp only [DataW.trod,ht,hce,hct,Nat.mul_one] at h
  split at h
  ·rename_i hl;obtain⟨xs,hm,hx⟩:=Option.map_eq_some_iff.1 h;have hxs:xs.map (·.1)=zs.map fun z=>(DataW.lit (.string z):DataW H):=by
    have:=congrArg Prod.fst hx;simpa using this
   have hxl:xs.length=n:=by simpa using Lib.mapM_length hm
   have hzl:zs.length=n:=by
    have:=congrArg List.length hxs;simp at this;omega
   apply List.ext_getElem?;intro i;by_cases hi:i < n
   ·obtain⟨b,hb,hf⟩:=Lib.mapM_at hm i i (by simp [hi])
    obtain⟨z,hc,rfl,_⟩:=DataW.trod_string he hf;have h1:cs[i]?=some (.string z):=by
     have:=congrArg (·[0]?) hc;simpa [List.getElem?_take,List.getElem?_drop] using this
    have h2:(xs.map (·.1))[i]?=some (DataW.lit (.string z.data.toList):DataW H):=by simp [hb]
    rw [hxs] at h2;simp only [List.getElem?_map,Option.map_eq_some_iff,DataW.lit.injEq,Lit.string.injEq] at h2;obtain⟨z',hz',rfl⟩:=h2;simp [h1,hz']
   ·rw [List.getElem?_eq_none (by omega),List.getElem?_eq_none (by simp;omega)]
  ·cases h
theorem qHn {W:World} (h0:laidMetH Tryz.prog laidL W):GlLex (glAt W):=by
 have h:=h0;unfold laidMetH at h
 rw [qnU] at h
 obtain⟨ps,hl,_⟩:=h;refine⟨qJ7 h0,?_⟩;obtain ⟨g, t, cs, fuel, p, h1, h2, h3, h4⟩ := qph (nm := "pedigree/lex.twos") hl (.tail _ (.tail _ (.tail _ (.tail _ (.tail _ (.head _))))));obtain rfl:=Option.some.inj (g_two.symm.trans h1);obtain rfl:=Option.some.inj (gt_two.symm.trans h2);have e:(Rows.laid_pedigree_lex_twos:DataW Unit)=.agg (twosV.map fun z=>.lit (.string z)):=by rfl
 rw [e] at h4;have hc:=qxA Tryz.underlying211 Tryz.underlying9 (by kernel_rfl) (by kernel_rfl) h4
 obtain⟨T,f,hh⟩:=qrO h1 h3;refine⟨0,T,f,g_two,?_⟩;show W.heap[0]?=_
 rw [← hc];simpa using hh
theorem qRo:laidOutB Tryz.prog=true:=by kernel_rfl
theorem qL8 {F:List PV→Tr PV} {f:FuncId} {fn:Func} {s:ChangeSpec} (hsim:∀ {gl:Gl},GlLex gl→SimP Tryz.prog gl f fun args=>(F args).run) (hF:∀ xs,ArgL Tryz.prog fn.params.toList xs→(∃ H w vs,RelL H w xs vs)→(F xs).run=some (.bool true))
  (hrt:fn.resultTypes=#[4]) (hsv:s.vars=[]) (hT:(fn.params.toList.all fun t=>okT Tryz.prog 16 t&&Tryz.prog.readableRec t&&decide (t < Tryz.prog.types.size))=true)
  {H:Type} {enc:TypeId×Value→H} {W:World} {base:Nat} {args:Array Value} {ds gs:List (DataW H)} {before:List MemPlace} (hfn:∀ ds:List (DataW H),ds.length=fn.params.size→s.fn H ds={ results:=[.lit (.bool true)],args:=ds })
  (hval:∀ (j:Nat) t v,fn.params[j]?=some t→args[j]?=some v→Value.okWide Tryz.prog W .any base t v) (hW:DataW.Whole enc Tryz.prog fn.params.toList s.vars false W args.toList ds gs before) (hL:laidMetH Tryz.prog laidL W) :
  Calls Tryz.prog f args W fun e W'=>∃ v,e=.returned v∧s.post enc Tryz.prog fn false true false false W args v W':=by
 have hW':=hW;obtain⟨p,q,hA,hV,rfl,hfz,hnd⟩:=hW';have hT':∀ t∈fn.params.toList,okT Tryz.prog 16 t=true∧Tryz.prog.readableRec t=true∧t < Tryz.prog.types.size:=by
  intro t ht;have:=List.all_eq_true.1 hT t ht;simp only [Bool.and_eq_true,decide_eq_true_eq] at this;exact⟨this.1.1,this.1.2,this.2⟩
 obtain⟨xs,hx,ha⟩:=qE1 (n:=16) (fun j t v ht hv=>hval j t v (by simpa using ht) (by simpa using hv)) hA (List.all_eq_true.2 fun t ht=>(hT' t ht).1)
 have hlen:ds.length=fn.params.size:=by
  have h1:∀ {ts:List TypeId} {vs:List Value} {ds:List (DataW H)} {ps:List MemPlace},DataW.TrodAll enc Tryz.prog W 0 (fun _=>true) true ts vs ds ps→ds.length=ts.length:=by
   intro ts
   induction ts with
   |nil=>intro vs ds ps h;obtain⟨rfl,rfl,rfl⟩:=Go.ChangeShapes.trodAll_nil h;rfl
   |cons t ts ih =>
    intro vs ds ps h;obtain⟨v,vs',d,ds',p,q,rfl,rfl,rfl,hd,hrest⟩:=Go.ChangeShapes.trodAll_cons h;simp [ih hrest]
  simpa using h1 hA
 have hc:=(hsim (qHn hL)).run xs _ (hF xs ha ⟨_,_,_,hx⟩) (ghOf W) W args.toList rfl rfl rfl (fun b o h=>h) hx
 simp only [Array.toArray_toList] at hc;refine hc.mono ?_;rintro e W' ⟨v,rfl,hb,hr⟩;cases hr
 exact⟨_,rfl,qNM qRo hrt Tryz.underlying4 hsv (fun t ht=>(hT' t ht).2) hW (hfn ds hlen) hb.1⟩
end Go.Pv
namespace Go.Proofs.YtakhnioifgbdfaaGreatDoor
open Go Go.Proofs Go.RowKit Go.Pv Go.ChangeShapes Go.WideShapes Go.ChangeAt
theorem qn2 {t:TypeId} {k:IntKind} {xs:List PV} (hu:Tryz.prog.underlying t=some (.int k)) (h:Shp Tryz.prog t xs):∃ n,xs=[.int k n]:=by
 cases h with
 |int t k' n h=>rw [hu] at h;cases h;exact⟨n,rfl⟩
 |bool t b h=>rw [hu] at h;cases h
 |str t l h=>rw [hu] at h;cases h
 |sl t e xss h hx=>rw [hu] at h;cases h
 |struct t fs xs h hx=>rw [hu] at h;cases h
theorem qqN {t:TypeId} {xs:List PV} (hu:Tryz.prog.underlying t=some .string) (h:Shp Tryz.prog t xs):∃ l,xs=[.str l]:=by
 cases h with
 |str t l h=>exact⟨l,rfl⟩
 |int t k' n h=>rw [hu] at h;cases h
 |bool t b h=>rw [hu] at h;cases h
 |sl t e xss h hx=>rw [hu] at h;cases h
 |struct t fs xs h hx=>rw [hu] at h;cases h
theorem qdB {t:TypeId} {fs:Array Field} {xs:List PV} (hu:Tryz.prog.underlying t=some (.struct fs)) (h:Shp Tryz.prog t xs):ShpL Tryz.prog (fs.toList.map (·.type)) xs:=by
 cases h with
 |struct t fs xs h hx=>rw [hu] at h;cases h;exact hx
 |str t l h=>rw [hu] at h;cases h
 |int t k' n h=>rw [hu] at h;cases h
 |bool t b h=>rw [hu] at h;cases h
 |sl t e xss h hx=>rw [hu] at h;cases h
theorem qTn {t e:TypeId} {xs:List PV} (hu:Tryz.prog.underlying t=some (.slice e)) (h:Shp Tryz.prog t xs):∃ xss,xs=[.sl xss .non]∧∀ ys,ys∈xss→Shp Tryz.prog e ys:=by
 cases h with
 |sl t e xss h hx=>rw [hu] at h;cases h;exact⟨xss,rfl,hx⟩
 |str t l h=>rw [hu] at h;cases h
 |int t k' n h=>rw [hu] at h;cases h
 |bool t b h=>rw [hu] at h;cases h
 |struct t fs xs h hx=>rw [hu] at h;cases h
theorem qin {α:Type} (C:Cod α) {t e:TypeId} {xs:List PV} (hu:Tryz.prog.underlying t=some (.slice e)) (he:∀ ys,Shp Tryz.prog e ys→∃ a,ys=C.enc a) (h:Shp Tryz.prog t xs):∃ l:List α,xs=[.sl (rOf C l) .non]:=by
 obtain⟨xss,rfl,hx⟩:=qTn hu h;have:∃ l:List α,xss=rOf C l:=by
  clear h
  induction xss with
  |nil=>exact⟨[],rfl⟩
  |cons y ys ih =>
   obtain⟨a,rfl⟩:=he y (hx y (List.mem_cons_self ..));obtain⟨l,rfl⟩:=ih fun z hz=>hx z (List.mem_cons_of_mem _ hz)
   exact⟨a::l,rfl⟩
 obtain⟨l,rfl⟩:=this;exact⟨l,rfl⟩
theorem qQr {xs:List PV} (h:Shp Tryz.prog 25 xs):∃ v:Vl,xs=[.int .i64 v.1,.int .i64 v.2.1,.str v.2.2]:=by
 have h1:=qdB Tryz.underlying25 h;cases h1 with
 |cons t ts xs ys ha hs =>
  obtain⟨k,rfl⟩:=qn2 Tryz.underlying23 ha;cases hs with
  |cons t ts xs ys hb hs =>
   obtain⟨n,rfl⟩:=qn2 Tryz.underlying2 hb;cases hs with
   |cons t ts xs ys hc hs =>
    obtain⟨s,rfl⟩:=qqN Tryz.underlying9 hc;cases hs
    exact⟨(k,n,s),rfl⟩
theorem qE8 {t:TypeId} {xs:List PV} (hu:Tryz.prog.underlying t=some .bool) (h:Shp Tryz.prog t xs):∃ b,xs=[.bool b]:=by
 cases h with
 |bool _ b _=>exact⟨b,rfl⟩
 |int _ _ _ h=>rw [hu] at h;cases h
 |str _ _ h=>rw [hu] at h;cases h
 |sl _ _ _ h _=>rw [hu] at h;cases h
 |struct _ _ _ h _=>rw [hu] at h;cases h
theorem qyR {xs:List PV} (h:Shp Tryz.prog 27 xs):∃ v:Tm,xs=cM.enc v:=by
 have h1:=qdB Tryz.underlying27 h;cases h1 with
 |cons t ts xs ys ha0 hs =>
  obtain⟨x0,rfl⟩:=qn2 Tryz.underlying22 ha0;cases hs with
  |cons t ts xs ys ha1 hs =>
   obtain⟨x1,rfl⟩:=qqN Tryz.underlying9 ha1;cases hs with
   |cons t ts xs ys ha2 hs =>
    obtain⟨x2,rfl⟩:=qQr ha2;cases hs
    exact⟨(x0,x1,x2),rfl⟩
theorem qxt {xs:List PV} (h:Shp Tryz.prog 31 xs):∃ v:At,xs=cA.enc v:=by
 have h1:=qdB Tryz.underlying31 h;cases h1 with
 |cons t ts xs ys ha0 hs =>
  obtain⟨x0,rfl⟩:=qqN Tryz.underlying9 ha0;cases hs with
  |cons t ts xs ys ha1 hs =>
   obtain⟨x1,rfl⟩:=qin cM Tryz.underlying29 (fun _ h=>qyR h) ha1
   cases hs
   exact⟨(x0,x1),rfl⟩
theorem qRO {xs:List PV} (h:Shp Tryz.prog 34 xs):∃ v:Li,xs=cL.enc v:=by
 have h1:=qdB Tryz.underlying34 h;cases h1 with
 |cons t ts xs ys ha0 hs =>
  obtain⟨x0,rfl⟩:=qn2 Tryz.underlying28 ha0;cases hs with
  |cons t ts xs ys ha1 hs =>
   obtain⟨x1,rfl⟩:=qxt ha1;cases hs with
   |cons t ts xs ys ha2 hs =>
    obtain⟨x2,rfl⟩:=qn2 Tryz.underlying32 ha2;cases hs with
    |cons t ts xs ys ha3 hs =>
     obtain⟨x3,rfl⟩:=qyR ha3;cases hs with
     |cons t ts xs ys ha4 hs =>
      obtain⟨x4,rfl⟩:=qyR ha4;cases hs
      exact⟨(x0,x1,x2,x3,x4),rfl⟩
theorem qM6 {xs:List PV} (h:Shp Tryz.prog 48 xs):∃ v:Ru,xs=cRu.enc v:=by
 have h1:=qdB Tryz.underlying48 h;cases h1 with
 |cons t ts xs ys ha0 hs =>
  obtain⟨x0,rfl⟩:=qxt ha0;cases hs with
  |cons t ts xs ys ha1 hs =>
   obtain⟨x1,rfl⟩:=qin cL Tryz.underlying46 (fun _ h=>qRO h) ha1
   cases hs
   exact⟨(x0,x1),rfl⟩
theorem qPt {xs:List PV} (h:Shp Tryz.prog 99 xs):∃ v:Int,xs=cI.enc v:=by
 obtain⟨n,rfl⟩:=qn2 Tryz.underlying99 h;exact⟨n,rfl⟩
theorem qMH {xs:List PV} (h:Shp Tryz.prog 51 xs):∃ v:De,xs=cD.enc v:=by
 have h1:=qdB Tryz.underlying51 h;cases h1 with
 |cons t ts xs ys ha0 hs =>
  obtain⟨x0,rfl⟩:=qqN Tryz.underlying9 ha0;cases hs with
  |cons t ts xs ys ha1 hs =>
   obtain⟨x1,rfl⟩:=qE8 Tryz.underlying4 ha1;cases hs with
   |cons t ts xs ys ha2 hs =>
    obtain⟨x2,rfl⟩:=qin cI Tryz.underlying49 (fun _ h=>qPt h) ha2
    cases hs
    exact⟨(x0,x1,x2),rfl⟩
theorem qLk {xs:List PV} (h:Shp Tryz.prog 101 xs):∃ v:Pa,xs=cP.enc v:=by
 have h1:=qdB Tryz.underlying101 h;cases h1 with
 |cons t ts xs ys ha0 hs =>
  obtain⟨x0,rfl⟩:=qqN Tryz.underlying9 ha0;cases hs with
  |cons t ts xs ys ha1 hs =>
   obtain⟨x1,rfl⟩:=qn2 Tryz.underlying99 ha1;cases hs
   exact⟨(x0,x1),rfl⟩
theorem qRr {xs:List PV} (h:Shp Tryz.prog 103 xs):∃ v:Ac,xs=cAc.enc v:=by
 have h1:=qdB Tryz.underlying103 h;cases h1 with
 |cons t ts xs ys ha0 hs =>
  obtain⟨x0,rfl⟩:=qE8 Tryz.underlying4 ha0;cases hs with
  |cons t ts xs ys ha1 hs =>
   obtain⟨x1,rfl⟩:=qxt ha1;cases hs
   exact⟨(x0,x1),rfl⟩
theorem qSL {xs:List PV} (h:Shp Tryz.prog 55 xs):∃ v:En,xs=cE.enc v:=by
 have h1:=qdB Tryz.underlying55 h;cases h1 with
 |cons t ts xs ys ha0 hs =>
  obtain⟨x0,rfl⟩:=qqN Tryz.underlying9 ha0;cases hs with
  |cons t ts xs ys ha1 hs =>
   obtain⟨x1,rfl⟩:=qin cP Tryz.underlying52 (fun _ h=>qLk h) ha1
   cases hs with
   |cons t ts xs ys ha2 hs =>
    obtain⟨x2,rfl⟩:=qin cAc Tryz.underlying53 (fun _ h=>qRr h) ha2
    cases hs
    exact⟨(x0,x1,x2),rfl⟩
theorem qN0 {xs:List PV} (h:Shp Tryz.prog 71 xs):∃ p:Pr,xs=[.sl (rOf cD p.1) .non,.sl (rOf cE p.2.1) .non,.sl (rOf cRu p.2.2) .non]:=by
 have h1:=qdB Tryz.underlying71 h;cases h1 with
 |cons t ts xs ys ha hs =>
  obtain⟨a,rfl⟩:=qin cD Tryz.underlying67 (fun _ h=>qMH h) ha
  cases hs with
  |cons t ts xs ys hb hs =>
   obtain⟨b,rfl⟩:=qin cE Tryz.underlying68 (fun _ h=>qSL h) hb
   cases hs with
   |cons t ts xs ys hc hs =>
    obtain⟨c,rfl⟩:=qin cRu Tryz.underlying69 (fun _ h=>qM6 h) hc
    cases hs
    exact⟨(a,b,c),rfl⟩
theorem qOg {x:PV} (h:Arg Tryz.prog 71 x):∃ p:Pr,x=.agg [.sl (rOf cD p.1) .non,.sl (rOf cE p.2.1) .non,.sl (rOf cRu p.2.2) .non]:=by
 rcases h with⟨fs,ys,hu,rfl,hs⟩|⟨hne,_⟩
 ·obtain⟨p,rfl⟩:=qN0 hs;exact⟨p,rfl⟩
 ·exact absurd Tryz.underlying71 (hne _)
def qy2:DataW Unit→Array Value
 |.agg l=>(l.map fun d=>match d with|.lit (.int k n)=>Value.int k n|.lit (.string s)=>Value.string ⟨s.toArray⟩|_=>undef).toArray
 |_=>#[]
def low:Nat:=(World.holding Tryz.prog default ⟨#[],#[],[]⟩).heap.size
def quz (os:Os):World :=
 let w0:=World.holding Tryz.prog os ⟨#[.cells #[.string ⟨#[118,97,108,117,101,32,111,117,116,32,111,102,32,114,97,110,103,101]⟩] 245,.cells #[.string ⟨#[105,110,118,97,108,105,100,32,115,121,110,116,97,120]⟩] 245],#[],[]⟩
 { w0 with heap:=((((((w0.heap.modify 5 fun
  |.cells _ t frozen=>.cells #[.iface 243 (.pointer (some ⟨low+1,0,none⟩))] t frozen
  |o=>o).modify 6 fun
  |.cells _ t frozen=>.cells #[.iface 243 (.pointer (some ⟨low,0,none⟩))] t frozen
  |o=>o).modify 3 fun
  |.cells _ t frozen=>.cells (qy2 Rows.laid_math_bits_deBruijn32tab) t frozen
  |o=>o).modify 4 fun
  |.cells _ t frozen=>.cells (qy2 Rows.laid_math_bits_deBruijn64tab) t frozen
  |o=>o).modify 1 fun
  |.cells _ t frozen=>.cells (qy2 Rows.laid_internal_strconv_uint64pow10) t frozen
  |o=>o).modify 0 fun
  |.cells _ t frozen=>.cells (qy2 Rows.laid_pedigree_lex_twos) t frozen
  |o=>o) }
theorem own:ownKnob Tryz.prog.godebug=none:=by kernel_rfl
theorem qNc (os:Os) (args:Array Value):laidMet Tryz.prog laidL ((quz os).forCall (fun _ _=>0) ⟨#[],args,[]⟩).memory :=
 laidMet_of_run' 8 (by kernel_rfl) (by kernel_rfl)
end Go.Proofs.YtakhnioifgbdfaaGreatDoor
