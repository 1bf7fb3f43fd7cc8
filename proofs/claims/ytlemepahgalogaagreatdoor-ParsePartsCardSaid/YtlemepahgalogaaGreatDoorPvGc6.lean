/- Part 6 of the proof: pure values for the machine's values, what functions compute over them, and laws of what is computed. Conditions: none beyond each theorem's own premises. -/
import Derived.Test.YtlemepahgalogaaGreatDoorPvGc5
import Derived.Test.YtlemepahgalogaaGreatDoorCards
import Derived.Test.YtlemepahgalogaaGreatDoorTie
noncomputable section
set_option maxHeartbeats 4000000
set_option maxRecDepth 200000
set_option linter.unusedSimpArgs false
set_option linter.unusedVariables false
namespace Go.Pv
open Go Go.Proofs Go.RowKit Go.Proofs.YtlemepahgalogaaGreatDoor
theorem g_pow : Tryz.prog.globalNamed "internal/strconv.uint64pow10" = some 2 := by kernel_rfl
theorem gt_pow:(Tryz.prog.globals[2]?).map (·.type)=some 240:=by kernel_rfl
theorem g_rng : Tryz.prog.globalNamed "strconv.ErrRange" = some 4 := by kernel_rfl
theorem gt_rng:(Tryz.prog.globals[4]?).map (·.type)=some 189:=by kernel_rfl
theorem g_syn : Tryz.prog.globalNamed "strconv.ErrSyntax" = some 3 := by kernel_rfl
theorem gt_syn:(Tryz.prog.globals[3]?).map (·.type)=some 189:=by kernel_rfl
theorem g_two : Tryz.prog.globalNamed "pedigree/lex.twos" = some 0 := by kernel_rfl
theorem gt_two:(Tryz.prog.globals[0]?).map (·.type)=some 208:=by kernel_rfl
def glAt (W:World):Gl:=⟨fun b=>W.heap[b]?,fun _ _=>.cells #[] 0 (0,0),fun _=>[]⟩
def laidL : List (String × DataW Unit) := [("math/bits.deBruijn32tab", Rows.laid_math_bits_deBruijn32tab), ("math/bits.deBruijn64tab", Rows.laid_math_bits_deBruijn64tab), ("internal/strconv.uint64pow10", Rows.laid_internal_strconv_uint64pow10), ("strconv.ErrRange", Rows.laid_strconv_ErrRange), ("strconv.ErrSyntax", Rows.laid_strconv_ErrSyntax), ("pedigree/lex.twos", Rows.laid_pedigree_lex_twos)]
theorem qnO:(laidL.filter fun x=>x.2.handleName?.isSome)=[]:=by kernel_rfl
theorem qJA {W:World} (h:laidMetH Tryz.prog laidL W):GlPow (glAt W):=by
 unfold laidMetH at h
 rw [qnO] at h
 obtain⟨ps,hl,_⟩:=h;refine⟨?_⟩;obtain ⟨g, t, cs, fuel, p, h1, h2, h3, h4⟩ := qoH (nm := "internal/strconv.uint64pow10") hl (.tail _ (.tail _ (.head _)));obtain rfl:=Option.some.inj (g_pow.symm.trans h1);obtain rfl:=Option.some.inj (gt_pow.symm.trans h2);have e:(Rows.laid_internal_strconv_uint64pow10:DataW Unit)=Lib.tabData .u64 Lib.pow10Tab:=by rfl
 rw [e] at h4;have hc:=Lib.cells_of_tab Tryz.underlying240 Tryz.underlying209 (by kernel_rfl) (by kernel_rfl) h4
 obtain⟨T,f,hh⟩:=qt7 h1 h3;refine⟨2,T,f,g_pow,?_⟩;show W.heap[2]?=_
 rw [← hc];simpa using hh
theorem qOe {W:World} (h0:laidMetH Tryz.prog laidL W):GlOk (glAt W):=by
 have h:=h0;unfold laidMetH at h
 rw [qnO] at h
 obtain⟨ps,hl,_⟩:=h;refine⟨qJA h0,?_,?_⟩
 ·obtain ⟨g, t, cs, fuel, p, h1, h2, h3, h4⟩ := qoH (nm := "strconv.ErrSyntax") hl (.tail _ (.tail _ (.tail _ (.tail _ (.head _)))));obtain rfl:=Option.some.inj (g_syn.symm.trans h1);obtain rfl:=Option.some.inj (gt_syn.symm.trans h2);obtain⟨u,v,rfl⟩:=qyX Tryz.underlying189 h4;obtain⟨T,f,hh⟩:=qt7 h1 h3;exact⟨u,v,3,T,f,g_syn,hh⟩
 ·obtain ⟨g, t, cs, fuel, p, h1, h2, h3, h4⟩ := qoH (nm := "strconv.ErrRange") hl (.tail _ (.tail _ (.tail _ (.head _))));obtain rfl:=Option.some.inj (g_rng.symm.trans h1);obtain rfl:=Option.some.inj (gt_rng.symm.trans h2);obtain⟨u,v,rfl⟩:=qyX Tryz.underlying189 h4;obtain⟨T,f,hh⟩:=qt7 h1 h3;exact⟨u,v,4,T,f,g_rng,hh⟩
theorem qCD {H:Type} {enc:TypeId×Value→H} {P:Program} {w:World} {base:Nat} {sp:Nat→Bool} {held:Bool} {fuel:Nat} {t e:TypeId} {n:Nat} {cs:List Value} {zs:List (List UInt8)} {p:List MemPlace}
  (ht:P.underlying t=some (.array n e)) (he:P.underlying e=some .string) (hce:P.cellsOf e=1) (hct:P.cellsOf t=n)
  (h:DataW.trod enc P w base sp held fuel t cs=some (.agg (zs.map fun z=>.lit (.string z)),p)):cs=zs.map fun z=>Value.string ⟨z.toArray⟩:=by
 cases fuel with
 |zero=>simp [DataW.trod] at h
 |succ fuel =>
  simp only [DataW.trod,ht,hce,hct,Nat.mul_one] at h
  split at h
  ·rename_i hl;obtain⟨xs,hm,hx⟩:=Option.map_eq_some_iff.1 h;have hxs:xs.map (·.1)=zs.map fun z=>(DataW.lit (.string z):DataW H):=by
    have:=congrArg Prod.fst hx;simpa using this
   have hxl:xs.length=n:=by simpa using Lib.mapM_length hm
   have hzl:zs.length=n:=by
    have:=congrArg List.length hxs;simp at this;omega
   apply List.ext_getElem?;intro i;by_cases hi:i < n
   ·obtain⟨b,hb,hf⟩:=Lib.mapM_at hm i i (by simp [hi])
    obtain⟨z,hc,rfl,_⟩:=DataW.trod_string he hf;have h1:cs[i]?=some (.string z):=by
     have:=congrArg (·[0]?) hc;simpa [List.getElem?_take,List.getElem?_drop] using this
    have h2:(xs.map (·.1))[i]?=some (DataW.lit (.string z.data.toList):DataW H):=by simp [hb]
    rw [hxs] at h2;simp only [List.getElem?_map,Option.map_eq_some_iff,DataW.lit.injEq,Lit.string.injEq] at h2;obtain⟨z',hz',rfl⟩:=h2;simp [h1,hz']
   ·rw [List.getElem?_eq_none (by omega),List.getElem?_eq_none (by simp;omega)]
  ·cases h
theorem qJa {W:World} (h0:laidMetH Tryz.prog laidL W):GlLex (glAt W):=by
 have h:=h0;unfold laidMetH at h
 rw [qnO] at h
 obtain⟨ps,hl,_⟩:=h;refine⟨qOe h0,?_⟩;obtain ⟨g, t, cs, fuel, p, h1, h2, h3, h4⟩ := qoH (nm := "pedigree/lex.twos") hl (.tail _ (.tail _ (.tail _ (.tail _ (.tail _ (.head _))))));obtain rfl:=Option.some.inj (g_two.symm.trans h1);obtain rfl:=Option.some.inj (gt_two.symm.trans h2);have e:(Rows.laid_pedigree_lex_twos:DataW Unit)=.agg (twosV.map fun z=>.lit (.string z)):=by rfl
 rw [e] at h4;have hc:=qCD Tryz.underlying208 Tryz.underlying9 (by kernel_rfl) (by kernel_rfl) h4
 obtain⟨T,f,hh⟩:=qt7 h1 h3;refine⟨0,T,f,g_two,?_⟩;show W.heap[0]?=_
 rw [← hc];simpa using hh
theorem qT6:laidOutB Tryz.prog=true:=by kernel_rfl
theorem qKy {F:List PV→Tr PV} {f:FuncId} {fn:Func} {s:ChangeSpec} (hsim:∀ {gl:Gl},GlLex gl→SimP Tryz.prog gl f fun args=>(F args).run) (hF:∀ xs,ArgL Tryz.prog fn.params.toList xs→(∃ H w vs,RelL H w xs vs)→(F xs).run=some (.bool true))
  (hrt:fn.resultTypes=#[4]) (hsv:s.vars=[]) (hT:(fn.params.toList.all fun t=>okT Tryz.prog 16 t&&Tryz.prog.readableRec t&&decide (t < Tryz.prog.types.size))=true)
  {H:Type} {enc:TypeId×Value→H} {W:World} {base:Nat} {args:Array Value} {ds gs:List (DataW H)} {before:List MemPlace} (hfn:∀ ds:List (DataW H),ds.length=fn.params.size→s.fn H ds={ results:=[.lit (.bool true)],args:=ds })
  (hval:∀ (j:Nat) t v,fn.params[j]?=some t→args[j]?=some v→Value.okWide Tryz.prog W .any base t v) (hW:DataW.Whole enc Tryz.prog fn.params.toList s.vars false W args.toList ds gs before) (hL:laidMetH Tryz.prog laidL W) :
  Calls Tryz.prog f args W fun e W'=>∃ v,e=.returned v∧s.post enc Tryz.prog fn false true false false W args v W':=by
 have hW':=hW;obtain⟨p,q,hA,hV,rfl,hfz,hnd⟩:=hW';have hT':∀ t∈fn.params.toList,okT Tryz.prog 16 t=true∧Tryz.prog.readableRec t=true∧t < Tryz.prog.types.size:=by
  intro t ht;have:=List.all_eq_true.1 hT t ht;simp only [Bool.and_eq_true,decide_eq_true_eq] at this;exact⟨this.1.1,this.1.2,this.2⟩
 obtain⟨xs,hx,ha⟩:=qHn (n:=16) (fun j t v ht hv=>hval j t v (by simpa using ht) (by simpa using hv)) hA (List.all_eq_true.2 fun t ht=>(hT' t ht).1)
 have hlen:ds.length=fn.params.size:=by
  have h1:∀ {ts:List TypeId} {vs:List Value} {ds:List (DataW H)} {ps:List MemPlace},DataW.TrodAll enc Tryz.prog W 0 (fun _=>true) true ts vs ds ps→ds.length=ts.length:=by
   intro ts
   induction ts with
   |nil=>intro vs ds ps h;obtain⟨rfl,rfl,rfl⟩:=Go.ChangeShapes.trodAll_nil h;rfl
   |cons t ts ih =>
    intro vs ds ps h;obtain⟨v,vs',d,ds',p,q,rfl,rfl,rfl,hd,hrest⟩:=Go.ChangeShapes.trodAll_cons h;simp [ih hrest]
  simpa using h1 hA
 have hc:=(hsim (qJa hL)).run xs _ (hF xs ha ⟨_,_,_,hx⟩) (ghOf W) W args.toList rfl rfl rfl (fun b o h=>h) hx
 simp only [Array.toArray_toList] at hc;refine hc.mono ?_;rintro e W' ⟨v,rfl,hb,hr⟩;cases hr
 exact⟨_,rfl,qPK qT6 hrt Tryz.underlying4 hsv (fun t ht=>(hT' t ht).2) hW (hfn ds hlen) hb.1⟩
end Go.Pv
namespace Go.Proofs.YtlemepahgalogaaGreatDoor
open Go Go.Proofs Go.RowKit Go.Pv Go.ChangeShapes Go.WideShapes Go.ChangeAt
theorem qTZ {t:TypeId} {xs:List PV} (hu:Tryz.prog.underlying t=some .string) (h:Shp Tryz.prog t xs):∃ l,xs=[.str l]:=by
 cases h with
 |str t l h=>exact⟨l,rfl⟩
 |int t k' n h=>rw [hu] at h;cases h
 |bool t b h=>rw [hu] at h;cases h
 |sl t e xss h hx=>rw [hu] at h;cases h
 |struct t fs xs h hx=>rw [hu] at h;cases h
theorem qRC {x:PV} (h:Arg Tryz.prog 9 x):∃ s,x=.str s:=by
 rcases h with⟨fs,ys,hu,rfl,hs⟩|⟨hne,hs⟩
 ·rw [Tryz.underlying9] at hu;cases hu
 ·obtain⟨s,h⟩:=qTZ Tryz.underlying9 hs;cases h
  exact⟨s,rfl⟩
def qzA:DataW Unit→Array Value
 |.agg l=>(l.map fun d=>match d with|.lit (.int k n)=>Value.int k n|.lit (.string s)=>Value.string ⟨s.toArray⟩|_=>undef).toArray
 |_=>#[]
def low:Nat:=(World.holding Tryz.prog default ⟨#[],#[],[]⟩).heap.size
def qxl (os:Os):World :=
 let w0:=World.holding Tryz.prog os ⟨#[.cells #[.string ⟨#[118,97,108,117,101,32,111,117,116,32,111,102,32,114,97,110,103,101]⟩] 259,.cells #[.string ⟨#[105,110,118,97,108,105,100,32,115,121,110,116,97,120]⟩] 259],#[],[]⟩
 { w0 with heap:=((((((w0.heap.modify 3 fun
  |.cells _ t frozen=>.cells #[.iface 257 (.pointer (some ⟨low+1,0,none⟩))] t frozen
  |o=>o).modify 4 fun
  |.cells _ t frozen=>.cells #[.iface 257 (.pointer (some ⟨low,0,none⟩))] t frozen
  |o=>o).modify 5 fun
  |.cells _ t frozen=>.cells (qzA Rows.laid_math_bits_deBruijn32tab) t frozen
  |o=>o).modify 6 fun
  |.cells _ t frozen=>.cells (qzA Rows.laid_math_bits_deBruijn64tab) t frozen
  |o=>o).modify 2 fun
  |.cells _ t frozen=>.cells (qzA Rows.laid_internal_strconv_uint64pow10) t frozen
  |o=>o).modify 0 fun
  |.cells _ t frozen=>.cells (qzA Rows.laid_pedigree_lex_twos) t frozen
  |o=>o) }
theorem own:ownKnob Tryz.prog.godebug=none:=by kernel_rfl
theorem qOF (os:Os) (args:Array Value):laidMet Tryz.prog laidL ((qxl os).forCall (fun _ _=>0) ⟨#[],args,[]⟩).memory :=
 laidMet_of_run' 8 (by kernel_rfl) (by kernel_rfl)
end Go.Proofs.YtlemepahgalogaaGreatDoor
