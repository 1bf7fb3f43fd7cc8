import Derived.Test.YtpicepaiigbgkaaDoorPvJ
import Derived.Test.YtpicepaiigbgkaaDoorPvRow
import Derived.Test.YtpicepaiigbgkaaDoorCards
import Derived.Test.YtpicepaiigbgkaaDoorTie
set_option maxHeartbeats 4000000
set_option maxRecDepth 200000
set_option linter.unusedSimpArgs false
set_option linter.unusedVariables false
namespace Go.Pv
open Go Go.Proofs Go.RowKit Go.Proofs.YtpicepaiigbgkaaDoor

/-! ### the listed variables -/
theorem g_pow : Tryd.prog.globalNamed "internal/strconv.uint64pow10" = some 2 := by kernel_rfl
theorem gt_pow : (Tryd.prog.globals[2]?).map (·.type) = some 133 := by kernel_rfl
theorem g_rng : Tryd.prog.globalNamed "strconv.ErrRange" = some 1 := by kernel_rfl
theorem gt_rng : (Tryd.prog.globals[1]?).map (·.type) = some 67 := by kernel_rfl
theorem g_syn : Tryd.prog.globalNamed "strconv.ErrSyntax" = some 0 := by kernel_rfl
theorem gt_syn : (Tryd.prog.globals[0]?).map (·.type) = some 67 := by kernel_rfl
def laidL : List (String × DataW Unit) := [("math/bits.deBruijn32tab", Rows.laid_math_bits_deBruijn32tab), ("math/bits.deBruijn64tab", Rows.laid_math_bits_deBruijn64tab), ("internal/strconv.uint64pow10", Rows.laid_internal_strconv_uint64pow10), ("strconv.ErrRange", Rows.laid_strconv_ErrRange), ("strconv.ErrSyntax", Rows.laid_strconv_ErrSyntax)]
theorem laidL_plain : (laidL.filter fun x => x.2.handleName?.isSome) = [] := by kernel_rfl
theorem glOk_laid {W : World} (h : laidMetH Tryd.prog laidL W) : GlOk fun b => W.heap[b]? := by
  unfold laidMetH at h
  rw [laidL_plain] at h
  obtain ⟨ps, hl, _⟩ := h
  refine ⟨?_, ?_, ?_⟩
  · obtain ⟨g, t, cs, fuel, p, h1, h2, h3, h4⟩ := laid_var (nm := "internal/strconv.uint64pow10") hl (.tail _ (.tail _ (.head _)))
    obtain rfl := Option.some.inj (g_pow.symm.trans h1)
    obtain rfl := Option.some.inj (gt_pow.symm.trans h2)
    have e : (Rows.laid_internal_strconv_uint64pow10 : DataW Unit) = Lib.tabData .u64 Lib.pow10Tab := by rfl
    rw [e] at h4
    have hc := Lib.cells_of_tab Tryd.underlying133 Tryd.underlying88 (by kernel_rfl) (by kernel_rfl) h4
    obtain ⟨T, f, hh⟩ := var_heap h1 h3
    refine ⟨2, T, f, g_pow, ?_⟩
    rw [← hc]
    simpa using hh
  · obtain ⟨g, t, cs, fuel, p, h1, h2, h3, h4⟩ := laid_var (nm := "strconv.ErrSyntax") hl (.tail _ (.tail _ (.tail _ (.tail _ (.head _)))))
    obtain rfl := Option.some.inj (g_syn.symm.trans h1)
    obtain rfl := Option.some.inj (gt_syn.symm.trans h2)
    obtain ⟨u, v, rfl⟩ := trod_iface Tryd.underlying67 h4
    obtain ⟨T, f, hh⟩ := var_heap h1 h3
    exact ⟨u, v, 0, T, f, g_syn, hh⟩
  · obtain ⟨g, t, cs, fuel, p, h1, h2, h3, h4⟩ := laid_var (nm := "strconv.ErrRange") hl (.tail _ (.tail _ (.tail _ (.head _))))
    obtain rfl := Option.some.inj (g_rng.symm.trans h1)
    obtain rfl := Option.some.inj (gt_rng.symm.trans h2)
    obtain ⟨u, v, rfl⟩ := trod_iface Tryd.underlying67 h4
    obtain ⟨T, f, hh⟩ := var_heap h1 h3
    exact ⟨u, v, 1, T, f, g_rng, hh⟩
theorem laidOut : laidOutB Tryd.prog = true := by kernel_rfl

/-- From a law's contract to its row's. -/
theorem law_calls {F : List PV → Tr PV} {f : FuncId} {fn : Func} {s : ChangeSpec} (hsim : ∀ {gl : Nat → Option Obj}, GlOk gl → SimP Tryd.prog gl f fun args => (F args).run) (hF : ∀ xs, ArgL Tryd.prog fn.params.toList xs → (F xs).run = some (.bool true))
    (hrt : fn.resultTypes = #[4]) (hsv : s.vars = []) (hT : (fn.params.toList.all fun t => okT Tryd.prog 9 t && Tryd.prog.readableRec t && decide (t < Tryd.prog.types.size)) = true)
    {H : Type} {enc : TypeId × Value → H} {W : World} {base : Nat} {args : Array Value} {ds gs : List (DataW H)} {before : List MemPlace} (hfn : ∀ ds : List (DataW H), ds.length = fn.params.size → s.fn H ds = { results := [.lit (.bool true)], args := ds })
    (hval : ∀ (j : Nat) t v, fn.params[j]? = some t → args[j]? = some v → Value.okWide Tryd.prog W .any base t v) (hW : DataW.Whole enc Tryd.prog fn.params.toList s.vars false W args.toList ds gs before) (hL : laidMetH Tryd.prog laidL W) :
    Calls Tryd.prog f args W fun e W' => ∃ v, e = .returned v ∧ s.post enc Tryd.prog fn false true false false W args v W' := by
  have hW' := hW
  obtain ⟨p, q, hA, hV, rfl, hfz, hnd⟩ := hW'
  have hT' : ∀ t ∈ fn.params.toList, okT Tryd.prog 9 t = true ∧ Tryd.prog.readableRec t = true ∧ t < Tryd.prog.types.size := by
    intro t ht
    have := List.all_eq_true.1 hT t ht
    simp only [Bool.and_eq_true, decide_eq_true_eq] at this
    exact ⟨this.1.1, this.1.2, this.2⟩
  obtain ⟨xs, hx, ha⟩ := args_rel (n := 9) (fun j t v ht hv => hval j t v (by simpa using ht) (by simpa using hv)) hA (List.all_eq_true.2 fun t ht => (hT' t ht).1)
  have hlen : ds.length = fn.params.size := by
    have h1 : ∀ {ts : List TypeId} {vs : List Value} {ds : List (DataW H)} {ps : List MemPlace}, DataW.TrodAll enc Tryd.prog W 0 (fun _ => true) true ts vs ds ps → ds.length = ts.length := by
      intro ts
      induction ts with
      | nil => intro vs ds ps h; obtain ⟨rfl, rfl, rfl⟩ := Go.ChangeShapes.trodAll_nil h; rfl
      | cons t ts ih =>
        intro vs ds ps h
        obtain ⟨v, vs', d, ds', p, q, rfl, rfl, rfl, hd, hrest⟩ := Go.ChangeShapes.trodAll_cons h
        simp [ih hrest]
    simpa using h1 hA
  have hc := (hsim (glOk_laid hL)).run xs _ (hF xs ha) (ghOf W) W args.toList rfl rfl rfl (fun b o h => h) hx
  simp only [Array.toArray_toList] at hc
  refine hc.mono ?_
  rintro e W' ⟨v, rfl, hb, hr⟩
  cases hr
  exact ⟨_, rfl, law_post laidOut hrt Tryd.underlying4 hsv (fun t ht => (hT' t ht).2) hW (hfn ds hlen) hb⟩
end Go.Pv
