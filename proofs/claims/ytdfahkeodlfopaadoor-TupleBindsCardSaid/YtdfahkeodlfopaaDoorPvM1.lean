import Derived.Test.YtdfahkeodlfopaaDoorPvTD
import Derived.Test.YtdfahkeodlfopaaDoorPvRow
import Derived.Test.YtdfahkeodlfopaaDoorCards
import Derived.Test.YtdfahkeodlfopaaDoorTie
set_option maxHeartbeats 4000000
set_option maxRecDepth 200000
set_option linter.unusedSimpArgs false
set_option linter.unusedVariables false
namespace Go.Pv
open Go Go.Proofs Go.RowKit Go.Proofs.YtdfahkeodlfopaaDoor

/-! ### the listed variables -/
theorem g_pow : Tryd.prog.globalNamed "internal/strconv.uint64pow10" = some 0 := by kernel_rfl
theorem gt_pow : (Tryd.prog.globals[0]?).map (·.type) = some 164 := by kernel_rfl
def laidL : List (String × DataW Unit) := [("math/bits.deBruijn32tab", Rows.laid_math_bits_deBruijn32tab), ("math/bits.deBruijn64tab", Rows.laid_math_bits_deBruijn64tab), ("internal/strconv.uint64pow10", Rows.laid_internal_strconv_uint64pow10)]
theorem laidL_plain : (laidL.filter fun x => x.2.handleName?.isSome) = [] := by kernel_rfl
theorem glPow_laid {W : World} (h : laidMetH Tryd.prog laidL W) : GlPow fun b => W.heap[b]? := by
  unfold laidMetH at h
  rw [laidL_plain] at h
  obtain ⟨ps, hl, _⟩ := h
  refine ⟨?_⟩
  obtain ⟨g, t, cs, fuel, p, h1, h2, h3, h4⟩ := laid_var (nm := "internal/strconv.uint64pow10") hl (.tail _ (.tail _ (.head _)))
  obtain rfl := Option.some.inj (g_pow.symm.trans h1)
  obtain rfl := Option.some.inj (gt_pow.symm.trans h2)
  have e : (Rows.laid_internal_strconv_uint64pow10 : DataW Unit) = Lib.tabData .u64 Lib.pow10Tab := by rfl
  rw [e] at h4
  have hc := Lib.cells_of_tab Tryd.underlying164 Tryd.underlying147 (by kernel_rfl) (by kernel_rfl) h4
  obtain ⟨T, f, hh⟩ := var_heap h1 h3
  refine ⟨0, T, f, g_pow, ?_⟩
  rw [← hc]
  simpa using hh
theorem laidOut : laidOutB Tryd.prog = true := by kernel_rfl

/-- From a law's contract to its row's. -/
theorem law_calls {F : List PV → Tr PV} {f : FuncId} {fn : Func} {s : ChangeSpec} (hsim : ∀ {gl : Nat → Option Obj}, GlPow gl → SimP Tryd.prog gl f fun args => (F args).run) (hF : ∀ xs, ArgL Tryd.prog fn.params.toList xs → (∃ H w vs, RelL H w xs vs) → (F xs).run = some (.bool true))
    (hrt : fn.resultTypes = #[4]) (hsv : s.vars = []) (hT : (fn.params.toList.all fun t => okT Tryd.prog 9 t && Tryd.prog.readableRec t && decide (t < Tryd.prog.types.size)) = true)
    {H : Type} {enc : TypeId × Value → H} {W : World} {base : Nat} {args : Array Value} {ds gs : List (DataW H)} {before : List MemPlace} (hfn : ∀ ds : List (DataW H), ds.length = fn.params.size → s.fn H ds = { results := [.lit (.bool true)], args := ds })
    (hval : ∀ (j : Nat) t v, fn.params[j]? = some t → args[j]? = some v → Value.okWide Tryd.prog W .any base t v) (hW : DataW.Whole enc Tryd.prog fn.params.toList s.vars false W args.toList ds gs before) (hL : laidMetH Tryd.prog laidL W) :
    Calls Tryd.prog f args W fun e W' => ∃ v, e = .returned v ∧ s.post enc Tryd.prog fn false true false false W args v W' := by
  have hW' := hW
  obtain ⟨p, q, hA, hV, rfl, hfz, hnd⟩ := hW'
  have hT' : ∀ t ∈ fn.params.toList, okT Tryd.prog 9 t = true ∧ Tryd.prog.readableRec t = true ∧ t < Tryd.prog.types.size := by
    intro t ht
    have := List.all_eq_true.1 hT t ht
    simp only [Bool.and_eq_true, decide_eq_true_eq] at this
    exact ⟨this.1.1, this.1.2, this.2⟩
  obtain ⟨xs, hx, ha⟩ := args_rel (n := 9) (fun j t v ht hv => hval j t v (by simpa using ht) (by simpa using hv)) hA (List.all_eq_true.2 fun t ht => (hT' t ht).1)
  have hlen : ds.length = fn.params.size := by
    have h1 : ∀ {ts : List TypeId} {vs : List Value} {ds : List (DataW H)} {ps : List MemPlace}, DataW.TrodAll enc Tryd.prog W 0 (fun _ => true) true ts vs ds ps → ds.length = ts.length := by
      intro ts
      induction ts with
      | nil => intro vs ds ps h; obtain ⟨rfl, rfl, rfl⟩ := Go.ChangeShapes.trodAll_nil h; rfl
      | cons t ts ih =>
        intro vs ds ps h
        obtain ⟨v, vs', d, ds', p, q, rfl, rfl, rfl, hd, hrest⟩ := Go.ChangeShapes.trodAll_cons h
        simp [ih hrest]
    simpa using h1 hA
  have hc := (hsim (glPow_laid hL)).run xs _ (hF xs ha ⟨_, _, _, hx⟩) (ghOf W) W args.toList rfl rfl rfl (fun b o h => h) hx
  simp only [Array.toArray_toList] at hc
  refine hc.mono ?_
  rintro e W' ⟨v, rfl, hb, hr⟩
  cases hr
  exact ⟨_, rfl, law_post laidOut hrt Tryd.underlying4 hsv (fun t ht => (hT' t ht).2) hW (hfn ds hlen) hb.1⟩
end Go.Pv
namespace Go.Proofs.YtdfahkeodlfopaaDoor
open Go Go.Proofs Go.RowKit Go.Pv Go.ChangeShapes Go.WideShapes Go.ChangeAt

/-! ### arguments of the laws' types -/
theorem shp_int {t : TypeId} {k : IntKind} {xs : List PV} (hu : Tryd.prog.underlying t = some (.int k)) (h : Shp Tryd.prog t xs) : ∃ n, xs = [.int k n] := by
  cases h with
  | int t k' n h => rw [hu] at h; cases h; exact ⟨n, rfl⟩
  | bool t b h => rw [hu] at h; cases h
  | str t l h => rw [hu] at h; cases h
  | sl t e xss h hx => rw [hu] at h; cases h
  | struct t fs xs h hx => rw [hu] at h; cases h
theorem shp_str {t : TypeId} {xs : List PV} (hu : Tryd.prog.underlying t = some .string) (h : Shp Tryd.prog t xs) : ∃ l, xs = [.str l] := by
  cases h with
  | str t l h => exact ⟨l, rfl⟩
  | int t k' n h => rw [hu] at h; cases h
  | bool t b h => rw [hu] at h; cases h
  | sl t e xss h hx => rw [hu] at h; cases h
  | struct t fs xs h hx => rw [hu] at h; cases h
theorem shp_struct {t : TypeId} {fs : Array Field} {xs : List PV} (hu : Tryd.prog.underlying t = some (.struct fs)) (h : Shp Tryd.prog t xs) : ShpL Tryd.prog (fs.toList.map (·.type)) xs := by
  cases h with
  | struct t fs xs h hx => rw [hu] at h; cases h; exact hx
  | str t l h => rw [hu] at h; cases h
  | int t k' n h => rw [hu] at h; cases h
  | bool t b h => rw [hu] at h; cases h
  | sl t e xss h hx => rw [hu] at h; cases h
theorem shp_sl {t e : TypeId} {xs : List PV} (hu : Tryd.prog.underlying t = some (.slice e)) (h : Shp Tryd.prog t xs) : ∃ xss, xs = [.sl xss .non] ∧ ∀ ys, ys ∈ xss → Shp Tryd.prog e ys := by
  cases h with
  | sl t e xss h hx => rw [hu] at h; cases h; exact ⟨xss, rfl, hx⟩
  | str t l h => rw [hu] at h; cases h
  | int t k' n h => rw [hu] at h; cases h
  | bool t b h => rw [hu] at h; cases h
  | struct t fs xs h hx => rw [hu] at h; cases h
/-- Rows told by a code. -/
theorem shp_rows {α : Type} (C : Cod α) {t e : TypeId} {xs : List PV} (hu : Tryd.prog.underlying t = some (.slice e)) (he : ∀ ys, Shp Tryd.prog e ys → ∃ a, ys = C.enc a) (h : Shp Tryd.prog t xs) : ∃ l : List α, xs = [.sl (rOf C l) .non] := by
  obtain ⟨xss, rfl, hx⟩ := shp_sl hu h
  have : ∃ l : List α, xss = rOf C l := by
    clear h
    induction xss with
    | nil => exact ⟨[], rfl⟩
    | cons y ys ih =>
      obtain ⟨a, rfl⟩ := he y (hx y (List.mem_cons_self ..))
      obtain ⟨l, rfl⟩ := ih fun z hz => hx z (List.mem_cons_of_mem _ hz)
      exact ⟨a :: l, rfl⟩
  obtain ⟨l, rfl⟩ := this
  exact ⟨l, rfl⟩
theorem arg_rows {α : Type} (C : Cod α) {t e : TypeId} {x : PV} (hu : Tryd.prog.underlying t = some (.slice e)) (he : ∀ ys, Shp Tryd.prog e ys → ∃ a, ys = C.enc a) (h : Arg Tryd.prog t x) : ∃ l : List α, x = .sl (rOf C l) .non := by
  rcases h with ⟨fs, ys, hu', rfl, hs⟩ | ⟨hne, hs⟩
  · rw [hu] at hu'; cases hu'
  · obtain ⟨l, h⟩ := shp_rows C hu he hs
    cases h
    exact ⟨l, rfl⟩
theorem arg_int {k : IntKind} {t : TypeId} {x : PV} (hu : Tryd.prog.underlying t = some (.int k)) (h : Arg Tryd.prog t x) : ∃ n, x = .int k n := by
  rcases h with ⟨fs, ys, hu', rfl, hs⟩ | ⟨hne, hs⟩
  · rw [hu] at hu'; cases hu'
  · obtain ⟨n, h⟩ := shp_int hu hs
    cases h
    exact ⟨n, rfl⟩
theorem arg_str {x : PV} (h : Arg Tryd.prog 9 x) : ∃ s, x = .str s := by
  rcases h with ⟨fs, ys, hu, rfl, hs⟩ | ⟨hne, hs⟩
  · rw [Tryd.underlying9] at hu; cases hu
  · obtain ⟨s, h⟩ := shp_str Tryd.underlying9 hs
    cases h
    exact ⟨s, rfl⟩
theorem shp_val {xs : List PV} (h : Shp Tryd.prog 36 xs) : ∃ v : Vl, xs = cV.enc v := by
  have h1 := shp_struct Tryd.underlying36 h
  cases h1 with
  | cons t ts xs ys ha hs =>
    obtain ⟨k, rfl⟩ := shp_int Tryd.underlying34 ha
    cases hs with
    | cons t ts xs ys hb hs =>
      obtain ⟨n, rfl⟩ := shp_int Tryd.underlying2 hb
      cases hs with
      | cons t ts xs ys hc hs =>
        obtain ⟨s, rfl⟩ := shp_str Tryd.underlying9 hc
        cases hs
        exact ⟨(k, n, s), rfl⟩
theorem shp_tuple {xs : List PV} (h : Shp Tryd.prog 23 xs) : ∃ l : List Vl, xs = (cR cV).enc l := shp_rows cV Tryd.underlying23 (fun _ h => shp_val h) h
theorem arg_tuple {x : PV} (h : Arg Tryd.prog 23 x) : ∃ l : List Vl, x = .sl (rOf cV l) .non := arg_rows cV Tryd.underlying23 (fun _ h => shp_val h) h
theorem arg_rel {x : PV} (h : Arg Tryd.prog 44 x) : ∃ l : List (List Vl), x = .sl (rOf (cR cV) l) .non := arg_rows (cR cV) Tryd.underlying44 (fun _ h => shp_tuple h) h
theorem arg_types {x : PV} (h : Arg Tryd.prog 58 x) : ∃ l : List Int, x = .sl (rOf cI l) .non := arg_rows cI Tryd.underlying58 (fun _ h => by obtain ⟨n, rfl⟩ := shp_int Tryd.underlying85 h; exact ⟨n, rfl⟩) h
theorem shp_term {xs : List PV} (h : Shp Tryd.prog 38 xs) : ∃ a : Tm, xs = cM.enc a := by
  have h1 := shp_struct Tryd.underlying38 h
  cases h1 with
  | cons t ts xs ys ha hs =>
    obtain ⟨k, rfl⟩ := shp_int Tryd.underlying33 ha
    cases hs with
    | cons t ts xs ys hb hs =>
      obtain ⟨b, rfl⟩ := shp_str Tryd.underlying9 hb
      cases hs with
      | cons t ts xs ys hc hs =>
        obtain ⟨v, rfl⟩ := shp_val hc
        cases hs
        exact ⟨(k, b, v), rfl⟩
theorem arg_terms {x : PV} (h : Arg Tryd.prog 29 x) : ∃ l : List Tm, x = .sl (rOf cM l) .non := arg_rows cM Tryd.underlying29 (fun _ h => shp_term h) h

/-! ### a world that fits -/
def litVals : DataW Unit → Array Value
  | .agg l => (l.map fun d => match d with | .lit (.int k n) => Value.int k n | _ => undef).toArray
  | _ => #[]
noncomputable def low : Nat := (World.holding Tryd.prog default ⟨#[], #[], []⟩).heap.size
noncomputable def laidWorld (os : Os) : World :=
  let w0 := World.holding Tryd.prog os ⟨#[], #[], []⟩
  { w0 with heap := (((w0.heap.modify 4 fun
      | .cells _ t frozen => .cells (litVals Rows.laid_math_bits_deBruijn32tab) t frozen
      | o => o).modify 5 fun
      | .cells _ t frozen => .cells (litVals Rows.laid_math_bits_deBruijn64tab) t frozen
      | o => o).modify 0 fun
      | .cells _ t frozen => .cells (litVals Rows.laid_internal_strconv_uint64pow10) t frozen
      | o => o) }
theorem own : ownKnob Tryd.prog.godebug = none := by kernel_rfl
theorem laid_met (os : Os) (args : Array Value) : laidMet Tryd.prog laidL ((laidWorld os).forCall (fun _ _ => 0) ⟨#[], args, []⟩).memory :=
  laidMet_of_run' 8 (by kernel_rfl) (by kernel_rfl)
end Go.Proofs.YtdfahkeodlfopaaDoor
