/- From a row's statement to a contract: arguments as pure values; a law's end; listed variables. -/
import Derived.Test.YtdfahkeodlfopaaDoorPvLoop
import Derived.WalkKit
import Derived.ProofKit
import Derived.OpenShut
import Derived.Deep.DeepHandedRow
import Derived.Lib.LaidTab
import Derived.Carry
set_option linter.unusedSimpArgs false
set_option linter.unusedVariables false
namespace Go.Pv
open Go.RowKit Go.ChangeShapes Go.WideShapes

mutual
/-- The cells of a value of type t, as pure values. -/
inductive Shp (P : Program) : TypeId → List PV → Prop where
  | bool (t : TypeId) (b : Bool) (h : P.underlying t = some .bool) : Shp P t [.bool b]
  | int (t : TypeId) (k : IntKind) (n : Int) (h : P.underlying t = some (.int k)) : Shp P t [.int k n]
  | str (t : TypeId) (l : List UInt8) (h : P.underlying t = some .string) : Shp P t [.str l]
  | sl (t e : TypeId) (xss : List (List PV)) (h : P.underlying t = some (.slice e)) (hx : ∀ xs, xs ∈ xss → Shp P e xs) : Shp P t [.sl xss .non]
  | struct (t : TypeId) (fs : Array Field) (xs : List PV) (h : P.underlying t = some (.struct fs)) (hx : ShpL P (fs.toList.map (·.type)) xs) : Shp P t xs
inductive ShpL (P : Program) : List TypeId → List PV → Prop where
  | nil : ShpL P [] []
  | cons (t : TypeId) (ts : List TypeId) (xs ys : List PV) (h : Shp P t xs) (hs : ShpL P ts ys) : ShpL P (t :: ts) (xs ++ ys)
end

def layF (P : Program) : Nat → List Field → Option Nat
  | off, [] => some off
  | off, f :: fs => if f.offset = off then layF P (off + P.cellsOf f.type) fs else none

/-- Types of bools, ints, texts, rows and structs of such. -/
def okT (P : Program) : Nat → TypeId → Bool
  | 0, _ => false
  | n + 1, t => match P.underlying t with
    | some .bool | some (.int _) | some .string => true
    | some (.slice e) => okT P n e
    | some (.struct fs) => (layF P 0 fs.toList == some (P.cellsOf t)) && fs.toList.all fun f => okT P n f.type
    | _ => false

/-- What a call's memory is told as when it begins. -/
def ghOf (w : World) : Gh := ⟨w.heap.size, fun _ _ => True, fun _ _ => False, [], []⟩

section
variable {H : Type} {enc : TypeId × Value → H} {P : Program} {w : World} {held : Bool}

theorem cell_lt {w : World} {a : Addr} {v : Value} (h : w.cell? a = some v) : a.block < w.heap.size := by
  unfold World.cell? at h
  cases hb : w.heap[a.block]? with
  | none => simp [hb] at h
  | some o => exact (Array.getElem?_eq_some_iff.1 hb).1

theorem fields_rel {n fuel : Nat} (ih : ∀ t cs x, DataW.trod enc P w 0 (fun _ => true) held fuel t cs = some x → okT P n t = true → ∃ xs, RelL (ghOf w) w xs cs ∧ Shp P t xs) (cs : List Value) (tot : Nat) (hl : cs.length = tot) :
    ∀ (fs : List Field) (off : Nat), layF P off fs = some tot → (fs.all fun f => okT P n f.type) = true →
      (∀ f ∈ fs, ∃ y, DataW.trod enc P w 0 (fun _ => true) held fuel f.type ((cs.drop f.offset).take (P.cellsOf f.type)) = some y) → ∃ ys, RelL (ghOf w) w ys (cs.drop off) ∧ ShpL P (fs.map (·.type)) ys
  | [], off, hlay, _, _ => by
    simp only [layF, Option.some.injEq] at hlay
    subst hlay
    rw [List.drop_eq_nil_of_le (by omega)]
    exact ⟨[], .nil, .nil⟩
  | f :: fs, off, hlay, hok, hm => by
    simp only [layF] at hlay
    split at hlay
    · rename_i ho
      subst ho
      simp only [List.all_cons, Bool.and_eq_true] at hok
      obtain ⟨b, hb⟩ := hm f (by simp)
      obtain ⟨p, hp, hs⟩ := ih _ _ _ hb hok.1
      obtain ⟨ys, hys, hss⟩ := fields_rel ih cs tot hl fs _ hlay hok.2 (fun g hg => hm g (by simp [hg]))
      refine ⟨p ++ ys, ?_, .cons _ _ _ _ hs hss⟩
      have e : cs.drop f.offset = (cs.drop f.offset).take (P.cellsOf f.type) ++ cs.drop (f.offset + P.cellsOf f.type) := by
        rw [← List.drop_drop]
        exact (List.take_append_drop _ _).symm
      rw [e]
      exact hp.app hys
    · cases hlay

theorem rows_rel {n fuel : Nat} {e : TypeId} (ih : ∀ t cs x, DataW.trod enc P w 0 (fun _ => true) held fuel t cs = some x → okT P n t = true → ∃ xs, RelL (ghOf w) w xs cs ∧ Shp P t xs) (he : okT P n e = true) (a : Addr) (k : Nat) :
    ∀ (len s : Nat), (∀ i, i < len → ∃ cs' y, w.cells? 0 (a.add ((s + i) * k)) k = some cs' ∧ DataW.trod enc P w 0 (fun _ => true) held fuel e cs' = some y) →
      ∃ (xss : List (List PV)) (vss : List (List Value)), xss.length = len ∧ RelLL (ghOf w) w xss vss ∧ (∀ xs ∈ xss, Shp P e xs) ∧ ∀ (i : Nat) (vs : List Value), vss[i]? = some vs → vs.length = k ∧ CellsAt (ghOf w) w (a.add ((s + i) * k)) vs
  | 0, s, _ => ⟨[], [], rfl, .nil, by simp, by simp⟩
  | len + 1, s, h => by
    obtain ⟨cs', y, hc, hy⟩ := h 0 (by omega)
    obtain ⟨xs, hxs, hs⟩ := ih _ _ _ hy he
    obtain ⟨xss, vss, h1, h2, h3, h4⟩ := rows_rel ih he a k len (s + 1) (fun i hi => by
      have := h (i + 1) (by omega)
      have e1 : s + (i + 1) = s + 1 + i := by omega
      rwa [e1] at this)
    obtain ⟨_, hl, hcell⟩ := World.cells?_some hc
    refine ⟨xs :: xss, cs' :: vss, by simp [h1], .cons _ _ _ _ hxs h2, ?_, ?_⟩
    · intro z hz
      rcases List.mem_cons.1 hz with rfl | hz
      · exact hs
      · exact h3 z hz
    · intro i vs hi
      cases i with
      | zero =>
        simp at hi
        subst hi
        refine ⟨hl, fun j v hj => ?_⟩
        have hj' : j < k := by rw [← hl]; exact (List.getElem?_eq_some_iff.1 hj).1
        have hcj := (hcell j hj').trans hj
        exact ⟨⟨cell_lt hcj, fun _ => trivial, by simp [ghOf], by simp [ghOf]⟩, hcj⟩
      | succ i =>
        have := h4 i vs (by simpa using hi)
        have e1 : s + (i + 1) = s + 1 + i := by omega
        rw [e1]
        exact this

theorem trod_rel : ∀ (fuel n : Nat) (t : TypeId) (cs : List Value) (x : DataW H × List MemPlace), DataW.trod enc P w 0 (fun _ => true) held fuel t cs = some x → okT P n t = true → ∃ xs, RelL (ghOf w) w xs cs ∧ Shp P t xs
  | 0, _, _, _, _, h, _ => by simp [DataW.trod] at h
  | fuel + 1, 0, _, _, _, _, hn => by simp [okT] at hn
  | fuel + 1, n + 1, t, cs, x, h, hn => by
    simp only [okT] at hn
    have ih : ∀ t cs x, DataW.trod enc P w 0 (fun _ => true) held fuel t cs = some x → okT P n t = true → ∃ xs, RelL (ghOf w) w xs cs ∧ Shp P t xs := fun t cs x h hn => trod_rel fuel n t cs x h hn
    split at hn
    · rename_i hu
      obtain ⟨b, rfl, _⟩ := DataW.trod_bool hu h
      exact ⟨[.bool b], .cons _ _ _ _ (.bool b) .nil, .bool t b hu⟩
    · rename_i k hu
      obtain ⟨m, rfl, _, hw⟩ := DataW.trod_int hu h
      exact ⟨[.int k m], .cons _ _ _ _ (.int k m hw) .nil, .int t k m hu⟩
    · rename_i hu
      obtain ⟨s, rfl, _, hs⟩ := DataW.trod_string hu h
      exact ⟨[.str s.data.toList], .cons _ _ _ _ (.str s.data.toList hs) .nil, .str t _ hu⟩
    · rename_i e hu
      rcases DataW.trod_slice hu h with ⟨rfl, _⟩ | ⟨a, len, cap, elems, rest, n', hn', rfl, _, _, hlc, hcm, hel, helem, _⟩
      · exact ⟨[.sl [] .non], .cons _ _ _ _ (.sl none 0 0 0 [] [] .non rfl (Nat.le_refl _) (Nat.zero_le _) .nil (by intro i vs hi; simp at hi) trivial) .nil, .sl t e [] hu (by simp)⟩
      · have : n' = fuel := by omega
        subst this
        obtain ⟨xss, vss, h1, h2, h3, h4⟩ := rows_rel ih hn a (P.cellsOf e) len 0 (fun i hi => by
          have h5 := helem i hi
          have h6 : ∃ y, elems[i]? = some y := ⟨elems[i]'(by omega), List.getElem?_eq_getElem (by omega)⟩
          obtain ⟨y, hy⟩ := h6
          rw [hy] at h5
          obtain ⟨cs', hc, hd⟩ := Option.bind_eq_some_iff.1 h5
          exact ⟨cs', y, by rw [Nat.zero_add]; exact hc, hd⟩)
        refine ⟨[.sl xss .non], .cons _ _ _ _ (.sl (some a) len cap (P.cellsOf e) xss vss .non h1 hlc hcm h2 (fun i vs hi => ?_) trivial) .nil, .sl t e xss hu h3⟩
        have := h4 i vs hi
        rw [Nat.zero_add] at this
        exact ⟨this.1, a, rfl, this.2⟩
    · rename_i fs hu
      simp only [Bool.and_eq_true] at hn
      obtain ⟨xs, n', hn', _, hl, hxl, hf⟩ := DataW.trod_struct hu h
      have : n' = fuel := by omega
      subst this
      obtain ⟨ys, hys, hss⟩ := fields_rel ih cs _ hl fs.toList 0 (by simpa using hn.1) hn.2 (fun f hfm => by
        obtain ⟨i, hi⟩ := List.mem_iff_getElem?.1 hfm
        have hi' : fs[i]? = some f := by simpa using hi
        have hlt : i < fs.size := (Array.getElem?_eq_some_iff.1 hi').1
        exact ⟨xs[i]'(by omega), (hf i f hi').trans (List.getElem?_eq_getElem (by omega))⟩)
      exact ⟨ys, by simpa using hys, .struct t fs ys hu hss⟩
    · cases hn

/-- A pure value of type t, as an argument. -/
def Arg (P : Program) (t : TypeId) (x : PV) : Prop :=
  (∃ fs ys, P.underlying t = some (.struct fs) ∧ x = .agg ys ∧ Shp P t ys) ∨ ((∀ fs, P.underlying t ≠ some (.struct fs)) ∧ Shp P t [x])
inductive ArgL (P : Program) : List TypeId → List PV → Prop where
  | nil : ArgL P [] []
  | cons (t : TypeId) (ts : List TypeId) (x : PV) (xs : List PV) (h : Arg P t x) (hs : ArgL P ts xs) : ArgL P (t :: ts) (x :: xs)

theorem arg_rel {r : Reach} {b0 n : Nat} {t : TypeId} {v : Value} {d : DataW H} {ps : List MemPlace} (hval : Value.okWide P w r b0 t v) (hd : DataW.Trod enc P w 0 (fun _ => true) held t v d ps) (hn : okT P n t = true) : ∃ x, Rel (ghOf w) w x v ∧ Arg P t x := by
  obtain ⟨fuel, h⟩ := hd
  obtain ⟨xs, hxs, hs⟩ := trod_rel fuel n t _ _ h hn
  have one : v.cells = #[v] → (∀ fs, P.underlying t ≠ some (.struct fs)) → ∃ x, Rel (ghOf w) w x v ∧ Arg P t x := by
    intro hc hne
    rw [hc] at hxs
    cases hxs with
    | cons x _ xs _ hx hxs =>
      cases hxs
      exact ⟨x, hx, .inr ⟨hne, hs⟩⟩
  cases n with
  | zero => simp [okT] at hn
  | succ n =>
    simp only [okT] at hn
    split at hn
    · rename_i hu
      obtain ⟨b, rfl⟩ := okWide_bool hu hval
      exact one rfl (by rw [hu]; simp)
    · rename_i k hu
      obtain ⟨m, rfl⟩ := okWide_int hu hval
      exact one rfl (by rw [hu]; simp)
    · rename_i hu
      obtain ⟨s, rfl⟩ := okWide_string hu hval
      exact one rfl (by rw [hu]; simp)
    · rename_i e hu
      obtain ⟨a, len, cap, rfl⟩ := okWide_slice hu hval
      exact one rfl (by rw [hu]; simp)
    · rename_i fs hu
      obtain ⟨cs, rfl, _⟩ := okWide_struct hu hval
      refine ⟨.agg xs, ?_, .inl ⟨fs, xs, hu, rfl, hs⟩⟩
      have := Rel.agg (H := ghOf w) (w := w) xs cs.toList hxs
      simpa using this
    · cases hn

theorem args_rel {r : Reach} {b0 n : Nat} : ∀ {ts : List TypeId} {vs : List Value} {ds : List (DataW H)} {ps : List MemPlace}, (∀ (j : Nat) t v, ts[j]? = some t → vs[j]? = some v → Value.okWide P w r b0 t v) →
    DataW.TrodAll enc P w 0 (fun _ => true) held ts vs ds ps → (ts.all fun t => okT P n t) = true → ∃ xs, RelL (ghOf w) w xs vs ∧ ArgL P ts xs
  | [], vs, ds, ps, _, h, _ => by
    obtain ⟨rfl, rfl, rfl⟩ := trodAll_nil h
    exact ⟨[], .nil, .nil⟩
  | t :: ts, vs, ds, ps, hval, h, hn => by
    obtain ⟨v, vs', d, ds', p, q, rfl, rfl, rfl, hd, hrest⟩ := trodAll_cons h
    simp only [List.all_cons, Bool.and_eq_true] at hn
    obtain ⟨x, hx, ha⟩ := arg_rel (hval 0 t v rfl rfl) hd hn.1
    obtain ⟨xs, hxs, has⟩ := args_rel (fun j t' v' ht hv => hval (j + 1) t' v' ht hv) hrest hn.2
    exact ⟨x :: xs, .cons _ _ _ _ hx hxs, .cons _ _ _ _ ha has⟩

theorem trodAll_below {W W' : World} (hlo : laidOutB P = true) (hb : Below W.heap.size W W') : ∀ {ts : List TypeId} {vs : List Value} {ds : List (DataW H)} {ps : List MemPlace}, (∀ t ∈ ts, P.readableRec t = true ∧ t < P.types.size) → (∀ x ∈ ps, x.block < W.heap.size) →
    DataW.TrodAll enc P W 0 (fun _ => true) true ts vs ds ps → DataW.TrodAll enc P W' 0 (fun b => decide (b < W.heap.size)) true ts vs ds ps
  | [], vs, ds, ps, _, _, h => by
    obtain ⟨rfl, rfl, rfl⟩ := trodAll_nil h
    exact rfl
  | t :: ts, vs, ds, ps, hp, hlt, h => by
    obtain ⟨v, vs', d, ds', p, q, rfl, rfl, rfl, hd, hrest⟩ := trodAll_cons h
    exact ⟨p, q, Below.trod hlo (hp t (by simp)).1 (hp t (by simp)).2 hd hb (fun x hx => hlt x (by simp [hx])), trodAll_below hlo hb (fun t' ht => hp t' (by simp [ht])) (fun x hx => hlt x (by simp [hx])) hrest, rfl⟩

/-- A law's end: it answered true; of what was there nothing has turned. -/
theorem law_post (hlo : laidOutB P = true) {f : Func} {s : ChangeSpec} {tb : TypeId} (hrt : f.resultTypes = #[tb]) (htb : P.underlying tb = some .bool) (hv : s.vars = [])
    (hpar : ∀ t ∈ f.params.toList, P.readableRec t = true ∧ t < P.types.size) {W W' : World} {args : Array Value} {ds gs : List (DataW H)} {before : List MemPlace} {apart fresh handsOn : Bool}
    (hW : DataW.Whole enc P f.params.toList s.vars apart W args.toList ds gs before) (hfn : s.fn H ds = { results := [.lit (.bool true)], args := ds }) (hb : Below W.heap.size W W') :
    s.post enc P f apart fresh handsOn false W args (.bool true) W' := by
  have hlt : ∀ p ∈ before, p.block < W.heap.size := fun p hp => by simpa using hW.lt p hp
  have hW' := hW
  obtain ⟨p, q, hA, hV, rfl, hfz, hnd⟩ := hW
  rw [hv] at hV
  obtain ⟨rfl, rfl⟩ := trodVars_none hV
  refine ⟨ds, [], p ++ [], [], p, [], hW', ?_, ?_, ?_, ?_, fun h => by cases h⟩
  · rw [List.append_nil, hfn, hrt]
    exact ⟨[], [], ⟨1, by simp [DataW.trod, Value.cells, htb]⟩, rfl, rfl⟩
  · rw [List.append_nil, hfn]
    exact trodAll_below hlo hb hpar (fun x hx => hlt x (by simp [hx])) hA
  · rw [List.append_nil, hfn, hv]
    exact rfl
  · exact hb.frame _

/-- What the list of variables gives of one of them. -/
theorem laid_var : ∀ {laid : List (String × DataW Unit)} {ps : List MemPlace} {nm : String} {d : DataW Unit}, DataW.LaidVars P w laid ps → (nm, d) ∈ laid →
    ∃ g t cs fuel p, P.globalNamed nm = some g ∧ (P.globals[g]?).map (·.type) = some t ∧ w.var? P nm = some cs ∧ DataW.trod (fun _ => ()) P w 0 (fun _ => true) false fuel t cs.toList = some (d, p)
  | [], ps, nm, d, _, hm => by cases hm
  | (n, d') :: r, ps, nm, d, h, hm => by
    obtain ⟨g, t, cs, fuel, p, q, h1, h2, h3, h4, h5, _⟩ := h
    rcases List.mem_cons.1 hm with hm | hm
    · cases hm
      exact ⟨g, t, cs, fuel, p, h1, h2, h3, h4⟩
    · exact laid_var h5 hm

theorem var_heap {nm : String} {cs : Array Value} {g : Nat} (hg : P.globalNamed nm = some g) (h : w.var? P nm = some cs) : ∃ T f, w.heap[g]? = some (.cells cs T f) := by
  unfold World.var? at h
  rw [hg] at h
  simp only [Option.bind_some] at h
  split at h
  · rename_i cs' T f he
    cases h
    exact ⟨T, f, he⟩
  · cases h

/-- A variable of an interface's type that holds something. -/
theorem trod_iface {t : TypeId} {ms : Array (String × TypeId)} {fuel : Nat} {cs : Array Value} {nm : String} {d : DataW Unit} {p : List MemPlace} (hi : P.underlying t = some (.interface ms))
    (h : DataW.trod (fun _ => ()) P w 0 (fun _ => true) false fuel t cs.toList = some (.iface nm d, p)) : ∃ u v, cs = #[.iface u v] := by
  cases fuel with
  | zero => simp [DataW.trod] at h
  | succ fuel =>
    obtain ⟨l⟩ := cs
    simp only [DataW.trod, hi] at h
    split at h
    all_goals first | (rename_i heq _; cases heq; done) | (rename_i heq; cases heq; done) | skip
    all_goals first | (exact ⟨_, _, rfl⟩) | (cases h; done)
end
end Go.Pv
