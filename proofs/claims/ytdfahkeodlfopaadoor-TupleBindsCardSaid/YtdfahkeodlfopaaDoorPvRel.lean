/- Laws on pure values standing for values: rows, parts, constants, types' facts. -/
import Derived.Test.YtdfahkeodlfopaaDoorPvRun
import Derived.Laws.Strings
import Derived.Laws.Rows
import Derived.Laws.Cells
import Derived.Laws.CopyRow
import Derived.OpenShut
set_option linter.unusedSimpArgs false
set_option linter.unusedVariables false
namespace Go.Pv
open Go.RowKit
section
variable {H : Gh} {w : World}

theorem relL_iff : ∀ {xs : List PV} {vs : List Value}, RelL H w xs vs ↔ xs.length = vs.length ∧ ∀ (i : Nat) (x : PV) (v : Value), xs[i]? = some x → vs[i]? = some v → Rel H w x v := by
  intro xs
  induction xs with
  | nil =>
    intro vs
    constructor
    · intro h
      cases h
      exact ⟨rfl, fun i x v h => by simp at h⟩
    · rintro ⟨h, _⟩
      cases vs with
      | nil => exact .nil
      | cons => simp at h
  | cons x xs ih =>
    intro vs
    constructor
    · intro h
      cases h with
      | cons _ v _ vs h ht =>
        obtain ⟨hl, hg⟩ := ih.1 ht
        refine ⟨by simp [hl], fun i y u hy hu => ?_⟩
        cases i with
        | zero => simp at hy hu; subst hy hu; exact h
        | succ i => simp at hy hu; exact hg i y u hy hu
    · rintro ⟨hl, hg⟩
      cases vs with
      | nil => simp at hl
      | cons v vs => exact .cons _ _ _ _ (hg 0 x v (by simp) (by simp)) (ih.2 ⟨by simpa using hl, fun i y u hy hu => hg (i + 1) y u (by simpa using hy) (by simpa using hu)⟩)

theorem relLL_iff : ∀ {xs : List (List PV)} {vs : List (List Value)}, RelLL H w xs vs ↔ xs.length = vs.length ∧ ∀ (i : Nat) (x : List PV) (v : List Value), xs[i]? = some x → vs[i]? = some v → RelL H w x v := by
  intro xs
  induction xs with
  | nil =>
    intro vs
    constructor
    · intro h
      cases h
      exact ⟨rfl, fun i x v h => by simp at h⟩
    · rintro ⟨h, _⟩
      cases vs with
      | nil => exact .nil
      | cons => simp at h
  | cons x xs ih =>
    intro vs
    constructor
    · intro h
      cases h with
      | cons _ v _ vs h ht =>
        obtain ⟨hl, hg⟩ := ih.1 ht
        refine ⟨by simp [hl], fun i y u hy hu => ?_⟩
        cases i with
        | zero => simp at hy hu; subst hy hu; exact h
        | succ i => simp at hy hu; exact hg i y u hy hu
    · rintro ⟨hl, hg⟩
      cases vs with
      | nil => simp at hl
      | cons v vs => exact .cons _ _ _ _ (hg 0 x v (by simp) (by simp)) (ih.2 ⟨by simpa using hl, fun i y u hy hu => hg (i + 1) y u (by simpa using hy) (by simpa using hu)⟩)

theorem RelL.len {xs : List PV} {vs : List Value} (h : RelL H w xs vs) : xs.length = vs.length := (relL_iff.1 h).1
theorem RelLL.len {xs : List (List PV)} {vs : List (List Value)} (h : RelLL H w xs vs) : xs.length = vs.length := (relLL_iff.1 h).1

theorem RelL.get {xs : List PV} {vs : List Value} (h : RelL H w xs vs) {i : Nat} {x : PV} (hx : xs[i]? = some x) : ∃ v, vs[i]? = some v ∧ Rel H w x v := by
  obtain ⟨hl, hg⟩ := relL_iff.1 h
  have hi : i < vs.length := by rw [← hl]; exact (List.getElem?_eq_some_iff.1 hx).1
  exact ⟨vs[i], List.getElem?_eq_getElem hi, hg i x _ hx (List.getElem?_eq_getElem hi)⟩

theorem RelLL.get {xs : List (List PV)} {vs : List (List Value)} (h : RelLL H w xs vs) {i : Nat} {x : List PV} (hx : xs[i]? = some x) : ∃ v, vs[i]? = some v ∧ RelL H w x v := by
  obtain ⟨hl, hg⟩ := relLL_iff.1 h
  have hi : i < vs.length := by rw [← hl]; exact (List.getElem?_eq_some_iff.1 hx).1
  exact ⟨vs[i], List.getElem?_eq_getElem hi, hg i x _ hx (List.getElem?_eq_getElem hi)⟩

theorem RelL.take {xs : List PV} {vs : List Value} (n : Nat) (h : RelL H w xs vs) : RelL H w (xs.take n) (vs.take n) := by
  obtain ⟨hl, hg⟩ := relL_iff.1 h
  refine relL_iff.2 ⟨by simp [hl], fun i x v hx hv => ?_⟩
  rw [List.getElem?_take] at hx hv
  split at hx
  · rename_i hi
    rw [if_pos hi] at hv
    exact hg i x v hx hv
  · cases hx

theorem RelL.drop {xs : List PV} {vs : List Value} (n : Nat) (h : RelL H w xs vs) : RelL H w (xs.drop n) (vs.drop n) := by
  obtain ⟨hl, hg⟩ := relL_iff.1 h
  refine relL_iff.2 ⟨by simp [hl], fun i x v hx hv => ?_⟩
  rw [List.getElem?_drop] at hx hv
  exact hg _ x v hx hv

theorem RelL.app {xs ys : List PV} {vs us : List Value} (h : RelL H w xs vs) (k : RelL H w ys us) : RelL H w (xs ++ ys) (vs ++ us) := by
  induction xs generalizing vs with
  | nil => cases h; exact k
  | cons x xs ih =>
    cases h with
    | cons _ v _ vs h ht => exact .cons _ _ _ _ h (ih ht)

theorem RelLL.app {xs ys : List (List PV)} {vs us : List (List Value)} (h : RelLL H w xs vs) (k : RelLL H w ys us) : RelLL H w (xs ++ ys) (vs ++ us) := by
  induction xs generalizing vs with
  | nil => cases h; exact k
  | cons x xs ih =>
    cases h with
    | cons _ v _ vs h ht => exact .cons _ _ _ _ h (ih ht)

theorem RelLL.take {xs : List (List PV)} {vs : List (List Value)} (n : Nat) (h : RelLL H w xs vs) : RelLL H w (xs.take n) (vs.take n) := by
  obtain ⟨hl, hg⟩ := relLL_iff.1 h
  refine relLL_iff.2 ⟨by simp [hl], fun i x v hx hv => ?_⟩
  rw [List.getElem?_take] at hx hv
  split at hx
  · rename_i hi
    rw [if_pos hi] at hv
    exact hg i x v hx hv
  · cases hx

theorem RelLL.drop {xs : List (List PV)} {vs : List (List Value)} (n : Nat) (h : RelLL H w xs vs) : RelLL H w (xs.drop n) (vs.drop n) := by
  obtain ⟨hl, hg⟩ := relLL_iff.1 h
  refine relLL_iff.2 ⟨by simp [hl], fun i x v hx hv => ?_⟩
  rw [List.getElem?_drop] at hx hv
  exact hg _ x v hx hv

theorem RelL.set {xs : List PV} {vs : List Value} (h : RelL H w xs vs) (i : Nat) {x : PV} {v : Value} (k : Rel H w x v) : RelL H w (xs.set i x) (vs.set i v) := by
  induction xs generalizing vs i with
  | nil => cases h; exact .nil
  | cons y xs ih =>
    cases h with
    | cons _ u _ vs h ht =>
      cases i with
      | zero => exact .cons _ _ _ _ k ht
      | succ i => exact .cons _ _ _ _ h (ih ht i)

theorem RelL.getD {xs : List PV} {vs : List Value} (h : RelL H w xs vs) (i : Nat) (d : Value) : Rel H w (xs.getD i .top) (vs.getD i d) := by
  rw [List.getD_eq_getElem?_getD, List.getD_eq_getElem?_getD]
  cases hx : xs[i]? with
  | none => exact .top _
  | some x =>
    obtain ⟨v, hv, hr⟩ := h.get hx
    rw [hv]
    exact hr

theorem RelL.tops : ∀ (vs : List Value), RelL H w (List.replicate vs.length .top) vs
  | [] => .nil
  | v :: vs => .cons _ _ _ _ (.top v) (RelL.tops vs)

/-! ### constants -/
theorem ofCell_rel (v : Value) : Rel H w (ofCell v) v := by
  unfold ofCell
  split
  · exact .bool _
  · split
    · exact .int _ _ ‹_›
    · exact .top _
  · rename_i s
    split
    · have := Rel.str (H := H) (w := w) s.data.toList ‹_›
      rwa [Array.toArray_toList] at this
    · exact .top _
  · exact .nilp
  · exact .sl none 0 0 0 [] [] .full rfl (Nat.le_refl _) (Nat.zero_le _) .nil (fun i vs h => by simp at h) rfl
  · rename_i f first caps
    split
    · rename_i h1 h2
      have e1 : first = #[] := by cases first; simp_all
      have e2 : caps = #[] := by cases caps; simp_all
      subst e1 e2
      exact .fn f [] [] .nil
    · exact .top _
  · exact .nilf
  · exact .nili
  · exact .top _

theorem ofCells_rel : ∀ (vs : List Value), RelL H w (vs.map ofCell) vs
  | [] => .nil
  | v :: vs => .cons _ _ _ _ (ofCell_rel v) (ofCells_rel vs)

theorem ofValue_rel (v : Value) : Rel H w (ofValue v) v := by
  unfold ofValue
  split
  · rename_i cs
    have := Rel.agg (H := H) (w := w) _ _ (ofCells_rel cs.toList)
    rwa [Array.toArray_toList] at this
  · exact ofCell_rel _

theorem ev_rel {fr : List PV} {a : Act} (h : RelL H w fr a.tmps.toList) (x : Operand) : Rel H w (ev fr x) (a.eval x) := by
  cases x with
  | tmp t =>
    have := h.getD t undef
    simp only [ev, Act.eval]
    rw [Array.getD_eq_getD_getElem?]
    rw [List.getD_eq_getElem?_getD] at this
    simpa using this
  | const v => exact ofValue_rel v
  | global g => exact .top _
  | func f => exact .fn f [] [] .nil

/-! ### cells of a value -/
theorem pcells_rel {x : PV} {v : Value} {cs : List PV} (h : Rel H w x v) (hc : pcells x = some cs) : RelL H w cs v.cells.toList := by
  cases h <;> simp only [pcells, Option.some.injEq, reduceCtorEq] at hc
  case agg cs' vs h => subst hc; simpa [Value.cells] using h
  all_goals
    subst hc
    refine .cons _ _ _ _ ?_ .nil
    first
      | exact .bool _
      | exact .int _ _ ‹_›
      | exact .str _ ‹_›
      | exact .nilp
      | exact .ptr _ _ _ ‹_›
      | exact .ref _ _ _ ‹_› ‹_›
      | exact .sl _ _ _ _ _ _ _ ‹_› ‹_› ‹_› ‹_› ‹_› ‹_›
      | exact .osl _ _ _ _ _ _ _ ‹_› ‹_› ‹_› ‹_›
      | exact .fn _ _ _ ‹_›
      | exact .nilf
      | exact .iface _ _ _ ‹_›
      | exact .nili

theorem one_cell {x : PV} {v : Value} (h : Rel H w x v) (h1 : one x = true) : v.oneCell' = true := by
  cases h <;> first | rfl | simp [one] at h1

theorem ones_cell {xs : List PV} {vs : List Value} (h : RelL H w xs vs) (h1 : xs.all one = true) : ∀ v ∈ vs, v.oneCell' = true := by
  intro v hv
  obtain ⟨i, hi⟩ := List.mem_iff_getElem?.1 hv
  obtain ⟨hl, hg⟩ := relL_iff.1 h
  have hlt : i < xs.length := by rw [hl]; exact (List.getElem?_eq_some_iff.1 hi).1
  exact one_cell (hg i _ _ (List.getElem?_eq_getElem hlt) hi) (List.all_eq_true.1 h1 _ (List.getElem_mem hlt))
end

/-! ### types' facts -/
section
variable {P : Program} {t : TypeId} {K : TK}

theorem tk_info (h : tkOf P t = some K) : ∃ i z, P.info? t = some i ∧ i.zero = some z ∧ i.size = K.size ∧ i.bytes = K.bytes ∧ K.zero = z.cells.toList.map ofCell ∧ K.kd = kdOf P t := by
  unfold tkOf at h
  cases hi : P.info? t with
  | none => simp [hi] at h
  | some i =>
    simp [hi] at h
    obtain ⟨z, hz, rfl⟩ := h
    exact ⟨i, z, rfl, hz, rfl, rfl, rfl, rfl⟩

theorem kd_int {k : IntKind} (h : kdOf P t = .int k) : P.underlying t = some (.int k) := by
  unfold kdOf at h
  split at h <;> simp_all
theorem kd_bool (h : kdOf P t = .bool) : P.underlying t = some .bool := by
  unfold kdOf at h
  split at h <;> simp_all
theorem kd_str (h : kdOf P t = .str) : P.underlying t = some .string := by
  unfold kdOf at h
  split at h <;> simp_all
theorem kd_sl {e : TypeId} (h : kdOf P t = .sl e) : P.underlying t = some (.slice e) := by
  unfold kdOf at h
  split at h <;> simp_all
theorem kd_arr {n : Nat} {e : TypeId} (h : kdOf P t = .arr n e) : P.underlying t = some (.array n e) := by
  unfold kdOf at h
  split at h <;> simp_all
theorem kd_iface (h : kdOf P t = .iface) : ∃ ms, P.underlying t = some (.interface ms) := by
  unfold kdOf at h
  split at h <;> simp_all
theorem kd_fn (h : kdOf P t = .fn) : ∃ a b c, P.underlying t = some (.func a b c) := by
  unfold kdOf at h
  split at h <;> simp_all
theorem kd_agg {fs : List (Nat × TypeId × Bool)} {held guard : Bool} (h : kdOf P t = .agg fs held guard) :
    ∃ fields, P.underlying t = some (.struct fields) ∧ fs = fields.toList.map (fun f => (f.offset, f.type, f.name != "_")) ∧ held = P.stoodInHeld t ∧ guard = P.eqGuardType P.depth t := by
  unfold kdOf at h
  split at h <;> simp_all

theorem run_isAgg_kd (w : World) {kd : KD} (h : kdOf P t = kd) (ho : kd ≠ .other) : (isAgg t).run P w = .ok kd.isAgg w := by
  subst h
  unfold kdOf at ho ⊢
  cases hu : P.underlying t with
  | none => simp [hu] at ho
  | some d => cases d <;> simp_all [isAgg, run_underlying, KD.isAgg]
end

end Go.Pv
