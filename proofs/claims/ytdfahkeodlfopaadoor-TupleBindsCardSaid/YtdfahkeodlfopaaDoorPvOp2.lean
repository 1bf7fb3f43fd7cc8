/- Reads of parts and variables, equality of structs, slices, conversions: over pure values and in the machine. -/
import Derived.Test.YtdfahkeodlfopaaDoorPvOp
set_option linter.unusedSimpArgs false
set_option linter.unusedVariables false
namespace Go.Pv
open Go.RowKit

/-- The table tells what the program's types are. -/
def TabOk (P : Program) (tb : Tab) : Prop := ∀ t K, tb t = some K → tkOf P t = some K

theorem add_plain (g o j : Nat) : (⟨g, o, none⟩ : Addr).add j = ⟨g, o + j, none⟩ := by
  unfold Addr.add
  split
  · rename_i h; subst h; rfl
  · rfl

theorem add_add (a : Addr) (i j : Nat) : (a.add i).add j = a.add (i + j) := by
  unfold Addr.add
  by_cases hi : i = 0
  · subst hi; simp
  · by_cases hj : j = 0
    · subst hj; simp
    · have : ¬ (i + j = 0) := by omega
      simp [hi, hj, Nat.add_assoc]

section
variable {P : Program} {tb : Tab} {H : Gh} {w : World}

theorem run_sizeOf_tk {t : TypeId} {K : TK} (h : tkOf P t = some K) (w : World) : (sizeOf t).run P w = .ok K.size w := by
  obtain ⟨i, z, hi, hz, hs, _⟩ := tk_info h
  simp [sizeOf, typeInfo, hi, hs]

theorem run_zero_tk {t : TypeId} {K : TK} (h : tkOf P t = some K) : ∃ z, K.zero = z.cells.toList.map ofCell ∧ ∀ w, (zeroValue t).run P w = .ok z w := by
  obtain ⟨i, z, hi, hz, hs, hb, hzz, _⟩ := tk_info h
  exact ⟨z, hzz, fun w => by simp [zeroValue, typeInfo, hi, hz]⟩

theorem known_ne {K : KD} (h : K.known = true) : K ≠ .other := by
  intro e
  subst e
  cases h

theorem part_rel {t : TypeId} {K : TK} (hK : tkOf P t = some K) {xs : List PV} {vs : List Value} (h : RelL H w xs vs) {off : Nat} {x : PV} (hx : pload K xs off = some x) (w1 : World) :
    ∃ v, (part t vs.toArray off).run P w1 = .ok v w1 ∧ Rel H w x v := by
  obtain ⟨i, z, hi, hz, hs, hb, hzz, hkd⟩ := tk_info hK
  unfold pload at hx
  split at hx
  · rename_i hkn
    have hag := run_isAgg_kd (P := P) (t := t) w1 hkd.symm (known_ne hkn)
    have hsz := run_sizeOf_tk hK w1
    split at hx
    · rename_i ha
      split at hx
      · simp only [Option.some.injEq] at hx
        subst hx
        rw [ha] at hag
        refine ⟨.agg ((vs.drop off).take K.size).toArray, ?_, .agg _ _ ((h.drop off).take K.size)⟩
        simp [part, hag, hsz]
      · cases hx
    · rename_i ha
      have ha' : K.kd.isAgg = false := by simpa using ha
      rw [ha'] at hag
      obtain ⟨v, hv, hr⟩ := h.get hx
      refine ⟨v, ?_, hr⟩
      have : vs.toArray[off]? = some v := by simpa using hv
      simp [part, hag, this]
  · cases hx

/-- A variable of an object, or of what stays, is loaded. -/
theorem loadVar_rel {t : TypeId} {K : TK} (hK : tkOf P t = some K) {xs : List PV} {vs : List Value} (h : RelL H w xs vs) {off : Nat} {x : PV} (hx : pload K xs off = some x) {a : Addr} {w1 : World}
    (hc : ∀ j v, vs[off + j]? = some v → w1.cell? (a.add j) = some v) : ∃ v, (loadVar t a).run P w1 = .ok v w1 ∧ Rel H w x v := by
  obtain ⟨i, z, hi, hz, hs, hb, hzz, hkd⟩ := tk_info hK
  unfold pload at hx
  split at hx
  · rename_i hkn
    have hag := run_isAgg_kd (P := P) (t := t) w1 hkd.symm (known_ne hkn)
    have hsz := run_sizeOf_tk hK w1
    split at hx
    · rename_i ha
      split at hx
      · rename_i hle
        simp only [Option.some.injEq] at hx
        subst hx
        rw [ha] at hag
        have hlen : ((vs.drop off).take K.size).length = K.size := by
          have := h.len
          simp
          omega
        have hl := run_loadCells_list (P := P) w1 a ((vs.drop off).take K.size) (fun j v hj => hc j v (by
          rw [List.getElem?_take] at hj
          split at hj
          · rw [List.getElem?_drop] at hj
            exact hj
          · cases hj))
        rw [hlen] at hl
        refine ⟨.agg ((vs.drop off).take K.size).toArray, ?_, .agg _ _ ((h.drop off).take K.size)⟩
        simp [loadVar, hag, hsz, hl]
      · cases hx
    · rename_i ha
      have ha' : K.kd.isAgg = false := by simpa using ha
      rw [ha'] at hag
      obtain ⟨v, hv, hr⟩ := h.get hx
      refine ⟨v, ?_, hr⟩
      have h0 := hc 0 v (by simpa using hv)
      have ha0 : a.add 0 = a := by simp [Addr.add]
      rw [ha0] at h0
      simp [loadVar, hag, h0]
  · cases hx

/-! ### '==' of structs -/
theorem eqFs_run (hT : TabOk P tb) {d : Nat} {f : TypeId → PV → PV → Option Bool} (hf : ∀ t x y b, f t x y = some b → ∀ v u, Rel H w x v → Rel H w y u → ∀ w1, (Op.equalIn d t v u).run P w1 = .ok b w1)
    {xs ys : List PV} {vs us : List Value} (hx : RelL H w xs vs) (hy : RelL H w ys us) (w1 : World) :
    ∀ (fs : List Field) (b : Bool), peqFs tb f xs ys (fs.map fun f => (f.offset, f.type, f.name != "_")) = some b → (Op.eqFields d vs.toArray us.toArray fs).run P w1 = .ok b w1 := by
  intro fs
  induction fs with
  | nil =>
    intro b h
    simp only [List.map_nil, peqFs, Option.some.injEq] at h
    subst h
    simp [Op.eqFields]
  | cons g fs ih =>
    intro b h
    simp only [List.map_cons, peqFs] at h
    by_cases hn : g.name = "_"
    · have hn' : (g.name != "_") = false := by simp [hn]
      rw [hn'] at h
      simp only [Bool.false_eq_true, if_false] at h
      simp only [Op.eqFields, hn, ne_eq, not_true_eq_false, if_false]
      exact ih b h
    · have hn' : (g.name != "_") = true := by simp [hn]
      rw [hn'] at h
      simp only [if_true] at h
      cases hK : tb g.type with
      | none => simp [hK] at h
      | some K =>
        simp only [hK] at h
        cases h1 : pload K xs g.offset with
        | none => simp [h1] at h
        | some x =>
          cases h2 : pload K ys g.offset with
          | none => simp [h1, h2] at h
          | some y =>
            simp only [h1, h2] at h
            obtain ⟨v, hv, rv⟩ := part_rel (hT _ _ hK) hx h1 w1
            obtain ⟨u, hu, ru⟩ := part_rel (hT _ _ hK) hy h2 w1
            cases h3 : f g.type x y with
            | none => simp [h3] at h
            | some c =>
              have hq := hf _ _ _ _ h3 v u rv ru w1
              simp only [Op.eqFields, hn, ne_eq, not_false_eq_true, if_true, Sem.run_bind, hv, hu, hq, Result.andThen_ok]
              cases c with
              | false =>
                simp only [h3, Option.some.injEq] at h
                subst h
                simp
              | true =>
                simp only [h3] at h
                simp only [Bool.not_true, Bool.false_eq_true, if_false]
                exact ih b h

theorem peq_run (hT : TabOk P tb) : ∀ (d : Nat) (t : TypeId) (x y : PV) (b : Bool), peq tb d t x y = some b → ∀ v u, Rel H w x v → Rel H w y u → ∀ D, d ≤ D → ∀ w1, (Op.equalIn D t v u).run P w1 = .ok b w1 := by
  intro d
  induction d with
  | zero => intro t x y b h; simp [peq] at h
  | succ d ih =>
    intro t x y b h v u hv hu D hD w1
    obtain ⟨D, rfl⟩ : ∃ m, D = m + 1 := ⟨D - 1, by omega⟩
    unfold peq at h
    cases hK : tb t with
    | none => simp [hK] at h
    | some K =>
      obtain ⟨i, z, hi, hz, hs, hb, hzz, hkd⟩ := tk_info (hT _ _ hK)
      simp only [hK] at h
      split at h
      · rename_i hk
        split at h
        · rename_i hkk
          subst hkk
          simp only [Option.some.injEq] at h
          subst h
          cases hv; cases hu
          exact run_equalIn_int w1 D t _ _ _ _ (kd_int (hkd.symm.trans hk))
        · cases h
      · rename_i hk
        simp only [Option.some.injEq] at h
        subst h
        cases hv; cases hu
        exact run_equalIn_bool' w1 D t _ _ (kd_bool (hkd.symm.trans hk))
      · rename_i hk
        simp only [Option.some.injEq] at h
        subst h
        cases hv; cases hu
        rw [run_equalIn_string w1 D t _ _ (kd_str (hkd.symm.trans hk))]
        simp
      · rename_i fs held guard xs ys hk
        split at h
        · cases h
        · rename_i hheld
          obtain ⟨fields, hu1, rfl, hheld1, _⟩ := kd_agg (hkd.symm.trans hk)
          cases hv with
          | agg _ vs hvs =>
            cases hu with
            | agg _ us hus =>
              have hfo : P.fieldsOf t = fields := by simp [Program.fieldsOf, hu1]
              have hst : P.stoodInHeld t = false := by rw [← hheld1]; simpa using hheld
              rw [run_equalIn_struct w1 D t vs.toArray us.toArray (by rw [hfo]; exact hu1) hst, hfo]
              exact eqFs_run hT (fun t x y b hq v u hv hu w2 => ih t x y b hq v u hv hu D (by omega) w2) hvs hus w1 fields.toList b h
      · cases h
end
end Go.Pv
