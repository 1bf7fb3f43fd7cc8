/- Builds, conversions, appends: over pure values and in the machine; then any operation but a call. -/
import Derived.Test.YtdfahkeodlfopaaDoorPvOp3
import Derived.Laws.MakeOwn
set_option linter.unusedSimpArgs false
set_option linter.unusedVariables false
namespace Go.Pv
open Go.RowKit

section
variable {P : Program} {tb : Tab} {H : Gh} {w : World}

/-! ### parts laid over cells -/
theorem fold_cells (off : Nat) : ∀ (us : List Value) (j : Nat) (cells : Array Value), off + j + us.length ≤ cells.size →
    ((us.zipIdx j).foldl (fun cs (c, i) => cs.setIfInBounds (off + i) c) cells).toList = cells.toList.take (off + j) ++ us ++ cells.toList.drop (off + j + us.length) := by
  intro us
  induction us with
  | nil => intro j cells h; simp
  | cons u us ih =>
    intro j cells h
    simp only [List.length_cons] at h
    rw [List.zipIdx_cons, List.foldl_cons, ih (j + 1) _ (by simp; omega)]
    simp only [Array.toList_setIfInBounds, List.length_cons]
    have hlt : off + j < cells.toList.length := by simp; omega
    rw [List.drop_set_of_lt (by omega)]
    have e1 : off + (j + 1) = (off + j) + 1 := by omega
    rw [e1, List.take_succ_eq_append_getElem (by simpa using hlt)]
    rw [List.take_set_of_le (Nat.le_refl _)]
    simp only [List.getElem_set_self, List.append_assoc, List.singleton_append]
    congr 3
    omega

theorem pfill_rel {place : Nat → Option (Nat × Nat)} : ∀ (parts : List (Nat × PV)) (vparts : List (Nat × Value)) (cells : List PV) (vs : List Value) (r : List PV),
    parts.length = vparts.length → (∀ (i : Nat) p q, parts[i]? = some p → vparts[i]? = some q → p.1 = q.1 ∧ Rel H w p.2 q.2) → RelL H w cells vs → pfill place cells parts = some r →
    ∃ us : List Value, Instr.fill place vs.toArray vparts = some us.toArray ∧ RelL H w r us := by
  intro parts
  induction parts with
  | nil =>
    intro vparts cells vs r hl _ hr h
    cases vparts with
    | nil =>
      simp only [pfill, Option.some.injEq] at h
      subst h
      exact ⟨vs, rfl, hr⟩
    | cons => simp at hl
  | cons p parts ih =>
    intro vparts cells vs r hl hp hr h
    cases vparts with
    | nil => simp at hl
    | cons q vparts =>
      obtain ⟨i, x⟩ := p
      obtain ⟨i', v⟩ := q
      obtain ⟨he, hxv⟩ := hp 0 (i, x) (i', v) rfl rfl
      have he : i = i' := he
      have hxv : Rel H w x v := hxv
      subst he
      simp only [pfill] at h
      split at h
      · rename_i off size us hpl hpc
        split at h
        · rename_i hfit
          have hrel := pcells_rel hxv hpc
          have hlen := hrel.len
          have hcl := hr.len
          have hsz : v.cells.size = size := by have := hfit.1; simp at hlen; omega
          have hfold : (v.cells.zipIdx.foldl (fun cs (c, j) => cs.setIfInBounds (off + j) c) vs.toArray) = (vs.take off ++ v.cells.toList ++ vs.drop (off + size)).toArray := by
            apply Array.ext'
            rw [← Array.foldl_toList, Array.toList_zipIdx]
            have := fold_cells off v.cells.toList 0 vs.toArray (by simp; omega)
            simp only [Nat.add_zero] at this
            rw [this]
            simp [hsz]
          obtain ⟨us', hf, hr'⟩ := ih vparts _ (vs.take off ++ v.cells.toList ++ vs.drop (off + size)) r (by simpa using hl)
            (fun i p q e1 e2 => hp (i + 1) p q (by simpa using e1) (by simpa using e2)) (((hr.take off).app hrel).app (hr.drop _)) h
          refine ⟨us', ?_, hr'⟩
          simp only [Instr.fill, hpl]
          rw [if_neg (by simp; omega), hfold]
          exact hf
        · cases h
      · cases h

theorem relL_map {α : Type} {f : α → PV} {g : α → Value} (h : ∀ x, Rel H w (f x) (g x)) : ∀ (l : List α), RelL H w (l.map f) (l.map g)
  | [] => .nil
  | x :: l => .cons _ _ _ _ (h x) (relL_map h l)

theorem build_rel (hT : TabOk P tb) {parts : List (Nat × Operand)} {fr : List PV} {a : Act} (hfr : RelL H w fr a.tmps.toList) :
    (∀ (i : Nat) p q, (parts.map fun p => (p.1, ev fr p.2))[i]? = some p → (parts.map fun p => (p.1, a.eval p.2))[i]? = some q → p.1 = q.1 ∧ Rel H w p.2 q.2) := by
  intro i p q hp hq
  rw [List.getElem?_map] at hp hq
  cases hx : parts[i]? with
  | none => simp [hx] at hp
  | some x =>
    simp only [hx, Option.map_some, Option.some.injEq] at hp hq
    subst hp hq
    exact ⟨rfl, ev_rel hfr _⟩

theorem fill_congr {p q : Nat → Option (Nat × Nat)} (h : ∀ i, p i = q i) (cells : Array Value) (l : List (Nat × Value)) : Instr.fill p cells l = Instr.fill q cells l := by
  have : p = q := funext h
  rw [this]

theorem run_mapM_fields (w1 : World) : ∀ (fs : List Field), (∀ f ∈ fs, ∃ n, (sizeOf f.type).run P w1 = .ok n w1) →
    ∃ l : List (Nat × Nat), (fs.mapM (fun f => do pure (f.offset, ← sizeOf f.type) : Field → Sem (Nat × Nat))).run P w1 = .ok l w1 ∧ l.length = fs.length ∧
      ∀ (i : Nat) (f : Field), fs[i]? = some f → ∃ n, l[i]? = some (f.offset, n) ∧ (sizeOf f.type).run P w1 = .ok n w1 := by
  intro fs
  induction fs with
  | nil => intro _; exact ⟨[], by simp, rfl, fun i f h => by simp at h⟩
  | cons f fs ih =>
    intro h
    obtain ⟨n, hn⟩ := h f (by simp)
    obtain ⟨l, hl, hlen, hget⟩ := ih fun g hg => h g (by simp [hg])
    refine ⟨(f.offset, n) :: l, by simp only [List.mapM_cons, Sem.run_bind, hn, hl, Result.andThen_ok, Sem.run_pure], by simp [hlen], fun i g hg => ?_⟩
    cases i with
    | zero => simp at hg; subst hg; exact ⟨n, by simp, hn⟩
    | succ i => simp at hg; simpa using hget i g hg

/-- The table tells every field's type of a struct that is built. -/
theorem pbuild_run (hT : TabOk P tb) {t : TypeId} {parts : List (Nat × Operand)} {fr : List PV} {a : Act} (hfr : RelL H w fr a.tmps.toList) {r : PV}
    (h : pbuild tb t (parts.map fun p => (p.1, ev fr p.2)) = some r) (w1 : World) :
    ∃ u, (Instr.build t (parts.map fun p => (p.1, a.eval p.2)).toArray).run P w1 = .ok u w1 ∧ Rel H w r u := by
  unfold pbuild at h
  cases hK : tb t with
  | none => simp [hK] at h
  | some K =>
    have hkd := tk_kd hT hK
    obtain ⟨z, hz, hzr⟩ := run_zero_tk (hT _ _ hK)
    simp only [hK] at h
    split at h
    · rename_i fs held guard hk
      obtain ⟨fields, hu, rfl, _, _⟩ := kd_agg (hkd.trans hk)
      split at h
      · rename_i hsome
        obtain ⟨cs, hp, rfl⟩ := Option.map_eq_some_iff.1 h
        · skip
          have hall : ∀ f ∈ fields.toList, ∃ F, tb f.type = some F := by
            intro f hf
            have h1 : ((tb f.type).isSome) = true := by
              have := List.all_eq_true.1 hsome (f.offset, f.type, f.name != "_") (List.mem_map.2 ⟨f, hf, rfl⟩)
              simpa using this
            exact Option.isSome_iff_exists.1 h1
          obtain ⟨l, hl, hlen, hget⟩ := run_mapM_fields (P := P) w1 fields.toList fun f hf => by
            obtain ⟨F, hF⟩ := hall f hf
            exact ⟨F.size, run_sizeOf_tk (hT _ _ hF) w1⟩
          have hplace : ∀ i, fplace tb (fields.toList.map fun f => (f.offset, f.type, f.name != "_")) i = l.toArray[i]? := by
            intro i
            unfold fplace
            rw [List.getElem?_map]
            cases hf : fields.toList[i]? with
            | none =>
              have : l[i]? = none := by
                rw [List.getElem?_eq_none_iff] at hf ⊢
                omega
              simp [this]
            | some f =>
              obtain ⟨F, hF⟩ := hall f (List.mem_of_getElem? hf)
              obtain ⟨n, hn, hs⟩ := hget i f hf
              have := run_sizeOf_tk (hT _ _ hF) w1
              rw [this] at hs
              have e : F.size = n := by injection hs
              simp [hF, hn, e]
          obtain ⟨us, hus, hrel⟩ := pfill_rel _ (parts.map fun p => (p.1, a.eval p.2)) K.zero z.cells.toList cs (by simp) (build_rel hT hfr) (by rw [hz]; exact ofCells_rel _) hp
          refine ⟨.agg us.toArray, ?_, .agg _ _ hrel⟩
          rw [fill_congr hplace] at hus
          have hmap : (fields.mapM (fun f => do pure (f.offset, ← sizeOf f.type) : Field → Sem (Nat × Nat))).run P w1 = .ok l.toArray w1 := by
            rw [Array.mapM_eq_mapM_toList]
            simp only [Sem.run_map, hl, Result.andThen_ok]
          simp only [Instr.build, Sem.run_bind, hzr, run_underlying hu, Result.andThen_ok, hmap]
          have hus' : Instr.fill (fun x => l.toArray[x]?) z.cells (parts.map fun p => (p.1, a.eval p.2)) = some us.toArray := by
            rw [Array.toArray_toList] at hus
            exact hus
          rw [hus']
          rfl
      · cases h
    · cases h

/-! ### rows that are made -/
theorem chunks_len (k : Nat) : ∀ (n : Nat) (cs : List PV), (chunks k n cs).length = n
  | 0, _ => rfl
  | n + 1, cs => by simp [chunks, chunks_len k n]

def vchunks (k : Nat) : Nat → List Value → List (List Value)
  | 0, _ => []
  | n + 1, cs => cs.take k :: vchunks k n (cs.drop k)

theorem chunks_rel (k : Nat) : ∀ (n : Nat) (cs : List PV) (vs : List Value), RelL H w cs vs → RelLL H w (chunks k n cs) (vchunks k n vs)
  | 0, _, _, _ => .nil
  | n + 1, cs, vs, h => .cons _ _ _ _ (h.take k) (chunks_rel k n _ _ (h.drop k))

theorem vchunks_get (k : Nat) : ∀ (n : Nat) (vs : List Value) (i : Nat) (us : List Value), (vchunks k n vs)[i]? = some us → us = (vs.drop (i * k)).take k ∧ i < n
  | 0, _, i, us, h => by simp [vchunks] at h
  | n + 1, vs, 0, us, h => by
    simp [vchunks] at h
    exact ⟨by simp [h], by omega⟩
  | n + 1, vs, i + 1, us, h => by
    simp [vchunks] at h
    obtain ⟨h1, h2⟩ := vchunks_get k n _ i us h
    refine ⟨?_, by omega⟩
    rw [h1, List.drop_drop]
    congr 2
    rw [Nat.add_mul]
    omega

/-- A new row of cells is a row that stays. -/
theorem new_row {gl : Nat → Option Obj} {σ : Store} (hok : Ok gl H σ w) {vs : List Value} {k n : Nat} (hlen : vs.length = n * k) (hk : 0 < k) (t : TypeId) :
    RowAt H (w.alloc (.cells vs.toArray t)) (some ⟨w.heap.size, 0, none⟩) k (vchunks k n vs) := by
  intro i us hi
  obtain ⟨h1, h2⟩ := vchunks_get k n vs i us hi
  have hle : i * k + k ≤ n * k := by
    have : (i + 1) * k ≤ n * k := Nat.mul_le_mul_right k h2
    rwa [Nat.add_mul, Nat.one_mul] at this
  refine ⟨by rw [h1]; simp; omega, _, rfl, fun j u hj => ?_⟩
  rw [add_plain, add_plain, Nat.zero_add]
  show H.prot _ w.heap.size (i * k + j) ∧ _
  refine ⟨⟨by simp, fun hB => absurd hok.B (by omega), fun hm => ?_, fun T hT hb => ?_⟩, ?_⟩
  · exact absurd (hok.ob_at hm).2 (Nat.lt_irrefl _)
  · have := (hok.tk_at hT).2
    omega
  · rw [h1, List.getElem?_take] at hj
    split at hj
    · rw [List.getElem?_drop] at hj
      rw [World.cell?_alloc_new]
      simpa using hj
    · cases hj

theorem reps_rel {zs : List PV} {vz : List Value} (h : RelL H w zs vz) : ∀ n, RelL H w (reps n zs) ((List.replicate n vz).flatten)
  | 0 => .nil
  | n + 1 => by
    rw [List.replicate_succ, List.flatten_cons]
    exact h.app (reps_rel h n)

theorem flatten_reps {vz : List Value} (hz : 0 < vz.length) (n : Nat) : ((Array.range (n * vz.length)).map (vz.toArray[· % vz.toArray.size]!)).toList = (List.replicate n vz).flatten := by
  apply List.ext_getElem?
  intro i
  by_cases hi : i < n * vz.length
  · have hm : i % vz.length < vz.length := Nat.mod_lt _ hz
    have e : ((List.replicate n vz).flatten)[i]? = some (vz[i % vz.length]) := by
      induction n generalizing i with
      | zero => simp at hi
      | succ n ih =>
        rw [List.replicate_succ, List.flatten_cons]
        by_cases hv : i < vz.length
        · rw [List.getElem?_append_left hv, List.getElem?_eq_getElem hv]
          congr 2
          exact (Nat.mod_eq_of_lt hv).symm
        · rw [List.getElem?_append_right (by omega)]
          have hlt : i - vz.length < n * vz.length := by rw [Nat.add_mul] at hi; omega
          have hmod : (i - vz.length) % vz.length = i % vz.length := by
            rw [← Nat.mod_eq_sub_mod (by omega)]
          have := ih (i - vz.length) hlt (Nat.mod_lt _ hz)
          rw [this]
          simp only [hmod]
    rw [e]
    simp [hi, hm]
  · have e : ((List.replicate n vz).flatten)[i]? = none := by
      rw [List.getElem?_eq_none_iff, List.length_flatten]
      simp
      omega
    rw [e]
    simp
    omega

theorem pbuildSlice_run (hT : TabOk P tb) {gl : Nat → Option Obj} {σ : Store} (hok : Ok gl H σ w) {t : TypeId} {len : Nat} {parts : List (Nat × Operand)} {fr : List PV} {a : Act} (hfr : RelL H w fr a.tmps.toList) {r : PV}
    (h : pbuildSlice tb t len (parts.map fun p => (p.1, ev fr p.2)) = some r) :
    ∃ u w', (Instr.buildSlice t len (parts.map fun p => (p.1, a.eval p.2)).toArray).run P w = .ok u w' ∧ (Below w.heap.size w w' ∧ w'.drawn = w.drawn) ∧ Rel H w' r u := by
  unfold pbuildSlice at h
  cases hK : tb t with
  | none => simp [hK] at h
  | some K =>
    have hkd := tk_kd hT hK
    simp only [hK] at h
    split at h
    · rename_i e hk
      have hu := kd_sl (hkd.trans hk)
      cases hE : tb e with
      | none => simp [hE] at h
      | some E =>
        simp only [hE] at h
        have hsize := run_sizeOf_tk (hT _ _ hE) w
        obtain ⟨z, hz, hzr⟩ := run_zero_tk (hT _ _ hE)
        split at h
        · rename_i hcond
          obtain ⟨hmax, hzl, hpos⟩ := hcond
          cases hp : pfill (fun i => some (i * E.size, E.size)) (reps len E.zero) (parts.map fun p => (p.1, ev fr p.2)) with
          | none => simp [hp] at h
          | some cs =>
            simp only [hp, Option.map_some, Option.some.injEq] at h
            subst h
            have hzlen : z.cells.toList.length = E.size := by rw [← hzl, hz]; simp
            have hzrel : RelL H w E.zero z.cells.toList := by rw [hz]; exact ofCells_rel _
            obtain ⟨us, hus, hrel⟩ := pfill_rel _ (parts.map fun p => (p.1, a.eval p.2)) (reps len E.zero) ((List.replicate len z.cells.toList).flatten) cs (by simp) (build_rel hT hfr) (reps_rel hzrel len) hp
            have hcl : cs.length = len * E.size := by
              have h1 : ∀ (parts : List (Nat × PV)) (cells r : List PV), pfill (fun i => some (i * E.size, E.size)) cells parts = some r → r.length = cells.length := by
                intro parts
                induction parts with
                | nil => intro cells r h; simp [pfill] at h; rw [h]
                | cons p parts ih =>
                  intro cells r h
                  obtain ⟨i, x⟩ := p
                  simp only [pfill] at h
                  split at h
                  · rename_i off size us hpl _
                    split at h
                    · rename_i hfit
                      rw [ih _ _ h]
                      simp
                      omega
                    · cases h
                  · cases h
              have h2 : ∀ n, (reps n E.zero).length = n * E.size := by
                intro n
                induction n with
                | zero => simp [reps]
                | succ n ih => simp [reps, ih, hzl, Nat.add_mul]; omega
              rw [h1 _ _ _ hp, h2]
            have hul : us.length = len * E.size := by rw [← hrel.len, hcl]
            have hzero : ((Array.range (len * E.size)).map (z.cells[· % z.cells.size]!)) = ((List.replicate len z.cells.toList).flatten).toArray := by
              apply Array.ext'
              have := flatten_reps (vz := z.cells.toList) (by omega) len
              rw [hzlen] at this
              simpa using this
            refine ⟨.slice (some ⟨w.heap.size, 0, none⟩) len len, w.alloc (.cells us.toArray e), ?_, ⟨below_alloc0 w _, rfl⟩, ?_⟩
            · simp only [Instr.buildSlice, Sem.run_bind, run_underlying hu, Result.andThen_ok, hsize]
              rw [if_neg (by omega)]
              by_cases h0 : len * E.size = 0
              · have hlen0 : len = 0 := by
                  rcases Nat.mul_eq_zero.1 h0 with h | h
                  · exact h
                  · omega
                subst hlen0
                simp only [Nat.zero_mul, List.replicate_zero, List.flatten_nil] at hus ⊢
                rw [if_pos trivial]
                simp only [Sem.run_bind, Sem.run_pure, Result.andThen_ok]
                have e0 : Array.map (fun x => (#[] : Array Value)[x % (#[] : Array Value).size]!) (Array.range 0) = #[] := by
                  apply Array.ext'
                  rw [Array.toList_map, Array.toList_range]
                  rfl
                rw [e0, hus]
                rfl
              · simp [h0, hzr, hzero, hus, newRow]
            · have hev : Ev gl H w H (w.alloc (.cells us.toArray e)) := Ev.of_below hok.B (below_alloc0 w _) (.of_eq rfl)
              have hm : len ≤ maxLen := by
                have : len ≤ len * E.size := Nat.le_mul_of_pos_right _ hpos
                unfold maxLen
                omega
              exact .sl _ _ _ E.size _ (vchunks E.size len us) _ (chunks_len _ _ _) (Nat.le_refl _) hm ((chunks_rel _ _ _ _ hrel).mono hev.mono) (new_row hok hul hpos e) rfl
        · cases h
    · cases h
theorem pmakeSlice_run (hT : TabOk P tb) {gl : Nat → Option Obj} {σ : Store} (hok : Ok gl H σ w) {t : TypeId} {x y : PV} {xv yv : Value} (hx : Rel H w x xv) (hy : Rel H w y yv) {r : PV} (h : pmakeSlice tb t x y = some r) :
    ∃ u w', (Instr.makeSlice t xv yv).run P w = .ok u w' ∧ (Below w.heap.size w w' ∧ w'.drawn = w.drawn) ∧ Rel H w' r u := by
  unfold pmakeSlice at h
  split at h
  · rename_i K kx n ky m hK
    have hkd := tk_kd hT hK
    split at h
    · rename_i e hk
      have hu := kd_sl (hkd.trans hk)
      cases hE : tb e with
      | none => simp [hE] at h
      | some E =>
        simp only [hE] at h
        split at h
        · rename_i hcond
          obtain ⟨h0, rfl, hmax, hby, hzl, hpos⟩ := hcond
          cases h
          cases hx
          cases hy
          obtain ⟨i, z, hi, hz, hs, hb, hzz, _⟩ := tk_info (hT _ _ hE)
          have hm : n.toNat ≤ maxLen := by
            have h1 : n.toNat ≤ n.toNat * E.size := Nat.le_mul_of_pos_right _ hpos
            unfold maxLen
            omega
          have hb' : (i.bytes : Int) * n ≤ 281474976710656 := by
            have e1 : n = (n.toNat : Int) := by omega
            have h1 : ((i.bytes * n.toNat : Nat) : Int) ≤ 281474976710656 := by rw [hb]; omega
            rw [Int.natCast_mul] at h1
            rw [e1]
            exact h1
          have hr := run_make (P := P) (w := w) t e i z hu hi hz kx ky n n h0 (Int.le_refl _) hb' (by unfold maxLen at hm; omega)
          have hzlen : z.cells.toList.length = E.size := by rw [← hzl, hzz]; simp
          have hcells : (madeCells z.cells (n.toNat * i.size)).toList = (List.replicate n.toNat z.cells.toList).flatten := by
            have := flatten_reps (vz := z.cells.toList) (by omega) n.toNat
            rw [hzlen] at this
            rw [hs, ← this]
            unfold madeCells
            rw [Array.toList_map, Array.toList_range]
          have hzrel : RelL H w E.zero z.cells.toList := by rw [hzz]; exact ofCells_rel _
          have hrel := reps_rel hzrel n.toNat
          have hul : ((List.replicate n.toNat z.cells.toList).flatten).length = n.toNat * E.size := by
            simp [List.length_flatten, hzlen]
          refine ⟨_, _, hr, ⟨below_alloc0 w _, rfl⟩, ?_⟩
          have hev : Ev gl H w H (w.alloc (.cells (madeCells z.cells (n.toNat * i.size)) e)) := Ev.of_below hok.B (below_alloc0 w _) (.of_eq rfl)
          have hrow := new_row hok hul hpos e
          have e2 : ((List.replicate n.toNat z.cells.toList).flatten).toArray = madeCells z.cells (n.toNat * i.size) := by rw [← hcells]
          rw [e2] at hrow
          exact .sl _ _ _ E.size _ (vchunks E.size n.toNat _) _ (chunks_len _ _ _) (Nat.le_refl _) hm ((chunks_rel _ _ _ _ hrel).mono hev.mono) hrow rfl
        · cases h
    · cases h
  · cases h
end
end Go.Pv
