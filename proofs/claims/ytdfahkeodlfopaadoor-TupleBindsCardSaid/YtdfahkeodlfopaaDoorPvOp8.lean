/- Every operation does what is computed. -/
import Derived.Test.YtdfahkeodlfopaaDoorPvOp7
set_option linter.unusedSimpArgs false
set_option linter.unusedVariables false
namespace Go.Pv
open Go.RowKit

section
variable {P : Program} {tb : Tab} {gl : Nat → Option Obj} {Γ : Gam} {H : Gh} {σ : Store} {w : World}

theorem pcells_rel' {x : PV} {v : Value} {cs : List PV} (h : pcells x = some cs) (hx : Rel H w x v) : ∃ vs : List Value, v.cells = vs.toArray ∧ RelL H w cs vs :=
  ⟨v.cells.toList, by simp, pcells_rel hx h⟩

/-- What is quiet. -/
theorem quiet {o : Oper} {a : Act} {x : PV} {v : Value} (hok : Ok gl H σ w) (hr : (execOp a.eval o).run P w = .ok (.value v) w) (hx : Rel H w x v) : RunsTo P o a w (Post gl H w x σ) :=
  RunsTo.value hr (Post.same hok hx)

theorem load_run (hT : TabOk P tb) (hok : Ok gl H σ w) {t : TypeId} {K : TK} (hK : tb t = some K) {x : PV} {v : Value} (hx : Rel H w x v) {r : PV}
    (h : (∃ id off cs, x = .ptr id off ∧ σ.objs[id]? = some cs ∧ pload K cs off = some r) ∨ (∃ cs, x = .ref cs ∧ pload K cs 0 = some r)) :
    ∃ u, (Instr.loadAt t v).run P w = .ok u w ∧ Rel H w r u := by
  rcases h with ⟨id, off, cs, rfl, hcs, hl⟩ | ⟨cs, rfl, hl⟩
  · cases hx with
    | ptr _ _ b hb =>
      obtain ⟨hB, vs, ext, T, he, hr⟩ := hok.obj id b cs hb hcs
      obtain ⟨u, hu, hru⟩ := loadVar_rel (hT _ _ hK) hr hl (a := ⟨b, off, none⟩) (w1 := w) (fun j v hj => by
        rw [add_plain, cell_of_row w b (off + j) (vs ++ ext).toArray T (0, 0) he]
        simpa using get_app hj)
      exact ⟨u, by simpa [Instr.loadAt, Instr.sureAddr] using hu, hru⟩
  · cases hx with
    | ref a _ vs hr hc =>
      obtain ⟨u, hu, hru⟩ := loadVar_rel (hT _ _ hK) hr hl (a := a) (w1 := w) (fun j v hj => by
        rw [Nat.zero_add] at hj
        exact (hc j v hj).2)
      exact ⟨u, by simpa [Instr.loadAt, Instr.sureAddr] using hu, hru⟩

theorem store_run (hT : TabOk P tb) (hok : Ok gl H σ w) {t : TypeId} {K : TK} (hK : tb t = some K) {id off : Nat} {x : PV} {av xv : Value} (ha : Rel H w (.ptr id off) av) (hx : Rel H w x xv) {vs cs : List PV}
    (hv : pcells x = some vs) (hcs : σ.objs[id]? = some cs) (hl : vs.length = K.size) (hle : off + K.size ≤ cs.length) (h1 : vs.all one = true) :
    ∃ w', (Instr.storeAt t av xv).run P w = .ok () w' ∧ Ev gl H w H w' ∧ Ok gl H { σ with objs := σ.objs.set id (cs.take off ++ vs ++ cs.drop (off + K.size)) } w' := by
  cases ha with
  | ptr _ _ b hb =>
    obtain ⟨hB, us, ext, T, he, hr⟩ := hok.obj id b cs hb hcs
    have hxr := pcells_rel hx hv
    have hxl := hxr.len
    have hst := run_storeCells_at P b off T xv.cells.toList 0 (us ++ ext).toArray w he (by have := hr.len; simp at hxl ⊢; omega) (ones_cell hxr h1)
    have hs := run_sizeOf_tk (hT _ _ hK) w
    have hsz : xv.cells.size = K.size := by simp at hxl; omega
    obtain ⟨hev, hok'⟩ := set_obj hok hb he (vs' := us.take off ++ xv.cells.toList ++ us.drop (off + K.size)) (cs' := cs.take off ++ vs ++ cs.drop (off + K.size))
      (((hr.take off).app hxr).app (hr.drop _)) (fun c0 hc0 => by
        obtain rfl := Option.some.inj (hcs.symm.trans hc0)
        have h1 := hr.len
        refine ⟨h1, ?_⟩
        simp only [List.length_append, List.length_take, List.length_drop]
        omega)
    refine ⟨_, ?_, hev, hok'⟩
    have hlen := hr.len
    have e1 : (us ++ ext).take off ++ xv.cells.toList ++ (us ++ ext).drop (off + xv.cells.toList.length) = (us.take off ++ xv.cells.toList ++ us.drop (off + K.size)) ++ ext := by
      have e2 : xv.cells.toList.length = K.size := by simpa using hsz
      rw [e2, List.take_append_of_le_length (by omega), List.drop_append_of_le_length (by omega)]
      simp
    simp [Instr.storeAt, Instr.sureAddr, storeVar, hs, hsz] at hst e1 ⊢
    rw [← e1]
    exact hst

theorem pzeros_rel {zs : List PV} {z : Array Value} (h : RelL H w zs z.toList) (n : Nat) : RelL H w (pzeros zs n) (Builtin.zeroCells z n).toList := by
  have hl := h.len
  have hl' : zs.length = z.size := by simpa using hl
  refine relL_iff.2 ⟨by simp [pzeros, Builtin.zeroCells, hl'], fun i x v hx hv => ?_⟩
  simp only [pzeros, List.getElem?_map, Option.map_eq_some_iff] at hx
  obtain ⟨a, ha, rfl⟩ := hx
  have hlt := (List.getElem?_eq_some_iff.1 ha).1
  simp at hlt
  have hai : a = i := by rw [List.getElem?_range hlt] at ha; exact (Option.some.inj ha).symm
  subst hai
  have hpos : 0 < zs.length := by
    rcases Nat.eq_zero_or_pos zs.length with h0 | h0
    · rw [h0] at hlt; simp at hlt
    · exact h0
  have hm : a % zs.length < zs.length := Nat.mod_lt _ hpos
  simp only [Builtin.zeroCells, Array.toList_map, Array.toList_range, List.getElem?_map, Option.map_eq_some_iff] at hv
  obtain ⟨b, hb, rfl⟩ := hv
  rw [List.getElem?_range (by rw [← hl']; exact hlt)] at hb
  obtain rfl := Option.some.inj hb
  have h1 : zs[a % zs.length]? = some (zs.getD (a % zs.length) .top) := by
    rw [List.getD_eq_getElem?_getD, List.getElem?_eq_getElem hm]
    rfl
  have h2 : z.toList[a % zs.length]? = some (z[a % z.size]!) := by
    rw [hl', Array.getElem?_toList]
    rw [Array.getElem!_eq_getD, Array.getD_eq_getD_getElem?, Array.getElem?_eq_getElem (by rw [← hl']; exact hm)]
    rfl
  exact (relL_iff.1 h).2 _ _ _ h1 h2

theorem clear_run (hT : TabOk P tb) (hok : Ok gl H σ w) {t ty : TypeId} {x r : PV} {v : Value} {σ' : Store} (h : pclear tb t x σ = some (r, σ')) (hx : Rel H w x v) :
    ∃ w', (Builtin.clear_ #[t] ty #[v]).run P w = .ok (.tuple #[]) w' ∧ Post gl H w r σ' (.tuple #[]) w' := by
  unfold pclear at h
  split at h
  · rename_i K id off len k hK
    have hkd := tk_kd hT hK
    split at h
    · rename_i e hk
      have hu := kd_sl (hkd.trans hk)
      cases hE : tb e with
      | none => simp [hE] at h
      | some E =>
        simp only [hE] at h
        cases hx with
        | osl _ _ off' _ cap _ b hb ho hcap hm =>
          by_cases h0 : len = 0
          · subst h0
            simp only [if_true, Option.some.injEq, Prod.mk.injEq] at h
            obtain ⟨rfl, rfl⟩ := h
            exact ⟨w, by simp [Builtin.clear_, run_underlying hu], .same hok (.tup [] [] .nil)⟩
          · rw [if_neg h0] at h
            obtain rfl := ho h0
            split at h
            · rename_i cs hcs
              split at h
              · rename_i hz
                obtain ⟨rfl, hzp, hz1, hle⟩ := hz
                simp only [Option.some.injEq, Prod.mk.injEq] at h
                obtain ⟨rfl, rfl⟩ := h
                obtain ⟨z, hzz, hrz⟩ := run_zero_tk (hT _ _ hE)
                have hzrel : RelL H w E.zero z.cells.toList := by rw [hzz]; exact ofCells_rel _
                have hzl : E.zero.length = z.cells.size := by simpa using hzrel.len
                have hpr := pzeros_rel hzrel len
                obtain ⟨hB, us, ext, T, he, hr⟩ := hok.obj id b cs hb hcs
                have hpl : (Builtin.zeroCells z.cells len).toList.length = len * E.zero.length := by simp [Builtin.zeroCells, hzl]
                have hone : ∀ v ∈ (Builtin.zeroCells z.cells len).toList, v.oneCell' = true := by
                  refine ones_cell hpr ?_
                  rw [List.all_eq_true]
                  intro y hy
                  simp only [pzeros, List.mem_map, List.mem_range] at hy
                  obtain ⟨i, _, rfl⟩ := hy
                  have hi : i % E.zero.length < E.zero.length := Nat.mod_lt _ hzp
                  rw [List.getD_eq_getElem?_getD, List.getElem?_eq_getElem hi]
                  exact List.all_eq_true.1 hz1 _ (List.getElem_mem hi)
                have hlr := hr.len
                have hst := run_storeCells_at P b off' T (Builtin.zeroCells z.cells len).toList 0 (us ++ ext).toArray w he (by simp only [List.size_toArray, List.length_append]; omega) hone
                obtain ⟨hev, hok'⟩ := set_obj hok hb he (vs' := us.take off' ++ (Builtin.zeroCells z.cells len).toList ++ us.drop (off' + len * E.zero.length)) (cs' := cs.take off' ++ pzeros E.zero len ++ cs.drop (off' + len * E.zero.length))
                  (((hr.take off').app hpr).app (hr.drop _)) (fun c0 hc0 => by
                    obtain rfl := Option.some.inj (hcs.symm.trans hc0)
                    refine ⟨hlr, ?_⟩
                    have hpz : (pzeros E.zero len).length = len * E.zero.length := by simp [pzeros]
                    simp only [List.length_append, List.length_take, List.length_drop, hpz]
                    omega)
                have e1 : (us ++ ext).take off' ++ (Builtin.zeroCells z.cells len).toList ++ (us ++ ext).drop (off' + (Builtin.zeroCells z.cells len).toList.length) = (us.take off' ++ (Builtin.zeroCells z.cells len).toList ++ us.drop (off' + len * E.zero.length)) ++ ext := by
                  rw [hpl, List.take_append_of_le_length (by omega), List.drop_append_of_le_length (by omega)]
                  simp
                refine ⟨_, ?_, H, hev, hok', .tup [] [] .nil⟩
                obtain ⟨m, rfl⟩ : ∃ m, len = m + 1 := ⟨len - 1, by omega⟩
                simp only [Nat.add_zero] at hst
                simp [Builtin.clear_, run_underlying hu, hrz] at hst e1 ⊢
                rw [← e1]
                simp [hst]
              · cases h
            · cases h
    · cases h
  · cases h

theorem opt_map {α β : Type} {f : α → β} {x : Option α} {y : β} (h : x.map f = some y) : ∃ a, x = some a ∧ f a = y := by
  cases x with
  | none => cases h
  | some a => exact ⟨a, rfl, Option.some.inj h⟩

theorem callOp_sound (hT : TabOk P tb) (hΓ : GamOk P gl Γ) (hok : Ok gl H σ w) {o : Oper} {a : Act} {fr : List PV} (hfr : RelL H w fr a.tmps.toList) {c : Call} (ho : o.op = .call c) {x : PV} {σ' : Store}
    (h : pcallOp tb Γ fr σ c = some (x, σ')) : RunsTo P o a w (Post gl H w x σ') := by
  unfold pcallOp at h
  split at h
  · rename_i hc
    split at h
    · rename_i t y ht hy
      have ht : c.argTypes = #[t] := Array.ext' ht
      have hy : c.args = #[y] := Array.ext' hy
      cases hK : tb t with
      | none => simp [hK] at h
      | some K =>
        have hkd := tk_kd hT hK
        simp only [hK] at h
        have hr := ev_rel hfr y
        split at h
        · rename_i l hk he
          simp only [Option.some.injEq, Prod.mk.injEq] at h
          obtain ⟨rfl, rfl⟩ := h
          rw [he] at hr
          generalize hv : a.eval y = v at hr
          cases hr with
          | str _ hl =>
            refine quiet (v := goInt l.length) hok ?_ (.int _ _ (by simp [Lit.wf, IntKind.min, IntKind.max, IntKind.signed, IntKind.bits]; unfold maxLen at hl; omega))
            have hlen : (Builtin.len_ #[t] o.type #[.string ⟨l.toArray⟩]).run P w = .ok (goInt l.length) w := by
              have e : (ByteArray.mk l.toArray).size = l.length := by simp [ByteArray.size]
              simp [Builtin.len_, run_underlying (kd_str (hkd.trans hk)), e]
            simp [execOp, ho, resolve, hc, invoke, builtin, ht, hy, hv, hlen]
        · rename_i e xs tg hk he
          simp only [Option.some.injEq, Prod.mk.injEq] at h
          obtain ⟨rfl, rfl⟩ := h
          rw [he] at hr
          generalize hv : a.eval y = v at hr
          cases hr with
          | sl p len cap k _ vss _ hl hcap hm hrel hrow htag =>
            subst hl
            refine quiet (v := goInt xs.length) hok ?_ (.int _ _ (by simp [Lit.wf, IntKind.min, IntKind.max, IntKind.signed, IntKind.bits]; unfold maxLen at hm; omega))
            simp [execOp, ho, resolve, hc, invoke, builtin, Builtin.len_, ht, hy, hv, run_underlying (kd_sl (hkd.trans hk)), goInt]
        · rename_i e id off len k hk he
          simp only [Option.some.injEq, Prod.mk.injEq] at h
          obtain ⟨rfl, rfl⟩ := h
          rw [he] at hr
          generalize hv : a.eval y = v at hr
          cases hr with
          | osl _ _ off' _ cap _ b hb ho' hcap hm =>
            refine quiet (v := goInt len) hok ?_ (.int _ _ (by simp [Lit.wf, IntKind.min, IntKind.max, IntKind.signed, IntKind.bits]; unfold maxLen at hm; omega))
            simp [execOp, ho, resolve, hc, invoke, builtin, Builtin.len_, ht, hy, hv, run_underlying (kd_sl (hkd.trans hk)), goInt]
        · cases h
    · cases h
  · rename_i hc
    split at h
    · rename_i t t' s y ht hy
      have ht : c.argTypes = #[t, t'] := Array.ext' ht
      have hy : c.args = #[s, y] := Array.ext' hy
      split at h
      · rename_i htt
        subst htt
        split at h
        · rename_i ys tg he
          have hr := ev_rel hfr y
          rw [he] at hr
          obtain ⟨z, w', hz, hp⟩ := append_run (ty := o.type) hT hok h (ev_rel hfr s) hr
          refine RunsTo.value (v := z) (w' := w') ?_ hp
          simp [execOp, ho, resolve, hc, invoke, builtin, ht, hy, hz]
        · cases h
      · cases hK : tb t' with
        | none => simp [hK] at h
        | some K =>
          have hkd := tk_kd hT hK
          simp only [hK] at h
          split at h
          · rename_i l hk he
            have hr := ev_rel hfr y
            rw [he] at hr
            generalize hv : a.eval y = v at hr
            cases hr with
            | str _ hl =>
              obtain ⟨z, w', hz, hp⟩ := append_str_run (ty := o.type) hT hok (kd_str (hkd.trans hk)) h (ev_rel hfr s)
              refine RunsTo.value (v := z) (w' := w') ?_ hp
              simp [execOp, ho, resolve, hc, invoke, builtin, ht, hy, hv, hz]
          · cases h
    · cases h
  · rename_i hc
    split at h
    · rename_i t y ht hy
      have ht : c.argTypes = #[t] := Array.ext' ht
      have hy : c.args = #[y] := Array.ext' hy
      obtain ⟨w', hz, hp⟩ := clear_run (ty := o.type) hT hok h (ev_rel hfr y)
      refine RunsTo.value (v := .tuple #[]) (w' := w') ?_ hp
      simp [execOp, ho, resolve, hc, invoke, builtin, ht, hy, hz]
    · cases h
  · rename_i hc
    split at h
    · rename_i x1 y1 hargs
      have hargs : c.args = #[x1, y1] := Array.ext' hargs
      split at h
      · rename_i k a1 k' b1 hx1 hy1
        split at h
        · rename_i hk
          subst hk
          simp only [Option.some.injEq, Prod.mk.injEq] at h
          obtain ⟨rfl, rfl⟩ := h
          have h1 := ev_rel hfr x1
          have h2 := ev_rel hfr y1
          rw [hx1] at h1
          rw [hy1] at h2
          generalize hv1 : a.eval x1 = v1 at h1
          generalize hv2 : a.eval y1 = v2 at h2
          cases h1 with
          | int _ _ w1 =>
            cases h2 with
            | int _ _ w2 =>
              refine quiet (v := .int k (imin a1 b1)) hok ?_ (.int _ _ (by unfold imin; split; exact w2; exact w1))
              simp [execOp, ho, resolve, hc, hargs, hv1, hv2, invoke, builtin, Builtin.min_, Builtin.min2, imin]
        · cases h
      · cases h
    · cases h
  · cases h
  · cases h
  · rename_i f hc
    split at h
    · rename_i g caps hf
      split at h
      · rename_i F hF
        obtain ⟨r, hr, he⟩ := opt_map h
        simp only [Prod.mk.injEq] at he
        obtain ⟨rfl, rfl⟩ := he
        exact call_runs hΓ hok hfr ho hc hf hF hr
      · rename_i D hD
        split at h
        · rename_i g'
          simp only [ev, PV.fn.injEq] at hf
          obtain ⟨rfl, rfl⟩ := hf
          exact call_store_runs hΓ hok hfr ho hc hD h
        · cases h
      · cases h
      · cases h
    · cases h

theorem pop_sound (hT : TabOk P tb) (hΓ : GamOk P gl Γ) (hok : Ok gl H σ w) {o : Oper} {a : Act} {fr : List PV} (hfr : RelL H w fr a.tmps.toList) {x : PV} {σ' : Store}
    (h : pop tb Γ fr σ o = some (x, σ')) : RunsTo P o a w (Post gl H w x σ') := by
  unfold pop at h
  split at h
  · rename_i y ho
    simp only [Option.some.injEq, Prod.mk.injEq] at h
    obtain ⟨rfl, rfl⟩ := h
    exact quiet (v := a.eval y) hok (by simp [execOp, ho]) (ev_rel hfr y)
  · rename_i y ho
    simp only [Option.some.injEq, Prod.mk.injEq] at h
    obtain ⟨rfl, rfl⟩ := h
    exact quiet (v := a.eval y) hok (by simp [execOp, ho]) (ev_rel hfr y)
  · rename_i c y z ho
    split at h
    · rename_i t ht
      simp only [Option.some.injEq, Prod.mk.injEq] at h
      obtain ⟨rfl, rfl⟩ := h
      have hr := ev_rel hfr c
      rw [ht] at hr
      generalize hv : a.eval c = v at hr
      cases hr
      cases t
      · exact quiet (v := a.eval z) hok (by simp [execOp, ho, hv, asBool]) (ev_rel hfr z)
      · exact quiet (v := a.eval y) hok (by simp [execOp, ho, hv, asBool]) (ev_rel hfr y)
    · cases h
  · rename_i t ho
    cases hK : tb t with
    | none => simp [hK] at h
    | some K =>
      simp only [hK, Option.some.injEq, Prod.mk.injEq] at h
      obtain ⟨rfl, rfl⟩ := h
      obtain ⟨z, hz, hrz⟩ := run_zero_tk (hT _ _ hK)
      have hrel : RelL H w K.zero z.cells.toList := by rw [hz]; exact ofCells_rel _
      obtain ⟨hev, hok', hnew⟩ := new_obj hok hrel t
      refine RunsTo.value (v := .pointer (some ⟨w.heap.size, 0, none⟩)) (w' := w.alloc (.cells z.cells.toList.toArray t)) ?_ ⟨_, hev, hok', .ptr _ _ _ hnew⟩
      simp [execOp, ho, Instr.alloc, hrz, newVar, newRow]
  · rename_i t y ho
    split at h
    · rename_i cs hcs
      simp only [Option.some.injEq, Prod.mk.injEq] at h
      obtain ⟨rfl, rfl⟩ := h
      have hrel := pcells_rel (ev_rel hfr y) hcs
      obtain ⟨hev, hok', hnew⟩ := new_obj hok hrel t
      refine RunsTo.value (v := .pointer (some ⟨w.heap.size, 0, none⟩)) (w' := w.alloc (.cells (a.eval y).cells.toList.toArray t)) ?_ ⟨_, hev, hok', .ptr _ _ _ hnew⟩
      simp [execOp, ho, Instr.box, newVar, newRow]
    · cases h
  · rename_i t parts ho
    obtain ⟨r, hr, he⟩ := opt_map h
    simp only [Prod.mk.injEq] at he
    obtain ⟨rfl, rfl⟩ := he
    obtain ⟨u, hu, hru⟩ := pbuild_run hT hfr hr w
    refine quiet (v := u) hok ?_ hru
    have e : (parts.map fun (i, x) => (i, a.eval x)) = (parts.toList.map fun p => (p.1, a.eval p.2)).toArray := by
      apply Array.ext'
      simp
    simp only [execOp, ho, e, Sem.run_bind, hu, Result.andThen_ok, Sem.run_pure]
  · rename_i t len parts ho
    obtain ⟨r, hr, he⟩ := opt_map h
    simp only [Prod.mk.injEq] at he
    obtain ⟨rfl, rfl⟩ := he
    obtain ⟨u, w', hu, hb, hru⟩ := pbuildSlice_run hT hok hfr hr
    refine RunsTo.value (v := u) (w' := w') ?_ (Post.below hok hb.1 (.of_eq hb.2) hru)
    have e : (parts.map fun (i, x) => (i, a.eval x)) = (parts.toList.map fun p => (p.1, a.eval p.2)).toArray := by
      apply Array.ext'
      simp
    simp only [execOp, ho, e, Sem.run_bind, hu, Result.andThen_ok, Sem.run_pure]
  · rename_i t l c ho
    obtain ⟨r, hr, he⟩ := opt_map h
    simp only [Prod.mk.injEq] at he
    obtain ⟨rfl, rfl⟩ := he
    obtain ⟨u, w', hu, hb, hru⟩ := pmakeSlice_run hT hok (ev_rel hfr l) (ev_rel hfr c) hr
    exact RunsTo.value (v := u) (w' := w') (by simp only [execOp, ho, Sem.run_bind, hu, Result.andThen_ok, Sem.run_pure]) (Post.below hok hb.1 (.of_eq hb.2) hru)
  · rename_i t y ho
    cases hK : tb t with
    | none => simp [hK] at h
    | some K =>
      simp only [hK] at h
      have key : ((∃ id off cs, ev fr y = .ptr id off ∧ σ.objs[id]? = some cs ∧ pload K cs off = some x) ∨ (∃ cs, ev fr y = .ref cs ∧ pload K cs 0 = some x)) ∧ σ' = σ := by
        split at h
        · rename_i id off he
          split at h
          · rename_i cs hcs
            obtain ⟨r, hr, he'⟩ := opt_map h
            simp only [Prod.mk.injEq] at he'
            obtain ⟨rfl, rfl⟩ := he'
            exact ⟨.inl ⟨id, off, cs, he, hcs, hr⟩, rfl⟩
          · cases h
        · rename_i cs he
          obtain ⟨r, hr, he'⟩ := opt_map h
          simp only [Prod.mk.injEq] at he'
          obtain ⟨rfl, rfl⟩ := he'
          exact ⟨.inr ⟨cs, he, hr⟩, rfl⟩
        · cases h
      obtain ⟨key, rfl⟩ := key
      obtain ⟨u, hu, hru⟩ := load_run hT hok hK (ev_rel hfr y) key
      exact quiet (v := u) hok (by simp only [execOp, ho, Sem.run_bind, hu, Result.andThen_ok, Sem.run_pure]) hru
  · rename_i t y z ho
    cases hK : tb t with
    | none => simp [hK] at h
    | some K =>
      simp only [hK] at h
      split at h
      · rename_i id off vs hy hz
        split at h
        · rename_i cs hcs
          split at h
          · rename_i hcond
            obtain ⟨hl, hle, h1⟩ := hcond
            simp only [Option.some.injEq, Prod.mk.injEq] at h
            obtain ⟨rfl, rfl⟩ := h
            have hra := ev_rel hfr y
            rw [hy] at hra
            obtain ⟨w', hw, hev, hok'⟩ := store_run hT hok hK hra (ev_rel hfr z) hz hcs hl hle h1
            refine RunsTo.skip (w' := w') ?_ ⟨_, hev, hok', .top _⟩
            simp only [execOp, ho, Sem.run_bind, hw, Result.andThen_ok, Sem.run_pure]
          · cases h
        · cases h
      · cases h
  · rename_i y ho
    have hr := ev_rel hfr y
    split at h
    · rename_i id off he
      simp only [Option.some.injEq, Prod.mk.injEq] at h
      obtain ⟨rfl, rfl⟩ := h
      rw [he] at hr
      refine quiet (v := a.eval y) hok ?_ hr
      generalize hv : a.eval y = v at hr
      cases hr
      simp [execOp, ho, hv]
    · rename_i cs he
      simp only [Option.some.injEq, Prod.mk.injEq] at h
      obtain ⟨rfl, rfl⟩ := h
      rw [he] at hr
      refine quiet (v := a.eval y) hok ?_ hr
      generalize hv : a.eval y = v at hr
      cases hr
      simp [execOp, ho, hv]
    · rename_i f caps he
      simp only [Option.some.injEq, Prod.mk.injEq] at h
      obtain ⟨rfl, rfl⟩ := h
      rw [he] at hr
      refine quiet (v := a.eval y) hok ?_ hr
      generalize hv : a.eval y = v at hr
      cases hr
      simp [execOp, ho, hv]
    · cases h
  · rename_i op t y z g ho
    obtain ⟨r, hr, he⟩ := opt_map h
    simp only [Prod.mk.injEq] at he
    obtain ⟨rfl, rfl⟩ := he
    obtain ⟨u, hu, hru⟩ := pbin_run hT (fun c hc => by rw [hc]; rfl) hr (ev_rel hfr y) (ev_rel hfr z)
    refine quiet (v := u) hok ?_ hru
    simp only [execOp, ho]
    rw [Sem.run_bind, hu]
    rfl
  · rename_i op t y ho
    obtain ⟨r, hr, he⟩ := opt_map h
    simp only [Prod.mk.injEq] at he
    obtain ⟨rfl, rfl⟩ := he
    obtain ⟨u, hu, hru⟩ := pun_run hr (ev_rel hfr y) (P := P) w
    exact quiet (v := u) hok (by simp only [execOp, ho, Sem.run_bind, hu, Result.andThen_ok, Sem.run_pure]) hru
  · rename_i s d y ho
    obtain ⟨r, hr, he⟩ := opt_map h
    simp only [Prod.mk.injEq] at he
    obtain ⟨rfl, rfl⟩ := he
    obtain ⟨u, w', hu, hb, hru⟩ := pconv_run hT hok hr (ev_rel hfr y)
    exact RunsTo.value (v := u) (w' := w') (by simp only [execOp, ho, Sem.run_bind, hu, Result.andThen_ok, Sem.run_pure]) (Post.below hok hb.1 (fun _ => hb.2) hru)
  · rename_i t y ho
    cases hK : tb t with
    | none => simp [hK] at h
    | some K =>
      have hkd := tk_kd hT hK
      simp only [hK] at h
      split at h
      · cases h
      · cases h
      · rename_i hk1 hk2
        simp only [Option.some.injEq, Prod.mk.injEq] at h
        obtain ⟨rfl, rfl⟩ := h
        refine quiet (v := .iface t (a.eval y)) hok ?_ (.iface _ _ _ (ev_rel hfr y))
        have hu : ∃ d, P.underlying t = some d ∧ ∀ ms, d ≠ .interface ms := by
          unfold kdOf at hkd
          cases hd : P.underlying t with
          | none => simp [hd] at hkd; exact absurd hkd.symm hk2
          | some d =>
            refine ⟨d, rfl, fun ms e => ?_⟩
            subst e
            simp [hd] at hkd
            exact hk1 hkd.symm
        obtain ⟨d, hd, hne⟩ := hu
        have : (Instr.makeInterface t (a.eval y)).run P w = .ok (.iface t (a.eval y)) w := by
          cases d <;> first | exact absurd rfl (hne _) | simp [Instr.makeInterface, run_underlying hd]
        simp only [execOp, ho, Sem.run_bind, this, Result.andThen_ok, Sem.run_pure]
  · rename_i f first caps ho
    split at h
    · rename_i hf
      have hf : first = #[] := Array.ext' hf
      subst hf
      simp only [Option.some.injEq, Prod.mk.injEq] at h
      obtain ⟨rfl, rfl⟩ := h
      refine quiet (v := .func (.func f) #[] (caps.toList.map a.eval).toArray) hok ?_ (.fn _ _ _ (evs_rel hfr _))
      have e : caps.map a.eval = (caps.toList.map a.eval).toArray := by
        apply Array.ext'
        simp
      simp [execOp, ho, Instr.makeFunc, e]
    · cases h
  · rename_i t y lo hi mx ho
    obtain ⟨r, hr, he⟩ := opt_map h
    simp only [Prod.mk.injEq] at he
    obtain ⟨rfl, rfl⟩ := he
    have hO : ∀ (z : Option Operand), RelO H w (z.map (ev fr)) (z.map a.eval) := fun z => by
      cases z with
      | none => exact trivial
      | some z => exact ev_rel hfr z
    obtain ⟨u, hu, hru⟩ := pslice_run hT hr (ev_rel hfr y) (hO lo) (hO hi) (hO mx) w
    exact quiet (v := u) hok (by simp only [execOp, ho, Sem.run_bind, hu, Result.andThen_ok, Sem.run_pure]) hru
  · rename_i t y f ho
    obtain ⟨r, hr, he⟩ := opt_map h
    simp only [Prod.mk.injEq] at he
    obtain ⟨rfl, rfl⟩ := he
    obtain ⟨u, hu, hru⟩ := pfieldAt_run hT hr (ev_rel hfr y) w
    exact quiet (v := u) hok (by simp only [execOp, ho, Sem.run_bind, hu, Result.andThen_ok, Sem.run_pure]) hru
  · rename_i t y f ho
    obtain ⟨r, hr, he⟩ := opt_map h
    simp only [Prod.mk.injEq] at he
    obtain ⟨rfl, rfl⟩ := he
    obtain ⟨u, hu, hru⟩ := pfield_run hT hr (ev_rel hfr y) w
    exact quiet (v := u) hok (by simp only [execOp, ho, Sem.run_bind, hu, Result.andThen_ok, Sem.run_pure]) hru
  · rename_i t y i ho
    obtain ⟨r, hr, he⟩ := opt_map h
    simp only [Prod.mk.injEq] at he
    obtain ⟨rfl, rfl⟩ := he
    obtain ⟨u, hu, hru⟩ := pindexAt_run hT hr (ev_rel hfr y) (ev_rel hfr i) w
    exact quiet (v := u) hok (by simp only [execOp, ho, Sem.run_bind, hu, Result.andThen_ok, Sem.run_pure]) hru
  · rename_i t y i ho
    obtain ⟨r, hr, he⟩ := opt_map h
    simp only [Prod.mk.injEq] at he
    obtain ⟨rfl, rfl⟩ := he
    obtain ⟨u, hu, hru⟩ := pindex_run hT hr (ev_rel hfr y) (ev_rel hfr i) w
    exact quiet (v := u) hok (by simp only [execOp, ho, Sem.run_bind, hu, Result.andThen_ok, Sem.run_pure]) hru
  · rename_i y i ho
    have hr := ev_rel hfr y
    split at h
    · rename_i vs he
      obtain ⟨r, hr', he'⟩ := opt_map h
      simp only [Prod.mk.injEq] at he'
      obtain ⟨rfl, rfl⟩ := he'
      rw [he] at hr
      generalize hv : a.eval y = v at hr
      cases hr with
      | tup _ us hrs =>
        obtain ⟨u, hu, hru⟩ := hrs.get hr'
        refine quiet (v := u) hok ?_ hru
        simp [execOp, ho, hv, Instr.extract, hu]
    · cases h
  · rename_i c ho
    exact callOp_sound hT hΓ hok hfr ho h
  · cases h
end
end Go.Pv
