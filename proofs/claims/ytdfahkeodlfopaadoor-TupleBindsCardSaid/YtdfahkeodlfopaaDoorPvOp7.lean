/- What passes a call; what a function computes; any operation. -/
import Derived.Test.YtdfahkeodlfopaaDoorPvOp6
set_option linter.unusedSimpArgs false
set_option linter.unusedVariables false
namespace Go.Pv
open Go.RowKit

/-! ### what passes a call -/
section
variable {H H' : Gh} {w w' : World}
mutual
theorem lock_rel (hp : ∀ b off, H.prot w b off → H'.prot w' b off ∧ ∀ s, w'.cell? ⟨b, off, s⟩ = w.cell? ⟨b, off, s⟩) (hp2 : ∀ b off, H.prot2 w b off → H'.prot2 w' b off ∧ ∀ s, w'.cell? ⟨b, off, s⟩ = w.cell? ⟨b, off, s⟩) :
    ∀ {x : PV} {v : Value}, Rel H w x v → Rel H' w' (lock x) v
  | _, _, .top v => by simp only [lock]; exact .top v
  | _, _, .bool b => by simp only [lock]; exact .bool b
  | _, _, .int k n h => by simp only [lock]; exact .int k n h
  | _, _, .str l h => by simp only [lock]; exact .str l h
  | _, _, .nilp => by simp only [lock]; exact .nilp
  | _, _, .ptr id off b h => by simp only [lock]; exact .top _
  | _, _, .ref a cs vs h hc => by
    simp only [lock]
    exact .ref a _ vs (lockL_rel hp hp2 h) (fun j v e => ⟨(hp2 _ _ (hc j v e).1).1, by rw [← (hc j v e).2]; exact (hp2 _ _ (hc j v e).1).2 _⟩)
  | _, _, .osl .. => by simp only [lock]; exact .top _
  | _, _, .sl p len cap k xs vss t hl hcap hm h hr ht => by
    simp only [lock]
    exact .sl p len cap k _ vss .non (by rw [← hl]; exact lockLL_len xs) hcap hm (lockLL_rel hp hp2 h) (fun i vs e => ⟨(hr i vs e).1, by
      obtain ⟨_, a, ha, hc⟩ := hr i vs e
      exact ⟨a, ha, fun j v e => ⟨(hp _ _ (hc j v e).1).1, by rw [← (hc j v e).2]; exact (hp _ _ (hc j v e).1).2 _⟩⟩⟩) trivial
  | _, _, .fn f caps vs h => by simp only [lock]; exact .fn f _ vs (lockL_rel hp hp2 h)
  | _, _, .nilf => by simp only [lock]; exact .nilf
  | _, _, .iface t x v h => by simp only [lock]; exact .iface t _ v (lock_rel hp hp2 h)
  | _, _, .nili => by simp only [lock]; exact .nili
  | _, _, .agg cs vs h => by simp only [lock]; exact .agg _ vs (lockL_rel hp hp2 h)
  | _, _, .tup cs vs h => by simp only [lock]; exact .tup _ vs (lockL_rel hp hp2 h)
theorem lockL_rel (hp : ∀ b off, H.prot w b off → H'.prot w' b off ∧ ∀ s, w'.cell? ⟨b, off, s⟩ = w.cell? ⟨b, off, s⟩) (hp2 : ∀ b off, H.prot2 w b off → H'.prot2 w' b off ∧ ∀ s, w'.cell? ⟨b, off, s⟩ = w.cell? ⟨b, off, s⟩) :
    ∀ {x : List PV} {v : List Value}, RelL H w x v → RelL H' w' (lockL x) v
  | _, _, .nil => by simp only [lockL]; exact .nil
  | _, _, .cons x v xs vs h ht => by simp only [lockL]; exact .cons _ v _ vs (lock_rel hp hp2 h) (lockL_rel hp hp2 ht)
theorem lockLL_rel (hp : ∀ b off, H.prot w b off → H'.prot w' b off ∧ ∀ s, w'.cell? ⟨b, off, s⟩ = w.cell? ⟨b, off, s⟩) (hp2 : ∀ b off, H.prot2 w b off → H'.prot2 w' b off ∧ ∀ s, w'.cell? ⟨b, off, s⟩ = w.cell? ⟨b, off, s⟩) :
    ∀ {x : List (List PV)} {v : List (List Value)}, RelLL H w x v → RelLL H' w' (lockLL x) v
  | _, _, .nil => by simp only [lockLL]; exact .nil
  | _, _, .cons x v xs vs h ht => by simp only [lockLL]; exact .cons _ v _ vs (lockL_rel hp hp2 h) (lockLL_rel hp hp2 ht)
theorem lockLL_len : ∀ (xs : List (List PV)), (lockLL xs).length = xs.length
  | [] => rfl
  | x :: xs => by simp only [lockLL, List.length_cons, lockLL_len xs]
end

theorem shutLL_len : ∀ (xs : List (List PV)), (shutLL xs).length = xs.length
  | [] => rfl
  | x :: xs => by simp only [shutLL, List.length_cons, shutLL_len xs]

mutual
theorem shut_rel (hp : ∀ b off, H.prot w b off → H'.prot w' b off ∧ ∀ s, w'.cell? ⟨b, off, s⟩ = w.cell? ⟨b, off, s⟩) : ∀ {x : PV} {v : Value}, Rel H w x v → Rel H' w' (shut x) v
  | _, _, .top v => by simp only [shut]; exact .top v
  | _, _, .bool b => by simp only [shut]; exact .bool b
  | _, _, .int k n h => by simp only [shut]; exact .int k n h
  | _, _, .str l h => by simp only [shut]; exact .str l h
  | _, _, .nilp => by simp only [shut]; exact .nilp
  | _, _, .ptr id off b h => by simp only [shut]; exact .top _
  | _, _, .ref a cs vs h hc => by simp only [shut]; exact .top _
  | _, _, .osl .. => by simp only [shut]; exact .top _
  | _, _, .sl p len cap k xs vss t hl hcap hm h hr ht => by
    simp only [shut]
    exact .sl p len cap k _ vss .non (by rw [← hl]; exact shutLL_len xs) hcap hm (shutLL_rel hp h) (fun i vs e => ⟨(hr i vs e).1, by
      obtain ⟨_, a, ha, hc⟩ := hr i vs e
      exact ⟨a, ha, fun j v e => ⟨(hp _ _ (hc j v e).1).1, by rw [← (hc j v e).2]; exact (hp _ _ (hc j v e).1).2 _⟩⟩⟩) trivial
  | _, _, .fn f caps vs h => by simp only [shut]; exact .fn f _ vs (shutL_rel hp h)
  | _, _, .nilf => by simp only [shut]; exact .nilf
  | _, _, .iface t x v h => by simp only [shut]; exact .iface t _ v (shut_rel hp h)
  | _, _, .nili => by simp only [shut]; exact .nili
  | _, _, .agg cs vs h => by simp only [shut]; exact .agg _ vs (shutL_rel hp h)
  | _, _, .tup cs vs h => by simp only [shut]; exact .tup _ vs (shutL_rel hp h)
theorem shutL_rel (hp : ∀ b off, H.prot w b off → H'.prot w' b off ∧ ∀ s, w'.cell? ⟨b, off, s⟩ = w.cell? ⟨b, off, s⟩) : ∀ {x : List PV} {v : List Value}, RelL H w x v → RelL H' w' (shutL x) v
  | _, _, .nil => by simp only [shutL]; exact .nil
  | _, _, .cons x v xs vs h ht => by simp only [shutL]; exact .cons _ v _ vs (shut_rel hp h) (shutL_rel hp ht)
theorem shutLL_rel (hp : ∀ b off, H.prot w b off → H'.prot w' b off ∧ ∀ s, w'.cell? ⟨b, off, s⟩ = w.cell? ⟨b, off, s⟩) : ∀ {x : List (List PV)} {v : List (List Value)}, RelLL H w x v → RelLL H' w' (shutLL x) v
  | _, _, .nil => by simp only [shutLL]; exact .nil
  | _, _, .cons x v xs vs h ht => by simp only [shutLL]; exact .cons _ v _ vs (shutL_rel hp h) (shutLL_rel hp ht)
end
end

/-- The ghost with which a callee begins: what stays for its caller stays for it; the caller's objects stay while it lasts. -/
def sub (H : Gh) (w : World) : Gh where
  B := w.heap.size
  base := H.prot w
  aux := fun b off => H.prot2 w b off ∨ b ∈ H.ob
  ob := []
  tk := []

section
variable {gl : Nat → Option Obj} {H : Gh} {σ : Store} {w : World}

theorem sub_prot {b off : Nat} (h : H.prot w b off) : (sub H w).prot w b off := ⟨h.1, fun _ => h, by simp [sub], by simp [sub]⟩
theorem sub_prot2 (hok : Ok gl H σ w) {b off : Nat} (h : H.prot2 w b off) : (sub H w).prot2 w b off := by
  refine .inr ⟨?_, .inl h⟩
  rcases h with h | h
  · exact h.1
  · exact Nat.lt_of_lt_of_le h.1 hok.B

theorem view1_rel (hok : Ok gl H σ w) {x : PV} {v : Value} (h : Rel H w x v) : Rel (sub H w) w (view1 σ.objs x) v := by
  have plain : ∀ {x : PV} {v : Value}, Rel H w x v → Rel (sub H w) w (lock x) v := fun h => lock_rel (fun b off hp => ⟨sub_prot hp, fun _ => rfl⟩) (fun b off hp => ⟨sub_prot2 hok hp, fun _ => rfl⟩) h
  cases h
  case ptr id off b hb =>
    have hl : id < σ.objs.length := by rw [← hok.len]; exact (List.getElem?_eq_some_iff.1 hb).1
    simp only [view1, List.getElem?_eq_getElem hl]
    obtain ⟨hB, vs, ext, T, he, hr⟩ := hok.obj id b _ hb (List.getElem?_eq_getElem hl)
    refine .ref _ _ (vs.drop off) (lockL_rel (fun b off hp => ⟨sub_prot hp, fun _ => rfl⟩) (fun b off hp => ⟨sub_prot2 hok hp, fun _ => rfl⟩) (hr.drop off)) (fun j u hj => ?_)
    rw [add_plain]
    refine ⟨.inr ⟨lt_of_heap he, .inr (List.mem_of_getElem? hb)⟩, ?_⟩
    rw [cell_of_row w b (off + j) (vs ++ ext).toArray T (0, 0) he]
    rw [List.getElem?_drop] at hj
    simpa using get_app hj
  all_goals
    simp only [view1]
    exact plain (by first
      | exact .top _
      | exact .bool _
      | exact .int _ _ ‹_›
      | exact .str _ ‹_›
      | exact .nilp
      | exact .ref _ _ _ ‹_› ‹_›
      | exact .sl _ _ _ _ _ _ _ ‹_› ‹_› ‹_› ‹_› ‹_› ‹_›
      | exact .osl _ _ _ _ _ _ _ ‹_› ‹_› ‹_› ‹_›
      | exact .fn _ _ _ ‹_›
      | exact .nilf
      | exact .iface _ _ _ ‹_›
      | exact .nili
      | exact .agg _ _ ‹_›
      | exact .tup _ _ ‹_›)

theorem view1s_rel (hok : Ok gl H σ w) : ∀ {xs : List PV} {vs : List Value}, RelL H w xs vs → RelL (sub H w) w (xs.map (view1 σ.objs)) vs := by
  intro xs
  induction xs with
  | nil => intro vs h; cases h; exact .nil
  | cons x xs ih =>
    intro vs h
    cases h with
    | cons _ v _ vs h ht => exact .cons _ _ _ _ (view1_rel hok h) (ih ht)

theorem view_rel (hok : Ok gl H σ w) {x : PV} {v : Value} (h : Rel H w x v) : Rel (sub H w) w (view σ.objs x) v := by
  unfold view
  split
  · rename_i f caps
    cases h with
    | fn _ _ vs h => exact .fn f _ vs (view1s_rel hok h)
  · exact view1_rel hok h

theorem views_rel (hok : Ok gl H σ w) : ∀ {xs : List PV} {vs : List Value}, RelL H w xs vs → RelL (sub H w) w (xs.map (view σ.objs)) vs := by
  intro xs
  induction xs with
  | nil => intro vs h; cases h; exact .nil
  | cons x xs ih =>
    intro vs h
    cases h with
    | cons _ v _ vs h ht => exact .cons _ _ _ _ (view_rel hok h) (ih ht)
end

/-- What a call of function f computes: F. -/
structure SimP (P : Program) (gl : Nat → Option Obj) (f : FuncId) (F : List PV → Option PV) : Prop where
  ent : ∃ fn, P.funcs[f]? = some fn ∧ (fn.name == "runtime.NumGoroutine") = false ∧ fn.body.isNone = false
  run : ∀ (args : List PV) (x : PV), F args = some x → ∀ (H : Gh) (w : World) (vs : List Value), H.B = w.heap.size → H.ob = [] → H.tk = [] → (∀ b o, gl b = some o → w.heap[b]? = some o) → RelL H w args vs →
    Calls P f vs.toArray w fun e w' => ∃ v, e = .returned v ∧ (Below w.heap.size w w' ∧ Dr gl w w') ∧ Rel { H with aux := fun _ _ => False } w' x v

/-- What a call of function f computes, and what it makes of the caller's store: D. -/
structure SimS (P : Program) (gl : Nat → Option Obj) (f : FuncId) (D : List PV → Store → Option (PV × Store)) : Prop where
  ent : ∃ fn, P.funcs[f]? = some fn ∧ (fn.name == "runtime.NumGoroutine") = false ∧ fn.body.isNone = false
  run : ∀ (args : List PV) (σ : Store) (x : PV) (σ' : Store), D args σ = some (x, σ') → ∀ (H : Gh) (w : World) (vs : List Value), Ok gl H σ w → RelL H w args vs →
    Calls P f vs.toArray w fun e w' => ∃ v, e = .returned v ∧ Post gl H w x σ' v w'

def ConOk (P : Program) (gl : Nat → Option Obj) (f : FuncId) : Con → Prop
  | .pure F => SimP P gl f F
  | .store D => SimS P gl f D
  | .flag => True

/-- All functions that Γ names compute what it says. -/
def GamOk (P : Program) (gl : Nat → Option Obj) (Γ : Gam) : Prop := ∀ f c, Γ f = some c → ConOk P gl f c

section
variable {P : Program} {tb : Tab} {gl : Nat → Option Obj} {Γ : Gam} {H : Gh} {σ : Store} {w : World}

/-- What a callee hands back holds for its caller. -/
theorem back_rel (hok : Ok gl H σ w) {w' : World} (hb : Below w.heap.size w w') {x : PV} {v : Value} (h : Rel { sub H w with aux := fun _ _ => False } w' x v) : Rel H w' x v := by
  have hp : ∀ b off, ({ sub H w with aux := fun _ _ => False } : Gh).prot w' b off → H.prot w' b off := by
    intro b off hp
    refine ⟨hp.1, fun hB => ?_, fun hm => ?_, fun T hT e => ?_⟩
    · have hlt : b < w.heap.size := Nat.lt_of_lt_of_le hB hok.B
      exact (hp.2.1 hlt).2.1 hB
    · exact (hp.2.1 (hok.ob_at hm).2).2.2.1 hm
    · have hlt : b < w.heap.size := e ▸ (hok.tk_at hT).2
      exact (hp.2.1 hlt).2.2.2 T hT e
  refine Rel.mono (H := { sub H w with aux := fun _ _ => False }) ⟨fun id b e => by simp [sub] at e, fun t T e => by simp [sub] at e, fun b off e => ⟨hp b off e, fun _ => rfl⟩, fun b off e => ?_⟩ h
  rcases e with e | ⟨_, e⟩
  · exact ⟨.inl (hp b off e), fun _ => rfl⟩
  · exact e.elim

theorem evs_rel {fr : List PV} {a : Act} (hfr : RelL H w fr a.tmps.toList) : ∀ (l : List Operand), RelL H w (l.map (ev fr)) (l.map a.eval)
  | [] => .nil
  | x :: l => .cons _ _ _ _ (ev_rel hfr x) (evs_rel hfr l)

theorem RelL.vals {xs : List PV} {vs : List Value} (h : RelL H w xs vs) : RelL H w xs vs := h

/-- A call of a Go function. -/
theorem call_runs (hΓ : GamOk P gl Γ) (hok : Ok gl H σ w) {o : Oper} {a : Act} {fr : List PV} (hfr : RelL H w fr a.tmps.toList) {c : Call} (ho : o.op = .call c) {f : Operand} (hc : c.callee = .value f)
    {g : FuncId} {caps : List PV} (hf : ev fr f = .fn g caps) {F : List PV → Option PV} (hF : Γ g = some (.pure F)) {x : PV} (hx : F ((c.args.toList.map (ev fr) ++ caps).map (view σ.objs)) = some x) :
    RunsTo P o a w (Post gl H w x σ) := by
  have hS : SimP P gl g F := hΓ g _ hF
  obtain ⟨fn, hfn, hname, hbody⟩ := hS.ent
  have hrf := ev_rel hfr f
  rw [hf] at hrf
  generalize hv : a.eval f = v at hrf
  cases hrf with
  | fn _ _ cvs hcaps =>
    have hargs : RelL H w (c.args.toList.map (ev fr) ++ caps) (c.args.toList.map a.eval ++ cvs) := (evs_rel hfr _).app hcaps
    have hrun : (execOp a.eval o).run P w = .ok (.enter g (c.args.toList.map a.eval ++ cvs).toArray) w := by
      unfold execOp
      have e1 : (#[] ++ c.args.map a.eval) ++ cvs.toArray = (c.args.toList.map a.eval ++ cvs).toArray := by
        apply Array.ext'
        simp
      simp only [ho, resolve, hc, hv, Deferred.ofValue, Sem.run_bind, Sem.run_pure, Result.andThen_ok, invoke, callFunc, run_program, hfn, hname, hbody, Bool.false_eq_true, if_false, e1]
    refine RunsTo.enter hrun ?_
    refine (hS.run _ x hx (sub H w) w _ rfl rfl rfl (fun b o e => (hok.gl b o e).2) (views_rel hok hargs)).mono ?_
    rintro e w' ⟨v, he, hb, hr⟩
    exact ⟨v, he, Post.below hok hb.1 hb.2 (back_rel hok hb.1 hr)⟩

/-- A call of a Go function that writes through pointers. -/
theorem call_store_runs (hΓ : GamOk P gl Γ) (hok : Ok gl H σ w) {o : Oper} {a : Act} {fr : List PV} (hfr : RelL H w fr a.tmps.toList) {c : Call} (ho : o.op = .call c) {g : FuncId} (hc : c.callee = .value (.func g))
    {D : List PV → Store → Option (PV × Store)} (hD : Γ g = some (.store D)) {x : PV} {σ' : Store} (hx : D (c.args.toList.map (ev fr)) σ = some (x, σ')) :
    RunsTo P o a w (Post gl H w x σ') := by
  have hS : SimS P gl g D := hΓ g _ hD
  obtain ⟨fn, hfn, hname, hbody⟩ := hS.ent
  have hrun : (execOp a.eval o).run P w = .ok (.enter g (c.args.toList.map a.eval).toArray) w := by
    unfold execOp
    have e1 : c.args.map a.eval = (c.args.toList.map a.eval).toArray := by
      apply Array.ext'
      simp
    simp only [ho, resolve, hc, Act.eval, Deferred.ofValue, Sem.run_bind, Sem.run_pure, Result.andThen_ok, invoke, callFunc, run_program, hfn, hname, hbody, Bool.false_eq_true, if_false]
    rw [e1]
    simp
  exact RunsTo.enter hrun (hS.run _ σ x σ' hx H w _ hok (evs_rel hfr _))
end
end Go.Pv
