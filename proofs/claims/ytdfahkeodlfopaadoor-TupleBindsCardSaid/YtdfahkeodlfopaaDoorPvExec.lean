/- Code and functions: what is computed is what the machine does. -/
import Derived.Test.YtdfahkeodlfopaaDoorPvAny
set_option linter.unusedSimpArgs false
set_option linter.unusedVariables false
namespace Go.Pv
open Go.RowKit

def PExit.as : PExit → Exit
  | .normal => .normal
  | .exit id => .exit id
  | .ret => .ret

section
variable {P : Program} {tb : Tab} {gl : Nat → Option Obj} {Γ : Gam} {H0 : Gh} {w0 : World}

theorem st_clean {fr : List PV} {σ : Store} {a : Act} {w : World} : ∀ (ds : List Nat) (fr : List PV), St gl H0 w0 fr σ a w → St gl H0 w0 (clean ds fr) σ a w
  | [], fr, h => h
  | d :: ds, fr, h => by
    refine st_clean (fr := fr) ds _ ?_
    obtain ⟨H, hev, hok, hfr, hd⟩ := h
    refine ⟨H, hev, hok, ?_, hd⟩
    refine relL_iff.2 ⟨by simpa using hfr.len, fun i x v hx hv => ?_⟩
    rw [List.getElem?_set] at hx
    split at hx
    · split at hx
      · cases hx; exact .top _
      · cases hx
    · exact (relL_iff.1 hfr).2 i x v hx hv

/-- Code c, begun at frame and store, comes to its end so. -/
def Does (P : Program) (gl : Nat → Option Obj) (c : Code) (fr : List PV) (σ : Store) (e : PExit) (fr' : List PV) (σ' : Store) : Prop :=
  ∀ (H0 : Gh) (w0 : World) (Q : Exit → Act → World → Prop) (a : Act) (w : World), St gl H0 w0 fr σ a w → (∀ a' w', St gl H0 w0 fr' σ' a' w' → Q e.as a' w') → c.wp P Q a w

/-- A loop over c, at the head of a round. -/
def LDoes (P : Program) (gl : Nat → Option Obj) (c : Code) (fr : List PV) (σ : Store) (e : PExit) (fr' : List PV) (σ' : Store) : Prop :=
  ∀ (H0 : Gh) (w0 : World) (Q : Exit → Act → World → Prop) (a : Act) (w : World), St gl H0 w0 fr σ a w → (∀ a' w', St gl H0 w0 fr' σ' a' w' → Q e.as a' w') →
    ∀ (b : Frame) (k : List Item) (cs : List Frame), ∃ e a' w', Q e a' w' ∧ Arrives P (lone (b.at a (.code c :: .inLoop c :: k)) cs w) b k cs e a' w'

/-- The second frame tells no more than the first. -/
def Weak : List PV → List PV → Prop
  | [], [] => True
  | x :: xs, y :: ys => (y = .top ∨ y = x) ∧ Weak xs ys
  | _, _ => False

theorem Weak.refl : ∀ (xs : List PV), Weak xs xs
  | [] => trivial
  | _ :: xs => ⟨.inr rfl, Weak.refl xs⟩

theorem Weak.rel {H : Gh} {w : World} : ∀ {xs ys : List PV} {vs : List Value}, Weak xs ys → RelL H w xs vs → RelL H w ys vs
  | [], [], _, _, h => h
  | x :: xs, y :: ys, _, hw, h => by
    cases h with
    | cons _ v _ vs h ht =>
      refine .cons _ _ _ _ ?_ (Weak.rel hw.2 ht)
      rcases hw.1 with rfl | rfl
      · exact .top v
      · exact h
  | [], _ :: _, _, hw, _ => hw.elim
  | _ :: _, [], _, hw, _ => hw.elim

theorem st_weak {H0 : Gh} {w0 : World} {fr fr' : List PV} {σ : Store} {a : Act} {w : World} (hw : Weak fr fr') (h : St gl H0 w0 fr σ a w) : St gl H0 w0 fr' σ a w := by
  obtain ⟨H, hev, hok, hfr, hd⟩ := h
  exact ⟨H, hev, hok, hw.rel hfr, hd⟩

theorem LDoes.into {c : Code} {fr fr1 : List PV} {σ : Store} {e : PExit} {fr' : List PV} {σ' : Store} (hw : Weak fr fr1) (h : LDoes P gl c fr1 σ e fr' σ') : LDoes P gl c fr σ e fr' σ' :=
  fun H0 w0 Q a w hst hq => h H0 w0 Q a w (st_weak hw hst) hq

theorem LDoes.outof {c : Code} {fr : List PV} {σ : Store} {e : PExit} {fr1 fr' : List PV} {σ' : Store} (h : LDoes P gl c fr σ e fr1 σ') (hw : Weak fr1 fr') : LDoes P gl c fr σ e fr' σ' :=
  fun H0 w0 Q a w hst hq => h H0 w0 Q a w hst fun a' w' hs => hq a' w' (st_weak hw hs)

theorem LDoes.next {c : Code} {fr : List PV} {σ : Store} {fr1 : List PV} {σ1 : Store} {e : PExit} {fr' : List PV} {σ' : Store} (h : Does P gl c fr σ .normal fr1 σ1) (h' : LDoes P gl c fr1 σ1 e fr' σ') : LDoes P gl c fr σ e fr' σ' := by
  intro H0 w0 Q a w hst hq b k cs
  obtain ⟨e1, a1, w1, hq1, harr⟩ := h H0 w0 (fun e' a' w' => e' = .normal ∧ St gl H0 w0 fr1 σ1 a' w') a w hst (fun a' w' hs => ⟨rfl, hs⟩) b (.inLoop c :: k) cs
  obtain ⟨rfl, hs⟩ := hq1
  obtain ⟨e2, a2, w2, hq2, harr2⟩ := h' H0 w0 Q a1 w1 hs hq b k cs
  exact ⟨e2, a2, w2, hq2, .of_steps (Steps.trans harr (.one step_inLoop)) harr2⟩

theorem LDoes.out {c : Code} {fr : List PV} {σ : Store} {e : PExit} {fr' : List PV} {σ' : Store} (h : Does P gl c fr σ e fr' σ') (hne : e ≠ .normal) : LDoes P gl c fr σ e fr' σ' := by
  intro H0 w0 Q a w hst hq b k cs
  obtain ⟨e1, a1, w1, hq1, harr⟩ := h H0 w0 (fun e' a' w' => e' = e.as ∧ Q e' a' w') a w hst (fun a' w' hs => ⟨rfl, hq a' w' hs⟩) b (.inLoop c :: k) cs
  obtain ⟨rfl, hq1⟩ := hq1
  cases e with
  | normal => exact absurd rfl hne
  | exit id => exact ⟨_, a1, w1, hq1, .pass (x := .inLoop c) rfl (fun _ _ => .inl (by simp [PExit.as])) harr⟩
  | ret => exact ⟨_, a1, w1, hq1, .pass (x := .inLoop c) rfl (fun _ _ => .inl (by simp [PExit.as])) harr⟩

/-- All loops in a code come to what L says. -/
def LoopOk (P : Program) (gl : Nat → Option Obj) (L : Lps) : Code → Prop
  | .seq a b => LoopOk P gl L a ∧ LoopOk P gl L b
  | .cond _ a b => LoopOk P gl L a ∧ LoopOk P gl L b
  | .block _ c => LoopOk P gl L c
  | .loop c => ∀ fr σ e fr' σ', L (rid c) fr σ = some (e, fr', σ') → LDoes P gl c fr σ e fr' σ'
  | _ => True

/-- All drawn regions in a code may come up in any order. -/
def drawsOk (Γ : Gam) : Code → Bool
  | .region _ ops draw => !draw || ordered Γ ops.toList
  | .seq a b => drawsOk Γ a && drawsOk Γ b
  | .cond _ a b => drawsOk Γ a && drawsOk Γ b
  | .block _ c => drawsOk Γ c
  | .loop _ => true
  | _ => true

theorem exec_sound (hT : TabOk P tb) (hΓ : GamOk P gl Γ) (hm : P.follows .mixedOrders = true) {L : Lps} : ∀ (c : Code) (fr : List PV) (σ : Store) (e : PExit) (fr' : List PV) (σ' : Store),
    LoopOk P gl L c → drawsOk Γ c = true → pexec tb Γ L c fr σ = some (e, fr', σ') → Does P gl c fr σ e fr' σ' := by
  intro c
  induction c with
  | skip =>
    intro fr σ e fr' σ' hL hd h H0 w0 Q a w hst hq
    simp only [pexec, Option.some.injEq, Prod.mk.injEq] at h
    obtain ⟨rfl, rfl, rfl⟩ := h
    exact wp_skip (hq _ _ hst)
  | label l =>
    intro fr σ e fr' σ' hL hd h H0 w0 Q a w hst hq
    simp only [pexec, Option.some.injEq, Prod.mk.injEq] at h
    obtain ⟨rfl, rfl, rfl⟩ := h
    exact wp_label (hq _ _ hst)
  | exit id =>
    intro fr σ e fr' σ' hL hd h H0 w0 Q a w hst hq
    simp only [pexec, Option.some.injEq, Prod.mk.injEq] at h
    obtain ⟨rfl, rfl, rfl⟩ := h
    exact wp_exit (hq _ _ hst)
  | ret =>
    intro fr σ e fr' σ' hL hd h H0 w0 Q a w hst hq
    simp only [pexec, Option.some.injEq, Prod.mk.injEq] at h
    obtain ⟨rfl, rfl, rfl⟩ := h
    exact wp_ret (hq _ _ hst)
  | region id ops draw =>
    intro fr σ e fr' σ' hL hd h H0 w0 Q a w hst hq
    simp only [pexec] at h
    split at h
    · rename_i fr1 σ1 hp
      simp only [Option.some.injEq, Prod.mk.injEq] at h
      obtain ⟨rfl, rfl, rfl⟩ := h
      refine region_sound hT hΓ hm hst hp (fun hdr => ?_) (fun a' w' hst' => hq _ _ hst')
      simpa [drawsOk, hdr] using hd
    · cases h
  | seq x y ihx ihy =>
    intro fr σ e fr' σ' hL hd h H0 w0 Q a w hst hq
    simp only [drawsOk, Bool.and_eq_true] at hd
    simp only [pexec] at h
    refine wp_seq ?_
    split at h
    · rename_i fr1 σ1 hx
      exact ihx _ _ _ _ _ hL.1 hd.1 hx H0 w0 _ _ _ hst fun a1 w1 hst1 => ihy _ _ _ _ _ hL.2 hd.2 h H0 w0 _ _ _ hst1 hq
    · rename_i hne
      refine ihx _ _ _ _ _ hL.1 hd.1 h H0 w0 _ _ _ hst fun a1 w1 hst1 => ?_
      cases e with
      | normal => exact absurd h (hne _ _)
      | exit id => exact hq _ _ hst1
      | ret => exact hq _ _ hst1
  | cond c x y ihx ihy =>
    intro fr σ e fr' σ' hL hd h H0 w0 Q a w hst hq
    simp only [drawsOk, Bool.and_eq_true] at hd
    simp only [pexec] at h
    split at h
    · rename_i t ht
      have hr : a.eval c = .bool t := by
        obtain ⟨H, hev, hok, hfr, hd⟩ := hst
        have hr := ev_rel hfr c
        rw [ht] at hr
        generalize a.eval c = v at hr
        cases hr
        rfl
      refine wp_cond hr ?_
      cases t with
      | true => exact ihx _ _ _ _ _ hL.1 hd.1 h H0 w0 _ _ _ hst hq
      | false => exact ihy _ _ _ _ _ hL.2 hd.2 h H0 w0 _ _ _ hst hq
    · cases h
  | block id c ih =>
    intro fr σ e fr' σ' hL hd h H0 w0 Q a w hst hq
    simp only [pexec] at h
    refine wp_block ?_
    split at h
    · rename_i j fr1 σ1 hx
      split at h
      · rename_i hj
        subst hj
        simp only [Option.some.injEq, Prod.mk.injEq] at h
        obtain ⟨rfl, rfl, rfl⟩ := h
        refine ih _ _ _ _ _ hL hd hx H0 w0 _ _ _ hst fun a1 w1 hst1 => ?_
        simp only [PExit.as, Exit.inBlock, if_true]
        exact hq _ _ hst1
      · rename_i hj
        simp only [Option.some.injEq, Prod.mk.injEq] at h
        obtain ⟨rfl, rfl, rfl⟩ := h
        refine ih _ _ _ _ _ hL hd hx H0 w0 _ _ _ hst fun a1 w1 hst1 => ?_
        simp only [PExit.as, Exit.inBlock, hj, if_false]
        exact hq _ _ hst1
    · rename_i hne
      refine ih _ _ _ _ _ hL hd h H0 w0 _ _ _ hst fun a1 w1 hst1 => ?_
      cases e with
      | normal => exact hq _ _ hst1
      | exit j => exact absurd h (hne _ _ _)
      | ret => exact hq _ _ hst1
  | loop c ih =>
    intro fr σ e fr' σ' hL hd h H0 w0 Q a w hst hq
    simp only [pexec] at h
    intro b k cs
    obtain ⟨e1, a1, w1, hq1, harr⟩ := hL fr σ e fr' σ' h H0 w0 Q a w hst hq b k cs
    exact ⟨e1, a1, w1, hq1, .of_steps (.one step_loop) harr⟩
  | scope c ih => intro fr σ e fr' σ' hL hd h; simp [pexec] at h
  | goto l => intro fr σ e fr' σ' hL hd h; simp [pexec] at h
  | refuse s => intro fr σ e fr' σ' hL hd h; simp [pexec] at h
  | rangeFunc f ps x y ihx ihy => intro fr σ e fr' σ' hL hd h; simp [pexec] at h

def resF (tmps : Array Value) : ResultVar → Sem Value
  | .tmp t => pure (tmps.getD t undef)
  | .cell c t => do loadVar t (← asAddr (tmps.getD c undef))

theorem result_run (hT : TabOk P tb) {H : Gh} {σ : Store} {w : World} (hok : Ok gl H σ w) {fr : List PV} {a : Act} (hfr : RelL H w fr a.tmps.toList) {r : ResultVar} {x : PV} (h : presult tb fr σ r = some x) :
    ∃ v, (resF a.tmps r).run P w = .ok v w ∧ Rel H w x v := by
  have get : ∀ t, Rel H w (fr.getD t .top) (a.tmps.getD t undef) := fun t => by
    have := hfr.getD t undef
    rw [Array.getD_eq_getD_getElem?]
    rw [List.getD_eq_getElem?_getD] at this ⊢
    simpa using this
  cases r with
  | tmp t =>
    simp only [presult, Option.some.injEq] at h
    subst h
    exact ⟨_, rfl, get t⟩
  | cell c t =>
    simp only [presult] at h
    split at h
    · rename_i K id off hK hx
      split at h
      · rename_i cs hcs
        have hr := get c
        rw [hx] at hr
        generalize hv : a.tmps.getD c undef = v at hr
        cases hr with
        | ptr _ _ b hb =>
          obtain ⟨u, hu, hru⟩ := load_run hT hok hK (.ptr id off b hb) (.inl ⟨id, off, cs, rfl, hcs, h⟩)
          refine ⟨u, ?_, hru⟩
          simp only [Instr.loadAt, Instr.sureAddr, Sem.run_bind, Sem.run_pure, Result.andThen_ok] at hu
          simp only [resF, hv, asAddr, Sem.run_bind, Sem.run_pure, Result.andThen_ok]
          exact hu
      · cases h
    · cases h

theorem results_run (hT : TabOk P tb) {H : Gh} {σ : Store} {w : World} (hok : Ok gl H σ w) {fr : List PV} {a : Act} (hfr : RelL H w fr a.tmps.toList) : ∀ (rs : List ResultVar) (xs : List PV), presults tb fr σ rs = some xs →
    ∃ vs, (rs.mapM (resF a.tmps)).run P w = .ok vs w ∧ RelL H w xs vs
  | [], xs, h => by
    simp only [presults, Option.some.injEq] at h
    subst h
    exact ⟨[], by simp, .nil⟩
  | r :: rs, xs, h => by
    simp only [presults] at h
    split at h
    · rename_i x xs' h1 h2
      simp only [Option.some.injEq] at h
      subst h
      obtain ⟨v, hv, hr⟩ := result_run hT hok hfr h1
      obtain ⟨vs, hvs, hrs⟩ := results_run hT hok hfr rs xs' h2
      refine ⟨v :: vs, ?_, .cons _ _ _ _ hr hrs⟩
      rw [List.mapM_cons]
      simp only [Sem.run_bind, hv, Result.andThen_ok, hvs, Sem.run_pure]
    · cases h

/-- What goes out holds for the caller. -/
theorem out_rel {gl : Nat → Option Obj} {H H' : Gh} {w w' : World} (hev : Ev gl H w H' w') (ho : H.ob = []) (ht : H.tk = []) {x : PV} {v : Value} (h : Rel H' w' x v) : Rel { H with aux := fun _ _ => False } w' (shut x) v := by
  refine shut_rel (fun b off hp => ⟨⟨hp.1, fun hB => ?_, by simp [ho], by simp [ht]⟩, fun _ => rfl⟩) h
  have := hp.2.1
  rw [hev.B, hev.base] at this
  exact this hB

theorem outs_rel {gl : Nat → Option Obj} {H H' : Gh} {w w' : World} (hev : Ev gl H w H' w') (ho : H.ob = []) (ht : H.tk = []) : ∀ {xs : List PV} {vs : List Value}, RelL H' w' xs vs → RelL { H with aux := fun _ _ => False } w' (shutL xs) vs
  | _, _, .nil => by simp only [shutL]; exact .nil
  | _, _, .cons x v xs vs h hs => by simp only [shutL]; exact .cons _ _ _ _ (out_rel hev ho ht h) (outs_rel hev ho ht hs)

/-- A row of the call's own holds for the caller. -/
theorem oview_rel {gl : Nat → Option Obj} {H H' : Gh} {σ : Store} {w w' : World} (hev : Ev gl H w H' w') (hok : Ok gl H' σ w') (ho : H.ob = []) (ht : H.tk = []) {x : PV} {v : Value} (h : Rel H' w' x v) : Rel { H with aux := fun _ _ => False } w' (shut (oview σ.objs x)) v := by
  cases x with
  | osl id off len k =>
    simp only [oview]
    split
    · rename_i cs hcs
      split
      · rename_i hle
        cases h with
        | osl _ _ off' _ cap _ b hb hoff hcap hm =>
          obtain ⟨hB, us, ext, T, he, hr⟩ := hok.obj id b cs hb hcs
          have hchunks := chunks_rel (H := H') (w := w') k len _ _ (hr.drop off)
          have hp : ∀ b off, H'.prot w' b off → ({ H with aux := fun _ _ => False } : Gh).prot w' b off ∧ ∀ s, w'.cell? ⟨b, off, s⟩ = w'.cell? ⟨b, off, s⟩ := fun b off hp => ⟨⟨hp.1, fun hB => by
            have := hp.2.1
            rw [hev.B, hev.base] at this
            exact this hB, by simp [ho], by simp [ht]⟩, fun _ => rfl⟩
          simp only [shut]
          refine .sl (some ⟨b, off', none⟩) len cap k _ (vchunks k len (us.drop off)) .non (by rw [shutLL_len]; exact chunks_len _ _ _) hcap hm (shutLL_rel hp hchunks) (fun i vs hi => ?_) trivial
          obtain ⟨rfl, hil⟩ := vchunks_get k len _ i vs hi
          obtain rfl := hoff (by omega)
          have hul := hr.len
          have hik : i * k + k ≤ len * k := by
            have : (i + 1) * k ≤ len * k := Nat.mul_le_mul_right k hil
            rwa [Nat.add_mul, Nat.one_mul] at this
          refine ⟨by simp; omega, _, rfl, fun j u hj => ?_⟩
          have hjk : j < k := by
            have := (List.getElem?_eq_some_iff.1 hj).1
            simp at this
            omega
          have hcell : us[off' + i * k + j]? = some u := by
            rw [List.getElem?_take, if_pos hjk, List.getElem?_drop, List.getElem?_drop] at hj
            rw [← hj]
            congr 1
            omega
          rw [add_plain, add_plain]
          refine ⟨⟨lt_of_heap he, fun hlt => ?_, by simp [ho], by simp [ht]⟩, ?_⟩
          · have : H.B ≤ b := by rw [← hev.B]; exact hB
            have : b < H.B := hlt
            omega
          · rw [cell_of_row w' b (off' + i * k + j) (us ++ ext).toArray T (0, 0) he]
            simpa using get_app hcell
      · simp only [shut]; exact .top _
    · simp only [shut]; exact .top _
  | _ => exact out_rel hev ho ht h

theorem oviews_rel {gl : Nat → Option Obj} {H H' : Gh} {σ : Store} {w w' : World} (hev : Ev gl H w H' w') (hok : Ok gl H' σ w') (ho : H.ob = []) (ht : H.tk = []) : ∀ {xs : List PV} {vs : List Value}, RelL H' w' xs vs → RelL { H with aux := fun _ _ => False } w' (shutL (xs.map (oview σ.objs))) vs
  | _, _, .nil => by simp only [List.map_nil, shutL]; exact .nil
  | _, _, .cons x v xs vs h hs => by simp only [List.map_cons, shutL]; exact .cons _ _ _ _ (oview_rel hev hok ho ht h) (oviews_rel hev hok ho ht hs)

theorem results_eq {fn : Func} {tmps : Array Value} : results fn tmps = (do
    let vs ← fn.results.toList.mapM (resF tmps)
    pure (if h : vs.toArray.size = 1 then vs.toArray[0] else .tuple vs.toArray)) := by
  have h : ∀ g : ResultVar → Sem Value, (∀ r, g r = resF tmps r) → (do
      let vs ← fn.results.mapM g
      pure (if h : vs.size = 1 then vs[0] else .tuple vs) : Sem Value) = (do
      let vs ← fn.results.toList.mapM (resF tmps)
      pure (if h : vs.toArray.size = 1 then vs.toArray[0] else .tuple vs.toArray)) := by
    intro g hg
    have : g = resF tmps := funext hg
    subst this
    rw [Array.mapM_eq_mapM_toList]
    simp only [bind_map_left]
  exact h _ (fun r => by cases r <;> rfl)

/-- A function's contract from what its body computes. -/
theorem SimP.of_does (hT : TabOk P tb) {f : FuncId} {fn : Func} {c : Code} (hf : P.funcs[f]? = some fn) (hb : fn.body = some c) (hn : (fn.name == "runtime.NumGoroutine") = false)
    {F : List PV → Option PV} (h : ∀ args x, F args = some x → (∃ H w vs, RelL H w args vs) → ∃ (e : PExit) (fr : List PV) (σ : Store) (xs : List PV), (e = .normal ∨ e = .ret) ∧ Does P gl c (args ++ List.replicate (fn.ntmps - args.length) .top) ⟨[], [], []⟩ e fr σ ∧ presults tb fr σ fn.results.toList = some xs ∧ pout (xs.map (oview σ.objs)) = x) : SimP P gl f F where
  ent := ⟨fn, hf, hn, by simp [hb]⟩
  run := by
    intro args x hx H w vs hB hob htk hgl hrel
    obtain ⟨e, fr0, σ0, xs0, he, hdo, hxs0, hpo0⟩ := h args x hx ⟨H, w, vs, hrel⟩
    refine calls_of_wp hf hb ?_
    have hst : St gl H w (args ++ List.replicate (fn.ntmps - args.length) .top) ⟨[], [], []⟩ { tmps := vs.toArray ++ Array.replicate (fn.ntmps - vs.toArray.size) undef, defers := [] } w := by
      refine ⟨H, Ev.refl H w, ⟨by rw [hB]; exact Nat.le_refl _, fun b o e => ⟨by rw [hB]; exact lt_of_heap (hgl b o e), hgl b o e⟩, by simp [hob], fun id b cs e => by simp [hob] at e, fun i j b e => by simp [hob] at e, by simp [htk], fun t T e => by simp [htk] at e, fun t u T U e => by simp [htk] at e, rfl, fun id b T cs e => by simp [hob] at e⟩, ?_, rfl⟩
      have hl := hrel.len
      have e : (vs.toArray ++ Array.replicate (fn.ntmps - vs.toArray.size) undef).toList = vs ++ List.replicate (fn.ntmps - args.length) undef := by simp [hl]
      rw [e]
      refine hrel.app ?_
      have := RelL.tops (H := H) (w := w) (List.replicate (fn.ntmps - args.length) undef)
      simpa using this
    have fin : ∀ (fr : List PV) (σ : Store) (a : Act) (w' : World) (xs : List PV), St gl H w fr σ a w' → presults tb fr σ fn.results.toList = some xs → pout (xs.map (oview σ.objs)) = x →
        a.defers = [] ∧ ∃ v, (results fn a.tmps).run P w' = .ok v w' ∧ ∃ v', (Ending.returned v) = .returned v' ∧ (Below w.heap.size w w' ∧ Dr gl w w') ∧ Rel { H with aux := fun _ _ => False } w' x v' := by
      intro fr σ a w' xs hst hxs hx
      obtain ⟨H', hev, hok, hfr, hd⟩ := hst
      refine ⟨hd, ?_⟩
      obtain ⟨vs', hvs, hrs⟩ := results_run hT hok hfr _ _ hxs
      have hbel : Below w.heap.size w w' := ⟨hev.os, hev.tape, hev.output, hev.size, fun b hlt => hev.block b (by rw [hB]; exact hlt)⟩
      have hrun : (results fn a.tmps).run P w' = .ok (if h : vs'.toArray.size = 1 then vs'.toArray[0] else .tuple vs'.toArray) w' := by
        rw [results_eq]
        simp only [Sem.run_bind, hvs, Result.andThen_ok, Sem.run_pure]
      refine ⟨_, hrun, _, rfl, ⟨hbel, hev.dr⟩, ?_⟩
      subst hx
      have hl := hrs.len
      cases hrs with
      | nil =>
        simp only [List.map_nil, pout, shutL]
        exact .tup [] [] .nil
      | cons y v ys us hy hys =>
        cases hys with
        | nil => exact oview_rel hev hok hob htk hy
        | cons y2 v2 ys us hy2 hys =>
          have h1 : ¬ ((v :: v2 :: us).toArray.size = 1) := by simp
          rw [dif_neg h1]
          exact .tup _ _ (oviews_rel hev hok hob htk (.cons _ _ _ _ hy (.cons _ _ _ _ hy2 hys)))
    rcases he with rfl | rfl
    · exact hdo H w _ _ _ hst fun a' w' hst' => fin fr0 σ0 a' w' xs0 hst' hxs0 hpo0
    · exact hdo H w _ _ _ hst fun a' w' hst' => fin fr0 σ0 a' w' xs0 hst' hxs0 hpo0

theorem SimP.of_pcall (hT : TabOk P tb) (hΓ : GamOk P gl Γ) (hm : P.follows .mixedOrders = true) {f : FuncId} {fn : Func} {c : Code} (hf : P.funcs[f]? = some fn) (hb : fn.body = some c) (hn : (fn.name == "runtime.NumGoroutine") = false)
    (hdr : drawsOk Γ c = true) {F : List PV → Option PV} (h : ∀ args x, F args = some x → (∃ H w vs, RelL H w args vs) → ∃ L, LoopOk P gl L c ∧ pcall tb Γ L fn args = some x) : SimP P gl f F := by
  refine SimP.of_does hT hf hb hn fun args x hx hr => ?_
  obtain ⟨L, hL, hn⟩ := h args x hx hr
  simp only [pcall, hb] at hn
  split at hn
  · rename_i fr σ he
    obtain ⟨xs, hxs, hpo⟩ := opt_map hn
    exact ⟨.normal, fr, σ, xs, .inl rfl, exec_sound hT hΓ hm c _ _ .normal fr σ hL hdr he, hxs, hpo⟩
  · rename_i fr σ he
    obtain ⟨xs, hxs, hpo⟩ := opt_map hn
    exact ⟨.ret, fr, σ, xs, .inr rfl, exec_sound hT hΓ hm c _ _ .ret fr σ hL hdr he, hxs, hpo⟩
  · cases hn

/-- The contract of a function that writes through pointers. -/
theorem SimS.of_does (hT : TabOk P tb) {f : FuncId} {fn : Func} {c : Code} (hf : P.funcs[f]? = some fn) (hb : fn.body = some c) (hn : (fn.name == "runtime.NumGoroutine") = false)
    {D : List PV → Store → Option (PV × Store)} (h : ∀ args σ x σ', D args σ = some (x, σ') → (∃ H w vs, RelL H w args vs) → ∃ (e : PExit) (fr : List PV) (xs : List PV), (e = .normal ∨ e = .ret) ∧ Does P gl c (args ++ List.replicate (fn.ntmps - args.length) .top) σ e fr σ' ∧ presults tb fr σ' fn.results.toList = some xs ∧ poutS xs = x) : SimS P gl f D where
  ent := ⟨fn, hf, hn, by simp [hb]⟩
  run := by
    intro args σ x σ' hx H w vs hok hrel
    obtain ⟨e, fr0, xs0, he, hdo, hxs0, hpo0⟩ := h args σ x σ' hx ⟨H, w, vs, hrel⟩
    refine calls_of_wp hf hb ?_
    have hst : St gl H w (args ++ List.replicate (fn.ntmps - args.length) .top) σ { tmps := vs.toArray ++ Array.replicate (fn.ntmps - vs.toArray.size) undef, defers := [] } w := by
      refine ⟨H, Ev.refl H w, hok, ?_, rfl⟩
      have hl := hrel.len
      have e : (vs.toArray ++ Array.replicate (fn.ntmps - vs.toArray.size) undef).toList = vs ++ List.replicate (fn.ntmps - args.length) undef := by simp [hl]
      rw [e]
      refine hrel.app ?_
      have := RelL.tops (H := H) (w := w) (List.replicate (fn.ntmps - args.length) undef)
      simpa using this
    have fin : ∀ (fr : List PV) (σ1 : Store) (a : Act) (w' : World) (xs : List PV), St gl H w fr σ1 a w' → presults tb fr σ1 fn.results.toList = some xs → poutS xs = x → σ1 = σ' →
        a.defers = [] ∧ ∃ v, (results fn a.tmps).run P w' = .ok v w' ∧ ∃ v', (Ending.returned v) = .returned v' ∧ Post gl H w x σ' v' w' := by
      intro fr σ1 a w' xs hst hxs hpx hσ
      subst hσ
      obtain ⟨H', hev, hok', hfr, hd⟩ := hst
      refine ⟨hd, ?_⟩
      obtain ⟨vs', hvs, hrs⟩ := results_run hT hok' hfr _ _ hxs
      have hrun : (results fn a.tmps).run P w' = .ok (if h : vs'.toArray.size = 1 then vs'.toArray[0] else .tuple vs'.toArray) w' := by
        rw [results_eq]
        simp only [Sem.run_bind, hvs, Result.andThen_ok, Sem.run_pure]
      refine ⟨_, hrun, _, rfl, H', hev, hok', ?_⟩
      subst hpx
      cases hrs with
      | nil => exact .tup [] [] .nil
      | cons y v ys us hy hys =>
        cases hys with
        | nil => exact hy
        | cons y2 v2 ys us hy2 hys =>
          have h1 : ¬ ((v :: v2 :: us).toArray.size = 1) := by simp
          rw [dif_neg h1]
          exact .tup _ _ (.cons _ _ _ _ hy (.cons _ _ _ _ hy2 hys))
    rcases he with rfl | rfl
    · exact hdo H w _ _ _ hst fun a' w' hst' => fin fr0 σ' a' w' xs0 hst' hxs0 hpo0 rfl
    · exact hdo H w _ _ _ hst fun a' w' hst' => fin fr0 σ' a' w' xs0 hst' hxs0 hpo0 rfl

theorem SimS.of_pcallS (hT : TabOk P tb) (hΓ : GamOk P gl Γ) (hm : P.follows .mixedOrders = true) {f : FuncId} {fn : Func} {c : Code} (hf : P.funcs[f]? = some fn) (hb : fn.body = some c) (hn : (fn.name == "runtime.NumGoroutine") = false)
    (hdr : drawsOk Γ c = true) {D : List PV → Store → Option (PV × Store)} (h : ∀ args σ x σ', D args σ = some (x, σ') → (∃ H w vs, RelL H w args vs) → ∃ L, LoopOk P gl L c ∧ pcallS tb Γ L fn args σ = some (x, σ')) : SimS P gl f D := by
  refine SimS.of_does hT hf hb hn fun args σ x σ' hx hr => ?_
  obtain ⟨L, hL, hn⟩ := h args σ x σ' hx hr
  simp only [pcallS, hb] at hn
  split at hn
  · rename_i fr σ1 he
    obtain ⟨xs, hxs, hpo⟩ := opt_map hn
    obtain ⟨rfl, rfl⟩ := Prod.mk.inj hpo
    exact ⟨.normal, fr, xs, .inl rfl, exec_sound hT hΓ hm c _ _ .normal fr _ hL hdr he, hxs, rfl⟩
  · rename_i fr σ1 he
    obtain ⟨xs, hxs, hpo⟩ := opt_map hn
    obtain ⟨rfl, rfl⟩ := Prod.mk.inj hpo
    exact ⟨.ret, fr, xs, .inr rfl, exec_sound hT hΓ hm c _ _ .ret fr _ hL hdr he, hxs, rfl⟩
  · cases hn
end
end Go.Pv
