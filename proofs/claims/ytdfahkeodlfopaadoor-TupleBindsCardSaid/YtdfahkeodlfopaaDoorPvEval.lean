/- Runs told to the end: an interpreter with fuel, for code whose loops run a known number of times. -/
import Derived.Test.YtdfahkeodlfopaaDoorPvLoop
set_option linter.unusedSimpArgs false
set_option linter.unusedVariables false
namespace Go.Pv
open Go.RowKit

/-- The run, loops and all, while the fuel lasts. -/
def pexecU (tb : Tab) (Γ : Gam) : Nat → Code → List PV → Store → Option (PExit × List PV × Store)
  | 0, _, _, _ => none
  | n + 1, c, fr, σ => match c with
    | .skip => some (.normal, fr, σ)
    | .label _ => some (.normal, fr, σ)
    | .exit id => some (.exit id, fr, σ)
    | .ret => some (.ret, fr, σ)
    | .region _ ops _ => match pops tb Γ ops.toList ops.toList fr σ with
      | some (fr', σ') => some (.normal, fr', σ')
      | none => none
    | .seq a b => match pexecU tb Γ n a fr σ with
      | some (.normal, fr', σ') => pexecU tb Γ n b fr' σ'
      | r => r
    | .cond c a b => match ev fr c with
      | .bool t => match t with
        | true => pexecU tb Γ n a fr σ
        | false => pexecU tb Γ n b fr σ
      | _ => none
    | .block id c => match pexecU tb Γ n c fr σ with
      | some (.exit j, fr', σ') => if j = id then some (.normal, fr', σ') else some (.exit j, fr', σ')
      | r => r
    | .loop c => match pexecU tb Γ n c fr σ with
      | some (.normal, fr', σ') => pexecU tb Γ n (.loop c) fr' σ'
      | r => r
    | _ => none

/-- All drawn regions may come up in any order, those in loops too. -/
def drawsAll (Γ : Gam) : Code → Bool
  | .region _ ops draw => !draw || ordered Γ ops.toList
  | .seq a b => drawsAll Γ a && drawsAll Γ b
  | .cond _ a b => drawsAll Γ a && drawsAll Γ b
  | .block _ c => drawsAll Γ c
  | .loop c => drawsAll Γ c
  | _ => true

section
variable {P : Program} {tb : Tab} {gl : Nat → Option Obj} {Γ : Gam}

theorem pexecU_sound (hT : TabOk P tb) (hΓ : GamOk P gl Γ) (hm : P.follows .mixedOrders = true) : ∀ (n : Nat),
    (∀ (c : Code) (fr : List PV) (σ : Store) (e : PExit) (fr' : List PV) (σ' : Store), drawsAll Γ c = true → pexecU tb Γ n c fr σ = some (e, fr', σ') → Does P gl c fr σ e fr' σ') ∧
    (∀ (c : Code) (fr : List PV) (σ : Store) (e : PExit) (fr' : List PV) (σ' : Store), drawsAll Γ c = true → pexecU tb Γ n (.loop c) fr σ = some (e, fr', σ') → LDoes P gl c fr σ e fr' σ') := by
  intro n
  induction n with
  | zero => exact ⟨fun c fr σ e fr' σ' hd h => by simp [pexecU] at h, fun c fr σ e fr' σ' hd h => by simp [pexecU] at h⟩
  | succ n ih =>
    obtain ⟨ihA, ihB⟩ := ih
    have loopB : ∀ (c : Code) (fr : List PV) (σ : Store) (e : PExit) (fr' : List PV) (σ' : Store), drawsAll Γ c = true → pexecU tb Γ (n + 1) (.loop c) fr σ = some (e, fr', σ') → LDoes P gl c fr σ e fr' σ' := by
      intro c fr σ e fr' σ' hd h
      simp only [pexecU] at h
      split at h
      · rename_i fr1 σ1 h1
        exact LDoes.next (ihA c fr σ .normal fr1 σ1 hd h1) (ihB c fr1 σ1 e fr' σ' hd h)
      · rename_i hne
        refine LDoes.out (ihA c fr σ e fr' σ' hd h) ?_
        rintro rfl
        exact hne _ _ h
    refine ⟨fun c fr σ e fr' σ' hd h => ?_, loopB⟩
    cases c with
    | skip =>
      simp only [pexecU, Option.some.injEq, Prod.mk.injEq] at h
      obtain ⟨rfl, rfl, rfl⟩ := h
      intro H0 w0 Q a w hst hq
      exact wp_skip (hq _ _ hst)
    | label l =>
      simp only [pexecU, Option.some.injEq, Prod.mk.injEq] at h
      obtain ⟨rfl, rfl, rfl⟩ := h
      intro H0 w0 Q a w hst hq
      exact wp_label (hq _ _ hst)
    | exit id =>
      simp only [pexecU, Option.some.injEq, Prod.mk.injEq] at h
      obtain ⟨rfl, rfl, rfl⟩ := h
      intro H0 w0 Q a w hst hq
      exact wp_exit (hq _ _ hst)
    | ret =>
      simp only [pexecU, Option.some.injEq, Prod.mk.injEq] at h
      obtain ⟨rfl, rfl, rfl⟩ := h
      intro H0 w0 Q a w hst hq
      exact wp_ret (hq _ _ hst)
    | region id ops draw =>
      intro H0 w0 Q a w hst hq
      simp only [pexecU] at h
      split at h
      · rename_i fr1 σ1 hp
        simp only [Option.some.injEq, Prod.mk.injEq] at h
        obtain ⟨rfl, rfl, rfl⟩ := h
        refine region_sound hT hΓ hm hst hp (fun hdr => ?_) (fun a' w' hst' => hq _ _ hst')
        simpa [drawsAll, hdr] using hd
      · cases h
    | seq x y =>
      intro H0 w0 Q a w hst hq
      simp only [drawsAll, Bool.and_eq_true] at hd
      simp only [pexecU] at h
      refine wp_seq ?_
      split at h
      · rename_i fr1 σ1 hx
        exact ihA _ _ _ _ _ _ hd.1 hx H0 w0 _ _ _ hst fun a1 w1 hst1 => ihA _ _ _ _ _ _ hd.2 h H0 w0 _ _ _ hst1 hq
      · rename_i hne
        refine ihA _ _ _ _ _ _ hd.1 h H0 w0 _ _ _ hst fun a1 w1 hst1 => ?_
        cases e with
        | normal => exact absurd h (hne _ _)
        | exit id => exact hq _ _ hst1
        | ret => exact hq _ _ hst1
    | cond c x y =>
      intro H0 w0 Q a w hst hq
      simp only [drawsAll, Bool.and_eq_true] at hd
      simp only [pexecU] at h
      split at h
      · rename_i t ht
        have hr : a.eval c = .bool t := by
          obtain ⟨H, hev, hok, hfr, hd⟩ := hst
          have hr := ev_rel hfr c
          rw [ht] at hr
          generalize a.eval c = v at hr
          cases hr
          rfl
        refine wp_cond hr ?_
        cases t with
        | true => exact ihA _ _ _ _ _ _ hd.1 h H0 w0 _ _ _ hst hq
        | false => exact ihA _ _ _ _ _ _ hd.2 h H0 w0 _ _ _ hst hq
      · cases h
    | block id c =>
      intro H0 w0 Q a w hst hq
      simp only [pexecU] at h
      refine wp_block ?_
      split at h
      · rename_i j fr1 σ1 hx
        split at h
        · rename_i hj
          subst hj
          simp only [Option.some.injEq, Prod.mk.injEq] at h
          obtain ⟨rfl, rfl, rfl⟩ := h
          refine ihA c _ _ _ _ _ hd hx H0 w0 _ _ _ hst fun a1 w1 hst1 => ?_
          simp only [PExit.as, Exit.inBlock, if_true]
          exact hq _ _ hst1
        · rename_i hj
          simp only [Option.some.injEq, Prod.mk.injEq] at h
          obtain ⟨rfl, rfl, rfl⟩ := h
          refine ihA c _ _ _ _ _ hd hx H0 w0 _ _ _ hst fun a1 w1 hst1 => ?_
          simp only [PExit.as, Exit.inBlock, hj, if_false]
          exact hq _ _ hst1
      · rename_i hne
        refine ihA c _ _ _ _ _ hd h H0 w0 _ _ _ hst fun a1 w1 hst1 => ?_
        cases e with
        | normal => exact hq _ _ hst1
        | exit j => exact absurd h (hne _ _ _)
        | ret => exact hq _ _ hst1
    | loop c =>
      intro H0 w0 Q a w hst hq b k cs
      obtain ⟨e1, a1, w1, hq1, harr⟩ := loopB c fr σ e fr' σ' hd h H0 w0 Q a w hst hq b k cs
      exact ⟨e1, a1, w1, hq1, .of_steps (.one step_loop) harr⟩
    | scope c => simp [pexecU] at h
    | goto l => simp [pexecU] at h
    | refuse s => simp [pexecU] at h
    | rangeFunc f ps x y => simp [pexecU] at h
end

def pcallU (tb : Tab) (Γ : Gam) (n : Nat) (fn : Func) (args : List PV) : Option PV :=
  match fn.body with
  | none => none
  | some c => match pexecU tb Γ n c (args ++ List.replicate (fn.ntmps - args.length) .top) ⟨[], [], []⟩ with
    | some (.normal, fr, σ) => (presults tb fr σ fn.results.toList).map fun xs => pout (xs.map (oview σ.objs))
    | some (.ret, fr, σ) => (presults tb fr σ fn.results.toList).map fun xs => pout (xs.map (oview σ.objs))
    | _ => none

def pcallSU (tb : Tab) (Γ : Gam) (n : Nat) (fn : Func) (args : List PV) (σ : Store) : Option (PV × Store) :=
  match fn.body with
  | none => none
  | some c => match pexecU tb Γ n c (args ++ List.replicate (fn.ntmps - args.length) .top) σ with
    | some (.normal, fr, σ') => (presults tb fr σ' fn.results.toList).map fun xs => (poutS xs, σ')
    | some (.ret, fr, σ') => (presults tb fr σ' fn.results.toList).map fun xs => (poutS xs, σ')
    | _ => none

section
variable {P : Program} {tb : Tab} {gl : Nat → Option Obj} {Γ : Gam}
/-- A function's contract: what the interpreter makes of it. -/
theorem SimP.of_evalU (hT : TabOk P tb) (hΓ : GamOk P gl Γ) (hm : P.follows .mixedOrders = true) {f : FuncId} {fn : Func} {c : Code} (hf : P.funcs[f]? = some fn) (hb : fn.body = some c) (hn : (fn.name == "runtime.NumGoroutine") = false)
    (hdr : drawsAll Γ c = true) (n : Nat) : SimP P gl f (pcallU tb Γ n fn) := by
  refine SimP.of_does hT hf hb hn fun args x hx _ => ?_
  simp only [pcallU, hb] at hx
  split at hx
  · rename_i fr σ he
    obtain ⟨xs, hxs, hpo⟩ := opt_map hx
    exact ⟨.normal, fr, σ, xs, .inl rfl, (pexecU_sound hT hΓ hm n).1 _ _ _ _ _ _ hdr he, hxs, hpo⟩
  · rename_i fr σ he
    obtain ⟨xs, hxs, hpo⟩ := opt_map hx
    exact ⟨.ret, fr, σ, xs, .inr rfl, (pexecU_sound hT hΓ hm n).1 _ _ _ _ _ _ hdr he, hxs, hpo⟩
  · cases hx
theorem SimS.of_evalU (hT : TabOk P tb) (hΓ : GamOk P gl Γ) (hm : P.follows .mixedOrders = true) {f : FuncId} {fn : Func} {c : Code} (hf : P.funcs[f]? = some fn) (hb : fn.body = some c) (hn : (fn.name == "runtime.NumGoroutine") = false)
    (hdr : drawsAll Γ c = true) (n : Nat) : SimS P gl f (pcallSU tb Γ n fn) := by
  refine SimS.of_does hT hf hb hn fun args σ x σ' hx _ => ?_
  simp only [pcallSU, hb] at hx
  split at hx
  · rename_i fr σ1 he
    obtain ⟨xs, hxs, hpo⟩ := opt_map hx
    obtain ⟨rfl, rfl⟩ := Prod.mk.inj hpo
    exact ⟨.normal, fr, xs, .inl rfl, (pexecU_sound hT hΓ hm n).1 _ _ _ _ _ _ hdr he, hxs, rfl⟩
  · rename_i fr σ1 he
    obtain ⟨xs, hxs, hpo⟩ := opt_map hx
    obtain ⟨rfl, rfl⟩ := Prod.mk.inj hpo
    exact ⟨.ret, fr, xs, .inr rfl, (pexecU_sound hT hΓ hm n).1 _ _ _ _ _ _ hdr he, hxs, rfl⟩
  · cases hx
end
end Go.Pv
