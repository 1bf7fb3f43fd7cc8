/- What an operation's computation depends on. -/
import Derived.Test.YtdfahkeodlfopaaDoorPvSeq
set_option linter.unusedSimpArgs false
set_option linter.unusedVariables false
namespace Go.Pv
open Go.RowKit

section
variable {tb : Tab} {Γ : Gam} {fr fr' : List PV} {σ : Store}

theorem map_ev {l : List Operand} (h : ∀ x ∈ l, ev fr x = ev fr' x) : l.map (ev fr) = l.map (ev fr') := List.map_congr_left h

theorem parts_ev {l : List (Nat × Operand)} (h : ∀ x ∈ l.map (·.2), ev fr x = ev fr' x) : (l.map fun p => (p.1, ev fr p.2)) = l.map fun p => (p.1, ev fr' p.2) :=
  List.map_congr_left fun p hp => by rw [h p.2 (List.mem_map.2 ⟨p, hp, rfl⟩)]

theorem opt_ev {x : Option Operand} (h : ∀ y ∈ x.toList, ev fr y = ev fr' y) : x.map (ev fr) = x.map (ev fr') := by
  cases x with
  | none => rfl
  | some y => simp [h y (by simp)]

theorem callOp_ev {c : Call} (h : ∀ x ∈ c.operands.toList, ev fr x = ev fr' x) : pcallOp tb Γ fr σ c = pcallOp tb Γ fr' σ c := by
  unfold pcallOp
  split
  · split
    · rename_i t x ht hx
      have : ev fr x = ev fr' x := h x (by simp [Call.operands, hx])
      rw [this]
    · rfl
  · split
    · rename_i t t' s x ht hx
      have h1 : ev fr s = ev fr' s := h s (by simp [Call.operands, hx])
      have h2 : ev fr x = ev fr' x := h x (by simp [Call.operands, hx])
      rw [h1, h2]
    · rfl
  · split
    · rename_i t x ht hx
      have h1 : ev fr x = ev fr' x := h x (by simp [Call.operands, hx])
      rw [h1]
    · rfl
  · split
    · rename_i x y hx
      have h1 : ev fr x = ev fr' x := h x (by simp [Call.operands, hx])
      have h2 : ev fr y = ev fr' y := h y (by simp [Call.operands, hx])
      rw [h1, h2]
    · rfl
  · rfl
  · rfl
  · rename_i f hf
    have h1 : ev fr f = ev fr' f := h f (by simp [Call.operands, hf])
    have h2 : c.args.toList.map (ev fr) = c.args.toList.map (ev fr') := map_ev fun x hx => h x (by simp [Call.operands, hf]; exact .inr (by simpa using hx))
    rw [h1, h2]

theorem pop_ev {o : Oper} (h : ∀ x ∈ o.op.operands.toList, ev fr x = ev fr' x) : pop tb Γ fr σ o = pop tb Γ fr' σ o := by
  unfold pop
  cases ho : o.op <;> simp only [ho, Op.operands] at h ⊢
  case build t parts =>
    rw [parts_ev (by simpa using h)]
  case buildSlice t n parts =>
    rw [parts_ev (by simpa using h)]
  case call c => exact callOp_ev h
  case makeFunc f first caps =>
    cases f <;> (try rfl)
    show (match first.toList with | [] => _ | _ => _) = (match first.toList with | [] => _ | _ => _)
    split
    · rename_i hf
      rw [map_ev (fr := fr) (fr' := fr') (fun x hx => h x (by simp; exact .inr (by simpa using hx)))]
    · rfl
  case slice t x l hi m =>
    have h1 : ev fr x = ev fr' x := h x (by simp)
    rw [h1, opt_ev (fr := fr) (fr' := fr') (x := l) (fun y hy => h y (by simp at hy ⊢; simp [hy])), opt_ev (fr := fr) (fr' := fr') (x := hi) (fun y hy => h y (by simp at hy ⊢; simp [hy])), opt_ev (fr := fr) (fr' := fr') (x := m) (fun y hy => h y (by simp at hy ⊢; simp [hy]))]
  all_goals simp_all

/-- What is no writer leaves the store. -/
theorem pop_keeps {o : Oper} (hw : writes Γ o = false) {x : PV} {σ' : Store} (h : pop tb Γ fr σ o = some (x, σ')) : σ' = σ := by
  unfold pop at h
  unfold writes at hw
  cases ho : o.op <;> simp only [ho] at h hw
  case call c =>
    unfold pcallOp at h
    split at h
    · split at h
      · split at h
        · split at h <;> simp_all
        · cases h
      · cases h
    · rename_i hc
      simp [hc, callWrites] at hw
    · rename_i hc
      simp [hc, callWrites] at hw
    · (repeat' (split at h)) <;> first | (cases h; done) | (simp at h; exact h.2.symm)
    · cases h
    · cases h
    · rename_i f hc
      split at h
      · rename_i g caps hf
        split at h
        · obtain ⟨r, _, he⟩ := opt_map h
          exact (Prod.mk.inj he).2.symm
        · rename_i D hD
          split at h
          · simp only [ev, PV.fn.injEq] at hf
            obtain ⟨rfl, rfl⟩ := hf
            simp [callWrites, hc, hD] at hw
          · cases h
        · cases h
        · cases h
      · cases h
  case load =>
    repeat' (split at h)
    all_goals first | (cases h; done) | (obtain ⟨r, _, he⟩ := opt_map h; exact (Prod.mk.inj he).2.symm)
  case extract =>
    split at h
    · obtain ⟨r, _, he⟩ := opt_map h; exact (Prod.mk.inj he).2.symm
    · cases h
  case makeFunc f first caps =>
    cases f <;> simp only [] at h <;> (try cases h)
    split at h
    · simp at h; exact h.2.symm
    · cases h
  all_goals first
    | (cases h; done)
    | (cases hw; done)
    | (simp at h; exact h.2.symm)
    | (obtain ⟨r, _, he⟩ := opt_map h; exact (Prod.mk.inj he).2.symm)
    | (repeat' (split at h)
       all_goals first | (cases h; done) | (simp at h; exact h.2.symm))

/-- What is no reader gives the same at any store. -/
theorem pop_quiet {o : Oper} (hw : reads Γ o = false) {x : PV} {σ' : Store} (h : pop tb Γ fr σ o = some (x, σ')) (σ2 : Store) : pop tb Γ fr σ2 o = some (x, σ2) := by
  unfold pop at h ⊢
  unfold reads writes at hw
  cases ho : o.op <;> simp only [ho] at h hw ⊢
  case call c =>
    unfold pcallOp at h ⊢
    split at h
    · split at h
      · split at h
        · split at h <;> simp_all
        · cases h
      · cases h
    · rename_i hc
      simp [hc, callWrites, callReads] at hw
    · rename_i hc
      simp [hc, callWrites, callReads] at hw
    · (repeat' (split at h)) <;> first | (cases h; done) | (simp at h; simp_all)
    · cases h
    · cases h
    · rename_i hc
      simp [hc, callWrites, callReads] at hw
  case makeFunc f first caps =>
    cases f <;> simp only [] at h ⊢ <;> (try cases h)
    split at h
    · simp at h; simp [h.1]
    · cases h
  case extract =>
    split at h
    · obtain ⟨r, hr, he⟩ := opt_map h; obtain ⟨rfl, rfl⟩ := Prod.mk.inj he; rw [hr]; rfl
    · cases h
  all_goals first
    | (cases h; done)
    | (cases hw; done)
    | (simp at h; simp [h.1])
    | (obtain ⟨r, hr, he⟩ := opt_map h; obtain ⟨rfl, rfl⟩ := Prod.mk.inj he; rw [hr]; rfl)
    | (repeat' (split at h)
       all_goals first | (cases h; done) | (simp at h; simp_all))
end
end Go.Pv
