/- The card of TupleBinds is proved: bindings, put in the place of their variables, make a pattern that the tuple matches still. Conditions: what the row says (the listed variables start as the text lays them); no other. -/
import Derived.Test.YtdfahkeodlfopaaDoorPvM1
import Derived.Test.YtdfahkeodlfopaaDoorPvTE
set_option maxHeartbeats 4000000
set_option maxRecDepth 200000
set_option linter.unusedSimpArgs false
set_option linter.unusedVariables false
namespace Go.Proofs.YtdfahkeodlfopaaDoor
open Go Go.Proofs Go.RowKit Go.Pv Go.ChangeShapes Go.WideShapes Go.ChangeAt
section
theorem tupleBinds_true : ∀ xs, ArgL Tryd.prog Tryd.f4.params.toList xs → (∃ H w vs, RelL H w xs vs) → (F_TBinds xs).run = some (.bool true) := by
  intro xs h hg
  rw [Tryd.params4] at h
  cases h with
  | cons t ts x xs ha h =>
  obtain ⟨p, rfl⟩ := arg_terms ha
  cases h with
  | cons t ts x xs ha h =>
  obtain ⟨t, rfl⟩ := arg_tuple ha
  cases h
  have h := TBinds_law p t
  simp [F_TBinds, TBinds_is0, TBinds_b, h]
theorem tupleBinds_reads (os : Os) {H : Type} (enc : TypeId × Value → H) : ∃ places, DataW.whole enc Tryd.prog ((laidWorld os).forCall (fun _ _ => 0) ⟨#[], #[.slice none 0 0, .slice none 0 0], []⟩).memory Tryd.f4.params.toList Rows.tupleBindsSpec.vars false (#[.slice none 0 0, .slice none 0 0] : Array Value).toList 8 = some ([.nil, .nil], [], places) :=
  ⟨[], by kernel_rfl⟩
theorem tupleBinds_lifted (os : Os) (started : os.Started) (H : Type) (enc : TypeId × Value → H) (F : Stop.Interp) :
    ReturnsInHanded {} Tryd.checked os 4 .any ((OpenSpec.ofChange Rows.tupleBindsSpec).preRow enc Tryd.prog Tryd.f4 Rows.tupleBindsRow.domain false Rows.tupleBindsRow.laid) (((OpenSpec.ofChange Rows.tupleBindsSpec).at F).post enc Tryd.prog Tryd.f4 false true false false) := by
  obtain ⟨places, hx⟩ := tupleBinds_reads os enc
  refine returnsInHanded_of_row (C := Tryd.checked) (s := OpenSpec.ofChange Rows.tupleBindsSpec) own started (by kernel_rfl) Tryd.func4
    (witness_row_at (enc := enc) (C := Tryd.checked) false (laidWorld os) #[.slice none 0 0, .slice none 0 0] rfl (by kernel_rfl) (by kernel_rfl) (by kernel_rfl)
      (OpenSpec.preRow_of_cond 8 hx (by kernel_rfl) (fun k hk => by cases hk) (by kernel_rfl) (laid_met os _))) ?_
  intro W base args ds gs before hval hW _ _ _ hL _ _
  exact law_calls (s := Rows.tupleBindsSpec) (fun hg => sim_TBinds _ hg) tupleBinds_true rfl rfl (by kernel_rfl) (fun ds hd => by
    match ds, hd with
    | [d0, d1], _ => rfl) hval hW hL
theorem tupleBinds_said : Rows.TupleBindsSaid :=
  OpenClaim.holds_of_cond 4 Tryd.f4 rfl rfl rfl rfl rfl rfl rfl ⟨rfl, rfl, rfl, rfl, rfl⟩ rfl rfl rfl rfl rfl (by kernel_rfl) Tryd.func4 (by kernel_rfl)
    (of_decide_eq_true (by kernel_rfl)) (by unfold Func.isWrapper; first | (rw [if_pos (by decide +kernel)]; kernel_rfl) | (rw [if_neg (by decide +kernel)]; exact ⟨rfl, rfl⟩))
    (fun os started H enc _ F => by rw [OpenClaim.pre_eq_preRow]; exact tupleBinds_lifted os started H enc F)
theorem tupleBinds_plain (f : FuncId) (fn : Func) (hf : Tryd.pinned.checked.prog.funcNamed "pedigree/pedigreelaw02.TupleBinds" = some f) (hfn : Tryd.pinned.checked.prog.funcs[f]? = some fn) :
    true = Tryd.pinned.checked.prog.looks [] ∧ ∀ (j : Nat) t, fn.params[j]? = some t → Tryd.pinned.checked.prog.wantsStandIn t = false := by
  obtain rfl : f = 4 := Option.some.inj ((show Tryd.prog.funcNamed "pedigree/pedigreelaw02.TupleBinds" = some 4 by kernel_rfl).symm.trans hf) |>.symm
  obtain rfl : fn = Tryd.f4 := (Option.some.inj (Tryd.func4.symm.trans hfn)).symm
  refine ⟨by kernel_rfl, fun j t ht => ?_⟩
  have hall : (Tryd.f4.params.toList.all fun t => !Tryd.prog.wantsStandIn t) = true := by kernel_rfl
  have h1 := List.all_eq_true.1 hall t (Array.mem_toList_iff.2 (Array.mem_of_getElem? ht))
  have h2 : Tryd.prog.wantsStandIn t = false := by simpa using h1
  exact h2
/-- THE CARD. -/
theorem tupleBinds_card : Rows.TupleBindsCardSaid :=
  Claim7.holds_tied_plain_at .later [] _ _ _ _ tupleBinds_said (fun _ h => by cases h) (by kernel_rfl) (fun _ h => by cases h) tupleBinds_row_tie rfl ⟨rfl, rfl⟩ (by kernel_rfl) rfl tupleBinds_plain (by kernel_rfl)
end
end Go.Proofs.YtdfahkeodlfopaaDoor
