/- The card of TupleChange is proved: what came and went, put on the old relation, makes the new one. Conditions: what the row says (the listed variables start as the text lays them); no other. -/
import Derived.Test.YtdfahkeodlfopaaDoorPvG6
set_option maxHeartbeats 4000000
set_option maxRecDepth 200000
set_option linter.unusedSimpArgs false
set_option linter.unusedVariables false
namespace Go.Proofs.YtdfahkeodlfopaaDoor
open Go Go.Proofs Go.RowKit Go.Pv Go.ChangeShapes Go.WideShapes Go.ChangeAt
section
theorem tupleChange_true : ∀ xs, ArgL Tryd.prog Tryd.f12.params.toList xs → (∃ H w vs, RelL H w xs vs) → (F_TChange xs).run = some (.bool true) := by
  intro xs h hg
  rw [Tryd.params12] at h
  cases h with
  | cons t ts x xs ha h =>
  obtain ⟨a, rfl⟩ := arg_rel ha
  cases h with
  | cons t ts x xs ha h =>
  obtain ⟨b, rfl⟩ := arg_rel ha
  cases h
  have h0 := rel_sl hg 0 rfl
  have h1 := rel_sl hg 1 rfl
  simp only [rOf_len] at h0 h1
  unfold maxLen at h0 h1
  have h := TChange_law a b (by omega) (by omega)
  simp [F_TChange, TChange_is0, TChange_b, h]
theorem tupleChange_reads (os : Os) {H : Type} (enc : TypeId × Value → H) : ∃ places, DataW.whole enc Tryd.prog ((laidWorld os).forCall (fun _ _ => 0) ⟨#[], #[.slice none 0 0, .slice none 0 0], []⟩).memory Tryd.f12.params.toList Rows.tupleChangeSpec.vars false (#[.slice none 0 0, .slice none 0 0] : Array Value).toList 8 = some ([.nil, .nil], [], places) :=
  ⟨[], by kernel_rfl⟩
theorem tupleChange_lifted (os : Os) (started : os.Started) (H : Type) (enc : TypeId × Value → H) (F : Stop.Interp) :
    ReturnsInHanded {} Tryd.checked os 12 .any ((OpenSpec.ofChange Rows.tupleChangeSpec).preRow enc Tryd.prog Tryd.f12 Rows.tupleChangeRow.domain false Rows.tupleChangeRow.laid) (((OpenSpec.ofChange Rows.tupleChangeSpec).at F).post enc Tryd.prog Tryd.f12 false true false false) := by
  obtain ⟨places, hx⟩ := tupleChange_reads os enc
  refine returnsInHanded_of_row (C := Tryd.checked) (s := OpenSpec.ofChange Rows.tupleChangeSpec) own started (by kernel_rfl) Tryd.func12
    (witness_row_at (enc := enc) (C := Tryd.checked) false (laidWorld os) #[.slice none 0 0, .slice none 0 0] rfl (by kernel_rfl) (by kernel_rfl) (by kernel_rfl)
      (OpenSpec.preRow_of_cond 8 hx (by kernel_rfl) (fun k hk => by cases hk) (by kernel_rfl) (laid_met os _))) ?_
  intro W base args ds gs before hval hW _ _ _ hL _ _
  exact law_calls (s := Rows.tupleChangeSpec) (fun hg => sim_TChange _ hg) tupleChange_true rfl rfl (by kernel_rfl) (fun ds hd => by
    match ds, hd with
    | [d0, d1], _ => rfl) hval hW hL
theorem tupleChange_said : Rows.TupleChangeSaid :=
  OpenClaim.holds_of_cond 12 Tryd.f12 rfl rfl rfl rfl rfl rfl rfl ⟨rfl, rfl, rfl, rfl, rfl⟩ rfl rfl rfl rfl rfl (by kernel_rfl) Tryd.func12 (by kernel_rfl)
    (of_decide_eq_true (by kernel_rfl)) (by unfold Func.isWrapper; first | (rw [if_pos (by decide +kernel)]; kernel_rfl) | (rw [if_neg (by decide +kernel)]; exact ⟨rfl, rfl⟩))
    (fun os started H enc _ F => by rw [OpenClaim.pre_eq_preRow]; exact tupleChange_lifted os started H enc F)
theorem tupleChange_plain (f : FuncId) (fn : Func) (hf : Tryd.pinned.checked.prog.funcNamed "pedigree/pedigreelaw02.TupleChange" = some f) (hfn : Tryd.pinned.checked.prog.funcs[f]? = some fn) :
    true = Tryd.pinned.checked.prog.looks [] ∧ ∀ (j : Nat) t, fn.params[j]? = some t → Tryd.pinned.checked.prog.wantsStandIn t = false := by
  obtain rfl : f = 12 := Option.some.inj ((show Tryd.prog.funcNamed "pedigree/pedigreelaw02.TupleChange" = some 12 by kernel_rfl).symm.trans hf) |>.symm
  obtain rfl : fn = Tryd.f12 := (Option.some.inj (Tryd.func12.symm.trans hfn)).symm
  refine ⟨by kernel_rfl, fun j t ht => ?_⟩
  have hall : (Tryd.f12.params.toList.all fun t => !Tryd.prog.wantsStandIn t) = true := by kernel_rfl
  have h1 := List.all_eq_true.1 hall t (Array.mem_toList_iff.2 (Array.mem_of_getElem? ht))
  have h2 : Tryd.prog.wantsStandIn t = false := by simpa using h1
  exact h2
/-- THE CARD. -/
theorem tupleChange_card : Rows.TupleChangeCardSaid :=
  Claim7.holds_tied_plain_at .later [] _ _ _ _ tupleChange_said (fun _ h => by cases h) (by kernel_rfl) (fun _ h => by cases h) tupleChange_row_tie rfl ⟨rfl, rfl⟩ (by kernel_rfl) rfl tupleChange_plain (by kernel_rfl)
end
end Go.Proofs.YtdfahkeodlfopaaDoor
