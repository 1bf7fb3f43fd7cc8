/- The card of TupleNear is proved: those of a relation that lie within two tuples are neighbours. Conditions: what the row says (the listed variables start as the text lays them); no other. -/
import Derived.Test.YtdfahkeodlfopaaDoorPvG6
set_option maxHeartbeats 4000000
set_option maxRecDepth 200000
set_option linter.unusedSimpArgs false
set_option linter.unusedVariables false
namespace Go.Proofs.YtdfahkeodlfopaaDoor
open Go Go.Proofs Go.RowKit Go.Pv Go.ChangeShapes Go.WideShapes Go.ChangeAt
section
theorem tupleNear_true : ∀ xs, ArgL Tryd.prog Tryd.f6.params.toList xs → (∃ H w vs, RelL H w xs vs) → (F_TNear xs).run = some (.bool true) := by
  intro xs h hg
  rw [Tryd.params6] at h
  cases h with
  | cons t ts x xs ha h =>
  obtain ⟨l, rfl⟩ := arg_rel ha
  cases h with
  | cons t ts x xs ha h =>
  obtain ⟨a, rfl⟩ := arg_tuple ha
  cases h with
  | cons t ts x xs ha h =>
  obtain ⟨b, rfl⟩ := arg_tuple ha
  cases h
  have hl := rel_sl hg 0 rfl
  simp only [rOf_len] at hl
  have h := TNear_law l a b (by unfold maxLen at hl; omega)
  simp [F_TNear, TNear_is0, TNear_b, h]
theorem tupleNear_reads (os : Os) {H : Type} (enc : TypeId × Value → H) : ∃ places, DataW.whole enc Tryd.prog ((laidWorld os).forCall (fun _ _ => 0) ⟨#[], #[.slice none 0 0, .slice none 0 0, .slice none 0 0], []⟩).memory Tryd.f6.params.toList Rows.tupleNearSpec.vars false (#[.slice none 0 0, .slice none 0 0, .slice none 0 0] : Array Value).toList 8 = some ([.nil, .nil, .nil], [], places) :=
  ⟨[], by kernel_rfl⟩
theorem tupleNear_lifted (os : Os) (started : os.Started) (H : Type) (enc : TypeId × Value → H) (F : Stop.Interp) :
    ReturnsInHanded {} Tryd.checked os 6 .any ((OpenSpec.ofChange Rows.tupleNearSpec).preRow enc Tryd.prog Tryd.f6 Rows.tupleNearRow.domain false Rows.tupleNearRow.laid) (((OpenSpec.ofChange Rows.tupleNearSpec).at F).post enc Tryd.prog Tryd.f6 false true false false) := by
  obtain ⟨places, hx⟩ := tupleNear_reads os enc
  refine returnsInHanded_of_row (C := Tryd.checked) (s := OpenSpec.ofChange Rows.tupleNearSpec) own started (by kernel_rfl) Tryd.func6
    (witness_row_at (enc := enc) (C := Tryd.checked) false (laidWorld os) #[.slice none 0 0, .slice none 0 0, .slice none 0 0] rfl (by kernel_rfl) (by kernel_rfl) (by kernel_rfl)
      (OpenSpec.preRow_of_cond 8 hx (by kernel_rfl) (fun k hk => by cases hk) (by kernel_rfl) (laid_met os _))) ?_
  intro W base args ds gs before hval hW _ _ _ hL _ _
  exact law_calls (s := Rows.tupleNearSpec) (fun hg => sim_TNear _ hg) tupleNear_true rfl rfl (by kernel_rfl) (fun ds hd => by
    match ds, hd with
    | [d0, d1, d2], _ => rfl) hval hW hL
theorem tupleNear_said : Rows.TupleNearSaid :=
  OpenClaim.holds_of_cond 6 Tryd.f6 rfl rfl rfl rfl rfl rfl rfl ⟨rfl, rfl, rfl, rfl, rfl⟩ rfl rfl rfl rfl rfl (by kernel_rfl) Tryd.func6 (by kernel_rfl)
    (of_decide_eq_true (by kernel_rfl)) (by unfold Func.isWrapper; first | (rw [if_pos (by decide +kernel)]; kernel_rfl) | (rw [if_neg (by decide +kernel)]; exact ⟨rfl, rfl⟩))
    (fun os started H enc _ F => by rw [OpenClaim.pre_eq_preRow]; exact tupleNear_lifted os started H enc F)
theorem tupleNear_plain (f : FuncId) (fn : Func) (hf : Tryd.pinned.checked.prog.funcNamed "pedigree/pedigreelaw02.TupleNear" = some f) (hfn : Tryd.pinned.checked.prog.funcs[f]? = some fn) :
    true = Tryd.pinned.checked.prog.looks [] ∧ ∀ (j : Nat) t, fn.params[j]? = some t → Tryd.pinned.checked.prog.wantsStandIn t = false := by
  obtain rfl : f = 6 := Option.some.inj ((show Tryd.prog.funcNamed "pedigree/pedigreelaw02.TupleNear" = some 6 by kernel_rfl).symm.trans hf) |>.symm
  obtain rfl : fn = Tryd.f6 := (Option.some.inj (Tryd.func6.symm.trans hfn)).symm
  refine ⟨by kernel_rfl, fun j t ht => ?_⟩
  have hall : (Tryd.f6.params.toList.all fun t => !Tryd.prog.wantsStandIn t) = true := by kernel_rfl
  have h1 := List.all_eq_true.1 hall t (Array.mem_toList_iff.2 (Array.mem_of_getElem? ht))
  have h2 : Tryd.prog.wantsStandIn t = false := by simpa using h1
  exact h2
/-- THE CARD. -/
theorem tupleNear_card : Rows.TupleNearCardSaid :=
  Claim7.holds_tied_plain_at .later [] _ _ _ _ tupleNear_said (fun _ h => by cases h) (by kernel_rfl) (fun _ h => by cases h) tupleNear_row_tie rfl ⟨rfl, rfl⟩ (by kernel_rfl) rfl tupleNear_plain (by kernel_rfl)
end
end Go.Proofs.YtdfahkeodlfopaaDoor
