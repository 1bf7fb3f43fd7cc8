/- The card of TupleSets is proved: what is made of two rows is what the reference makes of them as sets. Conditions: what the row says (the listed variables start as the text lays them); no other. -/
import Derived.Test.YtdfahkeodlfopaaDoorPvG6
set_option maxHeartbeats 4000000
set_option maxRecDepth 200000
set_option linter.unusedSimpArgs false
set_option linter.unusedVariables false
namespace Go.Proofs.YtdfahkeodlfopaaDoor
open Go Go.Proofs Go.RowKit Go.Pv Go.ChangeShapes Go.WideShapes Go.ChangeAt
section
theorem tupleSets_true : ∀ xs, ArgL Tryd.prog Tryd.f11.params.toList xs → (∃ H w vs, RelL H w xs vs) → (F_TSets xs).run = some (.bool true) := by
  intro xs h hg
  rw [Tryd.params11] at h
  cases h with
  | cons t ts x xs ha h =>
  obtain ⟨a, rfl⟩ := arg_rel ha
  cases h with
  | cons t ts x xs ha h =>
  obtain ⟨b, rfl⟩ := arg_rel ha
  cases h with
  | cons t ts x xs ha h =>
  obtain ⟨c, rfl⟩ := arg_rel ha
  cases h
  have h0 := rel_sl hg 0 rfl
  have h1 := rel_sl hg 1 rfl
  have h2 := rel_sl hg 2 rfl
  simp only [rOf_len] at h0 h1 h2
  unfold maxLen at h0 h1 h2
  have h := TSets_law a b c (by omega) (by omega) (by omega)
  simp [F_TSets, TSets_is0, TSets_b, h]
theorem tupleSets_reads (os : Os) {H : Type} (enc : TypeId × Value → H) : ∃ places, DataW.whole enc Tryd.prog ((laidWorld os).forCall (fun _ _ => 0) ⟨#[], #[.slice none 0 0, .slice none 0 0, .slice none 0 0], []⟩).memory Tryd.f11.params.toList Rows.tupleSetsSpec.vars false (#[.slice none 0 0, .slice none 0 0, .slice none 0 0] : Array Value).toList 8 = some ([.nil, .nil, .nil], [], places) :=
  ⟨[], by kernel_rfl⟩
theorem tupleSets_lifted (os : Os) (started : os.Started) (H : Type) (enc : TypeId × Value → H) (F : Stop.Interp) :
    ReturnsInHanded {} Tryd.checked os 11 .any ((OpenSpec.ofChange Rows.tupleSetsSpec).preRow enc Tryd.prog Tryd.f11 Rows.tupleSetsRow.domain false Rows.tupleSetsRow.laid) (((OpenSpec.ofChange Rows.tupleSetsSpec).at F).post enc Tryd.prog Tryd.f11 false true false false) := by
  obtain ⟨places, hx⟩ := tupleSets_reads os enc
  refine returnsInHanded_of_row (C := Tryd.checked) (s := OpenSpec.ofChange Rows.tupleSetsSpec) own started (by kernel_rfl) Tryd.func11
    (witness_row_at (enc := enc) (C := Tryd.checked) false (laidWorld os) #[.slice none 0 0, .slice none 0 0, .slice none 0 0] rfl (by kernel_rfl) (by kernel_rfl) (by kernel_rfl)
      (OpenSpec.preRow_of_cond 8 hx (by kernel_rfl) (fun k hk => by cases hk) (by kernel_rfl) (laid_met os _))) ?_
  intro W base args ds gs before hval hW _ _ _ hL _ _
  exact law_calls (s := Rows.tupleSetsSpec) (fun hg => sim_TSets _ hg) tupleSets_true rfl rfl (by kernel_rfl) (fun ds hd => by
    match ds, hd with
    | [d0, d1, d2], _ => rfl) hval hW hL
theorem tupleSets_said : Rows.TupleSetsSaid :=
  OpenClaim.holds_of_cond 11 Tryd.f11 rfl rfl rfl rfl rfl rfl rfl ⟨rfl, rfl, rfl, rfl, rfl⟩ rfl rfl rfl rfl rfl (by kernel_rfl) Tryd.func11 (by kernel_rfl)
    (of_decide_eq_true (by kernel_rfl)) (by unfold Func.isWrapper; first | (rw [if_pos (by decide +kernel)]; kernel_rfl) | (rw [if_neg (by decide +kernel)]; exact ⟨rfl, rfl⟩))
    (fun os started H enc _ F => by rw [OpenClaim.pre_eq_preRow]; exact tupleSets_lifted os started H enc F)
theorem tupleSets_plain (f : FuncId) (fn : Func) (hf : Tryd.pinned.checked.prog.funcNamed "pedigree/pedigreelaw02.TupleSets" = some f) (hfn : Tryd.pinned.checked.prog.funcs[f]? = some fn) :
    true = Tryd.pinned.checked.prog.looks [] ∧ ∀ (j : Nat) t, fn.params[j]? = some t → Tryd.pinned.checked.prog.wantsStandIn t = false := by
  obtain rfl : f = 11 := Option.some.inj ((show Tryd.prog.funcNamed "pedigree/pedigreelaw02.TupleSets" = some 11 by kernel_rfl).symm.trans hf) |>.symm
  obtain rfl : fn = Tryd.f11 := (Option.some.inj (Tryd.func11.symm.trans hfn)).symm
  refine ⟨by kernel_rfl, fun j t ht => ?_⟩
  have hall : (Tryd.f11.params.toList.all fun t => !Tryd.prog.wantsStandIn t) = true := by kernel_rfl
  have h1 := List.all_eq_true.1 hall t (Array.mem_toList_iff.2 (Array.mem_of_getElem? ht))
  have h2 : Tryd.prog.wantsStandIn t = false := by simpa using h1
  exact h2
/-- THE CARD. -/
theorem tupleSets_card : Rows.TupleSetsCardSaid :=
  Claim7.holds_tied_plain_at .later [] _ _ _ _ tupleSets_said (fun _ h => by cases h) (by kernel_rfl) (fun _ h => by cases h) tupleSets_row_tie rfl ⟨rfl, rfl⟩ (by kernel_rfl) rfl tupleSets_plain (by kernel_rfl)
end
end Go.Proofs.YtdfahkeodlfopaaDoor
