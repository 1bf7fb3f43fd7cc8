/- The card of ParseSames is proved: which programs, rules and atoms are alike is as the document defines. Conditions: what the row says (the listed variables start as the text lays them); no other. -/
import Derived.Test.YtlemepahgalogaaGreatDoorPvGd5
set_option maxHeartbeats 4000000
set_option maxRecDepth 200000
set_option linter.unusedSimpArgs false
set_option linter.unusedVariables false
namespace Go.Proofs.YtlemepahgalogaaGreatDoor
open Go Go.Proofs Go.RowKit Go.Pv Go.ChangeShapes Go.WideShapes Go.ChangeAt
section
theorem parseSames_true : ∀ xs, ArgL Tryz.prog Tryz.f8.params.toList xs → (∃ H w vs, RelL H w xs vs) → (qkQ xs).run = some (.bool true) := by
  intro xs h hg
  rw [Tryz.params8] at h
  cases h with
  | cons t ts x xs ha h =>
  obtain ⟨p, rfl⟩ := qAJ ha
  cases h with
  | cons t ts x xs ha h =>
  obtain ⟨q, rfl⟩ := qAJ ha
  cases h
  exact qCE p q hg
theorem parseSames_reads (os : Os) {H : Type} (enc : TypeId × Value → H) : ∃ places, DataW.whole enc Tryz.prog ((qpW os).forCall (fun _ _ => 0) ⟨#[], #[.agg #[.slice none 0 0, .slice none 0 0, .slice none 0 0], .agg #[.slice none 0 0, .slice none 0 0, .slice none 0 0]], []⟩).memory Tryz.f8.params.toList Rows.parseSamesSpec.vars false (#[.agg #[.slice none 0 0, .slice none 0 0, .slice none 0 0], .agg #[.slice none 0 0, .slice none 0 0, .slice none 0 0]] : Array Value).toList 8 = some ([.agg [.nil, .nil, .nil], .agg [.nil, .nil, .nil]], [], places) :=
  ⟨[], by kernel_rfl⟩
theorem parseSames_lifted (os : Os) (started : os.Started) (H : Type) (enc : TypeId × Value → H) (F : Stop.Interp) :
    ReturnsInHanded {} Tryz.checked os 8 .any ((OpenSpec.ofChange Rows.parseSamesSpec).preRow enc Tryz.prog Tryz.f8 Rows.parseSamesRow.domain false Rows.parseSamesRow.laid) (((OpenSpec.ofChange Rows.parseSamesSpec).at F).post enc Tryz.prog Tryz.f8 false true false false) := by
  obtain ⟨places, hx⟩ := parseSames_reads os enc
  refine returnsInHanded_of_row (C := Tryz.checked) (s := OpenSpec.ofChange Rows.parseSamesSpec) own started (by kernel_rfl) Tryz.func8
    (witness_row_at (enc := enc) (C := Tryz.checked) false (qpW os) #[.agg #[.slice none 0 0, .slice none 0 0, .slice none 0 0], .agg #[.slice none 0 0, .slice none 0 0, .slice none 0 0]] rfl (by kernel_rfl) (by kernel_rfl) (by kernel_rfl)
      (OpenSpec.preRow_of_cond 8 hx (by kernel_rfl) (fun k hk => by cases hk) (by kernel_rfl) (qIb os _))) ?_
  intro W base args ds gs before hval hW _ _ _ hL _ _
  exact qDw (s := Rows.parseSamesSpec) (fun hg => qCt _ hg) parseSames_true rfl rfl (by kernel_rfl) (fun ds hd => by
    match ds, hd with
    | [d0, d1], _ => rfl) hval hW hL
theorem parseSames_said : Rows.ParseSamesSaid :=
  OpenClaim.holds_of_cond 8 Tryz.f8 rfl rfl rfl rfl rfl rfl rfl ⟨rfl, rfl, rfl, rfl, rfl⟩ rfl rfl rfl rfl rfl (by kernel_rfl) Tryz.func8 (by kernel_rfl)
    (of_decide_eq_true (by kernel_rfl)) (by unfold Func.isWrapper; first | (rw [if_pos (by decide +kernel)]; kernel_rfl) | (rw [if_neg (by decide +kernel)]; exact ⟨rfl, rfl⟩))
    (fun os started H enc _ F => by rw [OpenClaim.pre_eq_preRow]; exact parseSames_lifted os started H enc F)
theorem parseSames_plain (f : FuncId) (fn : Func) (hf : Tryz.pinned.checked.prog.funcNamed "pedigree/pedigreelaw13.ParseSames" = some f) (hfn : Tryz.pinned.checked.prog.funcs[f]? = some fn) :
    true = Tryz.pinned.checked.prog.looks [] ∧ ∀ (j : Nat) t, fn.params[j]? = some t → Tryz.pinned.checked.prog.wantsStandIn t = false := by
  obtain rfl : f = 8 := Option.some.inj ((show Tryz.prog.funcNamed "pedigree/pedigreelaw13.ParseSames" = some 8 by kernel_rfl).symm.trans hf) |>.symm
  obtain rfl : fn = Tryz.f8 := (Option.some.inj (Tryz.func8.symm.trans hfn)).symm
  refine ⟨by kernel_rfl, fun j t ht => ?_⟩
  have hall : (Tryz.f8.params.toList.all fun t => !Tryz.prog.wantsStandIn t) = true := by kernel_rfl
  have h1 := List.all_eq_true.1 hall t (Array.mem_toList_iff.2 (Array.mem_of_getElem? ht))
  have h2 : Tryz.prog.wantsStandIn t = false := by simpa using h1
  exact h2
/-- THE CARD. -/
theorem parseSames_card : Rows.ParseSamesCardSaid :=
  Claim7.holds_tied_plain_at .later [] _ _ _ _ parseSames_said (fun _ h => by cases h) (by kernel_rfl) (fun _ h => by cases h) parseSames_row_tie rfl ⟨rfl, rfl⟩ (by kernel_rfl) rfl parseSames_plain (by kernel_rfl)
end
end Go.Proofs.YtlemepahgalogaaGreatDoor
