/- The card of ParseRules is proved: a text that is a rule is a program of that rule alone. Conditions: what the row says (the listed variables start as the text lays them); no other. -/
import Derived.Test.YtlemepahgalogaaGreatDoorPvGa5
set_option maxHeartbeats 4000000
set_option maxRecDepth 200000
set_option linter.unusedSimpArgs false
set_option linter.unusedVariables false
namespace Go.Proofs.YtlemepahgalogaaGreatDoor
open Go Go.Proofs Go.RowKit Go.Pv Go.ChangeShapes Go.WideShapes Go.ChangeAt
section
theorem parseRules_true : ∀ xs, ArgL Tryz.prog Tryz.f6.params.toList xs → (∃ H w vs, RelL H w xs vs) → (qmx xs).run = some (.bool true) := by
  intro xs h hg
  rw [Tryz.params6] at h
  cases h with
  | cons t ts x xs ha h =>
  obtain ⟨s, rfl⟩ := qBa ha
  cases h
  exact qFw s
theorem parseRules_reads (os : Os) {H : Type} (enc : TypeId × Value → H) : ∃ places, DataW.whole enc Tryz.prog ((qih os).forCall (fun _ _ => 0) ⟨#[], #[.string ⟨#[]⟩], []⟩).memory Tryz.f6.params.toList Rows.parseRulesSpec.vars false (#[.string ⟨#[]⟩] : Array Value).toList 8 = some ([.lit (.string [])], [], places) :=
  ⟨[], by kernel_rfl⟩
theorem parseRules_lifted (os : Os) (started : os.Started) (H : Type) (enc : TypeId × Value → H) (F : Stop.Interp) :
    ReturnsInHanded {} Tryz.checked os 6 .any ((OpenSpec.ofChange Rows.parseRulesSpec).preRow enc Tryz.prog Tryz.f6 Rows.parseRulesRow.domain false Rows.parseRulesRow.laid) (((OpenSpec.ofChange Rows.parseRulesSpec).at F).post enc Tryz.prog Tryz.f6 false true false false) := by
  obtain ⟨places, hx⟩ := parseRules_reads os enc
  refine returnsInHanded_of_row (C := Tryz.checked) (s := OpenSpec.ofChange Rows.parseRulesSpec) own started (by kernel_rfl) Tryz.func6
    (witness_row_at (enc := enc) (C := Tryz.checked) false (qih os) #[.string ⟨#[]⟩] rfl (by kernel_rfl) (by kernel_rfl) (by kernel_rfl)
      (OpenSpec.preRow_of_cond 8 hx (by kernel_rfl) (fun k hk => by cases hk) (by kernel_rfl) (qD2 os _))) ?_
  intro W base args ds gs before hval hW _ _ _ hL _ _
  exact qyH (s := Rows.parseRulesSpec) (fun hg => qER _ hg) parseRules_true rfl rfl (by kernel_rfl) (fun ds hd => by
    match ds, hd with
    | [d0], _ => rfl) hval hW hL
theorem parseRules_said : Rows.ParseRulesSaid :=
  OpenClaim.holds_of_cond 6 Tryz.f6 rfl rfl rfl rfl rfl rfl rfl ⟨rfl, rfl, rfl, rfl, rfl⟩ rfl rfl rfl rfl rfl (by kernel_rfl) Tryz.func6 (by kernel_rfl)
    (of_decide_eq_true (by kernel_rfl)) (by unfold Func.isWrapper; first | (rw [if_pos (by decide +kernel)]; kernel_rfl) | (rw [if_neg (by decide +kernel)]; exact ⟨rfl, rfl⟩))
    (fun os started H enc _ F => by rw [OpenClaim.pre_eq_preRow]; exact parseRules_lifted os started H enc F)
theorem parseRules_plain (f : FuncId) (fn : Func) (hf : Tryz.pinned.checked.prog.funcNamed "pedigree/pedigreelaw13.ParseRules" = some f) (hfn : Tryz.pinned.checked.prog.funcs[f]? = some fn) :
    true = Tryz.pinned.checked.prog.looks [] ∧ ∀ (j : Nat) t, fn.params[j]? = some t → Tryz.pinned.checked.prog.wantsStandIn t = false := by
  obtain rfl : f = 6 := Option.some.inj ((show Tryz.prog.funcNamed "pedigree/pedigreelaw13.ParseRules" = some 6 by kernel_rfl).symm.trans hf) |>.symm
  obtain rfl : fn = Tryz.f6 := (Option.some.inj (Tryz.func6.symm.trans hfn)).symm
  refine ⟨by kernel_rfl, fun j t ht => ?_⟩
  have hall : (Tryz.f6.params.toList.all fun t => !Tryz.prog.wantsStandIn t) = true := by kernel_rfl
  have h1 := List.all_eq_true.1 hall t (Array.mem_toList_iff.2 (Array.mem_of_getElem? ht))
  have h2 : Tryz.prog.wantsStandIn t = false := by simpa using h1
  exact h2
/-- THE CARD. -/
theorem parseRules_card : Rows.ParseRulesCardSaid :=
  Claim7.holds_tied_plain_at .later [] _ _ _ _ parseRules_said (fun _ h => by cases h) (by kernel_rfl) (fun _ h => by cases h) parseRules_row_tie rfl ⟨rfl, rfl⟩ (by kernel_rfl) rfl parseRules_plain (by kernel_rfl)
end
end Go.Proofs.YtlemepahgalogaaGreatDoor
