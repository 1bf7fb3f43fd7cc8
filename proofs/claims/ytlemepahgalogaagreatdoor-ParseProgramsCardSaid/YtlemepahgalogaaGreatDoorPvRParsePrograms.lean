/- The card of ParsePrograms is proved: the program of any text, or the first word that does not fit, is the one that the document defines. Conditions: what the row says (the listed variables start as the text lays them); no other. -/
import Derived.Test.YtlemepahgalogaaGreatDoorPvGb6
set_option maxHeartbeats 4000000
set_option maxRecDepth 200000
set_option linter.unusedSimpArgs false
set_option linter.unusedVariables false
namespace Go.Proofs.YtlemepahgalogaaGreatDoor
open Go Go.Proofs Go.RowKit Go.Pv Go.ChangeShapes Go.WideShapes Go.ChangeAt
section
theorem parsePrograms_true : ∀ xs, ArgL Tryz.prog Tryz.f3.params.toList xs → (∃ H w vs, RelL H w xs vs) → (qqn xs).run = some (.bool true) := by
  intro xs h hg
  rw [Tryz.params3] at h
  cases h with
  | cons t ts x xs ha h =>
  obtain ⟨s, rfl⟩ := qWX ha
  cases h
  exact qDl s
theorem parsePrograms_reads (os : Os) {H : Type} (enc : TypeId × Value → H) : ∃ places, DataW.whole enc Tryz.prog ((qyx os).forCall (fun _ _ => 0) ⟨#[], #[.string ⟨#[]⟩], []⟩).memory Tryz.f3.params.toList Rows.parseProgramsSpec.vars false (#[.string ⟨#[]⟩] : Array Value).toList 8 = some ([.lit (.string [])], [], places) :=
  ⟨[], by kernel_rfl⟩
theorem parsePrograms_lifted (os : Os) (started : os.Started) (H : Type) (enc : TypeId × Value → H) (F : Stop.Interp) :
    ReturnsInHanded {} Tryz.checked os 3 .any ((OpenSpec.ofChange Rows.parseProgramsSpec).preRow enc Tryz.prog Tryz.f3 Rows.parseProgramsRow.domain false Rows.parseProgramsRow.laid) (((OpenSpec.ofChange Rows.parseProgramsSpec).at F).post enc Tryz.prog Tryz.f3 false true false false) := by
  obtain ⟨places, hx⟩ := parsePrograms_reads os enc
  refine returnsInHanded_of_row (C := Tryz.checked) (s := OpenSpec.ofChange Rows.parseProgramsSpec) own started (by kernel_rfl) Tryz.func3
    (witness_row_at (enc := enc) (C := Tryz.checked) false (qyx os) #[.string ⟨#[]⟩] rfl (by kernel_rfl) (by kernel_rfl) (by kernel_rfl)
      (OpenSpec.preRow_of_cond 8 hx (by kernel_rfl) (fun k hk => by cases hk) (by kernel_rfl) (qUE os _))) ?_
  intro W base args ds gs before hval hW _ _ _ hL _ _
  exact qSo (s := Rows.parseProgramsSpec) (fun hg => qNK _ hg) parsePrograms_true rfl rfl (by kernel_rfl) (fun ds hd => by
    match ds, hd with
    | [d0], _ => rfl) hval hW hL
theorem parsePrograms_said : Rows.ParseProgramsSaid :=
  OpenClaim.holds_of_cond 3 Tryz.f3 rfl rfl rfl rfl rfl rfl rfl ⟨rfl, rfl, rfl, rfl, rfl⟩ rfl rfl rfl rfl rfl (by kernel_rfl) Tryz.func3 (by kernel_rfl)
    (of_decide_eq_true (by kernel_rfl)) (by unfold Func.isWrapper; first | (rw [if_pos (by decide +kernel)]; kernel_rfl) | (rw [if_neg (by decide +kernel)]; exact ⟨rfl, rfl⟩))
    (fun os started H enc _ F => by rw [OpenClaim.pre_eq_preRow]; exact parsePrograms_lifted os started H enc F)
theorem parsePrograms_plain (f : FuncId) (fn : Func) (hf : Tryz.pinned.checked.prog.funcNamed "pedigree/pedigreelaw13.ParsePrograms" = some f) (hfn : Tryz.pinned.checked.prog.funcs[f]? = some fn) :
    true = Tryz.pinned.checked.prog.looks [] ∧ ∀ (j : Nat) t, fn.params[j]? = some t → Tryz.pinned.checked.prog.wantsStandIn t = false := by
  obtain rfl : f = 3 := Option.some.inj ((show Tryz.prog.funcNamed "pedigree/pedigreelaw13.ParsePrograms" = some 3 by kernel_rfl).symm.trans hf) |>.symm
  obtain rfl : fn = Tryz.f3 := (Option.some.inj (Tryz.func3.symm.trans hfn)).symm
  refine ⟨by kernel_rfl, fun j t ht => ?_⟩
  have hall : (Tryz.f3.params.toList.all fun t => !Tryz.prog.wantsStandIn t) = true := by kernel_rfl
  have h1 := List.all_eq_true.1 hall t (Array.mem_toList_iff.2 (Array.mem_of_getElem? ht))
  have h2 : Tryz.prog.wantsStandIn t = false := by simpa using h1
  exact h2
/-- THE CARD. -/
theorem parsePrograms_card : Rows.ParseProgramsCardSaid :=
  Claim7.holds_tied_plain_at .later [] _ _ _ _ parsePrograms_said (fun _ h => by cases h) (by kernel_rfl) (fun _ h => by cases h) parsePrograms_row_tie rfl ⟨rfl, rfl⟩ (by kernel_rfl) rfl parsePrograms_plain (by kernel_rfl)
end
end Go.Proofs.YtlemepahgalogaaGreatDoor
