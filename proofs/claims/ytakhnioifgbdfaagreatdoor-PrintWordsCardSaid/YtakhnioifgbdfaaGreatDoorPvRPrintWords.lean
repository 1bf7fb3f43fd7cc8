/- The card of PrintWords is proved: the text of a program has words. Conditions: what the row says (the listed variables start as the text lays them); no other. -/
import Derived.Test.YtakhnioifgbdfaaGreatDoorPvG6
set_option maxHeartbeats 4000000
set_option maxRecDepth 200000
set_option linter.unusedSimpArgs false
set_option linter.unusedVariables false
namespace Go.Proofs.YtakhnioifgbdfaaGreatDoor
open Go Go.Proofs Go.RowKit Go.Pv Go.ChangeShapes Go.WideShapes Go.ChangeAt
section
theorem printWords_true : ∀ xs, ArgL Tryz.prog Tryz.f7.params.toList xs → (∃ H w vs, RelL H w xs vs) → (qma xs).run = some (.bool true) := by
  intro xs h hg
  rw [Tryz.params7] at h
  cases h with
  | cons t ts x xs ha h =>
  obtain ⟨p, rfl⟩ := qG9 ha
  cases h
  exact qAq p hg
theorem printWords_reads (os : Os) {H : Type} (enc : TypeId × Value → H) : ∃ places, DataW.whole enc Tryz.prog ((qq2 os).forCall (fun _ _ => 0) ⟨#[], #[.agg #[.slice none 0 0, .slice none 0 0, .slice none 0 0]], []⟩).memory Tryz.f7.params.toList Rows.printWordsSpec.vars false (#[.agg #[.slice none 0 0, .slice none 0 0, .slice none 0 0]] : Array Value).toList 8 = some ([.agg [.nil, .nil, .nil]], [], places) :=
  ⟨[], by kernel_rfl⟩
theorem printWords_lifted (os : Os) (started : os.Started) (H : Type) (enc : TypeId × Value → H) (F : Stop.Interp) :
    ReturnsInHanded {} Tryz.checked os 7 .any ((OpenSpec.ofChange Rows.printWordsSpec).preRow enc Tryz.prog Tryz.f7 Rows.printWordsRow.domain false Rows.printWordsRow.laid) (((OpenSpec.ofChange Rows.printWordsSpec).at F).post enc Tryz.prog Tryz.f7 false true false false) := by
  obtain ⟨places, hx⟩ := printWords_reads os enc
  refine returnsInHanded_of_row (C := Tryz.checked) (s := OpenSpec.ofChange Rows.printWordsSpec) own started (by kernel_rfl) Tryz.func7
    (witness_row_at (enc := enc) (C := Tryz.checked) false (qq2 os) #[.agg #[.slice none 0 0, .slice none 0 0, .slice none 0 0]] rfl (by kernel_rfl) (by kernel_rfl) (by kernel_rfl)
      (OpenSpec.preRow_of_cond 8 hx (by kernel_rfl) (fun k hk => by cases hk) (by kernel_rfl) (qF9 os _))) ?_
  intro W base args ds gs before hval hW _ _ _ hL _ _
  exact qEh (s := Rows.printWordsSpec) (fun hg => qzY _ hg) printWords_true rfl rfl (by kernel_rfl) (fun ds hd => by
    match ds, hd with
    | [d0], _ => rfl) hval hW hL
theorem printWords_said : Rows.PrintWordsSaid :=
  OpenClaim.holds_of_cond 7 Tryz.f7 rfl rfl rfl rfl rfl rfl rfl ⟨rfl, rfl, rfl, rfl, rfl⟩ rfl rfl rfl rfl rfl (by kernel_rfl) Tryz.func7 (by kernel_rfl)
    (of_decide_eq_true (by kernel_rfl)) (by unfold Func.isWrapper; first | (rw [if_pos (by decide +kernel)]; kernel_rfl) | (rw [if_neg (by decide +kernel)]; exact ⟨rfl, rfl⟩))
    (fun os started H enc _ F => by rw [OpenClaim.pre_eq_preRow]; exact printWords_lifted os started H enc F)
theorem printWords_plain (f : FuncId) (fn : Func) (hf : Tryz.pinned.checked.prog.funcNamed "pedigree/pedigreelaw14.PrintWords" = some f) (hfn : Tryz.pinned.checked.prog.funcs[f]? = some fn) :
    true = Tryz.pinned.checked.prog.looks [] ∧ ∀ (j : Nat) t, fn.params[j]? = some t → Tryz.pinned.checked.prog.wantsStandIn t = false := by
  obtain rfl : f = 7 := Option.some.inj ((show Tryz.prog.funcNamed "pedigree/pedigreelaw14.PrintWords" = some 7 by kernel_rfl).symm.trans hf) |>.symm
  obtain rfl : fn = Tryz.f7 := (Option.some.inj (Tryz.func7.symm.trans hfn)).symm
  refine ⟨by kernel_rfl, fun j t ht => ?_⟩
  have hall : (Tryz.f7.params.toList.all fun t => !Tryz.prog.wantsStandIn t) = true := by kernel_rfl
  have h1 := List.all_eq_true.1 hall t (Array.mem_toList_iff.2 (Array.mem_of_getElem? ht))
  have h2 : Tryz.prog.wantsStandIn t = false := by simpa using h1
  exact h2
/-- THE CARD. -/
theorem printWords_card : Rows.PrintWordsCardSaid :=
  Claim7.holds_tied_plain_at .later [] _ _ _ _ printWords_said (fun _ h => by cases h) (by kernel_rfl) (fun _ h => by cases h) printWords_row_tie rfl ⟨rfl, rfl⟩ (by kernel_rfl) rfl printWords_plain (by kernel_rfl)
end
end Go.Proofs.YtakhnioifgbdfaaGreatDoor
