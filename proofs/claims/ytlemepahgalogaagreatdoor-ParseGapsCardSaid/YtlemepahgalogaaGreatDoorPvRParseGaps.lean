/- The card of ParseGaps is proved: other gaps and comments between the same words make the same program. Conditions: what the row says (the listed variables start as the text lays them); no other. -/
import Derived.Test.YtlemepahgalogaaGreatDoorPvGa5
set_option maxHeartbeats 4000000
set_option maxRecDepth 200000
set_option linter.unusedSimpArgs false
set_option linter.unusedVariables false
namespace Go.Proofs.YtlemepahgalogaaGreatDoor
open Go Go.Proofs Go.RowKit Go.Pv Go.ChangeShapes Go.WideShapes Go.ChangeAt
section
theorem parseGaps_true : ∀ xs, ArgL Tryz.prog Tryz.f4.params.toList xs → (∃ H w vs, RelL H w xs vs) → (qsq xs).run = some (.bool true) := by
  intro xs h hg
  rw [Tryz.params4] at h
  cases h with
  | cons t ts x xs ha h =>
  obtain ⟨s, rfl⟩ := qBa ha
  cases h with
  | cons t ts x xs ha h =>
  obtain ⟨t, rfl⟩ := qBa ha
  cases h
  exact qGV s t
theorem parseGaps_reads (os : Os) {H : Type} (enc : TypeId × Value → H) : ∃ places, DataW.whole enc Tryz.prog ((qih os).forCall (fun _ _ => 0) ⟨#[], #[.string ⟨#[]⟩, .string ⟨#[]⟩], []⟩).memory Tryz.f4.params.toList Rows.parseGapsSpec.vars false (#[.string ⟨#[]⟩, .string ⟨#[]⟩] : Array Value).toList 8 = some ([.lit (.string []), .lit (.string [])], [], places) :=
  ⟨[], by kernel_rfl⟩
theorem parseGaps_lifted (os : Os) (started : os.Started) (H : Type) (enc : TypeId × Value → H) (F : Stop.Interp) :
    ReturnsInHanded {} Tryz.checked os 4 .any ((OpenSpec.ofChange Rows.parseGapsSpec).preRow enc Tryz.prog Tryz.f4 Rows.parseGapsRow.domain false Rows.parseGapsRow.laid) (((OpenSpec.ofChange Rows.parseGapsSpec).at F).post enc Tryz.prog Tryz.f4 false true false false) := by
  obtain ⟨places, hx⟩ := parseGaps_reads os enc
  refine returnsInHanded_of_row (C := Tryz.checked) (s := OpenSpec.ofChange Rows.parseGapsSpec) own started (by kernel_rfl) Tryz.func4
    (witness_row_at (enc := enc) (C := Tryz.checked) false (qih os) #[.string ⟨#[]⟩, .string ⟨#[]⟩] rfl (by kernel_rfl) (by kernel_rfl) (by kernel_rfl)
      (OpenSpec.preRow_of_cond 8 hx (by kernel_rfl) (fun k hk => by cases hk) (by kernel_rfl) (qD2 os _))) ?_
  intro W base args ds gs before hval hW _ _ _ hL _ _
  exact qyH (s := Rows.parseGapsSpec) (fun hg => qH2 _ hg) parseGaps_true rfl rfl (by kernel_rfl) (fun ds hd => by
    match ds, hd with
    | [d0, d1], _ => rfl) hval hW hL
theorem parseGaps_said : Rows.ParseGapsSaid :=
  OpenClaim.holds_of_cond 4 Tryz.f4 rfl rfl rfl rfl rfl rfl rfl ⟨rfl, rfl, rfl, rfl, rfl⟩ rfl rfl rfl rfl rfl (by kernel_rfl) Tryz.func4 (by kernel_rfl)
    (of_decide_eq_true (by kernel_rfl)) (by unfold Func.isWrapper; first | (rw [if_pos (by decide +kernel)]; kernel_rfl) | (rw [if_neg (by decide +kernel)]; exact ⟨rfl, rfl⟩))
    (fun os started H enc _ F => by rw [OpenClaim.pre_eq_preRow]; exact parseGaps_lifted os started H enc F)
theorem parseGaps_plain (f : FuncId) (fn : Func) (hf : Tryz.pinned.checked.prog.funcNamed "pedigree/pedigreelaw13.ParseGaps" = some f) (hfn : Tryz.pinned.checked.prog.funcs[f]? = some fn) :
    true = Tryz.pinned.checked.prog.looks [] ∧ ∀ (j : Nat) t, fn.params[j]? = some t → Tryz.pinned.checked.prog.wantsStandIn t = false := by
  obtain rfl : f = 4 := Option.some.inj ((show Tryz.prog.funcNamed "pedigree/pedigreelaw13.ParseGaps" = some 4 by kernel_rfl).symm.trans hf) |>.symm
  obtain rfl : fn = Tryz.f4 := (Option.some.inj (Tryz.func4.symm.trans hfn)).symm
  refine ⟨by kernel_rfl, fun j t ht => ?_⟩
  have hall : (Tryz.f4.params.toList.all fun t => !Tryz.prog.wantsStandIn t) = true := by kernel_rfl
  have h1 := List.all_eq_true.1 hall t (Array.mem_toList_iff.2 (Array.mem_of_getElem? ht))
  have h2 : Tryz.prog.wantsStandIn t = false := by simpa using h1
  exact h2
/-- THE CARD. -/
theorem parseGaps_card : Rows.ParseGapsCardSaid :=
  Claim7.holds_tied_plain_at .later [] _ _ _ _ parseGaps_said (fun _ h => by cases h) (by kernel_rfl) (fun _ h => by cases h) parseGaps_row_tie rfl ⟨rfl, rfl⟩ (by kernel_rfl) rfl parseGaps_plain (by kernel_rfl)
end
end Go.Proofs.YtlemepahgalogaaGreatDoor
