/- The card of ValueThree is proved: of any two values just one is so - ahead, alike, behind. Conditions: what the row says (the listed variables start as the text lays them); no other. -/
import Derived.Test.YtpicepaiigbgkaaDoorPvL2
import Derived.Test.YtpicepaiigbgkaaDoorPvK
set_option maxHeartbeats 4000000
set_option maxRecDepth 200000
set_option linter.unusedSimpArgs false
set_option linter.unusedVariables false
namespace Go.Proofs.YtpicepaiigbgkaaDoor
open Go Go.Proofs Go.RowKit Go.Pv Go.ChangeShapes Go.WideShapes Go.ChangeAt

/-! ### ValueThree -/
section
theorem valueThree_true : ∀ xs, ArgL Tryd.prog Tryd.f8.params.toList xs → (F_Value2t xs).run = some (.bool true) := by
  intro xs h
  rw [Tryd.params8] at h
  cases h with
  | cons t ts x xs ha h =>
  obtain ⟨k0, n0, s0, rfl⟩ := arg_val ha
  cases h with
  | cons t ts x xs ha h =>
  obtain ⟨k1, n1, s1, rfl⟩ := arg_val ha
  cases h
  rfl
theorem valueThree_reads (os : Os) {H : Type} (enc : TypeId × Value → H) : ∃ places, DataW.whole enc Tryd.prog ((laidWorld os).forCall (fun _ _ => 0) ⟨#[], #[.agg #[.int .i64 1, .int .i64 0, .string ⟨#[]⟩], .agg #[.int .i64 1, .int .i64 0, .string ⟨#[]⟩]], []⟩).memory Tryd.f8.params.toList Rows.valueThreeSpec.vars false (#[.agg #[.int .i64 1, .int .i64 0, .string ⟨#[]⟩], .agg #[.int .i64 1, .int .i64 0, .string ⟨#[]⟩]] : Array Value).toList 8 = some ([.agg [.lit (.int .i64 1), .lit (.int .i64 0), .lit (.string [])], .agg [.lit (.int .i64 1), .lit (.int .i64 0), .lit (.string [])]], [], places) :=
  ⟨[], by kernel_rfl⟩
theorem valueThree_lifted (os : Os) (started : os.Started) (H : Type) (enc : TypeId × Value → H) (F : Stop.Interp) :
    ReturnsInHanded {} Tryd.checked os 8 .any ((OpenSpec.ofChange Rows.valueThreeSpec).preRow enc Tryd.prog Tryd.f8 Rows.valueThreeRow.domain false Rows.valueThreeRow.laid) (((OpenSpec.ofChange Rows.valueThreeSpec).at F).post enc Tryd.prog Tryd.f8 false true false false) := by
  obtain ⟨places, hx⟩ := valueThree_reads os enc
  refine returnsInHanded_of_row (C := Tryd.checked) (s := OpenSpec.ofChange Rows.valueThreeSpec) own started (by kernel_rfl) Tryd.func8
    (witness_row_at (enc := enc) (C := Tryd.checked) false (laidWorld os) #[.agg #[.int .i64 1, .int .i64 0, .string ⟨#[]⟩], .agg #[.int .i64 1, .int .i64 0, .string ⟨#[]⟩]] rfl (by kernel_rfl) (by kernel_rfl) (by kernel_rfl)
      (OpenSpec.preRow_of_cond 8 hx (by kernel_rfl) (fun k hk => by cases hk) (by kernel_rfl) (laid_met os _))) ?_
  intro W base args ds gs before hval hW _ _ _ hL _ _
  exact law_calls (s := Rows.valueThreeSpec) sim_ValueThree valueThree_true rfl rfl (by kernel_rfl) (fun ds hd => by
    match ds, hd with
    | [d0, d1], _ => rfl) hval hW hL
theorem valueThree_said : Rows.ValueThreeSaid :=
  OpenClaim.holds_of_cond 8 Tryd.f8 rfl rfl rfl rfl rfl rfl rfl ⟨rfl, rfl, rfl, rfl, rfl⟩ rfl rfl rfl rfl rfl (by kernel_rfl) Tryd.func8 (by kernel_rfl)
    (of_decide_eq_true (by kernel_rfl)) (by unfold Func.isWrapper; first | (rw [if_pos (by decide +kernel)]; kernel_rfl) | (rw [if_neg (by decide +kernel)]; exact ⟨rfl, rfl⟩))
    (fun os started H enc _ F => by rw [OpenClaim.pre_eq_preRow]; exact valueThree_lifted os started H enc F)
theorem valueThree_plain (f : FuncId) (fn : Func) (hf : Tryd.pinned.checked.prog.funcNamed "pedigree/pedigreelaw01.ValueThree" = some f) (hfn : Tryd.pinned.checked.prog.funcs[f]? = some fn) :
    true = Tryd.pinned.checked.prog.looks [] ∧ ∀ (j : Nat) t, fn.params[j]? = some t → Tryd.pinned.checked.prog.wantsStandIn t = false := by
  obtain rfl : f = 8 := Option.some.inj ((show Tryd.prog.funcNamed "pedigree/pedigreelaw01.ValueThree" = some 8 by kernel_rfl).symm.trans hf) |>.symm
  obtain rfl : fn = Tryd.f8 := (Option.some.inj (Tryd.func8.symm.trans hfn)).symm
  refine ⟨by kernel_rfl, fun j t ht => ?_⟩
  have hall : (Tryd.f8.params.toList.all fun t => !Tryd.prog.wantsStandIn t) = true := by kernel_rfl
  have h1 := List.all_eq_true.1 hall t (Array.mem_toList_iff.2 (Array.mem_of_getElem? ht))
  have h2 : Tryd.prog.wantsStandIn t = false := by simpa using h1
  exact h2
/-- THE CARD. -/
theorem valueThree_card : Rows.ValueThreeCardSaid :=
  Claim7.holds_tied_plain_at .later [] _ _ _ _ valueThree_said (fun _ h => by cases h) (by kernel_rfl) (fun _ h => by cases h) valueThree_row_tie rfl ⟨rfl, rfl⟩ (by kernel_rfl) rfl valueThree_plain (by kernel_rfl)
end
end Go.Proofs.YtpicepaiigbgkaaDoor
