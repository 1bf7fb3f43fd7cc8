/- The card of TupleMany is proved: too many tuples are no relation. Conditions: what the row says (the listed variables start as the text lays them); no other. -/
import Derived.Test.YtdfahkeodlfopaaDoorPvG5
set_option maxHeartbeats 4000000
set_option maxRecDepth 200000
set_option linter.unusedSimpArgs false
set_option linter.unusedVariables false
namespace Go.Proofs.YtdfahkeodlfopaaDoor
open Go Go.Proofs Go.RowKit Go.Pv Go.ChangeShapes Go.WideShapes Go.ChangeAt
section
theorem tupleMany_true : ∀ xs, ArgL Tryd.prog Tryd.f8.params.toList xs → (∃ H w vs, RelL H w xs vs) → (F_TMany xs).run = some (.bool true) := by
  intro xs h hg
  rw [Tryd.params8] at h
  cases h with
  | cons t ts x xs ha h =>
  obtain ⟨n, rfl⟩ := arg_int Tryd.underlying5 ha
  cases h
  obtain ⟨H, w, vs, hr⟩ := hg
  cases hr with
  | cons _ v _ vs hv hvs =>
    cases hv with
    | int _ _ hwf =>
      simp [Lit.wf, IntKind.min, IntKind.max, IntKind.signed, IntKind.bits] at hwf
      obtain ⟨m, rfl⟩ : ∃ m : Nat, n = (m : Int) := ⟨n.toNat, by omega⟩
      have h := TMany_law m (by omega)
      simp [F_TMany, TMany_is0, TMany_b, h]
theorem tupleMany_reads (os : Os) {H : Type} (enc : TypeId × Value → H) : ∃ places, DataW.whole enc Tryd.prog ((laidWorld os).forCall (fun _ _ => 0) ⟨#[], #[.int .u8 0], []⟩).memory Tryd.f8.params.toList Rows.tupleManySpec.vars false (#[.int .u8 0] : Array Value).toList 8 = some ([.lit (.int .u8 0)], [], places) :=
  ⟨[], by kernel_rfl⟩
theorem tupleMany_lifted (os : Os) (started : os.Started) (H : Type) (enc : TypeId × Value → H) (F : Stop.Interp) :
    ReturnsInHanded {} Tryd.checked os 8 .any ((OpenSpec.ofChange Rows.tupleManySpec).preRow enc Tryd.prog Tryd.f8 Rows.tupleManyRow.domain false Rows.tupleManyRow.laid) (((OpenSpec.ofChange Rows.tupleManySpec).at F).post enc Tryd.prog Tryd.f8 false true false false) := by
  obtain ⟨places, hx⟩ := tupleMany_reads os enc
  refine returnsInHanded_of_row (C := Tryd.checked) (s := OpenSpec.ofChange Rows.tupleManySpec) own started (by kernel_rfl) Tryd.func8
    (witness_row_at (enc := enc) (C := Tryd.checked) false (laidWorld os) #[.int .u8 0] rfl (by kernel_rfl) (by kernel_rfl) (by kernel_rfl)
      (OpenSpec.preRow_of_cond 8 hx (by kernel_rfl) (fun k hk => by cases hk) (by kernel_rfl) (laid_met os _))) ?_
  intro W base args ds gs before hval hW _ _ _ hL _ _
  exact law_calls (s := Rows.tupleManySpec) (fun hg => sim_TMany _ hg) tupleMany_true rfl rfl (by kernel_rfl) (fun ds hd => by
    match ds, hd with
    | [d0], _ => rfl) hval hW hL
theorem tupleMany_said : Rows.TupleManySaid :=
  OpenClaim.holds_of_cond 8 Tryd.f8 rfl rfl rfl rfl rfl rfl rfl ⟨rfl, rfl, rfl, rfl, rfl⟩ rfl rfl rfl rfl rfl (by kernel_rfl) Tryd.func8 (by kernel_rfl)
    (of_decide_eq_true (by kernel_rfl)) (by unfold Func.isWrapper; first | (rw [if_pos (by decide +kernel)]; kernel_rfl) | (rw [if_neg (by decide +kernel)]; exact ⟨rfl, rfl⟩))
    (fun os started H enc _ F => by rw [OpenClaim.pre_eq_preRow]; exact tupleMany_lifted os started H enc F)
theorem tupleMany_plain (f : FuncId) (fn : Func) (hf : Tryd.pinned.checked.prog.funcNamed "pedigree/pedigreelaw02.TupleMany" = some f) (hfn : Tryd.pinned.checked.prog.funcs[f]? = some fn) :
    true = Tryd.pinned.checked.prog.looks [] ∧ ∀ (j : Nat) t, fn.params[j]? = some t → Tryd.pinned.checked.prog.wantsStandIn t = false := by
  obtain rfl : f = 8 := Option.some.inj ((show Tryd.prog.funcNamed "pedigree/pedigreelaw02.TupleMany" = some 8 by kernel_rfl).symm.trans hf) |>.symm
  obtain rfl : fn = Tryd.f8 := (Option.some.inj (Tryd.func8.symm.trans hfn)).symm
  refine ⟨by kernel_rfl, fun j t ht => ?_⟩
  have hall : (Tryd.f8.params.toList.all fun t => !Tryd.prog.wantsStandIn t) = true := by kernel_rfl
  have h1 := List.all_eq_true.1 hall t (Array.mem_toList_iff.2 (Array.mem_of_getElem? ht))
  have h2 : Tryd.prog.wantsStandIn t = false := by simpa using h1
  exact h2
/-- THE CARD. -/
theorem tupleMany_card : Rows.TupleManyCardSaid :=
  Claim7.holds_tied_plain_at .later [] _ _ _ _ tupleMany_said (fun _ h => by cases h) (by kernel_rfl) (fun _ h => by cases h) tupleMany_row_tie rfl ⟨rfl, rfl⟩ (by kernel_rfl) rfl tupleMany_plain (by kernel_rfl)
end
end Go.Proofs.YtdfahkeodlfopaaDoor
