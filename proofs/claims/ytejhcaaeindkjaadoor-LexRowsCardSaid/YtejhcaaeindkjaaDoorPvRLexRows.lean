/- The card of LexRows is proved: words joined, the line of a place and which words are the same are as the reference has them. Conditions: what the row says (the listed variables start as the text lays them); no other. -/
import Derived.Test.YtejhcaaeindkjaaDoorPvG6
set_option maxHeartbeats 4000000
set_option maxRecDepth 200000
set_option linter.unusedSimpArgs false
set_option linter.unusedVariables false
namespace Go.Proofs.YtejhcaaeindkjaaDoor
open Go Go.Proofs Go.RowKit Go.Pv Go.ChangeShapes Go.WideShapes Go.ChangeAt
section
theorem lexRows_true : ∀ xs, ArgL Tryd.prog Tryd.f8.params.toList xs → (∃ H w vs, RelL H w xs vs) → (F_LexRows xs).run = some (.bool true) := by
  intro xs h hg
  rw [Tryd.params8] at h
  cases h with
  | cons t ts x xs ha h =>
  obtain ⟨l, rfl⟩ := arg_words ha
  cases h with
  | cons t ts x xs ha h =>
  obtain ⟨s, rfl⟩ := arg_str ha
  cases h with
  | cons t ts x xs ha h =>
  obtain ⟨n, rfl⟩ := arg_int Tryd.underlying3 ha
  cases h with
  | cons t ts x xs ha h =>
  obtain ⟨a, rfl⟩ := arg_word ha
  cases h with
  | cons t ts x xs ha h =>
  obtain ⟨b, rfl⟩ := arg_word ha
  cases h
  show (Tr.chk (okR cW (rOf cW l)) (.ret (PV.bool true))).run = _
  rw [okR_of]
  rfl
theorem lexRows_reads (os : Os) {H : Type} (enc : TypeId × Value → H) : ∃ places, DataW.whole enc Tryd.prog ((laidWorld os).forCall (fun _ _ => 0) ⟨#[], #[.slice none 0 0, .string ⟨#[]⟩, .int .i64 0, .agg #[.int .i64 0, .string ⟨#[]⟩, .int .i64 0, .int .i64 0, .string ⟨#[]⟩, .int .i64 0], .agg #[.int .i64 0, .string ⟨#[]⟩, .int .i64 0, .int .i64 0, .string ⟨#[]⟩, .int .i64 0]], []⟩).memory Tryd.f8.params.toList Rows.lexRowsSpec.vars false (#[.slice none 0 0, .string ⟨#[]⟩, .int .i64 0, .agg #[.int .i64 0, .string ⟨#[]⟩, .int .i64 0, .int .i64 0, .string ⟨#[]⟩, .int .i64 0], .agg #[.int .i64 0, .string ⟨#[]⟩, .int .i64 0, .int .i64 0, .string ⟨#[]⟩, .int .i64 0]] : Array Value).toList 8 = some ([.nil, .lit (.string []), .lit (.int .i64 0), .agg [.lit (.int .i64 0), .lit (.string []), .agg [.lit (.int .i64 0), .lit (.int .i64 0), .lit (.string [])], .lit (.int .i64 0)], .agg [.lit (.int .i64 0), .lit (.string []), .agg [.lit (.int .i64 0), .lit (.int .i64 0), .lit (.string [])], .lit (.int .i64 0)]], [], places) :=
  ⟨[], by kernel_rfl⟩
theorem lexRows_lifted (os : Os) (started : os.Started) (H : Type) (enc : TypeId × Value → H) (F : Stop.Interp) :
    ReturnsInHanded {} Tryd.checked os 8 .any ((OpenSpec.ofChange Rows.lexRowsSpec).preRow enc Tryd.prog Tryd.f8 Rows.lexRowsRow.domain false Rows.lexRowsRow.laid) (((OpenSpec.ofChange Rows.lexRowsSpec).at F).post enc Tryd.prog Tryd.f8 false true false false) := by
  obtain ⟨places, hx⟩ := lexRows_reads os enc
  refine returnsInHanded_of_row (C := Tryd.checked) (s := OpenSpec.ofChange Rows.lexRowsSpec) own started (by kernel_rfl) Tryd.func8
    (witness_row_at (enc := enc) (C := Tryd.checked) false (laidWorld os) #[.slice none 0 0, .string ⟨#[]⟩, .int .i64 0, .agg #[.int .i64 0, .string ⟨#[]⟩, .int .i64 0, .int .i64 0, .string ⟨#[]⟩, .int .i64 0], .agg #[.int .i64 0, .string ⟨#[]⟩, .int .i64 0, .int .i64 0, .string ⟨#[]⟩, .int .i64 0]] rfl (by kernel_rfl) (by kernel_rfl) (by kernel_rfl)
      (OpenSpec.preRow_of_cond 8 hx (by kernel_rfl) (fun k hk => by cases hk) (by kernel_rfl) (laid_met os _))) ?_
  intro W base args ds gs before hval hW _ _ _ hL _ _
  exact law_calls (s := Rows.lexRowsSpec) (fun hg => sim_LexRows hg) lexRows_true rfl rfl (by kernel_rfl) (fun ds hd => by
    match ds, hd with
    | [d0, d1, d2, d3, d4], _ => rfl) hval hW hL
theorem lexRows_said : Rows.LexRowsSaid :=
  OpenClaim.holds_of_cond 8 Tryd.f8 rfl rfl rfl rfl rfl rfl rfl ⟨rfl, rfl, rfl, rfl, rfl⟩ rfl rfl rfl rfl rfl (by kernel_rfl) Tryd.func8 (by kernel_rfl)
    (of_decide_eq_true (by kernel_rfl)) (by unfold Func.isWrapper; first | (rw [if_pos (by decide +kernel)]; kernel_rfl) | (rw [if_neg (by decide +kernel)]; exact ⟨rfl, rfl⟩))
    (fun os started H enc _ F => by rw [OpenClaim.pre_eq_preRow]; exact lexRows_lifted os started H enc F)
theorem lexRows_plain (f : FuncId) (fn : Func) (hf : Tryd.pinned.checked.prog.funcNamed "pedigree/pedigreelaw12.LexRows" = some f) (hfn : Tryd.pinned.checked.prog.funcs[f]? = some fn) :
    true = Tryd.pinned.checked.prog.looks [] ∧ ∀ (j : Nat) t, fn.params[j]? = some t → Tryd.pinned.checked.prog.wantsStandIn t = false := by
  obtain rfl : f = 8 := Option.some.inj ((show Tryd.prog.funcNamed "pedigree/pedigreelaw12.LexRows" = some 8 by kernel_rfl).symm.trans hf) |>.symm
  obtain rfl : fn = Tryd.f8 := (Option.some.inj (Tryd.func8.symm.trans hfn)).symm
  refine ⟨by kernel_rfl, fun j t ht => ?_⟩
  have hall : (Tryd.f8.params.toList.all fun t => !Tryd.prog.wantsStandIn t) = true := by kernel_rfl
  have h1 := List.all_eq_true.1 hall t (Array.mem_toList_iff.2 (Array.mem_of_getElem? ht))
  have h2 : Tryd.prog.wantsStandIn t = false := by simpa using h1
  exact h2
/-- THE CARD. -/
theorem lexRows_card : Rows.LexRowsCardSaid :=
  Claim7.holds_tied_plain_at .later [] _ _ _ _ lexRows_said (fun _ h => by cases h) (by kernel_rfl) (fun _ h => by cases h) lexRows_row_tie rfl ⟨rfl, rfl⟩ (by kernel_rfl) rfl lexRows_plain (by kernel_rfl)
end
end Go.Proofs.YtejhcaaeindkjaaDoor
