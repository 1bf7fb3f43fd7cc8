/- The card of LexGaps is proved: a gap more between two words, or a comment behind the last one, changes no word. Conditions: what the row says (the listed variables start as the text lays them); no other. -/
import Derived.Test.YtejhcaaeindkjaaDoorPvG6
set_option maxHeartbeats 4000000
set_option maxRecDepth 200000
set_option linter.unusedSimpArgs false
set_option linter.unusedVariables false
namespace Go.Proofs.YtejhcaaeindkjaaDoor
open Go Go.Proofs Go.RowKit Go.Pv Go.ChangeShapes Go.WideShapes Go.ChangeAt
section
theorem lexGaps_true : ∀ xs, ArgL Tryd.prog Tryd.f7.params.toList xs → (∃ H w vs, RelL H w xs vs) → (F_LexGaps xs).run = some (.bool true) := by
  intro xs h hg
  rw [Tryd.params7] at h
  cases h with
  | cons t ts x xs ha h =>
  obtain ⟨s, rfl⟩ := arg_str ha
  cases h with
  | cons t ts x xs ha h =>
  obtain ⟨k, rfl⟩ := arg_int Tryd.underlying40 ha
  cases h with
  | cons t ts x xs ha h =>
  obtain ⟨n, rfl⟩ := arg_int Tryd.underlying5 ha
  cases h with
  | cons t ts x xs ha h =>
  obtain ⟨t, rfl⟩ := arg_str ha
  cases h
  obtain ⟨H, w, vs, hr⟩ := hg
  cases hr with
  | cons _ v _ vs hv hvs =>
    cases hvs with
    | cons _ v _ vs hk hvs =>
      cases hvs with
      | cons _ v _ vs hn hvs =>
        cases hk with
        | int _ _ hk =>
          cases hn with
          | int _ _ hn =>
            simp [Lit.wf, IntKind.min, IntKind.max, IntKind.signed, IntKind.bits] at hk hn
            have h2 : k ≤ 18446744073709551615 := by omega
            have h4 : n ≤ 255 := by omega
            simp [F_LexGaps, hk.1, hn.1, h2, h4]
            rfl
theorem lexGaps_reads (os : Os) {H : Type} (enc : TypeId × Value → H) : ∃ places, DataW.whole enc Tryd.prog ((laidWorld os).forCall (fun _ _ => 0) ⟨#[], #[.string ⟨#[]⟩, .int .u64 0, .int .u8 0, .string ⟨#[]⟩], []⟩).memory Tryd.f7.params.toList Rows.lexGapsSpec.vars false (#[.string ⟨#[]⟩, .int .u64 0, .int .u8 0, .string ⟨#[]⟩] : Array Value).toList 8 = some ([.lit (.string []), .lit (.int .u64 0), .lit (.int .u8 0), .lit (.string [])], [], places) :=
  ⟨[], by kernel_rfl⟩
theorem lexGaps_lifted (os : Os) (started : os.Started) (H : Type) (enc : TypeId × Value → H) (F : Stop.Interp) :
    ReturnsInHanded {} Tryd.checked os 7 .any ((OpenSpec.ofChange Rows.lexGapsSpec).preRow enc Tryd.prog Tryd.f7 Rows.lexGapsRow.domain false Rows.lexGapsRow.laid) (((OpenSpec.ofChange Rows.lexGapsSpec).at F).post enc Tryd.prog Tryd.f7 false true false false) := by
  obtain ⟨places, hx⟩ := lexGaps_reads os enc
  refine returnsInHanded_of_row (C := Tryd.checked) (s := OpenSpec.ofChange Rows.lexGapsSpec) own started (by kernel_rfl) Tryd.func7
    (witness_row_at (enc := enc) (C := Tryd.checked) false (laidWorld os) #[.string ⟨#[]⟩, .int .u64 0, .int .u8 0, .string ⟨#[]⟩] rfl (by kernel_rfl) (by kernel_rfl) (by kernel_rfl)
      (OpenSpec.preRow_of_cond 8 hx (by kernel_rfl) (fun k hk => by cases hk) (by kernel_rfl) (laid_met os _))) ?_
  intro W base args ds gs before hval hW _ _ _ hL _ _
  exact law_calls (s := Rows.lexGapsSpec) (fun hg => sim_LexGaps hg) lexGaps_true rfl rfl (by kernel_rfl) (fun ds hd => by
    match ds, hd with
    | [d0, d1, d2, d3], _ => rfl) hval hW hL
theorem lexGaps_said : Rows.LexGapsSaid :=
  OpenClaim.holds_of_cond 7 Tryd.f7 rfl rfl rfl rfl rfl rfl rfl ⟨rfl, rfl, rfl, rfl, rfl⟩ rfl rfl rfl rfl rfl (by kernel_rfl) Tryd.func7 (by kernel_rfl)
    (of_decide_eq_true (by kernel_rfl)) (by unfold Func.isWrapper; first | (rw [if_pos (by decide +kernel)]; kernel_rfl) | (rw [if_neg (by decide +kernel)]; exact ⟨rfl, rfl⟩))
    (fun os started H enc _ F => by rw [OpenClaim.pre_eq_preRow]; exact lexGaps_lifted os started H enc F)
theorem lexGaps_plain (f : FuncId) (fn : Func) (hf : Tryd.pinned.checked.prog.funcNamed "pedigree/pedigreelaw12.LexGaps" = some f) (hfn : Tryd.pinned.checked.prog.funcs[f]? = some fn) :
    true = Tryd.pinned.checked.prog.looks [] ∧ ∀ (j : Nat) t, fn.params[j]? = some t → Tryd.pinned.checked.prog.wantsStandIn t = false := by
  obtain rfl : f = 7 := Option.some.inj ((show Tryd.prog.funcNamed "pedigree/pedigreelaw12.LexGaps" = some 7 by kernel_rfl).symm.trans hf) |>.symm
  obtain rfl : fn = Tryd.f7 := (Option.some.inj (Tryd.func7.symm.trans hfn)).symm
  refine ⟨by kernel_rfl, fun j t ht => ?_⟩
  have hall : (Tryd.f7.params.toList.all fun t => !Tryd.prog.wantsStandIn t) = true := by kernel_rfl
  have h1 := List.all_eq_true.1 hall t (Array.mem_toList_iff.2 (Array.mem_of_getElem? ht))
  have h2 : Tryd.prog.wantsStandIn t = false := by simpa using h1
  exact h2
/-- THE CARD. -/
theorem lexGaps_card : Rows.LexGapsCardSaid :=
  Claim7.holds_tied_plain_at .later [] _ _ _ _ lexGaps_said (fun _ h => by cases h) (by kernel_rfl) (fun _ h => by cases h) lexGaps_row_tie rfl ⟨rfl, rfl⟩ (by kernel_rfl) rfl lexGaps_plain (by kernel_rfl)
end
end Go.Proofs.YtejhcaaeindkjaaDoor
