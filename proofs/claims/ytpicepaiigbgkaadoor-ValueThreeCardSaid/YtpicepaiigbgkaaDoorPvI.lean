import Derived.Test.YtpicepaiigbgkaaDoorPvH
set_option maxHeartbeats 4000000
set_option maxRecDepth 200000
set_option linter.unusedSimpArgs false
set_option linter.unusedVariables false
namespace Go.Pv
open Go Go.Proofs Go.RowKit

/-! ### values of texts -/
theorem textW_eq (k n : Int) (s : List UInt8) : textW k n s = textV k n s := by unfold textW textV; rw [itoaV_eq]
/-- What may be read. -/
def valid (v : Int × Int × List UInt8) : Prop := (v.1 = 1 ∧ v.2.2 = [] ∧ -9223372036854775808 ≤ v.2.1 ∧ v.2.1 ≤ 9223372036854775807) ∨ (v.1 = 2 ∧ v.2.1 = 0 ∧ v.2.2.length ≤ 256)
def textP (v : Int × Int × List UInt8) : List UInt8 := textV v.1 v.2.1 v.2.2
theorem check_int (n : Int) : checkV 1 n [] = 0 := by simp [checkV]
theorem check_sym {b : List UInt8} : checkV 2 0 b = 0 ↔ b.length ≤ 256 := by
  unfold checkV
  by_cases h : b.length ≤ 256 <;> simp [h]
theorem text_int (n : Int) : textV 1 n [] = intV n := by simp [textV, isV]
theorem text_sym {b : List UInt8} (h : b.length ≤ 256) : textV 2 0 b = symV b := by simp [textV, isV, h]
theorem pVal_rng (s : List UInt8) : -9223372036854775808 ≤ pVal s ∧ pVal s ≤ 9223372036854775807 := by
  have h := pVal_wf s
  simp [Lit.wf, IntKind.min, IntKind.max, IntKind.signed, IntKind.bits] at h
  omega
theorem whoN_rng {m : Bool} {t : List UInt8} {n : Int} (h : whoN m t = some n) : -9223372036854775808 ≤ n ∧ n ≤ 9223372036854775807 := by
  unfold whoN at h
  split at h
  · cases h
  · split at h
    · cases h
    · rename_i x hx
      split at h
      · cases h
      · rename_i hn
        cases h
        cases m with
        | true => simp at hn ⊢; omega
        | false => simp at hn ⊢; omega
theorem who_rng {s : List UInt8} {n : Int} (h : whoO s = some n) : -9223372036854775808 ≤ n ∧ n ≤ 9223372036854775807 := by
  unfold whoO at h
  split at h
  · exact whoN_rng h
  · exact whoN_rng h
def rrV (s : List UInt8) : Option (Int × Int × List UInt8) := match whoO s with
  | some n => if checkV 1 n [] = 0 ∧ textV 1 n [] = s then some (1, n, []) else none
  | none => if (rsO s).2 = true ∧ checkV 2 0 (rsO s).1 = 0 ∧ textV 2 0 (rsO s).1 = s then some (2, 0, (rsO s).1) else none
theorem rd_ok {s : List UInt8} {v : Int × Int × List UInt8} (h : rdV s = some v) : valid v ∧ textP v = s := by
  unfold rdV at h
  split at h
  · split at h
    · split at h
      · rename_i hc
        cases h
        exact ⟨.inr ⟨rfl, rfl, check_sym.1 hc.1⟩, by unfold textP; rw [← textW_eq]; exact hc.2⟩
      · cases h
    · cases h
  · split at h
    · split at h
      · rename_i hc
        cases h
        exact ⟨.inl ⟨rfl, rfl, pVal_rng s⟩, by unfold textP; rw [← textW_eq]; exact hc.2⟩
      · cases h
    · cases h
theorem rr_ok {s : List UInt8} {v : Int × Int × List UInt8} (h : rrV s = some v) : valid v ∧ textP v = s := by
  unfold rrV at h
  split at h
  · rename_i n hn
    split at h
    · rename_i hc
      cases h
      exact ⟨.inl ⟨rfl, rfl, who_rng hn⟩, hc.2⟩
    · cases h
  · split at h
    · rename_i hc
      cases h
      exact ⟨.inr ⟨rfl, rfl, check_sym.1 hc.2.1⟩, hc.2.2⟩
    · cases h
theorem rd_back {v : Int × Int × List UInt8} (h : valid v) : rdV (textP v) = some v := by
  obtain ⟨k, n, b⟩ := v
  rcases h with ⟨h1, h2, h3⟩ | ⟨h1, h2, h3⟩
  · simp only at h1 h2 h3
    subst h1 h2
    simp only [textP, text_int]
    unfold rdV
    rw [if_neg (by rw [pre_int]; simp), pOk_int h3, pVal_int h3]
    simp [check_int, textW_eq, text_int]
  · simp only at h1 h2 h3
    subst h1 h2
    simp only [textP, text_sym h3]
    have e : symV b = 34 :: (symB b ++ [34]) := by simp [symV]
    have p1 : isPre (symV b) [34] = true := by rw [e]; simp [isPre]
    have p2 : isSuf (symV b) [34] = true := by rw [e]; simp [isSuf]
    have p3 : 2 ≤ (symV b).length := by rw [e]; simp
    have p4 : ((symV b).take ((symV b).length - 1)).drop 1 = symB b := by rw [e]; simp
    unfold rdV
    rw [if_pos ⟨p1, p2, p3⟩, p4, dec_sym b]
    simp only []
    rw [if_pos ⟨check_sym.2 h3, by rw [textW_eq, text_sym h3]⟩]
theorem rr_back {v : Int × Int × List UInt8} (h : valid v) : rrV (textP v) = some v := by
  obtain ⟨k, n, b⟩ := v
  rcases h with ⟨h1, h2, h3⟩ | ⟨h1, h2, h3⟩
  · simp only at h1 h2 h3
    subst h1 h2
    simp only [textP, text_int]
    unfold rrV
    rw [who_int h3]
    simp [check_int, text_int]
  · simp only at h1 h2 h3
    subst h1 h2
    simp only [textP, text_sym h3]
    unfold rrV
    rw [who_sym, rs_sym]
    simp only []
    rw [if_pos (by simp [check_sym.2 h3, text_sym h3])]
theorem rr_rd (s : List UInt8) : rrV s = rdV s := by
  cases h : rrV s with
  | some v =>
    obtain ⟨h1, h2⟩ := rr_ok h
    rw [← h2, rd_back h1]
  | none =>
    cases h' : rdV s with
    | none => rfl
    | some v =>
      obtain ⟨h1, h2⟩ := rd_ok h'
      rw [← h2, rr_back h1] at h
      cases h

/-! ### pedigreeref01.Read -/
theorem sim_RRead (gl : Nat → Option Obj) : SimP Tryd.prog gl 12 fun args => (F_Read args).run := by
  refine SimP.of_tree (G := ofL [(35, .pure F_whole), (36, .pure F_RSymbol), (20, .pure F_RText)]) (L := fun _ _ _ => .fail) tbT_ok (gamOk_cons (sim_whole gl) (gamOk_cons (sim_RSymbol gl) (gamOk_cons (sim_RText gl) gamOk_nil))) noMixed Tryd.func12 rfl (by rfl) (by kernel_rfl) (loopOk_none (by kernel_rfl)) ?_
  intro args x h hr
  unfold F_Read at h
  split at h
  · rename_i s
    obtain ⟨h1, h2⟩ := Tr.chk_some h
    cases h2
    refine Tr.run_as (Tr.ite (okLen s)
        (Tr.ite (okWho s)
          (Tr.ite (bNot (okWho s)) (Tr.ret (PV.tup [PV.agg [PV.int IntKind.i64 0, PV.int IntKind.i64 0, PV.str []], PV.int IntKind.i64 10]))
            (Tr.ite (iNe (checkV 1 (whoV s) []) 0) (Tr.ret (PV.tup [PV.agg [PV.int IntKind.i64 0, PV.int IntKind.i64 0, PV.str []], PV.int IntKind.i64 10]))
              (Tr.ite (sNe (textV 1 (whoV s) []) s) (Tr.ret (PV.tup [PV.agg [PV.int IntKind.i64 0, PV.int IntKind.i64 0, PV.str []], PV.int IntKind.i64 10]))
                (Tr.ret (PV.tup [PV.agg [PV.int IntKind.i64 1, PV.int IntKind.i64 (whoV s), PV.str []], PV.int IntKind.i64 0])))))
          (Tr.ite (okLen s)
            (Tr.ite (bNot (okRs s)) (Tr.ret (PV.tup [PV.agg [PV.int IntKind.i64 0, PV.int IntKind.i64 0, PV.str []], PV.int IntKind.i64 10]))
              (Tr.ite (iNe (checkV 2 0 (rsV s)) 0) (Tr.ret (PV.tup [PV.agg [PV.int IntKind.i64 0, PV.int IntKind.i64 0, PV.str []], PV.int IntKind.i64 10]))
                (Tr.ite (sNe (textV 2 0 (rsV s)) s) (Tr.ret (PV.tup [PV.agg [PV.int IntKind.i64 0, PV.int IntKind.i64 0, PV.str []], PV.int IntKind.i64 10]))
                  (Tr.ret (PV.tup [PV.agg [PV.int IntKind.i64 2, PV.int IntKind.i64 0, PV.str (rsV s)], PV.int IntKind.i64 0])))))
            Tr.fail))
        Tr.fail) (by kernel_rfl) ?_
    have fin : ∀ o : Option (Int × Int × List UInt8), rrV s = o → PV.tup [.agg [.int .i64 (kRd s), .int .i64 (nRd s), .str (sRd s)], .int .i64 (eRd s)] = match o with | some v => .tup [.agg [.int .i64 v.1, .int .i64 v.2.1, .str v.2.2], .int .i64 0] | none => .tup [.agg [.int .i64 0, .int .i64 0, .str []], .int .i64 10] := by
      intro o ho
      rw [rr_rd] at ho
      unfold kRd nRd sRd eRd
      rw [ho]
      cases o <;> rfl
    rw [h1]
    cases hw : whoO s with
    | some n =>
      have w1 : okWho s = true := by unfold okWho; rw [hw]; rfl
      have w2 : whoV s = n := by unfold whoV; rw [hw]; rfl
      rw [w1, w2]
      by_cases hc : checkV 1 n [] = 0 ∧ textV 1 n [] = s
      · rw [fin (some (1, n, [])) (by unfold rrV; rw [hw]; simp only []; rw [if_pos hc])]
        simp [hc]
      · rw [fin none (by unfold rrV; rw [hw]; simp only []; rw [if_neg hc])]
        have : ¬ textV 1 n [] = s := fun h => hc ⟨check_int n, h⟩
        simp [check_int, this]
    | none =>
      have w1 : okWho s = false := by unfold okWho; rw [hw]; rfl
      have w3 : okRs s = (rsO s).2 := rfl
      have w4 : rsV s = (rsO s).1 := rfl
      rw [w1, w3, w4]
      by_cases hc : (rsO s).2 = true ∧ checkV 2 0 (rsO s).1 = 0 ∧ textV 2 0 (rsO s).1 = s
      · rw [fin (some (2, 0, (rsO s).1)) (by unfold rrV; rw [hw]; simp only []; rw [if_pos hc])]
        simp [hc]
      · rw [fin none (by unfold rrV; rw [hw]; simp only []; rw [if_neg hc])]
        by_cases c1 : (rsO s).2 = true
        · by_cases c2 : checkV 2 0 (rsO s).1 = 0
          · have c3 : ¬ textV 2 0 (rsO s).1 = s := fun h => hc ⟨c1, c2, h⟩
            simp [c1, c2, c3]
          · simp [c1, c2]
        · simp [c1]
  · cases h
end Go.Pv
