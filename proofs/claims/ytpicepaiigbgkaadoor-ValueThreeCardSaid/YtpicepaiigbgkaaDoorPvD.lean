import Derived.Test.YtpicepaiigbgkaaDoorPvC
set_option maxHeartbeats 4000000
set_option maxRecDepth 200000
set_option linter.unusedSimpArgs false
set_option linter.unusedVariables false
namespace Go.Pv
open Go Go.Proofs Go.RowKit

/-! ### value.Read -/
def rdV (s : List UInt8) : Option (Int × Int × List UInt8) :=
  if isPre s [34] = true ∧ isSuf s [34] = true ∧ 2 ≤ s.length then
    match decP ((s.take (s.length - 1)).drop 1) with
    | some b => if checkV 2 0 b = 0 ∧ textW 2 0 b = s then some (2, 0, b) else none
    | none => none
  else if pOk s then (if checkV 1 (pVal s) [] = 0 ∧ textW 1 (pVal s) [] = s then some (1, pVal s, []) else none) else none
def okRd (s : List UInt8) : Bool := (rdV s).isSome
def kRd (s : List UInt8) : Int := match rdV s with | some v => v.1 | none => 0
def nRd (s : List UInt8) : Int := match rdV s with | some v => v.2.1 | none => 0
def sRd (s : List UInt8) : List UInt8 := match rdV s with | some v => v.2.2 | none => []
def eRd (s : List UInt8) : Int := match rdV s with | some _ => 0 | none => 10
def F_Read : List PV → Tr PV
  | [.str s] => Tr.chk (okLen s) (.ret (.tup [.agg [.int .i64 (kRd s), .int .i64 (nRd s), .str (sRd s)], .int .i64 (eRd s)]))
  | _ => .fail
theorem sim_Read {gl : Nat → Option Obj} (hgl : GlOk gl) : SimP Tryd.prog gl 11 fun args => (F_Read args).run := by
  refine SimP.of_tree (G := ofL [(31, .pure F_HasPre), (32, .pure F_HasSuf), (33, .pure F_symbol), (34, .pure F_ParseInt), (16, .pure F_Text)]) (L := fun _ _ _ => .fail) tbT_ok (gamOk_cons (sim_HasPre gl) (gamOk_cons (sim_HasSuf gl) (gamOk_cons (sim_symbol gl) (gamOk_cons (sim_ParseInt hgl) (gamOk_cons (sim_Text hgl) gamOk_nil))))) noMixed Tryd.func11 rfl (by rfl) (by kernel_rfl) (loopOk_none (by kernel_rfl)) ?_
  intro args x h hr
  unfold F_Read at h
  split at h
  · rename_i s
    obtain ⟨h1, h2⟩ := Tr.chk_some h
    refine Tr.run_as (Tr.ite (isPre s [34])
        (Tr.ite (isSuf s [34])
          (Tr.ite (iLe 2 (sLen s))
            (Tr.ite (okSub (okPos 1) (okPos (iSub IntKind.i64 (sLen s) 1)) (nNat 1) (nNat (iSub IntKind.i64 (sLen s) 1)) (nLen s))
              (Tr.ite (okLen (sSub s (nNat 1) (nNat (iSub IntKind.i64 (sLen s) 1))))
                (Tr.ite (okDec (sSub s (nNat 1) (nNat (iSub IntKind.i64 (sLen s) 1))))
                  (Tr.ite false (Tr.ret (PV.tup [PV.agg [PV.int IntKind.i64 0, PV.int IntKind.i64 0, PV.str []], PV.int IntKind.i64 10]))
                    (Tr.ite (okBytes (bytesOf (decV (sSub s (nNat 1) (nNat (iSub IntKind.i64 (sLen s) 1))))))
                      (Tr.ite (iNe (checkV 2 0 (unBytes (bytesOf (decV (sSub s (nNat 1) (nNat (iSub IntKind.i64 (sLen s) 1))))))) 0)
                        (Tr.ret (PV.tup [PV.agg [PV.int IntKind.i64 0, PV.int IntKind.i64 0, PV.str []], PV.int IntKind.i64 10]))
                        (Tr.ite (sNe (textW 2 0 (unBytes (bytesOf (decV (sSub s (nNat 1) (nNat (iSub IntKind.i64 (sLen s) 1))))))) s)
                          (Tr.ret (PV.tup [PV.agg [PV.int IntKind.i64 0, PV.int IntKind.i64 0, PV.str []], PV.int IntKind.i64 10]))
                          (Tr.ret
                            (PV.tup [PV.agg [PV.int IntKind.i64 2, PV.int IntKind.i64 0, PV.str (unBytes (bytesOf (decV (sSub s (nNat 1) (nNat (iSub IntKind.i64 (sLen s) 1))))))], PV.int IntKind.i64 0]))))
                      Tr.fail))
                  (Tr.ite true (Tr.ret (PV.tup [PV.agg [PV.int IntKind.i64 0, PV.int IntKind.i64 0, PV.str []], PV.int IntKind.i64 10]))
                    (Tr.ite (okBytes [])
                      (Tr.ite (iNe (checkV 2 0 (unBytes [])) 0) (Tr.ret (PV.tup [PV.agg [PV.int IntKind.i64 0, PV.int IntKind.i64 0, PV.str []], PV.int IntKind.i64 10]))
                        (Tr.ite (sNe (textW 2 0 (unBytes [])) s) (Tr.ret (PV.tup [PV.agg [PV.int IntKind.i64 0, PV.int IntKind.i64 0, PV.str []], PV.int IntKind.i64 10]))
                          (Tr.ret (PV.tup [PV.agg [PV.int IntKind.i64 2, PV.int IntKind.i64 0, PV.str (unBytes [])], PV.int IntKind.i64 0]))))
                      Tr.fail)))
                Tr.fail)
              Tr.fail)
            (Tr.ite (iEq 10 10)
              (Tr.ite (iEq 64 64)
                (Tr.ite (okSize48 s)
                  (Tr.ite (pOk s)
                    (Tr.ite false (Tr.ret (PV.tup [PV.agg [PV.int IntKind.i64 0, PV.int IntKind.i64 0, PV.str []], PV.int IntKind.i64 10]))
                      (Tr.ite (iNe (checkV 1 (pVal s) []) 0) (Tr.ret (PV.tup [PV.agg [PV.int IntKind.i64 0, PV.int IntKind.i64 0, PV.str []], PV.int IntKind.i64 10]))
                        (Tr.ite (sNe (textW 1 (pVal s) []) s) (Tr.ret (PV.tup [PV.agg [PV.int IntKind.i64 0, PV.int IntKind.i64 0, PV.str []], PV.int IntKind.i64 10]))
                          (Tr.ret (PV.tup [PV.agg [PV.int IntKind.i64 1, PV.int IntKind.i64 (pVal s), PV.str []], PV.int IntKind.i64 0])))))
                    (Tr.ite true (Tr.ret (PV.tup [PV.agg [PV.int IntKind.i64 0, PV.int IntKind.i64 0, PV.str []], PV.int IntKind.i64 10]))
                      (Tr.ite (iNe (checkV 1 (pVal s) []) 0) (Tr.ret (PV.tup [PV.agg [PV.int IntKind.i64 0, PV.int IntKind.i64 0, PV.str []], PV.int IntKind.i64 10]))
                        (Tr.ite (sNe (textW 1 (pVal s) []) s) (Tr.ret (PV.tup [PV.agg [PV.int IntKind.i64 0, PV.int IntKind.i64 0, PV.str []], PV.int IntKind.i64 10]))
                          (Tr.ret (PV.tup [PV.agg [PV.int IntKind.i64 1, PV.int IntKind.i64 (pVal s), PV.str []], PV.int IntKind.i64 0]))))))
                  Tr.fail)
                Tr.fail)
              Tr.fail))
          (Tr.ite (iEq 10 10)
            (Tr.ite (iEq 64 64)
              (Tr.ite (okSize48 s)
                (Tr.ite (pOk s)
                  (Tr.ite false (Tr.ret (PV.tup [PV.agg [PV.int IntKind.i64 0, PV.int IntKind.i64 0, PV.str []], PV.int IntKind.i64 10]))
                    (Tr.ite (iNe (checkV 1 (pVal s) []) 0) (Tr.ret (PV.tup [PV.agg [PV.int IntKind.i64 0, PV.int IntKind.i64 0, PV.str []], PV.int IntKind.i64 10]))
                      (Tr.ite (sNe (textW 1 (pVal s) []) s) (Tr.ret (PV.tup [PV.agg [PV.int IntKind.i64 0, PV.int IntKind.i64 0, PV.str []], PV.int IntKind.i64 10]))
                        (Tr.ret (PV.tup [PV.agg [PV.int IntKind.i64 1, PV.int IntKind.i64 (pVal s), PV.str []], PV.int IntKind.i64 0])))))
                  (Tr.ite true (Tr.ret (PV.tup [PV.agg [PV.int IntKind.i64 0, PV.int IntKind.i64 0, PV.str []], PV.int IntKind.i64 10]))
                    (Tr.ite (iNe (checkV 1 (pVal s) []) 0) (Tr.ret (PV.tup [PV.agg [PV.int IntKind.i64 0, PV.int IntKind.i64 0, PV.str []], PV.int IntKind.i64 10]))
                      (Tr.ite (sNe (textW 1 (pVal s) []) s) (Tr.ret (PV.tup [PV.agg [PV.int IntKind.i64 0, PV.int IntKind.i64 0, PV.str []], PV.int IntKind.i64 10]))
                        (Tr.ret (PV.tup [PV.agg [PV.int IntKind.i64 1, PV.int IntKind.i64 (pVal s), PV.str []], PV.int IntKind.i64 0]))))))
                Tr.fail)
              Tr.fail)
            Tr.fail))
        (Tr.ite (iEq 10 10)
          (Tr.ite (iEq 64 64)
            (Tr.ite (okSize48 s)
              (Tr.ite (pOk s)
                (Tr.ite false (Tr.ret (PV.tup [PV.agg [PV.int IntKind.i64 0, PV.int IntKind.i64 0, PV.str []], PV.int IntKind.i64 10]))
                  (Tr.ite (iNe (checkV 1 (pVal s) []) 0) (Tr.ret (PV.tup [PV.agg [PV.int IntKind.i64 0, PV.int IntKind.i64 0, PV.str []], PV.int IntKind.i64 10]))
                    (Tr.ite (sNe (textW 1 (pVal s) []) s) (Tr.ret (PV.tup [PV.agg [PV.int IntKind.i64 0, PV.int IntKind.i64 0, PV.str []], PV.int IntKind.i64 10]))
                      (Tr.ret (PV.tup [PV.agg [PV.int IntKind.i64 1, PV.int IntKind.i64 (pVal s), PV.str []], PV.int IntKind.i64 0])))))
                (Tr.ite true (Tr.ret (PV.tup [PV.agg [PV.int IntKind.i64 0, PV.int IntKind.i64 0, PV.str []], PV.int IntKind.i64 10]))
                  (Tr.ite (iNe (checkV 1 (pVal s) []) 0) (Tr.ret (PV.tup [PV.agg [PV.int IntKind.i64 0, PV.int IntKind.i64 0, PV.str []], PV.int IntKind.i64 10]))
                    (Tr.ite (sNe (textW 1 (pVal s) []) s) (Tr.ret (PV.tup [PV.agg [PV.int IntKind.i64 0, PV.int IntKind.i64 0, PV.str []], PV.int IntKind.i64 10]))
                      (Tr.ret (PV.tup [PV.agg [PV.int IntKind.i64 1, PV.int IntKind.i64 (pVal s), PV.str []], PV.int IntKind.i64 0]))))))
              Tr.fail)
            Tr.fail)
          Tr.fail)) (by kernel_rfl) ?_
    have hl : s.length ≤ 140737488355328 := by simpa using h1
    cases h2
    have h48 : okSize48 s = true := by simp [okSize48]; omega
    have int : (Tr.ite (iEq 10 10) (Tr.ite (iEq 64 64) (Tr.ite (okSize48 s) (Tr.ite (pOk s)
              (Tr.ite false (Tr.ret (PV.tup [PV.agg [PV.int IntKind.i64 0, PV.int IntKind.i64 0, PV.str []], PV.int IntKind.i64 10]))
                (Tr.ite (iNe (checkV 1 (pVal s) []) 0) (Tr.ret (PV.tup [PV.agg [PV.int IntKind.i64 0, PV.int IntKind.i64 0, PV.str []], PV.int IntKind.i64 10]))
                  (Tr.ite (sNe (textW 1 (pVal s) []) s) (Tr.ret (PV.tup [PV.agg [PV.int IntKind.i64 0, PV.int IntKind.i64 0, PV.str []], PV.int IntKind.i64 10]))
                    (Tr.ret (PV.tup [PV.agg [PV.int IntKind.i64 1, PV.int IntKind.i64 (pVal s), PV.str []], PV.int IntKind.i64 0])))))
              (Tr.ite true (Tr.ret (PV.tup [PV.agg [PV.int IntKind.i64 0, PV.int IntKind.i64 0, PV.str []], PV.int IntKind.i64 10]))
                (Tr.ite (iNe (checkV 1 (pVal s) []) 0) (Tr.ret (PV.tup [PV.agg [PV.int IntKind.i64 0, PV.int IntKind.i64 0, PV.str []], PV.int IntKind.i64 10]))
                  (Tr.ite (sNe (textW 1 (pVal s) []) s) (Tr.ret (PV.tup [PV.agg [PV.int IntKind.i64 0, PV.int IntKind.i64 0, PV.str []], PV.int IntKind.i64 10]))
                    (Tr.ret (PV.tup [PV.agg [PV.int IntKind.i64 1, PV.int IntKind.i64 (pVal s), PV.str []], PV.int IntKind.i64 0])))))) Tr.fail) Tr.fail) Tr.fail).run =
        some (if pOk s then (if checkV 1 (pVal s) [] = 0 ∧ textW 1 (pVal s) [] = s then .tup [.agg [.int .i64 1, .int .i64 (pVal s), .str []], .int .i64 0] else .tup [.agg [.int .i64 0, .int .i64 0, .str []], .int .i64 10]) else .tup [.agg [.int .i64 0, .int .i64 0, .str []], .int .i64 10]) := by
      cases hp : pOk s with
      | false => simp [h48]
      | true =>
        by_cases hc : checkV 1 (pVal s) [] = 0 <;> by_cases ht : textW 1 (pVal s) [] = s <;> simp [h48, hc, ht]
    have fin : ∀ o : Option (Int × Int × List UInt8), rdV s = o → PV.tup [.agg [.int .i64 (kRd s), .int .i64 (nRd s), .str (sRd s)], .int .i64 (eRd s)] = match o with | some v => .tup [.agg [.int .i64 v.1, .int .i64 v.2.1, .str v.2.2], .int .i64 0] | none => .tup [.agg [.int .i64 0, .int .i64 0, .str []], .int .i64 10] := by
      intro o ho
      unfold kRd nRd sRd eRd
      rw [ho]
      cases o <;> rfl
    by_cases hq : isPre s [34] = true ∧ isSuf s [34] = true ∧ 2 ≤ s.length
    · obtain ⟨p1, p2, p3⟩ := hq
      have e1 : sSub s (nNat 1) (nNat (iSub .i64 (sLen s) 1)) = (s.take (s.length - 1)).drop 1 := by
        have : iSub .i64 (sLen s) 1 = s.length - 1 := by unfold iSub; rw [sLen_eq, wrap_i64 (by omega)]
        rw [this]
        simp
        try (congr 2; omega)
      have e2 : okSub (okPos 1) (okPos (iSub .i64 (sLen s) 1)) (nNat 1) (nNat (iSub .i64 (sLen s) 1)) (nLen s) = true := by
        have : iSub .i64 (sLen s) 1 = s.length - 1 := by unfold iSub; rw [sLen_eq, wrap_i64 (by omega)]
        rw [this]
        simp
        omega
      have e3 : iLe 2 (sLen s) = true := by simp; omega
      rw [e1, p1, p2, e2, e3]
      have e4 : okLen ((s.take (s.length - 1)).drop 1) = true := by simp; omega
      generalize hm : (s.take (s.length - 1)).drop 1 = m at *
      rw [e4]
      cases hd : decP m with
      | none =>
        have h5 : okDec m = false := by simp [okDec, hd]
        have := fin none (by unfold rdV; rw [if_pos ⟨p1, p2, p3⟩, hm, hd])
        rw [this]
        simp [h5]
      | some b =>
        have h5 : okDec m = true := by simp [okDec, hd]
        have h6 : decV m = b := by simp [decV, hd]
        rw [h6]
        by_cases hc : checkV 2 0 b = 0 ∧ textW 2 0 b = s
        · have := fin (some (2, 0, b)) (by unfold rdV; rw [if_pos ⟨p1, p2, p3⟩, hm, hd]; simp only []; rw [if_pos hc])
          rw [this]
          simp [h5, hc]
        · have := fin none (by unfold rdV; rw [if_pos ⟨p1, p2, p3⟩, hm, hd]; simp only []; rw [if_neg hc])
          rw [this]
          by_cases hc1 : checkV 2 0 b = 0
          · have hc2 : ¬ textW 2 0 b = s := fun h => hc ⟨hc1, h⟩
            simp [h5, hc1, hc2]
          · simp [h5, hc1]
    · have e9 : rdV s = if pOk s then (if checkV 1 (pVal s) [] = 0 ∧ textW 1 (pVal s) [] = s then some (1, pVal s, []) else none) else none := by
        unfold rdV
        rw [if_neg hq]
      have e8 : PV.tup [.agg [.int .i64 (kRd s), .int .i64 (nRd s), .str (sRd s)], .int .i64 (eRd s)] = (if pOk s then (if checkV 1 (pVal s) [] = 0 ∧ textW 1 (pVal s) [] = s then .tup [.agg [.int .i64 1, .int .i64 (pVal s), .str []], .int .i64 0] else .tup [.agg [.int .i64 0, .int .i64 0, .str []], .int .i64 10]) else .tup [.agg [.int .i64 0, .int .i64 0, .str []], .int .i64 10]) := by
        rw [fin _ e9]
        by_cases c1 : pOk s = true
        · by_cases c2 : checkV 1 (pVal s) [] = 0 ∧ textW 1 (pVal s) [] = s
          · simp only [c1, if_true, if_pos c2]
          · simp only [c1, if_true, if_neg c2]
        · simp only [if_neg c1]
      rw [e8, ← int]
      cases p1 : isPre s [34] with
      | false => simp
      | true =>
        cases p2 : isSuf s [34] with
        | false => simp
        | true =>
          have e3 : iLe 2 (sLen s) = false := by simp; have : ¬ 2 ≤ s.length := fun h => hq ⟨p1, p2, h⟩; omega
          rw [e3]
          simp
  · cases h
end Go.Pv
