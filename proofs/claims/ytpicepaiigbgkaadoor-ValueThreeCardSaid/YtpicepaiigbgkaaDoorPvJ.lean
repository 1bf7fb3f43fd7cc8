import Derived.Test.YtpicepaiigbgkaaDoorPvO
set_option maxHeartbeats 4000000
set_option maxRecDepth 200000
set_option linter.unusedSimpArgs false
set_option linter.unusedVariables false
namespace Go.Pv
open Go Go.Proofs Go.RowKit

/-! ### alive -/
def F_alive : List PV → Tr PV
  | [] => .ret (.bool true)
  | _ => .fail
theorem int12 : intV (-12) = [45, 49, 50] := by
  have e : digsN 12 = [49, 50] := by rw [digsN_step (by decide), digsN_small (by decide)]; rfl
  unfold intV digsV
  rw [if_pos (by decide)]
  show 45 :: digsN 12 = _
  rw [e]
theorem rd12 : rdV [45, 49, 50] = some (1, -12, []) := by
  have h := rd_back (v := (1, -12, [])) (.inl ⟨rfl, rfl, by decide, by decide⟩)
  have e : textP (1, -12, []) = [45, 49, 50] := by simp only [textP, text_int, int12]
  rwa [e] at h
theorem sim_alive {gl : Nat → Option Obj} (hgl : GlOk gl) : SimP Tryd.prog gl 13 fun args => (F_alive args).run := by
  refine SimP.of_tree (G := ofL [(16, .pure F_Text), (11, .pure F_Read), (15, .pure F_Compare)]) (L := fun _ _ _ => .fail) tbT_ok (gamOk_cons (sim_Text hgl) (gamOk_cons (sim_Read hgl) (gamOk_cons (sim_Compare gl) gamOk_nil))) noMixed Tryd.func13 rfl (by rfl) (by kernel_rfl) (loopOk_none (by kernel_rfl)) ?_
  intro args x h hr
  unfold F_alive at h
  split at h
  · cases h
    refine Tr.run_as (Tr.ite (okLen [45, 49, 50])
        (Tr.ite (iEq (checkV 2 0 [97, 10, 34]) 0)
          (Tr.ite (iEq (eRd [45, 49, 50]) 0)
            (Tr.ite (sEq (textW 2 0 [97, 10, 34]) [34, 97, 92, 110, 92, 34, 34])
              (Tr.ite (bAnd (iEq (kRd [45, 49, 50]) 1) (bAnd (iEq (nRd [45, 49, 50]) (-12)) (bAnd (sEq (sRd [45, 49, 50]) []) true)))
                (Tr.ret (PV.bool (iEq (compareV (kRd [45, 49, 50]) (nRd [45, 49, 50]) (sRd [45, 49, 50]) 2 0 [51]) (-1)))) (Tr.ret (PV.bool false)))
              (Tr.ret (PV.bool false)))
            (Tr.ret (PV.bool false)))
          (Tr.ret (PV.bool false)))
        Tr.fail) (by kernel_rfl) ?_
    have c1 : checkV 2 0 [97, 10, 34] = 0 := by decide +kernel
    have c2 : textW 2 0 [97, 10, 34] = [34, 97, 92, 110, 92, 34, 34] := by rw [textW_eq, text_sym (by decide)]; decide +kernel
    have k1 : kRd [45, 49, 50] = 1 := by unfold kRd; rw [rd12]
    have k2 : nRd [45, 49, 50] = -12 := by unfold nRd; rw [rd12]
    have k3 : sRd [45, 49, 50] = [] := by unfold sRd; rw [rd12]
    have k4 : eRd [45, 49, 50] = 0 := by unfold eRd; rw [rd12]
    have k5 : compareV 1 (-12) [] 2 0 [51] = -1 := by decide +kernel
    rw [c1, c2, k1, k2, k3, k4]
    rw [k5]
    simp
  · cases h

/-! ### ValueReads -/
def F_ValueReads : List PV → Tr PV
  | [.str s] => .ret (.bool true)
  | _ => .fail
theorem sim_ValueReads {gl : Nat → Option Obj} (hgl : GlOk gl) : SimP Tryd.prog gl 3 fun args => (F_ValueReads args).run := by
  refine SimP.of_tree (G := ofL [(13, .pure F_alive), (11, .pure F_Read), (12, .pure F_Read)]) (L := fun _ _ _ => .fail) tbT_ok (gamOk_cons (sim_alive hgl) (gamOk_cons (sim_Read hgl) (gamOk_cons (sim_RRead gl) gamOk_nil))) noMixed Tryd.func3 rfl (by rfl) (by kernel_rfl) (loopOk_none (by kernel_rfl)) ?_
  intro args x h hr
  unfold F_ValueReads at h
  split at h
  · rename_i s
    cases h
    refine Tr.run_as (Tr.ite (iLt 900 (sLen s))
        (Tr.ite (okSub true (okPos 900) 0 (nNat 900) (nLen s))
          (Tr.ite (okLen (sSub s 0 (nNat 900)))
            (Tr.ite (okLen (sSub s 0 (nNat 900)))
              (Tr.ite
                (bAnd (iEq (kRd (sSub s 0 (nNat 900))) (kRd (sSub s 0 (nNat 900))))
                  (bAnd (iEq (nRd (sSub s 0 (nNat 900))) (nRd (sSub s 0 (nNat 900)))) (bAnd (sEq (sRd (sSub s 0 (nNat 900))) (sRd (sSub s 0 (nNat 900)))) true)))
                (Tr.ite (iEq (eRd (sSub s 0 (nNat 900))) (eRd (sSub s 0 (nNat 900)))) (Tr.ret (PV.bool true)) (Tr.ret (PV.bool false))) (Tr.ret (PV.bool false)))
              Tr.fail)
            Tr.fail)
          Tr.fail)
        (Tr.ite (okLen s)
          (Tr.ite (okLen s)
            (Tr.ite (bAnd (iEq (kRd s) (kRd s)) (bAnd (iEq (nRd s) (nRd s)) (bAnd (sEq (sRd s) (sRd s)) true))) (Tr.ite (iEq (eRd s) (eRd s)) (Tr.ret (PV.bool true)) (Tr.ret (PV.bool false)))
              (Tr.ret (PV.bool false)))
            Tr.fail)
          Tr.fail)) (by kernel_rfl) ?_
    by_cases hl : 900 < s.length
    · have l1 : iLt 900 (sLen s) = true := by simp; omega
      have l2 : okSub true (okPos 900) 0 (nNat 900) (nLen s) = true := by simp; omega
      have l3 : okLen (sSub s 0 (nNat 900)) = true := by simp; omega
      rw [l1, l2, l3]
      simp
    · have l1 : iLt 900 (sLen s) = false := by simp; omega
      have l3 : okLen s = true := by simp; omega
      rw [l1, l3]
      simp
  · cases h
def F_Value2 : List PV → Tr PV
  | [.agg [.int .i64 k, .int .i64 n, .str s], .agg [.int .i64 k', .int .i64 n', .str s']] => .ret (.bool true)
  | _ => .fail
def F_Value3 : List PV → Tr PV
  | [.agg [.int .i64 k, .int .i64 n, .str s], .agg [.int .i64 k', .int .i64 n', .str s'], .agg [.int .i64 k2, .int .i64 n2, .str s2]] => .ret (.bool true)
  | _ => .fail
theorem sim_ValueOrder {gl : Nat → Option Obj} (hgl : GlOk gl) : SimP Tryd.prog gl 4 fun args => (F_Value3 args).run := by
  refine SimP.of_tree (G := ofL [(13, .pure F_alive), (14, .pure F_cut), (15, .pure F_Compare)]) (L := fun _ _ _ => .fail) tbT_ok (gamOk_cons (sim_alive hgl) (gamOk_cons (sim_cut gl) (gamOk_cons (sim_Compare gl) gamOk_nil))) noMixed Tryd.func4 rfl (by rfl) (by kernel_rfl) (loopOk_none (by kernel_rfl)) ?_
  intro args x h hr
  unfold F_Value3 at h
  split at h
  · rename_i k n s k' n' s' k2 n2 s2
    cases h
    refine Tr.run_as (Tr.ite (iEq (compareV k n (cutS s) k' n' (cutS s')) (iSub IntKind.i64 0 (compareV k' n' (cutS s') k n (cutS s))))
        (Tr.ite (bEq (iEq (compareV k n (cutS s) k' n' (cutS s')) 0) (bAnd (iEq k k') (bAnd (iEq n n') (bAnd (sEq (cutS s) (cutS s')) true))))
          (Tr.ite (iLt 0 (compareV k n (cutS s) k' n' (cutS s')))
            (Tr.ite (iLe 0 (compareV k n (cutS s) k' n' (cutS s'))) (Tr.ret (PV.bool true))
              (Tr.ite (iLt 0 (compareV k' n' (cutS s') k2 n2 (cutS s2))) (Tr.ret (PV.bool true)) (Tr.ite (iLt (compareV k n (cutS s) k2 n2 (cutS s2)) 0) (Tr.ret (PV.bool true)) (Tr.ret (PV.bool false)))))
            (Tr.ite (iLt 0 (compareV k' n' (cutS s') k2 n2 (cutS s2)))
              (Tr.ite (iLe 0 (compareV k n (cutS s) k' n' (cutS s'))) (Tr.ret (PV.bool true))
                (Tr.ite (iLt 0 (compareV k' n' (cutS s') k2 n2 (cutS s2))) (Tr.ret (PV.bool true)) (Tr.ite (iLt (compareV k n (cutS s) k2 n2 (cutS s2)) 0) (Tr.ret (PV.bool true)) (Tr.ret (PV.bool false)))))
              (Tr.ite (iLe (compareV k n (cutS s) k2 n2 (cutS s2)) 0)
                (Tr.ite (iLe 0 (compareV k n (cutS s) k' n' (cutS s'))) (Tr.ret (PV.bool true))
                  (Tr.ite (iLt 0 (compareV k' n' (cutS s') k2 n2 (cutS s2))) (Tr.ret (PV.bool true))
                    (Tr.ite (iLt (compareV k n (cutS s) k2 n2 (cutS s2)) 0) (Tr.ret (PV.bool true)) (Tr.ret (PV.bool false)))))
                (Tr.ret (PV.bool false)))))
          (Tr.ret (PV.bool false)))
        (Tr.ret (PV.bool false))) (by kernel_rfl) ?_
    have l1 : iSub .i64 0 (compareV k' n' (cutS s') k n (cutS s)) = compareV k n (cutS s) k' n' (cutS s') := by
      have h1 := cmp_val k' n' (cutS s') k n (cutS s)
      have h2 := cmp_swap k n (cutS s) k' n' (cutS s')
      unfold iSub
      rw [wrap_i64 (by omega)]
      omega
    have l2 : iEq (compareV k n (cutS s) k' n' (cutS s')) 0 = bAnd (iEq k k') (bAnd (iEq n n') (bAnd (sEq (cutS s) (cutS s')) true)) := by
      simp only [iEq_eq, sEq_eq, bAnd_eq, Bool.and_true, ← Bool.decide_and]
      rw [decide_eq_decide]
      exact cmp_zero
    have t1 := @cmp_le_trans k n (cutS s) k' n' (cutS s') k2 n2 (cutS s2)
    have t2 := @cmp_lt_trans k n (cutS s) k' n' (cutS s') k2 n2 (cutS s2)
    rw [l1, l2]
    generalize compareV k n (cutS s) k' n' (cutS s') = x at *
    generalize compareV k' n' (cutS s') k2 n2 (cutS s2) = z at *
    generalize compareV k n (cutS s) k2 n2 (cutS s2) = w at *
    have m1 : ¬ 0 < x → ¬ 0 < z → w ≤ 0 := fun h1 h2 => t1 (by omega) (by omega)
    have m2 : ¬ 0 ≤ x → ¬ 0 < z → w < 0 := fun h1 h2 => t2 (by omega) (by omega)
    by_cases h1 : 0 < x
    · have h3 : 0 ≤ x := by omega
      simp [h1, h3]
    · by_cases h2 : 0 < z
      · by_cases h3 : 0 ≤ x <;> simp [h1, h2, h3]
      · have h4 := m1 h1 h2
        by_cases h3 : 0 ≤ x
        · simp [h1, h2, h3, h4]
        · have h5 := m2 h3 h2
          simp [h1, h2, h3, h4, h5]
  · cases h
theorem sim_ValueBack {gl : Nat → Option Obj} (hgl : GlOk gl) : SimP Tryd.prog gl 5 fun args => (F_Value2 args).run := by
  refine SimP.of_tree (G := ofL [(13, .pure F_alive), (14, .pure F_cut), (16, .pure F_Text), (11, .pure F_Read), (17, .pure F_Is)]) (L := fun _ _ _ => .fail) tbT_ok (gamOk_cons (sim_alive hgl) (gamOk_cons (sim_cut gl) (gamOk_cons (sim_Text hgl) (gamOk_cons (sim_Read hgl) (gamOk_cons (sim_Is gl) gamOk_nil))))) noMixed Tryd.func5 rfl (by rfl) (by kernel_rfl) (loopOk_none (by kernel_rfl)) ?_
  intro args x h hr
  unfold F_Value2 at h
  split at h
  · rename_i k n s k' n' s'
    cases h
    refine Tr.run_as (Tr.ite (iNe (checkV k n (cutS s)) 0) (Tr.ite (bNot (isV k n (cutS s))) (Tr.ret (PV.bool true)) (Tr.ret (PV.bool false)))
        (Tr.ite (okLen (textW k n (cutS s)))
          (Tr.ite (iEq (eRd (textW k n (cutS s))) 0)
            (Tr.ite (bAnd (iEq (kRd (textW k n (cutS s))) k) (bAnd (iEq (nRd (textW k n (cutS s))) n) (bAnd (sEq (sRd (textW k n (cutS s))) (cutS s)) true)))
              (Tr.ite (iNe (checkV k' n' (cutS s')) 0) (Tr.ret (PV.bool true))
                (Tr.ite (bEq (sEq (textW k n (cutS s)) (textW k' n' (cutS s'))) (bAnd (iEq k k') (bAnd (iEq n n') (bAnd (sEq (cutS s) (cutS s')) true)))) (Tr.ret (PV.bool true)) (Tr.ret (PV.bool false))))
              (Tr.ret (PV.bool false)))
            (Tr.ret (PV.bool false)))
          Tr.fail)) (by kernel_rfl) ?_
    have hc := rel_agg hr 0 rfl
    have hn : -9223372036854775808 ≤ n ∧ n ≤ 9223372036854775807 := rel_int hc 1 rfl
    have hc' := rel_agg hr 1 rfl
    have hn' : -9223372036854775808 ≤ n' ∧ n' ≤ 9223372036854775807 := rel_int hc' 1 rfl
    generalize cutS s = b
    generalize cutS s' = b'
    have val : ∀ (k n : Int) (b : List UInt8), -9223372036854775808 ≤ n ∧ n ≤ 9223372036854775807 → isV k n b = true → valid (k, n, b) := by
      intro k n b hn h
      unfold isV at h
      rw [decide_eq_true_eq] at h
      rcases h with ⟨h1, h2⟩ | ⟨h1, h2, h3⟩
      · exact .inl ⟨h1, h2, hn⟩
      · exact .inr ⟨h1, h2, h3⟩
    rw [checkV_is, checkV_is]
    cases hI : isV k n b with
    | false => simp
    | true =>
      have hv := val k n b hn hI
      have hrd := rd_back hv
      have e1 : textW k n b = textP (k, n, b) := textW_eq k n b
      have e2 : textW k' n' b' = textP (k', n', b') := textW_eq k' n' b'
      rw [e1, e2]
      have k1 : kRd (textP (k, n, b)) = k := by unfold kRd; rw [hrd]
      have k2 : nRd (textP (k, n, b)) = n := by unfold nRd; rw [hrd]
      have k3 : sRd (textP (k, n, b)) = b := by unfold sRd; rw [hrd]
      have k4 : eRd (textP (k, n, b)) = 0 := by unfold eRd; rw [hrd]
      have k5 : okLen (textP (k, n, b)) = true := by
        have h5 := symB_len b
        rcases hv with ⟨h1, h2, h3⟩ | ⟨h1, h2, h3⟩
        · simp only at h1 h2 h3
          subst h1 h2
          simp only [textP, text_int, okLen_eq, decide_eq_true_eq]
          unfold intV
          have e1 := digsV_len (n := -n) (by omega)
          have e2 := digsV_len (n := n) (by omega)
          split
          · simp; omega
          · omega
        · simp only at h1 h2 h3
          subst h1 h2
          simp only [textP, text_sym h3, okLen_eq, decide_eq_true_eq]
          simp [symV]
          omega
      rw [k1, k2, k3, k4, k5]
      cases hI' : isV k' n' b' with
      | false => simp
      | true =>
        have hv' := val k' n' b' hn' hI'
        have hrd' := rd_back hv'
        have e3 : bEq (sEq (textP (k, n, b)) (textP (k', n', b'))) (bAnd (iEq k k') (bAnd (iEq n n') (bAnd (sEq b b') true))) = true := by
          by_cases h : k = k' ∧ n = n' ∧ b = b'
          · obtain ⟨rfl, rfl, rfl⟩ := h
            simp
          · have h2 : ¬ textP (k, n, b) = textP (k', n', b') := by
              intro h3
              rw [← h3, hrd] at hrd'
              simp at hrd'
              exact h hrd'
            simp only [bEq_eq, sEq_eq, iEq_eq, bAnd_eq, Bool.and_true, ← Bool.decide_and, decide_eq_false h2, decide_eq_false h]
            rfl
        rw [e3]
        simp
  · cases h
end Go.Pv
