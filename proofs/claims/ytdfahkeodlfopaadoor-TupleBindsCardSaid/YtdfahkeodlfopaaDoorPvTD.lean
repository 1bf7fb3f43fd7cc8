import Derived.Test.YtdfahkeodlfopaaDoorPvTC
set_option maxHeartbeats 4000000
set_option maxRecDepth 200000
set_option linter.unusedSimpArgs false
set_option linter.unusedVariables false
namespace Go.Pv
open Go Go.Proofs
@[simp] theorem cutT_of (a : List Vl) : cutT (rOf cV a) = rOf cV (a.take 20) := by simp only [cutT, unR_of]
@[simp] theorem cmpTV_nil (a : List Vl) : cmpTV (rOf cV a) [] = lexV a [] := cmpTV_of a []
/-! ### TupleForms -/
theorem TForms_law (a b : List Vl) (ts : List Int) : TForms_W (rOf cV a) (rOf cV b) (rOf cI ts) = some (.bool true) := by
  simp [TForms_W, TForms_Tr]
/-! ### TupleWithin -/
theorem TWithinL_law (a b c : List Vl) : TWithinL_W (rOf cV a) (rOf cV b) (rOf cV c) = some (.bool true) := by
  have e0 : ∀ x y : List Vl, imin (xLen (rOf cV x)) (xLen (rOf cV y)) = ((min x.length y.length : Nat) : Int) := fun x y => by simp only [xLen_rOf]; exact min_nat _ _
  have e1 : ∀ x t : List Vl, List.take (min x.length t.length) t = t.take x.length := fun x t => by rw [List.take_eq_take_iff]; omega
  have e2 : ∀ x t : List Vl, List.take (min t.length x.length) t = t.take x.length := fun x t => by rw [List.take_eq_take_iff]; omega
  have e3 : ∀ x t : List Vl, min x.length t.length ≤ t.length := fun x t => by omega
  have e4 : ∀ x t : List Vl, min t.length x.length ≤ t.length := fun x t => by omega
  unfold TWithinL_W TWithinL_Tr
  simp only [lockLL_rOf, cutT_of, e0]
  generalize List.take 20 a = a, List.take 20 b = b, List.take 20 c = c
  by_cases h : 0 ≤ lexV (b.take a.length) a
  · simp [-imin_eq, -List.length_take, e1, e2, e3, e4, h]
  · simp [-imin_eq, -List.length_take, e1, e2, e3, e4, h]
/-! ### TupleTotal -/
theorem TTotal_law (a b c : List Vl) : TTotal_W (rOf cV a) (rOf cV b) (rOf cV c) = some (.bool true) := by
  unfold TTotal_W TTotal_Tr
  simp only [lockLL_rOf, cutT_of]
  have la : (List.take 20 a).length ≤ 20 := by simp; omega
  have lb : (List.take 20 b).length ≤ 20 := by simp; omega
  generalize List.take 20 a = a at la
  generalize List.take 20 b = b at lb
  generalize List.take 20 c = c
  have v := lexV_tot.val a b
  have sw := lexV_tot.swap a b
  have vb := lexV_tot.val b a
  have w : iSub .i64 0 (lexV b a) = -lexV b a := by show IntKind.wrap .i64 (0 - lexV b a) = _; rw [wrap_i64 (by omega)]; omega
  have t1 := @Tot.le_trans _ _ lexV_tot a b c
  have t2 := @Tot.lt_le_trans _ _ lexV_tot a b c
  have p1 : lexV a (a ++ b) ≤ 0 := lex_pre cmpVl_tot a b
  have p2 : lexV a a = 0 := lexV_tot.self a
  have c1 : ¬ lexV a b < -1 := by omega
  have c2 : ¬ 1 < lexV a b := by omega
  have c3 : lexV a b = -lexV b a := sw
  have g1 : a.length * 32 ≤ 140737488355328 := by omega
  have g2 : b.length * 32 ≤ 140737488355328 := by omega
  have g3 : (a.length + b.length) * 32 ≤ 140737488355328 := by omega
  have g4 : a.length ≤ 140737488355328 := by omega
  have g5 : b.length ≤ 140737488355328 := by omega
  have g6 : a.length + b.length ≤ 140737488355328 := by omega
  have q1 : a = [] → lexV a b ≤ 0 := by rintro rfl; cases b <;> simp [lexV, lex]
  have q0 : a = [] → lexV a [] ≤ 0 := by rintro rfl; simp [lexV, lex]
  simp only [xApp_rOf, lockLL_rOf, cmpTV_of, cmpTR_of, w]
  repeat' first
    | rfl
    | refine Tr.run_t (by first | rfl | (simp; done) | (simp; omega)) ?_
    | refine Tr.run_f (by first | rfl | (simp; done) | (simp; omega)) ?_
    | (refine Tr.run_of (fun h => ?_) (fun h => ?_) <;> simp at h)
  all_goals
    simp only [Tr.run_ret]
    congr 2
    simp
    first | exact q0 ‹_› | exact q1 ‹_› | omega
/-! ### Select -/
@[simp] theorem okMT_of (p : List Tm) (t : List Vl) : okMT (rOf cM p) (rOf cV t) = (matchT p t).isSome := by simp only [okMT, unR_of]
@[simp] theorem mTV_of (p : List Tm) (t : List Vl) : mTV (rOf cM p) (rOf cV t) = rOf cB ((matchT p t).getD []) := by simp only [mTV, unR_of]
@[simp] theorem chkP_of (p : List Tm) : chkP (rOf cM p) = if p.length ≤ 8 ∧ p.all isTm = true then 0 else 22 := by simp only [chkP, unR_of]
def selL (p : List Tm) (l : List (List Vl)) : List (List Vl) := l.filter fun t => (matchT p t).isSome
theorem TSel_loop (p : List Tm) (l : List (List Vl)) (hl : l.length ≤ 1000000) (ht : ∀ t ∈ l, t.length ≤ 1000000) : TSel1_V [.sl (rOf cM p) .non, .sl [] .full, .sl (rOf (cR cV) l) .non, .int .i64 (l.length : Nat), .int .i64 0] ⟨[], [], []⟩ = some (.exit 0, [.sl (rOf (cR cV) (selL p l)) (aT (selL p l))], aS 1 23 (selL p l)) := by
  have h := loop_acc (l := l) (V := fun i b => TSel1_V [.sl (rOf cM p) .non, .sl (rOf (cR cV) b) (aT b), .sl (rOf (cR cV) l) .non, .int .i64 (l.length : Nat), .int .i64 (i : Nat)] (aS 1 23 b)) (fun a => if (matchT p a).isSome = true then [a] else []) (fun r => some (.exit 0, [.sl (rOf (cR cV) r) (aT r)], aS 1 23 r)) ?_ ?_
  · rw [flatMap_filter (fun a => (matchT p a).isSome)] at h
    simpa [selL] using h
  · intro i b a hb hi ha
    have w := inc_i64 (i := i) (by omega)
    have hlen : b.length ≤ i := by rw [hb]; exact flatMap_le _ (fun a => by split <;> simp) _ _
    have g1 : (b.length + 1) * 24 ≤ 140737488355328 := by omega
    have g2 : b.length ≤ 140737488355327 := by omega
    have hta := ht a (by rw [← ha]; exact List.getElem_mem hi)
    have g3 : a.length * 32 ≤ 140737488355328 := by omega
    have g4 : a.length ≤ 140737488355328 := by omega
    rcases aTS_cases 1 23 b with ⟨rfl, h1, h2⟩ | ⟨hne, h1, h2⟩
    · cases hm : (matchT p a).isSome with
      | true =>
        simp [TSel1_E, TSel1_Tr, ha, hi, w, hm, one, aT, aS, g3, g4]
      | false => simp [TSel1_E, TSel1_Tr, ha, hi, w, hm, g3, g4]
    · cases hm : (matchT p a).isSome with
      | true => simp [h1, h2, TSel1_E1, TSel1_Tr1, ha, hi, w, hm, one, aT_snoc, aS_snoc, g1, g2, g3, g4]
      | false => simp [h1, h2, TSel1_E1, TSel1_Tr1, ha, hi, w, hm, g3, g4]
  · intro b hb
    rcases aTS_cases 1 23 b with ⟨rfl, h1, h2⟩ | ⟨hne, h1, h2⟩
    · simp [TSel1_E, TSel1_Tr]
    · simp [h1, h2, TSel1_E1, TSel1_Tr1]
theorem TSel_law (p : List Tm) (l : List (List Vl)) (hl : l.length ≤ 1000000) (ht : ∀ t ∈ l, t.length ≤ 1000000) : TSel_W (rOf (cR cV) l) (rOf cM p) = some (.sl (rOf (cR cV) (selL p l)) .non) := by
  have h := TSel_loop p l hl ht
  unfold TSel_W TSel_Tr
  generalize selL p l = r at h
  rcases aTS_cases 1 23 r with ⟨rfl, h1, h2⟩ | ⟨hne, h1, h2⟩
  · try simp at h
    simp [TSel1_is0, TSel1_is1, TSel1_out_0, TSel1_out_1, TSel1_k_1, TSel1_W, h]
  · rw [h1, h2] at h
    try simp at h
    simp [TSel1_is0, TSel1_is1, TSel1_out_0, TSel1_out_1, TSel1_k_1, TSel1_W, h]
theorem RSel_loop (p : List Tm) (l : List (List Vl)) (hl : l.length ≤ 1000000) (ht : ∀ t ∈ l, t.length ≤ 1000000) : RSel1_V [.sl (rOf (cR cV) l) .non, .sl (rOf cM p) .non, .sl [] .full, .int .i64 0] ⟨[], [], []⟩ = some (.exit 0, [.sl (rOf (cR cV) (selL p l)) (aT (selL p l))], aS 1 23 (selL p l)) := by
  have h := loop_acc (l := l) (V := fun i b => RSel1_V [.sl (rOf (cR cV) l) .non, .sl (rOf cM p) .non, .sl (rOf (cR cV) b) (aT b), .int .i64 (i : Nat)] (aS 1 23 b)) (fun a => if (matchT p a).isSome = true then [a] else []) (fun r => some (.exit 0, [.sl (rOf (cR cV) r) (aT r)], aS 1 23 r)) ?_ ?_
  · rw [flatMap_filter (fun a => (matchT p a).isSome)] at h
    simpa [selL] using h
  · intro i b a hb hi ha
    have w := inc_i64 (i := i) (by omega)
    have hlen : b.length ≤ i := by rw [hb]; exact flatMap_le _ (fun a => by split <;> simp) _ _
    have g1 : (b.length + 1) * 24 ≤ 140737488355328 := by omega
    have g2 : b.length ≤ 140737488355327 := by omega
    have hta := ht a (by rw [← ha]; exact List.getElem_mem hi)
    have g3 : a.length * 32 ≤ 140737488355328 := by omega
    have g4 : a.length ≤ 140737488355328 := by omega
    rcases aTS_cases 1 23 b with ⟨rfl, h1, h2⟩ | ⟨hne, h1, h2⟩
    · cases hm : (matchT p a).isSome with
      | true =>
        simp [RSel1_E, RSel1_Tr, ha, hi, w, hm, one, aT, aS, g3, g4]
      | false => simp [RSel1_E, RSel1_Tr, ha, hi, w, hm, g3, g4]
    · cases hm : (matchT p a).isSome with
      | true => simp [h1, h2, RSel1_E1, RSel1_Tr1, ha, hi, w, hm, one, aT_snoc, aS_snoc, g1, g2, g3, g4]
      | false => simp [h1, h2, RSel1_E1, RSel1_Tr1, ha, hi, w, hm, g3, g4]
  · intro b hb
    rcases aTS_cases 1 23 b with ⟨rfl, h1, h2⟩ | ⟨hne, h1, h2⟩
    · simp [RSel1_E, RSel1_Tr]
    · simp [h1, h2, RSel1_E1, RSel1_Tr1]
theorem RSel_law (p : List Tm) (l : List (List Vl)) (hl : l.length ≤ 1000000) (ht : ∀ t ∈ l, t.length ≤ 1000000) : RSel_W (rOf (cR cV) l) (rOf cM p) = some (.sl (rOf (cR cV) (selL p l)) .non) := by
  have h := RSel_loop p l hl ht
  unfold RSel_W RSel_Tr
  generalize selL p l = r at h
  rcases aTS_cases 1 23 r with ⟨rfl, h1, h2⟩ | ⟨hne, h1, h2⟩
  · try simp at h
    simp [RSel1_is0, RSel1_is1, RSel1_out_0, RSel1_out_1, RSel1_k_1, RSel1_W, h]
  · rw [h1, h2] at h
    try simp at h
    simp [RSel1_is0, RSel1_is1, RSel1_out_0, RSel1_out_1, RSel1_k_1, RSel1_W, h]
@[simp] theorem eqRB_of (a b : List Bd) : eqRB (rOf cB a) (rOf cB b) = decide (a = b) := by simp only [eqRB, unR_of]
@[simp] theorem eqRB_nil (a : List Bd) : eqRB (rOf cB a) [] = decide (a = []) := eqRB_of a []
@[simp] theorem eqRB_nil' (a : List Bd) : eqRB [] (rOf cB a) = decide ([] = a) := eqRB_of [] a
/-! ### TupleMatches -/
theorem TMatches_law (p : List Tm) (t : List Vl) (l : List (List Vl)) (hl : l.length ≤ 9223372036854775807) : TMatches_W (rOf cM p) (rOf cV t) (rOf (cR cV) l) = some (.bool true) := by
  have hf := few_law l hl
  have f1 : (fewL l).length ≤ 1000000 := by have := few_len l; omega
  have f2 : ∀ t ∈ fewL l, t.length ≤ 1000000 := fun t ht => by have := (few_mem ht).2; omega
  have s1 : ∀ p, TSel_W (rOf (cR cV) (fewL l)) (rOf cM p) = some (.sl (rOf (cR cV) (selL p (fewL l))) .non) := fun p => TSel_law p _ f1 f2
  have s2 : ∀ p, RSel_W (rOf (cR cV) (fewL l)) (rOf cM p) = some (.sl (rOf (cR cV) (selL p (fewL l))) .non) := fun p => RSel_law p _ f1 f2
  have s3 : ∀ p, SameRel_W (rOf (cR cV) (selL p (fewL l))) (rOf (cR cV) (selL p (fewL l))) = some (.bool true) := fun p => by
    have : (selL p (fewL l)).length ≤ (fewL l).length := List.length_filter_le _ _
    rw [sameRel_law _ _ (by omega)]
    simp
  unfold TMatches_W TMatches_Tr
  simp only [lockLL_rOf, cutT_of]
  repeat' first
    | rfl
    | refine Tr.run_t (by first | rfl | (simp; done) | (simp [few_is0, few_r, hf, TSel_is0, TSel_r, RSel_is0, RSel_r, SameRel_is0, SameRel_b, s1, s2, s3]; done) | (simp; omega)) ?_
    | refine Tr.run_f (by first | rfl | (simp; done) | (simp; omega)) ?_
    | (refine Tr.run_of (fun h => ?_) (fun h => ?_) <;> simp at h)
end Go.Pv
