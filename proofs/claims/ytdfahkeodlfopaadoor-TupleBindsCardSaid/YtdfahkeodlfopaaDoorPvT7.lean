import Derived.Test.YtdfahkeodlfopaaDoorPvT6
import Derived.Test.YtdfahkeodlfopaaDoorPvTot
set_option maxHeartbeats 4000000
set_option maxRecDepth 200000
set_option linter.unusedSimpArgs false
set_option linter.unusedVariables false
namespace Go.Pv
open Go Go.Proofs
/-! ### few -/
def fewL (l : List (List Vl)) : List (List Vl) := (l.filter fun t => decide (t.length ≤ 20)).take 60
def fewF (b : List (List Vl)) (a : List Vl) : List (List Vl) ⊕ List (List Vl) := if b.length < 60 then (if a.length ≤ 20 then .inl (b ++ [a]) else .inl b) else .inr b
theorem few_fold : ∀ (l b : List (List Vl)), b.length ≤ 60 → foldE fewF id l b = (b ++ l.filter fun t => decide (t.length ≤ 20)).take 60
  | [], b, h => by simp [foldE, List.take_of_length_le h]
  | a :: l, b, h => by
    simp only [foldE, fewF]
    by_cases h1 : b.length < 60
    · by_cases h2 : a.length ≤ 20
      · simp only [if_pos h1, if_pos h2]
        rw [few_fold l (b ++ [a]) (by simp; omega)]
        simp [h2]
      · simp only [if_pos h1, if_neg h2]
        rw [few_fold l b h]
        simp [h2]
    · simp only [if_neg h1]
      have : b.length = 60 := by omega
      rw [List.take_append_of_le_length (by omega), List.take_of_length_le (by omega)]
theorem few_loop (l : List (List Vl)) (hl : l.length ≤ 9223372036854775807) : few1_V [.sl (rOf (cR cV) l) .non, .sl [] .full, .int .i64 0] ⟨[], [], []⟩ = some (.exit 0, [.sl (rOf (cR cV) (fewL l)) (aT (fewL l))], aS 1 23 (fewL l)) := by
  have h := loop_foldE0 (l := l) (V := fun i b => few1_V [.sl (rOf (cR cV) l) .non, .sl (rOf (cR cV) b) (aT b), .int .i64 (i : Nat)] (aS 1 23 b)) (fun _ _ => True) fewF id (fun r => some (.exit 0, [.sl (rOf (cR cV) r) (aT r)], aS 1 23 r)) [] trivial ?_ ?_
  · rw [few_fold l [] (by simp)] at h
    simpa [fewL] using h
  · intro i b a _ hi ha
    have w := inc_i64 (i := i) (by omega)
    rcases aTS_cases 1 23 b with ⟨rfl, h1, h2⟩ | ⟨hne, h1, h2⟩
    · by_cases hc : (a.length : Int) ≤ 20
      · refine .inl ⟨_, by simp only [fewF]; rw [if_pos (by simp)]; first | rw [if_pos (by omega)] | rw [if_neg (by omega)], trivial, ?_⟩
        simp [few1_E, few1_Tr, ha, hi, w, hc, one, aT, aS]
      · refine .inl ⟨_, by simp only [fewF]; rw [if_pos (by simp)]; first | rw [if_pos (by omega)] | rw [if_neg (by omega)], trivial, ?_⟩
        simp [few1_E, few1_Tr, ha, hi, w, hc, one, aT, aS]
    · by_cases h3 : (b.length : Int) < 60
      · by_cases hc : (a.length : Int) ≤ 20
        · refine .inl ⟨_, by simp only [fewF]; rw [if_pos (by omega)]; first | rw [if_pos (by omega)] | rw [if_neg (by omega)], trivial, ?_⟩
          have h4 : (b.length + 1) * 24 ≤ 140737488355328 := by omega
          have h5 : b.length ≤ 140737488355327 := by omega
          simp [h1, h2, few1_E1, few1_Tr1, ha, hi, w, hc, h3, one, aT_snoc, aS_snoc, h4, h5]
          try omega
        · refine .inl ⟨_, by simp only [fewF]; rw [if_pos (by omega)]; first | rw [if_pos (by omega)] | rw [if_neg (by omega)], trivial, ?_⟩
          simp [h1, h2, few1_E1, few1_Tr1, ha, hi, w, hc, h3, one, aT_snoc, aS_snoc]
      · refine .inr ⟨_, by simp only [fewF]; rw [if_neg (by omega)], ?_⟩
        simp [h1, h2, few1_E1, few1_Tr1, ha, hi, w, h3]
        try omega
  · intro b _
    rcases aTS_cases 1 23 b with ⟨rfl, h1, h2⟩ | ⟨hne, h1, h2⟩
    · simp [few1_E, few1_Tr]
    · simp [h1, h2, few1_E1, few1_Tr1]
theorem few_law (l : List (List Vl)) (hl : l.length ≤ 9223372036854775807) : few_W (rOf (cR cV) l) = some (.sl (rOf (cR cV) (fewL l)) .non) := by
  have h := few_loop l hl
  unfold few_W few_Tr
  generalize fewL l = r at h
  rcases aTS_cases 1 23 r with ⟨rfl, h1, h2⟩ | ⟨hne, h1, h2⟩
  · simp [few1_is0, few1_is1, few1_out_0, few1_out_1, few1_k_1, few1_W, h]
  · rw [h1, h2] at h
    simp [few1_is0, few1_is1, few1_out_0, few1_out_1, few1_k_1, few1_W, h]
theorem few_len (l : List (List Vl)) : (fewL l).length ≤ 60 := by simp [fewL]; omega
theorem few_mem {l : List (List Vl)} {t : List Vl} (h : t ∈ fewL l) : t ∈ l ∧ t.length ≤ 20 := by
  have := List.mem_of_mem_take h
  simpa using this
/-! ### the order of tuples -/
theorem cmpVl_tot : Tot cmpVl where
  val := fun a b => cmp_val _ _ _ _ _ _
  zero := fun a b => by
    unfold cmpVl
    rw [cmp_zero]
    obtain ⟨k, n, s⟩ := a
    obtain ⟨k', n', s'⟩ := b
    simp
  swap := fun a b => cmp_swap _ _ _ _ _ _
  trans := fun a b c h1 h2 => cmp_lt_trans h1 (by have : cmpVl b c < 0 := h2; unfold cmpVl at this; omega)
theorem cmpT_lex (f : Vl → Vl → Int) : ∀ (a b : List Vl), cmpT f a b = lex f a b
  | [], [] => rfl
  | [], b :: m => by simp [cmpT, dif, lex]
  | a :: l, [] => by simp [cmpT, dif, lex]
  | a :: l, b :: m => by
    have ih := cmpT_lex f l m
    simp only [cmpT, dif, lex] at ih ⊢
    by_cases h : f a b = 0
    · simp only [if_pos h]
      rw [← ih]
      cases dif f l m <;> simp
    · simp only [if_neg h]
/-- Tuples in order. -/
def lexV : List Vl → List Vl → Int := lex cmpVl
theorem lexV_tot : Tot lexV := lex_tot cmpVl_tot
@[simp] theorem cmpTV_of (a b : List Vl) : cmpTV (rOf cV a) (rOf cV b) = lexV a b := by simp only [cmpTV, unR_of, cmpT_lex]; rfl
@[simp] theorem cmpTR_of (a b : List Vl) : cmpTR (rOf cV a) (rOf cV b) = lexV a b := by simp only [cmpTR, unR_of, cmpT_lex, cmpRl_eq]; rfl
/-! ### rows of tuples alike -/
theorem sameRel_loop : ∀ (k i : Nat) (a b : List (List Vl)), i + k = a.length → a.length = b.length → a.length ≤ 9223372036854775807 → SameRel1_V [.sl (rOf (cR cV) a) .non, .sl (rOf (cR cV) b) .non, .int .i64 (i : Nat)] ⟨[], [], []⟩ = if a.drop i = b.drop i then some (.exit 0, [], ⟨[], [], []⟩) else some (.ret, [.bool false], ⟨[], [], []⟩)
  | 0, i, a, b, hi, hl, hm => by
    rw [List.drop_eq_nil_of_le (by omega), List.drop_eq_nil_of_le (by omega)]
    have : ¬ (i : Int) < a.length := by omega
    simp [SameRel1_E, SameRel1_Tr, this]
  | k + 1, i, a, b, hi, hl, hm => by
    have w := inc_i64 (i := i) (by omega)
    have h1 : i < a.length := by omega
    have h2 : i < b.length := by omega
    have key : (a.drop i = b.drop i) = (a[i] = b[i] ∧ a.drop (i + 1) = b.drop (i + 1)) := by rw [List.drop_eq_getElem_cons h1, List.drop_eq_getElem_cons h2, List.cons.injEq]
    have ih := sameRel_loop k (i + 1) a b (by omega) hl hm
    simp only [key]
    by_cases e : a[i] = b[i]
    · have := lexV_tot.self b[i]
      simp only [e, true_and]
      rw [← ih]
      simp [SameRel1_E, SameRel1_Tr, h1, h2, w, e, this]
    · have : ¬ lexV a[i] b[i] = 0 := fun h => e ((lexV_tot.zero _ _).1 h)
      simp [SameRel1_E, SameRel1_Tr, h1, h2, w, e, this]
theorem sameRel_law (a b : List (List Vl)) (ha : a.length ≤ 9223372036854775807) : SameRel_W (rOf (cR cV) a) (rOf (cR cV) b) = some (.bool (decide (a = b))) := by
  unfold SameRel_W SameRel_Tr
  by_cases hl : a.length = b.length
  · have h := sameRel_loop a.length 0 a b (by omega) hl ha
    simp only [List.drop_zero] at h
    by_cases e : a = b
    · rw [if_pos e] at h
      subst e
      simp at h
      simp [SameRel1_is0, SameRel1_is1, SameRel1_b_0, SameRel1_W, h]
    · rw [if_neg e] at h
      simp at h
      have : ¬ (a.length : Int) ≠ b.length := by omega
      simp [SameRel1_is0, SameRel1_is1, SameRel1_b_0, SameRel1_W, h, e, this]
  · have : (a.length : Int) ≠ b.length := by omega
    have e : a ≠ b := by rintro rfl; exact hl rfl
    simp [this, e]
/-! ### within -/
def withinL (low t high : List Vl) : Bool := decide (0 ≤ lexV (t.take low.length) low) && decide (lexV (t.take high.length) high ≤ 0)
theorem min_nat (a b : Nat) : imin (a : Int) (b : Int) = ((min a b : Nat) : Int) := by simp only [imin_eq]; split <;> omega
theorem TWithin_law (low t high : List Vl) : (TWithin_Tr (rOf cV low) (rOf cV t) (rOf cV high)).run = some (.bool (withinL low t high)) := by
  have e1 : ∀ x : List Vl, List.take (min x.length t.length) t = t.take x.length := fun x => by rw [List.take_eq_take_iff]; omega
  have e2 : ∀ x : List Vl, min x.length t.length ≤ t.length := fun x => by omega
  have e3 : ∀ x : List Vl, imin (x.length : Int) (t.length : Int) = ((min x.length t.length : Nat) : Int) := fun x => min_nat _ _
  simp only [TWithin_Tr, lockLL_rOf, xLen_rOf, e3]
  by_cases h : 0 ≤ lexV (t.take low.length) low
  · simp [-imin_eq, e1, e2, h, withinL]
  · simp [-imin_eq, e1, e2, h, withinL]
theorem RWithin_law (low t high : List Vl) : (RWithin_Tr (rOf cV low) (rOf cV t) (rOf cV high)).run = some (.bool (withinL low t high)) := by
  have e1 : ∀ x : List Vl, List.take (min t.length x.length) t = t.take x.length := fun x => by rw [List.take_eq_take_iff]; omega
  have e2 : ∀ x : List Vl, min t.length x.length ≤ t.length := fun x => by omega
  have e3 : ∀ x : List Vl, imin (t.length : Int) (x.length : Int) = ((min t.length x.length : Nat) : Int) := fun x => min_nat _ _
  simp only [RWithin_Tr, lockLL_rOf, xLen_rOf, e3]
  by_cases h : 0 ≤ lexV (t.take low.length) low
  · simp [-imin_eq, e1, e2, h, withinL]
  · simp [-imin_eq, e1, e2, h, withinL]
/-! ### Clone -/
noncomputable def F_CloneT : List PV → Tr PV | [.sl s .non] => Tr.chk (okNews s 3) (Tr.chk (okGrow [] s 32) (.ret (.sl (shutLL s) .non))) | _ => .fail
theorem sim_CloneT (gl : Nat → Option Obj) : SimP Tryd.prog gl 64 fun args => (F_CloneT args).run := by
  refine SimP.of_nilcase (sim_CloneT0 gl) ?_
  intro args x h
  unfold F_CloneT at h
  split at h
  · rename_i s
    obtain ⟨h1, q⟩ := Tr.chk_some h
    obtain ⟨h2, q⟩ := Tr.chk_some q
    cases q
    refine ⟨s, .non, rfl, ?_, ?_⟩
    · have : CloneT0_W s = some (.sl (shutLL s) .non) := by
        unfold CloneT0_W CloneT0_Tr
        cases s with
        | nil => simp
        | cons a s => simp at h2; simp [h1, h2]
      simp [F_CloneT0, CloneT0_is0, CloneT0_r, this]
    · have : CloneT0b_W s = some (.sl (shutLL s) .non) := by
        unfold CloneT0b_W CloneT0b_Tr
        cases s with
        | nil => simp
        | cons a s => simp at h2; simp [h1, h2]
      simp [F_CloneT0, CloneT0b_is0, CloneT0b_r, this]
  · cases h
end Go.Pv
