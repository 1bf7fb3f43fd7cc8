import Derived.Test.YtdfahkeodlfopaaDoorPvU5
set_option maxHeartbeats 4000000
set_option maxRecDepth 200000
set_option linter.unusedSimpArgs false
set_option linter.unusedVariables false
namespace Go.Pv
open Go Go.Proofs
def matchL : List Tm → List Vl → List Bd → Option (List Bd)
  | x :: p, v :: t, acc =>
    if x.1 = 2 then (if x.2.2 = v then matchL p t acc else none)
    else if x.1 = 1 then (match findB acc x.2.1 with
      | none => matchL p t (acc ++ [(x.2.1, v)])
      | some u => if u = v then matchL p t acc else none)
    else matchL p t acc
  | _, _, acc => some acc
def matchT (p : List Tm) (t : List Vl) : Option (List Bd) := if p.length ≤ 8 ∧ p.all isTm = true ∧ p.length = t.length then matchL p t [] else none
def okMT (p t : List (List PV)) : Bool := (matchT (unR cM p) (unR cV t)).isSome
def mTV (p t : List (List PV)) : List (List PV) := rOf cB ((matchT (unR cM p) (unR cV t)).getD [])
theorem idx_find : ∀ (l : List Bd) (nm : List UInt8) (i : Int), 0 ≤ i → (findB l nm = none ∧ idxA l nm i = -1) ∨ ∃ j b, l[j]? = some b ∧ findB l nm = some b.2 ∧ idxA l nm i = i + (j : Nat)
  | [], nm, i, h => .inl ⟨rfl, rfl⟩
  | b :: l, nm, i, h => by
    simp only [findB, idxA]
    by_cases e : b.1 = nm
    · rw [if_pos e, if_pos e]
      exact .inr ⟨0, b, rfl, rfl, by simp⟩
    · rw [if_neg e, if_neg e]
      rcases idx_find l nm (i + 1) (by omega) with h1 | ⟨j, b', h1, h2, h3⟩
      · exact .inl h1
      · exact .inr ⟨j + 1, b', by simpa using h1, h2, by rw [h3]; simp only [Int.natCast_add]; omega⟩
theorem fdO_of (l : List Bd) (nm : List UInt8) : fdO (rOf cB l) nm = (findB l nm).isSome := by simp only [fdO, unR_of]
theorem fdK_of (l : List Bd) (nm : List UInt8) {v : Vl} (h : findB l nm = some v) : fdK (rOf cB l) nm = v.1 := by simp only [fdK, unR_of, h]; rfl
theorem fdN_of (l : List Bd) (nm : List UInt8) {v : Vl} (h : findB l nm = some v) : fdN (rOf cB l) nm = v.2.1 := by simp only [fdN, unR_of, h]; rfl
theorem fdS_of (l : List Bd) (nm : List UInt8) {v : Vl} (h : findB l nm = some v) : fdS (rOf cB l) nm = v.2.2 := by simp only [fdS, unR_of, h]; rfl
theorem chkP_of' (p : List Tm) : chkP (rOf cM p) = if p.length ≤ 8 ∧ p.all isTm = true then 0 else 22 := by simp only [chkP, unR_of]
theorem idxV_of (l : List Bd) (nm : List UInt8) : idxV (rOf cB l) nm = idxA l nm 0 := by simp only [idxV, unR_of]
theorem vl_ne {k n : Int} {s : List UInt8} {k' n' : Int} {s' : List UInt8} (h : ¬ (k, n, s) = (k', n', s')) : ¬ k = k' ∨ ¬ n = n' ∨ ¬ s = s' := by
  by_cases h1 : k = k'
  · by_cases h2 : n = n'
    · exact .inr (.inr fun h3 => h (by rw [h1, h2, h3]))
    · exact .inr (.inl h2)
  · exact .inl h1
/-- What the loop of a match comes to: bindings, or no. -/
def MOut (r : Option (PExit × List PV × Store)) (m : Option (List Bd)) : Prop := match m with
  | some l => r = some (.exit 0, [.sl (rOf cB l) (aT l)], aS 4 74 l)
  | none => ∃ l : List Bd, r = some (.ret, [.sl [] .full, .bool false], aS 4 74 l)
theorem find_name : ∀ (l : List Bd) (nm : List UInt8) (i : Int) (j : Nat) (hj : j < l.length), 0 ≤ i → idxA l nm i = i + (j : Nat) → l[j].1 = nm
  | b :: l, nm, i, 0, _, hi, h => by
    simp only [idxA] at h
    split at h
    · assumption
    · rcases idxA_rng l nm (i + 1) (by omega) with h1 | h1 <;> omega
  | b :: l, nm, i, j + 1, hj, hi, h => by
    simp only [idxA] at h
    split at h
    · omega
    · exact find_name l nm (i + 1) j (by simpa using hj) (by omega) (by omega)
@[simp] theorem fdO_nil (nm : List UInt8) : fdO [] nm = false := fdO_of [] nm
@[simp] theorem idxV_nil (nm : List UInt8) : idxV [] nm = -1 := idxV_of [] nm
theorem RM_loop (p : List Tm) (t : List Vl) (h8 : p.length ≤ 8) (hlen : p.length = t.length) : ∀ (k i : Nat) (acc : List Bd), i + k = p.length → acc.length ≤ i →
    MOut (RM01_V [.sl (rOf cM p) .non, .sl (rOf cV t) .non, .sl (rOf cB acc) (aT acc), .int .i64 (i : Nat)] (aS 4 74 acc)) (matchL (p.drop i) (t.drop i) acc)
  | 0, i, acc, hi, ha => by
    have hn : ¬ (i : Int) < p.length := by omega
    rw [show p.drop i = [] from List.drop_eq_nil_of_le (by omega)]
    simp only [matchL, MOut]
    rcases aTS_cases 4 74 acc with ⟨rfl, c1, c2⟩ | ⟨hne, c1, c2⟩
    · rw [c1, c2]; simp only [rOf_nil]; rw [RM01_E]; simp [RM01_Tr, hn]
    · rw [c1, c2, RM01_E1]; simp [RM01_Tr1, hn]
  | k + 1, i, acc, hi, ha => by
    have h1 : i < p.length := by omega
    have h2 : i < t.length := by omega
    have w := inc_i64 (i := i) (by omega)
    have g1 : (acc.length + 1) * 48 ≤ 140737488355328 := by omega
    have g2 : acc.length ≤ 140737488355327 := by omega
    have same := RM_loop p t h8 hlen k (i + 1) acc (by omega) (by omega)
    rw [List.drop_eq_getElem_cons h1, List.drop_eq_getElem_cons h2]
    have more := RM_loop p t h8 hlen k (i + 1) (acc ++ [(p[i].2.1, t[i])]) (by omega) (by simp; omega)
    rw [aT_snoc, aS_snoc] at more
    simp only [matchL]
    generalize hx : p[i] = x at *
    generalize hv : t[i] = v at *
    obtain ⟨a1, nm, k1, n1, s1⟩ := x
    obtain ⟨k2, n2, s2⟩ := v
    simp only at more ⊢
    by_cases e2 : a1 = 2
    · subst e2
      by_cases ev : (k1, n1, s1) = (k2, n2, s2)
      · rw [if_pos rfl, if_pos ev]
        obtain ⟨rfl, rfl, rfl⟩ : k1 = k2 ∧ n1 = n2 ∧ s1 = s2 := by simpa using ev
        refine Eq.mp (congrArg (fun z => MOut z _) (Eq.symm ?_)) same
        rcases aTS_cases 4 74 acc with ⟨rfl, c1, c2⟩ | ⟨hne, c1, c2⟩
        · rw [c1, c2]; simp only [rOf_nil]; rw [RM01_E (n := (i : Int))]; simp [RM01_Tr, h1, h2, hx, hv, w]
        · rw [c1, c2, RM01_E1 (n := (i : Int))]; simp [RM01_Tr1, h1, h2, hx, hv, w]
      · rw [if_pos rfl, if_neg ev]
        have ev' := vl_ne ev
        refine ⟨acc, ?_⟩
        rcases aTS_cases 4 74 acc with ⟨rfl, c1, c2⟩ | ⟨hne, c1, c2⟩
        · rw [c1, c2]; simp only [rOf_nil]; rw [RM01_E (n := (i : Int))]; simp [RM01_Tr, h1, h2, hx, hv, ev']
        · rw [c1, c2, RM01_E1 (n := (i : Int))]; simp [RM01_Tr1, h1, h2, hx, hv, ev']
    · rw [if_neg e2]
      by_cases e1 : a1 = 1
      · subst e1
        rw [if_pos rfl]
        cases hf : findB acc nm with
        | none =>
          have hi := idx_find acc nm 0 (by omega)
          rw [hf] at hi
          have hidx : idxA acc nm 0 = -1 := by
            rcases hi with ⟨_, h⟩ | ⟨j, b, _, h, _⟩
            · exact h
            · cases h
          refine Eq.mp (congrArg (fun z => MOut z _) (Eq.symm ?_)) more
          rcases aTS_cases 4 74 acc with ⟨rfl, c1, c2⟩ | ⟨hne, c1, c2⟩
          · rw [c1, c2]; simp only [rOf_nil]; rw [RM01_E (n := (i : Int))]; simp [RM01_Tr, h1, h2, hx, hv, w, hf, hidx, one, aT_snoc, aS_snoc, g1, g2, idxV_of, fdO_of]
          · rw [c1, c2, RM01_E1 (n := (i : Int))]; simp [RM01_Tr1, h1, h2, hx, hv, w, hf, hidx, one, aT_snoc, aS_snoc, g1, g2, idxV_of, fdO_of]
        | some u =>
          have hne : acc ≠ [] := by rintro rfl; simp [findB] at hf
          obtain ⟨k3, n3, s3⟩ := u
          have f1 := fdK_of acc nm hf
          have f2 := fdN_of acc nm hf
          have f3 := fdS_of acc nm hf
          simp only at f1 f2 f3
          obtain ⟨j, hj, hjb, hidx⟩ : ∃ j : Nat, ∃ hj : j < acc.length, acc[j] = (nm, k3, n3, s3) ∧ idxA acc nm 0 = (j : Nat) := by
            rcases idx_find acc nm 0 (by omega) with ⟨h, _⟩ | ⟨j, b, h1, h2, h3⟩
            · rw [hf] at h; cases h
            · obtain ⟨hj, rfl⟩ := List.getElem?_eq_some_iff.1 h1
              rw [hf] at h2
              have hn : acc[j].1 = nm := find_name acc nm 0 j hj (by omega) h3
              exact ⟨j, hj, Prod.ext hn (Option.some.inj h2).symm, by rw [h3]; omega⟩
          have hidx' : ¬ (j : Int) < 0 := by omega
          by_cases ev : (k3, n3, s3) = (k2, n2, s2)
          · simp only [if_pos ev]
            obtain ⟨rfl, rfl, rfl⟩ : k3 = k2 ∧ n3 = n2 ∧ s3 = s2 := by simpa using ev
            refine Eq.mp (congrArg (fun z => MOut z _) (Eq.symm ?_)) same
            rcases aTS_cases 4 74 acc with ⟨h0, c1, c2⟩ | ⟨_, c1, c2⟩
            · exact absurd h0 hne
            · rw [c1, c2, RM01_E1 (n := (i : Int))]; simp [RM01_Tr1, h1, h2, hx, hv, w, hf, hidx, hidx', hj, hjb, idxV_of, fdO_of, f1, f2, f3]
          · simp only [if_neg ev]
            have ev' := vl_ne ev
            refine ⟨acc, ?_⟩
            rcases aTS_cases 4 74 acc with ⟨h0, c1, c2⟩ | ⟨_, c1, c2⟩
            · exact absurd h0 hne
            · rw [c1, c2, RM01_E1 (n := (i : Int))]; simp [RM01_Tr1, h1, h2, hx, hv, ev', hf, hidx, hidx', hj, hjb, idxV_of, fdO_of, f1, f2, f3]
      · rw [if_neg e1]
        refine Eq.mp (congrArg (fun z => MOut z _) (Eq.symm ?_)) same
        rcases aTS_cases 4 74 acc with ⟨rfl, c1, c2⟩ | ⟨hne, c1, c2⟩
        · rw [c1, c2]; simp only [rOf_nil]; rw [RM01_E (n := (i : Int))]; simp [RM01_Tr, h1, h2, hx, hv, w, e1, e2, fdO_of, idxV_of]
        · rw [c1, c2, RM01_E1 (n := (i : Int))]; simp [RM01_Tr1, h1, h2, hx, hv, w, e1, e2, fdO_of, idxV_of]
theorem Mt_loop (p : List Tm) (t : List Vl) (h8 : p.length ≤ 8) (hlen : p.length = t.length) : ∀ (k i : Nat) (acc : List Bd), i + k = p.length → acc.length ≤ i →
    MOut (Mt01_V [.sl (rOf cV t) .non, .sl (rOf cB acc) (aT acc), .sl (rOf cM p) .non, .int .i64 (p.length : Nat), .int .i64 (i : Nat)] (aS 4 74 acc)) (matchL (p.drop i) (t.drop i) acc)
  | 0, i, acc, hi, ha => by
    have hn : ¬ (i : Int) < p.length := by omega
    rw [show p.drop i = [] from List.drop_eq_nil_of_le (by omega)]
    simp only [matchL, MOut]
    rcases aTS_cases 4 74 acc with ⟨rfl, c1, c2⟩ | ⟨hne, c1, c2⟩
    · rw [c1, c2]; simp only [rOf_nil]; rw [Mt01_E]; simp [Mt01_Tr, hn]
    · rw [c1, c2, Mt01_E1]; simp [Mt01_Tr1, hn]
  | k + 1, i, acc, hi, ha => by
    have h1 : i < p.length := by omega
    have h2 : i < t.length := by omega
    have w := inc_i64 (i := i) (by omega)
    have g1 : (acc.length + 1) * 48 ≤ 140737488355328 := by omega
    have g2 : acc.length ≤ 140737488355327 := by omega
    have same := Mt_loop p t h8 hlen k (i + 1) acc (by omega) (by omega)
    rw [List.drop_eq_getElem_cons h1, List.drop_eq_getElem_cons h2]
    have more := Mt_loop p t h8 hlen k (i + 1) (acc ++ [(p[i].2.1, t[i])]) (by omega) (by simp; omega)
    rw [aT_snoc, aS_snoc] at more
    simp only [matchL]
    generalize hx : p[i] = x at *
    generalize hv : t[i] = v at *
    obtain ⟨a1, nm, k1, n1, s1⟩ := x
    obtain ⟨k2, n2, s2⟩ := v
    simp only at more ⊢
    by_cases e2 : a1 = 2
    · subst e2
      by_cases ev : (k1, n1, s1) = (k2, n2, s2)
      · rw [if_pos rfl, if_pos ev]
        obtain ⟨rfl, rfl, rfl⟩ : k1 = k2 ∧ n1 = n2 ∧ s1 = s2 := by simpa using ev
        refine Eq.mp (congrArg (fun z => MOut z _) (Eq.symm ?_)) same
        rcases aTS_cases 4 74 acc with ⟨rfl, c1, c2⟩ | ⟨hne, c1, c2⟩
        · rw [c1, c2]; simp only [rOf_nil]; rw [Mt01_E (n2 := (i : Int))]; simp [Mt01_Tr, h1, h2, hx, hv, w]
        · rw [c1, c2, Mt01_E1 (n2 := (i : Int))]; simp [Mt01_Tr1, h1, h2, hx, hv, w]
      · rw [if_pos rfl, if_neg ev]
        have ev' := vl_ne ev
        refine ⟨acc, ?_⟩
        rcases aTS_cases 4 74 acc with ⟨rfl, c1, c2⟩ | ⟨hne, c1, c2⟩
        · rw [c1, c2]; simp only [rOf_nil]; rw [Mt01_E (n2 := (i : Int))]; simp [Mt01_Tr, h1, h2, hx, hv, ev']
        · rw [c1, c2, Mt01_E1 (n2 := (i : Int))]; simp [Mt01_Tr1, h1, h2, hx, hv, ev']
    · rw [if_neg e2]
      by_cases e1 : a1 = 1
      · subst e1
        rw [if_pos rfl]
        cases hf : findB acc nm with
        | none =>
          have hi := idx_find acc nm 0 (by omega)
          rw [hf] at hi
          have hidx : idxA acc nm 0 = -1 := by
            rcases hi with ⟨_, h⟩ | ⟨j, b, _, h, _⟩
            · exact h
            · cases h
          refine Eq.mp (congrArg (fun z => MOut z _) (Eq.symm ?_)) more
          rcases aTS_cases 4 74 acc with ⟨rfl, c1, c2⟩ | ⟨hne, c1, c2⟩
          · rw [c1, c2]; simp only [rOf_nil]; rw [Mt01_E (n2 := (i : Int))]; simp [Mt01_Tr, h1, h2, hx, hv, w, hf, hidx, one, aT_snoc, aS_snoc, g1, g2, idxV_of, fdO_of]
          · rw [c1, c2, Mt01_E1 (n2 := (i : Int))]; simp [Mt01_Tr1, h1, h2, hx, hv, w, hf, hidx, one, aT_snoc, aS_snoc, g1, g2, idxV_of, fdO_of]
        | some u =>
          have hne : acc ≠ [] := by rintro rfl; simp [findB] at hf
          obtain ⟨k3, n3, s3⟩ := u
          have f1 := fdK_of acc nm hf
          have f2 := fdN_of acc nm hf
          have f3 := fdS_of acc nm hf
          simp only at f1 f2 f3
          obtain ⟨j, hj, hjb, hidx⟩ : ∃ j : Nat, ∃ hj : j < acc.length, acc[j] = (nm, k3, n3, s3) ∧ idxA acc nm 0 = (j : Nat) := by
            rcases idx_find acc nm 0 (by omega) with ⟨h, _⟩ | ⟨j, b, h1, h2, h3⟩
            · rw [hf] at h; cases h
            · obtain ⟨hj, rfl⟩ := List.getElem?_eq_some_iff.1 h1
              rw [hf] at h2
              have hn : acc[j].1 = nm := find_name acc nm 0 j hj (by omega) h3
              exact ⟨j, hj, Prod.ext hn (Option.some.inj h2).symm, by rw [h3]; omega⟩
          have hidx' : ¬ (j : Int) < 0 := by omega
          by_cases ev : (k3, n3, s3) = (k2, n2, s2)
          · simp only [if_pos ev]
            obtain ⟨rfl, rfl, rfl⟩ : k3 = k2 ∧ n3 = n2 ∧ s3 = s2 := by simpa using ev
            refine Eq.mp (congrArg (fun z => MOut z _) (Eq.symm ?_)) same
            rcases aTS_cases 4 74 acc with ⟨h0, c1, c2⟩ | ⟨_, c1, c2⟩
            · exact absurd h0 hne
            · rw [c1, c2, Mt01_E1 (n2 := (i : Int))]; simp [Mt01_Tr1, h1, h2, hx, hv, w, hf, hidx, hidx', hj, hjb, idxV_of, fdO_of, f1, f2, f3]
          · simp only [if_neg ev]
            have ev' := vl_ne ev
            refine ⟨acc, ?_⟩
            rcases aTS_cases 4 74 acc with ⟨h0, c1, c2⟩ | ⟨_, c1, c2⟩
            · exact absurd h0 hne
            · rw [c1, c2, Mt01_E1 (n2 := (i : Int))]; simp [Mt01_Tr1, h1, h2, hx, hv, ev', hf, hidx, hidx', hj, hjb, idxV_of, fdO_of, f1, f2, f3]
      · rw [if_neg e1]
        refine Eq.mp (congrArg (fun z => MOut z _) (Eq.symm ?_)) same
        rcases aTS_cases 4 74 acc with ⟨rfl, c1, c2⟩ | ⟨hne, c1, c2⟩
        · rw [c1, c2]; simp only [rOf_nil]; rw [Mt01_E (n2 := (i : Int))]; simp [Mt01_Tr, h1, h2, hx, hv, w, e1, e2, fdO_of, idxV_of]
        · rw [c1, c2, Mt01_E1 (n2 := (i : Int))]; simp [Mt01_Tr1, h1, h2, hx, hv, w, e1, e2, fdO_of, idxV_of]
theorem RM_law (p : List Tm) (t : List Vl) : RM0_W (rOf cM p) (rOf cV t) = some (match matchT p t with | some l => .tup [.sl (rOf cB l) .non, .bool true] | none => .tup [.sl [] .non, .bool false]) := by
  unfold RM0_W RM0_Tr matchT
  simp only [lockLL_rOf, chkP_of']
  by_cases h8 : p.length ≤ 8 ∧ p.all isTm = true
  · by_cases hl : p.length = t.length
    · have h := RM_loop p t h8.1 hl p.length 0 [] (by omega) (by simp)
      have hl' : ¬ (p.length : Int) ≠ t.length := by omega
      rw [if_pos h8, if_pos ⟨h8.1, h8.2, hl⟩]
      simp only [List.drop_zero] at h
      cases hm : matchL p t [] with
      | some l =>
        rw [hm] at h
        simp only [MOut] at h
        rcases aTS_cases 4 74 l with ⟨rfl, c1, c2⟩ | ⟨hne, c1, c2⟩
        · rw [c1, c2] at h; simp at h; simp [RM01_is0, RM01_is1, RM01_is2, RM01_is3, RM01_r_0, RM01_b_0, RM01_r_1, RM01_r_2, RM01_b_2, RM01_k_2, RM01_r_3, RM01_k_3, RM01_W, h, hl.symm]
        · rw [c1, c2] at h; simp at h; simp [RM01_is0, RM01_is1, RM01_is2, RM01_is3, RM01_r_0, RM01_b_0, RM01_r_1, RM01_r_2, RM01_b_2, RM01_k_2, RM01_r_3, RM01_k_3, RM01_W, h, hl.symm]
      | none =>
        rw [hm] at h
        obtain ⟨l, h⟩ := h
        rcases aTS_cases 4 74 l with ⟨rfl, c1, c2⟩ | ⟨hne, c1, c2⟩
        · rw [c2] at h; simp at h; simp [RM01_is0, RM01_is1, RM01_is2, RM01_is3, RM01_r_0, RM01_b_0, RM01_r_1, RM01_r_2, RM01_b_2, RM01_k_2, RM01_r_3, RM01_k_3, RM01_W, h, hl.symm]
        · rw [c2] at h; simp at h; simp [RM01_is0, RM01_is1, RM01_is2, RM01_is3, RM01_r_0, RM01_b_0, RM01_r_1, RM01_r_2, RM01_b_2, RM01_k_2, RM01_r_3, RM01_k_3, RM01_W, h, hl.symm]
    · have hl' : (p.length : Int) ≠ t.length := by omega
      rw [if_pos h8, if_neg (fun h => hl h.2.2)]
      simp [hl', hl]
  · rw [if_neg h8, if_neg (fun h => h8 ⟨h.1, h.2.1⟩)]
    simp
def F_RM : List PV → Tr PV
  | [.sl p .non, .sl t .non] => Tr.chk (okR cM p) (Tr.chk (okR cV t) (.ite (okMT p t) (.ret (.tup [.sl (mTV p t) .non, .bool true])) (.ret (.tup [.sl [] .non, .bool false]))))
  | _ => .fail
theorem sim_RM (gl : Nat → Option Obj) : SimP Tryd.prog gl 27 fun args => (F_RM args).run := by
  refine SimP.given (sim_RM0 gl) ?_
  intro args x hg h
  unfold F_RM at h
  split at h
  · rename_i p t
    obtain ⟨h0, q0⟩ := Tr.chk_some h
    obtain ⟨h1, q1⟩ := Tr.chk_some q0
    have q := q1
    obtain ⟨p, rfl⟩ := okR_eq _ h0
    obtain ⟨t, rfl⟩ := okR_eq _ h1
    have hw := RM_law p t
    have hO : okMT (rOf cM p) (rOf cV t) = (matchT p t).isSome := by simp only [okMT, unR_of]
    have hV : mTV (rOf cM p) (rOf cV t) = rOf cB ((matchT p t).getD []) := by simp only [mTV, unR_of]
    rw [hO, hV] at q
    cases hm : matchT p t with
    | some l => rw [hm] at hw q; simp at q; subst q; simp at hw; simp [F_RM0, RM0_is0, RM0_r, RM0_b, hw]
    | none => rw [hm] at hw q; simp at q; subst q; simp at hw; simp [F_RM0, RM0_is0, RM0_r, RM0_b, hw]
  · cases h
theorem Mt_law (p : List Tm) (t : List Vl) : Mt0_W (rOf cM p) (rOf cV t) = some (match matchT p t with | some l => .tup [.sl (rOf cB l) .non, .bool true] | none => .tup [.sl [] .non, .bool false]) := by
  unfold Mt0_W Mt0_Tr matchT
  simp only [lockLL_rOf, chkP_of']
  by_cases h8 : p.length ≤ 8 ∧ p.all isTm = true
  · by_cases hl : p.length = t.length
    · have h := Mt_loop p t h8.1 hl p.length 0 [] (by omega) (by simp)
      have hl' : ¬ (p.length : Int) ≠ t.length := by omega
      rw [if_pos h8, if_pos ⟨h8.1, h8.2, hl⟩]
      simp only [List.drop_zero] at h
      cases hm : matchL p t [] with
      | some l =>
        rw [hm] at h
        simp only [MOut] at h
        rcases aTS_cases 4 74 l with ⟨rfl, c1, c2⟩ | ⟨hne, c1, c2⟩
        · rw [c1, c2] at h; simp at h; simp [Mt01_is0, Mt01_is1, Mt01_is2, Mt01_is3, Mt01_r_0, Mt01_b_0, Mt01_r_1, Mt01_r_2, Mt01_b_2, Mt01_k_2, Mt01_r_3, Mt01_k_3, Mt01_W, h, hl.symm]
        · rw [c1, c2] at h; simp at h; simp [Mt01_is0, Mt01_is1, Mt01_is2, Mt01_is3, Mt01_r_0, Mt01_b_0, Mt01_r_1, Mt01_r_2, Mt01_b_2, Mt01_k_2, Mt01_r_3, Mt01_k_3, Mt01_W, h, hl.symm]
      | none =>
        rw [hm] at h
        obtain ⟨l, h⟩ := h
        rcases aTS_cases 4 74 l with ⟨rfl, c1, c2⟩ | ⟨hne, c1, c2⟩
        · rw [c2] at h; simp at h; simp [Mt01_is0, Mt01_is1, Mt01_is2, Mt01_is3, Mt01_r_0, Mt01_b_0, Mt01_r_1, Mt01_r_2, Mt01_b_2, Mt01_k_2, Mt01_r_3, Mt01_k_3, Mt01_W, h, hl.symm]
        · rw [c2] at h; simp at h; simp [Mt01_is0, Mt01_is1, Mt01_is2, Mt01_is3, Mt01_r_0, Mt01_b_0, Mt01_r_1, Mt01_r_2, Mt01_b_2, Mt01_k_2, Mt01_r_3, Mt01_k_3, Mt01_W, h, hl.symm]
    · have hl' : (p.length : Int) ≠ t.length := by omega
      rw [if_pos h8, if_neg (fun h => hl h.2.2)]
      simp [hl', hl]
  · rw [if_neg h8, if_neg (fun h => h8 ⟨h.1, h.2.1⟩)]
    simp
def F_Mt : List PV → Tr PV
  | [.sl p .non, .sl t .non] => Tr.chk (okR cM p) (Tr.chk (okR cV t) (.ite (okMT p t) (.ret (.tup [.sl (mTV p t) .non, .bool true])) (.ret (.tup [.sl [] .non, .bool false]))))
  | _ => .fail
theorem sim_Mt (gl : Nat → Option Obj) : SimP Tryd.prog gl 18 fun args => (F_Mt args).run := by
  refine SimP.given (sim_Mt0 gl) ?_
  intro args x hg h
  unfold F_Mt at h
  split at h
  · rename_i p t
    obtain ⟨h0, q0⟩ := Tr.chk_some h
    obtain ⟨h1, q1⟩ := Tr.chk_some q0
    have q := q1
    obtain ⟨p, rfl⟩ := okR_eq _ h0
    obtain ⟨t, rfl⟩ := okR_eq _ h1
    have hw := Mt_law p t
    have hO : okMT (rOf cM p) (rOf cV t) = (matchT p t).isSome := by simp only [okMT, unR_of]
    have hV : mTV (rOf cM p) (rOf cV t) = rOf cB ((matchT p t).getD []) := by simp only [mTV, unR_of]
    rw [hO, hV] at q
    cases hm : matchT p t with
    | some l => rw [hm] at hw q; simp at q; subst q; simp at hw; simp [F_Mt0, Mt0_is0, Mt0_r, Mt0_b, hw]
    | none => rw [hm] at hw q; simp at q; subst q; simp at hw; simp [F_Mt0, Mt0_is0, Mt0_r, Mt0_b, hw]
  · cases h
end Go.Pv
