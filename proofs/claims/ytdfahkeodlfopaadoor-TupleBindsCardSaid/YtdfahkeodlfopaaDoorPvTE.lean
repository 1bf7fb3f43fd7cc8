import Derived.Test.YtdfahkeodlfopaaDoorPvTD
set_option maxHeartbeats 4000000
set_option maxRecDepth 200000
set_option linter.unusedSimpArgs false
set_option linter.unusedVariables false
namespace Go.Pv
open Go Go.Proofs
/-! ### what a match tells -/
def Fit (l : List Bd) : List Tm → List Vl → Prop
  | x :: p, v :: t => (x.1 = 1 → findB l x.2.1 = some v) ∧ (x.1 = 2 → x.2.2 = v) ∧ Fit l p t
  | _, _ => True
theorem find_app (nm : List UInt8) (b : Bd) : ∀ acc : List Bd, findB (acc ++ [b]) nm = match findB acc nm with | some v => some v | none => if b.1 = nm then some b.2 else none
  | [] => by simp [findB]
  | a :: acc => by
    simp only [List.cons_append, findB]
    by_cases h : a.1 = nm
    · simp [h]
    · simp only [if_neg h]; exact find_app nm b acc
theorem match_keep : ∀ (p : List Tm) (t : List Vl) (acc l : List Bd), matchL p t acc = some l → ∀ nm v, findB acc nm = some v → findB l nm = some v
  | x :: p, u :: t, acc, l, h, nm, v, hf => by
    simp only [matchL] at h
    split at h
    · split at h
      · exact match_keep p t acc l h nm v hf
      · cases h
    · split at h
      · split at h
        · exact match_keep p t _ l h nm v (by rw [find_app, hf])
        · split at h
          · exact match_keep p t acc l h nm v hf
          · cases h
      · exact match_keep p t acc l h nm v hf
  | [], t, acc, l, h, nm, v, hf => by simp only [matchL] at h; cases h; exact hf
  | x :: p, [], acc, l, h, nm, v, hf => by simp only [matchL] at h; cases h; exact hf
theorem match_fit : ∀ (p : List Tm) (t : List Vl) (acc l : List Bd), matchL p t acc = some l → Fit l p t
  | x :: p, u :: t, acc, l, h => by
    simp only [matchL] at h
    split at h
    · rename_i h2
      split at h
      · rename_i hv
        exact ⟨fun h1 => by omega, fun _ => hv, match_fit p t acc l h⟩
      · cases h
    · rename_i h2
      split at h
      · split at h
        · rename_i hn
          refine ⟨fun _ => match_keep p t _ l h _ _ ?_, fun h1 => absurd h1 h2, match_fit p t _ l h⟩
          rw [find_app, hn]
          simp
        · rename_i w hw
          split at h
          · rename_i hv
            subst hv
            exact ⟨fun _ => match_keep p t acc l h _ _ hw, fun h1 => absurd h1 h2, match_fit p t acc l h⟩
          · cases h
      · rename_i h1
        exact ⟨fun h3 => absurd h3 h1, fun h3 => absurd h3 h2, match_fit p t acc l h⟩
  | [], _, _, _, _ => by simp [Fit]
  | _ :: _, [], _, _, _ => by simp [Fit]
theorem Fit.get {l : List Bd} : ∀ {p : List Tm} {t : List Vl}, Fit l p t → ∀ (i : Nat) (h1 : i < p.length) (h2 : i < t.length), (p[i].1 = 1 → findB l p[i].2.1 = some t[i]) ∧ (p[i].1 = 2 → p[i].2.2 = t[i])
  | x :: p, v :: t, h, 0, _, _ => ⟨h.1, h.2.1⟩
  | x :: p, v :: t, h, i + 1, h1, h2 => Fit.get h.2.2 i (by simpa using h1) (by simpa using h2)
  | [], _, _, _, h1, _ => by simp at h1
  | _ :: _, [], _, _, _, h2 => by simp at h2
def sbst (x : Tm) (v : Vl) : Tm := if x.1 = 1 then (2, [], v) else x
def sbstL (p : List Tm) (t : List Vl) : List Tm := (p.zip t).map fun z => sbst z.1 z.2
theorem sbstL_len {p : List Tm} {t : List Vl} (h : p.length = t.length) : (sbstL p t).length = t.length := by simp [sbstL]; omega
theorem sbst_match {l : List Bd} : ∀ {p : List Tm} {t : List Vl}, Fit l p t → matchL (sbstL p t) t [] = some []
  | x :: p, v :: t, h => by
    have ih := sbst_match h.2.2
    simp only [sbstL, List.zip_cons_cons, List.map_cons, matchL] at ih ⊢
    by_cases h1 : x.1 = 1
    · simp [sbst, h1]
      exact ih
    · by_cases h2 : x.1 = 2
      · simp [sbst, h1, h2, h.2.1 h2]
        exact ih
      · simp [sbst, h1, h2]
        exact ih
  | [], _, _ => by simp [sbstL, matchL]
  | _ :: _, [], _ => by simp [sbstL, matchL]
theorem sbst_tm : ∀ {p : List Tm} {t : List Vl}, p.all isTm = true → t.all isVl = true → (sbstL p t).all isTm = true
  | x :: p, v :: t, hp, ht => by
    simp only [List.all_cons, Bool.and_eq_true] at hp ht
    have ih := sbst_tm hp.2 ht.2
    simp only [sbstL, List.zip_cons_cons, List.map_cons, List.all_cons, Bool.and_eq_true] at ih ⊢
    refine ⟨?_, ih⟩
    unfold sbst
    split
    · have : isV v.1 v.2.1 v.2.2 = true := ht.1
      simp [isTm, isTmV, this]
    · exact hp.1
  | [], _, _, _ => by simp [sbstL]
  | _ :: _, [], _, _ => by simp [sbstL]
theorem matchT_some {p : List Tm} {t : List Vl} {l : List Bd} (h : matchT p t = some l) : p.length ≤ 8 ∧ p.all isTm = true ∧ p.length = t.length ∧ matchL p t [] = some l := by
  unfold matchT at h
  split at h
  · rename_i hc; exact ⟨hc.1, hc.2.1, hc.2.2, h⟩
  · cases h
/-! ### TupleBinds -/
attribute [simp] fdO_of
def shut2 (q : List Tm) : Bool := q.all fun x => decide (x.1 = 2)
theorem shut2_snoc (q : List Tm) (x : Tm) : shut2 (q ++ [x]) = (shut2 q && decide (x.1 = 2)) := by simp [shut2]
theorem TB_loop1 (p : List Tm) (t : List Vl) (l : List Bd) (hlen : p.length = t.length) (hp : p.length ≤ 8) (hf : Fit l p t) : TBinds1_V [.sl (rOf cM p) .non, .sl (rOf cV t) .non, .sl (rOf cB l) .non, .sl [] .full, .bool true, .int .i64 0] ⟨[], [], []⟩ = some (.exit 0, [.sl (rOf cV t) .non, .sl (rOf cM (sbstL p t)) (aT (sbstL p t)), .bool (shut2 (sbstL p t))], aS 5 38 (sbstL p t)) := by
  have h := loop_acc (l := p.zip t) (V := fun i q => TBinds1_V [.sl (rOf cM p) .non, .sl (rOf cV t) .non, .sl (rOf cB l) .non, .sl (rOf cM q) (aT q), .bool (shut2 q), .int .i64 (i : Nat)] (aS 5 38 q)) (fun z => [sbst z.1 z.2]) (fun q => some (.exit 0, [.sl (rOf cV t) .non, .sl (rOf cM q) (aT q), .bool (shut2 q)], aS 5 38 q)) ?_ ?_
  · rw [flatMap_one] at h
    simpa [shut2, sbstL] using h
  · rintro i q ⟨x, v⟩ hq hi ha
    have h1 : i < p.length := by simp at hi; omega
    have h2 : i < t.length := by omega
    have hx : p[i] = x := by have := congrArg Prod.fst ha; simpa using this
    have hv : t[i] = v := by have := congrArg Prod.snd ha; simpa using this
    have w := inc_i64 (i := i) (by omega)
    have hl : q.length ≤ i := by rw [hq]; exact flatMap_le _ (fun a => by simp) _ _
    have g1 : (q.length + 1) * 56 ≤ 140737488355328 := by omega
    have g2 : q.length ≤ 140737488355327 := by omega
    have hg := hf.get i h1 h2
    rw [hx, hv] at hg
    obtain ⟨a1, b1, k1, n1, s1⟩ := x
    obtain ⟨k2, n2, s2⟩ := v
    simp only at hg
    by_cases e1 : a1 = 1
    · subst e1
      have hfi := hg.1 rfl
      have f1 := fdK_of l b1 hfi
      have f2 := fdN_of l b1 hfi
      have f3 := fdS_of l b1 hfi
      simp only at f1 f2 f3
      rcases aTS_cases 5 38 q with ⟨rfl, c1, c2⟩ | ⟨hne, c1, c2⟩
      · simp [TBinds1_E, TBinds1_Tr, h1, h2, hx, hv, w, hfi, f1, f2, f3, sbst, shut2, one, aT, aS]
      · cases hs : shut2 q with
        | true => rw [c1, c2, TBinds1_E1]; simp [TBinds1_Tr1, h1, h2, hx, hv, w, hfi, f1, f2, f3, sbst, one, aT_snoc, aS_snoc, g1, g2, hs, shut2_snoc]
        | false => rw [c1, c2, TBinds1_E1]; simp [TBinds1_Tr1, h1, h2, hx, hv, w, hfi, f1, f2, f3, sbst, one, aT_snoc, aS_snoc, g1, g2, hs, shut2_snoc]
    · rcases aTS_cases 5 38 q with ⟨rfl, c1, c2⟩ | ⟨hne, c1, c2⟩
      · simp [TBinds1_E, TBinds1_Tr, h1, h2, hx, hv, w, e1, sbst, shut2, one, aT, aS]
      · cases hs : shut2 q with
        | true => rw [c1, c2, TBinds1_E1]; simp [TBinds1_Tr1, h1, h2, hx, hv, w, e1, sbst, one, aT_snoc, aS_snoc, g1, g2, hs, shut2_snoc]
        | false => rw [c1, c2, TBinds1_E1]; simp [TBinds1_Tr1, h1, h2, hx, hv, w, e1, sbst, one, aT_snoc, aS_snoc, g1, g2, hs, shut2_snoc]
  · intro q hq
    have e : (p.zip t).length = p.length := by simp; omega
    rcases aTS_cases 5 38 q with ⟨rfl, h1, h2⟩ | ⟨hne, h1, h2⟩
    · simp [TBinds1_E, TBinds1_Tr, e, -List.length_zip]
    · simp [h1, h2, TBinds1_E1, TBinds1_Tr1, e, -List.length_zip]
theorem TB_loop2 (t : List Vl) (q : List Tm) (hlen : q.length = t.length) (hl : q.length ≤ 8) (b : Bool) (hf : b = true → ∀ (i : Nat) (h1 : i < q.length) (h2 : i < t.length), q[i].2.2 = t[i]) : ∀ (k i : Nat), i + k = q.length →
    TBinds2_V [.sl (rOf cV t) .non, .sl (rOf cM q) (aT q), .bool b, .int .i64 (i : Nat)] (aS 5 38 q) = some (.exit 2, [], aS 5 38 q) := by
  intro k
  induction k with
  | zero =>
    intro i hi
    have : ¬ (i : Int) < q.length := by omega
    have z : ¬ (i : Int) < 0 := by omega
    rcases aTS_cases 5 38 q with ⟨rfl, c1, c2⟩ | ⟨hne, c1, c2⟩
    · rw [c1, c2, TBinds2_E]; simp [TBinds2_Tr, z]
    · rw [c1, c2, TBinds2_E1]; simp [TBinds2_Tr1, this]
  | succ k ih =>
    intro i hi
    have h1 : i < q.length := by omega
    have h2 : i < t.length := by omega
    have w := inc_i64 (i := i) (by omega)
    have ih := ih (i + 1) (by omega)
    rcases aTS_cases 5 38 q with ⟨rfl, c1, c2⟩ | ⟨hne, c1, c2⟩
    · simp at h1
    · rw [c1, c2] at ih ⊢
      rw [TBinds2_E1]
      cases b with
      | false => simp [TBinds2_Tr1, h1]
      | true =>
        have e := hf rfl i h1 h2
        simp [TBinds2_Tr1, h1, h2, w, e]
        simpa using ih
theorem TBinds_law (p : List Tm) (t : List Vl) : TBinds_W (rOf cM p) (rOf cV t) = some (.bool true) := by
  unfold TBinds_W TBinds_Tr
  simp only [lockLL_rOf, cutT_of]
  have lt : (List.take 20 t).length ≤ 20 := by simp; omega
  generalize List.take 20 t = t at lt
  cases hm : matchT p t with
  | none =>
    repeat' first
      | rfl
      | refine Tr.run_t (by first | rfl | (simp; done) | (simp [hm]; done) | omega) ?_
      | refine Tr.run_f (by first | rfl | (simp; done) | (simp [hm]; done) | omega) ?_
      | fail
    all_goals simp [hm]
  | some l =>
    obtain ⟨h8, htm, hlen, hml⟩ := matchT_some hm
    have hfit := match_fit p t [] l hml
    have e1 := TB_loop1 p t l hlen h8 hfit
    have hq := sbstL_len hlen
    have hq8 : (sbstL p t).length ≤ 8 := by omega
    have hm2 : t.all isVl = true → matchT (sbstL p t) t = some [] := fun hv => by
      unfold matchT
      rw [if_pos ⟨hq8, sbst_tm htm hv, hq⟩, sbst_match hfit]
    have hb : shut2 (sbstL p t) = true → ∀ (i : Nat) (h1 : i < (sbstL p t).length) (h2 : i < t.length), (sbstL p t)[i].2.2 = t[i] := by
      intro hs i h1 h2
      have h3 : i < p.length := by omega
      have hg := hfit.get i h3 h2
      have hk := List.all_eq_true.1 hs (sbstL p t)[i] (List.getElem_mem h1)
      simp only [sbstL, List.getElem_map, List.getElem_zip, sbst, decide_eq_true_eq] at hk ⊢
      split
      · rfl
      · rename_i hne
        rw [if_neg hne] at hk
        exact hg.2 hk
    have e2 := TB_loop2 t (sbstL p t) hq hq8 (shut2 (sbstL p t)) hb (sbstL p t).length 0 (by omega)
    have hc : chkT (rOf cV t) = if t.length ≤ 8 ∧ t.all isVl = true then 0 else 20 := by simp only [chkT, unR_of]
    have hne : ¬ (p.length : Int) ≠ t.length := by omega
    generalize sbstL p t = q at *
    have hmt : mTV (rOf cM p) (rOf cV t) = rOf cB l := by simp [hm]
    simp only [hmt]
    have hxq : (chkT (rOf cV t) = 0) → matchT q t = some [] := by
      intro h
      rw [hc] at h
      split at h
      · rename_i hh; exact hm2 hh.2
      · cases h
    rcases aTS_cases 5 38 q with ⟨rfl, c1, c2⟩ | ⟨hne', c1, c2⟩
    · rw [c1, c2] at e1 e2
      simp at e1 e2
      by_cases hch : chkT (rOf cV t) = 0
      · have hmq : matchT [] t = some [] := hxq hch
        have hmq' : okMT [] (rOf cV t) = true := by have := okMT_of [] t; simp only [rOf_nil] at this; rw [this, hmq]; rfl
        have hmq2 : mTV [] (rOf cV t) = [] := by have := mTV_of [] t; simp only [rOf_nil] at this; rw [this, hmq]; rfl
        repeat' first
          | rfl
          | refine Tr.run_t (by first | rfl | (simp; done) | (simp [hm, hlen, hch, hmq', hmq2, TBinds1_is0, TBinds1_is1, TBinds1_is2, TBinds1_is3, TBinds1_r_1, TBinds1_r2_1, TBinds1_b_1, TBinds1_r_3, TBinds1_r2_3, TBinds1_b_3, TBinds1_k_3, TBinds1_W, TBinds2_is0, TBinds2_is1, TBinds2_W, TBinds2b_W, TBinds2b_is0, TBinds2b_is1, TBinds2b_b_0, TBinds2b_k_0, TBinds2b_k_1, e1, e2]; done) | omega) ?_
          | refine Tr.run_f (by first | rfl | (simp; done) | (simp [hm, hlen, hch, hmq', hmq2, TBinds1_is0, TBinds1_is1, TBinds1_is2, TBinds1_is3, TBinds1_r_1, TBinds1_r2_1, TBinds1_b_1, TBinds1_r_3, TBinds1_r2_3, TBinds1_b_3, TBinds1_k_3, TBinds1_W, TBinds2_is0, TBinds2_is1, TBinds2_W, TBinds2b_W, TBinds2b_is0, TBinds2b_is1, TBinds2b_b_0, TBinds2b_k_0, TBinds2b_k_1, e1, e2]; done) | omega) ?_
          | fail
      · repeat' first
          | rfl
          | refine Tr.run_t (by first | rfl | (simp; done) | (simp [hm, hlen, hch, TBinds1_is0, TBinds1_is1, TBinds1_is2, TBinds1_is3, TBinds1_r_1, TBinds1_r2_1, TBinds1_b_1, TBinds1_r_3, TBinds1_r2_3, TBinds1_b_3, TBinds1_k_3, TBinds1_W, TBinds2_is0, TBinds2_is1, TBinds2_W, TBinds2b_W, TBinds2b_is0, TBinds2b_is1, TBinds2b_b_0, TBinds2b_k_0, TBinds2b_k_1, e1, e2]; done) | omega) ?_
          | refine Tr.run_f (by first | rfl | (simp; done) | (simp [hm, hlen, hch, TBinds1_is0, TBinds1_is1, TBinds1_is2, TBinds1_is3, TBinds1_r_1, TBinds1_r2_1, TBinds1_b_1, TBinds1_r_3, TBinds1_r2_3, TBinds1_b_3, TBinds1_k_3, TBinds1_W, TBinds2_is0, TBinds2_is1, TBinds2_W, TBinds2b_W, TBinds2b_is0, TBinds2b_is1, TBinds2b_b_0, TBinds2b_k_0, TBinds2b_k_1, e1, e2]; done) | omega) ?_
          | fail
    · rw [c1, c2] at e1 e2
      simp at e1 e2
      by_cases hch : chkT (rOf cV t) = 0
      · have hmq : matchT q t = some [] := hxq hch
        repeat' first
          | rfl
          | refine Tr.run_t (by first | rfl | (simp; done) | (simp [hm, hlen, hch, hmq, hne', TBinds1_is0, TBinds1_is1, TBinds1_is2, TBinds1_is3, TBinds1_r_1, TBinds1_r2_1, TBinds1_b_1, TBinds1_r_3, TBinds1_r2_3, TBinds1_b_3, TBinds1_k_3, TBinds1_W, TBinds2_is0, TBinds2_is1, TBinds2_W, TBinds2b_W, TBinds2b_is0, TBinds2b_is1, TBinds2b_b_0, TBinds2b_k_0, TBinds2b_k_1, e1, e2]; done) | omega) ?_
          | refine Tr.run_f (by first | rfl | (simp; done) | (simp [hm, hlen, hch, hmq, hne', TBinds1_is0, TBinds1_is1, TBinds1_is2, TBinds1_is3, TBinds1_r_1, TBinds1_r2_1, TBinds1_b_1, TBinds1_r_3, TBinds1_r2_3, TBinds1_b_3, TBinds1_k_3, TBinds1_W, TBinds2_is0, TBinds2_is1, TBinds2_W, TBinds2b_W, TBinds2b_is0, TBinds2b_is1, TBinds2b_b_0, TBinds2b_k_0, TBinds2b_k_1, e1, e2]; done) | omega) ?_
          | fail
      · repeat' first
          | rfl
          | refine Tr.run_t (by first | rfl | (simp; done) | (simp [hm, hlen, hch, hne', TBinds1_is0, TBinds1_is1, TBinds1_is2, TBinds1_is3, TBinds1_r_1, TBinds1_r2_1, TBinds1_b_1, TBinds1_r_3, TBinds1_r2_3, TBinds1_b_3, TBinds1_k_3, TBinds1_W, TBinds2_is0, TBinds2_is1, TBinds2_W, TBinds2b_W, TBinds2b_is0, TBinds2b_is1, TBinds2b_b_0, TBinds2b_k_0, TBinds2b_k_1, e1, e2]; done) | omega) ?_
          | refine Tr.run_f (by first | rfl | (simp; done) | (simp [hm, hlen, hch, hne', TBinds1_is0, TBinds1_is1, TBinds1_is2, TBinds1_is3, TBinds1_r_1, TBinds1_r2_1, TBinds1_b_1, TBinds1_r_3, TBinds1_r2_3, TBinds1_b_3, TBinds1_k_3, TBinds1_W, TBinds2_is0, TBinds2_is1, TBinds2_W, TBinds2b_W, TBinds2b_is0, TBinds2b_is1, TBinds2b_b_0, TBinds2b_k_0, TBinds2b_k_1, e1, e2]; done) | omega) ?_
          | fail
end Go.Pv
