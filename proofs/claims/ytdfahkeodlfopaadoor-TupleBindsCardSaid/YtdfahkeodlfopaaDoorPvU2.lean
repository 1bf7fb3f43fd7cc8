import Derived.Test.YtdfahkeodlfopaaDoorPvU1
import Derived.Test.YtdfahkeodlfopaaDoorPvTot
set_option maxHeartbeats 4000000
set_option maxRecDepth 200000
set_option linter.unusedSimpArgs false
set_option linter.unusedVariables false
namespace Go.Pv
open Go Go.Proofs
@[simp] theorem isW_someF {α : Type} (a r : α) : isW (some a) r = false ↔ ¬ a = r := by simp [isW]
/-- A loop over a row that is left at the first element at which f answers. -/
def scan {α ρ : Type} (f : Nat → α → Option ρ) : Nat → List α → Option ρ
  | _, [] => none
  | i, a :: l => match f i a with
    | some r => some r
    | none => scan f (i + 1) l
theorem loop_scan {α ρ γ : Type} {l : List α} {V : Nat → γ} (f : Nat → α → Option ρ) (out : ρ → γ) (fin : γ)
    (hstep : ∀ i (hi : i < l.length), V i = match f i l[i] with | some r => out r | none => V (i + 1)) (hend : V l.length = fin) : V 0 = match scan f 0 l with | some r => out r | none => fin := by
  have key : ∀ k i, i + k = l.length → V i = match scan f i (l.drop i) with | some r => out r | none => fin := by
    intro k
    induction k with
    | zero =>
      intro i hi
      have : i = l.length := by omega
      subst this
      rw [List.drop_eq_nil_of_le (Nat.le_refl _)]
      exact hend
    | succ k ih =>
      intro i hi
      have hlt : i < l.length := by omega
      rw [List.drop_eq_getElem_cons hlt, hstep i hlt]
      simp only [scan]
      cases f i l[i] with
      | some r => rfl
      | none => exact ih (i + 1) (by omega)
  simpa using key l.length 0 (by omega)
theorem scan_all {α ρ : Type} (p : α → Bool) (r : ρ) : ∀ (l : List α) (i : Nat), scan (fun _ a => if p a = true then none else some r) i l = if l.all p = true then none else some r
  | [], i => rfl
  | a :: l, i => by
    by_cases h : p a = true
    · have := scan_all p r l (i + 1)
      simp [scan, h] at this ⊢
      exact this
    · simp [scan, h]
/-! ### tuples: order -/
def cmpVl (a b : Vl) : Int := compareV a.1 a.2.1 a.2.2 b.1 b.2.1 b.2.2
def cmpRl (a b : Vl) : Int := compareR a.1 a.2.1 a.2.2 b.1 b.2.1 b.2.2
def dif (f : Vl → Vl → Int) : List Vl → List Vl → Option Int
  | v :: a, u :: b => if f v u = 0 then dif f a b else some (f v u)
  | _ :: _, [] => some 1
  | [], _ => none
def cmpT (f : Vl → Vl → Int) (a b : List Vl) : Int := match dif f a b with
  | some c => c
  | none => if a.length < b.length then -1 else 0
def cmpTV (a b : List (List PV)) : Int := cmpT cmpVl (unR cV a) (unR cV b)
def cmpTR (a b : List (List PV)) : Int := cmpT cmpRl (unR cV a) (unR cV b)
theorem cmpRl_eq : cmpRl = cmpVl := by
  funext a b
  exact compareR_is _ _ _ _ _ _
def isVl (v : Vl) : Bool := isV v.1 v.2.1 v.2.2
theorem checkV_isV (k n : Int) (s : List UInt8) : (checkV k n s = 0) ↔ isV k n s = true := by
  unfold checkV isV
  by_cases h1 : k = 1 ∧ s = []
  · simp [h1]
  · by_cases h2 : k = 2 ∧ n = 0 ∧ s.length ≤ 256
    · simp [h2]
    · rw [if_neg h1, if_neg h2]
      simp only [decide_eq_true_eq]
      constructor
      · intro h; omega
      · intro h; exact absurd h (by rintro (h | h); exact h1 h; exact h2 h)
def chkT (a : List (List PV)) : Int := if (unR cV a).length ≤ 8 ∧ (unR cV a).all isVl = true then 0 else 20
def typd : List Vl → List Int → Bool
  | v :: a, t :: b => if isVl v = true ∧ typeV v.1 v.2.1 v.2.2 = t then typd a b else false
  | _, _ => true
def typT (a b : List (List PV)) : Bool := decide ((unR cV a).length = (unR cI b).length) && typd (unR cV a) (unR cI b)
def cutT (a : List (List PV)) : List (List PV) := rOf cV ((unR cV a).take 20)
def zeroVl : Vl := (0, 0, [])
def isTmV (a : Int) (b : List UInt8) (k n : Int) (s : List UInt8) : Bool :=
  if a = 2 then decide (b = []) && isV k n s else if a = 1 then decide (1 ≤ b.length) && decide (b.length ≤ 64) && decide (k = 0 ∧ n = 0 ∧ s = []) else if a = 3 then decide (b = []) && decide (k = 0 ∧ n = 0 ∧ s = []) else false
def isTm (x : Tm) : Bool := isTmV x.1 x.2.1 x.2.2.1 x.2.2.2.1 x.2.2.2.2
def chkP (a : List (List PV)) : Int := if (unR cM a).length ≤ 8 ∧ (unR cM a).all isTm = true then 0 else 22
def idxA : List Bd → List UInt8 → Int → Int
  | [], _, _ => -1
  | b :: l, nm, i => if b.1 = nm then i else idxA l nm (i + 1)
def idxV (a : List (List PV)) (nm : List UInt8) : Int := idxA (unR cB a) nm 0
def findB : List Bd → List UInt8 → Option Vl
  | [], _ => none
  | b :: l, nm => if b.1 = nm then some b.2 else findB l nm
def fdO (a : List (List PV)) (nm : List UInt8) : Bool := (findB (unR cB a) nm).isSome
def fdK (a : List (List PV)) (nm : List UInt8) : Int := ((findB (unR cB a) nm).getD zeroVl).1
def fdN (a : List (List PV)) (nm : List UInt8) : Int := ((findB (unR cB a) nm).getD zeroVl).2.1
def fdS (a : List (List PV)) (nm : List UInt8) : List UInt8 := ((findB (unR cB a) nm).getD zeroVl).2.2
def eqRB (a b : List (List PV)) : Bool := decide (unR cB a = unR cB b)
theorem idxA_rng : ∀ (l : List Bd) (nm : List UInt8) (i : Int), 0 ≤ i → idxA l nm i = -1 ∨ (i ≤ idxA l nm i ∧ idxA l nm i < i + l.length)
  | [], nm, i, h => .inl rfl
  | b :: l, nm, i, h => by
    unfold idxA
    split
    · right; simp only [List.length_cons]; omega
    · rcases idxA_rng l nm (i + 1) (by omega) with h1 | h1
      · exact .inl h1
      · right; simp only [List.length_cons]; omega
theorem cmpT_cons (f : Vl → Vl → Int) (v u : Vl) (a b : List Vl) : cmpT f (v :: a) (u :: b) = if f v u = 0 then cmpT f a b else f v u := by
  simp only [cmpT, dif]
  by_cases h : f v u = 0
  · simp only [if_pos h]
    cases dif f a b <;> simp
  · simp only [if_neg h]
theorem CmpF_loop (a b : List Vl) (ha : a.length ≤ 9223372036854775807) : ∀ (k i : Nat), i + k = a.length → i ≤ b.length → CmpF01_V [.sl (rOf cV a) .non, .sl (rOf cV b) .non, .fn 56 [], .sl (rOf cV a) .non, .int .i64 (a.length : Nat), .int .i64 (i : Nat)] ⟨[], [], []⟩ =
    match dif cmpVl (a.drop i) (b.drop i) with | some c => some (.ret, [.int .i64 c], ⟨[], [], []⟩) | none => some (.exit 0, [.sl (rOf cV a) .non, .sl (rOf cV b) .non], ⟨[], [], []⟩)
  | 0, i, hi, hb => by
    have hn : ¬ (i : Int) < a.length := by omega
    rw [show a.drop i = [] from List.drop_eq_nil_of_le (by omega), CmpF01_E]
    cases b.drop i <;> simp [CmpF01_Tr, hn, dif]
  | k + 1, i, hi, hb => by
    have h1 : i < a.length := by omega
    have w := inc_i64 (i := i) (by omega)
    rw [List.drop_eq_getElem_cons h1, CmpF01_E]
    by_cases h2 : i < b.length
    · have hb2 : ¬ (b.length : Int) ≤ i := by omega
      rw [List.drop_eq_getElem_cons h2]
      simp only [dif]
      by_cases hc : cmpVl a[i] b[i] = 0
      · rw [if_pos hc, ← CmpF_loop a b ha k (i + 1) (by omega) (by omega)]
        have hc' : compareV a[i].1 a[i].2.1 a[i].2.2 b[i].1 b[i].2.1 b[i].2.2 = 0 := hc
        simp [CmpF01_Tr, h1, h2, hb2, w, hc']
      · rw [if_neg hc]
        have hc' : ¬ compareV a[i].1 a[i].2.1 a[i].2.2 b[i].1 b[i].2.1 b[i].2.2 = 0 := hc
        simp [CmpF01_Tr, h1, h2, hb2, hc', cmpVl]
    · have hb2 : (b.length : Int) ≤ i := by omega
      rw [show b.drop i = [] from List.drop_eq_nil_of_le (by omega)]
      simp [CmpF01_Tr, h1, hb2, dif]
theorem CmpF_law (a b : List Vl) (ha : a.length ≤ 9223372036854775807) : CmpF0_W (rOf cV a) (rOf cV b) = some (.int .i64 (cmpT cmpVl a b)) := by
  have h := CmpF_loop a b ha a.length 0 (by omega) (by omega)
  simp only [List.drop_zero] at h
  unfold CmpF0_W CmpF0_Tr cmpT
  cases hd : dif cmpVl a b with
  | some c => rw [hd] at h; simp at h; simp [CmpF01_is0, CmpF01_is1, CmpF01_n_0, CmpF01_s1_1, CmpF01_s2_1, CmpF01_W, h]
  | none =>
    rw [hd] at h
    simp at h
    by_cases hl : (a.length : Int) < b.length
    · have hl' : a.length < b.length := by omega
      simp [CmpF01_is0, CmpF01_is1, CmpF01_n_0, CmpF01_s1_1, CmpF01_s2_1, CmpF01_W, h, hl']
    · have hl' : ¬ a.length < b.length := by omega
      simp [CmpF01_is0, CmpF01_is1, CmpF01_n_0, CmpF01_s1_1, CmpF01_s2_1, CmpF01_W, h, hl']
def F_CmpF : List PV → Tr PV
  | [.sl a .non, .sl b .non, .fn 56 []] => Tr.chk (okR cV a) (Tr.chk (okR cV b) (.ret (.int .i64 (cmpTV a b))))
  | _ => .fail
theorem sim_CmpF (gl : Nat → Option Obj) : SimP Tryd.prog gl 55 fun args => (F_CmpF args).run := by
  refine SimP.given (sim_CmpF0 gl) ?_
  intro args x hg h
  unfold F_CmpF at h
  split at h
  · rename_i a b
    obtain ⟨h0, q0⟩ := Tr.chk_some h
    obtain ⟨h1, q1⟩ := Tr.chk_some q0
    have q := q1
    obtain ⟨a, rfl⟩ := okR_eq _ h0
    obtain ⟨b, rfl⟩ := okR_eq _ h1
    have hl := rel_sl hg 0 rfl
    simp only [rOf_len] at hl
    unfold maxLen at hl
    have hw := CmpF_law a b (by omega)
    cases q
    simp [F_CmpF0, CmpF0_is0, CmpF0_n, hw, cmpTV]
  · cases h
def difR (f : Vl → Vl → Int) : List Vl → List Vl → Option Int
  | v :: a, u :: b => if f v u = 0 then difR f a b else some (f v u)
  | _, _ => none
def cmpTr (f : Vl → Vl → Int) (a b : List Vl) : Int := match difR f a b with
  | some c => c
  | none => if a.length < b.length then -1 else if b.length < a.length then 1 else 0
theorem cmpTr_eq (f : Vl → Vl → Int) : ∀ (a b : List Vl), cmpTr f a b = cmpT f a b
  | [], [] => rfl
  | [], _ :: _ => by simp [cmpTr, cmpT, difR, dif]
  | _ :: _, [] => by simp [cmpTr, cmpT, difR, dif]
  | v :: a, u :: b => by
    have ih := cmpTr_eq f a b
    simp only [cmpTr, cmpT, difR, dif] at ih ⊢
    by_cases h : f v u = 0
    · simp only [if_pos h, List.length_cons]
      simpa using ih
    · simp only [if_neg h]
theorem CmpR_loop (a b : List Vl) (ha : a.length ≤ 9223372036854775807) : ∀ (k i : Nat), i + k = a.length → CmpR01_V [.sl (rOf cV a) .non, .sl (rOf cV b) .non, .int .i64 (i : Nat)] ⟨[], [], []⟩ =
    match difR cmpRl (a.drop i) (b.drop i) with | some c => some (.ret, [.int .i64 c], ⟨[], [], []⟩) | none => some (.exit 0, [.sl (rOf cV a) .non, .sl (rOf cV b) .non], ⟨[], [], []⟩)
  | 0, i, hi => by
    have hn : ¬ (i : Int) < a.length := by omega
    rw [show a.drop i = [] from List.drop_eq_nil_of_le (by omega), CmpR01_E]
    cases b.drop i <;> simp [CmpR01_Tr, hn, difR]
  | k + 1, i, hi => by
    have h1 : i < a.length := by omega
    have w := inc_i64 (i := i) (by omega)
    rw [List.drop_eq_getElem_cons h1, CmpR01_E]
    by_cases h2 : i < b.length
    · rw [List.drop_eq_getElem_cons h2]
      simp only [difR]
      by_cases hc : cmpRl a[i] b[i] = 0
      · rw [if_pos hc, ← CmpR_loop a b ha k (i + 1) (by omega)]
        have hc' : compareR a[i].1 a[i].2.1 a[i].2.2 b[i].1 b[i].2.1 b[i].2.2 = 0 := hc
        simp [CmpR01_Tr, h1, h2, w, hc']
      · rw [if_neg hc]
        have hc' : ¬ compareR a[i].1 a[i].2.1 a[i].2.2 b[i].1 b[i].2.1 b[i].2.2 = 0 := hc
        simp [CmpR01_Tr, h1, h2, hc', cmpRl]
    · have hb2 : ¬ (i : Int) < b.length := by omega
      rw [show b.drop i = [] from List.drop_eq_nil_of_le (by omega)]
      simp [CmpR01_Tr, h1, hb2, difR]
theorem CmpR_law (a b : List Vl) (ha : a.length ≤ 9223372036854775807) : CmpR0_W (rOf cV a) (rOf cV b) = some (.int .i64 (cmpT cmpRl a b)) := by
  have h := CmpR_loop a b ha a.length 0 (by omega)
  simp only [List.drop_zero] at h
  unfold CmpR0_W CmpR0_Tr
  rw [← cmpTr_eq]
  unfold cmpTr
  cases hd : difR cmpRl a b with
  | some c => rw [hd] at h; simp at h; simp [CmpR01_is0, CmpR01_is1, CmpR01_n_0, CmpR01_a_1, CmpR01_b_1, CmpR01_W, h]
  | none =>
    rw [hd] at h
    simp at h
    by_cases hl : a.length < b.length
    · simp [CmpR01_is0, CmpR01_is1, CmpR01_n_0, CmpR01_a_1, CmpR01_b_1, CmpR01_W, h, hl]
    · by_cases hl' : b.length < a.length <;> simp [CmpR01_is0, CmpR01_is1, CmpR01_n_0, CmpR01_a_1, CmpR01_b_1, CmpR01_W, h, hl, hl']
def F_CmpR : List PV → Tr PV
  | [.sl a .non, .sl b .non] => Tr.chk (okR cV a) (Tr.chk (okR cV b) (.ret (.int .i64 (cmpTR a b))))
  | _ => .fail
theorem sim_CmpR (gl : Nat → Option Obj) : SimP Tryd.prog gl 39 fun args => (F_CmpR args).run := by
  refine SimP.given (sim_CmpR0 gl) ?_
  intro args x hg h
  unfold F_CmpR at h
  split at h
  · rename_i a b
    obtain ⟨h0, q0⟩ := Tr.chk_some h
    obtain ⟨h1, q1⟩ := Tr.chk_some q0
    have q := q1
    obtain ⟨a, rfl⟩ := okR_eq _ h0
    obtain ⟨b, rfl⟩ := okR_eq _ h1
    have hl := rel_sl hg 0 rfl
    simp only [rOf_len] at hl
    unfold maxLen at hl
    have hw := CmpR_law a b (by omega)
    cases q
    simp [F_CmpR0, CmpR0_is0, CmpR0_n, hw, cmpTR]
  · cases h
theorem TCheck_loop (t : List Vl) (ht : t.length ≤ 9223372036854775807) : TCheck01_V [.sl (rOf cV t) .non, .int .i64 (t.length : Nat), .int .i64 0] ⟨[], [], []⟩ = if t.all isVl = true then some (.exit 0, [], ⟨[], [], []⟩) else some (.ret, [.int .i64 20], ⟨[], [], []⟩) := by
  have h := loop_scan (l := t) (V := fun i => TCheck01_V [.sl (rOf cV t) .non, .int .i64 (t.length : Nat), .int .i64 (i : Nat)] ⟨[], [], []⟩) (fun _ v => if isVl v = true then none else some ()) (fun _ => some (.ret, [.int .i64 20], ⟨[], [], []⟩)) (some (.exit 0, [], ⟨[], [], []⟩)) ?_ ?_
  · rw [scan_all] at h
    refine h.trans ?_
    by_cases ha : t.all isVl = true
    · rw [if_pos ha, if_pos ha]
    · rw [if_neg ha, if_neg ha]
  · intro i hi
    have w := inc_i64 (i := i) (by omega)
    have hc := checkV_isV t[i].1 t[i].2.1 t[i].2.2
    show TCheck01_V _ _ = _
    rw [TCheck01_E]
    by_cases hv : isVl t[i] = true
    · have hv' : isV t[i].1 t[i].2.1 t[i].2.2 = true := hv
      have hc' := hc.2 hv
      simp [TCheck01_Tr, hi, w, hv, hv', hc']
    · have hv' : isV t[i].1 t[i].2.1 t[i].2.2 = false := by simpa [isVl] using hv
      have hc' : ¬ checkV t[i].1 t[i].2.1 t[i].2.2 = 0 := fun h => hv (hc.1 h)
      simp [TCheck01_Tr, hi, w, hv, hv', hc']
  · show TCheck01_V _ _ = _
    rw [TCheck01_E]
    simp [TCheck01_Tr]
theorem TCheck_law (t : List Vl) (ht : t.length ≤ 9223372036854775807) : TCheck0_W (rOf cV t) = some (.int .i64 (chkT (rOf cV t))) := by
  have h := TCheck_loop t ht
  have hc : chkT (rOf cV t) = if t.length ≤ 8 ∧ t.all isVl = true then 0 else 20 := by simp only [chkT, unR_of]
  unfold TCheck0_W TCheck0_Tr
  rw [hc]
  by_cases h8 : t.length ≤ 8
  · have h8' : ¬ (8 : Int) < t.length := by omega
    cases ha : t.all isVl <;> (rw [ha] at h; simp at h; simp [TCheck01_is0, TCheck01_is1, TCheck01_n_0, TCheck01_W, h, h8, h8'])
  · have h8' : (8 : Int) < t.length := by omega
    simp [h8, h8']
def F_TCheck : List PV → Tr PV
  | [.sl t .non] => Tr.chk (okR cV t) (.ret (.int .i64 (chkT t)))
  | _ => .fail
theorem sim_TCheck (gl : Nat → Option Obj) : SimP Tryd.prog gl 36 fun args => (F_TCheck args).run := by
  refine SimP.given (sim_TCheck0 gl) ?_
  intro args x hg h
  unfold F_TCheck at h
  split at h
  · rename_i t
    obtain ⟨h0, q0⟩ := Tr.chk_some h
    have q := q0
    obtain ⟨t, rfl⟩ := okR_eq _ h0
    have hl := rel_sl hg 0 rfl
    simp only [rOf_len] at hl
    unfold maxLen at hl
    have hw := TCheck_law t (by omega)
    cases q
    simp [F_TCheck0, TCheck0_is0, TCheck0_n, hw]
  · cases h
theorem RCheck_loop (t : List Vl) (ht : t.length ≤ 9223372036854775807) : RCheck01_V [.sl (rOf cV t) .non, .int .i64 0] ⟨[], [], []⟩ = if t.all isVl = true then some (.exit 0, [], ⟨[], [], []⟩) else some (.ret, [.int .i64 20], ⟨[], [], []⟩) := by
  have h := loop_scan (l := t) (V := fun i => RCheck01_V [.sl (rOf cV t) .non, .int .i64 (i : Nat)] ⟨[], [], []⟩) (fun _ v => if isVl v = true then none else some ()) (fun _ => some (.ret, [.int .i64 20], ⟨[], [], []⟩)) (some (.exit 0, [], ⟨[], [], []⟩)) ?_ ?_
  · rw [scan_all] at h
    refine h.trans ?_
    by_cases ha : t.all isVl = true
    · rw [if_pos ha, if_pos ha]
    · rw [if_neg ha, if_neg ha]
  · intro i hi
    have w := inc_i64 (i := i) (by omega)
    have hc := checkV_isV t[i].1 t[i].2.1 t[i].2.2
    show RCheck01_V _ _ = _
    rw [RCheck01_E]
    by_cases hv : isVl t[i] = true
    · have hv' : isV t[i].1 t[i].2.1 t[i].2.2 = true := hv
      have hc' := hc.2 hv
      simp [RCheck01_Tr, hi, w, hv, hv', hc']
    · have hv' : isV t[i].1 t[i].2.1 t[i].2.2 = false := by simpa [isVl] using hv
      have hc' : ¬ checkV t[i].1 t[i].2.1 t[i].2.2 = 0 := fun h => hv (hc.1 h)
      simp [RCheck01_Tr, hi, w, hv, hv', hc']
  · show RCheck01_V _ _ = _
    rw [RCheck01_E]
    simp [RCheck01_Tr]
theorem RCheck_law (t : List Vl) (ht : t.length ≤ 9223372036854775807) : RCheck0_W (rOf cV t) = some (.int .i64 (chkT (rOf cV t))) := by
  have h := RCheck_loop t ht
  have hc : chkT (rOf cV t) = if t.length ≤ 8 ∧ t.all isVl = true then 0 else 20 := by simp only [chkT, unR_of]
  unfold RCheck0_W RCheck0_Tr
  rw [hc]
  by_cases h8 : t.length ≤ 8
  · have h8' : ¬ (8 : Int) < t.length := by omega
    cases ha : t.all isVl <;> (rw [ha] at h; simp at h; simp [RCheck01_is0, RCheck01_is1, RCheck01_n_0, RCheck01_W, h, h8, h8'])
  · have h8' : (8 : Int) < t.length := by omega
    simp [h8, h8']
def F_RCheck : List PV → Tr PV
  | [.sl t .non] => Tr.chk (okR cV t) (.ret (.int .i64 (chkT t)))
  | _ => .fail
theorem sim_RCheck (gl : Nat → Option Obj) : SimP Tryd.prog gl 20 fun args => (F_RCheck args).run := by
  refine SimP.given (sim_RCheck0 gl) ?_
  intro args x hg h
  unfold F_RCheck at h
  split at h
  · rename_i t
    obtain ⟨h0, q0⟩ := Tr.chk_some h
    have q := q0
    obtain ⟨t, rfl⟩ := okR_eq _ h0
    have hl := rel_sl hg 0 rfl
    simp only [rOf_len] at hl
    unfold maxLen at hl
    have hw := RCheck_law t (by omega)
    cases q
    simp [F_RCheck0, RCheck0_is0, RCheck0_n, hw]
  · cases h
theorem typd_cons (v : Vl) (a : List Vl) (t : Int) (b : List Int) : typd (v :: a) (t :: b) = (decide (isVl v = true ∧ typeV v.1 v.2.1 v.2.2 = t) && typd a b) := by
  simp only [typd]
  by_cases h : isVl v = true ∧ typeV v.1 v.2.1 v.2.2 = t <;> simp [h]
theorem TTyped_loop (t : List Vl) (ts : List Int) (ht : t.length ≤ 9223372036854775807) (hl : t.length = ts.length) : ∀ (k i : Nat), i + k = t.length → TTyped01_V [.sl (rOf cI ts) .non, .sl (rOf cV t) .non, .int .i64 (t.length : Nat), .int .i64 (i : Nat)] ⟨[], [], []⟩ = if typd (t.drop i) (ts.drop i) = true then some (.exit 0, [], ⟨[], [], []⟩) else some (.ret, [.bool false], ⟨[], [], []⟩)
  | 0, i, hi => by
    have hn : ¬ (i : Int) < t.length := by omega
    rw [show t.drop i = [] from List.drop_eq_nil_of_le (by omega), TTyped01_E]
    simp [TTyped01_Tr, hn, typd]
  | k + 1, i, hi => by
    have h1 : i < t.length := by omega
    have h2 : i < ts.length := by omega
    have w := inc_i64 (i := i) (by omega)
    have hc := checkV_isV t[i].1 t[i].2.1 t[i].2.2
    have ih := TTyped_loop t ts ht hl k (i + 1) (by omega)
    rw [List.drop_eq_getElem_cons h1, List.drop_eq_getElem_cons h2, TTyped01_E]
    rw [typd_cons]
    by_cases hv : isVl t[i] = true
    · have hc' := hc.2 hv
      by_cases hty : typeV t[i].1 t[i].2.1 t[i].2.2 = ts[i]
      · simp only [hv, hty, and_self, decide_true, Bool.true_and]
        rw [← ih]
        simp [TTyped01_Tr, h1, h2, w, hc', hty]
      · simp [TTyped01_Tr, h1, h2, w, hc', hty]
    · have hc' : ¬ checkV t[i].1 t[i].2.1 t[i].2.2 = 0 := fun h => hv (hc.1 h)
      simp [TTyped01_Tr, h1, h2, w, hc', hv]
theorem TTyped_law (t : List Vl) (ts : List Int) (ht : t.length ≤ 9223372036854775807) : TTyped0_W (rOf cV t) (rOf cI ts) = some (.bool (typT (rOf cV t) (rOf cI ts))) := by
  have hc : typT (rOf cV t) (rOf cI ts) = (decide (t.length = ts.length) && typd t ts) := by simp only [typT, unR_of]
  unfold TTyped0_W TTyped0_Tr
  rw [hc]
  by_cases hl : t.length = ts.length
  · have h := TTyped_loop t ts ht hl t.length 0 (by omega)
    simp only [List.drop_zero] at h
    have hl' : ¬ (t.length : Int) ≠ ts.length := by omega
    cases ha : typd t ts <;> (rw [ha] at h; simp at h; simp [TTyped01_is0, TTyped01_is1, TTyped01_b_0, TTyped01_W, h, hl.symm])
  · have hl' : (t.length : Int) ≠ ts.length := by omega
    simp [hl, hl']
def F_TTyped : List PV → Tr PV
  | [.sl t .non, .sl ts .non] => Tr.chk (okR cV t) (Tr.chk (okR cI ts) (.ret (.bool (typT t ts))))
  | _ => .fail
theorem sim_TTyped (gl : Nat → Option Obj) : SimP Tryd.prog gl 37 fun args => (F_TTyped args).run := by
  refine SimP.given (sim_TTyped0 gl) ?_
  intro args x hg h
  unfold F_TTyped at h
  split at h
  · rename_i t ts
    obtain ⟨h0, q0⟩ := Tr.chk_some h
    obtain ⟨h1, q1⟩ := Tr.chk_some q0
    have q := q1
    obtain ⟨t, rfl⟩ := okR_eq _ h0
    obtain ⟨ts, rfl⟩ := okR_eq _ h1
    have hl := rel_sl hg 0 rfl
    simp only [rOf_len] at hl
    unfold maxLen at hl
    have hw := TTyped_law t ts (by omega)
    cases q
    simp [F_TTyped0, TTyped0_is0, TTyped0_b, hw]
  · cases h
theorem RTyped_loop (t : List Vl) (ts : List Int) (ht : t.length ≤ 9223372036854775807) (hl : t.length = ts.length) : ∀ (k i : Nat), i + k = t.length → RTyped01_V [.sl (rOf cV t) .non, .sl (rOf cI ts) .non, .int .i64 (i : Nat)] ⟨[], [], []⟩ = if typd (t.drop i) (ts.drop i) = true then some (.exit 0, [], ⟨[], [], []⟩) else some (.ret, [.bool false], ⟨[], [], []⟩)
  | 0, i, hi => by
    have hn : ¬ (i : Int) < t.length := by omega
    rw [show t.drop i = [] from List.drop_eq_nil_of_le (by omega), RTyped01_E]
    simp [RTyped01_Tr, hn, typd]
  | k + 1, i, hi => by
    have h1 : i < t.length := by omega
    have h2 : i < ts.length := by omega
    have w := inc_i64 (i := i) (by omega)
    have hc := checkV_isV t[i].1 t[i].2.1 t[i].2.2
    have ih := RTyped_loop t ts ht hl k (i + 1) (by omega)
    rw [List.drop_eq_getElem_cons h1, List.drop_eq_getElem_cons h2, RTyped01_E]
    rw [typd_cons]
    by_cases hv : isVl t[i] = true
    · have hc' := hc.2 hv
      by_cases hty : typeV t[i].1 t[i].2.1 t[i].2.2 = ts[i]
      · simp only [hv, hty, and_self, decide_true, Bool.true_and]
        rw [← ih]
        simp [RTyped01_Tr, h1, h2, w, hc', hty]
      · simp [RTyped01_Tr, h1, h2, w, hc', hty]
    · have hc' : ¬ checkV t[i].1 t[i].2.1 t[i].2.2 = 0 := fun h => hv (hc.1 h)
      simp [RTyped01_Tr, h1, h2, w, hc', hv]
theorem RTyped_law (t : List Vl) (ts : List Int) (ht : t.length ≤ 9223372036854775807) : RTyped0_W (rOf cV t) (rOf cI ts) = some (.bool (typT (rOf cV t) (rOf cI ts))) := by
  have hc : typT (rOf cV t) (rOf cI ts) = (decide (t.length = ts.length) && typd t ts) := by simp only [typT, unR_of]
  unfold RTyped0_W RTyped0_Tr
  rw [hc]
  by_cases hl : t.length = ts.length
  · have h := RTyped_loop t ts ht hl t.length 0 (by omega)
    simp only [List.drop_zero] at h
    have hl' : ¬ (t.length : Int) ≠ ts.length := by omega
    cases ha : typd t ts <;> (rw [ha] at h; simp at h; simp [RTyped01_is0, RTyped01_is1, RTyped01_b_0, RTyped01_W, h, hl.symm])
  · have hl' : (t.length : Int) ≠ ts.length := by omega
    simp [hl, hl']
def F_RTyped : List PV → Tr PV
  | [.sl t .non, .sl ts .non] => Tr.chk (okR cV t) (Tr.chk (okR cI ts) (.ret (.bool (typT t ts))))
  | _ => .fail
theorem sim_RTyped (gl : Nat → Option Obj) : SimP Tryd.prog gl 38 fun args => (F_RTyped args).run := by
  refine SimP.given (sim_RTyped0 gl) ?_
  intro args x hg h
  unfold F_RTyped at h
  split at h
  · rename_i t ts
    obtain ⟨h0, q0⟩ := Tr.chk_some h
    obtain ⟨h1, q1⟩ := Tr.chk_some q0
    have q := q1
    obtain ⟨t, rfl⟩ := okR_eq _ h0
    obtain ⟨ts, rfl⟩ := okR_eq _ h1
    have hl := rel_sl hg 0 rfl
    simp only [rOf_len] at hl
    unfold maxLen at hl
    have hw := RTyped_law t ts (by omega)
    cases q
    simp [F_RTyped0, RTyped0_is0, RTyped0_b, hw]
  · cases h
theorem cut_law (t : List Vl) : cut0_W (rOf cV t) = some (.sl (cutT (rOf cV t)) .non) := by
  have hc : cutT (rOf cV t) = rOf cV (t.take 20) := by simp only [cutT, unR_of]
  unfold cut0_W cut0_Tr
  rw [hc]
  by_cases h : (20 : Int) < t.length
  · have h' : 20 ≤ t.length := by omega
    simp [h, h']
  · have h' : t.length ≤ 20 := by omega
    simp [h, List.take_of_length_le h']
def F_cutT : List PV → Tr PV
  | [.sl t .non] => Tr.chk (okR cV t) (.ret (.sl (cutT t) .non))
  | _ => .fail
theorem sim_cutT (gl : Nat → Option Obj) : SimP Tryd.prog gl 15 fun args => (F_cutT args).run := by
  refine SimP.given (sim_cut0 gl) ?_
  intro args x hg h
  unfold F_cutT at h
  split at h
  · rename_i t
    obtain ⟨h0, q0⟩ := Tr.chk_some h
    have q := q0
    obtain ⟨t, rfl⟩ := okR_eq _ h0
    have hw := cut_law t
    cases q
    simp [F_cut0, cut0_is0, cut0_r, hw]
  · cases h
theorem term_law (a : Int) (b : List UInt8) (k n : Int) (s : List UInt8) : term0_W a b k n s = some (.bool (isTmV a b k n s)) := by
  unfold term0_W term0_Tr isTmV
  have hc := checkV_isV k n s
  by_cases h2 : a = 2
  · subst h2
    by_cases hb : b = []
    · cases hv : isV k n s with
      | true => simp [hb, hc.2 hv]
      | false => have : ¬ checkV k n s = 0 := fun h => by rw [hc.1 h] at hv; cases hv
                 simp [hb, this]
    · simp [hb]
  · by_cases h1 : a = 1
    · subst h1
      by_cases h3 : (1 : Int) ≤ b.length
      · by_cases h4 : (b.length : Int) ≤ 64
        · have h3' : 1 ≤ b.length := by omega
          have h4' : b.length ≤ 64 := by omega
          simp [h3, h4, h3', h4']
        · have h4' : ¬ b.length ≤ 64 := by omega
          simp [h3, h4, h4']
      · have h3' : ¬ 1 ≤ b.length := by omega
        simp [h3, h3']
    · by_cases h3 : a = 3
      · subst h3; by_cases hb : b = [] <;> simp [hb]
      · simp [h1, h2, h3]
def F_term : List PV → Tr PV
  | [.agg [.int .i64 a, .str b, .int .i64 k, .int .i64 n, .str s]] => .ret (.bool (isTmV a b k n s))
  | _ => .fail
theorem sim_term (gl : Nat → Option Obj) : SimP Tryd.prog gl 63 fun args => (F_term args).run := by
  refine SimP.given (sim_term0 gl) ?_
  intro args x hg h
  unfold F_term at h
  split at h
  · rename_i a b k n s
    have q := h
    have hw := term_law a b k n s
    cases q
    simp [F_term0, term0_is0, term0_b, hw]
  · cases h
theorem isTm_eq (x : Tm) : isTm x = if x.1 = 2 then decide (x.2.1 = []) && isV x.2.2.1 x.2.2.2.1 x.2.2.2.2 else if x.1 = 1 then decide (1 ≤ x.2.1.length) && decide (x.2.1.length ≤ 64) && decide (x.2.2.1 = 0 ∧ x.2.2.2.1 = 0 ∧ x.2.2.2.2 = []) else if x.1 = 3 then decide (x.2.1 = []) && decide (x.2.2.1 = 0 ∧ x.2.2.2.1 = 0 ∧ x.2.2.2.2 = []) else false := rfl
theorem RPat_loop (p : List Tm) (hp : p.length ≤ 9223372036854775807) : ∀ (k i : Nat) (b : Bool), i + k = p.length → RPat01_V [.sl (rOf cM p) .non, .bool b, .int .i64 (i : Nat)] ⟨[], [], []⟩ = some (.exit 0, [.bool (b && (p.drop i).all isTm)], ⟨[], [], []⟩)
  | 0, i, b, hi => by
    have hn : ¬ (i : Int) < p.length := by omega
    rw [show p.drop i = [] from List.drop_eq_nil_of_le (by omega), RPat01_E]
    simp [RPat01_Tr, hn]
  | k + 1, i, b, hi => by
    have h1 : i < p.length := by omega
    have w := inc_i64 (i := i) (by omega)
    have ih := fun b => RPat_loop p hp k (i + 1) b (by omega)
    rw [List.drop_eq_getElem_cons h1, RPat01_E]
    cases b with
    | false => simp [RPat01_Tr, h1]
    | true =>
      have ih1 := ih (isTm p[i])
      rw [List.all_cons, Bool.true_and, ← ih1, isTm_eq]
      generalize hx : p[i] = x
      obtain ⟨a, nm, k1, n1, s1⟩ := x
      by_cases h2 : a = 2
      · cases hv : isV k1 n1 s1 <;> simp [RPat01_Tr, h1, w, hx, h2, hv]
      · by_cases h3 : a = 1
        · by_cases h4 : (1 : Int) ≤ nm.length
          · have h4' : 1 ≤ nm.length := by omega
            by_cases h5 : (nm.length : Int) ≤ 64
            · have h5' : nm.length ≤ 64 := by omega
              simp [RPat01_Tr, h1, w, hx, h2, h3, h4, h4', h5, h5']
            · have h5' : ¬ nm.length ≤ 64 := by omega
              simp [RPat01_Tr, h1, w, hx, h2, h3, h4, h4', h5, h5']
          · have h4' : ¬ 1 ≤ nm.length := by omega
            simp [RPat01_Tr, h1, w, hx, h2, h3, h4, h4']
        · by_cases h6 : a = 3
          · by_cases h7 : nm = [] <;> simp [RPat01_Tr, h1, w, hx, h6, h7]
          · simp [RPat01_Tr, h1, w, hx, h2, h3, h6]
theorem RPat_law (p : List Tm) (hp : p.length ≤ 9223372036854775807) : RPat0_W (rOf cM p) = some (.int .i64 (chkP (rOf cM p))) := by
  have hc : chkP (rOf cM p) = if p.length ≤ 8 ∧ p.all isTm = true then 0 else 22 := by simp only [chkP, unR_of]
  have h := RPat_loop p hp p.length 0 (decide ((p.length : Int) ≤ 8)) (by omega)
  unfold RPat0_W RPat0_Tr
  rw [hc]
  simp only [List.drop_zero] at h
  by_cases h8 : (p.length : Int) ≤ 8
  · have h8' : p.length ≤ 8 := by omega
    cases ha : p.all isTm <;> (simp [h8, ha] at h; simp [RPat01_is0, RPat01_b, RPat01_W, h, h8, h8'])
  · have h8' : ¬ p.length ≤ 8 := by omega
    simp [h8] at h
    simp [RPat01_is0, RPat01_b, RPat01_W, h, h8, h8']
def F_RPat : List PV → Tr PV
  | [.sl p .non] => Tr.chk (okR cM p) (.ret (.int .i64 (chkP p)))
  | _ => .fail
theorem sim_RPat (gl : Nat → Option Obj) : SimP Tryd.prog gl 29 fun args => (F_RPat args).run := by
  refine SimP.given (sim_RPat0 gl) ?_
  intro args x hg h
  unfold F_RPat at h
  split at h
  · rename_i p
    obtain ⟨h0, q0⟩ := Tr.chk_some h
    have q := q0
    obtain ⟨p, rfl⟩ := okR_eq _ h0
    have hl := rel_sl hg 0 rfl
    simp only [rOf_len] at hl
    unfold maxLen at hl
    have hw := RPat_law p (by omega)
    cases q
    simp [F_RPat0, RPat0_is0, RPat0_n, hw]
  · cases h
theorem Idx_loop (a : List Bd) (ha : a.length ≤ 9223372036854775807) (ka : Int) (nm : List UInt8) (kb kc : Int) (kd : List UInt8) : ∀ (k i : Nat), i + k = a.length → Idx01_V [.sl (rOf cB a) .non, .fn 58 [.ref [.int .i64 ka, .str nm, .int .i64 kb, .int .i64 kc, .str kd]], .int .i64 (a.length : Nat), .int .i64 (i : Nat)] ⟨[], [], []⟩ =
    if idxA (a.drop i) nm i = -1 then some (.exit 0, [], ⟨[], [], []⟩) else some (.ret, [.int .i64 (idxA (a.drop i) nm i)], ⟨[], [], []⟩)
  | 0, i, hi => by
    have hn : ¬ (i : Int) < a.length := by omega
    rw [show a.drop i = [] from List.drop_eq_nil_of_le (by omega), Idx01_E]
    simp [Idx01_Tr, hn, idxA]
  | k + 1, i, hi => by
    have h1 : i < a.length := by omega
    have w := inc_i64 (i := i) (by omega)
    have ih := Idx_loop a ha ka nm kb kc kd k (i + 1) (by omega)
    rw [List.drop_eq_getElem_cons h1, Idx01_E]
    by_cases h2 : a[i].1 = nm
    · have h3 : ¬ (i : Int) = -1 := by omega
      have e : idxA (a[i] :: a.drop (i + 1)) nm i = i := by simp only [idxA, if_pos h2]
      simp only [e]
      simp [Idx01_Tr, h1, h2, h3]
    · have e : idxA (a[i] :: a.drop (i + 1)) nm i = idxA (a.drop (i + 1)) nm ((i + 1 : Nat) : Int) := by simp only [idxA, if_neg h2]; congr 1
      simp only [e]
      rw [← ih]
      simp [Idx01_Tr, h1, h2, w]
theorem Idx_law (a : List Bd) (ha : a.length ≤ 9223372036854775807) (ka : Int) (nm : List UInt8) (kb kc : Int) (kd : List UInt8) : Idx0_W (rOf cB a) ka nm kb kc kd = some (.int .i64 (idxV (rOf cB a) nm)) := by
  have h := Idx_loop a ha ka nm kb kc kd a.length 0 (by omega)
  have hc : idxV (rOf cB a) nm = idxA a nm 0 := by simp only [idxV, unR_of]
  simp only [List.drop_zero] at h
  unfold Idx0_W Idx0_Tr
  rw [hc]
  by_cases h0 : idxA a nm 0 = -1
  · have h0' : idxA a nm ((0 : Nat) : Int) = -1 := h0
    rw [if_pos h0'] at h
    simp at h
    simp [Idx01_is0, Idx01_is1, Idx01_n_0, Idx01_W, h, h0]
  · have h0' : ¬ idxA a nm ((0 : Nat) : Int) = -1 := h0
    rw [if_neg h0'] at h
    simp at h
    simp [Idx01_is0, Idx01_is1, Idx01_n_0, Idx01_W, h]
def F_Idx : List PV → Tr PV
  | [.sl a .non, .fn 58 [.ref [.int .i64 ka, .str nm, .int .i64 kb, .int .i64 kc, .str kd]]] => Tr.chk (okR cB a) (.ret (.int .i64 (idxV a nm)))
  | _ => .fail
theorem sim_Idx (gl : Nat → Option Obj) : SimP Tryd.prog gl 57 fun args => (F_Idx args).run := by
  refine SimP.given (sim_Idx0 gl) ?_
  intro args x hg h
  unfold F_Idx at h
  split at h
  · rename_i a ka nm kb kc kd
    obtain ⟨h0, q0⟩ := Tr.chk_some h
    have q := q0
    obtain ⟨a, rfl⟩ := okR_eq _ h0
    have hl := rel_sl hg 0 rfl
    simp only [rOf_len] at hl
    unfold maxLen at hl
    have hw := Idx_law a (by omega) ka nm kb kc kd
    cases q
    simp [F_Idx0, Idx0_is0, Idx0_n, hw]
  · cases h
theorem Find_loop (l : List Bd) (hl : l.length ≤ 9223372036854775807) (nm : List UInt8) (n n2 : Int) (s : List UInt8) : ∀ (k i : Nat), i + k = l.length → Find01_V [.sl (rOf cB l) .non, .str nm, .ptr 0 0, .int .i64 (i : Nat)] ⟨[[.int .i64 n, .int .i64 n2, .str s]], [], [36]⟩ =
    match findB (l.drop i) nm with
    | some v => some (.ret, [.ptr 0 0, .bool true], ⟨[[.int .i64 v.1, .int .i64 v.2.1, .str v.2.2]], [], [36]⟩)
    | none => some (.exit 0, [.ptr 0 0], ⟨[[.int .i64 n, .int .i64 n2, .str s]], [], [36]⟩)
  | 0, i, hi => by
    have hn : ¬ (i : Int) < l.length := by omega
    rw [show l.drop i = [] from List.drop_eq_nil_of_le (by omega), Find01_E]
    simp [Find01_Tr, hn, findB]
  | k + 1, i, hi => by
    have h1 : i < l.length := by omega
    have w := inc_i64 (i := i) (by omega)
    have ih := Find_loop l hl nm n n2 s k (i + 1) (by omega)
    rw [List.drop_eq_getElem_cons h1, Find01_E]
    simp only [findB]
    by_cases h2 : l[i].1 = nm
    · simp [Find01_Tr, h1, h2]
    · rw [if_neg h2, ← ih]
      simp [Find01_Tr, h1, h2, w]
theorem Find_law (l : List Bd) (hl : l.length ≤ 9223372036854775807) (nm : List UInt8) : Find0_W (rOf cB l) nm = some (.tup [.agg [.int .i64 (fdK (rOf cB l) nm), .int .i64 (fdN (rOf cB l) nm), .str (fdS (rOf cB l) nm)], .bool (fdO (rOf cB l) nm)]) := by
  have h := Find_loop l hl nm 0 0 [] l.length 0 (by omega)
  simp only [List.drop_zero] at h
  unfold Find0_W Find0_Tr
  simp only [fdK, fdN, fdS, fdO, unR_of]
  cases hf : findB l nm with
  | some v => rw [hf] at h; simp [-one_cV, -cons_cV] at h; simp [-one_cV, -cons_cV, Find01_is0, Find01_is1, Find01_n_0, Find01_n2_0, Find01_s_0, Find01_b_0, Find01_W, h]
  | none => rw [hf] at h; simp [-one_cV, -cons_cV] at h; simp [-one_cV, -cons_cV, Find01_is0, Find01_is1, Find01_n_0, Find01_n2_0, Find01_s_0, Find01_b_0, Find01_n_1, Find01_n2_1, Find01_s_1, Find01_W, h, zeroVl]
def F_Find : List PV → Tr PV
  | [.sl a .non, .str nm] => Tr.chk (okR cB a) (.ret (.tup [.agg [.int .i64 (fdK a nm), .int .i64 (fdN a nm), .str (fdS a nm)], .bool (fdO a nm)]))
  | _ => .fail
theorem sim_Find (gl : Nat → Option Obj) : SimP Tryd.prog gl 19 fun args => (F_Find args).run := by
  refine SimP.given (sim_Find0 gl) ?_
  intro args x hg h
  unfold F_Find at h
  split at h
  · rename_i a nm
    obtain ⟨h0, q0⟩ := Tr.chk_some h
    have q := q0
    obtain ⟨a, rfl⟩ := okR_eq _ h0
    have hl := rel_sl hg 0 rfl
    simp only [rOf_len] at hl
    unfold maxLen at hl
    have hw := Find_law a (by omega) nm
    cases q
    simp [F_Find0, Find0_is0, Find0_n, Find0_n2, Find0_s, Find0_b, hw]
  · cases h
theorem SameB_loop (a b : List Bd) (ha : a.length ≤ 9223372036854775807) (hl : a.length = b.length) : ∀ (k i : Nat), i + k = a.length → SameB01_V [.sl (rOf cB a) .non, .sl (rOf cB b) .non, .int .i64 (i : Nat)] ⟨[], [], []⟩ =
    if a.drop i = b.drop i then some (.exit 0, [], ⟨[], [], []⟩) else some (.ret, [.bool false], ⟨[], [], []⟩)
  | 0, i, hi => by
    have hn : ¬ (i : Int) < a.length := by omega
    rw [show a.drop i = [] from List.drop_eq_nil_of_le (by omega), show b.drop i = [] from List.drop_eq_nil_of_le (by omega), SameB01_E]
    simp [SameB01_Tr, hn]
  | k + 1, i, hi => by
    have h1 : i < a.length := by omega
    have h2 : i < b.length := by omega
    have w := inc_i64 (i := i) (by omega)
    have ih := SameB_loop a b ha hl k (i + 1) (by omega)
    have key : (a.drop i = b.drop i) = (a[i] = b[i] ∧ a.drop (i + 1) = b.drop (i + 1)) := by rw [List.drop_eq_getElem_cons h1, List.drop_eq_getElem_cons h2, List.cons.injEq]
    simp only [key]
    rw [SameB01_E]
    by_cases e : a[i] = b[i]
    · simp only [e, true_and]
      rw [← ih]
      simp [SameB01_Tr, h1, h2, w, e]
    · have e' : ¬ (a[i].1 = b[i].1 ∧ (a[i].2.1 = b[i].2.1 ∧ a[i].2.2.1 = b[i].2.2.1 ∧ a[i].2.2.2 = b[i].2.2.2)) := fun h => e (Prod.ext h.1 (Prod.ext h.2.1 (Prod.ext h.2.2.1 h.2.2.2)))
      simp [SameB01_Tr, h1, h2, w, e]
      rw [if_pos (by simpa only [Classical.not_and_iff_not_or_not] using e')]
      rfl
theorem SameB_law (a b : List Bd) (ha : a.length ≤ 9223372036854775807) : SameB0_W (rOf cB a) (rOf cB b) = some (.bool (eqRB (rOf cB a) (rOf cB b))) := by
  have hc : eqRB (rOf cB a) (rOf cB b) = decide (a = b) := by simp only [eqRB, unR_of]
  unfold SameB0_W SameB0_Tr
  rw [hc]
  by_cases hl : a.length = b.length
  · have h := SameB_loop a b ha hl a.length 0 (by omega)
    simp only [List.drop_zero] at h
    by_cases e : a = b
    · subst e; simp at h; simp [SameB01_is0, SameB01_is1, SameB01_b_0, SameB01_W, h]
    · rw [if_neg e] at h; simp at h; simp [SameB01_is0, SameB01_is1, SameB01_b_0, SameB01_W, h, e, hl]
  · have hl' : (a.length : Int) ≠ b.length := by omega
    have e : a ≠ b := by rintro rfl; exact hl rfl
    simp [hl', e]
def F_SameB : List PV → Tr PV
  | [.sl a .non, .sl b .non] => Tr.chk (okR cB a) (Tr.chk (okR cB b) (.ret (.bool (eqRB a b))))
  | _ => .fail
theorem sim_SameB (gl : Nat → Option Obj) : SimP Tryd.prog gl 30 fun args => (F_SameB args).run := by
  refine SimP.given (sim_SameB0 gl) ?_
  intro args x hg h
  unfold F_SameB at h
  split at h
  · rename_i a b
    obtain ⟨h0, q0⟩ := Tr.chk_some h
    obtain ⟨h1, q1⟩ := Tr.chk_some q0
    have q := q1
    obtain ⟨a, rfl⟩ := okR_eq _ h0
    obtain ⟨b, rfl⟩ := okR_eq _ h1
    have hl := rel_sl hg 0 rfl
    simp only [rOf_len] at hl
    unfold maxLen at hl
    have hw := SameB_law a b (by omega)
    cases q
    simp [F_SameB0, SameB0_is0, SameB0_b, hw]
  · cases h
end Go.Pv
