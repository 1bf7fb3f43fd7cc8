/- A region whose operations may come up in any order that the edges leave: all come to what the text's order computes. -/
import Derived.Test.YtdfahkeodlfopaaDoorPvOrd
set_option linter.unusedSimpArgs false
set_option linter.unusedVariables false
namespace Go.Pv
open Go.RowKit

/-- Operation i comes before operation j, by edges. -/
inductive Anc (ops : List Oper) (i : Nat) : Nat → Prop
  | edge (j : Nat) (o : Oper) (e : Edge) (h : ops[j]? = some o) (he : e ∈ o.after.toList) (hb : Region.binds .any e = true) (hi : e.on = i) : Anc ops i j
  | step (j : Nat) (o : Oper) (e : Edge) (h : ops[j]? = some o) (he : e ∈ o.after.toList) (hb : Region.binds .any e = true) (hi : Anc ops i e.on) : Anc ops i j

theorem mask_foldl (acc : List Nat) (i : Nat) : ∀ (l : List Edge) (s : Nat), (l.foldl (fun s e => if Region.binds .any e then s ||| 2 ^ e.on ||| acc.getD e.on 0 else s) s).testBit i = true →
    s.testBit i = true ∨ ∃ e ∈ l, Region.binds .any e = true ∧ (e.on = i ∨ (acc.getD e.on 0).testBit i = true) := by
  intro l
  induction l with
  | nil => intro s h; exact .inl h
  | cons e l ih =>
    intro s h
    simp only [List.foldl_cons] at h
    rcases ih _ h with h | ⟨e', he', h⟩
    · split at h
      · rename_i hb
        simp only [Nat.testBit_or, Bool.or_eq_true, Nat.testBit_two_pow, decide_eq_true_eq] at h
        rcases h with (h | h) | h
        · exact .inl h
        · exact .inr ⟨e, by simp, hb, .inl h⟩
        · exact .inr ⟨e, by simp, hb, .inr h⟩
      · exact .inl h
    · exact .inr ⟨e', by simp [he'], h⟩

theorem orderedFrom_spec (Γ : Gam) (ops : List Oper) : ∀ (rest done : List Oper) (acc : List Nat), done ++ rest = ops → (∀ k i, k < done.length → (acc.getD k 0).testBit i = true → Anc ops i k) → acc.length = done.length →
    orderedFrom Γ ops rest done acc = true →
    (∀ j o, done.length ≤ j → ops[j]? = some o → ∀ e ∈ o.after.toList, Region.binds .any e = true → e.on < j) ∧
    (∀ i j x o, done.length ≤ j → i < j → ops[i]? = some x → ops[j]? = some o → meets Γ ops x o = true → Anc ops i j) := by
  intro rest
  induction rest with
  | nil =>
    intro done acc hd ha hl h
    have : done = ops := by simpa using hd
    subst this
    refine ⟨fun j o hj ho => ?_, fun i j x o hj _ _ ho => ?_⟩ <;>
    · have := (List.getElem?_eq_some_iff.1 ho).1
      omega
  | cons o rest ih =>
    intro done acc hd ha hl h
    simp only [orderedFrom, Bool.and_eq_true, List.all_eq_true] at h
    obtain ⟨⟨h1, h2⟩, h3⟩ := h
    have hat : ops[done.length]? = some o := by rw [← hd]; simp
    have hedge : ∀ e ∈ o.after.toList, Region.binds .any e = true → e.on < done.length := fun e he hb => by
      have := h1 e he
      simpa [hb] using this
    have hm : ∀ i, (mask acc o).testBit i = true → Anc ops i done.length := by
      intro i hi
      rcases mask_foldl acc i _ _ hi with h | ⟨e, he, hb, h⟩
      · simp at h
      · rcases h with h | h
        · exact .edge _ o e hat he hb h
        · exact .step _ o e hat he hb (ha e.on i (hedge e he hb) h)
    have ih' := ih (done ++ [o]) (acc ++ [mask acc o]) (by simpa using hd) (fun k i hk hb => by
      by_cases hlt : k < done.length
      · rw [List.getD_eq_getElem?_getD, List.getElem?_append_left (by omega), ← List.getD_eq_getElem?_getD] at hb
        exact ha k i hlt hb
      · have hk' : k = done.length := by simp at hk; omega
        subst hk'
        rw [List.getD_eq_getElem?_getD, List.getElem?_append_right (by omega)] at hb
        simp [hl] at hb
        exact hm i hb) (by simp [hl]) h3
    refine ⟨fun j o' hj ho => ?_, fun i j x o' hj hij hx ho hmeet => ?_⟩
    · rcases Nat.eq_or_lt_of_le hj with rfl | hj
      · rw [hat] at ho
        cases ho
        exact hedge
      · exact ih'.1 j o' (by simp; omega) ho
    · rcases Nat.eq_or_lt_of_le hj with rfl | hj
      · rw [hat] at ho
        cases ho
        refine hm i ?_
        have hmem : (x, i) ∈ done.zipIdx := by
          rw [List.mem_zipIdx_iff_getElem?]
          rw [← hd, List.getElem?_append_left hij] at hx
          exact hx
        have := h2 _ hmem
        simpa [hmeet] using this
      · exact ih'.2 i j x o' (by simp; omega) hij hx ho hmeet

theorem ordered_spec {Γ : Gam} {ops : List Oper} (h : ordered Γ ops = true) :
    (∀ j o, ops[j]? = some o → ∀ e ∈ o.after.toList, Region.binds .any e = true → e.on < j) ∧
    (∀ i j x o, i < j → ops[i]? = some x → ops[j]? = some o → meets Γ ops x o = true → Anc ops i j) := by
  have := orderedFrom_spec Γ ops ops [] [] (by simp) (fun k i hk => by simp at hk) rfl h
  exact ⟨fun j o => this.1 j o (Nat.zero_le _), fun i j x o => this.2 i j x o (Nat.zero_le _)⟩

/-- What the text's order computes, step by step. -/
structure Trace (tb : Tab) (Γ : Gam) (ops l : List Oper) (F : Nat → List PV) (S : Nat → Store) (X : Nat → PV) : Prop where
  at_ : ∀ i o, l[i]? = some o → ((pwanted ops (F i) o = some false ∧ X i = .tup [] ∧ S (i + 1) = S i) ∨ (pwanted ops (F i) o = some true ∧ pop tb Γ (F i) (S i) o = some (X i, S (i + 1)))) ∧ F (i + 1) = pput (F i) o.dst (X i)

theorem trace_of_pops {tb : Tab} {Γ : Gam} {ops : List Oper} : ∀ (l : List Oper) (fr : List PV) (σ : Store) (fr' : List PV) (σ' : Store), pops tb Γ ops l fr σ = some (fr', σ') →
    ∃ F S X, F 0 = fr ∧ S 0 = σ ∧ F l.length = fr' ∧ S l.length = σ' ∧ Trace tb Γ ops l F S X := by
  intro l
  induction l with
  | nil =>
    intro fr σ fr' σ' h
    simp only [pops, Option.some.injEq, Prod.mk.injEq] at h
    exact ⟨fun _ => fr, fun _ => σ, fun _ => .top, rfl, rfl, h.1, h.2, ⟨fun i o ho => by simp at ho⟩⟩
  | cons o l ih =>
    intro fr σ fr' σ' h
    have key : ∀ x σ1, pops tb Γ ops l (pput fr o.dst x) σ1 = some (fr', σ') → ((pwanted ops fr o = some false ∧ x = .tup [] ∧ σ1 = σ) ∨ (pwanted ops fr o = some true ∧ pop tb Γ fr σ o = some (x, σ1))) →
        ∃ F S X, F 0 = fr ∧ S 0 = σ ∧ F (o :: l).length = fr' ∧ S (o :: l).length = σ' ∧ Trace tb Γ ops (o :: l) F S X := by
      intro x σ1 h hx
      obtain ⟨F, S, X, hF, hS, hF', hS', ht⟩ := ih _ _ _ _ h
      refine ⟨fun i => match i with | 0 => fr | i + 1 => F i, fun i => match i with | 0 => σ | i + 1 => S i, fun i => match i with | 0 => x | i + 1 => X i, rfl, rfl, hF', hS', ⟨fun i o' ho => ?_⟩⟩
      cases i with
      | zero =>
        simp at ho
        subst ho
        refine ⟨?_, by simp [hF]⟩
        rcases hx with ⟨h1, h2, h3⟩ | ⟨h1, h2⟩
        · exact .inl ⟨h1, h2, by rw [h3] at hS; exact hS⟩
        · exact .inr ⟨h1, by show pop tb Γ fr σ o = some (x, S 0); rw [hS]; exact h2⟩
      | succ i => exact ht.at_ i o' (by simpa using ho)
    simp only [pops] at h
    split at h
    · cases h
    · rename_i hw
      exact key _ _ h (.inl ⟨hw, rfl, rfl⟩)
    · rename_i hw
      split at h
      · cases h
      · rename_i x σ1 hp
        exact key _ _ h (.inr ⟨hw, hp⟩)

/-- Which operations have run. -/
def In (listed : Array Bool) (i : Nat) : Prop := listed.getD i false = true

/-- The frame and the store where the operations of a set have run. -/
structure Inv (Γ : Gam) (ops : List Oper) (F : Nat → List PV) (S : Nat → Store) (listed : Array Bool) (fr : List PV) (σ : Store) : Prop where
  len : fr.length = (F 0).length
  closed : ∀ j o, In listed j → ops[j]? = some o → ∀ e ∈ o.after.toList, Region.binds .any e = true → In listed e.on
  frame : ∀ t i, i ≤ ops.length → (∀ j o, j < i → ops[j]? = some o → o.dst = some t → In listed j) → (∀ j o, i ≤ j → ops[j]? = some o → o.dst = some t → ¬ In listed j) → fr[t]? = (F i)[t]?
  store : ∀ i, i ≤ ops.length → (∀ j o, j < i → ops[j]? = some o → writes Γ o = true → In listed j) → (∀ j o, i ≤ j → ops[j]? = some o → writes Γ o = true → ¬ In listed j) → σ = S i

theorem In.of_anc {ops : List Oper} {listed : Array Bool} (hc : ∀ j o, In listed j → ops[j]? = some o → ∀ e ∈ o.after.toList, Region.binds .any e = true → In listed e.on) {i j : Nat} (h : Anc ops i j) (hj : In listed j) : In listed i := by
  induction h with
  | edge j o e h he hb hi => exact hi ▸ hc j o hj h e he hb
  | step j o e h he hb hi ih => exact ih (hc j o hj h e he hb)

theorem In.of_anc' {ops : List Oper} {listed : Array Bool} (hc : ∀ j o, In listed j → ops[j]? = some o → ∀ e ∈ o.after.toList, Region.binds .any e = true → In listed e.on) {i k : Nat} (h : Anc ops i k) {o : Oper} (ho : ops[k]? = some o)
    (hk : ∀ e ∈ o.after.toList, Region.binds .any e = true → In listed e.on) : In listed i := by
  cases h with
  | edge _ o' e h he hb hi =>
    rw [ho] at h
    cases h
    exact hi ▸ hk e he hb
  | step _ o' e h he hb hi =>
    rw [ho] at h
    cases h
    exact In.of_anc hc hi (hk e he hb)

theorem pput_len (fr : List PV) (dst : Option Tmp) (x : PV) : (pput fr dst x).length = fr.length := by
  cases dst <;> simp [pput]

theorem pput_ne {fr : List PV} {dst : Option Tmp} {x : PV} {t : Nat} (h : dst ≠ some t) : (pput fr dst x)[t]? = fr[t]? := by
  cases dst with
  | none => rfl
  | some d =>
    have : d ≠ t := fun e => h (by rw [e])
    simp [pput, List.getElem?_set_ne this]

section
variable {tb : Tab} {Γ : Gam} {ops : List Oper} {F : Nat → List PV} {S : Nat → Store} {X : Nat → PV} {listed : Array Bool} {fr : List PV} {σ : Store}

theorem Trace.len (ht : Trace tb Γ ops ops F S X) : ∀ i, i ≤ ops.length → (F i).length = (F 0).length := by
  intro i
  induction i with
  | zero => intro _; rfl
  | succ i ih =>
    intro hi
    have := (ht.at_ i _ (List.getElem?_eq_getElem (by omega))).2
    rw [this, pput_len, ih (by omega)]

/-- A slot that no operation from i up to j writes. -/
theorem Trace.still (ht : Trace tb Γ ops ops F S X) {t i j : Nat} (hij : i ≤ j) (hj : j ≤ ops.length) (h : ∀ k o, i ≤ k → k < j → ops[k]? = some o → o.dst ≠ some t) : (F j)[t]? = (F i)[t]? := by
  induction j with
  | zero => have : i = 0 := by omega
            rw [this]
  | succ j ih =>
    rcases Nat.eq_or_lt_of_le hij with rfl | hlt
    · rfl
    · have ho := List.getElem?_eq_getElem (l := ops) (i := j) (by omega)
      rw [(ht.at_ j _ ho).2, pput_ne (h j _ (by omega) (by omega) ho)]
      exact ih (by omega) (by omega) (fun k o h1 h2 => h k o h1 (by omega))

theorem Trace.stillS (ht : Trace tb Γ ops ops F S X) {i j : Nat} (hij : i ≤ j) (hj : j ≤ ops.length) (h : ∀ k o, i ≤ k → k < j → ops[k]? = some o → writes Γ o = false) : S j = S i := by
  induction j with
  | zero => have : i = 0 := by omega
            rw [this]
  | succ j ih =>
    rcases Nat.eq_or_lt_of_le hij with rfl | hlt
    · rfl
    · have ho := List.getElem?_eq_getElem (l := ops) (i := j) (by omega)
      have hw := h j _ (by omega) (by omega) ho
      have := ih (by omega) (by omega) (fun k o h1 h2 => h k o h1 (by omega))
      rcases (ht.at_ j _ ho).1 with ⟨_, _, h3⟩ | ⟨_, h3⟩
      · rw [h3, this]
      · rw [pop_keeps hw h3, this]

theorem in_set {listed : Array Bool} {k j : Nat} (hk : k < listed.size) : In (listed.setIfInBounds k true) j ↔ j = k ∨ In listed j := by
  unfold In
  rw [Array.getD_eq_getD_getElem?, Array.getD_eq_getD_getElem?, Array.getElem?_setIfInBounds]
  by_cases h : k = j
  · subst h
    simp [hk]
  · simp only [h, if_false]
    constructor
    · exact .inr
    · rintro (rfl | h')
      · exact absurd rfl h
      · exact h'

/-- What an operation that is ready sees is what it sees in the text's order. -/
theorem Inv.sees (hord : ordered Γ ops = true) (hI : Inv Γ ops F S listed fr σ) {k : Nat} {o : Oper} (hk : ops[k]? = some o) (hn : ¬ In listed k) (he : ∀ e ∈ o.after.toList, Region.binds .any e = true → In listed e.on) :
    (∀ t ∈ looks ops o, fr[t]? = (F k)[t]?) ∧ (reads Γ o = true → σ = S k) := by
  obtain ⟨h1, h2⟩ := ordered_spec hord
  have hkl := (List.getElem?_eq_some_iff.1 hk).1
  refine ⟨fun t ht => ?_, fun hr => ?_⟩
  · refine hI.frame t k (by omega) (fun j o' hj ho hd => ?_) (fun j o' hj ho hd hin => ?_)
    · refine In.of_anc' hI.closed (h2 j k o' o hj ho hk ?_) hk he
      simp [meets, hits, hd, ht]
    · rcases Nat.eq_or_lt_of_le hj with rfl | hlt
      · exact hn hin
      · refine hn (In.of_anc hI.closed (h2 k j o o' hlt hk ho ?_) hin)
        simp [meets, hits, hd, ht]
  · refine hI.store k (by omega) (fun j o' hj ho hd => ?_) (fun j o' hj ho hd hin => ?_)
    · refine In.of_anc' hI.closed (h2 j k o' o hj ho hk ?_) hk he
      simp [meets, hd, hr]
    · rcases Nat.eq_or_lt_of_le hj with rfl | hlt
      · exact hn hin
      · refine hn (In.of_anc hI.closed (h2 k j o o' hlt hk ho ?_) hin)
        simp [meets, hd, hr]

/-- One more. -/
theorem Inv.next (hord : ordered Γ ops = true) (ht : Trace tb Γ ops ops F S X) (hI : Inv Γ ops F S listed fr σ) {k : Nat} {o : Oper} (hk : ops[k]? = some o) (hks : k < listed.size) (hn : ¬ In listed k)
    (he : ∀ e ∈ o.after.toList, Region.binds .any e = true → In listed e.on) {σ' : Store} (hσ : (writes Γ o = true → σ' = S (k + 1)) ∧ (writes Γ o = false → σ' = σ)) :
    Inv Γ ops F S (listed.setIfInBounds k true) (pput fr o.dst (X k)) σ' := by
  obtain ⟨h1, h2⟩ := ordered_spec hord
  have hkl := (List.getElem?_eq_some_iff.1 hk).1
  refine ⟨by rw [pput_len, hI.len], fun j o' hj ho e he' hb => ?_, fun t i hi hlo hhi => ?_, fun i hi hlo hhi => ?_⟩
  · rw [in_set hks] at hj ⊢
    rcases hj with rfl | hj
    · rw [hk] at ho
      cases ho
      exact .inr (he e he' hb)
    · exact .inr (hI.closed j o' hj ho e he' hb)
  · by_cases hd : o.dst = some t
    · have hki : k < i := by
        apply Nat.lt_of_not_le
        intro hle
        exact hhi k o hle hk hd ((in_set hks).2 (.inl rfl))
      have hst := ht.still (t := t) (i := k + 1) (j := i) (by omega) hi (fun j o' hj1 hj2 ho hd' => by
        have hin := (in_set hks).1 (hlo j o' hj2 ho hd')
        rcases hin with rfl | hin
        · omega
        · exact hn (In.of_anc hI.closed (h2 k j o o' (by omega) hk ho (by simp [meets, hd, hd'])) hin))
      rw [hst, (ht.at_ k o hk).2, hd]
      simp only [pput, List.getElem?_set]
      simp [hI.len, ht.len k (by omega)]
    · rw [pput_ne hd]
      refine hI.frame t i hi (fun j o' hj ho hd' => ?_) (fun j o' hj ho hd' hin => hhi j o' hj ho hd' ((in_set hks).2 (.inr hin)))
      rcases (in_set hks).1 (hlo j o' hj ho hd') with rfl | h
      · rw [hk] at ho
        cases ho
        exact absurd hd' hd
      · exact h
  · cases hw : writes Γ o with
    | true =>
      have hki : k < i := by
        apply Nat.lt_of_not_le
        intro hle
        exact hhi k o hle hk hw ((in_set hks).2 (.inl rfl))
      have hst := ht.stillS (i := k + 1) (j := i) (by omega) hi (fun j o' hj1 hj2 ho => by
        cases hw' : writes Γ o' with
        | false => rfl
        | true =>
          have hin := (in_set hks).1 (hlo j o' hj2 ho hw')
          rcases hin with rfl | hin
          · omega
          · exact absurd (In.of_anc hI.closed (h2 k j o o' (by omega) hk ho (by simp [meets, hw, hw', reads])) hin) hn)
      rw [hst, hσ.1 hw]
    | false =>
      rw [hσ.2 hw]
      refine hI.store i hi (fun j o' hj ho hd' => ?_) (fun j o' hj ho hd' hin => hhi j o' hj ho hd' ((in_set hks).2 (.inr hin)))
      rcases (in_set hks).1 (hlo j o' hj ho hd') with rfl | h
      · rw [hk] at ho
        cases ho
        rw [hw] at hd'
        cases hd'
      · exact h
end

theorem count_set : ∀ (l : List Bool) (k : Nat), l[k]? = some false → (l.set k true).count false + 1 = l.count false := by
  intro l
  induction l with
  | nil => intro k h; simp at h
  | cons b l ih =>
    intro k h
    cases k with
    | zero => simp at h; subst h; simp
    | succ k =>
      have := ih k (by simpa using h)
      simp only [List.set_cons_succ, List.count_cons]
      omega

section
variable {P : Program} {tb : Tab} {gl : Nat → Option Obj} {Γ : Gam} {H0 : Gh} {w0 : World} {Q : Exit → Act → World → Prop}

theorem any_sound (hT : TabOk P tb) (hΓ : GamOk P gl Γ) {ops : Array Oper} (hord : ordered Γ ops.toList = true) {F : Nat → List PV} {S : Nat → Store} {X : Nat → PV} (ht : Trace tb Γ ops.toList ops.toList F S X)
    (hq : ∀ a' w', St gl H0 w0 (F ops.size) (S ops.size) a' w' → Q .normal a' w') :
    ∀ (fuel : Nat) (listed : Array Bool) (fr : List PV) (σ : Store) (a : Act) (w : World), listed.size = ops.size → listed.toList.count false ≤ fuel → Inv Γ ops.toList F S listed fr σ → St gl H0 w0 fr σ a w → wpAny P .any ops Q fuel listed a w := by
  obtain ⟨h1, h2⟩ := ordered_spec hord
  -- where nothing is ready, all have run
  have all : ∀ (listed : Array Bool), listed.size = ops.size → Region.ready .any ops listed = [] → ∀ i, i < ops.size → In listed i := by
    intro listed hs hr i
    induction i using Nat.strongRecOn with
    | _ i ih =>
      intro hi
      apply Classical.byContradiction
      intro hn
      have hmem : i ∈ Region.ready .any ops listed := by
        unfold Region.ready
        rw [List.mem_filter]
        refine ⟨List.mem_range.2 hi, ?_⟩
        have e1 : listed.getD i true = false := by
          have hb : i < listed.size := by omega
          unfold In at hn
          rw [Array.getD_eq_getD_getElem?, Array.getElem?_eq_getElem hb] at hn ⊢
          simpa using hn
        have e2 : ops[i]? = some ops[i] := Array.getElem?_eq_getElem hi
        simp only [e1, e2, Option.map_some, Option.getD_some, Bool.not_false, Bool.true_and, Array.all_eq_true']
        intro e he
        cases hb : Region.binds .any e with
        | false => rfl
        | true =>
          have hlt := h1 i ops[i] (by rw [Array.getElem?_toList]; exact e2) e (Array.mem_toList_iff.2 he) hb
          have := ih e.on hlt (by omega)
          simpa [In] using this
      rw [hr] at hmem
      cases hmem
  have done : ∀ (listed : Array Bool) (fr : List PV) (σ : Store) (a : Act) (w : World), listed.size = ops.size → Inv Γ ops.toList F S listed fr σ → St gl H0 w0 fr σ a w → Region.ready .any ops listed = [] → Q .normal a w := by
    intro listed fr σ a w hs hI hst hr
    have ha := all listed hs hr
    have e1 : fr = F ops.size := by
      apply List.ext_getElem?
      intro t
      refine hI.frame t ops.size (by simp) (fun j o hj _ _ => ha j hj) (fun j o hj ho => ?_)
      have := (List.getElem?_eq_some_iff.1 ho).1
      simp at this
      omega
    have e2 : σ = S ops.size := by
      refine hI.store ops.size (by simp) (fun j o hj _ _ => ha j hj) (fun j o hj ho => ?_)
      have := (List.getElem?_eq_some_iff.1 ho).1
      simp at this
      omega
    subst e1 e2
    exact hq a w hst
  intro fuel
  induction fuel with
  | zero =>
    intro listed fr σ a w hs hc hI hst
    have hr : Region.ready .any ops listed = [] := by
      unfold Region.ready
      rw [List.filter_eq_nil_iff]
      intro i hi
      have hi := List.mem_range.1 hi
      have hb : i < listed.size := by omega
      have : listed.getD i true = true := by
        rw [Array.getD_eq_getD_getElem?, Array.getElem?_eq_getElem hb]
        have h0 : false ∉ listed.toList := List.count_eq_zero.1 (by omega)
        cases hl : listed[i] with
        | true => rfl
        | false => exact absurd (by rw [← hl]; simp) h0
      simp [this]
    exact ⟨hr, done listed fr σ a w hs hI hst hr⟩
  | succ fuel ih =>
    intro listed fr σ a w hs hc hI hst
    refine ⟨done listed fr σ a w hs hI hst, fun k hk => ?_⟩
    unfold Region.ready at hk
    rw [List.mem_filter] at hk
    obtain ⟨hk, hk'⟩ := hk
    have hk := List.mem_range.1 hk
    have hb : k < listed.size := by omega
    have e2 : ops[k]? = some ops[k] := Array.getElem?_eq_getElem hk
    simp only [e2, Option.map_some, Option.getD_some, Bool.and_eq_true, Bool.not_eq_true'] at hk'
    obtain ⟨hk1, hk2⟩ := hk'
    have hko : ops.toList[k]? = some ops[k] := by rw [Array.getElem?_toList]; exact e2
    have hlk : listed[k]? = some false := by
      rw [Array.getD_eq_getD_getElem?, Array.getElem?_eq_getElem hb] at hk1
      rw [Array.getElem?_eq_getElem hb]
      simpa using hk1
    have hn : ¬ In listed k := by
      unfold In
      rw [Array.getD_eq_getD_getElem?, hlk]
      simp
    have he : ∀ e ∈ ops[k].after.toList, Region.binds .any e = true → In listed e.on := by
      intro e he hbd
      have := Array.all_eq_true'.1 hk2 e (Array.mem_toList_iff.1 he)
      simpa [hbd, In] using this
    obtain ⟨hsee, hsto⟩ := hI.sees hord hko hn he
    have hwan : pwanted ops.toList fr ops[k] = pwanted ops.toList (F k) ops[k] := by
      unfold pwanted
      cases hg : ops[k].guard with
      | none => rfl
      | some jb =>
        obtain ⟨j, b⟩ := jb
        simp only []
        cases hd : (ops.toList[j]?).bind (·.dst) with
        | none => rfl
        | some d =>
          have : fr[d]? = (F k)[d]? := hsee d (by simp [looks, hg]; exact .inr (by rw [Array.getElem?_toList] at hd; simp [hd]))
          simp only [Option.bind_some, this]
    have hpop : ∀ s, pop tb Γ fr s ops[k] = pop tb Γ (F k) s ops[k] := by
      intro s
      refine pop_ev fun x hx => ?_
      cases x with
      | tmp t =>
        have : fr[t]? = (F k)[t]? := hsee t (by
          simp only [looks, List.mem_append, List.mem_filterMap]
          exact .inl ⟨_, hx, rfl⟩)
        simp only [ev, List.getD_eq_getElem?_getD, this]
      | const v => rfl
      | global g => rfl
      | func f => rfl
    have hcount : (listed.setIfInBounds k true).toList.count false ≤ fuel := by
      have := count_set listed.toList k (by rw [Array.getElem?_toList]; exact hlk)
      simp only [Array.toList_setIfInBounds]
      omega
    have hsize : (listed.setIfInBounds k true).size = ops.size := by simp [hs]
    unfold wpOp
    simp only [e2]
    rcases (ht.at_ k ops[k] hko).1 with ⟨hw, hx, hS⟩ | ⟨hw, hp⟩
    · have hwn := st_wanted hst (hwan.trans hw)
      simp only [hwn]
      refine ih _ _ σ _ _ hsize hcount ?_ (st_skip hst _)
      have := hI.next hord ht hko hb hn he (σ' := σ) ⟨fun hwr => ?_, fun _ => rfl⟩
      · rw [hx] at this
        exact this
      · rw [hS]
        exact hsto (by simp [reads, hwr])
    · have hwn := st_wanted hst (hwan.trans hw)
      simp only [hwn, if_true]
      refine .inl ?_
      cases hr : reads Γ ops[k] with
      | true =>
        have hs' := hsto hr
        have hp' : pop tb Γ fr σ ops[k] = some (X k, S (k + 1)) := by rw [hpop, hs']; exact hp
        refine st_step hT hΓ hst hp' fun a' w' hst' => ih _ _ _ _ _ hsize hcount (hI.next hord ht hko hb hn he ⟨fun _ => rfl, fun hwf => ?_⟩) hst'
        rw [pop_keeps hwf hp, hs']
      | false =>
        have hwf : writes Γ ops[k] = false := by
          cases hwr : writes Γ ops[k] with
          | false => rfl
          | true => simp [reads, hwr] at hr
        have hp' : pop tb Γ fr σ ops[k] = some (X k, σ) := by rw [hpop]; exact pop_quiet hr hp σ
        refine st_step hT hΓ hst hp' fun a' w' hst' => ih _ _ _ _ _ hsize hcount (hI.next hord ht hko hb hn he ⟨fun h => ?_, fun _ => rfl⟩) hst'
        rw [hwf] at h
        cases h

/-- A region, drawn or not. -/
theorem region_sound (hT : TabOk P tb) (hΓ : GamOk P gl Γ) (hm : P.follows .mixedOrders = true) {id : Nat} {ops : Array Oper} {draw : Bool} {fr fr' : List PV} {σ σ' : Store} {a : Act} {w : World} (hst : St gl H0 w0 fr σ a w)
    (h : pops tb Γ ops.toList ops.toList fr σ = some (fr', σ')) (hd : draw = true → ordered Γ ops.toList = true) (hq : ∀ a' w', St gl H0 w0 fr' σ' a' w' → Q .normal a' w') : (Code.region id ops draw).wp P Q a w := by
  cases draw with
  | false => exact wp_region_list (pops_sound hT hΓ ops.toList fr σ a w fr' σ' hst h hq)
  | true =>
    refine wp_region_any hm ?_
    obtain ⟨F, S, X, hF, hS, hF', hS', ht⟩ := trace_of_pops _ _ _ _ _ h
    have no : ∀ i, ¬ In (Array.replicate ops.size false) i := by
      intro i
      unfold In
      rw [Array.getD_eq_getD_getElem?]
      by_cases hi : i < ops.size
      · simp [Array.getElem?_replicate, hi]
      · simp [Array.getElem?_replicate, hi]
    refine any_sound hT hΓ (hd rfl) ht (fun a' w' hst' => hq a' w' ?_) ops.size _ fr σ a _ (by simp) ?_ ⟨by rw [hF], fun j o hj => absurd hj (no j), fun t i hi hlo hhi => ?_, fun i hi hlo hhi => ?_⟩ (st_drew hst)
    · rw [← hF', ← hS']
      simpa using hst'
    · exact Nat.le_trans List.count_le_length (by simp)
    · rw [ht.still (i := 0) (j := i) (Nat.zero_le _) hi (fun k o _ hk ho hd => no k (hlo k o hk ho hd)), hF]
    · rw [ht.stillS (i := 0) (j := i) (Nat.zero_le _) hi (fun k o _ hk ho => by
        cases hw : writes Γ o with
        | false => rfl
        | true => exact absurd (hlo k o hk ho hw) (no k)), hS]
end
end Go.Pv
