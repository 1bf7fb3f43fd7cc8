import Derived.Test.YtdfahkeodlfopaaDoorPvV1
set_option maxHeartbeats 4000000
set_option maxRecDepth 200000
set_option linter.unusedSimpArgs false
set_option linter.unusedVariables false
namespace Go.Pv
open Go Go.Proofs Go.RowKit

/-! ### the order is total -/
theorem bl_irrefl : ∀ a : List UInt8, Op.bytesLess a a = false
  | [] => by simp [Op.bytesLess]
  | c :: a => by simp [Op.bytesLess, bl_irrefl a]
theorem bl_tri : ∀ a b : List UInt8, Op.bytesLess a b = true ∨ a = b ∨ Op.bytesLess b a = true
  | [], [] => .inr (.inl rfl)
  | [], c :: b => .inl (by simp [Op.bytesLess])
  | c :: a, [] => .inr (.inr (by simp [Op.bytesLess]))
  | c :: a, d :: b => by
    have h := bl_tri a b
    simp only [Op.bytesLess]
    by_cases h1 : c = d
    · subst h1
      rcases h with h | h | h
      · left; simp [h]
      · right; left; rw [h]
      · right; right; simp [h]
    · have h2 : c < d ∨ d < c := by
        rcases Nat.lt_trichotomy c.toNat d.toNat with h | h | h
        · exact .inl h
        · exact absurd (UInt8.toNat_inj.1 h) h1
        · exact .inr h
      rcases h2 with h2 | h2
      · left; simp [h2]
      · right; right; simp [h2]
theorem bl_trans : ∀ a b c : List UInt8, Op.bytesLess a b = true → Op.bytesLess b c = true → Op.bytesLess a c = true
  | [], [], _, h, _ => by simp [Op.bytesLess] at h
  | [], _ :: _, [], _, h => by simp [Op.bytesLess] at h
  | [], _ :: _, _ :: _, _, _ => by simp [Op.bytesLess]
  | _ :: _, [], _, h, _ => by simp [Op.bytesLess] at h
  | _ :: _, _ :: _, [], _, h => by simp [Op.bytesLess] at h
  | x :: a, y :: b, z :: c, h1, h2 => by
    have ih := bl_trans a b c
    simp only [Op.bytesLess, Bool.or_eq_true, Bool.and_eq_true, decide_eq_true_eq, beq_iff_eq, UInt8.lt_iff_toNat_lt] at h1 h2 ⊢
    rcases h1 with h1 | ⟨rfl, h1⟩
    · rcases h2 with h2 | ⟨rfl, h2⟩
      · left; omega
      · left; exact h1
    · rcases h2 with h2 | ⟨rfl, h2⟩
      · left; exact h2
      · right; exact ⟨rfl, ih h1 h2⟩
theorem bl_asymm {a b : List UInt8} (h : Op.bytesLess a b = true) : Op.bytesLess b a = false := by
  cases h' : Op.bytesLess b a with
  | false => rfl
  | true =>
    have := bl_trans a b a h h'
    rw [bl_irrefl] at this
    cases this
def lessV (k n : Int) (s : List UInt8) (k' n' : Int) (s' : List UInt8) : Prop := k < k' ∨ k = k' ∧ (n < n' ∨ n = n' ∧ Op.bytesLess s s' = true)
theorem compareR_is (k n : Int) (s : List UInt8) (k' n' : Int) (s' : List UInt8) : compareR k n s k' n' s' = compareV k n s k' n' s' := by
  unfold compareR compareV firstNZ firstNZ firstNZ firstNZ cmpInt cmpStr
  by_cases h1 : k < k'
  · have : ¬ k = k' := by omega
    simp [h1, this]
  · by_cases h2 : k' < k
    · have : ¬ k = k' := by omega
      simp [h1, h2, this]
    · have : k = k' := by omega
      subst this
      by_cases h3 : n < n'
      · have : ¬ n = n' := by omega
        simp [h3, this]
      · by_cases h4 : n' < n
        · have : ¬ n = n' := by omega
          simp [h3, h4, this]
        · have : n = n' := by omega
          subst this
          by_cases h5 : s = s'
          · subst h5
            simp [bl_irrefl]
          · cases h6 : Op.bytesLess s s' <;> simp [h5]
theorem cmp_zero {k n : Int} {s : List UInt8} {k' n' : Int} {s' : List UInt8} : compareV k n s k' n' s' = 0 ↔ k = k' ∧ n = n' ∧ s = s' := by
  rw [← compareR_is]
  unfold compareR
  by_cases h : k = k' ∧ n = n' ∧ s = s'
  · simp [h]
  · rw [if_neg h]
    split <;> simp [h]
theorem cmp_neg {k n : Int} {s : List UInt8} {k' n' : Int} {s' : List UInt8} : compareV k n s k' n' s' < 0 ↔ lessV k n s k' n' s' := by
  rw [← compareR_is]
  unfold compareR lessV
  by_cases h : k = k' ∧ n = n' ∧ s = s'
  · obtain ⟨rfl, rfl, rfl⟩ := h
    simp [bl_irrefl]
  · rw [if_neg h]
    split
    · rename_i h'
      simp [h']
    · rename_i h'
      simp [h']
theorem cmp_val (k n : Int) (s : List UInt8) (k' n' : Int) (s' : List UInt8) : compareV k n s k' n' s' = -1 ∨ compareV k n s k' n' s' = 0 ∨ compareV k n s k' n' s' = 1 := by
  rw [← compareR_is]
  unfold compareR
  repeat' split
  all_goals simp
theorem less_tri (k n : Int) (s : List UInt8) (k' n' : Int) (s' : List UInt8) : lessV k n s k' n' s' ∨ (k = k' ∧ n = n' ∧ s = s') ∨ lessV k' n' s' k n s := by
  unfold lessV
  rcases bl_tri s s' with h | h | h
  · by_cases h1 : k = k'
    · by_cases h2 : n = n'
      · simp [h1, h2, h]
      · omega
    · omega
  · by_cases h1 : k = k'
    · by_cases h2 : n = n'
      · simp [h1, h2, h]
      · omega
    · omega
  · by_cases h1 : k = k'
    · by_cases h2 : n = n'
      · simp [h1, h2, h]
      · omega
    · omega
theorem less_trans {k n : Int} {s : List UInt8} {k' n' : Int} {s' : List UInt8} {k2 n2 : Int} {s2 : List UInt8} (h1 : lessV k n s k' n' s') (h2 : lessV k' n' s' k2 n2 s2) : lessV k n s k2 n2 s2 := by
  unfold lessV at *
  rcases h1 with h1 | ⟨rfl, h1 | ⟨rfl, h1⟩⟩ <;> rcases h2 with h2 | ⟨rfl, h2 | ⟨rfl, h2⟩⟩
  · left; omega
  · left; omega
  · left; omega
  · left; omega
  · right; exact ⟨rfl, by left; omega⟩
  · right; exact ⟨rfl, by left; omega⟩
  · left; omega
  · right; exact ⟨rfl, by left; omega⟩
  · right; exact ⟨rfl, .inr ⟨rfl, bl_trans _ _ _ h1 h2⟩⟩
theorem less_asymm {k n : Int} {s : List UInt8} {k' n' : Int} {s' : List UInt8} (h1 : lessV k n s k' n' s') (h2 : lessV k' n' s' k n s) : False := by
  have := less_trans h1 h2
  unfold lessV at this
  rw [bl_irrefl] at this
  simp at this
theorem cmp_swap (k n : Int) (s : List UInt8) (k' n' : Int) (s' : List UInt8) : compareV k n s k' n' s' = -compareV k' n' s' k n s := by
  have a := cmp_val k n s k' n' s'
  have b := cmp_val k' n' s' k n s
  have a0 := @cmp_zero k n s k' n' s'
  have b0 := @cmp_zero k' n' s' k n s
  have a1 := @cmp_neg k n s k' n' s'
  have b1 := @cmp_neg k' n' s' k n s
  rcases less_tri k n s k' n' s' with h | h | h
  · have h1 := a1.2 h
    have h2 : ¬ compareV k' n' s' k n s < 0 := fun h' => less_asymm h (b1.1 h')
    have h3 : ¬ compareV k' n' s' k n s = 0 := fun h' => by
      obtain ⟨rfl, rfl, rfl⟩ := b0.1 h'
      exact less_asymm h h
    omega
  · have h1 := a0.2 h
    have h2 := b0.2 ⟨h.1.symm, h.2.1.symm, h.2.2.symm⟩
    omega
  · have h1 := b1.2 h
    have h2 : ¬ compareV k n s k' n' s' < 0 := fun h' => less_asymm h (a1.1 h')
    have h3 : ¬ compareV k n s k' n' s' = 0 := fun h' => by
      obtain ⟨rfl, rfl, rfl⟩ := a0.1 h'
      exact less_asymm h h
    omega
/-- ahead or alike, then ahead or alike -/
theorem cmp_le_trans {k n : Int} {s : List UInt8} {k' n' : Int} {s' : List UInt8} {k2 n2 : Int} {s2 : List UInt8} (h1 : compareV k n s k' n' s' ≤ 0) (h2 : compareV k' n' s' k2 n2 s2 ≤ 0) : compareV k n s k2 n2 s2 ≤ 0 := by
  by_cases e1 : compareV k n s k' n' s' = 0
  · obtain ⟨rfl, rfl, rfl⟩ := cmp_zero.1 e1
    exact h2
  · by_cases e2 : compareV k' n' s' k2 n2 s2 = 0
    · obtain ⟨rfl, rfl, rfl⟩ := cmp_zero.1 e2
      exact h1
    · have := cmp_neg.2 (less_trans (cmp_neg.1 (by omega : compareV k n s k' n' s' < 0)) (cmp_neg.1 (by omega : compareV k' n' s' k2 n2 s2 < 0)))
      omega
theorem cmp_lt_trans {k n : Int} {s : List UInt8} {k' n' : Int} {s' : List UInt8} {k2 n2 : Int} {s2 : List UInt8} (h1 : compareV k n s k' n' s' < 0) (h2 : compareV k' n' s' k2 n2 s2 ≤ 0) : compareV k n s k2 n2 s2 < 0 := by
  by_cases e2 : compareV k' n' s' k2 n2 s2 = 0
  · obtain ⟨rfl, rfl, rfl⟩ := cmp_zero.1 e2
    exact h1
  · exact cmp_neg.2 (less_trans (cmp_neg.1 h1) (cmp_neg.1 (by omega : compareV k' n' s' k2 n2 s2 < 0)))
end Go.Pv
