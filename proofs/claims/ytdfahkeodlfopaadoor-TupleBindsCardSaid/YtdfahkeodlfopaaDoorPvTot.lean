/- Total orders told by a number, and rows in their order. No program in sight. -/
import Derived.Test.YtdfahkeodlfopaaDoorPvXc
set_option linter.unusedSimpArgs false
set_option linter.unusedVariables false
namespace Go.Pv
/-- A comparison that is a total order in which nothing but the same is alike. -/
structure Tot {α : Type} (f : α → α → Int) : Prop where
  val : ∀ a b, f a b = -1 ∨ f a b = 0 ∨ f a b = 1
  zero : ∀ a b, f a b = 0 ↔ a = b
  swap : ∀ a b, f a b = -f b a
  trans : ∀ a b c, f a b < 0 → f b c < 0 → f a c < 0
namespace Tot
variable {α : Type} {f : α → α → Int} (h : Tot f)
include h
theorem self (a : α) : f a a = 0 := (h.zero a a).2 rfl
theorem le_trans {a b c : α} (h1 : f a b ≤ 0) (h2 : f b c ≤ 0) : f a c ≤ 0 := by
  by_cases e1 : f a b = 0
  · rw [(h.zero a b).1 e1]; exact h2
  by_cases e2 : f b c = 0
  · rw [← (h.zero b c).1 e2]; exact h1
  have := h.trans a b c (by omega) (by omega)
  omega
theorem lt_le_trans {a b c : α} (h1 : f a b < 0) (h2 : f b c ≤ 0) : f a c < 0 := by
  by_cases e2 : f b c = 0
  · rw [← (h.zero b c).1 e2]; exact h1
  exact h.trans a b c h1 (by omega)
theorem le_lt_trans {a b c : α} (h1 : f a b ≤ 0) (h2 : f b c < 0) : f a c < 0 := by
  by_cases e1 : f a b = 0
  · rw [(h.zero a b).1 e1]; exact h2
  exact h.trans a b c (by omega) h2
end Tot

/-- Rows in order: the first that differs; else the shorter one ahead. -/
def lex {α : Type} (f : α → α → Int) : List α → List α → Int
  | [], [] => 0
  | [], _ :: _ => -1
  | _ :: _, [] => 1
  | a :: l, b :: m => if f a b = 0 then lex f l m else f a b
theorem lex_tot {α : Type} {f : α → α → Int} (h : Tot f) : Tot (lex f) where
  val := by
    intro a
    induction a with
    | nil => intro b; cases b <;> simp [lex]
    | cons x a ih =>
      intro b
      cases b with
      | nil => simp [lex]
      | cons y b =>
        simp only [lex]
        split
        · exact ih b
        · exact h.val x y
  zero := by
    intro a
    induction a with
    | nil => intro b; cases b <;> simp [lex]
    | cons x a ih =>
      intro b
      cases b with
      | nil => simp [lex]
      | cons y b =>
        simp only [lex, List.cons.injEq]
        split
        · rename_i e
          rw [ih b, h.zero] at *
          simp [e]
        · rename_i e
          rw [h.zero] at e
          constructor
          · intro hh; exact absurd ((h.zero x y).1 hh) e
          · rintro ⟨rfl, _⟩; exact absurd rfl e
  swap := by
    intro a
    induction a with
    | nil => intro b; cases b <;> simp [lex]
    | cons x a ih =>
      intro b
      cases b with
      | nil => simp [lex]
      | cons y b =>
        simp only [lex]
        have := h.swap x y
        by_cases e : f x y = 0
        · have e' : f y x = 0 := by omega
          rw [if_pos e, if_pos e']
          exact ih b
        · have e' : ¬ f y x = 0 := by omega
          rw [if_neg e, if_neg e']
          exact this
  trans := by
    intro a
    induction a with
    | nil =>
      intro b c h1 h2
      cases c with
      | nil => cases b <;> simp [lex] at h1 h2
      | cons z c => simp [lex]
    | cons x a ih =>
      intro b c h1 h2
      cases b with
      | nil => simp [lex] at h1
      | cons y b =>
        cases c with
        | nil => simp [lex] at h2
        | cons z c =>
          simp only [lex] at h1 h2 ⊢
          by_cases e1 : f x y = 0
          · rw [if_pos e1] at h1
            have := (h.zero x y).1 e1
            subst this
            by_cases e2 : f x z = 0
            · rw [if_pos e2] at h2 ⊢
              exact ih b c h1 h2
            · rw [if_neg e2] at h2 ⊢
              exact h2
          · rw [if_neg e1] at h1
            by_cases e2 : f y z = 0
            · have := (h.zero y z).1 e2
              subst this
              rw [if_neg e1]
              exact h1
            · rw [if_neg e2] at h2
              have := h.trans x y z h1 h2
              rw [if_neg (by omega)]
              exact this
theorem lex_pre {α : Type} {f : α → α → Int} (h : Tot f) (a b : List α) : lex f a (a ++ b) ≤ 0 := by
  induction a with
  | nil => cases b <;> simp [lex]
  | cons x a ih =>
    simp only [List.cons_append, lex]
    rw [if_pos (h.self x)]
    exact ih
end Go.Pv
