import Derived.Test.YtpicepaiigbgkaaDoorPvF
set_option maxHeartbeats 4000000
set_option maxRecDepth 200000
set_option linter.unusedSimpArgs false
set_option linter.unusedVariables false
namespace Go.Pv
open Go Go.Proofs Go.RowKit

/-! ### numbers' texts, there and back -/
theorem numN_app (c : UInt8) : ∀ (l : List UInt8) (a : Nat), numN (l ++ [c]) a = (numN l a).bind fun n => if 48 ≤ c.toNat ∧ c.toNat ≤ 57 then some (n * 10 + (c.toNat - 48)) else none
  | [], a => by simp [numN]
  | d :: l, a => by
    simp only [List.cons_append, numN]
    split
    · exact numN_app c l _
    · rfl
theorem digsN_step {u : Nat} (h : ¬ u < 10) : digsN u = digsN (u / 10) ++ [UInt8.ofNat (48 + u % 10)] := by
  conv => lhs; unfold digsN
  rw [dif_neg h]
theorem digsN_small {u : Nat} (h : u < 10) : digsN u = [UInt8.ofNat (48 + u)] := by
  unfold digsN
  rw [dif_pos h]
theorem dig_nat {d : Nat} (h : d < 10) : (UInt8.ofNat (48 + d)).toNat = 48 + d := by
  simp
  omega
theorem numN_digs : ∀ (k u : Nat), u < k → numN (digsN u) 0 = some u
  | 0, u, h => by omega
  | k + 1, u, h => by
    by_cases hu : u < 10
    · rw [digsN_small hu]
      simp only [numN, dig_nat hu]
      rw [if_pos (by omega)]
      simp
    · have hd : u % 10 < 10 := Nat.mod_lt _ (by omega)
      rw [digsN_step hu, numN_app, numN_digs k (u / 10) (by omega)]
      simp only [Option.bind_some, dig_nat hd]
      rw [if_pos (by omega)]
      congr 1
      omega
theorem digsN_dig : ∀ (k u : Nat), u < k → ∀ c ∈ digsN u, 48 ≤ c.toNat ∧ c.toNat ≤ 57
  | 0, u, h => by omega
  | k + 1, u, h => by
    intro c hc
    by_cases hu : u < 10
    · rw [digsN_small hu] at hc
      simp only [List.mem_singleton] at hc
      subst hc
      have := dig_nat hu
      omega
    · have hd : u % 10 < 10 := Nat.mod_lt _ (by omega)
      rw [digsN_step hu] at hc
      rcases List.mem_append.1 hc with hc | hc
      · exact digsN_dig k (u / 10) (by omega) c hc
      · simp only [List.mem_singleton] at hc
        subst hc
        have := dig_nat hd
        omega
theorem digsN_ne (u : Nat) : digsN u ≠ [] := by
  by_cases hu : u < 10
  · rw [digsN_small hu]; simp
  · rw [digsN_step hu]; simp
theorem digsN_head (u : Nat) : ∃ c t, digsN u = c :: t ∧ 48 ≤ c.toNat ∧ c.toNat ≤ 57 := by
  cases h : digsN u with
  | nil => exact absurd h (digsN_ne u)
  | cons c t =>
    have := digsN_dig (u + 1) u (by omega) c (by rw [h]; simp)
    exact ⟨c, t, rfl, this⟩
theorem decDigits_digsN : ∀ (k u : Nat), u < k → Lib.decDigits u = digsN u
  | 0, u, h => by omega
  | k + 1, u, h => by
    by_cases hu : u < 10
    · rw [digsN_small hu, Lib.decDigits_one hu]
    · rw [digsN_step hu, Lib.decDigits, dif_neg hu, decDigits_digsN k (u / 10) (by omega)]
theorem itoaV_eq (n : Int) : itoaV n = intV n := by
  unfold itoaV Lib.itoa intV digsV
  by_cases h : n < 0
  · rw [if_pos h, if_pos h, decDigits_digsN (n.natAbs + 1) _ (by omega)]
    congr 2
    omega
  · rw [if_neg h, if_neg h, decDigits_digsN (n.toNat + 1) _ (by omega)]
theorem pM_app (M : Nat) (c : UInt8) : ∀ (l : List UInt8) (a n : Nat), Lib.parseUintM M a l = .ok n → Lib.parseUintM M a (l ++ [c]) = Lib.parseUintM M n [c]
  | [], a, n, h => by simp [Lib.parseUintM] at h; subst h; rfl
  | d :: l, a, n, h => by
    simp only [List.cons_append, Lib.parseUintM] at h ⊢
    split at h
    · split at h
      · cases h
      · split at h
        · cases h
        · rename_i h1 h2 h3
          rw [if_pos h1, if_neg h2, if_neg h3]
          exact pM_app M c l _ n h
    · cases h
theorem pM_digs : ∀ (k u : Nat), u < k → u ≤ 18446744073709551615 → Lib.parseUintM 18446744073709551615 0 (digsN u) = .ok u
  | 0, u, h, _ => by omega
  | k + 1, u, h, hm => by
    by_cases hu : u < 10
    · rw [digsN_small hu]
      simp only [Lib.parseUintM, dig_nat hu]
      rw [if_pos (by omega), if_neg (by omega), if_neg (by omega)]
      congr 1
      omega
    · have hd : u % 10 < 10 := Nat.mod_lt _ (by omega)
      rw [digsN_step hu, pM_app _ _ _ _ (u / 10) (pM_digs k (u / 10) (by omega) (by omega))]
      simp only [Lib.parseUintM, dig_nat hd]
      rw [if_pos (by omega), if_neg (by omega), if_neg (by omega)]
      congr 1
      omega
theorem pInt {n : Int} (h : -9223372036854775808 ≤ n ∧ n ≤ 9223372036854775807) : Lib.parseIntB 64 (intV n) = .ok n := by
  unfold intV digsV
  by_cases hn : n < 0
  · rw [if_pos hn]
    have hp := pM_digs ((-n).toNat + 1) (-n).toNat (by omega) (by omega)
    have hne := digsN_ne (-n).toNat
    have e : (2 ^ 64 - 1 : Nat) = 18446744073709551615 := by decide
    have e2 : (2 ^ (64 - 1) : Nat) = 9223372036854775808 := by decide
    have e3 : (45 : UInt8).toNat = 45 := rfl
    simp only [Lib.parseIntB, Lib.parseUintB, e3, e, e2, or_true, if_true, if_neg hne, hp]
    rw [if_neg (by simp), if_neg (by simp; omega)]
    congr 1
    simp
    omega
  · rw [if_neg hn]
    have hp := pM_digs (n.toNat + 1) n.toNat (by omega) (by omega)
    obtain ⟨c, t, ht, hc1, hc2⟩ := digsN_head n.toNat
    have e : (2 ^ 64 - 1 : Nat) = 18446744073709551615 := by decide
    have e2 : (2 ^ (64 - 1) : Nat) = 9223372036854775808 := by decide
    rw [ht] at hp ⊢
    simp only [Lib.parseIntB, Lib.parseUintB]
    rw [if_neg (by omega : ¬ (c.toNat = 43 ∨ c.toNat = 45)), if_neg (by simp), e, hp]
    simp only [e2]
    rw [if_neg (by omega), if_neg (by omega), if_neg (by omega)]
    congr 1
    omega
theorem pOk_int {n : Int} (h : -9223372036854775808 ≤ n ∧ n ≤ 9223372036854775807) : pOk (intV n) = true := by unfold pOk; rw [pInt h]
theorem pVal_int {n : Int} (h : -9223372036854775808 ≤ n ∧ n ≤ 9223372036854775807) : pVal (intV n) = n := by unfold pVal; rw [pInt h]
theorem who_int {n : Int} (h : -9223372036854775808 ≤ n ∧ n ≤ 9223372036854775807) : whoO (intV n) = some n := by
  unfold intV digsV whoO
  by_cases hn : n < 0
  · rw [if_pos hn]
    have hl := digsN_len 18 (-n).toNat (by omega)
    have hp := numN_digs ((-n).toNat + 1) (-n).toNat (by omega)
    have hne := digsN_ne (-n).toNat
    simp only [List.head?_cons, if_true, List.drop_succ_cons, List.drop_zero, whoN]
    rw [if_neg (by rintro (h | h); exact hne h; omega), hp]
    simp only []
    rw [if_neg (by simp; omega)]
    congr 1
    simp
    omega
  · rw [if_neg hn]
    have hl := digsN_len 18 n.toNat (by omega)
    have hp := numN_digs (n.toNat + 1) n.toNat (by omega)
    have hne := digsN_ne n.toNat
    obtain ⟨c, t, ht, hc1, hc2⟩ := digsN_head n.toNat
    have hh : ¬ (digsN n.toNat).head? = some 45 := by
      rw [ht]
      simp
      intro h
      subst h
      revert hc1
      decide
    rw [if_neg hh]
    unfold whoN
    rw [if_neg (by rintro (h | h); exact hne h; omega), hp]
    simp only []
    rw [if_neg (by simp; omega)]
    congr 1
    simp
    omega
theorem pre_int (n : Int) : isPre (intV n) [34] = false := by
  unfold intV digsV isPre
  by_cases hn : n < 0
  · rw [if_pos hn]; simp
  · rw [if_neg hn]
    obtain ⟨c, t, ht, hc1, hc2⟩ := digsN_head n.toNat
    rw [ht]
    simp
    intro h
    subst h
    revert hc1
    decide
end Go.Pv
