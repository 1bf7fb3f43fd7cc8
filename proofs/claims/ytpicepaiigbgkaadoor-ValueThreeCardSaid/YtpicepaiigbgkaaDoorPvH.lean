import Derived.Test.YtpicepaiigbgkaaDoorPvG
set_option maxHeartbeats 4000000
set_option maxRecDepth 200000
set_option linter.unusedSimpArgs false
set_option linter.unusedVariables false
namespace Go.Pv
open Go Go.Proofs Go.RowKit

/-! ### symbols' texts, there and back -/
def hx1 (c : UInt8) : UInt8 := UInt8.ofNat (sAt hexL (iShr .u8 c.toNat 4)).toNat
def hx2 (c : UInt8) : UInt8 := UInt8.ofNat (sAt hexL (iAnd .u8 c.toNat 15)).toNat
theorem oneV_is (c : UInt8) : oneV c.toNat = if c = 34 ∨ c = 92 then [92, c] else if c = 10 then [92, 110] else if c = 9 then [92, 116] else if 32 ≤ c.toNat ∧ c.toNat ≤ 126 then [c] else [92, 120, hx1 c, hx2 c] := by
  have e : ∀ k : UInt8, ((c.toNat : Int) = (k.toNat : Int)) = (c = k) := fun k => propext ⟨fun h => UInt8.toNat_inj.1 (by omega), fun h => by rw [h]⟩
  have e34 := e 34
  have e92 := e 92
  have e10 := e 10
  have e9 := e 9
  unfold oneV hx1 hx2
  have r : UInt8.ofNat (c.toNat : Int).toNat = c := by simp
  rw [r]
  have p1 : ((c.toNat : Int) = 34) = (c = 34) := e34
  have p2 : ((c.toNat : Int) = 92) = (c = 92) := e92
  have p3 : ((c.toNat : Int) = 10) = (c = 10) := e10
  have p4 : ((c.toNat : Int) = 9) = (c = 9) := e9
  have p5 : ((32 : Int) ≤ c.toNat ∧ (c.toNat : Int) ≤ 126) = (32 ≤ c.toNat ∧ c.toNat ≤ 126) := propext ⟨fun h => ⟨by omega, by omega⟩, fun h => ⟨by omega, by omega⟩⟩
  simp only [p1, p2, p3, p4, p5]
theorem hx_fin : ∀ n : Fin 256, digV (hx1 (UInt8.ofNat n.val)).toNat < 16 ∧ digV (hx2 (UInt8.ofNat n.val)).toNat < 16 ∧
    (UInt8.ofNat (iOr .u8 (iShl .u8 (digV (hx1 (UInt8.ofNat n.val)).toNat) 4) (digV (hx2 (UInt8.ofNat n.val)).toNat)).toNat).toNat = n.val ∧
    0 ≤ rdigV (hx1 (UInt8.ofNat n.val)).toNat ∧ 0 ≤ rdigV (hx2 (UInt8.ofNat n.val)).toNat ∧ (hexW [hx1 (UInt8.ofNat n.val), hx2 (UInt8.ofNat n.val)]).toNat = n.val := by decide +kernel
theorem hx_all (c : UInt8) : digV (hx1 c).toNat < 16 ∧ digV (hx2 c).toNat < 16 ∧ UInt8.ofNat (iOr .u8 (iShl .u8 (digV (hx1 c).toNat) 4) (digV (hx2 c).toNat)).toNat = c ∧
    0 ≤ rdigV (hx1 c).toNat ∧ 0 ≤ rdigV (hx2 c).toNat ∧ hexW [hx1 c, hx2 c] = c := by
  have h := hx_fin ⟨c.toNat, c.toNat_lt⟩
  simp only [UInt8.ofNat_toNat] at h
  exact ⟨h.1, h.2.1, UInt8.toNat_inj.1 h.2.2.1, h.2.2.2.1, h.2.2.2.2.1, UInt8.toNat_inj.1 h.2.2.2.2.2⟩
theorem decP_cons (c : UInt8) (t : List UInt8) : decP (c :: t) = if c = 92 then (if escN t = 0 then none else (decP (t.drop (escN t).toNat)).map (UInt8.ofNat (escB t).toNat :: ·)) else (decP t).map (c :: ·) := by rw [decP]
theorem dec_one (c : UInt8) (r : List UInt8) : decP (oneV c.toNat ++ r) = (decP r).map (c :: ·) := by
  rw [oneV_is]
  by_cases h1 : c = 34 ∨ c = 92
  · rw [if_pos h1]
    have a : sAt (c :: r) 0 = c.toNat := by simp
    have q : (c.toNat : Int) = 34 ∨ (c.toNat : Int) = 92 := by rcases h1 with rfl | rfl <;> decide
    have n1 : escN (c :: r) = 1 := by unfold escN; rw [if_neg (by simp), a, if_pos q]
    have n2 : escB (c :: r) = c.toNat := by unfold escB; rw [if_neg (by simp), a, if_pos q]
    simp only [List.cons_append, List.nil_append]
    rw [decP_cons, if_pos rfl, n1, n2]
    simp
  · rw [if_neg h1]
    by_cases h2 : c = 10
    · subst h2
      have a : sAt (110 :: r) 0 = 110 := by simp
      have n1 : escN (110 :: r) = 1 := by unfold escN; rw [if_neg (by simp), a]; simp
      have n2 : escB (110 :: r) = 10 := by unfold escB; rw [if_neg (by simp), a]; simp
      simp only [if_true, List.cons_append, List.nil_append]
      rw [decP_cons, if_pos rfl, n1, n2]
      simp
    · rw [if_neg h2]
      by_cases h3 : c = 9
      · subst h3
        have a : sAt (116 :: r) 0 = 116 := by simp
        have n1 : escN (116 :: r) = 1 := by unfold escN; rw [if_neg (by simp), a]; simp
        have n2 : escB (116 :: r) = 9 := by unfold escB; rw [if_neg (by simp), a]; simp
        simp only [if_true, List.cons_append, List.nil_append]
        rw [decP_cons, if_pos rfl, n1, n2]
        simp
      · rw [if_neg h3]
        by_cases h4 : 32 ≤ c.toNat ∧ c.toNat ≤ 126
        · rw [if_pos h4]
          simp only [List.cons_append, List.nil_append]
          rw [decP_cons, if_neg (fun h => h1 (.inr h))]
        · rw [if_neg h4]
          obtain ⟨g1, g2, g3, _⟩ := hx_all c
          have a0 : sAt (120 :: hx1 c :: hx2 c :: r) 0 = 120 := by simp
          have a1 : sAt (120 :: hx1 c :: hx2 c :: r) 1 = (hx1 c).toNat := by simp
          have a2 : sAt (120 :: hx1 c :: hx2 c :: r) 2 = (hx2 c).toNat := by simp
          have q : (120 : Int) = 120 ∧ 3 ≤ (120 :: hx1 c :: hx2 c :: r).length ∧ digV (hx1 c).toNat < 16 ∧ digV (hx2 c).toNat < 16 := ⟨rfl, by simp, g1, g2⟩
          have n1 : escN (120 :: hx1 c :: hx2 c :: r) = 3 := by unfold escN; rw [if_neg (by simp), a0, a1, a2, if_neg (by omega), if_neg (by omega), if_neg (by omega), if_pos q]
          have n2 : escB (120 :: hx1 c :: hx2 c :: r) = iOr .u8 (iShl .u8 (digV (hx1 c).toNat) 4) (digV (hx2 c).toNat) := by unfold escB; rw [if_neg (by simp), a0, a1, a2, if_neg (by omega), if_neg (by omega), if_neg (by omega), if_pos q]
          simp only [List.cons_append, List.nil_append]
          rw [decP_cons, if_pos rfl, n1, n2, g3]
          simp
theorem symB_cons (c : UInt8) (b : List UInt8) : symB (c :: b) = oneV c.toNat ++ symB b := by simp [symB]
theorem dec_sym : ∀ b : List UInt8, decP (symB b) = some b
  | [] => by simp [symB, decP]
  | c :: b => by rw [symB_cons, dec_one, dec_sym b]; rfl
theorem rS_oneV (c : UInt8) (r : List UInt8) : rS (oneV c.toNat ++ r) = .one c (oneV c.toNat).length := by
  rw [oneV_is]
  by_cases h1 : c = 34 ∨ c = 92
  · rw [if_pos h1]
    rcases h1 with rfl | rfl <;> simp [rS]
  · rw [if_neg h1]
    by_cases h2 : c = 10
    · subst h2; simp [rS]
    · rw [if_neg h2]
      by_cases h3 : c = 9
      · subst h3; simp [rS]
      · rw [if_neg h3]
        have h34 : ¬ c = 34 := fun h => h1 (.inl h)
        have h92 : ¬ c = 92 := fun h => h1 (.inr h)
        by_cases h4 : 32 ≤ c.toNat ∧ c.toNat ≤ 126
        · rw [if_pos h4]
          simp [rS, h34, h92]
        · rw [if_neg h4]
          obtain ⟨_, _, _, g4, g5, g6⟩ := hx_all c
          have g7 : hexW (hx1 c :: hx2 c :: r) = c := g6
          have g8 : hexOk (hx1 c :: hx2 c :: r) = true := by simp [hexOk, g4, g5]
          simp [rS, g7, g8]
theorem rP_sym : ∀ b : List UInt8, rP (symB b ++ [34]) = some (b, [34])
  | [] => by rw [rP_stop] <;> simp [symB, rS]
  | c :: b => by
    have e : symB (c :: b) ++ [34] = oneV c.toNat ++ (symB b ++ [34]) := by rw [symB_cons, List.append_assoc]
    rw [e, rP_one (rS_oneV c _), List.drop_left, rP_sym b]
    rfl
theorem rs_sym (b : List UInt8) : rsO (symV b) = (b, true) := by
  have e : (symV b).drop 1 = symB b ++ [34] := by simp [symV]
  unfold rsO
  rw [if_neg (by simp [symV]), e, rP_sym b]
  rfl
theorem who_sym (b : List UInt8) : whoO (symV b) = none := by
  have e : symV b = 34 :: (symB b ++ [34]) := by simp [symV]
  rw [e]
  unfold whoO
  rw [if_neg (by simp)]
  unfold whoN
  split
  · rfl
  · have : numN (34 :: (symB b ++ [34])) 0 = none := by unfold numN; rw [if_neg (by decide)]
    rw [this]
end Go.Pv
