import Derived.Test.YtpicepaiigbgkaaDoorPvD
set_option maxHeartbeats 4000000
set_option maxRecDepth 200000
set_option linter.unusedSimpArgs false
set_option linter.unusedVariables false
namespace Go.Pv
open Go Go.Proofs Go.RowKit

/-! ### pedigreeref01.whole -/
def numN : List UInt8 → Nat → Option Nat
  | [], a => some a
  | c :: l, a => if 48 ≤ c.toNat ∧ c.toNat ≤ 57 then numN l (a * 10 + (c.toNat - 48)) else none
def okNum (s : List UInt8) : Bool := (numN s 0).isSome
def numV (s : List UInt8) : Int := (((numN s 0).getD 0 : Nat) : Int)
theorem numN_lt : ∀ (l : List UInt8) (a k x : Nat), numN l a = some x → a < 10 ^ k → x < 10 ^ (k + l.length)
  | [], a, k, x, h, ha => by simp [numN] at h; subst h; simpa using ha
  | c :: l, a, k, x, h, ha => by
    unfold numN at h
    split at h
    · have := numN_lt l _ (k + 1) x h (by rw [Nat.pow_succ]; omega)
      simp only [List.length_cons]
      have e : k + (l.length + 1) = k + 1 + l.length := by omega
      rw [e]
      exact this
    · cases h
def d_whole : List PV → Store → Option (List UInt8 × Bool × Int × Int × Store)
  | [.str s, .bool m, .int .u64 n, .int .i64 i], σ => some (s, m, n, i, σ)
  | _, _ => none
def r_whole : List UInt8 × Bool × Int × Int × Store → Tr (PExit × List (Nat × PV) × Store)
  | (s, m, n, i, σ) => Tr.chk (iEq n 0) (Tr.chk (iEq i 0) (Tr.chk (iLe (sLen s) 19) (.ite (okNum s) (.ret (.exit 0, [(4, .bool m), (5, .int .u64 (numV s))], σ)) (.ret (.ret, [(2, .int .i64 0), (3, .bool false)], σ)))))
def L_whole : LpsT := fun r fr σ => if r = 8 then oracle 75 [0, 4, 5, 6] d_whole r_whole fr σ else .fail
noncomputable def c_whole : Code := loopN Tryd.f35 0
theorem loop_whole (gl : Nat → Option Obj) : ∀ vs σ a e out σ', d_whole vs σ = some a → (r_whole a).run = some (e, out, σ') → LDoes Tryd.prog gl c_whole (mk 75 ([0, 4, 5, 6].zip vs)) σ e (mk 75 out) σ' := by
  intro vs st a e out σ' hd hr
  unfold d_whole at hd
  split at hd
  · rename_i s m n i
    injection hd with hd
    subst hd
    obtain ⟨h1, q1⟩ := Tr.chk_some hr
    obtain ⟨h2, q2⟩ := Tr.chk_some q1
    obtain ⟨h3, q3⟩ := Tr.chk_some q2
    clear hr q1 q2
    simp at h1 h2 h3
    subst h1 h2
    have key : ∀ (k : Nat) (i : Int) (n : Nat), 0 ≤ i → i + k = s.length → n < 10 ^ i.toNat → numN (s.drop i.toNat) n = numN s 0 →
       LDoes Tryd.prog gl c_whole (mk 75 ([0, 4, 5, 6].zip [.str s, .bool m, .int .u64 (n : Int), .int .i64 i])) st e (mk 75 out) σ' := by
      intro k
      induction k with
      | zero =>
        intro i n h0 hi hn hf
        have e1 : s.drop i.toNat = [] := by apply List.drop_eq_nil_of_le; omega
        rw [e1] at hf
        simp [numN] at hf
        simp [okNum, numV, ← hf] at q3
        obtain ⟨rfl, rfl, rfl⟩ := q3
        refine LDoes.round tbT_ok (G := ofL []) gamOk_nil noMixed (L := fun _ _ _ => .fail) (loopOk_none (by kernel_rfl)) (by kernel_rfl) ?_
        refine Tr.all_as (Tr.ite (iLt i (sLen s))
            (Tr.ite (okIdx s i)
              (Tr.ite (iLt (sAt s i) 48)
                (Tr.ret
                  (PExit.ret, [3, 2, 39, 34, 27],
                    [PV.str s, PV.top, PV.int IntKind.i64 0, PV.bool false, PV.bool m, PV.int IntKind.u64 (Int.ofNat n), PV.int IntKind.i64 i, PV.top, PV.top, PV.top, PV.top, PV.top, PV.top, PV.top, PV.top,
                      PV.top, PV.top, PV.top, PV.top, PV.top, PV.top, PV.top, PV.top, PV.top, PV.int IntKind.i64 i, PV.str s, PV.int IntKind.i64 (sLen s), PV.bool true, PV.top, PV.top, PV.str s,
                      PV.int IntKind.i64 i, PV.int IntKind.u8 (sAt s i), PV.bool (iLt (sAt s i) 48), PV.bool true, PV.tup [], PV.tup [], PV.tup [], PV.tup [], PV.bool true, PV.top, PV.top, PV.top, PV.top,
                      PV.top, PV.top, PV.top, PV.top, PV.top, PV.top, PV.top, PV.top, PV.top, PV.top, PV.top, PV.top, PV.top, PV.top, PV.top, PV.top, PV.top, PV.top, PV.top, PV.top, PV.top, PV.top, PV.top,
                      PV.top, PV.top, PV.top, PV.top, PV.top, PV.top, PV.top, PV.top],
                    st))
                (Tr.ite (okIdx s i)
                  (Tr.ite (iLt 57 (sAt s i))
                    (Tr.ret
                      (PExit.ret, [3, 2, 39, 34, 27],
                        [PV.str s, PV.top, PV.int IntKind.i64 0, PV.bool false, PV.bool m, PV.int IntKind.u64 (Int.ofNat n), PV.int IntKind.i64 i, PV.top, PV.top, PV.top, PV.top, PV.top, PV.top, PV.top, PV.top,
                          PV.top, PV.top, PV.top, PV.top, PV.top, PV.top, PV.top, PV.top, PV.top, PV.int IntKind.i64 i, PV.str s, PV.int IntKind.i64 (sLen s), PV.bool true, PV.top, PV.top, PV.str s,
                          PV.int IntKind.i64 i, PV.int IntKind.u8 (sAt s i), PV.bool (iLt (sAt s i) 48), PV.bool false, PV.str s, PV.int IntKind.i64 i, PV.int IntKind.u8 (sAt s i), PV.bool (iLt 57 (sAt s i)),
                          PV.bool true, PV.top, PV.top, PV.top, PV.top, PV.top, PV.top, PV.top, PV.top, PV.top, PV.top, PV.top, PV.top, PV.top, PV.top, PV.top, PV.top, PV.top, PV.top, PV.top, PV.top, PV.top,
                          PV.top, PV.top, PV.top, PV.top, PV.top, PV.top, PV.top, PV.top, PV.top, PV.top, PV.top, PV.top, PV.top, PV.top],
                        st))
                    (Tr.ite (okIdx s i)
                      (Tr.ret
                        (PExit.normal, [39, 34, 27],
                          [PV.str s, PV.top, PV.top, PV.top, PV.bool m, PV.int IntKind.u64 (iAdd IntKind.u64 (iMul IntKind.u64 (Int.ofNat n) 10) (iWrap IntKind.u64 (iSub IntKind.u8 (sAt s i) 48))),
                            PV.int IntKind.i64 (iAdd IntKind.i64 i 1), PV.top, PV.top, PV.top, PV.top, PV.top, PV.top, PV.top, PV.top, PV.top, PV.top, PV.top, PV.top, PV.top, PV.top, PV.top, PV.top, PV.top,
                            PV.int IntKind.i64 i, PV.str s, PV.int IntKind.i64 (sLen s), PV.bool true, PV.int IntKind.i64 i, PV.int IntKind.i64 (iAdd IntKind.i64 i 1), PV.str s, PV.int IntKind.i64 i,
                            PV.int IntKind.u8 (sAt s i), PV.bool (iLt (sAt s i) 48), PV.bool false, PV.str s, PV.int IntKind.i64 i, PV.int IntKind.u8 (sAt s i), PV.bool (iLt 57 (sAt s i)), PV.bool false,
                            PV.int IntKind.u64 (Int.ofNat n), PV.int IntKind.u64 (iMul IntKind.u64 (Int.ofNat n) 10), PV.str s, PV.int IntKind.i64 i, PV.int IntKind.u8 (sAt s i),
                            PV.int IntKind.u8 (iSub IntKind.u8 (sAt s i) 48), PV.int IntKind.u64 (iWrap IntKind.u64 (iSub IntKind.u8 (sAt s i) 48)),
                            PV.int IntKind.u64 (iAdd IntKind.u64 (iMul IntKind.u64 (Int.ofNat n) 10) (iWrap IntKind.u64 (iSub IntKind.u8 (sAt s i) 48))), PV.top, PV.top, PV.top, PV.top, PV.top, PV.top, PV.top,
                            PV.top, PV.top, PV.top, PV.top, PV.top, PV.top, PV.top, PV.top, PV.top, PV.top, PV.top, PV.top, PV.top, PV.top, PV.top, PV.top, PV.top, PV.top, PV.top, PV.top],
                          st))
                      Tr.fail))
                  Tr.fail))
              Tr.fail)
            (Tr.ret
              (PExit.exit 0, [27],
                [PV.str s, PV.top, PV.top, PV.top, PV.bool m, PV.int IntKind.u64 (Int.ofNat n), PV.int IntKind.i64 i, PV.top, PV.top, PV.top, PV.top, PV.top, PV.top, PV.top, PV.top, PV.top, PV.top, PV.top,
                  PV.top, PV.top, PV.top, PV.top, PV.top, PV.top, PV.int IntKind.i64 i, PV.str s, PV.int IntKind.i64 (sLen s), PV.bool false, PV.top, PV.top, PV.top, PV.top, PV.top, PV.top, PV.top, PV.top,
                  PV.top, PV.top, PV.top, PV.top, PV.top, PV.top, PV.top, PV.top, PV.top, PV.top, PV.top, PV.top, PV.top, PV.top, PV.top, PV.top, PV.top, PV.top, PV.top, PV.top, PV.top, PV.top, PV.top, PV.top,
                  PV.top, PV.top, PV.top, PV.top, PV.top, PV.top, PV.top, PV.top, PV.top, PV.top, PV.top, PV.top, PV.top, PV.top, PV.top],
                st))) (by kernel_rfl) ?_
        exact Tr.all_f (by simp; omega) ⟨rfl, by simp [Weak, mk, mkFrom, look], rfl⟩
      | succ k ih =>
        intro i n h0 hi hn hf
        obtain ⟨v, hv⟩ := get_lt (l := s) (i := i.toNat) (by omega)
        rw [drop_of_get hv, numN] at hf
        have hv8 := v.toNat_lt
        have e2 : (i + 1).toNat = i.toNat + 1 := by omega
        have hpow : 10 ^ (i.toNat + 1) ≤ 10 ^ 19 := Nat.pow_le_pow_right (by omega) (by omega)
        rw [Nat.pow_succ] at hpow
        refine LDoes.round tbT_ok (G := ofL []) gamOk_nil noMixed (L := fun _ _ _ => .fail) (loopOk_none (by kernel_rfl)) (by kernel_rfl) ?_
        refine Tr.all_as (Tr.ite (iLt i (sLen s))
            (Tr.ite (okIdx s i)
              (Tr.ite (iLt (sAt s i) 48)
                (Tr.ret
                  (PExit.ret, [3, 2, 39, 34, 27],
                    [PV.str s, PV.top, PV.int IntKind.i64 0, PV.bool false, PV.bool m, PV.int IntKind.u64 (Int.ofNat n), PV.int IntKind.i64 i, PV.top, PV.top, PV.top, PV.top, PV.top, PV.top, PV.top, PV.top,
                      PV.top, PV.top, PV.top, PV.top, PV.top, PV.top, PV.top, PV.top, PV.top, PV.int IntKind.i64 i, PV.str s, PV.int IntKind.i64 (sLen s), PV.bool true, PV.top, PV.top, PV.str s,
                      PV.int IntKind.i64 i, PV.int IntKind.u8 (sAt s i), PV.bool (iLt (sAt s i) 48), PV.bool true, PV.tup [], PV.tup [], PV.tup [], PV.tup [], PV.bool true, PV.top, PV.top, PV.top, PV.top,
                      PV.top, PV.top, PV.top, PV.top, PV.top, PV.top, PV.top, PV.top, PV.top, PV.top, PV.top, PV.top, PV.top, PV.top, PV.top, PV.top, PV.top, PV.top, PV.top, PV.top, PV.top, PV.top, PV.top,
                      PV.top, PV.top, PV.top, PV.top, PV.top, PV.top, PV.top, PV.top],
                    st))
                (Tr.ite (okIdx s i)
                  (Tr.ite (iLt 57 (sAt s i))
                    (Tr.ret
                      (PExit.ret, [3, 2, 39, 34, 27],
                        [PV.str s, PV.top, PV.int IntKind.i64 0, PV.bool false, PV.bool m, PV.int IntKind.u64 (Int.ofNat n), PV.int IntKind.i64 i, PV.top, PV.top, PV.top, PV.top, PV.top, PV.top, PV.top, PV.top,
                          PV.top, PV.top, PV.top, PV.top, PV.top, PV.top, PV.top, PV.top, PV.top, PV.int IntKind.i64 i, PV.str s, PV.int IntKind.i64 (sLen s), PV.bool true, PV.top, PV.top, PV.str s,
                          PV.int IntKind.i64 i, PV.int IntKind.u8 (sAt s i), PV.bool (iLt (sAt s i) 48), PV.bool false, PV.str s, PV.int IntKind.i64 i, PV.int IntKind.u8 (sAt s i), PV.bool (iLt 57 (sAt s i)),
                          PV.bool true, PV.top, PV.top, PV.top, PV.top, PV.top, PV.top, PV.top, PV.top, PV.top, PV.top, PV.top, PV.top, PV.top, PV.top, PV.top, PV.top, PV.top, PV.top, PV.top, PV.top, PV.top,
                          PV.top, PV.top, PV.top, PV.top, PV.top, PV.top, PV.top, PV.top, PV.top, PV.top, PV.top, PV.top, PV.top, PV.top],
                        st))
                    (Tr.ite (okIdx s i)
                      (Tr.ret
                        (PExit.normal, [39, 34, 27],
                          [PV.str s, PV.top, PV.top, PV.top, PV.bool m, PV.int IntKind.u64 (iAdd IntKind.u64 (iMul IntKind.u64 (Int.ofNat n) 10) (iWrap IntKind.u64 (iSub IntKind.u8 (sAt s i) 48))),
                            PV.int IntKind.i64 (iAdd IntKind.i64 i 1), PV.top, PV.top, PV.top, PV.top, PV.top, PV.top, PV.top, PV.top, PV.top, PV.top, PV.top, PV.top, PV.top, PV.top, PV.top, PV.top, PV.top,
                            PV.int IntKind.i64 i, PV.str s, PV.int IntKind.i64 (sLen s), PV.bool true, PV.int IntKind.i64 i, PV.int IntKind.i64 (iAdd IntKind.i64 i 1), PV.str s, PV.int IntKind.i64 i,
                            PV.int IntKind.u8 (sAt s i), PV.bool (iLt (sAt s i) 48), PV.bool false, PV.str s, PV.int IntKind.i64 i, PV.int IntKind.u8 (sAt s i), PV.bool (iLt 57 (sAt s i)), PV.bool false,
                            PV.int IntKind.u64 (Int.ofNat n), PV.int IntKind.u64 (iMul IntKind.u64 (Int.ofNat n) 10), PV.str s, PV.int IntKind.i64 i, PV.int IntKind.u8 (sAt s i),
                            PV.int IntKind.u8 (iSub IntKind.u8 (sAt s i) 48), PV.int IntKind.u64 (iWrap IntKind.u64 (iSub IntKind.u8 (sAt s i) 48)),
                            PV.int IntKind.u64 (iAdd IntKind.u64 (iMul IntKind.u64 (Int.ofNat n) 10) (iWrap IntKind.u64 (iSub IntKind.u8 (sAt s i) 48))), PV.top, PV.top, PV.top, PV.top, PV.top, PV.top, PV.top,
                            PV.top, PV.top, PV.top, PV.top, PV.top, PV.top, PV.top, PV.top, PV.top, PV.top, PV.top, PV.top, PV.top, PV.top, PV.top, PV.top, PV.top, PV.top, PV.top, PV.top],
                          st))
                      Tr.fail))
                  Tr.fail))
              Tr.fail)
            (Tr.ret
              (PExit.exit 0, [27],
                [PV.str s, PV.top, PV.top, PV.top, PV.bool m, PV.int IntKind.u64 (Int.ofNat n), PV.int IntKind.i64 i, PV.top, PV.top, PV.top, PV.top, PV.top, PV.top, PV.top, PV.top, PV.top, PV.top, PV.top,
                  PV.top, PV.top, PV.top, PV.top, PV.top, PV.top, PV.int IntKind.i64 i, PV.str s, PV.int IntKind.i64 (sLen s), PV.bool false, PV.top, PV.top, PV.top, PV.top, PV.top, PV.top, PV.top, PV.top,
                  PV.top, PV.top, PV.top, PV.top, PV.top, PV.top, PV.top, PV.top, PV.top, PV.top, PV.top, PV.top, PV.top, PV.top, PV.top, PV.top, PV.top, PV.top, PV.top, PV.top, PV.top, PV.top, PV.top, PV.top,
                  PV.top, PV.top, PV.top, PV.top, PV.top, PV.top, PV.top, PV.top, PV.top, PV.top, PV.top, PV.top, PV.top, PV.top, PV.top],
                st))) (by kernel_rfl) ?_
        rw [sAt_get hv]
        have hi1 := okIdx_get h0 hv
        refine Tr.all_t (by simp; omega) <| Tr.all_t hi1 ?_
        by_cases hc : 48 ≤ v.toNat ∧ v.toNat ≤ 57
        · rw [if_pos hc] at hf
          have w1 : iSub .u8 (v.toNat : Int) 48 = v.toNat - 48 := by unfold iSub; rw [wrap_u8 (by omega)]
          have w2 : iWrap .u64 (v.toNat - 48 : Int) = v.toNat - 48 := wrap_u64 (by omega)
          have w3 : iMul .u64 (Int.ofNat n) 10 = n * 10 := by unfold iMul; rw [wrap_u64 (by simp; omega)]; rfl
          have w4 : iAdd .u64 (n * 10 : Int) (v.toNat - 48) = n * 10 + (v.toNat - 48) := by unfold iAdd; rw [wrap_u64 (by omega)]
          have w5 : iAdd .i64 i 1 = i + 1 := wrap_i64 (by omega)
          have w6 : ((n * 10 + (v.toNat - 48) : Nat) : Int) = (n : Int) * 10 + (v.toNat - 48) := by omega
          refine Tr.all_f (by simp; omega) <| Tr.all_t hi1 <| Tr.all_f (by simp; omega) <| Tr.all_t hi1 ?_
          rw [w1, w2, w3, w4, w5]
          refine LDoes.into ?_ (ih (i + 1) (n * 10 + (v.toNat - 48)) (by omega) (by omega) (by rw [e2, Nat.pow_succ]; omega) (by rw [e2]; exact hf))
          rw [w6]
          simp [Weak, mk, mkFrom, look]
        · rw [if_neg hc] at hf
          simp [okNum, numV, ← hf] at q3
          obtain ⟨rfl, rfl, rfl⟩ := q3
          by_cases hc1 : v.toNat < 48
          · exact Tr.all_t (by simp; omega) ⟨rfl, by simp [Weak, mk, mkFrom, look], rfl⟩
          · refine Tr.all_f (by simp; omega) <| Tr.all_t hi1 <| Tr.all_t (by simp; omega) ⟨rfl, by simp [Weak, mk, mkFrom, look], rfl⟩
    exact key s.length 0 0 (by omega) (by omega) (by simp) (by simp)
  · cases hd
def whoN (m : Bool) (t : List UInt8) : Option Int :=
  if t = [] ∨ 19 < t.length then none
  else match numN t 0 with
    | none => none
    | some n => if (m = true ∧ 9223372036854775808 < n) ∨ (m = false ∧ 9223372036854775807 < n) then none else some (if m then -(n : Int) else n)
def whoO (s : List UInt8) : Option Int := if s.head? = some 45 then whoN true (s.drop 1) else whoN false s
def okWho (s : List UInt8) : Bool := (whoO s).isSome
def whoV (s : List UInt8) : Int := (whoO s).getD 0
def F_whole : List PV → Tr PV
  | [.str s] => Tr.chk (okLen s) (.ret (.tup [.int .i64 (whoV s), .bool (okWho s)]))
  | _ => .fail
theorem sim_whole (gl : Nat → Option Obj) : SimP Tryd.prog gl 35 fun args => (F_whole args).run := by
  refine SimP.of_tree (G := ofL []) (L := L_whole) tbT_ok gamOk_nil noMixed Tryd.func35 rfl (by rfl) (by kernel_rfl) (loopOk_one (r := 8) (c1 := c_whole) (by kernel_rfl) ?_) ?_
  · intro fr σ e fr' σ' hh
    simp only [lps, L_whole, if_true] at hh
    exact oracle_ok (loop_whole gl) fr σ e fr' σ' hh
  intro args x h hr
  unfold F_whole at h
  split at h
  · rename_i s
    obtain ⟨h1, h2⟩ := Tr.chk_some h
    simp at h1
    cases h2
    refine Tr.run_as (Tr.ite (sNe s [])
        (Tr.ite (okIdx s 0)
          (Tr.ite (iEq (sAt s 0) 45)
            (Tr.ite (okSub (okPos 1) true (nNat 1) (nLen s) (nLen s))
              (Tr.ite (sEq (sSub s (nNat 1) (nLen s)) []) (Tr.ret (PV.tup [PV.int IntKind.i64 0, PV.bool false]))
                (Tr.ite (iLt 19 (sLen (sSub s (nNat 1) (nLen s)))) (Tr.ret (PV.tup [PV.int IntKind.i64 0, PV.bool false]))
                  (Tr.ite (iEq 0 0)
                    (Tr.ite (iEq 0 0)
                      (Tr.ite (iLe (sLen (sSub s (nNat 1) (nLen s))) 19)
                        (Tr.ite (okNum (sSub s (nNat 1) (nLen s)))
                          (Tr.ite (iEq (sAt s 0) 45)
                            (Tr.ite (iLt 9223372036854775808 (numV (sSub s (nNat 1) (nLen s)))) (Tr.ret (PV.tup [PV.int IntKind.i64 0, PV.bool false]))
                              (Tr.ite (bNot (iEq (sAt s 0) 45))
                                (Tr.ite (iLt 9223372036854775807 (numV (sSub s (nNat 1) (nLen s)))) (Tr.ret (PV.tup [PV.int IntKind.i64 0, PV.bool false]))
                                  (Tr.ite (iEq (sAt s 0) 45)
                                    (Tr.ite (iLt 0 (numV (sSub s (nNat 1) (nLen s))))
                                      (Tr.ret
                                        (PV.tup [PV.int IntKind.i64 (iSub IntKind.i64 (iSub IntKind.i64 0 (iWrap IntKind.i64 (iSub IntKind.u64 (numV (sSub s (nNat 1) (nLen s))) 1))) 1), PV.bool true]))
                                      (Tr.ret (PV.tup [PV.int IntKind.i64 (iWrap IntKind.i64 (numV (sSub s (nNat 1) (nLen s)))), PV.bool true])))
                                    (Tr.ret (PV.tup [PV.int IntKind.i64 (iWrap IntKind.i64 (numV (sSub s (nNat 1) (nLen s)))), PV.bool true]))))
                                (Tr.ite (iEq (sAt s 0) 45)
                                  (Tr.ite (iLt 0 (numV (sSub s (nNat 1) (nLen s))))
                                    (Tr.ret (PV.tup [PV.int IntKind.i64 (iSub IntKind.i64 (iSub IntKind.i64 0 (iWrap IntKind.i64 (iSub IntKind.u64 (numV (sSub s (nNat 1) (nLen s))) 1))) 1), PV.bool true]))
                                    (Tr.ret (PV.tup [PV.int IntKind.i64 (iWrap IntKind.i64 (numV (sSub s (nNat 1) (nLen s)))), PV.bool true])))
                                  (Tr.ret (PV.tup [PV.int IntKind.i64 (iWrap IntKind.i64 (numV (sSub s (nNat 1) (nLen s)))), PV.bool true])))))
                            (Tr.ite (bNot (iEq (sAt s 0) 45))
                              (Tr.ite (iLt 9223372036854775807 (numV (sSub s (nNat 1) (nLen s)))) (Tr.ret (PV.tup [PV.int IntKind.i64 0, PV.bool false]))
                                (Tr.ite (iEq (sAt s 0) 45)
                                  (Tr.ite (iLt 0 (numV (sSub s (nNat 1) (nLen s))))
                                    (Tr.ret (PV.tup [PV.int IntKind.i64 (iSub IntKind.i64 (iSub IntKind.i64 0 (iWrap IntKind.i64 (iSub IntKind.u64 (numV (sSub s (nNat 1) (nLen s))) 1))) 1), PV.bool true]))
                                    (Tr.ret (PV.tup [PV.int IntKind.i64 (iWrap IntKind.i64 (numV (sSub s (nNat 1) (nLen s)))), PV.bool true])))
                                  (Tr.ret (PV.tup [PV.int IntKind.i64 (iWrap IntKind.i64 (numV (sSub s (nNat 1) (nLen s)))), PV.bool true]))))
                              (Tr.ite (iEq (sAt s 0) 45)
                                (Tr.ite (iLt 0 (numV (sSub s (nNat 1) (nLen s))))
                                  (Tr.ret (PV.tup [PV.int IntKind.i64 (iSub IntKind.i64 (iSub IntKind.i64 0 (iWrap IntKind.i64 (iSub IntKind.u64 (numV (sSub s (nNat 1) (nLen s))) 1))) 1), PV.bool true]))
                                  (Tr.ret (PV.tup [PV.int IntKind.i64 (iWrap IntKind.i64 (numV (sSub s (nNat 1) (nLen s)))), PV.bool true])))
                                (Tr.ret (PV.tup [PV.int IntKind.i64 (iWrap IntKind.i64 (numV (sSub s (nNat 1) (nLen s)))), PV.bool true])))))
                          (Tr.ret (PV.tup [PV.int IntKind.i64 0, PV.bool false])))
                        Tr.fail)
                      Tr.fail)
                    Tr.fail)))
              Tr.fail)
            (Tr.ite (sEq s []) (Tr.ret (PV.tup [PV.int IntKind.i64 0, PV.bool false]))
              (Tr.ite (iLt 19 (sLen s)) (Tr.ret (PV.tup [PV.int IntKind.i64 0, PV.bool false]))
                (Tr.ite (iEq 0 0)
                  (Tr.ite (iEq 0 0)
                    (Tr.ite (iLe (sLen s) 19)
                      (Tr.ite (okNum s)
                        (Tr.ite (iEq (sAt s 0) 45)
                          (Tr.ite (iLt 9223372036854775808 (numV s)) (Tr.ret (PV.tup [PV.int IntKind.i64 0, PV.bool false]))
                            (Tr.ite (bNot (iEq (sAt s 0) 45))
                              (Tr.ite (iLt 9223372036854775807 (numV s)) (Tr.ret (PV.tup [PV.int IntKind.i64 0, PV.bool false]))
                                (Tr.ite (iEq (sAt s 0) 45)
                                  (Tr.ite (iLt 0 (numV s)) (Tr.ret (PV.tup [PV.int IntKind.i64 (iSub IntKind.i64 (iSub IntKind.i64 0 (iWrap IntKind.i64 (iSub IntKind.u64 (numV s) 1))) 1), PV.bool true]))
                                    (Tr.ret (PV.tup [PV.int IntKind.i64 (iWrap IntKind.i64 (numV s)), PV.bool true])))
                                  (Tr.ret (PV.tup [PV.int IntKind.i64 (iWrap IntKind.i64 (numV s)), PV.bool true]))))
                              (Tr.ite (iEq (sAt s 0) 45)
                                (Tr.ite (iLt 0 (numV s)) (Tr.ret (PV.tup [PV.int IntKind.i64 (iSub IntKind.i64 (iSub IntKind.i64 0 (iWrap IntKind.i64 (iSub IntKind.u64 (numV s) 1))) 1), PV.bool true]))
                                  (Tr.ret (PV.tup [PV.int IntKind.i64 (iWrap IntKind.i64 (numV s)), PV.bool true])))
                                (Tr.ret (PV.tup [PV.int IntKind.i64 (iWrap IntKind.i64 (numV s)), PV.bool true])))))
                          (Tr.ite (bNot (iEq (sAt s 0) 45))
                            (Tr.ite (iLt 9223372036854775807 (numV s)) (Tr.ret (PV.tup [PV.int IntKind.i64 0, PV.bool false]))
                              (Tr.ite (iEq (sAt s 0) 45)
                                (Tr.ite (iLt 0 (numV s)) (Tr.ret (PV.tup [PV.int IntKind.i64 (iSub IntKind.i64 (iSub IntKind.i64 0 (iWrap IntKind.i64 (iSub IntKind.u64 (numV s) 1))) 1), PV.bool true]))
                                  (Tr.ret (PV.tup [PV.int IntKind.i64 (iWrap IntKind.i64 (numV s)), PV.bool true])))
                                (Tr.ret (PV.tup [PV.int IntKind.i64 (iWrap IntKind.i64 (numV s)), PV.bool true]))))
                            (Tr.ite (iEq (sAt s 0) 45)
                              (Tr.ite (iLt 0 (numV s)) (Tr.ret (PV.tup [PV.int IntKind.i64 (iSub IntKind.i64 (iSub IntKind.i64 0 (iWrap IntKind.i64 (iSub IntKind.u64 (numV s) 1))) 1), PV.bool true]))
                                (Tr.ret (PV.tup [PV.int IntKind.i64 (iWrap IntKind.i64 (numV s)), PV.bool true])))
                              (Tr.ret (PV.tup [PV.int IntKind.i64 (iWrap IntKind.i64 (numV s)), PV.bool true])))))
                        (Tr.ret (PV.tup [PV.int IntKind.i64 0, PV.bool false])))
                      Tr.fail)
                    Tr.fail)
                  Tr.fail))))
          Tr.fail)
        (Tr.ite (sEq s []) (Tr.ret (PV.tup [PV.int IntKind.i64 0, PV.bool false]))
          (Tr.ite (iLt 19 (sLen s)) (Tr.ret (PV.tup [PV.int IntKind.i64 0, PV.bool false]))
            (Tr.ite (iEq 0 0)
              (Tr.ite (iEq 0 0)
                (Tr.ite (iLe (sLen s) 19)
                  (Tr.ite (okNum s)
                    (Tr.ite false
                      (Tr.ite (iLt 9223372036854775808 (numV s)) (Tr.ret (PV.tup [PV.int IntKind.i64 0, PV.bool false]))
                        (Tr.ite true
                          (Tr.ite (iLt 9223372036854775807 (numV s)) (Tr.ret (PV.tup [PV.int IntKind.i64 0, PV.bool false]))
                            (Tr.ite false
                              (Tr.ite (iLt 0 (numV s)) (Tr.ret (PV.tup [PV.int IntKind.i64 (iSub IntKind.i64 (iSub IntKind.i64 0 (iWrap IntKind.i64 (iSub IntKind.u64 (numV s) 1))) 1), PV.bool true]))
                                (Tr.ret (PV.tup [PV.int IntKind.i64 (iWrap IntKind.i64 (numV s)), PV.bool true])))
                              (Tr.ret (PV.tup [PV.int IntKind.i64 (iWrap IntKind.i64 (numV s)), PV.bool true]))))
                          (Tr.ite false
                            (Tr.ite (iLt 0 (numV s)) (Tr.ret (PV.tup [PV.int IntKind.i64 (iSub IntKind.i64 (iSub IntKind.i64 0 (iWrap IntKind.i64 (iSub IntKind.u64 (numV s) 1))) 1), PV.bool true]))
                              (Tr.ret (PV.tup [PV.int IntKind.i64 (iWrap IntKind.i64 (numV s)), PV.bool true])))
                            (Tr.ret (PV.tup [PV.int IntKind.i64 (iWrap IntKind.i64 (numV s)), PV.bool true])))))
                      (Tr.ite true
                        (Tr.ite (iLt 9223372036854775807 (numV s)) (Tr.ret (PV.tup [PV.int IntKind.i64 0, PV.bool false]))
                          (Tr.ite false
                            (Tr.ite (iLt 0 (numV s)) (Tr.ret (PV.tup [PV.int IntKind.i64 (iSub IntKind.i64 (iSub IntKind.i64 0 (iWrap IntKind.i64 (iSub IntKind.u64 (numV s) 1))) 1), PV.bool true]))
                              (Tr.ret (PV.tup [PV.int IntKind.i64 (iWrap IntKind.i64 (numV s)), PV.bool true])))
                            (Tr.ret (PV.tup [PV.int IntKind.i64 (iWrap IntKind.i64 (numV s)), PV.bool true]))))
                        (Tr.ite false
                          (Tr.ite (iLt 0 (numV s)) (Tr.ret (PV.tup [PV.int IntKind.i64 (iSub IntKind.i64 (iSub IntKind.i64 0 (iWrap IntKind.i64 (iSub IntKind.u64 (numV s) 1))) 1), PV.bool true]))
                            (Tr.ret (PV.tup [PV.int IntKind.i64 (iWrap IntKind.i64 (numV s)), PV.bool true])))
                          (Tr.ret (PV.tup [PV.int IntKind.i64 (iWrap IntKind.i64 (numV s)), PV.bool true])))))
                    (Tr.ret (PV.tup [PV.int IntKind.i64 0, PV.bool false])))
                  Tr.fail)
                Tr.fail)
              Tr.fail)))) (by kernel_rfl) ?_
    have hnum : ∀ t : List UInt8, t.length ≤ 19 → ∀ n, numN t 0 = some n → n < 10000000000000000000 := by
      intro t ht n hn
      have h2 := numN_lt t 0 0 n hn (by simp)
      have h3 : 10 ^ (0 + t.length) ≤ 10 ^ 19 := Nat.pow_le_pow_right (by omega) (by omega)
      have : (10 : Nat) ^ 19 = 10000000000000000000 := by decide
      omega
    cases s with
    | nil => simp [okWho, whoV, whoO, whoN]
    | cons c t =>
      have e1 : sSub (c :: t) (nNat 1) (nLen (c :: t)) = t := by simp
      have i0 : okIdx (c :: t) 0 = true := by simp
      have i1 : okSub (okPos 1) true (nNat 1) (nLen (c :: t)) (nLen (c :: t)) = true := by simp
      have n0 : sNe (c :: t) [] = true := by simp
      have n1 : sEq (c :: t) [] = false := by simp
      have e0 : sAt (c :: t) 0 = c.toNat := by simp
      rw [i0, n0, n1, i1, e0, e1]
      by_cases hc : c = 45
      · have hb : iEq (c.toNat : Int) 45 = true := iEq_byte_eq (k := 45) hc
        have hw : whoO (c :: t) = whoN true t := by simp [whoO, hc]
        rw [hb]
        by_cases ht : t = []
        · subst ht
          simp [okWho, whoV, hw, whoN]
        · by_cases hl : 19 < t.length
          · have l1 : iLt 19 (sLen t) = true := by simp; omega
            have l0 : sEq t [] = false := by simp [ht]
            rw [l0, l1]
            simp [okWho, whoV, hw, whoN, ht, hl]
          · have l1 : iLt 19 (sLen t) = false := by simp; omega
            have l0 : sEq t [] = false := by simp [ht]
            have l2 : iLe (sLen t) 19 = true := by simp; omega
            rw [l0, l1, l2]
            cases hn : numN t 0 with
            | none =>
              have k1 : okNum t = false := by simp [okNum, hn]
              rw [k1]
              simp [okWho, whoV, hw, whoN, ht, hl, hn]
            | some n =>
              have hb := hnum t (by omega) n hn
              have k1 : okNum t = true := by simp [okNum, hn]
              have k2 : numV t = n := by simp [numV, hn]
              rw [k1, k2]
              by_cases b1 : 9223372036854775808 < n
              · have b2 : iLt 9223372036854775808 (n : Int) = true := by simp; omega
                rw [b2]
                simp [okWho, whoV, hw, whoN, ht, hl, hn, b1]
              · have b2 : iLt 9223372036854775808 (n : Int) = false := by simp; omega
                rw [b2]
                have o1 : okWho (c :: t) = true := by simp [okWho, hw, whoN, ht, hl, hn, b1]
                have o2 : whoV (c :: t) = -(n : Int) := by simp [whoV, hw, whoN, ht, hl, hn, b1]
                by_cases b3 : 0 < n
                · have b4 : iLt 0 (n : Int) = true := by simp; omega
                  have w1 : iSub .u64 (n : Int) 1 = n - 1 := wrap_u64 (by omega)
                  have w2 : iWrap .i64 ((n : Int) - 1) = n - 1 := wrap_i64 (by omega)
                  have w3 : iSub .i64 0 ((n : Int) - 1) = -(n - 1) := by unfold iSub; rw [wrap_i64 (by omega)]; omega
                  have w4 : iSub .i64 (-((n : Int) - 1)) 1 = -n := by unfold iSub; rw [wrap_i64 (by omega)]; omega
                  rw [b4, w1, w2, w3, w4, o1, o2]
                  simp
                · have b4 : iLt 0 (n : Int) = false := by simp; omega
                  have : n = 0 := by omega
                  subst this
                  rw [b4, o1, o2]
                  have w5 : iWrap .i64 ((0 : Nat) : Int) = 0 := by decide
                  rw [w5]
                  simp
      · have hb : iEq (c.toNat : Int) 45 = false := iEq_byte_ne (k := 45) hc
        have hw : whoO (c :: t) = whoN false (c :: t) := by simp [whoO, hc]
        rw [hb]
        generalize hs : c :: t = s at *
        have ht : s ≠ [] := by rw [← hs]; simp
        by_cases hl : 19 < s.length
        · have l1 : iLt 19 (sLen s) = true := by simp; omega
          rw [l1]
          simp [okWho, whoV, hw, whoN, ht, hl]
        · have l1 : iLt 19 (sLen s) = false := by simp; omega
          have l2 : iLe (sLen s) 19 = true := by simp; omega
          rw [l1, l2]
          cases hn : numN s 0 with
          | none =>
            have k1 : okNum s = false := by simp [okNum, hn]
            rw [k1]
            simp [okWho, whoV, hw, whoN, ht, hl, hn]
          | some n =>
            have hb := hnum s (by omega) n hn
            have k1 : okNum s = true := by simp [okNum, hn]
            have k2 : numV s = n := by simp [numV, hn]
            rw [k1, k2]
            by_cases b1 : 9223372036854775807 < n
            · have b2 : iLt 9223372036854775807 (n : Int) = true := by simp; omega
              rw [b2]
              simp [okWho, whoV, hw, whoN, ht, hl, hn, b1]
            · have b2 : iLt 9223372036854775807 (n : Int) = false := by simp; omega
              have o1 : okWho s = true := by simp [okWho, hw, whoN, ht, hl, hn, b1]
              have o2 : whoV s = (n : Int) := by simp [whoV, hw, whoN, ht, hl, hn, b1]
              have w2 : iWrap .i64 (n : Int) = n := wrap_i64 (by omega)
              rw [b2, w2, o1, o2]
              simp
  · cases h
end Go.Pv
