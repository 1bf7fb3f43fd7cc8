import Derived.Test.YtdfahkeodlfopaaDoorPvV1
set_option maxHeartbeats 4000000
set_option maxRecDepth 200000
set_option linter.unusedSimpArgs false
set_option linter.unusedVariables false
namespace Go.Pv
open Go Go.Proofs

theorem sAt_get {l : List UInt8} {i : Int} {v : UInt8} (h : l[i.toNat]? = some v) : sAt l i = v.toNat := by
  simp [sAt, List.getD_eq_getElem?_getD, h]
theorem okIdx_get {l : List UInt8} {i : Int} {v : UInt8} (h0 : 0 ≤ i) (h : l[i.toNat]? = some v) : okIdx l i = true := by
  have := (List.getElem?_eq_some_iff.1 h).1
  simp [h0, this]

/-! ### value.digit -/
def dv : List UInt8 → Int → Int → Int
  | [], _, _ => 16
  | b :: l, c, i => if (b.toNat : Int) = c then i else dv l c (i + 1)
def digV (c : Int) : Int := dv hexL c 0
def F_digit : List PV → Tr PV
  | [.int .u8 c] => .ret (.int .u8 (digV c))
  | _ => .fail
def d_digit : List PV → Store → Option (Int × Int × Store)
  | [.int .u8 c, .int .i64 i], σ => some (c, i, σ)
  | _, _ => none
def r_digit : Int × Int × Store → Tr (PExit × List (Nat × PV) × Store)
  | (c, i, σ) => Tr.chk (iEq i 0) (.ite (iEq (digV c) 16) (.ret (.exit 0, [], σ)) (.ret (.ret, [(2, .int .u8 (digV c))], σ)))
def L_digit : LpsT := fun r fr σ => if r = 2 then oracle 14 [0, 4] d_digit r_digit fr σ else .fail
noncomputable def c_digit : Code := loopN Tryd.f127 0
theorem loop_digit (gl : Nat → Option Obj) : ∀ vs σ a e out σ', d_digit vs σ = some a → (r_digit a).run = some (e, out, σ') → LDoes Tryd.prog gl c_digit (mk 14 ([0, 4].zip vs)) σ e (mk 14 out) σ' := by
  intro vs s a e out σ' hd hr
  unfold d_digit at hd
  split at hd
  · rename_i c i
    cases hd
    obtain ⟨h1, h2⟩ := Tr.chk_some hr
    simp at h1
    subst h1
    clear hr
    have key : ∀ (m : Nat) (i : Int), 0 ≤ i → i + m = 16 → dv (hexL.drop i.toNat) c i = digV c → LDoes Tryd.prog gl c_digit (mk 14 ([0, 4].zip [.int .u8 c, .int .i64 i])) s e (mk 14 out) σ' := by
      intro m
      induction m with
      | zero =>
        intro i h0 hi hf
        have : i = 16 := by omega
        subst this
        have hf : 16 = digV c := hf
        simp [← hf] at h2
        obtain ⟨rfl, rfl, rfl⟩ := h2
        refine LDoes.round tbT_ok (G := ofL []) gamOk_nil noMixed (L := fun _ _ _ => .fail) (loopOk_none (by kernel_rfl)) (by kernel_rfl) ?_
        refine Tr.all_as (Tr.ite (iLt 16 16)
            (Tr.ite (okIdx [48, 49, 50, 51, 52, 53, 54, 55, 56, 57, 97, 98, 99, 100, 101, 102] 16)
              (Tr.ite (iEq (sAt [48, 49, 50, 51, 52, 53, 54, 55, 56, 57, 97, 98, 99, 100, 101, 102] 16) c)
                (Tr.ret
                  (PExit.ret, [10, 5],
                    [PV.int IntKind.u8 c, PV.top, PV.int IntKind.u8 (iWrap IntKind.u8 16), PV.int IntKind.i64 16, PV.int IntKind.i64 16, PV.bool true, PV.int IntKind.i64 16, PV.int IntKind.i64 16,
                      PV.int IntKind.u8 (sAt [48, 49, 50, 51, 52, 53, 54, 55, 56, 57, 97, 98, 99, 100, 101, 102] 16), PV.int IntKind.u8 c, PV.bool true, PV.int IntKind.i64 16,
                      PV.int IntKind.u8 (iWrap IntKind.u8 16), PV.top],
                    s))
                (Tr.ret
                  (PExit.normal, [10, 5],
                    [PV.int IntKind.u8 c, PV.top, PV.top, PV.int IntKind.i64 16, PV.int IntKind.i64 (iAdd IntKind.i64 16 1), PV.bool true, PV.int IntKind.i64 16, PV.int IntKind.i64 16,
                      PV.int IntKind.u8 (sAt [48, 49, 50, 51, 52, 53, 54, 55, 56, 57, 97, 98, 99, 100, 101, 102] 16), PV.int IntKind.u8 c, PV.bool false, PV.top, PV.top,
                      PV.int IntKind.i64 (iAdd IntKind.i64 16 1)],
                    s)))
              Tr.fail)
            (Tr.ret (PExit.exit 0, [5], [PV.int IntKind.u8 c, PV.top, PV.top, PV.top, PV.int IntKind.i64 16, PV.bool false, PV.top, PV.top, PV.top, PV.top, PV.top, PV.top, PV.top, PV.top], s))) (by kernel_rfl) ?_
        refine ⟨fun h => by simp at h, fun h => ⟨rfl, by simp [Weak, mk, mkFrom, look], rfl⟩⟩
      | succ m ih =>
        intro i h0 hi hf
        obtain ⟨v, hv⟩ := get_lt (l := hexL) (i := i.toNat) (by show i.toNat < 16; omega)
        rw [drop_of_get hv] at hf
        refine LDoes.round tbT_ok (G := ofL []) gamOk_nil noMixed (L := fun _ _ _ => .fail) (loopOk_none (by kernel_rfl)) (by kernel_rfl) ?_
        refine Tr.all_as (Tr.ite (iLt i 16)
            (Tr.ite (okIdx [48, 49, 50, 51, 52, 53, 54, 55, 56, 57, 97, 98, 99, 100, 101, 102] i)
              (Tr.ite (iEq (sAt [48, 49, 50, 51, 52, 53, 54, 55, 56, 57, 97, 98, 99, 100, 101, 102] i) c)
                (Tr.ret
                  (PExit.ret, [10, 5],
                    [PV.int IntKind.u8 c, PV.top, PV.int IntKind.u8 (iWrap IntKind.u8 i), PV.int IntKind.i64 i, PV.int IntKind.i64 i, PV.bool true, PV.int IntKind.i64 i, PV.int IntKind.i64 i,
                      PV.int IntKind.u8 (sAt [48, 49, 50, 51, 52, 53, 54, 55, 56, 57, 97, 98, 99, 100, 101, 102] i), PV.int IntKind.u8 c, PV.bool true, PV.int IntKind.i64 i,
                      PV.int IntKind.u8 (iWrap IntKind.u8 i), PV.top],
                    s))
                (Tr.ret
                  (PExit.normal, [10, 5],
                    [PV.int IntKind.u8 c, PV.top, PV.top, PV.int IntKind.i64 i, PV.int IntKind.i64 (iAdd IntKind.i64 i 1), PV.bool true, PV.int IntKind.i64 i, PV.int IntKind.i64 i,
                      PV.int IntKind.u8 (sAt [48, 49, 50, 51, 52, 53, 54, 55, 56, 57, 97, 98, 99, 100, 101, 102] i), PV.int IntKind.u8 c, PV.bool false, PV.top, PV.top,
                      PV.int IntKind.i64 (iAdd IntKind.i64 i 1)],
                    s)))
              Tr.fail)
            (Tr.ret (PExit.exit 0, [5], [PV.int IntKind.u8 c, PV.top, PV.top, PV.top, PV.int IntKind.i64 i, PV.bool false, PV.top, PV.top, PV.top, PV.top, PV.top, PV.top, PV.top, PV.top], s))) (by kernel_rfl) ?_
        refine ⟨fun _ => ⟨fun _ => ⟨fun h => ?_, fun h => ?_⟩, fun h => ?_⟩, fun h => by simp at h; omega⟩
        · have h : iEq (sAt hexL i) c = true := h
          rw [sAt_get hv] at h
          simp at h
          simp only [dv, if_pos h] at hf
          rw [← hf] at h2
          have h16 : ¬ i = 16 := by omega
          simp [h16] at h2
          obtain ⟨rfl, rfl, rfl⟩ := h2
          refine ⟨rfl, ?_, rfl⟩
          simp [Weak, mk, mkFrom, look, iWrap, wrap_u8 (n := i) (by omega)]
        · have h : iEq (sAt hexL i) c = false := h
          rw [sAt_get hv] at h
          simp at h
          simp only [dv, if_neg h] at hf
          have e1 : (i + 1).toNat = i.toNat + 1 := by omega
          refine LDoes.into ?_ (ih (i + 1) (by omega) (by omega) (by rw [e1]; exact hf))
          simp [Weak, mk, mkFrom, look, iAdd, wrap_i64 (n := i + 1) (by omega)]
        · have h : okIdx hexL i = false := h
          rw [okIdx_get h0 hv] at h
          cases h
    exact key 16 0 (by omega) (by omega) rfl
  · cases hd
theorem sim_digit (gl : Nat → Option Obj) : SimP Tryd.prog gl 127 fun args => (F_digit args).run := by
  refine SimP.of_tree (G := ofL []) (L := L_digit) tbT_ok gamOk_nil noMixed Tryd.func127 rfl (by rfl) (by kernel_rfl) (loopOk_one (r := 2) (c1 := c_digit) (by kernel_rfl) ?_) ?_
  · intro fr σ e fr' σ' hh
    simp only [lps, L_digit, if_true] at hh
    exact oracle_ok (loop_digit gl) fr σ e fr' σ' hh
  intro args x h hr
  unfold F_digit at h
  split at h
  · rename_i c
    cases h
    refine Tr.run_as (Tr.ite (iEq 0 0) (Tr.ite (iEq (digV c) 16) (Tr.ret (PV.int IntKind.u8 16)) (Tr.ret (PV.int IntKind.u8 (digV c)))) Tr.fail) (by kernel_rfl) ?_
    simp [eq_comm]
  · cases h

/-! ### value.escape -/
def escB (s : List UInt8) : Int :=
  if s = [] then 0 else if sAt s 0 = 34 ∨ sAt s 0 = 92 then sAt s 0 else if sAt s 0 = 110 then 10 else if sAt s 0 = 116 then 9
  else if sAt s 0 = 120 ∧ 3 ≤ s.length ∧ digV (sAt s 1) < 16 ∧ digV (sAt s 2) < 16 then iOr .u8 (iShl .u8 (digV (sAt s 1)) 4) (digV (sAt s 2)) else 0
def escN (s : List UInt8) : Int :=
  if s = [] then 0 else if sAt s 0 = 34 ∨ sAt s 0 = 92 then 1 else if sAt s 0 = 110 then 1 else if sAt s 0 = 116 then 1
  else if sAt s 0 = 120 ∧ 3 ≤ s.length ∧ digV (sAt s 1) < 16 ∧ digV (sAt s 2) < 16 then 3 else 0
def F_escape : List PV → Tr PV
  | [.str s] => .ret (.tup [.int .u8 (escB s), .int .i64 (escN s)])
  | _ => .fail
theorem sim_escape (gl : Nat → Option Obj) : SimP Tryd.prog gl 116 fun args => (F_escape args).run := by
  refine SimP.of_tree (G := ofL [(127, .pure F_digit)]) (L := fun _ _ _ => .fail) tbT_ok (gamOk_cons (sim_digit gl) gamOk_nil) noMixed Tryd.func116 rfl (by rfl) (by kernel_rfl) (loopOk_none (by kernel_rfl)) ?_
  intro args x h hr
  unfold F_escape at h
  split at h
  · rename_i s
    cases h
    refine Tr.run_as (Tr.ite (sEq s []) (Tr.ret (PV.tup [PV.int IntKind.u8 0, PV.int IntKind.i64 0]))
        (Tr.ite (okIdx s 0)
          (Tr.ite (iEq (sAt s 0) 34) (Tr.ite (okIdx s 0) (Tr.ret (PV.tup [PV.int IntKind.u8 (sAt s 0), PV.int IntKind.i64 1])) Tr.fail)
            (Tr.ite (iEq (sAt s 0) 92) (Tr.ite (okIdx s 0) (Tr.ret (PV.tup [PV.int IntKind.u8 (sAt s 0), PV.int IntKind.i64 1])) Tr.fail)
              (Tr.ite (iEq (sAt s 0) 110) (Tr.ret (PV.tup [PV.int IntKind.u8 10, PV.int IntKind.i64 1]))
                (Tr.ite (iEq (sAt s 0) 116) (Tr.ret (PV.tup [PV.int IntKind.u8 9, PV.int IntKind.i64 1]))
                  (Tr.ite (iEq (sAt s 0) 120)
                    (Tr.ite (iLe 3 (sLen s))
                      (Tr.ite (okIdx s 1)
                        (Tr.ite (iLt (digV (sAt s 1)) 16)
                          (Tr.ite (okIdx s 2)
                            (Tr.ite (iLt (digV (sAt s 2)) 16)
                              (Tr.ite (okIdx s 1)
                                (Tr.ite (okIdx s 2) (Tr.ret (PV.tup [PV.int IntKind.u8 (iOr IntKind.u8 (iShl IntKind.u8 (digV (sAt s 1)) 4) (digV (sAt s 2))), PV.int IntKind.i64 3])) Tr.fail) Tr.fail)
                              (Tr.ret (PV.tup [PV.int IntKind.u8 0, PV.int IntKind.i64 0])))
                            Tr.fail)
                          (Tr.ret (PV.tup [PV.int IntKind.u8 0, PV.int IntKind.i64 0])))
                        Tr.fail)
                      (Tr.ret (PV.tup [PV.int IntKind.u8 0, PV.int IntKind.i64 0])))
                    (Tr.ret (PV.tup [PV.int IntKind.u8 0, PV.int IntKind.i64 0])))))))
          Tr.fail)) (by kernel_rfl) ?_
    by_cases h0 : s = []
    · subst h0; simp [escB, escN]
    · have hl : 0 < s.length := List.length_pos_iff.2 h0
      have k0 : okIdx s 0 = true := by simp [hl]
      by_cases h3 : 3 ≤ s.length
      · have k1 : okIdx s 1 = true := by simp; omega
        have k2 : okIdx s 2 = true := by simp; omega
        have h3' : (3 : Int) ≤ s.length := by omega
        simp only [Tr.run_ite, k0, k1, k2, iEq_eq, iLe_eq, iLt_eq, sEq_eq, sLen_eq, decide_eq_true_eq, h0, h3', if_true, if_false, escB, escN, h3, true_and, Tr.run_ret]
        repeat' split
        all_goals first | rfl | (simp_all; done) | (exfalso; simp_all; done) | (exfalso; omega)
      · have h3' : ¬ (3 : Int) ≤ s.length := by omega
        simp only [Tr.run_ite, k0, iEq_eq, iLe_eq, iLt_eq, sEq_eq, sLen_eq, decide_eq_true_eq, h0, h3', if_true, if_false, escB, escN, h3, false_and, and_false, Tr.run_ret]
        repeat' split
        all_goals first | rfl | (simp_all; done) | (exfalso; simp_all; done) | (exfalso; omega)
  · cases h


/-! ### digits of a number -/
def digsN (n : Nat) : List UInt8 := if h : n < 10 then [UInt8.ofNat (48 + n)] else digsN (n / 10) ++ [UInt8.ofNat (48 + n % 10)]
  termination_by n
  decreasing_by omega
theorem digsN_len : ∀ (k n : Nat), n < 10 ^ (k + 1) → (digsN n).length ≤ k + 1 := by
  intro k
  induction k with
  | zero => intro n h; unfold digsN; simp at h; simp [h]
  | succ k ih =>
    intro n h
    unfold digsN
    split
    · simp
    · have := ih (n / 10) (by rw [Nat.pow_succ] at h; omega)
      simp
      omega
def digsV (n : Int) : List UInt8 := digsN n.toNat
def F_digsK (k : Nat) : List PV → Tr PV
  | [.int .u64 n] => Tr.chk (ltN n k) (.ret (.str (digsV n)))
  | _ => .fail
def F_digs : List PV → Tr PV
  | [.int .u64 n] => .ret (.str (digsV n))
  | _ => .fail
end Go.Pv
