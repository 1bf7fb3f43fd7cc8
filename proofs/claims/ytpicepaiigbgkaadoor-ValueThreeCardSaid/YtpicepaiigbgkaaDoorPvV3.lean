import Derived.Test.YtpicepaiigbgkaaDoorPvV2
set_option maxHeartbeats 4000000
set_option maxRecDepth 200000
set_option linter.unusedSimpArgs false
set_option linter.unusedVariables false
namespace Go.Pv
open Go Go.Proofs

/-! ### pedigreeref01.Text -/
def symB (s : List UInt8) : List UInt8 := s.flatMap fun b => oneV b.toNat
def symV (s : List UInt8) : List UInt8 := 34 :: symB s ++ [34]
def intV (n : Int) : List UInt8 := if n < 0 then 45 :: digsV (-n) else digsV n
def textV (k n : Int) (s : List UInt8) : List UInt8 := if isV k n s = true then (if k = 1 then intV n else symV s) else []
def symH (s : List UInt8) : List UInt8 := 34 :: symB s

theorem oneV_len (c : Int) : 1 ≤ (oneV c).length ∧ (oneV c).length ≤ 4 := by
  unfold oneV
  repeat' split
  all_goals simp
theorem symB_len : ∀ s, (symB s).length ≤ 4 * s.length
  | [] => by simp [symB]
  | b :: s => by
    have := symB_len s
    have := oneV_len b.toNat
    simp [symB] at *
    omega

theorem checkV_is (k n : Int) (s : List UInt8) : checkV k n s = if isV k n s = true then 0 else 10 := by
  unfold checkV isV
  by_cases h1 : k = 1 ∧ s = []
  · simp [h1]
  · by_cases h2 : k = 2 ∧ n = 0 ∧ s.length ≤ 256
    · simp [h2]
    · rw [if_neg h1, if_neg h2, if_neg]
      simp only [decide_eq_true_eq]
      rintro (h | h)
      · exact h1 h
      · exact h2 h
theorem digsV_len {n : Int} (h : n ≤ 18446744073709551616) : (digsV n).length ≤ 20 := digsN_len 19 n.toNat (by omega)

def F_RText : List PV → Tr PV
  | [.agg [.int .i64 k, .int .i64 n, .str s]] => .ret (.tup [.str (textV k n s), .int .i64 (checkV k n s)])
  | _ => .fail
def d_RText : List PV → Store → Option (Int × Int × List UInt8 × Int × Store)
  | [.ptr 0 0, .sl [[.int .u8 34]] .full, .int .i64 i], ⟨[[.int .i64 k, .int .i64 n, .str s]], [], ty⟩ => some (k, n, s, i, ⟨[[.int .i64 k, .int .i64 n, .str s]], [], ty⟩)
  | _, _ => none
def r_RText : Int × Int × List UInt8 × Int × Store → Tr (PExit × List (Nat × PV) × Store)
  | (k, n, s, i, σ) => Tr.chk (iEq i 0) (Tr.chk (iLe (sLen s) 256) (.ite (sEq s []) (.ret (.exit 0, [(4, .sl (bytesOf (symH s)) .full)], ⟨σ.objs, [], σ.tys⟩)) (.ret (.exit 0, [(4, .sl (bytesOf (symH s)) (.tok 0))], ⟨σ.objs, [(nLen (symH s), 1, 5)], σ.tys⟩))))
def L_RText : LpsT := fun r fr σ => if r = 9 then oracle 46 [1, 4, 5] d_RText r_RText fr σ else .fail
noncomputable def c_RText : Code := loopN Tryd.f20 0
theorem loop_RText (gl : Nat → Option Obj) : ∀ vs σ a e out σ', d_RText vs σ = some a → (r_RText a).run = some (e, out, σ') → LDoes Tryd.prog gl c_RText (mk 46 ([1, 4, 5].zip vs)) σ e (mk 46 out) σ' := by
  intro vs s a e out σ' hd hr
  unfold d_RText at hd
  split at hd
  · rename_i i k n s ty
    cases hd
    obtain ⟨h1, h2⟩ := Tr.chk_some hr
    obtain ⟨h3, h4⟩ := Tr.chk_some h2
    simp at h1 h3
    subst h1
    clear hr h2
    have hG : GamOk Tryd.prog gl (gam (ofL [(47, .pure F_Rone)])) := gamOk_cons (sim_Rone gl) gamOk_nil
    -- the row is the call's own
    have key : ∀ (m : Nat) (i : Int) (b : List UInt8), 0 ≤ i → i + m = s.length → b ++ symB (s.drop i.toNat) = symH s → b.length ≤ 1 + 4 * i.toNat → s ≠ [] →
        LDoes Tryd.prog gl c_RText (mk 46 ([1, 4, 5].zip [.ptr 0 0, .sl (bytesOf b) (.tok 0), .int .i64 i])) ⟨[[.int .i64 k, .int .i64 n, .str s]], [(nLen b, 1, 5)], ty⟩ e (mk 46 out) σ' := by
      intro m
      induction m with
      | zero =>
        intro i b h0 hi hf hb hne
        have e1 : s.drop i.toNat = [] := by apply List.drop_eq_nil_of_le; omega
        rw [e1] at hf
        simp [symB] at hf
        subst hf
        simp [hne] at h4
        obtain ⟨rfl, rfl, rfl⟩ := h4
        refine LDoes.round tbT_ok hG noMixed (L := fun _ _ _ => .fail) (loopOk_none (by kernel_rfl)) (by kernel_rfl) ?_
        refine Tr.all_as (Tr.ite (iLt i (sLen s))
            (Tr.ite (okIdx s i)
              (Tr.ite (okGrow (bytesOf (symH s)) (bytesOf (oneV (sAt s i))) 1)
                (Tr.ite (okNews (bytesOf (oneV (sAt s i))) 1)
                  (Tr.ite (okSize (bytesOf (symH s)) 1)
                    (Tr.ite (xNil (bytesOf (oneV (sAt s i))))
                      (Tr.ret
                        (PExit.normal, [32],
                          [PV.top, PV.ptr 0 0, PV.top, PV.top, PV.sl (bytesOf (symH s)) (Tag.tok 0), PV.int IntKind.i64 (iAdd IntKind.i64 i 1), PV.top, PV.top, PV.top, PV.top, PV.top, PV.top, PV.top, PV.top,
                            PV.top, PV.top, PV.top, PV.top, PV.top, PV.top, PV.top, PV.top, PV.top, PV.top, PV.top, PV.top, PV.top, PV.top, PV.int IntKind.i64 i, PV.ptr 0 2, PV.str s,
                            PV.int IntKind.i64 (sLen s), PV.bool true, PV.int IntKind.i64 i, PV.int IntKind.i64 (iAdd IntKind.i64 i 1), PV.sl (bytesOf (symH s)) (Tag.tok 0), PV.ptr 0 2, PV.str s,
                            PV.int IntKind.i64 i, PV.int IntKind.u8 (sAt s i), PV.sl (bytesOf (oneV (sAt s i))) Tag.non, PV.sl (bytesOf (symH s)) (Tag.tok 0), PV.top, PV.top, PV.top, PV.top],
                          Store.mk [[PV.int IntKind.i64 k, PV.int IntKind.i64 n, PV.str s]] [(nLen (symH s), 1, 5)] ty))
                      (Tr.ite (nEq (nLen (symH s)) (nXs (bytesOf (symH s))))
                        (Tr.ret
                          (PExit.normal, [32],
                            [PV.top, PV.ptr 0 0, PV.top, PV.top, PV.sl (xApp (bytesOf (symH s)) (bytesOf (oneV (sAt s i)))) (Tag.tok 0), PV.int IntKind.i64 (iAdd IntKind.i64 i 1), PV.top, PV.top, PV.top,
                              PV.top, PV.top, PV.top, PV.top, PV.top, PV.top, PV.top, PV.top, PV.top, PV.top, PV.top, PV.top, PV.top, PV.top, PV.top, PV.top, PV.top, PV.top, PV.top, PV.int IntKind.i64 i,
                              PV.ptr 0 2, PV.str s, PV.int IntKind.i64 (sLen s), PV.bool true, PV.int IntKind.i64 i, PV.int IntKind.i64 (iAdd IntKind.i64 i 1), PV.sl (bytesOf (symH s)) (Tag.tok 0), PV.ptr 0 2,
                              PV.str s, PV.int IntKind.i64 i, PV.int IntKind.u8 (sAt s i), PV.sl (bytesOf (oneV (sAt s i))) Tag.non, PV.sl (xApp (bytesOf (symH s)) (bytesOf (oneV (sAt s i)))) (Tag.tok 0),
                              PV.top, PV.top, PV.top, PV.top],
                            Store.mk [[PV.int IntKind.i64 k, PV.int IntKind.i64 n, PV.str s]] [(nXs (xApp (bytesOf (symH s)) (bytesOf (oneV (sAt s i)))), 1, 5)] ty))
                        Tr.fail))
                    Tr.fail)
                  Tr.fail)
                Tr.fail)
              Tr.fail)
            (Tr.ret
              (PExit.exit 0, [32],
                [PV.top, PV.ptr 0 0, PV.top, PV.top, PV.sl (bytesOf (symH s)) (Tag.tok 0), PV.int IntKind.i64 i, PV.top, PV.top, PV.top, PV.top, PV.top, PV.top, PV.top, PV.top, PV.top, PV.top, PV.top, PV.top,
                  PV.top, PV.top, PV.top, PV.top, PV.top, PV.top, PV.top, PV.top, PV.top, PV.top, PV.int IntKind.i64 i, PV.ptr 0 2, PV.str s, PV.int IntKind.i64 (sLen s), PV.bool false, PV.top, PV.top, PV.top,
                  PV.top, PV.top, PV.top, PV.top, PV.top, PV.top, PV.top, PV.top, PV.top, PV.top],
                Store.mk [[PV.int IntKind.i64 k, PV.int IntKind.i64 n, PV.str s]] [(nLen (symH s), 1, 5)] ty))) (by kernel_rfl) ?_
        refine Tr.all_f (by simp; omega) ⟨rfl, by simp [Weak, mk, mkFrom, look], rfl⟩
      | succ m ih =>
        intro i b h0 hi hf hb hne
        obtain ⟨v, hv⟩ := get_lt (l := s) (i := i.toNat) (by omega)
        rw [drop_of_get hv] at hf
        have hone := oneV_len v.toNat
        have e2 : (i + 1).toNat = i.toNat + 1 := by omega
        refine LDoes.round tbT_ok hG noMixed (L := fun _ _ _ => .fail) (loopOk_none (by kernel_rfl)) (by kernel_rfl) ?_
        refine Tr.all_as (Tr.ite (iLt i (sLen s))
            (Tr.ite (okIdx s i)
              (Tr.ite (okGrow (bytesOf b) (bytesOf (oneV (sAt s i))) 1)
                (Tr.ite (okNews (bytesOf (oneV (sAt s i))) 1)
                  (Tr.ite (okSize (bytesOf b) 1)
                    (Tr.ite (xNil (bytesOf (oneV (sAt s i))))
                      (Tr.ret
                        (PExit.normal, [32],
                          [PV.top, PV.ptr 0 0, PV.top, PV.top, PV.sl (bytesOf b) (Tag.tok 0), PV.int IntKind.i64 (iAdd IntKind.i64 i 1), PV.top, PV.top, PV.top, PV.top, PV.top, PV.top, PV.top, PV.top, PV.top,
                            PV.top, PV.top, PV.top, PV.top, PV.top, PV.top, PV.top, PV.top, PV.top, PV.top, PV.top, PV.top, PV.top, PV.int IntKind.i64 i, PV.ptr 0 2, PV.str s, PV.int IntKind.i64 (sLen s),
                            PV.bool true, PV.int IntKind.i64 i, PV.int IntKind.i64 (iAdd IntKind.i64 i 1), PV.sl (bytesOf b) (Tag.tok 0), PV.ptr 0 2, PV.str s, PV.int IntKind.i64 i, PV.int IntKind.u8 (sAt s i),
                            PV.sl (bytesOf (oneV (sAt s i))) Tag.non, PV.sl (bytesOf b) (Tag.tok 0), PV.top, PV.top, PV.top, PV.top],
                          Store.mk [[PV.int IntKind.i64 k, PV.int IntKind.i64 n, PV.str s]] [(nLen b, 1, 5)] ty))
                      (Tr.ite (nEq (nLen b) (nXs (bytesOf b)))
                        (Tr.ret
                          (PExit.normal, [32],
                            [PV.top, PV.ptr 0 0, PV.top, PV.top, PV.sl (xApp (bytesOf b) (bytesOf (oneV (sAt s i)))) (Tag.tok 0), PV.int IntKind.i64 (iAdd IntKind.i64 i 1), PV.top, PV.top, PV.top, PV.top,
                              PV.top, PV.top, PV.top, PV.top, PV.top, PV.top, PV.top, PV.top, PV.top, PV.top, PV.top, PV.top, PV.top, PV.top, PV.top, PV.top, PV.top, PV.top, PV.int IntKind.i64 i, PV.ptr 0 2,
                              PV.str s, PV.int IntKind.i64 (sLen s), PV.bool true, PV.int IntKind.i64 i, PV.int IntKind.i64 (iAdd IntKind.i64 i 1), PV.sl (bytesOf b) (Tag.tok 0), PV.ptr 0 2, PV.str s,
                              PV.int IntKind.i64 i, PV.int IntKind.u8 (sAt s i), PV.sl (bytesOf (oneV (sAt s i))) Tag.non, PV.sl (xApp (bytesOf b) (bytesOf (oneV (sAt s i)))) (Tag.tok 0), PV.top, PV.top,
                              PV.top, PV.top],
                            Store.mk [[PV.int IntKind.i64 k, PV.int IntKind.i64 n, PV.str s]] [(nXs (xApp (bytesOf b) (bytesOf (oneV (sAt s i)))), 1, 5)] ty))
                        Tr.fail))
                    Tr.fail)
                  Tr.fail)
                Tr.fail)
              Tr.fail)
            (Tr.ret
              (PExit.exit 0, [32],
                [PV.top, PV.ptr 0 0, PV.top, PV.top, PV.sl (bytesOf b) (Tag.tok 0), PV.int IntKind.i64 i, PV.top, PV.top, PV.top, PV.top, PV.top, PV.top, PV.top, PV.top, PV.top, PV.top, PV.top, PV.top, PV.top,
                  PV.top, PV.top, PV.top, PV.top, PV.top, PV.top, PV.top, PV.top, PV.top, PV.int IntKind.i64 i, PV.ptr 0 2, PV.str s, PV.int IntKind.i64 (sLen s), PV.bool false, PV.top, PV.top, PV.top, PV.top,
                  PV.top, PV.top, PV.top, PV.top, PV.top, PV.top, PV.top, PV.top, PV.top],
                Store.mk [[PV.int IntKind.i64 k, PV.int IntKind.i64 n, PV.str s]] [(nLen b, 1, 5)] ty))) (by kernel_rfl) ?_
        rw [sAt_get hv, xApp_bytes, nXs_bytes, nXs_bytes]
        refine Tr.all_t (by simp; omega) <| Tr.all_t (okIdx_get h0 hv) <| Tr.all_t (okGrow_bytes (by omega)) <| Tr.all_t (okNews_bytes _) <| Tr.all_t (okSize_bytes _) <| Tr.all_f (xNil_bytes hone.1) <| Tr.all_t (by simp) ?_
        refine LDoes.into ?_ (ih (i + 1) (b ++ oneV v.toNat) (by omega) (by omega) (by rw [← hf, e2]; simp [symB]) (by simp; omega) hne)
        simp [Weak, mk, mkFrom, look, iAdd, wrap_i64 (n := i + 1) (by omega)]
    by_cases hne : s = []
    · subst hne
      simp at h4
      obtain ⟨rfl, rfl, rfl⟩ := h4
      refine LDoes.round tbT_ok hG noMixed (L := fun _ _ _ => .fail) (loopOk_none (by kernel_rfl)) (by kernel_rfl) ?_
      refine Tr.all_as (Tr.ite (iLt 0 (sLen []))
          (Tr.ite (okIdx [] 0)
            (Tr.ite (okGrow [[PV.int IntKind.u8 34]] (bytesOf (oneV (sAt [] 0))) 1)
              (Tr.ite (okNews (bytesOf (oneV (sAt [] 0))) 1)
                (Tr.ite (okSize [[PV.int IntKind.u8 34]] 1)
                  (Tr.ite (xNil (bytesOf (oneV (sAt [] 0))))
                    (Tr.ret
                      (PExit.normal, [32],
                        [PV.top, PV.ptr 0 0, PV.top, PV.top, PV.sl [[PV.int IntKind.u8 34]] Tag.full, PV.int IntKind.i64 (iAdd IntKind.i64 0 1), PV.top, PV.top, PV.top, PV.top, PV.top, PV.top, PV.top, PV.top,
                          PV.top, PV.top, PV.top, PV.top, PV.top, PV.top, PV.top, PV.top, PV.top, PV.top, PV.top, PV.top, PV.top, PV.top, PV.int IntKind.i64 0, PV.ptr 0 2, PV.str [],
                          PV.int IntKind.i64 (sLen []), PV.bool true, PV.int IntKind.i64 0, PV.int IntKind.i64 (iAdd IntKind.i64 0 1), PV.sl [[PV.int IntKind.u8 34]] Tag.full, PV.ptr 0 2, PV.str [],
                          PV.int IntKind.i64 0, PV.int IntKind.u8 (sAt [] 0), PV.sl (bytesOf (oneV (sAt [] 0))) Tag.non, PV.sl [[PV.int IntKind.u8 34]] Tag.full, PV.top, PV.top, PV.top, PV.top],
                        Store.mk [[PV.int IntKind.i64 k, PV.int IntKind.i64 n, PV.str []]] [] ty))
                    (Tr.ret
                      (PExit.normal, [32],
                        [PV.top, PV.ptr 0 0, PV.top, PV.top, PV.sl (xApp [[PV.int IntKind.u8 34]] (bytesOf (oneV (sAt [] 0)))) (Tag.tok 0), PV.int IntKind.i64 (iAdd IntKind.i64 0 1), PV.top, PV.top, PV.top,
                          PV.top, PV.top, PV.top, PV.top, PV.top, PV.top, PV.top, PV.top, PV.top, PV.top, PV.top, PV.top, PV.top, PV.top, PV.top, PV.top, PV.top, PV.top, PV.top, PV.int IntKind.i64 0,
                          PV.ptr 0 2, PV.str [], PV.int IntKind.i64 (sLen []), PV.bool true, PV.int IntKind.i64 0, PV.int IntKind.i64 (iAdd IntKind.i64 0 1), PV.sl [[PV.int IntKind.u8 34]] Tag.full,
                          PV.ptr 0 2, PV.str [], PV.int IntKind.i64 0, PV.int IntKind.u8 (sAt [] 0), PV.sl (bytesOf (oneV (sAt [] 0))) Tag.non,
                          PV.sl (xApp [[PV.int IntKind.u8 34]] (bytesOf (oneV (sAt [] 0)))) (Tag.tok 0), PV.top, PV.top, PV.top, PV.top],
                        Store.mk [[PV.int IntKind.i64 k, PV.int IntKind.i64 n, PV.str []]] [(nXs (xApp [[PV.int IntKind.u8 34]] (bytesOf (oneV (sAt [] 0)))), 1, 5)] ty)))
                  Tr.fail)
                Tr.fail)
              Tr.fail)
            Tr.fail)
          (Tr.ret
            (PExit.exit 0, [32],
              [PV.top, PV.ptr 0 0, PV.top, PV.top, PV.sl [[PV.int IntKind.u8 34]] Tag.full, PV.int IntKind.i64 0, PV.top, PV.top, PV.top, PV.top, PV.top, PV.top, PV.top, PV.top, PV.top, PV.top, PV.top,
                PV.top, PV.top, PV.top, PV.top, PV.top, PV.top, PV.top, PV.top, PV.top, PV.top, PV.top, PV.int IntKind.i64 0, PV.ptr 0 2, PV.str [], PV.int IntKind.i64 (sLen []), PV.bool false, PV.top,
                PV.top, PV.top, PV.top, PV.top, PV.top, PV.top, PV.top, PV.top, PV.top, PV.top, PV.top, PV.top],
              Store.mk [[PV.int IntKind.i64 k, PV.int IntKind.i64 n, PV.str []]] [] ty))) (by kernel_rfl) ?_
      refine Tr.all_f (by simp) ⟨rfl, by simp [Weak, mk, mkFrom, look, symH, symB, bytesOf], rfl⟩
    · obtain ⟨v, hv⟩ := get_lt (l := s) (i := 0) (List.length_pos_iff.2 hne)
      have hv' : s[(0 : Int).toNat]? = some v := hv
      have hone := oneV_len v.toNat
      have hs : s = v :: s.drop 1 := by
        have := drop_of_get hv
        simpa using this
      refine LDoes.round tbT_ok hG noMixed (L := fun _ _ _ => .fail) (loopOk_none (by kernel_rfl)) (by kernel_rfl) ?_
      refine Tr.all_as (Tr.ite (iLt 0 (sLen s))
          (Tr.ite (okIdx s 0)
            (Tr.ite (okGrow [[PV.int IntKind.u8 34]] (bytesOf (oneV (sAt s 0))) 1)
              (Tr.ite (okNews (bytesOf (oneV (sAt s 0))) 1)
                (Tr.ite (okSize [[PV.int IntKind.u8 34]] 1)
                  (Tr.ite (xNil (bytesOf (oneV (sAt s 0))))
                    (Tr.ret
                      (PExit.normal, [32],
                        [PV.top, PV.ptr 0 0, PV.top, PV.top, PV.sl [[PV.int IntKind.u8 34]] Tag.full, PV.int IntKind.i64 (iAdd IntKind.i64 0 1), PV.top, PV.top, PV.top, PV.top, PV.top, PV.top, PV.top, PV.top,
                          PV.top, PV.top, PV.top, PV.top, PV.top, PV.top, PV.top, PV.top, PV.top, PV.top, PV.top, PV.top, PV.top, PV.top, PV.int IntKind.i64 0, PV.ptr 0 2, PV.str s,
                          PV.int IntKind.i64 (sLen s), PV.bool true, PV.int IntKind.i64 0, PV.int IntKind.i64 (iAdd IntKind.i64 0 1), PV.sl [[PV.int IntKind.u8 34]] Tag.full, PV.ptr 0 2, PV.str s,
                          PV.int IntKind.i64 0, PV.int IntKind.u8 (sAt s 0), PV.sl (bytesOf (oneV (sAt s 0))) Tag.non, PV.sl [[PV.int IntKind.u8 34]] Tag.full, PV.top, PV.top, PV.top, PV.top],
                        Store.mk [[PV.int IntKind.i64 k, PV.int IntKind.i64 n, PV.str s]] [] ty))
                    (Tr.ret
                      (PExit.normal, [32],
                        [PV.top, PV.ptr 0 0, PV.top, PV.top, PV.sl (xApp [[PV.int IntKind.u8 34]] (bytesOf (oneV (sAt s 0)))) (Tag.tok 0), PV.int IntKind.i64 (iAdd IntKind.i64 0 1), PV.top, PV.top, PV.top,
                          PV.top, PV.top, PV.top, PV.top, PV.top, PV.top, PV.top, PV.top, PV.top, PV.top, PV.top, PV.top, PV.top, PV.top, PV.top, PV.top, PV.top, PV.top, PV.top, PV.int IntKind.i64 0,
                          PV.ptr 0 2, PV.str s, PV.int IntKind.i64 (sLen s), PV.bool true, PV.int IntKind.i64 0, PV.int IntKind.i64 (iAdd IntKind.i64 0 1), PV.sl [[PV.int IntKind.u8 34]] Tag.full, PV.ptr 0 2,
                          PV.str s, PV.int IntKind.i64 0, PV.int IntKind.u8 (sAt s 0), PV.sl (bytesOf (oneV (sAt s 0))) Tag.non, PV.sl (xApp [[PV.int IntKind.u8 34]] (bytesOf (oneV (sAt s 0)))) (Tag.tok 0),
                          PV.top, PV.top, PV.top, PV.top],
                        Store.mk [[PV.int IntKind.i64 k, PV.int IntKind.i64 n, PV.str s]] [(nXs (xApp [[PV.int IntKind.u8 34]] (bytesOf (oneV (sAt s 0)))), 1, 5)] ty)))
                  Tr.fail)
                Tr.fail)
              Tr.fail)
            Tr.fail)
          (Tr.ret
            (PExit.exit 0, [32],
              [PV.top, PV.ptr 0 0, PV.top, PV.top, PV.sl [[PV.int IntKind.u8 34]] Tag.full, PV.int IntKind.i64 0, PV.top, PV.top, PV.top, PV.top, PV.top, PV.top, PV.top, PV.top, PV.top, PV.top, PV.top,
                PV.top, PV.top, PV.top, PV.top, PV.top, PV.top, PV.top, PV.top, PV.top, PV.top, PV.top, PV.int IntKind.i64 0, PV.ptr 0 2, PV.str s, PV.int IntKind.i64 (sLen s), PV.bool false, PV.top, PV.top,
                PV.top, PV.top, PV.top, PV.top, PV.top, PV.top, PV.top, PV.top, PV.top, PV.top, PV.top],
              Store.mk [[PV.int IntKind.i64 k, PV.int IntKind.i64 n, PV.str s]] [] ty))) (by kernel_rfl) ?_
      have e3 : ([[PV.int .u8 34]] : List (List PV)) = bytesOf [34] := rfl
      rw [sAt_get hv', e3, xApp_bytes, nXs_bytes]
      refine Tr.all_t (by simp; exact List.length_pos_iff.2 hne) <| Tr.all_t (okIdx_get (by omega) hv') <| Tr.all_t (okGrow_bytes (by simp; omega)) <| Tr.all_t (okNews_bytes _) <| Tr.all_t (okSize_bytes _) <| Tr.all_f (xNil_bytes hone.1) ?_
      have hl : s.length = (s.drop 1).length + 1 := by rw [List.length_drop]; have := List.length_pos_iff.2 hne; omega
      refine LDoes.into ?_ (key (s.length - 1) 1 ([34] ++ oneV v.toNat) (by omega) (by omega) ?_ (by simp; omega) hne)
      · simp [Weak, mk, mkFrom, look, iAdd, wrap_i64 (n := 1) (by omega)]
      · unfold symH
        conv => rhs; rw [hs]
        simp [symB]
  · cases hd
theorem sim_RText (gl : Nat → Option Obj) : SimP Tryd.prog gl 20 fun args => (F_RText args).run := by
  refine SimP.of_tree (G := ofL [(17, .pure F_Is), (46, .pure F_digs)]) (L := L_RText) tbT_ok (gamOk_cons (sim_Is gl) (gamOk_cons (sim_digs gl) gamOk_nil)) noMixed Tryd.func20 rfl (by rfl) (by kernel_rfl) (loopOk_one (r := 9) (c1 := c_RText) (by kernel_rfl) ?_) ?_
  · intro fr σ e fr' σ' hh
    simp only [lps, L_RText, if_true] at hh
    exact oracle_ok (loop_RText gl) fr σ e fr' σ' hh
  intro args x h hr
  unfold F_RText at h
  split at h
  · rename_i k n s
    cases h
    refine Tr.run_as (Tr.ite (bNot (isV k n s)) (Tr.ret (PV.tup [PV.str [], PV.int IntKind.i64 10]))
        (Tr.ite (iEq k 1)
          (Tr.ite (iLt n 0)
            (Tr.ite (okApp [45] (digsV (iAdd IntKind.u64 (iWrap IntKind.u64 (iSub IntKind.i64 0 (iAdd IntKind.i64 n 1))) 1)))
              (Tr.ret (PV.tup [PV.str (sApp [45] (digsV (iAdd IntKind.u64 (iWrap IntKind.u64 (iSub IntKind.i64 0 (iAdd IntKind.i64 n 1))) 1))), PV.int IntKind.i64 0])) Tr.fail)
            (Tr.ret (PV.tup [PV.str (digsV (iWrap IntKind.u64 n)), PV.int IntKind.i64 0])))
          (Tr.ite (iEq 0 0)
            (Tr.ite (iLe (sLen s) 256)
              (Tr.ite (sEq s [])
                (Tr.ite (okGrow (bytesOf (symH s)) [[PV.int IntKind.u8 34]] 1)
                  (Tr.ite (okNews [[PV.int IntKind.u8 34]] 1)
                    (Tr.ite (okSize (bytesOf (symH s)) 1)
                      (Tr.ite (okBytes (xApp (bytesOf (symH s)) [[PV.int IntKind.u8 34]])) (Tr.ret (PV.tup [PV.str (unBytes (xApp (bytesOf (symH s)) [[PV.int IntKind.u8 34]])), PV.int IntKind.i64 0]))
                        Tr.fail)
                      Tr.fail)
                    Tr.fail)
                  Tr.fail)
                (Tr.ite (okGrow (bytesOf (symH s)) [[PV.int IntKind.u8 34]] 1)
                  (Tr.ite (okNews [[PV.int IntKind.u8 34]] 1)
                    (Tr.ite (okSize (bytesOf (symH s)) 1)
                      (Tr.ite (nEq (nLen (symH s)) (nXs (bytesOf (symH s))))
                        (Tr.ite (okBytes (xApp (bytesOf (symH s)) [[PV.int IntKind.u8 34]])) (Tr.ret (PV.tup [PV.str (unBytes (xApp (bytesOf (symH s)) [[PV.int IntKind.u8 34]])), PV.int IntKind.i64 0]))
                          Tr.fail)
                        Tr.fail)
                      Tr.fail)
                    Tr.fail)
                  Tr.fail))
              Tr.fail)
            Tr.fail))) (by kernel_rfl) ?_
    have hc := rel_agg hr 0 rfl
    have hn : -9223372036854775808 ≤ n ∧ n ≤ 9223372036854775807 := rel_int hc 1 rfl
    rw [checkV_is]
    cases hI : isV k n s with
    | false => simp [textV, hI]
    | true =>
      by_cases hk : k = 1
      · by_cases hneg : n < 0
        · have e1 : iAdd .i64 n 1 = n + 1 := wrap_i64 (by omega)
          have e2 : iSub .i64 0 (n + 1) = -(n + 1) := by unfold iSub; rw [wrap_i64 (by omega)]; omega
          have e3 : iWrap .u64 (-(n + 1)) = -(n + 1) := wrap_u64 (by omega)
          have e4 : iAdd .u64 (-(n + 1)) 1 = -n := by unfold iAdd; rw [wrap_u64 (by omega)]; omega
          have e5 := digsV_len (n := -n) (by omega)
          have e6 : 1 + (digsV (-n)).length ≤ maxLen := by unfold maxLen; omega
          have e7 : okApp [45] (digsV (-n)) = true := by simp; omega
          simp only [e1, e2, e3, e4, hk, hneg, Tr.run_ite, e7, if_true, bNot_eq, Bool.not_true, Bool.false_eq_true, if_false, iEq_eq, iLt_eq, decide_true, Tr.run_ret]
          subst hk
          simp [textV, hI, intV, hneg]
        · have e1 : iWrap .u64 n = n := wrap_u64 (by omega)
          subst hk
          simp [textV, hI, intV, hneg, e1]
      · have hs : s.length ≤ 256 := by
          unfold isV at hI
          simp [hk] at hI
          exact hI.2.2
        have hB := symB_len s
        have hH : (symH s).length = 1 + (symB s).length := by simp [symH]; omega
        have e1 : xApp (bytesOf (symH s)) [[.int .u8 34]] = bytesOf (symV s) := by
          rw [xApp_byte _ (by omega)]
          rfl
        have e2 : okGrow (bytesOf (symH s)) [[.int .u8 34]] 1 = true := by simp; omega
        have e3 : nEq (nLen (symH s)) (nXs (bytesOf (symH s))) = true := by simp
        have e4 : okNews [[.int .u8 34]] 1 = true := rfl
        have e5 : iLe (sLen s) 256 = true := by simp; omega
        simp only [e1, e2, e3, e4, e5, Tr.run_ite, hk, bNot_eq, Bool.not_true, Bool.false_eq_true, if_false, if_true, iEq_eq, decide_false, decide_true, okSize_bytes, okBytes_bytes, unBytes_bytes, Tr.run_ret]
        simp [textV, hI, hk]
  · cases h
end Go.Pv
