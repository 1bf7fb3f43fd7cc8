/- Part 3 of the proof: pure values for the machine's values, what functions compute over them, and laws of what is computed. Conditions: none beyond each theorem's own premises. -/
import Derived.Test.YtejhcaaeindkjaaDoorPvG2
import Derived.Test.YtejhcaaeindkjaaDoorShelf
import Derived.Lib.AppendIntMem
import Derived.Lib.ItoaLen
import Derived.Lib.ParseIntBTie
import Derived.Shelf.Strings.BuilderK
import Derived.RangeFuncNested
set_option maxHeartbeats 4000000
set_option maxRecDepth 200000
set_option linter.unusedSimpArgs false
set_option linter.unusedVariables false
namespace Go.Pv
open Go Go.Proofs

/-! ### pedigreeref01.Text -/
def symB (s : List UInt8) : List UInt8 := s.flatMap fun b => oneV b.toNat
def symV (s : List UInt8) : List UInt8 := 34 :: symB s ++ [34]
def intV (n : Int) : List UInt8 := if n < 0 then 45 :: digsV (-n) else digsV n
def textV (k n : Int) (s : List UInt8) : List UInt8 := if isV k n s = true then (if k = 1 then intV n else symV s) else []
def symH (s : List UInt8) : List UInt8 := 34 :: symB s

theorem oneV_len (c : Int) : 1 ≤ (oneV c).length ∧ (oneV c).length ≤ 4 := by
  unfold oneV
  repeat' split
  all_goals simp
theorem symB_len : ∀ s, (symB s).length ≤ 4 * s.length
  | [] => by simp [symB]
  | b :: s => by
    have := symB_len s
    have := oneV_len b.toNat
    simp [symB] at *
    omega

theorem checkV_is (k n : Int) (s : List UInt8) : checkV k n s = if isV k n s = true then 0 else 10 := by
  unfold checkV isV
  by_cases h1 : k = 1 ∧ s = []
  · simp [h1]
  · by_cases h2 : k = 2 ∧ n = 0 ∧ s.length ≤ 256
    · simp [h2]
    · rw [if_neg h1, if_neg h2, if_neg]
      simp only [decide_eq_true_eq]
      rintro (h | h)
      · exact h1 h
      · exact h2 h
theorem digsV_len {n : Int} (h : n ≤ 18446744073709551616) : (digsV n).length ≤ 20 := digsN_len 19 n.toNat (by omega)

def F_RText : List PV → Tr PV
  | [.agg [.int .i64 k, .int .i64 n, .str s]] => .ret (.tup [.str (textV k n s), .int .i64 (checkV k n s)])
  | _ => .fail
def d_RText : List PV → Store → Option (Int × Int × List UInt8 × Int × Store)
  | [.ptr 0 0, .sl [[.int .u8 34]] .full, .int .i64 i], ⟨[[.int .i64 k, .int .i64 n, .str s]], [], [35]⟩ => some (k, n, s, i, ⟨[[.int .i64 k, .int .i64 n, .str s]], [], [35]⟩)
  | _, _ => none
def r_RText : Int × Int × List UInt8 × Int × Store → Tr (PExit × List (Nat × PV) × Store)
  | (k, n, s, i, σ) => Tr.chk (iEq i 0) (Tr.chk (iLe (sLen s) 256) (.ite (sEq s []) (.ret (.exit 0, [(4, .sl (bytesOf (symH s)) .full)], ⟨σ.objs, [], σ.tys⟩)) (.ret (.exit 0, [(4, .sl (bytesOf (symH s)) (.tok 0))], ⟨σ.objs, [(nLen (symH s), 1, 5)], σ.tys⟩))))
def L_RText : LpsT := fun r fr σ => if r = 9 then oracle 46 [1, 4, 5] d_RText r_RText fr σ else .fail
noncomputable def c_RText : Code := loopN Tryd.f65 0
theorem loop_RText (gl : Gl) : ∀ vs σ a e out σ', d_RText vs σ = some a → (r_RText a).run = some (e, out, σ') → LDoes Tryd.prog gl c_RText (mk 46 ([1, 4, 5].zip vs)) σ e (mk 46 out) σ' := by
  intro vs s a e out σ' hd hr
  unfold d_RText at hd
  split at hd
  · rename_i i k n s
    cases hd
    obtain ⟨h1, h2⟩ := Tr.chk_some hr
    obtain ⟨h3, h4⟩ := Tr.chk_some h2
    simp at h1 h3
    subst h1
    clear hr h2
    have hG : GamOk Tryd.prog gl (gam (ofL [(79, .pure F_Rone)])) := gamOk_cons (sim_Rone gl) gamOk_nil
    -- the row is the call's own
    have key : ∀ (m : Nat) (i : Int) (b : List UInt8), 0 ≤ i → i + m = s.length → b ++ symB (s.drop i.toNat) = symH s → b.length ≤ 1 + 4 * i.toNat → s ≠ [] →
        LDoes Tryd.prog gl c_RText (mk 46 ([1, 4, 5].zip [.ptr 0 0, .sl (bytesOf b) (.tok 0), .int .i64 i])) ⟨[[.int .i64 k, .int .i64 n, .str s]], [(nLen b, 1, 5)], [35]⟩ e (mk 46 out) σ' := by
      intro m
      induction m with
      | zero =>
        intro i b h0 hi hf hb hne
        have e1 : s.drop i.toNat = [] := by apply List.drop_eq_nil_of_le; omega
        rw [e1] at hf
        simp [symB] at hf
        subst hf
        simp [hne] at h4
        obtain ⟨rfl, rfl, rfl⟩ := h4
        refine LDoes.round tbT_ok hG noMixed (L := fun _ _ _ => .fail) (loopOk_none (by kernel_rfl)) (by kernel_rfl) ?_
        refine Tr.all_as (Tr.ite (iLt i (sLen s))
            (Tr.ite (okIdx s i)
              (Tr.ite (okGrow (bytesOf (symH s)) (bytesOf (oneV (sAt s i))) 1)
                (Tr.ite (okNews (bytesOf (oneV (sAt s i))) 1)
                  (Tr.ite (okSize (bytesOf (symH s)) 1)
                    (Tr.ite (xNil (bytesOf (oneV (sAt s i))))
                      (Tr.ret
                        (PExit.normal, [32],
                          [PV.top, PV.ptr 0 0, PV.top, PV.top, PV.sl (bytesOf (symH s)) (Tag.tok 0), PV.int IntKind.i64 (iAdd IntKind.i64 i 1), PV.top, PV.top, PV.top, PV.top, PV.top, PV.top, PV.top, PV.top,
                            PV.top, PV.top, PV.top, PV.top, PV.top, PV.top, PV.top, PV.top, PV.top, PV.top, PV.top, PV.top, PV.top, PV.top, PV.int IntKind.i64 i, PV.ptr 0 2, PV.str s,
                            PV.int IntKind.i64 (sLen s), PV.bool true, PV.int IntKind.i64 i, PV.int IntKind.i64 (iAdd IntKind.i64 i 1), PV.sl (bytesOf (symH s)) (Tag.tok 0), PV.ptr 0 2, PV.str s,
                            PV.int IntKind.i64 i, PV.int IntKind.u8 (sAt s i), PV.sl (bytesOf (oneV (sAt s i))) Tag.non, PV.sl (bytesOf (symH s)) (Tag.tok 0), PV.top, PV.top, PV.top, PV.top],
                          Store.mk [[PV.int IntKind.i64 k, PV.int IntKind.i64 n, PV.str s]] [(nLen (symH s), 1, 5)] [35]))
                      (Tr.ite (nEq (nLen (symH s)) (nXs (bytesOf (symH s))))
                        (Tr.ret
                          (PExit.normal, [32],
                            [PV.top, PV.ptr 0 0, PV.top, PV.top, PV.sl (xApp (bytesOf (symH s)) (bytesOf (oneV (sAt s i)))) (Tag.tok 0), PV.int IntKind.i64 (iAdd IntKind.i64 i 1), PV.top, PV.top, PV.top,
                              PV.top, PV.top, PV.top, PV.top, PV.top, PV.top, PV.top, PV.top, PV.top, PV.top, PV.top, PV.top, PV.top, PV.top, PV.top, PV.top, PV.top, PV.top, PV.top, PV.int IntKind.i64 i,
                              PV.ptr 0 2, PV.str s, PV.int IntKind.i64 (sLen s), PV.bool true, PV.int IntKind.i64 i, PV.int IntKind.i64 (iAdd IntKind.i64 i 1), PV.sl (bytesOf (symH s)) (Tag.tok 0), PV.ptr 0 2,
                              PV.str s, PV.int IntKind.i64 i, PV.int IntKind.u8 (sAt s i), PV.sl (bytesOf (oneV (sAt s i))) Tag.non, PV.sl (xApp (bytesOf (symH s)) (bytesOf (oneV (sAt s i)))) (Tag.tok 0),
                              PV.top, PV.top, PV.top, PV.top],
                            Store.mk [[PV.int IntKind.i64 k, PV.int IntKind.i64 n, PV.str s]] [(nXs (xApp (bytesOf (symH s)) (bytesOf (oneV (sAt s i)))), 1, 5)] [35]))
                        Tr.fail))
                    Tr.fail)
                  Tr.fail)
                Tr.fail)
              Tr.fail)
            (Tr.ret
              (PExit.exit 0, [32],
                [PV.top, PV.ptr 0 0, PV.top, PV.top, PV.sl (bytesOf (symH s)) (Tag.tok 0), PV.int IntKind.i64 i, PV.top, PV.top, PV.top, PV.top, PV.top, PV.top, PV.top, PV.top, PV.top, PV.top, PV.top, PV.top,
                  PV.top, PV.top, PV.top, PV.top, PV.top, PV.top, PV.top, PV.top, PV.top, PV.top, PV.int IntKind.i64 i, PV.ptr 0 2, PV.str s, PV.int IntKind.i64 (sLen s), PV.bool false, PV.top, PV.top, PV.top,
                  PV.top, PV.top, PV.top, PV.top, PV.top, PV.top, PV.top, PV.top, PV.top, PV.top],
                Store.mk [[PV.int IntKind.i64 k, PV.int IntKind.i64 n, PV.str s]] [(nLen (symH s), 1, 5)] [35]))) (by kernel_rfl) ?_
        refine Tr.all_f (by simp; omega) ⟨rfl, by simp [Weak, mk, mkFrom, look], rfl⟩
      | succ m ih =>
        intro i b h0 hi hf hb hne
        obtain ⟨v, hv⟩ := get_lt (l := s) (i := i.toNat) (by omega)
        rw [drop_of_get hv] at hf
        have hone := oneV_len v.toNat
        have e2 : (i + 1).toNat = i.toNat + 1 := by omega
        refine LDoes.round tbT_ok hG noMixed (L := fun _ _ _ => .fail) (loopOk_none (by kernel_rfl)) (by kernel_rfl) ?_
        refine Tr.all_as (Tr.ite (iLt i (sLen s))
            (Tr.ite (okIdx s i)
              (Tr.ite (okGrow (bytesOf b) (bytesOf (oneV (sAt s i))) 1)
                (Tr.ite (okNews (bytesOf (oneV (sAt s i))) 1)
                  (Tr.ite (okSize (bytesOf b) 1)
                    (Tr.ite (xNil (bytesOf (oneV (sAt s i))))
                      (Tr.ret
                        (PExit.normal, [32],
                          [PV.top, PV.ptr 0 0, PV.top, PV.top, PV.sl (bytesOf b) (Tag.tok 0), PV.int IntKind.i64 (iAdd IntKind.i64 i 1), PV.top, PV.top, PV.top, PV.top, PV.top, PV.top, PV.top, PV.top, PV.top,
                            PV.top, PV.top, PV.top, PV.top, PV.top, PV.top, PV.top, PV.top, PV.top, PV.top, PV.top, PV.top, PV.top, PV.int IntKind.i64 i, PV.ptr 0 2, PV.str s, PV.int IntKind.i64 (sLen s),
                            PV.bool true, PV.int IntKind.i64 i, PV.int IntKind.i64 (iAdd IntKind.i64 i 1), PV.sl (bytesOf b) (Tag.tok 0), PV.ptr 0 2, PV.str s, PV.int IntKind.i64 i, PV.int IntKind.u8 (sAt s i),
                            PV.sl (bytesOf (oneV (sAt s i))) Tag.non, PV.sl (bytesOf b) (Tag.tok 0), PV.top, PV.top, PV.top, PV.top],
                          Store.mk [[PV.int IntKind.i64 k, PV.int IntKind.i64 n, PV.str s]] [(nLen b, 1, 5)] [35]))
                      (Tr.ite (nEq (nLen b) (nXs (bytesOf b)))
                        (Tr.ret
                          (PExit.normal, [32],
                            [PV.top, PV.ptr 0 0, PV.top, PV.top, PV.sl (xApp (bytesOf b) (bytesOf (oneV (sAt s i)))) (Tag.tok 0), PV.int IntKind.i64 (iAdd IntKind.i64 i 1), PV.top, PV.top, PV.top, PV.top,
                              PV.top, PV.top, PV.top, PV.top, PV.top, PV.top, PV.top, PV.top, PV.top, PV.top, PV.top, PV.top, PV.top, PV.top, PV.top, PV.top, PV.top, PV.top, PV.int IntKind.i64 i, PV.ptr 0 2,
                              PV.str s, PV.int IntKind.i64 (sLen s), PV.bool true, PV.int IntKind.i64 i, PV.int IntKind.i64 (iAdd IntKind.i64 i 1), PV.sl (bytesOf b) (Tag.tok 0), PV.ptr 0 2, PV.str s,
                              PV.int IntKind.i64 i, PV.int IntKind.u8 (sAt s i), PV.sl (bytesOf (oneV (sAt s i))) Tag.non, PV.sl (xApp (bytesOf b) (bytesOf (oneV (sAt s i)))) (Tag.tok 0), PV.top, PV.top,
                              PV.top, PV.top],
                            Store.mk [[PV.int IntKind.i64 k, PV.int IntKind.i64 n, PV.str s]] [(nXs (xApp (bytesOf b) (bytesOf (oneV (sAt s i)))), 1, 5)] [35]))
                        Tr.fail))
                    Tr.fail)
                  Tr.fail)
                Tr.fail)
              Tr.fail)
            (Tr.ret
              (PExit.exit 0, [32],
                [PV.top, PV.ptr 0 0, PV.top, PV.top, PV.sl (bytesOf b) (Tag.tok 0), PV.int IntKind.i64 i, PV.top, PV.top, PV.top, PV.top, PV.top, PV.top, PV.top, PV.top, PV.top, PV.top, PV.top, PV.top, PV.top,
                  PV.top, PV.top, PV.top, PV.top, PV.top, PV.top, PV.top, PV.top, PV.top, PV.int IntKind.i64 i, PV.ptr 0 2, PV.str s, PV.int IntKind.i64 (sLen s), PV.bool false, PV.top, PV.top, PV.top, PV.top,
                  PV.top, PV.top, PV.top, PV.top, PV.top, PV.top, PV.top, PV.top, PV.top],
                Store.mk [[PV.int IntKind.i64 k, PV.int IntKind.i64 n, PV.str s]] [(nLen b, 1, 5)] [35]))) (by kernel_rfl) ?_
        rw [sAt_get hv, xApp_bytes, nXs_bytes, nXs_bytes]
        refine Tr.all_t (by simp; omega) <| Tr.all_t (okIdx_get h0 hv) <| Tr.all_t (okGrow_bytes (by omega)) <| Tr.all_t (okNews_bytes _) <| Tr.all_t (okSize_bytes _) <| Tr.all_f (xNil_bytes hone.1) <| Tr.all_t (by simp) ?_
        refine LDoes.into ?_ (ih (i + 1) (b ++ oneV v.toNat) (by omega) (by omega) (by rw [← hf, e2]; simp [symB]) (by simp; omega) hne)
        simp [Weak, mk, mkFrom, look, iAdd, wrap_i64 (n := i + 1) (by omega)]
    by_cases hne : s = []
    · subst hne
      simp at h4
      obtain ⟨rfl, rfl, rfl⟩ := h4
      refine LDoes.round tbT_ok hG noMixed (L := fun _ _ _ => .fail) (loopOk_none (by kernel_rfl)) (by kernel_rfl) ?_
      refine Tr.all_as (Tr.ite (iLt 0 (sLen []))
          (Tr.ite (okIdx [] 0)
            (Tr.ite (okGrow [[PV.int IntKind.u8 34]] (bytesOf (oneV (sAt [] 0))) 1)
              (Tr.ite (okNews (bytesOf (oneV (sAt [] 0))) 1)
                (Tr.ite (okSize [[PV.int IntKind.u8 34]] 1)
                  (Tr.ite (xNil (bytesOf (oneV (sAt [] 0))))
                    (Tr.ret
                      (PExit.normal, [32],
                        [PV.top, PV.ptr 0 0, PV.top, PV.top, PV.sl [[PV.int IntKind.u8 34]] Tag.full, PV.int IntKind.i64 (iAdd IntKind.i64 0 1), PV.top, PV.top, PV.top, PV.top, PV.top, PV.top, PV.top, PV.top,
                          PV.top, PV.top, PV.top, PV.top, PV.top, PV.top, PV.top, PV.top, PV.top, PV.top, PV.top, PV.top, PV.top, PV.top, PV.int IntKind.i64 0, PV.ptr 0 2, PV.str [],
                          PV.int IntKind.i64 (sLen []), PV.bool true, PV.int IntKind.i64 0, PV.int IntKind.i64 (iAdd IntKind.i64 0 1), PV.sl [[PV.int IntKind.u8 34]] Tag.full, PV.ptr 0 2, PV.str [],
                          PV.int IntKind.i64 0, PV.int IntKind.u8 (sAt [] 0), PV.sl (bytesOf (oneV (sAt [] 0))) Tag.non, PV.sl [[PV.int IntKind.u8 34]] Tag.full, PV.top, PV.top, PV.top, PV.top],
                        Store.mk [[PV.int IntKind.i64 k, PV.int IntKind.i64 n, PV.str []]] [] [35]))
                    (Tr.ret
                      (PExit.normal, [32],
                        [PV.top, PV.ptr 0 0, PV.top, PV.top, PV.sl (xApp [[PV.int IntKind.u8 34]] (bytesOf (oneV (sAt [] 0)))) (Tag.tok 0), PV.int IntKind.i64 (iAdd IntKind.i64 0 1), PV.top, PV.top, PV.top,
                          PV.top, PV.top, PV.top, PV.top, PV.top, PV.top, PV.top, PV.top, PV.top, PV.top, PV.top, PV.top, PV.top, PV.top, PV.top, PV.top, PV.top, PV.top, PV.top, PV.int IntKind.i64 0,
                          PV.ptr 0 2, PV.str [], PV.int IntKind.i64 (sLen []), PV.bool true, PV.int IntKind.i64 0, PV.int IntKind.i64 (iAdd IntKind.i64 0 1), PV.sl [[PV.int IntKind.u8 34]] Tag.full,
                          PV.ptr 0 2, PV.str [], PV.int IntKind.i64 0, PV.int IntKind.u8 (sAt [] 0), PV.sl (bytesOf (oneV (sAt [] 0))) Tag.non,
                          PV.sl (xApp [[PV.int IntKind.u8 34]] (bytesOf (oneV (sAt [] 0)))) (Tag.tok 0), PV.top, PV.top, PV.top, PV.top],
                        Store.mk [[PV.int IntKind.i64 k, PV.int IntKind.i64 n, PV.str []]] [(nXs (xApp [[PV.int IntKind.u8 34]] (bytesOf (oneV (sAt [] 0)))), 1, 5)] [35])))
                  Tr.fail)
                Tr.fail)
              Tr.fail)
            Tr.fail)
          (Tr.ret
            (PExit.exit 0, [32],
              [PV.top, PV.ptr 0 0, PV.top, PV.top, PV.sl [[PV.int IntKind.u8 34]] Tag.full, PV.int IntKind.i64 0, PV.top, PV.top, PV.top, PV.top, PV.top, PV.top, PV.top, PV.top, PV.top, PV.top, PV.top,
                PV.top, PV.top, PV.top, PV.top, PV.top, PV.top, PV.top, PV.top, PV.top, PV.top, PV.top, PV.int IntKind.i64 0, PV.ptr 0 2, PV.str [], PV.int IntKind.i64 (sLen []), PV.bool false, PV.top,
                PV.top, PV.top, PV.top, PV.top, PV.top, PV.top, PV.top, PV.top, PV.top, PV.top, PV.top, PV.top],
              Store.mk [[PV.int IntKind.i64 k, PV.int IntKind.i64 n, PV.str []]] [] [35]))) (by kernel_rfl) ?_
      refine Tr.all_f (by simp) ⟨rfl, by simp [Weak, mk, mkFrom, look, symH, symB, bytesOf], rfl⟩
    · obtain ⟨v, hv⟩ := get_lt (l := s) (i := 0) (List.length_pos_iff.2 hne)
      have hv' : s[(0 : Int).toNat]? = some v := hv
      have hone := oneV_len v.toNat
      have hs : s = v :: s.drop 1 := by
        have := drop_of_get hv
        simpa using this
      refine LDoes.round tbT_ok hG noMixed (L := fun _ _ _ => .fail) (loopOk_none (by kernel_rfl)) (by kernel_rfl) ?_
      refine Tr.all_as (Tr.ite (iLt 0 (sLen s))
          (Tr.ite (okIdx s 0)
            (Tr.ite (okGrow [[PV.int IntKind.u8 34]] (bytesOf (oneV (sAt s 0))) 1)
              (Tr.ite (okNews (bytesOf (oneV (sAt s 0))) 1)
                (Tr.ite (okSize [[PV.int IntKind.u8 34]] 1)
                  (Tr.ite (xNil (bytesOf (oneV (sAt s 0))))
                    (Tr.ret
                      (PExit.normal, [32],
                        [PV.top, PV.ptr 0 0, PV.top, PV.top, PV.sl [[PV.int IntKind.u8 34]] Tag.full, PV.int IntKind.i64 (iAdd IntKind.i64 0 1), PV.top, PV.top, PV.top, PV.top, PV.top, PV.top, PV.top, PV.top,
                          PV.top, PV.top, PV.top, PV.top, PV.top, PV.top, PV.top, PV.top, PV.top, PV.top, PV.top, PV.top, PV.top, PV.top, PV.int IntKind.i64 0, PV.ptr 0 2, PV.str s,
                          PV.int IntKind.i64 (sLen s), PV.bool true, PV.int IntKind.i64 0, PV.int IntKind.i64 (iAdd IntKind.i64 0 1), PV.sl [[PV.int IntKind.u8 34]] Tag.full, PV.ptr 0 2, PV.str s,
                          PV.int IntKind.i64 0, PV.int IntKind.u8 (sAt s 0), PV.sl (bytesOf (oneV (sAt s 0))) Tag.non, PV.sl [[PV.int IntKind.u8 34]] Tag.full, PV.top, PV.top, PV.top, PV.top],
                        Store.mk [[PV.int IntKind.i64 k, PV.int IntKind.i64 n, PV.str s]] [] [35]))
                    (Tr.ret
                      (PExit.normal, [32],
                        [PV.top, PV.ptr 0 0, PV.top, PV.top, PV.sl (xApp [[PV.int IntKind.u8 34]] (bytesOf (oneV (sAt s 0)))) (Tag.tok 0), PV.int IntKind.i64 (iAdd IntKind.i64 0 1), PV.top, PV.top, PV.top,
                          PV.top, PV.top, PV.top, PV.top, PV.top, PV.top, PV.top, PV.top, PV.top, PV.top, PV.top, PV.top, PV.top, PV.top, PV.top, PV.top, PV.top, PV.top, PV.top, PV.int IntKind.i64 0,
                          PV.ptr 0 2, PV.str s, PV.int IntKind.i64 (sLen s), PV.bool true, PV.int IntKind.i64 0, PV.int IntKind.i64 (iAdd IntKind.i64 0 1), PV.sl [[PV.int IntKind.u8 34]] Tag.full, PV.ptr 0 2,
                          PV.str s, PV.int IntKind.i64 0, PV.int IntKind.u8 (sAt s 0), PV.sl (bytesOf (oneV (sAt s 0))) Tag.non, PV.sl (xApp [[PV.int IntKind.u8 34]] (bytesOf (oneV (sAt s 0)))) (Tag.tok 0),
                          PV.top, PV.top, PV.top, PV.top],
                        Store.mk [[PV.int IntKind.i64 k, PV.int IntKind.i64 n, PV.str s]] [(nXs (xApp [[PV.int IntKind.u8 34]] (bytesOf (oneV (sAt s 0)))), 1, 5)] [35])))
                  Tr.fail)
                Tr.fail)
              Tr.fail)
            Tr.fail)
          (Tr.ret
            (PExit.exit 0, [32],
              [PV.top, PV.ptr 0 0, PV.top, PV.top, PV.sl [[PV.int IntKind.u8 34]] Tag.full, PV.int IntKind.i64 0, PV.top, PV.top, PV.top, PV.top, PV.top, PV.top, PV.top, PV.top, PV.top, PV.top, PV.top,
                PV.top, PV.top, PV.top, PV.top, PV.top, PV.top, PV.top, PV.top, PV.top, PV.top, PV.top, PV.int IntKind.i64 0, PV.ptr 0 2, PV.str s, PV.int IntKind.i64 (sLen s), PV.bool false, PV.top, PV.top,
                PV.top, PV.top, PV.top, PV.top, PV.top, PV.top, PV.top, PV.top, PV.top, PV.top, PV.top],
              Store.mk [[PV.int IntKind.i64 k, PV.int IntKind.i64 n, PV.str s]] [] [35]))) (by kernel_rfl) ?_
      have e3 : ([[PV.int .u8 34]] : List (List PV)) = bytesOf [34] := rfl
      rw [sAt_get hv', e3, xApp_bytes, nXs_bytes]
      refine Tr.all_t (by simp; exact List.length_pos_iff.2 hne) <| Tr.all_t (okIdx_get (by omega) hv') <| Tr.all_t (okGrow_bytes (by simp; omega)) <| Tr.all_t (okNews_bytes _) <| Tr.all_t (okSize_bytes _) <| Tr.all_f (xNil_bytes hone.1) ?_
      have hl : s.length = (s.drop 1).length + 1 := by rw [List.length_drop]; have := List.length_pos_iff.2 hne; omega
      refine LDoes.into ?_ (key (s.length - 1) 1 ([34] ++ oneV v.toNat) (by omega) (by omega) ?_ (by simp; omega) hne)
      · simp [Weak, mk, mkFrom, look, iAdd, wrap_i64 (n := 1) (by omega)]
      · unfold symH
        conv => rhs; rw [hs]
        simp [symB]
  · cases hd
theorem sim_RText (gl : Gl) : SimP Tryd.prog gl 65 fun args => (F_RText args).run := by
  refine SimP.of_tree (G := ofL [(77, .pure F_Is), (78, .pure F_digs)]) (L := L_RText) tbT_ok (gamOk_cons (sim_Is gl) (gamOk_cons (sim_digs gl) gamOk_nil)) noMixed Tryd.func65 rfl (by rfl) (by kernel_rfl) (loopOk_one (r := 9) (c1 := c_RText) (by kernel_rfl) ?_) ?_
  · intro fr σ e fr' σ' hh
    simp only [lps, L_RText, if_true] at hh
    exact oracle_ok (loop_RText gl) fr σ e fr' σ' hh
  intro args x h hr
  unfold F_RText at h
  split at h
  · rename_i k n s
    cases h
    refine Tr.run_as (Tr.ite (bNot (isV k n s)) (Tr.ret (PV.tup [PV.str [], PV.int IntKind.i64 10]))
        (Tr.ite (iEq k 1)
          (Tr.ite (iLt n 0)
            (Tr.ite (okApp [45] (digsV (iAdd IntKind.u64 (iWrap IntKind.u64 (iSub IntKind.i64 0 (iAdd IntKind.i64 n 1))) 1)))
              (Tr.ret (PV.tup [PV.str (sApp [45] (digsV (iAdd IntKind.u64 (iWrap IntKind.u64 (iSub IntKind.i64 0 (iAdd IntKind.i64 n 1))) 1))), PV.int IntKind.i64 0])) Tr.fail)
            (Tr.ret (PV.tup [PV.str (digsV (iWrap IntKind.u64 n)), PV.int IntKind.i64 0])))
          (Tr.ite (iEq 0 0)
            (Tr.ite (iLe (sLen s) 256)
              (Tr.ite (sEq s [])
                (Tr.ite (okGrow (bytesOf (symH s)) [[PV.int IntKind.u8 34]] 1)
                  (Tr.ite (okNews [[PV.int IntKind.u8 34]] 1)
                    (Tr.ite (okSize (bytesOf (symH s)) 1)
                      (Tr.ite (okBytes (xApp (bytesOf (symH s)) [[PV.int IntKind.u8 34]])) (Tr.ret (PV.tup [PV.str (unBytes (xApp (bytesOf (symH s)) [[PV.int IntKind.u8 34]])), PV.int IntKind.i64 0]))
                        Tr.fail)
                      Tr.fail)
                    Tr.fail)
                  Tr.fail)
                (Tr.ite (okGrow (bytesOf (symH s)) [[PV.int IntKind.u8 34]] 1)
                  (Tr.ite (okNews [[PV.int IntKind.u8 34]] 1)
                    (Tr.ite (okSize (bytesOf (symH s)) 1)
                      (Tr.ite (nEq (nLen (symH s)) (nXs (bytesOf (symH s))))
                        (Tr.ite (okBytes (xApp (bytesOf (symH s)) [[PV.int IntKind.u8 34]])) (Tr.ret (PV.tup [PV.str (unBytes (xApp (bytesOf (symH s)) [[PV.int IntKind.u8 34]])), PV.int IntKind.i64 0]))
                          Tr.fail)
                        Tr.fail)
                      Tr.fail)
                    Tr.fail)
                  Tr.fail))
              Tr.fail)
            Tr.fail))) (by kernel_rfl) ?_
    have hc := rel_agg hr 0 rfl
    have hn : -9223372036854775808 ≤ n ∧ n ≤ 9223372036854775807 := rel_int hc 1 rfl
    rw [checkV_is]
    cases hI : isV k n s with
    | false => simp [textV, hI]
    | true =>
      by_cases hk : k = 1
      · by_cases hneg : n < 0
        · have e1 : iAdd .i64 n 1 = n + 1 := wrap_i64 (by omega)
          have e2 : iSub .i64 0 (n + 1) = -(n + 1) := by unfold iSub; rw [wrap_i64 (by omega)]; omega
          have e3 : iWrap .u64 (-(n + 1)) = -(n + 1) := wrap_u64 (by omega)
          have e4 : iAdd .u64 (-(n + 1)) 1 = -n := by unfold iAdd; rw [wrap_u64 (by omega)]; omega
          have e5 := digsV_len (n := -n) (by omega)
          have e6 : 1 + (digsV (-n)).length ≤ maxLen := by unfold maxLen; omega
          have e7 : okApp [45] (digsV (-n)) = true := by simp; omega
          simp only [e1, e2, e3, e4, hk, hneg, Tr.run_ite, e7, if_true, bNot_eq, Bool.not_true, Bool.false_eq_true, if_false, iEq_eq, iLt_eq, decide_true, Tr.run_ret]
          subst hk
          simp [textV, hI, intV, hneg]
        · have e1 : iWrap .u64 n = n := wrap_u64 (by omega)
          subst hk
          simp [textV, hI, intV, hneg, e1]
      · have hs : s.length ≤ 256 := by
          unfold isV at hI
          simp [hk] at hI
          exact hI.2.2
        have hB := symB_len s
        have hH : (symH s).length = 1 + (symB s).length := by simp [symH]; omega
        have e1 : xApp (bytesOf (symH s)) [[.int .u8 34]] = bytesOf (symV s) := by
          rw [xApp_byte _ (by omega)]
          rfl
        have e2 : okGrow (bytesOf (symH s)) [[.int .u8 34]] 1 = true := by simp; omega
        have e3 : nEq (nLen (symH s)) (nXs (bytesOf (symH s))) = true := by simp
        have e4 : okNews [[.int .u8 34]] 1 = true := rfl
        have e5 : iLe (sLen s) 256 = true := by simp; omega
        simp only [e1, e2, e3, e4, e5, Tr.run_ite, hk, bNot_eq, Bool.not_true, Bool.false_eq_true, if_false, if_true, iEq_eq, decide_false, decide_true, okSize_bytes, okBytes_bytes, unBytes_bytes, Tr.run_ret]
        simp [textV, hI, hk]
  · cases h
end Go.Pv

set_option maxHeartbeats 4000000
set_option maxRecDepth 200000
set_option linter.unusedSimpArgs false
set_option linter.unusedVariables false
namespace Go.Pv
open Go Go.Proofs Go.RowKit

/-- A package variable, as it lies in the world that gl tells of. -/
def VarIs (gl : Gl) (name : String) (cs : Array Value) : Prop := ∃ g T f, Tryd.prog.globalNamed name = some g ∧ gl g = some (.cells cs T f)

/-- The library's variables, as they are laid. -/
structure GlPow (gl : Gl) : Prop where
  pow : VarIs gl "internal/strconv.uint64pow10" (Lib.pow10Tab.map fun z => Value.int .u64 z).toArray
structure GlOk (gl : Gl) : Prop extends GlPow gl where
  syn : ∃ tp p, VarIs gl "strconv.ErrSyntax" #[.iface tp p]
  rng : ∃ tp p, VarIs gl "strconv.ErrRange" #[.iface tp p]

theorem VarIs.var {gl : Gl} {name : String} {cs : Array Value} (h : VarIs gl name cs) {w : World} (hw : ∀ b o, gl b = some o → w.heap[b]? = some o) : w.var? Tryd.prog name = some cs := by
  obtain ⟨g, T, f, h1, h2⟩ := h
  simp [World.var?, h1, hw g _ h2]

theorem GlPow.dr {gl : Gl} (h : GlPow gl) (w w' : World) : Dr gl w w' := fun hg => by
  obtain ⟨g, T, f, _, h2⟩ := h.pow
  rw [hg g] at h2
  cases h2

/-! ### strconv.FormatInt at base 10 -/
def itoaV (n : Int) : List UInt8 := Lib.itoa n
def F_FormatInt : List PV → Tr PV
  | [.int .i64 n, .int .i64 b] => Tr.chk (iEq b 10) (.ret (.str (itoaV n)))
  | _ => .fail
theorem sim_FormatInt {gl : Gl} (hgl : GlPow gl) : SimP Tryd.prog gl 86 fun args => (F_FormatInt args).run := by
  refine ⟨⟨_, Tryd.func86, by rfl, by rfl⟩, ?_⟩
  intro args x hx H w vs hB hob htk hw hrel
  unfold F_FormatInt at hx
  split at hx
  · rename_i n b
    obtain ⟨h1, h2⟩ := Tr.chk_some hx
    cases h2
    simp at h1
    subst h1
    cases hrel with
    | cons _ v _ vs hv hvs =>
      cases hvs with
      | cons _ v2 _ vs hv2 hvs =>
        cases hvs
        cases hv with
        | int _ _ hwf =>
          cases hv2
          simp [Lit.wf, IntKind.min, IntKind.max, IntKind.signed, IntKind.bits] at hwf
          refine (Tryd.strconv_FormatInt_10 n hwf.1 (by omega) w (hgl.pow.var hw)).mono ?_
          rintro e w' ⟨rfl, k, os, rfl⟩
          refine ⟨_, rfl, ⟨Lib.below_grow _ _ (Nat.le_refl _) k os, hgl.dr _ _⟩, .str _ ?_⟩
          have := Lib.itoa_length_le n hwf.1 (by omega)
          show (Lib.itoa n).length ≤ maxLen
          unfold maxLen
          omega
  · cases hx

/-! ### strconv.ParseInt at base 10 and 64 bits -/
def pOk (s : List UInt8) : Bool := match Lib.parseIntB 64 s with
  | .ok _ => true
  | _ => false
def pVal (s : List UInt8) : Int := match Lib.parseIntB 64 s with
  | .ok v => v
  | .range => Lib.intSat 64 s
  | _ => 0
def okSize48 (s : List UInt8) : Bool := decide (s.length ≤ 281474976710656)
def F_ParseInt : List PV → Tr PV
  | [.str s, .int .i64 b, .int .i64 k] => Tr.chk (iEq b 10) (Tr.chk (iEq k 64) (Tr.chk (okSize48 s) (.ite (pOk s) (.ret (.tup [.int .i64 (pVal s), .nili])) (.ret (.tup [.int .i64 (pVal s), .iface 113 .top])))))
  | _ => .fail
theorem pVal_wf (s : List UInt8) : (Lit.int .i64 (pVal s)).wf = true := by
  have key : -9223372036854775808 ≤ pVal s ∧ pVal s ≤ 9223372036854775807 := by
    unfold pVal
    split
    · rename_i v hv
      have h := Lib.parseIntB_bounds hv
      have e : ((2 ^ (64 - 1) : Nat) : Int) = 9223372036854775808 := by decide
      rw [e] at h
      omega
    · unfold Lib.intSat
      split
      · have e : -(((2 ^ (64 - 1) : Nat)) : Int) = -9223372036854775808 := by decide
        rw [e]
        omega
      · have e : (((2 ^ (64 - 1) - 1 : Nat)) : Int) = 9223372036854775807 := by decide
        rw [e]
        omega
    · omega
  simp [Lit.wf, IntKind.min, IntKind.max, IntKind.signed, IntKind.bits]
  omega
theorem sim_ParseInt {gl : Gl} (hgl : GlOk gl) : SimP Tryd.prog gl 74 fun args => (F_ParseInt args).run := by
  refine ⟨⟨_, Tryd.func74, by rfl, by rfl⟩, ?_⟩
  intro args x hx H w vs hB hob htk hw hrel
  unfold F_ParseInt at hx
  split at hx
  · rename_i s b k
    obtain ⟨h1, h2⟩ := Tr.chk_some hx
    obtain ⟨h3, h4⟩ := Tr.chk_some h2
    obtain ⟨h5, h6⟩ := Tr.chk_some h4
    simp at h1 h3
    simp [okSize48] at h5
    subst h1 h3
    have hwf := pVal_wf s
    cases hrel with
    | cons _ v _ vs hv hvs =>
      cases hvs with
      | cons _ v2 _ vs hv2 hvs =>
        cases hvs with
        | cons _ v3 _ vs hv3 hvs =>
          cases hvs
          cases hv2; cases hv3
          cases hv with
          | str _ hl =>
            have hsz : (ByteArray.mk s.toArray).size = s.length := by simp [ByteArray.size]
            cases hp : Lib.parseIntB 64 s with
            | ok n =>
              have e1 : pOk s = true := by simp [pOk, hp]
              have e2 : pVal s = n := by simp [pVal, hp]
              rw [e2] at hwf
              simp [e1, e2] at h6
              subst h6
              refine (Any.strconv_ParseInt_10_at64_ok Tryd.laysC174 ⟨s.toArray⟩ (by rw [hsz]; omega) n hp w).mono ?_
              rintro e w' ⟨rfl, hw'⟩
              refine ⟨_, rfl, ⟨?_, hgl.dr _ _⟩, .tup _ _ (.cons _ _ _ _ (.int _ _ hwf) (.cons _ _ _ _ .nili .nil))⟩
              rcases hw' with rfl | ⟨t, rfl⟩
              · exact Below.refl _ _
              · exact ⟨rfl, rfl, rfl, by rw [Lib.bytesWorld_size]; omega, fun k hk => Lib.bytesWorld_at_old w _ _ k hk⟩
            | range =>
              have e1 : pOk s = false := by simp [pOk, hp]
              have e2 : pVal s = Lib.intSat 64 s := by simp [pVal, hp]
              simp [e1, e2] at h6
              rw [e2] at hwf
              subst h6
              obtain ⟨tp, p, hv⟩ := hgl.rng
              refine (Any.strconv_ParseInt_10_at64_range_var Tryd.laysC174 ⟨s.toArray⟩ (by rw [hsz]; omega) hp tp p w (hv.var hw)).mono ?_
              rintro e w' ⟨N, rfl, h1, h2, h3⟩
              exact ⟨_, rfl, ⟨h3, hgl.dr _ _⟩, .tup _ _ (.cons _ _ _ _ (.int _ _ hwf) (.cons _ _ _ _ (.iface _ _ _ (.top _)) .nil))⟩
            | _ =>
              have e1 : pOk s = false := by simp [pOk, hp]
              have e2 : pVal s = 0 := by simp [pVal, hp]
              rw [e2] at hwf
              simp [e1, e2] at h6
              subst h6
              obtain ⟨tp, p, hv⟩ := hgl.syn
              refine (Any.strconv_ParseInt_10_at64_syntax_var Tryd.laysC174 ⟨s.toArray⟩ (by rw [hsz]; omega) hp tp p w (hv.var hw)).mono ?_
              rintro e w' ⟨N, rfl, h1, h2, h3⟩
              exact ⟨_, rfl, ⟨h3, hgl.dr _ _⟩, .tup _ _ (.cons _ _ _ _ (.int _ _ hwf) (.cons _ _ _ _ (.iface _ _ _ (.top _)) .nil))⟩
  · cases hx
end Go.Pv

/- strings.Builder: its check, and its text, with the caller's store. -/
set_option maxHeartbeats 4000000
set_option maxRecDepth 200000
set_option linter.unusedSimpArgs false
set_option linter.unusedVariables false
namespace Go.Pv
open Go Go.Proofs Go.Shelf Go.RowKit
variable {P : Program} {ρ : Ren} {gl : Gl}

theorem setCell_row {w : World} {b off : Nat} {cs : Array Value} {T : TypeId} {fz : Nat × Nat} (h : w.heap[b]? = some (.cells cs T fz)) (v : Value) : w.setCell ⟨b, off, none⟩ v = w.setRow b (cs.setIfInBounds off v) := by
  unfold World.setCell World.setRow
  congr 1
  apply Array.ext_getElem?
  intro i
  rw [Array.getElem?_modify, Array.getElem?_modify]
  by_cases hi : b = i
  · subst hi
    rw [if_pos rfl, if_pos rfl, h]
    rfl
  · rw [if_neg hi, if_neg hi]

theorem freeze_at {w : World} {b n : Nat} {cs : Array Value} {T : TypeId} {fz : Nat × Nat} (h : w.heap[b]? = some (.cells cs T fz)) : ∃ fz', (w.freeze ⟨b, 0, none⟩ n).heap[b]? = some (.cells cs T fz') := by
  unfold World.freeze
  split
  · exact ⟨fz, h⟩
  · obtain ⟨lo, hi⟩ := fz
    exact ⟨_, by simp only [Array.getElem?_modify, if_true, h]; rfl⟩

theorem freeze_other (w : World) (b n k : Nat) (h : k ≠ b) : (w.freeze ⟨b, 0, none⟩ n).heap[k]? = w.heap[k]? := by
  unfold World.freeze
  split
  · rfl
  · simp only [Array.getElem?_modify]
    rw [if_neg (fun e => h e.symm)]

theorem freeze_size (w : World) (b n : Nat) : (w.freeze ⟨b, 0, none⟩ n).heap.size = w.heap.size := by
  unfold World.freeze
  split
  · rfl
  · simp

theorem freeze_rest (w : World) (b n : Nat) : (w.freeze ⟨b, 0, none⟩ n).os = w.os ∧ (w.freeze ⟨b, 0, none⟩ n).tape = w.tape ∧ (w.freeze ⟨b, 0, none⟩ n).output = w.output := by
  unfold World.freeze
  split <;> exact ⟨rfl, rfl, rfl⟩

theorem freeze_drawn (w : World) (b n : Nat) : (w.drew.freeze ⟨b, 0, none⟩ n).drawn = w.drew.drawn := by
  unfold World.freeze
  split <;> rfl

/-! ### copyCheck -/
def D_copyCheck (T : TypeId) : List PV → Store → Tr (PV × Store)
  | [.ptr 1 0], ⟨[o, [.nilp, q]], tk, [t0, t1]⟩ => Tr.chk (t1 == T) (.ret (.tup [], ⟨[o, [.ptr 1 0, q]], tk, [t0, t1]⟩))
  | [.ptr 1 0], ⟨[o, [.ptr 1 0, q]], tk, [t0, t1]⟩ => .ret (.tup [], ⟨[o, [.ptr 1 0, q]], tk, [t0, t1]⟩)
  | _, _ => .fail

theorem one_ptr {H : Gh} {w : World} {args : List Value} {id off : Nat} (h : RelL H w [.ptr id off] args) : ∃ b, H.ob[id]? = some b ∧ args = [.pointer (some ⟨b, off, none⟩)] := by
  cases h with
  | cons _ v _ vs hv hvs =>
    cases hvs
    cases hv with
    | ptr _ _ b hb => exact ⟨b, hb, rfl⟩

theorem sim_copyCheck_of {f : FuncId} {TB : TypeId} (hTB : TB < tyMark) (hfresh : ∀ (b : Nat) (w : World), w.cell? ⟨b, 0, none⟩ = some (.pointer none) → w.shape? b = some (TB, 2) → w.frozen? ⟨b, 0, none⟩ = false → Calls P f #[.pointer (some ⟨b, 0, none⟩)] w fun e w' => e = .returned (.tuple #[]) ∧ w' = w.setCell ⟨b, 0, none⟩ (.pointer (some ⟨b, 0, none⟩)))
    (hused : ∀ (b : Nat) (w : World), w.cell? ⟨b, 0, none⟩ = some (.pointer (some ⟨b, 0, none⟩)) → Calls P f #[.pointer (some ⟨b, 0, none⟩)] w fun e w' => e = .returned (.tuple #[]) ∧ w' = w)
    (hent : ∃ fn, P.funcs[f]? = some fn ∧ (fn.name == "runtime.NumGoroutine") = false ∧ fn.body.isNone = false) : SimS P gl f fun args σ => (D_copyCheck TB args σ).run := by
  refine ⟨hent, ?_⟩
  intro args σ x σ' hx H w vs hok hrel
  unfold D_copyCheck at hx
  split at hx
  · rename_i o q tk t0 t1
    obtain ⟨h1, h2⟩ := Tr.chk_some hx
    cases h2
    have h1 : t1 = TB := by simpa using h1
    subst h1
    obtain ⟨b, hb, rfl⟩ := one_ptr hrel
    obtain ⟨hB, us, ext, T, hheap, hus⟩ := hok.obj 1 b _ hb rfl
    obtain ⟨cs, hcs, hsz⟩ := hok.ty 1 b _ _ hb rfl rfl hTB
    rw [hheap] at hcs
    simp only [Option.some.injEq, Obj.cells.injEq] at hcs
    obtain ⟨rfl, rfl, _⟩ := hcs
    have hul := hus.len
    have hext : ext = [] := by
      apply List.eq_nil_of_length_eq_zero
      simp at hsz hul
      omega
    subst hext
    cases hus with
    | cons _ u0 _ us hu0 hus =>
      cases hu0
      cases hus with
      | cons _ u1 _ us hu1 hus =>
        cases hus
        refine (hfresh b w (by rw [Lib.cell_of_heap hheap]; rfl) (by simp [World.shape?, hheap]) (by rw [Lib.frozen_of_heap hheap 0])).mono ?_
        rintro e w' ⟨rfl, rfl⟩
        rw [setCell_row hheap]
        have hset := set_obj (cs' := [.ptr 1 0, q]) (vs' := [.pointer (some ⟨b, 0, none⟩), u1]) hok hb hheap (.cons _ _ _ _ (.ptr _ _ _ hb) (.cons _ _ _ _ hu1 .nil)) (fun c0 hc0 => by cases hc0; exact ⟨rfl, rfl⟩)
        exact ⟨_, rfl, H, hset.1, hset.2, .tup _ _ .nil⟩
  · rename_i o q tk t0 t1
    cases hx
    obtain ⟨b, hb, rfl⟩ := one_ptr hrel
    obtain ⟨hB, us, ext, T, hheap, hus⟩ := hok.obj 1 b _ hb rfl
    cases hus with
    | cons _ u0 _ us hu0 hus =>
      have hu0' : u0 = .pointer (some ⟨b, 0, none⟩) := by
        cases hu0 with
        | ptr _ _ b' hb' =>
          rw [hb] at hb'
          cases hb'
          rfl
      subst hu0'
      refine (hused b w (by rw [Lib.cell_of_heap hheap]; rfl)).mono ?_
      rintro e w' ⟨rfl, rfl⟩
      exact ⟨_, rfl, .same hok (.tup _ _ .nil)⟩
  · cases hx
/-! ### String -/
def D_String (T : TypeId) : List PV → Store → Tr (PV × Store)
  | [.ptr 1 0], ⟨[o, [p, .sl xs (.tok 0)]], [(v, 1, e)], ty⟩ => Tr.chk (okBytes xs) (Tr.chk (bNot (xNil xs)) (Tr.chk (nEq v (nXs xs)) (Tr.chk (e == T) (.ret (.str (unBytes xs), ⟨[o, [p, .sl xs (.tok 0)]], [(maxLen + 1, 1, e)], ty⟩)))))
  | _, _ => .fail

set_option maxRecDepth 100000 in
theorem Any.Builder_String_at (L : Lays.n169 P ρ) (X : Builder.Extra P ρ) (b g cap : Nat) (l : List UInt8) (w : World) (p : Value) (cs cur : Array Value) (T : TypeId) (fz : Nat × Nat)
    (hbk : w.cell? ⟨b, 1, none⟩ = some (.slice (some ⟨g, 0, none⟩) l.length cap)) (hg : w.heap[g]? = some (.cells cur (ρ.t 5) fz)) (hnc : l.length ≤ cap) (hcm : cap ≤ maxLen) (hcs : cur.size = cap)
    (hcell : ∀ j x, l[j]? = some x → w.cell? ((⟨g, 0, none⟩ : Addr).add j) = some (.int .u8 x.toNat)) (h0 : l ≠ []) :
    Calls P (ρ.f 169) #[.pointer (some ⟨b, 0, none⟩)] w fun e w' => e = .returned (.string ⟨l.toArray⟩) ∧ w' = w.drew.freeze ⟨g, 0, none⟩ l.length := by
  have hl0 : l.length ≠ 0 := by simpa using h0
  have c1 : w.drew.cell? ⟨b, 1, none⟩ = some (.slice (some ⟨g, 0, none⟩) l.length cap) := hbk
  have hSD : (Builtin.unsafeSliceData_ #[(ρ.t 37)] (ρ.t 127) #[.slice (some ⟨g, 0, none⟩) l.length cap]).run P w.drew = .ok (.pointer (some ⟨g, 0, none⟩)) w.drew :=
    Lib.run_unsafeSliceData_row _ _ _ _ _ _ (by omega)
  have hUS : (Builtin.unsafeString_ #[(ρ.t 127), (ρ.t 3)] (ρ.t 9) #[.pointer (some ⟨g, 0, none⟩), .int .i64 l.length]).run P w.drew = .ok (.string ⟨l.toArray⟩) (w.drew.freeze ⟨g, 0, none⟩ l.length) := by
    refine Lib.run_unsafeString_row w.drew (ρ.t 127) (ρ.t 3) (ρ.t 9) (ρ.t 5) L.t127 X.cellsByte g cur.size (by have hg' : w.drew.heap[g]? = some (.cells cur (ρ.t 5) fz) := hg; simp [World.shape?, hg']) l h0 (by omega) (by unfold maxLen at hcm; omega) ?_
    intro j x hx
    exact hcell j x hx
  have mixed := L.mixed
  have t72 := L.t72; have a72 := L.a72; have z72 := L.z72; have v72 := L.v72; have u72 := run_underlying L.t72
  have t70 := L.t70; have a70 := L.a70; have z70 := L.z70; have v70 := L.v70; have u70 := run_underlying L.t70
  have t37 := L.t37; have a37 := L.a37; have z37 := L.z37; have v37 := L.v37; have u37 := run_underlying L.t37
  have t127 := L.t127; have a127 := L.a127; have z127 := L.z127; have v127 := L.v127; have u127 := run_underlying L.t127
  have t3 := L.t3; have a3 := L.a3; have z3 := L.z3; have v3 := L.v3; have u3 := run_underlying L.t3
  have t9 := L.t9; have a9 := L.a9; have z9 := L.z9; have v9 := L.v9; have u9 := run_underlying L.t9
  have t5 := X.t5; have a5 := X.a5; have z5 := X.z5; have v5 := X.v5; have u5 := run_underlying X.t5
  go_enter L.f169, Body.n169_ntmps ρ
  go_wp2
  go_region_o
  all_goals (go_wp2; go_ret; exact ⟨rfl, rfl⟩)

theorem Any.sim_String (L : Lays.n169 P ρ) (X : Builder.Extra P ρ) (hent : ∃ fn, P.funcs[ρ.f 169]? = some fn ∧ (fn.name == "runtime.NumGoroutine") = false ∧ fn.body.isNone = false) : SimS P gl (ρ.f 169) fun args σ => (D_String (ρ.t 5) args σ).run := by
  refine ⟨hent, ?_⟩
  intro args σ x σ' hx H w vs hok hrel
  unfold D_String at hx
  split at hx
  · rename_i o p xs v e ty
    obtain ⟨h1, q1⟩ := Tr.chk_some hx
    obtain ⟨h2, q2⟩ := Tr.chk_some q1
    obtain ⟨h3, q3⟩ := Tr.chk_some q2
    obtain ⟨h4, q4⟩ := Tr.chk_some q3
    clear hx q1 q2 q3
    have h4 : e = ρ.t 5 := by simpa using h4
    subst h4
    simp at h2 h3
    subst h3
    cases q4
    unfold okBytes unBytes at *
    cases hl : pbytes xs with
    | none => simp [hl] at h1
    | some l =>
      obtain ⟨b, hb, rfl⟩ := one_ptr hrel
      obtain ⟨hB, us, ext, T, hheap, hus⟩ := hok.obj 1 b _ hb rfl
      cases hus with
      | cons _ u0 _ us hu0 hus =>
        cases hus with
        | cons _ u1 _ us hu1 hus =>
          cases hus
          cases hu1 with
          | sl a len cap k _ vss _ hlen hcap hm hrr hrow htag =>
            obtain ⟨ns, rfl, rfl⟩ := pbytes_some hl
            have hvs := relLL_ints hrr
            subst hvs
            obtain ⟨U, hU, hUnz, hle, hUv⟩ := htag
            have hUs : (U.ver, U.k, U.e) = (len, 1, ρ.t 5) := by
              have hh := hok.tkl
              have : (H.tk.map fun T => (T.ver, T.k, T.e))[0]? = some (U.ver, U.k, U.e) := by rw [List.getElem?_map, hU]; rfl
              rw [hh] at this
              simp at this
              rw [← this.1, ← this.2.1, ← this.2.2]
              simp [← hlen]
            simp only [Prod.mk.injEq] at hUs
            obtain ⟨hUver, hUk, hUe⟩ := hUs
            obtain ⟨rfl, hcapU, hkU⟩ := hUv hUver.symm
            obtain ⟨hBT, hTob, ob, hcur, hTO⟩ := hok.tok 0 U hU
            obtain ⟨cur, fz, rfl, hvc, hcm, hcs⟩ : ∃ cur fz, ob = .cells cur U.e fz ∧ (U.ver ≤ maxLen → fz = (0, 0) ∧ U.ver ≤ U.cap) ∧ U.cap ≤ maxLen ∧ cur.size = U.cap * U.k := by
              rcases hTO with ⟨_, hc⟩ | ⟨hz, _⟩
              · exact hc
              · exact absurd hz hUnz
            have hln : (ns.map fun n => UInt8.ofNat n.toNat).length = len := by simpa using hlen
            have hk1 : k = 1 := by rw [hkU, hUk]
            subst hk1
            have hln : ns.length = len := by simpa using hlen
            have hwf : ∀ (j : Nat) (n : Int), ns[j]? = some n → 0 ≤ n ∧ n < 256 := by
              intro j n hj
              have := (relLL_iff.1 hrr).2 j [.int .u8 n] [.int .u8 n] (by simp [hj]) (by simp [hj])
              cases this with
              | cons _ _ _ _ hv _ =>
                cases hv with
                | int _ _ hwf => simp [Lit.wf, IntKind.min, IntKind.max, IntKind.signed, IntKind.bits] at hwf; omega
            have hll : (ns.map fun n => UInt8.ofNat n.toNat).length = len := by simpa using hln
            refine (Any.Builder_String_at L X b U.blk cap (ns.map fun n => UInt8.ofNat n.toNat) w u0 #[] cur T fz (by rw [hll, Lib.cell_of_heap hheap]; rfl) (by rw [← hUe]; exact hcur) (by rw [hll]; exact hcap) hm (by rw [hcs, hUk, hcapU, Nat.mul_one]) ?_ ?_).mono ?_
            · intro j x hj
              rw [List.getElem?_map] at hj
              cases hn : ns[j]? with
              | none => simp [hn] at hj
              | some n =>
                simp [hn] at hj
                subst hj
                have hb := hwf j n hn
                obtain ⟨hk, a', ha', hcell⟩ := hrow j [.int .u8 n] (by simp [hn])
                injection ha' with ha'
                subst ha'
                have := (hcell 0 _ rfl).2
                rw [Nat.mul_one, add_add, Nat.add_zero] at this
                rw [this]
                simp
                omega
            · intro hnil
              apply h2
              simpa using hnil
            · rintro e w' ⟨rfl, rfl⟩
              rw [hll]
              have hcur' : w.drew.heap[U.blk]? = some (.cells cur U.e fz) := hcur
              obtain ⟨fz', hfz'⟩ := freeze_at (n := len) hcur'
              have hrest := freeze_rest w.drew U.blk len
              have hset := set_tok' (T' := ⟨U.blk, maxLen + 1, U.cap, U.k, U.e⟩) (w' := w.drew.freeze ⟨U.blk, 0, none⟩ len) hok hU hUnz rfl (by show U.ver < maxLen + 1; omega) hcm (fun _ => by rw [freeze_drawn]; exact Nat.le_succ _) hrest.1 hrest.2.1 hrest.2.2 (by rw [freeze_size]; exact Nat.le_refl _) (.inl rfl)
                (fun k _ hk => freeze_other w.drew U.blk len k hk) (fz' := fz') (by intro h; simp at h; omega) hcur hfz' hcs (fun _ off _ => rfl)
              refine ⟨_, rfl, _, hset.1, ?_, ?_⟩
              · have := hset.2
                simpa [hUk, hUe] using this
              · exact .str (List.map (fun n => UInt8.ofNat n.toNat) ns) (by simp; omega)
  · cases hx
end Go.Pv

set_option maxHeartbeats 4000000
set_option maxRecDepth 200000
set_option linter.unusedSimpArgs false
set_option linter.unusedVariables false
namespace Go.Pv
open Go Go.Proofs Go.RowKit

/-! ### strings.Builder -/
section
variable (b : Nat) (w : World)
theorem copyCheck_used (h0 : w.cell? ⟨b, 0, none⟩ = some (.pointer (some ⟨b, 0, none⟩))) : Calls Tryd.prog 57 #[.pointer (some ⟨b, 0, none⟩)] w fun e w' => e = .returned (.tuple #[]) ∧ w' = w := by
  obtain ⟨j, hj, _⟩ : ∃ j, Tryd.prog.info? 62 = some j ∧ j.size = 2 := ⟨_, rfl, rfl⟩
  have mixed : Tryd.prog.follows .mixedOrders = true := noMixed
  have t72 := Tryd.underlying62; have a72 := Tryd.isAgg62; have z72 := Tryd.sizeOf62; have v72 := Tryd.zeroValue62; have u72 := run_underlying Tryd.underlying62
  have t70 := Tryd.underlying60; have a70 := Tryd.isAgg60; have z70 := Tryd.sizeOf60; have v70 := Tryd.zeroValue60; have u70 := run_underlying Tryd.underlying60
  have t164 := Tryd.underlying84; have a164 := Tryd.isAgg84; have z164 := Tryd.sizeOf84; have v164 := Tryd.zeroValue84; have u164 := run_underlying Tryd.underlying84
  go_enter Tryd.func57, Tryd.ntmps57
  go_wp2
  rw [Lib.run_neq_ptr_same w _ t70 hj]
  go_wp2
  go_end0
  exact ⟨rfl, rfl⟩
theorem copyCheck_fresh (h0 : w.cell? ⟨b, 0, none⟩ = some (.pointer none)) (hsh : w.shape? b = some (62, 2)) (hfz : w.frozen? ⟨b, 0, none⟩ = false) :
    Calls Tryd.prog 57 #[.pointer (some ⟨b, 0, none⟩)] w fun e w' => e = .returned (.tuple #[]) ∧ w' = w.setCell ⟨b, 0, none⟩ (.pointer (some ⟨b, 0, none⟩)) := by
  obtain ⟨j, hj, hjs⟩ : ∃ j, Tryd.prog.info? 62 = some j ∧ j.size = 2 := ⟨_, rfl, rfl⟩
  have mixed : Tryd.prog.follows .mixedOrders = true := noMixed
  have t72 := Tryd.underlying62; have a72 := Tryd.isAgg62; have z72 := Tryd.sizeOf62; have v72 := Tryd.zeroValue62; have u72 := run_underlying Tryd.underlying62
  have t70 := Tryd.underlying60; have a70 := Tryd.isAgg60; have z70 := Tryd.sizeOf60; have v70 := Tryd.zeroValue60; have u70 := run_underlying Tryd.underlying60
  have t164 := Tryd.underlying84; have a164 := Tryd.isAgg84; have z164 := Tryd.sizeOf84; have v164 := Tryd.zeroValue84; have u164 := run_underlying Tryd.underlying84
  go_enter Tryd.func57, Tryd.ntmps57
  go_wp2
  rw [Lib.run_to_unsafe w ⟨b, 0, none⟩ t70 t164 hj (by rw [hjs]; decide) hsh (Nat.zero_lt_succ 1)]
  simp only [Result.andThen]
  rw [Oper.upon_value]
  go_wp2
  rw [run_callFunc_extern Tryd.func66 (by kernel_rfl) (by kernel_rfl) (by kernel_rfl) (e := Extern.AbiNoEscape.same) (by kernel_rfl)]
  rw [Lib.run_noEscape]
  simp only [Result.andThen]
  rw [Oper.upon_value]
  go_wp2
  rw [Lib.run_from_unsafe w ⟨b, 0, none⟩ t164 t70 hj hsh (by kernel_rfl)]
  simp only [Result.andThen]
  rw [Oper.upon_value]
  go_wp2
  go_end0
  exact ⟨rfl, rfl⟩
end
theorem sim_copyCheck (gl : Gl) : SimS Tryd.prog gl 57 fun args σ => (D_copyCheck 62 args σ).run :=
  sim_copyCheck_of (by decide) (fun b w => copyCheck_fresh b w) (fun b w => copyCheck_used b w) ⟨_, Tryd.func57, by rfl, by rfl⟩
theorem sim_String (gl : Gl) : SimS Tryd.prog gl 42 fun args σ => (D_String 5 args σ).run :=
  Any.sim_String Tryd.lays169 Tryd.Builder_Extra_169 ⟨_, Tryd.func42, by rfl, by rfl⟩

def D_WB : List PV → Store → Tr (PV × Store)
  | [.ptr 1 0, .int .u8 c], ⟨[o, [.nilp, .sl [] .full]], [], [t0, 62]⟩ => .ret (.nili, ⟨[o, [.ptr 1 0, .sl [[.int .u8 c]] (.tok 0)]], [(1, 1, 5)], [t0, 62]⟩)
  | [.ptr 1 0, .int .u8 c], ⟨[o, [.ptr 1 0, .sl xs (.tok 0)]], [(v, 1, 5)], [t0, 62]⟩ => Tr.chk (okGrow xs [[.int .u8 c]] 1) (Tr.chk (okSize xs 1) (Tr.chk (nEq v (nXs xs))
      (.ret (.nili, ⟨[o, [.ptr 1 0, .sl (xApp xs [[.int .u8 c]]) (.tok 0)]], [(nXs (xApp xs [[.int .u8 c]]), 1, 5)], [t0, 62]⟩))))
  | _, _ => .fail
theorem sim_WB (gl : Gl) : SimS Tryd.prog gl 87 fun args σ => (D_WB args σ).run := by
  refine SimS.of_tree (G := ofL [(57, .store (D_copyCheck 62))]) (L := fun _ _ _ => .fail) tbT_ok (gamOk_store (sim_copyCheck gl) gamOk_nil) noMixed Tryd.func87 rfl (by rfl) (by kernel_rfl) (loopOk_none (by kernel_rfl)) ?_
  intro args σ x σ' h hr
  unfold D_WB at h
  split at h
  · rename_i c o t0
    cases h
    refine Tr.run_as (Tr.ite true
        (Tr.ite (okGrow [] [[PV.int IntKind.u8 c]] 1)
          (Tr.ite (okNews [[PV.int IntKind.u8 c]] 1)
            (Tr.ite (okSize [] 1) (Tr.ret (PV.nili, Store.mk [o, [PV.ptr 1 0, PV.sl (xApp [] [[PV.int IntKind.u8 c]]) (Tag.tok 0)]] [(nXs (xApp [] [[PV.int IntKind.u8 c]]), 1, 5)] [t0, 62])) Tr.fail)
            Tr.fail)
          Tr.fail)
        Tr.fail) (by kernel_rfl) ?_
    simp [one]
  · rename_i c o xs v t0
    obtain ⟨h1, q1⟩ := Tr.chk_some h
    obtain ⟨h2, q2⟩ := Tr.chk_some q1
    obtain ⟨h3, q3⟩ := Tr.chk_some q2
    cases q3
    refine Tr.run_as (Tr.ite (okGrow xs [[PV.int IntKind.u8 c]] 1)
        (Tr.ite (okNews [[PV.int IntKind.u8 c]] 1)
          (Tr.ite (okSize xs 1)
            (Tr.ite (nEq v (nXs xs)) (Tr.ret (PV.nili, Store.mk [o, [PV.ptr 1 0, PV.sl (xApp xs [[PV.int IntKind.u8 c]]) (Tag.tok 0)]] [(nXs (xApp xs [[PV.int IntKind.u8 c]]), 1, 5)] [t0, 62])) Tr.fail)
            Tr.fail)
          Tr.fail)
        Tr.fail) (by kernel_rfl) ?_
    simp at h1 h2 h3
    simp [h1, h2, h3, one]
  · cases h
def D_WS : List PV → Store → Tr (PV × Store)
  | [.ptr 1 0, .str l], ⟨[o, [.ptr 1 0, .sl xs (.tok 0)]], [(v, 1, 5)], [t0, 62]⟩ => Tr.chk (bNot (xNil (bytesOf l))) (Tr.chk (okGrow xs (bytesOf l) 1) (Tr.chk (okSize xs 1) (Tr.chk (nEq v (nXs xs))
      (.ret (.tup [.int .i64 (sLen l), .nili], ⟨[o, [.ptr 1 0, .sl (xApp xs (bytesOf l)) (.tok 0)]], [(nXs (xApp xs (bytesOf l)), 1, 5)], [t0, 62]⟩)))))
  | _, _ => .fail
theorem sim_WS (gl : Gl) : SimS Tryd.prog gl 41 fun args σ => (D_WS args σ).run := by
  refine SimS.of_tree (G := ofL [(57, .store (D_copyCheck 62))]) (L := fun _ _ _ => .fail) tbT_ok (gamOk_store (sim_copyCheck gl) gamOk_nil) noMixed Tryd.func41 rfl (by rfl) (by kernel_rfl) (loopOk_none (by kernel_rfl)) ?_
  intro args σ x σ' h hr
  unfold D_WS at h
  split at h
  · rename_i l o xs v t0
    obtain ⟨h0, q0⟩ := Tr.chk_some h
    obtain ⟨h1, q1⟩ := Tr.chk_some q0
    obtain ⟨h2, q2⟩ := Tr.chk_some q1
    obtain ⟨h3, q3⟩ := Tr.chk_some q2
    cases q3
    refine Tr.run_as (Tr.ite (okGrow xs (bytesOf l) 1)
        (Tr.ite (okNews (bytesOf l) 1)
          (Tr.ite (okSize xs 1)
            (Tr.ite (xNil (bytesOf l)) (Tr.ret (PV.tup [PV.int IntKind.i64 (sLen l), PV.nili], Store.mk [o, [PV.ptr 1 0, PV.sl xs (Tag.tok 0)]] [(v, 1, 5)] [t0, 62]))
              (Tr.ite (nEq v (nXs xs))
                (Tr.ret (PV.tup [PV.int IntKind.i64 (sLen l), PV.nili], Store.mk [o, [PV.ptr 1 0, PV.sl (xApp xs (bytesOf l)) (Tag.tok 0)]] [(nXs (xApp xs (bytesOf l)), 1, 5)] [t0, 62])) Tr.fail))
            Tr.fail)
          Tr.fail)
        Tr.fail) (by kernel_rfl) ?_
    simp at h0 h1 h2 h3
    simp [h0, h1, h2, h3]
  · cases h

/-! ### value.Text -/
def textW (k n : Int) (s : List UInt8) : List UInt8 := if isV k n s = true then (if k = 1 then itoaV n else symV s) else []
def F_Text : List PV → Tr PV
  | [.agg [.int .i64 k, .int .i64 n, .str s]] => .ret (.tup [.str (textW k n s), .int .i64 (checkV k n s)])
  | _ => .fail
def d_Text : List PV → Store → Option (Int × Int × List UInt8 × Int × Int)
  | [.ptr 0 0, .ptr 1 0, .int .i64 m, .int .i64 i], ⟨[[.int .i64 k, .int .i64 n, .str s], [.ptr 1 0, .sl [[.int .u8 34]] (.tok 0)]], [(1, 1, 5)], [35, 62]⟩ => some (k, n, s, m, i)
  | _, _ => none
def st_Text (k n : Int) (s : List UInt8) (b : List UInt8) : Store := ⟨[[.int .i64 k, .int .i64 n, .str s], [.ptr 1 0, .sl (bytesOf b) (.tok 0)]], [(nLen b, 1, 5)], [35, 62]⟩
def r_Text : Int × Int × List UInt8 × Int × Int → Tr (PExit × List (Nat × PV) × Store)
  | (k, n, s, m, i) => Tr.chk (iEq i 0) (Tr.chk (iEq m (sLen s)) (Tr.chk (iLe (sLen s) 256) (.ret (.exit 0, [(1, .ptr 0 0), (5, .ptr 1 0)], ⟨[[.int .i64 k, .int .i64 n, .str s], [.ptr 1 0, .sl (bytesOf (symH s)) (.tok 0)]], [(nLen (symH s), 1, 5)], [35, 62]⟩))))
def L_Text : LpsT := fun r fr σ => if r = 9 then oracle 34 [1, 5, 21, 22] d_Text r_Text fr σ else .fail
noncomputable def c_Text : Code := loopN Tryd.f75 0
theorem loop_Text (gl : Gl) : ∀ vs σ a e out σ', d_Text vs σ = some a → (r_Text a).run = some (e, out, σ') → LDoes Tryd.prog gl c_Text (mk 34 ([1, 5, 21, 22].zip vs)) σ e (mk 34 out) σ' := by
  intro vs st a e out σ' hd hr
  unfold d_Text at hd
  split at hd
  · rename_i m i k n s
    cases hd
    obtain ⟨h1, h2⟩ := Tr.chk_some hr
    obtain ⟨h3, h4⟩ := Tr.chk_some h2
    obtain ⟨h5, h6⟩ := Tr.chk_some h4
    simp at h1 h3 h5
    subst h1 h3
    clear hr h2 h4
    cases h6
    have hG : GamOk Tryd.prog gl (gam (ofL [(88, .pure F_one), (41, .store D_WS)])) := gamOk_cons (sim_one gl) (gamOk_store (sim_WS gl) gamOk_nil)
    have key : ∀ (m : Nat) (i : Int) (b : List UInt8), 0 ≤ i → i + m = s.length → b ++ symB (s.drop i.toNat) = symH s → b.length ≤ 1 + 4 * i.toNat →
        LDoes Tryd.prog gl c_Text (mk 34 ([1, 5, 21, 22].zip [.ptr 0 0, .ptr 1 0, .int .i64 (sLen s), .int .i64 i])) (st_Text k n s b) (.exit 0) (mk 34 [(1, .ptr 0 0), (5, .ptr 1 0)]) (st_Text k n s (symH s)) := by
      intro m
      induction m with
      | zero =>
        intro i b h0 hi hf hb
        have e1 : s.drop i.toNat = [] := by apply List.drop_eq_nil_of_le; omega
        rw [e1] at hf
        simp [symB] at hf
        subst hf
        unfold st_Text
        refine LDoes.round tbT_ok hG noMixed (L := fun _ _ _ => .fail) (loopOk_none (by kernel_rfl)) (by kernel_rfl) ?_
        refine Tr.all_as (Tr.ite (iLt i (sLen s))
            (Tr.ite (okIdx s i)
              (Tr.ite (bNot (xNil (bytesOf (oneV (sAt s i)))))
                (Tr.ite (okGrow (bytesOf (symH s)) (bytesOf (oneV (sAt s i))) 1)
                  (Tr.ite (okSize (bytesOf (symH s)) 1)
                    (Tr.ite (nEq (nLen (symH s)) (nXs (bytesOf (symH s))))
                      (Tr.ret
                        (PExit.normal, [23],
                          [PV.top, PV.ptr 0 0, PV.top, PV.top, PV.top, PV.ptr 1 0, PV.int IntKind.i64 i, PV.top, PV.top, PV.top, PV.top, PV.top, PV.top, PV.top, PV.top, PV.top, PV.top, PV.top, PV.top, PV.top,
                            PV.top, PV.int IntKind.i64 (sLen s), PV.int IntKind.i64 (iAdd IntKind.i64 i 1), PV.bool true, PV.int IntKind.i64 i, PV.ptr 0 2, PV.str s, PV.int IntKind.i64 i,
                            PV.int IntKind.u8 (sAt s i), PV.str (oneV (sAt s i)), PV.tup [PV.int IntKind.i64 (sLen (oneV (sAt s i))), PV.nili], PV.int IntKind.i64 (iAdd IntKind.i64 i 1), PV.top, PV.top],
                          Store.mk [[PV.int IntKind.i64 k, PV.int IntKind.i64 n, PV.str s], [PV.ptr 1 0, PV.sl (xApp (bytesOf (symH s)) (bytesOf (oneV (sAt s i)))) (Tag.tok 0)]]
                            [(nXs (xApp (bytesOf (symH s)) (bytesOf (oneV (sAt s i)))), 1, 5)] [35, 62]))
                      Tr.fail)
                    Tr.fail)
                  Tr.fail)
                Tr.fail)
              Tr.fail)
            (Tr.ret
              (PExit.exit 0, [23],
                [PV.top, PV.ptr 0 0, PV.top, PV.top, PV.top, PV.ptr 1 0, PV.top, PV.top, PV.top, PV.top, PV.top, PV.top, PV.top, PV.top, PV.top, PV.top, PV.top, PV.top, PV.top, PV.top, PV.top,
                  PV.int IntKind.i64 (sLen s), PV.int IntKind.i64 i, PV.bool false, PV.top, PV.top, PV.top, PV.top, PV.top, PV.top, PV.top, PV.top, PV.top, PV.top],
                Store.mk [[PV.int IntKind.i64 k, PV.int IntKind.i64 n, PV.str s], [PV.ptr 1 0, PV.sl (bytesOf (symH s)) (Tag.tok 0)]] [(nLen (symH s), 1, 5)] [35, 62]))) (by kernel_rfl) ?_
        exact Tr.all_f (by simp; omega) ⟨rfl, by simp [Weak, mk, mkFrom, look], rfl⟩
      | succ m ih =>
        intro i b h0 hi hf hb
        obtain ⟨v, hv⟩ := get_lt (l := s) (i := i.toNat) (by omega)
        rw [drop_of_get hv] at hf
        have hone := oneV_len v.toNat
        have e2 : (i + 1).toNat = i.toNat + 1 := by omega
        unfold st_Text
        refine LDoes.round tbT_ok hG noMixed (L := fun _ _ _ => .fail) (loopOk_none (by kernel_rfl)) (by kernel_rfl) ?_
        refine Tr.all_as (Tr.ite (iLt i (sLen s))
            (Tr.ite (okIdx s i)
              (Tr.ite (bNot (xNil (bytesOf (oneV (sAt s i)))))
                (Tr.ite (okGrow (bytesOf b) (bytesOf (oneV (sAt s i))) 1)
                  (Tr.ite (okSize (bytesOf b) 1)
                    (Tr.ite (nEq (nLen b) (nXs (bytesOf b)))
                      (Tr.ret
                        (PExit.normal, [23],
                          [PV.top, PV.ptr 0 0, PV.top, PV.top, PV.top, PV.ptr 1 0, PV.int IntKind.i64 i, PV.top, PV.top, PV.top, PV.top, PV.top, PV.top, PV.top, PV.top, PV.top, PV.top, PV.top, PV.top, PV.top,
                            PV.top, PV.int IntKind.i64 (sLen s), PV.int IntKind.i64 (iAdd IntKind.i64 i 1), PV.bool true, PV.int IntKind.i64 i, PV.ptr 0 2, PV.str s, PV.int IntKind.i64 i,
                            PV.int IntKind.u8 (sAt s i), PV.str (oneV (sAt s i)), PV.tup [PV.int IntKind.i64 (sLen (oneV (sAt s i))), PV.nili], PV.int IntKind.i64 (iAdd IntKind.i64 i 1), PV.top, PV.top],
                          Store.mk [[PV.int IntKind.i64 k, PV.int IntKind.i64 n, PV.str s], [PV.ptr 1 0, PV.sl (xApp (bytesOf b) (bytesOf (oneV (sAt s i)))) (Tag.tok 0)]]
                            [(nXs (xApp (bytesOf b) (bytesOf (oneV (sAt s i)))), 1, 5)] [35, 62]))
                      Tr.fail)
                    Tr.fail)
                  Tr.fail)
                Tr.fail)
              Tr.fail)
            (Tr.ret
              (PExit.exit 0, [23],
                [PV.top, PV.ptr 0 0, PV.top, PV.top, PV.top, PV.ptr 1 0, PV.top, PV.top, PV.top, PV.top, PV.top, PV.top, PV.top, PV.top, PV.top, PV.top, PV.top, PV.top, PV.top, PV.top, PV.top,
                  PV.int IntKind.i64 (sLen s), PV.int IntKind.i64 i, PV.bool false, PV.top, PV.top, PV.top, PV.top, PV.top, PV.top, PV.top, PV.top, PV.top, PV.top],
                Store.mk [[PV.int IntKind.i64 k, PV.int IntKind.i64 n, PV.str s], [PV.ptr 1 0, PV.sl (bytesOf b) (Tag.tok 0)]] [(nLen b, 1, 5)] [35, 62]))) (by kernel_rfl) ?_
        rw [sAt_get hv, xApp_bytes, nXs_bytes, nXs_bytes]
        refine Tr.all_t (by simp; omega) <| Tr.all_t (okIdx_get h0 hv) <| Tr.all_t (by rw [xNil_bytes hone.1]; rfl) <| Tr.all_t (okGrow_bytes (by omega)) <| Tr.all_t (okSize_bytes _) <| Tr.all_t (by simp) ?_
        refine LDoes.into ?_ (ih (i + 1) (b ++ oneV v.toNat) (by omega) (by omega) (by rw [← hf, e2]; simp [symB]) (by simp; omega))
        simp [Weak, mk, mkFrom, look, iAdd, wrap_i64 (n := i + 1) (by omega)]
    have hz := key s.length 0 [34] (by omega) (by omega) (by simp [symH]) (by simp)
    exact hz
  · cases hd
theorem sim_Text {gl : Gl} (hgl : GlPow gl) : SimP Tryd.prog gl 75 fun args => (F_Text args).run := by
  refine SimP.of_tree (G := ofL [(85, .pure F_Check), (86, .pure F_FormatInt), (87, .store D_WB), (42, .store (D_String 5))]) (L := L_Text) tbT_ok (gamOk_cons (sim_Check gl) (gamOk_cons (sim_FormatInt hgl) (gamOk_store (sim_WB gl) (gamOk_store (sim_String gl) gamOk_nil)))) noMixed Tryd.func75 rfl (by rfl) (by kernel_rfl) (loopOk_one (r := 9) (c1 := c_Text) (by kernel_rfl) ?_) ?_
  · intro fr σ e fr' σ' hh
    simp only [lps, L_Text, if_true] at hh
    exact oracle_ok (loop_Text gl) fr σ e fr' σ' hh
  intro args x h hr
  unfold F_Text at h
  split at h
  · rename_i k n s
    cases h
    refine Tr.run_as (Tr.ite (iNe (checkV k n s) 0) (Tr.ret (PV.tup [PV.str [], PV.int IntKind.i64 (checkV k n s)]))
        (Tr.ite (iEq k 1) (Tr.ite (iEq 10 10) (Tr.ret (PV.tup [PV.str (itoaV n), PV.int IntKind.i64 0])) Tr.fail)
          (Tr.ite (iEq 0 0)
            (Tr.ite (iEq (sLen s) (sLen s))
              (Tr.ite (iLe (sLen s) 256)
                (Tr.ite (okGrow (bytesOf (symH s)) [[PV.int IntKind.u8 34]] 1)
                  (Tr.ite (okSize (bytesOf (symH s)) 1)
                    (Tr.ite (nEq (nLen (symH s)) (nXs (bytesOf (symH s))))
                      (Tr.ite (okBytes (xApp (bytesOf (symH s)) [[PV.int IntKind.u8 34]]))
                        (Tr.ite (bNot (xNil (xApp (bytesOf (symH s)) [[PV.int IntKind.u8 34]])))
                          (Tr.ite (nEq (nXs (xApp (bytesOf (symH s)) [[PV.int IntKind.u8 34]])) (nXs (xApp (bytesOf (symH s)) [[PV.int IntKind.u8 34]])))
                            (Tr.ite true (Tr.ret (PV.tup [PV.str (unBytes (xApp (bytesOf (symH s)) [[PV.int IntKind.u8 34]])), PV.int IntKind.i64 0])) Tr.fail) Tr.fail)
                          Tr.fail)
                        Tr.fail)
                      Tr.fail)
                    Tr.fail)
                  Tr.fail)
                Tr.fail)
              Tr.fail)
            Tr.fail))) (by kernel_rfl) ?_
    rw [checkV_is]
    cases hI : isV k n s with
    | false => simp [textW, hI]
    | true =>
      by_cases hk : k = 1
      · subst hk
        simp [textW, hI]
      · have h2 : s.length ≤ 256 := by
          unfold isV at hI
          simp at hI
          omega
        have e3 : ([[PV.int .u8 34]] : List (List PV)) = bytesOf [34] := rfl
        have hs := symB_len s
        have hl : (symH s).length = 1 + (symB s).length := by simp [symH]; omega
        have e4 : okGrow (bytesOf (symH s)) (bytesOf [34]) 1 = true := okGrow_bytes (by simp; omega)
        have e5 : symV s = symH s ++ [34] := by simp [symV, symH]
        have e6 : ¬ (symH s ++ [34] = []) := by simp
        rw [e3]
        simp [textW, hI, hk, xApp_bytes, e4, e5, nXs_bytes, -okGrow_eq, -xApp_eq]
        exact ⟨by omega, by simp [bytesOf]⟩
  · cases h
end Go.Pv

set_option maxHeartbeats 4000000
set_option maxRecDepth 200000
set_option linter.unusedSimpArgs false
set_option linter.unusedVariables false
namespace Go.Pv
open Go Go.Proofs Go.RowKit

theorem sSub_tail (s : List UInt8) (n : Nat) : sSub s n (nLen s) = s.drop n := by simp
theorem iEq_byte_ne {c k : UInt8} (h : c ≠ k) : iEq (c.toNat : Int) (k.toNat : Int) = false := by
  simp only [iEq_eq, decide_eq_false_iff_not]
  intro e
  exact h (UInt8.toNat_inj.1 (by omega))
theorem iEq_byte_eq {c k : UInt8} (h : c = k) : iEq (c.toNat : Int) (k.toNat : Int) = true := by
  subst h
  simp
theorem sAt_rng (s : List UInt8) (n : Int) : 0 ≤ sAt s n ∧ sAt s n < 256 := by
  have := (s.getD n.toNat 0).toNat_lt
  simp only [sAt_eq]
  omega
theorem dv_rng : ∀ (l : List UInt8) (c i : Int), 0 ≤ i → i + l.length ≤ 16 → 0 ≤ dv l c i ∧ dv l c i ≤ 16
  | [], c, i, h, hl => by simp [dv]
  | b :: l, c, i, h, hl => by
    have := dv_rng l c (i + 1) (by omega) (by simp at hl; omega)
    unfold dv
    split
    · simp at hl; omega
    · exact this
theorem digV_rng (c : Int) : 0 ≤ digV c ∧ digV c ≤ 16 := dv_rng hexL c 0 (by omega) (by decide)
theorem hexB_rng {a b : Int} (ha : 0 ≤ a ∧ a ≤ 16) (hb : 0 ≤ b ∧ b ≤ 16) : 0 ≤ iOr .u8 (iShl .u8 a 4) b ∧ iOr .u8 (iShl .u8 a 4) b < 256 := by
  have key : ∀ (x y : Fin 17), 0 ≤ iOr .u8 (iShl .u8 (x.val : Int) 4) (y.val : Int) ∧ iOr .u8 (iShl .u8 (x.val : Int) 4) (y.val : Int) < 256 := by decide +kernel
  have := key ⟨a.toNat, by omega⟩ ⟨b.toNat, by omega⟩
  have e1 : ((a.toNat : Nat) : Int) = a := by omega
  have e2 : ((b.toNat : Nat) : Int) = b := by omega
  rwa [e1, e2] at this
theorem escB_rng (s : List UInt8) : 0 ≤ escB s ∧ escB s < 256 := by
  have h1 := sAt_rng s 0
  have h2 := hexB_rng (digV_rng (sAt s 1)) (digV_rng (sAt s 2))
  unfold escB
  repeat' split
  all_goals first | exact h1 | exact h2 | omega
theorem escN_rng (s : List UInt8) : 0 ≤ escN s ∧ escN s ≤ s.length := by
  unfold escN
  by_cases h : s = []
  · simp [h]
  · have := List.length_pos_iff.2 h
    repeat' split
    all_goals omega

/-! ### value.symbol -/
def decP (s : List UInt8) : Option (List UInt8) := match s with
  | [] => some []
  | c :: t => if c = 92 then (if escN t = 0 then none else (decP (t.drop (escN t).toNat)).map (UInt8.ofNat (escB t).toNat :: ·)) else (decP t).map (c :: ·)
  termination_by s.length
  decreasing_by all_goals (simp; try omega)
def okDec (s : List UInt8) : Bool := (decP s).isSome
def decV (s : List UInt8) : List UInt8 := (decP s).getD []
def decL (s : List UInt8) : Nat := match s with
  | [] => 0
  | c :: t => if c = 92 then (if escN t = 0 then 0 else decL (t.drop (escN t).toNat) + 1) else decL t + 1
  termination_by s.length
  decreasing_by all_goals (simp; try omega)
def badL (s : List UInt8) : Nat := decL s
def F_symbol : List PV → Tr PV
  | [.str s] => Tr.chk (okLen s) (.ite (okDec s) (.ret (.tup [.sl (bytesOf (decV s)) .non, .bool true])) (.ret (.tup [.sl [] .non, .bool false])))
  | _ => .fail
def d_symbol : List PV → Store → Option (List UInt8)
  | [.str s, .sl [] .full], ⟨[], [], []⟩ => some s
  | _, _ => none
def r_symbol : List UInt8 → Tr (PExit × List (Nat × PV) × Store)
  | s => Tr.chk (okLen s) (.ite (okDec s) (.ite (sEq (decV s) []) (.ret (.exit 0, [(4, .sl [] .full)], ⟨[], [], []⟩)) (.ret (.exit 0, [(4, .sl (bytesOf (decV s)) (.tok 0))], ⟨[], [(nLen (decV s), 1, 5)], []⟩))) (.ite (nEq (badL s) 0) (.ret (.ret, [(2, .sl [] .full), (3, .bool false)], ⟨[], [], []⟩)) (.ret (.ret, [(2, .sl [] .full), (3, .bool false)], ⟨[], [(badL s, 1, 5)], []⟩))))
def L_symbol : LpsT := fun r fr σ => if r = 2 then oracle 32 [0, 4] d_symbol r_symbol fr σ else .fail
noncomputable def c_symbol : Code := loopN Tryd.f73 0
theorem loop_symbol (gl : Gl) : ∀ vs σ a e out σ', d_symbol vs σ = some a → (r_symbol a).run = some (e, out, σ') → LDoes Tryd.prog gl c_symbol (mk 32 ([0, 4].zip vs)) σ e (mk 32 out) σ' := by
  intro vs st a e out σ' hd hr
  unfold d_symbol at hd
  split at hd
  · rename_i s
    injection hd with hd
    subst hd
    obtain ⟨hlen, hr⟩ := Tr.chk_some hr
    simp at hlen
    have hG : GamOk Tryd.prog gl (gam (ofL [(82, .pure F_escape)])) := gamOk_cons (sim_escape gl) gamOk_nil
    have key : ∀ (k : Nat) (b s : List UInt8), s.length ≤ k → b ≠ [] → b.length + s.length ≤ 140737488355328 →
       (match decP s with
        | some x => (PExit.exit 0, [(4, PV.sl (bytesOf (b ++ x)) (.tok 0))], (⟨[], [(nLen (b ++ x), 1, 5)], []⟩ : Store))
        | none => (.ret, [(2, .sl [] .full), (3, .bool false)], ⟨[], [(b.length + decL s, 1, 5)], []⟩)) = (e, out, σ') →
       LDoes Tryd.prog gl c_symbol (mk 32 ([0, 4].zip [.str s, .sl (bytesOf b) (.tok 0)])) ⟨[], [(nLen b, 1, 5)], []⟩ e (mk 32 out) σ' := by
      intro k
      have base : ∀ (b : List UInt8), b ≠ [] → (PExit.exit 0, [(4, PV.sl (bytesOf b) (.tok 0))], (⟨[], [(nLen b, 1, 5)], []⟩ : Store)) = (e, out, σ') →
         LDoes Tryd.prog gl c_symbol (mk 32 ([0, 4].zip [.str [], .sl (bytesOf b) (.tok 0)])) ⟨[], [(nLen b, 1, 5)], []⟩ e (mk 32 out) σ' := by
        intro b hb h
        cases h
        refine LDoes.round tbT_ok hG noMixed (L := fun _ _ _ => .fail) (loopOk_none (by kernel_rfl)) (by kernel_rfl) ?_
        refine Tr.all_as (Tr.ite (sNe [] [])
            (Tr.ite (okIdx [] 0)
              (Tr.ite (okSub (okPos 1) true (nNat 1) (nLen []) (nLen []))
                (Tr.ite (iEq (sAt [] 0) 92)
                  (Tr.ite (iEq (escN (sSub [] (nNat 1) (nLen []))) 0)
                    (Tr.ret
                      (PExit.ret, [3, 2, 22, 15, 9],
                        [PV.str (sSub [] (nNat 1) (nLen [])), PV.top, PV.sl [] Tag.full, PV.bool false, PV.sl (bytesOf b) (Tag.tok 0), PV.int IntKind.u8 (sAt [] 0),
                          PV.int IntKind.u8 (escB (sSub [] (nNat 1) (nLen []))), PV.int IntKind.i64 (escN (sSub [] (nNat 1) (nLen []))), PV.str [], PV.bool true, PV.str [], PV.int IntKind.u8 (sAt [] 0),
                          PV.str [], PV.str (sSub [] (nNat 1) (nLen [])), PV.int IntKind.u8 (sAt [] 0), PV.bool true,
                          PV.tup [PV.int IntKind.u8 (escB (sSub [] (nNat 1) (nLen []))), PV.int IntKind.i64 (escN (sSub [] (nNat 1) (nLen [])))], PV.str (sSub [] (nNat 1) (nLen [])),
                          PV.tup [PV.int IntKind.u8 (escB (sSub [] (nNat 1) (nLen []))), PV.int IntKind.i64 (escN (sSub [] (nNat 1) (nLen [])))], PV.int IntKind.u8 (escB (sSub [] (nNat 1) (nLen []))),
                          PV.int IntKind.i64 (escN (sSub [] (nNat 1) (nLen []))), PV.int IntKind.i64 (escN (sSub [] (nNat 1) (nLen []))), PV.bool true, PV.top, PV.top, PV.top, PV.top, PV.top, PV.top, PV.top,
                          PV.top, PV.top],
                        Store.mk [] [(nLen b, 1, 5)] []))
                    (Tr.ite (okSub (okPos (escN (sSub [] (nNat 1) (nLen [])))) true (nNat (escN (sSub [] (nNat 1) (nLen [])))) (nLen (sSub [] (nNat 1) (nLen []))) (nLen (sSub [] (nNat 1) (nLen []))))
                      (Tr.ite (okGrow (bytesOf b) [[PV.int IntKind.u8 (escB (sSub [] (nNat 1) (nLen [])))]] 1)
                        (Tr.ite (okNews [[PV.int IntKind.u8 (escB (sSub [] (nNat 1) (nLen [])))]] 1)
                          (Tr.ite (okSize (bytesOf b) 1)
                            (Tr.ite (nEq (nLen b) (nXs (bytesOf b)))
                              (Tr.ret
                                (PExit.normal, [29, 22, 15, 9],
                                  [PV.str (sSub (sSub [] (nNat 1) (nLen [])) (nNat (escN (sSub [] (nNat 1) (nLen [])))) (nLen (sSub [] (nNat 1) (nLen [])))), PV.top, PV.top, PV.top,
                                    PV.sl (xApp (bytesOf b) [[PV.int IntKind.u8 (escB (sSub [] (nNat 1) (nLen [])))]]) (Tag.tok 0), PV.int IntKind.u8 (escB (sSub [] (nNat 1) (nLen []))),
                                    PV.int IntKind.u8 (escB (sSub [] (nNat 1) (nLen []))), PV.int IntKind.i64 (escN (sSub [] (nNat 1) (nLen []))), PV.str [], PV.bool true, PV.str [],
                                    PV.int IntKind.u8 (sAt [] 0), PV.str [], PV.str (sSub [] (nNat 1) (nLen [])), PV.int IntKind.u8 (sAt [] 0), PV.bool true,
                                    PV.tup [PV.int IntKind.u8 (escB (sSub [] (nNat 1) (nLen []))), PV.int IntKind.i64 (escN (sSub [] (nNat 1) (nLen [])))], PV.str (sSub [] (nNat 1) (nLen [])),
                                    PV.tup [PV.int IntKind.u8 (escB (sSub [] (nNat 1) (nLen []))), PV.int IntKind.i64 (escN (sSub [] (nNat 1) (nLen [])))], PV.int IntKind.u8 (escB (sSub [] (nNat 1) (nLen []))),
                                    PV.int IntKind.i64 (escN (sSub [] (nNat 1) (nLen []))), PV.int IntKind.i64 (escN (sSub [] (nNat 1) (nLen []))), PV.bool false,
                                    PV.int IntKind.u8 (escB (sSub [] (nNat 1) (nLen []))), PV.str (sSub [] (nNat 1) (nLen [])), PV.int IntKind.i64 (escN (sSub [] (nNat 1) (nLen []))),
                                    PV.str (sSub (sSub [] (nNat 1) (nLen [])) (nNat (escN (sSub [] (nNat 1) (nLen [])))) (nLen (sSub [] (nNat 1) (nLen [])))), PV.sl (bytesOf b) (Tag.tok 0),
                                    PV.int IntKind.u8 (escB (sSub [] (nNat 1) (nLen []))), PV.sl [[PV.int IntKind.u8 (escB (sSub [] (nNat 1) (nLen [])))]] Tag.full,
                                    PV.sl (xApp (bytesOf b) [[PV.int IntKind.u8 (escB (sSub [] (nNat 1) (nLen [])))]]) (Tag.tok 0), PV.top],
                                  Store.mk [] [(nXs (xApp (bytesOf b) [[PV.int IntKind.u8 (escB (sSub [] (nNat 1) (nLen [])))]]), 1, 5)] []))
                              Tr.fail)
                            Tr.fail)
                          Tr.fail)
                        Tr.fail)
                      Tr.fail))
                  (Tr.ite (okGrow (bytesOf b) [[PV.int IntKind.u8 (sAt [] 0)]] 1)
                    (Tr.ite (okNews [[PV.int IntKind.u8 (sAt [] 0)]] 1)
                      (Tr.ite (okSize (bytesOf b) 1)
                        (Tr.ite (nEq (nLen b) (nXs (bytesOf b)))
                          (Tr.ret
                            (PExit.normal, [29, 15, 9],
                              [PV.str (sSub [] (nNat 1) (nLen [])), PV.top, PV.top, PV.top, PV.sl (xApp (bytesOf b) [[PV.int IntKind.u8 (sAt [] 0)]]) (Tag.tok 0), PV.int IntKind.u8 (sAt [] 0), PV.top, PV.top,
                                PV.str [], PV.bool true, PV.str [], PV.int IntKind.u8 (sAt [] 0), PV.str [], PV.str (sSub [] (nNat 1) (nLen [])), PV.int IntKind.u8 (sAt [] 0), PV.bool false, PV.top, PV.top,
                                PV.top, PV.top, PV.top, PV.top, PV.top, PV.top, PV.top, PV.top, PV.top, PV.sl (bytesOf b) (Tag.tok 0), PV.int IntKind.u8 (sAt [] 0),
                                PV.sl [[PV.int IntKind.u8 (sAt [] 0)]] Tag.full, PV.sl (xApp (bytesOf b) [[PV.int IntKind.u8 (sAt [] 0)]]) (Tag.tok 0), PV.top],
                              Store.mk [] [(nXs (xApp (bytesOf b) [[PV.int IntKind.u8 (sAt [] 0)]]), 1, 5)] []))
                          Tr.fail)
                        Tr.fail)
                      Tr.fail)
                    Tr.fail))
                Tr.fail)
              Tr.fail)
            (Tr.ret
              (PExit.exit 0, [9],
                [PV.str [], PV.top, PV.top, PV.top, PV.sl (bytesOf b) (Tag.tok 0), PV.top, PV.top, PV.top, PV.str [], PV.bool false, PV.top, PV.top, PV.top, PV.top, PV.top, PV.top, PV.top, PV.top, PV.top,
                  PV.top, PV.top, PV.top, PV.top, PV.top, PV.top, PV.top, PV.top, PV.top, PV.top, PV.top, PV.top, PV.top],
                Store.mk [] [(nLen b, 1, 5)] []))) (by kernel_rfl) ?_
        exact ⟨fun h => by simp at h, fun h => ⟨rfl, by simp [Weak, mk, mkFrom, look], rfl⟩⟩
      induction k with
      | zero =>
        intro b s hk hb hbs h
        have : s = [] := by apply List.eq_nil_of_length_eq_zero; omega
        subst this
        simp [decP] at h
        exact base b hb (by simpa using h)
      | succ k ih =>
        intro b s hk hb hbs h
        cases s with
        | nil =>
          simp [decP] at h
          exact base b hb (by simpa using h)
        | cons c t =>
          have e0 : sAt (c :: t) 0 = c.toNat := by simp
          have e1 : sSub (c :: t) (nNat 1) (nLen (c :: t)) = t := by simp
          have hc := c.toNat_lt
          have e7 := escN_rng t
          have e8 := escB_rng t
          simp at hk hbs
          rw [decP, decL] at h
          refine LDoes.round tbT_ok hG noMixed (L := fun _ _ _ => .fail) (loopOk_none (by kernel_rfl)) (by kernel_rfl) ?_
          refine Tr.all_as (Tr.ite (sNe (c :: t) [])
              (Tr.ite (okIdx (c :: t) 0)
                (Tr.ite (okSub (okPos 1) true (nNat 1) (nLen (c :: t)) (nLen (c :: t)))
                  (Tr.ite (iEq (sAt (c :: t) 0) 92)
                    (Tr.ite (iEq (escN (sSub (c :: t) (nNat 1) (nLen (c :: t)))) 0)
                      (Tr.ret
                        (PExit.ret, [3, 2, 22, 15, 9],
                          [PV.str (sSub (c :: t) (nNat 1) (nLen (c :: t))), PV.top, PV.sl [] Tag.full, PV.bool false, PV.sl (bytesOf b) (Tag.tok 0), PV.int IntKind.u8 (sAt (c :: t) 0),
                            PV.int IntKind.u8 (escB (sSub (c :: t) (nNat 1) (nLen (c :: t)))), PV.int IntKind.i64 (escN (sSub (c :: t) (nNat 1) (nLen (c :: t)))), PV.str (c :: t), PV.bool true, PV.str (c :: t),
                            PV.int IntKind.u8 (sAt (c :: t) 0), PV.str (c :: t), PV.str (sSub (c :: t) (nNat 1) (nLen (c :: t))), PV.int IntKind.u8 (sAt (c :: t) 0), PV.bool true,
                            PV.tup [PV.int IntKind.u8 (escB (sSub (c :: t) (nNat 1) (nLen (c :: t)))), PV.int IntKind.i64 (escN (sSub (c :: t) (nNat 1) (nLen (c :: t))))],
                            PV.str (sSub (c :: t) (nNat 1) (nLen (c :: t))),
                            PV.tup [PV.int IntKind.u8 (escB (sSub (c :: t) (nNat 1) (nLen (c :: t)))), PV.int IntKind.i64 (escN (sSub (c :: t) (nNat 1) (nLen (c :: t))))],
                            PV.int IntKind.u8 (escB (sSub (c :: t) (nNat 1) (nLen (c :: t)))), PV.int IntKind.i64 (escN (sSub (c :: t) (nNat 1) (nLen (c :: t)))),
                            PV.int IntKind.i64 (escN (sSub (c :: t) (nNat 1) (nLen (c :: t)))), PV.bool true, PV.top, PV.top, PV.top, PV.top, PV.top, PV.top, PV.top, PV.top, PV.top],
                          Store.mk [] [(nLen b, 1, 5)] []))
                      (Tr.ite
                        (okSub (okPos (escN (sSub (c :: t) (nNat 1) (nLen (c :: t))))) true (nNat (escN (sSub (c :: t) (nNat 1) (nLen (c :: t))))) (nLen (sSub (c :: t) (nNat 1) (nLen (c :: t))))
                          (nLen (sSub (c :: t) (nNat 1) (nLen (c :: t)))))
                        (Tr.ite (okGrow (bytesOf b) [[PV.int IntKind.u8 (escB (sSub (c :: t) (nNat 1) (nLen (c :: t))))]] 1)
                          (Tr.ite (okNews [[PV.int IntKind.u8 (escB (sSub (c :: t) (nNat 1) (nLen (c :: t))))]] 1)
                            (Tr.ite (okSize (bytesOf b) 1)
                              (Tr.ite (nEq (nLen b) (nXs (bytesOf b)))
                                (Tr.ret
                                  (PExit.normal, [29, 22, 15, 9],
                                    [PV.str (sSub (sSub (c :: t) (nNat 1) (nLen (c :: t))) (nNat (escN (sSub (c :: t) (nNat 1) (nLen (c :: t))))) (nLen (sSub (c :: t) (nNat 1) (nLen (c :: t))))), PV.top, PV.top,
                                      PV.top, PV.sl (xApp (bytesOf b) [[PV.int IntKind.u8 (escB (sSub (c :: t) (nNat 1) (nLen (c :: t))))]]) (Tag.tok 0),
                                      PV.int IntKind.u8 (escB (sSub (c :: t) (nNat 1) (nLen (c :: t)))), PV.int IntKind.u8 (escB (sSub (c :: t) (nNat 1) (nLen (c :: t)))),
                                      PV.int IntKind.i64 (escN (sSub (c :: t) (nNat 1) (nLen (c :: t)))), PV.str (c :: t), PV.bool true, PV.str (c :: t), PV.int IntKind.u8 (sAt (c :: t) 0), PV.str (c :: t),
                                      PV.str (sSub (c :: t) (nNat 1) (nLen (c :: t))), PV.int IntKind.u8 (sAt (c :: t) 0), PV.bool true,
                                      PV.tup [PV.int IntKind.u8 (escB (sSub (c :: t) (nNat 1) (nLen (c :: t)))), PV.int IntKind.i64 (escN (sSub (c :: t) (nNat 1) (nLen (c :: t))))],
                                      PV.str (sSub (c :: t) (nNat 1) (nLen (c :: t))),
                                      PV.tup [PV.int IntKind.u8 (escB (sSub (c :: t) (nNat 1) (nLen (c :: t)))), PV.int IntKind.i64 (escN (sSub (c :: t) (nNat 1) (nLen (c :: t))))],
                                      PV.int IntKind.u8 (escB (sSub (c :: t) (nNat 1) (nLen (c :: t)))), PV.int IntKind.i64 (escN (sSub (c :: t) (nNat 1) (nLen (c :: t)))),
                                      PV.int IntKind.i64 (escN (sSub (c :: t) (nNat 1) (nLen (c :: t)))), PV.bool false, PV.int IntKind.u8 (escB (sSub (c :: t) (nNat 1) (nLen (c :: t)))),
                                      PV.str (sSub (c :: t) (nNat 1) (nLen (c :: t))), PV.int IntKind.i64 (escN (sSub (c :: t) (nNat 1) (nLen (c :: t)))),
                                      PV.str (sSub (sSub (c :: t) (nNat 1) (nLen (c :: t))) (nNat (escN (sSub (c :: t) (nNat 1) (nLen (c :: t))))) (nLen (sSub (c :: t) (nNat 1) (nLen (c :: t))))),
                                      PV.sl (bytesOf b) (Tag.tok 0), PV.int IntKind.u8 (escB (sSub (c :: t) (nNat 1) (nLen (c :: t)))),
                                      PV.sl [[PV.int IntKind.u8 (escB (sSub (c :: t) (nNat 1) (nLen (c :: t))))]] Tag.full,
                                      PV.sl (xApp (bytesOf b) [[PV.int IntKind.u8 (escB (sSub (c :: t) (nNat 1) (nLen (c :: t))))]]) (Tag.tok 0), PV.top],
                                    Store.mk [] [(nXs (xApp (bytesOf b) [[PV.int IntKind.u8 (escB (sSub (c :: t) (nNat 1) (nLen (c :: t))))]]), 1, 5)] []))
                                Tr.fail)
                              Tr.fail)
                            Tr.fail)
                          Tr.fail)
                        Tr.fail))
                    (Tr.ite (okGrow (bytesOf b) [[PV.int IntKind.u8 (sAt (c :: t) 0)]] 1)
                      (Tr.ite (okNews [[PV.int IntKind.u8 (sAt (c :: t) 0)]] 1)
                        (Tr.ite (okSize (bytesOf b) 1)
                          (Tr.ite (nEq (nLen b) (nXs (bytesOf b)))
                            (Tr.ret
                              (PExit.normal, [29, 15, 9],
                                [PV.str (sSub (c :: t) (nNat 1) (nLen (c :: t))), PV.top, PV.top, PV.top, PV.sl (xApp (bytesOf b) [[PV.int IntKind.u8 (sAt (c :: t) 0)]]) (Tag.tok 0),
                                  PV.int IntKind.u8 (sAt (c :: t) 0), PV.top, PV.top, PV.str (c :: t), PV.bool true, PV.str (c :: t), PV.int IntKind.u8 (sAt (c :: t) 0), PV.str (c :: t),
                                  PV.str (sSub (c :: t) (nNat 1) (nLen (c :: t))), PV.int IntKind.u8 (sAt (c :: t) 0), PV.bool false, PV.top, PV.top, PV.top, PV.top, PV.top, PV.top, PV.top, PV.top, PV.top,
                                  PV.top, PV.top, PV.sl (bytesOf b) (Tag.tok 0), PV.int IntKind.u8 (sAt (c :: t) 0), PV.sl [[PV.int IntKind.u8 (sAt (c :: t) 0)]] Tag.full,
                                  PV.sl (xApp (bytesOf b) [[PV.int IntKind.u8 (sAt (c :: t) 0)]]) (Tag.tok 0), PV.top],
                                Store.mk [] [(nXs (xApp (bytesOf b) [[PV.int IntKind.u8 (sAt (c :: t) 0)]]), 1, 5)] []))
                            Tr.fail)
                          Tr.fail)
                        Tr.fail)
                      Tr.fail))
                  Tr.fail)
                Tr.fail)
              (Tr.ret
                (PExit.exit 0, [9],
                  [PV.str (c :: t), PV.top, PV.top, PV.top, PV.sl (bytesOf b) (Tag.tok 0), PV.top, PV.top, PV.top, PV.str (c :: t), PV.bool false, PV.top, PV.top, PV.top, PV.top, PV.top, PV.top, PV.top, PV.top,
                    PV.top, PV.top, PV.top, PV.top, PV.top, PV.top, PV.top, PV.top, PV.top, PV.top, PV.top, PV.top, PV.top, PV.top],
                  Store.mk [] [(nLen b, 1, 5)] []))) (by kernel_rfl) ?_
          rw [e1, e0, xApp_byte b (n := (c.toNat : Int)) (by omega), xApp_byte b e8, Int.toNat_natCast, UInt8.ofNat_toNat]
          simp only [nXs_bytes]
          refine Tr.all_t (by simp) <| Tr.all_t (by simp) <| Tr.all_t (by simp) ?_
          by_cases h92 : c = 92
          · subst h92
            refine Tr.all_t (by simp) ?_
            by_cases hn : escN t = 0
            · simp [hn] at h
              obtain ⟨rfl, rfl, rfl⟩ := h
              exact Tr.all_t (by simp [hn]) ⟨rfl, by simp [Weak, mk, mkFrom, look], rfl⟩
            · refine Tr.all_f (by simp [hn]) <| Tr.all_t (by simp; omega) <| Tr.all_t (by simp; omega) <| Tr.all_t (by simp [one]) <| Tr.all_t (okSize_bytes _) <| Tr.all_t (by simp) ?_
              refine LDoes.into ?_ (ih (b ++ [UInt8.ofNat (escB t).toNat]) (t.drop (escN t).toNat) (by simp; omega) (by simp) (by simp; omega) ?_)
              · simp [Weak, mk, mkFrom, look]
              · simp [hn] at h
                rw [← h]
                cases hd : decP (t.drop (escN t).toNat) with
                | none => simp; omega
                | some x => simp
          · refine Tr.all_f (iEq_byte_ne (k := 92) h92) <| Tr.all_t (by simp; omega) <| Tr.all_t (by simp [one]) <| Tr.all_t (okSize_bytes _) <| Tr.all_t (by simp) ?_
            refine LDoes.into ?_ (ih (b ++ [c]) t (by omega) (by simp) (by simp; omega) ?_)
            · simp [Weak, mk, mkFrom, look]
            · simp [h92] at h
              rw [← h]
              cases hd : decP t with
              | none => simp; omega
              | some x => simp
    cases s with
    | nil =>
      simp [okDec, decV, decP] at hr
      obtain ⟨rfl, rfl, rfl⟩ := hr
      refine LDoes.round tbT_ok hG noMixed (L := fun _ _ _ => .fail) (loopOk_none (by kernel_rfl)) (by kernel_rfl) ?_
      refine Tr.all_as (Tr.ite (sNe [] [])
          (Tr.ite (okIdx [] 0)
            (Tr.ite (okSub (okPos 1) true (nNat 1) (nLen []) (nLen []))
              (Tr.ite (iEq (sAt [] 0) 92)
                (Tr.ite (iEq (escN (sSub [] (nNat 1) (nLen []))) 0)
                  (Tr.ret
                    (PExit.ret, [3, 2, 22, 15, 9],
                      [PV.str (sSub [] (nNat 1) (nLen [])), PV.top, PV.sl [] Tag.full, PV.bool false, PV.sl [] Tag.full, PV.int IntKind.u8 (sAt [] 0), PV.int IntKind.u8 (escB (sSub [] (nNat 1) (nLen []))),
                        PV.int IntKind.i64 (escN (sSub [] (nNat 1) (nLen []))), PV.str [], PV.bool true, PV.str [], PV.int IntKind.u8 (sAt [] 0), PV.str [], PV.str (sSub [] (nNat 1) (nLen [])),
                        PV.int IntKind.u8 (sAt [] 0), PV.bool true, PV.tup [PV.int IntKind.u8 (escB (sSub [] (nNat 1) (nLen []))), PV.int IntKind.i64 (escN (sSub [] (nNat 1) (nLen [])))],
                        PV.str (sSub [] (nNat 1) (nLen [])), PV.tup [PV.int IntKind.u8 (escB (sSub [] (nNat 1) (nLen []))), PV.int IntKind.i64 (escN (sSub [] (nNat 1) (nLen [])))],
                        PV.int IntKind.u8 (escB (sSub [] (nNat 1) (nLen []))), PV.int IntKind.i64 (escN (sSub [] (nNat 1) (nLen []))), PV.int IntKind.i64 (escN (sSub [] (nNat 1) (nLen []))), PV.bool true,
                        PV.top, PV.top, PV.top, PV.top, PV.top, PV.top, PV.top, PV.top, PV.top],
                      Store.mk [] [] []))
                  (Tr.ite (okSub (okPos (escN (sSub [] (nNat 1) (nLen [])))) true (nNat (escN (sSub [] (nNat 1) (nLen [])))) (nLen (sSub [] (nNat 1) (nLen []))) (nLen (sSub [] (nNat 1) (nLen []))))
                    (Tr.ite (okGrow [] [[PV.int IntKind.u8 (escB (sSub [] (nNat 1) (nLen [])))]] 1)
                      (Tr.ite (okNews [[PV.int IntKind.u8 (escB (sSub [] (nNat 1) (nLen [])))]] 1)
                        (Tr.ite (okSize [] 1)
                          (Tr.ret
                            (PExit.normal, [29, 22, 15, 9],
                              [PV.str (sSub (sSub [] (nNat 1) (nLen [])) (nNat (escN (sSub [] (nNat 1) (nLen [])))) (nLen (sSub [] (nNat 1) (nLen [])))), PV.top, PV.top, PV.top,
                                PV.sl (xApp [] [[PV.int IntKind.u8 (escB (sSub [] (nNat 1) (nLen [])))]]) (Tag.tok 0), PV.int IntKind.u8 (escB (sSub [] (nNat 1) (nLen []))),
                                PV.int IntKind.u8 (escB (sSub [] (nNat 1) (nLen []))), PV.int IntKind.i64 (escN (sSub [] (nNat 1) (nLen []))), PV.str [], PV.bool true, PV.str [], PV.int IntKind.u8 (sAt [] 0),
                                PV.str [], PV.str (sSub [] (nNat 1) (nLen [])), PV.int IntKind.u8 (sAt [] 0), PV.bool true,
                                PV.tup [PV.int IntKind.u8 (escB (sSub [] (nNat 1) (nLen []))), PV.int IntKind.i64 (escN (sSub [] (nNat 1) (nLen [])))], PV.str (sSub [] (nNat 1) (nLen [])),
                                PV.tup [PV.int IntKind.u8 (escB (sSub [] (nNat 1) (nLen []))), PV.int IntKind.i64 (escN (sSub [] (nNat 1) (nLen [])))], PV.int IntKind.u8 (escB (sSub [] (nNat 1) (nLen []))),
                                PV.int IntKind.i64 (escN (sSub [] (nNat 1) (nLen []))), PV.int IntKind.i64 (escN (sSub [] (nNat 1) (nLen []))), PV.bool false,
                                PV.int IntKind.u8 (escB (sSub [] (nNat 1) (nLen []))), PV.str (sSub [] (nNat 1) (nLen [])), PV.int IntKind.i64 (escN (sSub [] (nNat 1) (nLen []))),
                                PV.str (sSub (sSub [] (nNat 1) (nLen [])) (nNat (escN (sSub [] (nNat 1) (nLen [])))) (nLen (sSub [] (nNat 1) (nLen [])))), PV.sl [] Tag.full,
                                PV.int IntKind.u8 (escB (sSub [] (nNat 1) (nLen []))), PV.sl [[PV.int IntKind.u8 (escB (sSub [] (nNat 1) (nLen [])))]] Tag.full,
                                PV.sl (xApp [] [[PV.int IntKind.u8 (escB (sSub [] (nNat 1) (nLen [])))]]) (Tag.tok 0), PV.top],
                              Store.mk [] [(nXs (xApp [] [[PV.int IntKind.u8 (escB (sSub [] (nNat 1) (nLen [])))]]), 1, 5)] []))
                          Tr.fail)
                        Tr.fail)
                      Tr.fail)
                    Tr.fail))
                (Tr.ite (okGrow [] [[PV.int IntKind.u8 (sAt [] 0)]] 1)
                  (Tr.ite (okNews [[PV.int IntKind.u8 (sAt [] 0)]] 1)
                    (Tr.ite (okSize [] 1)
                      (Tr.ret
                        (PExit.normal, [29, 15, 9],
                          [PV.str (sSub [] (nNat 1) (nLen [])), PV.top, PV.top, PV.top, PV.sl (xApp [] [[PV.int IntKind.u8 (sAt [] 0)]]) (Tag.tok 0), PV.int IntKind.u8 (sAt [] 0), PV.top, PV.top, PV.str [],
                            PV.bool true, PV.str [], PV.int IntKind.u8 (sAt [] 0), PV.str [], PV.str (sSub [] (nNat 1) (nLen [])), PV.int IntKind.u8 (sAt [] 0), PV.bool false, PV.top, PV.top, PV.top, PV.top,
                            PV.top, PV.top, PV.top, PV.top, PV.top, PV.top, PV.top, PV.sl [] Tag.full, PV.int IntKind.u8 (sAt [] 0), PV.sl [[PV.int IntKind.u8 (sAt [] 0)]] Tag.full,
                            PV.sl (xApp [] [[PV.int IntKind.u8 (sAt [] 0)]]) (Tag.tok 0), PV.top],
                          Store.mk [] [(nXs (xApp [] [[PV.int IntKind.u8 (sAt [] 0)]]), 1, 5)] []))
                      Tr.fail)
                    Tr.fail)
                  Tr.fail))
              Tr.fail)
            Tr.fail)
          (Tr.ret
            (PExit.exit 0, [9],
              [PV.str [], PV.top, PV.top, PV.top, PV.sl [] Tag.full, PV.top, PV.top, PV.top, PV.str [], PV.bool false, PV.top, PV.top, PV.top, PV.top, PV.top, PV.top, PV.top, PV.top, PV.top, PV.top, PV.top,
                PV.top, PV.top, PV.top, PV.top, PV.top, PV.top, PV.top, PV.top, PV.top, PV.top, PV.top],
              Store.mk [] [] []))) (by kernel_rfl) ?_
      exact ⟨fun h => by simp at h, fun h => ⟨rfl, by simp [Weak, mk, mkFrom, look], rfl⟩⟩
    | cons c t =>
      have e0 : sAt (c :: t) 0 = c.toNat := by simp
      have e1 : sSub (c :: t) (nNat 1) (nLen (c :: t)) = t := by simp
      have hc := c.toNat_lt
      have e7 := escN_rng t
      have e8 := escB_rng t
      simp at hlen
      simp only [okDec, decV, badL] at hr
      rw [decP, decL] at hr
      have x1 : xApp [] [[.int .u8 (c.toNat : Int)]] = bytesOf [c] := by simp [bytesOf]
      have x2 : xApp [] [[.int .u8 (escB t)]] = bytesOf [UInt8.ofNat (escB t).toNat] := xApp_byte [] e8
      refine LDoes.round tbT_ok hG noMixed (L := fun _ _ _ => .fail) (loopOk_none (by kernel_rfl)) (by kernel_rfl) ?_
      refine Tr.all_as (Tr.ite (sNe (c :: t) [])
          (Tr.ite (okIdx (c :: t) 0)
            (Tr.ite (okSub (okPos 1) true (nNat 1) (nLen (c :: t)) (nLen (c :: t)))
              (Tr.ite (iEq (sAt (c :: t) 0) 92)
                (Tr.ite (iEq (escN (sSub (c :: t) (nNat 1) (nLen (c :: t)))) 0)
                  (Tr.ret
                    (PExit.ret, [3, 2, 22, 15, 9],
                      [PV.str (sSub (c :: t) (nNat 1) (nLen (c :: t))), PV.top, PV.sl [] Tag.full, PV.bool false, PV.sl [] Tag.full, PV.int IntKind.u8 (sAt (c :: t) 0),
                        PV.int IntKind.u8 (escB (sSub (c :: t) (nNat 1) (nLen (c :: t)))), PV.int IntKind.i64 (escN (sSub (c :: t) (nNat 1) (nLen (c :: t)))), PV.str (c :: t), PV.bool true, PV.str (c :: t),
                        PV.int IntKind.u8 (sAt (c :: t) 0), PV.str (c :: t), PV.str (sSub (c :: t) (nNat 1) (nLen (c :: t))), PV.int IntKind.u8 (sAt (c :: t) 0), PV.bool true,
                        PV.tup [PV.int IntKind.u8 (escB (sSub (c :: t) (nNat 1) (nLen (c :: t)))), PV.int IntKind.i64 (escN (sSub (c :: t) (nNat 1) (nLen (c :: t))))],
                        PV.str (sSub (c :: t) (nNat 1) (nLen (c :: t))),
                        PV.tup [PV.int IntKind.u8 (escB (sSub (c :: t) (nNat 1) (nLen (c :: t)))), PV.int IntKind.i64 (escN (sSub (c :: t) (nNat 1) (nLen (c :: t))))],
                        PV.int IntKind.u8 (escB (sSub (c :: t) (nNat 1) (nLen (c :: t)))), PV.int IntKind.i64 (escN (sSub (c :: t) (nNat 1) (nLen (c :: t)))),
                        PV.int IntKind.i64 (escN (sSub (c :: t) (nNat 1) (nLen (c :: t)))), PV.bool true, PV.top, PV.top, PV.top, PV.top, PV.top, PV.top, PV.top, PV.top, PV.top],
                      Store.mk [] [] []))
                  (Tr.ite
                    (okSub (okPos (escN (sSub (c :: t) (nNat 1) (nLen (c :: t))))) true (nNat (escN (sSub (c :: t) (nNat 1) (nLen (c :: t))))) (nLen (sSub (c :: t) (nNat 1) (nLen (c :: t))))
                      (nLen (sSub (c :: t) (nNat 1) (nLen (c :: t)))))
                    (Tr.ite (okGrow [] [[PV.int IntKind.u8 (escB (sSub (c :: t) (nNat 1) (nLen (c :: t))))]] 1)
                      (Tr.ite (okNews [[PV.int IntKind.u8 (escB (sSub (c :: t) (nNat 1) (nLen (c :: t))))]] 1)
                        (Tr.ite (okSize [] 1)
                          (Tr.ret
                            (PExit.normal, [29, 22, 15, 9],
                              [PV.str (sSub (sSub (c :: t) (nNat 1) (nLen (c :: t))) (nNat (escN (sSub (c :: t) (nNat 1) (nLen (c :: t))))) (nLen (sSub (c :: t) (nNat 1) (nLen (c :: t))))), PV.top, PV.top,
                                PV.top, PV.sl (xApp [] [[PV.int IntKind.u8 (escB (sSub (c :: t) (nNat 1) (nLen (c :: t))))]]) (Tag.tok 0), PV.int IntKind.u8 (escB (sSub (c :: t) (nNat 1) (nLen (c :: t)))),
                                PV.int IntKind.u8 (escB (sSub (c :: t) (nNat 1) (nLen (c :: t)))), PV.int IntKind.i64 (escN (sSub (c :: t) (nNat 1) (nLen (c :: t)))), PV.str (c :: t), PV.bool true,
                                PV.str (c :: t), PV.int IntKind.u8 (sAt (c :: t) 0), PV.str (c :: t), PV.str (sSub (c :: t) (nNat 1) (nLen (c :: t))), PV.int IntKind.u8 (sAt (c :: t) 0), PV.bool true,
                                PV.tup [PV.int IntKind.u8 (escB (sSub (c :: t) (nNat 1) (nLen (c :: t)))), PV.int IntKind.i64 (escN (sSub (c :: t) (nNat 1) (nLen (c :: t))))],
                                PV.str (sSub (c :: t) (nNat 1) (nLen (c :: t))),
                                PV.tup [PV.int IntKind.u8 (escB (sSub (c :: t) (nNat 1) (nLen (c :: t)))), PV.int IntKind.i64 (escN (sSub (c :: t) (nNat 1) (nLen (c :: t))))],
                                PV.int IntKind.u8 (escB (sSub (c :: t) (nNat 1) (nLen (c :: t)))), PV.int IntKind.i64 (escN (sSub (c :: t) (nNat 1) (nLen (c :: t)))),
                                PV.int IntKind.i64 (escN (sSub (c :: t) (nNat 1) (nLen (c :: t)))), PV.bool false, PV.int IntKind.u8 (escB (sSub (c :: t) (nNat 1) (nLen (c :: t)))),
                                PV.str (sSub (c :: t) (nNat 1) (nLen (c :: t))), PV.int IntKind.i64 (escN (sSub (c :: t) (nNat 1) (nLen (c :: t)))),
                                PV.str (sSub (sSub (c :: t) (nNat 1) (nLen (c :: t))) (nNat (escN (sSub (c :: t) (nNat 1) (nLen (c :: t))))) (nLen (sSub (c :: t) (nNat 1) (nLen (c :: t))))),
                                PV.sl [] Tag.full, PV.int IntKind.u8 (escB (sSub (c :: t) (nNat 1) (nLen (c :: t)))), PV.sl [[PV.int IntKind.u8 (escB (sSub (c :: t) (nNat 1) (nLen (c :: t))))]] Tag.full,
                                PV.sl (xApp [] [[PV.int IntKind.u8 (escB (sSub (c :: t) (nNat 1) (nLen (c :: t))))]]) (Tag.tok 0), PV.top],
                              Store.mk [] [(nXs (xApp [] [[PV.int IntKind.u8 (escB (sSub (c :: t) (nNat 1) (nLen (c :: t))))]]), 1, 5)] []))
                          Tr.fail)
                        Tr.fail)
                      Tr.fail)
                    Tr.fail))
                (Tr.ite (okGrow [] [[PV.int IntKind.u8 (sAt (c :: t) 0)]] 1)
                  (Tr.ite (okNews [[PV.int IntKind.u8 (sAt (c :: t) 0)]] 1)
                    (Tr.ite (okSize [] 1)
                      (Tr.ret
                        (PExit.normal, [29, 15, 9],
                          [PV.str (sSub (c :: t) (nNat 1) (nLen (c :: t))), PV.top, PV.top, PV.top, PV.sl (xApp [] [[PV.int IntKind.u8 (sAt (c :: t) 0)]]) (Tag.tok 0), PV.int IntKind.u8 (sAt (c :: t) 0),
                            PV.top, PV.top, PV.str (c :: t), PV.bool true, PV.str (c :: t), PV.int IntKind.u8 (sAt (c :: t) 0), PV.str (c :: t), PV.str (sSub (c :: t) (nNat 1) (nLen (c :: t))),
                            PV.int IntKind.u8 (sAt (c :: t) 0), PV.bool false, PV.top, PV.top, PV.top, PV.top, PV.top, PV.top, PV.top, PV.top, PV.top, PV.top, PV.top, PV.sl [] Tag.full,
                            PV.int IntKind.u8 (sAt (c :: t) 0), PV.sl [[PV.int IntKind.u8 (sAt (c :: t) 0)]] Tag.full, PV.sl (xApp [] [[PV.int IntKind.u8 (sAt (c :: t) 0)]]) (Tag.tok 0), PV.top],
                          Store.mk [] [(nXs (xApp [] [[PV.int IntKind.u8 (sAt (c :: t) 0)]]), 1, 5)] []))
                      Tr.fail)
                    Tr.fail)
                  Tr.fail))
              Tr.fail)
            Tr.fail)
          (Tr.ret
            (PExit.exit 0, [9],
              [PV.str (c :: t), PV.top, PV.top, PV.top, PV.sl [] Tag.full, PV.top, PV.top, PV.top, PV.str (c :: t), PV.bool false, PV.top, PV.top, PV.top, PV.top, PV.top, PV.top, PV.top, PV.top, PV.top,
                PV.top, PV.top, PV.top, PV.top, PV.top, PV.top, PV.top, PV.top, PV.top, PV.top, PV.top, PV.top, PV.top],
              Store.mk [] [] []))) (by kernel_rfl) ?_
      rw [e1, e0, x1, x2]
      simp only [nXs_bytes]
      refine Tr.all_t (by simp) <| Tr.all_t (by simp) <| Tr.all_t (by simp) ?_
      by_cases h92 : c = 92
      · subst h92
        refine Tr.all_t (by simp) ?_
        by_cases hn : escN t = 0
        · simp [hn] at hr
          obtain ⟨rfl, rfl, rfl⟩ := hr
          exact Tr.all_t (by simp [hn]) ⟨rfl, by simp [Weak, mk, mkFrom, look], rfl⟩
        · refine Tr.all_f (by simp [hn]) <| Tr.all_t (by simp; omega) <| Tr.all_t (by simp) <| Tr.all_t (by simp [one]) <| Tr.all_t (by simp) ?_
          refine LDoes.into ?_ (key t.length ([UInt8.ofNat (escB t).toNat]) (t.drop (escN t).toNat) (by simp) (by simp) (by simp; omega) ?_)
          · simp [Weak, mk, mkFrom, look]
          · cases hd : decP (t.drop (escN t).toNat) with
            | none =>
              simp [hn, hd] at hr ⊢
              rw [Nat.add_comm]
              exact hr
            | some x =>
              simp [hn, hd] at hr ⊢
              exact hr
      · refine Tr.all_f (iEq_byte_ne (k := 92) h92) <| Tr.all_t (by simp) <| Tr.all_t (by simp [one]) <| Tr.all_t (by simp) ?_
        refine LDoes.into ?_ (key t.length [c] t (by omega) (by simp) (by simp; omega) ?_)
        · simp [Weak, mk, mkFrom, look]
        · cases hd : decP t with
          | none =>
            simp [h92, hd] at hr ⊢
            rw [Nat.add_comm]
            exact hr
          | some x =>
            simp [h92, hd] at hr ⊢
            exact hr
  · cases hd
theorem sim_symbol (gl : Gl) : SimP Tryd.prog gl 73 fun args => (F_symbol args).run := by
  refine SimP.of_tree (G := ofL [(82, .pure F_escape)]) (L := L_symbol) tbT_ok (gamOk_cons (sim_escape gl) gamOk_nil) noMixed Tryd.func73 rfl (by rfl) (by kernel_rfl) (loopOk_one (r := 2) (c1 := c_symbol) (by kernel_rfl) ?_) ?_
  · intro fr σ e fr' σ' hh
    simp only [lps, L_symbol, if_true] at hh
    exact oracle_ok (loop_symbol gl) fr σ e fr' σ' hh
  intro args x h hr
  unfold F_symbol at h
  split at h
  · rename_i s
    obtain ⟨h1, h2⟩ := Tr.chk_some h
    refine Tr.run_as (Tr.ite (okLen s)
        (Tr.ite (okDec s) (Tr.ite (sEq (decV s) []) (Tr.ret (PV.tup [PV.sl [] Tag.non, PV.bool true])) (Tr.ret (PV.tup [PV.sl (shutLL (bytesOf (decV s))) Tag.non, PV.bool true])))
          (Tr.ite (nEq (badL s) 0) (Tr.ret (PV.tup [PV.sl [] Tag.non, PV.bool false])) (Tr.ret (PV.tup [PV.sl [] Tag.non, PV.bool false]))))
        Tr.fail) (by kernel_rfl) ?_
    by_cases hd : okDec s = true
    · by_cases he : decV s = []
      · simp [hd, he] at h2 ⊢
        simp at h1
        exact ⟨h1, h2⟩
      · simp [hd, he] at h2 ⊢
        simp at h1
        exact ⟨h1, h2⟩
    · by_cases he : badL s = 0
      · simp [hd, he] at h2 ⊢
        simp at h1
        exact ⟨h1, h2⟩
      · simp [hd, he] at h2 ⊢
        simp at h1
        exact ⟨h1, h2⟩
  · cases h
end Go.Pv

set_option maxHeartbeats 4000000
set_option maxRecDepth 200000
set_option linter.unusedSimpArgs false
set_option linter.unusedVariables false
namespace Go.Pv
open Go Go.Proofs Go.RowKit

/-! ### value.Read -/
def rdV (s : List UInt8) : Option (Int × Int × List UInt8) :=
  if isPre s [34] = true ∧ isSuf s [34] = true ∧ 2 ≤ s.length then
    match decP ((s.take (s.length - 1)).drop 1) with
    | some b => if checkV 2 0 b = 0 ∧ textW 2 0 b = s then some (2, 0, b) else none
    | none => none
  else if pOk s then (if checkV 1 (pVal s) [] = 0 ∧ textW 1 (pVal s) [] = s then some (1, pVal s, []) else none) else none
def okRd (s : List UInt8) : Bool := (rdV s).isSome
def kRd (s : List UInt8) : Int := match rdV s with | some v => v.1 | none => 0
def nRd (s : List UInt8) : Int := match rdV s with | some v => v.2.1 | none => 0
def sRd (s : List UInt8) : List UInt8 := match rdV s with | some v => v.2.2 | none => []
def eRd (s : List UInt8) : Int := match rdV s with | some _ => 0 | none => 10
def F_Read : List PV → Tr PV
  | [.str s] => Tr.chk (okLen s) (.ret (.tup [.agg [.int .i64 (kRd s), .int .i64 (nRd s), .str (sRd s)], .int .i64 (eRd s)]))
  | _ => .fail
theorem sim_Read {gl : Gl} (hgl : GlOk gl) : SimP Tryd.prog gl 61 fun args => (F_Read args).run := by
  refine SimP.of_tree (G := ofL [(54, .pure F_HasPre), (72, .pure F_HasSuf), (73, .pure F_symbol), (74, .pure F_ParseInt), (75, .pure F_Text)]) (L := fun _ _ _ => .fail) tbT_ok (gamOk_cons (sim_HasPre gl) (gamOk_cons (sim_HasSuf gl) (gamOk_cons (sim_symbol gl) (gamOk_cons (sim_ParseInt hgl) (gamOk_cons (sim_Text hgl.toGlPow) gamOk_nil))))) noMixed Tryd.func61 rfl (by rfl) (by kernel_rfl) (loopOk_none (by kernel_rfl)) ?_
  intro args x h hr
  unfold F_Read at h
  split at h
  · rename_i s
    obtain ⟨h1, h2⟩ := Tr.chk_some h
    refine Tr.run_as (Tr.ite (isPre s [34])
        (Tr.ite (isSuf s [34])
          (Tr.ite (iLe 2 (sLen s))
            (Tr.ite (okSub (okPos 1) (okPos (iSub IntKind.i64 (sLen s) 1)) (nNat 1) (nNat (iSub IntKind.i64 (sLen s) 1)) (nLen s))
              (Tr.ite (okLen (sSub s (nNat 1) (nNat (iSub IntKind.i64 (sLen s) 1))))
                (Tr.ite (okDec (sSub s (nNat 1) (nNat (iSub IntKind.i64 (sLen s) 1))))
                  (Tr.ite false (Tr.ret (PV.tup [PV.agg [PV.int IntKind.i64 0, PV.int IntKind.i64 0, PV.str []], PV.int IntKind.i64 10]))
                    (Tr.ite (okBytes (bytesOf (decV (sSub s (nNat 1) (nNat (iSub IntKind.i64 (sLen s) 1))))))
                      (Tr.ite (iNe (checkV 2 0 (unBytes (bytesOf (decV (sSub s (nNat 1) (nNat (iSub IntKind.i64 (sLen s) 1))))))) 0)
                        (Tr.ret (PV.tup [PV.agg [PV.int IntKind.i64 0, PV.int IntKind.i64 0, PV.str []], PV.int IntKind.i64 10]))
                        (Tr.ite (sNe (textW 2 0 (unBytes (bytesOf (decV (sSub s (nNat 1) (nNat (iSub IntKind.i64 (sLen s) 1))))))) s)
                          (Tr.ret (PV.tup [PV.agg [PV.int IntKind.i64 0, PV.int IntKind.i64 0, PV.str []], PV.int IntKind.i64 10]))
                          (Tr.ret
                            (PV.tup [PV.agg [PV.int IntKind.i64 2, PV.int IntKind.i64 0, PV.str (unBytes (bytesOf (decV (sSub s (nNat 1) (nNat (iSub IntKind.i64 (sLen s) 1))))))], PV.int IntKind.i64 0]))))
                      Tr.fail))
                  (Tr.ite true (Tr.ret (PV.tup [PV.agg [PV.int IntKind.i64 0, PV.int IntKind.i64 0, PV.str []], PV.int IntKind.i64 10]))
                    (Tr.ite (okBytes [])
                      (Tr.ite (iNe (checkV 2 0 (unBytes [])) 0) (Tr.ret (PV.tup [PV.agg [PV.int IntKind.i64 0, PV.int IntKind.i64 0, PV.str []], PV.int IntKind.i64 10]))
                        (Tr.ite (sNe (textW 2 0 (unBytes [])) s) (Tr.ret (PV.tup [PV.agg [PV.int IntKind.i64 0, PV.int IntKind.i64 0, PV.str []], PV.int IntKind.i64 10]))
                          (Tr.ret (PV.tup [PV.agg [PV.int IntKind.i64 2, PV.int IntKind.i64 0, PV.str (unBytes [])], PV.int IntKind.i64 0]))))
                      Tr.fail)))
                Tr.fail)
              Tr.fail)
            (Tr.ite (iEq 10 10)
              (Tr.ite (iEq 64 64)
                (Tr.ite (okSize48 s)
                  (Tr.ite (pOk s)
                    (Tr.ite false (Tr.ret (PV.tup [PV.agg [PV.int IntKind.i64 0, PV.int IntKind.i64 0, PV.str []], PV.int IntKind.i64 10]))
                      (Tr.ite (iNe (checkV 1 (pVal s) []) 0) (Tr.ret (PV.tup [PV.agg [PV.int IntKind.i64 0, PV.int IntKind.i64 0, PV.str []], PV.int IntKind.i64 10]))
                        (Tr.ite (sNe (textW 1 (pVal s) []) s) (Tr.ret (PV.tup [PV.agg [PV.int IntKind.i64 0, PV.int IntKind.i64 0, PV.str []], PV.int IntKind.i64 10]))
                          (Tr.ret (PV.tup [PV.agg [PV.int IntKind.i64 1, PV.int IntKind.i64 (pVal s), PV.str []], PV.int IntKind.i64 0])))))
                    (Tr.ite true (Tr.ret (PV.tup [PV.agg [PV.int IntKind.i64 0, PV.int IntKind.i64 0, PV.str []], PV.int IntKind.i64 10]))
                      (Tr.ite (iNe (checkV 1 (pVal s) []) 0) (Tr.ret (PV.tup [PV.agg [PV.int IntKind.i64 0, PV.int IntKind.i64 0, PV.str []], PV.int IntKind.i64 10]))
                        (Tr.ite (sNe (textW 1 (pVal s) []) s) (Tr.ret (PV.tup [PV.agg [PV.int IntKind.i64 0, PV.int IntKind.i64 0, PV.str []], PV.int IntKind.i64 10]))
                          (Tr.ret (PV.tup [PV.agg [PV.int IntKind.i64 1, PV.int IntKind.i64 (pVal s), PV.str []], PV.int IntKind.i64 0]))))))
                  Tr.fail)
                Tr.fail)
              Tr.fail))
          (Tr.ite (iEq 10 10)
            (Tr.ite (iEq 64 64)
              (Tr.ite (okSize48 s)
                (Tr.ite (pOk s)
                  (Tr.ite false (Tr.ret (PV.tup [PV.agg [PV.int IntKind.i64 0, PV.int IntKind.i64 0, PV.str []], PV.int IntKind.i64 10]))
                    (Tr.ite (iNe (checkV 1 (pVal s) []) 0) (Tr.ret (PV.tup [PV.agg [PV.int IntKind.i64 0, PV.int IntKind.i64 0, PV.str []], PV.int IntKind.i64 10]))
                      (Tr.ite (sNe (textW 1 (pVal s) []) s) (Tr.ret (PV.tup [PV.agg [PV.int IntKind.i64 0, PV.int IntKind.i64 0, PV.str []], PV.int IntKind.i64 10]))
                        (Tr.ret (PV.tup [PV.agg [PV.int IntKind.i64 1, PV.int IntKind.i64 (pVal s), PV.str []], PV.int IntKind.i64 0])))))
                  (Tr.ite true (Tr.ret (PV.tup [PV.agg [PV.int IntKind.i64 0, PV.int IntKind.i64 0, PV.str []], PV.int IntKind.i64 10]))
                    (Tr.ite (iNe (checkV 1 (pVal s) []) 0) (Tr.ret (PV.tup [PV.agg [PV.int IntKind.i64 0, PV.int IntKind.i64 0, PV.str []], PV.int IntKind.i64 10]))
                      (Tr.ite (sNe (textW 1 (pVal s) []) s) (Tr.ret (PV.tup [PV.agg [PV.int IntKind.i64 0, PV.int IntKind.i64 0, PV.str []], PV.int IntKind.i64 10]))
                        (Tr.ret (PV.tup [PV.agg [PV.int IntKind.i64 1, PV.int IntKind.i64 (pVal s), PV.str []], PV.int IntKind.i64 0]))))))
                Tr.fail)
              Tr.fail)
            Tr.fail))
        (Tr.ite (iEq 10 10)
          (Tr.ite (iEq 64 64)
            (Tr.ite (okSize48 s)
              (Tr.ite (pOk s)
                (Tr.ite false (Tr.ret (PV.tup [PV.agg [PV.int IntKind.i64 0, PV.int IntKind.i64 0, PV.str []], PV.int IntKind.i64 10]))
                  (Tr.ite (iNe (checkV 1 (pVal s) []) 0) (Tr.ret (PV.tup [PV.agg [PV.int IntKind.i64 0, PV.int IntKind.i64 0, PV.str []], PV.int IntKind.i64 10]))
                    (Tr.ite (sNe (textW 1 (pVal s) []) s) (Tr.ret (PV.tup [PV.agg [PV.int IntKind.i64 0, PV.int IntKind.i64 0, PV.str []], PV.int IntKind.i64 10]))
                      (Tr.ret (PV.tup [PV.agg [PV.int IntKind.i64 1, PV.int IntKind.i64 (pVal s), PV.str []], PV.int IntKind.i64 0])))))
                (Tr.ite true (Tr.ret (PV.tup [PV.agg [PV.int IntKind.i64 0, PV.int IntKind.i64 0, PV.str []], PV.int IntKind.i64 10]))
                  (Tr.ite (iNe (checkV 1 (pVal s) []) 0) (Tr.ret (PV.tup [PV.agg [PV.int IntKind.i64 0, PV.int IntKind.i64 0, PV.str []], PV.int IntKind.i64 10]))
                    (Tr.ite (sNe (textW 1 (pVal s) []) s) (Tr.ret (PV.tup [PV.agg [PV.int IntKind.i64 0, PV.int IntKind.i64 0, PV.str []], PV.int IntKind.i64 10]))
                      (Tr.ret (PV.tup [PV.agg [PV.int IntKind.i64 1, PV.int IntKind.i64 (pVal s), PV.str []], PV.int IntKind.i64 0]))))))
              Tr.fail)
            Tr.fail)
          Tr.fail)) (by kernel_rfl) ?_
    have hl : s.length ≤ 140737488355328 := by simpa using h1
    cases h2
    have h48 : okSize48 s = true := by simp [okSize48]; omega
    have int : (Tr.ite (iEq 10 10) (Tr.ite (iEq 64 64) (Tr.ite (okSize48 s) (Tr.ite (pOk s)
              (Tr.ite false (Tr.ret (PV.tup [PV.agg [PV.int IntKind.i64 0, PV.int IntKind.i64 0, PV.str []], PV.int IntKind.i64 10]))
                (Tr.ite (iNe (checkV 1 (pVal s) []) 0) (Tr.ret (PV.tup [PV.agg [PV.int IntKind.i64 0, PV.int IntKind.i64 0, PV.str []], PV.int IntKind.i64 10]))
                  (Tr.ite (sNe (textW 1 (pVal s) []) s) (Tr.ret (PV.tup [PV.agg [PV.int IntKind.i64 0, PV.int IntKind.i64 0, PV.str []], PV.int IntKind.i64 10]))
                    (Tr.ret (PV.tup [PV.agg [PV.int IntKind.i64 1, PV.int IntKind.i64 (pVal s), PV.str []], PV.int IntKind.i64 0])))))
              (Tr.ite true (Tr.ret (PV.tup [PV.agg [PV.int IntKind.i64 0, PV.int IntKind.i64 0, PV.str []], PV.int IntKind.i64 10]))
                (Tr.ite (iNe (checkV 1 (pVal s) []) 0) (Tr.ret (PV.tup [PV.agg [PV.int IntKind.i64 0, PV.int IntKind.i64 0, PV.str []], PV.int IntKind.i64 10]))
                  (Tr.ite (sNe (textW 1 (pVal s) []) s) (Tr.ret (PV.tup [PV.agg [PV.int IntKind.i64 0, PV.int IntKind.i64 0, PV.str []], PV.int IntKind.i64 10]))
                    (Tr.ret (PV.tup [PV.agg [PV.int IntKind.i64 1, PV.int IntKind.i64 (pVal s), PV.str []], PV.int IntKind.i64 0])))))) Tr.fail) Tr.fail) Tr.fail).run =
        some (if pOk s then (if checkV 1 (pVal s) [] = 0 ∧ textW 1 (pVal s) [] = s then .tup [.agg [.int .i64 1, .int .i64 (pVal s), .str []], .int .i64 0] else .tup [.agg [.int .i64 0, .int .i64 0, .str []], .int .i64 10]) else .tup [.agg [.int .i64 0, .int .i64 0, .str []], .int .i64 10]) := by
      cases hp : pOk s with
      | false => simp [h48]
      | true =>
        by_cases hc : checkV 1 (pVal s) [] = 0 <;> by_cases ht : textW 1 (pVal s) [] = s <;> simp [h48, hc, ht]
    have fin : ∀ o : Option (Int × Int × List UInt8), rdV s = o → PV.tup [.agg [.int .i64 (kRd s), .int .i64 (nRd s), .str (sRd s)], .int .i64 (eRd s)] = match o with | some v => .tup [.agg [.int .i64 v.1, .int .i64 v.2.1, .str v.2.2], .int .i64 0] | none => .tup [.agg [.int .i64 0, .int .i64 0, .str []], .int .i64 10] := by
      intro o ho
      unfold kRd nRd sRd eRd
      rw [ho]
      cases o <;> rfl
    by_cases hq : isPre s [34] = true ∧ isSuf s [34] = true ∧ 2 ≤ s.length
    · obtain ⟨p1, p2, p3⟩ := hq
      have e1 : sSub s (nNat 1) (nNat (iSub .i64 (sLen s) 1)) = (s.take (s.length - 1)).drop 1 := by
        have : iSub .i64 (sLen s) 1 = s.length - 1 := by unfold iSub; rw [sLen_eq, wrap_i64 (by omega)]
        rw [this]
        simp
        try (congr 2; omega)
      have e2 : okSub (okPos 1) (okPos (iSub .i64 (sLen s) 1)) (nNat 1) (nNat (iSub .i64 (sLen s) 1)) (nLen s) = true := by
        have : iSub .i64 (sLen s) 1 = s.length - 1 := by unfold iSub; rw [sLen_eq, wrap_i64 (by omega)]
        rw [this]
        simp
        omega
      have e3 : iLe 2 (sLen s) = true := by simp; omega
      rw [e1, p1, p2, e2, e3]
      have e4 : okLen ((s.take (s.length - 1)).drop 1) = true := by simp; omega
      generalize hm : (s.take (s.length - 1)).drop 1 = m at *
      rw [e4]
      cases hd : decP m with
      | none =>
        have h5 : okDec m = false := by simp [okDec, hd]
        have := fin none (by unfold rdV; rw [if_pos ⟨p1, p2, p3⟩, hm, hd])
        rw [this]
        simp [h5]
      | some b =>
        have h5 : okDec m = true := by simp [okDec, hd]
        have h6 : decV m = b := by simp [decV, hd]
        rw [h6]
        by_cases hc : checkV 2 0 b = 0 ∧ textW 2 0 b = s
        · have := fin (some (2, 0, b)) (by unfold rdV; rw [if_pos ⟨p1, p2, p3⟩, hm, hd]; simp only []; rw [if_pos hc])
          rw [this]
          simp [h5, hc]
        · have := fin none (by unfold rdV; rw [if_pos ⟨p1, p2, p3⟩, hm, hd]; simp only []; rw [if_neg hc])
          rw [this]
          by_cases hc1 : checkV 2 0 b = 0
          · have hc2 : ¬ textW 2 0 b = s := fun h => hc ⟨hc1, h⟩
            simp [h5, hc1, hc2]
          · simp [h5, hc1]
    · have e9 : rdV s = if pOk s then (if checkV 1 (pVal s) [] = 0 ∧ textW 1 (pVal s) [] = s then some (1, pVal s, []) else none) else none := by
        unfold rdV
        rw [if_neg hq]
      have e8 : PV.tup [.agg [.int .i64 (kRd s), .int .i64 (nRd s), .str (sRd s)], .int .i64 (eRd s)] = (if pOk s then (if checkV 1 (pVal s) [] = 0 ∧ textW 1 (pVal s) [] = s then .tup [.agg [.int .i64 1, .int .i64 (pVal s), .str []], .int .i64 0] else .tup [.agg [.int .i64 0, .int .i64 0, .str []], .int .i64 10]) else .tup [.agg [.int .i64 0, .int .i64 0, .str []], .int .i64 10]) := by
        rw [fin _ e9]
        by_cases c1 : pOk s = true
        · by_cases c2 : checkV 1 (pVal s) [] = 0 ∧ textW 1 (pVal s) [] = s
          · simp only [c1, if_true, if_pos c2]
          · simp only [c1, if_true, if_neg c2]
        · simp only [if_neg c1]
      rw [e8, ← int]
      cases p1 : isPre s [34] with
      | false => simp
      | true =>
        cases p2 : isSuf s [34] with
        | false => simp
        | true =>
          have e3 : iLe 2 (sLen s) = false := by simp; have : ¬ 2 ≤ s.length := fun h => hq ⟨p1, p2, h⟩; omega
          rw [e3]
          simp
  · cases h
end Go.Pv

/- Loops told by their rounds, functions told by their trees: contracts without a proof of one's own. -/
set_option linter.unusedSimpArgs false
set_option linter.unusedVariables false
namespace Go.Pv
open Go.RowKit Tr

/-! ### elements of rows, cell by cell -/
def xInt (xs : List (List PV)) (i j : Nat) : Int := match (xs.getD i []).getD j .top with | .int _ n => n | _ => 0
def xBool (xs : List (List PV)) (i j : Nat) : Bool := match (xs.getD i []).getD j .top with | .bool b => b | _ => false
def xStr (xs : List (List PV)) (i j : Nat) : List UInt8 := match (xs.getD i []).getD j .top with | .str l => l | _ => []
def xRow (xs : List (List PV)) (i j : Nat) : List (List PV) := match (xs.getD i []).getD j .top with | .sl l _ => l | _ => []
def xPV (xs : List (List PV)) (i j : Nat) : PV := (xs.getD i []).getD j .top
def selC (c : PV) (xs : List (List PV)) (i j : Nat) : PV := match c with
  | .int k _ => .int k (xInt xs i j)
  | .bool _ => .bool (xBool xs i j)
  | .str _ => .str (xStr xs i j)
  | .sl _ _ => .sl (xRow xs i j) .non
  | _ => xPV xs i j
def selF : List PV → List (List PV) → Nat → Nat → List PV
  | [], _, _, _ => []
  | c :: z, xs, i, j => selC c xs i j :: selF z xs i (j + 1)
open Classical in
noncomputable def okGet (z : List PV) (xs : List (List PV)) (i : Nat) : Bool := decide (xs[i]? = some (selF z xs i 0))

/-- A tree whose elements of rows are told cell by cell. -/
noncomputable def Tr.flat {α : Type} : Tr α → Tr α
  | .ret a => .ret a
  | .fail => .fail
  | .ite b x y => .ite b x.flat y.flat
  | .get xs i z k => .ite (okGet z xs i) (k (selF z xs i 0)).flat .fail

theorem Tr.flat_run {α : Type} {r : α} : ∀ {t : Tr α}, t.flat.run = some r → t.run = some r
  | .ret a, h => h
  | .fail, h => h
  | .ite b x y, h => by
    cases b with
    | true => simp only [Tr.flat, Tr.run_ite, if_true] at h ⊢; exact Tr.flat_run h
    | false => simp only [Tr.flat, Tr.run_ite, Bool.false_eq_true, if_false] at h ⊢; exact Tr.flat_run h
  | .get xs i z k, h => by
    simp only [Tr.flat, Tr.run_ite] at h
    split at h
    · rename_i hg
      have hg : xs[i]? = some (selF z xs i 0) := by simpa [okGet] using hg
      simp only [Tr.run_get, hg]
      exact Tr.flat_run h
    · cases h


/-! ### own rows from m on forgotten -/
def dropTS (m : Nat) (σ : Store) : Store := ⟨σ.objs.map (dropTL m), σ.toks.take m, σ.tys⟩
theorem dropTL_len (m : Nat) : ∀ (xs : List PV), (dropTL m xs).length = xs.length
  | [] => rfl
  | x :: xs => by simp [dropTL, dropTL_len m xs]
theorem dropTLL_len (m : Nat) : ∀ (xs : List (List PV)), (dropTLL m xs).length = xs.length
  | [] => rfl
  | x :: xs => by simp [dropTLL, dropTLL_len m xs]
mutual
theorem dropT_lock (m : Nat) : ∀ {x : PV}, lock x = x → dropT m x = x
  | .top, _ => rfl
  | .bool _, _ => rfl
  | .int _ _, _ => rfl
  | .str _, _ => rfl
  | .nilp, _ => rfl
  | .ptr _ _, h => by simp [lock] at h
  | .ref cs, h => by simp only [lock, PV.ref.injEq] at h; simp only [dropT]; rw [dropTL_lock m h]
  | .sl xs t, h => by simp only [lock, PV.sl.injEq] at h; simp only [dropT]; rw [dropTLL_lock m h.1, ← h.2]; rfl
  | .osl _ _ _ _, h => by simp [lock] at h
  | .fn f caps, h => by simp only [lock, PV.fn.injEq] at h; simp only [dropT]; rw [dropTL_lock m h.2]
  | .nilf, _ => rfl
  | .iface t v, h => by simp only [lock, PV.iface.injEq] at h; simp only [dropT]; rw [dropT_lock m h.2]
  | .nili, _ => rfl
  | .agg cs, h => by simp only [lock, PV.agg.injEq] at h; simp only [dropT]; rw [dropTL_lock m h]
  | .tup cs, h => by simp only [lock, PV.tup.injEq] at h; simp only [dropT]; rw [dropTL_lock m h]
theorem dropTL_lock (m : Nat) : ∀ {x : List PV}, lockL x = x → dropTL m x = x
  | [], _ => rfl
  | x :: xs, h => by simp only [lockL, List.cons.injEq] at h; simp only [dropTL]; rw [dropT_lock m h.1, dropTL_lock m h.2]
theorem dropTLL_lock (m : Nat) : ∀ {x : List (List PV)}, lockLL x = x → dropTLL m x = x
  | [], _ => rfl
  | x :: xs, h => by simp only [lockLL, List.cons.injEq] at h; simp only [dropTLL]; rw [dropTL_lock m h.1, dropTLL_lock m h.2]
end
@[simp] theorem dropTLL_bytes (m : Nat) (l : List UInt8) : dropTLL m (bytesOf l) = bytesOf l := dropTLL_lock m (lockLL_bytes l)
@[simp] theorem dropTLL_rOf {α : Type} (C : Cod α) (m : Nat) (l : List α) : dropTLL m (rOf C l) = rOf C l := dropTLL_lock m (lockLL_rOf C l)
theorem dropTLL_app (m : Nat) : ∀ (a b : List (List PV)), dropTLL m (a ++ b) = dropTLL m a ++ dropTLL m b
  | [], b => rfl
  | x :: a, b => by simp only [List.cons_append, dropTLL, dropTLL_app m a b]

def Gh.trim (H : Gh) (m : Nat) : Gh := { H with tk := H.tk.take m }
section
variable {H : Gh} {w : World} {m : Nat}
theorem trim_prot {b off : Nat} (h : H.prot w b off) : (H.trim m).prot w b off := ⟨h.1, h.2.1, h.2.2.1, fun T hT => h.2.2.2 T (List.mem_of_mem_take hT)⟩
theorem trim_prot2 {b off : Nat} (h : H.prot2 w b off) : (H.trim m).prot2 w b off := h.elim (fun h => .inl (trim_prot h)) .inr
theorem trim_tag {p : Option Addr} {len cap k : Nat} {t : Tag} (h : TagOk H p len cap k t) : TagOk (H.trim m) p len cap k (dropTag m t) := by
  cases t with
  | non => trivial
  | full => exact h
  | nil => exact h
  | own => exact h
  | tok t =>
    simp only [dropTag]
    cases hm : decide (t < m) with
    | false => trivial
    | true =>
      obtain ⟨T, e, l, q⟩ := h
      exact ⟨T, by simp only [Gh.trim]; rw [List.getElem?_take, if_pos (by simpa using hm)]; exact e, l, q⟩
mutual
theorem trim_rel : ∀ {x : PV} {v : Value}, Rel H w x v → Rel (H.trim m) w (dropT m x) v
  | _, _, .top v => by simp only [dropT]; exact .top v
  | _, _, .bool b => by simp only [dropT]; exact .bool b
  | _, _, .int k m h => by simp only [dropT]; exact .int k m h
  | _, _, .str l h => by simp only [dropT]; exact .str l h
  | _, _, .nilp => by simp only [dropT]; exact .nilp
  | _, _, .ptr id off b h => by simp only [dropT]; exact .ptr id off b h
  | _, _, .ref a cs vs h hc => by simp only [dropT]; exact .ref a _ vs (trimL_rel h) (fun j v e => ⟨trim_prot2 (hc j v e).1, (hc j v e).2⟩)
  | _, _, .osl id off off' len cap k b h ho hcap hm => by simp only [dropT]; exact .osl id off off' len cap k b h ho hcap hm
  | _, _, .sl p len cap k xs vss t hl hcap hm h hr ht => by
    simp only [dropT]
    exact .sl p len cap k _ vss _ (by rw [← hl]; exact dropTLL_len _ xs) hcap hm (trimLL_rel h) (fun i vs e => ⟨(hr i vs e).1, by
      obtain ⟨_, a, ha, hc⟩ := hr i vs e
      exact ⟨a, ha, fun j v e => ⟨trim_prot (hc j v e).1, (hc j v e).2⟩⟩⟩) (trim_tag ht)
  | _, _, .fn f caps vs h => by simp only [dropT]; exact .fn f _ vs (trimL_rel h)
  | _, _, .yld t T h hk => by
    simp only [dropT]
    cases hm : decide (t < m) with
    | false => exact .top _
    | true => exact .yld t T (by simp only [Gh.trim]; rw [List.getElem?_take, if_pos (by simpa using hm)]; exact h) hk
  | _, _, .nilf => by simp only [dropT]; exact .nilf
  | _, _, .iface t x v h => by simp only [dropT]; exact .iface t _ v (trim_rel h)
  | _, _, .nili => by simp only [dropT]; exact .nili
  | _, _, .agg cs vs h => by simp only [dropT]; exact .agg _ vs (trimL_rel h)
  | _, _, .tup cs vs h => by simp only [dropT]; exact .tup _ vs (trimL_rel h)
theorem trimL_rel : ∀ {x : List PV} {v : List Value}, RelL H w x v → RelL (H.trim m) w (dropTL m x) v
  | _, _, .nil => by simp only [dropTL]; exact .nil
  | _, _, .cons x v xs vs h ht => by simp only [dropTL]; exact .cons _ v _ vs (trim_rel h) (trimL_rel ht)
theorem trimLL_rel : ∀ {x : List (List PV)} {v : List (List Value)}, RelLL H w x v → RelLL (H.trim m) w (dropTLL m x) v
  | _, _, .nil => by simp only [dropTLL]; exact .nil
  | _, _, .cons x v xs vs h ht => by simp only [dropTLL]; exact .cons _ v _ vs (trimL_rel h) (trimLL_rel ht)
end
theorem trim_ok {gl : Gl} {σ : Store} (h : Ok gl H σ w) : Ok gl (H.trim m) (dropTS m σ) w where
  B := h.B
  gl := h.gl
  len := by simp [Gh.trim, dropTS, h.len]
  obj := fun id b cs e1 e2 => by
    simp only [dropTS, List.getElem?_map] at e2
    obtain ⟨c0, hc0, rfl⟩ := Option.map_eq_some_iff.1 e2
    obtain ⟨hB, vs, ext, T, he, hr⟩ := h.obj id b c0 e1 hc0
    exact ⟨hB, vs, ext, T, he, trimL_rel hr⟩
  nd := h.nd
  tkl := by
    have := h.tkl
    simp only [Gh.trim, dropTS, List.map_take, ← this]
  tok := fun t T e => by
    obtain ⟨hlt, e⟩ := take_get e
    obtain ⟨hB, ho, o, he, hr⟩ := h.tok t T e
    refine ⟨hB, ho, o, he, ?_⟩
    rcases hr with hr | ⟨h1, h2, r, h3, h4, h5, h6, h7⟩
    · exact .inl hr
    · refine .inr ⟨h1, h2, r, h3, ?_, h5, h6, h7⟩
      have := trimL_rel (m := m) h4
      rwa [h7 m (by omega)] at this
  tnd := fun t u T U e1 e2 => h.tnd t u T U (take_get e1).2 (take_get e2).2
  tyl := by simp [dropTS, h.tyl]
  ty := fun id b T cs e1 e2 e3 hT => by
    simp only [dropTS, List.getElem?_map] at e2 e3
    obtain ⟨c0, hc0, rfl⟩ := Option.map_eq_some_iff.1 e3
    obtain ⟨us, he, hs⟩ := h.ty id b T c0 e1 e2 hc0 hT
    exact ⟨us, he, by rw [hs, dropTL_len]⟩
end
section
variable {P : Program} {gl : Gl} {c : Code} {fr fr' : List PV} {σ σ' : Store} {e : PExit} {m : Nat}
theorem st_trim {H0 : Gh} {w0 : World} {a : Act} {w : World} (hn : H0.tk.length ≤ m) (h : St gl H0 w0 fr σ a w) : St gl H0 w0 (dropTL m fr) (dropTS m σ) a w := by
  obtain ⟨H, hev, hok, hfr, hd⟩ := h
  refine ⟨H.trim m, ⟨hev.B, hev.base, hev.aux, hev.K, hev.os, hev.tape, hev.output, hev.size, hev.ob, fun t T ht => ?_, fun b off hp => ⟨trim_prot (hev.prot b off hp).1, (hev.prot b off hp).2⟩, hev.block, hev.dr, hev.fix, fun t T e hk => hev.old t T (take_get e).2 hk⟩, trim_ok hok, trimL_rel hfr, hd⟩
  obtain ⟨T', h1, h2⟩ := hev.tok t T ht
  refine ⟨T', ?_, h2⟩
  simp only [Gh.trim]
  rw [List.getElem?_take, if_pos (Nat.lt_of_lt_of_le (List.getElem?_eq_some_iff.1 ht).1 hn)]
  exact h1
theorem Does.trim (hn : σ.toks.length ≤ m) (h : Does P gl c fr σ e fr' σ') : Does P gl c fr σ e (dropTL m fr') (dropTS m σ') := by
  intro r n' H0 w0 hR Q a w hst hq
  obtain ⟨H, hev, hok, hfr, hd⟩ := hst
  refine h r n' H w (hR.ev hev) Q a w ⟨H, Ev.refl H w, hok, hfr, hd⟩ fun a' w' hst' => hq a' w' ?_
  have hl : H.tk.length ≤ m := by
    have := congrArg List.length hok.tkl
    simp at this
    omega
  obtain ⟨H', hev', hok', hfr', hd'⟩ := st_trim (m := m) hl hst'
  exact ⟨H', hev.trans hev', hok', hfr', hd'⟩
end


/-! ### loops -/
/-- What a round leads to: the next round's slots and store, or out. -/
inductive LR where
  | next (vs : List PV) (σ : Store)
  | out (e : PExit) (vs : List PV) (σ : Store)

/-- A loop: how many slots its frame has, which it carries, which count behind it. -/
structure LI where
  nt : Nat
  ss : List Nat
  os : PExit → List Nat
  tr : Bool := true

def rsl (ss : List Nat) (fr : List PV) : List PV := ss.map fun s => fr.getD s .top

theorem weak_rsl (fr : List PV) (ss : List Nat) : Weak fr (mk fr.length (ss.zip (rsl ss fr))) := weak_mk fr ss

/-- At the end of a round what it has made and left is forgotten. -/
def trimO (σ : Store) (vs : List PV) (σ' : Store) : List PV × Store :=
  if σ'.objs.length ≤ max σ.objs.length (mptrL vs) then (vs, σ') else (dropPL (max σ.objs.length (mptrL vs)) vs, dropS (max σ.objs.length (mptrL vs)) σ')
def mtokLL : List (List PV) → Nat
  | [] => 0
  | x :: xs => max (mtokL x) (mtokLL xs)
def trimW (σ : Store) (vs : List PV) (σ' : Store) : List PV × Store :=
  if σ'.toks.length ≤ max σ.toks.length (max (mtokL vs) (mtokLL (σ'.objs.take σ.objs.length))) then trimO σ vs σ' else trimO σ (dropTL (max σ.toks.length (max (mtokL vs) (mtokLL (σ'.objs.take σ.objs.length)))) vs) (dropTS (max σ.toks.length (max (mtokL vs) (mtokLL (σ'.objs.take σ.objs.length)))) σ')

def trimB (tr : Bool) (σ : Store) (vs : List PV) (σ' : Store) : List PV × Store := match tr with
  | true => trimW σ vs σ'
  | false => (vs, σ')

noncomputable def lstep (tb : Tab) (G : GamT) (L : LpsT) (c : Code) (I : LI) (vs : List PV) (σ : Store) : Tr LR :=
  (bind (texec tb G L c [] (mk I.nt (I.ss.zip vs)) σ) fun r => if r.2.2.1.length = I.nt then match r.1 with
    | .normal => .ret (.next (trimB I.tr σ (rsl I.ss r.2.2.1) r.2.2.2).1 (trimB I.tr σ (rsl I.ss r.2.2.1) r.2.2.2).2)
    | e => .ret (.out e (trimB I.tr σ (rsl (I.os e) r.2.2.1) r.2.2.2).1 (trimB I.tr σ (rsl (I.os e) r.2.2.1) r.2.2.2).2) else .fail).flat

def lrun (step : List PV → Store → Tr LR) : Nat → List PV → Store → Option (PExit × List PV × Store)
  | 0, _, _ => none
  | n + 1, vs, σ => match (step vs σ).run with
    | some (.next vs' σ') => lrun step n vs' σ'
    | some (.out e vs' σ') => some (e, vs', σ')
    | none => none

theorem lrun_mono {step : List PV → Store → Tr LR} : ∀ {n m : Nat} {vs : List PV} {σ : Store} {r : PExit × List PV × Store}, lrun step n vs σ = some r → n ≤ m → lrun step m vs σ = some r
  | 0, _, _, _, _, h, _ => by cases h
  | n + 1, 0, _, _, _, _, hm => by omega
  | n + 1, m + 1, vs, σ, r, h, hm => by
    simp only [lrun] at h ⊢
    split at h
    · rename_i vs' σ' hs
      exact lrun_mono h (by omega)
    · exact h
    · cases h

open Classical in
noncomputable def lval (step : List PV → Store → Tr LR) (vs : List PV) (σ : Store) : Option (PExit × List PV × Store) :=
  if h : ∃ r n, lrun step n vs σ = some r then some h.choose else none

theorem lval_of {step : List PV → Store → Tr LR} {vs : List PV} {σ : Store} {n : Nat} {r : PExit × List PV × Store} (h : lrun step n vs σ = some r) : lval step vs σ = some r := by
  unfold lval
  have hx : ∃ r n, lrun step n vs σ = some r := ⟨r, n, h⟩
  rw [dif_pos hx]
  obtain ⟨m, hm⟩ := hx.choose_spec
  have h1 := lrun_mono h (Nat.le_max_left n m)
  have h2 := lrun_mono hm (Nat.le_max_right n m)
  rw [h1] at h2
  exact h2.symm

theorem lval_run {step : List PV → Store → Tr LR} {vs : List PV} {σ : Store} {r : PExit × List PV × Store} (h : lval step vs σ = some r) : ∃ n, lrun step n vs σ = some r := by
  unfold lval at h
  split at h
  · rename_i hx
    cases h
    exact hx.choose_spec
  · cases h

/-- What a round leads to. -/
def lnext (V : List PV → Store → Option (PExit × List PV × Store)) (r : Option LR) : Option (PExit × List PV × Store) := match r with
  | some (.next vs' σ') => V vs' σ'
  | some (.out e vs' σ') => some (e, vs', σ')
  | none => none
@[simp] theorem lnext_next (V : List PV → Store → Option (PExit × List PV × Store)) (vs : List PV) (σ : Store) : lnext V (some (.next vs σ)) = V vs σ := rfl
@[simp] theorem lnext_out (V : List PV → Store → Option (PExit × List PV × Store)) (e : PExit) (vs : List PV) (σ : Store) : lnext V (some (.out e vs σ)) = some (e, vs, σ) := rfl
@[simp] theorem lnext_none (V : List PV → Store → Option (PExit × List PV × Store)) : lnext V none = none := rfl
/-- A loop, round by round. -/
theorem lval_eq (step : List PV → Store → Tr LR) (vs : List PV) (σ : Store) : lval step vs σ = lnext (lval step) (step vs σ).run := by
  unfold lnext
  cases hs : (step vs σ).run with
  | none =>
    simp only
    cases hv : lval step vs σ with
    | none => rfl
    | some r =>
      obtain ⟨n, hn⟩ := lval_run hv
      cases n with
      | zero => cases hn
      | succ n => simp [lrun, hs] at hn
  | some q =>
    cases q with
    | out e vs' σ' => exact lval_of (n := 1) (by simp [lrun, hs])
    | next vs' σ' =>
      simp only
      cases hv : lval step vs' σ' with
      | some r =>
        obtain ⟨n, hn⟩ := lval_run hv
        exact lval_of (n := n + 1) (by simp [lrun, hs, hn])
      | none =>
        cases hw : lval step vs σ with
        | none => rfl
        | some r =>
          obtain ⟨n, hn⟩ := lval_run hw
          cases n with
          | zero => cases hn
          | succ n =>
            simp only [lrun, hs] at hn
            rw [lval_of hn] at hv
            cases hv

theorem dropPL_rsl (n : Nat) (ss : List Nat) (fr : List PV) : dropPL n (rsl ss fr) = rsl ss (dropPL n fr) := by
  unfold rsl
  induction ss with
  | nil => rfl
  | cons s ss ih =>
    simp only [List.map_cons, dropPL, ih]
    congr 1
    clear ih
    induction fr generalizing s with
    | nil => rfl
    | cons x fr ih =>
      cases s with
      | zero => rfl
      | succ s => simpa [dropPL] using ih s
theorem dropTL_rsl (n : Nat) (ss : List Nat) (fr : List PV) : dropTL n (rsl ss fr) = rsl ss (dropTL n fr) := by
  unfold rsl
  induction ss with
  | nil => rfl
  | cons s ss ih =>
    simp only [List.map_cons, dropTL, ih]
    congr 1
    clear ih
    induction fr generalizing s with
    | nil => rfl
    | cons x fr ih =>
      cases s with
      | zero => rfl
      | succ s => simpa [dropTL] using ih s

section
variable {P : Program} {tb : Tab} {gl : Gl} {G : GamT}
theorem trimO_sound {c : Code} {fr : List PV} {σ σ2 : Store} {fr1 : List PV} {ss : List Nat} {e : PExit} (hd : Does P gl c fr σ e fr1 σ2) :
    ∃ fr3, fr3.length = fr1.length ∧ (trimO σ (rsl ss fr1) σ2).1 = rsl ss fr3 ∧ Does P gl c fr σ e fr3 (trimO σ (rsl ss fr1) σ2).2 := by
  unfold trimO
  split
  · exact ⟨fr1, rfl, rfl, hd⟩
  · exact ⟨_, dropPL_len _ _, dropPL_rsl _ _ _, hd.drop (Nat.le_max_left _ _)⟩
theorem trimW_sound {c : Code} {fr : List PV} {σ σ2 : Store} {fr1 : List PV} {ss : List Nat} {e : PExit} (hd : Does P gl c fr σ e fr1 σ2) :
    ∃ fr3, fr3.length = fr1.length ∧ (trimW σ (rsl ss fr1) σ2).1 = rsl ss fr3 ∧ Does P gl c fr σ e fr3 (trimW σ (rsl ss fr1) σ2).2 := by
  unfold trimW
  split
  · exact trimO_sound hd
  · rw [dropTL_rsl]
    obtain ⟨fr3, h1, h2, h3⟩ := trimO_sound (ss := ss) (hd.trim (m := max σ.toks.length (max (mtokL (rsl ss fr1)) (mtokLL (σ2.objs.take σ.objs.length)))) (Nat.le_max_left _ _))
    exact ⟨fr3, by rw [h1, dropTL_len], h2, h3⟩
theorem trimB_sound {c : Code} {fr : List PV} {σ σ2 : Store} {fr1 : List PV} {ss : List Nat} {e : PExit} (tr : Bool) (hd : Does P gl c fr σ e fr1 σ2) :
    ∃ fr3, fr3.length = fr1.length ∧ (trimB tr σ (rsl ss fr1) σ2).1 = rsl ss fr3 ∧ Does P gl c fr σ e fr3 (trimB tr σ (rsl ss fr1) σ2).2 := by
  cases tr with
  | true => exact trimW_sound hd
  | false => exact ⟨fr1, rfl, rfl, hd⟩
theorem lrun_sound (hT : TabOk P tb) (hΓ : GamOk P gl (gam G)) (hm : P.follows .mixedOrders = true) {L : LpsT} {c : Code} (hL : LoopOk P gl (lps L) c) (hdr : drawsOk (gam G) c = true) {I : LI} : ∀ (n : Nat) (vs : List PV) (σ : Store) (e : PExit) (vs' : List PV) (σ' : Store),
    lrun (lstep tb G L c I) n vs σ = some (e, vs', σ') → LDoes P gl c (mk I.nt (I.ss.zip vs)) σ e (mk I.nt ((I.os e).zip vs')) σ' := by
  intro n
  induction n with
  | zero => intro vs σ e vs' σ' h; cases h
  | succ n ih =>
    intro vs σ e vs' σ' h
    simp only [lrun] at h
    split at h
    · rename_i vs1 σ1 hs
      have hs := Tr.flat_run hs
      obtain ⟨⟨e1, kn, fr1, σ2⟩, h1, h2⟩ := bind_some hs
      have hd := Does.of_tree hT hΓ hm hL hdr h1
      simp only at h2
      split at h2
      · rename_i hn
        cases e1 with
        | normal =>
          simp only [Tr.run_ret, Option.some.injEq, LR.next.injEq] at h2
          obtain ⟨rfl, rfl⟩ := h2
          obtain ⟨fr3, h3, h4, hd3⟩ := trimB_sound (ss := I.ss) I.tr hd
          rw [h4] at h
          refine LDoes.next hd3 (LDoes.into ?_ (ih _ _ _ _ _ h))
          have hw := weak_rsl fr3 I.ss
          rw [h3, hn] at hw
          exact hw
        | exit j => simp [Tr.run_ret] at h2
        | ret => simp [Tr.run_ret] at h2
      · cases h2
    · rename_i e1 vs1 σ1 hs
      simp only [Option.some.injEq, Prod.mk.injEq] at h
      obtain ⟨rfl, rfl, rfl⟩ := h
      have hs := Tr.flat_run hs
      obtain ⟨⟨e2, kn, fr1, σ2⟩, h1, h2⟩ := bind_some hs
      have hd := Does.of_tree hT hΓ hm hL hdr h1
      simp only at h2
      split at h2
      · rename_i hn
        have fin : ∀ e, e ≠ .normal → e2 = e → LDoes P gl c (mk I.nt (I.ss.zip vs)) σ e (mk I.nt ((I.os e).zip (trimB I.tr σ (rsl (I.os e) fr1) σ2).1)) (trimB I.tr σ (rsl (I.os e) fr1) σ2).2 := by
          rintro e hne rfl
          obtain ⟨fr3, h3, h4, hd3⟩ := trimB_sound (ss := I.os e2) I.tr hd
          rw [h4]
          refine LDoes.outof (LDoes.out hd3 hne) ?_
          have hw := weak_rsl fr3 (I.os e2)
          rw [h3, hn] at hw
          exact hw
        cases e2 with
        | normal => simp [Tr.run_ret] at h2
        | exit j =>
          simp only [Tr.run_ret, Option.some.injEq, LR.out.injEq] at h2
          obtain ⟨rfl, rfl, rfl⟩ := h2
          exact fin _ (by simp) rfl
        | ret =>
          simp only [Tr.run_ret, Option.some.injEq, LR.out.injEq] at h2
          obtain ⟨rfl, rfl, rfl⟩ := h2
          exact fin _ (by simp) rfl
      · cases h2
    · cases h

/-- A loop as its rounds tell, in the form the caller proposes. -/
def orc (I : LI) (prop : List PV → Store → Tr (PExit × List PV × Store)) (fr : List PV) (σ : Store) : Tr (PExit × List PV × Store) :=
  if fr.length = I.nt then bind (prop (rsl I.ss fr) σ) fun r => .ret (r.1, mk I.nt ((I.os r.1).zip r.2.1), r.2.2) else .fail

theorem orc_ok (hT : TabOk P tb) (hΓ : GamOk P gl (gam G)) (hm : P.follows .mixedOrders = true) {L : LpsT} {c : Code} (hL : LoopOk P gl (lps L) c) (hdr : drawsOk (gam G) c = true) {I : LI} {prop : List PV → Store → Tr (PExit × List PV × Store)}
    (h : ∀ vs σ r, (prop vs σ).run = some r → lval (lstep tb G L c I) vs σ = some r) : ∀ fr σ e fr' σ', (orc I prop fr σ).run = some (e, fr', σ') → LDoes P gl c fr σ e fr' σ' := by
  intro fr σ e fr' σ' hr
  unfold orc at hr
  split at hr
  · rename_i hn
    obtain ⟨⟨e1, vs1, σ1⟩, h1, h2⟩ := bind_some hr
    simp only [Tr.run_ret, Option.some.injEq, Prod.mk.injEq] at h2
    obtain ⟨rfl, rfl, rfl⟩ := h2
    obtain ⟨n, hn'⟩ := lval_run (h _ _ _ h1)
    have hw := weak_rsl fr I.ss
    rw [hn] at hw
    exact LDoes.into hw (lrun_sound hT hΓ hm hL hdr n _ _ _ _ _ hn')
  · cases hr

/-- A function as its tree tells. -/
theorem SimP.of_flat (hT : TabOk P tb) (hΓ : GamOk P gl (gam G)) (hm : P.follows .mixedOrders = true) {f : FuncId} {fn : Func} {c : Code} (hf : P.funcs[f]? = some fn) (hb : fn.body = some c) (hn : (fn.name == "runtime.NumGoroutine") = false)
    (hdr : drawsOk (gam G) c = true) {L : LpsT} (hL : LoopOk P gl (lps L) c) {F : List PV → Tr PV} (h : ∀ args x, (F args).run = some x → (tcall tb G L fn args).flat.run = some x) : SimP P gl f fun args => (F args).run :=
  SimP.of_tree hT hΓ hm hf hb hn hdr hL fun args x hx _ => Tr.flat_run (h args x hx)
end

/-- A function that writes to its caller's objects, as its tree tells. -/
theorem SimS.of_flat {P : Program} {tb : Tab} {gl : Gl} {G : GamT} (hT : TabOk P tb) (hΓ : GamOk P gl (gam G)) (hm : P.follows .mixedOrders = true) {f : FuncId} {fn : Func} {c : Code} (hf : P.funcs[f]? = some fn) (hb : fn.body = some c) (hn : (fn.name == "runtime.NumGoroutine") = false)
    (hdr : drawsOk (gam G) c = true) {L : LpsT} (hL : LoopOk P gl (lps L) c) {D : List PV → Store → Tr (PV × Store)} (h : ∀ args σ r, (D args σ).run = some r → (tcallS tb G L fn args σ).flat.run = some r) : SimS P gl f fun args σ => (D args σ).run :=
  SimS.of_tree hT hΓ hm hf hb hn hdr hL fun args σ x σ' hx _ => Tr.flat_run (h args σ (x, σ') hx)

/-! ### proposals -/
open Classical in
noncomputable def isW {α : Type} (W : Option α) (r : α) : Bool := decide (W = some r)
@[simp] theorem isW_some {α : Type} (a r : α) : isW (some a) r = true ↔ a = r := by simp [isW]
theorem isW_eq {α : Type} {W : Option α} {r : α} (h : isW W r = true) : W = some r := by simpa [isW] using h
theorem isW_of {α : Type} {W : Option α} {r : α} (h : W = some r) : isW W r = true := by simpa [isW] using h
theorem ite_isW {α : Type} {W : Option α} {r r' : α} {t : Tr α} (h : (Tr.ite (isW W r) (.ret r) t).run = some r') (k : t.run = some r' → W = some r') : W = some r' := by
  simp only [Tr.run_ite] at h
  split at h
  · rename_i hs
    rw [isW_eq hs]
    simpa using h
  · exact k h

/-! ### parts of what comes out -/
def gInt : PV → Int | .int _ n => n | _ => 0
def gBool : PV → Bool | .bool b => b | _ => false
def gStr : PV → List UInt8 | .str l => l | _ => []
def gRow : PV → List (List PV) | .sl l _ => l | _ => []
def gOff : PV → Nat | .osl _ o _ _ => o | _ => 0
def gLen : PV → Nat | .osl _ _ n _ => n | _ => 0
def gCs : PV → List PV | .agg l => l | .tup l => l | .ref l => l | .fn _ l => l | .iface _ v => [v] | _ => []
def gAt (l : List PV) (i : Nat) : PV := l.getD i .top
def gVal (W : Option PV) : PV := W.getD .top
def gOut (W : Option (PExit × List PV × Store)) (i : Nat) : PV := match W with | some r => r.2.1.getD i .top | none => .top
def gObj (W : Option (PExit × List PV × Store)) (i : Nat) : List PV := match W with | some r => r.2.2.objs.getD i [] | none => []
def gTok (W : Option (PExit × List PV × Store)) (i : Nat) : Nat := match W with | some r => (r.2.2.toks.getD i (0, 0, 0)).1 | none => 0
def gRest (W : Option (PExit × List PV × Store)) (n : Nat) : List (List PV) := match W with | some r => r.2.2.objs.drop n | none => []
def gToks (W : Option (PExit × List PV × Store)) (n : Nat) : List (Nat × Nat × TypeId) := match W with | some r => r.2.2.toks.drop n | none => []
def gTys (W : Option (PExit × List PV × Store)) (n : Nat) : List TypeId := match W with | some r => r.2.2.tys.drop n | none => []
/-- A call's value and store, as an outcome. -/
def asOut (W : Option (PV × Store)) : Option (PExit × List PV × Store) := W.map fun r => (.ret, [r.1], r.2)
@[simp] theorem asOut_some (x : PV) (σ : Store) : asOut (some (x, σ)) = some (.ret, [x], σ) := rfl
@[simp] theorem gRest_some (e : PExit) (vs : List PV) (os : List (List PV)) (ts : List (Nat × Nat × TypeId)) (tys : List TypeId) (i : Nat) : gRest (some (e, vs, ⟨os, ts, tys⟩)) i = os.drop i := rfl
@[simp] theorem gToks_some (e : PExit) (vs : List PV) (os : List (List PV)) (ts : List (Nat × Nat × TypeId)) (tys : List TypeId) (i : Nat) : gToks (some (e, vs, ⟨os, ts, tys⟩)) i = ts.drop i := rfl
@[simp] theorem gTys_some (e : PExit) (vs : List PV) (os : List (List PV)) (ts : List (Nat × Nat × TypeId)) (tys : List TypeId) (i : Nat) : gTys (some (e, vs, ⟨os, ts, tys⟩)) i = tys.drop i := rfl
@[simp] theorem gInt_int (k : IntKind) (n : Int) : gInt (.int k n) = n := rfl
@[simp] theorem gBool_bool (b : Bool) : gBool (.bool b) = b := rfl
@[simp] theorem gStr_str (l : List UInt8) : gStr (.str l) = l := rfl
@[simp] theorem gRow_sl (l : List (List PV)) (t : Tag) : gRow (.sl l t) = l := rfl
@[simp] theorem gOff_osl (i o n k : Nat) : gOff (.osl i o n k) = o := rfl
@[simp] theorem gLen_osl (i o n k : Nat) : gLen (.osl i o n k) = n := rfl
@[simp] theorem gCs_agg (l : List PV) : gCs (.agg l) = l := rfl
@[simp] theorem gCs_tup (l : List PV) : gCs (.tup l) = l := rfl
@[simp] theorem gCs_ref (l : List PV) : gCs (.ref l) = l := rfl
@[simp] theorem gCs_fn (f : FuncId) (l : List PV) : gCs (.fn f l) = l := rfl
@[simp] theorem gCs_iface (t : TypeId) (v : PV) : gCs (.iface t v) = [v] := rfl
@[simp] theorem gAt_zero (x : PV) (l : List PV) : gAt (x :: l) 0 = x := rfl
@[simp] theorem gAt_succ (x : PV) (l : List PV) (n : Nat) : gAt (x :: l) (n + 1) = gAt l n := rfl
@[simp] theorem gVal_some (x : PV) : gVal (some x) = x := rfl
@[simp] theorem gOut_some (e : PExit) (vs : List PV) (σ : Store) (i : Nat) : gOut (some (e, vs, σ)) i = gAt vs i := rfl
@[simp] theorem gObj_some (e : PExit) (vs : List PV) (os : List (List PV)) (ts : List (Nat × Nat × TypeId)) (tys : List TypeId) (i : Nat) : gObj (some (e, vs, ⟨os, ts, tys⟩)) i = os.getD i [] := rfl
@[simp] theorem gTok_some (e : PExit) (vs : List PV) (os : List (List PV)) (ts : List (Nat × Nat × TypeId)) (tys : List TypeId) (i : Nat) : gTok (some (e, vs, ⟨os, ts, tys⟩)) i = (ts.getD i (0, 0, 0)).1 := rfl

/-! ### the loops of a code, by their first regions -/
def findL (r : Nat) : Code → Option Code
  | .seq a b => match findL r a with
    | some c => some c
    | none => findL r b
  | .cond _ a b => match findL r a with
    | some c => some c
    | none => findL r b
  | .block _ c => findL r c
  | .loop c => if rid c = r then some c else findL r c
  | .scope c => findL r c
  | _ => none
def loopC (fn : Func) (r : Nat) : Code := match fn.body with
  | some c => (findL r c).getD .skip
  | none => .skip
theorem loopOk_all {P : Program} {gl : Gl} {L : Lps} {c : Code} (l : List (Nat × Code)) (h : loopsOf c = l) (h1 : ∀ p ∈ l, ∀ fr σ e fr' σ', L p.1 fr σ = some (e, fr', σ') → LDoes P gl p.2 fr σ e fr' σ') (hn : rangesOf c = [] := by kernel_rfl) : LoopOk P gl L c := loopOk_of (by rw [h]; exact h1) hn
/-- Loops, and loops over functions. -/
theorem loopOk_ranges {P : Program} {gl : Gl} {L : Lps} {c : Code} (l k : List (Nat × Code)) (h : loopsOf c = l) (hk : rangesOf c = k) (h1 : ∀ p ∈ l, ∀ fr σ e fr' σ', L p.1 fr σ = some (e, fr', σ') → LDoes P gl p.2 fr σ e fr' σ') (h2 : ∀ p ∈ k, ∀ fr σ e fr' σ', L p.1 fr σ = some (e, fr', σ') → Does P gl p.2 fr σ e fr' σ') : LoopOk P gl L c := loopOk_rng (by rw [h]; exact h1) (by rw [hk]; exact h2)
end Go.Pv

/- Loops over functions: what a round does, what the function does, what comes of the whole. -/
set_option linter.unusedSimpArgs false
set_option linter.unusedVariables false
namespace Go.Pv
open Go.RowKit
/-- Which jump a state of a loop's record bears: 0 ready, 1 busy, 2 left by a return, 3 + id left by an exit. -/
def jumpOf (s : Nat) : Option Code := if s = 2 then some .ret else if 3 ≤ s then some (.exit (s - 3)) else none
def exOf (s : Nat) : PExit := if s = 2 then .ret else if 3 ≤ s then .exit (s - 3) else .normal
def stOf : PExit → Nat
  | .normal => 0
  | .ret => 2
  | .exit id => 3 + id
def isNo : PExit → Bool
  | .normal => true
  | _ => false
def recS (r : Loop) (s : Nat) : Obj := .loop { r with state := if s = 0 then .ready else if s = 1 then .busy else .done, pending := jumpOf s }
def glR (gl : Gl) (e : Nat) (r : Loop) (fr : List PV) : Gl := ⟨gl.v, fun e' s => if e' = e then recS r s else gl.lp e' s, fun e' => if e' = e then fr else gl.fr e'⟩
def puts (fr : List PV) : List Tmp → List PV → List PV
  | p :: ps, x :: xs => puts (fr.set p x) ps xs
  | _, _ => fr
section
variable {gl : Gl} {H : Gh} {σ : Store} {w w' : World}
theorem puts_list : ∀ (ps : List Tmp) (xs : List PV) (vs : List Value) (fr : List PV) (tmps : Array Value), RelL H w fr tmps.toList → RelL H w xs vs → RelL H w (puts fr ps xs) ((ps.zip vs).foldl (fun t p => t.setIfInBounds p.1 p.2) tmps).toList
  | [], xs, vs, fr, tmps, h, hx => by cases hx <;> simpa [puts] using h
  | p :: ps, [], vs, fr, tmps, h, hx => by cases hx; simpa [puts] using h
  | p :: ps, x :: xs, vs, fr, tmps, h, hx => by
    cases hx with
    | cons _ v _ vs hv hvs =>
      simp only [puts, List.zip_cons_cons, List.foldl_cons]
      exact puts_list ps xs vs _ _ (by simpa using h.set p hv) hvs
theorem puts_rel {ps : Array Tmp} {xs : List PV} {vs : List Value} {fr : List PV} {tmps : Array Value} (h : RelL H w fr tmps.toList) (hx : RelL H w xs vs) : RelL H w (puts fr ps.toList xs) ((ps.zip vs.toArray).foldl (fun t (p, v) => t.setIfInBounds p v) tmps).toList := by
  have := puts_list ps.toList xs vs fr tmps h hx
  have e : (ps.zip vs.toArray).foldl (fun t (p, v) => t.setIfInBounds p v) tmps = (ps.toList.zip vs).foldl (fun t p => t.setIfInBounds p.1 p.2) tmps := by
    rw [← Array.foldl_toList, Array.toList_zip]
  rw [e]
  exact this
theorem Ok.lp {gl' : Gl} (h : Ok gl H σ w) (hv : gl'.v = gl.v) (hl : ∀ (t : Nat) (T : Tok), H.tk[t]? = some T → T.k = 0 → gl'.lp T.e = gl.lp T.e ∧ gl'.fr T.e = gl.fr T.e) : Ok gl' H σ w :=
  ⟨h.B, fun b o e => h.gl b o (by rw [← hv]; exact e), h.len, h.obj, h.nd, h.tkl, fun t T e => by
    obtain ⟨h1, h2, o, he, ho⟩ := h.tok t T e
    refine ⟨h1, h2, o, he, ?_⟩
    rcases ho with ho | ⟨hk, q1, r, q2, q3, q4, q5, q6⟩
    · exact .inl ho
    · obtain ⟨l1, l2⟩ := hl t T e hk
      refine .inr ⟨hk, by rw [l1]; exact q1, r, q2, by rw [l2]; exact q3, ?_, q5, ?_⟩
      · intro n hn; rw [l2]; exact q4 n hn
      · intro m hm; rw [l2]; exact q6 m hm, h.tnd, h.tyl, h.ty⟩
theorem Dr.lp {gl' : Gl} {w w' : World} (h : Dr gl w w') (hv : gl'.v = gl.v) : Dr gl' w w' := fun hg => h (fun b => by rw [← hv]; exact hg b)
theorem Ev.lp {gl' : Gl} {H' : Gh} (h : Ev gl H w H' w') (hv : gl'.v = gl.v) : Ev gl' H w H' w' :=
  ⟨h.B, h.base, h.aux, h.K, h.os, h.tape, h.output, h.size, h.ob, h.tok, h.prot, h.block, h.dr.lp hv, h.fix, h.old⟩
/-- A loop's record goes over into another state. -/
theorem set_rec (h : Ok gl H σ w) {t : Nat} {T : Tok} (ht : H.tk[t]? = some T) (hk : T.k = 0) {s' : Nat} {r' : Loop} (hr : gl.lp T.e s' = .loop r') (hframe : RelL H w (gl.fr T.e) r'.tmps.toList) :
    Ev gl H w { H with tk := H.tk.set t { T with ver := s' } } (w.putObj T.blk (.loop r')) ∧ Ok gl { H with tk := H.tk.set t { T with ver := s' } } { σ with toks := σ.toks.set t (s', 0, T.e) } (w.putObj T.blk (.loop r')) := by
  have htl : t < H.tk.length := (List.getElem?_eq_some_iff.1 ht).1
  obtain ⟨hB, hob, o, ho, hT⟩ := h.tok t T ht
  obtain ⟨r0, ho0, hp0, hc0, hd0⟩ : ∃ r, o = .loop r ∧ (∀ n, T.cap ≤ n → dropPL n (gl.fr T.e) = gl.fr T.e) ∧ T.cap ≤ H.ob.length ∧ (∀ m, t ≤ m → dropTL m (gl.fr T.e) = gl.fr T.e) := by
    rcases hT with ⟨h1, _⟩ | ⟨_, _, r, h3, _, h5, h6, h7⟩
    · exact absurd hk h1
    · exact ⟨r, h3, h5, h6, h7⟩
  subst ho0
  have hlt := lt_of_heap ho
  have hsz : (w.putObj T.blk (.loop r')).heap.size = w.heap.size := size_putObj' ..
  have hcase : ∀ (u : Nat) (U : Tok), (H.tk.set t { T with ver := s' })[u]? = some U → (u = t ∧ U = { T with ver := s' }) ∨ (u ≠ t ∧ H.tk[u]? = some U) := by
    intro u U hu
    by_cases hut : u = t
    · subst hut
      rw [List.getElem?_set_self htl] at hu
      exact .inl ⟨rfl, (Option.some.inj hu).symm⟩
    · rw [List.getElem?_set_ne (fun e => hut e.symm)] at hu
      exact .inr ⟨hut, hu⟩
  have hne : ∀ b off, H.prot w b off → b ≠ T.blk := fun b off hp e => by
    have := hp.2.2.2 T (List.mem_of_getElem? ht) e.symm
    rw [hk] at this
    omega
  have hcell : ∀ b off s, b ≠ T.blk → (w.putObj T.blk (.loop r')).cell? ⟨b, off, s⟩ = w.cell? ⟨b, off, s⟩ := fun b off s e => World.cell?_of_block (a := ⟨b, off, s⟩) (World.putObj_heap_other e)
  have ev : Ev gl H w { H with tk := H.tk.set t { T with ver := s' } } (w.putObj T.blk (.loop r')) := by
    refine ⟨rfl, rfl, rfl, rfl, rfl, rfl, rfl, by rw [hsz]; exact Nat.le_refl _, fun _ _ h => h, fun u U hu => ?_, fun b off hp => ?_, fun b hb => World.putObj_heap_other (by omega), .of_eq rfl, fun b ds hb => (World.putObj_heap_other (fun e => by subst e; rw [ho] at hb; cases hb)).trans hb, fun u U hu hk' => ?_⟩
    · by_cases hut : u = t
      · subst hut
        rw [ht] at hu
        cases hu
        exact ⟨{ T with ver := s' }, List.getElem?_set_self htl, fun e => absurd hk e, fun _ => ⟨hk, rfl, rfl, rfl⟩⟩
      · exact ⟨U, by show (H.tk.set t _)[u]? = some U; rw [List.getElem?_set_ne (fun e => hut e.symm)]; exact hu, .refl U⟩
    · refine ⟨⟨by rw [hsz]; exact hp.1, hp.2.1, hp.2.2.1, fun U hU hbk => ?_⟩, fun s => hcell b off s (hne b off hp)⟩
      obtain ⟨u, hu⟩ := List.mem_iff_getElem?.1 hU
      rcases hcase u U hu with ⟨_, rfl⟩ | ⟨_, hu⟩
      · exact absurd hbk.symm (hne b off hp)
      · exact hp.2.2.2 U (List.mem_of_getElem? hu) hbk
    · rcases hcase u U hu with ⟨rfl, rfl⟩ | ⟨_, hu⟩
      · exact ⟨T, ht, hk⟩
      · exact ⟨U, hu, hk'⟩
  refine ⟨ev, ⟨by rw [hsz]; exact h.B, fun b o' eg => ⟨(h.gl b o' eg).1, (World.putObj_heap_other (by have := (h.gl b o' eg).1; omega)).trans (h.gl b o' eg).2⟩, h.len, fun id b cs e1 e2 => ?_, h.nd, ?_, fun u U hu => ?_, fun u v U V hu hv hbk => ?_, h.tyl, fun id b T0 cs e1 e2 e3 hTT => ?_⟩⟩
  · obtain ⟨h1, vs, ext, T0, he, hr⟩ := h.obj id b cs e1 e2
    exact ⟨h1, vs, ext, T0, (World.putObj_heap_other (fun e => by subst e; rw [ho] at he; cases he)).trans he, hr.mono ev.mono⟩
  · show (H.tk.set t _).map _ = σ.toks.set t _
    rw [List.map_set, h.tkl, hk]
  · rcases hcase u U hu with ⟨rfl, rfl⟩ | ⟨hut, hu'⟩
    · exact ⟨hB, hob, _, World.putObj_heap_same hlt, .inr ⟨hk, hr.symm, r', rfl, hframe.mono ev.mono, hp0, hc0, hd0⟩⟩
    · obtain ⟨g1, g2, o', g3, g4⟩ := h.tok u U hu'
      exact ⟨g1, g2, o', (World.putObj_heap_other (fun e => hut (h.tnd u t U T hu' ht e))).trans g3, g4.mono ev.mono⟩
  · rcases hcase u U hu with ⟨h1, rfl⟩ | ⟨h1, hu'⟩ <;> rcases hcase v V hv with ⟨h2, rfl⟩ | ⟨h2, hv'⟩
    · rw [h1, h2]
    · exact absurd (h.tnd v t V T hv' ht hbk.symm) h2
    · exact absurd (h.tnd u t U T hu' ht hbk) h1
    · exact h.tnd u v U V hu' hv' hbk
  · obtain ⟨us, he, hs⟩ := h.ty id b T0 cs e1 e2 e3 hTT
    exact ⟨us, (World.putObj_heap_other (fun e => by subst e; rw [ho] at he; cases he)).trans he, hs⟩
end
/-- One round, as the function sees it. -/
theorem yld_ok {P : Program} {gl : Gl} {e : Nat} {r : Loop} (hlp : gl.lp e = recS r) {Y : Nat → List PV → Store → Option (PV × Store)}
    (hY : ∀ t args σ x σ', Y t args σ = some (x, σ') → ∃ fr1 σ1 ex fr2 σ2, args.length = r.params.size ∧ Does P gl r.assign (puts (gl.fr e) r.params.toList args) σ .normal fr1 σ1 ∧ σ1.toks[t]? = some (0, 0, e) ∧
      Does P gl r.body fr1 { σ1 with toks := σ1.toks.set t (1, 0, e) } ex fr2 σ2 ∧ σ2.toks[t]? = some (1, 0, e) ∧ x = .bool (isNo ex) ∧ σ' = { σ2 with toks := σ2.toks.set t (stOf ex, 0, e) }) : ConOk P gl yldKey (.yld e Y) := by
  intro t args σ x σ' h0 hy H w vs T hok hrel hT
  obtain ⟨fr1, σ1, ex, fr2, σ2, hlen, hd1, ht1, hd2, ht2, rfl, rfl⟩ := hY t args σ x σ' hy
  -- what a token of such a state is
  have look : ∀ {H1 : Gh} {w1 : World} {τ : Store} {T1 : Tok} {s : Nat}, Ok gl H1 τ w1 → τ.toks[t]? = some (s, 0, e) → H1.tk[t]? = some T1 → T1.ver = s ∧ T1.k = 0 ∧ T1.e = e ∧ w1.heap[T1.blk]? = some (recS r s) ∧ RelL H1 w1 (gl.fr e) r.tmps.toList := by
    intro H1 w1 τ T1 s hk1 hs hT1
    have e1 : (T1.ver, T1.k, T1.e) = (s, 0, e) := by
      rw [← hk1.tkl, List.getElem?_map, hT1] at hs
      simpa using hs
    simp only [Prod.mk.injEq] at e1
    obtain ⟨a1, a2, a3⟩ := e1
    obtain ⟨_, _, o, ho, hTO⟩ := hk1.tok t T1 hT1
    rcases hTO with ⟨b1, _⟩ | ⟨_, b2, r1, b3, b4, _⟩
    · exact absurd a2 b1
    · rw [a1, a3, hlp] at b2
      rw [b2] at ho b3
      refine ⟨a1, a2, a3, ho, ?_⟩
      rw [a3] at b4
      unfold recS at b3
      cases b3
      exact b4
  obtain ⟨v0, k0, ee0, hl0, hf0⟩ := look hok h0 hT
  have hsz : vs.toArray.size = r.params.size := by rw [← hlen, hrel.len]; simp
  have hrun := run_yield (P := P) (args := vs.toArray) hl0 hsz
  refine ⟨_, _, _, _, hrun, ?_⟩
  have hRin : RIn (some T.blk) { H with K := w.heap.size } := fun l hl => by cases hl; exact ⟨t, T, hT, k0, rfl⟩
  refine roundIn_of_wpIn (F := Fence.wide) (n := 0) (l := T.blk) trivial ?_
  have hst0 : St gl { H with K := w.heap.size } w (puts (gl.fr e) r.params.toList args) σ { tmps := (r.params.zip vs.toArray).foldl (fun t (p, v) => t.setIfInBounds p v) r.tmps, defers := [] } w :=
    ⟨_, Ev.refl _ w, hok.setK _, (puts_rel hf0 hrel).mono (Mono.setK' H w _), Marks.nil (Nat.le_refl _)⟩
  refine hd1 (some T.blk) 0 _ w hRin _ _ w hst0 fun a1 w1 hst1 => ?_
  obtain ⟨H1, hev1, hok1, hfr1, hm1⟩ := hst1
  obtain ⟨T1, hT1, hu1⟩ := hev1.tok t T hT
  obtain ⟨_, hblk1, _, _⟩ := hu1.lp k0
  obtain ⟨v1, k1, ee1, hl1, hf1⟩ := look hok1 ht1 hT1
  rw [hblk1] at hl1
  have hbr := run_beginRound (P := P) hl1 rfl
  refine ⟨_, hbr, ?_⟩
  have hs1 := set_rec (s' := 1) (r' := { r with state := .busy, pending := jumpOf 1 }) hok1 hT1 k1 (by rw [ee1, hlp]; rfl) (by rw [ee1]; exact hf1)
  rw [ee1, hblk1] at hs1
  obtain ⟨hev2, hok2⟩ := hs1
  have hst2 : St gl { H with K := w.heap.size } w fr1 { σ1 with toks := σ1.toks.set t (1, 0, e) } a1 (w1.putObj T.blk (.loop { r with state := .busy, pending := jumpOf 1 })) := ⟨_, hev1.trans hev2, hok2, hfr1.mono hev2.mono, hm1.ev hev2⟩
  refine hd2 (some T.blk) 0 _ w hRin _ _ _ hst2 fun a3 w3 hst3 => ?_
  obtain ⟨H3, hev3, hok3, hfr3, hm3⟩ := hst3
  obtain ⟨T3, hT3, hu3⟩ := hev3.tok t T hT
  obtain ⟨_, hblk3, _, _⟩ := hu3.lp k0
  obtain ⟨v3, k3, ee3, hl3, hf3⟩ := look hok3 ht2 hT3
  rw [hblk3] at hl3
  -- the round's end
  have fin : ∀ (jump : Option Code) (s : Nat), recS r s = .loop { r with state := if jump.isNone then .ready else .done, pending := jump } → ∀ b : Bool, jump.isNone = b →
      ∃ v w', (Instr.endRound T.blk jump).run P w3 = .ok v w' ∧ ∃ v', (Ending.returned v) = .returned v' ∧ Post gl H w (.bool b) { σ2 with toks := σ2.toks.set t (s, 0, e) } v' w' := by
    intro jump s hs b hb
    subst hb
    have hr := run_endRound (P := P) jump hl3
    refine ⟨_, _, hr, _, rfl, ?_⟩
    have hs4 := set_rec (s' := s) (r' := { r with state := if jump.isNone then .ready else .done, pending := jump }) hok3 hT3 k3 (by rw [ee3, hlp]; exact hs) (by rw [ee3]; exact hf3)
    rw [ee3, hblk3] at hs4
    obtain ⟨hev4, hok4⟩ := hs4
    exact ⟨_, (hev3.trans hev4).setK, hok4.setK _, .bool _⟩
  cases ex with
  | normal => exact fin none 0 rfl true rfl
  | ret => exact fin (some .ret) 2 rfl false rfl
  | exit id =>
    refine fin (some (.exit id)) (3 + id) ?_ false rfl
    have h1 : ¬ (3 + id = 0) := by omega
    have h2 : ¬ (3 + id = 1) := by omega
    have h3 : ¬ (3 + id = 2) := by omega
    have h4 : 3 ≤ 3 + id := by omega
    simp only [recS, jumpOf, h1, h2, h3, h4, if_true, if_false, Nat.add_sub_cancel_left]
    rfl
/-! ### the whole loop -/
section
variable {gl : Gl} {H : Gh} {σ : Store} {w w' : World}
/-- A new record. -/
theorem new_rec (h : Ok gl H σ w) {e s : Nat} {r : Loop} (he : gl.lp e s = .loop r) (hfr : RelL H w (gl.fr e) r.tmps.toList) (hp : ∀ n, H.ob.length ≤ n → dropPL n (gl.fr e) = gl.fr e) (ht : ∀ m, H.tk.length ≤ m → dropTL m (gl.fr e) = gl.fr e) :
    Mono H w { H with tk := H.tk ++ [⟨w.heap.size, s, H.ob.length, 0, e⟩] } (w.alloc (.loop r)) ∧ Ok gl { H with tk := H.tk ++ [⟨w.heap.size, s, H.ob.length, 0, e⟩] } { σ with toks := σ.toks ++ [(s, 0, e)] } (w.alloc (.loop r)) ∧
      (H.tk ++ [(⟨w.heap.size, s, H.ob.length, 0, e⟩ : Tok)])[σ.toks.length]? = some ⟨w.heap.size, s, H.ob.length, 0, e⟩ := by
  have hb := below_alloc0 w (.loop r)
  have hlen : H.tk.length = σ.toks.length := by rw [← h.tkl]; simp
  have hcase : ∀ (t : Nat) (T : Tok), (H.tk ++ [(⟨w.heap.size, s, H.ob.length, 0, e⟩ : Tok)])[t]? = some T → H.tk[t]? = some T ∨ (t = H.tk.length ∧ T = ⟨w.heap.size, s, H.ob.length, 0, e⟩) := by
    intro t T ht
    by_cases htl : t < H.tk.length
    · rw [List.getElem?_append_left htl] at ht
      exact .inl ht
    · have hlt := (List.getElem?_eq_some_iff.1 ht).1
      have : t = H.tk.length := by simp at hlt; omega
      subst this
      rw [List.getElem?_append_right (Nat.le_refl _)] at ht
      simp at ht
      exact .inr ⟨rfl, ht.symm⟩
  have hprot : ∀ b off, H.prot w b off → ({ H with tk := H.tk ++ [⟨w.heap.size, s, H.ob.length, 0, e⟩] } : Gh).prot (w.alloc (.loop r)) b off := fun b off hp => by
    refine ⟨Nat.lt_of_lt_of_le hp.1 hb.size, hp.2.1, hp.2.2.1, fun T hT hbk => ?_⟩
    rcases List.mem_append.1 hT with hT | hT
    · exact hp.2.2.2 T hT hbk
    · simp at hT
      subst hT
      have := hp.1
      simp at hbk
      omega
  have mo : Mono H w { H with tk := H.tk ++ [⟨w.heap.size, s, H.ob.length, 0, e⟩] } (w.alloc (.loop r)) := by
    refine ⟨fun _ _ h => h, fun t T ht => ?_, fun b off hp => ⟨hprot b off hp, fun s => hb.cell (p := ⟨b, off, s⟩) hp.1⟩, fun b off hp => ?_⟩
    · refine ⟨T, ?_, .refl T⟩
      show (H.tk ++ [_])[t]? = some T
      rw [List.getElem?_append_left (List.getElem?_eq_some_iff.1 ht).1]
      exact ht
    · rcases hp with hp | hp
      · exact ⟨.inl (hprot b off hp), fun s => hb.cell (p := ⟨b, off, s⟩) hp.1⟩
      · exact ⟨.inr hp, fun s => hb.cell (p := ⟨b, off, s⟩) (Nat.lt_of_lt_of_le hp.1 h.B)⟩
  refine ⟨mo, ⟨Nat.le_trans h.B hb.size, fun b o eg => ⟨(h.gl b o eg).1, (hb.block b (lt_of_heap (h.gl b o eg).2)).trans (h.gl b o eg).2⟩, h.len, fun id b cs e1 e2 => ?_, h.nd, by simp [h.tkl], fun t T ht' => ?_, fun t u T U ht hu hbk => ?_, h.tyl, fun id b T' c1 e1 e2 e3 hTT => ?_⟩, ?_⟩
  · obtain ⟨hB, vs, ext, T, he, hr⟩ := h.obj id b cs e1 e2
    exact ⟨hB, vs, ext, T, (hb.block b (lt_of_heap he)).trans he, hr.mono mo⟩
  · rcases hcase t T ht' with ht' | ⟨rfl, rfl⟩
    · obtain ⟨hB, ho, o, he, hr⟩ := h.tok t T ht'
      exact ⟨hB, ho, o, (hb.block _ (lt_of_heap he)).trans he, hr.mono mo⟩
    · exact ⟨h.B, fun hm => Nat.lt_irrefl _ (h.ob_at hm).2, _, heap_alloc_new w _, .inr ⟨rfl, he.symm, r, rfl, hfr.mono mo, hp, Nat.le_refl _, ht⟩⟩
  · rcases hcase t T ht with ht | ⟨h1, rfl⟩ <;> rcases hcase u U hu with hu | ⟨h2, rfl⟩
    · exact h.tnd t u T U ht hu hbk
    · have := (h.tk_at (List.mem_of_getElem? ht)).2
      simp at hbk
      omega
    · have := (h.tk_at (List.mem_of_getElem? hu)).2
      simp at hbk
      omega
    · rw [h1, h2]
  · obtain ⟨us, he, hs⟩ := h.ty id b T' c1 e1 e2 e3 hTT
    exact ⟨us, (hb.block b (lt_of_heap he)).trans he, hs⟩
  · rw [← hlen, List.getElem?_append_right (Nat.le_refl _)]
    simp
theorem putL_mono {D : Nat} {r r' : Loop} (hd : w.heap[D]? = some (.loop r)) : Mono H w H (w.putObj D (.loop r')) := by
  have hs : (w.putObj D (.loop r')).heap.size = w.heap.size := size_putObj' ..
  have hlt := lt_of_heap hd
  have hc : ∀ b off s, (w.putObj D (.loop r')).cell? ⟨b, off, s⟩ = w.cell? ⟨b, off, s⟩ := fun b off s => by
    by_cases e : b = D
    · subst e
      simp only [World.cell?, World.putObj_heap_same hlt, hd]
    · exact World.cell?_of_block (a := ⟨b, off, s⟩) (World.putObj_heap_other e)
  refine ⟨fun _ _ h => h, fun t T h => ⟨T, h, .refl T⟩, fun b off hp => ⟨⟨by rw [hs]; exact hp.1, hp.2⟩, hc b off⟩, fun b off hp => ⟨?_, hc b off⟩⟩
  rcases hp with hp | hp
  · exact .inl ⟨by rw [hs]; exact hp.1, hp.2⟩
  · exact .inr hp
theorem putL_ok {D : Nat} {r r' : Loop} (h : Ok gl H σ w) (hB : H.B ≤ D) (hd : w.heap[D]? = some (.loop r)) (hn : ∀ (t : Nat) (T : Tok), H.tk[t]? = some T → T.blk ≠ D) : Ok gl H σ (w.putObj D (.loop r')) where
  B := by rw [size_putObj']; exact h.B
  gl := fun b o e => ⟨(h.gl b o e).1, (World.putObj_heap_other (by have := (h.gl b o e).1; omega)).trans (h.gl b o e).2⟩
  len := h.len
  obj := fun id b cs e1 e2 => by
    obtain ⟨h1, vs, ext, T, he, hr⟩ := h.obj id b cs e1 e2
    have hne : b ≠ D := fun e => by subst e; rw [he] at hd; cases hd
    exact ⟨h1, vs, ext, T, (World.putObj_heap_other hne).trans he, hr.mono (putL_mono hd)⟩
  nd := h.nd
  tkl := h.tkl
  tok := fun t T e => by
    obtain ⟨h1, h2, o, he, ho⟩ := h.tok t T e
    exact ⟨h1, h2, o, (World.putObj_heap_other (hn t T e)).trans he, ho.mono (putL_mono hd)⟩
  tnd := h.tnd
  tyl := h.tyl
  ty := fun id b T cs e1 e2 e3 hT => by
    obtain ⟨us, he, hs⟩ := h.ty id b T cs e1 e2 e3 hT
    have hne : b ≠ D := fun e => by subst e; rw [he] at hd; cases hd
    exact ⟨us, (World.putObj_heap_other hne).trans he, hs⟩
end
/-- A LOOP OVER A FUNCTION: its rounds, told by Y; what the function makes of them, told by D; the loop is left as the last round says. -/
theorem range_does {P : Program} {gl : Gl} {g : Operand} {ps : Array Tmp} {assign body : Code} {fr : List PV} {σ : Store} {gf : FuncId} {caps : List PV} (hg : ev fr g = .fn gf caps) (eid : Nat)
    (hent : ∃ fn, P.funcs[gf]? = some fn ∧ (fn.name == "runtime.NumGoroutine") = false ∧ fn.body.isNone = false)
    {Y : Nat → List PV → Store → Option (PV × Store)} {D : List PV → Store → Option (PV × Store)}
    (hfresh : ∀ (i v k e : Nat), σ.toks[i]? = some (v, k, e) → k = 0 → e ≠ eid) (hpd : ∀ n, σ.objs.length ≤ n → dropPL n fr = fr) (htd : ∀ m, σ.toks.length ≤ m → dropTL m fr = fr)
    (hI : ∀ gl' : Gl, gl'.v = gl.v → ConOk P gl' yldKey (.yld eid Y) → SimS P gl' gf D)
    (hY : ∀ gl' : Gl, gl'.v = gl.v → ∀ t args σ x σ', Y t args σ = some (x, σ') → ∃ fr1 σ1 ex fr2 σ2, args.length = ps.size ∧ Does P gl' assign (puts fr ps.toList args) σ .normal fr1 σ1 ∧ σ1.toks[t]? = some (0, 0, eid) ∧
      Does P gl' body fr1 { σ1 with toks := σ1.toks.set t (1, 0, eid) } ex fr2 σ2 ∧ σ2.toks[t]? = some (1, 0, eid) ∧ x = .bool (isNo ex) ∧ σ' = { σ2 with toks := σ2.toks.set t (stOf ex, 0, eid) })
    {x : PV} {σ2 : Store} {s : Nat} (hD : D (.yld σ.toks.length :: caps) { σ with toks := σ.toks ++ [(0, 0, eid)] } = some (x, σ2)) (hs : σ2.toks[σ.toks.length]? = some (s, 0, eid)) (hs1 : s ≠ 1) :
    Does P gl (.rangeFunc g ps assign body) fr σ (exOf s) fr (dropTS σ.toks.length σ2) := by
  intro r n H0 w0 hR Q a w hst hq
  obtain ⟨H, hev, hok, hfr, hmk⟩ := hst
  have hHt : H.tk.length = σ.toks.length := by rw [← hok.tkl]; simp
  have hrg := ev_rel hfr g
  rw [hg] at hrg
  generalize hv : a.eval g = gv at hrg
  cases hrg with
  | fn _ _ lb hcaps =>
  refine wpIn_rangeFunc ?_
  intro fn hfn
  -- entering: the record; at an outermost loop the block of the rounds' deferred calls
  obtain ⟨mark, W0, rec, hent', hb0, hdr0, hrecf, hmark⟩ : ∃ (mark : List Deferred) (W0 : World) (rec : Loop), (Instr.enterLoop fn a.tmps ps assign body (rnd r).round).run P w = .ok (W0.heap.size, mark) (W0.alloc (.loop rec)) ∧
      Below w.heap.size w W0 ∧ W0.drawn = w.drawn ∧ (rec.state = .ready ∧ rec.pending = none ∧ rec.tmps = a.tmps ∧ rec.params = ps ∧ rec.assign = assign ∧ rec.body = body) ∧ Marks H.K (mark ++ a.defers) W0 := by
    cases r with
    | none =>
      refine ⟨[{ target := .collected w.heap.size, args := #[] }], w.alloc (.deferred (some [])), { state := .ready, pending := none, fn, tmps := a.tmps, params := ps, assign, body, defers := w.heap.size }, ?_, below_alloc0 w _, rfl, ⟨rfl, rfl, rfl, rfl, rfl, rfl⟩, ?_⟩
      · have := run_enterLoop_outer (P := P) (w := w) fn a.tmps ps assign body
        rw [show w.heap.size + 1 = (w.alloc (.deferred (some []))).heap.size from by simp] at this
        exact this
      · obtain ⟨k1, Ds, k2, k3, k4⟩ := hmk
        refine ⟨Nat.le_trans k1 (by simp), w.heap.size :: Ds, by rw [k2]; rfl, List.nodup_cons.2 ⟨fun hm => ?_, k3⟩, fun D' hD' => ?_⟩
        · have := lt_of_heap (k4 _ hm).2
          omega
        · cases hD' with
          | head => exact ⟨k1, World.alloc_heap_new w _⟩
          | tail _ hD' => exact ⟨(k4 D' hD').1, ((below_alloc0 w _).block D' (lt_of_heap (k4 D' hD').2)).trans (k4 D' hD').2⟩
    | some l0 =>
      obtain ⟨t0, T0, ht0, hk0, rfl⟩ := hR.ev hev l0 rfl
      obtain ⟨_, _, o, ho, hTO⟩ := hok.tok t0 T0 ht0
      obtain ⟨r0, rfl⟩ : ∃ r0, o = .loop r0 := by
        rcases hTO with ⟨h1, _⟩ | ⟨_, _, r0, h3, _⟩
        · exact absurd hk0 h1
        · exact ⟨r0, h3⟩
      exact ⟨[], w, { state := .ready, pending := none, fn, tmps := a.tmps, params := ps, assign, body, defers := r0.defers }, run_enterLoop_inner ho fn a.tmps ps assign body, Below.refl _ w, rfl, ⟨rfl, rfl, rfl, rfl, rfl, rfl⟩, hmk⟩
  obtain ⟨q1, q2, q3, q4, q5, q6⟩ := hrecf
  -- the world with the record
  obtain ⟨gl', hgl'⟩ : ∃ gl', gl' = glR gl eid rec fr := ⟨_, rfl⟩
  have hgv : gl'.v = gl.v := by rw [hgl']; rfl
  have hglp : gl'.lp eid = recS rec := by rw [hgl']; simp [glR]
  have hgfr : gl'.fr eid = fr := by rw [hgl']; simp [glR]
  have hother : ∀ e, e ≠ eid → gl'.lp e = gl.lp e ∧ gl'.fr e = gl.fr e := fun e he => by rw [hgl']; constructor <;> simp [glR, he]
  have hfreshT : ∀ (t : Nat) (T : Tok), H.tk[t]? = some T → T.k = 0 → T.e ≠ eid := fun t T hT hk => by
    refine hfresh t T.ver T.k T.e ?_ hk
    rw [← hok.tkl, List.getElem?_map, hT]
    rfl
  have hok0 : Ok gl' H σ W0 := (hok.of_below hb0).lp hgv fun t T hT hk => hother T.e (hfreshT t T hT hk)
  have hm0 : Mono H w H W0 := Mono.of_below hok.B hb0
  have hrs : gl'.lp eid 0 = .loop rec := by
    rw [hglp]
    unfold recS jumpOf
    simp only [if_true]
    rw [← q1, if_neg (by omega : ¬ (0 = 2)), if_neg (by omega : ¬ (3 ≤ 0)), ← q2]
  obtain ⟨hm1, hok1, hT1⟩ := new_rec (e := eid) (s := 0) hok0 hrs (by rw [hgfr, q3]; exact hfr.mono hm0) (by rw [hgfr]; intro n hn; exact hpd n (by rw [← hok.len]; exact hn)) (by rw [hgfr]; intro m hm; exact htd m (by rw [← hHt]; exact hm))
  obtain ⟨T, hT⟩ : ∃ T : Tok, T = ⟨W0.heap.size, 0, H.ob.length, 0, eid⟩ := ⟨_, rfl⟩
  obtain ⟨H1, hH1⟩ : ∃ H1 : Gh, H1 = { H with tk := H.tk ++ [T] } := ⟨_, rfl⟩
  rw [← hT] at hm1 hok1 hT1
  rw [← hH1] at hm1 hok1
  obtain ⟨W1, hW1⟩ : ∃ W1, W1 = W0.alloc (.loop rec) := ⟨_, rfl⟩
  rw [← hW1] at hm1 hok1
  have hb1 : Below w.heap.size w W1 := by rw [hW1]; exact hb0.alloc hb0.size _
  -- the call
  have hcon : ConOk P gl' yldKey (.yld eid Y) := yld_ok (r := rec) hglp (by rw [hgfr, q4, q5, q6]; exact hY gl' hgv)
  have hS := hI gl' hgv hcon
  have hyr : Rel H1 W1 (.yld σ.toks.length) (.func (.yield W0.heap.size) #[] #[]) := by
    have := Rel.yld (H := H1) (w := W1) σ.toks.length T (by rw [hH1]; exact hT1) (by rw [hT])
    rw [show T.blk = W0.heap.size from by rw [hT]] at this
    exact this
  have hcall := hS.run _ _ _ _ hD H1 W1 (.func (.yield W0.heap.size) #[] #[] :: lb) hok1 (.cons _ _ _ _ hyr (hcaps.mono (hm0.trans hm1)))
  obtain ⟨gfn, hgf, hgn, hgb⟩ := hent
  refine ⟨W0.heap.size, mark, W1, { target := .fn (.func gf) lb.toArray, args := #[.func (.yield W0.heap.size) #[] #[]] }, W1, gf, (.func (.yield W0.heap.size) #[] #[] :: lb).toArray, W1, by rw [hW1]; exact hent', ?_, fun _ _ => trivial, ?_, (fun h => by cases h), ?_⟩
  · simp only [resolve, hv]
    simp [go_sem]
  · have e1 : (#[(Value.func (.yield W0.heap.size) #[] #[])] : Array Value) ++ lb.toArray = (Value.func (.yield W0.heap.size) #[] #[] :: lb).toArray := by
      apply Array.ext'
      simp
    simp only [invoke, callFunc, Sem.run_bind, run_program, Result.andThen_ok, hgf, hgn, hgb, Bool.false_eq_true, if_false, Sem.run_pure, e1]
  · refine CallsIn.mono (callsIn_rnd hcall) ?_
    rintro e w3 ⟨v, rfl, H2, hevI, hok2, hv2⟩
    -- behind the function
    have hsz2 : σ2.toks.length = H2.tk.length := by rw [← hok2.tkl]; simp
    obtain ⟨T2, hT2, hu2⟩ := hevI.tok σ.toks.length T (by rw [hH1]; exact hT1)
    obtain ⟨k2, blk2, ee2, cap2⟩ := hu2.lp (by rw [hT])
    have ev2 : T2.ver = s ∧ T2.e = eid := by
      have : (T2.ver, T2.k, T2.e) = (s, 0, eid) := by
        rw [← hok2.tkl, List.getElem?_map, hT2] at hs
        simpa using hs
      simp only [Prod.mk.injEq] at this
      exact ⟨this.1, this.2.2⟩
    have blk2' : T2.blk = W0.heap.size := by rw [blk2, hT]
    obtain ⟨hB2, _, o2, ho2, hTO2⟩ := hok2.tok _ T2 hT2
    have hl2 : w3.heap[W0.heap.size]? = some (recS rec s) := by
      rcases hTO2 with ⟨h1, _⟩ | ⟨_, h2, _⟩
      · exact absurd k2 h1
      · rw [ev2.1, ev2.2, hglp] at h2
        rw [← blk2', ho2, h2]
    rw [blk2'] at hB2
    have hBl : H.B ≤ W0.heap.size := by rw [hevI.B, hH1] at hB2; exact hB2
    have hend := run_endLoop (P := P) (w := w3) (l := W0.heap.size) (r := { rec with state := if s = 0 then .ready else if s = 1 then .busy else .done, pending := jumpOf s }) hl2 (by
      by_cases h0 : s = 0
      · simp [h0]
      · simp [h0, hs1])
    obtain ⟨rx, hrx⟩ : ∃ rx : Loop, rx = { rec with state := .exhausted, pending := jumpOf s } := ⟨_, rfl⟩
    obtain ⟨w4, hw4⟩ : ∃ w4, w4 = w3.putObj W0.heap.size (.loop rx) := ⟨_, rfl⟩
    have hend' : (Instr.endLoop W0.heap.size).run P w3 = .ok (jumpOf s) w4 := by rw [hw4, hrx]; exact hend
    -- the record is forgotten
    have hsz4 : w4.heap.size = w3.heap.size := by rw [hw4]; exact size_putObj' ..
    have hle1 : w.heap.size ≤ W0.heap.size := hb0.size
    have hoth : ∀ b, b ≠ W0.heap.size → w4.heap[b]? = w3.heap[b]? := fun b hb => by rw [hw4]; exact World.putObj_heap_other hb
    have hH1t : ∀ u, u < σ.toks.length → H1.tk[u]? = H.tk[u]? := fun u hu => by
      rw [hH1]
      show (H.tk ++ [T])[u]? = H.tk[u]?
      rw [List.getElem?_append_left (by omega)]
    have htrim : ∀ u U, (H2.trim σ.toks.length).tk[u]? = some U → u < σ.toks.length ∧ H2.tk[u]? = some U := fun u U hu => take_get hu
    have hokt := trim_ok (m := σ.toks.length) hok2
    have hnb : ∀ (u : Nat) (U : Tok), (H2.trim σ.toks.length).tk[u]? = some U → U.blk ≠ W0.heap.size := fun u U hu e => by
      obtain ⟨h1, h2⟩ := htrim u U hu
      have := hok2.tnd u σ.toks.length U T2 h2 hT2 (by rw [e, blk2'])
      omega
    have hok4 : Ok gl' (H2.trim σ.toks.length) (dropTS σ.toks.length σ2) w4 := by
      rw [hw4]
      exact putL_ok hokt (by show H2.B ≤ _; rw [hevI.B, hH1]; exact hBl) hl2 hnb
    have hold : ∀ (u : Nat) (U : Tok), (H2.trim σ.toks.length).tk[u]? = some U → U.k = 0 → ∃ U0, H.tk[u]? = some U0 ∧ U0.k = 0 ∧ U.e = U0.e := fun u U hu hk => by
      obtain ⟨h1, h2⟩ := htrim u U hu
      obtain ⟨U0, g1, g2⟩ := hevI.old u U h2 hk
      obtain ⟨U1, g3, g4⟩ := hevI.tok u U0 g1
      rw [h2] at g3
      cases g3
      rw [hH1t u h1] at g1
      exact ⟨U0, g1, g2, (g4.lp g2).2.2.1⟩
    have hok5 : Ok gl (H2.trim σ.toks.length) (dropTS σ.toks.length σ2) w4 := hok4.lp hgv.symm fun u U hu hk => by
      obtain ⟨U0, g1, g2, g3⟩ := hold u U hu hk
      have := hother U.e (by rw [g3]; exact hfreshT u U0 g1 g2)
      exact ⟨this.1.symm, this.2.symm⟩
    have hev5 : Ev gl H w (H2.trim σ.toks.length) w4 := by
      refine ⟨hevI.B.trans (by rw [hH1]), hevI.base.trans (by rw [hH1]), hevI.aux.trans (by rw [hH1]), hevI.K.trans (by rw [hH1]), ?_, ?_, ?_, ?_, fun id b hb => hevI.ob id b (by rw [hH1]; exact hb), fun u U hu => ?_, fun b off hp => ?_, fun b hb => ?_, ?_, fun b ds hb => ?_, fun u U hu hk => ?_⟩
      · rw [hw4]; exact hevI.os.trans hb1.os
      · rw [hw4]; exact hevI.tape.trans hb1.tape
      · rw [hw4]; exact hevI.output.trans hb1.output
      · rw [hsz4]; exact Nat.le_trans hb1.size hevI.size
      · have hlt : u < σ.toks.length := by have := (List.getElem?_eq_some_iff.1 hu).1; omega
        obtain ⟨U', g1, g2⟩ := hevI.tok u U (by rw [hH1t u hlt]; exact hu)
        exact ⟨U', by simp only [Gh.trim]; rw [List.getElem?_take, if_pos hlt]; exact g1, g2⟩
      · have hbne : b ≠ W0.heap.size := fun e => by have := hp.1; omega
        obtain ⟨p1, c1⟩ := (hm0.trans hm1).prot b off hp
        obtain ⟨p2, c2⟩ := hevI.prot b off p1
        have p3 := trim_prot (m := σ.toks.length) p2
        exact ⟨⟨by rw [hsz4]; exact p3.1, p3.2⟩, fun s => (World.cell?_of_block (a := ⟨b, off, s⟩) (hoth b hbne)).trans ((c2 s).trans (c1 s))⟩
      · exact (hoth b (by omega)).trans ((hevI.block b (by rw [hH1]; exact hb)).trans (hb1.block b (Nat.lt_of_lt_of_le hb hok.B)))
      · intro hg
        have h1 : w.drawn ≤ W1.drawn := by rw [hW1]; show w.drawn ≤ W0.drawn; rw [hdr0]; exact Nat.le_refl _
        have h2 := hevI.dr (fun b => by rw [hgv]; exact hg b)
        rw [hw4]
        exact Nat.le_trans h1 h2
      · have hlt := lt_of_heap hb
        exact (hoth b (by omega)).trans (hevI.fix b ds ((hb1.block b hlt).trans hb))
      · obtain ⟨U0, g1, g2, _⟩ := hold u U hu hk
        exact ⟨U0, g1, g2⟩
    have hmk5 : Marks (H2.trim σ.toks.length).K (mark ++ a.defers) w4 := by
      obtain ⟨m1, Ds, m2, m3, m4⟩ := hmark
      refine ⟨?_, Ds, m2, m3, fun D' hD' => ⟨?_, ?_⟩⟩
      · rw [hev5.K]; exact Nat.le_trans m1 (by rw [hsz4]; refine Nat.le_trans ?_ hevI.size; rw [hW1]; simp)
      · rw [hev5.K]; exact (m4 D' hD').1
      · have hlt := lt_of_heap (m4 D' hD').2
        refine (hoth D' (by omega)).trans (hevI.fix D' _ ?_)
        rw [hW1]
        exact ((below_alloc0 W0 _).block D' hlt).trans (m4 D' hD').2
    have hst5 : St gl H0 w0 fr (dropTS σ.toks.length σ2) { a with defers := mark ++ a.defers } w4 := ⟨_, hev.trans hev5, hok5, hfr.mono hev5.mono, hmk5⟩
    have hfin := hq _ _ hst5
    refine ⟨jumpOf s, w4, hend', ?_⟩
    unfold exOf at hfin
    unfold jumpOf
    by_cases h2 : s = 2
    · simp only [h2, if_true] at hfin ⊢
      exact wpIn_ret hfin
    · by_cases h3 : 3 ≤ s
      · simp only [h2, h3, if_true, if_false] at hfin ⊢
        exact wpIn_exit hfin
      · simp only [h2, h3, if_false] at hfin ⊢
        exact hfin
end Go.Pv

/- Loops over functions, in trees. -/
set_option linter.unusedSimpArgs false
set_option linter.unusedVariables false
namespace Go.Pv
open Go.RowKit Tr

mutual
/-- A value that stays as it is where the objects from n on, and the own rows from m on, are forgotten. -/
def keepP (n m : Nat) : PV → Bool
  | .ptr id _ => Nat.blt id n
  | .osl id _ _ _ => Nat.blt id n
  | .yld t => Nat.blt t m
  | .sl _ _ => false
  | .ref cs => keepPL n m cs
  | .fn _ cs => keepPL n m cs
  | .iface _ v => keepP n m v
  | .agg cs => keepPL n m cs
  | .tup cs => keepPL n m cs
  | _ => true
def keepPL (n m : Nat) : List PV → Bool
  | [] => true
  | x :: xs => keepP n m x && keepPL n m xs
end
mutual
theorem keepP_ok {n m : Nat} : ∀ {x : PV}, keepP n m x = true → (∀ n', n ≤ n' → dropP n' x = x) ∧ ∀ m', m ≤ m' → dropT m' x = x
  | .top, _ => ⟨fun _ _ => rfl, fun _ _ => rfl⟩
  | .bool _, _ => ⟨fun _ _ => rfl, fun _ _ => rfl⟩
  | .int _ _, _ => ⟨fun _ _ => rfl, fun _ _ => rfl⟩
  | .str _, _ => ⟨fun _ _ => rfl, fun _ _ => rfl⟩
  | .nilp, _ => ⟨fun _ _ => rfl, fun _ _ => rfl⟩
  | .nilf, _ => ⟨fun _ _ => rfl, fun _ _ => rfl⟩
  | .nili, _ => ⟨fun _ _ => rfl, fun _ _ => rfl⟩
  | .ptr id off, h => by
    have h : id < n := by simpa [keepP] using h
    refine ⟨fun n' hn => ?_, fun _ _ => rfl⟩
    simp only [dropP]
    rw [show decide (id < n') = true from by simp; omega]
    rfl
  | .osl id off len k, h => by
    have h : id < n := by simpa [keepP] using h
    refine ⟨fun n' hn => ?_, fun _ _ => rfl⟩
    simp only [dropP]
    rw [show decide (id < n') = true from by simp; omega]
    rfl
  | .yld t, h => by
    have h : t < m := by simpa [keepP] using h
    refine ⟨fun _ _ => rfl, fun m' hm => ?_⟩
    simp only [dropT]
    rw [show decide (t < m') = true from by simp; omega]
    rfl
  | .sl _ _, h => by simp [keepP] at h
  | .ref cs, h => by
    simp only [keepP] at h
    have := keepPL_ok h
    exact ⟨fun n' hn => by simp only [dropP]; rw [this.1 n' hn], fun m' hm => by simp only [dropT]; rw [this.2 m' hm]⟩
  | .fn f cs, h => by
    simp only [keepP] at h
    have := keepPL_ok h
    exact ⟨fun n' hn => by simp only [dropP]; rw [this.1 n' hn], fun m' hm => by simp only [dropT]; rw [this.2 m' hm]⟩
  | .iface t v, h => by
    simp only [keepP] at h
    have := keepP_ok h
    exact ⟨fun n' hn => by simp only [dropP]; rw [this.1 n' hn], fun m' hm => by simp only [dropT]; rw [this.2 m' hm]⟩
  | .agg cs, h => by
    simp only [keepP] at h
    have := keepPL_ok h
    exact ⟨fun n' hn => by simp only [dropP]; rw [this.1 n' hn], fun m' hm => by simp only [dropT]; rw [this.2 m' hm]⟩
  | .tup cs, h => by
    simp only [keepP] at h
    have := keepPL_ok h
    exact ⟨fun n' hn => by simp only [dropP]; rw [this.1 n' hn], fun m' hm => by simp only [dropT]; rw [this.2 m' hm]⟩
theorem keepPL_ok {n m : Nat} : ∀ {xs : List PV}, keepPL n m xs = true → (∀ n', n ≤ n' → dropPL n' xs = xs) ∧ ∀ m', m ≤ m' → dropTL m' xs = xs
  | [], _ => ⟨fun _ _ => rfl, fun _ _ => rfl⟩
  | x :: xs, h => by
    simp only [keepPL, Bool.and_eq_true] at h
    have h1 := keepP_ok h.1
    have h2 := keepPL_ok h.2
    exact ⟨fun n' hn => by simp only [dropPL]; rw [h1.1 n' hn, h2.1 n' hn], fun m' hm => by simp only [dropTL]; rw [h1.2 m' hm, h2.2 m' hm]⟩
end

/-- The same plain values. -/
def sameP : PV → PV → Bool
  | .top, .top => true
  | .nilp, .nilp => true
  | .ptr a b, .ptr c d => Nat.beq a c && Nat.beq b d
  | _, _ => false
def samePL : List PV → List PV → Bool
  | [], [] => true
  | x :: xs, y :: ys => sameP x y && samePL xs ys
  | _, _ => false
theorem sameP_ok : ∀ {x y : PV}, sameP x y = true → x = y := by
  intro x y h
  unfold sameP at h
  split at h
  · rfl
  · rfl
  · simp only [Bool.and_eq_true] at h
    rw [Nat.eq_of_beq_eq_true h.1, Nat.eq_of_beq_eq_true h.2]
  · cases h
theorem samePL_ok : ∀ {xs ys : List PV}, samePL xs ys = true → xs = ys
  | [], [], _ => rfl
  | x :: xs, y :: ys, h => by
    simp only [samePL, Bool.and_eq_true] at h
    rw [sameP_ok h.1, samePL_ok h.2]
  | [], _ :: _, h => by cases h
  | _ :: _, [], h => by cases h

/-- A loop over a function, at one spot: the slots of its frame, which count in it and behind it; which count in a round, and with which values; the parameters; its record's number. -/
structure RI where
  nt : Nat
  ss : List Nat
  bs : List Nat
  vs : List PV
  ps : List Nat
  e : Nat
def RI.fr (I : RI) : List PV := Go.Pv.mk I.nt (I.bs.zip I.vs)

def findR (k : Nat) : Code → Option Code
  | .seq a b => match findR k a with
    | some c => some c
    | none => findR k b
  | .cond _ a b => match findR k a with
    | some c => some c
    | none => findR k b
  | .block _ c => findR k c
  | .rangeFunc g ps x y => if rfid x y = k then some (.rangeFunc g ps x y) else none
  | _ => none
def rngC (fn : Func) (k : Nat) : Code := match fn.body with
  | some c => (findR k c).getD .skip
  | none => .skip
def rngX : Code → Code
  | .rangeFunc _ _ x _ => x
  | _ => .skip
def rngY : Code → Code
  | .rangeFunc _ _ _ y => y
  | _ => .skip
def rngG : Code → Operand
  | .rangeFunc g _ _ _ => g
  | _ => .tmp 0
def rngP : Code → Array Tmp
  | .rangeFunc _ ps _ _ => ps
  | _ => #[]
def rngO (c : Code) : Code := .rangeFunc (rngG c) (rngP c) (rngX c) (rngY c)
/-- What a round has made and left is forgotten. -/
def trimRO (n : Nat) (σ : Store) : Store := if σ.objs.length ≤ n then σ else dropS n σ
def trimR (n m : Nat) (σ : Store) : Store :=
  if (trimRO n σ).toks.length ≤ max m (mtokLL (trimRO n σ).objs) then trimRO n σ else dropTS (max m (mtokLL (trimRO n σ).objs)) (trimRO n σ)

/-- One round: what the function's call of yield does. -/
noncomputable def rtree0 (tb : Tab) (G : GamT) (L : LpsT) (I : RI) (x y : Code) (t : Nat) (args : List PV) (σ : Store) : Tr (Bool × Store) :=
  if args.length = I.ps.length then
    bind (texec tb G L x [] (puts I.fr I.ps args) σ) fun r => match r.1 with
      | .normal => match r.2.2.2.toks[t]? with
        | some (0, 0, e) => if e = I.e then
            bind (texec tb G L y [] r.2.2.1 { r.2.2.2 with toks := r.2.2.2.toks.set t (1, 0, I.e) }) fun q => match q.2.2.2.toks[t]? with
              | some (1, 0, e) => if e = I.e then .ret (isNo q.1, { q.2.2.2 with toks := q.2.2.2.toks.set t (stOf q.1, 0, I.e) }) else .fail
              | _ => .fail
          else .fail
        | _ => .fail
      | _ => .fail
  else .fail
noncomputable def rtree (tb : Tab) (G : GamT) (L : LpsT) (I : RI) (x y : Code) (t : Nat) (args : List PV) (σ : Store) : Tr (PV × Store) :=
  bind (rtree0 tb G L I x y t args σ) fun r => .ret (.bool r.1, trimR σ.objs.length σ.toks.length r.2)

def freshE (e : Nat) : List (Nat × Nat × TypeId) → Bool
  | [] => true
  | (_, k, e') :: l => (!Nat.beq k 0 || !Nat.beq e' e) && freshE e l
theorem freshE_ok {e : Nat} : ∀ {l : List (Nat × Nat × TypeId)}, freshE e l = true → ∀ (i v k e' : Nat), l[i]? = some (v, k, e') → k = 0 → e' ≠ e
  | [], _, i, v, k, e', h, _ => by cases i <;> cases h
  | (v0, k0, e0) :: l, h, i, v, k, e', hi, hk => by
    simp only [freshE, Bool.and_eq_true] at h
    cases i with
    | zero =>
      cases hi
      subst hk
      intro e1
      subst e1
      simp at h
    | succ i => exact freshE_ok h.2 i v k e' hi hk

/-- The whole: the function, with a record behind the own rows; the record's state behind it tells the way on. -/
noncomputable def rorc (I : RI) (g : Operand) (gf : FuncId) (D : List PV → Store → Tr (PV × Store)) (fr : List PV) (σ : Store) : Tr (PExit × List PV × Store) :=
  if fr.length = I.nt then
    match ev (mk I.nt (I.ss.zip (rsl I.ss fr))) g with
    | .fn f caps =>
      if f = gf then
        if samePL (rsl I.bs (mk I.nt (I.ss.zip (rsl I.ss fr)))) I.vs && freshE I.e σ.toks && keepPL σ.objs.length σ.toks.length (mk I.nt (I.ss.zip (rsl I.ss fr))) then
          bind (D (.yld σ.toks.length :: caps) { σ with toks := σ.toks ++ [(0, 0, I.e)] }) fun r => match r.2.toks[σ.toks.length]? with
            | some (s, 0, e) => if e = I.e then if s = 1 then .fail else .ret (exOf s, mk I.nt (I.ss.zip (rsl I.ss fr)), trimRO σ.objs.length (dropTS σ.toks.length r.2)) else .fail
            | _ => .fail
        else .fail
      else .fail
    | _ => .fail
  else .fail

theorem run_bind_map {α β : Type} (f : α → β) : ∀ (t : Tr α), (bind t fun r => .ret (f r)).run = t.run.map f
  | .ret a => rfl
  | .fail => rfl
  | .ite b x y => by
    simp only [Tr.bind, Tr.run_ite]
    cases b <;> simp [run_bind_map f x, run_bind_map f y]
  | .get xs i z k => by
    simp only [Tr.bind, Tr.run_get]
    cases xs[i]? with
    | none => rfl
    | some cs => exact run_bind_map f (k cs)
section
variable {P : Program} {tb : Tab} {gl : Gl}
theorem Does.into {c : Code} {fr fr1 : List PV} {σ : Store} {e : PExit} {fr' : List PV} {σ' : Store} (hw : Weak fr fr1) (h : Does P gl c fr1 σ e fr' σ') : Does P gl c fr σ e fr' σ' :=
  fun r n H0 w0 hR Q a w hst hq => h r n H0 w0 hR Q a w (st_weak hw hst) hq
theorem len_mkFrom (l : List (Nat × PV)) : ∀ (n i : Nat), (mkFrom l n i).length = n
  | 0, _ => rfl
  | n + 1, i => by simp [mkFrom, len_mkFrom l n (i + 1)]
theorem len_mk (n : Nat) (l : List (Nat × PV)) : (mk n l).length = n := len_mkFrom l n 0
theorem Weak.set : ∀ {xs ys : List PV} (i : Nat) (x : PV), Weak xs ys → Weak (xs.set i x) (ys.set i x)
  | [], [], _, _, _ => trivial
  | a :: xs, b :: ys, 0, x, h => ⟨.inr rfl, h.2⟩
  | a :: xs, b :: ys, i + 1, x, h => ⟨h.1, Weak.set i x h.2⟩
  | [], _ :: _, _, _, h => by cases h
  | _ :: _, [], _, _, h => by cases h
theorem Weak.puts : ∀ (ps : List Tmp) (zs : List PV) {xs ys : List PV}, Weak xs ys → Weak (puts xs ps zs) (puts ys ps zs)
  | [], _, _, _, h => by simpa [Go.Pv.puts] using h
  | _ :: _, [], _, _, h => by simpa [Go.Pv.puts] using h
  | p :: ps, a :: zs, xs, ys, h => by
    simp only [Go.Pv.puts]
    exact Weak.puts ps zs (h.set p a)
theorem trimRO_ok {c : Code} {fr : List PV} {σ σ2 : Store} {fr1 : List PV} {e : PExit} {n : Nat} (hn : σ.objs.length ≤ n) (hd : Does P gl c fr σ e fr1 σ2) : ∃ fr3, Does P gl c fr σ e fr3 (trimRO n σ2) := by
  unfold trimRO
  split
  · exact ⟨_, hd⟩
  · exact ⟨_, hd.drop hn⟩
theorem trimR_ok {c : Code} {fr : List PV} {σ σ2 : Store} {fr1 : List PV} {e : PExit} {n m : Nat} (hn : σ.objs.length ≤ n) (hm : σ.toks.length ≤ m) (hd : Does P gl c fr σ e fr1 σ2) : ∃ fr3, Does P gl c fr σ e fr3 (trimR n m σ2) := by
  obtain ⟨fr2, h2⟩ := trimRO_ok hn hd
  unfold trimR
  split
  · exact ⟨_, h2⟩
  · exact ⟨_, h2.trim (Nat.le_trans hm (Nat.le_max_left _ _))⟩
theorem rtree0_ok {G : GamT} {L : LpsT} {I : RI} {x y : Code} (hT : TabOk P tb) (hΓ : GamOk P gl (gam G)) (hm : P.follows .mixedOrders = true) (hLx : LoopOk P gl (lps L) x) (hLy : LoopOk P gl (lps L) y) (hdx : drawsOk (gam G) x = true) (hdy : drawsOk (gam G) y = true)
    {t : Nat} {args : List PV} {σ : Store} {b : Bool} {σ' : Store} (h : (rtree0 tb G L I x y t args σ).run = some (b, σ')) {fr : List PV} (hw : Weak fr I.fr) :
    ∃ fr1 σ1 ex fr2 σ2, args.length = I.ps.length ∧ Does P gl x (puts fr I.ps args) σ .normal fr1 σ1 ∧ σ1.toks[t]? = some (0, 0, I.e) ∧
      Does P gl y fr1 { σ1 with toks := σ1.toks.set t (1, 0, I.e) } ex fr2 σ2 ∧ σ2.toks[t]? = some (1, 0, I.e) ∧ b = isNo ex ∧ σ' = { σ2 with toks := σ2.toks.set t (stOf ex, 0, I.e) } := by
  unfold rtree0 at h
  split at h
  · rename_i hl
    obtain ⟨⟨e1, kn1, fr1, σ1⟩, h1, h2⟩ := bind_some h
    have d1 := Does.into (Weak.puts I.ps args hw) (Does.of_tree hT hΓ hm hLx hdx h1)
    simp only at h2
    cases e1 with
    | normal =>
      simp only at h2
      split at h2
      · rename_i e ht
        split at h2
        · rename_i hee
          subst hee
          obtain ⟨⟨ex, kn2, fr2, σ2⟩, h3, h4⟩ := bind_some h2
          have d2 := Does.of_tree hT hΓ hm hLy hdy h3
          simp only at h4
          split at h4
          · rename_i e ht2
            split at h4
            · rename_i hee
              simp only [Tr.run_ret, Option.some.injEq, Prod.mk.injEq] at h4
              refine ⟨fr1, σ1, ex, fr2, _, hl, d1, ht, d2, ?_, h4.1.symm, h4.2.symm⟩
              rw [ht2, hee]
            · cases h4
          · cases h4
        · cases h2
      · cases h2
    | exit j => cases h2
    | ret => cases h2
  · cases h
theorem Post.dropS {H : Gh} {σ σ' : Store} {w w' : World} {b : Bool} {v : Value} {n : Nat} (hok : Ok gl H σ w) (hn : σ.objs.length ≤ n) (h : Post gl H w (.bool b) σ' v w') : Post gl H w (.bool b) (Go.Pv.dropS n σ') v w' := by
  obtain ⟨H', hev, hok', hx⟩ := h
  have hn' : H.ob.length ≤ n := by rw [hok.len]; exact hn
  refine ⟨H'.keep n, ⟨hev.B, hev.base, hev.aux, hev.K, hev.os, hev.tape, hev.output, hev.size, fun id b hid => ?_, hev.tok, fun b off hp => ⟨keep_prot (hev.prot b off hp).1, (hev.prot b off hp).2⟩, hev.block, hev.dr, hev.fix, hev.old⟩, keep_ok hok' (fun t T e hk => ?_), ?_⟩
  · simp only [Gh.keep]
    rw [List.getElem?_take, if_pos (Nat.lt_of_lt_of_le (List.getElem?_eq_some_iff.1 hid).1 hn')]
    exact hev.ob id b hid
  · obtain ⟨T0, e0, k0⟩ := hev.old t T e hk
    obtain ⟨T1, e1, u⟩ := hev.tok t T0 e0
    rw [e] at e1
    cases e1
    rw [(u.lp k0).2.2.2]
    obtain ⟨_, _, o, _, ho⟩ := hok.tok t T0 e0
    rcases ho with ⟨h1, _⟩ | ⟨_, _, r, _, _, _, h6, _⟩
    · exact absurd k0 h1
    · omega
  · cases hx
    exact .bool b
theorem Post.dropT {H : Gh} {σ σ' : Store} {w w' : World} {b : Bool} {v : Value} {m : Nat} (hok : Ok gl H σ w) (hm : σ.toks.length ≤ m) (h : Post gl H w (.bool b) σ' v w') : Post gl H w (.bool b) (dropTS m σ') v w' := by
  obtain ⟨H', hev, hok', hx⟩ := h
  have hl : H.tk.length ≤ m := by
    have := congrArg List.length hok.tkl
    simp at this
    omega
  refine ⟨H'.trim m, ⟨hev.B, hev.base, hev.aux, hev.K, hev.os, hev.tape, hev.output, hev.size, hev.ob, fun t T ht => ?_, fun b off hp => ⟨trim_prot (hev.prot b off hp).1, (hev.prot b off hp).2⟩, hev.block, hev.dr, hev.fix, fun t T e hk => hev.old t T (take_get e).2 hk⟩, trim_ok hok', ?_⟩
  · obtain ⟨T', h1, h2⟩ := hev.tok t T ht
    refine ⟨T', ?_, h2⟩
    simp only [Gh.trim]
    rw [List.getElem?_take, if_pos (Nat.lt_of_lt_of_le (List.getElem?_eq_some_iff.1 ht).1 hl)]
    exact h1
  · cases hx
    exact .bool b
theorem Post.trimR {H : Gh} {σ σ' : Store} {w w' : World} {b : Bool} {v : Value} {n m : Nat} (hok : Ok gl H σ w) (hn : σ.objs.length ≤ n) (hm : σ.toks.length ≤ m) (h : Post gl H w (.bool b) σ' v w') : Post gl H w (.bool b) (Go.Pv.trimR n m σ') v w' := by
  have h1 : Post gl H w (.bool b) (trimRO n σ') v w' := by
    unfold trimRO
    split
    · exact h
    · exact h.dropS hok hn
  unfold Go.Pv.trimR
  split
  · exact h1
  · exact h1.dropT hok (Nat.le_trans hm (Nat.le_max_left _ _))
theorem YCalls.mono {P : Program} {l : Nat} {args : Array Value} {w : World} {R R' : Ending → World → Prop} (h : YCalls P l args w R) (hR : ∀ e w', R e w' → R' e w') : YCalls P l args w R' := by
  obtain ⟨f, tmps, assign, body, h1, h2⟩ := h
  exact ⟨f, tmps, assign, body, h1, h2.mono hR⟩
theorem conOk_trim {e : Nat} {Y0 : Nat → List PV → Store → Option (Bool × Store)} (h : ConOk P gl yldKey (.yld e fun t args σ => (Y0 t args σ).map fun r => (.bool r.1, r.2))) :
    ConOk P gl yldKey (.yld e fun t args σ => (Y0 t args σ).map fun r => (.bool r.1, trimR σ.objs.length σ.toks.length r.2)) := by
  intro t args σ x σ' ht hy H w vs T hok hr hT
  obtain ⟨r, hr0, he⟩ := Option.map_eq_some_iff.1 hy
  simp only [Prod.mk.injEq] at he
  obtain ⟨rfl, rfl⟩ := he
  refine YCalls.mono (h t args σ (.bool r.1) r.2 ht (by simp only [hr0, Option.map_some]) H w vs T hok hr hT) ?_
  rintro e w' ⟨v, rfl, hp⟩
  exact ⟨v, rfl, hp.trimR hok (Nat.le_refl _) (Nat.le_refl _)⟩
theorem rorc_ok {G : GamT} {L : LpsT} {I : RI} {g : Operand} {ps : Array Tmp} {x y : Code} {gf : FuncId} {D : List PV → Store → Tr (PV × Store)} (hT : TabOk P tb) (hΓ : ∀ gl' : Gl, gl'.v = gl.v → GamOk P gl' (gam G)) (hm : P.follows .mixedOrders = true)
    (hLx : ∀ gl' : Gl, gl'.v = gl.v → LoopOk P gl' (lps L) x) (hLy : ∀ gl' : Gl, gl'.v = gl.v → LoopOk P gl' (lps L) y) (hdx : drawsOk (gam G) x = true) (hdy : drawsOk (gam G) y = true) (hps : ps.toList = I.ps)
    (hent : ∃ fn, P.funcs[gf]? = some fn ∧ (fn.name == "runtime.NumGoroutine") = false ∧ fn.body.isNone = false)
    (hI : ∀ gl' : Gl, gl'.v = gl.v → ConOk P gl' yldKey (.yld I.e fun t args σ => (rtree tb G L I x y t args σ).run) → SimS P gl' gf fun args σ => (D args σ).run) :
    ∀ fr σ e fr' σ', (rorc I g gf D fr σ).run = some (e, fr', σ') → Does P gl (.rangeFunc g ps x y) fr σ e fr' σ' := by
  intro fr σ e fr' σ' h
  unfold rorc at h
  split at h
  · rename_i hn
    have hw := weak_rsl fr I.ss
    rw [hn] at hw
    generalize hfr1 : mk I.nt (I.ss.zip (rsl I.ss fr)) = fr1 at h hw
    have hl1 : fr1.length = I.nt := by rw [← hfr1]; exact len_mk _ _
    split at h
    · rename_i f caps hg
      split at h
      · rename_i hf
        subst hf
        split at h
        · rename_i hk
          simp only [Bool.and_eq_true] at hk
          obtain ⟨⟨hk1, hk2⟩, hk3⟩ := hk
          obtain ⟨⟨v, σ2⟩, h1, h2⟩ := bind_some h
          have hkeep := keepPL_ok hk3
          simp only at h2
          split at h2
          · rename_i s e' hs
            split at h2
            · rename_i hee
              subst hee
              split at h2
              · cases h2
              · rename_i hs1
                simp only [Tr.run_ret, Option.some.injEq, Prod.mk.injEq] at h2
                obtain ⟨rfl, rfl, rfl⟩ := h2
                have hw2 : Weak fr1 I.fr := by
                  have := weak_rsl fr1 I.bs
                  rw [hl1, samePL_ok hk1] at this
                  exact this
                have hd := range_does (P := P) (gl := gl) (g := g) (ps := ps) (assign := x) (body := y) (fr := fr1) (σ := σ) hg I.e hent (Y := fun t args σ => (rtree0 tb G L I x y t args σ).run.map fun r => (.bool r.1, r.2)) (D := fun args σ => (D args σ).run)
                  (freshE_ok hk2) hkeep.1 hkeep.2 (fun gl' hv hc => hI gl' hv (by
                    have := conOk_trim (Y0 := fun t args σ => (rtree0 tb G L I x y t args σ).run) hc
                    simp only [rtree, run_bind_map]
                    exact this)) (fun gl' hv t args σ x' σ' hy => by
                    obtain ⟨r, hr, he⟩ := Option.map_eq_some_iff.1 hy
                    simp only [Prod.mk.injEq] at he
                    obtain ⟨rfl, rfl⟩ := he
                    obtain ⟨q1, q2, q3, q4, q5, q6, q7, q8, q9, q10, q11⟩ := rtree0_ok hT (hΓ gl' hv) hm (hLx gl' hv) (hLy gl' hv) hdx hdy hr hw2
                    rw [hps]
                    exact ⟨q1, q2, q3, q4, q5, by rw [q6, ← hps]; simp, q7, q8, q9, q10, by rw [q11.1], q11.2⟩) h1 hs hs1
                have hd2 := Does.into hw hd
                unfold trimRO
                split
                · exact hd2
                · have := hd2.drop (n := σ.objs.length) (Nat.le_refl _)
                  rw [hkeep.1 _ (Nat.le_refl _)] at this
                  exact this
            · cases h2
          · cases h2
        · cases h
      · cases h
    · cases h
  · cases h
end
end Go.Pv

/- Cells of elements of rows that are told by codes. -/
set_option linter.unusedSimpArgs false
set_option linter.unusedVariables false
namespace Go.Pv
section
variable {α : Type} (C : Cod α)
theorem rOf_getD (l : List α) (i : Nat) : (rOf C l).getD i [] = match l[i]? with | some a => C.enc a | none => [] := by
  rw [List.getD_eq_getElem?_getD, rOf_get]
  cases l[i]? <;> rfl
theorem okGet_of (z : List PV) (l : List α) (i : Nat) (h : ∀ a, selF z [C.enc a] 0 0 = C.enc a) (hs : ∀ (xs : List (List PV)) (k j : Nat) (c : List PV), xs[k]? = some c → selF z xs k j = selF z [c] 0 j) : okGet z (rOf C l) i = decide (i < l.length) := by
  unfold okGet
  congr 1
  rw [rOf_get]
  cases hi : l[i]? with
  | none =>
    have : ¬ i < l.length := by simpa using hi
    simp [this]
  | some a =>
    have hl := (List.getElem?_eq_some_iff.1 hi).1
    have hx : (rOf C l)[i]? = some (C.enc a) := by simp [hi]
    rw [hs _ _ _ _ hx, h]
    simp [hl]
end
theorem selC_eq (c : PV) {xs : List (List PV)} {k j : Nat} {d : List PV} (h : xs[k]? = some d) : selC c xs k j = selC c [d] 0 j := by
  have e : xs.getD k [] = d := by rw [List.getD_eq_getElem?_getD, h]; rfl
  have e' : ([d] : List (List PV)).getD 0 [] = d := rfl
  cases c <;> simp only [selC, xInt, xBool, xStr, xRow, xPV, e, e']
theorem selF_eq : ∀ (z : List PV) (xs : List (List PV)) (k j : Nat) (d : List PV), xs[k]? = some d → selF z xs k j = selF z [d] 0 j
  | [], _, _, _, _, _ => rfl
  | c :: z, xs, k, j, d, h => by simp only [selF]; rw [selC_eq c h, selF_eq z xs k (j + 1) d h]
theorem okGet_cod {α : Type} (C : Cod α) (z : List PV) (h : ∀ a, selF z [C.enc a] 0 0 = C.enc a) (l : List α) (i : Nat) : okGet z (rOf C l) i = decide (i < l.length) := okGet_of C z l i h (selF_eq z)
@[simp] theorem okGet_cV (l : List Vl) (i : Nat) : okGet [.int .i64 0, .int .i64 0, .str []] (rOf cV l) i = decide (i < l.length) := okGet_cod _ _ (fun _ => rfl) l i
@[simp] theorem xInt_cV0 (l : List Vl) (i : Nat) : xInt (rOf cV l) i 0 = (l[i]?.getD (0, 0, [])).1 := by unfold xInt; rw [rOf_getD]; cases l[i]? <;> rfl
@[simp] theorem xInt_cV1 (l : List Vl) (i : Nat) : xInt (rOf cV l) i 1 = (l[i]?.getD (0, 0, [])).2.1 := by unfold xInt; rw [rOf_getD]; cases l[i]? <;> rfl
@[simp] theorem xStr_cV2 (l : List Vl) (i : Nat) : xStr (rOf cV l) i 2 = (l[i]?.getD (0, 0, [])).2.2 := by unfold xStr; rw [rOf_getD]; cases l[i]? <;> rfl
@[simp] theorem okGet_cI (l : List Int) (i : Nat) : okGet [.int .i64 0] (rOf cI l) i = decide (i < l.length) := okGet_cod _ _ (fun _ => rfl) l i
@[simp] theorem xInt_cI0 (l : List Int) (i : Nat) : xInt (rOf cI l) i 0 = (l[i]?.getD 0) := by unfold xInt; rw [rOf_getD]; cases l[i]? <;> rfl
@[simp] theorem okGet_cM (l : List Tm) (i : Nat) : okGet [.int .i64 0, .str [], .int .i64 0, .int .i64 0, .str []] (rOf cM l) i = decide (i < l.length) := okGet_cod _ _ (fun _ => rfl) l i
@[simp] theorem xInt_cM0 (l : List Tm) (i : Nat) : xInt (rOf cM l) i 0 = (l[i]?.getD (0, [], 0, 0, [])).1 := by unfold xInt; rw [rOf_getD]; cases l[i]? <;> rfl
@[simp] theorem xStr_cM1 (l : List Tm) (i : Nat) : xStr (rOf cM l) i 1 = (l[i]?.getD (0, [], 0, 0, [])).2.1 := by unfold xStr; rw [rOf_getD]; cases l[i]? <;> rfl
@[simp] theorem xInt_cM2 (l : List Tm) (i : Nat) : xInt (rOf cM l) i 2 = (l[i]?.getD (0, [], 0, 0, [])).2.2.1 := by unfold xInt; rw [rOf_getD]; cases l[i]? <;> rfl
@[simp] theorem xInt_cM3 (l : List Tm) (i : Nat) : xInt (rOf cM l) i 3 = (l[i]?.getD (0, [], 0, 0, [])).2.2.2.1 := by unfold xInt; rw [rOf_getD]; cases l[i]? <;> rfl
@[simp] theorem xStr_cM4 (l : List Tm) (i : Nat) : xStr (rOf cM l) i 4 = (l[i]?.getD (0, [], 0, 0, [])).2.2.2.2 := by unfold xStr; rw [rOf_getD]; cases l[i]? <;> rfl
@[simp] theorem okGet_cB (l : List Bd) (i : Nat) : okGet [.str [], .int .i64 0, .int .i64 0, .str []] (rOf cB l) i = decide (i < l.length) := okGet_cod _ _ (fun _ => rfl) l i
@[simp] theorem xStr_cB0 (l : List Bd) (i : Nat) : xStr (rOf cB l) i 0 = (l[i]?.getD ([], 0, 0, [])).1 := by unfold xStr; rw [rOf_getD]; cases l[i]? <;> rfl
@[simp] theorem xInt_cB1 (l : List Bd) (i : Nat) : xInt (rOf cB l) i 1 = (l[i]?.getD ([], 0, 0, [])).2.1 := by unfold xInt; rw [rOf_getD]; cases l[i]? <;> rfl
@[simp] theorem xInt_cB2 (l : List Bd) (i : Nat) : xInt (rOf cB l) i 2 = (l[i]?.getD ([], 0, 0, [])).2.2.1 := by unfold xInt; rw [rOf_getD]; cases l[i]? <;> rfl
@[simp] theorem xStr_cB3 (l : List Bd) (i : Nat) : xStr (rOf cB l) i 3 = (l[i]?.getD ([], 0, 0, [])).2.2.2 := by unfold xStr; rw [rOf_getD]; cases l[i]? <;> rfl
@[simp] theorem okGet_cR {α : Type} (C : Cod α) (l : List (List α)) (i : Nat) : okGet [.sl [] .full] (rOf (cR C) l) i = decide (i < l.length) := okGet_cod _ _ (fun _ => rfl) l i
@[simp] theorem xRow_cR0 {α : Type} (C : Cod α) (l : List (List α)) (i : Nat) : xRow (rOf (cR C) l) i 0 = rOf C ((l[i]?.getD [])) := by unfold xRow; rw [rOf_getD]; cases l[i]? <;> rfl
def cS : Cod (List UInt8) where
  enc s := [.str s]
  dec c := match c with | [.str s] => some s | _ => none
  k := 1
  of_dec c a h := by
    split at h
    · cases h; rfl
    · cases h
  dec_of a := rfl
  lock a := rfl
  shut a := rfl
  len a := rfl
  one a := rfl
@[simp] theorem okSize_cS (l : List (List UInt8)) : okSize (rOf cS l) 1 = true := okSize_rOf cS l
@[simp] theorem okNews_cS (l : List (List UInt8)) : okNews (rOf cS l) 1 = true := okNews_rOf cS l
@[simp] theorem okGet_cS (l : List (List UInt8)) (i : Nat) : okGet [.str []] (rOf cS l) i = decide (i < l.length) := okGet_cod _ _ (fun _ => rfl) l i
@[simp] theorem xStr_cS0 (l : List (List UInt8)) (i : Nat) : xStr (rOf cS l) i 0 = (l[i]?.getD []) := by unfold xStr; rw [rOf_getD]; cases l[i]? <;> rfl
@[simp] theorem one_cS (s : List UInt8) : ([[.str s]] : List (List PV)) = rOf cS [s] := rfl

/-! ### rows with one more -/
@[simp] theorem snoc_cV (l : List Vl) (k n : Int) (s : List UInt8) : rOf cV l ++ [[.int .i64 k, .int .i64 n, .str s]] = rOf cV (l ++ [(k, n, s)]) := by rw [rOf_app]; rfl
@[simp] theorem one_cV (k n : Int) (s : List UInt8) : ([[.int .i64 k, .int .i64 n, .str s]] : List (List PV)) = rOf cV [(k, n, s)] := rfl
@[simp] theorem snoc_cM (l : List Tm) (a : Int) (b : List UInt8) (k n : Int) (s : List UInt8) : rOf cM l ++ [[.int .i64 a, .str b, .int .i64 k, .int .i64 n, .str s]] = rOf cM (l ++ [(a, b, k, n, s)]) := by rw [rOf_app]; rfl
@[simp] theorem one_cM (a : Int) (b : List UInt8) (k n : Int) (s : List UInt8) : ([[.int .i64 a, .str b, .int .i64 k, .int .i64 n, .str s]] : List (List PV)) = rOf cM [(a, b, k, n, s)] := rfl
@[simp] theorem snoc_cB (l : List Bd) (b : List UInt8) (k n : Int) (s : List UInt8) : rOf cB l ++ [[.str b, .int .i64 k, .int .i64 n, .str s]] = rOf cB (l ++ [(b, k, n, s)]) := by rw [rOf_app]; rfl
@[simp] theorem one_cB (b : List UInt8) (k n : Int) (s : List UInt8) : ([[.str b, .int .i64 k, .int .i64 n, .str s]] : List (List PV)) = rOf cB [(b, k, n, s)] := rfl
@[simp] theorem snoc_cR {α : Type} (C : Cod α) (l : List (List α)) (a : List α) : rOf (cR C) l ++ [[.sl (rOf C a) .non]] = rOf (cR C) (l ++ [a]) := by rw [rOf_app]; rfl
@[simp] theorem one_cR {α : Type} (C : Cod α) (a : List α) : ([[.sl (rOf C a) .non]] : List (List PV)) = rOf (cR C) [a] := rfl
@[simp] theorem rOf_append {α : Type} (C : Cod α) (a b : List α) : rOf C a ++ rOf C b = rOf C (a ++ b) := (rOf_app C a b).symm
@[simp] theorem cons_cV (l : List Vl) (k n : Int) (s : List UInt8) : [.int .i64 k, .int .i64 n, .str s] :: rOf cV l = rOf cV ((k, n, s) :: l) := rfl
@[simp] theorem cons_cM (l : List Tm) (a : Int) (b : List UInt8) (k n : Int) (s : List UInt8) : [.int .i64 a, .str b, .int .i64 k, .int .i64 n, .str s] :: rOf cM l = rOf cM ((a, b, k, n, s) :: l) := rfl
@[simp] theorem cons_cB (l : List Bd) (b : List UInt8) (k n : Int) (s : List UInt8) : [.str b, .int .i64 k, .int .i64 n, .str s] :: rOf cB l = rOf cB ((b, k, n, s) :: l) := rfl
@[simp] theorem cons_cR {α : Type} (C : Cod α) (l : List (List α)) (a : List α) : [.sl (rOf C a) .non] :: rOf (cR C) l = rOf (cR C) (a :: l) := rfl
@[simp] theorem cons_cS (l : List (List UInt8)) (s : List UInt8) : [.str s] :: rOf cS l = rOf cS (s :: l) := rfl
@[simp] theorem lockLL_nil' : lockLL [] = [] := rfl
@[simp] theorem shutLL_nil' : shutLL [] = [] := rfl
@[simp] theorem dropPLL_nil' (n : Nat) : dropPLL n [] = [] := rfl
@[simp] theorem dropTLL_nil' (n : Nat) : dropTLL n [] = [] := rfl
@[simp] theorem pnil_rOf {α : Type} (C : Cod α) : (rOf C [] : List (List PV)) = [] := rfl

/-! ### a row that is built by append, begun as nil -/
def aT {α : Type} : List α → Tag
  | [] => .full
  | _ => .tok 0
def aS (k : Nat) (e : TypeId) {α : Type} : List α → Store
  | [] => ⟨[], [], []⟩
  | a :: l => ⟨[], [((a :: l).length, k, e)], []⟩
@[simp] theorem aT_nil {α : Type} : aT ([] : List α) = .full := rfl
@[simp] theorem aS_nil {α : Type} (k : Nat) (e : TypeId) : aS k e ([] : List α) = ⟨[], [], []⟩ := rfl
theorem aT_snoc {α : Type} (l : List α) (a : α) : aT (l ++ [a]) = .tok 0 := by cases l <;> rfl
theorem aS_snoc {α : Type} (k : Nat) (e : TypeId) (l : List α) (a : α) : aS k e (l ++ [a]) = ⟨[], [((l ++ [a]).length, k, e)], []⟩ := by cases l <;> rfl
theorem aTS_cases {α : Type} (k : Nat) (e : TypeId) (l : List α) : (l = [] ∧ aT l = .full ∧ aS k e l = ⟨[], [], []⟩) ∨ (l ≠ [] ∧ aT l = .tok 0 ∧ aS k e l = ⟨[], [(l.length, k, e)], []⟩) := by
  cases l with
  | nil => exact .inl ⟨rfl, rfl, rfl⟩
  | cons a l => exact .inr ⟨by simp, rfl, rfl⟩

theorem SimP.imp {P : Program} {gl : Gl} {f : FuncId} {F G : List PV → Option PV} (hG : SimP P gl f G) (h : ∀ args x, F args = some x → G args = some x) : SimP P gl f F := ⟨hG.ent, fun args x hx => hG.run args x (h args x hx)⟩
/-- A contract that may take for granted what its arguments stand for. -/
theorem SimP.given {P : Program} {gl : Gl} {f : FuncId} {F G : List PV → Option PV} (hG : SimP P gl f G) (h : ∀ args x, (∃ H w vs, RelL H w args vs) → F args = some x → G args = some x) : SimP P gl f F := ⟨hG.ent, fun args x hx H w vs a b c d hr => hG.run args x (h args x ⟨H, w, vs, hr⟩ hx) H w vs a b c d hr⟩
theorem simS_opt {P : Program} {gl : Gl} {f : FuncId} {D : List PV → Store → Option (PV × Store)} (h : SimS P gl f D) : SimS P gl f fun a σ => (Tr.ofOpt (D a σ)).run := by simpa only [Tr.run_ofOpt] using h
theorem simP_opt {P : Program} {gl : Gl} {f : FuncId} {D : List PV → Option PV} (h : SimP P gl f D) : SimP P gl f fun a => (Tr.ofOpt (D a)).run := by simpa only [Tr.run_ofOpt] using h

/-! ### reading a tree test by test -/
theorem Tr.run_of {α : Type} {b : Bool} {x y : Tr α} {r : Option α} (hx : b = true → x.run = r) (hy : b = false → y.run = r) : (Tr.ite b x y).run = r := by
  cases b with
  | true => simpa using hx rfl
  | false => simpa using hy rfl
theorem Tr.run_t {α : Type} {b : Bool} {x y : Tr α} {r : Option α} (h : b = true) (hx : x.run = r) : (Tr.ite b x y).run = r := by rw [h]; simpa using hx
theorem Tr.run_f {α : Type} {b : Bool} {x y : Tr α} {r : Option α} (h : b = false) (hy : y.run = r) : (Tr.ite b x y).run = r := by rw [h]; simpa using hy

/-! ### a loop over a row -/
/-- A fold that may be left. -/
def foldE {α β ρ : Type} (f : β → α → β ⊕ ρ) (fin : β → ρ) : List α → β → ρ
  | [], b => fin b
  | a :: l, b => match f b a with
    | .inl b' => foldE f fin l b'
    | .inr r => r
/-- A loop that takes a row's elements one by one is that fold. -/
theorem loop_foldE {α β ρ γ : Type} {l : List α} {V : Nat → β → γ} (Inv : Nat → β → Prop) (f : β → α → β ⊕ ρ) (fin : β → ρ) (out : ρ → γ)
    (hstep : ∀ i b a, Inv i b → (hi : i < l.length) → l[i] = a → (∃ b', f b a = .inl b' ∧ Inv (i + 1) b' ∧ V i b = V (i + 1) b') ∨ ∃ r, f b a = .inr r ∧ V i b = out r)
    (hend : ∀ b, Inv l.length b → V l.length b = out (fin b)) : ∀ (i : Nat) (b : β), Inv i b → i ≤ l.length → V i b = out (foldE f fin (l.drop i) b) := by
  intro i b hb hi
  obtain ⟨k, hk⟩ : ∃ k, i + k = l.length := ⟨l.length - i, by omega⟩
  clear hi
  induction k generalizing i b with
  | zero =>
    have : i = l.length := by omega
    subst this
    rw [List.drop_eq_nil_of_le (Nat.le_refl _)]
    exact hend b hb
  | succ k ih =>
    obtain ⟨a, ha⟩ := get_lt (l := l) (i := i) (by omega)
    rw [drop_of_get ha]
    simp only [foldE]
    obtain ⟨hi, hai⟩ := List.getElem?_eq_some_iff.1 ha
    rcases hstep i b a hb hi hai with ⟨b', h1, h2, h3⟩ | ⟨r, h1, h2⟩
    · rw [h1, h3]
      exact ih (i + 1) b' h2 (by omega)
    · rw [h1, h2]
theorem loop_foldE0 {α β ρ γ : Type} {l : List α} {V : Nat → β → γ} (Inv : Nat → β → Prop) (f : β → α → β ⊕ ρ) (fin : β → ρ) (out : ρ → γ) (b : β) (h0 : Inv 0 b)
    (hstep : ∀ i b a, Inv i b → (hi : i < l.length) → l[i] = a → (∃ b', f b a = .inl b' ∧ Inv (i + 1) b' ∧ V i b = V (i + 1) b') ∨ ∃ r, f b a = .inr r ∧ V i b = out r)
    (hend : ∀ b, Inv l.length b → V l.length b = out (fin b)) : V 0 b = out (foldE f fin l b) := loop_foldE Inv f fin out hstep hend 0 b h0 (Nat.zero_le _)
/-- A loop that appends, element by element. -/
theorem loop_acc {α γ ρ : Type} {l : List α} {V : Nat → List γ → ρ} (g : α → List γ) (out : List γ → ρ)
    (hstep : ∀ i b a, b = (l.take i).flatMap g → (hi : i < l.length) → l[i] = a → V i b = V (i + 1) (b ++ g a))
    (hend : ∀ b, b = l.flatMap g → V l.length b = out b) : V 0 [] = out (l.flatMap g) := by
  have key : ∀ k i, i + k = l.length → V i ((l.take i).flatMap g) = out (l.flatMap g) := by
    intro k
    induction k with
    | zero =>
      intro i hi
      have : i = l.length := by omega
      subst this
      rw [List.take_length]
      exact hend _ rfl
    | succ k ih =>
      intro i hi
      have hlt : i < l.length := by omega
      rw [hstep i _ l[i] rfl hlt rfl]
      have := ih (i + 1) (by omega)
      rw [← List.take_append_getElem hlt, List.flatMap_append] at this
      simpa using this
  simpa using key l.length 0 (by omega)
theorem flatMap_le {α γ : Type} (g : α → List γ) (h : ∀ a, (g a).length ≤ 1) : ∀ (l : List α) (i : Nat), ((l.take i).flatMap g).length ≤ i
  | [], i => by simp
  | a :: l, 0 => by simp
  | a :: l, i + 1 => by
    simp only [List.take_succ_cons, List.flatMap_cons, List.length_append]
    have := flatMap_le g h l i
    have := h a
    omega
theorem flatMap_filter {α : Type} (p : α → Bool) : ∀ (l : List α), (l.flatMap fun a => if p a = true then [a] else []) = l.filter p
  | [] => rfl
  | a :: l => by
    simp only [List.flatMap_cons, List.filter_cons, flatMap_filter p l]
    cases p a <;> simp
theorem flatMap_one {α γ : Type} (f : α → γ) : ∀ (l : List α), (l.flatMap fun a => [f a]) = l.map f
  | [] => rfl
  | a :: l => by simp [flatMap_one f l]
theorem inc_i64 {i : Nat} (h : i < 9223372036854775807) : iAdd .i64 (i : Int) 1 = ((i + 1 : Nat) : Int) := wrap_i64 (by omega)
end Go.Pv

set_option maxHeartbeats 4000000
set_option maxRecDepth 200000
set_option linter.unusedSimpArgs false
set_option linter.unusedVariables false
namespace Go.Pv
open Go Go.Proofs Go.RowKit

/-! ### the marks of two bytes -/
def twosV : List (List UInt8) := [[58, 45], [60, 61], [62, 61], [33, 61]]
structure GlLex (gl : Gl) : Prop extends GlOk gl where
  twos : VarIs gl "pedigree/lex.twos" (twosV.map fun l => Value.string ⟨l.toArray⟩).toArray
theorem GlPow.of_v {gl gl' : Gl} (h : GlPow gl) (e : gl'.v = gl.v) : GlPow gl' := by
  obtain ⟨h⟩ := h
  exact ⟨by unfold VarIs at *; rw [e]; exact h⟩
theorem GlOk.of_v {gl gl' : Gl} (h : GlOk gl) (e : gl'.v = gl.v) : GlOk gl' := by
  obtain ⟨h1, h2, h3⟩ := h
  exact ⟨h1.of_v e, by unfold VarIs at *; rw [e]; exact h2, by unfold VarIs at *; rw [e]; exact h3⟩
theorem GlLex.of_v {gl gl' : Gl} (h : GlLex gl) (e : gl'.v = gl.v) : GlLex gl' := by
  obtain ⟨h1, h2⟩ := h
  exact ⟨h1.of_v e, by unfold VarIs at *; rw [e]; exact h2⟩
def twosC : List PV := [.str [58, 45], .str [60, 61], .str [62, 61], .str [33, 61]]
theorem glob_twos : Tryd.prog.globalNamed "pedigree/lex.twos" = some 0 := by kernel_rfl
theorem con_twos {gl : Gl} (h : GlLex gl) : ConOk Tryd.prog gl (glKey + 0) (.glob twosC) := by
  obtain ⟨g, T, f, h1, h2⟩ := h.twos
  rw [glob_twos] at h1
  cases h1
  refine ⟨_, T, f, by rw [Nat.add_sub_cancel_left]; exact h2, fun H w => ?_⟩
  exact .cons _ _ _ _ (.str [58, 45] (by decide)) (.cons _ _ _ _ (.str [60, 61] (by decide)) (.cons _ _ _ _ (.str [62, 61] (by decide)) (.cons _ _ _ _ (.str [33, 61] (by decide)) .nil)))

/-! ### strings.IndexByte, LastIndexByte, Count, Join -/
theorem maxLen_le : maxLen ≤ 9223372036854775807 := by decide
def idxV (s : List UInt8) (c : Int) : Int := Lib.indexByte s c.toNat.toUInt8
theorem indexByte_lt (c : UInt8) : ∀ l : List UInt8, Lib.indexByte l c ≤ l.length
  | [] => by simp [Lib.indexByte]
  | b :: l => by
    have := indexByte_lt c l
    unfold Lib.indexByte
    split
    · simp only [List.length_cons]; omega
    · split <;> simp only [List.length_cons] <;> omega
def F_IndexByte : List PV → Tr PV
  | [.str s, .int .u8 c] => .ret (.int .i64 (idxV s c))
  | _ => .fail
theorem sim_IndexByte (gl : Gl) : SimP Tryd.prog gl 47 fun args => (F_IndexByte args).run := by
  refine ⟨⟨_, Tryd.func47, by rfl, by rfl⟩, ?_⟩
  intro args x hx H w vs hB hob htk hw hrel
  unfold F_IndexByte at hx
  split at hx
  · rename_i s c
    cases hx
    cases hrel with
    | cons _ v _ vs hv hvs =>
      cases hvs with
      | cons _ v2 _ vs hv2 hvs =>
        cases hvs
        cases hv with
        | str _ hl =>
          cases hv2
          refine (Tryd.strings_IndexByte ⟨s.toArray⟩ c w).mono ?_
          rintro e w' ⟨rfl, rfl⟩
          refine ⟨_, rfl, ⟨Below.refl _ _, Dr.of_eq rfl⟩, .int _ _ ?_⟩
          have h1 := indexByte_lt c.toNat.toUInt8 s
          have h2 := Lib.indexByte_ge s c.toNat.toUInt8
          have := maxLen_le
          simp only [idxV]
          generalize Lib.indexByte s c.toNat.toUInt8 = q at h1 h2 ⊢
          simp [Lit.wf, IntKind.min, IntKind.max, IntKind.signed, IntKind.bits]
          omega
  · cases hx
def lidxV (s : List UInt8) (c : Int) : Int := Lib.lastIndexByte ⟨s.toArray⟩ c
theorem lastIdx_bd (s : ByteArray) (c : Int) : ∀ k : Nat, -1 ≤ Lib.lastIdx s c k ∧ Lib.lastIdx s c k ≤ k := by
  intro k
  rcases Lib.lastIdx_spec s c k with ⟨h, _⟩ | ⟨i, h1, h2, _⟩
  · rw [h]; omega
  · rw [h2]; omega
def F_LastIndexByte : List PV → Tr PV
  | [.str s, .int .u8 c] => Tr.chk (iLe (sLen s) 4611686018427387903) (.ret (.int .i64 (lidxV s c)))
  | _ => .fail
theorem sim_LastIndexByte (gl : Gl) : SimP Tryd.prog gl 27 fun args => (F_LastIndexByte args).run := by
  refine ⟨⟨_, Tryd.func27, by rfl, by rfl⟩, ?_⟩
  intro args x hx H w vs hB hob htk hw hrel
  unfold F_LastIndexByte at hx
  split at hx
  · rename_i s c
    obtain ⟨h0, hx⟩ := Tr.chk_some hx
    cases hx
    simp at h0
    cases hrel with
    | cons _ v _ vs hv hvs =>
      cases hvs with
      | cons _ v2 _ vs hv2 hvs =>
        cases hvs
        cases hv with
        | str _ hl =>
          cases hv2
          have := maxLen_le
          have hsz : (⟨s.toArray⟩ : ByteArray).size = s.length := by simp [ByteArray.size]
          refine (Tryd.strings_LastIndexByte ⟨s.toArray⟩ c (by rw [hsz]; omega) w).mono ?_
          rintro e w' ⟨rfl, rfl⟩
          refine ⟨_, rfl, ⟨Below.refl _ _, Dr.of_eq rfl⟩, .int _ _ ?_⟩
          have h1 := lastIdx_bd ⟨s.toArray⟩ c (⟨s.toArray⟩ : ByteArray).size
          rw [hsz] at h1
          simp only [lidxV, Lib.lastIndexByte, hsz]
          simp [Lit.wf, IntKind.min, IntKind.max, IntKind.signed, IntKind.bits]
          omega
  · cases hx
def cntV (s : List UInt8) (c : UInt8) : Int := (s.count c : Nat)
def F_Count : List PV → Tr PV
  | [.str s, .str [c]] => .ret (.int .i64 (cntV s c))
  | _ => .fail
theorem sim_Count (gl : Gl) : SimP Tryd.prog gl 26 fun args => (F_Count args).run := by
  refine ⟨⟨_, Tryd.func26, by rfl, by rfl⟩, ?_⟩
  intro args x hx H w vs hB hob htk hw hrel
  unfold F_Count at hx
  split at hx
  · rename_i s c
    cases hx
    cases hrel with
    | cons _ v _ vs hv hvs =>
      cases hvs with
      | cons _ v2 _ vs hv2 hvs =>
        cases hvs
        cases hv with
        | str _ hl =>
          cases hv2
          have := maxLen_le
          refine (Tryd.strings_Count_one ⟨s.toArray⟩ c w).mono ?_
          rintro e w' ⟨rfl, rfl⟩
          refine ⟨_, rfl, ⟨Below.refl _ _, Dr.of_eq rfl⟩, .int _ _ ?_⟩
          have h1 := List.count_le_length (a := c) (l := s)
          simp only [cntV]
          simp [Lit.wf, IntKind.min, IntKind.max, IntKind.signed, IntKind.bits]
          omega
  · cases hx

/-- The texts between which another one stands. -/
def joinV (l : List (List UInt8)) (sep : List UInt8) : List UInt8 := Lib.join l sep
def okJoin (l : List (List UInt8)) (sep : List UInt8) : Bool := decide (l.length ≤ 140737488355328) && decide ((joinV l sep).length ≤ 140737488355328)
@[simp] theorem okJoin_iff (l : List (List UInt8)) (sep : List UInt8) : okJoin l sep = true ↔ l.length ≤ 140737488355328 ∧ (joinV l sep).length ≤ 140737488355328 := by simp [okJoin]
noncomputable def F_Join : List PV → Tr PV
  | [.sl r _, .str sep] => Tr.chk (okR cS r) (Tr.chk (okJoin (unR cS r) sep) (.ret (.str (joinV (unR cS r) sep))))
  | _ => .fail
theorem relLL_S {H : Gh} {w : World} : ∀ {l : List (List UInt8)} {vss : List (List Value)}, RelLL H w (rOf cS l) vss → vss = l.map fun s => [Value.string ⟨s.toArray⟩]
  | [], _, h => by cases h; rfl
  | s :: l, _, h => by
    rw [rOf_cons] at h
    cases h with
    | cons _ v _ vs hv hvs =>
      have hv : RelL H w [.str s] v := hv
      cases hv with
      | cons _ u _ us hu hus =>
        cases hus
        cases hu
        rw [relLL_S hvs]
        rfl
theorem sim_Join {gl : Gl} (hgl : GlPow gl) : SimP Tryd.prog gl 25 fun args => (F_Join args).run := by
  refine ⟨⟨_, Tryd.func25, by rfl, by rfl⟩, ?_⟩
  intro args x hx H w vs hB hob htk hw hrel
  unfold F_Join at hx
  split at hx
  · rename_i r tg sep
    obtain ⟨h1, hx⟩ := Tr.chk_some hx
    obtain ⟨h2, hx⟩ := Tr.chk_some hx
    cases hx
    obtain ⟨l, rfl⟩ := okR_eq cS h1
    rw [unR_of] at h2 ⊢
    simp only [okJoin_iff] at h2
    cases hrel with
    | cons _ v _ vs hv hvs =>
      cases hvs with
      | cons _ v2 _ vs hv2 hvs =>
        cases hvs
        cases hv2 with
        | str _ hs =>
          cases hv with
          | sl p len cap k _ vss _ hl hcap hm hll hrow htag =>
            rw [rOf_len] at hl
            subst hl
            have hvss := relLL_S hll
            subst hvss
            cases l with
            | nil =>
              refine (Tryd.strings_Join_none p cap ⟨sep.toArray⟩ w).mono ?_
              rintro e w' ⟨rfl, rfl⟩
              exact ⟨_, rfl, ⟨Below.refl _ _, Dr.of_eq rfl⟩, .str _ (by simp [joinV, Lib.join_nil])⟩
            | cons s0 l0 =>
              obtain ⟨hk, a, ha, _⟩ := hrow 0 [.string ⟨s0.toArray⟩] rfl
              subst ha
              have hk : k = 1 := hk.symm
              subst hk
              have hcell : ∀ (j : Nat) (s : List UInt8), (s0 :: l0)[j]? = some s → w.cell? (a.add (j * 1)) = some (.string ⟨s.toArray⟩) ∧ (a.add (j * 1)).block < w.heap.size := fun j s hj => by
                obtain ⟨_, a', ha', hc⟩ := hrow j [.string ⟨s.toArray⟩] (by rw [List.getElem?_map, hj]; rfl)
                cases ha'
                have := hc 0 _ rfl
                simp only [Addr.add, if_true] at this ⊢
                exact ⟨this.2, this.1.1⟩
              have h00 := hcell 0 s0 rfl
              have hsp : a.spot = none := by
                have := World.cell?_spot h00.1
                simpa [Addr.add] using this
              obtain ⟨blk, off, spot⟩ := a
              subst hsp
              have hnn : l0.length + 1 = ((s0 :: l0).map fun s => (⟨s.toArray⟩ : ByteArray)).length := by simp
              have hcalls := Tryd.strings_Join blk off cap ((s0 :: l0).map fun s => ⟨s.toArray⟩) ⟨sep.toArray⟩ w (fun j x hj => by
                rw [List.getElem?_map] at hj
                obtain ⟨s, hs1, rfl⟩ := Option.map_eq_some_iff.1 hj
                have := (hcell j s hs1).1
                simp only [Nat.mul_one] at this
                by_cases hj0 : j = 0
                · subst hj0; simpa [Addr.add] using this
                · simpa [Addr.add, hj0] using this) (by simpa [Addr.add] using h00.2) (by simpa using h2.1) (by simpa using hcap) (by simpa [joinV, Function.comp_def] using h2.2)
              rw [← hnn] at hcalls
              refine hcalls.mono ?_
              rintro e w' ⟨rfl, hb⟩
              have e1 : (((s0 :: l0).map fun s => (⟨s.toArray⟩ : ByteArray)).map (·.data.toList)) = s0 :: l0 := by simp [Function.comp_def]
              rw [e1]
              exact ⟨_, rfl, ⟨hb, hgl.dr _ _⟩, .str _ (Nat.le_trans h2.2 (by decide))⟩
  · cases hx
end Go.Pv

set_option maxHeartbeats 4000000
set_option maxRecDepth 200000
set_option linter.unusedSimpArgs false
set_option linter.unusedVariables false
namespace Go.Pv
open Go Go.Proofs Go.RowKit

/-! ### pedigreeref01.whole -/
def numN : List UInt8 → Nat → Option Nat
  | [], a => some a
  | c :: l, a => if 48 ≤ c.toNat ∧ c.toNat ≤ 57 then numN l (a * 10 + (c.toNat - 48)) else none
def okNum (s : List UInt8) : Bool := (numN s 0).isSome
def numV (s : List UInt8) : Int := (((numN s 0).getD 0 : Nat) : Int)
theorem numN_lt : ∀ (l : List UInt8) (a k x : Nat), numN l a = some x → a < 10 ^ k → x < 10 ^ (k + l.length)
  | [], a, k, x, h, ha => by simp [numN] at h; subst h; simpa using ha
  | c :: l, a, k, x, h, ha => by
    unfold numN at h
    split at h
    · have := numN_lt l _ (k + 1) x h (by rw [Nat.pow_succ]; omega)
      simp only [List.length_cons]
      have e : k + (l.length + 1) = k + 1 + l.length := by omega
      rw [e]
      exact this
    · cases h
def d_whole : List PV → Store → Option (List UInt8 × Bool × Int × Int × Store)
  | [.str s, .bool m, .int .u64 n, .int .i64 i], σ => some (s, m, n, i, σ)
  | _, _ => none
def r_whole : List UInt8 × Bool × Int × Int × Store → Tr (PExit × List (Nat × PV) × Store)
  | (s, m, n, i, σ) => Tr.chk (iEq n 0) (Tr.chk (iEq i 0) (Tr.chk (iLe (sLen s) 19) (.ite (okNum s) (.ret (.exit 0, [(4, .bool m), (5, .int .u64 (numV s))], σ)) (.ret (.ret, [(2, .int .i64 0), (3, .bool false)], σ)))))
def L_whole : LpsT := fun r fr σ => if r = 8 then oracle 75 [0, 4, 5, 6] d_whole r_whole fr σ else .fail
noncomputable def c_whole : Code := loopN Tryd.f63 0
theorem loop_whole (gl : Gl) : ∀ vs σ a e out σ', d_whole vs σ = some a → (r_whole a).run = some (e, out, σ') → LDoes Tryd.prog gl c_whole (mk 75 ([0, 4, 5, 6].zip vs)) σ e (mk 75 out) σ' := by
  intro vs st a e out σ' hd hr
  unfold d_whole at hd
  split at hd
  · rename_i s m n i
    injection hd with hd
    subst hd
    obtain ⟨h1, q1⟩ := Tr.chk_some hr
    obtain ⟨h2, q2⟩ := Tr.chk_some q1
    obtain ⟨h3, q3⟩ := Tr.chk_some q2
    clear hr q1 q2
    simp at h1 h2 h3
    subst h1 h2
    have key : ∀ (k : Nat) (i : Int) (n : Nat), 0 ≤ i → i + k = s.length → n < 10 ^ i.toNat → numN (s.drop i.toNat) n = numN s 0 →
       LDoes Tryd.prog gl c_whole (mk 75 ([0, 4, 5, 6].zip [.str s, .bool m, .int .u64 (n : Int), .int .i64 i])) st e (mk 75 out) σ' := by
      intro k
      induction k with
      | zero =>
        intro i n h0 hi hn hf
        have e1 : s.drop i.toNat = [] := by apply List.drop_eq_nil_of_le; omega
        rw [e1] at hf
        simp [numN] at hf
        simp [okNum, numV, ← hf] at q3
        obtain ⟨rfl, rfl, rfl⟩ := q3
        refine LDoes.round tbT_ok (G := ofL []) gamOk_nil noMixed (L := fun _ _ _ => .fail) (loopOk_none (by kernel_rfl)) (by kernel_rfl) ?_
        refine Tr.all_as (Tr.ite (iLt i (sLen s))
            (Tr.ite (okIdx s i)
              (Tr.ite (iLt (sAt s i) 48)
                (Tr.ret
                  (PExit.ret, [3, 2, 39, 34, 27],
                    [PV.str s, PV.top, PV.int IntKind.i64 0, PV.bool false, PV.bool m, PV.int IntKind.u64 (Int.ofNat n), PV.int IntKind.i64 i, PV.top, PV.top, PV.top, PV.top, PV.top, PV.top, PV.top, PV.top,
                      PV.top, PV.top, PV.top, PV.top, PV.top, PV.top, PV.top, PV.top, PV.top, PV.int IntKind.i64 i, PV.str s, PV.int IntKind.i64 (sLen s), PV.bool true, PV.top, PV.top, PV.str s,
                      PV.int IntKind.i64 i, PV.int IntKind.u8 (sAt s i), PV.bool (iLt (sAt s i) 48), PV.bool true, PV.tup [], PV.tup [], PV.tup [], PV.tup [], PV.bool true, PV.top, PV.top, PV.top, PV.top,
                      PV.top, PV.top, PV.top, PV.top, PV.top, PV.top, PV.top, PV.top, PV.top, PV.top, PV.top, PV.top, PV.top, PV.top, PV.top, PV.top, PV.top, PV.top, PV.top, PV.top, PV.top, PV.top, PV.top,
                      PV.top, PV.top, PV.top, PV.top, PV.top, PV.top, PV.top, PV.top],
                    st))
                (Tr.ite (okIdx s i)
                  (Tr.ite (iLt 57 (sAt s i))
                    (Tr.ret
                      (PExit.ret, [3, 2, 39, 34, 27],
                        [PV.str s, PV.top, PV.int IntKind.i64 0, PV.bool false, PV.bool m, PV.int IntKind.u64 (Int.ofNat n), PV.int IntKind.i64 i, PV.top, PV.top, PV.top, PV.top, PV.top, PV.top, PV.top, PV.top,
                          PV.top, PV.top, PV.top, PV.top, PV.top, PV.top, PV.top, PV.top, PV.top, PV.int IntKind.i64 i, PV.str s, PV.int IntKind.i64 (sLen s), PV.bool true, PV.top, PV.top, PV.str s,
                          PV.int IntKind.i64 i, PV.int IntKind.u8 (sAt s i), PV.bool (iLt (sAt s i) 48), PV.bool false, PV.str s, PV.int IntKind.i64 i, PV.int IntKind.u8 (sAt s i), PV.bool (iLt 57 (sAt s i)),
                          PV.bool true, PV.top, PV.top, PV.top, PV.top, PV.top, PV.top, PV.top, PV.top, PV.top, PV.top, PV.top, PV.top, PV.top, PV.top, PV.top, PV.top, PV.top, PV.top, PV.top, PV.top, PV.top,
                          PV.top, PV.top, PV.top, PV.top, PV.top, PV.top, PV.top, PV.top, PV.top, PV.top, PV.top, PV.top, PV.top, PV.top],
                        st))
                    (Tr.ite (okIdx s i)
                      (Tr.ret
                        (PExit.normal, [39, 34, 27],
                          [PV.str s, PV.top, PV.top, PV.top, PV.bool m, PV.int IntKind.u64 (iAdd IntKind.u64 (iMul IntKind.u64 (Int.ofNat n) 10) (iWrap IntKind.u64 (iSub IntKind.u8 (sAt s i) 48))),
                            PV.int IntKind.i64 (iAdd IntKind.i64 i 1), PV.top, PV.top, PV.top, PV.top, PV.top, PV.top, PV.top, PV.top, PV.top, PV.top, PV.top, PV.top, PV.top, PV.top, PV.top, PV.top, PV.top,
                            PV.int IntKind.i64 i, PV.str s, PV.int IntKind.i64 (sLen s), PV.bool true, PV.int IntKind.i64 i, PV.int IntKind.i64 (iAdd IntKind.i64 i 1), PV.str s, PV.int IntKind.i64 i,
                            PV.int IntKind.u8 (sAt s i), PV.bool (iLt (sAt s i) 48), PV.bool false, PV.str s, PV.int IntKind.i64 i, PV.int IntKind.u8 (sAt s i), PV.bool (iLt 57 (sAt s i)), PV.bool false,
                            PV.int IntKind.u64 (Int.ofNat n), PV.int IntKind.u64 (iMul IntKind.u64 (Int.ofNat n) 10), PV.str s, PV.int IntKind.i64 i, PV.int IntKind.u8 (sAt s i),
                            PV.int IntKind.u8 (iSub IntKind.u8 (sAt s i) 48), PV.int IntKind.u64 (iWrap IntKind.u64 (iSub IntKind.u8 (sAt s i) 48)),
                            PV.int IntKind.u64 (iAdd IntKind.u64 (iMul IntKind.u64 (Int.ofNat n) 10) (iWrap IntKind.u64 (iSub IntKind.u8 (sAt s i) 48))), PV.top, PV.top, PV.top, PV.top, PV.top, PV.top, PV.top,
                            PV.top, PV.top, PV.top, PV.top, PV.top, PV.top, PV.top, PV.top, PV.top, PV.top, PV.top, PV.top, PV.top, PV.top, PV.top, PV.top, PV.top, PV.top, PV.top, PV.top],
                          st))
                      Tr.fail))
                  Tr.fail))
              Tr.fail)
            (Tr.ret
              (PExit.exit 0, [27],
                [PV.str s, PV.top, PV.top, PV.top, PV.bool m, PV.int IntKind.u64 (Int.ofNat n), PV.int IntKind.i64 i, PV.top, PV.top, PV.top, PV.top, PV.top, PV.top, PV.top, PV.top, PV.top, PV.top, PV.top,
                  PV.top, PV.top, PV.top, PV.top, PV.top, PV.top, PV.int IntKind.i64 i, PV.str s, PV.int IntKind.i64 (sLen s), PV.bool false, PV.top, PV.top, PV.top, PV.top, PV.top, PV.top, PV.top, PV.top,
                  PV.top, PV.top, PV.top, PV.top, PV.top, PV.top, PV.top, PV.top, PV.top, PV.top, PV.top, PV.top, PV.top, PV.top, PV.top, PV.top, PV.top, PV.top, PV.top, PV.top, PV.top, PV.top, PV.top, PV.top,
                  PV.top, PV.top, PV.top, PV.top, PV.top, PV.top, PV.top, PV.top, PV.top, PV.top, PV.top, PV.top, PV.top, PV.top, PV.top],
                st))) (by kernel_rfl) ?_
        exact Tr.all_f (by simp; omega) ⟨rfl, by simp [Weak, mk, mkFrom, look], rfl⟩
      | succ k ih =>
        intro i n h0 hi hn hf
        obtain ⟨v, hv⟩ := get_lt (l := s) (i := i.toNat) (by omega)
        rw [drop_of_get hv, numN] at hf
        have hv8 := v.toNat_lt
        have e2 : (i + 1).toNat = i.toNat + 1 := by omega
        have hpow : 10 ^ (i.toNat + 1) ≤ 10 ^ 19 := Nat.pow_le_pow_right (by omega) (by omega)
        rw [Nat.pow_succ] at hpow
        refine LDoes.round tbT_ok (G := ofL []) gamOk_nil noMixed (L := fun _ _ _ => .fail) (loopOk_none (by kernel_rfl)) (by kernel_rfl) ?_
        refine Tr.all_as (Tr.ite (iLt i (sLen s))
            (Tr.ite (okIdx s i)
              (Tr.ite (iLt (sAt s i) 48)
                (Tr.ret
                  (PExit.ret, [3, 2, 39, 34, 27],
                    [PV.str s, PV.top, PV.int IntKind.i64 0, PV.bool false, PV.bool m, PV.int IntKind.u64 (Int.ofNat n), PV.int IntKind.i64 i, PV.top, PV.top, PV.top, PV.top, PV.top, PV.top, PV.top, PV.top,
                      PV.top, PV.top, PV.top, PV.top, PV.top, PV.top, PV.top, PV.top, PV.top, PV.int IntKind.i64 i, PV.str s, PV.int IntKind.i64 (sLen s), PV.bool true, PV.top, PV.top, PV.str s,
                      PV.int IntKind.i64 i, PV.int IntKind.u8 (sAt s i), PV.bool (iLt (sAt s i) 48), PV.bool true, PV.tup [], PV.tup [], PV.tup [], PV.tup [], PV.bool true, PV.top, PV.top, PV.top, PV.top,
                      PV.top, PV.top, PV.top, PV.top, PV.top, PV.top, PV.top, PV.top, PV.top, PV.top, PV.top, PV.top, PV.top, PV.top, PV.top, PV.top, PV.top, PV.top, PV.top, PV.top, PV.top, PV.top, PV.top,
                      PV.top, PV.top, PV.top, PV.top, PV.top, PV.top, PV.top, PV.top],
                    st))
                (Tr.ite (okIdx s i)
                  (Tr.ite (iLt 57 (sAt s i))
                    (Tr.ret
                      (PExit.ret, [3, 2, 39, 34, 27],
                        [PV.str s, PV.top, PV.int IntKind.i64 0, PV.bool false, PV.bool m, PV.int IntKind.u64 (Int.ofNat n), PV.int IntKind.i64 i, PV.top, PV.top, PV.top, PV.top, PV.top, PV.top, PV.top, PV.top,
                          PV.top, PV.top, PV.top, PV.top, PV.top, PV.top, PV.top, PV.top, PV.top, PV.int IntKind.i64 i, PV.str s, PV.int IntKind.i64 (sLen s), PV.bool true, PV.top, PV.top, PV.str s,
                          PV.int IntKind.i64 i, PV.int IntKind.u8 (sAt s i), PV.bool (iLt (sAt s i) 48), PV.bool false, PV.str s, PV.int IntKind.i64 i, PV.int IntKind.u8 (sAt s i), PV.bool (iLt 57 (sAt s i)),
                          PV.bool true, PV.top, PV.top, PV.top, PV.top, PV.top, PV.top, PV.top, PV.top, PV.top, PV.top, PV.top, PV.top, PV.top, PV.top, PV.top, PV.top, PV.top, PV.top, PV.top, PV.top, PV.top,
                          PV.top, PV.top, PV.top, PV.top, PV.top, PV.top, PV.top, PV.top, PV.top, PV.top, PV.top, PV.top, PV.top, PV.top],
                        st))
                    (Tr.ite (okIdx s i)
                      (Tr.ret
                        (PExit.normal, [39, 34, 27],
                          [PV.str s, PV.top, PV.top, PV.top, PV.bool m, PV.int IntKind.u64 (iAdd IntKind.u64 (iMul IntKind.u64 (Int.ofNat n) 10) (iWrap IntKind.u64 (iSub IntKind.u8 (sAt s i) 48))),
                            PV.int IntKind.i64 (iAdd IntKind.i64 i 1), PV.top, PV.top, PV.top, PV.top, PV.top, PV.top, PV.top, PV.top, PV.top, PV.top, PV.top, PV.top, PV.top, PV.top, PV.top, PV.top, PV.top,
                            PV.int IntKind.i64 i, PV.str s, PV.int IntKind.i64 (sLen s), PV.bool true, PV.int IntKind.i64 i, PV.int IntKind.i64 (iAdd IntKind.i64 i 1), PV.str s, PV.int IntKind.i64 i,
                            PV.int IntKind.u8 (sAt s i), PV.bool (iLt (sAt s i) 48), PV.bool false, PV.str s, PV.int IntKind.i64 i, PV.int IntKind.u8 (sAt s i), PV.bool (iLt 57 (sAt s i)), PV.bool false,
                            PV.int IntKind.u64 (Int.ofNat n), PV.int IntKind.u64 (iMul IntKind.u64 (Int.ofNat n) 10), PV.str s, PV.int IntKind.i64 i, PV.int IntKind.u8 (sAt s i),
                            PV.int IntKind.u8 (iSub IntKind.u8 (sAt s i) 48), PV.int IntKind.u64 (iWrap IntKind.u64 (iSub IntKind.u8 (sAt s i) 48)),
                            PV.int IntKind.u64 (iAdd IntKind.u64 (iMul IntKind.u64 (Int.ofNat n) 10) (iWrap IntKind.u64 (iSub IntKind.u8 (sAt s i) 48))), PV.top, PV.top, PV.top, PV.top, PV.top, PV.top, PV.top,
                            PV.top, PV.top, PV.top, PV.top, PV.top, PV.top, PV.top, PV.top, PV.top, PV.top, PV.top, PV.top, PV.top, PV.top, PV.top, PV.top, PV.top, PV.top, PV.top, PV.top],
                          st))
                      Tr.fail))
                  Tr.fail))
              Tr.fail)
            (Tr.ret
              (PExit.exit 0, [27],
                [PV.str s, PV.top, PV.top, PV.top, PV.bool m, PV.int IntKind.u64 (Int.ofNat n), PV.int IntKind.i64 i, PV.top, PV.top, PV.top, PV.top, PV.top, PV.top, PV.top, PV.top, PV.top, PV.top, PV.top,
                  PV.top, PV.top, PV.top, PV.top, PV.top, PV.top, PV.int IntKind.i64 i, PV.str s, PV.int IntKind.i64 (sLen s), PV.bool false, PV.top, PV.top, PV.top, PV.top, PV.top, PV.top, PV.top, PV.top,
                  PV.top, PV.top, PV.top, PV.top, PV.top, PV.top, PV.top, PV.top, PV.top, PV.top, PV.top, PV.top, PV.top, PV.top, PV.top, PV.top, PV.top, PV.top, PV.top, PV.top, PV.top, PV.top, PV.top, PV.top,
                  PV.top, PV.top, PV.top, PV.top, PV.top, PV.top, PV.top, PV.top, PV.top, PV.top, PV.top, PV.top, PV.top, PV.top, PV.top],
                st))) (by kernel_rfl) ?_
        rw [sAt_get hv]
        have hi1 := okIdx_get h0 hv
        refine Tr.all_t (by simp; omega) <| Tr.all_t hi1 ?_
        by_cases hc : 48 ≤ v.toNat ∧ v.toNat ≤ 57
        · rw [if_pos hc] at hf
          have w1 : iSub .u8 (v.toNat : Int) 48 = v.toNat - 48 := by unfold iSub; rw [wrap_u8 (by omega)]
          have w2 : iWrap .u64 (v.toNat - 48 : Int) = v.toNat - 48 := wrap_u64 (by omega)
          have w3 : iMul .u64 (Int.ofNat n) 10 = n * 10 := by unfold iMul; rw [wrap_u64 (by simp; omega)]; rfl
          have w4 : iAdd .u64 (n * 10 : Int) (v.toNat - 48) = n * 10 + (v.toNat - 48) := by unfold iAdd; rw [wrap_u64 (by omega)]
          have w5 : iAdd .i64 i 1 = i + 1 := wrap_i64 (by omega)
          have w6 : ((n * 10 + (v.toNat - 48) : Nat) : Int) = (n : Int) * 10 + (v.toNat - 48) := by omega
          refine Tr.all_f (by simp; omega) <| Tr.all_t hi1 <| Tr.all_f (by simp; omega) <| Tr.all_t hi1 ?_
          rw [w1, w2, w3, w4, w5]
          refine LDoes.into ?_ (ih (i + 1) (n * 10 + (v.toNat - 48)) (by omega) (by omega) (by rw [e2, Nat.pow_succ]; omega) (by rw [e2]; exact hf))
          rw [w6]
          simp [Weak, mk, mkFrom, look]
        · rw [if_neg hc] at hf
          simp [okNum, numV, ← hf] at q3
          obtain ⟨rfl, rfl, rfl⟩ := q3
          by_cases hc1 : v.toNat < 48
          · exact Tr.all_t (by simp; omega) ⟨rfl, by simp [Weak, mk, mkFrom, look], rfl⟩
          · refine Tr.all_f (by simp; omega) <| Tr.all_t hi1 <| Tr.all_t (by simp; omega) ⟨rfl, by simp [Weak, mk, mkFrom, look], rfl⟩
    exact key s.length 0 0 (by omega) (by omega) (by simp) (by simp)
  · cases hd
def whoN (m : Bool) (t : List UInt8) : Option Int :=
  if t = [] ∨ 19 < t.length then none
  else match numN t 0 with
    | none => none
    | some n => if (m = true ∧ 9223372036854775808 < n) ∨ (m = false ∧ 9223372036854775807 < n) then none else some (if m then -(n : Int) else n)
def whoO (s : List UInt8) : Option Int := if s.head? = some 45 then whoN true (s.drop 1) else whoN false s
def okWho (s : List UInt8) : Bool := (whoO s).isSome
def whoV (s : List UInt8) : Int := (whoO s).getD 0
def F_whole : List PV → Tr PV
  | [.str s] => Tr.chk (okLen s) (.ret (.tup [.int .i64 (whoV s), .bool (okWho s)]))
  | _ => .fail
theorem sim_whole (gl : Gl) : SimP Tryd.prog gl 63 fun args => (F_whole args).run := by
  refine SimP.of_tree (G := ofL []) (L := L_whole) tbT_ok gamOk_nil noMixed Tryd.func63 rfl (by rfl) (by kernel_rfl) (loopOk_one (r := 8) (c1 := c_whole) (by kernel_rfl) ?_) ?_
  · intro fr σ e fr' σ' hh
    simp only [lps, L_whole, if_true] at hh
    exact oracle_ok (loop_whole gl) fr σ e fr' σ' hh
  intro args x h hr
  unfold F_whole at h
  split at h
  · rename_i s
    obtain ⟨h1, h2⟩ := Tr.chk_some h
    simp at h1
    cases h2
    refine Tr.run_as (Tr.ite (sNe s [])
        (Tr.ite (okIdx s 0)
          (Tr.ite (iEq (sAt s 0) 45)
            (Tr.ite (okSub (okPos 1) true (nNat 1) (nLen s) (nLen s))
              (Tr.ite (sEq (sSub s (nNat 1) (nLen s)) []) (Tr.ret (PV.tup [PV.int IntKind.i64 0, PV.bool false]))
                (Tr.ite (iLt 19 (sLen (sSub s (nNat 1) (nLen s)))) (Tr.ret (PV.tup [PV.int IntKind.i64 0, PV.bool false]))
                  (Tr.ite (iEq 0 0)
                    (Tr.ite (iEq 0 0)
                      (Tr.ite (iLe (sLen (sSub s (nNat 1) (nLen s))) 19)
                        (Tr.ite (okNum (sSub s (nNat 1) (nLen s)))
                          (Tr.ite (iEq (sAt s 0) 45)
                            (Tr.ite (iLt 9223372036854775808 (numV (sSub s (nNat 1) (nLen s)))) (Tr.ret (PV.tup [PV.int IntKind.i64 0, PV.bool false]))
                              (Tr.ite (bNot (iEq (sAt s 0) 45))
                                (Tr.ite (iLt 9223372036854775807 (numV (sSub s (nNat 1) (nLen s)))) (Tr.ret (PV.tup [PV.int IntKind.i64 0, PV.bool false]))
                                  (Tr.ite (iEq (sAt s 0) 45)
                                    (Tr.ite (iLt 0 (numV (sSub s (nNat 1) (nLen s))))
                                      (Tr.ret
                                        (PV.tup [PV.int IntKind.i64 (iSub IntKind.i64 (iSub IntKind.i64 0 (iWrap IntKind.i64 (iSub IntKind.u64 (numV (sSub s (nNat 1) (nLen s))) 1))) 1), PV.bool true]))
                                      (Tr.ret (PV.tup [PV.int IntKind.i64 (iWrap IntKind.i64 (numV (sSub s (nNat 1) (nLen s)))), PV.bool true])))
                                    (Tr.ret (PV.tup [PV.int IntKind.i64 (iWrap IntKind.i64 (numV (sSub s (nNat 1) (nLen s)))), PV.bool true]))))
                                (Tr.ite (iEq (sAt s 0) 45)
                                  (Tr.ite (iLt 0 (numV (sSub s (nNat 1) (nLen s))))
                                    (Tr.ret (PV.tup [PV.int IntKind.i64 (iSub IntKind.i64 (iSub IntKind.i64 0 (iWrap IntKind.i64 (iSub IntKind.u64 (numV (sSub s (nNat 1) (nLen s))) 1))) 1), PV.bool true]))
                                    (Tr.ret (PV.tup [PV.int IntKind.i64 (iWrap IntKind.i64 (numV (sSub s (nNat 1) (nLen s)))), PV.bool true])))
                                  (Tr.ret (PV.tup [PV.int IntKind.i64 (iWrap IntKind.i64 (numV (sSub s (nNat 1) (nLen s)))), PV.bool true])))))
                            (Tr.ite (bNot (iEq (sAt s 0) 45))
                              (Tr.ite (iLt 9223372036854775807 (numV (sSub s (nNat 1) (nLen s)))) (Tr.ret (PV.tup [PV.int IntKind.i64 0, PV.bool false]))
                                (Tr.ite (iEq (sAt s 0) 45)
                                  (Tr.ite (iLt 0 (numV (sSub s (nNat 1) (nLen s))))
                                    (Tr.ret (PV.tup [PV.int IntKind.i64 (iSub IntKind.i64 (iSub IntKind.i64 0 (iWrap IntKind.i64 (iSub IntKind.u64 (numV (sSub s (nNat 1) (nLen s))) 1))) 1), PV.bool true]))
                                    (Tr.ret (PV.tup [PV.int IntKind.i64 (iWrap IntKind.i64 (numV (sSub s (nNat 1) (nLen s)))), PV.bool true])))
                                  (Tr.ret (PV.tup [PV.int IntKind.i64 (iWrap IntKind.i64 (numV (sSub s (nNat 1) (nLen s)))), PV.bool true]))))
                              (Tr.ite (iEq (sAt s 0) 45)
                                (Tr.ite (iLt 0 (numV (sSub s (nNat 1) (nLen s))))
                                  (Tr.ret (PV.tup [PV.int IntKind.i64 (iSub IntKind.i64 (iSub IntKind.i64 0 (iWrap IntKind.i64 (iSub IntKind.u64 (numV (sSub s (nNat 1) (nLen s))) 1))) 1), PV.bool true]))
                                  (Tr.ret (PV.tup [PV.int IntKind.i64 (iWrap IntKind.i64 (numV (sSub s (nNat 1) (nLen s)))), PV.bool true])))
                                (Tr.ret (PV.tup [PV.int IntKind.i64 (iWrap IntKind.i64 (numV (sSub s (nNat 1) (nLen s)))), PV.bool true])))))
                          (Tr.ret (PV.tup [PV.int IntKind.i64 0, PV.bool false])))
                        Tr.fail)
                      Tr.fail)
                    Tr.fail)))
              Tr.fail)
            (Tr.ite (sEq s []) (Tr.ret (PV.tup [PV.int IntKind.i64 0, PV.bool false]))
              (Tr.ite (iLt 19 (sLen s)) (Tr.ret (PV.tup [PV.int IntKind.i64 0, PV.bool false]))
                (Tr.ite (iEq 0 0)
                  (Tr.ite (iEq 0 0)
                    (Tr.ite (iLe (sLen s) 19)
                      (Tr.ite (okNum s)
                        (Tr.ite (iEq (sAt s 0) 45)
                          (Tr.ite (iLt 9223372036854775808 (numV s)) (Tr.ret (PV.tup [PV.int IntKind.i64 0, PV.bool false]))
                            (Tr.ite (bNot (iEq (sAt s 0) 45))
                              (Tr.ite (iLt 9223372036854775807 (numV s)) (Tr.ret (PV.tup [PV.int IntKind.i64 0, PV.bool false]))
                                (Tr.ite (iEq (sAt s 0) 45)
                                  (Tr.ite (iLt 0 (numV s)) (Tr.ret (PV.tup [PV.int IntKind.i64 (iSub IntKind.i64 (iSub IntKind.i64 0 (iWrap IntKind.i64 (iSub IntKind.u64 (numV s) 1))) 1), PV.bool true]))
                                    (Tr.ret (PV.tup [PV.int IntKind.i64 (iWrap IntKind.i64 (numV s)), PV.bool true])))
                                  (Tr.ret (PV.tup [PV.int IntKind.i64 (iWrap IntKind.i64 (numV s)), PV.bool true]))))
                              (Tr.ite (iEq (sAt s 0) 45)
                                (Tr.ite (iLt 0 (numV s)) (Tr.ret (PV.tup [PV.int IntKind.i64 (iSub IntKind.i64 (iSub IntKind.i64 0 (iWrap IntKind.i64 (iSub IntKind.u64 (numV s) 1))) 1), PV.bool true]))
                                  (Tr.ret (PV.tup [PV.int IntKind.i64 (iWrap IntKind.i64 (numV s)), PV.bool true])))
                                (Tr.ret (PV.tup [PV.int IntKind.i64 (iWrap IntKind.i64 (numV s)), PV.bool true])))))
                          (Tr.ite (bNot (iEq (sAt s 0) 45))
                            (Tr.ite (iLt 9223372036854775807 (numV s)) (Tr.ret (PV.tup [PV.int IntKind.i64 0, PV.bool false]))
                              (Tr.ite (iEq (sAt s 0) 45)
                                (Tr.ite (iLt 0 (numV s)) (Tr.ret (PV.tup [PV.int IntKind.i64 (iSub IntKind.i64 (iSub IntKind.i64 0 (iWrap IntKind.i64 (iSub IntKind.u64 (numV s) 1))) 1), PV.bool true]))
                                  (Tr.ret (PV.tup [PV.int IntKind.i64 (iWrap IntKind.i64 (numV s)), PV.bool true])))
                                (Tr.ret (PV.tup [PV.int IntKind.i64 (iWrap IntKind.i64 (numV s)), PV.bool true]))))
                            (Tr.ite (iEq (sAt s 0) 45)
                              (Tr.ite (iLt 0 (numV s)) (Tr.ret (PV.tup [PV.int IntKind.i64 (iSub IntKind.i64 (iSub IntKind.i64 0 (iWrap IntKind.i64 (iSub IntKind.u64 (numV s) 1))) 1), PV.bool true]))
                                (Tr.ret (PV.tup [PV.int IntKind.i64 (iWrap IntKind.i64 (numV s)), PV.bool true])))
                              (Tr.ret (PV.tup [PV.int IntKind.i64 (iWrap IntKind.i64 (numV s)), PV.bool true])))))
                        (Tr.ret (PV.tup [PV.int IntKind.i64 0, PV.bool false])))
                      Tr.fail)
                    Tr.fail)
                  Tr.fail))))
          Tr.fail)
        (Tr.ite (sEq s []) (Tr.ret (PV.tup [PV.int IntKind.i64 0, PV.bool false]))
          (Tr.ite (iLt 19 (sLen s)) (Tr.ret (PV.tup [PV.int IntKind.i64 0, PV.bool false]))
            (Tr.ite (iEq 0 0)
              (Tr.ite (iEq 0 0)
                (Tr.ite (iLe (sLen s) 19)
                  (Tr.ite (okNum s)
                    (Tr.ite false
                      (Tr.ite (iLt 9223372036854775808 (numV s)) (Tr.ret (PV.tup [PV.int IntKind.i64 0, PV.bool false]))
                        (Tr.ite true
                          (Tr.ite (iLt 9223372036854775807 (numV s)) (Tr.ret (PV.tup [PV.int IntKind.i64 0, PV.bool false]))
                            (Tr.ite false
                              (Tr.ite (iLt 0 (numV s)) (Tr.ret (PV.tup [PV.int IntKind.i64 (iSub IntKind.i64 (iSub IntKind.i64 0 (iWrap IntKind.i64 (iSub IntKind.u64 (numV s) 1))) 1), PV.bool true]))
                                (Tr.ret (PV.tup [PV.int IntKind.i64 (iWrap IntKind.i64 (numV s)), PV.bool true])))
                              (Tr.ret (PV.tup [PV.int IntKind.i64 (iWrap IntKind.i64 (numV s)), PV.bool true]))))
                          (Tr.ite false
                            (Tr.ite (iLt 0 (numV s)) (Tr.ret (PV.tup [PV.int IntKind.i64 (iSub IntKind.i64 (iSub IntKind.i64 0 (iWrap IntKind.i64 (iSub IntKind.u64 (numV s) 1))) 1), PV.bool true]))
                              (Tr.ret (PV.tup [PV.int IntKind.i64 (iWrap IntKind.i64 (numV s)), PV.bool true])))
                            (Tr.ret (PV.tup [PV.int IntKind.i64 (iWrap IntKind.i64 (numV s)), PV.bool true])))))
                      (Tr.ite true
                        (Tr.ite (iLt 9223372036854775807 (numV s)) (Tr.ret (PV.tup [PV.int IntKind.i64 0, PV.bool false]))
                          (Tr.ite false
                            (Tr.ite (iLt 0 (numV s)) (Tr.ret (PV.tup [PV.int IntKind.i64 (iSub IntKind.i64 (iSub IntKind.i64 0 (iWrap IntKind.i64 (iSub IntKind.u64 (numV s) 1))) 1), PV.bool true]))
                              (Tr.ret (PV.tup [PV.int IntKind.i64 (iWrap IntKind.i64 (numV s)), PV.bool true])))
                            (Tr.ret (PV.tup [PV.int IntKind.i64 (iWrap IntKind.i64 (numV s)), PV.bool true]))))
                        (Tr.ite false
                          (Tr.ite (iLt 0 (numV s)) (Tr.ret (PV.tup [PV.int IntKind.i64 (iSub IntKind.i64 (iSub IntKind.i64 0 (iWrap IntKind.i64 (iSub IntKind.u64 (numV s) 1))) 1), PV.bool true]))
                            (Tr.ret (PV.tup [PV.int IntKind.i64 (iWrap IntKind.i64 (numV s)), PV.bool true])))
                          (Tr.ret (PV.tup [PV.int IntKind.i64 (iWrap IntKind.i64 (numV s)), PV.bool true])))))
                    (Tr.ret (PV.tup [PV.int IntKind.i64 0, PV.bool false])))
                  Tr.fail)
                Tr.fail)
              Tr.fail)))) (by kernel_rfl) ?_
    have hnum : ∀ t : List UInt8, t.length ≤ 19 → ∀ n, numN t 0 = some n → n < 10000000000000000000 := by
      intro t ht n hn
      have h2 := numN_lt t 0 0 n hn (by simp)
      have h3 : 10 ^ (0 + t.length) ≤ 10 ^ 19 := Nat.pow_le_pow_right (by omega) (by omega)
      have : (10 : Nat) ^ 19 = 10000000000000000000 := by decide
      omega
    cases s with
    | nil => simp [okWho, whoV, whoO, whoN]
    | cons c t =>
      have e1 : sSub (c :: t) (nNat 1) (nLen (c :: t)) = t := by simp
      have i0 : okIdx (c :: t) 0 = true := by simp
      have i1 : okSub (okPos 1) true (nNat 1) (nLen (c :: t)) (nLen (c :: t)) = true := by simp
      have n0 : sNe (c :: t) [] = true := by simp
      have n1 : sEq (c :: t) [] = false := by simp
      have e0 : sAt (c :: t) 0 = c.toNat := by simp
      rw [i0, n0, n1, i1, e0, e1]
      by_cases hc : c = 45
      · have hb : iEq (c.toNat : Int) 45 = true := iEq_byte_eq (k := 45) hc
        have hw : whoO (c :: t) = whoN true t := by simp [whoO, hc]
        rw [hb]
        by_cases ht : t = []
        · subst ht
          simp [okWho, whoV, hw, whoN]
        · by_cases hl : 19 < t.length
          · have l1 : iLt 19 (sLen t) = true := by simp; omega
            have l0 : sEq t [] = false := by simp [ht]
            rw [l0, l1]
            simp [okWho, whoV, hw, whoN, ht, hl]
          · have l1 : iLt 19 (sLen t) = false := by simp; omega
            have l0 : sEq t [] = false := by simp [ht]
            have l2 : iLe (sLen t) 19 = true := by simp; omega
            rw [l0, l1, l2]
            cases hn : numN t 0 with
            | none =>
              have k1 : okNum t = false := by simp [okNum, hn]
              rw [k1]
              simp [okWho, whoV, hw, whoN, ht, hl, hn]
            | some n =>
              have hb := hnum t (by omega) n hn
              have k1 : okNum t = true := by simp [okNum, hn]
              have k2 : numV t = n := by simp [numV, hn]
              rw [k1, k2]
              by_cases b1 : 9223372036854775808 < n
              · have b2 : iLt 9223372036854775808 (n : Int) = true := by simp; omega
                rw [b2]
                simp [okWho, whoV, hw, whoN, ht, hl, hn, b1]
              · have b2 : iLt 9223372036854775808 (n : Int) = false := by simp; omega
                rw [b2]
                have o1 : okWho (c :: t) = true := by simp [okWho, hw, whoN, ht, hl, hn, b1]
                have o2 : whoV (c :: t) = -(n : Int) := by simp [whoV, hw, whoN, ht, hl, hn, b1]
                by_cases b3 : 0 < n
                · have b4 : iLt 0 (n : Int) = true := by simp; omega
                  have w1 : iSub .u64 (n : Int) 1 = n - 1 := wrap_u64 (by omega)
                  have w2 : iWrap .i64 ((n : Int) - 1) = n - 1 := wrap_i64 (by omega)
                  have w3 : iSub .i64 0 ((n : Int) - 1) = -(n - 1) := by unfold iSub; rw [wrap_i64 (by omega)]; omega
                  have w4 : iSub .i64 (-((n : Int) - 1)) 1 = -n := by unfold iSub; rw [wrap_i64 (by omega)]; omega
                  rw [b4, w1, w2, w3, w4, o1, o2]
                  simp
                · have b4 : iLt 0 (n : Int) = false := by simp; omega
                  have : n = 0 := by omega
                  subst this
                  rw [b4, o1, o2]
                  have w5 : iWrap .i64 ((0 : Nat) : Int) = 0 := by decide
                  rw [w5]
                  simp
      · have hb : iEq (c.toNat : Int) 45 = false := iEq_byte_ne (k := 45) hc
        have hw : whoO (c :: t) = whoN false (c :: t) := by simp [whoO, hc]
        rw [hb]
        generalize hs : c :: t = s at *
        have ht : s ≠ [] := by rw [← hs]; simp
        by_cases hl : 19 < s.length
        · have l1 : iLt 19 (sLen s) = true := by simp; omega
          rw [l1]
          simp [okWho, whoV, hw, whoN, ht, hl]
        · have l1 : iLt 19 (sLen s) = false := by simp; omega
          have l2 : iLe (sLen s) 19 = true := by simp; omega
          rw [l1, l2]
          cases hn : numN s 0 with
          | none =>
            have k1 : okNum s = false := by simp [okNum, hn]
            rw [k1]
            simp [okWho, whoV, hw, whoN, ht, hl, hn]
          | some n =>
            have hb := hnum s (by omega) n hn
            have k1 : okNum s = true := by simp [okNum, hn]
            have k2 : numV s = n := by simp [numV, hn]
            rw [k1, k2]
            by_cases b1 : 9223372036854775807 < n
            · have b2 : iLt 9223372036854775807 (n : Int) = true := by simp; omega
              rw [b2]
              simp [okWho, whoV, hw, whoN, ht, hl, hn, b1]
            · have b2 : iLt 9223372036854775807 (n : Int) = false := by simp; omega
              have o1 : okWho s = true := by simp [okWho, hw, whoN, ht, hl, hn, b1]
              have o2 : whoV s = (n : Int) := by simp [whoV, hw, whoN, ht, hl, hn, b1]
              have w2 : iWrap .i64 (n : Int) = n := wrap_i64 (by omega)
              rw [b2, w2, o1, o2]
              simp
  · cases h
end Go.Pv
