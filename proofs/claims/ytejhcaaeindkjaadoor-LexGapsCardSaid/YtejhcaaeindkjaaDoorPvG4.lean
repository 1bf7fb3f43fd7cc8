/- Part 4 of the proof: pure values for the machine's values, what functions compute over them, and laws of what is computed. Conditions: none beyond each theorem's own premises. -/
import Derived.Test.YtejhcaaeindkjaaDoorPvG3
set_option maxHeartbeats 4000000
set_option maxRecDepth 200000
set_option linter.unusedSimpArgs false
set_option linter.unusedVariables false
namespace Go.Pv
open Go Go.Proofs Go.RowKit

/-! ### pedigreeref01.symbol -/
def hexOk : List UInt8 → Bool
  | h1 :: h2 :: _ => decide (0 ≤ rdigV h1.toNat) && decide (0 ≤ rdigV h2.toNat)
  | _ => false
def hexW : List UInt8 → UInt8
  | h1 :: h2 :: _ => UInt8.ofNat (iWrap .u8 (rdigV h1.toNat * 16 + rdigV h2.toNat)).toNat
  | _ => 0
/-- What stands first: the end, a fault, or a byte's text of k bytes. -/
inductive RS where
  | stop
  | bad
  | one (x : UInt8) (k : Nat)
def rS : List UInt8 → RS
  | [] => .stop
  | c :: t => if c = 34 then .stop else if c ≠ 92 then .one c 1 else
    match t with
    | [] => .bad
    | e :: u => if e = 110 then .one 10 2 else if e = 116 then .one 9 2 else if e = 120 ∧ hexOk u = true then .one (hexW u) 4 else .one e 2
theorem rS_k {r : List UInt8} {x : UInt8} {k : Nat} (h : rS r = .one x k) : 1 ≤ k ∧ k ≤ r.length := by
  unfold rS at h
  split at h
  · cases h
  · rename_i c t
    split at h
    · cases h
    · split at h
      · cases h; simp
      · split at h
        · cases h
        · rename_i e u
          split at h
          · cases h; simp
          · split at h
            · cases h; simp
            · split at h
              · rename_i hx
                cases h
                have := hx.2
                unfold hexOk at this
                split at this
                · simp
                · cases this
              · cases h; simp
/-- What stands ahead of the quote, and the rest. -/
def rP (r : List UInt8) : Option (List UInt8 × List UInt8) := match h : rS r with
  | .stop => some ([], r)
  | .bad => none
  | .one x k => (rP (r.drop k)).map fun p => (x :: p.1, p.2)
  termination_by r.length
  decreasing_by have := rS_k h; simp; omega
def rL (r : List UInt8) : Nat := match h : rS r with
  | .stop => 0
  | .bad => 0
  | .one x k => rL (r.drop k) + 1
  termination_by r.length
  decreasing_by have := rS_k h; simp; omega
theorem rP_stop {r : List UInt8} (h : rS r = .stop) : rP r = some ([], r) := by rw [rP.eq_def]; split <;> simp_all
theorem rP_bad {r : List UInt8} (h : rS r = .bad) : rP r = none := by rw [rP.eq_def]; split <;> simp_all
theorem rP_one {r : List UInt8} {x : UInt8} {k : Nat} (h : rS r = .one x k) : rP r = (rP (r.drop k)).map fun p => (x :: p.1, p.2) := by rw [rP.eq_def]; split <;> simp_all
theorem rL_bad {r : List UInt8} (h : rS r = .bad) : rL r = 0 := by rw [rL.eq_def]; split <;> simp_all
theorem rL_one {r : List UInt8} {x : UInt8} {k : Nat} (h : rS r = .one x k) : rL r = rL (r.drop k) + 1 := by rw [rL.eq_def]; split <;> simp_all
def okRP (s : List UInt8) : Bool := (rP (s.drop 1)).isSome
def rpB (s : List UInt8) : List UInt8 := match rP (s.drop 1) with | some p => p.1 | none => []
def rpI (s : List UInt8) : Int := match rP (s.drop 1) with | some p => (s.length : Int) - p.2.length | none => 0
def rpL (s : List UInt8) : Nat := rL (s.drop 1)
def d_RSym : List PV → Store → Option (List UInt8 × Int)
  | [.str s, .sl [] .full, .int .i64 i], ⟨[], [], []⟩ => some (s, i)
  | _, _ => none
def r_RSym : List UInt8 × Int → Tr (PExit × List (Nat × PV) × Store)
  | (s, i) => Tr.chk (iEq i 1) (Tr.chk (okLen s) (Tr.chk (iLe 1 (sLen s)) (.ite (okRP s)
      (.ite (sEq (rpB s) []) (.ret (.exit 0, [(0, .str s), (4, .sl [] .full), (5, .int .i64 (rpI s))], ⟨[], [], []⟩)) (.ret (.exit 0, [(0, .str s), (4, .sl (bytesOf (rpB s)) (.tok 0)), (5, .int .i64 (rpI s))], ⟨[], [(nLen (rpB s), 1, 5)], []⟩)))
      (.ite (nEq (rpL s) 0) (.ret (.ret, [(2, .str []), (3, .bool false)], ⟨[], [], []⟩)) (.ret (.ret, [(2, .str []), (3, .bool false)], ⟨[], [(rpL s, 1, 5)], []⟩))))))
def L_RSym : LpsT := fun r fr σ => if r = 5 then oracle 128 [0, 4, 5] d_RSym r_RSym fr σ else .fail
noncomputable def c_RSym : Code := loopN Tryd.f64 0
theorem drop_get {s r : List UInt8} {i : Nat} {c : UInt8} (h : s.drop i = c :: r) : s[i]? = some c ∧ s.drop (i + 1) = r ∧ i + 1 + r.length = s.length := by
  have h1 : (s.drop i)[0]? = some c := by rw [h]; rfl
  have h2 : s.drop (i + 1) = r := by
    have : (s.drop i).drop 1 = r := by rw [h]; rfl
    simpa [Nat.add_comm] using this
  have h3 := congrArg List.length h
  simp at h1 h3
  exact ⟨h1, h2, by omega⟩
theorem rdig_rng (c : UInt8) : -1 ≤ rdigV c.toNat ∧ rdigV c.toNat ≤ 15 := by
  have h := c.toNat_lt
  have key : ∀ n : Fin 256, -1 ≤ rdigV (n.val : Int) ∧ rdigV (n.val : Int) ≤ 15 := by decide +kernel
  exact key ⟨c.toNat, h⟩
theorem wrap8_rng (n : Int) : 0 ≤ iWrap .u8 n ∧ iWrap .u8 n < 256 := by
  simp [iWrap, IntKind.wrap, IntKind.signed, IntKind.bits]
  omega
theorem iNe_byte_ne {c k : UInt8} (h : c ≠ k) : iNe (c.toNat : Int) (k.toNat : Int) = true := by
  simp only [iNe_eq, decide_eq_true_eq]
  intro e
  exact h (UInt8.toNat_inj.1 (by omega))
theorem iNe_byte_eq {c k : UInt8} (h : c = k) : iNe (c.toNat : Int) (k.toNat : Int) = false := by
  subst h
  simp
theorem xApp_one (b : List UInt8) (x : UInt8) {n : Int} (h : (x.toNat : Int) = n) : xApp (bytesOf b) [[.int .u8 n]] = bytesOf (b ++ [x]) := by
  subst h
  rw [xApp_byte b (by have := x.toNat_lt; omega)]
  simp
theorem xApp_nil1 (x : UInt8) {n : Int} (h : (x.toNat : Int) = n) : xApp [] [[.int .u8 n]] = bytesOf [x] := xApp_one [] x h
theorem hexW_eq {h1 h2 : UInt8} {u : List UInt8} : ((hexW (h1 :: h2 :: u)).toNat : Int) = iWrap .u8 (iAdd .i64 (iMul .i64 (rdigV h1.toNat) 16) (rdigV h2.toNat)) := by
  have r1 := rdig_rng h1
  have r2 := rdig_rng h2
  have e1 : iMul .i64 (rdigV h1.toNat) 16 = rdigV h1.toNat * 16 := wrap_i64 (by omega)
  have e2 : iAdd .i64 (rdigV h1.toNat * 16) (rdigV h2.toNat) = rdigV h1.toNat * 16 + rdigV h2.toNat := wrap_i64 (by omega)
  rw [e1, e2]
  have := wrap8_rng (rdigV h1.toNat * 16 + rdigV h2.toNat)
  simp [hexW]
  omega

section
variable (gl : Gl) (s : List UInt8) (e : PExit) (out : List (Nat × PV)) (σ' : Store)
/-- A round of the loop. -/
theorem walkB_RSym (hs : s.length ≤ 140737488355328) (b : List UInt8) (i : Int) (r : List UInt8) (hi : 1 ≤ i) (hr : s.drop i.toNat = r) (hil : i ≤ s.length) (hb : b.length + r.length ≤ 140737488355328)
    (hstop : rS r = .stop → e = .exit 0 ∧ out = [(0, .str s), (4, .sl (bytesOf b) (.tok 0)), (5, .int .i64 i)] ∧ σ' = ⟨[], [(nLen b, 1, 5)], []⟩) (hbad : rS r = .bad → e = .ret ∧ out = [(2, .str []), (3, .bool false)] ∧ σ' = ⟨[], [(nLen b, 1, 5)], []⟩)
    (hone : ∀ x k, rS r = .one x k → LDoes Tryd.prog gl c_RSym (mk 128 ([0, 4, 5].zip [.str s, .sl (bytesOf (b ++ [x])) (.tok 0), .int .i64 (i + k)])) ⟨[], [(nLen (b ++ [x]), 1, 5)], []⟩ e (mk 128 out) σ') :
    LDoes Tryd.prog gl c_RSym (mk 128 ([0, 4, 5].zip [.str s, .sl (bytesOf b) (.tok 0), .int .i64 i])) ⟨[], [(nLen b, 1, 5)], []⟩ e (mk 128 out) σ' := by
  have hG : GamOk Tryd.prog gl (gam (ofL [(76, .pure F_Rdig)])) := gamOk_cons (sim_Rdig gl) gamOk_nil
  refine LDoes.round tbT_ok hG noMixed (L := fun _ _ _ => .fail) (loopOk_none (by kernel_rfl)) (by kernel_rfl) ?_
  refine Tr.all_as (Tr.ite (iLt i (sLen s))
      (Tr.ite (okIdx s i)
        (Tr.ite (iNe (sAt s i) 34)
          (Tr.ite (okIdx s i)
            (Tr.ite (iNe (sAt s i) 92)
              (Tr.ite (okIdx s i)
                (Tr.ite (okGrow (bytesOf b) [[PV.int IntKind.u8 (sAt s i)]] 1)
                  (Tr.ite (okNews [[PV.int IntKind.u8 (sAt s i)]] 1)
                    (Tr.ite (okSize (bytesOf b) 1)
                      (Tr.ite (nEq (nLen b) (nXs (bytesOf b)))
                        (Tr.ret
                          (PExit.normal, [42, 33, 23, 18],
                            [PV.str s, PV.top, PV.top, PV.top, PV.sl (xApp (bytesOf b) [[PV.int IntKind.u8 (sAt s i)]]) (Tag.tok 0), PV.int IntKind.i64 (iAdd IntKind.i64 i 1), PV.top, PV.top, PV.top,
                              PV.top, PV.top, PV.top, PV.top, PV.top, PV.int IntKind.i64 i, PV.str s, PV.int IntKind.i64 (sLen s), PV.bool (iLt i (sLen s)), PV.bool true, PV.str s, PV.int IntKind.i64 i,
                              PV.int IntKind.u8 (sAt s i), PV.bool (iNe (sAt s i) 34), PV.bool true, PV.top, PV.top, PV.top, PV.top, PV.top, PV.top, PV.top, PV.top, PV.top, PV.bool true, PV.str s,
                              PV.int IntKind.i64 i, PV.int IntKind.u8 (sAt s i), PV.bool (iNe (sAt s i) 92), PV.sl (bytesOf b) (Tag.tok 0), PV.str s, PV.int IntKind.i64 i, PV.int IntKind.u8 (sAt s i),
                              PV.sl [[PV.int IntKind.u8 (sAt s i)]] Tag.full, PV.sl (xApp (bytesOf b) [[PV.int IntKind.u8 (sAt s i)]]) (Tag.tok 0), PV.int IntKind.i64 i,
                              PV.int IntKind.i64 (iAdd IntKind.i64 i 1), PV.top, PV.top, PV.top, PV.top, PV.top, PV.top, PV.top, PV.top, PV.top, PV.top, PV.top, PV.top, PV.top, PV.top, PV.top, PV.top,
                              PV.top, PV.top, PV.top, PV.top, PV.top, PV.top, PV.top, PV.top, PV.top, PV.top, PV.top, PV.top, PV.top, PV.top, PV.top, PV.top, PV.top, PV.top, PV.top, PV.top, PV.top,
                              PV.top, PV.top, PV.top, PV.top, PV.top, PV.top, PV.top, PV.top, PV.top, PV.top, PV.top, PV.top, PV.top, PV.top, PV.top, PV.top, PV.top, PV.top, PV.top, PV.top, PV.top,
                              PV.top, PV.top, PV.top, PV.top, PV.top, PV.top, PV.top, PV.top, PV.top, PV.top, PV.top, PV.top, PV.top, PV.top, PV.top, PV.top, PV.top, PV.top, PV.top, PV.top, PV.top,
                              PV.top, PV.top, PV.top],
                            Store.mk [] [(nXs (xApp (bytesOf b) [[PV.int IntKind.u8 (sAt s i)]]), 1, 5)] []))
                        Tr.fail)
                      Tr.fail)
                    Tr.fail)
                  Tr.fail)
                Tr.fail)
              (Tr.ite (iLe (sLen s) (iAdd IntKind.i64 i 1))
                (Tr.ret
                  (PExit.ret, [3, 2, 46, 33, 23, 18],
                    [PV.str s, PV.top, PV.str [], PV.bool false, PV.sl (bytesOf b) (Tag.tok 0), PV.int IntKind.i64 i, PV.top, PV.top, PV.top, PV.top, PV.top, PV.top, PV.top, PV.top, PV.int IntKind.i64 i,
                      PV.str s, PV.int IntKind.i64 (sLen s), PV.bool (iLt i (sLen s)), PV.bool true, PV.str s, PV.int IntKind.i64 i, PV.int IntKind.u8 (sAt s i), PV.bool (iNe (sAt s i) 34), PV.bool true,
                      PV.top, PV.top, PV.top, PV.top, PV.top, PV.top, PV.top, PV.top, PV.top, PV.bool false, PV.str s, PV.int IntKind.i64 i, PV.int IntKind.u8 (sAt s i), PV.bool (iNe (sAt s i) 92),
                      PV.top, PV.top, PV.top, PV.top, PV.top, PV.top, PV.top, PV.top, PV.bool true, PV.int IntKind.i64 i, PV.int IntKind.i64 (iAdd IntKind.i64 i 1), PV.str s, PV.int IntKind.i64 (sLen s),
                      PV.bool (iLe (sLen s) (iAdd IntKind.i64 i 1)), PV.top, PV.top, PV.top, PV.top, PV.top, PV.top, PV.top, PV.top, PV.top, PV.top, PV.top, PV.top, PV.top, PV.top, PV.top, PV.top, PV.top,
                      PV.top, PV.top, PV.top, PV.top, PV.top, PV.top, PV.top, PV.top, PV.top, PV.top, PV.top, PV.top, PV.top, PV.top, PV.top, PV.top, PV.top, PV.top, PV.top, PV.top, PV.top, PV.top,
                      PV.top, PV.top, PV.top, PV.top, PV.top, PV.top, PV.top, PV.top, PV.top, PV.top, PV.top, PV.top, PV.top, PV.top, PV.top, PV.top, PV.top, PV.top, PV.top, PV.top, PV.top, PV.top,
                      PV.top, PV.top, PV.top, PV.top, PV.top, PV.top, PV.top, PV.top, PV.top, PV.top, PV.top, PV.top, PV.top, PV.top, PV.top],
                    Store.mk [] [(nLen b, 1, 5)] []))
                (Tr.ite (okIdx s (iAdd IntKind.i64 i 1))
                  (Tr.ite (iEq (sAt s (iAdd IntKind.i64 i 1)) 110)
                    (Tr.ite (okGrow (bytesOf b) [[PV.int IntKind.u8 10]] 1)
                      (Tr.ite (okNews [[PV.int IntKind.u8 10]] 1)
                        (Tr.ite (okSize (bytesOf b) 1)
                          (Tr.ite (nEq (nLen b) (nXs (bytesOf b)))
                            (Tr.ret
                              (PExit.normal, [59, 52, 46, 33, 23, 18],
                                [PV.str s, PV.top, PV.top, PV.top, PV.sl (xApp (bytesOf b) [[PV.int IntKind.u8 10]]) (Tag.tok 0), PV.int IntKind.i64 (iAdd IntKind.i64 i 2), PV.top, PV.top, PV.top, PV.top,
                                  PV.top, PV.top, PV.top, PV.top, PV.int IntKind.i64 i, PV.str s, PV.int IntKind.i64 (sLen s), PV.bool (iLt i (sLen s)), PV.bool true, PV.str s, PV.int IntKind.i64 i,
                                  PV.int IntKind.u8 (sAt s i), PV.bool (iNe (sAt s i) 34), PV.bool true, PV.top, PV.top, PV.top, PV.top, PV.top, PV.top, PV.top, PV.top, PV.top, PV.bool false, PV.str s,
                                  PV.int IntKind.i64 i, PV.int IntKind.u8 (sAt s i), PV.bool (iNe (sAt s i) 92), PV.top, PV.top, PV.top, PV.top, PV.top, PV.top, PV.top, PV.top, PV.bool false,
                                  PV.int IntKind.i64 i, PV.int IntKind.i64 (iAdd IntKind.i64 i 1), PV.str s, PV.int IntKind.i64 (sLen s), PV.bool (iLe (sLen s) (iAdd IntKind.i64 i 1)), PV.bool true,
                                  PV.str s, PV.int IntKind.i64 i, PV.int IntKind.i64 (iAdd IntKind.i64 i 1), PV.int IntKind.u8 (sAt s (iAdd IntKind.i64 i 1)),
                                  PV.bool (iEq (sAt s (iAdd IntKind.i64 i 1)) 110), PV.sl (bytesOf b) (Tag.tok 0), PV.sl [[PV.int IntKind.u8 10]] Tag.full,
                                  PV.sl (xApp (bytesOf b) [[PV.int IntKind.u8 10]]) (Tag.tok 0), PV.int IntKind.i64 i, PV.int IntKind.i64 (iAdd IntKind.i64 i 2), PV.top, PV.top, PV.top, PV.top, PV.top,
                                  PV.top, PV.top, PV.top, PV.top, PV.top, PV.top, PV.top, PV.top, PV.top, PV.top, PV.top, PV.top, PV.top, PV.top, PV.top, PV.top, PV.top, PV.top, PV.top, PV.top, PV.top,
                                  PV.top, PV.top, PV.top, PV.top, PV.top, PV.top, PV.top, PV.top, PV.top, PV.top, PV.top, PV.top, PV.top, PV.top, PV.top, PV.top, PV.top, PV.top, PV.top, PV.top, PV.top,
                                  PV.top, PV.top, PV.top, PV.top, PV.top, PV.top, PV.top, PV.top, PV.top, PV.top, PV.top, PV.top, PV.top, PV.top, PV.top, PV.top, PV.top, PV.top],
                                Store.mk [] [(nXs (xApp (bytesOf b) [[PV.int IntKind.u8 10]]), 1, 5)] []))
                            Tr.fail)
                          Tr.fail)
                        Tr.fail)
                      Tr.fail)
                    (Tr.ite (okIdx s (iAdd IntKind.i64 i 1))
                      (Tr.ite (iEq (sAt s (iAdd IntKind.i64 i 1)) 116)
                        (Tr.ite (okGrow (bytesOf b) [[PV.int IntKind.u8 9]] 1)
                          (Tr.ite (okNews [[PV.int IntKind.u8 9]] 1)
                            (Tr.ite (okSize (bytesOf b) 1)
                              (Tr.ite (nEq (nLen b) (nXs (bytesOf b)))
                                (Tr.ret
                                  (PExit.normal, [70, 63, 52, 46, 33, 23, 18],
                                    [PV.str s, PV.top, PV.top, PV.top, PV.sl (xApp (bytesOf b) [[PV.int IntKind.u8 9]]) (Tag.tok 0), PV.int IntKind.i64 (iAdd IntKind.i64 i 2), PV.top, PV.top, PV.top,
                                      PV.top, PV.top, PV.top, PV.top, PV.top, PV.int IntKind.i64 i, PV.str s, PV.int IntKind.i64 (sLen s), PV.bool (iLt i (sLen s)), PV.bool true, PV.str s,
                                      PV.int IntKind.i64 i, PV.int IntKind.u8 (sAt s i), PV.bool (iNe (sAt s i) 34), PV.bool true, PV.top, PV.top, PV.top, PV.top, PV.top, PV.top, PV.top, PV.top, PV.top,
                                      PV.bool false, PV.str s, PV.int IntKind.i64 i, PV.int IntKind.u8 (sAt s i), PV.bool (iNe (sAt s i) 92), PV.top, PV.top, PV.top, PV.top, PV.top, PV.top, PV.top,
                                      PV.top, PV.bool false, PV.int IntKind.i64 i, PV.int IntKind.i64 (iAdd IntKind.i64 i 1), PV.str s, PV.int IntKind.i64 (sLen s),
                                      PV.bool (iLe (sLen s) (iAdd IntKind.i64 i 1)), PV.bool false, PV.str s, PV.int IntKind.i64 i, PV.int IntKind.i64 (iAdd IntKind.i64 i 1),
                                      PV.int IntKind.u8 (sAt s (iAdd IntKind.i64 i 1)), PV.bool (iEq (sAt s (iAdd IntKind.i64 i 1)) 110), PV.top, PV.top, PV.top, PV.top, PV.top, PV.bool true, PV.str s,
                                      PV.int IntKind.i64 i, PV.int IntKind.i64 (iAdd IntKind.i64 i 1), PV.int IntKind.u8 (sAt s (iAdd IntKind.i64 i 1)), PV.bool (iEq (sAt s (iAdd IntKind.i64 i 1)) 116),
                                      PV.sl (bytesOf b) (Tag.tok 0), PV.sl [[PV.int IntKind.u8 9]] Tag.full, PV.sl (xApp (bytesOf b) [[PV.int IntKind.u8 9]]) (Tag.tok 0), PV.int IntKind.i64 i,
                                      PV.int IntKind.i64 (iAdd IntKind.i64 i 2), PV.top, PV.top, PV.top, PV.top, PV.top, PV.top, PV.top, PV.top, PV.top, PV.top, PV.top, PV.top, PV.top, PV.top, PV.top,
                                      PV.top, PV.top, PV.top, PV.top, PV.top, PV.top, PV.top, PV.top, PV.top, PV.top, PV.top, PV.top, PV.top, PV.top, PV.top, PV.top, PV.top, PV.top, PV.top, PV.top,
                                      PV.top, PV.top, PV.top, PV.top, PV.top, PV.top, PV.top, PV.top, PV.top, PV.top, PV.top, PV.top, PV.top, PV.top, PV.top, PV.top, PV.top, PV.top, PV.top],
                                    Store.mk [] [(nXs (xApp (bytesOf b) [[PV.int IntKind.u8 9]]), 1, 5)] []))
                                Tr.fail)
                              Tr.fail)
                            Tr.fail)
                          Tr.fail)
                        (Tr.ite (okIdx s (iAdd IntKind.i64 i 1))
                          (Tr.ite (iEq (sAt s (iAdd IntKind.i64 i 1)) 120)
                            (Tr.ite (iLt (iAdd IntKind.i64 i 3) (sLen s))
                              (Tr.ite (okIdx s (iAdd IntKind.i64 i 2))
                                (Tr.ite (iLe 0 (rdigV (sAt s (iAdd IntKind.i64 i 2))))
                                  (Tr.ite (okIdx s (iAdd IntKind.i64 i 3))
                                    (Tr.ite (iLe 0 (rdigV (sAt s (iAdd IntKind.i64 i 3))))
                                      (Tr.ite (okIdx s (iAdd IntKind.i64 i 2))
                                        (Tr.ite (okIdx s (iAdd IntKind.i64 i 3))
                                          (Tr.ite
                                            (okGrow (bytesOf b)
                                              [[PV.int IntKind.u8
                                                    (iWrap IntKind.u8 (iAdd IntKind.i64 (iMul IntKind.i64 (rdigV (sAt s (iAdd IntKind.i64 i 2))) 16) (rdigV (sAt s (iAdd IntKind.i64 i 3)))))]]
                                              1)
                                            (Tr.ite
                                              (okNews
                                                [[PV.int IntKind.u8
                                                      (iWrap IntKind.u8 (iAdd IntKind.i64 (iMul IntKind.i64 (rdigV (sAt s (iAdd IntKind.i64 i 2))) 16) (rdigV (sAt s (iAdd IntKind.i64 i 3)))))]]
                                                1)
                                              (Tr.ite (okSize (bytesOf b) 1)
                                                (Tr.ite (nEq (nLen b) (nXs (bytesOf b)))
                                                  (Tr.ret
                                                    (PExit.normal, [117, 74, 95, 87, 80, 63, 52, 46, 33, 23, 18],
                                                      [PV.str s, PV.top, PV.top, PV.top,
                                                        PV.sl
                                                          (xApp (bytesOf b)
                                                            [[PV.int IntKind.u8
                                                                  (iWrap IntKind.u8
                                                                    (iAdd IntKind.i64 (iMul IntKind.i64 (rdigV (sAt s (iAdd IntKind.i64 i 2))) 16) (rdigV (sAt s (iAdd IntKind.i64 i 3)))))]])
                                                          (Tag.tok 0),
                                                        PV.int IntKind.i64 (iAdd IntKind.i64 i 4), PV.top, PV.top, PV.top, PV.top, PV.top, PV.top, PV.top, PV.top, PV.int IntKind.i64 i, PV.str s,
                                                        PV.int IntKind.i64 (sLen s), PV.bool (iLt i (sLen s)), PV.bool true, PV.str s, PV.int IntKind.i64 i, PV.int IntKind.u8 (sAt s i),
                                                        PV.bool (iNe (sAt s i) 34), PV.bool true, PV.top, PV.top, PV.top, PV.top, PV.top, PV.top, PV.top, PV.top, PV.top, PV.bool false, PV.str s,
                                                        PV.int IntKind.i64 i, PV.int IntKind.u8 (sAt s i), PV.bool (iNe (sAt s i) 92), PV.top, PV.top, PV.top, PV.top, PV.top, PV.top, PV.top, PV.top,
                                                        PV.bool false, PV.int IntKind.i64 i, PV.int IntKind.i64 (iAdd IntKind.i64 i 1), PV.str s, PV.int IntKind.i64 (sLen s),
                                                        PV.bool (iLe (sLen s) (iAdd IntKind.i64 i 1)), PV.bool false, PV.str s, PV.int IntKind.i64 i, PV.int IntKind.i64 (iAdd IntKind.i64 i 1),
                                                        PV.int IntKind.u8 (sAt s (iAdd IntKind.i64 i 1)), PV.bool (iEq (sAt s (iAdd IntKind.i64 i 1)) 110), PV.top, PV.top, PV.top, PV.top, PV.top,
                                                        PV.bool false, PV.str s, PV.int IntKind.i64 i, PV.int IntKind.i64 (iAdd IntKind.i64 i 1), PV.int IntKind.u8 (sAt s (iAdd IntKind.i64 i 1)),
                                                        PV.bool (iEq (sAt s (iAdd IntKind.i64 i 1)) 116), PV.top, PV.top, PV.top, PV.top, PV.top, PV.bool true, PV.str s, PV.int IntKind.i64 i,
                                                        PV.int IntKind.i64 (iAdd IntKind.i64 i 1), PV.int IntKind.u8 (sAt s (iAdd IntKind.i64 i 1)), PV.bool (iEq (sAt s (iAdd IntKind.i64 i 1)) 120),
                                                        PV.bool true, PV.int IntKind.i64 i, PV.int IntKind.i64 (iAdd IntKind.i64 i 3), PV.str s, PV.int IntKind.i64 (sLen s),
                                                        PV.bool (iLt (iAdd IntKind.i64 i 3) (sLen s)), PV.bool (iLt (iAdd IntKind.i64 i 3) (sLen s)), PV.bool true, PV.str s, PV.int IntKind.i64 i,
                                                        PV.int IntKind.i64 (iAdd IntKind.i64 i 2), PV.int IntKind.u8 (sAt s (iAdd IntKind.i64 i 2)),
                                                        PV.int IntKind.i64 (rdigV (sAt s (iAdd IntKind.i64 i 2))), PV.bool (iLe 0 (rdigV (sAt s (iAdd IntKind.i64 i 2)))),
                                                        PV.bool (iLe 0 (rdigV (sAt s (iAdd IntKind.i64 i 2)))), PV.bool true, PV.str s, PV.int IntKind.i64 i, PV.int IntKind.i64 (iAdd IntKind.i64 i 3),
                                                        PV.int IntKind.u8 (sAt s (iAdd IntKind.i64 i 3)), PV.int IntKind.i64 (rdigV (sAt s (iAdd IntKind.i64 i 3))),
                                                        PV.bool (iLe 0 (rdigV (sAt s (iAdd IntKind.i64 i 3)))), PV.bool (iLe 0 (rdigV (sAt s (iAdd IntKind.i64 i 3)))), PV.sl (bytesOf b) (Tag.tok 0),
                                                        PV.str s, PV.int IntKind.i64 i, PV.int IntKind.i64 (iAdd IntKind.i64 i 2), PV.int IntKind.u8 (sAt s (iAdd IntKind.i64 i 2)),
                                                        PV.int IntKind.i64 (rdigV (sAt s (iAdd IntKind.i64 i 2))), PV.int IntKind.i64 (iMul IntKind.i64 (rdigV (sAt s (iAdd IntKind.i64 i 2))) 16),
                                                        PV.str s, PV.int IntKind.i64 i, PV.int IntKind.i64 (iAdd IntKind.i64 i 3), PV.int IntKind.u8 (sAt s (iAdd IntKind.i64 i 3)),
                                                        PV.int IntKind.i64 (rdigV (sAt s (iAdd IntKind.i64 i 3))),
                                                        PV.int IntKind.i64 (iAdd IntKind.i64 (iMul IntKind.i64 (rdigV (sAt s (iAdd IntKind.i64 i 2))) 16) (rdigV (sAt s (iAdd IntKind.i64 i 3)))),
                                                        PV.int IntKind.u8
                                                          (iWrap IntKind.u8 (iAdd IntKind.i64 (iMul IntKind.i64 (rdigV (sAt s (iAdd IntKind.i64 i 2))) 16) (rdigV (sAt s (iAdd IntKind.i64 i 3))))),
                                                        PV.sl
                                                          [[PV.int IntKind.u8
                                                                (iWrap IntKind.u8 (iAdd IntKind.i64 (iMul IntKind.i64 (rdigV (sAt s (iAdd IntKind.i64 i 2))) 16) (rdigV (sAt s (iAdd IntKind.i64 i 3)))))]]
                                                          Tag.full,
                                                        PV.sl
                                                          (xApp (bytesOf b)
                                                            [[PV.int IntKind.u8
                                                                  (iWrap IntKind.u8
                                                                    (iAdd IntKind.i64 (iMul IntKind.i64 (rdigV (sAt s (iAdd IntKind.i64 i 2))) 16) (rdigV (sAt s (iAdd IntKind.i64 i 3)))))]])
                                                          (Tag.tok 0),
                                                        PV.int IntKind.i64 i, PV.int IntKind.i64 (iAdd IntKind.i64 i 4), PV.top, PV.top, PV.top, PV.top, PV.top, PV.top, PV.top],
                                                      Store.mk []
                                                        [(nXs
                                                              (xApp (bytesOf b)
                                                                [[PV.int IntKind.u8
                                                                      (iWrap IntKind.u8
                                                                        (iAdd IntKind.i64 (iMul IntKind.i64 (rdigV (sAt s (iAdd IntKind.i64 i 2))) 16) (rdigV (sAt s (iAdd IntKind.i64 i 3)))))]]),
                                                            1, 5)]
                                                        []))
                                                  Tr.fail)
                                                Tr.fail)
                                              Tr.fail)
                                            Tr.fail)
                                          Tr.fail)
                                        Tr.fail)
                                      (Tr.ite (okIdx s (iAdd IntKind.i64 i 1))
                                        (Tr.ite (okGrow (bytesOf b) [[PV.int IntKind.u8 (sAt s (iAdd IntKind.i64 i 1))]] 1)
                                          (Tr.ite (okNews [[PV.int IntKind.u8 (sAt s (iAdd IntKind.i64 i 1))]] 1)
                                            (Tr.ite (okSize (bytesOf b) 1)
                                              (Tr.ite (nEq (nLen b) (nXs (bytesOf b)))
                                                (Tr.ret
                                                  (PExit.normal, [29, 74, 95, 87, 80, 63, 52, 46, 33, 23, 18],
                                                    [PV.str s, PV.top, PV.top, PV.top, PV.sl (xApp (bytesOf b) [[PV.int IntKind.u8 (sAt s (iAdd IntKind.i64 i 1))]]) (Tag.tok 0),
                                                      PV.int IntKind.i64 (iAdd IntKind.i64 i 2), PV.top, PV.top, PV.top, PV.top, PV.top, PV.top, PV.top, PV.top, PV.int IntKind.i64 i, PV.str s,
                                                      PV.int IntKind.i64 (sLen s), PV.bool (iLt i (sLen s)), PV.bool true, PV.str s, PV.int IntKind.i64 i, PV.int IntKind.u8 (sAt s i),
                                                      PV.bool (iNe (sAt s i) 34), PV.bool true, PV.sl (bytesOf b) (Tag.tok 0), PV.str s, PV.int IntKind.i64 i, PV.int IntKind.i64 (iAdd IntKind.i64 i 1),
                                                      PV.int IntKind.u8 (sAt s (iAdd IntKind.i64 i 1)), PV.sl [[PV.int IntKind.u8 (sAt s (iAdd IntKind.i64 i 1))]] Tag.full,
                                                      PV.sl (xApp (bytesOf b) [[PV.int IntKind.u8 (sAt s (iAdd IntKind.i64 i 1))]]) (Tag.tok 0), PV.int IntKind.i64 i,
                                                      PV.int IntKind.i64 (iAdd IntKind.i64 i 2), PV.bool false, PV.str s, PV.int IntKind.i64 i, PV.int IntKind.u8 (sAt s i), PV.bool (iNe (sAt s i) 92),
                                                      PV.top, PV.top, PV.top, PV.top, PV.top, PV.top, PV.top, PV.top, PV.bool false, PV.int IntKind.i64 i, PV.int IntKind.i64 (iAdd IntKind.i64 i 1),
                                                      PV.str s, PV.int IntKind.i64 (sLen s), PV.bool (iLe (sLen s) (iAdd IntKind.i64 i 1)), PV.bool false, PV.str s, PV.int IntKind.i64 i,
                                                      PV.int IntKind.i64 (iAdd IntKind.i64 i 1), PV.int IntKind.u8 (sAt s (iAdd IntKind.i64 i 1)), PV.bool (iEq (sAt s (iAdd IntKind.i64 i 1)) 110), PV.top,
                                                      PV.top, PV.top, PV.top, PV.top, PV.bool false, PV.str s, PV.int IntKind.i64 i, PV.int IntKind.i64 (iAdd IntKind.i64 i 1),
                                                      PV.int IntKind.u8 (sAt s (iAdd IntKind.i64 i 1)), PV.bool (iEq (sAt s (iAdd IntKind.i64 i 1)) 116), PV.top, PV.top, PV.top, PV.top, PV.top,
                                                      PV.bool false, PV.str s, PV.int IntKind.i64 i, PV.int IntKind.i64 (iAdd IntKind.i64 i 1), PV.int IntKind.u8 (sAt s (iAdd IntKind.i64 i 1)),
                                                      PV.bool (iEq (sAt s (iAdd IntKind.i64 i 1)) 120), PV.bool true, PV.int IntKind.i64 i, PV.int IntKind.i64 (iAdd IntKind.i64 i 3), PV.str s,
                                                      PV.int IntKind.i64 (sLen s), PV.bool (iLt (iAdd IntKind.i64 i 3) (sLen s)), PV.bool (iLt (iAdd IntKind.i64 i 3) (sLen s)), PV.bool true, PV.str s,
                                                      PV.int IntKind.i64 i, PV.int IntKind.i64 (iAdd IntKind.i64 i 2), PV.int IntKind.u8 (sAt s (iAdd IntKind.i64 i 2)),
                                                      PV.int IntKind.i64 (rdigV (sAt s (iAdd IntKind.i64 i 2))), PV.bool (iLe 0 (rdigV (sAt s (iAdd IntKind.i64 i 2)))),
                                                      PV.bool (iLe 0 (rdigV (sAt s (iAdd IntKind.i64 i 2)))), PV.bool true, PV.str s, PV.int IntKind.i64 i, PV.int IntKind.i64 (iAdd IntKind.i64 i 3),
                                                      PV.int IntKind.u8 (sAt s (iAdd IntKind.i64 i 3)), PV.int IntKind.i64 (rdigV (sAt s (iAdd IntKind.i64 i 3))),
                                                      PV.bool (iLe 0 (rdigV (sAt s (iAdd IntKind.i64 i 3)))), PV.bool (iLe 0 (rdigV (sAt s (iAdd IntKind.i64 i 3)))), PV.top, PV.top, PV.top, PV.top,
                                                      PV.top, PV.top, PV.top, PV.top, PV.top, PV.top, PV.top, PV.top, PV.top, PV.top, PV.top, PV.top, PV.top, PV.top, PV.top, PV.top, PV.top, PV.top,
                                                      PV.top, PV.top, PV.top],
                                                    Store.mk [] [(nXs (xApp (bytesOf b) [[PV.int IntKind.u8 (sAt s (iAdd IntKind.i64 i 1))]]), 1, 5)] []))
                                                Tr.fail)
                                              Tr.fail)
                                            Tr.fail)
                                          Tr.fail)
                                        Tr.fail))
                                    Tr.fail)
                                  (Tr.ite (okIdx s (iAdd IntKind.i64 i 1))
                                    (Tr.ite (okGrow (bytesOf b) [[PV.int IntKind.u8 (sAt s (iAdd IntKind.i64 i 1))]] 1)
                                      (Tr.ite (okNews [[PV.int IntKind.u8 (sAt s (iAdd IntKind.i64 i 1))]] 1)
                                        (Tr.ite (okSize (bytesOf b) 1)
                                          (Tr.ite (nEq (nLen b) (nXs (bytesOf b)))
                                            (Tr.ret
                                              (PExit.normal, [29, 74, 102, 95, 87, 80, 63, 52, 46, 33, 23, 18],
                                                [PV.str s, PV.top, PV.top, PV.top, PV.sl (xApp (bytesOf b) [[PV.int IntKind.u8 (sAt s (iAdd IntKind.i64 i 1))]]) (Tag.tok 0),
                                                  PV.int IntKind.i64 (iAdd IntKind.i64 i 2), PV.top, PV.top, PV.top, PV.top, PV.top, PV.top, PV.top, PV.top, PV.int IntKind.i64 i, PV.str s,
                                                  PV.int IntKind.i64 (sLen s), PV.bool (iLt i (sLen s)), PV.bool true, PV.str s, PV.int IntKind.i64 i, PV.int IntKind.u8 (sAt s i),
                                                  PV.bool (iNe (sAt s i) 34), PV.bool true, PV.sl (bytesOf b) (Tag.tok 0), PV.str s, PV.int IntKind.i64 i, PV.int IntKind.i64 (iAdd IntKind.i64 i 1),
                                                  PV.int IntKind.u8 (sAt s (iAdd IntKind.i64 i 1)), PV.sl [[PV.int IntKind.u8 (sAt s (iAdd IntKind.i64 i 1))]] Tag.full,
                                                  PV.sl (xApp (bytesOf b) [[PV.int IntKind.u8 (sAt s (iAdd IntKind.i64 i 1))]]) (Tag.tok 0), PV.int IntKind.i64 i,
                                                  PV.int IntKind.i64 (iAdd IntKind.i64 i 2), PV.bool false, PV.str s, PV.int IntKind.i64 i, PV.int IntKind.u8 (sAt s i), PV.bool (iNe (sAt s i) 92), PV.top,
                                                  PV.top, PV.top, PV.top, PV.top, PV.top, PV.top, PV.top, PV.bool false, PV.int IntKind.i64 i, PV.int IntKind.i64 (iAdd IntKind.i64 i 1), PV.str s,
                                                  PV.int IntKind.i64 (sLen s), PV.bool (iLe (sLen s) (iAdd IntKind.i64 i 1)), PV.bool false, PV.str s, PV.int IntKind.i64 i,
                                                  PV.int IntKind.i64 (iAdd IntKind.i64 i 1), PV.int IntKind.u8 (sAt s (iAdd IntKind.i64 i 1)), PV.bool (iEq (sAt s (iAdd IntKind.i64 i 1)) 110), PV.top,
                                                  PV.top, PV.top, PV.top, PV.top, PV.bool false, PV.str s, PV.int IntKind.i64 i, PV.int IntKind.i64 (iAdd IntKind.i64 i 1),
                                                  PV.int IntKind.u8 (sAt s (iAdd IntKind.i64 i 1)), PV.bool (iEq (sAt s (iAdd IntKind.i64 i 1)) 116), PV.top, PV.top, PV.top, PV.top, PV.top, PV.bool false,
                                                  PV.str s, PV.int IntKind.i64 i, PV.int IntKind.i64 (iAdd IntKind.i64 i 1), PV.int IntKind.u8 (sAt s (iAdd IntKind.i64 i 1)),
                                                  PV.bool (iEq (sAt s (iAdd IntKind.i64 i 1)) 120), PV.bool true, PV.int IntKind.i64 i, PV.int IntKind.i64 (iAdd IntKind.i64 i 3), PV.str s,
                                                  PV.int IntKind.i64 (sLen s), PV.bool (iLt (iAdd IntKind.i64 i 3) (sLen s)), PV.bool (iLt (iAdd IntKind.i64 i 3) (sLen s)), PV.bool true, PV.str s,
                                                  PV.int IntKind.i64 i, PV.int IntKind.i64 (iAdd IntKind.i64 i 2), PV.int IntKind.u8 (sAt s (iAdd IntKind.i64 i 2)),
                                                  PV.int IntKind.i64 (rdigV (sAt s (iAdd IntKind.i64 i 2))), PV.bool (iLe 0 (rdigV (sAt s (iAdd IntKind.i64 i 2)))),
                                                  PV.bool (iLe 0 (rdigV (sAt s (iAdd IntKind.i64 i 2)))), PV.bool false, PV.tup [], PV.tup [], PV.tup [], PV.tup [], PV.tup [], PV.tup [], PV.bool false,
                                                  PV.top, PV.top, PV.top, PV.top, PV.top, PV.top, PV.top, PV.top, PV.top, PV.top, PV.top, PV.top, PV.top, PV.top, PV.top, PV.top, PV.top, PV.top, PV.top,
                                                  PV.top, PV.top, PV.top, PV.top, PV.top, PV.top],
                                                Store.mk [] [(nXs (xApp (bytesOf b) [[PV.int IntKind.u8 (sAt s (iAdd IntKind.i64 i 1))]]), 1, 5)] []))
                                            Tr.fail)
                                          Tr.fail)
                                        Tr.fail)
                                      Tr.fail)
                                    Tr.fail))
                                Tr.fail)
                              (Tr.ite (okIdx s (iAdd IntKind.i64 i 1))
                                (Tr.ite (okGrow (bytesOf b) [[PV.int IntKind.u8 (sAt s (iAdd IntKind.i64 i 1))]] 1)
                                  (Tr.ite (okNews [[PV.int IntKind.u8 (sAt s (iAdd IntKind.i64 i 1))]] 1)
                                    (Tr.ite (okSize (bytesOf b) 1)
                                      (Tr.ite (nEq (nLen b) (nXs (bytesOf b)))
                                        (Tr.ret
                                          (PExit.normal, [29, 74, 102, 95, 94, 87, 80, 63, 52, 46, 33, 23, 18],
                                            [PV.str s, PV.top, PV.top, PV.top, PV.sl (xApp (bytesOf b) [[PV.int IntKind.u8 (sAt s (iAdd IntKind.i64 i 1))]]) (Tag.tok 0),
                                              PV.int IntKind.i64 (iAdd IntKind.i64 i 2), PV.top, PV.top, PV.top, PV.top, PV.top, PV.top, PV.top, PV.top, PV.int IntKind.i64 i, PV.str s,
                                              PV.int IntKind.i64 (sLen s), PV.bool (iLt i (sLen s)), PV.bool true, PV.str s, PV.int IntKind.i64 i, PV.int IntKind.u8 (sAt s i), PV.bool (iNe (sAt s i) 34),
                                              PV.bool true, PV.sl (bytesOf b) (Tag.tok 0), PV.str s, PV.int IntKind.i64 i, PV.int IntKind.i64 (iAdd IntKind.i64 i 1),
                                              PV.int IntKind.u8 (sAt s (iAdd IntKind.i64 i 1)), PV.sl [[PV.int IntKind.u8 (sAt s (iAdd IntKind.i64 i 1))]] Tag.full,
                                              PV.sl (xApp (bytesOf b) [[PV.int IntKind.u8 (sAt s (iAdd IntKind.i64 i 1))]]) (Tag.tok 0), PV.int IntKind.i64 i, PV.int IntKind.i64 (iAdd IntKind.i64 i 2),
                                              PV.bool false, PV.str s, PV.int IntKind.i64 i, PV.int IntKind.u8 (sAt s i), PV.bool (iNe (sAt s i) 92), PV.top, PV.top, PV.top, PV.top, PV.top, PV.top,
                                              PV.top, PV.top, PV.bool false, PV.int IntKind.i64 i, PV.int IntKind.i64 (iAdd IntKind.i64 i 1), PV.str s, PV.int IntKind.i64 (sLen s),
                                              PV.bool (iLe (sLen s) (iAdd IntKind.i64 i 1)), PV.bool false, PV.str s, PV.int IntKind.i64 i, PV.int IntKind.i64 (iAdd IntKind.i64 i 1),
                                              PV.int IntKind.u8 (sAt s (iAdd IntKind.i64 i 1)), PV.bool (iEq (sAt s (iAdd IntKind.i64 i 1)) 110), PV.top, PV.top, PV.top, PV.top, PV.top, PV.bool false,
                                              PV.str s, PV.int IntKind.i64 i, PV.int IntKind.i64 (iAdd IntKind.i64 i 1), PV.int IntKind.u8 (sAt s (iAdd IntKind.i64 i 1)),
                                              PV.bool (iEq (sAt s (iAdd IntKind.i64 i 1)) 116), PV.top, PV.top, PV.top, PV.top, PV.top, PV.bool false, PV.str s, PV.int IntKind.i64 i,
                                              PV.int IntKind.i64 (iAdd IntKind.i64 i 1), PV.int IntKind.u8 (sAt s (iAdd IntKind.i64 i 1)), PV.bool (iEq (sAt s (iAdd IntKind.i64 i 1)) 120), PV.bool true,
                                              PV.int IntKind.i64 i, PV.int IntKind.i64 (iAdd IntKind.i64 i 3), PV.str s, PV.int IntKind.i64 (sLen s), PV.bool (iLt (iAdd IntKind.i64 i 3) (sLen s)),
                                              PV.bool (iLt (iAdd IntKind.i64 i 3) (sLen s)), PV.bool false, PV.tup [], PV.tup [], PV.tup [], PV.tup [], PV.tup [], PV.tup [], PV.bool false, PV.bool false,
                                              PV.tup [], PV.tup [], PV.tup [], PV.tup [], PV.tup [], PV.tup [], PV.bool false, PV.top, PV.top, PV.top, PV.top, PV.top, PV.top, PV.top, PV.top, PV.top,
                                              PV.top, PV.top, PV.top, PV.top, PV.top, PV.top, PV.top, PV.top, PV.top, PV.top, PV.top, PV.top, PV.top, PV.top, PV.top, PV.top],
                                            Store.mk [] [(nXs (xApp (bytesOf b) [[PV.int IntKind.u8 (sAt s (iAdd IntKind.i64 i 1))]]), 1, 5)] []))
                                        Tr.fail)
                                      Tr.fail)
                                    Tr.fail)
                                  Tr.fail)
                                Tr.fail))
                            (Tr.ite (okIdx s (iAdd IntKind.i64 i 1))
                              (Tr.ite (okGrow (bytesOf b) [[PV.int IntKind.u8 (sAt s (iAdd IntKind.i64 i 1))]] 1)
                                (Tr.ite (okNews [[PV.int IntKind.u8 (sAt s (iAdd IntKind.i64 i 1))]] 1)
                                  (Tr.ite (okSize (bytesOf b) 1)
                                    (Tr.ite (nEq (nLen b) (nXs (bytesOf b)))
                                      (Tr.ret
                                        (PExit.normal, [29, 74, 102, 95, 94, 87, 86, 80, 63, 52, 46, 33, 23, 18],
                                          [PV.str s, PV.top, PV.top, PV.top, PV.sl (xApp (bytesOf b) [[PV.int IntKind.u8 (sAt s (iAdd IntKind.i64 i 1))]]) (Tag.tok 0),
                                            PV.int IntKind.i64 (iAdd IntKind.i64 i 2), PV.top, PV.top, PV.top, PV.top, PV.top, PV.top, PV.top, PV.top, PV.int IntKind.i64 i, PV.str s,
                                            PV.int IntKind.i64 (sLen s), PV.bool (iLt i (sLen s)), PV.bool true, PV.str s, PV.int IntKind.i64 i, PV.int IntKind.u8 (sAt s i), PV.bool (iNe (sAt s i) 34),
                                            PV.bool true, PV.sl (bytesOf b) (Tag.tok 0), PV.str s, PV.int IntKind.i64 i, PV.int IntKind.i64 (iAdd IntKind.i64 i 1),
                                            PV.int IntKind.u8 (sAt s (iAdd IntKind.i64 i 1)), PV.sl [[PV.int IntKind.u8 (sAt s (iAdd IntKind.i64 i 1))]] Tag.full,
                                            PV.sl (xApp (bytesOf b) [[PV.int IntKind.u8 (sAt s (iAdd IntKind.i64 i 1))]]) (Tag.tok 0), PV.int IntKind.i64 i, PV.int IntKind.i64 (iAdd IntKind.i64 i 2),
                                            PV.bool false, PV.str s, PV.int IntKind.i64 i, PV.int IntKind.u8 (sAt s i), PV.bool (iNe (sAt s i) 92), PV.top, PV.top, PV.top, PV.top, PV.top, PV.top, PV.top,
                                            PV.top, PV.bool false, PV.int IntKind.i64 i, PV.int IntKind.i64 (iAdd IntKind.i64 i 1), PV.str s, PV.int IntKind.i64 (sLen s),
                                            PV.bool (iLe (sLen s) (iAdd IntKind.i64 i 1)), PV.bool false, PV.str s, PV.int IntKind.i64 i, PV.int IntKind.i64 (iAdd IntKind.i64 i 1),
                                            PV.int IntKind.u8 (sAt s (iAdd IntKind.i64 i 1)), PV.bool (iEq (sAt s (iAdd IntKind.i64 i 1)) 110), PV.top, PV.top, PV.top, PV.top, PV.top, PV.bool false,
                                            PV.str s, PV.int IntKind.i64 i, PV.int IntKind.i64 (iAdd IntKind.i64 i 1), PV.int IntKind.u8 (sAt s (iAdd IntKind.i64 i 1)),
                                            PV.bool (iEq (sAt s (iAdd IntKind.i64 i 1)) 116), PV.top, PV.top, PV.top, PV.top, PV.top, PV.bool false, PV.str s, PV.int IntKind.i64 i,
                                            PV.int IntKind.i64 (iAdd IntKind.i64 i 1), PV.int IntKind.u8 (sAt s (iAdd IntKind.i64 i 1)), PV.bool (iEq (sAt s (iAdd IntKind.i64 i 1)) 120), PV.bool false,
                                            PV.tup [], PV.tup [], PV.tup [], PV.tup [], PV.tup [], PV.bool false, PV.bool false, PV.tup [], PV.tup [], PV.tup [], PV.tup [], PV.tup [], PV.tup [],
                                            PV.bool false, PV.bool false, PV.tup [], PV.tup [], PV.tup [], PV.tup [], PV.tup [], PV.tup [], PV.bool false, PV.top, PV.top, PV.top, PV.top, PV.top, PV.top,
                                            PV.top, PV.top, PV.top, PV.top, PV.top, PV.top, PV.top, PV.top, PV.top, PV.top, PV.top, PV.top, PV.top, PV.top, PV.top, PV.top, PV.top, PV.top, PV.top],
                                          Store.mk [] [(nXs (xApp (bytesOf b) [[PV.int IntKind.u8 (sAt s (iAdd IntKind.i64 i 1))]]), 1, 5)] []))
                                      Tr.fail)
                                    Tr.fail)
                                  Tr.fail)
                                Tr.fail)
                              Tr.fail))
                          Tr.fail))
                      Tr.fail))
                  Tr.fail)))
            Tr.fail)
          (Tr.ret
            (PExit.exit 0, [23, 18],
              [PV.str s, PV.top, PV.top, PV.top, PV.sl (bytesOf b) (Tag.tok 0), PV.int IntKind.i64 i, PV.top, PV.top, PV.top, PV.top, PV.top, PV.top, PV.top, PV.top, PV.int IntKind.i64 i, PV.str s,
                PV.int IntKind.i64 (sLen s), PV.bool (iLt i (sLen s)), PV.bool true, PV.str s, PV.int IntKind.i64 i, PV.int IntKind.u8 (sAt s i), PV.bool (iNe (sAt s i) 34), PV.bool false, PV.top, PV.top,
                PV.top, PV.top, PV.top, PV.top, PV.top, PV.top, PV.top, PV.top, PV.top, PV.top, PV.top, PV.top, PV.top, PV.top, PV.top, PV.top, PV.top, PV.top, PV.top, PV.top, PV.top, PV.top, PV.top,
                PV.top, PV.top, PV.top, PV.top, PV.top, PV.top, PV.top, PV.top, PV.top, PV.top, PV.top, PV.top, PV.top, PV.top, PV.top, PV.top, PV.top, PV.top, PV.top, PV.top, PV.top, PV.top, PV.top,
                PV.top, PV.top, PV.top, PV.top, PV.top, PV.top, PV.top, PV.top, PV.top, PV.top, PV.top, PV.top, PV.top, PV.top, PV.top, PV.top, PV.top, PV.top, PV.top, PV.top, PV.top, PV.top, PV.top,
                PV.top, PV.top, PV.top, PV.top, PV.top, PV.top, PV.top, PV.top, PV.top, PV.top, PV.top, PV.top, PV.top, PV.top, PV.top, PV.top, PV.top, PV.top, PV.top, PV.top, PV.top, PV.top, PV.top,
                PV.top, PV.top, PV.top, PV.top, PV.top, PV.top, PV.top, PV.top, PV.top, PV.top],
              Store.mk [] [(nLen b, 1, 5)] [])))
        Tr.fail)
      (Tr.ret
        (PExit.exit 0, [23, 18],
          [PV.str s, PV.top, PV.top, PV.top, PV.sl (bytesOf b) (Tag.tok 0), PV.int IntKind.i64 i, PV.top, PV.top, PV.top, PV.top, PV.top, PV.top, PV.top, PV.top, PV.int IntKind.i64 i, PV.str s,
            PV.int IntKind.i64 (sLen s), PV.bool (iLt i (sLen s)), PV.bool false, PV.tup [], PV.tup [], PV.tup [], PV.tup [], PV.bool false, PV.top, PV.top, PV.top, PV.top, PV.top, PV.top, PV.top, PV.top,
            PV.top, PV.top, PV.top, PV.top, PV.top, PV.top, PV.top, PV.top, PV.top, PV.top, PV.top, PV.top, PV.top, PV.top, PV.top, PV.top, PV.top, PV.top, PV.top, PV.top, PV.top, PV.top, PV.top, PV.top,
            PV.top, PV.top, PV.top, PV.top, PV.top, PV.top, PV.top, PV.top, PV.top, PV.top, PV.top, PV.top, PV.top, PV.top, PV.top, PV.top, PV.top, PV.top, PV.top, PV.top, PV.top, PV.top, PV.top, PV.top,
            PV.top, PV.top, PV.top, PV.top, PV.top, PV.top, PV.top, PV.top, PV.top, PV.top, PV.top, PV.top, PV.top, PV.top, PV.top, PV.top, PV.top, PV.top, PV.top, PV.top, PV.top, PV.top, PV.top, PV.top,
            PV.top, PV.top, PV.top, PV.top, PV.top, PV.top, PV.top, PV.top, PV.top, PV.top, PV.top, PV.top, PV.top, PV.top, PV.top, PV.top, PV.top, PV.top, PV.top, PV.top, PV.top, PV.top, PV.top, PV.top],
          Store.mk [] [(nLen b, 1, 5)] []))) (by kernel_rfl) ?_
  cases r with
  | nil =>
    have hl := congrArg List.length hr
    simp at hl
    obtain ⟨rfl, rfl, rfl⟩ := hstop rfl
    exact Tr.all_f (by simp; omega) ⟨rfl, by simp [Weak, mk, mkFrom, look], rfl⟩
  | cons c t =>
    obtain ⟨hv, hd1, hl1⟩ := drop_get hr
    have hb1 : b.length + (t.length + 1) ≤ 140737488355328 := hb
    have a0 : sAt s i = c.toNat := sAt_get hv
    have k0 : okIdx s i = true := okIdx_get (by omega) hv
    have n1 : (i + 1).toNat = i.toNat + 1 := by omega
    have n2 : (i + 2).toNat = i.toNat + 1 + 1 := by omega
    have n3 : (i + 3).toNat = i.toNat + 1 + 1 + 1 := by omega
    have w1 : iAdd .i64 i 1 = i + 1 := wrap_i64 (by omega)
    have w2 : iAdd .i64 i 2 = i + 2 := wrap_i64 (by omega)
    have w3 : iAdd .i64 i 3 = i + 3 := wrap_i64 (by omega)
    have w4 : iAdd .i64 i 4 = i + 4 := wrap_i64 (by omega)
    simp only [a0, w1, w2, w3, w4]
    refine Tr.all_t (by simp; omega) <| Tr.all_t k0 ?_
    by_cases c34 : c = 34
    · obtain ⟨rfl, rfl, rfl⟩ := hstop (by simp [rS, c34])
      exact Tr.all_f (iNe_byte_eq (k := 34) c34) ⟨rfl, by simp [Weak, mk, mkFrom, look], rfl⟩
    · refine Tr.all_t (iNe_byte_ne (k := 34) c34) <| Tr.all_t k0 ?_
      by_cases c92 : c = 92
      · refine Tr.all_f (iNe_byte_eq (k := 92) c92) ?_
        cases t with
        | nil =>
          obtain ⟨rfl, rfl, rfl⟩ := hbad (by simp [rS, c92])
          exact Tr.all_t (by simp at hl1 ⊢; omega) ⟨rfl, by simp [Weak, mk, mkFrom, look], rfl⟩
        | cons e' u =>
          obtain ⟨hv1, hd2, hl2⟩ := drop_get hd1
          have a1 : sAt s (i + 1) = e'.toNat := sAt_get (by rw [n1]; exact hv1)
          have k1 : okIdx s (i + 1) = true := okIdx_get (by omega) (by rw [n1]; exact hv1)
          simp only [a1]
          refine Tr.all_f (by simp; omega) <| Tr.all_t k1 ?_
          by_cases e110 : e' = 110
          · refine Tr.all_t (iEq_byte_eq (k := 110) e110) ?_
            refine Tr.all_t (by simp; omega) <| Tr.all_t (by simp [one]) <| Tr.all_t (okSize_bytes _) <| Tr.all_t (by simp) ?_
            simp only [xApp_one b 10 (n := 10) rfl, nXs_bytes]
            refine LDoes.into ?_ (hone 10 2 (by simp [rS, c92, e110]))
            simp [Weak, mk, mkFrom, look]
          · refine Tr.all_f (iEq_byte_ne (k := 110) e110) <| Tr.all_t k1 ?_
            by_cases e116 : e' = 116
            · refine Tr.all_t (iEq_byte_eq (k := 116) e116) ?_
              refine Tr.all_t (by simp; omega) <| Tr.all_t (by simp [one]) <| Tr.all_t (okSize_bytes _) <| Tr.all_t (by simp) ?_
              simp only [xApp_one b 9 (n := 9) rfl, nXs_bytes]
              refine LDoes.into ?_ (hone 9 2 (by simp [rS, c92, e110, e116]))
              simp [Weak, mk, mkFrom, look]
            · refine Tr.all_f (iEq_byte_ne (k := 116) e116) <| Tr.all_t k1 ?_
              by_cases e120 : e' = 120
              · refine Tr.all_t (iEq_byte_eq (k := 120) e120) ?_
                cases u with
                | nil =>
                  refine Tr.all_f (by simp at hl2 ⊢; omega) <| Tr.all_t k1 ?_
                  refine Tr.all_t (by simp; omega) <| Tr.all_t (by simp [one]) <| Tr.all_t (okSize_bytes _) <| Tr.all_t (by simp) ?_
                  simp only [xApp_one b e' rfl, nXs_bytes]
                  refine LDoes.into ?_ (hone e' 2 (by simp [rS, c92, e110, e116, e120, hexOk]))
                  simp [Weak, mk, mkFrom, look]
                | cons h1 u =>
                  obtain ⟨hv2, hd3, hl3⟩ := drop_get hd2
                  cases u with
                  | nil =>
                    refine Tr.all_f (by simp at hl3 ⊢; omega) <| Tr.all_t k1 ?_
                    refine Tr.all_t (by simp; omega) <| Tr.all_t (by simp [one]) <| Tr.all_t (okSize_bytes _) <| Tr.all_t (by simp) ?_
                    simp only [xApp_one b e' rfl, nXs_bytes]
                    refine LDoes.into ?_ (hone e' 2 (by simp [rS, c92, e110, e116, e120, hexOk]))
                    simp [Weak, mk, mkFrom, look]
                  | cons h2 u =>
                    obtain ⟨hv3, hd4, hl4⟩ := drop_get hd3
                    have a2 : sAt s (i + 2) = h1.toNat := sAt_get (by rw [n2]; exact hv2)
                    have k2 : okIdx s (i + 2) = true := okIdx_get (by omega) (by rw [n2]; exact hv2)
                    have a3 : sAt s (i + 3) = h2.toNat := sAt_get (by rw [n3]; exact hv3)
                    have k3 : okIdx s (i + 3) = true := okIdx_get (by omega) (by rw [n3]; exact hv3)
                    simp only [a2, a3]
                    refine Tr.all_t (by simp; omega) <| Tr.all_t k2 ?_
                    by_cases g1 : 0 ≤ rdigV h1.toNat
                    · refine Tr.all_t (by simpa using g1) <| Tr.all_t k3 ?_
                      by_cases g2 : 0 ≤ rdigV h2.toNat
                      · refine Tr.all_t (by simpa using g2) <| Tr.all_t k2 <| Tr.all_t k3 ?_
                        refine Tr.all_t (by simp; omega) <| Tr.all_t (by simp [one]) <| Tr.all_t (okSize_bytes _) <| Tr.all_t (by simp) ?_
                        simp only [xApp_one b (hexW (h1 :: h2 :: u)) hexW_eq, nXs_bytes]
                        refine LDoes.into ?_ (hone (hexW (h1 :: h2 :: u)) 4 (by simp [rS, c92, e110, e116, e120, hexOk, g1, g2]))
                        simp [Weak, mk, mkFrom, look]
                      · refine Tr.all_f (by simpa using g2) <| Tr.all_t k1 ?_
                        refine Tr.all_t (by simp; omega) <| Tr.all_t (by simp [one]) <| Tr.all_t (okSize_bytes _) <| Tr.all_t (by simp) ?_
                        simp only [xApp_one b e' rfl, nXs_bytes]
                        refine LDoes.into ?_ (hone e' 2 (by simp [rS, c92, e110, e116, e120, hexOk, g1, g2]))
                        simp [Weak, mk, mkFrom, look]
                    · refine Tr.all_f (by simpa using g1) <| Tr.all_t k1 ?_
                      refine Tr.all_t (by simp; omega) <| Tr.all_t (by simp [one]) <| Tr.all_t (okSize_bytes _) <| Tr.all_t (by simp) ?_
                      simp only [xApp_one b e' rfl, nXs_bytes]
                      refine LDoes.into ?_ (hone e' 2 (by simp [rS, c92, e110, e116, e120, hexOk, g1]))
                      simp [Weak, mk, mkFrom, look]
              · refine Tr.all_f (iEq_byte_ne (k := 120) e120) <| Tr.all_t k1 ?_
                refine Tr.all_t (by simp; omega) <| Tr.all_t (by simp [one]) <| Tr.all_t (okSize_bytes _) <| Tr.all_t (by simp) ?_
                simp only [xApp_one b e' rfl, nXs_bytes]
                refine LDoes.into ?_ (hone e' 2 (by simp [rS, c92, e110, e116, e120]))
                simp [Weak, mk, mkFrom, look]
      · refine Tr.all_t (iNe_byte_ne (k := 92) c92) <| Tr.all_t k0 ?_
        refine Tr.all_t (by simp; omega) <| Tr.all_t (by simp [one]) <| Tr.all_t (okSize_bytes _) <| Tr.all_t (by simp) ?_
        simp only [xApp_one b c rfl, nXs_bytes]
        refine LDoes.into ?_ (hone c 1 (by simp [rS, c34, c92]))
        simp [Weak, mk, mkFrom, look]

/-- A round of the loop. -/
theorem walkA_RSym (hs : s.length ≤ 140737488355328) (i : Int) (r : List UInt8) (hi : 1 ≤ i) (hr : s.drop i.toNat = r) (hil : i ≤ s.length)
    (hstop : rS r = .stop → e = .exit 0 ∧ out = [(0, .str s), (4, .sl [] .full), (5, .int .i64 i)] ∧ σ' = ⟨[], [], []⟩) (hbad : rS r = .bad → e = .ret ∧ out = [(2, .str []), (3, .bool false)] ∧ σ' = ⟨[], [], []⟩)
    (hone : ∀ x k, rS r = .one x k → LDoes Tryd.prog gl c_RSym (mk 128 ([0, 4, 5].zip [.str s, .sl (bytesOf [x]) (.tok 0), .int .i64 (i + k)])) ⟨[], [(nLen [x], 1, 5)], []⟩ e (mk 128 out) σ') :
    LDoes Tryd.prog gl c_RSym (mk 128 ([0, 4, 5].zip [.str s, .sl [] .full, .int .i64 i])) ⟨[], [], []⟩ e (mk 128 out) σ' := by
  have hG : GamOk Tryd.prog gl (gam (ofL [(76, .pure F_Rdig)])) := gamOk_cons (sim_Rdig gl) gamOk_nil
  refine LDoes.round tbT_ok hG noMixed (L := fun _ _ _ => .fail) (loopOk_none (by kernel_rfl)) (by kernel_rfl) ?_
  refine Tr.all_as (Tr.ite (iLt i (sLen s))
      (Tr.ite (okIdx s i)
        (Tr.ite (iNe (sAt s i) 34)
          (Tr.ite (okIdx s i)
            (Tr.ite (iNe (sAt s i) 92)
              (Tr.ite (okIdx s i)
                (Tr.ite (okGrow [] [[PV.int IntKind.u8 (sAt s i)]] 1)
                  (Tr.ite (okNews [[PV.int IntKind.u8 (sAt s i)]] 1)
                    (Tr.ite (okSize [] 1)
                      (Tr.ret
                        (PExit.normal, [42, 33, 23, 18],
                          [PV.str s, PV.top, PV.top, PV.top, PV.sl (xApp [] [[PV.int IntKind.u8 (sAt s i)]]) (Tag.tok 0), PV.int IntKind.i64 (iAdd IntKind.i64 i 1), PV.top, PV.top, PV.top, PV.top, PV.top,
                            PV.top, PV.top, PV.top, PV.int IntKind.i64 i, PV.str s, PV.int IntKind.i64 (sLen s), PV.bool (iLt i (sLen s)), PV.bool true, PV.str s, PV.int IntKind.i64 i,
                            PV.int IntKind.u8 (sAt s i), PV.bool (iNe (sAt s i) 34), PV.bool true, PV.top, PV.top, PV.top, PV.top, PV.top, PV.top, PV.top, PV.top, PV.top, PV.bool true, PV.str s,
                            PV.int IntKind.i64 i, PV.int IntKind.u8 (sAt s i), PV.bool (iNe (sAt s i) 92), PV.sl [] Tag.full, PV.str s, PV.int IntKind.i64 i, PV.int IntKind.u8 (sAt s i),
                            PV.sl [[PV.int IntKind.u8 (sAt s i)]] Tag.full, PV.sl (xApp [] [[PV.int IntKind.u8 (sAt s i)]]) (Tag.tok 0), PV.int IntKind.i64 i, PV.int IntKind.i64 (iAdd IntKind.i64 i 1),
                            PV.top, PV.top, PV.top, PV.top, PV.top, PV.top, PV.top, PV.top, PV.top, PV.top, PV.top, PV.top, PV.top, PV.top, PV.top, PV.top, PV.top, PV.top, PV.top, PV.top, PV.top, PV.top,
                            PV.top, PV.top, PV.top, PV.top, PV.top, PV.top, PV.top, PV.top, PV.top, PV.top, PV.top, PV.top, PV.top, PV.top, PV.top, PV.top, PV.top, PV.top, PV.top, PV.top, PV.top, PV.top,
                            PV.top, PV.top, PV.top, PV.top, PV.top, PV.top, PV.top, PV.top, PV.top, PV.top, PV.top, PV.top, PV.top, PV.top, PV.top, PV.top, PV.top, PV.top, PV.top, PV.top, PV.top, PV.top,
                            PV.top, PV.top, PV.top, PV.top, PV.top, PV.top, PV.top, PV.top, PV.top, PV.top, PV.top, PV.top, PV.top, PV.top, PV.top, PV.top],
                          Store.mk [] [(nXs (xApp [] [[PV.int IntKind.u8 (sAt s i)]]), 1, 5)] []))
                      Tr.fail)
                    Tr.fail)
                  Tr.fail)
                Tr.fail)
              (Tr.ite (iLe (sLen s) (iAdd IntKind.i64 i 1))
                (Tr.ret
                  (PExit.ret, [3, 2, 46, 33, 23, 18],
                    [PV.str s, PV.top, PV.str [], PV.bool false, PV.sl [] Tag.full, PV.int IntKind.i64 i, PV.top, PV.top, PV.top, PV.top, PV.top, PV.top, PV.top, PV.top, PV.int IntKind.i64 i, PV.str s,
                      PV.int IntKind.i64 (sLen s), PV.bool (iLt i (sLen s)), PV.bool true, PV.str s, PV.int IntKind.i64 i, PV.int IntKind.u8 (sAt s i), PV.bool (iNe (sAt s i) 34), PV.bool true, PV.top,
                      PV.top, PV.top, PV.top, PV.top, PV.top, PV.top, PV.top, PV.top, PV.bool false, PV.str s, PV.int IntKind.i64 i, PV.int IntKind.u8 (sAt s i), PV.bool (iNe (sAt s i) 92), PV.top,
                      PV.top, PV.top, PV.top, PV.top, PV.top, PV.top, PV.top, PV.bool true, PV.int IntKind.i64 i, PV.int IntKind.i64 (iAdd IntKind.i64 i 1), PV.str s, PV.int IntKind.i64 (sLen s),
                      PV.bool (iLe (sLen s) (iAdd IntKind.i64 i 1)), PV.top, PV.top, PV.top, PV.top, PV.top, PV.top, PV.top, PV.top, PV.top, PV.top, PV.top, PV.top, PV.top, PV.top, PV.top, PV.top, PV.top,
                      PV.top, PV.top, PV.top, PV.top, PV.top, PV.top, PV.top, PV.top, PV.top, PV.top, PV.top, PV.top, PV.top, PV.top, PV.top, PV.top, PV.top, PV.top, PV.top, PV.top, PV.top, PV.top,
                      PV.top, PV.top, PV.top, PV.top, PV.top, PV.top, PV.top, PV.top, PV.top, PV.top, PV.top, PV.top, PV.top, PV.top, PV.top, PV.top, PV.top, PV.top, PV.top, PV.top, PV.top, PV.top,
                      PV.top, PV.top, PV.top, PV.top, PV.top, PV.top, PV.top, PV.top, PV.top, PV.top, PV.top, PV.top, PV.top, PV.top, PV.top],
                    Store.mk [] [] []))
                (Tr.ite (okIdx s (iAdd IntKind.i64 i 1))
                  (Tr.ite (iEq (sAt s (iAdd IntKind.i64 i 1)) 110)
                    (Tr.ite (okGrow [] [[PV.int IntKind.u8 10]] 1)
                      (Tr.ite (okNews [[PV.int IntKind.u8 10]] 1)
                        (Tr.ite (okSize [] 1)
                          (Tr.ret
                            (PExit.normal, [59, 52, 46, 33, 23, 18],
                              [PV.str s, PV.top, PV.top, PV.top, PV.sl (xApp [] [[PV.int IntKind.u8 10]]) (Tag.tok 0), PV.int IntKind.i64 (iAdd IntKind.i64 i 2), PV.top, PV.top, PV.top, PV.top, PV.top,
                                PV.top, PV.top, PV.top, PV.int IntKind.i64 i, PV.str s, PV.int IntKind.i64 (sLen s), PV.bool (iLt i (sLen s)), PV.bool true, PV.str s, PV.int IntKind.i64 i,
                                PV.int IntKind.u8 (sAt s i), PV.bool (iNe (sAt s i) 34), PV.bool true, PV.top, PV.top, PV.top, PV.top, PV.top, PV.top, PV.top, PV.top, PV.top, PV.bool false, PV.str s,
                                PV.int IntKind.i64 i, PV.int IntKind.u8 (sAt s i), PV.bool (iNe (sAt s i) 92), PV.top, PV.top, PV.top, PV.top, PV.top, PV.top, PV.top, PV.top, PV.bool false,
                                PV.int IntKind.i64 i, PV.int IntKind.i64 (iAdd IntKind.i64 i 1), PV.str s, PV.int IntKind.i64 (sLen s), PV.bool (iLe (sLen s) (iAdd IntKind.i64 i 1)), PV.bool true,
                                PV.str s, PV.int IntKind.i64 i, PV.int IntKind.i64 (iAdd IntKind.i64 i 1), PV.int IntKind.u8 (sAt s (iAdd IntKind.i64 i 1)),
                                PV.bool (iEq (sAt s (iAdd IntKind.i64 i 1)) 110), PV.sl [] Tag.full, PV.sl [[PV.int IntKind.u8 10]] Tag.full, PV.sl (xApp [] [[PV.int IntKind.u8 10]]) (Tag.tok 0),
                                PV.int IntKind.i64 i, PV.int IntKind.i64 (iAdd IntKind.i64 i 2), PV.top, PV.top, PV.top, PV.top, PV.top, PV.top, PV.top, PV.top, PV.top, PV.top, PV.top, PV.top, PV.top,
                                PV.top, PV.top, PV.top, PV.top, PV.top, PV.top, PV.top, PV.top, PV.top, PV.top, PV.top, PV.top, PV.top, PV.top, PV.top, PV.top, PV.top, PV.top, PV.top, PV.top, PV.top,
                                PV.top, PV.top, PV.top, PV.top, PV.top, PV.top, PV.top, PV.top, PV.top, PV.top, PV.top, PV.top, PV.top, PV.top, PV.top, PV.top, PV.top, PV.top, PV.top, PV.top, PV.top,
                                PV.top, PV.top, PV.top, PV.top, PV.top, PV.top, PV.top, PV.top, PV.top, PV.top],
                              Store.mk [] [(nXs (xApp [] [[PV.int IntKind.u8 10]]), 1, 5)] []))
                          Tr.fail)
                        Tr.fail)
                      Tr.fail)
                    (Tr.ite (okIdx s (iAdd IntKind.i64 i 1))
                      (Tr.ite (iEq (sAt s (iAdd IntKind.i64 i 1)) 116)
                        (Tr.ite (okGrow [] [[PV.int IntKind.u8 9]] 1)
                          (Tr.ite (okNews [[PV.int IntKind.u8 9]] 1)
                            (Tr.ite (okSize [] 1)
                              (Tr.ret
                                (PExit.normal, [70, 63, 52, 46, 33, 23, 18],
                                  [PV.str s, PV.top, PV.top, PV.top, PV.sl (xApp [] [[PV.int IntKind.u8 9]]) (Tag.tok 0), PV.int IntKind.i64 (iAdd IntKind.i64 i 2), PV.top, PV.top, PV.top, PV.top, PV.top,
                                    PV.top, PV.top, PV.top, PV.int IntKind.i64 i, PV.str s, PV.int IntKind.i64 (sLen s), PV.bool (iLt i (sLen s)), PV.bool true, PV.str s, PV.int IntKind.i64 i,
                                    PV.int IntKind.u8 (sAt s i), PV.bool (iNe (sAt s i) 34), PV.bool true, PV.top, PV.top, PV.top, PV.top, PV.top, PV.top, PV.top, PV.top, PV.top, PV.bool false, PV.str s,
                                    PV.int IntKind.i64 i, PV.int IntKind.u8 (sAt s i), PV.bool (iNe (sAt s i) 92), PV.top, PV.top, PV.top, PV.top, PV.top, PV.top, PV.top, PV.top, PV.bool false,
                                    PV.int IntKind.i64 i, PV.int IntKind.i64 (iAdd IntKind.i64 i 1), PV.str s, PV.int IntKind.i64 (sLen s), PV.bool (iLe (sLen s) (iAdd IntKind.i64 i 1)), PV.bool false,
                                    PV.str s, PV.int IntKind.i64 i, PV.int IntKind.i64 (iAdd IntKind.i64 i 1), PV.int IntKind.u8 (sAt s (iAdd IntKind.i64 i 1)),
                                    PV.bool (iEq (sAt s (iAdd IntKind.i64 i 1)) 110), PV.top, PV.top, PV.top, PV.top, PV.top, PV.bool true, PV.str s, PV.int IntKind.i64 i,
                                    PV.int IntKind.i64 (iAdd IntKind.i64 i 1), PV.int IntKind.u8 (sAt s (iAdd IntKind.i64 i 1)), PV.bool (iEq (sAt s (iAdd IntKind.i64 i 1)) 116), PV.sl [] Tag.full,
                                    PV.sl [[PV.int IntKind.u8 9]] Tag.full, PV.sl (xApp [] [[PV.int IntKind.u8 9]]) (Tag.tok 0), PV.int IntKind.i64 i, PV.int IntKind.i64 (iAdd IntKind.i64 i 2), PV.top,
                                    PV.top, PV.top, PV.top, PV.top, PV.top, PV.top, PV.top, PV.top, PV.top, PV.top, PV.top, PV.top, PV.top, PV.top, PV.top, PV.top, PV.top, PV.top, PV.top, PV.top, PV.top,
                                    PV.top, PV.top, PV.top, PV.top, PV.top, PV.top, PV.top, PV.top, PV.top, PV.top, PV.top, PV.top, PV.top, PV.top, PV.top, PV.top, PV.top, PV.top, PV.top, PV.top, PV.top,
                                    PV.top, PV.top, PV.top, PV.top, PV.top, PV.top, PV.top, PV.top, PV.top, PV.top, PV.top],
                                  Store.mk [] [(nXs (xApp [] [[PV.int IntKind.u8 9]]), 1, 5)] []))
                              Tr.fail)
                            Tr.fail)
                          Tr.fail)
                        (Tr.ite (okIdx s (iAdd IntKind.i64 i 1))
                          (Tr.ite (iEq (sAt s (iAdd IntKind.i64 i 1)) 120)
                            (Tr.ite (iLt (iAdd IntKind.i64 i 3) (sLen s))
                              (Tr.ite (okIdx s (iAdd IntKind.i64 i 2))
                                (Tr.ite (iLe 0 (rdigV (sAt s (iAdd IntKind.i64 i 2))))
                                  (Tr.ite (okIdx s (iAdd IntKind.i64 i 3))
                                    (Tr.ite (iLe 0 (rdigV (sAt s (iAdd IntKind.i64 i 3))))
                                      (Tr.ite (okIdx s (iAdd IntKind.i64 i 2))
                                        (Tr.ite (okIdx s (iAdd IntKind.i64 i 3))
                                          (Tr.ite
                                            (okGrow []
                                              [[PV.int IntKind.u8
                                                    (iWrap IntKind.u8 (iAdd IntKind.i64 (iMul IntKind.i64 (rdigV (sAt s (iAdd IntKind.i64 i 2))) 16) (rdigV (sAt s (iAdd IntKind.i64 i 3)))))]]
                                              1)
                                            (Tr.ite
                                              (okNews
                                                [[PV.int IntKind.u8
                                                      (iWrap IntKind.u8 (iAdd IntKind.i64 (iMul IntKind.i64 (rdigV (sAt s (iAdd IntKind.i64 i 2))) 16) (rdigV (sAt s (iAdd IntKind.i64 i 3)))))]]
                                                1)
                                              (Tr.ite (okSize [] 1)
                                                (Tr.ret
                                                  (PExit.normal, [117, 74, 95, 87, 80, 63, 52, 46, 33, 23, 18],
                                                    [PV.str s, PV.top, PV.top, PV.top,
                                                      PV.sl
                                                        (xApp []
                                                          [[PV.int IntKind.u8
                                                                (iWrap IntKind.u8 (iAdd IntKind.i64 (iMul IntKind.i64 (rdigV (sAt s (iAdd IntKind.i64 i 2))) 16) (rdigV (sAt s (iAdd IntKind.i64 i 3)))))]])
                                                        (Tag.tok 0),
                                                      PV.int IntKind.i64 (iAdd IntKind.i64 i 4), PV.top, PV.top, PV.top, PV.top, PV.top, PV.top, PV.top, PV.top, PV.int IntKind.i64 i, PV.str s,
                                                      PV.int IntKind.i64 (sLen s), PV.bool (iLt i (sLen s)), PV.bool true, PV.str s, PV.int IntKind.i64 i, PV.int IntKind.u8 (sAt s i),
                                                      PV.bool (iNe (sAt s i) 34), PV.bool true, PV.top, PV.top, PV.top, PV.top, PV.top, PV.top, PV.top, PV.top, PV.top, PV.bool false, PV.str s,
                                                      PV.int IntKind.i64 i, PV.int IntKind.u8 (sAt s i), PV.bool (iNe (sAt s i) 92), PV.top, PV.top, PV.top, PV.top, PV.top, PV.top, PV.top, PV.top,
                                                      PV.bool false, PV.int IntKind.i64 i, PV.int IntKind.i64 (iAdd IntKind.i64 i 1), PV.str s, PV.int IntKind.i64 (sLen s),
                                                      PV.bool (iLe (sLen s) (iAdd IntKind.i64 i 1)), PV.bool false, PV.str s, PV.int IntKind.i64 i, PV.int IntKind.i64 (iAdd IntKind.i64 i 1),
                                                      PV.int IntKind.u8 (sAt s (iAdd IntKind.i64 i 1)), PV.bool (iEq (sAt s (iAdd IntKind.i64 i 1)) 110), PV.top, PV.top, PV.top, PV.top, PV.top,
                                                      PV.bool false, PV.str s, PV.int IntKind.i64 i, PV.int IntKind.i64 (iAdd IntKind.i64 i 1), PV.int IntKind.u8 (sAt s (iAdd IntKind.i64 i 1)),
                                                      PV.bool (iEq (sAt s (iAdd IntKind.i64 i 1)) 116), PV.top, PV.top, PV.top, PV.top, PV.top, PV.bool true, PV.str s, PV.int IntKind.i64 i,
                                                      PV.int IntKind.i64 (iAdd IntKind.i64 i 1), PV.int IntKind.u8 (sAt s (iAdd IntKind.i64 i 1)), PV.bool (iEq (sAt s (iAdd IntKind.i64 i 1)) 120),
                                                      PV.bool true, PV.int IntKind.i64 i, PV.int IntKind.i64 (iAdd IntKind.i64 i 3), PV.str s, PV.int IntKind.i64 (sLen s),
                                                      PV.bool (iLt (iAdd IntKind.i64 i 3) (sLen s)), PV.bool (iLt (iAdd IntKind.i64 i 3) (sLen s)), PV.bool true, PV.str s, PV.int IntKind.i64 i,
                                                      PV.int IntKind.i64 (iAdd IntKind.i64 i 2), PV.int IntKind.u8 (sAt s (iAdd IntKind.i64 i 2)),
                                                      PV.int IntKind.i64 (rdigV (sAt s (iAdd IntKind.i64 i 2))), PV.bool (iLe 0 (rdigV (sAt s (iAdd IntKind.i64 i 2)))),
                                                      PV.bool (iLe 0 (rdigV (sAt s (iAdd IntKind.i64 i 2)))), PV.bool true, PV.str s, PV.int IntKind.i64 i, PV.int IntKind.i64 (iAdd IntKind.i64 i 3),
                                                      PV.int IntKind.u8 (sAt s (iAdd IntKind.i64 i 3)), PV.int IntKind.i64 (rdigV (sAt s (iAdd IntKind.i64 i 3))),
                                                      PV.bool (iLe 0 (rdigV (sAt s (iAdd IntKind.i64 i 3)))), PV.bool (iLe 0 (rdigV (sAt s (iAdd IntKind.i64 i 3)))), PV.sl [] Tag.full, PV.str s,
                                                      PV.int IntKind.i64 i, PV.int IntKind.i64 (iAdd IntKind.i64 i 2), PV.int IntKind.u8 (sAt s (iAdd IntKind.i64 i 2)),
                                                      PV.int IntKind.i64 (rdigV (sAt s (iAdd IntKind.i64 i 2))), PV.int IntKind.i64 (iMul IntKind.i64 (rdigV (sAt s (iAdd IntKind.i64 i 2))) 16), PV.str s,
                                                      PV.int IntKind.i64 i, PV.int IntKind.i64 (iAdd IntKind.i64 i 3), PV.int IntKind.u8 (sAt s (iAdd IntKind.i64 i 3)),
                                                      PV.int IntKind.i64 (rdigV (sAt s (iAdd IntKind.i64 i 3))),
                                                      PV.int IntKind.i64 (iAdd IntKind.i64 (iMul IntKind.i64 (rdigV (sAt s (iAdd IntKind.i64 i 2))) 16) (rdigV (sAt s (iAdd IntKind.i64 i 3)))),
                                                      PV.int IntKind.u8
                                                        (iWrap IntKind.u8 (iAdd IntKind.i64 (iMul IntKind.i64 (rdigV (sAt s (iAdd IntKind.i64 i 2))) 16) (rdigV (sAt s (iAdd IntKind.i64 i 3))))),
                                                      PV.sl
                                                        [[PV.int IntKind.u8
                                                              (iWrap IntKind.u8 (iAdd IntKind.i64 (iMul IntKind.i64 (rdigV (sAt s (iAdd IntKind.i64 i 2))) 16) (rdigV (sAt s (iAdd IntKind.i64 i 3)))))]]
                                                        Tag.full,
                                                      PV.sl
                                                        (xApp []
                                                          [[PV.int IntKind.u8
                                                                (iWrap IntKind.u8 (iAdd IntKind.i64 (iMul IntKind.i64 (rdigV (sAt s (iAdd IntKind.i64 i 2))) 16) (rdigV (sAt s (iAdd IntKind.i64 i 3)))))]])
                                                        (Tag.tok 0),
                                                      PV.int IntKind.i64 i, PV.int IntKind.i64 (iAdd IntKind.i64 i 4), PV.top, PV.top, PV.top, PV.top, PV.top, PV.top, PV.top],
                                                    Store.mk []
                                                      [(nXs
                                                            (xApp []
                                                              [[PV.int IntKind.u8
                                                                    (iWrap IntKind.u8
                                                                      (iAdd IntKind.i64 (iMul IntKind.i64 (rdigV (sAt s (iAdd IntKind.i64 i 2))) 16) (rdigV (sAt s (iAdd IntKind.i64 i 3)))))]]),
                                                          1, 5)]
                                                      []))
                                                Tr.fail)
                                              Tr.fail)
                                            Tr.fail)
                                          Tr.fail)
                                        Tr.fail)
                                      (Tr.ite (okIdx s (iAdd IntKind.i64 i 1))
                                        (Tr.ite (okGrow [] [[PV.int IntKind.u8 (sAt s (iAdd IntKind.i64 i 1))]] 1)
                                          (Tr.ite (okNews [[PV.int IntKind.u8 (sAt s (iAdd IntKind.i64 i 1))]] 1)
                                            (Tr.ite (okSize [] 1)
                                              (Tr.ret
                                                (PExit.normal, [29, 74, 95, 87, 80, 63, 52, 46, 33, 23, 18],
                                                  [PV.str s, PV.top, PV.top, PV.top, PV.sl (xApp [] [[PV.int IntKind.u8 (sAt s (iAdd IntKind.i64 i 1))]]) (Tag.tok 0),
                                                    PV.int IntKind.i64 (iAdd IntKind.i64 i 2), PV.top, PV.top, PV.top, PV.top, PV.top, PV.top, PV.top, PV.top, PV.int IntKind.i64 i, PV.str s,
                                                    PV.int IntKind.i64 (sLen s), PV.bool (iLt i (sLen s)), PV.bool true, PV.str s, PV.int IntKind.i64 i, PV.int IntKind.u8 (sAt s i),
                                                    PV.bool (iNe (sAt s i) 34), PV.bool true, PV.sl [] Tag.full, PV.str s, PV.int IntKind.i64 i, PV.int IntKind.i64 (iAdd IntKind.i64 i 1),
                                                    PV.int IntKind.u8 (sAt s (iAdd IntKind.i64 i 1)), PV.sl [[PV.int IntKind.u8 (sAt s (iAdd IntKind.i64 i 1))]] Tag.full,
                                                    PV.sl (xApp [] [[PV.int IntKind.u8 (sAt s (iAdd IntKind.i64 i 1))]]) (Tag.tok 0), PV.int IntKind.i64 i, PV.int IntKind.i64 (iAdd IntKind.i64 i 2),
                                                    PV.bool false, PV.str s, PV.int IntKind.i64 i, PV.int IntKind.u8 (sAt s i), PV.bool (iNe (sAt s i) 92), PV.top, PV.top, PV.top, PV.top, PV.top, PV.top,
                                                    PV.top, PV.top, PV.bool false, PV.int IntKind.i64 i, PV.int IntKind.i64 (iAdd IntKind.i64 i 1), PV.str s, PV.int IntKind.i64 (sLen s),
                                                    PV.bool (iLe (sLen s) (iAdd IntKind.i64 i 1)), PV.bool false, PV.str s, PV.int IntKind.i64 i, PV.int IntKind.i64 (iAdd IntKind.i64 i 1),
                                                    PV.int IntKind.u8 (sAt s (iAdd IntKind.i64 i 1)), PV.bool (iEq (sAt s (iAdd IntKind.i64 i 1)) 110), PV.top, PV.top, PV.top, PV.top, PV.top,
                                                    PV.bool false, PV.str s, PV.int IntKind.i64 i, PV.int IntKind.i64 (iAdd IntKind.i64 i 1), PV.int IntKind.u8 (sAt s (iAdd IntKind.i64 i 1)),
                                                    PV.bool (iEq (sAt s (iAdd IntKind.i64 i 1)) 116), PV.top, PV.top, PV.top, PV.top, PV.top, PV.bool false, PV.str s, PV.int IntKind.i64 i,
                                                    PV.int IntKind.i64 (iAdd IntKind.i64 i 1), PV.int IntKind.u8 (sAt s (iAdd IntKind.i64 i 1)), PV.bool (iEq (sAt s (iAdd IntKind.i64 i 1)) 120),
                                                    PV.bool true, PV.int IntKind.i64 i, PV.int IntKind.i64 (iAdd IntKind.i64 i 3), PV.str s, PV.int IntKind.i64 (sLen s),
                                                    PV.bool (iLt (iAdd IntKind.i64 i 3) (sLen s)), PV.bool (iLt (iAdd IntKind.i64 i 3) (sLen s)), PV.bool true, PV.str s, PV.int IntKind.i64 i,
                                                    PV.int IntKind.i64 (iAdd IntKind.i64 i 2), PV.int IntKind.u8 (sAt s (iAdd IntKind.i64 i 2)), PV.int IntKind.i64 (rdigV (sAt s (iAdd IntKind.i64 i 2))),
                                                    PV.bool (iLe 0 (rdigV (sAt s (iAdd IntKind.i64 i 2)))), PV.bool (iLe 0 (rdigV (sAt s (iAdd IntKind.i64 i 2)))), PV.bool true, PV.str s,
                                                    PV.int IntKind.i64 i, PV.int IntKind.i64 (iAdd IntKind.i64 i 3), PV.int IntKind.u8 (sAt s (iAdd IntKind.i64 i 3)),
                                                    PV.int IntKind.i64 (rdigV (sAt s (iAdd IntKind.i64 i 3))), PV.bool (iLe 0 (rdigV (sAt s (iAdd IntKind.i64 i 3)))),
                                                    PV.bool (iLe 0 (rdigV (sAt s (iAdd IntKind.i64 i 3)))), PV.top, PV.top, PV.top, PV.top, PV.top, PV.top, PV.top, PV.top, PV.top, PV.top, PV.top, PV.top,
                                                    PV.top, PV.top, PV.top, PV.top, PV.top, PV.top, PV.top, PV.top, PV.top, PV.top, PV.top, PV.top, PV.top],
                                                  Store.mk [] [(nXs (xApp [] [[PV.int IntKind.u8 (sAt s (iAdd IntKind.i64 i 1))]]), 1, 5)] []))
                                              Tr.fail)
                                            Tr.fail)
                                          Tr.fail)
                                        Tr.fail))
                                    Tr.fail)
                                  (Tr.ite (okIdx s (iAdd IntKind.i64 i 1))
                                    (Tr.ite (okGrow [] [[PV.int IntKind.u8 (sAt s (iAdd IntKind.i64 i 1))]] 1)
                                      (Tr.ite (okNews [[PV.int IntKind.u8 (sAt s (iAdd IntKind.i64 i 1))]] 1)
                                        (Tr.ite (okSize [] 1)
                                          (Tr.ret
                                            (PExit.normal, [29, 74, 102, 95, 87, 80, 63, 52, 46, 33, 23, 18],
                                              [PV.str s, PV.top, PV.top, PV.top, PV.sl (xApp [] [[PV.int IntKind.u8 (sAt s (iAdd IntKind.i64 i 1))]]) (Tag.tok 0),
                                                PV.int IntKind.i64 (iAdd IntKind.i64 i 2), PV.top, PV.top, PV.top, PV.top, PV.top, PV.top, PV.top, PV.top, PV.int IntKind.i64 i, PV.str s,
                                                PV.int IntKind.i64 (sLen s), PV.bool (iLt i (sLen s)), PV.bool true, PV.str s, PV.int IntKind.i64 i, PV.int IntKind.u8 (sAt s i),
                                                PV.bool (iNe (sAt s i) 34), PV.bool true, PV.sl [] Tag.full, PV.str s, PV.int IntKind.i64 i, PV.int IntKind.i64 (iAdd IntKind.i64 i 1),
                                                PV.int IntKind.u8 (sAt s (iAdd IntKind.i64 i 1)), PV.sl [[PV.int IntKind.u8 (sAt s (iAdd IntKind.i64 i 1))]] Tag.full,
                                                PV.sl (xApp [] [[PV.int IntKind.u8 (sAt s (iAdd IntKind.i64 i 1))]]) (Tag.tok 0), PV.int IntKind.i64 i, PV.int IntKind.i64 (iAdd IntKind.i64 i 2),
                                                PV.bool false, PV.str s, PV.int IntKind.i64 i, PV.int IntKind.u8 (sAt s i), PV.bool (iNe (sAt s i) 92), PV.top, PV.top, PV.top, PV.top, PV.top, PV.top,
                                                PV.top, PV.top, PV.bool false, PV.int IntKind.i64 i, PV.int IntKind.i64 (iAdd IntKind.i64 i 1), PV.str s, PV.int IntKind.i64 (sLen s),
                                                PV.bool (iLe (sLen s) (iAdd IntKind.i64 i 1)), PV.bool false, PV.str s, PV.int IntKind.i64 i, PV.int IntKind.i64 (iAdd IntKind.i64 i 1),
                                                PV.int IntKind.u8 (sAt s (iAdd IntKind.i64 i 1)), PV.bool (iEq (sAt s (iAdd IntKind.i64 i 1)) 110), PV.top, PV.top, PV.top, PV.top, PV.top, PV.bool false,
                                                PV.str s, PV.int IntKind.i64 i, PV.int IntKind.i64 (iAdd IntKind.i64 i 1), PV.int IntKind.u8 (sAt s (iAdd IntKind.i64 i 1)),
                                                PV.bool (iEq (sAt s (iAdd IntKind.i64 i 1)) 116), PV.top, PV.top, PV.top, PV.top, PV.top, PV.bool false, PV.str s, PV.int IntKind.i64 i,
                                                PV.int IntKind.i64 (iAdd IntKind.i64 i 1), PV.int IntKind.u8 (sAt s (iAdd IntKind.i64 i 1)), PV.bool (iEq (sAt s (iAdd IntKind.i64 i 1)) 120), PV.bool true,
                                                PV.int IntKind.i64 i, PV.int IntKind.i64 (iAdd IntKind.i64 i 3), PV.str s, PV.int IntKind.i64 (sLen s), PV.bool (iLt (iAdd IntKind.i64 i 3) (sLen s)),
                                                PV.bool (iLt (iAdd IntKind.i64 i 3) (sLen s)), PV.bool true, PV.str s, PV.int IntKind.i64 i, PV.int IntKind.i64 (iAdd IntKind.i64 i 2),
                                                PV.int IntKind.u8 (sAt s (iAdd IntKind.i64 i 2)), PV.int IntKind.i64 (rdigV (sAt s (iAdd IntKind.i64 i 2))),
                                                PV.bool (iLe 0 (rdigV (sAt s (iAdd IntKind.i64 i 2)))), PV.bool (iLe 0 (rdigV (sAt s (iAdd IntKind.i64 i 2)))), PV.bool false, PV.tup [], PV.tup [],
                                                PV.tup [], PV.tup [], PV.tup [], PV.tup [], PV.bool false, PV.top, PV.top, PV.top, PV.top, PV.top, PV.top, PV.top, PV.top, PV.top, PV.top, PV.top, PV.top,
                                                PV.top, PV.top, PV.top, PV.top, PV.top, PV.top, PV.top, PV.top, PV.top, PV.top, PV.top, PV.top, PV.top],
                                              Store.mk [] [(nXs (xApp [] [[PV.int IntKind.u8 (sAt s (iAdd IntKind.i64 i 1))]]), 1, 5)] []))
                                          Tr.fail)
                                        Tr.fail)
                                      Tr.fail)
                                    Tr.fail))
                                Tr.fail)
                              (Tr.ite (okIdx s (iAdd IntKind.i64 i 1))
                                (Tr.ite (okGrow [] [[PV.int IntKind.u8 (sAt s (iAdd IntKind.i64 i 1))]] 1)
                                  (Tr.ite (okNews [[PV.int IntKind.u8 (sAt s (iAdd IntKind.i64 i 1))]] 1)
                                    (Tr.ite (okSize [] 1)
                                      (Tr.ret
                                        (PExit.normal, [29, 74, 102, 95, 94, 87, 80, 63, 52, 46, 33, 23, 18],
                                          [PV.str s, PV.top, PV.top, PV.top, PV.sl (xApp [] [[PV.int IntKind.u8 (sAt s (iAdd IntKind.i64 i 1))]]) (Tag.tok 0), PV.int IntKind.i64 (iAdd IntKind.i64 i 2),
                                            PV.top, PV.top, PV.top, PV.top, PV.top, PV.top, PV.top, PV.top, PV.int IntKind.i64 i, PV.str s, PV.int IntKind.i64 (sLen s), PV.bool (iLt i (sLen s)),
                                            PV.bool true, PV.str s, PV.int IntKind.i64 i, PV.int IntKind.u8 (sAt s i), PV.bool (iNe (sAt s i) 34), PV.bool true, PV.sl [] Tag.full, PV.str s,
                                            PV.int IntKind.i64 i, PV.int IntKind.i64 (iAdd IntKind.i64 i 1), PV.int IntKind.u8 (sAt s (iAdd IntKind.i64 i 1)),
                                            PV.sl [[PV.int IntKind.u8 (sAt s (iAdd IntKind.i64 i 1))]] Tag.full, PV.sl (xApp [] [[PV.int IntKind.u8 (sAt s (iAdd IntKind.i64 i 1))]]) (Tag.tok 0),
                                            PV.int IntKind.i64 i, PV.int IntKind.i64 (iAdd IntKind.i64 i 2), PV.bool false, PV.str s, PV.int IntKind.i64 i, PV.int IntKind.u8 (sAt s i),
                                            PV.bool (iNe (sAt s i) 92), PV.top, PV.top, PV.top, PV.top, PV.top, PV.top, PV.top, PV.top, PV.bool false, PV.int IntKind.i64 i,
                                            PV.int IntKind.i64 (iAdd IntKind.i64 i 1), PV.str s, PV.int IntKind.i64 (sLen s), PV.bool (iLe (sLen s) (iAdd IntKind.i64 i 1)), PV.bool false, PV.str s,
                                            PV.int IntKind.i64 i, PV.int IntKind.i64 (iAdd IntKind.i64 i 1), PV.int IntKind.u8 (sAt s (iAdd IntKind.i64 i 1)),
                                            PV.bool (iEq (sAt s (iAdd IntKind.i64 i 1)) 110), PV.top, PV.top, PV.top, PV.top, PV.top, PV.bool false, PV.str s, PV.int IntKind.i64 i,
                                            PV.int IntKind.i64 (iAdd IntKind.i64 i 1), PV.int IntKind.u8 (sAt s (iAdd IntKind.i64 i 1)), PV.bool (iEq (sAt s (iAdd IntKind.i64 i 1)) 116), PV.top, PV.top,
                                            PV.top, PV.top, PV.top, PV.bool false, PV.str s, PV.int IntKind.i64 i, PV.int IntKind.i64 (iAdd IntKind.i64 i 1),
                                            PV.int IntKind.u8 (sAt s (iAdd IntKind.i64 i 1)), PV.bool (iEq (sAt s (iAdd IntKind.i64 i 1)) 120), PV.bool true, PV.int IntKind.i64 i,
                                            PV.int IntKind.i64 (iAdd IntKind.i64 i 3), PV.str s, PV.int IntKind.i64 (sLen s), PV.bool (iLt (iAdd IntKind.i64 i 3) (sLen s)),
                                            PV.bool (iLt (iAdd IntKind.i64 i 3) (sLen s)), PV.bool false, PV.tup [], PV.tup [], PV.tup [], PV.tup [], PV.tup [], PV.tup [], PV.bool false, PV.bool false,
                                            PV.tup [], PV.tup [], PV.tup [], PV.tup [], PV.tup [], PV.tup [], PV.bool false, PV.top, PV.top, PV.top, PV.top, PV.top, PV.top, PV.top, PV.top, PV.top, PV.top,
                                            PV.top, PV.top, PV.top, PV.top, PV.top, PV.top, PV.top, PV.top, PV.top, PV.top, PV.top, PV.top, PV.top, PV.top, PV.top],
                                          Store.mk [] [(nXs (xApp [] [[PV.int IntKind.u8 (sAt s (iAdd IntKind.i64 i 1))]]), 1, 5)] []))
                                      Tr.fail)
                                    Tr.fail)
                                  Tr.fail)
                                Tr.fail))
                            (Tr.ite (okIdx s (iAdd IntKind.i64 i 1))
                              (Tr.ite (okGrow [] [[PV.int IntKind.u8 (sAt s (iAdd IntKind.i64 i 1))]] 1)
                                (Tr.ite (okNews [[PV.int IntKind.u8 (sAt s (iAdd IntKind.i64 i 1))]] 1)
                                  (Tr.ite (okSize [] 1)
                                    (Tr.ret
                                      (PExit.normal, [29, 74, 102, 95, 94, 87, 86, 80, 63, 52, 46, 33, 23, 18],
                                        [PV.str s, PV.top, PV.top, PV.top, PV.sl (xApp [] [[PV.int IntKind.u8 (sAt s (iAdd IntKind.i64 i 1))]]) (Tag.tok 0), PV.int IntKind.i64 (iAdd IntKind.i64 i 2),
                                          PV.top, PV.top, PV.top, PV.top, PV.top, PV.top, PV.top, PV.top, PV.int IntKind.i64 i, PV.str s, PV.int IntKind.i64 (sLen s), PV.bool (iLt i (sLen s)),
                                          PV.bool true, PV.str s, PV.int IntKind.i64 i, PV.int IntKind.u8 (sAt s i), PV.bool (iNe (sAt s i) 34), PV.bool true, PV.sl [] Tag.full, PV.str s,
                                          PV.int IntKind.i64 i, PV.int IntKind.i64 (iAdd IntKind.i64 i 1), PV.int IntKind.u8 (sAt s (iAdd IntKind.i64 i 1)),
                                          PV.sl [[PV.int IntKind.u8 (sAt s (iAdd IntKind.i64 i 1))]] Tag.full, PV.sl (xApp [] [[PV.int IntKind.u8 (sAt s (iAdd IntKind.i64 i 1))]]) (Tag.tok 0),
                                          PV.int IntKind.i64 i, PV.int IntKind.i64 (iAdd IntKind.i64 i 2), PV.bool false, PV.str s, PV.int IntKind.i64 i, PV.int IntKind.u8 (sAt s i),
                                          PV.bool (iNe (sAt s i) 92), PV.top, PV.top, PV.top, PV.top, PV.top, PV.top, PV.top, PV.top, PV.bool false, PV.int IntKind.i64 i,
                                          PV.int IntKind.i64 (iAdd IntKind.i64 i 1), PV.str s, PV.int IntKind.i64 (sLen s), PV.bool (iLe (sLen s) (iAdd IntKind.i64 i 1)), PV.bool false, PV.str s,
                                          PV.int IntKind.i64 i, PV.int IntKind.i64 (iAdd IntKind.i64 i 1), PV.int IntKind.u8 (sAt s (iAdd IntKind.i64 i 1)),
                                          PV.bool (iEq (sAt s (iAdd IntKind.i64 i 1)) 110), PV.top, PV.top, PV.top, PV.top, PV.top, PV.bool false, PV.str s, PV.int IntKind.i64 i,
                                          PV.int IntKind.i64 (iAdd IntKind.i64 i 1), PV.int IntKind.u8 (sAt s (iAdd IntKind.i64 i 1)), PV.bool (iEq (sAt s (iAdd IntKind.i64 i 1)) 116), PV.top, PV.top,
                                          PV.top, PV.top, PV.top, PV.bool false, PV.str s, PV.int IntKind.i64 i, PV.int IntKind.i64 (iAdd IntKind.i64 i 1),
                                          PV.int IntKind.u8 (sAt s (iAdd IntKind.i64 i 1)), PV.bool (iEq (sAt s (iAdd IntKind.i64 i 1)) 120), PV.bool false, PV.tup [], PV.tup [], PV.tup [], PV.tup [],
                                          PV.tup [], PV.bool false, PV.bool false, PV.tup [], PV.tup [], PV.tup [], PV.tup [], PV.tup [], PV.tup [], PV.bool false, PV.bool false, PV.tup [], PV.tup [],
                                          PV.tup [], PV.tup [], PV.tup [], PV.tup [], PV.bool false, PV.top, PV.top, PV.top, PV.top, PV.top, PV.top, PV.top, PV.top, PV.top, PV.top, PV.top, PV.top, PV.top,
                                          PV.top, PV.top, PV.top, PV.top, PV.top, PV.top, PV.top, PV.top, PV.top, PV.top, PV.top, PV.top],
                                        Store.mk [] [(nXs (xApp [] [[PV.int IntKind.u8 (sAt s (iAdd IntKind.i64 i 1))]]), 1, 5)] []))
                                    Tr.fail)
                                  Tr.fail)
                                Tr.fail)
                              Tr.fail))
                          Tr.fail))
                      Tr.fail))
                  Tr.fail)))
            Tr.fail)
          (Tr.ret
            (PExit.exit 0, [23, 18],
              [PV.str s, PV.top, PV.top, PV.top, PV.sl [] Tag.full, PV.int IntKind.i64 i, PV.top, PV.top, PV.top, PV.top, PV.top, PV.top, PV.top, PV.top, PV.int IntKind.i64 i, PV.str s,
                PV.int IntKind.i64 (sLen s), PV.bool (iLt i (sLen s)), PV.bool true, PV.str s, PV.int IntKind.i64 i, PV.int IntKind.u8 (sAt s i), PV.bool (iNe (sAt s i) 34), PV.bool false, PV.top, PV.top,
                PV.top, PV.top, PV.top, PV.top, PV.top, PV.top, PV.top, PV.top, PV.top, PV.top, PV.top, PV.top, PV.top, PV.top, PV.top, PV.top, PV.top, PV.top, PV.top, PV.top, PV.top, PV.top, PV.top,
                PV.top, PV.top, PV.top, PV.top, PV.top, PV.top, PV.top, PV.top, PV.top, PV.top, PV.top, PV.top, PV.top, PV.top, PV.top, PV.top, PV.top, PV.top, PV.top, PV.top, PV.top, PV.top, PV.top,
                PV.top, PV.top, PV.top, PV.top, PV.top, PV.top, PV.top, PV.top, PV.top, PV.top, PV.top, PV.top, PV.top, PV.top, PV.top, PV.top, PV.top, PV.top, PV.top, PV.top, PV.top, PV.top, PV.top,
                PV.top, PV.top, PV.top, PV.top, PV.top, PV.top, PV.top, PV.top, PV.top, PV.top, PV.top, PV.top, PV.top, PV.top, PV.top, PV.top, PV.top, PV.top, PV.top, PV.top, PV.top, PV.top, PV.top,
                PV.top, PV.top, PV.top, PV.top, PV.top, PV.top, PV.top, PV.top, PV.top, PV.top],
              Store.mk [] [] [])))
        Tr.fail)
      (Tr.ret
        (PExit.exit 0, [23, 18],
          [PV.str s, PV.top, PV.top, PV.top, PV.sl [] Tag.full, PV.int IntKind.i64 i, PV.top, PV.top, PV.top, PV.top, PV.top, PV.top, PV.top, PV.top, PV.int IntKind.i64 i, PV.str s,
            PV.int IntKind.i64 (sLen s), PV.bool (iLt i (sLen s)), PV.bool false, PV.tup [], PV.tup [], PV.tup [], PV.tup [], PV.bool false, PV.top, PV.top, PV.top, PV.top, PV.top, PV.top, PV.top, PV.top,
            PV.top, PV.top, PV.top, PV.top, PV.top, PV.top, PV.top, PV.top, PV.top, PV.top, PV.top, PV.top, PV.top, PV.top, PV.top, PV.top, PV.top, PV.top, PV.top, PV.top, PV.top, PV.top, PV.top, PV.top,
            PV.top, PV.top, PV.top, PV.top, PV.top, PV.top, PV.top, PV.top, PV.top, PV.top, PV.top, PV.top, PV.top, PV.top, PV.top, PV.top, PV.top, PV.top, PV.top, PV.top, PV.top, PV.top, PV.top, PV.top,
            PV.top, PV.top, PV.top, PV.top, PV.top, PV.top, PV.top, PV.top, PV.top, PV.top, PV.top, PV.top, PV.top, PV.top, PV.top, PV.top, PV.top, PV.top, PV.top, PV.top, PV.top, PV.top, PV.top, PV.top,
            PV.top, PV.top, PV.top, PV.top, PV.top, PV.top, PV.top, PV.top, PV.top, PV.top, PV.top, PV.top, PV.top, PV.top, PV.top, PV.top, PV.top, PV.top, PV.top, PV.top, PV.top, PV.top, PV.top, PV.top],
          Store.mk [] [] []))) (by kernel_rfl) ?_
  cases r with
  | nil =>
    have hl := congrArg List.length hr
    simp at hl
    obtain ⟨rfl, rfl, rfl⟩ := hstop rfl
    exact Tr.all_f (by simp; omega) ⟨rfl, by simp [Weak, mk, mkFrom, look], rfl⟩
  | cons c t =>
    obtain ⟨hv, hd1, hl1⟩ := drop_get hr
    have hb1 : True := trivial
    have a0 : sAt s i = c.toNat := sAt_get hv
    have k0 : okIdx s i = true := okIdx_get (by omega) hv
    have n1 : (i + 1).toNat = i.toNat + 1 := by omega
    have n2 : (i + 2).toNat = i.toNat + 1 + 1 := by omega
    have n3 : (i + 3).toNat = i.toNat + 1 + 1 + 1 := by omega
    have w1 : iAdd .i64 i 1 = i + 1 := wrap_i64 (by omega)
    have w2 : iAdd .i64 i 2 = i + 2 := wrap_i64 (by omega)
    have w3 : iAdd .i64 i 3 = i + 3 := wrap_i64 (by omega)
    have w4 : iAdd .i64 i 4 = i + 4 := wrap_i64 (by omega)
    simp only [a0, w1, w2, w3, w4]
    refine Tr.all_t (by simp; omega) <| Tr.all_t k0 ?_
    by_cases c34 : c = 34
    · obtain ⟨rfl, rfl, rfl⟩ := hstop (by simp [rS, c34])
      exact Tr.all_f (iNe_byte_eq (k := 34) c34) ⟨rfl, by simp [Weak, mk, mkFrom, look], rfl⟩
    · refine Tr.all_t (iNe_byte_ne (k := 34) c34) <| Tr.all_t k0 ?_
      by_cases c92 : c = 92
      · refine Tr.all_f (iNe_byte_eq (k := 92) c92) ?_
        cases t with
        | nil =>
          obtain ⟨rfl, rfl, rfl⟩ := hbad (by simp [rS, c92])
          exact Tr.all_t (by simp at hl1 ⊢; omega) ⟨rfl, by simp [Weak, mk, mkFrom, look], rfl⟩
        | cons e' u =>
          obtain ⟨hv1, hd2, hl2⟩ := drop_get hd1
          have a1 : sAt s (i + 1) = e'.toNat := sAt_get (by rw [n1]; exact hv1)
          have k1 : okIdx s (i + 1) = true := okIdx_get (by omega) (by rw [n1]; exact hv1)
          simp only [a1]
          refine Tr.all_f (by simp; omega) <| Tr.all_t k1 ?_
          by_cases e110 : e' = 110
          · refine Tr.all_t (iEq_byte_eq (k := 110) e110) ?_
            refine Tr.all_t (by simp) <| Tr.all_t (by simp [one]) <| Tr.all_t (by simp) ?_
            simp only [xApp_nil1 10 (n := 10) rfl, nXs_bytes]
            refine LDoes.into ?_ (hone 10 2 (by simp [rS, c92, e110]))
            simp [Weak, mk, mkFrom, look]
          · refine Tr.all_f (iEq_byte_ne (k := 110) e110) <| Tr.all_t k1 ?_
            by_cases e116 : e' = 116
            · refine Tr.all_t (iEq_byte_eq (k := 116) e116) ?_
              refine Tr.all_t (by simp) <| Tr.all_t (by simp [one]) <| Tr.all_t (by simp) ?_
              simp only [xApp_nil1 9 (n := 9) rfl, nXs_bytes]
              refine LDoes.into ?_ (hone 9 2 (by simp [rS, c92, e110, e116]))
              simp [Weak, mk, mkFrom, look]
            · refine Tr.all_f (iEq_byte_ne (k := 116) e116) <| Tr.all_t k1 ?_
              by_cases e120 : e' = 120
              · refine Tr.all_t (iEq_byte_eq (k := 120) e120) ?_
                cases u with
                | nil =>
                  refine Tr.all_f (by simp at hl2 ⊢; omega) <| Tr.all_t k1 ?_
                  refine Tr.all_t (by simp) <| Tr.all_t (by simp [one]) <| Tr.all_t (by simp) ?_
                  simp only [xApp_nil1 e' rfl, nXs_bytes]
                  refine LDoes.into ?_ (hone e' 2 (by simp [rS, c92, e110, e116, e120, hexOk]))
                  simp [Weak, mk, mkFrom, look]
                | cons h1 u =>
                  obtain ⟨hv2, hd3, hl3⟩ := drop_get hd2
                  cases u with
                  | nil =>
                    refine Tr.all_f (by simp at hl3 ⊢; omega) <| Tr.all_t k1 ?_
                    refine Tr.all_t (by simp) <| Tr.all_t (by simp [one]) <| Tr.all_t (by simp) ?_
                    simp only [xApp_nil1 e' rfl, nXs_bytes]
                    refine LDoes.into ?_ (hone e' 2 (by simp [rS, c92, e110, e116, e120, hexOk]))
                    simp [Weak, mk, mkFrom, look]
                  | cons h2 u =>
                    obtain ⟨hv3, hd4, hl4⟩ := drop_get hd3
                    have a2 : sAt s (i + 2) = h1.toNat := sAt_get (by rw [n2]; exact hv2)
                    have k2 : okIdx s (i + 2) = true := okIdx_get (by omega) (by rw [n2]; exact hv2)
                    have a3 : sAt s (i + 3) = h2.toNat := sAt_get (by rw [n3]; exact hv3)
                    have k3 : okIdx s (i + 3) = true := okIdx_get (by omega) (by rw [n3]; exact hv3)
                    simp only [a2, a3]
                    refine Tr.all_t (by simp; omega) <| Tr.all_t k2 ?_
                    by_cases g1 : 0 ≤ rdigV h1.toNat
                    · refine Tr.all_t (by simpa using g1) <| Tr.all_t k3 ?_
                      by_cases g2 : 0 ≤ rdigV h2.toNat
                      · refine Tr.all_t (by simpa using g2) <| Tr.all_t k2 <| Tr.all_t k3 ?_
                        refine Tr.all_t (by simp) <| Tr.all_t (by simp [one]) <| Tr.all_t (by simp) ?_
                        simp only [xApp_nil1 (hexW (h1 :: h2 :: u)) hexW_eq, nXs_bytes]
                        refine LDoes.into ?_ (hone (hexW (h1 :: h2 :: u)) 4 (by simp [rS, c92, e110, e116, e120, hexOk, g1, g2]))
                        simp [Weak, mk, mkFrom, look]
                      · refine Tr.all_f (by simpa using g2) <| Tr.all_t k1 ?_
                        refine Tr.all_t (by simp) <| Tr.all_t (by simp [one]) <| Tr.all_t (by simp) ?_
                        simp only [xApp_nil1 e' rfl, nXs_bytes]
                        refine LDoes.into ?_ (hone e' 2 (by simp [rS, c92, e110, e116, e120, hexOk, g1, g2]))
                        simp [Weak, mk, mkFrom, look]
                    · refine Tr.all_f (by simpa using g1) <| Tr.all_t k1 ?_
                      refine Tr.all_t (by simp) <| Tr.all_t (by simp [one]) <| Tr.all_t (by simp) ?_
                      simp only [xApp_nil1 e' rfl, nXs_bytes]
                      refine LDoes.into ?_ (hone e' 2 (by simp [rS, c92, e110, e116, e120, hexOk, g1]))
                      simp [Weak, mk, mkFrom, look]
              · refine Tr.all_f (iEq_byte_ne (k := 120) e120) <| Tr.all_t k1 ?_
                refine Tr.all_t (by simp) <| Tr.all_t (by simp [one]) <| Tr.all_t (by simp) ?_
                simp only [xApp_nil1 e' rfl, nXs_bytes]
                refine LDoes.into ?_ (hone e' 2 (by simp [rS, c92, e110, e116, e120]))
                simp [Weak, mk, mkFrom, look]
      · refine Tr.all_t (iNe_byte_ne (k := 92) c92) <| Tr.all_t k0 ?_
        refine Tr.all_t (by simp) <| Tr.all_t (by simp [one]) <| Tr.all_t (by simp) ?_
        simp only [xApp_nil1 c rfl, nXs_bytes]
        refine LDoes.into ?_ (hone c 1 (by simp [rS, c34, c92]))
        simp [Weak, mk, mkFrom, look]


def outB (b r : List UInt8) : PExit × List (Nat × PV) × Store := match rP r with
  | some p => (.exit 0, [(0, .str s), (4, .sl (bytesOf (b ++ p.1)) (.tok 0)), (5, .int .i64 ((s.length : Int) - p.2.length))], ⟨[], [(nLen (b ++ p.1), 1, 5)], []⟩)
  | none => (.ret, [(2, .str []), (3, .bool false)], ⟨[], [(b.length + rL r, 1, 5)], []⟩)
theorem key_RSym (hs : s.length ≤ 140737488355328) : ∀ (k : Nat) (b : List UInt8) (i : Int) (r : List UInt8), r.length ≤ k → 1 ≤ i → s.drop i.toNat = r → i ≤ s.length → b.length + r.length ≤ 140737488355328 →
    outB s b r = (e, out, σ') →
    LDoes Tryd.prog gl c_RSym (mk 128 ([0, 4, 5].zip [.str s, .sl (bytesOf b) (.tok 0), .int .i64 i])) ⟨[], [(nLen b, 1, 5)], []⟩ e (mk 128 out) σ' := by
  intro k
  induction k with
  | zero =>
    intro b i r hk hi hr hil hb h
    have : r = [] := by apply List.eq_nil_of_length_eq_zero; omega
    subst this
    have hl := congrArg List.length hr
    simp at hl
    refine walkB_RSym gl s e out σ' hs b i [] hi hr hil hb ?_ (fun h => by cases h) (fun x k h => by cases h)
    intro hS
    rw [outB, rP_stop hS] at h
    simp at h
    obtain ⟨rfl, rfl, rfl⟩ := h
    have : i = s.length := by omega
    simp [this]
  | succ k ih =>
    intro b i r hk hi hr hil hb h
    have hl := congrArg List.length hr
    simp at hl
    refine walkB_RSym gl s e out σ' hs b i r hi hr hil hb ?_ ?_ ?_
    · intro hS
      rw [outB, rP_stop hS] at h
      simp at h
      obtain ⟨rfl, rfl, rfl⟩ := h
      have : i = (s.length : Int) - r.length := by omega
      simp [this]
    · intro hS
      rw [outB, rP_bad hS, rL_bad hS] at h
      simp at h
      obtain ⟨rfl, rfl, rfl⟩ := h
      simp
    · intro x j hS
      have hj := rS_k hS
      refine ih (b ++ [x]) (i + j) (r.drop j) (by simp; omega) (by omega) ?_ (by omega) (by simp; omega) ?_
      · rw [← hr, List.drop_drop]
        congr 1
        omega
      · rw [outB, rP_one hS, rL_one hS] at h
        rw [← h, outB]
        cases hq : rP (r.drop j) with
        | none => simp; omega
        | some p => simp
theorem loop_RSym : ∀ vs σ a, d_RSym vs σ = some a → (r_RSym a).run = some (e, out, σ') → LDoes Tryd.prog gl c_RSym (mk 128 ([0, 4, 5].zip vs)) σ e (mk 128 out) σ' := by
  intro vs st a hd hr
  unfold d_RSym at hd
  split at hd
  · rename_i s i
    injection hd with hd
    subst hd
    obtain ⟨h1, q1⟩ := Tr.chk_some hr
    obtain ⟨h2, q2⟩ := Tr.chk_some q1
    obtain ⟨h3, q3⟩ := Tr.chk_some q2
    clear hr q1 q2
    simp at h1 h2 h3
    subst h1
    have hl : (s.drop 1).length + 1 = s.length := by simp; omega
    refine walkA_RSym gl s e out σ' h2 1 (s.drop 1) (by omega) rfl (by omega) ?_ ?_ ?_
    · intro hS
      have hp := rP_stop hS
      simp only [okRP, rpB, rpI, hp] at q3
      simp at q3
      obtain ⟨rfl, rfl, rfl⟩ := q3
      simp
      omega
    · intro hS
      have hp := rP_bad hS
      have hq := rL_bad hS
      simp only [okRP, rpL, hp, hq] at q3
      simp at q3
      obtain ⟨rfl, rfl, rfl⟩ := q3
      simp
    · intro x j hS
      have hj := rS_k hS
      have hp := rP_one hS
      have hq := rL_one hS
      refine key_RSym gl s e out σ' h2 s.length [x] (1 + j) ((s.drop 1).drop j) (by simp; try omega) (by omega) ?_ (by omega) (by simp; try omega) ?_
      · rw [List.drop_drop]
        congr 1
        try omega
      · rw [outB]
        cases hr : rP ((s.drop 1).drop j) with
        | none =>
          rw [hr] at hp
          simp only [okRP, rpL, hp, hq] at q3
          simp at q3
          obtain ⟨rfl, rfl, rfl⟩ := q3
          simp [Nat.add_comm]
        | some p =>
          rw [hr] at hp
          simp only [okRP, rpB, rpI, hp] at q3
          simp at q3
          obtain ⟨rfl, rfl, rfl⟩ := q3
          simp
  · cases hd
end
def rsO (s : List UInt8) : List UInt8 × Bool := if s.length < 2 ∨ s.head? ≠ some 34 then ([], false) else match rP (s.drop 1) with
  | none => ([], false)
  | some p => (p.1, decide (p.2.length = 1))
def rsV (s : List UInt8) : List UInt8 := (rsO s).1
def okRs (s : List UInt8) : Bool := (rsO s).2
def F_RSymbol : List PV → Tr PV
  | [.str s] => Tr.chk (okLen s) (.ret (.tup [.str (rsV s), .bool (okRs s)]))
  | _ => .fail
theorem sim_RSymbol (gl : Gl) : SimP Tryd.prog gl 64 fun args => (F_RSymbol args).run := by
  refine SimP.of_tree (G := ofL [(76, .pure F_Rdig)]) (L := L_RSym) tbT_ok (gamOk_cons (sim_Rdig gl) gamOk_nil) noMixed Tryd.func64 rfl (by rfl) (by kernel_rfl) (loopOk_one (r := 5) (c1 := c_RSym) (by kernel_rfl) ?_) ?_
  · intro fr σ e fr' σ' hh
    simp only [lps, L_RSym, if_true] at hh
    exact oracle_ok (fun vs σ a e out σ' => loop_RSym gl e out σ' vs σ a) fr σ e fr' σ' hh
  intro args x h hr
  unfold F_RSymbol at h
  split at h
  · rename_i s
    obtain ⟨h1, h2⟩ := Tr.chk_some h
    cases h2
    refine Tr.run_as (Tr.ite (iLt (sLen s) 2) (Tr.ret (PV.tup [PV.str [], PV.bool false]))
        (Tr.ite (okIdx s 0)
          (Tr.ite (iNe (sAt s 0) 34) (Tr.ret (PV.tup [PV.str [], PV.bool false]))
            (Tr.ite (iEq 1 1)
              (Tr.ite (okLen s)
                (Tr.ite (iLe 1 (sLen s))
                  (Tr.ite (okRP s)
                    (Tr.ite (sEq (rpB s) []) (Tr.ite (okBytes []) (Tr.ret (PV.tup [PV.str (unBytes []), PV.bool (iEq (rpI s) (iSub IntKind.i64 (sLen s) 1))])) Tr.fail)
                      (Tr.ite (okBytes (bytesOf (rpB s))) (Tr.ret (PV.tup [PV.str (unBytes (bytesOf (rpB s))), PV.bool (iEq (rpI s) (iSub IntKind.i64 (sLen s) 1))])) Tr.fail))
                    (Tr.ite (nEq (rpL s) 0) (Tr.ret (PV.tup [PV.str [], PV.bool false])) (Tr.ret (PV.tup [PV.str [], PV.bool false]))))
                  Tr.fail)
                Tr.fail)
              Tr.fail))
          Tr.fail)) (by kernel_rfl) ?_
    have hl : s.length ≤ 140737488355328 := by simpa using h1
    by_cases hs2 : s.length < 2
    · have l1 : iLt (sLen s) 2 = true := by simp; omega
      rw [l1]
      simp [rsV, okRs, rsO, hs2]
    · have l1 : iLt (sLen s) 2 = false := by simp; omega
      have l2 : okIdx s 0 = true := by simp; omega
      have l3 : iLe 1 (sLen s) = true := by simp; omega
      have l4 : iSub .i64 (sLen s) 1 = s.length - 1 := by unfold iSub; rw [sLen_eq, wrap_i64 (by omega)]
      obtain ⟨c, hc⟩ := get_lt (l := s) (i := 0) (by omega)
      have l5 : sAt s 0 = c.toNat := sAt_get (i := 0) hc
      have hh : s.head? = some c := by rw [List.head?_eq_getElem?]; exact hc
      rw [l1, l2, l3, l4, l5, h1]
      by_cases c34 : c = 34
      · have l6 : iNe (c.toNat : Int) 34 = false := iNe_byte_eq (k := 34) c34
        rw [l6]
        have e1 : rsO s = match rP (s.drop 1) with | none => ([], false) | some p => (p.1, decide (p.2.length = 1)) := by
          unfold rsO
          rw [if_neg]
          rintro (h | h)
          · exact hs2 h
          · exact h (by rw [hh, c34])
        cases hp : rP (s.drop 1) with
        | none =>
          have k1 : okRP s = false := by simp only [okRP, hp]; rfl
          rw [k1]
          rw [hp] at e1
          simp [rsV, okRs, e1]
        | some p =>
          have k1 : okRP s = true := by simp only [okRP, hp]; rfl
          have k2 : rpB s = p.1 := by simp only [rpB, hp]
          have k3 : rpI s = (s.length : Int) - p.2.length := by simp only [rpI, hp]
          rw [hp] at e1
          have k4 : iEq ((s.length : Int) - p.2.length) ((s.length : Int) - 1) = decide (p.2.length = 1) := by
            simp only [iEq_eq]
            congr 1
            apply propext
            constructor <;> intro h <;> omega
          rw [k1, k2, k3, k4]
          by_cases he : p.1 = []
          · have : unBytes [] = [] := rfl
            have k5 : okBytes [] = true := rfl
            simp [rsV, okRs, e1, he, this, k5]
          · simp [rsV, okRs, e1, he]
      · have l6 : iNe (c.toNat : Int) 34 = true := iNe_byte_ne (k := 34) c34
        rw [l6]
        simp [rsV, okRs, rsO, hh, c34]
  · cases h
end Go.Pv

set_option maxHeartbeats 4000000
set_option maxRecDepth 200000
set_option linter.unusedSimpArgs false
set_option linter.unusedVariables false
namespace Go.Pv
open Go Go.Proofs Go.RowKit

/-! ### numbers' texts, there and back -/
theorem numN_app (c : UInt8) : ∀ (l : List UInt8) (a : Nat), numN (l ++ [c]) a = (numN l a).bind fun n => if 48 ≤ c.toNat ∧ c.toNat ≤ 57 then some (n * 10 + (c.toNat - 48)) else none
  | [], a => by simp [numN]
  | d :: l, a => by
    simp only [List.cons_append, numN]
    split
    · exact numN_app c l _
    · rfl
theorem digsN_step {u : Nat} (h : ¬ u < 10) : digsN u = digsN (u / 10) ++ [UInt8.ofNat (48 + u % 10)] := by
  conv => lhs; unfold digsN
  rw [dif_neg h]
theorem digsN_small {u : Nat} (h : u < 10) : digsN u = [UInt8.ofNat (48 + u)] := by
  unfold digsN
  rw [dif_pos h]
theorem dig_nat {d : Nat} (h : d < 10) : (UInt8.ofNat (48 + d)).toNat = 48 + d := by
  simp
  omega
theorem numN_digs : ∀ (k u : Nat), u < k → numN (digsN u) 0 = some u
  | 0, u, h => by omega
  | k + 1, u, h => by
    by_cases hu : u < 10
    · rw [digsN_small hu]
      simp only [numN, dig_nat hu]
      rw [if_pos (by omega)]
      simp
    · have hd : u % 10 < 10 := Nat.mod_lt _ (by omega)
      rw [digsN_step hu, numN_app, numN_digs k (u / 10) (by omega)]
      simp only [Option.bind_some, dig_nat hd]
      rw [if_pos (by omega)]
      congr 1
      omega
theorem digsN_dig : ∀ (k u : Nat), u < k → ∀ c ∈ digsN u, 48 ≤ c.toNat ∧ c.toNat ≤ 57
  | 0, u, h => by omega
  | k + 1, u, h => by
    intro c hc
    by_cases hu : u < 10
    · rw [digsN_small hu] at hc
      simp only [List.mem_singleton] at hc
      subst hc
      have := dig_nat hu
      omega
    · have hd : u % 10 < 10 := Nat.mod_lt _ (by omega)
      rw [digsN_step hu] at hc
      rcases List.mem_append.1 hc with hc | hc
      · exact digsN_dig k (u / 10) (by omega) c hc
      · simp only [List.mem_singleton] at hc
        subst hc
        have := dig_nat hd
        omega
theorem digsN_ne (u : Nat) : digsN u ≠ [] := by
  by_cases hu : u < 10
  · rw [digsN_small hu]; simp
  · rw [digsN_step hu]; simp
theorem digsN_head (u : Nat) : ∃ c t, digsN u = c :: t ∧ 48 ≤ c.toNat ∧ c.toNat ≤ 57 := by
  cases h : digsN u with
  | nil => exact absurd h (digsN_ne u)
  | cons c t =>
    have := digsN_dig (u + 1) u (by omega) c (by rw [h]; simp)
    exact ⟨c, t, rfl, this⟩
theorem decDigits_digsN : ∀ (k u : Nat), u < k → Lib.decDigits u = digsN u
  | 0, u, h => by omega
  | k + 1, u, h => by
    by_cases hu : u < 10
    · rw [digsN_small hu, Lib.decDigits_one hu]
    · rw [digsN_step hu, Lib.decDigits, dif_neg hu, decDigits_digsN k (u / 10) (by omega)]
theorem itoaV_eq (n : Int) : itoaV n = intV n := by
  unfold itoaV Lib.itoa intV digsV
  by_cases h : n < 0
  · rw [if_pos h, if_pos h, decDigits_digsN (n.natAbs + 1) _ (by omega)]
    congr 2
    omega
  · rw [if_neg h, if_neg h, decDigits_digsN (n.toNat + 1) _ (by omega)]
theorem pM_app (M : Nat) (c : UInt8) : ∀ (l : List UInt8) (a n : Nat), Lib.parseUintM M a l = .ok n → Lib.parseUintM M a (l ++ [c]) = Lib.parseUintM M n [c]
  | [], a, n, h => by simp [Lib.parseUintM] at h; subst h; rfl
  | d :: l, a, n, h => by
    simp only [List.cons_append, Lib.parseUintM] at h ⊢
    split at h
    · split at h
      · cases h
      · split at h
        · cases h
        · rename_i h1 h2 h3
          rw [if_pos h1, if_neg h2, if_neg h3]
          exact pM_app M c l _ n h
    · cases h
theorem pM_digs : ∀ (k u : Nat), u < k → u ≤ 18446744073709551615 → Lib.parseUintM 18446744073709551615 0 (digsN u) = .ok u
  | 0, u, h, _ => by omega
  | k + 1, u, h, hm => by
    by_cases hu : u < 10
    · rw [digsN_small hu]
      simp only [Lib.parseUintM, dig_nat hu]
      rw [if_pos (by omega), if_neg (by omega), if_neg (by omega)]
      congr 1
      omega
    · have hd : u % 10 < 10 := Nat.mod_lt _ (by omega)
      rw [digsN_step hu, pM_app _ _ _ _ (u / 10) (pM_digs k (u / 10) (by omega) (by omega))]
      simp only [Lib.parseUintM, dig_nat hd]
      rw [if_pos (by omega), if_neg (by omega), if_neg (by omega)]
      congr 1
      omega
theorem pInt {n : Int} (h : -9223372036854775808 ≤ n ∧ n ≤ 9223372036854775807) : Lib.parseIntB 64 (intV n) = .ok n := by
  unfold intV digsV
  by_cases hn : n < 0
  · rw [if_pos hn]
    have hp := pM_digs ((-n).toNat + 1) (-n).toNat (by omega) (by omega)
    have hne := digsN_ne (-n).toNat
    have e : (2 ^ 64 - 1 : Nat) = 18446744073709551615 := by decide
    have e2 : (2 ^ (64 - 1) : Nat) = 9223372036854775808 := by decide
    have e3 : (45 : UInt8).toNat = 45 := rfl
    simp only [Lib.parseIntB, Lib.parseUintB, e3, e, e2, or_true, if_true, if_neg hne, hp]
    rw [if_neg (by simp), if_neg (by simp; omega)]
    congr 1
    simp
    omega
  · rw [if_neg hn]
    have hp := pM_digs (n.toNat + 1) n.toNat (by omega) (by omega)
    obtain ⟨c, t, ht, hc1, hc2⟩ := digsN_head n.toNat
    have e : (2 ^ 64 - 1 : Nat) = 18446744073709551615 := by decide
    have e2 : (2 ^ (64 - 1) : Nat) = 9223372036854775808 := by decide
    rw [ht] at hp ⊢
    simp only [Lib.parseIntB, Lib.parseUintB]
    rw [if_neg (by omega : ¬ (c.toNat = 43 ∨ c.toNat = 45)), if_neg (by simp), e, hp]
    simp only [e2]
    rw [if_neg (by omega), if_neg (by omega), if_neg (by omega)]
    congr 1
    omega
theorem pOk_int {n : Int} (h : -9223372036854775808 ≤ n ∧ n ≤ 9223372036854775807) : pOk (intV n) = true := by unfold pOk; rw [pInt h]
theorem pVal_int {n : Int} (h : -9223372036854775808 ≤ n ∧ n ≤ 9223372036854775807) : pVal (intV n) = n := by unfold pVal; rw [pInt h]
theorem who_int {n : Int} (h : -9223372036854775808 ≤ n ∧ n ≤ 9223372036854775807) : whoO (intV n) = some n := by
  unfold intV digsV whoO
  by_cases hn : n < 0
  · rw [if_pos hn]
    have hl := digsN_len 18 (-n).toNat (by omega)
    have hp := numN_digs ((-n).toNat + 1) (-n).toNat (by omega)
    have hne := digsN_ne (-n).toNat
    simp only [List.head?_cons, if_true, List.drop_succ_cons, List.drop_zero, whoN]
    rw [if_neg (by rintro (h | h); exact hne h; omega), hp]
    simp only []
    rw [if_neg (by simp; omega)]
    congr 1
    simp
    omega
  · rw [if_neg hn]
    have hl := digsN_len 18 n.toNat (by omega)
    have hp := numN_digs (n.toNat + 1) n.toNat (by omega)
    have hne := digsN_ne n.toNat
    obtain ⟨c, t, ht, hc1, hc2⟩ := digsN_head n.toNat
    have hh : ¬ (digsN n.toNat).head? = some 45 := by
      rw [ht]
      simp
      intro h
      subst h
      revert hc1
      decide
    rw [if_neg hh]
    unfold whoN
    rw [if_neg (by rintro (h | h); exact hne h; omega), hp]
    simp only []
    rw [if_neg (by simp; omega)]
    congr 1
    simp
    omega
theorem pre_int (n : Int) : isPre (intV n) [34] = false := by
  unfold intV digsV isPre
  by_cases hn : n < 0
  · rw [if_pos hn]; simp
  · rw [if_neg hn]
    obtain ⟨c, t, ht, hc1, hc2⟩ := digsN_head n.toNat
    rw [ht]
    simp
    intro h
    subst h
    revert hc1
    decide
end Go.Pv

set_option maxHeartbeats 4000000
set_option maxRecDepth 200000
set_option linter.unusedSimpArgs false
set_option linter.unusedVariables false
namespace Go.Pv
open Go Go.Proofs Go.RowKit

/-! ### symbols' texts, there and back -/
def hx1 (c : UInt8) : UInt8 := UInt8.ofNat (sAt hexL (iShr .u8 c.toNat 4)).toNat
def hx2 (c : UInt8) : UInt8 := UInt8.ofNat (sAt hexL (iAnd .u8 c.toNat 15)).toNat
theorem oneV_is (c : UInt8) : oneV c.toNat = if c = 34 ∨ c = 92 then [92, c] else if c = 10 then [92, 110] else if c = 9 then [92, 116] else if 32 ≤ c.toNat ∧ c.toNat ≤ 126 then [c] else [92, 120, hx1 c, hx2 c] := by
  have e : ∀ k : UInt8, ((c.toNat : Int) = (k.toNat : Int)) = (c = k) := fun k => propext ⟨fun h => UInt8.toNat_inj.1 (by omega), fun h => by rw [h]⟩
  have e34 := e 34
  have e92 := e 92
  have e10 := e 10
  have e9 := e 9
  unfold oneV hx1 hx2
  have r : UInt8.ofNat (c.toNat : Int).toNat = c := by simp
  rw [r]
  have p1 : ((c.toNat : Int) = 34) = (c = 34) := e34
  have p2 : ((c.toNat : Int) = 92) = (c = 92) := e92
  have p3 : ((c.toNat : Int) = 10) = (c = 10) := e10
  have p4 : ((c.toNat : Int) = 9) = (c = 9) := e9
  have p5 : ((32 : Int) ≤ c.toNat ∧ (c.toNat : Int) ≤ 126) = (32 ≤ c.toNat ∧ c.toNat ≤ 126) := propext ⟨fun h => ⟨by omega, by omega⟩, fun h => ⟨by omega, by omega⟩⟩
  simp only [p1, p2, p3, p4, p5]
theorem hx_fin : ∀ n : Fin 256, digV (hx1 (UInt8.ofNat n.val)).toNat < 16 ∧ digV (hx2 (UInt8.ofNat n.val)).toNat < 16 ∧
    (UInt8.ofNat (iOr .u8 (iShl .u8 (digV (hx1 (UInt8.ofNat n.val)).toNat) 4) (digV (hx2 (UInt8.ofNat n.val)).toNat)).toNat).toNat = n.val ∧
    0 ≤ rdigV (hx1 (UInt8.ofNat n.val)).toNat ∧ 0 ≤ rdigV (hx2 (UInt8.ofNat n.val)).toNat ∧ (hexW [hx1 (UInt8.ofNat n.val), hx2 (UInt8.ofNat n.val)]).toNat = n.val := by decide +kernel
theorem hx_all (c : UInt8) : digV (hx1 c).toNat < 16 ∧ digV (hx2 c).toNat < 16 ∧ UInt8.ofNat (iOr .u8 (iShl .u8 (digV (hx1 c).toNat) 4) (digV (hx2 c).toNat)).toNat = c ∧
    0 ≤ rdigV (hx1 c).toNat ∧ 0 ≤ rdigV (hx2 c).toNat ∧ hexW [hx1 c, hx2 c] = c := by
  have h := hx_fin ⟨c.toNat, c.toNat_lt⟩
  simp only [UInt8.ofNat_toNat] at h
  exact ⟨h.1, h.2.1, UInt8.toNat_inj.1 h.2.2.1, h.2.2.2.1, h.2.2.2.2.1, UInt8.toNat_inj.1 h.2.2.2.2.2⟩
theorem decP_cons (c : UInt8) (t : List UInt8) : decP (c :: t) = if c = 92 then (if escN t = 0 then none else (decP (t.drop (escN t).toNat)).map (UInt8.ofNat (escB t).toNat :: ·)) else (decP t).map (c :: ·) := by rw [decP]
theorem dec_one (c : UInt8) (r : List UInt8) : decP (oneV c.toNat ++ r) = (decP r).map (c :: ·) := by
  rw [oneV_is]
  by_cases h1 : c = 34 ∨ c = 92
  · rw [if_pos h1]
    have a : sAt (c :: r) 0 = c.toNat := by simp
    have q : (c.toNat : Int) = 34 ∨ (c.toNat : Int) = 92 := by rcases h1 with rfl | rfl <;> decide
    have n1 : escN (c :: r) = 1 := by unfold escN; rw [if_neg (by simp), a, if_pos q]
    have n2 : escB (c :: r) = c.toNat := by unfold escB; rw [if_neg (by simp), a, if_pos q]
    simp only [List.cons_append, List.nil_append]
    rw [decP_cons, if_pos rfl, n1, n2]
    simp
  · rw [if_neg h1]
    by_cases h2 : c = 10
    · subst h2
      have a : sAt (110 :: r) 0 = 110 := by simp
      have n1 : escN (110 :: r) = 1 := by unfold escN; rw [if_neg (by simp), a]; simp
      have n2 : escB (110 :: r) = 10 := by unfold escB; rw [if_neg (by simp), a]; simp
      simp only [if_true, List.cons_append, List.nil_append]
      rw [decP_cons, if_pos rfl, n1, n2]
      simp
    · rw [if_neg h2]
      by_cases h3 : c = 9
      · subst h3
        have a : sAt (116 :: r) 0 = 116 := by simp
        have n1 : escN (116 :: r) = 1 := by unfold escN; rw [if_neg (by simp), a]; simp
        have n2 : escB (116 :: r) = 9 := by unfold escB; rw [if_neg (by simp), a]; simp
        simp only [if_true, List.cons_append, List.nil_append]
        rw [decP_cons, if_pos rfl, n1, n2]
        simp
      · rw [if_neg h3]
        by_cases h4 : 32 ≤ c.toNat ∧ c.toNat ≤ 126
        · rw [if_pos h4]
          simp only [List.cons_append, List.nil_append]
          rw [decP_cons, if_neg (fun h => h1 (.inr h))]
        · rw [if_neg h4]
          obtain ⟨g1, g2, g3, _⟩ := hx_all c
          have a0 : sAt (120 :: hx1 c :: hx2 c :: r) 0 = 120 := by simp
          have a1 : sAt (120 :: hx1 c :: hx2 c :: r) 1 = (hx1 c).toNat := by simp
          have a2 : sAt (120 :: hx1 c :: hx2 c :: r) 2 = (hx2 c).toNat := by simp
          have q : (120 : Int) = 120 ∧ 3 ≤ (120 :: hx1 c :: hx2 c :: r).length ∧ digV (hx1 c).toNat < 16 ∧ digV (hx2 c).toNat < 16 := ⟨rfl, by simp, g1, g2⟩
          have n1 : escN (120 :: hx1 c :: hx2 c :: r) = 3 := by unfold escN; rw [if_neg (by simp), a0, a1, a2, if_neg (by omega), if_neg (by omega), if_neg (by omega), if_pos q]
          have n2 : escB (120 :: hx1 c :: hx2 c :: r) = iOr .u8 (iShl .u8 (digV (hx1 c).toNat) 4) (digV (hx2 c).toNat) := by unfold escB; rw [if_neg (by simp), a0, a1, a2, if_neg (by omega), if_neg (by omega), if_neg (by omega), if_pos q]
          simp only [List.cons_append, List.nil_append]
          rw [decP_cons, if_pos rfl, n1, n2, g3]
          simp
theorem symB_cons (c : UInt8) (b : List UInt8) : symB (c :: b) = oneV c.toNat ++ symB b := by simp [symB]
theorem dec_sym : ∀ b : List UInt8, decP (symB b) = some b
  | [] => by simp [symB, decP]
  | c :: b => by rw [symB_cons, dec_one, dec_sym b]; rfl
theorem rS_oneV (c : UInt8) (r : List UInt8) : rS (oneV c.toNat ++ r) = .one c (oneV c.toNat).length := by
  rw [oneV_is]
  by_cases h1 : c = 34 ∨ c = 92
  · rw [if_pos h1]
    rcases h1 with rfl | rfl <;> simp [rS]
  · rw [if_neg h1]
    by_cases h2 : c = 10
    · subst h2; simp [rS]
    · rw [if_neg h2]
      by_cases h3 : c = 9
      · subst h3; simp [rS]
      · rw [if_neg h3]
        have h34 : ¬ c = 34 := fun h => h1 (.inl h)
        have h92 : ¬ c = 92 := fun h => h1 (.inr h)
        by_cases h4 : 32 ≤ c.toNat ∧ c.toNat ≤ 126
        · rw [if_pos h4]
          simp [rS, h34, h92]
        · rw [if_neg h4]
          obtain ⟨_, _, _, g4, g5, g6⟩ := hx_all c
          have g7 : hexW (hx1 c :: hx2 c :: r) = c := g6
          have g8 : hexOk (hx1 c :: hx2 c :: r) = true := by simp [hexOk, g4, g5]
          simp [rS, g7, g8]
theorem rP_sym : ∀ b : List UInt8, rP (symB b ++ [34]) = some (b, [34])
  | [] => by rw [rP_stop] <;> simp [symB, rS]
  | c :: b => by
    have e : symB (c :: b) ++ [34] = oneV c.toNat ++ (symB b ++ [34]) := by rw [symB_cons, List.append_assoc]
    rw [e, rP_one (rS_oneV c _), List.drop_left, rP_sym b]
    rfl
theorem rs_sym (b : List UInt8) : rsO (symV b) = (b, true) := by
  have e : (symV b).drop 1 = symB b ++ [34] := by simp [symV]
  unfold rsO
  rw [if_neg (by simp [symV]), e, rP_sym b]
  rfl
theorem who_sym (b : List UInt8) : whoO (symV b) = none := by
  have e : symV b = 34 :: (symB b ++ [34]) := by simp [symV]
  rw [e]
  unfold whoO
  rw [if_neg (by simp)]
  unfold whoN
  split
  · rfl
  · have : numN (34 :: (symB b ++ [34])) 0 = none := by unfold numN; rw [if_neg (by decide)]
    rw [this]
end Go.Pv

set_option maxHeartbeats 4000000
set_option maxRecDepth 200000
set_option linter.unusedSimpArgs false
set_option linter.unusedVariables false
namespace Go.Pv
open Go Go.Proofs Go.RowKit

/-! ### values of texts -/
theorem textW_eq (k n : Int) (s : List UInt8) : textW k n s = textV k n s := by unfold textW textV; rw [itoaV_eq]
/-- What may be read. -/
def valid (v : Int × Int × List UInt8) : Prop := (v.1 = 1 ∧ v.2.2 = [] ∧ -9223372036854775808 ≤ v.2.1 ∧ v.2.1 ≤ 9223372036854775807) ∨ (v.1 = 2 ∧ v.2.1 = 0 ∧ v.2.2.length ≤ 256)
def textP (v : Int × Int × List UInt8) : List UInt8 := textV v.1 v.2.1 v.2.2
theorem check_int (n : Int) : checkV 1 n [] = 0 := by simp [checkV]
theorem check_sym {b : List UInt8} : checkV 2 0 b = 0 ↔ b.length ≤ 256 := by
  unfold checkV
  by_cases h : b.length ≤ 256 <;> simp [h]
theorem text_int (n : Int) : textV 1 n [] = intV n := by simp [textV, isV]
theorem text_sym {b : List UInt8} (h : b.length ≤ 256) : textV 2 0 b = symV b := by simp [textV, isV, h]
theorem pVal_rng (s : List UInt8) : -9223372036854775808 ≤ pVal s ∧ pVal s ≤ 9223372036854775807 := by
  have h := pVal_wf s
  simp [Lit.wf, IntKind.min, IntKind.max, IntKind.signed, IntKind.bits] at h
  omega
theorem whoN_rng {m : Bool} {t : List UInt8} {n : Int} (h : whoN m t = some n) : -9223372036854775808 ≤ n ∧ n ≤ 9223372036854775807 := by
  unfold whoN at h
  split at h
  · cases h
  · split at h
    · cases h
    · rename_i x hx
      split at h
      · cases h
      · rename_i hn
        cases h
        cases m with
        | true => simp at hn ⊢; omega
        | false => simp at hn ⊢; omega
theorem who_rng {s : List UInt8} {n : Int} (h : whoO s = some n) : -9223372036854775808 ≤ n ∧ n ≤ 9223372036854775807 := by
  unfold whoO at h
  split at h
  · exact whoN_rng h
  · exact whoN_rng h
def rrV (s : List UInt8) : Option (Int × Int × List UInt8) := match whoO s with
  | some n => if checkV 1 n [] = 0 ∧ textV 1 n [] = s then some (1, n, []) else none
  | none => if (rsO s).2 = true ∧ checkV 2 0 (rsO s).1 = 0 ∧ textV 2 0 (rsO s).1 = s then some (2, 0, (rsO s).1) else none
theorem rd_ok {s : List UInt8} {v : Int × Int × List UInt8} (h : rdV s = some v) : valid v ∧ textP v = s := by
  unfold rdV at h
  split at h
  · split at h
    · split at h
      · rename_i hc
        cases h
        exact ⟨.inr ⟨rfl, rfl, check_sym.1 hc.1⟩, by unfold textP; rw [← textW_eq]; exact hc.2⟩
      · cases h
    · cases h
  · split at h
    · split at h
      · rename_i hc
        cases h
        exact ⟨.inl ⟨rfl, rfl, pVal_rng s⟩, by unfold textP; rw [← textW_eq]; exact hc.2⟩
      · cases h
    · cases h
theorem rr_ok {s : List UInt8} {v : Int × Int × List UInt8} (h : rrV s = some v) : valid v ∧ textP v = s := by
  unfold rrV at h
  split at h
  · rename_i n hn
    split at h
    · rename_i hc
      cases h
      exact ⟨.inl ⟨rfl, rfl, who_rng hn⟩, hc.2⟩
    · cases h
  · split at h
    · rename_i hc
      cases h
      exact ⟨.inr ⟨rfl, rfl, check_sym.1 hc.2.1⟩, hc.2.2⟩
    · cases h
theorem rd_back {v : Int × Int × List UInt8} (h : valid v) : rdV (textP v) = some v := by
  obtain ⟨k, n, b⟩ := v
  rcases h with ⟨h1, h2, h3⟩ | ⟨h1, h2, h3⟩
  · simp only at h1 h2 h3
    subst h1 h2
    simp only [textP, text_int]
    unfold rdV
    rw [if_neg (by rw [pre_int]; simp), pOk_int h3, pVal_int h3]
    simp [check_int, textW_eq, text_int]
  · simp only at h1 h2 h3
    subst h1 h2
    simp only [textP, text_sym h3]
    have e : symV b = 34 :: (symB b ++ [34]) := by simp [symV]
    have p1 : isPre (symV b) [34] = true := by rw [e]; simp [isPre]
    have p2 : isSuf (symV b) [34] = true := by rw [e]; simp [isSuf]
    have p3 : 2 ≤ (symV b).length := by rw [e]; simp
    have p4 : ((symV b).take ((symV b).length - 1)).drop 1 = symB b := by rw [e]; simp
    unfold rdV
    rw [if_pos ⟨p1, p2, p3⟩, p4, dec_sym b]
    simp only []
    rw [if_pos ⟨check_sym.2 h3, by rw [textW_eq, text_sym h3]⟩]
theorem rr_back {v : Int × Int × List UInt8} (h : valid v) : rrV (textP v) = some v := by
  obtain ⟨k, n, b⟩ := v
  rcases h with ⟨h1, h2, h3⟩ | ⟨h1, h2, h3⟩
  · simp only at h1 h2 h3
    subst h1 h2
    simp only [textP, text_int]
    unfold rrV
    rw [who_int h3]
    simp [check_int, text_int]
  · simp only at h1 h2 h3
    subst h1 h2
    simp only [textP, text_sym h3]
    unfold rrV
    rw [who_sym, rs_sym]
    simp only []
    rw [if_pos (by simp [check_sym.2 h3, text_sym h3])]
theorem rr_rd (s : List UInt8) : rrV s = rdV s := by
  cases h : rrV s with
  | some v =>
    obtain ⟨h1, h2⟩ := rr_ok h
    rw [← h2, rd_back h1]
  | none =>
    cases h' : rdV s with
    | none => rfl
    | some v =>
      obtain ⟨h1, h2⟩ := rd_ok h'
      rw [← h2, rr_back h1] at h
      cases h

/-! ### pedigreeref01.Read -/
theorem sim_RRead (gl : Gl) : SimP Tryd.prog gl 56 fun args => (F_Read args).run := by
  refine SimP.of_tree (G := ofL [(63, .pure F_whole), (64, .pure F_RSymbol), (65, .pure F_RText)]) (L := fun _ _ _ => .fail) tbT_ok (gamOk_cons (sim_whole gl) (gamOk_cons (sim_RSymbol gl) (gamOk_cons (sim_RText gl) gamOk_nil))) noMixed Tryd.func56 rfl (by rfl) (by kernel_rfl) (loopOk_none (by kernel_rfl)) ?_
  intro args x h hr
  unfold F_Read at h
  split at h
  · rename_i s
    obtain ⟨h1, h2⟩ := Tr.chk_some h
    cases h2
    refine Tr.run_as (Tr.ite (okLen s)
        (Tr.ite (okWho s)
          (Tr.ite (bNot (okWho s)) (Tr.ret (PV.tup [PV.agg [PV.int IntKind.i64 0, PV.int IntKind.i64 0, PV.str []], PV.int IntKind.i64 10]))
            (Tr.ite (iNe (checkV 1 (whoV s) []) 0) (Tr.ret (PV.tup [PV.agg [PV.int IntKind.i64 0, PV.int IntKind.i64 0, PV.str []], PV.int IntKind.i64 10]))
              (Tr.ite (sNe (textV 1 (whoV s) []) s) (Tr.ret (PV.tup [PV.agg [PV.int IntKind.i64 0, PV.int IntKind.i64 0, PV.str []], PV.int IntKind.i64 10]))
                (Tr.ret (PV.tup [PV.agg [PV.int IntKind.i64 1, PV.int IntKind.i64 (whoV s), PV.str []], PV.int IntKind.i64 0])))))
          (Tr.ite (okLen s)
            (Tr.ite (bNot (okRs s)) (Tr.ret (PV.tup [PV.agg [PV.int IntKind.i64 0, PV.int IntKind.i64 0, PV.str []], PV.int IntKind.i64 10]))
              (Tr.ite (iNe (checkV 2 0 (rsV s)) 0) (Tr.ret (PV.tup [PV.agg [PV.int IntKind.i64 0, PV.int IntKind.i64 0, PV.str []], PV.int IntKind.i64 10]))
                (Tr.ite (sNe (textV 2 0 (rsV s)) s) (Tr.ret (PV.tup [PV.agg [PV.int IntKind.i64 0, PV.int IntKind.i64 0, PV.str []], PV.int IntKind.i64 10]))
                  (Tr.ret (PV.tup [PV.agg [PV.int IntKind.i64 2, PV.int IntKind.i64 0, PV.str (rsV s)], PV.int IntKind.i64 0])))))
            Tr.fail))
        Tr.fail) (by kernel_rfl) ?_
    have fin : ∀ o : Option (Int × Int × List UInt8), rrV s = o → PV.tup [.agg [.int .i64 (kRd s), .int .i64 (nRd s), .str (sRd s)], .int .i64 (eRd s)] = match o with | some v => .tup [.agg [.int .i64 v.1, .int .i64 v.2.1, .str v.2.2], .int .i64 0] | none => .tup [.agg [.int .i64 0, .int .i64 0, .str []], .int .i64 10] := by
      intro o ho
      rw [rr_rd] at ho
      unfold kRd nRd sRd eRd
      rw [ho]
      cases o <;> rfl
    rw [h1]
    cases hw : whoO s with
    | some n =>
      have w1 : okWho s = true := by unfold okWho; rw [hw]; rfl
      have w2 : whoV s = n := by unfold whoV; rw [hw]; rfl
      rw [w1, w2]
      by_cases hc : checkV 1 n [] = 0 ∧ textV 1 n [] = s
      · rw [fin (some (1, n, [])) (by unfold rrV; rw [hw]; simp only []; rw [if_pos hc])]
        simp [hc]
      · rw [fin none (by unfold rrV; rw [hw]; simp only []; rw [if_neg hc])]
        have : ¬ textV 1 n [] = s := fun h => hc ⟨check_int n, h⟩
        simp [check_int, this]
    | none =>
      have w1 : okWho s = false := by unfold okWho; rw [hw]; rfl
      have w3 : okRs s = (rsO s).2 := rfl
      have w4 : rsV s = (rsO s).1 := rfl
      rw [w1, w3, w4]
      by_cases hc : (rsO s).2 = true ∧ checkV 2 0 (rsO s).1 = 0 ∧ textV 2 0 (rsO s).1 = s
      · rw [fin (some (2, 0, (rsO s).1)) (by unfold rrV; rw [hw]; simp only []; rw [if_pos hc])]
        simp [hc]
      · rw [fin none (by unfold rrV; rw [hw]; simp only []; rw [if_neg hc])]
        by_cases c1 : (rsO s).2 = true
        · by_cases c2 : checkV 2 0 (rsO s).1 = 0
          · have c3 : ¬ textV 2 0 (rsO s).1 = s := fun h => hc ⟨c1, c2, h⟩
            simp [c1, c2, c3]
          · simp [c1, c2]
        · simp [c1]
  · cases h
end Go.Pv

set_option maxHeartbeats 4000000
set_option linter.unusedSimpArgs false
set_option linter.unusedVariables false
namespace Go.Pv

/-! ### words, by definition -/
def isSmB (b : UInt8) : Bool := decide (97 ≤ b.toNat) && decide (b.toNat ≤ 122)
def isGrB (b : UInt8) : Bool := decide (65 ≤ b.toNat) && decide (b.toNat ≤ 90)
def isDgB (b : UInt8) : Bool := decide (48 ≤ b.toNat) && decide (b.toNat ≤ 57)
def innB (b : UInt8) : Bool := isSmB b || isGrB b || isDgB b || decide (b.toNat = 95)
def blB (b : UInt8) : Bool := decide (b.toNat = 32) || decide (b.toNat = 9) || decide (b.toNat = 10) || decide (b.toNat = 13)
/-- How many bytes of a text are so. -/
def runL (p : UInt8 → Bool) : List UInt8 → Nat
  | [] => 0
  | b :: s => if p b then runL p s + 1 else 0
def incN (n : Nat) : Nat := if n = 0 then 0 else n + 1
/-- How many bytes the text has behind a symbol's first byte; 0: it does not end. (Behind a byte 92 the next one counts as itself.) -/
def quoE : Bool → List UInt8 → Nat
  | _, [] => 0
  | true, _ :: s => incN (quoE false s)
  | false, b :: s => if b.toNat = 34 then 1 else if b.toNat = 92 then incN (quoE true s) else incN (quoE false s)
def quoL (s : List UInt8) : Nat := quoE false s
theorem incN_le {n m : Nat} (h : n ≤ m) : incN n ≤ m + 1 := by unfold incN; split <;> omega
/-- How many bytes the gap has, within a comment or not. -/
def gapL : Bool → List UInt8 → Nat
  | _, [] => 0
  | c, b :: s => if c || blB b || decide (b.toNat = 37) then gapL (decide (b.toNat = 37) || c && decide (b.toNat ≠ 10)) s + 1 else 0
def onesB (b : UInt8) : Bool := [40, 41, 44, 46, 43, 45, 61, 58, 60, 62].contains b.toNat
def twoB (a b : UInt8) : Bool := decide (a.toNat = 58 ∧ b.toNat = 45) || decide (a.toNat = 60 ∧ b.toNat = 61) || decide (a.toNat = 62 ∧ b.toNat = 61) || decide (a.toNat = 33 ∧ b.toNat = 61)
def hdIs (p : UInt8 → Bool) : List UInt8 → Bool
  | [] => false
  | b :: _ => p b
def markL (c : UInt8) (t : List UInt8) : Nat := if hdIs (twoB c) t then 2 else if onesB c then 1 else 0
def valL (k : Int) (s : List UInt8) (n : Nat) : Option (Int × Nat × Vl) := match rdV (s.take n) with
  | some v => some (k, n, v)
  | none => none
/-- The word with which a text begins: kind, how many bytes, value. -/
def wdL : List UInt8 → Option (Int × Nat × Vl)
  | [] => none
  | c :: t =>
    if isSmB c then (if runL innB t + 1 ≤ 64 then some (1, runL innB t + 1, 0, 0, []) else none)
    else if isGrB c then (if runL innB t + 1 ≤ 64 then some (2, runL innB t + 1, 0, 0, []) else none)
    else if c.toNat = 95 then (if hdIs innB t then none else some (3, 1, 0, 0, []))
    else if isDgB c || (decide (c.toNat = 45) && hdIs isDgB t) then valL 4 (c :: t) (runL isDgB t + 1)
    else if c.toNat = 34 then (if quoL t = 0 then none else valL 5 (c :: t) (quoL t + 1))
    else if markL c t = 0 then none else some (6, markL c t, 0, 0, [])
/-- A word at its place: kind, text, value, place. -/
abbrev Wd := Int × List UInt8 × Vl × Int
def lexL : Nat → Nat → List UInt8 → List Wd × Option Nat
  | 0, _, _ => ([], none)
  | n + 1, at_, s => match s with
    | [] => ([], none)
    | _ => match wdL s with
      | none => ([], some at_)
      | some (k, m, v) =>
        let r := lexL n (at_ + m + gapL false (s.drop m)) (s.drop (m + gapL false (s.drop m)))
        ((k, s.take m, v, (at_ : Int)) :: r.1, r.2)
def wordsL (s : List UInt8) : List Wd × Option Nat := lexL (s.length + 1) (gapL false s) (s.drop (gapL false s))

theorem runL_le (p : UInt8 → Bool) : ∀ s : List UInt8, runL p s ≤ s.length
  | [] => Nat.le_refl _
  | b :: s => by
    have := runL_le p s
    unfold runL
    split <;> simp only [List.length_cons] <;> omega
theorem quoE_le : ∀ (e : Bool) (s : List UInt8), quoE e s ≤ s.length
  | _, [] => by cases ‹Bool› <;> exact Nat.le_refl _
  | true, _ :: s => incN_le (quoE_le false s)
  | false, b :: s => by
    have h1 := incN_le (quoE_le true s)
    have h2 := incN_le (quoE_le false s)
    simp only [quoE, List.length_cons]
    split
    · omega
    · split
      · exact h1
      · exact h2
theorem quoL_le (s : List UInt8) : quoL s ≤ s.length := quoE_le false s
theorem gapL_le : ∀ (c : Bool) (s : List UInt8), gapL c s ≤ s.length
  | _, [] => Nat.le_refl _
  | c, b :: s => by
    have := gapL_le (decide (b.toNat = 37) || c && decide (b.toNat ≠ 10)) s
    unfold gapL
    split <;> simp only [List.length_cons] <;> omega
theorem wdL_len {s : List UInt8} {k : Int} {m : Nat} {v : Vl} (h : wdL s = some (k, m, v)) : 1 ≤ m ∧ m ≤ s.length := by
  cases s with
  | nil => cases h
  | cons c t =>
    have h1 := runL_le innB t
    have h2 := runL_le isDgB t
    have h3 := quoL_le t
    have h4 : markL c t ≤ (c :: t).length := by
      unfold markL
      cases t with
      | nil => cases onesB c <;> simp [hdIs]
      | cons d t => cases hdIs (twoB c) (d :: t) <;> cases onesB c <;> simp
    simp only [wdL] at h
    simp only [List.length_cons] at h4 ⊢
    repeat' (split at h)
    all_goals first | (cases h; done) | skip
    all_goals first | (cases h; omega) | (unfold valL at h; split at h <;> first | (cases h; done) | (cases h; omega))

def cW : Cod Wd where
  enc t := [.int .i64 t.1, .str t.2.1, .int .i64 t.2.2.1.1, .int .i64 t.2.2.1.2.1, .str t.2.2.1.2.2, .int .i64 t.2.2.2]
  dec c := match c with | [.int .i64 a, .str b, .int .i64 k, .int .i64 n, .str s, .int .i64 p] => some (a, b, (k, n, s), p) | _ => none
  k := 6
  of_dec c a h := by
    split at h
    · cases h; rfl
    · cases h
  dec_of a := rfl
  lock a := rfl
  shut a := rfl
  len a := rfl
  one a := rfl
@[simp] theorem okSize_cW (l : List Wd) : okSize (rOf cW l) 6 = true := okSize_rOf cW l
@[simp] theorem okNews_cW (l : List Wd) : okNews (rOf cW l) 6 = true := okNews_rOf cW l
@[simp] theorem okGet_cW (l : List Wd) (i : Nat) : okGet [.int .i64 0, .str [], .int .i64 0, .int .i64 0, .str [], .int .i64 0] (rOf cW l) i = decide (i < l.length) := okGet_cod _ _ (fun _ => rfl) l i
@[simp] theorem xInt_cW0 (l : List Wd) (i : Nat) : xInt (rOf cW l) i 0 = (l[i]?.getD (0, [], (0, 0, []), 0)).1 := by unfold xInt; rw [rOf_getD]; cases l[i]? <;> rfl
@[simp] theorem xStr_cW1 (l : List Wd) (i : Nat) : xStr (rOf cW l) i 1 = (l[i]?.getD (0, [], (0, 0, []), 0)).2.1 := by unfold xStr; rw [rOf_getD]; cases l[i]? <;> rfl
@[simp] theorem xInt_cW2 (l : List Wd) (i : Nat) : xInt (rOf cW l) i 2 = (l[i]?.getD (0, [], (0, 0, []), 0)).2.2.1.1 := by unfold xInt; rw [rOf_getD]; cases l[i]? <;> rfl
@[simp] theorem xInt_cW3 (l : List Wd) (i : Nat) : xInt (rOf cW l) i 3 = (l[i]?.getD (0, [], (0, 0, []), 0)).2.2.1.2.1 := by unfold xInt; rw [rOf_getD]; cases l[i]? <;> rfl
@[simp] theorem xStr_cW4 (l : List Wd) (i : Nat) : xStr (rOf cW l) i 4 = (l[i]?.getD (0, [], (0, 0, []), 0)).2.2.1.2.2 := by unfold xStr; rw [rOf_getD]; cases l[i]? <;> rfl
@[simp] theorem xInt_cW5 (l : List Wd) (i : Nat) : xInt (rOf cW l) i 5 = (l[i]?.getD (0, [], (0, 0, []), 0)).2.2.2 := by unfold xInt; rw [rOf_getD]; cases l[i]? <;> rfl
theorem snoc_cW (l : List Wd) (a : Int) (b : List UInt8) (k n : Int) (s : List UInt8) (p : Int) : rOf cW l ++ [[.int .i64 a, .str b, .int .i64 k, .int .i64 n, .str s, .int .i64 p]] = rOf cW (l ++ [(a, b, (k, n, s), p)]) := by rw [rOf_app]; rfl
theorem one_cW (a : Int) (b : List UInt8) (k n : Int) (s : List UInt8) (p : Int) : ([[.int .i64 a, .str b, .int .i64 k, .int .i64 n, .str s, .int .i64 p]] : List (List PV)) = rOf cW [(a, b, (k, n, s), p)] := rfl
@[simp] theorem cons_cW (l : List Wd) (a : Int) (b : List UInt8) (k n : Int) (s : List UInt8) (p : Int) : [.int .i64 a, .str b, .int .i64 k, .int .i64 n, .str s, .int .i64 p] :: rOf cW l = rOf cW ((a, b, (k, n, s), p) :: l) := rfl
end Go.Pv

set_option maxHeartbeats 4000000
set_option maxRecDepth 200000
set_option linter.unusedSimpArgs false
set_option linter.unusedVariables false
namespace Go.Pv
open Go Go.Proofs
noncomputable def G_ldigit : GamT := ofL []
theorem gok_ldigit (gl : Gl) : GamOk Tryd.prog gl (gam G_ldigit) := gamOk_nil
noncomputable def L_ldigit : LpsT := fun r fr σ => .fail
noncomputable def ldigit_Tr (c : Int) : Tr PV := Tr.ite (iLe 48 c) (Tr.ret (PV.bool (iLe c 57))) (Tr.ret (PV.bool false))
theorem ldigit_T (c : Int) : (tcall tbT G_ldigit L_ldigit Tryd.f50 [.int .u8 c]).flat = ldigit_Tr c := by kernel_rfl
noncomputable def ldigit_W (c : Int) : Option PV := (ldigit_Tr c).run
noncomputable def ldigit_b (c : Int) : Bool := (gBool (gVal (ldigit_W c)))
noncomputable def ldigit_is0 (c : Int) : Bool := isW (ldigit_W c) (.bool (ldigit_b c))
noncomputable def F_ldigit : List PV → Tr PV | [.int .u8 c] => .ite (ldigit_is0 c) (.ret (.bool (ldigit_b c))) (.fail) | _ => .fail
theorem sim_ldigit (gl : Gl) : SimP Tryd.prog gl 50 fun args => (F_ldigit args).run := by
  refine SimP.of_flat (G := G_ldigit) (L := L_ldigit) tbT_ok (gok_ldigit gl ) noMixed Tryd.func50 rfl (by rfl) (by kernel_rfl) (loopOk_none (by kernel_rfl)) ?_
  intro args x h
  unfold F_ldigit at h
  split at h
  · exact (congrArg Tr.run (ldigit_T _)).trans (ite_isW h fun h => by cases h)
  · cases h
noncomputable def G_lfollows : GamT := ofL [(50, .pure F_ldigit)]
theorem gok_lfollows (gl : Gl) : GamOk Tryd.prog gl (gam G_lfollows) := (gamOk_cons (sim_ldigit gl) gamOk_nil)
noncomputable def L_lfollows : LpsT := fun r fr σ => .fail
noncomputable def lfollows_Tr (c : Int) : Tr PV := Tr.ite (iLe 97 c) (Tr.ite (iLe c 122) (Tr.ret (PV.bool true)) (Tr.ite (iLe 65 c) (Tr.ite (iLe c 90) (Tr.ret (PV.bool true)) (Tr.ite (iEq c 95) (Tr.ret (PV.bool true)) (Tr.ite (ldigit_is0 c) (Tr.ret (PV.bool (ldigit_b c))) Tr.fail))) (Tr.ite (iEq c 95) (Tr.ret (PV.bool true)) (Tr.ite (ldigit_is0 c) (Tr.ret (PV.bool (ldigit_b c))) Tr.fail)))) (Tr.ite (iLe 65 c) (Tr.ite (iLe c 90) (Tr.ret (PV.bool true)) (Tr.ite (iEq c 95) (Tr.ret (PV.bool true)) (Tr.ite (ldigit_is0 c) (Tr.ret (PV.bool (ldigit_b c))) Tr.fail))) (Tr.ite (iEq c 95) (Tr.ret (PV.bool true)) (Tr.ite (ldigit_is0 c) (Tr.ret (PV.bool (ldigit_b c))) Tr.fail)))
theorem lfollows_T (c : Int) : (tcall tbT G_lfollows L_lfollows Tryd.f49 [.int .u8 c]).flat = lfollows_Tr c := by kernel_rfl
noncomputable def lfollows_W (c : Int) : Option PV := (lfollows_Tr c).run
noncomputable def lfollows_b (c : Int) : Bool := (gBool (gVal (lfollows_W c)))
noncomputable def lfollows_is0 (c : Int) : Bool := isW (lfollows_W c) (.bool (lfollows_b c))
noncomputable def F_lfollows : List PV → Tr PV | [.int .u8 c] => .ite (lfollows_is0 c) (.ret (.bool (lfollows_b c))) (.fail) | _ => .fail
theorem sim_lfollows (gl : Gl) : SimP Tryd.prog gl 49 fun args => (F_lfollows args).run := by
  refine SimP.of_flat (G := G_lfollows) (L := L_lfollows) tbT_ok (gok_lfollows gl ) noMixed Tryd.func49 rfl (by rfl) (by kernel_rfl) (loopOk_none (by kernel_rfl)) ?_
  intro args x h
  unfold F_lfollows at h
  split at h
  · exact (congrArg Tr.run (lfollows_T _)).trans (ite_isW h fun h => by cases h)
  · cases h
noncomputable def G_lrun : GamT := ofL [(49, .pure F_lfollows), (50, .pure F_ldigit)]
theorem gok_lrun (gl : Gl) : GamOk Tryd.prog gl (gam G_lrun) := (gamOk_cons (sim_lfollows gl) (gamOk_cons (sim_ldigit gl) gamOk_nil))
noncomputable def c_lrun1 : Code := loopC Tryd.f52 2
def I_lrun1 : LI := ⟨20, [0, 1, 5], fun e => match e with | .exit 0 => [5] | _ => [], true⟩
noncomputable def LI_lrun1 : LpsT := fun r fr σ => .fail
noncomputable def lrun1_V (vs : List PV) (σ : Store) : Option (PExit × List PV × Store) := lval (lstep tbT G_lrun LI_lrun1 c_lrun1 I_lrun1) vs σ
noncomputable def lrun1_Tr (s : List UInt8) (n : Int) : Tr LR := Tr.ite (iLt n (sLen s)) (Tr.ite (okIdx s n) (Tr.ite (lfollows_is0 (sAt s n)) (Tr.ite (lfollows_b (sAt s n)) (Tr.ret (LR.next [PV.str s, PV.fn 49 [], PV.int .i64 (iAdd .i64 n 1)] (Store.mk [] [] []))) (Tr.ret (LR.out (.exit 0) [PV.int .i64 n] (Store.mk [] [] [])))) Tr.fail) Tr.fail) (Tr.ret (LR.out (.exit 0) [PV.int .i64 n] (Store.mk [] [] [])))
theorem lrun1_T (s : List UInt8) (n : Int) : lstep tbT G_lrun LI_lrun1 c_lrun1 I_lrun1 [.str s, .fn 49 [], .int .i64 n] ⟨[], [], []⟩ = lrun1_Tr s n := by kernel_rfl
theorem lrun1_E (s : List UInt8) (n : Int) : lrun1_V [.str s, .fn 49 [], .int .i64 n] ⟨[], [], []⟩ = lnext lrun1_V (lrun1_Tr s n).run := by unfold lrun1_V; rw [lval_eq, lrun1_T]
noncomputable def lrun1_Tr1 (s : List UInt8) (n : Int) : Tr LR := Tr.ite (iLt n (sLen s)) (Tr.ite (okIdx s n) (Tr.ite (ldigit_is0 (sAt s n)) (Tr.ite (ldigit_b (sAt s n)) (Tr.ret (LR.next [PV.str s, PV.fn 50 [], PV.int .i64 (iAdd .i64 n 1)] (Store.mk [] [] []))) (Tr.ret (LR.out (.exit 0) [PV.int .i64 n] (Store.mk [] [] [])))) Tr.fail) Tr.fail) (Tr.ret (LR.out (.exit 0) [PV.int .i64 n] (Store.mk [] [] [])))
theorem lrun1_T1 (s : List UInt8) (n : Int) : lstep tbT G_lrun LI_lrun1 c_lrun1 I_lrun1 [.str s, .fn 50 [], .int .i64 n] ⟨[], [], []⟩ = lrun1_Tr1 s n := by kernel_rfl
theorem lrun1_E1 (s : List UInt8) (n : Int) : lrun1_V [.str s, .fn 50 [], .int .i64 n] ⟨[], [], []⟩ = lnext lrun1_V (lrun1_Tr1 s n).run := by unfold lrun1_V; rw [lval_eq, lrun1_T1]
noncomputable def lrun1_W (s : List UInt8) (n : Int) : Option (PExit × List PV × Store) := lrun1_V [.str s, .fn 49 [], .int .i64 n] ⟨[], [], []⟩
noncomputable def lrun1_n (s : List UInt8) (n : Int) : Int := (gInt (gOut (lrun1_W s n) 0))
noncomputable def lrun1_is0 (s : List UInt8) (n : Int) : Bool := isW (lrun1_W s n) ((.exit 0), [.int .i64 (lrun1_n s n)], ⟨[], [], []⟩)
noncomputable def lrun1b_W (s : List UInt8) (n : Int) : Option (PExit × List PV × Store) := lrun1_V [.str s, .fn 50 [], .int .i64 n] ⟨[], [], []⟩
noncomputable def lrun1b_n (s : List UInt8) (n : Int) : Int := (gInt (gOut (lrun1b_W s n) 0))
noncomputable def lrun1b_is0 (s : List UInt8) (n : Int) : Bool := isW (lrun1b_W s n) ((.exit 0), [.int .i64 (lrun1b_n s n)], ⟨[], [], []⟩)
noncomputable def lrun1_prop : List PV → Store → Tr (PExit × List PV × Store) | [.str s, .fn 49 [], .int .i64 n], ⟨[], [], []⟩ => .ite (lrun1_is0 s n) (.ret ((.exit 0), [.int .i64 (lrun1_n s n)], ⟨[], [], []⟩)) (.fail) | [.str s, .fn 50 [], .int .i64 n], ⟨[], [], []⟩ => .ite (lrun1b_is0 s n) (.ret ((.exit 0), [.int .i64 (lrun1b_n s n)], ⟨[], [], []⟩)) (.fail) | _, _ => .fail
theorem lrun1_ok : ∀ vs σ r, (lrun1_prop vs σ).run = some r → lrun1_V vs σ = some r := by
  intro vs σ r h
  unfold lrun1_prop at h
  split at h
  · exact ite_isW h fun h => by cases h
  · exact ite_isW h fun h => by cases h
  · cases h
theorem loop_lrun1 (gl : Gl) : ∀ fr σ e fr' σ', (orc I_lrun1 lrun1_prop fr σ).run = some (e, fr', σ') → LDoes Tryd.prog gl c_lrun1 fr σ e fr' σ' := orc_ok tbT_ok (gok_lrun gl ) noMixed (L := LI_lrun1) (loopOk_none (by kernel_rfl)) (by kernel_rfl) lrun1_ok
noncomputable def L_lrun : LpsT := fun r fr σ => bif Nat.beq r 2 then orc I_lrun1 lrun1_prop fr σ else .fail
noncomputable def lrun_Tr (s : List UInt8) : Tr PV := Tr.ite (lrun1_is0 s 0) (Tr.ret (PV.int .i64 (lrun1_n s 0))) Tr.fail
theorem lrun_T (s : List UInt8) : (tcall tbT G_lrun L_lrun Tryd.f52 [.str s, .fn 49 []]).flat = lrun_Tr s := by kernel_rfl
noncomputable def lrun_W (s : List UInt8) : Option PV := (lrun_Tr s).run
noncomputable def lrun_n (s : List UInt8) : Int := (gInt (gVal (lrun_W s)))
noncomputable def lrun_is0 (s : List UInt8) : Bool := isW (lrun_W s) (.int .i64 (lrun_n s))
noncomputable def lrunb_Tr (s : List UInt8) : Tr PV := Tr.ite (lrun1b_is0 s 0) (Tr.ret (PV.int .i64 (lrun1b_n s 0))) Tr.fail
theorem lrunb_T (s : List UInt8) : (tcall tbT G_lrun L_lrun Tryd.f52 [.str s, .fn 50 []]).flat = lrunb_Tr s := by kernel_rfl
noncomputable def lrunb_W (s : List UInt8) : Option PV := (lrunb_Tr s).run
noncomputable def lrunb_n (s : List UInt8) : Int := (gInt (gVal (lrunb_W s)))
noncomputable def lrunb_is0 (s : List UInt8) : Bool := isW (lrunb_W s) (.int .i64 (lrunb_n s))
noncomputable def F_lrun : List PV → Tr PV | [.str s, .fn 49 []] => .ite (lrun_is0 s) (.ret (.int .i64 (lrun_n s))) (.fail) | [.str s, .fn 50 []] => .ite (lrunb_is0 s) (.ret (.int .i64 (lrunb_n s))) (.fail) | _ => .fail
theorem sim_lrun (gl : Gl) : SimP Tryd.prog gl 52 fun args => (F_lrun args).run := by
  refine SimP.of_flat (G := G_lrun) (L := L_lrun) tbT_ok (gok_lrun gl ) noMixed Tryd.func52 rfl (by rfl) (by kernel_rfl) (loopOk_all (L := lps L_lrun) [(2, c_lrun1)] (by kernel_rfl) (List.forall_mem_cons.2 ⟨fun fr σ e fr' σ' h => loop_lrun1 gl  fr σ e fr' σ' h, (List.forall_mem_nil _)⟩)) ?_
  intro args x h
  unfold F_lrun at h
  split at h
  · exact (congrArg Tr.run (lrun_T _)).trans (ite_isW h fun h => by cases h)
  · exact (congrArg Tr.run (lrunb_T _)).trans (ite_isW h fun h => by cases h)
  · cases h
noncomputable def G_lquoted : GamT := ofL []
theorem gok_lquoted (gl : Gl) : GamOk Tryd.prog gl (gam G_lquoted) := gamOk_nil
noncomputable def c_lquoted1 : Code := loopC Tryd.f53 2
def I_lquoted1 : LI := ⟨21, [0, 3], fun e => match e with | .ret => [2] | .exit 0 => [] | _ => [], true⟩
noncomputable def LI_lquoted1 : LpsT := fun r fr σ => .fail
noncomputable def lquoted1_V (vs : List PV) (σ : Store) : Option (PExit × List PV × Store) := lval (lstep tbT G_lquoted LI_lquoted1 c_lquoted1 I_lquoted1) vs σ
noncomputable def lquoted1_Tr (s : List UInt8) (i : Int) : Tr LR := Tr.ite (iLt i (sLen s)) (Tr.ite (okIdx s i) (Tr.ite (iEq (sAt s i) 92) (Tr.ret (LR.next [PV.str s, PV.int .i64 (iAdd .i64 (iAdd .i64 i 1) 1)] (Store.mk [] [] []))) (Tr.ite (iEq (sAt s i) 34) (Tr.ret (LR.out .ret [PV.int .i64 (iAdd .i64 i 1)] (Store.mk [] [] []))) (Tr.ret (LR.next [PV.str s, PV.int .i64 (iAdd .i64 i 1)] (Store.mk [] [] []))))) Tr.fail) (Tr.ret (LR.out (.exit 0) [] (Store.mk [] [] [])))
theorem lquoted1_T (s : List UInt8) (i : Int) : lstep tbT G_lquoted LI_lquoted1 c_lquoted1 I_lquoted1 [.str s, .int .i64 i] ⟨[], [], []⟩ = lquoted1_Tr s i := by kernel_rfl
theorem lquoted1_E (s : List UInt8) (i : Int) : lquoted1_V [.str s, .int .i64 i] ⟨[], [], []⟩ = lnext lquoted1_V (lquoted1_Tr s i).run := by unfold lquoted1_V; rw [lval_eq, lquoted1_T]
noncomputable def lquoted1_W (s : List UInt8) (i : Int) : Option (PExit × List PV × Store) := lquoted1_V [.str s, .int .i64 i] ⟨[], [], []⟩
noncomputable def lquoted1_n_0 (s : List UInt8) (i : Int) : Int := (gInt (gOut (lquoted1_W s i) 0))
noncomputable def lquoted1_is0 (s : List UInt8) (i : Int) : Bool := isW (lquoted1_W s i) (.ret, [.int .i64 (lquoted1_n_0 s i)], ⟨[], [], []⟩)
noncomputable def lquoted1_is1 (s : List UInt8) (i : Int) : Bool := isW (lquoted1_W s i) ((.exit 0), [], ⟨[], [], []⟩)
noncomputable def lquoted1_prop : List PV → Store → Tr (PExit × List PV × Store) | [.str s, .int .i64 i], ⟨[], [], []⟩ => .ite (lquoted1_is0 s i) (.ret (.ret, [.int .i64 (lquoted1_n_0 s i)], ⟨[], [], []⟩)) (.ite (lquoted1_is1 s i) (.ret ((.exit 0), [], ⟨[], [], []⟩)) (.fail)) | _, _ => .fail
theorem lquoted1_ok : ∀ vs σ r, (lquoted1_prop vs σ).run = some r → lquoted1_V vs σ = some r := by
  intro vs σ r h
  unfold lquoted1_prop at h
  split at h
  · exact ite_isW h fun h => ite_isW h fun h => by cases h
  · cases h
theorem loop_lquoted1 (gl : Gl) : ∀ fr σ e fr' σ', (orc I_lquoted1 lquoted1_prop fr σ).run = some (e, fr', σ') → LDoes Tryd.prog gl c_lquoted1 fr σ e fr' σ' := orc_ok tbT_ok (gok_lquoted gl ) noMixed (L := LI_lquoted1) (loopOk_none (by kernel_rfl)) (by kernel_rfl) lquoted1_ok
noncomputable def L_lquoted : LpsT := fun r fr σ => bif Nat.beq r 2 then orc I_lquoted1 lquoted1_prop fr σ else .fail
noncomputable def lquoted_Tr (s : List UInt8) : Tr PV := Tr.ite (lquoted1_is0 s 1) (Tr.ret (PV.int .i64 (lquoted1_n_0 s 1))) (Tr.ite (lquoted1_is1 s 1) (Tr.ret (PV.int .i64 0)) Tr.fail)
theorem lquoted_T (s : List UInt8) : (tcall tbT G_lquoted L_lquoted Tryd.f53 [.str s]).flat = lquoted_Tr s := by kernel_rfl
noncomputable def lquoted_W (s : List UInt8) : Option PV := (lquoted_Tr s).run
noncomputable def lquoted_n (s : List UInt8) : Int := (gInt (gVal (lquoted_W s)))
noncomputable def lquoted_is0 (s : List UInt8) : Bool := isW (lquoted_W s) (.int .i64 (lquoted_n s))
noncomputable def F_lquoted : List PV → Tr PV | [.str s] => .ite (lquoted_is0 s) (.ret (.int .i64 (lquoted_n s))) (.fail) | _ => .fail
theorem sim_lquoted (gl : Gl) : SimP Tryd.prog gl 53 fun args => (F_lquoted args).run := by
  refine SimP.of_flat (G := G_lquoted) (L := L_lquoted) tbT_ok (gok_lquoted gl ) noMixed Tryd.func53 rfl (by rfl) (by kernel_rfl) (loopOk_all (L := lps L_lquoted) [(2, c_lquoted1)] (by kernel_rfl) (List.forall_mem_cons.2 ⟨fun fr σ e fr' σ' h => loop_lquoted1 gl  fr σ e fr' σ' h, (List.forall_mem_nil _)⟩)) ?_
  intro args x h
  unfold F_lquoted at h
  split at h
  · exact (congrArg Tr.run (lquoted_T _)).trans (ite_isW h fun h => by cases h)
  · cases h
noncomputable def G_lgap : GamT := ofL [(47, .pure F_IndexByte)]
theorem gok_lgap (gl : Gl) : GamOk Tryd.prog gl (gam G_lgap) := (gamOk_cons (sim_IndexByte gl) gamOk_nil)
noncomputable def c_lgap1 : Code := loopC Tryd.f29 2
def I_lgap1 : LI := ⟨34, [0, 3], fun e => match e with | .ret => [2] | .exit 0 => [3] | _ => [], true⟩
noncomputable def LI_lgap1 : LpsT := fun r fr σ => .fail
noncomputable def lgap1_V (vs : List PV) (σ : Store) : Option (PExit × List PV × Store) := lval (lstep tbT G_lgap LI_lgap1 c_lgap1 I_lgap1) vs σ
noncomputable def lgap1_Tr (s : List UInt8) (at_ : Int) : Tr LR := Tr.ite (iLt at_ (sLen s)) (Tr.ite (okIdx s at_) (Tr.ite (iEq (sAt s at_) 32) (Tr.ret (LR.next [PV.str s, PV.int .i64 (iAdd .i64 at_ 1)] (Store.mk [] [] []))) (Tr.ite (iEq (sAt s at_) 9) (Tr.ret (LR.next [PV.str s, PV.int .i64 (iAdd .i64 at_ 1)] (Store.mk [] [] []))) (Tr.ite (iEq (sAt s at_) 10) (Tr.ret (LR.next [PV.str s, PV.int .i64 (iAdd .i64 at_ 1)] (Store.mk [] [] []))) (Tr.ite (iEq (sAt s at_) 13) (Tr.ret (LR.next [PV.str s, PV.int .i64 (iAdd .i64 at_ 1)] (Store.mk [] [] []))) (Tr.ite (iEq (sAt s at_) 37) (Tr.ite (okSub (okPos at_) true (nNat at_) (nLen s) (nLen s)) (Tr.ite (iLt (idxV (sSub s (nNat at_) (nLen s)) 10) 0) (Tr.ret (LR.out .ret [PV.int .i64 (sLen s)] (Store.mk [] [] []))) (Tr.ret (LR.next [PV.str s, PV.int .i64 (iAdd .i64 at_ (idxV (sSub s (nNat at_) (nLen s)) 10))] (Store.mk [] [] [])))) Tr.fail) (Tr.ret (LR.out .ret [PV.int .i64 at_] (Store.mk [] [] [])))))))) Tr.fail) (Tr.ret (LR.out (.exit 0) [PV.int .i64 at_] (Store.mk [] [] [])))
theorem lgap1_T (s : List UInt8) (at_ : Int) : lstep tbT G_lgap LI_lgap1 c_lgap1 I_lgap1 [.str s, .int .i64 at_] ⟨[], [], []⟩ = lgap1_Tr s at_ := by kernel_rfl
theorem lgap1_E (s : List UInt8) (at_ : Int) : lgap1_V [.str s, .int .i64 at_] ⟨[], [], []⟩ = lnext lgap1_V (lgap1_Tr s at_).run := by unfold lgap1_V; rw [lval_eq, lgap1_T]
noncomputable def lgap1_W (s : List UInt8) (at_ : Int) : Option (PExit × List PV × Store) := lgap1_V [.str s, .int .i64 at_] ⟨[], [], []⟩
noncomputable def lgap1_n_0 (s : List UInt8) (at_ : Int) : Int := (gInt (gOut (lgap1_W s at_) 0))
noncomputable def lgap1_is0 (s : List UInt8) (at_ : Int) : Bool := isW (lgap1_W s at_) (.ret, [.int .i64 (lgap1_n_0 s at_)], ⟨[], [], []⟩)
noncomputable def lgap1_at__1 (s : List UInt8) (at_ : Int) : Int := (gInt (gOut (lgap1_W s at_) 0))
noncomputable def lgap1_is1 (s : List UInt8) (at_ : Int) : Bool := isW (lgap1_W s at_) ((.exit 0), [.int .i64 (lgap1_at__1 s at_)], ⟨[], [], []⟩)
noncomputable def lgap1_prop : List PV → Store → Tr (PExit × List PV × Store) | [.str s, .int .i64 at_], ⟨[], [], []⟩ => .ite (lgap1_is0 s at_) (.ret (.ret, [.int .i64 (lgap1_n_0 s at_)], ⟨[], [], []⟩)) (.ite (lgap1_is1 s at_) (.ret ((.exit 0), [.int .i64 (lgap1_at__1 s at_)], ⟨[], [], []⟩)) (.fail)) | _, _ => .fail
theorem lgap1_ok : ∀ vs σ r, (lgap1_prop vs σ).run = some r → lgap1_V vs σ = some r := by
  intro vs σ r h
  unfold lgap1_prop at h
  split at h
  · exact ite_isW h fun h => ite_isW h fun h => by cases h
  · cases h
theorem loop_lgap1 (gl : Gl) : ∀ fr σ e fr' σ', (orc I_lgap1 lgap1_prop fr σ).run = some (e, fr', σ') → LDoes Tryd.prog gl c_lgap1 fr σ e fr' σ' := orc_ok tbT_ok (gok_lgap gl ) noMixed (L := LI_lgap1) (loopOk_none (by kernel_rfl)) (by kernel_rfl) lgap1_ok
noncomputable def L_lgap : LpsT := fun r fr σ => bif Nat.beq r 2 then orc I_lgap1 lgap1_prop fr σ else .fail
noncomputable def lgap_Tr (s : List UInt8) : Tr PV := Tr.ite (lgap1_is0 s 0) (Tr.ret (PV.int .i64 (lgap1_n_0 s 0))) (Tr.ite (lgap1_is1 s 0) (Tr.ret (PV.int .i64 (lgap1_at__1 s 0))) Tr.fail)
theorem lgap_T (s : List UInt8) : (tcall tbT G_lgap L_lgap Tryd.f29 [.str s]).flat = lgap_Tr s := by kernel_rfl
noncomputable def lgap_W (s : List UInt8) : Option PV := (lgap_Tr s).run
noncomputable def lgap_n (s : List UInt8) : Int := (gInt (gVal (lgap_W s)))
noncomputable def lgap_is0 (s : List UInt8) : Bool := isW (lgap_W s) (.int .i64 (lgap_n s))
noncomputable def F_lgap : List PV → Tr PV | [.str s] => .ite (lgap_is0 s) (.ret (.int .i64 (lgap_n s))) (.fail) | _ => .fail
theorem sim_lgap (gl : Gl) : SimP Tryd.prog gl 29 fun args => (F_lgap args).run := by
  refine SimP.of_flat (G := G_lgap) (L := L_lgap) tbT_ok (gok_lgap gl ) noMixed Tryd.func29 rfl (by rfl) (by kernel_rfl) (loopOk_all (L := lps L_lgap) [(2, c_lgap1)] (by kernel_rfl) (List.forall_mem_cons.2 ⟨fun fr σ e fr' σ' h => loop_lgap1 gl  fr σ e fr' σ' h, (List.forall_mem_nil _)⟩)) ?_
  intro args x h
  unfold F_lgap at h
  split at h
  · exact (congrArg Tr.run (lgap_T _)).trans (ite_isW h fun h => by cases h)
  · cases h
noncomputable def G_lname : GamT := ofL [(49, .pure F_lfollows), (52, .pure F_lrun)]
theorem gok_lname (gl : Gl) : GamOk Tryd.prog gl (gam G_lname) := (gamOk_cons (sim_lfollows gl) (gamOk_cons (sim_lrun gl) gamOk_nil))
noncomputable def L_lname : LpsT := fun r fr σ => .fail
noncomputable def lname_Tr (s : List UInt8) (k : Int) : Tr PV := Tr.ite (lrun_is0 s) (Tr.ite (okSub true (okPos (lrun_n s)) 0 (nNat (lrun_n s)) (nLen s)) (Tr.ret (PV.tup [PV.agg [PV.int .i64 k, PV.str (sSub s 0 (nNat (lrun_n s))), PV.int .i64 0, PV.int .i64 0, PV.str [], PV.int .i64 0], PV.bool (iLe (lrun_n s) 64)])) Tr.fail) Tr.fail
theorem lname_T (s : List UInt8) (k : Int) : (tcall tbT G_lname L_lname Tryd.f48 [.str s, .int .i64 k]).flat = lname_Tr s k := by kernel_rfl
noncomputable def lname_W (s : List UInt8) (k : Int) : Option PV := (lname_Tr s k).run
noncomputable def lname_n (s : List UInt8) (k : Int) : Int := (gInt (gAt (gCs (gAt (gCs (gVal (lname_W s k))) 0)) 0))
noncomputable def lname_s (s : List UInt8) (k : Int) : List UInt8 := (gStr (gAt (gCs (gAt (gCs (gVal (lname_W s k))) 0)) 1))
noncomputable def lname_n2 (s : List UInt8) (k : Int) : Int := (gInt (gAt (gCs (gAt (gCs (gVal (lname_W s k))) 0)) 2))
noncomputable def lname_n3 (s : List UInt8) (k : Int) : Int := (gInt (gAt (gCs (gAt (gCs (gVal (lname_W s k))) 0)) 3))
noncomputable def lname_s2 (s : List UInt8) (k : Int) : List UInt8 := (gStr (gAt (gCs (gAt (gCs (gVal (lname_W s k))) 0)) 4))
noncomputable def lname_n4 (s : List UInt8) (k : Int) : Int := (gInt (gAt (gCs (gAt (gCs (gVal (lname_W s k))) 0)) 5))
noncomputable def lname_b (s : List UInt8) (k : Int) : Bool := (gBool (gAt (gCs (gVal (lname_W s k))) 1))
noncomputable def lname_is0 (s : List UInt8) (k : Int) : Bool := isW (lname_W s k) (.tup [.agg [.int .i64 (lname_n s k), .str (lname_s s k), .int .i64 (lname_n2 s k), .int .i64 (lname_n3 s k), .str (lname_s2 s k), .int .i64 (lname_n4 s k)], .bool (lname_b s k)])
noncomputable def F_lname : List PV → Tr PV | [.str s, .int .i64 k] => .ite (lname_is0 s k) (.ret (.tup [.agg [.int .i64 (lname_n s k), .str (lname_s s k), .int .i64 (lname_n2 s k), .int .i64 (lname_n3 s k), .str (lname_s2 s k), .int .i64 (lname_n4 s k)], .bool (lname_b s k)])) (.fail) | _ => .fail
theorem sim_lname (gl : Gl) : SimP Tryd.prog gl 48 fun args => (F_lname args).run := by
  refine SimP.of_flat (G := G_lname) (L := L_lname) tbT_ok (gok_lname gl ) noMixed Tryd.func48 rfl (by rfl) (by kernel_rfl) (loopOk_none (by kernel_rfl)) ?_
  intro args x h
  unfold F_lname at h
  split at h
  · exact (congrArg Tr.run (lname_T _ _)).trans (ite_isW h fun h => by cases h)
  · cases h
noncomputable def G_lvalued : GamT := ofL [(61, .pure F_Read)]
theorem gok_lvalued (gl : Gl) (hg : GlOk gl) : GamOk Tryd.prog gl (gam G_lvalued) := (gamOk_cons (sim_Read hg) gamOk_nil)
noncomputable def L_lvalued : LpsT := fun r fr σ => .fail
noncomputable def lvalued_Tr (s : List UInt8) (k : Int) : Tr PV := Tr.ite (okLen s) (Tr.ret (PV.tup [PV.agg [PV.int .i64 k, PV.str s, PV.int .i64 (kRd s), PV.int .i64 (nRd s), PV.str (sRd s), PV.int .i64 0], PV.bool (iEq (eRd s) 0)])) Tr.fail
theorem lvalued_T (s : List UInt8) (k : Int) : (tcall tbT G_lvalued L_lvalued Tryd.f51 [.str s, .int .i64 k]).flat = lvalued_Tr s k := by kernel_rfl
noncomputable def lvalued_W (s : List UInt8) (k : Int) : Option PV := (lvalued_Tr s k).run
noncomputable def lvalued_n (s : List UInt8) (k : Int) : Int := (gInt (gAt (gCs (gAt (gCs (gVal (lvalued_W s k))) 0)) 0))
noncomputable def lvalued_s (s : List UInt8) (k : Int) : List UInt8 := (gStr (gAt (gCs (gAt (gCs (gVal (lvalued_W s k))) 0)) 1))
noncomputable def lvalued_n2 (s : List UInt8) (k : Int) : Int := (gInt (gAt (gCs (gAt (gCs (gVal (lvalued_W s k))) 0)) 2))
noncomputable def lvalued_n3 (s : List UInt8) (k : Int) : Int := (gInt (gAt (gCs (gAt (gCs (gVal (lvalued_W s k))) 0)) 3))
noncomputable def lvalued_s2 (s : List UInt8) (k : Int) : List UInt8 := (gStr (gAt (gCs (gAt (gCs (gVal (lvalued_W s k))) 0)) 4))
noncomputable def lvalued_n4 (s : List UInt8) (k : Int) : Int := (gInt (gAt (gCs (gAt (gCs (gVal (lvalued_W s k))) 0)) 5))
noncomputable def lvalued_b (s : List UInt8) (k : Int) : Bool := (gBool (gAt (gCs (gVal (lvalued_W s k))) 1))
noncomputable def lvalued_is0 (s : List UInt8) (k : Int) : Bool := isW (lvalued_W s k) (.tup [.agg [.int .i64 (lvalued_n s k), .str (lvalued_s s k), .int .i64 (lvalued_n2 s k), .int .i64 (lvalued_n3 s k), .str (lvalued_s2 s k), .int .i64 (lvalued_n4 s k)], .bool (lvalued_b s k)])
noncomputable def F_lvalued : List PV → Tr PV | [.str s, .int .i64 k] => .ite (lvalued_is0 s k) (.ret (.tup [.agg [.int .i64 (lvalued_n s k), .str (lvalued_s s k), .int .i64 (lvalued_n2 s k), .int .i64 (lvalued_n3 s k), .str (lvalued_s2 s k), .int .i64 (lvalued_n4 s k)], .bool (lvalued_b s k)])) (.fail) | _ => .fail
theorem sim_lvalued (gl : Gl) (hg : GlOk gl) : SimP Tryd.prog gl 51 fun args => (F_lvalued args).run := by
  refine SimP.of_flat (G := G_lvalued) (L := L_lvalued) tbT_ok (gok_lvalued gl hg ) noMixed Tryd.func51 rfl (by rfl) (by kernel_rfl) (loopOk_none (by kernel_rfl)) ?_
  intro args x h
  unfold F_lvalued at h
  split at h
  · exact (congrArg Tr.run (lvalued_T _ _)).trans (ite_isW h fun h => by cases h)
  · cases h
noncomputable def G_lword : GamT := ofL [(47, .pure F_IndexByte), (48, .pure F_lname), (49, .pure F_lfollows), (50, .pure F_ldigit), (51, .pure F_lvalued), (52, .pure F_lrun), (53, .pure F_lquoted), (54, .pure F_HasPre), (glKey + 0, .glob twosC)]
theorem gok_lword (gl : Gl) (hg : GlLex gl) : GamOk Tryd.prog gl (gam G_lword) := (gamOk_cons (sim_IndexByte gl) (gamOk_cons (sim_lname gl) (gamOk_cons (sim_lfollows gl) (gamOk_cons (sim_ldigit gl) (gamOk_cons (sim_lvalued gl hg.toGlOk) (gamOk_cons (sim_lrun gl) (gamOk_cons (sim_lquoted gl) (gamOk_cons (sim_HasPre gl) (gamOk_con (K := .glob twosC) (con_twos hg) gamOk_nil)))))))))
noncomputable def c_lword1 : Code := loopC Tryd.f30 16
def I_lword1 : LI := ⟨90, [0, 2, 4, 74, 75], fun e => match e with | .ret => [2, 3] | .exit 1 => [0, 2, 4] | _ => [], true⟩
noncomputable def LI_lword1 : LpsT := fun r fr σ => .fail
noncomputable def lword1_V (vs : List PV) (σ : Store) : Option (PExit × List PV × Store) := lval (lstep tbT G_lword LI_lword1 c_lword1 I_lword1) vs σ
noncomputable def lword1_Tr (s : List UInt8) (n : Int) (s2 : List UInt8) (s3 : List UInt8) (s4 : List UInt8) (s5 : List UInt8) (n2 : Int) (n3 : Int) (s6 : List UInt8) (n4 : Int) (n5 : Int) (s7 : List UInt8) (n6 : Int) : Tr LR := Tr.ite (iLt n2 4) (Tr.ite (iEq n2 (Int.ofNat 0)) (Tr.ite (isPre s s2) (Tr.ret (LR.out .ret [PV.ptr 0 0, PV.bool true] (Store.mk [[PV.int .i64 6, PV.str s2, PV.int .i64 0, PV.int .i64 0, PV.str [], PV.int .i64 0]] [] [37]))) (Tr.ret (LR.next [PV.str s, PV.ptr 0 0, PV.int .u8 n, PV.agg [PV.str s2, PV.str s3, PV.str s4, PV.str s5], PV.int .i64 (iAdd .i64 n2 1)] (Store.mk [[PV.int .i64 n3, PV.str s6, PV.int .i64 n4, PV.int .i64 n5, PV.str s7, PV.int .i64 n6]] [] [37])))) (Tr.ite (iEq n2 (Int.ofNat 1)) (Tr.ite (isPre s s3) (Tr.ret (LR.out .ret [PV.ptr 0 0, PV.bool true] (Store.mk [[PV.int .i64 6, PV.str s3, PV.int .i64 0, PV.int .i64 0, PV.str [], PV.int .i64 0]] [] [37]))) (Tr.ret (LR.next [PV.str s, PV.ptr 0 0, PV.int .u8 n, PV.agg [PV.str s2, PV.str s3, PV.str s4, PV.str s5], PV.int .i64 (iAdd .i64 n2 1)] (Store.mk [[PV.int .i64 n3, PV.str s6, PV.int .i64 n4, PV.int .i64 n5, PV.str s7, PV.int .i64 n6]] [] [37])))) (Tr.ite (iEq n2 (Int.ofNat 2)) (Tr.ite (isPre s s4) (Tr.ret (LR.out .ret [PV.ptr 0 0, PV.bool true] (Store.mk [[PV.int .i64 6, PV.str s4, PV.int .i64 0, PV.int .i64 0, PV.str [], PV.int .i64 0]] [] [37]))) (Tr.ret (LR.next [PV.str s, PV.ptr 0 0, PV.int .u8 n, PV.agg [PV.str s2, PV.str s3, PV.str s4, PV.str s5], PV.int .i64 (iAdd .i64 n2 1)] (Store.mk [[PV.int .i64 n3, PV.str s6, PV.int .i64 n4, PV.int .i64 n5, PV.str s7, PV.int .i64 n6]] [] [37])))) (Tr.ite (iEq n2 (Int.ofNat 3)) (Tr.ite (isPre s s5) (Tr.ret (LR.out .ret [PV.ptr 0 0, PV.bool true] (Store.mk [[PV.int .i64 6, PV.str s5, PV.int .i64 0, PV.int .i64 0, PV.str [], PV.int .i64 0]] [] [37]))) (Tr.ret (LR.next [PV.str s, PV.ptr 0 0, PV.int .u8 n, PV.agg [PV.str s2, PV.str s3, PV.str s4, PV.str s5], PV.int .i64 (iAdd .i64 n2 1)]
 (Store.mk [[PV.int .i64 n3, PV.str s6, PV.int .i64 n4, PV.int .i64 n5, PV.str s7, PV.int .i64 n6]] [] [37])))) Tr.fail)))) (Tr.ret (LR.out (.exit 1) [PV.str s, PV.ptr 0 0, PV.int .u8 n] (Store.mk [[PV.int .i64 n3, PV.str s6, PV.int .i64 n4, PV.int .i64 n5, PV.str s7, PV.int .i64 n6]] [] [37])))
theorem lword1_T (s : List UInt8) (n : Int) (s2 : List UInt8) (s3 : List UInt8) (s4 : List UInt8) (s5 : List UInt8) (n2 : Int) (n3 : Int) (s6 : List UInt8) (n4 : Int) (n5 : Int) (s7 : List UInt8) (n6 : Int) : lstep tbT G_lword LI_lword1 c_lword1 I_lword1 [.str s, .ptr 0 0, .int .u8 n, .agg [.str s2, .str s3, .str s4, .str s5], .int .i64 n2] ⟨[[.int .i64 n3, .str s6, .int .i64 n4, .int .i64 n5, .str s7, .int .i64 n6]], [], [37]⟩ = lword1_Tr s n s2 s3 s4 s5 n2 n3 s6 n4 n5 s7 n6 := by kernel_rfl
theorem lword1_E (s : List UInt8) (n : Int) (s2 : List UInt8) (s3 : List UInt8) (s4 : List UInt8) (s5 : List UInt8) (n2 : Int) (n3 : Int) (s6 : List UInt8) (n4 : Int) (n5 : Int) (s7 : List UInt8) (n6 : Int) : lword1_V [.str s, .ptr 0 0, .int .u8 n, .agg [.str s2, .str s3, .str s4, .str s5], .int .i64 n2] ⟨[[.int .i64 n3, .str s6, .int .i64 n4, .int .i64 n5, .str s7, .int .i64 n6]], [], [37]⟩ = lnext lword1_V (lword1_Tr s n s2 s3 s4 s5 n2 n3 s6 n4 n5 s7 n6).run := by unfold lword1_V; rw [lval_eq, lword1_T]
noncomputable def lword1_W (s : List UInt8) (n : Int) (s2 : List UInt8) (s3 : List UInt8) (s4 : List UInt8) (s5 : List UInt8) (n2 : Int) (n3 : Int) (s6 : List UInt8) (n4 : Int) (n5 : Int) (s7 : List UInt8) (n6 : Int) : Option (PExit × List PV × Store) := lword1_V [.str s, .ptr 0 0, .int .u8 n, .agg [.str s2, .str s3, .str s4, .str s5], .int .i64 n2] ⟨[[.int .i64 n3, .str s6, .int .i64 n4, .int .i64 n5, .str s7, .int .i64 n6]], [], [37]⟩
noncomputable def lword1_b_0 (s : List UInt8) (n : Int) (s2 : List UInt8) (s3 : List UInt8) (s4 : List UInt8) (s5 : List UInt8) (n2 : Int) (n3 : Int) (s6 : List UInt8) (n4 : Int) (n5 : Int) (s7 : List UInt8) (n6 : Int) : Bool := (gBool (gOut (lword1_W s n s2 s3 s4 s5 n2 n3 s6 n4 n5 s7 n6) 1))
noncomputable def lword1_n_0 (s : List UInt8) (n : Int) (s2 : List UInt8) (s3 : List UInt8) (s4 : List UInt8) (s5 : List UInt8) (n2 : Int) (n3 : Int) (s6 : List UInt8) (n4 : Int) (n5 : Int) (s7 : List UInt8) (n6 : Int) : Int := (gInt (gAt (gObj (lword1_W s n s2 s3 s4 s5 n2 n3 s6 n4 n5 s7 n6) 0) 0))
noncomputable def lword1_s_0 (s : List UInt8) (n : Int) (s2 : List UInt8) (s3 : List UInt8) (s4 : List UInt8) (s5 : List UInt8) (n2 : Int) (n3 : Int) (s6 : List UInt8) (n4 : Int) (n5 : Int) (s7 : List UInt8) (n6 : Int) : List UInt8 := (gStr (gAt (gObj (lword1_W s n s2 s3 s4 s5 n2 n3 s6 n4 n5 s7 n6) 0) 1))
noncomputable def lword1_n2_0 (s : List UInt8) (n : Int) (s2 : List UInt8) (s3 : List UInt8) (s4 : List UInt8) (s5 : List UInt8) (n2 : Int) (n3 : Int) (s6 : List UInt8) (n4 : Int) (n5 : Int) (s7 : List UInt8) (n6 : Int) : Int := (gInt (gAt (gObj (lword1_W s n s2 s3 s4 s5 n2 n3 s6 n4 n5 s7 n6) 0) 2))
noncomputable def lword1_n3_0 (s : List UInt8) (n : Int) (s2 : List UInt8) (s3 : List UInt8) (s4 : List UInt8) (s5 : List UInt8) (n2 : Int) (n3 : Int) (s6 : List UInt8) (n4 : Int) (n5 : Int) (s7 : List UInt8) (n6 : Int) : Int := (gInt (gAt (gObj (lword1_W s n s2 s3 s4 s5 n2 n3 s6 n4 n5 s7 n6) 0) 3))
noncomputable def lword1_s2_0 (s : List UInt8) (n : Int) (s2 : List UInt8) (s3 : List UInt8) (s4 : List UInt8) (s5 : List UInt8) (n2 : Int) (n3 : Int) (s6 : List UInt8) (n4 : Int) (n5 : Int) (s7 : List UInt8) (n6 : Int) : List UInt8 := (gStr (gAt (gObj (lword1_W s n s2 s3 s4 s5 n2 n3 s6 n4 n5 s7 n6) 0) 4))
noncomputable def lword1_n4_0 (s : List UInt8) (n : Int) (s2 : List UInt8) (s3 : List UInt8) (s4 : List UInt8) (s5 : List UInt8) (n2 : Int) (n3 : Int) (s6 : List UInt8) (n4 : Int) (n5 : Int) (s7 : List UInt8) (n6 : Int) : Int := (gInt (gAt (gObj (lword1_W s n s2 s3 s4 s5 n2 n3 s6 n4 n5 s7 n6) 0) 5))
noncomputable def lword1_is0 (s : List UInt8) (n : Int) (s2 : List UInt8) (s3 : List UInt8) (s4 : List UInt8) (s5 : List UInt8) (n2 : Int) (n3 : Int) (s6 : List UInt8) (n4 : Int) (n5 : Int) (s7 : List UInt8) (n6 : Int) : Bool := isW (lword1_W s n s2 s3 s4 s5 n2 n3 s6 n4 n5 s7 n6) (.ret, [.ptr 0 0, .bool (lword1_b_0 s n s2 s3 s4 s5 n2 n3 s6 n4 n5 s7 n6)], ⟨[[.int .i64 (lword1_n_0 s n s2 s3 s4 s5 n2 n3 s6 n4 n5 s7 n6), .str (lword1_s_0 s n s2 s3 s4 s5 n2 n3 s6 n4 n5 s7 n6), .int .i64 (lword1_n2_0 s n s2 s3 s4 s5 n2 n3 s6 n4 n5 s7 n6), .int .i64 (lword1_n3_0 s n s2 s3 s4 s5 n2 n3 s6 n4 n5 s7 n6), .str (lword1_s2_0 s n s2 s3 s4 s5 n2 n3 s6 n4 n5 s7 n6), .int .i64 (lword1_n4_0 s n s2 s3 s4 s5 n2 n3 s6 n4 n5 s7 n6)]], [], [37]⟩)
noncomputable def lword1_s_1 (s : List UInt8) (n : Int) (s2 : List UInt8) (s3 : List UInt8) (s4 : List UInt8) (s5 : List UInt8) (n2 : Int) (n3 : Int) (s6 : List UInt8) (n4 : Int) (n5 : Int) (s7 : List UInt8) (n6 : Int) : List UInt8 := (gStr (gOut (lword1_W s n s2 s3 s4 s5 n2 n3 s6 n4 n5 s7 n6) 0))
noncomputable def lword1_n_1 (s : List UInt8) (n : Int) (s2 : List UInt8) (s3 : List UInt8) (s4 : List UInt8) (s5 : List UInt8) (n2 : Int) (n3 : Int) (s6 : List UInt8) (n4 : Int) (n5 : Int) (s7 : List UInt8) (n6 : Int) : Int := (gInt (gOut (lword1_W s n s2 s3 s4 s5 n2 n3 s6 n4 n5 s7 n6) 2))
noncomputable def lword1_n2_1 (s : List UInt8) (n : Int) (s2 : List UInt8) (s3 : List UInt8) (s4 : List UInt8) (s5 : List UInt8) (n2 : Int) (n3 : Int) (s6 : List UInt8) (n4 : Int) (n5 : Int) (s7 : List UInt8) (n6 : Int) : Int := (gInt (gAt (gObj (lword1_W s n s2 s3 s4 s5 n2 n3 s6 n4 n5 s7 n6) 0) 0))
noncomputable def lword1_s2_1 (s : List UInt8) (n : Int) (s2 : List UInt8) (s3 : List UInt8) (s4 : List UInt8) (s5 : List UInt8) (n2 : Int) (n3 : Int) (s6 : List UInt8) (n4 : Int) (n5 : Int) (s7 : List UInt8) (n6 : Int) : List UInt8 := (gStr (gAt (gObj (lword1_W s n s2 s3 s4 s5 n2 n3 s6 n4 n5 s7 n6) 0) 1))
noncomputable def lword1_n3_1 (s : List UInt8) (n : Int) (s2 : List UInt8) (s3 : List UInt8) (s4 : List UInt8) (s5 : List UInt8) (n2 : Int) (n3 : Int) (s6 : List UInt8) (n4 : Int) (n5 : Int) (s7 : List UInt8) (n6 : Int) : Int := (gInt (gAt (gObj (lword1_W s n s2 s3 s4 s5 n2 n3 s6 n4 n5 s7 n6) 0) 2))
noncomputable def lword1_n4_1 (s : List UInt8) (n : Int) (s2 : List UInt8) (s3 : List UInt8) (s4 : List UInt8) (s5 : List UInt8) (n2 : Int) (n3 : Int) (s6 : List UInt8) (n4 : Int) (n5 : Int) (s7 : List UInt8) (n6 : Int) : Int := (gInt (gAt (gObj (lword1_W s n s2 s3 s4 s5 n2 n3 s6 n4 n5 s7 n6) 0) 3))
noncomputable def lword1_s3_1 (s : List UInt8) (n : Int) (s2 : List UInt8) (s3 : List UInt8) (s4 : List UInt8) (s5 : List UInt8) (n2 : Int) (n3 : Int) (s6 : List UInt8) (n4 : Int) (n5 : Int) (s7 : List UInt8) (n6 : Int) : List UInt8 := (gStr (gAt (gObj (lword1_W s n s2 s3 s4 s5 n2 n3 s6 n4 n5 s7 n6) 0) 4))
noncomputable def lword1_n5_1 (s : List UInt8) (n : Int) (s2 : List UInt8) (s3 : List UInt8) (s4 : List UInt8) (s5 : List UInt8) (n2 : Int) (n3 : Int) (s6 : List UInt8) (n4 : Int) (n5 : Int) (s7 : List UInt8) (n6 : Int) : Int := (gInt (gAt (gObj (lword1_W s n s2 s3 s4 s5 n2 n3 s6 n4 n5 s7 n6) 0) 5))
noncomputable def lword1_is1 (s : List UInt8) (n : Int) (s2 : List UInt8) (s3 : List UInt8) (s4 : List UInt8) (s5 : List UInt8) (n2 : Int) (n3 : Int) (s6 : List UInt8) (n4 : Int) (n5 : Int) (s7 : List UInt8) (n6 : Int) : Bool := isW (lword1_W s n s2 s3 s4 s5 n2 n3 s6 n4 n5 s7 n6) ((.exit 1), [.str (lword1_s_1 s n s2 s3 s4 s5 n2 n3 s6 n4 n5 s7 n6), .ptr 0 0, .int .u8 (lword1_n_1 s n s2 s3 s4 s5 n2 n3 s6 n4 n5 s7 n6)], ⟨[[.int .i64 (lword1_n2_1 s n s2 s3 s4 s5 n2 n3 s6 n4 n5 s7 n6), .str (lword1_s2_1 s n s2 s3 s4 s5 n2 n3 s6 n4 n5 s7 n6), .int .i64 (lword1_n3_1 s n s2 s3 s4 s5 n2 n3 s6 n4 n5 s7 n6), .int .i64 (lword1_n4_1 s n s2 s3 s4 s5 n2 n3 s6 n4 n5 s7 n6), .str (lword1_s3_1 s n s2 s3 s4 s5 n2 n3 s6 n4 n5 s7 n6), .int .i64 (lword1_n5_1 s n s2 s3 s4 s5 n2 n3 s6 n4 n5 s7 n6)]], [], [37]⟩)
noncomputable def lword1_prop : List PV → Store → Tr (PExit × List PV × Store) | [.str s, .ptr 0 0, .int .u8 n, .agg [.str s2, .str s3, .str s4, .str s5], .int .i64 n2], ⟨[[.int .i64 n3, .str s6, .int .i64 n4, .int .i64 n5, .str s7, .int .i64 n6]], [], [37]⟩ => .ite (lword1_is0 s n s2 s3 s4 s5 n2 n3 s6 n4 n5 s7 n6) (.ret (.ret, [.ptr 0 0, .bool (lword1_b_0 s n s2 s3 s4 s5 n2 n3 s6 n4 n5 s7 n6)], ⟨[[.int .i64 (lword1_n_0 s n s2 s3 s4 s5 n2 n3 s6 n4 n5 s7 n6), .str (lword1_s_0 s n s2 s3 s4 s5 n2 n3 s6 n4 n5 s7 n6), .int .i64 (lword1_n2_0 s n s2 s3 s4 s5 n2 n3 s6 n4 n5 s7 n6), .int .i64 (lword1_n3_0 s n s2 s3 s4 s5 n2 n3 s6 n4 n5 s7 n6), .str (lword1_s2_0 s n s2 s3 s4 s5 n2 n3 s6 n4 n5 s7 n6), .int .i64 (lword1_n4_0 s n s2 s3 s4 s5 n2 n3 s6 n4 n5 s7 n6)]], [], [37]⟩)) (.ite (lword1_is1 s n s2 s3 s4 s5 n2 n3 s6 n4 n5 s7 n6) (.ret ((.exit 1), [.str (lword1_s_1 s n s2 s3 s4 s5 n2 n3 s6 n4 n5 s7 n6), .ptr 0 0, .int .u8 (lword1_n_1 s n s2 s3 s4 s5 n2 n3 s6 n4 n5 s7 n6)], ⟨[[.int .i64 (lword1_n2_1 s n s2 s3 s4 s5 n2 n3 s6 n4 n5 s7 n6), .str (lword1_s2_1 s n s2 s3 s4 s5 n2 n3 s6 n4 n5 s7 n6), .int .i64 (lword1_n3_1 s n s2 s3 s4 s5 n2 n3 s6 n4 n5 s7 n6), .int .i64 (lword1_n4_1 s n s2 s3 s4 s5 n2 n3 s6 n4 n5 s7 n6), .str (lword1_s3_1 s n s2 s3 s4 s5 n2 n3 s6 n4 n5 s7 n6), .int .i64 (lword1_n5_1 s n s2 s3 s4 s5 n2 n3 s6 n4 n5 s7 n6)]], [], [37]⟩)) (.fail)) | _, _ => .fail
theorem lword1_ok : ∀ vs σ r, (lword1_prop vs σ).run = some r → lword1_V vs σ = some r := by
  intro vs σ r h
  unfold lword1_prop at h
  split at h
  · exact ite_isW h fun h => ite_isW h fun h => by cases h
  · cases h
theorem loop_lword1 (gl : Gl) (hg : GlLex gl) : ∀ fr σ e fr' σ', (orc I_lword1 lword1_prop fr σ).run = some (e, fr', σ') → LDoes Tryd.prog gl c_lword1 fr σ e fr' σ' := orc_ok tbT_ok (gok_lword gl hg ) noMixed (L := LI_lword1) (loopOk_none (by kernel_rfl)) (by kernel_rfl) lword1_ok
noncomputable def L_lword : LpsT := fun r fr σ => bif Nat.beq r 16 then orc I_lword1 lword1_prop fr σ else .fail
noncomputable def lword_Tr (v : List UInt8) : Tr PV := Tr.ite (okIdx v 0) (Tr.ite (iLt 1 (sLen v)) (Tr.ite (okIdx v 1) (Tr.ite (iLe 97 (sAt v 0)) (Tr.ite (iLe (sAt v 0) 122) (Tr.ite (lname_is0 v 1) (Tr.ret (PV.tup [PV.agg [PV.int .i64 (lname_n v 1), PV.str (lname_s v 1), PV.int .i64 (lname_n2 v 1), PV.int .i64 (lname_n3 v 1), PV.str (lname_s2 v 1), PV.int .i64 (lname_n4 v 1)], PV.bool (lname_b v 1)])) Tr.fail) (Tr.ite (iLe 65 (sAt v 0)) (Tr.ite (iLe (sAt v 0) 90) (Tr.ite (lname_is0 v 2) (Tr.ret (PV.tup [PV.agg [PV.int .i64 (lname_n v 2), PV.str (lname_s v 2), PV.int .i64 (lname_n2 v 2), PV.int .i64 (lname_n3 v 2), PV.str (lname_s2 v 2), PV.int .i64 (lname_n4 v 2)], PV.bool (lname_b v 2)])) Tr.fail) (Tr.ite (iEq (sAt v 0) 95) (Tr.ite (lfollows_is0 (sAt v 1)) (Tr.ret (PV.tup [PV.agg [PV.int .i64 3, PV.str [95], PV.int .i64 0, PV.int .i64 0, PV.str [], PV.int .i64 0], PV.bool (bNot (lfollows_b (sAt v 1)))])) Tr.fail) (Tr.ite (ldigit_is0 (sAt v 0)) (Tr.ite (ldigit_b (sAt v 0)) (Tr.ite (okSub (okPos 1) true (nNat 1) (nLen v) (nLen v)) (Tr.ite (lrunb_is0 (sSub v (nNat 1) (nLen v))) (Tr.ite (okSub true (okPos (iAdd .i64 1 (lrunb_n (sSub v (nNat 1) (nLen v))))) 0 (nNat (iAdd .i64 1 (lrunb_n (sSub v (nNat 1) (nLen v))))) (nLen v)) (Tr.ite (lvalued_is0 (sSub v 0 (nNat (iAdd .i64 1 (lrunb_n (sSub v (nNat 1) (nLen v)))))) 4) (Tr.ret (PV.tup [PV.agg [PV.int .i64 (lvalued_n (sSub v 0 (nNat (iAdd .i64 1 (lrunb_n (sSub v (nNat 1) (nLen v)))))) 4), PV.str (lvalued_s (sSub v 0 (nNat (iAdd .i64 1 (lrunb_n (sSub v (nNat 1) (nLen v)))))) 4), PV.int .i64 (lvalued_n2 (sSub v 0 (nNat (iAdd .i64 1 (lrunb_n (sSub v (nNat 1) (nLen v)))))) 4), PV.int .i64 (lvalued_n3 (sSub v 0 (nNat (iAdd .i64 1 (lrunb_n (sSub v (nNat 1) (nLen v)))))) 4), PV.str (lvalued_s2 (sSub v 0 (nNat (iAdd .i64 1 (lrunb_n (sSub v (nNat 1) (nLen v)))))) 4), PV.int .i64 (lvalued_n4 (sSub v 0 (nNat (iAdd .i64 1 (lrunb_n (sSub v (nNat 1) (nLen v)))))) 4)],
 PV.bool (lvalued_b (sSub v 0 (nNat (iAdd .i64 1 (lrunb_n (sSub v (nNat 1) (nLen v)))))) 4)])) Tr.fail) Tr.fail) Tr.fail) Tr.fail) (Tr.ite (iEq (sAt v 0) 45) (Tr.ite (ldigit_is0 (sAt v 1)) (Tr.ite (ldigit_b (sAt v 1)) (Tr.ite (okSub (okPos 1) true (nNat 1) (nLen v) (nLen v)) (Tr.ite (lrunb_is0 (sSub v (nNat 1) (nLen v))) (Tr.ite (okSub true (okPos (iAdd .i64 1 (lrunb_n (sSub v (nNat 1) (nLen v))))) 0 (nNat (iAdd .i64 1 (lrunb_n (sSub v (nNat 1) (nLen v))))) (nLen v)) (Tr.ite (lvalued_is0 (sSub v 0 (nNat (iAdd .i64 1 (lrunb_n (sSub v (nNat 1) (nLen v)))))) 4) (Tr.ret (PV.tup [PV.agg [PV.int .i64 (lvalued_n (sSub v 0 (nNat (iAdd .i64 1 (lrunb_n (sSub v (nNat 1) (nLen v)))))) 4), PV.str (lvalued_s (sSub v 0 (nNat (iAdd .i64 1 (lrunb_n (sSub v (nNat 1) (nLen v)))))) 4), PV.int .i64 (lvalued_n2 (sSub v 0 (nNat (iAdd .i64 1 (lrunb_n (sSub v (nNat 1) (nLen v)))))) 4), PV.int .i64 (lvalued_n3 (sSub v 0 (nNat (iAdd .i64 1 (lrunb_n (sSub v (nNat 1) (nLen v)))))) 4), PV.str (lvalued_s2 (sSub v 0 (nNat (iAdd .i64 1 (lrunb_n (sSub v (nNat 1) (nLen v)))))) 4), PV.int .i64 (lvalued_n4 (sSub v 0 (nNat (iAdd .i64 1 (lrunb_n (sSub v (nNat 1) (nLen v)))))) 4)], PV.bool (lvalued_b (sSub v 0 (nNat (iAdd .i64 1 (lrunb_n (sSub v (nNat 1) (nLen v)))))) 4)])) Tr.fail) Tr.fail) Tr.fail) Tr.fail) (Tr.ite (iEq (sAt v 0) 34) (Tr.ite (lquoted_is0 v) (Tr.ite (okSub true (okPos (lquoted_n v)) 0 (nNat (lquoted_n v)) (nLen v)) (Tr.ite (lvalued_is0 (sSub v 0 (nNat (lquoted_n v))) 5) (Tr.ret (PV.tup [PV.agg [PV.int .i64 (lvalued_n (sSub v 0 (nNat (lquoted_n v))) 5), PV.str (lvalued_s (sSub v 0 (nNat (lquoted_n v))) 5), PV.int .i64 (lvalued_n2 (sSub v 0 (nNat (lquoted_n v))) 5), PV.int .i64 (lvalued_n3 (sSub v 0 (nNat (lquoted_n v))) 5), PV.str (lvalued_s2 (sSub v 0 (nNat (lquoted_n v))) 5), PV.int .i64 (lvalued_n4 (sSub v 0 (nNat (lquoted_n v))) 5)], PV.bool (lvalued_b (sSub v 0 (nNat (lquoted_n v))) 5)])) Tr.fail) Tr.fail) Tr.fail)
 (Tr.ite (lword1_is0 v (sAt v 0) [58, 45] [60, 61] [62, 61] [33, 61] 0 0 [] 0 0 [] 0) (Tr.ret (PV.tup [PV.agg [PV.int .i64 (lword1_n_0 v (sAt v 0) [58, 45] [60, 61] [62, 61] [33, 61] 0 0 [] 0 0 [] 0), PV.str (lword1_s_0 v (sAt v 0) [58, 45] [60, 61] [62, 61] [33, 61] 0 0 [] 0 0 [] 0), PV.int .i64 (lword1_n2_0 v (sAt v 0) [58, 45] [60, 61] [62, 61] [33, 61] 0 0 [] 0 0 [] 0), PV.int .i64 (lword1_n3_0 v (sAt v 0) [58, 45] [60, 61] [62, 61] [33, 61] 0 0 [] 0 0 [] 0), PV.str (lword1_s2_0 v (sAt v 0) [58, 45] [60, 61] [62, 61] [33, 61] 0 0 [] 0 0 [] 0), PV.int .i64 (lword1_n4_0 v (sAt v 0) [58, 45] [60, 61] [62, 61] [33, 61] 0 0 [] 0 0 [] 0)], PV.bool (lword1_b_0 v (sAt v 0) [58, 45] [60, 61] [62, 61] [33, 61] 0 0 [] 0 0 [] 0)])) (Tr.ite (lword1_is1 v (sAt v 0) [58, 45] [60, 61] [62, 61] [33, 61] 0 0 [] 0 0 [] 0) (Tr.ite (okSub true (okPos 1) 0 (nNat 1) (nLen (lword1_s_1 v (sAt v 0) [58, 45] [60, 61] [62, 61] [33, 61] 0 0 [] 0 0 [] 0))) (Tr.ret (PV.tup [PV.agg [PV.int .i64 6, PV.str (sSub (lword1_s_1 v (sAt v 0) [58, 45] [60, 61] [62, 61] [33, 61] 0 0 [] 0 0 [] 0) 0 (nNat 1)), PV.int .i64 0, PV.int .i64 0, PV.str [], PV.int .i64 0], PV.bool (iLe 0 (idxV [40, 41, 44, 46, 43, 45, 61, 58, 60, 62] (lword1_n_1 v (sAt v 0) [58, 45] [60, 61] [62, 61] [33, 61] 0 0 [] 0 0 [] 0)))])) Tr.fail) Tr.fail)))) Tr.fail) (Tr.ite (iEq (sAt v 0) 34) (Tr.ite (lquoted_is0 v) (Tr.ite (okSub true (okPos (lquoted_n v)) 0 (nNat (lquoted_n v)) (nLen v)) (Tr.ite (lvalued_is0 (sSub v 0 (nNat (lquoted_n v))) 5) (Tr.ret (PV.tup [PV.agg [PV.int .i64 (lvalued_n (sSub v 0 (nNat (lquoted_n v))) 5), PV.str (lvalued_s (sSub v 0 (nNat (lquoted_n v))) 5), PV.int .i64 (lvalued_n2 (sSub v 0 (nNat (lquoted_n v))) 5), PV.int .i64 (lvalued_n3 (sSub v 0 (nNat (lquoted_n v))) 5), PV.str (lvalued_s2 (sSub v 0 (nNat (lquoted_n v))) 5), PV.int .i64 (lvalued_n4 (sSub v 0 (nNat (lquoted_n v))) 5)], PV.bool (lvalued_b (sSub v 0 (nNat (lquoted_n v))) 5)])) Tr.fail) Tr.fail) Tr.fail)
 (Tr.ite (lword1_is0 v (sAt v 0) [58, 45] [60, 61] [62, 61] [33, 61] 0 0 [] 0 0 [] 0) (Tr.ret (PV.tup [PV.agg [PV.int .i64 (lword1_n_0 v (sAt v 0) [58, 45] [60, 61] [62, 61] [33, 61] 0 0 [] 0 0 [] 0), PV.str (lword1_s_0 v (sAt v 0) [58, 45] [60, 61] [62, 61] [33, 61] 0 0 [] 0 0 [] 0), PV.int .i64 (lword1_n2_0 v (sAt v 0) [58, 45] [60, 61] [62, 61] [33, 61] 0 0 [] 0 0 [] 0), PV.int .i64 (lword1_n3_0 v (sAt v 0) [58, 45] [60, 61] [62, 61] [33, 61] 0 0 [] 0 0 [] 0), PV.str (lword1_s2_0 v (sAt v 0) [58, 45] [60, 61] [62, 61] [33, 61] 0 0 [] 0 0 [] 0), PV.int .i64 (lword1_n4_0 v (sAt v 0) [58, 45] [60, 61] [62, 61] [33, 61] 0 0 [] 0 0 [] 0)], PV.bool (lword1_b_0 v (sAt v 0) [58, 45] [60, 61] [62, 61] [33, 61] 0 0 [] 0 0 [] 0)])) (Tr.ite (lword1_is1 v (sAt v 0) [58, 45] [60, 61] [62, 61] [33, 61] 0 0 [] 0 0 [] 0) (Tr.ite (okSub true (okPos 1) 0 (nNat 1) (nLen (lword1_s_1 v (sAt v 0) [58, 45] [60, 61] [62, 61] [33, 61] 0 0 [] 0 0 [] 0))) (Tr.ret (PV.tup [PV.agg [PV.int .i64 6, PV.str (sSub (lword1_s_1 v (sAt v 0) [58, 45] [60, 61] [62, 61] [33, 61] 0 0 [] 0 0 [] 0) 0 (nNat 1)), PV.int .i64 0, PV.int .i64 0, PV.str [], PV.int .i64 0], PV.bool (iLe 0 (idxV [40, 41, 44, 46, 43, 45, 61, 58, 60, 62] (lword1_n_1 v (sAt v 0) [58, 45] [60, 61] [62, 61] [33, 61] 0 0 [] 0 0 [] 0)))])) Tr.fail) Tr.fail))))) Tr.fail))) (Tr.ite (iEq (sAt v 0) 95) (Tr.ite (lfollows_is0 (sAt v 1)) (Tr.ret (PV.tup [PV.agg [PV.int .i64 3, PV.str [95], PV.int .i64 0, PV.int .i64 0, PV.str [], PV.int .i64 0], PV.bool (bNot (lfollows_b (sAt v 1)))])) Tr.fail) (Tr.ite (ldigit_is0 (sAt v 0)) (Tr.ite (ldigit_b (sAt v 0)) (Tr.ite (okSub (okPos 1) true (nNat 1) (nLen v) (nLen v)) (Tr.ite (lrunb_is0 (sSub v (nNat 1) (nLen v))) (Tr.ite (okSub true (okPos (iAdd .i64 1 (lrunb_n (sSub v (nNat 1) (nLen v))))) 0 (nNat (iAdd .i64 1 (lrunb_n (sSub v (nNat 1) (nLen v))))) (nLen v)) (Tr.ite (lvalued_is0 (sSub v 0 (nNat (iAdd .i64 1 (lrunb_n (sSub v (nNat 1) (nLen v)))))) 4) (Tr.ret (PV.tup [PV.agg
 [PV.int .i64 (lvalued_n (sSub v 0 (nNat (iAdd .i64 1 (lrunb_n (sSub v (nNat 1) (nLen v)))))) 4), PV.str (lvalued_s (sSub v 0 (nNat (iAdd .i64 1 (lrunb_n (sSub v (nNat 1) (nLen v)))))) 4), PV.int .i64 (lvalued_n2 (sSub v 0 (nNat (iAdd .i64 1 (lrunb_n (sSub v (nNat 1) (nLen v)))))) 4), PV.int .i64 (lvalued_n3 (sSub v 0 (nNat (iAdd .i64 1 (lrunb_n (sSub v (nNat 1) (nLen v)))))) 4), PV.str (lvalued_s2 (sSub v 0 (nNat (iAdd .i64 1 (lrunb_n (sSub v (nNat 1) (nLen v)))))) 4), PV.int .i64 (lvalued_n4 (sSub v 0 (nNat (iAdd .i64 1 (lrunb_n (sSub v (nNat 1) (nLen v)))))) 4)], PV.bool (lvalued_b (sSub v 0 (nNat (iAdd .i64 1 (lrunb_n (sSub v (nNat 1) (nLen v)))))) 4)])) Tr.fail) Tr.fail) Tr.fail) Tr.fail) (Tr.ite (iEq (sAt v 0) 45) (Tr.ite (ldigit_is0 (sAt v 1)) (Tr.ite (ldigit_b (sAt v 1)) (Tr.ite (okSub (okPos 1) true (nNat 1) (nLen v) (nLen v)) (Tr.ite (lrunb_is0 (sSub v (nNat 1) (nLen v))) (Tr.ite (okSub true (okPos (iAdd .i64 1 (lrunb_n (sSub v (nNat 1) (nLen v))))) 0 (nNat (iAdd .i64 1 (lrunb_n (sSub v (nNat 1) (nLen v))))) (nLen v)) (Tr.ite (lvalued_is0 (sSub v 0 (nNat (iAdd .i64 1 (lrunb_n (sSub v (nNat 1) (nLen v)))))) 4) (Tr.ret (PV.tup [PV.agg [PV.int .i64 (lvalued_n (sSub v 0 (nNat (iAdd .i64 1 (lrunb_n (sSub v (nNat 1) (nLen v)))))) 4), PV.str (lvalued_s (sSub v 0 (nNat (iAdd .i64 1 (lrunb_n (sSub v (nNat 1) (nLen v)))))) 4), PV.int .i64 (lvalued_n2 (sSub v 0 (nNat (iAdd .i64 1 (lrunb_n (sSub v (nNat 1) (nLen v)))))) 4), PV.int .i64 (lvalued_n3 (sSub v 0 (nNat (iAdd .i64 1 (lrunb_n (sSub v (nNat 1) (nLen v)))))) 4), PV.str (lvalued_s2 (sSub v 0 (nNat (iAdd .i64 1 (lrunb_n (sSub v (nNat 1) (nLen v)))))) 4), PV.int .i64 (lvalued_n4 (sSub v 0 (nNat (iAdd .i64 1 (lrunb_n (sSub v (nNat 1) (nLen v)))))) 4)], PV.bool (lvalued_b (sSub v 0 (nNat (iAdd .i64 1 (lrunb_n (sSub v (nNat 1) (nLen v)))))) 4)])) Tr.fail) Tr.fail) Tr.fail) Tr.fail) (Tr.ite (iEq (sAt v 0) 34) (Tr.ite (lquoted_is0 v) (Tr.ite (okSub true (okPos (lquoted_n v)) 0 (nNat (lquoted_n v)) (nLen v))
 (Tr.ite (lvalued_is0 (sSub v 0 (nNat (lquoted_n v))) 5) (Tr.ret (PV.tup [PV.agg [PV.int .i64 (lvalued_n (sSub v 0 (nNat (lquoted_n v))) 5), PV.str (lvalued_s (sSub v 0 (nNat (lquoted_n v))) 5), PV.int .i64 (lvalued_n2 (sSub v 0 (nNat (lquoted_n v))) 5), PV.int .i64 (lvalued_n3 (sSub v 0 (nNat (lquoted_n v))) 5), PV.str (lvalued_s2 (sSub v 0 (nNat (lquoted_n v))) 5), PV.int .i64 (lvalued_n4 (sSub v 0 (nNat (lquoted_n v))) 5)], PV.bool (lvalued_b (sSub v 0 (nNat (lquoted_n v))) 5)])) Tr.fail) Tr.fail) Tr.fail) (Tr.ite (lword1_is0 v (sAt v 0) [58, 45] [60, 61] [62, 61] [33, 61] 0 0 [] 0 0 [] 0) (Tr.ret (PV.tup [PV.agg [PV.int .i64 (lword1_n_0 v (sAt v 0) [58, 45] [60, 61] [62, 61] [33, 61] 0 0 [] 0 0 [] 0), PV.str (lword1_s_0 v (sAt v 0) [58, 45] [60, 61] [62, 61] [33, 61] 0 0 [] 0 0 [] 0), PV.int .i64 (lword1_n2_0 v (sAt v 0) [58, 45] [60, 61] [62, 61] [33, 61] 0 0 [] 0 0 [] 0), PV.int .i64 (lword1_n3_0 v (sAt v 0) [58, 45] [60, 61] [62, 61] [33, 61] 0 0 [] 0 0 [] 0), PV.str (lword1_s2_0 v (sAt v 0) [58, 45] [60, 61] [62, 61] [33, 61] 0 0 [] 0 0 [] 0), PV.int .i64 (lword1_n4_0 v (sAt v 0) [58, 45] [60, 61] [62, 61] [33, 61] 0 0 [] 0 0 [] 0)], PV.bool (lword1_b_0 v (sAt v 0) [58, 45] [60, 61] [62, 61] [33, 61] 0 0 [] 0 0 [] 0)])) (Tr.ite (lword1_is1 v (sAt v 0) [58, 45] [60, 61] [62, 61] [33, 61] 0 0 [] 0 0 [] 0) (Tr.ite (okSub true (okPos 1) 0 (nNat 1) (nLen (lword1_s_1 v (sAt v 0) [58, 45] [60, 61] [62, 61] [33, 61] 0 0 [] 0 0 [] 0))) (Tr.ret (PV.tup [PV.agg [PV.int .i64 6, PV.str (sSub (lword1_s_1 v (sAt v 0) [58, 45] [60, 61] [62, 61] [33, 61] 0 0 [] 0 0 [] 0) 0 (nNat 1)), PV.int .i64 0, PV.int .i64 0, PV.str [], PV.int .i64 0], PV.bool (iLe 0 (idxV [40, 41, 44, 46, 43, 45, 61, 58, 60, 62] (lword1_n_1 v (sAt v 0) [58, 45] [60, 61] [62, 61] [33, 61] 0 0 [] 0 0 [] 0)))])) Tr.fail) Tr.fail)))) Tr.fail) (Tr.ite (iEq (sAt v 0) 34) (Tr.ite (lquoted_is0 v) (Tr.ite (okSub true (okPos (lquoted_n v)) 0 (nNat (lquoted_n v)) (nLen v))
 (Tr.ite (lvalued_is0 (sSub v 0 (nNat (lquoted_n v))) 5) (Tr.ret (PV.tup [PV.agg [PV.int .i64 (lvalued_n (sSub v 0 (nNat (lquoted_n v))) 5), PV.str (lvalued_s (sSub v 0 (nNat (lquoted_n v))) 5), PV.int .i64 (lvalued_n2 (sSub v 0 (nNat (lquoted_n v))) 5), PV.int .i64 (lvalued_n3 (sSub v 0 (nNat (lquoted_n v))) 5), PV.str (lvalued_s2 (sSub v 0 (nNat (lquoted_n v))) 5), PV.int .i64 (lvalued_n4 (sSub v 0 (nNat (lquoted_n v))) 5)], PV.bool (lvalued_b (sSub v 0 (nNat (lquoted_n v))) 5)])) Tr.fail) Tr.fail) Tr.fail) (Tr.ite (lword1_is0 v (sAt v 0) [58, 45] [60, 61] [62, 61] [33, 61] 0 0 [] 0 0 [] 0) (Tr.ret (PV.tup [PV.agg [PV.int .i64 (lword1_n_0 v (sAt v 0) [58, 45] [60, 61] [62, 61] [33, 61] 0 0 [] 0 0 [] 0), PV.str (lword1_s_0 v (sAt v 0) [58, 45] [60, 61] [62, 61] [33, 61] 0 0 [] 0 0 [] 0), PV.int .i64 (lword1_n2_0 v (sAt v 0) [58, 45] [60, 61] [62, 61] [33, 61] 0 0 [] 0 0 [] 0), PV.int .i64 (lword1_n3_0 v (sAt v 0) [58, 45] [60, 61] [62, 61] [33, 61] 0 0 [] 0 0 [] 0), PV.str (lword1_s2_0 v (sAt v 0) [58, 45] [60, 61] [62, 61] [33, 61] 0 0 [] 0 0 [] 0), PV.int .i64 (lword1_n4_0 v (sAt v 0) [58, 45] [60, 61] [62, 61] [33, 61] 0 0 [] 0 0 [] 0)], PV.bool (lword1_b_0 v (sAt v 0) [58, 45] [60, 61] [62, 61] [33, 61] 0 0 [] 0 0 [] 0)])) (Tr.ite (lword1_is1 v (sAt v 0) [58, 45] [60, 61] [62, 61] [33, 61] 0 0 [] 0 0 [] 0) (Tr.ite (okSub true (okPos 1) 0 (nNat 1) (nLen (lword1_s_1 v (sAt v 0) [58, 45] [60, 61] [62, 61] [33, 61] 0 0 [] 0 0 [] 0))) (Tr.ret (PV.tup [PV.agg [PV.int .i64 6, PV.str (sSub (lword1_s_1 v (sAt v 0) [58, 45] [60, 61] [62, 61] [33, 61] 0 0 [] 0 0 [] 0) 0 (nNat 1)), PV.int .i64 0, PV.int .i64 0, PV.str [], PV.int .i64 0], PV.bool (iLe 0 (idxV [40, 41, 44, 46, 43, 45, 61, 58, 60, 62] (lword1_n_1 v (sAt v 0) [58, 45] [60, 61] [62, 61] [33, 61] 0 0 [] 0 0 [] 0)))])) Tr.fail) Tr.fail))))) Tr.fail)))) (Tr.ite (iLe 65 (sAt v 0)) (Tr.ite (iLe (sAt v 0) 90) (Tr.ite (lname_is0 v 2) (Tr.ret (PV.tup [PV.agg
 [PV.int .i64 (lname_n v 2), PV.str (lname_s v 2), PV.int .i64 (lname_n2 v 2), PV.int .i64 (lname_n3 v 2), PV.str (lname_s2 v 2), PV.int .i64 (lname_n4 v 2)], PV.bool (lname_b v 2)])) Tr.fail) (Tr.ite (iEq (sAt v 0) 95) (Tr.ite (lfollows_is0 (sAt v 1)) (Tr.ret (PV.tup [PV.agg [PV.int .i64 3, PV.str [95], PV.int .i64 0, PV.int .i64 0, PV.str [], PV.int .i64 0], PV.bool (bNot (lfollows_b (sAt v 1)))])) Tr.fail) (Tr.ite (ldigit_is0 (sAt v 0)) (Tr.ite (ldigit_b (sAt v 0)) (Tr.ite (okSub (okPos 1) true (nNat 1) (nLen v) (nLen v)) (Tr.ite (lrunb_is0 (sSub v (nNat 1) (nLen v))) (Tr.ite (okSub true (okPos (iAdd .i64 1 (lrunb_n (sSub v (nNat 1) (nLen v))))) 0 (nNat (iAdd .i64 1 (lrunb_n (sSub v (nNat 1) (nLen v))))) (nLen v)) (Tr.ite (lvalued_is0 (sSub v 0 (nNat (iAdd .i64 1 (lrunb_n (sSub v (nNat 1) (nLen v)))))) 4) (Tr.ret (PV.tup [PV.agg [PV.int .i64 (lvalued_n (sSub v 0 (nNat (iAdd .i64 1 (lrunb_n (sSub v (nNat 1) (nLen v)))))) 4), PV.str (lvalued_s (sSub v 0 (nNat (iAdd .i64 1 (lrunb_n (sSub v (nNat 1) (nLen v)))))) 4), PV.int .i64 (lvalued_n2 (sSub v 0 (nNat (iAdd .i64 1 (lrunb_n (sSub v (nNat 1) (nLen v)))))) 4), PV.int .i64 (lvalued_n3 (sSub v 0 (nNat (iAdd .i64 1 (lrunb_n (sSub v (nNat 1) (nLen v)))))) 4), PV.str (lvalued_s2 (sSub v 0 (nNat (iAdd .i64 1 (lrunb_n (sSub v (nNat 1) (nLen v)))))) 4), PV.int .i64 (lvalued_n4 (sSub v 0 (nNat (iAdd .i64 1 (lrunb_n (sSub v (nNat 1) (nLen v)))))) 4)], PV.bool (lvalued_b (sSub v 0 (nNat (iAdd .i64 1 (lrunb_n (sSub v (nNat 1) (nLen v)))))) 4)])) Tr.fail) Tr.fail) Tr.fail) Tr.fail) (Tr.ite (iEq (sAt v 0) 45) (Tr.ite (ldigit_is0 (sAt v 1)) (Tr.ite (ldigit_b (sAt v 1)) (Tr.ite (okSub (okPos 1) true (nNat 1) (nLen v) (nLen v)) (Tr.ite (lrunb_is0 (sSub v (nNat 1) (nLen v))) (Tr.ite (okSub true (okPos (iAdd .i64 1 (lrunb_n (sSub v (nNat 1) (nLen v))))) 0 (nNat (iAdd .i64 1 (lrunb_n (sSub v (nNat 1) (nLen v))))) (nLen v)) (Tr.ite (lvalued_is0 (sSub v 0 (nNat (iAdd .i64 1 (lrunb_n (sSub v (nNat 1) (nLen v)))))) 4) (Tr.ret (PV.tup
 [PV.agg [PV.int .i64 (lvalued_n (sSub v 0 (nNat (iAdd .i64 1 (lrunb_n (sSub v (nNat 1) (nLen v)))))) 4), PV.str (lvalued_s (sSub v 0 (nNat (iAdd .i64 1 (lrunb_n (sSub v (nNat 1) (nLen v)))))) 4), PV.int .i64 (lvalued_n2 (sSub v 0 (nNat (iAdd .i64 1 (lrunb_n (sSub v (nNat 1) (nLen v)))))) 4), PV.int .i64 (lvalued_n3 (sSub v 0 (nNat (iAdd .i64 1 (lrunb_n (sSub v (nNat 1) (nLen v)))))) 4), PV.str (lvalued_s2 (sSub v 0 (nNat (iAdd .i64 1 (lrunb_n (sSub v (nNat 1) (nLen v)))))) 4), PV.int .i64 (lvalued_n4 (sSub v 0 (nNat (iAdd .i64 1 (lrunb_n (sSub v (nNat 1) (nLen v)))))) 4)], PV.bool (lvalued_b (sSub v 0 (nNat (iAdd .i64 1 (lrunb_n (sSub v (nNat 1) (nLen v)))))) 4)])) Tr.fail) Tr.fail) Tr.fail) Tr.fail) (Tr.ite (iEq (sAt v 0) 34) (Tr.ite (lquoted_is0 v) (Tr.ite (okSub true (okPos (lquoted_n v)) 0 (nNat (lquoted_n v)) (nLen v)) (Tr.ite (lvalued_is0 (sSub v 0 (nNat (lquoted_n v))) 5) (Tr.ret (PV.tup [PV.agg [PV.int .i64 (lvalued_n (sSub v 0 (nNat (lquoted_n v))) 5), PV.str (lvalued_s (sSub v 0 (nNat (lquoted_n v))) 5), PV.int .i64 (lvalued_n2 (sSub v 0 (nNat (lquoted_n v))) 5), PV.int .i64 (lvalued_n3 (sSub v 0 (nNat (lquoted_n v))) 5), PV.str (lvalued_s2 (sSub v 0 (nNat (lquoted_n v))) 5), PV.int .i64 (lvalued_n4 (sSub v 0 (nNat (lquoted_n v))) 5)], PV.bool (lvalued_b (sSub v 0 (nNat (lquoted_n v))) 5)])) Tr.fail) Tr.fail) Tr.fail) (Tr.ite (lword1_is0 v (sAt v 0) [58, 45] [60, 61] [62, 61] [33, 61] 0 0 [] 0 0 [] 0) (Tr.ret (PV.tup [PV.agg [PV.int .i64 (lword1_n_0 v (sAt v 0) [58, 45] [60, 61] [62, 61] [33, 61] 0 0 [] 0 0 [] 0), PV.str (lword1_s_0 v (sAt v 0) [58, 45] [60, 61] [62, 61] [33, 61] 0 0 [] 0 0 [] 0), PV.int .i64 (lword1_n2_0 v (sAt v 0) [58, 45] [60, 61] [62, 61] [33, 61] 0 0 [] 0 0 [] 0), PV.int .i64 (lword1_n3_0 v (sAt v 0) [58, 45] [60, 61] [62, 61] [33, 61] 0 0 [] 0 0 [] 0), PV.str (lword1_s2_0 v (sAt v 0) [58, 45] [60, 61] [62, 61] [33, 61] 0 0 [] 0 0 [] 0), PV.int .i64 (lword1_n4_0 v (sAt v 0) [58, 45] [60, 61] [62, 61] [33, 61] 0 0 [] 0 0 [] 0)],
 PV.bool (lword1_b_0 v (sAt v 0) [58, 45] [60, 61] [62, 61] [33, 61] 0 0 [] 0 0 [] 0)])) (Tr.ite (lword1_is1 v (sAt v 0) [58, 45] [60, 61] [62, 61] [33, 61] 0 0 [] 0 0 [] 0) (Tr.ite (okSub true (okPos 1) 0 (nNat 1) (nLen (lword1_s_1 v (sAt v 0) [58, 45] [60, 61] [62, 61] [33, 61] 0 0 [] 0 0 [] 0))) (Tr.ret (PV.tup [PV.agg [PV.int .i64 6, PV.str (sSub (lword1_s_1 v (sAt v 0) [58, 45] [60, 61] [62, 61] [33, 61] 0 0 [] 0 0 [] 0) 0 (nNat 1)), PV.int .i64 0, PV.int .i64 0, PV.str [], PV.int .i64 0], PV.bool (iLe 0 (idxV [40, 41, 44, 46, 43, 45, 61, 58, 60, 62] (lword1_n_1 v (sAt v 0) [58, 45] [60, 61] [62, 61] [33, 61] 0 0 [] 0 0 [] 0)))])) Tr.fail) Tr.fail)))) Tr.fail) (Tr.ite (iEq (sAt v 0) 34) (Tr.ite (lquoted_is0 v) (Tr.ite (okSub true (okPos (lquoted_n v)) 0 (nNat (lquoted_n v)) (nLen v)) (Tr.ite (lvalued_is0 (sSub v 0 (nNat (lquoted_n v))) 5) (Tr.ret (PV.tup [PV.agg [PV.int .i64 (lvalued_n (sSub v 0 (nNat (lquoted_n v))) 5), PV.str (lvalued_s (sSub v 0 (nNat (lquoted_n v))) 5), PV.int .i64 (lvalued_n2 (sSub v 0 (nNat (lquoted_n v))) 5), PV.int .i64 (lvalued_n3 (sSub v 0 (nNat (lquoted_n v))) 5), PV.str (lvalued_s2 (sSub v 0 (nNat (lquoted_n v))) 5), PV.int .i64 (lvalued_n4 (sSub v 0 (nNat (lquoted_n v))) 5)], PV.bool (lvalued_b (sSub v 0 (nNat (lquoted_n v))) 5)])) Tr.fail) Tr.fail) Tr.fail) (Tr.ite (lword1_is0 v (sAt v 0) [58, 45] [60, 61] [62, 61] [33, 61] 0 0 [] 0 0 [] 0) (Tr.ret (PV.tup [PV.agg [PV.int .i64 (lword1_n_0 v (sAt v 0) [58, 45] [60, 61] [62, 61] [33, 61] 0 0 [] 0 0 [] 0), PV.str (lword1_s_0 v (sAt v 0) [58, 45] [60, 61] [62, 61] [33, 61] 0 0 [] 0 0 [] 0), PV.int .i64 (lword1_n2_0 v (sAt v 0) [58, 45] [60, 61] [62, 61] [33, 61] 0 0 [] 0 0 [] 0), PV.int .i64 (lword1_n3_0 v (sAt v 0) [58, 45] [60, 61] [62, 61] [33, 61] 0 0 [] 0 0 [] 0), PV.str (lword1_s2_0 v (sAt v 0) [58, 45] [60, 61] [62, 61] [33, 61] 0 0 [] 0 0 [] 0), PV.int .i64 (lword1_n4_0 v (sAt v 0) [58, 45] [60, 61] [62, 61] [33, 61] 0 0 [] 0 0 [] 0)],
 PV.bool (lword1_b_0 v (sAt v 0) [58, 45] [60, 61] [62, 61] [33, 61] 0 0 [] 0 0 [] 0)])) (Tr.ite (lword1_is1 v (sAt v 0) [58, 45] [60, 61] [62, 61] [33, 61] 0 0 [] 0 0 [] 0) (Tr.ite (okSub true (okPos 1) 0 (nNat 1) (nLen (lword1_s_1 v (sAt v 0) [58, 45] [60, 61] [62, 61] [33, 61] 0 0 [] 0 0 [] 0))) (Tr.ret (PV.tup [PV.agg [PV.int .i64 6, PV.str (sSub (lword1_s_1 v (sAt v 0) [58, 45] [60, 61] [62, 61] [33, 61] 0 0 [] 0 0 [] 0) 0 (nNat 1)), PV.int .i64 0, PV.int .i64 0, PV.str [], PV.int .i64 0], PV.bool (iLe 0 (idxV [40, 41, 44, 46, 43, 45, 61, 58, 60, 62] (lword1_n_1 v (sAt v 0) [58, 45] [60, 61] [62, 61] [33, 61] 0 0 [] 0 0 [] 0)))])) Tr.fail) Tr.fail))))) Tr.fail))) (Tr.ite (iEq (sAt v 0) 95) (Tr.ite (lfollows_is0 (sAt v 1)) (Tr.ret (PV.tup [PV.agg [PV.int .i64 3, PV.str [95], PV.int .i64 0, PV.int .i64 0, PV.str [], PV.int .i64 0], PV.bool (bNot (lfollows_b (sAt v 1)))])) Tr.fail) (Tr.ite (ldigit_is0 (sAt v 0)) (Tr.ite (ldigit_b (sAt v 0)) (Tr.ite (okSub (okPos 1) true (nNat 1) (nLen v) (nLen v)) (Tr.ite (lrunb_is0 (sSub v (nNat 1) (nLen v))) (Tr.ite (okSub true (okPos (iAdd .i64 1 (lrunb_n (sSub v (nNat 1) (nLen v))))) 0 (nNat (iAdd .i64 1 (lrunb_n (sSub v (nNat 1) (nLen v))))) (nLen v)) (Tr.ite (lvalued_is0 (sSub v 0 (nNat (iAdd .i64 1 (lrunb_n (sSub v (nNat 1) (nLen v)))))) 4) (Tr.ret (PV.tup [PV.agg [PV.int .i64 (lvalued_n (sSub v 0 (nNat (iAdd .i64 1 (lrunb_n (sSub v (nNat 1) (nLen v)))))) 4), PV.str (lvalued_s (sSub v 0 (nNat (iAdd .i64 1 (lrunb_n (sSub v (nNat 1) (nLen v)))))) 4), PV.int .i64 (lvalued_n2 (sSub v 0 (nNat (iAdd .i64 1 (lrunb_n (sSub v (nNat 1) (nLen v)))))) 4), PV.int .i64 (lvalued_n3 (sSub v 0 (nNat (iAdd .i64 1 (lrunb_n (sSub v (nNat 1) (nLen v)))))) 4), PV.str (lvalued_s2 (sSub v 0 (nNat (iAdd .i64 1 (lrunb_n (sSub v (nNat 1) (nLen v)))))) 4), PV.int .i64 (lvalued_n4 (sSub v 0 (nNat (iAdd .i64 1 (lrunb_n (sSub v (nNat 1) (nLen v)))))) 4)], PV.bool (lvalued_b (sSub v 0 (nNat (iAdd .i64 1 (lrunb_n (sSub v (nNat 1) (nLen v)))))) 4)]))
 Tr.fail) Tr.fail) Tr.fail) Tr.fail) (Tr.ite (iEq (sAt v 0) 45) (Tr.ite (ldigit_is0 (sAt v 1)) (Tr.ite (ldigit_b (sAt v 1)) (Tr.ite (okSub (okPos 1) true (nNat 1) (nLen v) (nLen v)) (Tr.ite (lrunb_is0 (sSub v (nNat 1) (nLen v))) (Tr.ite (okSub true (okPos (iAdd .i64 1 (lrunb_n (sSub v (nNat 1) (nLen v))))) 0 (nNat (iAdd .i64 1 (lrunb_n (sSub v (nNat 1) (nLen v))))) (nLen v)) (Tr.ite (lvalued_is0 (sSub v 0 (nNat (iAdd .i64 1 (lrunb_n (sSub v (nNat 1) (nLen v)))))) 4) (Tr.ret (PV.tup [PV.agg [PV.int .i64 (lvalued_n (sSub v 0 (nNat (iAdd .i64 1 (lrunb_n (sSub v (nNat 1) (nLen v)))))) 4), PV.str (lvalued_s (sSub v 0 (nNat (iAdd .i64 1 (lrunb_n (sSub v (nNat 1) (nLen v)))))) 4), PV.int .i64 (lvalued_n2 (sSub v 0 (nNat (iAdd .i64 1 (lrunb_n (sSub v (nNat 1) (nLen v)))))) 4), PV.int .i64 (lvalued_n3 (sSub v 0 (nNat (iAdd .i64 1 (lrunb_n (sSub v (nNat 1) (nLen v)))))) 4), PV.str (lvalued_s2 (sSub v 0 (nNat (iAdd .i64 1 (lrunb_n (sSub v (nNat 1) (nLen v)))))) 4), PV.int .i64 (lvalued_n4 (sSub v 0 (nNat (iAdd .i64 1 (lrunb_n (sSub v (nNat 1) (nLen v)))))) 4)], PV.bool (lvalued_b (sSub v 0 (nNat (iAdd .i64 1 (lrunb_n (sSub v (nNat 1) (nLen v)))))) 4)])) Tr.fail) Tr.fail) Tr.fail) Tr.fail) (Tr.ite (iEq (sAt v 0) 34) (Tr.ite (lquoted_is0 v) (Tr.ite (okSub true (okPos (lquoted_n v)) 0 (nNat (lquoted_n v)) (nLen v)) (Tr.ite (lvalued_is0 (sSub v 0 (nNat (lquoted_n v))) 5) (Tr.ret (PV.tup [PV.agg [PV.int .i64 (lvalued_n (sSub v 0 (nNat (lquoted_n v))) 5), PV.str (lvalued_s (sSub v 0 (nNat (lquoted_n v))) 5), PV.int .i64 (lvalued_n2 (sSub v 0 (nNat (lquoted_n v))) 5), PV.int .i64 (lvalued_n3 (sSub v 0 (nNat (lquoted_n v))) 5), PV.str (lvalued_s2 (sSub v 0 (nNat (lquoted_n v))) 5), PV.int .i64 (lvalued_n4 (sSub v 0 (nNat (lquoted_n v))) 5)], PV.bool (lvalued_b (sSub v 0 (nNat (lquoted_n v))) 5)])) Tr.fail) Tr.fail) Tr.fail) (Tr.ite (lword1_is0 v (sAt v 0) [58, 45] [60, 61] [62, 61] [33, 61] 0 0 [] 0 0 [] 0) (Tr.ret (PV.tup [PV.agg
 [PV.int .i64 (lword1_n_0 v (sAt v 0) [58, 45] [60, 61] [62, 61] [33, 61] 0 0 [] 0 0 [] 0), PV.str (lword1_s_0 v (sAt v 0) [58, 45] [60, 61] [62, 61] [33, 61] 0 0 [] 0 0 [] 0), PV.int .i64 (lword1_n2_0 v (sAt v 0) [58, 45] [60, 61] [62, 61] [33, 61] 0 0 [] 0 0 [] 0), PV.int .i64 (lword1_n3_0 v (sAt v 0) [58, 45] [60, 61] [62, 61] [33, 61] 0 0 [] 0 0 [] 0), PV.str (lword1_s2_0 v (sAt v 0) [58, 45] [60, 61] [62, 61] [33, 61] 0 0 [] 0 0 [] 0), PV.int .i64 (lword1_n4_0 v (sAt v 0) [58, 45] [60, 61] [62, 61] [33, 61] 0 0 [] 0 0 [] 0)], PV.bool (lword1_b_0 v (sAt v 0) [58, 45] [60, 61] [62, 61] [33, 61] 0 0 [] 0 0 [] 0)])) (Tr.ite (lword1_is1 v (sAt v 0) [58, 45] [60, 61] [62, 61] [33, 61] 0 0 [] 0 0 [] 0) (Tr.ite (okSub true (okPos 1) 0 (nNat 1) (nLen (lword1_s_1 v (sAt v 0) [58, 45] [60, 61] [62, 61] [33, 61] 0 0 [] 0 0 [] 0))) (Tr.ret (PV.tup [PV.agg [PV.int .i64 6, PV.str (sSub (lword1_s_1 v (sAt v 0) [58, 45] [60, 61] [62, 61] [33, 61] 0 0 [] 0 0 [] 0) 0 (nNat 1)), PV.int .i64 0, PV.int .i64 0, PV.str [], PV.int .i64 0], PV.bool (iLe 0 (idxV [40, 41, 44, 46, 43, 45, 61, 58, 60, 62] (lword1_n_1 v (sAt v 0) [58, 45] [60, 61] [62, 61] [33, 61] 0 0 [] 0 0 [] 0)))])) Tr.fail) Tr.fail)))) Tr.fail) (Tr.ite (iEq (sAt v 0) 34) (Tr.ite (lquoted_is0 v) (Tr.ite (okSub true (okPos (lquoted_n v)) 0 (nNat (lquoted_n v)) (nLen v)) (Tr.ite (lvalued_is0 (sSub v 0 (nNat (lquoted_n v))) 5) (Tr.ret (PV.tup [PV.agg [PV.int .i64 (lvalued_n (sSub v 0 (nNat (lquoted_n v))) 5), PV.str (lvalued_s (sSub v 0 (nNat (lquoted_n v))) 5), PV.int .i64 (lvalued_n2 (sSub v 0 (nNat (lquoted_n v))) 5), PV.int .i64 (lvalued_n3 (sSub v 0 (nNat (lquoted_n v))) 5), PV.str (lvalued_s2 (sSub v 0 (nNat (lquoted_n v))) 5), PV.int .i64 (lvalued_n4 (sSub v 0 (nNat (lquoted_n v))) 5)], PV.bool (lvalued_b (sSub v 0 (nNat (lquoted_n v))) 5)])) Tr.fail) Tr.fail) Tr.fail) (Tr.ite (lword1_is0 v (sAt v 0) [58, 45] [60, 61] [62, 61] [33, 61] 0 0 [] 0 0 [] 0) (Tr.ret (PV.tup [PV.agg
 [PV.int .i64 (lword1_n_0 v (sAt v 0) [58, 45] [60, 61] [62, 61] [33, 61] 0 0 [] 0 0 [] 0), PV.str (lword1_s_0 v (sAt v 0) [58, 45] [60, 61] [62, 61] [33, 61] 0 0 [] 0 0 [] 0), PV.int .i64 (lword1_n2_0 v (sAt v 0) [58, 45] [60, 61] [62, 61] [33, 61] 0 0 [] 0 0 [] 0), PV.int .i64 (lword1_n3_0 v (sAt v 0) [58, 45] [60, 61] [62, 61] [33, 61] 0 0 [] 0 0 [] 0), PV.str (lword1_s2_0 v (sAt v 0) [58, 45] [60, 61] [62, 61] [33, 61] 0 0 [] 0 0 [] 0), PV.int .i64 (lword1_n4_0 v (sAt v 0) [58, 45] [60, 61] [62, 61] [33, 61] 0 0 [] 0 0 [] 0)], PV.bool (lword1_b_0 v (sAt v 0) [58, 45] [60, 61] [62, 61] [33, 61] 0 0 [] 0 0 [] 0)])) (Tr.ite (lword1_is1 v (sAt v 0) [58, 45] [60, 61] [62, 61] [33, 61] 0 0 [] 0 0 [] 0) (Tr.ite (okSub true (okPos 1) 0 (nNat 1) (nLen (lword1_s_1 v (sAt v 0) [58, 45] [60, 61] [62, 61] [33, 61] 0 0 [] 0 0 [] 0))) (Tr.ret (PV.tup [PV.agg [PV.int .i64 6, PV.str (sSub (lword1_s_1 v (sAt v 0) [58, 45] [60, 61] [62, 61] [33, 61] 0 0 [] 0 0 [] 0) 0 (nNat 1)), PV.int .i64 0, PV.int .i64 0, PV.str [], PV.int .i64 0], PV.bool (iLe 0 (idxV [40, 41, 44, 46, 43, 45, 61, 58, 60, 62] (lword1_n_1 v (sAt v 0) [58, 45] [60, 61] [62, 61] [33, 61] 0 0 [] 0 0 [] 0)))])) Tr.fail) Tr.fail))))) Tr.fail)))) Tr.fail) (Tr.ite (iLe 97 (sAt v 0)) (Tr.ite (iLe (sAt v 0) 122) (Tr.ite (lname_is0 v 1) (Tr.ret (PV.tup [PV.agg [PV.int .i64 (lname_n v 1), PV.str (lname_s v 1), PV.int .i64 (lname_n2 v 1), PV.int .i64 (lname_n3 v 1), PV.str (lname_s2 v 1), PV.int .i64 (lname_n4 v 1)], PV.bool (lname_b v 1)])) Tr.fail) (Tr.ite (iLe 65 (sAt v 0)) (Tr.ite (iLe (sAt v 0) 90) (Tr.ite (lname_is0 v 2) (Tr.ret (PV.tup [PV.agg [PV.int .i64 (lname_n v 2), PV.str (lname_s v 2), PV.int .i64 (lname_n2 v 2), PV.int .i64 (lname_n3 v 2), PV.str (lname_s2 v 2), PV.int .i64 (lname_n4 v 2)], PV.bool (lname_b v 2)])) Tr.fail) (Tr.ite (iEq (sAt v 0) 95) (Tr.ite (lfollows_is0 0) (Tr.ret
 (PV.tup [PV.agg [PV.int .i64 3, PV.str [95], PV.int .i64 0, PV.int .i64 0, PV.str [], PV.int .i64 0], PV.bool (bNot (lfollows_b 0))])) Tr.fail) (Tr.ite (ldigit_is0 (sAt v 0)) (Tr.ite (ldigit_b (sAt v 0)) (Tr.ite (okSub (okPos 1) true (nNat 1) (nLen v) (nLen v)) (Tr.ite (lrunb_is0 (sSub v (nNat 1) (nLen v))) (Tr.ite (okSub true (okPos (iAdd .i64 1 (lrunb_n (sSub v (nNat 1) (nLen v))))) 0 (nNat (iAdd .i64 1 (lrunb_n (sSub v (nNat 1) (nLen v))))) (nLen v)) (Tr.ite (lvalued_is0 (sSub v 0 (nNat (iAdd .i64 1 (lrunb_n (sSub v (nNat 1) (nLen v)))))) 4) (Tr.ret (PV.tup [PV.agg [PV.int .i64 (lvalued_n (sSub v 0 (nNat (iAdd .i64 1 (lrunb_n (sSub v (nNat 1) (nLen v)))))) 4), PV.str (lvalued_s (sSub v 0 (nNat (iAdd .i64 1 (lrunb_n (sSub v (nNat 1) (nLen v)))))) 4), PV.int .i64 (lvalued_n2 (sSub v 0 (nNat (iAdd .i64 1 (lrunb_n (sSub v (nNat 1) (nLen v)))))) 4), PV.int .i64 (lvalued_n3 (sSub v 0 (nNat (iAdd .i64 1 (lrunb_n (sSub v (nNat 1) (nLen v)))))) 4), PV.str (lvalued_s2 (sSub v 0 (nNat (iAdd .i64 1 (lrunb_n (sSub v (nNat 1) (nLen v)))))) 4), PV.int .i64 (lvalued_n4 (sSub v 0 (nNat (iAdd .i64 1 (lrunb_n (sSub v (nNat 1) (nLen v)))))) 4)], PV.bool (lvalued_b (sSub v 0 (nNat (iAdd .i64 1 (lrunb_n (sSub v (nNat 1) (nLen v)))))) 4)])) Tr.fail) Tr.fail) Tr.fail) Tr.fail) (Tr.ite (iEq (sAt v 0) 45) (Tr.ite (ldigit_is0 0) (Tr.ite (ldigit_b 0) (Tr.ite (okSub (okPos 1) true (nNat 1) (nLen v) (nLen v)) (Tr.ite (lrunb_is0 (sSub v (nNat 1) (nLen v))) (Tr.ite (okSub true (okPos (iAdd .i64 1 (lrunb_n (sSub v (nNat 1) (nLen v))))) 0 (nNat (iAdd .i64 1 (lrunb_n (sSub v (nNat 1) (nLen v))))) (nLen v)) (Tr.ite (lvalued_is0 (sSub v 0 (nNat (iAdd .i64 1 (lrunb_n (sSub v (nNat 1) (nLen v)))))) 4) (Tr.ret (PV.tup [PV.agg [PV.int .i64 (lvalued_n (sSub v 0 (nNat (iAdd .i64 1 (lrunb_n (sSub v (nNat 1) (nLen v)))))) 4), PV.str (lvalued_s (sSub v 0 (nNat (iAdd .i64 1 (lrunb_n (sSub v (nNat 1) (nLen v)))))) 4),
 PV.int .i64 (lvalued_n2 (sSub v 0 (nNat (iAdd .i64 1 (lrunb_n (sSub v (nNat 1) (nLen v)))))) 4), PV.int .i64 (lvalued_n3 (sSub v 0 (nNat (iAdd .i64 1 (lrunb_n (sSub v (nNat 1) (nLen v)))))) 4), PV.str (lvalued_s2 (sSub v 0 (nNat (iAdd .i64 1 (lrunb_n (sSub v (nNat 1) (nLen v)))))) 4), PV.int .i64 (lvalued_n4 (sSub v 0 (nNat (iAdd .i64 1 (lrunb_n (sSub v (nNat 1) (nLen v)))))) 4)], PV.bool (lvalued_b (sSub v 0 (nNat (iAdd .i64 1 (lrunb_n (sSub v (nNat 1) (nLen v)))))) 4)])) Tr.fail) Tr.fail) Tr.fail) Tr.fail) (Tr.ite (iEq (sAt v 0) 34) (Tr.ite (lquoted_is0 v) (Tr.ite (okSub true (okPos (lquoted_n v)) 0 (nNat (lquoted_n v)) (nLen v)) (Tr.ite (lvalued_is0 (sSub v 0 (nNat (lquoted_n v))) 5) (Tr.ret (PV.tup [PV.agg [PV.int .i64 (lvalued_n (sSub v 0 (nNat (lquoted_n v))) 5), PV.str (lvalued_s (sSub v 0 (nNat (lquoted_n v))) 5), PV.int .i64 (lvalued_n2 (sSub v 0 (nNat (lquoted_n v))) 5), PV.int .i64 (lvalued_n3 (sSub v 0 (nNat (lquoted_n v))) 5), PV.str (lvalued_s2 (sSub v 0 (nNat (lquoted_n v))) 5), PV.int .i64 (lvalued_n4 (sSub v 0 (nNat (lquoted_n v))) 5)], PV.bool (lvalued_b (sSub v 0 (nNat (lquoted_n v))) 5)])) Tr.fail) Tr.fail) Tr.fail) (Tr.ite (lword1_is0 v (sAt v 0) [58, 45] [60, 61] [62, 61] [33, 61] 0 0 [] 0 0 [] 0) (Tr.ret (PV.tup [PV.agg [PV.int .i64 (lword1_n_0 v (sAt v 0) [58, 45] [60, 61] [62, 61] [33, 61] 0 0 [] 0 0 [] 0), PV.str (lword1_s_0 v (sAt v 0) [58, 45] [60, 61] [62, 61] [33, 61] 0 0 [] 0 0 [] 0), PV.int .i64 (lword1_n2_0 v (sAt v 0) [58, 45] [60, 61] [62, 61] [33, 61] 0 0 [] 0 0 [] 0), PV.int .i64 (lword1_n3_0 v (sAt v 0) [58, 45] [60, 61] [62, 61] [33, 61] 0 0 [] 0 0 [] 0), PV.str (lword1_s2_0 v (sAt v 0) [58, 45] [60, 61] [62, 61] [33, 61] 0 0 [] 0 0 [] 0), PV.int .i64 (lword1_n4_0 v (sAt v 0) [58, 45] [60, 61] [62, 61] [33, 61] 0 0 [] 0 0 [] 0)], PV.bool (lword1_b_0 v (sAt v 0) [58, 45] [60, 61] [62, 61] [33, 61] 0 0 [] 0 0 [] 0)])) (Tr.ite (lword1_is1 v (sAt v 0) [58, 45] [60, 61] [62, 61] [33, 61] 0 0 [] 0 0 [] 0)
 (Tr.ite (okSub true (okPos 1) 0 (nNat 1) (nLen (lword1_s_1 v (sAt v 0) [58, 45] [60, 61] [62, 61] [33, 61] 0 0 [] 0 0 [] 0))) (Tr.ret (PV.tup [PV.agg [PV.int .i64 6, PV.str (sSub (lword1_s_1 v (sAt v 0) [58, 45] [60, 61] [62, 61] [33, 61] 0 0 [] 0 0 [] 0) 0 (nNat 1)), PV.int .i64 0, PV.int .i64 0, PV.str [], PV.int .i64 0], PV.bool (iLe 0 (idxV [40, 41, 44, 46, 43, 45, 61, 58, 60, 62] (lword1_n_1 v (sAt v 0) [58, 45] [60, 61] [62, 61] [33, 61] 0 0 [] 0 0 [] 0)))])) Tr.fail) Tr.fail)))) Tr.fail) (Tr.ite (iEq (sAt v 0) 34) (Tr.ite (lquoted_is0 v) (Tr.ite (okSub true (okPos (lquoted_n v)) 0 (nNat (lquoted_n v)) (nLen v)) (Tr.ite (lvalued_is0 (sSub v 0 (nNat (lquoted_n v))) 5) (Tr.ret (PV.tup [PV.agg [PV.int .i64 (lvalued_n (sSub v 0 (nNat (lquoted_n v))) 5), PV.str (lvalued_s (sSub v 0 (nNat (lquoted_n v))) 5), PV.int .i64 (lvalued_n2 (sSub v 0 (nNat (lquoted_n v))) 5), PV.int .i64 (lvalued_n3 (sSub v 0 (nNat (lquoted_n v))) 5), PV.str (lvalued_s2 (sSub v 0 (nNat (lquoted_n v))) 5), PV.int .i64 (lvalued_n4 (sSub v 0 (nNat (lquoted_n v))) 5)], PV.bool (lvalued_b (sSub v 0 (nNat (lquoted_n v))) 5)])) Tr.fail) Tr.fail) Tr.fail) (Tr.ite (lword1_is0 v (sAt v 0) [58, 45] [60, 61] [62, 61] [33, 61] 0 0 [] 0 0 [] 0) (Tr.ret (PV.tup [PV.agg [PV.int .i64 (lword1_n_0 v (sAt v 0) [58, 45] [60, 61] [62, 61] [33, 61] 0 0 [] 0 0 [] 0), PV.str (lword1_s_0 v (sAt v 0) [58, 45] [60, 61] [62, 61] [33, 61] 0 0 [] 0 0 [] 0), PV.int .i64 (lword1_n2_0 v (sAt v 0) [58, 45] [60, 61] [62, 61] [33, 61] 0 0 [] 0 0 [] 0), PV.int .i64 (lword1_n3_0 v (sAt v 0) [58, 45] [60, 61] [62, 61] [33, 61] 0 0 [] 0 0 [] 0), PV.str (lword1_s2_0 v (sAt v 0) [58, 45] [60, 61] [62, 61] [33, 61] 0 0 [] 0 0 [] 0), PV.int .i64 (lword1_n4_0 v (sAt v 0) [58, 45] [60, 61] [62, 61] [33, 61] 0 0 [] 0 0 [] 0)], PV.bool (lword1_b_0 v (sAt v 0) [58, 45] [60, 61] [62, 61] [33, 61] 0 0 [] 0 0 [] 0)])) (Tr.ite (lword1_is1 v (sAt v 0) [58, 45] [60, 61] [62, 61] [33, 61] 0 0 [] 0 0 [] 0)
 (Tr.ite (okSub true (okPos 1) 0 (nNat 1) (nLen (lword1_s_1 v (sAt v 0) [58, 45] [60, 61] [62, 61] [33, 61] 0 0 [] 0 0 [] 0))) (Tr.ret (PV.tup [PV.agg [PV.int .i64 6, PV.str (sSub (lword1_s_1 v (sAt v 0) [58, 45] [60, 61] [62, 61] [33, 61] 0 0 [] 0 0 [] 0) 0 (nNat 1)), PV.int .i64 0, PV.int .i64 0, PV.str [], PV.int .i64 0], PV.bool (iLe 0 (idxV [40, 41, 44, 46, 43, 45, 61, 58, 60, 62] (lword1_n_1 v (sAt v 0) [58, 45] [60, 61] [62, 61] [33, 61] 0 0 [] 0 0 [] 0)))])) Tr.fail) Tr.fail))))) Tr.fail))) (Tr.ite (iEq (sAt v 0) 95) (Tr.ite (lfollows_is0 0) (Tr.ret (PV.tup [PV.agg [PV.int .i64 3, PV.str [95], PV.int .i64 0, PV.int .i64 0, PV.str [], PV.int .i64 0], PV.bool (bNot (lfollows_b 0))])) Tr.fail) (Tr.ite (ldigit_is0 (sAt v 0)) (Tr.ite (ldigit_b (sAt v 0)) (Tr.ite (okSub (okPos 1) true (nNat 1) (nLen v) (nLen v)) (Tr.ite (lrunb_is0 (sSub v (nNat 1) (nLen v))) (Tr.ite (okSub true (okPos (iAdd .i64 1 (lrunb_n (sSub v (nNat 1) (nLen v))))) 0 (nNat (iAdd .i64 1 (lrunb_n (sSub v (nNat 1) (nLen v))))) (nLen v)) (Tr.ite (lvalued_is0 (sSub v 0 (nNat (iAdd .i64 1 (lrunb_n (sSub v (nNat 1) (nLen v)))))) 4) (Tr.ret (PV.tup [PV.agg [PV.int .i64 (lvalued_n (sSub v 0 (nNat (iAdd .i64 1 (lrunb_n (sSub v (nNat 1) (nLen v)))))) 4), PV.str (lvalued_s (sSub v 0 (nNat (iAdd .i64 1 (lrunb_n (sSub v (nNat 1) (nLen v)))))) 4), PV.int .i64 (lvalued_n2 (sSub v 0 (nNat (iAdd .i64 1 (lrunb_n (sSub v (nNat 1) (nLen v)))))) 4), PV.int .i64 (lvalued_n3 (sSub v 0 (nNat (iAdd .i64 1 (lrunb_n (sSub v (nNat 1) (nLen v)))))) 4), PV.str (lvalued_s2 (sSub v 0 (nNat (iAdd .i64 1 (lrunb_n (sSub v (nNat 1) (nLen v)))))) 4), PV.int .i64 (lvalued_n4 (sSub v 0 (nNat (iAdd .i64 1 (lrunb_n (sSub v (nNat 1) (nLen v)))))) 4)], PV.bool (lvalued_b (sSub v 0 (nNat (iAdd .i64 1 (lrunb_n (sSub v (nNat 1) (nLen v)))))) 4)])) Tr.fail) Tr.fail) Tr.fail) Tr.fail) (Tr.ite (iEq (sAt v 0) 45) (Tr.ite (ldigit_is0 0) (Tr.ite (ldigit_b 0) (Tr.ite (okSub (okPos 1) true (nNat 1) (nLen v) (nLen v))
 (Tr.ite (lrunb_is0 (sSub v (nNat 1) (nLen v))) (Tr.ite (okSub true (okPos (iAdd .i64 1 (lrunb_n (sSub v (nNat 1) (nLen v))))) 0 (nNat (iAdd .i64 1 (lrunb_n (sSub v (nNat 1) (nLen v))))) (nLen v)) (Tr.ite (lvalued_is0 (sSub v 0 (nNat (iAdd .i64 1 (lrunb_n (sSub v (nNat 1) (nLen v)))))) 4) (Tr.ret (PV.tup [PV.agg [PV.int .i64 (lvalued_n (sSub v 0 (nNat (iAdd .i64 1 (lrunb_n (sSub v (nNat 1) (nLen v)))))) 4), PV.str (lvalued_s (sSub v 0 (nNat (iAdd .i64 1 (lrunb_n (sSub v (nNat 1) (nLen v)))))) 4), PV.int .i64 (lvalued_n2 (sSub v 0 (nNat (iAdd .i64 1 (lrunb_n (sSub v (nNat 1) (nLen v)))))) 4), PV.int .i64 (lvalued_n3 (sSub v 0 (nNat (iAdd .i64 1 (lrunb_n (sSub v (nNat 1) (nLen v)))))) 4), PV.str (lvalued_s2 (sSub v 0 (nNat (iAdd .i64 1 (lrunb_n (sSub v (nNat 1) (nLen v)))))) 4), PV.int .i64 (lvalued_n4 (sSub v 0 (nNat (iAdd .i64 1 (lrunb_n (sSub v (nNat 1) (nLen v)))))) 4)], PV.bool (lvalued_b (sSub v 0 (nNat (iAdd .i64 1 (lrunb_n (sSub v (nNat 1) (nLen v)))))) 4)])) Tr.fail) Tr.fail) Tr.fail) Tr.fail) (Tr.ite (iEq (sAt v 0) 34) (Tr.ite (lquoted_is0 v) (Tr.ite (okSub true (okPos (lquoted_n v)) 0 (nNat (lquoted_n v)) (nLen v)) (Tr.ite (lvalued_is0 (sSub v 0 (nNat (lquoted_n v))) 5) (Tr.ret (PV.tup [PV.agg [PV.int .i64 (lvalued_n (sSub v 0 (nNat (lquoted_n v))) 5), PV.str (lvalued_s (sSub v 0 (nNat (lquoted_n v))) 5), PV.int .i64 (lvalued_n2 (sSub v 0 (nNat (lquoted_n v))) 5), PV.int .i64 (lvalued_n3 (sSub v 0 (nNat (lquoted_n v))) 5), PV.str (lvalued_s2 (sSub v 0 (nNat (lquoted_n v))) 5), PV.int .i64 (lvalued_n4 (sSub v 0 (nNat (lquoted_n v))) 5)], PV.bool (lvalued_b (sSub v 0 (nNat (lquoted_n v))) 5)])) Tr.fail) Tr.fail) Tr.fail) (Tr.ite (lword1_is0 v (sAt v 0) [58, 45] [60, 61] [62, 61] [33, 61] 0 0 [] 0 0 [] 0) (Tr.ret (PV.tup [PV.agg [PV.int .i64 (lword1_n_0 v (sAt v 0) [58, 45] [60, 61] [62, 61] [33, 61] 0 0 [] 0 0 [] 0), PV.str (lword1_s_0 v (sAt v 0) [58, 45] [60, 61] [62, 61] [33, 61] 0 0 [] 0 0 [] 0),
 PV.int .i64 (lword1_n2_0 v (sAt v 0) [58, 45] [60, 61] [62, 61] [33, 61] 0 0 [] 0 0 [] 0), PV.int .i64 (lword1_n3_0 v (sAt v 0) [58, 45] [60, 61] [62, 61] [33, 61] 0 0 [] 0 0 [] 0), PV.str (lword1_s2_0 v (sAt v 0) [58, 45] [60, 61] [62, 61] [33, 61] 0 0 [] 0 0 [] 0), PV.int .i64 (lword1_n4_0 v (sAt v 0) [58, 45] [60, 61] [62, 61] [33, 61] 0 0 [] 0 0 [] 0)], PV.bool (lword1_b_0 v (sAt v 0) [58, 45] [60, 61] [62, 61] [33, 61] 0 0 [] 0 0 [] 0)])) (Tr.ite (lword1_is1 v (sAt v 0) [58, 45] [60, 61] [62, 61] [33, 61] 0 0 [] 0 0 [] 0) (Tr.ite (okSub true (okPos 1) 0 (nNat 1) (nLen (lword1_s_1 v (sAt v 0) [58, 45] [60, 61] [62, 61] [33, 61] 0 0 [] 0 0 [] 0))) (Tr.ret (PV.tup [PV.agg [PV.int .i64 6, PV.str (sSub (lword1_s_1 v (sAt v 0) [58, 45] [60, 61] [62, 61] [33, 61] 0 0 [] 0 0 [] 0) 0 (nNat 1)), PV.int .i64 0, PV.int .i64 0, PV.str [], PV.int .i64 0], PV.bool (iLe 0 (idxV [40, 41, 44, 46, 43, 45, 61, 58, 60, 62] (lword1_n_1 v (sAt v 0) [58, 45] [60, 61] [62, 61] [33, 61] 0 0 [] 0 0 [] 0)))])) Tr.fail) Tr.fail)))) Tr.fail) (Tr.ite (iEq (sAt v 0) 34) (Tr.ite (lquoted_is0 v) (Tr.ite (okSub true (okPos (lquoted_n v)) 0 (nNat (lquoted_n v)) (nLen v)) (Tr.ite (lvalued_is0 (sSub v 0 (nNat (lquoted_n v))) 5) (Tr.ret (PV.tup [PV.agg [PV.int .i64 (lvalued_n (sSub v 0 (nNat (lquoted_n v))) 5), PV.str (lvalued_s (sSub v 0 (nNat (lquoted_n v))) 5), PV.int .i64 (lvalued_n2 (sSub v 0 (nNat (lquoted_n v))) 5), PV.int .i64 (lvalued_n3 (sSub v 0 (nNat (lquoted_n v))) 5), PV.str (lvalued_s2 (sSub v 0 (nNat (lquoted_n v))) 5), PV.int .i64 (lvalued_n4 (sSub v 0 (nNat (lquoted_n v))) 5)], PV.bool (lvalued_b (sSub v 0 (nNat (lquoted_n v))) 5)])) Tr.fail) Tr.fail) Tr.fail) (Tr.ite (lword1_is0 v (sAt v 0) [58, 45] [60, 61] [62, 61] [33, 61] 0 0 [] 0 0 [] 0) (Tr.ret (PV.tup [PV.agg [PV.int .i64 (lword1_n_0 v (sAt v 0) [58, 45] [60, 61] [62, 61] [33, 61] 0 0 [] 0 0 [] 0), PV.str (lword1_s_0 v (sAt v 0) [58, 45] [60, 61] [62, 61] [33, 61] 0 0 [] 0 0 [] 0),
 PV.int .i64 (lword1_n2_0 v (sAt v 0) [58, 45] [60, 61] [62, 61] [33, 61] 0 0 [] 0 0 [] 0), PV.int .i64 (lword1_n3_0 v (sAt v 0) [58, 45] [60, 61] [62, 61] [33, 61] 0 0 [] 0 0 [] 0), PV.str (lword1_s2_0 v (sAt v 0) [58, 45] [60, 61] [62, 61] [33, 61] 0 0 [] 0 0 [] 0), PV.int .i64 (lword1_n4_0 v (sAt v 0) [58, 45] [60, 61] [62, 61] [33, 61] 0 0 [] 0 0 [] 0)], PV.bool (lword1_b_0 v (sAt v 0) [58, 45] [60, 61] [62, 61] [33, 61] 0 0 [] 0 0 [] 0)])) (Tr.ite (lword1_is1 v (sAt v 0) [58, 45] [60, 61] [62, 61] [33, 61] 0 0 [] 0 0 [] 0) (Tr.ite (okSub true (okPos 1) 0 (nNat 1) (nLen (lword1_s_1 v (sAt v 0) [58, 45] [60, 61] [62, 61] [33, 61] 0 0 [] 0 0 [] 0))) (Tr.ret (PV.tup [PV.agg [PV.int .i64 6, PV.str (sSub (lword1_s_1 v (sAt v 0) [58, 45] [60, 61] [62, 61] [33, 61] 0 0 [] 0 0 [] 0) 0 (nNat 1)), PV.int .i64 0, PV.int .i64 0, PV.str [], PV.int .i64 0], PV.bool (iLe 0 (idxV [40, 41, 44, 46, 43, 45, 61, 58, 60, 62] (lword1_n_1 v (sAt v 0) [58, 45] [60, 61] [62, 61] [33, 61] 0 0 [] 0 0 [] 0)))])) Tr.fail) Tr.fail))))) Tr.fail)))) (Tr.ite (iLe 65 (sAt v 0)) (Tr.ite (iLe (sAt v 0) 90) (Tr.ite (lname_is0 v 2) (Tr.ret (PV.tup [PV.agg [PV.int .i64 (lname_n v 2), PV.str (lname_s v 2), PV.int .i64 (lname_n2 v 2), PV.int .i64 (lname_n3 v 2), PV.str (lname_s2 v 2), PV.int .i64 (lname_n4 v 2)], PV.bool (lname_b v 2)])) Tr.fail) (Tr.ite (iEq (sAt v 0) 95) (Tr.ite (lfollows_is0 0) (Tr.ret (PV.tup [PV.agg [PV.int .i64 3, PV.str [95], PV.int .i64 0, PV.int .i64 0, PV.str [], PV.int .i64 0], PV.bool (bNot (lfollows_b 0))])) Tr.fail) (Tr.ite (ldigit_is0 (sAt v 0)) (Tr.ite (ldigit_b (sAt v 0)) (Tr.ite (okSub (okPos 1) true (nNat 1) (nLen v) (nLen v)) (Tr.ite (lrunb_is0 (sSub v (nNat 1) (nLen v))) (Tr.ite (okSub true (okPos (iAdd .i64 1 (lrunb_n (sSub v (nNat 1) (nLen v))))) 0 (nNat (iAdd .i64 1 (lrunb_n (sSub v (nNat 1) (nLen v))))) (nLen v)) (Tr.ite (lvalued_is0 (sSub v 0 (nNat (iAdd .i64 1 (lrunb_n (sSub v (nNat 1) (nLen v)))))) 4) (Tr.ret (PV.tup [PV.agg
 [PV.int .i64 (lvalued_n (sSub v 0 (nNat (iAdd .i64 1 (lrunb_n (sSub v (nNat 1) (nLen v)))))) 4), PV.str (lvalued_s (sSub v 0 (nNat (iAdd .i64 1 (lrunb_n (sSub v (nNat 1) (nLen v)))))) 4), PV.int .i64 (lvalued_n2 (sSub v 0 (nNat (iAdd .i64 1 (lrunb_n (sSub v (nNat 1) (nLen v)))))) 4), PV.int .i64 (lvalued_n3 (sSub v 0 (nNat (iAdd .i64 1 (lrunb_n (sSub v (nNat 1) (nLen v)))))) 4), PV.str (lvalued_s2 (sSub v 0 (nNat (iAdd .i64 1 (lrunb_n (sSub v (nNat 1) (nLen v)))))) 4), PV.int .i64 (lvalued_n4 (sSub v 0 (nNat (iAdd .i64 1 (lrunb_n (sSub v (nNat 1) (nLen v)))))) 4)], PV.bool (lvalued_b (sSub v 0 (nNat (iAdd .i64 1 (lrunb_n (sSub v (nNat 1) (nLen v)))))) 4)])) Tr.fail) Tr.fail) Tr.fail) Tr.fail) (Tr.ite (iEq (sAt v 0) 45) (Tr.ite (ldigit_is0 0) (Tr.ite (ldigit_b 0) (Tr.ite (okSub (okPos 1) true (nNat 1) (nLen v) (nLen v)) (Tr.ite (lrunb_is0 (sSub v (nNat 1) (nLen v))) (Tr.ite (okSub true (okPos (iAdd .i64 1 (lrunb_n (sSub v (nNat 1) (nLen v))))) 0 (nNat (iAdd .i64 1 (lrunb_n (sSub v (nNat 1) (nLen v))))) (nLen v)) (Tr.ite (lvalued_is0 (sSub v 0 (nNat (iAdd .i64 1 (lrunb_n (sSub v (nNat 1) (nLen v)))))) 4) (Tr.ret (PV.tup [PV.agg [PV.int .i64 (lvalued_n (sSub v 0 (nNat (iAdd .i64 1 (lrunb_n (sSub v (nNat 1) (nLen v)))))) 4), PV.str (lvalued_s (sSub v 0 (nNat (iAdd .i64 1 (lrunb_n (sSub v (nNat 1) (nLen v)))))) 4), PV.int .i64 (lvalued_n2 (sSub v 0 (nNat (iAdd .i64 1 (lrunb_n (sSub v (nNat 1) (nLen v)))))) 4), PV.int .i64 (lvalued_n3 (sSub v 0 (nNat (iAdd .i64 1 (lrunb_n (sSub v (nNat 1) (nLen v)))))) 4), PV.str (lvalued_s2 (sSub v 0 (nNat (iAdd .i64 1 (lrunb_n (sSub v (nNat 1) (nLen v)))))) 4), PV.int .i64 (lvalued_n4 (sSub v 0 (nNat (iAdd .i64 1 (lrunb_n (sSub v (nNat 1) (nLen v)))))) 4)], PV.bool (lvalued_b (sSub v 0 (nNat (iAdd .i64 1 (lrunb_n (sSub v (nNat 1) (nLen v)))))) 4)])) Tr.fail) Tr.fail) Tr.fail) Tr.fail) (Tr.ite (iEq (sAt v 0) 34) (Tr.ite (lquoted_is0 v) (Tr.ite (okSub true (okPos (lquoted_n v)) 0 (nNat (lquoted_n v)) (nLen v))
 (Tr.ite (lvalued_is0 (sSub v 0 (nNat (lquoted_n v))) 5) (Tr.ret (PV.tup [PV.agg [PV.int .i64 (lvalued_n (sSub v 0 (nNat (lquoted_n v))) 5), PV.str (lvalued_s (sSub v 0 (nNat (lquoted_n v))) 5), PV.int .i64 (lvalued_n2 (sSub v 0 (nNat (lquoted_n v))) 5), PV.int .i64 (lvalued_n3 (sSub v 0 (nNat (lquoted_n v))) 5), PV.str (lvalued_s2 (sSub v 0 (nNat (lquoted_n v))) 5), PV.int .i64 (lvalued_n4 (sSub v 0 (nNat (lquoted_n v))) 5)], PV.bool (lvalued_b (sSub v 0 (nNat (lquoted_n v))) 5)])) Tr.fail) Tr.fail) Tr.fail) (Tr.ite (lword1_is0 v (sAt v 0) [58, 45] [60, 61] [62, 61] [33, 61] 0 0 [] 0 0 [] 0) (Tr.ret (PV.tup [PV.agg [PV.int .i64 (lword1_n_0 v (sAt v 0) [58, 45] [60, 61] [62, 61] [33, 61] 0 0 [] 0 0 [] 0), PV.str (lword1_s_0 v (sAt v 0) [58, 45] [60, 61] [62, 61] [33, 61] 0 0 [] 0 0 [] 0), PV.int .i64 (lword1_n2_0 v (sAt v 0) [58, 45] [60, 61] [62, 61] [33, 61] 0 0 [] 0 0 [] 0), PV.int .i64 (lword1_n3_0 v (sAt v 0) [58, 45] [60, 61] [62, 61] [33, 61] 0 0 [] 0 0 [] 0), PV.str (lword1_s2_0 v (sAt v 0) [58, 45] [60, 61] [62, 61] [33, 61] 0 0 [] 0 0 [] 0), PV.int .i64 (lword1_n4_0 v (sAt v 0) [58, 45] [60, 61] [62, 61] [33, 61] 0 0 [] 0 0 [] 0)], PV.bool (lword1_b_0 v (sAt v 0) [58, 45] [60, 61] [62, 61] [33, 61] 0 0 [] 0 0 [] 0)])) (Tr.ite (lword1_is1 v (sAt v 0) [58, 45] [60, 61] [62, 61] [33, 61] 0 0 [] 0 0 [] 0) (Tr.ite (okSub true (okPos 1) 0 (nNat 1) (nLen (lword1_s_1 v (sAt v 0) [58, 45] [60, 61] [62, 61] [33, 61] 0 0 [] 0 0 [] 0))) (Tr.ret (PV.tup [PV.agg [PV.int .i64 6, PV.str (sSub (lword1_s_1 v (sAt v 0) [58, 45] [60, 61] [62, 61] [33, 61] 0 0 [] 0 0 [] 0) 0 (nNat 1)), PV.int .i64 0, PV.int .i64 0, PV.str [], PV.int .i64 0], PV.bool (iLe 0 (idxV [40, 41, 44, 46, 43, 45, 61, 58, 60, 62] (lword1_n_1 v (sAt v 0) [58, 45] [60, 61] [62, 61] [33, 61] 0 0 [] 0 0 [] 0)))])) Tr.fail) Tr.fail)))) Tr.fail) (Tr.ite (iEq (sAt v 0) 34) (Tr.ite (lquoted_is0 v) (Tr.ite (okSub true (okPos (lquoted_n v)) 0 (nNat (lquoted_n v)) (nLen v))
 (Tr.ite (lvalued_is0 (sSub v 0 (nNat (lquoted_n v))) 5) (Tr.ret (PV.tup [PV.agg [PV.int .i64 (lvalued_n (sSub v 0 (nNat (lquoted_n v))) 5), PV.str (lvalued_s (sSub v 0 (nNat (lquoted_n v))) 5), PV.int .i64 (lvalued_n2 (sSub v 0 (nNat (lquoted_n v))) 5), PV.int .i64 (lvalued_n3 (sSub v 0 (nNat (lquoted_n v))) 5), PV.str (lvalued_s2 (sSub v 0 (nNat (lquoted_n v))) 5), PV.int .i64 (lvalued_n4 (sSub v 0 (nNat (lquoted_n v))) 5)], PV.bool (lvalued_b (sSub v 0 (nNat (lquoted_n v))) 5)])) Tr.fail) Tr.fail) Tr.fail) (Tr.ite (lword1_is0 v (sAt v 0) [58, 45] [60, 61] [62, 61] [33, 61] 0 0 [] 0 0 [] 0) (Tr.ret (PV.tup [PV.agg [PV.int .i64 (lword1_n_0 v (sAt v 0) [58, 45] [60, 61] [62, 61] [33, 61] 0 0 [] 0 0 [] 0), PV.str (lword1_s_0 v (sAt v 0) [58, 45] [60, 61] [62, 61] [33, 61] 0 0 [] 0 0 [] 0), PV.int .i64 (lword1_n2_0 v (sAt v 0) [58, 45] [60, 61] [62, 61] [33, 61] 0 0 [] 0 0 [] 0), PV.int .i64 (lword1_n3_0 v (sAt v 0) [58, 45] [60, 61] [62, 61] [33, 61] 0 0 [] 0 0 [] 0), PV.str (lword1_s2_0 v (sAt v 0) [58, 45] [60, 61] [62, 61] [33, 61] 0 0 [] 0 0 [] 0), PV.int .i64 (lword1_n4_0 v (sAt v 0) [58, 45] [60, 61] [62, 61] [33, 61] 0 0 [] 0 0 [] 0)], PV.bool (lword1_b_0 v (sAt v 0) [58, 45] [60, 61] [62, 61] [33, 61] 0 0 [] 0 0 [] 0)])) (Tr.ite (lword1_is1 v (sAt v 0) [58, 45] [60, 61] [62, 61] [33, 61] 0 0 [] 0 0 [] 0) (Tr.ite (okSub true (okPos 1) 0 (nNat 1) (nLen (lword1_s_1 v (sAt v 0) [58, 45] [60, 61] [62, 61] [33, 61] 0 0 [] 0 0 [] 0))) (Tr.ret (PV.tup [PV.agg [PV.int .i64 6, PV.str (sSub (lword1_s_1 v (sAt v 0) [58, 45] [60, 61] [62, 61] [33, 61] 0 0 [] 0 0 [] 0) 0 (nNat 1)), PV.int .i64 0, PV.int .i64 0, PV.str [], PV.int .i64 0], PV.bool (iLe 0 (idxV [40, 41, 44, 46, 43, 45, 61, 58, 60, 62] (lword1_n_1 v (sAt v 0) [58, 45] [60, 61] [62, 61] [33, 61] 0 0 [] 0 0 [] 0)))])) Tr.fail) Tr.fail))))) Tr.fail))) (Tr.ite (iEq (sAt v 0) 95) (Tr.ite (lfollows_is0 0) (Tr.ret
 (PV.tup [PV.agg [PV.int .i64 3, PV.str [95], PV.int .i64 0, PV.int .i64 0, PV.str [], PV.int .i64 0], PV.bool (bNot (lfollows_b 0))])) Tr.fail) (Tr.ite (ldigit_is0 (sAt v 0)) (Tr.ite (ldigit_b (sAt v 0)) (Tr.ite (okSub (okPos 1) true (nNat 1) (nLen v) (nLen v)) (Tr.ite (lrunb_is0 (sSub v (nNat 1) (nLen v))) (Tr.ite (okSub true (okPos (iAdd .i64 1 (lrunb_n (sSub v (nNat 1) (nLen v))))) 0 (nNat (iAdd .i64 1 (lrunb_n (sSub v (nNat 1) (nLen v))))) (nLen v)) (Tr.ite (lvalued_is0 (sSub v 0 (nNat (iAdd .i64 1 (lrunb_n (sSub v (nNat 1) (nLen v)))))) 4) (Tr.ret (PV.tup [PV.agg [PV.int .i64 (lvalued_n (sSub v 0 (nNat (iAdd .i64 1 (lrunb_n (sSub v (nNat 1) (nLen v)))))) 4), PV.str (lvalued_s (sSub v 0 (nNat (iAdd .i64 1 (lrunb_n (sSub v (nNat 1) (nLen v)))))) 4), PV.int .i64 (lvalued_n2 (sSub v 0 (nNat (iAdd .i64 1 (lrunb_n (sSub v (nNat 1) (nLen v)))))) 4), PV.int .i64 (lvalued_n3 (sSub v 0 (nNat (iAdd .i64 1 (lrunb_n (sSub v (nNat 1) (nLen v)))))) 4), PV.str (lvalued_s2 (sSub v 0 (nNat (iAdd .i64 1 (lrunb_n (sSub v (nNat 1) (nLen v)))))) 4), PV.int .i64 (lvalued_n4 (sSub v 0 (nNat (iAdd .i64 1 (lrunb_n (sSub v (nNat 1) (nLen v)))))) 4)], PV.bool (lvalued_b (sSub v 0 (nNat (iAdd .i64 1 (lrunb_n (sSub v (nNat 1) (nLen v)))))) 4)])) Tr.fail) Tr.fail) Tr.fail) Tr.fail) (Tr.ite (iEq (sAt v 0) 45) (Tr.ite (ldigit_is0 0) (Tr.ite (ldigit_b 0) (Tr.ite (okSub (okPos 1) true (nNat 1) (nLen v) (nLen v)) (Tr.ite (lrunb_is0 (sSub v (nNat 1) (nLen v))) (Tr.ite (okSub true (okPos (iAdd .i64 1 (lrunb_n (sSub v (nNat 1) (nLen v))))) 0 (nNat (iAdd .i64 1 (lrunb_n (sSub v (nNat 1) (nLen v))))) (nLen v)) (Tr.ite (lvalued_is0 (sSub v 0 (nNat (iAdd .i64 1 (lrunb_n (sSub v (nNat 1) (nLen v)))))) 4) (Tr.ret (PV.tup [PV.agg [PV.int .i64 (lvalued_n (sSub v 0 (nNat (iAdd .i64 1 (lrunb_n (sSub v (nNat 1) (nLen v)))))) 4), PV.str (lvalued_s (sSub v 0 (nNat (iAdd .i64 1 (lrunb_n (sSub v (nNat 1) (nLen v)))))) 4),
 PV.int .i64 (lvalued_n2 (sSub v 0 (nNat (iAdd .i64 1 (lrunb_n (sSub v (nNat 1) (nLen v)))))) 4), PV.int .i64 (lvalued_n3 (sSub v 0 (nNat (iAdd .i64 1 (lrunb_n (sSub v (nNat 1) (nLen v)))))) 4), PV.str (lvalued_s2 (sSub v 0 (nNat (iAdd .i64 1 (lrunb_n (sSub v (nNat 1) (nLen v)))))) 4), PV.int .i64 (lvalued_n4 (sSub v 0 (nNat (iAdd .i64 1 (lrunb_n (sSub v (nNat 1) (nLen v)))))) 4)], PV.bool (lvalued_b (sSub v 0 (nNat (iAdd .i64 1 (lrunb_n (sSub v (nNat 1) (nLen v)))))) 4)])) Tr.fail) Tr.fail) Tr.fail) Tr.fail) (Tr.ite (iEq (sAt v 0) 34) (Tr.ite (lquoted_is0 v) (Tr.ite (okSub true (okPos (lquoted_n v)) 0 (nNat (lquoted_n v)) (nLen v)) (Tr.ite (lvalued_is0 (sSub v 0 (nNat (lquoted_n v))) 5) (Tr.ret (PV.tup [PV.agg [PV.int .i64 (lvalued_n (sSub v 0 (nNat (lquoted_n v))) 5), PV.str (lvalued_s (sSub v 0 (nNat (lquoted_n v))) 5), PV.int .i64 (lvalued_n2 (sSub v 0 (nNat (lquoted_n v))) 5), PV.int .i64 (lvalued_n3 (sSub v 0 (nNat (lquoted_n v))) 5), PV.str (lvalued_s2 (sSub v 0 (nNat (lquoted_n v))) 5), PV.int .i64 (lvalued_n4 (sSub v 0 (nNat (lquoted_n v))) 5)], PV.bool (lvalued_b (sSub v 0 (nNat (lquoted_n v))) 5)])) Tr.fail) Tr.fail) Tr.fail) (Tr.ite (lword1_is0 v (sAt v 0) [58, 45] [60, 61] [62, 61] [33, 61] 0 0 [] 0 0 [] 0) (Tr.ret (PV.tup [PV.agg [PV.int .i64 (lword1_n_0 v (sAt v 0) [58, 45] [60, 61] [62, 61] [33, 61] 0 0 [] 0 0 [] 0), PV.str (lword1_s_0 v (sAt v 0) [58, 45] [60, 61] [62, 61] [33, 61] 0 0 [] 0 0 [] 0), PV.int .i64 (lword1_n2_0 v (sAt v 0) [58, 45] [60, 61] [62, 61] [33, 61] 0 0 [] 0 0 [] 0), PV.int .i64 (lword1_n3_0 v (sAt v 0) [58, 45] [60, 61] [62, 61] [33, 61] 0 0 [] 0 0 [] 0), PV.str (lword1_s2_0 v (sAt v 0) [58, 45] [60, 61] [62, 61] [33, 61] 0 0 [] 0 0 [] 0), PV.int .i64 (lword1_n4_0 v (sAt v 0) [58, 45] [60, 61] [62, 61] [33, 61] 0 0 [] 0 0 [] 0)], PV.bool (lword1_b_0 v (sAt v 0) [58, 45] [60, 61] [62, 61] [33, 61] 0 0 [] 0 0 [] 0)])) (Tr.ite (lword1_is1 v (sAt v 0) [58, 45] [60, 61] [62, 61] [33, 61] 0 0 [] 0 0 [] 0)
 (Tr.ite (okSub true (okPos 1) 0 (nNat 1) (nLen (lword1_s_1 v (sAt v 0) [58, 45] [60, 61] [62, 61] [33, 61] 0 0 [] 0 0 [] 0))) (Tr.ret (PV.tup [PV.agg [PV.int .i64 6, PV.str (sSub (lword1_s_1 v (sAt v 0) [58, 45] [60, 61] [62, 61] [33, 61] 0 0 [] 0 0 [] 0) 0 (nNat 1)), PV.int .i64 0, PV.int .i64 0, PV.str [], PV.int .i64 0], PV.bool (iLe 0 (idxV [40, 41, 44, 46, 43, 45, 61, 58, 60, 62] (lword1_n_1 v (sAt v 0) [58, 45] [60, 61] [62, 61] [33, 61] 0 0 [] 0 0 [] 0)))])) Tr.fail) Tr.fail)))) Tr.fail) (Tr.ite (iEq (sAt v 0) 34) (Tr.ite (lquoted_is0 v) (Tr.ite (okSub true (okPos (lquoted_n v)) 0 (nNat (lquoted_n v)) (nLen v)) (Tr.ite (lvalued_is0 (sSub v 0 (nNat (lquoted_n v))) 5) (Tr.ret (PV.tup [PV.agg [PV.int .i64 (lvalued_n (sSub v 0 (nNat (lquoted_n v))) 5), PV.str (lvalued_s (sSub v 0 (nNat (lquoted_n v))) 5), PV.int .i64 (lvalued_n2 (sSub v 0 (nNat (lquoted_n v))) 5), PV.int .i64 (lvalued_n3 (sSub v 0 (nNat (lquoted_n v))) 5), PV.str (lvalued_s2 (sSub v 0 (nNat (lquoted_n v))) 5), PV.int .i64 (lvalued_n4 (sSub v 0 (nNat (lquoted_n v))) 5)], PV.bool (lvalued_b (sSub v 0 (nNat (lquoted_n v))) 5)])) Tr.fail) Tr.fail) Tr.fail) (Tr.ite (lword1_is0 v (sAt v 0) [58, 45] [60, 61] [62, 61] [33, 61] 0 0 [] 0 0 [] 0) (Tr.ret (PV.tup [PV.agg [PV.int .i64 (lword1_n_0 v (sAt v 0) [58, 45] [60, 61] [62, 61] [33, 61] 0 0 [] 0 0 [] 0), PV.str (lword1_s_0 v (sAt v 0) [58, 45] [60, 61] [62, 61] [33, 61] 0 0 [] 0 0 [] 0), PV.int .i64 (lword1_n2_0 v (sAt v 0) [58, 45] [60, 61] [62, 61] [33, 61] 0 0 [] 0 0 [] 0), PV.int .i64 (lword1_n3_0 v (sAt v 0) [58, 45] [60, 61] [62, 61] [33, 61] 0 0 [] 0 0 [] 0), PV.str (lword1_s2_0 v (sAt v 0) [58, 45] [60, 61] [62, 61] [33, 61] 0 0 [] 0 0 [] 0), PV.int .i64 (lword1_n4_0 v (sAt v 0) [58, 45] [60, 61] [62, 61] [33, 61] 0 0 [] 0 0 [] 0)], PV.bool (lword1_b_0 v (sAt v 0) [58, 45] [60, 61] [62, 61] [33, 61] 0 0 [] 0 0 [] 0)])) (Tr.ite (lword1_is1 v (sAt v 0) [58, 45] [60, 61] [62, 61] [33, 61] 0 0 [] 0 0 [] 0)
 (Tr.ite (okSub true (okPos 1) 0 (nNat 1) (nLen (lword1_s_1 v (sAt v 0) [58, 45] [60, 61] [62, 61] [33, 61] 0 0 [] 0 0 [] 0))) (Tr.ret (PV.tup [PV.agg [PV.int .i64 6, PV.str (sSub (lword1_s_1 v (sAt v 0) [58, 45] [60, 61] [62, 61] [33, 61] 0 0 [] 0 0 [] 0) 0 (nNat 1)), PV.int .i64 0, PV.int .i64 0, PV.str [], PV.int .i64 0], PV.bool (iLe 0 (idxV [40, 41, 44, 46, 43, 45, 61, 58, 60, 62] (lword1_n_1 v (sAt v 0) [58, 45] [60, 61] [62, 61] [33, 61] 0 0 [] 0 0 [] 0)))])) Tr.fail) Tr.fail))))) Tr.fail))))) Tr.fail
theorem lword_T (v : List UInt8) : (tcall tbT G_lword L_lword Tryd.f30 [.str v]).flat = lword_Tr v := by kernel_rfl
noncomputable def lword_W (v : List UInt8) : Option PV := (lword_Tr v).run
noncomputable def lword_n (v : List UInt8) : Int := (gInt (gAt (gCs (gAt (gCs (gVal (lword_W v))) 0)) 0))
noncomputable def lword_s (v : List UInt8) : List UInt8 := (gStr (gAt (gCs (gAt (gCs (gVal (lword_W v))) 0)) 1))
noncomputable def lword_n2 (v : List UInt8) : Int := (gInt (gAt (gCs (gAt (gCs (gVal (lword_W v))) 0)) 2))
noncomputable def lword_n3 (v : List UInt8) : Int := (gInt (gAt (gCs (gAt (gCs (gVal (lword_W v))) 0)) 3))
noncomputable def lword_s2 (v : List UInt8) : List UInt8 := (gStr (gAt (gCs (gAt (gCs (gVal (lword_W v))) 0)) 4))
noncomputable def lword_n4 (v : List UInt8) : Int := (gInt (gAt (gCs (gAt (gCs (gVal (lword_W v))) 0)) 5))
noncomputable def lword_b (v : List UInt8) : Bool := (gBool (gAt (gCs (gVal (lword_W v))) 1))
noncomputable def lword_is0 (v : List UInt8) : Bool := isW (lword_W v) (.tup [.agg [.int .i64 (lword_n v), .str (lword_s v), .int .i64 (lword_n2 v), .int .i64 (lword_n3 v), .str (lword_s2 v), .int .i64 (lword_n4 v)], .bool (lword_b v)])
noncomputable def F_lword : List PV → Tr PV | [.str v] => .ite (lword_is0 v) (.ret (.tup [.agg [.int .i64 (lword_n v), .str (lword_s v), .int .i64 (lword_n2 v), .int .i64 (lword_n3 v), .str (lword_s2 v), .int .i64 (lword_n4 v)], .bool (lword_b v)])) (.fail) | _ => .fail
theorem sim_lword (gl : Gl) (hg : GlLex gl) : SimP Tryd.prog gl 30 fun args => (F_lword args).run := by
  refine SimP.of_flat (G := G_lword) (L := L_lword) tbT_ok (gok_lword gl hg ) noMixed Tryd.func30 rfl (by rfl) (by kernel_rfl) (loopOk_all (L := lps L_lword) [(16, c_lword1)] (by kernel_rfl) (List.forall_mem_cons.2 ⟨fun fr σ e fr' σ' h => loop_lword1 gl hg  fr σ e fr' σ' h, (List.forall_mem_nil _)⟩)) ?_
  intro args x h
  unfold F_lword at h
  split at h
  · exact (congrArg Tr.run (lword_T _)).trans (ite_isW h fun h => by cases h)
  · cases h
end Go.Pv

set_option maxHeartbeats 4000000
set_option maxRecDepth 200000
set_option linter.unusedSimpArgs false
set_option linter.unusedVariables false
namespace Go.Pv
open Go Go.Proofs Go.RowKit

/-! ### bytes as numbers -/
def smI (c : Int) : Bool := decide (97 ≤ c) && decide (c ≤ 122)
def grI (c : Int) : Bool := decide (65 ≤ c) && decide (c ≤ 90)
def dgI (c : Int) : Bool := decide (48 ≤ c) && decide (c ≤ 57)
def inI (c : Int) : Bool := smI c || grI c || dgI c || decide (c = 95)
theorem smI_byte (b : UInt8) : smI (b.toNat : Int) = isSmB b := by unfold smI isSmB; congr 1 <;> (apply decide_eq_decide.2; omega)
theorem grI_byte (b : UInt8) : grI (b.toNat : Int) = isGrB b := by unfold grI isGrB; congr 1 <;> (apply decide_eq_decide.2; omega)
theorem dgI_byte (b : UInt8) : dgI (b.toNat : Int) = isDgB b := by unfold dgI isDgB; congr 1 <;> (apply decide_eq_decide.2; omega)
theorem inI_byte (b : UInt8) : inI (b.toNat : Int) = innB b := by
  unfold inI innB
  rw [smI_byte, grI_byte, dgI_byte]
  congr 1
  apply decide_eq_decide.2
  omega

theorem ldigit_law (c : Int) : ldigit_W c = some (.bool (dgI c)) := by
  unfold ldigit_W ldigit_Tr dgI
  by_cases h : (48 : Int) ≤ c <;> simp [h]
@[simp] theorem ldigit_is (c : Int) : ldigit_is0 c = true := by simp [ldigit_is0, ldigit_b, ldigit_law]
@[simp] theorem ldigit_v (c : Int) : ldigit_b c = dgI c := by simp [ldigit_b, ldigit_law]
theorem lfollows_law (c : Int) : lfollows_W c = some (.bool (inI c)) := by
  unfold lfollows_W lfollows_Tr inI smI grI
  by_cases h1 : (97 : Int) ≤ c <;> by_cases h2 : c ≤ 122 <;> by_cases h3 : (65 : Int) ≤ c <;> by_cases h4 : c ≤ 90 <;> by_cases h5 : c = 95 <;> simp [h1, h2, h3, h4, h5]
@[simp] theorem lfollows_is (c : Int) : lfollows_is0 c = true := by simp [lfollows_is0, lfollows_b, lfollows_law]
@[simp] theorem lfollows_v (c : Int) : lfollows_b c = inI c := by simp [lfollows_b, lfollows_law]

theorem lrun_loop (s : List UInt8) (hs : s.length < 9223372036854775807) : ∀ (m i : Nat), i + m = s.length → lrun1_V [.str s, .fn 49 [], .int .i64 (i : Nat)] ⟨[], [], []⟩ = some (.exit 0, [.int .i64 ((i + runL innB (s.drop i) : Nat) : Int)], ⟨[], [], []⟩) := by
  intro m
  induction m with
  | zero =>
    intro i hi
    rw [lrun1_E, List.drop_eq_nil_of_le (by omega)]
    have : ¬ (i : Int) < s.length := by omega
    simp [lrun1_Tr, runL, this]
  | succ m ih =>
    intro i hi
    obtain ⟨b, hb⟩ := get_lt (l := s) (i := i) (by omega)
    have hbe := (List.getElem?_eq_some_iff.1 hb).2
    have w := inc_i64 (i := i) (by omega)
    have hlt : i < s.length := by omega
    have h1 := ih (i + 1) (by omega)
    rw [drop_of_get hb, lrun1_E]
    cases hc : innB b with
    | true =>
      have e : i + (runL innB (s.drop (i + 1)) + 1) = i + 1 + runL innB (s.drop (i + 1)) := by omega
      simp only [runL, hc, if_true, e]
      rw [← h1]
      simp [lrun1_Tr, hlt, hbe, inI_byte, hc, w]
    | false => simp [lrun1_Tr, hlt, hbe, inI_byte, hc, runL]
theorem lrunb_loop (s : List UInt8) (hs : s.length < 9223372036854775807) : ∀ (m i : Nat), i + m = s.length → lrun1_V [.str s, .fn 50 [], .int .i64 (i : Nat)] ⟨[], [], []⟩ = some (.exit 0, [.int .i64 ((i + runL isDgB (s.drop i) : Nat) : Int)], ⟨[], [], []⟩) := by
  intro m
  induction m with
  | zero =>
    intro i hi
    rw [lrun1_E1, List.drop_eq_nil_of_le (by omega)]
    have : ¬ (i : Int) < s.length := by omega
    simp [lrun1_Tr1, runL, this]
  | succ m ih =>
    intro i hi
    obtain ⟨b, hb⟩ := get_lt (l := s) (i := i) (by omega)
    have hbe := (List.getElem?_eq_some_iff.1 hb).2
    have w := inc_i64 (i := i) (by omega)
    have hlt : i < s.length := by omega
    have h1 := ih (i + 1) (by omega)
    rw [drop_of_get hb, lrun1_E1]
    cases hc : isDgB b with
    | true =>
      have e : i + (runL isDgB (s.drop (i + 1)) + 1) = i + 1 + runL isDgB (s.drop (i + 1)) := by omega
      simp only [runL, hc, if_true, e]
      rw [← h1]
      simp [lrun1_Tr1, hlt, hbe, dgI_byte, hc, w]
    | false => simp [lrun1_Tr1, hlt, hbe, dgI_byte, hc, runL]
theorem lrun_law {s : List UInt8} (hs : s.length < 9223372036854775807) : lrun_W s = some (.int .i64 (runL innB s : Nat)) := by
  have h := lrun_loop s hs s.length 0 (by omega)
  simp at h
  unfold lrun_W lrun_Tr
  simp [lrun1_is0, lrun1_n, lrun1_W, h]
theorem lrun_is {s : List UInt8} (hs : s.length < 9223372036854775807) : lrun_is0 s = true := by simp [lrun_is0, lrun_n, lrun_law hs]
theorem lrun_v {s : List UInt8} (hs : s.length < 9223372036854775807) : lrun_n s = (runL innB s : Nat) := by simp [lrun_n, lrun_law hs]
theorem lrunb_law {s : List UInt8} (hs : s.length < 9223372036854775807) : lrunb_W s = some (.int .i64 (runL isDgB s : Nat)) := by
  have h := lrunb_loop s hs s.length 0 (by omega)
  simp at h
  unfold lrunb_W lrunb_Tr
  simp [lrun1b_is0, lrun1b_n, lrun1b_W, h]
theorem lrunb_is {s : List UInt8} (hs : s.length < 9223372036854775807) : lrunb_is0 s = true := by simp [lrunb_is0, lrunb_n, lrunb_law hs]
theorem lrunb_v {s : List UInt8} (hs : s.length < 9223372036854775807) : lrunb_n s = (runL isDgB s : Nat) := by simp [lrunb_n, lrunb_law hs]

/-! ### quoted -/
theorem byte_eq (b : UInt8) (n : Nat) : ((b.toNat : Int) = (n : Int)) ↔ b.toNat = n := by omega
def qOut (i n : Nat) : Option (PExit × List PV × Store) := if n = 0 then some (.exit 0, [], ⟨[], [], []⟩) else some (.ret, [.int .i64 ((i + n : Nat) : Int)], ⟨[], [], []⟩)
theorem qOut_inc (i n : Nat) : qOut i (incN n) = qOut (i + 1) n := by
  unfold qOut incN
  by_cases h : n = 0
  · simp [h]
  · simp [h]; omega
theorem lquoted_loop (s : List UInt8) (hs : s.length < 9223372036854775800) : ∀ (m i : Nat), s.length ≤ i + m → i ≤ s.length + 1 → lquoted1_V [.str s, .int .i64 (i : Nat)] ⟨[], [], []⟩ = qOut i (quoE false (s.drop i)) := by
  have hend : ∀ i : Nat, s.length ≤ i → lquoted1_V [.str s, .int .i64 (i : Nat)] ⟨[], [], []⟩ = some (.exit 0, [], ⟨[], [], []⟩) := fun i hi => by
    rw [lquoted1_E]
    have : ¬ (i : Int) < s.length := by omega
    simp [lquoted1_Tr, this]
  intro m
  induction m with
  | zero =>
    intro i hi _
    rw [hend i (by omega), List.drop_eq_nil_of_le (by omega)]
    simp [quoE, qOut]
  | succ m ih =>
    intro i hi hi2
    by_cases hlt : i < s.length
    · obtain ⟨b, hb⟩ := get_lt (l := s) (i := i) hlt
      have hbe := (List.getElem?_eq_some_iff.1 hb).2
      have w := inc_i64 (i := i) (by omega)
      have w2 := inc_i64 (i := i + 1) (by omega)
      have h1 := ih (i + 1) (by omega) (by omega)
      rw [drop_of_get hb, lquoted1_E]
      simp only [quoE]
      by_cases hq : b.toNat = 34
      · rw [if_pos hq]
        simp [lquoted1_Tr, hlt, hbe, hq, w, qOut]
      · rw [if_neg hq]
        have hq' : ¬ ((b.toNat : Int) = 34) := by omega
        by_cases hp : b.toNat = 92
        · rw [if_pos hp, qOut_inc]
          have e1 : lquoted1_V [.str s, .int .i64 (iAdd .i64 (iAdd .i64 (i : Int) 1) 1)] ⟨[], [], []⟩ = qOut (i + 1) (quoE true (s.drop (i + 1))) := by
            rw [w, w2]
            by_cases hl2 : i + 1 < s.length
            · obtain ⟨c, hc⟩ := get_lt (l := s) (i := i + 1) hl2
              rw [drop_of_get hc]
              simp only [quoE]
              rw [qOut_inc]
              exact ih (i + 1 + 1) (by omega) (by omega)
            · rw [hend (i + 1 + 1) (by omega), List.drop_eq_nil_of_le (by omega)]
              simp [quoE, qOut]
          rw [← e1]
          have t1 : iLt (i : Int) (sLen s) = true := by simp; omega
          have t2 : okIdx s (i : Int) = true := by simp; omega
          have t3 : sAt s (i : Int) = 92 := by simp [hbe, hlt, hp]
          simp only [lquoted1_Tr, t1, t2, t3]
          simp
        · have hp' : ¬ ((b.toNat : Int) = 92) := by omega
          rw [if_neg hp, qOut_inc, ← h1, ← w]
          have t1 : iLt (i : Int) (sLen s) = true := by simp; omega
          have t2 : okIdx s (i : Int) = true := by simp; omega
          have t3 : sAt s (i : Int) = b.toNat := by simp [hbe, hlt]
          simp only [lquoted1_Tr, t1, t2, t3]
          simp [hq', hp']
    · rw [hend i (by omega), List.drop_eq_nil_of_le (by omega)]
      simp [quoE, qOut]
theorem lquoted_law {c : UInt8} {t : List UInt8} (hs : (c :: t).length < 9223372036854775800) : lquoted_W (c :: t) = some (.int .i64 (if quoL t = 0 then 0 else ((quoL t + 1 : Nat) : Int))) := by
  have h := lquoted_loop (c :: t) hs t.length 1 (by simp; omega) (by simp)
  simp only [List.drop_succ_cons, List.drop_zero] at h
  unfold lquoted_W lquoted_Tr
  unfold qOut at h
  rw [show quoE false t = quoL t from rfl] at h
  by_cases h0 : quoL t = 0
  · rw [if_pos h0] at h ⊢
    have h' : lquoted1_V [.str (c :: t), .int .i64 1] ⟨[], [], []⟩ = some (.exit 0, [], ⟨[], [], []⟩) := h
    simp [lquoted1_is0, lquoted1_is1, lquoted1_n_0, lquoted1_W, h']
  · rw [if_neg h0] at h ⊢
    have h' : lquoted1_V [.str (c :: t), .int .i64 1] ⟨[], [], []⟩ = some (.ret, [.int .i64 ((1 + quoL t : Nat) : Int)], ⟨[], [], []⟩) := h
    simp [lquoted1_is0, lquoted1_is1, lquoted1_n_0, lquoted1_W, h']
    omega

/-! ### gap -/
theorem idx_gap : ∀ t : List UInt8, (Lib.indexByte t 10 = -1 ∧ gapL true t = t.length) ∨ ∃ n : Nat, Lib.indexByte t 10 = n ∧ n < t.length ∧ gapL true t = n + gapL false (t.drop n)
  | [] => .inl ⟨rfl, rfl⟩
  | b :: u => by
    by_cases hb : b = 10
    · subst hb
      refine .inr ⟨0, rfl, by simp, ?_⟩
      simp [gapL, blB]
    · have hb' : (b == 10) = false := by simpa using hb
      have hbn : b.toNat ≠ 10 := fun h => hb (UInt8.toNat.inj h)
      have e1 : gapL true (b :: u) = gapL true u + 1 := by simp [gapL, hbn]
      rcases idx_gap u with ⟨h1, h2⟩ | ⟨n, h1, h2, h3⟩
      · refine .inl ⟨?_, by rw [e1, h2]; rfl⟩
        simp [Lib.indexByte, hb', h1]
      · refine .inr ⟨n + 1, ?_, by simpa using h2, ?_⟩
        · have : ((n : Int) == -1) = false := by simp
          simp [Lib.indexByte, hb', h1, this]
        · rw [e1, h3]
          simp only [List.drop_succ_cons]
          omega
theorem gap_blank {b : UInt8} (h : blB b = true) (t : List UInt8) : gapL false (b :: t) = gapL false t + 1 := by
  have : b.toNat ≠ 37 := by
    intro e
    simp [blB, e] at h
  simp [gapL, h, this]
theorem lgap_loop (s : List UInt8) (hs : s.length < 9223372036854775800) : ∀ (m i : Nat), i + m = s.length → ∃ e, (e = PExit.ret ∨ e = .exit 0) ∧ lgap1_V [.str s, .int .i64 (i : Nat)] ⟨[], [], []⟩ = some (e, [.int .i64 ((i + gapL false (s.drop i) : Nat) : Int)], ⟨[], [], []⟩) := by
  intro m
  induction m using Nat.strongRecOn with
  | _ m ih =>
    intro i hi
    by_cases hlt : i < s.length
    · obtain ⟨b, hb⟩ := get_lt (l := s) (i := i) hlt
      have hbe := (List.getElem?_eq_some_iff.1 hb).2
      have w := inc_i64 (i := i) (by omega)
      rw [drop_of_get hb, lgap1_E]
      by_cases hbl : blB b = true
      · obtain ⟨e, he, hv⟩ := ih (m - 1) (by omega) (i + 1) (by omega)
        refine ⟨e, he, ?_⟩
        rw [gap_blank hbl]
        have hv' : lgap1_V [.str s, .int .i64 (iAdd .i64 (i : Int) 1)] ⟨[], [], []⟩ = some (e, [.int .i64 ((i + (gapL false (s.drop (i + 1)) + 1) : Nat) : Int)], ⟨[], [], []⟩) := by
          rw [w, hv, show i + 1 + gapL false (s.drop (i + 1)) = i + (gapL false (s.drop (i + 1)) + 1) from by omega]
        rw [← hv']
        have hbl2 : b.toNat = 32 ∨ b.toNat = 9 ∨ b.toNat = 10 ∨ b.toNat = 13 := by simpa [blB, or_assoc] using hbl
        rcases hbl2 with h | h | h | h <;> simp [lgap1_Tr, hlt, hbe, h]
      · have hbl2 : ¬ (b.toNat = 32 ∨ b.toNat = 9 ∨ b.toNat = 10 ∨ b.toNat = 13) := by simpa [blB, or_assoc] using hbl
        have n1 : ¬ ((b.toNat : Int) = 32) := by omega
        have n2 : ¬ ((b.toNat : Int) = 9) := by omega
        have n3 : ¬ ((b.toNat : Int) = 10) := by omega
        have n4 : ¬ ((b.toNat : Int) = 13) := by omega
        by_cases h37 : b.toNat = 37
        · have e1 : gapL false (b :: s.drop (i + 1)) = gapL true (s.drop (i + 1)) + 1 := by simp [gapL, h37]
          have e2 : sSub s (nNat (i : Int)) (nLen s) = b :: s.drop (i + 1) := by
            simp only [sSub_eq, nNat_eq, nLen_eq, Int.toNat_natCast, List.take_length]
            exact drop_of_get hb
          have hb10 : (b == 10) = false := by
            cases hq : b == 10 with
            | false => rfl
            | true => simp at hq; subst hq; simp at h37
          have e3 : idxV (b :: s.drop (i + 1)) 10 = if Lib.indexByte (s.drop (i + 1)) 10 == -1 then -1 else Lib.indexByte (s.drop (i + 1)) 10 + 1 := by
            show Lib.indexByte (b :: s.drop (i + 1)) 10 = _
            simp only [Lib.indexByte, hb10, Bool.false_eq_true, if_false]
          rw [e1]
          rcases idx_gap (s.drop (i + 1)) with ⟨h1, h2⟩ | ⟨n, h1, h2, h3⟩
          · refine ⟨.ret, .inl rfl, ?_⟩
            have e4 : idxV (b :: s.drop (i + 1)) 10 = -1 := by rw [e3, h1]; rfl
            have e5 : i + (gapL true (s.drop (i + 1)) + 1) = s.length := by rw [h2]; simp; omega
            rw [e5]
            have t1 : iLt (i : Int) (sLen s) = true := by simp; omega
            have t2 : okIdx s (i : Int) = true := by simp; omega
            have t3 : sAt s (i : Int) = 37 := by simp [hbe, hlt, h37]
            have t4 : okSub (okPos (i : Int)) true (nNat (i : Int)) (nLen s) (nLen s) = true := by simp; omega
            simp only [lgap1_Tr, e2, e4, t1, t2, t3, t4]
            simp
          · have e4 : idxV (b :: s.drop (i + 1)) 10 = ((n + 1 : Nat) : Int) := by
              rw [e3, h1]
              have : ((n : Int) == -1) = false := by simp
              rw [this]
              simp
            have hn : n < s.length - (i + 1) := by simpa using h2
            obtain ⟨e, he, hv⟩ := ih (m - (n + 1)) (by omega) (i + (n + 1)) (by omega)
            refine ⟨e, he, ?_⟩
            have w2 : iAdd .i64 (i : Int) ((n + 1 : Nat) : Int) = ((i + (n + 1) : Nat) : Int) := wrap_i64 (by omega)
            have e6 : i + (n + 1) + gapL false (s.drop (i + (n + 1))) = i + (gapL true (s.drop (i + 1)) + 1) := by
              rw [h3, List.drop_drop, show i + 1 + n = i + (n + 1) from by omega]
              omega
            rw [e6] at hv
            have hge : ¬ ((n + 1 : Nat) : Int) < 0 := by omega
            have t1 : iLt (i : Int) (sLen s) = true := by simp; omega
            have t2 : okIdx s (i : Int) = true := by simp; omega
            have t3 : sAt s (i : Int) = 37 := by simp [hbe, hlt, h37]
            have t5 : iLt ((n + 1 : Nat) : Int) 0 = false := by simp; omega
            have t4 : okSub (okPos (i : Int)) true (nNat (i : Int)) (nLen s) (nLen s) = true := by simp; omega
            simp only [lgap1_Tr, e2, e4, w2, t1, t2, t3, t4, t5]
            simpa using hv
        · refine ⟨.ret, .inl rfl, ?_⟩
          have n5 : ¬ ((b.toNat : Int) = 37) := by omega
          have e1 : gapL false (b :: s.drop (i + 1)) = 0 := by
            have : blB b = false := by simpa using hbl
            simp [gapL, this, h37]
          rw [e1]
          simp [lgap1_Tr, hlt, hbe, n1, n2, n3, n4, n5]
    · refine ⟨.exit 0, .inr rfl, ?_⟩
      rw [lgap1_E, List.drop_eq_nil_of_le (by omega)]
      have : ¬ (i : Int) < s.length := by omega
      simp [lgap1_Tr, gapL, this]
theorem lgap_law {s : List UInt8} (hs : s.length < 9223372036854775800) : lgap_W s = some (.int .i64 (gapL false s : Nat)) := by
  obtain ⟨e, he, h⟩ := lgap_loop s hs s.length 0 (by omega)
  simp at h
  unfold lgap_W lgap_Tr
  rcases he with rfl | rfl <;> simp [lgap1_is0, lgap1_is1, lgap1_n_0, lgap1_at__1, lgap1_W, h]
theorem lgap_is {s : List UInt8} (hs : s.length < 9223372036854775800) : lgap_is0 s = true := by simp [lgap_is0, lgap_n, lgap_law hs]
theorem lgap_v {s : List UInt8} (hs : s.length < 9223372036854775800) : lgap_n s = (gapL false s : Nat) := by simp [lgap_n, lgap_law hs]

/-! ### a word -/
theorem lname_law {s : List UInt8} (hs : s.length < 9223372036854775807) (k : Int) : lname_W s k = some (.tup [.agg [.int .i64 k, .str (s.take (runL innB s)), .int .i64 0, .int .i64 0, .str [], .int .i64 0], .bool (decide (runL innB s ≤ 64))]) := by
  unfold lname_W lname_Tr
  have h := runL_le innB s
  have e : iLe (runL innB s : Nat) 64 = decide (runL innB s ≤ 64) := by simp; omega
  rw [lrun_v hs, lrun_is hs, e]
  have t : okSub true (okPos ((runL innB s : Nat) : Int)) 0 (nNat ((runL innB s : Nat) : Int)) (nLen s) = true := by simp; omega
  rw [t]
  simp
theorem lname_is {s : List UInt8} (hs : s.length < 9223372036854775807) (k : Int) : lname_is0 s k = true := by simp [lname_is0, lname_n, lname_s, lname_n2, lname_n3, lname_s2, lname_n4, lname_b, lname_law hs]
def wTup (k : Int) (x : List UInt8) (v : Vl) (p : Int) (b : Bool) : PV := .tup [.agg [.int .i64 k, .str x, .int .i64 v.1, .int .i64 v.2.1, .str v.2.2, .int .i64 p], .bool b]
theorem lname_o {s : List UInt8} (hs : s.length < 9223372036854775807) (k : Int) : (PV.tup [.agg [.int .i64 (lname_n s k), .str (lname_s s k), .int .i64 (lname_n2 s k), .int .i64 (lname_n3 s k), .str (lname_s2 s k), .int .i64 (lname_n4 s k)], .bool (lname_b s k)]) = wTup k (s.take (runL innB s)) (0, 0, []) 0 (decide (runL innB s ≤ 64)) := by
  simp [wTup, lname_n, lname_s, lname_n2, lname_n3, lname_s2, lname_n4, lname_b, lname_law hs]
theorem lvalued_law {s : List UInt8} (hs : s.length ≤ 140737488355328) (k : Int) : lvalued_W s k = some (wTup k s (kRd s, nRd s, sRd s) 0 (decide (eRd s = 0))) := by
  unfold lvalued_W lvalued_Tr wTup
  simp [hs]
theorem lvalued_is {s : List UInt8} (hs : s.length ≤ 140737488355328) (k : Int) : lvalued_is0 s k = true := by simp [lvalued_is0, lvalued_n, lvalued_s, lvalued_n2, lvalued_n3, lvalued_s2, lvalued_n4, lvalued_b, lvalued_law hs, wTup]
theorem lvalued_o {s : List UInt8} (hs : s.length ≤ 140737488355328) (k : Int) : (PV.tup [.agg [.int .i64 (lvalued_n s k), .str (lvalued_s s k), .int .i64 (lvalued_n2 s k), .int .i64 (lvalued_n3 s k), .str (lvalued_s2 s k), .int .i64 (lvalued_n4 s k)], .bool (lvalued_b s k)]) = wTup k s (kRd s, nRd s, sRd s) 0 (decide (eRd s = 0)) := by
  simp [wTup, lvalued_n, lvalued_s, lvalued_n2, lvalued_n3, lvalued_s2, lvalued_n4, lvalued_b, lvalued_law hs]
theorem isPre_two (c : UInt8) (t : List UInt8) (a b : UInt8) : isPre (c :: t) [a, b] = (decide (c = a) && hdIs (fun d => decide (d = b)) t) := by
  unfold isPre
  cases t with
  | nil => simp [hdIs]
  | cons d u => simp [hdIs, Bool.decide_and]
def wst : Store := ⟨[[.int .i64 0, .str [], .int .i64 0, .int .i64 0, .str [], .int .i64 0]], [], [37]⟩
theorem hd_two (c : UInt8) (t : List UInt8) : hdIs (twoB c) t = (isPre (c :: t) [58, 45] || isPre (c :: t) [60, 61] || isPre (c :: t) [62, 61] || isPre (c :: t) [33, 61]) := by
  simp only [isPre_two]
  cases t with
  | nil => simp [hdIs]
  | cons d u =>
    simp only [hdIs, twoB]
    simp only [← UInt8.toNat_inj]
    simp [Bool.decide_and]
theorem isPre_take {s p : List UInt8} (h : isPre s p = true) (hp : p.length = 2) : s.take 2 = p := by
  simp [isPre] at h
  rw [← hp]
  exact h.2
theorem lword1_loop (c : UInt8) (t : List UInt8) (n : Int) : lword1_V [.str (c :: t), .ptr 0 0, .int .u8 n, .agg [.str [58, 45], .str [60, 61], .str [62, 61], .str [33, 61]], .int .i64 0] wst =
    if hdIs (twoB c) t then some (.ret, [.ptr 0 0, .bool true], ⟨[[.int .i64 6, .str ((c :: t).take 2), .int .i64 0, .int .i64 0, .str [], .int .i64 0]], [], [37]⟩)
    else some (.exit 1, [.str (c :: t), .ptr 0 0, .int .u8 n], wst) := by
  have i1 : iAdd .i64 0 1 = 1 := by decide
  have i2 : iAdd .i64 1 1 = 2 := by decide
  have i3 : iAdd .i64 2 1 = 3 := by decide
  have i4 : iAdd .i64 3 1 = 4 := by decide
  unfold wst
  rw [hd_two]
  rw [lword1_E]
  cases h1 : isPre (c :: t) [58, 45] with
  | true => have q := isPre_take h1 rfl; simp [lword1_Tr, h1]; simpa using q.symm
  | false =>
    have e1 : (lword1_Tr (c :: t) n [58, 45] [60, 61] [62, 61] [33, 61] 0 0 [] 0 0 [] 0).run = some (.next [.str (c :: t), .ptr 0 0, .int .u8 n, .agg [.str [58, 45], .str [60, 61], .str [62, 61], .str [33, 61]], .int .i64 1] ⟨[[.int .i64 0, .str [], .int .i64 0, .int .i64 0, .str [], .int .i64 0]], [], [37]⟩) := by simp [lword1_Tr, h1, i1]
    rw [e1, lnext_next, lword1_E]
    cases h2 : isPre (c :: t) [60, 61] with
    | true => have q := isPre_take h2 rfl; simp [lword1_Tr, h2]; simpa using q.symm
    | false =>
      have e2 : (lword1_Tr (c :: t) n [58, 45] [60, 61] [62, 61] [33, 61] 1 0 [] 0 0 [] 0).run = some (.next [.str (c :: t), .ptr 0 0, .int .u8 n, .agg [.str [58, 45], .str [60, 61], .str [62, 61], .str [33, 61]], .int .i64 2] ⟨[[.int .i64 0, .str [], .int .i64 0, .int .i64 0, .str [], .int .i64 0]], [], [37]⟩) := by simp [lword1_Tr, h2, i2]
      rw [e2, lnext_next, lword1_E]
      cases h3 : isPre (c :: t) [62, 61] with
      | true => have q := isPre_take h3 rfl; simp [lword1_Tr, h3]; simpa using q.symm
      | false =>
        have e3 : (lword1_Tr (c :: t) n [58, 45] [60, 61] [62, 61] [33, 61] 2 0 [] 0 0 [] 0).run = some (.next [.str (c :: t), .ptr 0 0, .int .u8 n, .agg [.str [58, 45], .str [60, 61], .str [62, 61], .str [33, 61]], .int .i64 3] ⟨[[.int .i64 0, .str [], .int .i64 0, .int .i64 0, .str [], .int .i64 0]], [], [37]⟩) := by simp [lword1_Tr, h3, i3]
        rw [e3, lnext_next, lword1_E]
        cases h4 : isPre (c :: t) [33, 61] with
        | true => have q := isPre_take h4 rfl; simp [lword1_Tr, h4]; simpa using q.symm
        | false =>
          have e4 : (lword1_Tr (c :: t) n [58, 45] [60, 61] [62, 61] [33, 61] 3 0 [] 0 0 [] 0).run = some (.next [.str (c :: t), .ptr 0 0, .int .u8 n, .agg [.str [58, 45], .str [60, 61], .str [62, 61], .str [33, 61]], .int .i64 4] ⟨[[.int .i64 0, .str [], .int .i64 0, .int .i64 0, .str [], .int .i64 0]], [], [37]⟩) := by simp [lword1_Tr, h4, i4]
          rw [e4, lnext_next, lword1_E]
          simp [lword1_Tr]

theorem idx_mem (c : UInt8) : ∀ l : List UInt8, 0 ≤ Lib.indexByte l c ↔ c ∈ l
  | [] => by simp [Lib.indexByte]
  | b :: l => by
    have h1 := idx_mem c l
    have h2 := Lib.indexByte_ge l c
    unfold Lib.indexByte
    by_cases hb : b = c
    · subst hb; simp
    · have hb' : (b == c) = false := by simpa using hb
      have hc : ¬ c = b := fun e => hb e.symm
      rw [hb']
      by_cases h3 : Lib.indexByte l c = -1
      · have : ¬ c ∈ l := fun hm => by have := h1.2 hm; omega
        simp [h3, hc, this]
      · have : c ∈ l := h1.1 (by omega)
        simp [h3, this]
        omega
theorem idx_ones (c : UInt8) : iLe 0 (idxV [40, 41, 44, 46, 43, 45, 61, 58, 60, 62] (c.toNat : Int)) = onesB c := by
  have e : idxV [40, 41, 44, 46, 43, 45, 61, 58, 60, 62] (c.toNat : Int) = Lib.indexByte [40, 41, 44, 46, 43, 45, 61, 58, 60, 62] c := by
    unfold idxV
    congr 1
    simp
  rw [iLe_eq]
  have h := idx_mem c [40, 41, 44, 46, 43, 45, 61, 58, 60, 62]
  have h' : decide (0 ≤ Lib.indexByte [40, 41, 44, 46, 43, 45, 61, 58, 60, 62] c) = decide (c ∈ [40, 41, 44, 46, 43, 45, 61, 58, 60, 62]) := decide_eq_decide.2 h
  rw [e, h']
  simp only [List.mem_cons, List.not_mem_nil, or_false, ← UInt8.toNat_inj, onesB, List.contains, List.elem_eq_mem]
  simp
theorem lword_small {c : UInt8} {t : List UInt8} (hs : (c :: t).length ≤ 140737488355328) (h : isSmB c = true) : lword_W (c :: t) = some (wTup 1 ((c :: t).take (runL innB (c :: t))) (0, 0, []) 0 (decide (runL innB (c :: t) ≤ 64))) := by
  have hs' : (c :: t).length < 9223372036854775807 := by omega
  have h1 : 97 ≤ c.toNat ∧ c.toNat ≤ 122 := by simpa [isSmB] using h
  have g1 : (97 : Int) ≤ c.toNat := by omega
  have g2 : (c.toNat : Int) ≤ 122 := by omega
  rw [← lname_o hs']
  unfold lword_W lword_Tr
  cases t <;> simp [g1, g2, lname_is hs']
theorem lword_great {c : UInt8} {t : List UInt8} (hs : (c :: t).length ≤ 140737488355328) (h : isGrB c = true) : lword_W (c :: t) = some (wTup 2 ((c :: t).take (runL innB (c :: t))) (0, 0, []) 0 (decide (runL innB (c :: t) ≤ 64))) := by
  have hs' : (c :: t).length < 9223372036854775807 := by omega
  have h1 : 65 ≤ c.toNat ∧ c.toNat ≤ 90 := by simpa [isGrB] using h
  have g1 : ¬ (97 : Int) ≤ c.toNat := by omega
  have g2 : (65 : Int) ≤ c.toNat := by omega
  have g3 : (c.toNat : Int) ≤ 90 := by omega
  rw [← lname_o hs']
  unfold lword_W lword_Tr
  cases t <;> simp [g1, g2, g3, lname_is hs']
theorem lword_any {c : UInt8} {t : List UInt8} (hs : (c :: t).length ≤ 140737488355328) (h : c.toNat = 95) : lword_W (c :: t) = some (wTup 3 [95] (0, 0, []) 0 (!hdIs innB t)) := by
  unfold lword_W lword_Tr
  cases t with
  | nil =>
    have e : inI 0 = false := by decide
    simp [h, hdIs, wTup, e]
  | cons d u =>
    have g : iLt 1 (sLen (c :: d :: u)) = true := by simp; omega
    rw [g]
    simp [h, hdIs, inI_byte, wTup]
def dgW (s : List UInt8) : PV := wTup 4 (s.take (runL isDgB (s.drop 1) + 1)) (kRd (s.take (runL isDgB (s.drop 1) + 1)), nRd (s.take (runL isDgB (s.drop 1) + 1)), sRd (s.take (runL isDgB (s.drop 1) + 1))) 0 (decide (eRd (s.take (runL isDgB (s.drop 1) + 1)) = 0))
theorem dg_leaf {c : UInt8} {t : List UInt8} (hs : (c :: t).length ≤ 140737488355328) : (Tr.ite (okSub (okPos 1) true (nNat 1) (nLen (c :: t)) (nLen (c :: t)))
          (Tr.ite (lrunb_is0 (sSub (c :: t) (nNat 1) (nLen (c :: t))))
            (Tr.ite (okSub true (okPos (iAdd .i64 1 (lrunb_n (sSub (c :: t) (nNat 1) (nLen (c :: t)))))) 0 (nNat (iAdd .i64 1 (lrunb_n (sSub (c :: t) (nNat 1) (nLen (c :: t)))))) (nLen (c :: t)))
              (Tr.ite (lvalued_is0 (sSub (c :: t) 0 (nNat (iAdd .i64 1 (lrunb_n (sSub (c :: t) (nNat 1) (nLen (c :: t))))))) 4)
                (Tr.ret (PV.tup [PV.agg [PV.int .i64 (lvalued_n (sSub (c :: t) 0 (nNat (iAdd .i64 1 (lrunb_n (sSub (c :: t) (nNat 1) (nLen (c :: t))))))) 4), PV.str (lvalued_s (sSub (c :: t) 0 (nNat (iAdd .i64 1 (lrunb_n (sSub (c :: t) (nNat 1) (nLen (c :: t))))))) 4), PV.int .i64 (lvalued_n2 (sSub (c :: t) 0 (nNat (iAdd .i64 1 (lrunb_n (sSub (c :: t) (nNat 1) (nLen (c :: t))))))) 4), PV.int .i64 (lvalued_n3 (sSub (c :: t) 0 (nNat (iAdd .i64 1 (lrunb_n (sSub (c :: t) (nNat 1) (nLen (c :: t))))))) 4), PV.str (lvalued_s2 (sSub (c :: t) 0 (nNat (iAdd .i64 1 (lrunb_n (sSub (c :: t) (nNat 1) (nLen (c :: t))))))) 4), PV.int .i64 (lvalued_n4 (sSub (c :: t) 0 (nNat (iAdd .i64 1 (lrunb_n (sSub (c :: t) (nNat 1) (nLen (c :: t))))))) 4)], PV.bool (lvalued_b (sSub (c :: t) 0 (nNat (iAdd .i64 1 (lrunb_n (sSub (c :: t) (nNat 1) (nLen (c :: t))))))) 4)]))
                Tr.fail) Tr.fail) Tr.fail) Tr.fail).run = some (dgW (c :: t)) := by
  have e0 : sSub (c :: t) (nNat 1) (nLen (c :: t)) = t := by simp
  have hl : t.length + 1 ≤ 140737488355328 := by simpa using hs
  have hr := runL_le isDgB t
  rw [e0, lrunb_is (by omega), lrunb_v (by omega)]
  have e1 : iAdd .i64 1 ((runL isDgB t : Nat) : Int) = ((runL isDgB t + 1 : Nat) : Int) := by
    have : iAdd .i64 1 ((runL isDgB t : Nat) : Int) = (1 : Int) + (runL isDgB t : Nat) := wrap_i64 (by omega)
    rw [this]; omega
  rw [e1]
  have e2 : sSub (c :: t) 0 (nNat ((runL isDgB t + 1 : Nat) : Int)) = (c :: t).take (runL isDgB t + 1) := by simp [-List.take_succ_cons]
  rw [e2]
  have hl2 : ((c :: t).take (runL isDgB t + 1)).length ≤ 140737488355328 := by rw [List.length_take]; omega
  have t1 : okSub (okPos 1) true (nNat 1) (nLen (c :: t)) (nLen (c :: t)) = true := by simp
  have t2 : okSub true (okPos ((runL isDgB t + 1 : Nat) : Int)) 0 (nNat ((runL isDgB t + 1 : Nat) : Int)) (nLen (c :: t)) = true := by simp; omega
  rw [t1, t2, lvalued_is hl2, lvalued_o hl2]
  rfl
theorem lword_dg {c : UInt8} {t : List UInt8} (hs : (c :: t).length ≤ 140737488355328) (h : isDgB c = true) : lword_W (c :: t) = some (dgW (c :: t)) := by
  have h1 : 48 ≤ c.toNat ∧ c.toNat ≤ 57 := by simpa [isDgB] using h
  have f0 : okIdx (c :: t) 0 = true := by simp
  have f1 : iLe 97 (sAt (c :: t) 0) = false := by simp; omega
  have f3 : iLe 65 (sAt (c :: t) 0) = false := by simp; omega
  have f5 : iEq (sAt (c :: t) 0) 95 = false := by simp; omega
  have f6 : ldigit_b (sAt (c :: t) 0) = true := by simp [dgI_byte, h]
  rw [← dg_leaf hs]
  unfold lword_W lword_Tr
  cases t with
  | nil =>
    have g : iLt 1 (sLen [c]) = false := by simp
    rw [f0, g, f1, f3, f5, f6, ldigit_is]
    rfl
  | cons d u =>
    have g : iLt 1 (sLen (c :: d :: u)) = true := by simp; omega
    have g2 : okIdx (c :: d :: u) 1 = true := by simp
    rw [f0, g, g2, f1, f3, f5, f6, ldigit_is]
    rfl

theorem lword_neg {c d : UInt8} {u : List UInt8} (hs : (c :: d :: u).length ≤ 140737488355328) (h : c.toNat = 45) (hd : isDgB d = true) : lword_W (c :: d :: u) = some (dgW (c :: d :: u)) := by
  have f0 : okIdx (c :: d :: u) 0 = true := by simp
  have f1 : iLe 97 (sAt (c :: d :: u) 0) = false := by simp; omega
  have f3 : iLe 65 (sAt (c :: d :: u) 0) = false := by simp; omega
  have f5 : iEq (sAt (c :: d :: u) 0) 95 = false := by simp; omega
  have f6 : ldigit_b (sAt (c :: d :: u) 0) = false := by simp [dgI, h]
  have f7 : iEq (sAt (c :: d :: u) 0) 45 = true := by simp; omega
  have f8 : ldigit_b (sAt (c :: d :: u) 1) = true := by simp [dgI_byte, hd]
  rw [← dg_leaf hs]
  unfold lword_W lword_Tr
  have g : iLt 1 (sLen (c :: d :: u)) = true := by simp; omega
  have g2 : okIdx (c :: d :: u) 1 = true := by simp
  rw [f0, g, g2, f1, f3, f5, f6, f7, f8, ldigit_is, ldigit_is]
  rfl
def symN (t : List UInt8) : Nat := if quoL t = 0 then 0 else quoL t + 1
def syW (s : List UInt8) (n : Nat) : PV := wTup 5 (s.take n) (kRd (s.take n), nRd (s.take n), sRd (s.take n)) 0 (decide (eRd (s.take n) = 0))
theorem lword_sym {c : UInt8} {t : List UInt8} (hs : (c :: t).length ≤ 140737488355328) (h : c.toNat = 34) : lword_W (c :: t) = some (syW (c :: t) (symN t)) := by
  have hq : lquoted_n (c :: t) = ((symN t : Nat) : Int) := by
    simp only [lquoted_n, lquoted_law (c := c) (t := t) (by omega), gVal_some, gInt_int, symN]
    split <;> simp
  have hqi : lquoted_is0 (c :: t) = true := by
    simp only [lquoted_is0, isW_some, lquoted_law (c := c) (t := t) (by omega), hq, symN]
    split <;> simp
  have hle : symN t ≤ (c :: t).length := by
    have := quoL_le t
    unfold symN
    split <;> simp <;> omega
  have hl2 : ((c :: t).take (symN t)).length ≤ 140737488355328 := by rw [List.length_take]; omega
  have f0 : okIdx (c :: t) 0 = true := by simp
  have f1 : iLe 97 (sAt (c :: t) 0) = false := by simp; omega
  have f3 : iLe 65 (sAt (c :: t) 0) = false := by simp; omega
  have f5 : iEq (sAt (c :: t) 0) 95 = false := by simp; omega
  have f6 : ldigit_b (sAt (c :: t) 0) = false := by simp [dgI, h]
  have f7 : iEq (sAt (c :: t) 0) 45 = false := by simp; omega
  have f9 : iEq (sAt (c :: t) 0) 34 = true := by simp; omega
  have e2 : sSub (c :: t) 0 (nNat ((symN t : Nat) : Int)) = (c :: t).take (symN t) := by simp
  have t2 : okSub true (okPos ((symN t : Nat) : Int)) 0 (nNat ((symN t : Nat) : Int)) (nLen (c :: t)) = true := by simp at hle ⊢; omega
  have leaf : (PV.tup [PV.agg [PV.int .i64 (lvalued_n ((c :: t).take (symN t)) 5), PV.str (lvalued_s ((c :: t).take (symN t)) 5), PV.int .i64 (lvalued_n2 ((c :: t).take (symN t)) 5), PV.int .i64 (lvalued_n3 ((c :: t).take (symN t)) 5), PV.str (lvalued_s2 ((c :: t).take (symN t)) 5), PV.int .i64 (lvalued_n4 ((c :: t).take (symN t)) 5)], PV.bool (lvalued_b ((c :: t).take (symN t)) 5)]) = syW (c :: t) (symN t) := by rw [lvalued_o hl2]; rfl
  rw [← leaf]
  unfold lword_W lword_Tr
  cases t with
  | nil =>
    have g : iLt 1 (sLen [c]) = false := by simp
    rw [f0, g, f1, f3, f5, f6, f7, f9, ldigit_is, hqi, hq, t2, e2, lvalued_is hl2]
    rfl
  | cons d u =>
    have g : iLt 1 (sLen (c :: d :: u)) = true := by simp; omega
    have g2 : okIdx (c :: d :: u) 1 = true := by simp
    rw [f0, g, g2, f1, f3, f5, f6, f7, f9, ldigit_is, hqi, hq, t2, e2, lvalued_is hl2]
    rfl
def mkW (c : UInt8) (t : List UInt8) : PV := if hdIs (twoB c) t then wTup 6 ((c :: t).take 2) (0, 0, []) 0 true else wTup 6 [c] (0, 0, []) 0 (onesB c)
noncomputable def mkT (v : List UInt8) : Tr PV := (Tr.ite (lword1_is0 v (sAt v 0) [58, 45] [60, 61] [62, 61] [33, 61] 0 0 [] 0 0 [] 0)
    (Tr.ret (PV.tup [PV.agg [PV.int .i64 (lword1_n_0 v (sAt v 0) [58, 45] [60, 61] [62, 61] [33, 61] 0 0 [] 0 0 [] 0), PV.str (lword1_s_0 v (sAt v 0) [58, 45] [60, 61] [62, 61] [33, 61] 0 0 [] 0 0 [] 0), PV.int .i64 (lword1_n2_0 v (sAt v 0) [58, 45] [60, 61] [62, 61] [33, 61] 0 0 [] 0 0 [] 0), PV.int .i64 (lword1_n3_0 v (sAt v 0) [58, 45] [60, 61] [62, 61] [33, 61] 0 0 [] 0 0 [] 0), PV.str (lword1_s2_0 v (sAt v 0) [58, 45] [60, 61] [62, 61] [33, 61] 0 0 [] 0 0 [] 0), PV.int .i64 (lword1_n4_0 v (sAt v 0) [58, 45] [60, 61] [62, 61] [33, 61] 0 0 [] 0 0 [] 0)], PV.bool (lword1_b_0 v (sAt v 0) [58, 45] [60, 61] [62, 61] [33, 61] 0 0 [] 0 0 [] 0)]))
    (Tr.ite (lword1_is1 v (sAt v 0) [58, 45] [60, 61] [62, 61] [33, 61] 0 0 [] 0 0 [] 0)
      (Tr.ite (okSub true (okPos 1) 0 (nNat 1) (nLen (lword1_s_1 v (sAt v 0) [58, 45] [60, 61] [62, 61] [33, 61] 0 0 [] 0 0 [] 0)))
        (Tr.ret (PV.tup [PV.agg [PV.int .i64 6, PV.str (sSub (lword1_s_1 v (sAt v 0) [58, 45] [60, 61] [62, 61] [33, 61] 0 0 [] 0 0 [] 0) 0 (nNat 1)), PV.int .i64 0, PV.int .i64 0, PV.str [], PV.int .i64 0], PV.bool (iLe 0 (idxV [40, 41, 44, 46, 43, 45, 61, 58, 60, 62] (lword1_n_1 v (sAt v 0) [58, 45] [60, 61] [62, 61] [33, 61] 0 0 [] 0 0 [] 0)))]))
        Tr.fail)
      Tr.fail))
theorem mk_leaf (c : UInt8) (t : List UInt8) : (mkT (c :: t)).run = some (mkW c t) := by
  have hL := lword1_loop c t (sAt (c :: t) 0)
  unfold wst at hL
  have e2 : sSub (c :: t) 0 (nNat 1) = [c] := by simp
  have t2 : okSub true (okPos 1) 0 (nNat 1) (nLen (c :: t)) = true := by simp
  have e3 : sAt (c :: t) 0 = (c.toNat : Int) := by simp
  have ho := idx_ones c
  unfold mkT mkW
  cases h : hdIs (twoB c) t with
  | true =>
    rw [h] at hL
    simp only [if_true] at hL ⊢
    have a1 : lword1_is0 (c :: t) (sAt (c :: t) 0) [58, 45] [60, 61] [62, 61] [33, 61] 0 0 [] 0 0 [] 0 = true := by
      simp only [lword1_is0, lword1_n_0, lword1_s_0, lword1_n2_0, lword1_n3_0, lword1_s2_0, lword1_n4_0, lword1_b_0, lword1_W, hL]
      simp
    rw [a1]
    simp only [lword1_n_0, lword1_s_0, lword1_n2_0, lword1_n3_0, lword1_s2_0, lword1_n4_0, lword1_b_0, lword1_W, hL]
    simp [wTup]
  | false =>
    rw [h] at hL
    simp only [Bool.false_eq_true, if_false] at hL ⊢
    have a0 : lword1_is0 (c :: t) (sAt (c :: t) 0) [58, 45] [60, 61] [62, 61] [33, 61] 0 0 [] 0 0 [] 0 = false := by
      cases hq : lword1_is0 (c :: t) (sAt (c :: t) 0) [58, 45] [60, 61] [62, 61] [33, 61] 0 0 [] 0 0 [] 0 with
      | false => rfl
      | true =>
        simp only [lword1_is0, lword1_W, hL] at hq
        simp at hq
    have a1 : lword1_is1 (c :: t) (sAt (c :: t) 0) [58, 45] [60, 61] [62, 61] [33, 61] 0 0 [] 0 0 [] 0 = true := by
      simp only [lword1_is1, lword1_s_1, lword1_n_1, lword1_n2_1, lword1_s2_1, lword1_n3_1, lword1_n4_1, lword1_s3_1, lword1_n5_1, lword1_W, hL]
      simp
    have a2 : lword1_s_1 (c :: t) (sAt (c :: t) 0) [58, 45] [60, 61] [62, 61] [33, 61] 0 0 [] 0 0 [] 0 = c :: t := by
      simp only [lword1_s_1, lword1_W, hL]
      simp
    have a3 : lword1_n_1 (c :: t) (sAt (c :: t) 0) [58, 45] [60, 61] [62, 61] [33, 61] 0 0 [] 0 0 [] 0 = (c.toNat : Int) := by
      simp only [lword1_n_1, lword1_W, hL]
      simp
    rw [a0, a1, a2, a3, t2, e2, ho]
    rfl
theorem lword_mark {c : UInt8} {t : List UInt8} (hs : (c :: t).length ≤ 140737488355328) (h1 : isSmB c = false) (h2 : isGrB c = false) (h3 : c.toNat ≠ 95) (h4 : isDgB c = false) (h5 : c.toNat = 45 → hdIs isDgB t = false) (h6 : c.toNat ≠ 34) : lword_W (c :: t) = some (mkW c t) := by
  have f0 : okIdx (c :: t) 0 = true := by simp
  have f5 : iEq (sAt (c :: t) 0) 95 = false := by simp; omega
  have f6 : ldigit_b (sAt (c :: t) 0) = false := by simp [dgI_byte, h4]
  have f9 : iEq (sAt (c :: t) 0) 34 = false := by simp; omega
  have g1 : ¬ (97 ≤ c.toNat ∧ c.toNat ≤ 122) := by simpa [isSmB] using h1
  have g2 : ¬ (65 ≤ c.toNat ∧ c.toNat ≤ 90) := by simpa [isGrB] using h2
  rw [← mk_leaf]
  unfold lword_W lword_Tr
  have f8 : c.toNat = 45 → ldigit_b (if iLt 1 (sLen (c :: t)) = true then sAt (c :: t) 1 else 0) = false := fun h => by
    have := h5 h
    cases t with
    | nil => simp [dgI]
    | cons d u =>
      have g : iLt 1 (sLen (c :: d :: u)) = true := by simp; omega
      rw [if_pos g]
      simpa [dgI_byte, hdIs] using this
  have e97 : iLe 97 (sAt (c :: t) 0) = decide (97 ≤ c.toNat) := by simp; omega
  have e122 : iLe (sAt (c :: t) 0) 122 = decide (c.toNat ≤ 122) := by simp; omega
  have e65 : iLe 65 (sAt (c :: t) 0) = decide (65 ≤ c.toNat) := by simp; omega
  have e90 : iLe (sAt (c :: t) 0) 90 = decide (c.toNat ≤ 90) := by simp; omega
  have e45 : iEq (sAt (c :: t) 0) 45 = decide (c.toNat = 45) := by simp; omega
  rw [f0, e97, e122, e65, e90, e45, f5, f6, f9, ldigit_is]
  have key : ∀ b : Bool, iLt 1 (sLen (c :: t)) = b → (b = true → okIdx (c :: t) 1 = true) → True := fun _ _ _ => trivial
  by_cases k1 : 97 ≤ c.toNat
  · have k2 : ¬ c.toNat ≤ 122 := fun h => g1 ⟨k1, h⟩
    have k3 : 65 ≤ c.toNat := by omega
    have k4 : ¬ c.toNat ≤ 90 := by omega
    have k5 : ¬ c.toNat = 45 := by omega
    rw [decide_eq_true k1, decide_eq_false k2, decide_eq_true k3, decide_eq_false k4, decide_eq_false k5]
    cases t with
    | nil =>
      have g : iLt 1 (sLen [c]) = false := by simp
      rw [g]
      rfl
    | cons d u =>
      have g : iLt 1 (sLen (c :: d :: u)) = true := by simp; omega
      have g2 : okIdx (c :: d :: u) 1 = true := by simp
      rw [g, g2]
      rfl
  · by_cases k3 : 65 ≤ c.toNat
    · have k4 : ¬ c.toNat ≤ 90 := fun h => g2 ⟨k3, h⟩
      have k5 : ¬ c.toNat = 45 := by omega
      rw [decide_eq_false k1, decide_eq_true k3, decide_eq_false k4, decide_eq_false k5]
      cases t with
      | nil =>
        have g : iLt 1 (sLen [c]) = false := by simp
        rw [g]
        rfl
      | cons d u =>
        have g : iLt 1 (sLen (c :: d :: u)) = true := by simp; omega
        have g2 : okIdx (c :: d :: u) 1 = true := by simp
        rw [g, g2]
        rfl
    · by_cases k5 : c.toNat = 45
      · rw [decide_eq_false k1, decide_eq_false k3, decide_eq_true k5]
        cases t with
        | nil =>
          have g : iLt 1 (sLen [c]) = false := by simp
          have f8' : ldigit_b 0 = false := by simp [dgI]
          rw [g, f8', ldigit_is 0]
          rfl
        | cons d u =>
          have g : iLt 1 (sLen (c :: d :: u)) = true := by simp; omega
          have g2 : okIdx (c :: d :: u) 1 = true := by simp
          have f8' := f8 k5
          rw [if_pos g] at f8'
          rw [g, g2, f8', ldigit_is (sAt (c :: d :: u) 1)]
          rfl
      · rw [decide_eq_false k1, decide_eq_false k3, decide_eq_false k5]
        cases t with
        | nil =>
          have g : iLt 1 (sLen [c]) = false := by simp
          rw [g]
          rfl
        | cons d u =>
          have g : iLt 1 (sLen (c :: d :: u)) = true := by simp; omega
          have g2 : okIdx (c :: d :: u) 1 = true := by simp
          rw [g, g2]
          rfl
end Go.Pv
