import Derived.Test.YtpicepaiigbgkaaDoorPvE
set_option maxHeartbeats 4000000
set_option maxRecDepth 200000
set_option linter.unusedSimpArgs false
set_option linter.unusedVariables false
namespace Go.Pv
open Go Go.Proofs Go.RowKit

/-! ### pedigreeref01.symbol -/
def hexOk : List UInt8 → Bool
  | h1 :: h2 :: _ => decide (0 ≤ rdigV h1.toNat) && decide (0 ≤ rdigV h2.toNat)
  | _ => false
def hexW : List UInt8 → UInt8
  | h1 :: h2 :: _ => UInt8.ofNat (iWrap .u8 (rdigV h1.toNat * 16 + rdigV h2.toNat)).toNat
  | _ => 0
/-- What stands first: the end, a fault, or a byte's text of k bytes. -/
inductive RS where
  | stop
  | bad
  | one (x : UInt8) (k : Nat)
def rS : List UInt8 → RS
  | [] => .stop
  | c :: t => if c = 34 then .stop else if c ≠ 92 then .one c 1 else
    match t with
    | [] => .bad
    | e :: u => if e = 110 then .one 10 2 else if e = 116 then .one 9 2 else if e = 120 ∧ hexOk u = true then .one (hexW u) 4 else .one e 2
theorem rS_k {r : List UInt8} {x : UInt8} {k : Nat} (h : rS r = .one x k) : 1 ≤ k ∧ k ≤ r.length := by
  unfold rS at h
  split at h
  · cases h
  · rename_i c t
    split at h
    · cases h
    · split at h
      · cases h; simp
      · split at h
        · cases h
        · rename_i e u
          split at h
          · cases h; simp
          · split at h
            · cases h; simp
            · split at h
              · rename_i hx
                cases h
                have := hx.2
                unfold hexOk at this
                split at this
                · simp
                · cases this
              · cases h; simp
/-- What stands ahead of the quote, and the rest. -/
def rP (r : List UInt8) : Option (List UInt8 × List UInt8) := match h : rS r with
  | .stop => some ([], r)
  | .bad => none
  | .one x k => (rP (r.drop k)).map fun p => (x :: p.1, p.2)
  termination_by r.length
  decreasing_by have := rS_k h; simp; omega
def rL (r : List UInt8) : Nat := match h : rS r with
  | .stop => 0
  | .bad => 0
  | .one x k => rL (r.drop k) + 1
  termination_by r.length
  decreasing_by have := rS_k h; simp; omega
theorem rP_stop {r : List UInt8} (h : rS r = .stop) : rP r = some ([], r) := by rw [rP.eq_def]; split <;> simp_all
theorem rP_bad {r : List UInt8} (h : rS r = .bad) : rP r = none := by rw [rP.eq_def]; split <;> simp_all
theorem rP_one {r : List UInt8} {x : UInt8} {k : Nat} (h : rS r = .one x k) : rP r = (rP (r.drop k)).map fun p => (x :: p.1, p.2) := by rw [rP.eq_def]; split <;> simp_all
theorem rL_bad {r : List UInt8} (h : rS r = .bad) : rL r = 0 := by rw [rL.eq_def]; split <;> simp_all
theorem rL_one {r : List UInt8} {x : UInt8} {k : Nat} (h : rS r = .one x k) : rL r = rL (r.drop k) + 1 := by rw [rL.eq_def]; split <;> simp_all
def okRP (s : List UInt8) : Bool := (rP (s.drop 1)).isSome
def rpB (s : List UInt8) : List UInt8 := match rP (s.drop 1) with | some p => p.1 | none => []
def rpI (s : List UInt8) : Int := match rP (s.drop 1) with | some p => (s.length : Int) - p.2.length | none => 0
def rpL (s : List UInt8) : Nat := rL (s.drop 1)
def d_RSym : List PV → Store → Option (List UInt8 × Int)
  | [.str s, .sl [] .full, .int .i64 i], ⟨[], [], []⟩ => some (s, i)
  | _, _ => none
def r_RSym : List UInt8 × Int → Tr (PExit × List (Nat × PV) × Store)
  | (s, i) => Tr.chk (iEq i 1) (Tr.chk (okLen s) (Tr.chk (iLe 1 (sLen s)) (.ite (okRP s)
      (.ite (sEq (rpB s) []) (.ret (.exit 0, [(0, .str s), (4, .sl [] .full), (5, .int .i64 (rpI s))], ⟨[], [], []⟩)) (.ret (.exit 0, [(0, .str s), (4, .sl (bytesOf (rpB s)) (.tok 0)), (5, .int .i64 (rpI s))], ⟨[], [(nLen (rpB s), 1, 5)], []⟩)))
      (.ite (nEq (rpL s) 0) (.ret (.ret, [(2, .str []), (3, .bool false)], ⟨[], [], []⟩)) (.ret (.ret, [(2, .str []), (3, .bool false)], ⟨[], [(rpL s, 1, 5)], []⟩))))))
def L_RSym : LpsT := fun r fr σ => if r = 5 then oracle 128 [0, 4, 5] d_RSym r_RSym fr σ else .fail
noncomputable def c_RSym : Code := loopN Tryd.f36 0
theorem drop_get {s r : List UInt8} {i : Nat} {c : UInt8} (h : s.drop i = c :: r) : s[i]? = some c ∧ s.drop (i + 1) = r ∧ i + 1 + r.length = s.length := by
  have h1 : (s.drop i)[0]? = some c := by rw [h]; rfl
  have h2 : s.drop (i + 1) = r := by
    have : (s.drop i).drop 1 = r := by rw [h]; rfl
    simpa [Nat.add_comm] using this
  have h3 := congrArg List.length h
  simp at h1 h3
  exact ⟨h1, h2, by omega⟩
theorem rdig_rng (c : UInt8) : -1 ≤ rdigV c.toNat ∧ rdigV c.toNat ≤ 15 := by
  have h := c.toNat_lt
  have key : ∀ n : Fin 256, -1 ≤ rdigV (n.val : Int) ∧ rdigV (n.val : Int) ≤ 15 := by decide +kernel
  exact key ⟨c.toNat, h⟩
theorem wrap8_rng (n : Int) : 0 ≤ iWrap .u8 n ∧ iWrap .u8 n < 256 := by
  simp [iWrap, IntKind.wrap, IntKind.signed, IntKind.bits]
  omega
theorem iNe_byte_ne {c k : UInt8} (h : c ≠ k) : iNe (c.toNat : Int) (k.toNat : Int) = true := by
  simp only [iNe_eq, decide_eq_true_eq]
  intro e
  exact h (UInt8.toNat_inj.1 (by omega))
theorem iNe_byte_eq {c k : UInt8} (h : c = k) : iNe (c.toNat : Int) (k.toNat : Int) = false := by
  subst h
  simp
theorem xApp_one (b : List UInt8) (x : UInt8) {n : Int} (h : (x.toNat : Int) = n) : xApp (bytesOf b) [[.int .u8 n]] = bytesOf (b ++ [x]) := by
  subst h
  rw [xApp_byte b (by have := x.toNat_lt; omega)]
  simp
theorem xApp_nil1 (x : UInt8) {n : Int} (h : (x.toNat : Int) = n) : xApp [] [[.int .u8 n]] = bytesOf [x] := xApp_one [] x h
theorem hexW_eq {h1 h2 : UInt8} {u : List UInt8} : ((hexW (h1 :: h2 :: u)).toNat : Int) = iWrap .u8 (iAdd .i64 (iMul .i64 (rdigV h1.toNat) 16) (rdigV h2.toNat)) := by
  have r1 := rdig_rng h1
  have r2 := rdig_rng h2
  have e1 : iMul .i64 (rdigV h1.toNat) 16 = rdigV h1.toNat * 16 := wrap_i64 (by omega)
  have e2 : iAdd .i64 (rdigV h1.toNat * 16) (rdigV h2.toNat) = rdigV h1.toNat * 16 + rdigV h2.toNat := wrap_i64 (by omega)
  rw [e1, e2]
  have := wrap8_rng (rdigV h1.toNat * 16 + rdigV h2.toNat)
  simp [hexW]
  omega

section
variable (gl : Nat → Option Obj) (s : List UInt8) (e : PExit) (out : List (Nat × PV)) (σ' : Store)
/-- A round of the loop. -/
theorem walkB_RSym (hs : s.length ≤ 140737488355328) (b : List UInt8) (i : Int) (r : List UInt8) (hi : 1 ≤ i) (hr : s.drop i.toNat = r) (hil : i ≤ s.length) (hb : b.length + r.length ≤ 140737488355328)
    (hstop : rS r = .stop → e = .exit 0 ∧ out = [(0, .str s), (4, .sl (bytesOf b) (.tok 0)), (5, .int .i64 i)] ∧ σ' = ⟨[], [(nLen b, 1, 5)], []⟩) (hbad : rS r = .bad → e = .ret ∧ out = [(2, .str []), (3, .bool false)] ∧ σ' = ⟨[], [(nLen b, 1, 5)], []⟩)
    (hone : ∀ x k, rS r = .one x k → LDoes Tryd.prog gl c_RSym (mk 128 ([0, 4, 5].zip [.str s, .sl (bytesOf (b ++ [x])) (.tok 0), .int .i64 (i + k)])) ⟨[], [(nLen (b ++ [x]), 1, 5)], []⟩ e (mk 128 out) σ') :
    LDoes Tryd.prog gl c_RSym (mk 128 ([0, 4, 5].zip [.str s, .sl (bytesOf b) (.tok 0), .int .i64 i])) ⟨[], [(nLen b, 1, 5)], []⟩ e (mk 128 out) σ' := by
  have hG : GamOk Tryd.prog gl (gam (ofL [(58, .pure F_Rdig)])) := gamOk_cons (sim_Rdig gl) gamOk_nil
  refine LDoes.round tbT_ok hG noMixed (L := fun _ _ _ => .fail) (loopOk_none (by kernel_rfl)) (by kernel_rfl) ?_
  refine Tr.all_as (Tr.ite (iLt i (sLen s))
      (Tr.ite (okIdx s i)
        (Tr.ite (iNe (sAt s i) 34)
          (Tr.ite (okIdx s i)
            (Tr.ite (iNe (sAt s i) 92)
              (Tr.ite (okIdx s i)
                (Tr.ite (okGrow (bytesOf b) [[PV.int IntKind.u8 (sAt s i)]] 1)
                  (Tr.ite (okNews [[PV.int IntKind.u8 (sAt s i)]] 1)
                    (Tr.ite (okSize (bytesOf b) 1)
                      (Tr.ite (nEq (nLen b) (nXs (bytesOf b)))
                        (Tr.ret
                          (PExit.normal, [42, 33, 23, 18],
                            [PV.str s, PV.top, PV.top, PV.top, PV.sl (xApp (bytesOf b) [[PV.int IntKind.u8 (sAt s i)]]) (Tag.tok 0), PV.int IntKind.i64 (iAdd IntKind.i64 i 1), PV.top, PV.top, PV.top,
                              PV.top, PV.top, PV.top, PV.top, PV.top, PV.int IntKind.i64 i, PV.str s, PV.int IntKind.i64 (sLen s), PV.bool (iLt i (sLen s)), PV.bool true, PV.str s, PV.int IntKind.i64 i,
                              PV.int IntKind.u8 (sAt s i), PV.bool (iNe (sAt s i) 34), PV.bool true, PV.top, PV.top, PV.top, PV.top, PV.top, PV.top, PV.top, PV.top, PV.top, PV.bool true, PV.str s,
                              PV.int IntKind.i64 i, PV.int IntKind.u8 (sAt s i), PV.bool (iNe (sAt s i) 92), PV.sl (bytesOf b) (Tag.tok 0), PV.str s, PV.int IntKind.i64 i, PV.int IntKind.u8 (sAt s i),
                              PV.sl [[PV.int IntKind.u8 (sAt s i)]] Tag.full, PV.sl (xApp (bytesOf b) [[PV.int IntKind.u8 (sAt s i)]]) (Tag.tok 0), PV.int IntKind.i64 i,
                              PV.int IntKind.i64 (iAdd IntKind.i64 i 1), PV.top, PV.top, PV.top, PV.top, PV.top, PV.top, PV.top, PV.top, PV.top, PV.top, PV.top, PV.top, PV.top, PV.top, PV.top, PV.top,
                              PV.top, PV.top, PV.top, PV.top, PV.top, PV.top, PV.top, PV.top, PV.top, PV.top, PV.top, PV.top, PV.top, PV.top, PV.top, PV.top, PV.top, PV.top, PV.top, PV.top, PV.top,
                              PV.top, PV.top, PV.top, PV.top, PV.top, PV.top, PV.top, PV.top, PV.top, PV.top, PV.top, PV.top, PV.top, PV.top, PV.top, PV.top, PV.top, PV.top, PV.top, PV.top, PV.top,
                              PV.top, PV.top, PV.top, PV.top, PV.top, PV.top, PV.top, PV.top, PV.top, PV.top, PV.top, PV.top, PV.top, PV.top, PV.top, PV.top, PV.top, PV.top, PV.top, PV.top, PV.top,
                              PV.top, PV.top, PV.top],
                            Store.mk [] [(nXs (xApp (bytesOf b) [[PV.int IntKind.u8 (sAt s i)]]), 1, 5)] []))
                        Tr.fail)
                      Tr.fail)
                    Tr.fail)
                  Tr.fail)
                Tr.fail)
              (Tr.ite (iLe (sLen s) (iAdd IntKind.i64 i 1))
                (Tr.ret
                  (PExit.ret, [3, 2, 46, 33, 23, 18],
                    [PV.str s, PV.top, PV.str [], PV.bool false, PV.sl (bytesOf b) (Tag.tok 0), PV.int IntKind.i64 i, PV.top, PV.top, PV.top, PV.top, PV.top, PV.top, PV.top, PV.top, PV.int IntKind.i64 i,
                      PV.str s, PV.int IntKind.i64 (sLen s), PV.bool (iLt i (sLen s)), PV.bool true, PV.str s, PV.int IntKind.i64 i, PV.int IntKind.u8 (sAt s i), PV.bool (iNe (sAt s i) 34), PV.bool true,
                      PV.top, PV.top, PV.top, PV.top, PV.top, PV.top, PV.top, PV.top, PV.top, PV.bool false, PV.str s, PV.int IntKind.i64 i, PV.int IntKind.u8 (sAt s i), PV.bool (iNe (sAt s i) 92),
                      PV.top, PV.top, PV.top, PV.top, PV.top, PV.top, PV.top, PV.top, PV.bool true, PV.int IntKind.i64 i, PV.int IntKind.i64 (iAdd IntKind.i64 i 1), PV.str s, PV.int IntKind.i64 (sLen s),
                      PV.bool (iLe (sLen s) (iAdd IntKind.i64 i 1)), PV.top, PV.top, PV.top, PV.top, PV.top, PV.top, PV.top, PV.top, PV.top, PV.top, PV.top, PV.top, PV.top, PV.top, PV.top, PV.top, PV.top,
                      PV.top, PV.top, PV.top, PV.top, PV.top, PV.top, PV.top, PV.top, PV.top, PV.top, PV.top, PV.top, PV.top, PV.top, PV.top, PV.top, PV.top, PV.top, PV.top, PV.top, PV.top, PV.top,
                      PV.top, PV.top, PV.top, PV.top, PV.top, PV.top, PV.top, PV.top, PV.top, PV.top, PV.top, PV.top, PV.top, PV.top, PV.top, PV.top, PV.top, PV.top, PV.top, PV.top, PV.top, PV.top,
                      PV.top, PV.top, PV.top, PV.top, PV.top, PV.top, PV.top, PV.top, PV.top, PV.top, PV.top, PV.top, PV.top, PV.top, PV.top],
                    Store.mk [] [(nLen b, 1, 5)] []))
                (Tr.ite (okIdx s (iAdd IntKind.i64 i 1))
                  (Tr.ite (iEq (sAt s (iAdd IntKind.i64 i 1)) 110)
                    (Tr.ite (okGrow (bytesOf b) [[PV.int IntKind.u8 10]] 1)
                      (Tr.ite (okNews [[PV.int IntKind.u8 10]] 1)
                        (Tr.ite (okSize (bytesOf b) 1)
                          (Tr.ite (nEq (nLen b) (nXs (bytesOf b)))
                            (Tr.ret
                              (PExit.normal, [59, 52, 46, 33, 23, 18],
                                [PV.str s, PV.top, PV.top, PV.top, PV.sl (xApp (bytesOf b) [[PV.int IntKind.u8 10]]) (Tag.tok 0), PV.int IntKind.i64 (iAdd IntKind.i64 i 2), PV.top, PV.top, PV.top, PV.top,
                                  PV.top, PV.top, PV.top, PV.top, PV.int IntKind.i64 i, PV.str s, PV.int IntKind.i64 (sLen s), PV.bool (iLt i (sLen s)), PV.bool true, PV.str s, PV.int IntKind.i64 i,
                                  PV.int IntKind.u8 (sAt s i), PV.bool (iNe (sAt s i) 34), PV.bool true, PV.top, PV.top, PV.top, PV.top, PV.top, PV.top, PV.top, PV.top, PV.top, PV.bool false, PV.str s,
                                  PV.int IntKind.i64 i, PV.int IntKind.u8 (sAt s i), PV.bool (iNe (sAt s i) 92), PV.top, PV.top, PV.top, PV.top, PV.top, PV.top, PV.top, PV.top, PV.bool false,
                                  PV.int IntKind.i64 i, PV.int IntKind.i64 (iAdd IntKind.i64 i 1), PV.str s, PV.int IntKind.i64 (sLen s), PV.bool (iLe (sLen s) (iAdd IntKind.i64 i 1)), PV.bool true,
                                  PV.str s, PV.int IntKind.i64 i, PV.int IntKind.i64 (iAdd IntKind.i64 i 1), PV.int IntKind.u8 (sAt s (iAdd IntKind.i64 i 1)),
                                  PV.bool (iEq (sAt s (iAdd IntKind.i64 i 1)) 110), PV.sl (bytesOf b) (Tag.tok 0), PV.sl [[PV.int IntKind.u8 10]] Tag.full,
                                  PV.sl (xApp (bytesOf b) [[PV.int IntKind.u8 10]]) (Tag.tok 0), PV.int IntKind.i64 i, PV.int IntKind.i64 (iAdd IntKind.i64 i 2), PV.top, PV.top, PV.top, PV.top, PV.top,
                                  PV.top, PV.top, PV.top, PV.top, PV.top, PV.top, PV.top, PV.top, PV.top, PV.top, PV.top, PV.top, PV.top, PV.top, PV.top, PV.top, PV.top, PV.top, PV.top, PV.top, PV.top,
                                  PV.top, PV.top, PV.top, PV.top, PV.top, PV.top, PV.top, PV.top, PV.top, PV.top, PV.top, PV.top, PV.top, PV.top, PV.top, PV.top, PV.top, PV.top, PV.top, PV.top, PV.top,
                                  PV.top, PV.top, PV.top, PV.top, PV.top, PV.top, PV.top, PV.top, PV.top, PV.top, PV.top, PV.top, PV.top, PV.top, PV.top, PV.top, PV.top, PV.top],
                                Store.mk [] [(nXs (xApp (bytesOf b) [[PV.int IntKind.u8 10]]), 1, 5)] []))
                            Tr.fail)
                          Tr.fail)
                        Tr.fail)
                      Tr.fail)
                    (Tr.ite (okIdx s (iAdd IntKind.i64 i 1))
                      (Tr.ite (iEq (sAt s (iAdd IntKind.i64 i 1)) 116)
                        (Tr.ite (okGrow (bytesOf b) [[PV.int IntKind.u8 9]] 1)
                          (Tr.ite (okNews [[PV.int IntKind.u8 9]] 1)
                            (Tr.ite (okSize (bytesOf b) 1)
                              (Tr.ite (nEq (nLen b) (nXs (bytesOf b)))
                                (Tr.ret
                                  (PExit.normal, [70, 63, 52, 46, 33, 23, 18],
                                    [PV.str s, PV.top, PV.top, PV.top, PV.sl (xApp (bytesOf b) [[PV.int IntKind.u8 9]]) (Tag.tok 0), PV.int IntKind.i64 (iAdd IntKind.i64 i 2), PV.top, PV.top, PV.top,
                                      PV.top, PV.top, PV.top, PV.top, PV.top, PV.int IntKind.i64 i, PV.str s, PV.int IntKind.i64 (sLen s), PV.bool (iLt i (sLen s)), PV.bool true, PV.str s,
                                      PV.int IntKind.i64 i, PV.int IntKind.u8 (sAt s i), PV.bool (iNe (sAt s i) 34), PV.bool true, PV.top, PV.top, PV.top, PV.top, PV.top, PV.top, PV.top, PV.top, PV.top,
                                      PV.bool false, PV.str s, PV.int IntKind.i64 i, PV.int IntKind.u8 (sAt s i), PV.bool (iNe (sAt s i) 92), PV.top, PV.top, PV.top, PV.top, PV.top, PV.top, PV.top,
                                      PV.top, PV.bool false, PV.int IntKind.i64 i, PV.int IntKind.i64 (iAdd IntKind.i64 i 1), PV.str s, PV.int IntKind.i64 (sLen s),
                                      PV.bool (iLe (sLen s) (iAdd IntKind.i64 i 1)), PV.bool false, PV.str s, PV.int IntKind.i64 i, PV.int IntKind.i64 (iAdd IntKind.i64 i 1),
                                      PV.int IntKind.u8 (sAt s (iAdd IntKind.i64 i 1)), PV.bool (iEq (sAt s (iAdd IntKind.i64 i 1)) 110), PV.top, PV.top, PV.top, PV.top, PV.top, PV.bool true, PV.str s,
                                      PV.int IntKind.i64 i, PV.int IntKind.i64 (iAdd IntKind.i64 i 1), PV.int IntKind.u8 (sAt s (iAdd IntKind.i64 i 1)), PV.bool (iEq (sAt s (iAdd IntKind.i64 i 1)) 116),
                                      PV.sl (bytesOf b) (Tag.tok 0), PV.sl [[PV.int IntKind.u8 9]] Tag.full, PV.sl (xApp (bytesOf b) [[PV.int IntKind.u8 9]]) (Tag.tok 0), PV.int IntKind.i64 i,
                                      PV.int IntKind.i64 (iAdd IntKind.i64 i 2), PV.top, PV.top, PV.top, PV.top, PV.top, PV.top, PV.top, PV.top, PV.top, PV.top, PV.top, PV.top, PV.top, PV.top, PV.top,
                                      PV.top, PV.top, PV.top, PV.top, PV.top, PV.top, PV.top, PV.top, PV.top, PV.top, PV.top, PV.top, PV.top, PV.top, PV.top, PV.top, PV.top, PV.top, PV.top, PV.top,
                                      PV.top, PV.top, PV.top, PV.top, PV.top, PV.top, PV.top, PV.top, PV.top, PV.top, PV.top, PV.top, PV.top, PV.top, PV.top, PV.top, PV.top, PV.top, PV.top],
                                    Store.mk [] [(nXs (xApp (bytesOf b) [[PV.int IntKind.u8 9]]), 1, 5)] []))
                                Tr.fail)
                              Tr.fail)
                            Tr.fail)
                          Tr.fail)
                        (Tr.ite (okIdx s (iAdd IntKind.i64 i 1))
                          (Tr.ite (iEq (sAt s (iAdd IntKind.i64 i 1)) 120)
                            (Tr.ite (iLt (iAdd IntKind.i64 i 3) (sLen s))
                              (Tr.ite (okIdx s (iAdd IntKind.i64 i 2))
                                (Tr.ite (iLe 0 (rdigV (sAt s (iAdd IntKind.i64 i 2))))
                                  (Tr.ite (okIdx s (iAdd IntKind.i64 i 3))
                                    (Tr.ite (iLe 0 (rdigV (sAt s (iAdd IntKind.i64 i 3))))
                                      (Tr.ite (okIdx s (iAdd IntKind.i64 i 2))
                                        (Tr.ite (okIdx s (iAdd IntKind.i64 i 3))
                                          (Tr.ite
                                            (okGrow (bytesOf b)
                                              [[PV.int IntKind.u8
                                                    (iWrap IntKind.u8 (iAdd IntKind.i64 (iMul IntKind.i64 (rdigV (sAt s (iAdd IntKind.i64 i 2))) 16) (rdigV (sAt s (iAdd IntKind.i64 i 3)))))]]
                                              1)
                                            (Tr.ite
                                              (okNews
                                                [[PV.int IntKind.u8
                                                      (iWrap IntKind.u8 (iAdd IntKind.i64 (iMul IntKind.i64 (rdigV (sAt s (iAdd IntKind.i64 i 2))) 16) (rdigV (sAt s (iAdd IntKind.i64 i 3)))))]]
                                                1)
                                              (Tr.ite (okSize (bytesOf b) 1)
                                                (Tr.ite (nEq (nLen b) (nXs (bytesOf b)))
                                                  (Tr.ret
                                                    (PExit.normal, [117, 74, 95, 87, 80, 63, 52, 46, 33, 23, 18],
                                                      [PV.str s, PV.top, PV.top, PV.top,
                                                        PV.sl
                                                          (xApp (bytesOf b)
                                                            [[PV.int IntKind.u8
                                                                  (iWrap IntKind.u8
                                                                    (iAdd IntKind.i64 (iMul IntKind.i64 (rdigV (sAt s (iAdd IntKind.i64 i 2))) 16) (rdigV (sAt s (iAdd IntKind.i64 i 3)))))]])
                                                          (Tag.tok 0),
                                                        PV.int IntKind.i64 (iAdd IntKind.i64 i 4), PV.top, PV.top, PV.top, PV.top, PV.top, PV.top, PV.top, PV.top, PV.int IntKind.i64 i, PV.str s,
                                                        PV.int IntKind.i64 (sLen s), PV.bool (iLt i (sLen s)), PV.bool true, PV.str s, PV.int IntKind.i64 i, PV.int IntKind.u8 (sAt s i),
                                                        PV.bool (iNe (sAt s i) 34), PV.bool true, PV.top, PV.top, PV.top, PV.top, PV.top, PV.top, PV.top, PV.top, PV.top, PV.bool false, PV.str s,
                                                        PV.int IntKind.i64 i, PV.int IntKind.u8 (sAt s i), PV.bool (iNe (sAt s i) 92), PV.top, PV.top, PV.top, PV.top, PV.top, PV.top, PV.top, PV.top,
                                                        PV.bool false, PV.int IntKind.i64 i, PV.int IntKind.i64 (iAdd IntKind.i64 i 1), PV.str s, PV.int IntKind.i64 (sLen s),
                                                        PV.bool (iLe (sLen s) (iAdd IntKind.i64 i 1)), PV.bool false, PV.str s, PV.int IntKind.i64 i, PV.int IntKind.i64 (iAdd IntKind.i64 i 1),
                                                        PV.int IntKind.u8 (sAt s (iAdd IntKind.i64 i 1)), PV.bool (iEq (sAt s (iAdd IntKind.i64 i 1)) 110), PV.top, PV.top, PV.top, PV.top, PV.top,
                                                        PV.bool false, PV.str s, PV.int IntKind.i64 i, PV.int IntKind.i64 (iAdd IntKind.i64 i 1), PV.int IntKind.u8 (sAt s (iAdd IntKind.i64 i 1)),
                                                        PV.bool (iEq (sAt s (iAdd IntKind.i64 i 1)) 116), PV.top, PV.top, PV.top, PV.top, PV.top, PV.bool true, PV.str s, PV.int IntKind.i64 i,
                                                        PV.int IntKind.i64 (iAdd IntKind.i64 i 1), PV.int IntKind.u8 (sAt s (iAdd IntKind.i64 i 1)), PV.bool (iEq (sAt s (iAdd IntKind.i64 i 1)) 120),
                                                        PV.bool true, PV.int IntKind.i64 i, PV.int IntKind.i64 (iAdd IntKind.i64 i 3), PV.str s, PV.int IntKind.i64 (sLen s),
                                                        PV.bool (iLt (iAdd IntKind.i64 i 3) (sLen s)), PV.bool (iLt (iAdd IntKind.i64 i 3) (sLen s)), PV.bool true, PV.str s, PV.int IntKind.i64 i,
                                                        PV.int IntKind.i64 (iAdd IntKind.i64 i 2), PV.int IntKind.u8 (sAt s (iAdd IntKind.i64 i 2)),
                                                        PV.int IntKind.i64 (rdigV (sAt s (iAdd IntKind.i64 i 2))), PV.bool (iLe 0 (rdigV (sAt s (iAdd IntKind.i64 i 2)))),
                                                        PV.bool (iLe 0 (rdigV (sAt s (iAdd IntKind.i64 i 2)))), PV.bool true, PV.str s, PV.int IntKind.i64 i, PV.int IntKind.i64 (iAdd IntKind.i64 i 3),
                                                        PV.int IntKind.u8 (sAt s (iAdd IntKind.i64 i 3)), PV.int IntKind.i64 (rdigV (sAt s (iAdd IntKind.i64 i 3))),
                                                        PV.bool (iLe 0 (rdigV (sAt s (iAdd IntKind.i64 i 3)))), PV.bool (iLe 0 (rdigV (sAt s (iAdd IntKind.i64 i 3)))), PV.sl (bytesOf b) (Tag.tok 0),
                                                        PV.str s, PV.int IntKind.i64 i, PV.int IntKind.i64 (iAdd IntKind.i64 i 2), PV.int IntKind.u8 (sAt s (iAdd IntKind.i64 i 2)),
                                                        PV.int IntKind.i64 (rdigV (sAt s (iAdd IntKind.i64 i 2))), PV.int IntKind.i64 (iMul IntKind.i64 (rdigV (sAt s (iAdd IntKind.i64 i 2))) 16),
                                                        PV.str s, PV.int IntKind.i64 i, PV.int IntKind.i64 (iAdd IntKind.i64 i 3), PV.int IntKind.u8 (sAt s (iAdd IntKind.i64 i 3)),
                                                        PV.int IntKind.i64 (rdigV (sAt s (iAdd IntKind.i64 i 3))),
                                                        PV.int IntKind.i64 (iAdd IntKind.i64 (iMul IntKind.i64 (rdigV (sAt s (iAdd IntKind.i64 i 2))) 16) (rdigV (sAt s (iAdd IntKind.i64 i 3)))),
                                                        PV.int IntKind.u8
                                                          (iWrap IntKind.u8 (iAdd IntKind.i64 (iMul IntKind.i64 (rdigV (sAt s (iAdd IntKind.i64 i 2))) 16) (rdigV (sAt s (iAdd IntKind.i64 i 3))))),
                                                        PV.sl
                                                          [[PV.int IntKind.u8
                                                                (iWrap IntKind.u8 (iAdd IntKind.i64 (iMul IntKind.i64 (rdigV (sAt s (iAdd IntKind.i64 i 2))) 16) (rdigV (sAt s (iAdd IntKind.i64 i 3)))))]]
                                                          Tag.full,
                                                        PV.sl
                                                          (xApp (bytesOf b)
                                                            [[PV.int IntKind.u8
                                                                  (iWrap IntKind.u8
                                                                    (iAdd IntKind.i64 (iMul IntKind.i64 (rdigV (sAt s (iAdd IntKind.i64 i 2))) 16) (rdigV (sAt s (iAdd IntKind.i64 i 3)))))]])
                                                          (Tag.tok 0),
                                                        PV.int IntKind.i64 i, PV.int IntKind.i64 (iAdd IntKind.i64 i 4), PV.top, PV.top, PV.top, PV.top, PV.top, PV.top, PV.top],
                                                      Store.mk []
                                                        [(nXs
                                                              (xApp (bytesOf b)
                                                                [[PV.int IntKind.u8
                                                                      (iWrap IntKind.u8
                                                                        (iAdd IntKind.i64 (iMul IntKind.i64 (rdigV (sAt s (iAdd IntKind.i64 i 2))) 16) (rdigV (sAt s (iAdd IntKind.i64 i 3)))))]]),
                                                            1, 5)]
                                                        []))
                                                  Tr.fail)
                                                Tr.fail)
                                              Tr.fail)
                                            Tr.fail)
                                          Tr.fail)
                                        Tr.fail)
                                      (Tr.ite (okIdx s (iAdd IntKind.i64 i 1))
                                        (Tr.ite (okGrow (bytesOf b) [[PV.int IntKind.u8 (sAt s (iAdd IntKind.i64 i 1))]] 1)
                                          (Tr.ite (okNews [[PV.int IntKind.u8 (sAt s (iAdd IntKind.i64 i 1))]] 1)
                                            (Tr.ite (okSize (bytesOf b) 1)
                                              (Tr.ite (nEq (nLen b) (nXs (bytesOf b)))
                                                (Tr.ret
                                                  (PExit.normal, [29, 74, 95, 87, 80, 63, 52, 46, 33, 23, 18],
                                                    [PV.str s, PV.top, PV.top, PV.top, PV.sl (xApp (bytesOf b) [[PV.int IntKind.u8 (sAt s (iAdd IntKind.i64 i 1))]]) (Tag.tok 0),
                                                      PV.int IntKind.i64 (iAdd IntKind.i64 i 2), PV.top, PV.top, PV.top, PV.top, PV.top, PV.top, PV.top, PV.top, PV.int IntKind.i64 i, PV.str s,
                                                      PV.int IntKind.i64 (sLen s), PV.bool (iLt i (sLen s)), PV.bool true, PV.str s, PV.int IntKind.i64 i, PV.int IntKind.u8 (sAt s i),
                                                      PV.bool (iNe (sAt s i) 34), PV.bool true, PV.sl (bytesOf b) (Tag.tok 0), PV.str s, PV.int IntKind.i64 i, PV.int IntKind.i64 (iAdd IntKind.i64 i 1),
                                                      PV.int IntKind.u8 (sAt s (iAdd IntKind.i64 i 1)), PV.sl [[PV.int IntKind.u8 (sAt s (iAdd IntKind.i64 i 1))]] Tag.full,
                                                      PV.sl (xApp (bytesOf b) [[PV.int IntKind.u8 (sAt s (iAdd IntKind.i64 i 1))]]) (Tag.tok 0), PV.int IntKind.i64 i,
                                                      PV.int IntKind.i64 (iAdd IntKind.i64 i 2), PV.bool false, PV.str s, PV.int IntKind.i64 i, PV.int IntKind.u8 (sAt s i), PV.bool (iNe (sAt s i) 92),
                                                      PV.top, PV.top, PV.top, PV.top, PV.top, PV.top, PV.top, PV.top, PV.bool false, PV.int IntKind.i64 i, PV.int IntKind.i64 (iAdd IntKind.i64 i 1),
                                                      PV.str s, PV.int IntKind.i64 (sLen s), PV.bool (iLe (sLen s) (iAdd IntKind.i64 i 1)), PV.bool false, PV.str s, PV.int IntKind.i64 i,
                                                      PV.int IntKind.i64 (iAdd IntKind.i64 i 1), PV.int IntKind.u8 (sAt s (iAdd IntKind.i64 i 1)), PV.bool (iEq (sAt s (iAdd IntKind.i64 i 1)) 110), PV.top,
                                                      PV.top, PV.top, PV.top, PV.top, PV.bool false, PV.str s, PV.int IntKind.i64 i, PV.int IntKind.i64 (iAdd IntKind.i64 i 1),
                                                      PV.int IntKind.u8 (sAt s (iAdd IntKind.i64 i 1)), PV.bool (iEq (sAt s (iAdd IntKind.i64 i 1)) 116), PV.top, PV.top, PV.top, PV.top, PV.top,
                                                      PV.bool false, PV.str s, PV.int IntKind.i64 i, PV.int IntKind.i64 (iAdd IntKind.i64 i 1), PV.int IntKind.u8 (sAt s (iAdd IntKind.i64 i 1)),
                                                      PV.bool (iEq (sAt s (iAdd IntKind.i64 i 1)) 120), PV.bool true, PV.int IntKind.i64 i, PV.int IntKind.i64 (iAdd IntKind.i64 i 3), PV.str s,
                                                      PV.int IntKind.i64 (sLen s), PV.bool (iLt (iAdd IntKind.i64 i 3) (sLen s)), PV.bool (iLt (iAdd IntKind.i64 i 3) (sLen s)), PV.bool true, PV.str s,
                                                      PV.int IntKind.i64 i, PV.int IntKind.i64 (iAdd IntKind.i64 i 2), PV.int IntKind.u8 (sAt s (iAdd IntKind.i64 i 2)),
                                                      PV.int IntKind.i64 (rdigV (sAt s (iAdd IntKind.i64 i 2))), PV.bool (iLe 0 (rdigV (sAt s (iAdd IntKind.i64 i 2)))),
                                                      PV.bool (iLe 0 (rdigV (sAt s (iAdd IntKind.i64 i 2)))), PV.bool true, PV.str s, PV.int IntKind.i64 i, PV.int IntKind.i64 (iAdd IntKind.i64 i 3),
                                                      PV.int IntKind.u8 (sAt s (iAdd IntKind.i64 i 3)), PV.int IntKind.i64 (rdigV (sAt s (iAdd IntKind.i64 i 3))),
                                                      PV.bool (iLe 0 (rdigV (sAt s (iAdd IntKind.i64 i 3)))), PV.bool (iLe 0 (rdigV (sAt s (iAdd IntKind.i64 i 3)))), PV.top, PV.top, PV.top, PV.top,
                                                      PV.top, PV.top, PV.top, PV.top, PV.top, PV.top, PV.top, PV.top, PV.top, PV.top, PV.top, PV.top, PV.top, PV.top, PV.top, PV.top, PV.top, PV.top,
                                                      PV.top, PV.top, PV.top],
                                                    Store.mk [] [(nXs (xApp (bytesOf b) [[PV.int IntKind.u8 (sAt s (iAdd IntKind.i64 i 1))]]), 1, 5)] []))
                                                Tr.fail)
                                              Tr.fail)
                                            Tr.fail)
                                          Tr.fail)
                                        Tr.fail))
                                    Tr.fail)
                                  (Tr.ite (okIdx s (iAdd IntKind.i64 i 1))
                                    (Tr.ite (okGrow (bytesOf b) [[PV.int IntKind.u8 (sAt s (iAdd IntKind.i64 i 1))]] 1)
                                      (Tr.ite (okNews [[PV.int IntKind.u8 (sAt s (iAdd IntKind.i64 i 1))]] 1)
                                        (Tr.ite (okSize (bytesOf b) 1)
                                          (Tr.ite (nEq (nLen b) (nXs (bytesOf b)))
                                            (Tr.ret
                                              (PExit.normal, [29, 74, 102, 95, 87, 80, 63, 52, 46, 33, 23, 18],
                                                [PV.str s, PV.top, PV.top, PV.top, PV.sl (xApp (bytesOf b) [[PV.int IntKind.u8 (sAt s (iAdd IntKind.i64 i 1))]]) (Tag.tok 0),
                                                  PV.int IntKind.i64 (iAdd IntKind.i64 i 2), PV.top, PV.top, PV.top, PV.top, PV.top, PV.top, PV.top, PV.top, PV.int IntKind.i64 i, PV.str s,
                                                  PV.int IntKind.i64 (sLen s), PV.bool (iLt i (sLen s)), PV.bool true, PV.str s, PV.int IntKind.i64 i, PV.int IntKind.u8 (sAt s i),
                                                  PV.bool (iNe (sAt s i) 34), PV.bool true, PV.sl (bytesOf b) (Tag.tok 0), PV.str s, PV.int IntKind.i64 i, PV.int IntKind.i64 (iAdd IntKind.i64 i 1),
                                                  PV.int IntKind.u8 (sAt s (iAdd IntKind.i64 i 1)), PV.sl [[PV.int IntKind.u8 (sAt s (iAdd IntKind.i64 i 1))]] Tag.full,
                                                  PV.sl (xApp (bytesOf b) [[PV.int IntKind.u8 (sAt s (iAdd IntKind.i64 i 1))]]) (Tag.tok 0), PV.int IntKind.i64 i,
                                                  PV.int IntKind.i64 (iAdd IntKind.i64 i 2), PV.bool false, PV.str s, PV.int IntKind.i64 i, PV.int IntKind.u8 (sAt s i), PV.bool (iNe (sAt s i) 92), PV.top,
                                                  PV.top, PV.top, PV.top, PV.top, PV.top, PV.top, PV.top, PV.bool false, PV.int IntKind.i64 i, PV.int IntKind.i64 (iAdd IntKind.i64 i 1), PV.str s,
                                                  PV.int IntKind.i64 (sLen s), PV.bool (iLe (sLen s) (iAdd IntKind.i64 i 1)), PV.bool false, PV.str s, PV.int IntKind.i64 i,
                                                  PV.int IntKind.i64 (iAdd IntKind.i64 i 1), PV.int IntKind.u8 (sAt s (iAdd IntKind.i64 i 1)), PV.bool (iEq (sAt s (iAdd IntKind.i64 i 1)) 110), PV.top,
                                                  PV.top, PV.top, PV.top, PV.top, PV.bool false, PV.str s, PV.int IntKind.i64 i, PV.int IntKind.i64 (iAdd IntKind.i64 i 1),
                                                  PV.int IntKind.u8 (sAt s (iAdd IntKind.i64 i 1)), PV.bool (iEq (sAt s (iAdd IntKind.i64 i 1)) 116), PV.top, PV.top, PV.top, PV.top, PV.top, PV.bool false,
                                                  PV.str s, PV.int IntKind.i64 i, PV.int IntKind.i64 (iAdd IntKind.i64 i 1), PV.int IntKind.u8 (sAt s (iAdd IntKind.i64 i 1)),
                                                  PV.bool (iEq (sAt s (iAdd IntKind.i64 i 1)) 120), PV.bool true, PV.int IntKind.i64 i, PV.int IntKind.i64 (iAdd IntKind.i64 i 3), PV.str s,
                                                  PV.int IntKind.i64 (sLen s), PV.bool (iLt (iAdd IntKind.i64 i 3) (sLen s)), PV.bool (iLt (iAdd IntKind.i64 i 3) (sLen s)), PV.bool true, PV.str s,
                                                  PV.int IntKind.i64 i, PV.int IntKind.i64 (iAdd IntKind.i64 i 2), PV.int IntKind.u8 (sAt s (iAdd IntKind.i64 i 2)),
                                                  PV.int IntKind.i64 (rdigV (sAt s (iAdd IntKind.i64 i 2))), PV.bool (iLe 0 (rdigV (sAt s (iAdd IntKind.i64 i 2)))),
                                                  PV.bool (iLe 0 (rdigV (sAt s (iAdd IntKind.i64 i 2)))), PV.bool false, PV.tup [], PV.tup [], PV.tup [], PV.tup [], PV.tup [], PV.tup [], PV.bool false,
                                                  PV.top, PV.top, PV.top, PV.top, PV.top, PV.top, PV.top, PV.top, PV.top, PV.top, PV.top, PV.top, PV.top, PV.top, PV.top, PV.top, PV.top, PV.top, PV.top,
                                                  PV.top, PV.top, PV.top, PV.top, PV.top, PV.top],
                                                Store.mk [] [(nXs (xApp (bytesOf b) [[PV.int IntKind.u8 (sAt s (iAdd IntKind.i64 i 1))]]), 1, 5)] []))
                                            Tr.fail)
                                          Tr.fail)
                                        Tr.fail)
                                      Tr.fail)
                                    Tr.fail))
                                Tr.fail)
                              (Tr.ite (okIdx s (iAdd IntKind.i64 i 1))
                                (Tr.ite (okGrow (bytesOf b) [[PV.int IntKind.u8 (sAt s (iAdd IntKind.i64 i 1))]] 1)
                                  (Tr.ite (okNews [[PV.int IntKind.u8 (sAt s (iAdd IntKind.i64 i 1))]] 1)
                                    (Tr.ite (okSize (bytesOf b) 1)
                                      (Tr.ite (nEq (nLen b) (nXs (bytesOf b)))
                                        (Tr.ret
                                          (PExit.normal, [29, 74, 102, 95, 94, 87, 80, 63, 52, 46, 33, 23, 18],
                                            [PV.str s, PV.top, PV.top, PV.top, PV.sl (xApp (bytesOf b) [[PV.int IntKind.u8 (sAt s (iAdd IntKind.i64 i 1))]]) (Tag.tok 0),
                                              PV.int IntKind.i64 (iAdd IntKind.i64 i 2), PV.top, PV.top, PV.top, PV.top, PV.top, PV.top, PV.top, PV.top, PV.int IntKind.i64 i, PV.str s,
                                              PV.int IntKind.i64 (sLen s), PV.bool (iLt i (sLen s)), PV.bool true, PV.str s, PV.int IntKind.i64 i, PV.int IntKind.u8 (sAt s i), PV.bool (iNe (sAt s i) 34),
                                              PV.bool true, PV.sl (bytesOf b) (Tag.tok 0), PV.str s, PV.int IntKind.i64 i, PV.int IntKind.i64 (iAdd IntKind.i64 i 1),
                                              PV.int IntKind.u8 (sAt s (iAdd IntKind.i64 i 1)), PV.sl [[PV.int IntKind.u8 (sAt s (iAdd IntKind.i64 i 1))]] Tag.full,
                                              PV.sl (xApp (bytesOf b) [[PV.int IntKind.u8 (sAt s (iAdd IntKind.i64 i 1))]]) (Tag.tok 0), PV.int IntKind.i64 i, PV.int IntKind.i64 (iAdd IntKind.i64 i 2),
                                              PV.bool false, PV.str s, PV.int IntKind.i64 i, PV.int IntKind.u8 (sAt s i), PV.bool (iNe (sAt s i) 92), PV.top, PV.top, PV.top, PV.top, PV.top, PV.top,
                                              PV.top, PV.top, PV.bool false, PV.int IntKind.i64 i, PV.int IntKind.i64 (iAdd IntKind.i64 i 1), PV.str s, PV.int IntKind.i64 (sLen s),
                                              PV.bool (iLe (sLen s) (iAdd IntKind.i64 i 1)), PV.bool false, PV.str s, PV.int IntKind.i64 i, PV.int IntKind.i64 (iAdd IntKind.i64 i 1),
                                              PV.int IntKind.u8 (sAt s (iAdd IntKind.i64 i 1)), PV.bool (iEq (sAt s (iAdd IntKind.i64 i 1)) 110), PV.top, PV.top, PV.top, PV.top, PV.top, PV.bool false,
                                              PV.str s, PV.int IntKind.i64 i, PV.int IntKind.i64 (iAdd IntKind.i64 i 1), PV.int IntKind.u8 (sAt s (iAdd IntKind.i64 i 1)),
                                              PV.bool (iEq (sAt s (iAdd IntKind.i64 i 1)) 116), PV.top, PV.top, PV.top, PV.top, PV.top, PV.bool false, PV.str s, PV.int IntKind.i64 i,
                                              PV.int IntKind.i64 (iAdd IntKind.i64 i 1), PV.int IntKind.u8 (sAt s (iAdd IntKind.i64 i 1)), PV.bool (iEq (sAt s (iAdd IntKind.i64 i 1)) 120), PV.bool true,
                                              PV.int IntKind.i64 i, PV.int IntKind.i64 (iAdd IntKind.i64 i 3), PV.str s, PV.int IntKind.i64 (sLen s), PV.bool (iLt (iAdd IntKind.i64 i 3) (sLen s)),
                                              PV.bool (iLt (iAdd IntKind.i64 i 3) (sLen s)), PV.bool false, PV.tup [], PV.tup [], PV.tup [], PV.tup [], PV.tup [], PV.tup [], PV.bool false, PV.bool false,
                                              PV.tup [], PV.tup [], PV.tup [], PV.tup [], PV.tup [], PV.tup [], PV.bool false, PV.top, PV.top, PV.top, PV.top, PV.top, PV.top, PV.top, PV.top, PV.top,
                                              PV.top, PV.top, PV.top, PV.top, PV.top, PV.top, PV.top, PV.top, PV.top, PV.top, PV.top, PV.top, PV.top, PV.top, PV.top, PV.top],
                                            Store.mk [] [(nXs (xApp (bytesOf b) [[PV.int IntKind.u8 (sAt s (iAdd IntKind.i64 i 1))]]), 1, 5)] []))
                                        Tr.fail)
                                      Tr.fail)
                                    Tr.fail)
                                  Tr.fail)
                                Tr.fail))
                            (Tr.ite (okIdx s (iAdd IntKind.i64 i 1))
                              (Tr.ite (okGrow (bytesOf b) [[PV.int IntKind.u8 (sAt s (iAdd IntKind.i64 i 1))]] 1)
                                (Tr.ite (okNews [[PV.int IntKind.u8 (sAt s (iAdd IntKind.i64 i 1))]] 1)
                                  (Tr.ite (okSize (bytesOf b) 1)
                                    (Tr.ite (nEq (nLen b) (nXs (bytesOf b)))
                                      (Tr.ret
                                        (PExit.normal, [29, 74, 102, 95, 94, 87, 86, 80, 63, 52, 46, 33, 23, 18],
                                          [PV.str s, PV.top, PV.top, PV.top, PV.sl (xApp (bytesOf b) [[PV.int IntKind.u8 (sAt s (iAdd IntKind.i64 i 1))]]) (Tag.tok 0),
                                            PV.int IntKind.i64 (iAdd IntKind.i64 i 2), PV.top, PV.top, PV.top, PV.top, PV.top, PV.top, PV.top, PV.top, PV.int IntKind.i64 i, PV.str s,
                                            PV.int IntKind.i64 (sLen s), PV.bool (iLt i (sLen s)), PV.bool true, PV.str s, PV.int IntKind.i64 i, PV.int IntKind.u8 (sAt s i), PV.bool (iNe (sAt s i) 34),
                                            PV.bool true, PV.sl (bytesOf b) (Tag.tok 0), PV.str s, PV.int IntKind.i64 i, PV.int IntKind.i64 (iAdd IntKind.i64 i 1),
                                            PV.int IntKind.u8 (sAt s (iAdd IntKind.i64 i 1)), PV.sl [[PV.int IntKind.u8 (sAt s (iAdd IntKind.i64 i 1))]] Tag.full,
                                            PV.sl (xApp (bytesOf b) [[PV.int IntKind.u8 (sAt s (iAdd IntKind.i64 i 1))]]) (Tag.tok 0), PV.int IntKind.i64 i, PV.int IntKind.i64 (iAdd IntKind.i64 i 2),
                                            PV.bool false, PV.str s, PV.int IntKind.i64 i, PV.int IntKind.u8 (sAt s i), PV.bool (iNe (sAt s i) 92), PV.top, PV.top, PV.top, PV.top, PV.top, PV.top, PV.top,
                                            PV.top, PV.bool false, PV.int IntKind.i64 i, PV.int IntKind.i64 (iAdd IntKind.i64 i 1), PV.str s, PV.int IntKind.i64 (sLen s),
                                            PV.bool (iLe (sLen s) (iAdd IntKind.i64 i 1)), PV.bool false, PV.str s, PV.int IntKind.i64 i, PV.int IntKind.i64 (iAdd IntKind.i64 i 1),
                                            PV.int IntKind.u8 (sAt s (iAdd IntKind.i64 i 1)), PV.bool (iEq (sAt s (iAdd IntKind.i64 i 1)) 110), PV.top, PV.top, PV.top, PV.top, PV.top, PV.bool false,
                                            PV.str s, PV.int IntKind.i64 i, PV.int IntKind.i64 (iAdd IntKind.i64 i 1), PV.int IntKind.u8 (sAt s (iAdd IntKind.i64 i 1)),
                                            PV.bool (iEq (sAt s (iAdd IntKind.i64 i 1)) 116), PV.top, PV.top, PV.top, PV.top, PV.top, PV.bool false, PV.str s, PV.int IntKind.i64 i,
                                            PV.int IntKind.i64 (iAdd IntKind.i64 i 1), PV.int IntKind.u8 (sAt s (iAdd IntKind.i64 i 1)), PV.bool (iEq (sAt s (iAdd IntKind.i64 i 1)) 120), PV.bool false,
                                            PV.tup [], PV.tup [], PV.tup [], PV.tup [], PV.tup [], PV.bool false, PV.bool false, PV.tup [], PV.tup [], PV.tup [], PV.tup [], PV.tup [], PV.tup [],
                                            PV.bool false, PV.bool false, PV.tup [], PV.tup [], PV.tup [], PV.tup [], PV.tup [], PV.tup [], PV.bool false, PV.top, PV.top, PV.top, PV.top, PV.top, PV.top,
                                            PV.top, PV.top, PV.top, PV.top, PV.top, PV.top, PV.top, PV.top, PV.top, PV.top, PV.top, PV.top, PV.top, PV.top, PV.top, PV.top, PV.top, PV.top, PV.top],
                                          Store.mk [] [(nXs (xApp (bytesOf b) [[PV.int IntKind.u8 (sAt s (iAdd IntKind.i64 i 1))]]), 1, 5)] []))
                                      Tr.fail)
                                    Tr.fail)
                                  Tr.fail)
                                Tr.fail)
                              Tr.fail))
                          Tr.fail))
                      Tr.fail))
                  Tr.fail)))
            Tr.fail)
          (Tr.ret
            (PExit.exit 0, [23, 18],
              [PV.str s, PV.top, PV.top, PV.top, PV.sl (bytesOf b) (Tag.tok 0), PV.int IntKind.i64 i, PV.top, PV.top, PV.top, PV.top, PV.top, PV.top, PV.top, PV.top, PV.int IntKind.i64 i, PV.str s,
                PV.int IntKind.i64 (sLen s), PV.bool (iLt i (sLen s)), PV.bool true, PV.str s, PV.int IntKind.i64 i, PV.int IntKind.u8 (sAt s i), PV.bool (iNe (sAt s i) 34), PV.bool false, PV.top, PV.top,
                PV.top, PV.top, PV.top, PV.top, PV.top, PV.top, PV.top, PV.top, PV.top, PV.top, PV.top, PV.top, PV.top, PV.top, PV.top, PV.top, PV.top, PV.top, PV.top, PV.top, PV.top, PV.top, PV.top,
                PV.top, PV.top, PV.top, PV.top, PV.top, PV.top, PV.top, PV.top, PV.top, PV.top, PV.top, PV.top, PV.top, PV.top, PV.top, PV.top, PV.top, PV.top, PV.top, PV.top, PV.top, PV.top, PV.top,
                PV.top, PV.top, PV.top, PV.top, PV.top, PV.top, PV.top, PV.top, PV.top, PV.top, PV.top, PV.top, PV.top, PV.top, PV.top, PV.top, PV.top, PV.top, PV.top, PV.top, PV.top, PV.top, PV.top,
                PV.top, PV.top, PV.top, PV.top, PV.top, PV.top, PV.top, PV.top, PV.top, PV.top, PV.top, PV.top, PV.top, PV.top, PV.top, PV.top, PV.top, PV.top, PV.top, PV.top, PV.top, PV.top, PV.top,
                PV.top, PV.top, PV.top, PV.top, PV.top, PV.top, PV.top, PV.top, PV.top, PV.top],
              Store.mk [] [(nLen b, 1, 5)] [])))
        Tr.fail)
      (Tr.ret
        (PExit.exit 0, [23, 18],
          [PV.str s, PV.top, PV.top, PV.top, PV.sl (bytesOf b) (Tag.tok 0), PV.int IntKind.i64 i, PV.top, PV.top, PV.top, PV.top, PV.top, PV.top, PV.top, PV.top, PV.int IntKind.i64 i, PV.str s,
            PV.int IntKind.i64 (sLen s), PV.bool (iLt i (sLen s)), PV.bool false, PV.tup [], PV.tup [], PV.tup [], PV.tup [], PV.bool false, PV.top, PV.top, PV.top, PV.top, PV.top, PV.top, PV.top, PV.top,
            PV.top, PV.top, PV.top, PV.top, PV.top, PV.top, PV.top, PV.top, PV.top, PV.top, PV.top, PV.top, PV.top, PV.top, PV.top, PV.top, PV.top, PV.top, PV.top, PV.top, PV.top, PV.top, PV.top, PV.top,
            PV.top, PV.top, PV.top, PV.top, PV.top, PV.top, PV.top, PV.top, PV.top, PV.top, PV.top, PV.top, PV.top, PV.top, PV.top, PV.top, PV.top, PV.top, PV.top, PV.top, PV.top, PV.top, PV.top, PV.top,
            PV.top, PV.top, PV.top, PV.top, PV.top, PV.top, PV.top, PV.top, PV.top, PV.top, PV.top, PV.top, PV.top, PV.top, PV.top, PV.top, PV.top, PV.top, PV.top, PV.top, PV.top, PV.top, PV.top, PV.top,
            PV.top, PV.top, PV.top, PV.top, PV.top, PV.top, PV.top, PV.top, PV.top, PV.top, PV.top, PV.top, PV.top, PV.top, PV.top, PV.top, PV.top, PV.top, PV.top, PV.top, PV.top, PV.top, PV.top, PV.top],
          Store.mk [] [(nLen b, 1, 5)] []))) (by kernel_rfl) ?_
  cases r with
  | nil =>
    have hl := congrArg List.length hr
    simp at hl
    obtain ⟨rfl, rfl, rfl⟩ := hstop rfl
    exact Tr.all_f (by simp; omega) ⟨rfl, by simp [Weak, mk, mkFrom, look], rfl⟩
  | cons c t =>
    obtain ⟨hv, hd1, hl1⟩ := drop_get hr
    have hb1 : b.length + (t.length + 1) ≤ 140737488355328 := hb
    have a0 : sAt s i = c.toNat := sAt_get hv
    have k0 : okIdx s i = true := okIdx_get (by omega) hv
    have n1 : (i + 1).toNat = i.toNat + 1 := by omega
    have n2 : (i + 2).toNat = i.toNat + 1 + 1 := by omega
    have n3 : (i + 3).toNat = i.toNat + 1 + 1 + 1 := by omega
    have w1 : iAdd .i64 i 1 = i + 1 := wrap_i64 (by omega)
    have w2 : iAdd .i64 i 2 = i + 2 := wrap_i64 (by omega)
    have w3 : iAdd .i64 i 3 = i + 3 := wrap_i64 (by omega)
    have w4 : iAdd .i64 i 4 = i + 4 := wrap_i64 (by omega)
    simp only [a0, w1, w2, w3, w4]
    refine Tr.all_t (by simp; omega) <| Tr.all_t k0 ?_
    by_cases c34 : c = 34
    · obtain ⟨rfl, rfl, rfl⟩ := hstop (by simp [rS, c34])
      exact Tr.all_f (iNe_byte_eq (k := 34) c34) ⟨rfl, by simp [Weak, mk, mkFrom, look], rfl⟩
    · refine Tr.all_t (iNe_byte_ne (k := 34) c34) <| Tr.all_t k0 ?_
      by_cases c92 : c = 92
      · refine Tr.all_f (iNe_byte_eq (k := 92) c92) ?_
        cases t with
        | nil =>
          obtain ⟨rfl, rfl, rfl⟩ := hbad (by simp [rS, c92])
          exact Tr.all_t (by simp at hl1 ⊢; omega) ⟨rfl, by simp [Weak, mk, mkFrom, look], rfl⟩
        | cons e' u =>
          obtain ⟨hv1, hd2, hl2⟩ := drop_get hd1
          have a1 : sAt s (i + 1) = e'.toNat := sAt_get (by rw [n1]; exact hv1)
          have k1 : okIdx s (i + 1) = true := okIdx_get (by omega) (by rw [n1]; exact hv1)
          simp only [a1]
          refine Tr.all_f (by simp; omega) <| Tr.all_t k1 ?_
          by_cases e110 : e' = 110
          · refine Tr.all_t (iEq_byte_eq (k := 110) e110) ?_
            refine Tr.all_t (by simp; omega) <| Tr.all_t (by simp [one]) <| Tr.all_t (okSize_bytes _) <| Tr.all_t (by simp) ?_
            simp only [xApp_one b 10 (n := 10) rfl, nXs_bytes]
            refine LDoes.into ?_ (hone 10 2 (by simp [rS, c92, e110]))
            simp [Weak, mk, mkFrom, look]
          · refine Tr.all_f (iEq_byte_ne (k := 110) e110) <| Tr.all_t k1 ?_
            by_cases e116 : e' = 116
            · refine Tr.all_t (iEq_byte_eq (k := 116) e116) ?_
              refine Tr.all_t (by simp; omega) <| Tr.all_t (by simp [one]) <| Tr.all_t (okSize_bytes _) <| Tr.all_t (by simp) ?_
              simp only [xApp_one b 9 (n := 9) rfl, nXs_bytes]
              refine LDoes.into ?_ (hone 9 2 (by simp [rS, c92, e110, e116]))
              simp [Weak, mk, mkFrom, look]
            · refine Tr.all_f (iEq_byte_ne (k := 116) e116) <| Tr.all_t k1 ?_
              by_cases e120 : e' = 120
              · refine Tr.all_t (iEq_byte_eq (k := 120) e120) ?_
                cases u with
                | nil =>
                  refine Tr.all_f (by simp at hl2 ⊢; omega) <| Tr.all_t k1 ?_
                  refine Tr.all_t (by simp; omega) <| Tr.all_t (by simp [one]) <| Tr.all_t (okSize_bytes _) <| Tr.all_t (by simp) ?_
                  simp only [xApp_one b e' rfl, nXs_bytes]
                  refine LDoes.into ?_ (hone e' 2 (by simp [rS, c92, e110, e116, e120, hexOk]))
                  simp [Weak, mk, mkFrom, look]
                | cons h1 u =>
                  obtain ⟨hv2, hd3, hl3⟩ := drop_get hd2
                  cases u with
                  | nil =>
                    refine Tr.all_f (by simp at hl3 ⊢; omega) <| Tr.all_t k1 ?_
                    refine Tr.all_t (by simp; omega) <| Tr.all_t (by simp [one]) <| Tr.all_t (okSize_bytes _) <| Tr.all_t (by simp) ?_
                    simp only [xApp_one b e' rfl, nXs_bytes]
                    refine LDoes.into ?_ (hone e' 2 (by simp [rS, c92, e110, e116, e120, hexOk]))
                    simp [Weak, mk, mkFrom, look]
                  | cons h2 u =>
                    obtain ⟨hv3, hd4, hl4⟩ := drop_get hd3
                    have a2 : sAt s (i + 2) = h1.toNat := sAt_get (by rw [n2]; exact hv2)
                    have k2 : okIdx s (i + 2) = true := okIdx_get (by omega) (by rw [n2]; exact hv2)
                    have a3 : sAt s (i + 3) = h2.toNat := sAt_get (by rw [n3]; exact hv3)
                    have k3 : okIdx s (i + 3) = true := okIdx_get (by omega) (by rw [n3]; exact hv3)
                    simp only [a2, a3]
                    refine Tr.all_t (by simp; omega) <| Tr.all_t k2 ?_
                    by_cases g1 : 0 ≤ rdigV h1.toNat
                    · refine Tr.all_t (by simpa using g1) <| Tr.all_t k3 ?_
                      by_cases g2 : 0 ≤ rdigV h2.toNat
                      · refine Tr.all_t (by simpa using g2) <| Tr.all_t k2 <| Tr.all_t k3 ?_
                        refine Tr.all_t (by simp; omega) <| Tr.all_t (by simp [one]) <| Tr.all_t (okSize_bytes _) <| Tr.all_t (by simp) ?_
                        simp only [xApp_one b (hexW (h1 :: h2 :: u)) hexW_eq, nXs_bytes]
                        refine LDoes.into ?_ (hone (hexW (h1 :: h2 :: u)) 4 (by simp [rS, c92, e110, e116, e120, hexOk, g1, g2]))
                        simp [Weak, mk, mkFrom, look]
                      · refine Tr.all_f (by simpa using g2) <| Tr.all_t k1 ?_
                        refine Tr.all_t (by simp; omega) <| Tr.all_t (by simp [one]) <| Tr.all_t (okSize_bytes _) <| Tr.all_t (by simp) ?_
                        simp only [xApp_one b e' rfl, nXs_bytes]
                        refine LDoes.into ?_ (hone e' 2 (by simp [rS, c92, e110, e116, e120, hexOk, g1, g2]))
                        simp [Weak, mk, mkFrom, look]
                    · refine Tr.all_f (by simpa using g1) <| Tr.all_t k1 ?_
                      refine Tr.all_t (by simp; omega) <| Tr.all_t (by simp [one]) <| Tr.all_t (okSize_bytes _) <| Tr.all_t (by simp) ?_
                      simp only [xApp_one b e' rfl, nXs_bytes]
                      refine LDoes.into ?_ (hone e' 2 (by simp [rS, c92, e110, e116, e120, hexOk, g1]))
                      simp [Weak, mk, mkFrom, look]
              · refine Tr.all_f (iEq_byte_ne (k := 120) e120) <| Tr.all_t k1 ?_
                refine Tr.all_t (by simp; omega) <| Tr.all_t (by simp [one]) <| Tr.all_t (okSize_bytes _) <| Tr.all_t (by simp) ?_
                simp only [xApp_one b e' rfl, nXs_bytes]
                refine LDoes.into ?_ (hone e' 2 (by simp [rS, c92, e110, e116, e120]))
                simp [Weak, mk, mkFrom, look]
      · refine Tr.all_t (iNe_byte_ne (k := 92) c92) <| Tr.all_t k0 ?_
        refine Tr.all_t (by simp; omega) <| Tr.all_t (by simp [one]) <| Tr.all_t (okSize_bytes _) <| Tr.all_t (by simp) ?_
        simp only [xApp_one b c rfl, nXs_bytes]
        refine LDoes.into ?_ (hone c 1 (by simp [rS, c34, c92]))
        simp [Weak, mk, mkFrom, look]

/-- A round of the loop. -/
theorem walkA_RSym (hs : s.length ≤ 140737488355328) (i : Int) (r : List UInt8) (hi : 1 ≤ i) (hr : s.drop i.toNat = r) (hil : i ≤ s.length)
    (hstop : rS r = .stop → e = .exit 0 ∧ out = [(0, .str s), (4, .sl [] .full), (5, .int .i64 i)] ∧ σ' = ⟨[], [], []⟩) (hbad : rS r = .bad → e = .ret ∧ out = [(2, .str []), (3, .bool false)] ∧ σ' = ⟨[], [], []⟩)
    (hone : ∀ x k, rS r = .one x k → LDoes Tryd.prog gl c_RSym (mk 128 ([0, 4, 5].zip [.str s, .sl (bytesOf [x]) (.tok 0), .int .i64 (i + k)])) ⟨[], [(nLen [x], 1, 5)], []⟩ e (mk 128 out) σ') :
    LDoes Tryd.prog gl c_RSym (mk 128 ([0, 4, 5].zip [.str s, .sl [] .full, .int .i64 i])) ⟨[], [], []⟩ e (mk 128 out) σ' := by
  have hG : GamOk Tryd.prog gl (gam (ofL [(58, .pure F_Rdig)])) := gamOk_cons (sim_Rdig gl) gamOk_nil
  refine LDoes.round tbT_ok hG noMixed (L := fun _ _ _ => .fail) (loopOk_none (by kernel_rfl)) (by kernel_rfl) ?_
  refine Tr.all_as (Tr.ite (iLt i (sLen s))
      (Tr.ite (okIdx s i)
        (Tr.ite (iNe (sAt s i) 34)
          (Tr.ite (okIdx s i)
            (Tr.ite (iNe (sAt s i) 92)
              (Tr.ite (okIdx s i)
                (Tr.ite (okGrow [] [[PV.int IntKind.u8 (sAt s i)]] 1)
                  (Tr.ite (okNews [[PV.int IntKind.u8 (sAt s i)]] 1)
                    (Tr.ite (okSize [] 1)
                      (Tr.ret
                        (PExit.normal, [42, 33, 23, 18],
                          [PV.str s, PV.top, PV.top, PV.top, PV.sl (xApp [] [[PV.int IntKind.u8 (sAt s i)]]) (Tag.tok 0), PV.int IntKind.i64 (iAdd IntKind.i64 i 1), PV.top, PV.top, PV.top, PV.top, PV.top,
                            PV.top, PV.top, PV.top, PV.int IntKind.i64 i, PV.str s, PV.int IntKind.i64 (sLen s), PV.bool (iLt i (sLen s)), PV.bool true, PV.str s, PV.int IntKind.i64 i,
                            PV.int IntKind.u8 (sAt s i), PV.bool (iNe (sAt s i) 34), PV.bool true, PV.top, PV.top, PV.top, PV.top, PV.top, PV.top, PV.top, PV.top, PV.top, PV.bool true, PV.str s,
                            PV.int IntKind.i64 i, PV.int IntKind.u8 (sAt s i), PV.bool (iNe (sAt s i) 92), PV.sl [] Tag.full, PV.str s, PV.int IntKind.i64 i, PV.int IntKind.u8 (sAt s i),
                            PV.sl [[PV.int IntKind.u8 (sAt s i)]] Tag.full, PV.sl (xApp [] [[PV.int IntKind.u8 (sAt s i)]]) (Tag.tok 0), PV.int IntKind.i64 i, PV.int IntKind.i64 (iAdd IntKind.i64 i 1),
                            PV.top, PV.top, PV.top, PV.top, PV.top, PV.top, PV.top, PV.top, PV.top, PV.top, PV.top, PV.top, PV.top, PV.top, PV.top, PV.top, PV.top, PV.top, PV.top, PV.top, PV.top, PV.top,
                            PV.top, PV.top, PV.top, PV.top, PV.top, PV.top, PV.top, PV.top, PV.top, PV.top, PV.top, PV.top, PV.top, PV.top, PV.top, PV.top, PV.top, PV.top, PV.top, PV.top, PV.top, PV.top,
                            PV.top, PV.top, PV.top, PV.top, PV.top, PV.top, PV.top, PV.top, PV.top, PV.top, PV.top, PV.top, PV.top, PV.top, PV.top, PV.top, PV.top, PV.top, PV.top, PV.top, PV.top, PV.top,
                            PV.top, PV.top, PV.top, PV.top, PV.top, PV.top, PV.top, PV.top, PV.top, PV.top, PV.top, PV.top, PV.top, PV.top, PV.top, PV.top],
                          Store.mk [] [(nXs (xApp [] [[PV.int IntKind.u8 (sAt s i)]]), 1, 5)] []))
                      Tr.fail)
                    Tr.fail)
                  Tr.fail)
                Tr.fail)
              (Tr.ite (iLe (sLen s) (iAdd IntKind.i64 i 1))
                (Tr.ret
                  (PExit.ret, [3, 2, 46, 33, 23, 18],
                    [PV.str s, PV.top, PV.str [], PV.bool false, PV.sl [] Tag.full, PV.int IntKind.i64 i, PV.top, PV.top, PV.top, PV.top, PV.top, PV.top, PV.top, PV.top, PV.int IntKind.i64 i, PV.str s,
                      PV.int IntKind.i64 (sLen s), PV.bool (iLt i (sLen s)), PV.bool true, PV.str s, PV.int IntKind.i64 i, PV.int IntKind.u8 (sAt s i), PV.bool (iNe (sAt s i) 34), PV.bool true, PV.top,
                      PV.top, PV.top, PV.top, PV.top, PV.top, PV.top, PV.top, PV.top, PV.bool false, PV.str s, PV.int IntKind.i64 i, PV.int IntKind.u8 (sAt s i), PV.bool (iNe (sAt s i) 92), PV.top,
                      PV.top, PV.top, PV.top, PV.top, PV.top, PV.top, PV.top, PV.bool true, PV.int IntKind.i64 i, PV.int IntKind.i64 (iAdd IntKind.i64 i 1), PV.str s, PV.int IntKind.i64 (sLen s),
                      PV.bool (iLe (sLen s) (iAdd IntKind.i64 i 1)), PV.top, PV.top, PV.top, PV.top, PV.top, PV.top, PV.top, PV.top, PV.top, PV.top, PV.top, PV.top, PV.top, PV.top, PV.top, PV.top, PV.top,
                      PV.top, PV.top, PV.top, PV.top, PV.top, PV.top, PV.top, PV.top, PV.top, PV.top, PV.top, PV.top, PV.top, PV.top, PV.top, PV.top, PV.top, PV.top, PV.top, PV.top, PV.top, PV.top,
                      PV.top, PV.top, PV.top, PV.top, PV.top, PV.top, PV.top, PV.top, PV.top, PV.top, PV.top, PV.top, PV.top, PV.top, PV.top, PV.top, PV.top, PV.top, PV.top, PV.top, PV.top, PV.top,
                      PV.top, PV.top, PV.top, PV.top, PV.top, PV.top, PV.top, PV.top, PV.top, PV.top, PV.top, PV.top, PV.top, PV.top, PV.top],
                    Store.mk [] [] []))
                (Tr.ite (okIdx s (iAdd IntKind.i64 i 1))
                  (Tr.ite (iEq (sAt s (iAdd IntKind.i64 i 1)) 110)
                    (Tr.ite (okGrow [] [[PV.int IntKind.u8 10]] 1)
                      (Tr.ite (okNews [[PV.int IntKind.u8 10]] 1)
                        (Tr.ite (okSize [] 1)
                          (Tr.ret
                            (PExit.normal, [59, 52, 46, 33, 23, 18],
                              [PV.str s, PV.top, PV.top, PV.top, PV.sl (xApp [] [[PV.int IntKind.u8 10]]) (Tag.tok 0), PV.int IntKind.i64 (iAdd IntKind.i64 i 2), PV.top, PV.top, PV.top, PV.top, PV.top,
                                PV.top, PV.top, PV.top, PV.int IntKind.i64 i, PV.str s, PV.int IntKind.i64 (sLen s), PV.bool (iLt i (sLen s)), PV.bool true, PV.str s, PV.int IntKind.i64 i,
                                PV.int IntKind.u8 (sAt s i), PV.bool (iNe (sAt s i) 34), PV.bool true, PV.top, PV.top, PV.top, PV.top, PV.top, PV.top, PV.top, PV.top, PV.top, PV.bool false, PV.str s,
                                PV.int IntKind.i64 i, PV.int IntKind.u8 (sAt s i), PV.bool (iNe (sAt s i) 92), PV.top, PV.top, PV.top, PV.top, PV.top, PV.top, PV.top, PV.top, PV.bool false,
                                PV.int IntKind.i64 i, PV.int IntKind.i64 (iAdd IntKind.i64 i 1), PV.str s, PV.int IntKind.i64 (sLen s), PV.bool (iLe (sLen s) (iAdd IntKind.i64 i 1)), PV.bool true,
                                PV.str s, PV.int IntKind.i64 i, PV.int IntKind.i64 (iAdd IntKind.i64 i 1), PV.int IntKind.u8 (sAt s (iAdd IntKind.i64 i 1)),
                                PV.bool (iEq (sAt s (iAdd IntKind.i64 i 1)) 110), PV.sl [] Tag.full, PV.sl [[PV.int IntKind.u8 10]] Tag.full, PV.sl (xApp [] [[PV.int IntKind.u8 10]]) (Tag.tok 0),
                                PV.int IntKind.i64 i, PV.int IntKind.i64 (iAdd IntKind.i64 i 2), PV.top, PV.top, PV.top, PV.top, PV.top, PV.top, PV.top, PV.top, PV.top, PV.top, PV.top, PV.top, PV.top,
                                PV.top, PV.top, PV.top, PV.top, PV.top, PV.top, PV.top, PV.top, PV.top, PV.top, PV.top, PV.top, PV.top, PV.top, PV.top, PV.top, PV.top, PV.top, PV.top, PV.top, PV.top,
                                PV.top, PV.top, PV.top, PV.top, PV.top, PV.top, PV.top, PV.top, PV.top, PV.top, PV.top, PV.top, PV.top, PV.top, PV.top, PV.top, PV.top, PV.top, PV.top, PV.top, PV.top,
                                PV.top, PV.top, PV.top, PV.top, PV.top, PV.top, PV.top, PV.top, PV.top, PV.top],
                              Store.mk [] [(nXs (xApp [] [[PV.int IntKind.u8 10]]), 1, 5)] []))
                          Tr.fail)
                        Tr.fail)
                      Tr.fail)
                    (Tr.ite (okIdx s (iAdd IntKind.i64 i 1))
                      (Tr.ite (iEq (sAt s (iAdd IntKind.i64 i 1)) 116)
                        (Tr.ite (okGrow [] [[PV.int IntKind.u8 9]] 1)
                          (Tr.ite (okNews [[PV.int IntKind.u8 9]] 1)
                            (Tr.ite (okSize [] 1)
                              (Tr.ret
                                (PExit.normal, [70, 63, 52, 46, 33, 23, 18],
                                  [PV.str s, PV.top, PV.top, PV.top, PV.sl (xApp [] [[PV.int IntKind.u8 9]]) (Tag.tok 0), PV.int IntKind.i64 (iAdd IntKind.i64 i 2), PV.top, PV.top, PV.top, PV.top, PV.top,
                                    PV.top, PV.top, PV.top, PV.int IntKind.i64 i, PV.str s, PV.int IntKind.i64 (sLen s), PV.bool (iLt i (sLen s)), PV.bool true, PV.str s, PV.int IntKind.i64 i,
                                    PV.int IntKind.u8 (sAt s i), PV.bool (iNe (sAt s i) 34), PV.bool true, PV.top, PV.top, PV.top, PV.top, PV.top, PV.top, PV.top, PV.top, PV.top, PV.bool false, PV.str s,
                                    PV.int IntKind.i64 i, PV.int IntKind.u8 (sAt s i), PV.bool (iNe (sAt s i) 92), PV.top, PV.top, PV.top, PV.top, PV.top, PV.top, PV.top, PV.top, PV.bool false,
                                    PV.int IntKind.i64 i, PV.int IntKind.i64 (iAdd IntKind.i64 i 1), PV.str s, PV.int IntKind.i64 (sLen s), PV.bool (iLe (sLen s) (iAdd IntKind.i64 i 1)), PV.bool false,
                                    PV.str s, PV.int IntKind.i64 i, PV.int IntKind.i64 (iAdd IntKind.i64 i 1), PV.int IntKind.u8 (sAt s (iAdd IntKind.i64 i 1)),
                                    PV.bool (iEq (sAt s (iAdd IntKind.i64 i 1)) 110), PV.top, PV.top, PV.top, PV.top, PV.top, PV.bool true, PV.str s, PV.int IntKind.i64 i,
                                    PV.int IntKind.i64 (iAdd IntKind.i64 i 1), PV.int IntKind.u8 (sAt s (iAdd IntKind.i64 i 1)), PV.bool (iEq (sAt s (iAdd IntKind.i64 i 1)) 116), PV.sl [] Tag.full,
                                    PV.sl [[PV.int IntKind.u8 9]] Tag.full, PV.sl (xApp [] [[PV.int IntKind.u8 9]]) (Tag.tok 0), PV.int IntKind.i64 i, PV.int IntKind.i64 (iAdd IntKind.i64 i 2), PV.top,
                                    PV.top, PV.top, PV.top, PV.top, PV.top, PV.top, PV.top, PV.top, PV.top, PV.top, PV.top, PV.top, PV.top, PV.top, PV.top, PV.top, PV.top, PV.top, PV.top, PV.top, PV.top,
                                    PV.top, PV.top, PV.top, PV.top, PV.top, PV.top, PV.top, PV.top, PV.top, PV.top, PV.top, PV.top, PV.top, PV.top, PV.top, PV.top, PV.top, PV.top, PV.top, PV.top, PV.top,
                                    PV.top, PV.top, PV.top, PV.top, PV.top, PV.top, PV.top, PV.top, PV.top, PV.top, PV.top],
                                  Store.mk [] [(nXs (xApp [] [[PV.int IntKind.u8 9]]), 1, 5)] []))
                              Tr.fail)
                            Tr.fail)
                          Tr.fail)
                        (Tr.ite (okIdx s (iAdd IntKind.i64 i 1))
                          (Tr.ite (iEq (sAt s (iAdd IntKind.i64 i 1)) 120)
                            (Tr.ite (iLt (iAdd IntKind.i64 i 3) (sLen s))
                              (Tr.ite (okIdx s (iAdd IntKind.i64 i 2))
                                (Tr.ite (iLe 0 (rdigV (sAt s (iAdd IntKind.i64 i 2))))
                                  (Tr.ite (okIdx s (iAdd IntKind.i64 i 3))
                                    (Tr.ite (iLe 0 (rdigV (sAt s (iAdd IntKind.i64 i 3))))
                                      (Tr.ite (okIdx s (iAdd IntKind.i64 i 2))
                                        (Tr.ite (okIdx s (iAdd IntKind.i64 i 3))
                                          (Tr.ite
                                            (okGrow []
                                              [[PV.int IntKind.u8
                                                    (iWrap IntKind.u8 (iAdd IntKind.i64 (iMul IntKind.i64 (rdigV (sAt s (iAdd IntKind.i64 i 2))) 16) (rdigV (sAt s (iAdd IntKind.i64 i 3)))))]]
                                              1)
                                            (Tr.ite
                                              (okNews
                                                [[PV.int IntKind.u8
                                                      (iWrap IntKind.u8 (iAdd IntKind.i64 (iMul IntKind.i64 (rdigV (sAt s (iAdd IntKind.i64 i 2))) 16) (rdigV (sAt s (iAdd IntKind.i64 i 3)))))]]
                                                1)
                                              (Tr.ite (okSize [] 1)
                                                (Tr.ret
                                                  (PExit.normal, [117, 74, 95, 87, 80, 63, 52, 46, 33, 23, 18],
                                                    [PV.str s, PV.top, PV.top, PV.top,
                                                      PV.sl
                                                        (xApp []
                                                          [[PV.int IntKind.u8
                                                                (iWrap IntKind.u8 (iAdd IntKind.i64 (iMul IntKind.i64 (rdigV (sAt s (iAdd IntKind.i64 i 2))) 16) (rdigV (sAt s (iAdd IntKind.i64 i 3)))))]])
                                                        (Tag.tok 0),
                                                      PV.int IntKind.i64 (iAdd IntKind.i64 i 4), PV.top, PV.top, PV.top, PV.top, PV.top, PV.top, PV.top, PV.top, PV.int IntKind.i64 i, PV.str s,
                                                      PV.int IntKind.i64 (sLen s), PV.bool (iLt i (sLen s)), PV.bool true, PV.str s, PV.int IntKind.i64 i, PV.int IntKind.u8 (sAt s i),
                                                      PV.bool (iNe (sAt s i) 34), PV.bool true, PV.top, PV.top, PV.top, PV.top, PV.top, PV.top, PV.top, PV.top, PV.top, PV.bool false, PV.str s,
                                                      PV.int IntKind.i64 i, PV.int IntKind.u8 (sAt s i), PV.bool (iNe (sAt s i) 92), PV.top, PV.top, PV.top, PV.top, PV.top, PV.top, PV.top, PV.top,
                                                      PV.bool false, PV.int IntKind.i64 i, PV.int IntKind.i64 (iAdd IntKind.i64 i 1), PV.str s, PV.int IntKind.i64 (sLen s),
                                                      PV.bool (iLe (sLen s) (iAdd IntKind.i64 i 1)), PV.bool false, PV.str s, PV.int IntKind.i64 i, PV.int IntKind.i64 (iAdd IntKind.i64 i 1),
                                                      PV.int IntKind.u8 (sAt s (iAdd IntKind.i64 i 1)), PV.bool (iEq (sAt s (iAdd IntKind.i64 i 1)) 110), PV.top, PV.top, PV.top, PV.top, PV.top,
                                                      PV.bool false, PV.str s, PV.int IntKind.i64 i, PV.int IntKind.i64 (iAdd IntKind.i64 i 1), PV.int IntKind.u8 (sAt s (iAdd IntKind.i64 i 1)),
                                                      PV.bool (iEq (sAt s (iAdd IntKind.i64 i 1)) 116), PV.top, PV.top, PV.top, PV.top, PV.top, PV.bool true, PV.str s, PV.int IntKind.i64 i,
                                                      PV.int IntKind.i64 (iAdd IntKind.i64 i 1), PV.int IntKind.u8 (sAt s (iAdd IntKind.i64 i 1)), PV.bool (iEq (sAt s (iAdd IntKind.i64 i 1)) 120),
                                                      PV.bool true, PV.int IntKind.i64 i, PV.int IntKind.i64 (iAdd IntKind.i64 i 3), PV.str s, PV.int IntKind.i64 (sLen s),
                                                      PV.bool (iLt (iAdd IntKind.i64 i 3) (sLen s)), PV.bool (iLt (iAdd IntKind.i64 i 3) (sLen s)), PV.bool true, PV.str s, PV.int IntKind.i64 i,
                                                      PV.int IntKind.i64 (iAdd IntKind.i64 i 2), PV.int IntKind.u8 (sAt s (iAdd IntKind.i64 i 2)),
                                                      PV.int IntKind.i64 (rdigV (sAt s (iAdd IntKind.i64 i 2))), PV.bool (iLe 0 (rdigV (sAt s (iAdd IntKind.i64 i 2)))),
                                                      PV.bool (iLe 0 (rdigV (sAt s (iAdd IntKind.i64 i 2)))), PV.bool true, PV.str s, PV.int IntKind.i64 i, PV.int IntKind.i64 (iAdd IntKind.i64 i 3),
                                                      PV.int IntKind.u8 (sAt s (iAdd IntKind.i64 i 3)), PV.int IntKind.i64 (rdigV (sAt s (iAdd IntKind.i64 i 3))),
                                                      PV.bool (iLe 0 (rdigV (sAt s (iAdd IntKind.i64 i 3)))), PV.bool (iLe 0 (rdigV (sAt s (iAdd IntKind.i64 i 3)))), PV.sl [] Tag.full, PV.str s,
                                                      PV.int IntKind.i64 i, PV.int IntKind.i64 (iAdd IntKind.i64 i 2), PV.int IntKind.u8 (sAt s (iAdd IntKind.i64 i 2)),
                                                      PV.int IntKind.i64 (rdigV (sAt s (iAdd IntKind.i64 i 2))), PV.int IntKind.i64 (iMul IntKind.i64 (rdigV (sAt s (iAdd IntKind.i64 i 2))) 16), PV.str s,
                                                      PV.int IntKind.i64 i, PV.int IntKind.i64 (iAdd IntKind.i64 i 3), PV.int IntKind.u8 (sAt s (iAdd IntKind.i64 i 3)),
                                                      PV.int IntKind.i64 (rdigV (sAt s (iAdd IntKind.i64 i 3))),
                                                      PV.int IntKind.i64 (iAdd IntKind.i64 (iMul IntKind.i64 (rdigV (sAt s (iAdd IntKind.i64 i 2))) 16) (rdigV (sAt s (iAdd IntKind.i64 i 3)))),
                                                      PV.int IntKind.u8
                                                        (iWrap IntKind.u8 (iAdd IntKind.i64 (iMul IntKind.i64 (rdigV (sAt s (iAdd IntKind.i64 i 2))) 16) (rdigV (sAt s (iAdd IntKind.i64 i 3))))),
                                                      PV.sl
                                                        [[PV.int IntKind.u8
                                                              (iWrap IntKind.u8 (iAdd IntKind.i64 (iMul IntKind.i64 (rdigV (sAt s (iAdd IntKind.i64 i 2))) 16) (rdigV (sAt s (iAdd IntKind.i64 i 3)))))]]
                                                        Tag.full,
                                                      PV.sl
                                                        (xApp []
                                                          [[PV.int IntKind.u8
                                                                (iWrap IntKind.u8 (iAdd IntKind.i64 (iMul IntKind.i64 (rdigV (sAt s (iAdd IntKind.i64 i 2))) 16) (rdigV (sAt s (iAdd IntKind.i64 i 3)))))]])
                                                        (Tag.tok 0),
                                                      PV.int IntKind.i64 i, PV.int IntKind.i64 (iAdd IntKind.i64 i 4), PV.top, PV.top, PV.top, PV.top, PV.top, PV.top, PV.top],
                                                    Store.mk []
                                                      [(nXs
                                                            (xApp []
                                                              [[PV.int IntKind.u8
                                                                    (iWrap IntKind.u8
                                                                      (iAdd IntKind.i64 (iMul IntKind.i64 (rdigV (sAt s (iAdd IntKind.i64 i 2))) 16) (rdigV (sAt s (iAdd IntKind.i64 i 3)))))]]),
                                                          1, 5)]
                                                      []))
                                                Tr.fail)
                                              Tr.fail)
                                            Tr.fail)
                                          Tr.fail)
                                        Tr.fail)
                                      (Tr.ite (okIdx s (iAdd IntKind.i64 i 1))
                                        (Tr.ite (okGrow [] [[PV.int IntKind.u8 (sAt s (iAdd IntKind.i64 i 1))]] 1)
                                          (Tr.ite (okNews [[PV.int IntKind.u8 (sAt s (iAdd IntKind.i64 i 1))]] 1)
                                            (Tr.ite (okSize [] 1)
                                              (Tr.ret
                                                (PExit.normal, [29, 74, 95, 87, 80, 63, 52, 46, 33, 23, 18],
                                                  [PV.str s, PV.top, PV.top, PV.top, PV.sl (xApp [] [[PV.int IntKind.u8 (sAt s (iAdd IntKind.i64 i 1))]]) (Tag.tok 0),
                                                    PV.int IntKind.i64 (iAdd IntKind.i64 i 2), PV.top, PV.top, PV.top, PV.top, PV.top, PV.top, PV.top, PV.top, PV.int IntKind.i64 i, PV.str s,
                                                    PV.int IntKind.i64 (sLen s), PV.bool (iLt i (sLen s)), PV.bool true, PV.str s, PV.int IntKind.i64 i, PV.int IntKind.u8 (sAt s i),
                                                    PV.bool (iNe (sAt s i) 34), PV.bool true, PV.sl [] Tag.full, PV.str s, PV.int IntKind.i64 i, PV.int IntKind.i64 (iAdd IntKind.i64 i 1),
                                                    PV.int IntKind.u8 (sAt s (iAdd IntKind.i64 i 1)), PV.sl [[PV.int IntKind.u8 (sAt s (iAdd IntKind.i64 i 1))]] Tag.full,
                                                    PV.sl (xApp [] [[PV.int IntKind.u8 (sAt s (iAdd IntKind.i64 i 1))]]) (Tag.tok 0), PV.int IntKind.i64 i, PV.int IntKind.i64 (iAdd IntKind.i64 i 2),
                                                    PV.bool false, PV.str s, PV.int IntKind.i64 i, PV.int IntKind.u8 (sAt s i), PV.bool (iNe (sAt s i) 92), PV.top, PV.top, PV.top, PV.top, PV.top, PV.top,
                                                    PV.top, PV.top, PV.bool false, PV.int IntKind.i64 i, PV.int IntKind.i64 (iAdd IntKind.i64 i 1), PV.str s, PV.int IntKind.i64 (sLen s),
                                                    PV.bool (iLe (sLen s) (iAdd IntKind.i64 i 1)), PV.bool false, PV.str s, PV.int IntKind.i64 i, PV.int IntKind.i64 (iAdd IntKind.i64 i 1),
                                                    PV.int IntKind.u8 (sAt s (iAdd IntKind.i64 i 1)), PV.bool (iEq (sAt s (iAdd IntKind.i64 i 1)) 110), PV.top, PV.top, PV.top, PV.top, PV.top,
                                                    PV.bool false, PV.str s, PV.int IntKind.i64 i, PV.int IntKind.i64 (iAdd IntKind.i64 i 1), PV.int IntKind.u8 (sAt s (iAdd IntKind.i64 i 1)),
                                                    PV.bool (iEq (sAt s (iAdd IntKind.i64 i 1)) 116), PV.top, PV.top, PV.top, PV.top, PV.top, PV.bool false, PV.str s, PV.int IntKind.i64 i,
                                                    PV.int IntKind.i64 (iAdd IntKind.i64 i 1), PV.int IntKind.u8 (sAt s (iAdd IntKind.i64 i 1)), PV.bool (iEq (sAt s (iAdd IntKind.i64 i 1)) 120),
                                                    PV.bool true, PV.int IntKind.i64 i, PV.int IntKind.i64 (iAdd IntKind.i64 i 3), PV.str s, PV.int IntKind.i64 (sLen s),
                                                    PV.bool (iLt (iAdd IntKind.i64 i 3) (sLen s)), PV.bool (iLt (iAdd IntKind.i64 i 3) (sLen s)), PV.bool true, PV.str s, PV.int IntKind.i64 i,
                                                    PV.int IntKind.i64 (iAdd IntKind.i64 i 2), PV.int IntKind.u8 (sAt s (iAdd IntKind.i64 i 2)), PV.int IntKind.i64 (rdigV (sAt s (iAdd IntKind.i64 i 2))),
                                                    PV.bool (iLe 0 (rdigV (sAt s (iAdd IntKind.i64 i 2)))), PV.bool (iLe 0 (rdigV (sAt s (iAdd IntKind.i64 i 2)))), PV.bool true, PV.str s,
                                                    PV.int IntKind.i64 i, PV.int IntKind.i64 (iAdd IntKind.i64 i 3), PV.int IntKind.u8 (sAt s (iAdd IntKind.i64 i 3)),
                                                    PV.int IntKind.i64 (rdigV (sAt s (iAdd IntKind.i64 i 3))), PV.bool (iLe 0 (rdigV (sAt s (iAdd IntKind.i64 i 3)))),
                                                    PV.bool (iLe 0 (rdigV (sAt s (iAdd IntKind.i64 i 3)))), PV.top, PV.top, PV.top, PV.top, PV.top, PV.top, PV.top, PV.top, PV.top, PV.top, PV.top, PV.top,
                                                    PV.top, PV.top, PV.top, PV.top, PV.top, PV.top, PV.top, PV.top, PV.top, PV.top, PV.top, PV.top, PV.top],
                                                  Store.mk [] [(nXs (xApp [] [[PV.int IntKind.u8 (sAt s (iAdd IntKind.i64 i 1))]]), 1, 5)] []))
                                              Tr.fail)
                                            Tr.fail)
                                          Tr.fail)
                                        Tr.fail))
                                    Tr.fail)
                                  (Tr.ite (okIdx s (iAdd IntKind.i64 i 1))
                                    (Tr.ite (okGrow [] [[PV.int IntKind.u8 (sAt s (iAdd IntKind.i64 i 1))]] 1)
                                      (Tr.ite (okNews [[PV.int IntKind.u8 (sAt s (iAdd IntKind.i64 i 1))]] 1)
                                        (Tr.ite (okSize [] 1)
                                          (Tr.ret
                                            (PExit.normal, [29, 74, 102, 95, 87, 80, 63, 52, 46, 33, 23, 18],
                                              [PV.str s, PV.top, PV.top, PV.top, PV.sl (xApp [] [[PV.int IntKind.u8 (sAt s (iAdd IntKind.i64 i 1))]]) (Tag.tok 0),
                                                PV.int IntKind.i64 (iAdd IntKind.i64 i 2), PV.top, PV.top, PV.top, PV.top, PV.top, PV.top, PV.top, PV.top, PV.int IntKind.i64 i, PV.str s,
                                                PV.int IntKind.i64 (sLen s), PV.bool (iLt i (sLen s)), PV.bool true, PV.str s, PV.int IntKind.i64 i, PV.int IntKind.u8 (sAt s i),
                                                PV.bool (iNe (sAt s i) 34), PV.bool true, PV.sl [] Tag.full, PV.str s, PV.int IntKind.i64 i, PV.int IntKind.i64 (iAdd IntKind.i64 i 1),
                                                PV.int IntKind.u8 (sAt s (iAdd IntKind.i64 i 1)), PV.sl [[PV.int IntKind.u8 (sAt s (iAdd IntKind.i64 i 1))]] Tag.full,
                                                PV.sl (xApp [] [[PV.int IntKind.u8 (sAt s (iAdd IntKind.i64 i 1))]]) (Tag.tok 0), PV.int IntKind.i64 i, PV.int IntKind.i64 (iAdd IntKind.i64 i 2),
                                                PV.bool false, PV.str s, PV.int IntKind.i64 i, PV.int IntKind.u8 (sAt s i), PV.bool (iNe (sAt s i) 92), PV.top, PV.top, PV.top, PV.top, PV.top, PV.top,
                                                PV.top, PV.top, PV.bool false, PV.int IntKind.i64 i, PV.int IntKind.i64 (iAdd IntKind.i64 i 1), PV.str s, PV.int IntKind.i64 (sLen s),
                                                PV.bool (iLe (sLen s) (iAdd IntKind.i64 i 1)), PV.bool false, PV.str s, PV.int IntKind.i64 i, PV.int IntKind.i64 (iAdd IntKind.i64 i 1),
                                                PV.int IntKind.u8 (sAt s (iAdd IntKind.i64 i 1)), PV.bool (iEq (sAt s (iAdd IntKind.i64 i 1)) 110), PV.top, PV.top, PV.top, PV.top, PV.top, PV.bool false,
                                                PV.str s, PV.int IntKind.i64 i, PV.int IntKind.i64 (iAdd IntKind.i64 i 1), PV.int IntKind.u8 (sAt s (iAdd IntKind.i64 i 1)),
                                                PV.bool (iEq (sAt s (iAdd IntKind.i64 i 1)) 116), PV.top, PV.top, PV.top, PV.top, PV.top, PV.bool false, PV.str s, PV.int IntKind.i64 i,
                                                PV.int IntKind.i64 (iAdd IntKind.i64 i 1), PV.int IntKind.u8 (sAt s (iAdd IntKind.i64 i 1)), PV.bool (iEq (sAt s (iAdd IntKind.i64 i 1)) 120), PV.bool true,
                                                PV.int IntKind.i64 i, PV.int IntKind.i64 (iAdd IntKind.i64 i 3), PV.str s, PV.int IntKind.i64 (sLen s), PV.bool (iLt (iAdd IntKind.i64 i 3) (sLen s)),
                                                PV.bool (iLt (iAdd IntKind.i64 i 3) (sLen s)), PV.bool true, PV.str s, PV.int IntKind.i64 i, PV.int IntKind.i64 (iAdd IntKind.i64 i 2),
                                                PV.int IntKind.u8 (sAt s (iAdd IntKind.i64 i 2)), PV.int IntKind.i64 (rdigV (sAt s (iAdd IntKind.i64 i 2))),
                                                PV.bool (iLe 0 (rdigV (sAt s (iAdd IntKind.i64 i 2)))), PV.bool (iLe 0 (rdigV (sAt s (iAdd IntKind.i64 i 2)))), PV.bool false, PV.tup [], PV.tup [],
                                                PV.tup [], PV.tup [], PV.tup [], PV.tup [], PV.bool false, PV.top, PV.top, PV.top, PV.top, PV.top, PV.top, PV.top, PV.top, PV.top, PV.top, PV.top, PV.top,
                                                PV.top, PV.top, PV.top, PV.top, PV.top, PV.top, PV.top, PV.top, PV.top, PV.top, PV.top, PV.top, PV.top],
                                              Store.mk [] [(nXs (xApp [] [[PV.int IntKind.u8 (sAt s (iAdd IntKind.i64 i 1))]]), 1, 5)] []))
                                          Tr.fail)
                                        Tr.fail)
                                      Tr.fail)
                                    Tr.fail))
                                Tr.fail)
                              (Tr.ite (okIdx s (iAdd IntKind.i64 i 1))
                                (Tr.ite (okGrow [] [[PV.int IntKind.u8 (sAt s (iAdd IntKind.i64 i 1))]] 1)
                                  (Tr.ite (okNews [[PV.int IntKind.u8 (sAt s (iAdd IntKind.i64 i 1))]] 1)
                                    (Tr.ite (okSize [] 1)
                                      (Tr.ret
                                        (PExit.normal, [29, 74, 102, 95, 94, 87, 80, 63, 52, 46, 33, 23, 18],
                                          [PV.str s, PV.top, PV.top, PV.top, PV.sl (xApp [] [[PV.int IntKind.u8 (sAt s (iAdd IntKind.i64 i 1))]]) (Tag.tok 0), PV.int IntKind.i64 (iAdd IntKind.i64 i 2),
                                            PV.top, PV.top, PV.top, PV.top, PV.top, PV.top, PV.top, PV.top, PV.int IntKind.i64 i, PV.str s, PV.int IntKind.i64 (sLen s), PV.bool (iLt i (sLen s)),
                                            PV.bool true, PV.str s, PV.int IntKind.i64 i, PV.int IntKind.u8 (sAt s i), PV.bool (iNe (sAt s i) 34), PV.bool true, PV.sl [] Tag.full, PV.str s,
                                            PV.int IntKind.i64 i, PV.int IntKind.i64 (iAdd IntKind.i64 i 1), PV.int IntKind.u8 (sAt s (iAdd IntKind.i64 i 1)),
                                            PV.sl [[PV.int IntKind.u8 (sAt s (iAdd IntKind.i64 i 1))]] Tag.full, PV.sl (xApp [] [[PV.int IntKind.u8 (sAt s (iAdd IntKind.i64 i 1))]]) (Tag.tok 0),
                                            PV.int IntKind.i64 i, PV.int IntKind.i64 (iAdd IntKind.i64 i 2), PV.bool false, PV.str s, PV.int IntKind.i64 i, PV.int IntKind.u8 (sAt s i),
                                            PV.bool (iNe (sAt s i) 92), PV.top, PV.top, PV.top, PV.top, PV.top, PV.top, PV.top, PV.top, PV.bool false, PV.int IntKind.i64 i,
                                            PV.int IntKind.i64 (iAdd IntKind.i64 i 1), PV.str s, PV.int IntKind.i64 (sLen s), PV.bool (iLe (sLen s) (iAdd IntKind.i64 i 1)), PV.bool false, PV.str s,
                                            PV.int IntKind.i64 i, PV.int IntKind.i64 (iAdd IntKind.i64 i 1), PV.int IntKind.u8 (sAt s (iAdd IntKind.i64 i 1)),
                                            PV.bool (iEq (sAt s (iAdd IntKind.i64 i 1)) 110), PV.top, PV.top, PV.top, PV.top, PV.top, PV.bool false, PV.str s, PV.int IntKind.i64 i,
                                            PV.int IntKind.i64 (iAdd IntKind.i64 i 1), PV.int IntKind.u8 (sAt s (iAdd IntKind.i64 i 1)), PV.bool (iEq (sAt s (iAdd IntKind.i64 i 1)) 116), PV.top, PV.top,
                                            PV.top, PV.top, PV.top, PV.bool false, PV.str s, PV.int IntKind.i64 i, PV.int IntKind.i64 (iAdd IntKind.i64 i 1),
                                            PV.int IntKind.u8 (sAt s (iAdd IntKind.i64 i 1)), PV.bool (iEq (sAt s (iAdd IntKind.i64 i 1)) 120), PV.bool true, PV.int IntKind.i64 i,
                                            PV.int IntKind.i64 (iAdd IntKind.i64 i 3), PV.str s, PV.int IntKind.i64 (sLen s), PV.bool (iLt (iAdd IntKind.i64 i 3) (sLen s)),
                                            PV.bool (iLt (iAdd IntKind.i64 i 3) (sLen s)), PV.bool false, PV.tup [], PV.tup [], PV.tup [], PV.tup [], PV.tup [], PV.tup [], PV.bool false, PV.bool false,
                                            PV.tup [], PV.tup [], PV.tup [], PV.tup [], PV.tup [], PV.tup [], PV.bool false, PV.top, PV.top, PV.top, PV.top, PV.top, PV.top, PV.top, PV.top, PV.top, PV.top,
                                            PV.top, PV.top, PV.top, PV.top, PV.top, PV.top, PV.top, PV.top, PV.top, PV.top, PV.top, PV.top, PV.top, PV.top, PV.top],
                                          Store.mk [] [(nXs (xApp [] [[PV.int IntKind.u8 (sAt s (iAdd IntKind.i64 i 1))]]), 1, 5)] []))
                                      Tr.fail)
                                    Tr.fail)
                                  Tr.fail)
                                Tr.fail))
                            (Tr.ite (okIdx s (iAdd IntKind.i64 i 1))
                              (Tr.ite (okGrow [] [[PV.int IntKind.u8 (sAt s (iAdd IntKind.i64 i 1))]] 1)
                                (Tr.ite (okNews [[PV.int IntKind.u8 (sAt s (iAdd IntKind.i64 i 1))]] 1)
                                  (Tr.ite (okSize [] 1)
                                    (Tr.ret
                                      (PExit.normal, [29, 74, 102, 95, 94, 87, 86, 80, 63, 52, 46, 33, 23, 18],
                                        [PV.str s, PV.top, PV.top, PV.top, PV.sl (xApp [] [[PV.int IntKind.u8 (sAt s (iAdd IntKind.i64 i 1))]]) (Tag.tok 0), PV.int IntKind.i64 (iAdd IntKind.i64 i 2),
                                          PV.top, PV.top, PV.top, PV.top, PV.top, PV.top, PV.top, PV.top, PV.int IntKind.i64 i, PV.str s, PV.int IntKind.i64 (sLen s), PV.bool (iLt i (sLen s)),
                                          PV.bool true, PV.str s, PV.int IntKind.i64 i, PV.int IntKind.u8 (sAt s i), PV.bool (iNe (sAt s i) 34), PV.bool true, PV.sl [] Tag.full, PV.str s,
                                          PV.int IntKind.i64 i, PV.int IntKind.i64 (iAdd IntKind.i64 i 1), PV.int IntKind.u8 (sAt s (iAdd IntKind.i64 i 1)),
                                          PV.sl [[PV.int IntKind.u8 (sAt s (iAdd IntKind.i64 i 1))]] Tag.full, PV.sl (xApp [] [[PV.int IntKind.u8 (sAt s (iAdd IntKind.i64 i 1))]]) (Tag.tok 0),
                                          PV.int IntKind.i64 i, PV.int IntKind.i64 (iAdd IntKind.i64 i 2), PV.bool false, PV.str s, PV.int IntKind.i64 i, PV.int IntKind.u8 (sAt s i),
                                          PV.bool (iNe (sAt s i) 92), PV.top, PV.top, PV.top, PV.top, PV.top, PV.top, PV.top, PV.top, PV.bool false, PV.int IntKind.i64 i,
                                          PV.int IntKind.i64 (iAdd IntKind.i64 i 1), PV.str s, PV.int IntKind.i64 (sLen s), PV.bool (iLe (sLen s) (iAdd IntKind.i64 i 1)), PV.bool false, PV.str s,
                                          PV.int IntKind.i64 i, PV.int IntKind.i64 (iAdd IntKind.i64 i 1), PV.int IntKind.u8 (sAt s (iAdd IntKind.i64 i 1)),
                                          PV.bool (iEq (sAt s (iAdd IntKind.i64 i 1)) 110), PV.top, PV.top, PV.top, PV.top, PV.top, PV.bool false, PV.str s, PV.int IntKind.i64 i,
                                          PV.int IntKind.i64 (iAdd IntKind.i64 i 1), PV.int IntKind.u8 (sAt s (iAdd IntKind.i64 i 1)), PV.bool (iEq (sAt s (iAdd IntKind.i64 i 1)) 116), PV.top, PV.top,
                                          PV.top, PV.top, PV.top, PV.bool false, PV.str s, PV.int IntKind.i64 i, PV.int IntKind.i64 (iAdd IntKind.i64 i 1),
                                          PV.int IntKind.u8 (sAt s (iAdd IntKind.i64 i 1)), PV.bool (iEq (sAt s (iAdd IntKind.i64 i 1)) 120), PV.bool false, PV.tup [], PV.tup [], PV.tup [], PV.tup [],
                                          PV.tup [], PV.bool false, PV.bool false, PV.tup [], PV.tup [], PV.tup [], PV.tup [], PV.tup [], PV.tup [], PV.bool false, PV.bool false, PV.tup [], PV.tup [],
                                          PV.tup [], PV.tup [], PV.tup [], PV.tup [], PV.bool false, PV.top, PV.top, PV.top, PV.top, PV.top, PV.top, PV.top, PV.top, PV.top, PV.top, PV.top, PV.top, PV.top,
                                          PV.top, PV.top, PV.top, PV.top, PV.top, PV.top, PV.top, PV.top, PV.top, PV.top, PV.top, PV.top],
                                        Store.mk [] [(nXs (xApp [] [[PV.int IntKind.u8 (sAt s (iAdd IntKind.i64 i 1))]]), 1, 5)] []))
                                    Tr.fail)
                                  Tr.fail)
                                Tr.fail)
                              Tr.fail))
                          Tr.fail))
                      Tr.fail))
                  Tr.fail)))
            Tr.fail)
          (Tr.ret
            (PExit.exit 0, [23, 18],
              [PV.str s, PV.top, PV.top, PV.top, PV.sl [] Tag.full, PV.int IntKind.i64 i, PV.top, PV.top, PV.top, PV.top, PV.top, PV.top, PV.top, PV.top, PV.int IntKind.i64 i, PV.str s,
                PV.int IntKind.i64 (sLen s), PV.bool (iLt i (sLen s)), PV.bool true, PV.str s, PV.int IntKind.i64 i, PV.int IntKind.u8 (sAt s i), PV.bool (iNe (sAt s i) 34), PV.bool false, PV.top, PV.top,
                PV.top, PV.top, PV.top, PV.top, PV.top, PV.top, PV.top, PV.top, PV.top, PV.top, PV.top, PV.top, PV.top, PV.top, PV.top, PV.top, PV.top, PV.top, PV.top, PV.top, PV.top, PV.top, PV.top,
                PV.top, PV.top, PV.top, PV.top, PV.top, PV.top, PV.top, PV.top, PV.top, PV.top, PV.top, PV.top, PV.top, PV.top, PV.top, PV.top, PV.top, PV.top, PV.top, PV.top, PV.top, PV.top, PV.top,
                PV.top, PV.top, PV.top, PV.top, PV.top, PV.top, PV.top, PV.top, PV.top, PV.top, PV.top, PV.top, PV.top, PV.top, PV.top, PV.top, PV.top, PV.top, PV.top, PV.top, PV.top, PV.top, PV.top,
                PV.top, PV.top, PV.top, PV.top, PV.top, PV.top, PV.top, PV.top, PV.top, PV.top, PV.top, PV.top, PV.top, PV.top, PV.top, PV.top, PV.top, PV.top, PV.top, PV.top, PV.top, PV.top, PV.top,
                PV.top, PV.top, PV.top, PV.top, PV.top, PV.top, PV.top, PV.top, PV.top, PV.top],
              Store.mk [] [] [])))
        Tr.fail)
      (Tr.ret
        (PExit.exit 0, [23, 18],
          [PV.str s, PV.top, PV.top, PV.top, PV.sl [] Tag.full, PV.int IntKind.i64 i, PV.top, PV.top, PV.top, PV.top, PV.top, PV.top, PV.top, PV.top, PV.int IntKind.i64 i, PV.str s,
            PV.int IntKind.i64 (sLen s), PV.bool (iLt i (sLen s)), PV.bool false, PV.tup [], PV.tup [], PV.tup [], PV.tup [], PV.bool false, PV.top, PV.top, PV.top, PV.top, PV.top, PV.top, PV.top, PV.top,
            PV.top, PV.top, PV.top, PV.top, PV.top, PV.top, PV.top, PV.top, PV.top, PV.top, PV.top, PV.top, PV.top, PV.top, PV.top, PV.top, PV.top, PV.top, PV.top, PV.top, PV.top, PV.top, PV.top, PV.top,
            PV.top, PV.top, PV.top, PV.top, PV.top, PV.top, PV.top, PV.top, PV.top, PV.top, PV.top, PV.top, PV.top, PV.top, PV.top, PV.top, PV.top, PV.top, PV.top, PV.top, PV.top, PV.top, PV.top, PV.top,
            PV.top, PV.top, PV.top, PV.top, PV.top, PV.top, PV.top, PV.top, PV.top, PV.top, PV.top, PV.top, PV.top, PV.top, PV.top, PV.top, PV.top, PV.top, PV.top, PV.top, PV.top, PV.top, PV.top, PV.top,
            PV.top, PV.top, PV.top, PV.top, PV.top, PV.top, PV.top, PV.top, PV.top, PV.top, PV.top, PV.top, PV.top, PV.top, PV.top, PV.top, PV.top, PV.top, PV.top, PV.top, PV.top, PV.top, PV.top, PV.top],
          Store.mk [] [] []))) (by kernel_rfl) ?_
  cases r with
  | nil =>
    have hl := congrArg List.length hr
    simp at hl
    obtain ⟨rfl, rfl, rfl⟩ := hstop rfl
    exact Tr.all_f (by simp; omega) ⟨rfl, by simp [Weak, mk, mkFrom, look], rfl⟩
  | cons c t =>
    obtain ⟨hv, hd1, hl1⟩ := drop_get hr
    have hb1 : True := trivial
    have a0 : sAt s i = c.toNat := sAt_get hv
    have k0 : okIdx s i = true := okIdx_get (by omega) hv
    have n1 : (i + 1).toNat = i.toNat + 1 := by omega
    have n2 : (i + 2).toNat = i.toNat + 1 + 1 := by omega
    have n3 : (i + 3).toNat = i.toNat + 1 + 1 + 1 := by omega
    have w1 : iAdd .i64 i 1 = i + 1 := wrap_i64 (by omega)
    have w2 : iAdd .i64 i 2 = i + 2 := wrap_i64 (by omega)
    have w3 : iAdd .i64 i 3 = i + 3 := wrap_i64 (by omega)
    have w4 : iAdd .i64 i 4 = i + 4 := wrap_i64 (by omega)
    simp only [a0, w1, w2, w3, w4]
    refine Tr.all_t (by simp; omega) <| Tr.all_t k0 ?_
    by_cases c34 : c = 34
    · obtain ⟨rfl, rfl, rfl⟩ := hstop (by simp [rS, c34])
      exact Tr.all_f (iNe_byte_eq (k := 34) c34) ⟨rfl, by simp [Weak, mk, mkFrom, look], rfl⟩
    · refine Tr.all_t (iNe_byte_ne (k := 34) c34) <| Tr.all_t k0 ?_
      by_cases c92 : c = 92
      · refine Tr.all_f (iNe_byte_eq (k := 92) c92) ?_
        cases t with
        | nil =>
          obtain ⟨rfl, rfl, rfl⟩ := hbad (by simp [rS, c92])
          exact Tr.all_t (by simp at hl1 ⊢; omega) ⟨rfl, by simp [Weak, mk, mkFrom, look], rfl⟩
        | cons e' u =>
          obtain ⟨hv1, hd2, hl2⟩ := drop_get hd1
          have a1 : sAt s (i + 1) = e'.toNat := sAt_get (by rw [n1]; exact hv1)
          have k1 : okIdx s (i + 1) = true := okIdx_get (by omega) (by rw [n1]; exact hv1)
          simp only [a1]
          refine Tr.all_f (by simp; omega) <| Tr.all_t k1 ?_
          by_cases e110 : e' = 110
          · refine Tr.all_t (iEq_byte_eq (k := 110) e110) ?_
            refine Tr.all_t (by simp) <| Tr.all_t (by simp [one]) <| Tr.all_t (by simp) ?_
            simp only [xApp_nil1 10 (n := 10) rfl, nXs_bytes]
            refine LDoes.into ?_ (hone 10 2 (by simp [rS, c92, e110]))
            simp [Weak, mk, mkFrom, look]
          · refine Tr.all_f (iEq_byte_ne (k := 110) e110) <| Tr.all_t k1 ?_
            by_cases e116 : e' = 116
            · refine Tr.all_t (iEq_byte_eq (k := 116) e116) ?_
              refine Tr.all_t (by simp) <| Tr.all_t (by simp [one]) <| Tr.all_t (by simp) ?_
              simp only [xApp_nil1 9 (n := 9) rfl, nXs_bytes]
              refine LDoes.into ?_ (hone 9 2 (by simp [rS, c92, e110, e116]))
              simp [Weak, mk, mkFrom, look]
            · refine Tr.all_f (iEq_byte_ne (k := 116) e116) <| Tr.all_t k1 ?_
              by_cases e120 : e' = 120
              · refine Tr.all_t (iEq_byte_eq (k := 120) e120) ?_
                cases u with
                | nil =>
                  refine Tr.all_f (by simp at hl2 ⊢; omega) <| Tr.all_t k1 ?_
                  refine Tr.all_t (by simp) <| Tr.all_t (by simp [one]) <| Tr.all_t (by simp) ?_
                  simp only [xApp_nil1 e' rfl, nXs_bytes]
                  refine LDoes.into ?_ (hone e' 2 (by simp [rS, c92, e110, e116, e120, hexOk]))
                  simp [Weak, mk, mkFrom, look]
                | cons h1 u =>
                  obtain ⟨hv2, hd3, hl3⟩ := drop_get hd2
                  cases u with
                  | nil =>
                    refine Tr.all_f (by simp at hl3 ⊢; omega) <| Tr.all_t k1 ?_
                    refine Tr.all_t (by simp) <| Tr.all_t (by simp [one]) <| Tr.all_t (by simp) ?_
                    simp only [xApp_nil1 e' rfl, nXs_bytes]
                    refine LDoes.into ?_ (hone e' 2 (by simp [rS, c92, e110, e116, e120, hexOk]))
                    simp [Weak, mk, mkFrom, look]
                  | cons h2 u =>
                    obtain ⟨hv3, hd4, hl4⟩ := drop_get hd3
                    have a2 : sAt s (i + 2) = h1.toNat := sAt_get (by rw [n2]; exact hv2)
                    have k2 : okIdx s (i + 2) = true := okIdx_get (by omega) (by rw [n2]; exact hv2)
                    have a3 : sAt s (i + 3) = h2.toNat := sAt_get (by rw [n3]; exact hv3)
                    have k3 : okIdx s (i + 3) = true := okIdx_get (by omega) (by rw [n3]; exact hv3)
                    simp only [a2, a3]
                    refine Tr.all_t (by simp; omega) <| Tr.all_t k2 ?_
                    by_cases g1 : 0 ≤ rdigV h1.toNat
                    · refine Tr.all_t (by simpa using g1) <| Tr.all_t k3 ?_
                      by_cases g2 : 0 ≤ rdigV h2.toNat
                      · refine Tr.all_t (by simpa using g2) <| Tr.all_t k2 <| Tr.all_t k3 ?_
                        refine Tr.all_t (by simp) <| Tr.all_t (by simp [one]) <| Tr.all_t (by simp) ?_
                        simp only [xApp_nil1 (hexW (h1 :: h2 :: u)) hexW_eq, nXs_bytes]
                        refine LDoes.into ?_ (hone (hexW (h1 :: h2 :: u)) 4 (by simp [rS, c92, e110, e116, e120, hexOk, g1, g2]))
                        simp [Weak, mk, mkFrom, look]
                      · refine Tr.all_f (by simpa using g2) <| Tr.all_t k1 ?_
                        refine Tr.all_t (by simp) <| Tr.all_t (by simp [one]) <| Tr.all_t (by simp) ?_
                        simp only [xApp_nil1 e' rfl, nXs_bytes]
                        refine LDoes.into ?_ (hone e' 2 (by simp [rS, c92, e110, e116, e120, hexOk, g1, g2]))
                        simp [Weak, mk, mkFrom, look]
                    · refine Tr.all_f (by simpa using g1) <| Tr.all_t k1 ?_
                      refine Tr.all_t (by simp) <| Tr.all_t (by simp [one]) <| Tr.all_t (by simp) ?_
                      simp only [xApp_nil1 e' rfl, nXs_bytes]
                      refine LDoes.into ?_ (hone e' 2 (by simp [rS, c92, e110, e116, e120, hexOk, g1]))
                      simp [Weak, mk, mkFrom, look]
              · refine Tr.all_f (iEq_byte_ne (k := 120) e120) <| Tr.all_t k1 ?_
                refine Tr.all_t (by simp) <| Tr.all_t (by simp [one]) <| Tr.all_t (by simp) ?_
                simp only [xApp_nil1 e' rfl, nXs_bytes]
                refine LDoes.into ?_ (hone e' 2 (by simp [rS, c92, e110, e116, e120]))
                simp [Weak, mk, mkFrom, look]
      · refine Tr.all_t (iNe_byte_ne (k := 92) c92) <| Tr.all_t k0 ?_
        refine Tr.all_t (by simp) <| Tr.all_t (by simp [one]) <| Tr.all_t (by simp) ?_
        simp only [xApp_nil1 c rfl, nXs_bytes]
        refine LDoes.into ?_ (hone c 1 (by simp [rS, c34, c92]))
        simp [Weak, mk, mkFrom, look]


def outB (b r : List UInt8) : PExit × List (Nat × PV) × Store := match rP r with
  | some p => (.exit 0, [(0, .str s), (4, .sl (bytesOf (b ++ p.1)) (.tok 0)), (5, .int .i64 ((s.length : Int) - p.2.length))], ⟨[], [(nLen (b ++ p.1), 1, 5)], []⟩)
  | none => (.ret, [(2, .str []), (3, .bool false)], ⟨[], [(b.length + rL r, 1, 5)], []⟩)
theorem key_RSym (hs : s.length ≤ 140737488355328) : ∀ (k : Nat) (b : List UInt8) (i : Int) (r : List UInt8), r.length ≤ k → 1 ≤ i → s.drop i.toNat = r → i ≤ s.length → b.length + r.length ≤ 140737488355328 →
    outB s b r = (e, out, σ') →
    LDoes Tryd.prog gl c_RSym (mk 128 ([0, 4, 5].zip [.str s, .sl (bytesOf b) (.tok 0), .int .i64 i])) ⟨[], [(nLen b, 1, 5)], []⟩ e (mk 128 out) σ' := by
  intro k
  induction k with
  | zero =>
    intro b i r hk hi hr hil hb h
    have : r = [] := by apply List.eq_nil_of_length_eq_zero; omega
    subst this
    have hl := congrArg List.length hr
    simp at hl
    refine walkB_RSym gl s e out σ' hs b i [] hi hr hil hb ?_ (fun h => by cases h) (fun x k h => by cases h)
    intro hS
    rw [outB, rP_stop hS] at h
    simp at h
    obtain ⟨rfl, rfl, rfl⟩ := h
    have : i = s.length := by omega
    simp [this]
  | succ k ih =>
    intro b i r hk hi hr hil hb h
    have hl := congrArg List.length hr
    simp at hl
    refine walkB_RSym gl s e out σ' hs b i r hi hr hil hb ?_ ?_ ?_
    · intro hS
      rw [outB, rP_stop hS] at h
      simp at h
      obtain ⟨rfl, rfl, rfl⟩ := h
      have : i = (s.length : Int) - r.length := by omega
      simp [this]
    · intro hS
      rw [outB, rP_bad hS, rL_bad hS] at h
      simp at h
      obtain ⟨rfl, rfl, rfl⟩ := h
      simp
    · intro x j hS
      have hj := rS_k hS
      refine ih (b ++ [x]) (i + j) (r.drop j) (by simp; omega) (by omega) ?_ (by omega) (by simp; omega) ?_
      · rw [← hr, List.drop_drop]
        congr 1
        omega
      · rw [outB, rP_one hS, rL_one hS] at h
        rw [← h, outB]
        cases hq : rP (r.drop j) with
        | none => simp; omega
        | some p => simp
theorem loop_RSym : ∀ vs σ a, d_RSym vs σ = some a → (r_RSym a).run = some (e, out, σ') → LDoes Tryd.prog gl c_RSym (mk 128 ([0, 4, 5].zip vs)) σ e (mk 128 out) σ' := by
  intro vs st a hd hr
  unfold d_RSym at hd
  split at hd
  · rename_i s i
    injection hd with hd
    subst hd
    obtain ⟨h1, q1⟩ := Tr.chk_some hr
    obtain ⟨h2, q2⟩ := Tr.chk_some q1
    obtain ⟨h3, q3⟩ := Tr.chk_some q2
    clear hr q1 q2
    simp at h1 h2 h3
    subst h1
    have hl : (s.drop 1).length + 1 = s.length := by simp; omega
    refine walkA_RSym gl s e out σ' h2 1 (s.drop 1) (by omega) rfl (by omega) ?_ ?_ ?_
    · intro hS
      have hp := rP_stop hS
      simp only [okRP, rpB, rpI, hp] at q3
      simp at q3
      obtain ⟨rfl, rfl, rfl⟩ := q3
      simp
      omega
    · intro hS
      have hp := rP_bad hS
      have hq := rL_bad hS
      simp only [okRP, rpL, hp, hq] at q3
      simp at q3
      obtain ⟨rfl, rfl, rfl⟩ := q3
      simp
    · intro x j hS
      have hj := rS_k hS
      have hp := rP_one hS
      have hq := rL_one hS
      refine key_RSym gl s e out σ' h2 s.length [x] (1 + j) ((s.drop 1).drop j) (by simp; try omega) (by omega) ?_ (by omega) (by simp; try omega) ?_
      · rw [List.drop_drop]
        congr 1
        try omega
      · rw [outB]
        cases hr : rP ((s.drop 1).drop j) with
        | none =>
          rw [hr] at hp
          simp only [okRP, rpL, hp, hq] at q3
          simp at q3
          obtain ⟨rfl, rfl, rfl⟩ := q3
          simp [Nat.add_comm]
        | some p =>
          rw [hr] at hp
          simp only [okRP, rpB, rpI, hp] at q3
          simp at q3
          obtain ⟨rfl, rfl, rfl⟩ := q3
          simp
  · cases hd
end
def rsO (s : List UInt8) : List UInt8 × Bool := if s.length < 2 ∨ s.head? ≠ some 34 then ([], false) else match rP (s.drop 1) with
  | none => ([], false)
  | some p => (p.1, decide (p.2.length = 1))
def rsV (s : List UInt8) : List UInt8 := (rsO s).1
def okRs (s : List UInt8) : Bool := (rsO s).2
def F_RSymbol : List PV → Tr PV
  | [.str s] => Tr.chk (okLen s) (.ret (.tup [.str (rsV s), .bool (okRs s)]))
  | _ => .fail
theorem sim_RSymbol (gl : Nat → Option Obj) : SimP Tryd.prog gl 36 fun args => (F_RSymbol args).run := by
  refine SimP.of_tree (G := ofL [(58, .pure F_Rdig)]) (L := L_RSym) tbT_ok (gamOk_cons (sim_Rdig gl) gamOk_nil) noMixed Tryd.func36 rfl (by rfl) (by kernel_rfl) (loopOk_one (r := 5) (c1 := c_RSym) (by kernel_rfl) ?_) ?_
  · intro fr σ e fr' σ' hh
    simp only [lps, L_RSym, if_true] at hh
    exact oracle_ok (fun vs σ a e out σ' => loop_RSym gl e out σ' vs σ a) fr σ e fr' σ' hh
  intro args x h hr
  unfold F_RSymbol at h
  split at h
  · rename_i s
    obtain ⟨h1, h2⟩ := Tr.chk_some h
    cases h2
    refine Tr.run_as (Tr.ite (iLt (sLen s) 2) (Tr.ret (PV.tup [PV.str [], PV.bool false]))
        (Tr.ite (okIdx s 0)
          (Tr.ite (iNe (sAt s 0) 34) (Tr.ret (PV.tup [PV.str [], PV.bool false]))
            (Tr.ite (iEq 1 1)
              (Tr.ite (okLen s)
                (Tr.ite (iLe 1 (sLen s))
                  (Tr.ite (okRP s)
                    (Tr.ite (sEq (rpB s) []) (Tr.ite (okBytes []) (Tr.ret (PV.tup [PV.str (unBytes []), PV.bool (iEq (rpI s) (iSub IntKind.i64 (sLen s) 1))])) Tr.fail)
                      (Tr.ite (okBytes (bytesOf (rpB s))) (Tr.ret (PV.tup [PV.str (unBytes (bytesOf (rpB s))), PV.bool (iEq (rpI s) (iSub IntKind.i64 (sLen s) 1))])) Tr.fail))
                    (Tr.ite (nEq (rpL s) 0) (Tr.ret (PV.tup [PV.str [], PV.bool false])) (Tr.ret (PV.tup [PV.str [], PV.bool false]))))
                  Tr.fail)
                Tr.fail)
              Tr.fail))
          Tr.fail)) (by kernel_rfl) ?_
    have hl : s.length ≤ 140737488355328 := by simpa using h1
    by_cases hs2 : s.length < 2
    · have l1 : iLt (sLen s) 2 = true := by simp; omega
      rw [l1]
      simp [rsV, okRs, rsO, hs2]
    · have l1 : iLt (sLen s) 2 = false := by simp; omega
      have l2 : okIdx s 0 = true := by simp; omega
      have l3 : iLe 1 (sLen s) = true := by simp; omega
      have l4 : iSub .i64 (sLen s) 1 = s.length - 1 := by unfold iSub; rw [sLen_eq, wrap_i64 (by omega)]
      obtain ⟨c, hc⟩ := get_lt (l := s) (i := 0) (by omega)
      have l5 : sAt s 0 = c.toNat := sAt_get (i := 0) hc
      have hh : s.head? = some c := by rw [List.head?_eq_getElem?]; exact hc
      rw [l1, l2, l3, l4, l5, h1]
      by_cases c34 : c = 34
      · have l6 : iNe (c.toNat : Int) 34 = false := iNe_byte_eq (k := 34) c34
        rw [l6]
        have e1 : rsO s = match rP (s.drop 1) with | none => ([], false) | some p => (p.1, decide (p.2.length = 1)) := by
          unfold rsO
          rw [if_neg]
          rintro (h | h)
          · exact hs2 h
          · exact h (by rw [hh, c34])
        cases hp : rP (s.drop 1) with
        | none =>
          have k1 : okRP s = false := by simp only [okRP, hp]; rfl
          rw [k1]
          rw [hp] at e1
          simp [rsV, okRs, e1]
        | some p =>
          have k1 : okRP s = true := by simp only [okRP, hp]; rfl
          have k2 : rpB s = p.1 := by simp only [rpB, hp]
          have k3 : rpI s = (s.length : Int) - p.2.length := by simp only [rpI, hp]
          rw [hp] at e1
          have k4 : iEq ((s.length : Int) - p.2.length) ((s.length : Int) - 1) = decide (p.2.length = 1) := by
            simp only [iEq_eq]
            congr 1
            apply propext
            constructor <;> intro h <;> omega
          rw [k1, k2, k3, k4]
          by_cases he : p.1 = []
          · have : unBytes [] = [] := rfl
            have k5 : okBytes [] = true := rfl
            simp [rsV, okRs, e1, he, this, k5]
          · simp [rsV, okRs, e1, he]
      · have l6 : iNe (c.toNat : Int) 34 = true := iNe_byte_ne (k := 34) c34
        rw [l6]
        simp [rsV, okRs, rsO, hh, c34]
  · cases h
end Go.Pv
