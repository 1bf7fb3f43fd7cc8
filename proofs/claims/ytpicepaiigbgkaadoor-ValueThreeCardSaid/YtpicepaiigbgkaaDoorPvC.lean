import Derived.Test.YtpicepaiigbgkaaDoorPvB
set_option maxHeartbeats 4000000
set_option maxRecDepth 200000
set_option linter.unusedSimpArgs false
set_option linter.unusedVariables false
namespace Go.Pv
open Go Go.Proofs Go.RowKit

theorem sSub_tail (s : List UInt8) (n : Nat) : sSub s n (nLen s) = s.drop n := by simp
theorem iEq_byte_ne {c k : UInt8} (h : c ≠ k) : iEq (c.toNat : Int) (k.toNat : Int) = false := by
  simp only [iEq_eq, decide_eq_false_iff_not]
  intro e
  exact h (UInt8.toNat_inj.1 (by omega))
theorem iEq_byte_eq {c k : UInt8} (h : c = k) : iEq (c.toNat : Int) (k.toNat : Int) = true := by
  subst h
  simp
theorem sAt_rng (s : List UInt8) (n : Int) : 0 ≤ sAt s n ∧ sAt s n < 256 := by
  have := (s.getD n.toNat 0).toNat_lt
  simp only [sAt_eq]
  omega
theorem dv_rng : ∀ (l : List UInt8) (c i : Int), 0 ≤ i → i + l.length ≤ 16 → 0 ≤ dv l c i ∧ dv l c i ≤ 16
  | [], c, i, h, hl => by simp [dv]
  | b :: l, c, i, h, hl => by
    have := dv_rng l c (i + 1) (by omega) (by simp at hl; omega)
    unfold dv
    split
    · simp at hl; omega
    · exact this
theorem digV_rng (c : Int) : 0 ≤ digV c ∧ digV c ≤ 16 := dv_rng hexL c 0 (by omega) (by decide)
theorem hexB_rng {a b : Int} (ha : 0 ≤ a ∧ a ≤ 16) (hb : 0 ≤ b ∧ b ≤ 16) : 0 ≤ iOr .u8 (iShl .u8 a 4) b ∧ iOr .u8 (iShl .u8 a 4) b < 256 := by
  have key : ∀ (x y : Fin 17), 0 ≤ iOr .u8 (iShl .u8 (x.val : Int) 4) (y.val : Int) ∧ iOr .u8 (iShl .u8 (x.val : Int) 4) (y.val : Int) < 256 := by decide +kernel
  have := key ⟨a.toNat, by omega⟩ ⟨b.toNat, by omega⟩
  have e1 : ((a.toNat : Nat) : Int) = a := by omega
  have e2 : ((b.toNat : Nat) : Int) = b := by omega
  rwa [e1, e2] at this
theorem escB_rng (s : List UInt8) : 0 ≤ escB s ∧ escB s < 256 := by
  have h1 := sAt_rng s 0
  have h2 := hexB_rng (digV_rng (sAt s 1)) (digV_rng (sAt s 2))
  unfold escB
  repeat' split
  all_goals first | exact h1 | exact h2 | omega
theorem escN_rng (s : List UInt8) : 0 ≤ escN s ∧ escN s ≤ s.length := by
  unfold escN
  by_cases h : s = []
  · simp [h]
  · have := List.length_pos_iff.2 h
    repeat' split
    all_goals omega

/-! ### value.symbol -/
def decP (s : List UInt8) : Option (List UInt8) := match s with
  | [] => some []
  | c :: t => if c = 92 then (if escN t = 0 then none else (decP (t.drop (escN t).toNat)).map (UInt8.ofNat (escB t).toNat :: ·)) else (decP t).map (c :: ·)
  termination_by s.length
  decreasing_by all_goals (simp; try omega)
def okDec (s : List UInt8) : Bool := (decP s).isSome
def decV (s : List UInt8) : List UInt8 := (decP s).getD []
def decL (s : List UInt8) : Nat := match s with
  | [] => 0
  | c :: t => if c = 92 then (if escN t = 0 then 0 else decL (t.drop (escN t).toNat) + 1) else decL t + 1
  termination_by s.length
  decreasing_by all_goals (simp; try omega)
def badL (s : List UInt8) : Nat := decL s
def F_symbol : List PV → Tr PV
  | [.str s] => Tr.chk (okLen s) (.ite (okDec s) (.ret (.tup [.sl (bytesOf (decV s)) .non, .bool true])) (.ret (.tup [.sl [] .non, .bool false])))
  | _ => .fail
def d_symbol : List PV → Store → Option (List UInt8)
  | [.str s, .sl [] .full], ⟨[], [], []⟩ => some s
  | _, _ => none
def r_symbol : List UInt8 → Tr (PExit × List (Nat × PV) × Store)
  | s => Tr.chk (okLen s) (.ite (okDec s) (.ite (sEq (decV s) []) (.ret (.exit 0, [(4, .sl [] .full)], ⟨[], [], []⟩)) (.ret (.exit 0, [(4, .sl (bytesOf (decV s)) (.tok 0))], ⟨[], [(nLen (decV s), 1, 5)], []⟩))) (.ite (nEq (badL s) 0) (.ret (.ret, [(2, .sl [] .full), (3, .bool false)], ⟨[], [], []⟩)) (.ret (.ret, [(2, .sl [] .full), (3, .bool false)], ⟨[], [(badL s, 1, 5)], []⟩))))
def L_symbol : LpsT := fun r fr σ => if r = 2 then oracle 32 [0, 4] d_symbol r_symbol fr σ else .fail
noncomputable def c_symbol : Code := loopN Tryd.f33 0
theorem loop_symbol (gl : Nat → Option Obj) : ∀ vs σ a e out σ', d_symbol vs σ = some a → (r_symbol a).run = some (e, out, σ') → LDoes Tryd.prog gl c_symbol (mk 32 ([0, 4].zip vs)) σ e (mk 32 out) σ' := by
  intro vs st a e out σ' hd hr
  unfold d_symbol at hd
  split at hd
  · rename_i s
    injection hd with hd
    subst hd
    obtain ⟨hlen, hr⟩ := Tr.chk_some hr
    simp at hlen
    have hG : GamOk Tryd.prog gl (gam (ofL [(55, .pure F_escape)])) := gamOk_cons (sim_escape gl) gamOk_nil
    have key : ∀ (k : Nat) (b s : List UInt8), s.length ≤ k → b ≠ [] → b.length + s.length ≤ 140737488355328 →
       (match decP s with
        | some x => (PExit.exit 0, [(4, PV.sl (bytesOf (b ++ x)) (.tok 0))], (⟨[], [(nLen (b ++ x), 1, 5)], []⟩ : Store))
        | none => (.ret, [(2, .sl [] .full), (3, .bool false)], ⟨[], [(b.length + decL s, 1, 5)], []⟩)) = (e, out, σ') →
       LDoes Tryd.prog gl c_symbol (mk 32 ([0, 4].zip [.str s, .sl (bytesOf b) (.tok 0)])) ⟨[], [(nLen b, 1, 5)], []⟩ e (mk 32 out) σ' := by
      intro k
      have base : ∀ (b : List UInt8), b ≠ [] → (PExit.exit 0, [(4, PV.sl (bytesOf b) (.tok 0))], (⟨[], [(nLen b, 1, 5)], []⟩ : Store)) = (e, out, σ') →
         LDoes Tryd.prog gl c_symbol (mk 32 ([0, 4].zip [.str [], .sl (bytesOf b) (.tok 0)])) ⟨[], [(nLen b, 1, 5)], []⟩ e (mk 32 out) σ' := by
        intro b hb h
        cases h
        refine LDoes.round tbT_ok hG noMixed (L := fun _ _ _ => .fail) (loopOk_none (by kernel_rfl)) (by kernel_rfl) ?_
        refine Tr.all_as (Tr.ite (sNe [] [])
            (Tr.ite (okIdx [] 0)
              (Tr.ite (okSub (okPos 1) true (nNat 1) (nLen []) (nLen []))
                (Tr.ite (iEq (sAt [] 0) 92)
                  (Tr.ite (iEq (escN (sSub [] (nNat 1) (nLen []))) 0)
                    (Tr.ret
                      (PExit.ret, [3, 2, 22, 15, 9],
                        [PV.str (sSub [] (nNat 1) (nLen [])), PV.top, PV.sl [] Tag.full, PV.bool false, PV.sl (bytesOf b) (Tag.tok 0), PV.int IntKind.u8 (sAt [] 0),
                          PV.int IntKind.u8 (escB (sSub [] (nNat 1) (nLen []))), PV.int IntKind.i64 (escN (sSub [] (nNat 1) (nLen []))), PV.str [], PV.bool true, PV.str [], PV.int IntKind.u8 (sAt [] 0),
                          PV.str [], PV.str (sSub [] (nNat 1) (nLen [])), PV.int IntKind.u8 (sAt [] 0), PV.bool true,
                          PV.tup [PV.int IntKind.u8 (escB (sSub [] (nNat 1) (nLen []))), PV.int IntKind.i64 (escN (sSub [] (nNat 1) (nLen [])))], PV.str (sSub [] (nNat 1) (nLen [])),
                          PV.tup [PV.int IntKind.u8 (escB (sSub [] (nNat 1) (nLen []))), PV.int IntKind.i64 (escN (sSub [] (nNat 1) (nLen [])))], PV.int IntKind.u8 (escB (sSub [] (nNat 1) (nLen []))),
                          PV.int IntKind.i64 (escN (sSub [] (nNat 1) (nLen []))), PV.int IntKind.i64 (escN (sSub [] (nNat 1) (nLen []))), PV.bool true, PV.top, PV.top, PV.top, PV.top, PV.top, PV.top, PV.top,
                          PV.top, PV.top],
                        Store.mk [] [(nLen b, 1, 5)] []))
                    (Tr.ite (okSub (okPos (escN (sSub [] (nNat 1) (nLen [])))) true (nNat (escN (sSub [] (nNat 1) (nLen [])))) (nLen (sSub [] (nNat 1) (nLen []))) (nLen (sSub [] (nNat 1) (nLen []))))
                      (Tr.ite (okGrow (bytesOf b) [[PV.int IntKind.u8 (escB (sSub [] (nNat 1) (nLen [])))]] 1)
                        (Tr.ite (okNews [[PV.int IntKind.u8 (escB (sSub [] (nNat 1) (nLen [])))]] 1)
                          (Tr.ite (okSize (bytesOf b) 1)
                            (Tr.ite (nEq (nLen b) (nXs (bytesOf b)))
                              (Tr.ret
                                (PExit.normal, [29, 22, 15, 9],
                                  [PV.str (sSub (sSub [] (nNat 1) (nLen [])) (nNat (escN (sSub [] (nNat 1) (nLen [])))) (nLen (sSub [] (nNat 1) (nLen [])))), PV.top, PV.top, PV.top,
                                    PV.sl (xApp (bytesOf b) [[PV.int IntKind.u8 (escB (sSub [] (nNat 1) (nLen [])))]]) (Tag.tok 0), PV.int IntKind.u8 (escB (sSub [] (nNat 1) (nLen []))),
                                    PV.int IntKind.u8 (escB (sSub [] (nNat 1) (nLen []))), PV.int IntKind.i64 (escN (sSub [] (nNat 1) (nLen []))), PV.str [], PV.bool true, PV.str [],
                                    PV.int IntKind.u8 (sAt [] 0), PV.str [], PV.str (sSub [] (nNat 1) (nLen [])), PV.int IntKind.u8 (sAt [] 0), PV.bool true,
                                    PV.tup [PV.int IntKind.u8 (escB (sSub [] (nNat 1) (nLen []))), PV.int IntKind.i64 (escN (sSub [] (nNat 1) (nLen [])))], PV.str (sSub [] (nNat 1) (nLen [])),
                                    PV.tup [PV.int IntKind.u8 (escB (sSub [] (nNat 1) (nLen []))), PV.int IntKind.i64 (escN (sSub [] (nNat 1) (nLen [])))], PV.int IntKind.u8 (escB (sSub [] (nNat 1) (nLen []))),
                                    PV.int IntKind.i64 (escN (sSub [] (nNat 1) (nLen []))), PV.int IntKind.i64 (escN (sSub [] (nNat 1) (nLen []))), PV.bool false,
                                    PV.int IntKind.u8 (escB (sSub [] (nNat 1) (nLen []))), PV.str (sSub [] (nNat 1) (nLen [])), PV.int IntKind.i64 (escN (sSub [] (nNat 1) (nLen []))),
                                    PV.str (sSub (sSub [] (nNat 1) (nLen [])) (nNat (escN (sSub [] (nNat 1) (nLen [])))) (nLen (sSub [] (nNat 1) (nLen [])))), PV.sl (bytesOf b) (Tag.tok 0),
                                    PV.int IntKind.u8 (escB (sSub [] (nNat 1) (nLen []))), PV.sl [[PV.int IntKind.u8 (escB (sSub [] (nNat 1) (nLen [])))]] Tag.full,
                                    PV.sl (xApp (bytesOf b) [[PV.int IntKind.u8 (escB (sSub [] (nNat 1) (nLen [])))]]) (Tag.tok 0), PV.top],
                                  Store.mk [] [(nXs (xApp (bytesOf b) [[PV.int IntKind.u8 (escB (sSub [] (nNat 1) (nLen [])))]]), 1, 5)] []))
                              Tr.fail)
                            Tr.fail)
                          Tr.fail)
                        Tr.fail)
                      Tr.fail))
                  (Tr.ite (okGrow (bytesOf b) [[PV.int IntKind.u8 (sAt [] 0)]] 1)
                    (Tr.ite (okNews [[PV.int IntKind.u8 (sAt [] 0)]] 1)
                      (Tr.ite (okSize (bytesOf b) 1)
                        (Tr.ite (nEq (nLen b) (nXs (bytesOf b)))
                          (Tr.ret
                            (PExit.normal, [29, 15, 9],
                              [PV.str (sSub [] (nNat 1) (nLen [])), PV.top, PV.top, PV.top, PV.sl (xApp (bytesOf b) [[PV.int IntKind.u8 (sAt [] 0)]]) (Tag.tok 0), PV.int IntKind.u8 (sAt [] 0), PV.top, PV.top,
                                PV.str [], PV.bool true, PV.str [], PV.int IntKind.u8 (sAt [] 0), PV.str [], PV.str (sSub [] (nNat 1) (nLen [])), PV.int IntKind.u8 (sAt [] 0), PV.bool false, PV.top, PV.top,
                                PV.top, PV.top, PV.top, PV.top, PV.top, PV.top, PV.top, PV.top, PV.top, PV.sl (bytesOf b) (Tag.tok 0), PV.int IntKind.u8 (sAt [] 0),
                                PV.sl [[PV.int IntKind.u8 (sAt [] 0)]] Tag.full, PV.sl (xApp (bytesOf b) [[PV.int IntKind.u8 (sAt [] 0)]]) (Tag.tok 0), PV.top],
                              Store.mk [] [(nXs (xApp (bytesOf b) [[PV.int IntKind.u8 (sAt [] 0)]]), 1, 5)] []))
                          Tr.fail)
                        Tr.fail)
                      Tr.fail)
                    Tr.fail))
                Tr.fail)
              Tr.fail)
            (Tr.ret
              (PExit.exit 0, [9],
                [PV.str [], PV.top, PV.top, PV.top, PV.sl (bytesOf b) (Tag.tok 0), PV.top, PV.top, PV.top, PV.str [], PV.bool false, PV.top, PV.top, PV.top, PV.top, PV.top, PV.top, PV.top, PV.top, PV.top,
                  PV.top, PV.top, PV.top, PV.top, PV.top, PV.top, PV.top, PV.top, PV.top, PV.top, PV.top, PV.top, PV.top],
                Store.mk [] [(nLen b, 1, 5)] []))) (by kernel_rfl) ?_
        exact ⟨fun h => by simp at h, fun h => ⟨rfl, by simp [Weak, mk, mkFrom, look], rfl⟩⟩
      induction k with
      | zero =>
        intro b s hk hb hbs h
        have : s = [] := by apply List.eq_nil_of_length_eq_zero; omega
        subst this
        simp [decP] at h
        exact base b hb (by simpa using h)
      | succ k ih =>
        intro b s hk hb hbs h
        cases s with
        | nil =>
          simp [decP] at h
          exact base b hb (by simpa using h)
        | cons c t =>
          have e0 : sAt (c :: t) 0 = c.toNat := by simp
          have e1 : sSub (c :: t) (nNat 1) (nLen (c :: t)) = t := by simp
          have hc := c.toNat_lt
          have e7 := escN_rng t
          have e8 := escB_rng t
          simp at hk hbs
          rw [decP, decL] at h
          refine LDoes.round tbT_ok hG noMixed (L := fun _ _ _ => .fail) (loopOk_none (by kernel_rfl)) (by kernel_rfl) ?_
          refine Tr.all_as (Tr.ite (sNe (c :: t) [])
              (Tr.ite (okIdx (c :: t) 0)
                (Tr.ite (okSub (okPos 1) true (nNat 1) (nLen (c :: t)) (nLen (c :: t)))
                  (Tr.ite (iEq (sAt (c :: t) 0) 92)
                    (Tr.ite (iEq (escN (sSub (c :: t) (nNat 1) (nLen (c :: t)))) 0)
                      (Tr.ret
                        (PExit.ret, [3, 2, 22, 15, 9],
                          [PV.str (sSub (c :: t) (nNat 1) (nLen (c :: t))), PV.top, PV.sl [] Tag.full, PV.bool false, PV.sl (bytesOf b) (Tag.tok 0), PV.int IntKind.u8 (sAt (c :: t) 0),
                            PV.int IntKind.u8 (escB (sSub (c :: t) (nNat 1) (nLen (c :: t)))), PV.int IntKind.i64 (escN (sSub (c :: t) (nNat 1) (nLen (c :: t)))), PV.str (c :: t), PV.bool true, PV.str (c :: t),
                            PV.int IntKind.u8 (sAt (c :: t) 0), PV.str (c :: t), PV.str (sSub (c :: t) (nNat 1) (nLen (c :: t))), PV.int IntKind.u8 (sAt (c :: t) 0), PV.bool true,
                            PV.tup [PV.int IntKind.u8 (escB (sSub (c :: t) (nNat 1) (nLen (c :: t)))), PV.int IntKind.i64 (escN (sSub (c :: t) (nNat 1) (nLen (c :: t))))],
                            PV.str (sSub (c :: t) (nNat 1) (nLen (c :: t))),
                            PV.tup [PV.int IntKind.u8 (escB (sSub (c :: t) (nNat 1) (nLen (c :: t)))), PV.int IntKind.i64 (escN (sSub (c :: t) (nNat 1) (nLen (c :: t))))],
                            PV.int IntKind.u8 (escB (sSub (c :: t) (nNat 1) (nLen (c :: t)))), PV.int IntKind.i64 (escN (sSub (c :: t) (nNat 1) (nLen (c :: t)))),
                            PV.int IntKind.i64 (escN (sSub (c :: t) (nNat 1) (nLen (c :: t)))), PV.bool true, PV.top, PV.top, PV.top, PV.top, PV.top, PV.top, PV.top, PV.top, PV.top],
                          Store.mk [] [(nLen b, 1, 5)] []))
                      (Tr.ite
                        (okSub (okPos (escN (sSub (c :: t) (nNat 1) (nLen (c :: t))))) true (nNat (escN (sSub (c :: t) (nNat 1) (nLen (c :: t))))) (nLen (sSub (c :: t) (nNat 1) (nLen (c :: t))))
                          (nLen (sSub (c :: t) (nNat 1) (nLen (c :: t)))))
                        (Tr.ite (okGrow (bytesOf b) [[PV.int IntKind.u8 (escB (sSub (c :: t) (nNat 1) (nLen (c :: t))))]] 1)
                          (Tr.ite (okNews [[PV.int IntKind.u8 (escB (sSub (c :: t) (nNat 1) (nLen (c :: t))))]] 1)
                            (Tr.ite (okSize (bytesOf b) 1)
                              (Tr.ite (nEq (nLen b) (nXs (bytesOf b)))
                                (Tr.ret
                                  (PExit.normal, [29, 22, 15, 9],
                                    [PV.str (sSub (sSub (c :: t) (nNat 1) (nLen (c :: t))) (nNat (escN (sSub (c :: t) (nNat 1) (nLen (c :: t))))) (nLen (sSub (c :: t) (nNat 1) (nLen (c :: t))))), PV.top, PV.top,
                                      PV.top, PV.sl (xApp (bytesOf b) [[PV.int IntKind.u8 (escB (sSub (c :: t) (nNat 1) (nLen (c :: t))))]]) (Tag.tok 0),
                                      PV.int IntKind.u8 (escB (sSub (c :: t) (nNat 1) (nLen (c :: t)))), PV.int IntKind.u8 (escB (sSub (c :: t) (nNat 1) (nLen (c :: t)))),
                                      PV.int IntKind.i64 (escN (sSub (c :: t) (nNat 1) (nLen (c :: t)))), PV.str (c :: t), PV.bool true, PV.str (c :: t), PV.int IntKind.u8 (sAt (c :: t) 0), PV.str (c :: t),
                                      PV.str (sSub (c :: t) (nNat 1) (nLen (c :: t))), PV.int IntKind.u8 (sAt (c :: t) 0), PV.bool true,
                                      PV.tup [PV.int IntKind.u8 (escB (sSub (c :: t) (nNat 1) (nLen (c :: t)))), PV.int IntKind.i64 (escN (sSub (c :: t) (nNat 1) (nLen (c :: t))))],
                                      PV.str (sSub (c :: t) (nNat 1) (nLen (c :: t))),
                                      PV.tup [PV.int IntKind.u8 (escB (sSub (c :: t) (nNat 1) (nLen (c :: t)))), PV.int IntKind.i64 (escN (sSub (c :: t) (nNat 1) (nLen (c :: t))))],
                                      PV.int IntKind.u8 (escB (sSub (c :: t) (nNat 1) (nLen (c :: t)))), PV.int IntKind.i64 (escN (sSub (c :: t) (nNat 1) (nLen (c :: t)))),
                                      PV.int IntKind.i64 (escN (sSub (c :: t) (nNat 1) (nLen (c :: t)))), PV.bool false, PV.int IntKind.u8 (escB (sSub (c :: t) (nNat 1) (nLen (c :: t)))),
                                      PV.str (sSub (c :: t) (nNat 1) (nLen (c :: t))), PV.int IntKind.i64 (escN (sSub (c :: t) (nNat 1) (nLen (c :: t)))),
                                      PV.str (sSub (sSub (c :: t) (nNat 1) (nLen (c :: t))) (nNat (escN (sSub (c :: t) (nNat 1) (nLen (c :: t))))) (nLen (sSub (c :: t) (nNat 1) (nLen (c :: t))))),
                                      PV.sl (bytesOf b) (Tag.tok 0), PV.int IntKind.u8 (escB (sSub (c :: t) (nNat 1) (nLen (c :: t)))),
                                      PV.sl [[PV.int IntKind.u8 (escB (sSub (c :: t) (nNat 1) (nLen (c :: t))))]] Tag.full,
                                      PV.sl (xApp (bytesOf b) [[PV.int IntKind.u8 (escB (sSub (c :: t) (nNat 1) (nLen (c :: t))))]]) (Tag.tok 0), PV.top],
                                    Store.mk [] [(nXs (xApp (bytesOf b) [[PV.int IntKind.u8 (escB (sSub (c :: t) (nNat 1) (nLen (c :: t))))]]), 1, 5)] []))
                                Tr.fail)
                              Tr.fail)
                            Tr.fail)
                          Tr.fail)
                        Tr.fail))
                    (Tr.ite (okGrow (bytesOf b) [[PV.int IntKind.u8 (sAt (c :: t) 0)]] 1)
                      (Tr.ite (okNews [[PV.int IntKind.u8 (sAt (c :: t) 0)]] 1)
                        (Tr.ite (okSize (bytesOf b) 1)
                          (Tr.ite (nEq (nLen b) (nXs (bytesOf b)))
                            (Tr.ret
                              (PExit.normal, [29, 15, 9],
                                [PV.str (sSub (c :: t) (nNat 1) (nLen (c :: t))), PV.top, PV.top, PV.top, PV.sl (xApp (bytesOf b) [[PV.int IntKind.u8 (sAt (c :: t) 0)]]) (Tag.tok 0),
                                  PV.int IntKind.u8 (sAt (c :: t) 0), PV.top, PV.top, PV.str (c :: t), PV.bool true, PV.str (c :: t), PV.int IntKind.u8 (sAt (c :: t) 0), PV.str (c :: t),
                                  PV.str (sSub (c :: t) (nNat 1) (nLen (c :: t))), PV.int IntKind.u8 (sAt (c :: t) 0), PV.bool false, PV.top, PV.top, PV.top, PV.top, PV.top, PV.top, PV.top, PV.top, PV.top,
                                  PV.top, PV.top, PV.sl (bytesOf b) (Tag.tok 0), PV.int IntKind.u8 (sAt (c :: t) 0), PV.sl [[PV.int IntKind.u8 (sAt (c :: t) 0)]] Tag.full,
                                  PV.sl (xApp (bytesOf b) [[PV.int IntKind.u8 (sAt (c :: t) 0)]]) (Tag.tok 0), PV.top],
                                Store.mk [] [(nXs (xApp (bytesOf b) [[PV.int IntKind.u8 (sAt (c :: t) 0)]]), 1, 5)] []))
                            Tr.fail)
                          Tr.fail)
                        Tr.fail)
                      Tr.fail))
                  Tr.fail)
                Tr.fail)
              (Tr.ret
                (PExit.exit 0, [9],
                  [PV.str (c :: t), PV.top, PV.top, PV.top, PV.sl (bytesOf b) (Tag.tok 0), PV.top, PV.top, PV.top, PV.str (c :: t), PV.bool false, PV.top, PV.top, PV.top, PV.top, PV.top, PV.top, PV.top, PV.top,
                    PV.top, PV.top, PV.top, PV.top, PV.top, PV.top, PV.top, PV.top, PV.top, PV.top, PV.top, PV.top, PV.top, PV.top],
                  Store.mk [] [(nLen b, 1, 5)] []))) (by kernel_rfl) ?_
          rw [e1, e0, xApp_byte b (n := (c.toNat : Int)) (by omega), xApp_byte b e8, Int.toNat_natCast, UInt8.ofNat_toNat]
          simp only [nXs_bytes]
          refine Tr.all_t (by simp) <| Tr.all_t (by simp) <| Tr.all_t (by simp) ?_
          by_cases h92 : c = 92
          · subst h92
            refine Tr.all_t (by simp) ?_
            by_cases hn : escN t = 0
            · simp [hn] at h
              obtain ⟨rfl, rfl, rfl⟩ := h
              exact Tr.all_t (by simp [hn]) ⟨rfl, by simp [Weak, mk, mkFrom, look], rfl⟩
            · refine Tr.all_f (by simp [hn]) <| Tr.all_t (by simp; omega) <| Tr.all_t (by simp; omega) <| Tr.all_t (by simp [one]) <| Tr.all_t (okSize_bytes _) <| Tr.all_t (by simp) ?_
              refine LDoes.into ?_ (ih (b ++ [UInt8.ofNat (escB t).toNat]) (t.drop (escN t).toNat) (by simp; omega) (by simp) (by simp; omega) ?_)
              · simp [Weak, mk, mkFrom, look]
              · simp [hn] at h
                rw [← h]
                cases hd : decP (t.drop (escN t).toNat) with
                | none => simp; omega
                | some x => simp
          · refine Tr.all_f (iEq_byte_ne (k := 92) h92) <| Tr.all_t (by simp; omega) <| Tr.all_t (by simp [one]) <| Tr.all_t (okSize_bytes _) <| Tr.all_t (by simp) ?_
            refine LDoes.into ?_ (ih (b ++ [c]) t (by omega) (by simp) (by simp; omega) ?_)
            · simp [Weak, mk, mkFrom, look]
            · simp [h92] at h
              rw [← h]
              cases hd : decP t with
              | none => simp; omega
              | some x => simp
    cases s with
    | nil =>
      simp [okDec, decV, decP] at hr
      obtain ⟨rfl, rfl, rfl⟩ := hr
      refine LDoes.round tbT_ok hG noMixed (L := fun _ _ _ => .fail) (loopOk_none (by kernel_rfl)) (by kernel_rfl) ?_
      refine Tr.all_as (Tr.ite (sNe [] [])
          (Tr.ite (okIdx [] 0)
            (Tr.ite (okSub (okPos 1) true (nNat 1) (nLen []) (nLen []))
              (Tr.ite (iEq (sAt [] 0) 92)
                (Tr.ite (iEq (escN (sSub [] (nNat 1) (nLen []))) 0)
                  (Tr.ret
                    (PExit.ret, [3, 2, 22, 15, 9],
                      [PV.str (sSub [] (nNat 1) (nLen [])), PV.top, PV.sl [] Tag.full, PV.bool false, PV.sl [] Tag.full, PV.int IntKind.u8 (sAt [] 0), PV.int IntKind.u8 (escB (sSub [] (nNat 1) (nLen []))),
                        PV.int IntKind.i64 (escN (sSub [] (nNat 1) (nLen []))), PV.str [], PV.bool true, PV.str [], PV.int IntKind.u8 (sAt [] 0), PV.str [], PV.str (sSub [] (nNat 1) (nLen [])),
                        PV.int IntKind.u8 (sAt [] 0), PV.bool true, PV.tup [PV.int IntKind.u8 (escB (sSub [] (nNat 1) (nLen []))), PV.int IntKind.i64 (escN (sSub [] (nNat 1) (nLen [])))],
                        PV.str (sSub [] (nNat 1) (nLen [])), PV.tup [PV.int IntKind.u8 (escB (sSub [] (nNat 1) (nLen []))), PV.int IntKind.i64 (escN (sSub [] (nNat 1) (nLen [])))],
                        PV.int IntKind.u8 (escB (sSub [] (nNat 1) (nLen []))), PV.int IntKind.i64 (escN (sSub [] (nNat 1) (nLen []))), PV.int IntKind.i64 (escN (sSub [] (nNat 1) (nLen []))), PV.bool true,
                        PV.top, PV.top, PV.top, PV.top, PV.top, PV.top, PV.top, PV.top, PV.top],
                      Store.mk [] [] []))
                  (Tr.ite (okSub (okPos (escN (sSub [] (nNat 1) (nLen [])))) true (nNat (escN (sSub [] (nNat 1) (nLen [])))) (nLen (sSub [] (nNat 1) (nLen []))) (nLen (sSub [] (nNat 1) (nLen []))))
                    (Tr.ite (okGrow [] [[PV.int IntKind.u8 (escB (sSub [] (nNat 1) (nLen [])))]] 1)
                      (Tr.ite (okNews [[PV.int IntKind.u8 (escB (sSub [] (nNat 1) (nLen [])))]] 1)
                        (Tr.ite (okSize [] 1)
                          (Tr.ret
                            (PExit.normal, [29, 22, 15, 9],
                              [PV.str (sSub (sSub [] (nNat 1) (nLen [])) (nNat (escN (sSub [] (nNat 1) (nLen [])))) (nLen (sSub [] (nNat 1) (nLen [])))), PV.top, PV.top, PV.top,
                                PV.sl (xApp [] [[PV.int IntKind.u8 (escB (sSub [] (nNat 1) (nLen [])))]]) (Tag.tok 0), PV.int IntKind.u8 (escB (sSub [] (nNat 1) (nLen []))),
                                PV.int IntKind.u8 (escB (sSub [] (nNat 1) (nLen []))), PV.int IntKind.i64 (escN (sSub [] (nNat 1) (nLen []))), PV.str [], PV.bool true, PV.str [], PV.int IntKind.u8 (sAt [] 0),
                                PV.str [], PV.str (sSub [] (nNat 1) (nLen [])), PV.int IntKind.u8 (sAt [] 0), PV.bool true,
                                PV.tup [PV.int IntKind.u8 (escB (sSub [] (nNat 1) (nLen []))), PV.int IntKind.i64 (escN (sSub [] (nNat 1) (nLen [])))], PV.str (sSub [] (nNat 1) (nLen [])),
                                PV.tup [PV.int IntKind.u8 (escB (sSub [] (nNat 1) (nLen []))), PV.int IntKind.i64 (escN (sSub [] (nNat 1) (nLen [])))], PV.int IntKind.u8 (escB (sSub [] (nNat 1) (nLen []))),
                                PV.int IntKind.i64 (escN (sSub [] (nNat 1) (nLen []))), PV.int IntKind.i64 (escN (sSub [] (nNat 1) (nLen []))), PV.bool false,
                                PV.int IntKind.u8 (escB (sSub [] (nNat 1) (nLen []))), PV.str (sSub [] (nNat 1) (nLen [])), PV.int IntKind.i64 (escN (sSub [] (nNat 1) (nLen []))),
                                PV.str (sSub (sSub [] (nNat 1) (nLen [])) (nNat (escN (sSub [] (nNat 1) (nLen [])))) (nLen (sSub [] (nNat 1) (nLen [])))), PV.sl [] Tag.full,
                                PV.int IntKind.u8 (escB (sSub [] (nNat 1) (nLen []))), PV.sl [[PV.int IntKind.u8 (escB (sSub [] (nNat 1) (nLen [])))]] Tag.full,
                                PV.sl (xApp [] [[PV.int IntKind.u8 (escB (sSub [] (nNat 1) (nLen [])))]]) (Tag.tok 0), PV.top],
                              Store.mk [] [(nXs (xApp [] [[PV.int IntKind.u8 (escB (sSub [] (nNat 1) (nLen [])))]]), 1, 5)] []))
                          Tr.fail)
                        Tr.fail)
                      Tr.fail)
                    Tr.fail))
                (Tr.ite (okGrow [] [[PV.int IntKind.u8 (sAt [] 0)]] 1)
                  (Tr.ite (okNews [[PV.int IntKind.u8 (sAt [] 0)]] 1)
                    (Tr.ite (okSize [] 1)
                      (Tr.ret
                        (PExit.normal, [29, 15, 9],
                          [PV.str (sSub [] (nNat 1) (nLen [])), PV.top, PV.top, PV.top, PV.sl (xApp [] [[PV.int IntKind.u8 (sAt [] 0)]]) (Tag.tok 0), PV.int IntKind.u8 (sAt [] 0), PV.top, PV.top, PV.str [],
                            PV.bool true, PV.str [], PV.int IntKind.u8 (sAt [] 0), PV.str [], PV.str (sSub [] (nNat 1) (nLen [])), PV.int IntKind.u8 (sAt [] 0), PV.bool false, PV.top, PV.top, PV.top, PV.top,
                            PV.top, PV.top, PV.top, PV.top, PV.top, PV.top, PV.top, PV.sl [] Tag.full, PV.int IntKind.u8 (sAt [] 0), PV.sl [[PV.int IntKind.u8 (sAt [] 0)]] Tag.full,
                            PV.sl (xApp [] [[PV.int IntKind.u8 (sAt [] 0)]]) (Tag.tok 0), PV.top],
                          Store.mk [] [(nXs (xApp [] [[PV.int IntKind.u8 (sAt [] 0)]]), 1, 5)] []))
                      Tr.fail)
                    Tr.fail)
                  Tr.fail))
              Tr.fail)
            Tr.fail)
          (Tr.ret
            (PExit.exit 0, [9],
              [PV.str [], PV.top, PV.top, PV.top, PV.sl [] Tag.full, PV.top, PV.top, PV.top, PV.str [], PV.bool false, PV.top, PV.top, PV.top, PV.top, PV.top, PV.top, PV.top, PV.top, PV.top, PV.top, PV.top,
                PV.top, PV.top, PV.top, PV.top, PV.top, PV.top, PV.top, PV.top, PV.top, PV.top, PV.top],
              Store.mk [] [] []))) (by kernel_rfl) ?_
      exact ⟨fun h => by simp at h, fun h => ⟨rfl, by simp [Weak, mk, mkFrom, look], rfl⟩⟩
    | cons c t =>
      have e0 : sAt (c :: t) 0 = c.toNat := by simp
      have e1 : sSub (c :: t) (nNat 1) (nLen (c :: t)) = t := by simp
      have hc := c.toNat_lt
      have e7 := escN_rng t
      have e8 := escB_rng t
      simp at hlen
      simp only [okDec, decV, badL] at hr
      rw [decP, decL] at hr
      have x1 : xApp [] [[.int .u8 (c.toNat : Int)]] = bytesOf [c] := by simp [bytesOf]
      have x2 : xApp [] [[.int .u8 (escB t)]] = bytesOf [UInt8.ofNat (escB t).toNat] := xApp_byte [] e8
      refine LDoes.round tbT_ok hG noMixed (L := fun _ _ _ => .fail) (loopOk_none (by kernel_rfl)) (by kernel_rfl) ?_
      refine Tr.all_as (Tr.ite (sNe (c :: t) [])
          (Tr.ite (okIdx (c :: t) 0)
            (Tr.ite (okSub (okPos 1) true (nNat 1) (nLen (c :: t)) (nLen (c :: t)))
              (Tr.ite (iEq (sAt (c :: t) 0) 92)
                (Tr.ite (iEq (escN (sSub (c :: t) (nNat 1) (nLen (c :: t)))) 0)
                  (Tr.ret
                    (PExit.ret, [3, 2, 22, 15, 9],
                      [PV.str (sSub (c :: t) (nNat 1) (nLen (c :: t))), PV.top, PV.sl [] Tag.full, PV.bool false, PV.sl [] Tag.full, PV.int IntKind.u8 (sAt (c :: t) 0),
                        PV.int IntKind.u8 (escB (sSub (c :: t) (nNat 1) (nLen (c :: t)))), PV.int IntKind.i64 (escN (sSub (c :: t) (nNat 1) (nLen (c :: t)))), PV.str (c :: t), PV.bool true, PV.str (c :: t),
                        PV.int IntKind.u8 (sAt (c :: t) 0), PV.str (c :: t), PV.str (sSub (c :: t) (nNat 1) (nLen (c :: t))), PV.int IntKind.u8 (sAt (c :: t) 0), PV.bool true,
                        PV.tup [PV.int IntKind.u8 (escB (sSub (c :: t) (nNat 1) (nLen (c :: t)))), PV.int IntKind.i64 (escN (sSub (c :: t) (nNat 1) (nLen (c :: t))))],
                        PV.str (sSub (c :: t) (nNat 1) (nLen (c :: t))),
                        PV.tup [PV.int IntKind.u8 (escB (sSub (c :: t) (nNat 1) (nLen (c :: t)))), PV.int IntKind.i64 (escN (sSub (c :: t) (nNat 1) (nLen (c :: t))))],
                        PV.int IntKind.u8 (escB (sSub (c :: t) (nNat 1) (nLen (c :: t)))), PV.int IntKind.i64 (escN (sSub (c :: t) (nNat 1) (nLen (c :: t)))),
                        PV.int IntKind.i64 (escN (sSub (c :: t) (nNat 1) (nLen (c :: t)))), PV.bool true, PV.top, PV.top, PV.top, PV.top, PV.top, PV.top, PV.top, PV.top, PV.top],
                      Store.mk [] [] []))
                  (Tr.ite
                    (okSub (okPos (escN (sSub (c :: t) (nNat 1) (nLen (c :: t))))) true (nNat (escN (sSub (c :: t) (nNat 1) (nLen (c :: t))))) (nLen (sSub (c :: t) (nNat 1) (nLen (c :: t))))
                      (nLen (sSub (c :: t) (nNat 1) (nLen (c :: t)))))
                    (Tr.ite (okGrow [] [[PV.int IntKind.u8 (escB (sSub (c :: t) (nNat 1) (nLen (c :: t))))]] 1)
                      (Tr.ite (okNews [[PV.int IntKind.u8 (escB (sSub (c :: t) (nNat 1) (nLen (c :: t))))]] 1)
                        (Tr.ite (okSize [] 1)
                          (Tr.ret
                            (PExit.normal, [29, 22, 15, 9],
                              [PV.str (sSub (sSub (c :: t) (nNat 1) (nLen (c :: t))) (nNat (escN (sSub (c :: t) (nNat 1) (nLen (c :: t))))) (nLen (sSub (c :: t) (nNat 1) (nLen (c :: t))))), PV.top, PV.top,
                                PV.top, PV.sl (xApp [] [[PV.int IntKind.u8 (escB (sSub (c :: t) (nNat 1) (nLen (c :: t))))]]) (Tag.tok 0), PV.int IntKind.u8 (escB (sSub (c :: t) (nNat 1) (nLen (c :: t)))),
                                PV.int IntKind.u8 (escB (sSub (c :: t) (nNat 1) (nLen (c :: t)))), PV.int IntKind.i64 (escN (sSub (c :: t) (nNat 1) (nLen (c :: t)))), PV.str (c :: t), PV.bool true,
                                PV.str (c :: t), PV.int IntKind.u8 (sAt (c :: t) 0), PV.str (c :: t), PV.str (sSub (c :: t) (nNat 1) (nLen (c :: t))), PV.int IntKind.u8 (sAt (c :: t) 0), PV.bool true,
                                PV.tup [PV.int IntKind.u8 (escB (sSub (c :: t) (nNat 1) (nLen (c :: t)))), PV.int IntKind.i64 (escN (sSub (c :: t) (nNat 1) (nLen (c :: t))))],
                                PV.str (sSub (c :: t) (nNat 1) (nLen (c :: t))),
                                PV.tup [PV.int IntKind.u8 (escB (sSub (c :: t) (nNat 1) (nLen (c :: t)))), PV.int IntKind.i64 (escN (sSub (c :: t) (nNat 1) (nLen (c :: t))))],
                                PV.int IntKind.u8 (escB (sSub (c :: t) (nNat 1) (nLen (c :: t)))), PV.int IntKind.i64 (escN (sSub (c :: t) (nNat 1) (nLen (c :: t)))),
                                PV.int IntKind.i64 (escN (sSub (c :: t) (nNat 1) (nLen (c :: t)))), PV.bool false, PV.int IntKind.u8 (escB (sSub (c :: t) (nNat 1) (nLen (c :: t)))),
                                PV.str (sSub (c :: t) (nNat 1) (nLen (c :: t))), PV.int IntKind.i64 (escN (sSub (c :: t) (nNat 1) (nLen (c :: t)))),
                                PV.str (sSub (sSub (c :: t) (nNat 1) (nLen (c :: t))) (nNat (escN (sSub (c :: t) (nNat 1) (nLen (c :: t))))) (nLen (sSub (c :: t) (nNat 1) (nLen (c :: t))))),
                                PV.sl [] Tag.full, PV.int IntKind.u8 (escB (sSub (c :: t) (nNat 1) (nLen (c :: t)))), PV.sl [[PV.int IntKind.u8 (escB (sSub (c :: t) (nNat 1) (nLen (c :: t))))]] Tag.full,
                                PV.sl (xApp [] [[PV.int IntKind.u8 (escB (sSub (c :: t) (nNat 1) (nLen (c :: t))))]]) (Tag.tok 0), PV.top],
                              Store.mk [] [(nXs (xApp [] [[PV.int IntKind.u8 (escB (sSub (c :: t) (nNat 1) (nLen (c :: t))))]]), 1, 5)] []))
                          Tr.fail)
                        Tr.fail)
                      Tr.fail)
                    Tr.fail))
                (Tr.ite (okGrow [] [[PV.int IntKind.u8 (sAt (c :: t) 0)]] 1)
                  (Tr.ite (okNews [[PV.int IntKind.u8 (sAt (c :: t) 0)]] 1)
                    (Tr.ite (okSize [] 1)
                      (Tr.ret
                        (PExit.normal, [29, 15, 9],
                          [PV.str (sSub (c :: t) (nNat 1) (nLen (c :: t))), PV.top, PV.top, PV.top, PV.sl (xApp [] [[PV.int IntKind.u8 (sAt (c :: t) 0)]]) (Tag.tok 0), PV.int IntKind.u8 (sAt (c :: t) 0),
                            PV.top, PV.top, PV.str (c :: t), PV.bool true, PV.str (c :: t), PV.int IntKind.u8 (sAt (c :: t) 0), PV.str (c :: t), PV.str (sSub (c :: t) (nNat 1) (nLen (c :: t))),
                            PV.int IntKind.u8 (sAt (c :: t) 0), PV.bool false, PV.top, PV.top, PV.top, PV.top, PV.top, PV.top, PV.top, PV.top, PV.top, PV.top, PV.top, PV.sl [] Tag.full,
                            PV.int IntKind.u8 (sAt (c :: t) 0), PV.sl [[PV.int IntKind.u8 (sAt (c :: t) 0)]] Tag.full, PV.sl (xApp [] [[PV.int IntKind.u8 (sAt (c :: t) 0)]]) (Tag.tok 0), PV.top],
                          Store.mk [] [(nXs (xApp [] [[PV.int IntKind.u8 (sAt (c :: t) 0)]]), 1, 5)] []))
                      Tr.fail)
                    Tr.fail)
                  Tr.fail))
              Tr.fail)
            Tr.fail)
          (Tr.ret
            (PExit.exit 0, [9],
              [PV.str (c :: t), PV.top, PV.top, PV.top, PV.sl [] Tag.full, PV.top, PV.top, PV.top, PV.str (c :: t), PV.bool false, PV.top, PV.top, PV.top, PV.top, PV.top, PV.top, PV.top, PV.top, PV.top,
                PV.top, PV.top, PV.top, PV.top, PV.top, PV.top, PV.top, PV.top, PV.top, PV.top, PV.top, PV.top, PV.top],
              Store.mk [] [] []))) (by kernel_rfl) ?_
      rw [e1, e0, x1, x2]
      simp only [nXs_bytes]
      refine Tr.all_t (by simp) <| Tr.all_t (by simp) <| Tr.all_t (by simp) ?_
      by_cases h92 : c = 92
      · subst h92
        refine Tr.all_t (by simp) ?_
        by_cases hn : escN t = 0
        · simp [hn] at hr
          obtain ⟨rfl, rfl, rfl⟩ := hr
          exact Tr.all_t (by simp [hn]) ⟨rfl, by simp [Weak, mk, mkFrom, look], rfl⟩
        · refine Tr.all_f (by simp [hn]) <| Tr.all_t (by simp; omega) <| Tr.all_t (by simp) <| Tr.all_t (by simp [one]) <| Tr.all_t (by simp) ?_
          refine LDoes.into ?_ (key t.length ([UInt8.ofNat (escB t).toNat]) (t.drop (escN t).toNat) (by simp) (by simp) (by simp; omega) ?_)
          · simp [Weak, mk, mkFrom, look]
          · cases hd : decP (t.drop (escN t).toNat) with
            | none =>
              simp [hn, hd] at hr ⊢
              rw [Nat.add_comm]
              exact hr
            | some x =>
              simp [hn, hd] at hr ⊢
              exact hr
      · refine Tr.all_f (iEq_byte_ne (k := 92) h92) <| Tr.all_t (by simp) <| Tr.all_t (by simp [one]) <| Tr.all_t (by simp) ?_
        refine LDoes.into ?_ (key t.length [c] t (by omega) (by simp) (by simp; omega) ?_)
        · simp [Weak, mk, mkFrom, look]
        · cases hd : decP t with
          | none =>
            simp [h92, hd] at hr ⊢
            rw [Nat.add_comm]
            exact hr
          | some x =>
            simp [h92, hd] at hr ⊢
            exact hr
  · cases hd
theorem sim_symbol (gl : Nat → Option Obj) : SimP Tryd.prog gl 33 fun args => (F_symbol args).run := by
  refine SimP.of_tree (G := ofL [(55, .pure F_escape)]) (L := L_symbol) tbT_ok (gamOk_cons (sim_escape gl) gamOk_nil) noMixed Tryd.func33 rfl (by rfl) (by kernel_rfl) (loopOk_one (r := 2) (c1 := c_symbol) (by kernel_rfl) ?_) ?_
  · intro fr σ e fr' σ' hh
    simp only [lps, L_symbol, if_true] at hh
    exact oracle_ok (loop_symbol gl) fr σ e fr' σ' hh
  intro args x h hr
  unfold F_symbol at h
  split at h
  · rename_i s
    obtain ⟨h1, h2⟩ := Tr.chk_some h
    refine Tr.run_as (Tr.ite (okLen s)
        (Tr.ite (okDec s) (Tr.ite (sEq (decV s) []) (Tr.ret (PV.tup [PV.sl [] Tag.non, PV.bool true])) (Tr.ret (PV.tup [PV.sl (shutLL (bytesOf (decV s))) Tag.non, PV.bool true])))
          (Tr.ite (nEq (badL s) 0) (Tr.ret (PV.tup [PV.sl [] Tag.non, PV.bool false])) (Tr.ret (PV.tup [PV.sl [] Tag.non, PV.bool false]))))
        Tr.fail) (by kernel_rfl) ?_
    by_cases hd : okDec s = true
    · by_cases he : decV s = []
      · simp [hd, he] at h2 ⊢
        simp at h1
        exact ⟨h1, h2⟩
      · simp [hd, he] at h2 ⊢
        simp at h1
        exact ⟨h1, h2⟩
    · by_cases he : badL s = 0
      · simp [hd, he] at h2 ⊢
        simp at h1
        exact ⟨h1, h2⟩
      · simp [hd, he] at h2 ⊢
        simp at h1
        exact ⟨h1, h2⟩
  · cases h
end Go.Pv
