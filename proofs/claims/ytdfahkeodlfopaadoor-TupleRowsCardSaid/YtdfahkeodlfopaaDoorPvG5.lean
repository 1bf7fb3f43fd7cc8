/- Part 5 of the proof: pure values for the machine's values, what functions compute over them, and laws of what is computed. Conditions: none beyond each theorem's own premises. -/
import Derived.Test.YtdfahkeodlfopaaDoorPvG4
set_option maxHeartbeats 4000000
set_option maxRecDepth 200000
set_option linter.unusedSimpArgs false
set_option linter.unusedVariables false
namespace Go.Pv
open Go Go.Proofs
variable [RecW]
noncomputable def G_sym : GamT := ofL [(16, .pure F_TCmp), (120, .store D_rec), (133, .store D_rot)]
theorem gok_sym (gl : Nat → Option Obj) (hN : SimS Tryd.prog gl 120 fun args σ => (D_rec args σ).run) : GamOk Tryd.prog gl (gam G_sym) := (gamOk_cons (sim_TCmp gl) (gamOk_store hN (gamOk_store (sim_rot gl) gamOk_nil)))
noncomputable def c_sym1 : Code := loopC Tryd.f120 3
noncomputable def c_sym2 : Code := loopC Tryd.f120 9
noncomputable def c_sym3 : Code := loopC Tryd.f120 15
noncomputable def c_sym4 : Code := loopC Tryd.f120 21
noncomputable def c_sym5 : Code := loopC Tryd.f120 33
def I_sym1 : LI := ⟨220, [0, 1, 4, 10, 11], fun e => match e with | .exit 0 => [0, 1, 10] | _ => [], false⟩
noncomputable def LI_sym1 : LpsT := fun r fr σ => .fail
noncomputable def sym1_V (vs : List PV) (σ : Store) : Option (PExit × List PV × Store) := lval (lstep tbT G_sym LI_sym1 c_sym1 I_sym1) vs σ
noncomputable def sym1_Tr (o : Nat) (m : Nat) (n : Int) (n2 : Int) (n3 : Int) (l : List PV) (l2 : List PV) (rest : List (List PV)) (toks : List (Nat × Nat × TypeId)) (tys : List TypeId) : Tr LR := Tr.ite (iLt n2 n3)
  (Tr.ite (okIx (iWrap .i64 (iShr .u64 (iWrap .u64 (iAdd .i64 n2 n3)) 1)) m)
    (Tr.ite (okCell [PV.sl [] .full] l2 (pOff o (nNat (iWrap .i64 (iShr .u64 (iWrap .u64 (iAdd .i64 n2 n3)) 1))) 1))
      (Tr.ite (okIx n m)
        (Tr.ite (okCell [PV.sl [] .full] l2 (pOff o (nNat n) 1))
          (Tr.ite (okR cV (lockLL (lockLL (cRow l2 (pOff o (nNat (iWrap .i64 (iShr .u64 (iWrap .u64 (iAdd .i64 n2 n3)) 1))) 1) 0))))
            (Tr.ite (okR cV (lockLL (lockLL (cRow l2 (pOff o (nNat n) 1) 0))))
              (Tr.ite
                (iLt
                  (cmpTV (lockLL (lockLL (cRow l2 (pOff o (nNat (iWrap .i64 (iShr .u64 (iWrap .u64 (iAdd .i64 n2 n3)) 1))) 1) 0)))
                    (lockLL (lockLL (cRow l2 (pOff o (nNat n) 1) 0))))
                  0)
                (Tr.ret
                  (LR.next
                    [PV.osl 1 o m 1, PV.int .i64 n, PV.fn 16 [],
                      PV.int .i64 (iAdd .i64 (iWrap .i64 (iShr .u64 (iWrap .u64 (iAdd .i64 n2 n3)) 1)) 1), PV.int .i64 n3]
                    (Store.mk (l :: l2 :: rest) toks (82 :: 1000023 :: tys))))
                (Tr.ret
                  (LR.next
                    [PV.osl 1 o m 1, PV.int .i64 n, PV.fn 16 [], PV.int .i64 n2,
                      PV.int .i64 (iWrap .i64 (iShr .u64 (iWrap .u64 (iAdd .i64 n2 n3)) 1))]
                    (Store.mk (l :: l2 :: rest) toks (82 :: 1000023 :: tys)))))
              Tr.fail)
            Tr.fail)
          Tr.fail)
        Tr.fail)
      Tr.fail)
    Tr.fail)
  (Tr.ret (LR.out (.exit 0) [PV.osl 1 o m 1, PV.int .i64 n, PV.int .i64 n2] (Store.mk (l :: l2 :: rest) toks (82 :: 1000023 :: tys))))
theorem sym1_T (o : Nat) (m : Nat) (n : Int) (n2 : Int) (n3 : Int) (l : List PV) (l2 : List PV) (rest : List (List PV)) (toks : List (Nat × Nat × TypeId)) (tys : List TypeId) : lstep tbT G_sym LI_sym1 c_sym1 I_sym1 [.osl 1 o m 1, .int .i64 n, .fn 16 [], .int .i64 n2, .int .i64 n3] ⟨(l :: l2 :: rest), (toks), (82 :: 1000023 :: tys)⟩ = sym1_Tr o m n n2 n3 l l2 rest toks tys := by kernel_rfl
theorem sym1_E (o : Nat) (m : Nat) (n : Int) (n2 : Int) (n3 : Int) (l : List PV) (l2 : List PV) (rest : List (List PV)) (toks : List (Nat × Nat × TypeId)) (tys : List TypeId) : sym1_V [.osl 1 o m 1, .int .i64 n, .fn 16 [], .int .i64 n2, .int .i64 n3] ⟨(l :: l2 :: rest), (toks), (82 :: 1000023 :: tys)⟩ = lnext sym1_V (sym1_Tr o m n n2 n3 l l2 rest toks tys).run := by unfold sym1_V; rw [lval_eq, sym1_T]
noncomputable def sym1_W (o : Nat) (m : Nat) (n : Int) (n2 : Int) (n3 : Int) (l : List PV) (l2 : List PV) (rest : List (List PV)) (toks : List (Nat × Nat × TypeId)) (tys : List TypeId) : Option (PExit × List PV × Store) := sym1_V [.osl 1 o m 1, .int .i64 n, .fn 16 [], .int .i64 n2, .int .i64 n3] ⟨(l :: l2 :: rest), (toks), (82 :: 1000023 :: tys)⟩
noncomputable def sym1_n2 (o : Nat) (m : Nat) (n : Int) (n2 : Int) (n3 : Int) (l : List PV) (l2 : List PV) (rest : List (List PV)) (toks : List (Nat × Nat × TypeId)) (tys : List TypeId) : Int := (gInt (gOut (sym1_W o m n n2 n3 l l2 rest toks tys) 2))
noncomputable def sym1_l2 (o : Nat) (m : Nat) (n : Int) (n2 : Int) (n3 : Int) (l : List PV) (l2 : List PV) (rest : List (List PV)) (toks : List (Nat × Nat × TypeId)) (tys : List TypeId) : List PV := (gObj (sym1_W o m n n2 n3 l l2 rest toks tys) 1)
noncomputable def sym1_is0 (o : Nat) (m : Nat) (n : Int) (n2 : Int) (n3 : Int) (l : List PV) (l2 : List PV) (rest : List (List PV)) (toks : List (Nat × Nat × TypeId)) (tys : List TypeId) : Bool := isW (sym1_W o m n n2 n3 l l2 rest toks tys) ((.exit 0), [.osl 1 o m 1, .int .i64 n, .int .i64 (sym1_n2 o m n n2 n3 l l2 rest toks tys)], ⟨(l :: (sym1_l2 o m n n2 n3 l l2 rest toks tys) :: rest), (toks), (82 :: 1000023 :: tys)⟩)
noncomputable def sym1_prop : List PV → Store → Tr (PExit × List PV × Store) | [.osl 1 o m 1, .int .i64 n, .fn 16 [], .int .i64 n2, .int .i64 n3], ⟨(l :: l2 :: rest), (toks), (82 :: 1000023 :: tys)⟩ => .ite (sym1_is0 o m n n2 n3 l l2 rest toks tys) (.ret ((.exit 0), [.osl 1 o m 1, .int .i64 n, .int .i64 (sym1_n2 o m n n2 n3 l l2 rest toks tys)], ⟨(l :: (sym1_l2 o m n n2 n3 l l2 rest toks tys) :: rest), (toks), (82 :: 1000023 :: tys)⟩)) (.fail) | _, _ => .fail
theorem sym1_ok : ∀ vs σ r, (sym1_prop vs σ).run = some r → sym1_V vs σ = some r := by
  intro vs σ r h
  unfold sym1_prop at h
  split at h
  · exact ite_isW h fun h => by cases h
  · cases h
theorem loop_sym1 (gl : Nat → Option Obj) (hN : SimS Tryd.prog gl 120 fun args σ => (D_rec args σ).run) : ∀ fr σ e fr' σ', (orc I_sym1 sym1_prop fr σ).run = some (e, fr', σ') → LDoes Tryd.prog gl c_sym1 fr σ e fr' σ' := orc_ok tbT_ok (gok_sym gl hN ) noMixed (L := LI_sym1) (loopOk_none (by kernel_rfl)) (by kernel_rfl) sym1_ok
def I_sym2 : LI := ⟨220, [0, 10, 13], fun e => match e with | .exit 2 => [] | _ => [], false⟩
noncomputable def LI_sym2 : LpsT := fun r fr σ => .fail
noncomputable def sym2_V (vs : List PV) (σ : Store) : Option (PExit × List PV × Store) := lval (lstep tbT G_sym LI_sym2 c_sym2 I_sym2) vs σ
noncomputable def sym2_Tr (o : Nat) (m : Nat) (n : Int) (n2 : Int) (l : List PV) (l2 : List PV) (rest : List (List PV)) (toks : List (Nat × Nat × TypeId)) (tys : List TypeId) : Tr LR := Tr.ite (iLt n2 (iSub .i64 n 1))
  (Tr.ite (okIx (iAdd .i64 n2 1) m)
    (Tr.ite (okCell [PV.sl [] .full] l2 (pOff o (nNat (iAdd .i64 n2 1)) 1))
      (Tr.ite (okIx n2 m)
        (Tr.ite (okCell [PV.sl [] .full] l2 (pOff o (nNat n2) 1))
          (Tr.ite (okIx n2 m)
            (Tr.ite (okOff l2 (pOff o (nNat n2) 1) 1)
              (Tr.ite (okIx (iAdd .i64 n2 1) m)
                (Tr.ite (okOff (putC l2 (pOff o (nNat n2) 1) [PV.sl (cRow l2 (pOff o (nNat (iAdd .i64 n2 1)) 1) 0) .non]) (pOff o (nNat (iAdd .i64 n2 1)) 1) 1)
                  (Tr.ret
                    (LR.next [PV.osl 1 o m 1, PV.int .i64 n, PV.int .i64 (iAdd .i64 n2 1)]
                      (Store.mk
                        (l ::
                          putC (putC l2 (pOff o (nNat n2) 1) [PV.sl (cRow l2 (pOff o (nNat (iAdd .i64 n2 1)) 1) 0) .non]) (pOff o (nNat (iAdd .i64 n2 1)) 1)
                              [PV.sl (cRow l2 (pOff o (nNat n2) 1) 0) .non] ::
                            rest)
                        toks (82 :: 1000023 :: tys))))
                  Tr.fail)
                Tr.fail)
              Tr.fail)
            Tr.fail)
          Tr.fail)
        Tr.fail)
      Tr.fail)
    Tr.fail)
  (Tr.ret (LR.out (.exit 2) [] (Store.mk (l :: l2 :: rest) toks (82 :: 1000023 :: tys))))
theorem sym2_T (o : Nat) (m : Nat) (n : Int) (n2 : Int) (l : List PV) (l2 : List PV) (rest : List (List PV)) (toks : List (Nat × Nat × TypeId)) (tys : List TypeId) : lstep tbT G_sym LI_sym2 c_sym2 I_sym2 [.osl 1 o m 1, .int .i64 n, .int .i64 n2] ⟨(l :: l2 :: rest), (toks), (82 :: 1000023 :: tys)⟩ = sym2_Tr o m n n2 l l2 rest toks tys := by kernel_rfl
theorem sym2_E (o : Nat) (m : Nat) (n : Int) (n2 : Int) (l : List PV) (l2 : List PV) (rest : List (List PV)) (toks : List (Nat × Nat × TypeId)) (tys : List TypeId) : sym2_V [.osl 1 o m 1, .int .i64 n, .int .i64 n2] ⟨(l :: l2 :: rest), (toks), (82 :: 1000023 :: tys)⟩ = lnext sym2_V (sym2_Tr o m n n2 l l2 rest toks tys).run := by unfold sym2_V; rw [lval_eq, sym2_T]
noncomputable def sym2_W (o : Nat) (m : Nat) (n : Int) (n2 : Int) (l : List PV) (l2 : List PV) (rest : List (List PV)) (toks : List (Nat × Nat × TypeId)) (tys : List TypeId) : Option (PExit × List PV × Store) := sym2_V [.osl 1 o m 1, .int .i64 n, .int .i64 n2] ⟨(l :: l2 :: rest), (toks), (82 :: 1000023 :: tys)⟩
noncomputable def sym2_l2 (o : Nat) (m : Nat) (n : Int) (n2 : Int) (l : List PV) (l2 : List PV) (rest : List (List PV)) (toks : List (Nat × Nat × TypeId)) (tys : List TypeId) : List PV := (gObj (sym2_W o m n n2 l l2 rest toks tys) 1)
noncomputable def sym2_is0 (o : Nat) (m : Nat) (n : Int) (n2 : Int) (l : List PV) (l2 : List PV) (rest : List (List PV)) (toks : List (Nat × Nat × TypeId)) (tys : List TypeId) : Bool := isW (sym2_W o m n n2 l l2 rest toks tys) ((.exit 2), [], ⟨(l :: (sym2_l2 o m n n2 l l2 rest toks tys) :: rest), (toks), (82 :: 1000023 :: tys)⟩)
noncomputable def sym2_prop : List PV → Store → Tr (PExit × List PV × Store) | [.osl 1 o m 1, .int .i64 n, .int .i64 n2], ⟨(l :: l2 :: rest), (toks), (82 :: 1000023 :: tys)⟩ => .ite (sym2_is0 o m n n2 l l2 rest toks tys) (.ret ((.exit 2), [], ⟨(l :: (sym2_l2 o m n n2 l l2 rest toks tys) :: rest), (toks), (82 :: 1000023 :: tys)⟩)) (.fail) | _, _ => .fail
theorem sym2_ok : ∀ vs σ r, (sym2_prop vs σ).run = some r → sym2_V vs σ = some r := by
  intro vs σ r h
  unfold sym2_prop at h
  split at h
  · exact ite_isW h fun h => by cases h
  · cases h
theorem loop_sym2 (gl : Nat → Option Obj) (hN : SimS Tryd.prog gl 120 fun args σ => (D_rec args σ).run) : ∀ fr σ e fr' σ', (orc I_sym2 sym2_prop fr σ).run = some (e, fr', σ') → LDoes Tryd.prog gl c_sym2 fr σ e fr' σ' := orc_ok tbT_ok (gok_sym gl hN ) noMixed (L := LI_sym2) (loopOk_none (by kernel_rfl)) (by kernel_rfl) sym2_ok
def I_sym3 : LI := ⟨220, [0, 2, 4, 14, 15], fun e => match e with | .exit 4 => [0, 2, 14] | _ => [], false⟩
noncomputable def LI_sym3 : LpsT := fun r fr σ => .fail
noncomputable def sym3_V (vs : List PV) (σ : Store) : Option (PExit × List PV × Store) := lval (lstep tbT G_sym LI_sym3 c_sym3 I_sym3) vs σ
noncomputable def sym3_Tr (o : Nat) (m : Nat) (n : Int) (n2 : Int) (n3 : Int) (l : List PV) (l2 : List PV) (rest : List (List PV)) (toks : List (Nat × Nat × TypeId)) (tys : List TypeId) : Tr LR := Tr.ite (iLt n2 n3)
  (Tr.ite (okIx n m)
    (Tr.ite (okCell [PV.sl [] .full] l2 (pOff o (nNat n) 1))
      (Tr.ite (okIx (iWrap .i64 (iShr .u64 (iWrap .u64 (iAdd .i64 n2 n3)) 1)) m)
        (Tr.ite (okCell [PV.sl [] .full] l2 (pOff o (nNat (iWrap .i64 (iShr .u64 (iWrap .u64 (iAdd .i64 n2 n3)) 1))) 1))
          (Tr.ite (okR cV (lockLL (lockLL (cRow l2 (pOff o (nNat n) 1) 0))))
            (Tr.ite (okR cV (lockLL (lockLL (cRow l2 (pOff o (nNat (iWrap .i64 (iShr .u64 (iWrap .u64 (iAdd .i64 n2 n3)) 1))) 1) 0))))
              (Tr.ite
                (bNot
                  (iLt
                    (cmpTV (lockLL (lockLL (cRow l2 (pOff o (nNat n) 1) 0)))
                      (lockLL (lockLL (cRow l2 (pOff o (nNat (iWrap .i64 (iShr .u64 (iWrap .u64 (iAdd .i64 n2 n3)) 1))) 1) 0))))
                    0))
                (Tr.ret
                  (LR.next
                    [PV.osl 1 o m 1, PV.int .i64 n, PV.fn 16 [],
                      PV.int .i64 (iAdd .i64 (iWrap .i64 (iShr .u64 (iWrap .u64 (iAdd .i64 n2 n3)) 1)) 1), PV.int .i64 n3]
                    (Store.mk (l :: l2 :: rest) toks (82 :: 1000023 :: tys))))
                (Tr.ret
                  (LR.next
                    [PV.osl 1 o m 1, PV.int .i64 n, PV.fn 16 [], PV.int .i64 n2,
                      PV.int .i64 (iWrap .i64 (iShr .u64 (iWrap .u64 (iAdd .i64 n2 n3)) 1))]
                    (Store.mk (l :: l2 :: rest) toks (82 :: 1000023 :: tys)))))
              Tr.fail)
            Tr.fail)
          Tr.fail)
        Tr.fail)
      Tr.fail)
    Tr.fail)
  (Tr.ret (LR.out (.exit 4) [PV.osl 1 o m 1, PV.int .i64 n, PV.int .i64 n2] (Store.mk (l :: l2 :: rest) toks (82 :: 1000023 :: tys))))
theorem sym3_T (o : Nat) (m : Nat) (n : Int) (n2 : Int) (n3 : Int) (l : List PV) (l2 : List PV) (rest : List (List PV)) (toks : List (Nat × Nat × TypeId)) (tys : List TypeId) : lstep tbT G_sym LI_sym3 c_sym3 I_sym3 [.osl 1 o m 1, .int .i64 n, .fn 16 [], .int .i64 n2, .int .i64 n3] ⟨(l :: l2 :: rest), (toks), (82 :: 1000023 :: tys)⟩ = sym3_Tr o m n n2 n3 l l2 rest toks tys := by kernel_rfl
theorem sym3_E (o : Nat) (m : Nat) (n : Int) (n2 : Int) (n3 : Int) (l : List PV) (l2 : List PV) (rest : List (List PV)) (toks : List (Nat × Nat × TypeId)) (tys : List TypeId) : sym3_V [.osl 1 o m 1, .int .i64 n, .fn 16 [], .int .i64 n2, .int .i64 n3] ⟨(l :: l2 :: rest), (toks), (82 :: 1000023 :: tys)⟩ = lnext sym3_V (sym3_Tr o m n n2 n3 l l2 rest toks tys).run := by unfold sym3_V; rw [lval_eq, sym3_T]
noncomputable def sym3_W (o : Nat) (m : Nat) (n : Int) (n2 : Int) (n3 : Int) (l : List PV) (l2 : List PV) (rest : List (List PV)) (toks : List (Nat × Nat × TypeId)) (tys : List TypeId) : Option (PExit × List PV × Store) := sym3_V [.osl 1 o m 1, .int .i64 n, .fn 16 [], .int .i64 n2, .int .i64 n3] ⟨(l :: l2 :: rest), (toks), (82 :: 1000023 :: tys)⟩
noncomputable def sym3_n2 (o : Nat) (m : Nat) (n : Int) (n2 : Int) (n3 : Int) (l : List PV) (l2 : List PV) (rest : List (List PV)) (toks : List (Nat × Nat × TypeId)) (tys : List TypeId) : Int := (gInt (gOut (sym3_W o m n n2 n3 l l2 rest toks tys) 2))
noncomputable def sym3_l2 (o : Nat) (m : Nat) (n : Int) (n2 : Int) (n3 : Int) (l : List PV) (l2 : List PV) (rest : List (List PV)) (toks : List (Nat × Nat × TypeId)) (tys : List TypeId) : List PV := (gObj (sym3_W o m n n2 n3 l l2 rest toks tys) 1)
noncomputable def sym3_is0 (o : Nat) (m : Nat) (n : Int) (n2 : Int) (n3 : Int) (l : List PV) (l2 : List PV) (rest : List (List PV)) (toks : List (Nat × Nat × TypeId)) (tys : List TypeId) : Bool := isW (sym3_W o m n n2 n3 l l2 rest toks tys) ((.exit 4), [.osl 1 o m 1, .int .i64 n, .int .i64 (sym3_n2 o m n n2 n3 l l2 rest toks tys)], ⟨(l :: (sym3_l2 o m n n2 n3 l l2 rest toks tys) :: rest), (toks), (82 :: 1000023 :: tys)⟩)
noncomputable def sym3_prop : List PV → Store → Tr (PExit × List PV × Store) | [.osl 1 o m 1, .int .i64 n, .fn 16 [], .int .i64 n2, .int .i64 n3], ⟨(l :: l2 :: rest), (toks), (82 :: 1000023 :: tys)⟩ => .ite (sym3_is0 o m n n2 n3 l l2 rest toks tys) (.ret ((.exit 4), [.osl 1 o m 1, .int .i64 n, .int .i64 (sym3_n2 o m n n2 n3 l l2 rest toks tys)], ⟨(l :: (sym3_l2 o m n n2 n3 l l2 rest toks tys) :: rest), (toks), (82 :: 1000023 :: tys)⟩)) (.fail) | _, _ => .fail
theorem sym3_ok : ∀ vs σ r, (sym3_prop vs σ).run = some r → sym3_V vs σ = some r := by
  intro vs σ r h
  unfold sym3_prop at h
  split at h
  · exact ite_isW h fun h => by cases h
  · cases h
theorem loop_sym3 (gl : Nat → Option Obj) (hN : SimS Tryd.prog gl 120 fun args σ => (D_rec args σ).run) : ∀ fr σ e fr' σ', (orc I_sym3 sym3_prop fr σ).run = some (e, fr', σ') → LDoes Tryd.prog gl c_sym3 fr σ e fr' σ' := orc_ok tbT_ok (gok_sym gl hN ) noMixed (L := LI_sym3) (loopOk_none (by kernel_rfl)) (by kernel_rfl) sym3_ok
def I_sym4 : LI := ⟨220, [0, 14, 17], fun e => match e with | .exit 6 => [] | _ => [], false⟩
noncomputable def LI_sym4 : LpsT := fun r fr σ => .fail
noncomputable def sym4_V (vs : List PV) (σ : Store) : Option (PExit × List PV × Store) := lval (lstep tbT G_sym LI_sym4 c_sym4 I_sym4) vs σ
noncomputable def sym4_Tr (o : Nat) (m : Nat) (n : Int) (n2 : Int) (l : List PV) (l2 : List PV) (rest : List (List PV)) (toks : List (Nat × Nat × TypeId)) (tys : List TypeId) : Tr LR := Tr.ite (iLt n n2)
  (Tr.ite (okIx (iSub .i64 n2 1) m)
    (Tr.ite (okCell [PV.sl [] .full] l2 (pOff o (nNat (iSub .i64 n2 1)) 1))
      (Tr.ite (okIx n2 m)
        (Tr.ite (okCell [PV.sl [] .full] l2 (pOff o (nNat n2) 1))
          (Tr.ite (okIx n2 m)
            (Tr.ite (okOff l2 (pOff o (nNat n2) 1) 1)
              (Tr.ite (okIx (iSub .i64 n2 1) m)
                (Tr.ite (okOff (putC l2 (pOff o (nNat n2) 1) [PV.sl (cRow l2 (pOff o (nNat (iSub .i64 n2 1)) 1) 0) .non]) (pOff o (nNat (iSub .i64 n2 1)) 1) 1)
                  (Tr.ret
                    (LR.next [PV.osl 1 o m 1, PV.int .i64 n, PV.int .i64 (iSub .i64 n2 1)]
                      (Store.mk
                        (l ::
                          putC (putC l2 (pOff o (nNat n2) 1) [PV.sl (cRow l2 (pOff o (nNat (iSub .i64 n2 1)) 1) 0) .non]) (pOff o (nNat (iSub .i64 n2 1)) 1)
                              [PV.sl (cRow l2 (pOff o (nNat n2) 1) 0) .non] ::
                            rest)
                        toks (82 :: 1000023 :: tys))))
                  Tr.fail)
                Tr.fail)
              Tr.fail)
            Tr.fail)
          Tr.fail)
        Tr.fail)
      Tr.fail)
    Tr.fail)
  (Tr.ret (LR.out (.exit 6) [] (Store.mk (l :: l2 :: rest) toks (82 :: 1000023 :: tys))))
theorem sym4_T (o : Nat) (m : Nat) (n : Int) (n2 : Int) (l : List PV) (l2 : List PV) (rest : List (List PV)) (toks : List (Nat × Nat × TypeId)) (tys : List TypeId) : lstep tbT G_sym LI_sym4 c_sym4 I_sym4 [.osl 1 o m 1, .int .i64 n, .int .i64 n2] ⟨(l :: l2 :: rest), (toks), (82 :: 1000023 :: tys)⟩ = sym4_Tr o m n n2 l l2 rest toks tys := by kernel_rfl
theorem sym4_E (o : Nat) (m : Nat) (n : Int) (n2 : Int) (l : List PV) (l2 : List PV) (rest : List (List PV)) (toks : List (Nat × Nat × TypeId)) (tys : List TypeId) : sym4_V [.osl 1 o m 1, .int .i64 n, .int .i64 n2] ⟨(l :: l2 :: rest), (toks), (82 :: 1000023 :: tys)⟩ = lnext sym4_V (sym4_Tr o m n n2 l l2 rest toks tys).run := by unfold sym4_V; rw [lval_eq, sym4_T]
noncomputable def sym4_W (o : Nat) (m : Nat) (n : Int) (n2 : Int) (l : List PV) (l2 : List PV) (rest : List (List PV)) (toks : List (Nat × Nat × TypeId)) (tys : List TypeId) : Option (PExit × List PV × Store) := sym4_V [.osl 1 o m 1, .int .i64 n, .int .i64 n2] ⟨(l :: l2 :: rest), (toks), (82 :: 1000023 :: tys)⟩
noncomputable def sym4_l2 (o : Nat) (m : Nat) (n : Int) (n2 : Int) (l : List PV) (l2 : List PV) (rest : List (List PV)) (toks : List (Nat × Nat × TypeId)) (tys : List TypeId) : List PV := (gObj (sym4_W o m n n2 l l2 rest toks tys) 1)
noncomputable def sym4_is0 (o : Nat) (m : Nat) (n : Int) (n2 : Int) (l : List PV) (l2 : List PV) (rest : List (List PV)) (toks : List (Nat × Nat × TypeId)) (tys : List TypeId) : Bool := isW (sym4_W o m n n2 l l2 rest toks tys) ((.exit 6), [], ⟨(l :: (sym4_l2 o m n n2 l l2 rest toks tys) :: rest), (toks), (82 :: 1000023 :: tys)⟩)
noncomputable def sym4_prop : List PV → Store → Tr (PExit × List PV × Store) | [.osl 1 o m 1, .int .i64 n, .int .i64 n2], ⟨(l :: l2 :: rest), (toks), (82 :: 1000023 :: tys)⟩ => .ite (sym4_is0 o m n n2 l l2 rest toks tys) (.ret ((.exit 6), [], ⟨(l :: (sym4_l2 o m n n2 l l2 rest toks tys) :: rest), (toks), (82 :: 1000023 :: tys)⟩)) (.fail) | _, _ => .fail
theorem sym4_ok : ∀ vs σ r, (sym4_prop vs σ).run = some r → sym4_V vs σ = some r := by
  intro vs σ r h
  unfold sym4_prop at h
  split at h
  · exact ite_isW h fun h => by cases h
  · cases h
theorem loop_sym4 (gl : Nat → Option Obj) (hN : SimS Tryd.prog gl 120 fun args σ => (D_rec args σ).run) : ∀ fr σ e fr' σ', (orc I_sym4 sym4_prop fr σ).run = some (e, fr', σ') → LDoes Tryd.prog gl c_sym4 fr σ e fr' σ' := orc_ok tbT_ok (gok_sym gl hN ) noMixed (L := LI_sym4) (loopOk_none (by kernel_rfl)) (by kernel_rfl) sym4_ok
def I_sym5 : LI := ⟨220, [0, 1, 2, 3, 4, 18, 19, 20, 21, 22], fun e => match e with | .exit 8 => [0, 1, 2, 3, 4, 18, 19, 20] | _ => [], false⟩
noncomputable def LI_sym5 : LpsT := fun r fr σ => .fail
noncomputable def sym5_V (vs : List PV) (σ : Store) : Option (PExit × List PV × Store) := lval (lstep tbT G_sym LI_sym5 c_sym5 I_sym5) vs σ
noncomputable def sym5_Tr (o : Nat) (m : Nat) (n : Int) (n2 : Int) (n3 : Int) (n4 : Int) (n5 : Int) (n6 : Int) (n7 : Int) (n8 : Int) (l : List PV) (l2 : List PV) (rest : List (List PV)) (toks : List (Nat × Nat × TypeId)) (tys : List TypeId) : Tr LR := Tr.ite (iLt n6 n7)
  (Tr.ite (okIx (iSub .i64 n8 (iWrap .i64 (iShr .u64 (iWrap .u64 (iAdd .i64 n6 n7)) 1))) m)
    (Tr.ite (okCell [PV.sl [] .full] l2 (pOff o (nNat (iSub .i64 n8 (iWrap .i64 (iShr .u64 (iWrap .u64 (iAdd .i64 n6 n7)) 1)))) 1))
      (Tr.ite (okIx (iWrap .i64 (iShr .u64 (iWrap .u64 (iAdd .i64 n6 n7)) 1)) m)
        (Tr.ite (okCell [PV.sl [] .full] l2 (pOff o (nNat (iWrap .i64 (iShr .u64 (iWrap .u64 (iAdd .i64 n6 n7)) 1))) 1))
          (Tr.ite
            (okR cV (lockLL (lockLL (cRow l2 (pOff o (nNat (iSub .i64 n8 (iWrap .i64 (iShr .u64 (iWrap .u64 (iAdd .i64 n6 n7)) 1)))) 1) 0))))
            (Tr.ite (okR cV (lockLL (lockLL (cRow l2 (pOff o (nNat (iWrap .i64 (iShr .u64 (iWrap .u64 (iAdd .i64 n6 n7)) 1))) 1) 0))))
              (Tr.ite
                (bNot
                  (iLt
                    (cmpTV
                      (lockLL (lockLL (cRow l2 (pOff o (nNat (iSub .i64 n8 (iWrap .i64 (iShr .u64 (iWrap .u64 (iAdd .i64 n6 n7)) 1)))) 1) 0)))
                      (lockLL (lockLL (cRow l2 (pOff o (nNat (iWrap .i64 (iShr .u64 (iWrap .u64 (iAdd .i64 n6 n7)) 1))) 1) 0))))
                    0))
                (Tr.ret
                  (LR.next
                    [PV.osl 1 o m 1, PV.int .i64 n, PV.int .i64 n2, PV.int .i64 n3, PV.fn 16 [], PV.int .i64 n4, PV.int .i64 n5,
                      PV.int .i64 (iAdd .i64 (iWrap .i64 (iShr .u64 (iWrap .u64 (iAdd .i64 n6 n7)) 1)) 1), PV.int .i64 n7,
                      PV.int .i64 n8]
                    (Store.mk (l :: l2 :: rest) toks (82 :: 1000023 :: tys))))
                (Tr.ret
                  (LR.next
                    [PV.osl 1 o m 1, PV.int .i64 n, PV.int .i64 n2, PV.int .i64 n3, PV.fn 16 [], PV.int .i64 n4, PV.int .i64 n5,
                      PV.int .i64 n6, PV.int .i64 (iWrap .i64 (iShr .u64 (iWrap .u64 (iAdd .i64 n6 n7)) 1)), PV.int .i64 n8]
                    (Store.mk (l :: l2 :: rest) toks (82 :: 1000023 :: tys)))))
              Tr.fail)
            Tr.fail)
          Tr.fail)
        Tr.fail)
      Tr.fail)
    Tr.fail)
  (Tr.ret
    (LR.out (.exit 8)
      [PV.osl 1 o m 1, PV.int .i64 n, PV.int .i64 n2, PV.int .i64 n3, PV.fn 16 [], PV.int .i64 n4, PV.int .i64 n5, PV.int .i64 n6]
      (Store.mk (l :: l2 :: rest) toks (82 :: 1000023 :: tys))))
theorem sym5_T (o : Nat) (m : Nat) (n : Int) (n2 : Int) (n3 : Int) (n4 : Int) (n5 : Int) (n6 : Int) (n7 : Int) (n8 : Int) (l : List PV) (l2 : List PV) (rest : List (List PV)) (toks : List (Nat × Nat × TypeId)) (tys : List TypeId) : lstep tbT G_sym LI_sym5 c_sym5 I_sym5 [.osl 1 o m 1, .int .i64 n, .int .i64 n2, .int .i64 n3, .fn 16 [], .int .i64 n4, .int .i64 n5, .int .i64 n6, .int .i64 n7, .int .i64 n8] ⟨(l :: l2 :: rest), (toks), (82 :: 1000023 :: tys)⟩ = sym5_Tr o m n n2 n3 n4 n5 n6 n7 n8 l l2 rest toks tys := by kernel_rfl
theorem sym5_E (o : Nat) (m : Nat) (n : Int) (n2 : Int) (n3 : Int) (n4 : Int) (n5 : Int) (n6 : Int) (n7 : Int) (n8 : Int) (l : List PV) (l2 : List PV) (rest : List (List PV)) (toks : List (Nat × Nat × TypeId)) (tys : List TypeId) : sym5_V [.osl 1 o m 1, .int .i64 n, .int .i64 n2, .int .i64 n3, .fn 16 [], .int .i64 n4, .int .i64 n5, .int .i64 n6, .int .i64 n7, .int .i64 n8] ⟨(l :: l2 :: rest), (toks), (82 :: 1000023 :: tys)⟩ = lnext sym5_V (sym5_Tr o m n n2 n3 n4 n5 n6 n7 n8 l l2 rest toks tys).run := by unfold sym5_V; rw [lval_eq, sym5_T]
noncomputable def sym5_W (o : Nat) (m : Nat) (n : Int) (n2 : Int) (n3 : Int) (n4 : Int) (n5 : Int) (n6 : Int) (n7 : Int) (n8 : Int) (l : List PV) (l2 : List PV) (rest : List (List PV)) (toks : List (Nat × Nat × TypeId)) (tys : List TypeId) : Option (PExit × List PV × Store) := sym5_V [.osl 1 o m 1, .int .i64 n, .int .i64 n2, .int .i64 n3, .fn 16 [], .int .i64 n4, .int .i64 n5, .int .i64 n6, .int .i64 n7, .int .i64 n8] ⟨(l :: l2 :: rest), (toks), (82 :: 1000023 :: tys)⟩
noncomputable def sym5_n6 (o : Nat) (m : Nat) (n : Int) (n2 : Int) (n3 : Int) (n4 : Int) (n5 : Int) (n6 : Int) (n7 : Int) (n8 : Int) (l : List PV) (l2 : List PV) (rest : List (List PV)) (toks : List (Nat × Nat × TypeId)) (tys : List TypeId) : Int := (gInt (gOut (sym5_W o m n n2 n3 n4 n5 n6 n7 n8 l l2 rest toks tys) 7))
noncomputable def sym5_l2 (o : Nat) (m : Nat) (n : Int) (n2 : Int) (n3 : Int) (n4 : Int) (n5 : Int) (n6 : Int) (n7 : Int) (n8 : Int) (l : List PV) (l2 : List PV) (rest : List (List PV)) (toks : List (Nat × Nat × TypeId)) (tys : List TypeId) : List PV := (gObj (sym5_W o m n n2 n3 n4 n5 n6 n7 n8 l l2 rest toks tys) 1)
noncomputable def sym5_is0 (o : Nat) (m : Nat) (n : Int) (n2 : Int) (n3 : Int) (n4 : Int) (n5 : Int) (n6 : Int) (n7 : Int) (n8 : Int) (l : List PV) (l2 : List PV) (rest : List (List PV)) (toks : List (Nat × Nat × TypeId)) (tys : List TypeId) : Bool := isW (sym5_W o m n n2 n3 n4 n5 n6 n7 n8 l l2 rest toks tys) ((.exit 8), [.osl 1 o m 1, .int .i64 n, .int .i64 n2, .int .i64 n3, .fn 16 [], .int .i64 n4, .int .i64 n5, .int .i64 (sym5_n6 o m n n2 n3 n4 n5 n6 n7 n8 l l2 rest toks tys)], ⟨(l :: (sym5_l2 o m n n2 n3 n4 n5 n6 n7 n8 l l2 rest toks tys) :: rest), (toks), (82 :: 1000023 :: tys)⟩)
noncomputable def sym5_prop : List PV → Store → Tr (PExit × List PV × Store) | [.osl 1 o m 1, .int .i64 n, .int .i64 n2, .int .i64 n3, .fn 16 [], .int .i64 n4, .int .i64 n5, .int .i64 n6, .int .i64 n7, .int .i64 n8], ⟨(l :: l2 :: rest), (toks), (82 :: 1000023 :: tys)⟩ => .ite (sym5_is0 o m n n2 n3 n4 n5 n6 n7 n8 l l2 rest toks tys) (.ret ((.exit 8), [.osl 1 o m 1, .int .i64 n, .int .i64 n2, .int .i64 n3, .fn 16 [], .int .i64 n4, .int .i64 n5, .int .i64 (sym5_n6 o m n n2 n3 n4 n5 n6 n7 n8 l l2 rest toks tys)], ⟨(l :: (sym5_l2 o m n n2 n3 n4 n5 n6 n7 n8 l l2 rest toks tys) :: rest), (toks), (82 :: 1000023 :: tys)⟩)) (.fail) | _, _ => .fail
theorem sym5_ok : ∀ vs σ r, (sym5_prop vs σ).run = some r → sym5_V vs σ = some r := by
  intro vs σ r h
  unfold sym5_prop at h
  split at h
  · exact ite_isW h fun h => by cases h
  · cases h
theorem loop_sym5 (gl : Nat → Option Obj) (hN : SimS Tryd.prog gl 120 fun args σ => (D_rec args σ).run) : ∀ fr σ e fr' σ', (orc I_sym5 sym5_prop fr σ).run = some (e, fr', σ') → LDoes Tryd.prog gl c_sym5 fr σ e fr' σ' := orc_ok tbT_ok (gok_sym gl hN ) noMixed (L := LI_sym5) (loopOk_none (by kernel_rfl)) (by kernel_rfl) sym5_ok
noncomputable def L_sym : LpsT := fun r fr σ => bif Nat.beq r 3 then orc I_sym1 sym1_prop fr σ else bif Nat.beq r 9 then orc I_sym2 sym2_prop fr σ else bif Nat.beq r 15 then orc I_sym3 sym3_prop fr σ else bif Nat.beq r 21 then orc I_sym4 sym4_prop fr σ else bif Nat.beq r 33 then orc I_sym5 sym5_prop fr σ else .fail
noncomputable def sym_Tr (off : Nat) (len : Nat) (a : Int) (m : Int) (b : Int) (c0 : List PV) (cs : List PV) (rest : List (List PV)) (toks : List (Nat × Nat × TypeId)) (tys : List TypeId) : Tr (PV × Store) := Tr.ite (iEq (iSub .i64 m a) 1)
  (Tr.ite (sym1_is0 off len a m b c0 cs rest toks tys)
    (Tr.ite (sym2_is0 off len (sym1_n2 off len a m b c0 cs rest toks tys) a c0 (sym1_l2 off len a m b c0 cs rest toks tys) rest toks tys)
      (Tr.ret
        (PV.tup [],
          Store.mk (c0 :: sym2_l2 off len (sym1_n2 off len a m b c0 cs rest toks tys) a c0 (sym1_l2 off len a m b c0 cs rest toks tys) rest toks tys :: rest) toks
            (82 :: 1000023 :: tys)))
      Tr.fail)
    Tr.fail)
  (Tr.ite (iEq (iSub .i64 b m) 1)
    (Tr.ite (sym3_is0 off len m a m c0 cs rest toks tys)
      (Tr.ite (sym4_is0 off len (sym3_n2 off len m a m c0 cs rest toks tys) m c0 (sym3_l2 off len m a m c0 cs rest toks tys) rest toks tys)
        (Tr.ret
          (PV.tup [],
            Store.mk (c0 :: sym4_l2 off len (sym3_n2 off len m a m c0 cs rest toks tys) m c0 (sym3_l2 off len m a m c0 cs rest toks tys) rest toks tys :: rest) toks
              (82 :: 1000023 :: tys)))
        Tr.fail)
      Tr.fail)
    (Tr.ite (iLt (iWrap .i64 (iShr .u64 (iWrap .u64 (iAdd .i64 a b)) 1)) m)
      (Tr.ite
        (sym5_is0 off len a m b (iWrap .i64 (iShr .u64 (iWrap .u64 (iAdd .i64 a b)) 1))
          (iAdd .i64 (iWrap .i64 (iShr .u64 (iWrap .u64 (iAdd .i64 a b)) 1)) m)
          (iSub .i64 (iAdd .i64 (iWrap .i64 (iShr .u64 (iWrap .u64 (iAdd .i64 a b)) 1)) m) b)
          (iWrap .i64 (iShr .u64 (iWrap .u64 (iAdd .i64 a b)) 1))
          (iSub .i64 (iAdd .i64 (iWrap .i64 (iShr .u64 (iWrap .u64 (iAdd .i64 a b)) 1)) m) 1) c0 cs rest toks tys)
        (Tr.ite
          (iLt
            (sym5_n6 off len a m b (iWrap .i64 (iShr .u64 (iWrap .u64 (iAdd .i64 a b)) 1))
              (iAdd .i64 (iWrap .i64 (iShr .u64 (iWrap .u64 (iAdd .i64 a b)) 1)) m)
              (iSub .i64 (iAdd .i64 (iWrap .i64 (iShr .u64 (iWrap .u64 (iAdd .i64 a b)) 1)) m) b)
              (iWrap .i64 (iShr .u64 (iWrap .u64 (iAdd .i64 a b)) 1))
              (iSub .i64 (iAdd .i64 (iWrap .i64 (iShr .u64 (iWrap .u64 (iAdd .i64 a b)) 1)) m) 1) c0 cs rest toks tys)
            m)
          (Tr.ite
            (iLt m
              (iSub .i64 (iAdd .i64 (iWrap .i64 (iShr .u64 (iWrap .u64 (iAdd .i64 a b)) 1)) m)
                (sym5_n6 off len a m b (iWrap .i64 (iShr .u64 (iWrap .u64 (iAdd .i64 a b)) 1))
                  (iAdd .i64 (iWrap .i64 (iShr .u64 (iWrap .u64 (iAdd .i64 a b)) 1)) m)
                  (iSub .i64 (iAdd .i64 (iWrap .i64 (iShr .u64 (iWrap .u64 (iAdd .i64 a b)) 1)) m) b)
                  (iWrap .i64 (iShr .u64 (iWrap .u64 (iAdd .i64 a b)) 1))
                  (iSub .i64 (iAdd .i64 (iWrap .i64 (iShr .u64 (iWrap .u64 (iAdd .i64 a b)) 1)) m) 1) c0 cs rest toks tys)))
            (Tr.ite
              (rot_is0 off len
                (sym5_n6 off len a m b (iWrap .i64 (iShr .u64 (iWrap .u64 (iAdd .i64 a b)) 1))
                  (iAdd .i64 (iWrap .i64 (iShr .u64 (iWrap .u64 (iAdd .i64 a b)) 1)) m)
                  (iSub .i64 (iAdd .i64 (iWrap .i64 (iShr .u64 (iWrap .u64 (iAdd .i64 a b)) 1)) m) b)
                  (iWrap .i64 (iShr .u64 (iWrap .u64 (iAdd .i64 a b)) 1))
                  (iSub .i64 (iAdd .i64 (iWrap .i64 (iShr .u64 (iWrap .u64 (iAdd .i64 a b)) 1)) m) 1) c0 cs rest toks tys)
                m
                (iSub .i64 (iAdd .i64 (iWrap .i64 (iShr .u64 (iWrap .u64 (iAdd .i64 a b)) 1)) m)
                  (sym5_n6 off len a m b (iWrap .i64 (iShr .u64 (iWrap .u64 (iAdd .i64 a b)) 1))
                    (iAdd .i64 (iWrap .i64 (iShr .u64 (iWrap .u64 (iAdd .i64 a b)) 1)) m)
                    (iSub .i64 (iAdd .i64 (iWrap .i64 (iShr .u64 (iWrap .u64 (iAdd .i64 a b)) 1)) m) b)
                    (iWrap .i64 (iShr .u64 (iWrap .u64 (iAdd .i64 a b)) 1))
                    (iSub .i64 (iAdd .i64 (iWrap .i64 (iShr .u64 (iWrap .u64 (iAdd .i64 a b)) 1)) m) 1) c0 cs rest toks tys))
                c0
                (sym5_l2 off len a m b (iWrap .i64 (iShr .u64 (iWrap .u64 (iAdd .i64 a b)) 1))
                  (iAdd .i64 (iWrap .i64 (iShr .u64 (iWrap .u64 (iAdd .i64 a b)) 1)) m)
                  (iSub .i64 (iAdd .i64 (iWrap .i64 (iShr .u64 (iWrap .u64 (iAdd .i64 a b)) 1)) m) b)
                  (iWrap .i64 (iShr .u64 (iWrap .u64 (iAdd .i64 a b)) 1))
                  (iSub .i64 (iAdd .i64 (iWrap .i64 (iShr .u64 (iWrap .u64 (iAdd .i64 a b)) 1)) m) 1) c0 cs rest toks tys)
                rest toks tys)
              (Tr.ite
                (iLt a
                  (sym5_n6 off len a m b (iWrap .i64 (iShr .u64 (iWrap .u64 (iAdd .i64 a b)) 1))
                    (iAdd .i64 (iWrap .i64 (iShr .u64 (iWrap .u64 (iAdd .i64 a b)) 1)) m)
                    (iSub .i64 (iAdd .i64 (iWrap .i64 (iShr .u64 (iWrap .u64 (iAdd .i64 a b)) 1)) m) b)
                    (iWrap .i64 (iShr .u64 (iWrap .u64 (iAdd .i64 a b)) 1))
                    (iSub .i64 (iAdd .i64 (iWrap .i64 (iShr .u64 (iWrap .u64 (iAdd .i64 a b)) 1)) m) 1) c0 cs rest toks tys))
                (Tr.ite
                  (iLt
                    (sym5_n6 off len a m b (iWrap .i64 (iShr .u64 (iWrap .u64 (iAdd .i64 a b)) 1))
                      (iAdd .i64 (iWrap .i64 (iShr .u64 (iWrap .u64 (iAdd .i64 a b)) 1)) m)
                      (iSub .i64 (iAdd .i64 (iWrap .i64 (iShr .u64 (iWrap .u64 (iAdd .i64 a b)) 1)) m) b)
                      (iWrap .i64 (iShr .u64 (iWrap .u64 (iAdd .i64 a b)) 1))
                      (iSub .i64 (iAdd .i64 (iWrap .i64 (iShr .u64 (iWrap .u64 (iAdd .i64 a b)) 1)) m) 1) c0 cs rest toks tys)
                    (iWrap .i64 (iShr .u64 (iWrap .u64 (iAdd .i64 a b)) 1)))
                  (Tr.ite
                    (rec_is0 off len a
                      (sym5_n6 off len a m b (iWrap .i64 (iShr .u64 (iWrap .u64 (iAdd .i64 a b)) 1))
                        (iAdd .i64 (iWrap .i64 (iShr .u64 (iWrap .u64 (iAdd .i64 a b)) 1)) m)
                        (iSub .i64 (iAdd .i64 (iWrap .i64 (iShr .u64 (iWrap .u64 (iAdd .i64 a b)) 1)) m) b)
                        (iWrap .i64 (iShr .u64 (iWrap .u64 (iAdd .i64 a b)) 1))
                        (iSub .i64 (iAdd .i64 (iWrap .i64 (iShr .u64 (iWrap .u64 (iAdd .i64 a b)) 1)) m) 1) c0 cs rest toks tys)
                      (iWrap .i64 (iShr .u64 (iWrap .u64 (iAdd .i64 a b)) 1)) c0
                      (rot_l2 off len
                        (sym5_n6 off len a m b (iWrap .i64 (iShr .u64 (iWrap .u64 (iAdd .i64 a b)) 1))
                          (iAdd .i64 (iWrap .i64 (iShr .u64 (iWrap .u64 (iAdd .i64 a b)) 1)) m)
                          (iSub .i64 (iAdd .i64 (iWrap .i64 (iShr .u64 (iWrap .u64 (iAdd .i64 a b)) 1)) m) b)
                          (iWrap .i64 (iShr .u64 (iWrap .u64 (iAdd .i64 a b)) 1))
                          (iSub .i64 (iAdd .i64 (iWrap .i64 (iShr .u64 (iWrap .u64 (iAdd .i64 a b)) 1)) m) 1) c0 cs rest toks tys)
                        m
                        (iSub .i64 (iAdd .i64 (iWrap .i64 (iShr .u64 (iWrap .u64 (iAdd .i64 a b)) 1)) m)
                          (sym5_n6 off len a m b (iWrap .i64 (iShr .u64 (iWrap .u64 (iAdd .i64 a b)) 1))
                            (iAdd .i64 (iWrap .i64 (iShr .u64 (iWrap .u64 (iAdd .i64 a b)) 1)) m)
                            (iSub .i64 (iAdd .i64 (iWrap .i64 (iShr .u64 (iWrap .u64 (iAdd .i64 a b)) 1)) m) b)
                            (iWrap .i64 (iShr .u64 (iWrap .u64 (iAdd .i64 a b)) 1))
                            (iSub .i64 (iAdd .i64 (iWrap .i64 (iShr .u64 (iWrap .u64 (iAdd .i64 a b)) 1)) m) 1) c0 cs rest toks tys))
                        c0
                        (sym5_l2 off len a m b (iWrap .i64 (iShr .u64 (iWrap .u64 (iAdd .i64 a b)) 1))
                          (iAdd .i64 (iWrap .i64 (iShr .u64 (iWrap .u64 (iAdd .i64 a b)) 1)) m)
                          (iSub .i64 (iAdd .i64 (iWrap .i64 (iShr .u64 (iWrap .u64 (iAdd .i64 a b)) 1)) m) b)
                          (iWrap .i64 (iShr .u64 (iWrap .u64 (iAdd .i64 a b)) 1))
                          (iSub .i64 (iAdd .i64 (iWrap .i64 (iShr .u64 (iWrap .u64 (iAdd .i64 a b)) 1)) m) 1) c0 cs rest toks tys)
                        rest toks tys)
                      rest toks tys)
                    (Tr.ite
                      (iLt (iWrap .i64 (iShr .u64 (iWrap .u64 (iAdd .i64 a b)) 1))
                        (iSub .i64 (iAdd .i64 (iWrap .i64 (iShr .u64 (iWrap .u64 (iAdd .i64 a b)) 1)) m)
                          (sym5_n6 off len a m b (iWrap .i64 (iShr .u64 (iWrap .u64 (iAdd .i64 a b)) 1))
                            (iAdd .i64 (iWrap .i64 (iShr .u64 (iWrap .u64 (iAdd .i64 a b)) 1)) m)
                            (iSub .i64 (iAdd .i64 (iWrap .i64 (iShr .u64 (iWrap .u64 (iAdd .i64 a b)) 1)) m) b)
                            (iWrap .i64 (iShr .u64 (iWrap .u64 (iAdd .i64 a b)) 1))
                            (iSub .i64 (iAdd .i64 (iWrap .i64 (iShr .u64 (iWrap .u64 (iAdd .i64 a b)) 1)) m) 1) c0 cs rest toks tys)))
                      (Tr.ite
                        (iLt
                          (iSub .i64 (iAdd .i64 (iWrap .i64 (iShr .u64 (iWrap .u64 (iAdd .i64 a b)) 1)) m)
                            (sym5_n6 off len a m b (iWrap .i64 (iShr .u64 (iWrap .u64 (iAdd .i64 a b)) 1))
                              (iAdd .i64 (iWrap .i64 (iShr .u64 (iWrap .u64 (iAdd .i64 a b)) 1)) m)
                              (iSub .i64 (iAdd .i64 (iWrap .i64 (iShr .u64 (iWrap .u64 (iAdd .i64 a b)) 1)) m) b)
                              (iWrap .i64 (iShr .u64 (iWrap .u64 (iAdd .i64 a b)) 1))
                              (iSub .i64 (iAdd .i64 (iWrap .i64 (iShr .u64 (iWrap .u64 (iAdd .i64 a b)) 1)) m) 1) c0 cs rest toks tys))
                          b)
                        (Tr.ite
                          (rec_is0 off len (iWrap .i64 (iShr .u64 (iWrap .u64 (iAdd .i64 a b)) 1))
                            (iSub .i64 (iAdd .i64 (iWrap .i64 (iShr .u64 (iWrap .u64 (iAdd .i64 a b)) 1)) m)
                              (sym5_n6 off len a m b (iWrap .i64 (iShr .u64 (iWrap .u64 (iAdd .i64 a b)) 1))
                                (iAdd .i64 (iWrap .i64 (iShr .u64 (iWrap .u64 (iAdd .i64 a b)) 1)) m)
                                (iSub .i64 (iAdd .i64 (iWrap .i64 (iShr .u64 (iWrap .u64 (iAdd .i64 a b)) 1)) m) b)
                                (iWrap .i64 (iShr .u64 (iWrap .u64 (iAdd .i64 a b)) 1))
                                (iSub .i64 (iAdd .i64 (iWrap .i64 (iShr .u64 (iWrap .u64 (iAdd .i64 a b)) 1)) m) 1) c0 cs rest toks tys))
                            b c0
                            (rec_l off len a
                              (sym5_n6 off len a m b (iWrap .i64 (iShr .u64 (iWrap .u64 (iAdd .i64 a b)) 1))
                                (iAdd .i64 (iWrap .i64 (iShr .u64 (iWrap .u64 (iAdd .i64 a b)) 1)) m)
                                (iSub .i64 (iAdd .i64 (iWrap .i64 (iShr .u64 (iWrap .u64 (iAdd .i64 a b)) 1)) m) b)
                                (iWrap .i64 (iShr .u64 (iWrap .u64 (iAdd .i64 a b)) 1))
                                (iSub .i64 (iAdd .i64 (iWrap .i64 (iShr .u64 (iWrap .u64 (iAdd .i64 a b)) 1)) m) 1) c0 cs rest toks tys)
                              (iWrap .i64 (iShr .u64 (iWrap .u64 (iAdd .i64 a b)) 1)) c0
                              (rot_l2 off len
                                (sym5_n6 off len a m b (iWrap .i64 (iShr .u64 (iWrap .u64 (iAdd .i64 a b)) 1))
                                  (iAdd .i64 (iWrap .i64 (iShr .u64 (iWrap .u64 (iAdd .i64 a b)) 1)) m)
                                  (iSub .i64 (iAdd .i64 (iWrap .i64 (iShr .u64 (iWrap .u64 (iAdd .i64 a b)) 1)) m) b)
                                  (iWrap .i64 (iShr .u64 (iWrap .u64 (iAdd .i64 a b)) 1))
                                  (iSub .i64 (iAdd .i64 (iWrap .i64 (iShr .u64 (iWrap .u64 (iAdd .i64 a b)) 1)) m) 1) c0 cs rest toks tys)
                                m
                                (iSub .i64 (iAdd .i64 (iWrap .i64 (iShr .u64 (iWrap .u64 (iAdd .i64 a b)) 1)) m)
                                  (sym5_n6 off len a m b (iWrap .i64 (iShr .u64 (iWrap .u64 (iAdd .i64 a b)) 1))
                                    (iAdd .i64 (iWrap .i64 (iShr .u64 (iWrap .u64 (iAdd .i64 a b)) 1)) m)
                                    (iSub .i64 (iAdd .i64 (iWrap .i64 (iShr .u64 (iWrap .u64 (iAdd .i64 a b)) 1)) m) b)
                                    (iWrap .i64 (iShr .u64 (iWrap .u64 (iAdd .i64 a b)) 1))
                                    (iSub .i64 (iAdd .i64 (iWrap .i64 (iShr .u64 (iWrap .u64 (iAdd .i64 a b)) 1)) m) 1) c0 cs rest toks
                                    tys))
                                c0
                                (sym5_l2 off len a m b (iWrap .i64 (iShr .u64 (iWrap .u64 (iAdd .i64 a b)) 1))
                                  (iAdd .i64 (iWrap .i64 (iShr .u64 (iWrap .u64 (iAdd .i64 a b)) 1)) m)
                                  (iSub .i64 (iAdd .i64 (iWrap .i64 (iShr .u64 (iWrap .u64 (iAdd .i64 a b)) 1)) m) b)
                                  (iWrap .i64 (iShr .u64 (iWrap .u64 (iAdd .i64 a b)) 1))
                                  (iSub .i64 (iAdd .i64 (iWrap .i64 (iShr .u64 (iWrap .u64 (iAdd .i64 a b)) 1)) m) 1) c0 cs rest toks tys)
                                rest toks tys)
                              rest toks tys)
                            rest toks tys)
                          (Tr.ret
                            (PV.tup [],
                              Store.mk
                                (c0 ::
                                  rec_l off len (iWrap .i64 (iShr .u64 (iWrap .u64 (iAdd .i64 a b)) 1))
                                      (iSub .i64 (iAdd .i64 (iWrap .i64 (iShr .u64 (iWrap .u64 (iAdd .i64 a b)) 1)) m)
                                        (sym5_n6 off len a m b (iWrap .i64 (iShr .u64 (iWrap .u64 (iAdd .i64 a b)) 1))
                                          (iAdd .i64 (iWrap .i64 (iShr .u64 (iWrap .u64 (iAdd .i64 a b)) 1)) m)
                                          (iSub .i64 (iAdd .i64 (iWrap .i64 (iShr .u64 (iWrap .u64 (iAdd .i64 a b)) 1)) m) b)
                                          (iWrap .i64 (iShr .u64 (iWrap .u64 (iAdd .i64 a b)) 1))
                                          (iSub .i64 (iAdd .i64 (iWrap .i64 (iShr .u64 (iWrap .u64 (iAdd .i64 a b)) 1)) m) 1) c0 cs rest
                                          toks tys))
                                      b c0
                                      (rec_l off len a
                                        (sym5_n6 off len a m b (iWrap .i64 (iShr .u64 (iWrap .u64 (iAdd .i64 a b)) 1))
                                          (iAdd .i64 (iWrap .i64 (iShr .u64 (iWrap .u64 (iAdd .i64 a b)) 1)) m)
                                          (iSub .i64 (iAdd .i64 (iWrap .i64 (iShr .u64 (iWrap .u64 (iAdd .i64 a b)) 1)) m) b)
                                          (iWrap .i64 (iShr .u64 (iWrap .u64 (iAdd .i64 a b)) 1))
                                          (iSub .i64 (iAdd .i64 (iWrap .i64 (iShr .u64 (iWrap .u64 (iAdd .i64 a b)) 1)) m) 1) c0 cs rest
                                          toks tys)
                                        (iWrap .i64 (iShr .u64 (iWrap .u64 (iAdd .i64 a b)) 1)) c0
                                        (rot_l2 off len
                                          (sym5_n6 off len a m b (iWrap .i64 (iShr .u64 (iWrap .u64 (iAdd .i64 a b)) 1))
                                            (iAdd .i64 (iWrap .i64 (iShr .u64 (iWrap .u64 (iAdd .i64 a b)) 1)) m)
                                            (iSub .i64 (iAdd .i64 (iWrap .i64 (iShr .u64 (iWrap .u64 (iAdd .i64 a b)) 1)) m) b)
                                            (iWrap .i64 (iShr .u64 (iWrap .u64 (iAdd .i64 a b)) 1))
                                            (iSub .i64 (iAdd .i64 (iWrap .i64 (iShr .u64 (iWrap .u64 (iAdd .i64 a b)) 1)) m) 1) c0 cs rest
                                            toks tys)
                                          m
                                          (iSub .i64 (iAdd .i64 (iWrap .i64 (iShr .u64 (iWrap .u64 (iAdd .i64 a b)) 1)) m)
                                            (sym5_n6 off len a m b (iWrap .i64 (iShr .u64 (iWrap .u64 (iAdd .i64 a b)) 1))
                                              (iAdd .i64 (iWrap .i64 (iShr .u64 (iWrap .u64 (iAdd .i64 a b)) 1)) m)
                                              (iSub .i64 (iAdd .i64 (iWrap .i64 (iShr .u64 (iWrap .u64 (iAdd .i64 a b)) 1)) m) b)
                                              (iWrap .i64 (iShr .u64 (iWrap .u64 (iAdd .i64 a b)) 1))
                                              (iSub .i64 (iAdd .i64 (iWrap .i64 (iShr .u64 (iWrap .u64 (iAdd .i64 a b)) 1)) m) 1) c0 cs
                                              rest toks tys))
                                          c0
                                          (sym5_l2 off len a m b (iWrap .i64 (iShr .u64 (iWrap .u64 (iAdd .i64 a b)) 1))
                                            (iAdd .i64 (iWrap .i64 (iShr .u64 (iWrap .u64 (iAdd .i64 a b)) 1)) m)
                                            (iSub .i64 (iAdd .i64 (iWrap .i64 (iShr .u64 (iWrap .u64 (iAdd .i64 a b)) 1)) m) b)
                                            (iWrap .i64 (iShr .u64 (iWrap .u64 (iAdd .i64 a b)) 1))
                                            (iSub .i64 (iAdd .i64 (iWrap .i64 (iShr .u64 (iWrap .u64 (iAdd .i64 a b)) 1)) m) 1) c0 cs rest
                                            toks tys)
                                          rest toks tys)
                                        rest toks tys)
                                      rest toks tys ::
                                    rest)
                                toks (82 :: 1000023 :: tys)))
                          Tr.fail)
                        (Tr.ret
                          (PV.tup [],
                            Store.mk
                              (c0 ::
                                rec_l off len a
                                    (sym5_n6 off len a m b (iWrap .i64 (iShr .u64 (iWrap .u64 (iAdd .i64 a b)) 1))
                                      (iAdd .i64 (iWrap .i64 (iShr .u64 (iWrap .u64 (iAdd .i64 a b)) 1)) m)
                                      (iSub .i64 (iAdd .i64 (iWrap .i64 (iShr .u64 (iWrap .u64 (iAdd .i64 a b)) 1)) m) b)
                                      (iWrap .i64 (iShr .u64 (iWrap .u64 (iAdd .i64 a b)) 1))
                                      (iSub .i64 (iAdd .i64 (iWrap .i64 (iShr .u64 (iWrap .u64 (iAdd .i64 a b)) 1)) m) 1) c0 cs rest toks
                                      tys)
                                    (iWrap .i64 (iShr .u64 (iWrap .u64 (iAdd .i64 a b)) 1)) c0
                                    (rot_l2 off len
                                      (sym5_n6 off len a m b (iWrap .i64 (iShr .u64 (iWrap .u64 (iAdd .i64 a b)) 1))
                                        (iAdd .i64 (iWrap .i64 (iShr .u64 (iWrap .u64 (iAdd .i64 a b)) 1)) m)
                                        (iSub .i64 (iAdd .i64 (iWrap .i64 (iShr .u64 (iWrap .u64 (iAdd .i64 a b)) 1)) m) b)
                                        (iWrap .i64 (iShr .u64 (iWrap .u64 (iAdd .i64 a b)) 1))
                                        (iSub .i64 (iAdd .i64 (iWrap .i64 (iShr .u64 (iWrap .u64 (iAdd .i64 a b)) 1)) m) 1) c0 cs rest
                                        toks tys)
                                      m
                                      (iSub .i64 (iAdd .i64 (iWrap .i64 (iShr .u64 (iWrap .u64 (iAdd .i64 a b)) 1)) m)
                                        (sym5_n6 off len a m b (iWrap .i64 (iShr .u64 (iWrap .u64 (iAdd .i64 a b)) 1))
                                          (iAdd .i64 (iWrap .i64 (iShr .u64 (iWrap .u64 (iAdd .i64 a b)) 1)) m)
                                          (iSub .i64 (iAdd .i64 (iWrap .i64 (iShr .u64 (iWrap .u64 (iAdd .i64 a b)) 1)) m) b)
                                          (iWrap .i64 (iShr .u64 (iWrap .u64 (iAdd .i64 a b)) 1))
                                          (iSub .i64 (iAdd .i64 (iWrap .i64 (iShr .u64 (iWrap .u64 (iAdd .i64 a b)) 1)) m) 1) c0 cs rest
                                          toks tys))
                                      c0
                                      (sym5_l2 off len a m b (iWrap .i64 (iShr .u64 (iWrap .u64 (iAdd .i64 a b)) 1))
                                        (iAdd .i64 (iWrap .i64 (iShr .u64 (iWrap .u64 (iAdd .i64 a b)) 1)) m)
                                        (iSub .i64 (iAdd .i64 (iWrap .i64 (iShr .u64 (iWrap .u64 (iAdd .i64 a b)) 1)) m) b)
                                        (iWrap .i64 (iShr .u64 (iWrap .u64 (iAdd .i64 a b)) 1))
                                        (iSub .i64 (iAdd .i64 (iWrap .i64 (iShr .u64 (iWrap .u64 (iAdd .i64 a b)) 1)) m) 1) c0 cs rest
                                        toks tys)
                                      rest toks tys)
                                    rest toks tys ::
                                  rest)
                              toks (82 :: 1000023 :: tys))))
                      (Tr.ret
                        (PV.tup [],
                          Store.mk
                            (c0 ::
                              rec_l off len a
                                  (sym5_n6 off len a m b (iWrap .i64 (iShr .u64 (iWrap .u64 (iAdd .i64 a b)) 1))
                                    (iAdd .i64 (iWrap .i64 (iShr .u64 (iWrap .u64 (iAdd .i64 a b)) 1)) m)
                                    (iSub .i64 (iAdd .i64 (iWrap .i64 (iShr .u64 (iWrap .u64 (iAdd .i64 a b)) 1)) m) b)
                                    (iWrap .i64 (iShr .u64 (iWrap .u64 (iAdd .i64 a b)) 1))
                                    (iSub .i64 (iAdd .i64 (iWrap .i64 (iShr .u64 (iWrap .u64 (iAdd .i64 a b)) 1)) m) 1) c0 cs rest toks
                                    tys)
                                  (iWrap .i64 (iShr .u64 (iWrap .u64 (iAdd .i64 a b)) 1)) c0
                                  (rot_l2 off len
                                    (sym5_n6 off len a m b (iWrap .i64 (iShr .u64 (iWrap .u64 (iAdd .i64 a b)) 1))
                                      (iAdd .i64 (iWrap .i64 (iShr .u64 (iWrap .u64 (iAdd .i64 a b)) 1)) m)
                                      (iSub .i64 (iAdd .i64 (iWrap .i64 (iShr .u64 (iWrap .u64 (iAdd .i64 a b)) 1)) m) b)
                                      (iWrap .i64 (iShr .u64 (iWrap .u64 (iAdd .i64 a b)) 1))
                                      (iSub .i64 (iAdd .i64 (iWrap .i64 (iShr .u64 (iWrap .u64 (iAdd .i64 a b)) 1)) m) 1) c0 cs rest toks
                                      tys)
                                    m
                                    (iSub .i64 (iAdd .i64 (iWrap .i64 (iShr .u64 (iWrap .u64 (iAdd .i64 a b)) 1)) m)
                                      (sym5_n6 off len a m b (iWrap .i64 (iShr .u64 (iWrap .u64 (iAdd .i64 a b)) 1))
                                        (iAdd .i64 (iWrap .i64 (iShr .u64 (iWrap .u64 (iAdd .i64 a b)) 1)) m)
                                        (iSub .i64 (iAdd .i64 (iWrap .i64 (iShr .u64 (iWrap .u64 (iAdd .i64 a b)) 1)) m) b)
                                        (iWrap .i64 (iShr .u64 (iWrap .u64 (iAdd .i64 a b)) 1))
                                        (iSub .i64 (iAdd .i64 (iWrap .i64 (iShr .u64 (iWrap .u64 (iAdd .i64 a b)) 1)) m) 1) c0 cs rest
                                        toks tys))
                                    c0
                                    (sym5_l2 off len a m b (iWrap .i64 (iShr .u64 (iWrap .u64 (iAdd .i64 a b)) 1))
                                      (iAdd .i64 (iWrap .i64 (iShr .u64 (iWrap .u64 (iAdd .i64 a b)) 1)) m)
                                      (iSub .i64 (iAdd .i64 (iWrap .i64 (iShr .u64 (iWrap .u64 (iAdd .i64 a b)) 1)) m) b)
                                      (iWrap .i64 (iShr .u64 (iWrap .u64 (iAdd .i64 a b)) 1))
                                      (iSub .i64 (iAdd .i64 (iWrap .i64 (iShr .u64 (iWrap .u64 (iAdd .i64 a b)) 1)) m) 1) c0 cs rest toks
                                      tys)
                                    rest toks tys)
                                  rest toks tys ::
                                rest)
                            toks (82 :: 1000023 :: tys))))
                    Tr.fail)
                  (Tr.ite
                    (iLt (iWrap .i64 (iShr .u64 (iWrap .u64 (iAdd .i64 a b)) 1))
                      (iSub .i64 (iAdd .i64 (iWrap .i64 (iShr .u64 (iWrap .u64 (iAdd .i64 a b)) 1)) m)
                        (sym5_n6 off len a m b (iWrap .i64 (iShr .u64 (iWrap .u64 (iAdd .i64 a b)) 1))
                          (iAdd .i64 (iWrap .i64 (iShr .u64 (iWrap .u64 (iAdd .i64 a b)) 1)) m)
                          (iSub .i64 (iAdd .i64 (iWrap .i64 (iShr .u64 (iWrap .u64 (iAdd .i64 a b)) 1)) m) b)
                          (iWrap .i64 (iShr .u64 (iWrap .u64 (iAdd .i64 a b)) 1))
                          (iSub .i64 (iAdd .i64 (iWrap .i64 (iShr .u64 (iWrap .u64 (iAdd .i64 a b)) 1)) m) 1) c0 cs rest toks tys)))
                    (Tr.ite
                      (iLt
                        (iSub .i64 (iAdd .i64 (iWrap .i64 (iShr .u64 (iWrap .u64 (iAdd .i64 a b)) 1)) m)
                          (sym5_n6 off len a m b (iWrap .i64 (iShr .u64 (iWrap .u64 (iAdd .i64 a b)) 1))
                            (iAdd .i64 (iWrap .i64 (iShr .u64 (iWrap .u64 (iAdd .i64 a b)) 1)) m)
                            (iSub .i64 (iAdd .i64 (iWrap .i64 (iShr .u64 (iWrap .u64 (iAdd .i64 a b)) 1)) m) b)
                            (iWrap .i64 (iShr .u64 (iWrap .u64 (iAdd .i64 a b)) 1))
                            (iSub .i64 (iAdd .i64 (iWrap .i64 (iShr .u64 (iWrap .u64 (iAdd .i64 a b)) 1)) m) 1) c0 cs rest toks tys))
                        b)
                      (Tr.ite
                        (rec_is0 off len (iWrap .i64 (iShr .u64 (iWrap .u64 (iAdd .i64 a b)) 1))
                          (iSub .i64 (iAdd .i64 (iWrap .i64 (iShr .u64 (iWrap .u64 (iAdd .i64 a b)) 1)) m)
                            (sym5_n6 off len a m b (iWrap .i64 (iShr .u64 (iWrap .u64 (iAdd .i64 a b)) 1))
                              (iAdd .i64 (iWrap .i64 (iShr .u64 (iWrap .u64 (iAdd .i64 a b)) 1)) m)
                              (iSub .i64 (iAdd .i64 (iWrap .i64 (iShr .u64 (iWrap .u64 (iAdd .i64 a b)) 1)) m) b)
                              (iWrap .i64 (iShr .u64 (iWrap .u64 (iAdd .i64 a b)) 1))
                              (iSub .i64 (iAdd .i64 (iWrap .i64 (iShr .u64 (iWrap .u64 (iAdd .i64 a b)) 1)) m) 1) c0 cs rest toks tys))
                          b c0
                          (rot_l2 off len
                            (sym5_n6 off len a m b (iWrap .i64 (iShr .u64 (iWrap .u64 (iAdd .i64 a b)) 1))
                              (iAdd .i64 (iWrap .i64 (iShr .u64 (iWrap .u64 (iAdd .i64 a b)) 1)) m)
                              (iSub .i64 (iAdd .i64 (iWrap .i64 (iShr .u64 (iWrap .u64 (iAdd .i64 a b)) 1)) m) b)
                              (iWrap .i64 (iShr .u64 (iWrap .u64 (iAdd .i64 a b)) 1))
                              (iSub .i64 (iAdd .i64 (iWrap .i64 (iShr .u64 (iWrap .u64 (iAdd .i64 a b)) 1)) m) 1) c0 cs rest toks tys)
                            m
                            (iSub .i64 (iAdd .i64 (iWrap .i64 (iShr .u64 (iWrap .u64 (iAdd .i64 a b)) 1)) m)
                              (sym5_n6 off len a m b (iWrap .i64 (iShr .u64 (iWrap .u64 (iAdd .i64 a b)) 1))
                                (iAdd .i64 (iWrap .i64 (iShr .u64 (iWrap .u64 (iAdd .i64 a b)) 1)) m)
                                (iSub .i64 (iAdd .i64 (iWrap .i64 (iShr .u64 (iWrap .u64 (iAdd .i64 a b)) 1)) m) b)
                                (iWrap .i64 (iShr .u64 (iWrap .u64 (iAdd .i64 a b)) 1))
                                (iSub .i64 (iAdd .i64 (iWrap .i64 (iShr .u64 (iWrap .u64 (iAdd .i64 a b)) 1)) m) 1) c0 cs rest toks tys))
                            c0
                            (sym5_l2 off len a m b (iWrap .i64 (iShr .u64 (iWrap .u64 (iAdd .i64 a b)) 1))
                              (iAdd .i64 (iWrap .i64 (iShr .u64 (iWrap .u64 (iAdd .i64 a b)) 1)) m)
                              (iSub .i64 (iAdd .i64 (iWrap .i64 (iShr .u64 (iWrap .u64 (iAdd .i64 a b)) 1)) m) b)
                              (iWrap .i64 (iShr .u64 (iWrap .u64 (iAdd .i64 a b)) 1))
                              (iSub .i64 (iAdd .i64 (iWrap .i64 (iShr .u64 (iWrap .u64 (iAdd .i64 a b)) 1)) m) 1) c0 cs rest toks tys)
                            rest toks tys)
                          rest toks tys)
                        (Tr.ret
                          (PV.tup [],
                            Store.mk
                              (c0 ::
                                rec_l off len (iWrap .i64 (iShr .u64 (iWrap .u64 (iAdd .i64 a b)) 1))
                                    (iSub .i64 (iAdd .i64 (iWrap .i64 (iShr .u64 (iWrap .u64 (iAdd .i64 a b)) 1)) m)
                                      (sym5_n6 off len a m b (iWrap .i64 (iShr .u64 (iWrap .u64 (iAdd .i64 a b)) 1))
                                        (iAdd .i64 (iWrap .i64 (iShr .u64 (iWrap .u64 (iAdd .i64 a b)) 1)) m)
                                        (iSub .i64 (iAdd .i64 (iWrap .i64 (iShr .u64 (iWrap .u64 (iAdd .i64 a b)) 1)) m) b)
                                        (iWrap .i64 (iShr .u64 (iWrap .u64 (iAdd .i64 a b)) 1))
                                        (iSub .i64 (iAdd .i64 (iWrap .i64 (iShr .u64 (iWrap .u64 (iAdd .i64 a b)) 1)) m) 1) c0 cs rest
                                        toks tys))
                                    b c0
                                    (rot_l2 off len
                                      (sym5_n6 off len a m b (iWrap .i64 (iShr .u64 (iWrap .u64 (iAdd .i64 a b)) 1))
                                        (iAdd .i64 (iWrap .i64 (iShr .u64 (iWrap .u64 (iAdd .i64 a b)) 1)) m)
                                        (iSub .i64 (iAdd .i64 (iWrap .i64 (iShr .u64 (iWrap .u64 (iAdd .i64 a b)) 1)) m) b)
                                        (iWrap .i64 (iShr .u64 (iWrap .u64 (iAdd .i64 a b)) 1))
                                        (iSub .i64 (iAdd .i64 (iWrap .i64 (iShr .u64 (iWrap .u64 (iAdd .i64 a b)) 1)) m) 1) c0 cs rest
                                        toks tys)
                                      m
                                      (iSub .i64 (iAdd .i64 (iWrap .i64 (iShr .u64 (iWrap .u64 (iAdd .i64 a b)) 1)) m)
                                        (sym5_n6 off len a m b (iWrap .i64 (iShr .u64 (iWrap .u64 (iAdd .i64 a b)) 1))
                                          (iAdd .i64 (iWrap .i64 (iShr .u64 (iWrap .u64 (iAdd .i64 a b)) 1)) m)
                                          (iSub .i64 (iAdd .i64 (iWrap .i64 (iShr .u64 (iWrap .u64 (iAdd .i64 a b)) 1)) m) b)
                                          (iWrap .i64 (iShr .u64 (iWrap .u64 (iAdd .i64 a b)) 1))
                                          (iSub .i64 (iAdd .i64 (iWrap .i64 (iShr .u64 (iWrap .u64 (iAdd .i64 a b)) 1)) m) 1) c0 cs rest
                                          toks tys))
                                      c0
                                      (sym5_l2 off len a m b (iWrap .i64 (iShr .u64 (iWrap .u64 (iAdd .i64 a b)) 1))
                                        (iAdd .i64 (iWrap .i64 (iShr .u64 (iWrap .u64 (iAdd .i64 a b)) 1)) m)
                                        (iSub .i64 (iAdd .i64 (iWrap .i64 (iShr .u64 (iWrap .u64 (iAdd .i64 a b)) 1)) m) b)
                                        (iWrap .i64 (iShr .u64 (iWrap .u64 (iAdd .i64 a b)) 1))
                                        (iSub .i64 (iAdd .i64 (iWrap .i64 (iShr .u64 (iWrap .u64 (iAdd .i64 a b)) 1)) m) 1) c0 cs rest
                                        toks tys)
                                      rest toks tys)
                                    rest toks tys ::
                                  rest)
                              toks (82 :: 1000023 :: tys)))
                        Tr.fail)
                      (Tr.ret
                        (PV.tup [],
                          Store.mk
                            (c0 ::
                              rot_l2 off len
                                  (sym5_n6 off len a m b (iWrap .i64 (iShr .u64 (iWrap .u64 (iAdd .i64 a b)) 1))
                                    (iAdd .i64 (iWrap .i64 (iShr .u64 (iWrap .u64 (iAdd .i64 a b)) 1)) m)
                                    (iSub .i64 (iAdd .i64 (iWrap .i64 (iShr .u64 (iWrap .u64 (iAdd .i64 a b)) 1)) m) b)
                                    (iWrap .i64 (iShr .u64 (iWrap .u64 (iAdd .i64 a b)) 1))
                                    (iSub .i64 (iAdd .i64 (iWrap .i64 (iShr .u64 (iWrap .u64 (iAdd .i64 a b)) 1)) m) 1) c0 cs rest toks
                                    tys)
                                  m
                                  (iSub .i64 (iAdd .i64 (iWrap .i64 (iShr .u64 (iWrap .u64 (iAdd .i64 a b)) 1)) m)
                                    (sym5_n6 off len a m b (iWrap .i64 (iShr .u64 (iWrap .u64 (iAdd .i64 a b)) 1))
                                      (iAdd .i64 (iWrap .i64 (iShr .u64 (iWrap .u64 (iAdd .i64 a b)) 1)) m)
                                      (iSub .i64 (iAdd .i64 (iWrap .i64 (iShr .u64 (iWrap .u64 (iAdd .i64 a b)) 1)) m) b)
                                      (iWrap .i64 (iShr .u64 (iWrap .u64 (iAdd .i64 a b)) 1))
                                      (iSub .i64 (iAdd .i64 (iWrap .i64 (iShr .u64 (iWrap .u64 (iAdd .i64 a b)) 1)) m) 1) c0 cs rest toks
                                      tys))
                                  c0
                                  (sym5_l2 off len a m b (iWrap .i64 (iShr .u64 (iWrap .u64 (iAdd .i64 a b)) 1))
                                    (iAdd .i64 (iWrap .i64 (iShr .u64 (iWrap .u64 (iAdd .i64 a b)) 1)) m)
                                    (iSub .i64 (iAdd .i64 (iWrap .i64 (iShr .u64 (iWrap .u64 (iAdd .i64 a b)) 1)) m) b)
                                    (iWrap .i64 (iShr .u64 (iWrap .u64 (iAdd .i64 a b)) 1))
                                    (iSub .i64 (iAdd .i64 (iWrap .i64 (iShr .u64 (iWrap .u64 (iAdd .i64 a b)) 1)) m) 1) c0 cs rest toks
                                    tys)
                                  rest toks tys ::
                                rest)
                            toks (82 :: 1000023 :: tys))))
                    (Tr.ret
                      (PV.tup [],
                        Store.mk
                          (c0 ::
                            rot_l2 off len
                                (sym5_n6 off len a m b (iWrap .i64 (iShr .u64 (iWrap .u64 (iAdd .i64 a b)) 1))
                                  (iAdd .i64 (iWrap .i64 (iShr .u64 (iWrap .u64 (iAdd .i64 a b)) 1)) m)
                                  (iSub .i64 (iAdd .i64 (iWrap .i64 (iShr .u64 (iWrap .u64 (iAdd .i64 a b)) 1)) m) b)
                                  (iWrap .i64 (iShr .u64 (iWrap .u64 (iAdd .i64 a b)) 1))
                                  (iSub .i64 (iAdd .i64 (iWrap .i64 (iShr .u64 (iWrap .u64 (iAdd .i64 a b)) 1)) m) 1) c0 cs rest toks tys)
                                m
                                (iSub .i64 (iAdd .i64 (iWrap .i64 (iShr .u64 (iWrap .u64 (iAdd .i64 a b)) 1)) m)
                                  (sym5_n6 off len a m b (iWrap .i64 (iShr .u64 (iWrap .u64 (iAdd .i64 a b)) 1))
                                    (iAdd .i64 (iWrap .i64 (iShr .u64 (iWrap .u64 (iAdd .i64 a b)) 1)) m)
                                    (iSub .i64 (iAdd .i64 (iWrap .i64 (iShr .u64 (iWrap .u64 (iAdd .i64 a b)) 1)) m) b)
                                    (iWrap .i64 (iShr .u64 (iWrap .u64 (iAdd .i64 a b)) 1))
                                    (iSub .i64 (iAdd .i64 (iWrap .i64 (iShr .u64 (iWrap .u64 (iAdd .i64 a b)) 1)) m) 1) c0 cs rest toks
                                    tys))
                                c0
                                (sym5_l2 off len a m b (iWrap .i64 (iShr .u64 (iWrap .u64 (iAdd .i64 a b)) 1))
                                  (iAdd .i64 (iWrap .i64 (iShr .u64 (iWrap .u64 (iAdd .i64 a b)) 1)) m)
                                  (iSub .i64 (iAdd .i64 (iWrap .i64 (iShr .u64 (iWrap .u64 (iAdd .i64 a b)) 1)) m) b)
                                  (iWrap .i64 (iShr .u64 (iWrap .u64 (iAdd .i64 a b)) 1))
                                  (iSub .i64 (iAdd .i64 (iWrap .i64 (iShr .u64 (iWrap .u64 (iAdd .i64 a b)) 1)) m) 1) c0 cs rest toks tys)
                                rest toks tys ::
                              rest)
                          toks (82 :: 1000023 :: tys)))))
                (Tr.ite
                  (iLt (iWrap .i64 (iShr .u64 (iWrap .u64 (iAdd .i64 a b)) 1))
                    (iSub .i64 (iAdd .i64 (iWrap .i64 (iShr .u64 (iWrap .u64 (iAdd .i64 a b)) 1)) m)
                      (sym5_n6 off len a m b (iWrap .i64 (iShr .u64 (iWrap .u64 (iAdd .i64 a b)) 1))
                        (iAdd .i64 (iWrap .i64 (iShr .u64 (iWrap .u64 (iAdd .i64 a b)) 1)) m)
                        (iSub .i64 (iAdd .i64 (iWrap .i64 (iShr .u64 (iWrap .u64 (iAdd .i64 a b)) 1)) m) b)
                        (iWrap .i64 (iShr .u64 (iWrap .u64 (iAdd .i64 a b)) 1))
                        (iSub .i64 (iAdd .i64 (iWrap .i64 (iShr .u64 (iWrap .u64 (iAdd .i64 a b)) 1)) m) 1) c0 cs rest toks tys)))
                  (Tr.ite
                    (iLt
                      (iSub .i64 (iAdd .i64 (iWrap .i64 (iShr .u64 (iWrap .u64 (iAdd .i64 a b)) 1)) m)
                        (sym5_n6 off len a m b (iWrap .i64 (iShr .u64 (iWrap .u64 (iAdd .i64 a b)) 1))
                          (iAdd .i64 (iWrap .i64 (iShr .u64 (iWrap .u64 (iAdd .i64 a b)) 1)) m)
                          (iSub .i64 (iAdd .i64 (iWrap .i64 (iShr .u64 (iWrap .u64 (iAdd .i64 a b)) 1)) m) b)
                          (iWrap .i64 (iShr .u64 (iWrap .u64 (iAdd .i64 a b)) 1))
                          (iSub .i64 (iAdd .i64 (iWrap .i64 (iShr .u64 (iWrap .u64 (iAdd .i64 a b)) 1)) m) 1) c0 cs rest toks tys))
                      b)
                    (Tr.ite
                      (rec_is0 off len (iWrap .i64 (iShr .u64 (iWrap .u64 (iAdd .i64 a b)) 1))
                        (iSub .i64 (iAdd .i64 (iWrap .i64 (iShr .u64 (iWrap .u64 (iAdd .i64 a b)) 1)) m)
                          (sym5_n6 off len a m b (iWrap .i64 (iShr .u64 (iWrap .u64 (iAdd .i64 a b)) 1))
                            (iAdd .i64 (iWrap .i64 (iShr .u64 (iWrap .u64 (iAdd .i64 a b)) 1)) m)
                            (iSub .i64 (iAdd .i64 (iWrap .i64 (iShr .u64 (iWrap .u64 (iAdd .i64 a b)) 1)) m) b)
                            (iWrap .i64 (iShr .u64 (iWrap .u64 (iAdd .i64 a b)) 1))
                            (iSub .i64 (iAdd .i64 (iWrap .i64 (iShr .u64 (iWrap .u64 (iAdd .i64 a b)) 1)) m) 1) c0 cs rest toks tys))
                        b c0
                        (rot_l2 off len
                          (sym5_n6 off len a m b (iWrap .i64 (iShr .u64 (iWrap .u64 (iAdd .i64 a b)) 1))
                            (iAdd .i64 (iWrap .i64 (iShr .u64 (iWrap .u64 (iAdd .i64 a b)) 1)) m)
                            (iSub .i64 (iAdd .i64 (iWrap .i64 (iShr .u64 (iWrap .u64 (iAdd .i64 a b)) 1)) m) b)
                            (iWrap .i64 (iShr .u64 (iWrap .u64 (iAdd .i64 a b)) 1))
                            (iSub .i64 (iAdd .i64 (iWrap .i64 (iShr .u64 (iWrap .u64 (iAdd .i64 a b)) 1)) m) 1) c0 cs rest toks tys)
                          m
                          (iSub .i64 (iAdd .i64 (iWrap .i64 (iShr .u64 (iWrap .u64 (iAdd .i64 a b)) 1)) m)
                            (sym5_n6 off len a m b (iWrap .i64 (iShr .u64 (iWrap .u64 (iAdd .i64 a b)) 1))
                              (iAdd .i64 (iWrap .i64 (iShr .u64 (iWrap .u64 (iAdd .i64 a b)) 1)) m)
                              (iSub .i64 (iAdd .i64 (iWrap .i64 (iShr .u64 (iWrap .u64 (iAdd .i64 a b)) 1)) m) b)
                              (iWrap .i64 (iShr .u64 (iWrap .u64 (iAdd .i64 a b)) 1))
                              (iSub .i64 (iAdd .i64 (iWrap .i64 (iShr .u64 (iWrap .u64 (iAdd .i64 a b)) 1)) m) 1) c0 cs rest toks tys))
                          c0
                          (sym5_l2 off len a m b (iWrap .i64 (iShr .u64 (iWrap .u64 (iAdd .i64 a b)) 1))
                            (iAdd .i64 (iWrap .i64 (iShr .u64 (iWrap .u64 (iAdd .i64 a b)) 1)) m)
                            (iSub .i64 (iAdd .i64 (iWrap .i64 (iShr .u64 (iWrap .u64 (iAdd .i64 a b)) 1)) m) b)
                            (iWrap .i64 (iShr .u64 (iWrap .u64 (iAdd .i64 a b)) 1))
                            (iSub .i64 (iAdd .i64 (iWrap .i64 (iShr .u64 (iWrap .u64 (iAdd .i64 a b)) 1)) m) 1) c0 cs rest toks tys)
                          rest toks tys)
                        rest toks tys)
                      (Tr.ret
                        (PV.tup [],
                          Store.mk
                            (c0 ::
                              rec_l off len (iWrap .i64 (iShr .u64 (iWrap .u64 (iAdd .i64 a b)) 1))
                                  (iSub .i64 (iAdd .i64 (iWrap .i64 (iShr .u64 (iWrap .u64 (iAdd .i64 a b)) 1)) m)
                                    (sym5_n6 off len a m b (iWrap .i64 (iShr .u64 (iWrap .u64 (iAdd .i64 a b)) 1))
                                      (iAdd .i64 (iWrap .i64 (iShr .u64 (iWrap .u64 (iAdd .i64 a b)) 1)) m)
                                      (iSub .i64 (iAdd .i64 (iWrap .i64 (iShr .u64 (iWrap .u64 (iAdd .i64 a b)) 1)) m) b)
                                      (iWrap .i64 (iShr .u64 (iWrap .u64 (iAdd .i64 a b)) 1))
                                      (iSub .i64 (iAdd .i64 (iWrap .i64 (iShr .u64 (iWrap .u64 (iAdd .i64 a b)) 1)) m) 1) c0 cs rest toks
                                      tys))
                                  b c0
                                  (rot_l2 off len
                                    (sym5_n6 off len a m b (iWrap .i64 (iShr .u64 (iWrap .u64 (iAdd .i64 a b)) 1))
                                      (iAdd .i64 (iWrap .i64 (iShr .u64 (iWrap .u64 (iAdd .i64 a b)) 1)) m)
                                      (iSub .i64 (iAdd .i64 (iWrap .i64 (iShr .u64 (iWrap .u64 (iAdd .i64 a b)) 1)) m) b)
                                      (iWrap .i64 (iShr .u64 (iWrap .u64 (iAdd .i64 a b)) 1))
                                      (iSub .i64 (iAdd .i64 (iWrap .i64 (iShr .u64 (iWrap .u64 (iAdd .i64 a b)) 1)) m) 1) c0 cs rest toks
                                      tys)
                                    m
                                    (iSub .i64 (iAdd .i64 (iWrap .i64 (iShr .u64 (iWrap .u64 (iAdd .i64 a b)) 1)) m)
                                      (sym5_n6 off len a m b (iWrap .i64 (iShr .u64 (iWrap .u64 (iAdd .i64 a b)) 1))
                                        (iAdd .i64 (iWrap .i64 (iShr .u64 (iWrap .u64 (iAdd .i64 a b)) 1)) m)
                                        (iSub .i64 (iAdd .i64 (iWrap .i64 (iShr .u64 (iWrap .u64 (iAdd .i64 a b)) 1)) m) b)
                                        (iWrap .i64 (iShr .u64 (iWrap .u64 (iAdd .i64 a b)) 1))
                                        (iSub .i64 (iAdd .i64 (iWrap .i64 (iShr .u64 (iWrap .u64 (iAdd .i64 a b)) 1)) m) 1) c0 cs rest
                                        toks tys))
                                    c0
                                    (sym5_l2 off len a m b (iWrap .i64 (iShr .u64 (iWrap .u64 (iAdd .i64 a b)) 1))
                                      (iAdd .i64 (iWrap .i64 (iShr .u64 (iWrap .u64 (iAdd .i64 a b)) 1)) m)
                                      (iSub .i64 (iAdd .i64 (iWrap .i64 (iShr .u64 (iWrap .u64 (iAdd .i64 a b)) 1)) m) b)
                                      (iWrap .i64 (iShr .u64 (iWrap .u64 (iAdd .i64 a b)) 1))
                                      (iSub .i64 (iAdd .i64 (iWrap .i64 (iShr .u64 (iWrap .u64 (iAdd .i64 a b)) 1)) m) 1) c0 cs rest toks
                                      tys)
                                    rest toks tys)
                                  rest toks tys ::
                                rest)
                            toks (82 :: 1000023 :: tys)))
                      Tr.fail)
                    (Tr.ret
                      (PV.tup [],
                        Store.mk
                          (c0 ::
                            rot_l2 off len
                                (sym5_n6 off len a m b (iWrap .i64 (iShr .u64 (iWrap .u64 (iAdd .i64 a b)) 1))
                                  (iAdd .i64 (iWrap .i64 (iShr .u64 (iWrap .u64 (iAdd .i64 a b)) 1)) m)
                                  (iSub .i64 (iAdd .i64 (iWrap .i64 (iShr .u64 (iWrap .u64 (iAdd .i64 a b)) 1)) m) b)
                                  (iWrap .i64 (iShr .u64 (iWrap .u64 (iAdd .i64 a b)) 1))
                                  (iSub .i64 (iAdd .i64 (iWrap .i64 (iShr .u64 (iWrap .u64 (iAdd .i64 a b)) 1)) m) 1) c0 cs rest toks tys)
                                m
                                (iSub .i64 (iAdd .i64 (iWrap .i64 (iShr .u64 (iWrap .u64 (iAdd .i64 a b)) 1)) m)
                                  (sym5_n6 off len a m b (iWrap .i64 (iShr .u64 (iWrap .u64 (iAdd .i64 a b)) 1))
                                    (iAdd .i64 (iWrap .i64 (iShr .u64 (iWrap .u64 (iAdd .i64 a b)) 1)) m)
                                    (iSub .i64 (iAdd .i64 (iWrap .i64 (iShr .u64 (iWrap .u64 (iAdd .i64 a b)) 1)) m) b)
                                    (iWrap .i64 (iShr .u64 (iWrap .u64 (iAdd .i64 a b)) 1))
                                    (iSub .i64 (iAdd .i64 (iWrap .i64 (iShr .u64 (iWrap .u64 (iAdd .i64 a b)) 1)) m) 1) c0 cs rest toks
                                    tys))
                                c0
                                (sym5_l2 off len a m b (iWrap .i64 (iShr .u64 (iWrap .u64 (iAdd .i64 a b)) 1))
                                  (iAdd .i64 (iWrap .i64 (iShr .u64 (iWrap .u64 (iAdd .i64 a b)) 1)) m)
                                  (iSub .i64 (iAdd .i64 (iWrap .i64 (iShr .u64 (iWrap .u64 (iAdd .i64 a b)) 1)) m) b)
                                  (iWrap .i64 (iShr .u64 (iWrap .u64 (iAdd .i64 a b)) 1))
                                  (iSub .i64 (iAdd .i64 (iWrap .i64 (iShr .u64 (iWrap .u64 (iAdd .i64 a b)) 1)) m) 1) c0 cs rest toks tys)
                                rest toks tys ::
                              rest)
                          toks (82 :: 1000023 :: tys))))
                  (Tr.ret
                    (PV.tup [],
                      Store.mk
                        (c0 ::
                          rot_l2 off len
                              (sym5_n6 off len a m b (iWrap .i64 (iShr .u64 (iWrap .u64 (iAdd .i64 a b)) 1))
                                (iAdd .i64 (iWrap .i64 (iShr .u64 (iWrap .u64 (iAdd .i64 a b)) 1)) m)
                                (iSub .i64 (iAdd .i64 (iWrap .i64 (iShr .u64 (iWrap .u64 (iAdd .i64 a b)) 1)) m) b)
                                (iWrap .i64 (iShr .u64 (iWrap .u64 (iAdd .i64 a b)) 1))
                                (iSub .i64 (iAdd .i64 (iWrap .i64 (iShr .u64 (iWrap .u64 (iAdd .i64 a b)) 1)) m) 1) c0 cs rest toks tys)
                              m
                              (iSub .i64 (iAdd .i64 (iWrap .i64 (iShr .u64 (iWrap .u64 (iAdd .i64 a b)) 1)) m)
                                (sym5_n6 off len a m b (iWrap .i64 (iShr .u64 (iWrap .u64 (iAdd .i64 a b)) 1))
                                  (iAdd .i64 (iWrap .i64 (iShr .u64 (iWrap .u64 (iAdd .i64 a b)) 1)) m)
                                  (iSub .i64 (iAdd .i64 (iWrap .i64 (iShr .u64 (iWrap .u64 (iAdd .i64 a b)) 1)) m) b)
                                  (iWrap .i64 (iShr .u64 (iWrap .u64 (iAdd .i64 a b)) 1))
                                  (iSub .i64 (iAdd .i64 (iWrap .i64 (iShr .u64 (iWrap .u64 (iAdd .i64 a b)) 1)) m) 1) c0 cs rest toks
                                  tys))
                              c0
                              (sym5_l2 off len a m b (iWrap .i64 (iShr .u64 (iWrap .u64 (iAdd .i64 a b)) 1))
                                (iAdd .i64 (iWrap .i64 (iShr .u64 (iWrap .u64 (iAdd .i64 a b)) 1)) m)
                                (iSub .i64 (iAdd .i64 (iWrap .i64 (iShr .u64 (iWrap .u64 (iAdd .i64 a b)) 1)) m) b)
                                (iWrap .i64 (iShr .u64 (iWrap .u64 (iAdd .i64 a b)) 1))
                                (iSub .i64 (iAdd .i64 (iWrap .i64 (iShr .u64 (iWrap .u64 (iAdd .i64 a b)) 1)) m) 1) c0 cs rest toks tys)
                              rest toks tys ::
                            rest)
                        toks (82 :: 1000023 :: tys)))))
              Tr.fail)
            (Tr.ite
              (iLt a
                (sym5_n6 off len a m b (iWrap .i64 (iShr .u64 (iWrap .u64 (iAdd .i64 a b)) 1))
                  (iAdd .i64 (iWrap .i64 (iShr .u64 (iWrap .u64 (iAdd .i64 a b)) 1)) m)
                  (iSub .i64 (iAdd .i64 (iWrap .i64 (iShr .u64 (iWrap .u64 (iAdd .i64 a b)) 1)) m) b)
                  (iWrap .i64 (iShr .u64 (iWrap .u64 (iAdd .i64 a b)) 1))
                  (iSub .i64 (iAdd .i64 (iWrap .i64 (iShr .u64 (iWrap .u64 (iAdd .i64 a b)) 1)) m) 1) c0 cs rest toks tys))
              (Tr.ite
                (iLt
                  (sym5_n6 off len a m b (iWrap .i64 (iShr .u64 (iWrap .u64 (iAdd .i64 a b)) 1))
                    (iAdd .i64 (iWrap .i64 (iShr .u64 (iWrap .u64 (iAdd .i64 a b)) 1)) m)
                    (iSub .i64 (iAdd .i64 (iWrap .i64 (iShr .u64 (iWrap .u64 (iAdd .i64 a b)) 1)) m) b)
                    (iWrap .i64 (iShr .u64 (iWrap .u64 (iAdd .i64 a b)) 1))
                    (iSub .i64 (iAdd .i64 (iWrap .i64 (iShr .u64 (iWrap .u64 (iAdd .i64 a b)) 1)) m) 1) c0 cs rest toks tys)
                  (iWrap .i64 (iShr .u64 (iWrap .u64 (iAdd .i64 a b)) 1)))
                (Tr.ite
                  (rec_is0 off len a
                    (sym5_n6 off len a m b (iWrap .i64 (iShr .u64 (iWrap .u64 (iAdd .i64 a b)) 1))
                      (iAdd .i64 (iWrap .i64 (iShr .u64 (iWrap .u64 (iAdd .i64 a b)) 1)) m)
                      (iSub .i64 (iAdd .i64 (iWrap .i64 (iShr .u64 (iWrap .u64 (iAdd .i64 a b)) 1)) m) b)
                      (iWrap .i64 (iShr .u64 (iWrap .u64 (iAdd .i64 a b)) 1))
                      (iSub .i64 (iAdd .i64 (iWrap .i64 (iShr .u64 (iWrap .u64 (iAdd .i64 a b)) 1)) m) 1) c0 cs rest toks tys)
                    (iWrap .i64 (iShr .u64 (iWrap .u64 (iAdd .i64 a b)) 1)) c0
                    (sym5_l2 off len a m b (iWrap .i64 (iShr .u64 (iWrap .u64 (iAdd .i64 a b)) 1))
                      (iAdd .i64 (iWrap .i64 (iShr .u64 (iWrap .u64 (iAdd .i64 a b)) 1)) m)
                      (iSub .i64 (iAdd .i64 (iWrap .i64 (iShr .u64 (iWrap .u64 (iAdd .i64 a b)) 1)) m) b)
                      (iWrap .i64 (iShr .u64 (iWrap .u64 (iAdd .i64 a b)) 1))
                      (iSub .i64 (iAdd .i64 (iWrap .i64 (iShr .u64 (iWrap .u64 (iAdd .i64 a b)) 1)) m) 1) c0 cs rest toks tys)
                    rest toks tys)
                  (Tr.ite
                    (iLt (iWrap .i64 (iShr .u64 (iWrap .u64 (iAdd .i64 a b)) 1))
                      (iSub .i64 (iAdd .i64 (iWrap .i64 (iShr .u64 (iWrap .u64 (iAdd .i64 a b)) 1)) m)
                        (sym5_n6 off len a m b (iWrap .i64 (iShr .u64 (iWrap .u64 (iAdd .i64 a b)) 1))
                          (iAdd .i64 (iWrap .i64 (iShr .u64 (iWrap .u64 (iAdd .i64 a b)) 1)) m)
                          (iSub .i64 (iAdd .i64 (iWrap .i64 (iShr .u64 (iWrap .u64 (iAdd .i64 a b)) 1)) m) b)
                          (iWrap .i64 (iShr .u64 (iWrap .u64 (iAdd .i64 a b)) 1))
                          (iSub .i64 (iAdd .i64 (iWrap .i64 (iShr .u64 (iWrap .u64 (iAdd .i64 a b)) 1)) m) 1) c0 cs rest toks tys)))
                    (Tr.ite
                      (iLt
                        (iSub .i64 (iAdd .i64 (iWrap .i64 (iShr .u64 (iWrap .u64 (iAdd .i64 a b)) 1)) m)
                          (sym5_n6 off len a m b (iWrap .i64 (iShr .u64 (iWrap .u64 (iAdd .i64 a b)) 1))
                            (iAdd .i64 (iWrap .i64 (iShr .u64 (iWrap .u64 (iAdd .i64 a b)) 1)) m)
                            (iSub .i64 (iAdd .i64 (iWrap .i64 (iShr .u64 (iWrap .u64 (iAdd .i64 a b)) 1)) m) b)
                            (iWrap .i64 (iShr .u64 (iWrap .u64 (iAdd .i64 a b)) 1))
                            (iSub .i64 (iAdd .i64 (iWrap .i64 (iShr .u64 (iWrap .u64 (iAdd .i64 a b)) 1)) m) 1) c0 cs rest toks tys))
                        b)
                      (Tr.ite
                        (rec_is0 off len (iWrap .i64 (iShr .u64 (iWrap .u64 (iAdd .i64 a b)) 1))
                          (iSub .i64 (iAdd .i64 (iWrap .i64 (iShr .u64 (iWrap .u64 (iAdd .i64 a b)) 1)) m)
                            (sym5_n6 off len a m b (iWrap .i64 (iShr .u64 (iWrap .u64 (iAdd .i64 a b)) 1))
                              (iAdd .i64 (iWrap .i64 (iShr .u64 (iWrap .u64 (iAdd .i64 a b)) 1)) m)
                              (iSub .i64 (iAdd .i64 (iWrap .i64 (iShr .u64 (iWrap .u64 (iAdd .i64 a b)) 1)) m) b)
                              (iWrap .i64 (iShr .u64 (iWrap .u64 (iAdd .i64 a b)) 1))
                              (iSub .i64 (iAdd .i64 (iWrap .i64 (iShr .u64 (iWrap .u64 (iAdd .i64 a b)) 1)) m) 1) c0 cs rest toks tys))
                          b c0
                          (rec_l off len a
                            (sym5_n6 off len a m b (iWrap .i64 (iShr .u64 (iWrap .u64 (iAdd .i64 a b)) 1))
                              (iAdd .i64 (iWrap .i64 (iShr .u64 (iWrap .u64 (iAdd .i64 a b)) 1)) m)
                              (iSub .i64 (iAdd .i64 (iWrap .i64 (iShr .u64 (iWrap .u64 (iAdd .i64 a b)) 1)) m) b)
                              (iWrap .i64 (iShr .u64 (iWrap .u64 (iAdd .i64 a b)) 1))
                              (iSub .i64 (iAdd .i64 (iWrap .i64 (iShr .u64 (iWrap .u64 (iAdd .i64 a b)) 1)) m) 1) c0 cs rest toks tys)
                            (iWrap .i64 (iShr .u64 (iWrap .u64 (iAdd .i64 a b)) 1)) c0
                            (sym5_l2 off len a m b (iWrap .i64 (iShr .u64 (iWrap .u64 (iAdd .i64 a b)) 1))
                              (iAdd .i64 (iWrap .i64 (iShr .u64 (iWrap .u64 (iAdd .i64 a b)) 1)) m)
                              (iSub .i64 (iAdd .i64 (iWrap .i64 (iShr .u64 (iWrap .u64 (iAdd .i64 a b)) 1)) m) b)
                              (iWrap .i64 (iShr .u64 (iWrap .u64 (iAdd .i64 a b)) 1))
                              (iSub .i64 (iAdd .i64 (iWrap .i64 (iShr .u64 (iWrap .u64 (iAdd .i64 a b)) 1)) m) 1) c0 cs rest toks tys)
                            rest toks tys)
                          rest toks tys)
                        (Tr.ret
                          (PV.tup [],
                            Store.mk
                              (c0 ::
                                rec_l off len (iWrap .i64 (iShr .u64 (iWrap .u64 (iAdd .i64 a b)) 1))
                                    (iSub .i64 (iAdd .i64 (iWrap .i64 (iShr .u64 (iWrap .u64 (iAdd .i64 a b)) 1)) m)
                                      (sym5_n6 off len a m b (iWrap .i64 (iShr .u64 (iWrap .u64 (iAdd .i64 a b)) 1))
                                        (iAdd .i64 (iWrap .i64 (iShr .u64 (iWrap .u64 (iAdd .i64 a b)) 1)) m)
                                        (iSub .i64 (iAdd .i64 (iWrap .i64 (iShr .u64 (iWrap .u64 (iAdd .i64 a b)) 1)) m) b)
                                        (iWrap .i64 (iShr .u64 (iWrap .u64 (iAdd .i64 a b)) 1))
                                        (iSub .i64 (iAdd .i64 (iWrap .i64 (iShr .u64 (iWrap .u64 (iAdd .i64 a b)) 1)) m) 1) c0 cs rest
                                        toks tys))
                                    b c0
                                    (rec_l off len a
                                      (sym5_n6 off len a m b (iWrap .i64 (iShr .u64 (iWrap .u64 (iAdd .i64 a b)) 1))
                                        (iAdd .i64 (iWrap .i64 (iShr .u64 (iWrap .u64 (iAdd .i64 a b)) 1)) m)
                                        (iSub .i64 (iAdd .i64 (iWrap .i64 (iShr .u64 (iWrap .u64 (iAdd .i64 a b)) 1)) m) b)
                                        (iWrap .i64 (iShr .u64 (iWrap .u64 (iAdd .i64 a b)) 1))
                                        (iSub .i64 (iAdd .i64 (iWrap .i64 (iShr .u64 (iWrap .u64 (iAdd .i64 a b)) 1)) m) 1) c0 cs rest
                                        toks tys)
                                      (iWrap .i64 (iShr .u64 (iWrap .u64 (iAdd .i64 a b)) 1)) c0
                                      (sym5_l2 off len a m b (iWrap .i64 (iShr .u64 (iWrap .u64 (iAdd .i64 a b)) 1))
                                        (iAdd .i64 (iWrap .i64 (iShr .u64 (iWrap .u64 (iAdd .i64 a b)) 1)) m)
                                        (iSub .i64 (iAdd .i64 (iWrap .i64 (iShr .u64 (iWrap .u64 (iAdd .i64 a b)) 1)) m) b)
                                        (iWrap .i64 (iShr .u64 (iWrap .u64 (iAdd .i64 a b)) 1))
                                        (iSub .i64 (iAdd .i64 (iWrap .i64 (iShr .u64 (iWrap .u64 (iAdd .i64 a b)) 1)) m) 1) c0 cs rest
                                        toks tys)
                                      rest toks tys)
                                    rest toks tys ::
                                  rest)
                              toks (82 :: 1000023 :: tys)))
                        Tr.fail)
                      (Tr.ret
                        (PV.tup [],
                          Store.mk
                            (c0 ::
                              rec_l off len a
                                  (sym5_n6 off len a m b (iWrap .i64 (iShr .u64 (iWrap .u64 (iAdd .i64 a b)) 1))
                                    (iAdd .i64 (iWrap .i64 (iShr .u64 (iWrap .u64 (iAdd .i64 a b)) 1)) m)
                                    (iSub .i64 (iAdd .i64 (iWrap .i64 (iShr .u64 (iWrap .u64 (iAdd .i64 a b)) 1)) m) b)
                                    (iWrap .i64 (iShr .u64 (iWrap .u64 (iAdd .i64 a b)) 1))
                                    (iSub .i64 (iAdd .i64 (iWrap .i64 (iShr .u64 (iWrap .u64 (iAdd .i64 a b)) 1)) m) 1) c0 cs rest toks
                                    tys)
                                  (iWrap .i64 (iShr .u64 (iWrap .u64 (iAdd .i64 a b)) 1)) c0
                                  (sym5_l2 off len a m b (iWrap .i64 (iShr .u64 (iWrap .u64 (iAdd .i64 a b)) 1))
                                    (iAdd .i64 (iWrap .i64 (iShr .u64 (iWrap .u64 (iAdd .i64 a b)) 1)) m)
                                    (iSub .i64 (iAdd .i64 (iWrap .i64 (iShr .u64 (iWrap .u64 (iAdd .i64 a b)) 1)) m) b)
                                    (iWrap .i64 (iShr .u64 (iWrap .u64 (iAdd .i64 a b)) 1))
                                    (iSub .i64 (iAdd .i64 (iWrap .i64 (iShr .u64 (iWrap .u64 (iAdd .i64 a b)) 1)) m) 1) c0 cs rest toks
                                    tys)
                                  rest toks tys ::
                                rest)
                            toks (82 :: 1000023 :: tys))))
                    (Tr.ret
                      (PV.tup [],
                        Store.mk
                          (c0 ::
                            rec_l off len a
                                (sym5_n6 off len a m b (iWrap .i64 (iShr .u64 (iWrap .u64 (iAdd .i64 a b)) 1))
                                  (iAdd .i64 (iWrap .i64 (iShr .u64 (iWrap .u64 (iAdd .i64 a b)) 1)) m)
                                  (iSub .i64 (iAdd .i64 (iWrap .i64 (iShr .u64 (iWrap .u64 (iAdd .i64 a b)) 1)) m) b)
                                  (iWrap .i64 (iShr .u64 (iWrap .u64 (iAdd .i64 a b)) 1))
                                  (iSub .i64 (iAdd .i64 (iWrap .i64 (iShr .u64 (iWrap .u64 (iAdd .i64 a b)) 1)) m) 1) c0 cs rest toks tys)
                                (iWrap .i64 (iShr .u64 (iWrap .u64 (iAdd .i64 a b)) 1)) c0
                                (sym5_l2 off len a m b (iWrap .i64 (iShr .u64 (iWrap .u64 (iAdd .i64 a b)) 1))
                                  (iAdd .i64 (iWrap .i64 (iShr .u64 (iWrap .u64 (iAdd .i64 a b)) 1)) m)
                                  (iSub .i64 (iAdd .i64 (iWrap .i64 (iShr .u64 (iWrap .u64 (iAdd .i64 a b)) 1)) m) b)
                                  (iWrap .i64 (iShr .u64 (iWrap .u64 (iAdd .i64 a b)) 1))
                                  (iSub .i64 (iAdd .i64 (iWrap .i64 (iShr .u64 (iWrap .u64 (iAdd .i64 a b)) 1)) m) 1) c0 cs rest toks tys)
                                rest toks tys ::
                              rest)
                          toks (82 :: 1000023 :: tys))))
                  Tr.fail)
                (Tr.ite
                  (iLt (iWrap .i64 (iShr .u64 (iWrap .u64 (iAdd .i64 a b)) 1))
                    (iSub .i64 (iAdd .i64 (iWrap .i64 (iShr .u64 (iWrap .u64 (iAdd .i64 a b)) 1)) m)
                      (sym5_n6 off len a m b (iWrap .i64 (iShr .u64 (iWrap .u64 (iAdd .i64 a b)) 1))
                        (iAdd .i64 (iWrap .i64 (iShr .u64 (iWrap .u64 (iAdd .i64 a b)) 1)) m)
                        (iSub .i64 (iAdd .i64 (iWrap .i64 (iShr .u64 (iWrap .u64 (iAdd .i64 a b)) 1)) m) b)
                        (iWrap .i64 (iShr .u64 (iWrap .u64 (iAdd .i64 a b)) 1))
                        (iSub .i64 (iAdd .i64 (iWrap .i64 (iShr .u64 (iWrap .u64 (iAdd .i64 a b)) 1)) m) 1) c0 cs rest toks tys)))
                  (Tr.ite
                    (iLt
                      (iSub .i64 (iAdd .i64 (iWrap .i64 (iShr .u64 (iWrap .u64 (iAdd .i64 a b)) 1)) m)
                        (sym5_n6 off len a m b (iWrap .i64 (iShr .u64 (iWrap .u64 (iAdd .i64 a b)) 1))
                          (iAdd .i64 (iWrap .i64 (iShr .u64 (iWrap .u64 (iAdd .i64 a b)) 1)) m)
                          (iSub .i64 (iAdd .i64 (iWrap .i64 (iShr .u64 (iWrap .u64 (iAdd .i64 a b)) 1)) m) b)
                          (iWrap .i64 (iShr .u64 (iWrap .u64 (iAdd .i64 a b)) 1))
                          (iSub .i64 (iAdd .i64 (iWrap .i64 (iShr .u64 (iWrap .u64 (iAdd .i64 a b)) 1)) m) 1) c0 cs rest toks tys))
                      b)
                    (Tr.ite
                      (rec_is0 off len (iWrap .i64 (iShr .u64 (iWrap .u64 (iAdd .i64 a b)) 1))
                        (iSub .i64 (iAdd .i64 (iWrap .i64 (iShr .u64 (iWrap .u64 (iAdd .i64 a b)) 1)) m)
                          (sym5_n6 off len a m b (iWrap .i64 (iShr .u64 (iWrap .u64 (iAdd .i64 a b)) 1))
                            (iAdd .i64 (iWrap .i64 (iShr .u64 (iWrap .u64 (iAdd .i64 a b)) 1)) m)
                            (iSub .i64 (iAdd .i64 (iWrap .i64 (iShr .u64 (iWrap .u64 (iAdd .i64 a b)) 1)) m) b)
                            (iWrap .i64 (iShr .u64 (iWrap .u64 (iAdd .i64 a b)) 1))
                            (iSub .i64 (iAdd .i64 (iWrap .i64 (iShr .u64 (iWrap .u64 (iAdd .i64 a b)) 1)) m) 1) c0 cs rest toks tys))
                        b c0
                        (sym5_l2 off len a m b (iWrap .i64 (iShr .u64 (iWrap .u64 (iAdd .i64 a b)) 1))
                          (iAdd .i64 (iWrap .i64 (iShr .u64 (iWrap .u64 (iAdd .i64 a b)) 1)) m)
                          (iSub .i64 (iAdd .i64 (iWrap .i64 (iShr .u64 (iWrap .u64 (iAdd .i64 a b)) 1)) m) b)
                          (iWrap .i64 (iShr .u64 (iWrap .u64 (iAdd .i64 a b)) 1))
                          (iSub .i64 (iAdd .i64 (iWrap .i64 (iShr .u64 (iWrap .u64 (iAdd .i64 a b)) 1)) m) 1) c0 cs rest toks tys)
                        rest toks tys)
                      (Tr.ret
                        (PV.tup [],
                          Store.mk
                            (c0 ::
                              rec_l off len (iWrap .i64 (iShr .u64 (iWrap .u64 (iAdd .i64 a b)) 1))
                                  (iSub .i64 (iAdd .i64 (iWrap .i64 (iShr .u64 (iWrap .u64 (iAdd .i64 a b)) 1)) m)
                                    (sym5_n6 off len a m b (iWrap .i64 (iShr .u64 (iWrap .u64 (iAdd .i64 a b)) 1))
                                      (iAdd .i64 (iWrap .i64 (iShr .u64 (iWrap .u64 (iAdd .i64 a b)) 1)) m)
                                      (iSub .i64 (iAdd .i64 (iWrap .i64 (iShr .u64 (iWrap .u64 (iAdd .i64 a b)) 1)) m) b)
                                      (iWrap .i64 (iShr .u64 (iWrap .u64 (iAdd .i64 a b)) 1))
                                      (iSub .i64 (iAdd .i64 (iWrap .i64 (iShr .u64 (iWrap .u64 (iAdd .i64 a b)) 1)) m) 1) c0 cs rest toks
                                      tys))
                                  b c0
                                  (sym5_l2 off len a m b (iWrap .i64 (iShr .u64 (iWrap .u64 (iAdd .i64 a b)) 1))
                                    (iAdd .i64 (iWrap .i64 (iShr .u64 (iWrap .u64 (iAdd .i64 a b)) 1)) m)
                                    (iSub .i64 (iAdd .i64 (iWrap .i64 (iShr .u64 (iWrap .u64 (iAdd .i64 a b)) 1)) m) b)
                                    (iWrap .i64 (iShr .u64 (iWrap .u64 (iAdd .i64 a b)) 1))
                                    (iSub .i64 (iAdd .i64 (iWrap .i64 (iShr .u64 (iWrap .u64 (iAdd .i64 a b)) 1)) m) 1) c0 cs rest toks
                                    tys)
                                  rest toks tys ::
                                rest)
                            toks (82 :: 1000023 :: tys)))
                      Tr.fail)
                    (Tr.ret
                      (PV.tup [],
                        Store.mk
                          (c0 ::
                            sym5_l2 off len a m b (iWrap .i64 (iShr .u64 (iWrap .u64 (iAdd .i64 a b)) 1))
                                (iAdd .i64 (iWrap .i64 (iShr .u64 (iWrap .u64 (iAdd .i64 a b)) 1)) m)
                                (iSub .i64 (iAdd .i64 (iWrap .i64 (iShr .u64 (iWrap .u64 (iAdd .i64 a b)) 1)) m) b)
                                (iWrap .i64 (iShr .u64 (iWrap .u64 (iAdd .i64 a b)) 1))
                                (iSub .i64 (iAdd .i64 (iWrap .i64 (iShr .u64 (iWrap .u64 (iAdd .i64 a b)) 1)) m) 1) c0 cs rest toks tys ::
                              rest)
                          toks (82 :: 1000023 :: tys))))
                  (Tr.ret
                    (PV.tup [],
                      Store.mk
                        (c0 ::
                          sym5_l2 off len a m b (iWrap .i64 (iShr .u64 (iWrap .u64 (iAdd .i64 a b)) 1))
                              (iAdd .i64 (iWrap .i64 (iShr .u64 (iWrap .u64 (iAdd .i64 a b)) 1)) m)
                              (iSub .i64 (iAdd .i64 (iWrap .i64 (iShr .u64 (iWrap .u64 (iAdd .i64 a b)) 1)) m) b)
                              (iWrap .i64 (iShr .u64 (iWrap .u64 (iAdd .i64 a b)) 1))
                              (iSub .i64 (iAdd .i64 (iWrap .i64 (iShr .u64 (iWrap .u64 (iAdd .i64 a b)) 1)) m) 1) c0 cs rest toks tys ::
                            rest)
                        toks (82 :: 1000023 :: tys)))))
              (Tr.ite
                (iLt (iWrap .i64 (iShr .u64 (iWrap .u64 (iAdd .i64 a b)) 1))
                  (iSub .i64 (iAdd .i64 (iWrap .i64 (iShr .u64 (iWrap .u64 (iAdd .i64 a b)) 1)) m)
                    (sym5_n6 off len a m b (iWrap .i64 (iShr .u64 (iWrap .u64 (iAdd .i64 a b)) 1))
                      (iAdd .i64 (iWrap .i64 (iShr .u64 (iWrap .u64 (iAdd .i64 a b)) 1)) m)
                      (iSub .i64 (iAdd .i64 (iWrap .i64 (iShr .u64 (iWrap .u64 (iAdd .i64 a b)) 1)) m) b)
                      (iWrap .i64 (iShr .u64 (iWrap .u64 (iAdd .i64 a b)) 1))
                      (iSub .i64 (iAdd .i64 (iWrap .i64 (iShr .u64 (iWrap .u64 (iAdd .i64 a b)) 1)) m) 1) c0 cs rest toks tys)))
                (Tr.ite
                  (iLt
                    (iSub .i64 (iAdd .i64 (iWrap .i64 (iShr .u64 (iWrap .u64 (iAdd .i64 a b)) 1)) m)
                      (sym5_n6 off len a m b (iWrap .i64 (iShr .u64 (iWrap .u64 (iAdd .i64 a b)) 1))
                        (iAdd .i64 (iWrap .i64 (iShr .u64 (iWrap .u64 (iAdd .i64 a b)) 1)) m)
                        (iSub .i64 (iAdd .i64 (iWrap .i64 (iShr .u64 (iWrap .u64 (iAdd .i64 a b)) 1)) m) b)
                        (iWrap .i64 (iShr .u64 (iWrap .u64 (iAdd .i64 a b)) 1))
                        (iSub .i64 (iAdd .i64 (iWrap .i64 (iShr .u64 (iWrap .u64 (iAdd .i64 a b)) 1)) m) 1) c0 cs rest toks tys))
                    b)
                  (Tr.ite
                    (rec_is0 off len (iWrap .i64 (iShr .u64 (iWrap .u64 (iAdd .i64 a b)) 1))
                      (iSub .i64 (iAdd .i64 (iWrap .i64 (iShr .u64 (iWrap .u64 (iAdd .i64 a b)) 1)) m)
                        (sym5_n6 off len a m b (iWrap .i64 (iShr .u64 (iWrap .u64 (iAdd .i64 a b)) 1))
                          (iAdd .i64 (iWrap .i64 (iShr .u64 (iWrap .u64 (iAdd .i64 a b)) 1)) m)
                          (iSub .i64 (iAdd .i64 (iWrap .i64 (iShr .u64 (iWrap .u64 (iAdd .i64 a b)) 1)) m) b)
                          (iWrap .i64 (iShr .u64 (iWrap .u64 (iAdd .i64 a b)) 1))
                          (iSub .i64 (iAdd .i64 (iWrap .i64 (iShr .u64 (iWrap .u64 (iAdd .i64 a b)) 1)) m) 1) c0 cs rest toks tys))
                      b c0
                      (sym5_l2 off len a m b (iWrap .i64 (iShr .u64 (iWrap .u64 (iAdd .i64 a b)) 1))
                        (iAdd .i64 (iWrap .i64 (iShr .u64 (iWrap .u64 (iAdd .i64 a b)) 1)) m)
                        (iSub .i64 (iAdd .i64 (iWrap .i64 (iShr .u64 (iWrap .u64 (iAdd .i64 a b)) 1)) m) b)
                        (iWrap .i64 (iShr .u64 (iWrap .u64 (iAdd .i64 a b)) 1))
                        (iSub .i64 (iAdd .i64 (iWrap .i64 (iShr .u64 (iWrap .u64 (iAdd .i64 a b)) 1)) m) 1) c0 cs rest toks tys)
                      rest toks tys)
                    (Tr.ret
                      (PV.tup [],
                        Store.mk
                          (c0 ::
                            rec_l off len (iWrap .i64 (iShr .u64 (iWrap .u64 (iAdd .i64 a b)) 1))
                                (iSub .i64 (iAdd .i64 (iWrap .i64 (iShr .u64 (iWrap .u64 (iAdd .i64 a b)) 1)) m)
                                  (sym5_n6 off len a m b (iWrap .i64 (iShr .u64 (iWrap .u64 (iAdd .i64 a b)) 1))
                                    (iAdd .i64 (iWrap .i64 (iShr .u64 (iWrap .u64 (iAdd .i64 a b)) 1)) m)
                                    (iSub .i64 (iAdd .i64 (iWrap .i64 (iShr .u64 (iWrap .u64 (iAdd .i64 a b)) 1)) m) b)
                                    (iWrap .i64 (iShr .u64 (iWrap .u64 (iAdd .i64 a b)) 1))
                                    (iSub .i64 (iAdd .i64 (iWrap .i64 (iShr .u64 (iWrap .u64 (iAdd .i64 a b)) 1)) m) 1) c0 cs rest toks
                                    tys))
                                b c0
                                (sym5_l2 off len a m b (iWrap .i64 (iShr .u64 (iWrap .u64 (iAdd .i64 a b)) 1))
                                  (iAdd .i64 (iWrap .i64 (iShr .u64 (iWrap .u64 (iAdd .i64 a b)) 1)) m)
                                  (iSub .i64 (iAdd .i64 (iWrap .i64 (iShr .u64 (iWrap .u64 (iAdd .i64 a b)) 1)) m) b)
                                  (iWrap .i64 (iShr .u64 (iWrap .u64 (iAdd .i64 a b)) 1))
                                  (iSub .i64 (iAdd .i64 (iWrap .i64 (iShr .u64 (iWrap .u64 (iAdd .i64 a b)) 1)) m) 1) c0 cs rest toks tys)
                                rest toks tys ::
                              rest)
                          toks (82 :: 1000023 :: tys)))
                    Tr.fail)
                  (Tr.ret
                    (PV.tup [],
                      Store.mk
                        (c0 ::
                          sym5_l2 off len a m b (iWrap .i64 (iShr .u64 (iWrap .u64 (iAdd .i64 a b)) 1))
                              (iAdd .i64 (iWrap .i64 (iShr .u64 (iWrap .u64 (iAdd .i64 a b)) 1)) m)
                              (iSub .i64 (iAdd .i64 (iWrap .i64 (iShr .u64 (iWrap .u64 (iAdd .i64 a b)) 1)) m) b)
                              (iWrap .i64 (iShr .u64 (iWrap .u64 (iAdd .i64 a b)) 1))
                              (iSub .i64 (iAdd .i64 (iWrap .i64 (iShr .u64 (iWrap .u64 (iAdd .i64 a b)) 1)) m) 1) c0 cs rest toks tys ::
                            rest)
                        toks (82 :: 1000023 :: tys))))
                (Tr.ret
                  (PV.tup [],
                    Store.mk
                      (c0 ::
                        sym5_l2 off len a m b (iWrap .i64 (iShr .u64 (iWrap .u64 (iAdd .i64 a b)) 1))
                            (iAdd .i64 (iWrap .i64 (iShr .u64 (iWrap .u64 (iAdd .i64 a b)) 1)) m)
                            (iSub .i64 (iAdd .i64 (iWrap .i64 (iShr .u64 (iWrap .u64 (iAdd .i64 a b)) 1)) m) b)
                            (iWrap .i64 (iShr .u64 (iWrap .u64 (iAdd .i64 a b)) 1))
                            (iSub .i64 (iAdd .i64 (iWrap .i64 (iShr .u64 (iWrap .u64 (iAdd .i64 a b)) 1)) m) 1) c0 cs rest toks tys ::
                          rest)
                      toks (82 :: 1000023 :: tys))))))
          (Tr.ite
            (iLt a
              (sym5_n6 off len a m b (iWrap .i64 (iShr .u64 (iWrap .u64 (iAdd .i64 a b)) 1))
                (iAdd .i64 (iWrap .i64 (iShr .u64 (iWrap .u64 (iAdd .i64 a b)) 1)) m)
                (iSub .i64 (iAdd .i64 (iWrap .i64 (iShr .u64 (iWrap .u64 (iAdd .i64 a b)) 1)) m) b)
                (iWrap .i64 (iShr .u64 (iWrap .u64 (iAdd .i64 a b)) 1))
                (iSub .i64 (iAdd .i64 (iWrap .i64 (iShr .u64 (iWrap .u64 (iAdd .i64 a b)) 1)) m) 1) c0 cs rest toks tys))
            (Tr.ite
              (iLt
                (sym5_n6 off len a m b (iWrap .i64 (iShr .u64 (iWrap .u64 (iAdd .i64 a b)) 1))
                  (iAdd .i64 (iWrap .i64 (iShr .u64 (iWrap .u64 (iAdd .i64 a b)) 1)) m)
                  (iSub .i64 (iAdd .i64 (iWrap .i64 (iShr .u64 (iWrap .u64 (iAdd .i64 a b)) 1)) m) b)
                  (iWrap .i64 (iShr .u64 (iWrap .u64 (iAdd .i64 a b)) 1))
                  (iSub .i64 (iAdd .i64 (iWrap .i64 (iShr .u64 (iWrap .u64 (iAdd .i64 a b)) 1)) m) 1) c0 cs rest toks tys)
                (iWrap .i64 (iShr .u64 (iWrap .u64 (iAdd .i64 a b)) 1)))
              (Tr.ite
                (rec_is0 off len a
                  (sym5_n6 off len a m b (iWrap .i64 (iShr .u64 (iWrap .u64 (iAdd .i64 a b)) 1))
                    (iAdd .i64 (iWrap .i64 (iShr .u64 (iWrap .u64 (iAdd .i64 a b)) 1)) m)
                    (iSub .i64 (iAdd .i64 (iWrap .i64 (iShr .u64 (iWrap .u64 (iAdd .i64 a b)) 1)) m) b)
                    (iWrap .i64 (iShr .u64 (iWrap .u64 (iAdd .i64 a b)) 1))
                    (iSub .i64 (iAdd .i64 (iWrap .i64 (iShr .u64 (iWrap .u64 (iAdd .i64 a b)) 1)) m) 1) c0 cs rest toks tys)
                  (iWrap .i64 (iShr .u64 (iWrap .u64 (iAdd .i64 a b)) 1)) c0
                  (sym5_l2 off len a m b (iWrap .i64 (iShr .u64 (iWrap .u64 (iAdd .i64 a b)) 1))
                    (iAdd .i64 (iWrap .i64 (iShr .u64 (iWrap .u64 (iAdd .i64 a b)) 1)) m)
                    (iSub .i64 (iAdd .i64 (iWrap .i64 (iShr .u64 (iWrap .u64 (iAdd .i64 a b)) 1)) m) b)
                    (iWrap .i64 (iShr .u64 (iWrap .u64 (iAdd .i64 a b)) 1))
                    (iSub .i64 (iAdd .i64 (iWrap .i64 (iShr .u64 (iWrap .u64 (iAdd .i64 a b)) 1)) m) 1) c0 cs rest toks tys)
                  rest toks tys)
                (Tr.ite
                  (iLt (iWrap .i64 (iShr .u64 (iWrap .u64 (iAdd .i64 a b)) 1))
                    (iSub .i64 (iAdd .i64 (iWrap .i64 (iShr .u64 (iWrap .u64 (iAdd .i64 a b)) 1)) m)
                      (sym5_n6 off len a m b (iWrap .i64 (iShr .u64 (iWrap .u64 (iAdd .i64 a b)) 1))
                        (iAdd .i64 (iWrap .i64 (iShr .u64 (iWrap .u64 (iAdd .i64 a b)) 1)) m)
                        (iSub .i64 (iAdd .i64 (iWrap .i64 (iShr .u64 (iWrap .u64 (iAdd .i64 a b)) 1)) m) b)
                        (iWrap .i64 (iShr .u64 (iWrap .u64 (iAdd .i64 a b)) 1))
                        (iSub .i64 (iAdd .i64 (iWrap .i64 (iShr .u64 (iWrap .u64 (iAdd .i64 a b)) 1)) m) 1) c0 cs rest toks tys)))
                  (Tr.ite
                    (iLt
                      (iSub .i64 (iAdd .i64 (iWrap .i64 (iShr .u64 (iWrap .u64 (iAdd .i64 a b)) 1)) m)
                        (sym5_n6 off len a m b (iWrap .i64 (iShr .u64 (iWrap .u64 (iAdd .i64 a b)) 1))
                          (iAdd .i64 (iWrap .i64 (iShr .u64 (iWrap .u64 (iAdd .i64 a b)) 1)) m)
                          (iSub .i64 (iAdd .i64 (iWrap .i64 (iShr .u64 (iWrap .u64 (iAdd .i64 a b)) 1)) m) b)
                          (iWrap .i64 (iShr .u64 (iWrap .u64 (iAdd .i64 a b)) 1))
                          (iSub .i64 (iAdd .i64 (iWrap .i64 (iShr .u64 (iWrap .u64 (iAdd .i64 a b)) 1)) m) 1) c0 cs rest toks tys))
                      b)
                    (Tr.ite
                      (rec_is0 off len (iWrap .i64 (iShr .u64 (iWrap .u64 (iAdd .i64 a b)) 1))
                        (iSub .i64 (iAdd .i64 (iWrap .i64 (iShr .u64 (iWrap .u64 (iAdd .i64 a b)) 1)) m)
                          (sym5_n6 off len a m b (iWrap .i64 (iShr .u64 (iWrap .u64 (iAdd .i64 a b)) 1))
                            (iAdd .i64 (iWrap .i64 (iShr .u64 (iWrap .u64 (iAdd .i64 a b)) 1)) m)
                            (iSub .i64 (iAdd .i64 (iWrap .i64 (iShr .u64 (iWrap .u64 (iAdd .i64 a b)) 1)) m) b)
                            (iWrap .i64 (iShr .u64 (iWrap .u64 (iAdd .i64 a b)) 1))
                            (iSub .i64 (iAdd .i64 (iWrap .i64 (iShr .u64 (iWrap .u64 (iAdd .i64 a b)) 1)) m) 1) c0 cs rest toks tys))
                        b c0
                        (rec_l off len a
                          (sym5_n6 off len a m b (iWrap .i64 (iShr .u64 (iWrap .u64 (iAdd .i64 a b)) 1))
                            (iAdd .i64 (iWrap .i64 (iShr .u64 (iWrap .u64 (iAdd .i64 a b)) 1)) m)
                            (iSub .i64 (iAdd .i64 (iWrap .i64 (iShr .u64 (iWrap .u64 (iAdd .i64 a b)) 1)) m) b)
                            (iWrap .i64 (iShr .u64 (iWrap .u64 (iAdd .i64 a b)) 1))
                            (iSub .i64 (iAdd .i64 (iWrap .i64 (iShr .u64 (iWrap .u64 (iAdd .i64 a b)) 1)) m) 1) c0 cs rest toks tys)
                          (iWrap .i64 (iShr .u64 (iWrap .u64 (iAdd .i64 a b)) 1)) c0
                          (sym5_l2 off len a m b (iWrap .i64 (iShr .u64 (iWrap .u64 (iAdd .i64 a b)) 1))
                            (iAdd .i64 (iWrap .i64 (iShr .u64 (iWrap .u64 (iAdd .i64 a b)) 1)) m)
                            (iSub .i64 (iAdd .i64 (iWrap .i64 (iShr .u64 (iWrap .u64 (iAdd .i64 a b)) 1)) m) b)
                            (iWrap .i64 (iShr .u64 (iWrap .u64 (iAdd .i64 a b)) 1))
                            (iSub .i64 (iAdd .i64 (iWrap .i64 (iShr .u64 (iWrap .u64 (iAdd .i64 a b)) 1)) m) 1) c0 cs rest toks tys)
                          rest toks tys)
                        rest toks tys)
                      (Tr.ret
                        (PV.tup [],
                          Store.mk
                            (c0 ::
                              rec_l off len (iWrap .i64 (iShr .u64 (iWrap .u64 (iAdd .i64 a b)) 1))
                                  (iSub .i64 (iAdd .i64 (iWrap .i64 (iShr .u64 (iWrap .u64 (iAdd .i64 a b)) 1)) m)
                                    (sym5_n6 off len a m b (iWrap .i64 (iShr .u64 (iWrap .u64 (iAdd .i64 a b)) 1))
                                      (iAdd .i64 (iWrap .i64 (iShr .u64 (iWrap .u64 (iAdd .i64 a b)) 1)) m)
                                      (iSub .i64 (iAdd .i64 (iWrap .i64 (iShr .u64 (iWrap .u64 (iAdd .i64 a b)) 1)) m) b)
                                      (iWrap .i64 (iShr .u64 (iWrap .u64 (iAdd .i64 a b)) 1))
                                      (iSub .i64 (iAdd .i64 (iWrap .i64 (iShr .u64 (iWrap .u64 (iAdd .i64 a b)) 1)) m) 1) c0 cs rest toks
                                      tys))
                                  b c0
                                  (rec_l off len a
                                    (sym5_n6 off len a m b (iWrap .i64 (iShr .u64 (iWrap .u64 (iAdd .i64 a b)) 1))
                                      (iAdd .i64 (iWrap .i64 (iShr .u64 (iWrap .u64 (iAdd .i64 a b)) 1)) m)
                                      (iSub .i64 (iAdd .i64 (iWrap .i64 (iShr .u64 (iWrap .u64 (iAdd .i64 a b)) 1)) m) b)
                                      (iWrap .i64 (iShr .u64 (iWrap .u64 (iAdd .i64 a b)) 1))
                                      (iSub .i64 (iAdd .i64 (iWrap .i64 (iShr .u64 (iWrap .u64 (iAdd .i64 a b)) 1)) m) 1) c0 cs rest toks
                                      tys)
                                    (iWrap .i64 (iShr .u64 (iWrap .u64 (iAdd .i64 a b)) 1)) c0
                                    (sym5_l2 off len a m b (iWrap .i64 (iShr .u64 (iWrap .u64 (iAdd .i64 a b)) 1))
                                      (iAdd .i64 (iWrap .i64 (iShr .u64 (iWrap .u64 (iAdd .i64 a b)) 1)) m)
                                      (iSub .i64 (iAdd .i64 (iWrap .i64 (iShr .u64 (iWrap .u64 (iAdd .i64 a b)) 1)) m) b)
                                      (iWrap .i64 (iShr .u64 (iWrap .u64 (iAdd .i64 a b)) 1))
                                      (iSub .i64 (iAdd .i64 (iWrap .i64 (iShr .u64 (iWrap .u64 (iAdd .i64 a b)) 1)) m) 1) c0 cs rest toks
                                      tys)
                                    rest toks tys)
                                  rest toks tys ::
                                rest)
                            toks (82 :: 1000023 :: tys)))
                      Tr.fail)
                    (Tr.ret
                      (PV.tup [],
                        Store.mk
                          (c0 ::
                            rec_l off len a
                                (sym5_n6 off len a m b (iWrap .i64 (iShr .u64 (iWrap .u64 (iAdd .i64 a b)) 1))
                                  (iAdd .i64 (iWrap .i64 (iShr .u64 (iWrap .u64 (iAdd .i64 a b)) 1)) m)
                                  (iSub .i64 (iAdd .i64 (iWrap .i64 (iShr .u64 (iWrap .u64 (iAdd .i64 a b)) 1)) m) b)
                                  (iWrap .i64 (iShr .u64 (iWrap .u64 (iAdd .i64 a b)) 1))
                                  (iSub .i64 (iAdd .i64 (iWrap .i64 (iShr .u64 (iWrap .u64 (iAdd .i64 a b)) 1)) m) 1) c0 cs rest toks tys)
                                (iWrap .i64 (iShr .u64 (iWrap .u64 (iAdd .i64 a b)) 1)) c0
                                (sym5_l2 off len a m b (iWrap .i64 (iShr .u64 (iWrap .u64 (iAdd .i64 a b)) 1))
                                  (iAdd .i64 (iWrap .i64 (iShr .u64 (iWrap .u64 (iAdd .i64 a b)) 1)) m)
                                  (iSub .i64 (iAdd .i64 (iWrap .i64 (iShr .u64 (iWrap .u64 (iAdd .i64 a b)) 1)) m) b)
                                  (iWrap .i64 (iShr .u64 (iWrap .u64 (iAdd .i64 a b)) 1))
                                  (iSub .i64 (iAdd .i64 (iWrap .i64 (iShr .u64 (iWrap .u64 (iAdd .i64 a b)) 1)) m) 1) c0 cs rest toks tys)
                                rest toks tys ::
                              rest)
                          toks (82 :: 1000023 :: tys))))
                  (Tr.ret
                    (PV.tup [],
                      Store.mk
                        (c0 ::
                          rec_l off len a
                              (sym5_n6 off len a m b (iWrap .i64 (iShr .u64 (iWrap .u64 (iAdd .i64 a b)) 1))
                                (iAdd .i64 (iWrap .i64 (iShr .u64 (iWrap .u64 (iAdd .i64 a b)) 1)) m)
                                (iSub .i64 (iAdd .i64 (iWrap .i64 (iShr .u64 (iWrap .u64 (iAdd .i64 a b)) 1)) m) b)
                                (iWrap .i64 (iShr .u64 (iWrap .u64 (iAdd .i64 a b)) 1))
                                (iSub .i64 (iAdd .i64 (iWrap .i64 (iShr .u64 (iWrap .u64 (iAdd .i64 a b)) 1)) m) 1) c0 cs rest toks tys)
                              (iWrap .i64 (iShr .u64 (iWrap .u64 (iAdd .i64 a b)) 1)) c0
                              (sym5_l2 off len a m b (iWrap .i64 (iShr .u64 (iWrap .u64 (iAdd .i64 a b)) 1))
                                (iAdd .i64 (iWrap .i64 (iShr .u64 (iWrap .u64 (iAdd .i64 a b)) 1)) m)
                                (iSub .i64 (iAdd .i64 (iWrap .i64 (iShr .u64 (iWrap .u64 (iAdd .i64 a b)) 1)) m) b)
                                (iWrap .i64 (iShr .u64 (iWrap .u64 (iAdd .i64 a b)) 1))
                                (iSub .i64 (iAdd .i64 (iWrap .i64 (iShr .u64 (iWrap .u64 (iAdd .i64 a b)) 1)) m) 1) c0 cs rest toks tys)
                              rest toks tys ::
                            rest)
                        toks (82 :: 1000023 :: tys))))
                Tr.fail)
              (Tr.ite
                (iLt (iWrap .i64 (iShr .u64 (iWrap .u64 (iAdd .i64 a b)) 1))
                  (iSub .i64 (iAdd .i64 (iWrap .i64 (iShr .u64 (iWrap .u64 (iAdd .i64 a b)) 1)) m)
                    (sym5_n6 off len a m b (iWrap .i64 (iShr .u64 (iWrap .u64 (iAdd .i64 a b)) 1))
                      (iAdd .i64 (iWrap .i64 (iShr .u64 (iWrap .u64 (iAdd .i64 a b)) 1)) m)
                      (iSub .i64 (iAdd .i64 (iWrap .i64 (iShr .u64 (iWrap .u64 (iAdd .i64 a b)) 1)) m) b)
                      (iWrap .i64 (iShr .u64 (iWrap .u64 (iAdd .i64 a b)) 1))
                      (iSub .i64 (iAdd .i64 (iWrap .i64 (iShr .u64 (iWrap .u64 (iAdd .i64 a b)) 1)) m) 1) c0 cs rest toks tys)))
                (Tr.ite
                  (iLt
                    (iSub .i64 (iAdd .i64 (iWrap .i64 (iShr .u64 (iWrap .u64 (iAdd .i64 a b)) 1)) m)
                      (sym5_n6 off len a m b (iWrap .i64 (iShr .u64 (iWrap .u64 (iAdd .i64 a b)) 1))
                        (iAdd .i64 (iWrap .i64 (iShr .u64 (iWrap .u64 (iAdd .i64 a b)) 1)) m)
                        (iSub .i64 (iAdd .i64 (iWrap .i64 (iShr .u64 (iWrap .u64 (iAdd .i64 a b)) 1)) m) b)
                        (iWrap .i64 (iShr .u64 (iWrap .u64 (iAdd .i64 a b)) 1))
                        (iSub .i64 (iAdd .i64 (iWrap .i64 (iShr .u64 (iWrap .u64 (iAdd .i64 a b)) 1)) m) 1) c0 cs rest toks tys))
                    b)
                  (Tr.ite
                    (rec_is0 off len (iWrap .i64 (iShr .u64 (iWrap .u64 (iAdd .i64 a b)) 1))
                      (iSub .i64 (iAdd .i64 (iWrap .i64 (iShr .u64 (iWrap .u64 (iAdd .i64 a b)) 1)) m)
                        (sym5_n6 off len a m b (iWrap .i64 (iShr .u64 (iWrap .u64 (iAdd .i64 a b)) 1))
                          (iAdd .i64 (iWrap .i64 (iShr .u64 (iWrap .u64 (iAdd .i64 a b)) 1)) m)
                          (iSub .i64 (iAdd .i64 (iWrap .i64 (iShr .u64 (iWrap .u64 (iAdd .i64 a b)) 1)) m) b)
                          (iWrap .i64 (iShr .u64 (iWrap .u64 (iAdd .i64 a b)) 1))
                          (iSub .i64 (iAdd .i64 (iWrap .i64 (iShr .u64 (iWrap .u64 (iAdd .i64 a b)) 1)) m) 1) c0 cs rest toks tys))
                      b c0
                      (sym5_l2 off len a m b (iWrap .i64 (iShr .u64 (iWrap .u64 (iAdd .i64 a b)) 1))
                        (iAdd .i64 (iWrap .i64 (iShr .u64 (iWrap .u64 (iAdd .i64 a b)) 1)) m)
                        (iSub .i64 (iAdd .i64 (iWrap .i64 (iShr .u64 (iWrap .u64 (iAdd .i64 a b)) 1)) m) b)
                        (iWrap .i64 (iShr .u64 (iWrap .u64 (iAdd .i64 a b)) 1))
                        (iSub .i64 (iAdd .i64 (iWrap .i64 (iShr .u64 (iWrap .u64 (iAdd .i64 a b)) 1)) m) 1) c0 cs rest toks tys)
                      rest toks tys)
                    (Tr.ret
                      (PV.tup [],
                        Store.mk
                          (c0 ::
                            rec_l off len (iWrap .i64 (iShr .u64 (iWrap .u64 (iAdd .i64 a b)) 1))
                                (iSub .i64 (iAdd .i64 (iWrap .i64 (iShr .u64 (iWrap .u64 (iAdd .i64 a b)) 1)) m)
                                  (sym5_n6 off len a m b (iWrap .i64 (iShr .u64 (iWrap .u64 (iAdd .i64 a b)) 1))
                                    (iAdd .i64 (iWrap .i64 (iShr .u64 (iWrap .u64 (iAdd .i64 a b)) 1)) m)
                                    (iSub .i64 (iAdd .i64 (iWrap .i64 (iShr .u64 (iWrap .u64 (iAdd .i64 a b)) 1)) m) b)
                                    (iWrap .i64 (iShr .u64 (iWrap .u64 (iAdd .i64 a b)) 1))
                                    (iSub .i64 (iAdd .i64 (iWrap .i64 (iShr .u64 (iWrap .u64 (iAdd .i64 a b)) 1)) m) 1) c0 cs rest toks
                                    tys))
                                b c0
                                (sym5_l2 off len a m b (iWrap .i64 (iShr .u64 (iWrap .u64 (iAdd .i64 a b)) 1))
                                  (iAdd .i64 (iWrap .i64 (iShr .u64 (iWrap .u64 (iAdd .i64 a b)) 1)) m)
                                  (iSub .i64 (iAdd .i64 (iWrap .i64 (iShr .u64 (iWrap .u64 (iAdd .i64 a b)) 1)) m) b)
                                  (iWrap .i64 (iShr .u64 (iWrap .u64 (iAdd .i64 a b)) 1))
                                  (iSub .i64 (iAdd .i64 (iWrap .i64 (iShr .u64 (iWrap .u64 (iAdd .i64 a b)) 1)) m) 1) c0 cs rest toks tys)
                                rest toks tys ::
                              rest)
                          toks (82 :: 1000023 :: tys)))
                    Tr.fail)
                  (Tr.ret
                    (PV.tup [],
                      Store.mk
                        (c0 ::
                          sym5_l2 off len a m b (iWrap .i64 (iShr .u64 (iWrap .u64 (iAdd .i64 a b)) 1))
                              (iAdd .i64 (iWrap .i64 (iShr .u64 (iWrap .u64 (iAdd .i64 a b)) 1)) m)
                              (iSub .i64 (iAdd .i64 (iWrap .i64 (iShr .u64 (iWrap .u64 (iAdd .i64 a b)) 1)) m) b)
                              (iWrap .i64 (iShr .u64 (iWrap .u64 (iAdd .i64 a b)) 1))
                              (iSub .i64 (iAdd .i64 (iWrap .i64 (iShr .u64 (iWrap .u64 (iAdd .i64 a b)) 1)) m) 1) c0 cs rest toks tys ::
                            rest)
                        toks (82 :: 1000023 :: tys))))
                (Tr.ret
                  (PV.tup [],
                    Store.mk
                      (c0 ::
                        sym5_l2 off len a m b (iWrap .i64 (iShr .u64 (iWrap .u64 (iAdd .i64 a b)) 1))
                            (iAdd .i64 (iWrap .i64 (iShr .u64 (iWrap .u64 (iAdd .i64 a b)) 1)) m)
                            (iSub .i64 (iAdd .i64 (iWrap .i64 (iShr .u64 (iWrap .u64 (iAdd .i64 a b)) 1)) m) b)
                            (iWrap .i64 (iShr .u64 (iWrap .u64 (iAdd .i64 a b)) 1))
                            (iSub .i64 (iAdd .i64 (iWrap .i64 (iShr .u64 (iWrap .u64 (iAdd .i64 a b)) 1)) m) 1) c0 cs rest toks tys ::
                          rest)
                      toks (82 :: 1000023 :: tys)))))
            (Tr.ite
              (iLt (iWrap .i64 (iShr .u64 (iWrap .u64 (iAdd .i64 a b)) 1))
                (iSub .i64 (iAdd .i64 (iWrap .i64 (iShr .u64 (iWrap .u64 (iAdd .i64 a b)) 1)) m)
                  (sym5_n6 off len a m b (iWrap .i64 (iShr .u64 (iWrap .u64 (iAdd .i64 a b)) 1))
                    (iAdd .i64 (iWrap .i64 (iShr .u64 (iWrap .u64 (iAdd .i64 a b)) 1)) m)
                    (iSub .i64 (iAdd .i64 (iWrap .i64 (iShr .u64 (iWrap .u64 (iAdd .i64 a b)) 1)) m) b)
                    (iWrap .i64 (iShr .u64 (iWrap .u64 (iAdd .i64 a b)) 1))
                    (iSub .i64 (iAdd .i64 (iWrap .i64 (iShr .u64 (iWrap .u64 (iAdd .i64 a b)) 1)) m) 1) c0 cs rest toks tys)))
              (Tr.ite
                (iLt
                  (iSub .i64 (iAdd .i64 (iWrap .i64 (iShr .u64 (iWrap .u64 (iAdd .i64 a b)) 1)) m)
                    (sym5_n6 off len a m b (iWrap .i64 (iShr .u64 (iWrap .u64 (iAdd .i64 a b)) 1))
                      (iAdd .i64 (iWrap .i64 (iShr .u64 (iWrap .u64 (iAdd .i64 a b)) 1)) m)
                      (iSub .i64 (iAdd .i64 (iWrap .i64 (iShr .u64 (iWrap .u64 (iAdd .i64 a b)) 1)) m) b)
                      (iWrap .i64 (iShr .u64 (iWrap .u64 (iAdd .i64 a b)) 1))
                      (iSub .i64 (iAdd .i64 (iWrap .i64 (iShr .u64 (iWrap .u64 (iAdd .i64 a b)) 1)) m) 1) c0 cs rest toks tys))
                  b)
                (Tr.ite
                  (rec_is0 off len (iWrap .i64 (iShr .u64 (iWrap .u64 (iAdd .i64 a b)) 1))
                    (iSub .i64 (iAdd .i64 (iWrap .i64 (iShr .u64 (iWrap .u64 (iAdd .i64 a b)) 1)) m)
                      (sym5_n6 off len a m b (iWrap .i64 (iShr .u64 (iWrap .u64 (iAdd .i64 a b)) 1))
                        (iAdd .i64 (iWrap .i64 (iShr .u64 (iWrap .u64 (iAdd .i64 a b)) 1)) m)
                        (iSub .i64 (iAdd .i64 (iWrap .i64 (iShr .u64 (iWrap .u64 (iAdd .i64 a b)) 1)) m) b)
                        (iWrap .i64 (iShr .u64 (iWrap .u64 (iAdd .i64 a b)) 1))
                        (iSub .i64 (iAdd .i64 (iWrap .i64 (iShr .u64 (iWrap .u64 (iAdd .i64 a b)) 1)) m) 1) c0 cs rest toks tys))
                    b c0
                    (sym5_l2 off len a m b (iWrap .i64 (iShr .u64 (iWrap .u64 (iAdd .i64 a b)) 1))
                      (iAdd .i64 (iWrap .i64 (iShr .u64 (iWrap .u64 (iAdd .i64 a b)) 1)) m)
                      (iSub .i64 (iAdd .i64 (iWrap .i64 (iShr .u64 (iWrap .u64 (iAdd .i64 a b)) 1)) m) b)
                      (iWrap .i64 (iShr .u64 (iWrap .u64 (iAdd .i64 a b)) 1))
                      (iSub .i64 (iAdd .i64 (iWrap .i64 (iShr .u64 (iWrap .u64 (iAdd .i64 a b)) 1)) m) 1) c0 cs rest toks tys)
                    rest toks tys)
                  (Tr.ret
                    (PV.tup [],
                      Store.mk
                        (c0 ::
                          rec_l off len (iWrap .i64 (iShr .u64 (iWrap .u64 (iAdd .i64 a b)) 1))
                              (iSub .i64 (iAdd .i64 (iWrap .i64 (iShr .u64 (iWrap .u64 (iAdd .i64 a b)) 1)) m)
                                (sym5_n6 off len a m b (iWrap .i64 (iShr .u64 (iWrap .u64 (iAdd .i64 a b)) 1))
                                  (iAdd .i64 (iWrap .i64 (iShr .u64 (iWrap .u64 (iAdd .i64 a b)) 1)) m)
                                  (iSub .i64 (iAdd .i64 (iWrap .i64 (iShr .u64 (iWrap .u64 (iAdd .i64 a b)) 1)) m) b)
                                  (iWrap .i64 (iShr .u64 (iWrap .u64 (iAdd .i64 a b)) 1))
                                  (iSub .i64 (iAdd .i64 (iWrap .i64 (iShr .u64 (iWrap .u64 (iAdd .i64 a b)) 1)) m) 1) c0 cs rest toks
                                  tys))
                              b c0
                              (sym5_l2 off len a m b (iWrap .i64 (iShr .u64 (iWrap .u64 (iAdd .i64 a b)) 1))
                                (iAdd .i64 (iWrap .i64 (iShr .u64 (iWrap .u64 (iAdd .i64 a b)) 1)) m)
                                (iSub .i64 (iAdd .i64 (iWrap .i64 (iShr .u64 (iWrap .u64 (iAdd .i64 a b)) 1)) m) b)
                                (iWrap .i64 (iShr .u64 (iWrap .u64 (iAdd .i64 a b)) 1))
                                (iSub .i64 (iAdd .i64 (iWrap .i64 (iShr .u64 (iWrap .u64 (iAdd .i64 a b)) 1)) m) 1) c0 cs rest toks tys)
                              rest toks tys ::
                            rest)
                        toks (82 :: 1000023 :: tys)))
                  Tr.fail)
                (Tr.ret
                  (PV.tup [],
                    Store.mk
                      (c0 ::
                        sym5_l2 off len a m b (iWrap .i64 (iShr .u64 (iWrap .u64 (iAdd .i64 a b)) 1))
                            (iAdd .i64 (iWrap .i64 (iShr .u64 (iWrap .u64 (iAdd .i64 a b)) 1)) m)
                            (iSub .i64 (iAdd .i64 (iWrap .i64 (iShr .u64 (iWrap .u64 (iAdd .i64 a b)) 1)) m) b)
                            (iWrap .i64 (iShr .u64 (iWrap .u64 (iAdd .i64 a b)) 1))
                            (iSub .i64 (iAdd .i64 (iWrap .i64 (iShr .u64 (iWrap .u64 (iAdd .i64 a b)) 1)) m) 1) c0 cs rest toks tys ::
                          rest)
                      toks (82 :: 1000023 :: tys))))
              (Tr.ret
                (PV.tup [],
                  Store.mk
                    (c0 ::
                      sym5_l2 off len a m b (iWrap .i64 (iShr .u64 (iWrap .u64 (iAdd .i64 a b)) 1))
                          (iAdd .i64 (iWrap .i64 (iShr .u64 (iWrap .u64 (iAdd .i64 a b)) 1)) m)
                          (iSub .i64 (iAdd .i64 (iWrap .i64 (iShr .u64 (iWrap .u64 (iAdd .i64 a b)) 1)) m) b)
                          (iWrap .i64 (iShr .u64 (iWrap .u64 (iAdd .i64 a b)) 1))
                          (iSub .i64 (iAdd .i64 (iWrap .i64 (iShr .u64 (iWrap .u64 (iAdd .i64 a b)) 1)) m) 1) c0 cs rest toks tys ::
                        rest)
                    toks (82 :: 1000023 :: tys))))))
        Tr.fail)
      (Tr.ite
        (sym5_is0 off len a m b (iWrap .i64 (iShr .u64 (iWrap .u64 (iAdd .i64 a b)) 1))
          (iAdd .i64 (iWrap .i64 (iShr .u64 (iWrap .u64 (iAdd .i64 a b)) 1)) m) a m
          (iSub .i64 (iAdd .i64 (iWrap .i64 (iShr .u64 (iWrap .u64 (iAdd .i64 a b)) 1)) m) 1) c0 cs rest toks tys)
        (Tr.ite
          (iLt
            (sym5_n6 off len a m b (iWrap .i64 (iShr .u64 (iWrap .u64 (iAdd .i64 a b)) 1))
              (iAdd .i64 (iWrap .i64 (iShr .u64 (iWrap .u64 (iAdd .i64 a b)) 1)) m) a m
              (iSub .i64 (iAdd .i64 (iWrap .i64 (iShr .u64 (iWrap .u64 (iAdd .i64 a b)) 1)) m) 1) c0 cs rest toks tys)
            m)
          (Tr.ite
            (iLt m
              (iSub .i64 (iAdd .i64 (iWrap .i64 (iShr .u64 (iWrap .u64 (iAdd .i64 a b)) 1)) m)
                (sym5_n6 off len a m b (iWrap .i64 (iShr .u64 (iWrap .u64 (iAdd .i64 a b)) 1))
                  (iAdd .i64 (iWrap .i64 (iShr .u64 (iWrap .u64 (iAdd .i64 a b)) 1)) m) a m
                  (iSub .i64 (iAdd .i64 (iWrap .i64 (iShr .u64 (iWrap .u64 (iAdd .i64 a b)) 1)) m) 1) c0 cs rest toks tys)))
            (Tr.ite
              (rot_is0 off len
                (sym5_n6 off len a m b (iWrap .i64 (iShr .u64 (iWrap .u64 (iAdd .i64 a b)) 1))
                  (iAdd .i64 (iWrap .i64 (iShr .u64 (iWrap .u64 (iAdd .i64 a b)) 1)) m) a m
                  (iSub .i64 (iAdd .i64 (iWrap .i64 (iShr .u64 (iWrap .u64 (iAdd .i64 a b)) 1)) m) 1) c0 cs rest toks tys)
                m
                (iSub .i64 (iAdd .i64 (iWrap .i64 (iShr .u64 (iWrap .u64 (iAdd .i64 a b)) 1)) m)
                  (sym5_n6 off len a m b (iWrap .i64 (iShr .u64 (iWrap .u64 (iAdd .i64 a b)) 1))
                    (iAdd .i64 (iWrap .i64 (iShr .u64 (iWrap .u64 (iAdd .i64 a b)) 1)) m) a m
                    (iSub .i64 (iAdd .i64 (iWrap .i64 (iShr .u64 (iWrap .u64 (iAdd .i64 a b)) 1)) m) 1) c0 cs rest toks tys))
                c0
                (sym5_l2 off len a m b (iWrap .i64 (iShr .u64 (iWrap .u64 (iAdd .i64 a b)) 1))
                  (iAdd .i64 (iWrap .i64 (iShr .u64 (iWrap .u64 (iAdd .i64 a b)) 1)) m) a m
                  (iSub .i64 (iAdd .i64 (iWrap .i64 (iShr .u64 (iWrap .u64 (iAdd .i64 a b)) 1)) m) 1) c0 cs rest toks tys)
                rest toks tys)
              (Tr.ite
                (iLt a
                  (sym5_n6 off len a m b (iWrap .i64 (iShr .u64 (iWrap .u64 (iAdd .i64 a b)) 1))
                    (iAdd .i64 (iWrap .i64 (iShr .u64 (iWrap .u64 (iAdd .i64 a b)) 1)) m) a m
                    (iSub .i64 (iAdd .i64 (iWrap .i64 (iShr .u64 (iWrap .u64 (iAdd .i64 a b)) 1)) m) 1) c0 cs rest toks tys))
                (Tr.ite
                  (iLt
                    (sym5_n6 off len a m b (iWrap .i64 (iShr .u64 (iWrap .u64 (iAdd .i64 a b)) 1))
                      (iAdd .i64 (iWrap .i64 (iShr .u64 (iWrap .u64 (iAdd .i64 a b)) 1)) m) a m
                      (iSub .i64 (iAdd .i64 (iWrap .i64 (iShr .u64 (iWrap .u64 (iAdd .i64 a b)) 1)) m) 1) c0 cs rest toks tys)
                    (iWrap .i64 (iShr .u64 (iWrap .u64 (iAdd .i64 a b)) 1)))
                  (Tr.ite
                    (rec_is0 off len a
                      (sym5_n6 off len a m b (iWrap .i64 (iShr .u64 (iWrap .u64 (iAdd .i64 a b)) 1))
                        (iAdd .i64 (iWrap .i64 (iShr .u64 (iWrap .u64 (iAdd .i64 a b)) 1)) m) a m
                        (iSub .i64 (iAdd .i64 (iWrap .i64 (iShr .u64 (iWrap .u64 (iAdd .i64 a b)) 1)) m) 1) c0 cs rest toks tys)
                      (iWrap .i64 (iShr .u64 (iWrap .u64 (iAdd .i64 a b)) 1)) c0
                      (rot_l2 off len
                        (sym5_n6 off len a m b (iWrap .i64 (iShr .u64 (iWrap .u64 (iAdd .i64 a b)) 1))
                          (iAdd .i64 (iWrap .i64 (iShr .u64 (iWrap .u64 (iAdd .i64 a b)) 1)) m) a m
                          (iSub .i64 (iAdd .i64 (iWrap .i64 (iShr .u64 (iWrap .u64 (iAdd .i64 a b)) 1)) m) 1) c0 cs rest toks tys)
                        m
                        (iSub .i64 (iAdd .i64 (iWrap .i64 (iShr .u64 (iWrap .u64 (iAdd .i64 a b)) 1)) m)
                          (sym5_n6 off len a m b (iWrap .i64 (iShr .u64 (iWrap .u64 (iAdd .i64 a b)) 1))
                            (iAdd .i64 (iWrap .i64 (iShr .u64 (iWrap .u64 (iAdd .i64 a b)) 1)) m) a m
                            (iSub .i64 (iAdd .i64 (iWrap .i64 (iShr .u64 (iWrap .u64 (iAdd .i64 a b)) 1)) m) 1) c0 cs rest toks tys))
                        c0
                        (sym5_l2 off len a m b (iWrap .i64 (iShr .u64 (iWrap .u64 (iAdd .i64 a b)) 1))
                          (iAdd .i64 (iWrap .i64 (iShr .u64 (iWrap .u64 (iAdd .i64 a b)) 1)) m) a m
                          (iSub .i64 (iAdd .i64 (iWrap .i64 (iShr .u64 (iWrap .u64 (iAdd .i64 a b)) 1)) m) 1) c0 cs rest toks tys)
                        rest toks tys)
                      rest toks tys)
                    (Tr.ite
                      (iLt (iWrap .i64 (iShr .u64 (iWrap .u64 (iAdd .i64 a b)) 1))
                        (iSub .i64 (iAdd .i64 (iWrap .i64 (iShr .u64 (iWrap .u64 (iAdd .i64 a b)) 1)) m)
                          (sym5_n6 off len a m b (iWrap .i64 (iShr .u64 (iWrap .u64 (iAdd .i64 a b)) 1))
                            (iAdd .i64 (iWrap .i64 (iShr .u64 (iWrap .u64 (iAdd .i64 a b)) 1)) m) a m
                            (iSub .i64 (iAdd .i64 (iWrap .i64 (iShr .u64 (iWrap .u64 (iAdd .i64 a b)) 1)) m) 1) c0 cs rest toks tys)))
                      (Tr.ite
                        (iLt
                          (iSub .i64 (iAdd .i64 (iWrap .i64 (iShr .u64 (iWrap .u64 (iAdd .i64 a b)) 1)) m)
                            (sym5_n6 off len a m b (iWrap .i64 (iShr .u64 (iWrap .u64 (iAdd .i64 a b)) 1))
                              (iAdd .i64 (iWrap .i64 (iShr .u64 (iWrap .u64 (iAdd .i64 a b)) 1)) m) a m
                              (iSub .i64 (iAdd .i64 (iWrap .i64 (iShr .u64 (iWrap .u64 (iAdd .i64 a b)) 1)) m) 1) c0 cs rest toks tys))
                          b)
                        (Tr.ite
                          (rec_is0 off len (iWrap .i64 (iShr .u64 (iWrap .u64 (iAdd .i64 a b)) 1))
                            (iSub .i64 (iAdd .i64 (iWrap .i64 (iShr .u64 (iWrap .u64 (iAdd .i64 a b)) 1)) m)
                              (sym5_n6 off len a m b (iWrap .i64 (iShr .u64 (iWrap .u64 (iAdd .i64 a b)) 1))
                                (iAdd .i64 (iWrap .i64 (iShr .u64 (iWrap .u64 (iAdd .i64 a b)) 1)) m) a m
                                (iSub .i64 (iAdd .i64 (iWrap .i64 (iShr .u64 (iWrap .u64 (iAdd .i64 a b)) 1)) m) 1) c0 cs rest toks tys))
                            b c0
                            (rec_l off len a
                              (sym5_n6 off len a m b (iWrap .i64 (iShr .u64 (iWrap .u64 (iAdd .i64 a b)) 1))
                                (iAdd .i64 (iWrap .i64 (iShr .u64 (iWrap .u64 (iAdd .i64 a b)) 1)) m) a m
                                (iSub .i64 (iAdd .i64 (iWrap .i64 (iShr .u64 (iWrap .u64 (iAdd .i64 a b)) 1)) m) 1) c0 cs rest toks tys)
                              (iWrap .i64 (iShr .u64 (iWrap .u64 (iAdd .i64 a b)) 1)) c0
                              (rot_l2 off len
                                (sym5_n6 off len a m b (iWrap .i64 (iShr .u64 (iWrap .u64 (iAdd .i64 a b)) 1))
                                  (iAdd .i64 (iWrap .i64 (iShr .u64 (iWrap .u64 (iAdd .i64 a b)) 1)) m) a m
                                  (iSub .i64 (iAdd .i64 (iWrap .i64 (iShr .u64 (iWrap .u64 (iAdd .i64 a b)) 1)) m) 1) c0 cs rest toks tys)
                                m
                                (iSub .i64 (iAdd .i64 (iWrap .i64 (iShr .u64 (iWrap .u64 (iAdd .i64 a b)) 1)) m)
                                  (sym5_n6 off len a m b (iWrap .i64 (iShr .u64 (iWrap .u64 (iAdd .i64 a b)) 1))
                                    (iAdd .i64 (iWrap .i64 (iShr .u64 (iWrap .u64 (iAdd .i64 a b)) 1)) m) a m
                                    (iSub .i64 (iAdd .i64 (iWrap .i64 (iShr .u64 (iWrap .u64 (iAdd .i64 a b)) 1)) m) 1) c0 cs rest toks
                                    tys))
                                c0
                                (sym5_l2 off len a m b (iWrap .i64 (iShr .u64 (iWrap .u64 (iAdd .i64 a b)) 1))
                                  (iAdd .i64 (iWrap .i64 (iShr .u64 (iWrap .u64 (iAdd .i64 a b)) 1)) m) a m
                                  (iSub .i64 (iAdd .i64 (iWrap .i64 (iShr .u64 (iWrap .u64 (iAdd .i64 a b)) 1)) m) 1) c0 cs rest toks tys)
                                rest toks tys)
                              rest toks tys)
                            rest toks tys)
                          (Tr.ret
                            (PV.tup [],
                              Store.mk
                                (c0 ::
                                  rec_l off len (iWrap .i64 (iShr .u64 (iWrap .u64 (iAdd .i64 a b)) 1))
                                      (iSub .i64 (iAdd .i64 (iWrap .i64 (iShr .u64 (iWrap .u64 (iAdd .i64 a b)) 1)) m)
                                        (sym5_n6 off len a m b (iWrap .i64 (iShr .u64 (iWrap .u64 (iAdd .i64 a b)) 1))
                                          (iAdd .i64 (iWrap .i64 (iShr .u64 (iWrap .u64 (iAdd .i64 a b)) 1)) m) a m
                                          (iSub .i64 (iAdd .i64 (iWrap .i64 (iShr .u64 (iWrap .u64 (iAdd .i64 a b)) 1)) m) 1) c0 cs rest
                                          toks tys))
                                      b c0
                                      (rec_l off len a
                                        (sym5_n6 off len a m b (iWrap .i64 (iShr .u64 (iWrap .u64 (iAdd .i64 a b)) 1))
                                          (iAdd .i64 (iWrap .i64 (iShr .u64 (iWrap .u64 (iAdd .i64 a b)) 1)) m) a m
                                          (iSub .i64 (iAdd .i64 (iWrap .i64 (iShr .u64 (iWrap .u64 (iAdd .i64 a b)) 1)) m) 1) c0 cs rest
                                          toks tys)
                                        (iWrap .i64 (iShr .u64 (iWrap .u64 (iAdd .i64 a b)) 1)) c0
                                        (rot_l2 off len
                                          (sym5_n6 off len a m b (iWrap .i64 (iShr .u64 (iWrap .u64 (iAdd .i64 a b)) 1))
                                            (iAdd .i64 (iWrap .i64 (iShr .u64 (iWrap .u64 (iAdd .i64 a b)) 1)) m) a m
                                            (iSub .i64 (iAdd .i64 (iWrap .i64 (iShr .u64 (iWrap .u64 (iAdd .i64 a b)) 1)) m) 1) c0 cs rest
                                            toks tys)
                                          m
                                          (iSub .i64 (iAdd .i64 (iWrap .i64 (iShr .u64 (iWrap .u64 (iAdd .i64 a b)) 1)) m)
                                            (sym5_n6 off len a m b (iWrap .i64 (iShr .u64 (iWrap .u64 (iAdd .i64 a b)) 1))
                                              (iAdd .i64 (iWrap .i64 (iShr .u64 (iWrap .u64 (iAdd .i64 a b)) 1)) m) a m
                                              (iSub .i64 (iAdd .i64 (iWrap .i64 (iShr .u64 (iWrap .u64 (iAdd .i64 a b)) 1)) m) 1) c0 cs
                                              rest toks tys))
                                          c0
                                          (sym5_l2 off len a m b (iWrap .i64 (iShr .u64 (iWrap .u64 (iAdd .i64 a b)) 1))
                                            (iAdd .i64 (iWrap .i64 (iShr .u64 (iWrap .u64 (iAdd .i64 a b)) 1)) m) a m
                                            (iSub .i64 (iAdd .i64 (iWrap .i64 (iShr .u64 (iWrap .u64 (iAdd .i64 a b)) 1)) m) 1) c0 cs rest
                                            toks tys)
                                          rest toks tys)
                                        rest toks tys)
                                      rest toks tys ::
                                    rest)
                                toks (82 :: 1000023 :: tys)))
                          Tr.fail)
                        (Tr.ret
                          (PV.tup [],
                            Store.mk
                              (c0 ::
                                rec_l off len a
                                    (sym5_n6 off len a m b (iWrap .i64 (iShr .u64 (iWrap .u64 (iAdd .i64 a b)) 1))
                                      (iAdd .i64 (iWrap .i64 (iShr .u64 (iWrap .u64 (iAdd .i64 a b)) 1)) m) a m
                                      (iSub .i64 (iAdd .i64 (iWrap .i64 (iShr .u64 (iWrap .u64 (iAdd .i64 a b)) 1)) m) 1) c0 cs rest toks
                                      tys)
                                    (iWrap .i64 (iShr .u64 (iWrap .u64 (iAdd .i64 a b)) 1)) c0
                                    (rot_l2 off len
                                      (sym5_n6 off len a m b (iWrap .i64 (iShr .u64 (iWrap .u64 (iAdd .i64 a b)) 1))
                                        (iAdd .i64 (iWrap .i64 (iShr .u64 (iWrap .u64 (iAdd .i64 a b)) 1)) m) a m
                                        (iSub .i64 (iAdd .i64 (iWrap .i64 (iShr .u64 (iWrap .u64 (iAdd .i64 a b)) 1)) m) 1) c0 cs rest
                                        toks tys)
                                      m
                                      (iSub .i64 (iAdd .i64 (iWrap .i64 (iShr .u64 (iWrap .u64 (iAdd .i64 a b)) 1)) m)
                                        (sym5_n6 off len a m b (iWrap .i64 (iShr .u64 (iWrap .u64 (iAdd .i64 a b)) 1))
                                          (iAdd .i64 (iWrap .i64 (iShr .u64 (iWrap .u64 (iAdd .i64 a b)) 1)) m) a m
                                          (iSub .i64 (iAdd .i64 (iWrap .i64 (iShr .u64 (iWrap .u64 (iAdd .i64 a b)) 1)) m) 1) c0 cs rest
                                          toks tys))
                                      c0
                                      (sym5_l2 off len a m b (iWrap .i64 (iShr .u64 (iWrap .u64 (iAdd .i64 a b)) 1))
                                        (iAdd .i64 (iWrap .i64 (iShr .u64 (iWrap .u64 (iAdd .i64 a b)) 1)) m) a m
                                        (iSub .i64 (iAdd .i64 (iWrap .i64 (iShr .u64 (iWrap .u64 (iAdd .i64 a b)) 1)) m) 1) c0 cs rest
                                        toks tys)
                                      rest toks tys)
                                    rest toks tys ::
                                  rest)
                              toks (82 :: 1000023 :: tys))))
                      (Tr.ret
                        (PV.tup [],
                          Store.mk
                            (c0 ::
                              rec_l off len a
                                  (sym5_n6 off len a m b (iWrap .i64 (iShr .u64 (iWrap .u64 (iAdd .i64 a b)) 1))
                                    (iAdd .i64 (iWrap .i64 (iShr .u64 (iWrap .u64 (iAdd .i64 a b)) 1)) m) a m
                                    (iSub .i64 (iAdd .i64 (iWrap .i64 (iShr .u64 (iWrap .u64 (iAdd .i64 a b)) 1)) m) 1) c0 cs rest toks
                                    tys)
                                  (iWrap .i64 (iShr .u64 (iWrap .u64 (iAdd .i64 a b)) 1)) c0
                                  (rot_l2 off len
                                    (sym5_n6 off len a m b (iWrap .i64 (iShr .u64 (iWrap .u64 (iAdd .i64 a b)) 1))
                                      (iAdd .i64 (iWrap .i64 (iShr .u64 (iWrap .u64 (iAdd .i64 a b)) 1)) m) a m
                                      (iSub .i64 (iAdd .i64 (iWrap .i64 (iShr .u64 (iWrap .u64 (iAdd .i64 a b)) 1)) m) 1) c0 cs rest toks
                                      tys)
                                    m
                                    (iSub .i64 (iAdd .i64 (iWrap .i64 (iShr .u64 (iWrap .u64 (iAdd .i64 a b)) 1)) m)
                                      (sym5_n6 off len a m b (iWrap .i64 (iShr .u64 (iWrap .u64 (iAdd .i64 a b)) 1))
                                        (iAdd .i64 (iWrap .i64 (iShr .u64 (iWrap .u64 (iAdd .i64 a b)) 1)) m) a m
                                        (iSub .i64 (iAdd .i64 (iWrap .i64 (iShr .u64 (iWrap .u64 (iAdd .i64 a b)) 1)) m) 1) c0 cs rest
                                        toks tys))
                                    c0
                                    (sym5_l2 off len a m b (iWrap .i64 (iShr .u64 (iWrap .u64 (iAdd .i64 a b)) 1))
                                      (iAdd .i64 (iWrap .i64 (iShr .u64 (iWrap .u64 (iAdd .i64 a b)) 1)) m) a m
                                      (iSub .i64 (iAdd .i64 (iWrap .i64 (iShr .u64 (iWrap .u64 (iAdd .i64 a b)) 1)) m) 1) c0 cs rest toks
                                      tys)
                                    rest toks tys)
                                  rest toks tys ::
                                rest)
                            toks (82 :: 1000023 :: tys))))
                    Tr.fail)
                  (Tr.ite
                    (iLt (iWrap .i64 (iShr .u64 (iWrap .u64 (iAdd .i64 a b)) 1))
                      (iSub .i64 (iAdd .i64 (iWrap .i64 (iShr .u64 (iWrap .u64 (iAdd .i64 a b)) 1)) m)
                        (sym5_n6 off len a m b (iWrap .i64 (iShr .u64 (iWrap .u64 (iAdd .i64 a b)) 1))
                          (iAdd .i64 (iWrap .i64 (iShr .u64 (iWrap .u64 (iAdd .i64 a b)) 1)) m) a m
                          (iSub .i64 (iAdd .i64 (iWrap .i64 (iShr .u64 (iWrap .u64 (iAdd .i64 a b)) 1)) m) 1) c0 cs rest toks tys)))
                    (Tr.ite
                      (iLt
                        (iSub .i64 (iAdd .i64 (iWrap .i64 (iShr .u64 (iWrap .u64 (iAdd .i64 a b)) 1)) m)
                          (sym5_n6 off len a m b (iWrap .i64 (iShr .u64 (iWrap .u64 (iAdd .i64 a b)) 1))
                            (iAdd .i64 (iWrap .i64 (iShr .u64 (iWrap .u64 (iAdd .i64 a b)) 1)) m) a m
                            (iSub .i64 (iAdd .i64 (iWrap .i64 (iShr .u64 (iWrap .u64 (iAdd .i64 a b)) 1)) m) 1) c0 cs rest toks tys))
                        b)
                      (Tr.ite
                        (rec_is0 off len (iWrap .i64 (iShr .u64 (iWrap .u64 (iAdd .i64 a b)) 1))
                          (iSub .i64 (iAdd .i64 (iWrap .i64 (iShr .u64 (iWrap .u64 (iAdd .i64 a b)) 1)) m)
                            (sym5_n6 off len a m b (iWrap .i64 (iShr .u64 (iWrap .u64 (iAdd .i64 a b)) 1))
                              (iAdd .i64 (iWrap .i64 (iShr .u64 (iWrap .u64 (iAdd .i64 a b)) 1)) m) a m
                              (iSub .i64 (iAdd .i64 (iWrap .i64 (iShr .u64 (iWrap .u64 (iAdd .i64 a b)) 1)) m) 1) c0 cs rest toks tys))
                          b c0
                          (rot_l2 off len
                            (sym5_n6 off len a m b (iWrap .i64 (iShr .u64 (iWrap .u64 (iAdd .i64 a b)) 1))
                              (iAdd .i64 (iWrap .i64 (iShr .u64 (iWrap .u64 (iAdd .i64 a b)) 1)) m) a m
                              (iSub .i64 (iAdd .i64 (iWrap .i64 (iShr .u64 (iWrap .u64 (iAdd .i64 a b)) 1)) m) 1) c0 cs rest toks tys)
                            m
                            (iSub .i64 (iAdd .i64 (iWrap .i64 (iShr .u64 (iWrap .u64 (iAdd .i64 a b)) 1)) m)
                              (sym5_n6 off len a m b (iWrap .i64 (iShr .u64 (iWrap .u64 (iAdd .i64 a b)) 1))
                                (iAdd .i64 (iWrap .i64 (iShr .u64 (iWrap .u64 (iAdd .i64 a b)) 1)) m) a m
                                (iSub .i64 (iAdd .i64 (iWrap .i64 (iShr .u64 (iWrap .u64 (iAdd .i64 a b)) 1)) m) 1) c0 cs rest toks tys))
                            c0
                            (sym5_l2 off len a m b (iWrap .i64 (iShr .u64 (iWrap .u64 (iAdd .i64 a b)) 1))
                              (iAdd .i64 (iWrap .i64 (iShr .u64 (iWrap .u64 (iAdd .i64 a b)) 1)) m) a m
                              (iSub .i64 (iAdd .i64 (iWrap .i64 (iShr .u64 (iWrap .u64 (iAdd .i64 a b)) 1)) m) 1) c0 cs rest toks tys)
                            rest toks tys)
                          rest toks tys)
                        (Tr.ret
                          (PV.tup [],
                            Store.mk
                              (c0 ::
                                rec_l off len (iWrap .i64 (iShr .u64 (iWrap .u64 (iAdd .i64 a b)) 1))
                                    (iSub .i64 (iAdd .i64 (iWrap .i64 (iShr .u64 (iWrap .u64 (iAdd .i64 a b)) 1)) m)
                                      (sym5_n6 off len a m b (iWrap .i64 (iShr .u64 (iWrap .u64 (iAdd .i64 a b)) 1))
                                        (iAdd .i64 (iWrap .i64 (iShr .u64 (iWrap .u64 (iAdd .i64 a b)) 1)) m) a m
                                        (iSub .i64 (iAdd .i64 (iWrap .i64 (iShr .u64 (iWrap .u64 (iAdd .i64 a b)) 1)) m) 1) c0 cs rest
                                        toks tys))
                                    b c0
                                    (rot_l2 off len
                                      (sym5_n6 off len a m b (iWrap .i64 (iShr .u64 (iWrap .u64 (iAdd .i64 a b)) 1))
                                        (iAdd .i64 (iWrap .i64 (iShr .u64 (iWrap .u64 (iAdd .i64 a b)) 1)) m) a m
                                        (iSub .i64 (iAdd .i64 (iWrap .i64 (iShr .u64 (iWrap .u64 (iAdd .i64 a b)) 1)) m) 1) c0 cs rest
                                        toks tys)
                                      m
                                      (iSub .i64 (iAdd .i64 (iWrap .i64 (iShr .u64 (iWrap .u64 (iAdd .i64 a b)) 1)) m)
                                        (sym5_n6 off len a m b (iWrap .i64 (iShr .u64 (iWrap .u64 (iAdd .i64 a b)) 1))
                                          (iAdd .i64 (iWrap .i64 (iShr .u64 (iWrap .u64 (iAdd .i64 a b)) 1)) m) a m
                                          (iSub .i64 (iAdd .i64 (iWrap .i64 (iShr .u64 (iWrap .u64 (iAdd .i64 a b)) 1)) m) 1) c0 cs rest
                                          toks tys))
                                      c0
                                      (sym5_l2 off len a m b (iWrap .i64 (iShr .u64 (iWrap .u64 (iAdd .i64 a b)) 1))
                                        (iAdd .i64 (iWrap .i64 (iShr .u64 (iWrap .u64 (iAdd .i64 a b)) 1)) m) a m
                                        (iSub .i64 (iAdd .i64 (iWrap .i64 (iShr .u64 (iWrap .u64 (iAdd .i64 a b)) 1)) m) 1) c0 cs rest
                                        toks tys)
                                      rest toks tys)
                                    rest toks tys ::
                                  rest)
                              toks (82 :: 1000023 :: tys)))
                        Tr.fail)
                      (Tr.ret
                        (PV.tup [],
                          Store.mk
                            (c0 ::
                              rot_l2 off len
                                  (sym5_n6 off len a m b (iWrap .i64 (iShr .u64 (iWrap .u64 (iAdd .i64 a b)) 1))
                                    (iAdd .i64 (iWrap .i64 (iShr .u64 (iWrap .u64 (iAdd .i64 a b)) 1)) m) a m
                                    (iSub .i64 (iAdd .i64 (iWrap .i64 (iShr .u64 (iWrap .u64 (iAdd .i64 a b)) 1)) m) 1) c0 cs rest toks
                                    tys)
                                  m
                                  (iSub .i64 (iAdd .i64 (iWrap .i64 (iShr .u64 (iWrap .u64 (iAdd .i64 a b)) 1)) m)
                                    (sym5_n6 off len a m b (iWrap .i64 (iShr .u64 (iWrap .u64 (iAdd .i64 a b)) 1))
                                      (iAdd .i64 (iWrap .i64 (iShr .u64 (iWrap .u64 (iAdd .i64 a b)) 1)) m) a m
                                      (iSub .i64 (iAdd .i64 (iWrap .i64 (iShr .u64 (iWrap .u64 (iAdd .i64 a b)) 1)) m) 1) c0 cs rest toks
                                      tys))
                                  c0
                                  (sym5_l2 off len a m b (iWrap .i64 (iShr .u64 (iWrap .u64 (iAdd .i64 a b)) 1))
                                    (iAdd .i64 (iWrap .i64 (iShr .u64 (iWrap .u64 (iAdd .i64 a b)) 1)) m) a m
                                    (iSub .i64 (iAdd .i64 (iWrap .i64 (iShr .u64 (iWrap .u64 (iAdd .i64 a b)) 1)) m) 1) c0 cs rest toks
                                    tys)
                                  rest toks tys ::
                                rest)
                            toks (82 :: 1000023 :: tys))))
                    (Tr.ret
                      (PV.tup [],
                        Store.mk
                          (c0 ::
                            rot_l2 off len
                                (sym5_n6 off len a m b (iWrap .i64 (iShr .u64 (iWrap .u64 (iAdd .i64 a b)) 1))
                                  (iAdd .i64 (iWrap .i64 (iShr .u64 (iWrap .u64 (iAdd .i64 a b)) 1)) m) a m
                                  (iSub .i64 (iAdd .i64 (iWrap .i64 (iShr .u64 (iWrap .u64 (iAdd .i64 a b)) 1)) m) 1) c0 cs rest toks tys)
                                m
                                (iSub .i64 (iAdd .i64 (iWrap .i64 (iShr .u64 (iWrap .u64 (iAdd .i64 a b)) 1)) m)
                                  (sym5_n6 off len a m b (iWrap .i64 (iShr .u64 (iWrap .u64 (iAdd .i64 a b)) 1))
                                    (iAdd .i64 (iWrap .i64 (iShr .u64 (iWrap .u64 (iAdd .i64 a b)) 1)) m) a m
                                    (iSub .i64 (iAdd .i64 (iWrap .i64 (iShr .u64 (iWrap .u64 (iAdd .i64 a b)) 1)) m) 1) c0 cs rest toks
                                    tys))
                                c0
                                (sym5_l2 off len a m b (iWrap .i64 (iShr .u64 (iWrap .u64 (iAdd .i64 a b)) 1))
                                  (iAdd .i64 (iWrap .i64 (iShr .u64 (iWrap .u64 (iAdd .i64 a b)) 1)) m) a m
                                  (iSub .i64 (iAdd .i64 (iWrap .i64 (iShr .u64 (iWrap .u64 (iAdd .i64 a b)) 1)) m) 1) c0 cs rest toks tys)
                                rest toks tys ::
                              rest)
                          toks (82 :: 1000023 :: tys)))))
                (Tr.ite
                  (iLt (iWrap .i64 (iShr .u64 (iWrap .u64 (iAdd .i64 a b)) 1))
                    (iSub .i64 (iAdd .i64 (iWrap .i64 (iShr .u64 (iWrap .u64 (iAdd .i64 a b)) 1)) m)
                      (sym5_n6 off len a m b (iWrap .i64 (iShr .u64 (iWrap .u64 (iAdd .i64 a b)) 1))
                        (iAdd .i64 (iWrap .i64 (iShr .u64 (iWrap .u64 (iAdd .i64 a b)) 1)) m) a m
                        (iSub .i64 (iAdd .i64 (iWrap .i64 (iShr .u64 (iWrap .u64 (iAdd .i64 a b)) 1)) m) 1) c0 cs rest toks tys)))
                  (Tr.ite
                    (iLt
                      (iSub .i64 (iAdd .i64 (iWrap .i64 (iShr .u64 (iWrap .u64 (iAdd .i64 a b)) 1)) m)
                        (sym5_n6 off len a m b (iWrap .i64 (iShr .u64 (iWrap .u64 (iAdd .i64 a b)) 1))
                          (iAdd .i64 (iWrap .i64 (iShr .u64 (iWrap .u64 (iAdd .i64 a b)) 1)) m) a m
                          (iSub .i64 (iAdd .i64 (iWrap .i64 (iShr .u64 (iWrap .u64 (iAdd .i64 a b)) 1)) m) 1) c0 cs rest toks tys))
                      b)
                    (Tr.ite
                      (rec_is0 off len (iWrap .i64 (iShr .u64 (iWrap .u64 (iAdd .i64 a b)) 1))
                        (iSub .i64 (iAdd .i64 (iWrap .i64 (iShr .u64 (iWrap .u64 (iAdd .i64 a b)) 1)) m)
                          (sym5_n6 off len a m b (iWrap .i64 (iShr .u64 (iWrap .u64 (iAdd .i64 a b)) 1))
                            (iAdd .i64 (iWrap .i64 (iShr .u64 (iWrap .u64 (iAdd .i64 a b)) 1)) m) a m
                            (iSub .i64 (iAdd .i64 (iWrap .i64 (iShr .u64 (iWrap .u64 (iAdd .i64 a b)) 1)) m) 1) c0 cs rest toks tys))
                        b c0
                        (rot_l2 off len
                          (sym5_n6 off len a m b (iWrap .i64 (iShr .u64 (iWrap .u64 (iAdd .i64 a b)) 1))
                            (iAdd .i64 (iWrap .i64 (iShr .u64 (iWrap .u64 (iAdd .i64 a b)) 1)) m) a m
                            (iSub .i64 (iAdd .i64 (iWrap .i64 (iShr .u64 (iWrap .u64 (iAdd .i64 a b)) 1)) m) 1) c0 cs rest toks tys)
                          m
                          (iSub .i64 (iAdd .i64 (iWrap .i64 (iShr .u64 (iWrap .u64 (iAdd .i64 a b)) 1)) m)
                            (sym5_n6 off len a m b (iWrap .i64 (iShr .u64 (iWrap .u64 (iAdd .i64 a b)) 1))
                              (iAdd .i64 (iWrap .i64 (iShr .u64 (iWrap .u64 (iAdd .i64 a b)) 1)) m) a m
                              (iSub .i64 (iAdd .i64 (iWrap .i64 (iShr .u64 (iWrap .u64 (iAdd .i64 a b)) 1)) m) 1) c0 cs rest toks tys))
                          c0
                          (sym5_l2 off len a m b (iWrap .i64 (iShr .u64 (iWrap .u64 (iAdd .i64 a b)) 1))
                            (iAdd .i64 (iWrap .i64 (iShr .u64 (iWrap .u64 (iAdd .i64 a b)) 1)) m) a m
                            (iSub .i64 (iAdd .i64 (iWrap .i64 (iShr .u64 (iWrap .u64 (iAdd .i64 a b)) 1)) m) 1) c0 cs rest toks tys)
                          rest toks tys)
                        rest toks tys)
                      (Tr.ret
                        (PV.tup [],
                          Store.mk
                            (c0 ::
                              rec_l off len (iWrap .i64 (iShr .u64 (iWrap .u64 (iAdd .i64 a b)) 1))
                                  (iSub .i64 (iAdd .i64 (iWrap .i64 (iShr .u64 (iWrap .u64 (iAdd .i64 a b)) 1)) m)
                                    (sym5_n6 off len a m b (iWrap .i64 (iShr .u64 (iWrap .u64 (iAdd .i64 a b)) 1))
                                      (iAdd .i64 (iWrap .i64 (iShr .u64 (iWrap .u64 (iAdd .i64 a b)) 1)) m) a m
                                      (iSub .i64 (iAdd .i64 (iWrap .i64 (iShr .u64 (iWrap .u64 (iAdd .i64 a b)) 1)) m) 1) c0 cs rest toks
                                      tys))
                                  b c0
                                  (rot_l2 off len
                                    (sym5_n6 off len a m b (iWrap .i64 (iShr .u64 (iWrap .u64 (iAdd .i64 a b)) 1))
                                      (iAdd .i64 (iWrap .i64 (iShr .u64 (iWrap .u64 (iAdd .i64 a b)) 1)) m) a m
                                      (iSub .i64 (iAdd .i64 (iWrap .i64 (iShr .u64 (iWrap .u64 (iAdd .i64 a b)) 1)) m) 1) c0 cs rest toks
                                      tys)
                                    m
                                    (iSub .i64 (iAdd .i64 (iWrap .i64 (iShr .u64 (iWrap .u64 (iAdd .i64 a b)) 1)) m)
                                      (sym5_n6 off len a m b (iWrap .i64 (iShr .u64 (iWrap .u64 (iAdd .i64 a b)) 1))
                                        (iAdd .i64 (iWrap .i64 (iShr .u64 (iWrap .u64 (iAdd .i64 a b)) 1)) m) a m
                                        (iSub .i64 (iAdd .i64 (iWrap .i64 (iShr .u64 (iWrap .u64 (iAdd .i64 a b)) 1)) m) 1) c0 cs rest
                                        toks tys))
                                    c0
                                    (sym5_l2 off len a m b (iWrap .i64 (iShr .u64 (iWrap .u64 (iAdd .i64 a b)) 1))
                                      (iAdd .i64 (iWrap .i64 (iShr .u64 (iWrap .u64 (iAdd .i64 a b)) 1)) m) a m
                                      (iSub .i64 (iAdd .i64 (iWrap .i64 (iShr .u64 (iWrap .u64 (iAdd .i64 a b)) 1)) m) 1) c0 cs rest toks
                                      tys)
                                    rest toks tys)
                                  rest toks tys ::
                                rest)
                            toks (82 :: 1000023 :: tys)))
                      Tr.fail)
                    (Tr.ret
                      (PV.tup [],
                        Store.mk
                          (c0 ::
                            rot_l2 off len
                                (sym5_n6 off len a m b (iWrap .i64 (iShr .u64 (iWrap .u64 (iAdd .i64 a b)) 1))
                                  (iAdd .i64 (iWrap .i64 (iShr .u64 (iWrap .u64 (iAdd .i64 a b)) 1)) m) a m
                                  (iSub .i64 (iAdd .i64 (iWrap .i64 (iShr .u64 (iWrap .u64 (iAdd .i64 a b)) 1)) m) 1) c0 cs rest toks tys)
                                m
                                (iSub .i64 (iAdd .i64 (iWrap .i64 (iShr .u64 (iWrap .u64 (iAdd .i64 a b)) 1)) m)
                                  (sym5_n6 off len a m b (iWrap .i64 (iShr .u64 (iWrap .u64 (iAdd .i64 a b)) 1))
                                    (iAdd .i64 (iWrap .i64 (iShr .u64 (iWrap .u64 (iAdd .i64 a b)) 1)) m) a m
                                    (iSub .i64 (iAdd .i64 (iWrap .i64 (iShr .u64 (iWrap .u64 (iAdd .i64 a b)) 1)) m) 1) c0 cs rest toks
                                    tys))
                                c0
                                (sym5_l2 off len a m b (iWrap .i64 (iShr .u64 (iWrap .u64 (iAdd .i64 a b)) 1))
                                  (iAdd .i64 (iWrap .i64 (iShr .u64 (iWrap .u64 (iAdd .i64 a b)) 1)) m) a m
                                  (iSub .i64 (iAdd .i64 (iWrap .i64 (iShr .u64 (iWrap .u64 (iAdd .i64 a b)) 1)) m) 1) c0 cs rest toks tys)
                                rest toks tys ::
                              rest)
                          toks (82 :: 1000023 :: tys))))
                  (Tr.ret
                    (PV.tup [],
                      Store.mk
                        (c0 ::
                          rot_l2 off len
                              (sym5_n6 off len a m b (iWrap .i64 (iShr .u64 (iWrap .u64 (iAdd .i64 a b)) 1))
                                (iAdd .i64 (iWrap .i64 (iShr .u64 (iWrap .u64 (iAdd .i64 a b)) 1)) m) a m
                                (iSub .i64 (iAdd .i64 (iWrap .i64 (iShr .u64 (iWrap .u64 (iAdd .i64 a b)) 1)) m) 1) c0 cs rest toks tys)
                              m
                              (iSub .i64 (iAdd .i64 (iWrap .i64 (iShr .u64 (iWrap .u64 (iAdd .i64 a b)) 1)) m)
                                (sym5_n6 off len a m b (iWrap .i64 (iShr .u64 (iWrap .u64 (iAdd .i64 a b)) 1))
                                  (iAdd .i64 (iWrap .i64 (iShr .u64 (iWrap .u64 (iAdd .i64 a b)) 1)) m) a m
                                  (iSub .i64 (iAdd .i64 (iWrap .i64 (iShr .u64 (iWrap .u64 (iAdd .i64 a b)) 1)) m) 1) c0 cs rest toks
                                  tys))
                              c0
                              (sym5_l2 off len a m b (iWrap .i64 (iShr .u64 (iWrap .u64 (iAdd .i64 a b)) 1))
                                (iAdd .i64 (iWrap .i64 (iShr .u64 (iWrap .u64 (iAdd .i64 a b)) 1)) m) a m
                                (iSub .i64 (iAdd .i64 (iWrap .i64 (iShr .u64 (iWrap .u64 (iAdd .i64 a b)) 1)) m) 1) c0 cs rest toks tys)
                              rest toks tys ::
                            rest)
                        toks (82 :: 1000023 :: tys)))))
              Tr.fail)
            (Tr.ite
              (iLt a
                (sym5_n6 off len a m b (iWrap .i64 (iShr .u64 (iWrap .u64 (iAdd .i64 a b)) 1))
                  (iAdd .i64 (iWrap .i64 (iShr .u64 (iWrap .u64 (iAdd .i64 a b)) 1)) m) a m
                  (iSub .i64 (iAdd .i64 (iWrap .i64 (iShr .u64 (iWrap .u64 (iAdd .i64 a b)) 1)) m) 1) c0 cs rest toks tys))
              (Tr.ite
                (iLt
                  (sym5_n6 off len a m b (iWrap .i64 (iShr .u64 (iWrap .u64 (iAdd .i64 a b)) 1))
                    (iAdd .i64 (iWrap .i64 (iShr .u64 (iWrap .u64 (iAdd .i64 a b)) 1)) m) a m
                    (iSub .i64 (iAdd .i64 (iWrap .i64 (iShr .u64 (iWrap .u64 (iAdd .i64 a b)) 1)) m) 1) c0 cs rest toks tys)
                  (iWrap .i64 (iShr .u64 (iWrap .u64 (iAdd .i64 a b)) 1)))
                (Tr.ite
                  (rec_is0 off len a
                    (sym5_n6 off len a m b (iWrap .i64 (iShr .u64 (iWrap .u64 (iAdd .i64 a b)) 1))
                      (iAdd .i64 (iWrap .i64 (iShr .u64 (iWrap .u64 (iAdd .i64 a b)) 1)) m) a m
                      (iSub .i64 (iAdd .i64 (iWrap .i64 (iShr .u64 (iWrap .u64 (iAdd .i64 a b)) 1)) m) 1) c0 cs rest toks tys)
                    (iWrap .i64 (iShr .u64 (iWrap .u64 (iAdd .i64 a b)) 1)) c0
                    (sym5_l2 off len a m b (iWrap .i64 (iShr .u64 (iWrap .u64 (iAdd .i64 a b)) 1))
                      (iAdd .i64 (iWrap .i64 (iShr .u64 (iWrap .u64 (iAdd .i64 a b)) 1)) m) a m
                      (iSub .i64 (iAdd .i64 (iWrap .i64 (iShr .u64 (iWrap .u64 (iAdd .i64 a b)) 1)) m) 1) c0 cs rest toks tys)
                    rest toks tys)
                  (Tr.ite
                    (iLt (iWrap .i64 (iShr .u64 (iWrap .u64 (iAdd .i64 a b)) 1))
                      (iSub .i64 (iAdd .i64 (iWrap .i64 (iShr .u64 (iWrap .u64 (iAdd .i64 a b)) 1)) m)
                        (sym5_n6 off len a m b (iWrap .i64 (iShr .u64 (iWrap .u64 (iAdd .i64 a b)) 1))
                          (iAdd .i64 (iWrap .i64 (iShr .u64 (iWrap .u64 (iAdd .i64 a b)) 1)) m) a m
                          (iSub .i64 (iAdd .i64 (iWrap .i64 (iShr .u64 (iWrap .u64 (iAdd .i64 a b)) 1)) m) 1) c0 cs rest toks tys)))
                    (Tr.ite
                      (iLt
                        (iSub .i64 (iAdd .i64 (iWrap .i64 (iShr .u64 (iWrap .u64 (iAdd .i64 a b)) 1)) m)
                          (sym5_n6 off len a m b (iWrap .i64 (iShr .u64 (iWrap .u64 (iAdd .i64 a b)) 1))
                            (iAdd .i64 (iWrap .i64 (iShr .u64 (iWrap .u64 (iAdd .i64 a b)) 1)) m) a m
                            (iSub .i64 (iAdd .i64 (iWrap .i64 (iShr .u64 (iWrap .u64 (iAdd .i64 a b)) 1)) m) 1) c0 cs rest toks tys))
                        b)
                      (Tr.ite
                        (rec_is0 off len (iWrap .i64 (iShr .u64 (iWrap .u64 (iAdd .i64 a b)) 1))
                          (iSub .i64 (iAdd .i64 (iWrap .i64 (iShr .u64 (iWrap .u64 (iAdd .i64 a b)) 1)) m)
                            (sym5_n6 off len a m b (iWrap .i64 (iShr .u64 (iWrap .u64 (iAdd .i64 a b)) 1))
                              (iAdd .i64 (iWrap .i64 (iShr .u64 (iWrap .u64 (iAdd .i64 a b)) 1)) m) a m
                              (iSub .i64 (iAdd .i64 (iWrap .i64 (iShr .u64 (iWrap .u64 (iAdd .i64 a b)) 1)) m) 1) c0 cs rest toks tys))
                          b c0
                          (rec_l off len a
                            (sym5_n6 off len a m b (iWrap .i64 (iShr .u64 (iWrap .u64 (iAdd .i64 a b)) 1))
                              (iAdd .i64 (iWrap .i64 (iShr .u64 (iWrap .u64 (iAdd .i64 a b)) 1)) m) a m
                              (iSub .i64 (iAdd .i64 (iWrap .i64 (iShr .u64 (iWrap .u64 (iAdd .i64 a b)) 1)) m) 1) c0 cs rest toks tys)
                            (iWrap .i64 (iShr .u64 (iWrap .u64 (iAdd .i64 a b)) 1)) c0
                            (sym5_l2 off len a m b (iWrap .i64 (iShr .u64 (iWrap .u64 (iAdd .i64 a b)) 1))
                              (iAdd .i64 (iWrap .i64 (iShr .u64 (iWrap .u64 (iAdd .i64 a b)) 1)) m) a m
                              (iSub .i64 (iAdd .i64 (iWrap .i64 (iShr .u64 (iWrap .u64 (iAdd .i64 a b)) 1)) m) 1) c0 cs rest toks tys)
                            rest toks tys)
                          rest toks tys)
                        (Tr.ret
                          (PV.tup [],
                            Store.mk
                              (c0 ::
                                rec_l off len (iWrap .i64 (iShr .u64 (iWrap .u64 (iAdd .i64 a b)) 1))
                                    (iSub .i64 (iAdd .i64 (iWrap .i64 (iShr .u64 (iWrap .u64 (iAdd .i64 a b)) 1)) m)
                                      (sym5_n6 off len a m b (iWrap .i64 (iShr .u64 (iWrap .u64 (iAdd .i64 a b)) 1))
                                        (iAdd .i64 (iWrap .i64 (iShr .u64 (iWrap .u64 (iAdd .i64 a b)) 1)) m) a m
                                        (iSub .i64 (iAdd .i64 (iWrap .i64 (iShr .u64 (iWrap .u64 (iAdd .i64 a b)) 1)) m) 1) c0 cs rest
                                        toks tys))
                                    b c0
                                    (rec_l off len a
                                      (sym5_n6 off len a m b (iWrap .i64 (iShr .u64 (iWrap .u64 (iAdd .i64 a b)) 1))
                                        (iAdd .i64 (iWrap .i64 (iShr .u64 (iWrap .u64 (iAdd .i64 a b)) 1)) m) a m
                                        (iSub .i64 (iAdd .i64 (iWrap .i64 (iShr .u64 (iWrap .u64 (iAdd .i64 a b)) 1)) m) 1) c0 cs rest
                                        toks tys)
                                      (iWrap .i64 (iShr .u64 (iWrap .u64 (iAdd .i64 a b)) 1)) c0
                                      (sym5_l2 off len a m b (iWrap .i64 (iShr .u64 (iWrap .u64 (iAdd .i64 a b)) 1))
                                        (iAdd .i64 (iWrap .i64 (iShr .u64 (iWrap .u64 (iAdd .i64 a b)) 1)) m) a m
                                        (iSub .i64 (iAdd .i64 (iWrap .i64 (iShr .u64 (iWrap .u64 (iAdd .i64 a b)) 1)) m) 1) c0 cs rest
                                        toks tys)
                                      rest toks tys)
                                    rest toks tys ::
                                  rest)
                              toks (82 :: 1000023 :: tys)))
                        Tr.fail)
                      (Tr.ret
                        (PV.tup [],
                          Store.mk
                            (c0 ::
                              rec_l off len a
                                  (sym5_n6 off len a m b (iWrap .i64 (iShr .u64 (iWrap .u64 (iAdd .i64 a b)) 1))
                                    (iAdd .i64 (iWrap .i64 (iShr .u64 (iWrap .u64 (iAdd .i64 a b)) 1)) m) a m
                                    (iSub .i64 (iAdd .i64 (iWrap .i64 (iShr .u64 (iWrap .u64 (iAdd .i64 a b)) 1)) m) 1) c0 cs rest toks
                                    tys)
                                  (iWrap .i64 (iShr .u64 (iWrap .u64 (iAdd .i64 a b)) 1)) c0
                                  (sym5_l2 off len a m b (iWrap .i64 (iShr .u64 (iWrap .u64 (iAdd .i64 a b)) 1))
                                    (iAdd .i64 (iWrap .i64 (iShr .u64 (iWrap .u64 (iAdd .i64 a b)) 1)) m) a m
                                    (iSub .i64 (iAdd .i64 (iWrap .i64 (iShr .u64 (iWrap .u64 (iAdd .i64 a b)) 1)) m) 1) c0 cs rest toks
                                    tys)
                                  rest toks tys ::
                                rest)
                            toks (82 :: 1000023 :: tys))))
                    (Tr.ret
                      (PV.tup [],
                        Store.mk
                          (c0 ::
                            rec_l off len a
                                (sym5_n6 off len a m b (iWrap .i64 (iShr .u64 (iWrap .u64 (iAdd .i64 a b)) 1))
                                  (iAdd .i64 (iWrap .i64 (iShr .u64 (iWrap .u64 (iAdd .i64 a b)) 1)) m) a m
                                  (iSub .i64 (iAdd .i64 (iWrap .i64 (iShr .u64 (iWrap .u64 (iAdd .i64 a b)) 1)) m) 1) c0 cs rest toks tys)
                                (iWrap .i64 (iShr .u64 (iWrap .u64 (iAdd .i64 a b)) 1)) c0
                                (sym5_l2 off len a m b (iWrap .i64 (iShr .u64 (iWrap .u64 (iAdd .i64 a b)) 1))
                                  (iAdd .i64 (iWrap .i64 (iShr .u64 (iWrap .u64 (iAdd .i64 a b)) 1)) m) a m
                                  (iSub .i64 (iAdd .i64 (iWrap .i64 (iShr .u64 (iWrap .u64 (iAdd .i64 a b)) 1)) m) 1) c0 cs rest toks tys)
                                rest toks tys ::
                              rest)
                          toks (82 :: 1000023 :: tys))))
                  Tr.fail)
                (Tr.ite
                  (iLt (iWrap .i64 (iShr .u64 (iWrap .u64 (iAdd .i64 a b)) 1))
                    (iSub .i64 (iAdd .i64 (iWrap .i64 (iShr .u64 (iWrap .u64 (iAdd .i64 a b)) 1)) m)
                      (sym5_n6 off len a m b (iWrap .i64 (iShr .u64 (iWrap .u64 (iAdd .i64 a b)) 1))
                        (iAdd .i64 (iWrap .i64 (iShr .u64 (iWrap .u64 (iAdd .i64 a b)) 1)) m) a m
                        (iSub .i64 (iAdd .i64 (iWrap .i64 (iShr .u64 (iWrap .u64 (iAdd .i64 a b)) 1)) m) 1) c0 cs rest toks tys)))
                  (Tr.ite
                    (iLt
                      (iSub .i64 (iAdd .i64 (iWrap .i64 (iShr .u64 (iWrap .u64 (iAdd .i64 a b)) 1)) m)
                        (sym5_n6 off len a m b (iWrap .i64 (iShr .u64 (iWrap .u64 (iAdd .i64 a b)) 1))
                          (iAdd .i64 (iWrap .i64 (iShr .u64 (iWrap .u64 (iAdd .i64 a b)) 1)) m) a m
                          (iSub .i64 (iAdd .i64 (iWrap .i64 (iShr .u64 (iWrap .u64 (iAdd .i64 a b)) 1)) m) 1) c0 cs rest toks tys))
                      b)
                    (Tr.ite
                      (rec_is0 off len (iWrap .i64 (iShr .u64 (iWrap .u64 (iAdd .i64 a b)) 1))
                        (iSub .i64 (iAdd .i64 (iWrap .i64 (iShr .u64 (iWrap .u64 (iAdd .i64 a b)) 1)) m)
                          (sym5_n6 off len a m b (iWrap .i64 (iShr .u64 (iWrap .u64 (iAdd .i64 a b)) 1))
                            (iAdd .i64 (iWrap .i64 (iShr .u64 (iWrap .u64 (iAdd .i64 a b)) 1)) m) a m
                            (iSub .i64 (iAdd .i64 (iWrap .i64 (iShr .u64 (iWrap .u64 (iAdd .i64 a b)) 1)) m) 1) c0 cs rest toks tys))
                        b c0
                        (sym5_l2 off len a m b (iWrap .i64 (iShr .u64 (iWrap .u64 (iAdd .i64 a b)) 1))
                          (iAdd .i64 (iWrap .i64 (iShr .u64 (iWrap .u64 (iAdd .i64 a b)) 1)) m) a m
                          (iSub .i64 (iAdd .i64 (iWrap .i64 (iShr .u64 (iWrap .u64 (iAdd .i64 a b)) 1)) m) 1) c0 cs rest toks tys)
                        rest toks tys)
                      (Tr.ret
                        (PV.tup [],
                          Store.mk
                            (c0 ::
                              rec_l off len (iWrap .i64 (iShr .u64 (iWrap .u64 (iAdd .i64 a b)) 1))
                                  (iSub .i64 (iAdd .i64 (iWrap .i64 (iShr .u64 (iWrap .u64 (iAdd .i64 a b)) 1)) m)
                                    (sym5_n6 off len a m b (iWrap .i64 (iShr .u64 (iWrap .u64 (iAdd .i64 a b)) 1))
                                      (iAdd .i64 (iWrap .i64 (iShr .u64 (iWrap .u64 (iAdd .i64 a b)) 1)) m) a m
                                      (iSub .i64 (iAdd .i64 (iWrap .i64 (iShr .u64 (iWrap .u64 (iAdd .i64 a b)) 1)) m) 1) c0 cs rest toks
                                      tys))
                                  b c0
                                  (sym5_l2 off len a m b (iWrap .i64 (iShr .u64 (iWrap .u64 (iAdd .i64 a b)) 1))
                                    (iAdd .i64 (iWrap .i64 (iShr .u64 (iWrap .u64 (iAdd .i64 a b)) 1)) m) a m
                                    (iSub .i64 (iAdd .i64 (iWrap .i64 (iShr .u64 (iWrap .u64 (iAdd .i64 a b)) 1)) m) 1) c0 cs rest toks
                                    tys)
                                  rest toks tys ::
                                rest)
                            toks (82 :: 1000023 :: tys)))
                      Tr.fail)
                    (Tr.ret
                      (PV.tup [],
                        Store.mk
                          (c0 ::
                            sym5_l2 off len a m b (iWrap .i64 (iShr .u64 (iWrap .u64 (iAdd .i64 a b)) 1))
                                (iAdd .i64 (iWrap .i64 (iShr .u64 (iWrap .u64 (iAdd .i64 a b)) 1)) m) a m
                                (iSub .i64 (iAdd .i64 (iWrap .i64 (iShr .u64 (iWrap .u64 (iAdd .i64 a b)) 1)) m) 1) c0 cs rest toks tys ::
                              rest)
                          toks (82 :: 1000023 :: tys))))
                  (Tr.ret
                    (PV.tup [],
                      Store.mk
                        (c0 ::
                          sym5_l2 off len a m b (iWrap .i64 (iShr .u64 (iWrap .u64 (iAdd .i64 a b)) 1))
                              (iAdd .i64 (iWrap .i64 (iShr .u64 (iWrap .u64 (iAdd .i64 a b)) 1)) m) a m
                              (iSub .i64 (iAdd .i64 (iWrap .i64 (iShr .u64 (iWrap .u64 (iAdd .i64 a b)) 1)) m) 1) c0 cs rest toks tys ::
                            rest)
                        toks (82 :: 1000023 :: tys)))))
              (Tr.ite
                (iLt (iWrap .i64 (iShr .u64 (iWrap .u64 (iAdd .i64 a b)) 1))
                  (iSub .i64 (iAdd .i64 (iWrap .i64 (iShr .u64 (iWrap .u64 (iAdd .i64 a b)) 1)) m)
                    (sym5_n6 off len a m b (iWrap .i64 (iShr .u64 (iWrap .u64 (iAdd .i64 a b)) 1))
                      (iAdd .i64 (iWrap .i64 (iShr .u64 (iWrap .u64 (iAdd .i64 a b)) 1)) m) a m
                      (iSub .i64 (iAdd .i64 (iWrap .i64 (iShr .u64 (iWrap .u64 (iAdd .i64 a b)) 1)) m) 1) c0 cs rest toks tys)))
                (Tr.ite
                  (iLt
                    (iSub .i64 (iAdd .i64 (iWrap .i64 (iShr .u64 (iWrap .u64 (iAdd .i64 a b)) 1)) m)
                      (sym5_n6 off len a m b (iWrap .i64 (iShr .u64 (iWrap .u64 (iAdd .i64 a b)) 1))
                        (iAdd .i64 (iWrap .i64 (iShr .u64 (iWrap .u64 (iAdd .i64 a b)) 1)) m) a m
                        (iSub .i64 (iAdd .i64 (iWrap .i64 (iShr .u64 (iWrap .u64 (iAdd .i64 a b)) 1)) m) 1) c0 cs rest toks tys))
                    b)
                  (Tr.ite
                    (rec_is0 off len (iWrap .i64 (iShr .u64 (iWrap .u64 (iAdd .i64 a b)) 1))
                      (iSub .i64 (iAdd .i64 (iWrap .i64 (iShr .u64 (iWrap .u64 (iAdd .i64 a b)) 1)) m)
                        (sym5_n6 off len a m b (iWrap .i64 (iShr .u64 (iWrap .u64 (iAdd .i64 a b)) 1))
                          (iAdd .i64 (iWrap .i64 (iShr .u64 (iWrap .u64 (iAdd .i64 a b)) 1)) m) a m
                          (iSub .i64 (iAdd .i64 (iWrap .i64 (iShr .u64 (iWrap .u64 (iAdd .i64 a b)) 1)) m) 1) c0 cs rest toks tys))
                      b c0
                      (sym5_l2 off len a m b (iWrap .i64 (iShr .u64 (iWrap .u64 (iAdd .i64 a b)) 1))
                        (iAdd .i64 (iWrap .i64 (iShr .u64 (iWrap .u64 (iAdd .i64 a b)) 1)) m) a m
                        (iSub .i64 (iAdd .i64 (iWrap .i64 (iShr .u64 (iWrap .u64 (iAdd .i64 a b)) 1)) m) 1) c0 cs rest toks tys)
                      rest toks tys)
                    (Tr.ret
                      (PV.tup [],
                        Store.mk
                          (c0 ::
                            rec_l off len (iWrap .i64 (iShr .u64 (iWrap .u64 (iAdd .i64 a b)) 1))
                                (iSub .i64 (iAdd .i64 (iWrap .i64 (iShr .u64 (iWrap .u64 (iAdd .i64 a b)) 1)) m)
                                  (sym5_n6 off len a m b (iWrap .i64 (iShr .u64 (iWrap .u64 (iAdd .i64 a b)) 1))
                                    (iAdd .i64 (iWrap .i64 (iShr .u64 (iWrap .u64 (iAdd .i64 a b)) 1)) m) a m
                                    (iSub .i64 (iAdd .i64 (iWrap .i64 (iShr .u64 (iWrap .u64 (iAdd .i64 a b)) 1)) m) 1) c0 cs rest toks
                                    tys))
                                b c0
                                (sym5_l2 off len a m b (iWrap .i64 (iShr .u64 (iWrap .u64 (iAdd .i64 a b)) 1))
                                  (iAdd .i64 (iWrap .i64 (iShr .u64 (iWrap .u64 (iAdd .i64 a b)) 1)) m) a m
                                  (iSub .i64 (iAdd .i64 (iWrap .i64 (iShr .u64 (iWrap .u64 (iAdd .i64 a b)) 1)) m) 1) c0 cs rest toks tys)
                                rest toks tys ::
                              rest)
                          toks (82 :: 1000023 :: tys)))
                    Tr.fail)
                  (Tr.ret
                    (PV.tup [],
                      Store.mk
                        (c0 ::
                          sym5_l2 off len a m b (iWrap .i64 (iShr .u64 (iWrap .u64 (iAdd .i64 a b)) 1))
                              (iAdd .i64 (iWrap .i64 (iShr .u64 (iWrap .u64 (iAdd .i64 a b)) 1)) m) a m
                              (iSub .i64 (iAdd .i64 (iWrap .i64 (iShr .u64 (iWrap .u64 (iAdd .i64 a b)) 1)) m) 1) c0 cs rest toks tys ::
                            rest)
                        toks (82 :: 1000023 :: tys))))
                (Tr.ret
                  (PV.tup [],
                    Store.mk
                      (c0 ::
                        sym5_l2 off len a m b (iWrap .i64 (iShr .u64 (iWrap .u64 (iAdd .i64 a b)) 1))
                            (iAdd .i64 (iWrap .i64 (iShr .u64 (iWrap .u64 (iAdd .i64 a b)) 1)) m) a m
                            (iSub .i64 (iAdd .i64 (iWrap .i64 (iShr .u64 (iWrap .u64 (iAdd .i64 a b)) 1)) m) 1) c0 cs rest toks tys ::
                          rest)
                      toks (82 :: 1000023 :: tys))))))
          (Tr.ite
            (iLt a
              (sym5_n6 off len a m b (iWrap .i64 (iShr .u64 (iWrap .u64 (iAdd .i64 a b)) 1))
                (iAdd .i64 (iWrap .i64 (iShr .u64 (iWrap .u64 (iAdd .i64 a b)) 1)) m) a m
                (iSub .i64 (iAdd .i64 (iWrap .i64 (iShr .u64 (iWrap .u64 (iAdd .i64 a b)) 1)) m) 1) c0 cs rest toks tys))
            (Tr.ite
              (iLt
                (sym5_n6 off len a m b (iWrap .i64 (iShr .u64 (iWrap .u64 (iAdd .i64 a b)) 1))
                  (iAdd .i64 (iWrap .i64 (iShr .u64 (iWrap .u64 (iAdd .i64 a b)) 1)) m) a m
                  (iSub .i64 (iAdd .i64 (iWrap .i64 (iShr .u64 (iWrap .u64 (iAdd .i64 a b)) 1)) m) 1) c0 cs rest toks tys)
                (iWrap .i64 (iShr .u64 (iWrap .u64 (iAdd .i64 a b)) 1)))
              (Tr.ite
                (rec_is0 off len a
                  (sym5_n6 off len a m b (iWrap .i64 (iShr .u64 (iWrap .u64 (iAdd .i64 a b)) 1))
                    (iAdd .i64 (iWrap .i64 (iShr .u64 (iWrap .u64 (iAdd .i64 a b)) 1)) m) a m
                    (iSub .i64 (iAdd .i64 (iWrap .i64 (iShr .u64 (iWrap .u64 (iAdd .i64 a b)) 1)) m) 1) c0 cs rest toks tys)
                  (iWrap .i64 (iShr .u64 (iWrap .u64 (iAdd .i64 a b)) 1)) c0
                  (sym5_l2 off len a m b (iWrap .i64 (iShr .u64 (iWrap .u64 (iAdd .i64 a b)) 1))
                    (iAdd .i64 (iWrap .i64 (iShr .u64 (iWrap .u64 (iAdd .i64 a b)) 1)) m) a m
                    (iSub .i64 (iAdd .i64 (iWrap .i64 (iShr .u64 (iWrap .u64 (iAdd .i64 a b)) 1)) m) 1) c0 cs rest toks tys)
                  rest toks tys)
                (Tr.ite
                  (iLt (iWrap .i64 (iShr .u64 (iWrap .u64 (iAdd .i64 a b)) 1))
                    (iSub .i64 (iAdd .i64 (iWrap .i64 (iShr .u64 (iWrap .u64 (iAdd .i64 a b)) 1)) m)
                      (sym5_n6 off len a m b (iWrap .i64 (iShr .u64 (iWrap .u64 (iAdd .i64 a b)) 1))
                        (iAdd .i64 (iWrap .i64 (iShr .u64 (iWrap .u64 (iAdd .i64 a b)) 1)) m) a m
                        (iSub .i64 (iAdd .i64 (iWrap .i64 (iShr .u64 (iWrap .u64 (iAdd .i64 a b)) 1)) m) 1) c0 cs rest toks tys)))
                  (Tr.ite
                    (iLt
                      (iSub .i64 (iAdd .i64 (iWrap .i64 (iShr .u64 (iWrap .u64 (iAdd .i64 a b)) 1)) m)
                        (sym5_n6 off len a m b (iWrap .i64 (iShr .u64 (iWrap .u64 (iAdd .i64 a b)) 1))
                          (iAdd .i64 (iWrap .i64 (iShr .u64 (iWrap .u64 (iAdd .i64 a b)) 1)) m) a m
                          (iSub .i64 (iAdd .i64 (iWrap .i64 (iShr .u64 (iWrap .u64 (iAdd .i64 a b)) 1)) m) 1) c0 cs rest toks tys))
                      b)
                    (Tr.ite
                      (rec_is0 off len (iWrap .i64 (iShr .u64 (iWrap .u64 (iAdd .i64 a b)) 1))
                        (iSub .i64 (iAdd .i64 (iWrap .i64 (iShr .u64 (iWrap .u64 (iAdd .i64 a b)) 1)) m)
                          (sym5_n6 off len a m b (iWrap .i64 (iShr .u64 (iWrap .u64 (iAdd .i64 a b)) 1))
                            (iAdd .i64 (iWrap .i64 (iShr .u64 (iWrap .u64 (iAdd .i64 a b)) 1)) m) a m
                            (iSub .i64 (iAdd .i64 (iWrap .i64 (iShr .u64 (iWrap .u64 (iAdd .i64 a b)) 1)) m) 1) c0 cs rest toks tys))
                        b c0
                        (rec_l off len a
                          (sym5_n6 off len a m b (iWrap .i64 (iShr .u64 (iWrap .u64 (iAdd .i64 a b)) 1))
                            (iAdd .i64 (iWrap .i64 (iShr .u64 (iWrap .u64 (iAdd .i64 a b)) 1)) m) a m
                            (iSub .i64 (iAdd .i64 (iWrap .i64 (iShr .u64 (iWrap .u64 (iAdd .i64 a b)) 1)) m) 1) c0 cs rest toks tys)
                          (iWrap .i64 (iShr .u64 (iWrap .u64 (iAdd .i64 a b)) 1)) c0
                          (sym5_l2 off len a m b (iWrap .i64 (iShr .u64 (iWrap .u64 (iAdd .i64 a b)) 1))
                            (iAdd .i64 (iWrap .i64 (iShr .u64 (iWrap .u64 (iAdd .i64 a b)) 1)) m) a m
                            (iSub .i64 (iAdd .i64 (iWrap .i64 (iShr .u64 (iWrap .u64 (iAdd .i64 a b)) 1)) m) 1) c0 cs rest toks tys)
                          rest toks tys)
                        rest toks tys)
                      (Tr.ret
                        (PV.tup [],
                          Store.mk
                            (c0 ::
                              rec_l off len (iWrap .i64 (iShr .u64 (iWrap .u64 (iAdd .i64 a b)) 1))
                                  (iSub .i64 (iAdd .i64 (iWrap .i64 (iShr .u64 (iWrap .u64 (iAdd .i64 a b)) 1)) m)
                                    (sym5_n6 off len a m b (iWrap .i64 (iShr .u64 (iWrap .u64 (iAdd .i64 a b)) 1))
                                      (iAdd .i64 (iWrap .i64 (iShr .u64 (iWrap .u64 (iAdd .i64 a b)) 1)) m) a m
                                      (iSub .i64 (iAdd .i64 (iWrap .i64 (iShr .u64 (iWrap .u64 (iAdd .i64 a b)) 1)) m) 1) c0 cs rest toks
                                      tys))
                                  b c0
                                  (rec_l off len a
                                    (sym5_n6 off len a m b (iWrap .i64 (iShr .u64 (iWrap .u64 (iAdd .i64 a b)) 1))
                                      (iAdd .i64 (iWrap .i64 (iShr .u64 (iWrap .u64 (iAdd .i64 a b)) 1)) m) a m
                                      (iSub .i64 (iAdd .i64 (iWrap .i64 (iShr .u64 (iWrap .u64 (iAdd .i64 a b)) 1)) m) 1) c0 cs rest toks
                                      tys)
                                    (iWrap .i64 (iShr .u64 (iWrap .u64 (iAdd .i64 a b)) 1)) c0
                                    (sym5_l2 off len a m b (iWrap .i64 (iShr .u64 (iWrap .u64 (iAdd .i64 a b)) 1))
                                      (iAdd .i64 (iWrap .i64 (iShr .u64 (iWrap .u64 (iAdd .i64 a b)) 1)) m) a m
                                      (iSub .i64 (iAdd .i64 (iWrap .i64 (iShr .u64 (iWrap .u64 (iAdd .i64 a b)) 1)) m) 1) c0 cs rest toks
                                      tys)
                                    rest toks tys)
                                  rest toks tys ::
                                rest)
                            toks (82 :: 1000023 :: tys)))
                      Tr.fail)
                    (Tr.ret
                      (PV.tup [],
                        Store.mk
                          (c0 ::
                            rec_l off len a
                                (sym5_n6 off len a m b (iWrap .i64 (iShr .u64 (iWrap .u64 (iAdd .i64 a b)) 1))
                                  (iAdd .i64 (iWrap .i64 (iShr .u64 (iWrap .u64 (iAdd .i64 a b)) 1)) m) a m
                                  (iSub .i64 (iAdd .i64 (iWrap .i64 (iShr .u64 (iWrap .u64 (iAdd .i64 a b)) 1)) m) 1) c0 cs rest toks tys)
                                (iWrap .i64 (iShr .u64 (iWrap .u64 (iAdd .i64 a b)) 1)) c0
                                (sym5_l2 off len a m b (iWrap .i64 (iShr .u64 (iWrap .u64 (iAdd .i64 a b)) 1))
                                  (iAdd .i64 (iWrap .i64 (iShr .u64 (iWrap .u64 (iAdd .i64 a b)) 1)) m) a m
                                  (iSub .i64 (iAdd .i64 (iWrap .i64 (iShr .u64 (iWrap .u64 (iAdd .i64 a b)) 1)) m) 1) c0 cs rest toks tys)
                                rest toks tys ::
                              rest)
                          toks (82 :: 1000023 :: tys))))
                  (Tr.ret
                    (PV.tup [],
                      Store.mk
                        (c0 ::
                          rec_l off len a
                              (sym5_n6 off len a m b (iWrap .i64 (iShr .u64 (iWrap .u64 (iAdd .i64 a b)) 1))
                                (iAdd .i64 (iWrap .i64 (iShr .u64 (iWrap .u64 (iAdd .i64 a b)) 1)) m) a m
                                (iSub .i64 (iAdd .i64 (iWrap .i64 (iShr .u64 (iWrap .u64 (iAdd .i64 a b)) 1)) m) 1) c0 cs rest toks tys)
                              (iWrap .i64 (iShr .u64 (iWrap .u64 (iAdd .i64 a b)) 1)) c0
                              (sym5_l2 off len a m b (iWrap .i64 (iShr .u64 (iWrap .u64 (iAdd .i64 a b)) 1))
                                (iAdd .i64 (iWrap .i64 (iShr .u64 (iWrap .u64 (iAdd .i64 a b)) 1)) m) a m
                                (iSub .i64 (iAdd .i64 (iWrap .i64 (iShr .u64 (iWrap .u64 (iAdd .i64 a b)) 1)) m) 1) c0 cs rest toks tys)
                              rest toks tys ::
                            rest)
                        toks (82 :: 1000023 :: tys))))
                Tr.fail)
              (Tr.ite
                (iLt (iWrap .i64 (iShr .u64 (iWrap .u64 (iAdd .i64 a b)) 1))
                  (iSub .i64 (iAdd .i64 (iWrap .i64 (iShr .u64 (iWrap .u64 (iAdd .i64 a b)) 1)) m)
                    (sym5_n6 off len a m b (iWrap .i64 (iShr .u64 (iWrap .u64 (iAdd .i64 a b)) 1))
                      (iAdd .i64 (iWrap .i64 (iShr .u64 (iWrap .u64 (iAdd .i64 a b)) 1)) m) a m
                      (iSub .i64 (iAdd .i64 (iWrap .i64 (iShr .u64 (iWrap .u64 (iAdd .i64 a b)) 1)) m) 1) c0 cs rest toks tys)))
                (Tr.ite
                  (iLt
                    (iSub .i64 (iAdd .i64 (iWrap .i64 (iShr .u64 (iWrap .u64 (iAdd .i64 a b)) 1)) m)
                      (sym5_n6 off len a m b (iWrap .i64 (iShr .u64 (iWrap .u64 (iAdd .i64 a b)) 1))
                        (iAdd .i64 (iWrap .i64 (iShr .u64 (iWrap .u64 (iAdd .i64 a b)) 1)) m) a m
                        (iSub .i64 (iAdd .i64 (iWrap .i64 (iShr .u64 (iWrap .u64 (iAdd .i64 a b)) 1)) m) 1) c0 cs rest toks tys))
                    b)
                  (Tr.ite
                    (rec_is0 off len (iWrap .i64 (iShr .u64 (iWrap .u64 (iAdd .i64 a b)) 1))
                      (iSub .i64 (iAdd .i64 (iWrap .i64 (iShr .u64 (iWrap .u64 (iAdd .i64 a b)) 1)) m)
                        (sym5_n6 off len a m b (iWrap .i64 (iShr .u64 (iWrap .u64 (iAdd .i64 a b)) 1))
                          (iAdd .i64 (iWrap .i64 (iShr .u64 (iWrap .u64 (iAdd .i64 a b)) 1)) m) a m
                          (iSub .i64 (iAdd .i64 (iWrap .i64 (iShr .u64 (iWrap .u64 (iAdd .i64 a b)) 1)) m) 1) c0 cs rest toks tys))
                      b c0
                      (sym5_l2 off len a m b (iWrap .i64 (iShr .u64 (iWrap .u64 (iAdd .i64 a b)) 1))
                        (iAdd .i64 (iWrap .i64 (iShr .u64 (iWrap .u64 (iAdd .i64 a b)) 1)) m) a m
                        (iSub .i64 (iAdd .i64 (iWrap .i64 (iShr .u64 (iWrap .u64 (iAdd .i64 a b)) 1)) m) 1) c0 cs rest toks tys)
                      rest toks tys)
                    (Tr.ret
                      (PV.tup [],
                        Store.mk
                          (c0 ::
                            rec_l off len (iWrap .i64 (iShr .u64 (iWrap .u64 (iAdd .i64 a b)) 1))
                                (iSub .i64 (iAdd .i64 (iWrap .i64 (iShr .u64 (iWrap .u64 (iAdd .i64 a b)) 1)) m)
                                  (sym5_n6 off len a m b (iWrap .i64 (iShr .u64 (iWrap .u64 (iAdd .i64 a b)) 1))
                                    (iAdd .i64 (iWrap .i64 (iShr .u64 (iWrap .u64 (iAdd .i64 a b)) 1)) m) a m
                                    (iSub .i64 (iAdd .i64 (iWrap .i64 (iShr .u64 (iWrap .u64 (iAdd .i64 a b)) 1)) m) 1) c0 cs rest toks
                                    tys))
                                b c0
                                (sym5_l2 off len a m b (iWrap .i64 (iShr .u64 (iWrap .u64 (iAdd .i64 a b)) 1))
                                  (iAdd .i64 (iWrap .i64 (iShr .u64 (iWrap .u64 (iAdd .i64 a b)) 1)) m) a m
                                  (iSub .i64 (iAdd .i64 (iWrap .i64 (iShr .u64 (iWrap .u64 (iAdd .i64 a b)) 1)) m) 1) c0 cs rest toks tys)
                                rest toks tys ::
                              rest)
                          toks (82 :: 1000023 :: tys)))
                    Tr.fail)
                  (Tr.ret
                    (PV.tup [],
                      Store.mk
                        (c0 ::
                          sym5_l2 off len a m b (iWrap .i64 (iShr .u64 (iWrap .u64 (iAdd .i64 a b)) 1))
                              (iAdd .i64 (iWrap .i64 (iShr .u64 (iWrap .u64 (iAdd .i64 a b)) 1)) m) a m
                              (iSub .i64 (iAdd .i64 (iWrap .i64 (iShr .u64 (iWrap .u64 (iAdd .i64 a b)) 1)) m) 1) c0 cs rest toks tys ::
                            rest)
                        toks (82 :: 1000023 :: tys))))
                (Tr.ret
                  (PV.tup [],
                    Store.mk
                      (c0 ::
                        sym5_l2 off len a m b (iWrap .i64 (iShr .u64 (iWrap .u64 (iAdd .i64 a b)) 1))
                            (iAdd .i64 (iWrap .i64 (iShr .u64 (iWrap .u64 (iAdd .i64 a b)) 1)) m) a m
                            (iSub .i64 (iAdd .i64 (iWrap .i64 (iShr .u64 (iWrap .u64 (iAdd .i64 a b)) 1)) m) 1) c0 cs rest toks tys ::
                          rest)
                      toks (82 :: 1000023 :: tys)))))
            (Tr.ite
              (iLt (iWrap .i64 (iShr .u64 (iWrap .u64 (iAdd .i64 a b)) 1))
                (iSub .i64 (iAdd .i64 (iWrap .i64 (iShr .u64 (iWrap .u64 (iAdd .i64 a b)) 1)) m)
                  (sym5_n6 off len a m b (iWrap .i64 (iShr .u64 (iWrap .u64 (iAdd .i64 a b)) 1))
                    (iAdd .i64 (iWrap .i64 (iShr .u64 (iWrap .u64 (iAdd .i64 a b)) 1)) m) a m
                    (iSub .i64 (iAdd .i64 (iWrap .i64 (iShr .u64 (iWrap .u64 (iAdd .i64 a b)) 1)) m) 1) c0 cs rest toks tys)))
              (Tr.ite
                (iLt
                  (iSub .i64 (iAdd .i64 (iWrap .i64 (iShr .u64 (iWrap .u64 (iAdd .i64 a b)) 1)) m)
                    (sym5_n6 off len a m b (iWrap .i64 (iShr .u64 (iWrap .u64 (iAdd .i64 a b)) 1))
                      (iAdd .i64 (iWrap .i64 (iShr .u64 (iWrap .u64 (iAdd .i64 a b)) 1)) m) a m
                      (iSub .i64 (iAdd .i64 (iWrap .i64 (iShr .u64 (iWrap .u64 (iAdd .i64 a b)) 1)) m) 1) c0 cs rest toks tys))
                  b)
                (Tr.ite
                  (rec_is0 off len (iWrap .i64 (iShr .u64 (iWrap .u64 (iAdd .i64 a b)) 1))
                    (iSub .i64 (iAdd .i64 (iWrap .i64 (iShr .u64 (iWrap .u64 (iAdd .i64 a b)) 1)) m)
                      (sym5_n6 off len a m b (iWrap .i64 (iShr .u64 (iWrap .u64 (iAdd .i64 a b)) 1))
                        (iAdd .i64 (iWrap .i64 (iShr .u64 (iWrap .u64 (iAdd .i64 a b)) 1)) m) a m
                        (iSub .i64 (iAdd .i64 (iWrap .i64 (iShr .u64 (iWrap .u64 (iAdd .i64 a b)) 1)) m) 1) c0 cs rest toks tys))
                    b c0
                    (sym5_l2 off len a m b (iWrap .i64 (iShr .u64 (iWrap .u64 (iAdd .i64 a b)) 1))
                      (iAdd .i64 (iWrap .i64 (iShr .u64 (iWrap .u64 (iAdd .i64 a b)) 1)) m) a m
                      (iSub .i64 (iAdd .i64 (iWrap .i64 (iShr .u64 (iWrap .u64 (iAdd .i64 a b)) 1)) m) 1) c0 cs rest toks tys)
                    rest toks tys)
                  (Tr.ret
                    (PV.tup [],
                      Store.mk
                        (c0 ::
                          rec_l off len (iWrap .i64 (iShr .u64 (iWrap .u64 (iAdd .i64 a b)) 1))
                              (iSub .i64 (iAdd .i64 (iWrap .i64 (iShr .u64 (iWrap .u64 (iAdd .i64 a b)) 1)) m)
                                (sym5_n6 off len a m b (iWrap .i64 (iShr .u64 (iWrap .u64 (iAdd .i64 a b)) 1))
                                  (iAdd .i64 (iWrap .i64 (iShr .u64 (iWrap .u64 (iAdd .i64 a b)) 1)) m) a m
                                  (iSub .i64 (iAdd .i64 (iWrap .i64 (iShr .u64 (iWrap .u64 (iAdd .i64 a b)) 1)) m) 1) c0 cs rest toks
                                  tys))
                              b c0
                              (sym5_l2 off len a m b (iWrap .i64 (iShr .u64 (iWrap .u64 (iAdd .i64 a b)) 1))
                                (iAdd .i64 (iWrap .i64 (iShr .u64 (iWrap .u64 (iAdd .i64 a b)) 1)) m) a m
                                (iSub .i64 (iAdd .i64 (iWrap .i64 (iShr .u64 (iWrap .u64 (iAdd .i64 a b)) 1)) m) 1) c0 cs rest toks tys)
                              rest toks tys ::
                            rest)
                        toks (82 :: 1000023 :: tys)))
                  Tr.fail)
                (Tr.ret
                  (PV.tup [],
                    Store.mk
                      (c0 ::
                        sym5_l2 off len a m b (iWrap .i64 (iShr .u64 (iWrap .u64 (iAdd .i64 a b)) 1))
                            (iAdd .i64 (iWrap .i64 (iShr .u64 (iWrap .u64 (iAdd .i64 a b)) 1)) m) a m
                            (iSub .i64 (iAdd .i64 (iWrap .i64 (iShr .u64 (iWrap .u64 (iAdd .i64 a b)) 1)) m) 1) c0 cs rest toks tys ::
                          rest)
                      toks (82 :: 1000023 :: tys))))
              (Tr.ret
                (PV.tup [],
                  Store.mk
                    (c0 ::
                      sym5_l2 off len a m b (iWrap .i64 (iShr .u64 (iWrap .u64 (iAdd .i64 a b)) 1))
                          (iAdd .i64 (iWrap .i64 (iShr .u64 (iWrap .u64 (iAdd .i64 a b)) 1)) m) a m
                          (iSub .i64 (iAdd .i64 (iWrap .i64 (iShr .u64 (iWrap .u64 (iAdd .i64 a b)) 1)) m) 1) c0 cs rest toks tys ::
                        rest)
                    toks (82 :: 1000023 :: tys))))))
        Tr.fail)))
theorem sym_T (off : Nat) (len : Nat) (a : Int) (m : Int) (b : Int) (c0 : List PV) (cs : List PV) (rest : List (List PV)) (toks : List (Nat × Nat × TypeId)) (tys : List TypeId) : (tcallS tbT G_sym L_sym Tryd.f120 [.osl 1 off len 1, .int .i64 a, .int .i64 m, .int .i64 b, .fn 16 []] ⟨c0 :: cs :: rest, toks, 82 :: 1000023 :: tys⟩).flat = sym_Tr off len a m b c0 cs rest toks tys := by kernel_rfl
noncomputable def sym_W (off : Nat) (len : Nat) (a : Int) (m : Int) (b : Int) (c0 : List PV) (cs : List PV) (rest : List (List PV)) (toks : List (Nat × Nat × TypeId)) (tys : List TypeId) : Option (PV × Store) := (sym_Tr off len a m b c0 cs rest toks tys).run
noncomputable def sym_l2 (off : Nat) (len : Nat) (a : Int) (m : Int) (b : Int) (c0 : List PV) (cs : List PV) (rest : List (List PV)) (toks : List (Nat × Nat × TypeId)) (tys : List TypeId) : List PV := (gObj (asOut (sym_W off len a m b c0 cs rest toks tys)) 1)
noncomputable def sym_is0 (off : Nat) (len : Nat) (a : Int) (m : Int) (b : Int) (c0 : List PV) (cs : List PV) (rest : List (List PV)) (toks : List (Nat × Nat × TypeId)) (tys : List TypeId) : Bool := isW (sym_W off len a m b c0 cs rest toks tys) (.tup [], ⟨(c0 :: (sym_l2 off len a m b c0 cs rest toks tys) :: rest), (toks), (82 :: 1000023 :: tys)⟩)
noncomputable def D_sym : List PV → Store → Tr (PV × Store) | [.osl 1 off len 1, .int .i64 a, .int .i64 m, .int .i64 b, .fn 16 []], ⟨c0 :: cs :: rest, toks, 82 :: 1000023 :: tys⟩ => .ite (sym_is0 off len a m b c0 cs rest toks tys) (.ret (.tup [], ⟨(c0 :: (sym_l2 off len a m b c0 cs rest toks tys) :: rest), (toks), (82 :: 1000023 :: tys)⟩)) (.fail) | _, _ => .fail
theorem sim_sym (gl : Nat → Option Obj) (hN : SimS Tryd.prog gl 120 fun args σ => (D_rec args σ).run) : SimS Tryd.prog gl 120 fun args σ => (D_sym args σ).run := by
  refine SimS.of_flat (G := G_sym) (L := L_sym) tbT_ok (gok_sym gl hN ) noMixed Tryd.func120 rfl (by rfl) (by kernel_rfl) (loopOk_all (L := lps L_sym) [(3, c_sym1), (9, c_sym2), (15, c_sym3), (21, c_sym4), (33, c_sym5)] (by kernel_rfl) (List.forall_mem_cons.2 ⟨fun fr σ e fr' σ' h => loop_sym1 gl hN  fr σ e fr' σ' h, (List.forall_mem_cons.2 ⟨fun fr σ e fr' σ' h => loop_sym2 gl hN  fr σ e fr' σ' h, (List.forall_mem_cons.2 ⟨fun fr σ e fr' σ' h => loop_sym3 gl hN  fr σ e fr' σ' h, (List.forall_mem_cons.2 ⟨fun fr σ e fr' σ' h => loop_sym4 gl hN  fr σ e fr' σ' h, (List.forall_mem_cons.2 ⟨fun fr σ e fr' σ' h => loop_sym5 gl hN  fr σ e fr' σ' h, (List.forall_mem_nil _)⟩)⟩)⟩)⟩)⟩)) ?_
  intro args σ x h
  unfold D_sym at h
  split at h
  · exact (congrArg Tr.run (sym_T _ _ _ _ _ _ _ _ _ _)).trans (ite_isW h fun h => by cases h)
  · cases h
end Go.Pv


set_option maxHeartbeats 4000000
set_option maxRecDepth 200000
set_option linter.unusedSimpArgs false
set_option linter.unusedVariables false
/-! What the parts of a stable sort make of a row. -/
namespace Go.Pv
open Go Go.Proofs
abbrev TY : Nat := 1000023
/-! ### ranges put for one another -/
theorem swp_loop (f : Nat → List Vl) (N a b n : Nat) (c0 : List PV) (rest : List (List PV)) (toks : List (Nat × Nat × TypeId)) (tys : List TypeId) (h1 : a + n ≤ b) (h2 : b + n ≤ N) (hN : N ≤ 9223372036854775807) :
    ∀ k i : Nat, i + k = n → swp1_V [.osl 1 0 N 1, .int .i64 a, .int .i64 b, .int .i64 n, .int .i64 i] ⟨c0 :: oA cV (swR f a b i) N :: rest, toks, 82 :: 1000023 :: tys⟩ = some (.exit 0, [], ⟨c0 :: oA cV (swR f a b n) N :: rest, toks, 82 :: 1000023 :: tys⟩)
  | 0, i, h => by
    have e : i = n := by omega
    subst e
    rw [swp1_E]
    simp [swp1_Tr, iLt_N]
  | k + 1, i, h => by
    have h3 : b + i < N := by omega
    have h4 : a + i < N := by omega
    have h5 : i < n := by omega
    rw [swp1_E]
    unfold swp1_Tr
    simp only [iLt_N, add_N (a := b) (b := i) (by omega), add_N (a := a) (b := i) (by omega), add_N1 (a := i) (by omega), okIx_N, nNat_N, pOff_01, okCell_oA cV h3, okCell_oA cV h4, cRow_oA cV h3, cRow_oA cV h4, putC_oA cV _ h4, putC_oA cV _ h3, okOff_oA cV h3, okOff_oA cV h4, h3, h4, h5, decide_true, Tr.run_ite, if_true, Tr.run_ret, lnext_next]
    rw [swR_succ f (by omega)]
    exact swp_loop f N a b n c0 rest toks tys h1 h2 hN k (i + 1) (by omega)
theorem swp_law (f : Nat → List Vl) (N a b n : Nat) (c0 : List PV) (rest : List (List PV)) (toks : List (Nat × Nat × TypeId)) (tys : List TypeId) (h1 : a + n ≤ b) (h2 : b + n ≤ N) (hN : N ≤ 9223372036854775807) :
    swp_W 0 N a b n c0 (oA cV f N) rest toks tys = some (.tup [], ⟨c0 :: oA cV (swR f a b n) N :: rest, toks, 82 :: 1000023 :: tys⟩) := by
  have h : swp1_W 0 N a b n 0 c0 (oA cV f N) rest toks tys = some (.exit 0, [], ⟨c0 :: oA cV (swR f a b n) N :: rest, toks, 82 :: 1000023 :: tys⟩) := by
    have := swp_loop f N a b n c0 rest toks tys h1 h2 hN n 0 (by omega)
    rw [swR_zero] at this
    exact this
  simp [swp_W, swp_Tr, swp1_is0, swp1_l2, h, gObj]
theorem swp_is (f : Nat → List Vl) (N a b n : Nat) (c0 : List PV) (rest : List (List PV)) (toks : List (Nat × Nat × TypeId)) (tys : List TypeId) (h1 : a + n ≤ b) (h2 : b + n ≤ N) (hN : N ≤ 9223372036854775807) :
    swp_is0 0 N a b n c0 (oA cV f N) rest toks tys = true ∧ swp_l2 0 N a b n c0 (oA cV f N) rest toks tys = oA cV (swR f a b n) N := by
  have h := swp_law f N a b n c0 rest toks tys h1 h2 hN
  simp [swp_is0, swp_l2, h, gObj, asOut]
/-! ### ranges put behind one another -/
theorem rot_loop (f0 : Nat → List Vl) (N m lo hi : Nat) (c0 : List PV) (rest : List (List PV)) (toks : List (Nat × Nat × TypeId)) (tys : List TypeId) (hl : lo ≤ m) (hh : m ≤ hi) (h2 : hi ≤ N) (hN : N ≤ 9223372036854775807) :
    ∀ k i j : Nat, ∀ f : Nat → List Vl, i + j ≤ k → 0 < i → 0 < j → lo + i ≤ m → m + j ≤ hi → Mv f0 f lo hi → rotR f (m - i) m (m + j) = rotR f0 lo m hi →
    ∃ i' : Nat, ∃ f', rot1_V [.osl 1 0 N 1, .int .i64 m, .fn 16 [], .int .i64 i, .int .i64 j] ⟨c0 :: oA cV f N :: rest, toks, 82 :: 1000023 :: tys⟩ =
      some (.exit 0, [.osl 1 0 N 1, .int .i64 m, .fn 16 [], .int .i64 i'], ⟨c0 :: oA cV f' N :: rest, toks, 82 :: 1000023 :: tys⟩) ∧ lo + i' ≤ m ∧ m + i' ≤ hi ∧ Mv f0 f' lo hi ∧ rotR f' (m - i') m (m + i') = rotR f0 lo m hi := by
  intro k
  induction k with
  | zero => intro i j f h; omega
  | succ k ih =>
    intro i j f h hi0 hj0 hli hmj hm hr
    by_cases e : i = j
    · subst e
      refine ⟨i, f, ?_, hli, hmj, hm, hr⟩
      rw [rot1_E]
      simp [rot1_Tr, iNe_N]
    · by_cases hlt : j < i
      · obtain ⟨a1, a2⟩ := swp_is f N (m - i) m j c0 rest toks tys (by omega) (by omega) hN
        obtain ⟨i', f', b1, b2, b3, b4, b5⟩ := ih (i - j) j (swR f (m - i) m j) (by omega) (by omega) hj0 (by omega) hmj (hm.trans (swR_mv f (by omega) (by omega) (by omega))) (by rw [rotR_more f hlt (by omega)]; exact hr)
        refine ⟨i', f', ?_, b2, b3, b4, b5⟩
        rw [rot1_E, ← b1]
        unfold rot1_Tr
        simp only [iNe_N, iLt_N, sub_N (a := m) (b := i) (by omega) (by omega), sub_N (a := i) (b := j) (by omega) (by omega), a1, a2, hlt, e, ne_eq, not_false_eq_true, decide_true, Tr.run_ite, if_true, Tr.run_ret, lnext_next]
      · obtain ⟨a1, a2⟩ := swp_is f N (m - i) (m + j - i) i c0 rest toks tys (by omega) (by omega) hN
        obtain ⟨i', f', b1, b2, b3, b4, b5⟩ := ih i (j - i) (swR f (m - i) (m + j - i) i) (by omega) hi0 (by omega) hli (by omega) (hm.trans (swR_mv f (by omega) (by omega) (by omega))) (by rw [rotR_less f (by omega) (by omega)]; exact hr)
        refine ⟨i', f', ?_, b2, b3, b4, b5⟩
        rw [rot1_E, ← b1]
        unfold rot1_Tr
        simp only [iNe_N, iLt_N, add_N (a := m) (b := j) (by omega), sub_N (a := m) (b := i) (by omega) (by omega), sub_N (a := m + j) (b := i) (by omega) (by omega), sub_N (a := j) (b := i) (by omega) (by omega), a1, a2, hlt, e, ne_eq, not_false_eq_true, decide_true, decide_false, Bool.false_eq_true, Tr.run_ite, if_true, if_false, Tr.run_ret, lnext_next]
theorem rot_law (f : Nat → List Vl) (N a m b : Nat) (c0 : List PV) (rest : List (List PV)) (toks : List (Nat × Nat × TypeId)) (tys : List TypeId) (h0 : a < m) (h1 : m < b) (h2 : b ≤ N) (hN : N ≤ 9223372036854775807) :
    rot_W 0 N a m b c0 (oA cV f N) rest toks tys = some (.tup [], ⟨c0 :: oA cV (rotR f a m b) N :: rest, toks, 82 :: 1000023 :: tys⟩) ∧ Mv f (rotR f a m b) a b := by
  obtain ⟨i', f', b1, b2, b3, b4, b5⟩ := rot_loop f N m a b c0 rest toks tys (by omega) (by omega) h2 hN (b - a) (m - a) (b - m) f (by omega) (by omega) (by omega) (by omega) (by omega) (Mv.refl _ _ _) (by
    have e1 : m - (m - a) = a := by omega
    have e2 : m + (b - m) = b := by omega
    rw [e1, e2])
  obtain ⟨a1, a2⟩ := swp_is f' N (m - i') m i' c0 rest toks tys (by omega) (by omega) hN
  have e : swR f' (m - i') m i' = rotR f a m b := by rw [rotR_same f' (by omega), b5]
  have hw : rot1_W 0 N m ((m - a : Nat) : Int) ((b - m : Nat) : Int) c0 (oA cV f N) rest toks tys = some (.exit 0, [.osl 1 0 N 1, .int .i64 m, .fn 16 [], .int .i64 i'], ⟨c0 :: oA cV f' N :: rest, toks, 82 :: 1000023 :: tys⟩) := b1
  constructor
  · unfold rot_W rot_Tr
    simp only [sub_N (a := m) (b := a) (by omega) (by omega), sub_N (a := b) (b := m) (by omega) (by omega)]
    have g1 : rot1_i 0 N m ((m - a : Nat) : Int) ((b - m : Nat) : Int) c0 (oA cV f N) rest toks tys = (i' : Int) := by simp [rot1_i, hw, gOut, gInt]
    have g2 : rot1_l2 0 N m ((m - a : Nat) : Int) ((b - m : Nat) : Int) c0 (oA cV f N) rest toks tys = oA cV f' N := by simp [rot1_l2, hw, gObj]
    have g3 : rot1_is0 0 N m ((m - a : Nat) : Int) ((b - m : Nat) : Int) c0 (oA cV f N) rest toks tys = true := by simp [rot1_is0, g1, g2, hw]
    rw [g3, g1, g2, sub_N (a := m) (b := i') (by omega) (by omega), a1, a2, e]
    rfl
  · rw [← e]
    exact b4.trans (swR_mv f' (by omega) (by omega) (by omega))
theorem rot_is (f : Nat → List Vl) (N a m b : Nat) (c0 : List PV) (rest : List (List PV)) (toks : List (Nat × Nat × TypeId)) (tys : List TypeId) (h0 : a < m) (h1 : m < b) (h2 : b ≤ N) (hN : N ≤ 9223372036854775807) :
    rot_is0 0 N a m b c0 (oA cV f N) rest toks tys = true ∧ rot_l2 0 N a m b c0 (oA cV f N) rest toks tys = oA cV (rotR f a m b) N := by
  have h := (rot_law f N a m b c0 rest toks tys h0 h1 h2 hN).1
  simp [rot_is0, rot_l2, h, gObj, asOut]

/-! ### one after the other put at its place -/
abbrev cT : List Vl → List Vl → Int := cmpT cmpVl
theorem iLt_0 (x : Int) : iLt x 0 = decide (x < 0) := rfl
theorem cmpTV_cT (x y : List Vl) : cmpTV (rOf cV x) (rOf cV y) = cT x y := by simp [cmpTV, cT]
theorem ins_in (f0 : Nat → List Vl) (T : Tot cT) (N a b i : Nat) (c0 : List PV) (rest : List (List PV)) (toks : List (Nat × Nat × TypeId)) (tys : List TypeId) (hi : i < N) (hN : N ≤ 9223372036854775807) :
    ∀ j : Nat, ∀ f : Nat → List Vl, a ≤ j → j ≤ i → SrtX cT f a (i + 1) j → Mv f0 f a (i + 1) →
    ∃ f', ins2_V [.osl 1 0 N 1, .int .i64 a, .int .i64 b, .fn 16 [], .int .i64 i, .int .i64 j] ⟨c0 :: oA cV f N :: rest, toks, 82 :: 1000023 :: tys⟩ =
      some (.exit 2, [.osl 1 0 N 1, .int .i64 a, .int .i64 b, .fn 16 [], .int .i64 i], ⟨c0 :: oA cV f' N :: rest, toks, 82 :: 1000023 :: tys⟩) ∧ Srt cT f' a (i + 1) ∧ Mv f0 f' a (i + 1) := by
  intro j
  induction j with
  | zero =>
    intro f h1 h2 h3 h4
    have e : a = 0 := by omega
    subst e
    refine ⟨f, ?_, h3.done0, h4⟩
    rw [ins2_E]
    simp [ins2_Tr, iLt_N]
  | succ j ih =>
    intro f h1 h2 h3 h4
    by_cases e : a = j + 1
    · subst e
      refine ⟨f, ?_, h3.done0, h4⟩
      rw [ins2_E]
      simp [ins2_Tr, iLt_N]
    · have k1 : j + 1 < N := by omega
      have k2 : j < N := by omega
      have k3 : a < j + 1 := by omega
      by_cases hc : cT (f (j + 1)) (f j) < 0
      · obtain ⟨f', b1, b2, b3⟩ := ih (upd (upd f (j + 1) (f j)) j (f (j + 1))) (by omega) (by omega) (h3.step (j := j + 1) (by omega) (by omega) hc) (h4.trans (Mv.swap f (by omega) (by omega) (by omega) (by omega)))
        refine ⟨f', ?_, b2, b3⟩
        rw [← b1, ins2_E]
        unfold ins2_Tr
        simp only [iLt_N, iLt_0, sub_N1 (a := j + 1) (by omega) (by omega), Nat.add_sub_cancel, okIx_N, nNat_N, pOff_01, okCell_oA cV k1, okCell_oA cV k2, cRow_oA cV k1, cRow_oA cV k2, putC_oA cV _ k1, putC_oA cV _ k2, okOff_oA cV k1, okOff_oA cV k2, lockLL_rOf, okR_of, cmpTV_cT, hc, k1, k2, k3, decide_true, Tr.run_ite, if_true, Tr.run_ret, lnext_next]
      · refine ⟨f, ?_, h3.done T (by omega) (by omega) (by simpa using hc), h4⟩
        rw [ins2_E]
        unfold ins2_Tr
        simp only [iLt_N, iLt_0, sub_N1 (a := j + 1) (by omega) (by omega), Nat.add_sub_cancel, okIx_N, nNat_N, pOff_01, okCell_oA cV k1, okCell_oA cV k2, cRow_oA cV k1, cRow_oA cV k2, lockLL_rOf, okR_of, cmpTV_cT, hc, k1, k2, k3, decide_true, decide_false, Bool.false_eq_true, Tr.run_ite, if_true, if_false, Tr.run_ret, lnext_out]
theorem ins_out (f0 : Nat → List Vl) (T : Tot cT) (N a b : Nat) (c0 : List PV) (rest : List (List PV)) (toks : List (Nat × Nat × TypeId)) (tys : List TypeId) (hb : b ≤ N) (hN : N < 9223372036854775807) :
    ∀ k i : Nat, ∀ f : Nat → List Vl, i + k = b → a < i → Srt cT f a i → Mv f0 f a b →
    ∃ f', ins1_V [.osl 1 0 N 1, .int .i64 a, .int .i64 b, .fn 16 [], .int .i64 i] ⟨c0 :: oA cV f N :: rest, toks, 82 :: 1000023 :: tys⟩ =
      some (.exit 0, [], ⟨c0 :: oA cV f' N :: rest, toks, 82 :: 1000023 :: tys⟩) ∧ Srt cT f' a b ∧ Mv f0 f' a b := by
  intro k
  induction k with
  | zero =>
    intro i f h1 h2 h3 h4
    have e : i = b := by omega
    subst e
    refine ⟨f, ?_, h3, h4⟩
    rw [ins1_E]
    simp [ins1_Tr, iLt_N]
  | succ k ih =>
    intro i f h1 h2 h3 h4
    obtain ⟨f1, b1, b2, b3⟩ := ins_in f T N a b i c0 rest toks tys (by omega) (by omega) i f (by omega) (by omega) (SrtX.init h3) (Mv.refl _ _ _)
    obtain ⟨f2, c1, c2, c3⟩ := ih (i + 1) f1 (by omega) (by omega) b2 (h4.trans (b3.mono (Nat.le_refl _) (by omega)))
    refine ⟨f2, ?_, c2, c3⟩
    have hw : ins2_W 0 N a b i i c0 (oA cV f N) rest toks tys = some (.exit 2, [.osl 1 0 N 1, .int .i64 a, .int .i64 b, .fn 16 [], .int .i64 i], ⟨c0 :: oA cV f1 N :: rest, toks, 82 :: 1000023 :: tys⟩) := b1
    have g1 : ins2_l2 0 N a b i i c0 (oA cV f N) rest toks tys = oA cV f1 N := by simp [ins2_l2, hw, gObj]
    have g2 : ins2_is0 0 N a b i i c0 (oA cV f N) rest toks tys = true := by simp [ins2_is0, g1, hw]
    have k1 : i < b := by omega
    rw [ins1_E, ← c1]
    unfold ins1_Tr
    simp only [iLt_N, g1, g2, k1, add_N1 (a := i) (by omega), decide_true, Tr.run_ite, if_true, Tr.run_ret, lnext_next]
theorem ins_law (f : Nat → List Vl) (T : Tot cT) (N a b : Nat) (c0 : List PV) (rest : List (List PV)) (toks : List (Nat × Nat × TypeId)) (tys : List TypeId) (hb : b ≤ N) (ha : a ≤ N) (hN : N < 9223372036854775807) :
    ∃ f', ins_is0 0 N a b c0 (oA cV f N) rest toks tys = true ∧ ins_l2 0 N a b c0 (oA cV f N) rest toks tys = oA cV f' N ∧ Srt cT f' a b ∧ Mv f f' a b := by
  have key : ∃ f', ins1_W 0 N a b ((a + 1 : Nat) : Int) c0 (oA cV f N) rest toks tys = some (.exit 0, [], ⟨c0 :: oA cV f' N :: rest, toks, 82 :: 1000023 :: tys⟩) ∧ Srt cT f' a b ∧ Mv f f' a b := by
    by_cases e : a + 1 ≤ b
    · exact ins_out f T N a b c0 rest toks tys hb hN (b - (a + 1)) (a + 1) f (by omega) (by omega) (Srt.one f a) (Mv.refl _ _ _)
    · refine ⟨f, ?_, fun p q _ _ _ => by omega, Mv.refl _ _ _⟩
      unfold ins1_W
      rw [ins1_E]
      have : ¬ a + 1 < b := by omega
      unfold ins1_Tr
      simp only [iLt_N, this, decide_false, Bool.false_eq_true, Tr.run_ite, if_false, Tr.run_ret, lnext_out]
  obtain ⟨f', h, h2, h3⟩ := key
  have hw : ins_W 0 N a b c0 (oA cV f N) rest toks tys = some (.tup [], ⟨c0 :: oA cV f' N :: rest, toks, 82 :: 1000023 :: tys⟩) := by
    unfold ins_W ins_Tr
    simp only [add_N1 (a := a) (by omega)]
    have g1 : ins1_l2 0 N a b ((a + 1 : Nat) : Int) c0 (oA cV f N) rest toks tys = oA cV f' N := by rw [ins1_l2, h]; rfl
    have g2 : ins1_is0 0 N a b ((a + 1 : Nat) : Int) c0 (oA cV f N) rest toks tys = true := by rw [ins1_is0, g1, h]; simp
    simp only [g1, g2, Tr.run_ite, if_true, Tr.run_ret]
  exact ⟨f', by simp [ins_is0, ins_l2, hw, gObj, asOut], by simp [ins_l2, hw, gObj, asOut], h2, h3⟩
end Go.Pv

set_option maxHeartbeats 8000000
set_option maxRecDepth 200000
set_option linter.unusedSimpArgs false
set_option linter.unusedVariables false
/-! What a merge in place makes of a row whose two ranges are in order. -/
namespace Go.Pv
open Go Go.Proofs
section
variable [RecW]
variable (c0 : List PV) (rest : List (List PV)) (toks : List (Nat × Nat × TypeId)) (tys : List TypeId)
abbrev sT (f : Nat → List Vl) (N : Nat) : Store := ⟨c0 :: oA cV f N :: rest, toks, 82 :: 1000023 :: tys⟩
theorem sym1_law (f : Nat → List Vl) (T : Tot cT) (N a b : Nat) (hb : b ≤ N) (hab : a + 1 ≤ b) (hN : N ≤ 4611686018427387903) (hB : Srt cT f (a + 1) b) :
    ∃ i' : Nat, sym1_V [.osl 1 0 N 1, .int .i64 a, .fn 16 [], .int .i64 ((a + 1 : Nat) : Int), .int .i64 b] (sT c0 rest toks tys f N) = some (.exit 0, [.osl 1 0 N 1, .int .i64 a, .int .i64 i'], sT c0 rest toks tys f N) ∧
      a + 1 ≤ i' ∧ i' ≤ b ∧ (∀ p, a + 1 ≤ p → p < i' → cT (f p) (f a) < 0) ∧ (∀ p, i' ≤ p → p < b → ¬ cT (f p) (f a) < 0) := by
  refine halves (fun i j => sym1_V [.osl 1 0 N 1, .int .i64 a, .fn 16 [], .int .i64 i, .int .i64 j] (sT c0 rest toks tys f N)) (fun i' => some (.exit 0, [.osl 1 0 N 1, .int .i64 a, .int .i64 i'], sT c0 rest toks tys f N)) (fun p => cT (f p) (f a) < 0) (a + 1) b ?_ ?_ ?_ (b - (a + 1)) (a + 1) b (by omega) (by omega) (by omega) (by omega) (fun p _ _ => by omega) (fun p _ _ => by omega)
  · intro i j h1 h2 h3
    have k1 : (i + j) / 2 < N := by omega
    have k2 : a < N := by omega
    constructor
    · intro q
      simp only [sT]
      rw [sym1_E]
      unfold sym1_Tr
      simp only [iLt_N, iLt_0, half_N (a := i) (b := j) (by omega), add_N1 (a := (i + j) / 2) (by omega), okIx_N, nNat_N, pOff_01, okCell_oA cV k1, okCell_oA cV k2, cRow_oA cV k1, cRow_oA cV k2, lockLL_rOf, okR_of, cmpTV_cT, q, k1, k2, h2, decide_true, Tr.run_ite, if_true, Tr.run_ret, lnext_next]
    · intro q
      simp only [sT]
      rw [sym1_E]
      unfold sym1_Tr
      simp only [iLt_N, iLt_0, half_N (a := i) (b := j) (by omega), add_N1 (a := (i + j) / 2) (by omega), okIx_N, nNat_N, pOff_01, okCell_oA cV k1, okCell_oA cV k2, cRow_oA cV k1, cRow_oA cV k2, lockLL_rOf, okR_of, cmpTV_cT, q, k1, k2, h2, decide_true, decide_false, Bool.false_eq_true, if_false, Tr.run_ite, if_true, Tr.run_ret, lnext_next]
  · intro i h1 h2
    simp only [sT]
    rw [sym1_E]
    unfold sym1_Tr
    simp only [iLt_N, Nat.lt_irrefl, decide_false, Bool.false_eq_true, if_false, Tr.run_ite, Tr.run_ret, lnext_out]
  · intro p q h1 h2 h3 h4
    exact T.le_lt_trans (hB p q h1 h2 h3) h4
theorem sym3_law (f : Nat → List Vl) (T : Tot cT) (N a m : Nat) (hb : m < N) (hab : a ≤ m) (hN : N ≤ 4611686018427387903) (hA : Srt cT f a m) :
    ∃ i' : Nat, sym3_V [.osl 1 0 N 1, .int .i64 m, .fn 16 [], .int .i64 a, .int .i64 m] (sT c0 rest toks tys f N) = some (.exit 4, [.osl 1 0 N 1, .int .i64 m, .int .i64 i'], sT c0 rest toks tys f N) ∧
      a ≤ i' ∧ i' ≤ m ∧ (∀ p, a ≤ p → p < i' → ¬ cT (f m) (f p) < 0) ∧ (∀ p, i' ≤ p → p < m → ¬ ¬ cT (f m) (f p) < 0) := by
  refine halves (fun i j => sym3_V [.osl 1 0 N 1, .int .i64 m, .fn 16 [], .int .i64 i, .int .i64 j] (sT c0 rest toks tys f N)) (fun i' => some (.exit 4, [.osl 1 0 N 1, .int .i64 m, .int .i64 i'], sT c0 rest toks tys f N)) (fun p => ¬ cT (f m) (f p) < 0) a m ?_ ?_ ?_ (m - a) a m (by omega) (by omega) (by omega) (by omega) (fun p _ _ => by omega) (fun p _ _ => by omega)
  · intro i j h1 h2 h3
    have k1 : (i + j) / 2 < N := by omega
    constructor
    · intro q
      simp only [sT]
      rw [sym3_E]
      unfold sym3_Tr
      simp only [iLt_N, iLt_0, half_N (a := i) (b := j) (by omega), add_N1 (a := (i + j) / 2) (by omega), okIx_N, nNat_N, pOff_01, okCell_oA cV k1, okCell_oA cV hb, cRow_oA cV k1, cRow_oA cV hb, lockLL_rOf, okR_of, cmpTV_cT, q, k1, hb, h2, decide_true, decide_false, bNot_eq, Bool.not_false, Tr.run_ite, if_true, Tr.run_ret, lnext_next]
    · intro q
      have q' : cT (f m) (f ((i + j) / 2)) < 0 := Decidable.byContradiction q
      simp only [sT]
      rw [sym3_E]
      unfold sym3_Tr
      simp only [iLt_N, iLt_0, half_N (a := i) (b := j) (by omega), add_N1 (a := (i + j) / 2) (by omega), okIx_N, nNat_N, pOff_01, okCell_oA cV k1, okCell_oA cV hb, cRow_oA cV k1, cRow_oA cV hb, lockLL_rOf, okR_of, cmpTV_cT, q', k1, hb, h2, decide_true, decide_false, bNot_eq, Bool.not_true, Bool.false_eq_true, if_false, Tr.run_ite, if_true, Tr.run_ret, lnext_next]
  · intro i h1 h2
    simp only [sT]
    rw [sym3_E]
    unfold sym3_Tr
    simp only [iLt_N, Nat.lt_irrefl, decide_false, Bool.false_eq_true, if_false, Tr.run_ite, Tr.run_ret, lnext_out]
  · intro p q h1 h2 h3 h4 h5
    exact h4 (T.lt_le_trans h5 (hA p q h1 h2 h3))
theorem sym5_law (f : Nat → List Vl) (T : Tot cT) (N a m b mid n lo hi : Nat) (hlh : lo ≤ hi) (hA : Srt cT f lo hi) (hB : ∀ p q, lo ≤ p → p < q → q < hi → cT (f (n - q)) (f (n - p)) ≤ 0) (hn : hi ≤ n + 1) (hnN : n - lo < N) (hhN : hi ≤ N) (hN : N ≤ 4611686018427387903) (hn2 : n ≤ 9223372036854775807) (n4 n5 : Int) :
    ∃ i' : Nat, sym5_V [.osl 1 0 N 1, .int .i64 a, .int .i64 m, .int .i64 b, .fn 16 [], .int .i64 n4, .int .i64 n5, .int .i64 lo, .int .i64 hi, .int .i64 n] (sT c0 rest toks tys f N) =
        some (.exit 8, [.osl 1 0 N 1, .int .i64 a, .int .i64 m, .int .i64 b, .fn 16 [], .int .i64 n4, .int .i64 n5, .int .i64 i'], sT c0 rest toks tys f N) ∧
      lo ≤ i' ∧ i' ≤ hi ∧ (∀ p, lo ≤ p → p < i' → ¬ cT (f (n - p)) (f p) < 0) ∧ (∀ p, i' ≤ p → p < hi → ¬ ¬ cT (f (n - p)) (f p) < 0) := by
  refine halves (fun i j => sym5_V [.osl 1 0 N 1, .int .i64 a, .int .i64 m, .int .i64 b, .fn 16 [], .int .i64 n4, .int .i64 n5, .int .i64 i, .int .i64 j, .int .i64 n] (sT c0 rest toks tys f N)) (fun i' => some (.exit 8, [.osl 1 0 N 1, .int .i64 a, .int .i64 m, .int .i64 b, .fn 16 [], .int .i64 n4, .int .i64 n5, .int .i64 i'], sT c0 rest toks tys f N)) (fun p => ¬ cT (f (n - p)) (f p) < 0) lo hi ?_ ?_ ?_ (hi - lo) lo hi (by omega) (by omega) (by omega) (by omega) (fun p _ _ => by omega) (fun p _ _ => by omega)
  · intro i j h1 h2 h3
    have k1 : (i + j) / 2 < N := by omega
    have k2 : n - (i + j) / 2 < N := by omega
    constructor
    · intro q
      simp only [sT]
      rw [sym5_E]
      unfold sym5_Tr
      simp only [iLt_N, iLt_0, half_N (a := i) (b := j) (by omega), add_N1 (a := (i + j) / 2) (by omega), sub_N (a := n) (b := (i + j) / 2) (by omega) hn2, okIx_N, nNat_N, pOff_01, okCell_oA cV k1, okCell_oA cV k2, cRow_oA cV k1, cRow_oA cV k2, lockLL_rOf, okR_of, cmpTV_cT, q, k1, k2, h2, decide_true, decide_false, bNot_eq, Bool.not_false, Tr.run_ite, if_true, Tr.run_ret, lnext_next]
    · intro q
      have q' : cT (f (n - (i + j) / 2)) (f ((i + j) / 2)) < 0 := Decidable.byContradiction q
      simp only [sT]
      rw [sym5_E]
      unfold sym5_Tr
      simp only [iLt_N, iLt_0, half_N (a := i) (b := j) (by omega), add_N1 (a := (i + j) / 2) (by omega), sub_N (a := n) (b := (i + j) / 2) (by omega) hn2, okIx_N, nNat_N, pOff_01, okCell_oA cV k1, okCell_oA cV k2, cRow_oA cV k1, cRow_oA cV k2, lockLL_rOf, okR_of, cmpTV_cT, q', k1, k2, h2, decide_true, decide_false, bNot_eq, Bool.not_true, Bool.false_eq_true, if_false, Tr.run_ite, if_true, Tr.run_ret, lnext_next]
  · intro i h1 h2
    simp only [sT]
    rw [sym5_E]
    unfold sym5_Tr
    simp only [iLt_N, Nat.lt_irrefl, decide_false, Bool.false_eq_true, if_false, Tr.run_ite, Tr.run_ret, lnext_out]
  · intro p q h1 h2 h3 h4 h5
    exact h4 (T.le_lt_trans (hB p q h1 h2 h3) (T.lt_le_trans h5 (hA p q h1 h2 h3)))

omit [RecW] in
theorem shl_0 (f : Nat → List Vl) (a : Nat) : (fun p => if a ≤ p ∧ p < a then f (p + 1) else if p = a then f a else f p) = f := by
  funext p
  repeat' split
  all_goals first | rfl | omega | (congr 1; omega)
omit [RecW] in
theorem shr_0 (f : Nat → List Vl) (m : Nat) : (fun p => if m < p ∧ p ≤ m then f (p - 1) else if p = m then f m else f p) = f := by
  funext p
  repeat' split
  all_goals first | rfl | omega | (congr 1; omega)
theorem sym2_law (f : Nat → List Vl) (N a b i : Nat) (hi : i < N) (hib : i < b) (hN : N ≤ 4611686018427387903) : ∀ d k : Nat, k + d = i → a ≤ k → ∀ g, g = (fun p => if a ≤ p ∧ p < k then f (p + 1) else if p = k then f a else f p) → Mv f g a b →
    sym2_V [.osl 1 0 N 1, .int .i64 ((i + 1 : Nat) : Int), .int .i64 k] (sT c0 rest toks tys g N) = some (.exit 2, [], sT c0 rest toks tys (fun p => if a ≤ p ∧ p < i then f (p + 1) else if p = i then f a else f p) N) ∧ Mv f (fun p => if a ≤ p ∧ p < i then f (p + 1) else if p = i then f a else f p) a b := by
  intro d
  induction d with
  | zero =>
    intro k h1 h2 g hg hm
    have e : k = i := by omega
    subst e
    subst hg
    refine ⟨?_, hm⟩
    simp only [sT]
    rw [sym2_E]
    unfold sym2_Tr
    simp only [iLt_N, sub_N1 (a := k + 1) (by omega) (by omega), Nat.add_sub_cancel, Nat.lt_irrefl, decide_false, Bool.false_eq_true, if_false, Tr.run_ite, Tr.run_ret, lnext_out]
  | succ d ih =>
    intro k h1 h2 g hg hm
    have k1 : k < N := by omega
    have k2 : k + 1 < N := by omega
    have k3 : k < i := by omega
    have hs := shl_step hg h2
    obtain ⟨c1, c2⟩ := ih (k + 1) (by omega) (by omega) _ hs (hm.trans (Mv.swap g (by omega) (by omega) (by omega) (by omega)))
    refine ⟨?_, c2⟩
    rw [← c1]
    simp only [sT]
    rw [sym2_E]
    unfold sym2_Tr
    simp only [iLt_N, add_N1 (a := k) (by omega), sub_N1 (a := i + 1) (by omega) (by omega), Nat.add_sub_cancel, okIx_N, nNat_N, pOff_01, okCell_oA cV k1, okCell_oA cV k2, cRow_oA cV k1, cRow_oA cV k2, putC_oA cV _ k1, putC_oA cV _ k2, okOff_oA cV k1, okOff_oA cV k2, k1, k2, k3, decide_true, Tr.run_ite, if_true, Tr.run_ret, lnext_next]
theorem sym4_law (f : Nat → List Vl) (N a m i : Nat) (hm0 : m < N) (hi : a ≤ i) (hN : N ≤ 4611686018427387903) : ∀ d k : Nat, i + d = k → k ≤ m → ∀ g, g = (fun p => if k < p ∧ p ≤ m then f (p - 1) else if p = k then f m else f p) → Mv f g a (m + 1) →
    sym4_V [.osl 1 0 N 1, .int .i64 i, .int .i64 k] (sT c0 rest toks tys g N) = some (.exit 6, [], sT c0 rest toks tys (fun p => if i < p ∧ p ≤ m then f (p - 1) else if p = i then f m else f p) N) ∧ Mv f (fun p => if i < p ∧ p ≤ m then f (p - 1) else if p = i then f m else f p) a (m + 1) := by
  intro d
  induction d with
  | zero =>
    intro k h1 h2 g hg hm
    have e : k = i := by omega
    subst e
    subst hg
    refine ⟨?_, hm⟩
    simp only [sT]
    rw [sym4_E]
    unfold sym4_Tr
    simp only [iLt_N, Nat.lt_irrefl, decide_false, Bool.false_eq_true, if_false, Tr.run_ite, Tr.run_ret, lnext_out]
  | succ d ih =>
    intro k h1 h2 g hg hm
    have k1 : k < N := by omega
    have k2 : k - 1 < N := by omega
    have k3 : i < k := by omega
    have hs := shr_step hg (by omega) h2
    obtain ⟨c1, c2⟩ := ih (k - 1) (by omega) (by omega) _ hs (hm.trans (Mv.swap g (by omega) (by omega) (by omega) (by omega)))
    refine ⟨?_, c2⟩
    rw [← c1]
    simp only [sT]
    rw [sym4_E]
    unfold sym4_Tr
    simp only [iLt_N, sub_N1 (a := k) (by omega) (by omega), okIx_N, nNat_N, pOff_01, okCell_oA cV k1, okCell_oA cV k2, cRow_oA cV k1, cRow_oA cV k2, putC_oA cV _ k1, putC_oA cV _ k2, okOff_oA cV k1, okOff_oA cV k2, k1, k2, k3, decide_true, Tr.run_ite, if_true, Tr.run_ret, lnext_next]
/-- What a merge does. -/
def Merges (N : Nat) (k : Nat) : Prop := ∀ (f : Nat → List Vl) (a m b : Nat), a < m → m < b → b ≤ N → b - a ≤ k → Srt cT f a m → Srt cT f m b →
  ∃ f', RecW.W 0 N a m b c0 (oA cV f N) rest toks tys = some (.tup [], sT c0 rest toks tys f' N) ∧ Srt cT f' a b ∧ Mv f f' a b
theorem rec_is {N k : Nat} (h : Merges c0 rest toks tys N k) (f : Nat → List Vl) (a m b : Nat) (h1 : a < m) (h2 : m < b) (h3 : b ≤ N) (h4 : b - a ≤ k) (hA : Srt cT f a m) (hB : Srt cT f m b) :
    ∃ f', rec_is0 0 N a m b c0 (oA cV f N) rest toks tys = true ∧ rec_l 0 N a m b c0 (oA cV f N) rest toks tys = oA cV f' N ∧ Srt cT f' a b ∧ Mv f f' a b := by
  obtain ⟨f', c1, c2, c3⟩ := h f a m b h1 h2 h3 h4 hA hB
  have e : rec_l 0 N a m b c0 (oA cV f N) rest toks tys = oA cV f' N := by simp [rec_l, c1, sT, gObj, asOut]
  exact ⟨f', by simp [rec_is0, e, c1, sT], e, c2, c3⟩

noncomputable def mgR (l : List PV) : Tr (PV × Store) := .ret (.tup [], ⟨c0 :: l :: rest, toks, 82 :: 1000023 :: tys⟩)
noncomputable def mg2 (N : Nat) (mid en b : Int) (l : List PV) : Tr (PV × Store) :=
  .ite (iLt mid en) (.ite (iLt en b) (.ite (rec_is0 0 N mid en b c0 l rest toks tys) (mgR c0 rest toks tys (rec_l 0 N mid en b c0 l rest toks tys)) .fail) (mgR c0 rest toks tys l)) (mgR c0 rest toks tys l)
noncomputable def mg1 (N : Nat) (a st mid en b : Int) (l : List PV) : Tr (PV × Store) :=
  .ite (iLt a st) (.ite (iLt st mid) (.ite (rec_is0 0 N a st mid c0 l rest toks tys) (mg2 c0 rest toks tys N mid en b (rec_l 0 N a st mid c0 l rest toks tys)) .fail) (mg2 c0 rest toks tys N mid en b l)) (mg2 c0 rest toks tys N mid en b l)
noncomputable def mg0 (N : Nat) (a st m mid en b : Int) (l : List PV) : Tr (PV × Store) :=
  .ite (iLt st m) (.ite (iLt m en) (.ite (rot_is0 0 N st m en c0 l rest toks tys) (mg1 c0 rest toks tys N a st mid en b (rot_l2 0 N st m en c0 l rest toks tys)) .fail) (mg1 c0 rest toks tys N a st mid en b l)) (mg1 c0 rest toks tys N a st mid en b l)
noncomputable def mgS (N : Nat) (a m b mid n lo hi p : Int) (cs : List PV) : Tr (PV × Store) :=
  .ite (sym5_is0 0 N a m b mid n lo hi p c0 cs rest toks tys) (mg0 c0 rest toks tys N a (sym5_n6 0 N a m b mid n lo hi p c0 cs rest toks tys) m mid (iSub .i64 n (sym5_n6 0 N a m b mid n lo hi p c0 cs rest toks tys)) b (sym5_l2 0 N a m b mid n lo hi p c0 cs rest toks tys)) .fail
noncomputable def mgM (N : Nat) (a m b mid n : Int) (cs : List PV) : Tr (PV × Store) :=
  .ite (iLt mid m) (mgS c0 rest toks tys N a m b mid n (iSub .i64 n b) mid (iSub .i64 n 1) cs) (mgS c0 rest toks tys N a m b mid n a m (iSub .i64 n 1) cs)
noncomputable def mgA (N : Nat) (a m b : Int) (cs : List PV) : Tr (PV × Store) :=
  .ite (sym1_is0 0 N a m b c0 cs rest toks tys) (.ite (sym2_is0 0 N (sym1_n2 0 N a m b c0 cs rest toks tys) a c0 (sym1_l2 0 N a m b c0 cs rest toks tys) rest toks tys) (mgR c0 rest toks tys (sym2_l2 0 N (sym1_n2 0 N a m b c0 cs rest toks tys) a c0 (sym1_l2 0 N a m b c0 cs rest toks tys) rest toks tys)) .fail) .fail
noncomputable def mgB (N : Nat) (a m : Int) (cs : List PV) : Tr (PV × Store) :=
  .ite (sym3_is0 0 N m a m c0 cs rest toks tys) (.ite (sym4_is0 0 N (sym3_n2 0 N m a m c0 cs rest toks tys) m c0 (sym3_l2 0 N m a m c0 cs rest toks tys) rest toks tys) (mgR c0 rest toks tys (sym4_l2 0 N (sym3_n2 0 N m a m c0 cs rest toks tys) m c0 (sym3_l2 0 N m a m c0 cs rest toks tys) rest toks tys)) .fail) .fail
theorem sym_parts (N : Nat) (a m b : Int) (cs : List PV) : sym_Tr 0 N a m b c0 cs rest toks tys =
    .ite (iEq (iSub .i64 m a) 1) (mgA c0 rest toks tys N a m b cs) (.ite (iEq (iSub .i64 b m) 1) (mgB c0 rest toks tys N a m cs)
      (mgM c0 rest toks tys N a m b (iWrap .i64 (iShr .u64 (iWrap .u64 (iAdd .i64 a b)) 1)) (iAdd .i64 (iWrap .i64 (iShr .u64 (iWrap .u64 (iAdd .i64 a b)) 1)) m) cs)) := rfl
theorem mg2_law {N k : Nat} (h : Merges c0 rest toks tys N k) (f : Nat → List Vl) (mid en b : Nat) (h1 : mid ≤ en) (h2 : en ≤ b) (h3 : b ≤ N) (h4 : b - mid ≤ k) (hA : Srt cT f mid en) (hB : Srt cT f en b) :
    ∃ f', (mg2 c0 rest toks tys N mid en b (oA cV f N)).run = some (.tup [], sT c0 rest toks tys f' N) ∧ Srt cT f' mid b ∧ Mv f f' mid b := by
  by_cases c1 : mid < en
  · by_cases c2 : en < b
    · obtain ⟨f', e1, e2, e3, e4⟩ := rec_is c0 rest toks tys h f mid en b c1 c2 h3 h4 hA hB
      refine ⟨f', ?_, e3, e4⟩
      simp only [mg2, mgR, sT, iLt_N, c1, c2, e1, e2, decide_true, Tr.run_ite, if_true, Tr.run_ret]
    · have e : en = b := by omega
      subst e
      refine ⟨f, ?_, hA, Mv.refl _ _ _⟩
      simp only [mg2, mgR, sT, iLt_N, c1, c2, decide_true, decide_false, Bool.false_eq_true, if_false, Tr.run_ite, if_true, Tr.run_ret]
  · have e : mid = en := by omega
    subst e
    refine ⟨f, ?_, hB, Mv.refl _ _ _⟩
    simp only [mg2, mgR, sT, iLt_N, c1, decide_true, decide_false, Bool.false_eq_true, if_false, Tr.run_ite, if_true, Tr.run_ret]
theorem mg1_law {N k : Nat} (h : Merges c0 rest toks tys N k) (f : Nat → List Vl) (a st mid en b : Nat) (h0 : a ≤ st) (h00 : st ≤ mid) (h1 : mid ≤ en) (h2 : en ≤ b) (h3 : b ≤ N) (h4 : b - mid ≤ k) (h5 : mid - a ≤ k)
    (hA1 : Srt cT f a st) (hA2 : Srt cT f st mid) (hB1 : Srt cT f mid en) (hB2 : Srt cT f en b) (hx : ∀ p q, a ≤ p → p < mid → mid ≤ q → q < b → cT (f p) (f q) ≤ 0) :
    ∃ f', (mg1 c0 rest toks tys N a st mid en b (oA cV f N)).run = some (.tup [], sT c0 rest toks tys f' N) ∧ Srt cT f' a b ∧ Mv f f' a b := by
  have key : ∃ f1, (mg1 c0 rest toks tys N a st mid en b (oA cV f N)).run = (mg2 c0 rest toks tys N mid en b (oA cV f1 N)).run ∧ Srt cT f1 a mid ∧ Mv f f1 a mid := by
    by_cases c1 : a < st
    · by_cases c2 : st < mid
      · obtain ⟨f', e1, e2, e3, e4⟩ := rec_is c0 rest toks tys h f a st mid c1 c2 (by omega) h5 hA1 hA2
        refine ⟨f', ?_, e3, e4⟩
        simp only [mg1, iLt_N, c1, c2, e1, e2, decide_true, Tr.run_ite, if_true]
      · have e : st = mid := by omega
        subst e
        refine ⟨f, ?_, hA1, Mv.refl _ _ _⟩
        simp only [mg1, iLt_N, c1, c2, decide_true, decide_false, Bool.false_eq_true, if_false, Tr.run_ite, if_true]
    · have e : a = st := by omega
      subst e
      refine ⟨f, ?_, hA2, Mv.refl _ _ _⟩
      simp only [mg1, iLt_N, c1, decide_true, decide_false, Bool.false_eq_true, if_false, Tr.run_ite, if_true]
  obtain ⟨f1, e1, s1, m1⟩ := key
  obtain ⟨f2, e2, s2, m2⟩ := mg2_law c0 rest toks tys h f1 mid en b h1 h2 h3 h4 (hB1.congr fun p hp _ => m1.out (by omega)) (hB2.congr fun p hp _ => m1.out (by omega))
  obtain ⟨c1, c2⟩ := merge_done (by omega) (by omega) m1 s1 m2 s2 hx
  exact ⟨f2, e1.trans e2, c1, c2⟩
theorem mg0_law {N k : Nat} (h : Merges c0 rest toks tys N k) (hN : N ≤ 4611686018427387903) (f : Nat → List Vl) (a m b mid st : Nat) (cut : Cut cT f a m b mid st) (hA : Srt cT f a m) (hB : Srt cT f m b) (h1 : a ≤ mid) (h2 : mid ≤ b) (h3 : b ≤ N) (h4 : b - mid ≤ k) (h5 : mid - a ≤ k) :
    ∃ f', (mg0 c0 rest toks tys N a st m mid ((mid + m - st : Nat) : Int) b (oA cV f N)).run = some (.tup [], sT c0 rest toks tys f' N) ∧ Srt cT f' a b ∧ Mv f f' a b := by
  have i1 := cut.am; have i2 := cut.sm; have i3 := cut.smid; have i4 := cut.em; have i5 := cut.eb
  have key : (mg0 c0 rest toks tys N a st m mid ((mid + m - st : Nat) : Int) b (oA cV f N)).run = (mg1 c0 rest toks tys N a st mid ((mid + m - st : Nat) : Int) b (oA cV (rotR f st m (mid + m - st)) N)).run ∧ Mv f (rotR f st m (mid + m - st)) a b := by
    by_cases c1 : st < m
    · by_cases c2 : m < mid + m - st
      · obtain ⟨e1, e2⟩ := rot_is f N st m (mid + m - st) c0 rest toks tys c1 c2 (by omega) (by omega)
        refine ⟨?_, (rot_law f N st m (mid + m - st) c0 rest toks tys c1 c2 (by omega) (by omega)).2.mono (by omega) (by omega)⟩
        simp only [mg0, iLt_N, c1, c2, e1, e2, decide_true, Tr.run_ite, if_true]
      · have e : mid + m - st = m := by omega
        have e' : rotR f st m (mid + m - st) = f := by rw [e]; exact rotR_hi f (by omega)
        rw [e']
        refine ⟨?_, Mv.refl _ _ _⟩
        simp only [mg0, iLt_N, c1, c2, decide_true, decide_false, Bool.false_eq_true, if_false, Tr.run_ite, if_true]
    · have e : st = m := by omega
      subst e
      rw [rotR_lo]
      refine ⟨?_, Mv.refl _ _ _⟩
      simp only [mg0, iLt_N, c1, decide_true, decide_false, Bool.false_eq_true, if_false, Tr.run_ite, if_true]
  obtain ⟨e1, m1⟩ := key
  obtain ⟨f', e2, s2, m2⟩ := mg1_law c0 rest toks tys h (rotR f st m (mid + m - st)) a st mid (mid + m - st) b i1 i3 (by omega) i5 h3 h4 h5 (cut.left1 hA) (cut.left2 hB) (cut.right1 hA) (cut.right2 hB) (fun p q => cut.across hA hB h2 p q)
  exact ⟨f', e1.trans e2, s2, m1.trans m2⟩
theorem sym_step {N k : Nat} (T : Tot cT) (h : Merges c0 rest toks tys N k) (hN : N ≤ 4611686018427387903) (f : Nat → List Vl) (a m b : Nat) (h1 : a < m) (h2 : m < b) (h3 : b ≤ N) (h4 : b - a ≤ k + 1) (hA : Srt cT f a m) (hB : Srt cT f m b) :
    ∃ f', sym_W 0 N a m b c0 (oA cV f N) rest toks tys = some (.tup [], sT c0 rest toks tys f' N) ∧ Srt cT f' a b ∧ Mv f f' a b := by
  unfold sym_W
  rw [sym_parts, sub_N (a := m) (b := a) (by omega) (by omega), sub_N (a := b) (b := m) (by omega) (by omega), iEq_N1, iEq_N1]
  by_cases c1 : m - a = 1
  · have e : m = a + 1 := by omega
    subst e
    obtain ⟨i', e1, l1, l2, l3, l4⟩ := sym1_law c0 rest toks tys f T N a b h3 (by omega) hN hB
    obtain ⟨e2, m2⟩ := sym2_law c0 rest toks tys f N a b (i' - 1) (by omega) (by omega) hN (i' - 1 - a) a (by omega) (Nat.le_refl _) f (shl_0 f a).symm (Mv.refl _ _ _)
    have ei : i' - 1 + 1 = i' := by omega
    rw [ei] at e2
    refine ⟨_, ?_, shl_srt T hB l1 l2 l3 l4, m2⟩
    have w1 : sym1_W 0 N a ((a + 1 : Nat) : Int) b c0 (oA cV f N) rest toks tys = _ := e1
    have g1 : sym1_n2 0 N a ((a + 1 : Nat) : Int) b c0 (oA cV f N) rest toks tys = (i' : Int) := by rw [sym1_n2, w1]; rfl
    have g2 : sym1_l2 0 N a ((a + 1 : Nat) : Int) b c0 (oA cV f N) rest toks tys = oA cV f N := by rw [sym1_l2, w1]; rfl
    have g3 : sym1_is0 0 N a ((a + 1 : Nat) : Int) b c0 (oA cV f N) rest toks tys = true := by rw [sym1_is0, w1, g1, g2]; simp [sT]
    have w2 : sym2_W 0 N i' a c0 (oA cV f N) rest toks tys = _ := e2
    have g4 : sym2_l2 0 N i' a c0 (oA cV f N) rest toks tys = oA cV (fun p => if a ≤ p ∧ p < i' - 1 then f (p + 1) else if p = i' - 1 then f a else f p) N := by rw [sym2_l2, w2]; rfl
    have g5 : sym2_is0 0 N i' a c0 (oA cV f N) rest toks tys = true := by rw [sym2_is0, w2, g4]; simp [sT]
    simp only [c1, decide_true, mgA, mgR, g1, g2, g3, g4, g5, Tr.run_ite, if_true, Tr.run_ret]
  · by_cases c2 : b - m = 1
    · have e : b = m + 1 := by omega
      subst e
      obtain ⟨i', e1, l1, l2, l3, l4⟩ := sym3_law c0 rest toks tys f T N a m (by omega) (by omega) hN hA
      obtain ⟨e2, m2⟩ := sym4_law c0 rest toks tys f N a m i' (by omega) l1 hN (m - i') m (by omega) (Nat.le_refl _) f (shr_0 f m).symm (Mv.refl _ _ _)
      refine ⟨_, ?_, shr_srt T hA l1 l2 l3 (fun p hp hp2 => Decidable.byContradiction (l4 p hp hp2)), m2⟩
      have w1 : sym3_W 0 N m a m c0 (oA cV f N) rest toks tys = _ := e1
      have g1 : sym3_n2 0 N m a m c0 (oA cV f N) rest toks tys = (i' : Int) := by rw [sym3_n2, w1]; rfl
      have g2 : sym3_l2 0 N m a m c0 (oA cV f N) rest toks tys = oA cV f N := by rw [sym3_l2, w1]; rfl
      have g3 : sym3_is0 0 N m a m c0 (oA cV f N) rest toks tys = true := by rw [sym3_is0, w1, g1, g2]; simp [sT]
      have w2 : sym4_W 0 N i' m c0 (oA cV f N) rest toks tys = _ := e2
      have g4 : sym4_l2 0 N i' m c0 (oA cV f N) rest toks tys = oA cV (fun p => if i' < p ∧ p ≤ m then f (p - 1) else if p = i' then f m else f p) N := by rw [sym4_l2, w2]; rfl
      have g5 : sym4_is0 0 N i' m c0 (oA cV f N) rest toks tys = true := by rw [sym4_is0, w2, g4]; simp [sT]
      simp only [c1, c2, decide_true, decide_false, Bool.false_eq_true, if_false, mgB, mgR, g1, g2, g3, g4, g5, Tr.run_ite, if_true, Tr.run_ret]
    · have hmid1 : a ≤ (a + b) / 2 := by omega
      have hmid2 : (a + b) / 2 ≤ b := by omega
      simp only [c1, c2, decide_false, Tr.run_ite, Bool.false_eq_true, if_false, half_N (a := a) (b := b) (by omega), add_N (a := (a + b) / 2) (b := m) (by omega)]
      generalize hmid : (a + b) / 2 = mid at hmid1 hmid2 ⊢
      have main : ∀ lo hi : Nat, lo = (if mid < m then mid + m - b else a) → hi = (if mid < m then mid else m) →
          ∃ f', (mgS c0 rest toks tys N a m b mid ((mid + m : Nat) : Int) lo hi ((mid + m - 1 : Nat) : Int) (oA cV f N)).run = some (.tup [], sT c0 rest toks tys f' N) ∧ Srt cT f' a b ∧ Mv f f' a b := by
        intro lo hi hlo hhi
        have e1 : a ≤ lo := by rw [hlo]; split <;> omega
        have e2 : hi ≤ m := by rw [hhi]; split <;> omega
        have e3 : hi ≤ mid := by rw [hhi]; split <;> omega
        have e4 : mid + m - lo ≤ b := by rw [hlo]; split <;> omega
        have e5 : lo ≤ hi := by rw [hlo, hhi]; split <;> omega
        obtain ⟨st, w, l1, l2, l3, l4⟩ := sym5_law c0 rest toks tys f T N a m b mid (mid + m - 1) lo hi e5 (hA.sub e1 e2) (fun p q hp hq hh => hB _ _ (by omega) (by omega) (by omega)) (by omega) (by omega) (by omega) hN (by omega) mid ((mid + m : Nat) : Int)
        have cut := Cut.of T hA hB h1 h2 hmid.symm hlo hhi l1 l2 l3 (fun p hp hp2 => Decidable.byContradiction (l4 p hp hp2))
        have w1 : sym5_W 0 N a m b mid ((mid + m : Nat) : Int) lo hi ((mid + m - 1 : Nat) : Int) c0 (oA cV f N) rest toks tys = _ := w
        have g1 : sym5_n6 0 N a m b mid ((mid + m : Nat) : Int) lo hi ((mid + m - 1 : Nat) : Int) c0 (oA cV f N) rest toks tys = (st : Int) := by rw [sym5_n6, w1]; rfl
        have g2 : sym5_l2 0 N a m b mid ((mid + m : Nat) : Int) lo hi ((mid + m - 1 : Nat) : Int) c0 (oA cV f N) rest toks tys = oA cV f N := by rw [sym5_l2, w1]; rfl
        have g3 : sym5_is0 0 N a m b mid ((mid + m : Nat) : Int) lo hi ((mid + m - 1 : Nat) : Int) c0 (oA cV f N) rest toks tys = true := by rw [sym5_is0, w1, g1, g2]; simp [sT]
        simp only [mgS, g1, g2, g3, Tr.run_ite, if_true, sub_N (a := mid + m) (b := st) (by omega) (by omega)]
        exact mg0_law c0 rest toks tys h hN f a m b mid st cut hA hB hmid1 hmid2 h3 (by omega) (by omega)
      by_cases c3 : mid < m
      · have := main (mid + m - b) mid (by rw [if_pos c3]) (by rw [if_pos c3])
        simpa only [mgM, iLt_N, c3, decide_true, Tr.run_ite, if_true, sub_N (a := mid + m) (b := b) (by omega) (by omega), sub_N1 (a := mid + m) (by omega) (by omega)] using this
      · have := main a m (by rw [if_neg c3]) (by rw [if_neg c3])
        simpa only [mgM, iLt_N, c3, decide_false, Bool.false_eq_true, Tr.run_ite, if_false, sub_N1 (a := mid + m) (by omega) (by omega)] using this
end
end Go.Pv

set_option maxHeartbeats 4000000
set_option maxRecDepth 200000
set_option linter.unusedSimpArgs false
set_option linter.unusedVariables false
/-! The merge that calls itself: what it gives, by the size of its range. -/
namespace Go.Pv
open Go Go.Proofs
abbrev SymW := Nat → Nat → Int → Int → Int → List PV → List PV → List (List PV) → List (Nat × Nat × TypeId) → List TypeId → Option (PV × Store)
noncomputable def smW : Nat → SymW
  | 0 => fun _ _ _ _ _ _ _ _ _ _ => none
  | k + 1 => @sym_W ⟨smW k⟩
theorem SimS.each {P : Program} {gl : Nat → Option Obj} {f : FuncId} {D D0 : List PV → Store → Option (PV × Store)} (h0 : SimS P gl f D0) (h : ∀ args σ r, D args σ = some r → ∃ D', SimS P gl f D' ∧ D' args σ = some r) : SimS P gl f D :=
  ⟨h0.ent, fun args σ x σ' hx => by obtain ⟨D', h1, h2⟩ := h args σ _ hx; exact h1.run args σ x σ' h2⟩
theorem sim_sm0 (gl : Nat → Option Obj) : SimS Tryd.prog gl 120 fun args σ => (@D_rec ⟨smW 0⟩ args σ).run :=
  ⟨⟨_, Tryd.func120, by rfl, by rfl⟩, fun args σ x σ' h => by
    unfold D_rec at h
    split at h
    · have e : ∀ off len a m b c0 cs rest toks tys, @rec_is0 ⟨smW 0⟩ off len a m b c0 cs rest toks tys = false := fun _ _ _ _ _ _ _ _ _ _ => by simp [rec_is0, smW, isW]
      rw [Tr.run_ite, e] at h
      cases h
    · cases h⟩
theorem sim_smk (gl : Nat → Option Obj) : ∀ k, SimS Tryd.prog gl 120 fun args σ => (@D_rec ⟨smW k⟩ args σ).run
  | 0 => sim_sm0 gl
  | k + 1 => @sim_sym ⟨smW k⟩ gl (sim_smk gl k)
/-- What a call gives: as deep as its range is long. -/
noncomputable instance recS : RecW := ⟨fun off len a m b => smW (b - a).toNat off len a m b⟩
theorem sim_sm (gl : Nat → Option Obj) : SimS Tryd.prog gl 120 fun args σ => (D_rec args σ).run := by
  refine SimS.each (sim_sm0 gl) fun args σ r h => ?_
  unfold D_rec at h
  split at h
  · rename_i off len a m b c0 cs rest toks tys
    exact ⟨_, sim_smk gl (b - a).toNat, h⟩
  · cases h
theorem merges (T : Tot cT) (c0 : List PV) (rest : List (List PV)) (toks : List (Nat × Nat × TypeId)) (tys : List TypeId) (N : Nat) (hN : N ≤ 4611686018427387903) : ∀ k, @Merges ⟨smW k⟩ c0 rest toks tys N k
  | 0 => fun f a m b h1 h2 h3 h4 => by omega
  | k + 1 => fun f a m b h1 h2 h3 h4 hA hB => @sym_step ⟨smW k⟩ c0 rest toks tys N k T (merges T c0 rest toks tys N hN k) hN f a m b h1 h2 h3 h4 hA hB
theorem sm_law (T : Tot cT) (c0 : List PV) (rest : List (List PV)) (toks : List (Nat × Nat × TypeId)) (tys : List TypeId) (N : Nat) (hN : N ≤ 4611686018427387903) (f : Nat → List Vl) (a m b : Nat) (h1 : a < m) (h2 : m < b) (h3 : b ≤ N) (hA : Srt cT f a m) (hB : Srt cT f m b) :
    ∃ f', rec_is0 0 N a m b c0 (oA cV f N) rest toks tys = true ∧ rec_l 0 N a m b c0 (oA cV f N) rest toks tys = oA cV f' N ∧ Srt cT f' a b ∧ Mv f f' a b := by
  have h : @Merges recS c0 rest toks tys N (b - a) → _ := fun h => rec_is c0 rest toks tys h f a m b h1 h2 h3 (Nat.le_refl _) hA hB
  obtain ⟨f', e1, e2, e3⟩ := merges T c0 rest toks tys N hN (b - a) f a m b h1 h2 h3 (Nat.le_refl _) hA hB
  have ek : ((b : Int) - (a : Int)).toNat = b - a := by omega
  have hw : RecW.W 0 N a m b c0 (oA cV f N) rest toks tys = some (.tup [], sT c0 rest toks tys f' N) := by
    show smW ((b : Int) - (a : Int)).toNat 0 N a m b c0 (oA cV f N) rest toks tys = _
    rw [ek]; exact e1
  have e : rec_l 0 N a m b c0 (oA cV f N) rest toks tys = oA cV f' N := by simp [rec_l, hw, sT, gObj, asOut]
  exact ⟨f', by simp [rec_is0, e, hw, sT], e, e2, e3⟩
end Go.Pv

set_option maxHeartbeats 4000000
set_option maxRecDepth 200000
set_option linter.unusedSimpArgs false
set_option linter.unusedVariables false
namespace Go.Pv
open Go Go.Proofs
noncomputable def G_cln : GamT := ofL [(objKey, .flag)]
theorem gok_cln (gl : Nat → Option Obj) : GamOk Tryd.prog gl (gam G_cln) := (gamOk_flag gamOk_nil)
noncomputable def L_cln : LpsT := fun r fr σ => .fail
noncomputable def cln_Tr (l : List (List PV)) (c0 : List PV) : Tr (PV × Store) := Tr.ite (xNil l)
  (Tr.ite false (Tr.ret (PV.sl [] .full, Store.mk [c0] [] [82]))
    (Tr.ite (okGrow [] l 24)
      (Tr.ite (okNews l 1)
        (Tr.ite (okSize [] 1)
          (Tr.ite (xNil l) (Tr.ret (PV.sl [] .full, Store.mk [c0] [] [82])) (Tr.ret (PV.osl 1 0 (nXs (xApp [] l)) 1, Store.mk [c0, List.flatten (xApp [] l)] [] [82, 1000023])))
          Tr.fail)
        Tr.fail)
      Tr.fail))
  (Tr.ite false (Tr.ret (PV.sl [] .full, Store.mk [c0] [] [82]))
    (Tr.ite (okGrow [] l 24)
      (Tr.ite (okNews l 1)
        (Tr.ite (okSize [] 1)
          (Tr.ite (xNil l) (Tr.ret (PV.sl [] .full, Store.mk [c0] [] [82])) (Tr.ret (PV.osl 1 0 (nXs (xApp [] l)) 1, Store.mk [c0, List.flatten (xApp [] l)] [] [82, 1000023])))
          Tr.fail)
        Tr.fail)
      Tr.fail))
theorem cln_T (l : List (List PV)) (c0 : List PV) : (tcallS tbT G_cln L_cln Tryd.f82 [.sl l .own] ⟨[c0], [], [82]⟩).flat = cln_Tr l c0 := by kernel_rfl
noncomputable def cln_W (l : List (List PV)) (c0 : List PV) : Option (PV × Store) := (cln_Tr l c0).run
noncomputable def cln_r_0 (l : List (List PV)) (c0 : List PV) : List (List PV) := (gRow (gOut (asOut (cln_W l c0)) 0))
noncomputable def cln_is0 (l : List (List PV)) (c0 : List PV) : Bool := isW (cln_W l c0) (.sl (cln_r_0 l c0) .full, ⟨[c0], [], [82]⟩)
noncomputable def cln_o_1 (l : List (List PV)) (c0 : List PV) : Nat := (gOff (gOut (asOut (cln_W l c0)) 0))
noncomputable def cln_m_1 (l : List (List PV)) (c0 : List PV) : Nat := (gLen (gOut (asOut (cln_W l c0)) 0))
noncomputable def cln_l2_1 (l : List (List PV)) (c0 : List PV) : List PV := (gObj (asOut (cln_W l c0)) 1)
noncomputable def cln_is1 (l : List (List PV)) (c0 : List PV) : Bool := isW (cln_W l c0) (.osl 1 (cln_o_1 l c0) (cln_m_1 l c0) 1, ⟨[c0, (cln_l2_1 l c0)], [], [82, 1000023]⟩)
noncomputable def D_cln : List PV → Store → Tr (PV × Store) | [.sl l .own], ⟨[c0], [], [82]⟩ => .ite (cln_is0 l c0) (.ret (.sl (cln_r_0 l c0) .full, ⟨[c0], [], [82]⟩)) (.ite (cln_is1 l c0) (.ret (.osl 1 (cln_o_1 l c0) (cln_m_1 l c0) 1, ⟨[c0, (cln_l2_1 l c0)], [], [82, 1000023]⟩)) (.fail)) | _, _ => .fail
theorem sim_cln (gl : Nat → Option Obj) : SimS Tryd.prog gl 82 fun args σ => (D_cln args σ).run := by
  refine SimS.of_flat (G := G_cln) (L := L_cln) tbT_ok (gok_cln gl ) noMixed Tryd.func82 rfl (by rfl) (by kernel_rfl) (loopOk_none (by kernel_rfl)) ?_
  intro args σ x h
  unfold D_cln at h
  split at h
  · exact (congrArg Tr.run (cln_T _ _)).trans (ite_isW h fun h => ite_isW h fun h => by cases h)
  · cases h
noncomputable def G_eq85 : GamT := ofL [(16, .pure F_TCmp)]
theorem gok_eq85 (gl : Nat → Option Obj) : GamOk Tryd.prog gl (gam G_eq85) := (gamOk_cons (sim_TCmp gl) gamOk_nil)
noncomputable def L_eq85 : LpsT := fun r fr σ => .fail
noncomputable def eq85_Tr (a : List (List PV)) (b : List (List PV)) (r : List (List PV)) : Tr PV := Tr.ite (okR cV (lockLL (lockLL a))) (Tr.ite (okR cV (lockLL (lockLL b))) (Tr.ret (PV.bool (iEq (cmpTV (lockLL (lockLL a)) (lockLL (lockLL b))) 0))) Tr.fail) Tr.fail
theorem eq85_T (a : List (List PV)) (b : List (List PV)) (r : List (List PV)) : (tcall tbT G_eq85 L_eq85 Tryd.f85 [.sl a .non, .sl b .non, .ref [.sl r .non, .fn 16 []]]).flat = eq85_Tr a b r := by kernel_rfl
noncomputable def F_eq85 : List PV → Tr PV | [.sl a .non, .sl b .non, .ref [.sl r .non, .fn 16 []]] => eq85_Tr a b r | _ => .fail
theorem sim_eq85 (gl : Nat → Option Obj) : SimP Tryd.prog gl 85 fun args => (F_eq85 args).run := by
  refine SimP.of_flat (G := G_eq85) (L := L_eq85) tbT_ok (gok_eq85 gl ) noMixed Tryd.func85 rfl (by rfl) (by kernel_rfl) (loopOk_none (by kernel_rfl)) ?_
  intro args x h
  unfold F_eq85 at h
  split at h
  · exact (congrArg Tr.run (eq85_T _ _ _)).trans h
  · cases h
end Go.Pv
