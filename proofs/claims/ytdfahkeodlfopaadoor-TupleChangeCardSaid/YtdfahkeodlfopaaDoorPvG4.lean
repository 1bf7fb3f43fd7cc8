/- Part 4 of the proof: pure values for the machine's values, what functions compute over them, and laws of what is computed. Conditions: none beyond each theorem's own premises. -/
import Derived.Test.YtdfahkeodlfopaaDoorPvG3
set_option maxHeartbeats 4000000
set_option maxRecDepth 200000
set_option linter.unusedSimpArgs false
set_option linter.unusedVariables false
namespace Go.Pv
open Go Go.Proofs
variable [RecW]
noncomputable def G_sym : GamT := ofL [(16, .pure F_TCmp), (120, .store D_rec), (133, .store D_rot)]
theorem gok_sym (gl : Nat → Option Obj) (hN : SimS Tryd.prog gl 120 fun args σ => (D_rec args σ).run) : GamOk Tryd.prog gl (gam G_sym) := (gamOk_cons (sim_TCmp gl) (gamOk_store hN (gamOk_store (sim_rot gl) gamOk_nil)))
noncomputable def c_sym1 : Code := loopC Tryd.f120 3
noncomputable def c_sym2 : Code := loopC Tryd.f120 9
noncomputable def c_sym3 : Code := loopC Tryd.f120 15
noncomputable def c_sym4 : Code := loopC Tryd.f120 21
noncomputable def c_sym5 : Code := loopC Tryd.f120 33
def I_sym1 : LI := ⟨220, [0, 1, 4, 10, 11], fun e => match e with | .exit 0 => [0, 1, 10] | _ => [], false⟩
noncomputable def LI_sym1 : LpsT := fun r fr σ => .fail
noncomputable def sym1_V (vs : List PV) (σ : Store) : Option (PExit × List PV × Store) := lval (lstep tbT G_sym LI_sym1 c_sym1 I_sym1) vs σ
noncomputable def sym1_Tr (o : Nat) (m : Nat) (n : Int) (n2 : Int) (n3 : Int) (l : List PV) (l2 : List PV) (rest : List (List PV)) (toks : List (Nat × Nat × TypeId)) (tys : List TypeId) : Tr LR := Tr.ite (iLt n2 n3) (Tr.ite (okIx (iWrap .i64 (iShr .u64 (iWrap .u64 (iAdd .i64 n2 n3)) 1)) m) (Tr.ite (okCell [PV.sl [] .full] l2 (pOff o (nNat (iWrap .i64 (iShr .u64 (iWrap .u64 (iAdd .i64 n2 n3)) 1))) 1)) (Tr.ite (okIx n m) (Tr.ite (okCell [PV.sl [] .full] l2 (pOff o (nNat n) 1)) (Tr.ite (okR cV (lockLL (lockLL (cRow l2 (pOff o (nNat (iWrap .i64 (iShr .u64 (iWrap .u64 (iAdd .i64 n2 n3)) 1))) 1) 0)))) (Tr.ite (okR cV (lockLL (lockLL (cRow l2 (pOff o (nNat n) 1) 0)))) (Tr.ite (iLt (cmpTV (lockLL (lockLL (cRow l2 (pOff o (nNat (iWrap .i64 (iShr .u64 (iWrap .u64 (iAdd .i64 n2 n3)) 1))) 1) 0))) (lockLL (lockLL (cRow l2 (pOff o (nNat n) 1) 0)))) 0) (Tr.ret (LR.next [PV.osl 1 o m 1, PV.int .i64 n, PV.fn 16 [], PV.int .i64 (iAdd .i64 (iWrap .i64 (iShr .u64 (iWrap .u64 (iAdd .i64 n2 n3)) 1)) 1), PV.int .i64 n3] (Store.mk (l :: l2 :: rest) toks (82 :: 1000023 :: tys)))) (Tr.ret (LR.next [PV.osl 1 o m 1, PV.int .i64 n, PV.fn 16 [], PV.int .i64 n2, PV.int .i64 (iWrap .i64 (iShr .u64 (iWrap .u64 (iAdd .i64 n2 n3)) 1))] (Store.mk (l :: l2 :: rest) toks (82 :: 1000023 :: tys))))) Tr.fail) Tr.fail) Tr.fail) Tr.fail) Tr.fail) Tr.fail) (Tr.ret (LR.out (.exit 0) [PV.osl 1 o m 1, PV.int .i64 n, PV.int .i64 n2] (Store.mk (l :: l2 :: rest) toks (82 :: 1000023 :: tys))))
theorem sym1_T (o : Nat) (m : Nat) (n : Int) (n2 : Int) (n3 : Int) (l : List PV) (l2 : List PV) (rest : List (List PV)) (toks : List (Nat × Nat × TypeId)) (tys : List TypeId) : lstep tbT G_sym LI_sym1 c_sym1 I_sym1 [.osl 1 o m 1, .int .i64 n, .fn 16 [], .int .i64 n2, .int .i64 n3] ⟨(l :: l2 :: rest), (toks), (82 :: 1000023 :: tys)⟩ = sym1_Tr o m n n2 n3 l l2 rest toks tys := by kernel_rfl
theorem sym1_E (o : Nat) (m : Nat) (n : Int) (n2 : Int) (n3 : Int) (l : List PV) (l2 : List PV) (rest : List (List PV)) (toks : List (Nat × Nat × TypeId)) (tys : List TypeId) : sym1_V [.osl 1 o m 1, .int .i64 n, .fn 16 [], .int .i64 n2, .int .i64 n3] ⟨(l :: l2 :: rest), (toks), (82 :: 1000023 :: tys)⟩ = lnext sym1_V (sym1_Tr o m n n2 n3 l l2 rest toks tys).run := by unfold sym1_V; rw [lval_eq, sym1_T]
noncomputable def sym1_W (o : Nat) (m : Nat) (n : Int) (n2 : Int) (n3 : Int) (l : List PV) (l2 : List PV) (rest : List (List PV)) (toks : List (Nat × Nat × TypeId)) (tys : List TypeId) : Option (PExit × List PV × Store) := sym1_V [.osl 1 o m 1, .int .i64 n, .fn 16 [], .int .i64 n2, .int .i64 n3] ⟨(l :: l2 :: rest), (toks), (82 :: 1000023 :: tys)⟩
noncomputable def sym1_n2 (o : Nat) (m : Nat) (n : Int) (n2 : Int) (n3 : Int) (l : List PV) (l2 : List PV) (rest : List (List PV)) (toks : List (Nat × Nat × TypeId)) (tys : List TypeId) : Int := (gInt (gOut (sym1_W o m n n2 n3 l l2 rest toks tys) 2))
noncomputable def sym1_l2 (o : Nat) (m : Nat) (n : Int) (n2 : Int) (n3 : Int) (l : List PV) (l2 : List PV) (rest : List (List PV)) (toks : List (Nat × Nat × TypeId)) (tys : List TypeId) : List PV := (gObj (sym1_W o m n n2 n3 l l2 rest toks tys) 1)
noncomputable def sym1_is0 (o : Nat) (m : Nat) (n : Int) (n2 : Int) (n3 : Int) (l : List PV) (l2 : List PV) (rest : List (List PV)) (toks : List (Nat × Nat × TypeId)) (tys : List TypeId) : Bool := isW (sym1_W o m n n2 n3 l l2 rest toks tys) ((.exit 0), [.osl 1 o m 1, .int .i64 n, .int .i64 (sym1_n2 o m n n2 n3 l l2 rest toks tys)], ⟨(l :: (sym1_l2 o m n n2 n3 l l2 rest toks tys) :: rest), (toks), (82 :: 1000023 :: tys)⟩)
noncomputable def sym1_prop : List PV → Store → Tr (PExit × List PV × Store) | [.osl 1 o m 1, .int .i64 n, .fn 16 [], .int .i64 n2, .int .i64 n3], ⟨(l :: l2 :: rest), (toks), (82 :: 1000023 :: tys)⟩ => .ite (sym1_is0 o m n n2 n3 l l2 rest toks tys) (.ret ((.exit 0), [.osl 1 o m 1, .int .i64 n, .int .i64 (sym1_n2 o m n n2 n3 l l2 rest toks tys)], ⟨(l :: (sym1_l2 o m n n2 n3 l l2 rest toks tys) :: rest), (toks), (82 :: 1000023 :: tys)⟩)) (.fail) | _, _ => .fail
theorem sym1_ok : ∀ vs σ r, (sym1_prop vs σ).run = some r → sym1_V vs σ = some r := by
  intro vs σ r h
  unfold sym1_prop at h
  split at h
  · exact ite_isW h fun h => by cases h
  · cases h
theorem loop_sym1 (gl : Nat → Option Obj) (hN : SimS Tryd.prog gl 120 fun args σ => (D_rec args σ).run) : ∀ fr σ e fr' σ', (orc I_sym1 sym1_prop fr σ).run = some (e, fr', σ') → LDoes Tryd.prog gl c_sym1 fr σ e fr' σ' := orc_ok tbT_ok (gok_sym gl hN ) noMixed (L := LI_sym1) (loopOk_none (by kernel_rfl)) (by kernel_rfl) sym1_ok
def I_sym2 : LI := ⟨220, [0, 10, 13], fun e => match e with | .exit 2 => [] | _ => [], false⟩
noncomputable def LI_sym2 : LpsT := fun r fr σ => .fail
noncomputable def sym2_V (vs : List PV) (σ : Store) : Option (PExit × List PV × Store) := lval (lstep tbT G_sym LI_sym2 c_sym2 I_sym2) vs σ
noncomputable def sym2_Tr (o : Nat) (m : Nat) (n : Int) (n2 : Int) (l : List PV) (l2 : List PV) (rest : List (List PV)) (toks : List (Nat × Nat × TypeId)) (tys : List TypeId) : Tr LR := Tr.ite (iLt n2 (iSub .i64 n 1)) (Tr.ite (okIx (iAdd .i64 n2 1) m) (Tr.ite (okCell [PV.sl [] .full] l2 (pOff o (nNat (iAdd .i64 n2 1)) 1)) (Tr.ite (okIx n2 m) (Tr.ite (okCell [PV.sl [] .full] l2 (pOff o (nNat n2) 1)) (Tr.ite (okIx n2 m) (Tr.ite (okOff l2 (pOff o (nNat n2) 1) 1) (Tr.ite (okIx (iAdd .i64 n2 1) m) (Tr.ite (okOff (putC l2 (pOff o (nNat n2) 1) [PV.sl (cRow l2 (pOff o (nNat (iAdd .i64 n2 1)) 1) 0) .non]) (pOff o (nNat (iAdd .i64 n2 1)) 1) 1) (Tr.ret (LR.next [PV.osl 1 o m 1, PV.int .i64 n, PV.int .i64 (iAdd .i64 n2 1)] (Store.mk (l :: putC (putC l2 (pOff o (nNat n2) 1) [PV.sl (cRow l2 (pOff o (nNat (iAdd .i64 n2 1)) 1) 0) .non]) (pOff o (nNat (iAdd .i64 n2 1)) 1) [PV.sl (cRow l2 (pOff o (nNat n2) 1) 0) .non] :: rest) toks (82 :: 1000023 :: tys)))) Tr.fail) Tr.fail) Tr.fail) Tr.fail) Tr.fail) Tr.fail) Tr.fail) Tr.fail) (Tr.ret (LR.out (.exit 2) [] (Store.mk (l :: l2 :: rest) toks (82 :: 1000023 :: tys))))
theorem sym2_T (o : Nat) (m : Nat) (n : Int) (n2 : Int) (l : List PV) (l2 : List PV) (rest : List (List PV)) (toks : List (Nat × Nat × TypeId)) (tys : List TypeId) : lstep tbT G_sym LI_sym2 c_sym2 I_sym2 [.osl 1 o m 1, .int .i64 n, .int .i64 n2] ⟨(l :: l2 :: rest), (toks), (82 :: 1000023 :: tys)⟩ = sym2_Tr o m n n2 l l2 rest toks tys := by kernel_rfl
theorem sym2_E (o : Nat) (m : Nat) (n : Int) (n2 : Int) (l : List PV) (l2 : List PV) (rest : List (List PV)) (toks : List (Nat × Nat × TypeId)) (tys : List TypeId) : sym2_V [.osl 1 o m 1, .int .i64 n, .int .i64 n2] ⟨(l :: l2 :: rest), (toks), (82 :: 1000023 :: tys)⟩ = lnext sym2_V (sym2_Tr o m n n2 l l2 rest toks tys).run := by unfold sym2_V; rw [lval_eq, sym2_T]
noncomputable def sym2_W (o : Nat) (m : Nat) (n : Int) (n2 : Int) (l : List PV) (l2 : List PV) (rest : List (List PV)) (toks : List (Nat × Nat × TypeId)) (tys : List TypeId) : Option (PExit × List PV × Store) := sym2_V [.osl 1 o m 1, .int .i64 n, .int .i64 n2] ⟨(l :: l2 :: rest), (toks), (82 :: 1000023 :: tys)⟩
noncomputable def sym2_l2 (o : Nat) (m : Nat) (n : Int) (n2 : Int) (l : List PV) (l2 : List PV) (rest : List (List PV)) (toks : List (Nat × Nat × TypeId)) (tys : List TypeId) : List PV := (gObj (sym2_W o m n n2 l l2 rest toks tys) 1)
noncomputable def sym2_is0 (o : Nat) (m : Nat) (n : Int) (n2 : Int) (l : List PV) (l2 : List PV) (rest : List (List PV)) (toks : List (Nat × Nat × TypeId)) (tys : List TypeId) : Bool := isW (sym2_W o m n n2 l l2 rest toks tys) ((.exit 2), [], ⟨(l :: (sym2_l2 o m n n2 l l2 rest toks tys) :: rest), (toks), (82 :: 1000023 :: tys)⟩)
noncomputable def sym2_prop : List PV → Store → Tr (PExit × List PV × Store) | [.osl 1 o m 1, .int .i64 n, .int .i64 n2], ⟨(l :: l2 :: rest), (toks), (82 :: 1000023 :: tys)⟩ => .ite (sym2_is0 o m n n2 l l2 rest toks tys) (.ret ((.exit 2), [], ⟨(l :: (sym2_l2 o m n n2 l l2 rest toks tys) :: rest), (toks), (82 :: 1000023 :: tys)⟩)) (.fail) | _, _ => .fail
theorem sym2_ok : ∀ vs σ r, (sym2_prop vs σ).run = some r → sym2_V vs σ = some r := by
  intro vs σ r h
  unfold sym2_prop at h
  split at h
  · exact ite_isW h fun h => by cases h
  · cases h
theorem loop_sym2 (gl : Nat → Option Obj) (hN : SimS Tryd.prog gl 120 fun args σ => (D_rec args σ).run) : ∀ fr σ e fr' σ', (orc I_sym2 sym2_prop fr σ).run = some (e, fr', σ') → LDoes Tryd.prog gl c_sym2 fr σ e fr' σ' := orc_ok tbT_ok (gok_sym gl hN ) noMixed (L := LI_sym2) (loopOk_none (by kernel_rfl)) (by kernel_rfl) sym2_ok
def I_sym3 : LI := ⟨220, [0, 2, 4, 14, 15], fun e => match e with | .exit 4 => [0, 2, 14] | _ => [], false⟩
noncomputable def LI_sym3 : LpsT := fun r fr σ => .fail
noncomputable def sym3_V (vs : List PV) (σ : Store) : Option (PExit × List PV × Store) := lval (lstep tbT G_sym LI_sym3 c_sym3 I_sym3) vs σ
noncomputable def sym3_Tr (o : Nat) (m : Nat) (n : Int) (n2 : Int) (n3 : Int) (l : List PV) (l2 : List PV) (rest : List (List PV)) (toks : List (Nat × Nat × TypeId)) (tys : List TypeId) : Tr LR := Tr.ite (iLt n2 n3) (Tr.ite (okIx n m) (Tr.ite (okCell [PV.sl [] .full] l2 (pOff o (nNat n) 1)) (Tr.ite (okIx (iWrap .i64 (iShr .u64 (iWrap .u64 (iAdd .i64 n2 n3)) 1)) m) (Tr.ite (okCell [PV.sl [] .full] l2 (pOff o (nNat (iWrap .i64 (iShr .u64 (iWrap .u64 (iAdd .i64 n2 n3)) 1))) 1)) (Tr.ite (okR cV (lockLL (lockLL (cRow l2 (pOff o (nNat n) 1) 0)))) (Tr.ite (okR cV (lockLL (lockLL (cRow l2 (pOff o (nNat (iWrap .i64 (iShr .u64 (iWrap .u64 (iAdd .i64 n2 n3)) 1))) 1) 0)))) (Tr.ite (bNot (iLt (cmpTV (lockLL (lockLL (cRow l2 (pOff o (nNat n) 1) 0))) (lockLL (lockLL (cRow l2 (pOff o (nNat (iWrap .i64 (iShr .u64 (iWrap .u64 (iAdd .i64 n2 n3)) 1))) 1) 0)))) 0)) (Tr.ret (LR.next [PV.osl 1 o m 1, PV.int .i64 n, PV.fn 16 [], PV.int .i64 (iAdd .i64 (iWrap .i64 (iShr .u64 (iWrap .u64 (iAdd .i64 n2 n3)) 1)) 1), PV.int .i64 n3] (Store.mk (l :: l2 :: rest) toks (82 :: 1000023 :: tys)))) (Tr.ret (LR.next [PV.osl 1 o m 1, PV.int .i64 n, PV.fn 16 [], PV.int .i64 n2, PV.int .i64 (iWrap .i64 (iShr .u64 (iWrap .u64 (iAdd .i64 n2 n3)) 1))] (Store.mk (l :: l2 :: rest) toks (82 :: 1000023 :: tys))))) Tr.fail) Tr.fail) Tr.fail) Tr.fail) Tr.fail) Tr.fail) (Tr.ret (LR.out (.exit 4) [PV.osl 1 o m 1, PV.int .i64 n, PV.int .i64 n2] (Store.mk (l :: l2 :: rest) toks (82 :: 1000023 :: tys))))
theorem sym3_T (o : Nat) (m : Nat) (n : Int) (n2 : Int) (n3 : Int) (l : List PV) (l2 : List PV) (rest : List (List PV)) (toks : List (Nat × Nat × TypeId)) (tys : List TypeId) : lstep tbT G_sym LI_sym3 c_sym3 I_sym3 [.osl 1 o m 1, .int .i64 n, .fn 16 [], .int .i64 n2, .int .i64 n3] ⟨(l :: l2 :: rest), (toks), (82 :: 1000023 :: tys)⟩ = sym3_Tr o m n n2 n3 l l2 rest toks tys := by kernel_rfl
theorem sym3_E (o : Nat) (m : Nat) (n : Int) (n2 : Int) (n3 : Int) (l : List PV) (l2 : List PV) (rest : List (List PV)) (toks : List (Nat × Nat × TypeId)) (tys : List TypeId) : sym3_V [.osl 1 o m 1, .int .i64 n, .fn 16 [], .int .i64 n2, .int .i64 n3] ⟨(l :: l2 :: rest), (toks), (82 :: 1000023 :: tys)⟩ = lnext sym3_V (sym3_Tr o m n n2 n3 l l2 rest toks tys).run := by unfold sym3_V; rw [lval_eq, sym3_T]
noncomputable def sym3_W (o : Nat) (m : Nat) (n : Int) (n2 : Int) (n3 : Int) (l : List PV) (l2 : List PV) (rest : List (List PV)) (toks : List (Nat × Nat × TypeId)) (tys : List TypeId) : Option (PExit × List PV × Store) := sym3_V [.osl 1 o m 1, .int .i64 n, .fn 16 [], .int .i64 n2, .int .i64 n3] ⟨(l :: l2 :: rest), (toks), (82 :: 1000023 :: tys)⟩
noncomputable def sym3_n2 (o : Nat) (m : Nat) (n : Int) (n2 : Int) (n3 : Int) (l : List PV) (l2 : List PV) (rest : List (List PV)) (toks : List (Nat × Nat × TypeId)) (tys : List TypeId) : Int := (gInt (gOut (sym3_W o m n n2 n3 l l2 rest toks tys) 2))
noncomputable def sym3_l2 (o : Nat) (m : Nat) (n : Int) (n2 : Int) (n3 : Int) (l : List PV) (l2 : List PV) (rest : List (List PV)) (toks : List (Nat × Nat × TypeId)) (tys : List TypeId) : List PV := (gObj (sym3_W o m n n2 n3 l l2 rest toks tys) 1)
noncomputable def sym3_is0 (o : Nat) (m : Nat) (n : Int) (n2 : Int) (n3 : Int) (l : List PV) (l2 : List PV) (rest : List (List PV)) (toks : List (Nat × Nat × TypeId)) (tys : List TypeId) : Bool := isW (sym3_W o m n n2 n3 l l2 rest toks tys) ((.exit 4), [.osl 1 o m 1, .int .i64 n, .int .i64 (sym3_n2 o m n n2 n3 l l2 rest toks tys)], ⟨(l :: (sym3_l2 o m n n2 n3 l l2 rest toks tys) :: rest), (toks), (82 :: 1000023 :: tys)⟩)
noncomputable def sym3_prop : List PV → Store → Tr (PExit × List PV × Store) | [.osl 1 o m 1, .int .i64 n, .fn 16 [], .int .i64 n2, .int .i64 n3], ⟨(l :: l2 :: rest), (toks), (82 :: 1000023 :: tys)⟩ => .ite (sym3_is0 o m n n2 n3 l l2 rest toks tys) (.ret ((.exit 4), [.osl 1 o m 1, .int .i64 n, .int .i64 (sym3_n2 o m n n2 n3 l l2 rest toks tys)], ⟨(l :: (sym3_l2 o m n n2 n3 l l2 rest toks tys) :: rest), (toks), (82 :: 1000023 :: tys)⟩)) (.fail) | _, _ => .fail
theorem sym3_ok : ∀ vs σ r, (sym3_prop vs σ).run = some r → sym3_V vs σ = some r := by
  intro vs σ r h
  unfold sym3_prop at h
  split at h
  · exact ite_isW h fun h => by cases h
  · cases h
theorem loop_sym3 (gl : Nat → Option Obj) (hN : SimS Tryd.prog gl 120 fun args σ => (D_rec args σ).run) : ∀ fr σ e fr' σ', (orc I_sym3 sym3_prop fr σ).run = some (e, fr', σ') → LDoes Tryd.prog gl c_sym3 fr σ e fr' σ' := orc_ok tbT_ok (gok_sym gl hN ) noMixed (L := LI_sym3) (loopOk_none (by kernel_rfl)) (by kernel_rfl) sym3_ok
def I_sym4 : LI := ⟨220, [0, 14, 17], fun e => match e with | .exit 6 => [] | _ => [], false⟩
noncomputable def LI_sym4 : LpsT := fun r fr σ => .fail
noncomputable def sym4_V (vs : List PV) (σ : Store) : Option (PExit × List PV × Store) := lval (lstep tbT G_sym LI_sym4 c_sym4 I_sym4) vs σ
noncomputable def sym4_Tr (o : Nat) (m : Nat) (n : Int) (n2 : Int) (l : List PV) (l2 : List PV) (rest : List (List PV)) (toks : List (Nat × Nat × TypeId)) (tys : List TypeId) : Tr LR := Tr.ite (iLt n n2) (Tr.ite (okIx (iSub .i64 n2 1) m) (Tr.ite (okCell [PV.sl [] .full] l2 (pOff o (nNat (iSub .i64 n2 1)) 1)) (Tr.ite (okIx n2 m) (Tr.ite (okCell [PV.sl [] .full] l2 (pOff o (nNat n2) 1)) (Tr.ite (okIx n2 m) (Tr.ite (okOff l2 (pOff o (nNat n2) 1) 1) (Tr.ite (okIx (iSub .i64 n2 1) m) (Tr.ite (okOff (putC l2 (pOff o (nNat n2) 1) [PV.sl (cRow l2 (pOff o (nNat (iSub .i64 n2 1)) 1) 0) .non]) (pOff o (nNat (iSub .i64 n2 1)) 1) 1) (Tr.ret (LR.next [PV.osl 1 o m 1, PV.int .i64 n, PV.int .i64 (iSub .i64 n2 1)] (Store.mk (l :: putC (putC l2 (pOff o (nNat n2) 1) [PV.sl (cRow l2 (pOff o (nNat (iSub .i64 n2 1)) 1) 0) .non]) (pOff o (nNat (iSub .i64 n2 1)) 1) [PV.sl (cRow l2 (pOff o (nNat n2) 1) 0) .non] :: rest) toks (82 :: 1000023 :: tys)))) Tr.fail) Tr.fail) Tr.fail) Tr.fail) Tr.fail) Tr.fail) Tr.fail) Tr.fail) (Tr.ret (LR.out (.exit 6) [] (Store.mk (l :: l2 :: rest) toks (82 :: 1000023 :: tys))))
theorem sym4_T (o : Nat) (m : Nat) (n : Int) (n2 : Int) (l : List PV) (l2 : List PV) (rest : List (List PV)) (toks : List (Nat × Nat × TypeId)) (tys : List TypeId) : lstep tbT G_sym LI_sym4 c_sym4 I_sym4 [.osl 1 o m 1, .int .i64 n, .int .i64 n2] ⟨(l :: l2 :: rest), (toks), (82 :: 1000023 :: tys)⟩ = sym4_Tr o m n n2 l l2 rest toks tys := by kernel_rfl
theorem sym4_E (o : Nat) (m : Nat) (n : Int) (n2 : Int) (l : List PV) (l2 : List PV) (rest : List (List PV)) (toks : List (Nat × Nat × TypeId)) (tys : List TypeId) : sym4_V [.osl 1 o m 1, .int .i64 n, .int .i64 n2] ⟨(l :: l2 :: rest), (toks), (82 :: 1000023 :: tys)⟩ = lnext sym4_V (sym4_Tr o m n n2 l l2 rest toks tys).run := by unfold sym4_V; rw [lval_eq, sym4_T]
noncomputable def sym4_W (o : Nat) (m : Nat) (n : Int) (n2 : Int) (l : List PV) (l2 : List PV) (rest : List (List PV)) (toks : List (Nat × Nat × TypeId)) (tys : List TypeId) : Option (PExit × List PV × Store) := sym4_V [.osl 1 o m 1, .int .i64 n, .int .i64 n2] ⟨(l :: l2 :: rest), (toks), (82 :: 1000023 :: tys)⟩
noncomputable def sym4_l2 (o : Nat) (m : Nat) (n : Int) (n2 : Int) (l : List PV) (l2 : List PV) (rest : List (List PV)) (toks : List (Nat × Nat × TypeId)) (tys : List TypeId) : List PV := (gObj (sym4_W o m n n2 l l2 rest toks tys) 1)
noncomputable def sym4_is0 (o : Nat) (m : Nat) (n : Int) (n2 : Int) (l : List PV) (l2 : List PV) (rest : List (List PV)) (toks : List (Nat × Nat × TypeId)) (tys : List TypeId) : Bool := isW (sym4_W o m n n2 l l2 rest toks tys) ((.exit 6), [], ⟨(l :: (sym4_l2 o m n n2 l l2 rest toks tys) :: rest), (toks), (82 :: 1000023 :: tys)⟩)
noncomputable def sym4_prop : List PV → Store → Tr (PExit × List PV × Store) | [.osl 1 o m 1, .int .i64 n, .int .i64 n2], ⟨(l :: l2 :: rest), (toks), (82 :: 1000023 :: tys)⟩ => .ite (sym4_is0 o m n n2 l l2 rest toks tys) (.ret ((.exit 6), [], ⟨(l :: (sym4_l2 o m n n2 l l2 rest toks tys) :: rest), (toks), (82 :: 1000023 :: tys)⟩)) (.fail) | _, _ => .fail
theorem sym4_ok : ∀ vs σ r, (sym4_prop vs σ).run = some r → sym4_V vs σ = some r := by
  intro vs σ r h
  unfold sym4_prop at h
  split at h
  · exact ite_isW h fun h => by cases h
  · cases h
theorem loop_sym4 (gl : Nat → Option Obj) (hN : SimS Tryd.prog gl 120 fun args σ => (D_rec args σ).run) : ∀ fr σ e fr' σ', (orc I_sym4 sym4_prop fr σ).run = some (e, fr', σ') → LDoes Tryd.prog gl c_sym4 fr σ e fr' σ' := orc_ok tbT_ok (gok_sym gl hN ) noMixed (L := LI_sym4) (loopOk_none (by kernel_rfl)) (by kernel_rfl) sym4_ok
def I_sym5 : LI := ⟨220, [0, 1, 2, 3, 4, 18, 19, 20, 21, 22], fun e => match e with | .exit 8 => [0, 1, 2, 3, 4, 18, 19, 20] | _ => [], false⟩
noncomputable def LI_sym5 : LpsT := fun r fr σ => .fail
noncomputable def sym5_V (vs : List PV) (σ : Store) : Option (PExit × List PV × Store) := lval (lstep tbT G_sym LI_sym5 c_sym5 I_sym5) vs σ
noncomputable def sym5_Tr (o : Nat) (m : Nat) (n : Int) (n2 : Int) (n3 : Int) (n4 : Int) (n5 : Int) (n6 : Int) (n7 : Int) (n8 : Int) (l : List PV) (l2 : List PV) (rest : List (List PV)) (toks : List (Nat × Nat × TypeId)) (tys : List TypeId) : Tr LR := Tr.ite (iLt n6 n7) (Tr.ite (okIx (iSub .i64 n8 (iWrap .i64 (iShr .u64 (iWrap .u64 (iAdd .i64 n6 n7)) 1))) m) (Tr.ite (okCell [PV.sl [] .full] l2 (pOff o (nNat (iSub .i64 n8 (iWrap .i64 (iShr .u64 (iWrap .u64 (iAdd .i64 n6 n7)) 1)))) 1)) (Tr.ite (okIx (iWrap .i64 (iShr .u64 (iWrap .u64 (iAdd .i64 n6 n7)) 1)) m) (Tr.ite (okCell [PV.sl [] .full] l2 (pOff o (nNat (iWrap .i64 (iShr .u64 (iWrap .u64 (iAdd .i64 n6 n7)) 1))) 1)) (Tr.ite (okR cV (lockLL (lockLL (cRow l2 (pOff o (nNat (iSub .i64 n8 (iWrap .i64 (iShr .u64 (iWrap .u64 (iAdd .i64 n6 n7)) 1)))) 1) 0)))) (Tr.ite (okR cV (lockLL (lockLL (cRow l2 (pOff o (nNat (iWrap .i64 (iShr .u64 (iWrap .u64 (iAdd .i64 n6 n7)) 1))) 1) 0)))) (Tr.ite (bNot (iLt (cmpTV (lockLL (lockLL (cRow l2 (pOff o (nNat (iSub .i64 n8 (iWrap .i64 (iShr .u64 (iWrap .u64 (iAdd .i64 n6 n7)) 1)))) 1) 0))) (lockLL (lockLL (cRow l2 (pOff o (nNat (iWrap .i64 (iShr .u64 (iWrap .u64 (iAdd .i64 n6 n7)) 1))) 1) 0)))) 0)) (Tr.ret (LR.next [PV.osl 1 o m 1, PV.int .i64 n, PV.int .i64 n2, PV.int .i64 n3, PV.fn 16 [], PV.int .i64 n4, PV.int .i64 n5, PV.int .i64 (iAdd .i64 (iWrap .i64 (iShr .u64 (iWrap .u64 (iAdd .i64 n6 n7)) 1)) 1), PV.int .i64 n7, PV.int .i64 n8] (Store.mk (l :: l2 :: rest) toks (82 :: 1000023 :: tys)))) (Tr.ret (LR.next [PV.osl 1 o m 1, PV.int .i64 n, PV.int .i64 n2, PV.int .i64 n3, PV.fn 16 [], PV.int .i64 n4, PV.int .i64 n5, PV.int .i64 n6, PV.int .i64 (iWrap .i64 (iShr .u64 (iWrap .u64 (iAdd .i64 n6 n7)) 1)), PV.int .i64 n8] (Store.mk (l :: l2 :: rest) toks (82 :: 1000023 :: tys))))) Tr.fail) Tr.fail) Tr.fail) Tr.fail) Tr.fail) Tr.fail) (Tr.ret (LR.out (.exit 8) [PV.osl 1 o m 1, PV.int .i64 n, PV.int .i64 n2, PV.int .i64 n3, PV.fn 16 [], PV.int .i64 n4, PV.int .i64 n5, PV.int .i64 n6]
 (Store.mk (l :: l2 :: rest) toks (82 :: 1000023 :: tys))))
theorem sym5_T (o : Nat) (m : Nat) (n : Int) (n2 : Int) (n3 : Int) (n4 : Int) (n5 : Int) (n6 : Int) (n7 : Int) (n8 : Int) (l : List PV) (l2 : List PV) (rest : List (List PV)) (toks : List (Nat × Nat × TypeId)) (tys : List TypeId) : lstep tbT G_sym LI_sym5 c_sym5 I_sym5 [.osl 1 o m 1, .int .i64 n, .int .i64 n2, .int .i64 n3, .fn 16 [], .int .i64 n4, .int .i64 n5, .int .i64 n6, .int .i64 n7, .int .i64 n8] ⟨(l :: l2 :: rest), (toks), (82 :: 1000023 :: tys)⟩ = sym5_Tr o m n n2 n3 n4 n5 n6 n7 n8 l l2 rest toks tys := by kernel_rfl
theorem sym5_E (o : Nat) (m : Nat) (n : Int) (n2 : Int) (n3 : Int) (n4 : Int) (n5 : Int) (n6 : Int) (n7 : Int) (n8 : Int) (l : List PV) (l2 : List PV) (rest : List (List PV)) (toks : List (Nat × Nat × TypeId)) (tys : List TypeId) : sym5_V [.osl 1 o m 1, .int .i64 n, .int .i64 n2, .int .i64 n3, .fn 16 [], .int .i64 n4, .int .i64 n5, .int .i64 n6, .int .i64 n7, .int .i64 n8] ⟨(l :: l2 :: rest), (toks), (82 :: 1000023 :: tys)⟩ = lnext sym5_V (sym5_Tr o m n n2 n3 n4 n5 n6 n7 n8 l l2 rest toks tys).run := by unfold sym5_V; rw [lval_eq, sym5_T]
noncomputable def sym5_W (o : Nat) (m : Nat) (n : Int) (n2 : Int) (n3 : Int) (n4 : Int) (n5 : Int) (n6 : Int) (n7 : Int) (n8 : Int) (l : List PV) (l2 : List PV) (rest : List (List PV)) (toks : List (Nat × Nat × TypeId)) (tys : List TypeId) : Option (PExit × List PV × Store) := sym5_V [.osl 1 o m 1, .int .i64 n, .int .i64 n2, .int .i64 n3, .fn 16 [], .int .i64 n4, .int .i64 n5, .int .i64 n6, .int .i64 n7, .int .i64 n8] ⟨(l :: l2 :: rest), (toks), (82 :: 1000023 :: tys)⟩
noncomputable def sym5_n6 (o : Nat) (m : Nat) (n : Int) (n2 : Int) (n3 : Int) (n4 : Int) (n5 : Int) (n6 : Int) (n7 : Int) (n8 : Int) (l : List PV) (l2 : List PV) (rest : List (List PV)) (toks : List (Nat × Nat × TypeId)) (tys : List TypeId) : Int := (gInt (gOut (sym5_W o m n n2 n3 n4 n5 n6 n7 n8 l l2 rest toks tys) 7))
noncomputable def sym5_l2 (o : Nat) (m : Nat) (n : Int) (n2 : Int) (n3 : Int) (n4 : Int) (n5 : Int) (n6 : Int) (n7 : Int) (n8 : Int) (l : List PV) (l2 : List PV) (rest : List (List PV)) (toks : List (Nat × Nat × TypeId)) (tys : List TypeId) : List PV := (gObj (sym5_W o m n n2 n3 n4 n5 n6 n7 n8 l l2 rest toks tys) 1)
noncomputable def sym5_is0 (o : Nat) (m : Nat) (n : Int) (n2 : Int) (n3 : Int) (n4 : Int) (n5 : Int) (n6 : Int) (n7 : Int) (n8 : Int) (l : List PV) (l2 : List PV) (rest : List (List PV)) (toks : List (Nat × Nat × TypeId)) (tys : List TypeId) : Bool := isW (sym5_W o m n n2 n3 n4 n5 n6 n7 n8 l l2 rest toks tys) ((.exit 8), [.osl 1 o m 1, .int .i64 n, .int .i64 n2, .int .i64 n3, .fn 16 [], .int .i64 n4, .int .i64 n5, .int .i64 (sym5_n6 o m n n2 n3 n4 n5 n6 n7 n8 l l2 rest toks tys)], ⟨(l :: (sym5_l2 o m n n2 n3 n4 n5 n6 n7 n8 l l2 rest toks tys) :: rest), (toks), (82 :: 1000023 :: tys)⟩)
noncomputable def sym5_prop : List PV → Store → Tr (PExit × List PV × Store) | [.osl 1 o m 1, .int .i64 n, .int .i64 n2, .int .i64 n3, .fn 16 [], .int .i64 n4, .int .i64 n5, .int .i64 n6, .int .i64 n7, .int .i64 n8], ⟨(l :: l2 :: rest), (toks), (82 :: 1000023 :: tys)⟩ => .ite (sym5_is0 o m n n2 n3 n4 n5 n6 n7 n8 l l2 rest toks tys) (.ret ((.exit 8), [.osl 1 o m 1, .int .i64 n, .int .i64 n2, .int .i64 n3, .fn 16 [], .int .i64 n4, .int .i64 n5, .int .i64 (sym5_n6 o m n n2 n3 n4 n5 n6 n7 n8 l l2 rest toks tys)], ⟨(l :: (sym5_l2 o m n n2 n3 n4 n5 n6 n7 n8 l l2 rest toks tys) :: rest), (toks), (82 :: 1000023 :: tys)⟩)) (.fail) | _, _ => .fail
theorem sym5_ok : ∀ vs σ r, (sym5_prop vs σ).run = some r → sym5_V vs σ = some r := by
  intro vs σ r h
  unfold sym5_prop at h
  split at h
  · exact ite_isW h fun h => by cases h
  · cases h
theorem loop_sym5 (gl : Nat → Option Obj) (hN : SimS Tryd.prog gl 120 fun args σ => (D_rec args σ).run) : ∀ fr σ e fr' σ', (orc I_sym5 sym5_prop fr σ).run = some (e, fr', σ') → LDoes Tryd.prog gl c_sym5 fr σ e fr' σ' := orc_ok tbT_ok (gok_sym gl hN ) noMixed (L := LI_sym5) (loopOk_none (by kernel_rfl)) (by kernel_rfl) sym5_ok
noncomputable def L_sym : LpsT := fun r fr σ => bif Nat.beq r 3 then orc I_sym1 sym1_prop fr σ else bif Nat.beq r 9 then orc I_sym2 sym2_prop fr σ else bif Nat.beq r 15 then orc I_sym3 sym3_prop fr σ else bif Nat.beq r 21 then orc I_sym4 sym4_prop fr σ else bif Nat.beq r 33 then orc I_sym5 sym5_prop fr σ else .fail
noncomputable def sym_Tr (off : Nat) (len : Nat) (a : Int) (m : Int) (b : Int) (c0 : List PV) (cs : List PV) (rest : List (List PV)) (toks : List (Nat × Nat × TypeId)) (tys : List TypeId) : Tr (PV × Store) := Tr.ite (iEq (iSub .i64 m a) 1) (Tr.ite (sym1_is0 off len a m b c0 cs rest toks tys) (Tr.ite (sym2_is0 off len (sym1_n2 off len a m b c0 cs rest toks tys) a c0 (sym1_l2 off len a m b c0 cs rest toks tys) rest toks tys) (Tr.ret (PV.tup [], Store.mk (c0 :: sym2_l2 off len (sym1_n2 off len a m b c0 cs rest toks tys) a c0 (sym1_l2 off len a m b c0 cs rest toks tys) rest toks tys :: rest) toks (82 :: 1000023 :: tys))) Tr.fail) Tr.fail) (Tr.ite (iEq (iSub .i64 b m) 1) (Tr.ite (sym3_is0 off len m a m c0 cs rest toks tys) (Tr.ite (sym4_is0 off len (sym3_n2 off len m a m c0 cs rest toks tys) m c0 (sym3_l2 off len m a m c0 cs rest toks tys) rest toks tys) (Tr.ret (PV.tup [], Store.mk (c0 :: sym4_l2 off len (sym3_n2 off len m a m c0 cs rest toks tys) m c0 (sym3_l2 off len m a m c0 cs rest toks tys) rest toks tys :: rest) toks (82 :: 1000023 :: tys))) Tr.fail) Tr.fail) (Tr.ite (iLt (iWrap .i64 (iShr .u64 (iWrap .u64 (iAdd .i64 a b)) 1)) m) (Tr.ite (sym5_is0 off len a m b (iWrap .i64 (iShr .u64 (iWrap .u64 (iAdd .i64 a b)) 1)) (iAdd .i64 (iWrap .i64 (iShr .u64 (iWrap .u64 (iAdd .i64 a b)) 1)) m) (iSub .i64 (iAdd .i64 (iWrap .i64 (iShr .u64 (iWrap .u64 (iAdd .i64 a b)) 1)) m) b) (iWrap .i64 (iShr .u64 (iWrap .u64 (iAdd .i64 a b)) 1)) (iSub .i64 (iAdd .i64 (iWrap .i64 (iShr .u64 (iWrap .u64 (iAdd .i64 a b)) 1)) m) 1) c0 cs rest toks tys) (Tr.ite (iLt (sym5_n6 off len a m b (iWrap .i64 (iShr .u64 (iWrap .u64 (iAdd .i64 a b)) 1)) (iAdd .i64 (iWrap .i64 (iShr .u64 (iWrap .u64 (iAdd .i64 a b)) 1)) m) (iSub .i64 (iAdd .i64 (iWrap .i64 (iShr .u64 (iWrap .u64 (iAdd .i64 a b)) 1)) m) b) (iWrap .i64 (iShr .u64 (iWrap .u64 (iAdd .i64 a b)) 1)) (iSub .i64 (iAdd .i64 (iWrap .i64 (iShr .u64 (iWrap .u64 (iAdd .i64 a b)) 1)) m) 1) c0 cs rest toks tys) m) (Tr.ite (iLt m
 (iSub .i64 (iAdd .i64 (iWrap .i64 (iShr .u64 (iWrap .u64 (iAdd .i64 a b)) 1)) m) (sym5_n6 off len a m b (iWrap .i64 (iShr .u64 (iWrap .u64 (iAdd .i64 a b)) 1)) (iAdd .i64 (iWrap .i64 (iShr .u64 (iWrap .u64 (iAdd .i64 a b)) 1)) m) (iSub .i64 (iAdd .i64 (iWrap .i64 (iShr .u64 (iWrap .u64 (iAdd .i64 a b)) 1)) m) b) (iWrap .i64 (iShr .u64 (iWrap .u64 (iAdd .i64 a b)) 1)) (iSub .i64 (iAdd .i64 (iWrap .i64 (iShr .u64 (iWrap .u64 (iAdd .i64 a b)) 1)) m) 1) c0 cs rest toks tys))) (Tr.ite (rot_is0 off len (sym5_n6 off len a m b (iWrap .i64 (iShr .u64 (iWrap .u64 (iAdd .i64 a b)) 1)) (iAdd .i64 (iWrap .i64 (iShr .u64 (iWrap .u64 (iAdd .i64 a b)) 1)) m) (iSub .i64 (iAdd .i64 (iWrap .i64 (iShr .u64 (iWrap .u64 (iAdd .i64 a b)) 1)) m) b) (iWrap .i64 (iShr .u64 (iWrap .u64 (iAdd .i64 a b)) 1)) (iSub .i64 (iAdd .i64 (iWrap .i64 (iShr .u64 (iWrap .u64 (iAdd .i64 a b)) 1)) m) 1) c0 cs rest toks tys) m (iSub .i64 (iAdd .i64 (iWrap .i64 (iShr .u64 (iWrap .u64 (iAdd .i64 a b)) 1)) m) (sym5_n6 off len a m b (iWrap .i64 (iShr .u64 (iWrap .u64 (iAdd .i64 a b)) 1)) (iAdd .i64 (iWrap .i64 (iShr .u64 (iWrap .u64 (iAdd .i64 a b)) 1)) m) (iSub .i64 (iAdd .i64 (iWrap .i64 (iShr .u64 (iWrap .u64 (iAdd .i64 a b)) 1)) m) b) (iWrap .i64 (iShr .u64 (iWrap .u64 (iAdd .i64 a b)) 1)) (iSub .i64 (iAdd .i64 (iWrap .i64 (iShr .u64 (iWrap .u64 (iAdd .i64 a b)) 1)) m) 1) c0 cs rest toks tys)) c0 (sym5_l2 off len a m b (iWrap .i64 (iShr .u64 (iWrap .u64 (iAdd .i64 a b)) 1)) (iAdd .i64 (iWrap .i64 (iShr .u64 (iWrap .u64 (iAdd .i64 a b)) 1)) m) (iSub .i64 (iAdd .i64 (iWrap .i64 (iShr .u64 (iWrap .u64 (iAdd .i64 a b)) 1)) m) b) (iWrap .i64 (iShr .u64 (iWrap .u64 (iAdd .i64 a b)) 1)) (iSub .i64 (iAdd .i64 (iWrap .i64 (iShr .u64 (iWrap .u64 (iAdd .i64 a b)) 1)) m) 1) c0 cs rest toks tys) rest toks tys) (Tr.ite (iLt a (sym5_n6 off len a m b (iWrap .i64 (iShr .u64 (iWrap .u64 (iAdd .i64 a b)) 1)) (iAdd .i64 (iWrap .i64 (iShr .u64 (iWrap .u64 (iAdd .i64 a b)) 1)) m)
 (iSub .i64 (iAdd .i64 (iWrap .i64 (iShr .u64 (iWrap .u64 (iAdd .i64 a b)) 1)) m) b) (iWrap .i64 (iShr .u64 (iWrap .u64 (iAdd .i64 a b)) 1)) (iSub .i64 (iAdd .i64 (iWrap .i64 (iShr .u64 (iWrap .u64 (iAdd .i64 a b)) 1)) m) 1) c0 cs rest toks tys)) (Tr.ite (iLt (sym5_n6 off len a m b (iWrap .i64 (iShr .u64 (iWrap .u64 (iAdd .i64 a b)) 1)) (iAdd .i64 (iWrap .i64 (iShr .u64 (iWrap .u64 (iAdd .i64 a b)) 1)) m) (iSub .i64 (iAdd .i64 (iWrap .i64 (iShr .u64 (iWrap .u64 (iAdd .i64 a b)) 1)) m) b) (iWrap .i64 (iShr .u64 (iWrap .u64 (iAdd .i64 a b)) 1)) (iSub .i64 (iAdd .i64 (iWrap .i64 (iShr .u64 (iWrap .u64 (iAdd .i64 a b)) 1)) m) 1) c0 cs rest toks tys) (iWrap .i64 (iShr .u64 (iWrap .u64 (iAdd .i64 a b)) 1))) (Tr.ite (rec_is0 off len a (sym5_n6 off len a m b (iWrap .i64 (iShr .u64 (iWrap .u64 (iAdd .i64 a b)) 1)) (iAdd .i64 (iWrap .i64 (iShr .u64 (iWrap .u64 (iAdd .i64 a b)) 1)) m) (iSub .i64 (iAdd .i64 (iWrap .i64 (iShr .u64 (iWrap .u64 (iAdd .i64 a b)) 1)) m) b) (iWrap .i64 (iShr .u64 (iWrap .u64 (iAdd .i64 a b)) 1)) (iSub .i64 (iAdd .i64 (iWrap .i64 (iShr .u64 (iWrap .u64 (iAdd .i64 a b)) 1)) m) 1) c0 cs rest toks tys) (iWrap .i64 (iShr .u64 (iWrap .u64 (iAdd .i64 a b)) 1)) c0 (rot_l2 off len (sym5_n6 off len a m b (iWrap .i64 (iShr .u64 (iWrap .u64 (iAdd .i64 a b)) 1)) (iAdd .i64 (iWrap .i64 (iShr .u64 (iWrap .u64 (iAdd .i64 a b)) 1)) m) (iSub .i64 (iAdd .i64 (iWrap .i64 (iShr .u64 (iWrap .u64 (iAdd .i64 a b)) 1)) m) b) (iWrap .i64 (iShr .u64 (iWrap .u64 (iAdd .i64 a b)) 1)) (iSub .i64 (iAdd .i64 (iWrap .i64 (iShr .u64 (iWrap .u64 (iAdd .i64 a b)) 1)) m) 1) c0 cs rest toks tys) m (iSub .i64 (iAdd .i64 (iWrap .i64 (iShr .u64 (iWrap .u64 (iAdd .i64 a b)) 1)) m) (sym5_n6 off len a m b (iWrap .i64 (iShr .u64 (iWrap .u64 (iAdd .i64 a b)) 1)) (iAdd .i64 (iWrap .i64 (iShr .u64 (iWrap .u64 (iAdd .i64 a b)) 1)) m) (iSub .i64 (iAdd .i64 (iWrap .i64 (iShr .u64 (iWrap .u64 (iAdd .i64 a b)) 1)) m) b) (iWrap .i64 (iShr .u64 (iWrap .u64 (iAdd .i64 a b)) 1))
 (iSub .i64 (iAdd .i64 (iWrap .i64 (iShr .u64 (iWrap .u64 (iAdd .i64 a b)) 1)) m) 1) c0 cs rest toks tys)) c0 (sym5_l2 off len a m b (iWrap .i64 (iShr .u64 (iWrap .u64 (iAdd .i64 a b)) 1)) (iAdd .i64 (iWrap .i64 (iShr .u64 (iWrap .u64 (iAdd .i64 a b)) 1)) m) (iSub .i64 (iAdd .i64 (iWrap .i64 (iShr .u64 (iWrap .u64 (iAdd .i64 a b)) 1)) m) b) (iWrap .i64 (iShr .u64 (iWrap .u64 (iAdd .i64 a b)) 1)) (iSub .i64 (iAdd .i64 (iWrap .i64 (iShr .u64 (iWrap .u64 (iAdd .i64 a b)) 1)) m) 1) c0 cs rest toks tys) rest toks tys) rest toks tys) (Tr.ite (iLt (iWrap .i64 (iShr .u64 (iWrap .u64 (iAdd .i64 a b)) 1)) (iSub .i64 (iAdd .i64 (iWrap .i64 (iShr .u64 (iWrap .u64 (iAdd .i64 a b)) 1)) m) (sym5_n6 off len a m b (iWrap .i64 (iShr .u64 (iWrap .u64 (iAdd .i64 a b)) 1)) (iAdd .i64 (iWrap .i64 (iShr .u64 (iWrap .u64 (iAdd .i64 a b)) 1)) m) (iSub .i64 (iAdd .i64 (iWrap .i64 (iShr .u64 (iWrap .u64 (iAdd .i64 a b)) 1)) m) b) (iWrap .i64 (iShr .u64 (iWrap .u64 (iAdd .i64 a b)) 1)) (iSub .i64 (iAdd .i64 (iWrap .i64 (iShr .u64 (iWrap .u64 (iAdd .i64 a b)) 1)) m) 1) c0 cs rest toks tys))) (Tr.ite (iLt (iSub .i64 (iAdd .i64 (iWrap .i64 (iShr .u64 (iWrap .u64 (iAdd .i64 a b)) 1)) m) (sym5_n6 off len a m b (iWrap .i64 (iShr .u64 (iWrap .u64 (iAdd .i64 a b)) 1)) (iAdd .i64 (iWrap .i64 (iShr .u64 (iWrap .u64 (iAdd .i64 a b)) 1)) m) (iSub .i64 (iAdd .i64 (iWrap .i64 (iShr .u64 (iWrap .u64 (iAdd .i64 a b)) 1)) m) b) (iWrap .i64 (iShr .u64 (iWrap .u64 (iAdd .i64 a b)) 1)) (iSub .i64 (iAdd .i64 (iWrap .i64 (iShr .u64 (iWrap .u64 (iAdd .i64 a b)) 1)) m) 1) c0 cs rest toks tys)) b) (Tr.ite (rec_is0 off len (iWrap .i64 (iShr .u64 (iWrap .u64 (iAdd .i64 a b)) 1)) (iSub .i64 (iAdd .i64 (iWrap .i64 (iShr .u64 (iWrap .u64 (iAdd .i64 a b)) 1)) m) (sym5_n6 off len a m b (iWrap .i64 (iShr .u64 (iWrap .u64 (iAdd .i64 a b)) 1)) (iAdd .i64 (iWrap .i64 (iShr .u64 (iWrap .u64 (iAdd .i64 a b)) 1)) m) (iSub .i64 (iAdd .i64 (iWrap .i64 (iShr .u64 (iWrap .u64 (iAdd .i64 a b)) 1)) m) b)
 (iWrap .i64 (iShr .u64 (iWrap .u64 (iAdd .i64 a b)) 1)) (iSub .i64 (iAdd .i64 (iWrap .i64 (iShr .u64 (iWrap .u64 (iAdd .i64 a b)) 1)) m) 1) c0 cs rest toks tys)) b c0 (rec_l off len a (sym5_n6 off len a m b (iWrap .i64 (iShr .u64 (iWrap .u64 (iAdd .i64 a b)) 1)) (iAdd .i64 (iWrap .i64 (iShr .u64 (iWrap .u64 (iAdd .i64 a b)) 1)) m) (iSub .i64 (iAdd .i64 (iWrap .i64 (iShr .u64 (iWrap .u64 (iAdd .i64 a b)) 1)) m) b) (iWrap .i64 (iShr .u64 (iWrap .u64 (iAdd .i64 a b)) 1)) (iSub .i64 (iAdd .i64 (iWrap .i64 (iShr .u64 (iWrap .u64 (iAdd .i64 a b)) 1)) m) 1) c0 cs rest toks tys) (iWrap .i64 (iShr .u64 (iWrap .u64 (iAdd .i64 a b)) 1)) c0 (rot_l2 off len (sym5_n6 off len a m b (iWrap .i64 (iShr .u64 (iWrap .u64 (iAdd .i64 a b)) 1)) (iAdd .i64 (iWrap .i64 (iShr .u64 (iWrap .u64 (iAdd .i64 a b)) 1)) m) (iSub .i64 (iAdd .i64 (iWrap .i64 (iShr .u64 (iWrap .u64 (iAdd .i64 a b)) 1)) m) b) (iWrap .i64 (iShr .u64 (iWrap .u64 (iAdd .i64 a b)) 1)) (iSub .i64 (iAdd .i64 (iWrap .i64 (iShr .u64 (iWrap .u64 (iAdd .i64 a b)) 1)) m) 1) c0 cs rest toks tys) m (iSub .i64 (iAdd .i64 (iWrap .i64 (iShr .u64 (iWrap .u64 (iAdd .i64 a b)) 1)) m) (sym5_n6 off len a m b (iWrap .i64 (iShr .u64 (iWrap .u64 (iAdd .i64 a b)) 1)) (iAdd .i64 (iWrap .i64 (iShr .u64 (iWrap .u64 (iAdd .i64 a b)) 1)) m) (iSub .i64 (iAdd .i64 (iWrap .i64 (iShr .u64 (iWrap .u64 (iAdd .i64 a b)) 1)) m) b) (iWrap .i64 (iShr .u64 (iWrap .u64 (iAdd .i64 a b)) 1)) (iSub .i64 (iAdd .i64 (iWrap .i64 (iShr .u64 (iWrap .u64 (iAdd .i64 a b)) 1)) m) 1) c0 cs rest toks tys)) c0 (sym5_l2 off len a m b (iWrap .i64 (iShr .u64 (iWrap .u64 (iAdd .i64 a b)) 1)) (iAdd .i64 (iWrap .i64 (iShr .u64 (iWrap .u64 (iAdd .i64 a b)) 1)) m) (iSub .i64 (iAdd .i64 (iWrap .i64 (iShr .u64 (iWrap .u64 (iAdd .i64 a b)) 1)) m) b) (iWrap .i64 (iShr .u64 (iWrap .u64 (iAdd .i64 a b)) 1)) (iSub .i64 (iAdd .i64 (iWrap .i64 (iShr .u64 (iWrap .u64 (iAdd .i64 a b)) 1)) m) 1) c0 cs rest toks tys) rest toks tys) rest toks tys) rest toks tys) (Tr.ret (PV.tup [], Store.mk
 (c0 :: rec_l off len (iWrap .i64 (iShr .u64 (iWrap .u64 (iAdd .i64 a b)) 1)) (iSub .i64 (iAdd .i64 (iWrap .i64 (iShr .u64 (iWrap .u64 (iAdd .i64 a b)) 1)) m) (sym5_n6 off len a m b (iWrap .i64 (iShr .u64 (iWrap .u64 (iAdd .i64 a b)) 1)) (iAdd .i64 (iWrap .i64 (iShr .u64 (iWrap .u64 (iAdd .i64 a b)) 1)) m) (iSub .i64 (iAdd .i64 (iWrap .i64 (iShr .u64 (iWrap .u64 (iAdd .i64 a b)) 1)) m) b) (iWrap .i64 (iShr .u64 (iWrap .u64 (iAdd .i64 a b)) 1)) (iSub .i64 (iAdd .i64 (iWrap .i64 (iShr .u64 (iWrap .u64 (iAdd .i64 a b)) 1)) m) 1) c0 cs rest toks tys)) b c0 (rec_l off len a (sym5_n6 off len a m b (iWrap .i64 (iShr .u64 (iWrap .u64 (iAdd .i64 a b)) 1)) (iAdd .i64 (iWrap .i64 (iShr .u64 (iWrap .u64 (iAdd .i64 a b)) 1)) m) (iSub .i64 (iAdd .i64 (iWrap .i64 (iShr .u64 (iWrap .u64 (iAdd .i64 a b)) 1)) m) b) (iWrap .i64 (iShr .u64 (iWrap .u64 (iAdd .i64 a b)) 1)) (iSub .i64 (iAdd .i64 (iWrap .i64 (iShr .u64 (iWrap .u64 (iAdd .i64 a b)) 1)) m) 1) c0 cs rest toks tys) (iWrap .i64 (iShr .u64 (iWrap .u64 (iAdd .i64 a b)) 1)) c0 (rot_l2 off len (sym5_n6 off len a m b (iWrap .i64 (iShr .u64 (iWrap .u64 (iAdd .i64 a b)) 1)) (iAdd .i64 (iWrap .i64 (iShr .u64 (iWrap .u64 (iAdd .i64 a b)) 1)) m) (iSub .i64 (iAdd .i64 (iWrap .i64 (iShr .u64 (iWrap .u64 (iAdd .i64 a b)) 1)) m) b) (iWrap .i64 (iShr .u64 (iWrap .u64 (iAdd .i64 a b)) 1)) (iSub .i64 (iAdd .i64 (iWrap .i64 (iShr .u64 (iWrap .u64 (iAdd .i64 a b)) 1)) m) 1) c0 cs rest toks tys) m (iSub .i64 (iAdd .i64 (iWrap .i64 (iShr .u64 (iWrap .u64 (iAdd .i64 a b)) 1)) m) (sym5_n6 off len a m b (iWrap .i64 (iShr .u64 (iWrap .u64 (iAdd .i64 a b)) 1)) (iAdd .i64 (iWrap .i64 (iShr .u64 (iWrap .u64 (iAdd .i64 a b)) 1)) m) (iSub .i64 (iAdd .i64 (iWrap .i64 (iShr .u64 (iWrap .u64 (iAdd .i64 a b)) 1)) m) b) (iWrap .i64 (iShr .u64 (iWrap .u64 (iAdd .i64 a b)) 1)) (iSub .i64 (iAdd .i64 (iWrap .i64 (iShr .u64 (iWrap .u64 (iAdd .i64 a b)) 1)) m) 1) c0 cs rest toks tys)) c0 (sym5_l2 off len a m b (iWrap .i64 (iShr .u64 (iWrap .u64 (iAdd .i64 a b)) 1))
 (iAdd .i64 (iWrap .i64 (iShr .u64 (iWrap .u64 (iAdd .i64 a b)) 1)) m) (iSub .i64 (iAdd .i64 (iWrap .i64 (iShr .u64 (iWrap .u64 (iAdd .i64 a b)) 1)) m) b) (iWrap .i64 (iShr .u64 (iWrap .u64 (iAdd .i64 a b)) 1)) (iSub .i64 (iAdd .i64 (iWrap .i64 (iShr .u64 (iWrap .u64 (iAdd .i64 a b)) 1)) m) 1) c0 cs rest toks tys) rest toks tys) rest toks tys) rest toks tys :: rest) toks (82 :: 1000023 :: tys))) Tr.fail) (Tr.ret (PV.tup [], Store.mk (c0 :: rec_l off len a (sym5_n6 off len a m b (iWrap .i64 (iShr .u64 (iWrap .u64 (iAdd .i64 a b)) 1)) (iAdd .i64 (iWrap .i64 (iShr .u64 (iWrap .u64 (iAdd .i64 a b)) 1)) m) (iSub .i64 (iAdd .i64 (iWrap .i64 (iShr .u64 (iWrap .u64 (iAdd .i64 a b)) 1)) m) b) (iWrap .i64 (iShr .u64 (iWrap .u64 (iAdd .i64 a b)) 1)) (iSub .i64 (iAdd .i64 (iWrap .i64 (iShr .u64 (iWrap .u64 (iAdd .i64 a b)) 1)) m) 1) c0 cs rest toks tys) (iWrap .i64 (iShr .u64 (iWrap .u64 (iAdd .i64 a b)) 1)) c0 (rot_l2 off len (sym5_n6 off len a m b (iWrap .i64 (iShr .u64 (iWrap .u64 (iAdd .i64 a b)) 1)) (iAdd .i64 (iWrap .i64 (iShr .u64 (iWrap .u64 (iAdd .i64 a b)) 1)) m) (iSub .i64 (iAdd .i64 (iWrap .i64 (iShr .u64 (iWrap .u64 (iAdd .i64 a b)) 1)) m) b) (iWrap .i64 (iShr .u64 (iWrap .u64 (iAdd .i64 a b)) 1)) (iSub .i64 (iAdd .i64 (iWrap .i64 (iShr .u64 (iWrap .u64 (iAdd .i64 a b)) 1)) m) 1) c0 cs rest toks tys) m (iSub .i64 (iAdd .i64 (iWrap .i64 (iShr .u64 (iWrap .u64 (iAdd .i64 a b)) 1)) m) (sym5_n6 off len a m b (iWrap .i64 (iShr .u64 (iWrap .u64 (iAdd .i64 a b)) 1)) (iAdd .i64 (iWrap .i64 (iShr .u64 (iWrap .u64 (iAdd .i64 a b)) 1)) m) (iSub .i64 (iAdd .i64 (iWrap .i64 (iShr .u64 (iWrap .u64 (iAdd .i64 a b)) 1)) m) b) (iWrap .i64 (iShr .u64 (iWrap .u64 (iAdd .i64 a b)) 1)) (iSub .i64 (iAdd .i64 (iWrap .i64 (iShr .u64 (iWrap .u64 (iAdd .i64 a b)) 1)) m) 1) c0 cs rest toks tys)) c0 (sym5_l2 off len a m b (iWrap .i64 (iShr .u64 (iWrap .u64 (iAdd .i64 a b)) 1)) (iAdd .i64 (iWrap .i64 (iShr .u64 (iWrap .u64 (iAdd .i64 a b)) 1)) m)
 (iSub .i64 (iAdd .i64 (iWrap .i64 (iShr .u64 (iWrap .u64 (iAdd .i64 a b)) 1)) m) b) (iWrap .i64 (iShr .u64 (iWrap .u64 (iAdd .i64 a b)) 1)) (iSub .i64 (iAdd .i64 (iWrap .i64 (iShr .u64 (iWrap .u64 (iAdd .i64 a b)) 1)) m) 1) c0 cs rest toks tys) rest toks tys) rest toks tys :: rest) toks (82 :: 1000023 :: tys)))) (Tr.ret (PV.tup [], Store.mk (c0 :: rec_l off len a (sym5_n6 off len a m b (iWrap .i64 (iShr .u64 (iWrap .u64 (iAdd .i64 a b)) 1)) (iAdd .i64 (iWrap .i64 (iShr .u64 (iWrap .u64 (iAdd .i64 a b)) 1)) m) (iSub .i64 (iAdd .i64 (iWrap .i64 (iShr .u64 (iWrap .u64 (iAdd .i64 a b)) 1)) m) b) (iWrap .i64 (iShr .u64 (iWrap .u64 (iAdd .i64 a b)) 1)) (iSub .i64 (iAdd .i64 (iWrap .i64 (iShr .u64 (iWrap .u64 (iAdd .i64 a b)) 1)) m) 1) c0 cs rest toks tys) (iWrap .i64 (iShr .u64 (iWrap .u64 (iAdd .i64 a b)) 1)) c0 (rot_l2 off len (sym5_n6 off len a m b (iWrap .i64 (iShr .u64 (iWrap .u64 (iAdd .i64 a b)) 1)) (iAdd .i64 (iWrap .i64 (iShr .u64 (iWrap .u64 (iAdd .i64 a b)) 1)) m) (iSub .i64 (iAdd .i64 (iWrap .i64 (iShr .u64 (iWrap .u64 (iAdd .i64 a b)) 1)) m) b) (iWrap .i64 (iShr .u64 (iWrap .u64 (iAdd .i64 a b)) 1)) (iSub .i64 (iAdd .i64 (iWrap .i64 (iShr .u64 (iWrap .u64 (iAdd .i64 a b)) 1)) m) 1) c0 cs rest toks tys) m (iSub .i64 (iAdd .i64 (iWrap .i64 (iShr .u64 (iWrap .u64 (iAdd .i64 a b)) 1)) m) (sym5_n6 off len a m b (iWrap .i64 (iShr .u64 (iWrap .u64 (iAdd .i64 a b)) 1)) (iAdd .i64 (iWrap .i64 (iShr .u64 (iWrap .u64 (iAdd .i64 a b)) 1)) m) (iSub .i64 (iAdd .i64 (iWrap .i64 (iShr .u64 (iWrap .u64 (iAdd .i64 a b)) 1)) m) b) (iWrap .i64 (iShr .u64 (iWrap .u64 (iAdd .i64 a b)) 1)) (iSub .i64 (iAdd .i64 (iWrap .i64 (iShr .u64 (iWrap .u64 (iAdd .i64 a b)) 1)) m) 1) c0 cs rest toks tys)) c0 (sym5_l2 off len a m b (iWrap .i64 (iShr .u64 (iWrap .u64 (iAdd .i64 a b)) 1)) (iAdd .i64 (iWrap .i64 (iShr .u64 (iWrap .u64 (iAdd .i64 a b)) 1)) m) (iSub .i64 (iAdd .i64 (iWrap .i64 (iShr .u64 (iWrap .u64 (iAdd .i64 a b)) 1)) m) b) (iWrap .i64 (iShr .u64 (iWrap .u64 (iAdd .i64 a b)) 1))
 (iSub .i64 (iAdd .i64 (iWrap .i64 (iShr .u64 (iWrap .u64 (iAdd .i64 a b)) 1)) m) 1) c0 cs rest toks tys) rest toks tys) rest toks tys :: rest) toks (82 :: 1000023 :: tys)))) Tr.fail) (Tr.ite (iLt (iWrap .i64 (iShr .u64 (iWrap .u64 (iAdd .i64 a b)) 1)) (iSub .i64 (iAdd .i64 (iWrap .i64 (iShr .u64 (iWrap .u64 (iAdd .i64 a b)) 1)) m) (sym5_n6 off len a m b (iWrap .i64 (iShr .u64 (iWrap .u64 (iAdd .i64 a b)) 1)) (iAdd .i64 (iWrap .i64 (iShr .u64 (iWrap .u64 (iAdd .i64 a b)) 1)) m) (iSub .i64 (iAdd .i64 (iWrap .i64 (iShr .u64 (iWrap .u64 (iAdd .i64 a b)) 1)) m) b) (iWrap .i64 (iShr .u64 (iWrap .u64 (iAdd .i64 a b)) 1)) (iSub .i64 (iAdd .i64 (iWrap .i64 (iShr .u64 (iWrap .u64 (iAdd .i64 a b)) 1)) m) 1) c0 cs rest toks tys))) (Tr.ite (iLt (iSub .i64 (iAdd .i64 (iWrap .i64 (iShr .u64 (iWrap .u64 (iAdd .i64 a b)) 1)) m) (sym5_n6 off len a m b (iWrap .i64 (iShr .u64 (iWrap .u64 (iAdd .i64 a b)) 1)) (iAdd .i64 (iWrap .i64 (iShr .u64 (iWrap .u64 (iAdd .i64 a b)) 1)) m) (iSub .i64 (iAdd .i64 (iWrap .i64 (iShr .u64 (iWrap .u64 (iAdd .i64 a b)) 1)) m) b) (iWrap .i64 (iShr .u64 (iWrap .u64 (iAdd .i64 a b)) 1)) (iSub .i64 (iAdd .i64 (iWrap .i64 (iShr .u64 (iWrap .u64 (iAdd .i64 a b)) 1)) m) 1) c0 cs rest toks tys)) b) (Tr.ite (rec_is0 off len (iWrap .i64 (iShr .u64 (iWrap .u64 (iAdd .i64 a b)) 1)) (iSub .i64 (iAdd .i64 (iWrap .i64 (iShr .u64 (iWrap .u64 (iAdd .i64 a b)) 1)) m) (sym5_n6 off len a m b (iWrap .i64 (iShr .u64 (iWrap .u64 (iAdd .i64 a b)) 1)) (iAdd .i64 (iWrap .i64 (iShr .u64 (iWrap .u64 (iAdd .i64 a b)) 1)) m) (iSub .i64 (iAdd .i64 (iWrap .i64 (iShr .u64 (iWrap .u64 (iAdd .i64 a b)) 1)) m) b) (iWrap .i64 (iShr .u64 (iWrap .u64 (iAdd .i64 a b)) 1)) (iSub .i64 (iAdd .i64 (iWrap .i64 (iShr .u64 (iWrap .u64 (iAdd .i64 a b)) 1)) m) 1) c0 cs rest toks tys)) b c0 (rot_l2 off len (sym5_n6 off len a m b (iWrap .i64 (iShr .u64 (iWrap .u64 (iAdd .i64 a b)) 1)) (iAdd .i64 (iWrap .i64 (iShr .u64 (iWrap .u64 (iAdd .i64 a b)) 1)) m)
 (iSub .i64 (iAdd .i64 (iWrap .i64 (iShr .u64 (iWrap .u64 (iAdd .i64 a b)) 1)) m) b) (iWrap .i64 (iShr .u64 (iWrap .u64 (iAdd .i64 a b)) 1)) (iSub .i64 (iAdd .i64 (iWrap .i64 (iShr .u64 (iWrap .u64 (iAdd .i64 a b)) 1)) m) 1) c0 cs rest toks tys) m (iSub .i64 (iAdd .i64 (iWrap .i64 (iShr .u64 (iWrap .u64 (iAdd .i64 a b)) 1)) m) (sym5_n6 off len a m b (iWrap .i64 (iShr .u64 (iWrap .u64 (iAdd .i64 a b)) 1)) (iAdd .i64 (iWrap .i64 (iShr .u64 (iWrap .u64 (iAdd .i64 a b)) 1)) m) (iSub .i64 (iAdd .i64 (iWrap .i64 (iShr .u64 (iWrap .u64 (iAdd .i64 a b)) 1)) m) b) (iWrap .i64 (iShr .u64 (iWrap .u64 (iAdd .i64 a b)) 1)) (iSub .i64 (iAdd .i64 (iWrap .i64 (iShr .u64 (iWrap .u64 (iAdd .i64 a b)) 1)) m) 1) c0 cs rest toks tys)) c0 (sym5_l2 off len a m b (iWrap .i64 (iShr .u64 (iWrap .u64 (iAdd .i64 a b)) 1)) (iAdd .i64 (iWrap .i64 (iShr .u64 (iWrap .u64 (iAdd .i64 a b)) 1)) m) (iSub .i64 (iAdd .i64 (iWrap .i64 (iShr .u64 (iWrap .u64 (iAdd .i64 a b)) 1)) m) b) (iWrap .i64 (iShr .u64 (iWrap .u64 (iAdd .i64 a b)) 1)) (iSub .i64 (iAdd .i64 (iWrap .i64 (iShr .u64 (iWrap .u64 (iAdd .i64 a b)) 1)) m) 1) c0 cs rest toks tys) rest toks tys) rest toks tys) (Tr.ret (PV.tup [], Store.mk (c0 :: rec_l off len (iWrap .i64 (iShr .u64 (iWrap .u64 (iAdd .i64 a b)) 1)) (iSub .i64 (iAdd .i64 (iWrap .i64 (iShr .u64 (iWrap .u64 (iAdd .i64 a b)) 1)) m) (sym5_n6 off len a m b (iWrap .i64 (iShr .u64 (iWrap .u64 (iAdd .i64 a b)) 1)) (iAdd .i64 (iWrap .i64 (iShr .u64 (iWrap .u64 (iAdd .i64 a b)) 1)) m) (iSub .i64 (iAdd .i64 (iWrap .i64 (iShr .u64 (iWrap .u64 (iAdd .i64 a b)) 1)) m) b) (iWrap .i64 (iShr .u64 (iWrap .u64 (iAdd .i64 a b)) 1)) (iSub .i64 (iAdd .i64 (iWrap .i64 (iShr .u64 (iWrap .u64 (iAdd .i64 a b)) 1)) m) 1) c0 cs rest toks tys)) b c0 (rot_l2 off len (sym5_n6 off len a m b (iWrap .i64 (iShr .u64 (iWrap .u64 (iAdd .i64 a b)) 1)) (iAdd .i64 (iWrap .i64 (iShr .u64 (iWrap .u64 (iAdd .i64 a b)) 1)) m) (iSub .i64 (iAdd .i64 (iWrap .i64 (iShr .u64 (iWrap .u64 (iAdd .i64 a b)) 1)) m) b)
 (iWrap .i64 (iShr .u64 (iWrap .u64 (iAdd .i64 a b)) 1)) (iSub .i64 (iAdd .i64 (iWrap .i64 (iShr .u64 (iWrap .u64 (iAdd .i64 a b)) 1)) m) 1) c0 cs rest toks tys) m (iSub .i64 (iAdd .i64 (iWrap .i64 (iShr .u64 (iWrap .u64 (iAdd .i64 a b)) 1)) m) (sym5_n6 off len a m b (iWrap .i64 (iShr .u64 (iWrap .u64 (iAdd .i64 a b)) 1)) (iAdd .i64 (iWrap .i64 (iShr .u64 (iWrap .u64 (iAdd .i64 a b)) 1)) m) (iSub .i64 (iAdd .i64 (iWrap .i64 (iShr .u64 (iWrap .u64 (iAdd .i64 a b)) 1)) m) b) (iWrap .i64 (iShr .u64 (iWrap .u64 (iAdd .i64 a b)) 1)) (iSub .i64 (iAdd .i64 (iWrap .i64 (iShr .u64 (iWrap .u64 (iAdd .i64 a b)) 1)) m) 1) c0 cs rest toks tys)) c0 (sym5_l2 off len a m b (iWrap .i64 (iShr .u64 (iWrap .u64 (iAdd .i64 a b)) 1)) (iAdd .i64 (iWrap .i64 (iShr .u64 (iWrap .u64 (iAdd .i64 a b)) 1)) m) (iSub .i64 (iAdd .i64 (iWrap .i64 (iShr .u64 (iWrap .u64 (iAdd .i64 a b)) 1)) m) b) (iWrap .i64 (iShr .u64 (iWrap .u64 (iAdd .i64 a b)) 1)) (iSub .i64 (iAdd .i64 (iWrap .i64 (iShr .u64 (iWrap .u64 (iAdd .i64 a b)) 1)) m) 1) c0 cs rest toks tys) rest toks tys) rest toks tys :: rest) toks (82 :: 1000023 :: tys))) Tr.fail) (Tr.ret (PV.tup [], Store.mk (c0 :: rot_l2 off len (sym5_n6 off len a m b (iWrap .i64 (iShr .u64 (iWrap .u64 (iAdd .i64 a b)) 1)) (iAdd .i64 (iWrap .i64 (iShr .u64 (iWrap .u64 (iAdd .i64 a b)) 1)) m) (iSub .i64 (iAdd .i64 (iWrap .i64 (iShr .u64 (iWrap .u64 (iAdd .i64 a b)) 1)) m) b) (iWrap .i64 (iShr .u64 (iWrap .u64 (iAdd .i64 a b)) 1)) (iSub .i64 (iAdd .i64 (iWrap .i64 (iShr .u64 (iWrap .u64 (iAdd .i64 a b)) 1)) m) 1) c0 cs rest toks tys) m (iSub .i64 (iAdd .i64 (iWrap .i64 (iShr .u64 (iWrap .u64 (iAdd .i64 a b)) 1)) m) (sym5_n6 off len a m b (iWrap .i64 (iShr .u64 (iWrap .u64 (iAdd .i64 a b)) 1)) (iAdd .i64 (iWrap .i64 (iShr .u64 (iWrap .u64 (iAdd .i64 a b)) 1)) m) (iSub .i64 (iAdd .i64 (iWrap .i64 (iShr .u64 (iWrap .u64 (iAdd .i64 a b)) 1)) m) b) (iWrap .i64 (iShr .u64 (iWrap .u64 (iAdd .i64 a b)) 1))
 (iSub .i64 (iAdd .i64 (iWrap .i64 (iShr .u64 (iWrap .u64 (iAdd .i64 a b)) 1)) m) 1) c0 cs rest toks tys)) c0 (sym5_l2 off len a m b (iWrap .i64 (iShr .u64 (iWrap .u64 (iAdd .i64 a b)) 1)) (iAdd .i64 (iWrap .i64 (iShr .u64 (iWrap .u64 (iAdd .i64 a b)) 1)) m) (iSub .i64 (iAdd .i64 (iWrap .i64 (iShr .u64 (iWrap .u64 (iAdd .i64 a b)) 1)) m) b) (iWrap .i64 (iShr .u64 (iWrap .u64 (iAdd .i64 a b)) 1)) (iSub .i64 (iAdd .i64 (iWrap .i64 (iShr .u64 (iWrap .u64 (iAdd .i64 a b)) 1)) m) 1) c0 cs rest toks tys) rest toks tys :: rest) toks (82 :: 1000023 :: tys)))) (Tr.ret (PV.tup [], Store.mk (c0 :: rot_l2 off len (sym5_n6 off len a m b (iWrap .i64 (iShr .u64 (iWrap .u64 (iAdd .i64 a b)) 1)) (iAdd .i64 (iWrap .i64 (iShr .u64 (iWrap .u64 (iAdd .i64 a b)) 1)) m) (iSub .i64 (iAdd .i64 (iWrap .i64 (iShr .u64 (iWrap .u64 (iAdd .i64 a b)) 1)) m) b) (iWrap .i64 (iShr .u64 (iWrap .u64 (iAdd .i64 a b)) 1)) (iSub .i64 (iAdd .i64 (iWrap .i64 (iShr .u64 (iWrap .u64 (iAdd .i64 a b)) 1)) m) 1) c0 cs rest toks tys) m (iSub .i64 (iAdd .i64 (iWrap .i64 (iShr .u64 (iWrap .u64 (iAdd .i64 a b)) 1)) m) (sym5_n6 off len a m b (iWrap .i64 (iShr .u64 (iWrap .u64 (iAdd .i64 a b)) 1)) (iAdd .i64 (iWrap .i64 (iShr .u64 (iWrap .u64 (iAdd .i64 a b)) 1)) m) (iSub .i64 (iAdd .i64 (iWrap .i64 (iShr .u64 (iWrap .u64 (iAdd .i64 a b)) 1)) m) b) (iWrap .i64 (iShr .u64 (iWrap .u64 (iAdd .i64 a b)) 1)) (iSub .i64 (iAdd .i64 (iWrap .i64 (iShr .u64 (iWrap .u64 (iAdd .i64 a b)) 1)) m) 1) c0 cs rest toks tys)) c0 (sym5_l2 off len a m b (iWrap .i64 (iShr .u64 (iWrap .u64 (iAdd .i64 a b)) 1)) (iAdd .i64 (iWrap .i64 (iShr .u64 (iWrap .u64 (iAdd .i64 a b)) 1)) m) (iSub .i64 (iAdd .i64 (iWrap .i64 (iShr .u64 (iWrap .u64 (iAdd .i64 a b)) 1)) m) b) (iWrap .i64 (iShr .u64 (iWrap .u64 (iAdd .i64 a b)) 1)) (iSub .i64 (iAdd .i64 (iWrap .i64 (iShr .u64 (iWrap .u64 (iAdd .i64 a b)) 1)) m) 1) c0 cs rest toks tys) rest toks tys :: rest) toks (82 :: 1000023 :: tys))))) (Tr.ite (iLt (iWrap .i64 (iShr .u64 (iWrap .u64 (iAdd .i64 a b)) 1))
 (iSub .i64 (iAdd .i64 (iWrap .i64 (iShr .u64 (iWrap .u64 (iAdd .i64 a b)) 1)) m) (sym5_n6 off len a m b (iWrap .i64 (iShr .u64 (iWrap .u64 (iAdd .i64 a b)) 1)) (iAdd .i64 (iWrap .i64 (iShr .u64 (iWrap .u64 (iAdd .i64 a b)) 1)) m) (iSub .i64 (iAdd .i64 (iWrap .i64 (iShr .u64 (iWrap .u64 (iAdd .i64 a b)) 1)) m) b) (iWrap .i64 (iShr .u64 (iWrap .u64 (iAdd .i64 a b)) 1)) (iSub .i64 (iAdd .i64 (iWrap .i64 (iShr .u64 (iWrap .u64 (iAdd .i64 a b)) 1)) m) 1) c0 cs rest toks tys))) (Tr.ite (iLt (iSub .i64 (iAdd .i64 (iWrap .i64 (iShr .u64 (iWrap .u64 (iAdd .i64 a b)) 1)) m) (sym5_n6 off len a m b (iWrap .i64 (iShr .u64 (iWrap .u64 (iAdd .i64 a b)) 1)) (iAdd .i64 (iWrap .i64 (iShr .u64 (iWrap .u64 (iAdd .i64 a b)) 1)) m) (iSub .i64 (iAdd .i64 (iWrap .i64 (iShr .u64 (iWrap .u64 (iAdd .i64 a b)) 1)) m) b) (iWrap .i64 (iShr .u64 (iWrap .u64 (iAdd .i64 a b)) 1)) (iSub .i64 (iAdd .i64 (iWrap .i64 (iShr .u64 (iWrap .u64 (iAdd .i64 a b)) 1)) m) 1) c0 cs rest toks tys)) b) (Tr.ite (rec_is0 off len (iWrap .i64 (iShr .u64 (iWrap .u64 (iAdd .i64 a b)) 1)) (iSub .i64 (iAdd .i64 (iWrap .i64 (iShr .u64 (iWrap .u64 (iAdd .i64 a b)) 1)) m) (sym5_n6 off len a m b (iWrap .i64 (iShr .u64 (iWrap .u64 (iAdd .i64 a b)) 1)) (iAdd .i64 (iWrap .i64 (iShr .u64 (iWrap .u64 (iAdd .i64 a b)) 1)) m) (iSub .i64 (iAdd .i64 (iWrap .i64 (iShr .u64 (iWrap .u64 (iAdd .i64 a b)) 1)) m) b) (iWrap .i64 (iShr .u64 (iWrap .u64 (iAdd .i64 a b)) 1)) (iSub .i64 (iAdd .i64 (iWrap .i64 (iShr .u64 (iWrap .u64 (iAdd .i64 a b)) 1)) m) 1) c0 cs rest toks tys)) b c0 (rot_l2 off len (sym5_n6 off len a m b (iWrap .i64 (iShr .u64 (iWrap .u64 (iAdd .i64 a b)) 1)) (iAdd .i64 (iWrap .i64 (iShr .u64 (iWrap .u64 (iAdd .i64 a b)) 1)) m) (iSub .i64 (iAdd .i64 (iWrap .i64 (iShr .u64 (iWrap .u64 (iAdd .i64 a b)) 1)) m) b) (iWrap .i64 (iShr .u64 (iWrap .u64 (iAdd .i64 a b)) 1)) (iSub .i64 (iAdd .i64 (iWrap .i64 (iShr .u64 (iWrap .u64 (iAdd .i64 a b)) 1)) m) 1) c0 cs rest toks tys) m
 (iSub .i64 (iAdd .i64 (iWrap .i64 (iShr .u64 (iWrap .u64 (iAdd .i64 a b)) 1)) m) (sym5_n6 off len a m b (iWrap .i64 (iShr .u64 (iWrap .u64 (iAdd .i64 a b)) 1)) (iAdd .i64 (iWrap .i64 (iShr .u64 (iWrap .u64 (iAdd .i64 a b)) 1)) m) (iSub .i64 (iAdd .i64 (iWrap .i64 (iShr .u64 (iWrap .u64 (iAdd .i64 a b)) 1)) m) b) (iWrap .i64 (iShr .u64 (iWrap .u64 (iAdd .i64 a b)) 1)) (iSub .i64 (iAdd .i64 (iWrap .i64 (iShr .u64 (iWrap .u64 (iAdd .i64 a b)) 1)) m) 1) c0 cs rest toks tys)) c0 (sym5_l2 off len a m b (iWrap .i64 (iShr .u64 (iWrap .u64 (iAdd .i64 a b)) 1)) (iAdd .i64 (iWrap .i64 (iShr .u64 (iWrap .u64 (iAdd .i64 a b)) 1)) m) (iSub .i64 (iAdd .i64 (iWrap .i64 (iShr .u64 (iWrap .u64 (iAdd .i64 a b)) 1)) m) b) (iWrap .i64 (iShr .u64 (iWrap .u64 (iAdd .i64 a b)) 1)) (iSub .i64 (iAdd .i64 (iWrap .i64 (iShr .u64 (iWrap .u64 (iAdd .i64 a b)) 1)) m) 1) c0 cs rest toks tys) rest toks tys) rest toks tys) (Tr.ret (PV.tup [], Store.mk (c0 :: rec_l off len (iWrap .i64 (iShr .u64 (iWrap .u64 (iAdd .i64 a b)) 1)) (iSub .i64 (iAdd .i64 (iWrap .i64 (iShr .u64 (iWrap .u64 (iAdd .i64 a b)) 1)) m) (sym5_n6 off len a m b (iWrap .i64 (iShr .u64 (iWrap .u64 (iAdd .i64 a b)) 1)) (iAdd .i64 (iWrap .i64 (iShr .u64 (iWrap .u64 (iAdd .i64 a b)) 1)) m) (iSub .i64 (iAdd .i64 (iWrap .i64 (iShr .u64 (iWrap .u64 (iAdd .i64 a b)) 1)) m) b) (iWrap .i64 (iShr .u64 (iWrap .u64 (iAdd .i64 a b)) 1)) (iSub .i64 (iAdd .i64 (iWrap .i64 (iShr .u64 (iWrap .u64 (iAdd .i64 a b)) 1)) m) 1) c0 cs rest toks tys)) b c0 (rot_l2 off len (sym5_n6 off len a m b (iWrap .i64 (iShr .u64 (iWrap .u64 (iAdd .i64 a b)) 1)) (iAdd .i64 (iWrap .i64 (iShr .u64 (iWrap .u64 (iAdd .i64 a b)) 1)) m) (iSub .i64 (iAdd .i64 (iWrap .i64 (iShr .u64 (iWrap .u64 (iAdd .i64 a b)) 1)) m) b) (iWrap .i64 (iShr .u64 (iWrap .u64 (iAdd .i64 a b)) 1)) (iSub .i64 (iAdd .i64 (iWrap .i64 (iShr .u64 (iWrap .u64 (iAdd .i64 a b)) 1)) m) 1) c0 cs rest toks tys) m (iSub .i64 (iAdd .i64 (iWrap .i64 (iShr .u64 (iWrap .u64 (iAdd .i64 a b)) 1)) m)
 (sym5_n6 off len a m b (iWrap .i64 (iShr .u64 (iWrap .u64 (iAdd .i64 a b)) 1)) (iAdd .i64 (iWrap .i64 (iShr .u64 (iWrap .u64 (iAdd .i64 a b)) 1)) m) (iSub .i64 (iAdd .i64 (iWrap .i64 (iShr .u64 (iWrap .u64 (iAdd .i64 a b)) 1)) m) b) (iWrap .i64 (iShr .u64 (iWrap .u64 (iAdd .i64 a b)) 1)) (iSub .i64 (iAdd .i64 (iWrap .i64 (iShr .u64 (iWrap .u64 (iAdd .i64 a b)) 1)) m) 1) c0 cs rest toks tys)) c0 (sym5_l2 off len a m b (iWrap .i64 (iShr .u64 (iWrap .u64 (iAdd .i64 a b)) 1)) (iAdd .i64 (iWrap .i64 (iShr .u64 (iWrap .u64 (iAdd .i64 a b)) 1)) m) (iSub .i64 (iAdd .i64 (iWrap .i64 (iShr .u64 (iWrap .u64 (iAdd .i64 a b)) 1)) m) b) (iWrap .i64 (iShr .u64 (iWrap .u64 (iAdd .i64 a b)) 1)) (iSub .i64 (iAdd .i64 (iWrap .i64 (iShr .u64 (iWrap .u64 (iAdd .i64 a b)) 1)) m) 1) c0 cs rest toks tys) rest toks tys) rest toks tys :: rest) toks (82 :: 1000023 :: tys))) Tr.fail) (Tr.ret (PV.tup [], Store.mk (c0 :: rot_l2 off len (sym5_n6 off len a m b (iWrap .i64 (iShr .u64 (iWrap .u64 (iAdd .i64 a b)) 1)) (iAdd .i64 (iWrap .i64 (iShr .u64 (iWrap .u64 (iAdd .i64 a b)) 1)) m) (iSub .i64 (iAdd .i64 (iWrap .i64 (iShr .u64 (iWrap .u64 (iAdd .i64 a b)) 1)) m) b) (iWrap .i64 (iShr .u64 (iWrap .u64 (iAdd .i64 a b)) 1)) (iSub .i64 (iAdd .i64 (iWrap .i64 (iShr .u64 (iWrap .u64 (iAdd .i64 a b)) 1)) m) 1) c0 cs rest toks tys) m (iSub .i64 (iAdd .i64 (iWrap .i64 (iShr .u64 (iWrap .u64 (iAdd .i64 a b)) 1)) m) (sym5_n6 off len a m b (iWrap .i64 (iShr .u64 (iWrap .u64 (iAdd .i64 a b)) 1)) (iAdd .i64 (iWrap .i64 (iShr .u64 (iWrap .u64 (iAdd .i64 a b)) 1)) m) (iSub .i64 (iAdd .i64 (iWrap .i64 (iShr .u64 (iWrap .u64 (iAdd .i64 a b)) 1)) m) b) (iWrap .i64 (iShr .u64 (iWrap .u64 (iAdd .i64 a b)) 1)) (iSub .i64 (iAdd .i64 (iWrap .i64 (iShr .u64 (iWrap .u64 (iAdd .i64 a b)) 1)) m) 1) c0 cs rest toks tys)) c0 (sym5_l2 off len a m b (iWrap .i64 (iShr .u64 (iWrap .u64 (iAdd .i64 a b)) 1)) (iAdd .i64 (iWrap .i64 (iShr .u64 (iWrap .u64 (iAdd .i64 a b)) 1)) m)
 (iSub .i64 (iAdd .i64 (iWrap .i64 (iShr .u64 (iWrap .u64 (iAdd .i64 a b)) 1)) m) b) (iWrap .i64 (iShr .u64 (iWrap .u64 (iAdd .i64 a b)) 1)) (iSub .i64 (iAdd .i64 (iWrap .i64 (iShr .u64 (iWrap .u64 (iAdd .i64 a b)) 1)) m) 1) c0 cs rest toks tys) rest toks tys :: rest) toks (82 :: 1000023 :: tys)))) (Tr.ret (PV.tup [], Store.mk (c0 :: rot_l2 off len (sym5_n6 off len a m b (iWrap .i64 (iShr .u64 (iWrap .u64 (iAdd .i64 a b)) 1)) (iAdd .i64 (iWrap .i64 (iShr .u64 (iWrap .u64 (iAdd .i64 a b)) 1)) m) (iSub .i64 (iAdd .i64 (iWrap .i64 (iShr .u64 (iWrap .u64 (iAdd .i64 a b)) 1)) m) b) (iWrap .i64 (iShr .u64 (iWrap .u64 (iAdd .i64 a b)) 1)) (iSub .i64 (iAdd .i64 (iWrap .i64 (iShr .u64 (iWrap .u64 (iAdd .i64 a b)) 1)) m) 1) c0 cs rest toks tys) m (iSub .i64 (iAdd .i64 (iWrap .i64 (iShr .u64 (iWrap .u64 (iAdd .i64 a b)) 1)) m) (sym5_n6 off len a m b (iWrap .i64 (iShr .u64 (iWrap .u64 (iAdd .i64 a b)) 1)) (iAdd .i64 (iWrap .i64 (iShr .u64 (iWrap .u64 (iAdd .i64 a b)) 1)) m) (iSub .i64 (iAdd .i64 (iWrap .i64 (iShr .u64 (iWrap .u64 (iAdd .i64 a b)) 1)) m) b) (iWrap .i64 (iShr .u64 (iWrap .u64 (iAdd .i64 a b)) 1)) (iSub .i64 (iAdd .i64 (iWrap .i64 (iShr .u64 (iWrap .u64 (iAdd .i64 a b)) 1)) m) 1) c0 cs rest toks tys)) c0 (sym5_l2 off len a m b (iWrap .i64 (iShr .u64 (iWrap .u64 (iAdd .i64 a b)) 1)) (iAdd .i64 (iWrap .i64 (iShr .u64 (iWrap .u64 (iAdd .i64 a b)) 1)) m) (iSub .i64 (iAdd .i64 (iWrap .i64 (iShr .u64 (iWrap .u64 (iAdd .i64 a b)) 1)) m) b) (iWrap .i64 (iShr .u64 (iWrap .u64 (iAdd .i64 a b)) 1)) (iSub .i64 (iAdd .i64 (iWrap .i64 (iShr .u64 (iWrap .u64 (iAdd .i64 a b)) 1)) m) 1) c0 cs rest toks tys) rest toks tys :: rest) toks (82 :: 1000023 :: tys))))) Tr.fail) (Tr.ite (iLt a (sym5_n6 off len a m b (iWrap .i64 (iShr .u64 (iWrap .u64 (iAdd .i64 a b)) 1)) (iAdd .i64 (iWrap .i64 (iShr .u64 (iWrap .u64 (iAdd .i64 a b)) 1)) m) (iSub .i64 (iAdd .i64 (iWrap .i64 (iShr .u64 (iWrap .u64 (iAdd .i64 a b)) 1)) m) b) (iWrap .i64 (iShr .u64 (iWrap .u64 (iAdd .i64 a b)) 1))
 (iSub .i64 (iAdd .i64 (iWrap .i64 (iShr .u64 (iWrap .u64 (iAdd .i64 a b)) 1)) m) 1) c0 cs rest toks tys)) (Tr.ite (iLt (sym5_n6 off len a m b (iWrap .i64 (iShr .u64 (iWrap .u64 (iAdd .i64 a b)) 1)) (iAdd .i64 (iWrap .i64 (iShr .u64 (iWrap .u64 (iAdd .i64 a b)) 1)) m) (iSub .i64 (iAdd .i64 (iWrap .i64 (iShr .u64 (iWrap .u64 (iAdd .i64 a b)) 1)) m) b) (iWrap .i64 (iShr .u64 (iWrap .u64 (iAdd .i64 a b)) 1)) (iSub .i64 (iAdd .i64 (iWrap .i64 (iShr .u64 (iWrap .u64 (iAdd .i64 a b)) 1)) m) 1) c0 cs rest toks tys) (iWrap .i64 (iShr .u64 (iWrap .u64 (iAdd .i64 a b)) 1))) (Tr.ite (rec_is0 off len a (sym5_n6 off len a m b (iWrap .i64 (iShr .u64 (iWrap .u64 (iAdd .i64 a b)) 1)) (iAdd .i64 (iWrap .i64 (iShr .u64 (iWrap .u64 (iAdd .i64 a b)) 1)) m) (iSub .i64 (iAdd .i64 (iWrap .i64 (iShr .u64 (iWrap .u64 (iAdd .i64 a b)) 1)) m) b) (iWrap .i64 (iShr .u64 (iWrap .u64 (iAdd .i64 a b)) 1)) (iSub .i64 (iAdd .i64 (iWrap .i64 (iShr .u64 (iWrap .u64 (iAdd .i64 a b)) 1)) m) 1) c0 cs rest toks tys) (iWrap .i64 (iShr .u64 (iWrap .u64 (iAdd .i64 a b)) 1)) c0 (sym5_l2 off len a m b (iWrap .i64 (iShr .u64 (iWrap .u64 (iAdd .i64 a b)) 1)) (iAdd .i64 (iWrap .i64 (iShr .u64 (iWrap .u64 (iAdd .i64 a b)) 1)) m) (iSub .i64 (iAdd .i64 (iWrap .i64 (iShr .u64 (iWrap .u64 (iAdd .i64 a b)) 1)) m) b) (iWrap .i64 (iShr .u64 (iWrap .u64 (iAdd .i64 a b)) 1)) (iSub .i64 (iAdd .i64 (iWrap .i64 (iShr .u64 (iWrap .u64 (iAdd .i64 a b)) 1)) m) 1) c0 cs rest toks tys) rest toks tys) (Tr.ite (iLt (iWrap .i64 (iShr .u64 (iWrap .u64 (iAdd .i64 a b)) 1)) (iSub .i64 (iAdd .i64 (iWrap .i64 (iShr .u64 (iWrap .u64 (iAdd .i64 a b)) 1)) m) (sym5_n6 off len a m b (iWrap .i64 (iShr .u64 (iWrap .u64 (iAdd .i64 a b)) 1)) (iAdd .i64 (iWrap .i64 (iShr .u64 (iWrap .u64 (iAdd .i64 a b)) 1)) m) (iSub .i64 (iAdd .i64 (iWrap .i64 (iShr .u64 (iWrap .u64 (iAdd .i64 a b)) 1)) m) b) (iWrap .i64 (iShr .u64 (iWrap .u64 (iAdd .i64 a b)) 1))
 (iSub .i64 (iAdd .i64 (iWrap .i64 (iShr .u64 (iWrap .u64 (iAdd .i64 a b)) 1)) m) 1) c0 cs rest toks tys))) (Tr.ite (iLt (iSub .i64 (iAdd .i64 (iWrap .i64 (iShr .u64 (iWrap .u64 (iAdd .i64 a b)) 1)) m) (sym5_n6 off len a m b (iWrap .i64 (iShr .u64 (iWrap .u64 (iAdd .i64 a b)) 1)) (iAdd .i64 (iWrap .i64 (iShr .u64 (iWrap .u64 (iAdd .i64 a b)) 1)) m) (iSub .i64 (iAdd .i64 (iWrap .i64 (iShr .u64 (iWrap .u64 (iAdd .i64 a b)) 1)) m) b) (iWrap .i64 (iShr .u64 (iWrap .u64 (iAdd .i64 a b)) 1)) (iSub .i64 (iAdd .i64 (iWrap .i64 (iShr .u64 (iWrap .u64 (iAdd .i64 a b)) 1)) m) 1) c0 cs rest toks tys)) b) (Tr.ite (rec_is0 off len (iWrap .i64 (iShr .u64 (iWrap .u64 (iAdd .i64 a b)) 1)) (iSub .i64 (iAdd .i64 (iWrap .i64 (iShr .u64 (iWrap .u64 (iAdd .i64 a b)) 1)) m) (sym5_n6 off len a m b (iWrap .i64 (iShr .u64 (iWrap .u64 (iAdd .i64 a b)) 1)) (iAdd .i64 (iWrap .i64 (iShr .u64 (iWrap .u64 (iAdd .i64 a b)) 1)) m) (iSub .i64 (iAdd .i64 (iWrap .i64 (iShr .u64 (iWrap .u64 (iAdd .i64 a b)) 1)) m) b) (iWrap .i64 (iShr .u64 (iWrap .u64 (iAdd .i64 a b)) 1)) (iSub .i64 (iAdd .i64 (iWrap .i64 (iShr .u64 (iWrap .u64 (iAdd .i64 a b)) 1)) m) 1) c0 cs rest toks tys)) b c0 (rec_l off len a (sym5_n6 off len a m b (iWrap .i64 (iShr .u64 (iWrap .u64 (iAdd .i64 a b)) 1)) (iAdd .i64 (iWrap .i64 (iShr .u64 (iWrap .u64 (iAdd .i64 a b)) 1)) m) (iSub .i64 (iAdd .i64 (iWrap .i64 (iShr .u64 (iWrap .u64 (iAdd .i64 a b)) 1)) m) b) (iWrap .i64 (iShr .u64 (iWrap .u64 (iAdd .i64 a b)) 1)) (iSub .i64 (iAdd .i64 (iWrap .i64 (iShr .u64 (iWrap .u64 (iAdd .i64 a b)) 1)) m) 1) c0 cs rest toks tys) (iWrap .i64 (iShr .u64 (iWrap .u64 (iAdd .i64 a b)) 1)) c0 (sym5_l2 off len a m b (iWrap .i64 (iShr .u64 (iWrap .u64 (iAdd .i64 a b)) 1)) (iAdd .i64 (iWrap .i64 (iShr .u64 (iWrap .u64 (iAdd .i64 a b)) 1)) m) (iSub .i64 (iAdd .i64 (iWrap .i64 (iShr .u64 (iWrap .u64 (iAdd .i64 a b)) 1)) m) b) (iWrap .i64 (iShr .u64 (iWrap .u64 (iAdd .i64 a b)) 1))
 (iSub .i64 (iAdd .i64 (iWrap .i64 (iShr .u64 (iWrap .u64 (iAdd .i64 a b)) 1)) m) 1) c0 cs rest toks tys) rest toks tys) rest toks tys) (Tr.ret (PV.tup [], Store.mk (c0 :: rec_l off len (iWrap .i64 (iShr .u64 (iWrap .u64 (iAdd .i64 a b)) 1)) (iSub .i64 (iAdd .i64 (iWrap .i64 (iShr .u64 (iWrap .u64 (iAdd .i64 a b)) 1)) m) (sym5_n6 off len a m b (iWrap .i64 (iShr .u64 (iWrap .u64 (iAdd .i64 a b)) 1)) (iAdd .i64 (iWrap .i64 (iShr .u64 (iWrap .u64 (iAdd .i64 a b)) 1)) m) (iSub .i64 (iAdd .i64 (iWrap .i64 (iShr .u64 (iWrap .u64 (iAdd .i64 a b)) 1)) m) b) (iWrap .i64 (iShr .u64 (iWrap .u64 (iAdd .i64 a b)) 1)) (iSub .i64 (iAdd .i64 (iWrap .i64 (iShr .u64 (iWrap .u64 (iAdd .i64 a b)) 1)) m) 1) c0 cs rest toks tys)) b c0 (rec_l off len a (sym5_n6 off len a m b (iWrap .i64 (iShr .u64 (iWrap .u64 (iAdd .i64 a b)) 1)) (iAdd .i64 (iWrap .i64 (iShr .u64 (iWrap .u64 (iAdd .i64 a b)) 1)) m) (iSub .i64 (iAdd .i64 (iWrap .i64 (iShr .u64 (iWrap .u64 (iAdd .i64 a b)) 1)) m) b) (iWrap .i64 (iShr .u64 (iWrap .u64 (iAdd .i64 a b)) 1)) (iSub .i64 (iAdd .i64 (iWrap .i64 (iShr .u64 (iWrap .u64 (iAdd .i64 a b)) 1)) m) 1) c0 cs rest toks tys) (iWrap .i64 (iShr .u64 (iWrap .u64 (iAdd .i64 a b)) 1)) c0 (sym5_l2 off len a m b (iWrap .i64 (iShr .u64 (iWrap .u64 (iAdd .i64 a b)) 1)) (iAdd .i64 (iWrap .i64 (iShr .u64 (iWrap .u64 (iAdd .i64 a b)) 1)) m) (iSub .i64 (iAdd .i64 (iWrap .i64 (iShr .u64 (iWrap .u64 (iAdd .i64 a b)) 1)) m) b) (iWrap .i64 (iShr .u64 (iWrap .u64 (iAdd .i64 a b)) 1)) (iSub .i64 (iAdd .i64 (iWrap .i64 (iShr .u64 (iWrap .u64 (iAdd .i64 a b)) 1)) m) 1) c0 cs rest toks tys) rest toks tys) rest toks tys :: rest) toks (82 :: 1000023 :: tys))) Tr.fail) (Tr.ret (PV.tup [], Store.mk (c0 :: rec_l off len a (sym5_n6 off len a m b (iWrap .i64 (iShr .u64 (iWrap .u64 (iAdd .i64 a b)) 1)) (iAdd .i64 (iWrap .i64 (iShr .u64 (iWrap .u64 (iAdd .i64 a b)) 1)) m) (iSub .i64 (iAdd .i64 (iWrap .i64 (iShr .u64 (iWrap .u64 (iAdd .i64 a b)) 1)) m) b)
 (iWrap .i64 (iShr .u64 (iWrap .u64 (iAdd .i64 a b)) 1)) (iSub .i64 (iAdd .i64 (iWrap .i64 (iShr .u64 (iWrap .u64 (iAdd .i64 a b)) 1)) m) 1) c0 cs rest toks tys) (iWrap .i64 (iShr .u64 (iWrap .u64 (iAdd .i64 a b)) 1)) c0 (sym5_l2 off len a m b (iWrap .i64 (iShr .u64 (iWrap .u64 (iAdd .i64 a b)) 1)) (iAdd .i64 (iWrap .i64 (iShr .u64 (iWrap .u64 (iAdd .i64 a b)) 1)) m) (iSub .i64 (iAdd .i64 (iWrap .i64 (iShr .u64 (iWrap .u64 (iAdd .i64 a b)) 1)) m) b) (iWrap .i64 (iShr .u64 (iWrap .u64 (iAdd .i64 a b)) 1)) (iSub .i64 (iAdd .i64 (iWrap .i64 (iShr .u64 (iWrap .u64 (iAdd .i64 a b)) 1)) m) 1) c0 cs rest toks tys) rest toks tys :: rest) toks (82 :: 1000023 :: tys)))) (Tr.ret (PV.tup [], Store.mk (c0 :: rec_l off len a (sym5_n6 off len a m b (iWrap .i64 (iShr .u64 (iWrap .u64 (iAdd .i64 a b)) 1)) (iAdd .i64 (iWrap .i64 (iShr .u64 (iWrap .u64 (iAdd .i64 a b)) 1)) m) (iSub .i64 (iAdd .i64 (iWrap .i64 (iShr .u64 (iWrap .u64 (iAdd .i64 a b)) 1)) m) b) (iWrap .i64 (iShr .u64 (iWrap .u64 (iAdd .i64 a b)) 1)) (iSub .i64 (iAdd .i64 (iWrap .i64 (iShr .u64 (iWrap .u64 (iAdd .i64 a b)) 1)) m) 1) c0 cs rest toks tys) (iWrap .i64 (iShr .u64 (iWrap .u64 (iAdd .i64 a b)) 1)) c0 (sym5_l2 off len a m b (iWrap .i64 (iShr .u64 (iWrap .u64 (iAdd .i64 a b)) 1)) (iAdd .i64 (iWrap .i64 (iShr .u64 (iWrap .u64 (iAdd .i64 a b)) 1)) m) (iSub .i64 (iAdd .i64 (iWrap .i64 (iShr .u64 (iWrap .u64 (iAdd .i64 a b)) 1)) m) b) (iWrap .i64 (iShr .u64 (iWrap .u64 (iAdd .i64 a b)) 1)) (iSub .i64 (iAdd .i64 (iWrap .i64 (iShr .u64 (iWrap .u64 (iAdd .i64 a b)) 1)) m) 1) c0 cs rest toks tys) rest toks tys :: rest) toks (82 :: 1000023 :: tys)))) Tr.fail) (Tr.ite (iLt (iWrap .i64 (iShr .u64 (iWrap .u64 (iAdd .i64 a b)) 1)) (iSub .i64 (iAdd .i64 (iWrap .i64 (iShr .u64 (iWrap .u64 (iAdd .i64 a b)) 1)) m) (sym5_n6 off len a m b (iWrap .i64 (iShr .u64 (iWrap .u64 (iAdd .i64 a b)) 1)) (iAdd .i64 (iWrap .i64 (iShr .u64 (iWrap .u64 (iAdd .i64 a b)) 1)) m)
 (iSub .i64 (iAdd .i64 (iWrap .i64 (iShr .u64 (iWrap .u64 (iAdd .i64 a b)) 1)) m) b) (iWrap .i64 (iShr .u64 (iWrap .u64 (iAdd .i64 a b)) 1)) (iSub .i64 (iAdd .i64 (iWrap .i64 (iShr .u64 (iWrap .u64 (iAdd .i64 a b)) 1)) m) 1) c0 cs rest toks tys))) (Tr.ite (iLt (iSub .i64 (iAdd .i64 (iWrap .i64 (iShr .u64 (iWrap .u64 (iAdd .i64 a b)) 1)) m) (sym5_n6 off len a m b (iWrap .i64 (iShr .u64 (iWrap .u64 (iAdd .i64 a b)) 1)) (iAdd .i64 (iWrap .i64 (iShr .u64 (iWrap .u64 (iAdd .i64 a b)) 1)) m) (iSub .i64 (iAdd .i64 (iWrap .i64 (iShr .u64 (iWrap .u64 (iAdd .i64 a b)) 1)) m) b) (iWrap .i64 (iShr .u64 (iWrap .u64 (iAdd .i64 a b)) 1)) (iSub .i64 (iAdd .i64 (iWrap .i64 (iShr .u64 (iWrap .u64 (iAdd .i64 a b)) 1)) m) 1) c0 cs rest toks tys)) b) (Tr.ite (rec_is0 off len (iWrap .i64 (iShr .u64 (iWrap .u64 (iAdd .i64 a b)) 1)) (iSub .i64 (iAdd .i64 (iWrap .i64 (iShr .u64 (iWrap .u64 (iAdd .i64 a b)) 1)) m) (sym5_n6 off len a m b (iWrap .i64 (iShr .u64 (iWrap .u64 (iAdd .i64 a b)) 1)) (iAdd .i64 (iWrap .i64 (iShr .u64 (iWrap .u64 (iAdd .i64 a b)) 1)) m) (iSub .i64 (iAdd .i64 (iWrap .i64 (iShr .u64 (iWrap .u64 (iAdd .i64 a b)) 1)) m) b) (iWrap .i64 (iShr .u64 (iWrap .u64 (iAdd .i64 a b)) 1)) (iSub .i64 (iAdd .i64 (iWrap .i64 (iShr .u64 (iWrap .u64 (iAdd .i64 a b)) 1)) m) 1) c0 cs rest toks tys)) b c0 (sym5_l2 off len a m b (iWrap .i64 (iShr .u64 (iWrap .u64 (iAdd .i64 a b)) 1)) (iAdd .i64 (iWrap .i64 (iShr .u64 (iWrap .u64 (iAdd .i64 a b)) 1)) m) (iSub .i64 (iAdd .i64 (iWrap .i64 (iShr .u64 (iWrap .u64 (iAdd .i64 a b)) 1)) m) b) (iWrap .i64 (iShr .u64 (iWrap .u64 (iAdd .i64 a b)) 1)) (iSub .i64 (iAdd .i64 (iWrap .i64 (iShr .u64 (iWrap .u64 (iAdd .i64 a b)) 1)) m) 1) c0 cs rest toks tys) rest toks tys) (Tr.ret (PV.tup [], Store.mk (c0 :: rec_l off len (iWrap .i64 (iShr .u64 (iWrap .u64 (iAdd .i64 a b)) 1)) (iSub .i64 (iAdd .i64 (iWrap .i64 (iShr .u64 (iWrap .u64 (iAdd .i64 a b)) 1)) m) (sym5_n6 off len a m b (iWrap .i64 (iShr .u64 (iWrap .u64 (iAdd .i64 a b)) 1))
 (iAdd .i64 (iWrap .i64 (iShr .u64 (iWrap .u64 (iAdd .i64 a b)) 1)) m) (iSub .i64 (iAdd .i64 (iWrap .i64 (iShr .u64 (iWrap .u64 (iAdd .i64 a b)) 1)) m) b) (iWrap .i64 (iShr .u64 (iWrap .u64 (iAdd .i64 a b)) 1)) (iSub .i64 (iAdd .i64 (iWrap .i64 (iShr .u64 (iWrap .u64 (iAdd .i64 a b)) 1)) m) 1) c0 cs rest toks tys)) b c0 (sym5_l2 off len a m b (iWrap .i64 (iShr .u64 (iWrap .u64 (iAdd .i64 a b)) 1)) (iAdd .i64 (iWrap .i64 (iShr .u64 (iWrap .u64 (iAdd .i64 a b)) 1)) m) (iSub .i64 (iAdd .i64 (iWrap .i64 (iShr .u64 (iWrap .u64 (iAdd .i64 a b)) 1)) m) b) (iWrap .i64 (iShr .u64 (iWrap .u64 (iAdd .i64 a b)) 1)) (iSub .i64 (iAdd .i64 (iWrap .i64 (iShr .u64 (iWrap .u64 (iAdd .i64 a b)) 1)) m) 1) c0 cs rest toks tys) rest toks tys :: rest) toks (82 :: 1000023 :: tys))) Tr.fail) (Tr.ret (PV.tup [], Store.mk (c0 :: sym5_l2 off len a m b (iWrap .i64 (iShr .u64 (iWrap .u64 (iAdd .i64 a b)) 1)) (iAdd .i64 (iWrap .i64 (iShr .u64 (iWrap .u64 (iAdd .i64 a b)) 1)) m) (iSub .i64 (iAdd .i64 (iWrap .i64 (iShr .u64 (iWrap .u64 (iAdd .i64 a b)) 1)) m) b) (iWrap .i64 (iShr .u64 (iWrap .u64 (iAdd .i64 a b)) 1)) (iSub .i64 (iAdd .i64 (iWrap .i64 (iShr .u64 (iWrap .u64 (iAdd .i64 a b)) 1)) m) 1) c0 cs rest toks tys :: rest) toks (82 :: 1000023 :: tys)))) (Tr.ret (PV.tup [], Store.mk (c0 :: sym5_l2 off len a m b (iWrap .i64 (iShr .u64 (iWrap .u64 (iAdd .i64 a b)) 1)) (iAdd .i64 (iWrap .i64 (iShr .u64 (iWrap .u64 (iAdd .i64 a b)) 1)) m) (iSub .i64 (iAdd .i64 (iWrap .i64 (iShr .u64 (iWrap .u64 (iAdd .i64 a b)) 1)) m) b) (iWrap .i64 (iShr .u64 (iWrap .u64 (iAdd .i64 a b)) 1)) (iSub .i64 (iAdd .i64 (iWrap .i64 (iShr .u64 (iWrap .u64 (iAdd .i64 a b)) 1)) m) 1) c0 cs rest toks tys :: rest) toks (82 :: 1000023 :: tys))))) (Tr.ite (iLt (iWrap .i64 (iShr .u64 (iWrap .u64 (iAdd .i64 a b)) 1)) (iSub .i64 (iAdd .i64 (iWrap .i64 (iShr .u64 (iWrap .u64 (iAdd .i64 a b)) 1)) m) (sym5_n6 off len a m b (iWrap .i64 (iShr .u64 (iWrap .u64 (iAdd .i64 a b)) 1))
 (iAdd .i64 (iWrap .i64 (iShr .u64 (iWrap .u64 (iAdd .i64 a b)) 1)) m) (iSub .i64 (iAdd .i64 (iWrap .i64 (iShr .u64 (iWrap .u64 (iAdd .i64 a b)) 1)) m) b) (iWrap .i64 (iShr .u64 (iWrap .u64 (iAdd .i64 a b)) 1)) (iSub .i64 (iAdd .i64 (iWrap .i64 (iShr .u64 (iWrap .u64 (iAdd .i64 a b)) 1)) m) 1) c0 cs rest toks tys))) (Tr.ite (iLt (iSub .i64 (iAdd .i64 (iWrap .i64 (iShr .u64 (iWrap .u64 (iAdd .i64 a b)) 1)) m) (sym5_n6 off len a m b (iWrap .i64 (iShr .u64 (iWrap .u64 (iAdd .i64 a b)) 1)) (iAdd .i64 (iWrap .i64 (iShr .u64 (iWrap .u64 (iAdd .i64 a b)) 1)) m) (iSub .i64 (iAdd .i64 (iWrap .i64 (iShr .u64 (iWrap .u64 (iAdd .i64 a b)) 1)) m) b) (iWrap .i64 (iShr .u64 (iWrap .u64 (iAdd .i64 a b)) 1)) (iSub .i64 (iAdd .i64 (iWrap .i64 (iShr .u64 (iWrap .u64 (iAdd .i64 a b)) 1)) m) 1) c0 cs rest toks tys)) b) (Tr.ite (rec_is0 off len (iWrap .i64 (iShr .u64 (iWrap .u64 (iAdd .i64 a b)) 1)) (iSub .i64 (iAdd .i64 (iWrap .i64 (iShr .u64 (iWrap .u64 (iAdd .i64 a b)) 1)) m) (sym5_n6 off len a m b (iWrap .i64 (iShr .u64 (iWrap .u64 (iAdd .i64 a b)) 1)) (iAdd .i64 (iWrap .i64 (iShr .u64 (iWrap .u64 (iAdd .i64 a b)) 1)) m) (iSub .i64 (iAdd .i64 (iWrap .i64 (iShr .u64 (iWrap .u64 (iAdd .i64 a b)) 1)) m) b) (iWrap .i64 (iShr .u64 (iWrap .u64 (iAdd .i64 a b)) 1)) (iSub .i64 (iAdd .i64 (iWrap .i64 (iShr .u64 (iWrap .u64 (iAdd .i64 a b)) 1)) m) 1) c0 cs rest toks tys)) b c0 (sym5_l2 off len a m b (iWrap .i64 (iShr .u64 (iWrap .u64 (iAdd .i64 a b)) 1)) (iAdd .i64 (iWrap .i64 (iShr .u64 (iWrap .u64 (iAdd .i64 a b)) 1)) m) (iSub .i64 (iAdd .i64 (iWrap .i64 (iShr .u64 (iWrap .u64 (iAdd .i64 a b)) 1)) m) b) (iWrap .i64 (iShr .u64 (iWrap .u64 (iAdd .i64 a b)) 1)) (iSub .i64 (iAdd .i64 (iWrap .i64 (iShr .u64 (iWrap .u64 (iAdd .i64 a b)) 1)) m) 1) c0 cs rest toks tys) rest toks tys) (Tr.ret (PV.tup [], Store.mk (c0 :: rec_l off len (iWrap .i64 (iShr .u64 (iWrap .u64 (iAdd .i64 a b)) 1)) (iSub .i64 (iAdd .i64 (iWrap .i64 (iShr .u64 (iWrap .u64 (iAdd .i64 a b)) 1)) m)
 (sym5_n6 off len a m b (iWrap .i64 (iShr .u64 (iWrap .u64 (iAdd .i64 a b)) 1)) (iAdd .i64 (iWrap .i64 (iShr .u64 (iWrap .u64 (iAdd .i64 a b)) 1)) m) (iSub .i64 (iAdd .i64 (iWrap .i64 (iShr .u64 (iWrap .u64 (iAdd .i64 a b)) 1)) m) b) (iWrap .i64 (iShr .u64 (iWrap .u64 (iAdd .i64 a b)) 1)) (iSub .i64 (iAdd .i64 (iWrap .i64 (iShr .u64 (iWrap .u64 (iAdd .i64 a b)) 1)) m) 1) c0 cs rest toks tys)) b c0 (sym5_l2 off len a m b (iWrap .i64 (iShr .u64 (iWrap .u64 (iAdd .i64 a b)) 1)) (iAdd .i64 (iWrap .i64 (iShr .u64 (iWrap .u64 (iAdd .i64 a b)) 1)) m) (iSub .i64 (iAdd .i64 (iWrap .i64 (iShr .u64 (iWrap .u64 (iAdd .i64 a b)) 1)) m) b) (iWrap .i64 (iShr .u64 (iWrap .u64 (iAdd .i64 a b)) 1)) (iSub .i64 (iAdd .i64 (iWrap .i64 (iShr .u64 (iWrap .u64 (iAdd .i64 a b)) 1)) m) 1) c0 cs rest toks tys) rest toks tys :: rest) toks (82 :: 1000023 :: tys))) Tr.fail) (Tr.ret (PV.tup [], Store.mk (c0 :: sym5_l2 off len a m b (iWrap .i64 (iShr .u64 (iWrap .u64 (iAdd .i64 a b)) 1)) (iAdd .i64 (iWrap .i64 (iShr .u64 (iWrap .u64 (iAdd .i64 a b)) 1)) m) (iSub .i64 (iAdd .i64 (iWrap .i64 (iShr .u64 (iWrap .u64 (iAdd .i64 a b)) 1)) m) b) (iWrap .i64 (iShr .u64 (iWrap .u64 (iAdd .i64 a b)) 1)) (iSub .i64 (iAdd .i64 (iWrap .i64 (iShr .u64 (iWrap .u64 (iAdd .i64 a b)) 1)) m) 1) c0 cs rest toks tys :: rest) toks (82 :: 1000023 :: tys)))) (Tr.ret (PV.tup [], Store.mk (c0 :: sym5_l2 off len a m b (iWrap .i64 (iShr .u64 (iWrap .u64 (iAdd .i64 a b)) 1)) (iAdd .i64 (iWrap .i64 (iShr .u64 (iWrap .u64 (iAdd .i64 a b)) 1)) m) (iSub .i64 (iAdd .i64 (iWrap .i64 (iShr .u64 (iWrap .u64 (iAdd .i64 a b)) 1)) m) b) (iWrap .i64 (iShr .u64 (iWrap .u64 (iAdd .i64 a b)) 1)) (iSub .i64 (iAdd .i64 (iWrap .i64 (iShr .u64 (iWrap .u64 (iAdd .i64 a b)) 1)) m) 1) c0 cs rest toks tys :: rest) toks (82 :: 1000023 :: tys)))))) (Tr.ite (iLt a (sym5_n6 off len a m b (iWrap .i64 (iShr .u64 (iWrap .u64 (iAdd .i64 a b)) 1)) (iAdd .i64 (iWrap .i64 (iShr .u64 (iWrap .u64 (iAdd .i64 a b)) 1)) m)
 (iSub .i64 (iAdd .i64 (iWrap .i64 (iShr .u64 (iWrap .u64 (iAdd .i64 a b)) 1)) m) b) (iWrap .i64 (iShr .u64 (iWrap .u64 (iAdd .i64 a b)) 1)) (iSub .i64 (iAdd .i64 (iWrap .i64 (iShr .u64 (iWrap .u64 (iAdd .i64 a b)) 1)) m) 1) c0 cs rest toks tys)) (Tr.ite (iLt (sym5_n6 off len a m b (iWrap .i64 (iShr .u64 (iWrap .u64 (iAdd .i64 a b)) 1)) (iAdd .i64 (iWrap .i64 (iShr .u64 (iWrap .u64 (iAdd .i64 a b)) 1)) m) (iSub .i64 (iAdd .i64 (iWrap .i64 (iShr .u64 (iWrap .u64 (iAdd .i64 a b)) 1)) m) b) (iWrap .i64 (iShr .u64 (iWrap .u64 (iAdd .i64 a b)) 1)) (iSub .i64 (iAdd .i64 (iWrap .i64 (iShr .u64 (iWrap .u64 (iAdd .i64 a b)) 1)) m) 1) c0 cs rest toks tys) (iWrap .i64 (iShr .u64 (iWrap .u64 (iAdd .i64 a b)) 1))) (Tr.ite (rec_is0 off len a (sym5_n6 off len a m b (iWrap .i64 (iShr .u64 (iWrap .u64 (iAdd .i64 a b)) 1)) (iAdd .i64 (iWrap .i64 (iShr .u64 (iWrap .u64 (iAdd .i64 a b)) 1)) m) (iSub .i64 (iAdd .i64 (iWrap .i64 (iShr .u64 (iWrap .u64 (iAdd .i64 a b)) 1)) m) b) (iWrap .i64 (iShr .u64 (iWrap .u64 (iAdd .i64 a b)) 1)) (iSub .i64 (iAdd .i64 (iWrap .i64 (iShr .u64 (iWrap .u64 (iAdd .i64 a b)) 1)) m) 1) c0 cs rest toks tys) (iWrap .i64 (iShr .u64 (iWrap .u64 (iAdd .i64 a b)) 1)) c0 (sym5_l2 off len a m b (iWrap .i64 (iShr .u64 (iWrap .u64 (iAdd .i64 a b)) 1)) (iAdd .i64 (iWrap .i64 (iShr .u64 (iWrap .u64 (iAdd .i64 a b)) 1)) m) (iSub .i64 (iAdd .i64 (iWrap .i64 (iShr .u64 (iWrap .u64 (iAdd .i64 a b)) 1)) m) b) (iWrap .i64 (iShr .u64 (iWrap .u64 (iAdd .i64 a b)) 1)) (iSub .i64 (iAdd .i64 (iWrap .i64 (iShr .u64 (iWrap .u64 (iAdd .i64 a b)) 1)) m) 1) c0 cs rest toks tys) rest toks tys) (Tr.ite (iLt (iWrap .i64 (iShr .u64 (iWrap .u64 (iAdd .i64 a b)) 1)) (iSub .i64 (iAdd .i64 (iWrap .i64 (iShr .u64 (iWrap .u64 (iAdd .i64 a b)) 1)) m) (sym5_n6 off len a m b (iWrap .i64 (iShr .u64 (iWrap .u64 (iAdd .i64 a b)) 1)) (iAdd .i64 (iWrap .i64 (iShr .u64 (iWrap .u64 (iAdd .i64 a b)) 1)) m) (iSub .i64 (iAdd .i64 (iWrap .i64 (iShr .u64 (iWrap .u64 (iAdd .i64 a b)) 1)) m) b)
 (iWrap .i64 (iShr .u64 (iWrap .u64 (iAdd .i64 a b)) 1)) (iSub .i64 (iAdd .i64 (iWrap .i64 (iShr .u64 (iWrap .u64 (iAdd .i64 a b)) 1)) m) 1) c0 cs rest toks tys))) (Tr.ite (iLt (iSub .i64 (iAdd .i64 (iWrap .i64 (iShr .u64 (iWrap .u64 (iAdd .i64 a b)) 1)) m) (sym5_n6 off len a m b (iWrap .i64 (iShr .u64 (iWrap .u64 (iAdd .i64 a b)) 1)) (iAdd .i64 (iWrap .i64 (iShr .u64 (iWrap .u64 (iAdd .i64 a b)) 1)) m) (iSub .i64 (iAdd .i64 (iWrap .i64 (iShr .u64 (iWrap .u64 (iAdd .i64 a b)) 1)) m) b) (iWrap .i64 (iShr .u64 (iWrap .u64 (iAdd .i64 a b)) 1)) (iSub .i64 (iAdd .i64 (iWrap .i64 (iShr .u64 (iWrap .u64 (iAdd .i64 a b)) 1)) m) 1) c0 cs rest toks tys)) b) (Tr.ite (rec_is0 off len (iWrap .i64 (iShr .u64 (iWrap .u64 (iAdd .i64 a b)) 1)) (iSub .i64 (iAdd .i64 (iWrap .i64 (iShr .u64 (iWrap .u64 (iAdd .i64 a b)) 1)) m) (sym5_n6 off len a m b (iWrap .i64 (iShr .u64 (iWrap .u64 (iAdd .i64 a b)) 1)) (iAdd .i64 (iWrap .i64 (iShr .u64 (iWrap .u64 (iAdd .i64 a b)) 1)) m) (iSub .i64 (iAdd .i64 (iWrap .i64 (iShr .u64 (iWrap .u64 (iAdd .i64 a b)) 1)) m) b) (iWrap .i64 (iShr .u64 (iWrap .u64 (iAdd .i64 a b)) 1)) (iSub .i64 (iAdd .i64 (iWrap .i64 (iShr .u64 (iWrap .u64 (iAdd .i64 a b)) 1)) m) 1) c0 cs rest toks tys)) b c0 (rec_l off len a (sym5_n6 off len a m b (iWrap .i64 (iShr .u64 (iWrap .u64 (iAdd .i64 a b)) 1)) (iAdd .i64 (iWrap .i64 (iShr .u64 (iWrap .u64 (iAdd .i64 a b)) 1)) m) (iSub .i64 (iAdd .i64 (iWrap .i64 (iShr .u64 (iWrap .u64 (iAdd .i64 a b)) 1)) m) b) (iWrap .i64 (iShr .u64 (iWrap .u64 (iAdd .i64 a b)) 1)) (iSub .i64 (iAdd .i64 (iWrap .i64 (iShr .u64 (iWrap .u64 (iAdd .i64 a b)) 1)) m) 1) c0 cs rest toks tys) (iWrap .i64 (iShr .u64 (iWrap .u64 (iAdd .i64 a b)) 1)) c0 (sym5_l2 off len a m b (iWrap .i64 (iShr .u64 (iWrap .u64 (iAdd .i64 a b)) 1)) (iAdd .i64 (iWrap .i64 (iShr .u64 (iWrap .u64 (iAdd .i64 a b)) 1)) m) (iSub .i64 (iAdd .i64 (iWrap .i64 (iShr .u64 (iWrap .u64 (iAdd .i64 a b)) 1)) m) b) (iWrap .i64 (iShr .u64 (iWrap .u64 (iAdd .i64 a b)) 1))
 (iSub .i64 (iAdd .i64 (iWrap .i64 (iShr .u64 (iWrap .u64 (iAdd .i64 a b)) 1)) m) 1) c0 cs rest toks tys) rest toks tys) rest toks tys) (Tr.ret (PV.tup [], Store.mk (c0 :: rec_l off len (iWrap .i64 (iShr .u64 (iWrap .u64 (iAdd .i64 a b)) 1)) (iSub .i64 (iAdd .i64 (iWrap .i64 (iShr .u64 (iWrap .u64 (iAdd .i64 a b)) 1)) m) (sym5_n6 off len a m b (iWrap .i64 (iShr .u64 (iWrap .u64 (iAdd .i64 a b)) 1)) (iAdd .i64 (iWrap .i64 (iShr .u64 (iWrap .u64 (iAdd .i64 a b)) 1)) m) (iSub .i64 (iAdd .i64 (iWrap .i64 (iShr .u64 (iWrap .u64 (iAdd .i64 a b)) 1)) m) b) (iWrap .i64 (iShr .u64 (iWrap .u64 (iAdd .i64 a b)) 1)) (iSub .i64 (iAdd .i64 (iWrap .i64 (iShr .u64 (iWrap .u64 (iAdd .i64 a b)) 1)) m) 1) c0 cs rest toks tys)) b c0 (rec_l off len a (sym5_n6 off len a m b (iWrap .i64 (iShr .u64 (iWrap .u64 (iAdd .i64 a b)) 1)) (iAdd .i64 (iWrap .i64 (iShr .u64 (iWrap .u64 (iAdd .i64 a b)) 1)) m) (iSub .i64 (iAdd .i64 (iWrap .i64 (iShr .u64 (iWrap .u64 (iAdd .i64 a b)) 1)) m) b) (iWrap .i64 (iShr .u64 (iWrap .u64 (iAdd .i64 a b)) 1)) (iSub .i64 (iAdd .i64 (iWrap .i64 (iShr .u64 (iWrap .u64 (iAdd .i64 a b)) 1)) m) 1) c0 cs rest toks tys) (iWrap .i64 (iShr .u64 (iWrap .u64 (iAdd .i64 a b)) 1)) c0 (sym5_l2 off len a m b (iWrap .i64 (iShr .u64 (iWrap .u64 (iAdd .i64 a b)) 1)) (iAdd .i64 (iWrap .i64 (iShr .u64 (iWrap .u64 (iAdd .i64 a b)) 1)) m) (iSub .i64 (iAdd .i64 (iWrap .i64 (iShr .u64 (iWrap .u64 (iAdd .i64 a b)) 1)) m) b) (iWrap .i64 (iShr .u64 (iWrap .u64 (iAdd .i64 a b)) 1)) (iSub .i64 (iAdd .i64 (iWrap .i64 (iShr .u64 (iWrap .u64 (iAdd .i64 a b)) 1)) m) 1) c0 cs rest toks tys) rest toks tys) rest toks tys :: rest) toks (82 :: 1000023 :: tys))) Tr.fail) (Tr.ret (PV.tup [], Store.mk (c0 :: rec_l off len a (sym5_n6 off len a m b (iWrap .i64 (iShr .u64 (iWrap .u64 (iAdd .i64 a b)) 1)) (iAdd .i64 (iWrap .i64 (iShr .u64 (iWrap .u64 (iAdd .i64 a b)) 1)) m) (iSub .i64 (iAdd .i64 (iWrap .i64 (iShr .u64 (iWrap .u64 (iAdd .i64 a b)) 1)) m) b)
 (iWrap .i64 (iShr .u64 (iWrap .u64 (iAdd .i64 a b)) 1)) (iSub .i64 (iAdd .i64 (iWrap .i64 (iShr .u64 (iWrap .u64 (iAdd .i64 a b)) 1)) m) 1) c0 cs rest toks tys) (iWrap .i64 (iShr .u64 (iWrap .u64 (iAdd .i64 a b)) 1)) c0 (sym5_l2 off len a m b (iWrap .i64 (iShr .u64 (iWrap .u64 (iAdd .i64 a b)) 1)) (iAdd .i64 (iWrap .i64 (iShr .u64 (iWrap .u64 (iAdd .i64 a b)) 1)) m) (iSub .i64 (iAdd .i64 (iWrap .i64 (iShr .u64 (iWrap .u64 (iAdd .i64 a b)) 1)) m) b) (iWrap .i64 (iShr .u64 (iWrap .u64 (iAdd .i64 a b)) 1)) (iSub .i64 (iAdd .i64 (iWrap .i64 (iShr .u64 (iWrap .u64 (iAdd .i64 a b)) 1)) m) 1) c0 cs rest toks tys) rest toks tys :: rest) toks (82 :: 1000023 :: tys)))) (Tr.ret (PV.tup [], Store.mk (c0 :: rec_l off len a (sym5_n6 off len a m b (iWrap .i64 (iShr .u64 (iWrap .u64 (iAdd .i64 a b)) 1)) (iAdd .i64 (iWrap .i64 (iShr .u64 (iWrap .u64 (iAdd .i64 a b)) 1)) m) (iSub .i64 (iAdd .i64 (iWrap .i64 (iShr .u64 (iWrap .u64 (iAdd .i64 a b)) 1)) m) b) (iWrap .i64 (iShr .u64 (iWrap .u64 (iAdd .i64 a b)) 1)) (iSub .i64 (iAdd .i64 (iWrap .i64 (iShr .u64 (iWrap .u64 (iAdd .i64 a b)) 1)) m) 1) c0 cs rest toks tys) (iWrap .i64 (iShr .u64 (iWrap .u64 (iAdd .i64 a b)) 1)) c0 (sym5_l2 off len a m b (iWrap .i64 (iShr .u64 (iWrap .u64 (iAdd .i64 a b)) 1)) (iAdd .i64 (iWrap .i64 (iShr .u64 (iWrap .u64 (iAdd .i64 a b)) 1)) m) (iSub .i64 (iAdd .i64 (iWrap .i64 (iShr .u64 (iWrap .u64 (iAdd .i64 a b)) 1)) m) b) (iWrap .i64 (iShr .u64 (iWrap .u64 (iAdd .i64 a b)) 1)) (iSub .i64 (iAdd .i64 (iWrap .i64 (iShr .u64 (iWrap .u64 (iAdd .i64 a b)) 1)) m) 1) c0 cs rest toks tys) rest toks tys :: rest) toks (82 :: 1000023 :: tys)))) Tr.fail) (Tr.ite (iLt (iWrap .i64 (iShr .u64 (iWrap .u64 (iAdd .i64 a b)) 1)) (iSub .i64 (iAdd .i64 (iWrap .i64 (iShr .u64 (iWrap .u64 (iAdd .i64 a b)) 1)) m) (sym5_n6 off len a m b (iWrap .i64 (iShr .u64 (iWrap .u64 (iAdd .i64 a b)) 1)) (iAdd .i64 (iWrap .i64 (iShr .u64 (iWrap .u64 (iAdd .i64 a b)) 1)) m)
 (iSub .i64 (iAdd .i64 (iWrap .i64 (iShr .u64 (iWrap .u64 (iAdd .i64 a b)) 1)) m) b) (iWrap .i64 (iShr .u64 (iWrap .u64 (iAdd .i64 a b)) 1)) (iSub .i64 (iAdd .i64 (iWrap .i64 (iShr .u64 (iWrap .u64 (iAdd .i64 a b)) 1)) m) 1) c0 cs rest toks tys))) (Tr.ite (iLt (iSub .i64 (iAdd .i64 (iWrap .i64 (iShr .u64 (iWrap .u64 (iAdd .i64 a b)) 1)) m) (sym5_n6 off len a m b (iWrap .i64 (iShr .u64 (iWrap .u64 (iAdd .i64 a b)) 1)) (iAdd .i64 (iWrap .i64 (iShr .u64 (iWrap .u64 (iAdd .i64 a b)) 1)) m) (iSub .i64 (iAdd .i64 (iWrap .i64 (iShr .u64 (iWrap .u64 (iAdd .i64 a b)) 1)) m) b) (iWrap .i64 (iShr .u64 (iWrap .u64 (iAdd .i64 a b)) 1)) (iSub .i64 (iAdd .i64 (iWrap .i64 (iShr .u64 (iWrap .u64 (iAdd .i64 a b)) 1)) m) 1) c0 cs rest toks tys)) b) (Tr.ite (rec_is0 off len (iWrap .i64 (iShr .u64 (iWrap .u64 (iAdd .i64 a b)) 1)) (iSub .i64 (iAdd .i64 (iWrap .i64 (iShr .u64 (iWrap .u64 (iAdd .i64 a b)) 1)) m) (sym5_n6 off len a m b (iWrap .i64 (iShr .u64 (iWrap .u64 (iAdd .i64 a b)) 1)) (iAdd .i64 (iWrap .i64 (iShr .u64 (iWrap .u64 (iAdd .i64 a b)) 1)) m) (iSub .i64 (iAdd .i64 (iWrap .i64 (iShr .u64 (iWrap .u64 (iAdd .i64 a b)) 1)) m) b) (iWrap .i64 (iShr .u64 (iWrap .u64 (iAdd .i64 a b)) 1)) (iSub .i64 (iAdd .i64 (iWrap .i64 (iShr .u64 (iWrap .u64 (iAdd .i64 a b)) 1)) m) 1) c0 cs rest toks tys)) b c0 (sym5_l2 off len a m b (iWrap .i64 (iShr .u64 (iWrap .u64 (iAdd .i64 a b)) 1)) (iAdd .i64 (iWrap .i64 (iShr .u64 (iWrap .u64 (iAdd .i64 a b)) 1)) m) (iSub .i64 (iAdd .i64 (iWrap .i64 (iShr .u64 (iWrap .u64 (iAdd .i64 a b)) 1)) m) b) (iWrap .i64 (iShr .u64 (iWrap .u64 (iAdd .i64 a b)) 1)) (iSub .i64 (iAdd .i64 (iWrap .i64 (iShr .u64 (iWrap .u64 (iAdd .i64 a b)) 1)) m) 1) c0 cs rest toks tys) rest toks tys) (Tr.ret (PV.tup [], Store.mk (c0 :: rec_l off len (iWrap .i64 (iShr .u64 (iWrap .u64 (iAdd .i64 a b)) 1)) (iSub .i64 (iAdd .i64 (iWrap .i64 (iShr .u64 (iWrap .u64 (iAdd .i64 a b)) 1)) m) (sym5_n6 off len a m b (iWrap .i64 (iShr .u64 (iWrap .u64 (iAdd .i64 a b)) 1))
 (iAdd .i64 (iWrap .i64 (iShr .u64 (iWrap .u64 (iAdd .i64 a b)) 1)) m) (iSub .i64 (iAdd .i64 (iWrap .i64 (iShr .u64 (iWrap .u64 (iAdd .i64 a b)) 1)) m) b) (iWrap .i64 (iShr .u64 (iWrap .u64 (iAdd .i64 a b)) 1)) (iSub .i64 (iAdd .i64 (iWrap .i64 (iShr .u64 (iWrap .u64 (iAdd .i64 a b)) 1)) m) 1) c0 cs rest toks tys)) b c0 (sym5_l2 off len a m b (iWrap .i64 (iShr .u64 (iWrap .u64 (iAdd .i64 a b)) 1)) (iAdd .i64 (iWrap .i64 (iShr .u64 (iWrap .u64 (iAdd .i64 a b)) 1)) m) (iSub .i64 (iAdd .i64 (iWrap .i64 (iShr .u64 (iWrap .u64 (iAdd .i64 a b)) 1)) m) b) (iWrap .i64 (iShr .u64 (iWrap .u64 (iAdd .i64 a b)) 1)) (iSub .i64 (iAdd .i64 (iWrap .i64 (iShr .u64 (iWrap .u64 (iAdd .i64 a b)) 1)) m) 1) c0 cs rest toks tys) rest toks tys :: rest) toks (82 :: 1000023 :: tys))) Tr.fail) (Tr.ret (PV.tup [], Store.mk (c0 :: sym5_l2 off len a m b (iWrap .i64 (iShr .u64 (iWrap .u64 (iAdd .i64 a b)) 1)) (iAdd .i64 (iWrap .i64 (iShr .u64 (iWrap .u64 (iAdd .i64 a b)) 1)) m) (iSub .i64 (iAdd .i64 (iWrap .i64 (iShr .u64 (iWrap .u64 (iAdd .i64 a b)) 1)) m) b) (iWrap .i64 (iShr .u64 (iWrap .u64 (iAdd .i64 a b)) 1)) (iSub .i64 (iAdd .i64 (iWrap .i64 (iShr .u64 (iWrap .u64 (iAdd .i64 a b)) 1)) m) 1) c0 cs rest toks tys :: rest) toks (82 :: 1000023 :: tys)))) (Tr.ret (PV.tup [], Store.mk (c0 :: sym5_l2 off len a m b (iWrap .i64 (iShr .u64 (iWrap .u64 (iAdd .i64 a b)) 1)) (iAdd .i64 (iWrap .i64 (iShr .u64 (iWrap .u64 (iAdd .i64 a b)) 1)) m) (iSub .i64 (iAdd .i64 (iWrap .i64 (iShr .u64 (iWrap .u64 (iAdd .i64 a b)) 1)) m) b) (iWrap .i64 (iShr .u64 (iWrap .u64 (iAdd .i64 a b)) 1)) (iSub .i64 (iAdd .i64 (iWrap .i64 (iShr .u64 (iWrap .u64 (iAdd .i64 a b)) 1)) m) 1) c0 cs rest toks tys :: rest) toks (82 :: 1000023 :: tys))))) (Tr.ite (iLt (iWrap .i64 (iShr .u64 (iWrap .u64 (iAdd .i64 a b)) 1)) (iSub .i64 (iAdd .i64 (iWrap .i64 (iShr .u64 (iWrap .u64 (iAdd .i64 a b)) 1)) m) (sym5_n6 off len a m b (iWrap .i64 (iShr .u64 (iWrap .u64 (iAdd .i64 a b)) 1))
 (iAdd .i64 (iWrap .i64 (iShr .u64 (iWrap .u64 (iAdd .i64 a b)) 1)) m) (iSub .i64 (iAdd .i64 (iWrap .i64 (iShr .u64 (iWrap .u64 (iAdd .i64 a b)) 1)) m) b) (iWrap .i64 (iShr .u64 (iWrap .u64 (iAdd .i64 a b)) 1)) (iSub .i64 (iAdd .i64 (iWrap .i64 (iShr .u64 (iWrap .u64 (iAdd .i64 a b)) 1)) m) 1) c0 cs rest toks tys))) (Tr.ite (iLt (iSub .i64 (iAdd .i64 (iWrap .i64 (iShr .u64 (iWrap .u64 (iAdd .i64 a b)) 1)) m) (sym5_n6 off len a m b (iWrap .i64 (iShr .u64 (iWrap .u64 (iAdd .i64 a b)) 1)) (iAdd .i64 (iWrap .i64 (iShr .u64 (iWrap .u64 (iAdd .i64 a b)) 1)) m) (iSub .i64 (iAdd .i64 (iWrap .i64 (iShr .u64 (iWrap .u64 (iAdd .i64 a b)) 1)) m) b) (iWrap .i64 (iShr .u64 (iWrap .u64 (iAdd .i64 a b)) 1)) (iSub .i64 (iAdd .i64 (iWrap .i64 (iShr .u64 (iWrap .u64 (iAdd .i64 a b)) 1)) m) 1) c0 cs rest toks tys)) b) (Tr.ite (rec_is0 off len (iWrap .i64 (iShr .u64 (iWrap .u64 (iAdd .i64 a b)) 1)) (iSub .i64 (iAdd .i64 (iWrap .i64 (iShr .u64 (iWrap .u64 (iAdd .i64 a b)) 1)) m) (sym5_n6 off len a m b (iWrap .i64 (iShr .u64 (iWrap .u64 (iAdd .i64 a b)) 1)) (iAdd .i64 (iWrap .i64 (iShr .u64 (iWrap .u64 (iAdd .i64 a b)) 1)) m) (iSub .i64 (iAdd .i64 (iWrap .i64 (iShr .u64 (iWrap .u64 (iAdd .i64 a b)) 1)) m) b) (iWrap .i64 (iShr .u64 (iWrap .u64 (iAdd .i64 a b)) 1)) (iSub .i64 (iAdd .i64 (iWrap .i64 (iShr .u64 (iWrap .u64 (iAdd .i64 a b)) 1)) m) 1) c0 cs rest toks tys)) b c0 (sym5_l2 off len a m b (iWrap .i64 (iShr .u64 (iWrap .u64 (iAdd .i64 a b)) 1)) (iAdd .i64 (iWrap .i64 (iShr .u64 (iWrap .u64 (iAdd .i64 a b)) 1)) m) (iSub .i64 (iAdd .i64 (iWrap .i64 (iShr .u64 (iWrap .u64 (iAdd .i64 a b)) 1)) m) b) (iWrap .i64 (iShr .u64 (iWrap .u64 (iAdd .i64 a b)) 1)) (iSub .i64 (iAdd .i64 (iWrap .i64 (iShr .u64 (iWrap .u64 (iAdd .i64 a b)) 1)) m) 1) c0 cs rest toks tys) rest toks tys) (Tr.ret (PV.tup [], Store.mk (c0 :: rec_l off len (iWrap .i64 (iShr .u64 (iWrap .u64 (iAdd .i64 a b)) 1)) (iSub .i64 (iAdd .i64 (iWrap .i64 (iShr .u64 (iWrap .u64 (iAdd .i64 a b)) 1)) m)
 (sym5_n6 off len a m b (iWrap .i64 (iShr .u64 (iWrap .u64 (iAdd .i64 a b)) 1)) (iAdd .i64 (iWrap .i64 (iShr .u64 (iWrap .u64 (iAdd .i64 a b)) 1)) m) (iSub .i64 (iAdd .i64 (iWrap .i64 (iShr .u64 (iWrap .u64 (iAdd .i64 a b)) 1)) m) b) (iWrap .i64 (iShr .u64 (iWrap .u64 (iAdd .i64 a b)) 1)) (iSub .i64 (iAdd .i64 (iWrap .i64 (iShr .u64 (iWrap .u64 (iAdd .i64 a b)) 1)) m) 1) c0 cs rest toks tys)) b c0 (sym5_l2 off len a m b (iWrap .i64 (iShr .u64 (iWrap .u64 (iAdd .i64 a b)) 1)) (iAdd .i64 (iWrap .i64 (iShr .u64 (iWrap .u64 (iAdd .i64 a b)) 1)) m) (iSub .i64 (iAdd .i64 (iWrap .i64 (iShr .u64 (iWrap .u64 (iAdd .i64 a b)) 1)) m) b) (iWrap .i64 (iShr .u64 (iWrap .u64 (iAdd .i64 a b)) 1)) (iSub .i64 (iAdd .i64 (iWrap .i64 (iShr .u64 (iWrap .u64 (iAdd .i64 a b)) 1)) m) 1) c0 cs rest toks tys) rest toks tys :: rest) toks (82 :: 1000023 :: tys))) Tr.fail) (Tr.ret (PV.tup [], Store.mk (c0 :: sym5_l2 off len a m b (iWrap .i64 (iShr .u64 (iWrap .u64 (iAdd .i64 a b)) 1)) (iAdd .i64 (iWrap .i64 (iShr .u64 (iWrap .u64 (iAdd .i64 a b)) 1)) m) (iSub .i64 (iAdd .i64 (iWrap .i64 (iShr .u64 (iWrap .u64 (iAdd .i64 a b)) 1)) m) b) (iWrap .i64 (iShr .u64 (iWrap .u64 (iAdd .i64 a b)) 1)) (iSub .i64 (iAdd .i64 (iWrap .i64 (iShr .u64 (iWrap .u64 (iAdd .i64 a b)) 1)) m) 1) c0 cs rest toks tys :: rest) toks (82 :: 1000023 :: tys)))) (Tr.ret (PV.tup [], Store.mk (c0 :: sym5_l2 off len a m b (iWrap .i64 (iShr .u64 (iWrap .u64 (iAdd .i64 a b)) 1)) (iAdd .i64 (iWrap .i64 (iShr .u64 (iWrap .u64 (iAdd .i64 a b)) 1)) m) (iSub .i64 (iAdd .i64 (iWrap .i64 (iShr .u64 (iWrap .u64 (iAdd .i64 a b)) 1)) m) b) (iWrap .i64 (iShr .u64 (iWrap .u64 (iAdd .i64 a b)) 1)) (iSub .i64 (iAdd .i64 (iWrap .i64 (iShr .u64 (iWrap .u64 (iAdd .i64 a b)) 1)) m) 1) c0 cs rest toks tys :: rest) toks (82 :: 1000023 :: tys)))))) Tr.fail) (Tr.ite (sym5_is0 off len a m b (iWrap .i64 (iShr .u64 (iWrap .u64 (iAdd .i64 a b)) 1)) (iAdd .i64 (iWrap .i64 (iShr .u64 (iWrap .u64 (iAdd .i64 a b)) 1)) m) a m
 (iSub .i64 (iAdd .i64 (iWrap .i64 (iShr .u64 (iWrap .u64 (iAdd .i64 a b)) 1)) m) 1) c0 cs rest toks tys) (Tr.ite (iLt (sym5_n6 off len a m b (iWrap .i64 (iShr .u64 (iWrap .u64 (iAdd .i64 a b)) 1)) (iAdd .i64 (iWrap .i64 (iShr .u64 (iWrap .u64 (iAdd .i64 a b)) 1)) m) a m (iSub .i64 (iAdd .i64 (iWrap .i64 (iShr .u64 (iWrap .u64 (iAdd .i64 a b)) 1)) m) 1) c0 cs rest toks tys) m) (Tr.ite (iLt m (iSub .i64 (iAdd .i64 (iWrap .i64 (iShr .u64 (iWrap .u64 (iAdd .i64 a b)) 1)) m) (sym5_n6 off len a m b (iWrap .i64 (iShr .u64 (iWrap .u64 (iAdd .i64 a b)) 1)) (iAdd .i64 (iWrap .i64 (iShr .u64 (iWrap .u64 (iAdd .i64 a b)) 1)) m) a m (iSub .i64 (iAdd .i64 (iWrap .i64 (iShr .u64 (iWrap .u64 (iAdd .i64 a b)) 1)) m) 1) c0 cs rest toks tys))) (Tr.ite (rot_is0 off len (sym5_n6 off len a m b (iWrap .i64 (iShr .u64 (iWrap .u64 (iAdd .i64 a b)) 1)) (iAdd .i64 (iWrap .i64 (iShr .u64 (iWrap .u64 (iAdd .i64 a b)) 1)) m) a m (iSub .i64 (iAdd .i64 (iWrap .i64 (iShr .u64 (iWrap .u64 (iAdd .i64 a b)) 1)) m) 1) c0 cs rest toks tys) m (iSub .i64 (iAdd .i64 (iWrap .i64 (iShr .u64 (iWrap .u64 (iAdd .i64 a b)) 1)) m) (sym5_n6 off len a m b (iWrap .i64 (iShr .u64 (iWrap .u64 (iAdd .i64 a b)) 1)) (iAdd .i64 (iWrap .i64 (iShr .u64 (iWrap .u64 (iAdd .i64 a b)) 1)) m) a m (iSub .i64 (iAdd .i64 (iWrap .i64 (iShr .u64 (iWrap .u64 (iAdd .i64 a b)) 1)) m) 1) c0 cs rest toks tys)) c0 (sym5_l2 off len a m b (iWrap .i64 (iShr .u64 (iWrap .u64 (iAdd .i64 a b)) 1)) (iAdd .i64 (iWrap .i64 (iShr .u64 (iWrap .u64 (iAdd .i64 a b)) 1)) m) a m (iSub .i64 (iAdd .i64 (iWrap .i64 (iShr .u64 (iWrap .u64 (iAdd .i64 a b)) 1)) m) 1) c0 cs rest toks tys) rest toks tys) (Tr.ite (iLt a (sym5_n6 off len a m b (iWrap .i64 (iShr .u64 (iWrap .u64 (iAdd .i64 a b)) 1)) (iAdd .i64 (iWrap .i64 (iShr .u64 (iWrap .u64 (iAdd .i64 a b)) 1)) m) a m (iSub .i64 (iAdd .i64 (iWrap .i64 (iShr .u64 (iWrap .u64 (iAdd .i64 a b)) 1)) m) 1) c0 cs rest toks tys)) (Tr.ite (iLt
 (sym5_n6 off len a m b (iWrap .i64 (iShr .u64 (iWrap .u64 (iAdd .i64 a b)) 1)) (iAdd .i64 (iWrap .i64 (iShr .u64 (iWrap .u64 (iAdd .i64 a b)) 1)) m) a m (iSub .i64 (iAdd .i64 (iWrap .i64 (iShr .u64 (iWrap .u64 (iAdd .i64 a b)) 1)) m) 1) c0 cs rest toks tys) (iWrap .i64 (iShr .u64 (iWrap .u64 (iAdd .i64 a b)) 1))) (Tr.ite (rec_is0 off len a (sym5_n6 off len a m b (iWrap .i64 (iShr .u64 (iWrap .u64 (iAdd .i64 a b)) 1)) (iAdd .i64 (iWrap .i64 (iShr .u64 (iWrap .u64 (iAdd .i64 a b)) 1)) m) a m (iSub .i64 (iAdd .i64 (iWrap .i64 (iShr .u64 (iWrap .u64 (iAdd .i64 a b)) 1)) m) 1) c0 cs rest toks tys) (iWrap .i64 (iShr .u64 (iWrap .u64 (iAdd .i64 a b)) 1)) c0 (rot_l2 off len (sym5_n6 off len a m b (iWrap .i64 (iShr .u64 (iWrap .u64 (iAdd .i64 a b)) 1)) (iAdd .i64 (iWrap .i64 (iShr .u64 (iWrap .u64 (iAdd .i64 a b)) 1)) m) a m (iSub .i64 (iAdd .i64 (iWrap .i64 (iShr .u64 (iWrap .u64 (iAdd .i64 a b)) 1)) m) 1) c0 cs rest toks tys) m (iSub .i64 (iAdd .i64 (iWrap .i64 (iShr .u64 (iWrap .u64 (iAdd .i64 a b)) 1)) m) (sym5_n6 off len a m b (iWrap .i64 (iShr .u64 (iWrap .u64 (iAdd .i64 a b)) 1)) (iAdd .i64 (iWrap .i64 (iShr .u64 (iWrap .u64 (iAdd .i64 a b)) 1)) m) a m (iSub .i64 (iAdd .i64 (iWrap .i64 (iShr .u64 (iWrap .u64 (iAdd .i64 a b)) 1)) m) 1) c0 cs rest toks tys)) c0 (sym5_l2 off len a m b (iWrap .i64 (iShr .u64 (iWrap .u64 (iAdd .i64 a b)) 1)) (iAdd .i64 (iWrap .i64 (iShr .u64 (iWrap .u64 (iAdd .i64 a b)) 1)) m) a m (iSub .i64 (iAdd .i64 (iWrap .i64 (iShr .u64 (iWrap .u64 (iAdd .i64 a b)) 1)) m) 1) c0 cs rest toks tys) rest toks tys) rest toks tys) (Tr.ite (iLt (iWrap .i64 (iShr .u64 (iWrap .u64 (iAdd .i64 a b)) 1)) (iSub .i64 (iAdd .i64 (iWrap .i64 (iShr .u64 (iWrap .u64 (iAdd .i64 a b)) 1)) m) (sym5_n6 off len a m b (iWrap .i64 (iShr .u64 (iWrap .u64 (iAdd .i64 a b)) 1)) (iAdd .i64 (iWrap .i64 (iShr .u64 (iWrap .u64 (iAdd .i64 a b)) 1)) m) a m (iSub .i64 (iAdd .i64 (iWrap .i64 (iShr .u64 (iWrap .u64 (iAdd .i64 a b)) 1)) m) 1) c0 cs rest toks tys))) (Tr.ite (iLt
 (iSub .i64 (iAdd .i64 (iWrap .i64 (iShr .u64 (iWrap .u64 (iAdd .i64 a b)) 1)) m) (sym5_n6 off len a m b (iWrap .i64 (iShr .u64 (iWrap .u64 (iAdd .i64 a b)) 1)) (iAdd .i64 (iWrap .i64 (iShr .u64 (iWrap .u64 (iAdd .i64 a b)) 1)) m) a m (iSub .i64 (iAdd .i64 (iWrap .i64 (iShr .u64 (iWrap .u64 (iAdd .i64 a b)) 1)) m) 1) c0 cs rest toks tys)) b) (Tr.ite (rec_is0 off len (iWrap .i64 (iShr .u64 (iWrap .u64 (iAdd .i64 a b)) 1)) (iSub .i64 (iAdd .i64 (iWrap .i64 (iShr .u64 (iWrap .u64 (iAdd .i64 a b)) 1)) m) (sym5_n6 off len a m b (iWrap .i64 (iShr .u64 (iWrap .u64 (iAdd .i64 a b)) 1)) (iAdd .i64 (iWrap .i64 (iShr .u64 (iWrap .u64 (iAdd .i64 a b)) 1)) m) a m (iSub .i64 (iAdd .i64 (iWrap .i64 (iShr .u64 (iWrap .u64 (iAdd .i64 a b)) 1)) m) 1) c0 cs rest toks tys)) b c0 (rec_l off len a (sym5_n6 off len a m b (iWrap .i64 (iShr .u64 (iWrap .u64 (iAdd .i64 a b)) 1)) (iAdd .i64 (iWrap .i64 (iShr .u64 (iWrap .u64 (iAdd .i64 a b)) 1)) m) a m (iSub .i64 (iAdd .i64 (iWrap .i64 (iShr .u64 (iWrap .u64 (iAdd .i64 a b)) 1)) m) 1) c0 cs rest toks tys) (iWrap .i64 (iShr .u64 (iWrap .u64 (iAdd .i64 a b)) 1)) c0 (rot_l2 off len (sym5_n6 off len a m b (iWrap .i64 (iShr .u64 (iWrap .u64 (iAdd .i64 a b)) 1)) (iAdd .i64 (iWrap .i64 (iShr .u64 (iWrap .u64 (iAdd .i64 a b)) 1)) m) a m (iSub .i64 (iAdd .i64 (iWrap .i64 (iShr .u64 (iWrap .u64 (iAdd .i64 a b)) 1)) m) 1) c0 cs rest toks tys) m (iSub .i64 (iAdd .i64 (iWrap .i64 (iShr .u64 (iWrap .u64 (iAdd .i64 a b)) 1)) m) (sym5_n6 off len a m b (iWrap .i64 (iShr .u64 (iWrap .u64 (iAdd .i64 a b)) 1)) (iAdd .i64 (iWrap .i64 (iShr .u64 (iWrap .u64 (iAdd .i64 a b)) 1)) m) a m (iSub .i64 (iAdd .i64 (iWrap .i64 (iShr .u64 (iWrap .u64 (iAdd .i64 a b)) 1)) m) 1) c0 cs rest toks tys)) c0 (sym5_l2 off len a m b (iWrap .i64 (iShr .u64 (iWrap .u64 (iAdd .i64 a b)) 1)) (iAdd .i64 (iWrap .i64 (iShr .u64 (iWrap .u64 (iAdd .i64 a b)) 1)) m) a m (iSub .i64 (iAdd .i64 (iWrap .i64 (iShr .u64 (iWrap .u64 (iAdd .i64 a b)) 1)) m) 1) c0 cs rest toks tys) rest toks tys)
 rest toks tys) rest toks tys) (Tr.ret (PV.tup [], Store.mk (c0 :: rec_l off len (iWrap .i64 (iShr .u64 (iWrap .u64 (iAdd .i64 a b)) 1)) (iSub .i64 (iAdd .i64 (iWrap .i64 (iShr .u64 (iWrap .u64 (iAdd .i64 a b)) 1)) m) (sym5_n6 off len a m b (iWrap .i64 (iShr .u64 (iWrap .u64 (iAdd .i64 a b)) 1)) (iAdd .i64 (iWrap .i64 (iShr .u64 (iWrap .u64 (iAdd .i64 a b)) 1)) m) a m (iSub .i64 (iAdd .i64 (iWrap .i64 (iShr .u64 (iWrap .u64 (iAdd .i64 a b)) 1)) m) 1) c0 cs rest toks tys)) b c0 (rec_l off len a (sym5_n6 off len a m b (iWrap .i64 (iShr .u64 (iWrap .u64 (iAdd .i64 a b)) 1)) (iAdd .i64 (iWrap .i64 (iShr .u64 (iWrap .u64 (iAdd .i64 a b)) 1)) m) a m (iSub .i64 (iAdd .i64 (iWrap .i64 (iShr .u64 (iWrap .u64 (iAdd .i64 a b)) 1)) m) 1) c0 cs rest toks tys) (iWrap .i64 (iShr .u64 (iWrap .u64 (iAdd .i64 a b)) 1)) c0 (rot_l2 off len (sym5_n6 off len a m b (iWrap .i64 (iShr .u64 (iWrap .u64 (iAdd .i64 a b)) 1)) (iAdd .i64 (iWrap .i64 (iShr .u64 (iWrap .u64 (iAdd .i64 a b)) 1)) m) a m (iSub .i64 (iAdd .i64 (iWrap .i64 (iShr .u64 (iWrap .u64 (iAdd .i64 a b)) 1)) m) 1) c0 cs rest toks tys) m (iSub .i64 (iAdd .i64 (iWrap .i64 (iShr .u64 (iWrap .u64 (iAdd .i64 a b)) 1)) m) (sym5_n6 off len a m b (iWrap .i64 (iShr .u64 (iWrap .u64 (iAdd .i64 a b)) 1)) (iAdd .i64 (iWrap .i64 (iShr .u64 (iWrap .u64 (iAdd .i64 a b)) 1)) m) a m (iSub .i64 (iAdd .i64 (iWrap .i64 (iShr .u64 (iWrap .u64 (iAdd .i64 a b)) 1)) m) 1) c0 cs rest toks tys)) c0 (sym5_l2 off len a m b (iWrap .i64 (iShr .u64 (iWrap .u64 (iAdd .i64 a b)) 1)) (iAdd .i64 (iWrap .i64 (iShr .u64 (iWrap .u64 (iAdd .i64 a b)) 1)) m) a m (iSub .i64 (iAdd .i64 (iWrap .i64 (iShr .u64 (iWrap .u64 (iAdd .i64 a b)) 1)) m) 1) c0 cs rest toks tys) rest toks tys) rest toks tys) rest toks tys :: rest) toks (82 :: 1000023 :: tys))) Tr.fail) (Tr.ret (PV.tup [], Store.mk (c0 :: rec_l off len a (sym5_n6 off len a m b (iWrap .i64 (iShr .u64 (iWrap .u64 (iAdd .i64 a b)) 1)) (iAdd .i64 (iWrap .i64 (iShr .u64 (iWrap .u64 (iAdd .i64 a b)) 1)) m) a m
 (iSub .i64 (iAdd .i64 (iWrap .i64 (iShr .u64 (iWrap .u64 (iAdd .i64 a b)) 1)) m) 1) c0 cs rest toks tys) (iWrap .i64 (iShr .u64 (iWrap .u64 (iAdd .i64 a b)) 1)) c0 (rot_l2 off len (sym5_n6 off len a m b (iWrap .i64 (iShr .u64 (iWrap .u64 (iAdd .i64 a b)) 1)) (iAdd .i64 (iWrap .i64 (iShr .u64 (iWrap .u64 (iAdd .i64 a b)) 1)) m) a m (iSub .i64 (iAdd .i64 (iWrap .i64 (iShr .u64 (iWrap .u64 (iAdd .i64 a b)) 1)) m) 1) c0 cs rest toks tys) m (iSub .i64 (iAdd .i64 (iWrap .i64 (iShr .u64 (iWrap .u64 (iAdd .i64 a b)) 1)) m) (sym5_n6 off len a m b (iWrap .i64 (iShr .u64 (iWrap .u64 (iAdd .i64 a b)) 1)) (iAdd .i64 (iWrap .i64 (iShr .u64 (iWrap .u64 (iAdd .i64 a b)) 1)) m) a m (iSub .i64 (iAdd .i64 (iWrap .i64 (iShr .u64 (iWrap .u64 (iAdd .i64 a b)) 1)) m) 1) c0 cs rest toks tys)) c0 (sym5_l2 off len a m b (iWrap .i64 (iShr .u64 (iWrap .u64 (iAdd .i64 a b)) 1)) (iAdd .i64 (iWrap .i64 (iShr .u64 (iWrap .u64 (iAdd .i64 a b)) 1)) m) a m (iSub .i64 (iAdd .i64 (iWrap .i64 (iShr .u64 (iWrap .u64 (iAdd .i64 a b)) 1)) m) 1) c0 cs rest toks tys) rest toks tys) rest toks tys :: rest) toks (82 :: 1000023 :: tys)))) (Tr.ret (PV.tup [], Store.mk (c0 :: rec_l off len a (sym5_n6 off len a m b (iWrap .i64 (iShr .u64 (iWrap .u64 (iAdd .i64 a b)) 1)) (iAdd .i64 (iWrap .i64 (iShr .u64 (iWrap .u64 (iAdd .i64 a b)) 1)) m) a m (iSub .i64 (iAdd .i64 (iWrap .i64 (iShr .u64 (iWrap .u64 (iAdd .i64 a b)) 1)) m) 1) c0 cs rest toks tys) (iWrap .i64 (iShr .u64 (iWrap .u64 (iAdd .i64 a b)) 1)) c0 (rot_l2 off len (sym5_n6 off len a m b (iWrap .i64 (iShr .u64 (iWrap .u64 (iAdd .i64 a b)) 1)) (iAdd .i64 (iWrap .i64 (iShr .u64 (iWrap .u64 (iAdd .i64 a b)) 1)) m) a m (iSub .i64 (iAdd .i64 (iWrap .i64 (iShr .u64 (iWrap .u64 (iAdd .i64 a b)) 1)) m) 1) c0 cs rest toks tys) m (iSub .i64 (iAdd .i64 (iWrap .i64 (iShr .u64 (iWrap .u64 (iAdd .i64 a b)) 1)) m) (sym5_n6 off len a m b (iWrap .i64 (iShr .u64 (iWrap .u64 (iAdd .i64 a b)) 1)) (iAdd .i64 (iWrap .i64 (iShr .u64 (iWrap .u64 (iAdd .i64 a b)) 1)) m) a m
 (iSub .i64 (iAdd .i64 (iWrap .i64 (iShr .u64 (iWrap .u64 (iAdd .i64 a b)) 1)) m) 1) c0 cs rest toks tys)) c0 (sym5_l2 off len a m b (iWrap .i64 (iShr .u64 (iWrap .u64 (iAdd .i64 a b)) 1)) (iAdd .i64 (iWrap .i64 (iShr .u64 (iWrap .u64 (iAdd .i64 a b)) 1)) m) a m (iSub .i64 (iAdd .i64 (iWrap .i64 (iShr .u64 (iWrap .u64 (iAdd .i64 a b)) 1)) m) 1) c0 cs rest toks tys) rest toks tys) rest toks tys :: rest) toks (82 :: 1000023 :: tys)))) Tr.fail) (Tr.ite (iLt (iWrap .i64 (iShr .u64 (iWrap .u64 (iAdd .i64 a b)) 1)) (iSub .i64 (iAdd .i64 (iWrap .i64 (iShr .u64 (iWrap .u64 (iAdd .i64 a b)) 1)) m) (sym5_n6 off len a m b (iWrap .i64 (iShr .u64 (iWrap .u64 (iAdd .i64 a b)) 1)) (iAdd .i64 (iWrap .i64 (iShr .u64 (iWrap .u64 (iAdd .i64 a b)) 1)) m) a m (iSub .i64 (iAdd .i64 (iWrap .i64 (iShr .u64 (iWrap .u64 (iAdd .i64 a b)) 1)) m) 1) c0 cs rest toks tys))) (Tr.ite (iLt (iSub .i64 (iAdd .i64 (iWrap .i64 (iShr .u64 (iWrap .u64 (iAdd .i64 a b)) 1)) m) (sym5_n6 off len a m b (iWrap .i64 (iShr .u64 (iWrap .u64 (iAdd .i64 a b)) 1)) (iAdd .i64 (iWrap .i64 (iShr .u64 (iWrap .u64 (iAdd .i64 a b)) 1)) m) a m (iSub .i64 (iAdd .i64 (iWrap .i64 (iShr .u64 (iWrap .u64 (iAdd .i64 a b)) 1)) m) 1) c0 cs rest toks tys)) b) (Tr.ite (rec_is0 off len (iWrap .i64 (iShr .u64 (iWrap .u64 (iAdd .i64 a b)) 1)) (iSub .i64 (iAdd .i64 (iWrap .i64 (iShr .u64 (iWrap .u64 (iAdd .i64 a b)) 1)) m) (sym5_n6 off len a m b (iWrap .i64 (iShr .u64 (iWrap .u64 (iAdd .i64 a b)) 1)) (iAdd .i64 (iWrap .i64 (iShr .u64 (iWrap .u64 (iAdd .i64 a b)) 1)) m) a m (iSub .i64 (iAdd .i64 (iWrap .i64 (iShr .u64 (iWrap .u64 (iAdd .i64 a b)) 1)) m) 1) c0 cs rest toks tys)) b c0 (rot_l2 off len (sym5_n6 off len a m b (iWrap .i64 (iShr .u64 (iWrap .u64 (iAdd .i64 a b)) 1)) (iAdd .i64 (iWrap .i64 (iShr .u64 (iWrap .u64 (iAdd .i64 a b)) 1)) m) a m (iSub .i64 (iAdd .i64 (iWrap .i64 (iShr .u64 (iWrap .u64 (iAdd .i64 a b)) 1)) m) 1) c0 cs rest toks tys) m (iSub .i64 (iAdd .i64 (iWrap .i64 (iShr .u64 (iWrap .u64 (iAdd .i64 a b)) 1)) m)
 (sym5_n6 off len a m b (iWrap .i64 (iShr .u64 (iWrap .u64 (iAdd .i64 a b)) 1)) (iAdd .i64 (iWrap .i64 (iShr .u64 (iWrap .u64 (iAdd .i64 a b)) 1)) m) a m (iSub .i64 (iAdd .i64 (iWrap .i64 (iShr .u64 (iWrap .u64 (iAdd .i64 a b)) 1)) m) 1) c0 cs rest toks tys)) c0 (sym5_l2 off len a m b (iWrap .i64 (iShr .u64 (iWrap .u64 (iAdd .i64 a b)) 1)) (iAdd .i64 (iWrap .i64 (iShr .u64 (iWrap .u64 (iAdd .i64 a b)) 1)) m) a m (iSub .i64 (iAdd .i64 (iWrap .i64 (iShr .u64 (iWrap .u64 (iAdd .i64 a b)) 1)) m) 1) c0 cs rest toks tys) rest toks tys) rest toks tys) (Tr.ret (PV.tup [], Store.mk (c0 :: rec_l off len (iWrap .i64 (iShr .u64 (iWrap .u64 (iAdd .i64 a b)) 1)) (iSub .i64 (iAdd .i64 (iWrap .i64 (iShr .u64 (iWrap .u64 (iAdd .i64 a b)) 1)) m) (sym5_n6 off len a m b (iWrap .i64 (iShr .u64 (iWrap .u64 (iAdd .i64 a b)) 1)) (iAdd .i64 (iWrap .i64 (iShr .u64 (iWrap .u64 (iAdd .i64 a b)) 1)) m) a m (iSub .i64 (iAdd .i64 (iWrap .i64 (iShr .u64 (iWrap .u64 (iAdd .i64 a b)) 1)) m) 1) c0 cs rest toks tys)) b c0 (rot_l2 off len (sym5_n6 off len a m b (iWrap .i64 (iShr .u64 (iWrap .u64 (iAdd .i64 a b)) 1)) (iAdd .i64 (iWrap .i64 (iShr .u64 (iWrap .u64 (iAdd .i64 a b)) 1)) m) a m (iSub .i64 (iAdd .i64 (iWrap .i64 (iShr .u64 (iWrap .u64 (iAdd .i64 a b)) 1)) m) 1) c0 cs rest toks tys) m (iSub .i64 (iAdd .i64 (iWrap .i64 (iShr .u64 (iWrap .u64 (iAdd .i64 a b)) 1)) m) (sym5_n6 off len a m b (iWrap .i64 (iShr .u64 (iWrap .u64 (iAdd .i64 a b)) 1)) (iAdd .i64 (iWrap .i64 (iShr .u64 (iWrap .u64 (iAdd .i64 a b)) 1)) m) a m (iSub .i64 (iAdd .i64 (iWrap .i64 (iShr .u64 (iWrap .u64 (iAdd .i64 a b)) 1)) m) 1) c0 cs rest toks tys)) c0 (sym5_l2 off len a m b (iWrap .i64 (iShr .u64 (iWrap .u64 (iAdd .i64 a b)) 1)) (iAdd .i64 (iWrap .i64 (iShr .u64 (iWrap .u64 (iAdd .i64 a b)) 1)) m) a m (iSub .i64 (iAdd .i64 (iWrap .i64 (iShr .u64 (iWrap .u64 (iAdd .i64 a b)) 1)) m) 1) c0 cs rest toks tys) rest toks tys) rest toks tys :: rest) toks (82 :: 1000023 :: tys))) Tr.fail) (Tr.ret (PV.tup [], Store.mk (c0 ::
 rot_l2 off len (sym5_n6 off len a m b (iWrap .i64 (iShr .u64 (iWrap .u64 (iAdd .i64 a b)) 1)) (iAdd .i64 (iWrap .i64 (iShr .u64 (iWrap .u64 (iAdd .i64 a b)) 1)) m) a m (iSub .i64 (iAdd .i64 (iWrap .i64 (iShr .u64 (iWrap .u64 (iAdd .i64 a b)) 1)) m) 1) c0 cs rest toks tys) m (iSub .i64 (iAdd .i64 (iWrap .i64 (iShr .u64 (iWrap .u64 (iAdd .i64 a b)) 1)) m) (sym5_n6 off len a m b (iWrap .i64 (iShr .u64 (iWrap .u64 (iAdd .i64 a b)) 1)) (iAdd .i64 (iWrap .i64 (iShr .u64 (iWrap .u64 (iAdd .i64 a b)) 1)) m) a m (iSub .i64 (iAdd .i64 (iWrap .i64 (iShr .u64 (iWrap .u64 (iAdd .i64 a b)) 1)) m) 1) c0 cs rest toks tys)) c0 (sym5_l2 off len a m b (iWrap .i64 (iShr .u64 (iWrap .u64 (iAdd .i64 a b)) 1)) (iAdd .i64 (iWrap .i64 (iShr .u64 (iWrap .u64 (iAdd .i64 a b)) 1)) m) a m (iSub .i64 (iAdd .i64 (iWrap .i64 (iShr .u64 (iWrap .u64 (iAdd .i64 a b)) 1)) m) 1) c0 cs rest toks tys) rest toks tys :: rest) toks (82 :: 1000023 :: tys)))) (Tr.ret (PV.tup [], Store.mk (c0 :: rot_l2 off len (sym5_n6 off len a m b (iWrap .i64 (iShr .u64 (iWrap .u64 (iAdd .i64 a b)) 1)) (iAdd .i64 (iWrap .i64 (iShr .u64 (iWrap .u64 (iAdd .i64 a b)) 1)) m) a m (iSub .i64 (iAdd .i64 (iWrap .i64 (iShr .u64 (iWrap .u64 (iAdd .i64 a b)) 1)) m) 1) c0 cs rest toks tys) m (iSub .i64 (iAdd .i64 (iWrap .i64 (iShr .u64 (iWrap .u64 (iAdd .i64 a b)) 1)) m) (sym5_n6 off len a m b (iWrap .i64 (iShr .u64 (iWrap .u64 (iAdd .i64 a b)) 1)) (iAdd .i64 (iWrap .i64 (iShr .u64 (iWrap .u64 (iAdd .i64 a b)) 1)) m) a m (iSub .i64 (iAdd .i64 (iWrap .i64 (iShr .u64 (iWrap .u64 (iAdd .i64 a b)) 1)) m) 1) c0 cs rest toks tys)) c0 (sym5_l2 off len a m b (iWrap .i64 (iShr .u64 (iWrap .u64 (iAdd .i64 a b)) 1)) (iAdd .i64 (iWrap .i64 (iShr .u64 (iWrap .u64 (iAdd .i64 a b)) 1)) m) a m (iSub .i64 (iAdd .i64 (iWrap .i64 (iShr .u64 (iWrap .u64 (iAdd .i64 a b)) 1)) m) 1) c0 cs rest toks tys) rest toks tys :: rest) toks (82 :: 1000023 :: tys))))) (Tr.ite (iLt (iWrap .i64 (iShr .u64 (iWrap .u64 (iAdd .i64 a b)) 1))
 (iSub .i64 (iAdd .i64 (iWrap .i64 (iShr .u64 (iWrap .u64 (iAdd .i64 a b)) 1)) m) (sym5_n6 off len a m b (iWrap .i64 (iShr .u64 (iWrap .u64 (iAdd .i64 a b)) 1)) (iAdd .i64 (iWrap .i64 (iShr .u64 (iWrap .u64 (iAdd .i64 a b)) 1)) m) a m (iSub .i64 (iAdd .i64 (iWrap .i64 (iShr .u64 (iWrap .u64 (iAdd .i64 a b)) 1)) m) 1) c0 cs rest toks tys))) (Tr.ite (iLt (iSub .i64 (iAdd .i64 (iWrap .i64 (iShr .u64 (iWrap .u64 (iAdd .i64 a b)) 1)) m) (sym5_n6 off len a m b (iWrap .i64 (iShr .u64 (iWrap .u64 (iAdd .i64 a b)) 1)) (iAdd .i64 (iWrap .i64 (iShr .u64 (iWrap .u64 (iAdd .i64 a b)) 1)) m) a m (iSub .i64 (iAdd .i64 (iWrap .i64 (iShr .u64 (iWrap .u64 (iAdd .i64 a b)) 1)) m) 1) c0 cs rest toks tys)) b) (Tr.ite (rec_is0 off len (iWrap .i64 (iShr .u64 (iWrap .u64 (iAdd .i64 a b)) 1)) (iSub .i64 (iAdd .i64 (iWrap .i64 (iShr .u64 (iWrap .u64 (iAdd .i64 a b)) 1)) m) (sym5_n6 off len a m b (iWrap .i64 (iShr .u64 (iWrap .u64 (iAdd .i64 a b)) 1)) (iAdd .i64 (iWrap .i64 (iShr .u64 (iWrap .u64 (iAdd .i64 a b)) 1)) m) a m (iSub .i64 (iAdd .i64 (iWrap .i64 (iShr .u64 (iWrap .u64 (iAdd .i64 a b)) 1)) m) 1) c0 cs rest toks tys)) b c0 (rot_l2 off len (sym5_n6 off len a m b (iWrap .i64 (iShr .u64 (iWrap .u64 (iAdd .i64 a b)) 1)) (iAdd .i64 (iWrap .i64 (iShr .u64 (iWrap .u64 (iAdd .i64 a b)) 1)) m) a m (iSub .i64 (iAdd .i64 (iWrap .i64 (iShr .u64 (iWrap .u64 (iAdd .i64 a b)) 1)) m) 1) c0 cs rest toks tys) m (iSub .i64 (iAdd .i64 (iWrap .i64 (iShr .u64 (iWrap .u64 (iAdd .i64 a b)) 1)) m) (sym5_n6 off len a m b (iWrap .i64 (iShr .u64 (iWrap .u64 (iAdd .i64 a b)) 1)) (iAdd .i64 (iWrap .i64 (iShr .u64 (iWrap .u64 (iAdd .i64 a b)) 1)) m) a m (iSub .i64 (iAdd .i64 (iWrap .i64 (iShr .u64 (iWrap .u64 (iAdd .i64 a b)) 1)) m) 1) c0 cs rest toks tys)) c0 (sym5_l2 off len a m b (iWrap .i64 (iShr .u64 (iWrap .u64 (iAdd .i64 a b)) 1)) (iAdd .i64 (iWrap .i64 (iShr .u64 (iWrap .u64 (iAdd .i64 a b)) 1)) m) a m (iSub .i64 (iAdd .i64 (iWrap .i64 (iShr .u64 (iWrap .u64 (iAdd .i64 a b)) 1)) m) 1) c0 cs rest toks tys)
 rest toks tys) rest toks tys) (Tr.ret (PV.tup [], Store.mk (c0 :: rec_l off len (iWrap .i64 (iShr .u64 (iWrap .u64 (iAdd .i64 a b)) 1)) (iSub .i64 (iAdd .i64 (iWrap .i64 (iShr .u64 (iWrap .u64 (iAdd .i64 a b)) 1)) m) (sym5_n6 off len a m b (iWrap .i64 (iShr .u64 (iWrap .u64 (iAdd .i64 a b)) 1)) (iAdd .i64 (iWrap .i64 (iShr .u64 (iWrap .u64 (iAdd .i64 a b)) 1)) m) a m (iSub .i64 (iAdd .i64 (iWrap .i64 (iShr .u64 (iWrap .u64 (iAdd .i64 a b)) 1)) m) 1) c0 cs rest toks tys)) b c0 (rot_l2 off len (sym5_n6 off len a m b (iWrap .i64 (iShr .u64 (iWrap .u64 (iAdd .i64 a b)) 1)) (iAdd .i64 (iWrap .i64 (iShr .u64 (iWrap .u64 (iAdd .i64 a b)) 1)) m) a m (iSub .i64 (iAdd .i64 (iWrap .i64 (iShr .u64 (iWrap .u64 (iAdd .i64 a b)) 1)) m) 1) c0 cs rest toks tys) m (iSub .i64 (iAdd .i64 (iWrap .i64 (iShr .u64 (iWrap .u64 (iAdd .i64 a b)) 1)) m) (sym5_n6 off len a m b (iWrap .i64 (iShr .u64 (iWrap .u64 (iAdd .i64 a b)) 1)) (iAdd .i64 (iWrap .i64 (iShr .u64 (iWrap .u64 (iAdd .i64 a b)) 1)) m) a m (iSub .i64 (iAdd .i64 (iWrap .i64 (iShr .u64 (iWrap .u64 (iAdd .i64 a b)) 1)) m) 1) c0 cs rest toks tys)) c0 (sym5_l2 off len a m b (iWrap .i64 (iShr .u64 (iWrap .u64 (iAdd .i64 a b)) 1)) (iAdd .i64 (iWrap .i64 (iShr .u64 (iWrap .u64 (iAdd .i64 a b)) 1)) m) a m (iSub .i64 (iAdd .i64 (iWrap .i64 (iShr .u64 (iWrap .u64 (iAdd .i64 a b)) 1)) m) 1) c0 cs rest toks tys) rest toks tys) rest toks tys :: rest) toks (82 :: 1000023 :: tys))) Tr.fail) (Tr.ret (PV.tup [], Store.mk (c0 :: rot_l2 off len (sym5_n6 off len a m b (iWrap .i64 (iShr .u64 (iWrap .u64 (iAdd .i64 a b)) 1)) (iAdd .i64 (iWrap .i64 (iShr .u64 (iWrap .u64 (iAdd .i64 a b)) 1)) m) a m (iSub .i64 (iAdd .i64 (iWrap .i64 (iShr .u64 (iWrap .u64 (iAdd .i64 a b)) 1)) m) 1) c0 cs rest toks tys) m (iSub .i64 (iAdd .i64 (iWrap .i64 (iShr .u64 (iWrap .u64 (iAdd .i64 a b)) 1)) m) (sym5_n6 off len a m b (iWrap .i64 (iShr .u64 (iWrap .u64 (iAdd .i64 a b)) 1)) (iAdd .i64 (iWrap .i64 (iShr .u64 (iWrap .u64 (iAdd .i64 a b)) 1)) m) a m
 (iSub .i64 (iAdd .i64 (iWrap .i64 (iShr .u64 (iWrap .u64 (iAdd .i64 a b)) 1)) m) 1) c0 cs rest toks tys)) c0 (sym5_l2 off len a m b (iWrap .i64 (iShr .u64 (iWrap .u64 (iAdd .i64 a b)) 1)) (iAdd .i64 (iWrap .i64 (iShr .u64 (iWrap .u64 (iAdd .i64 a b)) 1)) m) a m (iSub .i64 (iAdd .i64 (iWrap .i64 (iShr .u64 (iWrap .u64 (iAdd .i64 a b)) 1)) m) 1) c0 cs rest toks tys) rest toks tys :: rest) toks (82 :: 1000023 :: tys)))) (Tr.ret (PV.tup [], Store.mk (c0 :: rot_l2 off len (sym5_n6 off len a m b (iWrap .i64 (iShr .u64 (iWrap .u64 (iAdd .i64 a b)) 1)) (iAdd .i64 (iWrap .i64 (iShr .u64 (iWrap .u64 (iAdd .i64 a b)) 1)) m) a m (iSub .i64 (iAdd .i64 (iWrap .i64 (iShr .u64 (iWrap .u64 (iAdd .i64 a b)) 1)) m) 1) c0 cs rest toks tys) m (iSub .i64 (iAdd .i64 (iWrap .i64 (iShr .u64 (iWrap .u64 (iAdd .i64 a b)) 1)) m) (sym5_n6 off len a m b (iWrap .i64 (iShr .u64 (iWrap .u64 (iAdd .i64 a b)) 1)) (iAdd .i64 (iWrap .i64 (iShr .u64 (iWrap .u64 (iAdd .i64 a b)) 1)) m) a m (iSub .i64 (iAdd .i64 (iWrap .i64 (iShr .u64 (iWrap .u64 (iAdd .i64 a b)) 1)) m) 1) c0 cs rest toks tys)) c0 (sym5_l2 off len a m b (iWrap .i64 (iShr .u64 (iWrap .u64 (iAdd .i64 a b)) 1)) (iAdd .i64 (iWrap .i64 (iShr .u64 (iWrap .u64 (iAdd .i64 a b)) 1)) m) a m (iSub .i64 (iAdd .i64 (iWrap .i64 (iShr .u64 (iWrap .u64 (iAdd .i64 a b)) 1)) m) 1) c0 cs rest toks tys) rest toks tys :: rest) toks (82 :: 1000023 :: tys))))) Tr.fail) (Tr.ite (iLt a (sym5_n6 off len a m b (iWrap .i64 (iShr .u64 (iWrap .u64 (iAdd .i64 a b)) 1)) (iAdd .i64 (iWrap .i64 (iShr .u64 (iWrap .u64 (iAdd .i64 a b)) 1)) m) a m (iSub .i64 (iAdd .i64 (iWrap .i64 (iShr .u64 (iWrap .u64 (iAdd .i64 a b)) 1)) m) 1) c0 cs rest toks tys)) (Tr.ite (iLt (sym5_n6 off len a m b (iWrap .i64 (iShr .u64 (iWrap .u64 (iAdd .i64 a b)) 1)) (iAdd .i64 (iWrap .i64 (iShr .u64 (iWrap .u64 (iAdd .i64 a b)) 1)) m) a m (iSub .i64 (iAdd .i64 (iWrap .i64 (iShr .u64 (iWrap .u64 (iAdd .i64 a b)) 1)) m) 1) c0 cs rest toks tys) (iWrap .i64 (iShr .u64 (iWrap .u64 (iAdd .i64 a b)) 1)))
 (Tr.ite (rec_is0 off len a (sym5_n6 off len a m b (iWrap .i64 (iShr .u64 (iWrap .u64 (iAdd .i64 a b)) 1)) (iAdd .i64 (iWrap .i64 (iShr .u64 (iWrap .u64 (iAdd .i64 a b)) 1)) m) a m (iSub .i64 (iAdd .i64 (iWrap .i64 (iShr .u64 (iWrap .u64 (iAdd .i64 a b)) 1)) m) 1) c0 cs rest toks tys) (iWrap .i64 (iShr .u64 (iWrap .u64 (iAdd .i64 a b)) 1)) c0 (sym5_l2 off len a m b (iWrap .i64 (iShr .u64 (iWrap .u64 (iAdd .i64 a b)) 1)) (iAdd .i64 (iWrap .i64 (iShr .u64 (iWrap .u64 (iAdd .i64 a b)) 1)) m) a m (iSub .i64 (iAdd .i64 (iWrap .i64 (iShr .u64 (iWrap .u64 (iAdd .i64 a b)) 1)) m) 1) c0 cs rest toks tys) rest toks tys) (Tr.ite (iLt (iWrap .i64 (iShr .u64 (iWrap .u64 (iAdd .i64 a b)) 1)) (iSub .i64 (iAdd .i64 (iWrap .i64 (iShr .u64 (iWrap .u64 (iAdd .i64 a b)) 1)) m) (sym5_n6 off len a m b (iWrap .i64 (iShr .u64 (iWrap .u64 (iAdd .i64 a b)) 1)) (iAdd .i64 (iWrap .i64 (iShr .u64 (iWrap .u64 (iAdd .i64 a b)) 1)) m) a m (iSub .i64 (iAdd .i64 (iWrap .i64 (iShr .u64 (iWrap .u64 (iAdd .i64 a b)) 1)) m) 1) c0 cs rest toks tys))) (Tr.ite (iLt (iSub .i64 (iAdd .i64 (iWrap .i64 (iShr .u64 (iWrap .u64 (iAdd .i64 a b)) 1)) m) (sym5_n6 off len a m b (iWrap .i64 (iShr .u64 (iWrap .u64 (iAdd .i64 a b)) 1)) (iAdd .i64 (iWrap .i64 (iShr .u64 (iWrap .u64 (iAdd .i64 a b)) 1)) m) a m (iSub .i64 (iAdd .i64 (iWrap .i64 (iShr .u64 (iWrap .u64 (iAdd .i64 a b)) 1)) m) 1) c0 cs rest toks tys)) b) (Tr.ite (rec_is0 off len (iWrap .i64 (iShr .u64 (iWrap .u64 (iAdd .i64 a b)) 1)) (iSub .i64 (iAdd .i64 (iWrap .i64 (iShr .u64 (iWrap .u64 (iAdd .i64 a b)) 1)) m) (sym5_n6 off len a m b (iWrap .i64 (iShr .u64 (iWrap .u64 (iAdd .i64 a b)) 1)) (iAdd .i64 (iWrap .i64 (iShr .u64 (iWrap .u64 (iAdd .i64 a b)) 1)) m) a m (iSub .i64 (iAdd .i64 (iWrap .i64 (iShr .u64 (iWrap .u64 (iAdd .i64 a b)) 1)) m) 1) c0 cs rest toks tys)) b c0 (rec_l off len a (sym5_n6 off len a m b (iWrap .i64 (iShr .u64 (iWrap .u64 (iAdd .i64 a b)) 1)) (iAdd .i64 (iWrap .i64 (iShr .u64 (iWrap .u64 (iAdd .i64 a b)) 1)) m) a m
 (iSub .i64 (iAdd .i64 (iWrap .i64 (iShr .u64 (iWrap .u64 (iAdd .i64 a b)) 1)) m) 1) c0 cs rest toks tys) (iWrap .i64 (iShr .u64 (iWrap .u64 (iAdd .i64 a b)) 1)) c0 (sym5_l2 off len a m b (iWrap .i64 (iShr .u64 (iWrap .u64 (iAdd .i64 a b)) 1)) (iAdd .i64 (iWrap .i64 (iShr .u64 (iWrap .u64 (iAdd .i64 a b)) 1)) m) a m (iSub .i64 (iAdd .i64 (iWrap .i64 (iShr .u64 (iWrap .u64 (iAdd .i64 a b)) 1)) m) 1) c0 cs rest toks tys) rest toks tys) rest toks tys) (Tr.ret (PV.tup [], Store.mk (c0 :: rec_l off len (iWrap .i64 (iShr .u64 (iWrap .u64 (iAdd .i64 a b)) 1)) (iSub .i64 (iAdd .i64 (iWrap .i64 (iShr .u64 (iWrap .u64 (iAdd .i64 a b)) 1)) m) (sym5_n6 off len a m b (iWrap .i64 (iShr .u64 (iWrap .u64 (iAdd .i64 a b)) 1)) (iAdd .i64 (iWrap .i64 (iShr .u64 (iWrap .u64 (iAdd .i64 a b)) 1)) m) a m (iSub .i64 (iAdd .i64 (iWrap .i64 (iShr .u64 (iWrap .u64 (iAdd .i64 a b)) 1)) m) 1) c0 cs rest toks tys)) b c0 (rec_l off len a (sym5_n6 off len a m b (iWrap .i64 (iShr .u64 (iWrap .u64 (iAdd .i64 a b)) 1)) (iAdd .i64 (iWrap .i64 (iShr .u64 (iWrap .u64 (iAdd .i64 a b)) 1)) m) a m (iSub .i64 (iAdd .i64 (iWrap .i64 (iShr .u64 (iWrap .u64 (iAdd .i64 a b)) 1)) m) 1) c0 cs rest toks tys) (iWrap .i64 (iShr .u64 (iWrap .u64 (iAdd .i64 a b)) 1)) c0 (sym5_l2 off len a m b (iWrap .i64 (iShr .u64 (iWrap .u64 (iAdd .i64 a b)) 1)) (iAdd .i64 (iWrap .i64 (iShr .u64 (iWrap .u64 (iAdd .i64 a b)) 1)) m) a m (iSub .i64 (iAdd .i64 (iWrap .i64 (iShr .u64 (iWrap .u64 (iAdd .i64 a b)) 1)) m) 1) c0 cs rest toks tys) rest toks tys) rest toks tys :: rest) toks (82 :: 1000023 :: tys))) Tr.fail) (Tr.ret (PV.tup [], Store.mk (c0 :: rec_l off len a (sym5_n6 off len a m b (iWrap .i64 (iShr .u64 (iWrap .u64 (iAdd .i64 a b)) 1)) (iAdd .i64 (iWrap .i64 (iShr .u64 (iWrap .u64 (iAdd .i64 a b)) 1)) m) a m (iSub .i64 (iAdd .i64 (iWrap .i64 (iShr .u64 (iWrap .u64 (iAdd .i64 a b)) 1)) m) 1) c0 cs rest toks tys) (iWrap .i64 (iShr .u64 (iWrap .u64 (iAdd .i64 a b)) 1)) c0
 (sym5_l2 off len a m b (iWrap .i64 (iShr .u64 (iWrap .u64 (iAdd .i64 a b)) 1)) (iAdd .i64 (iWrap .i64 (iShr .u64 (iWrap .u64 (iAdd .i64 a b)) 1)) m) a m (iSub .i64 (iAdd .i64 (iWrap .i64 (iShr .u64 (iWrap .u64 (iAdd .i64 a b)) 1)) m) 1) c0 cs rest toks tys) rest toks tys :: rest) toks (82 :: 1000023 :: tys)))) (Tr.ret (PV.tup [], Store.mk (c0 :: rec_l off len a (sym5_n6 off len a m b (iWrap .i64 (iShr .u64 (iWrap .u64 (iAdd .i64 a b)) 1)) (iAdd .i64 (iWrap .i64 (iShr .u64 (iWrap .u64 (iAdd .i64 a b)) 1)) m) a m (iSub .i64 (iAdd .i64 (iWrap .i64 (iShr .u64 (iWrap .u64 (iAdd .i64 a b)) 1)) m) 1) c0 cs rest toks tys) (iWrap .i64 (iShr .u64 (iWrap .u64 (iAdd .i64 a b)) 1)) c0 (sym5_l2 off len a m b (iWrap .i64 (iShr .u64 (iWrap .u64 (iAdd .i64 a b)) 1)) (iAdd .i64 (iWrap .i64 (iShr .u64 (iWrap .u64 (iAdd .i64 a b)) 1)) m) a m (iSub .i64 (iAdd .i64 (iWrap .i64 (iShr .u64 (iWrap .u64 (iAdd .i64 a b)) 1)) m) 1) c0 cs rest toks tys) rest toks tys :: rest) toks (82 :: 1000023 :: tys)))) Tr.fail) (Tr.ite (iLt (iWrap .i64 (iShr .u64 (iWrap .u64 (iAdd .i64 a b)) 1)) (iSub .i64 (iAdd .i64 (iWrap .i64 (iShr .u64 (iWrap .u64 (iAdd .i64 a b)) 1)) m) (sym5_n6 off len a m b (iWrap .i64 (iShr .u64 (iWrap .u64 (iAdd .i64 a b)) 1)) (iAdd .i64 (iWrap .i64 (iShr .u64 (iWrap .u64 (iAdd .i64 a b)) 1)) m) a m (iSub .i64 (iAdd .i64 (iWrap .i64 (iShr .u64 (iWrap .u64 (iAdd .i64 a b)) 1)) m) 1) c0 cs rest toks tys))) (Tr.ite (iLt (iSub .i64 (iAdd .i64 (iWrap .i64 (iShr .u64 (iWrap .u64 (iAdd .i64 a b)) 1)) m) (sym5_n6 off len a m b (iWrap .i64 (iShr .u64 (iWrap .u64 (iAdd .i64 a b)) 1)) (iAdd .i64 (iWrap .i64 (iShr .u64 (iWrap .u64 (iAdd .i64 a b)) 1)) m) a m (iSub .i64 (iAdd .i64 (iWrap .i64 (iShr .u64 (iWrap .u64 (iAdd .i64 a b)) 1)) m) 1) c0 cs rest toks tys)) b) (Tr.ite (rec_is0 off len (iWrap .i64 (iShr .u64 (iWrap .u64 (iAdd .i64 a b)) 1)) (iSub .i64 (iAdd .i64 (iWrap .i64 (iShr .u64 (iWrap .u64 (iAdd .i64 a b)) 1)) m)
 (sym5_n6 off len a m b (iWrap .i64 (iShr .u64 (iWrap .u64 (iAdd .i64 a b)) 1)) (iAdd .i64 (iWrap .i64 (iShr .u64 (iWrap .u64 (iAdd .i64 a b)) 1)) m) a m (iSub .i64 (iAdd .i64 (iWrap .i64 (iShr .u64 (iWrap .u64 (iAdd .i64 a b)) 1)) m) 1) c0 cs rest toks tys)) b c0 (sym5_l2 off len a m b (iWrap .i64 (iShr .u64 (iWrap .u64 (iAdd .i64 a b)) 1)) (iAdd .i64 (iWrap .i64 (iShr .u64 (iWrap .u64 (iAdd .i64 a b)) 1)) m) a m (iSub .i64 (iAdd .i64 (iWrap .i64 (iShr .u64 (iWrap .u64 (iAdd .i64 a b)) 1)) m) 1) c0 cs rest toks tys) rest toks tys) (Tr.ret (PV.tup [], Store.mk (c0 :: rec_l off len (iWrap .i64 (iShr .u64 (iWrap .u64 (iAdd .i64 a b)) 1)) (iSub .i64 (iAdd .i64 (iWrap .i64 (iShr .u64 (iWrap .u64 (iAdd .i64 a b)) 1)) m) (sym5_n6 off len a m b (iWrap .i64 (iShr .u64 (iWrap .u64 (iAdd .i64 a b)) 1)) (iAdd .i64 (iWrap .i64 (iShr .u64 (iWrap .u64 (iAdd .i64 a b)) 1)) m) a m (iSub .i64 (iAdd .i64 (iWrap .i64 (iShr .u64 (iWrap .u64 (iAdd .i64 a b)) 1)) m) 1) c0 cs rest toks tys)) b c0 (sym5_l2 off len a m b (iWrap .i64 (iShr .u64 (iWrap .u64 (iAdd .i64 a b)) 1)) (iAdd .i64 (iWrap .i64 (iShr .u64 (iWrap .u64 (iAdd .i64 a b)) 1)) m) a m (iSub .i64 (iAdd .i64 (iWrap .i64 (iShr .u64 (iWrap .u64 (iAdd .i64 a b)) 1)) m) 1) c0 cs rest toks tys) rest toks tys :: rest) toks (82 :: 1000023 :: tys))) Tr.fail) (Tr.ret (PV.tup [], Store.mk (c0 :: sym5_l2 off len a m b (iWrap .i64 (iShr .u64 (iWrap .u64 (iAdd .i64 a b)) 1)) (iAdd .i64 (iWrap .i64 (iShr .u64 (iWrap .u64 (iAdd .i64 a b)) 1)) m) a m (iSub .i64 (iAdd .i64 (iWrap .i64 (iShr .u64 (iWrap .u64 (iAdd .i64 a b)) 1)) m) 1) c0 cs rest toks tys :: rest) toks (82 :: 1000023 :: tys)))) (Tr.ret (PV.tup [], Store.mk (c0 :: sym5_l2 off len a m b (iWrap .i64 (iShr .u64 (iWrap .u64 (iAdd .i64 a b)) 1)) (iAdd .i64 (iWrap .i64 (iShr .u64 (iWrap .u64 (iAdd .i64 a b)) 1)) m) a m (iSub .i64 (iAdd .i64 (iWrap .i64 (iShr .u64 (iWrap .u64 (iAdd .i64 a b)) 1)) m) 1) c0 cs rest toks tys :: rest) toks (82 :: 1000023 :: tys))))) (Tr.ite
 (iLt (iWrap .i64 (iShr .u64 (iWrap .u64 (iAdd .i64 a b)) 1)) (iSub .i64 (iAdd .i64 (iWrap .i64 (iShr .u64 (iWrap .u64 (iAdd .i64 a b)) 1)) m) (sym5_n6 off len a m b (iWrap .i64 (iShr .u64 (iWrap .u64 (iAdd .i64 a b)) 1)) (iAdd .i64 (iWrap .i64 (iShr .u64 (iWrap .u64 (iAdd .i64 a b)) 1)) m) a m (iSub .i64 (iAdd .i64 (iWrap .i64 (iShr .u64 (iWrap .u64 (iAdd .i64 a b)) 1)) m) 1) c0 cs rest toks tys))) (Tr.ite (iLt (iSub .i64 (iAdd .i64 (iWrap .i64 (iShr .u64 (iWrap .u64 (iAdd .i64 a b)) 1)) m) (sym5_n6 off len a m b (iWrap .i64 (iShr .u64 (iWrap .u64 (iAdd .i64 a b)) 1)) (iAdd .i64 (iWrap .i64 (iShr .u64 (iWrap .u64 (iAdd .i64 a b)) 1)) m) a m (iSub .i64 (iAdd .i64 (iWrap .i64 (iShr .u64 (iWrap .u64 (iAdd .i64 a b)) 1)) m) 1) c0 cs rest toks tys)) b) (Tr.ite (rec_is0 off len (iWrap .i64 (iShr .u64 (iWrap .u64 (iAdd .i64 a b)) 1)) (iSub .i64 (iAdd .i64 (iWrap .i64 (iShr .u64 (iWrap .u64 (iAdd .i64 a b)) 1)) m) (sym5_n6 off len a m b (iWrap .i64 (iShr .u64 (iWrap .u64 (iAdd .i64 a b)) 1)) (iAdd .i64 (iWrap .i64 (iShr .u64 (iWrap .u64 (iAdd .i64 a b)) 1)) m) a m (iSub .i64 (iAdd .i64 (iWrap .i64 (iShr .u64 (iWrap .u64 (iAdd .i64 a b)) 1)) m) 1) c0 cs rest toks tys)) b c0 (sym5_l2 off len a m b (iWrap .i64 (iShr .u64 (iWrap .u64 (iAdd .i64 a b)) 1)) (iAdd .i64 (iWrap .i64 (iShr .u64 (iWrap .u64 (iAdd .i64 a b)) 1)) m) a m (iSub .i64 (iAdd .i64 (iWrap .i64 (iShr .u64 (iWrap .u64 (iAdd .i64 a b)) 1)) m) 1) c0 cs rest toks tys) rest toks tys) (Tr.ret (PV.tup [], Store.mk (c0 :: rec_l off len (iWrap .i64 (iShr .u64 (iWrap .u64 (iAdd .i64 a b)) 1)) (iSub .i64 (iAdd .i64 (iWrap .i64 (iShr .u64 (iWrap .u64 (iAdd .i64 a b)) 1)) m) (sym5_n6 off len a m b (iWrap .i64 (iShr .u64 (iWrap .u64 (iAdd .i64 a b)) 1)) (iAdd .i64 (iWrap .i64 (iShr .u64 (iWrap .u64 (iAdd .i64 a b)) 1)) m) a m (iSub .i64 (iAdd .i64 (iWrap .i64 (iShr .u64 (iWrap .u64 (iAdd .i64 a b)) 1)) m) 1) c0 cs rest toks tys)) b c0 (sym5_l2 off len a m b (iWrap .i64 (iShr .u64 (iWrap .u64 (iAdd .i64 a b)) 1))
 (iAdd .i64 (iWrap .i64 (iShr .u64 (iWrap .u64 (iAdd .i64 a b)) 1)) m) a m (iSub .i64 (iAdd .i64 (iWrap .i64 (iShr .u64 (iWrap .u64 (iAdd .i64 a b)) 1)) m) 1) c0 cs rest toks tys) rest toks tys :: rest) toks (82 :: 1000023 :: tys))) Tr.fail) (Tr.ret (PV.tup [], Store.mk (c0 :: sym5_l2 off len a m b (iWrap .i64 (iShr .u64 (iWrap .u64 (iAdd .i64 a b)) 1)) (iAdd .i64 (iWrap .i64 (iShr .u64 (iWrap .u64 (iAdd .i64 a b)) 1)) m) a m (iSub .i64 (iAdd .i64 (iWrap .i64 (iShr .u64 (iWrap .u64 (iAdd .i64 a b)) 1)) m) 1) c0 cs rest toks tys :: rest) toks (82 :: 1000023 :: tys)))) (Tr.ret (PV.tup [], Store.mk (c0 :: sym5_l2 off len a m b (iWrap .i64 (iShr .u64 (iWrap .u64 (iAdd .i64 a b)) 1)) (iAdd .i64 (iWrap .i64 (iShr .u64 (iWrap .u64 (iAdd .i64 a b)) 1)) m) a m (iSub .i64 (iAdd .i64 (iWrap .i64 (iShr .u64 (iWrap .u64 (iAdd .i64 a b)) 1)) m) 1) c0 cs rest toks tys :: rest) toks (82 :: 1000023 :: tys)))))) (Tr.ite (iLt a (sym5_n6 off len a m b (iWrap .i64 (iShr .u64 (iWrap .u64 (iAdd .i64 a b)) 1)) (iAdd .i64 (iWrap .i64 (iShr .u64 (iWrap .u64 (iAdd .i64 a b)) 1)) m) a m (iSub .i64 (iAdd .i64 (iWrap .i64 (iShr .u64 (iWrap .u64 (iAdd .i64 a b)) 1)) m) 1) c0 cs rest toks tys)) (Tr.ite (iLt (sym5_n6 off len a m b (iWrap .i64 (iShr .u64 (iWrap .u64 (iAdd .i64 a b)) 1)) (iAdd .i64 (iWrap .i64 (iShr .u64 (iWrap .u64 (iAdd .i64 a b)) 1)) m) a m (iSub .i64 (iAdd .i64 (iWrap .i64 (iShr .u64 (iWrap .u64 (iAdd .i64 a b)) 1)) m) 1) c0 cs rest toks tys) (iWrap .i64 (iShr .u64 (iWrap .u64 (iAdd .i64 a b)) 1))) (Tr.ite (rec_is0 off len a (sym5_n6 off len a m b (iWrap .i64 (iShr .u64 (iWrap .u64 (iAdd .i64 a b)) 1)) (iAdd .i64 (iWrap .i64 (iShr .u64 (iWrap .u64 (iAdd .i64 a b)) 1)) m) a m (iSub .i64 (iAdd .i64 (iWrap .i64 (iShr .u64 (iWrap .u64 (iAdd .i64 a b)) 1)) m) 1) c0 cs rest toks tys) (iWrap .i64 (iShr .u64 (iWrap .u64 (iAdd .i64 a b)) 1)) c0 (sym5_l2 off len a m b (iWrap .i64 (iShr .u64 (iWrap .u64 (iAdd .i64 a b)) 1))
 (iAdd .i64 (iWrap .i64 (iShr .u64 (iWrap .u64 (iAdd .i64 a b)) 1)) m) a m (iSub .i64 (iAdd .i64 (iWrap .i64 (iShr .u64 (iWrap .u64 (iAdd .i64 a b)) 1)) m) 1) c0 cs rest toks tys) rest toks tys) (Tr.ite (iLt (iWrap .i64 (iShr .u64 (iWrap .u64 (iAdd .i64 a b)) 1)) (iSub .i64 (iAdd .i64 (iWrap .i64 (iShr .u64 (iWrap .u64 (iAdd .i64 a b)) 1)) m) (sym5_n6 off len a m b (iWrap .i64 (iShr .u64 (iWrap .u64 (iAdd .i64 a b)) 1)) (iAdd .i64 (iWrap .i64 (iShr .u64 (iWrap .u64 (iAdd .i64 a b)) 1)) m) a m (iSub .i64 (iAdd .i64 (iWrap .i64 (iShr .u64 (iWrap .u64 (iAdd .i64 a b)) 1)) m) 1) c0 cs rest toks tys))) (Tr.ite (iLt (iSub .i64 (iAdd .i64 (iWrap .i64 (iShr .u64 (iWrap .u64 (iAdd .i64 a b)) 1)) m) (sym5_n6 off len a m b (iWrap .i64 (iShr .u64 (iWrap .u64 (iAdd .i64 a b)) 1)) (iAdd .i64 (iWrap .i64 (iShr .u64 (iWrap .u64 (iAdd .i64 a b)) 1)) m) a m (iSub .i64 (iAdd .i64 (iWrap .i64 (iShr .u64 (iWrap .u64 (iAdd .i64 a b)) 1)) m) 1) c0 cs rest toks tys)) b) (Tr.ite (rec_is0 off len (iWrap .i64 (iShr .u64 (iWrap .u64 (iAdd .i64 a b)) 1)) (iSub .i64 (iAdd .i64 (iWrap .i64 (iShr .u64 (iWrap .u64 (iAdd .i64 a b)) 1)) m) (sym5_n6 off len a m b (iWrap .i64 (iShr .u64 (iWrap .u64 (iAdd .i64 a b)) 1)) (iAdd .i64 (iWrap .i64 (iShr .u64 (iWrap .u64 (iAdd .i64 a b)) 1)) m) a m (iSub .i64 (iAdd .i64 (iWrap .i64 (iShr .u64 (iWrap .u64 (iAdd .i64 a b)) 1)) m) 1) c0 cs rest toks tys)) b c0 (rec_l off len a (sym5_n6 off len a m b (iWrap .i64 (iShr .u64 (iWrap .u64 (iAdd .i64 a b)) 1)) (iAdd .i64 (iWrap .i64 (iShr .u64 (iWrap .u64 (iAdd .i64 a b)) 1)) m) a m (iSub .i64 (iAdd .i64 (iWrap .i64 (iShr .u64 (iWrap .u64 (iAdd .i64 a b)) 1)) m) 1) c0 cs rest toks tys) (iWrap .i64 (iShr .u64 (iWrap .u64 (iAdd .i64 a b)) 1)) c0 (sym5_l2 off len a m b (iWrap .i64 (iShr .u64 (iWrap .u64 (iAdd .i64 a b)) 1)) (iAdd .i64 (iWrap .i64 (iShr .u64 (iWrap .u64 (iAdd .i64 a b)) 1)) m) a m (iSub .i64 (iAdd .i64 (iWrap .i64 (iShr .u64 (iWrap .u64 (iAdd .i64 a b)) 1)) m) 1) c0 cs rest toks tys) rest toks tys)
 rest toks tys) (Tr.ret (PV.tup [], Store.mk (c0 :: rec_l off len (iWrap .i64 (iShr .u64 (iWrap .u64 (iAdd .i64 a b)) 1)) (iSub .i64 (iAdd .i64 (iWrap .i64 (iShr .u64 (iWrap .u64 (iAdd .i64 a b)) 1)) m) (sym5_n6 off len a m b (iWrap .i64 (iShr .u64 (iWrap .u64 (iAdd .i64 a b)) 1)) (iAdd .i64 (iWrap .i64 (iShr .u64 (iWrap .u64 (iAdd .i64 a b)) 1)) m) a m (iSub .i64 (iAdd .i64 (iWrap .i64 (iShr .u64 (iWrap .u64 (iAdd .i64 a b)) 1)) m) 1) c0 cs rest toks tys)) b c0 (rec_l off len a (sym5_n6 off len a m b (iWrap .i64 (iShr .u64 (iWrap .u64 (iAdd .i64 a b)) 1)) (iAdd .i64 (iWrap .i64 (iShr .u64 (iWrap .u64 (iAdd .i64 a b)) 1)) m) a m (iSub .i64 (iAdd .i64 (iWrap .i64 (iShr .u64 (iWrap .u64 (iAdd .i64 a b)) 1)) m) 1) c0 cs rest toks tys) (iWrap .i64 (iShr .u64 (iWrap .u64 (iAdd .i64 a b)) 1)) c0 (sym5_l2 off len a m b (iWrap .i64 (iShr .u64 (iWrap .u64 (iAdd .i64 a b)) 1)) (iAdd .i64 (iWrap .i64 (iShr .u64 (iWrap .u64 (iAdd .i64 a b)) 1)) m) a m (iSub .i64 (iAdd .i64 (iWrap .i64 (iShr .u64 (iWrap .u64 (iAdd .i64 a b)) 1)) m) 1) c0 cs rest toks tys) rest toks tys) rest toks tys :: rest) toks (82 :: 1000023 :: tys))) Tr.fail) (Tr.ret (PV.tup [], Store.mk (c0 :: rec_l off len a (sym5_n6 off len a m b (iWrap .i64 (iShr .u64 (iWrap .u64 (iAdd .i64 a b)) 1)) (iAdd .i64 (iWrap .i64 (iShr .u64 (iWrap .u64 (iAdd .i64 a b)) 1)) m) a m (iSub .i64 (iAdd .i64 (iWrap .i64 (iShr .u64 (iWrap .u64 (iAdd .i64 a b)) 1)) m) 1) c0 cs rest toks tys) (iWrap .i64 (iShr .u64 (iWrap .u64 (iAdd .i64 a b)) 1)) c0 (sym5_l2 off len a m b (iWrap .i64 (iShr .u64 (iWrap .u64 (iAdd .i64 a b)) 1)) (iAdd .i64 (iWrap .i64 (iShr .u64 (iWrap .u64 (iAdd .i64 a b)) 1)) m) a m (iSub .i64 (iAdd .i64 (iWrap .i64 (iShr .u64 (iWrap .u64 (iAdd .i64 a b)) 1)) m) 1) c0 cs rest toks tys) rest toks tys :: rest) toks (82 :: 1000023 :: tys)))) (Tr.ret (PV.tup [], Store.mk (c0 :: rec_l off len a (sym5_n6 off len a m b (iWrap .i64 (iShr .u64 (iWrap .u64 (iAdd .i64 a b)) 1))
 (iAdd .i64 (iWrap .i64 (iShr .u64 (iWrap .u64 (iAdd .i64 a b)) 1)) m) a m (iSub .i64 (iAdd .i64 (iWrap .i64 (iShr .u64 (iWrap .u64 (iAdd .i64 a b)) 1)) m) 1) c0 cs rest toks tys) (iWrap .i64 (iShr .u64 (iWrap .u64 (iAdd .i64 a b)) 1)) c0 (sym5_l2 off len a m b (iWrap .i64 (iShr .u64 (iWrap .u64 (iAdd .i64 a b)) 1)) (iAdd .i64 (iWrap .i64 (iShr .u64 (iWrap .u64 (iAdd .i64 a b)) 1)) m) a m (iSub .i64 (iAdd .i64 (iWrap .i64 (iShr .u64 (iWrap .u64 (iAdd .i64 a b)) 1)) m) 1) c0 cs rest toks tys) rest toks tys :: rest) toks (82 :: 1000023 :: tys)))) Tr.fail) (Tr.ite (iLt (iWrap .i64 (iShr .u64 (iWrap .u64 (iAdd .i64 a b)) 1)) (iSub .i64 (iAdd .i64 (iWrap .i64 (iShr .u64 (iWrap .u64 (iAdd .i64 a b)) 1)) m) (sym5_n6 off len a m b (iWrap .i64 (iShr .u64 (iWrap .u64 (iAdd .i64 a b)) 1)) (iAdd .i64 (iWrap .i64 (iShr .u64 (iWrap .u64 (iAdd .i64 a b)) 1)) m) a m (iSub .i64 (iAdd .i64 (iWrap .i64 (iShr .u64 (iWrap .u64 (iAdd .i64 a b)) 1)) m) 1) c0 cs rest toks tys))) (Tr.ite (iLt (iSub .i64 (iAdd .i64 (iWrap .i64 (iShr .u64 (iWrap .u64 (iAdd .i64 a b)) 1)) m) (sym5_n6 off len a m b (iWrap .i64 (iShr .u64 (iWrap .u64 (iAdd .i64 a b)) 1)) (iAdd .i64 (iWrap .i64 (iShr .u64 (iWrap .u64 (iAdd .i64 a b)) 1)) m) a m (iSub .i64 (iAdd .i64 (iWrap .i64 (iShr .u64 (iWrap .u64 (iAdd .i64 a b)) 1)) m) 1) c0 cs rest toks tys)) b) (Tr.ite (rec_is0 off len (iWrap .i64 (iShr .u64 (iWrap .u64 (iAdd .i64 a b)) 1)) (iSub .i64 (iAdd .i64 (iWrap .i64 (iShr .u64 (iWrap .u64 (iAdd .i64 a b)) 1)) m) (sym5_n6 off len a m b (iWrap .i64 (iShr .u64 (iWrap .u64 (iAdd .i64 a b)) 1)) (iAdd .i64 (iWrap .i64 (iShr .u64 (iWrap .u64 (iAdd .i64 a b)) 1)) m) a m (iSub .i64 (iAdd .i64 (iWrap .i64 (iShr .u64 (iWrap .u64 (iAdd .i64 a b)) 1)) m) 1) c0 cs rest toks tys)) b c0 (sym5_l2 off len a m b (iWrap .i64 (iShr .u64 (iWrap .u64 (iAdd .i64 a b)) 1)) (iAdd .i64 (iWrap .i64 (iShr .u64 (iWrap .u64 (iAdd .i64 a b)) 1)) m) a m
 (iSub .i64 (iAdd .i64 (iWrap .i64 (iShr .u64 (iWrap .u64 (iAdd .i64 a b)) 1)) m) 1) c0 cs rest toks tys) rest toks tys) (Tr.ret (PV.tup [], Store.mk (c0 :: rec_l off len (iWrap .i64 (iShr .u64 (iWrap .u64 (iAdd .i64 a b)) 1)) (iSub .i64 (iAdd .i64 (iWrap .i64 (iShr .u64 (iWrap .u64 (iAdd .i64 a b)) 1)) m) (sym5_n6 off len a m b (iWrap .i64 (iShr .u64 (iWrap .u64 (iAdd .i64 a b)) 1)) (iAdd .i64 (iWrap .i64 (iShr .u64 (iWrap .u64 (iAdd .i64 a b)) 1)) m) a m (iSub .i64 (iAdd .i64 (iWrap .i64 (iShr .u64 (iWrap .u64 (iAdd .i64 a b)) 1)) m) 1) c0 cs rest toks tys)) b c0 (sym5_l2 off len a m b (iWrap .i64 (iShr .u64 (iWrap .u64 (iAdd .i64 a b)) 1)) (iAdd .i64 (iWrap .i64 (iShr .u64 (iWrap .u64 (iAdd .i64 a b)) 1)) m) a m (iSub .i64 (iAdd .i64 (iWrap .i64 (iShr .u64 (iWrap .u64 (iAdd .i64 a b)) 1)) m) 1) c0 cs rest toks tys) rest toks tys :: rest) toks (82 :: 1000023 :: tys))) Tr.fail) (Tr.ret (PV.tup [], Store.mk (c0 :: sym5_l2 off len a m b (iWrap .i64 (iShr .u64 (iWrap .u64 (iAdd .i64 a b)) 1)) (iAdd .i64 (iWrap .i64 (iShr .u64 (iWrap .u64 (iAdd .i64 a b)) 1)) m) a m (iSub .i64 (iAdd .i64 (iWrap .i64 (iShr .u64 (iWrap .u64 (iAdd .i64 a b)) 1)) m) 1) c0 cs rest toks tys :: rest) toks (82 :: 1000023 :: tys)))) (Tr.ret (PV.tup [], Store.mk (c0 :: sym5_l2 off len a m b (iWrap .i64 (iShr .u64 (iWrap .u64 (iAdd .i64 a b)) 1)) (iAdd .i64 (iWrap .i64 (iShr .u64 (iWrap .u64 (iAdd .i64 a b)) 1)) m) a m (iSub .i64 (iAdd .i64 (iWrap .i64 (iShr .u64 (iWrap .u64 (iAdd .i64 a b)) 1)) m) 1) c0 cs rest toks tys :: rest) toks (82 :: 1000023 :: tys))))) (Tr.ite (iLt (iWrap .i64 (iShr .u64 (iWrap .u64 (iAdd .i64 a b)) 1)) (iSub .i64 (iAdd .i64 (iWrap .i64 (iShr .u64 (iWrap .u64 (iAdd .i64 a b)) 1)) m) (sym5_n6 off len a m b (iWrap .i64 (iShr .u64 (iWrap .u64 (iAdd .i64 a b)) 1)) (iAdd .i64 (iWrap .i64 (iShr .u64 (iWrap .u64 (iAdd .i64 a b)) 1)) m) a m (iSub .i64 (iAdd .i64 (iWrap .i64 (iShr .u64 (iWrap .u64 (iAdd .i64 a b)) 1)) m) 1) c0 cs rest toks tys))) (Tr.ite (iLt
 (iSub .i64 (iAdd .i64 (iWrap .i64 (iShr .u64 (iWrap .u64 (iAdd .i64 a b)) 1)) m) (sym5_n6 off len a m b (iWrap .i64 (iShr .u64 (iWrap .u64 (iAdd .i64 a b)) 1)) (iAdd .i64 (iWrap .i64 (iShr .u64 (iWrap .u64 (iAdd .i64 a b)) 1)) m) a m (iSub .i64 (iAdd .i64 (iWrap .i64 (iShr .u64 (iWrap .u64 (iAdd .i64 a b)) 1)) m) 1) c0 cs rest toks tys)) b) (Tr.ite (rec_is0 off len (iWrap .i64 (iShr .u64 (iWrap .u64 (iAdd .i64 a b)) 1)) (iSub .i64 (iAdd .i64 (iWrap .i64 (iShr .u64 (iWrap .u64 (iAdd .i64 a b)) 1)) m) (sym5_n6 off len a m b (iWrap .i64 (iShr .u64 (iWrap .u64 (iAdd .i64 a b)) 1)) (iAdd .i64 (iWrap .i64 (iShr .u64 (iWrap .u64 (iAdd .i64 a b)) 1)) m) a m (iSub .i64 (iAdd .i64 (iWrap .i64 (iShr .u64 (iWrap .u64 (iAdd .i64 a b)) 1)) m) 1) c0 cs rest toks tys)) b c0 (sym5_l2 off len a m b (iWrap .i64 (iShr .u64 (iWrap .u64 (iAdd .i64 a b)) 1)) (iAdd .i64 (iWrap .i64 (iShr .u64 (iWrap .u64 (iAdd .i64 a b)) 1)) m) a m (iSub .i64 (iAdd .i64 (iWrap .i64 (iShr .u64 (iWrap .u64 (iAdd .i64 a b)) 1)) m) 1) c0 cs rest toks tys) rest toks tys) (Tr.ret (PV.tup [], Store.mk (c0 :: rec_l off len (iWrap .i64 (iShr .u64 (iWrap .u64 (iAdd .i64 a b)) 1)) (iSub .i64 (iAdd .i64 (iWrap .i64 (iShr .u64 (iWrap .u64 (iAdd .i64 a b)) 1)) m) (sym5_n6 off len a m b (iWrap .i64 (iShr .u64 (iWrap .u64 (iAdd .i64 a b)) 1)) (iAdd .i64 (iWrap .i64 (iShr .u64 (iWrap .u64 (iAdd .i64 a b)) 1)) m) a m (iSub .i64 (iAdd .i64 (iWrap .i64 (iShr .u64 (iWrap .u64 (iAdd .i64 a b)) 1)) m) 1) c0 cs rest toks tys)) b c0 (sym5_l2 off len a m b (iWrap .i64 (iShr .u64 (iWrap .u64 (iAdd .i64 a b)) 1)) (iAdd .i64 (iWrap .i64 (iShr .u64 (iWrap .u64 (iAdd .i64 a b)) 1)) m) a m (iSub .i64 (iAdd .i64 (iWrap .i64 (iShr .u64 (iWrap .u64 (iAdd .i64 a b)) 1)) m) 1) c0 cs rest toks tys) rest toks tys :: rest) toks (82 :: 1000023 :: tys))) Tr.fail) (Tr.ret (PV.tup [], Store.mk (c0 :: sym5_l2 off len a m b (iWrap .i64 (iShr .u64 (iWrap .u64 (iAdd .i64 a b)) 1)) (iAdd .i64 (iWrap .i64 (iShr .u64 (iWrap .u64 (iAdd .i64 a b)) 1)) m) a m
 (iSub .i64 (iAdd .i64 (iWrap .i64 (iShr .u64 (iWrap .u64 (iAdd .i64 a b)) 1)) m) 1) c0 cs rest toks tys :: rest) toks (82 :: 1000023 :: tys)))) (Tr.ret (PV.tup [], Store.mk (c0 :: sym5_l2 off len a m b (iWrap .i64 (iShr .u64 (iWrap .u64 (iAdd .i64 a b)) 1)) (iAdd .i64 (iWrap .i64 (iShr .u64 (iWrap .u64 (iAdd .i64 a b)) 1)) m) a m (iSub .i64 (iAdd .i64 (iWrap .i64 (iShr .u64 (iWrap .u64 (iAdd .i64 a b)) 1)) m) 1) c0 cs rest toks tys :: rest) toks (82 :: 1000023 :: tys)))))) Tr.fail)))
theorem sym_T (off : Nat) (len : Nat) (a : Int) (m : Int) (b : Int) (c0 : List PV) (cs : List PV) (rest : List (List PV)) (toks : List (Nat × Nat × TypeId)) (tys : List TypeId) : (tcallS tbT G_sym L_sym Tryd.f120 [.osl 1 off len 1, .int .i64 a, .int .i64 m, .int .i64 b, .fn 16 []] ⟨c0 :: cs :: rest, toks, 82 :: 1000023 :: tys⟩).flat = sym_Tr off len a m b c0 cs rest toks tys := by kernel_rfl
noncomputable def sym_W (off : Nat) (len : Nat) (a : Int) (m : Int) (b : Int) (c0 : List PV) (cs : List PV) (rest : List (List PV)) (toks : List (Nat × Nat × TypeId)) (tys : List TypeId) : Option (PV × Store) := (sym_Tr off len a m b c0 cs rest toks tys).run
noncomputable def sym_l2 (off : Nat) (len : Nat) (a : Int) (m : Int) (b : Int) (c0 : List PV) (cs : List PV) (rest : List (List PV)) (toks : List (Nat × Nat × TypeId)) (tys : List TypeId) : List PV := (gObj (asOut (sym_W off len a m b c0 cs rest toks tys)) 1)
noncomputable def sym_is0 (off : Nat) (len : Nat) (a : Int) (m : Int) (b : Int) (c0 : List PV) (cs : List PV) (rest : List (List PV)) (toks : List (Nat × Nat × TypeId)) (tys : List TypeId) : Bool := isW (sym_W off len a m b c0 cs rest toks tys) (.tup [], ⟨(c0 :: (sym_l2 off len a m b c0 cs rest toks tys) :: rest), (toks), (82 :: 1000023 :: tys)⟩)
noncomputable def D_sym : List PV → Store → Tr (PV × Store) | [.osl 1 off len 1, .int .i64 a, .int .i64 m, .int .i64 b, .fn 16 []], ⟨c0 :: cs :: rest, toks, 82 :: 1000023 :: tys⟩ => .ite (sym_is0 off len a m b c0 cs rest toks tys) (.ret (.tup [], ⟨(c0 :: (sym_l2 off len a m b c0 cs rest toks tys) :: rest), (toks), (82 :: 1000023 :: tys)⟩)) (.fail) | _, _ => .fail
theorem sim_sym (gl : Nat → Option Obj) (hN : SimS Tryd.prog gl 120 fun args σ => (D_rec args σ).run) : SimS Tryd.prog gl 120 fun args σ => (D_sym args σ).run := by
  refine SimS.of_flat (G := G_sym) (L := L_sym) tbT_ok (gok_sym gl hN ) noMixed Tryd.func120 rfl (by rfl) (by kernel_rfl) (loopOk_all (L := lps L_sym) [(3, c_sym1), (9, c_sym2), (15, c_sym3), (21, c_sym4), (33, c_sym5)] (by kernel_rfl) (List.forall_mem_cons.2 ⟨fun fr σ e fr' σ' h => loop_sym1 gl hN  fr σ e fr' σ' h, (List.forall_mem_cons.2 ⟨fun fr σ e fr' σ' h => loop_sym2 gl hN  fr σ e fr' σ' h, (List.forall_mem_cons.2 ⟨fun fr σ e fr' σ' h => loop_sym3 gl hN  fr σ e fr' σ' h, (List.forall_mem_cons.2 ⟨fun fr σ e fr' σ' h => loop_sym4 gl hN  fr σ e fr' σ' h, (List.forall_mem_cons.2 ⟨fun fr σ e fr' σ' h => loop_sym5 gl hN  fr σ e fr' σ' h, (List.forall_mem_nil _)⟩)⟩)⟩)⟩)⟩)) ?_
  intro args σ x h
  unfold D_sym at h
  split at h
  · exact (congrArg Tr.run (sym_T _ _ _ _ _ _ _ _ _ _)).trans (ite_isW h fun h => by cases h)
  · cases h
end Go.Pv

/- Rows that are put in order: where things go, and what stays. No program in sight. -/
set_option linter.unusedSimpArgs false
set_option linter.unusedVariables false
namespace Go.Pv
section
variable {α : Type}
/-- One place put anew. -/
def upd (f : Nat → α) (i : Nat) (x : α) : Nat → α := fun k => if k = i then x else f k
theorem upd_at (f : Nat → α) (i : Nat) (x : α) (k : Nat) : upd f i x k = if k = i then x else f k := rfl

/-- The same things, from lo to hi at other places. -/
def Mv (f g : Nat → α) (lo hi : Nat) : Prop :=
  ∃ s t : Nat → Nat, (∀ k, s (t k) = k) ∧ (∀ k, t (s k) = k) ∧ (∀ k, k < lo ∨ hi ≤ k → s k = k) ∧ ∀ k, g k = f (s k)
namespace Mv
theorem refl (f : Nat → α) (lo hi : Nat) : Mv f f lo hi := ⟨id, id, fun _ => rfl, fun _ => rfl, fun _ _ => rfl, fun _ => rfl⟩
theorem trans {f g h : Nat → α} {lo hi : Nat} : Mv f g lo hi → Mv g h lo hi → Mv f h lo hi
  | ⟨s, t, h1, h2, h3, h4⟩, ⟨s', t', h1', h2', h3', h4'⟩ => ⟨fun k => s (s' k), fun k => t' (t k),
    fun k => by simp only [h1', h1], fun k => by simp only [h2, h2'], fun k hk => by simp only [h3' k hk, h3 k hk], fun k => by simp only [h4', h4]⟩
theorem mono {f g : Nat → α} {lo hi lo' hi' : Nat} (h : Mv f g lo hi) (hl : lo' ≤ lo) (hh : hi ≤ hi') : Mv f g lo' hi' := by
  obtain ⟨s, t, h1, h2, h3, h4⟩ := h
  exact ⟨s, t, h1, h2, fun k hk => h3 k (by omega), h4⟩
theorem swap (f : Nat → α) {lo hi i j : Nat} (hi1 : lo ≤ i) (hi2 : i < hi) (hj1 : lo ≤ j) (hj2 : j < hi) : Mv f (upd (upd f i (f j)) j (f i)) lo hi := by
  refine ⟨fun k => if k = j then i else if k = i then j else k, fun k => if k = j then i else if k = i then j else k, ?_, ?_, ?_, ?_⟩
  · intro k; simp only []; split <;> split <;> simp_all <;> omega
  · intro k; simp only []; split <;> split <;> simp_all <;> omega
  · intro k hk; simp only []; repeat' split
    all_goals omega
  · intro k
    simp only [upd_at]
    split
    · rfl
    · split <;> simp_all
theorem out {f g : Nat → α} {lo hi : Nat} (h : Mv f g lo hi) {k : Nat} (hk : k < lo ∨ hi ≤ k) : g k = f k := by
  obtain ⟨s, t, h1, h2, h3, h4⟩ := h
  rw [h4, h3 k hk]
theorem inn {f g : Nat → α} {lo hi : Nat} (h : Mv f g lo hi) {k : Nat} (h5 : lo ≤ k) (h6 : k < hi) : ∃ j, lo ≤ j ∧ j < hi ∧ g k = f j := by
  obtain ⟨s, t, h1, h2, h3, h4⟩ := h
  refine ⟨s k, ?_, ?_, h4 k⟩
  · apply Decidable.byContradiction
    intro hc
    have h7 := h3 (s k) (by omega)
    have h8 : s k = k := by have := congrArg t h7; rw [h2, h2] at this; exact this
    omega
  · apply Decidable.byContradiction
    intro hc
    have h7 := h3 (s k) (by omega)
    have h8 : s k = k := by have := congrArg t h7; rw [h2, h2] at this; exact this
    omega
theorem symm {f g : Nat → α} {lo hi : Nat} (h : Mv f g lo hi) : Mv g f lo hi := by
  obtain ⟨s, t, h1, h2, h3, h4⟩ := h
  refine ⟨t, s, h2, h1, fun k hk => ?_, fun k => ?_⟩
  · have := congrArg t (h3 k hk); rw [h2] at this; exact this.symm
  · rw [h4, h1]
end Mv

/-- Two ranges of n, one for the other. -/
def swR (f : Nat → α) (a b n : Nat) : Nat → α := fun k => if a ≤ k ∧ k < a + n then f (b + (k - a)) else if b ≤ k ∧ k < b + n then f (a + (k - b)) else f k
theorem swR_zero (f : Nat → α) (a b : Nat) : swR f a b 0 = f := by
  funext k; unfold swR; split
  · omega
  · split
    · omega
    · rfl
theorem swR_succ (f : Nat → α) {a b n : Nat} (h : a + n < b) : upd (upd (swR f a b n) (a + n) (swR f a b n (b + n))) (b + n) (swR f a b n (a + n)) = swR f a b (n + 1) := by
  have e1 : swR f a b n (b + n) = f (b + n) := by unfold swR; rw [if_neg (by omega), if_neg (by omega)]
  have e2 : swR f a b n (a + n) = f (a + n) := by unfold swR; rw [if_neg (by omega), if_neg (by omega)]
  rw [e1, e2]
  funext k
  simp only [upd_at, swR]
  by_cases h1 : k = b + n
  · rw [if_pos h1, if_neg (by omega), if_pos (by omega)]; congr 1; omega
  · rw [if_neg h1]
    by_cases h2 : k = a + n
    · rw [if_pos h2, if_pos (by omega)]; congr 1; omega
    · rw [if_neg h2]
      by_cases h3 : a ≤ k ∧ k < a + n
      · rw [if_pos h3, if_pos (by omega)]
      · rw [if_neg h3]
        rw [if_neg (c := a ≤ k ∧ k < a + (n + 1)) (by omega)]
        by_cases h4 : b ≤ k ∧ k < b + n
        · rw [if_pos h4, if_pos (by omega)]
        · rw [if_neg h4, if_neg (by omega)]
theorem swR_mv (f : Nat → α) {a b lo hi : Nat} : ∀ {n : Nat}, lo ≤ a → a + n ≤ b → b + n ≤ hi → Mv f (swR f a b n) lo hi
  | 0, _, _, _ => by rw [swR_zero]; exact Mv.refl _ _ _
  | n + 1, h1, h2, h3 => by
    rw [← swR_succ f (by omega)]
    exact (swR_mv f h1 (by omega) (by omega)).trans (Mv.swap _ (by omega) (by omega) (by omega) (by omega))

/-- The range up to m behind the range from m. -/
def rotR (f : Nat → α) (lo m hi : Nat) : Nat → α := fun k => if lo ≤ k ∧ k < lo + (hi - m) then f (k + (m - lo)) else if lo + (hi - m) ≤ k ∧ k < hi then f (k - (hi - m)) else f k
theorem rotR_more (f : Nat → α) {m i j : Nat} (h1 : j < i) (h2 : i ≤ m) : rotR (swR f (m - i) m j) (m - (i - j)) m (m + j) = rotR f (m - i) m (m + j) := by
  funext k
  simp only [rotR, swR]
  repeat' split
  all_goals first | rfl | (congr 1; omega) | omega
theorem rotR_less (f : Nat → α) {m i j : Nat} (h1 : i < j) (h2 : i ≤ m) : rotR (swR f (m - i) (m + j - i) i) (m - i) m (m + (j - i)) = rotR f (m - i) m (m + j) := by
  funext k
  simp only [rotR, swR]
  repeat' split
  all_goals first | rfl | (congr 1; omega) | omega
theorem rotR_same (f : Nat → α) {m i : Nat} (h2 : i ≤ m) : swR f (m - i) m i = rotR f (m - i) m (m + i) := by
  funext k
  simp only [rotR, swR]
  repeat' split
  all_goals first | rfl | (congr 1; omega) | omega
theorem rotR_lo (f : Nat → α) (m hi : Nat) : rotR f m m hi = f := by
  funext k
  simp only [rotR]
  repeat' split
  all_goals first | rfl | (congr 1; omega) | omega
theorem rotR_hi (f : Nat → α) {lo m : Nat} (h : lo ≤ m) : rotR f lo m m = f := by
  funext k
  simp only [rotR]
  repeat' split
  all_goals first | rfl | (congr 1; omega) | omega
end

section
variable {α : Type} {c : α → α → Int} (T : Tot c)
/-- In order from lo to hi. -/
def Srt (c : α → α → Int) (f : Nat → α) (lo hi : Nat) : Prop := ∀ p q, lo ≤ p → p < q → q < hi → c (f p) (f q) ≤ 0
/-- In order but for the place j. -/
def SrtX (c : α → α → Int) (f : Nat → α) (lo hi j : Nat) : Prop := ∀ p q, lo ≤ p → p < q → q < hi → q ≠ j → c (f p) (f q) ≤ 0
theorem SrtX.init {f : Nat → α} {lo i : Nat} (h : Srt c f lo i) : SrtX c f lo (i + 1) i := fun p q h1 h2 h3 h4 => h p q h1 h2 (by omega)
theorem SrtX.done0 {f : Nat → α} {lo hi : Nat} (h : SrtX c f lo hi lo) : Srt c f lo hi := fun p q h1 h2 h3 => h p q h1 h2 h3 (by omega)
include T
theorem SrtX.done {f : Nat → α} {lo hi j : Nat} (h : SrtX c f lo hi j) (hl : lo < j) (hj : j < hi) (h1 : ¬ c (f j) (f (j - 1)) < 0) : Srt c f lo hi := by
  intro p q hp hq hh
  by_cases e : q = j
  · subst e
    have h2 : c (f (q - 1)) (f q) ≤ 0 := by have := T.swap (f q) (f (q - 1)); omega
    by_cases e' : p = q - 1
    · rw [e']; exact h2
    · exact T.le_trans (h p (q - 1) hp (by omega) (by omega) (by omega)) h2
  · exact h p q hp hq hh e
omit T in
theorem SrtX.step {f : Nat → α} {lo hi j : Nat} (h : SrtX c f lo hi j) (hl : lo < j) (hj : j < hi) (h1 : c (f j) (f (j - 1)) < 0) :
    SrtX c (upd (upd f j (f (j - 1))) (j - 1) (f j)) lo hi (j - 1) := by
  intro p q hp hq hh hx
  simp only [upd_at]
  rw [if_neg hx]
  by_cases e : q = j
  · rw [if_pos e]
    by_cases e1 : p = j - 1
    · rw [if_pos e1]; omega
    · rw [if_neg e1, if_neg (by omega)]
      exact h p (j - 1) hp (by omega) (by omega) (by omega)
  · rw [if_neg e]
    by_cases e1 : p = j - 1
    · rw [if_pos e1]
      exact h j q (by omega) (by omega) hh e
    · rw [if_neg e1]
      by_cases e2 : p = j
      · rw [if_pos e2]; exact h (j - 1) q (by omega) (by omega) hh e
      · rw [if_neg e2]; exact h p q hp hq hh e
omit T in
theorem Srt.one (f : Nat → α) (lo : Nat) : Srt c f lo (lo + 1) := fun p q _ _ _ => by omega
omit T in
theorem Srt.sub {f : Nat → α} {lo hi lo' hi' : Nat} (h : Srt c f lo hi) (h1 : lo ≤ lo') (h2 : hi' ≤ hi) : Srt c f lo' hi' := fun p q a b d => h p q (by omega) b (by omega)
omit T in
theorem Srt.congr {f g : Nat → α} {lo hi : Nat} (h : Srt c f lo hi) (e : ∀ k, lo ≤ k → k < hi → g k = f k) : Srt c g lo hi := fun p q a b d => by
  rw [e p a (by omega), e q (by omega) d]; exact h p q a b d
omit T in
/-- Two ranges, each in order, the first not above the second. -/
theorem Srt.join {f : Nat → α} {lo m hi : Nat} (h1 : Srt c f lo m) (h2 : Srt c f m hi) (h3 : ∀ p q, lo ≤ p → p < m → m ≤ q → q < hi → c (f p) (f q) ≤ 0) : Srt c f lo hi := by
  intro p q a b d
  by_cases e : q < m
  · exact h1 p q a b e
  · by_cases e' : m ≤ p
    · exact h2 p q e' b d
    · exact h3 p q a (by omega) (by omega) d
theorem le_of_not {x y : α} (h : ¬ c x y < 0) : c y x ≤ 0 := by have := T.swap x y; omega

/-- A merge of two ranges, by a cut that is found: what stands where it is cut. -/
structure Cut (c : α → α → Int) (f : Nat → α) (a m b mid start : Nat) : Prop where
  am : a ≤ start
  sm : start ≤ m
  smid : start ≤ mid
  em : m ≤ mid + m - start
  eb : mid + m - start ≤ b
  lo : ∀ p q, a ≤ p → p < start → mid + m - start ≤ q → q < b → c (f p) (f q) ≤ 0
  hi : ∀ p q, m ≤ p → p < mid + m - start → start ≤ q → q < m → c (f p) (f q) ≤ 0
omit T in
theorem rotR_at {f : Nat → α} {start m mid : Nat} (h1 : start ≤ m) (h2 : start ≤ mid) (k : Nat) :
    rotR f start m (mid + m - start) k = if k < start then f k else if k < mid then f (k + (m - start)) else if k < mid + m - start then f (k - (mid - start)) else f k := by
  simp only [rotR]
  repeat' split
  all_goals first | rfl | (congr 1; omega) | omega
omit T in
theorem Cut.left1 {f : Nat → α} {a m b mid start : Nat} (h : Cut c f a m b mid start) (hA : Srt c f a m) : Srt c (rotR f start m (mid + m - start)) a start := by
  intro p q h1 h2 h3
  have := h.am; have := h.sm; have := h.smid
  rw [rotR_at h.sm h.smid, rotR_at h.sm h.smid, if_pos (by omega), if_pos (by omega)]
  exact hA p q h1 h2 (by omega)
omit T in
theorem Cut.left2 {f : Nat → α} {a m b mid start : Nat} (h : Cut c f a m b mid start) (hB : Srt c f m b) : Srt c (rotR f start m (mid + m - start)) start mid := by
  intro p q h1 h2 h3
  have := h.am; have := h.sm; have := h.smid; have := h.em; have := h.eb
  rw [rotR_at h.sm h.smid, rotR_at h.sm h.smid, if_neg (by omega), if_pos (by omega), if_neg (by omega), if_pos (by omega)]
  exact hB _ _ (by omega) (by omega) (by omega)
omit T in
theorem Cut.right1 {f : Nat → α} {a m b mid start : Nat} (h : Cut c f a m b mid start) (hA : Srt c f a m) : Srt c (rotR f start m (mid + m - start)) mid (mid + m - start) := by
  intro p q h1 h2 h3
  have := h.am; have := h.sm; have := h.smid; have := h.em; have := h.eb
  rw [rotR_at h.sm h.smid, rotR_at h.sm h.smid, if_neg (by omega), if_neg (by omega), if_pos (by omega), if_neg (by omega), if_neg (by omega), if_pos (by omega)]
  exact hA _ _ (by omega) (by omega) (by omega)
omit T in
theorem Cut.right2 {f : Nat → α} {a m b mid start : Nat} (h : Cut c f a m b mid start) (hB : Srt c f m b) : Srt c (rotR f start m (mid + m - start)) (mid + m - start) b := by
  intro p q h1 h2 h3
  have := h.am; have := h.sm; have := h.smid; have := h.em; have := h.eb
  rw [rotR_at h.sm h.smid, rotR_at h.sm h.smid, if_neg (by omega), if_neg (by omega), if_neg (by omega), if_neg (by omega), if_neg (by omega), if_neg (by omega)]
  exact hB _ _ (by omega) (by omega) (by omega)
omit T in
theorem Cut.across {f : Nat → α} {a m b mid start : Nat} (h : Cut c f a m b mid start) (hA : Srt c f a m) (hB : Srt c f m b) (hm : mid ≤ b) (p q : Nat) (h1 : a ≤ p) (h2 : p < mid) (h3 : mid ≤ q) (h4 : q < b) :
    c (rotR f start m (mid + m - start) p) (rotR f start m (mid + m - start) q) ≤ 0 := by
  have := h.am; have := h.sm; have := h.smid; have := h.em; have := h.eb
  rw [rotR_at h.sm h.smid, rotR_at h.sm h.smid, if_neg (c := q < start) (by omega), if_neg (c := q < mid) (by omega), if_pos h2]
  split
  · split
    · exact hA _ _ (by omega) (by omega) (by omega)
    · exact h.lo _ _ (by omega) (by omega) (by omega) (by omega)
  · split
    · exact h.hi _ _ (by omega) (by omega) (by omega) (by omega)
    · exact hB _ _ (by omega) (by omega) (by omega)
/-- The cut that the search finds. -/
theorem Cut.of {f : Nat → α} {a m b mid start lo hi : Nat} (hA : Srt c f a m) (hB : Srt c f m b) (h0 : a < m) (h00 : m < b) (hmid : mid = (a + b) / 2)
    (hlo : lo = if mid < m then mid + m - b else a) (hhi : hi = if mid < m then mid else m) (h1 : lo ≤ start) (h2 : start ≤ hi)
    (h3 : ∀ k, lo ≤ k → k < start → ¬ c (f (mid + m - 1 - k)) (f k) < 0) (h4 : ∀ k, start ≤ k → k < hi → c (f (mid + m - 1 - k)) (f k) < 0) : Cut c f a m b mid start := by
  have e1 : a ≤ lo := by rw [hlo]; split <;> omega
  have e2 : hi ≤ m := by rw [hhi]; split <;> omega
  have e3 : hi ≤ mid := by rw [hhi]; split <;> omega
  have e4 : mid + m - lo ≤ b := by rw [hlo]; split <;> omega
  refine ⟨by omega, by omega, by omega, by omega, ?_, ?_, ?_⟩
  · rw [hlo] at h1; split at h1 <;> omega
  · intro p q hp hp2 hq hq2
    by_cases e : lo = start
    · rw [hlo] at e; split at e <;> omega
    · have h5 := le_of_not T (h3 (start - 1) (by omega) (by omega))
      have h6 : mid + m - 1 - (start - 1) = mid + m - start := by omega
      rw [h6] at h5
      have h7 : c (f p) (f (mid + m - start)) ≤ 0 := by
        by_cases e' : p = start - 1
        · rw [e']; exact h5
        · exact T.le_trans (hA p (start - 1) hp (by omega) (by omega)) h5
      by_cases e' : q = mid + m - start
      · rw [e']; exact h7
      · exact T.le_trans h7 (hB _ _ (by omega) (by omega) hq2)
  · intro p q hp hp2 hq hq2
    by_cases e : start = hi
    · rw [hhi] at e; split at e <;> omega
    · have h5 := h4 start (Nat.le_refl _) (by omega)
      have h7 : c (f p) (f start) ≤ 0 := by
        by_cases e' : p = mid + m - 1 - start
        · rw [e']; omega
        · exact T.le_trans (hB p (mid + m - 1 - start) hp (by omega) (by omega)) (by omega)
      by_cases e' : q = start
      · rw [e']; exact h7
      · exact T.le_trans h7 (hA _ _ (by omega) (by omega) hq2)
omit T in
/-- Both halves put in order. -/
theorem merge_done {f g h : Nat → α} {a mid b : Nat} (h1 : a ≤ mid) (h2 : mid ≤ b) (m1 : Mv f g a mid) (s1 : Srt c g a mid) (m2 : Mv g h mid b) (s2 : Srt c h mid b)
    (hx : ∀ p q, a ≤ p → p < mid → mid ≤ q → q < b → c (f p) (f q) ≤ 0) : Srt c h a b ∧ Mv f h a b := by
  refine ⟨Srt.join (s1.congr fun k _ hk => m2.out (by omega)) s2 fun p q hp hp2 hq hq2 => ?_, (m1.mono (Nat.le_refl _) h2).trans (m2.mono h1 (Nat.le_refl _))⟩
  rw [m2.out (by omega)]
  obtain ⟨j, hj1, hj2, e⟩ := m1.inn hp hp2
  obtain ⟨j', hj1', hj2', e'⟩ := m2.inn hq hq2
  rw [e, e', m1.out (by omega)]
  exact hx j j' hj1 hj2 hj1' hj2'

omit T in
/-- One put ahead of its place, the others behind it one further. -/
theorem shl_step {f g : Nat → α} {a k : Nat} (h : g = fun p => if a ≤ p ∧ p < k then f (p + 1) else if p = k then f a else f p) (hk : a ≤ k) :
    upd (upd g k (g (k + 1))) (k + 1) (g k) = fun p => if a ≤ p ∧ p < k + 1 then f (p + 1) else if p = k + 1 then f a else f p := by
  have e1 : g (k + 1) = f (k + 1) := by rw [h]; simp only []; rw [if_neg (by omega), if_neg (by omega)]
  have e2 : g k = f a := by rw [h]; simp
  rw [e1, e2]
  funext p
  simp only [upd_at]
  by_cases h1 : p = k + 1
  · rw [if_pos h1, if_neg (by omega), if_pos h1]
  · rw [if_neg h1]
    by_cases h2 : p = k
    · rw [if_pos h2, if_pos (by omega), h2]
    · rw [if_neg h2, h]
      simp only []
      by_cases h3 : a ≤ p ∧ p < k
      · rw [if_pos h3, if_pos (by omega)]
      · rw [if_neg h3, if_neg h2, if_neg (by omega), if_neg h1]
omit T in
theorem shr_step {f g : Nat → α} {m k : Nat} (h : g = fun p => if k < p ∧ p ≤ m then f (p - 1) else if p = k then f m else f p) (h0 : 0 < k) (hk : k ≤ m) :
    upd (upd g k (g (k - 1))) (k - 1) (g k) = fun p => if k - 1 < p ∧ p ≤ m then f (p - 1) else if p = k - 1 then f m else f p := by
  have e1 : g (k - 1) = f (k - 1) := by rw [h]; simp only []; rw [if_neg (by omega), if_neg (by omega)]
  have e2 : g k = f m := by rw [h]; simp
  rw [e1, e2]
  funext p
  simp only [upd_at]
  by_cases h1 : p = k - 1
  · rw [if_pos h1, if_neg (by omega), if_pos h1]
  · rw [if_neg h1]
    by_cases h2 : p = k
    · rw [if_pos h2, if_pos (by omega), h2]
    · rw [if_neg h2, h]
      simp only []
      by_cases h3 : k < p ∧ p ≤ m
      · rw [if_pos h3, if_pos (by omega)]
      · rw [if_neg h3, if_neg h2, if_neg (by omega), if_neg h1]
theorem shl_srt {f : Nat → α} {a b i : Nat} (hB : Srt c f (a + 1) b) (h1 : a + 1 ≤ i) (h2 : i ≤ b) (h3 : ∀ k, a + 1 ≤ k → k < i → c (f k) (f a) < 0) (h4 : ∀ k, i ≤ k → k < b → ¬ c (f k) (f a) < 0) :
    Srt c (fun p => if a ≤ p ∧ p < i - 1 then f (p + 1) else if p = i - 1 then f a else f p) a b := by
  intro p q hp hq hh
  simp only []
  repeat' split
  all_goals first
    | omega
    | exact hB _ _ (by omega) (by omega) (by omega)
    | (have := h3 (p + 1) (by omega) (by omega); omega)
    | exact le_of_not T (h4 _ (by omega) (by omega))
theorem shr_srt {f : Nat → α} {a m i : Nat} (hA : Srt c f a m) (h1 : a ≤ i) (h2 : i ≤ m) (h3 : ∀ k, a ≤ k → k < i → ¬ c (f m) (f k) < 0) (h4 : ∀ k, i ≤ k → k < m → c (f m) (f k) < 0) :
    Srt c (fun p => if i < p ∧ p ≤ m then f (p - 1) else if p = i then f m else f p) a (m + 1) := by
  intro p q hp hq hh
  simp only []
  repeat' split
  all_goals first
    | omega
    | exact hA _ _ (by omega) (by omega) (by omega)
    | (have := h4 (q - 1) (by omega) (by omega); omega)
    | exact le_of_not T (h3 _ (by omega) (by omega))
end

/-- A search that halves: told by its rounds. -/
theorem halves {R : Type} (V : Nat → Nat → R) (D : Nat → R) (Q : Nat → Prop) (lo hi : Nat)
    (hV : ∀ i j, lo ≤ i → i < j → j ≤ hi → (Q ((i + j) / 2) → V i j = V ((i + j) / 2 + 1) j) ∧ (¬ Q ((i + j) / 2) → V i j = V i ((i + j) / 2)))
    (hD : ∀ i, lo ≤ i → i ≤ hi → V i i = D i) (mono : ∀ p q, lo ≤ p → p < q → q < hi → Q q → Q p) :
    ∀ k i j, j - i ≤ k → lo ≤ i → i ≤ j → j ≤ hi → (∀ p, lo ≤ p → p < i → Q p) → (∀ p, j ≤ p → p < hi → ¬ Q p) →
      ∃ i', V i j = D i' ∧ lo ≤ i' ∧ i' ≤ hi ∧ (∀ p, lo ≤ p → p < i' → Q p) ∧ (∀ p, i' ≤ p → p < hi → ¬ Q p) := by
  intro k
  induction k with
  | zero =>
    intro i j h h1 h2 h3 h4 h5
    have e : i = j := by omega
    subst e
    exact ⟨i, hD i h1 h3, h1, h3, h4, h5⟩
  | succ k ih =>
    intro i j h h1 h2 h3 h4 h5
    by_cases e : i = j
    · subst e
      exact ⟨i, hD i h1 h3, h1, h3, h4, h5⟩
    · have hm1 : i ≤ (i + j) / 2 := by omega
      have hm2 : (i + j) / 2 < j := by omega
      obtain ⟨s1, s2⟩ := hV i j h1 (by omega) h3
      by_cases q : Q ((i + j) / 2)
      · rw [s1 q]
        refine ih _ _ (by omega) (by omega) (by omega) h3 (fun p hp hp2 => ?_) h5
        by_cases e : p = (i + j) / 2
        · rw [e]; exact q
        · exact mono p _ hp (by omega) (by omega) q
      · rw [s2 q]
        refine ih _ _ (by omega) h1 hm1 (by omega) h4 (fun p hp hp2 hq => ?_)
        by_cases e : p = (i + j) / 2
        · rw [e] at hq; exact q hq
        · exact q (mono _ p (by omega) (by omega) hp2 hq)
end Go.Pv

/- Own rows of rows, as functions; whole numbers as they are reckoned with. No program in sight. -/
set_option linter.unusedSimpArgs false
set_option linter.unusedVariables false
namespace Go.Pv
section
variable {β : Type} (C : Cod β)
/-- An own row of rows. -/
def oA (f : Nat → List β) (n : Nat) : List PV := (List.range n).map fun i => .sl (rOf C (f i)) .non
@[simp] theorem oA_len (f : Nat → List β) (n : Nat) : (oA C f n).length = n := by simp [oA]
theorem oA_get {f : Nat → List β} {n i : Nat} (h : i < n) : (oA C f n)[i]? = some (.sl (rOf C (f i)) .non) := by simp [oA, h]
theorem oA_getD {f : Nat → List β} {n i : Nat} (h : i < n) : (oA C f n).getD i .top = .sl (rOf C (f i)) .non := by simp [List.getD, oA_get C h]
theorem cRow_oA {f : Nat → List β} {n i : Nat} (h : i < n) : cRow (oA C f n) i 0 = rOf C (f i) := by simp only [cRow, Nat.add_zero, oA_getD C h]
theorem okCell_oA {f : Nat → List β} {n i : Nat} (h : i < n) : okCell [.sl [] .full] (oA C f n) i = true := by
  have h1 : (oA C f n).drop i = .sl (rOf C (f i)) .non :: (oA C f n).drop (i + 1) := by
    rw [List.drop_eq_getElem_cons (by simpa using h)]
    congr 1
    have := oA_get C (f := f) h
    rw [List.getElem?_eq_getElem (by simpa using h)] at this
    exact Option.some.inj this
  simp only [okCell, List.length_cons, List.length_nil, Nat.zero_add, h1, List.take_succ_cons, List.take_zero, oA_len, cSel, cCell, cRow_oA C h]
  simp
  omega
theorem okOff_oA {f : Nat → List β} {n i : Nat} (h : i < n) : okOff (oA C f n) i 1 = true := by simp [okOff]; omega
theorem putC_oA {f : Nat → List β} {n i : Nat} (x : List β) (h : i < n) : putC (oA C f n) i [.sl (rOf C x) .non] = oA C (upd f i x) n := by
  apply List.ext_getElem?
  intro k
  have e : putC (oA C f n) i [.sl (rOf C x) .non] = (oA C f n).set i (.sl (rOf C x) .non) := by
    simp only [putC, List.length_cons, List.length_nil, Nat.zero_add]
    rw [List.set_eq_take_append_cons_drop, if_pos (by simpa using h)]
    simp
  rw [e, List.getElem?_set]
  by_cases hk : k < n
  · by_cases hi : i = k
    · subst hi
      simp [h, oA, upd]
    · rw [if_neg hi, oA_get C hk, oA_get C hk, upd_at, if_neg (by omega)]
  · have : ¬ i = k := by omega
    rw [if_neg this, List.getElem?_eq_none (by simp; omega), List.getElem?_eq_none (by simp; omega)]
theorem oA_congr {f g : Nat → List β} {n : Nat} (h : ∀ k, k < n → f k = g k) : oA C f n = oA C g n := by
  apply List.map_congr_left
  intro k hk
  rw [h k (by simpa using hk)]
/-- A row as an own row. -/
theorem oA_of (l : List (List β)) : oA C (fun i => l.getD i []) l.length = l.map fun x => .sl (rOf C x) .non := by
  apply List.ext_getElem?
  intro k
  by_cases hk : k < l.length
  · rw [oA_get C hk]; simp [hk]
  · rw [List.getElem?_eq_none (by simp; omega), List.getElem?_eq_none (by simp; omega)]
end

/-! ### whole numbers -/
theorem add_N {a b : Nat} (h : a + b ≤ 9223372036854775807) : iAdd .i64 (a : Int) (b : Int) = ((a + b : Nat) : Int) := by
  unfold iAdd; rw [wrap_i64 (by omega)]; omega
theorem add_N1 {a : Nat} (h : a < 9223372036854775807) : iAdd .i64 (a : Int) 1 = ((a + 1 : Nat) : Int) := inc_i64 h
theorem add_1N {a : Nat} (h : a < 9223372036854775807) : iAdd .i64 1 (a : Int) = ((1 + a : Nat) : Int) := by
  unfold iAdd; rw [wrap_i64 (by omega)]; omega
theorem sub_N {a b : Nat} (h : b ≤ a) (h2 : a ≤ 9223372036854775807) : iSub .i64 (a : Int) (b : Int) = ((a - b : Nat) : Int) := by
  unfold iSub; rw [wrap_i64 (by omega)]; omega
theorem sub_N1 {a : Nat} (h : 1 ≤ a) (h2 : a ≤ 9223372036854775807) : iSub .i64 (a : Int) 1 = ((a - 1 : Nat) : Int) := by
  unfold iSub; rw [wrap_i64 (by omega)]; omega
theorem okIx_N (a n : Nat) : okIx (a : Int) n = decide (a < n) := by unfold okIx; simp
theorem nNat_N (a : Nat) : nNat (a : Int) = a := by unfold nNat; simp
theorem pOff_01 (a : Nat) : pOff 0 a 1 = a := by unfold pOff; omega
theorem iLt_N (a b : Nat) : iLt (a : Int) (b : Int) = decide (a < b) := by unfold iLt; simp
theorem iLe_N (a b : Nat) : iLe (a : Int) (b : Int) = decide (a ≤ b) := by unfold iLe; simp
theorem iEq_N (a b : Nat) : iEq (a : Int) (b : Int) = decide (a = b) := by
  unfold iEq
  by_cases h : a = b
  · simp [h]
  · have : (a : Int) ≠ b := by omega
    simp [h, this]
theorem iNe_N (a b : Nat) : iNe (a : Int) (b : Int) = decide (a ≠ b) := by
  unfold iNe
  by_cases h : a = b
  · simp [h]
  · have : (a : Int) ≠ b := by omega
    simp [h, this]
theorem iEq_N1 (a : Nat) : iEq (a : Int) 1 = decide (a = 1) := iEq_N a 1
theorem half_N {a b : Nat} (h : a + b ≤ 9223372036854775807) : iWrap .i64 (iShr .u64 (iWrap .u64 (iAdd .i64 (a : Int) (b : Int))) 1) = (((a + b) / 2 : Nat) : Int) := by
  rw [add_N h]
  have e1 : iWrap .u64 ((a + b : Nat) : Int) = ((a + b : Nat) : Int) := by
    unfold iWrap; exact wrap_u64 (by omega)
  rw [e1]
  have e2 : iShr .u64 ((a + b : Nat) : Int) 1 = (((a + b) / 2 : Nat) : Int) := by
    unfold iShr
    have : (2 : Int) ^ min (Int.toNat 1) (IntKind.bits .u64) = 2 := rfl
    rw [this, Int.fdiv_eq_ediv_of_nonneg _ (by omega)]
    omega
  rw [e2]
  unfold iWrap
  exact wrap_i64 (by omega)
/-- Rows that grow from nothing become own rows. -/
theorem gamOk_flag {P : Go.Program} {gl : Nat → Option Go.Obj} {l : List (Go.FuncId × ConT)} (hl : GamOk P gl (gam (ofL l))) : GamOk P gl (gam (ofL ((objKey, .flag) :: l))) := gamOk_con (K := .flag) trivial hl
end Go.Pv


set_option maxHeartbeats 4000000
set_option maxRecDepth 200000
set_option linter.unusedSimpArgs false
set_option linter.unusedVariables false
/-! What the parts of a stable sort make of a row. -/
namespace Go.Pv
open Go Go.Proofs
abbrev TY : Nat := 1000023
/-! ### ranges put for one another -/
theorem swp_loop (f : Nat → List Vl) (N a b n : Nat) (c0 : List PV) (rest : List (List PV)) (toks : List (Nat × Nat × TypeId)) (tys : List TypeId) (h1 : a + n ≤ b) (h2 : b + n ≤ N) (hN : N ≤ 9223372036854775807) :
    ∀ k i : Nat, i + k = n → swp1_V [.osl 1 0 N 1, .int .i64 a, .int .i64 b, .int .i64 n, .int .i64 i] ⟨c0 :: oA cV (swR f a b i) N :: rest, toks, 82 :: 1000023 :: tys⟩ = some (.exit 0, [], ⟨c0 :: oA cV (swR f a b n) N :: rest, toks, 82 :: 1000023 :: tys⟩)
  | 0, i, h => by
    have e : i = n := by omega
    subst e
    rw [swp1_E]
    simp [swp1_Tr, iLt_N]
  | k + 1, i, h => by
    have h3 : b + i < N := by omega
    have h4 : a + i < N := by omega
    have h5 : i < n := by omega
    rw [swp1_E]
    unfold swp1_Tr
    simp only [iLt_N, add_N (a := b) (b := i) (by omega), add_N (a := a) (b := i) (by omega), add_N1 (a := i) (by omega), okIx_N, nNat_N, pOff_01, okCell_oA cV h3, okCell_oA cV h4, cRow_oA cV h3, cRow_oA cV h4, putC_oA cV _ h4, putC_oA cV _ h3, okOff_oA cV h3, okOff_oA cV h4, h3, h4, h5, decide_true, Tr.run_ite, if_true, Tr.run_ret, lnext_next]
    rw [swR_succ f (by omega)]
    exact swp_loop f N a b n c0 rest toks tys h1 h2 hN k (i + 1) (by omega)
theorem swp_law (f : Nat → List Vl) (N a b n : Nat) (c0 : List PV) (rest : List (List PV)) (toks : List (Nat × Nat × TypeId)) (tys : List TypeId) (h1 : a + n ≤ b) (h2 : b + n ≤ N) (hN : N ≤ 9223372036854775807) :
    swp_W 0 N a b n c0 (oA cV f N) rest toks tys = some (.tup [], ⟨c0 :: oA cV (swR f a b n) N :: rest, toks, 82 :: 1000023 :: tys⟩) := by
  have h : swp1_W 0 N a b n 0 c0 (oA cV f N) rest toks tys = some (.exit 0, [], ⟨c0 :: oA cV (swR f a b n) N :: rest, toks, 82 :: 1000023 :: tys⟩) := by
    have := swp_loop f N a b n c0 rest toks tys h1 h2 hN n 0 (by omega)
    rw [swR_zero] at this
    exact this
  simp [swp_W, swp_Tr, swp1_is0, swp1_l2, h, gObj]
theorem swp_is (f : Nat → List Vl) (N a b n : Nat) (c0 : List PV) (rest : List (List PV)) (toks : List (Nat × Nat × TypeId)) (tys : List TypeId) (h1 : a + n ≤ b) (h2 : b + n ≤ N) (hN : N ≤ 9223372036854775807) :
    swp_is0 0 N a b n c0 (oA cV f N) rest toks tys = true ∧ swp_l2 0 N a b n c0 (oA cV f N) rest toks tys = oA cV (swR f a b n) N := by
  have h := swp_law f N a b n c0 rest toks tys h1 h2 hN
  simp [swp_is0, swp_l2, h, gObj, asOut]
/-! ### ranges put behind one another -/
theorem rot_loop (f0 : Nat → List Vl) (N m lo hi : Nat) (c0 : List PV) (rest : List (List PV)) (toks : List (Nat × Nat × TypeId)) (tys : List TypeId) (hl : lo ≤ m) (hh : m ≤ hi) (h2 : hi ≤ N) (hN : N ≤ 9223372036854775807) :
    ∀ k i j : Nat, ∀ f : Nat → List Vl, i + j ≤ k → 0 < i → 0 < j → lo + i ≤ m → m + j ≤ hi → Mv f0 f lo hi → rotR f (m - i) m (m + j) = rotR f0 lo m hi →
    ∃ i' : Nat, ∃ f', rot1_V [.osl 1 0 N 1, .int .i64 m, .fn 16 [], .int .i64 i, .int .i64 j] ⟨c0 :: oA cV f N :: rest, toks, 82 :: 1000023 :: tys⟩ =
      some (.exit 0, [.osl 1 0 N 1, .int .i64 m, .fn 16 [], .int .i64 i'], ⟨c0 :: oA cV f' N :: rest, toks, 82 :: 1000023 :: tys⟩) ∧ lo + i' ≤ m ∧ m + i' ≤ hi ∧ Mv f0 f' lo hi ∧ rotR f' (m - i') m (m + i') = rotR f0 lo m hi := by
  intro k
  induction k with
  | zero => intro i j f h; omega
  | succ k ih =>
    intro i j f h hi0 hj0 hli hmj hm hr
    by_cases e : i = j
    · subst e
      refine ⟨i, f, ?_, hli, hmj, hm, hr⟩
      rw [rot1_E]
      simp [rot1_Tr, iNe_N]
    · by_cases hlt : j < i
      · obtain ⟨a1, a2⟩ := swp_is f N (m - i) m j c0 rest toks tys (by omega) (by omega) hN
        obtain ⟨i', f', b1, b2, b3, b4, b5⟩ := ih (i - j) j (swR f (m - i) m j) (by omega) (by omega) hj0 (by omega) hmj (hm.trans (swR_mv f (by omega) (by omega) (by omega))) (by rw [rotR_more f hlt (by omega)]; exact hr)
        refine ⟨i', f', ?_, b2, b3, b4, b5⟩
        rw [rot1_E, ← b1]
        unfold rot1_Tr
        simp only [iNe_N, iLt_N, sub_N (a := m) (b := i) (by omega) (by omega), sub_N (a := i) (b := j) (by omega) (by omega), a1, a2, hlt, e, ne_eq, not_false_eq_true, decide_true, Tr.run_ite, if_true, Tr.run_ret, lnext_next]
      · obtain ⟨a1, a2⟩ := swp_is f N (m - i) (m + j - i) i c0 rest toks tys (by omega) (by omega) hN
        obtain ⟨i', f', b1, b2, b3, b4, b5⟩ := ih i (j - i) (swR f (m - i) (m + j - i) i) (by omega) hi0 (by omega) hli (by omega) (hm.trans (swR_mv f (by omega) (by omega) (by omega))) (by rw [rotR_less f (by omega) (by omega)]; exact hr)
        refine ⟨i', f', ?_, b2, b3, b4, b5⟩
        rw [rot1_E, ← b1]
        unfold rot1_Tr
        simp only [iNe_N, iLt_N, add_N (a := m) (b := j) (by omega), sub_N (a := m) (b := i) (by omega) (by omega), sub_N (a := m + j) (b := i) (by omega) (by omega), sub_N (a := j) (b := i) (by omega) (by omega), a1, a2, hlt, e, ne_eq, not_false_eq_true, decide_true, decide_false, Bool.false_eq_true, Tr.run_ite, if_true, if_false, Tr.run_ret, lnext_next]
theorem rot_law (f : Nat → List Vl) (N a m b : Nat) (c0 : List PV) (rest : List (List PV)) (toks : List (Nat × Nat × TypeId)) (tys : List TypeId) (h0 : a < m) (h1 : m < b) (h2 : b ≤ N) (hN : N ≤ 9223372036854775807) :
    rot_W 0 N a m b c0 (oA cV f N) rest toks tys = some (.tup [], ⟨c0 :: oA cV (rotR f a m b) N :: rest, toks, 82 :: 1000023 :: tys⟩) ∧ Mv f (rotR f a m b) a b := by
  obtain ⟨i', f', b1, b2, b3, b4, b5⟩ := rot_loop f N m a b c0 rest toks tys (by omega) (by omega) h2 hN (b - a) (m - a) (b - m) f (by omega) (by omega) (by omega) (by omega) (by omega) (Mv.refl _ _ _) (by
    have e1 : m - (m - a) = a := by omega
    have e2 : m + (b - m) = b := by omega
    rw [e1, e2])
  obtain ⟨a1, a2⟩ := swp_is f' N (m - i') m i' c0 rest toks tys (by omega) (by omega) hN
  have e : swR f' (m - i') m i' = rotR f a m b := by rw [rotR_same f' (by omega), b5]
  have hw : rot1_W 0 N m ((m - a : Nat) : Int) ((b - m : Nat) : Int) c0 (oA cV f N) rest toks tys = some (.exit 0, [.osl 1 0 N 1, .int .i64 m, .fn 16 [], .int .i64 i'], ⟨c0 :: oA cV f' N :: rest, toks, 82 :: 1000023 :: tys⟩) := b1
  constructor
  · unfold rot_W rot_Tr
    simp only [sub_N (a := m) (b := a) (by omega) (by omega), sub_N (a := b) (b := m) (by omega) (by omega)]
    have g1 : rot1_i 0 N m ((m - a : Nat) : Int) ((b - m : Nat) : Int) c0 (oA cV f N) rest toks tys = (i' : Int) := by simp [rot1_i, hw, gOut, gInt]
    have g2 : rot1_l2 0 N m ((m - a : Nat) : Int) ((b - m : Nat) : Int) c0 (oA cV f N) rest toks tys = oA cV f' N := by simp [rot1_l2, hw, gObj]
    have g3 : rot1_is0 0 N m ((m - a : Nat) : Int) ((b - m : Nat) : Int) c0 (oA cV f N) rest toks tys = true := by simp [rot1_is0, g1, g2, hw]
    rw [g3, g1, g2, sub_N (a := m) (b := i') (by omega) (by omega), a1, a2, e]
    rfl
  · rw [← e]
    exact b4.trans (swR_mv f' (by omega) (by omega) (by omega))
theorem rot_is (f : Nat → List Vl) (N a m b : Nat) (c0 : List PV) (rest : List (List PV)) (toks : List (Nat × Nat × TypeId)) (tys : List TypeId) (h0 : a < m) (h1 : m < b) (h2 : b ≤ N) (hN : N ≤ 9223372036854775807) :
    rot_is0 0 N a m b c0 (oA cV f N) rest toks tys = true ∧ rot_l2 0 N a m b c0 (oA cV f N) rest toks tys = oA cV (rotR f a m b) N := by
  have h := (rot_law f N a m b c0 rest toks tys h0 h1 h2 hN).1
  simp [rot_is0, rot_l2, h, gObj, asOut]

/-! ### one after the other put at its place -/
abbrev cT : List Vl → List Vl → Int := cmpT cmpVl
theorem iLt_0 (x : Int) : iLt x 0 = decide (x < 0) := rfl
theorem cmpTV_cT (x y : List Vl) : cmpTV (rOf cV x) (rOf cV y) = cT x y := by simp [cmpTV, cT]
theorem ins_in (f0 : Nat → List Vl) (T : Tot cT) (N a b i : Nat) (c0 : List PV) (rest : List (List PV)) (toks : List (Nat × Nat × TypeId)) (tys : List TypeId) (hi : i < N) (hN : N ≤ 9223372036854775807) :
    ∀ j : Nat, ∀ f : Nat → List Vl, a ≤ j → j ≤ i → SrtX cT f a (i + 1) j → Mv f0 f a (i + 1) →
    ∃ f', ins2_V [.osl 1 0 N 1, .int .i64 a, .int .i64 b, .fn 16 [], .int .i64 i, .int .i64 j] ⟨c0 :: oA cV f N :: rest, toks, 82 :: 1000023 :: tys⟩ =
      some (.exit 2, [.osl 1 0 N 1, .int .i64 a, .int .i64 b, .fn 16 [], .int .i64 i], ⟨c0 :: oA cV f' N :: rest, toks, 82 :: 1000023 :: tys⟩) ∧ Srt cT f' a (i + 1) ∧ Mv f0 f' a (i + 1) := by
  intro j
  induction j with
  | zero =>
    intro f h1 h2 h3 h4
    have e : a = 0 := by omega
    subst e
    refine ⟨f, ?_, h3.done0, h4⟩
    rw [ins2_E]
    simp [ins2_Tr, iLt_N]
  | succ j ih =>
    intro f h1 h2 h3 h4
    by_cases e : a = j + 1
    · subst e
      refine ⟨f, ?_, h3.done0, h4⟩
      rw [ins2_E]
      simp [ins2_Tr, iLt_N]
    · have k1 : j + 1 < N := by omega
      have k2 : j < N := by omega
      have k3 : a < j + 1 := by omega
      by_cases hc : cT (f (j + 1)) (f j) < 0
      · obtain ⟨f', b1, b2, b3⟩ := ih (upd (upd f (j + 1) (f j)) j (f (j + 1))) (by omega) (by omega) (h3.step (j := j + 1) (by omega) (by omega) hc) (h4.trans (Mv.swap f (by omega) (by omega) (by omega) (by omega)))
        refine ⟨f', ?_, b2, b3⟩
        rw [← b1, ins2_E]
        unfold ins2_Tr
        simp only [iLt_N, iLt_0, sub_N1 (a := j + 1) (by omega) (by omega), Nat.add_sub_cancel, okIx_N, nNat_N, pOff_01, okCell_oA cV k1, okCell_oA cV k2, cRow_oA cV k1, cRow_oA cV k2, putC_oA cV _ k1, putC_oA cV _ k2, okOff_oA cV k1, okOff_oA cV k2, lockLL_rOf, okR_of, cmpTV_cT, hc, k1, k2, k3, decide_true, Tr.run_ite, if_true, Tr.run_ret, lnext_next]
      · refine ⟨f, ?_, h3.done T (by omega) (by omega) (by simpa using hc), h4⟩
        rw [ins2_E]
        unfold ins2_Tr
        simp only [iLt_N, iLt_0, sub_N1 (a := j + 1) (by omega) (by omega), Nat.add_sub_cancel, okIx_N, nNat_N, pOff_01, okCell_oA cV k1, okCell_oA cV k2, cRow_oA cV k1, cRow_oA cV k2, lockLL_rOf, okR_of, cmpTV_cT, hc, k1, k2, k3, decide_true, decide_false, Bool.false_eq_true, Tr.run_ite, if_true, if_false, Tr.run_ret, lnext_out]
theorem ins_out (f0 : Nat → List Vl) (T : Tot cT) (N a b : Nat) (c0 : List PV) (rest : List (List PV)) (toks : List (Nat × Nat × TypeId)) (tys : List TypeId) (hb : b ≤ N) (hN : N < 9223372036854775807) :
    ∀ k i : Nat, ∀ f : Nat → List Vl, i + k = b → a < i → Srt cT f a i → Mv f0 f a b →
    ∃ f', ins1_V [.osl 1 0 N 1, .int .i64 a, .int .i64 b, .fn 16 [], .int .i64 i] ⟨c0 :: oA cV f N :: rest, toks, 82 :: 1000023 :: tys⟩ =
      some (.exit 0, [], ⟨c0 :: oA cV f' N :: rest, toks, 82 :: 1000023 :: tys⟩) ∧ Srt cT f' a b ∧ Mv f0 f' a b := by
  intro k
  induction k with
  | zero =>
    intro i f h1 h2 h3 h4
    have e : i = b := by omega
    subst e
    refine ⟨f, ?_, h3, h4⟩
    rw [ins1_E]
    simp [ins1_Tr, iLt_N]
  | succ k ih =>
    intro i f h1 h2 h3 h4
    obtain ⟨f1, b1, b2, b3⟩ := ins_in f T N a b i c0 rest toks tys (by omega) (by omega) i f (by omega) (by omega) (SrtX.init h3) (Mv.refl _ _ _)
    obtain ⟨f2, c1, c2, c3⟩ := ih (i + 1) f1 (by omega) (by omega) b2 (h4.trans (b3.mono (Nat.le_refl _) (by omega)))
    refine ⟨f2, ?_, c2, c3⟩
    have hw : ins2_W 0 N a b i i c0 (oA cV f N) rest toks tys = some (.exit 2, [.osl 1 0 N 1, .int .i64 a, .int .i64 b, .fn 16 [], .int .i64 i], ⟨c0 :: oA cV f1 N :: rest, toks, 82 :: 1000023 :: tys⟩) := b1
    have g1 : ins2_l2 0 N a b i i c0 (oA cV f N) rest toks tys = oA cV f1 N := by simp [ins2_l2, hw, gObj]
    have g2 : ins2_is0 0 N a b i i c0 (oA cV f N) rest toks tys = true := by simp [ins2_is0, g1, hw]
    have k1 : i < b := by omega
    rw [ins1_E, ← c1]
    unfold ins1_Tr
    simp only [iLt_N, g1, g2, k1, add_N1 (a := i) (by omega), decide_true, Tr.run_ite, if_true, Tr.run_ret, lnext_next]
theorem ins_law (f : Nat → List Vl) (T : Tot cT) (N a b : Nat) (c0 : List PV) (rest : List (List PV)) (toks : List (Nat × Nat × TypeId)) (tys : List TypeId) (hb : b ≤ N) (ha : a ≤ N) (hN : N < 9223372036854775807) :
    ∃ f', ins_is0 0 N a b c0 (oA cV f N) rest toks tys = true ∧ ins_l2 0 N a b c0 (oA cV f N) rest toks tys = oA cV f' N ∧ Srt cT f' a b ∧ Mv f f' a b := by
  have key : ∃ f', ins1_W 0 N a b ((a + 1 : Nat) : Int) c0 (oA cV f N) rest toks tys = some (.exit 0, [], ⟨c0 :: oA cV f' N :: rest, toks, 82 :: 1000023 :: tys⟩) ∧ Srt cT f' a b ∧ Mv f f' a b := by
    by_cases e : a + 1 ≤ b
    · exact ins_out f T N a b c0 rest toks tys hb hN (b - (a + 1)) (a + 1) f (by omega) (by omega) (Srt.one f a) (Mv.refl _ _ _)
    · refine ⟨f, ?_, fun p q _ _ _ => by omega, Mv.refl _ _ _⟩
      unfold ins1_W
      rw [ins1_E]
      have : ¬ a + 1 < b := by omega
      unfold ins1_Tr
      simp only [iLt_N, this, decide_false, Bool.false_eq_true, Tr.run_ite, if_false, Tr.run_ret, lnext_out]
  obtain ⟨f', h, h2, h3⟩ := key
  have hw : ins_W 0 N a b c0 (oA cV f N) rest toks tys = some (.tup [], ⟨c0 :: oA cV f' N :: rest, toks, 82 :: 1000023 :: tys⟩) := by
    unfold ins_W ins_Tr
    simp only [add_N1 (a := a) (by omega)]
    have g1 : ins1_l2 0 N a b ((a + 1 : Nat) : Int) c0 (oA cV f N) rest toks tys = oA cV f' N := by rw [ins1_l2, h]; rfl
    have g2 : ins1_is0 0 N a b ((a + 1 : Nat) : Int) c0 (oA cV f N) rest toks tys = true := by rw [ins1_is0, g1, h]; simp
    simp only [g1, g2, Tr.run_ite, if_true, Tr.run_ret]
  exact ⟨f', by simp [ins_is0, ins_l2, hw, gObj, asOut], by simp [ins_l2, hw, gObj, asOut], h2, h3⟩
end Go.Pv

set_option maxHeartbeats 8000000
set_option maxRecDepth 200000
set_option linter.unusedSimpArgs false
set_option linter.unusedVariables false
/-! What a merge in place makes of a row whose two ranges are in order. -/
namespace Go.Pv
open Go Go.Proofs
section
variable [RecW]
variable (c0 : List PV) (rest : List (List PV)) (toks : List (Nat × Nat × TypeId)) (tys : List TypeId)
abbrev sT (f : Nat → List Vl) (N : Nat) : Store := ⟨c0 :: oA cV f N :: rest, toks, 82 :: 1000023 :: tys⟩
theorem sym1_law (f : Nat → List Vl) (T : Tot cT) (N a b : Nat) (hb : b ≤ N) (hab : a + 1 ≤ b) (hN : N ≤ 4611686018427387903) (hB : Srt cT f (a + 1) b) :
    ∃ i' : Nat, sym1_V [.osl 1 0 N 1, .int .i64 a, .fn 16 [], .int .i64 ((a + 1 : Nat) : Int), .int .i64 b] (sT c0 rest toks tys f N) = some (.exit 0, [.osl 1 0 N 1, .int .i64 a, .int .i64 i'], sT c0 rest toks tys f N) ∧
      a + 1 ≤ i' ∧ i' ≤ b ∧ (∀ p, a + 1 ≤ p → p < i' → cT (f p) (f a) < 0) ∧ (∀ p, i' ≤ p → p < b → ¬ cT (f p) (f a) < 0) := by
  refine halves (fun i j => sym1_V [.osl 1 0 N 1, .int .i64 a, .fn 16 [], .int .i64 i, .int .i64 j] (sT c0 rest toks tys f N)) (fun i' => some (.exit 0, [.osl 1 0 N 1, .int .i64 a, .int .i64 i'], sT c0 rest toks tys f N)) (fun p => cT (f p) (f a) < 0) (a + 1) b ?_ ?_ ?_ (b - (a + 1)) (a + 1) b (by omega) (by omega) (by omega) (by omega) (fun p _ _ => by omega) (fun p _ _ => by omega)
  · intro i j h1 h2 h3
    have k1 : (i + j) / 2 < N := by omega
    have k2 : a < N := by omega
    constructor
    · intro q
      simp only [sT]
      rw [sym1_E]
      unfold sym1_Tr
      simp only [iLt_N, iLt_0, half_N (a := i) (b := j) (by omega), add_N1 (a := (i + j) / 2) (by omega), okIx_N, nNat_N, pOff_01, okCell_oA cV k1, okCell_oA cV k2, cRow_oA cV k1, cRow_oA cV k2, lockLL_rOf, okR_of, cmpTV_cT, q, k1, k2, h2, decide_true, Tr.run_ite, if_true, Tr.run_ret, lnext_next]
    · intro q
      simp only [sT]
      rw [sym1_E]
      unfold sym1_Tr
      simp only [iLt_N, iLt_0, half_N (a := i) (b := j) (by omega), add_N1 (a := (i + j) / 2) (by omega), okIx_N, nNat_N, pOff_01, okCell_oA cV k1, okCell_oA cV k2, cRow_oA cV k1, cRow_oA cV k2, lockLL_rOf, okR_of, cmpTV_cT, q, k1, k2, h2, decide_true, decide_false, Bool.false_eq_true, if_false, Tr.run_ite, if_true, Tr.run_ret, lnext_next]
  · intro i h1 h2
    simp only [sT]
    rw [sym1_E]
    unfold sym1_Tr
    simp only [iLt_N, Nat.lt_irrefl, decide_false, Bool.false_eq_true, if_false, Tr.run_ite, Tr.run_ret, lnext_out]
  · intro p q h1 h2 h3 h4
    exact T.le_lt_trans (hB p q h1 h2 h3) h4
theorem sym3_law (f : Nat → List Vl) (T : Tot cT) (N a m : Nat) (hb : m < N) (hab : a ≤ m) (hN : N ≤ 4611686018427387903) (hA : Srt cT f a m) :
    ∃ i' : Nat, sym3_V [.osl 1 0 N 1, .int .i64 m, .fn 16 [], .int .i64 a, .int .i64 m] (sT c0 rest toks tys f N) = some (.exit 4, [.osl 1 0 N 1, .int .i64 m, .int .i64 i'], sT c0 rest toks tys f N) ∧
      a ≤ i' ∧ i' ≤ m ∧ (∀ p, a ≤ p → p < i' → ¬ cT (f m) (f p) < 0) ∧ (∀ p, i' ≤ p → p < m → ¬ ¬ cT (f m) (f p) < 0) := by
  refine halves (fun i j => sym3_V [.osl 1 0 N 1, .int .i64 m, .fn 16 [], .int .i64 i, .int .i64 j] (sT c0 rest toks tys f N)) (fun i' => some (.exit 4, [.osl 1 0 N 1, .int .i64 m, .int .i64 i'], sT c0 rest toks tys f N)) (fun p => ¬ cT (f m) (f p) < 0) a m ?_ ?_ ?_ (m - a) a m (by omega) (by omega) (by omega) (by omega) (fun p _ _ => by omega) (fun p _ _ => by omega)
  · intro i j h1 h2 h3
    have k1 : (i + j) / 2 < N := by omega
    constructor
    · intro q
      simp only [sT]
      rw [sym3_E]
      unfold sym3_Tr
      simp only [iLt_N, iLt_0, half_N (a := i) (b := j) (by omega), add_N1 (a := (i + j) / 2) (by omega), okIx_N, nNat_N, pOff_01, okCell_oA cV k1, okCell_oA cV hb, cRow_oA cV k1, cRow_oA cV hb, lockLL_rOf, okR_of, cmpTV_cT, q, k1, hb, h2, decide_true, decide_false, bNot_eq, Bool.not_false, Tr.run_ite, if_true, Tr.run_ret, lnext_next]
    · intro q
      have q' : cT (f m) (f ((i + j) / 2)) < 0 := Decidable.byContradiction q
      simp only [sT]
      rw [sym3_E]
      unfold sym3_Tr
      simp only [iLt_N, iLt_0, half_N (a := i) (b := j) (by omega), add_N1 (a := (i + j) / 2) (by omega), okIx_N, nNat_N, pOff_01, okCell_oA cV k1, okCell_oA cV hb, cRow_oA cV k1, cRow_oA cV hb, lockLL_rOf, okR_of, cmpTV_cT, q', k1, hb, h2, decide_true, decide_false, bNot_eq, Bool.not_true, Bool.false_eq_true, if_false, Tr.run_ite, if_true, Tr.run_ret, lnext_next]
  · intro i h1 h2
    simp only [sT]
    rw [sym3_E]
    unfold sym3_Tr
    simp only [iLt_N, Nat.lt_irrefl, decide_false, Bool.false_eq_true, if_false, Tr.run_ite, Tr.run_ret, lnext_out]
  · intro p q h1 h2 h3 h4 h5
    exact h4 (T.lt_le_trans h5 (hA p q h1 h2 h3))
theorem sym5_law (f : Nat → List Vl) (T : Tot cT) (N a m b mid n lo hi : Nat) (hlh : lo ≤ hi) (hA : Srt cT f lo hi) (hB : ∀ p q, lo ≤ p → p < q → q < hi → cT (f (n - q)) (f (n - p)) ≤ 0) (hn : hi ≤ n + 1) (hnN : n - lo < N) (hhN : hi ≤ N) (hN : N ≤ 4611686018427387903) (hn2 : n ≤ 9223372036854775807) (n4 n5 : Int) :
    ∃ i' : Nat, sym5_V [.osl 1 0 N 1, .int .i64 a, .int .i64 m, .int .i64 b, .fn 16 [], .int .i64 n4, .int .i64 n5, .int .i64 lo, .int .i64 hi, .int .i64 n] (sT c0 rest toks tys f N) =
        some (.exit 8, [.osl 1 0 N 1, .int .i64 a, .int .i64 m, .int .i64 b, .fn 16 [], .int .i64 n4, .int .i64 n5, .int .i64 i'], sT c0 rest toks tys f N) ∧
      lo ≤ i' ∧ i' ≤ hi ∧ (∀ p, lo ≤ p → p < i' → ¬ cT (f (n - p)) (f p) < 0) ∧ (∀ p, i' ≤ p → p < hi → ¬ ¬ cT (f (n - p)) (f p) < 0) := by
  refine halves (fun i j => sym5_V [.osl 1 0 N 1, .int .i64 a, .int .i64 m, .int .i64 b, .fn 16 [], .int .i64 n4, .int .i64 n5, .int .i64 i, .int .i64 j, .int .i64 n] (sT c0 rest toks tys f N)) (fun i' => some (.exit 8, [.osl 1 0 N 1, .int .i64 a, .int .i64 m, .int .i64 b, .fn 16 [], .int .i64 n4, .int .i64 n5, .int .i64 i'], sT c0 rest toks tys f N)) (fun p => ¬ cT (f (n - p)) (f p) < 0) lo hi ?_ ?_ ?_ (hi - lo) lo hi (by omega) (by omega) (by omega) (by omega) (fun p _ _ => by omega) (fun p _ _ => by omega)
  · intro i j h1 h2 h3
    have k1 : (i + j) / 2 < N := by omega
    have k2 : n - (i + j) / 2 < N := by omega
    constructor
    · intro q
      simp only [sT]
      rw [sym5_E]
      unfold sym5_Tr
      simp only [iLt_N, iLt_0, half_N (a := i) (b := j) (by omega), add_N1 (a := (i + j) / 2) (by omega), sub_N (a := n) (b := (i + j) / 2) (by omega) hn2, okIx_N, nNat_N, pOff_01, okCell_oA cV k1, okCell_oA cV k2, cRow_oA cV k1, cRow_oA cV k2, lockLL_rOf, okR_of, cmpTV_cT, q, k1, k2, h2, decide_true, decide_false, bNot_eq, Bool.not_false, Tr.run_ite, if_true, Tr.run_ret, lnext_next]
    · intro q
      have q' : cT (f (n - (i + j) / 2)) (f ((i + j) / 2)) < 0 := Decidable.byContradiction q
      simp only [sT]
      rw [sym5_E]
      unfold sym5_Tr
      simp only [iLt_N, iLt_0, half_N (a := i) (b := j) (by omega), add_N1 (a := (i + j) / 2) (by omega), sub_N (a := n) (b := (i + j) / 2) (by omega) hn2, okIx_N, nNat_N, pOff_01, okCell_oA cV k1, okCell_oA cV k2, cRow_oA cV k1, cRow_oA cV k2, lockLL_rOf, okR_of, cmpTV_cT, q', k1, k2, h2, decide_true, decide_false, bNot_eq, Bool.not_true, Bool.false_eq_true, if_false, Tr.run_ite, if_true, Tr.run_ret, lnext_next]
  · intro i h1 h2
    simp only [sT]
    rw [sym5_E]
    unfold sym5_Tr
    simp only [iLt_N, Nat.lt_irrefl, decide_false, Bool.false_eq_true, if_false, Tr.run_ite, Tr.run_ret, lnext_out]
  · intro p q h1 h2 h3 h4 h5
    exact h4 (T.le_lt_trans (hB p q h1 h2 h3) (T.lt_le_trans h5 (hA p q h1 h2 h3)))

omit [RecW] in
theorem shl_0 (f : Nat → List Vl) (a : Nat) : (fun p => if a ≤ p ∧ p < a then f (p + 1) else if p = a then f a else f p) = f := by
  funext p
  repeat' split
  all_goals first | rfl | omega | (congr 1; omega)
omit [RecW] in
theorem shr_0 (f : Nat → List Vl) (m : Nat) : (fun p => if m < p ∧ p ≤ m then f (p - 1) else if p = m then f m else f p) = f := by
  funext p
  repeat' split
  all_goals first | rfl | omega | (congr 1; omega)
theorem sym2_law (f : Nat → List Vl) (N a b i : Nat) (hi : i < N) (hib : i < b) (hN : N ≤ 4611686018427387903) : ∀ d k : Nat, k + d = i → a ≤ k → ∀ g, g = (fun p => if a ≤ p ∧ p < k then f (p + 1) else if p = k then f a else f p) → Mv f g a b →
    sym2_V [.osl 1 0 N 1, .int .i64 ((i + 1 : Nat) : Int), .int .i64 k] (sT c0 rest toks tys g N) = some (.exit 2, [], sT c0 rest toks tys (fun p => if a ≤ p ∧ p < i then f (p + 1) else if p = i then f a else f p) N) ∧ Mv f (fun p => if a ≤ p ∧ p < i then f (p + 1) else if p = i then f a else f p) a b := by
  intro d
  induction d with
  | zero =>
    intro k h1 h2 g hg hm
    have e : k = i := by omega
    subst e
    subst hg
    refine ⟨?_, hm⟩
    simp only [sT]
    rw [sym2_E]
    unfold sym2_Tr
    simp only [iLt_N, sub_N1 (a := k + 1) (by omega) (by omega), Nat.add_sub_cancel, Nat.lt_irrefl, decide_false, Bool.false_eq_true, if_false, Tr.run_ite, Tr.run_ret, lnext_out]
  | succ d ih =>
    intro k h1 h2 g hg hm
    have k1 : k < N := by omega
    have k2 : k + 1 < N := by omega
    have k3 : k < i := by omega
    have hs := shl_step hg h2
    obtain ⟨c1, c2⟩ := ih (k + 1) (by omega) (by omega) _ hs (hm.trans (Mv.swap g (by omega) (by omega) (by omega) (by omega)))
    refine ⟨?_, c2⟩
    rw [← c1]
    simp only [sT]
    rw [sym2_E]
    unfold sym2_Tr
    simp only [iLt_N, add_N1 (a := k) (by omega), sub_N1 (a := i + 1) (by omega) (by omega), Nat.add_sub_cancel, okIx_N, nNat_N, pOff_01, okCell_oA cV k1, okCell_oA cV k2, cRow_oA cV k1, cRow_oA cV k2, putC_oA cV _ k1, putC_oA cV _ k2, okOff_oA cV k1, okOff_oA cV k2, k1, k2, k3, decide_true, Tr.run_ite, if_true, Tr.run_ret, lnext_next]
theorem sym4_law (f : Nat → List Vl) (N a m i : Nat) (hm0 : m < N) (hi : a ≤ i) (hN : N ≤ 4611686018427387903) : ∀ d k : Nat, i + d = k → k ≤ m → ∀ g, g = (fun p => if k < p ∧ p ≤ m then f (p - 1) else if p = k then f m else f p) → Mv f g a (m + 1) →
    sym4_V [.osl 1 0 N 1, .int .i64 i, .int .i64 k] (sT c0 rest toks tys g N) = some (.exit 6, [], sT c0 rest toks tys (fun p => if i < p ∧ p ≤ m then f (p - 1) else if p = i then f m else f p) N) ∧ Mv f (fun p => if i < p ∧ p ≤ m then f (p - 1) else if p = i then f m else f p) a (m + 1) := by
  intro d
  induction d with
  | zero =>
    intro k h1 h2 g hg hm
    have e : k = i := by omega
    subst e
    subst hg
    refine ⟨?_, hm⟩
    simp only [sT]
    rw [sym4_E]
    unfold sym4_Tr
    simp only [iLt_N, Nat.lt_irrefl, decide_false, Bool.false_eq_true, if_false, Tr.run_ite, Tr.run_ret, lnext_out]
  | succ d ih =>
    intro k h1 h2 g hg hm
    have k1 : k < N := by omega
    have k2 : k - 1 < N := by omega
    have k3 : i < k := by omega
    have hs := shr_step hg (by omega) h2
    obtain ⟨c1, c2⟩ := ih (k - 1) (by omega) (by omega) _ hs (hm.trans (Mv.swap g (by omega) (by omega) (by omega) (by omega)))
    refine ⟨?_, c2⟩
    rw [← c1]
    simp only [sT]
    rw [sym4_E]
    unfold sym4_Tr
    simp only [iLt_N, sub_N1 (a := k) (by omega) (by omega), okIx_N, nNat_N, pOff_01, okCell_oA cV k1, okCell_oA cV k2, cRow_oA cV k1, cRow_oA cV k2, putC_oA cV _ k1, putC_oA cV _ k2, okOff_oA cV k1, okOff_oA cV k2, k1, k2, k3, decide_true, Tr.run_ite, if_true, Tr.run_ret, lnext_next]
/-- What a merge does. -/
def Merges (N : Nat) (k : Nat) : Prop := ∀ (f : Nat → List Vl) (a m b : Nat), a < m → m < b → b ≤ N → b - a ≤ k → Srt cT f a m → Srt cT f m b →
  ∃ f', RecW.W 0 N a m b c0 (oA cV f N) rest toks tys = some (.tup [], sT c0 rest toks tys f' N) ∧ Srt cT f' a b ∧ Mv f f' a b
theorem rec_is {N k : Nat} (h : Merges c0 rest toks tys N k) (f : Nat → List Vl) (a m b : Nat) (h1 : a < m) (h2 : m < b) (h3 : b ≤ N) (h4 : b - a ≤ k) (hA : Srt cT f a m) (hB : Srt cT f m b) :
    ∃ f', rec_is0 0 N a m b c0 (oA cV f N) rest toks tys = true ∧ rec_l 0 N a m b c0 (oA cV f N) rest toks tys = oA cV f' N ∧ Srt cT f' a b ∧ Mv f f' a b := by
  obtain ⟨f', c1, c2, c3⟩ := h f a m b h1 h2 h3 h4 hA hB
  have e : rec_l 0 N a m b c0 (oA cV f N) rest toks tys = oA cV f' N := by simp [rec_l, c1, sT, gObj, asOut]
  exact ⟨f', by simp [rec_is0, e, c1, sT], e, c2, c3⟩

noncomputable def mgR (l : List PV) : Tr (PV × Store) := .ret (.tup [], ⟨c0 :: l :: rest, toks, 82 :: 1000023 :: tys⟩)
noncomputable def mg2 (N : Nat) (mid en b : Int) (l : List PV) : Tr (PV × Store) :=
  .ite (iLt mid en) (.ite (iLt en b) (.ite (rec_is0 0 N mid en b c0 l rest toks tys) (mgR c0 rest toks tys (rec_l 0 N mid en b c0 l rest toks tys)) .fail) (mgR c0 rest toks tys l)) (mgR c0 rest toks tys l)
noncomputable def mg1 (N : Nat) (a st mid en b : Int) (l : List PV) : Tr (PV × Store) :=
  .ite (iLt a st) (.ite (iLt st mid) (.ite (rec_is0 0 N a st mid c0 l rest toks tys) (mg2 c0 rest toks tys N mid en b (rec_l 0 N a st mid c0 l rest toks tys)) .fail) (mg2 c0 rest toks tys N mid en b l)) (mg2 c0 rest toks tys N mid en b l)
noncomputable def mg0 (N : Nat) (a st m mid en b : Int) (l : List PV) : Tr (PV × Store) :=
  .ite (iLt st m) (.ite (iLt m en) (.ite (rot_is0 0 N st m en c0 l rest toks tys) (mg1 c0 rest toks tys N a st mid en b (rot_l2 0 N st m en c0 l rest toks tys)) .fail) (mg1 c0 rest toks tys N a st mid en b l)) (mg1 c0 rest toks tys N a st mid en b l)
noncomputable def mgS (N : Nat) (a m b mid n lo hi p : Int) (cs : List PV) : Tr (PV × Store) :=
  .ite (sym5_is0 0 N a m b mid n lo hi p c0 cs rest toks tys) (mg0 c0 rest toks tys N a (sym5_n6 0 N a m b mid n lo hi p c0 cs rest toks tys) m mid (iSub .i64 n (sym5_n6 0 N a m b mid n lo hi p c0 cs rest toks tys)) b (sym5_l2 0 N a m b mid n lo hi p c0 cs rest toks tys)) .fail
noncomputable def mgM (N : Nat) (a m b mid n : Int) (cs : List PV) : Tr (PV × Store) :=
  .ite (iLt mid m) (mgS c0 rest toks tys N a m b mid n (iSub .i64 n b) mid (iSub .i64 n 1) cs) (mgS c0 rest toks tys N a m b mid n a m (iSub .i64 n 1) cs)
noncomputable def mgA (N : Nat) (a m b : Int) (cs : List PV) : Tr (PV × Store) :=
  .ite (sym1_is0 0 N a m b c0 cs rest toks tys) (.ite (sym2_is0 0 N (sym1_n2 0 N a m b c0 cs rest toks tys) a c0 (sym1_l2 0 N a m b c0 cs rest toks tys) rest toks tys) (mgR c0 rest toks tys (sym2_l2 0 N (sym1_n2 0 N a m b c0 cs rest toks tys) a c0 (sym1_l2 0 N a m b c0 cs rest toks tys) rest toks tys)) .fail) .fail
noncomputable def mgB (N : Nat) (a m : Int) (cs : List PV) : Tr (PV × Store) :=
  .ite (sym3_is0 0 N m a m c0 cs rest toks tys) (.ite (sym4_is0 0 N (sym3_n2 0 N m a m c0 cs rest toks tys) m c0 (sym3_l2 0 N m a m c0 cs rest toks tys) rest toks tys) (mgR c0 rest toks tys (sym4_l2 0 N (sym3_n2 0 N m a m c0 cs rest toks tys) m c0 (sym3_l2 0 N m a m c0 cs rest toks tys) rest toks tys)) .fail) .fail
theorem sym_parts (N : Nat) (a m b : Int) (cs : List PV) : sym_Tr 0 N a m b c0 cs rest toks tys =
    .ite (iEq (iSub .i64 m a) 1) (mgA c0 rest toks tys N a m b cs) (.ite (iEq (iSub .i64 b m) 1) (mgB c0 rest toks tys N a m cs)
      (mgM c0 rest toks tys N a m b (iWrap .i64 (iShr .u64 (iWrap .u64 (iAdd .i64 a b)) 1)) (iAdd .i64 (iWrap .i64 (iShr .u64 (iWrap .u64 (iAdd .i64 a b)) 1)) m) cs)) := rfl
theorem mg2_law {N k : Nat} (h : Merges c0 rest toks tys N k) (f : Nat → List Vl) (mid en b : Nat) (h1 : mid ≤ en) (h2 : en ≤ b) (h3 : b ≤ N) (h4 : b - mid ≤ k) (hA : Srt cT f mid en) (hB : Srt cT f en b) :
    ∃ f', (mg2 c0 rest toks tys N mid en b (oA cV f N)).run = some (.tup [], sT c0 rest toks tys f' N) ∧ Srt cT f' mid b ∧ Mv f f' mid b := by
  by_cases c1 : mid < en
  · by_cases c2 : en < b
    · obtain ⟨f', e1, e2, e3, e4⟩ := rec_is c0 rest toks tys h f mid en b c1 c2 h3 h4 hA hB
      refine ⟨f', ?_, e3, e4⟩
      simp only [mg2, mgR, sT, iLt_N, c1, c2, e1, e2, decide_true, Tr.run_ite, if_true, Tr.run_ret]
    · have e : en = b := by omega
      subst e
      refine ⟨f, ?_, hA, Mv.refl _ _ _⟩
      simp only [mg2, mgR, sT, iLt_N, c1, c2, decide_true, decide_false, Bool.false_eq_true, if_false, Tr.run_ite, if_true, Tr.run_ret]
  · have e : mid = en := by omega
    subst e
    refine ⟨f, ?_, hB, Mv.refl _ _ _⟩
    simp only [mg2, mgR, sT, iLt_N, c1, decide_true, decide_false, Bool.false_eq_true, if_false, Tr.run_ite, if_true, Tr.run_ret]
theorem mg1_law {N k : Nat} (h : Merges c0 rest toks tys N k) (f : Nat → List Vl) (a st mid en b : Nat) (h0 : a ≤ st) (h00 : st ≤ mid) (h1 : mid ≤ en) (h2 : en ≤ b) (h3 : b ≤ N) (h4 : b - mid ≤ k) (h5 : mid - a ≤ k)
    (hA1 : Srt cT f a st) (hA2 : Srt cT f st mid) (hB1 : Srt cT f mid en) (hB2 : Srt cT f en b) (hx : ∀ p q, a ≤ p → p < mid → mid ≤ q → q < b → cT (f p) (f q) ≤ 0) :
    ∃ f', (mg1 c0 rest toks tys N a st mid en b (oA cV f N)).run = some (.tup [], sT c0 rest toks tys f' N) ∧ Srt cT f' a b ∧ Mv f f' a b := by
  have key : ∃ f1, (mg1 c0 rest toks tys N a st mid en b (oA cV f N)).run = (mg2 c0 rest toks tys N mid en b (oA cV f1 N)).run ∧ Srt cT f1 a mid ∧ Mv f f1 a mid := by
    by_cases c1 : a < st
    · by_cases c2 : st < mid
      · obtain ⟨f', e1, e2, e3, e4⟩ := rec_is c0 rest toks tys h f a st mid c1 c2 (by omega) h5 hA1 hA2
        refine ⟨f', ?_, e3, e4⟩
        simp only [mg1, iLt_N, c1, c2, e1, e2, decide_true, Tr.run_ite, if_true]
      · have e : st = mid := by omega
        subst e
        refine ⟨f, ?_, hA1, Mv.refl _ _ _⟩
        simp only [mg1, iLt_N, c1, c2, decide_true, decide_false, Bool.false_eq_true, if_false, Tr.run_ite, if_true]
    · have e : a = st := by omega
      subst e
      refine ⟨f, ?_, hA2, Mv.refl _ _ _⟩
      simp only [mg1, iLt_N, c1, decide_true, decide_false, Bool.false_eq_true, if_false, Tr.run_ite, if_true]
  obtain ⟨f1, e1, s1, m1⟩ := key
  obtain ⟨f2, e2, s2, m2⟩ := mg2_law c0 rest toks tys h f1 mid en b h1 h2 h3 h4 (hB1.congr fun p hp _ => m1.out (by omega)) (hB2.congr fun p hp _ => m1.out (by omega))
  obtain ⟨c1, c2⟩ := merge_done (by omega) (by omega) m1 s1 m2 s2 hx
  exact ⟨f2, e1.trans e2, c1, c2⟩
theorem mg0_law {N k : Nat} (h : Merges c0 rest toks tys N k) (hN : N ≤ 4611686018427387903) (f : Nat → List Vl) (a m b mid st : Nat) (cut : Cut cT f a m b mid st) (hA : Srt cT f a m) (hB : Srt cT f m b) (h1 : a ≤ mid) (h2 : mid ≤ b) (h3 : b ≤ N) (h4 : b - mid ≤ k) (h5 : mid - a ≤ k) :
    ∃ f', (mg0 c0 rest toks tys N a st m mid ((mid + m - st : Nat) : Int) b (oA cV f N)).run = some (.tup [], sT c0 rest toks tys f' N) ∧ Srt cT f' a b ∧ Mv f f' a b := by
  have i1 := cut.am; have i2 := cut.sm; have i3 := cut.smid; have i4 := cut.em; have i5 := cut.eb
  have key : (mg0 c0 rest toks tys N a st m mid ((mid + m - st : Nat) : Int) b (oA cV f N)).run = (mg1 c0 rest toks tys N a st mid ((mid + m - st : Nat) : Int) b (oA cV (rotR f st m (mid + m - st)) N)).run ∧ Mv f (rotR f st m (mid + m - st)) a b := by
    by_cases c1 : st < m
    · by_cases c2 : m < mid + m - st
      · obtain ⟨e1, e2⟩ := rot_is f N st m (mid + m - st) c0 rest toks tys c1 c2 (by omega) (by omega)
        refine ⟨?_, (rot_law f N st m (mid + m - st) c0 rest toks tys c1 c2 (by omega) (by omega)).2.mono (by omega) (by omega)⟩
        simp only [mg0, iLt_N, c1, c2, e1, e2, decide_true, Tr.run_ite, if_true]
      · have e : mid + m - st = m := by omega
        have e' : rotR f st m (mid + m - st) = f := by rw [e]; exact rotR_hi f (by omega)
        rw [e']
        refine ⟨?_, Mv.refl _ _ _⟩
        simp only [mg0, iLt_N, c1, c2, decide_true, decide_false, Bool.false_eq_true, if_false, Tr.run_ite, if_true]
    · have e : st = m := by omega
      subst e
      rw [rotR_lo]
      refine ⟨?_, Mv.refl _ _ _⟩
      simp only [mg0, iLt_N, c1, decide_true, decide_false, Bool.false_eq_true, if_false, Tr.run_ite, if_true]
  obtain ⟨e1, m1⟩ := key
  obtain ⟨f', e2, s2, m2⟩ := mg1_law c0 rest toks tys h (rotR f st m (mid + m - st)) a st mid (mid + m - st) b i1 i3 (by omega) i5 h3 h4 h5 (cut.left1 hA) (cut.left2 hB) (cut.right1 hA) (cut.right2 hB) (fun p q => cut.across hA hB h2 p q)
  exact ⟨f', e1.trans e2, s2, m1.trans m2⟩
theorem sym_step {N k : Nat} (T : Tot cT) (h : Merges c0 rest toks tys N k) (hN : N ≤ 4611686018427387903) (f : Nat → List Vl) (a m b : Nat) (h1 : a < m) (h2 : m < b) (h3 : b ≤ N) (h4 : b - a ≤ k + 1) (hA : Srt cT f a m) (hB : Srt cT f m b) :
    ∃ f', sym_W 0 N a m b c0 (oA cV f N) rest toks tys = some (.tup [], sT c0 rest toks tys f' N) ∧ Srt cT f' a b ∧ Mv f f' a b := by
  unfold sym_W
  rw [sym_parts, sub_N (a := m) (b := a) (by omega) (by omega), sub_N (a := b) (b := m) (by omega) (by omega), iEq_N1, iEq_N1]
  by_cases c1 : m - a = 1
  · have e : m = a + 1 := by omega
    subst e
    obtain ⟨i', e1, l1, l2, l3, l4⟩ := sym1_law c0 rest toks tys f T N a b h3 (by omega) hN hB
    obtain ⟨e2, m2⟩ := sym2_law c0 rest toks tys f N a b (i' - 1) (by omega) (by omega) hN (i' - 1 - a) a (by omega) (Nat.le_refl _) f (shl_0 f a).symm (Mv.refl _ _ _)
    have ei : i' - 1 + 1 = i' := by omega
    rw [ei] at e2
    refine ⟨_, ?_, shl_srt T hB l1 l2 l3 l4, m2⟩
    have w1 : sym1_W 0 N a ((a + 1 : Nat) : Int) b c0 (oA cV f N) rest toks tys = _ := e1
    have g1 : sym1_n2 0 N a ((a + 1 : Nat) : Int) b c0 (oA cV f N) rest toks tys = (i' : Int) := by rw [sym1_n2, w1]; rfl
    have g2 : sym1_l2 0 N a ((a + 1 : Nat) : Int) b c0 (oA cV f N) rest toks tys = oA cV f N := by rw [sym1_l2, w1]; rfl
    have g3 : sym1_is0 0 N a ((a + 1 : Nat) : Int) b c0 (oA cV f N) rest toks tys = true := by rw [sym1_is0, w1, g1, g2]; simp [sT]
    have w2 : sym2_W 0 N i' a c0 (oA cV f N) rest toks tys = _ := e2
    have g4 : sym2_l2 0 N i' a c0 (oA cV f N) rest toks tys = oA cV (fun p => if a ≤ p ∧ p < i' - 1 then f (p + 1) else if p = i' - 1 then f a else f p) N := by rw [sym2_l2, w2]; rfl
    have g5 : sym2_is0 0 N i' a c0 (oA cV f N) rest toks tys = true := by rw [sym2_is0, w2, g4]; simp [sT]
    simp only [c1, decide_true, mgA, mgR, g1, g2, g3, g4, g5, Tr.run_ite, if_true, Tr.run_ret]
  · by_cases c2 : b - m = 1
    · have e : b = m + 1 := by omega
      subst e
      obtain ⟨i', e1, l1, l2, l3, l4⟩ := sym3_law c0 rest toks tys f T N a m (by omega) (by omega) hN hA
      obtain ⟨e2, m2⟩ := sym4_law c0 rest toks tys f N a m i' (by omega) l1 hN (m - i') m (by omega) (Nat.le_refl _) f (shr_0 f m).symm (Mv.refl _ _ _)
      refine ⟨_, ?_, shr_srt T hA l1 l2 l3 (fun p hp hp2 => Decidable.byContradiction (l4 p hp hp2)), m2⟩
      have w1 : sym3_W 0 N m a m c0 (oA cV f N) rest toks tys = _ := e1
      have g1 : sym3_n2 0 N m a m c0 (oA cV f N) rest toks tys = (i' : Int) := by rw [sym3_n2, w1]; rfl
      have g2 : sym3_l2 0 N m a m c0 (oA cV f N) rest toks tys = oA cV f N := by rw [sym3_l2, w1]; rfl
      have g3 : sym3_is0 0 N m a m c0 (oA cV f N) rest toks tys = true := by rw [sym3_is0, w1, g1, g2]; simp [sT]
      have w2 : sym4_W 0 N i' m c0 (oA cV f N) rest toks tys = _ := e2
      have g4 : sym4_l2 0 N i' m c0 (oA cV f N) rest toks tys = oA cV (fun p => if i' < p ∧ p ≤ m then f (p - 1) else if p = i' then f m else f p) N := by rw [sym4_l2, w2]; rfl
      have g5 : sym4_is0 0 N i' m c0 (oA cV f N) rest toks tys = true := by rw [sym4_is0, w2, g4]; simp [sT]
      simp only [c1, c2, decide_true, decide_false, Bool.false_eq_true, if_false, mgB, mgR, g1, g2, g3, g4, g5, Tr.run_ite, if_true, Tr.run_ret]
    · have hmid1 : a ≤ (a + b) / 2 := by omega
      have hmid2 : (a + b) / 2 ≤ b := by omega
      simp only [c1, c2, decide_false, Tr.run_ite, Bool.false_eq_true, if_false, half_N (a := a) (b := b) (by omega), add_N (a := (a + b) / 2) (b := m) (by omega)]
      generalize hmid : (a + b) / 2 = mid at hmid1 hmid2 ⊢
      have main : ∀ lo hi : Nat, lo = (if mid < m then mid + m - b else a) → hi = (if mid < m then mid else m) →
          ∃ f', (mgS c0 rest toks tys N a m b mid ((mid + m : Nat) : Int) lo hi ((mid + m - 1 : Nat) : Int) (oA cV f N)).run = some (.tup [], sT c0 rest toks tys f' N) ∧ Srt cT f' a b ∧ Mv f f' a b := by
        intro lo hi hlo hhi
        have e1 : a ≤ lo := by rw [hlo]; split <;> omega
        have e2 : hi ≤ m := by rw [hhi]; split <;> omega
        have e3 : hi ≤ mid := by rw [hhi]; split <;> omega
        have e4 : mid + m - lo ≤ b := by rw [hlo]; split <;> omega
        have e5 : lo ≤ hi := by rw [hlo, hhi]; split <;> omega
        obtain ⟨st, w, l1, l2, l3, l4⟩ := sym5_law c0 rest toks tys f T N a m b mid (mid + m - 1) lo hi e5 (hA.sub e1 e2) (fun p q hp hq hh => hB _ _ (by omega) (by omega) (by omega)) (by omega) (by omega) (by omega) hN (by omega) mid ((mid + m : Nat) : Int)
        have cut := Cut.of T hA hB h1 h2 hmid.symm hlo hhi l1 l2 l3 (fun p hp hp2 => Decidable.byContradiction (l4 p hp hp2))
        have w1 : sym5_W 0 N a m b mid ((mid + m : Nat) : Int) lo hi ((mid + m - 1 : Nat) : Int) c0 (oA cV f N) rest toks tys = _ := w
        have g1 : sym5_n6 0 N a m b mid ((mid + m : Nat) : Int) lo hi ((mid + m - 1 : Nat) : Int) c0 (oA cV f N) rest toks tys = (st : Int) := by rw [sym5_n6, w1]; rfl
        have g2 : sym5_l2 0 N a m b mid ((mid + m : Nat) : Int) lo hi ((mid + m - 1 : Nat) : Int) c0 (oA cV f N) rest toks tys = oA cV f N := by rw [sym5_l2, w1]; rfl
        have g3 : sym5_is0 0 N a m b mid ((mid + m : Nat) : Int) lo hi ((mid + m - 1 : Nat) : Int) c0 (oA cV f N) rest toks tys = true := by rw [sym5_is0, w1, g1, g2]; simp [sT]
        simp only [mgS, g1, g2, g3, Tr.run_ite, if_true, sub_N (a := mid + m) (b := st) (by omega) (by omega)]
        exact mg0_law c0 rest toks tys h hN f a m b mid st cut hA hB hmid1 hmid2 h3 (by omega) (by omega)
      by_cases c3 : mid < m
      · have := main (mid + m - b) mid (by rw [if_pos c3]) (by rw [if_pos c3])
        simpa only [mgM, iLt_N, c3, decide_true, Tr.run_ite, if_true, sub_N (a := mid + m) (b := b) (by omega) (by omega), sub_N1 (a := mid + m) (by omega) (by omega)] using this
      · have := main a m (by rw [if_neg c3]) (by rw [if_neg c3])
        simpa only [mgM, iLt_N, c3, decide_false, Bool.false_eq_true, Tr.run_ite, if_false, sub_N1 (a := mid + m) (by omega) (by omega)] using this
end
end Go.Pv

set_option maxHeartbeats 4000000
set_option maxRecDepth 200000
set_option linter.unusedSimpArgs false
set_option linter.unusedVariables false
/-! The merge that calls itself: what it gives, by the size of its range. -/
namespace Go.Pv
open Go Go.Proofs
abbrev SymW := Nat → Nat → Int → Int → Int → List PV → List PV → List (List PV) → List (Nat × Nat × TypeId) → List TypeId → Option (PV × Store)
noncomputable def smW : Nat → SymW
  | 0 => fun _ _ _ _ _ _ _ _ _ _ => none
  | k + 1 => @sym_W ⟨smW k⟩
theorem SimS.each {P : Program} {gl : Nat → Option Obj} {f : FuncId} {D D0 : List PV → Store → Option (PV × Store)} (h0 : SimS P gl f D0) (h : ∀ args σ r, D args σ = some r → ∃ D', SimS P gl f D' ∧ D' args σ = some r) : SimS P gl f D :=
  ⟨h0.ent, fun args σ x σ' hx => by obtain ⟨D', h1, h2⟩ := h args σ _ hx; exact h1.run args σ x σ' h2⟩
theorem sim_sm0 (gl : Nat → Option Obj) : SimS Tryd.prog gl 120 fun args σ => (@D_rec ⟨smW 0⟩ args σ).run :=
  ⟨⟨_, Tryd.func120, by rfl, by rfl⟩, fun args σ x σ' h => by
    unfold D_rec at h
    split at h
    · have e : ∀ off len a m b c0 cs rest toks tys, @rec_is0 ⟨smW 0⟩ off len a m b c0 cs rest toks tys = false := fun _ _ _ _ _ _ _ _ _ _ => by simp [rec_is0, smW, isW]
      rw [Tr.run_ite, e] at h
      cases h
    · cases h⟩
theorem sim_smk (gl : Nat → Option Obj) : ∀ k, SimS Tryd.prog gl 120 fun args σ => (@D_rec ⟨smW k⟩ args σ).run
  | 0 => sim_sm0 gl
  | k + 1 => @sim_sym ⟨smW k⟩ gl (sim_smk gl k)
/-- What a call gives: as deep as its range is long. -/
noncomputable instance recS : RecW := ⟨fun off len a m b => smW (b - a).toNat off len a m b⟩
theorem sim_sm (gl : Nat → Option Obj) : SimS Tryd.prog gl 120 fun args σ => (D_rec args σ).run := by
  refine SimS.each (sim_sm0 gl) fun args σ r h => ?_
  unfold D_rec at h
  split at h
  · rename_i off len a m b c0 cs rest toks tys
    exact ⟨_, sim_smk gl (b - a).toNat, h⟩
  · cases h
theorem merges (T : Tot cT) (c0 : List PV) (rest : List (List PV)) (toks : List (Nat × Nat × TypeId)) (tys : List TypeId) (N : Nat) (hN : N ≤ 4611686018427387903) : ∀ k, @Merges ⟨smW k⟩ c0 rest toks tys N k
  | 0 => fun f a m b h1 h2 h3 h4 => by omega
  | k + 1 => fun f a m b h1 h2 h3 h4 hA hB => @sym_step ⟨smW k⟩ c0 rest toks tys N k T (merges T c0 rest toks tys N hN k) hN f a m b h1 h2 h3 h4 hA hB
theorem sm_law (T : Tot cT) (c0 : List PV) (rest : List (List PV)) (toks : List (Nat × Nat × TypeId)) (tys : List TypeId) (N : Nat) (hN : N ≤ 4611686018427387903) (f : Nat → List Vl) (a m b : Nat) (h1 : a < m) (h2 : m < b) (h3 : b ≤ N) (hA : Srt cT f a m) (hB : Srt cT f m b) :
    ∃ f', rec_is0 0 N a m b c0 (oA cV f N) rest toks tys = true ∧ rec_l 0 N a m b c0 (oA cV f N) rest toks tys = oA cV f' N ∧ Srt cT f' a b ∧ Mv f f' a b := by
  have h : @Merges recS c0 rest toks tys N (b - a) → _ := fun h => rec_is c0 rest toks tys h f a m b h1 h2 h3 (Nat.le_refl _) hA hB
  obtain ⟨f', e1, e2, e3⟩ := merges T c0 rest toks tys N hN (b - a) f a m b h1 h2 h3 (Nat.le_refl _) hA hB
  have ek : ((b : Int) - (a : Int)).toNat = b - a := by omega
  have hw : RecW.W 0 N a m b c0 (oA cV f N) rest toks tys = some (.tup [], sT c0 rest toks tys f' N) := by
    show smW ((b : Int) - (a : Int)).toNat 0 N a m b c0 (oA cV f N) rest toks tys = _
    rw [ek]; exact e1
  have e : rec_l 0 N a m b c0 (oA cV f N) rest toks tys = oA cV f' N := by simp [rec_l, hw, sT, gObj, asOut]
  exact ⟨f', by simp [rec_is0, e, hw, sT], e, e2, e3⟩
end Go.Pv

set_option maxHeartbeats 4000000
set_option maxRecDepth 200000
set_option linter.unusedSimpArgs false
set_option linter.unusedVariables false
namespace Go.Pv
open Go Go.Proofs
noncomputable def G_cln : GamT := ofL [(objKey, .flag)]
theorem gok_cln (gl : Nat → Option Obj) : GamOk Tryd.prog gl (gam G_cln) := (gamOk_flag gamOk_nil)
noncomputable def L_cln : LpsT := fun r fr σ => .fail
noncomputable def cln_Tr (l : List (List PV)) (c0 : List PV) : Tr (PV × Store) := Tr.ite (xNil l) (Tr.ite false (Tr.ret (PV.sl [] .full, Store.mk [c0] [] [82])) (Tr.ite (okGrow [] l 24) (Tr.ite (okNews l 1) (Tr.ite (okSize [] 1) (Tr.ite (xNil l) (Tr.ret (PV.sl [] .full, Store.mk [c0] [] [82])) (Tr.ret (PV.osl 1 0 (nXs (xApp [] l)) 1, Store.mk [c0, List.flatten (xApp [] l)] [] [82, 1000023]))) Tr.fail) Tr.fail) Tr.fail)) (Tr.ite false (Tr.ret (PV.sl [] .full, Store.mk [c0] [] [82])) (Tr.ite (okGrow [] l 24) (Tr.ite (okNews l 1) (Tr.ite (okSize [] 1) (Tr.ite (xNil l) (Tr.ret (PV.sl [] .full, Store.mk [c0] [] [82])) (Tr.ret (PV.osl 1 0 (nXs (xApp [] l)) 1, Store.mk [c0, List.flatten (xApp [] l)] [] [82, 1000023]))) Tr.fail) Tr.fail) Tr.fail))
theorem cln_T (l : List (List PV)) (c0 : List PV) : (tcallS tbT G_cln L_cln Tryd.f82 [.sl l .own] ⟨[c0], [], [82]⟩).flat = cln_Tr l c0 := by kernel_rfl
noncomputable def cln_W (l : List (List PV)) (c0 : List PV) : Option (PV × Store) := (cln_Tr l c0).run
noncomputable def cln_r_0 (l : List (List PV)) (c0 : List PV) : List (List PV) := (gRow (gOut (asOut (cln_W l c0)) 0))
noncomputable def cln_is0 (l : List (List PV)) (c0 : List PV) : Bool := isW (cln_W l c0) (.sl (cln_r_0 l c0) .full, ⟨[c0], [], [82]⟩)
noncomputable def cln_o_1 (l : List (List PV)) (c0 : List PV) : Nat := (gOff (gOut (asOut (cln_W l c0)) 0))
noncomputable def cln_m_1 (l : List (List PV)) (c0 : List PV) : Nat := (gLen (gOut (asOut (cln_W l c0)) 0))
noncomputable def cln_l2_1 (l : List (List PV)) (c0 : List PV) : List PV := (gObj (asOut (cln_W l c0)) 1)
noncomputable def cln_is1 (l : List (List PV)) (c0 : List PV) : Bool := isW (cln_W l c0) (.osl 1 (cln_o_1 l c0) (cln_m_1 l c0) 1, ⟨[c0, (cln_l2_1 l c0)], [], [82, 1000023]⟩)
noncomputable def D_cln : List PV → Store → Tr (PV × Store) | [.sl l .own], ⟨[c0], [], [82]⟩ => .ite (cln_is0 l c0) (.ret (.sl (cln_r_0 l c0) .full, ⟨[c0], [], [82]⟩)) (.ite (cln_is1 l c0) (.ret (.osl 1 (cln_o_1 l c0) (cln_m_1 l c0) 1, ⟨[c0, (cln_l2_1 l c0)], [], [82, 1000023]⟩)) (.fail)) | _, _ => .fail
theorem sim_cln (gl : Nat → Option Obj) : SimS Tryd.prog gl 82 fun args σ => (D_cln args σ).run := by
  refine SimS.of_flat (G := G_cln) (L := L_cln) tbT_ok (gok_cln gl ) noMixed Tryd.func82 rfl (by rfl) (by kernel_rfl) (loopOk_none (by kernel_rfl)) ?_
  intro args σ x h
  unfold D_cln at h
  split at h
  · exact (congrArg Tr.run (cln_T _ _)).trans (ite_isW h fun h => ite_isW h fun h => by cases h)
  · cases h
noncomputable def G_eq85 : GamT := ofL [(16, .pure F_TCmp)]
theorem gok_eq85 (gl : Nat → Option Obj) : GamOk Tryd.prog gl (gam G_eq85) := (gamOk_cons (sim_TCmp gl) gamOk_nil)
noncomputable def L_eq85 : LpsT := fun r fr σ => .fail
noncomputable def eq85_Tr (a : List (List PV)) (b : List (List PV)) (r : List (List PV)) : Tr PV := Tr.ite (okR cV (lockLL (lockLL a))) (Tr.ite (okR cV (lockLL (lockLL b))) (Tr.ret (PV.bool (iEq (cmpTV (lockLL (lockLL a)) (lockLL (lockLL b))) 0))) Tr.fail) Tr.fail
theorem eq85_T (a : List (List PV)) (b : List (List PV)) (r : List (List PV)) : (tcall tbT G_eq85 L_eq85 Tryd.f85 [.sl a .non, .sl b .non, .ref [.sl r .non, .fn 16 []]]).flat = eq85_Tr a b r := by kernel_rfl
noncomputable def F_eq85 : List PV → Tr PV | [.sl a .non, .sl b .non, .ref [.sl r .non, .fn 16 []]] => eq85_Tr a b r | _ => .fail
theorem sim_eq85 (gl : Nat → Option Obj) : SimP Tryd.prog gl 85 fun args => (F_eq85 args).run := by
  refine SimP.of_flat (G := G_eq85) (L := L_eq85) tbT_ok (gok_eq85 gl ) noMixed Tryd.func85 rfl (by rfl) (by kernel_rfl) (loopOk_none (by kernel_rfl)) ?_
  intro args x h
  unfold F_eq85 at h
  split at h
  · exact (congrArg Tr.run (eq85_T _ _ _)).trans h
  · cases h
end Go.Pv

set_option maxHeartbeats 4000000
set_option maxRecDepth 200000
set_option linter.unusedSimpArgs false
set_option linter.unusedVariables false
namespace Go.Pv
open Go Go.Proofs
noncomputable def G_stb : GamT := ofL [(16, .pure F_TCmp), (119, .store D_ins), (120, .store D_rec)]
theorem gok_stb (gl : Nat → Option Obj) : GamOk Tryd.prog gl (gam G_stb) := (gamOk_cons (sim_TCmp gl) (gamOk_store (sim_ins gl) (gamOk_store (sim_sm gl) gamOk_nil)))
noncomputable def c_stb1 : Code := loopC Tryd.f108 2
noncomputable def c_stb2 : Code := loopC Tryd.f108 7
noncomputable def c_stb3 : Code := loopC Tryd.f108 9
def I_stb1 : LI := ⟨63, [0, 1, 2, 6, 7, 8], fun e => match e with | .exit 0 => [0, 1, 2, 6, 7] | _ => [], false⟩
noncomputable def LI_stb1 : LpsT := fun r fr σ => .fail
noncomputable def stb1_V (vs : List PV) (σ : Store) : Option (PExit × List PV × Store) := lval (lstep tbT G_stb LI_stb1 c_stb1 I_stb1) vs σ
noncomputable def stb1_Tr (data : Nat) (data2 : Nat) (n : Int) (blockSize : Int) (a : Int) (b : Int) (l : List PV) (l2 : List PV) (rest : List (List PV)) (toks : List (Nat × Nat × TypeId)) (tys : List TypeId) : Tr LR := Tr.ite (iLe b n) (Tr.ite (ins_is0 data data2 a b l l2 rest toks tys) (Tr.ret (LR.next [PV.osl 1 data data2 1, PV.int .i64 n, PV.fn 16 [], PV.int .i64 blockSize, PV.int .i64 b, PV.int .i64 (iAdd .i64 b blockSize)] (Store.mk (l :: ins_l2 data data2 a b l l2 rest toks tys :: rest) toks (82 :: 1000023 :: tys)))) Tr.fail) (Tr.ret (LR.out (.exit 0) [PV.osl 1 data data2 1, PV.int .i64 n, PV.fn 16 [], PV.int .i64 blockSize, PV.int .i64 a] (Store.mk (l :: l2 :: rest) toks (82 :: 1000023 :: tys))))
theorem stb1_T (data : Nat) (data2 : Nat) (n : Int) (blockSize : Int) (a : Int) (b : Int) (l : List PV) (l2 : List PV) (rest : List (List PV)) (toks : List (Nat × Nat × TypeId)) (tys : List TypeId) : lstep tbT G_stb LI_stb1 c_stb1 I_stb1 [.osl 1 data data2 1, .int .i64 n, .fn 16 [], .int .i64 blockSize, .int .i64 a, .int .i64 b] ⟨(l :: l2 :: rest), (toks), (82 :: 1000023 :: tys)⟩ = stb1_Tr data data2 n blockSize a b l l2 rest toks tys := by kernel_rfl
theorem stb1_E (data : Nat) (data2 : Nat) (n : Int) (blockSize : Int) (a : Int) (b : Int) (l : List PV) (l2 : List PV) (rest : List (List PV)) (toks : List (Nat × Nat × TypeId)) (tys : List TypeId) : stb1_V [.osl 1 data data2 1, .int .i64 n, .fn 16 [], .int .i64 blockSize, .int .i64 a, .int .i64 b] ⟨(l :: l2 :: rest), (toks), (82 :: 1000023 :: tys)⟩ = lnext stb1_V (stb1_Tr data data2 n blockSize a b l l2 rest toks tys).run := by unfold stb1_V; rw [lval_eq, stb1_T]
noncomputable def stb1_W (data : Nat) (data2 : Nat) (n : Int) (blockSize : Int) (a : Int) (b : Int) (l : List PV) (l2 : List PV) (rest : List (List PV)) (toks : List (Nat × Nat × TypeId)) (tys : List TypeId) : Option (PExit × List PV × Store) := stb1_V [.osl 1 data data2 1, .int .i64 n, .fn 16 [], .int .i64 blockSize, .int .i64 a, .int .i64 b] ⟨(l :: l2 :: rest), (toks), (82 :: 1000023 :: tys)⟩
noncomputable def stb1_a (data : Nat) (data2 : Nat) (n : Int) (blockSize : Int) (a : Int) (b : Int) (l : List PV) (l2 : List PV) (rest : List (List PV)) (toks : List (Nat × Nat × TypeId)) (tys : List TypeId) : Int := (gInt (gOut (stb1_W data data2 n blockSize a b l l2 rest toks tys) 4))
noncomputable def stb1_l2 (data : Nat) (data2 : Nat) (n : Int) (blockSize : Int) (a : Int) (b : Int) (l : List PV) (l2 : List PV) (rest : List (List PV)) (toks : List (Nat × Nat × TypeId)) (tys : List TypeId) : List PV := (gObj (stb1_W data data2 n blockSize a b l l2 rest toks tys) 1)
noncomputable def stb1_is0 (data : Nat) (data2 : Nat) (n : Int) (blockSize : Int) (a : Int) (b : Int) (l : List PV) (l2 : List PV) (rest : List (List PV)) (toks : List (Nat × Nat × TypeId)) (tys : List TypeId) : Bool := isW (stb1_W data data2 n blockSize a b l l2 rest toks tys) ((.exit 0), [.osl 1 data data2 1, .int .i64 n, .fn 16 [], .int .i64 blockSize, .int .i64 (stb1_a data data2 n blockSize a b l l2 rest toks tys)], ⟨(l :: (stb1_l2 data data2 n blockSize a b l l2 rest toks tys) :: rest), (toks), (82 :: 1000023 :: tys)⟩)
noncomputable def stb1_prop : List PV → Store → Tr (PExit × List PV × Store) | [.osl 1 data data2 1, .int .i64 n, .fn 16 [], .int .i64 blockSize, .int .i64 a, .int .i64 b], ⟨(l :: l2 :: rest), (toks), (82 :: 1000023 :: tys)⟩ => .ite (stb1_is0 data data2 n blockSize a b l l2 rest toks tys) (.ret ((.exit 0), [.osl 1 data data2 1, .int .i64 n, .fn 16 [], .int .i64 blockSize, .int .i64 (stb1_a data data2 n blockSize a b l l2 rest toks tys)], ⟨(l :: (stb1_l2 data data2 n blockSize a b l l2 rest toks tys) :: rest), (toks), (82 :: 1000023 :: tys)⟩)) (.fail) | _, _ => .fail
theorem stb1_ok : ∀ vs σ r, (stb1_prop vs σ).run = some r → stb1_V vs σ = some r := by
  intro vs σ r h
  unfold stb1_prop at h
  split at h
  · exact ite_isW h fun h => by cases h
  · cases h
theorem loop_stb1 (gl : Nat → Option Obj) : ∀ fr σ e fr' σ', (orc I_stb1 stb1_prop fr σ).run = some (e, fr', σ') → LDoes Tryd.prog gl c_stb1 fr σ e fr' σ' := orc_ok tbT_ok (gok_stb gl ) noMixed (L := LI_stb1) (loopOk_none (by kernel_rfl)) (by kernel_rfl) stb1_ok
def I_stb3 : LI := ⟨63, [0, 1, 2, 6, 7, 8], fun e => match e with | .exit 4 => [0, 1, 2, 6, 7] | _ => [], false⟩
noncomputable def LI_stb3 : LpsT := fun r fr σ => .fail
noncomputable def stb3_V (vs : List PV) (σ : Store) : Option (PExit × List PV × Store) := lval (lstep tbT G_stb LI_stb3 c_stb3 I_stb3) vs σ
noncomputable def stb3_Tr (data : Nat) (data2 : Nat) (n : Int) (blockSize : Int) (a : Int) (b : Int) (l : List PV) (l2 : List PV) (rest : List (List PV)) (toks : List (Nat × Nat × TypeId)) (tys : List TypeId) : Tr LR := Tr.ite (iLe b n) (Tr.ite (rec_is0 data data2 a (iAdd .i64 a blockSize) b l l2 rest toks tys) (Tr.ret (LR.next [PV.osl 1 data data2 1, PV.int .i64 n, PV.fn 16 [], PV.int .i64 blockSize, PV.int .i64 b, PV.int .i64 (iAdd .i64 b (iMul .i64 2 blockSize))] (Store.mk (l :: rec_l data data2 a (iAdd .i64 a blockSize) b l l2 rest toks tys :: rest) toks (82 :: 1000023 :: tys)))) Tr.fail) (Tr.ret (LR.out (.exit 4) [PV.osl 1 data data2 1, PV.int .i64 n, PV.fn 16 [], PV.int .i64 blockSize, PV.int .i64 a] (Store.mk (l :: l2 :: rest) toks (82 :: 1000023 :: tys))))
theorem stb3_T (data : Nat) (data2 : Nat) (n : Int) (blockSize : Int) (a : Int) (b : Int) (l : List PV) (l2 : List PV) (rest : List (List PV)) (toks : List (Nat × Nat × TypeId)) (tys : List TypeId) : lstep tbT G_stb LI_stb3 c_stb3 I_stb3 [.osl 1 data data2 1, .int .i64 n, .fn 16 [], .int .i64 blockSize, .int .i64 a, .int .i64 b] ⟨(l :: l2 :: rest), (toks), (82 :: 1000023 :: tys)⟩ = stb3_Tr data data2 n blockSize a b l l2 rest toks tys := by kernel_rfl
theorem stb3_E (data : Nat) (data2 : Nat) (n : Int) (blockSize : Int) (a : Int) (b : Int) (l : List PV) (l2 : List PV) (rest : List (List PV)) (toks : List (Nat × Nat × TypeId)) (tys : List TypeId) : stb3_V [.osl 1 data data2 1, .int .i64 n, .fn 16 [], .int .i64 blockSize, .int .i64 a, .int .i64 b] ⟨(l :: l2 :: rest), (toks), (82 :: 1000023 :: tys)⟩ = lnext stb3_V (stb3_Tr data data2 n blockSize a b l l2 rest toks tys).run := by unfold stb3_V; rw [lval_eq, stb3_T]
noncomputable def stb3_W (data : Nat) (data2 : Nat) (n : Int) (blockSize : Int) (a : Int) (b : Int) (l : List PV) (l2 : List PV) (rest : List (List PV)) (toks : List (Nat × Nat × TypeId)) (tys : List TypeId) : Option (PExit × List PV × Store) := stb3_V [.osl 1 data data2 1, .int .i64 n, .fn 16 [], .int .i64 blockSize, .int .i64 a, .int .i64 b] ⟨(l :: l2 :: rest), (toks), (82 :: 1000023 :: tys)⟩
noncomputable def stb3_a (data : Nat) (data2 : Nat) (n : Int) (blockSize : Int) (a : Int) (b : Int) (l : List PV) (l2 : List PV) (rest : List (List PV)) (toks : List (Nat × Nat × TypeId)) (tys : List TypeId) : Int := (gInt (gOut (stb3_W data data2 n blockSize a b l l2 rest toks tys) 4))
noncomputable def stb3_l2 (data : Nat) (data2 : Nat) (n : Int) (blockSize : Int) (a : Int) (b : Int) (l : List PV) (l2 : List PV) (rest : List (List PV)) (toks : List (Nat × Nat × TypeId)) (tys : List TypeId) : List PV := (gObj (stb3_W data data2 n blockSize a b l l2 rest toks tys) 1)
noncomputable def stb3_is0 (data : Nat) (data2 : Nat) (n : Int) (blockSize : Int) (a : Int) (b : Int) (l : List PV) (l2 : List PV) (rest : List (List PV)) (toks : List (Nat × Nat × TypeId)) (tys : List TypeId) : Bool := isW (stb3_W data data2 n blockSize a b l l2 rest toks tys) ((.exit 4), [.osl 1 data data2 1, .int .i64 n, .fn 16 [], .int .i64 blockSize, .int .i64 (stb3_a data data2 n blockSize a b l l2 rest toks tys)], ⟨(l :: (stb3_l2 data data2 n blockSize a b l l2 rest toks tys) :: rest), (toks), (82 :: 1000023 :: tys)⟩)
noncomputable def stb3_prop : List PV → Store → Tr (PExit × List PV × Store) | [.osl 1 data data2 1, .int .i64 n, .fn 16 [], .int .i64 blockSize, .int .i64 a, .int .i64 b], ⟨(l :: l2 :: rest), (toks), (82 :: 1000023 :: tys)⟩ => .ite (stb3_is0 data data2 n blockSize a b l l2 rest toks tys) (.ret ((.exit 4), [.osl 1 data data2 1, .int .i64 n, .fn 16 [], .int .i64 blockSize, .int .i64 (stb3_a data data2 n blockSize a b l l2 rest toks tys)], ⟨(l :: (stb3_l2 data data2 n blockSize a b l l2 rest toks tys) :: rest), (toks), (82 :: 1000023 :: tys)⟩)) (.fail) | _, _ => .fail
theorem stb3_ok : ∀ vs σ r, (stb3_prop vs σ).run = some r → stb3_V vs σ = some r := by
  intro vs σ r h
  unfold stb3_prop at h
  split at h
  · exact ite_isW h fun h => by cases h
  · cases h
theorem loop_stb3 (gl : Nat → Option Obj) : ∀ fr σ e fr' σ', (orc I_stb3 stb3_prop fr σ).run = some (e, fr', σ') → LDoes Tryd.prog gl c_stb3 fr σ e fr' σ' := orc_ok tbT_ok (gok_stb gl ) noMixed (L := LI_stb3) (loopOk_none (by kernel_rfl)) (by kernel_rfl) stb3_ok
def I_stb2 : LI := ⟨63, [0, 1, 2, 6], fun e => match e with | .exit 2 => [] | _ => [], false⟩
noncomputable def LI_stb2 : LpsT := fun r fr σ => bif Nat.beq r 9 then orc I_stb3 stb3_prop fr σ else .fail
noncomputable def stb2_V (vs : List PV) (σ : Store) : Option (PExit × List PV × Store) := lval (lstep tbT G_stb LI_stb2 c_stb2 I_stb2) vs σ
noncomputable def stb2_Tr (data : Nat) (data2 : Nat) (n : Int) (blockSize : Int) (l : List PV) (l2 : List PV) (rest : List (List PV)) (toks : List (Nat × Nat × TypeId)) (tys : List TypeId) : Tr LR := Tr.ite (iLt blockSize n) (Tr.ite (stb3_is0 data data2 n blockSize 0 (iMul .i64 2 blockSize) l l2 rest toks tys) (Tr.ite (iLt (iAdd .i64 (stb3_a data data2 n blockSize 0 (iMul .i64 2 blockSize) l l2 rest toks tys) blockSize) n) (Tr.ite (rec_is0 data data2 (stb3_a data data2 n blockSize 0 (iMul .i64 2 blockSize) l l2 rest toks tys) (iAdd .i64 (stb3_a data data2 n blockSize 0 (iMul .i64 2 blockSize) l l2 rest toks tys) blockSize) n l (stb3_l2 data data2 n blockSize 0 (iMul .i64 2 blockSize) l l2 rest toks tys) rest toks tys) (Tr.ret (LR.next [PV.osl 1 data data2 1, PV.int .i64 n, PV.fn 16 [], PV.int .i64 (iMul .i64 blockSize 2)] (Store.mk (l :: rec_l data data2 (stb3_a data data2 n blockSize 0 (iMul .i64 2 blockSize) l l2 rest toks tys) (iAdd .i64 (stb3_a data data2 n blockSize 0 (iMul .i64 2 blockSize) l l2 rest toks tys) blockSize) n l (stb3_l2 data data2 n blockSize 0 (iMul .i64 2 blockSize) l l2 rest toks tys) rest toks tys :: rest) toks (82 :: 1000023 :: tys)))) Tr.fail) (Tr.ret (LR.next [PV.osl 1 data data2 1, PV.int .i64 n, PV.fn 16 [], PV.int .i64 (iMul .i64 blockSize 2)] (Store.mk (l :: stb3_l2 data data2 n blockSize 0 (iMul .i64 2 blockSize) l l2 rest toks tys :: rest) toks (82 :: 1000023 :: tys))))) Tr.fail) (Tr.ret (LR.out (.exit 2) [] (Store.mk (l :: l2 :: rest) toks (82 :: 1000023 :: tys))))
theorem stb2_T (data : Nat) (data2 : Nat) (n : Int) (blockSize : Int) (l : List PV) (l2 : List PV) (rest : List (List PV)) (toks : List (Nat × Nat × TypeId)) (tys : List TypeId) : lstep tbT G_stb LI_stb2 c_stb2 I_stb2 [.osl 1 data data2 1, .int .i64 n, .fn 16 [], .int .i64 blockSize] ⟨(l :: l2 :: rest), (toks), (82 :: 1000023 :: tys)⟩ = stb2_Tr data data2 n blockSize l l2 rest toks tys := by kernel_rfl
theorem stb2_E (data : Nat) (data2 : Nat) (n : Int) (blockSize : Int) (l : List PV) (l2 : List PV) (rest : List (List PV)) (toks : List (Nat × Nat × TypeId)) (tys : List TypeId) : stb2_V [.osl 1 data data2 1, .int .i64 n, .fn 16 [], .int .i64 blockSize] ⟨(l :: l2 :: rest), (toks), (82 :: 1000023 :: tys)⟩ = lnext stb2_V (stb2_Tr data data2 n blockSize l l2 rest toks tys).run := by unfold stb2_V; rw [lval_eq, stb2_T]
noncomputable def stb2_W (data : Nat) (data2 : Nat) (n : Int) (blockSize : Int) (l : List PV) (l2 : List PV) (rest : List (List PV)) (toks : List (Nat × Nat × TypeId)) (tys : List TypeId) : Option (PExit × List PV × Store) := stb2_V [.osl 1 data data2 1, .int .i64 n, .fn 16 [], .int .i64 blockSize] ⟨(l :: l2 :: rest), (toks), (82 :: 1000023 :: tys)⟩
noncomputable def stb2_l2 (data : Nat) (data2 : Nat) (n : Int) (blockSize : Int) (l : List PV) (l2 : List PV) (rest : List (List PV)) (toks : List (Nat × Nat × TypeId)) (tys : List TypeId) : List PV := (gObj (stb2_W data data2 n blockSize l l2 rest toks tys) 1)
noncomputable def stb2_is0 (data : Nat) (data2 : Nat) (n : Int) (blockSize : Int) (l : List PV) (l2 : List PV) (rest : List (List PV)) (toks : List (Nat × Nat × TypeId)) (tys : List TypeId) : Bool := isW (stb2_W data data2 n blockSize l l2 rest toks tys) ((.exit 2), [], ⟨(l :: (stb2_l2 data data2 n blockSize l l2 rest toks tys) :: rest), (toks), (82 :: 1000023 :: tys)⟩)
noncomputable def stb2_prop : List PV → Store → Tr (PExit × List PV × Store) | [.osl 1 data data2 1, .int .i64 n, .fn 16 [], .int .i64 blockSize], ⟨(l :: l2 :: rest), (toks), (82 :: 1000023 :: tys)⟩ => .ite (stb2_is0 data data2 n blockSize l l2 rest toks tys) (.ret ((.exit 2), [], ⟨(l :: (stb2_l2 data data2 n blockSize l l2 rest toks tys) :: rest), (toks), (82 :: 1000023 :: tys)⟩)) (.fail) | _, _ => .fail
theorem stb2_ok : ∀ vs σ r, (stb2_prop vs σ).run = some r → stb2_V vs σ = some r := by
  intro vs σ r h
  unfold stb2_prop at h
  split at h
  · exact ite_isW h fun h => by cases h
  · cases h
theorem loop_stb2 (gl : Nat → Option Obj) : ∀ fr σ e fr' σ', (orc I_stb2 stb2_prop fr σ).run = some (e, fr', σ') → LDoes Tryd.prog gl c_stb2 fr σ e fr' σ' := orc_ok tbT_ok (gok_stb gl ) noMixed (L := LI_stb2) (loopOk_all (L := lps LI_stb2) [(9, c_stb3)] (by kernel_rfl) (List.forall_mem_cons.2 ⟨fun fr σ e fr' σ' h => loop_stb3 gl  fr σ e fr' σ' h, (List.forall_mem_nil _)⟩)) (by kernel_rfl) stb2_ok
noncomputable def L_stb : LpsT := fun r fr σ => bif Nat.beq r 2 then orc I_stb1 stb1_prop fr σ else bif Nat.beq r 7 then orc I_stb2 stb2_prop fr σ else .fail
noncomputable def stb_Tr (off : Nat) (len : Nat) (n : Int) (c0 : List PV) (cs : List PV) (rest : List (List PV)) (toks : List (Nat × Nat × TypeId)) (tys : List TypeId) : Tr (PV × Store) := Tr.ite (stb1_is0 off len n 20 0 20 c0 cs rest toks tys) (Tr.ite (ins_is0 off len (stb1_a off len n 20 0 20 c0 cs rest toks tys) n c0 (stb1_l2 off len n 20 0 20 c0 cs rest toks tys) rest toks tys) (Tr.ite (stb2_is0 off len n 20 c0 (ins_l2 off len (stb1_a off len n 20 0 20 c0 cs rest toks tys) n c0 (stb1_l2 off len n 20 0 20 c0 cs rest toks tys) rest toks tys) rest toks tys) (Tr.ret (PV.tup [], Store.mk (c0 :: stb2_l2 off len n 20 c0 (ins_l2 off len (stb1_a off len n 20 0 20 c0 cs rest toks tys) n c0 (stb1_l2 off len n 20 0 20 c0 cs rest toks tys) rest toks tys) rest toks tys :: rest) toks (82 :: 1000023 :: tys))) Tr.fail) Tr.fail) Tr.fail
theorem stb_T (off : Nat) (len : Nat) (n : Int) (c0 : List PV) (cs : List PV) (rest : List (List PV)) (toks : List (Nat × Nat × TypeId)) (tys : List TypeId) : (tcallS tbT G_stb L_stb Tryd.f108 [.osl 1 off len 1, .int .i64 n, .fn 16 []] ⟨c0 :: cs :: rest, toks, 82 :: 1000023 :: tys⟩).flat = stb_Tr off len n c0 cs rest toks tys := by kernel_rfl
noncomputable def stb_W (off : Nat) (len : Nat) (n : Int) (c0 : List PV) (cs : List PV) (rest : List (List PV)) (toks : List (Nat × Nat × TypeId)) (tys : List TypeId) : Option (PV × Store) := (stb_Tr off len n c0 cs rest toks tys).run
noncomputable def stb_l2 (off : Nat) (len : Nat) (n : Int) (c0 : List PV) (cs : List PV) (rest : List (List PV)) (toks : List (Nat × Nat × TypeId)) (tys : List TypeId) : List PV := (gObj (asOut (stb_W off len n c0 cs rest toks tys)) 1)
noncomputable def stb_is0 (off : Nat) (len : Nat) (n : Int) (c0 : List PV) (cs : List PV) (rest : List (List PV)) (toks : List (Nat × Nat × TypeId)) (tys : List TypeId) : Bool := isW (stb_W off len n c0 cs rest toks tys) (.tup [], ⟨(c0 :: (stb_l2 off len n c0 cs rest toks tys) :: rest), (toks), (82 :: 1000023 :: tys)⟩)
noncomputable def D_stb : List PV → Store → Tr (PV × Store) | [.osl 1 off len 1, .int .i64 n, .fn 16 []], ⟨c0 :: cs :: rest, toks, 82 :: 1000023 :: tys⟩ => .ite (stb_is0 off len n c0 cs rest toks tys) (.ret (.tup [], ⟨(c0 :: (stb_l2 off len n c0 cs rest toks tys) :: rest), (toks), (82 :: 1000023 :: tys)⟩)) (.fail) | _, _ => .fail
theorem sim_stb (gl : Nat → Option Obj) : SimS Tryd.prog gl 108 fun args σ => (D_stb args σ).run := by
  refine SimS.of_flat (G := G_stb) (L := L_stb) tbT_ok (gok_stb gl ) noMixed Tryd.func108 rfl (by rfl) (by kernel_rfl) (loopOk_all (L := lps L_stb) [(2, c_stb1), (7, c_stb2)] (by kernel_rfl) (List.forall_mem_cons.2 ⟨fun fr σ e fr' σ' h => loop_stb1 gl  fr σ e fr' σ' h, (List.forall_mem_cons.2 ⟨fun fr σ e fr' σ' h => loop_stb2 gl  fr σ e fr' σ' h, (List.forall_mem_nil _)⟩)⟩)) ?_
  intro args σ x h
  unfold D_stb at h
  split at h
  · exact (congrArg Tr.run (stb_T _ _ _ _ _ _ _ _)).trans (ite_isW h fun h => by cases h)
  · cases h
noncomputable def G_ssf : GamT := ofL [(16, .pure F_TCmp), (108, .store D_stb)]
theorem gok_ssf (gl : Nat → Option Obj) : GamOk Tryd.prog gl (gam G_ssf) := (gamOk_cons (sim_TCmp gl) (gamOk_store (sim_stb gl) gamOk_nil))
noncomputable def L_ssf : LpsT := fun r fr σ => .fail
noncomputable def ssf_Tr (off : Nat) (len : Nat) (c0 : List PV) (cs : List PV) (rest : List (List PV)) (toks : List (Nat × Nat × TypeId)) (tys : List TypeId) : Tr (PV × Store) := Tr.ite (stb_is0 off len (oLen len) c0 cs rest toks tys) (Tr.ret (PV.tup [], Store.mk (c0 :: stb_l2 off len (oLen len) c0 cs rest toks tys :: rest) toks (82 :: 1000023 :: tys))) Tr.fail
theorem ssf_T (off : Nat) (len : Nat) (c0 : List PV) (cs : List PV) (rest : List (List PV)) (toks : List (Nat × Nat × TypeId)) (tys : List TypeId) : (tcallS tbT G_ssf L_ssf Tryd.f83 [.osl 1 off len 1, .fn 16 []] ⟨c0 :: cs :: rest, toks, 82 :: 1000023 :: tys⟩).flat = ssf_Tr off len c0 cs rest toks tys := by kernel_rfl
noncomputable def ssf_W (off : Nat) (len : Nat) (c0 : List PV) (cs : List PV) (rest : List (List PV)) (toks : List (Nat × Nat × TypeId)) (tys : List TypeId) : Option (PV × Store) := (ssf_Tr off len c0 cs rest toks tys).run
noncomputable def ssf_l2 (off : Nat) (len : Nat) (c0 : List PV) (cs : List PV) (rest : List (List PV)) (toks : List (Nat × Nat × TypeId)) (tys : List TypeId) : List PV := (gObj (asOut (ssf_W off len c0 cs rest toks tys)) 1)
noncomputable def ssf_is0 (off : Nat) (len : Nat) (c0 : List PV) (cs : List PV) (rest : List (List PV)) (toks : List (Nat × Nat × TypeId)) (tys : List TypeId) : Bool := isW (ssf_W off len c0 cs rest toks tys) (.tup [], ⟨(c0 :: (ssf_l2 off len c0 cs rest toks tys) :: rest), (toks), (82 :: 1000023 :: tys)⟩)
noncomputable def D_ssf : List PV → Store → Tr (PV × Store) | [.osl 1 off len 1, .fn 16 []], ⟨c0 :: cs :: rest, toks, 82 :: 1000023 :: tys⟩ => .ite (ssf_is0 off len c0 cs rest toks tys) (.ret (.tup [], ⟨(c0 :: (ssf_l2 off len c0 cs rest toks tys) :: rest), (toks), (82 :: 1000023 :: tys)⟩)) (.fail) | _, _ => .fail
theorem sim_ssf (gl : Nat → Option Obj) : SimS Tryd.prog gl 83 fun args σ => (D_ssf args σ).run := by
  refine SimS.of_flat (G := G_ssf) (L := L_ssf) tbT_ok (gok_ssf gl ) noMixed Tryd.func83 rfl (by rfl) (by kernel_rfl) (loopOk_none (by kernel_rfl)) ?_
  intro args σ x h
  unfold D_ssf at h
  split at h
  · exact (congrArg Tr.run (ssf_T _ _ _ _ _ _ _)).trans (ite_isW h fun h => by cases h)
  · cases h
noncomputable def G_cpt : GamT := ofL [(85, .pure F_eq85)]
theorem gok_cpt (gl : Nat → Option Obj) : GamOk Tryd.prog gl (gam G_cpt) := (gamOk_cons (sim_eq85 gl) gamOk_nil)
noncomputable def c_cpt1 : Code := loopC Tryd.f84 4
noncomputable def c_cpt2 : Code := loopC Tryd.f84 9
def I_cpt2 : LI := ⟨66, [0, 1, 5, 6, 7], fun e => match e with | .exit 2 => [0, 5] | _ => [], false⟩
noncomputable def LI_cpt2 : LpsT := fun r fr σ => .fail
noncomputable def cpt2_V (vs : List PV) (σ : Store) : Option (PExit × List PV × Store) := lval (lstep tbT G_cpt LI_cpt2 c_cpt2 I_cpt2) vs σ
noncomputable def cpt2_Tr (o : Nat) (m : Nat) (n : Int) (o2 : Nat) (m2 : Nat) (n2 : Int) (r : List (List PV)) (l : List PV) (rest : List (List PV)) (toks : List (Nat × Nat × TypeId)) (tys : List TypeId) : Tr LR := Tr.ite (iLt n2 (oLen m2)) (Tr.ite (okIx n2 m2) (Tr.ite (okCell [PV.sl [] .full] l (pOff o2 (nNat n2) 1)) (Tr.ite (okIx (iSub .i64 n2 1) m2) (Tr.ite (okCell [PV.sl [] .full] l (pOff o2 (nNat (iSub .i64 n2 1)) 1)) (Tr.ite (okR cV (lockLL (lockLL (lockLL (cRow l (pOff o2 (nNat n2) 1) 0))))) (Tr.ite (okR cV (lockLL (lockLL (lockLL (cRow l (pOff o2 (nNat (iSub .i64 n2 1)) 1) 0))))) (Tr.ite (bNot (iEq (cmpTV (lockLL (lockLL (lockLL (cRow l (pOff o2 (nNat n2) 1) 0)))) (lockLL (lockLL (lockLL (cRow l (pOff o2 (nNat (iSub .i64 n2 1)) 1) 0))))) 0)) (Tr.ite (okIx n2 m2) (Tr.ite (okCell [PV.sl [] .full] l (pOff o2 (nNat n2) 1)) (Tr.ite (okIx n m) (Tr.ite (okOff l (pOff o (nNat n) 1) 1) (Tr.ret (LR.next [PV.osl 1 o m 1, PV.fn 85 [PV.ptr 0 0], PV.int .i64 (iAdd .i64 n 1), PV.osl 1 o2 m2 1, PV.int .i64 (iAdd .i64 n2 1)] (Store.mk ([PV.sl r .own, PV.fn 16 []] :: putC l (pOff o (nNat n) 1) [PV.sl (cRow l (pOff o2 (nNat n2) 1) 0) .non] :: rest) toks (82 :: 1000023 :: tys)))) Tr.fail) Tr.fail) Tr.fail) Tr.fail) (Tr.ret (LR.next [PV.osl 1 o m 1, PV.fn 85 [PV.ptr 0 0], PV.int .i64 n, PV.osl 1 o2 m2 1, PV.int .i64 (iAdd .i64 n2 1)] (Store.mk ([PV.sl r .own, PV.fn 16 []] :: l :: rest) toks (82 :: 1000023 :: tys))))) Tr.fail) Tr.fail) Tr.fail) Tr.fail) Tr.fail) Tr.fail) (Tr.ret (LR.out (.exit 2) [PV.osl 1 o m 1, PV.int .i64 n] (Store.mk ([PV.sl r .own, PV.fn 16 []] :: l :: rest) toks (82 :: 1000023 :: tys))))
theorem cpt2_T (o : Nat) (m : Nat) (n : Int) (o2 : Nat) (m2 : Nat) (n2 : Int) (r : List (List PV)) (l : List PV) (rest : List (List PV)) (toks : List (Nat × Nat × TypeId)) (tys : List TypeId) : lstep tbT G_cpt LI_cpt2 c_cpt2 I_cpt2 [.osl 1 o m 1, .fn 85 [.ptr 0 0], .int .i64 n, .osl 1 o2 m2 1, .int .i64 n2] ⟨([.sl r .own, .fn 16 []] :: l :: rest), (toks), (82 :: 1000023 :: tys)⟩ = cpt2_Tr o m n o2 m2 n2 r l rest toks tys := by kernel_rfl
theorem cpt2_E (o : Nat) (m : Nat) (n : Int) (o2 : Nat) (m2 : Nat) (n2 : Int) (r : List (List PV)) (l : List PV) (rest : List (List PV)) (toks : List (Nat × Nat × TypeId)) (tys : List TypeId) : cpt2_V [.osl 1 o m 1, .fn 85 [.ptr 0 0], .int .i64 n, .osl 1 o2 m2 1, .int .i64 n2] ⟨([.sl r .own, .fn 16 []] :: l :: rest), (toks), (82 :: 1000023 :: tys)⟩ = lnext cpt2_V (cpt2_Tr o m n o2 m2 n2 r l rest toks tys).run := by unfold cpt2_V; rw [lval_eq, cpt2_T]
noncomputable def cpt2_W (o : Nat) (m : Nat) (n : Int) (o2 : Nat) (m2 : Nat) (n2 : Int) (r : List (List PV)) (l : List PV) (rest : List (List PV)) (toks : List (Nat × Nat × TypeId)) (tys : List TypeId) : Option (PExit × List PV × Store) := cpt2_V [.osl 1 o m 1, .fn 85 [.ptr 0 0], .int .i64 n, .osl 1 o2 m2 1, .int .i64 n2] ⟨([.sl r .own, .fn 16 []] :: l :: rest), (toks), (82 :: 1000023 :: tys)⟩
noncomputable def cpt2_n (o : Nat) (m : Nat) (n : Int) (o2 : Nat) (m2 : Nat) (n2 : Int) (r : List (List PV)) (l : List PV) (rest : List (List PV)) (toks : List (Nat × Nat × TypeId)) (tys : List TypeId) : Int := (gInt (gOut (cpt2_W o m n o2 m2 n2 r l rest toks tys) 1))
noncomputable def cpt2_l (o : Nat) (m : Nat) (n : Int) (o2 : Nat) (m2 : Nat) (n2 : Int) (r : List (List PV)) (l : List PV) (rest : List (List PV)) (toks : List (Nat × Nat × TypeId)) (tys : List TypeId) : List PV := (gObj (cpt2_W o m n o2 m2 n2 r l rest toks tys) 1)
noncomputable def cpt2_is0 (o : Nat) (m : Nat) (n : Int) (o2 : Nat) (m2 : Nat) (n2 : Int) (r : List (List PV)) (l : List PV) (rest : List (List PV)) (toks : List (Nat × Nat × TypeId)) (tys : List TypeId) : Bool := isW (cpt2_W o m n o2 m2 n2 r l rest toks tys) ((.exit 2), [.osl 1 o m 1, .int .i64 (cpt2_n o m n o2 m2 n2 r l rest toks tys)], ⟨([.sl r .own, .fn 16 []] :: (cpt2_l o m n o2 m2 n2 r l rest toks tys) :: rest), (toks), (82 :: 1000023 :: tys)⟩)
noncomputable def cpt2_prop : List PV → Store → Tr (PExit × List PV × Store) | [.osl 1 o m 1, .fn 85 [.ptr 0 0], .int .i64 n, .osl 1 o2 m2 1, .int .i64 n2], ⟨([.sl r .own, .fn 16 []] :: l :: rest), (toks), (82 :: 1000023 :: tys)⟩ => .ite (cpt2_is0 o m n o2 m2 n2 r l rest toks tys) (.ret ((.exit 2), [.osl 1 o m 1, .int .i64 (cpt2_n o m n o2 m2 n2 r l rest toks tys)], ⟨([.sl r .own, .fn 16 []] :: (cpt2_l o m n o2 m2 n2 r l rest toks tys) :: rest), (toks), (82 :: 1000023 :: tys)⟩)) (.fail) | _, _ => .fail
theorem cpt2_ok : ∀ vs σ r, (cpt2_prop vs σ).run = some r → cpt2_V vs σ = some r := by
  intro vs σ r h
  unfold cpt2_prop at h
  split at h
  · exact ite_isW h fun h => by cases h
  · cases h
theorem loop_cpt2 (gl : Nat → Option Obj) : ∀ fr σ e fr' σ', (orc I_cpt2 cpt2_prop fr σ).run = some (e, fr', σ') → LDoes Tryd.prog gl c_cpt2 fr σ e fr' σ' := orc_ok tbT_ok (gok_cpt gl ) noMixed (L := LI_cpt2) (loopOk_none (by kernel_rfl)) (by kernel_rfl) cpt2_ok
def I_cpt1 : LI := ⟨66, [0, 1, 5], fun e => match e with | .ret => [4] | .exit 0 => [0] | _ => [], false⟩
noncomputable def LI_cpt1 : LpsT := fun r fr σ => bif Nat.beq r 9 then orc I_cpt2 cpt2_prop fr σ else .fail
noncomputable def cpt1_V (vs : List PV) (σ : Store) : Option (PExit × List PV × Store) := lval (lstep tbT G_cpt LI_cpt1 c_cpt1 I_cpt1) vs σ
noncomputable def cpt1_Tr (o : Nat) (m : Nat) (n : Int) (r : List (List PV)) (l : List PV) (rest : List (List PV)) (toks : List (Nat × Nat × TypeId)) (tys : List TypeId) : Tr LR := Tr.ite (iLt n (oLen m)) (Tr.ite (okIx n m) (Tr.ite (okCell [PV.sl [] .full] l (pOff o (nNat n) 1)) (Tr.ite (okIx (iSub .i64 n 1) m) (Tr.ite (okCell [PV.sl [] .full] l (pOff o (nNat (iSub .i64 n 1)) 1)) (Tr.ite (okR cV (lockLL (lockLL (lockLL (cRow l (pOff o (nNat n) 1) 0))))) (Tr.ite (okR cV (lockLL (lockLL (lockLL (cRow l (pOff o (nNat (iSub .i64 n 1)) 1) 0))))) (Tr.ite (iEq (cmpTV (lockLL (lockLL (lockLL (cRow l (pOff o (nNat n) 1) 0)))) (lockLL (lockLL (lockLL (cRow l (pOff o (nNat (iSub .i64 n 1)) 1) 0))))) 0) (Tr.ite (okSub (okPos n) true (nNat n) m m) (Tr.ite (cpt2_is0 o m n (pOff o (nNat n) 1) (nSub m (nNat n)) 1 r l rest toks tys) (Tr.ite (okSub (okPos (cpt2_n o m n (pOff o (nNat n) 1) (nSub m (nNat n)) 1 r l rest toks tys)) true (nNat (cpt2_n o m n (pOff o (nNat n) 1) (nSub m (nNat n)) 1 r l rest toks tys)) m m) (Tr.ite (nEq (nSub m (nNat (cpt2_n o m n (pOff o (nNat n) 1) (nSub m (nNat n)) 1 r l rest toks tys))) 0) (Tr.ite (okSub true (okPos (cpt2_n o m n (pOff o (nNat n) 1) (nSub m (nNat n)) 1 r l rest toks tys)) 0 (nNat (cpt2_n o m n (pOff o (nNat n) 1) (nSub m (nNat n)) 1 r l rest toks tys)) m) (Tr.ret (LR.out .ret [PV.osl 1 (pOff o 0 1) (nSub (nNat (cpt2_n o m n (pOff o (nNat n) 1) (nSub m (nNat n)) 1 r l rest toks tys)) 0) 1] (Store.mk ([PV.sl r .own, PV.fn 16 []] :: cpt2_l o m n (pOff o (nNat n) 1) (nSub m (nNat n)) 1 r l rest toks tys :: rest) toks (82 :: 1000023 :: tys)))) Tr.fail) (Tr.ite (okOff (cpt2_l o m n (pOff o (nNat n) 1) (nSub m (nNat n)) 1 r l rest toks tys) (pOff o (nNat (cpt2_n o m n (pOff o (nNat n) 1) (nSub m (nNat n)) 1 r l rest toks tys)) 1) (pOff 0 (nSub m (nNat (cpt2_n o m n (pOff o (nNat n) 1) (nSub m (nNat n)) 1 r l rest toks tys))) 1)) (Tr.ite (okSub true (okPos (cpt2_n o m n (pOff o (nNat n) 1) (nSub m (nNat n)) 1 r l rest toks tys)) 0
 (nNat (cpt2_n o m n (pOff o (nNat n) 1) (nSub m (nNat n)) 1 r l rest toks tys)) m) (Tr.ret (LR.out .ret [PV.osl 1 (pOff o 0 1) (nSub (nNat (cpt2_n o m n (pOff o (nNat n) 1) (nSub m (nNat n)) 1 r l rest toks tys)) 0) 1] (Store.mk ([PV.sl r .own, PV.fn 16 []] :: clrC (cpt2_l o m n (pOff o (nNat n) 1) (nSub m (nNat n)) 1 r l rest toks tys) (pOff o (nNat (cpt2_n o m n (pOff o (nNat n) 1) (nSub m (nNat n)) 1 r l rest toks tys)) 1) (nSub m (nNat (cpt2_n o m n (pOff o (nNat n) 1) (nSub m (nNat n)) 1 r l rest toks tys))) [PV.sl [] .full] :: rest) toks (82 :: 1000023 :: tys)))) Tr.fail) Tr.fail)) Tr.fail) Tr.fail) Tr.fail) (Tr.ret (LR.next [PV.osl 1 o m 1, PV.fn 85 [PV.ptr 0 0], PV.int .i64 (iAdd .i64 n 1)] (Store.mk ([PV.sl r .own, PV.fn 16 []] :: l :: rest) toks (82 :: 1000023 :: tys))))) Tr.fail) Tr.fail) Tr.fail) Tr.fail) Tr.fail) Tr.fail) (Tr.ret (LR.out (.exit 0) [PV.osl 1 o m 1] (Store.mk ([PV.sl r .own, PV.fn 16 []] :: l :: rest) toks (82 :: 1000023 :: tys))))
theorem cpt1_T (o : Nat) (m : Nat) (n : Int) (r : List (List PV)) (l : List PV) (rest : List (List PV)) (toks : List (Nat × Nat × TypeId)) (tys : List TypeId) : lstep tbT G_cpt LI_cpt1 c_cpt1 I_cpt1 [.osl 1 o m 1, .fn 85 [.ptr 0 0], .int .i64 n] ⟨([.sl r .own, .fn 16 []] :: l :: rest), (toks), (82 :: 1000023 :: tys)⟩ = cpt1_Tr o m n r l rest toks tys := by kernel_rfl
theorem cpt1_E (o : Nat) (m : Nat) (n : Int) (r : List (List PV)) (l : List PV) (rest : List (List PV)) (toks : List (Nat × Nat × TypeId)) (tys : List TypeId) : cpt1_V [.osl 1 o m 1, .fn 85 [.ptr 0 0], .int .i64 n] ⟨([.sl r .own, .fn 16 []] :: l :: rest), (toks), (82 :: 1000023 :: tys)⟩ = lnext cpt1_V (cpt1_Tr o m n r l rest toks tys).run := by unfold cpt1_V; rw [lval_eq, cpt1_T]
noncomputable def cpt1_W (o : Nat) (m : Nat) (n : Int) (r : List (List PV)) (l : List PV) (rest : List (List PV)) (toks : List (Nat × Nat × TypeId)) (tys : List TypeId) : Option (PExit × List PV × Store) := cpt1_V [.osl 1 o m 1, .fn 85 [.ptr 0 0], .int .i64 n] ⟨([.sl r .own, .fn 16 []] :: l :: rest), (toks), (82 :: 1000023 :: tys)⟩
noncomputable def cpt1_o_0 (o : Nat) (m : Nat) (n : Int) (r : List (List PV)) (l : List PV) (rest : List (List PV)) (toks : List (Nat × Nat × TypeId)) (tys : List TypeId) : Nat := (gOff (gOut (cpt1_W o m n r l rest toks tys) 0))
noncomputable def cpt1_m_0 (o : Nat) (m : Nat) (n : Int) (r : List (List PV)) (l : List PV) (rest : List (List PV)) (toks : List (Nat × Nat × TypeId)) (tys : List TypeId) : Nat := (gLen (gOut (cpt1_W o m n r l rest toks tys) 0))
noncomputable def cpt1_l_0 (o : Nat) (m : Nat) (n : Int) (r : List (List PV)) (l : List PV) (rest : List (List PV)) (toks : List (Nat × Nat × TypeId)) (tys : List TypeId) : List PV := (gObj (cpt1_W o m n r l rest toks tys) 1)
noncomputable def cpt1_is0 (o : Nat) (m : Nat) (n : Int) (r : List (List PV)) (l : List PV) (rest : List (List PV)) (toks : List (Nat × Nat × TypeId)) (tys : List TypeId) : Bool := isW (cpt1_W o m n r l rest toks tys) (.ret, [.osl 1 (cpt1_o_0 o m n r l rest toks tys) (cpt1_m_0 o m n r l rest toks tys) 1], ⟨([.sl r .own, .fn 16 []] :: (cpt1_l_0 o m n r l rest toks tys) :: rest), (toks), (82 :: 1000023 :: tys)⟩)
noncomputable def cpt1_l_1 (o : Nat) (m : Nat) (n : Int) (r : List (List PV)) (l : List PV) (rest : List (List PV)) (toks : List (Nat × Nat × TypeId)) (tys : List TypeId) : List PV := (gObj (cpt1_W o m n r l rest toks tys) 1)
noncomputable def cpt1_is1 (o : Nat) (m : Nat) (n : Int) (r : List (List PV)) (l : List PV) (rest : List (List PV)) (toks : List (Nat × Nat × TypeId)) (tys : List TypeId) : Bool := isW (cpt1_W o m n r l rest toks tys) ((.exit 0), [.osl 1 o m 1], ⟨([.sl r .own, .fn 16 []] :: (cpt1_l_1 o m n r l rest toks tys) :: rest), (toks), (82 :: 1000023 :: tys)⟩)
noncomputable def cpt1_prop : List PV → Store → Tr (PExit × List PV × Store) | [.osl 1 o m 1, .fn 85 [.ptr 0 0], .int .i64 n], ⟨([.sl r .own, .fn 16 []] :: l :: rest), (toks), (82 :: 1000023 :: tys)⟩ => .ite (cpt1_is0 o m n r l rest toks tys) (.ret (.ret, [.osl 1 (cpt1_o_0 o m n r l rest toks tys) (cpt1_m_0 o m n r l rest toks tys) 1], ⟨([.sl r .own, .fn 16 []] :: (cpt1_l_0 o m n r l rest toks tys) :: rest), (toks), (82 :: 1000023 :: tys)⟩)) (.ite (cpt1_is1 o m n r l rest toks tys) (.ret ((.exit 0), [.osl 1 o m 1], ⟨([.sl r .own, .fn 16 []] :: (cpt1_l_1 o m n r l rest toks tys) :: rest), (toks), (82 :: 1000023 :: tys)⟩)) (.fail)) | _, _ => .fail
theorem cpt1_ok : ∀ vs σ r, (cpt1_prop vs σ).run = some r → cpt1_V vs σ = some r := by
  intro vs σ r h
  unfold cpt1_prop at h
  split at h
  · exact ite_isW h fun h => ite_isW h fun h => by cases h
  · cases h
theorem loop_cpt1 (gl : Nat → Option Obj) : ∀ fr σ e fr' σ', (orc I_cpt1 cpt1_prop fr σ).run = some (e, fr', σ') → LDoes Tryd.prog gl c_cpt1 fr σ e fr' σ' := orc_ok tbT_ok (gok_cpt gl ) noMixed (L := LI_cpt1) (loopOk_all (L := lps LI_cpt1) [(9, c_cpt2)] (by kernel_rfl) (List.forall_mem_cons.2 ⟨fun fr σ e fr' σ' h => loop_cpt2 gl  fr σ e fr' σ' h, (List.forall_mem_nil _)⟩)) (by kernel_rfl) cpt1_ok
noncomputable def L_cpt : LpsT := fun r fr σ => bif Nat.beq r 4 then orc I_cpt1 cpt1_prop fr σ else .fail
noncomputable def cpt_Tr (off : Nat) (len : Nat) (r : List (List PV)) (cs : List PV) (rest : List (List PV)) (toks : List (Nat × Nat × TypeId)) (tys : List TypeId) : Tr (PV × Store) := Tr.ite (iLt (oLen len) 2) (Tr.ret (PV.osl 1 off len 1, Store.mk ([PV.sl r .own, PV.fn 16 []] :: cs :: rest) toks (82 :: 1000023 :: tys))) (Tr.ite (cpt1_is0 off len 1 r cs rest toks tys) (Tr.ret (PV.osl 1 (cpt1_o_0 off len 1 r cs rest toks tys) (cpt1_m_0 off len 1 r cs rest toks tys) 1, Store.mk ([PV.sl r .own, PV.fn 16 []] :: cpt1_l_0 off len 1 r cs rest toks tys :: rest) toks (82 :: 1000023 :: tys))) (Tr.ite (cpt1_is1 off len 1 r cs rest toks tys) (Tr.ret (PV.osl 1 off len 1, Store.mk ([PV.sl r .own, PV.fn 16 []] :: cpt1_l_1 off len 1 r cs rest toks tys :: rest) toks (82 :: 1000023 :: tys))) Tr.fail))
theorem cpt_T (off : Nat) (len : Nat) (r : List (List PV)) (cs : List PV) (rest : List (List PV)) (toks : List (Nat × Nat × TypeId)) (tys : List TypeId) : (tcallS tbT G_cpt L_cpt Tryd.f84 [.osl 1 off len 1, .fn 85 [.ptr 0 0]] ⟨[.sl r .own, .fn 16 []] :: cs :: rest, toks, 82 :: 1000023 :: tys⟩).flat = cpt_Tr off len r cs rest toks tys := by kernel_rfl
noncomputable def cpt_W (off : Nat) (len : Nat) (r : List (List PV)) (cs : List PV) (rest : List (List PV)) (toks : List (Nat × Nat × TypeId)) (tys : List TypeId) : Option (PV × Store) := (cpt_Tr off len r cs rest toks tys).run
noncomputable def cpt_o (off : Nat) (len : Nat) (r : List (List PV)) (cs : List PV) (rest : List (List PV)) (toks : List (Nat × Nat × TypeId)) (tys : List TypeId) : Nat := (gOff (gOut (asOut (cpt_W off len r cs rest toks tys)) 0))
noncomputable def cpt_m (off : Nat) (len : Nat) (r : List (List PV)) (cs : List PV) (rest : List (List PV)) (toks : List (Nat × Nat × TypeId)) (tys : List TypeId) : Nat := (gLen (gOut (asOut (cpt_W off len r cs rest toks tys)) 0))
noncomputable def cpt_l (off : Nat) (len : Nat) (r : List (List PV)) (cs : List PV) (rest : List (List PV)) (toks : List (Nat × Nat × TypeId)) (tys : List TypeId) : List PV := (gObj (asOut (cpt_W off len r cs rest toks tys)) 1)
noncomputable def cpt_is0 (off : Nat) (len : Nat) (r : List (List PV)) (cs : List PV) (rest : List (List PV)) (toks : List (Nat × Nat × TypeId)) (tys : List TypeId) : Bool := isW (cpt_W off len r cs rest toks tys) (.osl 1 (cpt_o off len r cs rest toks tys) (cpt_m off len r cs rest toks tys) 1, ⟨([.sl r .own, .fn 16 []] :: (cpt_l off len r cs rest toks tys) :: rest), (toks), (82 :: 1000023 :: tys)⟩)
noncomputable def D_cpt : List PV → Store → Tr (PV × Store) | [.osl 1 off len 1, .fn 85 [.ptr 0 0]], ⟨[.sl r .own, .fn 16 []] :: cs :: rest, toks, 82 :: 1000023 :: tys⟩ => .ite (cpt_is0 off len r cs rest toks tys) (.ret (.osl 1 (cpt_o off len r cs rest toks tys) (cpt_m off len r cs rest toks tys) 1, ⟨([.sl r .own, .fn 16 []] :: (cpt_l off len r cs rest toks tys) :: rest), (toks), (82 :: 1000023 :: tys)⟩)) (.fail) | _, _ => .fail
theorem sim_cpt (gl : Nat → Option Obj) : SimS Tryd.prog gl 84 fun args σ => (D_cpt args σ).run := by
  refine SimS.of_flat (G := G_cpt) (L := L_cpt) tbT_ok (gok_cpt gl ) noMixed Tryd.func84 rfl (by rfl) (by kernel_rfl) (loopOk_all (L := lps L_cpt) [(4, c_cpt1)] (by kernel_rfl) (List.forall_mem_cons.2 ⟨fun fr σ e fr' σ' h => loop_cpt1 gl  fr σ e fr' σ' h, (List.forall_mem_nil _)⟩)) ?_
  intro args σ x h
  unfold D_cpt at h
  split at h
  · exact (congrArg Tr.run (cpt_T _ _ _ _ _ _ _)).trans (ite_isW h fun h => by cases h)
  · cases h
end Go.Pv

set_option maxHeartbeats 4000000
set_option maxRecDepth 200000
set_option linter.unusedSimpArgs false
set_option linter.unusedVariables false
namespace Go.Pv
open Go Go.Proofs
noncomputable def G_srs : GamT := ofL [(16, .pure F_TCmp), (82, .store D_cln), (83, .store D_ssf), (84, .store D_cpt), (85, .pure F_eq85)]
theorem gok_srs (gl : Nat → Option Obj) : GamOk Tryd.prog gl (gam G_srs) := (gamOk_cons (sim_TCmp gl) (gamOk_store (sim_cln gl) (gamOk_store (sim_ssf gl) (gamOk_store (sim_cpt gl) (gamOk_cons (sim_eq85 gl) gamOk_nil)))))
noncomputable def L_srs : LpsT := fun r fr σ => .fail
noncomputable def srs_Tr (l : List (List PV)) : Tr (PV × Store) := Tr.ite (cln_is0 l [PV.sl l .own, PV.fn 16 []]) Tr.fail (Tr.ite (cln_is1 l [PV.sl l .own, PV.fn 16 []]) (Tr.ite (ssf_is0 (cln_o_1 l [PV.sl l .own, PV.fn 16 []]) (cln_m_1 l [PV.sl l .own, PV.fn 16 []]) [PV.sl l .own, PV.fn 16 []] (cln_l2_1 l [PV.sl l .own, PV.fn 16 []]) [] [] []) (Tr.ite (cpt_is0 (cln_o_1 l [PV.sl l .own, PV.fn 16 []]) (cln_m_1 l [PV.sl l .own, PV.fn 16 []]) l (ssf_l2 (cln_o_1 l [PV.sl l .own, PV.fn 16 []]) (cln_m_1 l [PV.sl l .own, PV.fn 16 []]) [PV.sl l .own, PV.fn 16 []] (cln_l2_1 l [PV.sl l .own, PV.fn 16 []]) [] [] []) [] [] []) (Tr.ret (PV.osl 1 (cpt_o (cln_o_1 l [PV.sl l .own, PV.fn 16 []]) (cln_m_1 l [PV.sl l .own, PV.fn 16 []]) l (ssf_l2 (cln_o_1 l [PV.sl l .own, PV.fn 16 []]) (cln_m_1 l [PV.sl l .own, PV.fn 16 []]) [PV.sl l .own, PV.fn 16 []] (cln_l2_1 l [PV.sl l .own, PV.fn 16 []]) [] [] []) [] [] []) (cpt_m (cln_o_1 l [PV.sl l .own, PV.fn 16 []]) (cln_m_1 l [PV.sl l .own, PV.fn 16 []]) l (ssf_l2 (cln_o_1 l [PV.sl l .own, PV.fn 16 []]) (cln_m_1 l [PV.sl l .own, PV.fn 16 []]) [PV.sl l .own, PV.fn 16 []] (cln_l2_1 l [PV.sl l .own, PV.fn 16 []]) [] [] []) [] [] []) 1, Store.mk [[PV.sl l .own, PV.fn 16 []], cpt_l (cln_o_1 l [PV.sl l .own, PV.fn 16 []]) (cln_m_1 l [PV.sl l .own, PV.fn 16 []]) l (ssf_l2 (cln_o_1 l [PV.sl l .own, PV.fn 16 []]) (cln_m_1 l [PV.sl l .own, PV.fn 16 []]) [PV.sl l .own, PV.fn 16 []] (cln_l2_1 l [PV.sl l .own, PV.fn 16 []]) [] [] []) [] [] []] [] [82, 1000023])) Tr.fail) Tr.fail) Tr.fail)
theorem srs_T (l : List (List PV)) : (tcallS tbT G_srs L_srs Tryd.f61 [.agg [.sl l .own, .fn 16 []]] ⟨[], [], []⟩).flat = srs_Tr l := by kernel_rfl
noncomputable def srs_W (l : List (List PV)) : Option (PV × Store) := (srs_Tr l).run
noncomputable def srs_o (l : List (List PV)) : Nat := (gOff (gOut (asOut (srs_W l)) 0))
noncomputable def srs_m (l : List (List PV)) : Nat := (gLen (gOut (asOut (srs_W l)) 0))
noncomputable def srs_r (l : List (List PV)) : List (List PV) := (gRow (gAt (gObj (asOut (srs_W l)) 0) 0))
noncomputable def srs_l (l : List (List PV)) : List PV := (gObj (asOut (srs_W l)) 1)
noncomputable def srs_is0 (l : List (List PV)) : Bool := isW (srs_W l) (.osl 1 (srs_o l) (srs_m l) 1, ⟨[[.sl (srs_r l) .own, .fn 16 []], (srs_l l)], [], [82, 1000023]⟩)
noncomputable def D_srs : List PV → Store → Tr (PV × Store) | [.agg [.sl l .own, .fn 16 []]], ⟨[], [], []⟩ => .ite (srs_is0 l) (.ret (.osl 1 (srs_o l) (srs_m l) 1, ⟨[[.sl (srs_r l) .own, .fn 16 []], (srs_l l)], [], [82, 1000023]⟩)) (.fail) | _, _ => .fail
theorem sim_srs (gl : Nat → Option Obj) : SimS Tryd.prog gl 61 fun args σ => (D_srs args σ).run := by
  refine SimS.of_flat (G := G_srs) (L := L_srs) tbT_ok (gok_srs gl ) noMixed Tryd.func61 rfl (by rfl) (by kernel_rfl) (loopOk_none (by kernel_rfl)) ?_
  intro args σ x h
  unfold D_srs at h
  split at h
  · exact (congrArg Tr.run (srs_T _)).trans (ite_isW h fun h => by cases h)
  · cases h
end Go.Pv
