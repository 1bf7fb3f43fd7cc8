/- Part 5 of the proof: pure values for the machine's values, what functions compute over them, and laws of what is computed. Conditions: none beyond each theorem's own premises. -/
import Derived.Test.YtdfahkeodlfopaaDoorPvG4
import Derived.Test.YtdfahkeodlfopaaDoorCards
import Derived.Test.YtdfahkeodlfopaaDoorTie
set_option maxHeartbeats 4000000
set_option maxRecDepth 200000
set_option linter.unusedSimpArgs false
set_option linter.unusedVariables false
namespace Go.Pv
open Go Go.Proofs
variable [RecW]
noncomputable def G_sym : GamT := ofL [(16, .pure F_TCmp), (120, .store D_rec), (133, .store D_rot)]
theorem gok_sym (gl : Nat → Option Obj) (hN : SimS Tryd.prog gl 120 fun args σ => (D_rec args σ).run) : GamOk Tryd.prog gl (gam G_sym) := (gamOk_cons (sim_TCmp gl) (gamOk_store hN (gamOk_store (sim_rot gl) gamOk_nil)))
noncomputable def c_sym1 : Code := loopC Tryd.f120 3
noncomputable def c_sym2 : Code := loopC Tryd.f120 9
noncomputable def c_sym3 : Code := loopC Tryd.f120 15
noncomputable def c_sym4 : Code := loopC Tryd.f120 21
noncomputable def c_sym5 : Code := loopC Tryd.f120 33
def I_sym1 : LI := ⟨220, [0, 1, 4, 10, 11], fun e => match e with | .exit 0 => [0, 1, 10] | _ => [], false⟩
noncomputable def LI_sym1 : LpsT := fun r fr σ => .fail
noncomputable def sym1_V (vs : List PV) (σ : Store) : Option (PExit × List PV × Store) := lval (lstep tbT G_sym LI_sym1 c_sym1 I_sym1) vs σ
noncomputable def sym1_Tr (o : Nat) (m : Nat) (n : Int) (n2 : Int) (n3 : Int) (l : List PV) (l2 : List PV) (rest : List (List PV)) (toks : List (Nat × Nat × TypeId)) (tys : List TypeId) : Tr LR := Tr.ite (iLt n2 n3) (Tr.ite (okIx (iWrap .i64 (iShr .u64 (iWrap .u64 (iAdd .i64 n2 n3)) 1)) m) (Tr.ite (okCell [PV.sl [] .full] l2 (pOff o (nNat (iWrap .i64 (iShr .u64 (iWrap .u64 (iAdd .i64 n2 n3)) 1))) 1)) (Tr.ite (okIx n m) (Tr.ite (okCell [PV.sl [] .full] l2 (pOff o (nNat n) 1)) (Tr.ite (okR cV (lockLL (lockLL (cRow l2 (pOff o (nNat (iWrap .i64 (iShr .u64 (iWrap .u64 (iAdd .i64 n2 n3)) 1))) 1) 0)))) (Tr.ite (okR cV (lockLL (lockLL (cRow l2 (pOff o (nNat n) 1) 0)))) (Tr.ite (iLt (cmpTV (lockLL (lockLL (cRow l2 (pOff o (nNat (iWrap .i64 (iShr .u64 (iWrap .u64 (iAdd .i64 n2 n3)) 1))) 1) 0))) (lockLL (lockLL (cRow l2 (pOff o (nNat n) 1) 0)))) 0) (Tr.ret (LR.next [PV.osl 1 o m 1, PV.int .i64 n, PV.fn 16 [], PV.int .i64 (iAdd .i64 (iWrap .i64 (iShr .u64 (iWrap .u64 (iAdd .i64 n2 n3)) 1)) 1), PV.int .i64 n3] (Store.mk (l :: l2 :: rest) toks (82 :: 1000023 :: tys)))) (Tr.ret (LR.next [PV.osl 1 o m 1, PV.int .i64 n, PV.fn 16 [], PV.int .i64 n2, PV.int .i64 (iWrap .i64 (iShr .u64 (iWrap .u64 (iAdd .i64 n2 n3)) 1))] (Store.mk (l :: l2 :: rest) toks (82 :: 1000023 :: tys))))) Tr.fail) Tr.fail) Tr.fail) Tr.fail) Tr.fail) Tr.fail) (Tr.ret (LR.out (.exit 0) [PV.osl 1 o m 1, PV.int .i64 n, PV.int .i64 n2] (Store.mk (l :: l2 :: rest) toks (82 :: 1000023 :: tys))))
theorem sym1_T (o : Nat) (m : Nat) (n : Int) (n2 : Int) (n3 : Int) (l : List PV) (l2 : List PV) (rest : List (List PV)) (toks : List (Nat × Nat × TypeId)) (tys : List TypeId) : lstep tbT G_sym LI_sym1 c_sym1 I_sym1 [.osl 1 o m 1, .int .i64 n, .fn 16 [], .int .i64 n2, .int .i64 n3] ⟨(l :: l2 :: rest), (toks), (82 :: 1000023 :: tys)⟩ = sym1_Tr o m n n2 n3 l l2 rest toks tys := by kernel_rfl
theorem sym1_E (o : Nat) (m : Nat) (n : Int) (n2 : Int) (n3 : Int) (l : List PV) (l2 : List PV) (rest : List (List PV)) (toks : List (Nat × Nat × TypeId)) (tys : List TypeId) : sym1_V [.osl 1 o m 1, .int .i64 n, .fn 16 [], .int .i64 n2, .int .i64 n3] ⟨(l :: l2 :: rest), (toks), (82 :: 1000023 :: tys)⟩ = lnext sym1_V (sym1_Tr o m n n2 n3 l l2 rest toks tys).run := by unfold sym1_V; rw [lval_eq, sym1_T]
noncomputable def sym1_W (o : Nat) (m : Nat) (n : Int) (n2 : Int) (n3 : Int) (l : List PV) (l2 : List PV) (rest : List (List PV)) (toks : List (Nat × Nat × TypeId)) (tys : List TypeId) : Option (PExit × List PV × Store) := sym1_V [.osl 1 o m 1, .int .i64 n, .fn 16 [], .int .i64 n2, .int .i64 n3] ⟨(l :: l2 :: rest), (toks), (82 :: 1000023 :: tys)⟩
noncomputable def sym1_n2 (o : Nat) (m : Nat) (n : Int) (n2 : Int) (n3 : Int) (l : List PV) (l2 : List PV) (rest : List (List PV)) (toks : List (Nat × Nat × TypeId)) (tys : List TypeId) : Int := (gInt (gOut (sym1_W o m n n2 n3 l l2 rest toks tys) 2))
noncomputable def sym1_l2 (o : Nat) (m : Nat) (n : Int) (n2 : Int) (n3 : Int) (l : List PV) (l2 : List PV) (rest : List (List PV)) (toks : List (Nat × Nat × TypeId)) (tys : List TypeId) : List PV := (gObj (sym1_W o m n n2 n3 l l2 rest toks tys) 1)
noncomputable def sym1_is0 (o : Nat) (m : Nat) (n : Int) (n2 : Int) (n3 : Int) (l : List PV) (l2 : List PV) (rest : List (List PV)) (toks : List (Nat × Nat × TypeId)) (tys : List TypeId) : Bool := isW (sym1_W o m n n2 n3 l l2 rest toks tys) ((.exit 0), [.osl 1 o m 1, .int .i64 n, .int .i64 (sym1_n2 o m n n2 n3 l l2 rest toks tys)], ⟨(l :: (sym1_l2 o m n n2 n3 l l2 rest toks tys) :: rest), (toks), (82 :: 1000023 :: tys)⟩)
noncomputable def sym1_prop : List PV → Store → Tr (PExit × List PV × Store) | [.osl 1 o m 1, .int .i64 n, .fn 16 [], .int .i64 n2, .int .i64 n3], ⟨(l :: l2 :: rest), (toks), (82 :: 1000023 :: tys)⟩ => .ite (sym1_is0 o m n n2 n3 l l2 rest toks tys) (.ret ((.exit 0), [.osl 1 o m 1, .int .i64 n, .int .i64 (sym1_n2 o m n n2 n3 l l2 rest toks tys)], ⟨(l :: (sym1_l2 o m n n2 n3 l l2 rest toks tys) :: rest), (toks), (82 :: 1000023 :: tys)⟩)) (.fail) | _, _ => .fail
theorem sym1_ok : ∀ vs σ r, (sym1_prop vs σ).run = some r → sym1_V vs σ = some r := by
  intro vs σ r h
  unfold sym1_prop at h
  split at h
  · exact ite_isW h fun h => by cases h
  · cases h
theorem loop_sym1 (gl : Nat → Option Obj) (hN : SimS Tryd.prog gl 120 fun args σ => (D_rec args σ).run) : ∀ fr σ e fr' σ', (orc I_sym1 sym1_prop fr σ).run = some (e, fr', σ') → LDoes Tryd.prog gl c_sym1 fr σ e fr' σ' := orc_ok tbT_ok (gok_sym gl hN ) noMixed (L := LI_sym1) (loopOk_none (by kernel_rfl)) (by kernel_rfl) sym1_ok
def I_sym2 : LI := ⟨220, [0, 10, 13], fun e => match e with | .exit 2 => [] | _ => [], false⟩
noncomputable def LI_sym2 : LpsT := fun r fr σ => .fail
noncomputable def sym2_V (vs : List PV) (σ : Store) : Option (PExit × List PV × Store) := lval (lstep tbT G_sym LI_sym2 c_sym2 I_sym2) vs σ
noncomputable def sym2_Tr (o : Nat) (m : Nat) (n : Int) (n2 : Int) (l : List PV) (l2 : List PV) (rest : List (List PV)) (toks : List (Nat × Nat × TypeId)) (tys : List TypeId) : Tr LR := Tr.ite (iLt n2 (iSub .i64 n 1)) (Tr.ite (okIx (iAdd .i64 n2 1) m) (Tr.ite (okCell [PV.sl [] .full] l2 (pOff o (nNat (iAdd .i64 n2 1)) 1)) (Tr.ite (okIx n2 m) (Tr.ite (okCell [PV.sl [] .full] l2 (pOff o (nNat n2) 1)) (Tr.ite (okIx n2 m) (Tr.ite (okOff l2 (pOff o (nNat n2) 1) 1) (Tr.ite (okIx (iAdd .i64 n2 1) m) (Tr.ite (okOff (putC l2 (pOff o (nNat n2) 1) [PV.sl (cRow l2 (pOff o (nNat (iAdd .i64 n2 1)) 1) 0) .non]) (pOff o (nNat (iAdd .i64 n2 1)) 1) 1) (Tr.ret (LR.next [PV.osl 1 o m 1, PV.int .i64 n, PV.int .i64 (iAdd .i64 n2 1)] (Store.mk (l :: putC (putC l2 (pOff o (nNat n2) 1) [PV.sl (cRow l2 (pOff o (nNat (iAdd .i64 n2 1)) 1) 0) .non]) (pOff o (nNat (iAdd .i64 n2 1)) 1) [PV.sl (cRow l2 (pOff o (nNat n2) 1) 0) .non] :: rest) toks (82 :: 1000023 :: tys)))) Tr.fail) Tr.fail) Tr.fail) Tr.fail) Tr.fail) Tr.fail) Tr.fail) Tr.fail) (Tr.ret (LR.out (.exit 2) [] (Store.mk (l :: l2 :: rest) toks (82 :: 1000023 :: tys))))
theorem sym2_T (o : Nat) (m : Nat) (n : Int) (n2 : Int) (l : List PV) (l2 : List PV) (rest : List (List PV)) (toks : List (Nat × Nat × TypeId)) (tys : List TypeId) : lstep tbT G_sym LI_sym2 c_sym2 I_sym2 [.osl 1 o m 1, .int .i64 n, .int .i64 n2] ⟨(l :: l2 :: rest), (toks), (82 :: 1000023 :: tys)⟩ = sym2_Tr o m n n2 l l2 rest toks tys := by kernel_rfl
theorem sym2_E (o : Nat) (m : Nat) (n : Int) (n2 : Int) (l : List PV) (l2 : List PV) (rest : List (List PV)) (toks : List (Nat × Nat × TypeId)) (tys : List TypeId) : sym2_V [.osl 1 o m 1, .int .i64 n, .int .i64 n2] ⟨(l :: l2 :: rest), (toks), (82 :: 1000023 :: tys)⟩ = lnext sym2_V (sym2_Tr o m n n2 l l2 rest toks tys).run := by unfold sym2_V; rw [lval_eq, sym2_T]
noncomputable def sym2_W (o : Nat) (m : Nat) (n : Int) (n2 : Int) (l : List PV) (l2 : List PV) (rest : List (List PV)) (toks : List (Nat × Nat × TypeId)) (tys : List TypeId) : Option (PExit × List PV × Store) := sym2_V [.osl 1 o m 1, .int .i64 n, .int .i64 n2] ⟨(l :: l2 :: rest), (toks), (82 :: 1000023 :: tys)⟩
noncomputable def sym2_l2 (o : Nat) (m : Nat) (n : Int) (n2 : Int) (l : List PV) (l2 : List PV) (rest : List (List PV)) (toks : List (Nat × Nat × TypeId)) (tys : List TypeId) : List PV := (gObj (sym2_W o m n n2 l l2 rest toks tys) 1)
noncomputable def sym2_is0 (o : Nat) (m : Nat) (n : Int) (n2 : Int) (l : List PV) (l2 : List PV) (rest : List (List PV)) (toks : List (Nat × Nat × TypeId)) (tys : List TypeId) : Bool := isW (sym2_W o m n n2 l l2 rest toks tys) ((.exit 2), [], ⟨(l :: (sym2_l2 o m n n2 l l2 rest toks tys) :: rest), (toks), (82 :: 1000023 :: tys)⟩)
noncomputable def sym2_prop : List PV → Store → Tr (PExit × List PV × Store) | [.osl 1 o m 1, .int .i64 n, .int .i64 n2], ⟨(l :: l2 :: rest), (toks), (82 :: 1000023 :: tys)⟩ => .ite (sym2_is0 o m n n2 l l2 rest toks tys) (.ret ((.exit 2), [], ⟨(l :: (sym2_l2 o m n n2 l l2 rest toks tys) :: rest), (toks), (82 :: 1000023 :: tys)⟩)) (.fail) | _, _ => .fail
theorem sym2_ok : ∀ vs σ r, (sym2_prop vs σ).run = some r → sym2_V vs σ = some r := by
  intro vs σ r h
  unfold sym2_prop at h
  split at h
  · exact ite_isW h fun h => by cases h
  · cases h
theorem loop_sym2 (gl : Nat → Option Obj) (hN : SimS Tryd.prog gl 120 fun args σ => (D_rec args σ).run) : ∀ fr σ e fr' σ', (orc I_sym2 sym2_prop fr σ).run = some (e, fr', σ') → LDoes Tryd.prog gl c_sym2 fr σ e fr' σ' := orc_ok tbT_ok (gok_sym gl hN ) noMixed (L := LI_sym2) (loopOk_none (by kernel_rfl)) (by kernel_rfl) sym2_ok
def I_sym3 : LI := ⟨220, [0, 2, 4, 14, 15], fun e => match e with | .exit 4 => [0, 2, 14] | _ => [], false⟩
noncomputable def LI_sym3 : LpsT := fun r fr σ => .fail
noncomputable def sym3_V (vs : List PV) (σ : Store) : Option (PExit × List PV × Store) := lval (lstep tbT G_sym LI_sym3 c_sym3 I_sym3) vs σ
noncomputable def sym3_Tr (o : Nat) (m : Nat) (n : Int) (n2 : Int) (n3 : Int) (l : List PV) (l2 : List PV) (rest : List (List PV)) (toks : List (Nat × Nat × TypeId)) (tys : List TypeId) : Tr LR := Tr.ite (iLt n2 n3) (Tr.ite (okIx n m) (Tr.ite (okCell [PV.sl [] .full] l2 (pOff o (nNat n) 1)) (Tr.ite (okIx (iWrap .i64 (iShr .u64 (iWrap .u64 (iAdd .i64 n2 n3)) 1)) m) (Tr.ite (okCell [PV.sl [] .full] l2 (pOff o (nNat (iWrap .i64 (iShr .u64 (iWrap .u64 (iAdd .i64 n2 n3)) 1))) 1)) (Tr.ite (okR cV (lockLL (lockLL (cRow l2 (pOff o (nNat n) 1) 0)))) (Tr.ite (okR cV (lockLL (lockLL (cRow l2 (pOff o (nNat (iWrap .i64 (iShr .u64 (iWrap .u64 (iAdd .i64 n2 n3)) 1))) 1) 0)))) (Tr.ite (bNot (iLt (cmpTV (lockLL (lockLL (cRow l2 (pOff o (nNat n) 1) 0))) (lockLL (lockLL (cRow l2 (pOff o (nNat (iWrap .i64 (iShr .u64 (iWrap .u64 (iAdd .i64 n2 n3)) 1))) 1) 0)))) 0)) (Tr.ret (LR.next [PV.osl 1 o m 1, PV.int .i64 n, PV.fn 16 [], PV.int .i64 (iAdd .i64 (iWrap .i64 (iShr .u64 (iWrap .u64 (iAdd .i64 n2 n3)) 1)) 1), PV.int .i64 n3] (Store.mk (l :: l2 :: rest) toks (82 :: 1000023 :: tys)))) (Tr.ret (LR.next [PV.osl 1 o m 1, PV.int .i64 n, PV.fn 16 [], PV.int .i64 n2, PV.int .i64 (iWrap .i64 (iShr .u64 (iWrap .u64 (iAdd .i64 n2 n3)) 1))] (Store.mk (l :: l2 :: rest) toks (82 :: 1000023 :: tys))))) Tr.fail) Tr.fail) Tr.fail) Tr.fail) Tr.fail) Tr.fail) (Tr.ret (LR.out (.exit 4) [PV.osl 1 o m 1, PV.int .i64 n, PV.int .i64 n2] (Store.mk (l :: l2 :: rest) toks (82 :: 1000023 :: tys))))
theorem sym3_T (o : Nat) (m : Nat) (n : Int) (n2 : Int) (n3 : Int) (l : List PV) (l2 : List PV) (rest : List (List PV)) (toks : List (Nat × Nat × TypeId)) (tys : List TypeId) : lstep tbT G_sym LI_sym3 c_sym3 I_sym3 [.osl 1 o m 1, .int .i64 n, .fn 16 [], .int .i64 n2, .int .i64 n3] ⟨(l :: l2 :: rest), (toks), (82 :: 1000023 :: tys)⟩ = sym3_Tr o m n n2 n3 l l2 rest toks tys := by kernel_rfl
theorem sym3_E (o : Nat) (m : Nat) (n : Int) (n2 : Int) (n3 : Int) (l : List PV) (l2 : List PV) (rest : List (List PV)) (toks : List (Nat × Nat × TypeId)) (tys : List TypeId) : sym3_V [.osl 1 o m 1, .int .i64 n, .fn 16 [], .int .i64 n2, .int .i64 n3] ⟨(l :: l2 :: rest), (toks), (82 :: 1000023 :: tys)⟩ = lnext sym3_V (sym3_Tr o m n n2 n3 l l2 rest toks tys).run := by unfold sym3_V; rw [lval_eq, sym3_T]
noncomputable def sym3_W (o : Nat) (m : Nat) (n : Int) (n2 : Int) (n3 : Int) (l : List PV) (l2 : List PV) (rest : List (List PV)) (toks : List (Nat × Nat × TypeId)) (tys : List TypeId) : Option (PExit × List PV × Store) := sym3_V [.osl 1 o m 1, .int .i64 n, .fn 16 [], .int .i64 n2, .int .i64 n3] ⟨(l :: l2 :: rest), (toks), (82 :: 1000023 :: tys)⟩
noncomputable def sym3_n2 (o : Nat) (m : Nat) (n : Int) (n2 : Int) (n3 : Int) (l : List PV) (l2 : List PV) (rest : List (List PV)) (toks : List (Nat × Nat × TypeId)) (tys : List TypeId) : Int := (gInt (gOut (sym3_W o m n n2 n3 l l2 rest toks tys) 2))
noncomputable def sym3_l2 (o : Nat) (m : Nat) (n : Int) (n2 : Int) (n3 : Int) (l : List PV) (l2 : List PV) (rest : List (List PV)) (toks : List (Nat × Nat × TypeId)) (tys : List TypeId) : List PV := (gObj (sym3_W o m n n2 n3 l l2 rest toks tys) 1)
noncomputable def sym3_is0 (o : Nat) (m : Nat) (n : Int) (n2 : Int) (n3 : Int) (l : List PV) (l2 : List PV) (rest : List (List PV)) (toks : List (Nat × Nat × TypeId)) (tys : List TypeId) : Bool := isW (sym3_W o m n n2 n3 l l2 rest toks tys) ((.exit 4), [.osl 1 o m 1, .int .i64 n, .int .i64 (sym3_n2 o m n n2 n3 l l2 rest toks tys)], ⟨(l :: (sym3_l2 o m n n2 n3 l l2 rest toks tys) :: rest), (toks), (82 :: 1000023 :: tys)⟩)
noncomputable def sym3_prop : List PV → Store → Tr (PExit × List PV × Store) | [.osl 1 o m 1, .int .i64 n, .fn 16 [], .int .i64 n2, .int .i64 n3], ⟨(l :: l2 :: rest), (toks), (82 :: 1000023 :: tys)⟩ => .ite (sym3_is0 o m n n2 n3 l l2 rest toks tys) (.ret ((.exit 4), [.osl 1 o m 1, .int .i64 n, .int .i64 (sym3_n2 o m n n2 n3 l l2 rest toks tys)], ⟨(l :: (sym3_l2 o m n n2 n3 l l2 rest toks tys) :: rest), (toks), (82 :: 1000023 :: tys)⟩)) (.fail) | _, _ => .fail
theorem sym3_ok : ∀ vs σ r, (sym3_prop vs σ).run = some r → sym3_V vs σ = some r := by
  intro vs σ r h
  unfold sym3_prop at h
  split at h
  · exact ite_isW h fun h => by cases h
  · cases h
theorem loop_sym3 (gl : Nat → Option Obj) (hN : SimS Tryd.prog gl 120 fun args σ => (D_rec args σ).run) : ∀ fr σ e fr' σ', (orc I_sym3 sym3_prop fr σ).run = some (e, fr', σ') → LDoes Tryd.prog gl c_sym3 fr σ e fr' σ' := orc_ok tbT_ok (gok_sym gl hN ) noMixed (L := LI_sym3) (loopOk_none (by kernel_rfl)) (by kernel_rfl) sym3_ok
def I_sym4 : LI := ⟨220, [0, 14, 17], fun e => match e with | .exit 6 => [] | _ => [], false⟩
noncomputable def LI_sym4 : LpsT := fun r fr σ => .fail
noncomputable def sym4_V (vs : List PV) (σ : Store) : Option (PExit × List PV × Store) := lval (lstep tbT G_sym LI_sym4 c_sym4 I_sym4) vs σ
noncomputable def sym4_Tr (o : Nat) (m : Nat) (n : Int) (n2 : Int) (l : List PV) (l2 : List PV) (rest : List (List PV)) (toks : List (Nat × Nat × TypeId)) (tys : List TypeId) : Tr LR := Tr.ite (iLt n n2) (Tr.ite (okIx (iSub .i64 n2 1) m) (Tr.ite (okCell [PV.sl [] .full] l2 (pOff o (nNat (iSub .i64 n2 1)) 1)) (Tr.ite (okIx n2 m) (Tr.ite (okCell [PV.sl [] .full] l2 (pOff o (nNat n2) 1)) (Tr.ite (okIx n2 m) (Tr.ite (okOff l2 (pOff o (nNat n2) 1) 1) (Tr.ite (okIx (iSub .i64 n2 1) m) (Tr.ite (okOff (putC l2 (pOff o (nNat n2) 1) [PV.sl (cRow l2 (pOff o (nNat (iSub .i64 n2 1)) 1) 0) .non]) (pOff o (nNat (iSub .i64 n2 1)) 1) 1) (Tr.ret (LR.next [PV.osl 1 o m 1, PV.int .i64 n, PV.int .i64 (iSub .i64 n2 1)] (Store.mk (l :: putC (putC l2 (pOff o (nNat n2) 1) [PV.sl (cRow l2 (pOff o (nNat (iSub .i64 n2 1)) 1) 0) .non]) (pOff o (nNat (iSub .i64 n2 1)) 1) [PV.sl (cRow l2 (pOff o (nNat n2) 1) 0) .non] :: rest) toks (82 :: 1000023 :: tys)))) Tr.fail) Tr.fail) Tr.fail) Tr.fail) Tr.fail) Tr.fail) Tr.fail) Tr.fail) (Tr.ret (LR.out (.exit 6) [] (Store.mk (l :: l2 :: rest) toks (82 :: 1000023 :: tys))))
theorem sym4_T (o : Nat) (m : Nat) (n : Int) (n2 : Int) (l : List PV) (l2 : List PV) (rest : List (List PV)) (toks : List (Nat × Nat × TypeId)) (tys : List TypeId) : lstep tbT G_sym LI_sym4 c_sym4 I_sym4 [.osl 1 o m 1, .int .i64 n, .int .i64 n2] ⟨(l :: l2 :: rest), (toks), (82 :: 1000023 :: tys)⟩ = sym4_Tr o m n n2 l l2 rest toks tys := by kernel_rfl
theorem sym4_E (o : Nat) (m : Nat) (n : Int) (n2 : Int) (l : List PV) (l2 : List PV) (rest : List (List PV)) (toks : List (Nat × Nat × TypeId)) (tys : List TypeId) : sym4_V [.osl 1 o m 1, .int .i64 n, .int .i64 n2] ⟨(l :: l2 :: rest), (toks), (82 :: 1000023 :: tys)⟩ = lnext sym4_V (sym4_Tr o m n n2 l l2 rest toks tys).run := by unfold sym4_V; rw [lval_eq, sym4_T]
noncomputable def sym4_W (o : Nat) (m : Nat) (n : Int) (n2 : Int) (l : List PV) (l2 : List PV) (rest : List (List PV)) (toks : List (Nat × Nat × TypeId)) (tys : List TypeId) : Option (PExit × List PV × Store) := sym4_V [.osl 1 o m 1, .int .i64 n, .int .i64 n2] ⟨(l :: l2 :: rest), (toks), (82 :: 1000023 :: tys)⟩
noncomputable def sym4_l2 (o : Nat) (m : Nat) (n : Int) (n2 : Int) (l : List PV) (l2 : List PV) (rest : List (List PV)) (toks : List (Nat × Nat × TypeId)) (tys : List TypeId) : List PV := (gObj (sym4_W o m n n2 l l2 rest toks tys) 1)
noncomputable def sym4_is0 (o : Nat) (m : Nat) (n : Int) (n2 : Int) (l : List PV) (l2 : List PV) (rest : List (List PV)) (toks : List (Nat × Nat × TypeId)) (tys : List TypeId) : Bool := isW (sym4_W o m n n2 l l2 rest toks tys) ((.exit 6), [], ⟨(l :: (sym4_l2 o m n n2 l l2 rest toks tys) :: rest), (toks), (82 :: 1000023 :: tys)⟩)
noncomputable def sym4_prop : List PV → Store → Tr (PExit × List PV × Store) | [.osl 1 o m 1, .int .i64 n, .int .i64 n2], ⟨(l :: l2 :: rest), (toks), (82 :: 1000023 :: tys)⟩ => .ite (sym4_is0 o m n n2 l l2 rest toks tys) (.ret ((.exit 6), [], ⟨(l :: (sym4_l2 o m n n2 l l2 rest toks tys) :: rest), (toks), (82 :: 1000023 :: tys)⟩)) (.fail) | _, _ => .fail
theorem sym4_ok : ∀ vs σ r, (sym4_prop vs σ).run = some r → sym4_V vs σ = some r := by
  intro vs σ r h
  unfold sym4_prop at h
  split at h
  · exact ite_isW h fun h => by cases h
  · cases h
theorem loop_sym4 (gl : Nat → Option Obj) (hN : SimS Tryd.prog gl 120 fun args σ => (D_rec args σ).run) : ∀ fr σ e fr' σ', (orc I_sym4 sym4_prop fr σ).run = some (e, fr', σ') → LDoes Tryd.prog gl c_sym4 fr σ e fr' σ' := orc_ok tbT_ok (gok_sym gl hN ) noMixed (L := LI_sym4) (loopOk_none (by kernel_rfl)) (by kernel_rfl) sym4_ok
def I_sym5 : LI := ⟨220, [0, 1, 2, 3, 4, 18, 19, 20, 21, 22], fun e => match e with | .exit 8 => [0, 1, 2, 3, 4, 18, 19, 20] | _ => [], false⟩
noncomputable def LI_sym5 : LpsT := fun r fr σ => .fail
noncomputable def sym5_V (vs : List PV) (σ : Store) : Option (PExit × List PV × Store) := lval (lstep tbT G_sym LI_sym5 c_sym5 I_sym5) vs σ
noncomputable def sym5_Tr (o : Nat) (m : Nat) (n : Int) (n2 : Int) (n3 : Int) (n4 : Int) (n5 : Int) (n6 : Int) (n7 : Int) (n8 : Int) (l : List PV) (l2 : List PV) (rest : List (List PV)) (toks : List (Nat × Nat × TypeId)) (tys : List TypeId) : Tr LR := Tr.ite (iLt n6 n7) (Tr.ite (okIx (iSub .i64 n8 (iWrap .i64 (iShr .u64 (iWrap .u64 (iAdd .i64 n6 n7)) 1))) m) (Tr.ite (okCell [PV.sl [] .full] l2 (pOff o (nNat (iSub .i64 n8 (iWrap .i64 (iShr .u64 (iWrap .u64 (iAdd .i64 n6 n7)) 1)))) 1)) (Tr.ite (okIx (iWrap .i64 (iShr .u64 (iWrap .u64 (iAdd .i64 n6 n7)) 1)) m) (Tr.ite (okCell [PV.sl [] .full] l2 (pOff o (nNat (iWrap .i64 (iShr .u64 (iWrap .u64 (iAdd .i64 n6 n7)) 1))) 1)) (Tr.ite (okR cV (lockLL (lockLL (cRow l2 (pOff o (nNat (iSub .i64 n8 (iWrap .i64 (iShr .u64 (iWrap .u64 (iAdd .i64 n6 n7)) 1)))) 1) 0)))) (Tr.ite (okR cV (lockLL (lockLL (cRow l2 (pOff o (nNat (iWrap .i64 (iShr .u64 (iWrap .u64 (iAdd .i64 n6 n7)) 1))) 1) 0)))) (Tr.ite (bNot (iLt (cmpTV (lockLL (lockLL (cRow l2 (pOff o (nNat (iSub .i64 n8 (iWrap .i64 (iShr .u64 (iWrap .u64 (iAdd .i64 n6 n7)) 1)))) 1) 0))) (lockLL (lockLL (cRow l2 (pOff o (nNat (iWrap .i64 (iShr .u64 (iWrap .u64 (iAdd .i64 n6 n7)) 1))) 1) 0)))) 0)) (Tr.ret (LR.next [PV.osl 1 o m 1, PV.int .i64 n, PV.int .i64 n2, PV.int .i64 n3, PV.fn 16 [], PV.int .i64 n4, PV.int .i64 n5, PV.int .i64 (iAdd .i64 (iWrap .i64 (iShr .u64 (iWrap .u64 (iAdd .i64 n6 n7)) 1)) 1), PV.int .i64 n7, PV.int .i64 n8] (Store.mk (l :: l2 :: rest) toks (82 :: 1000023 :: tys)))) (Tr.ret (LR.next [PV.osl 1 o m 1, PV.int .i64 n, PV.int .i64 n2, PV.int .i64 n3, PV.fn 16 [], PV.int .i64 n4, PV.int .i64 n5, PV.int .i64 n6, PV.int .i64 (iWrap .i64 (iShr .u64 (iWrap .u64 (iAdd .i64 n6 n7)) 1)), PV.int .i64 n8] (Store.mk (l :: l2 :: rest) toks (82 :: 1000023 :: tys))))) Tr.fail) Tr.fail) Tr.fail) Tr.fail) Tr.fail) Tr.fail) (Tr.ret (LR.out (.exit 8) [PV.osl 1 o m 1, PV.int .i64 n, PV.int .i64 n2, PV.int .i64 n3, PV.fn 16 [], PV.int .i64 n4, PV.int .i64 n5, PV.int .i64 n6]
 (Store.mk (l :: l2 :: rest) toks (82 :: 1000023 :: tys))))
theorem sym5_T (o : Nat) (m : Nat) (n : Int) (n2 : Int) (n3 : Int) (n4 : Int) (n5 : Int) (n6 : Int) (n7 : Int) (n8 : Int) (l : List PV) (l2 : List PV) (rest : List (List PV)) (toks : List (Nat × Nat × TypeId)) (tys : List TypeId) : lstep tbT G_sym LI_sym5 c_sym5 I_sym5 [.osl 1 o m 1, .int .i64 n, .int .i64 n2, .int .i64 n3, .fn 16 [], .int .i64 n4, .int .i64 n5, .int .i64 n6, .int .i64 n7, .int .i64 n8] ⟨(l :: l2 :: rest), (toks), (82 :: 1000023 :: tys)⟩ = sym5_Tr o m n n2 n3 n4 n5 n6 n7 n8 l l2 rest toks tys := by kernel_rfl
theorem sym5_E (o : Nat) (m : Nat) (n : Int) (n2 : Int) (n3 : Int) (n4 : Int) (n5 : Int) (n6 : Int) (n7 : Int) (n8 : Int) (l : List PV) (l2 : List PV) (rest : List (List PV)) (toks : List (Nat × Nat × TypeId)) (tys : List TypeId) : sym5_V [.osl 1 o m 1, .int .i64 n, .int .i64 n2, .int .i64 n3, .fn 16 [], .int .i64 n4, .int .i64 n5, .int .i64 n6, .int .i64 n7, .int .i64 n8] ⟨(l :: l2 :: rest), (toks), (82 :: 1000023 :: tys)⟩ = lnext sym5_V (sym5_Tr o m n n2 n3 n4 n5 n6 n7 n8 l l2 rest toks tys).run := by unfold sym5_V; rw [lval_eq, sym5_T]
noncomputable def sym5_W (o : Nat) (m : Nat) (n : Int) (n2 : Int) (n3 : Int) (n4 : Int) (n5 : Int) (n6 : Int) (n7 : Int) (n8 : Int) (l : List PV) (l2 : List PV) (rest : List (List PV)) (toks : List (Nat × Nat × TypeId)) (tys : List TypeId) : Option (PExit × List PV × Store) := sym5_V [.osl 1 o m 1, .int .i64 n, .int .i64 n2, .int .i64 n3, .fn 16 [], .int .i64 n4, .int .i64 n5, .int .i64 n6, .int .i64 n7, .int .i64 n8] ⟨(l :: l2 :: rest), (toks), (82 :: 1000023 :: tys)⟩
noncomputable def sym5_n6 (o : Nat) (m : Nat) (n : Int) (n2 : Int) (n3 : Int) (n4 : Int) (n5 : Int) (n6 : Int) (n7 : Int) (n8 : Int) (l : List PV) (l2 : List PV) (rest : List (List PV)) (toks : List (Nat × Nat × TypeId)) (tys : List TypeId) : Int := (gInt (gOut (sym5_W o m n n2 n3 n4 n5 n6 n7 n8 l l2 rest toks tys) 7))
noncomputable def sym5_l2 (o : Nat) (m : Nat) (n : Int) (n2 : Int) (n3 : Int) (n4 : Int) (n5 : Int) (n6 : Int) (n7 : Int) (n8 : Int) (l : List PV) (l2 : List PV) (rest : List (List PV)) (toks : List (Nat × Nat × TypeId)) (tys : List TypeId) : List PV := (gObj (sym5_W o m n n2 n3 n4 n5 n6 n7 n8 l l2 rest toks tys) 1)
noncomputable def sym5_is0 (o : Nat) (m : Nat) (n : Int) (n2 : Int) (n3 : Int) (n4 : Int) (n5 : Int) (n6 : Int) (n7 : Int) (n8 : Int) (l : List PV) (l2 : List PV) (rest : List (List PV)) (toks : List (Nat × Nat × TypeId)) (tys : List TypeId) : Bool := isW (sym5_W o m n n2 n3 n4 n5 n6 n7 n8 l l2 rest toks tys) ((.exit 8), [.osl 1 o m 1, .int .i64 n, .int .i64 n2, .int .i64 n3, .fn 16 [], .int .i64 n4, .int .i64 n5, .int .i64 (sym5_n6 o m n n2 n3 n4 n5 n6 n7 n8 l l2 rest toks tys)], ⟨(l :: (sym5_l2 o m n n2 n3 n4 n5 n6 n7 n8 l l2 rest toks tys) :: rest), (toks), (82 :: 1000023 :: tys)⟩)
noncomputable def sym5_prop : List PV → Store → Tr (PExit × List PV × Store) | [.osl 1 o m 1, .int .i64 n, .int .i64 n2, .int .i64 n3, .fn 16 [], .int .i64 n4, .int .i64 n5, .int .i64 n6, .int .i64 n7, .int .i64 n8], ⟨(l :: l2 :: rest), (toks), (82 :: 1000023 :: tys)⟩ => .ite (sym5_is0 o m n n2 n3 n4 n5 n6 n7 n8 l l2 rest toks tys) (.ret ((.exit 8), [.osl 1 o m 1, .int .i64 n, .int .i64 n2, .int .i64 n3, .fn 16 [], .int .i64 n4, .int .i64 n5, .int .i64 (sym5_n6 o m n n2 n3 n4 n5 n6 n7 n8 l l2 rest toks tys)], ⟨(l :: (sym5_l2 o m n n2 n3 n4 n5 n6 n7 n8 l l2 rest toks tys) :: rest), (toks), (82 :: 1000023 :: tys)⟩)) (.fail) | _, _ => .fail
theorem sym5_ok : ∀ vs σ r, (sym5_prop vs σ).run = some r → sym5_V vs σ = some r := by
  intro vs σ r h
  unfold sym5_prop at h
  split at h
  · exact ite_isW h fun h => by cases h
  · cases h
theorem loop_sym5 (gl : Nat → Option Obj) (hN : SimS Tryd.prog gl 120 fun args σ => (D_rec args σ).run) : ∀ fr σ e fr' σ', (orc I_sym5 sym5_prop fr σ).run = some (e, fr', σ') → LDoes Tryd.prog gl c_sym5 fr σ e fr' σ' := orc_ok tbT_ok (gok_sym gl hN ) noMixed (L := LI_sym5) (loopOk_none (by kernel_rfl)) (by kernel_rfl) sym5_ok
noncomputable def L_sym : LpsT := fun r fr σ => bif Nat.beq r 3 then orc I_sym1 sym1_prop fr σ else bif Nat.beq r 9 then orc I_sym2 sym2_prop fr σ else bif Nat.beq r 15 then orc I_sym3 sym3_prop fr σ else bif Nat.beq r 21 then orc I_sym4 sym4_prop fr σ else bif Nat.beq r 33 then orc I_sym5 sym5_prop fr σ else .fail
noncomputable def sym_Tr (off : Nat) (len : Nat) (a : Int) (m : Int) (b : Int) (c0 : List PV) (cs : List PV) (rest : List (List PV)) (toks : List (Nat × Nat × TypeId)) (tys : List TypeId) : Tr (PV × Store) := Tr.ite (iEq (iSub .i64 m a) 1) (Tr.ite (sym1_is0 off len a m b c0 cs rest toks tys) (Tr.ite (sym2_is0 off len (sym1_n2 off len a m b c0 cs rest toks tys) a c0 (sym1_l2 off len a m b c0 cs rest toks tys) rest toks tys) (Tr.ret (PV.tup [], Store.mk (c0 :: sym2_l2 off len (sym1_n2 off len a m b c0 cs rest toks tys) a c0 (sym1_l2 off len a m b c0 cs rest toks tys) rest toks tys :: rest) toks (82 :: 1000023 :: tys))) Tr.fail) Tr.fail) (Tr.ite (iEq (iSub .i64 b m) 1) (Tr.ite (sym3_is0 off len m a m c0 cs rest toks tys) (Tr.ite (sym4_is0 off len (sym3_n2 off len m a m c0 cs rest toks tys) m c0 (sym3_l2 off len m a m c0 cs rest toks tys) rest toks tys) (Tr.ret (PV.tup [], Store.mk (c0 :: sym4_l2 off len (sym3_n2 off len m a m c0 cs rest toks tys) m c0 (sym3_l2 off len m a m c0 cs rest toks tys) rest toks tys :: rest) toks (82 :: 1000023 :: tys))) Tr.fail) Tr.fail) (Tr.ite (iLt (iWrap .i64 (iShr .u64 (iWrap .u64 (iAdd .i64 a b)) 1)) m) (Tr.ite (sym5_is0 off len a m b (iWrap .i64 (iShr .u64 (iWrap .u64 (iAdd .i64 a b)) 1)) (iAdd .i64 (iWrap .i64 (iShr .u64 (iWrap .u64 (iAdd .i64 a b)) 1)) m) (iSub .i64 (iAdd .i64 (iWrap .i64 (iShr .u64 (iWrap .u64 (iAdd .i64 a b)) 1)) m) b) (iWrap .i64 (iShr .u64 (iWrap .u64 (iAdd .i64 a b)) 1)) (iSub .i64 (iAdd .i64 (iWrap .i64 (iShr .u64 (iWrap .u64 (iAdd .i64 a b)) 1)) m) 1) c0 cs rest toks tys) (Tr.ite (iLt (sym5_n6 off len a m b (iWrap .i64 (iShr .u64 (iWrap .u64 (iAdd .i64 a b)) 1)) (iAdd .i64 (iWrap .i64 (iShr .u64 (iWrap .u64 (iAdd .i64 a b)) 1)) m) (iSub .i64 (iAdd .i64 (iWrap .i64 (iShr .u64 (iWrap .u64 (iAdd .i64 a b)) 1)) m) b) (iWrap .i64 (iShr .u64 (iWrap .u64 (iAdd .i64 a b)) 1)) (iSub .i64 (iAdd .i64 (iWrap .i64 (iShr .u64 (iWrap .u64 (iAdd .i64 a b)) 1)) m) 1) c0 cs rest toks tys) m) (Tr.ite (iLt m
 (iSub .i64 (iAdd .i64 (iWrap .i64 (iShr .u64 (iWrap .u64 (iAdd .i64 a b)) 1)) m) (sym5_n6 off len a m b (iWrap .i64 (iShr .u64 (iWrap .u64 (iAdd .i64 a b)) 1)) (iAdd .i64 (iWrap .i64 (iShr .u64 (iWrap .u64 (iAdd .i64 a b)) 1)) m) (iSub .i64 (iAdd .i64 (iWrap .i64 (iShr .u64 (iWrap .u64 (iAdd .i64 a b)) 1)) m) b) (iWrap .i64 (iShr .u64 (iWrap .u64 (iAdd .i64 a b)) 1)) (iSub .i64 (iAdd .i64 (iWrap .i64 (iShr .u64 (iWrap .u64 (iAdd .i64 a b)) 1)) m) 1) c0 cs rest toks tys))) (Tr.ite (rot_is0 off len (sym5_n6 off len a m b (iWrap .i64 (iShr .u64 (iWrap .u64 (iAdd .i64 a b)) 1)) (iAdd .i64 (iWrap .i64 (iShr .u64 (iWrap .u64 (iAdd .i64 a b)) 1)) m) (iSub .i64 (iAdd .i64 (iWrap .i64 (iShr .u64 (iWrap .u64 (iAdd .i64 a b)) 1)) m) b) (iWrap .i64 (iShr .u64 (iWrap .u64 (iAdd .i64 a b)) 1)) (iSub .i64 (iAdd .i64 (iWrap .i64 (iShr .u64 (iWrap .u64 (iAdd .i64 a b)) 1)) m) 1) c0 cs rest toks tys) m (iSub .i64 (iAdd .i64 (iWrap .i64 (iShr .u64 (iWrap .u64 (iAdd .i64 a b)) 1)) m) (sym5_n6 off len a m b (iWrap .i64 (iShr .u64 (iWrap .u64 (iAdd .i64 a b)) 1)) (iAdd .i64 (iWrap .i64 (iShr .u64 (iWrap .u64 (iAdd .i64 a b)) 1)) m) (iSub .i64 (iAdd .i64 (iWrap .i64 (iShr .u64 (iWrap .u64 (iAdd .i64 a b)) 1)) m) b) (iWrap .i64 (iShr .u64 (iWrap .u64 (iAdd .i64 a b)) 1)) (iSub .i64 (iAdd .i64 (iWrap .i64 (iShr .u64 (iWrap .u64 (iAdd .i64 a b)) 1)) m) 1) c0 cs rest toks tys)) c0 (sym5_l2 off len a m b (iWrap .i64 (iShr .u64 (iWrap .u64 (iAdd .i64 a b)) 1)) (iAdd .i64 (iWrap .i64 (iShr .u64 (iWrap .u64 (iAdd .i64 a b)) 1)) m) (iSub .i64 (iAdd .i64 (iWrap .i64 (iShr .u64 (iWrap .u64 (iAdd .i64 a b)) 1)) m) b) (iWrap .i64 (iShr .u64 (iWrap .u64 (iAdd .i64 a b)) 1)) (iSub .i64 (iAdd .i64 (iWrap .i64 (iShr .u64 (iWrap .u64 (iAdd .i64 a b)) 1)) m) 1) c0 cs rest toks tys) rest toks tys) (Tr.ite (iLt a (sym5_n6 off len a m b (iWrap .i64 (iShr .u64 (iWrap .u64 (iAdd .i64 a b)) 1)) (iAdd .i64 (iWrap .i64 (iShr .u64 (iWrap .u64 (iAdd .i64 a b)) 1)) m)
 (iSub .i64 (iAdd .i64 (iWrap .i64 (iShr .u64 (iWrap .u64 (iAdd .i64 a b)) 1)) m) b) (iWrap .i64 (iShr .u64 (iWrap .u64 (iAdd .i64 a b)) 1)) (iSub .i64 (iAdd .i64 (iWrap .i64 (iShr .u64 (iWrap .u64 (iAdd .i64 a b)) 1)) m) 1) c0 cs rest toks tys)) (Tr.ite (iLt (sym5_n6 off len a m b (iWrap .i64 (iShr .u64 (iWrap .u64 (iAdd .i64 a b)) 1)) (iAdd .i64 (iWrap .i64 (iShr .u64 (iWrap .u64 (iAdd .i64 a b)) 1)) m) (iSub .i64 (iAdd .i64 (iWrap .i64 (iShr .u64 (iWrap .u64 (iAdd .i64 a b)) 1)) m) b) (iWrap .i64 (iShr .u64 (iWrap .u64 (iAdd .i64 a b)) 1)) (iSub .i64 (iAdd .i64 (iWrap .i64 (iShr .u64 (iWrap .u64 (iAdd .i64 a b)) 1)) m) 1) c0 cs rest toks tys) (iWrap .i64 (iShr .u64 (iWrap .u64 (iAdd .i64 a b)) 1))) (Tr.ite (rec_is0 off len a (sym5_n6 off len a m b (iWrap .i64 (iShr .u64 (iWrap .u64 (iAdd .i64 a b)) 1)) (iAdd .i64 (iWrap .i64 (iShr .u64 (iWrap .u64 (iAdd .i64 a b)) 1)) m) (iSub .i64 (iAdd .i64 (iWrap .i64 (iShr .u64 (iWrap .u64 (iAdd .i64 a b)) 1)) m) b) (iWrap .i64 (iShr .u64 (iWrap .u64 (iAdd .i64 a b)) 1)) (iSub .i64 (iAdd .i64 (iWrap .i64 (iShr .u64 (iWrap .u64 (iAdd .i64 a b)) 1)) m) 1) c0 cs rest toks tys) (iWrap .i64 (iShr .u64 (iWrap .u64 (iAdd .i64 a b)) 1)) c0 (rot_l2 off len (sym5_n6 off len a m b (iWrap .i64 (iShr .u64 (iWrap .u64 (iAdd .i64 a b)) 1)) (iAdd .i64 (iWrap .i64 (iShr .u64 (iWrap .u64 (iAdd .i64 a b)) 1)) m) (iSub .i64 (iAdd .i64 (iWrap .i64 (iShr .u64 (iWrap .u64 (iAdd .i64 a b)) 1)) m) b) (iWrap .i64 (iShr .u64 (iWrap .u64 (iAdd .i64 a b)) 1)) (iSub .i64 (iAdd .i64 (iWrap .i64 (iShr .u64 (iWrap .u64 (iAdd .i64 a b)) 1)) m) 1) c0 cs rest toks tys) m (iSub .i64 (iAdd .i64 (iWrap .i64 (iShr .u64 (iWrap .u64 (iAdd .i64 a b)) 1)) m) (sym5_n6 off len a m b (iWrap .i64 (iShr .u64 (iWrap .u64 (iAdd .i64 a b)) 1)) (iAdd .i64 (iWrap .i64 (iShr .u64 (iWrap .u64 (iAdd .i64 a b)) 1)) m) (iSub .i64 (iAdd .i64 (iWrap .i64 (iShr .u64 (iWrap .u64 (iAdd .i64 a b)) 1)) m) b) (iWrap .i64 (iShr .u64 (iWrap .u64 (iAdd .i64 a b)) 1))
 (iSub .i64 (iAdd .i64 (iWrap .i64 (iShr .u64 (iWrap .u64 (iAdd .i64 a b)) 1)) m) 1) c0 cs rest toks tys)) c0 (sym5_l2 off len a m b (iWrap .i64 (iShr .u64 (iWrap .u64 (iAdd .i64 a b)) 1)) (iAdd .i64 (iWrap .i64 (iShr .u64 (iWrap .u64 (iAdd .i64 a b)) 1)) m) (iSub .i64 (iAdd .i64 (iWrap .i64 (iShr .u64 (iWrap .u64 (iAdd .i64 a b)) 1)) m) b) (iWrap .i64 (iShr .u64 (iWrap .u64 (iAdd .i64 a b)) 1)) (iSub .i64 (iAdd .i64 (iWrap .i64 (iShr .u64 (iWrap .u64 (iAdd .i64 a b)) 1)) m) 1) c0 cs rest toks tys) rest toks tys) rest toks tys) (Tr.ite (iLt (iWrap .i64 (iShr .u64 (iWrap .u64 (iAdd .i64 a b)) 1)) (iSub .i64 (iAdd .i64 (iWrap .i64 (iShr .u64 (iWrap .u64 (iAdd .i64 a b)) 1)) m) (sym5_n6 off len a m b (iWrap .i64 (iShr .u64 (iWrap .u64 (iAdd .i64 a b)) 1)) (iAdd .i64 (iWrap .i64 (iShr .u64 (iWrap .u64 (iAdd .i64 a b)) 1)) m) (iSub .i64 (iAdd .i64 (iWrap .i64 (iShr .u64 (iWrap .u64 (iAdd .i64 a b)) 1)) m) b) (iWrap .i64 (iShr .u64 (iWrap .u64 (iAdd .i64 a b)) 1)) (iSub .i64 (iAdd .i64 (iWrap .i64 (iShr .u64 (iWrap .u64 (iAdd .i64 a b)) 1)) m) 1) c0 cs rest toks tys))) (Tr.ite (iLt (iSub .i64 (iAdd .i64 (iWrap .i64 (iShr .u64 (iWrap .u64 (iAdd .i64 a b)) 1)) m) (sym5_n6 off len a m b (iWrap .i64 (iShr .u64 (iWrap .u64 (iAdd .i64 a b)) 1)) (iAdd .i64 (iWrap .i64 (iShr .u64 (iWrap .u64 (iAdd .i64 a b)) 1)) m) (iSub .i64 (iAdd .i64 (iWrap .i64 (iShr .u64 (iWrap .u64 (iAdd .i64 a b)) 1)) m) b) (iWrap .i64 (iShr .u64 (iWrap .u64 (iAdd .i64 a b)) 1)) (iSub .i64 (iAdd .i64 (iWrap .i64 (iShr .u64 (iWrap .u64 (iAdd .i64 a b)) 1)) m) 1) c0 cs rest toks tys)) b) (Tr.ite (rec_is0 off len (iWrap .i64 (iShr .u64 (iWrap .u64 (iAdd .i64 a b)) 1)) (iSub .i64 (iAdd .i64 (iWrap .i64 (iShr .u64 (iWrap .u64 (iAdd .i64 a b)) 1)) m) (sym5_n6 off len a m b (iWrap .i64 (iShr .u64 (iWrap .u64 (iAdd .i64 a b)) 1)) (iAdd .i64 (iWrap .i64 (iShr .u64 (iWrap .u64 (iAdd .i64 a b)) 1)) m) (iSub .i64 (iAdd .i64 (iWrap .i64 (iShr .u64 (iWrap .u64 (iAdd .i64 a b)) 1)) m) b)
 (iWrap .i64 (iShr .u64 (iWrap .u64 (iAdd .i64 a b)) 1)) (iSub .i64 (iAdd .i64 (iWrap .i64 (iShr .u64 (iWrap .u64 (iAdd .i64 a b)) 1)) m) 1) c0 cs rest toks tys)) b c0 (rec_l off len a (sym5_n6 off len a m b (iWrap .i64 (iShr .u64 (iWrap .u64 (iAdd .i64 a b)) 1)) (iAdd .i64 (iWrap .i64 (iShr .u64 (iWrap .u64 (iAdd .i64 a b)) 1)) m) (iSub .i64 (iAdd .i64 (iWrap .i64 (iShr .u64 (iWrap .u64 (iAdd .i64 a b)) 1)) m) b) (iWrap .i64 (iShr .u64 (iWrap .u64 (iAdd .i64 a b)) 1)) (iSub .i64 (iAdd .i64 (iWrap .i64 (iShr .u64 (iWrap .u64 (iAdd .i64 a b)) 1)) m) 1) c0 cs rest toks tys) (iWrap .i64 (iShr .u64 (iWrap .u64 (iAdd .i64 a b)) 1)) c0 (rot_l2 off len (sym5_n6 off len a m b (iWrap .i64 (iShr .u64 (iWrap .u64 (iAdd .i64 a b)) 1)) (iAdd .i64 (iWrap .i64 (iShr .u64 (iWrap .u64 (iAdd .i64 a b)) 1)) m) (iSub .i64 (iAdd .i64 (iWrap .i64 (iShr .u64 (iWrap .u64 (iAdd .i64 a b)) 1)) m) b) (iWrap .i64 (iShr .u64 (iWrap .u64 (iAdd .i64 a b)) 1)) (iSub .i64 (iAdd .i64 (iWrap .i64 (iShr .u64 (iWrap .u64 (iAdd .i64 a b)) 1)) m) 1) c0 cs rest toks tys) m (iSub .i64 (iAdd .i64 (iWrap .i64 (iShr .u64 (iWrap .u64 (iAdd .i64 a b)) 1)) m) (sym5_n6 off len a m b (iWrap .i64 (iShr .u64 (iWrap .u64 (iAdd .i64 a b)) 1)) (iAdd .i64 (iWrap .i64 (iShr .u64 (iWrap .u64 (iAdd .i64 a b)) 1)) m) (iSub .i64 (iAdd .i64 (iWrap .i64 (iShr .u64 (iWrap .u64 (iAdd .i64 a b)) 1)) m) b) (iWrap .i64 (iShr .u64 (iWrap .u64 (iAdd .i64 a b)) 1)) (iSub .i64 (iAdd .i64 (iWrap .i64 (iShr .u64 (iWrap .u64 (iAdd .i64 a b)) 1)) m) 1) c0 cs rest toks tys)) c0 (sym5_l2 off len a m b (iWrap .i64 (iShr .u64 (iWrap .u64 (iAdd .i64 a b)) 1)) (iAdd .i64 (iWrap .i64 (iShr .u64 (iWrap .u64 (iAdd .i64 a b)) 1)) m) (iSub .i64 (iAdd .i64 (iWrap .i64 (iShr .u64 (iWrap .u64 (iAdd .i64 a b)) 1)) m) b) (iWrap .i64 (iShr .u64 (iWrap .u64 (iAdd .i64 a b)) 1)) (iSub .i64 (iAdd .i64 (iWrap .i64 (iShr .u64 (iWrap .u64 (iAdd .i64 a b)) 1)) m) 1) c0 cs rest toks tys) rest toks tys) rest toks tys) rest toks tys) (Tr.ret (PV.tup [], Store.mk
 (c0 :: rec_l off len (iWrap .i64 (iShr .u64 (iWrap .u64 (iAdd .i64 a b)) 1)) (iSub .i64 (iAdd .i64 (iWrap .i64 (iShr .u64 (iWrap .u64 (iAdd .i64 a b)) 1)) m) (sym5_n6 off len a m b (iWrap .i64 (iShr .u64 (iWrap .u64 (iAdd .i64 a b)) 1)) (iAdd .i64 (iWrap .i64 (iShr .u64 (iWrap .u64 (iAdd .i64 a b)) 1)) m) (iSub .i64 (iAdd .i64 (iWrap .i64 (iShr .u64 (iWrap .u64 (iAdd .i64 a b)) 1)) m) b) (iWrap .i64 (iShr .u64 (iWrap .u64 (iAdd .i64 a b)) 1)) (iSub .i64 (iAdd .i64 (iWrap .i64 (iShr .u64 (iWrap .u64 (iAdd .i64 a b)) 1)) m) 1) c0 cs rest toks tys)) b c0 (rec_l off len a (sym5_n6 off len a m b (iWrap .i64 (iShr .u64 (iWrap .u64 (iAdd .i64 a b)) 1)) (iAdd .i64 (iWrap .i64 (iShr .u64 (iWrap .u64 (iAdd .i64 a b)) 1)) m) (iSub .i64 (iAdd .i64 (iWrap .i64 (iShr .u64 (iWrap .u64 (iAdd .i64 a b)) 1)) m) b) (iWrap .i64 (iShr .u64 (iWrap .u64 (iAdd .i64 a b)) 1)) (iSub .i64 (iAdd .i64 (iWrap .i64 (iShr .u64 (iWrap .u64 (iAdd .i64 a b)) 1)) m) 1) c0 cs rest toks tys) (iWrap .i64 (iShr .u64 (iWrap .u64 (iAdd .i64 a b)) 1)) c0 (rot_l2 off len (sym5_n6 off len a m b (iWrap .i64 (iShr .u64 (iWrap .u64 (iAdd .i64 a b)) 1)) (iAdd .i64 (iWrap .i64 (iShr .u64 (iWrap .u64 (iAdd .i64 a b)) 1)) m) (iSub .i64 (iAdd .i64 (iWrap .i64 (iShr .u64 (iWrap .u64 (iAdd .i64 a b)) 1)) m) b) (iWrap .i64 (iShr .u64 (iWrap .u64 (iAdd .i64 a b)) 1)) (iSub .i64 (iAdd .i64 (iWrap .i64 (iShr .u64 (iWrap .u64 (iAdd .i64 a b)) 1)) m) 1) c0 cs rest toks tys) m (iSub .i64 (iAdd .i64 (iWrap .i64 (iShr .u64 (iWrap .u64 (iAdd .i64 a b)) 1)) m) (sym5_n6 off len a m b (iWrap .i64 (iShr .u64 (iWrap .u64 (iAdd .i64 a b)) 1)) (iAdd .i64 (iWrap .i64 (iShr .u64 (iWrap .u64 (iAdd .i64 a b)) 1)) m) (iSub .i64 (iAdd .i64 (iWrap .i64 (iShr .u64 (iWrap .u64 (iAdd .i64 a b)) 1)) m) b) (iWrap .i64 (iShr .u64 (iWrap .u64 (iAdd .i64 a b)) 1)) (iSub .i64 (iAdd .i64 (iWrap .i64 (iShr .u64 (iWrap .u64 (iAdd .i64 a b)) 1)) m) 1) c0 cs rest toks tys)) c0 (sym5_l2 off len a m b (iWrap .i64 (iShr .u64 (iWrap .u64 (iAdd .i64 a b)) 1))
 (iAdd .i64 (iWrap .i64 (iShr .u64 (iWrap .u64 (iAdd .i64 a b)) 1)) m) (iSub .i64 (iAdd .i64 (iWrap .i64 (iShr .u64 (iWrap .u64 (iAdd .i64 a b)) 1)) m) b) (iWrap .i64 (iShr .u64 (iWrap .u64 (iAdd .i64 a b)) 1)) (iSub .i64 (iAdd .i64 (iWrap .i64 (iShr .u64 (iWrap .u64 (iAdd .i64 a b)) 1)) m) 1) c0 cs rest toks tys) rest toks tys) rest toks tys) rest toks tys :: rest) toks (82 :: 1000023 :: tys))) Tr.fail) (Tr.ret (PV.tup [], Store.mk (c0 :: rec_l off len a (sym5_n6 off len a m b (iWrap .i64 (iShr .u64 (iWrap .u64 (iAdd .i64 a b)) 1)) (iAdd .i64 (iWrap .i64 (iShr .u64 (iWrap .u64 (iAdd .i64 a b)) 1)) m) (iSub .i64 (iAdd .i64 (iWrap .i64 (iShr .u64 (iWrap .u64 (iAdd .i64 a b)) 1)) m) b) (iWrap .i64 (iShr .u64 (iWrap .u64 (iAdd .i64 a b)) 1)) (iSub .i64 (iAdd .i64 (iWrap .i64 (iShr .u64 (iWrap .u64 (iAdd .i64 a b)) 1)) m) 1) c0 cs rest toks tys) (iWrap .i64 (iShr .u64 (iWrap .u64 (iAdd .i64 a b)) 1)) c0 (rot_l2 off len (sym5_n6 off len a m b (iWrap .i64 (iShr .u64 (iWrap .u64 (iAdd .i64 a b)) 1)) (iAdd .i64 (iWrap .i64 (iShr .u64 (iWrap .u64 (iAdd .i64 a b)) 1)) m) (iSub .i64 (iAdd .i64 (iWrap .i64 (iShr .u64 (iWrap .u64 (iAdd .i64 a b)) 1)) m) b) (iWrap .i64 (iShr .u64 (iWrap .u64 (iAdd .i64 a b)) 1)) (iSub .i64 (iAdd .i64 (iWrap .i64 (iShr .u64 (iWrap .u64 (iAdd .i64 a b)) 1)) m) 1) c0 cs rest toks tys) m (iSub .i64 (iAdd .i64 (iWrap .i64 (iShr .u64 (iWrap .u64 (iAdd .i64 a b)) 1)) m) (sym5_n6 off len a m b (iWrap .i64 (iShr .u64 (iWrap .u64 (iAdd .i64 a b)) 1)) (iAdd .i64 (iWrap .i64 (iShr .u64 (iWrap .u64 (iAdd .i64 a b)) 1)) m) (iSub .i64 (iAdd .i64 (iWrap .i64 (iShr .u64 (iWrap .u64 (iAdd .i64 a b)) 1)) m) b) (iWrap .i64 (iShr .u64 (iWrap .u64 (iAdd .i64 a b)) 1)) (iSub .i64 (iAdd .i64 (iWrap .i64 (iShr .u64 (iWrap .u64 (iAdd .i64 a b)) 1)) m) 1) c0 cs rest toks tys)) c0 (sym5_l2 off len a m b (iWrap .i64 (iShr .u64 (iWrap .u64 (iAdd .i64 a b)) 1)) (iAdd .i64 (iWrap .i64 (iShr .u64 (iWrap .u64 (iAdd .i64 a b)) 1)) m)
 (iSub .i64 (iAdd .i64 (iWrap .i64 (iShr .u64 (iWrap .u64 (iAdd .i64 a b)) 1)) m) b) (iWrap .i64 (iShr .u64 (iWrap .u64 (iAdd .i64 a b)) 1)) (iSub .i64 (iAdd .i64 (iWrap .i64 (iShr .u64 (iWrap .u64 (iAdd .i64 a b)) 1)) m) 1) c0 cs rest toks tys) rest toks tys) rest toks tys :: rest) toks (82 :: 1000023 :: tys)))) (Tr.ret (PV.tup [], Store.mk (c0 :: rec_l off len a (sym5_n6 off len a m b (iWrap .i64 (iShr .u64 (iWrap .u64 (iAdd .i64 a b)) 1)) (iAdd .i64 (iWrap .i64 (iShr .u64 (iWrap .u64 (iAdd .i64 a b)) 1)) m) (iSub .i64 (iAdd .i64 (iWrap .i64 (iShr .u64 (iWrap .u64 (iAdd .i64 a b)) 1)) m) b) (iWrap .i64 (iShr .u64 (iWrap .u64 (iAdd .i64 a b)) 1)) (iSub .i64 (iAdd .i64 (iWrap .i64 (iShr .u64 (iWrap .u64 (iAdd .i64 a b)) 1)) m) 1) c0 cs rest toks tys) (iWrap .i64 (iShr .u64 (iWrap .u64 (iAdd .i64 a b)) 1)) c0 (rot_l2 off len (sym5_n6 off len a m b (iWrap .i64 (iShr .u64 (iWrap .u64 (iAdd .i64 a b)) 1)) (iAdd .i64 (iWrap .i64 (iShr .u64 (iWrap .u64 (iAdd .i64 a b)) 1)) m) (iSub .i64 (iAdd .i64 (iWrap .i64 (iShr .u64 (iWrap .u64 (iAdd .i64 a b)) 1)) m) b) (iWrap .i64 (iShr .u64 (iWrap .u64 (iAdd .i64 a b)) 1)) (iSub .i64 (iAdd .i64 (iWrap .i64 (iShr .u64 (iWrap .u64 (iAdd .i64 a b)) 1)) m) 1) c0 cs rest toks tys) m (iSub .i64 (iAdd .i64 (iWrap .i64 (iShr .u64 (iWrap .u64 (iAdd .i64 a b)) 1)) m) (sym5_n6 off len a m b (iWrap .i64 (iShr .u64 (iWrap .u64 (iAdd .i64 a b)) 1)) (iAdd .i64 (iWrap .i64 (iShr .u64 (iWrap .u64 (iAdd .i64 a b)) 1)) m) (iSub .i64 (iAdd .i64 (iWrap .i64 (iShr .u64 (iWrap .u64 (iAdd .i64 a b)) 1)) m) b) (iWrap .i64 (iShr .u64 (iWrap .u64 (iAdd .i64 a b)) 1)) (iSub .i64 (iAdd .i64 (iWrap .i64 (iShr .u64 (iWrap .u64 (iAdd .i64 a b)) 1)) m) 1) c0 cs rest toks tys)) c0 (sym5_l2 off len a m b (iWrap .i64 (iShr .u64 (iWrap .u64 (iAdd .i64 a b)) 1)) (iAdd .i64 (iWrap .i64 (iShr .u64 (iWrap .u64 (iAdd .i64 a b)) 1)) m) (iSub .i64 (iAdd .i64 (iWrap .i64 (iShr .u64 (iWrap .u64 (iAdd .i64 a b)) 1)) m) b) (iWrap .i64 (iShr .u64 (iWrap .u64 (iAdd .i64 a b)) 1))
 (iSub .i64 (iAdd .i64 (iWrap .i64 (iShr .u64 (iWrap .u64 (iAdd .i64 a b)) 1)) m) 1) c0 cs rest toks tys) rest toks tys) rest toks tys :: rest) toks (82 :: 1000023 :: tys)))) Tr.fail) (Tr.ite (iLt (iWrap .i64 (iShr .u64 (iWrap .u64 (iAdd .i64 a b)) 1)) (iSub .i64 (iAdd .i64 (iWrap .i64 (iShr .u64 (iWrap .u64 (iAdd .i64 a b)) 1)) m) (sym5_n6 off len a m b (iWrap .i64 (iShr .u64 (iWrap .u64 (iAdd .i64 a b)) 1)) (iAdd .i64 (iWrap .i64 (iShr .u64 (iWrap .u64 (iAdd .i64 a b)) 1)) m) (iSub .i64 (iAdd .i64 (iWrap .i64 (iShr .u64 (iWrap .u64 (iAdd .i64 a b)) 1)) m) b) (iWrap .i64 (iShr .u64 (iWrap .u64 (iAdd .i64 a b)) 1)) (iSub .i64 (iAdd .i64 (iWrap .i64 (iShr .u64 (iWrap .u64 (iAdd .i64 a b)) 1)) m) 1) c0 cs rest toks tys))) (Tr.ite (iLt (iSub .i64 (iAdd .i64 (iWrap .i64 (iShr .u64 (iWrap .u64 (iAdd .i64 a b)) 1)) m) (sym5_n6 off len a m b (iWrap .i64 (iShr .u64 (iWrap .u64 (iAdd .i64 a b)) 1)) (iAdd .i64 (iWrap .i64 (iShr .u64 (iWrap .u64 (iAdd .i64 a b)) 1)) m) (iSub .i64 (iAdd .i64 (iWrap .i64 (iShr .u64 (iWrap .u64 (iAdd .i64 a b)) 1)) m) b) (iWrap .i64 (iShr .u64 (iWrap .u64 (iAdd .i64 a b)) 1)) (iSub .i64 (iAdd .i64 (iWrap .i64 (iShr .u64 (iWrap .u64 (iAdd .i64 a b)) 1)) m) 1) c0 cs rest toks tys)) b) (Tr.ite (rec_is0 off len (iWrap .i64 (iShr .u64 (iWrap .u64 (iAdd .i64 a b)) 1)) (iSub .i64 (iAdd .i64 (iWrap .i64 (iShr .u64 (iWrap .u64 (iAdd .i64 a b)) 1)) m) (sym5_n6 off len a m b (iWrap .i64 (iShr .u64 (iWrap .u64 (iAdd .i64 a b)) 1)) (iAdd .i64 (iWrap .i64 (iShr .u64 (iWrap .u64 (iAdd .i64 a b)) 1)) m) (iSub .i64 (iAdd .i64 (iWrap .i64 (iShr .u64 (iWrap .u64 (iAdd .i64 a b)) 1)) m) b) (iWrap .i64 (iShr .u64 (iWrap .u64 (iAdd .i64 a b)) 1)) (iSub .i64 (iAdd .i64 (iWrap .i64 (iShr .u64 (iWrap .u64 (iAdd .i64 a b)) 1)) m) 1) c0 cs rest toks tys)) b c0 (rot_l2 off len (sym5_n6 off len a m b (iWrap .i64 (iShr .u64 (iWrap .u64 (iAdd .i64 a b)) 1)) (iAdd .i64 (iWrap .i64 (iShr .u64 (iWrap .u64 (iAdd .i64 a b)) 1)) m)
 (iSub .i64 (iAdd .i64 (iWrap .i64 (iShr .u64 (iWrap .u64 (iAdd .i64 a b)) 1)) m) b) (iWrap .i64 (iShr .u64 (iWrap .u64 (iAdd .i64 a b)) 1)) (iSub .i64 (iAdd .i64 (iWrap .i64 (iShr .u64 (iWrap .u64 (iAdd .i64 a b)) 1)) m) 1) c0 cs rest toks tys) m (iSub .i64 (iAdd .i64 (iWrap .i64 (iShr .u64 (iWrap .u64 (iAdd .i64 a b)) 1)) m) (sym5_n6 off len a m b (iWrap .i64 (iShr .u64 (iWrap .u64 (iAdd .i64 a b)) 1)) (iAdd .i64 (iWrap .i64 (iShr .u64 (iWrap .u64 (iAdd .i64 a b)) 1)) m) (iSub .i64 (iAdd .i64 (iWrap .i64 (iShr .u64 (iWrap .u64 (iAdd .i64 a b)) 1)) m) b) (iWrap .i64 (iShr .u64 (iWrap .u64 (iAdd .i64 a b)) 1)) (iSub .i64 (iAdd .i64 (iWrap .i64 (iShr .u64 (iWrap .u64 (iAdd .i64 a b)) 1)) m) 1) c0 cs rest toks tys)) c0 (sym5_l2 off len a m b (iWrap .i64 (iShr .u64 (iWrap .u64 (iAdd .i64 a b)) 1)) (iAdd .i64 (iWrap .i64 (iShr .u64 (iWrap .u64 (iAdd .i64 a b)) 1)) m) (iSub .i64 (iAdd .i64 (iWrap .i64 (iShr .u64 (iWrap .u64 (iAdd .i64 a b)) 1)) m) b) (iWrap .i64 (iShr .u64 (iWrap .u64 (iAdd .i64 a b)) 1)) (iSub .i64 (iAdd .i64 (iWrap .i64 (iShr .u64 (iWrap .u64 (iAdd .i64 a b)) 1)) m) 1) c0 cs rest toks tys) rest toks tys) rest toks tys) (Tr.ret (PV.tup [], Store.mk (c0 :: rec_l off len (iWrap .i64 (iShr .u64 (iWrap .u64 (iAdd .i64 a b)) 1)) (iSub .i64 (iAdd .i64 (iWrap .i64 (iShr .u64 (iWrap .u64 (iAdd .i64 a b)) 1)) m) (sym5_n6 off len a m b (iWrap .i64 (iShr .u64 (iWrap .u64 (iAdd .i64 a b)) 1)) (iAdd .i64 (iWrap .i64 (iShr .u64 (iWrap .u64 (iAdd .i64 a b)) 1)) m) (iSub .i64 (iAdd .i64 (iWrap .i64 (iShr .u64 (iWrap .u64 (iAdd .i64 a b)) 1)) m) b) (iWrap .i64 (iShr .u64 (iWrap .u64 (iAdd .i64 a b)) 1)) (iSub .i64 (iAdd .i64 (iWrap .i64 (iShr .u64 (iWrap .u64 (iAdd .i64 a b)) 1)) m) 1) c0 cs rest toks tys)) b c0 (rot_l2 off len (sym5_n6 off len a m b (iWrap .i64 (iShr .u64 (iWrap .u64 (iAdd .i64 a b)) 1)) (iAdd .i64 (iWrap .i64 (iShr .u64 (iWrap .u64 (iAdd .i64 a b)) 1)) m) (iSub .i64 (iAdd .i64 (iWrap .i64 (iShr .u64 (iWrap .u64 (iAdd .i64 a b)) 1)) m) b)
 (iWrap .i64 (iShr .u64 (iWrap .u64 (iAdd .i64 a b)) 1)) (iSub .i64 (iAdd .i64 (iWrap .i64 (iShr .u64 (iWrap .u64 (iAdd .i64 a b)) 1)) m) 1) c0 cs rest toks tys) m (iSub .i64 (iAdd .i64 (iWrap .i64 (iShr .u64 (iWrap .u64 (iAdd .i64 a b)) 1)) m) (sym5_n6 off len a m b (iWrap .i64 (iShr .u64 (iWrap .u64 (iAdd .i64 a b)) 1)) (iAdd .i64 (iWrap .i64 (iShr .u64 (iWrap .u64 (iAdd .i64 a b)) 1)) m) (iSub .i64 (iAdd .i64 (iWrap .i64 (iShr .u64 (iWrap .u64 (iAdd .i64 a b)) 1)) m) b) (iWrap .i64 (iShr .u64 (iWrap .u64 (iAdd .i64 a b)) 1)) (iSub .i64 (iAdd .i64 (iWrap .i64 (iShr .u64 (iWrap .u64 (iAdd .i64 a b)) 1)) m) 1) c0 cs rest toks tys)) c0 (sym5_l2 off len a m b (iWrap .i64 (iShr .u64 (iWrap .u64 (iAdd .i64 a b)) 1)) (iAdd .i64 (iWrap .i64 (iShr .u64 (iWrap .u64 (iAdd .i64 a b)) 1)) m) (iSub .i64 (iAdd .i64 (iWrap .i64 (iShr .u64 (iWrap .u64 (iAdd .i64 a b)) 1)) m) b) (iWrap .i64 (iShr .u64 (iWrap .u64 (iAdd .i64 a b)) 1)) (iSub .i64 (iAdd .i64 (iWrap .i64 (iShr .u64 (iWrap .u64 (iAdd .i64 a b)) 1)) m) 1) c0 cs rest toks tys) rest toks tys) rest toks tys :: rest) toks (82 :: 1000023 :: tys))) Tr.fail) (Tr.ret (PV.tup [], Store.mk (c0 :: rot_l2 off len (sym5_n6 off len a m b (iWrap .i64 (iShr .u64 (iWrap .u64 (iAdd .i64 a b)) 1)) (iAdd .i64 (iWrap .i64 (iShr .u64 (iWrap .u64 (iAdd .i64 a b)) 1)) m) (iSub .i64 (iAdd .i64 (iWrap .i64 (iShr .u64 (iWrap .u64 (iAdd .i64 a b)) 1)) m) b) (iWrap .i64 (iShr .u64 (iWrap .u64 (iAdd .i64 a b)) 1)) (iSub .i64 (iAdd .i64 (iWrap .i64 (iShr .u64 (iWrap .u64 (iAdd .i64 a b)) 1)) m) 1) c0 cs rest toks tys) m (iSub .i64 (iAdd .i64 (iWrap .i64 (iShr .u64 (iWrap .u64 (iAdd .i64 a b)) 1)) m) (sym5_n6 off len a m b (iWrap .i64 (iShr .u64 (iWrap .u64 (iAdd .i64 a b)) 1)) (iAdd .i64 (iWrap .i64 (iShr .u64 (iWrap .u64 (iAdd .i64 a b)) 1)) m) (iSub .i64 (iAdd .i64 (iWrap .i64 (iShr .u64 (iWrap .u64 (iAdd .i64 a b)) 1)) m) b) (iWrap .i64 (iShr .u64 (iWrap .u64 (iAdd .i64 a b)) 1))
 (iSub .i64 (iAdd .i64 (iWrap .i64 (iShr .u64 (iWrap .u64 (iAdd .i64 a b)) 1)) m) 1) c0 cs rest toks tys)) c0 (sym5_l2 off len a m b (iWrap .i64 (iShr .u64 (iWrap .u64 (iAdd .i64 a b)) 1)) (iAdd .i64 (iWrap .i64 (iShr .u64 (iWrap .u64 (iAdd .i64 a b)) 1)) m) (iSub .i64 (iAdd .i64 (iWrap .i64 (iShr .u64 (iWrap .u64 (iAdd .i64 a b)) 1)) m) b) (iWrap .i64 (iShr .u64 (iWrap .u64 (iAdd .i64 a b)) 1)) (iSub .i64 (iAdd .i64 (iWrap .i64 (iShr .u64 (iWrap .u64 (iAdd .i64 a b)) 1)) m) 1) c0 cs rest toks tys) rest toks tys :: rest) toks (82 :: 1000023 :: tys)))) (Tr.ret (PV.tup [], Store.mk (c0 :: rot_l2 off len (sym5_n6 off len a m b (iWrap .i64 (iShr .u64 (iWrap .u64 (iAdd .i64 a b)) 1)) (iAdd .i64 (iWrap .i64 (iShr .u64 (iWrap .u64 (iAdd .i64 a b)) 1)) m) (iSub .i64 (iAdd .i64 (iWrap .i64 (iShr .u64 (iWrap .u64 (iAdd .i64 a b)) 1)) m) b) (iWrap .i64 (iShr .u64 (iWrap .u64 (iAdd .i64 a b)) 1)) (iSub .i64 (iAdd .i64 (iWrap .i64 (iShr .u64 (iWrap .u64 (iAdd .i64 a b)) 1)) m) 1) c0 cs rest toks tys) m (iSub .i64 (iAdd .i64 (iWrap .i64 (iShr .u64 (iWrap .u64 (iAdd .i64 a b)) 1)) m) (sym5_n6 off len a m b (iWrap .i64 (iShr .u64 (iWrap .u64 (iAdd .i64 a b)) 1)) (iAdd .i64 (iWrap .i64 (iShr .u64 (iWrap .u64 (iAdd .i64 a b)) 1)) m) (iSub .i64 (iAdd .i64 (iWrap .i64 (iShr .u64 (iWrap .u64 (iAdd .i64 a b)) 1)) m) b) (iWrap .i64 (iShr .u64 (iWrap .u64 (iAdd .i64 a b)) 1)) (iSub .i64 (iAdd .i64 (iWrap .i64 (iShr .u64 (iWrap .u64 (iAdd .i64 a b)) 1)) m) 1) c0 cs rest toks tys)) c0 (sym5_l2 off len a m b (iWrap .i64 (iShr .u64 (iWrap .u64 (iAdd .i64 a b)) 1)) (iAdd .i64 (iWrap .i64 (iShr .u64 (iWrap .u64 (iAdd .i64 a b)) 1)) m) (iSub .i64 (iAdd .i64 (iWrap .i64 (iShr .u64 (iWrap .u64 (iAdd .i64 a b)) 1)) m) b) (iWrap .i64 (iShr .u64 (iWrap .u64 (iAdd .i64 a b)) 1)) (iSub .i64 (iAdd .i64 (iWrap .i64 (iShr .u64 (iWrap .u64 (iAdd .i64 a b)) 1)) m) 1) c0 cs rest toks tys) rest toks tys :: rest) toks (82 :: 1000023 :: tys))))) (Tr.ite (iLt (iWrap .i64 (iShr .u64 (iWrap .u64 (iAdd .i64 a b)) 1))
 (iSub .i64 (iAdd .i64 (iWrap .i64 (iShr .u64 (iWrap .u64 (iAdd .i64 a b)) 1)) m) (sym5_n6 off len a m b (iWrap .i64 (iShr .u64 (iWrap .u64 (iAdd .i64 a b)) 1)) (iAdd .i64 (iWrap .i64 (iShr .u64 (iWrap .u64 (iAdd .i64 a b)) 1)) m) (iSub .i64 (iAdd .i64 (iWrap .i64 (iShr .u64 (iWrap .u64 (iAdd .i64 a b)) 1)) m) b) (iWrap .i64 (iShr .u64 (iWrap .u64 (iAdd .i64 a b)) 1)) (iSub .i64 (iAdd .i64 (iWrap .i64 (iShr .u64 (iWrap .u64 (iAdd .i64 a b)) 1)) m) 1) c0 cs rest toks tys))) (Tr.ite (iLt (iSub .i64 (iAdd .i64 (iWrap .i64 (iShr .u64 (iWrap .u64 (iAdd .i64 a b)) 1)) m) (sym5_n6 off len a m b (iWrap .i64 (iShr .u64 (iWrap .u64 (iAdd .i64 a b)) 1)) (iAdd .i64 (iWrap .i64 (iShr .u64 (iWrap .u64 (iAdd .i64 a b)) 1)) m) (iSub .i64 (iAdd .i64 (iWrap .i64 (iShr .u64 (iWrap .u64 (iAdd .i64 a b)) 1)) m) b) (iWrap .i64 (iShr .u64 (iWrap .u64 (iAdd .i64 a b)) 1)) (iSub .i64 (iAdd .i64 (iWrap .i64 (iShr .u64 (iWrap .u64 (iAdd .i64 a b)) 1)) m) 1) c0 cs rest toks tys)) b) (Tr.ite (rec_is0 off len (iWrap .i64 (iShr .u64 (iWrap .u64 (iAdd .i64 a b)) 1)) (iSub .i64 (iAdd .i64 (iWrap .i64 (iShr .u64 (iWrap .u64 (iAdd .i64 a b)) 1)) m) (sym5_n6 off len a m b (iWrap .i64 (iShr .u64 (iWrap .u64 (iAdd .i64 a b)) 1)) (iAdd .i64 (iWrap .i64 (iShr .u64 (iWrap .u64 (iAdd .i64 a b)) 1)) m) (iSub .i64 (iAdd .i64 (iWrap .i64 (iShr .u64 (iWrap .u64 (iAdd .i64 a b)) 1)) m) b) (iWrap .i64 (iShr .u64 (iWrap .u64 (iAdd .i64 a b)) 1)) (iSub .i64 (iAdd .i64 (iWrap .i64 (iShr .u64 (iWrap .u64 (iAdd .i64 a b)) 1)) m) 1) c0 cs rest toks tys)) b c0 (rot_l2 off len (sym5_n6 off len a m b (iWrap .i64 (iShr .u64 (iWrap .u64 (iAdd .i64 a b)) 1)) (iAdd .i64 (iWrap .i64 (iShr .u64 (iWrap .u64 (iAdd .i64 a b)) 1)) m) (iSub .i64 (iAdd .i64 (iWrap .i64 (iShr .u64 (iWrap .u64 (iAdd .i64 a b)) 1)) m) b) (iWrap .i64 (iShr .u64 (iWrap .u64 (iAdd .i64 a b)) 1)) (iSub .i64 (iAdd .i64 (iWrap .i64 (iShr .u64 (iWrap .u64 (iAdd .i64 a b)) 1)) m) 1) c0 cs rest toks tys) m
 (iSub .i64 (iAdd .i64 (iWrap .i64 (iShr .u64 (iWrap .u64 (iAdd .i64 a b)) 1)) m) (sym5_n6 off len a m b (iWrap .i64 (iShr .u64 (iWrap .u64 (iAdd .i64 a b)) 1)) (iAdd .i64 (iWrap .i64 (iShr .u64 (iWrap .u64 (iAdd .i64 a b)) 1)) m) (iSub .i64 (iAdd .i64 (iWrap .i64 (iShr .u64 (iWrap .u64 (iAdd .i64 a b)) 1)) m) b) (iWrap .i64 (iShr .u64 (iWrap .u64 (iAdd .i64 a b)) 1)) (iSub .i64 (iAdd .i64 (iWrap .i64 (iShr .u64 (iWrap .u64 (iAdd .i64 a b)) 1)) m) 1) c0 cs rest toks tys)) c0 (sym5_l2 off len a m b (iWrap .i64 (iShr .u64 (iWrap .u64 (iAdd .i64 a b)) 1)) (iAdd .i64 (iWrap .i64 (iShr .u64 (iWrap .u64 (iAdd .i64 a b)) 1)) m) (iSub .i64 (iAdd .i64 (iWrap .i64 (iShr .u64 (iWrap .u64 (iAdd .i64 a b)) 1)) m) b) (iWrap .i64 (iShr .u64 (iWrap .u64 (iAdd .i64 a b)) 1)) (iSub .i64 (iAdd .i64 (iWrap .i64 (iShr .u64 (iWrap .u64 (iAdd .i64 a b)) 1)) m) 1) c0 cs rest toks tys) rest toks tys) rest toks tys) (Tr.ret (PV.tup [], Store.mk (c0 :: rec_l off len (iWrap .i64 (iShr .u64 (iWrap .u64 (iAdd .i64 a b)) 1)) (iSub .i64 (iAdd .i64 (iWrap .i64 (iShr .u64 (iWrap .u64 (iAdd .i64 a b)) 1)) m) (sym5_n6 off len a m b (iWrap .i64 (iShr .u64 (iWrap .u64 (iAdd .i64 a b)) 1)) (iAdd .i64 (iWrap .i64 (iShr .u64 (iWrap .u64 (iAdd .i64 a b)) 1)) m) (iSub .i64 (iAdd .i64 (iWrap .i64 (iShr .u64 (iWrap .u64 (iAdd .i64 a b)) 1)) m) b) (iWrap .i64 (iShr .u64 (iWrap .u64 (iAdd .i64 a b)) 1)) (iSub .i64 (iAdd .i64 (iWrap .i64 (iShr .u64 (iWrap .u64 (iAdd .i64 a b)) 1)) m) 1) c0 cs rest toks tys)) b c0 (rot_l2 off len (sym5_n6 off len a m b (iWrap .i64 (iShr .u64 (iWrap .u64 (iAdd .i64 a b)) 1)) (iAdd .i64 (iWrap .i64 (iShr .u64 (iWrap .u64 (iAdd .i64 a b)) 1)) m) (iSub .i64 (iAdd .i64 (iWrap .i64 (iShr .u64 (iWrap .u64 (iAdd .i64 a b)) 1)) m) b) (iWrap .i64 (iShr .u64 (iWrap .u64 (iAdd .i64 a b)) 1)) (iSub .i64 (iAdd .i64 (iWrap .i64 (iShr .u64 (iWrap .u64 (iAdd .i64 a b)) 1)) m) 1) c0 cs rest toks tys) m (iSub .i64 (iAdd .i64 (iWrap .i64 (iShr .u64 (iWrap .u64 (iAdd .i64 a b)) 1)) m)
 (sym5_n6 off len a m b (iWrap .i64 (iShr .u64 (iWrap .u64 (iAdd .i64 a b)) 1)) (iAdd .i64 (iWrap .i64 (iShr .u64 (iWrap .u64 (iAdd .i64 a b)) 1)) m) (iSub .i64 (iAdd .i64 (iWrap .i64 (iShr .u64 (iWrap .u64 (iAdd .i64 a b)) 1)) m) b) (iWrap .i64 (iShr .u64 (iWrap .u64 (iAdd .i64 a b)) 1)) (iSub .i64 (iAdd .i64 (iWrap .i64 (iShr .u64 (iWrap .u64 (iAdd .i64 a b)) 1)) m) 1) c0 cs rest toks tys)) c0 (sym5_l2 off len a m b (iWrap .i64 (iShr .u64 (iWrap .u64 (iAdd .i64 a b)) 1)) (iAdd .i64 (iWrap .i64 (iShr .u64 (iWrap .u64 (iAdd .i64 a b)) 1)) m) (iSub .i64 (iAdd .i64 (iWrap .i64 (iShr .u64 (iWrap .u64 (iAdd .i64 a b)) 1)) m) b) (iWrap .i64 (iShr .u64 (iWrap .u64 (iAdd .i64 a b)) 1)) (iSub .i64 (iAdd .i64 (iWrap .i64 (iShr .u64 (iWrap .u64 (iAdd .i64 a b)) 1)) m) 1) c0 cs rest toks tys) rest toks tys) rest toks tys :: rest) toks (82 :: 1000023 :: tys))) Tr.fail) (Tr.ret (PV.tup [], Store.mk (c0 :: rot_l2 off len (sym5_n6 off len a m b (iWrap .i64 (iShr .u64 (iWrap .u64 (iAdd .i64 a b)) 1)) (iAdd .i64 (iWrap .i64 (iShr .u64 (iWrap .u64 (iAdd .i64 a b)) 1)) m) (iSub .i64 (iAdd .i64 (iWrap .i64 (iShr .u64 (iWrap .u64 (iAdd .i64 a b)) 1)) m) b) (iWrap .i64 (iShr .u64 (iWrap .u64 (iAdd .i64 a b)) 1)) (iSub .i64 (iAdd .i64 (iWrap .i64 (iShr .u64 (iWrap .u64 (iAdd .i64 a b)) 1)) m) 1) c0 cs rest toks tys) m (iSub .i64 (iAdd .i64 (iWrap .i64 (iShr .u64 (iWrap .u64 (iAdd .i64 a b)) 1)) m) (sym5_n6 off len a m b (iWrap .i64 (iShr .u64 (iWrap .u64 (iAdd .i64 a b)) 1)) (iAdd .i64 (iWrap .i64 (iShr .u64 (iWrap .u64 (iAdd .i64 a b)) 1)) m) (iSub .i64 (iAdd .i64 (iWrap .i64 (iShr .u64 (iWrap .u64 (iAdd .i64 a b)) 1)) m) b) (iWrap .i64 (iShr .u64 (iWrap .u64 (iAdd .i64 a b)) 1)) (iSub .i64 (iAdd .i64 (iWrap .i64 (iShr .u64 (iWrap .u64 (iAdd .i64 a b)) 1)) m) 1) c0 cs rest toks tys)) c0 (sym5_l2 off len a m b (iWrap .i64 (iShr .u64 (iWrap .u64 (iAdd .i64 a b)) 1)) (iAdd .i64 (iWrap .i64 (iShr .u64 (iWrap .u64 (iAdd .i64 a b)) 1)) m)
 (iSub .i64 (iAdd .i64 (iWrap .i64 (iShr .u64 (iWrap .u64 (iAdd .i64 a b)) 1)) m) b) (iWrap .i64 (iShr .u64 (iWrap .u64 (iAdd .i64 a b)) 1)) (iSub .i64 (iAdd .i64 (iWrap .i64 (iShr .u64 (iWrap .u64 (iAdd .i64 a b)) 1)) m) 1) c0 cs rest toks tys) rest toks tys :: rest) toks (82 :: 1000023 :: tys)))) (Tr.ret (PV.tup [], Store.mk (c0 :: rot_l2 off len (sym5_n6 off len a m b (iWrap .i64 (iShr .u64 (iWrap .u64 (iAdd .i64 a b)) 1)) (iAdd .i64 (iWrap .i64 (iShr .u64 (iWrap .u64 (iAdd .i64 a b)) 1)) m) (iSub .i64 (iAdd .i64 (iWrap .i64 (iShr .u64 (iWrap .u64 (iAdd .i64 a b)) 1)) m) b) (iWrap .i64 (iShr .u64 (iWrap .u64 (iAdd .i64 a b)) 1)) (iSub .i64 (iAdd .i64 (iWrap .i64 (iShr .u64 (iWrap .u64 (iAdd .i64 a b)) 1)) m) 1) c0 cs rest toks tys) m (iSub .i64 (iAdd .i64 (iWrap .i64 (iShr .u64 (iWrap .u64 (iAdd .i64 a b)) 1)) m) (sym5_n6 off len a m b (iWrap .i64 (iShr .u64 (iWrap .u64 (iAdd .i64 a b)) 1)) (iAdd .i64 (iWrap .i64 (iShr .u64 (iWrap .u64 (iAdd .i64 a b)) 1)) m) (iSub .i64 (iAdd .i64 (iWrap .i64 (iShr .u64 (iWrap .u64 (iAdd .i64 a b)) 1)) m) b) (iWrap .i64 (iShr .u64 (iWrap .u64 (iAdd .i64 a b)) 1)) (iSub .i64 (iAdd .i64 (iWrap .i64 (iShr .u64 (iWrap .u64 (iAdd .i64 a b)) 1)) m) 1) c0 cs rest toks tys)) c0 (sym5_l2 off len a m b (iWrap .i64 (iShr .u64 (iWrap .u64 (iAdd .i64 a b)) 1)) (iAdd .i64 (iWrap .i64 (iShr .u64 (iWrap .u64 (iAdd .i64 a b)) 1)) m) (iSub .i64 (iAdd .i64 (iWrap .i64 (iShr .u64 (iWrap .u64 (iAdd .i64 a b)) 1)) m) b) (iWrap .i64 (iShr .u64 (iWrap .u64 (iAdd .i64 a b)) 1)) (iSub .i64 (iAdd .i64 (iWrap .i64 (iShr .u64 (iWrap .u64 (iAdd .i64 a b)) 1)) m) 1) c0 cs rest toks tys) rest toks tys :: rest) toks (82 :: 1000023 :: tys))))) Tr.fail) (Tr.ite (iLt a (sym5_n6 off len a m b (iWrap .i64 (iShr .u64 (iWrap .u64 (iAdd .i64 a b)) 1)) (iAdd .i64 (iWrap .i64 (iShr .u64 (iWrap .u64 (iAdd .i64 a b)) 1)) m) (iSub .i64 (iAdd .i64 (iWrap .i64 (iShr .u64 (iWrap .u64 (iAdd .i64 a b)) 1)) m) b) (iWrap .i64 (iShr .u64 (iWrap .u64 (iAdd .i64 a b)) 1))
 (iSub .i64 (iAdd .i64 (iWrap .i64 (iShr .u64 (iWrap .u64 (iAdd .i64 a b)) 1)) m) 1) c0 cs rest toks tys)) (Tr.ite (iLt (sym5_n6 off len a m b (iWrap .i64 (iShr .u64 (iWrap .u64 (iAdd .i64 a b)) 1)) (iAdd .i64 (iWrap .i64 (iShr .u64 (iWrap .u64 (iAdd .i64 a b)) 1)) m) (iSub .i64 (iAdd .i64 (iWrap .i64 (iShr .u64 (iWrap .u64 (iAdd .i64 a b)) 1)) m) b) (iWrap .i64 (iShr .u64 (iWrap .u64 (iAdd .i64 a b)) 1)) (iSub .i64 (iAdd .i64 (iWrap .i64 (iShr .u64 (iWrap .u64 (iAdd .i64 a b)) 1)) m) 1) c0 cs rest toks tys) (iWrap .i64 (iShr .u64 (iWrap .u64 (iAdd .i64 a b)) 1))) (Tr.ite (rec_is0 off len a (sym5_n6 off len a m b (iWrap .i64 (iShr .u64 (iWrap .u64 (iAdd .i64 a b)) 1)) (iAdd .i64 (iWrap .i64 (iShr .u64 (iWrap .u64 (iAdd .i64 a b)) 1)) m) (iSub .i64 (iAdd .i64 (iWrap .i64 (iShr .u64 (iWrap .u64 (iAdd .i64 a b)) 1)) m) b) (iWrap .i64 (iShr .u64 (iWrap .u64 (iAdd .i64 a b)) 1)) (iSub .i64 (iAdd .i64 (iWrap .i64 (iShr .u64 (iWrap .u64 (iAdd .i64 a b)) 1)) m) 1) c0 cs rest toks tys) (iWrap .i64 (iShr .u64 (iWrap .u64 (iAdd .i64 a b)) 1)) c0 (sym5_l2 off len a m b (iWrap .i64 (iShr .u64 (iWrap .u64 (iAdd .i64 a b)) 1)) (iAdd .i64 (iWrap .i64 (iShr .u64 (iWrap .u64 (iAdd .i64 a b)) 1)) m) (iSub .i64 (iAdd .i64 (iWrap .i64 (iShr .u64 (iWrap .u64 (iAdd .i64 a b)) 1)) m) b) (iWrap .i64 (iShr .u64 (iWrap .u64 (iAdd .i64 a b)) 1)) (iSub .i64 (iAdd .i64 (iWrap .i64 (iShr .u64 (iWrap .u64 (iAdd .i64 a b)) 1)) m) 1) c0 cs rest toks tys) rest toks tys) (Tr.ite (iLt (iWrap .i64 (iShr .u64 (iWrap .u64 (iAdd .i64 a b)) 1)) (iSub .i64 (iAdd .i64 (iWrap .i64 (iShr .u64 (iWrap .u64 (iAdd .i64 a b)) 1)) m) (sym5_n6 off len a m b (iWrap .i64 (iShr .u64 (iWrap .u64 (iAdd .i64 a b)) 1)) (iAdd .i64 (iWrap .i64 (iShr .u64 (iWrap .u64 (iAdd .i64 a b)) 1)) m) (iSub .i64 (iAdd .i64 (iWrap .i64 (iShr .u64 (iWrap .u64 (iAdd .i64 a b)) 1)) m) b) (iWrap .i64 (iShr .u64 (iWrap .u64 (iAdd .i64 a b)) 1))
 (iSub .i64 (iAdd .i64 (iWrap .i64 (iShr .u64 (iWrap .u64 (iAdd .i64 a b)) 1)) m) 1) c0 cs rest toks tys))) (Tr.ite (iLt (iSub .i64 (iAdd .i64 (iWrap .i64 (iShr .u64 (iWrap .u64 (iAdd .i64 a b)) 1)) m) (sym5_n6 off len a m b (iWrap .i64 (iShr .u64 (iWrap .u64 (iAdd .i64 a b)) 1)) (iAdd .i64 (iWrap .i64 (iShr .u64 (iWrap .u64 (iAdd .i64 a b)) 1)) m) (iSub .i64 (iAdd .i64 (iWrap .i64 (iShr .u64 (iWrap .u64 (iAdd .i64 a b)) 1)) m) b) (iWrap .i64 (iShr .u64 (iWrap .u64 (iAdd .i64 a b)) 1)) (iSub .i64 (iAdd .i64 (iWrap .i64 (iShr .u64 (iWrap .u64 (iAdd .i64 a b)) 1)) m) 1) c0 cs rest toks tys)) b) (Tr.ite (rec_is0 off len (iWrap .i64 (iShr .u64 (iWrap .u64 (iAdd .i64 a b)) 1)) (iSub .i64 (iAdd .i64 (iWrap .i64 (iShr .u64 (iWrap .u64 (iAdd .i64 a b)) 1)) m) (sym5_n6 off len a m b (iWrap .i64 (iShr .u64 (iWrap .u64 (iAdd .i64 a b)) 1)) (iAdd .i64 (iWrap .i64 (iShr .u64 (iWrap .u64 (iAdd .i64 a b)) 1)) m) (iSub .i64 (iAdd .i64 (iWrap .i64 (iShr .u64 (iWrap .u64 (iAdd .i64 a b)) 1)) m) b) (iWrap .i64 (iShr .u64 (iWrap .u64 (iAdd .i64 a b)) 1)) (iSub .i64 (iAdd .i64 (iWrap .i64 (iShr .u64 (iWrap .u64 (iAdd .i64 a b)) 1)) m) 1) c0 cs rest toks tys)) b c0 (rec_l off len a (sym5_n6 off len a m b (iWrap .i64 (iShr .u64 (iWrap .u64 (iAdd .i64 a b)) 1)) (iAdd .i64 (iWrap .i64 (iShr .u64 (iWrap .u64 (iAdd .i64 a b)) 1)) m) (iSub .i64 (iAdd .i64 (iWrap .i64 (iShr .u64 (iWrap .u64 (iAdd .i64 a b)) 1)) m) b) (iWrap .i64 (iShr .u64 (iWrap .u64 (iAdd .i64 a b)) 1)) (iSub .i64 (iAdd .i64 (iWrap .i64 (iShr .u64 (iWrap .u64 (iAdd .i64 a b)) 1)) m) 1) c0 cs rest toks tys) (iWrap .i64 (iShr .u64 (iWrap .u64 (iAdd .i64 a b)) 1)) c0 (sym5_l2 off len a m b (iWrap .i64 (iShr .u64 (iWrap .u64 (iAdd .i64 a b)) 1)) (iAdd .i64 (iWrap .i64 (iShr .u64 (iWrap .u64 (iAdd .i64 a b)) 1)) m) (iSub .i64 (iAdd .i64 (iWrap .i64 (iShr .u64 (iWrap .u64 (iAdd .i64 a b)) 1)) m) b) (iWrap .i64 (iShr .u64 (iWrap .u64 (iAdd .i64 a b)) 1))
 (iSub .i64 (iAdd .i64 (iWrap .i64 (iShr .u64 (iWrap .u64 (iAdd .i64 a b)) 1)) m) 1) c0 cs rest toks tys) rest toks tys) rest toks tys) (Tr.ret (PV.tup [], Store.mk (c0 :: rec_l off len (iWrap .i64 (iShr .u64 (iWrap .u64 (iAdd .i64 a b)) 1)) (iSub .i64 (iAdd .i64 (iWrap .i64 (iShr .u64 (iWrap .u64 (iAdd .i64 a b)) 1)) m) (sym5_n6 off len a m b (iWrap .i64 (iShr .u64 (iWrap .u64 (iAdd .i64 a b)) 1)) (iAdd .i64 (iWrap .i64 (iShr .u64 (iWrap .u64 (iAdd .i64 a b)) 1)) m) (iSub .i64 (iAdd .i64 (iWrap .i64 (iShr .u64 (iWrap .u64 (iAdd .i64 a b)) 1)) m) b) (iWrap .i64 (iShr .u64 (iWrap .u64 (iAdd .i64 a b)) 1)) (iSub .i64 (iAdd .i64 (iWrap .i64 (iShr .u64 (iWrap .u64 (iAdd .i64 a b)) 1)) m) 1) c0 cs rest toks tys)) b c0 (rec_l off len a (sym5_n6 off len a m b (iWrap .i64 (iShr .u64 (iWrap .u64 (iAdd .i64 a b)) 1)) (iAdd .i64 (iWrap .i64 (iShr .u64 (iWrap .u64 (iAdd .i64 a b)) 1)) m) (iSub .i64 (iAdd .i64 (iWrap .i64 (iShr .u64 (iWrap .u64 (iAdd .i64 a b)) 1)) m) b) (iWrap .i64 (iShr .u64 (iWrap .u64 (iAdd .i64 a b)) 1)) (iSub .i64 (iAdd .i64 (iWrap .i64 (iShr .u64 (iWrap .u64 (iAdd .i64 a b)) 1)) m) 1) c0 cs rest toks tys) (iWrap .i64 (iShr .u64 (iWrap .u64 (iAdd .i64 a b)) 1)) c0 (sym5_l2 off len a m b (iWrap .i64 (iShr .u64 (iWrap .u64 (iAdd .i64 a b)) 1)) (iAdd .i64 (iWrap .i64 (iShr .u64 (iWrap .u64 (iAdd .i64 a b)) 1)) m) (iSub .i64 (iAdd .i64 (iWrap .i64 (iShr .u64 (iWrap .u64 (iAdd .i64 a b)) 1)) m) b) (iWrap .i64 (iShr .u64 (iWrap .u64 (iAdd .i64 a b)) 1)) (iSub .i64 (iAdd .i64 (iWrap .i64 (iShr .u64 (iWrap .u64 (iAdd .i64 a b)) 1)) m) 1) c0 cs rest toks tys) rest toks tys) rest toks tys :: rest) toks (82 :: 1000023 :: tys))) Tr.fail) (Tr.ret (PV.tup [], Store.mk (c0 :: rec_l off len a (sym5_n6 off len a m b (iWrap .i64 (iShr .u64 (iWrap .u64 (iAdd .i64 a b)) 1)) (iAdd .i64 (iWrap .i64 (iShr .u64 (iWrap .u64 (iAdd .i64 a b)) 1)) m) (iSub .i64 (iAdd .i64 (iWrap .i64 (iShr .u64 (iWrap .u64 (iAdd .i64 a b)) 1)) m) b)
 (iWrap .i64 (iShr .u64 (iWrap .u64 (iAdd .i64 a b)) 1)) (iSub .i64 (iAdd .i64 (iWrap .i64 (iShr .u64 (iWrap .u64 (iAdd .i64 a b)) 1)) m) 1) c0 cs rest toks tys) (iWrap .i64 (iShr .u64 (iWrap .u64 (iAdd .i64 a b)) 1)) c0 (sym5_l2 off len a m b (iWrap .i64 (iShr .u64 (iWrap .u64 (iAdd .i64 a b)) 1)) (iAdd .i64 (iWrap .i64 (iShr .u64 (iWrap .u64 (iAdd .i64 a b)) 1)) m) (iSub .i64 (iAdd .i64 (iWrap .i64 (iShr .u64 (iWrap .u64 (iAdd .i64 a b)) 1)) m) b) (iWrap .i64 (iShr .u64 (iWrap .u64 (iAdd .i64 a b)) 1)) (iSub .i64 (iAdd .i64 (iWrap .i64 (iShr .u64 (iWrap .u64 (iAdd .i64 a b)) 1)) m) 1) c0 cs rest toks tys) rest toks tys :: rest) toks (82 :: 1000023 :: tys)))) (Tr.ret (PV.tup [], Store.mk (c0 :: rec_l off len a (sym5_n6 off len a m b (iWrap .i64 (iShr .u64 (iWrap .u64 (iAdd .i64 a b)) 1)) (iAdd .i64 (iWrap .i64 (iShr .u64 (iWrap .u64 (iAdd .i64 a b)) 1)) m) (iSub .i64 (iAdd .i64 (iWrap .i64 (iShr .u64 (iWrap .u64 (iAdd .i64 a b)) 1)) m) b) (iWrap .i64 (iShr .u64 (iWrap .u64 (iAdd .i64 a b)) 1)) (iSub .i64 (iAdd .i64 (iWrap .i64 (iShr .u64 (iWrap .u64 (iAdd .i64 a b)) 1)) m) 1) c0 cs rest toks tys) (iWrap .i64 (iShr .u64 (iWrap .u64 (iAdd .i64 a b)) 1)) c0 (sym5_l2 off len a m b (iWrap .i64 (iShr .u64 (iWrap .u64 (iAdd .i64 a b)) 1)) (iAdd .i64 (iWrap .i64 (iShr .u64 (iWrap .u64 (iAdd .i64 a b)) 1)) m) (iSub .i64 (iAdd .i64 (iWrap .i64 (iShr .u64 (iWrap .u64 (iAdd .i64 a b)) 1)) m) b) (iWrap .i64 (iShr .u64 (iWrap .u64 (iAdd .i64 a b)) 1)) (iSub .i64 (iAdd .i64 (iWrap .i64 (iShr .u64 (iWrap .u64 (iAdd .i64 a b)) 1)) m) 1) c0 cs rest toks tys) rest toks tys :: rest) toks (82 :: 1000023 :: tys)))) Tr.fail) (Tr.ite (iLt (iWrap .i64 (iShr .u64 (iWrap .u64 (iAdd .i64 a b)) 1)) (iSub .i64 (iAdd .i64 (iWrap .i64 (iShr .u64 (iWrap .u64 (iAdd .i64 a b)) 1)) m) (sym5_n6 off len a m b (iWrap .i64 (iShr .u64 (iWrap .u64 (iAdd .i64 a b)) 1)) (iAdd .i64 (iWrap .i64 (iShr .u64 (iWrap .u64 (iAdd .i64 a b)) 1)) m)
 (iSub .i64 (iAdd .i64 (iWrap .i64 (iShr .u64 (iWrap .u64 (iAdd .i64 a b)) 1)) m) b) (iWrap .i64 (iShr .u64 (iWrap .u64 (iAdd .i64 a b)) 1)) (iSub .i64 (iAdd .i64 (iWrap .i64 (iShr .u64 (iWrap .u64 (iAdd .i64 a b)) 1)) m) 1) c0 cs rest toks tys))) (Tr.ite (iLt (iSub .i64 (iAdd .i64 (iWrap .i64 (iShr .u64 (iWrap .u64 (iAdd .i64 a b)) 1)) m) (sym5_n6 off len a m b (iWrap .i64 (iShr .u64 (iWrap .u64 (iAdd .i64 a b)) 1)) (iAdd .i64 (iWrap .i64 (iShr .u64 (iWrap .u64 (iAdd .i64 a b)) 1)) m) (iSub .i64 (iAdd .i64 (iWrap .i64 (iShr .u64 (iWrap .u64 (iAdd .i64 a b)) 1)) m) b) (iWrap .i64 (iShr .u64 (iWrap .u64 (iAdd .i64 a b)) 1)) (iSub .i64 (iAdd .i64 (iWrap .i64 (iShr .u64 (iWrap .u64 (iAdd .i64 a b)) 1)) m) 1) c0 cs rest toks tys)) b) (Tr.ite (rec_is0 off len (iWrap .i64 (iShr .u64 (iWrap .u64 (iAdd .i64 a b)) 1)) (iSub .i64 (iAdd .i64 (iWrap .i64 (iShr .u64 (iWrap .u64 (iAdd .i64 a b)) 1)) m) (sym5_n6 off len a m b (iWrap .i64 (iShr .u64 (iWrap .u64 (iAdd .i64 a b)) 1)) (iAdd .i64 (iWrap .i64 (iShr .u64 (iWrap .u64 (iAdd .i64 a b)) 1)) m) (iSub .i64 (iAdd .i64 (iWrap .i64 (iShr .u64 (iWrap .u64 (iAdd .i64 a b)) 1)) m) b) (iWrap .i64 (iShr .u64 (iWrap .u64 (iAdd .i64 a b)) 1)) (iSub .i64 (iAdd .i64 (iWrap .i64 (iShr .u64 (iWrap .u64 (iAdd .i64 a b)) 1)) m) 1) c0 cs rest toks tys)) b c0 (sym5_l2 off len a m b (iWrap .i64 (iShr .u64 (iWrap .u64 (iAdd .i64 a b)) 1)) (iAdd .i64 (iWrap .i64 (iShr .u64 (iWrap .u64 (iAdd .i64 a b)) 1)) m) (iSub .i64 (iAdd .i64 (iWrap .i64 (iShr .u64 (iWrap .u64 (iAdd .i64 a b)) 1)) m) b) (iWrap .i64 (iShr .u64 (iWrap .u64 (iAdd .i64 a b)) 1)) (iSub .i64 (iAdd .i64 (iWrap .i64 (iShr .u64 (iWrap .u64 (iAdd .i64 a b)) 1)) m) 1) c0 cs rest toks tys) rest toks tys) (Tr.ret (PV.tup [], Store.mk (c0 :: rec_l off len (iWrap .i64 (iShr .u64 (iWrap .u64 (iAdd .i64 a b)) 1)) (iSub .i64 (iAdd .i64 (iWrap .i64 (iShr .u64 (iWrap .u64 (iAdd .i64 a b)) 1)) m) (sym5_n6 off len a m b (iWrap .i64 (iShr .u64 (iWrap .u64 (iAdd .i64 a b)) 1))
 (iAdd .i64 (iWrap .i64 (iShr .u64 (iWrap .u64 (iAdd .i64 a b)) 1)) m) (iSub .i64 (iAdd .i64 (iWrap .i64 (iShr .u64 (iWrap .u64 (iAdd .i64 a b)) 1)) m) b) (iWrap .i64 (iShr .u64 (iWrap .u64 (iAdd .i64 a b)) 1)) (iSub .i64 (iAdd .i64 (iWrap .i64 (iShr .u64 (iWrap .u64 (iAdd .i64 a b)) 1)) m) 1) c0 cs rest toks tys)) b c0 (sym5_l2 off len a m b (iWrap .i64 (iShr .u64 (iWrap .u64 (iAdd .i64 a b)) 1)) (iAdd .i64 (iWrap .i64 (iShr .u64 (iWrap .u64 (iAdd .i64 a b)) 1)) m) (iSub .i64 (iAdd .i64 (iWrap .i64 (iShr .u64 (iWrap .u64 (iAdd .i64 a b)) 1)) m) b) (iWrap .i64 (iShr .u64 (iWrap .u64 (iAdd .i64 a b)) 1)) (iSub .i64 (iAdd .i64 (iWrap .i64 (iShr .u64 (iWrap .u64 (iAdd .i64 a b)) 1)) m) 1) c0 cs rest toks tys) rest toks tys :: rest) toks (82 :: 1000023 :: tys))) Tr.fail) (Tr.ret (PV.tup [], Store.mk (c0 :: sym5_l2 off len a m b (iWrap .i64 (iShr .u64 (iWrap .u64 (iAdd .i64 a b)) 1)) (iAdd .i64 (iWrap .i64 (iShr .u64 (iWrap .u64 (iAdd .i64 a b)) 1)) m) (iSub .i64 (iAdd .i64 (iWrap .i64 (iShr .u64 (iWrap .u64 (iAdd .i64 a b)) 1)) m) b) (iWrap .i64 (iShr .u64 (iWrap .u64 (iAdd .i64 a b)) 1)) (iSub .i64 (iAdd .i64 (iWrap .i64 (iShr .u64 (iWrap .u64 (iAdd .i64 a b)) 1)) m) 1) c0 cs rest toks tys :: rest) toks (82 :: 1000023 :: tys)))) (Tr.ret (PV.tup [], Store.mk (c0 :: sym5_l2 off len a m b (iWrap .i64 (iShr .u64 (iWrap .u64 (iAdd .i64 a b)) 1)) (iAdd .i64 (iWrap .i64 (iShr .u64 (iWrap .u64 (iAdd .i64 a b)) 1)) m) (iSub .i64 (iAdd .i64 (iWrap .i64 (iShr .u64 (iWrap .u64 (iAdd .i64 a b)) 1)) m) b) (iWrap .i64 (iShr .u64 (iWrap .u64 (iAdd .i64 a b)) 1)) (iSub .i64 (iAdd .i64 (iWrap .i64 (iShr .u64 (iWrap .u64 (iAdd .i64 a b)) 1)) m) 1) c0 cs rest toks tys :: rest) toks (82 :: 1000023 :: tys))))) (Tr.ite (iLt (iWrap .i64 (iShr .u64 (iWrap .u64 (iAdd .i64 a b)) 1)) (iSub .i64 (iAdd .i64 (iWrap .i64 (iShr .u64 (iWrap .u64 (iAdd .i64 a b)) 1)) m) (sym5_n6 off len a m b (iWrap .i64 (iShr .u64 (iWrap .u64 (iAdd .i64 a b)) 1))
 (iAdd .i64 (iWrap .i64 (iShr .u64 (iWrap .u64 (iAdd .i64 a b)) 1)) m) (iSub .i64 (iAdd .i64 (iWrap .i64 (iShr .u64 (iWrap .u64 (iAdd .i64 a b)) 1)) m) b) (iWrap .i64 (iShr .u64 (iWrap .u64 (iAdd .i64 a b)) 1)) (iSub .i64 (iAdd .i64 (iWrap .i64 (iShr .u64 (iWrap .u64 (iAdd .i64 a b)) 1)) m) 1) c0 cs rest toks tys))) (Tr.ite (iLt (iSub .i64 (iAdd .i64 (iWrap .i64 (iShr .u64 (iWrap .u64 (iAdd .i64 a b)) 1)) m) (sym5_n6 off len a m b (iWrap .i64 (iShr .u64 (iWrap .u64 (iAdd .i64 a b)) 1)) (iAdd .i64 (iWrap .i64 (iShr .u64 (iWrap .u64 (iAdd .i64 a b)) 1)) m) (iSub .i64 (iAdd .i64 (iWrap .i64 (iShr .u64 (iWrap .u64 (iAdd .i64 a b)) 1)) m) b) (iWrap .i64 (iShr .u64 (iWrap .u64 (iAdd .i64 a b)) 1)) (iSub .i64 (iAdd .i64 (iWrap .i64 (iShr .u64 (iWrap .u64 (iAdd .i64 a b)) 1)) m) 1) c0 cs rest toks tys)) b) (Tr.ite (rec_is0 off len (iWrap .i64 (iShr .u64 (iWrap .u64 (iAdd .i64 a b)) 1)) (iSub .i64 (iAdd .i64 (iWrap .i64 (iShr .u64 (iWrap .u64 (iAdd .i64 a b)) 1)) m) (sym5_n6 off len a m b (iWrap .i64 (iShr .u64 (iWrap .u64 (iAdd .i64 a b)) 1)) (iAdd .i64 (iWrap .i64 (iShr .u64 (iWrap .u64 (iAdd .i64 a b)) 1)) m) (iSub .i64 (iAdd .i64 (iWrap .i64 (iShr .u64 (iWrap .u64 (iAdd .i64 a b)) 1)) m) b) (iWrap .i64 (iShr .u64 (iWrap .u64 (iAdd .i64 a b)) 1)) (iSub .i64 (iAdd .i64 (iWrap .i64 (iShr .u64 (iWrap .u64 (iAdd .i64 a b)) 1)) m) 1) c0 cs rest toks tys)) b c0 (sym5_l2 off len a m b (iWrap .i64 (iShr .u64 (iWrap .u64 (iAdd .i64 a b)) 1)) (iAdd .i64 (iWrap .i64 (iShr .u64 (iWrap .u64 (iAdd .i64 a b)) 1)) m) (iSub .i64 (iAdd .i64 (iWrap .i64 (iShr .u64 (iWrap .u64 (iAdd .i64 a b)) 1)) m) b) (iWrap .i64 (iShr .u64 (iWrap .u64 (iAdd .i64 a b)) 1)) (iSub .i64 (iAdd .i64 (iWrap .i64 (iShr .u64 (iWrap .u64 (iAdd .i64 a b)) 1)) m) 1) c0 cs rest toks tys) rest toks tys) (Tr.ret (PV.tup [], Store.mk (c0 :: rec_l off len (iWrap .i64 (iShr .u64 (iWrap .u64 (iAdd .i64 a b)) 1)) (iSub .i64 (iAdd .i64 (iWrap .i64 (iShr .u64 (iWrap .u64 (iAdd .i64 a b)) 1)) m)
 (sym5_n6 off len a m b (iWrap .i64 (iShr .u64 (iWrap .u64 (iAdd .i64 a b)) 1)) (iAdd .i64 (iWrap .i64 (iShr .u64 (iWrap .u64 (iAdd .i64 a b)) 1)) m) (iSub .i64 (iAdd .i64 (iWrap .i64 (iShr .u64 (iWrap .u64 (iAdd .i64 a b)) 1)) m) b) (iWrap .i64 (iShr .u64 (iWrap .u64 (iAdd .i64 a b)) 1)) (iSub .i64 (iAdd .i64 (iWrap .i64 (iShr .u64 (iWrap .u64 (iAdd .i64 a b)) 1)) m) 1) c0 cs rest toks tys)) b c0 (sym5_l2 off len a m b (iWrap .i64 (iShr .u64 (iWrap .u64 (iAdd .i64 a b)) 1)) (iAdd .i64 (iWrap .i64 (iShr .u64 (iWrap .u64 (iAdd .i64 a b)) 1)) m) (iSub .i64 (iAdd .i64 (iWrap .i64 (iShr .u64 (iWrap .u64 (iAdd .i64 a b)) 1)) m) b) (iWrap .i64 (iShr .u64 (iWrap .u64 (iAdd .i64 a b)) 1)) (iSub .i64 (iAdd .i64 (iWrap .i64 (iShr .u64 (iWrap .u64 (iAdd .i64 a b)) 1)) m) 1) c0 cs rest toks tys) rest toks tys :: rest) toks (82 :: 1000023 :: tys))) Tr.fail) (Tr.ret (PV.tup [], Store.mk (c0 :: sym5_l2 off len a m b (iWrap .i64 (iShr .u64 (iWrap .u64 (iAdd .i64 a b)) 1)) (iAdd .i64 (iWrap .i64 (iShr .u64 (iWrap .u64 (iAdd .i64 a b)) 1)) m) (iSub .i64 (iAdd .i64 (iWrap .i64 (iShr .u64 (iWrap .u64 (iAdd .i64 a b)) 1)) m) b) (iWrap .i64 (iShr .u64 (iWrap .u64 (iAdd .i64 a b)) 1)) (iSub .i64 (iAdd .i64 (iWrap .i64 (iShr .u64 (iWrap .u64 (iAdd .i64 a b)) 1)) m) 1) c0 cs rest toks tys :: rest) toks (82 :: 1000023 :: tys)))) (Tr.ret (PV.tup [], Store.mk (c0 :: sym5_l2 off len a m b (iWrap .i64 (iShr .u64 (iWrap .u64 (iAdd .i64 a b)) 1)) (iAdd .i64 (iWrap .i64 (iShr .u64 (iWrap .u64 (iAdd .i64 a b)) 1)) m) (iSub .i64 (iAdd .i64 (iWrap .i64 (iShr .u64 (iWrap .u64 (iAdd .i64 a b)) 1)) m) b) (iWrap .i64 (iShr .u64 (iWrap .u64 (iAdd .i64 a b)) 1)) (iSub .i64 (iAdd .i64 (iWrap .i64 (iShr .u64 (iWrap .u64 (iAdd .i64 a b)) 1)) m) 1) c0 cs rest toks tys :: rest) toks (82 :: 1000023 :: tys)))))) (Tr.ite (iLt a (sym5_n6 off len a m b (iWrap .i64 (iShr .u64 (iWrap .u64 (iAdd .i64 a b)) 1)) (iAdd .i64 (iWrap .i64 (iShr .u64 (iWrap .u64 (iAdd .i64 a b)) 1)) m)
 (iSub .i64 (iAdd .i64 (iWrap .i64 (iShr .u64 (iWrap .u64 (iAdd .i64 a b)) 1)) m) b) (iWrap .i64 (iShr .u64 (iWrap .u64 (iAdd .i64 a b)) 1)) (iSub .i64 (iAdd .i64 (iWrap .i64 (iShr .u64 (iWrap .u64 (iAdd .i64 a b)) 1)) m) 1) c0 cs rest toks tys)) (Tr.ite (iLt (sym5_n6 off len a m b (iWrap .i64 (iShr .u64 (iWrap .u64 (iAdd .i64 a b)) 1)) (iAdd .i64 (iWrap .i64 (iShr .u64 (iWrap .u64 (iAdd .i64 a b)) 1)) m) (iSub .i64 (iAdd .i64 (iWrap .i64 (iShr .u64 (iWrap .u64 (iAdd .i64 a b)) 1)) m) b) (iWrap .i64 (iShr .u64 (iWrap .u64 (iAdd .i64 a b)) 1)) (iSub .i64 (iAdd .i64 (iWrap .i64 (iShr .u64 (iWrap .u64 (iAdd .i64 a b)) 1)) m) 1) c0 cs rest toks tys) (iWrap .i64 (iShr .u64 (iWrap .u64 (iAdd .i64 a b)) 1))) (Tr.ite (rec_is0 off len a (sym5_n6 off len a m b (iWrap .i64 (iShr .u64 (iWrap .u64 (iAdd .i64 a b)) 1)) (iAdd .i64 (iWrap .i64 (iShr .u64 (iWrap .u64 (iAdd .i64 a b)) 1)) m) (iSub .i64 (iAdd .i64 (iWrap .i64 (iShr .u64 (iWrap .u64 (iAdd .i64 a b)) 1)) m) b) (iWrap .i64 (iShr .u64 (iWrap .u64 (iAdd .i64 a b)) 1)) (iSub .i64 (iAdd .i64 (iWrap .i64 (iShr .u64 (iWrap .u64 (iAdd .i64 a b)) 1)) m) 1) c0 cs rest toks tys) (iWrap .i64 (iShr .u64 (iWrap .u64 (iAdd .i64 a b)) 1)) c0 (sym5_l2 off len a m b (iWrap .i64 (iShr .u64 (iWrap .u64 (iAdd .i64 a b)) 1)) (iAdd .i64 (iWrap .i64 (iShr .u64 (iWrap .u64 (iAdd .i64 a b)) 1)) m) (iSub .i64 (iAdd .i64 (iWrap .i64 (iShr .u64 (iWrap .u64 (iAdd .i64 a b)) 1)) m) b) (iWrap .i64 (iShr .u64 (iWrap .u64 (iAdd .i64 a b)) 1)) (iSub .i64 (iAdd .i64 (iWrap .i64 (iShr .u64 (iWrap .u64 (iAdd .i64 a b)) 1)) m) 1) c0 cs rest toks tys) rest toks tys) (Tr.ite (iLt (iWrap .i64 (iShr .u64 (iWrap .u64 (iAdd .i64 a b)) 1)) (iSub .i64 (iAdd .i64 (iWrap .i64 (iShr .u64 (iWrap .u64 (iAdd .i64 a b)) 1)) m) (sym5_n6 off len a m b (iWrap .i64 (iShr .u64 (iWrap .u64 (iAdd .i64 a b)) 1)) (iAdd .i64 (iWrap .i64 (iShr .u64 (iWrap .u64 (iAdd .i64 a b)) 1)) m) (iSub .i64 (iAdd .i64 (iWrap .i64 (iShr .u64 (iWrap .u64 (iAdd .i64 a b)) 1)) m) b)
 (iWrap .i64 (iShr .u64 (iWrap .u64 (iAdd .i64 a b)) 1)) (iSub .i64 (iAdd .i64 (iWrap .i64 (iShr .u64 (iWrap .u64 (iAdd .i64 a b)) 1)) m) 1) c0 cs rest toks tys))) (Tr.ite (iLt (iSub .i64 (iAdd .i64 (iWrap .i64 (iShr .u64 (iWrap .u64 (iAdd .i64 a b)) 1)) m) (sym5_n6 off len a m b (iWrap .i64 (iShr .u64 (iWrap .u64 (iAdd .i64 a b)) 1)) (iAdd .i64 (iWrap .i64 (iShr .u64 (iWrap .u64 (iAdd .i64 a b)) 1)) m) (iSub .i64 (iAdd .i64 (iWrap .i64 (iShr .u64 (iWrap .u64 (iAdd .i64 a b)) 1)) m) b) (iWrap .i64 (iShr .u64 (iWrap .u64 (iAdd .i64 a b)) 1)) (iSub .i64 (iAdd .i64 (iWrap .i64 (iShr .u64 (iWrap .u64 (iAdd .i64 a b)) 1)) m) 1) c0 cs rest toks tys)) b) (Tr.ite (rec_is0 off len (iWrap .i64 (iShr .u64 (iWrap .u64 (iAdd .i64 a b)) 1)) (iSub .i64 (iAdd .i64 (iWrap .i64 (iShr .u64 (iWrap .u64 (iAdd .i64 a b)) 1)) m) (sym5_n6 off len a m b (iWrap .i64 (iShr .u64 (iWrap .u64 (iAdd .i64 a b)) 1)) (iAdd .i64 (iWrap .i64 (iShr .u64 (iWrap .u64 (iAdd .i64 a b)) 1)) m) (iSub .i64 (iAdd .i64 (iWrap .i64 (iShr .u64 (iWrap .u64 (iAdd .i64 a b)) 1)) m) b) (iWrap .i64 (iShr .u64 (iWrap .u64 (iAdd .i64 a b)) 1)) (iSub .i64 (iAdd .i64 (iWrap .i64 (iShr .u64 (iWrap .u64 (iAdd .i64 a b)) 1)) m) 1) c0 cs rest toks tys)) b c0 (rec_l off len a (sym5_n6 off len a m b (iWrap .i64 (iShr .u64 (iWrap .u64 (iAdd .i64 a b)) 1)) (iAdd .i64 (iWrap .i64 (iShr .u64 (iWrap .u64 (iAdd .i64 a b)) 1)) m) (iSub .i64 (iAdd .i64 (iWrap .i64 (iShr .u64 (iWrap .u64 (iAdd .i64 a b)) 1)) m) b) (iWrap .i64 (iShr .u64 (iWrap .u64 (iAdd .i64 a b)) 1)) (iSub .i64 (iAdd .i64 (iWrap .i64 (iShr .u64 (iWrap .u64 (iAdd .i64 a b)) 1)) m) 1) c0 cs rest toks tys) (iWrap .i64 (iShr .u64 (iWrap .u64 (iAdd .i64 a b)) 1)) c0 (sym5_l2 off len a m b (iWrap .i64 (iShr .u64 (iWrap .u64 (iAdd .i64 a b)) 1)) (iAdd .i64 (iWrap .i64 (iShr .u64 (iWrap .u64 (iAdd .i64 a b)) 1)) m) (iSub .i64 (iAdd .i64 (iWrap .i64 (iShr .u64 (iWrap .u64 (iAdd .i64 a b)) 1)) m) b) (iWrap .i64 (iShr .u64 (iWrap .u64 (iAdd .i64 a b)) 1))
 (iSub .i64 (iAdd .i64 (iWrap .i64 (iShr .u64 (iWrap .u64 (iAdd .i64 a b)) 1)) m) 1) c0 cs rest toks tys) rest toks tys) rest toks tys) (Tr.ret (PV.tup [], Store.mk (c0 :: rec_l off len (iWrap .i64 (iShr .u64 (iWrap .u64 (iAdd .i64 a b)) 1)) (iSub .i64 (iAdd .i64 (iWrap .i64 (iShr .u64 (iWrap .u64 (iAdd .i64 a b)) 1)) m) (sym5_n6 off len a m b (iWrap .i64 (iShr .u64 (iWrap .u64 (iAdd .i64 a b)) 1)) (iAdd .i64 (iWrap .i64 (iShr .u64 (iWrap .u64 (iAdd .i64 a b)) 1)) m) (iSub .i64 (iAdd .i64 (iWrap .i64 (iShr .u64 (iWrap .u64 (iAdd .i64 a b)) 1)) m) b) (iWrap .i64 (iShr .u64 (iWrap .u64 (iAdd .i64 a b)) 1)) (iSub .i64 (iAdd .i64 (iWrap .i64 (iShr .u64 (iWrap .u64 (iAdd .i64 a b)) 1)) m) 1) c0 cs rest toks tys)) b c0 (rec_l off len a (sym5_n6 off len a m b (iWrap .i64 (iShr .u64 (iWrap .u64 (iAdd .i64 a b)) 1)) (iAdd .i64 (iWrap .i64 (iShr .u64 (iWrap .u64 (iAdd .i64 a b)) 1)) m) (iSub .i64 (iAdd .i64 (iWrap .i64 (iShr .u64 (iWrap .u64 (iAdd .i64 a b)) 1)) m) b) (iWrap .i64 (iShr .u64 (iWrap .u64 (iAdd .i64 a b)) 1)) (iSub .i64 (iAdd .i64 (iWrap .i64 (iShr .u64 (iWrap .u64 (iAdd .i64 a b)) 1)) m) 1) c0 cs rest toks tys) (iWrap .i64 (iShr .u64 (iWrap .u64 (iAdd .i64 a b)) 1)) c0 (sym5_l2 off len a m b (iWrap .i64 (iShr .u64 (iWrap .u64 (iAdd .i64 a b)) 1)) (iAdd .i64 (iWrap .i64 (iShr .u64 (iWrap .u64 (iAdd .i64 a b)) 1)) m) (iSub .i64 (iAdd .i64 (iWrap .i64 (iShr .u64 (iWrap .u64 (iAdd .i64 a b)) 1)) m) b) (iWrap .i64 (iShr .u64 (iWrap .u64 (iAdd .i64 a b)) 1)) (iSub .i64 (iAdd .i64 (iWrap .i64 (iShr .u64 (iWrap .u64 (iAdd .i64 a b)) 1)) m) 1) c0 cs rest toks tys) rest toks tys) rest toks tys :: rest) toks (82 :: 1000023 :: tys))) Tr.fail) (Tr.ret (PV.tup [], Store.mk (c0 :: rec_l off len a (sym5_n6 off len a m b (iWrap .i64 (iShr .u64 (iWrap .u64 (iAdd .i64 a b)) 1)) (iAdd .i64 (iWrap .i64 (iShr .u64 (iWrap .u64 (iAdd .i64 a b)) 1)) m) (iSub .i64 (iAdd .i64 (iWrap .i64 (iShr .u64 (iWrap .u64 (iAdd .i64 a b)) 1)) m) b)
 (iWrap .i64 (iShr .u64 (iWrap .u64 (iAdd .i64 a b)) 1)) (iSub .i64 (iAdd .i64 (iWrap .i64 (iShr .u64 (iWrap .u64 (iAdd .i64 a b)) 1)) m) 1) c0 cs rest toks tys) (iWrap .i64 (iShr .u64 (iWrap .u64 (iAdd .i64 a b)) 1)) c0 (sym5_l2 off len a m b (iWrap .i64 (iShr .u64 (iWrap .u64 (iAdd .i64 a b)) 1)) (iAdd .i64 (iWrap .i64 (iShr .u64 (iWrap .u64 (iAdd .i64 a b)) 1)) m) (iSub .i64 (iAdd .i64 (iWrap .i64 (iShr .u64 (iWrap .u64 (iAdd .i64 a b)) 1)) m) b) (iWrap .i64 (iShr .u64 (iWrap .u64 (iAdd .i64 a b)) 1)) (iSub .i64 (iAdd .i64 (iWrap .i64 (iShr .u64 (iWrap .u64 (iAdd .i64 a b)) 1)) m) 1) c0 cs rest toks tys) rest toks tys :: rest) toks (82 :: 1000023 :: tys)))) (Tr.ret (PV.tup [], Store.mk (c0 :: rec_l off len a (sym5_n6 off len a m b (iWrap .i64 (iShr .u64 (iWrap .u64 (iAdd .i64 a b)) 1)) (iAdd .i64 (iWrap .i64 (iShr .u64 (iWrap .u64 (iAdd .i64 a b)) 1)) m) (iSub .i64 (iAdd .i64 (iWrap .i64 (iShr .u64 (iWrap .u64 (iAdd .i64 a b)) 1)) m) b) (iWrap .i64 (iShr .u64 (iWrap .u64 (iAdd .i64 a b)) 1)) (iSub .i64 (iAdd .i64 (iWrap .i64 (iShr .u64 (iWrap .u64 (iAdd .i64 a b)) 1)) m) 1) c0 cs rest toks tys) (iWrap .i64 (iShr .u64 (iWrap .u64 (iAdd .i64 a b)) 1)) c0 (sym5_l2 off len a m b (iWrap .i64 (iShr .u64 (iWrap .u64 (iAdd .i64 a b)) 1)) (iAdd .i64 (iWrap .i64 (iShr .u64 (iWrap .u64 (iAdd .i64 a b)) 1)) m) (iSub .i64 (iAdd .i64 (iWrap .i64 (iShr .u64 (iWrap .u64 (iAdd .i64 a b)) 1)) m) b) (iWrap .i64 (iShr .u64 (iWrap .u64 (iAdd .i64 a b)) 1)) (iSub .i64 (iAdd .i64 (iWrap .i64 (iShr .u64 (iWrap .u64 (iAdd .i64 a b)) 1)) m) 1) c0 cs rest toks tys) rest toks tys :: rest) toks (82 :: 1000023 :: tys)))) Tr.fail) (Tr.ite (iLt (iWrap .i64 (iShr .u64 (iWrap .u64 (iAdd .i64 a b)) 1)) (iSub .i64 (iAdd .i64 (iWrap .i64 (iShr .u64 (iWrap .u64 (iAdd .i64 a b)) 1)) m) (sym5_n6 off len a m b (iWrap .i64 (iShr .u64 (iWrap .u64 (iAdd .i64 a b)) 1)) (iAdd .i64 (iWrap .i64 (iShr .u64 (iWrap .u64 (iAdd .i64 a b)) 1)) m)
 (iSub .i64 (iAdd .i64 (iWrap .i64 (iShr .u64 (iWrap .u64 (iAdd .i64 a b)) 1)) m) b) (iWrap .i64 (iShr .u64 (iWrap .u64 (iAdd .i64 a b)) 1)) (iSub .i64 (iAdd .i64 (iWrap .i64 (iShr .u64 (iWrap .u64 (iAdd .i64 a b)) 1)) m) 1) c0 cs rest toks tys))) (Tr.ite (iLt (iSub .i64 (iAdd .i64 (iWrap .i64 (iShr .u64 (iWrap .u64 (iAdd .i64 a b)) 1)) m) (sym5_n6 off len a m b (iWrap .i64 (iShr .u64 (iWrap .u64 (iAdd .i64 a b)) 1)) (iAdd .i64 (iWrap .i64 (iShr .u64 (iWrap .u64 (iAdd .i64 a b)) 1)) m) (iSub .i64 (iAdd .i64 (iWrap .i64 (iShr .u64 (iWrap .u64 (iAdd .i64 a b)) 1)) m) b) (iWrap .i64 (iShr .u64 (iWrap .u64 (iAdd .i64 a b)) 1)) (iSub .i64 (iAdd .i64 (iWrap .i64 (iShr .u64 (iWrap .u64 (iAdd .i64 a b)) 1)) m) 1) c0 cs rest toks tys)) b) (Tr.ite (rec_is0 off len (iWrap .i64 (iShr .u64 (iWrap .u64 (iAdd .i64 a b)) 1)) (iSub .i64 (iAdd .i64 (iWrap .i64 (iShr .u64 (iWrap .u64 (iAdd .i64 a b)) 1)) m) (sym5_n6 off len a m b (iWrap .i64 (iShr .u64 (iWrap .u64 (iAdd .i64 a b)) 1)) (iAdd .i64 (iWrap .i64 (iShr .u64 (iWrap .u64 (iAdd .i64 a b)) 1)) m) (iSub .i64 (iAdd .i64 (iWrap .i64 (iShr .u64 (iWrap .u64 (iAdd .i64 a b)) 1)) m) b) (iWrap .i64 (iShr .u64 (iWrap .u64 (iAdd .i64 a b)) 1)) (iSub .i64 (iAdd .i64 (iWrap .i64 (iShr .u64 (iWrap .u64 (iAdd .i64 a b)) 1)) m) 1) c0 cs rest toks tys)) b c0 (sym5_l2 off len a m b (iWrap .i64 (iShr .u64 (iWrap .u64 (iAdd .i64 a b)) 1)) (iAdd .i64 (iWrap .i64 (iShr .u64 (iWrap .u64 (iAdd .i64 a b)) 1)) m) (iSub .i64 (iAdd .i64 (iWrap .i64 (iShr .u64 (iWrap .u64 (iAdd .i64 a b)) 1)) m) b) (iWrap .i64 (iShr .u64 (iWrap .u64 (iAdd .i64 a b)) 1)) (iSub .i64 (iAdd .i64 (iWrap .i64 (iShr .u64 (iWrap .u64 (iAdd .i64 a b)) 1)) m) 1) c0 cs rest toks tys) rest toks tys) (Tr.ret (PV.tup [], Store.mk (c0 :: rec_l off len (iWrap .i64 (iShr .u64 (iWrap .u64 (iAdd .i64 a b)) 1)) (iSub .i64 (iAdd .i64 (iWrap .i64 (iShr .u64 (iWrap .u64 (iAdd .i64 a b)) 1)) m) (sym5_n6 off len a m b (iWrap .i64 (iShr .u64 (iWrap .u64 (iAdd .i64 a b)) 1))
 (iAdd .i64 (iWrap .i64 (iShr .u64 (iWrap .u64 (iAdd .i64 a b)) 1)) m) (iSub .i64 (iAdd .i64 (iWrap .i64 (iShr .u64 (iWrap .u64 (iAdd .i64 a b)) 1)) m) b) (iWrap .i64 (iShr .u64 (iWrap .u64 (iAdd .i64 a b)) 1)) (iSub .i64 (iAdd .i64 (iWrap .i64 (iShr .u64 (iWrap .u64 (iAdd .i64 a b)) 1)) m) 1) c0 cs rest toks tys)) b c0 (sym5_l2 off len a m b (iWrap .i64 (iShr .u64 (iWrap .u64 (iAdd .i64 a b)) 1)) (iAdd .i64 (iWrap .i64 (iShr .u64 (iWrap .u64 (iAdd .i64 a b)) 1)) m) (iSub .i64 (iAdd .i64 (iWrap .i64 (iShr .u64 (iWrap .u64 (iAdd .i64 a b)) 1)) m) b) (iWrap .i64 (iShr .u64 (iWrap .u64 (iAdd .i64 a b)) 1)) (iSub .i64 (iAdd .i64 (iWrap .i64 (iShr .u64 (iWrap .u64 (iAdd .i64 a b)) 1)) m) 1) c0 cs rest toks tys) rest toks tys :: rest) toks (82 :: 1000023 :: tys))) Tr.fail) (Tr.ret (PV.tup [], Store.mk (c0 :: sym5_l2 off len a m b (iWrap .i64 (iShr .u64 (iWrap .u64 (iAdd .i64 a b)) 1)) (iAdd .i64 (iWrap .i64 (iShr .u64 (iWrap .u64 (iAdd .i64 a b)) 1)) m) (iSub .i64 (iAdd .i64 (iWrap .i64 (iShr .u64 (iWrap .u64 (iAdd .i64 a b)) 1)) m) b) (iWrap .i64 (iShr .u64 (iWrap .u64 (iAdd .i64 a b)) 1)) (iSub .i64 (iAdd .i64 (iWrap .i64 (iShr .u64 (iWrap .u64 (iAdd .i64 a b)) 1)) m) 1) c0 cs rest toks tys :: rest) toks (82 :: 1000023 :: tys)))) (Tr.ret (PV.tup [], Store.mk (c0 :: sym5_l2 off len a m b (iWrap .i64 (iShr .u64 (iWrap .u64 (iAdd .i64 a b)) 1)) (iAdd .i64 (iWrap .i64 (iShr .u64 (iWrap .u64 (iAdd .i64 a b)) 1)) m) (iSub .i64 (iAdd .i64 (iWrap .i64 (iShr .u64 (iWrap .u64 (iAdd .i64 a b)) 1)) m) b) (iWrap .i64 (iShr .u64 (iWrap .u64 (iAdd .i64 a b)) 1)) (iSub .i64 (iAdd .i64 (iWrap .i64 (iShr .u64 (iWrap .u64 (iAdd .i64 a b)) 1)) m) 1) c0 cs rest toks tys :: rest) toks (82 :: 1000023 :: tys))))) (Tr.ite (iLt (iWrap .i64 (iShr .u64 (iWrap .u64 (iAdd .i64 a b)) 1)) (iSub .i64 (iAdd .i64 (iWrap .i64 (iShr .u64 (iWrap .u64 (iAdd .i64 a b)) 1)) m) (sym5_n6 off len a m b (iWrap .i64 (iShr .u64 (iWrap .u64 (iAdd .i64 a b)) 1))
 (iAdd .i64 (iWrap .i64 (iShr .u64 (iWrap .u64 (iAdd .i64 a b)) 1)) m) (iSub .i64 (iAdd .i64 (iWrap .i64 (iShr .u64 (iWrap .u64 (iAdd .i64 a b)) 1)) m) b) (iWrap .i64 (iShr .u64 (iWrap .u64 (iAdd .i64 a b)) 1)) (iSub .i64 (iAdd .i64 (iWrap .i64 (iShr .u64 (iWrap .u64 (iAdd .i64 a b)) 1)) m) 1) c0 cs rest toks tys))) (Tr.ite (iLt (iSub .i64 (iAdd .i64 (iWrap .i64 (iShr .u64 (iWrap .u64 (iAdd .i64 a b)) 1)) m) (sym5_n6 off len a m b (iWrap .i64 (iShr .u64 (iWrap .u64 (iAdd .i64 a b)) 1)) (iAdd .i64 (iWrap .i64 (iShr .u64 (iWrap .u64 (iAdd .i64 a b)) 1)) m) (iSub .i64 (iAdd .i64 (iWrap .i64 (iShr .u64 (iWrap .u64 (iAdd .i64 a b)) 1)) m) b) (iWrap .i64 (iShr .u64 (iWrap .u64 (iAdd .i64 a b)) 1)) (iSub .i64 (iAdd .i64 (iWrap .i64 (iShr .u64 (iWrap .u64 (iAdd .i64 a b)) 1)) m) 1) c0 cs rest toks tys)) b) (Tr.ite (rec_is0 off len (iWrap .i64 (iShr .u64 (iWrap .u64 (iAdd .i64 a b)) 1)) (iSub .i64 (iAdd .i64 (iWrap .i64 (iShr .u64 (iWrap .u64 (iAdd .i64 a b)) 1)) m) (sym5_n6 off len a m b (iWrap .i64 (iShr .u64 (iWrap .u64 (iAdd .i64 a b)) 1)) (iAdd .i64 (iWrap .i64 (iShr .u64 (iWrap .u64 (iAdd .i64 a b)) 1)) m) (iSub .i64 (iAdd .i64 (iWrap .i64 (iShr .u64 (iWrap .u64 (iAdd .i64 a b)) 1)) m) b) (iWrap .i64 (iShr .u64 (iWrap .u64 (iAdd .i64 a b)) 1)) (iSub .i64 (iAdd .i64 (iWrap .i64 (iShr .u64 (iWrap .u64 (iAdd .i64 a b)) 1)) m) 1) c0 cs rest toks tys)) b c0 (sym5_l2 off len a m b (iWrap .i64 (iShr .u64 (iWrap .u64 (iAdd .i64 a b)) 1)) (iAdd .i64 (iWrap .i64 (iShr .u64 (iWrap .u64 (iAdd .i64 a b)) 1)) m) (iSub .i64 (iAdd .i64 (iWrap .i64 (iShr .u64 (iWrap .u64 (iAdd .i64 a b)) 1)) m) b) (iWrap .i64 (iShr .u64 (iWrap .u64 (iAdd .i64 a b)) 1)) (iSub .i64 (iAdd .i64 (iWrap .i64 (iShr .u64 (iWrap .u64 (iAdd .i64 a b)) 1)) m) 1) c0 cs rest toks tys) rest toks tys) (Tr.ret (PV.tup [], Store.mk (c0 :: rec_l off len (iWrap .i64 (iShr .u64 (iWrap .u64 (iAdd .i64 a b)) 1)) (iSub .i64 (iAdd .i64 (iWrap .i64 (iShr .u64 (iWrap .u64 (iAdd .i64 a b)) 1)) m)
 (sym5_n6 off len a m b (iWrap .i64 (iShr .u64 (iWrap .u64 (iAdd .i64 a b)) 1)) (iAdd .i64 (iWrap .i64 (iShr .u64 (iWrap .u64 (iAdd .i64 a b)) 1)) m) (iSub .i64 (iAdd .i64 (iWrap .i64 (iShr .u64 (iWrap .u64 (iAdd .i64 a b)) 1)) m) b) (iWrap .i64 (iShr .u64 (iWrap .u64 (iAdd .i64 a b)) 1)) (iSub .i64 (iAdd .i64 (iWrap .i64 (iShr .u64 (iWrap .u64 (iAdd .i64 a b)) 1)) m) 1) c0 cs rest toks tys)) b c0 (sym5_l2 off len a m b (iWrap .i64 (iShr .u64 (iWrap .u64 (iAdd .i64 a b)) 1)) (iAdd .i64 (iWrap .i64 (iShr .u64 (iWrap .u64 (iAdd .i64 a b)) 1)) m) (iSub .i64 (iAdd .i64 (iWrap .i64 (iShr .u64 (iWrap .u64 (iAdd .i64 a b)) 1)) m) b) (iWrap .i64 (iShr .u64 (iWrap .u64 (iAdd .i64 a b)) 1)) (iSub .i64 (iAdd .i64 (iWrap .i64 (iShr .u64 (iWrap .u64 (iAdd .i64 a b)) 1)) m) 1) c0 cs rest toks tys) rest toks tys :: rest) toks (82 :: 1000023 :: tys))) Tr.fail) (Tr.ret (PV.tup [], Store.mk (c0 :: sym5_l2 off len a m b (iWrap .i64 (iShr .u64 (iWrap .u64 (iAdd .i64 a b)) 1)) (iAdd .i64 (iWrap .i64 (iShr .u64 (iWrap .u64 (iAdd .i64 a b)) 1)) m) (iSub .i64 (iAdd .i64 (iWrap .i64 (iShr .u64 (iWrap .u64 (iAdd .i64 a b)) 1)) m) b) (iWrap .i64 (iShr .u64 (iWrap .u64 (iAdd .i64 a b)) 1)) (iSub .i64 (iAdd .i64 (iWrap .i64 (iShr .u64 (iWrap .u64 (iAdd .i64 a b)) 1)) m) 1) c0 cs rest toks tys :: rest) toks (82 :: 1000023 :: tys)))) (Tr.ret (PV.tup [], Store.mk (c0 :: sym5_l2 off len a m b (iWrap .i64 (iShr .u64 (iWrap .u64 (iAdd .i64 a b)) 1)) (iAdd .i64 (iWrap .i64 (iShr .u64 (iWrap .u64 (iAdd .i64 a b)) 1)) m) (iSub .i64 (iAdd .i64 (iWrap .i64 (iShr .u64 (iWrap .u64 (iAdd .i64 a b)) 1)) m) b) (iWrap .i64 (iShr .u64 (iWrap .u64 (iAdd .i64 a b)) 1)) (iSub .i64 (iAdd .i64 (iWrap .i64 (iShr .u64 (iWrap .u64 (iAdd .i64 a b)) 1)) m) 1) c0 cs rest toks tys :: rest) toks (82 :: 1000023 :: tys)))))) Tr.fail) (Tr.ite (sym5_is0 off len a m b (iWrap .i64 (iShr .u64 (iWrap .u64 (iAdd .i64 a b)) 1)) (iAdd .i64 (iWrap .i64 (iShr .u64 (iWrap .u64 (iAdd .i64 a b)) 1)) m) a m
 (iSub .i64 (iAdd .i64 (iWrap .i64 (iShr .u64 (iWrap .u64 (iAdd .i64 a b)) 1)) m) 1) c0 cs rest toks tys) (Tr.ite (iLt (sym5_n6 off len a m b (iWrap .i64 (iShr .u64 (iWrap .u64 (iAdd .i64 a b)) 1)) (iAdd .i64 (iWrap .i64 (iShr .u64 (iWrap .u64 (iAdd .i64 a b)) 1)) m) a m (iSub .i64 (iAdd .i64 (iWrap .i64 (iShr .u64 (iWrap .u64 (iAdd .i64 a b)) 1)) m) 1) c0 cs rest toks tys) m) (Tr.ite (iLt m (iSub .i64 (iAdd .i64 (iWrap .i64 (iShr .u64 (iWrap .u64 (iAdd .i64 a b)) 1)) m) (sym5_n6 off len a m b (iWrap .i64 (iShr .u64 (iWrap .u64 (iAdd .i64 a b)) 1)) (iAdd .i64 (iWrap .i64 (iShr .u64 (iWrap .u64 (iAdd .i64 a b)) 1)) m) a m (iSub .i64 (iAdd .i64 (iWrap .i64 (iShr .u64 (iWrap .u64 (iAdd .i64 a b)) 1)) m) 1) c0 cs rest toks tys))) (Tr.ite (rot_is0 off len (sym5_n6 off len a m b (iWrap .i64 (iShr .u64 (iWrap .u64 (iAdd .i64 a b)) 1)) (iAdd .i64 (iWrap .i64 (iShr .u64 (iWrap .u64 (iAdd .i64 a b)) 1)) m) a m (iSub .i64 (iAdd .i64 (iWrap .i64 (iShr .u64 (iWrap .u64 (iAdd .i64 a b)) 1)) m) 1) c0 cs rest toks tys) m (iSub .i64 (iAdd .i64 (iWrap .i64 (iShr .u64 (iWrap .u64 (iAdd .i64 a b)) 1)) m) (sym5_n6 off len a m b (iWrap .i64 (iShr .u64 (iWrap .u64 (iAdd .i64 a b)) 1)) (iAdd .i64 (iWrap .i64 (iShr .u64 (iWrap .u64 (iAdd .i64 a b)) 1)) m) a m (iSub .i64 (iAdd .i64 (iWrap .i64 (iShr .u64 (iWrap .u64 (iAdd .i64 a b)) 1)) m) 1) c0 cs rest toks tys)) c0 (sym5_l2 off len a m b (iWrap .i64 (iShr .u64 (iWrap .u64 (iAdd .i64 a b)) 1)) (iAdd .i64 (iWrap .i64 (iShr .u64 (iWrap .u64 (iAdd .i64 a b)) 1)) m) a m (iSub .i64 (iAdd .i64 (iWrap .i64 (iShr .u64 (iWrap .u64 (iAdd .i64 a b)) 1)) m) 1) c0 cs rest toks tys) rest toks tys) (Tr.ite (iLt a (sym5_n6 off len a m b (iWrap .i64 (iShr .u64 (iWrap .u64 (iAdd .i64 a b)) 1)) (iAdd .i64 (iWrap .i64 (iShr .u64 (iWrap .u64 (iAdd .i64 a b)) 1)) m) a m (iSub .i64 (iAdd .i64 (iWrap .i64 (iShr .u64 (iWrap .u64 (iAdd .i64 a b)) 1)) m) 1) c0 cs rest toks tys)) (Tr.ite (iLt
 (sym5_n6 off len a m b (iWrap .i64 (iShr .u64 (iWrap .u64 (iAdd .i64 a b)) 1)) (iAdd .i64 (iWrap .i64 (iShr .u64 (iWrap .u64 (iAdd .i64 a b)) 1)) m) a m (iSub .i64 (iAdd .i64 (iWrap .i64 (iShr .u64 (iWrap .u64 (iAdd .i64 a b)) 1)) m) 1) c0 cs rest toks tys) (iWrap .i64 (iShr .u64 (iWrap .u64 (iAdd .i64 a b)) 1))) (Tr.ite (rec_is0 off len a (sym5_n6 off len a m b (iWrap .i64 (iShr .u64 (iWrap .u64 (iAdd .i64 a b)) 1)) (iAdd .i64 (iWrap .i64 (iShr .u64 (iWrap .u64 (iAdd .i64 a b)) 1)) m) a m (iSub .i64 (iAdd .i64 (iWrap .i64 (iShr .u64 (iWrap .u64 (iAdd .i64 a b)) 1)) m) 1) c0 cs rest toks tys) (iWrap .i64 (iShr .u64 (iWrap .u64 (iAdd .i64 a b)) 1)) c0 (rot_l2 off len (sym5_n6 off len a m b (iWrap .i64 (iShr .u64 (iWrap .u64 (iAdd .i64 a b)) 1)) (iAdd .i64 (iWrap .i64 (iShr .u64 (iWrap .u64 (iAdd .i64 a b)) 1)) m) a m (iSub .i64 (iAdd .i64 (iWrap .i64 (iShr .u64 (iWrap .u64 (iAdd .i64 a b)) 1)) m) 1) c0 cs rest toks tys) m (iSub .i64 (iAdd .i64 (iWrap .i64 (iShr .u64 (iWrap .u64 (iAdd .i64 a b)) 1)) m) (sym5_n6 off len a m b (iWrap .i64 (iShr .u64 (iWrap .u64 (iAdd .i64 a b)) 1)) (iAdd .i64 (iWrap .i64 (iShr .u64 (iWrap .u64 (iAdd .i64 a b)) 1)) m) a m (iSub .i64 (iAdd .i64 (iWrap .i64 (iShr .u64 (iWrap .u64 (iAdd .i64 a b)) 1)) m) 1) c0 cs rest toks tys)) c0 (sym5_l2 off len a m b (iWrap .i64 (iShr .u64 (iWrap .u64 (iAdd .i64 a b)) 1)) (iAdd .i64 (iWrap .i64 (iShr .u64 (iWrap .u64 (iAdd .i64 a b)) 1)) m) a m (iSub .i64 (iAdd .i64 (iWrap .i64 (iShr .u64 (iWrap .u64 (iAdd .i64 a b)) 1)) m) 1) c0 cs rest toks tys) rest toks tys) rest toks tys) (Tr.ite (iLt (iWrap .i64 (iShr .u64 (iWrap .u64 (iAdd .i64 a b)) 1)) (iSub .i64 (iAdd .i64 (iWrap .i64 (iShr .u64 (iWrap .u64 (iAdd .i64 a b)) 1)) m) (sym5_n6 off len a m b (iWrap .i64 (iShr .u64 (iWrap .u64 (iAdd .i64 a b)) 1)) (iAdd .i64 (iWrap .i64 (iShr .u64 (iWrap .u64 (iAdd .i64 a b)) 1)) m) a m (iSub .i64 (iAdd .i64 (iWrap .i64 (iShr .u64 (iWrap .u64 (iAdd .i64 a b)) 1)) m) 1) c0 cs rest toks tys))) (Tr.ite (iLt
 (iSub .i64 (iAdd .i64 (iWrap .i64 (iShr .u64 (iWrap .u64 (iAdd .i64 a b)) 1)) m) (sym5_n6 off len a m b (iWrap .i64 (iShr .u64 (iWrap .u64 (iAdd .i64 a b)) 1)) (iAdd .i64 (iWrap .i64 (iShr .u64 (iWrap .u64 (iAdd .i64 a b)) 1)) m) a m (iSub .i64 (iAdd .i64 (iWrap .i64 (iShr .u64 (iWrap .u64 (iAdd .i64 a b)) 1)) m) 1) c0 cs rest toks tys)) b) (Tr.ite (rec_is0 off len (iWrap .i64 (iShr .u64 (iWrap .u64 (iAdd .i64 a b)) 1)) (iSub .i64 (iAdd .i64 (iWrap .i64 (iShr .u64 (iWrap .u64 (iAdd .i64 a b)) 1)) m) (sym5_n6 off len a m b (iWrap .i64 (iShr .u64 (iWrap .u64 (iAdd .i64 a b)) 1)) (iAdd .i64 (iWrap .i64 (iShr .u64 (iWrap .u64 (iAdd .i64 a b)) 1)) m) a m (iSub .i64 (iAdd .i64 (iWrap .i64 (iShr .u64 (iWrap .u64 (iAdd .i64 a b)) 1)) m) 1) c0 cs rest toks tys)) b c0 (rec_l off len a (sym5_n6 off len a m b (iWrap .i64 (iShr .u64 (iWrap .u64 (iAdd .i64 a b)) 1)) (iAdd .i64 (iWrap .i64 (iShr .u64 (iWrap .u64 (iAdd .i64 a b)) 1)) m) a m (iSub .i64 (iAdd .i64 (iWrap .i64 (iShr .u64 (iWrap .u64 (iAdd .i64 a b)) 1)) m) 1) c0 cs rest toks tys) (iWrap .i64 (iShr .u64 (iWrap .u64 (iAdd .i64 a b)) 1)) c0 (rot_l2 off len (sym5_n6 off len a m b (iWrap .i64 (iShr .u64 (iWrap .u64 (iAdd .i64 a b)) 1)) (iAdd .i64 (iWrap .i64 (iShr .u64 (iWrap .u64 (iAdd .i64 a b)) 1)) m) a m (iSub .i64 (iAdd .i64 (iWrap .i64 (iShr .u64 (iWrap .u64 (iAdd .i64 a b)) 1)) m) 1) c0 cs rest toks tys) m (iSub .i64 (iAdd .i64 (iWrap .i64 (iShr .u64 (iWrap .u64 (iAdd .i64 a b)) 1)) m) (sym5_n6 off len a m b (iWrap .i64 (iShr .u64 (iWrap .u64 (iAdd .i64 a b)) 1)) (iAdd .i64 (iWrap .i64 (iShr .u64 (iWrap .u64 (iAdd .i64 a b)) 1)) m) a m (iSub .i64 (iAdd .i64 (iWrap .i64 (iShr .u64 (iWrap .u64 (iAdd .i64 a b)) 1)) m) 1) c0 cs rest toks tys)) c0 (sym5_l2 off len a m b (iWrap .i64 (iShr .u64 (iWrap .u64 (iAdd .i64 a b)) 1)) (iAdd .i64 (iWrap .i64 (iShr .u64 (iWrap .u64 (iAdd .i64 a b)) 1)) m) a m (iSub .i64 (iAdd .i64 (iWrap .i64 (iShr .u64 (iWrap .u64 (iAdd .i64 a b)) 1)) m) 1) c0 cs rest toks tys) rest toks tys)
 rest toks tys) rest toks tys) (Tr.ret (PV.tup [], Store.mk (c0 :: rec_l off len (iWrap .i64 (iShr .u64 (iWrap .u64 (iAdd .i64 a b)) 1)) (iSub .i64 (iAdd .i64 (iWrap .i64 (iShr .u64 (iWrap .u64 (iAdd .i64 a b)) 1)) m) (sym5_n6 off len a m b (iWrap .i64 (iShr .u64 (iWrap .u64 (iAdd .i64 a b)) 1)) (iAdd .i64 (iWrap .i64 (iShr .u64 (iWrap .u64 (iAdd .i64 a b)) 1)) m) a m (iSub .i64 (iAdd .i64 (iWrap .i64 (iShr .u64 (iWrap .u64 (iAdd .i64 a b)) 1)) m) 1) c0 cs rest toks tys)) b c0 (rec_l off len a (sym5_n6 off len a m b (iWrap .i64 (iShr .u64 (iWrap .u64 (iAdd .i64 a b)) 1)) (iAdd .i64 (iWrap .i64 (iShr .u64 (iWrap .u64 (iAdd .i64 a b)) 1)) m) a m (iSub .i64 (iAdd .i64 (iWrap .i64 (iShr .u64 (iWrap .u64 (iAdd .i64 a b)) 1)) m) 1) c0 cs rest toks tys) (iWrap .i64 (iShr .u64 (iWrap .u64 (iAdd .i64 a b)) 1)) c0 (rot_l2 off len (sym5_n6 off len a m b (iWrap .i64 (iShr .u64 (iWrap .u64 (iAdd .i64 a b)) 1)) (iAdd .i64 (iWrap .i64 (iShr .u64 (iWrap .u64 (iAdd .i64 a b)) 1)) m) a m (iSub .i64 (iAdd .i64 (iWrap .i64 (iShr .u64 (iWrap .u64 (iAdd .i64 a b)) 1)) m) 1) c0 cs rest toks tys) m (iSub .i64 (iAdd .i64 (iWrap .i64 (iShr .u64 (iWrap .u64 (iAdd .i64 a b)) 1)) m) (sym5_n6 off len a m b (iWrap .i64 (iShr .u64 (iWrap .u64 (iAdd .i64 a b)) 1)) (iAdd .i64 (iWrap .i64 (iShr .u64 (iWrap .u64 (iAdd .i64 a b)) 1)) m) a m (iSub .i64 (iAdd .i64 (iWrap .i64 (iShr .u64 (iWrap .u64 (iAdd .i64 a b)) 1)) m) 1) c0 cs rest toks tys)) c0 (sym5_l2 off len a m b (iWrap .i64 (iShr .u64 (iWrap .u64 (iAdd .i64 a b)) 1)) (iAdd .i64 (iWrap .i64 (iShr .u64 (iWrap .u64 (iAdd .i64 a b)) 1)) m) a m (iSub .i64 (iAdd .i64 (iWrap .i64 (iShr .u64 (iWrap .u64 (iAdd .i64 a b)) 1)) m) 1) c0 cs rest toks tys) rest toks tys) rest toks tys) rest toks tys :: rest) toks (82 :: 1000023 :: tys))) Tr.fail) (Tr.ret (PV.tup [], Store.mk (c0 :: rec_l off len a (sym5_n6 off len a m b (iWrap .i64 (iShr .u64 (iWrap .u64 (iAdd .i64 a b)) 1)) (iAdd .i64 (iWrap .i64 (iShr .u64 (iWrap .u64 (iAdd .i64 a b)) 1)) m) a m
 (iSub .i64 (iAdd .i64 (iWrap .i64 (iShr .u64 (iWrap .u64 (iAdd .i64 a b)) 1)) m) 1) c0 cs rest toks tys) (iWrap .i64 (iShr .u64 (iWrap .u64 (iAdd .i64 a b)) 1)) c0 (rot_l2 off len (sym5_n6 off len a m b (iWrap .i64 (iShr .u64 (iWrap .u64 (iAdd .i64 a b)) 1)) (iAdd .i64 (iWrap .i64 (iShr .u64 (iWrap .u64 (iAdd .i64 a b)) 1)) m) a m (iSub .i64 (iAdd .i64 (iWrap .i64 (iShr .u64 (iWrap .u64 (iAdd .i64 a b)) 1)) m) 1) c0 cs rest toks tys) m (iSub .i64 (iAdd .i64 (iWrap .i64 (iShr .u64 (iWrap .u64 (iAdd .i64 a b)) 1)) m) (sym5_n6 off len a m b (iWrap .i64 (iShr .u64 (iWrap .u64 (iAdd .i64 a b)) 1)) (iAdd .i64 (iWrap .i64 (iShr .u64 (iWrap .u64 (iAdd .i64 a b)) 1)) m) a m (iSub .i64 (iAdd .i64 (iWrap .i64 (iShr .u64 (iWrap .u64 (iAdd .i64 a b)) 1)) m) 1) c0 cs rest toks tys)) c0 (sym5_l2 off len a m b (iWrap .i64 (iShr .u64 (iWrap .u64 (iAdd .i64 a b)) 1)) (iAdd .i64 (iWrap .i64 (iShr .u64 (iWrap .u64 (iAdd .i64 a b)) 1)) m) a m (iSub .i64 (iAdd .i64 (iWrap .i64 (iShr .u64 (iWrap .u64 (iAdd .i64 a b)) 1)) m) 1) c0 cs rest toks tys) rest toks tys) rest toks tys :: rest) toks (82 :: 1000023 :: tys)))) (Tr.ret (PV.tup [], Store.mk (c0 :: rec_l off len a (sym5_n6 off len a m b (iWrap .i64 (iShr .u64 (iWrap .u64 (iAdd .i64 a b)) 1)) (iAdd .i64 (iWrap .i64 (iShr .u64 (iWrap .u64 (iAdd .i64 a b)) 1)) m) a m (iSub .i64 (iAdd .i64 (iWrap .i64 (iShr .u64 (iWrap .u64 (iAdd .i64 a b)) 1)) m) 1) c0 cs rest toks tys) (iWrap .i64 (iShr .u64 (iWrap .u64 (iAdd .i64 a b)) 1)) c0 (rot_l2 off len (sym5_n6 off len a m b (iWrap .i64 (iShr .u64 (iWrap .u64 (iAdd .i64 a b)) 1)) (iAdd .i64 (iWrap .i64 (iShr .u64 (iWrap .u64 (iAdd .i64 a b)) 1)) m) a m (iSub .i64 (iAdd .i64 (iWrap .i64 (iShr .u64 (iWrap .u64 (iAdd .i64 a b)) 1)) m) 1) c0 cs rest toks tys) m (iSub .i64 (iAdd .i64 (iWrap .i64 (iShr .u64 (iWrap .u64 (iAdd .i64 a b)) 1)) m) (sym5_n6 off len a m b (iWrap .i64 (iShr .u64 (iWrap .u64 (iAdd .i64 a b)) 1)) (iAdd .i64 (iWrap .i64 (iShr .u64 (iWrap .u64 (iAdd .i64 a b)) 1)) m) a m
 (iSub .i64 (iAdd .i64 (iWrap .i64 (iShr .u64 (iWrap .u64 (iAdd .i64 a b)) 1)) m) 1) c0 cs rest toks tys)) c0 (sym5_l2 off len a m b (iWrap .i64 (iShr .u64 (iWrap .u64 (iAdd .i64 a b)) 1)) (iAdd .i64 (iWrap .i64 (iShr .u64 (iWrap .u64 (iAdd .i64 a b)) 1)) m) a m (iSub .i64 (iAdd .i64 (iWrap .i64 (iShr .u64 (iWrap .u64 (iAdd .i64 a b)) 1)) m) 1) c0 cs rest toks tys) rest toks tys) rest toks tys :: rest) toks (82 :: 1000023 :: tys)))) Tr.fail) (Tr.ite (iLt (iWrap .i64 (iShr .u64 (iWrap .u64 (iAdd .i64 a b)) 1)) (iSub .i64 (iAdd .i64 (iWrap .i64 (iShr .u64 (iWrap .u64 (iAdd .i64 a b)) 1)) m) (sym5_n6 off len a m b (iWrap .i64 (iShr .u64 (iWrap .u64 (iAdd .i64 a b)) 1)) (iAdd .i64 (iWrap .i64 (iShr .u64 (iWrap .u64 (iAdd .i64 a b)) 1)) m) a m (iSub .i64 (iAdd .i64 (iWrap .i64 (iShr .u64 (iWrap .u64 (iAdd .i64 a b)) 1)) m) 1) c0 cs rest toks tys))) (Tr.ite (iLt (iSub .i64 (iAdd .i64 (iWrap .i64 (iShr .u64 (iWrap .u64 (iAdd .i64 a b)) 1)) m) (sym5_n6 off len a m b (iWrap .i64 (iShr .u64 (iWrap .u64 (iAdd .i64 a b)) 1)) (iAdd .i64 (iWrap .i64 (iShr .u64 (iWrap .u64 (iAdd .i64 a b)) 1)) m) a m (iSub .i64 (iAdd .i64 (iWrap .i64 (iShr .u64 (iWrap .u64 (iAdd .i64 a b)) 1)) m) 1) c0 cs rest toks tys)) b) (Tr.ite (rec_is0 off len (iWrap .i64 (iShr .u64 (iWrap .u64 (iAdd .i64 a b)) 1)) (iSub .i64 (iAdd .i64 (iWrap .i64 (iShr .u64 (iWrap .u64 (iAdd .i64 a b)) 1)) m) (sym5_n6 off len a m b (iWrap .i64 (iShr .u64 (iWrap .u64 (iAdd .i64 a b)) 1)) (iAdd .i64 (iWrap .i64 (iShr .u64 (iWrap .u64 (iAdd .i64 a b)) 1)) m) a m (iSub .i64 (iAdd .i64 (iWrap .i64 (iShr .u64 (iWrap .u64 (iAdd .i64 a b)) 1)) m) 1) c0 cs rest toks tys)) b c0 (rot_l2 off len (sym5_n6 off len a m b (iWrap .i64 (iShr .u64 (iWrap .u64 (iAdd .i64 a b)) 1)) (iAdd .i64 (iWrap .i64 (iShr .u64 (iWrap .u64 (iAdd .i64 a b)) 1)) m) a m (iSub .i64 (iAdd .i64 (iWrap .i64 (iShr .u64 (iWrap .u64 (iAdd .i64 a b)) 1)) m) 1) c0 cs rest toks tys) m (iSub .i64 (iAdd .i64 (iWrap .i64 (iShr .u64 (iWrap .u64 (iAdd .i64 a b)) 1)) m)
 (sym5_n6 off len a m b (iWrap .i64 (iShr .u64 (iWrap .u64 (iAdd .i64 a b)) 1)) (iAdd .i64 (iWrap .i64 (iShr .u64 (iWrap .u64 (iAdd .i64 a b)) 1)) m) a m (iSub .i64 (iAdd .i64 (iWrap .i64 (iShr .u64 (iWrap .u64 (iAdd .i64 a b)) 1)) m) 1) c0 cs rest toks tys)) c0 (sym5_l2 off len a m b (iWrap .i64 (iShr .u64 (iWrap .u64 (iAdd .i64 a b)) 1)) (iAdd .i64 (iWrap .i64 (iShr .u64 (iWrap .u64 (iAdd .i64 a b)) 1)) m) a m (iSub .i64 (iAdd .i64 (iWrap .i64 (iShr .u64 (iWrap .u64 (iAdd .i64 a b)) 1)) m) 1) c0 cs rest toks tys) rest toks tys) rest toks tys) (Tr.ret (PV.tup [], Store.mk (c0 :: rec_l off len (iWrap .i64 (iShr .u64 (iWrap .u64 (iAdd .i64 a b)) 1)) (iSub .i64 (iAdd .i64 (iWrap .i64 (iShr .u64 (iWrap .u64 (iAdd .i64 a b)) 1)) m) (sym5_n6 off len a m b (iWrap .i64 (iShr .u64 (iWrap .u64 (iAdd .i64 a b)) 1)) (iAdd .i64 (iWrap .i64 (iShr .u64 (iWrap .u64 (iAdd .i64 a b)) 1)) m) a m (iSub .i64 (iAdd .i64 (iWrap .i64 (iShr .u64 (iWrap .u64 (iAdd .i64 a b)) 1)) m) 1) c0 cs rest toks tys)) b c0 (rot_l2 off len (sym5_n6 off len a m b (iWrap .i64 (iShr .u64 (iWrap .u64 (iAdd .i64 a b)) 1)) (iAdd .i64 (iWrap .i64 (iShr .u64 (iWrap .u64 (iAdd .i64 a b)) 1)) m) a m (iSub .i64 (iAdd .i64 (iWrap .i64 (iShr .u64 (iWrap .u64 (iAdd .i64 a b)) 1)) m) 1) c0 cs rest toks tys) m (iSub .i64 (iAdd .i64 (iWrap .i64 (iShr .u64 (iWrap .u64 (iAdd .i64 a b)) 1)) m) (sym5_n6 off len a m b (iWrap .i64 (iShr .u64 (iWrap .u64 (iAdd .i64 a b)) 1)) (iAdd .i64 (iWrap .i64 (iShr .u64 (iWrap .u64 (iAdd .i64 a b)) 1)) m) a m (iSub .i64 (iAdd .i64 (iWrap .i64 (iShr .u64 (iWrap .u64 (iAdd .i64 a b)) 1)) m) 1) c0 cs rest toks tys)) c0 (sym5_l2 off len a m b (iWrap .i64 (iShr .u64 (iWrap .u64 (iAdd .i64 a b)) 1)) (iAdd .i64 (iWrap .i64 (iShr .u64 (iWrap .u64 (iAdd .i64 a b)) 1)) m) a m (iSub .i64 (iAdd .i64 (iWrap .i64 (iShr .u64 (iWrap .u64 (iAdd .i64 a b)) 1)) m) 1) c0 cs rest toks tys) rest toks tys) rest toks tys :: rest) toks (82 :: 1000023 :: tys))) Tr.fail) (Tr.ret (PV.tup [], Store.mk (c0 ::
 rot_l2 off len (sym5_n6 off len a m b (iWrap .i64 (iShr .u64 (iWrap .u64 (iAdd .i64 a b)) 1)) (iAdd .i64 (iWrap .i64 (iShr .u64 (iWrap .u64 (iAdd .i64 a b)) 1)) m) a m (iSub .i64 (iAdd .i64 (iWrap .i64 (iShr .u64 (iWrap .u64 (iAdd .i64 a b)) 1)) m) 1) c0 cs rest toks tys) m (iSub .i64 (iAdd .i64 (iWrap .i64 (iShr .u64 (iWrap .u64 (iAdd .i64 a b)) 1)) m) (sym5_n6 off len a m b (iWrap .i64 (iShr .u64 (iWrap .u64 (iAdd .i64 a b)) 1)) (iAdd .i64 (iWrap .i64 (iShr .u64 (iWrap .u64 (iAdd .i64 a b)) 1)) m) a m (iSub .i64 (iAdd .i64 (iWrap .i64 (iShr .u64 (iWrap .u64 (iAdd .i64 a b)) 1)) m) 1) c0 cs rest toks tys)) c0 (sym5_l2 off len a m b (iWrap .i64 (iShr .u64 (iWrap .u64 (iAdd .i64 a b)) 1)) (iAdd .i64 (iWrap .i64 (iShr .u64 (iWrap .u64 (iAdd .i64 a b)) 1)) m) a m (iSub .i64 (iAdd .i64 (iWrap .i64 (iShr .u64 (iWrap .u64 (iAdd .i64 a b)) 1)) m) 1) c0 cs rest toks tys) rest toks tys :: rest) toks (82 :: 1000023 :: tys)))) (Tr.ret (PV.tup [], Store.mk (c0 :: rot_l2 off len (sym5_n6 off len a m b (iWrap .i64 (iShr .u64 (iWrap .u64 (iAdd .i64 a b)) 1)) (iAdd .i64 (iWrap .i64 (iShr .u64 (iWrap .u64 (iAdd .i64 a b)) 1)) m) a m (iSub .i64 (iAdd .i64 (iWrap .i64 (iShr .u64 (iWrap .u64 (iAdd .i64 a b)) 1)) m) 1) c0 cs rest toks tys) m (iSub .i64 (iAdd .i64 (iWrap .i64 (iShr .u64 (iWrap .u64 (iAdd .i64 a b)) 1)) m) (sym5_n6 off len a m b (iWrap .i64 (iShr .u64 (iWrap .u64 (iAdd .i64 a b)) 1)) (iAdd .i64 (iWrap .i64 (iShr .u64 (iWrap .u64 (iAdd .i64 a b)) 1)) m) a m (iSub .i64 (iAdd .i64 (iWrap .i64 (iShr .u64 (iWrap .u64 (iAdd .i64 a b)) 1)) m) 1) c0 cs rest toks tys)) c0 (sym5_l2 off len a m b (iWrap .i64 (iShr .u64 (iWrap .u64 (iAdd .i64 a b)) 1)) (iAdd .i64 (iWrap .i64 (iShr .u64 (iWrap .u64 (iAdd .i64 a b)) 1)) m) a m (iSub .i64 (iAdd .i64 (iWrap .i64 (iShr .u64 (iWrap .u64 (iAdd .i64 a b)) 1)) m) 1) c0 cs rest toks tys) rest toks tys :: rest) toks (82 :: 1000023 :: tys))))) (Tr.ite (iLt (iWrap .i64 (iShr .u64 (iWrap .u64 (iAdd .i64 a b)) 1))
 (iSub .i64 (iAdd .i64 (iWrap .i64 (iShr .u64 (iWrap .u64 (iAdd .i64 a b)) 1)) m) (sym5_n6 off len a m b (iWrap .i64 (iShr .u64 (iWrap .u64 (iAdd .i64 a b)) 1)) (iAdd .i64 (iWrap .i64 (iShr .u64 (iWrap .u64 (iAdd .i64 a b)) 1)) m) a m (iSub .i64 (iAdd .i64 (iWrap .i64 (iShr .u64 (iWrap .u64 (iAdd .i64 a b)) 1)) m) 1) c0 cs rest toks tys))) (Tr.ite (iLt (iSub .i64 (iAdd .i64 (iWrap .i64 (iShr .u64 (iWrap .u64 (iAdd .i64 a b)) 1)) m) (sym5_n6 off len a m b (iWrap .i64 (iShr .u64 (iWrap .u64 (iAdd .i64 a b)) 1)) (iAdd .i64 (iWrap .i64 (iShr .u64 (iWrap .u64 (iAdd .i64 a b)) 1)) m) a m (iSub .i64 (iAdd .i64 (iWrap .i64 (iShr .u64 (iWrap .u64 (iAdd .i64 a b)) 1)) m) 1) c0 cs rest toks tys)) b) (Tr.ite (rec_is0 off len (iWrap .i64 (iShr .u64 (iWrap .u64 (iAdd .i64 a b)) 1)) (iSub .i64 (iAdd .i64 (iWrap .i64 (iShr .u64 (iWrap .u64 (iAdd .i64 a b)) 1)) m) (sym5_n6 off len a m b (iWrap .i64 (iShr .u64 (iWrap .u64 (iAdd .i64 a b)) 1)) (iAdd .i64 (iWrap .i64 (iShr .u64 (iWrap .u64 (iAdd .i64 a b)) 1)) m) a m (iSub .i64 (iAdd .i64 (iWrap .i64 (iShr .u64 (iWrap .u64 (iAdd .i64 a b)) 1)) m) 1) c0 cs rest toks tys)) b c0 (rot_l2 off len (sym5_n6 off len a m b (iWrap .i64 (iShr .u64 (iWrap .u64 (iAdd .i64 a b)) 1)) (iAdd .i64 (iWrap .i64 (iShr .u64 (iWrap .u64 (iAdd .i64 a b)) 1)) m) a m (iSub .i64 (iAdd .i64 (iWrap .i64 (iShr .u64 (iWrap .u64 (iAdd .i64 a b)) 1)) m) 1) c0 cs rest toks tys) m (iSub .i64 (iAdd .i64 (iWrap .i64 (iShr .u64 (iWrap .u64 (iAdd .i64 a b)) 1)) m) (sym5_n6 off len a m b (iWrap .i64 (iShr .u64 (iWrap .u64 (iAdd .i64 a b)) 1)) (iAdd .i64 (iWrap .i64 (iShr .u64 (iWrap .u64 (iAdd .i64 a b)) 1)) m) a m (iSub .i64 (iAdd .i64 (iWrap .i64 (iShr .u64 (iWrap .u64 (iAdd .i64 a b)) 1)) m) 1) c0 cs rest toks tys)) c0 (sym5_l2 off len a m b (iWrap .i64 (iShr .u64 (iWrap .u64 (iAdd .i64 a b)) 1)) (iAdd .i64 (iWrap .i64 (iShr .u64 (iWrap .u64 (iAdd .i64 a b)) 1)) m) a m (iSub .i64 (iAdd .i64 (iWrap .i64 (iShr .u64 (iWrap .u64 (iAdd .i64 a b)) 1)) m) 1) c0 cs rest toks tys)
 rest toks tys) rest toks tys) (Tr.ret (PV.tup [], Store.mk (c0 :: rec_l off len (iWrap .i64 (iShr .u64 (iWrap .u64 (iAdd .i64 a b)) 1)) (iSub .i64 (iAdd .i64 (iWrap .i64 (iShr .u64 (iWrap .u64 (iAdd .i64 a b)) 1)) m) (sym5_n6 off len a m b (iWrap .i64 (iShr .u64 (iWrap .u64 (iAdd .i64 a b)) 1)) (iAdd .i64 (iWrap .i64 (iShr .u64 (iWrap .u64 (iAdd .i64 a b)) 1)) m) a m (iSub .i64 (iAdd .i64 (iWrap .i64 (iShr .u64 (iWrap .u64 (iAdd .i64 a b)) 1)) m) 1) c0 cs rest toks tys)) b c0 (rot_l2 off len (sym5_n6 off len a m b (iWrap .i64 (iShr .u64 (iWrap .u64 (iAdd .i64 a b)) 1)) (iAdd .i64 (iWrap .i64 (iShr .u64 (iWrap .u64 (iAdd .i64 a b)) 1)) m) a m (iSub .i64 (iAdd .i64 (iWrap .i64 (iShr .u64 (iWrap .u64 (iAdd .i64 a b)) 1)) m) 1) c0 cs rest toks tys) m (iSub .i64 (iAdd .i64 (iWrap .i64 (iShr .u64 (iWrap .u64 (iAdd .i64 a b)) 1)) m) (sym5_n6 off len a m b (iWrap .i64 (iShr .u64 (iWrap .u64 (iAdd .i64 a b)) 1)) (iAdd .i64 (iWrap .i64 (iShr .u64 (iWrap .u64 (iAdd .i64 a b)) 1)) m) a m (iSub .i64 (iAdd .i64 (iWrap .i64 (iShr .u64 (iWrap .u64 (iAdd .i64 a b)) 1)) m) 1) c0 cs rest toks tys)) c0 (sym5_l2 off len a m b (iWrap .i64 (iShr .u64 (iWrap .u64 (iAdd .i64 a b)) 1)) (iAdd .i64 (iWrap .i64 (iShr .u64 (iWrap .u64 (iAdd .i64 a b)) 1)) m) a m (iSub .i64 (iAdd .i64 (iWrap .i64 (iShr .u64 (iWrap .u64 (iAdd .i64 a b)) 1)) m) 1) c0 cs rest toks tys) rest toks tys) rest toks tys :: rest) toks (82 :: 1000023 :: tys))) Tr.fail) (Tr.ret (PV.tup [], Store.mk (c0 :: rot_l2 off len (sym5_n6 off len a m b (iWrap .i64 (iShr .u64 (iWrap .u64 (iAdd .i64 a b)) 1)) (iAdd .i64 (iWrap .i64 (iShr .u64 (iWrap .u64 (iAdd .i64 a b)) 1)) m) a m (iSub .i64 (iAdd .i64 (iWrap .i64 (iShr .u64 (iWrap .u64 (iAdd .i64 a b)) 1)) m) 1) c0 cs rest toks tys) m (iSub .i64 (iAdd .i64 (iWrap .i64 (iShr .u64 (iWrap .u64 (iAdd .i64 a b)) 1)) m) (sym5_n6 off len a m b (iWrap .i64 (iShr .u64 (iWrap .u64 (iAdd .i64 a b)) 1)) (iAdd .i64 (iWrap .i64 (iShr .u64 (iWrap .u64 (iAdd .i64 a b)) 1)) m) a m
 (iSub .i64 (iAdd .i64 (iWrap .i64 (iShr .u64 (iWrap .u64 (iAdd .i64 a b)) 1)) m) 1) c0 cs rest toks tys)) c0 (sym5_l2 off len a m b (iWrap .i64 (iShr .u64 (iWrap .u64 (iAdd .i64 a b)) 1)) (iAdd .i64 (iWrap .i64 (iShr .u64 (iWrap .u64 (iAdd .i64 a b)) 1)) m) a m (iSub .i64 (iAdd .i64 (iWrap .i64 (iShr .u64 (iWrap .u64 (iAdd .i64 a b)) 1)) m) 1) c0 cs rest toks tys) rest toks tys :: rest) toks (82 :: 1000023 :: tys)))) (Tr.ret (PV.tup [], Store.mk (c0 :: rot_l2 off len (sym5_n6 off len a m b (iWrap .i64 (iShr .u64 (iWrap .u64 (iAdd .i64 a b)) 1)) (iAdd .i64 (iWrap .i64 (iShr .u64 (iWrap .u64 (iAdd .i64 a b)) 1)) m) a m (iSub .i64 (iAdd .i64 (iWrap .i64 (iShr .u64 (iWrap .u64 (iAdd .i64 a b)) 1)) m) 1) c0 cs rest toks tys) m (iSub .i64 (iAdd .i64 (iWrap .i64 (iShr .u64 (iWrap .u64 (iAdd .i64 a b)) 1)) m) (sym5_n6 off len a m b (iWrap .i64 (iShr .u64 (iWrap .u64 (iAdd .i64 a b)) 1)) (iAdd .i64 (iWrap .i64 (iShr .u64 (iWrap .u64 (iAdd .i64 a b)) 1)) m) a m (iSub .i64 (iAdd .i64 (iWrap .i64 (iShr .u64 (iWrap .u64 (iAdd .i64 a b)) 1)) m) 1) c0 cs rest toks tys)) c0 (sym5_l2 off len a m b (iWrap .i64 (iShr .u64 (iWrap .u64 (iAdd .i64 a b)) 1)) (iAdd .i64 (iWrap .i64 (iShr .u64 (iWrap .u64 (iAdd .i64 a b)) 1)) m) a m (iSub .i64 (iAdd .i64 (iWrap .i64 (iShr .u64 (iWrap .u64 (iAdd .i64 a b)) 1)) m) 1) c0 cs rest toks tys) rest toks tys :: rest) toks (82 :: 1000023 :: tys))))) Tr.fail) (Tr.ite (iLt a (sym5_n6 off len a m b (iWrap .i64 (iShr .u64 (iWrap .u64 (iAdd .i64 a b)) 1)) (iAdd .i64 (iWrap .i64 (iShr .u64 (iWrap .u64 (iAdd .i64 a b)) 1)) m) a m (iSub .i64 (iAdd .i64 (iWrap .i64 (iShr .u64 (iWrap .u64 (iAdd .i64 a b)) 1)) m) 1) c0 cs rest toks tys)) (Tr.ite (iLt (sym5_n6 off len a m b (iWrap .i64 (iShr .u64 (iWrap .u64 (iAdd .i64 a b)) 1)) (iAdd .i64 (iWrap .i64 (iShr .u64 (iWrap .u64 (iAdd .i64 a b)) 1)) m) a m (iSub .i64 (iAdd .i64 (iWrap .i64 (iShr .u64 (iWrap .u64 (iAdd .i64 a b)) 1)) m) 1) c0 cs rest toks tys) (iWrap .i64 (iShr .u64 (iWrap .u64 (iAdd .i64 a b)) 1)))
 (Tr.ite (rec_is0 off len a (sym5_n6 off len a m b (iWrap .i64 (iShr .u64 (iWrap .u64 (iAdd .i64 a b)) 1)) (iAdd .i64 (iWrap .i64 (iShr .u64 (iWrap .u64 (iAdd .i64 a b)) 1)) m) a m (iSub .i64 (iAdd .i64 (iWrap .i64 (iShr .u64 (iWrap .u64 (iAdd .i64 a b)) 1)) m) 1) c0 cs rest toks tys) (iWrap .i64 (iShr .u64 (iWrap .u64 (iAdd .i64 a b)) 1)) c0 (sym5_l2 off len a m b (iWrap .i64 (iShr .u64 (iWrap .u64 (iAdd .i64 a b)) 1)) (iAdd .i64 (iWrap .i64 (iShr .u64 (iWrap .u64 (iAdd .i64 a b)) 1)) m) a m (iSub .i64 (iAdd .i64 (iWrap .i64 (iShr .u64 (iWrap .u64 (iAdd .i64 a b)) 1)) m) 1) c0 cs rest toks tys) rest toks tys) (Tr.ite (iLt (iWrap .i64 (iShr .u64 (iWrap .u64 (iAdd .i64 a b)) 1)) (iSub .i64 (iAdd .i64 (iWrap .i64 (iShr .u64 (iWrap .u64 (iAdd .i64 a b)) 1)) m) (sym5_n6 off len a m b (iWrap .i64 (iShr .u64 (iWrap .u64 (iAdd .i64 a b)) 1)) (iAdd .i64 (iWrap .i64 (iShr .u64 (iWrap .u64 (iAdd .i64 a b)) 1)) m) a m (iSub .i64 (iAdd .i64 (iWrap .i64 (iShr .u64 (iWrap .u64 (iAdd .i64 a b)) 1)) m) 1) c0 cs rest toks tys))) (Tr.ite (iLt (iSub .i64 (iAdd .i64 (iWrap .i64 (iShr .u64 (iWrap .u64 (iAdd .i64 a b)) 1)) m) (sym5_n6 off len a m b (iWrap .i64 (iShr .u64 (iWrap .u64 (iAdd .i64 a b)) 1)) (iAdd .i64 (iWrap .i64 (iShr .u64 (iWrap .u64 (iAdd .i64 a b)) 1)) m) a m (iSub .i64 (iAdd .i64 (iWrap .i64 (iShr .u64 (iWrap .u64 (iAdd .i64 a b)) 1)) m) 1) c0 cs rest toks tys)) b) (Tr.ite (rec_is0 off len (iWrap .i64 (iShr .u64 (iWrap .u64 (iAdd .i64 a b)) 1)) (iSub .i64 (iAdd .i64 (iWrap .i64 (iShr .u64 (iWrap .u64 (iAdd .i64 a b)) 1)) m) (sym5_n6 off len a m b (iWrap .i64 (iShr .u64 (iWrap .u64 (iAdd .i64 a b)) 1)) (iAdd .i64 (iWrap .i64 (iShr .u64 (iWrap .u64 (iAdd .i64 a b)) 1)) m) a m (iSub .i64 (iAdd .i64 (iWrap .i64 (iShr .u64 (iWrap .u64 (iAdd .i64 a b)) 1)) m) 1) c0 cs rest toks tys)) b c0 (rec_l off len a (sym5_n6 off len a m b (iWrap .i64 (iShr .u64 (iWrap .u64 (iAdd .i64 a b)) 1)) (iAdd .i64 (iWrap .i64 (iShr .u64 (iWrap .u64 (iAdd .i64 a b)) 1)) m) a m
 (iSub .i64 (iAdd .i64 (iWrap .i64 (iShr .u64 (iWrap .u64 (iAdd .i64 a b)) 1)) m) 1) c0 cs rest toks tys) (iWrap .i64 (iShr .u64 (iWrap .u64 (iAdd .i64 a b)) 1)) c0 (sym5_l2 off len a m b (iWrap .i64 (iShr .u64 (iWrap .u64 (iAdd .i64 a b)) 1)) (iAdd .i64 (iWrap .i64 (iShr .u64 (iWrap .u64 (iAdd .i64 a b)) 1)) m) a m (iSub .i64 (iAdd .i64 (iWrap .i64 (iShr .u64 (iWrap .u64 (iAdd .i64 a b)) 1)) m) 1) c0 cs rest toks tys) rest toks tys) rest toks tys) (Tr.ret (PV.tup [], Store.mk (c0 :: rec_l off len (iWrap .i64 (iShr .u64 (iWrap .u64 (iAdd .i64 a b)) 1)) (iSub .i64 (iAdd .i64 (iWrap .i64 (iShr .u64 (iWrap .u64 (iAdd .i64 a b)) 1)) m) (sym5_n6 off len a m b (iWrap .i64 (iShr .u64 (iWrap .u64 (iAdd .i64 a b)) 1)) (iAdd .i64 (iWrap .i64 (iShr .u64 (iWrap .u64 (iAdd .i64 a b)) 1)) m) a m (iSub .i64 (iAdd .i64 (iWrap .i64 (iShr .u64 (iWrap .u64 (iAdd .i64 a b)) 1)) m) 1) c0 cs rest toks tys)) b c0 (rec_l off len a (sym5_n6 off len a m b (iWrap .i64 (iShr .u64 (iWrap .u64 (iAdd .i64 a b)) 1)) (iAdd .i64 (iWrap .i64 (iShr .u64 (iWrap .u64 (iAdd .i64 a b)) 1)) m) a m (iSub .i64 (iAdd .i64 (iWrap .i64 (iShr .u64 (iWrap .u64 (iAdd .i64 a b)) 1)) m) 1) c0 cs rest toks tys) (iWrap .i64 (iShr .u64 (iWrap .u64 (iAdd .i64 a b)) 1)) c0 (sym5_l2 off len a m b (iWrap .i64 (iShr .u64 (iWrap .u64 (iAdd .i64 a b)) 1)) (iAdd .i64 (iWrap .i64 (iShr .u64 (iWrap .u64 (iAdd .i64 a b)) 1)) m) a m (iSub .i64 (iAdd .i64 (iWrap .i64 (iShr .u64 (iWrap .u64 (iAdd .i64 a b)) 1)) m) 1) c0 cs rest toks tys) rest toks tys) rest toks tys :: rest) toks (82 :: 1000023 :: tys))) Tr.fail) (Tr.ret (PV.tup [], Store.mk (c0 :: rec_l off len a (sym5_n6 off len a m b (iWrap .i64 (iShr .u64 (iWrap .u64 (iAdd .i64 a b)) 1)) (iAdd .i64 (iWrap .i64 (iShr .u64 (iWrap .u64 (iAdd .i64 a b)) 1)) m) a m (iSub .i64 (iAdd .i64 (iWrap .i64 (iShr .u64 (iWrap .u64 (iAdd .i64 a b)) 1)) m) 1) c0 cs rest toks tys) (iWrap .i64 (iShr .u64 (iWrap .u64 (iAdd .i64 a b)) 1)) c0
 (sym5_l2 off len a m b (iWrap .i64 (iShr .u64 (iWrap .u64 (iAdd .i64 a b)) 1)) (iAdd .i64 (iWrap .i64 (iShr .u64 (iWrap .u64 (iAdd .i64 a b)) 1)) m) a m (iSub .i64 (iAdd .i64 (iWrap .i64 (iShr .u64 (iWrap .u64 (iAdd .i64 a b)) 1)) m) 1) c0 cs rest toks tys) rest toks tys :: rest) toks (82 :: 1000023 :: tys)))) (Tr.ret (PV.tup [], Store.mk (c0 :: rec_l off len a (sym5_n6 off len a m b (iWrap .i64 (iShr .u64 (iWrap .u64 (iAdd .i64 a b)) 1)) (iAdd .i64 (iWrap .i64 (iShr .u64 (iWrap .u64 (iAdd .i64 a b)) 1)) m) a m (iSub .i64 (iAdd .i64 (iWrap .i64 (iShr .u64 (iWrap .u64 (iAdd .i64 a b)) 1)) m) 1) c0 cs rest toks tys) (iWrap .i64 (iShr .u64 (iWrap .u64 (iAdd .i64 a b)) 1)) c0 (sym5_l2 off len a m b (iWrap .i64 (iShr .u64 (iWrap .u64 (iAdd .i64 a b)) 1)) (iAdd .i64 (iWrap .i64 (iShr .u64 (iWrap .u64 (iAdd .i64 a b)) 1)) m) a m (iSub .i64 (iAdd .i64 (iWrap .i64 (iShr .u64 (iWrap .u64 (iAdd .i64 a b)) 1)) m) 1) c0 cs rest toks tys) rest toks tys :: rest) toks (82 :: 1000023 :: tys)))) Tr.fail) (Tr.ite (iLt (iWrap .i64 (iShr .u64 (iWrap .u64 (iAdd .i64 a b)) 1)) (iSub .i64 (iAdd .i64 (iWrap .i64 (iShr .u64 (iWrap .u64 (iAdd .i64 a b)) 1)) m) (sym5_n6 off len a m b (iWrap .i64 (iShr .u64 (iWrap .u64 (iAdd .i64 a b)) 1)) (iAdd .i64 (iWrap .i64 (iShr .u64 (iWrap .u64 (iAdd .i64 a b)) 1)) m) a m (iSub .i64 (iAdd .i64 (iWrap .i64 (iShr .u64 (iWrap .u64 (iAdd .i64 a b)) 1)) m) 1) c0 cs rest toks tys))) (Tr.ite (iLt (iSub .i64 (iAdd .i64 (iWrap .i64 (iShr .u64 (iWrap .u64 (iAdd .i64 a b)) 1)) m) (sym5_n6 off len a m b (iWrap .i64 (iShr .u64 (iWrap .u64 (iAdd .i64 a b)) 1)) (iAdd .i64 (iWrap .i64 (iShr .u64 (iWrap .u64 (iAdd .i64 a b)) 1)) m) a m (iSub .i64 (iAdd .i64 (iWrap .i64 (iShr .u64 (iWrap .u64 (iAdd .i64 a b)) 1)) m) 1) c0 cs rest toks tys)) b) (Tr.ite (rec_is0 off len (iWrap .i64 (iShr .u64 (iWrap .u64 (iAdd .i64 a b)) 1)) (iSub .i64 (iAdd .i64 (iWrap .i64 (iShr .u64 (iWrap .u64 (iAdd .i64 a b)) 1)) m)
 (sym5_n6 off len a m b (iWrap .i64 (iShr .u64 (iWrap .u64 (iAdd .i64 a b)) 1)) (iAdd .i64 (iWrap .i64 (iShr .u64 (iWrap .u64 (iAdd .i64 a b)) 1)) m) a m (iSub .i64 (iAdd .i64 (iWrap .i64 (iShr .u64 (iWrap .u64 (iAdd .i64 a b)) 1)) m) 1) c0 cs rest toks tys)) b c0 (sym5_l2 off len a m b (iWrap .i64 (iShr .u64 (iWrap .u64 (iAdd .i64 a b)) 1)) (iAdd .i64 (iWrap .i64 (iShr .u64 (iWrap .u64 (iAdd .i64 a b)) 1)) m) a m (iSub .i64 (iAdd .i64 (iWrap .i64 (iShr .u64 (iWrap .u64 (iAdd .i64 a b)) 1)) m) 1) c0 cs rest toks tys) rest toks tys) (Tr.ret (PV.tup [], Store.mk (c0 :: rec_l off len (iWrap .i64 (iShr .u64 (iWrap .u64 (iAdd .i64 a b)) 1)) (iSub .i64 (iAdd .i64 (iWrap .i64 (iShr .u64 (iWrap .u64 (iAdd .i64 a b)) 1)) m) (sym5_n6 off len a m b (iWrap .i64 (iShr .u64 (iWrap .u64 (iAdd .i64 a b)) 1)) (iAdd .i64 (iWrap .i64 (iShr .u64 (iWrap .u64 (iAdd .i64 a b)) 1)) m) a m (iSub .i64 (iAdd .i64 (iWrap .i64 (iShr .u64 (iWrap .u64 (iAdd .i64 a b)) 1)) m) 1) c0 cs rest toks tys)) b c0 (sym5_l2 off len a m b (iWrap .i64 (iShr .u64 (iWrap .u64 (iAdd .i64 a b)) 1)) (iAdd .i64 (iWrap .i64 (iShr .u64 (iWrap .u64 (iAdd .i64 a b)) 1)) m) a m (iSub .i64 (iAdd .i64 (iWrap .i64 (iShr .u64 (iWrap .u64 (iAdd .i64 a b)) 1)) m) 1) c0 cs rest toks tys) rest toks tys :: rest) toks (82 :: 1000023 :: tys))) Tr.fail) (Tr.ret (PV.tup [], Store.mk (c0 :: sym5_l2 off len a m b (iWrap .i64 (iShr .u64 (iWrap .u64 (iAdd .i64 a b)) 1)) (iAdd .i64 (iWrap .i64 (iShr .u64 (iWrap .u64 (iAdd .i64 a b)) 1)) m) a m (iSub .i64 (iAdd .i64 (iWrap .i64 (iShr .u64 (iWrap .u64 (iAdd .i64 a b)) 1)) m) 1) c0 cs rest toks tys :: rest) toks (82 :: 1000023 :: tys)))) (Tr.ret (PV.tup [], Store.mk (c0 :: sym5_l2 off len a m b (iWrap .i64 (iShr .u64 (iWrap .u64 (iAdd .i64 a b)) 1)) (iAdd .i64 (iWrap .i64 (iShr .u64 (iWrap .u64 (iAdd .i64 a b)) 1)) m) a m (iSub .i64 (iAdd .i64 (iWrap .i64 (iShr .u64 (iWrap .u64 (iAdd .i64 a b)) 1)) m) 1) c0 cs rest toks tys :: rest) toks (82 :: 1000023 :: tys))))) (Tr.ite
 (iLt (iWrap .i64 (iShr .u64 (iWrap .u64 (iAdd .i64 a b)) 1)) (iSub .i64 (iAdd .i64 (iWrap .i64 (iShr .u64 (iWrap .u64 (iAdd .i64 a b)) 1)) m) (sym5_n6 off len a m b (iWrap .i64 (iShr .u64 (iWrap .u64 (iAdd .i64 a b)) 1)) (iAdd .i64 (iWrap .i64 (iShr .u64 (iWrap .u64 (iAdd .i64 a b)) 1)) m) a m (iSub .i64 (iAdd .i64 (iWrap .i64 (iShr .u64 (iWrap .u64 (iAdd .i64 a b)) 1)) m) 1) c0 cs rest toks tys))) (Tr.ite (iLt (iSub .i64 (iAdd .i64 (iWrap .i64 (iShr .u64 (iWrap .u64 (iAdd .i64 a b)) 1)) m) (sym5_n6 off len a m b (iWrap .i64 (iShr .u64 (iWrap .u64 (iAdd .i64 a b)) 1)) (iAdd .i64 (iWrap .i64 (iShr .u64 (iWrap .u64 (iAdd .i64 a b)) 1)) m) a m (iSub .i64 (iAdd .i64 (iWrap .i64 (iShr .u64 (iWrap .u64 (iAdd .i64 a b)) 1)) m) 1) c0 cs rest toks tys)) b) (Tr.ite (rec_is0 off len (iWrap .i64 (iShr .u64 (iWrap .u64 (iAdd .i64 a b)) 1)) (iSub .i64 (iAdd .i64 (iWrap .i64 (iShr .u64 (iWrap .u64 (iAdd .i64 a b)) 1)) m) (sym5_n6 off len a m b (iWrap .i64 (iShr .u64 (iWrap .u64 (iAdd .i64 a b)) 1)) (iAdd .i64 (iWrap .i64 (iShr .u64 (iWrap .u64 (iAdd .i64 a b)) 1)) m) a m (iSub .i64 (iAdd .i64 (iWrap .i64 (iShr .u64 (iWrap .u64 (iAdd .i64 a b)) 1)) m) 1) c0 cs rest toks tys)) b c0 (sym5_l2 off len a m b (iWrap .i64 (iShr .u64 (iWrap .u64 (iAdd .i64 a b)) 1)) (iAdd .i64 (iWrap .i64 (iShr .u64 (iWrap .u64 (iAdd .i64 a b)) 1)) m) a m (iSub .i64 (iAdd .i64 (iWrap .i64 (iShr .u64 (iWrap .u64 (iAdd .i64 a b)) 1)) m) 1) c0 cs rest toks tys) rest toks tys) (Tr.ret (PV.tup [], Store.mk (c0 :: rec_l off len (iWrap .i64 (iShr .u64 (iWrap .u64 (iAdd .i64 a b)) 1)) (iSub .i64 (iAdd .i64 (iWrap .i64 (iShr .u64 (iWrap .u64 (iAdd .i64 a b)) 1)) m) (sym5_n6 off len a m b (iWrap .i64 (iShr .u64 (iWrap .u64 (iAdd .i64 a b)) 1)) (iAdd .i64 (iWrap .i64 (iShr .u64 (iWrap .u64 (iAdd .i64 a b)) 1)) m) a m (iSub .i64 (iAdd .i64 (iWrap .i64 (iShr .u64 (iWrap .u64 (iAdd .i64 a b)) 1)) m) 1) c0 cs rest toks tys)) b c0 (sym5_l2 off len a m b (iWrap .i64 (iShr .u64 (iWrap .u64 (iAdd .i64 a b)) 1))
 (iAdd .i64 (iWrap .i64 (iShr .u64 (iWrap .u64 (iAdd .i64 a b)) 1)) m) a m (iSub .i64 (iAdd .i64 (iWrap .i64 (iShr .u64 (iWrap .u64 (iAdd .i64 a b)) 1)) m) 1) c0 cs rest toks tys) rest toks tys :: rest) toks (82 :: 1000023 :: tys))) Tr.fail) (Tr.ret (PV.tup [], Store.mk (c0 :: sym5_l2 off len a m b (iWrap .i64 (iShr .u64 (iWrap .u64 (iAdd .i64 a b)) 1)) (iAdd .i64 (iWrap .i64 (iShr .u64 (iWrap .u64 (iAdd .i64 a b)) 1)) m) a m (iSub .i64 (iAdd .i64 (iWrap .i64 (iShr .u64 (iWrap .u64 (iAdd .i64 a b)) 1)) m) 1) c0 cs rest toks tys :: rest) toks (82 :: 1000023 :: tys)))) (Tr.ret (PV.tup [], Store.mk (c0 :: sym5_l2 off len a m b (iWrap .i64 (iShr .u64 (iWrap .u64 (iAdd .i64 a b)) 1)) (iAdd .i64 (iWrap .i64 (iShr .u64 (iWrap .u64 (iAdd .i64 a b)) 1)) m) a m (iSub .i64 (iAdd .i64 (iWrap .i64 (iShr .u64 (iWrap .u64 (iAdd .i64 a b)) 1)) m) 1) c0 cs rest toks tys :: rest) toks (82 :: 1000023 :: tys)))))) (Tr.ite (iLt a (sym5_n6 off len a m b (iWrap .i64 (iShr .u64 (iWrap .u64 (iAdd .i64 a b)) 1)) (iAdd .i64 (iWrap .i64 (iShr .u64 (iWrap .u64 (iAdd .i64 a b)) 1)) m) a m (iSub .i64 (iAdd .i64 (iWrap .i64 (iShr .u64 (iWrap .u64 (iAdd .i64 a b)) 1)) m) 1) c0 cs rest toks tys)) (Tr.ite (iLt (sym5_n6 off len a m b (iWrap .i64 (iShr .u64 (iWrap .u64 (iAdd .i64 a b)) 1)) (iAdd .i64 (iWrap .i64 (iShr .u64 (iWrap .u64 (iAdd .i64 a b)) 1)) m) a m (iSub .i64 (iAdd .i64 (iWrap .i64 (iShr .u64 (iWrap .u64 (iAdd .i64 a b)) 1)) m) 1) c0 cs rest toks tys) (iWrap .i64 (iShr .u64 (iWrap .u64 (iAdd .i64 a b)) 1))) (Tr.ite (rec_is0 off len a (sym5_n6 off len a m b (iWrap .i64 (iShr .u64 (iWrap .u64 (iAdd .i64 a b)) 1)) (iAdd .i64 (iWrap .i64 (iShr .u64 (iWrap .u64 (iAdd .i64 a b)) 1)) m) a m (iSub .i64 (iAdd .i64 (iWrap .i64 (iShr .u64 (iWrap .u64 (iAdd .i64 a b)) 1)) m) 1) c0 cs rest toks tys) (iWrap .i64 (iShr .u64 (iWrap .u64 (iAdd .i64 a b)) 1)) c0 (sym5_l2 off len a m b (iWrap .i64 (iShr .u64 (iWrap .u64 (iAdd .i64 a b)) 1))
 (iAdd .i64 (iWrap .i64 (iShr .u64 (iWrap .u64 (iAdd .i64 a b)) 1)) m) a m (iSub .i64 (iAdd .i64 (iWrap .i64 (iShr .u64 (iWrap .u64 (iAdd .i64 a b)) 1)) m) 1) c0 cs rest toks tys) rest toks tys) (Tr.ite (iLt (iWrap .i64 (iShr .u64 (iWrap .u64 (iAdd .i64 a b)) 1)) (iSub .i64 (iAdd .i64 (iWrap .i64 (iShr .u64 (iWrap .u64 (iAdd .i64 a b)) 1)) m) (sym5_n6 off len a m b (iWrap .i64 (iShr .u64 (iWrap .u64 (iAdd .i64 a b)) 1)) (iAdd .i64 (iWrap .i64 (iShr .u64 (iWrap .u64 (iAdd .i64 a b)) 1)) m) a m (iSub .i64 (iAdd .i64 (iWrap .i64 (iShr .u64 (iWrap .u64 (iAdd .i64 a b)) 1)) m) 1) c0 cs rest toks tys))) (Tr.ite (iLt (iSub .i64 (iAdd .i64 (iWrap .i64 (iShr .u64 (iWrap .u64 (iAdd .i64 a b)) 1)) m) (sym5_n6 off len a m b (iWrap .i64 (iShr .u64 (iWrap .u64 (iAdd .i64 a b)) 1)) (iAdd .i64 (iWrap .i64 (iShr .u64 (iWrap .u64 (iAdd .i64 a b)) 1)) m) a m (iSub .i64 (iAdd .i64 (iWrap .i64 (iShr .u64 (iWrap .u64 (iAdd .i64 a b)) 1)) m) 1) c0 cs rest toks tys)) b) (Tr.ite (rec_is0 off len (iWrap .i64 (iShr .u64 (iWrap .u64 (iAdd .i64 a b)) 1)) (iSub .i64 (iAdd .i64 (iWrap .i64 (iShr .u64 (iWrap .u64 (iAdd .i64 a b)) 1)) m) (sym5_n6 off len a m b (iWrap .i64 (iShr .u64 (iWrap .u64 (iAdd .i64 a b)) 1)) (iAdd .i64 (iWrap .i64 (iShr .u64 (iWrap .u64 (iAdd .i64 a b)) 1)) m) a m (iSub .i64 (iAdd .i64 (iWrap .i64 (iShr .u64 (iWrap .u64 (iAdd .i64 a b)) 1)) m) 1) c0 cs rest toks tys)) b c0 (rec_l off len a (sym5_n6 off len a m b (iWrap .i64 (iShr .u64 (iWrap .u64 (iAdd .i64 a b)) 1)) (iAdd .i64 (iWrap .i64 (iShr .u64 (iWrap .u64 (iAdd .i64 a b)) 1)) m) a m (iSub .i64 (iAdd .i64 (iWrap .i64 (iShr .u64 (iWrap .u64 (iAdd .i64 a b)) 1)) m) 1) c0 cs rest toks tys) (iWrap .i64 (iShr .u64 (iWrap .u64 (iAdd .i64 a b)) 1)) c0 (sym5_l2 off len a m b (iWrap .i64 (iShr .u64 (iWrap .u64 (iAdd .i64 a b)) 1)) (iAdd .i64 (iWrap .i64 (iShr .u64 (iWrap .u64 (iAdd .i64 a b)) 1)) m) a m (iSub .i64 (iAdd .i64 (iWrap .i64 (iShr .u64 (iWrap .u64 (iAdd .i64 a b)) 1)) m) 1) c0 cs rest toks tys) rest toks tys)
 rest toks tys) (Tr.ret (PV.tup [], Store.mk (c0 :: rec_l off len (iWrap .i64 (iShr .u64 (iWrap .u64 (iAdd .i64 a b)) 1)) (iSub .i64 (iAdd .i64 (iWrap .i64 (iShr .u64 (iWrap .u64 (iAdd .i64 a b)) 1)) m) (sym5_n6 off len a m b (iWrap .i64 (iShr .u64 (iWrap .u64 (iAdd .i64 a b)) 1)) (iAdd .i64 (iWrap .i64 (iShr .u64 (iWrap .u64 (iAdd .i64 a b)) 1)) m) a m (iSub .i64 (iAdd .i64 (iWrap .i64 (iShr .u64 (iWrap .u64 (iAdd .i64 a b)) 1)) m) 1) c0 cs rest toks tys)) b c0 (rec_l off len a (sym5_n6 off len a m b (iWrap .i64 (iShr .u64 (iWrap .u64 (iAdd .i64 a b)) 1)) (iAdd .i64 (iWrap .i64 (iShr .u64 (iWrap .u64 (iAdd .i64 a b)) 1)) m) a m (iSub .i64 (iAdd .i64 (iWrap .i64 (iShr .u64 (iWrap .u64 (iAdd .i64 a b)) 1)) m) 1) c0 cs rest toks tys) (iWrap .i64 (iShr .u64 (iWrap .u64 (iAdd .i64 a b)) 1)) c0 (sym5_l2 off len a m b (iWrap .i64 (iShr .u64 (iWrap .u64 (iAdd .i64 a b)) 1)) (iAdd .i64 (iWrap .i64 (iShr .u64 (iWrap .u64 (iAdd .i64 a b)) 1)) m) a m (iSub .i64 (iAdd .i64 (iWrap .i64 (iShr .u64 (iWrap .u64 (iAdd .i64 a b)) 1)) m) 1) c0 cs rest toks tys) rest toks tys) rest toks tys :: rest) toks (82 :: 1000023 :: tys))) Tr.fail) (Tr.ret (PV.tup [], Store.mk (c0 :: rec_l off len a (sym5_n6 off len a m b (iWrap .i64 (iShr .u64 (iWrap .u64 (iAdd .i64 a b)) 1)) (iAdd .i64 (iWrap .i64 (iShr .u64 (iWrap .u64 (iAdd .i64 a b)) 1)) m) a m (iSub .i64 (iAdd .i64 (iWrap .i64 (iShr .u64 (iWrap .u64 (iAdd .i64 a b)) 1)) m) 1) c0 cs rest toks tys) (iWrap .i64 (iShr .u64 (iWrap .u64 (iAdd .i64 a b)) 1)) c0 (sym5_l2 off len a m b (iWrap .i64 (iShr .u64 (iWrap .u64 (iAdd .i64 a b)) 1)) (iAdd .i64 (iWrap .i64 (iShr .u64 (iWrap .u64 (iAdd .i64 a b)) 1)) m) a m (iSub .i64 (iAdd .i64 (iWrap .i64 (iShr .u64 (iWrap .u64 (iAdd .i64 a b)) 1)) m) 1) c0 cs rest toks tys) rest toks tys :: rest) toks (82 :: 1000023 :: tys)))) (Tr.ret (PV.tup [], Store.mk (c0 :: rec_l off len a (sym5_n6 off len a m b (iWrap .i64 (iShr .u64 (iWrap .u64 (iAdd .i64 a b)) 1))
 (iAdd .i64 (iWrap .i64 (iShr .u64 (iWrap .u64 (iAdd .i64 a b)) 1)) m) a m (iSub .i64 (iAdd .i64 (iWrap .i64 (iShr .u64 (iWrap .u64 (iAdd .i64 a b)) 1)) m) 1) c0 cs rest toks tys) (iWrap .i64 (iShr .u64 (iWrap .u64 (iAdd .i64 a b)) 1)) c0 (sym5_l2 off len a m b (iWrap .i64 (iShr .u64 (iWrap .u64 (iAdd .i64 a b)) 1)) (iAdd .i64 (iWrap .i64 (iShr .u64 (iWrap .u64 (iAdd .i64 a b)) 1)) m) a m (iSub .i64 (iAdd .i64 (iWrap .i64 (iShr .u64 (iWrap .u64 (iAdd .i64 a b)) 1)) m) 1) c0 cs rest toks tys) rest toks tys :: rest) toks (82 :: 1000023 :: tys)))) Tr.fail) (Tr.ite (iLt (iWrap .i64 (iShr .u64 (iWrap .u64 (iAdd .i64 a b)) 1)) (iSub .i64 (iAdd .i64 (iWrap .i64 (iShr .u64 (iWrap .u64 (iAdd .i64 a b)) 1)) m) (sym5_n6 off len a m b (iWrap .i64 (iShr .u64 (iWrap .u64 (iAdd .i64 a b)) 1)) (iAdd .i64 (iWrap .i64 (iShr .u64 (iWrap .u64 (iAdd .i64 a b)) 1)) m) a m (iSub .i64 (iAdd .i64 (iWrap .i64 (iShr .u64 (iWrap .u64 (iAdd .i64 a b)) 1)) m) 1) c0 cs rest toks tys))) (Tr.ite (iLt (iSub .i64 (iAdd .i64 (iWrap .i64 (iShr .u64 (iWrap .u64 (iAdd .i64 a b)) 1)) m) (sym5_n6 off len a m b (iWrap .i64 (iShr .u64 (iWrap .u64 (iAdd .i64 a b)) 1)) (iAdd .i64 (iWrap .i64 (iShr .u64 (iWrap .u64 (iAdd .i64 a b)) 1)) m) a m (iSub .i64 (iAdd .i64 (iWrap .i64 (iShr .u64 (iWrap .u64 (iAdd .i64 a b)) 1)) m) 1) c0 cs rest toks tys)) b) (Tr.ite (rec_is0 off len (iWrap .i64 (iShr .u64 (iWrap .u64 (iAdd .i64 a b)) 1)) (iSub .i64 (iAdd .i64 (iWrap .i64 (iShr .u64 (iWrap .u64 (iAdd .i64 a b)) 1)) m) (sym5_n6 off len a m b (iWrap .i64 (iShr .u64 (iWrap .u64 (iAdd .i64 a b)) 1)) (iAdd .i64 (iWrap .i64 (iShr .u64 (iWrap .u64 (iAdd .i64 a b)) 1)) m) a m (iSub .i64 (iAdd .i64 (iWrap .i64 (iShr .u64 (iWrap .u64 (iAdd .i64 a b)) 1)) m) 1) c0 cs rest toks tys)) b c0 (sym5_l2 off len a m b (iWrap .i64 (iShr .u64 (iWrap .u64 (iAdd .i64 a b)) 1)) (iAdd .i64 (iWrap .i64 (iShr .u64 (iWrap .u64 (iAdd .i64 a b)) 1)) m) a m
 (iSub .i64 (iAdd .i64 (iWrap .i64 (iShr .u64 (iWrap .u64 (iAdd .i64 a b)) 1)) m) 1) c0 cs rest toks tys) rest toks tys) (Tr.ret (PV.tup [], Store.mk (c0 :: rec_l off len (iWrap .i64 (iShr .u64 (iWrap .u64 (iAdd .i64 a b)) 1)) (iSub .i64 (iAdd .i64 (iWrap .i64 (iShr .u64 (iWrap .u64 (iAdd .i64 a b)) 1)) m) (sym5_n6 off len a m b (iWrap .i64 (iShr .u64 (iWrap .u64 (iAdd .i64 a b)) 1)) (iAdd .i64 (iWrap .i64 (iShr .u64 (iWrap .u64 (iAdd .i64 a b)) 1)) m) a m (iSub .i64 (iAdd .i64 (iWrap .i64 (iShr .u64 (iWrap .u64 (iAdd .i64 a b)) 1)) m) 1) c0 cs rest toks tys)) b c0 (sym5_l2 off len a m b (iWrap .i64 (iShr .u64 (iWrap .u64 (iAdd .i64 a b)) 1)) (iAdd .i64 (iWrap .i64 (iShr .u64 (iWrap .u64 (iAdd .i64 a b)) 1)) m) a m (iSub .i64 (iAdd .i64 (iWrap .i64 (iShr .u64 (iWrap .u64 (iAdd .i64 a b)) 1)) m) 1) c0 cs rest toks tys) rest toks tys :: rest) toks (82 :: 1000023 :: tys))) Tr.fail) (Tr.ret (PV.tup [], Store.mk (c0 :: sym5_l2 off len a m b (iWrap .i64 (iShr .u64 (iWrap .u64 (iAdd .i64 a b)) 1)) (iAdd .i64 (iWrap .i64 (iShr .u64 (iWrap .u64 (iAdd .i64 a b)) 1)) m) a m (iSub .i64 (iAdd .i64 (iWrap .i64 (iShr .u64 (iWrap .u64 (iAdd .i64 a b)) 1)) m) 1) c0 cs rest toks tys :: rest) toks (82 :: 1000023 :: tys)))) (Tr.ret (PV.tup [], Store.mk (c0 :: sym5_l2 off len a m b (iWrap .i64 (iShr .u64 (iWrap .u64 (iAdd .i64 a b)) 1)) (iAdd .i64 (iWrap .i64 (iShr .u64 (iWrap .u64 (iAdd .i64 a b)) 1)) m) a m (iSub .i64 (iAdd .i64 (iWrap .i64 (iShr .u64 (iWrap .u64 (iAdd .i64 a b)) 1)) m) 1) c0 cs rest toks tys :: rest) toks (82 :: 1000023 :: tys))))) (Tr.ite (iLt (iWrap .i64 (iShr .u64 (iWrap .u64 (iAdd .i64 a b)) 1)) (iSub .i64 (iAdd .i64 (iWrap .i64 (iShr .u64 (iWrap .u64 (iAdd .i64 a b)) 1)) m) (sym5_n6 off len a m b (iWrap .i64 (iShr .u64 (iWrap .u64 (iAdd .i64 a b)) 1)) (iAdd .i64 (iWrap .i64 (iShr .u64 (iWrap .u64 (iAdd .i64 a b)) 1)) m) a m (iSub .i64 (iAdd .i64 (iWrap .i64 (iShr .u64 (iWrap .u64 (iAdd .i64 a b)) 1)) m) 1) c0 cs rest toks tys))) (Tr.ite (iLt
 (iSub .i64 (iAdd .i64 (iWrap .i64 (iShr .u64 (iWrap .u64 (iAdd .i64 a b)) 1)) m) (sym5_n6 off len a m b (iWrap .i64 (iShr .u64 (iWrap .u64 (iAdd .i64 a b)) 1)) (iAdd .i64 (iWrap .i64 (iShr .u64 (iWrap .u64 (iAdd .i64 a b)) 1)) m) a m (iSub .i64 (iAdd .i64 (iWrap .i64 (iShr .u64 (iWrap .u64 (iAdd .i64 a b)) 1)) m) 1) c0 cs rest toks tys)) b) (Tr.ite (rec_is0 off len (iWrap .i64 (iShr .u64 (iWrap .u64 (iAdd .i64 a b)) 1)) (iSub .i64 (iAdd .i64 (iWrap .i64 (iShr .u64 (iWrap .u64 (iAdd .i64 a b)) 1)) m) (sym5_n6 off len a m b (iWrap .i64 (iShr .u64 (iWrap .u64 (iAdd .i64 a b)) 1)) (iAdd .i64 (iWrap .i64 (iShr .u64 (iWrap .u64 (iAdd .i64 a b)) 1)) m) a m (iSub .i64 (iAdd .i64 (iWrap .i64 (iShr .u64 (iWrap .u64 (iAdd .i64 a b)) 1)) m) 1) c0 cs rest toks tys)) b c0 (sym5_l2 off len a m b (iWrap .i64 (iShr .u64 (iWrap .u64 (iAdd .i64 a b)) 1)) (iAdd .i64 (iWrap .i64 (iShr .u64 (iWrap .u64 (iAdd .i64 a b)) 1)) m) a m (iSub .i64 (iAdd .i64 (iWrap .i64 (iShr .u64 (iWrap .u64 (iAdd .i64 a b)) 1)) m) 1) c0 cs rest toks tys) rest toks tys) (Tr.ret (PV.tup [], Store.mk (c0 :: rec_l off len (iWrap .i64 (iShr .u64 (iWrap .u64 (iAdd .i64 a b)) 1)) (iSub .i64 (iAdd .i64 (iWrap .i64 (iShr .u64 (iWrap .u64 (iAdd .i64 a b)) 1)) m) (sym5_n6 off len a m b (iWrap .i64 (iShr .u64 (iWrap .u64 (iAdd .i64 a b)) 1)) (iAdd .i64 (iWrap .i64 (iShr .u64 (iWrap .u64 (iAdd .i64 a b)) 1)) m) a m (iSub .i64 (iAdd .i64 (iWrap .i64 (iShr .u64 (iWrap .u64 (iAdd .i64 a b)) 1)) m) 1) c0 cs rest toks tys)) b c0 (sym5_l2 off len a m b (iWrap .i64 (iShr .u64 (iWrap .u64 (iAdd .i64 a b)) 1)) (iAdd .i64 (iWrap .i64 (iShr .u64 (iWrap .u64 (iAdd .i64 a b)) 1)) m) a m (iSub .i64 (iAdd .i64 (iWrap .i64 (iShr .u64 (iWrap .u64 (iAdd .i64 a b)) 1)) m) 1) c0 cs rest toks tys) rest toks tys :: rest) toks (82 :: 1000023 :: tys))) Tr.fail) (Tr.ret (PV.tup [], Store.mk (c0 :: sym5_l2 off len a m b (iWrap .i64 (iShr .u64 (iWrap .u64 (iAdd .i64 a b)) 1)) (iAdd .i64 (iWrap .i64 (iShr .u64 (iWrap .u64 (iAdd .i64 a b)) 1)) m) a m
 (iSub .i64 (iAdd .i64 (iWrap .i64 (iShr .u64 (iWrap .u64 (iAdd .i64 a b)) 1)) m) 1) c0 cs rest toks tys :: rest) toks (82 :: 1000023 :: tys)))) (Tr.ret (PV.tup [], Store.mk (c0 :: sym5_l2 off len a m b (iWrap .i64 (iShr .u64 (iWrap .u64 (iAdd .i64 a b)) 1)) (iAdd .i64 (iWrap .i64 (iShr .u64 (iWrap .u64 (iAdd .i64 a b)) 1)) m) a m (iSub .i64 (iAdd .i64 (iWrap .i64 (iShr .u64 (iWrap .u64 (iAdd .i64 a b)) 1)) m) 1) c0 cs rest toks tys :: rest) toks (82 :: 1000023 :: tys)))))) Tr.fail)))
theorem sym_T (off : Nat) (len : Nat) (a : Int) (m : Int) (b : Int) (c0 : List PV) (cs : List PV) (rest : List (List PV)) (toks : List (Nat × Nat × TypeId)) (tys : List TypeId) : (tcallS tbT G_sym L_sym Tryd.f120 [.osl 1 off len 1, .int .i64 a, .int .i64 m, .int .i64 b, .fn 16 []] ⟨c0 :: cs :: rest, toks, 82 :: 1000023 :: tys⟩).flat = sym_Tr off len a m b c0 cs rest toks tys := by kernel_rfl
noncomputable def sym_W (off : Nat) (len : Nat) (a : Int) (m : Int) (b : Int) (c0 : List PV) (cs : List PV) (rest : List (List PV)) (toks : List (Nat × Nat × TypeId)) (tys : List TypeId) : Option (PV × Store) := (sym_Tr off len a m b c0 cs rest toks tys).run
noncomputable def sym_l2 (off : Nat) (len : Nat) (a : Int) (m : Int) (b : Int) (c0 : List PV) (cs : List PV) (rest : List (List PV)) (toks : List (Nat × Nat × TypeId)) (tys : List TypeId) : List PV := (gObj (asOut (sym_W off len a m b c0 cs rest toks tys)) 1)
noncomputable def sym_is0 (off : Nat) (len : Nat) (a : Int) (m : Int) (b : Int) (c0 : List PV) (cs : List PV) (rest : List (List PV)) (toks : List (Nat × Nat × TypeId)) (tys : List TypeId) : Bool := isW (sym_W off len a m b c0 cs rest toks tys) (.tup [], ⟨(c0 :: (sym_l2 off len a m b c0 cs rest toks tys) :: rest), (toks), (82 :: 1000023 :: tys)⟩)
noncomputable def D_sym : List PV → Store → Tr (PV × Store) | [.osl 1 off len 1, .int .i64 a, .int .i64 m, .int .i64 b, .fn 16 []], ⟨c0 :: cs :: rest, toks, 82 :: 1000023 :: tys⟩ => .ite (sym_is0 off len a m b c0 cs rest toks tys) (.ret (.tup [], ⟨(c0 :: (sym_l2 off len a m b c0 cs rest toks tys) :: rest), (toks), (82 :: 1000023 :: tys)⟩)) (.fail) | _, _ => .fail
theorem sim_sym (gl : Nat → Option Obj) (hN : SimS Tryd.prog gl 120 fun args σ => (D_rec args σ).run) : SimS Tryd.prog gl 120 fun args σ => (D_sym args σ).run := by
  refine SimS.of_flat (G := G_sym) (L := L_sym) tbT_ok (gok_sym gl hN ) noMixed Tryd.func120 rfl (by rfl) (by kernel_rfl) (loopOk_all (L := lps L_sym) [(3, c_sym1), (9, c_sym2), (15, c_sym3), (21, c_sym4), (33, c_sym5)] (by kernel_rfl) (List.forall_mem_cons.2 ⟨fun fr σ e fr' σ' h => loop_sym1 gl hN  fr σ e fr' σ' h, (List.forall_mem_cons.2 ⟨fun fr σ e fr' σ' h => loop_sym2 gl hN  fr σ e fr' σ' h, (List.forall_mem_cons.2 ⟨fun fr σ e fr' σ' h => loop_sym3 gl hN  fr σ e fr' σ' h, (List.forall_mem_cons.2 ⟨fun fr σ e fr' σ' h => loop_sym4 gl hN  fr σ e fr' σ' h, (List.forall_mem_cons.2 ⟨fun fr σ e fr' σ' h => loop_sym5 gl hN  fr σ e fr' σ' h, (List.forall_mem_nil _)⟩)⟩)⟩)⟩)⟩)) ?_
  intro args σ x h
  unfold D_sym at h
  split at h
  · exact (congrArg Tr.run (sym_T _ _ _ _ _ _ _ _ _ _)).trans (ite_isW h fun h => by cases h)
  · cases h
end Go.Pv


set_option maxHeartbeats 4000000
set_option maxRecDepth 200000
set_option linter.unusedSimpArgs false
set_option linter.unusedVariables false
/-! What the parts of a stable sort make of a row. -/
namespace Go.Pv
open Go Go.Proofs
abbrev TY : Nat := 1000023
/-! ### ranges put for one another -/
theorem swp_loop (f : Nat → List Vl) (N a b n : Nat) (c0 : List PV) (rest : List (List PV)) (toks : List (Nat × Nat × TypeId)) (tys : List TypeId) (h1 : a + n ≤ b) (h2 : b + n ≤ N) (hN : N ≤ 9223372036854775807) :
    ∀ k i : Nat, i + k = n → swp1_V [.osl 1 0 N 1, .int .i64 a, .int .i64 b, .int .i64 n, .int .i64 i] ⟨c0 :: oA cV (swR f a b i) N :: rest, toks, 82 :: 1000023 :: tys⟩ = some (.exit 0, [], ⟨c0 :: oA cV (swR f a b n) N :: rest, toks, 82 :: 1000023 :: tys⟩)
  | 0, i, h => by
    have e : i = n := by omega
    subst e
    rw [swp1_E]
    simp [swp1_Tr, iLt_N]
  | k + 1, i, h => by
    have h3 : b + i < N := by omega
    have h4 : a + i < N := by omega
    have h5 : i < n := by omega
    rw [swp1_E]
    unfold swp1_Tr
    simp only [iLt_N, add_N (a := b) (b := i) (by omega), add_N (a := a) (b := i) (by omega), add_N1 (a := i) (by omega), okIx_N, nNat_N, pOff_01, okCell_oA cV h3, okCell_oA cV h4, cRow_oA cV h3, cRow_oA cV h4, putC_oA cV _ h4, putC_oA cV _ h3, okOff_oA cV h3, okOff_oA cV h4, h3, h4, h5, decide_true, Tr.run_ite, if_true, Tr.run_ret, lnext_next]
    rw [swR_succ f (by omega)]
    exact swp_loop f N a b n c0 rest toks tys h1 h2 hN k (i + 1) (by omega)
theorem swp_law (f : Nat → List Vl) (N a b n : Nat) (c0 : List PV) (rest : List (List PV)) (toks : List (Nat × Nat × TypeId)) (tys : List TypeId) (h1 : a + n ≤ b) (h2 : b + n ≤ N) (hN : N ≤ 9223372036854775807) :
    swp_W 0 N a b n c0 (oA cV f N) rest toks tys = some (.tup [], ⟨c0 :: oA cV (swR f a b n) N :: rest, toks, 82 :: 1000023 :: tys⟩) := by
  have h : swp1_W 0 N a b n 0 c0 (oA cV f N) rest toks tys = some (.exit 0, [], ⟨c0 :: oA cV (swR f a b n) N :: rest, toks, 82 :: 1000023 :: tys⟩) := by
    have := swp_loop f N a b n c0 rest toks tys h1 h2 hN n 0 (by omega)
    rw [swR_zero] at this
    exact this
  simp [swp_W, swp_Tr, swp1_is0, swp1_l2, h, gObj]
theorem swp_is (f : Nat → List Vl) (N a b n : Nat) (c0 : List PV) (rest : List (List PV)) (toks : List (Nat × Nat × TypeId)) (tys : List TypeId) (h1 : a + n ≤ b) (h2 : b + n ≤ N) (hN : N ≤ 9223372036854775807) :
    swp_is0 0 N a b n c0 (oA cV f N) rest toks tys = true ∧ swp_l2 0 N a b n c0 (oA cV f N) rest toks tys = oA cV (swR f a b n) N := by
  have h := swp_law f N a b n c0 rest toks tys h1 h2 hN
  simp [swp_is0, swp_l2, h, gObj, asOut]
/-! ### ranges put behind one another -/
theorem rot_loop (f0 : Nat → List Vl) (N m lo hi : Nat) (c0 : List PV) (rest : List (List PV)) (toks : List (Nat × Nat × TypeId)) (tys : List TypeId) (hl : lo ≤ m) (hh : m ≤ hi) (h2 : hi ≤ N) (hN : N ≤ 9223372036854775807) :
    ∀ k i j : Nat, ∀ f : Nat → List Vl, i + j ≤ k → 0 < i → 0 < j → lo + i ≤ m → m + j ≤ hi → Mv f0 f lo hi → rotR f (m - i) m (m + j) = rotR f0 lo m hi →
    ∃ i' : Nat, ∃ f', rot1_V [.osl 1 0 N 1, .int .i64 m, .fn 16 [], .int .i64 i, .int .i64 j] ⟨c0 :: oA cV f N :: rest, toks, 82 :: 1000023 :: tys⟩ =
      some (.exit 0, [.osl 1 0 N 1, .int .i64 m, .fn 16 [], .int .i64 i'], ⟨c0 :: oA cV f' N :: rest, toks, 82 :: 1000023 :: tys⟩) ∧ lo + i' ≤ m ∧ m + i' ≤ hi ∧ Mv f0 f' lo hi ∧ rotR f' (m - i') m (m + i') = rotR f0 lo m hi := by
  intro k
  induction k with
  | zero => intro i j f h; omega
  | succ k ih =>
    intro i j f h hi0 hj0 hli hmj hm hr
    by_cases e : i = j
    · subst e
      refine ⟨i, f, ?_, hli, hmj, hm, hr⟩
      rw [rot1_E]
      simp [rot1_Tr, iNe_N]
    · by_cases hlt : j < i
      · obtain ⟨a1, a2⟩ := swp_is f N (m - i) m j c0 rest toks tys (by omega) (by omega) hN
        obtain ⟨i', f', b1, b2, b3, b4, b5⟩ := ih (i - j) j (swR f (m - i) m j) (by omega) (by omega) hj0 (by omega) hmj (hm.trans (swR_mv f (by omega) (by omega) (by omega))) (by rw [rotR_more f hlt (by omega)]; exact hr)
        refine ⟨i', f', ?_, b2, b3, b4, b5⟩
        rw [rot1_E, ← b1]
        unfold rot1_Tr
        simp only [iNe_N, iLt_N, sub_N (a := m) (b := i) (by omega) (by omega), sub_N (a := i) (b := j) (by omega) (by omega), a1, a2, hlt, e, ne_eq, not_false_eq_true, decide_true, Tr.run_ite, if_true, Tr.run_ret, lnext_next]
      · obtain ⟨a1, a2⟩ := swp_is f N (m - i) (m + j - i) i c0 rest toks tys (by omega) (by omega) hN
        obtain ⟨i', f', b1, b2, b3, b4, b5⟩ := ih i (j - i) (swR f (m - i) (m + j - i) i) (by omega) hi0 (by omega) hli (by omega) (hm.trans (swR_mv f (by omega) (by omega) (by omega))) (by rw [rotR_less f (by omega) (by omega)]; exact hr)
        refine ⟨i', f', ?_, b2, b3, b4, b5⟩
        rw [rot1_E, ← b1]
        unfold rot1_Tr
        simp only [iNe_N, iLt_N, add_N (a := m) (b := j) (by omega), sub_N (a := m) (b := i) (by omega) (by omega), sub_N (a := m + j) (b := i) (by omega) (by omega), sub_N (a := j) (b := i) (by omega) (by omega), a1, a2, hlt, e, ne_eq, not_false_eq_true, decide_true, decide_false, Bool.false_eq_true, Tr.run_ite, if_true, if_false, Tr.run_ret, lnext_next]
theorem rot_law (f : Nat → List Vl) (N a m b : Nat) (c0 : List PV) (rest : List (List PV)) (toks : List (Nat × Nat × TypeId)) (tys : List TypeId) (h0 : a < m) (h1 : m < b) (h2 : b ≤ N) (hN : N ≤ 9223372036854775807) :
    rot_W 0 N a m b c0 (oA cV f N) rest toks tys = some (.tup [], ⟨c0 :: oA cV (rotR f a m b) N :: rest, toks, 82 :: 1000023 :: tys⟩) ∧ Mv f (rotR f a m b) a b := by
  obtain ⟨i', f', b1, b2, b3, b4, b5⟩ := rot_loop f N m a b c0 rest toks tys (by omega) (by omega) h2 hN (b - a) (m - a) (b - m) f (by omega) (by omega) (by omega) (by omega) (by omega) (Mv.refl _ _ _) (by
    have e1 : m - (m - a) = a := by omega
    have e2 : m + (b - m) = b := by omega
    rw [e1, e2])
  obtain ⟨a1, a2⟩ := swp_is f' N (m - i') m i' c0 rest toks tys (by omega) (by omega) hN
  have e : swR f' (m - i') m i' = rotR f a m b := by rw [rotR_same f' (by omega), b5]
  have hw : rot1_W 0 N m ((m - a : Nat) : Int) ((b - m : Nat) : Int) c0 (oA cV f N) rest toks tys = some (.exit 0, [.osl 1 0 N 1, .int .i64 m, .fn 16 [], .int .i64 i'], ⟨c0 :: oA cV f' N :: rest, toks, 82 :: 1000023 :: tys⟩) := b1
  constructor
  · unfold rot_W rot_Tr
    simp only [sub_N (a := m) (b := a) (by omega) (by omega), sub_N (a := b) (b := m) (by omega) (by omega)]
    have g1 : rot1_i 0 N m ((m - a : Nat) : Int) ((b - m : Nat) : Int) c0 (oA cV f N) rest toks tys = (i' : Int) := by simp [rot1_i, hw, gOut, gInt]
    have g2 : rot1_l2 0 N m ((m - a : Nat) : Int) ((b - m : Nat) : Int) c0 (oA cV f N) rest toks tys = oA cV f' N := by simp [rot1_l2, hw, gObj]
    have g3 : rot1_is0 0 N m ((m - a : Nat) : Int) ((b - m : Nat) : Int) c0 (oA cV f N) rest toks tys = true := by simp [rot1_is0, g1, g2, hw]
    rw [g3, g1, g2, sub_N (a := m) (b := i') (by omega) (by omega), a1, a2, e]
    rfl
  · rw [← e]
    exact b4.trans (swR_mv f' (by omega) (by omega) (by omega))
theorem rot_is (f : Nat → List Vl) (N a m b : Nat) (c0 : List PV) (rest : List (List PV)) (toks : List (Nat × Nat × TypeId)) (tys : List TypeId) (h0 : a < m) (h1 : m < b) (h2 : b ≤ N) (hN : N ≤ 9223372036854775807) :
    rot_is0 0 N a m b c0 (oA cV f N) rest toks tys = true ∧ rot_l2 0 N a m b c0 (oA cV f N) rest toks tys = oA cV (rotR f a m b) N := by
  have h := (rot_law f N a m b c0 rest toks tys h0 h1 h2 hN).1
  simp [rot_is0, rot_l2, h, gObj, asOut]

/-! ### one after the other put at its place -/
abbrev cT : List Vl → List Vl → Int := cmpT cmpVl
theorem iLt_0 (x : Int) : iLt x 0 = decide (x < 0) := rfl
theorem cmpTV_cT (x y : List Vl) : cmpTV (rOf cV x) (rOf cV y) = cT x y := by simp [cmpTV, cT]
theorem ins_in (f0 : Nat → List Vl) (T : Tot cT) (N a b i : Nat) (c0 : List PV) (rest : List (List PV)) (toks : List (Nat × Nat × TypeId)) (tys : List TypeId) (hi : i < N) (hN : N ≤ 9223372036854775807) :
    ∀ j : Nat, ∀ f : Nat → List Vl, a ≤ j → j ≤ i → SrtX cT f a (i + 1) j → Mv f0 f a (i + 1) →
    ∃ f', ins2_V [.osl 1 0 N 1, .int .i64 a, .int .i64 b, .fn 16 [], .int .i64 i, .int .i64 j] ⟨c0 :: oA cV f N :: rest, toks, 82 :: 1000023 :: tys⟩ =
      some (.exit 2, [.osl 1 0 N 1, .int .i64 a, .int .i64 b, .fn 16 [], .int .i64 i], ⟨c0 :: oA cV f' N :: rest, toks, 82 :: 1000023 :: tys⟩) ∧ Srt cT f' a (i + 1) ∧ Mv f0 f' a (i + 1) := by
  intro j
  induction j with
  | zero =>
    intro f h1 h2 h3 h4
    have e : a = 0 := by omega
    subst e
    refine ⟨f, ?_, h3.done0, h4⟩
    rw [ins2_E]
    simp [ins2_Tr, iLt_N]
  | succ j ih =>
    intro f h1 h2 h3 h4
    by_cases e : a = j + 1
    · subst e
      refine ⟨f, ?_, h3.done0, h4⟩
      rw [ins2_E]
      simp [ins2_Tr, iLt_N]
    · have k1 : j + 1 < N := by omega
      have k2 : j < N := by omega
      have k3 : a < j + 1 := by omega
      by_cases hc : cT (f (j + 1)) (f j) < 0
      · obtain ⟨f', b1, b2, b3⟩ := ih (upd (upd f (j + 1) (f j)) j (f (j + 1))) (by omega) (by omega) (h3.step (j := j + 1) (by omega) (by omega) hc) (h4.trans (Mv.swap f (by omega) (by omega) (by omega) (by omega)))
        refine ⟨f', ?_, b2, b3⟩
        rw [← b1, ins2_E]
        unfold ins2_Tr
        simp only [iLt_N, iLt_0, sub_N1 (a := j + 1) (by omega) (by omega), Nat.add_sub_cancel, okIx_N, nNat_N, pOff_01, okCell_oA cV k1, okCell_oA cV k2, cRow_oA cV k1, cRow_oA cV k2, putC_oA cV _ k1, putC_oA cV _ k2, okOff_oA cV k1, okOff_oA cV k2, lockLL_rOf, okR_of, cmpTV_cT, hc, k1, k2, k3, decide_true, Tr.run_ite, if_true, Tr.run_ret, lnext_next]
      · refine ⟨f, ?_, h3.done T (by omega) (by omega) (by simpa using hc), h4⟩
        rw [ins2_E]
        unfold ins2_Tr
        simp only [iLt_N, iLt_0, sub_N1 (a := j + 1) (by omega) (by omega), Nat.add_sub_cancel, okIx_N, nNat_N, pOff_01, okCell_oA cV k1, okCell_oA cV k2, cRow_oA cV k1, cRow_oA cV k2, lockLL_rOf, okR_of, cmpTV_cT, hc, k1, k2, k3, decide_true, decide_false, Bool.false_eq_true, Tr.run_ite, if_true, if_false, Tr.run_ret, lnext_out]
theorem ins_out (f0 : Nat → List Vl) (T : Tot cT) (N a b : Nat) (c0 : List PV) (rest : List (List PV)) (toks : List (Nat × Nat × TypeId)) (tys : List TypeId) (hb : b ≤ N) (hN : N < 9223372036854775807) :
    ∀ k i : Nat, ∀ f : Nat → List Vl, i + k = b → a < i → Srt cT f a i → Mv f0 f a b →
    ∃ f', ins1_V [.osl 1 0 N 1, .int .i64 a, .int .i64 b, .fn 16 [], .int .i64 i] ⟨c0 :: oA cV f N :: rest, toks, 82 :: 1000023 :: tys⟩ =
      some (.exit 0, [], ⟨c0 :: oA cV f' N :: rest, toks, 82 :: 1000023 :: tys⟩) ∧ Srt cT f' a b ∧ Mv f0 f' a b := by
  intro k
  induction k with
  | zero =>
    intro i f h1 h2 h3 h4
    have e : i = b := by omega
    subst e
    refine ⟨f, ?_, h3, h4⟩
    rw [ins1_E]
    simp [ins1_Tr, iLt_N]
  | succ k ih =>
    intro i f h1 h2 h3 h4
    obtain ⟨f1, b1, b2, b3⟩ := ins_in f T N a b i c0 rest toks tys (by omega) (by omega) i f (by omega) (by omega) (SrtX.init h3) (Mv.refl _ _ _)
    obtain ⟨f2, c1, c2, c3⟩ := ih (i + 1) f1 (by omega) (by omega) b2 (h4.trans (b3.mono (Nat.le_refl _) (by omega)))
    refine ⟨f2, ?_, c2, c3⟩
    have hw : ins2_W 0 N a b i i c0 (oA cV f N) rest toks tys = some (.exit 2, [.osl 1 0 N 1, .int .i64 a, .int .i64 b, .fn 16 [], .int .i64 i], ⟨c0 :: oA cV f1 N :: rest, toks, 82 :: 1000023 :: tys⟩) := b1
    have g1 : ins2_l2 0 N a b i i c0 (oA cV f N) rest toks tys = oA cV f1 N := by simp [ins2_l2, hw, gObj]
    have g2 : ins2_is0 0 N a b i i c0 (oA cV f N) rest toks tys = true := by simp [ins2_is0, g1, hw]
    have k1 : i < b := by omega
    rw [ins1_E, ← c1]
    unfold ins1_Tr
    simp only [iLt_N, g1, g2, k1, add_N1 (a := i) (by omega), decide_true, Tr.run_ite, if_true, Tr.run_ret, lnext_next]
theorem ins_law (f : Nat → List Vl) (T : Tot cT) (N a b : Nat) (c0 : List PV) (rest : List (List PV)) (toks : List (Nat × Nat × TypeId)) (tys : List TypeId) (hb : b ≤ N) (ha : a ≤ N) (hN : N < 9223372036854775807) :
    ∃ f', ins_is0 0 N a b c0 (oA cV f N) rest toks tys = true ∧ ins_l2 0 N a b c0 (oA cV f N) rest toks tys = oA cV f' N ∧ Srt cT f' a b ∧ Mv f f' a b := by
  have key : ∃ f', ins1_W 0 N a b ((a + 1 : Nat) : Int) c0 (oA cV f N) rest toks tys = some (.exit 0, [], ⟨c0 :: oA cV f' N :: rest, toks, 82 :: 1000023 :: tys⟩) ∧ Srt cT f' a b ∧ Mv f f' a b := by
    by_cases e : a + 1 ≤ b
    · exact ins_out f T N a b c0 rest toks tys hb hN (b - (a + 1)) (a + 1) f (by omega) (by omega) (Srt.one f a) (Mv.refl _ _ _)
    · refine ⟨f, ?_, fun p q _ _ _ => by omega, Mv.refl _ _ _⟩
      unfold ins1_W
      rw [ins1_E]
      have : ¬ a + 1 < b := by omega
      unfold ins1_Tr
      simp only [iLt_N, this, decide_false, Bool.false_eq_true, Tr.run_ite, if_false, Tr.run_ret, lnext_out]
  obtain ⟨f', h, h2, h3⟩ := key
  have hw : ins_W 0 N a b c0 (oA cV f N) rest toks tys = some (.tup [], ⟨c0 :: oA cV f' N :: rest, toks, 82 :: 1000023 :: tys⟩) := by
    unfold ins_W ins_Tr
    simp only [add_N1 (a := a) (by omega)]
    have g1 : ins1_l2 0 N a b ((a + 1 : Nat) : Int) c0 (oA cV f N) rest toks tys = oA cV f' N := by rw [ins1_l2, h]; rfl
    have g2 : ins1_is0 0 N a b ((a + 1 : Nat) : Int) c0 (oA cV f N) rest toks tys = true := by rw [ins1_is0, g1, h]; simp
    simp only [g1, g2, Tr.run_ite, if_true, Tr.run_ret]
  exact ⟨f', by simp [ins_is0, ins_l2, hw, gObj, asOut], by simp [ins_l2, hw, gObj, asOut], h2, h3⟩
end Go.Pv

set_option maxHeartbeats 8000000
set_option maxRecDepth 200000
set_option linter.unusedSimpArgs false
set_option linter.unusedVariables false
/-! What a merge in place makes of a row whose two ranges are in order. -/
namespace Go.Pv
open Go Go.Proofs
section
variable [RecW]
variable (c0 : List PV) (rest : List (List PV)) (toks : List (Nat × Nat × TypeId)) (tys : List TypeId)
abbrev sT (f : Nat → List Vl) (N : Nat) : Store := ⟨c0 :: oA cV f N :: rest, toks, 82 :: 1000023 :: tys⟩
theorem sym1_law (f : Nat → List Vl) (T : Tot cT) (N a b : Nat) (hb : b ≤ N) (hab : a + 1 ≤ b) (hN : N ≤ 4611686018427387903) (hB : Srt cT f (a + 1) b) :
    ∃ i' : Nat, sym1_V [.osl 1 0 N 1, .int .i64 a, .fn 16 [], .int .i64 ((a + 1 : Nat) : Int), .int .i64 b] (sT c0 rest toks tys f N) = some (.exit 0, [.osl 1 0 N 1, .int .i64 a, .int .i64 i'], sT c0 rest toks tys f N) ∧
      a + 1 ≤ i' ∧ i' ≤ b ∧ (∀ p, a + 1 ≤ p → p < i' → cT (f p) (f a) < 0) ∧ (∀ p, i' ≤ p → p < b → ¬ cT (f p) (f a) < 0) := by
  refine halves (fun i j => sym1_V [.osl 1 0 N 1, .int .i64 a, .fn 16 [], .int .i64 i, .int .i64 j] (sT c0 rest toks tys f N)) (fun i' => some (.exit 0, [.osl 1 0 N 1, .int .i64 a, .int .i64 i'], sT c0 rest toks tys f N)) (fun p => cT (f p) (f a) < 0) (a + 1) b ?_ ?_ ?_ (b - (a + 1)) (a + 1) b (by omega) (by omega) (by omega) (by omega) (fun p _ _ => by omega) (fun p _ _ => by omega)
  · intro i j h1 h2 h3
    have k1 : (i + j) / 2 < N := by omega
    have k2 : a < N := by omega
    constructor
    · intro q
      simp only [sT]
      rw [sym1_E]
      unfold sym1_Tr
      simp only [iLt_N, iLt_0, half_N (a := i) (b := j) (by omega), add_N1 (a := (i + j) / 2) (by omega), okIx_N, nNat_N, pOff_01, okCell_oA cV k1, okCell_oA cV k2, cRow_oA cV k1, cRow_oA cV k2, lockLL_rOf, okR_of, cmpTV_cT, q, k1, k2, h2, decide_true, Tr.run_ite, if_true, Tr.run_ret, lnext_next]
    · intro q
      simp only [sT]
      rw [sym1_E]
      unfold sym1_Tr
      simp only [iLt_N, iLt_0, half_N (a := i) (b := j) (by omega), add_N1 (a := (i + j) / 2) (by omega), okIx_N, nNat_N, pOff_01, okCell_oA cV k1, okCell_oA cV k2, cRow_oA cV k1, cRow_oA cV k2, lockLL_rOf, okR_of, cmpTV_cT, q, k1, k2, h2, decide_true, decide_false, Bool.false_eq_true, if_false, Tr.run_ite, if_true, Tr.run_ret, lnext_next]
  · intro i h1 h2
    simp only [sT]
    rw [sym1_E]
    unfold sym1_Tr
    simp only [iLt_N, Nat.lt_irrefl, decide_false, Bool.false_eq_true, if_false, Tr.run_ite, Tr.run_ret, lnext_out]
  · intro p q h1 h2 h3 h4
    exact T.le_lt_trans (hB p q h1 h2 h3) h4
theorem sym3_law (f : Nat → List Vl) (T : Tot cT) (N a m : Nat) (hb : m < N) (hab : a ≤ m) (hN : N ≤ 4611686018427387903) (hA : Srt cT f a m) :
    ∃ i' : Nat, sym3_V [.osl 1 0 N 1, .int .i64 m, .fn 16 [], .int .i64 a, .int .i64 m] (sT c0 rest toks tys f N) = some (.exit 4, [.osl 1 0 N 1, .int .i64 m, .int .i64 i'], sT c0 rest toks tys f N) ∧
      a ≤ i' ∧ i' ≤ m ∧ (∀ p, a ≤ p → p < i' → ¬ cT (f m) (f p) < 0) ∧ (∀ p, i' ≤ p → p < m → ¬ ¬ cT (f m) (f p) < 0) := by
  refine halves (fun i j => sym3_V [.osl 1 0 N 1, .int .i64 m, .fn 16 [], .int .i64 i, .int .i64 j] (sT c0 rest toks tys f N)) (fun i' => some (.exit 4, [.osl 1 0 N 1, .int .i64 m, .int .i64 i'], sT c0 rest toks tys f N)) (fun p => ¬ cT (f m) (f p) < 0) a m ?_ ?_ ?_ (m - a) a m (by omega) (by omega) (by omega) (by omega) (fun p _ _ => by omega) (fun p _ _ => by omega)
  · intro i j h1 h2 h3
    have k1 : (i + j) / 2 < N := by omega
    constructor
    · intro q
      simp only [sT]
      rw [sym3_E]
      unfold sym3_Tr
      simp only [iLt_N, iLt_0, half_N (a := i) (b := j) (by omega), add_N1 (a := (i + j) / 2) (by omega), okIx_N, nNat_N, pOff_01, okCell_oA cV k1, okCell_oA cV hb, cRow_oA cV k1, cRow_oA cV hb, lockLL_rOf, okR_of, cmpTV_cT, q, k1, hb, h2, decide_true, decide_false, bNot_eq, Bool.not_false, Tr.run_ite, if_true, Tr.run_ret, lnext_next]
    · intro q
      have q' : cT (f m) (f ((i + j) / 2)) < 0 := Decidable.byContradiction q
      simp only [sT]
      rw [sym3_E]
      unfold sym3_Tr
      simp only [iLt_N, iLt_0, half_N (a := i) (b := j) (by omega), add_N1 (a := (i + j) / 2) (by omega), okIx_N, nNat_N, pOff_01, okCell_oA cV k1, okCell_oA cV hb, cRow_oA cV k1, cRow_oA cV hb, lockLL_rOf, okR_of, cmpTV_cT, q', k1, hb, h2, decide_true, decide_false, bNot_eq, Bool.not_true, Bool.false_eq_true, if_false, Tr.run_ite, if_true, Tr.run_ret, lnext_next]
  · intro i h1 h2
    simp only [sT]
    rw [sym3_E]
    unfold sym3_Tr
    simp only [iLt_N, Nat.lt_irrefl, decide_false, Bool.false_eq_true, if_false, Tr.run_ite, Tr.run_ret, lnext_out]
  · intro p q h1 h2 h3 h4 h5
    exact h4 (T.lt_le_trans h5 (hA p q h1 h2 h3))
theorem sym5_law (f : Nat → List Vl) (T : Tot cT) (N a m b mid n lo hi : Nat) (hlh : lo ≤ hi) (hA : Srt cT f lo hi) (hB : ∀ p q, lo ≤ p → p < q → q < hi → cT (f (n - q)) (f (n - p)) ≤ 0) (hn : hi ≤ n + 1) (hnN : n - lo < N) (hhN : hi ≤ N) (hN : N ≤ 4611686018427387903) (hn2 : n ≤ 9223372036854775807) (n4 n5 : Int) :
    ∃ i' : Nat, sym5_V [.osl 1 0 N 1, .int .i64 a, .int .i64 m, .int .i64 b, .fn 16 [], .int .i64 n4, .int .i64 n5, .int .i64 lo, .int .i64 hi, .int .i64 n] (sT c0 rest toks tys f N) =
        some (.exit 8, [.osl 1 0 N 1, .int .i64 a, .int .i64 m, .int .i64 b, .fn 16 [], .int .i64 n4, .int .i64 n5, .int .i64 i'], sT c0 rest toks tys f N) ∧
      lo ≤ i' ∧ i' ≤ hi ∧ (∀ p, lo ≤ p → p < i' → ¬ cT (f (n - p)) (f p) < 0) ∧ (∀ p, i' ≤ p → p < hi → ¬ ¬ cT (f (n - p)) (f p) < 0) := by
  refine halves (fun i j => sym5_V [.osl 1 0 N 1, .int .i64 a, .int .i64 m, .int .i64 b, .fn 16 [], .int .i64 n4, .int .i64 n5, .int .i64 i, .int .i64 j, .int .i64 n] (sT c0 rest toks tys f N)) (fun i' => some (.exit 8, [.osl 1 0 N 1, .int .i64 a, .int .i64 m, .int .i64 b, .fn 16 [], .int .i64 n4, .int .i64 n5, .int .i64 i'], sT c0 rest toks tys f N)) (fun p => ¬ cT (f (n - p)) (f p) < 0) lo hi ?_ ?_ ?_ (hi - lo) lo hi (by omega) (by omega) (by omega) (by omega) (fun p _ _ => by omega) (fun p _ _ => by omega)
  · intro i j h1 h2 h3
    have k1 : (i + j) / 2 < N := by omega
    have k2 : n - (i + j) / 2 < N := by omega
    constructor
    · intro q
      simp only [sT]
      rw [sym5_E]
      unfold sym5_Tr
      simp only [iLt_N, iLt_0, half_N (a := i) (b := j) (by omega), add_N1 (a := (i + j) / 2) (by omega), sub_N (a := n) (b := (i + j) / 2) (by omega) hn2, okIx_N, nNat_N, pOff_01, okCell_oA cV k1, okCell_oA cV k2, cRow_oA cV k1, cRow_oA cV k2, lockLL_rOf, okR_of, cmpTV_cT, q, k1, k2, h2, decide_true, decide_false, bNot_eq, Bool.not_false, Tr.run_ite, if_true, Tr.run_ret, lnext_next]
    · intro q
      have q' : cT (f (n - (i + j) / 2)) (f ((i + j) / 2)) < 0 := Decidable.byContradiction q
      simp only [sT]
      rw [sym5_E]
      unfold sym5_Tr
      simp only [iLt_N, iLt_0, half_N (a := i) (b := j) (by omega), add_N1 (a := (i + j) / 2) (by omega), sub_N (a := n) (b := (i + j) / 2) (by omega) hn2, okIx_N, nNat_N, pOff_01, okCell_oA cV k1, okCell_oA cV k2, cRow_oA cV k1, cRow_oA cV k2, lockLL_rOf, okR_of, cmpTV_cT, q', k1, k2, h2, decide_true, decide_false, bNot_eq, Bool.not_true, Bool.false_eq_true, if_false, Tr.run_ite, if_true, Tr.run_ret, lnext_next]
  · intro i h1 h2
    simp only [sT]
    rw [sym5_E]
    unfold sym5_Tr
    simp only [iLt_N, Nat.lt_irrefl, decide_false, Bool.false_eq_true, if_false, Tr.run_ite, Tr.run_ret, lnext_out]
  · intro p q h1 h2 h3 h4 h5
    exact h4 (T.le_lt_trans (hB p q h1 h2 h3) (T.lt_le_trans h5 (hA p q h1 h2 h3)))

omit [RecW] in
theorem shl_0 (f : Nat → List Vl) (a : Nat) : (fun p => if a ≤ p ∧ p < a then f (p + 1) else if p = a then f a else f p) = f := by
  funext p
  repeat' split
  all_goals first | rfl | omega | (congr 1; omega)
omit [RecW] in
theorem shr_0 (f : Nat → List Vl) (m : Nat) : (fun p => if m < p ∧ p ≤ m then f (p - 1) else if p = m then f m else f p) = f := by
  funext p
  repeat' split
  all_goals first | rfl | omega | (congr 1; omega)
theorem sym2_law (f : Nat → List Vl) (N a b i : Nat) (hi : i < N) (hib : i < b) (hN : N ≤ 4611686018427387903) : ∀ d k : Nat, k + d = i → a ≤ k → ∀ g, g = (fun p => if a ≤ p ∧ p < k then f (p + 1) else if p = k then f a else f p) → Mv f g a b →
    sym2_V [.osl 1 0 N 1, .int .i64 ((i + 1 : Nat) : Int), .int .i64 k] (sT c0 rest toks tys g N) = some (.exit 2, [], sT c0 rest toks tys (fun p => if a ≤ p ∧ p < i then f (p + 1) else if p = i then f a else f p) N) ∧ Mv f (fun p => if a ≤ p ∧ p < i then f (p + 1) else if p = i then f a else f p) a b := by
  intro d
  induction d with
  | zero =>
    intro k h1 h2 g hg hm
    have e : k = i := by omega
    subst e
    subst hg
    refine ⟨?_, hm⟩
    simp only [sT]
    rw [sym2_E]
    unfold sym2_Tr
    simp only [iLt_N, sub_N1 (a := k + 1) (by omega) (by omega), Nat.add_sub_cancel, Nat.lt_irrefl, decide_false, Bool.false_eq_true, if_false, Tr.run_ite, Tr.run_ret, lnext_out]
  | succ d ih =>
    intro k h1 h2 g hg hm
    have k1 : k < N := by omega
    have k2 : k + 1 < N := by omega
    have k3 : k < i := by omega
    have hs := shl_step hg h2
    obtain ⟨c1, c2⟩ := ih (k + 1) (by omega) (by omega) _ hs (hm.trans (Mv.swap g (by omega) (by omega) (by omega) (by omega)))
    refine ⟨?_, c2⟩
    rw [← c1]
    simp only [sT]
    rw [sym2_E]
    unfold sym2_Tr
    simp only [iLt_N, add_N1 (a := k) (by omega), sub_N1 (a := i + 1) (by omega) (by omega), Nat.add_sub_cancel, okIx_N, nNat_N, pOff_01, okCell_oA cV k1, okCell_oA cV k2, cRow_oA cV k1, cRow_oA cV k2, putC_oA cV _ k1, putC_oA cV _ k2, okOff_oA cV k1, okOff_oA cV k2, k1, k2, k3, decide_true, Tr.run_ite, if_true, Tr.run_ret, lnext_next]
theorem sym4_law (f : Nat → List Vl) (N a m i : Nat) (hm0 : m < N) (hi : a ≤ i) (hN : N ≤ 4611686018427387903) : ∀ d k : Nat, i + d = k → k ≤ m → ∀ g, g = (fun p => if k < p ∧ p ≤ m then f (p - 1) else if p = k then f m else f p) → Mv f g a (m + 1) →
    sym4_V [.osl 1 0 N 1, .int .i64 i, .int .i64 k] (sT c0 rest toks tys g N) = some (.exit 6, [], sT c0 rest toks tys (fun p => if i < p ∧ p ≤ m then f (p - 1) else if p = i then f m else f p) N) ∧ Mv f (fun p => if i < p ∧ p ≤ m then f (p - 1) else if p = i then f m else f p) a (m + 1) := by
  intro d
  induction d with
  | zero =>
    intro k h1 h2 g hg hm
    have e : k = i := by omega
    subst e
    subst hg
    refine ⟨?_, hm⟩
    simp only [sT]
    rw [sym4_E]
    unfold sym4_Tr
    simp only [iLt_N, Nat.lt_irrefl, decide_false, Bool.false_eq_true, if_false, Tr.run_ite, Tr.run_ret, lnext_out]
  | succ d ih =>
    intro k h1 h2 g hg hm
    have k1 : k < N := by omega
    have k2 : k - 1 < N := by omega
    have k3 : i < k := by omega
    have hs := shr_step hg (by omega) h2
    obtain ⟨c1, c2⟩ := ih (k - 1) (by omega) (by omega) _ hs (hm.trans (Mv.swap g (by omega) (by omega) (by omega) (by omega)))
    refine ⟨?_, c2⟩
    rw [← c1]
    simp only [sT]
    rw [sym4_E]
    unfold sym4_Tr
    simp only [iLt_N, sub_N1 (a := k) (by omega) (by omega), okIx_N, nNat_N, pOff_01, okCell_oA cV k1, okCell_oA cV k2, cRow_oA cV k1, cRow_oA cV k2, putC_oA cV _ k1, putC_oA cV _ k2, okOff_oA cV k1, okOff_oA cV k2, k1, k2, k3, decide_true, Tr.run_ite, if_true, Tr.run_ret, lnext_next]
/-- What a merge does. -/
def Merges (N : Nat) (k : Nat) : Prop := ∀ (f : Nat → List Vl) (a m b : Nat), a < m → m < b → b ≤ N → b - a ≤ k → Srt cT f a m → Srt cT f m b →
  ∃ f', RecW.W 0 N a m b c0 (oA cV f N) rest toks tys = some (.tup [], sT c0 rest toks tys f' N) ∧ Srt cT f' a b ∧ Mv f f' a b
theorem rec_is {N k : Nat} (h : Merges c0 rest toks tys N k) (f : Nat → List Vl) (a m b : Nat) (h1 : a < m) (h2 : m < b) (h3 : b ≤ N) (h4 : b - a ≤ k) (hA : Srt cT f a m) (hB : Srt cT f m b) :
    ∃ f', rec_is0 0 N a m b c0 (oA cV f N) rest toks tys = true ∧ rec_l 0 N a m b c0 (oA cV f N) rest toks tys = oA cV f' N ∧ Srt cT f' a b ∧ Mv f f' a b := by
  obtain ⟨f', c1, c2, c3⟩ := h f a m b h1 h2 h3 h4 hA hB
  have e : rec_l 0 N a m b c0 (oA cV f N) rest toks tys = oA cV f' N := by simp [rec_l, c1, sT, gObj, asOut]
  exact ⟨f', by simp [rec_is0, e, c1, sT], e, c2, c3⟩

noncomputable def mgR (l : List PV) : Tr (PV × Store) := .ret (.tup [], ⟨c0 :: l :: rest, toks, 82 :: 1000023 :: tys⟩)
noncomputable def mg2 (N : Nat) (mid en b : Int) (l : List PV) : Tr (PV × Store) :=
  .ite (iLt mid en) (.ite (iLt en b) (.ite (rec_is0 0 N mid en b c0 l rest toks tys) (mgR c0 rest toks tys (rec_l 0 N mid en b c0 l rest toks tys)) .fail) (mgR c0 rest toks tys l)) (mgR c0 rest toks tys l)
noncomputable def mg1 (N : Nat) (a st mid en b : Int) (l : List PV) : Tr (PV × Store) :=
  .ite (iLt a st) (.ite (iLt st mid) (.ite (rec_is0 0 N a st mid c0 l rest toks tys) (mg2 c0 rest toks tys N mid en b (rec_l 0 N a st mid c0 l rest toks tys)) .fail) (mg2 c0 rest toks tys N mid en b l)) (mg2 c0 rest toks tys N mid en b l)
noncomputable def mg0 (N : Nat) (a st m mid en b : Int) (l : List PV) : Tr (PV × Store) :=
  .ite (iLt st m) (.ite (iLt m en) (.ite (rot_is0 0 N st m en c0 l rest toks tys) (mg1 c0 rest toks tys N a st mid en b (rot_l2 0 N st m en c0 l rest toks tys)) .fail) (mg1 c0 rest toks tys N a st mid en b l)) (mg1 c0 rest toks tys N a st mid en b l)
noncomputable def mgS (N : Nat) (a m b mid n lo hi p : Int) (cs : List PV) : Tr (PV × Store) :=
  .ite (sym5_is0 0 N a m b mid n lo hi p c0 cs rest toks tys) (mg0 c0 rest toks tys N a (sym5_n6 0 N a m b mid n lo hi p c0 cs rest toks tys) m mid (iSub .i64 n (sym5_n6 0 N a m b mid n lo hi p c0 cs rest toks tys)) b (sym5_l2 0 N a m b mid n lo hi p c0 cs rest toks tys)) .fail
noncomputable def mgM (N : Nat) (a m b mid n : Int) (cs : List PV) : Tr (PV × Store) :=
  .ite (iLt mid m) (mgS c0 rest toks tys N a m b mid n (iSub .i64 n b) mid (iSub .i64 n 1) cs) (mgS c0 rest toks tys N a m b mid n a m (iSub .i64 n 1) cs)
noncomputable def mgA (N : Nat) (a m b : Int) (cs : List PV) : Tr (PV × Store) :=
  .ite (sym1_is0 0 N a m b c0 cs rest toks tys) (.ite (sym2_is0 0 N (sym1_n2 0 N a m b c0 cs rest toks tys) a c0 (sym1_l2 0 N a m b c0 cs rest toks tys) rest toks tys) (mgR c0 rest toks tys (sym2_l2 0 N (sym1_n2 0 N a m b c0 cs rest toks tys) a c0 (sym1_l2 0 N a m b c0 cs rest toks tys) rest toks tys)) .fail) .fail
noncomputable def mgB (N : Nat) (a m : Int) (cs : List PV) : Tr (PV × Store) :=
  .ite (sym3_is0 0 N m a m c0 cs rest toks tys) (.ite (sym4_is0 0 N (sym3_n2 0 N m a m c0 cs rest toks tys) m c0 (sym3_l2 0 N m a m c0 cs rest toks tys) rest toks tys) (mgR c0 rest toks tys (sym4_l2 0 N (sym3_n2 0 N m a m c0 cs rest toks tys) m c0 (sym3_l2 0 N m a m c0 cs rest toks tys) rest toks tys)) .fail) .fail
theorem sym_parts (N : Nat) (a m b : Int) (cs : List PV) : sym_Tr 0 N a m b c0 cs rest toks tys =
    .ite (iEq (iSub .i64 m a) 1) (mgA c0 rest toks tys N a m b cs) (.ite (iEq (iSub .i64 b m) 1) (mgB c0 rest toks tys N a m cs)
      (mgM c0 rest toks tys N a m b (iWrap .i64 (iShr .u64 (iWrap .u64 (iAdd .i64 a b)) 1)) (iAdd .i64 (iWrap .i64 (iShr .u64 (iWrap .u64 (iAdd .i64 a b)) 1)) m) cs)) := rfl
theorem mg2_law {N k : Nat} (h : Merges c0 rest toks tys N k) (f : Nat → List Vl) (mid en b : Nat) (h1 : mid ≤ en) (h2 : en ≤ b) (h3 : b ≤ N) (h4 : b - mid ≤ k) (hA : Srt cT f mid en) (hB : Srt cT f en b) :
    ∃ f', (mg2 c0 rest toks tys N mid en b (oA cV f N)).run = some (.tup [], sT c0 rest toks tys f' N) ∧ Srt cT f' mid b ∧ Mv f f' mid b := by
  by_cases c1 : mid < en
  · by_cases c2 : en < b
    · obtain ⟨f', e1, e2, e3, e4⟩ := rec_is c0 rest toks tys h f mid en b c1 c2 h3 h4 hA hB
      refine ⟨f', ?_, e3, e4⟩
      simp only [mg2, mgR, sT, iLt_N, c1, c2, e1, e2, decide_true, Tr.run_ite, if_true, Tr.run_ret]
    · have e : en = b := by omega
      subst e
      refine ⟨f, ?_, hA, Mv.refl _ _ _⟩
      simp only [mg2, mgR, sT, iLt_N, c1, c2, decide_true, decide_false, Bool.false_eq_true, if_false, Tr.run_ite, if_true, Tr.run_ret]
  · have e : mid = en := by omega
    subst e
    refine ⟨f, ?_, hB, Mv.refl _ _ _⟩
    simp only [mg2, mgR, sT, iLt_N, c1, decide_true, decide_false, Bool.false_eq_true, if_false, Tr.run_ite, if_true, Tr.run_ret]
theorem mg1_law {N k : Nat} (h : Merges c0 rest toks tys N k) (f : Nat → List Vl) (a st mid en b : Nat) (h0 : a ≤ st) (h00 : st ≤ mid) (h1 : mid ≤ en) (h2 : en ≤ b) (h3 : b ≤ N) (h4 : b - mid ≤ k) (h5 : mid - a ≤ k)
    (hA1 : Srt cT f a st) (hA2 : Srt cT f st mid) (hB1 : Srt cT f mid en) (hB2 : Srt cT f en b) (hx : ∀ p q, a ≤ p → p < mid → mid ≤ q → q < b → cT (f p) (f q) ≤ 0) :
    ∃ f', (mg1 c0 rest toks tys N a st mid en b (oA cV f N)).run = some (.tup [], sT c0 rest toks tys f' N) ∧ Srt cT f' a b ∧ Mv f f' a b := by
  have key : ∃ f1, (mg1 c0 rest toks tys N a st mid en b (oA cV f N)).run = (mg2 c0 rest toks tys N mid en b (oA cV f1 N)).run ∧ Srt cT f1 a mid ∧ Mv f f1 a mid := by
    by_cases c1 : a < st
    · by_cases c2 : st < mid
      · obtain ⟨f', e1, e2, e3, e4⟩ := rec_is c0 rest toks tys h f a st mid c1 c2 (by omega) h5 hA1 hA2
        refine ⟨f', ?_, e3, e4⟩
        simp only [mg1, iLt_N, c1, c2, e1, e2, decide_true, Tr.run_ite, if_true]
      · have e : st = mid := by omega
        subst e
        refine ⟨f, ?_, hA1, Mv.refl _ _ _⟩
        simp only [mg1, iLt_N, c1, c2, decide_true, decide_false, Bool.false_eq_true, if_false, Tr.run_ite, if_true]
    · have e : a = st := by omega
      subst e
      refine ⟨f, ?_, hA2, Mv.refl _ _ _⟩
      simp only [mg1, iLt_N, c1, decide_true, decide_false, Bool.false_eq_true, if_false, Tr.run_ite, if_true]
  obtain ⟨f1, e1, s1, m1⟩ := key
  obtain ⟨f2, e2, s2, m2⟩ := mg2_law c0 rest toks tys h f1 mid en b h1 h2 h3 h4 (hB1.congr fun p hp _ => m1.out (by omega)) (hB2.congr fun p hp _ => m1.out (by omega))
  obtain ⟨c1, c2⟩ := merge_done (by omega) (by omega) m1 s1 m2 s2 hx
  exact ⟨f2, e1.trans e2, c1, c2⟩
theorem mg0_law {N k : Nat} (h : Merges c0 rest toks tys N k) (hN : N ≤ 4611686018427387903) (f : Nat → List Vl) (a m b mid st : Nat) (cut : Cut cT f a m b mid st) (hA : Srt cT f a m) (hB : Srt cT f m b) (h1 : a ≤ mid) (h2 : mid ≤ b) (h3 : b ≤ N) (h4 : b - mid ≤ k) (h5 : mid - a ≤ k) :
    ∃ f', (mg0 c0 rest toks tys N a st m mid ((mid + m - st : Nat) : Int) b (oA cV f N)).run = some (.tup [], sT c0 rest toks tys f' N) ∧ Srt cT f' a b ∧ Mv f f' a b := by
  have i1 := cut.am; have i2 := cut.sm; have i3 := cut.smid; have i4 := cut.em; have i5 := cut.eb
  have key : (mg0 c0 rest toks tys N a st m mid ((mid + m - st : Nat) : Int) b (oA cV f N)).run = (mg1 c0 rest toks tys N a st mid ((mid + m - st : Nat) : Int) b (oA cV (rotR f st m (mid + m - st)) N)).run ∧ Mv f (rotR f st m (mid + m - st)) a b := by
    by_cases c1 : st < m
    · by_cases c2 : m < mid + m - st
      · obtain ⟨e1, e2⟩ := rot_is f N st m (mid + m - st) c0 rest toks tys c1 c2 (by omega) (by omega)
        refine ⟨?_, (rot_law f N st m (mid + m - st) c0 rest toks tys c1 c2 (by omega) (by omega)).2.mono (by omega) (by omega)⟩
        simp only [mg0, iLt_N, c1, c2, e1, e2, decide_true, Tr.run_ite, if_true]
      · have e : mid + m - st = m := by omega
        have e' : rotR f st m (mid + m - st) = f := by rw [e]; exact rotR_hi f (by omega)
        rw [e']
        refine ⟨?_, Mv.refl _ _ _⟩
        simp only [mg0, iLt_N, c1, c2, decide_true, decide_false, Bool.false_eq_true, if_false, Tr.run_ite, if_true]
    · have e : st = m := by omega
      subst e
      rw [rotR_lo]
      refine ⟨?_, Mv.refl _ _ _⟩
      simp only [mg0, iLt_N, c1, decide_true, decide_false, Bool.false_eq_true, if_false, Tr.run_ite, if_true]
  obtain ⟨e1, m1⟩ := key
  obtain ⟨f', e2, s2, m2⟩ := mg1_law c0 rest toks tys h (rotR f st m (mid + m - st)) a st mid (mid + m - st) b i1 i3 (by omega) i5 h3 h4 h5 (cut.left1 hA) (cut.left2 hB) (cut.right1 hA) (cut.right2 hB) (fun p q => cut.across hA hB h2 p q)
  exact ⟨f', e1.trans e2, s2, m1.trans m2⟩
theorem sym_step {N k : Nat} (T : Tot cT) (h : Merges c0 rest toks tys N k) (hN : N ≤ 4611686018427387903) (f : Nat → List Vl) (a m b : Nat) (h1 : a < m) (h2 : m < b) (h3 : b ≤ N) (h4 : b - a ≤ k + 1) (hA : Srt cT f a m) (hB : Srt cT f m b) :
    ∃ f', sym_W 0 N a m b c0 (oA cV f N) rest toks tys = some (.tup [], sT c0 rest toks tys f' N) ∧ Srt cT f' a b ∧ Mv f f' a b := by
  unfold sym_W
  rw [sym_parts, sub_N (a := m) (b := a) (by omega) (by omega), sub_N (a := b) (b := m) (by omega) (by omega), iEq_N1, iEq_N1]
  by_cases c1 : m - a = 1
  · have e : m = a + 1 := by omega
    subst e
    obtain ⟨i', e1, l1, l2, l3, l4⟩ := sym1_law c0 rest toks tys f T N a b h3 (by omega) hN hB
    obtain ⟨e2, m2⟩ := sym2_law c0 rest toks tys f N a b (i' - 1) (by omega) (by omega) hN (i' - 1 - a) a (by omega) (Nat.le_refl _) f (shl_0 f a).symm (Mv.refl _ _ _)
    have ei : i' - 1 + 1 = i' := by omega
    rw [ei] at e2
    refine ⟨_, ?_, shl_srt T hB l1 l2 l3 l4, m2⟩
    have w1 : sym1_W 0 N a ((a + 1 : Nat) : Int) b c0 (oA cV f N) rest toks tys = _ := e1
    have g1 : sym1_n2 0 N a ((a + 1 : Nat) : Int) b c0 (oA cV f N) rest toks tys = (i' : Int) := by rw [sym1_n2, w1]; rfl
    have g2 : sym1_l2 0 N a ((a + 1 : Nat) : Int) b c0 (oA cV f N) rest toks tys = oA cV f N := by rw [sym1_l2, w1]; rfl
    have g3 : sym1_is0 0 N a ((a + 1 : Nat) : Int) b c0 (oA cV f N) rest toks tys = true := by rw [sym1_is0, w1, g1, g2]; simp [sT]
    have w2 : sym2_W 0 N i' a c0 (oA cV f N) rest toks tys = _ := e2
    have g4 : sym2_l2 0 N i' a c0 (oA cV f N) rest toks tys = oA cV (fun p => if a ≤ p ∧ p < i' - 1 then f (p + 1) else if p = i' - 1 then f a else f p) N := by rw [sym2_l2, w2]; rfl
    have g5 : sym2_is0 0 N i' a c0 (oA cV f N) rest toks tys = true := by rw [sym2_is0, w2, g4]; simp [sT]
    simp only [c1, decide_true, mgA, mgR, g1, g2, g3, g4, g5, Tr.run_ite, if_true, Tr.run_ret]
  · by_cases c2 : b - m = 1
    · have e : b = m + 1 := by omega
      subst e
      obtain ⟨i', e1, l1, l2, l3, l4⟩ := sym3_law c0 rest toks tys f T N a m (by omega) (by omega) hN hA
      obtain ⟨e2, m2⟩ := sym4_law c0 rest toks tys f N a m i' (by omega) l1 hN (m - i') m (by omega) (Nat.le_refl _) f (shr_0 f m).symm (Mv.refl _ _ _)
      refine ⟨_, ?_, shr_srt T hA l1 l2 l3 (fun p hp hp2 => Decidable.byContradiction (l4 p hp hp2)), m2⟩
      have w1 : sym3_W 0 N m a m c0 (oA cV f N) rest toks tys = _ := e1
      have g1 : sym3_n2 0 N m a m c0 (oA cV f N) rest toks tys = (i' : Int) := by rw [sym3_n2, w1]; rfl
      have g2 : sym3_l2 0 N m a m c0 (oA cV f N) rest toks tys = oA cV f N := by rw [sym3_l2, w1]; rfl
      have g3 : sym3_is0 0 N m a m c0 (oA cV f N) rest toks tys = true := by rw [sym3_is0, w1, g1, g2]; simp [sT]
      have w2 : sym4_W 0 N i' m c0 (oA cV f N) rest toks tys = _ := e2
      have g4 : sym4_l2 0 N i' m c0 (oA cV f N) rest toks tys = oA cV (fun p => if i' < p ∧ p ≤ m then f (p - 1) else if p = i' then f m else f p) N := by rw [sym4_l2, w2]; rfl
      have g5 : sym4_is0 0 N i' m c0 (oA cV f N) rest toks tys = true := by rw [sym4_is0, w2, g4]; simp [sT]
      simp only [c1, c2, decide_true, decide_false, Bool.false_eq_true, if_false, mgB, mgR, g1, g2, g3, g4, g5, Tr.run_ite, if_true, Tr.run_ret]
    · have hmid1 : a ≤ (a + b) / 2 := by omega
      have hmid2 : (a + b) / 2 ≤ b := by omega
      simp only [c1, c2, decide_false, Tr.run_ite, Bool.false_eq_true, if_false, half_N (a := a) (b := b) (by omega), add_N (a := (a + b) / 2) (b := m) (by omega)]
      generalize hmid : (a + b) / 2 = mid at hmid1 hmid2 ⊢
      have main : ∀ lo hi : Nat, lo = (if mid < m then mid + m - b else a) → hi = (if mid < m then mid else m) →
          ∃ f', (mgS c0 rest toks tys N a m b mid ((mid + m : Nat) : Int) lo hi ((mid + m - 1 : Nat) : Int) (oA cV f N)).run = some (.tup [], sT c0 rest toks tys f' N) ∧ Srt cT f' a b ∧ Mv f f' a b := by
        intro lo hi hlo hhi
        have e1 : a ≤ lo := by rw [hlo]; split <;> omega
        have e2 : hi ≤ m := by rw [hhi]; split <;> omega
        have e3 : hi ≤ mid := by rw [hhi]; split <;> omega
        have e4 : mid + m - lo ≤ b := by rw [hlo]; split <;> omega
        have e5 : lo ≤ hi := by rw [hlo, hhi]; split <;> omega
        obtain ⟨st, w, l1, l2, l3, l4⟩ := sym5_law c0 rest toks tys f T N a m b mid (mid + m - 1) lo hi e5 (hA.sub e1 e2) (fun p q hp hq hh => hB _ _ (by omega) (by omega) (by omega)) (by omega) (by omega) (by omega) hN (by omega) mid ((mid + m : Nat) : Int)
        have cut := Cut.of T hA hB h1 h2 hmid.symm hlo hhi l1 l2 l3 (fun p hp hp2 => Decidable.byContradiction (l4 p hp hp2))
        have w1 : sym5_W 0 N a m b mid ((mid + m : Nat) : Int) lo hi ((mid + m - 1 : Nat) : Int) c0 (oA cV f N) rest toks tys = _ := w
        have g1 : sym5_n6 0 N a m b mid ((mid + m : Nat) : Int) lo hi ((mid + m - 1 : Nat) : Int) c0 (oA cV f N) rest toks tys = (st : Int) := by rw [sym5_n6, w1]; rfl
        have g2 : sym5_l2 0 N a m b mid ((mid + m : Nat) : Int) lo hi ((mid + m - 1 : Nat) : Int) c0 (oA cV f N) rest toks tys = oA cV f N := by rw [sym5_l2, w1]; rfl
        have g3 : sym5_is0 0 N a m b mid ((mid + m : Nat) : Int) lo hi ((mid + m - 1 : Nat) : Int) c0 (oA cV f N) rest toks tys = true := by rw [sym5_is0, w1, g1, g2]; simp [sT]
        simp only [mgS, g1, g2, g3, Tr.run_ite, if_true, sub_N (a := mid + m) (b := st) (by omega) (by omega)]
        exact mg0_law c0 rest toks tys h hN f a m b mid st cut hA hB hmid1 hmid2 h3 (by omega) (by omega)
      by_cases c3 : mid < m
      · have := main (mid + m - b) mid (by rw [if_pos c3]) (by rw [if_pos c3])
        simpa only [mgM, iLt_N, c3, decide_true, Tr.run_ite, if_true, sub_N (a := mid + m) (b := b) (by omega) (by omega), sub_N1 (a := mid + m) (by omega) (by omega)] using this
      · have := main a m (by rw [if_neg c3]) (by rw [if_neg c3])
        simpa only [mgM, iLt_N, c3, decide_false, Bool.false_eq_true, Tr.run_ite, if_false, sub_N1 (a := mid + m) (by omega) (by omega)] using this
end
end Go.Pv

set_option maxHeartbeats 4000000
set_option maxRecDepth 200000
set_option linter.unusedSimpArgs false
set_option linter.unusedVariables false
/-! The merge that calls itself: what it gives, by the size of its range. -/
namespace Go.Pv
open Go Go.Proofs
abbrev SymW := Nat → Nat → Int → Int → Int → List PV → List PV → List (List PV) → List (Nat × Nat × TypeId) → List TypeId → Option (PV × Store)
noncomputable def smW : Nat → SymW
  | 0 => fun _ _ _ _ _ _ _ _ _ _ => none
  | k + 1 => @sym_W ⟨smW k⟩
theorem SimS.each {P : Program} {gl : Nat → Option Obj} {f : FuncId} {D D0 : List PV → Store → Option (PV × Store)} (h0 : SimS P gl f D0) (h : ∀ args σ r, D args σ = some r → ∃ D', SimS P gl f D' ∧ D' args σ = some r) : SimS P gl f D :=
  ⟨h0.ent, fun args σ x σ' hx => by obtain ⟨D', h1, h2⟩ := h args σ _ hx; exact h1.run args σ x σ' h2⟩
theorem sim_sm0 (gl : Nat → Option Obj) : SimS Tryd.prog gl 120 fun args σ => (@D_rec ⟨smW 0⟩ args σ).run :=
  ⟨⟨_, Tryd.func120, by rfl, by rfl⟩, fun args σ x σ' h => by
    unfold D_rec at h
    split at h
    · have e : ∀ off len a m b c0 cs rest toks tys, @rec_is0 ⟨smW 0⟩ off len a m b c0 cs rest toks tys = false := fun _ _ _ _ _ _ _ _ _ _ => by simp [rec_is0, smW, isW]
      rw [Tr.run_ite, e] at h
      cases h
    · cases h⟩
theorem sim_smk (gl : Nat → Option Obj) : ∀ k, SimS Tryd.prog gl 120 fun args σ => (@D_rec ⟨smW k⟩ args σ).run
  | 0 => sim_sm0 gl
  | k + 1 => @sim_sym ⟨smW k⟩ gl (sim_smk gl k)
/-- What a call gives: as deep as its range is long. -/
noncomputable instance recS : RecW := ⟨fun off len a m b => smW (b - a).toNat off len a m b⟩
theorem sim_sm (gl : Nat → Option Obj) : SimS Tryd.prog gl 120 fun args σ => (D_rec args σ).run := by
  refine SimS.each (sim_sm0 gl) fun args σ r h => ?_
  unfold D_rec at h
  split at h
  · rename_i off len a m b c0 cs rest toks tys
    exact ⟨_, sim_smk gl (b - a).toNat, h⟩
  · cases h
theorem merges (T : Tot cT) (c0 : List PV) (rest : List (List PV)) (toks : List (Nat × Nat × TypeId)) (tys : List TypeId) (N : Nat) (hN : N ≤ 4611686018427387903) : ∀ k, @Merges ⟨smW k⟩ c0 rest toks tys N k
  | 0 => fun f a m b h1 h2 h3 h4 => by omega
  | k + 1 => fun f a m b h1 h2 h3 h4 hA hB => @sym_step ⟨smW k⟩ c0 rest toks tys N k T (merges T c0 rest toks tys N hN k) hN f a m b h1 h2 h3 h4 hA hB
theorem sm_law (T : Tot cT) (c0 : List PV) (rest : List (List PV)) (toks : List (Nat × Nat × TypeId)) (tys : List TypeId) (N : Nat) (hN : N ≤ 4611686018427387903) (f : Nat → List Vl) (a m b : Nat) (h1 : a < m) (h2 : m < b) (h3 : b ≤ N) (hA : Srt cT f a m) (hB : Srt cT f m b) :
    ∃ f', rec_is0 0 N a m b c0 (oA cV f N) rest toks tys = true ∧ rec_l 0 N a m b c0 (oA cV f N) rest toks tys = oA cV f' N ∧ Srt cT f' a b ∧ Mv f f' a b := by
  have h : @Merges recS c0 rest toks tys N (b - a) → _ := fun h => rec_is c0 rest toks tys h f a m b h1 h2 h3 (Nat.le_refl _) hA hB
  obtain ⟨f', e1, e2, e3⟩ := merges T c0 rest toks tys N hN (b - a) f a m b h1 h2 h3 (Nat.le_refl _) hA hB
  have ek : ((b : Int) - (a : Int)).toNat = b - a := by omega
  have hw : RecW.W 0 N a m b c0 (oA cV f N) rest toks tys = some (.tup [], sT c0 rest toks tys f' N) := by
    show smW ((b : Int) - (a : Int)).toNat 0 N a m b c0 (oA cV f N) rest toks tys = _
    rw [ek]; exact e1
  have e : rec_l 0 N a m b c0 (oA cV f N) rest toks tys = oA cV f' N := by simp [rec_l, hw, sT, gObj, asOut]
  exact ⟨f', by simp [rec_is0, e, hw, sT], e, e2, e3⟩
end Go.Pv

set_option maxHeartbeats 4000000
set_option maxRecDepth 200000
set_option linter.unusedSimpArgs false
set_option linter.unusedVariables false
namespace Go.Pv
open Go Go.Proofs
noncomputable def G_cln : GamT := ofL [(objKey, .flag)]
theorem gok_cln (gl : Nat → Option Obj) : GamOk Tryd.prog gl (gam G_cln) := (gamOk_flag gamOk_nil)
noncomputable def L_cln : LpsT := fun r fr σ => .fail
noncomputable def cln_Tr (l : List (List PV)) (c0 : List PV) : Tr (PV × Store) := Tr.ite (xNil l) (Tr.ite false (Tr.ret (PV.sl [] .full, Store.mk [c0] [] [82])) (Tr.ite (okGrow [] l 24) (Tr.ite (okNews l 1) (Tr.ite (okSize [] 1) (Tr.ite (xNil l) (Tr.ret (PV.sl [] .full, Store.mk [c0] [] [82])) (Tr.ret (PV.osl 1 0 (nXs (xApp [] l)) 1, Store.mk [c0, List.flatten (xApp [] l)] [] [82, 1000023]))) Tr.fail) Tr.fail) Tr.fail)) (Tr.ite false (Tr.ret (PV.sl [] .full, Store.mk [c0] [] [82])) (Tr.ite (okGrow [] l 24) (Tr.ite (okNews l 1) (Tr.ite (okSize [] 1) (Tr.ite (xNil l) (Tr.ret (PV.sl [] .full, Store.mk [c0] [] [82])) (Tr.ret (PV.osl 1 0 (nXs (xApp [] l)) 1, Store.mk [c0, List.flatten (xApp [] l)] [] [82, 1000023]))) Tr.fail) Tr.fail) Tr.fail))
theorem cln_T (l : List (List PV)) (c0 : List PV) : (tcallS tbT G_cln L_cln Tryd.f82 [.sl l .own] ⟨[c0], [], [82]⟩).flat = cln_Tr l c0 := by kernel_rfl
noncomputable def cln_W (l : List (List PV)) (c0 : List PV) : Option (PV × Store) := (cln_Tr l c0).run
noncomputable def cln_r_0 (l : List (List PV)) (c0 : List PV) : List (List PV) := (gRow (gOut (asOut (cln_W l c0)) 0))
noncomputable def cln_is0 (l : List (List PV)) (c0 : List PV) : Bool := isW (cln_W l c0) (.sl (cln_r_0 l c0) .full, ⟨[c0], [], [82]⟩)
noncomputable def cln_o_1 (l : List (List PV)) (c0 : List PV) : Nat := (gOff (gOut (asOut (cln_W l c0)) 0))
noncomputable def cln_m_1 (l : List (List PV)) (c0 : List PV) : Nat := (gLen (gOut (asOut (cln_W l c0)) 0))
noncomputable def cln_l2_1 (l : List (List PV)) (c0 : List PV) : List PV := (gObj (asOut (cln_W l c0)) 1)
noncomputable def cln_is1 (l : List (List PV)) (c0 : List PV) : Bool := isW (cln_W l c0) (.osl 1 (cln_o_1 l c0) (cln_m_1 l c0) 1, ⟨[c0, (cln_l2_1 l c0)], [], [82, 1000023]⟩)
noncomputable def D_cln : List PV → Store → Tr (PV × Store) | [.sl l .own], ⟨[c0], [], [82]⟩ => .ite (cln_is0 l c0) (.ret (.sl (cln_r_0 l c0) .full, ⟨[c0], [], [82]⟩)) (.ite (cln_is1 l c0) (.ret (.osl 1 (cln_o_1 l c0) (cln_m_1 l c0) 1, ⟨[c0, (cln_l2_1 l c0)], [], [82, 1000023]⟩)) (.fail)) | _, _ => .fail
theorem sim_cln (gl : Nat → Option Obj) : SimS Tryd.prog gl 82 fun args σ => (D_cln args σ).run := by
  refine SimS.of_flat (G := G_cln) (L := L_cln) tbT_ok (gok_cln gl ) noMixed Tryd.func82 rfl (by rfl) (by kernel_rfl) (loopOk_none (by kernel_rfl)) ?_
  intro args σ x h
  unfold D_cln at h
  split at h
  · exact (congrArg Tr.run (cln_T _ _)).trans (ite_isW h fun h => ite_isW h fun h => by cases h)
  · cases h
noncomputable def G_eq85 : GamT := ofL [(16, .pure F_TCmp)]
theorem gok_eq85 (gl : Nat → Option Obj) : GamOk Tryd.prog gl (gam G_eq85) := (gamOk_cons (sim_TCmp gl) gamOk_nil)
noncomputable def L_eq85 : LpsT := fun r fr σ => .fail
noncomputable def eq85_Tr (a : List (List PV)) (b : List (List PV)) (r : List (List PV)) : Tr PV := Tr.ite (okR cV (lockLL (lockLL a))) (Tr.ite (okR cV (lockLL (lockLL b))) (Tr.ret (PV.bool (iEq (cmpTV (lockLL (lockLL a)) (lockLL (lockLL b))) 0))) Tr.fail) Tr.fail
theorem eq85_T (a : List (List PV)) (b : List (List PV)) (r : List (List PV)) : (tcall tbT G_eq85 L_eq85 Tryd.f85 [.sl a .non, .sl b .non, .ref [.sl r .non, .fn 16 []]]).flat = eq85_Tr a b r := by kernel_rfl
noncomputable def F_eq85 : List PV → Tr PV | [.sl a .non, .sl b .non, .ref [.sl r .non, .fn 16 []]] => eq85_Tr a b r | _ => .fail
theorem sim_eq85 (gl : Nat → Option Obj) : SimP Tryd.prog gl 85 fun args => (F_eq85 args).run := by
  refine SimP.of_flat (G := G_eq85) (L := L_eq85) tbT_ok (gok_eq85 gl ) noMixed Tryd.func85 rfl (by rfl) (by kernel_rfl) (loopOk_none (by kernel_rfl)) ?_
  intro args x h
  unfold F_eq85 at h
  split at h
  · exact (congrArg Tr.run (eq85_T _ _ _)).trans h
  · cases h
end Go.Pv

set_option maxHeartbeats 4000000
set_option maxRecDepth 200000
set_option linter.unusedSimpArgs false
set_option linter.unusedVariables false
namespace Go.Pv
open Go Go.Proofs
noncomputable def G_stb : GamT := ofL [(16, .pure F_TCmp), (119, .store D_ins), (120, .store D_rec)]
theorem gok_stb (gl : Nat → Option Obj) : GamOk Tryd.prog gl (gam G_stb) := (gamOk_cons (sim_TCmp gl) (gamOk_store (sim_ins gl) (gamOk_store (sim_sm gl) gamOk_nil)))
noncomputable def c_stb1 : Code := loopC Tryd.f108 2
noncomputable def c_stb2 : Code := loopC Tryd.f108 7
noncomputable def c_stb3 : Code := loopC Tryd.f108 9
def I_stb1 : LI := ⟨63, [0, 1, 2, 6, 7, 8], fun e => match e with | .exit 0 => [0, 1, 2, 6, 7] | _ => [], false⟩
noncomputable def LI_stb1 : LpsT := fun r fr σ => .fail
noncomputable def stb1_V (vs : List PV) (σ : Store) : Option (PExit × List PV × Store) := lval (lstep tbT G_stb LI_stb1 c_stb1 I_stb1) vs σ
noncomputable def stb1_Tr (data : Nat) (data2 : Nat) (n : Int) (blockSize : Int) (a : Int) (b : Int) (l : List PV) (l2 : List PV) (rest : List (List PV)) (toks : List (Nat × Nat × TypeId)) (tys : List TypeId) : Tr LR := Tr.ite (iLe b n) (Tr.ite (ins_is0 data data2 a b l l2 rest toks tys) (Tr.ret (LR.next [PV.osl 1 data data2 1, PV.int .i64 n, PV.fn 16 [], PV.int .i64 blockSize, PV.int .i64 b, PV.int .i64 (iAdd .i64 b blockSize)] (Store.mk (l :: ins_l2 data data2 a b l l2 rest toks tys :: rest) toks (82 :: 1000023 :: tys)))) Tr.fail) (Tr.ret (LR.out (.exit 0) [PV.osl 1 data data2 1, PV.int .i64 n, PV.fn 16 [], PV.int .i64 blockSize, PV.int .i64 a] (Store.mk (l :: l2 :: rest) toks (82 :: 1000023 :: tys))))
theorem stb1_T (data : Nat) (data2 : Nat) (n : Int) (blockSize : Int) (a : Int) (b : Int) (l : List PV) (l2 : List PV) (rest : List (List PV)) (toks : List (Nat × Nat × TypeId)) (tys : List TypeId) : lstep tbT G_stb LI_stb1 c_stb1 I_stb1 [.osl 1 data data2 1, .int .i64 n, .fn 16 [], .int .i64 blockSize, .int .i64 a, .int .i64 b] ⟨(l :: l2 :: rest), (toks), (82 :: 1000023 :: tys)⟩ = stb1_Tr data data2 n blockSize a b l l2 rest toks tys := by kernel_rfl
theorem stb1_E (data : Nat) (data2 : Nat) (n : Int) (blockSize : Int) (a : Int) (b : Int) (l : List PV) (l2 : List PV) (rest : List (List PV)) (toks : List (Nat × Nat × TypeId)) (tys : List TypeId) : stb1_V [.osl 1 data data2 1, .int .i64 n, .fn 16 [], .int .i64 blockSize, .int .i64 a, .int .i64 b] ⟨(l :: l2 :: rest), (toks), (82 :: 1000023 :: tys)⟩ = lnext stb1_V (stb1_Tr data data2 n blockSize a b l l2 rest toks tys).run := by unfold stb1_V; rw [lval_eq, stb1_T]
noncomputable def stb1_W (data : Nat) (data2 : Nat) (n : Int) (blockSize : Int) (a : Int) (b : Int) (l : List PV) (l2 : List PV) (rest : List (List PV)) (toks : List (Nat × Nat × TypeId)) (tys : List TypeId) : Option (PExit × List PV × Store) := stb1_V [.osl 1 data data2 1, .int .i64 n, .fn 16 [], .int .i64 blockSize, .int .i64 a, .int .i64 b] ⟨(l :: l2 :: rest), (toks), (82 :: 1000023 :: tys)⟩
noncomputable def stb1_a (data : Nat) (data2 : Nat) (n : Int) (blockSize : Int) (a : Int) (b : Int) (l : List PV) (l2 : List PV) (rest : List (List PV)) (toks : List (Nat × Nat × TypeId)) (tys : List TypeId) : Int := (gInt (gOut (stb1_W data data2 n blockSize a b l l2 rest toks tys) 4))
noncomputable def stb1_l2 (data : Nat) (data2 : Nat) (n : Int) (blockSize : Int) (a : Int) (b : Int) (l : List PV) (l2 : List PV) (rest : List (List PV)) (toks : List (Nat × Nat × TypeId)) (tys : List TypeId) : List PV := (gObj (stb1_W data data2 n blockSize a b l l2 rest toks tys) 1)
noncomputable def stb1_is0 (data : Nat) (data2 : Nat) (n : Int) (blockSize : Int) (a : Int) (b : Int) (l : List PV) (l2 : List PV) (rest : List (List PV)) (toks : List (Nat × Nat × TypeId)) (tys : List TypeId) : Bool := isW (stb1_W data data2 n blockSize a b l l2 rest toks tys) ((.exit 0), [.osl 1 data data2 1, .int .i64 n, .fn 16 [], .int .i64 blockSize, .int .i64 (stb1_a data data2 n blockSize a b l l2 rest toks tys)], ⟨(l :: (stb1_l2 data data2 n blockSize a b l l2 rest toks tys) :: rest), (toks), (82 :: 1000023 :: tys)⟩)
noncomputable def stb1_prop : List PV → Store → Tr (PExit × List PV × Store) | [.osl 1 data data2 1, .int .i64 n, .fn 16 [], .int .i64 blockSize, .int .i64 a, .int .i64 b], ⟨(l :: l2 :: rest), (toks), (82 :: 1000023 :: tys)⟩ => .ite (stb1_is0 data data2 n blockSize a b l l2 rest toks tys) (.ret ((.exit 0), [.osl 1 data data2 1, .int .i64 n, .fn 16 [], .int .i64 blockSize, .int .i64 (stb1_a data data2 n blockSize a b l l2 rest toks tys)], ⟨(l :: (stb1_l2 data data2 n blockSize a b l l2 rest toks tys) :: rest), (toks), (82 :: 1000023 :: tys)⟩)) (.fail) | _, _ => .fail
theorem stb1_ok : ∀ vs σ r, (stb1_prop vs σ).run = some r → stb1_V vs σ = some r := by
  intro vs σ r h
  unfold stb1_prop at h
  split at h
  · exact ite_isW h fun h => by cases h
  · cases h
theorem loop_stb1 (gl : Nat → Option Obj) : ∀ fr σ e fr' σ', (orc I_stb1 stb1_prop fr σ).run = some (e, fr', σ') → LDoes Tryd.prog gl c_stb1 fr σ e fr' σ' := orc_ok tbT_ok (gok_stb gl ) noMixed (L := LI_stb1) (loopOk_none (by kernel_rfl)) (by kernel_rfl) stb1_ok
def I_stb3 : LI := ⟨63, [0, 1, 2, 6, 7, 8], fun e => match e with | .exit 4 => [0, 1, 2, 6, 7] | _ => [], false⟩
noncomputable def LI_stb3 : LpsT := fun r fr σ => .fail
noncomputable def stb3_V (vs : List PV) (σ : Store) : Option (PExit × List PV × Store) := lval (lstep tbT G_stb LI_stb3 c_stb3 I_stb3) vs σ
noncomputable def stb3_Tr (data : Nat) (data2 : Nat) (n : Int) (blockSize : Int) (a : Int) (b : Int) (l : List PV) (l2 : List PV) (rest : List (List PV)) (toks : List (Nat × Nat × TypeId)) (tys : List TypeId) : Tr LR := Tr.ite (iLe b n) (Tr.ite (rec_is0 data data2 a (iAdd .i64 a blockSize) b l l2 rest toks tys) (Tr.ret (LR.next [PV.osl 1 data data2 1, PV.int .i64 n, PV.fn 16 [], PV.int .i64 blockSize, PV.int .i64 b, PV.int .i64 (iAdd .i64 b (iMul .i64 2 blockSize))] (Store.mk (l :: rec_l data data2 a (iAdd .i64 a blockSize) b l l2 rest toks tys :: rest) toks (82 :: 1000023 :: tys)))) Tr.fail) (Tr.ret (LR.out (.exit 4) [PV.osl 1 data data2 1, PV.int .i64 n, PV.fn 16 [], PV.int .i64 blockSize, PV.int .i64 a] (Store.mk (l :: l2 :: rest) toks (82 :: 1000023 :: tys))))
theorem stb3_T (data : Nat) (data2 : Nat) (n : Int) (blockSize : Int) (a : Int) (b : Int) (l : List PV) (l2 : List PV) (rest : List (List PV)) (toks : List (Nat × Nat × TypeId)) (tys : List TypeId) : lstep tbT G_stb LI_stb3 c_stb3 I_stb3 [.osl 1 data data2 1, .int .i64 n, .fn 16 [], .int .i64 blockSize, .int .i64 a, .int .i64 b] ⟨(l :: l2 :: rest), (toks), (82 :: 1000023 :: tys)⟩ = stb3_Tr data data2 n blockSize a b l l2 rest toks tys := by kernel_rfl
theorem stb3_E (data : Nat) (data2 : Nat) (n : Int) (blockSize : Int) (a : Int) (b : Int) (l : List PV) (l2 : List PV) (rest : List (List PV)) (toks : List (Nat × Nat × TypeId)) (tys : List TypeId) : stb3_V [.osl 1 data data2 1, .int .i64 n, .fn 16 [], .int .i64 blockSize, .int .i64 a, .int .i64 b] ⟨(l :: l2 :: rest), (toks), (82 :: 1000023 :: tys)⟩ = lnext stb3_V (stb3_Tr data data2 n blockSize a b l l2 rest toks tys).run := by unfold stb3_V; rw [lval_eq, stb3_T]
noncomputable def stb3_W (data : Nat) (data2 : Nat) (n : Int) (blockSize : Int) (a : Int) (b : Int) (l : List PV) (l2 : List PV) (rest : List (List PV)) (toks : List (Nat × Nat × TypeId)) (tys : List TypeId) : Option (PExit × List PV × Store) := stb3_V [.osl 1 data data2 1, .int .i64 n, .fn 16 [], .int .i64 blockSize, .int .i64 a, .int .i64 b] ⟨(l :: l2 :: rest), (toks), (82 :: 1000023 :: tys)⟩
noncomputable def stb3_a (data : Nat) (data2 : Nat) (n : Int) (blockSize : Int) (a : Int) (b : Int) (l : List PV) (l2 : List PV) (rest : List (List PV)) (toks : List (Nat × Nat × TypeId)) (tys : List TypeId) : Int := (gInt (gOut (stb3_W data data2 n blockSize a b l l2 rest toks tys) 4))
noncomputable def stb3_l2 (data : Nat) (data2 : Nat) (n : Int) (blockSize : Int) (a : Int) (b : Int) (l : List PV) (l2 : List PV) (rest : List (List PV)) (toks : List (Nat × Nat × TypeId)) (tys : List TypeId) : List PV := (gObj (stb3_W data data2 n blockSize a b l l2 rest toks tys) 1)
noncomputable def stb3_is0 (data : Nat) (data2 : Nat) (n : Int) (blockSize : Int) (a : Int) (b : Int) (l : List PV) (l2 : List PV) (rest : List (List PV)) (toks : List (Nat × Nat × TypeId)) (tys : List TypeId) : Bool := isW (stb3_W data data2 n blockSize a b l l2 rest toks tys) ((.exit 4), [.osl 1 data data2 1, .int .i64 n, .fn 16 [], .int .i64 blockSize, .int .i64 (stb3_a data data2 n blockSize a b l l2 rest toks tys)], ⟨(l :: (stb3_l2 data data2 n blockSize a b l l2 rest toks tys) :: rest), (toks), (82 :: 1000023 :: tys)⟩)
noncomputable def stb3_prop : List PV → Store → Tr (PExit × List PV × Store) | [.osl 1 data data2 1, .int .i64 n, .fn 16 [], .int .i64 blockSize, .int .i64 a, .int .i64 b], ⟨(l :: l2 :: rest), (toks), (82 :: 1000023 :: tys)⟩ => .ite (stb3_is0 data data2 n blockSize a b l l2 rest toks tys) (.ret ((.exit 4), [.osl 1 data data2 1, .int .i64 n, .fn 16 [], .int .i64 blockSize, .int .i64 (stb3_a data data2 n blockSize a b l l2 rest toks tys)], ⟨(l :: (stb3_l2 data data2 n blockSize a b l l2 rest toks tys) :: rest), (toks), (82 :: 1000023 :: tys)⟩)) (.fail) | _, _ => .fail
theorem stb3_ok : ∀ vs σ r, (stb3_prop vs σ).run = some r → stb3_V vs σ = some r := by
  intro vs σ r h
  unfold stb3_prop at h
  split at h
  · exact ite_isW h fun h => by cases h
  · cases h
theorem loop_stb3 (gl : Nat → Option Obj) : ∀ fr σ e fr' σ', (orc I_stb3 stb3_prop fr σ).run = some (e, fr', σ') → LDoes Tryd.prog gl c_stb3 fr σ e fr' σ' := orc_ok tbT_ok (gok_stb gl ) noMixed (L := LI_stb3) (loopOk_none (by kernel_rfl)) (by kernel_rfl) stb3_ok
def I_stb2 : LI := ⟨63, [0, 1, 2, 6], fun e => match e with | .exit 2 => [] | _ => [], false⟩
noncomputable def LI_stb2 : LpsT := fun r fr σ => bif Nat.beq r 9 then orc I_stb3 stb3_prop fr σ else .fail
noncomputable def stb2_V (vs : List PV) (σ : Store) : Option (PExit × List PV × Store) := lval (lstep tbT G_stb LI_stb2 c_stb2 I_stb2) vs σ
noncomputable def stb2_Tr (data : Nat) (data2 : Nat) (n : Int) (blockSize : Int) (l : List PV) (l2 : List PV) (rest : List (List PV)) (toks : List (Nat × Nat × TypeId)) (tys : List TypeId) : Tr LR := Tr.ite (iLt blockSize n) (Tr.ite (stb3_is0 data data2 n blockSize 0 (iMul .i64 2 blockSize) l l2 rest toks tys) (Tr.ite (iLt (iAdd .i64 (stb3_a data data2 n blockSize 0 (iMul .i64 2 blockSize) l l2 rest toks tys) blockSize) n) (Tr.ite (rec_is0 data data2 (stb3_a data data2 n blockSize 0 (iMul .i64 2 blockSize) l l2 rest toks tys) (iAdd .i64 (stb3_a data data2 n blockSize 0 (iMul .i64 2 blockSize) l l2 rest toks tys) blockSize) n l (stb3_l2 data data2 n blockSize 0 (iMul .i64 2 blockSize) l l2 rest toks tys) rest toks tys) (Tr.ret (LR.next [PV.osl 1 data data2 1, PV.int .i64 n, PV.fn 16 [], PV.int .i64 (iMul .i64 blockSize 2)] (Store.mk (l :: rec_l data data2 (stb3_a data data2 n blockSize 0 (iMul .i64 2 blockSize) l l2 rest toks tys) (iAdd .i64 (stb3_a data data2 n blockSize 0 (iMul .i64 2 blockSize) l l2 rest toks tys) blockSize) n l (stb3_l2 data data2 n blockSize 0 (iMul .i64 2 blockSize) l l2 rest toks tys) rest toks tys :: rest) toks (82 :: 1000023 :: tys)))) Tr.fail) (Tr.ret (LR.next [PV.osl 1 data data2 1, PV.int .i64 n, PV.fn 16 [], PV.int .i64 (iMul .i64 blockSize 2)] (Store.mk (l :: stb3_l2 data data2 n blockSize 0 (iMul .i64 2 blockSize) l l2 rest toks tys :: rest) toks (82 :: 1000023 :: tys))))) Tr.fail) (Tr.ret (LR.out (.exit 2) [] (Store.mk (l :: l2 :: rest) toks (82 :: 1000023 :: tys))))
theorem stb2_T (data : Nat) (data2 : Nat) (n : Int) (blockSize : Int) (l : List PV) (l2 : List PV) (rest : List (List PV)) (toks : List (Nat × Nat × TypeId)) (tys : List TypeId) : lstep tbT G_stb LI_stb2 c_stb2 I_stb2 [.osl 1 data data2 1, .int .i64 n, .fn 16 [], .int .i64 blockSize] ⟨(l :: l2 :: rest), (toks), (82 :: 1000023 :: tys)⟩ = stb2_Tr data data2 n blockSize l l2 rest toks tys := by kernel_rfl
theorem stb2_E (data : Nat) (data2 : Nat) (n : Int) (blockSize : Int) (l : List PV) (l2 : List PV) (rest : List (List PV)) (toks : List (Nat × Nat × TypeId)) (tys : List TypeId) : stb2_V [.osl 1 data data2 1, .int .i64 n, .fn 16 [], .int .i64 blockSize] ⟨(l :: l2 :: rest), (toks), (82 :: 1000023 :: tys)⟩ = lnext stb2_V (stb2_Tr data data2 n blockSize l l2 rest toks tys).run := by unfold stb2_V; rw [lval_eq, stb2_T]
noncomputable def stb2_W (data : Nat) (data2 : Nat) (n : Int) (blockSize : Int) (l : List PV) (l2 : List PV) (rest : List (List PV)) (toks : List (Nat × Nat × TypeId)) (tys : List TypeId) : Option (PExit × List PV × Store) := stb2_V [.osl 1 data data2 1, .int .i64 n, .fn 16 [], .int .i64 blockSize] ⟨(l :: l2 :: rest), (toks), (82 :: 1000023 :: tys)⟩
noncomputable def stb2_l2 (data : Nat) (data2 : Nat) (n : Int) (blockSize : Int) (l : List PV) (l2 : List PV) (rest : List (List PV)) (toks : List (Nat × Nat × TypeId)) (tys : List TypeId) : List PV := (gObj (stb2_W data data2 n blockSize l l2 rest toks tys) 1)
noncomputable def stb2_is0 (data : Nat) (data2 : Nat) (n : Int) (blockSize : Int) (l : List PV) (l2 : List PV) (rest : List (List PV)) (toks : List (Nat × Nat × TypeId)) (tys : List TypeId) : Bool := isW (stb2_W data data2 n blockSize l l2 rest toks tys) ((.exit 2), [], ⟨(l :: (stb2_l2 data data2 n blockSize l l2 rest toks tys) :: rest), (toks), (82 :: 1000023 :: tys)⟩)
noncomputable def stb2_prop : List PV → Store → Tr (PExit × List PV × Store) | [.osl 1 data data2 1, .int .i64 n, .fn 16 [], .int .i64 blockSize], ⟨(l :: l2 :: rest), (toks), (82 :: 1000023 :: tys)⟩ => .ite (stb2_is0 data data2 n blockSize l l2 rest toks tys) (.ret ((.exit 2), [], ⟨(l :: (stb2_l2 data data2 n blockSize l l2 rest toks tys) :: rest), (toks), (82 :: 1000023 :: tys)⟩)) (.fail) | _, _ => .fail
theorem stb2_ok : ∀ vs σ r, (stb2_prop vs σ).run = some r → stb2_V vs σ = some r := by
  intro vs σ r h
  unfold stb2_prop at h
  split at h
  · exact ite_isW h fun h => by cases h
  · cases h
theorem loop_stb2 (gl : Nat → Option Obj) : ∀ fr σ e fr' σ', (orc I_stb2 stb2_prop fr σ).run = some (e, fr', σ') → LDoes Tryd.prog gl c_stb2 fr σ e fr' σ' := orc_ok tbT_ok (gok_stb gl ) noMixed (L := LI_stb2) (loopOk_all (L := lps LI_stb2) [(9, c_stb3)] (by kernel_rfl) (List.forall_mem_cons.2 ⟨fun fr σ e fr' σ' h => loop_stb3 gl  fr σ e fr' σ' h, (List.forall_mem_nil _)⟩)) (by kernel_rfl) stb2_ok
noncomputable def L_stb : LpsT := fun r fr σ => bif Nat.beq r 2 then orc I_stb1 stb1_prop fr σ else bif Nat.beq r 7 then orc I_stb2 stb2_prop fr σ else .fail
noncomputable def stb_Tr (off : Nat) (len : Nat) (n : Int) (c0 : List PV) (cs : List PV) (rest : List (List PV)) (toks : List (Nat × Nat × TypeId)) (tys : List TypeId) : Tr (PV × Store) := Tr.ite (stb1_is0 off len n 20 0 20 c0 cs rest toks tys) (Tr.ite (ins_is0 off len (stb1_a off len n 20 0 20 c0 cs rest toks tys) n c0 (stb1_l2 off len n 20 0 20 c0 cs rest toks tys) rest toks tys) (Tr.ite (stb2_is0 off len n 20 c0 (ins_l2 off len (stb1_a off len n 20 0 20 c0 cs rest toks tys) n c0 (stb1_l2 off len n 20 0 20 c0 cs rest toks tys) rest toks tys) rest toks tys) (Tr.ret (PV.tup [], Store.mk (c0 :: stb2_l2 off len n 20 c0 (ins_l2 off len (stb1_a off len n 20 0 20 c0 cs rest toks tys) n c0 (stb1_l2 off len n 20 0 20 c0 cs rest toks tys) rest toks tys) rest toks tys :: rest) toks (82 :: 1000023 :: tys))) Tr.fail) Tr.fail) Tr.fail
theorem stb_T (off : Nat) (len : Nat) (n : Int) (c0 : List PV) (cs : List PV) (rest : List (List PV)) (toks : List (Nat × Nat × TypeId)) (tys : List TypeId) : (tcallS tbT G_stb L_stb Tryd.f108 [.osl 1 off len 1, .int .i64 n, .fn 16 []] ⟨c0 :: cs :: rest, toks, 82 :: 1000023 :: tys⟩).flat = stb_Tr off len n c0 cs rest toks tys := by kernel_rfl
noncomputable def stb_W (off : Nat) (len : Nat) (n : Int) (c0 : List PV) (cs : List PV) (rest : List (List PV)) (toks : List (Nat × Nat × TypeId)) (tys : List TypeId) : Option (PV × Store) := (stb_Tr off len n c0 cs rest toks tys).run
noncomputable def stb_l2 (off : Nat) (len : Nat) (n : Int) (c0 : List PV) (cs : List PV) (rest : List (List PV)) (toks : List (Nat × Nat × TypeId)) (tys : List TypeId) : List PV := (gObj (asOut (stb_W off len n c0 cs rest toks tys)) 1)
noncomputable def stb_is0 (off : Nat) (len : Nat) (n : Int) (c0 : List PV) (cs : List PV) (rest : List (List PV)) (toks : List (Nat × Nat × TypeId)) (tys : List TypeId) : Bool := isW (stb_W off len n c0 cs rest toks tys) (.tup [], ⟨(c0 :: (stb_l2 off len n c0 cs rest toks tys) :: rest), (toks), (82 :: 1000023 :: tys)⟩)
noncomputable def D_stb : List PV → Store → Tr (PV × Store) | [.osl 1 off len 1, .int .i64 n, .fn 16 []], ⟨c0 :: cs :: rest, toks, 82 :: 1000023 :: tys⟩ => .ite (stb_is0 off len n c0 cs rest toks tys) (.ret (.tup [], ⟨(c0 :: (stb_l2 off len n c0 cs rest toks tys) :: rest), (toks), (82 :: 1000023 :: tys)⟩)) (.fail) | _, _ => .fail
theorem sim_stb (gl : Nat → Option Obj) : SimS Tryd.prog gl 108 fun args σ => (D_stb args σ).run := by
  refine SimS.of_flat (G := G_stb) (L := L_stb) tbT_ok (gok_stb gl ) noMixed Tryd.func108 rfl (by rfl) (by kernel_rfl) (loopOk_all (L := lps L_stb) [(2, c_stb1), (7, c_stb2)] (by kernel_rfl) (List.forall_mem_cons.2 ⟨fun fr σ e fr' σ' h => loop_stb1 gl  fr σ e fr' σ' h, (List.forall_mem_cons.2 ⟨fun fr σ e fr' σ' h => loop_stb2 gl  fr σ e fr' σ' h, (List.forall_mem_nil _)⟩)⟩)) ?_
  intro args σ x h
  unfold D_stb at h
  split at h
  · exact (congrArg Tr.run (stb_T _ _ _ _ _ _ _ _)).trans (ite_isW h fun h => by cases h)
  · cases h
noncomputable def G_ssf : GamT := ofL [(16, .pure F_TCmp), (108, .store D_stb)]
theorem gok_ssf (gl : Nat → Option Obj) : GamOk Tryd.prog gl (gam G_ssf) := (gamOk_cons (sim_TCmp gl) (gamOk_store (sim_stb gl) gamOk_nil))
noncomputable def L_ssf : LpsT := fun r fr σ => .fail
noncomputable def ssf_Tr (off : Nat) (len : Nat) (c0 : List PV) (cs : List PV) (rest : List (List PV)) (toks : List (Nat × Nat × TypeId)) (tys : List TypeId) : Tr (PV × Store) := Tr.ite (stb_is0 off len (oLen len) c0 cs rest toks tys) (Tr.ret (PV.tup [], Store.mk (c0 :: stb_l2 off len (oLen len) c0 cs rest toks tys :: rest) toks (82 :: 1000023 :: tys))) Tr.fail
theorem ssf_T (off : Nat) (len : Nat) (c0 : List PV) (cs : List PV) (rest : List (List PV)) (toks : List (Nat × Nat × TypeId)) (tys : List TypeId) : (tcallS tbT G_ssf L_ssf Tryd.f83 [.osl 1 off len 1, .fn 16 []] ⟨c0 :: cs :: rest, toks, 82 :: 1000023 :: tys⟩).flat = ssf_Tr off len c0 cs rest toks tys := by kernel_rfl
noncomputable def ssf_W (off : Nat) (len : Nat) (c0 : List PV) (cs : List PV) (rest : List (List PV)) (toks : List (Nat × Nat × TypeId)) (tys : List TypeId) : Option (PV × Store) := (ssf_Tr off len c0 cs rest toks tys).run
noncomputable def ssf_l2 (off : Nat) (len : Nat) (c0 : List PV) (cs : List PV) (rest : List (List PV)) (toks : List (Nat × Nat × TypeId)) (tys : List TypeId) : List PV := (gObj (asOut (ssf_W off len c0 cs rest toks tys)) 1)
noncomputable def ssf_is0 (off : Nat) (len : Nat) (c0 : List PV) (cs : List PV) (rest : List (List PV)) (toks : List (Nat × Nat × TypeId)) (tys : List TypeId) : Bool := isW (ssf_W off len c0 cs rest toks tys) (.tup [], ⟨(c0 :: (ssf_l2 off len c0 cs rest toks tys) :: rest), (toks), (82 :: 1000023 :: tys)⟩)
noncomputable def D_ssf : List PV → Store → Tr (PV × Store) | [.osl 1 off len 1, .fn 16 []], ⟨c0 :: cs :: rest, toks, 82 :: 1000023 :: tys⟩ => .ite (ssf_is0 off len c0 cs rest toks tys) (.ret (.tup [], ⟨(c0 :: (ssf_l2 off len c0 cs rest toks tys) :: rest), (toks), (82 :: 1000023 :: tys)⟩)) (.fail) | _, _ => .fail
theorem sim_ssf (gl : Nat → Option Obj) : SimS Tryd.prog gl 83 fun args σ => (D_ssf args σ).run := by
  refine SimS.of_flat (G := G_ssf) (L := L_ssf) tbT_ok (gok_ssf gl ) noMixed Tryd.func83 rfl (by rfl) (by kernel_rfl) (loopOk_none (by kernel_rfl)) ?_
  intro args σ x h
  unfold D_ssf at h
  split at h
  · exact (congrArg Tr.run (ssf_T _ _ _ _ _ _ _)).trans (ite_isW h fun h => by cases h)
  · cases h
noncomputable def G_cpt : GamT := ofL [(85, .pure F_eq85)]
theorem gok_cpt (gl : Nat → Option Obj) : GamOk Tryd.prog gl (gam G_cpt) := (gamOk_cons (sim_eq85 gl) gamOk_nil)
noncomputable def c_cpt1 : Code := loopC Tryd.f84 4
noncomputable def c_cpt2 : Code := loopC Tryd.f84 9
def I_cpt2 : LI := ⟨66, [0, 1, 5, 6, 7], fun e => match e with | .exit 2 => [0, 5] | _ => [], false⟩
noncomputable def LI_cpt2 : LpsT := fun r fr σ => .fail
noncomputable def cpt2_V (vs : List PV) (σ : Store) : Option (PExit × List PV × Store) := lval (lstep tbT G_cpt LI_cpt2 c_cpt2 I_cpt2) vs σ
noncomputable def cpt2_Tr (o : Nat) (m : Nat) (n : Int) (o2 : Nat) (m2 : Nat) (n2 : Int) (r : List (List PV)) (l : List PV) (rest : List (List PV)) (toks : List (Nat × Nat × TypeId)) (tys : List TypeId) : Tr LR := Tr.ite (iLt n2 (oLen m2)) (Tr.ite (okIx n2 m2) (Tr.ite (okCell [PV.sl [] .full] l (pOff o2 (nNat n2) 1)) (Tr.ite (okIx (iSub .i64 n2 1) m2) (Tr.ite (okCell [PV.sl [] .full] l (pOff o2 (nNat (iSub .i64 n2 1)) 1)) (Tr.ite (okR cV (lockLL (lockLL (lockLL (cRow l (pOff o2 (nNat n2) 1) 0))))) (Tr.ite (okR cV (lockLL (lockLL (lockLL (cRow l (pOff o2 (nNat (iSub .i64 n2 1)) 1) 0))))) (Tr.ite (bNot (iEq (cmpTV (lockLL (lockLL (lockLL (cRow l (pOff o2 (nNat n2) 1) 0)))) (lockLL (lockLL (lockLL (cRow l (pOff o2 (nNat (iSub .i64 n2 1)) 1) 0))))) 0)) (Tr.ite (okIx n2 m2) (Tr.ite (okCell [PV.sl [] .full] l (pOff o2 (nNat n2) 1)) (Tr.ite (okIx n m) (Tr.ite (okOff l (pOff o (nNat n) 1) 1) (Tr.ret (LR.next [PV.osl 1 o m 1, PV.fn 85 [PV.ptr 0 0], PV.int .i64 (iAdd .i64 n 1), PV.osl 1 o2 m2 1, PV.int .i64 (iAdd .i64 n2 1)] (Store.mk ([PV.sl r .own, PV.fn 16 []] :: putC l (pOff o (nNat n) 1) [PV.sl (cRow l (pOff o2 (nNat n2) 1) 0) .non] :: rest) toks (82 :: 1000023 :: tys)))) Tr.fail) Tr.fail) Tr.fail) Tr.fail) (Tr.ret (LR.next [PV.osl 1 o m 1, PV.fn 85 [PV.ptr 0 0], PV.int .i64 n, PV.osl 1 o2 m2 1, PV.int .i64 (iAdd .i64 n2 1)] (Store.mk ([PV.sl r .own, PV.fn 16 []] :: l :: rest) toks (82 :: 1000023 :: tys))))) Tr.fail) Tr.fail) Tr.fail) Tr.fail) Tr.fail) Tr.fail) (Tr.ret (LR.out (.exit 2) [PV.osl 1 o m 1, PV.int .i64 n] (Store.mk ([PV.sl r .own, PV.fn 16 []] :: l :: rest) toks (82 :: 1000023 :: tys))))
theorem cpt2_T (o : Nat) (m : Nat) (n : Int) (o2 : Nat) (m2 : Nat) (n2 : Int) (r : List (List PV)) (l : List PV) (rest : List (List PV)) (toks : List (Nat × Nat × TypeId)) (tys : List TypeId) : lstep tbT G_cpt LI_cpt2 c_cpt2 I_cpt2 [.osl 1 o m 1, .fn 85 [.ptr 0 0], .int .i64 n, .osl 1 o2 m2 1, .int .i64 n2] ⟨([.sl r .own, .fn 16 []] :: l :: rest), (toks), (82 :: 1000023 :: tys)⟩ = cpt2_Tr o m n o2 m2 n2 r l rest toks tys := by kernel_rfl
theorem cpt2_E (o : Nat) (m : Nat) (n : Int) (o2 : Nat) (m2 : Nat) (n2 : Int) (r : List (List PV)) (l : List PV) (rest : List (List PV)) (toks : List (Nat × Nat × TypeId)) (tys : List TypeId) : cpt2_V [.osl 1 o m 1, .fn 85 [.ptr 0 0], .int .i64 n, .osl 1 o2 m2 1, .int .i64 n2] ⟨([.sl r .own, .fn 16 []] :: l :: rest), (toks), (82 :: 1000023 :: tys)⟩ = lnext cpt2_V (cpt2_Tr o m n o2 m2 n2 r l rest toks tys).run := by unfold cpt2_V; rw [lval_eq, cpt2_T]
noncomputable def cpt2_W (o : Nat) (m : Nat) (n : Int) (o2 : Nat) (m2 : Nat) (n2 : Int) (r : List (List PV)) (l : List PV) (rest : List (List PV)) (toks : List (Nat × Nat × TypeId)) (tys : List TypeId) : Option (PExit × List PV × Store) := cpt2_V [.osl 1 o m 1, .fn 85 [.ptr 0 0], .int .i64 n, .osl 1 o2 m2 1, .int .i64 n2] ⟨([.sl r .own, .fn 16 []] :: l :: rest), (toks), (82 :: 1000023 :: tys)⟩
noncomputable def cpt2_n (o : Nat) (m : Nat) (n : Int) (o2 : Nat) (m2 : Nat) (n2 : Int) (r : List (List PV)) (l : List PV) (rest : List (List PV)) (toks : List (Nat × Nat × TypeId)) (tys : List TypeId) : Int := (gInt (gOut (cpt2_W o m n o2 m2 n2 r l rest toks tys) 1))
noncomputable def cpt2_l (o : Nat) (m : Nat) (n : Int) (o2 : Nat) (m2 : Nat) (n2 : Int) (r : List (List PV)) (l : List PV) (rest : List (List PV)) (toks : List (Nat × Nat × TypeId)) (tys : List TypeId) : List PV := (gObj (cpt2_W o m n o2 m2 n2 r l rest toks tys) 1)
noncomputable def cpt2_is0 (o : Nat) (m : Nat) (n : Int) (o2 : Nat) (m2 : Nat) (n2 : Int) (r : List (List PV)) (l : List PV) (rest : List (List PV)) (toks : List (Nat × Nat × TypeId)) (tys : List TypeId) : Bool := isW (cpt2_W o m n o2 m2 n2 r l rest toks tys) ((.exit 2), [.osl 1 o m 1, .int .i64 (cpt2_n o m n o2 m2 n2 r l rest toks tys)], ⟨([.sl r .own, .fn 16 []] :: (cpt2_l o m n o2 m2 n2 r l rest toks tys) :: rest), (toks), (82 :: 1000023 :: tys)⟩)
noncomputable def cpt2_prop : List PV → Store → Tr (PExit × List PV × Store) | [.osl 1 o m 1, .fn 85 [.ptr 0 0], .int .i64 n, .osl 1 o2 m2 1, .int .i64 n2], ⟨([.sl r .own, .fn 16 []] :: l :: rest), (toks), (82 :: 1000023 :: tys)⟩ => .ite (cpt2_is0 o m n o2 m2 n2 r l rest toks tys) (.ret ((.exit 2), [.osl 1 o m 1, .int .i64 (cpt2_n o m n o2 m2 n2 r l rest toks tys)], ⟨([.sl r .own, .fn 16 []] :: (cpt2_l o m n o2 m2 n2 r l rest toks tys) :: rest), (toks), (82 :: 1000023 :: tys)⟩)) (.fail) | _, _ => .fail
theorem cpt2_ok : ∀ vs σ r, (cpt2_prop vs σ).run = some r → cpt2_V vs σ = some r := by
  intro vs σ r h
  unfold cpt2_prop at h
  split at h
  · exact ite_isW h fun h => by cases h
  · cases h
theorem loop_cpt2 (gl : Nat → Option Obj) : ∀ fr σ e fr' σ', (orc I_cpt2 cpt2_prop fr σ).run = some (e, fr', σ') → LDoes Tryd.prog gl c_cpt2 fr σ e fr' σ' := orc_ok tbT_ok (gok_cpt gl ) noMixed (L := LI_cpt2) (loopOk_none (by kernel_rfl)) (by kernel_rfl) cpt2_ok
def I_cpt1 : LI := ⟨66, [0, 1, 5], fun e => match e with | .ret => [4] | .exit 0 => [0] | _ => [], false⟩
noncomputable def LI_cpt1 : LpsT := fun r fr σ => bif Nat.beq r 9 then orc I_cpt2 cpt2_prop fr σ else .fail
noncomputable def cpt1_V (vs : List PV) (σ : Store) : Option (PExit × List PV × Store) := lval (lstep tbT G_cpt LI_cpt1 c_cpt1 I_cpt1) vs σ
noncomputable def cpt1_Tr (o : Nat) (m : Nat) (n : Int) (r : List (List PV)) (l : List PV) (rest : List (List PV)) (toks : List (Nat × Nat × TypeId)) (tys : List TypeId) : Tr LR := Tr.ite (iLt n (oLen m)) (Tr.ite (okIx n m) (Tr.ite (okCell [PV.sl [] .full] l (pOff o (nNat n) 1)) (Tr.ite (okIx (iSub .i64 n 1) m) (Tr.ite (okCell [PV.sl [] .full] l (pOff o (nNat (iSub .i64 n 1)) 1)) (Tr.ite (okR cV (lockLL (lockLL (lockLL (cRow l (pOff o (nNat n) 1) 0))))) (Tr.ite (okR cV (lockLL (lockLL (lockLL (cRow l (pOff o (nNat (iSub .i64 n 1)) 1) 0))))) (Tr.ite (iEq (cmpTV (lockLL (lockLL (lockLL (cRow l (pOff o (nNat n) 1) 0)))) (lockLL (lockLL (lockLL (cRow l (pOff o (nNat (iSub .i64 n 1)) 1) 0))))) 0) (Tr.ite (okSub (okPos n) true (nNat n) m m) (Tr.ite (cpt2_is0 o m n (pOff o (nNat n) 1) (nSub m (nNat n)) 1 r l rest toks tys) (Tr.ite (okSub (okPos (cpt2_n o m n (pOff o (nNat n) 1) (nSub m (nNat n)) 1 r l rest toks tys)) true (nNat (cpt2_n o m n (pOff o (nNat n) 1) (nSub m (nNat n)) 1 r l rest toks tys)) m m) (Tr.ite (nEq (nSub m (nNat (cpt2_n o m n (pOff o (nNat n) 1) (nSub m (nNat n)) 1 r l rest toks tys))) 0) (Tr.ite (okSub true (okPos (cpt2_n o m n (pOff o (nNat n) 1) (nSub m (nNat n)) 1 r l rest toks tys)) 0 (nNat (cpt2_n o m n (pOff o (nNat n) 1) (nSub m (nNat n)) 1 r l rest toks tys)) m) (Tr.ret (LR.out .ret [PV.osl 1 (pOff o 0 1) (nSub (nNat (cpt2_n o m n (pOff o (nNat n) 1) (nSub m (nNat n)) 1 r l rest toks tys)) 0) 1] (Store.mk ([PV.sl r .own, PV.fn 16 []] :: cpt2_l o m n (pOff o (nNat n) 1) (nSub m (nNat n)) 1 r l rest toks tys :: rest) toks (82 :: 1000023 :: tys)))) Tr.fail) (Tr.ite (okOff (cpt2_l o m n (pOff o (nNat n) 1) (nSub m (nNat n)) 1 r l rest toks tys) (pOff o (nNat (cpt2_n o m n (pOff o (nNat n) 1) (nSub m (nNat n)) 1 r l rest toks tys)) 1) (pOff 0 (nSub m (nNat (cpt2_n o m n (pOff o (nNat n) 1) (nSub m (nNat n)) 1 r l rest toks tys))) 1)) (Tr.ite (okSub true (okPos (cpt2_n o m n (pOff o (nNat n) 1) (nSub m (nNat n)) 1 r l rest toks tys)) 0
 (nNat (cpt2_n o m n (pOff o (nNat n) 1) (nSub m (nNat n)) 1 r l rest toks tys)) m) (Tr.ret (LR.out .ret [PV.osl 1 (pOff o 0 1) (nSub (nNat (cpt2_n o m n (pOff o (nNat n) 1) (nSub m (nNat n)) 1 r l rest toks tys)) 0) 1] (Store.mk ([PV.sl r .own, PV.fn 16 []] :: clrC (cpt2_l o m n (pOff o (nNat n) 1) (nSub m (nNat n)) 1 r l rest toks tys) (pOff o (nNat (cpt2_n o m n (pOff o (nNat n) 1) (nSub m (nNat n)) 1 r l rest toks tys)) 1) (nSub m (nNat (cpt2_n o m n (pOff o (nNat n) 1) (nSub m (nNat n)) 1 r l rest toks tys))) [PV.sl [] .full] :: rest) toks (82 :: 1000023 :: tys)))) Tr.fail) Tr.fail)) Tr.fail) Tr.fail) Tr.fail) (Tr.ret (LR.next [PV.osl 1 o m 1, PV.fn 85 [PV.ptr 0 0], PV.int .i64 (iAdd .i64 n 1)] (Store.mk ([PV.sl r .own, PV.fn 16 []] :: l :: rest) toks (82 :: 1000023 :: tys))))) Tr.fail) Tr.fail) Tr.fail) Tr.fail) Tr.fail) Tr.fail) (Tr.ret (LR.out (.exit 0) [PV.osl 1 o m 1] (Store.mk ([PV.sl r .own, PV.fn 16 []] :: l :: rest) toks (82 :: 1000023 :: tys))))
theorem cpt1_T (o : Nat) (m : Nat) (n : Int) (r : List (List PV)) (l : List PV) (rest : List (List PV)) (toks : List (Nat × Nat × TypeId)) (tys : List TypeId) : lstep tbT G_cpt LI_cpt1 c_cpt1 I_cpt1 [.osl 1 o m 1, .fn 85 [.ptr 0 0], .int .i64 n] ⟨([.sl r .own, .fn 16 []] :: l :: rest), (toks), (82 :: 1000023 :: tys)⟩ = cpt1_Tr o m n r l rest toks tys := by kernel_rfl
theorem cpt1_E (o : Nat) (m : Nat) (n : Int) (r : List (List PV)) (l : List PV) (rest : List (List PV)) (toks : List (Nat × Nat × TypeId)) (tys : List TypeId) : cpt1_V [.osl 1 o m 1, .fn 85 [.ptr 0 0], .int .i64 n] ⟨([.sl r .own, .fn 16 []] :: l :: rest), (toks), (82 :: 1000023 :: tys)⟩ = lnext cpt1_V (cpt1_Tr o m n r l rest toks tys).run := by unfold cpt1_V; rw [lval_eq, cpt1_T]
noncomputable def cpt1_W (o : Nat) (m : Nat) (n : Int) (r : List (List PV)) (l : List PV) (rest : List (List PV)) (toks : List (Nat × Nat × TypeId)) (tys : List TypeId) : Option (PExit × List PV × Store) := cpt1_V [.osl 1 o m 1, .fn 85 [.ptr 0 0], .int .i64 n] ⟨([.sl r .own, .fn 16 []] :: l :: rest), (toks), (82 :: 1000023 :: tys)⟩
noncomputable def cpt1_o_0 (o : Nat) (m : Nat) (n : Int) (r : List (List PV)) (l : List PV) (rest : List (List PV)) (toks : List (Nat × Nat × TypeId)) (tys : List TypeId) : Nat := (gOff (gOut (cpt1_W o m n r l rest toks tys) 0))
noncomputable def cpt1_m_0 (o : Nat) (m : Nat) (n : Int) (r : List (List PV)) (l : List PV) (rest : List (List PV)) (toks : List (Nat × Nat × TypeId)) (tys : List TypeId) : Nat := (gLen (gOut (cpt1_W o m n r l rest toks tys) 0))
noncomputable def cpt1_l_0 (o : Nat) (m : Nat) (n : Int) (r : List (List PV)) (l : List PV) (rest : List (List PV)) (toks : List (Nat × Nat × TypeId)) (tys : List TypeId) : List PV := (gObj (cpt1_W o m n r l rest toks tys) 1)
noncomputable def cpt1_is0 (o : Nat) (m : Nat) (n : Int) (r : List (List PV)) (l : List PV) (rest : List (List PV)) (toks : List (Nat × Nat × TypeId)) (tys : List TypeId) : Bool := isW (cpt1_W o m n r l rest toks tys) (.ret, [.osl 1 (cpt1_o_0 o m n r l rest toks tys) (cpt1_m_0 o m n r l rest toks tys) 1], ⟨([.sl r .own, .fn 16 []] :: (cpt1_l_0 o m n r l rest toks tys) :: rest), (toks), (82 :: 1000023 :: tys)⟩)
noncomputable def cpt1_l_1 (o : Nat) (m : Nat) (n : Int) (r : List (List PV)) (l : List PV) (rest : List (List PV)) (toks : List (Nat × Nat × TypeId)) (tys : List TypeId) : List PV := (gObj (cpt1_W o m n r l rest toks tys) 1)
noncomputable def cpt1_is1 (o : Nat) (m : Nat) (n : Int) (r : List (List PV)) (l : List PV) (rest : List (List PV)) (toks : List (Nat × Nat × TypeId)) (tys : List TypeId) : Bool := isW (cpt1_W o m n r l rest toks tys) ((.exit 0), [.osl 1 o m 1], ⟨([.sl r .own, .fn 16 []] :: (cpt1_l_1 o m n r l rest toks tys) :: rest), (toks), (82 :: 1000023 :: tys)⟩)
noncomputable def cpt1_prop : List PV → Store → Tr (PExit × List PV × Store) | [.osl 1 o m 1, .fn 85 [.ptr 0 0], .int .i64 n], ⟨([.sl r .own, .fn 16 []] :: l :: rest), (toks), (82 :: 1000023 :: tys)⟩ => .ite (cpt1_is0 o m n r l rest toks tys) (.ret (.ret, [.osl 1 (cpt1_o_0 o m n r l rest toks tys) (cpt1_m_0 o m n r l rest toks tys) 1], ⟨([.sl r .own, .fn 16 []] :: (cpt1_l_0 o m n r l rest toks tys) :: rest), (toks), (82 :: 1000023 :: tys)⟩)) (.ite (cpt1_is1 o m n r l rest toks tys) (.ret ((.exit 0), [.osl 1 o m 1], ⟨([.sl r .own, .fn 16 []] :: (cpt1_l_1 o m n r l rest toks tys) :: rest), (toks), (82 :: 1000023 :: tys)⟩)) (.fail)) | _, _ => .fail
theorem cpt1_ok : ∀ vs σ r, (cpt1_prop vs σ).run = some r → cpt1_V vs σ = some r := by
  intro vs σ r h
  unfold cpt1_prop at h
  split at h
  · exact ite_isW h fun h => ite_isW h fun h => by cases h
  · cases h
theorem loop_cpt1 (gl : Nat → Option Obj) : ∀ fr σ e fr' σ', (orc I_cpt1 cpt1_prop fr σ).run = some (e, fr', σ') → LDoes Tryd.prog gl c_cpt1 fr σ e fr' σ' := orc_ok tbT_ok (gok_cpt gl ) noMixed (L := LI_cpt1) (loopOk_all (L := lps LI_cpt1) [(9, c_cpt2)] (by kernel_rfl) (List.forall_mem_cons.2 ⟨fun fr σ e fr' σ' h => loop_cpt2 gl  fr σ e fr' σ' h, (List.forall_mem_nil _)⟩)) (by kernel_rfl) cpt1_ok
noncomputable def L_cpt : LpsT := fun r fr σ => bif Nat.beq r 4 then orc I_cpt1 cpt1_prop fr σ else .fail
noncomputable def cpt_Tr (off : Nat) (len : Nat) (r : List (List PV)) (cs : List PV) (rest : List (List PV)) (toks : List (Nat × Nat × TypeId)) (tys : List TypeId) : Tr (PV × Store) := Tr.ite (iLt (oLen len) 2) (Tr.ret (PV.osl 1 off len 1, Store.mk ([PV.sl r .own, PV.fn 16 []] :: cs :: rest) toks (82 :: 1000023 :: tys))) (Tr.ite (cpt1_is0 off len 1 r cs rest toks tys) (Tr.ret (PV.osl 1 (cpt1_o_0 off len 1 r cs rest toks tys) (cpt1_m_0 off len 1 r cs rest toks tys) 1, Store.mk ([PV.sl r .own, PV.fn 16 []] :: cpt1_l_0 off len 1 r cs rest toks tys :: rest) toks (82 :: 1000023 :: tys))) (Tr.ite (cpt1_is1 off len 1 r cs rest toks tys) (Tr.ret (PV.osl 1 off len 1, Store.mk ([PV.sl r .own, PV.fn 16 []] :: cpt1_l_1 off len 1 r cs rest toks tys :: rest) toks (82 :: 1000023 :: tys))) Tr.fail))
theorem cpt_T (off : Nat) (len : Nat) (r : List (List PV)) (cs : List PV) (rest : List (List PV)) (toks : List (Nat × Nat × TypeId)) (tys : List TypeId) : (tcallS tbT G_cpt L_cpt Tryd.f84 [.osl 1 off len 1, .fn 85 [.ptr 0 0]] ⟨[.sl r .own, .fn 16 []] :: cs :: rest, toks, 82 :: 1000023 :: tys⟩).flat = cpt_Tr off len r cs rest toks tys := by kernel_rfl
noncomputable def cpt_W (off : Nat) (len : Nat) (r : List (List PV)) (cs : List PV) (rest : List (List PV)) (toks : List (Nat × Nat × TypeId)) (tys : List TypeId) : Option (PV × Store) := (cpt_Tr off len r cs rest toks tys).run
noncomputable def cpt_o (off : Nat) (len : Nat) (r : List (List PV)) (cs : List PV) (rest : List (List PV)) (toks : List (Nat × Nat × TypeId)) (tys : List TypeId) : Nat := (gOff (gOut (asOut (cpt_W off len r cs rest toks tys)) 0))
noncomputable def cpt_m (off : Nat) (len : Nat) (r : List (List PV)) (cs : List PV) (rest : List (List PV)) (toks : List (Nat × Nat × TypeId)) (tys : List TypeId) : Nat := (gLen (gOut (asOut (cpt_W off len r cs rest toks tys)) 0))
noncomputable def cpt_l (off : Nat) (len : Nat) (r : List (List PV)) (cs : List PV) (rest : List (List PV)) (toks : List (Nat × Nat × TypeId)) (tys : List TypeId) : List PV := (gObj (asOut (cpt_W off len r cs rest toks tys)) 1)
noncomputable def cpt_is0 (off : Nat) (len : Nat) (r : List (List PV)) (cs : List PV) (rest : List (List PV)) (toks : List (Nat × Nat × TypeId)) (tys : List TypeId) : Bool := isW (cpt_W off len r cs rest toks tys) (.osl 1 (cpt_o off len r cs rest toks tys) (cpt_m off len r cs rest toks tys) 1, ⟨([.sl r .own, .fn 16 []] :: (cpt_l off len r cs rest toks tys) :: rest), (toks), (82 :: 1000023 :: tys)⟩)
noncomputable def D_cpt : List PV → Store → Tr (PV × Store) | [.osl 1 off len 1, .fn 85 [.ptr 0 0]], ⟨[.sl r .own, .fn 16 []] :: cs :: rest, toks, 82 :: 1000023 :: tys⟩ => .ite (cpt_is0 off len r cs rest toks tys) (.ret (.osl 1 (cpt_o off len r cs rest toks tys) (cpt_m off len r cs rest toks tys) 1, ⟨([.sl r .own, .fn 16 []] :: (cpt_l off len r cs rest toks tys) :: rest), (toks), (82 :: 1000023 :: tys)⟩)) (.fail) | _, _ => .fail
theorem sim_cpt (gl : Nat → Option Obj) : SimS Tryd.prog gl 84 fun args σ => (D_cpt args σ).run := by
  refine SimS.of_flat (G := G_cpt) (L := L_cpt) tbT_ok (gok_cpt gl ) noMixed Tryd.func84 rfl (by rfl) (by kernel_rfl) (loopOk_all (L := lps L_cpt) [(4, c_cpt1)] (by kernel_rfl) (List.forall_mem_cons.2 ⟨fun fr σ e fr' σ' h => loop_cpt1 gl  fr σ e fr' σ' h, (List.forall_mem_nil _)⟩)) ?_
  intro args σ x h
  unfold D_cpt at h
  split at h
  · exact (congrArg Tr.run (cpt_T _ _ _ _ _ _ _)).trans (ite_isW h fun h => by cases h)
  · cases h
end Go.Pv

set_option maxHeartbeats 8000000
set_option maxRecDepth 200000
set_option linter.unusedSimpArgs false
set_option linter.unusedVariables false
/-! What a stable sort makes of a row. -/
namespace Go.Pv
open Go Go.Proofs
theorem mul_2N {a : Nat} (h : 2 * a ≤ 9223372036854775807) : iMul .i64 2 (a : Int) = ((2 * a : Nat) : Int) := by
  unfold iMul; rw [wrap_i64 (by omega)]; omega
theorem mul_N2 {a : Nat} (h : 2 * a ≤ 9223372036854775807) : iMul .i64 (a : Int) 2 = ((2 * a : Nat) : Int) := by
  unfold iMul; rw [wrap_i64 (by omega)]; omega
/-- Blocks of s, each in order, up to hi. -/
def Bl (f : Nat → List Vl) (s hi : Nat) : Prop := ∀ t, Srt cT f (t * s) (min (t * s + s) hi)
theorem Bl.next {f f' : Nat → List Vl} {s t hi : Nat} (h : Bl f s (t * s)) (hs : t * s ≤ hi) (h2 : hi ≤ t * s + s) (hm : Mv f f' (t * s) hi) (ho : Srt cT f' (t * s) hi) : Bl f' s hi := by
  intro u p q h3 h4 h5
  by_cases e : u = t
  · subst e
    exact ho p q h3 h4 (by omega)
  · by_cases e' : u < t
    · have e2 : (u + 1) * s ≤ t * s := Nat.mul_le_mul_right s e'
      have e3 : (u + 1) * s = u * s + s := Nat.succ_mul u s
      rw [hm.out (by omega), hm.out (by omega)]
      exact h u p q h3 h4 (by omega)
    · have e2 : (t + 1) * s ≤ u * s := Nat.mul_le_mul_right s (by omega)
      have e3 : (t + 1) * s = t * s + s := Nat.succ_mul t s
      omega
section
variable (T : Tot cT) (c0 : List PV) (rest : List (List PV)) (toks : List (Nat × Nat × TypeId)) (tys : List TypeId)
include T
theorem stb1_law (f0 : Nat → List Vl) (N s : Nat) (hs : 0 < s) (hs2 : s ≤ N + 20) (hN : N ≤ 1152921504606846975) : ∀ k t : Nat, ∀ f : Nat → List Vl, N - t * s ≤ k → t * s ≤ N → Bl f s (t * s) → Mv f0 f 0 N →
    ∃ t' : Nat, ∃ f', stb1_V [.osl 1 0 N 1, .int .i64 N, .fn 16 [], .int .i64 s, .int .i64 ((t * s : Nat) : Int), .int .i64 ((t * s + s : Nat) : Int)] (sT c0 rest toks tys f N) =
      some (.exit 0, [.osl 1 0 N 1, .int .i64 N, .fn 16 [], .int .i64 s, .int .i64 ((t' * s : Nat) : Int)], sT c0 rest toks tys f' N) ∧ t' * s ≤ N ∧ N < t' * s + s ∧ Bl f' s (t' * s) ∧ Mv f0 f' 0 N := by
  intro k
  induction k with
  | zero =>
    intro t f h1 h2 h3 h4
    refine ⟨t, f, ?_, h2, by omega, h3, h4⟩
    have c1 : ¬ t * s + s ≤ N := by omega
    simp only [sT]
    rw [stb1_E]
    unfold stb1_Tr
    simp only [iLe_N, c1, decide_false, Bool.false_eq_true, if_false, Tr.run_ite, Tr.run_ret, lnext_out]
  | succ k ih =>
    intro t f h1 h2 h3 h4
    by_cases c1 : t * s + s ≤ N
    · obtain ⟨f1, e1, e2, e3, e4⟩ := ins_law f T N (t * s) (t * s + s) c0 rest toks tys c1 h2 (by omega)
      have et : (t + 1) * s = t * s + s := Nat.succ_mul t s
      obtain ⟨t', f', g1, g2, g3, g4, g5⟩ := ih (t + 1) f1 (by omega) (by omega) (by rw [et]; exact h3.next (by omega) (by omega) e4 e3) (h4.trans (e4.mono (by omega) c1))
      refine ⟨t', f', ?_, g2, g3, g4, g5⟩
      rw [← g1]
      simp only [sT]
      rw [stb1_E]
      unfold stb1_Tr
      simp only [iLe_N, c1, e1, e2, add_N (a := t * s + s) (b := s) (by omega), et, decide_true, if_true, Tr.run_ite, Tr.run_ret, lnext_next]
    · refine ⟨t, f, ?_, h2, by omega, h3, h4⟩
      simp only [sT]
      rw [stb1_E]
      unfold stb1_Tr
      simp only [iLe_N, c1, decide_false, Bool.false_eq_true, if_false, Tr.run_ite, Tr.run_ret, lnext_out]
/-- Blocks of s from a on. -/
def Blf (f : Nat → List Vl) (s lo hi : Nat) : Prop := ∀ u, lo ≤ u * s → Srt cT f (u * s) (min (u * s + s) hi)
omit T in
theorem Blf.next {f f' : Nat → List Vl} {s lo lo' hi x : Nat} (h : Blf f s lo hi) (hl : lo ≤ lo') (hm : Mv f f' x lo') : Blf f' s lo' hi := by
  intro u h1 p q h3 h4 h5
  rw [hm.out (by omega), hm.out (by omega)]
  exact h u (by omega) p q h3 h4 h5
theorem stb3_law (f0 : Nat → List Vl) (N s : Nat) (hs : 0 < s) (hs2 : s ≤ N) (hN : N ≤ 1152921504606846975) : ∀ k t : Nat, ∀ f : Nat → List Vl, N - t * (2 * s) ≤ k → t * (2 * s) ≤ N → Bl f (2 * s) (t * (2 * s)) → Blf f s (t * (2 * s)) N → Mv f0 f 0 N →
    ∃ t' : Nat, ∃ f', stb3_V [.osl 1 0 N 1, .int .i64 N, .fn 16 [], .int .i64 s, .int .i64 ((t * (2 * s) : Nat) : Int), .int .i64 ((t * (2 * s) + 2 * s : Nat) : Int)] (sT c0 rest toks tys f N) =
      some (.exit 4, [.osl 1 0 N 1, .int .i64 N, .fn 16 [], .int .i64 s, .int .i64 ((t' * (2 * s) : Nat) : Int)], sT c0 rest toks tys f' N) ∧ t' * (2 * s) ≤ N ∧ N < t' * (2 * s) + 2 * s ∧ Bl f' (2 * s) (t' * (2 * s)) ∧ Blf f' s (t' * (2 * s)) N ∧ Mv f0 f' 0 N := by
  intro k
  induction k with
  | zero =>
    intro t f h1 h2 h3 h3' h4
    refine ⟨t, f, ?_, h2, by omega, h3, h3', h4⟩
    have c1 : ¬ t * (2 * s) + 2 * s ≤ N := by omega
    simp only [sT]
    rw [stb3_E]
    unfold stb3_Tr
    simp only [iLe_N, c1, decide_false, Bool.false_eq_true, if_false, Tr.run_ite, Tr.run_ret, lnext_out]
  | succ k ih =>
    intro t f h1 h2 h3 h3' h4
    have eu : (2 * t) * s = t * (2 * s) := by rw [Nat.mul_comm 2 t, Nat.mul_assoc]
    have eu1 : (2 * t + 1) * s = t * (2 * s) + s := by rw [Nat.succ_mul, eu]
    by_cases c1 : t * (2 * s) + 2 * s ≤ N
    · have hA : Srt cT f (t * (2 * s)) (t * (2 * s) + s) := by
        have := h3' (2 * t) (by omega)
        rw [eu, Nat.min_eq_left (by omega)] at this
        exact this
      have hB : Srt cT f (t * (2 * s) + s) (t * (2 * s) + 2 * s) := by
        have := h3' (2 * t + 1) (by omega)
        rw [eu1, Nat.min_eq_left (by omega)] at this
        have e : t * (2 * s) + s + s = t * (2 * s) + 2 * s := by omega
        rw [e] at this
        exact this
      obtain ⟨f1, e1, e2, e3, e4⟩ := sm_law T c0 rest toks tys N (by omega) f (t * (2 * s)) (t * (2 * s) + s) (t * (2 * s) + 2 * s) (by omega) (by omega) c1 hA hB
      have et : (t + 1) * (2 * s) = t * (2 * s) + 2 * s := Nat.succ_mul t (2 * s)
      obtain ⟨t', f', g1, g2, g3, g4, g4', g5⟩ := ih (t + 1) f1 (by omega) (by omega) (by rw [et]; exact h3.next (by omega) (by omega) e4 e3) (by rw [et]; exact h3'.next (by omega) e4) (h4.trans (e4.mono (by omega) c1))
      refine ⟨t', f', ?_, g2, g3, g4, g4', g5⟩
      rw [← g1]
      simp only [sT]
      rw [stb3_E]
      unfold stb3_Tr
      simp only [iLe_N, c1, add_N (a := t * (2 * s)) (b := s) (by omega), mul_2N (a := s) (by omega), e1, e2, add_N (a := t * (2 * s) + 2 * s) (b := 2 * s) (by omega), et, decide_true, if_true, Tr.run_ite, Tr.run_ret, lnext_next]
    · refine ⟨t, f, ?_, h2, by omega, h3, h3', h4⟩
      simp only [sT]
      rw [stb3_E]
      unfold stb3_Tr
      simp only [iLe_N, c1, decide_false, Bool.false_eq_true, if_false, Tr.run_ite, Tr.run_ret, lnext_out]
theorem stb2_law (f0 : Nat → List Vl) (N : Nat) (hN : N ≤ 1152921504606846975) : ∀ k s : Nat, ∀ f : Nat → List Vl, N - s ≤ k → 0 < s → Bl f s N → Mv f0 f 0 N →
    ∃ f', stb2_V [.osl 1 0 N 1, .int .i64 N, .fn 16 [], .int .i64 s] (sT c0 rest toks tys f N) = some (.exit 2, [], sT c0 rest toks tys f' N) ∧ Srt cT f' 0 N ∧ Mv f0 f' 0 N := by
  intro k
  induction k with
  | zero =>
    intro s f h1 h2 h3 h4
    have c1 : ¬ s < N := by omega
    refine ⟨f, ?_, ?_, h4⟩
    · simp only [sT]
      rw [stb2_E]
      unfold stb2_Tr
      simp only [iLt_N, c1, decide_false, Bool.false_eq_true, if_false, Tr.run_ite, Tr.run_ret, lnext_out]
    · have := h3 0
      rw [Nat.zero_mul, Nat.zero_add, Nat.min_eq_right (by omega)] at this
      exact this
  | succ k ih =>
    intro s f h1 h2 h3 h4
    by_cases c1 : s < N
    · obtain ⟨t, f1, g1, g2, g3, g4, g5, g6⟩ := stb3_law T c0 rest toks tys f0 N s h2 (by omega) hN N 0 f (by omega) (by omega) (by rw [Nat.zero_mul]; intro u p q _ _ h; omega) (fun u _ => h3 u) h4
      rw [Nat.zero_mul, Nat.zero_add] at g1
      have w : stb3_W 0 N N s 0 ((2 * s : Nat) : Int) c0 (oA cV f N) rest toks tys = _ := g1
      have a1 : stb3_a 0 N N s 0 ((2 * s : Nat) : Int) c0 (oA cV f N) rest toks tys = ((t * (2 * s) : Nat) : Int) := by rw [stb3_a, w]; rfl
      have a2 : stb3_l2 0 N N s 0 ((2 * s : Nat) : Int) c0 (oA cV f N) rest toks tys = oA cV f1 N := by rw [stb3_l2, w]; rfl
      have a3 : stb3_is0 0 N N s 0 ((2 * s : Nat) : Int) c0 (oA cV f N) rest toks tys = true := by rw [stb3_is0, w, a1, a2]; simp [sT]
      have eu : (2 * t) * s = t * (2 * s) := by rw [Nat.mul_comm 2 t, Nat.mul_assoc]
      have eu1 : (2 * t + 1) * s = t * (2 * s) + s := by rw [Nat.succ_mul, eu]
      by_cases c2 : t * (2 * s) + s < N
      · have hA : Srt cT f1 (t * (2 * s)) (t * (2 * s) + s) := by
          have := g5 (2 * t) (by omega)
          rw [eu, Nat.min_eq_left (by omega)] at this
          exact this
        have hB : Srt cT f1 (t * (2 * s) + s) N := by
          have := g5 (2 * t + 1) (by omega)
          rw [eu1, Nat.min_eq_right (by omega)] at this
          exact this
        obtain ⟨f2, e1, e2, e3, e4⟩ := sm_law T c0 rest toks tys N (by omega) f1 (t * (2 * s)) (t * (2 * s) + s) N (by omega) c2 (Nat.le_refl _) hA hB
        obtain ⟨f', b1, b2, b3⟩ := ih (2 * s) f2 (by omega) (by omega) (g4.next (by omega) (by omega) e4 e3) (g6.trans (e4.mono (by omega) (Nat.le_refl _)))
        refine ⟨f', ?_, b2, b3⟩
        rw [← b1]
        simp only [sT]
        rw [stb2_E]
        unfold stb2_Tr
        simp only [iLt_N, c1, c2, mul_2N (a := s) (by omega), mul_N2 (a := s) (by omega), a1, a2, a3, add_N (a := t * (2 * s)) (b := s) (by omega), e1, e2, decide_true, if_true, Tr.run_ite, Tr.run_ret, lnext_next]
      · have hA : Srt cT f1 (t * (2 * s)) N := by
          have := g5 (2 * t) (by omega)
          rw [eu, Nat.min_eq_right (by omega)] at this
          exact this
        obtain ⟨f', b1, b2, b3⟩ := ih (2 * s) f1 (by omega) (by omega) (g4.next (by omega) (by omega) (Mv.refl _ _ _) hA) g6
        refine ⟨f', ?_, b2, b3⟩
        rw [← b1]
        simp only [sT]
        rw [stb2_E]
        unfold stb2_Tr
        simp only [iLt_N, c1, c2, mul_2N (a := s) (by omega), mul_N2 (a := s) (by omega), a1, a2, a3, add_N (a := t * (2 * s)) (b := s) (by omega), decide_true, decide_false, Bool.false_eq_true, if_false, if_true, Tr.run_ite, Tr.run_ret, lnext_next]
    · refine ⟨f, ?_, ?_, h4⟩
      · simp only [sT]
        rw [stb2_E]
        unfold stb2_Tr
        simp only [iLt_N, c1, decide_false, Bool.false_eq_true, if_false, Tr.run_ite, Tr.run_ret, lnext_out]
      · have := h3 0
        rw [Nat.zero_mul, Nat.zero_add, Nat.min_eq_right (by omega)] at this
        exact this
theorem ssf_law (f : Nat → List Vl) (N : Nat) (hN : N ≤ 1152921504606846975) :
    ∃ f', ssf_is0 0 N c0 (oA cV f N) rest toks tys = true ∧ ssf_l2 0 N c0 (oA cV f N) rest toks tys = oA cV f' N ∧ Srt cT f' 0 N ∧ Mv f f' 0 N := by
  obtain ⟨t, f1, g1, g2, g3, g4, g5⟩ := stb1_law T c0 rest toks tys f N 20 (by omega) (by omega) hN N 0 f (by omega) (by omega) (by rw [Nat.zero_mul]; intro u p q _ _ h; omega) (Mv.refl _ _ _)
  rw [Nat.zero_mul, Nat.zero_add] at g1
  have w : stb1_W 0 N N 20 0 20 c0 (oA cV f N) rest toks tys = _ := g1
  have a1 : stb1_a 0 N N 20 0 20 c0 (oA cV f N) rest toks tys = ((t * 20 : Nat) : Int) := by rw [stb1_a, w]; rfl
  have a2 : stb1_l2 0 N N 20 0 20 c0 (oA cV f N) rest toks tys = oA cV f1 N := by rw [stb1_l2, w]; rfl
  have a3 : stb1_is0 0 N N 20 0 20 c0 (oA cV f N) rest toks tys = true := by rw [stb1_is0, w, a1, a2]; simp [sT]
  obtain ⟨f2, e1, e2, e3, e4⟩ := ins_law f1 T N (t * 20) N c0 rest toks tys (Nat.le_refl _) g2 (by omega)
  obtain ⟨f3, b1, b2, b3⟩ := stb2_law T c0 rest toks tys f N hN N 20 f2 (by omega) (by omega) (g4.next (by omega) (by omega) e4 e3) (g5.trans (e4.mono (by omega) (Nat.le_refl _)))
  have w2 : stb2_W 0 N N 20 c0 (oA cV f2 N) rest toks tys = _ := b1
  have d2 : stb2_l2 0 N N 20 c0 (oA cV f2 N) rest toks tys = oA cV f3 N := by rw [stb2_l2, w2]; rfl
  have d3 : stb2_is0 0 N N 20 c0 (oA cV f2 N) rest toks tys = true := by rw [stb2_is0, w2, d2]; simp [sT]
  have hw : stb_W 0 N N c0 (oA cV f N) rest toks tys = some (.tup [], sT c0 rest toks tys f3 N) := by
    unfold stb_W stb_Tr
    simp only [a1, a2, a3, e1, e2, d2, d3, if_true, Tr.run_ite, Tr.run_ret]
  have k2 : stb_l2 0 N N c0 (oA cV f N) rest toks tys = oA cV f3 N := by rw [stb_l2, hw]; rfl
  have k3 : stb_is0 0 N N c0 (oA cV f N) rest toks tys = true := by rw [stb_is0, k2, hw]; simp [sT]
  have hs : ssf_W 0 N c0 (oA cV f N) rest toks tys = some (.tup [], sT c0 rest toks tys f3 N) := by
    unfold ssf_W ssf_Tr oLen
    simp only [k2, k3, if_true, Tr.run_ite, Tr.run_ret]
  have k4 : ssf_l2 0 N c0 (oA cV f N) rest toks tys = oA cV f3 N := by rw [ssf_l2, hs]; rfl
  exact ⟨f3, by rw [ssf_is0, k4, hs]; simp [sT], k4, b2, b3⟩
end
end Go.Pv

set_option maxHeartbeats 8000000
set_option maxRecDepth 200000
set_option linter.unusedSimpArgs false
set_option linter.unusedVariables false
/-! What is left of a row in order when each is there once. -/
namespace Go.Pv
open Go Go.Proofs
theorem iEq_0 (x : Int) : iEq x 0 = decide (x = 0) := by
  unfold iEq
  by_cases h : x = 0 <;> simp [h]
theorem pOff_1 (o a : Nat) : pOff o a 1 = o + a := by unfold pOff; omega
theorem oLen_N (n : Nat) : oLen n = (n : Int) := rfl
theorem nSub_N (a b : Nat) : nSub a b = a - b := rfl
theorem okPos_N (a : Nat) : okPos (a : Int) = true := by simp [okPos]
section
variable (T : Tot cT) (r : List (List PV)) (rest : List (List PV)) (toks : List (Nat × Nat × TypeId)) (tys : List TypeId)
abbrev sO : List PV := [.sl r .own, .fn 16 []]
include T
theorem cpt2_law (f : Nat → List Vl) (N k0 : Nat) (hk0 : 1 ≤ k0) (hk1 : k0 < N) (hN : N ≤ 1152921504606846975) (hS : Srt cT f 0 N) : ∀ d e : Nat, e + d = N → k0 + 1 ≤ e → ∀ (k : Nat) (g : Nat → List Vl), k0 ≤ k → k < e → Dd cT f g N k e →
    ∃ k' : Nat, ∃ g', cpt2_V [.osl 1 0 N 1, .fn 85 [.ptr 0 0], .int .i64 k, .osl 1 k0 (N - k0) 1, .int .i64 ((e - k0 : Nat) : Int)] (sT (sO r) rest toks tys g N) =
      some (.exit 2, [.osl 1 0 N 1, .int .i64 k'], sT (sO r) rest toks tys g' N) ∧ k' < N ∧ Dd cT f g' N k' N := by
  intro d
  induction d with
  | zero =>
    intro e h1 h2 k g h3 h4 h5
    have ee : e = N := by omega
    subst ee
    refine ⟨k, g, ?_, h4, h5⟩
    simp only [sT, sO]
    rw [cpt2_E]
    unfold cpt2_Tr
    simp only [oLen_N, iLt_N, Nat.lt_irrefl, decide_false, Bool.false_eq_true, if_false, Tr.run_ite, Tr.run_ret, lnext_out]
  | succ d ih =>
    intro e h1 h2 k g h3 h4 h5
    have q1 : e - k0 < N - k0 := by omega
    have q2 : e - k0 - 1 < N - k0 := by omega
    have q3 : k0 + (e - k0) = e := by omega
    have q4 : k0 + (e - k0 - 1) = e - 1 := by omega
    have q5 : e < N := by omega
    have q6 : e - 1 < N := by omega
    have q7 : k < N := by omega
    have q8 : e - k0 + 1 = e + 1 - k0 := by omega
    have g1 : g e = f e := h5.keep e (by omega) q5
    have g2 : g (e - 1) = f (e - 1) := h5.keep (e - 1) (by omega) q6
    by_cases c1 : cT (f e) (f (e - 1)) = 0
    · obtain ⟨k', g', b1, b2, b3⟩ := ih (e + 1) (by omega) (by omega) k g h3 (by omega) (h5.eq ((T.zero _ _).1 c1))
      refine ⟨k', g', ?_, b2, b3⟩
      rw [← b1]
      simp only [sT, sO]
      rw [cpt2_E]
      unfold cpt2_Tr
      simp only [oLen_N, iLt_N, iEq_0, okIx_N, nNat_N, pOff_1, sub_N1 (a := e - k0) (by omega) (by omega), add_N1 (a := e - k0) (by omega), q1, q2, q3, q4, q8, okCell_oA cV q5, okCell_oA cV q6, cRow_oA cV q5, cRow_oA cV q6, lockLL_rOf, okR_of, cmpTV_cT, g1, g2, c1, bNot_eq, decide_true, Bool.not_true, Bool.false_eq_true, if_false, if_true, Tr.run_ite, Tr.run_ret, lnext_next]
    · have c2 : cT (f (e - 1)) (f e) < 0 := by
        have w1 := hS (e - 1) e (by omega) (by omega) q5
        have w2 := T.swap (f e) (f (e - 1))
        omega
      obtain ⟨k', g', b1, b2, b3⟩ := ih (e + 1) (by omega) (by omega) (k + 1) (upd g k (f e)) (by omega) (by omega) (h5.ne T c2)
      refine ⟨k', g', ?_, b2, b3⟩
      rw [← b1]
      simp only [sT, sO]
      rw [cpt2_E]
      unfold cpt2_Tr
      simp only [oLen_N, iLt_N, iEq_0, okIx_N, nNat_N, pOff_1, Nat.zero_add, sub_N1 (a := e - k0) (by omega) (by omega), add_N1 (a := e - k0) (by omega), add_N1 (a := k) (by omega), q1, q2, q3, q4, q7, q8, okCell_oA cV q5, okCell_oA cV q6, cRow_oA cV q5, cRow_oA cV q6, okOff_oA cV q7, putC_oA cV _ q7, lockLL_rOf, okR_of, cmpTV_cT, g1, g2, c1, bNot_eq, decide_true, decide_false, Bool.not_false, if_true, Tr.run_ite, Tr.run_ret, lnext_next]

theorem cpt1_law (f : Nat → List Vl) (N : Nat) (hN : N ≤ 1152921504606846975) (hS : Srt cT f 0 N) : ∀ d k : Nat, k + d = N → 1 ≤ k → Dd cT f f N k k →
    ∃ (k' : Nat) (g' : Nat → List Vl) (cs' : List PV), (cpt1_V [.osl 1 0 N 1, .fn 85 [.ptr 0 0], .int .i64 k] (sT (sO r) rest toks tys f N) =
        some (.ret, [.osl 1 0 k' 1], ⟨sO r :: cs' :: rest, toks, 82 :: 1000023 :: tys⟩) ∨
      k' = N ∧ cpt1_V [.osl 1 0 N 1, .fn 85 [.ptr 0 0], .int .i64 k] (sT (sO r) rest toks tys f N) =
        some (.exit 0, [.osl 1 0 N 1], ⟨sO r :: cs' :: rest, toks, 82 :: 1000023 :: tys⟩)) ∧ k' ≤ N ∧ k' ≤ cs'.length ∧ (∀ p, p < k' → cs'[p]? = some (.sl (rOf cV (g' p)) .non)) ∧ Dd cT f g' N k' N := by
  intro d
  induction d with
  | zero =>
    intro k h1 h2 h3
    have e : k = N := by omega
    subst e
    refine ⟨k, f, oA cV f k, Or.inr ⟨rfl, ?_⟩, Nat.le_refl _, by simp, fun p hp => oA_get cV hp, h3⟩
    simp only [sT, sO]
    rw [cpt1_E]
    unfold cpt1_Tr
    simp only [oLen_N, iLt_N, Nat.lt_irrefl, decide_false, Bool.false_eq_true, if_false, Tr.run_ite, Tr.run_ret, lnext_out]
  | succ d ih =>
    intro k h1 h2 h3
    have q1 : k < N := by omega
    have q2 : k - 1 < N := by omega
    by_cases c1 : cT (f k) (f (k - 1)) = 0
    · obtain ⟨k', g', b1, b2, b3⟩ := cpt2_law T r rest toks tys f N k h2 q1 hN hS (N - (k + 1)) (k + 1) (by omega) (Nat.le_refl _) k f (Nat.le_refl _) (by omega) (h3.eq ((T.zero _ _).1 c1))
      have e1 : k + 1 - k = 1 := by omega
      rw [e1] at b1
      have w : cpt2_W 0 N k k (N - k) 1 r (oA cV f N) rest toks tys = _ := b1
      have a1 : cpt2_n 0 N k k (N - k) 1 r (oA cV f N) rest toks tys = (k' : Int) := by rw [cpt2_n, w]; rfl
      have a2 : cpt2_l 0 N k k (N - k) 1 r (oA cV f N) rest toks tys = oA cV g' N := by rw [cpt2_l, w]; rfl
      have a3 : cpt2_is0 0 N k k (N - k) 1 r (oA cV f N) rest toks tys = true := by rw [cpt2_is0, w, a1, a2]; simp [sT, sO]
      refine ⟨k', g', clrC (oA cV g' N) k' (N - k') [.sl [] .full], Or.inl ?_, by omega, ?_, fun p hp => ?_, b3⟩
      · have s1 : okSub true true k N N = true := by simp [okSub]; omega
        have s2 : okSub true true k' N N = true := by simp [okSub]; omega
        have s3 : okSub true true 0 k' N = true := by simp [okSub]; omega
        have s4 : nEq (N - k') 0 = false := by simp [nEq]; omega
        have s5 : okOff (oA cV g' N) k' (N - k') = true := by simp [okOff]; omega
        simp only [sT, sO]
        rw [cpt1_E]
        unfold cpt1_Tr
        simp only [oLen_N, iLt_N, iEq_0, okIx_N, nNat_N, okPos_N, nSub_N, Nat.sub_zero, pOff_1, Nat.zero_add, sub_N1 (a := k) h2 (by omega), q1, q2, okCell_oA cV q1, okCell_oA cV q2, cRow_oA cV q1, cRow_oA cV q2, lockLL_rOf, okR_of, cmpTV_cT, c1, a1, a2, a3, s1, s2, s3, s4, s5, decide_true, Bool.false_eq_true, if_false, if_true, Tr.run_ite, Tr.run_ret, lnext_out]
      · unfold clrC; simp; omega
      · rw [clrC_get (by simp; omega) hp, oA_get cV (by omega)]
    · have c2 : cT (f (k - 1)) (f k) < 0 := by
        have w1 := hS (k - 1) k (by omega) (by omega) q1
        have w2 := T.swap (f k) (f (k - 1))
        omega
      have h4 := h3.ne T c2
      rw [upd_self] at h4
      obtain ⟨k', g', cs', b1, b2⟩ := ih (k + 1) (by omega) (by omega) h4
      refine ⟨k', g', cs', ?_, b2⟩
      have e : cpt1_V [.osl 1 0 N 1, .fn 85 [.ptr 0 0], .int .i64 k] (sT (sO r) rest toks tys f N) = cpt1_V [.osl 1 0 N 1, .fn 85 [.ptr 0 0], .int .i64 ((k + 1 : Nat) : Int)] (sT (sO r) rest toks tys f N) := by
        simp only [sT, sO]
        rw [cpt1_E]
        unfold cpt1_Tr
        simp only [oLen_N, iLt_N, iEq_0, okIx_N, nNat_N, pOff_1, Nat.zero_add, sub_N1 (a := k) h2 (by omega), add_N1 (a := k) (by omega), q1, q2, okCell_oA cV q1, okCell_oA cV q2, cRow_oA cV q1, cRow_oA cV q2, lockLL_rOf, okR_of, cmpTV_cT, c1, decide_true, decide_false, Bool.false_eq_true, if_false, if_true, Tr.run_ite, Tr.run_ret, lnext_next]
      rw [e]
      exact b1
theorem cpt_law (f : Nat → List Vl) (N : Nat) (h1 : 1 ≤ N) (hN : N ≤ 1152921504606846975) (hS : Srt cT f 0 N) :
    ∃ (k' : Nat) (g' : Nat → List Vl) (cs' : List PV), cpt_is0 0 N r (oA cV f N) rest toks tys = true ∧ cpt_o 0 N r (oA cV f N) rest toks tys = 0 ∧ cpt_m 0 N r (oA cV f N) rest toks tys = k' ∧ cpt_l 0 N r (oA cV f N) rest toks tys = cs' ∧
      k' ≤ cs'.length ∧ (∀ p, p < k' → cs'[p]? = some (.sl (rOf cV (g' p)) .non)) ∧ Dd cT f g' N k' N := by
  have fin : ∀ (k' : Nat) (cs' : List PV), cpt_W 0 N r (oA cV f N) rest toks tys = some (.osl 1 0 k' 1, ⟨sO r :: cs' :: rest, toks, 82 :: 1000023 :: tys⟩) →
      cpt_is0 0 N r (oA cV f N) rest toks tys = true ∧ cpt_o 0 N r (oA cV f N) rest toks tys = 0 ∧ cpt_m 0 N r (oA cV f N) rest toks tys = k' ∧ cpt_l 0 N r (oA cV f N) rest toks tys = cs' := by
    intro k' cs' h
    have a1 : cpt_o 0 N r (oA cV f N) rest toks tys = 0 := by rw [cpt_o, h]; rfl
    have a2 : cpt_m 0 N r (oA cV f N) rest toks tys = k' := by rw [cpt_m, h]; rfl
    have a3 : cpt_l 0 N r (oA cV f N) rest toks tys = cs' := by rw [cpt_l, h]; rfl
    exact ⟨by rw [cpt_is0, a1, a2, a3, h]; simp [sO], a1, a2, a3⟩
  by_cases e : N < 2
  · have e1 : N = 1 := by omega
    subst e1
    obtain ⟨x1, x2, x3, x4⟩ := fin 1 (oA cV f 1) (by
      unfold cpt_W cpt_Tr
      have : iLt (oLen 1) 2 = true := by decide
      simp only [this, if_true, Tr.run_ite, Tr.run_ret])
    exact ⟨1, f, oA cV f 1, x1, x2, x3, x4, by simp, fun p hp => oA_get cV hp, Dd.init f 1⟩
  · obtain ⟨k', g', cs', b1, b2, b3, b4, b5⟩ := cpt1_law T r rest toks tys f N hN hS (N - 1) 1 (by omega) (Nat.le_refl _) (Dd.init f N)
    have hlt : iLt (oLen N) 2 = false := by unfold iLt oLen; simp; omega
    rcases b1 with b1 | ⟨rfl, b1⟩
    · have w : cpt1_W 0 N 1 r (oA cV f N) rest toks tys = _ := b1
      have a1 : cpt1_o_0 0 N 1 r (oA cV f N) rest toks tys = 0 := by rw [cpt1_o_0, w]; rfl
      have a2 : cpt1_m_0 0 N 1 r (oA cV f N) rest toks tys = k' := by rw [cpt1_m_0, w]; rfl
      have a3 : cpt1_l_0 0 N 1 r (oA cV f N) rest toks tys = cs' := by rw [cpt1_l_0, w]; rfl
      have a4 : cpt1_is0 0 N 1 r (oA cV f N) rest toks tys = true := by rw [cpt1_is0, w, a1, a2, a3]; simp [sO]
      obtain ⟨x1, x2, x3, x4⟩ := fin k' cs' (by
        unfold cpt_W cpt_Tr
        simp only [hlt, a1, a2, a3, a4, Bool.false_eq_true, if_false, if_true, Tr.run_ite, Tr.run_ret])
      exact ⟨k', g', cs', x1, x2, x3, x4, b3, b4, b5⟩
    · have w : cpt1_W 0 k' 1 r (oA cV f k') rest toks tys = _ := b1
      have a3 : cpt1_l_1 0 k' 1 r (oA cV f k') rest toks tys = cs' := by rw [cpt1_l_1, w]; rfl
      have a4 : cpt1_is0 0 k' 1 r (oA cV f k') rest toks tys = false := by rw [cpt1_is0, w]; simp [isW]
      have a5 : cpt1_is1 0 k' 1 r (oA cV f k') rest toks tys = true := by rw [cpt1_is1, w, a3]; simp [sO]
      obtain ⟨x1, x2, x3, x4⟩ := fin k' cs' (by
        unfold cpt_W cpt_Tr
        simp only [hlt, a3, a4, a5, Bool.false_eq_true, if_false, if_true, Tr.run_ite, Tr.run_ret])
      exact ⟨k', g', cs', x1, x2, x3, x4, b3, b4, b5⟩
end
end Go.Pv

set_option maxHeartbeats 8000000
set_option maxRecDepth 200000
set_option linter.unusedSimpArgs false
set_option linter.unusedVariables false
/-! TupleMany: a row of numbers in order is a relation just if it is not too long. -/
namespace Go.Pv
open Go Go.Proofs
def nums (i : Nat) : List Vl := [(1, (i : Int), [])]
theorem nums_lt {i j : Nat} (h : i < j) : lexV (nums i) (nums j) < 0 := by
  have h1 : (i : Int) < j := by omega
  have h2 : cmpVl (1, (i : Int), []) (1, (j : Int), []) = -1 := by
    simp [cmpVl, compareV, cmpInt, firstNZ, h1]
  simp [nums, lexV, lex, h2]
theorem nums_chk (i : Nat) : chkV (nums i) = 0 := by simp [chkV, nums, isVl, isV]
theorem oA_succ (f : Nat → List Vl) (n : Nat) : oA cV f (n + 1) = oA cV f n ++ [.sl (rOf cV (f n)) .non] := by simp [oA, List.range_succ]
theorem putC_mid (f : Nat → List Vl) (i d : Nat) (z : PV) : putC (oA cV f i ++ List.replicate (d + 1) z) i [.sl (rOf cV (f i)) .non] = oA cV f (i + 1) ++ List.replicate d z := by
  have e1 : (oA cV f i ++ List.replicate (d + 1) z).take i = oA cV f i := by
    rw [List.take_append_of_le_length (by simp), List.take_of_length_le (by simp)]
  have e2 : (oA cV f i ++ List.replicate (d + 1) z).drop (i + [PV.sl (rOf cV (f i)) .non].length) = List.replicate d z := by
    rw [List.drop_append, List.drop_eq_nil_of_le (by simp), List.nil_append]
    simp [List.drop_replicate]
  unfold putC
  rw [e1, e2, oA_succ]
theorem many1_law (K : Nat) (hK : K ≤ 1000000) : ∀ d i : Nat, i + d = K → TMany1_V [.int .i64 (K : Nat), .osl 0 0 K 1, .int .i64 (i : Nat)] ⟨[oA cV nums i ++ List.replicate d (.sl [] .full)], [], [1000023]⟩ = some (.exit 0, [.int .i64 (K : Nat), .osl 0 0 K 1], ⟨[oA cV nums K], [], [1000023]⟩) := by
  intro d
  induction d with
  | zero =>
    intro i h
    have e : i = K := by omega
    subst e
    rw [TMany1_E]
    unfold TMany1_Tr
    simp only [iLt_N, Nat.lt_irrefl, decide_false, Bool.false_eq_true, if_false, Tr.run_ite, Tr.run_ret, lnext_out, List.replicate_zero, List.append_nil]
  | succ d ih =>
    intro i h
    have q1 : i < K := by omega
    have q2 : okOff (oA cV nums i ++ List.replicate (d + 1) (.sl [] .full)) i 1 = true := by simp [okOff] <;> omega
    have e : ([PV.sl [[PV.int .i64 1, PV.int .i64 (i : Nat), PV.str []]] .non] : List PV) = [.sl (rOf cV (nums i)) .non] := rfl
    rw [← ih (i + 1) (by omega), TMany1_E]
    unfold TMany1_Tr
    simp only [iLt_N, okIx_N, nNat_N, pOff_01, q1, q2, e, putC_mid, add_N1 (a := i) (by omega), decide_true, if_true, Tr.run_ite, Tr.run_ret, lnext_next]
theorem ckr1_law (N : Nat) (hN : N ≤ 1000000) : ∀ d i : Nat, i + d = N → ckr1_V [.osl 0 0 N 1, .osl 0 0 N 1, .int .i64 (N : Nat), .int .i64 (i : Nat)] ⟨[oA cV nums N], [], [1000023]⟩ = some (.exit 0, [.osl 0 0 N 1], ⟨[oA cV nums N], [], [1000023]⟩) := by
  intro d
  induction d with
  | zero =>
    intro i h
    have e : i = N := by omega
    subst e
    rw [ckr1_E]
    unfold ckr1_Tr
    simp only [iLt_N, Nat.lt_irrefl, decide_false, Bool.false_eq_true, if_false, Tr.run_ite, Tr.run_ret, lnext_out]
  | succ d ih =>
    intro i h
    have q1 : i < N := by omega
    have z : iNe 0 0 = false := by rfl
    rw [← ih (i + 1) (by omega), ckr1_E]
    unfold ckr1_Tr
    simp only [iLt_N, okIx_N, nNat_N, pOff_01, q1, okCell_oA cV q1, cRow_oA cV q1, lockLL_rOf, okR_of, chkT_of, nums_chk, z, add_N1 (a := i) (by omega), decide_true, Bool.false_eq_true, if_false, if_true, Tr.run_ite, Tr.run_ret, lnext_next]
theorem ckr2_law (N : Nat) (hN : N ≤ 1000000) : ∀ d i : Nat, i + d = N → ckr2_V [.osl 0 0 N 1, .int .i64 (N : Nat), .int .i64 (i : Nat)] ⟨[oA cV nums N], [], [1000023]⟩ = some (.exit 2, [], ⟨[oA cV nums N], [], [1000023]⟩) := by
  intro d
  induction d with
  | zero =>
    intro i h
    have e : i = N := by omega
    subst e
    rw [ckr2_E]
    unfold ckr2_Tr
    simp only [iLt_N, Nat.lt_irrefl, decide_false, Bool.false_eq_true, if_false, Tr.run_ite, Tr.run_ret, lnext_out]
  | succ d ih =>
    intro i h
    have q1 : i < N := by omega
    rw [← ih (i + 1) (by omega), ckr2_E]
    unfold ckr2_Tr
    by_cases h0 : 0 < i
    · have q2 : i - 1 < N := by omega
      have q3 : iLt 0 (i : Int) = true := by simp; omega
      have q4 : iNe (xLen (rOf cV (nums (i - 1)))) (xLen (rOf cV (nums i))) = false := by simp [nums]
      have q5 : lexV (nums (i - 1)) (nums i) < 0 := nums_lt (by omega)
      have q6 : iLe 0 (lexV (nums (i - 1)) (nums i)) = false := by simp; exact q5
      simp only [iLt_N, okIx_N, nNat_N, pOff_01, sub_N1 (a := i) h0 (by omega), q1, q2, q3, q4, q6, okCell_oA cV q1, okCell_oA cV q2, cRow_oA cV q1, cRow_oA cV q2, lockLL_rOf, okR_of, cmpTV_of, add_N1 (a := i) (by omega), decide_true, Bool.false_eq_true, if_false, if_true, Tr.run_ite, Tr.run_ret, lnext_next]
    · have e : i = 0 := by omega
      subst e
      have q3 : iLt 0 ((0 : Nat) : Int) = false := by rfl
      simp only [iLt_N, q1, q3, add_N1 (a := 0) (by omega), decide_true, Bool.false_eq_true, if_false, if_true, Tr.run_ite, Tr.run_ret, lnext_next]
theorem ckr_law (N : Nat) (hN : N ≤ 1000000) : ckr_is0 0 N (oA cV nums N) [] [] [] = true ∧ ckr_n 0 N (oA cV nums N) [] [] [] = if 65536 < N then 3 else 0 := by
  have key : ckr_W 0 N (oA cV nums N) [] [] [] = some (.int .i64 (if 65536 < N then 3 else 0), ⟨[oA cV nums N], [], [1000023]⟩) := by
    unfold ckr_W ckr_Tr
    by_cases h : 65536 < N
    · have q : iLt 65536 (oLen N) = true := by simp [oLen_N]; omega
      rw [if_pos h]
      simp only [q, if_true, Tr.run_ite, Tr.run_ret]
    · have q : iLt 65536 ((N : Nat) : Int) = false := by simp; omega
      have h1 := ckr1_law N hN N 0 (by omega)
      have w1 : ckr1_W 0 N 0 N (N : Nat) 0 (oA cV nums N) [] [] [] = _ := h1
      have a1 : ckr1_is0 0 N 0 N (N : Nat) 0 (oA cV nums N) [] [] [] = false := by rw [ckr1_is0, w1]; simp [isW]
      have a2 : ckr1_l3_1 0 N 0 N (N : Nat) 0 (oA cV nums N) [] [] [] = oA cV nums N := by rw [ckr1_l3_1, w1]; rfl
      have a3 : ckr1_is1 0 N 0 N (N : Nat) 0 (oA cV nums N) [] [] [] = true := by rw [ckr1_is1, w1]; rw [a2]; simp
      have h2 := ckr2_law N hN N 0 (by omega)
      have w2 : ckr2_W 0 N (N : Nat) 0 (oA cV nums N) [] [] [] = _ := h2
      have b1 : ckr2_is0 0 N (N : Nat) 0 (oA cV nums N) [] [] [] = false := by rw [ckr2_is0, w2]; simp [isW]
      have b2 : ckr2_l_1 0 N (N : Nat) 0 (oA cV nums N) [] [] [] = oA cV nums N := by rw [ckr2_l_1, w2]; rfl
      have b3 : ckr2_is1 0 N (N : Nat) 0 (oA cV nums N) [] [] [] = true := by rw [ckr2_is1, w2, b2]; simp
      rw [if_neg h]
      simp only [oLen_N, q, a1, a2, a3, b1, b2, b3, Bool.false_eq_true, if_false, if_true, Tr.run_ite, Tr.run_ret]
  have e1 : ckr_n 0 N (oA cV nums N) [] [] [] = if 65536 < N then 3 else 0 := by rw [ckr_n, key]; rfl
  have e2 : ckr_l 0 N (oA cV nums N) [] [] [] = oA cV nums N := by rw [ckr_l, key]; rfl
  exact ⟨by rw [ckr_is0, e1, e2, key]; simp, e1⟩
theorem TMany_law (n : Nat) (hn : n ≤ 255) : TMany_W (n : Nat) = some (.bool true) := by
  obtain ⟨K, hK⟩ : ∃ K, K = 65436 + n := ⟨_, rfl⟩
  have hw : iWrap .i64 (n : Int) = (n : Int) := by
    show IntKind.wrap .i64 (n : Int) = _
    rw [wrap_i64 (by omega)]
  have ha : iAdd .i64 65436 (n : Int) = (K : Nat) := by
    have := add_N (a := 65436) (b := n) (by omega)
    rw [hK]
    exact this
  have hz : zC K [PV.sl [] .full] = oA cV nums 0 ++ List.replicate K (.sl [] .full) := by
    have : ∀ m, reps m [PV.sl [] .full] = List.replicate m (.sl [] .full) := fun m => by
      induction m with
      | zero => rfl
      | succ m ih => simp only [reps, ih, List.replicate_succ, List.singleton_append]
    simp only [zC, this]
    rfl
  have h1 := many1_law K (by omega) K 0 (by omega)
  rw [← hz] at h1
  have w1 : TMany1_W (K : Nat) 0 K 0 (zC K [PV.sl [] .full]) = _ := h1
  have a1 : TMany1_k (K : Nat) 0 K 0 (zC K [PV.sl [] .full]) = (K : Nat) := by rw [TMany1_k, w1]; rfl
  have a2 : TMany1_l (K : Nat) 0 K 0 (zC K [PV.sl [] .full]) = 0 := by rw [TMany1_l, w1]; rfl
  have a3 : TMany1_l2 (K : Nat) 0 K 0 (zC K [PV.sl [] .full]) = K := by rw [TMany1_l2, w1]; rfl
  have a4 : TMany1_l3 (K : Nat) 0 K 0 (zC K [PV.sl [] .full]) = oA cV nums K := by rw [TMany1_l3, w1]; rfl
  have a5 : TMany1_is0 (K : Nat) 0 K 0 (zC K [PV.sl [] .full]) = true := by rw [TMany1_is0, a1, a2, a3, a4, w1]; simp
  obtain ⟨c1, c2⟩ := ckr_law K (by omega)
  have m1 : okMake (K : Nat) (K : Nat) 1 24 = true := by simp [okMake]; omega
  unfold TMany_W TMany_Tr
  simp only [hw, ha, nNat_N, m1, a1, a2, a3, a4, a5, c1, c2, Bool.false_eq_true, if_false, if_true, Tr.run_ite, Tr.run_ret]
  by_cases h : 65536 < K
  · have l1 : iLe (K : Nat) 65536 = false := by simp; omega
    have l2 : iEq (3 : Int) 0 = false := by rfl
    have l3 : iEq (3 : Int) 3 = true := by rfl
    have l4 : bEq false false = true := by rfl
    simp only [if_pos h, l1, l2, l3, l4, Bool.false_eq_true, if_false, if_true]
  · have l1 : iLe (K : Nat) 65536 = true := by simp; omega
    have l2 : iEq (0 : Int) 0 = true := by rfl
    have l4 : bEq true true = true := by rfl
    simp only [if_neg h, l1, l2, l4, if_true]
end Go.Pv

set_option maxHeartbeats 4000000
set_option maxRecDepth 200000
set_option linter.unusedSimpArgs false
set_option linter.unusedVariables false
namespace Go.Pv
open Go Go.Proofs Go.RowKit Go.Proofs.YtdfahkeodlfopaaDoor

/-! ### the listed variables -/
theorem g_pow : Tryd.prog.globalNamed "internal/strconv.uint64pow10" = some 0 := by kernel_rfl
theorem gt_pow : (Tryd.prog.globals[0]?).map (·.type) = some 164 := by kernel_rfl
def laidL : List (String × DataW Unit) := [("math/bits.deBruijn32tab", Rows.laid_math_bits_deBruijn32tab), ("math/bits.deBruijn64tab", Rows.laid_math_bits_deBruijn64tab), ("internal/strconv.uint64pow10", Rows.laid_internal_strconv_uint64pow10)]
theorem laidL_plain : (laidL.filter fun x => x.2.handleName?.isSome) = [] := by kernel_rfl
theorem glPow_laid {W : World} (h : laidMetH Tryd.prog laidL W) : GlPow fun b => W.heap[b]? := by
  unfold laidMetH at h
  rw [laidL_plain] at h
  obtain ⟨ps, hl, _⟩ := h
  refine ⟨?_⟩
  obtain ⟨g, t, cs, fuel, p, h1, h2, h3, h4⟩ := laid_var (nm := "internal/strconv.uint64pow10") hl (.tail _ (.tail _ (.head _)))
  obtain rfl := Option.some.inj (g_pow.symm.trans h1)
  obtain rfl := Option.some.inj (gt_pow.symm.trans h2)
  have e : (Rows.laid_internal_strconv_uint64pow10 : DataW Unit) = Lib.tabData .u64 Lib.pow10Tab := by rfl
  rw [e] at h4
  have hc := Lib.cells_of_tab Tryd.underlying164 Tryd.underlying147 (by kernel_rfl) (by kernel_rfl) h4
  obtain ⟨T, f, hh⟩ := var_heap h1 h3
  refine ⟨0, T, f, g_pow, ?_⟩
  rw [← hc]
  simpa using hh
theorem laidOut : laidOutB Tryd.prog = true := by kernel_rfl

/-- From a law's contract to its row's. -/
theorem law_calls {F : List PV → Tr PV} {f : FuncId} {fn : Func} {s : ChangeSpec} (hsim : ∀ {gl : Nat → Option Obj}, GlPow gl → SimP Tryd.prog gl f fun args => (F args).run) (hF : ∀ xs, ArgL Tryd.prog fn.params.toList xs → (∃ H w vs, RelL H w xs vs) → (F xs).run = some (.bool true))
    (hrt : fn.resultTypes = #[4]) (hsv : s.vars = []) (hT : (fn.params.toList.all fun t => okT Tryd.prog 9 t && Tryd.prog.readableRec t && decide (t < Tryd.prog.types.size)) = true)
    {H : Type} {enc : TypeId × Value → H} {W : World} {base : Nat} {args : Array Value} {ds gs : List (DataW H)} {before : List MemPlace} (hfn : ∀ ds : List (DataW H), ds.length = fn.params.size → s.fn H ds = { results := [.lit (.bool true)], args := ds })
    (hval : ∀ (j : Nat) t v, fn.params[j]? = some t → args[j]? = some v → Value.okWide Tryd.prog W .any base t v) (hW : DataW.Whole enc Tryd.prog fn.params.toList s.vars false W args.toList ds gs before) (hL : laidMetH Tryd.prog laidL W) :
    Calls Tryd.prog f args W fun e W' => ∃ v, e = .returned v ∧ s.post enc Tryd.prog fn false true false false W args v W' := by
  have hW' := hW
  obtain ⟨p, q, hA, hV, rfl, hfz, hnd⟩ := hW'
  have hT' : ∀ t ∈ fn.params.toList, okT Tryd.prog 9 t = true ∧ Tryd.prog.readableRec t = true ∧ t < Tryd.prog.types.size := by
    intro t ht
    have := List.all_eq_true.1 hT t ht
    simp only [Bool.and_eq_true, decide_eq_true_eq] at this
    exact ⟨this.1.1, this.1.2, this.2⟩
  obtain ⟨xs, hx, ha⟩ := args_rel (n := 9) (fun j t v ht hv => hval j t v (by simpa using ht) (by simpa using hv)) hA (List.all_eq_true.2 fun t ht => (hT' t ht).1)
  have hlen : ds.length = fn.params.size := by
    have h1 : ∀ {ts : List TypeId} {vs : List Value} {ds : List (DataW H)} {ps : List MemPlace}, DataW.TrodAll enc Tryd.prog W 0 (fun _ => true) true ts vs ds ps → ds.length = ts.length := by
      intro ts
      induction ts with
      | nil => intro vs ds ps h; obtain ⟨rfl, rfl, rfl⟩ := Go.ChangeShapes.trodAll_nil h; rfl
      | cons t ts ih =>
        intro vs ds ps h
        obtain ⟨v, vs', d, ds', p, q, rfl, rfl, rfl, hd, hrest⟩ := Go.ChangeShapes.trodAll_cons h
        simp [ih hrest]
    simpa using h1 hA
  have hc := (hsim (glPow_laid hL)).run xs _ (hF xs ha ⟨_, _, _, hx⟩) (ghOf W) W args.toList rfl rfl rfl (fun b o h => h) hx
  simp only [Array.toArray_toList] at hc
  refine hc.mono ?_
  rintro e W' ⟨v, rfl, hb, hr⟩
  cases hr
  exact ⟨_, rfl, law_post laidOut hrt Tryd.underlying4 hsv (fun t ht => (hT' t ht).2) hW (hfn ds hlen) hb.1⟩
end Go.Pv
namespace Go.Proofs.YtdfahkeodlfopaaDoor
open Go Go.Proofs Go.RowKit Go.Pv Go.ChangeShapes Go.WideShapes Go.ChangeAt

/-! ### arguments of the laws' types -/
theorem shp_int {t : TypeId} {k : IntKind} {xs : List PV} (hu : Tryd.prog.underlying t = some (.int k)) (h : Shp Tryd.prog t xs) : ∃ n, xs = [.int k n] := by
  cases h with
  | int t k' n h => rw [hu] at h; cases h; exact ⟨n, rfl⟩
  | bool t b h => rw [hu] at h; cases h
  | str t l h => rw [hu] at h; cases h
  | sl t e xss h hx => rw [hu] at h; cases h
  | struct t fs xs h hx => rw [hu] at h; cases h
theorem shp_str {t : TypeId} {xs : List PV} (hu : Tryd.prog.underlying t = some .string) (h : Shp Tryd.prog t xs) : ∃ l, xs = [.str l] := by
  cases h with
  | str t l h => exact ⟨l, rfl⟩
  | int t k' n h => rw [hu] at h; cases h
  | bool t b h => rw [hu] at h; cases h
  | sl t e xss h hx => rw [hu] at h; cases h
  | struct t fs xs h hx => rw [hu] at h; cases h
theorem shp_struct {t : TypeId} {fs : Array Field} {xs : List PV} (hu : Tryd.prog.underlying t = some (.struct fs)) (h : Shp Tryd.prog t xs) : ShpL Tryd.prog (fs.toList.map (·.type)) xs := by
  cases h with
  | struct t fs xs h hx => rw [hu] at h; cases h; exact hx
  | str t l h => rw [hu] at h; cases h
  | int t k' n h => rw [hu] at h; cases h
  | bool t b h => rw [hu] at h; cases h
  | sl t e xss h hx => rw [hu] at h; cases h
theorem shp_sl {t e : TypeId} {xs : List PV} (hu : Tryd.prog.underlying t = some (.slice e)) (h : Shp Tryd.prog t xs) : ∃ xss, xs = [.sl xss .non] ∧ ∀ ys, ys ∈ xss → Shp Tryd.prog e ys := by
  cases h with
  | sl t e xss h hx => rw [hu] at h; cases h; exact ⟨xss, rfl, hx⟩
  | str t l h => rw [hu] at h; cases h
  | int t k' n h => rw [hu] at h; cases h
  | bool t b h => rw [hu] at h; cases h
  | struct t fs xs h hx => rw [hu] at h; cases h
/-- Rows told by a code. -/
theorem shp_rows {α : Type} (C : Cod α) {t e : TypeId} {xs : List PV} (hu : Tryd.prog.underlying t = some (.slice e)) (he : ∀ ys, Shp Tryd.prog e ys → ∃ a, ys = C.enc a) (h : Shp Tryd.prog t xs) : ∃ l : List α, xs = [.sl (rOf C l) .non] := by
  obtain ⟨xss, rfl, hx⟩ := shp_sl hu h
  have : ∃ l : List α, xss = rOf C l := by
    clear h
    induction xss with
    | nil => exact ⟨[], rfl⟩
    | cons y ys ih =>
      obtain ⟨a, rfl⟩ := he y (hx y (List.mem_cons_self ..))
      obtain ⟨l, rfl⟩ := ih fun z hz => hx z (List.mem_cons_of_mem _ hz)
      exact ⟨a :: l, rfl⟩
  obtain ⟨l, rfl⟩ := this
  exact ⟨l, rfl⟩
theorem arg_rows {α : Type} (C : Cod α) {t e : TypeId} {x : PV} (hu : Tryd.prog.underlying t = some (.slice e)) (he : ∀ ys, Shp Tryd.prog e ys → ∃ a, ys = C.enc a) (h : Arg Tryd.prog t x) : ∃ l : List α, x = .sl (rOf C l) .non := by
  rcases h with ⟨fs, ys, hu', rfl, hs⟩ | ⟨hne, hs⟩
  · rw [hu] at hu'; cases hu'
  · obtain ⟨l, h⟩ := shp_rows C hu he hs
    cases h
    exact ⟨l, rfl⟩
theorem arg_int {k : IntKind} {t : TypeId} {x : PV} (hu : Tryd.prog.underlying t = some (.int k)) (h : Arg Tryd.prog t x) : ∃ n, x = .int k n := by
  rcases h with ⟨fs, ys, hu', rfl, hs⟩ | ⟨hne, hs⟩
  · rw [hu] at hu'; cases hu'
  · obtain ⟨n, h⟩ := shp_int hu hs
    cases h
    exact ⟨n, rfl⟩
theorem arg_str {x : PV} (h : Arg Tryd.prog 9 x) : ∃ s, x = .str s := by
  rcases h with ⟨fs, ys, hu, rfl, hs⟩ | ⟨hne, hs⟩
  · rw [Tryd.underlying9] at hu; cases hu
  · obtain ⟨s, h⟩ := shp_str Tryd.underlying9 hs
    cases h
    exact ⟨s, rfl⟩
theorem shp_val {xs : List PV} (h : Shp Tryd.prog 36 xs) : ∃ v : Vl, xs = cV.enc v := by
  have h1 := shp_struct Tryd.underlying36 h
  cases h1 with
  | cons t ts xs ys ha hs =>
    obtain ⟨k, rfl⟩ := shp_int Tryd.underlying34 ha
    cases hs with
    | cons t ts xs ys hb hs =>
      obtain ⟨n, rfl⟩ := shp_int Tryd.underlying2 hb
      cases hs with
      | cons t ts xs ys hc hs =>
        obtain ⟨s, rfl⟩ := shp_str Tryd.underlying9 hc
        cases hs
        exact ⟨(k, n, s), rfl⟩
theorem shp_tuple {xs : List PV} (h : Shp Tryd.prog 23 xs) : ∃ l : List Vl, xs = (cR cV).enc l := shp_rows cV Tryd.underlying23 (fun _ h => shp_val h) h
theorem arg_tuple {x : PV} (h : Arg Tryd.prog 23 x) : ∃ l : List Vl, x = .sl (rOf cV l) .non := arg_rows cV Tryd.underlying23 (fun _ h => shp_val h) h
theorem arg_rel {x : PV} (h : Arg Tryd.prog 44 x) : ∃ l : List (List Vl), x = .sl (rOf (cR cV) l) .non := arg_rows (cR cV) Tryd.underlying44 (fun _ h => shp_tuple h) h
theorem arg_types {x : PV} (h : Arg Tryd.prog 58 x) : ∃ l : List Int, x = .sl (rOf cI l) .non := arg_rows cI Tryd.underlying58 (fun _ h => by obtain ⟨n, rfl⟩ := shp_int Tryd.underlying85 h; exact ⟨n, rfl⟩) h
theorem shp_term {xs : List PV} (h : Shp Tryd.prog 38 xs) : ∃ a : Tm, xs = cM.enc a := by
  have h1 := shp_struct Tryd.underlying38 h
  cases h1 with
  | cons t ts xs ys ha hs =>
    obtain ⟨k, rfl⟩ := shp_int Tryd.underlying33 ha
    cases hs with
    | cons t ts xs ys hb hs =>
      obtain ⟨b, rfl⟩ := shp_str Tryd.underlying9 hb
      cases hs with
      | cons t ts xs ys hc hs =>
        obtain ⟨v, rfl⟩ := shp_val hc
        cases hs
        exact ⟨(k, b, v), rfl⟩
theorem arg_terms {x : PV} (h : Arg Tryd.prog 29 x) : ∃ l : List Tm, x = .sl (rOf cM l) .non := arg_rows cM Tryd.underlying29 (fun _ h => shp_term h) h

/-! ### a world that fits -/
def litVals : DataW Unit → Array Value
  | .agg l => (l.map fun d => match d with | .lit (.int k n) => Value.int k n | _ => undef).toArray
  | _ => #[]
noncomputable def low : Nat := (World.holding Tryd.prog default ⟨#[], #[], []⟩).heap.size
noncomputable def laidWorld (os : Os) : World :=
  let w0 := World.holding Tryd.prog os ⟨#[], #[], []⟩
  { w0 with heap := (((w0.heap.modify 4 fun
      | .cells _ t frozen => .cells (litVals Rows.laid_math_bits_deBruijn32tab) t frozen
      | o => o).modify 5 fun
      | .cells _ t frozen => .cells (litVals Rows.laid_math_bits_deBruijn64tab) t frozen
      | o => o).modify 0 fun
      | .cells _ t frozen => .cells (litVals Rows.laid_internal_strconv_uint64pow10) t frozen
      | o => o) }
theorem own : ownKnob Tryd.prog.godebug = none := by kernel_rfl
theorem laid_met (os : Os) (args : Array Value) : laidMet Tryd.prog laidL ((laidWorld os).forCall (fun _ _ => 0) ⟨#[], args, []⟩).memory :=
  laidMet_of_run' 8 (by kernel_rfl) (by kernel_rfl)
end Go.Proofs.YtdfahkeodlfopaaDoor
