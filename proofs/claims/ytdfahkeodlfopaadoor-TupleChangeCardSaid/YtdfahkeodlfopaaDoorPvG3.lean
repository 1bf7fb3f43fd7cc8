/- Part 3 of the proof: pure values for the machine's values, what functions compute over them, and laws of what is computed. Conditions: none beyond each theorem's own premises. -/
import Derived.Test.YtdfahkeodlfopaaDoorPvG2
set_option maxHeartbeats 4000000
set_option maxRecDepth 200000
set_option linter.unusedSimpArgs false
set_option linter.unusedVariables false
namespace Go.Pv
open Go Go.Proofs
noncomputable def G_CmpF0 : GamT := ofL [(56, .pure F_Compare)]
theorem gok_CmpF0 (gl : Nat → Option Obj) : GamOk Tryd.prog gl (gam G_CmpF0) := (gamOk_cons (sim_Compare gl) gamOk_nil)
noncomputable def c_CmpF01 : Code := loopC Tryd.f55 2
def I_CmpF01 : LI := ⟨39, [0, 1, 2, 11, 12, 13], fun e => match e with | .ret => [6] | .exit 0 => [0, 1] | _ => [], true⟩
noncomputable def LI_CmpF01 : LpsT := fun r fr σ => .fail
noncomputable def CmpF01_V (vs : List PV) (σ : Store) : Option (PExit × List PV × Store) := lval (lstep tbT G_CmpF0 LI_CmpF01 c_CmpF01 I_CmpF01) vs σ
noncomputable def CmpF01_Tr (s1 : List (List PV)) (s2 : List (List PV)) (r : List (List PV)) (n : Int) (n2 : Int) : Tr LR := Tr.ite (iLt n2 n) (Tr.ite (okPos n2) (Tr.ite (okGet [PV.int .i64 0, PV.int .i64 0, PV.str []] r (nNat n2)) (Tr.ite (iLe (xLen s2) n2) (Tr.ret (LR.out .ret [PV.int .i64 1] (Store.mk [] [] []))) (Tr.ite (okPos n2) (Tr.ite (okGet [PV.int .i64 0, PV.int .i64 0, PV.str []] s2 (nNat n2)) (Tr.ite (iNe (compareV (xInt r (nNat n2) 0) (xInt r (nNat n2) 1) (xStr r (nNat n2) 2) (xInt s2 (nNat n2) 0) (xInt s2 (nNat n2) 1) (xStr s2 (nNat n2) 2)) 0) (Tr.ret (LR.out .ret [PV.int .i64 (compareV (xInt r (nNat n2) 0) (xInt r (nNat n2) 1) (xStr r (nNat n2) 2) (xInt s2 (nNat n2) 0) (xInt s2 (nNat n2) 1) (xStr s2 (nNat n2) 2))] (Store.mk [] [] []))) (Tr.ret (LR.next [PV.sl (dropPLL 0 s1) .non, PV.sl (dropPLL 0 s2) .non, PV.fn 56 [], PV.sl (dropPLL 0 r) .non, PV.int .i64 n, PV.int .i64 (iAdd .i64 n2 1)] (Store.mk [] [] [])))) Tr.fail) Tr.fail)) Tr.fail) Tr.fail) (Tr.ret (LR.out (.exit 0) [PV.sl s1 .non, PV.sl s2 .non] (Store.mk [] [] [])))
theorem CmpF01_T (s1 : List (List PV)) (s2 : List (List PV)) (r : List (List PV)) (n : Int) (n2 : Int) : lstep tbT G_CmpF0 LI_CmpF01 c_CmpF01 I_CmpF01 [.sl s1 .non, .sl s2 .non, .fn 56 [], .sl r .non, .int .i64 n, .int .i64 n2] ⟨[], [], []⟩ = CmpF01_Tr s1 s2 r n n2 := by kernel_rfl
theorem CmpF01_E (s1 : List (List PV)) (s2 : List (List PV)) (r : List (List PV)) (n : Int) (n2 : Int) : CmpF01_V [.sl s1 .non, .sl s2 .non, .fn 56 [], .sl r .non, .int .i64 n, .int .i64 n2] ⟨[], [], []⟩ = lnext CmpF01_V (CmpF01_Tr s1 s2 r n n2).run := by unfold CmpF01_V; rw [lval_eq, CmpF01_T]
noncomputable def CmpF01_W (s1 : List (List PV)) (s2 : List (List PV)) (r : List (List PV)) (n : Int) (n2 : Int) : Option (PExit × List PV × Store) := CmpF01_V [.sl s1 .non, .sl s2 .non, .fn 56 [], .sl r .non, .int .i64 n, .int .i64 n2] ⟨[], [], []⟩
noncomputable def CmpF01_n_0 (s1 : List (List PV)) (s2 : List (List PV)) (r : List (List PV)) (n : Int) (n2 : Int) : Int := (gInt (gOut (CmpF01_W s1 s2 r n n2) 0))
noncomputable def CmpF01_is0 (s1 : List (List PV)) (s2 : List (List PV)) (r : List (List PV)) (n : Int) (n2 : Int) : Bool := isW (CmpF01_W s1 s2 r n n2) (.ret, [.int .i64 (CmpF01_n_0 s1 s2 r n n2)], ⟨[], [], []⟩)
noncomputable def CmpF01_s1_1 (s1 : List (List PV)) (s2 : List (List PV)) (r : List (List PV)) (n : Int) (n2 : Int) : List (List PV) := (gRow (gOut (CmpF01_W s1 s2 r n n2) 0))
noncomputable def CmpF01_s2_1 (s1 : List (List PV)) (s2 : List (List PV)) (r : List (List PV)) (n : Int) (n2 : Int) : List (List PV) := (gRow (gOut (CmpF01_W s1 s2 r n n2) 1))
noncomputable def CmpF01_is1 (s1 : List (List PV)) (s2 : List (List PV)) (r : List (List PV)) (n : Int) (n2 : Int) : Bool := isW (CmpF01_W s1 s2 r n n2) ((.exit 0), [.sl (CmpF01_s1_1 s1 s2 r n n2) .non, .sl (CmpF01_s2_1 s1 s2 r n n2) .non], ⟨[], [], []⟩)
noncomputable def CmpF01_prop : List PV → Store → Tr (PExit × List PV × Store) | [.sl s1 .non, .sl s2 .non, .fn 56 [], .sl r .non, .int .i64 n, .int .i64 n2], ⟨[], [], []⟩ => .ite (CmpF01_is0 s1 s2 r n n2) (.ret (.ret, [.int .i64 (CmpF01_n_0 s1 s2 r n n2)], ⟨[], [], []⟩)) (.ite (CmpF01_is1 s1 s2 r n n2) (.ret ((.exit 0), [.sl (CmpF01_s1_1 s1 s2 r n n2) .non, .sl (CmpF01_s2_1 s1 s2 r n n2) .non], ⟨[], [], []⟩)) (.fail)) | _, _ => .fail
theorem CmpF01_ok : ∀ vs σ r, (CmpF01_prop vs σ).run = some r → CmpF01_V vs σ = some r := by
  intro vs σ r h
  unfold CmpF01_prop at h
  split at h
  · exact ite_isW h fun h => ite_isW h fun h => by cases h
  · cases h
theorem loop_CmpF01 (gl : Nat → Option Obj) : ∀ fr σ e fr' σ', (orc I_CmpF01 CmpF01_prop fr σ).run = some (e, fr', σ') → LDoes Tryd.prog gl c_CmpF01 fr σ e fr' σ' := orc_ok tbT_ok (gok_CmpF0 gl ) noMixed (L := LI_CmpF01) (loopOk_none (by kernel_rfl)) (by kernel_rfl) CmpF01_ok
noncomputable def L_CmpF0 : LpsT := fun r fr σ => bif Nat.beq r 2 then orc I_CmpF01 CmpF01_prop fr σ else .fail
noncomputable def CmpF0_Tr (a : List (List PV)) (b : List (List PV)) : Tr PV := Tr.ite (CmpF01_is0 a b a (xLen a) 0) (Tr.ret (PV.int .i64 (CmpF01_n_0 a b a (xLen a) 0))) (Tr.ite (CmpF01_is1 a b a (xLen a) 0) (Tr.ite (iLt (xLen (CmpF01_s1_1 a b a (xLen a) 0)) (xLen (CmpF01_s2_1 a b a (xLen a) 0))) (Tr.ret (PV.int .i64 (-1))) (Tr.ret (PV.int .i64 0))) Tr.fail)
theorem CmpF0_T (a : List (List PV)) (b : List (List PV)) : (tcall tbT G_CmpF0 L_CmpF0 Tryd.f55 [.sl a .non, .sl b .non, .fn 56 []]).flat = CmpF0_Tr a b := by kernel_rfl
noncomputable def CmpF0_W (a : List (List PV)) (b : List (List PV)) : Option PV := (CmpF0_Tr a b).run
noncomputable def CmpF0_n (a : List (List PV)) (b : List (List PV)) : Int := (gInt (gVal (CmpF0_W a b)))
noncomputable def CmpF0_is0 (a : List (List PV)) (b : List (List PV)) : Bool := isW (CmpF0_W a b) (.int .i64 (CmpF0_n a b))
noncomputable def F_CmpF0 : List PV → Tr PV | [.sl a .non, .sl b .non, .fn 56 []] => .ite (CmpF0_is0 a b) (.ret (.int .i64 (CmpF0_n a b))) (.fail) | _ => .fail
theorem sim_CmpF0 (gl : Nat → Option Obj) : SimP Tryd.prog gl 55 fun args => (F_CmpF0 args).run := by
  refine SimP.of_flat (G := G_CmpF0) (L := L_CmpF0) tbT_ok (gok_CmpF0 gl ) noMixed Tryd.func55 rfl (by rfl) (by kernel_rfl) (loopOk_all (L := lps L_CmpF0) [(2, c_CmpF01)] (by kernel_rfl) (List.forall_mem_cons.2 ⟨fun fr σ e fr' σ' h => loop_CmpF01 gl  fr σ e fr' σ' h, (List.forall_mem_nil _)⟩)) ?_
  intro args x h
  unfold F_CmpF0 at h
  split at h
  · exact (congrArg Tr.run (CmpF0_T _ _)).trans (ite_isW h fun h => by cases h)
  · cases h
noncomputable def G_CmpR0 : GamT := ofL [(26, .pure F_RCompare)]
theorem gok_CmpR0 (gl : Nat → Option Obj) : GamOk Tryd.prog gl (gam G_CmpR0) := (gamOk_cons (sim_RCompare gl) gamOk_nil)
noncomputable def c_CmpR01 : Code := loopC Tryd.f39 2
def I_CmpR01 : LI := ⟨43, [0, 1, 5], fun e => match e with | .ret => [4] | .exit 0 => [0, 1] | _ => [], true⟩
noncomputable def LI_CmpR01 : LpsT := fun r fr σ => .fail
noncomputable def CmpR01_V (vs : List PV) (σ : Store) : Option (PExit × List PV × Store) := lval (lstep tbT G_CmpR0 LI_CmpR01 c_CmpR01 I_CmpR01) vs σ
noncomputable def CmpR01_Tr (a : List (List PV)) (b : List (List PV)) (i : Int) : Tr LR := Tr.ite (iLt i (xLen a)) (Tr.ite (iLt i (xLen b)) (Tr.ite (okPos i) (Tr.ite (okGet [PV.int .i64 0, PV.int .i64 0, PV.str []] a (nNat i)) (Tr.ite (okPos i) (Tr.ite (okGet [PV.int .i64 0, PV.int .i64 0, PV.str []] b (nNat i)) (Tr.ite (iNe (compareR (xInt a (nNat i) 0) (xInt a (nNat i) 1) (xStr a (nNat i) 2) (xInt b (nNat i) 0) (xInt b (nNat i) 1) (xStr b (nNat i) 2)) 0) (Tr.ret (LR.out .ret [PV.int .i64 (compareR (xInt a (nNat i) 0) (xInt a (nNat i) 1) (xStr a (nNat i) 2) (xInt b (nNat i) 0) (xInt b (nNat i) 1) (xStr b (nNat i) 2))] (Store.mk [] [] []))) (Tr.ret (LR.next [PV.sl a .non, PV.sl b .non, PV.int .i64 (iAdd .i64 i 1)] (Store.mk [] [] [])))) Tr.fail) Tr.fail) Tr.fail) Tr.fail) (Tr.ret (LR.out (.exit 0) [PV.sl a .non, PV.sl b .non] (Store.mk [] [] [])))) (Tr.ret (LR.out (.exit 0) [PV.sl a .non, PV.sl b .non] (Store.mk [] [] [])))
theorem CmpR01_T (a : List (List PV)) (b : List (List PV)) (i : Int) : lstep tbT G_CmpR0 LI_CmpR01 c_CmpR01 I_CmpR01 [.sl a .non, .sl b .non, .int .i64 i] ⟨[], [], []⟩ = CmpR01_Tr a b i := by kernel_rfl
theorem CmpR01_E (a : List (List PV)) (b : List (List PV)) (i : Int) : CmpR01_V [.sl a .non, .sl b .non, .int .i64 i] ⟨[], [], []⟩ = lnext CmpR01_V (CmpR01_Tr a b i).run := by unfold CmpR01_V; rw [lval_eq, CmpR01_T]
noncomputable def CmpR01_W (a : List (List PV)) (b : List (List PV)) (i : Int) : Option (PExit × List PV × Store) := CmpR01_V [.sl a .non, .sl b .non, .int .i64 i] ⟨[], [], []⟩
noncomputable def CmpR01_n_0 (a : List (List PV)) (b : List (List PV)) (i : Int) : Int := (gInt (gOut (CmpR01_W a b i) 0))
noncomputable def CmpR01_is0 (a : List (List PV)) (b : List (List PV)) (i : Int) : Bool := isW (CmpR01_W a b i) (.ret, [.int .i64 (CmpR01_n_0 a b i)], ⟨[], [], []⟩)
noncomputable def CmpR01_a_1 (a : List (List PV)) (b : List (List PV)) (i : Int) : List (List PV) := (gRow (gOut (CmpR01_W a b i) 0))
noncomputable def CmpR01_b_1 (a : List (List PV)) (b : List (List PV)) (i : Int) : List (List PV) := (gRow (gOut (CmpR01_W a b i) 1))
noncomputable def CmpR01_is1 (a : List (List PV)) (b : List (List PV)) (i : Int) : Bool := isW (CmpR01_W a b i) ((.exit 0), [.sl (CmpR01_a_1 a b i) .non, .sl (CmpR01_b_1 a b i) .non], ⟨[], [], []⟩)
noncomputable def CmpR01_prop : List PV → Store → Tr (PExit × List PV × Store) | [.sl a .non, .sl b .non, .int .i64 i], ⟨[], [], []⟩ => .ite (CmpR01_is0 a b i) (.ret (.ret, [.int .i64 (CmpR01_n_0 a b i)], ⟨[], [], []⟩)) (.ite (CmpR01_is1 a b i) (.ret ((.exit 0), [.sl (CmpR01_a_1 a b i) .non, .sl (CmpR01_b_1 a b i) .non], ⟨[], [], []⟩)) (.fail)) | _, _ => .fail
theorem CmpR01_ok : ∀ vs σ r, (CmpR01_prop vs σ).run = some r → CmpR01_V vs σ = some r := by
  intro vs σ r h
  unfold CmpR01_prop at h
  split at h
  · exact ite_isW h fun h => ite_isW h fun h => by cases h
  · cases h
theorem loop_CmpR01 (gl : Nat → Option Obj) : ∀ fr σ e fr' σ', (orc I_CmpR01 CmpR01_prop fr σ).run = some (e, fr', σ') → LDoes Tryd.prog gl c_CmpR01 fr σ e fr' σ' := orc_ok tbT_ok (gok_CmpR0 gl ) noMixed (L := LI_CmpR01) (loopOk_none (by kernel_rfl)) (by kernel_rfl) CmpR01_ok
noncomputable def L_CmpR0 : LpsT := fun r fr σ => bif Nat.beq r 2 then orc I_CmpR01 CmpR01_prop fr σ else .fail
noncomputable def CmpR0_Tr (a : List (List PV)) (b : List (List PV)) : Tr PV := Tr.ite (CmpR01_is0 a b 0) (Tr.ret (PV.int .i64 (CmpR01_n_0 a b 0))) (Tr.ite (CmpR01_is1 a b 0) (Tr.ite (iLt (xLen (CmpR01_a_1 a b 0)) (xLen (CmpR01_b_1 a b 0))) (Tr.ret (PV.int .i64 (-1))) (Tr.ite (iLt (xLen (CmpR01_b_1 a b 0)) (xLen (CmpR01_a_1 a b 0))) (Tr.ret (PV.int .i64 1)) (Tr.ret (PV.int .i64 0)))) Tr.fail)
theorem CmpR0_T (a : List (List PV)) (b : List (List PV)) : (tcall tbT G_CmpR0 L_CmpR0 Tryd.f39 [.sl a .non, .sl b .non]).flat = CmpR0_Tr a b := by kernel_rfl
noncomputable def CmpR0_W (a : List (List PV)) (b : List (List PV)) : Option PV := (CmpR0_Tr a b).run
noncomputable def CmpR0_n (a : List (List PV)) (b : List (List PV)) : Int := (gInt (gVal (CmpR0_W a b)))
noncomputable def CmpR0_is0 (a : List (List PV)) (b : List (List PV)) : Bool := isW (CmpR0_W a b) (.int .i64 (CmpR0_n a b))
noncomputable def F_CmpR0 : List PV → Tr PV | [.sl a .non, .sl b .non] => .ite (CmpR0_is0 a b) (.ret (.int .i64 (CmpR0_n a b))) (.fail) | _ => .fail
theorem sim_CmpR0 (gl : Nat → Option Obj) : SimP Tryd.prog gl 39 fun args => (F_CmpR0 args).run := by
  refine SimP.of_flat (G := G_CmpR0) (L := L_CmpR0) tbT_ok (gok_CmpR0 gl ) noMixed Tryd.func39 rfl (by rfl) (by kernel_rfl) (loopOk_all (L := lps L_CmpR0) [(2, c_CmpR01)] (by kernel_rfl) (List.forall_mem_cons.2 ⟨fun fr σ e fr' σ' h => loop_CmpR01 gl  fr σ e fr' σ' h, (List.forall_mem_nil _)⟩)) ?_
  intro args x h
  unfold F_CmpR0 at h
  split at h
  · exact (congrArg Tr.run (CmpR0_T _ _)).trans (ite_isW h fun h => by cases h)
  · cases h
noncomputable def G_TCheck0 : GamT := ofL [(65, .pure F_Check)]
theorem gok_TCheck0 (gl : Nat → Option Obj) : GamOk Tryd.prog gl (gam G_TCheck0) := (gamOk_cons (sim_Check gl) gamOk_nil)
noncomputable def c_TCheck01 : Code := loopC Tryd.f36 4
def I_TCheck01 : LI := ⟨18, [8, 9, 10], fun e => match e with | .ret => [2] | .exit 0 => [] | _ => [], true⟩
noncomputable def LI_TCheck01 : LpsT := fun r fr σ => .fail
noncomputable def TCheck01_V (vs : List PV) (σ : Store) : Option (PExit × List PV × Store) := lval (lstep tbT G_TCheck0 LI_TCheck01 c_TCheck01 I_TCheck01) vs σ
noncomputable def TCheck01_Tr (r : List (List PV)) (n : Int) (n2 : Int) : Tr LR := Tr.ite (iLt n2 n) (Tr.ite (okPos n2) (Tr.ite (okGet [PV.int .i64 0, PV.int .i64 0, PV.str []] r (nNat n2)) (Tr.ite (iNe (checkV (xInt r (nNat n2) 0) (xInt r (nNat n2) 1) (xStr r (nNat n2) 2)) 0) (Tr.ret (LR.out .ret [PV.int .i64 20] (Store.mk [] [] []))) (Tr.ret (LR.next [PV.sl (dropPLL 0 r) .non, PV.int .i64 n, PV.int .i64 (iAdd .i64 n2 1)] (Store.mk [] [] [])))) Tr.fail) Tr.fail) (Tr.ret (LR.out (.exit 0) [] (Store.mk [] [] [])))
theorem TCheck01_T (r : List (List PV)) (n : Int) (n2 : Int) : lstep tbT G_TCheck0 LI_TCheck01 c_TCheck01 I_TCheck01 [.sl r .non, .int .i64 n, .int .i64 n2] ⟨[], [], []⟩ = TCheck01_Tr r n n2 := by kernel_rfl
theorem TCheck01_E (r : List (List PV)) (n : Int) (n2 : Int) : TCheck01_V [.sl r .non, .int .i64 n, .int .i64 n2] ⟨[], [], []⟩ = lnext TCheck01_V (TCheck01_Tr r n n2).run := by unfold TCheck01_V; rw [lval_eq, TCheck01_T]
noncomputable def TCheck01_W (r : List (List PV)) (n : Int) (n2 : Int) : Option (PExit × List PV × Store) := TCheck01_V [.sl r .non, .int .i64 n, .int .i64 n2] ⟨[], [], []⟩
noncomputable def TCheck01_n_0 (r : List (List PV)) (n : Int) (n2 : Int) : Int := (gInt (gOut (TCheck01_W r n n2) 0))
noncomputable def TCheck01_is0 (r : List (List PV)) (n : Int) (n2 : Int) : Bool := isW (TCheck01_W r n n2) (.ret, [.int .i64 (TCheck01_n_0 r n n2)], ⟨[], [], []⟩)
noncomputable def TCheck01_is1 (r : List (List PV)) (n : Int) (n2 : Int) : Bool := isW (TCheck01_W r n n2) ((.exit 0), [], ⟨[], [], []⟩)
noncomputable def TCheck01_prop : List PV → Store → Tr (PExit × List PV × Store) | [.sl r .non, .int .i64 n, .int .i64 n2], ⟨[], [], []⟩ => .ite (TCheck01_is0 r n n2) (.ret (.ret, [.int .i64 (TCheck01_n_0 r n n2)], ⟨[], [], []⟩)) (.ite (TCheck01_is1 r n n2) (.ret ((.exit 0), [], ⟨[], [], []⟩)) (.fail)) | _, _ => .fail
theorem TCheck01_ok : ∀ vs σ r, (TCheck01_prop vs σ).run = some r → TCheck01_V vs σ = some r := by
  intro vs σ r h
  unfold TCheck01_prop at h
  split at h
  · exact ite_isW h fun h => ite_isW h fun h => by cases h
  · cases h
theorem loop_TCheck01 (gl : Nat → Option Obj) : ∀ fr σ e fr' σ', (orc I_TCheck01 TCheck01_prop fr σ).run = some (e, fr', σ') → LDoes Tryd.prog gl c_TCheck01 fr σ e fr' σ' := orc_ok tbT_ok (gok_TCheck0 gl ) noMixed (L := LI_TCheck01) (loopOk_none (by kernel_rfl)) (by kernel_rfl) TCheck01_ok
noncomputable def L_TCheck0 : LpsT := fun r fr σ => bif Nat.beq r 4 then orc I_TCheck01 TCheck01_prop fr σ else .fail
noncomputable def TCheck0_Tr (t : List (List PV)) : Tr PV := Tr.ite (iLt 8 (xLen t)) (Tr.ret (PV.int .i64 20)) (Tr.ite (TCheck01_is0 t (xLen t) 0) (Tr.ret (PV.int .i64 (TCheck01_n_0 t (xLen t) 0))) (Tr.ite (TCheck01_is1 t (xLen t) 0) (Tr.ret (PV.int .i64 0)) Tr.fail))
theorem TCheck0_T (t : List (List PV)) : (tcall tbT G_TCheck0 L_TCheck0 Tryd.f36 [.sl t .non]).flat = TCheck0_Tr t := by kernel_rfl
noncomputable def TCheck0_W (t : List (List PV)) : Option PV := (TCheck0_Tr t).run
noncomputable def TCheck0_n (t : List (List PV)) : Int := (gInt (gVal (TCheck0_W t)))
noncomputable def TCheck0_is0 (t : List (List PV)) : Bool := isW (TCheck0_W t) (.int .i64 (TCheck0_n t))
noncomputable def F_TCheck0 : List PV → Tr PV | [.sl t .non] => .ite (TCheck0_is0 t) (.ret (.int .i64 (TCheck0_n t))) (.fail) | _ => .fail
theorem sim_TCheck0 (gl : Nat → Option Obj) : SimP Tryd.prog gl 36 fun args => (F_TCheck0 args).run := by
  refine SimP.of_flat (G := G_TCheck0) (L := L_TCheck0) tbT_ok (gok_TCheck0 gl ) noMixed Tryd.func36 rfl (by rfl) (by kernel_rfl) (loopOk_all (L := lps L_TCheck0) [(4, c_TCheck01)] (by kernel_rfl) (List.forall_mem_cons.2 ⟨fun fr σ e fr' σ' h => loop_TCheck01 gl  fr σ e fr' σ' h, (List.forall_mem_nil _)⟩)) ?_
  intro args x h
  unfold F_TCheck0 at h
  split at h
  · exact (congrArg Tr.run (TCheck0_T _)).trans (ite_isW h fun h => by cases h)
  · cases h
noncomputable def G_RCheck0 : GamT := ofL [(59, .pure F_Is)]
theorem gok_RCheck0 (gl : Nat → Option Obj) : GamOk Tryd.prog gl (gam G_RCheck0) := (gamOk_cons (sim_Is gl) gamOk_nil)
noncomputable def c_RCheck01 : Code := loopC Tryd.f20 4
def I_RCheck01 : LI := ⟨19, [0, 3], fun e => match e with | .ret => [2] | .exit 0 => [] | _ => [], true⟩
noncomputable def LI_RCheck01 : LpsT := fun r fr σ => .fail
noncomputable def RCheck01_V (vs : List PV) (σ : Store) : Option (PExit × List PV × Store) := lval (lstep tbT G_RCheck0 LI_RCheck01 c_RCheck01 I_RCheck01) vs σ
noncomputable def RCheck01_Tr (t : List (List PV)) (i : Int) : Tr LR := Tr.ite (iLt i (xLen t)) (Tr.ite (okPos i) (Tr.ite (okGet [PV.int .i64 0, PV.int .i64 0, PV.str []] t (nNat i)) (Tr.ite (bNot (isV (xInt t (nNat i) 0) (xInt t (nNat i) 1) (xStr t (nNat i) 2))) (Tr.ret (LR.out .ret [PV.int .i64 20] (Store.mk [] [] []))) (Tr.ret (LR.next [PV.sl t .non, PV.int .i64 (iAdd .i64 i 1)] (Store.mk [] [] [])))) Tr.fail) Tr.fail) (Tr.ret (LR.out (.exit 0) [] (Store.mk [] [] [])))
theorem RCheck01_T (t : List (List PV)) (i : Int) : lstep tbT G_RCheck0 LI_RCheck01 c_RCheck01 I_RCheck01 [.sl t .non, .int .i64 i] ⟨[], [], []⟩ = RCheck01_Tr t i := by kernel_rfl
theorem RCheck01_E (t : List (List PV)) (i : Int) : RCheck01_V [.sl t .non, .int .i64 i] ⟨[], [], []⟩ = lnext RCheck01_V (RCheck01_Tr t i).run := by unfold RCheck01_V; rw [lval_eq, RCheck01_T]
noncomputable def RCheck01_W (t : List (List PV)) (i : Int) : Option (PExit × List PV × Store) := RCheck01_V [.sl t .non, .int .i64 i] ⟨[], [], []⟩
noncomputable def RCheck01_n_0 (t : List (List PV)) (i : Int) : Int := (gInt (gOut (RCheck01_W t i) 0))
noncomputable def RCheck01_is0 (t : List (List PV)) (i : Int) : Bool := isW (RCheck01_W t i) (.ret, [.int .i64 (RCheck01_n_0 t i)], ⟨[], [], []⟩)
noncomputable def RCheck01_is1 (t : List (List PV)) (i : Int) : Bool := isW (RCheck01_W t i) ((.exit 0), [], ⟨[], [], []⟩)
noncomputable def RCheck01_prop : List PV → Store → Tr (PExit × List PV × Store) | [.sl t .non, .int .i64 i], ⟨[], [], []⟩ => .ite (RCheck01_is0 t i) (.ret (.ret, [.int .i64 (RCheck01_n_0 t i)], ⟨[], [], []⟩)) (.ite (RCheck01_is1 t i) (.ret ((.exit 0), [], ⟨[], [], []⟩)) (.fail)) | _, _ => .fail
theorem RCheck01_ok : ∀ vs σ r, (RCheck01_prop vs σ).run = some r → RCheck01_V vs σ = some r := by
  intro vs σ r h
  unfold RCheck01_prop at h
  split at h
  · exact ite_isW h fun h => ite_isW h fun h => by cases h
  · cases h
theorem loop_RCheck01 (gl : Nat → Option Obj) : ∀ fr σ e fr' σ', (orc I_RCheck01 RCheck01_prop fr σ).run = some (e, fr', σ') → LDoes Tryd.prog gl c_RCheck01 fr σ e fr' σ' := orc_ok tbT_ok (gok_RCheck0 gl ) noMixed (L := LI_RCheck01) (loopOk_none (by kernel_rfl)) (by kernel_rfl) RCheck01_ok
noncomputable def L_RCheck0 : LpsT := fun r fr σ => bif Nat.beq r 4 then orc I_RCheck01 RCheck01_prop fr σ else .fail
noncomputable def RCheck0_Tr (t : List (List PV)) : Tr PV := Tr.ite (iLt 8 (xLen t)) (Tr.ret (PV.int .i64 20)) (Tr.ite (RCheck01_is0 t 0) (Tr.ret (PV.int .i64 (RCheck01_n_0 t 0))) (Tr.ite (RCheck01_is1 t 0) (Tr.ret (PV.int .i64 0)) Tr.fail))
theorem RCheck0_T (t : List (List PV)) : (tcall tbT G_RCheck0 L_RCheck0 Tryd.f20 [.sl t .non]).flat = RCheck0_Tr t := by kernel_rfl
noncomputable def RCheck0_W (t : List (List PV)) : Option PV := (RCheck0_Tr t).run
noncomputable def RCheck0_n (t : List (List PV)) : Int := (gInt (gVal (RCheck0_W t)))
noncomputable def RCheck0_is0 (t : List (List PV)) : Bool := isW (RCheck0_W t) (.int .i64 (RCheck0_n t))
noncomputable def F_RCheck0 : List PV → Tr PV | [.sl t .non] => .ite (RCheck0_is0 t) (.ret (.int .i64 (RCheck0_n t))) (.fail) | _ => .fail
theorem sim_RCheck0 (gl : Nat → Option Obj) : SimP Tryd.prog gl 20 fun args => (F_RCheck0 args).run := by
  refine SimP.of_flat (G := G_RCheck0) (L := L_RCheck0) tbT_ok (gok_RCheck0 gl ) noMixed Tryd.func20 rfl (by rfl) (by kernel_rfl) (loopOk_all (L := lps L_RCheck0) [(4, c_RCheck01)] (by kernel_rfl) (List.forall_mem_cons.2 ⟨fun fr σ e fr' σ' h => loop_RCheck01 gl  fr σ e fr' σ' h, (List.forall_mem_nil _)⟩)) ?_
  intro args x h
  unfold F_RCheck0 at h
  split at h
  · exact (congrArg Tr.run (RCheck0_T _)).trans (ite_isW h fun h => by cases h)
  · cases h
noncomputable def G_TTyped0 : GamT := ofL [(66, .pure F_Type)]
theorem gok_TTyped0 (gl : Nat → Option Obj) : GamOk Tryd.prog gl (gam G_TTyped0) := (gamOk_cons (sim_Type gl) gamOk_nil)
noncomputable def c_TTyped01 : Code := loopC Tryd.f37 4
def I_TTyped01 : LI := ⟨37, [1, 14, 15, 16], fun e => match e with | .ret => [4] | .exit 0 => [] | _ => [], true⟩
noncomputable def LI_TTyped01 : LpsT := fun r fr σ => .fail
noncomputable def TTyped01_V (vs : List PV) (σ : Store) : Option (PExit × List PV × Store) := lval (lstep tbT G_TTyped0 LI_TTyped01 c_TTyped01 I_TTyped01) vs σ
noncomputable def TTyped01_Tr (types : List (List PV)) (r : List (List PV)) (n : Int) (n2 : Int) : Tr LR := Tr.ite (iLt n2 n) (Tr.ite (okPos n2) (Tr.ite (okGet [PV.int .i64 0, PV.int .i64 0, PV.str []] r (nNat n2)) (Tr.ite (iNe (checkV (xInt r (nNat n2) 0) (xInt r (nNat n2) 1) (xStr r (nNat n2) 2)) 0) (Tr.ret (LR.out .ret [PV.bool false] (Store.mk [] [] []))) (Tr.ite (okPos n2) (Tr.ite (okGet [PV.int .i64 0] types (nNat n2)) (Tr.ite (iNe (typeV (xInt r (nNat n2) 0) (xInt r (nNat n2) 1) (xStr r (nNat n2) 2)) (xInt types (nNat n2) 0)) (Tr.ret (LR.out .ret [PV.bool false] (Store.mk [] [] []))) (Tr.ret (LR.next [PV.sl (dropPLL 0 types) .non, PV.sl (dropPLL 0 r) .non, PV.int .i64 n, PV.int .i64 (iAdd .i64 n2 1)] (Store.mk [] [] [])))) Tr.fail) Tr.fail)) Tr.fail) Tr.fail) (Tr.ret (LR.out (.exit 0) [] (Store.mk [] [] [])))
theorem TTyped01_T (types : List (List PV)) (r : List (List PV)) (n : Int) (n2 : Int) : lstep tbT G_TTyped0 LI_TTyped01 c_TTyped01 I_TTyped01 [.sl types .non, .sl r .non, .int .i64 n, .int .i64 n2] ⟨[], [], []⟩ = TTyped01_Tr types r n n2 := by kernel_rfl
theorem TTyped01_E (types : List (List PV)) (r : List (List PV)) (n : Int) (n2 : Int) : TTyped01_V [.sl types .non, .sl r .non, .int .i64 n, .int .i64 n2] ⟨[], [], []⟩ = lnext TTyped01_V (TTyped01_Tr types r n n2).run := by unfold TTyped01_V; rw [lval_eq, TTyped01_T]
noncomputable def TTyped01_W (types : List (List PV)) (r : List (List PV)) (n : Int) (n2 : Int) : Option (PExit × List PV × Store) := TTyped01_V [.sl types .non, .sl r .non, .int .i64 n, .int .i64 n2] ⟨[], [], []⟩
noncomputable def TTyped01_b_0 (types : List (List PV)) (r : List (List PV)) (n : Int) (n2 : Int) : Bool := (gBool (gOut (TTyped01_W types r n n2) 0))
noncomputable def TTyped01_is0 (types : List (List PV)) (r : List (List PV)) (n : Int) (n2 : Int) : Bool := isW (TTyped01_W types r n n2) (.ret, [.bool (TTyped01_b_0 types r n n2)], ⟨[], [], []⟩)
noncomputable def TTyped01_is1 (types : List (List PV)) (r : List (List PV)) (n : Int) (n2 : Int) : Bool := isW (TTyped01_W types r n n2) ((.exit 0), [], ⟨[], [], []⟩)
noncomputable def TTyped01_prop : List PV → Store → Tr (PExit × List PV × Store) | [.sl types .non, .sl r .non, .int .i64 n, .int .i64 n2], ⟨[], [], []⟩ => .ite (TTyped01_is0 types r n n2) (.ret (.ret, [.bool (TTyped01_b_0 types r n n2)], ⟨[], [], []⟩)) (.ite (TTyped01_is1 types r n n2) (.ret ((.exit 0), [], ⟨[], [], []⟩)) (.fail)) | _, _ => .fail
theorem TTyped01_ok : ∀ vs σ r, (TTyped01_prop vs σ).run = some r → TTyped01_V vs σ = some r := by
  intro vs σ r h
  unfold TTyped01_prop at h
  split at h
  · exact ite_isW h fun h => ite_isW h fun h => by cases h
  · cases h
theorem loop_TTyped01 (gl : Nat → Option Obj) : ∀ fr σ e fr' σ', (orc I_TTyped01 TTyped01_prop fr σ).run = some (e, fr', σ') → LDoes Tryd.prog gl c_TTyped01 fr σ e fr' σ' := orc_ok tbT_ok (gok_TTyped0 gl ) noMixed (L := LI_TTyped01) (loopOk_none (by kernel_rfl)) (by kernel_rfl) TTyped01_ok
noncomputable def L_TTyped0 : LpsT := fun r fr σ => bif Nat.beq r 4 then orc I_TTyped01 TTyped01_prop fr σ else .fail
noncomputable def TTyped0_Tr (t : List (List PV)) (types : List (List PV)) : Tr PV := Tr.ite (iNe (xLen t) (xLen types)) (Tr.ret (PV.bool false)) (Tr.ite (TTyped01_is0 types t (xLen t) 0) (Tr.ret (PV.bool (TTyped01_b_0 types t (xLen t) 0))) (Tr.ite (TTyped01_is1 types t (xLen t) 0) (Tr.ret (PV.bool true)) Tr.fail))
theorem TTyped0_T (t : List (List PV)) (types : List (List PV)) : (tcall tbT G_TTyped0 L_TTyped0 Tryd.f37 [.sl t .non, .sl types .non]).flat = TTyped0_Tr t types := by kernel_rfl
noncomputable def TTyped0_W (t : List (List PV)) (types : List (List PV)) : Option PV := (TTyped0_Tr t types).run
noncomputable def TTyped0_b (t : List (List PV)) (types : List (List PV)) : Bool := (gBool (gVal (TTyped0_W t types)))
noncomputable def TTyped0_is0 (t : List (List PV)) (types : List (List PV)) : Bool := isW (TTyped0_W t types) (.bool (TTyped0_b t types))
noncomputable def F_TTyped0 : List PV → Tr PV | [.sl t .non, .sl types .non] => .ite (TTyped0_is0 t types) (.ret (.bool (TTyped0_b t types))) (.fail) | _ => .fail
theorem sim_TTyped0 (gl : Nat → Option Obj) : SimP Tryd.prog gl 37 fun args => (F_TTyped0 args).run := by
  refine SimP.of_flat (G := G_TTyped0) (L := L_TTyped0) tbT_ok (gok_TTyped0 gl ) noMixed Tryd.func37 rfl (by rfl) (by kernel_rfl) (loopOk_all (L := lps L_TTyped0) [(4, c_TTyped01)] (by kernel_rfl) (List.forall_mem_cons.2 ⟨fun fr σ e fr' σ' h => loop_TTyped01 gl  fr σ e fr' σ' h, (List.forall_mem_nil _)⟩)) ?_
  intro args x h
  unfold F_TTyped0 at h
  split at h
  · exact (congrArg Tr.run (TTyped0_T _ _)).trans (ite_isW h fun h => by cases h)
  · cases h
noncomputable def G_RTyped0 : GamT := ofL [(67, .pure F_RType)]
theorem gok_RTyped0 (gl : Nat → Option Obj) : GamOk Tryd.prog gl (gam G_RTyped0) := (gamOk_cons (sim_RType gl) gamOk_nil)
noncomputable def c_RTyped01 : Code := loopC Tryd.f38 4
def I_RTyped01 : LI := ⟨37, [0, 1, 5], fun e => match e with | .ret => [4] | .exit 0 => [] | _ => [], true⟩
noncomputable def LI_RTyped01 : LpsT := fun r fr σ => .fail
noncomputable def RTyped01_V (vs : List PV) (σ : Store) : Option (PExit × List PV × Store) := lval (lstep tbT G_RTyped0 LI_RTyped01 c_RTyped01 I_RTyped01) vs σ
noncomputable def RTyped01_Tr (t : List (List PV)) (types : List (List PV)) (i : Int) : Tr LR := Tr.ite (iLt i (xLen t)) (Tr.ite (okPos i) (Tr.ite (okGet [PV.int .i64 0, PV.int .i64 0, PV.str []] t (nNat i)) (Tr.ite (iNe (checkV (xInt t (nNat i) 0) (xInt t (nNat i) 1) (xStr t (nNat i) 2)) 0) (Tr.ret (LR.out .ret [PV.bool false] (Store.mk [] [] []))) (Tr.ite (okPos i) (Tr.ite (okGet [PV.int .i64 0] types (nNat i)) (Tr.ite (iNe (typeV (xInt t (nNat i) 0) (xInt t (nNat i) 1) (xStr t (nNat i) 2)) (xInt types (nNat i) 0)) (Tr.ret (LR.out .ret [PV.bool false] (Store.mk [] [] []))) (Tr.ret (LR.next [PV.sl t .non, PV.sl types .non, PV.int .i64 (iAdd .i64 i 1)] (Store.mk [] [] [])))) Tr.fail) Tr.fail)) Tr.fail) Tr.fail) (Tr.ret (LR.out (.exit 0) [] (Store.mk [] [] [])))
theorem RTyped01_T (t : List (List PV)) (types : List (List PV)) (i : Int) : lstep tbT G_RTyped0 LI_RTyped01 c_RTyped01 I_RTyped01 [.sl t .non, .sl types .non, .int .i64 i] ⟨[], [], []⟩ = RTyped01_Tr t types i := by kernel_rfl
theorem RTyped01_E (t : List (List PV)) (types : List (List PV)) (i : Int) : RTyped01_V [.sl t .non, .sl types .non, .int .i64 i] ⟨[], [], []⟩ = lnext RTyped01_V (RTyped01_Tr t types i).run := by unfold RTyped01_V; rw [lval_eq, RTyped01_T]
noncomputable def RTyped01_W (t : List (List PV)) (types : List (List PV)) (i : Int) : Option (PExit × List PV × Store) := RTyped01_V [.sl t .non, .sl types .non, .int .i64 i] ⟨[], [], []⟩
noncomputable def RTyped01_b_0 (t : List (List PV)) (types : List (List PV)) (i : Int) : Bool := (gBool (gOut (RTyped01_W t types i) 0))
noncomputable def RTyped01_is0 (t : List (List PV)) (types : List (List PV)) (i : Int) : Bool := isW (RTyped01_W t types i) (.ret, [.bool (RTyped01_b_0 t types i)], ⟨[], [], []⟩)
noncomputable def RTyped01_is1 (t : List (List PV)) (types : List (List PV)) (i : Int) : Bool := isW (RTyped01_W t types i) ((.exit 0), [], ⟨[], [], []⟩)
noncomputable def RTyped01_prop : List PV → Store → Tr (PExit × List PV × Store) | [.sl t .non, .sl types .non, .int .i64 i], ⟨[], [], []⟩ => .ite (RTyped01_is0 t types i) (.ret (.ret, [.bool (RTyped01_b_0 t types i)], ⟨[], [], []⟩)) (.ite (RTyped01_is1 t types i) (.ret ((.exit 0), [], ⟨[], [], []⟩)) (.fail)) | _, _ => .fail
theorem RTyped01_ok : ∀ vs σ r, (RTyped01_prop vs σ).run = some r → RTyped01_V vs σ = some r := by
  intro vs σ r h
  unfold RTyped01_prop at h
  split at h
  · exact ite_isW h fun h => ite_isW h fun h => by cases h
  · cases h
theorem loop_RTyped01 (gl : Nat → Option Obj) : ∀ fr σ e fr' σ', (orc I_RTyped01 RTyped01_prop fr σ).run = some (e, fr', σ') → LDoes Tryd.prog gl c_RTyped01 fr σ e fr' σ' := orc_ok tbT_ok (gok_RTyped0 gl ) noMixed (L := LI_RTyped01) (loopOk_none (by kernel_rfl)) (by kernel_rfl) RTyped01_ok
noncomputable def L_RTyped0 : LpsT := fun r fr σ => bif Nat.beq r 4 then orc I_RTyped01 RTyped01_prop fr σ else .fail
noncomputable def RTyped0_Tr (t : List (List PV)) (types : List (List PV)) : Tr PV := Tr.ite (iNe (xLen t) (xLen types)) (Tr.ret (PV.bool false)) (Tr.ite (RTyped01_is0 t types 0) (Tr.ret (PV.bool (RTyped01_b_0 t types 0))) (Tr.ite (RTyped01_is1 t types 0) (Tr.ret (PV.bool true)) Tr.fail))
theorem RTyped0_T (t : List (List PV)) (types : List (List PV)) : (tcall tbT G_RTyped0 L_RTyped0 Tryd.f38 [.sl t .non, .sl types .non]).flat = RTyped0_Tr t types := by kernel_rfl
noncomputable def RTyped0_W (t : List (List PV)) (types : List (List PV)) : Option PV := (RTyped0_Tr t types).run
noncomputable def RTyped0_b (t : List (List PV)) (types : List (List PV)) : Bool := (gBool (gVal (RTyped0_W t types)))
noncomputable def RTyped0_is0 (t : List (List PV)) (types : List (List PV)) : Bool := isW (RTyped0_W t types) (.bool (RTyped0_b t types))
noncomputable def F_RTyped0 : List PV → Tr PV | [.sl t .non, .sl types .non] => .ite (RTyped0_is0 t types) (.ret (.bool (RTyped0_b t types))) (.fail) | _ => .fail
theorem sim_RTyped0 (gl : Nat → Option Obj) : SimP Tryd.prog gl 38 fun args => (F_RTyped0 args).run := by
  refine SimP.of_flat (G := G_RTyped0) (L := L_RTyped0) tbT_ok (gok_RTyped0 gl ) noMixed Tryd.func38 rfl (by rfl) (by kernel_rfl) (loopOk_all (L := lps L_RTyped0) [(4, c_RTyped01)] (by kernel_rfl) (List.forall_mem_cons.2 ⟨fun fr σ e fr' σ' h => loop_RTyped01 gl  fr σ e fr' σ' h, (List.forall_mem_nil _)⟩)) ?_
  intro args x h
  unfold F_RTyped0 at h
  split at h
  · exact (congrArg Tr.run (RTyped0_T _ _)).trans (ite_isW h fun h => by cases h)
  · cases h
noncomputable def G_cut0 : GamT := ofL []
theorem gok_cut0 (gl : Nat → Option Obj) : GamOk Tryd.prog gl (gam G_cut0) := gamOk_nil
noncomputable def L_cut0 : LpsT := fun r fr σ => .fail
noncomputable def cut0_Tr (t : List (List PV)) : Tr PV := Tr.ite (iLt 20 (xLen t)) (Tr.ite (okSub true (okPos 20) 0 (nNat 20) (nXs t)) (Tr.ite (okSize t 3) (Tr.ret (PV.sl (shutLL (xSub t 0 (nNat 20))) .non)) Tr.fail) Tr.fail) (Tr.ret (PV.sl (shutLL t) .non))
theorem cut0_T (t : List (List PV)) : (tcall tbT G_cut0 L_cut0 Tryd.f15 [.sl t .non]).flat = cut0_Tr t := by kernel_rfl
noncomputable def cut0_W (t : List (List PV)) : Option PV := (cut0_Tr t).run
noncomputable def cut0_r (t : List (List PV)) : List (List PV) := (gRow (gVal (cut0_W t)))
noncomputable def cut0_is0 (t : List (List PV)) : Bool := isW (cut0_W t) (.sl (cut0_r t) .non)
noncomputable def F_cut0 : List PV → Tr PV | [.sl t .non] => .ite (cut0_is0 t) (.ret (.sl (cut0_r t) .non)) (.fail) | _ => .fail
theorem sim_cut0 (gl : Nat → Option Obj) : SimP Tryd.prog gl 15 fun args => (F_cut0 args).run := by
  refine SimP.of_flat (G := G_cut0) (L := L_cut0) tbT_ok (gok_cut0 gl ) noMixed Tryd.func15 rfl (by rfl) (by kernel_rfl) (loopOk_none (by kernel_rfl)) ?_
  intro args x h
  unfold F_cut0 at h
  split at h
  · exact (congrArg Tr.run (cut0_T _)).trans (ite_isW h fun h => by cases h)
  · cases h
noncomputable def G_term0 : GamT := ofL [(65, .pure F_Check)]
theorem gok_term0 (gl : Nat → Option Obj) : GamOk Tryd.prog gl (gam G_term0) := (gamOk_cons (sim_Check gl) gamOk_nil)
noncomputable def L_term0 : LpsT := fun r fr σ => .fail
noncomputable def term0_Tr (t : Int) (t2 : List UInt8) (t3 : Int) (t4 : Int) (t5 : List UInt8) : Tr PV := Tr.ite (iEq t 2) (Tr.ite (sEq t2 []) (Tr.ret (PV.bool (iEq (checkV t3 t4 t5) 0))) (Tr.ret (PV.bool false))) (Tr.ite (iEq t 1) (Tr.ite (iLe 1 (sLen t2)) (Tr.ite (iLe (sLen t2) 64) (Tr.ret (PV.bool (bAnd (iEq t3 0) (bAnd (iEq t4 0) (bAnd (sEq t5 []) true))))) (Tr.ret (PV.bool false))) (Tr.ret (PV.bool false))) (Tr.ite (iEq t 3) (Tr.ite (sEq t2 []) (Tr.ret (PV.bool (bAnd (iEq t3 0) (bAnd (iEq t4 0) (bAnd (sEq t5 []) true))))) (Tr.ret (PV.bool false))) (Tr.ret (PV.bool false))))
theorem term0_T (t : Int) (t2 : List UInt8) (t3 : Int) (t4 : Int) (t5 : List UInt8) : (tcall tbT G_term0 L_term0 Tryd.f63 [.agg [.int .i64 t, .str t2, .int .i64 t3, .int .i64 t4, .str t5]]).flat = term0_Tr t t2 t3 t4 t5 := by kernel_rfl
noncomputable def term0_W (t : Int) (t2 : List UInt8) (t3 : Int) (t4 : Int) (t5 : List UInt8) : Option PV := (term0_Tr t t2 t3 t4 t5).run
noncomputable def term0_b (t : Int) (t2 : List UInt8) (t3 : Int) (t4 : Int) (t5 : List UInt8) : Bool := (gBool (gVal (term0_W t t2 t3 t4 t5)))
noncomputable def term0_is0 (t : Int) (t2 : List UInt8) (t3 : Int) (t4 : Int) (t5 : List UInt8) : Bool := isW (term0_W t t2 t3 t4 t5) (.bool (term0_b t t2 t3 t4 t5))
noncomputable def F_term0 : List PV → Tr PV | [.agg [.int .i64 t, .str t2, .int .i64 t3, .int .i64 t4, .str t5]] => .ite (term0_is0 t t2 t3 t4 t5) (.ret (.bool (term0_b t t2 t3 t4 t5))) (.fail) | _ => .fail
theorem sim_term0 (gl : Nat → Option Obj) : SimP Tryd.prog gl 63 fun args => (F_term0 args).run := by
  refine SimP.of_flat (G := G_term0) (L := L_term0) tbT_ok (gok_term0 gl ) noMixed Tryd.func63 rfl (by rfl) (by kernel_rfl) (loopOk_none (by kernel_rfl)) ?_
  intro args x h
  unfold F_term0 at h
  split at h
  · exact (congrArg Tr.run (term0_T _ _ _ _ _)).trans (ite_isW h fun h => by cases h)
  · cases h
noncomputable def G_RPat0 : GamT := ofL [(59, .pure F_Is)]
theorem gok_RPat0 (gl : Nat → Option Obj) : GamOk Tryd.prog gl (gam G_RPat0) := (gamOk_cons (sim_Is gl) gamOk_nil)
noncomputable def c_RPat01 : Code := loopC Tryd.f29 3
def I_RPat01 : LI := ⟨65, [0, 3, 4], fun e => match e with | .exit 0 => [3] | _ => [], true⟩
noncomputable def LI_RPat01 : LpsT := fun r fr σ => .fail
noncomputable def RPat01_V (vs : List PV) (σ : Store) : Option (PExit × List PV × Store) := lval (lstep tbT G_RPat0 LI_RPat01 c_RPat01 I_RPat01) vs σ
noncomputable def RPat01_Tr (r : List (List PV)) (b : Bool) (n : Int) : Tr LR := Tr.ite (iLt n (xLen r)) (Tr.ite b (Tr.ite (okPos n) (Tr.ite (okGet [PV.int .i64 0, PV.str [], PV.int .i64 0, PV.int .i64 0, PV.str []] r (nNat n)) (Tr.ite (iEq (xInt r (nNat n) 0) 2) (Tr.ite (isV (xInt r (nNat n) 2) (xInt r (nNat n) 3) (xStr r (nNat n) 4)) (Tr.ret (LR.next [PV.sl (dropPLL 0 r) .non, PV.bool (sEq (xStr r (nNat n) 1) []), PV.int .i64 (iAdd .i64 n 1)] (Store.mk [] [] []))) (Tr.ret (LR.next [PV.sl (dropPLL 0 r) .non, PV.bool false, PV.int .i64 (iAdd .i64 n 1)] (Store.mk [] [] [])))) (Tr.ite (iEq (xInt r (nNat n) 0) 1) (Tr.ite (iLe 1 (sLen (xStr r (nNat n) 1))) (Tr.ite (iLe (sLen (xStr r (nNat n) 1)) 64) (Tr.ret (LR.next [PV.sl (dropPLL 0 r) .non, PV.bool (bAnd (iEq (xInt r (nNat n) 2) 0) (bAnd (iEq (xInt r (nNat n) 3) 0) (bAnd (sEq (xStr r (nNat n) 4) []) true))), PV.int .i64 (iAdd .i64 n 1)] (Store.mk [] [] []))) (Tr.ret (LR.next [PV.sl (dropPLL 0 r) .non, PV.bool false, PV.int .i64 (iAdd .i64 n 1)] (Store.mk [] [] [])))) (Tr.ret (LR.next [PV.sl (dropPLL 0 r) .non, PV.bool false, PV.int .i64 (iAdd .i64 n 1)] (Store.mk [] [] [])))) (Tr.ite (iEq (xInt r (nNat n) 0) 3) (Tr.ite (sEq (xStr r (nNat n) 1) []) (Tr.ret (LR.next [PV.sl (dropPLL 0 r) .non, PV.bool (bAnd (iEq (xInt r (nNat n) 2) 0) (bAnd (iEq (xInt r (nNat n) 3) 0) (bAnd (sEq (xStr r (nNat n) 4) []) true))), PV.int .i64 (iAdd .i64 n 1)] (Store.mk [] [] []))) (Tr.ret (LR.next [PV.sl (dropPLL 0 r) .non, PV.bool false, PV.int .i64 (iAdd .i64 n 1)] (Store.mk [] [] [])))) (Tr.ret (LR.next [PV.sl (dropPLL 0 r) .non, PV.bool false, PV.int .i64 (iAdd .i64 n 1)] (Store.mk [] [] [])))))) Tr.fail) Tr.fail) (Tr.ret (LR.out (.exit 0) [PV.bool b] (Store.mk [] [] [])))) (Tr.ret (LR.out (.exit 0) [PV.bool b] (Store.mk [] [] [])))
theorem RPat01_T (r : List (List PV)) (b : Bool) (n : Int) : lstep tbT G_RPat0 LI_RPat01 c_RPat01 I_RPat01 [.sl r .non, .bool b, .int .i64 n] ⟨[], [], []⟩ = RPat01_Tr r b n := by kernel_rfl
theorem RPat01_E (r : List (List PV)) (b : Bool) (n : Int) : RPat01_V [.sl r .non, .bool b, .int .i64 n] ⟨[], [], []⟩ = lnext RPat01_V (RPat01_Tr r b n).run := by unfold RPat01_V; rw [lval_eq, RPat01_T]
noncomputable def RPat01_W (r : List (List PV)) (b : Bool) (n : Int) : Option (PExit × List PV × Store) := RPat01_V [.sl r .non, .bool b, .int .i64 n] ⟨[], [], []⟩
noncomputable def RPat01_b (r : List (List PV)) (b : Bool) (n : Int) : Bool := (gBool (gOut (RPat01_W r b n) 0))
noncomputable def RPat01_is0 (r : List (List PV)) (b : Bool) (n : Int) : Bool := isW (RPat01_W r b n) ((.exit 0), [.bool (RPat01_b r b n)], ⟨[], [], []⟩)
noncomputable def RPat01_prop : List PV → Store → Tr (PExit × List PV × Store) | [.sl r .non, .bool b, .int .i64 n], ⟨[], [], []⟩ => .ite (RPat01_is0 r b n) (.ret ((.exit 0), [.bool (RPat01_b r b n)], ⟨[], [], []⟩)) (.fail) | _, _ => .fail
theorem RPat01_ok : ∀ vs σ r, (RPat01_prop vs σ).run = some r → RPat01_V vs σ = some r := by
  intro vs σ r h
  unfold RPat01_prop at h
  split at h
  · exact ite_isW h fun h => by cases h
  · cases h
theorem loop_RPat01 (gl : Nat → Option Obj) : ∀ fr σ e fr' σ', (orc I_RPat01 RPat01_prop fr σ).run = some (e, fr', σ') → LDoes Tryd.prog gl c_RPat01 fr σ e fr' σ' := orc_ok tbT_ok (gok_RPat0 gl ) noMixed (L := LI_RPat01) (loopOk_none (by kernel_rfl)) (by kernel_rfl) RPat01_ok
noncomputable def L_RPat0 : LpsT := fun r fr σ => bif Nat.beq r 3 then orc I_RPat01 RPat01_prop fr σ else .fail
noncomputable def RPat0_Tr (v : List (List PV)) : Tr PV := Tr.ite (RPat01_is0 v (iLe (xLen v) 8) 0) (Tr.ite (bNot (RPat01_b v (iLe (xLen v) 8) 0)) (Tr.ret (PV.int .i64 22)) (Tr.ret (PV.int .i64 0))) Tr.fail
theorem RPat0_T (v : List (List PV)) : (tcall tbT G_RPat0 L_RPat0 Tryd.f29 [.sl v .non]).flat = RPat0_Tr v := by kernel_rfl
noncomputable def RPat0_W (v : List (List PV)) : Option PV := (RPat0_Tr v).run
noncomputable def RPat0_n (v : List (List PV)) : Int := (gInt (gVal (RPat0_W v)))
noncomputable def RPat0_is0 (v : List (List PV)) : Bool := isW (RPat0_W v) (.int .i64 (RPat0_n v))
noncomputable def F_RPat0 : List PV → Tr PV | [.sl v .non] => .ite (RPat0_is0 v) (.ret (.int .i64 (RPat0_n v))) (.fail) | _ => .fail
theorem sim_RPat0 (gl : Nat → Option Obj) : SimP Tryd.prog gl 29 fun args => (F_RPat0 args).run := by
  refine SimP.of_flat (G := G_RPat0) (L := L_RPat0) tbT_ok (gok_RPat0 gl ) noMixed Tryd.func29 rfl (by rfl) (by kernel_rfl) (loopOk_all (L := lps L_RPat0) [(3, c_RPat01)] (by kernel_rfl) (List.forall_mem_cons.2 ⟨fun fr σ e fr' σ' h => loop_RPat01 gl  fr σ e fr' σ' h, (List.forall_mem_nil _)⟩)) ?_
  intro args x h
  unfold F_RPat0 at h
  split at h
  · exact (congrArg Tr.run (RPat0_T _)).trans (ite_isW h fun h => by cases h)
  · cases h
noncomputable def G_mcl : GamT := ofL []
theorem gok_mcl (gl : Nat → Option Obj) : GamOk Tryd.prog gl (gam G_mcl) := gamOk_nil
noncomputable def L_mcl : LpsT := fun r fr σ => .fail
noncomputable def mcl_Tr (b : List UInt8) (k : Int) (n : Int) (s : List UInt8) (ka : Int) (nm : List UInt8) (kb : Int) (kc : Int) (kd : List UInt8) : Tr PV := Tr.ret (PV.bool (sEq b nm))
theorem mcl_T (b : List UInt8) (k : Int) (n : Int) (s : List UInt8) (ka : Int) (nm : List UInt8) (kb : Int) (kc : Int) (kd : List UInt8) : (tcall tbT G_mcl L_mcl Tryd.f58 [.agg [.str b, .int .i64 k, .int .i64 n, .str s], .ref [.int .i64 ka, .str nm, .int .i64 kb, .int .i64 kc, .str kd]]).flat = mcl_Tr b k n s ka nm kb kc kd := by kernel_rfl
noncomputable def F_mcl : List PV → Tr PV | [.agg [.str b, .int .i64 k, .int .i64 n, .str s], .ref [.int .i64 ka, .str nm, .int .i64 kb, .int .i64 kc, .str kd]] => mcl_Tr b k n s ka nm kb kc kd | _ => .fail
theorem sim_mcl (gl : Nat → Option Obj) : SimP Tryd.prog gl 58 fun args => (F_mcl args).run := by
  refine SimP.of_flat (G := G_mcl) (L := L_mcl) tbT_ok (gok_mcl gl ) noMixed Tryd.func58 rfl (by rfl) (by kernel_rfl) (loopOk_none (by kernel_rfl)) ?_
  intro args x h
  unfold F_mcl at h
  split at h
  · exact (congrArg Tr.run (mcl_T _ _ _ _ _ _ _ _ _)).trans h
  · cases h
noncomputable def G_Idx0 : GamT := ofL [(58, .pure F_mcl)]
theorem gok_Idx0 (gl : Nat → Option Obj) : GamOk Tryd.prog gl (gam G_Idx0) := (gamOk_cons (sim_mcl gl) gamOk_nil)
noncomputable def c_Idx01 : Code := loopC Tryd.f57 2
def I_Idx01 : LI := ⟨19, [0, 1, 7, 8], fun e => match e with | .ret => [4] | .exit 0 => [] | _ => [], true⟩
noncomputable def LI_Idx01 : LpsT := fun r fr σ => .fail
noncomputable def Idx01_V (vs : List PV) (σ : Store) : Option (PExit × List PV × Store) := lval (lstep tbT G_Idx0 LI_Idx01 c_Idx01 I_Idx01) vs σ
noncomputable def Idx01_Tr (s : List (List PV)) (f : Int) (f2 : List UInt8) (f3 : Int) (f4 : Int) (f5 : List UInt8) (n : Int) (n2 : Int) : Tr LR := Tr.ite (iLt n2 n) (Tr.ite (okPos n2) (Tr.ite (okGet [PV.str [], PV.int .i64 0, PV.int .i64 0, PV.str []] s (nNat n2)) (Tr.ite (sEq (xStr s (nNat n2) 0) f2) (Tr.ret (LR.out .ret [PV.int .i64 n2] (Store.mk [] [] []))) (Tr.ret (LR.next [PV.sl s .non, PV.fn 58 [PV.ref [PV.int .i64 f, PV.str f2, PV.int .i64 f3, PV.int .i64 f4, PV.str f5]], PV.int .i64 n, PV.int .i64 (iAdd .i64 n2 1)] (Store.mk [] [] [])))) Tr.fail) Tr.fail) (Tr.ret (LR.out (.exit 0) [] (Store.mk [] [] [])))
theorem Idx01_T (s : List (List PV)) (f : Int) (f2 : List UInt8) (f3 : Int) (f4 : Int) (f5 : List UInt8) (n : Int) (n2 : Int) : lstep tbT G_Idx0 LI_Idx01 c_Idx01 I_Idx01 [.sl s .non, .fn 58 [.ref [.int .i64 f, .str f2, .int .i64 f3, .int .i64 f4, .str f5]], .int .i64 n, .int .i64 n2] ⟨[], [], []⟩ = Idx01_Tr s f f2 f3 f4 f5 n n2 := by kernel_rfl
theorem Idx01_E (s : List (List PV)) (f : Int) (f2 : List UInt8) (f3 : Int) (f4 : Int) (f5 : List UInt8) (n : Int) (n2 : Int) : Idx01_V [.sl s .non, .fn 58 [.ref [.int .i64 f, .str f2, .int .i64 f3, .int .i64 f4, .str f5]], .int .i64 n, .int .i64 n2] ⟨[], [], []⟩ = lnext Idx01_V (Idx01_Tr s f f2 f3 f4 f5 n n2).run := by unfold Idx01_V; rw [lval_eq, Idx01_T]
noncomputable def Idx01_W (s : List (List PV)) (f : Int) (f2 : List UInt8) (f3 : Int) (f4 : Int) (f5 : List UInt8) (n : Int) (n2 : Int) : Option (PExit × List PV × Store) := Idx01_V [.sl s .non, .fn 58 [.ref [.int .i64 f, .str f2, .int .i64 f3, .int .i64 f4, .str f5]], .int .i64 n, .int .i64 n2] ⟨[], [], []⟩
noncomputable def Idx01_n_0 (s : List (List PV)) (f : Int) (f2 : List UInt8) (f3 : Int) (f4 : Int) (f5 : List UInt8) (n : Int) (n2 : Int) : Int := (gInt (gOut (Idx01_W s f f2 f3 f4 f5 n n2) 0))
noncomputable def Idx01_is0 (s : List (List PV)) (f : Int) (f2 : List UInt8) (f3 : Int) (f4 : Int) (f5 : List UInt8) (n : Int) (n2 : Int) : Bool := isW (Idx01_W s f f2 f3 f4 f5 n n2) (.ret, [.int .i64 (Idx01_n_0 s f f2 f3 f4 f5 n n2)], ⟨[], [], []⟩)
noncomputable def Idx01_is1 (s : List (List PV)) (f : Int) (f2 : List UInt8) (f3 : Int) (f4 : Int) (f5 : List UInt8) (n : Int) (n2 : Int) : Bool := isW (Idx01_W s f f2 f3 f4 f5 n n2) ((.exit 0), [], ⟨[], [], []⟩)
noncomputable def Idx01_prop : List PV → Store → Tr (PExit × List PV × Store) | [.sl s .non, .fn 58 [.ref [.int .i64 f, .str f2, .int .i64 f3, .int .i64 f4, .str f5]], .int .i64 n, .int .i64 n2], ⟨[], [], []⟩ => .ite (Idx01_is0 s f f2 f3 f4 f5 n n2) (.ret (.ret, [.int .i64 (Idx01_n_0 s f f2 f3 f4 f5 n n2)], ⟨[], [], []⟩)) (.ite (Idx01_is1 s f f2 f3 f4 f5 n n2) (.ret ((.exit 0), [], ⟨[], [], []⟩)) (.fail)) | _, _ => .fail
theorem Idx01_ok : ∀ vs σ r, (Idx01_prop vs σ).run = some r → Idx01_V vs σ = some r := by
  intro vs σ r h
  unfold Idx01_prop at h
  split at h
  · exact ite_isW h fun h => ite_isW h fun h => by cases h
  · cases h
theorem loop_Idx01 (gl : Nat → Option Obj) : ∀ fr σ e fr' σ', (orc I_Idx01 Idx01_prop fr σ).run = some (e, fr', σ') → LDoes Tryd.prog gl c_Idx01 fr σ e fr' σ' := orc_ok tbT_ok (gok_Idx0 gl ) noMixed (L := LI_Idx01) (loopOk_none (by kernel_rfl)) (by kernel_rfl) Idx01_ok
noncomputable def L_Idx0 : LpsT := fun r fr σ => bif Nat.beq r 2 then orc I_Idx01 Idx01_prop fr σ else .fail
noncomputable def Idx0_Tr (a : List (List PV)) (ka : Int) (nm : List UInt8) (kb : Int) (kc : Int) (kd : List UInt8) : Tr PV := Tr.ite (Idx01_is0 a ka nm kb kc kd (xLen a) 0) (Tr.ret (PV.int .i64 (Idx01_n_0 a ka nm kb kc kd (xLen a) 0))) (Tr.ite (Idx01_is1 a ka nm kb kc kd (xLen a) 0) (Tr.ret (PV.int .i64 (-1))) Tr.fail)
theorem Idx0_T (a : List (List PV)) (ka : Int) (nm : List UInt8) (kb : Int) (kc : Int) (kd : List UInt8) : (tcall tbT G_Idx0 L_Idx0 Tryd.f57 [.sl a .non, .fn 58 [.ref [.int .i64 ka, .str nm, .int .i64 kb, .int .i64 kc, .str kd]]]).flat = Idx0_Tr a ka nm kb kc kd := by kernel_rfl
noncomputable def Idx0_W (a : List (List PV)) (ka : Int) (nm : List UInt8) (kb : Int) (kc : Int) (kd : List UInt8) : Option PV := (Idx0_Tr a ka nm kb kc kd).run
noncomputable def Idx0_n (a : List (List PV)) (ka : Int) (nm : List UInt8) (kb : Int) (kc : Int) (kd : List UInt8) : Int := (gInt (gVal (Idx0_W a ka nm kb kc kd)))
noncomputable def Idx0_is0 (a : List (List PV)) (ka : Int) (nm : List UInt8) (kb : Int) (kc : Int) (kd : List UInt8) : Bool := isW (Idx0_W a ka nm kb kc kd) (.int .i64 (Idx0_n a ka nm kb kc kd))
noncomputable def F_Idx0 : List PV → Tr PV | [.sl a .non, .fn 58 [.ref [.int .i64 ka, .str nm, .int .i64 kb, .int .i64 kc, .str kd]]] => .ite (Idx0_is0 a ka nm kb kc kd) (.ret (.int .i64 (Idx0_n a ka nm kb kc kd))) (.fail) | _ => .fail
theorem sim_Idx0 (gl : Nat → Option Obj) : SimP Tryd.prog gl 57 fun args => (F_Idx0 args).run := by
  refine SimP.of_flat (G := G_Idx0) (L := L_Idx0) tbT_ok (gok_Idx0 gl ) noMixed Tryd.func57 rfl (by rfl) (by kernel_rfl) (loopOk_all (L := lps L_Idx0) [(2, c_Idx01)] (by kernel_rfl) (List.forall_mem_cons.2 ⟨fun fr σ e fr' σ' h => loop_Idx01 gl  fr σ e fr' σ' h, (List.forall_mem_nil _)⟩)) ?_
  intro args x h
  unfold F_Idx0 at h
  split at h
  · exact (congrArg Tr.run (Idx0_T _ _ _ _ _ _)).trans (ite_isW h fun h => by cases h)
  · cases h
noncomputable def G_Find0 : GamT := ofL []
theorem gok_Find0 (gl : Nat → Option Obj) : GamOk Tryd.prog gl (gam G_Find0) := gamOk_nil
noncomputable def c_Find01 : Code := loopC Tryd.f19 2
def I_Find01 : LI := ⟨26, [0, 1, 4, 6], fun e => match e with | .ret => [4, 5] | .exit 0 => [4] | _ => [], true⟩
noncomputable def LI_Find01 : LpsT := fun r fr σ => .fail
noncomputable def Find01_V (vs : List PV) (σ : Store) : Option (PExit × List PV × Store) := lval (lstep tbT G_Find0 LI_Find01 c_Find01 I_Find01) vs σ
noncomputable def Find01_Tr (l : List (List PV)) (name : List UInt8) (i : Int) (n : Int) (n2 : Int) (s : List UInt8) : Tr LR := Tr.ite (iLt i (xLen l)) (Tr.ite (okPos i) (Tr.ite (okGet [PV.str [], PV.int .i64 0, PV.int .i64 0, PV.str []] l (nNat i)) (Tr.ite (sEq (xStr l (nNat i) 0) name) (Tr.ite (okPos i) (Tr.ite (okGet [PV.str [], PV.int .i64 0, PV.int .i64 0, PV.str []] l (nNat i)) (Tr.ret (LR.out .ret [PV.ptr 0 0, PV.bool true] (Store.mk [[PV.int .i64 (xInt l (nNat i) 1), PV.int .i64 (xInt l (nNat i) 2), PV.str (xStr l (nNat i) 3)]] [] [36]))) Tr.fail) Tr.fail) (Tr.ret (LR.next [PV.sl l .non, PV.str name, PV.ptr 0 0, PV.int .i64 (iAdd .i64 i 1)] (Store.mk [[PV.int .i64 n, PV.int .i64 n2, PV.str s]] [] [36])))) Tr.fail) Tr.fail) (Tr.ret (LR.out (.exit 0) [PV.ptr 0 0] (Store.mk [[PV.int .i64 n, PV.int .i64 n2, PV.str s]] [] [36])))
theorem Find01_T (l : List (List PV)) (name : List UInt8) (i : Int) (n : Int) (n2 : Int) (s : List UInt8) : lstep tbT G_Find0 LI_Find01 c_Find01 I_Find01 [.sl l .non, .str name, .ptr 0 0, .int .i64 i] ⟨[[.int .i64 n, .int .i64 n2, .str s]], [], [36]⟩ = Find01_Tr l name i n n2 s := by kernel_rfl
theorem Find01_E (l : List (List PV)) (name : List UInt8) (i : Int) (n : Int) (n2 : Int) (s : List UInt8) : Find01_V [.sl l .non, .str name, .ptr 0 0, .int .i64 i] ⟨[[.int .i64 n, .int .i64 n2, .str s]], [], [36]⟩ = lnext Find01_V (Find01_Tr l name i n n2 s).run := by unfold Find01_V; rw [lval_eq, Find01_T]
noncomputable def Find01_W (l : List (List PV)) (name : List UInt8) (i : Int) (n : Int) (n2 : Int) (s : List UInt8) : Option (PExit × List PV × Store) := Find01_V [.sl l .non, .str name, .ptr 0 0, .int .i64 i] ⟨[[.int .i64 n, .int .i64 n2, .str s]], [], [36]⟩
noncomputable def Find01_b_0 (l : List (List PV)) (name : List UInt8) (i : Int) (n : Int) (n2 : Int) (s : List UInt8) : Bool := (gBool (gOut (Find01_W l name i n n2 s) 1))
noncomputable def Find01_n_0 (l : List (List PV)) (name : List UInt8) (i : Int) (n : Int) (n2 : Int) (s : List UInt8) : Int := (gInt (gAt (gObj (Find01_W l name i n n2 s) 0) 0))
noncomputable def Find01_n2_0 (l : List (List PV)) (name : List UInt8) (i : Int) (n : Int) (n2 : Int) (s : List UInt8) : Int := (gInt (gAt (gObj (Find01_W l name i n n2 s) 0) 1))
noncomputable def Find01_s_0 (l : List (List PV)) (name : List UInt8) (i : Int) (n : Int) (n2 : Int) (s : List UInt8) : List UInt8 := (gStr (gAt (gObj (Find01_W l name i n n2 s) 0) 2))
noncomputable def Find01_is0 (l : List (List PV)) (name : List UInt8) (i : Int) (n : Int) (n2 : Int) (s : List UInt8) : Bool := isW (Find01_W l name i n n2 s) (.ret, [.ptr 0 0, .bool (Find01_b_0 l name i n n2 s)], ⟨[[.int .i64 (Find01_n_0 l name i n n2 s), .int .i64 (Find01_n2_0 l name i n n2 s), .str (Find01_s_0 l name i n n2 s)]], [], [36]⟩)
noncomputable def Find01_n_1 (l : List (List PV)) (name : List UInt8) (i : Int) (n : Int) (n2 : Int) (s : List UInt8) : Int := (gInt (gAt (gObj (Find01_W l name i n n2 s) 0) 0))
noncomputable def Find01_n2_1 (l : List (List PV)) (name : List UInt8) (i : Int) (n : Int) (n2 : Int) (s : List UInt8) : Int := (gInt (gAt (gObj (Find01_W l name i n n2 s) 0) 1))
noncomputable def Find01_s_1 (l : List (List PV)) (name : List UInt8) (i : Int) (n : Int) (n2 : Int) (s : List UInt8) : List UInt8 := (gStr (gAt (gObj (Find01_W l name i n n2 s) 0) 2))
noncomputable def Find01_is1 (l : List (List PV)) (name : List UInt8) (i : Int) (n : Int) (n2 : Int) (s : List UInt8) : Bool := isW (Find01_W l name i n n2 s) ((.exit 0), [.ptr 0 0], ⟨[[.int .i64 (Find01_n_1 l name i n n2 s), .int .i64 (Find01_n2_1 l name i n n2 s), .str (Find01_s_1 l name i n n2 s)]], [], [36]⟩)
noncomputable def Find01_prop : List PV → Store → Tr (PExit × List PV × Store) | [.sl l .non, .str name, .ptr 0 0, .int .i64 i], ⟨[[.int .i64 n, .int .i64 n2, .str s]], [], [36]⟩ => .ite (Find01_is0 l name i n n2 s) (.ret (.ret, [.ptr 0 0, .bool (Find01_b_0 l name i n n2 s)], ⟨[[.int .i64 (Find01_n_0 l name i n n2 s), .int .i64 (Find01_n2_0 l name i n n2 s), .str (Find01_s_0 l name i n n2 s)]], [], [36]⟩)) (.ite (Find01_is1 l name i n n2 s) (.ret ((.exit 0), [.ptr 0 0], ⟨[[.int .i64 (Find01_n_1 l name i n n2 s), .int .i64 (Find01_n2_1 l name i n n2 s), .str (Find01_s_1 l name i n n2 s)]], [], [36]⟩)) (.fail)) | _, _ => .fail
theorem Find01_ok : ∀ vs σ r, (Find01_prop vs σ).run = some r → Find01_V vs σ = some r := by
  intro vs σ r h
  unfold Find01_prop at h
  split at h
  · exact ite_isW h fun h => ite_isW h fun h => by cases h
  · cases h
theorem loop_Find01 (gl : Nat → Option Obj) : ∀ fr σ e fr' σ', (orc I_Find01 Find01_prop fr σ).run = some (e, fr', σ') → LDoes Tryd.prog gl c_Find01 fr σ e fr' σ' := orc_ok tbT_ok (gok_Find0 gl ) noMixed (L := LI_Find01) (loopOk_none (by kernel_rfl)) (by kernel_rfl) Find01_ok
noncomputable def L_Find0 : LpsT := fun r fr σ => bif Nat.beq r 2 then orc I_Find01 Find01_prop fr σ else .fail
noncomputable def Find0_Tr (l : List (List PV)) (name : List UInt8) : Tr PV := Tr.ite (Find01_is0 l name 0 0 0 []) (Tr.ret (PV.tup [PV.agg [PV.int .i64 (Find01_n_0 l name 0 0 0 []), PV.int .i64 (Find01_n2_0 l name 0 0 0 []), PV.str (Find01_s_0 l name 0 0 0 [])], PV.bool (Find01_b_0 l name 0 0 0 [])])) (Tr.ite (Find01_is1 l name 0 0 0 []) (Tr.ret (PV.tup [PV.agg [PV.int .i64 0, PV.int .i64 0, PV.str []], PV.bool false])) Tr.fail)
theorem Find0_T (l : List (List PV)) (name : List UInt8) : (tcall tbT G_Find0 L_Find0 Tryd.f19 [.sl l .non, .str name]).flat = Find0_Tr l name := by kernel_rfl
noncomputable def Find0_W (l : List (List PV)) (name : List UInt8) : Option PV := (Find0_Tr l name).run
noncomputable def Find0_n (l : List (List PV)) (name : List UInt8) : Int := (gInt (gAt (gCs (gAt (gCs (gVal (Find0_W l name))) 0)) 0))
noncomputable def Find0_n2 (l : List (List PV)) (name : List UInt8) : Int := (gInt (gAt (gCs (gAt (gCs (gVal (Find0_W l name))) 0)) 1))
noncomputable def Find0_s (l : List (List PV)) (name : List UInt8) : List UInt8 := (gStr (gAt (gCs (gAt (gCs (gVal (Find0_W l name))) 0)) 2))
noncomputable def Find0_b (l : List (List PV)) (name : List UInt8) : Bool := (gBool (gAt (gCs (gVal (Find0_W l name))) 1))
noncomputable def Find0_is0 (l : List (List PV)) (name : List UInt8) : Bool := isW (Find0_W l name) (.tup [.agg [.int .i64 (Find0_n l name), .int .i64 (Find0_n2 l name), .str (Find0_s l name)], .bool (Find0_b l name)])
noncomputable def F_Find0 : List PV → Tr PV | [.sl l .non, .str name] => .ite (Find0_is0 l name) (.ret (.tup [.agg [.int .i64 (Find0_n l name), .int .i64 (Find0_n2 l name), .str (Find0_s l name)], .bool (Find0_b l name)])) (.fail) | _ => .fail
theorem sim_Find0 (gl : Nat → Option Obj) : SimP Tryd.prog gl 19 fun args => (F_Find0 args).run := by
  refine SimP.of_flat (G := G_Find0) (L := L_Find0) tbT_ok (gok_Find0 gl ) noMixed Tryd.func19 rfl (by rfl) (by kernel_rfl) (loopOk_all (L := lps L_Find0) [(2, c_Find01)] (by kernel_rfl) (List.forall_mem_cons.2 ⟨fun fr σ e fr' σ' h => loop_Find01 gl  fr σ e fr' σ' h, (List.forall_mem_nil _)⟩)) ?_
  intro args x h
  unfold F_Find0 at h
  split at h
  · exact (congrArg Tr.run (Find0_T _ _)).trans (ite_isW h fun h => by cases h)
  · cases h
noncomputable def G_SameB0 : GamT := ofL []
theorem gok_SameB0 (gl : Nat → Option Obj) : GamOk Tryd.prog gl (gam G_SameB0) := gamOk_nil
noncomputable def c_SameB01 : Code := loopC Tryd.f30 4
def I_SameB01 : LI := ⟨26, [0, 1, 5], fun e => match e with | .ret => [4] | .exit 0 => [] | _ => [], true⟩
noncomputable def LI_SameB01 : LpsT := fun r fr σ => .fail
noncomputable def SameB01_V (vs : List PV) (σ : Store) : Option (PExit × List PV × Store) := lval (lstep tbT G_SameB0 LI_SameB01 c_SameB01 I_SameB01) vs σ
noncomputable def SameB01_Tr (a : List (List PV)) (b : List (List PV)) (i : Int) : Tr LR := Tr.ite (iLt i (xLen a)) (Tr.ite (okPos i) (Tr.ite (okGet [PV.str [], PV.int .i64 0, PV.int .i64 0, PV.str []] a (nNat i)) (Tr.ite (okPos i) (Tr.ite (okGet [PV.str [], PV.int .i64 0, PV.int .i64 0, PV.str []] b (nNat i)) (Tr.ite (bNot (bAnd (sEq (xStr a (nNat i) 0) (xStr b (nNat i) 0)) (bAnd (bAnd (iEq (xInt a (nNat i) 1) (xInt b (nNat i) 1)) (bAnd (iEq (xInt a (nNat i) 2) (xInt b (nNat i) 2)) (bAnd (sEq (xStr a (nNat i) 3) (xStr b (nNat i) 3)) true))) true))) (Tr.ret (LR.out .ret [PV.bool false] (Store.mk [] [] []))) (Tr.ret (LR.next [PV.sl a .non, PV.sl b .non, PV.int .i64 (iAdd .i64 i 1)] (Store.mk [] [] [])))) Tr.fail) Tr.fail) Tr.fail) Tr.fail) (Tr.ret (LR.out (.exit 0) [] (Store.mk [] [] [])))
theorem SameB01_T (a : List (List PV)) (b : List (List PV)) (i : Int) : lstep tbT G_SameB0 LI_SameB01 c_SameB01 I_SameB01 [.sl a .non, .sl b .non, .int .i64 i] ⟨[], [], []⟩ = SameB01_Tr a b i := by kernel_rfl
theorem SameB01_E (a : List (List PV)) (b : List (List PV)) (i : Int) : SameB01_V [.sl a .non, .sl b .non, .int .i64 i] ⟨[], [], []⟩ = lnext SameB01_V (SameB01_Tr a b i).run := by unfold SameB01_V; rw [lval_eq, SameB01_T]
noncomputable def SameB01_W (a : List (List PV)) (b : List (List PV)) (i : Int) : Option (PExit × List PV × Store) := SameB01_V [.sl a .non, .sl b .non, .int .i64 i] ⟨[], [], []⟩
noncomputable def SameB01_b_0 (a : List (List PV)) (b : List (List PV)) (i : Int) : Bool := (gBool (gOut (SameB01_W a b i) 0))
noncomputable def SameB01_is0 (a : List (List PV)) (b : List (List PV)) (i : Int) : Bool := isW (SameB01_W a b i) (.ret, [.bool (SameB01_b_0 a b i)], ⟨[], [], []⟩)
noncomputable def SameB01_is1 (a : List (List PV)) (b : List (List PV)) (i : Int) : Bool := isW (SameB01_W a b i) ((.exit 0), [], ⟨[], [], []⟩)
noncomputable def SameB01_prop : List PV → Store → Tr (PExit × List PV × Store) | [.sl a .non, .sl b .non, .int .i64 i], ⟨[], [], []⟩ => .ite (SameB01_is0 a b i) (.ret (.ret, [.bool (SameB01_b_0 a b i)], ⟨[], [], []⟩)) (.ite (SameB01_is1 a b i) (.ret ((.exit 0), [], ⟨[], [], []⟩)) (.fail)) | _, _ => .fail
theorem SameB01_ok : ∀ vs σ r, (SameB01_prop vs σ).run = some r → SameB01_V vs σ = some r := by
  intro vs σ r h
  unfold SameB01_prop at h
  split at h
  · exact ite_isW h fun h => ite_isW h fun h => by cases h
  · cases h
theorem loop_SameB01 (gl : Nat → Option Obj) : ∀ fr σ e fr' σ', (orc I_SameB01 SameB01_prop fr σ).run = some (e, fr', σ') → LDoes Tryd.prog gl c_SameB01 fr σ e fr' σ' := orc_ok tbT_ok (gok_SameB0 gl ) noMixed (L := LI_SameB01) (loopOk_none (by kernel_rfl)) (by kernel_rfl) SameB01_ok
noncomputable def L_SameB0 : LpsT := fun r fr σ => bif Nat.beq r 4 then orc I_SameB01 SameB01_prop fr σ else .fail
noncomputable def SameB0_Tr (a : List (List PV)) (b : List (List PV)) : Tr PV := Tr.ite (iNe (xLen a) (xLen b)) (Tr.ret (PV.bool false)) (Tr.ite (SameB01_is0 a b 0) (Tr.ret (PV.bool (SameB01_b_0 a b 0))) (Tr.ite (SameB01_is1 a b 0) (Tr.ret (PV.bool true)) Tr.fail))
theorem SameB0_T (a : List (List PV)) (b : List (List PV)) : (tcall tbT G_SameB0 L_SameB0 Tryd.f30 [.sl a .non, .sl b .non]).flat = SameB0_Tr a b := by kernel_rfl
noncomputable def SameB0_W (a : List (List PV)) (b : List (List PV)) : Option PV := (SameB0_Tr a b).run
noncomputable def SameB0_b (a : List (List PV)) (b : List (List PV)) : Bool := (gBool (gVal (SameB0_W a b)))
noncomputable def SameB0_is0 (a : List (List PV)) (b : List (List PV)) : Bool := isW (SameB0_W a b) (.bool (SameB0_b a b))
noncomputable def F_SameB0 : List PV → Tr PV | [.sl a .non, .sl b .non] => .ite (SameB0_is0 a b) (.ret (.bool (SameB0_b a b))) (.fail) | _ => .fail
theorem sim_SameB0 (gl : Nat → Option Obj) : SimP Tryd.prog gl 30 fun args => (F_SameB0 args).run := by
  refine SimP.of_flat (G := G_SameB0) (L := L_SameB0) tbT_ok (gok_SameB0 gl ) noMixed Tryd.func30 rfl (by rfl) (by kernel_rfl) (loopOk_all (L := lps L_SameB0) [(4, c_SameB01)] (by kernel_rfl) (List.forall_mem_cons.2 ⟨fun fr σ e fr' σ' h => loop_SameB01 gl  fr σ e fr' σ' h, (List.forall_mem_nil _)⟩)) ?_
  intro args x h
  unfold F_SameB0 at h
  split at h
  · exact (congrArg Tr.run (SameB0_T _ _)).trans (ite_isW h fun h => by cases h)
  · cases h
end Go.Pv

/- Total orders told by a number, and rows in their order. No program in sight. -/
set_option linter.unusedSimpArgs false
set_option linter.unusedVariables false
namespace Go.Pv
/-- A comparison that is a total order in which nothing but the same is alike. -/
structure Tot {α : Type} (f : α → α → Int) : Prop where
  val : ∀ a b, f a b = -1 ∨ f a b = 0 ∨ f a b = 1
  zero : ∀ a b, f a b = 0 ↔ a = b
  swap : ∀ a b, f a b = -f b a
  trans : ∀ a b c, f a b < 0 → f b c < 0 → f a c < 0
namespace Tot
variable {α : Type} {f : α → α → Int} (h : Tot f)
include h
theorem self (a : α) : f a a = 0 := (h.zero a a).2 rfl
theorem le_trans {a b c : α} (h1 : f a b ≤ 0) (h2 : f b c ≤ 0) : f a c ≤ 0 := by
  by_cases e1 : f a b = 0
  · rw [(h.zero a b).1 e1]; exact h2
  by_cases e2 : f b c = 0
  · rw [← (h.zero b c).1 e2]; exact h1
  have := h.trans a b c (by omega) (by omega)
  omega
theorem lt_le_trans {a b c : α} (h1 : f a b < 0) (h2 : f b c ≤ 0) : f a c < 0 := by
  by_cases e2 : f b c = 0
  · rw [← (h.zero b c).1 e2]; exact h1
  exact h.trans a b c h1 (by omega)
theorem le_lt_trans {a b c : α} (h1 : f a b ≤ 0) (h2 : f b c < 0) : f a c < 0 := by
  by_cases e1 : f a b = 0
  · rw [(h.zero a b).1 e1]; exact h2
  exact h.trans a b c (by omega) h2
end Tot

/-- Rows in order: the first that differs; else the shorter one ahead. -/
def lex {α : Type} (f : α → α → Int) : List α → List α → Int
  | [], [] => 0
  | [], _ :: _ => -1
  | _ :: _, [] => 1
  | a :: l, b :: m => if f a b = 0 then lex f l m else f a b
theorem lex_tot {α : Type} {f : α → α → Int} (h : Tot f) : Tot (lex f) where
  val := by
    intro a
    induction a with
    | nil => intro b; cases b <;> simp [lex]
    | cons x a ih =>
      intro b
      cases b with
      | nil => simp [lex]
      | cons y b =>
        simp only [lex]
        split
        · exact ih b
        · exact h.val x y
  zero := by
    intro a
    induction a with
    | nil => intro b; cases b <;> simp [lex]
    | cons x a ih =>
      intro b
      cases b with
      | nil => simp [lex]
      | cons y b =>
        simp only [lex, List.cons.injEq]
        split
        · rename_i e
          rw [ih b, h.zero] at *
          simp [e]
        · rename_i e
          rw [h.zero] at e
          constructor
          · intro hh; exact absurd ((h.zero x y).1 hh) e
          · rintro ⟨rfl, _⟩; exact absurd rfl e
  swap := by
    intro a
    induction a with
    | nil => intro b; cases b <;> simp [lex]
    | cons x a ih =>
      intro b
      cases b with
      | nil => simp [lex]
      | cons y b =>
        simp only [lex]
        have := h.swap x y
        by_cases e : f x y = 0
        · have e' : f y x = 0 := by omega
          rw [if_pos e, if_pos e']
          exact ih b
        · have e' : ¬ f y x = 0 := by omega
          rw [if_neg e, if_neg e']
          exact this
  trans := by
    intro a
    induction a with
    | nil =>
      intro b c h1 h2
      cases c with
      | nil => cases b <;> simp [lex] at h1 h2
      | cons z c => simp [lex]
    | cons x a ih =>
      intro b c h1 h2
      cases b with
      | nil => simp [lex] at h1
      | cons y b =>
        cases c with
        | nil => simp [lex] at h2
        | cons z c =>
          simp only [lex] at h1 h2 ⊢
          by_cases e1 : f x y = 0
          · rw [if_pos e1] at h1
            have := (h.zero x y).1 e1
            subst this
            by_cases e2 : f x z = 0
            · rw [if_pos e2] at h2 ⊢
              exact ih b c h1 h2
            · rw [if_neg e2] at h2 ⊢
              exact h2
          · rw [if_neg e1] at h1
            by_cases e2 : f y z = 0
            · have := (h.zero y z).1 e2
              subst this
              rw [if_neg e1]
              exact h1
            · rw [if_neg e2] at h2
              have := h.trans x y z h1 h2
              rw [if_neg (by omega)]
              exact this
theorem lex_pre {α : Type} {f : α → α → Int} (h : Tot f) (a b : List α) : lex f a (a ++ b) ≤ 0 := by
  induction a with
  | nil => cases b <;> simp [lex]
  | cons x a ih =>
    simp only [List.cons_append, lex]
    rw [if_pos (h.self x)]
    exact ih
end Go.Pv

set_option maxHeartbeats 4000000
set_option maxRecDepth 200000
set_option linter.unusedSimpArgs false
set_option linter.unusedVariables false
namespace Go.Pv
open Go Go.Proofs
@[simp] theorem isW_someF {α : Type} (a r : α) : isW (some a) r = false ↔ ¬ a = r := by simp [isW]
/-- A loop over a row that is left at the first element at which f answers. -/
def scan {α ρ : Type} (f : Nat → α → Option ρ) : Nat → List α → Option ρ
  | _, [] => none
  | i, a :: l => match f i a with
    | some r => some r
    | none => scan f (i + 1) l
theorem loop_scan {α ρ γ : Type} {l : List α} {V : Nat → γ} (f : Nat → α → Option ρ) (out : ρ → γ) (fin : γ)
    (hstep : ∀ i (hi : i < l.length), V i = match f i l[i] with | some r => out r | none => V (i + 1)) (hend : V l.length = fin) : V 0 = match scan f 0 l with | some r => out r | none => fin := by
  have key : ∀ k i, i + k = l.length → V i = match scan f i (l.drop i) with | some r => out r | none => fin := by
    intro k
    induction k with
    | zero =>
      intro i hi
      have : i = l.length := by omega
      subst this
      rw [List.drop_eq_nil_of_le (Nat.le_refl _)]
      exact hend
    | succ k ih =>
      intro i hi
      have hlt : i < l.length := by omega
      rw [List.drop_eq_getElem_cons hlt, hstep i hlt]
      simp only [scan]
      cases f i l[i] with
      | some r => rfl
      | none => exact ih (i + 1) (by omega)
  simpa using key l.length 0 (by omega)
theorem scan_all {α ρ : Type} (p : α → Bool) (r : ρ) : ∀ (l : List α) (i : Nat), scan (fun _ a => if p a = true then none else some r) i l = if l.all p = true then none else some r
  | [], i => rfl
  | a :: l, i => by
    by_cases h : p a = true
    · have := scan_all p r l (i + 1)
      simp [scan, h] at this ⊢
      exact this
    · simp [scan, h]
/-! ### tuples: order -/
def cmpVl (a b : Vl) : Int := compareV a.1 a.2.1 a.2.2 b.1 b.2.1 b.2.2
def cmpRl (a b : Vl) : Int := compareR a.1 a.2.1 a.2.2 b.1 b.2.1 b.2.2
def dif (f : Vl → Vl → Int) : List Vl → List Vl → Option Int
  | v :: a, u :: b => if f v u = 0 then dif f a b else some (f v u)
  | _ :: _, [] => some 1
  | [], _ => none
def cmpT (f : Vl → Vl → Int) (a b : List Vl) : Int := match dif f a b with
  | some c => c
  | none => if a.length < b.length then -1 else 0
def cmpTV (a b : List (List PV)) : Int := cmpT cmpVl (unR cV a) (unR cV b)
def cmpTR (a b : List (List PV)) : Int := cmpT cmpRl (unR cV a) (unR cV b)
theorem cmpRl_eq : cmpRl = cmpVl := by
  funext a b
  exact compareR_is _ _ _ _ _ _
def isVl (v : Vl) : Bool := isV v.1 v.2.1 v.2.2
theorem checkV_isV (k n : Int) (s : List UInt8) : (checkV k n s = 0) ↔ isV k n s = true := by
  unfold checkV isV
  by_cases h1 : k = 1 ∧ s = []
  · simp [h1]
  · by_cases h2 : k = 2 ∧ n = 0 ∧ s.length ≤ 256
    · simp [h2]
    · rw [if_neg h1, if_neg h2]
      simp only [decide_eq_true_eq]
      constructor
      · intro h; omega
      · intro h; exact absurd h (by rintro (h | h); exact h1 h; exact h2 h)
def chkT (a : List (List PV)) : Int := if (unR cV a).length ≤ 8 ∧ (unR cV a).all isVl = true then 0 else 20
def typd : List Vl → List Int → Bool
  | v :: a, t :: b => if isVl v = true ∧ typeV v.1 v.2.1 v.2.2 = t then typd a b else false
  | _, _ => true
def typT (a b : List (List PV)) : Bool := decide ((unR cV a).length = (unR cI b).length) && typd (unR cV a) (unR cI b)
def cutT (a : List (List PV)) : List (List PV) := rOf cV ((unR cV a).take 20)
def zeroVl : Vl := (0, 0, [])
def isTmV (a : Int) (b : List UInt8) (k n : Int) (s : List UInt8) : Bool :=
  if a = 2 then decide (b = []) && isV k n s else if a = 1 then decide (1 ≤ b.length) && decide (b.length ≤ 64) && decide (k = 0 ∧ n = 0 ∧ s = []) else if a = 3 then decide (b = []) && decide (k = 0 ∧ n = 0 ∧ s = []) else false
def isTm (x : Tm) : Bool := isTmV x.1 x.2.1 x.2.2.1 x.2.2.2.1 x.2.2.2.2
def chkP (a : List (List PV)) : Int := if (unR cM a).length ≤ 8 ∧ (unR cM a).all isTm = true then 0 else 22
def idxA : List Bd → List UInt8 → Int → Int
  | [], _, _ => -1
  | b :: l, nm, i => if b.1 = nm then i else idxA l nm (i + 1)
def idxV (a : List (List PV)) (nm : List UInt8) : Int := idxA (unR cB a) nm 0
def findB : List Bd → List UInt8 → Option Vl
  | [], _ => none
  | b :: l, nm => if b.1 = nm then some b.2 else findB l nm
def fdO (a : List (List PV)) (nm : List UInt8) : Bool := (findB (unR cB a) nm).isSome
def fdK (a : List (List PV)) (nm : List UInt8) : Int := ((findB (unR cB a) nm).getD zeroVl).1
def fdN (a : List (List PV)) (nm : List UInt8) : Int := ((findB (unR cB a) nm).getD zeroVl).2.1
def fdS (a : List (List PV)) (nm : List UInt8) : List UInt8 := ((findB (unR cB a) nm).getD zeroVl).2.2
def eqRB (a b : List (List PV)) : Bool := decide (unR cB a = unR cB b)
theorem idxA_rng : ∀ (l : List Bd) (nm : List UInt8) (i : Int), 0 ≤ i → idxA l nm i = -1 ∨ (i ≤ idxA l nm i ∧ idxA l nm i < i + l.length)
  | [], nm, i, h => .inl rfl
  | b :: l, nm, i, h => by
    unfold idxA
    split
    · right; simp only [List.length_cons]; omega
    · rcases idxA_rng l nm (i + 1) (by omega) with h1 | h1
      · exact .inl h1
      · right; simp only [List.length_cons]; omega
theorem cmpT_cons (f : Vl → Vl → Int) (v u : Vl) (a b : List Vl) : cmpT f (v :: a) (u :: b) = if f v u = 0 then cmpT f a b else f v u := by
  simp only [cmpT, dif]
  by_cases h : f v u = 0
  · simp only [if_pos h]
    cases dif f a b <;> simp
  · simp only [if_neg h]
theorem CmpF_loop (a b : List Vl) (ha : a.length ≤ 9223372036854775807) : ∀ (k i : Nat), i + k = a.length → i ≤ b.length → CmpF01_V [.sl (rOf cV a) .non, .sl (rOf cV b) .non, .fn 56 [], .sl (rOf cV a) .non, .int .i64 (a.length : Nat), .int .i64 (i : Nat)] ⟨[], [], []⟩ =
    match dif cmpVl (a.drop i) (b.drop i) with | some c => some (.ret, [.int .i64 c], ⟨[], [], []⟩) | none => some (.exit 0, [.sl (rOf cV a) .non, .sl (rOf cV b) .non], ⟨[], [], []⟩)
  | 0, i, hi, hb => by
    have hn : ¬ (i : Int) < a.length := by omega
    rw [show a.drop i = [] from List.drop_eq_nil_of_le (by omega), CmpF01_E]
    cases b.drop i <;> simp [CmpF01_Tr, hn, dif]
  | k + 1, i, hi, hb => by
    have h1 : i < a.length := by omega
    have w := inc_i64 (i := i) (by omega)
    rw [List.drop_eq_getElem_cons h1, CmpF01_E]
    by_cases h2 : i < b.length
    · have hb2 : ¬ (b.length : Int) ≤ i := by omega
      rw [List.drop_eq_getElem_cons h2]
      simp only [dif]
      by_cases hc : cmpVl a[i] b[i] = 0
      · rw [if_pos hc, ← CmpF_loop a b ha k (i + 1) (by omega) (by omega)]
        have hc' : compareV a[i].1 a[i].2.1 a[i].2.2 b[i].1 b[i].2.1 b[i].2.2 = 0 := hc
        simp [CmpF01_Tr, h1, h2, hb2, w, hc']
      · rw [if_neg hc]
        have hc' : ¬ compareV a[i].1 a[i].2.1 a[i].2.2 b[i].1 b[i].2.1 b[i].2.2 = 0 := hc
        simp [CmpF01_Tr, h1, h2, hb2, hc', cmpVl]
    · have hb2 : (b.length : Int) ≤ i := by omega
      rw [show b.drop i = [] from List.drop_eq_nil_of_le (by omega)]
      simp [CmpF01_Tr, h1, hb2, dif]
theorem CmpF_law (a b : List Vl) (ha : a.length ≤ 9223372036854775807) : CmpF0_W (rOf cV a) (rOf cV b) = some (.int .i64 (cmpT cmpVl a b)) := by
  have h := CmpF_loop a b ha a.length 0 (by omega) (by omega)
  simp only [List.drop_zero] at h
  unfold CmpF0_W CmpF0_Tr cmpT
  cases hd : dif cmpVl a b with
  | some c => rw [hd] at h; simp at h; simp [CmpF01_is0, CmpF01_is1, CmpF01_n_0, CmpF01_s1_1, CmpF01_s2_1, CmpF01_W, h]
  | none =>
    rw [hd] at h
    simp at h
    by_cases hl : (a.length : Int) < b.length
    · have hl' : a.length < b.length := by omega
      simp [CmpF01_is0, CmpF01_is1, CmpF01_n_0, CmpF01_s1_1, CmpF01_s2_1, CmpF01_W, h, hl']
    · have hl' : ¬ a.length < b.length := by omega
      simp [CmpF01_is0, CmpF01_is1, CmpF01_n_0, CmpF01_s1_1, CmpF01_s2_1, CmpF01_W, h, hl']
def F_CmpF : List PV → Tr PV
  | [.sl a .non, .sl b .non, .fn 56 []] => Tr.chk (okR cV a) (Tr.chk (okR cV b) (.ret (.int .i64 (cmpTV a b))))
  | _ => .fail
theorem sim_CmpF (gl : Nat → Option Obj) : SimP Tryd.prog gl 55 fun args => (F_CmpF args).run := by
  refine SimP.given (sim_CmpF0 gl) ?_
  intro args x hg h
  unfold F_CmpF at h
  split at h
  · rename_i a b
    obtain ⟨h0, q0⟩ := Tr.chk_some h
    obtain ⟨h1, q1⟩ := Tr.chk_some q0
    have q := q1
    obtain ⟨a, rfl⟩ := okR_eq _ h0
    obtain ⟨b, rfl⟩ := okR_eq _ h1
    have hl := rel_sl hg 0 rfl
    simp only [rOf_len] at hl
    unfold maxLen at hl
    have hw := CmpF_law a b (by omega)
    cases q
    simp [F_CmpF0, CmpF0_is0, CmpF0_n, hw, cmpTV]
  · cases h
def difR (f : Vl → Vl → Int) : List Vl → List Vl → Option Int
  | v :: a, u :: b => if f v u = 0 then difR f a b else some (f v u)
  | _, _ => none
def cmpTr (f : Vl → Vl → Int) (a b : List Vl) : Int := match difR f a b with
  | some c => c
  | none => if a.length < b.length then -1 else if b.length < a.length then 1 else 0
theorem cmpTr_eq (f : Vl → Vl → Int) : ∀ (a b : List Vl), cmpTr f a b = cmpT f a b
  | [], [] => rfl
  | [], _ :: _ => by simp [cmpTr, cmpT, difR, dif]
  | _ :: _, [] => by simp [cmpTr, cmpT, difR, dif]
  | v :: a, u :: b => by
    have ih := cmpTr_eq f a b
    simp only [cmpTr, cmpT, difR, dif] at ih ⊢
    by_cases h : f v u = 0
    · simp only [if_pos h, List.length_cons]
      simpa using ih
    · simp only [if_neg h]
theorem CmpR_loop (a b : List Vl) (ha : a.length ≤ 9223372036854775807) : ∀ (k i : Nat), i + k = a.length → CmpR01_V [.sl (rOf cV a) .non, .sl (rOf cV b) .non, .int .i64 (i : Nat)] ⟨[], [], []⟩ =
    match difR cmpRl (a.drop i) (b.drop i) with | some c => some (.ret, [.int .i64 c], ⟨[], [], []⟩) | none => some (.exit 0, [.sl (rOf cV a) .non, .sl (rOf cV b) .non], ⟨[], [], []⟩)
  | 0, i, hi => by
    have hn : ¬ (i : Int) < a.length := by omega
    rw [show a.drop i = [] from List.drop_eq_nil_of_le (by omega), CmpR01_E]
    cases b.drop i <;> simp [CmpR01_Tr, hn, difR]
  | k + 1, i, hi => by
    have h1 : i < a.length := by omega
    have w := inc_i64 (i := i) (by omega)
    rw [List.drop_eq_getElem_cons h1, CmpR01_E]
    by_cases h2 : i < b.length
    · rw [List.drop_eq_getElem_cons h2]
      simp only [difR]
      by_cases hc : cmpRl a[i] b[i] = 0
      · rw [if_pos hc, ← CmpR_loop a b ha k (i + 1) (by omega)]
        have hc' : compareR a[i].1 a[i].2.1 a[i].2.2 b[i].1 b[i].2.1 b[i].2.2 = 0 := hc
        simp [CmpR01_Tr, h1, h2, w, hc']
      · rw [if_neg hc]
        have hc' : ¬ compareR a[i].1 a[i].2.1 a[i].2.2 b[i].1 b[i].2.1 b[i].2.2 = 0 := hc
        simp [CmpR01_Tr, h1, h2, hc', cmpRl]
    · have hb2 : ¬ (i : Int) < b.length := by omega
      rw [show b.drop i = [] from List.drop_eq_nil_of_le (by omega)]
      simp [CmpR01_Tr, h1, hb2, difR]
theorem CmpR_law (a b : List Vl) (ha : a.length ≤ 9223372036854775807) : CmpR0_W (rOf cV a) (rOf cV b) = some (.int .i64 (cmpT cmpRl a b)) := by
  have h := CmpR_loop a b ha a.length 0 (by omega)
  simp only [List.drop_zero] at h
  unfold CmpR0_W CmpR0_Tr
  rw [← cmpTr_eq]
  unfold cmpTr
  cases hd : difR cmpRl a b with
  | some c => rw [hd] at h; simp at h; simp [CmpR01_is0, CmpR01_is1, CmpR01_n_0, CmpR01_a_1, CmpR01_b_1, CmpR01_W, h]
  | none =>
    rw [hd] at h
    simp at h
    by_cases hl : a.length < b.length
    · simp [CmpR01_is0, CmpR01_is1, CmpR01_n_0, CmpR01_a_1, CmpR01_b_1, CmpR01_W, h, hl]
    · by_cases hl' : b.length < a.length <;> simp [CmpR01_is0, CmpR01_is1, CmpR01_n_0, CmpR01_a_1, CmpR01_b_1, CmpR01_W, h, hl, hl']
def F_CmpR : List PV → Tr PV
  | [.sl a .non, .sl b .non] => Tr.chk (okR cV a) (Tr.chk (okR cV b) (.ret (.int .i64 (cmpTR a b))))
  | _ => .fail
theorem sim_CmpR (gl : Nat → Option Obj) : SimP Tryd.prog gl 39 fun args => (F_CmpR args).run := by
  refine SimP.given (sim_CmpR0 gl) ?_
  intro args x hg h
  unfold F_CmpR at h
  split at h
  · rename_i a b
    obtain ⟨h0, q0⟩ := Tr.chk_some h
    obtain ⟨h1, q1⟩ := Tr.chk_some q0
    have q := q1
    obtain ⟨a, rfl⟩ := okR_eq _ h0
    obtain ⟨b, rfl⟩ := okR_eq _ h1
    have hl := rel_sl hg 0 rfl
    simp only [rOf_len] at hl
    unfold maxLen at hl
    have hw := CmpR_law a b (by omega)
    cases q
    simp [F_CmpR0, CmpR0_is0, CmpR0_n, hw, cmpTR]
  · cases h
theorem TCheck_loop (t : List Vl) (ht : t.length ≤ 9223372036854775807) : TCheck01_V [.sl (rOf cV t) .non, .int .i64 (t.length : Nat), .int .i64 0] ⟨[], [], []⟩ = if t.all isVl = true then some (.exit 0, [], ⟨[], [], []⟩) else some (.ret, [.int .i64 20], ⟨[], [], []⟩) := by
  have h := loop_scan (l := t) (V := fun i => TCheck01_V [.sl (rOf cV t) .non, .int .i64 (t.length : Nat), .int .i64 (i : Nat)] ⟨[], [], []⟩) (fun _ v => if isVl v = true then none else some ()) (fun _ => some (.ret, [.int .i64 20], ⟨[], [], []⟩)) (some (.exit 0, [], ⟨[], [], []⟩)) ?_ ?_
  · rw [scan_all] at h
    refine h.trans ?_
    by_cases ha : t.all isVl = true
    · rw [if_pos ha, if_pos ha]
    · rw [if_neg ha, if_neg ha]
  · intro i hi
    have w := inc_i64 (i := i) (by omega)
    have hc := checkV_isV t[i].1 t[i].2.1 t[i].2.2
    show TCheck01_V _ _ = _
    rw [TCheck01_E]
    by_cases hv : isVl t[i] = true
    · have hv' : isV t[i].1 t[i].2.1 t[i].2.2 = true := hv
      have hc' := hc.2 hv
      simp [TCheck01_Tr, hi, w, hv, hv', hc']
    · have hv' : isV t[i].1 t[i].2.1 t[i].2.2 = false := by simpa [isVl] using hv
      have hc' : ¬ checkV t[i].1 t[i].2.1 t[i].2.2 = 0 := fun h => hv (hc.1 h)
      simp [TCheck01_Tr, hi, w, hv, hv', hc']
  · show TCheck01_V _ _ = _
    rw [TCheck01_E]
    simp [TCheck01_Tr]
theorem TCheck_law (t : List Vl) (ht : t.length ≤ 9223372036854775807) : TCheck0_W (rOf cV t) = some (.int .i64 (chkT (rOf cV t))) := by
  have h := TCheck_loop t ht
  have hc : chkT (rOf cV t) = if t.length ≤ 8 ∧ t.all isVl = true then 0 else 20 := by simp only [chkT, unR_of]
  unfold TCheck0_W TCheck0_Tr
  rw [hc]
  by_cases h8 : t.length ≤ 8
  · have h8' : ¬ (8 : Int) < t.length := by omega
    cases ha : t.all isVl <;> (rw [ha] at h; simp at h; simp [TCheck01_is0, TCheck01_is1, TCheck01_n_0, TCheck01_W, h, h8, h8'])
  · have h8' : (8 : Int) < t.length := by omega
    simp [h8, h8']
def F_TCheck : List PV → Tr PV
  | [.sl t .non] => Tr.chk (okR cV t) (.ret (.int .i64 (chkT t)))
  | _ => .fail
theorem sim_TCheck (gl : Nat → Option Obj) : SimP Tryd.prog gl 36 fun args => (F_TCheck args).run := by
  refine SimP.given (sim_TCheck0 gl) ?_
  intro args x hg h
  unfold F_TCheck at h
  split at h
  · rename_i t
    obtain ⟨h0, q0⟩ := Tr.chk_some h
    have q := q0
    obtain ⟨t, rfl⟩ := okR_eq _ h0
    have hl := rel_sl hg 0 rfl
    simp only [rOf_len] at hl
    unfold maxLen at hl
    have hw := TCheck_law t (by omega)
    cases q
    simp [F_TCheck0, TCheck0_is0, TCheck0_n, hw]
  · cases h
theorem RCheck_loop (t : List Vl) (ht : t.length ≤ 9223372036854775807) : RCheck01_V [.sl (rOf cV t) .non, .int .i64 0] ⟨[], [], []⟩ = if t.all isVl = true then some (.exit 0, [], ⟨[], [], []⟩) else some (.ret, [.int .i64 20], ⟨[], [], []⟩) := by
  have h := loop_scan (l := t) (V := fun i => RCheck01_V [.sl (rOf cV t) .non, .int .i64 (i : Nat)] ⟨[], [], []⟩) (fun _ v => if isVl v = true then none else some ()) (fun _ => some (.ret, [.int .i64 20], ⟨[], [], []⟩)) (some (.exit 0, [], ⟨[], [], []⟩)) ?_ ?_
  · rw [scan_all] at h
    refine h.trans ?_
    by_cases ha : t.all isVl = true
    · rw [if_pos ha, if_pos ha]
    · rw [if_neg ha, if_neg ha]
  · intro i hi
    have w := inc_i64 (i := i) (by omega)
    have hc := checkV_isV t[i].1 t[i].2.1 t[i].2.2
    show RCheck01_V _ _ = _
    rw [RCheck01_E]
    by_cases hv : isVl t[i] = true
    · have hv' : isV t[i].1 t[i].2.1 t[i].2.2 = true := hv
      have hc' := hc.2 hv
      simp [RCheck01_Tr, hi, w, hv, hv', hc']
    · have hv' : isV t[i].1 t[i].2.1 t[i].2.2 = false := by simpa [isVl] using hv
      have hc' : ¬ checkV t[i].1 t[i].2.1 t[i].2.2 = 0 := fun h => hv (hc.1 h)
      simp [RCheck01_Tr, hi, w, hv, hv', hc']
  · show RCheck01_V _ _ = _
    rw [RCheck01_E]
    simp [RCheck01_Tr]
theorem RCheck_law (t : List Vl) (ht : t.length ≤ 9223372036854775807) : RCheck0_W (rOf cV t) = some (.int .i64 (chkT (rOf cV t))) := by
  have h := RCheck_loop t ht
  have hc : chkT (rOf cV t) = if t.length ≤ 8 ∧ t.all isVl = true then 0 else 20 := by simp only [chkT, unR_of]
  unfold RCheck0_W RCheck0_Tr
  rw [hc]
  by_cases h8 : t.length ≤ 8
  · have h8' : ¬ (8 : Int) < t.length := by omega
    cases ha : t.all isVl <;> (rw [ha] at h; simp at h; simp [RCheck01_is0, RCheck01_is1, RCheck01_n_0, RCheck01_W, h, h8, h8'])
  · have h8' : (8 : Int) < t.length := by omega
    simp [h8, h8']
def F_RCheck : List PV → Tr PV
  | [.sl t .non] => Tr.chk (okR cV t) (.ret (.int .i64 (chkT t)))
  | _ => .fail
theorem sim_RCheck (gl : Nat → Option Obj) : SimP Tryd.prog gl 20 fun args => (F_RCheck args).run := by
  refine SimP.given (sim_RCheck0 gl) ?_
  intro args x hg h
  unfold F_RCheck at h
  split at h
  · rename_i t
    obtain ⟨h0, q0⟩ := Tr.chk_some h
    have q := q0
    obtain ⟨t, rfl⟩ := okR_eq _ h0
    have hl := rel_sl hg 0 rfl
    simp only [rOf_len] at hl
    unfold maxLen at hl
    have hw := RCheck_law t (by omega)
    cases q
    simp [F_RCheck0, RCheck0_is0, RCheck0_n, hw]
  · cases h
theorem typd_cons (v : Vl) (a : List Vl) (t : Int) (b : List Int) : typd (v :: a) (t :: b) = (decide (isVl v = true ∧ typeV v.1 v.2.1 v.2.2 = t) && typd a b) := by
  simp only [typd]
  by_cases h : isVl v = true ∧ typeV v.1 v.2.1 v.2.2 = t <;> simp [h]
theorem TTyped_loop (t : List Vl) (ts : List Int) (ht : t.length ≤ 9223372036854775807) (hl : t.length = ts.length) : ∀ (k i : Nat), i + k = t.length → TTyped01_V [.sl (rOf cI ts) .non, .sl (rOf cV t) .non, .int .i64 (t.length : Nat), .int .i64 (i : Nat)] ⟨[], [], []⟩ = if typd (t.drop i) (ts.drop i) = true then some (.exit 0, [], ⟨[], [], []⟩) else some (.ret, [.bool false], ⟨[], [], []⟩)
  | 0, i, hi => by
    have hn : ¬ (i : Int) < t.length := by omega
    rw [show t.drop i = [] from List.drop_eq_nil_of_le (by omega), TTyped01_E]
    simp [TTyped01_Tr, hn, typd]
  | k + 1, i, hi => by
    have h1 : i < t.length := by omega
    have h2 : i < ts.length := by omega
    have w := inc_i64 (i := i) (by omega)
    have hc := checkV_isV t[i].1 t[i].2.1 t[i].2.2
    have ih := TTyped_loop t ts ht hl k (i + 1) (by omega)
    rw [List.drop_eq_getElem_cons h1, List.drop_eq_getElem_cons h2, TTyped01_E]
    rw [typd_cons]
    by_cases hv : isVl t[i] = true
    · have hc' := hc.2 hv
      by_cases hty : typeV t[i].1 t[i].2.1 t[i].2.2 = ts[i]
      · simp only [hv, hty, and_self, decide_true, Bool.true_and]
        rw [← ih]
        simp [TTyped01_Tr, h1, h2, w, hc', hty]
      · simp [TTyped01_Tr, h1, h2, w, hc', hty]
    · have hc' : ¬ checkV t[i].1 t[i].2.1 t[i].2.2 = 0 := fun h => hv (hc.1 h)
      simp [TTyped01_Tr, h1, h2, w, hc', hv]
theorem TTyped_law (t : List Vl) (ts : List Int) (ht : t.length ≤ 9223372036854775807) : TTyped0_W (rOf cV t) (rOf cI ts) = some (.bool (typT (rOf cV t) (rOf cI ts))) := by
  have hc : typT (rOf cV t) (rOf cI ts) = (decide (t.length = ts.length) && typd t ts) := by simp only [typT, unR_of]
  unfold TTyped0_W TTyped0_Tr
  rw [hc]
  by_cases hl : t.length = ts.length
  · have h := TTyped_loop t ts ht hl t.length 0 (by omega)
    simp only [List.drop_zero] at h
    have hl' : ¬ (t.length : Int) ≠ ts.length := by omega
    cases ha : typd t ts <;> (rw [ha] at h; simp at h; simp [TTyped01_is0, TTyped01_is1, TTyped01_b_0, TTyped01_W, h, hl.symm])
  · have hl' : (t.length : Int) ≠ ts.length := by omega
    simp [hl, hl']
def F_TTyped : List PV → Tr PV
  | [.sl t .non, .sl ts .non] => Tr.chk (okR cV t) (Tr.chk (okR cI ts) (.ret (.bool (typT t ts))))
  | _ => .fail
theorem sim_TTyped (gl : Nat → Option Obj) : SimP Tryd.prog gl 37 fun args => (F_TTyped args).run := by
  refine SimP.given (sim_TTyped0 gl) ?_
  intro args x hg h
  unfold F_TTyped at h
  split at h
  · rename_i t ts
    obtain ⟨h0, q0⟩ := Tr.chk_some h
    obtain ⟨h1, q1⟩ := Tr.chk_some q0
    have q := q1
    obtain ⟨t, rfl⟩ := okR_eq _ h0
    obtain ⟨ts, rfl⟩ := okR_eq _ h1
    have hl := rel_sl hg 0 rfl
    simp only [rOf_len] at hl
    unfold maxLen at hl
    have hw := TTyped_law t ts (by omega)
    cases q
    simp [F_TTyped0, TTyped0_is0, TTyped0_b, hw]
  · cases h
theorem RTyped_loop (t : List Vl) (ts : List Int) (ht : t.length ≤ 9223372036854775807) (hl : t.length = ts.length) : ∀ (k i : Nat), i + k = t.length → RTyped01_V [.sl (rOf cV t) .non, .sl (rOf cI ts) .non, .int .i64 (i : Nat)] ⟨[], [], []⟩ = if typd (t.drop i) (ts.drop i) = true then some (.exit 0, [], ⟨[], [], []⟩) else some (.ret, [.bool false], ⟨[], [], []⟩)
  | 0, i, hi => by
    have hn : ¬ (i : Int) < t.length := by omega
    rw [show t.drop i = [] from List.drop_eq_nil_of_le (by omega), RTyped01_E]
    simp [RTyped01_Tr, hn, typd]
  | k + 1, i, hi => by
    have h1 : i < t.length := by omega
    have h2 : i < ts.length := by omega
    have w := inc_i64 (i := i) (by omega)
    have hc := checkV_isV t[i].1 t[i].2.1 t[i].2.2
    have ih := RTyped_loop t ts ht hl k (i + 1) (by omega)
    rw [List.drop_eq_getElem_cons h1, List.drop_eq_getElem_cons h2, RTyped01_E]
    rw [typd_cons]
    by_cases hv : isVl t[i] = true
    · have hc' := hc.2 hv
      by_cases hty : typeV t[i].1 t[i].2.1 t[i].2.2 = ts[i]
      · simp only [hv, hty, and_self, decide_true, Bool.true_and]
        rw [← ih]
        simp [RTyped01_Tr, h1, h2, w, hc', hty]
      · simp [RTyped01_Tr, h1, h2, w, hc', hty]
    · have hc' : ¬ checkV t[i].1 t[i].2.1 t[i].2.2 = 0 := fun h => hv (hc.1 h)
      simp [RTyped01_Tr, h1, h2, w, hc', hv]
theorem RTyped_law (t : List Vl) (ts : List Int) (ht : t.length ≤ 9223372036854775807) : RTyped0_W (rOf cV t) (rOf cI ts) = some (.bool (typT (rOf cV t) (rOf cI ts))) := by
  have hc : typT (rOf cV t) (rOf cI ts) = (decide (t.length = ts.length) && typd t ts) := by simp only [typT, unR_of]
  unfold RTyped0_W RTyped0_Tr
  rw [hc]
  by_cases hl : t.length = ts.length
  · have h := RTyped_loop t ts ht hl t.length 0 (by omega)
    simp only [List.drop_zero] at h
    have hl' : ¬ (t.length : Int) ≠ ts.length := by omega
    cases ha : typd t ts <;> (rw [ha] at h; simp at h; simp [RTyped01_is0, RTyped01_is1, RTyped01_b_0, RTyped01_W, h, hl.symm])
  · have hl' : (t.length : Int) ≠ ts.length := by omega
    simp [hl, hl']
def F_RTyped : List PV → Tr PV
  | [.sl t .non, .sl ts .non] => Tr.chk (okR cV t) (Tr.chk (okR cI ts) (.ret (.bool (typT t ts))))
  | _ => .fail
theorem sim_RTyped (gl : Nat → Option Obj) : SimP Tryd.prog gl 38 fun args => (F_RTyped args).run := by
  refine SimP.given (sim_RTyped0 gl) ?_
  intro args x hg h
  unfold F_RTyped at h
  split at h
  · rename_i t ts
    obtain ⟨h0, q0⟩ := Tr.chk_some h
    obtain ⟨h1, q1⟩ := Tr.chk_some q0
    have q := q1
    obtain ⟨t, rfl⟩ := okR_eq _ h0
    obtain ⟨ts, rfl⟩ := okR_eq _ h1
    have hl := rel_sl hg 0 rfl
    simp only [rOf_len] at hl
    unfold maxLen at hl
    have hw := RTyped_law t ts (by omega)
    cases q
    simp [F_RTyped0, RTyped0_is0, RTyped0_b, hw]
  · cases h
theorem cut_law (t : List Vl) : cut0_W (rOf cV t) = some (.sl (cutT (rOf cV t)) .non) := by
  have hc : cutT (rOf cV t) = rOf cV (t.take 20) := by simp only [cutT, unR_of]
  unfold cut0_W cut0_Tr
  rw [hc]
  by_cases h : (20 : Int) < t.length
  · have h' : 20 ≤ t.length := by omega
    simp [h, h']
  · have h' : t.length ≤ 20 := by omega
    simp [h, List.take_of_length_le h']
def F_cutT : List PV → Tr PV
  | [.sl t .non] => Tr.chk (okR cV t) (.ret (.sl (cutT t) .non))
  | _ => .fail
theorem sim_cutT (gl : Nat → Option Obj) : SimP Tryd.prog gl 15 fun args => (F_cutT args).run := by
  refine SimP.given (sim_cut0 gl) ?_
  intro args x hg h
  unfold F_cutT at h
  split at h
  · rename_i t
    obtain ⟨h0, q0⟩ := Tr.chk_some h
    have q := q0
    obtain ⟨t, rfl⟩ := okR_eq _ h0
    have hw := cut_law t
    cases q
    simp [F_cut0, cut0_is0, cut0_r, hw]
  · cases h
theorem term_law (a : Int) (b : List UInt8) (k n : Int) (s : List UInt8) : term0_W a b k n s = some (.bool (isTmV a b k n s)) := by
  unfold term0_W term0_Tr isTmV
  have hc := checkV_isV k n s
  by_cases h2 : a = 2
  · subst h2
    by_cases hb : b = []
    · cases hv : isV k n s with
      | true => simp [hb, hc.2 hv]
      | false => have : ¬ checkV k n s = 0 := fun h => by rw [hc.1 h] at hv; cases hv
                 simp [hb, this]
    · simp [hb]
  · by_cases h1 : a = 1
    · subst h1
      by_cases h3 : (1 : Int) ≤ b.length
      · by_cases h4 : (b.length : Int) ≤ 64
        · have h3' : 1 ≤ b.length := by omega
          have h4' : b.length ≤ 64 := by omega
          simp [h3, h4, h3', h4']
        · have h4' : ¬ b.length ≤ 64 := by omega
          simp [h3, h4, h4']
      · have h3' : ¬ 1 ≤ b.length := by omega
        simp [h3, h3']
    · by_cases h3 : a = 3
      · subst h3; by_cases hb : b = [] <;> simp [hb]
      · simp [h1, h2, h3]
def F_term : List PV → Tr PV
  | [.agg [.int .i64 a, .str b, .int .i64 k, .int .i64 n, .str s]] => .ret (.bool (isTmV a b k n s))
  | _ => .fail
theorem sim_term (gl : Nat → Option Obj) : SimP Tryd.prog gl 63 fun args => (F_term args).run := by
  refine SimP.given (sim_term0 gl) ?_
  intro args x hg h
  unfold F_term at h
  split at h
  · rename_i a b k n s
    have q := h
    have hw := term_law a b k n s
    cases q
    simp [F_term0, term0_is0, term0_b, hw]
  · cases h
theorem isTm_eq (x : Tm) : isTm x = if x.1 = 2 then decide (x.2.1 = []) && isV x.2.2.1 x.2.2.2.1 x.2.2.2.2 else if x.1 = 1 then decide (1 ≤ x.2.1.length) && decide (x.2.1.length ≤ 64) && decide (x.2.2.1 = 0 ∧ x.2.2.2.1 = 0 ∧ x.2.2.2.2 = []) else if x.1 = 3 then decide (x.2.1 = []) && decide (x.2.2.1 = 0 ∧ x.2.2.2.1 = 0 ∧ x.2.2.2.2 = []) else false := rfl
theorem RPat_loop (p : List Tm) (hp : p.length ≤ 9223372036854775807) : ∀ (k i : Nat) (b : Bool), i + k = p.length → RPat01_V [.sl (rOf cM p) .non, .bool b, .int .i64 (i : Nat)] ⟨[], [], []⟩ = some (.exit 0, [.bool (b && (p.drop i).all isTm)], ⟨[], [], []⟩)
  | 0, i, b, hi => by
    have hn : ¬ (i : Int) < p.length := by omega
    rw [show p.drop i = [] from List.drop_eq_nil_of_le (by omega), RPat01_E]
    simp [RPat01_Tr, hn]
  | k + 1, i, b, hi => by
    have h1 : i < p.length := by omega
    have w := inc_i64 (i := i) (by omega)
    have ih := fun b => RPat_loop p hp k (i + 1) b (by omega)
    rw [List.drop_eq_getElem_cons h1, RPat01_E]
    cases b with
    | false => simp [RPat01_Tr, h1]
    | true =>
      have ih1 := ih (isTm p[i])
      rw [List.all_cons, Bool.true_and, ← ih1, isTm_eq]
      generalize hx : p[i] = x
      obtain ⟨a, nm, k1, n1, s1⟩ := x
      by_cases h2 : a = 2
      · cases hv : isV k1 n1 s1 <;> simp [RPat01_Tr, h1, w, hx, h2, hv]
      · by_cases h3 : a = 1
        · by_cases h4 : (1 : Int) ≤ nm.length
          · have h4' : 1 ≤ nm.length := by omega
            by_cases h5 : (nm.length : Int) ≤ 64
            · have h5' : nm.length ≤ 64 := by omega
              simp [RPat01_Tr, h1, w, hx, h2, h3, h4, h4', h5, h5']
            · have h5' : ¬ nm.length ≤ 64 := by omega
              simp [RPat01_Tr, h1, w, hx, h2, h3, h4, h4', h5, h5']
          · have h4' : ¬ 1 ≤ nm.length := by omega
            simp [RPat01_Tr, h1, w, hx, h2, h3, h4, h4']
        · by_cases h6 : a = 3
          · by_cases h7 : nm = [] <;> simp [RPat01_Tr, h1, w, hx, h6, h7]
          · simp [RPat01_Tr, h1, w, hx, h2, h3, h6]
theorem RPat_law (p : List Tm) (hp : p.length ≤ 9223372036854775807) : RPat0_W (rOf cM p) = some (.int .i64 (chkP (rOf cM p))) := by
  have hc : chkP (rOf cM p) = if p.length ≤ 8 ∧ p.all isTm = true then 0 else 22 := by simp only [chkP, unR_of]
  have h := RPat_loop p hp p.length 0 (decide ((p.length : Int) ≤ 8)) (by omega)
  unfold RPat0_W RPat0_Tr
  rw [hc]
  simp only [List.drop_zero] at h
  by_cases h8 : (p.length : Int) ≤ 8
  · have h8' : p.length ≤ 8 := by omega
    cases ha : p.all isTm <;> (simp [h8, ha] at h; simp [RPat01_is0, RPat01_b, RPat01_W, h, h8, h8'])
  · have h8' : ¬ p.length ≤ 8 := by omega
    simp [h8] at h
    simp [RPat01_is0, RPat01_b, RPat01_W, h, h8, h8']
def F_RPat : List PV → Tr PV
  | [.sl p .non] => Tr.chk (okR cM p) (.ret (.int .i64 (chkP p)))
  | _ => .fail
theorem sim_RPat (gl : Nat → Option Obj) : SimP Tryd.prog gl 29 fun args => (F_RPat args).run := by
  refine SimP.given (sim_RPat0 gl) ?_
  intro args x hg h
  unfold F_RPat at h
  split at h
  · rename_i p
    obtain ⟨h0, q0⟩ := Tr.chk_some h
    have q := q0
    obtain ⟨p, rfl⟩ := okR_eq _ h0
    have hl := rel_sl hg 0 rfl
    simp only [rOf_len] at hl
    unfold maxLen at hl
    have hw := RPat_law p (by omega)
    cases q
    simp [F_RPat0, RPat0_is0, RPat0_n, hw]
  · cases h
theorem Idx_loop (a : List Bd) (ha : a.length ≤ 9223372036854775807) (ka : Int) (nm : List UInt8) (kb kc : Int) (kd : List UInt8) : ∀ (k i : Nat), i + k = a.length → Idx01_V [.sl (rOf cB a) .non, .fn 58 [.ref [.int .i64 ka, .str nm, .int .i64 kb, .int .i64 kc, .str kd]], .int .i64 (a.length : Nat), .int .i64 (i : Nat)] ⟨[], [], []⟩ =
    if idxA (a.drop i) nm i = -1 then some (.exit 0, [], ⟨[], [], []⟩) else some (.ret, [.int .i64 (idxA (a.drop i) nm i)], ⟨[], [], []⟩)
  | 0, i, hi => by
    have hn : ¬ (i : Int) < a.length := by omega
    rw [show a.drop i = [] from List.drop_eq_nil_of_le (by omega), Idx01_E]
    simp [Idx01_Tr, hn, idxA]
  | k + 1, i, hi => by
    have h1 : i < a.length := by omega
    have w := inc_i64 (i := i) (by omega)
    have ih := Idx_loop a ha ka nm kb kc kd k (i + 1) (by omega)
    rw [List.drop_eq_getElem_cons h1, Idx01_E]
    by_cases h2 : a[i].1 = nm
    · have h3 : ¬ (i : Int) = -1 := by omega
      have e : idxA (a[i] :: a.drop (i + 1)) nm i = i := by simp only [idxA, if_pos h2]
      simp only [e]
      simp [Idx01_Tr, h1, h2, h3]
    · have e : idxA (a[i] :: a.drop (i + 1)) nm i = idxA (a.drop (i + 1)) nm ((i + 1 : Nat) : Int) := by simp only [idxA, if_neg h2]; congr 1
      simp only [e]
      rw [← ih]
      simp [Idx01_Tr, h1, h2, w]
theorem Idx_law (a : List Bd) (ha : a.length ≤ 9223372036854775807) (ka : Int) (nm : List UInt8) (kb kc : Int) (kd : List UInt8) : Idx0_W (rOf cB a) ka nm kb kc kd = some (.int .i64 (idxV (rOf cB a) nm)) := by
  have h := Idx_loop a ha ka nm kb kc kd a.length 0 (by omega)
  have hc : idxV (rOf cB a) nm = idxA a nm 0 := by simp only [idxV, unR_of]
  simp only [List.drop_zero] at h
  unfold Idx0_W Idx0_Tr
  rw [hc]
  by_cases h0 : idxA a nm 0 = -1
  · have h0' : idxA a nm ((0 : Nat) : Int) = -1 := h0
    rw [if_pos h0'] at h
    simp at h
    simp [Idx01_is0, Idx01_is1, Idx01_n_0, Idx01_W, h, h0]
  · have h0' : ¬ idxA a nm ((0 : Nat) : Int) = -1 := h0
    rw [if_neg h0'] at h
    simp at h
    simp [Idx01_is0, Idx01_is1, Idx01_n_0, Idx01_W, h]
def F_Idx : List PV → Tr PV
  | [.sl a .non, .fn 58 [.ref [.int .i64 ka, .str nm, .int .i64 kb, .int .i64 kc, .str kd]]] => Tr.chk (okR cB a) (.ret (.int .i64 (idxV a nm)))
  | _ => .fail
theorem sim_Idx (gl : Nat → Option Obj) : SimP Tryd.prog gl 57 fun args => (F_Idx args).run := by
  refine SimP.given (sim_Idx0 gl) ?_
  intro args x hg h
  unfold F_Idx at h
  split at h
  · rename_i a ka nm kb kc kd
    obtain ⟨h0, q0⟩ := Tr.chk_some h
    have q := q0
    obtain ⟨a, rfl⟩ := okR_eq _ h0
    have hl := rel_sl hg 0 rfl
    simp only [rOf_len] at hl
    unfold maxLen at hl
    have hw := Idx_law a (by omega) ka nm kb kc kd
    cases q
    simp [F_Idx0, Idx0_is0, Idx0_n, hw]
  · cases h
theorem Find_loop (l : List Bd) (hl : l.length ≤ 9223372036854775807) (nm : List UInt8) (n n2 : Int) (s : List UInt8) : ∀ (k i : Nat), i + k = l.length → Find01_V [.sl (rOf cB l) .non, .str nm, .ptr 0 0, .int .i64 (i : Nat)] ⟨[[.int .i64 n, .int .i64 n2, .str s]], [], [36]⟩ =
    match findB (l.drop i) nm with
    | some v => some (.ret, [.ptr 0 0, .bool true], ⟨[[.int .i64 v.1, .int .i64 v.2.1, .str v.2.2]], [], [36]⟩)
    | none => some (.exit 0, [.ptr 0 0], ⟨[[.int .i64 n, .int .i64 n2, .str s]], [], [36]⟩)
  | 0, i, hi => by
    have hn : ¬ (i : Int) < l.length := by omega
    rw [show l.drop i = [] from List.drop_eq_nil_of_le (by omega), Find01_E]
    simp [Find01_Tr, hn, findB]
  | k + 1, i, hi => by
    have h1 : i < l.length := by omega
    have w := inc_i64 (i := i) (by omega)
    have ih := Find_loop l hl nm n n2 s k (i + 1) (by omega)
    rw [List.drop_eq_getElem_cons h1, Find01_E]
    simp only [findB]
    by_cases h2 : l[i].1 = nm
    · simp [Find01_Tr, h1, h2]
    · rw [if_neg h2, ← ih]
      simp [Find01_Tr, h1, h2, w]
theorem Find_law (l : List Bd) (hl : l.length ≤ 9223372036854775807) (nm : List UInt8) : Find0_W (rOf cB l) nm = some (.tup [.agg [.int .i64 (fdK (rOf cB l) nm), .int .i64 (fdN (rOf cB l) nm), .str (fdS (rOf cB l) nm)], .bool (fdO (rOf cB l) nm)]) := by
  have h := Find_loop l hl nm 0 0 [] l.length 0 (by omega)
  simp only [List.drop_zero] at h
  unfold Find0_W Find0_Tr
  simp only [fdK, fdN, fdS, fdO, unR_of]
  cases hf : findB l nm with
  | some v => rw [hf] at h; simp [-one_cV, -cons_cV] at h; simp [-one_cV, -cons_cV, Find01_is0, Find01_is1, Find01_n_0, Find01_n2_0, Find01_s_0, Find01_b_0, Find01_W, h]
  | none => rw [hf] at h; simp [-one_cV, -cons_cV] at h; simp [-one_cV, -cons_cV, Find01_is0, Find01_is1, Find01_n_0, Find01_n2_0, Find01_s_0, Find01_b_0, Find01_n_1, Find01_n2_1, Find01_s_1, Find01_W, h, zeroVl]
def F_Find : List PV → Tr PV
  | [.sl a .non, .str nm] => Tr.chk (okR cB a) (.ret (.tup [.agg [.int .i64 (fdK a nm), .int .i64 (fdN a nm), .str (fdS a nm)], .bool (fdO a nm)]))
  | _ => .fail
theorem sim_Find (gl : Nat → Option Obj) : SimP Tryd.prog gl 19 fun args => (F_Find args).run := by
  refine SimP.given (sim_Find0 gl) ?_
  intro args x hg h
  unfold F_Find at h
  split at h
  · rename_i a nm
    obtain ⟨h0, q0⟩ := Tr.chk_some h
    have q := q0
    obtain ⟨a, rfl⟩ := okR_eq _ h0
    have hl := rel_sl hg 0 rfl
    simp only [rOf_len] at hl
    unfold maxLen at hl
    have hw := Find_law a (by omega) nm
    cases q
    simp [F_Find0, Find0_is0, Find0_n, Find0_n2, Find0_s, Find0_b, hw]
  · cases h
theorem SameB_loop (a b : List Bd) (ha : a.length ≤ 9223372036854775807) (hl : a.length = b.length) : ∀ (k i : Nat), i + k = a.length → SameB01_V [.sl (rOf cB a) .non, .sl (rOf cB b) .non, .int .i64 (i : Nat)] ⟨[], [], []⟩ =
    if a.drop i = b.drop i then some (.exit 0, [], ⟨[], [], []⟩) else some (.ret, [.bool false], ⟨[], [], []⟩)
  | 0, i, hi => by
    have hn : ¬ (i : Int) < a.length := by omega
    rw [show a.drop i = [] from List.drop_eq_nil_of_le (by omega), show b.drop i = [] from List.drop_eq_nil_of_le (by omega), SameB01_E]
    simp [SameB01_Tr, hn]
  | k + 1, i, hi => by
    have h1 : i < a.length := by omega
    have h2 : i < b.length := by omega
    have w := inc_i64 (i := i) (by omega)
    have ih := SameB_loop a b ha hl k (i + 1) (by omega)
    have key : (a.drop i = b.drop i) = (a[i] = b[i] ∧ a.drop (i + 1) = b.drop (i + 1)) := by rw [List.drop_eq_getElem_cons h1, List.drop_eq_getElem_cons h2, List.cons.injEq]
    simp only [key]
    rw [SameB01_E]
    by_cases e : a[i] = b[i]
    · simp only [e, true_and]
      rw [← ih]
      simp [SameB01_Tr, h1, h2, w, e]
    · have e' : ¬ (a[i].1 = b[i].1 ∧ (a[i].2.1 = b[i].2.1 ∧ a[i].2.2.1 = b[i].2.2.1 ∧ a[i].2.2.2 = b[i].2.2.2)) := fun h => e (Prod.ext h.1 (Prod.ext h.2.1 (Prod.ext h.2.2.1 h.2.2.2)))
      simp [SameB01_Tr, h1, h2, w, e]
      rw [if_pos (by simpa only [Classical.not_and_iff_not_or_not] using e')]
      rfl
theorem SameB_law (a b : List Bd) (ha : a.length ≤ 9223372036854775807) : SameB0_W (rOf cB a) (rOf cB b) = some (.bool (eqRB (rOf cB a) (rOf cB b))) := by
  have hc : eqRB (rOf cB a) (rOf cB b) = decide (a = b) := by simp only [eqRB, unR_of]
  unfold SameB0_W SameB0_Tr
  rw [hc]
  by_cases hl : a.length = b.length
  · have h := SameB_loop a b ha hl a.length 0 (by omega)
    simp only [List.drop_zero] at h
    by_cases e : a = b
    · subst e; simp at h; simp [SameB01_is0, SameB01_is1, SameB01_b_0, SameB01_W, h]
    · rw [if_neg e] at h; simp at h; simp [SameB01_is0, SameB01_is1, SameB01_b_0, SameB01_W, h, e, hl]
  · have hl' : (a.length : Int) ≠ b.length := by omega
    have e : a ≠ b := by rintro rfl; exact hl rfl
    simp [hl', e]
def F_SameB : List PV → Tr PV
  | [.sl a .non, .sl b .non] => Tr.chk (okR cB a) (Tr.chk (okR cB b) (.ret (.bool (eqRB a b))))
  | _ => .fail
theorem sim_SameB (gl : Nat → Option Obj) : SimP Tryd.prog gl 30 fun args => (F_SameB args).run := by
  refine SimP.given (sim_SameB0 gl) ?_
  intro args x hg h
  unfold F_SameB at h
  split at h
  · rename_i a b
    obtain ⟨h0, q0⟩ := Tr.chk_some h
    obtain ⟨h1, q1⟩ := Tr.chk_some q0
    have q := q1
    obtain ⟨a, rfl⟩ := okR_eq _ h0
    obtain ⟨b, rfl⟩ := okR_eq _ h1
    have hl := rel_sl hg 0 rfl
    simp only [rOf_len] at hl
    unfold maxLen at hl
    have hw := SameB_law a b (by omega)
    cases q
    simp [F_SameB0, SameB0_is0, SameB0_b, hw]
  · cases h
end Go.Pv

set_option maxHeartbeats 4000000
set_option maxRecDepth 200000
set_option linter.unusedSimpArgs false
set_option linter.unusedVariables false
namespace Go.Pv
open Go Go.Proofs
noncomputable def G_TCmp : GamT := ofL [(55, .pure F_CmpF), (56, .pure F_Compare)]
theorem gok_TCmp (gl : Nat → Option Obj) : GamOk Tryd.prog gl (gam G_TCmp) := (gamOk_cons (sim_CmpF gl) (gamOk_cons (sim_Compare gl) gamOk_nil))
noncomputable def L_TCmp : LpsT := fun r fr σ => .fail
noncomputable def TCmp_Tr (a : List (List PV)) (b : List (List PV)) : Tr PV := Tr.ite (okR cV (lockLL a)) (Tr.ite (okR cV (lockLL b)) (Tr.ret (PV.int .i64 (cmpTV (lockLL a) (lockLL b)))) Tr.fail) Tr.fail
theorem TCmp_T (a : List (List PV)) (b : List (List PV)) : (tcall tbT G_TCmp L_TCmp Tryd.f16 [.sl a .non, .sl b .non]).flat = TCmp_Tr a b := by kernel_rfl
noncomputable def F_TCmp : List PV → Tr PV | [.sl a .non, .sl b .non] => TCmp_Tr a b | _ => .fail
theorem sim_TCmp (gl : Nat → Option Obj) : SimP Tryd.prog gl 16 fun args => (F_TCmp args).run := by
  refine SimP.of_flat (G := G_TCmp) (L := L_TCmp) tbT_ok (gok_TCmp gl ) noMixed Tryd.func16 rfl (by rfl) (by kernel_rfl) (loopOk_none (by kernel_rfl)) ?_
  intro args x h
  unfold F_TCmp at h
  split at h
  · exact (congrArg Tr.run (TCmp_T _ _)).trans h
  · cases h
noncomputable def G_Same : GamT := ofL [(39, .pure F_CmpR)]
theorem gok_Same (gl : Nat → Option Obj) : GamOk Tryd.prog gl (gam G_Same) := (gamOk_cons (sim_CmpR gl) gamOk_nil)
noncomputable def L_Same : LpsT := fun r fr σ => .fail
noncomputable def Same_Tr (a : List (List PV)) (b : List (List PV)) : Tr PV := Tr.ite (okR cV (lockLL a)) (Tr.ite (okR cV (lockLL b)) (Tr.ret (PV.bool (iEq (cmpTR (lockLL a) (lockLL b)) 0))) Tr.fail) Tr.fail
theorem Same_T (a : List (List PV)) (b : List (List PV)) : (tcall tbT G_Same L_Same Tryd.f17 [.sl a .non, .sl b .non]).flat = Same_Tr a b := by kernel_rfl
noncomputable def F_Same : List PV → Tr PV | [.sl a .non, .sl b .non] => Same_Tr a b | _ => .fail
theorem sim_Same (gl : Nat → Option Obj) : SimP Tryd.prog gl 17 fun args => (F_Same args).run := by
  refine SimP.of_flat (G := G_Same) (L := L_Same) tbT_ok (gok_Same gl ) noMixed Tryd.func17 rfl (by rfl) (by kernel_rfl) (loopOk_none (by kernel_rfl)) ?_
  intro args x h
  unfold F_Same at h
  split at h
  · exact (congrArg Tr.run (Same_T _ _)).trans h
  · cases h
noncomputable def G_TPat0 : GamT := ofL [(63, .pure F_term)]
theorem gok_TPat0 (gl : Nat → Option Obj) : GamOk Tryd.prog gl (gam G_TPat0) := (gamOk_cons (sim_term gl) gamOk_nil)
noncomputable def c_TPat01 : Code := loopC Tryd.f28 4
def I_TPat01 : LI := ⟨18, [8, 9, 10], fun e => match e with | .ret => [2] | .exit 0 => [] | _ => [], true⟩
noncomputable def LI_TPat01 : LpsT := fun r fr σ => .fail
noncomputable def TPat01_V (vs : List PV) (σ : Store) : Option (PExit × List PV × Store) := lval (lstep tbT G_TPat0 LI_TPat01 c_TPat01 I_TPat01) vs σ
noncomputable def TPat01_Tr (r : List (List PV)) (n : Int) (n2 : Int) : Tr LR := Tr.ite (iLt n2 n) (Tr.ite (okPos n2) (Tr.ite (okGet [PV.int .i64 0, PV.str [], PV.int .i64 0, PV.int .i64 0, PV.str []] r (nNat n2)) (Tr.ite (bNot (isTmV (xInt r (nNat n2) 0) (xStr r (nNat n2) 1) (xInt r (nNat n2) 2) (xInt r (nNat n2) 3) (xStr r (nNat n2) 4))) (Tr.ret (LR.out .ret [PV.int .i64 22] (Store.mk [] [] []))) (Tr.ret (LR.next [PV.sl (dropPLL 0 r) .non, PV.int .i64 n, PV.int .i64 (iAdd .i64 n2 1)] (Store.mk [] [] [])))) Tr.fail) Tr.fail) (Tr.ret (LR.out (.exit 0) [] (Store.mk [] [] [])))
theorem TPat01_T (r : List (List PV)) (n : Int) (n2 : Int) : lstep tbT G_TPat0 LI_TPat01 c_TPat01 I_TPat01 [.sl r .non, .int .i64 n, .int .i64 n2] ⟨[], [], []⟩ = TPat01_Tr r n n2 := by kernel_rfl
theorem TPat01_E (r : List (List PV)) (n : Int) (n2 : Int) : TPat01_V [.sl r .non, .int .i64 n, .int .i64 n2] ⟨[], [], []⟩ = lnext TPat01_V (TPat01_Tr r n n2).run := by unfold TPat01_V; rw [lval_eq, TPat01_T]
noncomputable def TPat01_W (r : List (List PV)) (n : Int) (n2 : Int) : Option (PExit × List PV × Store) := TPat01_V [.sl r .non, .int .i64 n, .int .i64 n2] ⟨[], [], []⟩
noncomputable def TPat01_n_0 (r : List (List PV)) (n : Int) (n2 : Int) : Int := (gInt (gOut (TPat01_W r n n2) 0))
noncomputable def TPat01_is0 (r : List (List PV)) (n : Int) (n2 : Int) : Bool := isW (TPat01_W r n n2) (.ret, [.int .i64 (TPat01_n_0 r n n2)], ⟨[], [], []⟩)
noncomputable def TPat01_is1 (r : List (List PV)) (n : Int) (n2 : Int) : Bool := isW (TPat01_W r n n2) ((.exit 0), [], ⟨[], [], []⟩)
noncomputable def TPat01_prop : List PV → Store → Tr (PExit × List PV × Store) | [.sl r .non, .int .i64 n, .int .i64 n2], ⟨[], [], []⟩ => .ite (TPat01_is0 r n n2) (.ret (.ret, [.int .i64 (TPat01_n_0 r n n2)], ⟨[], [], []⟩)) (.ite (TPat01_is1 r n n2) (.ret ((.exit 0), [], ⟨[], [], []⟩)) (.fail)) | _, _ => .fail
theorem TPat01_ok : ∀ vs σ r, (TPat01_prop vs σ).run = some r → TPat01_V vs σ = some r := by
  intro vs σ r h
  unfold TPat01_prop at h
  split at h
  · exact ite_isW h fun h => ite_isW h fun h => by cases h
  · cases h
theorem loop_TPat01 (gl : Nat → Option Obj) : ∀ fr σ e fr' σ', (orc I_TPat01 TPat01_prop fr σ).run = some (e, fr', σ') → LDoes Tryd.prog gl c_TPat01 fr σ e fr' σ' := orc_ok tbT_ok (gok_TPat0 gl ) noMixed (L := LI_TPat01) (loopOk_none (by kernel_rfl)) (by kernel_rfl) TPat01_ok
noncomputable def L_TPat0 : LpsT := fun r fr σ => bif Nat.beq r 4 then orc I_TPat01 TPat01_prop fr σ else .fail
noncomputable def TPat0_Tr (p_ : List (List PV)) : Tr PV := Tr.ite (iLt 8 (xLen p_)) (Tr.ret (PV.int .i64 22)) (Tr.ite (TPat01_is0 p_ (xLen p_) 0) (Tr.ret (PV.int .i64 (TPat01_n_0 p_ (xLen p_) 0))) (Tr.ite (TPat01_is1 p_ (xLen p_) 0) (Tr.ret (PV.int .i64 0)) Tr.fail))
theorem TPat0_T (p_ : List (List PV)) : (tcall tbT G_TPat0 L_TPat0 Tryd.f28 [.sl p_ .non]).flat = TPat0_Tr p_ := by kernel_rfl
noncomputable def TPat0_W (p_ : List (List PV)) : Option PV := (TPat0_Tr p_).run
noncomputable def TPat0_n (p_ : List (List PV)) : Int := (gInt (gVal (TPat0_W p_)))
noncomputable def TPat0_is0 (p_ : List (List PV)) : Bool := isW (TPat0_W p_) (.int .i64 (TPat0_n p_))
noncomputable def F_TPat0 : List PV → Tr PV | [.sl p_ .non] => .ite (TPat0_is0 p_) (.ret (.int .i64 (TPat0_n p_))) (.fail) | _ => .fail
theorem sim_TPat0 (gl : Nat → Option Obj) : SimP Tryd.prog gl 28 fun args => (F_TPat0 args).run := by
  refine SimP.of_flat (G := G_TPat0) (L := L_TPat0) tbT_ok (gok_TPat0 gl ) noMixed Tryd.func28 rfl (by rfl) (by kernel_rfl) (loopOk_all (L := lps L_TPat0) [(4, c_TPat01)] (by kernel_rfl) (List.forall_mem_cons.2 ⟨fun fr σ e fr' σ' h => loop_TPat01 gl  fr σ e fr' σ' h, (List.forall_mem_nil _)⟩)) ?_
  intro args x h
  unfold F_TPat0 at h
  split at h
  · exact (congrArg Tr.run (TPat0_T _)).trans (ite_isW h fun h => by cases h)
  · cases h
end Go.Pv

set_option maxHeartbeats 4000000
set_option maxRecDepth 200000
set_option linter.unusedSimpArgs false
set_option linter.unusedVariables false
namespace Go.Pv
open Go Go.Proofs
theorem TPat_loop (p : List Tm) (hp : p.length ≤ 9223372036854775807) : TPat01_V [.sl (rOf cM p) .non, .int .i64 (p.length : Nat), .int .i64 0] ⟨[], [], []⟩ = if p.all isTm = true then some (.exit 0, [], ⟨[], [], []⟩) else some (.ret, [.int .i64 22], ⟨[], [], []⟩) := by
  have h := loop_scan (l := p) (V := fun i => TPat01_V [.sl (rOf cM p) .non, .int .i64 (p.length : Nat), .int .i64 (i : Nat)] ⟨[], [], []⟩) (fun _ v => if isTm v = true then none else some ()) (fun _ => some (.ret, [.int .i64 22], ⟨[], [], []⟩)) (some (.exit 0, [], ⟨[], [], []⟩)) ?_ ?_
  · rw [scan_all] at h
    refine h.trans ?_
    by_cases ha : p.all isTm = true
    · rw [if_pos ha, if_pos ha]
    · rw [if_neg ha, if_neg ha]
  · intro i hi
    have w := inc_i64 (i := i) (by omega)
    show TPat01_V _ _ = _
    rw [TPat01_E]
    by_cases hv : isTm p[i] = true
    · have hv' : isTmV p[i].1 p[i].2.1 p[i].2.2.1 p[i].2.2.2.1 p[i].2.2.2.2 = true := hv
      simp [TPat01_Tr, hi, w, hv, hv']
    · have hv' : isTmV p[i].1 p[i].2.1 p[i].2.2.1 p[i].2.2.2.1 p[i].2.2.2.2 = false := by simpa [isTm] using hv
      simp [TPat01_Tr, hi, w, hv, hv']
  · show TPat01_V _ _ = _
    rw [TPat01_E]
    simp [TPat01_Tr]
theorem TPat_law (p : List Tm) (hp : p.length ≤ 9223372036854775807) : TPat0_W (rOf cM p) = some (.int .i64 (chkP (rOf cM p))) := by
  have h := TPat_loop p hp
  have hc : chkP (rOf cM p) = if p.length ≤ 8 ∧ p.all isTm = true then 0 else 22 := by simp only [chkP, unR_of]
  unfold TPat0_W TPat0_Tr
  rw [hc]
  by_cases h8 : p.length ≤ 8
  · have h8' : ¬ (8 : Int) < p.length := by omega
    cases ha : p.all isTm <;> (rw [ha] at h; simp at h; simp [TPat01_is0, TPat01_is1, TPat01_n_0, TPat01_W, h, h8, h8'])
  · have h8' : (8 : Int) < p.length := by omega
    simp [h8, h8']
def F_TPat : List PV → Tr PV
  | [.sl p .non] => Tr.chk (okR cM p) (.ret (.int .i64 (chkP p)))
  | _ => .fail
theorem sim_TPat (gl : Nat → Option Obj) : SimP Tryd.prog gl 28 fun args => (F_TPat args).run := by
  refine SimP.given (sim_TPat0 gl) ?_
  intro args x hg h
  unfold F_TPat at h
  split at h
  · rename_i p
    obtain ⟨h0, q0⟩ := Tr.chk_some h
    have q := q0
    obtain ⟨p, rfl⟩ := okR_eq _ h0
    have hl := rel_sl hg 0 rfl
    simp only [rOf_len] at hl
    unfold maxLen at hl
    have hw := TPat_law p (by omega)
    cases q
    simp [F_TPat0, TPat0_is0, TPat0_n, hw]
  · cases h
end Go.Pv

set_option maxHeartbeats 4000000
set_option maxRecDepth 200000
set_option linter.unusedSimpArgs false
set_option linter.unusedVariables false
namespace Go.Pv
open Go Go.Proofs
noncomputable def G_ins : GamT := ofL [(16, .pure F_TCmp)]
theorem gok_ins (gl : Nat → Option Obj) : GamOk Tryd.prog gl (gam G_ins) := (gamOk_cons (sim_TCmp gl) gamOk_nil)
noncomputable def c_ins1 : Code := loopC Tryd.f119 1
noncomputable def c_ins2 : Code := loopC Tryd.f119 4
def I_ins2 : LI := ⟨53, [0, 1, 2, 3, 8, 9], fun e => match e with | .exit 2 => [0, 1, 2, 3, 8] | _ => [], false⟩
noncomputable def LI_ins2 : LpsT := fun r fr σ => .fail
noncomputable def ins2_V (vs : List PV) (σ : Store) : Option (PExit × List PV × Store) := lval (lstep tbT G_ins LI_ins2 c_ins2 I_ins2) vs σ
noncomputable def ins2_Tr (data : Nat) (data2 : Nat) (a : Int) (b : Int) (i : Int) (j : Int) (l : List PV) (l2 : List PV) (rest : List (List PV)) (toks : List (Nat × Nat × TypeId)) (tys : List TypeId) : Tr LR := Tr.ite (iLt a j) (Tr.ite (okIx j data2) (Tr.ite (okCell [PV.sl [] .full] l2 (pOff data (nNat j) 1)) (Tr.ite (okIx (iSub .i64 j 1) data2) (Tr.ite (okCell [PV.sl [] .full] l2 (pOff data (nNat (iSub .i64 j 1)) 1)) (Tr.ite (okR cV (lockLL (lockLL (cRow l2 (pOff data (nNat j) 1) 0)))) (Tr.ite (okR cV (lockLL (lockLL (cRow l2 (pOff data (nNat (iSub .i64 j 1)) 1) 0)))) (Tr.ite (iLt (cmpTV (lockLL (lockLL (cRow l2 (pOff data (nNat j) 1) 0))) (lockLL (lockLL (cRow l2 (pOff data (nNat (iSub .i64 j 1)) 1) 0)))) 0) (Tr.ite (okIx (iSub .i64 j 1) data2) (Tr.ite (okCell [PV.sl [] .full] l2 (pOff data (nNat (iSub .i64 j 1)) 1)) (Tr.ite (okIx j data2) (Tr.ite (okCell [PV.sl [] .full] l2 (pOff data (nNat j) 1)) (Tr.ite (okIx j data2) (Tr.ite (okOff l2 (pOff data (nNat j) 1) 1) (Tr.ite (okIx (iSub .i64 j 1) data2) (Tr.ite (okOff (putC l2 (pOff data (nNat j) 1) [PV.sl (cRow l2 (pOff data (nNat (iSub .i64 j 1)) 1) 0) .non]) (pOff data (nNat (iSub .i64 j 1)) 1) 1) (Tr.ret (LR.next [PV.osl 1 data data2 1, PV.int .i64 a, PV.int .i64 b, PV.fn 16 [], PV.int .i64 i, PV.int .i64 (iSub .i64 j 1)] (Store.mk (l :: putC (putC l2 (pOff data (nNat j) 1) [PV.sl (cRow l2 (pOff data (nNat (iSub .i64 j 1)) 1) 0) .non]) (pOff data (nNat (iSub .i64 j 1)) 1) [PV.sl (cRow l2 (pOff data (nNat j) 1) 0) .non] :: rest) toks (82 :: 1000023 :: tys)))) Tr.fail) Tr.fail) Tr.fail) Tr.fail) Tr.fail) Tr.fail) Tr.fail) Tr.fail) (Tr.ret (LR.out (.exit 2) [PV.osl 1 data data2 1, PV.int .i64 a, PV.int .i64 b, PV.fn 16 [], PV.int .i64 i] (Store.mk (l :: l2 :: rest) toks (82 :: 1000023 :: tys))))) Tr.fail) Tr.fail) Tr.fail) Tr.fail) Tr.fail) Tr.fail) (Tr.ret (LR.out (.exit 2) [PV.osl 1 data data2 1, PV.int .i64 a, PV.int .i64 b, PV.fn 16 [], PV.int .i64 i] (Store.mk (l :: l2 :: rest) toks (82 :: 1000023 :: tys))))
theorem ins2_T (data : Nat) (data2 : Nat) (a : Int) (b : Int) (i : Int) (j : Int) (l : List PV) (l2 : List PV) (rest : List (List PV)) (toks : List (Nat × Nat × TypeId)) (tys : List TypeId) : lstep tbT G_ins LI_ins2 c_ins2 I_ins2 [.osl 1 data data2 1, .int .i64 a, .int .i64 b, .fn 16 [], .int .i64 i, .int .i64 j] ⟨(l :: l2 :: rest), (toks), (82 :: 1000023 :: tys)⟩ = ins2_Tr data data2 a b i j l l2 rest toks tys := by kernel_rfl
theorem ins2_E (data : Nat) (data2 : Nat) (a : Int) (b : Int) (i : Int) (j : Int) (l : List PV) (l2 : List PV) (rest : List (List PV)) (toks : List (Nat × Nat × TypeId)) (tys : List TypeId) : ins2_V [.osl 1 data data2 1, .int .i64 a, .int .i64 b, .fn 16 [], .int .i64 i, .int .i64 j] ⟨(l :: l2 :: rest), (toks), (82 :: 1000023 :: tys)⟩ = lnext ins2_V (ins2_Tr data data2 a b i j l l2 rest toks tys).run := by unfold ins2_V; rw [lval_eq, ins2_T]
noncomputable def ins2_W (data : Nat) (data2 : Nat) (a : Int) (b : Int) (i : Int) (j : Int) (l : List PV) (l2 : List PV) (rest : List (List PV)) (toks : List (Nat × Nat × TypeId)) (tys : List TypeId) : Option (PExit × List PV × Store) := ins2_V [.osl 1 data data2 1, .int .i64 a, .int .i64 b, .fn 16 [], .int .i64 i, .int .i64 j] ⟨(l :: l2 :: rest), (toks), (82 :: 1000023 :: tys)⟩
noncomputable def ins2_l2 (data : Nat) (data2 : Nat) (a : Int) (b : Int) (i : Int) (j : Int) (l : List PV) (l2 : List PV) (rest : List (List PV)) (toks : List (Nat × Nat × TypeId)) (tys : List TypeId) : List PV := (gObj (ins2_W data data2 a b i j l l2 rest toks tys) 1)
noncomputable def ins2_is0 (data : Nat) (data2 : Nat) (a : Int) (b : Int) (i : Int) (j : Int) (l : List PV) (l2 : List PV) (rest : List (List PV)) (toks : List (Nat × Nat × TypeId)) (tys : List TypeId) : Bool := isW (ins2_W data data2 a b i j l l2 rest toks tys) ((.exit 2), [.osl 1 data data2 1, .int .i64 a, .int .i64 b, .fn 16 [], .int .i64 i], ⟨(l :: (ins2_l2 data data2 a b i j l l2 rest toks tys) :: rest), (toks), (82 :: 1000023 :: tys)⟩)
noncomputable def ins2_prop : List PV → Store → Tr (PExit × List PV × Store) | [.osl 1 data data2 1, .int .i64 a, .int .i64 b, .fn 16 [], .int .i64 i, .int .i64 j], ⟨(l :: l2 :: rest), (toks), (82 :: 1000023 :: tys)⟩ => .ite (ins2_is0 data data2 a b i j l l2 rest toks tys) (.ret ((.exit 2), [.osl 1 data data2 1, .int .i64 a, .int .i64 b, .fn 16 [], .int .i64 i], ⟨(l :: (ins2_l2 data data2 a b i j l l2 rest toks tys) :: rest), (toks), (82 :: 1000023 :: tys)⟩)) (.fail) | _, _ => .fail
theorem ins2_ok : ∀ vs σ r, (ins2_prop vs σ).run = some r → ins2_V vs σ = some r := by
  intro vs σ r h
  unfold ins2_prop at h
  split at h
  · exact ite_isW h fun h => by cases h
  · cases h
theorem loop_ins2 (gl : Nat → Option Obj) : ∀ fr σ e fr' σ', (orc I_ins2 ins2_prop fr σ).run = some (e, fr', σ') → LDoes Tryd.prog gl c_ins2 fr σ e fr' σ' := orc_ok tbT_ok (gok_ins gl ) noMixed (L := LI_ins2) (loopOk_none (by kernel_rfl)) (by kernel_rfl) ins2_ok
def I_ins1 : LI := ⟨53, [0, 1, 2, 3, 8], fun e => match e with | .exit 0 => [] | _ => [], false⟩
noncomputable def LI_ins1 : LpsT := fun r fr σ => bif Nat.beq r 4 then orc I_ins2 ins2_prop fr σ else .fail
noncomputable def ins1_V (vs : List PV) (σ : Store) : Option (PExit × List PV × Store) := lval (lstep tbT G_ins LI_ins1 c_ins1 I_ins1) vs σ
noncomputable def ins1_Tr (data : Nat) (data2 : Nat) (a : Int) (b : Int) (i : Int) (l : List PV) (l2 : List PV) (rest : List (List PV)) (toks : List (Nat × Nat × TypeId)) (tys : List TypeId) : Tr LR := Tr.ite (iLt i b) (Tr.ite (ins2_is0 data data2 a b i i l l2 rest toks tys) (Tr.ret (LR.next [PV.osl 1 data data2 1, PV.int .i64 a, PV.int .i64 b, PV.fn 16 [], PV.int .i64 (iAdd .i64 i 1)] (Store.mk (l :: ins2_l2 data data2 a b i i l l2 rest toks tys :: rest) toks (82 :: 1000023 :: tys)))) Tr.fail) (Tr.ret (LR.out (.exit 0) [] (Store.mk (l :: l2 :: rest) toks (82 :: 1000023 :: tys))))
theorem ins1_T (data : Nat) (data2 : Nat) (a : Int) (b : Int) (i : Int) (l : List PV) (l2 : List PV) (rest : List (List PV)) (toks : List (Nat × Nat × TypeId)) (tys : List TypeId) : lstep tbT G_ins LI_ins1 c_ins1 I_ins1 [.osl 1 data data2 1, .int .i64 a, .int .i64 b, .fn 16 [], .int .i64 i] ⟨(l :: l2 :: rest), (toks), (82 :: 1000023 :: tys)⟩ = ins1_Tr data data2 a b i l l2 rest toks tys := by kernel_rfl
theorem ins1_E (data : Nat) (data2 : Nat) (a : Int) (b : Int) (i : Int) (l : List PV) (l2 : List PV) (rest : List (List PV)) (toks : List (Nat × Nat × TypeId)) (tys : List TypeId) : ins1_V [.osl 1 data data2 1, .int .i64 a, .int .i64 b, .fn 16 [], .int .i64 i] ⟨(l :: l2 :: rest), (toks), (82 :: 1000023 :: tys)⟩ = lnext ins1_V (ins1_Tr data data2 a b i l l2 rest toks tys).run := by unfold ins1_V; rw [lval_eq, ins1_T]
noncomputable def ins1_W (data : Nat) (data2 : Nat) (a : Int) (b : Int) (i : Int) (l : List PV) (l2 : List PV) (rest : List (List PV)) (toks : List (Nat × Nat × TypeId)) (tys : List TypeId) : Option (PExit × List PV × Store) := ins1_V [.osl 1 data data2 1, .int .i64 a, .int .i64 b, .fn 16 [], .int .i64 i] ⟨(l :: l2 :: rest), (toks), (82 :: 1000023 :: tys)⟩
noncomputable def ins1_l2 (data : Nat) (data2 : Nat) (a : Int) (b : Int) (i : Int) (l : List PV) (l2 : List PV) (rest : List (List PV)) (toks : List (Nat × Nat × TypeId)) (tys : List TypeId) : List PV := (gObj (ins1_W data data2 a b i l l2 rest toks tys) 1)
noncomputable def ins1_is0 (data : Nat) (data2 : Nat) (a : Int) (b : Int) (i : Int) (l : List PV) (l2 : List PV) (rest : List (List PV)) (toks : List (Nat × Nat × TypeId)) (tys : List TypeId) : Bool := isW (ins1_W data data2 a b i l l2 rest toks tys) ((.exit 0), [], ⟨(l :: (ins1_l2 data data2 a b i l l2 rest toks tys) :: rest), (toks), (82 :: 1000023 :: tys)⟩)
noncomputable def ins1_prop : List PV → Store → Tr (PExit × List PV × Store) | [.osl 1 data data2 1, .int .i64 a, .int .i64 b, .fn 16 [], .int .i64 i], ⟨(l :: l2 :: rest), (toks), (82 :: 1000023 :: tys)⟩ => .ite (ins1_is0 data data2 a b i l l2 rest toks tys) (.ret ((.exit 0), [], ⟨(l :: (ins1_l2 data data2 a b i l l2 rest toks tys) :: rest), (toks), (82 :: 1000023 :: tys)⟩)) (.fail) | _, _ => .fail
theorem ins1_ok : ∀ vs σ r, (ins1_prop vs σ).run = some r → ins1_V vs σ = some r := by
  intro vs σ r h
  unfold ins1_prop at h
  split at h
  · exact ite_isW h fun h => by cases h
  · cases h
theorem loop_ins1 (gl : Nat → Option Obj) : ∀ fr σ e fr' σ', (orc I_ins1 ins1_prop fr σ).run = some (e, fr', σ') → LDoes Tryd.prog gl c_ins1 fr σ e fr' σ' := orc_ok tbT_ok (gok_ins gl ) noMixed (L := LI_ins1) (loopOk_all (L := lps LI_ins1) [(4, c_ins2)] (by kernel_rfl) (List.forall_mem_cons.2 ⟨fun fr σ e fr' σ' h => loop_ins2 gl  fr σ e fr' σ' h, (List.forall_mem_nil _)⟩)) (by kernel_rfl) ins1_ok
noncomputable def L_ins : LpsT := fun r fr σ => bif Nat.beq r 1 then orc I_ins1 ins1_prop fr σ else .fail
noncomputable def ins_Tr (off : Nat) (len : Nat) (a : Int) (b : Int) (c0 : List PV) (cs : List PV) (rest : List (List PV)) (toks : List (Nat × Nat × TypeId)) (tys : List TypeId) : Tr (PV × Store) := Tr.ite (ins1_is0 off len a b (iAdd .i64 a 1) c0 cs rest toks tys) (Tr.ret (PV.tup [], Store.mk (c0 :: ins1_l2 off len a b (iAdd .i64 a 1) c0 cs rest toks tys :: rest) toks (82 :: 1000023 :: tys))) Tr.fail
theorem ins_T (off : Nat) (len : Nat) (a : Int) (b : Int) (c0 : List PV) (cs : List PV) (rest : List (List PV)) (toks : List (Nat × Nat × TypeId)) (tys : List TypeId) : (tcallS tbT G_ins L_ins Tryd.f119 [.osl 1 off len 1, .int .i64 a, .int .i64 b, .fn 16 []] ⟨c0 :: cs :: rest, toks, 82 :: 1000023 :: tys⟩).flat = ins_Tr off len a b c0 cs rest toks tys := by kernel_rfl
noncomputable def ins_W (off : Nat) (len : Nat) (a : Int) (b : Int) (c0 : List PV) (cs : List PV) (rest : List (List PV)) (toks : List (Nat × Nat × TypeId)) (tys : List TypeId) : Option (PV × Store) := (ins_Tr off len a b c0 cs rest toks tys).run
noncomputable def ins_l2 (off : Nat) (len : Nat) (a : Int) (b : Int) (c0 : List PV) (cs : List PV) (rest : List (List PV)) (toks : List (Nat × Nat × TypeId)) (tys : List TypeId) : List PV := (gObj (asOut (ins_W off len a b c0 cs rest toks tys)) 1)
noncomputable def ins_is0 (off : Nat) (len : Nat) (a : Int) (b : Int) (c0 : List PV) (cs : List PV) (rest : List (List PV)) (toks : List (Nat × Nat × TypeId)) (tys : List TypeId) : Bool := isW (ins_W off len a b c0 cs rest toks tys) (.tup [], ⟨(c0 :: (ins_l2 off len a b c0 cs rest toks tys) :: rest), (toks), (82 :: 1000023 :: tys)⟩)
noncomputable def D_ins : List PV → Store → Tr (PV × Store) | [.osl 1 off len 1, .int .i64 a, .int .i64 b, .fn 16 []], ⟨c0 :: cs :: rest, toks, 82 :: 1000023 :: tys⟩ => .ite (ins_is0 off len a b c0 cs rest toks tys) (.ret (.tup [], ⟨(c0 :: (ins_l2 off len a b c0 cs rest toks tys) :: rest), (toks), (82 :: 1000023 :: tys)⟩)) (.fail) | _, _ => .fail
theorem sim_ins (gl : Nat → Option Obj) : SimS Tryd.prog gl 119 fun args σ => (D_ins args σ).run := by
  refine SimS.of_flat (G := G_ins) (L := L_ins) tbT_ok (gok_ins gl ) noMixed Tryd.func119 rfl (by rfl) (by kernel_rfl) (loopOk_all (L := lps L_ins) [(1, c_ins1)] (by kernel_rfl) (List.forall_mem_cons.2 ⟨fun fr σ e fr' σ' h => loop_ins1 gl  fr σ e fr' σ' h, (List.forall_mem_nil _)⟩)) ?_
  intro args σ x h
  unfold D_ins at h
  split at h
  · exact (congrArg Tr.run (ins_T _ _ _ _ _ _ _ _ _)).trans (ite_isW h fun h => by cases h)
  · cases h
noncomputable def G_swp : GamT := ofL []
theorem gok_swp (gl : Nat → Option Obj) : GamOk Tryd.prog gl (gam G_swp) := gamOk_nil
noncomputable def c_swp1 : Code := loopC Tryd.f144 1
def I_swp1 : LI := ⟨38, [0, 1, 2, 3, 10], fun e => match e with | .exit 0 => [] | _ => [], false⟩
noncomputable def LI_swp1 : LpsT := fun r fr σ => .fail
noncomputable def swp1_V (vs : List PV) (σ : Store) : Option (PExit × List PV × Store) := lval (lstep tbT G_swp LI_swp1 c_swp1 I_swp1) vs σ
noncomputable def swp1_Tr (data : Nat) (data2 : Nat) (a : Int) (b : Int) (n : Int) (i : Int) (l : List PV) (l2 : List PV) (rest : List (List PV)) (toks : List (Nat × Nat × TypeId)) (tys : List TypeId) : Tr LR := Tr.ite (iLt i n) (Tr.ite (okIx (iAdd .i64 b i) data2) (Tr.ite (okCell [PV.sl [] .full] l2 (pOff data (nNat (iAdd .i64 b i)) 1)) (Tr.ite (okIx (iAdd .i64 a i) data2) (Tr.ite (okCell [PV.sl [] .full] l2 (pOff data (nNat (iAdd .i64 a i)) 1)) (Tr.ite (okIx (iAdd .i64 a i) data2) (Tr.ite (okOff l2 (pOff data (nNat (iAdd .i64 a i)) 1) 1) (Tr.ite (okIx (iAdd .i64 b i) data2) (Tr.ite (okOff (putC l2 (pOff data (nNat (iAdd .i64 a i)) 1) [PV.sl (cRow l2 (pOff data (nNat (iAdd .i64 b i)) 1) 0) .non]) (pOff data (nNat (iAdd .i64 b i)) 1) 1) (Tr.ret (LR.next [PV.osl 1 data data2 1, PV.int .i64 a, PV.int .i64 b, PV.int .i64 n, PV.int .i64 (iAdd .i64 i 1)] (Store.mk (l :: putC (putC l2 (pOff data (nNat (iAdd .i64 a i)) 1) [PV.sl (cRow l2 (pOff data (nNat (iAdd .i64 b i)) 1) 0) .non]) (pOff data (nNat (iAdd .i64 b i)) 1) [PV.sl (cRow l2 (pOff data (nNat (iAdd .i64 a i)) 1) 0) .non] :: rest) toks (82 :: 1000023 :: tys)))) Tr.fail) Tr.fail) Tr.fail) Tr.fail) Tr.fail) Tr.fail) Tr.fail) Tr.fail) (Tr.ret (LR.out (.exit 0) [] (Store.mk (l :: l2 :: rest) toks (82 :: 1000023 :: tys))))
theorem swp1_T (data : Nat) (data2 : Nat) (a : Int) (b : Int) (n : Int) (i : Int) (l : List PV) (l2 : List PV) (rest : List (List PV)) (toks : List (Nat × Nat × TypeId)) (tys : List TypeId) : lstep tbT G_swp LI_swp1 c_swp1 I_swp1 [.osl 1 data data2 1, .int .i64 a, .int .i64 b, .int .i64 n, .int .i64 i] ⟨(l :: l2 :: rest), (toks), (82 :: 1000023 :: tys)⟩ = swp1_Tr data data2 a b n i l l2 rest toks tys := by kernel_rfl
theorem swp1_E (data : Nat) (data2 : Nat) (a : Int) (b : Int) (n : Int) (i : Int) (l : List PV) (l2 : List PV) (rest : List (List PV)) (toks : List (Nat × Nat × TypeId)) (tys : List TypeId) : swp1_V [.osl 1 data data2 1, .int .i64 a, .int .i64 b, .int .i64 n, .int .i64 i] ⟨(l :: l2 :: rest), (toks), (82 :: 1000023 :: tys)⟩ = lnext swp1_V (swp1_Tr data data2 a b n i l l2 rest toks tys).run := by unfold swp1_V; rw [lval_eq, swp1_T]
noncomputable def swp1_W (data : Nat) (data2 : Nat) (a : Int) (b : Int) (n : Int) (i : Int) (l : List PV) (l2 : List PV) (rest : List (List PV)) (toks : List (Nat × Nat × TypeId)) (tys : List TypeId) : Option (PExit × List PV × Store) := swp1_V [.osl 1 data data2 1, .int .i64 a, .int .i64 b, .int .i64 n, .int .i64 i] ⟨(l :: l2 :: rest), (toks), (82 :: 1000023 :: tys)⟩
noncomputable def swp1_l2 (data : Nat) (data2 : Nat) (a : Int) (b : Int) (n : Int) (i : Int) (l : List PV) (l2 : List PV) (rest : List (List PV)) (toks : List (Nat × Nat × TypeId)) (tys : List TypeId) : List PV := (gObj (swp1_W data data2 a b n i l l2 rest toks tys) 1)
noncomputable def swp1_is0 (data : Nat) (data2 : Nat) (a : Int) (b : Int) (n : Int) (i : Int) (l : List PV) (l2 : List PV) (rest : List (List PV)) (toks : List (Nat × Nat × TypeId)) (tys : List TypeId) : Bool := isW (swp1_W data data2 a b n i l l2 rest toks tys) ((.exit 0), [], ⟨(l :: (swp1_l2 data data2 a b n i l l2 rest toks tys) :: rest), (toks), (82 :: 1000023 :: tys)⟩)
noncomputable def swp1_prop : List PV → Store → Tr (PExit × List PV × Store) | [.osl 1 data data2 1, .int .i64 a, .int .i64 b, .int .i64 n, .int .i64 i], ⟨(l :: l2 :: rest), (toks), (82 :: 1000023 :: tys)⟩ => .ite (swp1_is0 data data2 a b n i l l2 rest toks tys) (.ret ((.exit 0), [], ⟨(l :: (swp1_l2 data data2 a b n i l l2 rest toks tys) :: rest), (toks), (82 :: 1000023 :: tys)⟩)) (.fail) | _, _ => .fail
theorem swp1_ok : ∀ vs σ r, (swp1_prop vs σ).run = some r → swp1_V vs σ = some r := by
  intro vs σ r h
  unfold swp1_prop at h
  split at h
  · exact ite_isW h fun h => by cases h
  · cases h
theorem loop_swp1 (gl : Nat → Option Obj) : ∀ fr σ e fr' σ', (orc I_swp1 swp1_prop fr σ).run = some (e, fr', σ') → LDoes Tryd.prog gl c_swp1 fr σ e fr' σ' := orc_ok tbT_ok (gok_swp gl ) noMixed (L := LI_swp1) (loopOk_none (by kernel_rfl)) (by kernel_rfl) swp1_ok
noncomputable def L_swp : LpsT := fun r fr σ => bif Nat.beq r 1 then orc I_swp1 swp1_prop fr σ else .fail
noncomputable def swp_Tr (off : Nat) (len : Nat) (a : Int) (b : Int) (n : Int) (c0 : List PV) (cs : List PV) (rest : List (List PV)) (toks : List (Nat × Nat × TypeId)) (tys : List TypeId) : Tr (PV × Store) := Tr.ite (swp1_is0 off len a b n 0 c0 cs rest toks tys) (Tr.ret (PV.tup [], Store.mk (c0 :: swp1_l2 off len a b n 0 c0 cs rest toks tys :: rest) toks (82 :: 1000023 :: tys))) Tr.fail
theorem swp_T (off : Nat) (len : Nat) (a : Int) (b : Int) (n : Int) (c0 : List PV) (cs : List PV) (rest : List (List PV)) (toks : List (Nat × Nat × TypeId)) (tys : List TypeId) : (tcallS tbT G_swp L_swp Tryd.f144 [.osl 1 off len 1, .int .i64 a, .int .i64 b, .int .i64 n, .fn 16 []] ⟨c0 :: cs :: rest, toks, 82 :: 1000023 :: tys⟩).flat = swp_Tr off len a b n c0 cs rest toks tys := by kernel_rfl
noncomputable def swp_W (off : Nat) (len : Nat) (a : Int) (b : Int) (n : Int) (c0 : List PV) (cs : List PV) (rest : List (List PV)) (toks : List (Nat × Nat × TypeId)) (tys : List TypeId) : Option (PV × Store) := (swp_Tr off len a b n c0 cs rest toks tys).run
noncomputable def swp_l2 (off : Nat) (len : Nat) (a : Int) (b : Int) (n : Int) (c0 : List PV) (cs : List PV) (rest : List (List PV)) (toks : List (Nat × Nat × TypeId)) (tys : List TypeId) : List PV := (gObj (asOut (swp_W off len a b n c0 cs rest toks tys)) 1)
noncomputable def swp_is0 (off : Nat) (len : Nat) (a : Int) (b : Int) (n : Int) (c0 : List PV) (cs : List PV) (rest : List (List PV)) (toks : List (Nat × Nat × TypeId)) (tys : List TypeId) : Bool := isW (swp_W off len a b n c0 cs rest toks tys) (.tup [], ⟨(c0 :: (swp_l2 off len a b n c0 cs rest toks tys) :: rest), (toks), (82 :: 1000023 :: tys)⟩)
noncomputable def D_swp : List PV → Store → Tr (PV × Store) | [.osl 1 off len 1, .int .i64 a, .int .i64 b, .int .i64 n, .fn 16 []], ⟨c0 :: cs :: rest, toks, 82 :: 1000023 :: tys⟩ => .ite (swp_is0 off len a b n c0 cs rest toks tys) (.ret (.tup [], ⟨(c0 :: (swp_l2 off len a b n c0 cs rest toks tys) :: rest), (toks), (82 :: 1000023 :: tys)⟩)) (.fail) | _, _ => .fail
theorem sim_swp (gl : Nat → Option Obj) : SimS Tryd.prog gl 144 fun args σ => (D_swp args σ).run := by
  refine SimS.of_flat (G := G_swp) (L := L_swp) tbT_ok (gok_swp gl ) noMixed Tryd.func144 rfl (by rfl) (by kernel_rfl) (loopOk_all (L := lps L_swp) [(1, c_swp1)] (by kernel_rfl) (List.forall_mem_cons.2 ⟨fun fr σ e fr' σ' h => loop_swp1 gl  fr σ e fr' σ' h, (List.forall_mem_nil _)⟩)) ?_
  intro args σ x h
  unfold D_swp at h
  split at h
  · exact (congrArg Tr.run (swp_T _ _ _ _ _ _ _ _ _ _)).trans (ite_isW h fun h => by cases h)
  · cases h
noncomputable def G_rot : GamT := ofL [(16, .pure F_TCmp), (144, .store D_swp)]
theorem gok_rot (gl : Nat → Option Obj) : GamOk Tryd.prog gl (gam G_rot) := (gamOk_cons (sim_TCmp gl) (gamOk_store (sim_swp gl) gamOk_nil))
noncomputable def c_rot1 : Code := loopC Tryd.f133 2
def I_rot1 : LI := ⟨58, [0, 2, 4, 10, 11], fun e => match e with | .exit 0 => [0, 2, 4, 10] | _ => [], false⟩
noncomputable def LI_rot1 : LpsT := fun r fr σ => .fail
noncomputable def rot1_V (vs : List PV) (σ : Store) : Option (PExit × List PV × Store) := lval (lstep tbT G_rot LI_rot1 c_rot1 I_rot1) vs σ
noncomputable def rot1_Tr (data : Nat) (data2 : Nat) (m : Int) (i : Int) (j : Int) (l : List PV) (l2 : List PV) (rest : List (List PV)) (toks : List (Nat × Nat × TypeId)) (tys : List TypeId) : Tr LR := Tr.ite (iNe i j) (Tr.ite (iLt j i) (Tr.ite (swp_is0 data data2 (iSub .i64 m i) m j l l2 rest toks tys) (Tr.ret (LR.next [PV.osl 1 data data2 1, PV.int .i64 m, PV.fn 16 [], PV.int .i64 (iSub .i64 i j), PV.int .i64 j] (Store.mk (l :: swp_l2 data data2 (iSub .i64 m i) m j l l2 rest toks tys :: rest) toks (82 :: 1000023 :: tys)))) Tr.fail) (Tr.ite (swp_is0 data data2 (iSub .i64 m i) (iSub .i64 (iAdd .i64 m j) i) i l l2 rest toks tys) (Tr.ret (LR.next [PV.osl 1 data data2 1, PV.int .i64 m, PV.fn 16 [], PV.int .i64 i, PV.int .i64 (iSub .i64 j i)] (Store.mk (l :: swp_l2 data data2 (iSub .i64 m i) (iSub .i64 (iAdd .i64 m j) i) i l l2 rest toks tys :: rest) toks (82 :: 1000023 :: tys)))) Tr.fail)) (Tr.ret (LR.out (.exit 0) [PV.osl 1 data data2 1, PV.int .i64 m, PV.fn 16 [], PV.int .i64 i] (Store.mk (l :: l2 :: rest) toks (82 :: 1000023 :: tys))))
theorem rot1_T (data : Nat) (data2 : Nat) (m : Int) (i : Int) (j : Int) (l : List PV) (l2 : List PV) (rest : List (List PV)) (toks : List (Nat × Nat × TypeId)) (tys : List TypeId) : lstep tbT G_rot LI_rot1 c_rot1 I_rot1 [.osl 1 data data2 1, .int .i64 m, .fn 16 [], .int .i64 i, .int .i64 j] ⟨(l :: l2 :: rest), (toks), (82 :: 1000023 :: tys)⟩ = rot1_Tr data data2 m i j l l2 rest toks tys := by kernel_rfl
theorem rot1_E (data : Nat) (data2 : Nat) (m : Int) (i : Int) (j : Int) (l : List PV) (l2 : List PV) (rest : List (List PV)) (toks : List (Nat × Nat × TypeId)) (tys : List TypeId) : rot1_V [.osl 1 data data2 1, .int .i64 m, .fn 16 [], .int .i64 i, .int .i64 j] ⟨(l :: l2 :: rest), (toks), (82 :: 1000023 :: tys)⟩ = lnext rot1_V (rot1_Tr data data2 m i j l l2 rest toks tys).run := by unfold rot1_V; rw [lval_eq, rot1_T]
noncomputable def rot1_W (data : Nat) (data2 : Nat) (m : Int) (i : Int) (j : Int) (l : List PV) (l2 : List PV) (rest : List (List PV)) (toks : List (Nat × Nat × TypeId)) (tys : List TypeId) : Option (PExit × List PV × Store) := rot1_V [.osl 1 data data2 1, .int .i64 m, .fn 16 [], .int .i64 i, .int .i64 j] ⟨(l :: l2 :: rest), (toks), (82 :: 1000023 :: tys)⟩
noncomputable def rot1_i (data : Nat) (data2 : Nat) (m : Int) (i : Int) (j : Int) (l : List PV) (l2 : List PV) (rest : List (List PV)) (toks : List (Nat × Nat × TypeId)) (tys : List TypeId) : Int := (gInt (gOut (rot1_W data data2 m i j l l2 rest toks tys) 3))
noncomputable def rot1_l2 (data : Nat) (data2 : Nat) (m : Int) (i : Int) (j : Int) (l : List PV) (l2 : List PV) (rest : List (List PV)) (toks : List (Nat × Nat × TypeId)) (tys : List TypeId) : List PV := (gObj (rot1_W data data2 m i j l l2 rest toks tys) 1)
noncomputable def rot1_is0 (data : Nat) (data2 : Nat) (m : Int) (i : Int) (j : Int) (l : List PV) (l2 : List PV) (rest : List (List PV)) (toks : List (Nat × Nat × TypeId)) (tys : List TypeId) : Bool := isW (rot1_W data data2 m i j l l2 rest toks tys) ((.exit 0), [.osl 1 data data2 1, .int .i64 m, .fn 16 [], .int .i64 (rot1_i data data2 m i j l l2 rest toks tys)], ⟨(l :: (rot1_l2 data data2 m i j l l2 rest toks tys) :: rest), (toks), (82 :: 1000023 :: tys)⟩)
noncomputable def rot1_prop : List PV → Store → Tr (PExit × List PV × Store) | [.osl 1 data data2 1, .int .i64 m, .fn 16 [], .int .i64 i, .int .i64 j], ⟨(l :: l2 :: rest), (toks), (82 :: 1000023 :: tys)⟩ => .ite (rot1_is0 data data2 m i j l l2 rest toks tys) (.ret ((.exit 0), [.osl 1 data data2 1, .int .i64 m, .fn 16 [], .int .i64 (rot1_i data data2 m i j l l2 rest toks tys)], ⟨(l :: (rot1_l2 data data2 m i j l l2 rest toks tys) :: rest), (toks), (82 :: 1000023 :: tys)⟩)) (.fail) | _, _ => .fail
theorem rot1_ok : ∀ vs σ r, (rot1_prop vs σ).run = some r → rot1_V vs σ = some r := by
  intro vs σ r h
  unfold rot1_prop at h
  split at h
  · exact ite_isW h fun h => by cases h
  · cases h
theorem loop_rot1 (gl : Nat → Option Obj) : ∀ fr σ e fr' σ', (orc I_rot1 rot1_prop fr σ).run = some (e, fr', σ') → LDoes Tryd.prog gl c_rot1 fr σ e fr' σ' := orc_ok tbT_ok (gok_rot gl ) noMixed (L := LI_rot1) (loopOk_none (by kernel_rfl)) (by kernel_rfl) rot1_ok
noncomputable def L_rot : LpsT := fun r fr σ => bif Nat.beq r 2 then orc I_rot1 rot1_prop fr σ else .fail
noncomputable def rot_Tr (off : Nat) (len : Nat) (a : Int) (m : Int) (b : Int) (c0 : List PV) (cs : List PV) (rest : List (List PV)) (toks : List (Nat × Nat × TypeId)) (tys : List TypeId) : Tr (PV × Store) := Tr.ite (rot1_is0 off len m (iSub .i64 m a) (iSub .i64 b m) c0 cs rest toks tys) (Tr.ite (swp_is0 off len (iSub .i64 m (rot1_i off len m (iSub .i64 m a) (iSub .i64 b m) c0 cs rest toks tys)) m (rot1_i off len m (iSub .i64 m a) (iSub .i64 b m) c0 cs rest toks tys) c0 (rot1_l2 off len m (iSub .i64 m a) (iSub .i64 b m) c0 cs rest toks tys) rest toks tys) (Tr.ret (PV.tup [], Store.mk (c0 :: swp_l2 off len (iSub .i64 m (rot1_i off len m (iSub .i64 m a) (iSub .i64 b m) c0 cs rest toks tys)) m (rot1_i off len m (iSub .i64 m a) (iSub .i64 b m) c0 cs rest toks tys) c0 (rot1_l2 off len m (iSub .i64 m a) (iSub .i64 b m) c0 cs rest toks tys) rest toks tys :: rest) toks (82 :: 1000023 :: tys))) Tr.fail) Tr.fail
theorem rot_T (off : Nat) (len : Nat) (a : Int) (m : Int) (b : Int) (c0 : List PV) (cs : List PV) (rest : List (List PV)) (toks : List (Nat × Nat × TypeId)) (tys : List TypeId) : (tcallS tbT G_rot L_rot Tryd.f133 [.osl 1 off len 1, .int .i64 a, .int .i64 m, .int .i64 b, .fn 16 []] ⟨c0 :: cs :: rest, toks, 82 :: 1000023 :: tys⟩).flat = rot_Tr off len a m b c0 cs rest toks tys := by kernel_rfl
noncomputable def rot_W (off : Nat) (len : Nat) (a : Int) (m : Int) (b : Int) (c0 : List PV) (cs : List PV) (rest : List (List PV)) (toks : List (Nat × Nat × TypeId)) (tys : List TypeId) : Option (PV × Store) := (rot_Tr off len a m b c0 cs rest toks tys).run
noncomputable def rot_l2 (off : Nat) (len : Nat) (a : Int) (m : Int) (b : Int) (c0 : List PV) (cs : List PV) (rest : List (List PV)) (toks : List (Nat × Nat × TypeId)) (tys : List TypeId) : List PV := (gObj (asOut (rot_W off len a m b c0 cs rest toks tys)) 1)
noncomputable def rot_is0 (off : Nat) (len : Nat) (a : Int) (m : Int) (b : Int) (c0 : List PV) (cs : List PV) (rest : List (List PV)) (toks : List (Nat × Nat × TypeId)) (tys : List TypeId) : Bool := isW (rot_W off len a m b c0 cs rest toks tys) (.tup [], ⟨(c0 :: (rot_l2 off len a m b c0 cs rest toks tys) :: rest), (toks), (82 :: 1000023 :: tys)⟩)
noncomputable def D_rot : List PV → Store → Tr (PV × Store) | [.osl 1 off len 1, .int .i64 a, .int .i64 m, .int .i64 b, .fn 16 []], ⟨c0 :: cs :: rest, toks, 82 :: 1000023 :: tys⟩ => .ite (rot_is0 off len a m b c0 cs rest toks tys) (.ret (.tup [], ⟨(c0 :: (rot_l2 off len a m b c0 cs rest toks tys) :: rest), (toks), (82 :: 1000023 :: tys)⟩)) (.fail) | _, _ => .fail
theorem sim_rot (gl : Nat → Option Obj) : SimS Tryd.prog gl 133 fun args σ => (D_rot args σ).run := by
  refine SimS.of_flat (G := G_rot) (L := L_rot) tbT_ok (gok_rot gl ) noMixed Tryd.func133 rfl (by rfl) (by kernel_rfl) (loopOk_all (L := lps L_rot) [(2, c_rot1)] (by kernel_rfl) (List.forall_mem_cons.2 ⟨fun fr σ e fr' σ' h => loop_rot1 gl  fr σ e fr' σ' h, (List.forall_mem_nil _)⟩)) ?_
  intro args σ x h
  unfold D_rot at h
  split at h
  · exact (congrArg Tr.run (rot_T _ _ _ _ _ _ _ _ _ _)).trans (ite_isW h fun h => by cases h)
  · cases h
end Go.Pv

set_option maxHeartbeats 4000000
set_option maxRecDepth 200000
/-! A contract that may be called in a function's own body: what it gives is a parameter. -/
namespace Go.Pv
open Go Go.Proofs
/-- What the function gives where it calls itself. -/
class RecW where
  W : Nat → Nat → Int → Int → Int → List PV → List PV → List (List PV) → List (Nat × Nat × TypeId) → List TypeId → Option (PV × Store)
section
variable [RecW]
noncomputable def rec_l (off len : Nat) (a m b : Int) (c0 cs : List PV) (rest : List (List PV)) (toks : List (Nat × Nat × TypeId)) (tys : List TypeId) : List PV := gObj (asOut (RecW.W off len a m b c0 cs rest toks tys)) 1
noncomputable def rec_is0 (off len : Nat) (a m b : Int) (c0 cs : List PV) (rest : List (List PV)) (toks : List (Nat × Nat × TypeId)) (tys : List TypeId) : Bool :=
  isW (RecW.W off len a m b c0 cs rest toks tys) (.tup [], ⟨c0 :: (rec_l off len a m b c0 cs rest toks tys) :: rest, toks, 82 :: 1000023 :: tys⟩)
noncomputable def D_rec : List PV → Store → Tr (PV × Store)
  | [.osl 1 off len 1, .int .i64 a, .int .i64 m, .int .i64 b, .fn 16 []], ⟨c0 :: cs :: rest, toks, 82 :: 1000023 :: tys⟩ => .ite (rec_is0 off len a m b c0 cs rest toks tys) (.ret (.tup [], ⟨c0 :: (rec_l off len a m b c0 cs rest toks tys) :: rest, toks, 82 :: 1000023 :: tys⟩)) .fail
  | _, _ => .fail
end
end Go.Pv
