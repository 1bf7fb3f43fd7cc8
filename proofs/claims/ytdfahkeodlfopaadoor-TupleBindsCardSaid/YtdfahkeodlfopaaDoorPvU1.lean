import Derived.Test.YtdfahkeodlfopaaDoorPvO
import Derived.Test.YtdfahkeodlfopaaDoorPvXc
set_option maxHeartbeats 4000000
set_option maxRecDepth 200000
set_option linter.unusedSimpArgs false
set_option linter.unusedVariables false
namespace Go.Pv
open Go Go.Proofs
noncomputable def G_CmpF0 : GamT := ofL [(56, .pure F_Compare)]
theorem gok_CmpF0 (gl : Nat → Option Obj) : GamOk Tryd.prog gl (gam G_CmpF0) := (gamOk_cons (sim_Compare gl) gamOk_nil)
noncomputable def c_CmpF01 : Code := loopC Tryd.f55 2
def I_CmpF01 : LI := ⟨39, [0, 1, 2, 11, 12, 13], fun e => match e with | .ret => [6] | .exit 0 => [0, 1] | _ => []⟩
noncomputable def LI_CmpF01 : LpsT := fun r fr σ => .fail
noncomputable def CmpF01_V (vs : List PV) (σ : Store) : Option (PExit × List PV × Store) := lval (lstep tbT G_CmpF0 LI_CmpF01 c_CmpF01 I_CmpF01) vs σ
noncomputable def CmpF01_Tr (s1 : List (List PV)) (s2 : List (List PV)) (r : List (List PV)) (n : Int) (n2 : Int) : Tr LR := Tr.ite (iLt n2 n)
  (Tr.ite (okPos n2)
    (Tr.ite (okGet [PV.int .i64 0, PV.int .i64 0, PV.str []] r (nNat n2))
      (Tr.ite (iLe (xLen s2) n2) (Tr.ret (LR.out .ret [PV.int .i64 1] (Store.mk [] [] [])))
        (Tr.ite (okPos n2)
          (Tr.ite (okGet [PV.int .i64 0, PV.int .i64 0, PV.str []] s2 (nNat n2))
            (Tr.ite (iNe (compareV (xInt r (nNat n2) 0) (xInt r (nNat n2) 1) (xStr r (nNat n2) 2) (xInt s2 (nNat n2) 0) (xInt s2 (nNat n2) 1) (xStr s2 (nNat n2) 2)) 0)
              (Tr.ret
                (LR.out .ret
                  [PV.int .i64 (compareV (xInt r (nNat n2) 0) (xInt r (nNat n2) 1) (xStr r (nNat n2) 2) (xInt s2 (nNat n2) 0) (xInt s2 (nNat n2) 1) (xStr s2 (nNat n2) 2))]
                  (Store.mk [] [] [])))
              (Tr.ret
                (LR.next
                  [PV.sl (dropPLL 0 s1) .non, PV.sl (dropPLL 0 s2) .non, PV.fn 56 [], PV.sl (dropPLL 0 r) .non, PV.int .i64 n,
                    PV.int .i64 (iAdd .i64 n2 1)]
                  (Store.mk [] [] []))))
            Tr.fail)
          Tr.fail))
      Tr.fail)
    Tr.fail)
  (Tr.ret (LR.out (.exit 0) [PV.sl s1 .non, PV.sl s2 .non] (Store.mk [] [] [])))
theorem CmpF01_T (s1 : List (List PV)) (s2 : List (List PV)) (r : List (List PV)) (n : Int) (n2 : Int) : lstep tbT G_CmpF0 LI_CmpF01 c_CmpF01 I_CmpF01 [.sl s1 .non, .sl s2 .non, .fn 56 [], .sl r .non, .int .i64 n, .int .i64 n2] ⟨[], [], []⟩ = CmpF01_Tr s1 s2 r n n2 := by kernel_rfl
theorem CmpF01_E (s1 : List (List PV)) (s2 : List (List PV)) (r : List (List PV)) (n : Int) (n2 : Int) : CmpF01_V [.sl s1 .non, .sl s2 .non, .fn 56 [], .sl r .non, .int .i64 n, .int .i64 n2] ⟨[], [], []⟩ = lnext CmpF01_V (CmpF01_Tr s1 s2 r n n2).run := by unfold CmpF01_V; rw [lval_eq, CmpF01_T]
noncomputable def CmpF01_W (s1 : List (List PV)) (s2 : List (List PV)) (r : List (List PV)) (n : Int) (n2 : Int) : Option (PExit × List PV × Store) := CmpF01_V [.sl s1 .non, .sl s2 .non, .fn 56 [], .sl r .non, .int .i64 n, .int .i64 n2] ⟨[], [], []⟩
noncomputable def CmpF01_n_0 (s1 : List (List PV)) (s2 : List (List PV)) (r : List (List PV)) (n : Int) (n2 : Int) : Int := (gInt (gOut (CmpF01_W s1 s2 r n n2) 0))
noncomputable def CmpF01_is0 (s1 : List (List PV)) (s2 : List (List PV)) (r : List (List PV)) (n : Int) (n2 : Int) : Bool := isW (CmpF01_W s1 s2 r n n2) (.ret, [.int .i64 (CmpF01_n_0 s1 s2 r n n2)], ⟨[], [], []⟩)
noncomputable def CmpF01_s1_1 (s1 : List (List PV)) (s2 : List (List PV)) (r : List (List PV)) (n : Int) (n2 : Int) : List (List PV) := (gRow (gOut (CmpF01_W s1 s2 r n n2) 0))
noncomputable def CmpF01_s2_1 (s1 : List (List PV)) (s2 : List (List PV)) (r : List (List PV)) (n : Int) (n2 : Int) : List (List PV) := (gRow (gOut (CmpF01_W s1 s2 r n n2) 1))
noncomputable def CmpF01_is1 (s1 : List (List PV)) (s2 : List (List PV)) (r : List (List PV)) (n : Int) (n2 : Int) : Bool := isW (CmpF01_W s1 s2 r n n2) ((.exit 0), [.sl (CmpF01_s1_1 s1 s2 r n n2) .non, .sl (CmpF01_s2_1 s1 s2 r n n2) .non], ⟨[], [], []⟩)
noncomputable def CmpF01_prop : List PV → Store → Tr (PExit × List PV × Store) | [.sl s1 .non, .sl s2 .non, .fn 56 [], .sl r .non, .int .i64 n, .int .i64 n2], ⟨[], [], []⟩ => .ite (CmpF01_is0 s1 s2 r n n2) (.ret (.ret, [.int .i64 (CmpF01_n_0 s1 s2 r n n2)], ⟨[], [], []⟩)) (.ite (CmpF01_is1 s1 s2 r n n2) (.ret ((.exit 0), [.sl (CmpF01_s1_1 s1 s2 r n n2) .non, .sl (CmpF01_s2_1 s1 s2 r n n2) .non], ⟨[], [], []⟩)) (.fail)) | _, _ => .fail
theorem CmpF01_ok : ∀ vs σ r, (CmpF01_prop vs σ).run = some r → CmpF01_V vs σ = some r := by
  intro vs σ r h
  unfold CmpF01_prop at h
  split at h
  · exact ite_isW h fun h => ite_isW h fun h => by cases h
  · cases h
theorem loop_CmpF01 (gl : Nat → Option Obj) : ∀ fr σ e fr' σ', (orc I_CmpF01 CmpF01_prop fr σ).run = some (e, fr', σ') → LDoes Tryd.prog gl c_CmpF01 fr σ e fr' σ' := orc_ok tbT_ok (gok_CmpF0 gl ) noMixed (L := LI_CmpF01) (loopOk_none (by kernel_rfl)) (by kernel_rfl) CmpF01_ok
noncomputable def L_CmpF0 : LpsT := fun r fr σ => bif Nat.beq r 2 then orc I_CmpF01 CmpF01_prop fr σ else .fail
noncomputable def CmpF0_Tr (a : List (List PV)) (b : List (List PV)) : Tr PV := Tr.ite (CmpF01_is0 a b a (xLen a) 0) (Tr.ret (PV.int .i64 (CmpF01_n_0 a b a (xLen a) 0)))
  (Tr.ite (CmpF01_is1 a b a (xLen a) 0)
    (Tr.ite (iLt (xLen (CmpF01_s1_1 a b a (xLen a) 0)) (xLen (CmpF01_s2_1 a b a (xLen a) 0))) (Tr.ret (PV.int .i64 (-1))) (Tr.ret (PV.int .i64 0))) Tr.fail)
theorem CmpF0_T (a : List (List PV)) (b : List (List PV)) : (tcall tbT G_CmpF0 L_CmpF0 Tryd.f55 [.sl a .non, .sl b .non, .fn 56 []]).flat = CmpF0_Tr a b := by kernel_rfl
noncomputable def CmpF0_W (a : List (List PV)) (b : List (List PV)) : Option PV := (CmpF0_Tr a b).run
noncomputable def CmpF0_n (a : List (List PV)) (b : List (List PV)) : Int := (gInt (gVal (CmpF0_W a b)))
noncomputable def CmpF0_is0 (a : List (List PV)) (b : List (List PV)) : Bool := isW (CmpF0_W a b) (.int .i64 (CmpF0_n a b))
noncomputable def F_CmpF0 : List PV → Tr PV | [.sl a .non, .sl b .non, .fn 56 []] => .ite (CmpF0_is0 a b) (.ret (.int .i64 (CmpF0_n a b))) (.fail) | _ => .fail
theorem sim_CmpF0 (gl : Nat → Option Obj) : SimP Tryd.prog gl 55 fun args => (F_CmpF0 args).run := by
  refine SimP.of_flat (G := G_CmpF0) (L := L_CmpF0) tbT_ok (gok_CmpF0 gl ) noMixed Tryd.func55 rfl (by rfl) (by kernel_rfl) (loopOk_all (L := lps L_CmpF0) [(2, c_CmpF01)] (by kernel_rfl) (List.forall_mem_cons.2 ⟨fun fr σ e fr' σ' h => loop_CmpF01 gl  fr σ e fr' σ' h, (List.forall_mem_nil _)⟩)) ?_
  intro args x h
  unfold F_CmpF0 at h
  split at h
  · exact (congrArg Tr.run (CmpF0_T _ _)).trans (ite_isW h fun h => by cases h)
  · cases h
noncomputable def G_CmpR0 : GamT := ofL [(26, .pure F_RCompare)]
theorem gok_CmpR0 (gl : Nat → Option Obj) : GamOk Tryd.prog gl (gam G_CmpR0) := (gamOk_cons (sim_RCompare gl) gamOk_nil)
noncomputable def c_CmpR01 : Code := loopC Tryd.f39 2
def I_CmpR01 : LI := ⟨43, [0, 1, 5], fun e => match e with | .ret => [4] | .exit 0 => [0, 1] | _ => []⟩
noncomputable def LI_CmpR01 : LpsT := fun r fr σ => .fail
noncomputable def CmpR01_V (vs : List PV) (σ : Store) : Option (PExit × List PV × Store) := lval (lstep tbT G_CmpR0 LI_CmpR01 c_CmpR01 I_CmpR01) vs σ
noncomputable def CmpR01_Tr (a : List (List PV)) (b : List (List PV)) (i : Int) : Tr LR := Tr.ite (iLt i (xLen a))
  (Tr.ite (iLt i (xLen b))
    (Tr.ite (okPos i)
      (Tr.ite (okGet [PV.int .i64 0, PV.int .i64 0, PV.str []] a (nNat i))
        (Tr.ite (okPos i)
          (Tr.ite (okGet [PV.int .i64 0, PV.int .i64 0, PV.str []] b (nNat i))
            (Tr.ite (iNe (compareR (xInt a (nNat i) 0) (xInt a (nNat i) 1) (xStr a (nNat i) 2) (xInt b (nNat i) 0) (xInt b (nNat i) 1) (xStr b (nNat i) 2)) 0)
              (Tr.ret
                (LR.out .ret
                  [PV.int .i64 (compareR (xInt a (nNat i) 0) (xInt a (nNat i) 1) (xStr a (nNat i) 2) (xInt b (nNat i) 0) (xInt b (nNat i) 1) (xStr b (nNat i) 2))]
                  (Store.mk [] [] [])))
              (Tr.ret (LR.next [PV.sl a .non, PV.sl b .non, PV.int .i64 (iAdd .i64 i 1)] (Store.mk [] [] []))))
            Tr.fail)
          Tr.fail)
        Tr.fail)
      Tr.fail)
    (Tr.ret (LR.out (.exit 0) [PV.sl a .non, PV.sl b .non] (Store.mk [] [] []))))
  (Tr.ret (LR.out (.exit 0) [PV.sl a .non, PV.sl b .non] (Store.mk [] [] [])))
theorem CmpR01_T (a : List (List PV)) (b : List (List PV)) (i : Int) : lstep tbT G_CmpR0 LI_CmpR01 c_CmpR01 I_CmpR01 [.sl a .non, .sl b .non, .int .i64 i] ⟨[], [], []⟩ = CmpR01_Tr a b i := by kernel_rfl
theorem CmpR01_E (a : List (List PV)) (b : List (List PV)) (i : Int) : CmpR01_V [.sl a .non, .sl b .non, .int .i64 i] ⟨[], [], []⟩ = lnext CmpR01_V (CmpR01_Tr a b i).run := by unfold CmpR01_V; rw [lval_eq, CmpR01_T]
noncomputable def CmpR01_W (a : List (List PV)) (b : List (List PV)) (i : Int) : Option (PExit × List PV × Store) := CmpR01_V [.sl a .non, .sl b .non, .int .i64 i] ⟨[], [], []⟩
noncomputable def CmpR01_n_0 (a : List (List PV)) (b : List (List PV)) (i : Int) : Int := (gInt (gOut (CmpR01_W a b i) 0))
noncomputable def CmpR01_is0 (a : List (List PV)) (b : List (List PV)) (i : Int) : Bool := isW (CmpR01_W a b i) (.ret, [.int .i64 (CmpR01_n_0 a b i)], ⟨[], [], []⟩)
noncomputable def CmpR01_a_1 (a : List (List PV)) (b : List (List PV)) (i : Int) : List (List PV) := (gRow (gOut (CmpR01_W a b i) 0))
noncomputable def CmpR01_b_1 (a : List (List PV)) (b : List (List PV)) (i : Int) : List (List PV) := (gRow (gOut (CmpR01_W a b i) 1))
noncomputable def CmpR01_is1 (a : List (List PV)) (b : List (List PV)) (i : Int) : Bool := isW (CmpR01_W a b i) ((.exit 0), [.sl (CmpR01_a_1 a b i) .non, .sl (CmpR01_b_1 a b i) .non], ⟨[], [], []⟩)
noncomputable def CmpR01_prop : List PV → Store → Tr (PExit × List PV × Store) | [.sl a .non, .sl b .non, .int .i64 i], ⟨[], [], []⟩ => .ite (CmpR01_is0 a b i) (.ret (.ret, [.int .i64 (CmpR01_n_0 a b i)], ⟨[], [], []⟩)) (.ite (CmpR01_is1 a b i) (.ret ((.exit 0), [.sl (CmpR01_a_1 a b i) .non, .sl (CmpR01_b_1 a b i) .non], ⟨[], [], []⟩)) (.fail)) | _, _ => .fail
theorem CmpR01_ok : ∀ vs σ r, (CmpR01_prop vs σ).run = some r → CmpR01_V vs σ = some r := by
  intro vs σ r h
  unfold CmpR01_prop at h
  split at h
  · exact ite_isW h fun h => ite_isW h fun h => by cases h
  · cases h
theorem loop_CmpR01 (gl : Nat → Option Obj) : ∀ fr σ e fr' σ', (orc I_CmpR01 CmpR01_prop fr σ).run = some (e, fr', σ') → LDoes Tryd.prog gl c_CmpR01 fr σ e fr' σ' := orc_ok tbT_ok (gok_CmpR0 gl ) noMixed (L := LI_CmpR01) (loopOk_none (by kernel_rfl)) (by kernel_rfl) CmpR01_ok
noncomputable def L_CmpR0 : LpsT := fun r fr σ => bif Nat.beq r 2 then orc I_CmpR01 CmpR01_prop fr σ else .fail
noncomputable def CmpR0_Tr (a : List (List PV)) (b : List (List PV)) : Tr PV := Tr.ite (CmpR01_is0 a b 0) (Tr.ret (PV.int .i64 (CmpR01_n_0 a b 0)))
  (Tr.ite (CmpR01_is1 a b 0)
    (Tr.ite (iLt (xLen (CmpR01_a_1 a b 0)) (xLen (CmpR01_b_1 a b 0))) (Tr.ret (PV.int .i64 (-1)))
      (Tr.ite (iLt (xLen (CmpR01_b_1 a b 0)) (xLen (CmpR01_a_1 a b 0))) (Tr.ret (PV.int .i64 1)) (Tr.ret (PV.int .i64 0))))
    Tr.fail)
theorem CmpR0_T (a : List (List PV)) (b : List (List PV)) : (tcall tbT G_CmpR0 L_CmpR0 Tryd.f39 [.sl a .non, .sl b .non]).flat = CmpR0_Tr a b := by kernel_rfl
noncomputable def CmpR0_W (a : List (List PV)) (b : List (List PV)) : Option PV := (CmpR0_Tr a b).run
noncomputable def CmpR0_n (a : List (List PV)) (b : List (List PV)) : Int := (gInt (gVal (CmpR0_W a b)))
noncomputable def CmpR0_is0 (a : List (List PV)) (b : List (List PV)) : Bool := isW (CmpR0_W a b) (.int .i64 (CmpR0_n a b))
noncomputable def F_CmpR0 : List PV → Tr PV | [.sl a .non, .sl b .non] => .ite (CmpR0_is0 a b) (.ret (.int .i64 (CmpR0_n a b))) (.fail) | _ => .fail
theorem sim_CmpR0 (gl : Nat → Option Obj) : SimP Tryd.prog gl 39 fun args => (F_CmpR0 args).run := by
  refine SimP.of_flat (G := G_CmpR0) (L := L_CmpR0) tbT_ok (gok_CmpR0 gl ) noMixed Tryd.func39 rfl (by rfl) (by kernel_rfl) (loopOk_all (L := lps L_CmpR0) [(2, c_CmpR01)] (by kernel_rfl) (List.forall_mem_cons.2 ⟨fun fr σ e fr' σ' h => loop_CmpR01 gl  fr σ e fr' σ' h, (List.forall_mem_nil _)⟩)) ?_
  intro args x h
  unfold F_CmpR0 at h
  split at h
  · exact (congrArg Tr.run (CmpR0_T _ _)).trans (ite_isW h fun h => by cases h)
  · cases h
noncomputable def G_TCheck0 : GamT := ofL [(65, .pure F_Check)]
theorem gok_TCheck0 (gl : Nat → Option Obj) : GamOk Tryd.prog gl (gam G_TCheck0) := (gamOk_cons (sim_Check gl) gamOk_nil)
noncomputable def c_TCheck01 : Code := loopC Tryd.f36 4
def I_TCheck01 : LI := ⟨18, [8, 9, 10], fun e => match e with | .ret => [2] | .exit 0 => [] | _ => []⟩
noncomputable def LI_TCheck01 : LpsT := fun r fr σ => .fail
noncomputable def TCheck01_V (vs : List PV) (σ : Store) : Option (PExit × List PV × Store) := lval (lstep tbT G_TCheck0 LI_TCheck01 c_TCheck01 I_TCheck01) vs σ
noncomputable def TCheck01_Tr (r : List (List PV)) (n : Int) (n2 : Int) : Tr LR := Tr.ite (iLt n2 n)
  (Tr.ite (okPos n2)
    (Tr.ite (okGet [PV.int .i64 0, PV.int .i64 0, PV.str []] r (nNat n2))
      (Tr.ite (iNe (checkV (xInt r (nNat n2) 0) (xInt r (nNat n2) 1) (xStr r (nNat n2) 2)) 0) (Tr.ret (LR.out .ret [PV.int .i64 20] (Store.mk [] [] [])))
        (Tr.ret (LR.next [PV.sl (dropPLL 0 r) .non, PV.int .i64 n, PV.int .i64 (iAdd .i64 n2 1)] (Store.mk [] [] []))))
      Tr.fail)
    Tr.fail)
  (Tr.ret (LR.out (.exit 0) [] (Store.mk [] [] [])))
theorem TCheck01_T (r : List (List PV)) (n : Int) (n2 : Int) : lstep tbT G_TCheck0 LI_TCheck01 c_TCheck01 I_TCheck01 [.sl r .non, .int .i64 n, .int .i64 n2] ⟨[], [], []⟩ = TCheck01_Tr r n n2 := by kernel_rfl
theorem TCheck01_E (r : List (List PV)) (n : Int) (n2 : Int) : TCheck01_V [.sl r .non, .int .i64 n, .int .i64 n2] ⟨[], [], []⟩ = lnext TCheck01_V (TCheck01_Tr r n n2).run := by unfold TCheck01_V; rw [lval_eq, TCheck01_T]
noncomputable def TCheck01_W (r : List (List PV)) (n : Int) (n2 : Int) : Option (PExit × List PV × Store) := TCheck01_V [.sl r .non, .int .i64 n, .int .i64 n2] ⟨[], [], []⟩
noncomputable def TCheck01_n_0 (r : List (List PV)) (n : Int) (n2 : Int) : Int := (gInt (gOut (TCheck01_W r n n2) 0))
noncomputable def TCheck01_is0 (r : List (List PV)) (n : Int) (n2 : Int) : Bool := isW (TCheck01_W r n n2) (.ret, [.int .i64 (TCheck01_n_0 r n n2)], ⟨[], [], []⟩)
noncomputable def TCheck01_is1 (r : List (List PV)) (n : Int) (n2 : Int) : Bool := isW (TCheck01_W r n n2) ((.exit 0), [], ⟨[], [], []⟩)
noncomputable def TCheck01_prop : List PV → Store → Tr (PExit × List PV × Store) | [.sl r .non, .int .i64 n, .int .i64 n2], ⟨[], [], []⟩ => .ite (TCheck01_is0 r n n2) (.ret (.ret, [.int .i64 (TCheck01_n_0 r n n2)], ⟨[], [], []⟩)) (.ite (TCheck01_is1 r n n2) (.ret ((.exit 0), [], ⟨[], [], []⟩)) (.fail)) | _, _ => .fail
theorem TCheck01_ok : ∀ vs σ r, (TCheck01_prop vs σ).run = some r → TCheck01_V vs σ = some r := by
  intro vs σ r h
  unfold TCheck01_prop at h
  split at h
  · exact ite_isW h fun h => ite_isW h fun h => by cases h
  · cases h
theorem loop_TCheck01 (gl : Nat → Option Obj) : ∀ fr σ e fr' σ', (orc I_TCheck01 TCheck01_prop fr σ).run = some (e, fr', σ') → LDoes Tryd.prog gl c_TCheck01 fr σ e fr' σ' := orc_ok tbT_ok (gok_TCheck0 gl ) noMixed (L := LI_TCheck01) (loopOk_none (by kernel_rfl)) (by kernel_rfl) TCheck01_ok
noncomputable def L_TCheck0 : LpsT := fun r fr σ => bif Nat.beq r 4 then orc I_TCheck01 TCheck01_prop fr σ else .fail
noncomputable def TCheck0_Tr (t : List (List PV)) : Tr PV := Tr.ite (iLt 8 (xLen t)) (Tr.ret (PV.int .i64 20))
  (Tr.ite (TCheck01_is0 t (xLen t) 0) (Tr.ret (PV.int .i64 (TCheck01_n_0 t (xLen t) 0))) (Tr.ite (TCheck01_is1 t (xLen t) 0) (Tr.ret (PV.int .i64 0)) Tr.fail))
theorem TCheck0_T (t : List (List PV)) : (tcall tbT G_TCheck0 L_TCheck0 Tryd.f36 [.sl t .non]).flat = TCheck0_Tr t := by kernel_rfl
noncomputable def TCheck0_W (t : List (List PV)) : Option PV := (TCheck0_Tr t).run
noncomputable def TCheck0_n (t : List (List PV)) : Int := (gInt (gVal (TCheck0_W t)))
noncomputable def TCheck0_is0 (t : List (List PV)) : Bool := isW (TCheck0_W t) (.int .i64 (TCheck0_n t))
noncomputable def F_TCheck0 : List PV → Tr PV | [.sl t .non] => .ite (TCheck0_is0 t) (.ret (.int .i64 (TCheck0_n t))) (.fail) | _ => .fail
theorem sim_TCheck0 (gl : Nat → Option Obj) : SimP Tryd.prog gl 36 fun args => (F_TCheck0 args).run := by
  refine SimP.of_flat (G := G_TCheck0) (L := L_TCheck0) tbT_ok (gok_TCheck0 gl ) noMixed Tryd.func36 rfl (by rfl) (by kernel_rfl) (loopOk_all (L := lps L_TCheck0) [(4, c_TCheck01)] (by kernel_rfl) (List.forall_mem_cons.2 ⟨fun fr σ e fr' σ' h => loop_TCheck01 gl  fr σ e fr' σ' h, (List.forall_mem_nil _)⟩)) ?_
  intro args x h
  unfold F_TCheck0 at h
  split at h
  · exact (congrArg Tr.run (TCheck0_T _)).trans (ite_isW h fun h => by cases h)
  · cases h
noncomputable def G_RCheck0 : GamT := ofL [(59, .pure F_Is)]
theorem gok_RCheck0 (gl : Nat → Option Obj) : GamOk Tryd.prog gl (gam G_RCheck0) := (gamOk_cons (sim_Is gl) gamOk_nil)
noncomputable def c_RCheck01 : Code := loopC Tryd.f20 4
def I_RCheck01 : LI := ⟨19, [0, 3], fun e => match e with | .ret => [2] | .exit 0 => [] | _ => []⟩
noncomputable def LI_RCheck01 : LpsT := fun r fr σ => .fail
noncomputable def RCheck01_V (vs : List PV) (σ : Store) : Option (PExit × List PV × Store) := lval (lstep tbT G_RCheck0 LI_RCheck01 c_RCheck01 I_RCheck01) vs σ
noncomputable def RCheck01_Tr (t : List (List PV)) (i : Int) : Tr LR := Tr.ite (iLt i (xLen t))
  (Tr.ite (okPos i)
    (Tr.ite (okGet [PV.int .i64 0, PV.int .i64 0, PV.str []] t (nNat i))
      (Tr.ite (bNot (isV (xInt t (nNat i) 0) (xInt t (nNat i) 1) (xStr t (nNat i) 2))) (Tr.ret (LR.out .ret [PV.int .i64 20] (Store.mk [] [] [])))
        (Tr.ret (LR.next [PV.sl t .non, PV.int .i64 (iAdd .i64 i 1)] (Store.mk [] [] []))))
      Tr.fail)
    Tr.fail)
  (Tr.ret (LR.out (.exit 0) [] (Store.mk [] [] [])))
theorem RCheck01_T (t : List (List PV)) (i : Int) : lstep tbT G_RCheck0 LI_RCheck01 c_RCheck01 I_RCheck01 [.sl t .non, .int .i64 i] ⟨[], [], []⟩ = RCheck01_Tr t i := by kernel_rfl
theorem RCheck01_E (t : List (List PV)) (i : Int) : RCheck01_V [.sl t .non, .int .i64 i] ⟨[], [], []⟩ = lnext RCheck01_V (RCheck01_Tr t i).run := by unfold RCheck01_V; rw [lval_eq, RCheck01_T]
noncomputable def RCheck01_W (t : List (List PV)) (i : Int) : Option (PExit × List PV × Store) := RCheck01_V [.sl t .non, .int .i64 i] ⟨[], [], []⟩
noncomputable def RCheck01_n_0 (t : List (List PV)) (i : Int) : Int := (gInt (gOut (RCheck01_W t i) 0))
noncomputable def RCheck01_is0 (t : List (List PV)) (i : Int) : Bool := isW (RCheck01_W t i) (.ret, [.int .i64 (RCheck01_n_0 t i)], ⟨[], [], []⟩)
noncomputable def RCheck01_is1 (t : List (List PV)) (i : Int) : Bool := isW (RCheck01_W t i) ((.exit 0), [], ⟨[], [], []⟩)
noncomputable def RCheck01_prop : List PV → Store → Tr (PExit × List PV × Store) | [.sl t .non, .int .i64 i], ⟨[], [], []⟩ => .ite (RCheck01_is0 t i) (.ret (.ret, [.int .i64 (RCheck01_n_0 t i)], ⟨[], [], []⟩)) (.ite (RCheck01_is1 t i) (.ret ((.exit 0), [], ⟨[], [], []⟩)) (.fail)) | _, _ => .fail
theorem RCheck01_ok : ∀ vs σ r, (RCheck01_prop vs σ).run = some r → RCheck01_V vs σ = some r := by
  intro vs σ r h
  unfold RCheck01_prop at h
  split at h
  · exact ite_isW h fun h => ite_isW h fun h => by cases h
  · cases h
theorem loop_RCheck01 (gl : Nat → Option Obj) : ∀ fr σ e fr' σ', (orc I_RCheck01 RCheck01_prop fr σ).run = some (e, fr', σ') → LDoes Tryd.prog gl c_RCheck01 fr σ e fr' σ' := orc_ok tbT_ok (gok_RCheck0 gl ) noMixed (L := LI_RCheck01) (loopOk_none (by kernel_rfl)) (by kernel_rfl) RCheck01_ok
noncomputable def L_RCheck0 : LpsT := fun r fr σ => bif Nat.beq r 4 then orc I_RCheck01 RCheck01_prop fr σ else .fail
noncomputable def RCheck0_Tr (t : List (List PV)) : Tr PV := Tr.ite (iLt 8 (xLen t)) (Tr.ret (PV.int .i64 20))
  (Tr.ite (RCheck01_is0 t 0) (Tr.ret (PV.int .i64 (RCheck01_n_0 t 0))) (Tr.ite (RCheck01_is1 t 0) (Tr.ret (PV.int .i64 0)) Tr.fail))
theorem RCheck0_T (t : List (List PV)) : (tcall tbT G_RCheck0 L_RCheck0 Tryd.f20 [.sl t .non]).flat = RCheck0_Tr t := by kernel_rfl
noncomputable def RCheck0_W (t : List (List PV)) : Option PV := (RCheck0_Tr t).run
noncomputable def RCheck0_n (t : List (List PV)) : Int := (gInt (gVal (RCheck0_W t)))
noncomputable def RCheck0_is0 (t : List (List PV)) : Bool := isW (RCheck0_W t) (.int .i64 (RCheck0_n t))
noncomputable def F_RCheck0 : List PV → Tr PV | [.sl t .non] => .ite (RCheck0_is0 t) (.ret (.int .i64 (RCheck0_n t))) (.fail) | _ => .fail
theorem sim_RCheck0 (gl : Nat → Option Obj) : SimP Tryd.prog gl 20 fun args => (F_RCheck0 args).run := by
  refine SimP.of_flat (G := G_RCheck0) (L := L_RCheck0) tbT_ok (gok_RCheck0 gl ) noMixed Tryd.func20 rfl (by rfl) (by kernel_rfl) (loopOk_all (L := lps L_RCheck0) [(4, c_RCheck01)] (by kernel_rfl) (List.forall_mem_cons.2 ⟨fun fr σ e fr' σ' h => loop_RCheck01 gl  fr σ e fr' σ' h, (List.forall_mem_nil _)⟩)) ?_
  intro args x h
  unfold F_RCheck0 at h
  split at h
  · exact (congrArg Tr.run (RCheck0_T _)).trans (ite_isW h fun h => by cases h)
  · cases h
noncomputable def G_TTyped0 : GamT := ofL [(66, .pure F_Type)]
theorem gok_TTyped0 (gl : Nat → Option Obj) : GamOk Tryd.prog gl (gam G_TTyped0) := (gamOk_cons (sim_Type gl) gamOk_nil)
noncomputable def c_TTyped01 : Code := loopC Tryd.f37 4
def I_TTyped01 : LI := ⟨37, [1, 14, 15, 16], fun e => match e with | .ret => [4] | .exit 0 => [] | _ => []⟩
noncomputable def LI_TTyped01 : LpsT := fun r fr σ => .fail
noncomputable def TTyped01_V (vs : List PV) (σ : Store) : Option (PExit × List PV × Store) := lval (lstep tbT G_TTyped0 LI_TTyped01 c_TTyped01 I_TTyped01) vs σ
noncomputable def TTyped01_Tr (types : List (List PV)) (r : List (List PV)) (n : Int) (n2 : Int) : Tr LR := Tr.ite (iLt n2 n)
  (Tr.ite (okPos n2)
    (Tr.ite (okGet [PV.int .i64 0, PV.int .i64 0, PV.str []] r (nNat n2))
      (Tr.ite (iNe (checkV (xInt r (nNat n2) 0) (xInt r (nNat n2) 1) (xStr r (nNat n2) 2)) 0) (Tr.ret (LR.out .ret [PV.bool false] (Store.mk [] [] [])))
        (Tr.ite (okPos n2)
          (Tr.ite (okGet [PV.int .i64 0] types (nNat n2))
            (Tr.ite (iNe (typeV (xInt r (nNat n2) 0) (xInt r (nNat n2) 1) (xStr r (nNat n2) 2)) (xInt types (nNat n2) 0))
              (Tr.ret (LR.out .ret [PV.bool false] (Store.mk [] [] [])))
              (Tr.ret
                (LR.next [PV.sl (dropPLL 0 types) .non, PV.sl (dropPLL 0 r) .non, PV.int .i64 n, PV.int .i64 (iAdd .i64 n2 1)] (Store.mk [] [] []))))
            Tr.fail)
          Tr.fail))
      Tr.fail)
    Tr.fail)
  (Tr.ret (LR.out (.exit 0) [] (Store.mk [] [] [])))
theorem TTyped01_T (types : List (List PV)) (r : List (List PV)) (n : Int) (n2 : Int) : lstep tbT G_TTyped0 LI_TTyped01 c_TTyped01 I_TTyped01 [.sl types .non, .sl r .non, .int .i64 n, .int .i64 n2] ⟨[], [], []⟩ = TTyped01_Tr types r n n2 := by kernel_rfl
theorem TTyped01_E (types : List (List PV)) (r : List (List PV)) (n : Int) (n2 : Int) : TTyped01_V [.sl types .non, .sl r .non, .int .i64 n, .int .i64 n2] ⟨[], [], []⟩ = lnext TTyped01_V (TTyped01_Tr types r n n2).run := by unfold TTyped01_V; rw [lval_eq, TTyped01_T]
noncomputable def TTyped01_W (types : List (List PV)) (r : List (List PV)) (n : Int) (n2 : Int) : Option (PExit × List PV × Store) := TTyped01_V [.sl types .non, .sl r .non, .int .i64 n, .int .i64 n2] ⟨[], [], []⟩
noncomputable def TTyped01_b_0 (types : List (List PV)) (r : List (List PV)) (n : Int) (n2 : Int) : Bool := (gBool (gOut (TTyped01_W types r n n2) 0))
noncomputable def TTyped01_is0 (types : List (List PV)) (r : List (List PV)) (n : Int) (n2 : Int) : Bool := isW (TTyped01_W types r n n2) (.ret, [.bool (TTyped01_b_0 types r n n2)], ⟨[], [], []⟩)
noncomputable def TTyped01_is1 (types : List (List PV)) (r : List (List PV)) (n : Int) (n2 : Int) : Bool := isW (TTyped01_W types r n n2) ((.exit 0), [], ⟨[], [], []⟩)
noncomputable def TTyped01_prop : List PV → Store → Tr (PExit × List PV × Store) | [.sl types .non, .sl r .non, .int .i64 n, .int .i64 n2], ⟨[], [], []⟩ => .ite (TTyped01_is0 types r n n2) (.ret (.ret, [.bool (TTyped01_b_0 types r n n2)], ⟨[], [], []⟩)) (.ite (TTyped01_is1 types r n n2) (.ret ((.exit 0), [], ⟨[], [], []⟩)) (.fail)) | _, _ => .fail
theorem TTyped01_ok : ∀ vs σ r, (TTyped01_prop vs σ).run = some r → TTyped01_V vs σ = some r := by
  intro vs σ r h
  unfold TTyped01_prop at h
  split at h
  · exact ite_isW h fun h => ite_isW h fun h => by cases h
  · cases h
theorem loop_TTyped01 (gl : Nat → Option Obj) : ∀ fr σ e fr' σ', (orc I_TTyped01 TTyped01_prop fr σ).run = some (e, fr', σ') → LDoes Tryd.prog gl c_TTyped01 fr σ e fr' σ' := orc_ok tbT_ok (gok_TTyped0 gl ) noMixed (L := LI_TTyped01) (loopOk_none (by kernel_rfl)) (by kernel_rfl) TTyped01_ok
noncomputable def L_TTyped0 : LpsT := fun r fr σ => bif Nat.beq r 4 then orc I_TTyped01 TTyped01_prop fr σ else .fail
noncomputable def TTyped0_Tr (t : List (List PV)) (types : List (List PV)) : Tr PV := Tr.ite (iNe (xLen t) (xLen types)) (Tr.ret (PV.bool false))
  (Tr.ite (TTyped01_is0 types t (xLen t) 0) (Tr.ret (PV.bool (TTyped01_b_0 types t (xLen t) 0))) (Tr.ite (TTyped01_is1 types t (xLen t) 0) (Tr.ret (PV.bool true)) Tr.fail))
theorem TTyped0_T (t : List (List PV)) (types : List (List PV)) : (tcall tbT G_TTyped0 L_TTyped0 Tryd.f37 [.sl t .non, .sl types .non]).flat = TTyped0_Tr t types := by kernel_rfl
noncomputable def TTyped0_W (t : List (List PV)) (types : List (List PV)) : Option PV := (TTyped0_Tr t types).run
noncomputable def TTyped0_b (t : List (List PV)) (types : List (List PV)) : Bool := (gBool (gVal (TTyped0_W t types)))
noncomputable def TTyped0_is0 (t : List (List PV)) (types : List (List PV)) : Bool := isW (TTyped0_W t types) (.bool (TTyped0_b t types))
noncomputable def F_TTyped0 : List PV → Tr PV | [.sl t .non, .sl types .non] => .ite (TTyped0_is0 t types) (.ret (.bool (TTyped0_b t types))) (.fail) | _ => .fail
theorem sim_TTyped0 (gl : Nat → Option Obj) : SimP Tryd.prog gl 37 fun args => (F_TTyped0 args).run := by
  refine SimP.of_flat (G := G_TTyped0) (L := L_TTyped0) tbT_ok (gok_TTyped0 gl ) noMixed Tryd.func37 rfl (by rfl) (by kernel_rfl) (loopOk_all (L := lps L_TTyped0) [(4, c_TTyped01)] (by kernel_rfl) (List.forall_mem_cons.2 ⟨fun fr σ e fr' σ' h => loop_TTyped01 gl  fr σ e fr' σ' h, (List.forall_mem_nil _)⟩)) ?_
  intro args x h
  unfold F_TTyped0 at h
  split at h
  · exact (congrArg Tr.run (TTyped0_T _ _)).trans (ite_isW h fun h => by cases h)
  · cases h
noncomputable def G_RTyped0 : GamT := ofL [(67, .pure F_RType)]
theorem gok_RTyped0 (gl : Nat → Option Obj) : GamOk Tryd.prog gl (gam G_RTyped0) := (gamOk_cons (sim_RType gl) gamOk_nil)
noncomputable def c_RTyped01 : Code := loopC Tryd.f38 4
def I_RTyped01 : LI := ⟨37, [0, 1, 5], fun e => match e with | .ret => [4] | .exit 0 => [] | _ => []⟩
noncomputable def LI_RTyped01 : LpsT := fun r fr σ => .fail
noncomputable def RTyped01_V (vs : List PV) (σ : Store) : Option (PExit × List PV × Store) := lval (lstep tbT G_RTyped0 LI_RTyped01 c_RTyped01 I_RTyped01) vs σ
noncomputable def RTyped01_Tr (t : List (List PV)) (types : List (List PV)) (i : Int) : Tr LR := Tr.ite (iLt i (xLen t))
  (Tr.ite (okPos i)
    (Tr.ite (okGet [PV.int .i64 0, PV.int .i64 0, PV.str []] t (nNat i))
      (Tr.ite (iNe (checkV (xInt t (nNat i) 0) (xInt t (nNat i) 1) (xStr t (nNat i) 2)) 0) (Tr.ret (LR.out .ret [PV.bool false] (Store.mk [] [] [])))
        (Tr.ite (okPos i)
          (Tr.ite (okGet [PV.int .i64 0] types (nNat i))
            (Tr.ite (iNe (typeV (xInt t (nNat i) 0) (xInt t (nNat i) 1) (xStr t (nNat i) 2)) (xInt types (nNat i) 0))
              (Tr.ret (LR.out .ret [PV.bool false] (Store.mk [] [] [])))
              (Tr.ret (LR.next [PV.sl t .non, PV.sl types .non, PV.int .i64 (iAdd .i64 i 1)] (Store.mk [] [] []))))
            Tr.fail)
          Tr.fail))
      Tr.fail)
    Tr.fail)
  (Tr.ret (LR.out (.exit 0) [] (Store.mk [] [] [])))
theorem RTyped01_T (t : List (List PV)) (types : List (List PV)) (i : Int) : lstep tbT G_RTyped0 LI_RTyped01 c_RTyped01 I_RTyped01 [.sl t .non, .sl types .non, .int .i64 i] ⟨[], [], []⟩ = RTyped01_Tr t types i := by kernel_rfl
theorem RTyped01_E (t : List (List PV)) (types : List (List PV)) (i : Int) : RTyped01_V [.sl t .non, .sl types .non, .int .i64 i] ⟨[], [], []⟩ = lnext RTyped01_V (RTyped01_Tr t types i).run := by unfold RTyped01_V; rw [lval_eq, RTyped01_T]
noncomputable def RTyped01_W (t : List (List PV)) (types : List (List PV)) (i : Int) : Option (PExit × List PV × Store) := RTyped01_V [.sl t .non, .sl types .non, .int .i64 i] ⟨[], [], []⟩
noncomputable def RTyped01_b_0 (t : List (List PV)) (types : List (List PV)) (i : Int) : Bool := (gBool (gOut (RTyped01_W t types i) 0))
noncomputable def RTyped01_is0 (t : List (List PV)) (types : List (List PV)) (i : Int) : Bool := isW (RTyped01_W t types i) (.ret, [.bool (RTyped01_b_0 t types i)], ⟨[], [], []⟩)
noncomputable def RTyped01_is1 (t : List (List PV)) (types : List (List PV)) (i : Int) : Bool := isW (RTyped01_W t types i) ((.exit 0), [], ⟨[], [], []⟩)
noncomputable def RTyped01_prop : List PV → Store → Tr (PExit × List PV × Store) | [.sl t .non, .sl types .non, .int .i64 i], ⟨[], [], []⟩ => .ite (RTyped01_is0 t types i) (.ret (.ret, [.bool (RTyped01_b_0 t types i)], ⟨[], [], []⟩)) (.ite (RTyped01_is1 t types i) (.ret ((.exit 0), [], ⟨[], [], []⟩)) (.fail)) | _, _ => .fail
theorem RTyped01_ok : ∀ vs σ r, (RTyped01_prop vs σ).run = some r → RTyped01_V vs σ = some r := by
  intro vs σ r h
  unfold RTyped01_prop at h
  split at h
  · exact ite_isW h fun h => ite_isW h fun h => by cases h
  · cases h
theorem loop_RTyped01 (gl : Nat → Option Obj) : ∀ fr σ e fr' σ', (orc I_RTyped01 RTyped01_prop fr σ).run = some (e, fr', σ') → LDoes Tryd.prog gl c_RTyped01 fr σ e fr' σ' := orc_ok tbT_ok (gok_RTyped0 gl ) noMixed (L := LI_RTyped01) (loopOk_none (by kernel_rfl)) (by kernel_rfl) RTyped01_ok
noncomputable def L_RTyped0 : LpsT := fun r fr σ => bif Nat.beq r 4 then orc I_RTyped01 RTyped01_prop fr σ else .fail
noncomputable def RTyped0_Tr (t : List (List PV)) (types : List (List PV)) : Tr PV := Tr.ite (iNe (xLen t) (xLen types)) (Tr.ret (PV.bool false))
  (Tr.ite (RTyped01_is0 t types 0) (Tr.ret (PV.bool (RTyped01_b_0 t types 0))) (Tr.ite (RTyped01_is1 t types 0) (Tr.ret (PV.bool true)) Tr.fail))
theorem RTyped0_T (t : List (List PV)) (types : List (List PV)) : (tcall tbT G_RTyped0 L_RTyped0 Tryd.f38 [.sl t .non, .sl types .non]).flat = RTyped0_Tr t types := by kernel_rfl
noncomputable def RTyped0_W (t : List (List PV)) (types : List (List PV)) : Option PV := (RTyped0_Tr t types).run
noncomputable def RTyped0_b (t : List (List PV)) (types : List (List PV)) : Bool := (gBool (gVal (RTyped0_W t types)))
noncomputable def RTyped0_is0 (t : List (List PV)) (types : List (List PV)) : Bool := isW (RTyped0_W t types) (.bool (RTyped0_b t types))
noncomputable def F_RTyped0 : List PV → Tr PV | [.sl t .non, .sl types .non] => .ite (RTyped0_is0 t types) (.ret (.bool (RTyped0_b t types))) (.fail) | _ => .fail
theorem sim_RTyped0 (gl : Nat → Option Obj) : SimP Tryd.prog gl 38 fun args => (F_RTyped0 args).run := by
  refine SimP.of_flat (G := G_RTyped0) (L := L_RTyped0) tbT_ok (gok_RTyped0 gl ) noMixed Tryd.func38 rfl (by rfl) (by kernel_rfl) (loopOk_all (L := lps L_RTyped0) [(4, c_RTyped01)] (by kernel_rfl) (List.forall_mem_cons.2 ⟨fun fr σ e fr' σ' h => loop_RTyped01 gl  fr σ e fr' σ' h, (List.forall_mem_nil _)⟩)) ?_
  intro args x h
  unfold F_RTyped0 at h
  split at h
  · exact (congrArg Tr.run (RTyped0_T _ _)).trans (ite_isW h fun h => by cases h)
  · cases h
noncomputable def G_cut0 : GamT := ofL []
theorem gok_cut0 (gl : Nat → Option Obj) : GamOk Tryd.prog gl (gam G_cut0) := gamOk_nil
noncomputable def L_cut0 : LpsT := fun r fr σ => .fail
noncomputable def cut0_Tr (t : List (List PV)) : Tr PV := Tr.ite (iLt 20 (xLen t)) (Tr.ite (okSub true (okPos 20) 0 (nNat 20) (nXs t)) (Tr.ite (okSize t 3) (Tr.ret (PV.sl (shutLL (xSub t 0 (nNat 20))) .non)) Tr.fail) Tr.fail)
  (Tr.ret (PV.sl (shutLL t) .non))
theorem cut0_T (t : List (List PV)) : (tcall tbT G_cut0 L_cut0 Tryd.f15 [.sl t .non]).flat = cut0_Tr t := by kernel_rfl
noncomputable def cut0_W (t : List (List PV)) : Option PV := (cut0_Tr t).run
noncomputable def cut0_r (t : List (List PV)) : List (List PV) := (gRow (gVal (cut0_W t)))
noncomputable def cut0_is0 (t : List (List PV)) : Bool := isW (cut0_W t) (.sl (cut0_r t) .non)
noncomputable def F_cut0 : List PV → Tr PV | [.sl t .non] => .ite (cut0_is0 t) (.ret (.sl (cut0_r t) .non)) (.fail) | _ => .fail
theorem sim_cut0 (gl : Nat → Option Obj) : SimP Tryd.prog gl 15 fun args => (F_cut0 args).run := by
  refine SimP.of_flat (G := G_cut0) (L := L_cut0) tbT_ok (gok_cut0 gl ) noMixed Tryd.func15 rfl (by rfl) (by kernel_rfl) (loopOk_none (by kernel_rfl)) ?_
  intro args x h
  unfold F_cut0 at h
  split at h
  · exact (congrArg Tr.run (cut0_T _)).trans (ite_isW h fun h => by cases h)
  · cases h
noncomputable def G_term0 : GamT := ofL [(65, .pure F_Check)]
theorem gok_term0 (gl : Nat → Option Obj) : GamOk Tryd.prog gl (gam G_term0) := (gamOk_cons (sim_Check gl) gamOk_nil)
noncomputable def L_term0 : LpsT := fun r fr σ => .fail
noncomputable def term0_Tr (t : Int) (t2 : List UInt8) (t3 : Int) (t4 : Int) (t5 : List UInt8) : Tr PV := Tr.ite (iEq t 2) (Tr.ite (sEq t2 []) (Tr.ret (PV.bool (iEq (checkV t3 t4 t5) 0))) (Tr.ret (PV.bool false)))
  (Tr.ite (iEq t 1)
    (Tr.ite (iLe 1 (sLen t2)) (Tr.ite (iLe (sLen t2) 64) (Tr.ret (PV.bool (bAnd (iEq t3 0) (bAnd (iEq t4 0) (bAnd (sEq t5 []) true))))) (Tr.ret (PV.bool false)))
      (Tr.ret (PV.bool false)))
    (Tr.ite (iEq t 3) (Tr.ite (sEq t2 []) (Tr.ret (PV.bool (bAnd (iEq t3 0) (bAnd (iEq t4 0) (bAnd (sEq t5 []) true))))) (Tr.ret (PV.bool false))) (Tr.ret (PV.bool false))))
theorem term0_T (t : Int) (t2 : List UInt8) (t3 : Int) (t4 : Int) (t5 : List UInt8) : (tcall tbT G_term0 L_term0 Tryd.f63 [.agg [.int .i64 t, .str t2, .int .i64 t3, .int .i64 t4, .str t5]]).flat = term0_Tr t t2 t3 t4 t5 := by kernel_rfl
noncomputable def term0_W (t : Int) (t2 : List UInt8) (t3 : Int) (t4 : Int) (t5 : List UInt8) : Option PV := (term0_Tr t t2 t3 t4 t5).run
noncomputable def term0_b (t : Int) (t2 : List UInt8) (t3 : Int) (t4 : Int) (t5 : List UInt8) : Bool := (gBool (gVal (term0_W t t2 t3 t4 t5)))
noncomputable def term0_is0 (t : Int) (t2 : List UInt8) (t3 : Int) (t4 : Int) (t5 : List UInt8) : Bool := isW (term0_W t t2 t3 t4 t5) (.bool (term0_b t t2 t3 t4 t5))
noncomputable def F_term0 : List PV → Tr PV | [.agg [.int .i64 t, .str t2, .int .i64 t3, .int .i64 t4, .str t5]] => .ite (term0_is0 t t2 t3 t4 t5) (.ret (.bool (term0_b t t2 t3 t4 t5))) (.fail) | _ => .fail
theorem sim_term0 (gl : Nat → Option Obj) : SimP Tryd.prog gl 63 fun args => (F_term0 args).run := by
  refine SimP.of_flat (G := G_term0) (L := L_term0) tbT_ok (gok_term0 gl ) noMixed Tryd.func63 rfl (by rfl) (by kernel_rfl) (loopOk_none (by kernel_rfl)) ?_
  intro args x h
  unfold F_term0 at h
  split at h
  · exact (congrArg Tr.run (term0_T _ _ _ _ _)).trans (ite_isW h fun h => by cases h)
  · cases h
noncomputable def G_RPat0 : GamT := ofL [(59, .pure F_Is)]
theorem gok_RPat0 (gl : Nat → Option Obj) : GamOk Tryd.prog gl (gam G_RPat0) := (gamOk_cons (sim_Is gl) gamOk_nil)
noncomputable def c_RPat01 : Code := loopC Tryd.f29 3
def I_RPat01 : LI := ⟨65, [0, 3, 4], fun e => match e with | .exit 0 => [3] | _ => []⟩
noncomputable def LI_RPat01 : LpsT := fun r fr σ => .fail
noncomputable def RPat01_V (vs : List PV) (σ : Store) : Option (PExit × List PV × Store) := lval (lstep tbT G_RPat0 LI_RPat01 c_RPat01 I_RPat01) vs σ
noncomputable def RPat01_Tr (r : List (List PV)) (b : Bool) (n : Int) : Tr LR := Tr.ite (iLt n (xLen r))
  (Tr.ite b
    (Tr.ite (okPos n)
      (Tr.ite (okGet [PV.int .i64 0, PV.str [], PV.int .i64 0, PV.int .i64 0, PV.str []] r (nNat n))
        (Tr.ite (iEq (xInt r (nNat n) 0) 2)
          (Tr.ite (isV (xInt r (nNat n) 2) (xInt r (nNat n) 3) (xStr r (nNat n) 4))
            (Tr.ret (LR.next [PV.sl (dropPLL 0 r) .non, PV.bool (sEq (xStr r (nNat n) 1) []), PV.int .i64 (iAdd .i64 n 1)] (Store.mk [] [] [])))
            (Tr.ret (LR.next [PV.sl (dropPLL 0 r) .non, PV.bool false, PV.int .i64 (iAdd .i64 n 1)] (Store.mk [] [] []))))
          (Tr.ite (iEq (xInt r (nNat n) 0) 1)
            (Tr.ite (iLe 1 (sLen (xStr r (nNat n) 1)))
              (Tr.ite (iLe (sLen (xStr r (nNat n) 1)) 64)
                (Tr.ret
                  (LR.next
                    [PV.sl (dropPLL 0 r) .non, PV.bool (bAnd (iEq (xInt r (nNat n) 2) 0) (bAnd (iEq (xInt r (nNat n) 3) 0) (bAnd (sEq (xStr r (nNat n) 4) []) true))),
                      PV.int .i64 (iAdd .i64 n 1)]
                    (Store.mk [] [] [])))
                (Tr.ret (LR.next [PV.sl (dropPLL 0 r) .non, PV.bool false, PV.int .i64 (iAdd .i64 n 1)] (Store.mk [] [] []))))
              (Tr.ret (LR.next [PV.sl (dropPLL 0 r) .non, PV.bool false, PV.int .i64 (iAdd .i64 n 1)] (Store.mk [] [] []))))
            (Tr.ite (iEq (xInt r (nNat n) 0) 3)
              (Tr.ite (sEq (xStr r (nNat n) 1) [])
                (Tr.ret
                  (LR.next
                    [PV.sl (dropPLL 0 r) .non, PV.bool (bAnd (iEq (xInt r (nNat n) 2) 0) (bAnd (iEq (xInt r (nNat n) 3) 0) (bAnd (sEq (xStr r (nNat n) 4) []) true))),
                      PV.int .i64 (iAdd .i64 n 1)]
                    (Store.mk [] [] [])))
                (Tr.ret (LR.next [PV.sl (dropPLL 0 r) .non, PV.bool false, PV.int .i64 (iAdd .i64 n 1)] (Store.mk [] [] []))))
              (Tr.ret (LR.next [PV.sl (dropPLL 0 r) .non, PV.bool false, PV.int .i64 (iAdd .i64 n 1)] (Store.mk [] [] []))))))
        Tr.fail)
      Tr.fail)
    (Tr.ret (LR.out (.exit 0) [PV.bool b] (Store.mk [] [] []))))
  (Tr.ret (LR.out (.exit 0) [PV.bool b] (Store.mk [] [] [])))
theorem RPat01_T (r : List (List PV)) (b : Bool) (n : Int) : lstep tbT G_RPat0 LI_RPat01 c_RPat01 I_RPat01 [.sl r .non, .bool b, .int .i64 n] ⟨[], [], []⟩ = RPat01_Tr r b n := by kernel_rfl
theorem RPat01_E (r : List (List PV)) (b : Bool) (n : Int) : RPat01_V [.sl r .non, .bool b, .int .i64 n] ⟨[], [], []⟩ = lnext RPat01_V (RPat01_Tr r b n).run := by unfold RPat01_V; rw [lval_eq, RPat01_T]
noncomputable def RPat01_W (r : List (List PV)) (b : Bool) (n : Int) : Option (PExit × List PV × Store) := RPat01_V [.sl r .non, .bool b, .int .i64 n] ⟨[], [], []⟩
noncomputable def RPat01_b (r : List (List PV)) (b : Bool) (n : Int) : Bool := (gBool (gOut (RPat01_W r b n) 0))
noncomputable def RPat01_is0 (r : List (List PV)) (b : Bool) (n : Int) : Bool := isW (RPat01_W r b n) ((.exit 0), [.bool (RPat01_b r b n)], ⟨[], [], []⟩)
noncomputable def RPat01_prop : List PV → Store → Tr (PExit × List PV × Store) | [.sl r .non, .bool b, .int .i64 n], ⟨[], [], []⟩ => .ite (RPat01_is0 r b n) (.ret ((.exit 0), [.bool (RPat01_b r b n)], ⟨[], [], []⟩)) (.fail) | _, _ => .fail
theorem RPat01_ok : ∀ vs σ r, (RPat01_prop vs σ).run = some r → RPat01_V vs σ = some r := by
  intro vs σ r h
  unfold RPat01_prop at h
  split at h
  · exact ite_isW h fun h => by cases h
  · cases h
theorem loop_RPat01 (gl : Nat → Option Obj) : ∀ fr σ e fr' σ', (orc I_RPat01 RPat01_prop fr σ).run = some (e, fr', σ') → LDoes Tryd.prog gl c_RPat01 fr σ e fr' σ' := orc_ok tbT_ok (gok_RPat0 gl ) noMixed (L := LI_RPat01) (loopOk_none (by kernel_rfl)) (by kernel_rfl) RPat01_ok
noncomputable def L_RPat0 : LpsT := fun r fr σ => bif Nat.beq r 3 then orc I_RPat01 RPat01_prop fr σ else .fail
noncomputable def RPat0_Tr (v : List (List PV)) : Tr PV := Tr.ite (RPat01_is0 v (iLe (xLen v) 8) 0) (Tr.ite (bNot (RPat01_b v (iLe (xLen v) 8) 0)) (Tr.ret (PV.int .i64 22)) (Tr.ret (PV.int .i64 0))) Tr.fail
theorem RPat0_T (v : List (List PV)) : (tcall tbT G_RPat0 L_RPat0 Tryd.f29 [.sl v .non]).flat = RPat0_Tr v := by kernel_rfl
noncomputable def RPat0_W (v : List (List PV)) : Option PV := (RPat0_Tr v).run
noncomputable def RPat0_n (v : List (List PV)) : Int := (gInt (gVal (RPat0_W v)))
noncomputable def RPat0_is0 (v : List (List PV)) : Bool := isW (RPat0_W v) (.int .i64 (RPat0_n v))
noncomputable def F_RPat0 : List PV → Tr PV | [.sl v .non] => .ite (RPat0_is0 v) (.ret (.int .i64 (RPat0_n v))) (.fail) | _ => .fail
theorem sim_RPat0 (gl : Nat → Option Obj) : SimP Tryd.prog gl 29 fun args => (F_RPat0 args).run := by
  refine SimP.of_flat (G := G_RPat0) (L := L_RPat0) tbT_ok (gok_RPat0 gl ) noMixed Tryd.func29 rfl (by rfl) (by kernel_rfl) (loopOk_all (L := lps L_RPat0) [(3, c_RPat01)] (by kernel_rfl) (List.forall_mem_cons.2 ⟨fun fr σ e fr' σ' h => loop_RPat01 gl  fr σ e fr' σ' h, (List.forall_mem_nil _)⟩)) ?_
  intro args x h
  unfold F_RPat0 at h
  split at h
  · exact (congrArg Tr.run (RPat0_T _)).trans (ite_isW h fun h => by cases h)
  · cases h
noncomputable def G_mcl : GamT := ofL []
theorem gok_mcl (gl : Nat → Option Obj) : GamOk Tryd.prog gl (gam G_mcl) := gamOk_nil
noncomputable def L_mcl : LpsT := fun r fr σ => .fail
noncomputable def mcl_Tr (b : List UInt8) (k : Int) (n : Int) (s : List UInt8) (ka : Int) (nm : List UInt8) (kb : Int) (kc : Int) (kd : List UInt8) : Tr PV := Tr.ret (PV.bool (sEq b nm))
theorem mcl_T (b : List UInt8) (k : Int) (n : Int) (s : List UInt8) (ka : Int) (nm : List UInt8) (kb : Int) (kc : Int) (kd : List UInt8) : (tcall tbT G_mcl L_mcl Tryd.f58 [.agg [.str b, .int .i64 k, .int .i64 n, .str s], .ref [.int .i64 ka, .str nm, .int .i64 kb, .int .i64 kc, .str kd]]).flat = mcl_Tr b k n s ka nm kb kc kd := by kernel_rfl
noncomputable def F_mcl : List PV → Tr PV | [.agg [.str b, .int .i64 k, .int .i64 n, .str s], .ref [.int .i64 ka, .str nm, .int .i64 kb, .int .i64 kc, .str kd]] => mcl_Tr b k n s ka nm kb kc kd | _ => .fail
theorem sim_mcl (gl : Nat → Option Obj) : SimP Tryd.prog gl 58 fun args => (F_mcl args).run := by
  refine SimP.of_flat (G := G_mcl) (L := L_mcl) tbT_ok (gok_mcl gl ) noMixed Tryd.func58 rfl (by rfl) (by kernel_rfl) (loopOk_none (by kernel_rfl)) ?_
  intro args x h
  unfold F_mcl at h
  split at h
  · exact (congrArg Tr.run (mcl_T _ _ _ _ _ _ _ _ _)).trans h
  · cases h
noncomputable def G_Idx0 : GamT := ofL [(58, .pure F_mcl)]
theorem gok_Idx0 (gl : Nat → Option Obj) : GamOk Tryd.prog gl (gam G_Idx0) := (gamOk_cons (sim_mcl gl) gamOk_nil)
noncomputable def c_Idx01 : Code := loopC Tryd.f57 2
def I_Idx01 : LI := ⟨19, [0, 1, 7, 8], fun e => match e with | .ret => [4] | .exit 0 => [] | _ => []⟩
noncomputable def LI_Idx01 : LpsT := fun r fr σ => .fail
noncomputable def Idx01_V (vs : List PV) (σ : Store) : Option (PExit × List PV × Store) := lval (lstep tbT G_Idx0 LI_Idx01 c_Idx01 I_Idx01) vs σ
noncomputable def Idx01_Tr (s : List (List PV)) (f : Int) (f2 : List UInt8) (f3 : Int) (f4 : Int) (f5 : List UInt8) (n : Int) (n2 : Int) : Tr LR := Tr.ite (iLt n2 n)
  (Tr.ite (okPos n2)
    (Tr.ite (okGet [PV.str [], PV.int .i64 0, PV.int .i64 0, PV.str []] s (nNat n2))
      (Tr.ite (sEq (xStr s (nNat n2) 0) f2) (Tr.ret (LR.out .ret [PV.int .i64 n2] (Store.mk [] [] [])))
        (Tr.ret
          (LR.next
            [PV.sl s .non, PV.fn 58 [PV.ref [PV.int .i64 f, PV.str f2, PV.int .i64 f3, PV.int .i64 f4, PV.str f5]], PV.int .i64 n,
              PV.int .i64 (iAdd .i64 n2 1)]
            (Store.mk [] [] []))))
      Tr.fail)
    Tr.fail)
  (Tr.ret (LR.out (.exit 0) [] (Store.mk [] [] [])))
theorem Idx01_T (s : List (List PV)) (f : Int) (f2 : List UInt8) (f3 : Int) (f4 : Int) (f5 : List UInt8) (n : Int) (n2 : Int) : lstep tbT G_Idx0 LI_Idx01 c_Idx01 I_Idx01 [.sl s .non, .fn 58 [.ref [.int .i64 f, .str f2, .int .i64 f3, .int .i64 f4, .str f5]], .int .i64 n, .int .i64 n2] ⟨[], [], []⟩ = Idx01_Tr s f f2 f3 f4 f5 n n2 := by kernel_rfl
theorem Idx01_E (s : List (List PV)) (f : Int) (f2 : List UInt8) (f3 : Int) (f4 : Int) (f5 : List UInt8) (n : Int) (n2 : Int) : Idx01_V [.sl s .non, .fn 58 [.ref [.int .i64 f, .str f2, .int .i64 f3, .int .i64 f4, .str f5]], .int .i64 n, .int .i64 n2] ⟨[], [], []⟩ = lnext Idx01_V (Idx01_Tr s f f2 f3 f4 f5 n n2).run := by unfold Idx01_V; rw [lval_eq, Idx01_T]
noncomputable def Idx01_W (s : List (List PV)) (f : Int) (f2 : List UInt8) (f3 : Int) (f4 : Int) (f5 : List UInt8) (n : Int) (n2 : Int) : Option (PExit × List PV × Store) := Idx01_V [.sl s .non, .fn 58 [.ref [.int .i64 f, .str f2, .int .i64 f3, .int .i64 f4, .str f5]], .int .i64 n, .int .i64 n2] ⟨[], [], []⟩
noncomputable def Idx01_n_0 (s : List (List PV)) (f : Int) (f2 : List UInt8) (f3 : Int) (f4 : Int) (f5 : List UInt8) (n : Int) (n2 : Int) : Int := (gInt (gOut (Idx01_W s f f2 f3 f4 f5 n n2) 0))
noncomputable def Idx01_is0 (s : List (List PV)) (f : Int) (f2 : List UInt8) (f3 : Int) (f4 : Int) (f5 : List UInt8) (n : Int) (n2 : Int) : Bool := isW (Idx01_W s f f2 f3 f4 f5 n n2) (.ret, [.int .i64 (Idx01_n_0 s f f2 f3 f4 f5 n n2)], ⟨[], [], []⟩)
noncomputable def Idx01_is1 (s : List (List PV)) (f : Int) (f2 : List UInt8) (f3 : Int) (f4 : Int) (f5 : List UInt8) (n : Int) (n2 : Int) : Bool := isW (Idx01_W s f f2 f3 f4 f5 n n2) ((.exit 0), [], ⟨[], [], []⟩)
noncomputable def Idx01_prop : List PV → Store → Tr (PExit × List PV × Store) | [.sl s .non, .fn 58 [.ref [.int .i64 f, .str f2, .int .i64 f3, .int .i64 f4, .str f5]], .int .i64 n, .int .i64 n2], ⟨[], [], []⟩ => .ite (Idx01_is0 s f f2 f3 f4 f5 n n2) (.ret (.ret, [.int .i64 (Idx01_n_0 s f f2 f3 f4 f5 n n2)], ⟨[], [], []⟩)) (.ite (Idx01_is1 s f f2 f3 f4 f5 n n2) (.ret ((.exit 0), [], ⟨[], [], []⟩)) (.fail)) | _, _ => .fail
theorem Idx01_ok : ∀ vs σ r, (Idx01_prop vs σ).run = some r → Idx01_V vs σ = some r := by
  intro vs σ r h
  unfold Idx01_prop at h
  split at h
  · exact ite_isW h fun h => ite_isW h fun h => by cases h
  · cases h
theorem loop_Idx01 (gl : Nat → Option Obj) : ∀ fr σ e fr' σ', (orc I_Idx01 Idx01_prop fr σ).run = some (e, fr', σ') → LDoes Tryd.prog gl c_Idx01 fr σ e fr' σ' := orc_ok tbT_ok (gok_Idx0 gl ) noMixed (L := LI_Idx01) (loopOk_none (by kernel_rfl)) (by kernel_rfl) Idx01_ok
noncomputable def L_Idx0 : LpsT := fun r fr σ => bif Nat.beq r 2 then orc I_Idx01 Idx01_prop fr σ else .fail
noncomputable def Idx0_Tr (a : List (List PV)) (ka : Int) (nm : List UInt8) (kb : Int) (kc : Int) (kd : List UInt8) : Tr PV := Tr.ite (Idx01_is0 a ka nm kb kc kd (xLen a) 0) (Tr.ret (PV.int .i64 (Idx01_n_0 a ka nm kb kc kd (xLen a) 0)))
  (Tr.ite (Idx01_is1 a ka nm kb kc kd (xLen a) 0) (Tr.ret (PV.int .i64 (-1))) Tr.fail)
theorem Idx0_T (a : List (List PV)) (ka : Int) (nm : List UInt8) (kb : Int) (kc : Int) (kd : List UInt8) : (tcall tbT G_Idx0 L_Idx0 Tryd.f57 [.sl a .non, .fn 58 [.ref [.int .i64 ka, .str nm, .int .i64 kb, .int .i64 kc, .str kd]]]).flat = Idx0_Tr a ka nm kb kc kd := by kernel_rfl
noncomputable def Idx0_W (a : List (List PV)) (ka : Int) (nm : List UInt8) (kb : Int) (kc : Int) (kd : List UInt8) : Option PV := (Idx0_Tr a ka nm kb kc kd).run
noncomputable def Idx0_n (a : List (List PV)) (ka : Int) (nm : List UInt8) (kb : Int) (kc : Int) (kd : List UInt8) : Int := (gInt (gVal (Idx0_W a ka nm kb kc kd)))
noncomputable def Idx0_is0 (a : List (List PV)) (ka : Int) (nm : List UInt8) (kb : Int) (kc : Int) (kd : List UInt8) : Bool := isW (Idx0_W a ka nm kb kc kd) (.int .i64 (Idx0_n a ka nm kb kc kd))
noncomputable def F_Idx0 : List PV → Tr PV | [.sl a .non, .fn 58 [.ref [.int .i64 ka, .str nm, .int .i64 kb, .int .i64 kc, .str kd]]] => .ite (Idx0_is0 a ka nm kb kc kd) (.ret (.int .i64 (Idx0_n a ka nm kb kc kd))) (.fail) | _ => .fail
theorem sim_Idx0 (gl : Nat → Option Obj) : SimP Tryd.prog gl 57 fun args => (F_Idx0 args).run := by
  refine SimP.of_flat (G := G_Idx0) (L := L_Idx0) tbT_ok (gok_Idx0 gl ) noMixed Tryd.func57 rfl (by rfl) (by kernel_rfl) (loopOk_all (L := lps L_Idx0) [(2, c_Idx01)] (by kernel_rfl) (List.forall_mem_cons.2 ⟨fun fr σ e fr' σ' h => loop_Idx01 gl  fr σ e fr' σ' h, (List.forall_mem_nil _)⟩)) ?_
  intro args x h
  unfold F_Idx0 at h
  split at h
  · exact (congrArg Tr.run (Idx0_T _ _ _ _ _ _)).trans (ite_isW h fun h => by cases h)
  · cases h
noncomputable def G_Find0 : GamT := ofL []
theorem gok_Find0 (gl : Nat → Option Obj) : GamOk Tryd.prog gl (gam G_Find0) := gamOk_nil
noncomputable def c_Find01 : Code := loopC Tryd.f19 2
def I_Find01 : LI := ⟨26, [0, 1, 4, 6], fun e => match e with | .ret => [4, 5] | .exit 0 => [4] | _ => []⟩
noncomputable def LI_Find01 : LpsT := fun r fr σ => .fail
noncomputable def Find01_V (vs : List PV) (σ : Store) : Option (PExit × List PV × Store) := lval (lstep tbT G_Find0 LI_Find01 c_Find01 I_Find01) vs σ
noncomputable def Find01_Tr (l : List (List PV)) (name : List UInt8) (i : Int) (n : Int) (n2 : Int) (s : List UInt8) : Tr LR := Tr.ite (iLt i (xLen l))
  (Tr.ite (okPos i)
    (Tr.ite (okGet [PV.str [], PV.int .i64 0, PV.int .i64 0, PV.str []] l (nNat i))
      (Tr.ite (sEq (xStr l (nNat i) 0) name)
        (Tr.ite (okPos i)
          (Tr.ite (okGet [PV.str [], PV.int .i64 0, PV.int .i64 0, PV.str []] l (nNat i))
            (Tr.ret
              (LR.out .ret [PV.ptr 0 0, PV.bool true]
                (Store.mk [[PV.int .i64 (xInt l (nNat i) 1), PV.int .i64 (xInt l (nNat i) 2), PV.str (xStr l (nNat i) 3)]] [] [36])))
            Tr.fail)
          Tr.fail)
        (Tr.ret
          (LR.next [PV.sl l .non, PV.str name, PV.ptr 0 0, PV.int .i64 (iAdd .i64 i 1)]
            (Store.mk [[PV.int .i64 n, PV.int .i64 n2, PV.str s]] [] [36]))))
      Tr.fail)
    Tr.fail)
  (Tr.ret (LR.out (.exit 0) [PV.ptr 0 0] (Store.mk [[PV.int .i64 n, PV.int .i64 n2, PV.str s]] [] [36])))
theorem Find01_T (l : List (List PV)) (name : List UInt8) (i : Int) (n : Int) (n2 : Int) (s : List UInt8) : lstep tbT G_Find0 LI_Find01 c_Find01 I_Find01 [.sl l .non, .str name, .ptr 0 0, .int .i64 i] ⟨[[.int .i64 n, .int .i64 n2, .str s]], [], [36]⟩ = Find01_Tr l name i n n2 s := by kernel_rfl
theorem Find01_E (l : List (List PV)) (name : List UInt8) (i : Int) (n : Int) (n2 : Int) (s : List UInt8) : Find01_V [.sl l .non, .str name, .ptr 0 0, .int .i64 i] ⟨[[.int .i64 n, .int .i64 n2, .str s]], [], [36]⟩ = lnext Find01_V (Find01_Tr l name i n n2 s).run := by unfold Find01_V; rw [lval_eq, Find01_T]
noncomputable def Find01_W (l : List (List PV)) (name : List UInt8) (i : Int) (n : Int) (n2 : Int) (s : List UInt8) : Option (PExit × List PV × Store) := Find01_V [.sl l .non, .str name, .ptr 0 0, .int .i64 i] ⟨[[.int .i64 n, .int .i64 n2, .str s]], [], [36]⟩
noncomputable def Find01_b_0 (l : List (List PV)) (name : List UInt8) (i : Int) (n : Int) (n2 : Int) (s : List UInt8) : Bool := (gBool (gOut (Find01_W l name i n n2 s) 1))
noncomputable def Find01_n_0 (l : List (List PV)) (name : List UInt8) (i : Int) (n : Int) (n2 : Int) (s : List UInt8) : Int := (gInt (gAt (gObj (Find01_W l name i n n2 s) 0) 0))
noncomputable def Find01_n2_0 (l : List (List PV)) (name : List UInt8) (i : Int) (n : Int) (n2 : Int) (s : List UInt8) : Int := (gInt (gAt (gObj (Find01_W l name i n n2 s) 0) 1))
noncomputable def Find01_s_0 (l : List (List PV)) (name : List UInt8) (i : Int) (n : Int) (n2 : Int) (s : List UInt8) : List UInt8 := (gStr (gAt (gObj (Find01_W l name i n n2 s) 0) 2))
noncomputable def Find01_is0 (l : List (List PV)) (name : List UInt8) (i : Int) (n : Int) (n2 : Int) (s : List UInt8) : Bool := isW (Find01_W l name i n n2 s) (.ret, [.ptr 0 0, .bool (Find01_b_0 l name i n n2 s)], ⟨[[.int .i64 (Find01_n_0 l name i n n2 s), .int .i64 (Find01_n2_0 l name i n n2 s), .str (Find01_s_0 l name i n n2 s)]], [], [36]⟩)
noncomputable def Find01_n_1 (l : List (List PV)) (name : List UInt8) (i : Int) (n : Int) (n2 : Int) (s : List UInt8) : Int := (gInt (gAt (gObj (Find01_W l name i n n2 s) 0) 0))
noncomputable def Find01_n2_1 (l : List (List PV)) (name : List UInt8) (i : Int) (n : Int) (n2 : Int) (s : List UInt8) : Int := (gInt (gAt (gObj (Find01_W l name i n n2 s) 0) 1))
noncomputable def Find01_s_1 (l : List (List PV)) (name : List UInt8) (i : Int) (n : Int) (n2 : Int) (s : List UInt8) : List UInt8 := (gStr (gAt (gObj (Find01_W l name i n n2 s) 0) 2))
noncomputable def Find01_is1 (l : List (List PV)) (name : List UInt8) (i : Int) (n : Int) (n2 : Int) (s : List UInt8) : Bool := isW (Find01_W l name i n n2 s) ((.exit 0), [.ptr 0 0], ⟨[[.int .i64 (Find01_n_1 l name i n n2 s), .int .i64 (Find01_n2_1 l name i n n2 s), .str (Find01_s_1 l name i n n2 s)]], [], [36]⟩)
noncomputable def Find01_prop : List PV → Store → Tr (PExit × List PV × Store) | [.sl l .non, .str name, .ptr 0 0, .int .i64 i], ⟨[[.int .i64 n, .int .i64 n2, .str s]], [], [36]⟩ => .ite (Find01_is0 l name i n n2 s) (.ret (.ret, [.ptr 0 0, .bool (Find01_b_0 l name i n n2 s)], ⟨[[.int .i64 (Find01_n_0 l name i n n2 s), .int .i64 (Find01_n2_0 l name i n n2 s), .str (Find01_s_0 l name i n n2 s)]], [], [36]⟩)) (.ite (Find01_is1 l name i n n2 s) (.ret ((.exit 0), [.ptr 0 0], ⟨[[.int .i64 (Find01_n_1 l name i n n2 s), .int .i64 (Find01_n2_1 l name i n n2 s), .str (Find01_s_1 l name i n n2 s)]], [], [36]⟩)) (.fail)) | _, _ => .fail
theorem Find01_ok : ∀ vs σ r, (Find01_prop vs σ).run = some r → Find01_V vs σ = some r := by
  intro vs σ r h
  unfold Find01_prop at h
  split at h
  · exact ite_isW h fun h => ite_isW h fun h => by cases h
  · cases h
theorem loop_Find01 (gl : Nat → Option Obj) : ∀ fr σ e fr' σ', (orc I_Find01 Find01_prop fr σ).run = some (e, fr', σ') → LDoes Tryd.prog gl c_Find01 fr σ e fr' σ' := orc_ok tbT_ok (gok_Find0 gl ) noMixed (L := LI_Find01) (loopOk_none (by kernel_rfl)) (by kernel_rfl) Find01_ok
noncomputable def L_Find0 : LpsT := fun r fr σ => bif Nat.beq r 2 then orc I_Find01 Find01_prop fr σ else .fail
noncomputable def Find0_Tr (l : List (List PV)) (name : List UInt8) : Tr PV := Tr.ite (Find01_is0 l name 0 0 0 [])
  (Tr.ret
    (PV.tup
      [PV.agg [PV.int .i64 (Find01_n_0 l name 0 0 0 []), PV.int .i64 (Find01_n2_0 l name 0 0 0 []), PV.str (Find01_s_0 l name 0 0 0 [])],
        PV.bool (Find01_b_0 l name 0 0 0 [])]))
  (Tr.ite (Find01_is1 l name 0 0 0 []) (Tr.ret (PV.tup [PV.agg [PV.int .i64 0, PV.int .i64 0, PV.str []], PV.bool false])) Tr.fail)
theorem Find0_T (l : List (List PV)) (name : List UInt8) : (tcall tbT G_Find0 L_Find0 Tryd.f19 [.sl l .non, .str name]).flat = Find0_Tr l name := by kernel_rfl
noncomputable def Find0_W (l : List (List PV)) (name : List UInt8) : Option PV := (Find0_Tr l name).run
noncomputable def Find0_n (l : List (List PV)) (name : List UInt8) : Int := (gInt (gAt (gCs (gAt (gCs (gVal (Find0_W l name))) 0)) 0))
noncomputable def Find0_n2 (l : List (List PV)) (name : List UInt8) : Int := (gInt (gAt (gCs (gAt (gCs (gVal (Find0_W l name))) 0)) 1))
noncomputable def Find0_s (l : List (List PV)) (name : List UInt8) : List UInt8 := (gStr (gAt (gCs (gAt (gCs (gVal (Find0_W l name))) 0)) 2))
noncomputable def Find0_b (l : List (List PV)) (name : List UInt8) : Bool := (gBool (gAt (gCs (gVal (Find0_W l name))) 1))
noncomputable def Find0_is0 (l : List (List PV)) (name : List UInt8) : Bool := isW (Find0_W l name) (.tup [.agg [.int .i64 (Find0_n l name), .int .i64 (Find0_n2 l name), .str (Find0_s l name)], .bool (Find0_b l name)])
noncomputable def F_Find0 : List PV → Tr PV | [.sl l .non, .str name] => .ite (Find0_is0 l name) (.ret (.tup [.agg [.int .i64 (Find0_n l name), .int .i64 (Find0_n2 l name), .str (Find0_s l name)], .bool (Find0_b l name)])) (.fail) | _ => .fail
theorem sim_Find0 (gl : Nat → Option Obj) : SimP Tryd.prog gl 19 fun args => (F_Find0 args).run := by
  refine SimP.of_flat (G := G_Find0) (L := L_Find0) tbT_ok (gok_Find0 gl ) noMixed Tryd.func19 rfl (by rfl) (by kernel_rfl) (loopOk_all (L := lps L_Find0) [(2, c_Find01)] (by kernel_rfl) (List.forall_mem_cons.2 ⟨fun fr σ e fr' σ' h => loop_Find01 gl  fr σ e fr' σ' h, (List.forall_mem_nil _)⟩)) ?_
  intro args x h
  unfold F_Find0 at h
  split at h
  · exact (congrArg Tr.run (Find0_T _ _)).trans (ite_isW h fun h => by cases h)
  · cases h
noncomputable def G_SameB0 : GamT := ofL []
theorem gok_SameB0 (gl : Nat → Option Obj) : GamOk Tryd.prog gl (gam G_SameB0) := gamOk_nil
noncomputable def c_SameB01 : Code := loopC Tryd.f30 4
def I_SameB01 : LI := ⟨26, [0, 1, 5], fun e => match e with | .ret => [4] | .exit 0 => [] | _ => []⟩
noncomputable def LI_SameB01 : LpsT := fun r fr σ => .fail
noncomputable def SameB01_V (vs : List PV) (σ : Store) : Option (PExit × List PV × Store) := lval (lstep tbT G_SameB0 LI_SameB01 c_SameB01 I_SameB01) vs σ
noncomputable def SameB01_Tr (a : List (List PV)) (b : List (List PV)) (i : Int) : Tr LR := Tr.ite (iLt i (xLen a))
  (Tr.ite (okPos i)
    (Tr.ite (okGet [PV.str [], PV.int .i64 0, PV.int .i64 0, PV.str []] a (nNat i))
      (Tr.ite (okPos i)
        (Tr.ite (okGet [PV.str [], PV.int .i64 0, PV.int .i64 0, PV.str []] b (nNat i))
          (Tr.ite
            (bNot
              (bAnd (sEq (xStr a (nNat i) 0) (xStr b (nNat i) 0))
                (bAnd
                  (bAnd (iEq (xInt a (nNat i) 1) (xInt b (nNat i) 1))
                    (bAnd (iEq (xInt a (nNat i) 2) (xInt b (nNat i) 2)) (bAnd (sEq (xStr a (nNat i) 3) (xStr b (nNat i) 3)) true)))
                  true)))
            (Tr.ret (LR.out .ret [PV.bool false] (Store.mk [] [] [])))
            (Tr.ret (LR.next [PV.sl a .non, PV.sl b .non, PV.int .i64 (iAdd .i64 i 1)] (Store.mk [] [] []))))
          Tr.fail)
        Tr.fail)
      Tr.fail)
    Tr.fail)
  (Tr.ret (LR.out (.exit 0) [] (Store.mk [] [] [])))
theorem SameB01_T (a : List (List PV)) (b : List (List PV)) (i : Int) : lstep tbT G_SameB0 LI_SameB01 c_SameB01 I_SameB01 [.sl a .non, .sl b .non, .int .i64 i] ⟨[], [], []⟩ = SameB01_Tr a b i := by kernel_rfl
theorem SameB01_E (a : List (List PV)) (b : List (List PV)) (i : Int) : SameB01_V [.sl a .non, .sl b .non, .int .i64 i] ⟨[], [], []⟩ = lnext SameB01_V (SameB01_Tr a b i).run := by unfold SameB01_V; rw [lval_eq, SameB01_T]
noncomputable def SameB01_W (a : List (List PV)) (b : List (List PV)) (i : Int) : Option (PExit × List PV × Store) := SameB01_V [.sl a .non, .sl b .non, .int .i64 i] ⟨[], [], []⟩
noncomputable def SameB01_b_0 (a : List (List PV)) (b : List (List PV)) (i : Int) : Bool := (gBool (gOut (SameB01_W a b i) 0))
noncomputable def SameB01_is0 (a : List (List PV)) (b : List (List PV)) (i : Int) : Bool := isW (SameB01_W a b i) (.ret, [.bool (SameB01_b_0 a b i)], ⟨[], [], []⟩)
noncomputable def SameB01_is1 (a : List (List PV)) (b : List (List PV)) (i : Int) : Bool := isW (SameB01_W a b i) ((.exit 0), [], ⟨[], [], []⟩)
noncomputable def SameB01_prop : List PV → Store → Tr (PExit × List PV × Store) | [.sl a .non, .sl b .non, .int .i64 i], ⟨[], [], []⟩ => .ite (SameB01_is0 a b i) (.ret (.ret, [.bool (SameB01_b_0 a b i)], ⟨[], [], []⟩)) (.ite (SameB01_is1 a b i) (.ret ((.exit 0), [], ⟨[], [], []⟩)) (.fail)) | _, _ => .fail
theorem SameB01_ok : ∀ vs σ r, (SameB01_prop vs σ).run = some r → SameB01_V vs σ = some r := by
  intro vs σ r h
  unfold SameB01_prop at h
  split at h
  · exact ite_isW h fun h => ite_isW h fun h => by cases h
  · cases h
theorem loop_SameB01 (gl : Nat → Option Obj) : ∀ fr σ e fr' σ', (orc I_SameB01 SameB01_prop fr σ).run = some (e, fr', σ') → LDoes Tryd.prog gl c_SameB01 fr σ e fr' σ' := orc_ok tbT_ok (gok_SameB0 gl ) noMixed (L := LI_SameB01) (loopOk_none (by kernel_rfl)) (by kernel_rfl) SameB01_ok
noncomputable def L_SameB0 : LpsT := fun r fr σ => bif Nat.beq r 4 then orc I_SameB01 SameB01_prop fr σ else .fail
noncomputable def SameB0_Tr (a : List (List PV)) (b : List (List PV)) : Tr PV := Tr.ite (iNe (xLen a) (xLen b)) (Tr.ret (PV.bool false))
  (Tr.ite (SameB01_is0 a b 0) (Tr.ret (PV.bool (SameB01_b_0 a b 0))) (Tr.ite (SameB01_is1 a b 0) (Tr.ret (PV.bool true)) Tr.fail))
theorem SameB0_T (a : List (List PV)) (b : List (List PV)) : (tcall tbT G_SameB0 L_SameB0 Tryd.f30 [.sl a .non, .sl b .non]).flat = SameB0_Tr a b := by kernel_rfl
noncomputable def SameB0_W (a : List (List PV)) (b : List (List PV)) : Option PV := (SameB0_Tr a b).run
noncomputable def SameB0_b (a : List (List PV)) (b : List (List PV)) : Bool := (gBool (gVal (SameB0_W a b)))
noncomputable def SameB0_is0 (a : List (List PV)) (b : List (List PV)) : Bool := isW (SameB0_W a b) (.bool (SameB0_b a b))
noncomputable def F_SameB0 : List PV → Tr PV | [.sl a .non, .sl b .non] => .ite (SameB0_is0 a b) (.ret (.bool (SameB0_b a b))) (.fail) | _ => .fail
theorem sim_SameB0 (gl : Nat → Option Obj) : SimP Tryd.prog gl 30 fun args => (F_SameB0 args).run := by
  refine SimP.of_flat (G := G_SameB0) (L := L_SameB0) tbT_ok (gok_SameB0 gl ) noMixed Tryd.func30 rfl (by rfl) (by kernel_rfl) (loopOk_all (L := lps L_SameB0) [(4, c_SameB01)] (by kernel_rfl) (List.forall_mem_cons.2 ⟨fun fr σ e fr' σ' h => loop_SameB01 gl  fr σ e fr' σ' h, (List.forall_mem_nil _)⟩)) ?_
  intro args x h
  unfold F_SameB0 at h
  split at h
  · exact (congrArg Tr.run (SameB0_T _ _)).trans (ite_isW h fun h => by cases h)
  · cases h
end Go.Pv
