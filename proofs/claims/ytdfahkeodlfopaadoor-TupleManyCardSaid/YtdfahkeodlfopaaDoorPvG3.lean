/- Part 3 of the proof: pure values for the machine's values, what functions compute over them, and laws of what is computed. Conditions: none beyond each theorem's own premises. -/
import Derived.Test.YtdfahkeodlfopaaDoorPvG2
import Derived.Test.YtdfahkeodlfopaaDoorShelf
import Derived.Lib.AppendIntMem
import Derived.Lib.ItoaLen
import Derived.Lib.ParseIntBTie
set_option maxHeartbeats 4000000
set_option maxRecDepth 200000
set_option linter.unusedSimpArgs false
set_option linter.unusedVariables false
namespace Go.Pv
open Go Go.Proofs
noncomputable def G_CmpF0 : GamT := ofL [(56, .pure F_Compare)]
theorem gok_CmpF0 (gl : Nat → Option Obj) : GamOk Tryd.prog gl (gam G_CmpF0) := (gamOk_cons (sim_Compare gl) gamOk_nil)
noncomputable def c_CmpF01 : Code := loopC Tryd.f55 2
def I_CmpF01 : LI := ⟨39, [0, 1, 2, 11, 12, 13], fun e => match e with | .ret => [6] | .exit 0 => [0, 1] | _ => [], true⟩
noncomputable def LI_CmpF01 : LpsT := fun r fr σ => .fail
noncomputable def CmpF01_V (vs : List PV) (σ : Store) : Option (PExit × List PV × Store) := lval (lstep tbT G_CmpF0 LI_CmpF01 c_CmpF01 I_CmpF01) vs σ
noncomputable def CmpF01_Tr (s1 : List (List PV)) (s2 : List (List PV)) (r : List (List PV)) (n : Int) (n2 : Int) : Tr LR := Tr.ite (iLt n2 n) (Tr.ite (okPos n2) (Tr.ite (okGet [PV.int .i64 0, PV.int .i64 0, PV.str []] r (nNat n2)) (Tr.ite (iLe (xLen s2) n2) (Tr.ret (LR.out .ret [PV.int .i64 1] (Store.mk [] [] []))) (Tr.ite (okPos n2) (Tr.ite (okGet [PV.int .i64 0, PV.int .i64 0, PV.str []] s2 (nNat n2)) (Tr.ite (iNe (compareV (xInt r (nNat n2) 0) (xInt r (nNat n2) 1) (xStr r (nNat n2) 2) (xInt s2 (nNat n2) 0) (xInt s2 (nNat n2) 1) (xStr s2 (nNat n2) 2)) 0) (Tr.ret (LR.out .ret [PV.int .i64 (compareV (xInt r (nNat n2) 0) (xInt r (nNat n2) 1) (xStr r (nNat n2) 2) (xInt s2 (nNat n2) 0) (xInt s2 (nNat n2) 1) (xStr s2 (nNat n2) 2))] (Store.mk [] [] []))) (Tr.ret (LR.next [PV.sl (dropPLL 0 s1) .non, PV.sl (dropPLL 0 s2) .non, PV.fn 56 [], PV.sl (dropPLL 0 r) .non, PV.int .i64 n, PV.int .i64 (iAdd .i64 n2 1)] (Store.mk [] [] [])))) Tr.fail) Tr.fail)) Tr.fail) Tr.fail) (Tr.ret (LR.out (.exit 0) [PV.sl s1 .non, PV.sl s2 .non] (Store.mk [] [] [])))
theorem CmpF01_T (s1 : List (List PV)) (s2 : List (List PV)) (r : List (List PV)) (n : Int) (n2 : Int) : lstep tbT G_CmpF0 LI_CmpF01 c_CmpF01 I_CmpF01 [.sl s1 .non, .sl s2 .non, .fn 56 [], .sl r .non, .int .i64 n, .int .i64 n2] ⟨[], [], []⟩ = CmpF01_Tr s1 s2 r n n2 := by kernel_rfl
theorem CmpF01_E (s1 : List (List PV)) (s2 : List (List PV)) (r : List (List PV)) (n : Int) (n2 : Int) : CmpF01_V [.sl s1 .non, .sl s2 .non, .fn 56 [], .sl r .non, .int .i64 n, .int .i64 n2] ⟨[], [], []⟩ = lnext CmpF01_V (CmpF01_Tr s1 s2 r n n2).run := by unfold CmpF01_V; rw [lval_eq, CmpF01_T]
noncomputable def CmpF01_W (s1 : List (List PV)) (s2 : List (List PV)) (r : List (List PV)) (n : Int) (n2 : Int) : Option (PExit × List PV × Store) := CmpF01_V [.sl s1 .non, .sl s2 .non, .fn 56 [], .sl r .non, .int .i64 n, .int .i64 n2] ⟨[], [], []⟩
noncomputable def CmpF01_n_0 (s1 : List (List PV)) (s2 : List (List PV)) (r : List (List PV)) (n : Int) (n2 : Int) : Int := (gInt (gOut (CmpF01_W s1 s2 r n n2) 0))
noncomputable def CmpF01_is0 (s1 : List (List PV)) (s2 : List (List PV)) (r : List (List PV)) (n : Int) (n2 : Int) : Bool := isW (CmpF01_W s1 s2 r n n2) (.ret, [.int .i64 (CmpF01_n_0 s1 s2 r n n2)], ⟨[], [], []⟩)
noncomputable def CmpF01_s1_1 (s1 : List (List PV)) (s2 : List (List PV)) (r : List (List PV)) (n : Int) (n2 : Int) : List (List PV) := (gRow (gOut (CmpF01_W s1 s2 r n n2) 0))
noncomputable def CmpF01_s2_1 (s1 : List (List PV)) (s2 : List (List PV)) (r : List (List PV)) (n : Int) (n2 : Int) : List (List PV) := (gRow (gOut (CmpF01_W s1 s2 r n n2) 1))
noncomputable def CmpF01_is1 (s1 : List (List PV)) (s2 : List (List PV)) (r : List (List PV)) (n : Int) (n2 : Int) : Bool := isW (CmpF01_W s1 s2 r n n2) ((.exit 0), [.sl (CmpF01_s1_1 s1 s2 r n n2) .non, .sl (CmpF01_s2_1 s1 s2 r n n2) .non], ⟨[], [], []⟩)
noncomputable def CmpF01_prop : List PV → Store → Tr (PExit × List PV × Store) | [.sl s1 .non, .sl s2 .non, .fn 56 [], .sl r .non, .int .i64 n, .int .i64 n2], ⟨[], [], []⟩ => .ite (CmpF01_is0 s1 s2 r n n2) (.ret (.ret, [.int .i64 (CmpF01_n_0 s1 s2 r n n2)], ⟨[], [], []⟩)) (.ite (CmpF01_is1 s1 s2 r n n2) (.ret ((.exit 0), [.sl (CmpF01_s1_1 s1 s2 r n n2) .non, .sl (CmpF01_s2_1 s1 s2 r n n2) .non], ⟨[], [], []⟩)) (.fail)) | _, _ => .fail
theorem CmpF01_ok : ∀ vs σ r, (CmpF01_prop vs σ).run = some r → CmpF01_V vs σ = some r := by
  intro vs σ r h
  unfold CmpF01_prop at h
  split at h
  · exact ite_isW h fun h => ite_isW h fun h => by cases h
  · cases h
theorem loop_CmpF01 (gl : Nat → Option Obj) : ∀ fr σ e fr' σ', (orc I_CmpF01 CmpF01_prop fr σ).run = some (e, fr', σ') → LDoes Tryd.prog gl c_CmpF01 fr σ e fr' σ' := orc_ok tbT_ok (gok_CmpF0 gl ) noMixed (L := LI_CmpF01) (loopOk_none (by kernel_rfl)) (by kernel_rfl) CmpF01_ok
noncomputable def L_CmpF0 : LpsT := fun r fr σ => bif Nat.beq r 2 then orc I_CmpF01 CmpF01_prop fr σ else .fail
noncomputable def CmpF0_Tr (a : List (List PV)) (b : List (List PV)) : Tr PV := Tr.ite (CmpF01_is0 a b a (xLen a) 0) (Tr.ret (PV.int .i64 (CmpF01_n_0 a b a (xLen a) 0))) (Tr.ite (CmpF01_is1 a b a (xLen a) 0) (Tr.ite (iLt (xLen (CmpF01_s1_1 a b a (xLen a) 0)) (xLen (CmpF01_s2_1 a b a (xLen a) 0))) (Tr.ret (PV.int .i64 (-1))) (Tr.ret (PV.int .i64 0))) Tr.fail)
theorem CmpF0_T (a : List (List PV)) (b : List (List PV)) : (tcall tbT G_CmpF0 L_CmpF0 Tryd.f55 [.sl a .non, .sl b .non, .fn 56 []]).flat = CmpF0_Tr a b := by kernel_rfl
noncomputable def CmpF0_W (a : List (List PV)) (b : List (List PV)) : Option PV := (CmpF0_Tr a b).run
noncomputable def CmpF0_n (a : List (List PV)) (b : List (List PV)) : Int := (gInt (gVal (CmpF0_W a b)))
noncomputable def CmpF0_is0 (a : List (List PV)) (b : List (List PV)) : Bool := isW (CmpF0_W a b) (.int .i64 (CmpF0_n a b))
noncomputable def F_CmpF0 : List PV → Tr PV | [.sl a .non, .sl b .non, .fn 56 []] => .ite (CmpF0_is0 a b) (.ret (.int .i64 (CmpF0_n a b))) (.fail) | _ => .fail
theorem sim_CmpF0 (gl : Nat → Option Obj) : SimP Tryd.prog gl 55 fun args => (F_CmpF0 args).run := by
  refine SimP.of_flat (G := G_CmpF0) (L := L_CmpF0) tbT_ok (gok_CmpF0 gl ) noMixed Tryd.func55 rfl (by rfl) (by kernel_rfl) (loopOk_all (L := lps L_CmpF0) [(2, c_CmpF01)] (by kernel_rfl) (List.forall_mem_cons.2 ⟨fun fr σ e fr' σ' h => loop_CmpF01 gl  fr σ e fr' σ' h, (List.forall_mem_nil _)⟩)) ?_
  intro args x h
  unfold F_CmpF0 at h
  split at h
  · exact (congrArg Tr.run (CmpF0_T _ _)).trans (ite_isW h fun h => by cases h)
  · cases h
noncomputable def G_CmpR0 : GamT := ofL [(26, .pure F_RCompare)]
theorem gok_CmpR0 (gl : Nat → Option Obj) : GamOk Tryd.prog gl (gam G_CmpR0) := (gamOk_cons (sim_RCompare gl) gamOk_nil)
noncomputable def c_CmpR01 : Code := loopC Tryd.f39 2
def I_CmpR01 : LI := ⟨43, [0, 1, 5], fun e => match e with | .ret => [4] | .exit 0 => [0, 1] | _ => [], true⟩
noncomputable def LI_CmpR01 : LpsT := fun r fr σ => .fail
noncomputable def CmpR01_V (vs : List PV) (σ : Store) : Option (PExit × List PV × Store) := lval (lstep tbT G_CmpR0 LI_CmpR01 c_CmpR01 I_CmpR01) vs σ
noncomputable def CmpR01_Tr (a : List (List PV)) (b : List (List PV)) (i : Int) : Tr LR := Tr.ite (iLt i (xLen a)) (Tr.ite (iLt i (xLen b)) (Tr.ite (okPos i) (Tr.ite (okGet [PV.int .i64 0, PV.int .i64 0, PV.str []] a (nNat i)) (Tr.ite (okPos i) (Tr.ite (okGet [PV.int .i64 0, PV.int .i64 0, PV.str []] b (nNat i)) (Tr.ite (iNe (compareR (xInt a (nNat i) 0) (xInt a (nNat i) 1) (xStr a (nNat i) 2) (xInt b (nNat i) 0) (xInt b (nNat i) 1) (xStr b (nNat i) 2)) 0) (Tr.ret (LR.out .ret [PV.int .i64 (compareR (xInt a (nNat i) 0) (xInt a (nNat i) 1) (xStr a (nNat i) 2) (xInt b (nNat i) 0) (xInt b (nNat i) 1) (xStr b (nNat i) 2))] (Store.mk [] [] []))) (Tr.ret (LR.next [PV.sl a .non, PV.sl b .non, PV.int .i64 (iAdd .i64 i 1)] (Store.mk [] [] [])))) Tr.fail) Tr.fail) Tr.fail) Tr.fail) (Tr.ret (LR.out (.exit 0) [PV.sl a .non, PV.sl b .non] (Store.mk [] [] [])))) (Tr.ret (LR.out (.exit 0) [PV.sl a .non, PV.sl b .non] (Store.mk [] [] [])))
theorem CmpR01_T (a : List (List PV)) (b : List (List PV)) (i : Int) : lstep tbT G_CmpR0 LI_CmpR01 c_CmpR01 I_CmpR01 [.sl a .non, .sl b .non, .int .i64 i] ⟨[], [], []⟩ = CmpR01_Tr a b i := by kernel_rfl
theorem CmpR01_E (a : List (List PV)) (b : List (List PV)) (i : Int) : CmpR01_V [.sl a .non, .sl b .non, .int .i64 i] ⟨[], [], []⟩ = lnext CmpR01_V (CmpR01_Tr a b i).run := by unfold CmpR01_V; rw [lval_eq, CmpR01_T]
noncomputable def CmpR01_W (a : List (List PV)) (b : List (List PV)) (i : Int) : Option (PExit × List PV × Store) := CmpR01_V [.sl a .non, .sl b .non, .int .i64 i] ⟨[], [], []⟩
noncomputable def CmpR01_n_0 (a : List (List PV)) (b : List (List PV)) (i : Int) : Int := (gInt (gOut (CmpR01_W a b i) 0))
noncomputable def CmpR01_is0 (a : List (List PV)) (b : List (List PV)) (i : Int) : Bool := isW (CmpR01_W a b i) (.ret, [.int .i64 (CmpR01_n_0 a b i)], ⟨[], [], []⟩)
noncomputable def CmpR01_a_1 (a : List (List PV)) (b : List (List PV)) (i : Int) : List (List PV) := (gRow (gOut (CmpR01_W a b i) 0))
noncomputable def CmpR01_b_1 (a : List (List PV)) (b : List (List PV)) (i : Int) : List (List PV) := (gRow (gOut (CmpR01_W a b i) 1))
noncomputable def CmpR01_is1 (a : List (List PV)) (b : List (List PV)) (i : Int) : Bool := isW (CmpR01_W a b i) ((.exit 0), [.sl (CmpR01_a_1 a b i) .non, .sl (CmpR01_b_1 a b i) .non], ⟨[], [], []⟩)
noncomputable def CmpR01_prop : List PV → Store → Tr (PExit × List PV × Store) | [.sl a .non, .sl b .non, .int .i64 i], ⟨[], [], []⟩ => .ite (CmpR01_is0 a b i) (.ret (.ret, [.int .i64 (CmpR01_n_0 a b i)], ⟨[], [], []⟩)) (.ite (CmpR01_is1 a b i) (.ret ((.exit 0), [.sl (CmpR01_a_1 a b i) .non, .sl (CmpR01_b_1 a b i) .non], ⟨[], [], []⟩)) (.fail)) | _, _ => .fail
theorem CmpR01_ok : ∀ vs σ r, (CmpR01_prop vs σ).run = some r → CmpR01_V vs σ = some r := by
  intro vs σ r h
  unfold CmpR01_prop at h
  split at h
  · exact ite_isW h fun h => ite_isW h fun h => by cases h
  · cases h
theorem loop_CmpR01 (gl : Nat → Option Obj) : ∀ fr σ e fr' σ', (orc I_CmpR01 CmpR01_prop fr σ).run = some (e, fr', σ') → LDoes Tryd.prog gl c_CmpR01 fr σ e fr' σ' := orc_ok tbT_ok (gok_CmpR0 gl ) noMixed (L := LI_CmpR01) (loopOk_none (by kernel_rfl)) (by kernel_rfl) CmpR01_ok
noncomputable def L_CmpR0 : LpsT := fun r fr σ => bif Nat.beq r 2 then orc I_CmpR01 CmpR01_prop fr σ else .fail
noncomputable def CmpR0_Tr (a : List (List PV)) (b : List (List PV)) : Tr PV := Tr.ite (CmpR01_is0 a b 0) (Tr.ret (PV.int .i64 (CmpR01_n_0 a b 0))) (Tr.ite (CmpR01_is1 a b 0) (Tr.ite (iLt (xLen (CmpR01_a_1 a b 0)) (xLen (CmpR01_b_1 a b 0))) (Tr.ret (PV.int .i64 (-1))) (Tr.ite (iLt (xLen (CmpR01_b_1 a b 0)) (xLen (CmpR01_a_1 a b 0))) (Tr.ret (PV.int .i64 1)) (Tr.ret (PV.int .i64 0)))) Tr.fail)
theorem CmpR0_T (a : List (List PV)) (b : List (List PV)) : (tcall tbT G_CmpR0 L_CmpR0 Tryd.f39 [.sl a .non, .sl b .non]).flat = CmpR0_Tr a b := by kernel_rfl
noncomputable def CmpR0_W (a : List (List PV)) (b : List (List PV)) : Option PV := (CmpR0_Tr a b).run
noncomputable def CmpR0_n (a : List (List PV)) (b : List (List PV)) : Int := (gInt (gVal (CmpR0_W a b)))
noncomputable def CmpR0_is0 (a : List (List PV)) (b : List (List PV)) : Bool := isW (CmpR0_W a b) (.int .i64 (CmpR0_n a b))
noncomputable def F_CmpR0 : List PV → Tr PV | [.sl a .non, .sl b .non] => .ite (CmpR0_is0 a b) (.ret (.int .i64 (CmpR0_n a b))) (.fail) | _ => .fail
theorem sim_CmpR0 (gl : Nat → Option Obj) : SimP Tryd.prog gl 39 fun args => (F_CmpR0 args).run := by
  refine SimP.of_flat (G := G_CmpR0) (L := L_CmpR0) tbT_ok (gok_CmpR0 gl ) noMixed Tryd.func39 rfl (by rfl) (by kernel_rfl) (loopOk_all (L := lps L_CmpR0) [(2, c_CmpR01)] (by kernel_rfl) (List.forall_mem_cons.2 ⟨fun fr σ e fr' σ' h => loop_CmpR01 gl  fr σ e fr' σ' h, (List.forall_mem_nil _)⟩)) ?_
  intro args x h
  unfold F_CmpR0 at h
  split at h
  · exact (congrArg Tr.run (CmpR0_T _ _)).trans (ite_isW h fun h => by cases h)
  · cases h
noncomputable def G_TCheck0 : GamT := ofL [(65, .pure F_Check)]
theorem gok_TCheck0 (gl : Nat → Option Obj) : GamOk Tryd.prog gl (gam G_TCheck0) := (gamOk_cons (sim_Check gl) gamOk_nil)
noncomputable def c_TCheck01 : Code := loopC Tryd.f36 4
def I_TCheck01 : LI := ⟨18, [8, 9, 10], fun e => match e with | .ret => [2] | .exit 0 => [] | _ => [], true⟩
noncomputable def LI_TCheck01 : LpsT := fun r fr σ => .fail
noncomputable def TCheck01_V (vs : List PV) (σ : Store) : Option (PExit × List PV × Store) := lval (lstep tbT G_TCheck0 LI_TCheck01 c_TCheck01 I_TCheck01) vs σ
noncomputable def TCheck01_Tr (r : List (List PV)) (n : Int) (n2 : Int) : Tr LR := Tr.ite (iLt n2 n) (Tr.ite (okPos n2) (Tr.ite (okGet [PV.int .i64 0, PV.int .i64 0, PV.str []] r (nNat n2)) (Tr.ite (iNe (checkV (xInt r (nNat n2) 0) (xInt r (nNat n2) 1) (xStr r (nNat n2) 2)) 0) (Tr.ret (LR.out .ret [PV.int .i64 20] (Store.mk [] [] []))) (Tr.ret (LR.next [PV.sl (dropPLL 0 r) .non, PV.int .i64 n, PV.int .i64 (iAdd .i64 n2 1)] (Store.mk [] [] [])))) Tr.fail) Tr.fail) (Tr.ret (LR.out (.exit 0) [] (Store.mk [] [] [])))
theorem TCheck01_T (r : List (List PV)) (n : Int) (n2 : Int) : lstep tbT G_TCheck0 LI_TCheck01 c_TCheck01 I_TCheck01 [.sl r .non, .int .i64 n, .int .i64 n2] ⟨[], [], []⟩ = TCheck01_Tr r n n2 := by kernel_rfl
theorem TCheck01_E (r : List (List PV)) (n : Int) (n2 : Int) : TCheck01_V [.sl r .non, .int .i64 n, .int .i64 n2] ⟨[], [], []⟩ = lnext TCheck01_V (TCheck01_Tr r n n2).run := by unfold TCheck01_V; rw [lval_eq, TCheck01_T]
noncomputable def TCheck01_W (r : List (List PV)) (n : Int) (n2 : Int) : Option (PExit × List PV × Store) := TCheck01_V [.sl r .non, .int .i64 n, .int .i64 n2] ⟨[], [], []⟩
noncomputable def TCheck01_n_0 (r : List (List PV)) (n : Int) (n2 : Int) : Int := (gInt (gOut (TCheck01_W r n n2) 0))
noncomputable def TCheck01_is0 (r : List (List PV)) (n : Int) (n2 : Int) : Bool := isW (TCheck01_W r n n2) (.ret, [.int .i64 (TCheck01_n_0 r n n2)], ⟨[], [], []⟩)
noncomputable def TCheck01_is1 (r : List (List PV)) (n : Int) (n2 : Int) : Bool := isW (TCheck01_W r n n2) ((.exit 0), [], ⟨[], [], []⟩)
noncomputable def TCheck01_prop : List PV → Store → Tr (PExit × List PV × Store) | [.sl r .non, .int .i64 n, .int .i64 n2], ⟨[], [], []⟩ => .ite (TCheck01_is0 r n n2) (.ret (.ret, [.int .i64 (TCheck01_n_0 r n n2)], ⟨[], [], []⟩)) (.ite (TCheck01_is1 r n n2) (.ret ((.exit 0), [], ⟨[], [], []⟩)) (.fail)) | _, _ => .fail
theorem TCheck01_ok : ∀ vs σ r, (TCheck01_prop vs σ).run = some r → TCheck01_V vs σ = some r := by
  intro vs σ r h
  unfold TCheck01_prop at h
  split at h
  · exact ite_isW h fun h => ite_isW h fun h => by cases h
  · cases h
theorem loop_TCheck01 (gl : Nat → Option Obj) : ∀ fr σ e fr' σ', (orc I_TCheck01 TCheck01_prop fr σ).run = some (e, fr', σ') → LDoes Tryd.prog gl c_TCheck01 fr σ e fr' σ' := orc_ok tbT_ok (gok_TCheck0 gl ) noMixed (L := LI_TCheck01) (loopOk_none (by kernel_rfl)) (by kernel_rfl) TCheck01_ok
noncomputable def L_TCheck0 : LpsT := fun r fr σ => bif Nat.beq r 4 then orc I_TCheck01 TCheck01_prop fr σ else .fail
noncomputable def TCheck0_Tr (t : List (List PV)) : Tr PV := Tr.ite (iLt 8 (xLen t)) (Tr.ret (PV.int .i64 20)) (Tr.ite (TCheck01_is0 t (xLen t) 0) (Tr.ret (PV.int .i64 (TCheck01_n_0 t (xLen t) 0))) (Tr.ite (TCheck01_is1 t (xLen t) 0) (Tr.ret (PV.int .i64 0)) Tr.fail))
theorem TCheck0_T (t : List (List PV)) : (tcall tbT G_TCheck0 L_TCheck0 Tryd.f36 [.sl t .non]).flat = TCheck0_Tr t := by kernel_rfl
noncomputable def TCheck0_W (t : List (List PV)) : Option PV := (TCheck0_Tr t).run
noncomputable def TCheck0_n (t : List (List PV)) : Int := (gInt (gVal (TCheck0_W t)))
noncomputable def TCheck0_is0 (t : List (List PV)) : Bool := isW (TCheck0_W t) (.int .i64 (TCheck0_n t))
noncomputable def F_TCheck0 : List PV → Tr PV | [.sl t .non] => .ite (TCheck0_is0 t) (.ret (.int .i64 (TCheck0_n t))) (.fail) | _ => .fail
theorem sim_TCheck0 (gl : Nat → Option Obj) : SimP Tryd.prog gl 36 fun args => (F_TCheck0 args).run := by
  refine SimP.of_flat (G := G_TCheck0) (L := L_TCheck0) tbT_ok (gok_TCheck0 gl ) noMixed Tryd.func36 rfl (by rfl) (by kernel_rfl) (loopOk_all (L := lps L_TCheck0) [(4, c_TCheck01)] (by kernel_rfl) (List.forall_mem_cons.2 ⟨fun fr σ e fr' σ' h => loop_TCheck01 gl  fr σ e fr' σ' h, (List.forall_mem_nil _)⟩)) ?_
  intro args x h
  unfold F_TCheck0 at h
  split at h
  · exact (congrArg Tr.run (TCheck0_T _)).trans (ite_isW h fun h => by cases h)
  · cases h
noncomputable def G_RCheck0 : GamT := ofL [(59, .pure F_Is)]
theorem gok_RCheck0 (gl : Nat → Option Obj) : GamOk Tryd.prog gl (gam G_RCheck0) := (gamOk_cons (sim_Is gl) gamOk_nil)
noncomputable def c_RCheck01 : Code := loopC Tryd.f20 4
def I_RCheck01 : LI := ⟨19, [0, 3], fun e => match e with | .ret => [2] | .exit 0 => [] | _ => [], true⟩
noncomputable def LI_RCheck01 : LpsT := fun r fr σ => .fail
noncomputable def RCheck01_V (vs : List PV) (σ : Store) : Option (PExit × List PV × Store) := lval (lstep tbT G_RCheck0 LI_RCheck01 c_RCheck01 I_RCheck01) vs σ
noncomputable def RCheck01_Tr (t : List (List PV)) (i : Int) : Tr LR := Tr.ite (iLt i (xLen t)) (Tr.ite (okPos i) (Tr.ite (okGet [PV.int .i64 0, PV.int .i64 0, PV.str []] t (nNat i)) (Tr.ite (bNot (isV (xInt t (nNat i) 0) (xInt t (nNat i) 1) (xStr t (nNat i) 2))) (Tr.ret (LR.out .ret [PV.int .i64 20] (Store.mk [] [] []))) (Tr.ret (LR.next [PV.sl t .non, PV.int .i64 (iAdd .i64 i 1)] (Store.mk [] [] [])))) Tr.fail) Tr.fail) (Tr.ret (LR.out (.exit 0) [] (Store.mk [] [] [])))
theorem RCheck01_T (t : List (List PV)) (i : Int) : lstep tbT G_RCheck0 LI_RCheck01 c_RCheck01 I_RCheck01 [.sl t .non, .int .i64 i] ⟨[], [], []⟩ = RCheck01_Tr t i := by kernel_rfl
theorem RCheck01_E (t : List (List PV)) (i : Int) : RCheck01_V [.sl t .non, .int .i64 i] ⟨[], [], []⟩ = lnext RCheck01_V (RCheck01_Tr t i).run := by unfold RCheck01_V; rw [lval_eq, RCheck01_T]
noncomputable def RCheck01_W (t : List (List PV)) (i : Int) : Option (PExit × List PV × Store) := RCheck01_V [.sl t .non, .int .i64 i] ⟨[], [], []⟩
noncomputable def RCheck01_n_0 (t : List (List PV)) (i : Int) : Int := (gInt (gOut (RCheck01_W t i) 0))
noncomputable def RCheck01_is0 (t : List (List PV)) (i : Int) : Bool := isW (RCheck01_W t i) (.ret, [.int .i64 (RCheck01_n_0 t i)], ⟨[], [], []⟩)
noncomputable def RCheck01_is1 (t : List (List PV)) (i : Int) : Bool := isW (RCheck01_W t i) ((.exit 0), [], ⟨[], [], []⟩)
noncomputable def RCheck01_prop : List PV → Store → Tr (PExit × List PV × Store) | [.sl t .non, .int .i64 i], ⟨[], [], []⟩ => .ite (RCheck01_is0 t i) (.ret (.ret, [.int .i64 (RCheck01_n_0 t i)], ⟨[], [], []⟩)) (.ite (RCheck01_is1 t i) (.ret ((.exit 0), [], ⟨[], [], []⟩)) (.fail)) | _, _ => .fail
theorem RCheck01_ok : ∀ vs σ r, (RCheck01_prop vs σ).run = some r → RCheck01_V vs σ = some r := by
  intro vs σ r h
  unfold RCheck01_prop at h
  split at h
  · exact ite_isW h fun h => ite_isW h fun h => by cases h
  · cases h
theorem loop_RCheck01 (gl : Nat → Option Obj) : ∀ fr σ e fr' σ', (orc I_RCheck01 RCheck01_prop fr σ).run = some (e, fr', σ') → LDoes Tryd.prog gl c_RCheck01 fr σ e fr' σ' := orc_ok tbT_ok (gok_RCheck0 gl ) noMixed (L := LI_RCheck01) (loopOk_none (by kernel_rfl)) (by kernel_rfl) RCheck01_ok
noncomputable def L_RCheck0 : LpsT := fun r fr σ => bif Nat.beq r 4 then orc I_RCheck01 RCheck01_prop fr σ else .fail
noncomputable def RCheck0_Tr (t : List (List PV)) : Tr PV := Tr.ite (iLt 8 (xLen t)) (Tr.ret (PV.int .i64 20)) (Tr.ite (RCheck01_is0 t 0) (Tr.ret (PV.int .i64 (RCheck01_n_0 t 0))) (Tr.ite (RCheck01_is1 t 0) (Tr.ret (PV.int .i64 0)) Tr.fail))
theorem RCheck0_T (t : List (List PV)) : (tcall tbT G_RCheck0 L_RCheck0 Tryd.f20 [.sl t .non]).flat = RCheck0_Tr t := by kernel_rfl
noncomputable def RCheck0_W (t : List (List PV)) : Option PV := (RCheck0_Tr t).run
noncomputable def RCheck0_n (t : List (List PV)) : Int := (gInt (gVal (RCheck0_W t)))
noncomputable def RCheck0_is0 (t : List (List PV)) : Bool := isW (RCheck0_W t) (.int .i64 (RCheck0_n t))
noncomputable def F_RCheck0 : List PV → Tr PV | [.sl t .non] => .ite (RCheck0_is0 t) (.ret (.int .i64 (RCheck0_n t))) (.fail) | _ => .fail
theorem sim_RCheck0 (gl : Nat → Option Obj) : SimP Tryd.prog gl 20 fun args => (F_RCheck0 args).run := by
  refine SimP.of_flat (G := G_RCheck0) (L := L_RCheck0) tbT_ok (gok_RCheck0 gl ) noMixed Tryd.func20 rfl (by rfl) (by kernel_rfl) (loopOk_all (L := lps L_RCheck0) [(4, c_RCheck01)] (by kernel_rfl) (List.forall_mem_cons.2 ⟨fun fr σ e fr' σ' h => loop_RCheck01 gl  fr σ e fr' σ' h, (List.forall_mem_nil _)⟩)) ?_
  intro args x h
  unfold F_RCheck0 at h
  split at h
  · exact (congrArg Tr.run (RCheck0_T _)).trans (ite_isW h fun h => by cases h)
  · cases h
noncomputable def G_TTyped0 : GamT := ofL [(66, .pure F_Type)]
theorem gok_TTyped0 (gl : Nat → Option Obj) : GamOk Tryd.prog gl (gam G_TTyped0) := (gamOk_cons (sim_Type gl) gamOk_nil)
noncomputable def c_TTyped01 : Code := loopC Tryd.f37 4
def I_TTyped01 : LI := ⟨37, [1, 14, 15, 16], fun e => match e with | .ret => [4] | .exit 0 => [] | _ => [], true⟩
noncomputable def LI_TTyped01 : LpsT := fun r fr σ => .fail
noncomputable def TTyped01_V (vs : List PV) (σ : Store) : Option (PExit × List PV × Store) := lval (lstep tbT G_TTyped0 LI_TTyped01 c_TTyped01 I_TTyped01) vs σ
noncomputable def TTyped01_Tr (types : List (List PV)) (r : List (List PV)) (n : Int) (n2 : Int) : Tr LR := Tr.ite (iLt n2 n) (Tr.ite (okPos n2) (Tr.ite (okGet [PV.int .i64 0, PV.int .i64 0, PV.str []] r (nNat n2)) (Tr.ite (iNe (checkV (xInt r (nNat n2) 0) (xInt r (nNat n2) 1) (xStr r (nNat n2) 2)) 0) (Tr.ret (LR.out .ret [PV.bool false] (Store.mk [] [] []))) (Tr.ite (okPos n2) (Tr.ite (okGet [PV.int .i64 0] types (nNat n2)) (Tr.ite (iNe (typeV (xInt r (nNat n2) 0) (xInt r (nNat n2) 1) (xStr r (nNat n2) 2)) (xInt types (nNat n2) 0)) (Tr.ret (LR.out .ret [PV.bool false] (Store.mk [] [] []))) (Tr.ret (LR.next [PV.sl (dropPLL 0 types) .non, PV.sl (dropPLL 0 r) .non, PV.int .i64 n, PV.int .i64 (iAdd .i64 n2 1)] (Store.mk [] [] [])))) Tr.fail) Tr.fail)) Tr.fail) Tr.fail) (Tr.ret (LR.out (.exit 0) [] (Store.mk [] [] [])))
theorem TTyped01_T (types : List (List PV)) (r : List (List PV)) (n : Int) (n2 : Int) : lstep tbT G_TTyped0 LI_TTyped01 c_TTyped01 I_TTyped01 [.sl types .non, .sl r .non, .int .i64 n, .int .i64 n2] ⟨[], [], []⟩ = TTyped01_Tr types r n n2 := by kernel_rfl
theorem TTyped01_E (types : List (List PV)) (r : List (List PV)) (n : Int) (n2 : Int) : TTyped01_V [.sl types .non, .sl r .non, .int .i64 n, .int .i64 n2] ⟨[], [], []⟩ = lnext TTyped01_V (TTyped01_Tr types r n n2).run := by unfold TTyped01_V; rw [lval_eq, TTyped01_T]
noncomputable def TTyped01_W (types : List (List PV)) (r : List (List PV)) (n : Int) (n2 : Int) : Option (PExit × List PV × Store) := TTyped01_V [.sl types .non, .sl r .non, .int .i64 n, .int .i64 n2] ⟨[], [], []⟩
noncomputable def TTyped01_b_0 (types : List (List PV)) (r : List (List PV)) (n : Int) (n2 : Int) : Bool := (gBool (gOut (TTyped01_W types r n n2) 0))
noncomputable def TTyped01_is0 (types : List (List PV)) (r : List (List PV)) (n : Int) (n2 : Int) : Bool := isW (TTyped01_W types r n n2) (.ret, [.bool (TTyped01_b_0 types r n n2)], ⟨[], [], []⟩)
noncomputable def TTyped01_is1 (types : List (List PV)) (r : List (List PV)) (n : Int) (n2 : Int) : Bool := isW (TTyped01_W types r n n2) ((.exit 0), [], ⟨[], [], []⟩)
noncomputable def TTyped01_prop : List PV → Store → Tr (PExit × List PV × Store) | [.sl types .non, .sl r .non, .int .i64 n, .int .i64 n2], ⟨[], [], []⟩ => .ite (TTyped01_is0 types r n n2) (.ret (.ret, [.bool (TTyped01_b_0 types r n n2)], ⟨[], [], []⟩)) (.ite (TTyped01_is1 types r n n2) (.ret ((.exit 0), [], ⟨[], [], []⟩)) (.fail)) | _, _ => .fail
theorem TTyped01_ok : ∀ vs σ r, (TTyped01_prop vs σ).run = some r → TTyped01_V vs σ = some r := by
  intro vs σ r h
  unfold TTyped01_prop at h
  split at h
  · exact ite_isW h fun h => ite_isW h fun h => by cases h
  · cases h
theorem loop_TTyped01 (gl : Nat → Option Obj) : ∀ fr σ e fr' σ', (orc I_TTyped01 TTyped01_prop fr σ).run = some (e, fr', σ') → LDoes Tryd.prog gl c_TTyped01 fr σ e fr' σ' := orc_ok tbT_ok (gok_TTyped0 gl ) noMixed (L := LI_TTyped01) (loopOk_none (by kernel_rfl)) (by kernel_rfl) TTyped01_ok
noncomputable def L_TTyped0 : LpsT := fun r fr σ => bif Nat.beq r 4 then orc I_TTyped01 TTyped01_prop fr σ else .fail
noncomputable def TTyped0_Tr (t : List (List PV)) (types : List (List PV)) : Tr PV := Tr.ite (iNe (xLen t) (xLen types)) (Tr.ret (PV.bool false)) (Tr.ite (TTyped01_is0 types t (xLen t) 0) (Tr.ret (PV.bool (TTyped01_b_0 types t (xLen t) 0))) (Tr.ite (TTyped01_is1 types t (xLen t) 0) (Tr.ret (PV.bool true)) Tr.fail))
theorem TTyped0_T (t : List (List PV)) (types : List (List PV)) : (tcall tbT G_TTyped0 L_TTyped0 Tryd.f37 [.sl t .non, .sl types .non]).flat = TTyped0_Tr t types := by kernel_rfl
noncomputable def TTyped0_W (t : List (List PV)) (types : List (List PV)) : Option PV := (TTyped0_Tr t types).run
noncomputable def TTyped0_b (t : List (List PV)) (types : List (List PV)) : Bool := (gBool (gVal (TTyped0_W t types)))
noncomputable def TTyped0_is0 (t : List (List PV)) (types : List (List PV)) : Bool := isW (TTyped0_W t types) (.bool (TTyped0_b t types))
noncomputable def F_TTyped0 : List PV → Tr PV | [.sl t .non, .sl types .non] => .ite (TTyped0_is0 t types) (.ret (.bool (TTyped0_b t types))) (.fail) | _ => .fail
theorem sim_TTyped0 (gl : Nat → Option Obj) : SimP Tryd.prog gl 37 fun args => (F_TTyped0 args).run := by
  refine SimP.of_flat (G := G_TTyped0) (L := L_TTyped0) tbT_ok (gok_TTyped0 gl ) noMixed Tryd.func37 rfl (by rfl) (by kernel_rfl) (loopOk_all (L := lps L_TTyped0) [(4, c_TTyped01)] (by kernel_rfl) (List.forall_mem_cons.2 ⟨fun fr σ e fr' σ' h => loop_TTyped01 gl  fr σ e fr' σ' h, (List.forall_mem_nil _)⟩)) ?_
  intro args x h
  unfold F_TTyped0 at h
  split at h
  · exact (congrArg Tr.run (TTyped0_T _ _)).trans (ite_isW h fun h => by cases h)
  · cases h
noncomputable def G_RTyped0 : GamT := ofL [(67, .pure F_RType)]
theorem gok_RTyped0 (gl : Nat → Option Obj) : GamOk Tryd.prog gl (gam G_RTyped0) := (gamOk_cons (sim_RType gl) gamOk_nil)
noncomputable def c_RTyped01 : Code := loopC Tryd.f38 4
def I_RTyped01 : LI := ⟨37, [0, 1, 5], fun e => match e with | .ret => [4] | .exit 0 => [] | _ => [], true⟩
noncomputable def LI_RTyped01 : LpsT := fun r fr σ => .fail
noncomputable def RTyped01_V (vs : List PV) (σ : Store) : Option (PExit × List PV × Store) := lval (lstep tbT G_RTyped0 LI_RTyped01 c_RTyped01 I_RTyped01) vs σ
noncomputable def RTyped01_Tr (t : List (List PV)) (types : List (List PV)) (i : Int) : Tr LR := Tr.ite (iLt i (xLen t)) (Tr.ite (okPos i) (Tr.ite (okGet [PV.int .i64 0, PV.int .i64 0, PV.str []] t (nNat i)) (Tr.ite (iNe (checkV (xInt t (nNat i) 0) (xInt t (nNat i) 1) (xStr t (nNat i) 2)) 0) (Tr.ret (LR.out .ret [PV.bool false] (Store.mk [] [] []))) (Tr.ite (okPos i) (Tr.ite (okGet [PV.int .i64 0] types (nNat i)) (Tr.ite (iNe (typeV (xInt t (nNat i) 0) (xInt t (nNat i) 1) (xStr t (nNat i) 2)) (xInt types (nNat i) 0)) (Tr.ret (LR.out .ret [PV.bool false] (Store.mk [] [] []))) (Tr.ret (LR.next [PV.sl t .non, PV.sl types .non, PV.int .i64 (iAdd .i64 i 1)] (Store.mk [] [] [])))) Tr.fail) Tr.fail)) Tr.fail) Tr.fail) (Tr.ret (LR.out (.exit 0) [] (Store.mk [] [] [])))
theorem RTyped01_T (t : List (List PV)) (types : List (List PV)) (i : Int) : lstep tbT G_RTyped0 LI_RTyped01 c_RTyped01 I_RTyped01 [.sl t .non, .sl types .non, .int .i64 i] ⟨[], [], []⟩ = RTyped01_Tr t types i := by kernel_rfl
theorem RTyped01_E (t : List (List PV)) (types : List (List PV)) (i : Int) : RTyped01_V [.sl t .non, .sl types .non, .int .i64 i] ⟨[], [], []⟩ = lnext RTyped01_V (RTyped01_Tr t types i).run := by unfold RTyped01_V; rw [lval_eq, RTyped01_T]
noncomputable def RTyped01_W (t : List (List PV)) (types : List (List PV)) (i : Int) : Option (PExit × List PV × Store) := RTyped01_V [.sl t .non, .sl types .non, .int .i64 i] ⟨[], [], []⟩
noncomputable def RTyped01_b_0 (t : List (List PV)) (types : List (List PV)) (i : Int) : Bool := (gBool (gOut (RTyped01_W t types i) 0))
noncomputable def RTyped01_is0 (t : List (List PV)) (types : List (List PV)) (i : Int) : Bool := isW (RTyped01_W t types i) (.ret, [.bool (RTyped01_b_0 t types i)], ⟨[], [], []⟩)
noncomputable def RTyped01_is1 (t : List (List PV)) (types : List (List PV)) (i : Int) : Bool := isW (RTyped01_W t types i) ((.exit 0), [], ⟨[], [], []⟩)
noncomputable def RTyped01_prop : List PV → Store → Tr (PExit × List PV × Store) | [.sl t .non, .sl types .non, .int .i64 i], ⟨[], [], []⟩ => .ite (RTyped01_is0 t types i) (.ret (.ret, [.bool (RTyped01_b_0 t types i)], ⟨[], [], []⟩)) (.ite (RTyped01_is1 t types i) (.ret ((.exit 0), [], ⟨[], [], []⟩)) (.fail)) | _, _ => .fail
theorem RTyped01_ok : ∀ vs σ r, (RTyped01_prop vs σ).run = some r → RTyped01_V vs σ = some r := by
  intro vs σ r h
  unfold RTyped01_prop at h
  split at h
  · exact ite_isW h fun h => ite_isW h fun h => by cases h
  · cases h
theorem loop_RTyped01 (gl : Nat → Option Obj) : ∀ fr σ e fr' σ', (orc I_RTyped01 RTyped01_prop fr σ).run = some (e, fr', σ') → LDoes Tryd.prog gl c_RTyped01 fr σ e fr' σ' := orc_ok tbT_ok (gok_RTyped0 gl ) noMixed (L := LI_RTyped01) (loopOk_none (by kernel_rfl)) (by kernel_rfl) RTyped01_ok
noncomputable def L_RTyped0 : LpsT := fun r fr σ => bif Nat.beq r 4 then orc I_RTyped01 RTyped01_prop fr σ else .fail
noncomputable def RTyped0_Tr (t : List (List PV)) (types : List (List PV)) : Tr PV := Tr.ite (iNe (xLen t) (xLen types)) (Tr.ret (PV.bool false)) (Tr.ite (RTyped01_is0 t types 0) (Tr.ret (PV.bool (RTyped01_b_0 t types 0))) (Tr.ite (RTyped01_is1 t types 0) (Tr.ret (PV.bool true)) Tr.fail))
theorem RTyped0_T (t : List (List PV)) (types : List (List PV)) : (tcall tbT G_RTyped0 L_RTyped0 Tryd.f38 [.sl t .non, .sl types .non]).flat = RTyped0_Tr t types := by kernel_rfl
noncomputable def RTyped0_W (t : List (List PV)) (types : List (List PV)) : Option PV := (RTyped0_Tr t types).run
noncomputable def RTyped0_b (t : List (List PV)) (types : List (List PV)) : Bool := (gBool (gVal (RTyped0_W t types)))
noncomputable def RTyped0_is0 (t : List (List PV)) (types : List (List PV)) : Bool := isW (RTyped0_W t types) (.bool (RTyped0_b t types))
noncomputable def F_RTyped0 : List PV → Tr PV | [.sl t .non, .sl types .non] => .ite (RTyped0_is0 t types) (.ret (.bool (RTyped0_b t types))) (.fail) | _ => .fail
theorem sim_RTyped0 (gl : Nat → Option Obj) : SimP Tryd.prog gl 38 fun args => (F_RTyped0 args).run := by
  refine SimP.of_flat (G := G_RTyped0) (L := L_RTyped0) tbT_ok (gok_RTyped0 gl ) noMixed Tryd.func38 rfl (by rfl) (by kernel_rfl) (loopOk_all (L := lps L_RTyped0) [(4, c_RTyped01)] (by kernel_rfl) (List.forall_mem_cons.2 ⟨fun fr σ e fr' σ' h => loop_RTyped01 gl  fr σ e fr' σ' h, (List.forall_mem_nil _)⟩)) ?_
  intro args x h
  unfold F_RTyped0 at h
  split at h
  · exact (congrArg Tr.run (RTyped0_T _ _)).trans (ite_isW h fun h => by cases h)
  · cases h
noncomputable def G_cut0 : GamT := ofL []
theorem gok_cut0 (gl : Nat → Option Obj) : GamOk Tryd.prog gl (gam G_cut0) := gamOk_nil
noncomputable def L_cut0 : LpsT := fun r fr σ => .fail
noncomputable def cut0_Tr (t : List (List PV)) : Tr PV := Tr.ite (iLt 20 (xLen t)) (Tr.ite (okSub true (okPos 20) 0 (nNat 20) (nXs t)) (Tr.ite (okSize t 3) (Tr.ret (PV.sl (shutLL (xSub t 0 (nNat 20))) .non)) Tr.fail) Tr.fail) (Tr.ret (PV.sl (shutLL t) .non))
theorem cut0_T (t : List (List PV)) : (tcall tbT G_cut0 L_cut0 Tryd.f15 [.sl t .non]).flat = cut0_Tr t := by kernel_rfl
noncomputable def cut0_W (t : List (List PV)) : Option PV := (cut0_Tr t).run
noncomputable def cut0_r (t : List (List PV)) : List (List PV) := (gRow (gVal (cut0_W t)))
noncomputable def cut0_is0 (t : List (List PV)) : Bool := isW (cut0_W t) (.sl (cut0_r t) .non)
noncomputable def F_cut0 : List PV → Tr PV | [.sl t .non] => .ite (cut0_is0 t) (.ret (.sl (cut0_r t) .non)) (.fail) | _ => .fail
theorem sim_cut0 (gl : Nat → Option Obj) : SimP Tryd.prog gl 15 fun args => (F_cut0 args).run := by
  refine SimP.of_flat (G := G_cut0) (L := L_cut0) tbT_ok (gok_cut0 gl ) noMixed Tryd.func15 rfl (by rfl) (by kernel_rfl) (loopOk_none (by kernel_rfl)) ?_
  intro args x h
  unfold F_cut0 at h
  split at h
  · exact (congrArg Tr.run (cut0_T _)).trans (ite_isW h fun h => by cases h)
  · cases h
noncomputable def G_term0 : GamT := ofL [(65, .pure F_Check)]
theorem gok_term0 (gl : Nat → Option Obj) : GamOk Tryd.prog gl (gam G_term0) := (gamOk_cons (sim_Check gl) gamOk_nil)
noncomputable def L_term0 : LpsT := fun r fr σ => .fail
noncomputable def term0_Tr (t : Int) (t2 : List UInt8) (t3 : Int) (t4 : Int) (t5 : List UInt8) : Tr PV := Tr.ite (iEq t 2) (Tr.ite (sEq t2 []) (Tr.ret (PV.bool (iEq (checkV t3 t4 t5) 0))) (Tr.ret (PV.bool false))) (Tr.ite (iEq t 1) (Tr.ite (iLe 1 (sLen t2)) (Tr.ite (iLe (sLen t2) 64) (Tr.ret (PV.bool (bAnd (iEq t3 0) (bAnd (iEq t4 0) (bAnd (sEq t5 []) true))))) (Tr.ret (PV.bool false))) (Tr.ret (PV.bool false))) (Tr.ite (iEq t 3) (Tr.ite (sEq t2 []) (Tr.ret (PV.bool (bAnd (iEq t3 0) (bAnd (iEq t4 0) (bAnd (sEq t5 []) true))))) (Tr.ret (PV.bool false))) (Tr.ret (PV.bool false))))
theorem term0_T (t : Int) (t2 : List UInt8) (t3 : Int) (t4 : Int) (t5 : List UInt8) : (tcall tbT G_term0 L_term0 Tryd.f63 [.agg [.int .i64 t, .str t2, .int .i64 t3, .int .i64 t4, .str t5]]).flat = term0_Tr t t2 t3 t4 t5 := by kernel_rfl
noncomputable def term0_W (t : Int) (t2 : List UInt8) (t3 : Int) (t4 : Int) (t5 : List UInt8) : Option PV := (term0_Tr t t2 t3 t4 t5).run
noncomputable def term0_b (t : Int) (t2 : List UInt8) (t3 : Int) (t4 : Int) (t5 : List UInt8) : Bool := (gBool (gVal (term0_W t t2 t3 t4 t5)))
noncomputable def term0_is0 (t : Int) (t2 : List UInt8) (t3 : Int) (t4 : Int) (t5 : List UInt8) : Bool := isW (term0_W t t2 t3 t4 t5) (.bool (term0_b t t2 t3 t4 t5))
noncomputable def F_term0 : List PV → Tr PV | [.agg [.int .i64 t, .str t2, .int .i64 t3, .int .i64 t4, .str t5]] => .ite (term0_is0 t t2 t3 t4 t5) (.ret (.bool (term0_b t t2 t3 t4 t5))) (.fail) | _ => .fail
theorem sim_term0 (gl : Nat → Option Obj) : SimP Tryd.prog gl 63 fun args => (F_term0 args).run := by
  refine SimP.of_flat (G := G_term0) (L := L_term0) tbT_ok (gok_term0 gl ) noMixed Tryd.func63 rfl (by rfl) (by kernel_rfl) (loopOk_none (by kernel_rfl)) ?_
  intro args x h
  unfold F_term0 at h
  split at h
  · exact (congrArg Tr.run (term0_T _ _ _ _ _)).trans (ite_isW h fun h => by cases h)
  · cases h
noncomputable def G_RPat0 : GamT := ofL [(59, .pure F_Is)]
theorem gok_RPat0 (gl : Nat → Option Obj) : GamOk Tryd.prog gl (gam G_RPat0) := (gamOk_cons (sim_Is gl) gamOk_nil)
noncomputable def c_RPat01 : Code := loopC Tryd.f29 3
def I_RPat01 : LI := ⟨65, [0, 3, 4], fun e => match e with | .exit 0 => [3] | _ => [], true⟩
noncomputable def LI_RPat01 : LpsT := fun r fr σ => .fail
noncomputable def RPat01_V (vs : List PV) (σ : Store) : Option (PExit × List PV × Store) := lval (lstep tbT G_RPat0 LI_RPat01 c_RPat01 I_RPat01) vs σ
noncomputable def RPat01_Tr (r : List (List PV)) (b : Bool) (n : Int) : Tr LR := Tr.ite (iLt n (xLen r)) (Tr.ite b (Tr.ite (okPos n) (Tr.ite (okGet [PV.int .i64 0, PV.str [], PV.int .i64 0, PV.int .i64 0, PV.str []] r (nNat n)) (Tr.ite (iEq (xInt r (nNat n) 0) 2) (Tr.ite (isV (xInt r (nNat n) 2) (xInt r (nNat n) 3) (xStr r (nNat n) 4)) (Tr.ret (LR.next [PV.sl (dropPLL 0 r) .non, PV.bool (sEq (xStr r (nNat n) 1) []), PV.int .i64 (iAdd .i64 n 1)] (Store.mk [] [] []))) (Tr.ret (LR.next [PV.sl (dropPLL 0 r) .non, PV.bool false, PV.int .i64 (iAdd .i64 n 1)] (Store.mk [] [] [])))) (Tr.ite (iEq (xInt r (nNat n) 0) 1) (Tr.ite (iLe 1 (sLen (xStr r (nNat n) 1))) (Tr.ite (iLe (sLen (xStr r (nNat n) 1)) 64) (Tr.ret (LR.next [PV.sl (dropPLL 0 r) .non, PV.bool (bAnd (iEq (xInt r (nNat n) 2) 0) (bAnd (iEq (xInt r (nNat n) 3) 0) (bAnd (sEq (xStr r (nNat n) 4) []) true))), PV.int .i64 (iAdd .i64 n 1)] (Store.mk [] [] []))) (Tr.ret (LR.next [PV.sl (dropPLL 0 r) .non, PV.bool false, PV.int .i64 (iAdd .i64 n 1)] (Store.mk [] [] [])))) (Tr.ret (LR.next [PV.sl (dropPLL 0 r) .non, PV.bool false, PV.int .i64 (iAdd .i64 n 1)] (Store.mk [] [] [])))) (Tr.ite (iEq (xInt r (nNat n) 0) 3) (Tr.ite (sEq (xStr r (nNat n) 1) []) (Tr.ret (LR.next [PV.sl (dropPLL 0 r) .non, PV.bool (bAnd (iEq (xInt r (nNat n) 2) 0) (bAnd (iEq (xInt r (nNat n) 3) 0) (bAnd (sEq (xStr r (nNat n) 4) []) true))), PV.int .i64 (iAdd .i64 n 1)] (Store.mk [] [] []))) (Tr.ret (LR.next [PV.sl (dropPLL 0 r) .non, PV.bool false, PV.int .i64 (iAdd .i64 n 1)] (Store.mk [] [] [])))) (Tr.ret (LR.next [PV.sl (dropPLL 0 r) .non, PV.bool false, PV.int .i64 (iAdd .i64 n 1)] (Store.mk [] [] [])))))) Tr.fail) Tr.fail) (Tr.ret (LR.out (.exit 0) [PV.bool b] (Store.mk [] [] [])))) (Tr.ret (LR.out (.exit 0) [PV.bool b] (Store.mk [] [] [])))
theorem RPat01_T (r : List (List PV)) (b : Bool) (n : Int) : lstep tbT G_RPat0 LI_RPat01 c_RPat01 I_RPat01 [.sl r .non, .bool b, .int .i64 n] ⟨[], [], []⟩ = RPat01_Tr r b n := by kernel_rfl
theorem RPat01_E (r : List (List PV)) (b : Bool) (n : Int) : RPat01_V [.sl r .non, .bool b, .int .i64 n] ⟨[], [], []⟩ = lnext RPat01_V (RPat01_Tr r b n).run := by unfold RPat01_V; rw [lval_eq, RPat01_T]
noncomputable def RPat01_W (r : List (List PV)) (b : Bool) (n : Int) : Option (PExit × List PV × Store) := RPat01_V [.sl r .non, .bool b, .int .i64 n] ⟨[], [], []⟩
noncomputable def RPat01_b (r : List (List PV)) (b : Bool) (n : Int) : Bool := (gBool (gOut (RPat01_W r b n) 0))
noncomputable def RPat01_is0 (r : List (List PV)) (b : Bool) (n : Int) : Bool := isW (RPat01_W r b n) ((.exit 0), [.bool (RPat01_b r b n)], ⟨[], [], []⟩)
noncomputable def RPat01_prop : List PV → Store → Tr (PExit × List PV × Store) | [.sl r .non, .bool b, .int .i64 n], ⟨[], [], []⟩ => .ite (RPat01_is0 r b n) (.ret ((.exit 0), [.bool (RPat01_b r b n)], ⟨[], [], []⟩)) (.fail) | _, _ => .fail
theorem RPat01_ok : ∀ vs σ r, (RPat01_prop vs σ).run = some r → RPat01_V vs σ = some r := by
  intro vs σ r h
  unfold RPat01_prop at h
  split at h
  · exact ite_isW h fun h => by cases h
  · cases h
theorem loop_RPat01 (gl : Nat → Option Obj) : ∀ fr σ e fr' σ', (orc I_RPat01 RPat01_prop fr σ).run = some (e, fr', σ') → LDoes Tryd.prog gl c_RPat01 fr σ e fr' σ' := orc_ok tbT_ok (gok_RPat0 gl ) noMixed (L := LI_RPat01) (loopOk_none (by kernel_rfl)) (by kernel_rfl) RPat01_ok
noncomputable def L_RPat0 : LpsT := fun r fr σ => bif Nat.beq r 3 then orc I_RPat01 RPat01_prop fr σ else .fail
noncomputable def RPat0_Tr (v : List (List PV)) : Tr PV := Tr.ite (RPat01_is0 v (iLe (xLen v) 8) 0) (Tr.ite (bNot (RPat01_b v (iLe (xLen v) 8) 0)) (Tr.ret (PV.int .i64 22)) (Tr.ret (PV.int .i64 0))) Tr.fail
theorem RPat0_T (v : List (List PV)) : (tcall tbT G_RPat0 L_RPat0 Tryd.f29 [.sl v .non]).flat = RPat0_Tr v := by kernel_rfl
noncomputable def RPat0_W (v : List (List PV)) : Option PV := (RPat0_Tr v).run
noncomputable def RPat0_n (v : List (List PV)) : Int := (gInt (gVal (RPat0_W v)))
noncomputable def RPat0_is0 (v : List (List PV)) : Bool := isW (RPat0_W v) (.int .i64 (RPat0_n v))
noncomputable def F_RPat0 : List PV → Tr PV | [.sl v .non] => .ite (RPat0_is0 v) (.ret (.int .i64 (RPat0_n v))) (.fail) | _ => .fail
theorem sim_RPat0 (gl : Nat → Option Obj) : SimP Tryd.prog gl 29 fun args => (F_RPat0 args).run := by
  refine SimP.of_flat (G := G_RPat0) (L := L_RPat0) tbT_ok (gok_RPat0 gl ) noMixed Tryd.func29 rfl (by rfl) (by kernel_rfl) (loopOk_all (L := lps L_RPat0) [(3, c_RPat01)] (by kernel_rfl) (List.forall_mem_cons.2 ⟨fun fr σ e fr' σ' h => loop_RPat01 gl  fr σ e fr' σ' h, (List.forall_mem_nil _)⟩)) ?_
  intro args x h
  unfold F_RPat0 at h
  split at h
  · exact (congrArg Tr.run (RPat0_T _)).trans (ite_isW h fun h => by cases h)
  · cases h
noncomputable def G_mcl : GamT := ofL []
theorem gok_mcl (gl : Nat → Option Obj) : GamOk Tryd.prog gl (gam G_mcl) := gamOk_nil
noncomputable def L_mcl : LpsT := fun r fr σ => .fail
noncomputable def mcl_Tr (b : List UInt8) (k : Int) (n : Int) (s : List UInt8) (ka : Int) (nm : List UInt8) (kb : Int) (kc : Int) (kd : List UInt8) : Tr PV := Tr.ret (PV.bool (sEq b nm))
theorem mcl_T (b : List UInt8) (k : Int) (n : Int) (s : List UInt8) (ka : Int) (nm : List UInt8) (kb : Int) (kc : Int) (kd : List UInt8) : (tcall tbT G_mcl L_mcl Tryd.f58 [.agg [.str b, .int .i64 k, .int .i64 n, .str s], .ref [.int .i64 ka, .str nm, .int .i64 kb, .int .i64 kc, .str kd]]).flat = mcl_Tr b k n s ka nm kb kc kd := by kernel_rfl
noncomputable def F_mcl : List PV → Tr PV | [.agg [.str b, .int .i64 k, .int .i64 n, .str s], .ref [.int .i64 ka, .str nm, .int .i64 kb, .int .i64 kc, .str kd]] => mcl_Tr b k n s ka nm kb kc kd | _ => .fail
theorem sim_mcl (gl : Nat → Option Obj) : SimP Tryd.prog gl 58 fun args => (F_mcl args).run := by
  refine SimP.of_flat (G := G_mcl) (L := L_mcl) tbT_ok (gok_mcl gl ) noMixed Tryd.func58 rfl (by rfl) (by kernel_rfl) (loopOk_none (by kernel_rfl)) ?_
  intro args x h
  unfold F_mcl at h
  split at h
  · exact (congrArg Tr.run (mcl_T _ _ _ _ _ _ _ _ _)).trans h
  · cases h
noncomputable def G_Idx0 : GamT := ofL [(58, .pure F_mcl)]
theorem gok_Idx0 (gl : Nat → Option Obj) : GamOk Tryd.prog gl (gam G_Idx0) := (gamOk_cons (sim_mcl gl) gamOk_nil)
noncomputable def c_Idx01 : Code := loopC Tryd.f57 2
def I_Idx01 : LI := ⟨19, [0, 1, 7, 8], fun e => match e with | .ret => [4] | .exit 0 => [] | _ => [], true⟩
noncomputable def LI_Idx01 : LpsT := fun r fr σ => .fail
noncomputable def Idx01_V (vs : List PV) (σ : Store) : Option (PExit × List PV × Store) := lval (lstep tbT G_Idx0 LI_Idx01 c_Idx01 I_Idx01) vs σ
noncomputable def Idx01_Tr (s : List (List PV)) (f : Int) (f2 : List UInt8) (f3 : Int) (f4 : Int) (f5 : List UInt8) (n : Int) (n2 : Int) : Tr LR := Tr.ite (iLt n2 n) (Tr.ite (okPos n2) (Tr.ite (okGet [PV.str [], PV.int .i64 0, PV.int .i64 0, PV.str []] s (nNat n2)) (Tr.ite (sEq (xStr s (nNat n2) 0) f2) (Tr.ret (LR.out .ret [PV.int .i64 n2] (Store.mk [] [] []))) (Tr.ret (LR.next [PV.sl s .non, PV.fn 58 [PV.ref [PV.int .i64 f, PV.str f2, PV.int .i64 f3, PV.int .i64 f4, PV.str f5]], PV.int .i64 n, PV.int .i64 (iAdd .i64 n2 1)] (Store.mk [] [] [])))) Tr.fail) Tr.fail) (Tr.ret (LR.out (.exit 0) [] (Store.mk [] [] [])))
theorem Idx01_T (s : List (List PV)) (f : Int) (f2 : List UInt8) (f3 : Int) (f4 : Int) (f5 : List UInt8) (n : Int) (n2 : Int) : lstep tbT G_Idx0 LI_Idx01 c_Idx01 I_Idx01 [.sl s .non, .fn 58 [.ref [.int .i64 f, .str f2, .int .i64 f3, .int .i64 f4, .str f5]], .int .i64 n, .int .i64 n2] ⟨[], [], []⟩ = Idx01_Tr s f f2 f3 f4 f5 n n2 := by kernel_rfl
theorem Idx01_E (s : List (List PV)) (f : Int) (f2 : List UInt8) (f3 : Int) (f4 : Int) (f5 : List UInt8) (n : Int) (n2 : Int) : Idx01_V [.sl s .non, .fn 58 [.ref [.int .i64 f, .str f2, .int .i64 f3, .int .i64 f4, .str f5]], .int .i64 n, .int .i64 n2] ⟨[], [], []⟩ = lnext Idx01_V (Idx01_Tr s f f2 f3 f4 f5 n n2).run := by unfold Idx01_V; rw [lval_eq, Idx01_T]
noncomputable def Idx01_W (s : List (List PV)) (f : Int) (f2 : List UInt8) (f3 : Int) (f4 : Int) (f5 : List UInt8) (n : Int) (n2 : Int) : Option (PExit × List PV × Store) := Idx01_V [.sl s .non, .fn 58 [.ref [.int .i64 f, .str f2, .int .i64 f3, .int .i64 f4, .str f5]], .int .i64 n, .int .i64 n2] ⟨[], [], []⟩
noncomputable def Idx01_n_0 (s : List (List PV)) (f : Int) (f2 : List UInt8) (f3 : Int) (f4 : Int) (f5 : List UInt8) (n : Int) (n2 : Int) : Int := (gInt (gOut (Idx01_W s f f2 f3 f4 f5 n n2) 0))
noncomputable def Idx01_is0 (s : List (List PV)) (f : Int) (f2 : List UInt8) (f3 : Int) (f4 : Int) (f5 : List UInt8) (n : Int) (n2 : Int) : Bool := isW (Idx01_W s f f2 f3 f4 f5 n n2) (.ret, [.int .i64 (Idx01_n_0 s f f2 f3 f4 f5 n n2)], ⟨[], [], []⟩)
noncomputable def Idx01_is1 (s : List (List PV)) (f : Int) (f2 : List UInt8) (f3 : Int) (f4 : Int) (f5 : List UInt8) (n : Int) (n2 : Int) : Bool := isW (Idx01_W s f f2 f3 f4 f5 n n2) ((.exit 0), [], ⟨[], [], []⟩)
noncomputable def Idx01_prop : List PV → Store → Tr (PExit × List PV × Store) | [.sl s .non, .fn 58 [.ref [.int .i64 f, .str f2, .int .i64 f3, .int .i64 f4, .str f5]], .int .i64 n, .int .i64 n2], ⟨[], [], []⟩ => .ite (Idx01_is0 s f f2 f3 f4 f5 n n2) (.ret (.ret, [.int .i64 (Idx01_n_0 s f f2 f3 f4 f5 n n2)], ⟨[], [], []⟩)) (.ite (Idx01_is1 s f f2 f3 f4 f5 n n2) (.ret ((.exit 0), [], ⟨[], [], []⟩)) (.fail)) | _, _ => .fail
theorem Idx01_ok : ∀ vs σ r, (Idx01_prop vs σ).run = some r → Idx01_V vs σ = some r := by
  intro vs σ r h
  unfold Idx01_prop at h
  split at h
  · exact ite_isW h fun h => ite_isW h fun h => by cases h
  · cases h
theorem loop_Idx01 (gl : Nat → Option Obj) : ∀ fr σ e fr' σ', (orc I_Idx01 Idx01_prop fr σ).run = some (e, fr', σ') → LDoes Tryd.prog gl c_Idx01 fr σ e fr' σ' := orc_ok tbT_ok (gok_Idx0 gl ) noMixed (L := LI_Idx01) (loopOk_none (by kernel_rfl)) (by kernel_rfl) Idx01_ok
noncomputable def L_Idx0 : LpsT := fun r fr σ => bif Nat.beq r 2 then orc I_Idx01 Idx01_prop fr σ else .fail
noncomputable def Idx0_Tr (a : List (List PV)) (ka : Int) (nm : List UInt8) (kb : Int) (kc : Int) (kd : List UInt8) : Tr PV := Tr.ite (Idx01_is0 a ka nm kb kc kd (xLen a) 0) (Tr.ret (PV.int .i64 (Idx01_n_0 a ka nm kb kc kd (xLen a) 0))) (Tr.ite (Idx01_is1 a ka nm kb kc kd (xLen a) 0) (Tr.ret (PV.int .i64 (-1))) Tr.fail)
theorem Idx0_T (a : List (List PV)) (ka : Int) (nm : List UInt8) (kb : Int) (kc : Int) (kd : List UInt8) : (tcall tbT G_Idx0 L_Idx0 Tryd.f57 [.sl a .non, .fn 58 [.ref [.int .i64 ka, .str nm, .int .i64 kb, .int .i64 kc, .str kd]]]).flat = Idx0_Tr a ka nm kb kc kd := by kernel_rfl
noncomputable def Idx0_W (a : List (List PV)) (ka : Int) (nm : List UInt8) (kb : Int) (kc : Int) (kd : List UInt8) : Option PV := (Idx0_Tr a ka nm kb kc kd).run
noncomputable def Idx0_n (a : List (List PV)) (ka : Int) (nm : List UInt8) (kb : Int) (kc : Int) (kd : List UInt8) : Int := (gInt (gVal (Idx0_W a ka nm kb kc kd)))
noncomputable def Idx0_is0 (a : List (List PV)) (ka : Int) (nm : List UInt8) (kb : Int) (kc : Int) (kd : List UInt8) : Bool := isW (Idx0_W a ka nm kb kc kd) (.int .i64 (Idx0_n a ka nm kb kc kd))
noncomputable def F_Idx0 : List PV → Tr PV | [.sl a .non, .fn 58 [.ref [.int .i64 ka, .str nm, .int .i64 kb, .int .i64 kc, .str kd]]] => .ite (Idx0_is0 a ka nm kb kc kd) (.ret (.int .i64 (Idx0_n a ka nm kb kc kd))) (.fail) | _ => .fail
theorem sim_Idx0 (gl : Nat → Option Obj) : SimP Tryd.prog gl 57 fun args => (F_Idx0 args).run := by
  refine SimP.of_flat (G := G_Idx0) (L := L_Idx0) tbT_ok (gok_Idx0 gl ) noMixed Tryd.func57 rfl (by rfl) (by kernel_rfl) (loopOk_all (L := lps L_Idx0) [(2, c_Idx01)] (by kernel_rfl) (List.forall_mem_cons.2 ⟨fun fr σ e fr' σ' h => loop_Idx01 gl  fr σ e fr' σ' h, (List.forall_mem_nil _)⟩)) ?_
  intro args x h
  unfold F_Idx0 at h
  split at h
  · exact (congrArg Tr.run (Idx0_T _ _ _ _ _ _)).trans (ite_isW h fun h => by cases h)
  · cases h
noncomputable def G_Find0 : GamT := ofL []
theorem gok_Find0 (gl : Nat → Option Obj) : GamOk Tryd.prog gl (gam G_Find0) := gamOk_nil
noncomputable def c_Find01 : Code := loopC Tryd.f19 2
def I_Find01 : LI := ⟨26, [0, 1, 4, 6], fun e => match e with | .ret => [4, 5] | .exit 0 => [4] | _ => [], true⟩
noncomputable def LI_Find01 : LpsT := fun r fr σ => .fail
noncomputable def Find01_V (vs : List PV) (σ : Store) : Option (PExit × List PV × Store) := lval (lstep tbT G_Find0 LI_Find01 c_Find01 I_Find01) vs σ
noncomputable def Find01_Tr (l : List (List PV)) (name : List UInt8) (i : Int) (n : Int) (n2 : Int) (s : List UInt8) : Tr LR := Tr.ite (iLt i (xLen l)) (Tr.ite (okPos i) (Tr.ite (okGet [PV.str [], PV.int .i64 0, PV.int .i64 0, PV.str []] l (nNat i)) (Tr.ite (sEq (xStr l (nNat i) 0) name) (Tr.ite (okPos i) (Tr.ite (okGet [PV.str [], PV.int .i64 0, PV.int .i64 0, PV.str []] l (nNat i)) (Tr.ret (LR.out .ret [PV.ptr 0 0, PV.bool true] (Store.mk [[PV.int .i64 (xInt l (nNat i) 1), PV.int .i64 (xInt l (nNat i) 2), PV.str (xStr l (nNat i) 3)]] [] [36]))) Tr.fail) Tr.fail) (Tr.ret (LR.next [PV.sl l .non, PV.str name, PV.ptr 0 0, PV.int .i64 (iAdd .i64 i 1)] (Store.mk [[PV.int .i64 n, PV.int .i64 n2, PV.str s]] [] [36])))) Tr.fail) Tr.fail) (Tr.ret (LR.out (.exit 0) [PV.ptr 0 0] (Store.mk [[PV.int .i64 n, PV.int .i64 n2, PV.str s]] [] [36])))
theorem Find01_T (l : List (List PV)) (name : List UInt8) (i : Int) (n : Int) (n2 : Int) (s : List UInt8) : lstep tbT G_Find0 LI_Find01 c_Find01 I_Find01 [.sl l .non, .str name, .ptr 0 0, .int .i64 i] ⟨[[.int .i64 n, .int .i64 n2, .str s]], [], [36]⟩ = Find01_Tr l name i n n2 s := by kernel_rfl
theorem Find01_E (l : List (List PV)) (name : List UInt8) (i : Int) (n : Int) (n2 : Int) (s : List UInt8) : Find01_V [.sl l .non, .str name, .ptr 0 0, .int .i64 i] ⟨[[.int .i64 n, .int .i64 n2, .str s]], [], [36]⟩ = lnext Find01_V (Find01_Tr l name i n n2 s).run := by unfold Find01_V; rw [lval_eq, Find01_T]
noncomputable def Find01_W (l : List (List PV)) (name : List UInt8) (i : Int) (n : Int) (n2 : Int) (s : List UInt8) : Option (PExit × List PV × Store) := Find01_V [.sl l .non, .str name, .ptr 0 0, .int .i64 i] ⟨[[.int .i64 n, .int .i64 n2, .str s]], [], [36]⟩
noncomputable def Find01_b_0 (l : List (List PV)) (name : List UInt8) (i : Int) (n : Int) (n2 : Int) (s : List UInt8) : Bool := (gBool (gOut (Find01_W l name i n n2 s) 1))
noncomputable def Find01_n_0 (l : List (List PV)) (name : List UInt8) (i : Int) (n : Int) (n2 : Int) (s : List UInt8) : Int := (gInt (gAt (gObj (Find01_W l name i n n2 s) 0) 0))
noncomputable def Find01_n2_0 (l : List (List PV)) (name : List UInt8) (i : Int) (n : Int) (n2 : Int) (s : List UInt8) : Int := (gInt (gAt (gObj (Find01_W l name i n n2 s) 0) 1))
noncomputable def Find01_s_0 (l : List (List PV)) (name : List UInt8) (i : Int) (n : Int) (n2 : Int) (s : List UInt8) : List UInt8 := (gStr (gAt (gObj (Find01_W l name i n n2 s) 0) 2))
noncomputable def Find01_is0 (l : List (List PV)) (name : List UInt8) (i : Int) (n : Int) (n2 : Int) (s : List UInt8) : Bool := isW (Find01_W l name i n n2 s) (.ret, [.ptr 0 0, .bool (Find01_b_0 l name i n n2 s)], ⟨[[.int .i64 (Find01_n_0 l name i n n2 s), .int .i64 (Find01_n2_0 l name i n n2 s), .str (Find01_s_0 l name i n n2 s)]], [], [36]⟩)
noncomputable def Find01_n_1 (l : List (List PV)) (name : List UInt8) (i : Int) (n : Int) (n2 : Int) (s : List UInt8) : Int := (gInt (gAt (gObj (Find01_W l name i n n2 s) 0) 0))
noncomputable def Find01_n2_1 (l : List (List PV)) (name : List UInt8) (i : Int) (n : Int) (n2 : Int) (s : List UInt8) : Int := (gInt (gAt (gObj (Find01_W l name i n n2 s) 0) 1))
noncomputable def Find01_s_1 (l : List (List PV)) (name : List UInt8) (i : Int) (n : Int) (n2 : Int) (s : List UInt8) : List UInt8 := (gStr (gAt (gObj (Find01_W l name i n n2 s) 0) 2))
noncomputable def Find01_is1 (l : List (List PV)) (name : List UInt8) (i : Int) (n : Int) (n2 : Int) (s : List UInt8) : Bool := isW (Find01_W l name i n n2 s) ((.exit 0), [.ptr 0 0], ⟨[[.int .i64 (Find01_n_1 l name i n n2 s), .int .i64 (Find01_n2_1 l name i n n2 s), .str (Find01_s_1 l name i n n2 s)]], [], [36]⟩)
noncomputable def Find01_prop : List PV → Store → Tr (PExit × List PV × Store) | [.sl l .non, .str name, .ptr 0 0, .int .i64 i], ⟨[[.int .i64 n, .int .i64 n2, .str s]], [], [36]⟩ => .ite (Find01_is0 l name i n n2 s) (.ret (.ret, [.ptr 0 0, .bool (Find01_b_0 l name i n n2 s)], ⟨[[.int .i64 (Find01_n_0 l name i n n2 s), .int .i64 (Find01_n2_0 l name i n n2 s), .str (Find01_s_0 l name i n n2 s)]], [], [36]⟩)) (.ite (Find01_is1 l name i n n2 s) (.ret ((.exit 0), [.ptr 0 0], ⟨[[.int .i64 (Find01_n_1 l name i n n2 s), .int .i64 (Find01_n2_1 l name i n n2 s), .str (Find01_s_1 l name i n n2 s)]], [], [36]⟩)) (.fail)) | _, _ => .fail
theorem Find01_ok : ∀ vs σ r, (Find01_prop vs σ).run = some r → Find01_V vs σ = some r := by
  intro vs σ r h
  unfold Find01_prop at h
  split at h
  · exact ite_isW h fun h => ite_isW h fun h => by cases h
  · cases h
theorem loop_Find01 (gl : Nat → Option Obj) : ∀ fr σ e fr' σ', (orc I_Find01 Find01_prop fr σ).run = some (e, fr', σ') → LDoes Tryd.prog gl c_Find01 fr σ e fr' σ' := orc_ok tbT_ok (gok_Find0 gl ) noMixed (L := LI_Find01) (loopOk_none (by kernel_rfl)) (by kernel_rfl) Find01_ok
noncomputable def L_Find0 : LpsT := fun r fr σ => bif Nat.beq r 2 then orc I_Find01 Find01_prop fr σ else .fail
noncomputable def Find0_Tr (l : List (List PV)) (name : List UInt8) : Tr PV := Tr.ite (Find01_is0 l name 0 0 0 []) (Tr.ret (PV.tup [PV.agg [PV.int .i64 (Find01_n_0 l name 0 0 0 []), PV.int .i64 (Find01_n2_0 l name 0 0 0 []), PV.str (Find01_s_0 l name 0 0 0 [])], PV.bool (Find01_b_0 l name 0 0 0 [])])) (Tr.ite (Find01_is1 l name 0 0 0 []) (Tr.ret (PV.tup [PV.agg [PV.int .i64 0, PV.int .i64 0, PV.str []], PV.bool false])) Tr.fail)
theorem Find0_T (l : List (List PV)) (name : List UInt8) : (tcall tbT G_Find0 L_Find0 Tryd.f19 [.sl l .non, .str name]).flat = Find0_Tr l name := by kernel_rfl
noncomputable def Find0_W (l : List (List PV)) (name : List UInt8) : Option PV := (Find0_Tr l name).run
noncomputable def Find0_n (l : List (List PV)) (name : List UInt8) : Int := (gInt (gAt (gCs (gAt (gCs (gVal (Find0_W l name))) 0)) 0))
noncomputable def Find0_n2 (l : List (List PV)) (name : List UInt8) : Int := (gInt (gAt (gCs (gAt (gCs (gVal (Find0_W l name))) 0)) 1))
noncomputable def Find0_s (l : List (List PV)) (name : List UInt8) : List UInt8 := (gStr (gAt (gCs (gAt (gCs (gVal (Find0_W l name))) 0)) 2))
noncomputable def Find0_b (l : List (List PV)) (name : List UInt8) : Bool := (gBool (gAt (gCs (gVal (Find0_W l name))) 1))
noncomputable def Find0_is0 (l : List (List PV)) (name : List UInt8) : Bool := isW (Find0_W l name) (.tup [.agg [.int .i64 (Find0_n l name), .int .i64 (Find0_n2 l name), .str (Find0_s l name)], .bool (Find0_b l name)])
noncomputable def F_Find0 : List PV → Tr PV | [.sl l .non, .str name] => .ite (Find0_is0 l name) (.ret (.tup [.agg [.int .i64 (Find0_n l name), .int .i64 (Find0_n2 l name), .str (Find0_s l name)], .bool (Find0_b l name)])) (.fail) | _ => .fail
theorem sim_Find0 (gl : Nat → Option Obj) : SimP Tryd.prog gl 19 fun args => (F_Find0 args).run := by
  refine SimP.of_flat (G := G_Find0) (L := L_Find0) tbT_ok (gok_Find0 gl ) noMixed Tryd.func19 rfl (by rfl) (by kernel_rfl) (loopOk_all (L := lps L_Find0) [(2, c_Find01)] (by kernel_rfl) (List.forall_mem_cons.2 ⟨fun fr σ e fr' σ' h => loop_Find01 gl  fr σ e fr' σ' h, (List.forall_mem_nil _)⟩)) ?_
  intro args x h
  unfold F_Find0 at h
  split at h
  · exact (congrArg Tr.run (Find0_T _ _)).trans (ite_isW h fun h => by cases h)
  · cases h
noncomputable def G_SameB0 : GamT := ofL []
theorem gok_SameB0 (gl : Nat → Option Obj) : GamOk Tryd.prog gl (gam G_SameB0) := gamOk_nil
noncomputable def c_SameB01 : Code := loopC Tryd.f30 4
def I_SameB01 : LI := ⟨26, [0, 1, 5], fun e => match e with | .ret => [4] | .exit 0 => [] | _ => [], true⟩
noncomputable def LI_SameB01 : LpsT := fun r fr σ => .fail
noncomputable def SameB01_V (vs : List PV) (σ : Store) : Option (PExit × List PV × Store) := lval (lstep tbT G_SameB0 LI_SameB01 c_SameB01 I_SameB01) vs σ
noncomputable def SameB01_Tr (a : List (List PV)) (b : List (List PV)) (i : Int) : Tr LR := Tr.ite (iLt i (xLen a)) (Tr.ite (okPos i) (Tr.ite (okGet [PV.str [], PV.int .i64 0, PV.int .i64 0, PV.str []] a (nNat i)) (Tr.ite (okPos i) (Tr.ite (okGet [PV.str [], PV.int .i64 0, PV.int .i64 0, PV.str []] b (nNat i)) (Tr.ite (bNot (bAnd (sEq (xStr a (nNat i) 0) (xStr b (nNat i) 0)) (bAnd (bAnd (iEq (xInt a (nNat i) 1) (xInt b (nNat i) 1)) (bAnd (iEq (xInt a (nNat i) 2) (xInt b (nNat i) 2)) (bAnd (sEq (xStr a (nNat i) 3) (xStr b (nNat i) 3)) true))) true))) (Tr.ret (LR.out .ret [PV.bool false] (Store.mk [] [] []))) (Tr.ret (LR.next [PV.sl a .non, PV.sl b .non, PV.int .i64 (iAdd .i64 i 1)] (Store.mk [] [] [])))) Tr.fail) Tr.fail) Tr.fail) Tr.fail) (Tr.ret (LR.out (.exit 0) [] (Store.mk [] [] [])))
theorem SameB01_T (a : List (List PV)) (b : List (List PV)) (i : Int) : lstep tbT G_SameB0 LI_SameB01 c_SameB01 I_SameB01 [.sl a .non, .sl b .non, .int .i64 i] ⟨[], [], []⟩ = SameB01_Tr a b i := by kernel_rfl
theorem SameB01_E (a : List (List PV)) (b : List (List PV)) (i : Int) : SameB01_V [.sl a .non, .sl b .non, .int .i64 i] ⟨[], [], []⟩ = lnext SameB01_V (SameB01_Tr a b i).run := by unfold SameB01_V; rw [lval_eq, SameB01_T]
noncomputable def SameB01_W (a : List (List PV)) (b : List (List PV)) (i : Int) : Option (PExit × List PV × Store) := SameB01_V [.sl a .non, .sl b .non, .int .i64 i] ⟨[], [], []⟩
noncomputable def SameB01_b_0 (a : List (List PV)) (b : List (List PV)) (i : Int) : Bool := (gBool (gOut (SameB01_W a b i) 0))
noncomputable def SameB01_is0 (a : List (List PV)) (b : List (List PV)) (i : Int) : Bool := isW (SameB01_W a b i) (.ret, [.bool (SameB01_b_0 a b i)], ⟨[], [], []⟩)
noncomputable def SameB01_is1 (a : List (List PV)) (b : List (List PV)) (i : Int) : Bool := isW (SameB01_W a b i) ((.exit 0), [], ⟨[], [], []⟩)
noncomputable def SameB01_prop : List PV → Store → Tr (PExit × List PV × Store) | [.sl a .non, .sl b .non, .int .i64 i], ⟨[], [], []⟩ => .ite (SameB01_is0 a b i) (.ret (.ret, [.bool (SameB01_b_0 a b i)], ⟨[], [], []⟩)) (.ite (SameB01_is1 a b i) (.ret ((.exit 0), [], ⟨[], [], []⟩)) (.fail)) | _, _ => .fail
theorem SameB01_ok : ∀ vs σ r, (SameB01_prop vs σ).run = some r → SameB01_V vs σ = some r := by
  intro vs σ r h
  unfold SameB01_prop at h
  split at h
  · exact ite_isW h fun h => ite_isW h fun h => by cases h
  · cases h
theorem loop_SameB01 (gl : Nat → Option Obj) : ∀ fr σ e fr' σ', (orc I_SameB01 SameB01_prop fr σ).run = some (e, fr', σ') → LDoes Tryd.prog gl c_SameB01 fr σ e fr' σ' := orc_ok tbT_ok (gok_SameB0 gl ) noMixed (L := LI_SameB01) (loopOk_none (by kernel_rfl)) (by kernel_rfl) SameB01_ok
noncomputable def L_SameB0 : LpsT := fun r fr σ => bif Nat.beq r 4 then orc I_SameB01 SameB01_prop fr σ else .fail
noncomputable def SameB0_Tr (a : List (List PV)) (b : List (List PV)) : Tr PV := Tr.ite (iNe (xLen a) (xLen b)) (Tr.ret (PV.bool false)) (Tr.ite (SameB01_is0 a b 0) (Tr.ret (PV.bool (SameB01_b_0 a b 0))) (Tr.ite (SameB01_is1 a b 0) (Tr.ret (PV.bool true)) Tr.fail))
theorem SameB0_T (a : List (List PV)) (b : List (List PV)) : (tcall tbT G_SameB0 L_SameB0 Tryd.f30 [.sl a .non, .sl b .non]).flat = SameB0_Tr a b := by kernel_rfl
noncomputable def SameB0_W (a : List (List PV)) (b : List (List PV)) : Option PV := (SameB0_Tr a b).run
noncomputable def SameB0_b (a : List (List PV)) (b : List (List PV)) : Bool := (gBool (gVal (SameB0_W a b)))
noncomputable def SameB0_is0 (a : List (List PV)) (b : List (List PV)) : Bool := isW (SameB0_W a b) (.bool (SameB0_b a b))
noncomputable def F_SameB0 : List PV → Tr PV | [.sl a .non, .sl b .non] => .ite (SameB0_is0 a b) (.ret (.bool (SameB0_b a b))) (.fail) | _ => .fail
theorem sim_SameB0 (gl : Nat → Option Obj) : SimP Tryd.prog gl 30 fun args => (F_SameB0 args).run := by
  refine SimP.of_flat (G := G_SameB0) (L := L_SameB0) tbT_ok (gok_SameB0 gl ) noMixed Tryd.func30 rfl (by rfl) (by kernel_rfl) (loopOk_all (L := lps L_SameB0) [(4, c_SameB01)] (by kernel_rfl) (List.forall_mem_cons.2 ⟨fun fr σ e fr' σ' h => loop_SameB01 gl  fr σ e fr' σ' h, (List.forall_mem_nil _)⟩)) ?_
  intro args x h
  unfold F_SameB0 at h
  split at h
  · exact (congrArg Tr.run (SameB0_T _ _)).trans (ite_isW h fun h => by cases h)
  · cases h
end Go.Pv

/- Total orders told by a number, and rows in their order. No program in sight. -/
set_option linter.unusedSimpArgs false
set_option linter.unusedVariables false
namespace Go.Pv
/-- A comparison that is a total order in which nothing but the same is alike. -/
structure Tot {α : Type} (f : α → α → Int) : Prop where
  val : ∀ a b, f a b = -1 ∨ f a b = 0 ∨ f a b = 1
  zero : ∀ a b, f a b = 0 ↔ a = b
  swap : ∀ a b, f a b = -f b a
  trans : ∀ a b c, f a b < 0 → f b c < 0 → f a c < 0
namespace Tot
variable {α : Type} {f : α → α → Int} (h : Tot f)
include h
theorem self (a : α) : f a a = 0 := (h.zero a a).2 rfl
theorem le_trans {a b c : α} (h1 : f a b ≤ 0) (h2 : f b c ≤ 0) : f a c ≤ 0 := by
  by_cases e1 : f a b = 0
  · rw [(h.zero a b).1 e1]; exact h2
  by_cases e2 : f b c = 0
  · rw [← (h.zero b c).1 e2]; exact h1
  have := h.trans a b c (by omega) (by omega)
  omega
theorem lt_le_trans {a b c : α} (h1 : f a b < 0) (h2 : f b c ≤ 0) : f a c < 0 := by
  by_cases e2 : f b c = 0
  · rw [← (h.zero b c).1 e2]; exact h1
  exact h.trans a b c h1 (by omega)
theorem le_lt_trans {a b c : α} (h1 : f a b ≤ 0) (h2 : f b c < 0) : f a c < 0 := by
  by_cases e1 : f a b = 0
  · rw [(h.zero a b).1 e1]; exact h2
  exact h.trans a b c (by omega) h2
end Tot

/-- Rows in order: the first that differs; else the shorter one ahead. -/
def lex {α : Type} (f : α → α → Int) : List α → List α → Int
  | [], [] => 0
  | [], _ :: _ => -1
  | _ :: _, [] => 1
  | a :: l, b :: m => if f a b = 0 then lex f l m else f a b
theorem lex_tot {α : Type} {f : α → α → Int} (h : Tot f) : Tot (lex f) where
  val := by
    intro a
    induction a with
    | nil => intro b; cases b <;> simp [lex]
    | cons x a ih =>
      intro b
      cases b with
      | nil => simp [lex]
      | cons y b =>
        simp only [lex]
        split
        · exact ih b
        · exact h.val x y
  zero := by
    intro a
    induction a with
    | nil => intro b; cases b <;> simp [lex]
    | cons x a ih =>
      intro b
      cases b with
      | nil => simp [lex]
      | cons y b =>
        simp only [lex, List.cons.injEq]
        split
        · rename_i e
          rw [ih b, h.zero] at *
          simp [e]
        · rename_i e
          rw [h.zero] at e
          constructor
          · intro hh; exact absurd ((h.zero x y).1 hh) e
          · rintro ⟨rfl, _⟩; exact absurd rfl e
  swap := by
    intro a
    induction a with
    | nil => intro b; cases b <;> simp [lex]
    | cons x a ih =>
      intro b
      cases b with
      | nil => simp [lex]
      | cons y b =>
        simp only [lex]
        have := h.swap x y
        by_cases e : f x y = 0
        · have e' : f y x = 0 := by omega
          rw [if_pos e, if_pos e']
          exact ih b
        · have e' : ¬ f y x = 0 := by omega
          rw [if_neg e, if_neg e']
          exact this
  trans := by
    intro a
    induction a with
    | nil =>
      intro b c h1 h2
      cases c with
      | nil => cases b <;> simp [lex] at h1 h2
      | cons z c => simp [lex]
    | cons x a ih =>
      intro b c h1 h2
      cases b with
      | nil => simp [lex] at h1
      | cons y b =>
        cases c with
        | nil => simp [lex] at h2
        | cons z c =>
          simp only [lex] at h1 h2 ⊢
          by_cases e1 : f x y = 0
          · rw [if_pos e1] at h1
            have := (h.zero x y).1 e1
            subst this
            by_cases e2 : f x z = 0
            · rw [if_pos e2] at h2 ⊢
              exact ih b c h1 h2
            · rw [if_neg e2] at h2 ⊢
              exact h2
          · rw [if_neg e1] at h1
            by_cases e2 : f y z = 0
            · have := (h.zero y z).1 e2
              subst this
              rw [if_neg e1]
              exact h1
            · rw [if_neg e2] at h2
              have := h.trans x y z h1 h2
              rw [if_neg (by omega)]
              exact this
theorem lex_pre {α : Type} {f : α → α → Int} (h : Tot f) (a b : List α) : lex f a (a ++ b) ≤ 0 := by
  induction a with
  | nil => cases b <;> simp [lex]
  | cons x a ih =>
    simp only [List.cons_append, lex]
    rw [if_pos (h.self x)]
    exact ih
end Go.Pv

set_option maxHeartbeats 4000000
set_option maxRecDepth 200000
set_option linter.unusedSimpArgs false
set_option linter.unusedVariables false
namespace Go.Pv
open Go Go.Proofs
@[simp] theorem isW_someF {α : Type} (a r : α) : isW (some a) r = false ↔ ¬ a = r := by simp [isW]
/-- A loop over a row that is left at the first element at which f answers. -/
def scan {α ρ : Type} (f : Nat → α → Option ρ) : Nat → List α → Option ρ
  | _, [] => none
  | i, a :: l => match f i a with
    | some r => some r
    | none => scan f (i + 1) l
theorem loop_scan {α ρ γ : Type} {l : List α} {V : Nat → γ} (f : Nat → α → Option ρ) (out : ρ → γ) (fin : γ)
    (hstep : ∀ i (hi : i < l.length), V i = match f i l[i] with | some r => out r | none => V (i + 1)) (hend : V l.length = fin) : V 0 = match scan f 0 l with | some r => out r | none => fin := by
  have key : ∀ k i, i + k = l.length → V i = match scan f i (l.drop i) with | some r => out r | none => fin := by
    intro k
    induction k with
    | zero =>
      intro i hi
      have : i = l.length := by omega
      subst this
      rw [List.drop_eq_nil_of_le (Nat.le_refl _)]
      exact hend
    | succ k ih =>
      intro i hi
      have hlt : i < l.length := by omega
      rw [List.drop_eq_getElem_cons hlt, hstep i hlt]
      simp only [scan]
      cases f i l[i] with
      | some r => rfl
      | none => exact ih (i + 1) (by omega)
  simpa using key l.length 0 (by omega)
theorem scan_all {α ρ : Type} (p : α → Bool) (r : ρ) : ∀ (l : List α) (i : Nat), scan (fun _ a => if p a = true then none else some r) i l = if l.all p = true then none else some r
  | [], i => rfl
  | a :: l, i => by
    by_cases h : p a = true
    · have := scan_all p r l (i + 1)
      simp [scan, h] at this ⊢
      exact this
    · simp [scan, h]
/-! ### tuples: order -/
def cmpVl (a b : Vl) : Int := compareV a.1 a.2.1 a.2.2 b.1 b.2.1 b.2.2
def cmpRl (a b : Vl) : Int := compareR a.1 a.2.1 a.2.2 b.1 b.2.1 b.2.2
def dif (f : Vl → Vl → Int) : List Vl → List Vl → Option Int
  | v :: a, u :: b => if f v u = 0 then dif f a b else some (f v u)
  | _ :: _, [] => some 1
  | [], _ => none
def cmpT (f : Vl → Vl → Int) (a b : List Vl) : Int := match dif f a b with
  | some c => c
  | none => if a.length < b.length then -1 else 0
def cmpTV (a b : List (List PV)) : Int := cmpT cmpVl (unR cV a) (unR cV b)
def cmpTR (a b : List (List PV)) : Int := cmpT cmpRl (unR cV a) (unR cV b)
theorem cmpRl_eq : cmpRl = cmpVl := by
  funext a b
  exact compareR_is _ _ _ _ _ _
def isVl (v : Vl) : Bool := isV v.1 v.2.1 v.2.2
theorem checkV_isV (k n : Int) (s : List UInt8) : (checkV k n s = 0) ↔ isV k n s = true := by
  unfold checkV isV
  by_cases h1 : k = 1 ∧ s = []
  · simp [h1]
  · by_cases h2 : k = 2 ∧ n = 0 ∧ s.length ≤ 256
    · simp [h2]
    · rw [if_neg h1, if_neg h2]
      simp only [decide_eq_true_eq]
      constructor
      · intro h; omega
      · intro h; exact absurd h (by rintro (h | h); exact h1 h; exact h2 h)
def chkT (a : List (List PV)) : Int := if (unR cV a).length ≤ 8 ∧ (unR cV a).all isVl = true then 0 else 20
def typd : List Vl → List Int → Bool
  | v :: a, t :: b => if isVl v = true ∧ typeV v.1 v.2.1 v.2.2 = t then typd a b else false
  | _, _ => true
def typT (a b : List (List PV)) : Bool := decide ((unR cV a).length = (unR cI b).length) && typd (unR cV a) (unR cI b)
def cutT (a : List (List PV)) : List (List PV) := rOf cV ((unR cV a).take 20)
def zeroVl : Vl := (0, 0, [])
def isTmV (a : Int) (b : List UInt8) (k n : Int) (s : List UInt8) : Bool :=
  if a = 2 then decide (b = []) && isV k n s else if a = 1 then decide (1 ≤ b.length) && decide (b.length ≤ 64) && decide (k = 0 ∧ n = 0 ∧ s = []) else if a = 3 then decide (b = []) && decide (k = 0 ∧ n = 0 ∧ s = []) else false
def isTm (x : Tm) : Bool := isTmV x.1 x.2.1 x.2.2.1 x.2.2.2.1 x.2.2.2.2
def chkP (a : List (List PV)) : Int := if (unR cM a).length ≤ 8 ∧ (unR cM a).all isTm = true then 0 else 22
def idxA : List Bd → List UInt8 → Int → Int
  | [], _, _ => -1
  | b :: l, nm, i => if b.1 = nm then i else idxA l nm (i + 1)
def idxV (a : List (List PV)) (nm : List UInt8) : Int := idxA (unR cB a) nm 0
def findB : List Bd → List UInt8 → Option Vl
  | [], _ => none
  | b :: l, nm => if b.1 = nm then some b.2 else findB l nm
def fdO (a : List (List PV)) (nm : List UInt8) : Bool := (findB (unR cB a) nm).isSome
def fdK (a : List (List PV)) (nm : List UInt8) : Int := ((findB (unR cB a) nm).getD zeroVl).1
def fdN (a : List (List PV)) (nm : List UInt8) : Int := ((findB (unR cB a) nm).getD zeroVl).2.1
def fdS (a : List (List PV)) (nm : List UInt8) : List UInt8 := ((findB (unR cB a) nm).getD zeroVl).2.2
def eqRB (a b : List (List PV)) : Bool := decide (unR cB a = unR cB b)
theorem idxA_rng : ∀ (l : List Bd) (nm : List UInt8) (i : Int), 0 ≤ i → idxA l nm i = -1 ∨ (i ≤ idxA l nm i ∧ idxA l nm i < i + l.length)
  | [], nm, i, h => .inl rfl
  | b :: l, nm, i, h => by
    unfold idxA
    split
    · right; simp only [List.length_cons]; omega
    · rcases idxA_rng l nm (i + 1) (by omega) with h1 | h1
      · exact .inl h1
      · right; simp only [List.length_cons]; omega
theorem cmpT_cons (f : Vl → Vl → Int) (v u : Vl) (a b : List Vl) : cmpT f (v :: a) (u :: b) = if f v u = 0 then cmpT f a b else f v u := by
  simp only [cmpT, dif]
  by_cases h : f v u = 0
  · simp only [if_pos h]
    cases dif f a b <;> simp
  · simp only [if_neg h]
theorem CmpF_loop (a b : List Vl) (ha : a.length ≤ 9223372036854775807) : ∀ (k i : Nat), i + k = a.length → i ≤ b.length → CmpF01_V [.sl (rOf cV a) .non, .sl (rOf cV b) .non, .fn 56 [], .sl (rOf cV a) .non, .int .i64 (a.length : Nat), .int .i64 (i : Nat)] ⟨[], [], []⟩ =
    match dif cmpVl (a.drop i) (b.drop i) with | some c => some (.ret, [.int .i64 c], ⟨[], [], []⟩) | none => some (.exit 0, [.sl (rOf cV a) .non, .sl (rOf cV b) .non], ⟨[], [], []⟩)
  | 0, i, hi, hb => by
    have hn : ¬ (i : Int) < a.length := by omega
    rw [show a.drop i = [] from List.drop_eq_nil_of_le (by omega), CmpF01_E]
    cases b.drop i <;> simp [CmpF01_Tr, hn, dif]
  | k + 1, i, hi, hb => by
    have h1 : i < a.length := by omega
    have w := inc_i64 (i := i) (by omega)
    rw [List.drop_eq_getElem_cons h1, CmpF01_E]
    by_cases h2 : i < b.length
    · have hb2 : ¬ (b.length : Int) ≤ i := by omega
      rw [List.drop_eq_getElem_cons h2]
      simp only [dif]
      by_cases hc : cmpVl a[i] b[i] = 0
      · rw [if_pos hc, ← CmpF_loop a b ha k (i + 1) (by omega) (by omega)]
        have hc' : compareV a[i].1 a[i].2.1 a[i].2.2 b[i].1 b[i].2.1 b[i].2.2 = 0 := hc
        simp [CmpF01_Tr, h1, h2, hb2, w, hc']
      · rw [if_neg hc]
        have hc' : ¬ compareV a[i].1 a[i].2.1 a[i].2.2 b[i].1 b[i].2.1 b[i].2.2 = 0 := hc
        simp [CmpF01_Tr, h1, h2, hb2, hc', cmpVl]
    · have hb2 : (b.length : Int) ≤ i := by omega
      rw [show b.drop i = [] from List.drop_eq_nil_of_le (by omega)]
      simp [CmpF01_Tr, h1, hb2, dif]
theorem CmpF_law (a b : List Vl) (ha : a.length ≤ 9223372036854775807) : CmpF0_W (rOf cV a) (rOf cV b) = some (.int .i64 (cmpT cmpVl a b)) := by
  have h := CmpF_loop a b ha a.length 0 (by omega) (by omega)
  simp only [List.drop_zero] at h
  unfold CmpF0_W CmpF0_Tr cmpT
  cases hd : dif cmpVl a b with
  | some c => rw [hd] at h; simp at h; simp [CmpF01_is0, CmpF01_is1, CmpF01_n_0, CmpF01_s1_1, CmpF01_s2_1, CmpF01_W, h]
  | none =>
    rw [hd] at h
    simp at h
    by_cases hl : (a.length : Int) < b.length
    · have hl' : a.length < b.length := by omega
      simp [CmpF01_is0, CmpF01_is1, CmpF01_n_0, CmpF01_s1_1, CmpF01_s2_1, CmpF01_W, h, hl']
    · have hl' : ¬ a.length < b.length := by omega
      simp [CmpF01_is0, CmpF01_is1, CmpF01_n_0, CmpF01_s1_1, CmpF01_s2_1, CmpF01_W, h, hl']
def F_CmpF : List PV → Tr PV
  | [.sl a .non, .sl b .non, .fn 56 []] => Tr.chk (okR cV a) (Tr.chk (okR cV b) (.ret (.int .i64 (cmpTV a b))))
  | _ => .fail
theorem sim_CmpF (gl : Nat → Option Obj) : SimP Tryd.prog gl 55 fun args => (F_CmpF args).run := by
  refine SimP.given (sim_CmpF0 gl) ?_
  intro args x hg h
  unfold F_CmpF at h
  split at h
  · rename_i a b
    obtain ⟨h0, q0⟩ := Tr.chk_some h
    obtain ⟨h1, q1⟩ := Tr.chk_some q0
    have q := q1
    obtain ⟨a, rfl⟩ := okR_eq _ h0
    obtain ⟨b, rfl⟩ := okR_eq _ h1
    have hl := rel_sl hg 0 rfl
    simp only [rOf_len] at hl
    unfold maxLen at hl
    have hw := CmpF_law a b (by omega)
    cases q
    simp [F_CmpF0, CmpF0_is0, CmpF0_n, hw, cmpTV]
  · cases h
def difR (f : Vl → Vl → Int) : List Vl → List Vl → Option Int
  | v :: a, u :: b => if f v u = 0 then difR f a b else some (f v u)
  | _, _ => none
def cmpTr (f : Vl → Vl → Int) (a b : List Vl) : Int := match difR f a b with
  | some c => c
  | none => if a.length < b.length then -1 else if b.length < a.length then 1 else 0
theorem cmpTr_eq (f : Vl → Vl → Int) : ∀ (a b : List Vl), cmpTr f a b = cmpT f a b
  | [], [] => rfl
  | [], _ :: _ => by simp [cmpTr, cmpT, difR, dif]
  | _ :: _, [] => by simp [cmpTr, cmpT, difR, dif]
  | v :: a, u :: b => by
    have ih := cmpTr_eq f a b
    simp only [cmpTr, cmpT, difR, dif] at ih ⊢
    by_cases h : f v u = 0
    · simp only [if_pos h, List.length_cons]
      simpa using ih
    · simp only [if_neg h]
theorem CmpR_loop (a b : List Vl) (ha : a.length ≤ 9223372036854775807) : ∀ (k i : Nat), i + k = a.length → CmpR01_V [.sl (rOf cV a) .non, .sl (rOf cV b) .non, .int .i64 (i : Nat)] ⟨[], [], []⟩ =
    match difR cmpRl (a.drop i) (b.drop i) with | some c => some (.ret, [.int .i64 c], ⟨[], [], []⟩) | none => some (.exit 0, [.sl (rOf cV a) .non, .sl (rOf cV b) .non], ⟨[], [], []⟩)
  | 0, i, hi => by
    have hn : ¬ (i : Int) < a.length := by omega
    rw [show a.drop i = [] from List.drop_eq_nil_of_le (by omega), CmpR01_E]
    cases b.drop i <;> simp [CmpR01_Tr, hn, difR]
  | k + 1, i, hi => by
    have h1 : i < a.length := by omega
    have w := inc_i64 (i := i) (by omega)
    rw [List.drop_eq_getElem_cons h1, CmpR01_E]
    by_cases h2 : i < b.length
    · rw [List.drop_eq_getElem_cons h2]
      simp only [difR]
      by_cases hc : cmpRl a[i] b[i] = 0
      · rw [if_pos hc, ← CmpR_loop a b ha k (i + 1) (by omega)]
        have hc' : compareR a[i].1 a[i].2.1 a[i].2.2 b[i].1 b[i].2.1 b[i].2.2 = 0 := hc
        simp [CmpR01_Tr, h1, h2, w, hc']
      · rw [if_neg hc]
        have hc' : ¬ compareR a[i].1 a[i].2.1 a[i].2.2 b[i].1 b[i].2.1 b[i].2.2 = 0 := hc
        simp [CmpR01_Tr, h1, h2, hc', cmpRl]
    · have hb2 : ¬ (i : Int) < b.length := by omega
      rw [show b.drop i = [] from List.drop_eq_nil_of_le (by omega)]
      simp [CmpR01_Tr, h1, hb2, difR]
theorem CmpR_law (a b : List Vl) (ha : a.length ≤ 9223372036854775807) : CmpR0_W (rOf cV a) (rOf cV b) = some (.int .i64 (cmpT cmpRl a b)) := by
  have h := CmpR_loop a b ha a.length 0 (by omega)
  simp only [List.drop_zero] at h
  unfold CmpR0_W CmpR0_Tr
  rw [← cmpTr_eq]
  unfold cmpTr
  cases hd : difR cmpRl a b with
  | some c => rw [hd] at h; simp at h; simp [CmpR01_is0, CmpR01_is1, CmpR01_n_0, CmpR01_a_1, CmpR01_b_1, CmpR01_W, h]
  | none =>
    rw [hd] at h
    simp at h
    by_cases hl : a.length < b.length
    · simp [CmpR01_is0, CmpR01_is1, CmpR01_n_0, CmpR01_a_1, CmpR01_b_1, CmpR01_W, h, hl]
    · by_cases hl' : b.length < a.length <;> simp [CmpR01_is0, CmpR01_is1, CmpR01_n_0, CmpR01_a_1, CmpR01_b_1, CmpR01_W, h, hl, hl']
def F_CmpR : List PV → Tr PV
  | [.sl a .non, .sl b .non] => Tr.chk (okR cV a) (Tr.chk (okR cV b) (.ret (.int .i64 (cmpTR a b))))
  | _ => .fail
theorem sim_CmpR (gl : Nat → Option Obj) : SimP Tryd.prog gl 39 fun args => (F_CmpR args).run := by
  refine SimP.given (sim_CmpR0 gl) ?_
  intro args x hg h
  unfold F_CmpR at h
  split at h
  · rename_i a b
    obtain ⟨h0, q0⟩ := Tr.chk_some h
    obtain ⟨h1, q1⟩ := Tr.chk_some q0
    have q := q1
    obtain ⟨a, rfl⟩ := okR_eq _ h0
    obtain ⟨b, rfl⟩ := okR_eq _ h1
    have hl := rel_sl hg 0 rfl
    simp only [rOf_len] at hl
    unfold maxLen at hl
    have hw := CmpR_law a b (by omega)
    cases q
    simp [F_CmpR0, CmpR0_is0, CmpR0_n, hw, cmpTR]
  · cases h
theorem TCheck_loop (t : List Vl) (ht : t.length ≤ 9223372036854775807) : TCheck01_V [.sl (rOf cV t) .non, .int .i64 (t.length : Nat), .int .i64 0] ⟨[], [], []⟩ = if t.all isVl = true then some (.exit 0, [], ⟨[], [], []⟩) else some (.ret, [.int .i64 20], ⟨[], [], []⟩) := by
  have h := loop_scan (l := t) (V := fun i => TCheck01_V [.sl (rOf cV t) .non, .int .i64 (t.length : Nat), .int .i64 (i : Nat)] ⟨[], [], []⟩) (fun _ v => if isVl v = true then none else some ()) (fun _ => some (.ret, [.int .i64 20], ⟨[], [], []⟩)) (some (.exit 0, [], ⟨[], [], []⟩)) ?_ ?_
  · rw [scan_all] at h
    refine h.trans ?_
    by_cases ha : t.all isVl = true
    · rw [if_pos ha, if_pos ha]
    · rw [if_neg ha, if_neg ha]
  · intro i hi
    have w := inc_i64 (i := i) (by omega)
    have hc := checkV_isV t[i].1 t[i].2.1 t[i].2.2
    show TCheck01_V _ _ = _
    rw [TCheck01_E]
    by_cases hv : isVl t[i] = true
    · have hv' : isV t[i].1 t[i].2.1 t[i].2.2 = true := hv
      have hc' := hc.2 hv
      simp [TCheck01_Tr, hi, w, hv, hv', hc']
    · have hv' : isV t[i].1 t[i].2.1 t[i].2.2 = false := by simpa [isVl] using hv
      have hc' : ¬ checkV t[i].1 t[i].2.1 t[i].2.2 = 0 := fun h => hv (hc.1 h)
      simp [TCheck01_Tr, hi, w, hv, hv', hc']
  · show TCheck01_V _ _ = _
    rw [TCheck01_E]
    simp [TCheck01_Tr]
theorem TCheck_law (t : List Vl) (ht : t.length ≤ 9223372036854775807) : TCheck0_W (rOf cV t) = some (.int .i64 (chkT (rOf cV t))) := by
  have h := TCheck_loop t ht
  have hc : chkT (rOf cV t) = if t.length ≤ 8 ∧ t.all isVl = true then 0 else 20 := by simp only [chkT, unR_of]
  unfold TCheck0_W TCheck0_Tr
  rw [hc]
  by_cases h8 : t.length ≤ 8
  · have h8' : ¬ (8 : Int) < t.length := by omega
    cases ha : t.all isVl <;> (rw [ha] at h; simp at h; simp [TCheck01_is0, TCheck01_is1, TCheck01_n_0, TCheck01_W, h, h8, h8'])
  · have h8' : (8 : Int) < t.length := by omega
    simp [h8, h8']
def F_TCheck : List PV → Tr PV
  | [.sl t .non] => Tr.chk (okR cV t) (.ret (.int .i64 (chkT t)))
  | _ => .fail
theorem sim_TCheck (gl : Nat → Option Obj) : SimP Tryd.prog gl 36 fun args => (F_TCheck args).run := by
  refine SimP.given (sim_TCheck0 gl) ?_
  intro args x hg h
  unfold F_TCheck at h
  split at h
  · rename_i t
    obtain ⟨h0, q0⟩ := Tr.chk_some h
    have q := q0
    obtain ⟨t, rfl⟩ := okR_eq _ h0
    have hl := rel_sl hg 0 rfl
    simp only [rOf_len] at hl
    unfold maxLen at hl
    have hw := TCheck_law t (by omega)
    cases q
    simp [F_TCheck0, TCheck0_is0, TCheck0_n, hw]
  · cases h
theorem RCheck_loop (t : List Vl) (ht : t.length ≤ 9223372036854775807) : RCheck01_V [.sl (rOf cV t) .non, .int .i64 0] ⟨[], [], []⟩ = if t.all isVl = true then some (.exit 0, [], ⟨[], [], []⟩) else some (.ret, [.int .i64 20], ⟨[], [], []⟩) := by
  have h := loop_scan (l := t) (V := fun i => RCheck01_V [.sl (rOf cV t) .non, .int .i64 (i : Nat)] ⟨[], [], []⟩) (fun _ v => if isVl v = true then none else some ()) (fun _ => some (.ret, [.int .i64 20], ⟨[], [], []⟩)) (some (.exit 0, [], ⟨[], [], []⟩)) ?_ ?_
  · rw [scan_all] at h
    refine h.trans ?_
    by_cases ha : t.all isVl = true
    · rw [if_pos ha, if_pos ha]
    · rw [if_neg ha, if_neg ha]
  · intro i hi
    have w := inc_i64 (i := i) (by omega)
    have hc := checkV_isV t[i].1 t[i].2.1 t[i].2.2
    show RCheck01_V _ _ = _
    rw [RCheck01_E]
    by_cases hv : isVl t[i] = true
    · have hv' : isV t[i].1 t[i].2.1 t[i].2.2 = true := hv
      have hc' := hc.2 hv
      simp [RCheck01_Tr, hi, w, hv, hv', hc']
    · have hv' : isV t[i].1 t[i].2.1 t[i].2.2 = false := by simpa [isVl] using hv
      have hc' : ¬ checkV t[i].1 t[i].2.1 t[i].2.2 = 0 := fun h => hv (hc.1 h)
      simp [RCheck01_Tr, hi, w, hv, hv', hc']
  · show RCheck01_V _ _ = _
    rw [RCheck01_E]
    simp [RCheck01_Tr]
theorem RCheck_law (t : List Vl) (ht : t.length ≤ 9223372036854775807) : RCheck0_W (rOf cV t) = some (.int .i64 (chkT (rOf cV t))) := by
  have h := RCheck_loop t ht
  have hc : chkT (rOf cV t) = if t.length ≤ 8 ∧ t.all isVl = true then 0 else 20 := by simp only [chkT, unR_of]
  unfold RCheck0_W RCheck0_Tr
  rw [hc]
  by_cases h8 : t.length ≤ 8
  · have h8' : ¬ (8 : Int) < t.length := by omega
    cases ha : t.all isVl <;> (rw [ha] at h; simp at h; simp [RCheck01_is0, RCheck01_is1, RCheck01_n_0, RCheck01_W, h, h8, h8'])
  · have h8' : (8 : Int) < t.length := by omega
    simp [h8, h8']
def F_RCheck : List PV → Tr PV
  | [.sl t .non] => Tr.chk (okR cV t) (.ret (.int .i64 (chkT t)))
  | _ => .fail
theorem sim_RCheck (gl : Nat → Option Obj) : SimP Tryd.prog gl 20 fun args => (F_RCheck args).run := by
  refine SimP.given (sim_RCheck0 gl) ?_
  intro args x hg h
  unfold F_RCheck at h
  split at h
  · rename_i t
    obtain ⟨h0, q0⟩ := Tr.chk_some h
    have q := q0
    obtain ⟨t, rfl⟩ := okR_eq _ h0
    have hl := rel_sl hg 0 rfl
    simp only [rOf_len] at hl
    unfold maxLen at hl
    have hw := RCheck_law t (by omega)
    cases q
    simp [F_RCheck0, RCheck0_is0, RCheck0_n, hw]
  · cases h
theorem typd_cons (v : Vl) (a : List Vl) (t : Int) (b : List Int) : typd (v :: a) (t :: b) = (decide (isVl v = true ∧ typeV v.1 v.2.1 v.2.2 = t) && typd a b) := by
  simp only [typd]
  by_cases h : isVl v = true ∧ typeV v.1 v.2.1 v.2.2 = t <;> simp [h]
theorem TTyped_loop (t : List Vl) (ts : List Int) (ht : t.length ≤ 9223372036854775807) (hl : t.length = ts.length) : ∀ (k i : Nat), i + k = t.length → TTyped01_V [.sl (rOf cI ts) .non, .sl (rOf cV t) .non, .int .i64 (t.length : Nat), .int .i64 (i : Nat)] ⟨[], [], []⟩ = if typd (t.drop i) (ts.drop i) = true then some (.exit 0, [], ⟨[], [], []⟩) else some (.ret, [.bool false], ⟨[], [], []⟩)
  | 0, i, hi => by
    have hn : ¬ (i : Int) < t.length := by omega
    rw [show t.drop i = [] from List.drop_eq_nil_of_le (by omega), TTyped01_E]
    simp [TTyped01_Tr, hn, typd]
  | k + 1, i, hi => by
    have h1 : i < t.length := by omega
    have h2 : i < ts.length := by omega
    have w := inc_i64 (i := i) (by omega)
    have hc := checkV_isV t[i].1 t[i].2.1 t[i].2.2
    have ih := TTyped_loop t ts ht hl k (i + 1) (by omega)
    rw [List.drop_eq_getElem_cons h1, List.drop_eq_getElem_cons h2, TTyped01_E]
    rw [typd_cons]
    by_cases hv : isVl t[i] = true
    · have hc' := hc.2 hv
      by_cases hty : typeV t[i].1 t[i].2.1 t[i].2.2 = ts[i]
      · simp only [hv, hty, and_self, decide_true, Bool.true_and]
        rw [← ih]
        simp [TTyped01_Tr, h1, h2, w, hc', hty]
      · simp [TTyped01_Tr, h1, h2, w, hc', hty]
    · have hc' : ¬ checkV t[i].1 t[i].2.1 t[i].2.2 = 0 := fun h => hv (hc.1 h)
      simp [TTyped01_Tr, h1, h2, w, hc', hv]
theorem TTyped_law (t : List Vl) (ts : List Int) (ht : t.length ≤ 9223372036854775807) : TTyped0_W (rOf cV t) (rOf cI ts) = some (.bool (typT (rOf cV t) (rOf cI ts))) := by
  have hc : typT (rOf cV t) (rOf cI ts) = (decide (t.length = ts.length) && typd t ts) := by simp only [typT, unR_of]
  unfold TTyped0_W TTyped0_Tr
  rw [hc]
  by_cases hl : t.length = ts.length
  · have h := TTyped_loop t ts ht hl t.length 0 (by omega)
    simp only [List.drop_zero] at h
    have hl' : ¬ (t.length : Int) ≠ ts.length := by omega
    cases ha : typd t ts <;> (rw [ha] at h; simp at h; simp [TTyped01_is0, TTyped01_is1, TTyped01_b_0, TTyped01_W, h, hl.symm])
  · have hl' : (t.length : Int) ≠ ts.length := by omega
    simp [hl, hl']
def F_TTyped : List PV → Tr PV
  | [.sl t .non, .sl ts .non] => Tr.chk (okR cV t) (Tr.chk (okR cI ts) (.ret (.bool (typT t ts))))
  | _ => .fail
theorem sim_TTyped (gl : Nat → Option Obj) : SimP Tryd.prog gl 37 fun args => (F_TTyped args).run := by
  refine SimP.given (sim_TTyped0 gl) ?_
  intro args x hg h
  unfold F_TTyped at h
  split at h
  · rename_i t ts
    obtain ⟨h0, q0⟩ := Tr.chk_some h
    obtain ⟨h1, q1⟩ := Tr.chk_some q0
    have q := q1
    obtain ⟨t, rfl⟩ := okR_eq _ h0
    obtain ⟨ts, rfl⟩ := okR_eq _ h1
    have hl := rel_sl hg 0 rfl
    simp only [rOf_len] at hl
    unfold maxLen at hl
    have hw := TTyped_law t ts (by omega)
    cases q
    simp [F_TTyped0, TTyped0_is0, TTyped0_b, hw]
  · cases h
theorem RTyped_loop (t : List Vl) (ts : List Int) (ht : t.length ≤ 9223372036854775807) (hl : t.length = ts.length) : ∀ (k i : Nat), i + k = t.length → RTyped01_V [.sl (rOf cV t) .non, .sl (rOf cI ts) .non, .int .i64 (i : Nat)] ⟨[], [], []⟩ = if typd (t.drop i) (ts.drop i) = true then some (.exit 0, [], ⟨[], [], []⟩) else some (.ret, [.bool false], ⟨[], [], []⟩)
  | 0, i, hi => by
    have hn : ¬ (i : Int) < t.length := by omega
    rw [show t.drop i = [] from List.drop_eq_nil_of_le (by omega), RTyped01_E]
    simp [RTyped01_Tr, hn, typd]
  | k + 1, i, hi => by
    have h1 : i < t.length := by omega
    have h2 : i < ts.length := by omega
    have w := inc_i64 (i := i) (by omega)
    have hc := checkV_isV t[i].1 t[i].2.1 t[i].2.2
    have ih := RTyped_loop t ts ht hl k (i + 1) (by omega)
    rw [List.drop_eq_getElem_cons h1, List.drop_eq_getElem_cons h2, RTyped01_E]
    rw [typd_cons]
    by_cases hv : isVl t[i] = true
    · have hc' := hc.2 hv
      by_cases hty : typeV t[i].1 t[i].2.1 t[i].2.2 = ts[i]
      · simp only [hv, hty, and_self, decide_true, Bool.true_and]
        rw [← ih]
        simp [RTyped01_Tr, h1, h2, w, hc', hty]
      · simp [RTyped01_Tr, h1, h2, w, hc', hty]
    · have hc' : ¬ checkV t[i].1 t[i].2.1 t[i].2.2 = 0 := fun h => hv (hc.1 h)
      simp [RTyped01_Tr, h1, h2, w, hc', hv]
theorem RTyped_law (t : List Vl) (ts : List Int) (ht : t.length ≤ 9223372036854775807) : RTyped0_W (rOf cV t) (rOf cI ts) = some (.bool (typT (rOf cV t) (rOf cI ts))) := by
  have hc : typT (rOf cV t) (rOf cI ts) = (decide (t.length = ts.length) && typd t ts) := by simp only [typT, unR_of]
  unfold RTyped0_W RTyped0_Tr
  rw [hc]
  by_cases hl : t.length = ts.length
  · have h := RTyped_loop t ts ht hl t.length 0 (by omega)
    simp only [List.drop_zero] at h
    have hl' : ¬ (t.length : Int) ≠ ts.length := by omega
    cases ha : typd t ts <;> (rw [ha] at h; simp at h; simp [RTyped01_is0, RTyped01_is1, RTyped01_b_0, RTyped01_W, h, hl.symm])
  · have hl' : (t.length : Int) ≠ ts.length := by omega
    simp [hl, hl']
def F_RTyped : List PV → Tr PV
  | [.sl t .non, .sl ts .non] => Tr.chk (okR cV t) (Tr.chk (okR cI ts) (.ret (.bool (typT t ts))))
  | _ => .fail
theorem sim_RTyped (gl : Nat → Option Obj) : SimP Tryd.prog gl 38 fun args => (F_RTyped args).run := by
  refine SimP.given (sim_RTyped0 gl) ?_
  intro args x hg h
  unfold F_RTyped at h
  split at h
  · rename_i t ts
    obtain ⟨h0, q0⟩ := Tr.chk_some h
    obtain ⟨h1, q1⟩ := Tr.chk_some q0
    have q := q1
    obtain ⟨t, rfl⟩ := okR_eq _ h0
    obtain ⟨ts, rfl⟩ := okR_eq _ h1
    have hl := rel_sl hg 0 rfl
    simp only [rOf_len] at hl
    unfold maxLen at hl
    have hw := RTyped_law t ts (by omega)
    cases q
    simp [F_RTyped0, RTyped0_is0, RTyped0_b, hw]
  · cases h
theorem cut_law (t : List Vl) : cut0_W (rOf cV t) = some (.sl (cutT (rOf cV t)) .non) := by
  have hc : cutT (rOf cV t) = rOf cV (t.take 20) := by simp only [cutT, unR_of]
  unfold cut0_W cut0_Tr
  rw [hc]
  by_cases h : (20 : Int) < t.length
  · have h' : 20 ≤ t.length := by omega
    simp [h, h']
  · have h' : t.length ≤ 20 := by omega
    simp [h, List.take_of_length_le h']
def F_cutT : List PV → Tr PV
  | [.sl t .non] => Tr.chk (okR cV t) (.ret (.sl (cutT t) .non))
  | _ => .fail
theorem sim_cutT (gl : Nat → Option Obj) : SimP Tryd.prog gl 15 fun args => (F_cutT args).run := by
  refine SimP.given (sim_cut0 gl) ?_
  intro args x hg h
  unfold F_cutT at h
  split at h
  · rename_i t
    obtain ⟨h0, q0⟩ := Tr.chk_some h
    have q := q0
    obtain ⟨t, rfl⟩ := okR_eq _ h0
    have hw := cut_law t
    cases q
    simp [F_cut0, cut0_is0, cut0_r, hw]
  · cases h
theorem term_law (a : Int) (b : List UInt8) (k n : Int) (s : List UInt8) : term0_W a b k n s = some (.bool (isTmV a b k n s)) := by
  unfold term0_W term0_Tr isTmV
  have hc := checkV_isV k n s
  by_cases h2 : a = 2
  · subst h2
    by_cases hb : b = []
    · cases hv : isV k n s with
      | true => simp [hb, hc.2 hv]
      | false => have : ¬ checkV k n s = 0 := fun h => by rw [hc.1 h] at hv; cases hv
                 simp [hb, this]
    · simp [hb]
  · by_cases h1 : a = 1
    · subst h1
      by_cases h3 : (1 : Int) ≤ b.length
      · by_cases h4 : (b.length : Int) ≤ 64
        · have h3' : 1 ≤ b.length := by omega
          have h4' : b.length ≤ 64 := by omega
          simp [h3, h4, h3', h4']
        · have h4' : ¬ b.length ≤ 64 := by omega
          simp [h3, h4, h4']
      · have h3' : ¬ 1 ≤ b.length := by omega
        simp [h3, h3']
    · by_cases h3 : a = 3
      · subst h3; by_cases hb : b = [] <;> simp [hb]
      · simp [h1, h2, h3]
def F_term : List PV → Tr PV
  | [.agg [.int .i64 a, .str b, .int .i64 k, .int .i64 n, .str s]] => .ret (.bool (isTmV a b k n s))
  | _ => .fail
theorem sim_term (gl : Nat → Option Obj) : SimP Tryd.prog gl 63 fun args => (F_term args).run := by
  refine SimP.given (sim_term0 gl) ?_
  intro args x hg h
  unfold F_term at h
  split at h
  · rename_i a b k n s
    have q := h
    have hw := term_law a b k n s
    cases q
    simp [F_term0, term0_is0, term0_b, hw]
  · cases h
theorem isTm_eq (x : Tm) : isTm x = if x.1 = 2 then decide (x.2.1 = []) && isV x.2.2.1 x.2.2.2.1 x.2.2.2.2 else if x.1 = 1 then decide (1 ≤ x.2.1.length) && decide (x.2.1.length ≤ 64) && decide (x.2.2.1 = 0 ∧ x.2.2.2.1 = 0 ∧ x.2.2.2.2 = []) else if x.1 = 3 then decide (x.2.1 = []) && decide (x.2.2.1 = 0 ∧ x.2.2.2.1 = 0 ∧ x.2.2.2.2 = []) else false := rfl
theorem RPat_loop (p : List Tm) (hp : p.length ≤ 9223372036854775807) : ∀ (k i : Nat) (b : Bool), i + k = p.length → RPat01_V [.sl (rOf cM p) .non, .bool b, .int .i64 (i : Nat)] ⟨[], [], []⟩ = some (.exit 0, [.bool (b && (p.drop i).all isTm)], ⟨[], [], []⟩)
  | 0, i, b, hi => by
    have hn : ¬ (i : Int) < p.length := by omega
    rw [show p.drop i = [] from List.drop_eq_nil_of_le (by omega), RPat01_E]
    simp [RPat01_Tr, hn]
  | k + 1, i, b, hi => by
    have h1 : i < p.length := by omega
    have w := inc_i64 (i := i) (by omega)
    have ih := fun b => RPat_loop p hp k (i + 1) b (by omega)
    rw [List.drop_eq_getElem_cons h1, RPat01_E]
    cases b with
    | false => simp [RPat01_Tr, h1]
    | true =>
      have ih1 := ih (isTm p[i])
      rw [List.all_cons, Bool.true_and, ← ih1, isTm_eq]
      generalize hx : p[i] = x
      obtain ⟨a, nm, k1, n1, s1⟩ := x
      by_cases h2 : a = 2
      · cases hv : isV k1 n1 s1 <;> simp [RPat01_Tr, h1, w, hx, h2, hv]
      · by_cases h3 : a = 1
        · by_cases h4 : (1 : Int) ≤ nm.length
          · have h4' : 1 ≤ nm.length := by omega
            by_cases h5 : (nm.length : Int) ≤ 64
            · have h5' : nm.length ≤ 64 := by omega
              simp [RPat01_Tr, h1, w, hx, h2, h3, h4, h4', h5, h5']
            · have h5' : ¬ nm.length ≤ 64 := by omega
              simp [RPat01_Tr, h1, w, hx, h2, h3, h4, h4', h5, h5']
          · have h4' : ¬ 1 ≤ nm.length := by omega
            simp [RPat01_Tr, h1, w, hx, h2, h3, h4, h4']
        · by_cases h6 : a = 3
          · by_cases h7 : nm = [] <;> simp [RPat01_Tr, h1, w, hx, h6, h7]
          · simp [RPat01_Tr, h1, w, hx, h2, h3, h6]
theorem RPat_law (p : List Tm) (hp : p.length ≤ 9223372036854775807) : RPat0_W (rOf cM p) = some (.int .i64 (chkP (rOf cM p))) := by
  have hc : chkP (rOf cM p) = if p.length ≤ 8 ∧ p.all isTm = true then 0 else 22 := by simp only [chkP, unR_of]
  have h := RPat_loop p hp p.length 0 (decide ((p.length : Int) ≤ 8)) (by omega)
  unfold RPat0_W RPat0_Tr
  rw [hc]
  simp only [List.drop_zero] at h
  by_cases h8 : (p.length : Int) ≤ 8
  · have h8' : p.length ≤ 8 := by omega
    cases ha : p.all isTm <;> (simp [h8, ha] at h; simp [RPat01_is0, RPat01_b, RPat01_W, h, h8, h8'])
  · have h8' : ¬ p.length ≤ 8 := by omega
    simp [h8] at h
    simp [RPat01_is0, RPat01_b, RPat01_W, h, h8, h8']
def F_RPat : List PV → Tr PV
  | [.sl p .non] => Tr.chk (okR cM p) (.ret (.int .i64 (chkP p)))
  | _ => .fail
theorem sim_RPat (gl : Nat → Option Obj) : SimP Tryd.prog gl 29 fun args => (F_RPat args).run := by
  refine SimP.given (sim_RPat0 gl) ?_
  intro args x hg h
  unfold F_RPat at h
  split at h
  · rename_i p
    obtain ⟨h0, q0⟩ := Tr.chk_some h
    have q := q0
    obtain ⟨p, rfl⟩ := okR_eq _ h0
    have hl := rel_sl hg 0 rfl
    simp only [rOf_len] at hl
    unfold maxLen at hl
    have hw := RPat_law p (by omega)
    cases q
    simp [F_RPat0, RPat0_is0, RPat0_n, hw]
  · cases h
theorem Idx_loop (a : List Bd) (ha : a.length ≤ 9223372036854775807) (ka : Int) (nm : List UInt8) (kb kc : Int) (kd : List UInt8) : ∀ (k i : Nat), i + k = a.length → Idx01_V [.sl (rOf cB a) .non, .fn 58 [.ref [.int .i64 ka, .str nm, .int .i64 kb, .int .i64 kc, .str kd]], .int .i64 (a.length : Nat), .int .i64 (i : Nat)] ⟨[], [], []⟩ =
    if idxA (a.drop i) nm i = -1 then some (.exit 0, [], ⟨[], [], []⟩) else some (.ret, [.int .i64 (idxA (a.drop i) nm i)], ⟨[], [], []⟩)
  | 0, i, hi => by
    have hn : ¬ (i : Int) < a.length := by omega
    rw [show a.drop i = [] from List.drop_eq_nil_of_le (by omega), Idx01_E]
    simp [Idx01_Tr, hn, idxA]
  | k + 1, i, hi => by
    have h1 : i < a.length := by omega
    have w := inc_i64 (i := i) (by omega)
    have ih := Idx_loop a ha ka nm kb kc kd k (i + 1) (by omega)
    rw [List.drop_eq_getElem_cons h1, Idx01_E]
    by_cases h2 : a[i].1 = nm
    · have h3 : ¬ (i : Int) = -1 := by omega
      have e : idxA (a[i] :: a.drop (i + 1)) nm i = i := by simp only [idxA, if_pos h2]
      simp only [e]
      simp [Idx01_Tr, h1, h2, h3]
    · have e : idxA (a[i] :: a.drop (i + 1)) nm i = idxA (a.drop (i + 1)) nm ((i + 1 : Nat) : Int) := by simp only [idxA, if_neg h2]; congr 1
      simp only [e]
      rw [← ih]
      simp [Idx01_Tr, h1, h2, w]
theorem Idx_law (a : List Bd) (ha : a.length ≤ 9223372036854775807) (ka : Int) (nm : List UInt8) (kb kc : Int) (kd : List UInt8) : Idx0_W (rOf cB a) ka nm kb kc kd = some (.int .i64 (idxV (rOf cB a) nm)) := by
  have h := Idx_loop a ha ka nm kb kc kd a.length 0 (by omega)
  have hc : idxV (rOf cB a) nm = idxA a nm 0 := by simp only [idxV, unR_of]
  simp only [List.drop_zero] at h
  unfold Idx0_W Idx0_Tr
  rw [hc]
  by_cases h0 : idxA a nm 0 = -1
  · have h0' : idxA a nm ((0 : Nat) : Int) = -1 := h0
    rw [if_pos h0'] at h
    simp at h
    simp [Idx01_is0, Idx01_is1, Idx01_n_0, Idx01_W, h, h0]
  · have h0' : ¬ idxA a nm ((0 : Nat) : Int) = -1 := h0
    rw [if_neg h0'] at h
    simp at h
    simp [Idx01_is0, Idx01_is1, Idx01_n_0, Idx01_W, h]
def F_Idx : List PV → Tr PV
  | [.sl a .non, .fn 58 [.ref [.int .i64 ka, .str nm, .int .i64 kb, .int .i64 kc, .str kd]]] => Tr.chk (okR cB a) (.ret (.int .i64 (idxV a nm)))
  | _ => .fail
theorem sim_Idx (gl : Nat → Option Obj) : SimP Tryd.prog gl 57 fun args => (F_Idx args).run := by
  refine SimP.given (sim_Idx0 gl) ?_
  intro args x hg h
  unfold F_Idx at h
  split at h
  · rename_i a ka nm kb kc kd
    obtain ⟨h0, q0⟩ := Tr.chk_some h
    have q := q0
    obtain ⟨a, rfl⟩ := okR_eq _ h0
    have hl := rel_sl hg 0 rfl
    simp only [rOf_len] at hl
    unfold maxLen at hl
    have hw := Idx_law a (by omega) ka nm kb kc kd
    cases q
    simp [F_Idx0, Idx0_is0, Idx0_n, hw]
  · cases h
theorem Find_loop (l : List Bd) (hl : l.length ≤ 9223372036854775807) (nm : List UInt8) (n n2 : Int) (s : List UInt8) : ∀ (k i : Nat), i + k = l.length → Find01_V [.sl (rOf cB l) .non, .str nm, .ptr 0 0, .int .i64 (i : Nat)] ⟨[[.int .i64 n, .int .i64 n2, .str s]], [], [36]⟩ =
    match findB (l.drop i) nm with
    | some v => some (.ret, [.ptr 0 0, .bool true], ⟨[[.int .i64 v.1, .int .i64 v.2.1, .str v.2.2]], [], [36]⟩)
    | none => some (.exit 0, [.ptr 0 0], ⟨[[.int .i64 n, .int .i64 n2, .str s]], [], [36]⟩)
  | 0, i, hi => by
    have hn : ¬ (i : Int) < l.length := by omega
    rw [show l.drop i = [] from List.drop_eq_nil_of_le (by omega), Find01_E]
    simp [Find01_Tr, hn, findB]
  | k + 1, i, hi => by
    have h1 : i < l.length := by omega
    have w := inc_i64 (i := i) (by omega)
    have ih := Find_loop l hl nm n n2 s k (i + 1) (by omega)
    rw [List.drop_eq_getElem_cons h1, Find01_E]
    simp only [findB]
    by_cases h2 : l[i].1 = nm
    · simp [Find01_Tr, h1, h2]
    · rw [if_neg h2, ← ih]
      simp [Find01_Tr, h1, h2, w]
theorem Find_law (l : List Bd) (hl : l.length ≤ 9223372036854775807) (nm : List UInt8) : Find0_W (rOf cB l) nm = some (.tup [.agg [.int .i64 (fdK (rOf cB l) nm), .int .i64 (fdN (rOf cB l) nm), .str (fdS (rOf cB l) nm)], .bool (fdO (rOf cB l) nm)]) := by
  have h := Find_loop l hl nm 0 0 [] l.length 0 (by omega)
  simp only [List.drop_zero] at h
  unfold Find0_W Find0_Tr
  simp only [fdK, fdN, fdS, fdO, unR_of]
  cases hf : findB l nm with
  | some v => rw [hf] at h; simp [-one_cV, -cons_cV] at h; simp [-one_cV, -cons_cV, Find01_is0, Find01_is1, Find01_n_0, Find01_n2_0, Find01_s_0, Find01_b_0, Find01_W, h]
  | none => rw [hf] at h; simp [-one_cV, -cons_cV] at h; simp [-one_cV, -cons_cV, Find01_is0, Find01_is1, Find01_n_0, Find01_n2_0, Find01_s_0, Find01_b_0, Find01_n_1, Find01_n2_1, Find01_s_1, Find01_W, h, zeroVl]
def F_Find : List PV → Tr PV
  | [.sl a .non, .str nm] => Tr.chk (okR cB a) (.ret (.tup [.agg [.int .i64 (fdK a nm), .int .i64 (fdN a nm), .str (fdS a nm)], .bool (fdO a nm)]))
  | _ => .fail
theorem sim_Find (gl : Nat → Option Obj) : SimP Tryd.prog gl 19 fun args => (F_Find args).run := by
  refine SimP.given (sim_Find0 gl) ?_
  intro args x hg h
  unfold F_Find at h
  split at h
  · rename_i a nm
    obtain ⟨h0, q0⟩ := Tr.chk_some h
    have q := q0
    obtain ⟨a, rfl⟩ := okR_eq _ h0
    have hl := rel_sl hg 0 rfl
    simp only [rOf_len] at hl
    unfold maxLen at hl
    have hw := Find_law a (by omega) nm
    cases q
    simp [F_Find0, Find0_is0, Find0_n, Find0_n2, Find0_s, Find0_b, hw]
  · cases h
theorem SameB_loop (a b : List Bd) (ha : a.length ≤ 9223372036854775807) (hl : a.length = b.length) : ∀ (k i : Nat), i + k = a.length → SameB01_V [.sl (rOf cB a) .non, .sl (rOf cB b) .non, .int .i64 (i : Nat)] ⟨[], [], []⟩ =
    if a.drop i = b.drop i then some (.exit 0, [], ⟨[], [], []⟩) else some (.ret, [.bool false], ⟨[], [], []⟩)
  | 0, i, hi => by
    have hn : ¬ (i : Int) < a.length := by omega
    rw [show a.drop i = [] from List.drop_eq_nil_of_le (by omega), show b.drop i = [] from List.drop_eq_nil_of_le (by omega), SameB01_E]
    simp [SameB01_Tr, hn]
  | k + 1, i, hi => by
    have h1 : i < a.length := by omega
    have h2 : i < b.length := by omega
    have w := inc_i64 (i := i) (by omega)
    have ih := SameB_loop a b ha hl k (i + 1) (by omega)
    have key : (a.drop i = b.drop i) = (a[i] = b[i] ∧ a.drop (i + 1) = b.drop (i + 1)) := by rw [List.drop_eq_getElem_cons h1, List.drop_eq_getElem_cons h2, List.cons.injEq]
    simp only [key]
    rw [SameB01_E]
    by_cases e : a[i] = b[i]
    · simp only [e, true_and]
      rw [← ih]
      simp [SameB01_Tr, h1, h2, w, e]
    · have e' : ¬ (a[i].1 = b[i].1 ∧ (a[i].2.1 = b[i].2.1 ∧ a[i].2.2.1 = b[i].2.2.1 ∧ a[i].2.2.2 = b[i].2.2.2)) := fun h => e (Prod.ext h.1 (Prod.ext h.2.1 (Prod.ext h.2.2.1 h.2.2.2)))
      simp [SameB01_Tr, h1, h2, w, e]
      rw [if_pos (by simpa only [Classical.not_and_iff_not_or_not] using e')]
      rfl
theorem SameB_law (a b : List Bd) (ha : a.length ≤ 9223372036854775807) : SameB0_W (rOf cB a) (rOf cB b) = some (.bool (eqRB (rOf cB a) (rOf cB b))) := by
  have hc : eqRB (rOf cB a) (rOf cB b) = decide (a = b) := by simp only [eqRB, unR_of]
  unfold SameB0_W SameB0_Tr
  rw [hc]
  by_cases hl : a.length = b.length
  · have h := SameB_loop a b ha hl a.length 0 (by omega)
    simp only [List.drop_zero] at h
    by_cases e : a = b
    · subst e; simp at h; simp [SameB01_is0, SameB01_is1, SameB01_b_0, SameB01_W, h]
    · rw [if_neg e] at h; simp at h; simp [SameB01_is0, SameB01_is1, SameB01_b_0, SameB01_W, h, e, hl]
  · have hl' : (a.length : Int) ≠ b.length := by omega
    have e : a ≠ b := by rintro rfl; exact hl rfl
    simp [hl', e]
def F_SameB : List PV → Tr PV
  | [.sl a .non, .sl b .non] => Tr.chk (okR cB a) (Tr.chk (okR cB b) (.ret (.bool (eqRB a b))))
  | _ => .fail
theorem sim_SameB (gl : Nat → Option Obj) : SimP Tryd.prog gl 30 fun args => (F_SameB args).run := by
  refine SimP.given (sim_SameB0 gl) ?_
  intro args x hg h
  unfold F_SameB at h
  split at h
  · rename_i a b
    obtain ⟨h0, q0⟩ := Tr.chk_some h
    obtain ⟨h1, q1⟩ := Tr.chk_some q0
    have q := q1
    obtain ⟨a, rfl⟩ := okR_eq _ h0
    obtain ⟨b, rfl⟩ := okR_eq _ h1
    have hl := rel_sl hg 0 rfl
    simp only [rOf_len] at hl
    unfold maxLen at hl
    have hw := SameB_law a b (by omega)
    cases q
    simp [F_SameB0, SameB0_is0, SameB0_b, hw]
  · cases h
end Go.Pv

set_option maxHeartbeats 4000000
set_option maxRecDepth 200000
set_option linter.unusedSimpArgs false
set_option linter.unusedVariables false
namespace Go.Pv
open Go Go.Proofs
noncomputable def G_TCmp : GamT := ofL [(55, .pure F_CmpF), (56, .pure F_Compare)]
theorem gok_TCmp (gl : Nat → Option Obj) : GamOk Tryd.prog gl (gam G_TCmp) := (gamOk_cons (sim_CmpF gl) (gamOk_cons (sim_Compare gl) gamOk_nil))
noncomputable def L_TCmp : LpsT := fun r fr σ => .fail
noncomputable def TCmp_Tr (a : List (List PV)) (b : List (List PV)) : Tr PV := Tr.ite (okR cV (lockLL a)) (Tr.ite (okR cV (lockLL b)) (Tr.ret (PV.int .i64 (cmpTV (lockLL a) (lockLL b)))) Tr.fail) Tr.fail
theorem TCmp_T (a : List (List PV)) (b : List (List PV)) : (tcall tbT G_TCmp L_TCmp Tryd.f16 [.sl a .non, .sl b .non]).flat = TCmp_Tr a b := by kernel_rfl
noncomputable def F_TCmp : List PV → Tr PV | [.sl a .non, .sl b .non] => TCmp_Tr a b | _ => .fail
theorem sim_TCmp (gl : Nat → Option Obj) : SimP Tryd.prog gl 16 fun args => (F_TCmp args).run := by
  refine SimP.of_flat (G := G_TCmp) (L := L_TCmp) tbT_ok (gok_TCmp gl ) noMixed Tryd.func16 rfl (by rfl) (by kernel_rfl) (loopOk_none (by kernel_rfl)) ?_
  intro args x h
  unfold F_TCmp at h
  split at h
  · exact (congrArg Tr.run (TCmp_T _ _)).trans h
  · cases h
noncomputable def G_Same : GamT := ofL [(39, .pure F_CmpR)]
theorem gok_Same (gl : Nat → Option Obj) : GamOk Tryd.prog gl (gam G_Same) := (gamOk_cons (sim_CmpR gl) gamOk_nil)
noncomputable def L_Same : LpsT := fun r fr σ => .fail
noncomputable def Same_Tr (a : List (List PV)) (b : List (List PV)) : Tr PV := Tr.ite (okR cV (lockLL a)) (Tr.ite (okR cV (lockLL b)) (Tr.ret (PV.bool (iEq (cmpTR (lockLL a) (lockLL b)) 0))) Tr.fail) Tr.fail
theorem Same_T (a : List (List PV)) (b : List (List PV)) : (tcall tbT G_Same L_Same Tryd.f17 [.sl a .non, .sl b .non]).flat = Same_Tr a b := by kernel_rfl
noncomputable def F_Same : List PV → Tr PV | [.sl a .non, .sl b .non] => Same_Tr a b | _ => .fail
theorem sim_Same (gl : Nat → Option Obj) : SimP Tryd.prog gl 17 fun args => (F_Same args).run := by
  refine SimP.of_flat (G := G_Same) (L := L_Same) tbT_ok (gok_Same gl ) noMixed Tryd.func17 rfl (by rfl) (by kernel_rfl) (loopOk_none (by kernel_rfl)) ?_
  intro args x h
  unfold F_Same at h
  split at h
  · exact (congrArg Tr.run (Same_T _ _)).trans h
  · cases h
noncomputable def G_TPat0 : GamT := ofL [(63, .pure F_term)]
theorem gok_TPat0 (gl : Nat → Option Obj) : GamOk Tryd.prog gl (gam G_TPat0) := (gamOk_cons (sim_term gl) gamOk_nil)
noncomputable def c_TPat01 : Code := loopC Tryd.f28 4
def I_TPat01 : LI := ⟨18, [8, 9, 10], fun e => match e with | .ret => [2] | .exit 0 => [] | _ => [], true⟩
noncomputable def LI_TPat01 : LpsT := fun r fr σ => .fail
noncomputable def TPat01_V (vs : List PV) (σ : Store) : Option (PExit × List PV × Store) := lval (lstep tbT G_TPat0 LI_TPat01 c_TPat01 I_TPat01) vs σ
noncomputable def TPat01_Tr (r : List (List PV)) (n : Int) (n2 : Int) : Tr LR := Tr.ite (iLt n2 n) (Tr.ite (okPos n2) (Tr.ite (okGet [PV.int .i64 0, PV.str [], PV.int .i64 0, PV.int .i64 0, PV.str []] r (nNat n2)) (Tr.ite (bNot (isTmV (xInt r (nNat n2) 0) (xStr r (nNat n2) 1) (xInt r (nNat n2) 2) (xInt r (nNat n2) 3) (xStr r (nNat n2) 4))) (Tr.ret (LR.out .ret [PV.int .i64 22] (Store.mk [] [] []))) (Tr.ret (LR.next [PV.sl (dropPLL 0 r) .non, PV.int .i64 n, PV.int .i64 (iAdd .i64 n2 1)] (Store.mk [] [] [])))) Tr.fail) Tr.fail) (Tr.ret (LR.out (.exit 0) [] (Store.mk [] [] [])))
theorem TPat01_T (r : List (List PV)) (n : Int) (n2 : Int) : lstep tbT G_TPat0 LI_TPat01 c_TPat01 I_TPat01 [.sl r .non, .int .i64 n, .int .i64 n2] ⟨[], [], []⟩ = TPat01_Tr r n n2 := by kernel_rfl
theorem TPat01_E (r : List (List PV)) (n : Int) (n2 : Int) : TPat01_V [.sl r .non, .int .i64 n, .int .i64 n2] ⟨[], [], []⟩ = lnext TPat01_V (TPat01_Tr r n n2).run := by unfold TPat01_V; rw [lval_eq, TPat01_T]
noncomputable def TPat01_W (r : List (List PV)) (n : Int) (n2 : Int) : Option (PExit × List PV × Store) := TPat01_V [.sl r .non, .int .i64 n, .int .i64 n2] ⟨[], [], []⟩
noncomputable def TPat01_n_0 (r : List (List PV)) (n : Int) (n2 : Int) : Int := (gInt (gOut (TPat01_W r n n2) 0))
noncomputable def TPat01_is0 (r : List (List PV)) (n : Int) (n2 : Int) : Bool := isW (TPat01_W r n n2) (.ret, [.int .i64 (TPat01_n_0 r n n2)], ⟨[], [], []⟩)
noncomputable def TPat01_is1 (r : List (List PV)) (n : Int) (n2 : Int) : Bool := isW (TPat01_W r n n2) ((.exit 0), [], ⟨[], [], []⟩)
noncomputable def TPat01_prop : List PV → Store → Tr (PExit × List PV × Store) | [.sl r .non, .int .i64 n, .int .i64 n2], ⟨[], [], []⟩ => .ite (TPat01_is0 r n n2) (.ret (.ret, [.int .i64 (TPat01_n_0 r n n2)], ⟨[], [], []⟩)) (.ite (TPat01_is1 r n n2) (.ret ((.exit 0), [], ⟨[], [], []⟩)) (.fail)) | _, _ => .fail
theorem TPat01_ok : ∀ vs σ r, (TPat01_prop vs σ).run = some r → TPat01_V vs σ = some r := by
  intro vs σ r h
  unfold TPat01_prop at h
  split at h
  · exact ite_isW h fun h => ite_isW h fun h => by cases h
  · cases h
theorem loop_TPat01 (gl : Nat → Option Obj) : ∀ fr σ e fr' σ', (orc I_TPat01 TPat01_prop fr σ).run = some (e, fr', σ') → LDoes Tryd.prog gl c_TPat01 fr σ e fr' σ' := orc_ok tbT_ok (gok_TPat0 gl ) noMixed (L := LI_TPat01) (loopOk_none (by kernel_rfl)) (by kernel_rfl) TPat01_ok
noncomputable def L_TPat0 : LpsT := fun r fr σ => bif Nat.beq r 4 then orc I_TPat01 TPat01_prop fr σ else .fail
noncomputable def TPat0_Tr (p_ : List (List PV)) : Tr PV := Tr.ite (iLt 8 (xLen p_)) (Tr.ret (PV.int .i64 22)) (Tr.ite (TPat01_is0 p_ (xLen p_) 0) (Tr.ret (PV.int .i64 (TPat01_n_0 p_ (xLen p_) 0))) (Tr.ite (TPat01_is1 p_ (xLen p_) 0) (Tr.ret (PV.int .i64 0)) Tr.fail))
theorem TPat0_T (p_ : List (List PV)) : (tcall tbT G_TPat0 L_TPat0 Tryd.f28 [.sl p_ .non]).flat = TPat0_Tr p_ := by kernel_rfl
noncomputable def TPat0_W (p_ : List (List PV)) : Option PV := (TPat0_Tr p_).run
noncomputable def TPat0_n (p_ : List (List PV)) : Int := (gInt (gVal (TPat0_W p_)))
noncomputable def TPat0_is0 (p_ : List (List PV)) : Bool := isW (TPat0_W p_) (.int .i64 (TPat0_n p_))
noncomputable def F_TPat0 : List PV → Tr PV | [.sl p_ .non] => .ite (TPat0_is0 p_) (.ret (.int .i64 (TPat0_n p_))) (.fail) | _ => .fail
theorem sim_TPat0 (gl : Nat → Option Obj) : SimP Tryd.prog gl 28 fun args => (F_TPat0 args).run := by
  refine SimP.of_flat (G := G_TPat0) (L := L_TPat0) tbT_ok (gok_TPat0 gl ) noMixed Tryd.func28 rfl (by rfl) (by kernel_rfl) (loopOk_all (L := lps L_TPat0) [(4, c_TPat01)] (by kernel_rfl) (List.forall_mem_cons.2 ⟨fun fr σ e fr' σ' h => loop_TPat01 gl  fr σ e fr' σ' h, (List.forall_mem_nil _)⟩)) ?_
  intro args x h
  unfold F_TPat0 at h
  split at h
  · exact (congrArg Tr.run (TPat0_T _)).trans (ite_isW h fun h => by cases h)
  · cases h
end Go.Pv

set_option maxHeartbeats 4000000
set_option maxRecDepth 200000
set_option linter.unusedSimpArgs false
set_option linter.unusedVariables false
namespace Go.Pv
open Go Go.Proofs
theorem TPat_loop (p : List Tm) (hp : p.length ≤ 9223372036854775807) : TPat01_V [.sl (rOf cM p) .non, .int .i64 (p.length : Nat), .int .i64 0] ⟨[], [], []⟩ = if p.all isTm = true then some (.exit 0, [], ⟨[], [], []⟩) else some (.ret, [.int .i64 22], ⟨[], [], []⟩) := by
  have h := loop_scan (l := p) (V := fun i => TPat01_V [.sl (rOf cM p) .non, .int .i64 (p.length : Nat), .int .i64 (i : Nat)] ⟨[], [], []⟩) (fun _ v => if isTm v = true then none else some ()) (fun _ => some (.ret, [.int .i64 22], ⟨[], [], []⟩)) (some (.exit 0, [], ⟨[], [], []⟩)) ?_ ?_
  · rw [scan_all] at h
    refine h.trans ?_
    by_cases ha : p.all isTm = true
    · rw [if_pos ha, if_pos ha]
    · rw [if_neg ha, if_neg ha]
  · intro i hi
    have w := inc_i64 (i := i) (by omega)
    show TPat01_V _ _ = _
    rw [TPat01_E]
    by_cases hv : isTm p[i] = true
    · have hv' : isTmV p[i].1 p[i].2.1 p[i].2.2.1 p[i].2.2.2.1 p[i].2.2.2.2 = true := hv
      simp [TPat01_Tr, hi, w, hv, hv']
    · have hv' : isTmV p[i].1 p[i].2.1 p[i].2.2.1 p[i].2.2.2.1 p[i].2.2.2.2 = false := by simpa [isTm] using hv
      simp [TPat01_Tr, hi, w, hv, hv']
  · show TPat01_V _ _ = _
    rw [TPat01_E]
    simp [TPat01_Tr]
theorem TPat_law (p : List Tm) (hp : p.length ≤ 9223372036854775807) : TPat0_W (rOf cM p) = some (.int .i64 (chkP (rOf cM p))) := by
  have h := TPat_loop p hp
  have hc : chkP (rOf cM p) = if p.length ≤ 8 ∧ p.all isTm = true then 0 else 22 := by simp only [chkP, unR_of]
  unfold TPat0_W TPat0_Tr
  rw [hc]
  by_cases h8 : p.length ≤ 8
  · have h8' : ¬ (8 : Int) < p.length := by omega
    cases ha : p.all isTm <;> (rw [ha] at h; simp at h; simp [TPat01_is0, TPat01_is1, TPat01_n_0, TPat01_W, h, h8, h8'])
  · have h8' : (8 : Int) < p.length := by omega
    simp [h8, h8']
def F_TPat : List PV → Tr PV
  | [.sl p .non] => Tr.chk (okR cM p) (.ret (.int .i64 (chkP p)))
  | _ => .fail
theorem sim_TPat (gl : Nat → Option Obj) : SimP Tryd.prog gl 28 fun args => (F_TPat args).run := by
  refine SimP.given (sim_TPat0 gl) ?_
  intro args x hg h
  unfold F_TPat at h
  split at h
  · rename_i p
    obtain ⟨h0, q0⟩ := Tr.chk_some h
    have q := q0
    obtain ⟨p, rfl⟩ := okR_eq _ h0
    have hl := rel_sl hg 0 rfl
    simp only [rOf_len] at hl
    unfold maxLen at hl
    have hw := TPat_law p (by omega)
    cases q
    simp [F_TPat0, TPat0_is0, TPat0_n, hw]
  · cases h
end Go.Pv

/- Rows that are put in order: where things go, and what stays. No program in sight. -/
set_option linter.unusedSimpArgs false
set_option linter.unusedVariables false
namespace Go.Pv
section
variable {α : Type}
/-- One place put anew. -/
def upd (f : Nat → α) (i : Nat) (x : α) : Nat → α := fun k => if k = i then x else f k
theorem upd_at (f : Nat → α) (i : Nat) (x : α) (k : Nat) : upd f i x k = if k = i then x else f k := rfl

/-- The same things, from lo to hi at other places. -/
def Mv (f g : Nat → α) (lo hi : Nat) : Prop :=
  ∃ s t : Nat → Nat, (∀ k, s (t k) = k) ∧ (∀ k, t (s k) = k) ∧ (∀ k, k < lo ∨ hi ≤ k → s k = k) ∧ ∀ k, g k = f (s k)
namespace Mv
theorem refl (f : Nat → α) (lo hi : Nat) : Mv f f lo hi := ⟨id, id, fun _ => rfl, fun _ => rfl, fun _ _ => rfl, fun _ => rfl⟩
theorem trans {f g h : Nat → α} {lo hi : Nat} : Mv f g lo hi → Mv g h lo hi → Mv f h lo hi
  | ⟨s, t, h1, h2, h3, h4⟩, ⟨s', t', h1', h2', h3', h4'⟩ => ⟨fun k => s (s' k), fun k => t' (t k),
    fun k => by simp only [h1', h1], fun k => by simp only [h2, h2'], fun k hk => by simp only [h3' k hk, h3 k hk], fun k => by simp only [h4', h4]⟩
theorem mono {f g : Nat → α} {lo hi lo' hi' : Nat} (h : Mv f g lo hi) (hl : lo' ≤ lo) (hh : hi ≤ hi') : Mv f g lo' hi' := by
  obtain ⟨s, t, h1, h2, h3, h4⟩ := h
  exact ⟨s, t, h1, h2, fun k hk => h3 k (by omega), h4⟩
theorem swap (f : Nat → α) {lo hi i j : Nat} (hi1 : lo ≤ i) (hi2 : i < hi) (hj1 : lo ≤ j) (hj2 : j < hi) : Mv f (upd (upd f i (f j)) j (f i)) lo hi := by
  refine ⟨fun k => if k = j then i else if k = i then j else k, fun k => if k = j then i else if k = i then j else k, ?_, ?_, ?_, ?_⟩
  · intro k; simp only []; split <;> split <;> simp_all <;> omega
  · intro k; simp only []; split <;> split <;> simp_all <;> omega
  · intro k hk; simp only []; repeat' split
    all_goals omega
  · intro k
    simp only [upd_at]
    split
    · rfl
    · split <;> simp_all
theorem out {f g : Nat → α} {lo hi : Nat} (h : Mv f g lo hi) {k : Nat} (hk : k < lo ∨ hi ≤ k) : g k = f k := by
  obtain ⟨s, t, h1, h2, h3, h4⟩ := h
  rw [h4, h3 k hk]
theorem inn {f g : Nat → α} {lo hi : Nat} (h : Mv f g lo hi) {k : Nat} (h5 : lo ≤ k) (h6 : k < hi) : ∃ j, lo ≤ j ∧ j < hi ∧ g k = f j := by
  obtain ⟨s, t, h1, h2, h3, h4⟩ := h
  refine ⟨s k, ?_, ?_, h4 k⟩
  · apply Decidable.byContradiction
    intro hc
    have h7 := h3 (s k) (by omega)
    have h8 : s k = k := by have := congrArg t h7; rw [h2, h2] at this; exact this
    omega
  · apply Decidable.byContradiction
    intro hc
    have h7 := h3 (s k) (by omega)
    have h8 : s k = k := by have := congrArg t h7; rw [h2, h2] at this; exact this
    omega
theorem symm {f g : Nat → α} {lo hi : Nat} (h : Mv f g lo hi) : Mv g f lo hi := by
  obtain ⟨s, t, h1, h2, h3, h4⟩ := h
  refine ⟨t, s, h2, h1, fun k hk => ?_, fun k => ?_⟩
  · have := congrArg t (h3 k hk); rw [h2] at this; exact this.symm
  · rw [h4, h1]
end Mv

/-- Two ranges of n, one for the other. -/
def swR (f : Nat → α) (a b n : Nat) : Nat → α := fun k => if a ≤ k ∧ k < a + n then f (b + (k - a)) else if b ≤ k ∧ k < b + n then f (a + (k - b)) else f k
theorem swR_zero (f : Nat → α) (a b : Nat) : swR f a b 0 = f := by
  funext k; unfold swR; split
  · omega
  · split
    · omega
    · rfl
theorem swR_succ (f : Nat → α) {a b n : Nat} (h : a + n < b) : upd (upd (swR f a b n) (a + n) (swR f a b n (b + n))) (b + n) (swR f a b n (a + n)) = swR f a b (n + 1) := by
  have e1 : swR f a b n (b + n) = f (b + n) := by unfold swR; rw [if_neg (by omega), if_neg (by omega)]
  have e2 : swR f a b n (a + n) = f (a + n) := by unfold swR; rw [if_neg (by omega), if_neg (by omega)]
  rw [e1, e2]
  funext k
  simp only [upd_at, swR]
  by_cases h1 : k = b + n
  · rw [if_pos h1, if_neg (by omega), if_pos (by omega)]; congr 1; omega
  · rw [if_neg h1]
    by_cases h2 : k = a + n
    · rw [if_pos h2, if_pos (by omega)]; congr 1; omega
    · rw [if_neg h2]
      by_cases h3 : a ≤ k ∧ k < a + n
      · rw [if_pos h3, if_pos (by omega)]
      · rw [if_neg h3]
        rw [if_neg (c := a ≤ k ∧ k < a + (n + 1)) (by omega)]
        by_cases h4 : b ≤ k ∧ k < b + n
        · rw [if_pos h4, if_pos (by omega)]
        · rw [if_neg h4, if_neg (by omega)]
theorem swR_mv (f : Nat → α) {a b lo hi : Nat} : ∀ {n : Nat}, lo ≤ a → a + n ≤ b → b + n ≤ hi → Mv f (swR f a b n) lo hi
  | 0, _, _, _ => by rw [swR_zero]; exact Mv.refl _ _ _
  | n + 1, h1, h2, h3 => by
    rw [← swR_succ f (by omega)]
    exact (swR_mv f h1 (by omega) (by omega)).trans (Mv.swap _ (by omega) (by omega) (by omega) (by omega))

/-- The range up to m behind the range from m. -/
def rotR (f : Nat → α) (lo m hi : Nat) : Nat → α := fun k => if lo ≤ k ∧ k < lo + (hi - m) then f (k + (m - lo)) else if lo + (hi - m) ≤ k ∧ k < hi then f (k - (hi - m)) else f k
theorem rotR_more (f : Nat → α) {m i j : Nat} (h1 : j < i) (h2 : i ≤ m) : rotR (swR f (m - i) m j) (m - (i - j)) m (m + j) = rotR f (m - i) m (m + j) := by
  funext k
  simp only [rotR, swR]
  repeat' split
  all_goals first | rfl | (congr 1; omega) | omega
theorem rotR_less (f : Nat → α) {m i j : Nat} (h1 : i < j) (h2 : i ≤ m) : rotR (swR f (m - i) (m + j - i) i) (m - i) m (m + (j - i)) = rotR f (m - i) m (m + j) := by
  funext k
  simp only [rotR, swR]
  repeat' split
  all_goals first | rfl | (congr 1; omega) | omega
theorem rotR_same (f : Nat → α) {m i : Nat} (h2 : i ≤ m) : swR f (m - i) m i = rotR f (m - i) m (m + i) := by
  funext k
  simp only [rotR, swR]
  repeat' split
  all_goals first | rfl | (congr 1; omega) | omega
theorem rotR_lo (f : Nat → α) (m hi : Nat) : rotR f m m hi = f := by
  funext k
  simp only [rotR]
  repeat' split
  all_goals first | rfl | (congr 1; omega) | omega
theorem rotR_hi (f : Nat → α) {lo m : Nat} (h : lo ≤ m) : rotR f lo m m = f := by
  funext k
  simp only [rotR]
  repeat' split
  all_goals first | rfl | (congr 1; omega) | omega
end

section
variable {α : Type} {c : α → α → Int} (T : Tot c)
/-- In order from lo to hi. -/
def Srt (c : α → α → Int) (f : Nat → α) (lo hi : Nat) : Prop := ∀ p q, lo ≤ p → p < q → q < hi → c (f p) (f q) ≤ 0
/-- In order but for the place j. -/
def SrtX (c : α → α → Int) (f : Nat → α) (lo hi j : Nat) : Prop := ∀ p q, lo ≤ p → p < q → q < hi → q ≠ j → c (f p) (f q) ≤ 0
theorem SrtX.init {f : Nat → α} {lo i : Nat} (h : Srt c f lo i) : SrtX c f lo (i + 1) i := fun p q h1 h2 h3 h4 => h p q h1 h2 (by omega)
theorem SrtX.done0 {f : Nat → α} {lo hi : Nat} (h : SrtX c f lo hi lo) : Srt c f lo hi := fun p q h1 h2 h3 => h p q h1 h2 h3 (by omega)
include T
theorem SrtX.done {f : Nat → α} {lo hi j : Nat} (h : SrtX c f lo hi j) (hl : lo < j) (hj : j < hi) (h1 : ¬ c (f j) (f (j - 1)) < 0) : Srt c f lo hi := by
  intro p q hp hq hh
  by_cases e : q = j
  · subst e
    have h2 : c (f (q - 1)) (f q) ≤ 0 := by have := T.swap (f q) (f (q - 1)); omega
    by_cases e' : p = q - 1
    · rw [e']; exact h2
    · exact T.le_trans (h p (q - 1) hp (by omega) (by omega) (by omega)) h2
  · exact h p q hp hq hh e
omit T in
theorem SrtX.step {f : Nat → α} {lo hi j : Nat} (h : SrtX c f lo hi j) (hl : lo < j) (hj : j < hi) (h1 : c (f j) (f (j - 1)) < 0) :
    SrtX c (upd (upd f j (f (j - 1))) (j - 1) (f j)) lo hi (j - 1) := by
  intro p q hp hq hh hx
  simp only [upd_at]
  rw [if_neg hx]
  by_cases e : q = j
  · rw [if_pos e]
    by_cases e1 : p = j - 1
    · rw [if_pos e1]; omega
    · rw [if_neg e1, if_neg (by omega)]
      exact h p (j - 1) hp (by omega) (by omega) (by omega)
  · rw [if_neg e]
    by_cases e1 : p = j - 1
    · rw [if_pos e1]
      exact h j q (by omega) (by omega) hh e
    · rw [if_neg e1]
      by_cases e2 : p = j
      · rw [if_pos e2]; exact h (j - 1) q (by omega) (by omega) hh e
      · rw [if_neg e2]; exact h p q hp hq hh e
omit T in
theorem Srt.one (f : Nat → α) (lo : Nat) : Srt c f lo (lo + 1) := fun p q _ _ _ => by omega
omit T in
theorem Srt.sub {f : Nat → α} {lo hi lo' hi' : Nat} (h : Srt c f lo hi) (h1 : lo ≤ lo') (h2 : hi' ≤ hi) : Srt c f lo' hi' := fun p q a b d => h p q (by omega) b (by omega)
omit T in
theorem Srt.congr {f g : Nat → α} {lo hi : Nat} (h : Srt c f lo hi) (e : ∀ k, lo ≤ k → k < hi → g k = f k) : Srt c g lo hi := fun p q a b d => by
  rw [e p a (by omega), e q (by omega) d]; exact h p q a b d
omit T in
/-- Two ranges, each in order, the first not above the second. -/
theorem Srt.join {f : Nat → α} {lo m hi : Nat} (h1 : Srt c f lo m) (h2 : Srt c f m hi) (h3 : ∀ p q, lo ≤ p → p < m → m ≤ q → q < hi → c (f p) (f q) ≤ 0) : Srt c f lo hi := by
  intro p q a b d
  by_cases e : q < m
  · exact h1 p q a b e
  · by_cases e' : m ≤ p
    · exact h2 p q e' b d
    · exact h3 p q a (by omega) (by omega) d
theorem le_of_not {x y : α} (h : ¬ c x y < 0) : c y x ≤ 0 := by have := T.swap x y; omega

/-- A merge of two ranges, by a cut that is found: what stands where it is cut. -/
structure Cut (c : α → α → Int) (f : Nat → α) (a m b mid start : Nat) : Prop where
  am : a ≤ start
  sm : start ≤ m
  smid : start ≤ mid
  em : m ≤ mid + m - start
  eb : mid + m - start ≤ b
  lo : ∀ p q, a ≤ p → p < start → mid + m - start ≤ q → q < b → c (f p) (f q) ≤ 0
  hi : ∀ p q, m ≤ p → p < mid + m - start → start ≤ q → q < m → c (f p) (f q) ≤ 0
omit T in
theorem rotR_at {f : Nat → α} {start m mid : Nat} (h1 : start ≤ m) (h2 : start ≤ mid) (k : Nat) :
    rotR f start m (mid + m - start) k = if k < start then f k else if k < mid then f (k + (m - start)) else if k < mid + m - start then f (k - (mid - start)) else f k := by
  simp only [rotR]
  repeat' split
  all_goals first | rfl | (congr 1; omega) | omega
omit T in
theorem Cut.left1 {f : Nat → α} {a m b mid start : Nat} (h : Cut c f a m b mid start) (hA : Srt c f a m) : Srt c (rotR f start m (mid + m - start)) a start := by
  intro p q h1 h2 h3
  have := h.am; have := h.sm; have := h.smid
  rw [rotR_at h.sm h.smid, rotR_at h.sm h.smid, if_pos (by omega), if_pos (by omega)]
  exact hA p q h1 h2 (by omega)
omit T in
theorem Cut.left2 {f : Nat → α} {a m b mid start : Nat} (h : Cut c f a m b mid start) (hB : Srt c f m b) : Srt c (rotR f start m (mid + m - start)) start mid := by
  intro p q h1 h2 h3
  have := h.am; have := h.sm; have := h.smid; have := h.em; have := h.eb
  rw [rotR_at h.sm h.smid, rotR_at h.sm h.smid, if_neg (by omega), if_pos (by omega), if_neg (by omega), if_pos (by omega)]
  exact hB _ _ (by omega) (by omega) (by omega)
omit T in
theorem Cut.right1 {f : Nat → α} {a m b mid start : Nat} (h : Cut c f a m b mid start) (hA : Srt c f a m) : Srt c (rotR f start m (mid + m - start)) mid (mid + m - start) := by
  intro p q h1 h2 h3
  have := h.am; have := h.sm; have := h.smid; have := h.em; have := h.eb
  rw [rotR_at h.sm h.smid, rotR_at h.sm h.smid, if_neg (by omega), if_neg (by omega), if_pos (by omega), if_neg (by omega), if_neg (by omega), if_pos (by omega)]
  exact hA _ _ (by omega) (by omega) (by omega)
omit T in
theorem Cut.right2 {f : Nat → α} {a m b mid start : Nat} (h : Cut c f a m b mid start) (hB : Srt c f m b) : Srt c (rotR f start m (mid + m - start)) (mid + m - start) b := by
  intro p q h1 h2 h3
  have := h.am; have := h.sm; have := h.smid; have := h.em; have := h.eb
  rw [rotR_at h.sm h.smid, rotR_at h.sm h.smid, if_neg (by omega), if_neg (by omega), if_neg (by omega), if_neg (by omega), if_neg (by omega), if_neg (by omega)]
  exact hB _ _ (by omega) (by omega) (by omega)
omit T in
theorem Cut.across {f : Nat → α} {a m b mid start : Nat} (h : Cut c f a m b mid start) (hA : Srt c f a m) (hB : Srt c f m b) (hm : mid ≤ b) (p q : Nat) (h1 : a ≤ p) (h2 : p < mid) (h3 : mid ≤ q) (h4 : q < b) :
    c (rotR f start m (mid + m - start) p) (rotR f start m (mid + m - start) q) ≤ 0 := by
  have := h.am; have := h.sm; have := h.smid; have := h.em; have := h.eb
  rw [rotR_at h.sm h.smid, rotR_at h.sm h.smid, if_neg (c := q < start) (by omega), if_neg (c := q < mid) (by omega), if_pos h2]
  split
  · split
    · exact hA _ _ (by omega) (by omega) (by omega)
    · exact h.lo _ _ (by omega) (by omega) (by omega) (by omega)
  · split
    · exact h.hi _ _ (by omega) (by omega) (by omega) (by omega)
    · exact hB _ _ (by omega) (by omega) (by omega)
/-- The cut that the search finds. -/
theorem Cut.of {f : Nat → α} {a m b mid start lo hi : Nat} (hA : Srt c f a m) (hB : Srt c f m b) (h0 : a < m) (h00 : m < b) (hmid : mid = (a + b) / 2)
    (hlo : lo = if mid < m then mid + m - b else a) (hhi : hi = if mid < m then mid else m) (h1 : lo ≤ start) (h2 : start ≤ hi)
    (h3 : ∀ k, lo ≤ k → k < start → ¬ c (f (mid + m - 1 - k)) (f k) < 0) (h4 : ∀ k, start ≤ k → k < hi → c (f (mid + m - 1 - k)) (f k) < 0) : Cut c f a m b mid start := by
  have e1 : a ≤ lo := by rw [hlo]; split <;> omega
  have e2 : hi ≤ m := by rw [hhi]; split <;> omega
  have e3 : hi ≤ mid := by rw [hhi]; split <;> omega
  have e4 : mid + m - lo ≤ b := by rw [hlo]; split <;> omega
  refine ⟨by omega, by omega, by omega, by omega, ?_, ?_, ?_⟩
  · rw [hlo] at h1; split at h1 <;> omega
  · intro p q hp hp2 hq hq2
    by_cases e : lo = start
    · rw [hlo] at e; split at e <;> omega
    · have h5 := le_of_not T (h3 (start - 1) (by omega) (by omega))
      have h6 : mid + m - 1 - (start - 1) = mid + m - start := by omega
      rw [h6] at h5
      have h7 : c (f p) (f (mid + m - start)) ≤ 0 := by
        by_cases e' : p = start - 1
        · rw [e']; exact h5
        · exact T.le_trans (hA p (start - 1) hp (by omega) (by omega)) h5
      by_cases e' : q = mid + m - start
      · rw [e']; exact h7
      · exact T.le_trans h7 (hB _ _ (by omega) (by omega) hq2)
  · intro p q hp hp2 hq hq2
    by_cases e : start = hi
    · rw [hhi] at e; split at e <;> omega
    · have h5 := h4 start (Nat.le_refl _) (by omega)
      have h7 : c (f p) (f start) ≤ 0 := by
        by_cases e' : p = mid + m - 1 - start
        · rw [e']; omega
        · exact T.le_trans (hB p (mid + m - 1 - start) hp (by omega) (by omega)) (by omega)
      by_cases e' : q = start
      · rw [e']; exact h7
      · exact T.le_trans h7 (hA _ _ (by omega) (by omega) hq2)
omit T in
/-- Both halves put in order. -/
theorem merge_done {f g h : Nat → α} {a mid b : Nat} (h1 : a ≤ mid) (h2 : mid ≤ b) (m1 : Mv f g a mid) (s1 : Srt c g a mid) (m2 : Mv g h mid b) (s2 : Srt c h mid b)
    (hx : ∀ p q, a ≤ p → p < mid → mid ≤ q → q < b → c (f p) (f q) ≤ 0) : Srt c h a b ∧ Mv f h a b := by
  refine ⟨Srt.join (s1.congr fun k _ hk => m2.out (by omega)) s2 fun p q hp hp2 hq hq2 => ?_, (m1.mono (Nat.le_refl _) h2).trans (m2.mono h1 (Nat.le_refl _))⟩
  rw [m2.out (by omega)]
  obtain ⟨j, hj1, hj2, e⟩ := m1.inn hp hp2
  obtain ⟨j', hj1', hj2', e'⟩ := m2.inn hq hq2
  rw [e, e', m1.out (by omega)]
  exact hx j j' hj1 hj2 hj1' hj2'

omit T in
/-- One put ahead of its place, the others behind it one further. -/
theorem shl_step {f g : Nat → α} {a k : Nat} (h : g = fun p => if a ≤ p ∧ p < k then f (p + 1) else if p = k then f a else f p) (hk : a ≤ k) :
    upd (upd g k (g (k + 1))) (k + 1) (g k) = fun p => if a ≤ p ∧ p < k + 1 then f (p + 1) else if p = k + 1 then f a else f p := by
  have e1 : g (k + 1) = f (k + 1) := by rw [h]; simp only []; rw [if_neg (by omega), if_neg (by omega)]
  have e2 : g k = f a := by rw [h]; simp
  rw [e1, e2]
  funext p
  simp only [upd_at]
  by_cases h1 : p = k + 1
  · rw [if_pos h1, if_neg (by omega), if_pos h1]
  · rw [if_neg h1]
    by_cases h2 : p = k
    · rw [if_pos h2, if_pos (by omega), h2]
    · rw [if_neg h2, h]
      simp only []
      by_cases h3 : a ≤ p ∧ p < k
      · rw [if_pos h3, if_pos (by omega)]
      · rw [if_neg h3, if_neg h2, if_neg (by omega), if_neg h1]
omit T in
theorem shr_step {f g : Nat → α} {m k : Nat} (h : g = fun p => if k < p ∧ p ≤ m then f (p - 1) else if p = k then f m else f p) (h0 : 0 < k) (hk : k ≤ m) :
    upd (upd g k (g (k - 1))) (k - 1) (g k) = fun p => if k - 1 < p ∧ p ≤ m then f (p - 1) else if p = k - 1 then f m else f p := by
  have e1 : g (k - 1) = f (k - 1) := by rw [h]; simp only []; rw [if_neg (by omega), if_neg (by omega)]
  have e2 : g k = f m := by rw [h]; simp
  rw [e1, e2]
  funext p
  simp only [upd_at]
  by_cases h1 : p = k - 1
  · rw [if_pos h1, if_neg (by omega), if_pos h1]
  · rw [if_neg h1]
    by_cases h2 : p = k
    · rw [if_pos h2, if_pos (by omega), h2]
    · rw [if_neg h2, h]
      simp only []
      by_cases h3 : k < p ∧ p ≤ m
      · rw [if_pos h3, if_pos (by omega)]
      · rw [if_neg h3, if_neg h2, if_neg (by omega), if_neg h1]
theorem shl_srt {f : Nat → α} {a b i : Nat} (hB : Srt c f (a + 1) b) (h1 : a + 1 ≤ i) (h2 : i ≤ b) (h3 : ∀ k, a + 1 ≤ k → k < i → c (f k) (f a) < 0) (h4 : ∀ k, i ≤ k → k < b → ¬ c (f k) (f a) < 0) :
    Srt c (fun p => if a ≤ p ∧ p < i - 1 then f (p + 1) else if p = i - 1 then f a else f p) a b := by
  intro p q hp hq hh
  simp only []
  repeat' split
  all_goals first
    | omega
    | exact hB _ _ (by omega) (by omega) (by omega)
    | (have := h3 (p + 1) (by omega) (by omega); omega)
    | exact le_of_not T (h4 _ (by omega) (by omega))
theorem shr_srt {f : Nat → α} {a m i : Nat} (hA : Srt c f a m) (h1 : a ≤ i) (h2 : i ≤ m) (h3 : ∀ k, a ≤ k → k < i → ¬ c (f m) (f k) < 0) (h4 : ∀ k, i ≤ k → k < m → c (f m) (f k) < 0) :
    Srt c (fun p => if i < p ∧ p ≤ m then f (p - 1) else if p = i then f m else f p) a (m + 1) := by
  intro p q hp hq hh
  simp only []
  repeat' split
  all_goals first
    | omega
    | exact hA _ _ (by omega) (by omega) (by omega)
    | (have := h4 (q - 1) (by omega) (by omega); omega)
    | exact le_of_not T (h3 _ (by omega) (by omega))
end

/-- A search that halves: told by its rounds. -/
theorem halves {R : Type} (V : Nat → Nat → R) (D : Nat → R) (Q : Nat → Prop) (lo hi : Nat)
    (hV : ∀ i j, lo ≤ i → i < j → j ≤ hi → (Q ((i + j) / 2) → V i j = V ((i + j) / 2 + 1) j) ∧ (¬ Q ((i + j) / 2) → V i j = V i ((i + j) / 2)))
    (hD : ∀ i, lo ≤ i → i ≤ hi → V i i = D i) (mono : ∀ p q, lo ≤ p → p < q → q < hi → Q q → Q p) :
    ∀ k i j, j - i ≤ k → lo ≤ i → i ≤ j → j ≤ hi → (∀ p, lo ≤ p → p < i → Q p) → (∀ p, j ≤ p → p < hi → ¬ Q p) →
      ∃ i', V i j = D i' ∧ lo ≤ i' ∧ i' ≤ hi ∧ (∀ p, lo ≤ p → p < i' → Q p) ∧ (∀ p, i' ≤ p → p < hi → ¬ Q p) := by
  intro k
  induction k with
  | zero =>
    intro i j h h1 h2 h3 h4 h5
    have e : i = j := by omega
    subst e
    exact ⟨i, hD i h1 h3, h1, h3, h4, h5⟩
  | succ k ih =>
    intro i j h h1 h2 h3 h4 h5
    by_cases e : i = j
    · subst e
      exact ⟨i, hD i h1 h3, h1, h3, h4, h5⟩
    · have hm1 : i ≤ (i + j) / 2 := by omega
      have hm2 : (i + j) / 2 < j := by omega
      obtain ⟨s1, s2⟩ := hV i j h1 (by omega) h3
      by_cases q : Q ((i + j) / 2)
      · rw [s1 q]
        refine ih _ _ (by omega) (by omega) (by omega) h3 (fun p hp hp2 => ?_) h5
        by_cases e : p = (i + j) / 2
        · rw [e]; exact q
        · exact mono p _ hp (by omega) (by omega) q
      · rw [s2 q]
        refine ih _ _ (by omega) h1 hm1 (by omega) h4 (fun p hp hp2 hq => ?_)
        by_cases e : p = (i + j) / 2
        · rw [e] at hq; exact q hq
        · exact q (mono _ p (by omega) (by omega) hp2 hq)
end Go.Pv

/- Own rows of rows, as functions; whole numbers as they are reckoned with. No program in sight. -/
set_option linter.unusedSimpArgs false
set_option linter.unusedVariables false
namespace Go.Pv
section
variable {β : Type} (C : Cod β)
/-- An own row of rows. -/
def oA (f : Nat → List β) (n : Nat) : List PV := (List.range n).map fun i => .sl (rOf C (f i)) .non
@[simp] theorem oA_len (f : Nat → List β) (n : Nat) : (oA C f n).length = n := by simp [oA]
theorem oA_get {f : Nat → List β} {n i : Nat} (h : i < n) : (oA C f n)[i]? = some (.sl (rOf C (f i)) .non) := by simp [oA, h]
theorem oA_getD {f : Nat → List β} {n i : Nat} (h : i < n) : (oA C f n).getD i .top = .sl (rOf C (f i)) .non := by simp [List.getD, oA_get C h]
theorem cRow_oA {f : Nat → List β} {n i : Nat} (h : i < n) : cRow (oA C f n) i 0 = rOf C (f i) := by simp only [cRow, Nat.add_zero, oA_getD C h]
theorem okCell_oA {f : Nat → List β} {n i : Nat} (h : i < n) : okCell [.sl [] .full] (oA C f n) i = true := by
  have h1 : (oA C f n).drop i = .sl (rOf C (f i)) .non :: (oA C f n).drop (i + 1) := by
    rw [List.drop_eq_getElem_cons (by simpa using h)]
    congr 1
    have := oA_get C (f := f) h
    rw [List.getElem?_eq_getElem (by simpa using h)] at this
    exact Option.some.inj this
  simp only [okCell, List.length_cons, List.length_nil, Nat.zero_add, h1, List.take_succ_cons, List.take_zero, oA_len, cSel, cCell, cRow_oA C h]
  simp
  omega
theorem okOff_oA {f : Nat → List β} {n i : Nat} (h : i < n) : okOff (oA C f n) i 1 = true := by simp [okOff]; omega
theorem putC_oA {f : Nat → List β} {n i : Nat} (x : List β) (h : i < n) : putC (oA C f n) i [.sl (rOf C x) .non] = oA C (upd f i x) n := by
  apply List.ext_getElem?
  intro k
  have e : putC (oA C f n) i [.sl (rOf C x) .non] = (oA C f n).set i (.sl (rOf C x) .non) := by
    simp only [putC, List.length_cons, List.length_nil, Nat.zero_add]
    rw [List.set_eq_take_append_cons_drop, if_pos (by simpa using h)]
    simp
  rw [e, List.getElem?_set]
  by_cases hk : k < n
  · by_cases hi : i = k
    · subst hi
      simp [h, oA, upd]
    · rw [if_neg hi, oA_get C hk, oA_get C hk, upd_at, if_neg (by omega)]
  · have : ¬ i = k := by omega
    rw [if_neg this, List.getElem?_eq_none (by simp; omega), List.getElem?_eq_none (by simp; omega)]
theorem oA_congr {f g : Nat → List β} {n : Nat} (h : ∀ k, k < n → f k = g k) : oA C f n = oA C g n := by
  apply List.map_congr_left
  intro k hk
  rw [h k (by simpa using hk)]
/-- A row as an own row. -/
theorem oA_of (l : List (List β)) : oA C (fun i => l.getD i []) l.length = l.map fun x => .sl (rOf C x) .non := by
  apply List.ext_getElem?
  intro k
  by_cases hk : k < l.length
  · rw [oA_get C hk]; simp [hk]
  · rw [List.getElem?_eq_none (by simp; omega), List.getElem?_eq_none (by simp; omega)]
end

/-! ### whole numbers -/
theorem add_N {a b : Nat} (h : a + b ≤ 9223372036854775807) : iAdd .i64 (a : Int) (b : Int) = ((a + b : Nat) : Int) := by
  unfold iAdd; rw [wrap_i64 (by omega)]; omega
theorem add_N1 {a : Nat} (h : a < 9223372036854775807) : iAdd .i64 (a : Int) 1 = ((a + 1 : Nat) : Int) := inc_i64 h
theorem add_1N {a : Nat} (h : a < 9223372036854775807) : iAdd .i64 1 (a : Int) = ((1 + a : Nat) : Int) := by
  unfold iAdd; rw [wrap_i64 (by omega)]; omega
theorem sub_N {a b : Nat} (h : b ≤ a) (h2 : a ≤ 9223372036854775807) : iSub .i64 (a : Int) (b : Int) = ((a - b : Nat) : Int) := by
  unfold iSub; rw [wrap_i64 (by omega)]; omega
theorem sub_N1 {a : Nat} (h : 1 ≤ a) (h2 : a ≤ 9223372036854775807) : iSub .i64 (a : Int) 1 = ((a - 1 : Nat) : Int) := by
  unfold iSub; rw [wrap_i64 (by omega)]; omega
theorem okIx_N (a n : Nat) : okIx (a : Int) n = decide (a < n) := by unfold okIx; simp
theorem nNat_N (a : Nat) : nNat (a : Int) = a := by unfold nNat; simp
theorem pOff_01 (a : Nat) : pOff 0 a 1 = a := by unfold pOff; omega
theorem iLt_N (a b : Nat) : iLt (a : Int) (b : Int) = decide (a < b) := by unfold iLt; simp
theorem iLe_N (a b : Nat) : iLe (a : Int) (b : Int) = decide (a ≤ b) := by unfold iLe; simp
theorem iEq_N (a b : Nat) : iEq (a : Int) (b : Int) = decide (a = b) := by
  unfold iEq
  by_cases h : a = b
  · simp [h]
  · have : (a : Int) ≠ b := by omega
    simp [h, this]
theorem iNe_N (a b : Nat) : iNe (a : Int) (b : Int) = decide (a ≠ b) := by
  unfold iNe
  by_cases h : a = b
  · simp [h]
  · have : (a : Int) ≠ b := by omega
    simp [h, this]
theorem iEq_N1 (a : Nat) : iEq (a : Int) 1 = decide (a = 1) := iEq_N a 1
theorem half_N {a b : Nat} (h : a + b ≤ 9223372036854775807) : iWrap .i64 (iShr .u64 (iWrap .u64 (iAdd .i64 (a : Int) (b : Int))) 1) = (((a + b) / 2 : Nat) : Int) := by
  rw [add_N h]
  have e1 : iWrap .u64 ((a + b : Nat) : Int) = ((a + b : Nat) : Int) := by
    unfold iWrap; exact wrap_u64 (by omega)
  rw [e1]
  have e2 : iShr .u64 ((a + b : Nat) : Int) 1 = (((a + b) / 2 : Nat) : Int) := by
    unfold iShr
    have : (2 : Int) ^ min (Int.toNat 1) (IntKind.bits .u64) = 2 := rfl
    rw [this, Int.fdiv_eq_ediv_of_nonneg _ (by omega)]
    omega
  rw [e2]
  unfold iWrap
  exact wrap_i64 (by omega)
/-- Rows that grow from nothing become own rows. -/
theorem gamOk_flag {P : Go.Program} {gl : Nat → Option Go.Obj} {l : List (Go.FuncId × ConT)} (hl : GamOk P gl (gam (ofL l))) : GamOk P gl (gam (ofL ((objKey, .flag) :: l))) := gamOk_con (K := .flag) trivial hl
end Go.Pv

set_option maxHeartbeats 4000000
set_option maxRecDepth 200000
set_option linter.unusedSimpArgs false
set_option linter.unusedVariables false
namespace Go.Pv
open Go Go.Proofs
noncomputable def G_ckr : GamT := ofL [(16, .pure F_TCmp), (36, .pure F_TCheck)]
theorem gok_ckr (gl : Nat → Option Obj) : GamOk Tryd.prog gl (gam G_ckr) := (gamOk_cons (sim_TCmp gl) (gamOk_cons (sim_TCheck gl) gamOk_nil))
noncomputable def c_ckr1 : Code := loopC Tryd.f35 4
noncomputable def c_ckr2 : Code := loopC Tryd.f35 11
def I_ckr1 : LI := ⟨57, [0, 10, 11, 12], fun e => match e with | .ret => [2] | .exit 0 => [0] | _ => [], false⟩
noncomputable def LI_ckr1 : LpsT := fun r fr σ => .fail
noncomputable def ckr1_V (vs : List PV) (σ : Store) : Option (PExit × List PV × Store) := lval (lstep tbT G_ckr LI_ckr1 c_ckr1 I_ckr1) vs σ
noncomputable def ckr1_Tr (l : Nat) (l2 : Nat) (o : Nat) (m : Nat) (n : Int) (n2 : Int) (l3 : List PV) (rest : List (List PV)) (toks : List (Nat × Nat × TypeId)) (tys : List TypeId) : Tr LR := Tr.ite (iLt n2 n) (Tr.ite (okIx n2 m) (Tr.ite (okCell [PV.sl [] .full] l3 (pOff o (nNat n2) 1)) (Tr.ite (okR cV (lockLL (cRow l3 (pOff o (nNat n2) 1) 0))) (Tr.ite (iNe (chkT (lockLL (cRow l3 (pOff o (nNat n2) 1) 0))) 0) (Tr.ret (LR.out .ret [PV.int .i64 (chkT (lockLL (cRow l3 (pOff o (nNat n2) 1) 0)))] (Store.mk (l3 :: rest) toks (1000023 :: tys)))) (Tr.ret (LR.next [PV.osl 0 l l2 1, PV.osl 0 o m 1, PV.int .i64 n, PV.int .i64 (iAdd .i64 n2 1)] (Store.mk (l3 :: rest) toks (1000023 :: tys))))) Tr.fail) Tr.fail) Tr.fail) (Tr.ret (LR.out (.exit 0) [PV.osl 0 l l2 1] (Store.mk (l3 :: rest) toks (1000023 :: tys))))
theorem ckr1_T (l : Nat) (l2 : Nat) (o : Nat) (m : Nat) (n : Int) (n2 : Int) (l3 : List PV) (rest : List (List PV)) (toks : List (Nat × Nat × TypeId)) (tys : List TypeId) : lstep tbT G_ckr LI_ckr1 c_ckr1 I_ckr1 [.osl 0 l l2 1, .osl 0 o m 1, .int .i64 n, .int .i64 n2] ⟨(l3 :: rest), (toks), (1000023 :: tys)⟩ = ckr1_Tr l l2 o m n n2 l3 rest toks tys := by kernel_rfl
theorem ckr1_E (l : Nat) (l2 : Nat) (o : Nat) (m : Nat) (n : Int) (n2 : Int) (l3 : List PV) (rest : List (List PV)) (toks : List (Nat × Nat × TypeId)) (tys : List TypeId) : ckr1_V [.osl 0 l l2 1, .osl 0 o m 1, .int .i64 n, .int .i64 n2] ⟨(l3 :: rest), (toks), (1000023 :: tys)⟩ = lnext ckr1_V (ckr1_Tr l l2 o m n n2 l3 rest toks tys).run := by unfold ckr1_V; rw [lval_eq, ckr1_T]
noncomputable def ckr1_W (l : Nat) (l2 : Nat) (o : Nat) (m : Nat) (n : Int) (n2 : Int) (l3 : List PV) (rest : List (List PV)) (toks : List (Nat × Nat × TypeId)) (tys : List TypeId) : Option (PExit × List PV × Store) := ckr1_V [.osl 0 l l2 1, .osl 0 o m 1, .int .i64 n, .int .i64 n2] ⟨(l3 :: rest), (toks), (1000023 :: tys)⟩
noncomputable def ckr1_n_0 (l : Nat) (l2 : Nat) (o : Nat) (m : Nat) (n : Int) (n2 : Int) (l3 : List PV) (rest : List (List PV)) (toks : List (Nat × Nat × TypeId)) (tys : List TypeId) : Int := (gInt (gOut (ckr1_W l l2 o m n n2 l3 rest toks tys) 0))
noncomputable def ckr1_l_0 (l : Nat) (l2 : Nat) (o : Nat) (m : Nat) (n : Int) (n2 : Int) (l3 : List PV) (rest : List (List PV)) (toks : List (Nat × Nat × TypeId)) (tys : List TypeId) : List PV := (gObj (ckr1_W l l2 o m n n2 l3 rest toks tys) 0)
noncomputable def ckr1_is0 (l : Nat) (l2 : Nat) (o : Nat) (m : Nat) (n : Int) (n2 : Int) (l3 : List PV) (rest : List (List PV)) (toks : List (Nat × Nat × TypeId)) (tys : List TypeId) : Bool := isW (ckr1_W l l2 o m n n2 l3 rest toks tys) (.ret, [.int .i64 (ckr1_n_0 l l2 o m n n2 l3 rest toks tys)], ⟨((ckr1_l_0 l l2 o m n n2 l3 rest toks tys) :: rest), (toks), (1000023 :: tys)⟩)
noncomputable def ckr1_l3_1 (l : Nat) (l2 : Nat) (o : Nat) (m : Nat) (n : Int) (n2 : Int) (l3 : List PV) (rest : List (List PV)) (toks : List (Nat × Nat × TypeId)) (tys : List TypeId) : List PV := (gObj (ckr1_W l l2 o m n n2 l3 rest toks tys) 0)
noncomputable def ckr1_is1 (l : Nat) (l2 : Nat) (o : Nat) (m : Nat) (n : Int) (n2 : Int) (l3 : List PV) (rest : List (List PV)) (toks : List (Nat × Nat × TypeId)) (tys : List TypeId) : Bool := isW (ckr1_W l l2 o m n n2 l3 rest toks tys) ((.exit 0), [.osl 0 l l2 1], ⟨((ckr1_l3_1 l l2 o m n n2 l3 rest toks tys) :: rest), (toks), (1000023 :: tys)⟩)
noncomputable def ckr1_prop : List PV → Store → Tr (PExit × List PV × Store) | [.osl 0 l l2 1, .osl 0 o m 1, .int .i64 n, .int .i64 n2], ⟨(l3 :: rest), (toks), (1000023 :: tys)⟩ => .ite (ckr1_is0 l l2 o m n n2 l3 rest toks tys) (.ret (.ret, [.int .i64 (ckr1_n_0 l l2 o m n n2 l3 rest toks tys)], ⟨((ckr1_l_0 l l2 o m n n2 l3 rest toks tys) :: rest), (toks), (1000023 :: tys)⟩)) (.ite (ckr1_is1 l l2 o m n n2 l3 rest toks tys) (.ret ((.exit 0), [.osl 0 l l2 1], ⟨((ckr1_l3_1 l l2 o m n n2 l3 rest toks tys) :: rest), (toks), (1000023 :: tys)⟩)) (.fail)) | _, _ => .fail
theorem ckr1_ok : ∀ vs σ r, (ckr1_prop vs σ).run = some r → ckr1_V vs σ = some r := by
  intro vs σ r h
  unfold ckr1_prop at h
  split at h
  · exact ite_isW h fun h => ite_isW h fun h => by cases h
  · cases h
theorem loop_ckr1 (gl : Nat → Option Obj) : ∀ fr σ e fr' σ', (orc I_ckr1 ckr1_prop fr σ).run = some (e, fr', σ') → LDoes Tryd.prog gl c_ckr1 fr σ e fr' σ' := orc_ok tbT_ok (gok_ckr gl ) noMixed (L := LI_ckr1) (loopOk_none (by kernel_rfl)) (by kernel_rfl) ckr1_ok
def I_ckr2 : LI := ⟨57, [0, 23, 24], fun e => match e with | .ret => [2] | .exit 2 => [] | _ => [], false⟩
noncomputable def LI_ckr2 : LpsT := fun r fr σ => .fail
noncomputable def ckr2_V (vs : List PV) (σ : Store) : Option (PExit × List PV × Store) := lval (lstep tbT G_ckr LI_ckr2 c_ckr2 I_ckr2) vs σ
noncomputable def ckr2_Tr (l : Nat) (l2 : Nat) (n : Int) (n2 : Int) (l3 : List PV) (rest : List (List PV)) (toks : List (Nat × Nat × TypeId)) (tys : List TypeId) : Tr LR := Tr.ite (iLt n2 n) (Tr.ite (iLt 0 n2) (Tr.ite (okIx (iSub .i64 n2 1) l2) (Tr.ite (okCell [PV.sl [] .full] l3 (pOff l (nNat (iSub .i64 n2 1)) 1)) (Tr.ite (okIx n2 l2) (Tr.ite (okCell [PV.sl [] .full] l3 (pOff l (nNat n2) 1)) (Tr.ite (iNe (xLen (cRow l3 (pOff l (nNat (iSub .i64 n2 1)) 1) 0)) (xLen (cRow l3 (pOff l (nNat n2) 1) 0))) (Tr.ret (LR.out .ret [PV.int .i64 21] (Store.mk (l3 :: rest) toks (1000023 :: tys)))) (Tr.ite (okIx (iSub .i64 n2 1) l2) (Tr.ite (okCell [PV.sl [] .full] l3 (pOff l (nNat (iSub .i64 n2 1)) 1)) (Tr.ite (okIx n2 l2) (Tr.ite (okCell [PV.sl [] .full] l3 (pOff l (nNat n2) 1)) (Tr.ite (okR cV (lockLL (lockLL (cRow l3 (pOff l (nNat (iSub .i64 n2 1)) 1) 0)))) (Tr.ite (okR cV (lockLL (lockLL (cRow l3 (pOff l (nNat n2) 1) 0)))) (Tr.ite (iLe 0 (cmpTV (lockLL (lockLL (cRow l3 (pOff l (nNat (iSub .i64 n2 1)) 1) 0))) (lockLL (lockLL (cRow l3 (pOff l (nNat n2) 1) 0))))) (Tr.ret (LR.out .ret [PV.int .i64 21] (Store.mk (l3 :: rest) toks (1000023 :: tys)))) (Tr.ret (LR.next [PV.osl 0 l l2 1, PV.int .i64 n, PV.int .i64 (iAdd .i64 n2 1)] (Store.mk (l3 :: rest) toks (1000023 :: tys))))) Tr.fail) Tr.fail) Tr.fail) Tr.fail) Tr.fail) Tr.fail)) Tr.fail) Tr.fail) Tr.fail) Tr.fail) (Tr.ret (LR.next [PV.osl 0 l l2 1, PV.int .i64 n, PV.int .i64 (iAdd .i64 n2 1)] (Store.mk (l3 :: rest) toks (1000023 :: tys))))) (Tr.ret (LR.out (.exit 2) [] (Store.mk (l3 :: rest) toks (1000023 :: tys))))
theorem ckr2_T (l : Nat) (l2 : Nat) (n : Int) (n2 : Int) (l3 : List PV) (rest : List (List PV)) (toks : List (Nat × Nat × TypeId)) (tys : List TypeId) : lstep tbT G_ckr LI_ckr2 c_ckr2 I_ckr2 [.osl 0 l l2 1, .int .i64 n, .int .i64 n2] ⟨(l3 :: rest), (toks), (1000023 :: tys)⟩ = ckr2_Tr l l2 n n2 l3 rest toks tys := by kernel_rfl
theorem ckr2_E (l : Nat) (l2 : Nat) (n : Int) (n2 : Int) (l3 : List PV) (rest : List (List PV)) (toks : List (Nat × Nat × TypeId)) (tys : List TypeId) : ckr2_V [.osl 0 l l2 1, .int .i64 n, .int .i64 n2] ⟨(l3 :: rest), (toks), (1000023 :: tys)⟩ = lnext ckr2_V (ckr2_Tr l l2 n n2 l3 rest toks tys).run := by unfold ckr2_V; rw [lval_eq, ckr2_T]
noncomputable def ckr2_W (l : Nat) (l2 : Nat) (n : Int) (n2 : Int) (l3 : List PV) (rest : List (List PV)) (toks : List (Nat × Nat × TypeId)) (tys : List TypeId) : Option (PExit × List PV × Store) := ckr2_V [.osl 0 l l2 1, .int .i64 n, .int .i64 n2] ⟨(l3 :: rest), (toks), (1000023 :: tys)⟩
noncomputable def ckr2_n_0 (l : Nat) (l2 : Nat) (n : Int) (n2 : Int) (l3 : List PV) (rest : List (List PV)) (toks : List (Nat × Nat × TypeId)) (tys : List TypeId) : Int := (gInt (gOut (ckr2_W l l2 n n2 l3 rest toks tys) 0))
noncomputable def ckr2_l_0 (l : Nat) (l2 : Nat) (n : Int) (n2 : Int) (l3 : List PV) (rest : List (List PV)) (toks : List (Nat × Nat × TypeId)) (tys : List TypeId) : List PV := (gObj (ckr2_W l l2 n n2 l3 rest toks tys) 0)
noncomputable def ckr2_is0 (l : Nat) (l2 : Nat) (n : Int) (n2 : Int) (l3 : List PV) (rest : List (List PV)) (toks : List (Nat × Nat × TypeId)) (tys : List TypeId) : Bool := isW (ckr2_W l l2 n n2 l3 rest toks tys) (.ret, [.int .i64 (ckr2_n_0 l l2 n n2 l3 rest toks tys)], ⟨((ckr2_l_0 l l2 n n2 l3 rest toks tys) :: rest), (toks), (1000023 :: tys)⟩)
noncomputable def ckr2_l_1 (l : Nat) (l2 : Nat) (n : Int) (n2 : Int) (l3 : List PV) (rest : List (List PV)) (toks : List (Nat × Nat × TypeId)) (tys : List TypeId) : List PV := (gObj (ckr2_W l l2 n n2 l3 rest toks tys) 0)
noncomputable def ckr2_is1 (l : Nat) (l2 : Nat) (n : Int) (n2 : Int) (l3 : List PV) (rest : List (List PV)) (toks : List (Nat × Nat × TypeId)) (tys : List TypeId) : Bool := isW (ckr2_W l l2 n n2 l3 rest toks tys) ((.exit 2), [], ⟨((ckr2_l_1 l l2 n n2 l3 rest toks tys) :: rest), (toks), (1000023 :: tys)⟩)
noncomputable def ckr2_prop : List PV → Store → Tr (PExit × List PV × Store) | [.osl 0 l l2 1, .int .i64 n, .int .i64 n2], ⟨(l3 :: rest), (toks), (1000023 :: tys)⟩ => .ite (ckr2_is0 l l2 n n2 l3 rest toks tys) (.ret (.ret, [.int .i64 (ckr2_n_0 l l2 n n2 l3 rest toks tys)], ⟨((ckr2_l_0 l l2 n n2 l3 rest toks tys) :: rest), (toks), (1000023 :: tys)⟩)) (.ite (ckr2_is1 l l2 n n2 l3 rest toks tys) (.ret ((.exit 2), [], ⟨((ckr2_l_1 l l2 n n2 l3 rest toks tys) :: rest), (toks), (1000023 :: tys)⟩)) (.fail)) | _, _ => .fail
theorem ckr2_ok : ∀ vs σ r, (ckr2_prop vs σ).run = some r → ckr2_V vs σ = some r := by
  intro vs σ r h
  unfold ckr2_prop at h
  split at h
  · exact ite_isW h fun h => ite_isW h fun h => by cases h
  · cases h
theorem loop_ckr2 (gl : Nat → Option Obj) : ∀ fr σ e fr' σ', (orc I_ckr2 ckr2_prop fr σ).run = some (e, fr', σ') → LDoes Tryd.prog gl c_ckr2 fr σ e fr' σ' := orc_ok tbT_ok (gok_ckr gl ) noMixed (L := LI_ckr2) (loopOk_none (by kernel_rfl)) (by kernel_rfl) ckr2_ok
noncomputable def L_ckr : LpsT := fun r fr σ => bif Nat.beq r 4 then orc I_ckr1 ckr1_prop fr σ else bif Nat.beq r 11 then orc I_ckr2 ckr2_prop fr σ else .fail
noncomputable def ckr_Tr (off : Nat) (len : Nat) (cs : List PV) (rest : List (List PV)) (toks : List (Nat × Nat × TypeId)) (tys : List TypeId) : Tr (PV × Store) := Tr.ite (iLt 65536 (oLen len)) (Tr.ret (PV.int .i64 3, Store.mk (cs :: rest) toks (1000023 :: tys))) (Tr.ite (ckr1_is0 off len off len (oLen len) 0 cs rest toks tys) (Tr.ret (PV.int .i64 (ckr1_n_0 off len off len (oLen len) 0 cs rest toks tys), Store.mk (ckr1_l_0 off len off len (oLen len) 0 cs rest toks tys :: rest) toks (1000023 :: tys))) (Tr.ite (ckr1_is1 off len off len (oLen len) 0 cs rest toks tys) (Tr.ite (ckr2_is0 off len (oLen len) 0 (ckr1_l3_1 off len off len (oLen len) 0 cs rest toks tys) rest toks tys) (Tr.ret (PV.int .i64 (ckr2_n_0 off len (oLen len) 0 (ckr1_l3_1 off len off len (oLen len) 0 cs rest toks tys) rest toks tys), Store.mk (ckr2_l_0 off len (oLen len) 0 (ckr1_l3_1 off len off len (oLen len) 0 cs rest toks tys) rest toks tys :: rest) toks (1000023 :: tys))) (Tr.ite (ckr2_is1 off len (oLen len) 0 (ckr1_l3_1 off len off len (oLen len) 0 cs rest toks tys) rest toks tys) (Tr.ret (PV.int .i64 0, Store.mk (ckr2_l_1 off len (oLen len) 0 (ckr1_l3_1 off len off len (oLen len) 0 cs rest toks tys) rest toks tys :: rest) toks (1000023 :: tys))) Tr.fail)) Tr.fail))
theorem ckr_T (off : Nat) (len : Nat) (cs : List PV) (rest : List (List PV)) (toks : List (Nat × Nat × TypeId)) (tys : List TypeId) : (tcallS tbT G_ckr L_ckr Tryd.f35 [.osl 0 off len 1] ⟨cs :: rest, toks, 1000023 :: tys⟩).flat = ckr_Tr off len cs rest toks tys := by kernel_rfl
noncomputable def ckr_W (off : Nat) (len : Nat) (cs : List PV) (rest : List (List PV)) (toks : List (Nat × Nat × TypeId)) (tys : List TypeId) : Option (PV × Store) := (ckr_Tr off len cs rest toks tys).run
noncomputable def ckr_n (off : Nat) (len : Nat) (cs : List PV) (rest : List (List PV)) (toks : List (Nat × Nat × TypeId)) (tys : List TypeId) : Int := (gInt (gOut (asOut (ckr_W off len cs rest toks tys)) 0))
noncomputable def ckr_l (off : Nat) (len : Nat) (cs : List PV) (rest : List (List PV)) (toks : List (Nat × Nat × TypeId)) (tys : List TypeId) : List PV := (gObj (asOut (ckr_W off len cs rest toks tys)) 0)
noncomputable def ckr_is0 (off : Nat) (len : Nat) (cs : List PV) (rest : List (List PV)) (toks : List (Nat × Nat × TypeId)) (tys : List TypeId) : Bool := isW (ckr_W off len cs rest toks tys) (.int .i64 (ckr_n off len cs rest toks tys), ⟨((ckr_l off len cs rest toks tys) :: rest), (toks), (1000023 :: tys)⟩)
noncomputable def D_ckr : List PV → Store → Tr (PV × Store) | [.osl 0 off len 1], ⟨cs :: rest, toks, 1000023 :: tys⟩ => .ite (ckr_is0 off len cs rest toks tys) (.ret (.int .i64 (ckr_n off len cs rest toks tys), ⟨((ckr_l off len cs rest toks tys) :: rest), (toks), (1000023 :: tys)⟩)) (.fail) | _, _ => .fail
theorem sim_ckr (gl : Nat → Option Obj) : SimS Tryd.prog gl 35 fun args σ => (D_ckr args σ).run := by
  refine SimS.of_flat (G := G_ckr) (L := L_ckr) tbT_ok (gok_ckr gl ) noMixed Tryd.func35 rfl (by rfl) (by kernel_rfl) (loopOk_all (L := lps L_ckr) [(4, c_ckr1), (11, c_ckr2)] (by kernel_rfl) (List.forall_mem_cons.2 ⟨fun fr σ e fr' σ' h => loop_ckr1 gl  fr σ e fr' σ' h, (List.forall_mem_cons.2 ⟨fun fr σ e fr' σ' h => loop_ckr2 gl  fr σ e fr' σ' h, (List.forall_mem_nil _)⟩)⟩)) ?_
  intro args σ x h
  unfold D_ckr at h
  split at h
  · exact (congrArg Tr.run (ckr_T _ _ _ _ _ _)).trans (ite_isW h fun h => by cases h)
  · cases h
end Go.Pv

set_option maxHeartbeats 4000000
set_option maxRecDepth 200000
set_option linter.unusedSimpArgs false
set_option linter.unusedVariables false
namespace Go.Pv
open Go Go.Proofs
noncomputable def G_RM0 : GamT := ofL [(19, .pure F_Find), (29, .pure F_RPat)]
theorem gok_RM0 (gl : Nat → Option Obj) : GamOk Tryd.prog gl (gam G_RM0) := (gamOk_cons (sim_Find gl) (gamOk_cons (sim_RPat gl) gamOk_nil))
noncomputable def c_RM01 : Code := loopC Tryd.f27 5
def I_RM01 : LI := ⟨99, [0, 1, 6, 7], fun e => match e with | .ret => [4, 5] | .exit 0 => [6] | _ => [], true⟩
noncomputable def LI_RM01 : LpsT := fun r fr σ => .fail
noncomputable def RM01_V (vs : List PV) (σ : Store) : Option (PExit × List PV × Store) := lval (lstep tbT G_RM0 LI_RM01 c_RM01 I_RM01) vs σ
noncomputable def RM01_Tr (r : List (List PV)) (r2 : List (List PV)) (r3 : List (List PV)) (n : Int) : Tr LR := Tr.ite (iLt n (xLen r)) (Tr.ite (okPos n) (Tr.ite (okGet [PV.int .i64 0, PV.str [], PV.int .i64 0, PV.int .i64 0, PV.str []] r (nNat n)) (Tr.ite (okR cB (lockLL r3)) (Tr.ite (okPos n) (Tr.ite (okGet [PV.int .i64 0, PV.str [], PV.int .i64 0, PV.int .i64 0, PV.str []] r (nNat n)) (Tr.ite (iEq (xInt r (nNat n) 0) 2) (Tr.ite (okPos n) (Tr.ite (okGet [PV.int .i64 0, PV.str [], PV.int .i64 0, PV.int .i64 0, PV.str []] r (nNat n)) (Tr.ite (okPos n) (Tr.ite (okGet [PV.int .i64 0, PV.int .i64 0, PV.str []] r2 (nNat n)) (Tr.ite (bNot (bAnd (iEq (xInt r (nNat n) 2) (xInt r2 (nNat n) 0)) (bAnd (iEq (xInt r (nNat n) 3) (xInt r2 (nNat n) 1)) (bAnd (sEq (xStr r (nNat n) 4) (xStr r2 (nNat n) 2)) true)))) (Tr.ret (LR.out .ret [PV.sl (dropPLL 0 []) .full, PV.bool false] (Store.mk [] [] []))) (Tr.ite (okPos n) (Tr.ite (okGet [PV.int .i64 0, PV.str [], PV.int .i64 0, PV.int .i64 0, PV.str []] r (nNat n)) (Tr.ite (iEq (xInt r (nNat n) 0) 1) (Tr.ite (fdO (lockLL r3) (xStr r (nNat n) 1)) (Tr.ite (okPos n) (Tr.ite (okGet [PV.int .i64 0, PV.int .i64 0, PV.str []] r2 (nNat n)) (Tr.ite (bNot (bAnd (iEq (fdK (lockLL r3) (xStr r (nNat n) 1)) (xInt r2 (nNat n) 0)) (bAnd (iEq (fdN (lockLL r3) (xStr r (nNat n) 1)) (xInt r2 (nNat n) 1)) (bAnd (sEq (fdS (lockLL r3) (xStr r (nNat n) 1)) (xStr r2 (nNat n) 2)) true)))) (Tr.ret (LR.out .ret [PV.sl (dropPLL 0 []) .full, PV.bool false] (Store.mk [] [] []))) (Tr.ite (okPos n) (Tr.ite (okGet [PV.int .i64 0, PV.str [], PV.int .i64 0, PV.int .i64 0, PV.str []] r (nNat n)) (Tr.ite (iEq (xInt r (nNat n) 0) 1) (Tr.ite (bNot (fdO (lockLL r3) (xStr r (nNat n) 1))) (Tr.ite (okPos n) (Tr.ite (okGet [PV.int .i64 0, PV.str [], PV.int .i64 0, PV.int .i64 0, PV.str []] r (nNat n)) (Tr.ite (okPos n) (Tr.ite (okGet [PV.int .i64 0, PV.int .i64 0, PV.str []] r2 (nNat n)) (Tr.ite (okGrow r3
 [[PV.str (xStr r (nNat n) 1), PV.int .i64 (xInt r2 (nNat n) 0), PV.int .i64 (xInt r2 (nNat n) 1), PV.str (xStr r2 (nNat n) 2)]] 48) (Tr.ite (okNews [[PV.str (xStr r (nNat n) 1), PV.int .i64 (xInt r2 (nNat n) 0), PV.int .i64 (xInt r2 (nNat n) 1), PV.str (xStr r2 (nNat n) 2)]] 4) (Tr.ite (okSize r3 4) (Tr.ret (LR.next [PV.sl (dropPLL 0 r) .non, PV.sl (dropPLL 0 r2) .non, PV.sl (dropPLL 0 (xApp r3 [[PV.str (xStr r (nNat n) 1), PV.int .i64 (xInt r2 (nNat n) 0), PV.int .i64 (xInt r2 (nNat n) 1), PV.str (xStr r2 (nNat n) 2)]])) (.tok 0), PV.int .i64 (iAdd .i64 n 1)] (Store.mk [] [(nXs (xApp r3 [[PV.str (xStr r (nNat n) 1), PV.int .i64 (xInt r2 (nNat n) 0), PV.int .i64 (xInt r2 (nNat n) 1), PV.str (xStr r2 (nNat n) 2)]]), 4, 74)] []))) Tr.fail) Tr.fail) Tr.fail) Tr.fail) Tr.fail) Tr.fail) Tr.fail) (Tr.ret (LR.next [PV.sl (dropPLL 0 r) .non, PV.sl (dropPLL 0 r2) .non, PV.sl (dropPLL 0 r3) .full, PV.int .i64 (iAdd .i64 n 1)] (Store.mk [] [] [])))) (Tr.ret (LR.next [PV.sl (dropPLL 0 r) .non, PV.sl (dropPLL 0 r2) .non, PV.sl (dropPLL 0 r3) .full, PV.int .i64 (iAdd .i64 n 1)] (Store.mk [] [] [])))) Tr.fail) Tr.fail)) Tr.fail) Tr.fail) (Tr.ite (okPos n) (Tr.ite (okGet [PV.int .i64 0, PV.str [], PV.int .i64 0, PV.int .i64 0, PV.str []] r (nNat n)) (Tr.ite (iEq (xInt r (nNat n) 0) 1) (Tr.ite (bNot (fdO (lockLL r3) (xStr r (nNat n) 1))) (Tr.ite (okPos n) (Tr.ite (okGet [PV.int .i64 0, PV.str [], PV.int .i64 0, PV.int .i64 0, PV.str []] r (nNat n)) (Tr.ite (okPos n) (Tr.ite (okGet [PV.int .i64 0, PV.int .i64 0, PV.str []] r2 (nNat n)) (Tr.ite (okGrow r3 [[PV.str (xStr r (nNat n) 1), PV.int .i64 (xInt r2 (nNat n) 0), PV.int .i64 (xInt r2 (nNat n) 1), PV.str (xStr r2 (nNat n) 2)]] 48) (Tr.ite (okNews [[PV.str (xStr r (nNat n) 1), PV.int .i64 (xInt r2 (nNat n) 0), PV.int .i64 (xInt r2 (nNat n) 1), PV.str (xStr r2 (nNat n) 2)]] 4) (Tr.ite (okSize r3 4) (Tr.ret (LR.next [PV.sl (dropPLL 0 r) .non, PV.sl (dropPLL 0 r2) .non, PV.sl (dropPLL 0 (xApp r3
 [[PV.str (xStr r (nNat n) 1), PV.int .i64 (xInt r2 (nNat n) 0), PV.int .i64 (xInt r2 (nNat n) 1), PV.str (xStr r2 (nNat n) 2)]])) (.tok 0), PV.int .i64 (iAdd .i64 n 1)] (Store.mk [] [(nXs (xApp r3 [[PV.str (xStr r (nNat n) 1), PV.int .i64 (xInt r2 (nNat n) 0), PV.int .i64 (xInt r2 (nNat n) 1), PV.str (xStr r2 (nNat n) 2)]]), 4, 74)] []))) Tr.fail) Tr.fail) Tr.fail) Tr.fail) Tr.fail) Tr.fail) Tr.fail) (Tr.ret (LR.next [PV.sl (dropPLL 0 r) .non, PV.sl (dropPLL 0 r2) .non, PV.sl (dropPLL 0 r3) .full, PV.int .i64 (iAdd .i64 n 1)] (Store.mk [] [] [])))) (Tr.ret (LR.next [PV.sl (dropPLL 0 r) .non, PV.sl (dropPLL 0 r2) .non, PV.sl (dropPLL 0 r3) .full, PV.int .i64 (iAdd .i64 n 1)] (Store.mk [] [] [])))) Tr.fail) Tr.fail)) (Tr.ite (okPos n) (Tr.ite (okGet [PV.int .i64 0, PV.str [], PV.int .i64 0, PV.int .i64 0, PV.str []] r (nNat n)) (Tr.ite (iEq (xInt r (nNat n) 0) 1) (Tr.ite (bNot (fdO (lockLL r3) (xStr r (nNat n) 1))) (Tr.ite (okPos n) (Tr.ite (okGet [PV.int .i64 0, PV.str [], PV.int .i64 0, PV.int .i64 0, PV.str []] r (nNat n)) (Tr.ite (okPos n) (Tr.ite (okGet [PV.int .i64 0, PV.int .i64 0, PV.str []] r2 (nNat n)) (Tr.ite (okGrow r3 [[PV.str (xStr r (nNat n) 1), PV.int .i64 (xInt r2 (nNat n) 0), PV.int .i64 (xInt r2 (nNat n) 1), PV.str (xStr r2 (nNat n) 2)]] 48) (Tr.ite (okNews [[PV.str (xStr r (nNat n) 1), PV.int .i64 (xInt r2 (nNat n) 0), PV.int .i64 (xInt r2 (nNat n) 1), PV.str (xStr r2 (nNat n) 2)]] 4) (Tr.ite (okSize r3 4) (Tr.ret (LR.next [PV.sl (dropPLL 0 r) .non, PV.sl (dropPLL 0 r2) .non, PV.sl (dropPLL 0 (xApp r3 [[PV.str (xStr r (nNat n) 1), PV.int .i64 (xInt r2 (nNat n) 0), PV.int .i64 (xInt r2 (nNat n) 1), PV.str (xStr r2 (nNat n) 2)]])) (.tok 0), PV.int .i64 (iAdd .i64 n 1)] (Store.mk [] [(nXs (xApp r3 [[PV.str (xStr r (nNat n) 1), PV.int .i64 (xInt r2 (nNat n) 0), PV.int .i64 (xInt r2 (nNat n) 1), PV.str (xStr r2 (nNat n) 2)]]), 4, 74)] []))) Tr.fail) Tr.fail) Tr.fail) Tr.fail) Tr.fail) Tr.fail) Tr.fail) (Tr.ret (LR.next
 [PV.sl (dropPLL 0 r) .non, PV.sl (dropPLL 0 r2) .non, PV.sl (dropPLL 0 r3) .full, PV.int .i64 (iAdd .i64 n 1)] (Store.mk [] [] [])))) (Tr.ret (LR.next [PV.sl (dropPLL 0 r) .non, PV.sl (dropPLL 0 r2) .non, PV.sl (dropPLL 0 r3) .full, PV.int .i64 (iAdd .i64 n 1)] (Store.mk [] [] [])))) Tr.fail) Tr.fail)) Tr.fail) Tr.fail)) Tr.fail) Tr.fail) Tr.fail) Tr.fail) (Tr.ite (okPos n) (Tr.ite (okGet [PV.int .i64 0, PV.str [], PV.int .i64 0, PV.int .i64 0, PV.str []] r (nNat n)) (Tr.ite (iEq (xInt r (nNat n) 0) 1) (Tr.ite (fdO (lockLL r3) (xStr r (nNat n) 1)) (Tr.ite (okPos n) (Tr.ite (okGet [PV.int .i64 0, PV.int .i64 0, PV.str []] r2 (nNat n)) (Tr.ite (bNot (bAnd (iEq (fdK (lockLL r3) (xStr r (nNat n) 1)) (xInt r2 (nNat n) 0)) (bAnd (iEq (fdN (lockLL r3) (xStr r (nNat n) 1)) (xInt r2 (nNat n) 1)) (bAnd (sEq (fdS (lockLL r3) (xStr r (nNat n) 1)) (xStr r2 (nNat n) 2)) true)))) (Tr.ret (LR.out .ret [PV.sl (dropPLL 0 []) .full, PV.bool false] (Store.mk [] [] []))) (Tr.ite (okPos n) (Tr.ite (okGet [PV.int .i64 0, PV.str [], PV.int .i64 0, PV.int .i64 0, PV.str []] r (nNat n)) (Tr.ite (iEq (xInt r (nNat n) 0) 1) (Tr.ite (bNot (fdO (lockLL r3) (xStr r (nNat n) 1))) (Tr.ite (okPos n) (Tr.ite (okGet [PV.int .i64 0, PV.str [], PV.int .i64 0, PV.int .i64 0, PV.str []] r (nNat n)) (Tr.ite (okPos n) (Tr.ite (okGet [PV.int .i64 0, PV.int .i64 0, PV.str []] r2 (nNat n)) (Tr.ite (okGrow r3 [[PV.str (xStr r (nNat n) 1), PV.int .i64 (xInt r2 (nNat n) 0), PV.int .i64 (xInt r2 (nNat n) 1), PV.str (xStr r2 (nNat n) 2)]] 48) (Tr.ite (okNews [[PV.str (xStr r (nNat n) 1), PV.int .i64 (xInt r2 (nNat n) 0), PV.int .i64 (xInt r2 (nNat n) 1), PV.str (xStr r2 (nNat n) 2)]] 4) (Tr.ite (okSize r3 4) (Tr.ret (LR.next [PV.sl (dropPLL 0 r) .non, PV.sl (dropPLL 0 r2) .non, PV.sl (dropPLL 0 (xApp r3 [[PV.str (xStr r (nNat n) 1), PV.int .i64 (xInt r2 (nNat n) 0), PV.int .i64 (xInt r2 (nNat n) 1), PV.str (xStr r2 (nNat n) 2)]])) (.tok 0), PV.int .i64 (iAdd .i64 n 1)] (Store.mk [] [(nXs (xApp r3
 [[PV.str (xStr r (nNat n) 1), PV.int .i64 (xInt r2 (nNat n) 0), PV.int .i64 (xInt r2 (nNat n) 1), PV.str (xStr r2 (nNat n) 2)]]), 4, 74)] []))) Tr.fail) Tr.fail) Tr.fail) Tr.fail) Tr.fail) Tr.fail) Tr.fail) (Tr.ret (LR.next [PV.sl (dropPLL 0 r) .non, PV.sl (dropPLL 0 r2) .non, PV.sl (dropPLL 0 r3) .full, PV.int .i64 (iAdd .i64 n 1)] (Store.mk [] [] [])))) (Tr.ret (LR.next [PV.sl (dropPLL 0 r) .non, PV.sl (dropPLL 0 r2) .non, PV.sl (dropPLL 0 r3) .full, PV.int .i64 (iAdd .i64 n 1)] (Store.mk [] [] [])))) Tr.fail) Tr.fail)) Tr.fail) Tr.fail) (Tr.ite (okPos n) (Tr.ite (okGet [PV.int .i64 0, PV.str [], PV.int .i64 0, PV.int .i64 0, PV.str []] r (nNat n)) (Tr.ite (iEq (xInt r (nNat n) 0) 1) (Tr.ite (bNot (fdO (lockLL r3) (xStr r (nNat n) 1))) (Tr.ite (okPos n) (Tr.ite (okGet [PV.int .i64 0, PV.str [], PV.int .i64 0, PV.int .i64 0, PV.str []] r (nNat n)) (Tr.ite (okPos n) (Tr.ite (okGet [PV.int .i64 0, PV.int .i64 0, PV.str []] r2 (nNat n)) (Tr.ite (okGrow r3 [[PV.str (xStr r (nNat n) 1), PV.int .i64 (xInt r2 (nNat n) 0), PV.int .i64 (xInt r2 (nNat n) 1), PV.str (xStr r2 (nNat n) 2)]] 48) (Tr.ite (okNews [[PV.str (xStr r (nNat n) 1), PV.int .i64 (xInt r2 (nNat n) 0), PV.int .i64 (xInt r2 (nNat n) 1), PV.str (xStr r2 (nNat n) 2)]] 4) (Tr.ite (okSize r3 4) (Tr.ret (LR.next [PV.sl (dropPLL 0 r) .non, PV.sl (dropPLL 0 r2) .non, PV.sl (dropPLL 0 (xApp r3 [[PV.str (xStr r (nNat n) 1), PV.int .i64 (xInt r2 (nNat n) 0), PV.int .i64 (xInt r2 (nNat n) 1), PV.str (xStr r2 (nNat n) 2)]])) (.tok 0), PV.int .i64 (iAdd .i64 n 1)] (Store.mk [] [(nXs (xApp r3 [[PV.str (xStr r (nNat n) 1), PV.int .i64 (xInt r2 (nNat n) 0), PV.int .i64 (xInt r2 (nNat n) 1), PV.str (xStr r2 (nNat n) 2)]]), 4, 74)] []))) Tr.fail) Tr.fail) Tr.fail) Tr.fail) Tr.fail) Tr.fail) Tr.fail) (Tr.ret (LR.next [PV.sl (dropPLL 0 r) .non, PV.sl (dropPLL 0 r2) .non, PV.sl (dropPLL 0 r3) .full, PV.int .i64 (iAdd .i64 n 1)] (Store.mk [] [] [])))) (Tr.ret
 (LR.next [PV.sl (dropPLL 0 r) .non, PV.sl (dropPLL 0 r2) .non, PV.sl (dropPLL 0 r3) .full, PV.int .i64 (iAdd .i64 n 1)] (Store.mk [] [] [])))) Tr.fail) Tr.fail)) (Tr.ite (okPos n) (Tr.ite (okGet [PV.int .i64 0, PV.str [], PV.int .i64 0, PV.int .i64 0, PV.str []] r (nNat n)) (Tr.ite (iEq (xInt r (nNat n) 0) 1) (Tr.ite (bNot (fdO (lockLL r3) (xStr r (nNat n) 1))) (Tr.ite (okPos n) (Tr.ite (okGet [PV.int .i64 0, PV.str [], PV.int .i64 0, PV.int .i64 0, PV.str []] r (nNat n)) (Tr.ite (okPos n) (Tr.ite (okGet [PV.int .i64 0, PV.int .i64 0, PV.str []] r2 (nNat n)) (Tr.ite (okGrow r3 [[PV.str (xStr r (nNat n) 1), PV.int .i64 (xInt r2 (nNat n) 0), PV.int .i64 (xInt r2 (nNat n) 1), PV.str (xStr r2 (nNat n) 2)]] 48) (Tr.ite (okNews [[PV.str (xStr r (nNat n) 1), PV.int .i64 (xInt r2 (nNat n) 0), PV.int .i64 (xInt r2 (nNat n) 1), PV.str (xStr r2 (nNat n) 2)]] 4) (Tr.ite (okSize r3 4) (Tr.ret (LR.next [PV.sl (dropPLL 0 r) .non, PV.sl (dropPLL 0 r2) .non, PV.sl (dropPLL 0 (xApp r3 [[PV.str (xStr r (nNat n) 1), PV.int .i64 (xInt r2 (nNat n) 0), PV.int .i64 (xInt r2 (nNat n) 1), PV.str (xStr r2 (nNat n) 2)]])) (.tok 0), PV.int .i64 (iAdd .i64 n 1)] (Store.mk [] [(nXs (xApp r3 [[PV.str (xStr r (nNat n) 1), PV.int .i64 (xInt r2 (nNat n) 0), PV.int .i64 (xInt r2 (nNat n) 1), PV.str (xStr r2 (nNat n) 2)]]), 4, 74)] []))) Tr.fail) Tr.fail) Tr.fail) Tr.fail) Tr.fail) Tr.fail) Tr.fail) (Tr.ret (LR.next [PV.sl (dropPLL 0 r) .non, PV.sl (dropPLL 0 r2) .non, PV.sl (dropPLL 0 r3) .full, PV.int .i64 (iAdd .i64 n 1)] (Store.mk [] [] [])))) (Tr.ret (LR.next [PV.sl (dropPLL 0 r) .non, PV.sl (dropPLL 0 r2) .non, PV.sl (dropPLL 0 r3) .full, PV.int .i64 (iAdd .i64 n 1)] (Store.mk [] [] [])))) Tr.fail) Tr.fail)) Tr.fail) Tr.fail)) Tr.fail) Tr.fail) Tr.fail) Tr.fail) Tr.fail) (Tr.ret (LR.out (.exit 0) [PV.sl r3 .full] (Store.mk [] [] [])))
theorem RM01_T (r : List (List PV)) (r2 : List (List PV)) (r3 : List (List PV)) (n : Int) : lstep tbT G_RM0 LI_RM01 c_RM01 I_RM01 [.sl r .non, .sl r2 .non, .sl r3 .full, .int .i64 n] ⟨[], [], []⟩ = RM01_Tr r r2 r3 n := by kernel_rfl
theorem RM01_E (r : List (List PV)) (r2 : List (List PV)) (r3 : List (List PV)) (n : Int) : RM01_V [.sl r .non, .sl r2 .non, .sl r3 .full, .int .i64 n] ⟨[], [], []⟩ = lnext RM01_V (RM01_Tr r r2 r3 n).run := by unfold RM01_V; rw [lval_eq, RM01_T]
noncomputable def RM01_Tr1 (r : List (List PV)) (r2 : List (List PV)) (r3 : List (List PV)) (n : Int) (k : Nat) : Tr LR := Tr.ite (iLt n (xLen r)) (Tr.ite (okPos n) (Tr.ite (okGet [PV.int .i64 0, PV.str [], PV.int .i64 0, PV.int .i64 0, PV.str []] r (nNat n)) (Tr.ite (okR cB (lockLL r3)) (Tr.ite (okPos n) (Tr.ite (okGet [PV.int .i64 0, PV.str [], PV.int .i64 0, PV.int .i64 0, PV.str []] r (nNat n)) (Tr.ite (iEq (xInt r (nNat n) 0) 2) (Tr.ite (okPos n) (Tr.ite (okGet [PV.int .i64 0, PV.str [], PV.int .i64 0, PV.int .i64 0, PV.str []] r (nNat n)) (Tr.ite (okPos n) (Tr.ite (okGet [PV.int .i64 0, PV.int .i64 0, PV.str []] r2 (nNat n)) (Tr.ite (bNot (bAnd (iEq (xInt r (nNat n) 2) (xInt r2 (nNat n) 0)) (bAnd (iEq (xInt r (nNat n) 3) (xInt r2 (nNat n) 1)) (bAnd (sEq (xStr r (nNat n) 4) (xStr r2 (nNat n) 2)) true)))) (Tr.ret (LR.out .ret [PV.sl (dropPLL 0 []) .full, PV.bool false] (Store.mk [] [(k, 4, 74)] []))) (Tr.ite (okPos n) (Tr.ite (okGet [PV.int .i64 0, PV.str [], PV.int .i64 0, PV.int .i64 0, PV.str []] r (nNat n)) (Tr.ite (iEq (xInt r (nNat n) 0) 1) (Tr.ite (fdO (lockLL r3) (xStr r (nNat n) 1)) (Tr.ite (okPos n) (Tr.ite (okGet [PV.int .i64 0, PV.int .i64 0, PV.str []] r2 (nNat n)) (Tr.ite (bNot (bAnd (iEq (fdK (lockLL r3) (xStr r (nNat n) 1)) (xInt r2 (nNat n) 0)) (bAnd (iEq (fdN (lockLL r3) (xStr r (nNat n) 1)) (xInt r2 (nNat n) 1)) (bAnd (sEq (fdS (lockLL r3) (xStr r (nNat n) 1)) (xStr r2 (nNat n) 2)) true)))) (Tr.ret (LR.out .ret [PV.sl (dropPLL 0 []) .full, PV.bool false] (Store.mk [] [(k, 4, 74)] []))) (Tr.ite (okPos n) (Tr.ite (okGet [PV.int .i64 0, PV.str [], PV.int .i64 0, PV.int .i64 0, PV.str []] r (nNat n)) (Tr.ite (iEq (xInt r (nNat n) 0) 1) (Tr.ite (bNot (fdO (lockLL r3) (xStr r (nNat n) 1))) (Tr.ite (okPos n) (Tr.ite (okGet [PV.int .i64 0, PV.str [], PV.int .i64 0, PV.int .i64 0, PV.str []] r (nNat n)) (Tr.ite (okPos n) (Tr.ite (okGet [PV.int .i64 0, PV.int .i64 0, PV.str []] r2 (nNat n)) (Tr.ite (okGrow r3
 [[PV.str (xStr r (nNat n) 1), PV.int .i64 (xInt r2 (nNat n) 0), PV.int .i64 (xInt r2 (nNat n) 1), PV.str (xStr r2 (nNat n) 2)]] 48) (Tr.ite (okNews [[PV.str (xStr r (nNat n) 1), PV.int .i64 (xInt r2 (nNat n) 0), PV.int .i64 (xInt r2 (nNat n) 1), PV.str (xStr r2 (nNat n) 2)]] 4) (Tr.ite (okSize r3 4) (Tr.ite (nEq k (nXs r3)) (Tr.ret (LR.next [PV.sl (dropPLL 0 r) .non, PV.sl (dropPLL 0 r2) .non, PV.sl (dropPLL 0 (xApp r3 [[PV.str (xStr r (nNat n) 1), PV.int .i64 (xInt r2 (nNat n) 0), PV.int .i64 (xInt r2 (nNat n) 1), PV.str (xStr r2 (nNat n) 2)]])) (.tok 0), PV.int .i64 (iAdd .i64 n 1)] (Store.mk [] [(nXs (xApp r3 [[PV.str (xStr r (nNat n) 1), PV.int .i64 (xInt r2 (nNat n) 0), PV.int .i64 (xInt r2 (nNat n) 1), PV.str (xStr r2 (nNat n) 2)]]), 4, 74)] []))) Tr.fail) Tr.fail) Tr.fail) Tr.fail) Tr.fail) Tr.fail) Tr.fail) Tr.fail) (Tr.ret (LR.next [PV.sl (dropPLL 0 r) .non, PV.sl (dropPLL 0 r2) .non, PV.sl (dropPLL 0 r3) (.tok 0), PV.int .i64 (iAdd .i64 n 1)] (Store.mk [] [(k, 4, 74)] [])))) (Tr.ret (LR.next [PV.sl (dropPLL 0 r) .non, PV.sl (dropPLL 0 r2) .non, PV.sl (dropPLL 0 r3) (.tok 0), PV.int .i64 (iAdd .i64 n 1)] (Store.mk [] [(k, 4, 74)] [])))) Tr.fail) Tr.fail)) Tr.fail) Tr.fail) (Tr.ite (okPos n) (Tr.ite (okGet [PV.int .i64 0, PV.str [], PV.int .i64 0, PV.int .i64 0, PV.str []] r (nNat n)) (Tr.ite (iEq (xInt r (nNat n) 0) 1) (Tr.ite (bNot (fdO (lockLL r3) (xStr r (nNat n) 1))) (Tr.ite (okPos n) (Tr.ite (okGet [PV.int .i64 0, PV.str [], PV.int .i64 0, PV.int .i64 0, PV.str []] r (nNat n)) (Tr.ite (okPos n) (Tr.ite (okGet [PV.int .i64 0, PV.int .i64 0, PV.str []] r2 (nNat n)) (Tr.ite (okGrow r3 [[PV.str (xStr r (nNat n) 1), PV.int .i64 (xInt r2 (nNat n) 0), PV.int .i64 (xInt r2 (nNat n) 1), PV.str (xStr r2 (nNat n) 2)]] 48) (Tr.ite (okNews [[PV.str (xStr r (nNat n) 1), PV.int .i64 (xInt r2 (nNat n) 0), PV.int .i64 (xInt r2 (nNat n) 1), PV.str (xStr r2 (nNat n) 2)]] 4) (Tr.ite (okSize r3 4) (Tr.ite (nEq k (nXs r3)) (Tr.ret (LR.next
 [PV.sl (dropPLL 0 r) .non, PV.sl (dropPLL 0 r2) .non, PV.sl (dropPLL 0 (xApp r3 [[PV.str (xStr r (nNat n) 1), PV.int .i64 (xInt r2 (nNat n) 0), PV.int .i64 (xInt r2 (nNat n) 1), PV.str (xStr r2 (nNat n) 2)]])) (.tok 0), PV.int .i64 (iAdd .i64 n 1)] (Store.mk [] [(nXs (xApp r3 [[PV.str (xStr r (nNat n) 1), PV.int .i64 (xInt r2 (nNat n) 0), PV.int .i64 (xInt r2 (nNat n) 1), PV.str (xStr r2 (nNat n) 2)]]), 4, 74)] []))) Tr.fail) Tr.fail) Tr.fail) Tr.fail) Tr.fail) Tr.fail) Tr.fail) Tr.fail) (Tr.ret (LR.next [PV.sl (dropPLL 0 r) .non, PV.sl (dropPLL 0 r2) .non, PV.sl (dropPLL 0 r3) (.tok 0), PV.int .i64 (iAdd .i64 n 1)] (Store.mk [] [(k, 4, 74)] [])))) (Tr.ret (LR.next [PV.sl (dropPLL 0 r) .non, PV.sl (dropPLL 0 r2) .non, PV.sl (dropPLL 0 r3) (.tok 0), PV.int .i64 (iAdd .i64 n 1)] (Store.mk [] [(k, 4, 74)] [])))) Tr.fail) Tr.fail)) (Tr.ite (okPos n) (Tr.ite (okGet [PV.int .i64 0, PV.str [], PV.int .i64 0, PV.int .i64 0, PV.str []] r (nNat n)) (Tr.ite (iEq (xInt r (nNat n) 0) 1) (Tr.ite (bNot (fdO (lockLL r3) (xStr r (nNat n) 1))) (Tr.ite (okPos n) (Tr.ite (okGet [PV.int .i64 0, PV.str [], PV.int .i64 0, PV.int .i64 0, PV.str []] r (nNat n)) (Tr.ite (okPos n) (Tr.ite (okGet [PV.int .i64 0, PV.int .i64 0, PV.str []] r2 (nNat n)) (Tr.ite (okGrow r3 [[PV.str (xStr r (nNat n) 1), PV.int .i64 (xInt r2 (nNat n) 0), PV.int .i64 (xInt r2 (nNat n) 1), PV.str (xStr r2 (nNat n) 2)]] 48) (Tr.ite (okNews [[PV.str (xStr r (nNat n) 1), PV.int .i64 (xInt r2 (nNat n) 0), PV.int .i64 (xInt r2 (nNat n) 1), PV.str (xStr r2 (nNat n) 2)]] 4) (Tr.ite (okSize r3 4) (Tr.ite (nEq k (nXs r3)) (Tr.ret (LR.next [PV.sl (dropPLL 0 r) .non, PV.sl (dropPLL 0 r2) .non, PV.sl (dropPLL 0 (xApp r3 [[PV.str (xStr r (nNat n) 1), PV.int .i64 (xInt r2 (nNat n) 0), PV.int .i64 (xInt r2 (nNat n) 1), PV.str (xStr r2 (nNat n) 2)]])) (.tok 0), PV.int .i64 (iAdd .i64 n 1)] (Store.mk [] [(nXs (xApp r3 [[PV.str (xStr r (nNat n) 1), PV.int .i64 (xInt r2 (nNat n) 0), PV.int .i64 (xInt r2 (nNat n) 1),
 PV.str (xStr r2 (nNat n) 2)]]), 4, 74)] []))) Tr.fail) Tr.fail) Tr.fail) Tr.fail) Tr.fail) Tr.fail) Tr.fail) Tr.fail) (Tr.ret (LR.next [PV.sl (dropPLL 0 r) .non, PV.sl (dropPLL 0 r2) .non, PV.sl (dropPLL 0 r3) (.tok 0), PV.int .i64 (iAdd .i64 n 1)] (Store.mk [] [(k, 4, 74)] [])))) (Tr.ret (LR.next [PV.sl (dropPLL 0 r) .non, PV.sl (dropPLL 0 r2) .non, PV.sl (dropPLL 0 r3) (.tok 0), PV.int .i64 (iAdd .i64 n 1)] (Store.mk [] [(k, 4, 74)] [])))) Tr.fail) Tr.fail)) Tr.fail) Tr.fail)) Tr.fail) Tr.fail) Tr.fail) Tr.fail) (Tr.ite (okPos n) (Tr.ite (okGet [PV.int .i64 0, PV.str [], PV.int .i64 0, PV.int .i64 0, PV.str []] r (nNat n)) (Tr.ite (iEq (xInt r (nNat n) 0) 1) (Tr.ite (fdO (lockLL r3) (xStr r (nNat n) 1)) (Tr.ite (okPos n) (Tr.ite (okGet [PV.int .i64 0, PV.int .i64 0, PV.str []] r2 (nNat n)) (Tr.ite (bNot (bAnd (iEq (fdK (lockLL r3) (xStr r (nNat n) 1)) (xInt r2 (nNat n) 0)) (bAnd (iEq (fdN (lockLL r3) (xStr r (nNat n) 1)) (xInt r2 (nNat n) 1)) (bAnd (sEq (fdS (lockLL r3) (xStr r (nNat n) 1)) (xStr r2 (nNat n) 2)) true)))) (Tr.ret (LR.out .ret [PV.sl (dropPLL 0 []) .full, PV.bool false] (Store.mk [] [(k, 4, 74)] []))) (Tr.ite (okPos n) (Tr.ite (okGet [PV.int .i64 0, PV.str [], PV.int .i64 0, PV.int .i64 0, PV.str []] r (nNat n)) (Tr.ite (iEq (xInt r (nNat n) 0) 1) (Tr.ite (bNot (fdO (lockLL r3) (xStr r (nNat n) 1))) (Tr.ite (okPos n) (Tr.ite (okGet [PV.int .i64 0, PV.str [], PV.int .i64 0, PV.int .i64 0, PV.str []] r (nNat n)) (Tr.ite (okPos n) (Tr.ite (okGet [PV.int .i64 0, PV.int .i64 0, PV.str []] r2 (nNat n)) (Tr.ite (okGrow r3 [[PV.str (xStr r (nNat n) 1), PV.int .i64 (xInt r2 (nNat n) 0), PV.int .i64 (xInt r2 (nNat n) 1), PV.str (xStr r2 (nNat n) 2)]] 48) (Tr.ite (okNews [[PV.str (xStr r (nNat n) 1), PV.int .i64 (xInt r2 (nNat n) 0), PV.int .i64 (xInt r2 (nNat n) 1), PV.str (xStr r2 (nNat n) 2)]] 4) (Tr.ite (okSize r3 4) (Tr.ite (nEq k (nXs r3)) (Tr.ret (LR.next [PV.sl (dropPLL 0 r) .non, PV.sl (dropPLL 0 r2) .non, PV.sl (dropPLL 0 (xApp r3
 [[PV.str (xStr r (nNat n) 1), PV.int .i64 (xInt r2 (nNat n) 0), PV.int .i64 (xInt r2 (nNat n) 1), PV.str (xStr r2 (nNat n) 2)]])) (.tok 0), PV.int .i64 (iAdd .i64 n 1)] (Store.mk [] [(nXs (xApp r3 [[PV.str (xStr r (nNat n) 1), PV.int .i64 (xInt r2 (nNat n) 0), PV.int .i64 (xInt r2 (nNat n) 1), PV.str (xStr r2 (nNat n) 2)]]), 4, 74)] []))) Tr.fail) Tr.fail) Tr.fail) Tr.fail) Tr.fail) Tr.fail) Tr.fail) Tr.fail) (Tr.ret (LR.next [PV.sl (dropPLL 0 r) .non, PV.sl (dropPLL 0 r2) .non, PV.sl (dropPLL 0 r3) (.tok 0), PV.int .i64 (iAdd .i64 n 1)] (Store.mk [] [(k, 4, 74)] [])))) (Tr.ret (LR.next [PV.sl (dropPLL 0 r) .non, PV.sl (dropPLL 0 r2) .non, PV.sl (dropPLL 0 r3) (.tok 0), PV.int .i64 (iAdd .i64 n 1)] (Store.mk [] [(k, 4, 74)] [])))) Tr.fail) Tr.fail)) Tr.fail) Tr.fail) (Tr.ite (okPos n) (Tr.ite (okGet [PV.int .i64 0, PV.str [], PV.int .i64 0, PV.int .i64 0, PV.str []] r (nNat n)) (Tr.ite (iEq (xInt r (nNat n) 0) 1) (Tr.ite (bNot (fdO (lockLL r3) (xStr r (nNat n) 1))) (Tr.ite (okPos n) (Tr.ite (okGet [PV.int .i64 0, PV.str [], PV.int .i64 0, PV.int .i64 0, PV.str []] r (nNat n)) (Tr.ite (okPos n) (Tr.ite (okGet [PV.int .i64 0, PV.int .i64 0, PV.str []] r2 (nNat n)) (Tr.ite (okGrow r3 [[PV.str (xStr r (nNat n) 1), PV.int .i64 (xInt r2 (nNat n) 0), PV.int .i64 (xInt r2 (nNat n) 1), PV.str (xStr r2 (nNat n) 2)]] 48) (Tr.ite (okNews [[PV.str (xStr r (nNat n) 1), PV.int .i64 (xInt r2 (nNat n) 0), PV.int .i64 (xInt r2 (nNat n) 1), PV.str (xStr r2 (nNat n) 2)]] 4) (Tr.ite (okSize r3 4) (Tr.ite (nEq k (nXs r3)) (Tr.ret (LR.next [PV.sl (dropPLL 0 r) .non, PV.sl (dropPLL 0 r2) .non, PV.sl (dropPLL 0 (xApp r3 [[PV.str (xStr r (nNat n) 1), PV.int .i64 (xInt r2 (nNat n) 0), PV.int .i64 (xInt r2 (nNat n) 1), PV.str (xStr r2 (nNat n) 2)]])) (.tok 0), PV.int .i64 (iAdd .i64 n 1)] (Store.mk [] [(nXs (xApp r3 [[PV.str (xStr r (nNat n) 1), PV.int .i64 (xInt r2 (nNat n) 0), PV.int .i64 (xInt r2 (nNat n) 1), PV.str (xStr r2 (nNat n) 2)]]), 4, 74)] []))) Tr.fail) Tr.fail) Tr.fail) Tr.fail)
 Tr.fail) Tr.fail) Tr.fail) Tr.fail) (Tr.ret (LR.next [PV.sl (dropPLL 0 r) .non, PV.sl (dropPLL 0 r2) .non, PV.sl (dropPLL 0 r3) (.tok 0), PV.int .i64 (iAdd .i64 n 1)] (Store.mk [] [(k, 4, 74)] [])))) (Tr.ret (LR.next [PV.sl (dropPLL 0 r) .non, PV.sl (dropPLL 0 r2) .non, PV.sl (dropPLL 0 r3) (.tok 0), PV.int .i64 (iAdd .i64 n 1)] (Store.mk [] [(k, 4, 74)] [])))) Tr.fail) Tr.fail)) (Tr.ite (okPos n) (Tr.ite (okGet [PV.int .i64 0, PV.str [], PV.int .i64 0, PV.int .i64 0, PV.str []] r (nNat n)) (Tr.ite (iEq (xInt r (nNat n) 0) 1) (Tr.ite (bNot (fdO (lockLL r3) (xStr r (nNat n) 1))) (Tr.ite (okPos n) (Tr.ite (okGet [PV.int .i64 0, PV.str [], PV.int .i64 0, PV.int .i64 0, PV.str []] r (nNat n)) (Tr.ite (okPos n) (Tr.ite (okGet [PV.int .i64 0, PV.int .i64 0, PV.str []] r2 (nNat n)) (Tr.ite (okGrow r3 [[PV.str (xStr r (nNat n) 1), PV.int .i64 (xInt r2 (nNat n) 0), PV.int .i64 (xInt r2 (nNat n) 1), PV.str (xStr r2 (nNat n) 2)]] 48) (Tr.ite (okNews [[PV.str (xStr r (nNat n) 1), PV.int .i64 (xInt r2 (nNat n) 0), PV.int .i64 (xInt r2 (nNat n) 1), PV.str (xStr r2 (nNat n) 2)]] 4) (Tr.ite (okSize r3 4) (Tr.ite (nEq k (nXs r3)) (Tr.ret (LR.next [PV.sl (dropPLL 0 r) .non, PV.sl (dropPLL 0 r2) .non, PV.sl (dropPLL 0 (xApp r3 [[PV.str (xStr r (nNat n) 1), PV.int .i64 (xInt r2 (nNat n) 0), PV.int .i64 (xInt r2 (nNat n) 1), PV.str (xStr r2 (nNat n) 2)]])) (.tok 0), PV.int .i64 (iAdd .i64 n 1)] (Store.mk [] [(nXs (xApp r3 [[PV.str (xStr r (nNat n) 1), PV.int .i64 (xInt r2 (nNat n) 0), PV.int .i64 (xInt r2 (nNat n) 1), PV.str (xStr r2 (nNat n) 2)]]), 4, 74)] []))) Tr.fail) Tr.fail) Tr.fail) Tr.fail) Tr.fail) Tr.fail) Tr.fail) Tr.fail) (Tr.ret (LR.next [PV.sl (dropPLL 0 r) .non, PV.sl (dropPLL 0 r2) .non, PV.sl (dropPLL 0 r3) (.tok 0), PV.int .i64 (iAdd .i64 n 1)] (Store.mk [] [(k, 4, 74)] [])))) (Tr.ret (LR.next [PV.sl (dropPLL 0 r) .non, PV.sl (dropPLL 0 r2) .non, PV.sl (dropPLL 0 r3) (.tok 0), PV.int .i64 (iAdd .i64 n 1)] (Store.mk [] [(k, 4, 74)] [])))) Tr.fail) Tr.fail)) Tr.fail)
 Tr.fail)) Tr.fail) Tr.fail) Tr.fail) Tr.fail) Tr.fail) (Tr.ret (LR.out (.exit 0) [PV.sl r3 (.tok 0)] (Store.mk [] [(k, 4, 74)] [])))
theorem RM01_T1 (r : List (List PV)) (r2 : List (List PV)) (r3 : List (List PV)) (n : Int) (k : Nat) : lstep tbT G_RM0 LI_RM01 c_RM01 I_RM01 [.sl r .non, .sl r2 .non, .sl r3 (.tok 0), .int .i64 n] ⟨[], [(k, 4, 74)], []⟩ = RM01_Tr1 r r2 r3 n k := by kernel_rfl
theorem RM01_E1 (r : List (List PV)) (r2 : List (List PV)) (r3 : List (List PV)) (n : Int) (k : Nat) : RM01_V [.sl r .non, .sl r2 .non, .sl r3 (.tok 0), .int .i64 n] ⟨[], [(k, 4, 74)], []⟩ = lnext RM01_V (RM01_Tr1 r r2 r3 n k).run := by unfold RM01_V; rw [lval_eq, RM01_T1]
noncomputable def RM01_W (r : List (List PV)) (r2 : List (List PV)) (r3 : List (List PV)) (n : Int) : Option (PExit × List PV × Store) := RM01_V [.sl r .non, .sl r2 .non, .sl r3 .full, .int .i64 n] ⟨[], [], []⟩
noncomputable def RM01_r_0 (r : List (List PV)) (r2 : List (List PV)) (r3 : List (List PV)) (n : Int) : List (List PV) := (gRow (gOut (RM01_W r r2 r3 n) 0))
noncomputable def RM01_b_0 (r : List (List PV)) (r2 : List (List PV)) (r3 : List (List PV)) (n : Int) : Bool := (gBool (gOut (RM01_W r r2 r3 n) 1))
noncomputable def RM01_is0 (r : List (List PV)) (r2 : List (List PV)) (r3 : List (List PV)) (n : Int) : Bool := isW (RM01_W r r2 r3 n) (.ret, [.sl (RM01_r_0 r r2 r3 n) .full, .bool (RM01_b_0 r r2 r3 n)], ⟨[], [], []⟩)
noncomputable def RM01_r_1 (r : List (List PV)) (r2 : List (List PV)) (r3 : List (List PV)) (n : Int) : List (List PV) := (gRow (gOut (RM01_W r r2 r3 n) 0))
noncomputable def RM01_is1 (r : List (List PV)) (r2 : List (List PV)) (r3 : List (List PV)) (n : Int) : Bool := isW (RM01_W r r2 r3 n) ((.exit 0), [.sl (RM01_r_1 r r2 r3 n) .full], ⟨[], [], []⟩)
noncomputable def RM01_r_2 (r : List (List PV)) (r2 : List (List PV)) (r3 : List (List PV)) (n : Int) : List (List PV) := (gRow (gOut (RM01_W r r2 r3 n) 0))
noncomputable def RM01_b_2 (r : List (List PV)) (r2 : List (List PV)) (r3 : List (List PV)) (n : Int) : Bool := (gBool (gOut (RM01_W r r2 r3 n) 1))
noncomputable def RM01_k_2 (r : List (List PV)) (r2 : List (List PV)) (r3 : List (List PV)) (n : Int) : Nat := (gTok (RM01_W r r2 r3 n) 0)
noncomputable def RM01_is2 (r : List (List PV)) (r2 : List (List PV)) (r3 : List (List PV)) (n : Int) : Bool := isW (RM01_W r r2 r3 n) (.ret, [.sl (RM01_r_2 r r2 r3 n) .full, .bool (RM01_b_2 r r2 r3 n)], ⟨[], [((RM01_k_2 r r2 r3 n), 4, 74)], []⟩)
noncomputable def RM01_r_3 (r : List (List PV)) (r2 : List (List PV)) (r3 : List (List PV)) (n : Int) : List (List PV) := (gRow (gOut (RM01_W r r2 r3 n) 0))
noncomputable def RM01_k_3 (r : List (List PV)) (r2 : List (List PV)) (r3 : List (List PV)) (n : Int) : Nat := (gTok (RM01_W r r2 r3 n) 0)
noncomputable def RM01_is3 (r : List (List PV)) (r2 : List (List PV)) (r3 : List (List PV)) (n : Int) : Bool := isW (RM01_W r r2 r3 n) ((.exit 0), [.sl (RM01_r_3 r r2 r3 n) (.tok 0)], ⟨[], [((RM01_k_3 r r2 r3 n), 4, 74)], []⟩)
noncomputable def RM01_prop : List PV → Store → Tr (PExit × List PV × Store) | [.sl r .non, .sl r2 .non, .sl r3 .full, .int .i64 n], ⟨[], [], []⟩ => .ite (RM01_is0 r r2 r3 n) (.ret (.ret, [.sl (RM01_r_0 r r2 r3 n) .full, .bool (RM01_b_0 r r2 r3 n)], ⟨[], [], []⟩)) (.ite (RM01_is1 r r2 r3 n) (.ret ((.exit 0), [.sl (RM01_r_1 r r2 r3 n) .full], ⟨[], [], []⟩)) (.ite (RM01_is2 r r2 r3 n) (.ret (.ret, [.sl (RM01_r_2 r r2 r3 n) .full, .bool (RM01_b_2 r r2 r3 n)], ⟨[], [((RM01_k_2 r r2 r3 n), 4, 74)], []⟩)) (.ite (RM01_is3 r r2 r3 n) (.ret ((.exit 0), [.sl (RM01_r_3 r r2 r3 n) (.tok 0)], ⟨[], [((RM01_k_3 r r2 r3 n), 4, 74)], []⟩)) (.fail)))) | _, _ => .fail
theorem RM01_ok : ∀ vs σ r, (RM01_prop vs σ).run = some r → RM01_V vs σ = some r := by
  intro vs σ r h
  unfold RM01_prop at h
  split at h
  · exact ite_isW h fun h => ite_isW h fun h => ite_isW h fun h => ite_isW h fun h => by cases h
  · cases h
theorem loop_RM01 (gl : Nat → Option Obj) : ∀ fr σ e fr' σ', (orc I_RM01 RM01_prop fr σ).run = some (e, fr', σ') → LDoes Tryd.prog gl c_RM01 fr σ e fr' σ' := orc_ok tbT_ok (gok_RM0 gl ) noMixed (L := LI_RM01) (loopOk_none (by kernel_rfl)) (by kernel_rfl) RM01_ok
noncomputable def L_RM0 : LpsT := fun r fr σ => bif Nat.beq r 5 then orc I_RM01 RM01_prop fr σ else .fail
noncomputable def RM0_Tr (v : List (List PV)) (v2 : List (List PV)) : Tr PV := Tr.ite (okR cM (lockLL v)) (Tr.ite (iNe (chkP (lockLL v)) 0) (Tr.ret (PV.tup [PV.sl [] .non, PV.bool false])) (Tr.ite (iNe (xLen v) (xLen v2)) (Tr.ret (PV.tup [PV.sl [] .non, PV.bool false])) (Tr.ite (RM01_is0 v v2 [] 0) (Tr.ret (PV.tup [PV.sl (shutLL (RM01_r_0 v v2 [] 0)) .non, PV.bool (RM01_b_0 v v2 [] 0)])) (Tr.ite (RM01_is1 v v2 [] 0) (Tr.ret (PV.tup [PV.sl (shutLL (RM01_r_1 v v2 [] 0)) .non, PV.bool true])) (Tr.ite (RM01_is2 v v2 [] 0) (Tr.ret (PV.tup [PV.sl (shutLL (RM01_r_2 v v2 [] 0)) .non, PV.bool (RM01_b_2 v v2 [] 0)])) (Tr.ite (RM01_is3 v v2 [] 0) (Tr.ret (PV.tup [PV.sl (shutLL (RM01_r_3 v v2 [] 0)) .non, PV.bool true])) Tr.fail)))))) Tr.fail
theorem RM0_T (v : List (List PV)) (v2 : List (List PV)) : (tcall tbT G_RM0 L_RM0 Tryd.f27 [.sl v .non, .sl v2 .non]).flat = RM0_Tr v v2 := by kernel_rfl
noncomputable def RM0_W (v : List (List PV)) (v2 : List (List PV)) : Option PV := (RM0_Tr v v2).run
noncomputable def RM0_r (v : List (List PV)) (v2 : List (List PV)) : List (List PV) := (gRow (gAt (gCs (gVal (RM0_W v v2))) 0))
noncomputable def RM0_b (v : List (List PV)) (v2 : List (List PV)) : Bool := (gBool (gAt (gCs (gVal (RM0_W v v2))) 1))
noncomputable def RM0_is0 (v : List (List PV)) (v2 : List (List PV)) : Bool := isW (RM0_W v v2) (.tup [.sl (RM0_r v v2) .non, .bool (RM0_b v v2)])
noncomputable def F_RM0 : List PV → Tr PV | [.sl v .non, .sl v2 .non] => .ite (RM0_is0 v v2) (.ret (.tup [.sl (RM0_r v v2) .non, .bool (RM0_b v v2)])) (.fail) | _ => .fail
theorem sim_RM0 (gl : Nat → Option Obj) : SimP Tryd.prog gl 27 fun args => (F_RM0 args).run := by
  refine SimP.of_flat (G := G_RM0) (L := L_RM0) tbT_ok (gok_RM0 gl ) noMixed Tryd.func27 rfl (by rfl) (by kernel_rfl) (loopOk_all (L := lps L_RM0) [(5, c_RM01)] (by kernel_rfl) (List.forall_mem_cons.2 ⟨fun fr σ e fr' σ' h => loop_RM01 gl  fr σ e fr' σ' h, (List.forall_mem_nil _)⟩)) ?_
  intro args x h
  unfold F_RM0 at h
  split at h
  · exact (congrArg Tr.run (RM0_T _ _)).trans (ite_isW h fun h => by cases h)
  · cases h
noncomputable def G_Mt0 : GamT := ofL [(28, .pure F_TPat), (57, .pure F_Idx), (58, .pure F_mcl)]
theorem gok_Mt0 (gl : Nat → Option Obj) : GamOk Tryd.prog gl (gam G_Mt0) := (gamOk_cons (sim_TPat gl) (gamOk_cons (sim_Idx gl) (gamOk_cons (sim_mcl gl) gamOk_nil)))
noncomputable def c_Mt01 : Code := loopC Tryd.f18 5
def I_Mt01 : LI := ⟨67, [1, 6, 20, 21, 22], fun e => match e with | .ret => [4, 5] | .exit 0 => [6] | _ => [], true⟩
noncomputable def LI_Mt01 : LpsT := fun r fr σ => .fail
noncomputable def Mt01_V (vs : List PV) (σ : Store) : Option (PExit × List PV × Store) := lval (lstep tbT G_Mt0 LI_Mt01 c_Mt01 I_Mt01) vs σ
noncomputable def Mt01_Tr (r : List (List PV)) (r2 : List (List PV)) (r3 : List (List PV)) (n : Int) (n2 : Int) : Tr LR := Tr.ite (iLt n2 n) (Tr.ite (okPos n2) (Tr.ite (okGet [PV.int .i64 0, PV.str [], PV.int .i64 0, PV.int .i64 0, PV.str []] r3 (nNat n2)) (Tr.ite (iEq (xInt r3 (nNat n2) 0) 2) (Tr.ite (okPos n2) (Tr.ite (okGet [PV.int .i64 0, PV.int .i64 0, PV.str []] r (nNat n2)) (Tr.ite (bNot (bAnd (iEq (xInt r3 (nNat n2) 2) (xInt r (nNat n2) 0)) (bAnd (iEq (xInt r3 (nNat n2) 3) (xInt r (nNat n2) 1)) (bAnd (sEq (xStr r3 (nNat n2) 4) (xStr r (nNat n2) 2)) true)))) (Tr.ret (LR.out .ret [PV.sl (dropPLL 0 []) .full, PV.bool false] (Store.mk [] [] []))) (Tr.ret (LR.next [PV.sl (dropPLL 0 r) .non, PV.sl (dropPLL 0 r2) .full, PV.sl (dropPLL 0 r3) .non, PV.int .i64 n, PV.int .i64 (iAdd .i64 n2 1)] (Store.mk [] [] [])))) Tr.fail) Tr.fail) (Tr.ite (iEq (xInt r3 (nNat n2) 0) 1) (Tr.ite (okR cB (lockLL r2)) (Tr.ite (iLt (idxV (lockLL r2) (xStr r3 (nNat n2) 1)) 0) (Tr.ite (okPos n2) (Tr.ite (okGet [PV.int .i64 0, PV.int .i64 0, PV.str []] r (nNat n2)) (Tr.ite (okGrow r2 [[PV.str (xStr r3 (nNat n2) 1), PV.int .i64 (xInt r (nNat n2) 0), PV.int .i64 (xInt r (nNat n2) 1), PV.str (xStr r (nNat n2) 2)]] 48) (Tr.ite (okNews [[PV.str (xStr r3 (nNat n2) 1), PV.int .i64 (xInt r (nNat n2) 0), PV.int .i64 (xInt r (nNat n2) 1), PV.str (xStr r (nNat n2) 2)]] 4) (Tr.ite (okSize r2 4) (Tr.ret (LR.next [PV.sl (dropPLL 0 r) .non, PV.sl (dropPLL 0 (xApp r2 [[PV.str (xStr r3 (nNat n2) 1), PV.int .i64 (xInt r (nNat n2) 0), PV.int .i64 (xInt r (nNat n2) 1), PV.str (xStr r (nNat n2) 2)]])) (.tok 0), PV.sl (dropPLL 0 r3) .non, PV.int .i64 n, PV.int .i64 (iAdd .i64 n2 1)] (Store.mk [] [(nXs (xApp r2 [[PV.str (xStr r3 (nNat n2) 1), PV.int .i64 (xInt r (nNat n2) 0), PV.int .i64 (xInt r (nNat n2) 1), PV.str (xStr r (nNat n2) 2)]]), 4, 74)] []))) Tr.fail) Tr.fail) Tr.fail) Tr.fail) Tr.fail) (Tr.ite (okPos (idxV (lockLL r2) (xStr r3 (nNat n2) 1)))
 (Tr.ite (okGet [PV.str [], PV.int .i64 0, PV.int .i64 0, PV.str []] r2 (nNat (idxV (lockLL r2) (xStr r3 (nNat n2) 1)))) (Tr.ite (okPos n2) (Tr.ite (okGet [PV.int .i64 0, PV.int .i64 0, PV.str []] r (nNat n2)) (Tr.ite (bNot (bAnd (iEq (xInt r2 (nNat (idxV (lockLL r2) (xStr r3 (nNat n2) 1))) 1) (xInt r (nNat n2) 0)) (bAnd (iEq (xInt r2 (nNat (idxV (lockLL r2) (xStr r3 (nNat n2) 1))) 2) (xInt r (nNat n2) 1)) (bAnd (sEq (xStr r2 (nNat (idxV (lockLL r2) (xStr r3 (nNat n2) 1))) 3) (xStr r (nNat n2) 2)) true)))) (Tr.ret (LR.out .ret [PV.sl (dropPLL 0 []) .full, PV.bool false] (Store.mk [] [] []))) (Tr.ret (LR.next [PV.sl (dropPLL 0 r) .non, PV.sl (dropPLL 0 r2) .full, PV.sl (dropPLL 0 r3) .non, PV.int .i64 n, PV.int .i64 (iAdd .i64 n2 1)] (Store.mk [] [] [])))) Tr.fail) Tr.fail) Tr.fail) Tr.fail)) Tr.fail) (Tr.ret (LR.next [PV.sl (dropPLL 0 r) .non, PV.sl (dropPLL 0 r2) .full, PV.sl (dropPLL 0 r3) .non, PV.int .i64 n, PV.int .i64 (iAdd .i64 n2 1)] (Store.mk [] [] []))))) Tr.fail) Tr.fail) (Tr.ret (LR.out (.exit 0) [PV.sl r2 .full] (Store.mk [] [] [])))
theorem Mt01_T (r : List (List PV)) (r2 : List (List PV)) (r3 : List (List PV)) (n : Int) (n2 : Int) : lstep tbT G_Mt0 LI_Mt01 c_Mt01 I_Mt01 [.sl r .non, .sl r2 .full, .sl r3 .non, .int .i64 n, .int .i64 n2] ⟨[], [], []⟩ = Mt01_Tr r r2 r3 n n2 := by kernel_rfl
theorem Mt01_E (r : List (List PV)) (r2 : List (List PV)) (r3 : List (List PV)) (n : Int) (n2 : Int) : Mt01_V [.sl r .non, .sl r2 .full, .sl r3 .non, .int .i64 n, .int .i64 n2] ⟨[], [], []⟩ = lnext Mt01_V (Mt01_Tr r r2 r3 n n2).run := by unfold Mt01_V; rw [lval_eq, Mt01_T]
noncomputable def Mt01_Tr1 (r : List (List PV)) (r2 : List (List PV)) (r3 : List (List PV)) (n : Int) (n2 : Int) (k : Nat) : Tr LR := Tr.ite (iLt n2 n) (Tr.ite (okPos n2) (Tr.ite (okGet [PV.int .i64 0, PV.str [], PV.int .i64 0, PV.int .i64 0, PV.str []] r3 (nNat n2)) (Tr.ite (iEq (xInt r3 (nNat n2) 0) 2) (Tr.ite (okPos n2) (Tr.ite (okGet [PV.int .i64 0, PV.int .i64 0, PV.str []] r (nNat n2)) (Tr.ite (bNot (bAnd (iEq (xInt r3 (nNat n2) 2) (xInt r (nNat n2) 0)) (bAnd (iEq (xInt r3 (nNat n2) 3) (xInt r (nNat n2) 1)) (bAnd (sEq (xStr r3 (nNat n2) 4) (xStr r (nNat n2) 2)) true)))) (Tr.ret (LR.out .ret [PV.sl (dropPLL 0 []) .full, PV.bool false] (Store.mk [] [(k, 4, 74)] []))) (Tr.ret (LR.next [PV.sl (dropPLL 0 r) .non, PV.sl (dropPLL 0 r2) (.tok 0), PV.sl (dropPLL 0 r3) .non, PV.int .i64 n, PV.int .i64 (iAdd .i64 n2 1)] (Store.mk [] [(k, 4, 74)] [])))) Tr.fail) Tr.fail) (Tr.ite (iEq (xInt r3 (nNat n2) 0) 1) (Tr.ite (okR cB (lockLL r2)) (Tr.ite (iLt (idxV (lockLL r2) (xStr r3 (nNat n2) 1)) 0) (Tr.ite (okPos n2) (Tr.ite (okGet [PV.int .i64 0, PV.int .i64 0, PV.str []] r (nNat n2)) (Tr.ite (okGrow r2 [[PV.str (xStr r3 (nNat n2) 1), PV.int .i64 (xInt r (nNat n2) 0), PV.int .i64 (xInt r (nNat n2) 1), PV.str (xStr r (nNat n2) 2)]] 48) (Tr.ite (okNews [[PV.str (xStr r3 (nNat n2) 1), PV.int .i64 (xInt r (nNat n2) 0), PV.int .i64 (xInt r (nNat n2) 1), PV.str (xStr r (nNat n2) 2)]] 4) (Tr.ite (okSize r2 4) (Tr.ite (nEq k (nXs r2)) (Tr.ret (LR.next [PV.sl (dropPLL 0 r) .non, PV.sl (dropPLL 0 (xApp r2 [[PV.str (xStr r3 (nNat n2) 1), PV.int .i64 (xInt r (nNat n2) 0), PV.int .i64 (xInt r (nNat n2) 1), PV.str (xStr r (nNat n2) 2)]])) (.tok 0), PV.sl (dropPLL 0 r3) .non, PV.int .i64 n, PV.int .i64 (iAdd .i64 n2 1)] (Store.mk [] [(nXs (xApp r2 [[PV.str (xStr r3 (nNat n2) 1), PV.int .i64 (xInt r (nNat n2) 0), PV.int .i64 (xInt r (nNat n2) 1), PV.str (xStr r (nNat n2) 2)]]), 4, 74)] []))) Tr.fail) Tr.fail) Tr.fail) Tr.fail) Tr.fail) Tr.fail)
 (Tr.ite (okPos (idxV (lockLL r2) (xStr r3 (nNat n2) 1))) (Tr.ite (okGet [PV.str [], PV.int .i64 0, PV.int .i64 0, PV.str []] r2 (nNat (idxV (lockLL r2) (xStr r3 (nNat n2) 1)))) (Tr.ite (okPos n2) (Tr.ite (okGet [PV.int .i64 0, PV.int .i64 0, PV.str []] r (nNat n2)) (Tr.ite (bNot (bAnd (iEq (xInt r2 (nNat (idxV (lockLL r2) (xStr r3 (nNat n2) 1))) 1) (xInt r (nNat n2) 0)) (bAnd (iEq (xInt r2 (nNat (idxV (lockLL r2) (xStr r3 (nNat n2) 1))) 2) (xInt r (nNat n2) 1)) (bAnd (sEq (xStr r2 (nNat (idxV (lockLL r2) (xStr r3 (nNat n2) 1))) 3) (xStr r (nNat n2) 2)) true)))) (Tr.ret (LR.out .ret [PV.sl (dropPLL 0 []) .full, PV.bool false] (Store.mk [] [(k, 4, 74)] []))) (Tr.ret (LR.next [PV.sl (dropPLL 0 r) .non, PV.sl (dropPLL 0 r2) (.tok 0), PV.sl (dropPLL 0 r3) .non, PV.int .i64 n, PV.int .i64 (iAdd .i64 n2 1)] (Store.mk [] [(k, 4, 74)] [])))) Tr.fail) Tr.fail) Tr.fail) Tr.fail)) Tr.fail) (Tr.ret (LR.next [PV.sl (dropPLL 0 r) .non, PV.sl (dropPLL 0 r2) (.tok 0), PV.sl (dropPLL 0 r3) .non, PV.int .i64 n, PV.int .i64 (iAdd .i64 n2 1)] (Store.mk [] [(k, 4, 74)] []))))) Tr.fail) Tr.fail) (Tr.ret (LR.out (.exit 0) [PV.sl r2 (.tok 0)] (Store.mk [] [(k, 4, 74)] [])))
theorem Mt01_T1 (r : List (List PV)) (r2 : List (List PV)) (r3 : List (List PV)) (n : Int) (n2 : Int) (k : Nat) : lstep tbT G_Mt0 LI_Mt01 c_Mt01 I_Mt01 [.sl r .non, .sl r2 (.tok 0), .sl r3 .non, .int .i64 n, .int .i64 n2] ⟨[], [(k, 4, 74)], []⟩ = Mt01_Tr1 r r2 r3 n n2 k := by kernel_rfl
theorem Mt01_E1 (r : List (List PV)) (r2 : List (List PV)) (r3 : List (List PV)) (n : Int) (n2 : Int) (k : Nat) : Mt01_V [.sl r .non, .sl r2 (.tok 0), .sl r3 .non, .int .i64 n, .int .i64 n2] ⟨[], [(k, 4, 74)], []⟩ = lnext Mt01_V (Mt01_Tr1 r r2 r3 n n2 k).run := by unfold Mt01_V; rw [lval_eq, Mt01_T1]
noncomputable def Mt01_W (r : List (List PV)) (r2 : List (List PV)) (r3 : List (List PV)) (n : Int) (n2 : Int) : Option (PExit × List PV × Store) := Mt01_V [.sl r .non, .sl r2 .full, .sl r3 .non, .int .i64 n, .int .i64 n2] ⟨[], [], []⟩
noncomputable def Mt01_r_0 (r : List (List PV)) (r2 : List (List PV)) (r3 : List (List PV)) (n : Int) (n2 : Int) : List (List PV) := (gRow (gOut (Mt01_W r r2 r3 n n2) 0))
noncomputable def Mt01_b_0 (r : List (List PV)) (r2 : List (List PV)) (r3 : List (List PV)) (n : Int) (n2 : Int) : Bool := (gBool (gOut (Mt01_W r r2 r3 n n2) 1))
noncomputable def Mt01_is0 (r : List (List PV)) (r2 : List (List PV)) (r3 : List (List PV)) (n : Int) (n2 : Int) : Bool := isW (Mt01_W r r2 r3 n n2) (.ret, [.sl (Mt01_r_0 r r2 r3 n n2) .full, .bool (Mt01_b_0 r r2 r3 n n2)], ⟨[], [], []⟩)
noncomputable def Mt01_r_1 (r : List (List PV)) (r2 : List (List PV)) (r3 : List (List PV)) (n : Int) (n2 : Int) : List (List PV) := (gRow (gOut (Mt01_W r r2 r3 n n2) 0))
noncomputable def Mt01_is1 (r : List (List PV)) (r2 : List (List PV)) (r3 : List (List PV)) (n : Int) (n2 : Int) : Bool := isW (Mt01_W r r2 r3 n n2) ((.exit 0), [.sl (Mt01_r_1 r r2 r3 n n2) .full], ⟨[], [], []⟩)
noncomputable def Mt01_r_2 (r : List (List PV)) (r2 : List (List PV)) (r3 : List (List PV)) (n : Int) (n2 : Int) : List (List PV) := (gRow (gOut (Mt01_W r r2 r3 n n2) 0))
noncomputable def Mt01_b_2 (r : List (List PV)) (r2 : List (List PV)) (r3 : List (List PV)) (n : Int) (n2 : Int) : Bool := (gBool (gOut (Mt01_W r r2 r3 n n2) 1))
noncomputable def Mt01_k_2 (r : List (List PV)) (r2 : List (List PV)) (r3 : List (List PV)) (n : Int) (n2 : Int) : Nat := (gTok (Mt01_W r r2 r3 n n2) 0)
noncomputable def Mt01_is2 (r : List (List PV)) (r2 : List (List PV)) (r3 : List (List PV)) (n : Int) (n2 : Int) : Bool := isW (Mt01_W r r2 r3 n n2) (.ret, [.sl (Mt01_r_2 r r2 r3 n n2) .full, .bool (Mt01_b_2 r r2 r3 n n2)], ⟨[], [((Mt01_k_2 r r2 r3 n n2), 4, 74)], []⟩)
noncomputable def Mt01_r_3 (r : List (List PV)) (r2 : List (List PV)) (r3 : List (List PV)) (n : Int) (n2 : Int) : List (List PV) := (gRow (gOut (Mt01_W r r2 r3 n n2) 0))
noncomputable def Mt01_k_3 (r : List (List PV)) (r2 : List (List PV)) (r3 : List (List PV)) (n : Int) (n2 : Int) : Nat := (gTok (Mt01_W r r2 r3 n n2) 0)
noncomputable def Mt01_is3 (r : List (List PV)) (r2 : List (List PV)) (r3 : List (List PV)) (n : Int) (n2 : Int) : Bool := isW (Mt01_W r r2 r3 n n2) ((.exit 0), [.sl (Mt01_r_3 r r2 r3 n n2) (.tok 0)], ⟨[], [((Mt01_k_3 r r2 r3 n n2), 4, 74)], []⟩)
noncomputable def Mt01_prop : List PV → Store → Tr (PExit × List PV × Store) | [.sl r .non, .sl r2 .full, .sl r3 .non, .int .i64 n, .int .i64 n2], ⟨[], [], []⟩ => .ite (Mt01_is0 r r2 r3 n n2) (.ret (.ret, [.sl (Mt01_r_0 r r2 r3 n n2) .full, .bool (Mt01_b_0 r r2 r3 n n2)], ⟨[], [], []⟩)) (.ite (Mt01_is1 r r2 r3 n n2) (.ret ((.exit 0), [.sl (Mt01_r_1 r r2 r3 n n2) .full], ⟨[], [], []⟩)) (.ite (Mt01_is2 r r2 r3 n n2) (.ret (.ret, [.sl (Mt01_r_2 r r2 r3 n n2) .full, .bool (Mt01_b_2 r r2 r3 n n2)], ⟨[], [((Mt01_k_2 r r2 r3 n n2), 4, 74)], []⟩)) (.ite (Mt01_is3 r r2 r3 n n2) (.ret ((.exit 0), [.sl (Mt01_r_3 r r2 r3 n n2) (.tok 0)], ⟨[], [((Mt01_k_3 r r2 r3 n n2), 4, 74)], []⟩)) (.fail)))) | _, _ => .fail
theorem Mt01_ok : ∀ vs σ r, (Mt01_prop vs σ).run = some r → Mt01_V vs σ = some r := by
  intro vs σ r h
  unfold Mt01_prop at h
  split at h
  · exact ite_isW h fun h => ite_isW h fun h => ite_isW h fun h => ite_isW h fun h => by cases h
  · cases h
theorem loop_Mt01 (gl : Nat → Option Obj) : ∀ fr σ e fr' σ', (orc I_Mt01 Mt01_prop fr σ).run = some (e, fr', σ') → LDoes Tryd.prog gl c_Mt01 fr σ e fr' σ' := orc_ok tbT_ok (gok_Mt0 gl ) noMixed (L := LI_Mt01) (loopOk_none (by kernel_rfl)) (by kernel_rfl) Mt01_ok
noncomputable def L_Mt0 : LpsT := fun r fr σ => bif Nat.beq r 5 then orc I_Mt01 Mt01_prop fr σ else .fail
noncomputable def Mt0_Tr (v : List (List PV)) (v2 : List (List PV)) : Tr PV := Tr.ite (okR cM (lockLL v)) (Tr.ite (iNe (chkP (lockLL v)) 0) (Tr.ret (PV.tup [PV.sl [] .non, PV.bool false])) (Tr.ite (iNe (xLen v) (xLen v2)) (Tr.ret (PV.tup [PV.sl [] .non, PV.bool false])) (Tr.ite (Mt01_is0 v2 [] v (xLen v) 0) (Tr.ret (PV.tup [PV.sl (shutLL (Mt01_r_0 v2 [] v (xLen v) 0)) .non, PV.bool (Mt01_b_0 v2 [] v (xLen v) 0)])) (Tr.ite (Mt01_is1 v2 [] v (xLen v) 0) (Tr.ret (PV.tup [PV.sl (shutLL (Mt01_r_1 v2 [] v (xLen v) 0)) .non, PV.bool true])) (Tr.ite (Mt01_is2 v2 [] v (xLen v) 0) (Tr.ret (PV.tup [PV.sl (shutLL (Mt01_r_2 v2 [] v (xLen v) 0)) .non, PV.bool (Mt01_b_2 v2 [] v (xLen v) 0)])) (Tr.ite (Mt01_is3 v2 [] v (xLen v) 0) (Tr.ret (PV.tup [PV.sl (shutLL (Mt01_r_3 v2 [] v (xLen v) 0)) .non, PV.bool true])) Tr.fail)))))) Tr.fail
theorem Mt0_T (v : List (List PV)) (v2 : List (List PV)) : (tcall tbT G_Mt0 L_Mt0 Tryd.f18 [.sl v .non, .sl v2 .non]).flat = Mt0_Tr v v2 := by kernel_rfl
noncomputable def Mt0_W (v : List (List PV)) (v2 : List (List PV)) : Option PV := (Mt0_Tr v v2).run
noncomputable def Mt0_r (v : List (List PV)) (v2 : List (List PV)) : List (List PV) := (gRow (gAt (gCs (gVal (Mt0_W v v2))) 0))
noncomputable def Mt0_b (v : List (List PV)) (v2 : List (List PV)) : Bool := (gBool (gAt (gCs (gVal (Mt0_W v v2))) 1))
noncomputable def Mt0_is0 (v : List (List PV)) (v2 : List (List PV)) : Bool := isW (Mt0_W v v2) (.tup [.sl (Mt0_r v v2) .non, .bool (Mt0_b v v2)])
noncomputable def F_Mt0 : List PV → Tr PV | [.sl v .non, .sl v2 .non] => .ite (Mt0_is0 v v2) (.ret (.tup [.sl (Mt0_r v v2) .non, .bool (Mt0_b v v2)])) (.fail) | _ => .fail
theorem sim_Mt0 (gl : Nat → Option Obj) : SimP Tryd.prog gl 18 fun args => (F_Mt0 args).run := by
  refine SimP.of_flat (G := G_Mt0) (L := L_Mt0) tbT_ok (gok_Mt0 gl ) noMixed Tryd.func18 rfl (by rfl) (by kernel_rfl) (loopOk_all (L := lps L_Mt0) [(5, c_Mt01)] (by kernel_rfl) (List.forall_mem_cons.2 ⟨fun fr σ e fr' σ' h => loop_Mt01 gl  fr σ e fr' σ' h, (List.forall_mem_nil _)⟩)) ?_
  intro args x h
  unfold F_Mt0 at h
  split at h
  · exact (congrArg Tr.run (Mt0_T _ _)).trans (ite_isW h fun h => by cases h)
  · cases h
end Go.Pv

set_option maxHeartbeats 4000000
set_option maxRecDepth 200000
set_option linter.unusedSimpArgs false
set_option linter.unusedVariables false
namespace Go.Pv
open Go Go.Proofs
def matchL : List Tm → List Vl → List Bd → Option (List Bd)
  | x :: p, v :: t, acc =>
    if x.1 = 2 then (if x.2.2 = v then matchL p t acc else none)
    else if x.1 = 1 then (match findB acc x.2.1 with
      | none => matchL p t (acc ++ [(x.2.1, v)])
      | some u => if u = v then matchL p t acc else none)
    else matchL p t acc
  | _, _, acc => some acc
def matchT (p : List Tm) (t : List Vl) : Option (List Bd) := if p.length ≤ 8 ∧ p.all isTm = true ∧ p.length = t.length then matchL p t [] else none
def okMT (p t : List (List PV)) : Bool := (matchT (unR cM p) (unR cV t)).isSome
def mTV (p t : List (List PV)) : List (List PV) := rOf cB ((matchT (unR cM p) (unR cV t)).getD [])
theorem idx_find : ∀ (l : List Bd) (nm : List UInt8) (i : Int), 0 ≤ i → (findB l nm = none ∧ idxA l nm i = -1) ∨ ∃ j b, l[j]? = some b ∧ findB l nm = some b.2 ∧ idxA l nm i = i + (j : Nat)
  | [], nm, i, h => .inl ⟨rfl, rfl⟩
  | b :: l, nm, i, h => by
    simp only [findB, idxA]
    by_cases e : b.1 = nm
    · rw [if_pos e, if_pos e]
      exact .inr ⟨0, b, rfl, rfl, by simp⟩
    · rw [if_neg e, if_neg e]
      rcases idx_find l nm (i + 1) (by omega) with h1 | ⟨j, b', h1, h2, h3⟩
      · exact .inl h1
      · exact .inr ⟨j + 1, b', by simpa using h1, h2, by rw [h3]; simp only [Int.natCast_add]; omega⟩
theorem fdO_of (l : List Bd) (nm : List UInt8) : fdO (rOf cB l) nm = (findB l nm).isSome := by simp only [fdO, unR_of]
theorem fdK_of (l : List Bd) (nm : List UInt8) {v : Vl} (h : findB l nm = some v) : fdK (rOf cB l) nm = v.1 := by simp only [fdK, unR_of, h]; rfl
theorem fdN_of (l : List Bd) (nm : List UInt8) {v : Vl} (h : findB l nm = some v) : fdN (rOf cB l) nm = v.2.1 := by simp only [fdN, unR_of, h]; rfl
theorem fdS_of (l : List Bd) (nm : List UInt8) {v : Vl} (h : findB l nm = some v) : fdS (rOf cB l) nm = v.2.2 := by simp only [fdS, unR_of, h]; rfl
theorem chkP_of' (p : List Tm) : chkP (rOf cM p) = if p.length ≤ 8 ∧ p.all isTm = true then 0 else 22 := by simp only [chkP, unR_of]
theorem idxV_of (l : List Bd) (nm : List UInt8) : idxV (rOf cB l) nm = idxA l nm 0 := by simp only [idxV, unR_of]
theorem vl_ne {k n : Int} {s : List UInt8} {k' n' : Int} {s' : List UInt8} (h : ¬ (k, n, s) = (k', n', s')) : ¬ k = k' ∨ ¬ n = n' ∨ ¬ s = s' := by
  by_cases h1 : k = k'
  · by_cases h2 : n = n'
    · exact .inr (.inr fun h3 => h (by rw [h1, h2, h3]))
    · exact .inr (.inl h2)
  · exact .inl h1
/-- What the loop of a match comes to: bindings, or no. -/
def MOut (r : Option (PExit × List PV × Store)) (m : Option (List Bd)) : Prop := match m with
  | some l => r = some (.exit 0, [.sl (rOf cB l) (aT l)], aS 4 74 l)
  | none => ∃ l : List Bd, r = some (.ret, [.sl [] .full, .bool false], aS 4 74 l)
theorem find_name : ∀ (l : List Bd) (nm : List UInt8) (i : Int) (j : Nat) (hj : j < l.length), 0 ≤ i → idxA l nm i = i + (j : Nat) → l[j].1 = nm
  | b :: l, nm, i, 0, _, hi, h => by
    simp only [idxA] at h
    split at h
    · assumption
    · rcases idxA_rng l nm (i + 1) (by omega) with h1 | h1 <;> omega
  | b :: l, nm, i, j + 1, hj, hi, h => by
    simp only [idxA] at h
    split at h
    · omega
    · exact find_name l nm (i + 1) j (by simpa using hj) (by omega) (by omega)
@[simp] theorem fdO_nil (nm : List UInt8) : fdO [] nm = false := fdO_of [] nm
@[simp] theorem idxV_nil (nm : List UInt8) : idxV [] nm = -1 := idxV_of [] nm
theorem RM_loop (p : List Tm) (t : List Vl) (h8 : p.length ≤ 8) (hlen : p.length = t.length) : ∀ (k i : Nat) (acc : List Bd), i + k = p.length → acc.length ≤ i →
    MOut (RM01_V [.sl (rOf cM p) .non, .sl (rOf cV t) .non, .sl (rOf cB acc) (aT acc), .int .i64 (i : Nat)] (aS 4 74 acc)) (matchL (p.drop i) (t.drop i) acc)
  | 0, i, acc, hi, ha => by
    have hn : ¬ (i : Int) < p.length := by omega
    rw [show p.drop i = [] from List.drop_eq_nil_of_le (by omega)]
    simp only [matchL, MOut]
    rcases aTS_cases 4 74 acc with ⟨rfl, c1, c2⟩ | ⟨hne, c1, c2⟩
    · rw [c1, c2]; simp only [rOf_nil]; rw [RM01_E]; simp [RM01_Tr, hn]
    · rw [c1, c2, RM01_E1]; simp [RM01_Tr1, hn]
  | k + 1, i, acc, hi, ha => by
    have h1 : i < p.length := by omega
    have h2 : i < t.length := by omega
    have w := inc_i64 (i := i) (by omega)
    have g1 : (acc.length + 1) * 48 ≤ 140737488355328 := by omega
    have g2 : acc.length ≤ 140737488355327 := by omega
    have same := RM_loop p t h8 hlen k (i + 1) acc (by omega) (by omega)
    rw [List.drop_eq_getElem_cons h1, List.drop_eq_getElem_cons h2]
    have more := RM_loop p t h8 hlen k (i + 1) (acc ++ [(p[i].2.1, t[i])]) (by omega) (by simp; omega)
    rw [aT_snoc, aS_snoc] at more
    simp only [matchL]
    generalize hx : p[i] = x at *
    generalize hv : t[i] = v at *
    obtain ⟨a1, nm, k1, n1, s1⟩ := x
    obtain ⟨k2, n2, s2⟩ := v
    simp only at more ⊢
    by_cases e2 : a1 = 2
    · subst e2
      by_cases ev : (k1, n1, s1) = (k2, n2, s2)
      · rw [if_pos rfl, if_pos ev]
        obtain ⟨rfl, rfl, rfl⟩ : k1 = k2 ∧ n1 = n2 ∧ s1 = s2 := by simpa using ev
        refine Eq.mp (congrArg (fun z => MOut z _) (Eq.symm ?_)) same
        rcases aTS_cases 4 74 acc with ⟨rfl, c1, c2⟩ | ⟨hne, c1, c2⟩
        · rw [c1, c2]; simp only [rOf_nil]; rw [RM01_E (n := (i : Int))]; simp [RM01_Tr, h1, h2, hx, hv, w]
        · rw [c1, c2, RM01_E1 (n := (i : Int))]; simp [RM01_Tr1, h1, h2, hx, hv, w]
      · rw [if_pos rfl, if_neg ev]
        have ev' := vl_ne ev
        refine ⟨acc, ?_⟩
        rcases aTS_cases 4 74 acc with ⟨rfl, c1, c2⟩ | ⟨hne, c1, c2⟩
        · rw [c1, c2]; simp only [rOf_nil]; rw [RM01_E (n := (i : Int))]; simp [RM01_Tr, h1, h2, hx, hv, ev']
        · rw [c1, c2, RM01_E1 (n := (i : Int))]; simp [RM01_Tr1, h1, h2, hx, hv, ev']
    · rw [if_neg e2]
      by_cases e1 : a1 = 1
      · subst e1
        rw [if_pos rfl]
        cases hf : findB acc nm with
        | none =>
          have hi := idx_find acc nm 0 (by omega)
          rw [hf] at hi
          have hidx : idxA acc nm 0 = -1 := by
            rcases hi with ⟨_, h⟩ | ⟨j, b, _, h, _⟩
            · exact h
            · cases h
          refine Eq.mp (congrArg (fun z => MOut z _) (Eq.symm ?_)) more
          rcases aTS_cases 4 74 acc with ⟨rfl, c1, c2⟩ | ⟨hne, c1, c2⟩
          · rw [c1, c2]; simp only [rOf_nil]; rw [RM01_E (n := (i : Int))]; simp [RM01_Tr, h1, h2, hx, hv, w, hf, hidx, one, aT_snoc, aS_snoc, g1, g2, idxV_of, fdO_of]
          · rw [c1, c2, RM01_E1 (n := (i : Int))]; simp [RM01_Tr1, h1, h2, hx, hv, w, hf, hidx, one, aT_snoc, aS_snoc, g1, g2, idxV_of, fdO_of]
        | some u =>
          have hne : acc ≠ [] := by rintro rfl; simp [findB] at hf
          obtain ⟨k3, n3, s3⟩ := u
          have f1 := fdK_of acc nm hf
          have f2 := fdN_of acc nm hf
          have f3 := fdS_of acc nm hf
          simp only at f1 f2 f3
          obtain ⟨j, hj, hjb, hidx⟩ : ∃ j : Nat, ∃ hj : j < acc.length, acc[j] = (nm, k3, n3, s3) ∧ idxA acc nm 0 = (j : Nat) := by
            rcases idx_find acc nm 0 (by omega) with ⟨h, _⟩ | ⟨j, b, h1, h2, h3⟩
            · rw [hf] at h; cases h
            · obtain ⟨hj, rfl⟩ := List.getElem?_eq_some_iff.1 h1
              rw [hf] at h2
              have hn : acc[j].1 = nm := find_name acc nm 0 j hj (by omega) h3
              exact ⟨j, hj, Prod.ext hn (Option.some.inj h2).symm, by rw [h3]; omega⟩
          have hidx' : ¬ (j : Int) < 0 := by omega
          by_cases ev : (k3, n3, s3) = (k2, n2, s2)
          · simp only [if_pos ev]
            obtain ⟨rfl, rfl, rfl⟩ : k3 = k2 ∧ n3 = n2 ∧ s3 = s2 := by simpa using ev
            refine Eq.mp (congrArg (fun z => MOut z _) (Eq.symm ?_)) same
            rcases aTS_cases 4 74 acc with ⟨h0, c1, c2⟩ | ⟨_, c1, c2⟩
            · exact absurd h0 hne
            · rw [c1, c2, RM01_E1 (n := (i : Int))]; simp [RM01_Tr1, h1, h2, hx, hv, w, hf, hidx, hidx', hj, hjb, idxV_of, fdO_of, f1, f2, f3]
          · simp only [if_neg ev]
            have ev' := vl_ne ev
            refine ⟨acc, ?_⟩
            rcases aTS_cases 4 74 acc with ⟨h0, c1, c2⟩ | ⟨_, c1, c2⟩
            · exact absurd h0 hne
            · rw [c1, c2, RM01_E1 (n := (i : Int))]; simp [RM01_Tr1, h1, h2, hx, hv, ev', hf, hidx, hidx', hj, hjb, idxV_of, fdO_of, f1, f2, f3]
      · rw [if_neg e1]
        refine Eq.mp (congrArg (fun z => MOut z _) (Eq.symm ?_)) same
        rcases aTS_cases 4 74 acc with ⟨rfl, c1, c2⟩ | ⟨hne, c1, c2⟩
        · rw [c1, c2]; simp only [rOf_nil]; rw [RM01_E (n := (i : Int))]; simp [RM01_Tr, h1, h2, hx, hv, w, e1, e2, fdO_of, idxV_of]
        · rw [c1, c2, RM01_E1 (n := (i : Int))]; simp [RM01_Tr1, h1, h2, hx, hv, w, e1, e2, fdO_of, idxV_of]
theorem Mt_loop (p : List Tm) (t : List Vl) (h8 : p.length ≤ 8) (hlen : p.length = t.length) : ∀ (k i : Nat) (acc : List Bd), i + k = p.length → acc.length ≤ i →
    MOut (Mt01_V [.sl (rOf cV t) .non, .sl (rOf cB acc) (aT acc), .sl (rOf cM p) .non, .int .i64 (p.length : Nat), .int .i64 (i : Nat)] (aS 4 74 acc)) (matchL (p.drop i) (t.drop i) acc)
  | 0, i, acc, hi, ha => by
    have hn : ¬ (i : Int) < p.length := by omega
    rw [show p.drop i = [] from List.drop_eq_nil_of_le (by omega)]
    simp only [matchL, MOut]
    rcases aTS_cases 4 74 acc with ⟨rfl, c1, c2⟩ | ⟨hne, c1, c2⟩
    · rw [c1, c2]; simp only [rOf_nil]; rw [Mt01_E]; simp [Mt01_Tr, hn]
    · rw [c1, c2, Mt01_E1]; simp [Mt01_Tr1, hn]
  | k + 1, i, acc, hi, ha => by
    have h1 : i < p.length := by omega
    have h2 : i < t.length := by omega
    have w := inc_i64 (i := i) (by omega)
    have g1 : (acc.length + 1) * 48 ≤ 140737488355328 := by omega
    have g2 : acc.length ≤ 140737488355327 := by omega
    have same := Mt_loop p t h8 hlen k (i + 1) acc (by omega) (by omega)
    rw [List.drop_eq_getElem_cons h1, List.drop_eq_getElem_cons h2]
    have more := Mt_loop p t h8 hlen k (i + 1) (acc ++ [(p[i].2.1, t[i])]) (by omega) (by simp; omega)
    rw [aT_snoc, aS_snoc] at more
    simp only [matchL]
    generalize hx : p[i] = x at *
    generalize hv : t[i] = v at *
    obtain ⟨a1, nm, k1, n1, s1⟩ := x
    obtain ⟨k2, n2, s2⟩ := v
    simp only at more ⊢
    by_cases e2 : a1 = 2
    · subst e2
      by_cases ev : (k1, n1, s1) = (k2, n2, s2)
      · rw [if_pos rfl, if_pos ev]
        obtain ⟨rfl, rfl, rfl⟩ : k1 = k2 ∧ n1 = n2 ∧ s1 = s2 := by simpa using ev
        refine Eq.mp (congrArg (fun z => MOut z _) (Eq.symm ?_)) same
        rcases aTS_cases 4 74 acc with ⟨rfl, c1, c2⟩ | ⟨hne, c1, c2⟩
        · rw [c1, c2]; simp only [rOf_nil]; rw [Mt01_E (n2 := (i : Int))]; simp [Mt01_Tr, h1, h2, hx, hv, w]
        · rw [c1, c2, Mt01_E1 (n2 := (i : Int))]; simp [Mt01_Tr1, h1, h2, hx, hv, w]
      · rw [if_pos rfl, if_neg ev]
        have ev' := vl_ne ev
        refine ⟨acc, ?_⟩
        rcases aTS_cases 4 74 acc with ⟨rfl, c1, c2⟩ | ⟨hne, c1, c2⟩
        · rw [c1, c2]; simp only [rOf_nil]; rw [Mt01_E (n2 := (i : Int))]; simp [Mt01_Tr, h1, h2, hx, hv, ev']
        · rw [c1, c2, Mt01_E1 (n2 := (i : Int))]; simp [Mt01_Tr1, h1, h2, hx, hv, ev']
    · rw [if_neg e2]
      by_cases e1 : a1 = 1
      · subst e1
        rw [if_pos rfl]
        cases hf : findB acc nm with
        | none =>
          have hi := idx_find acc nm 0 (by omega)
          rw [hf] at hi
          have hidx : idxA acc nm 0 = -1 := by
            rcases hi with ⟨_, h⟩ | ⟨j, b, _, h, _⟩
            · exact h
            · cases h
          refine Eq.mp (congrArg (fun z => MOut z _) (Eq.symm ?_)) more
          rcases aTS_cases 4 74 acc with ⟨rfl, c1, c2⟩ | ⟨hne, c1, c2⟩
          · rw [c1, c2]; simp only [rOf_nil]; rw [Mt01_E (n2 := (i : Int))]; simp [Mt01_Tr, h1, h2, hx, hv, w, hf, hidx, one, aT_snoc, aS_snoc, g1, g2, idxV_of, fdO_of]
          · rw [c1, c2, Mt01_E1 (n2 := (i : Int))]; simp [Mt01_Tr1, h1, h2, hx, hv, w, hf, hidx, one, aT_snoc, aS_snoc, g1, g2, idxV_of, fdO_of]
        | some u =>
          have hne : acc ≠ [] := by rintro rfl; simp [findB] at hf
          obtain ⟨k3, n3, s3⟩ := u
          have f1 := fdK_of acc nm hf
          have f2 := fdN_of acc nm hf
          have f3 := fdS_of acc nm hf
          simp only at f1 f2 f3
          obtain ⟨j, hj, hjb, hidx⟩ : ∃ j : Nat, ∃ hj : j < acc.length, acc[j] = (nm, k3, n3, s3) ∧ idxA acc nm 0 = (j : Nat) := by
            rcases idx_find acc nm 0 (by omega) with ⟨h, _⟩ | ⟨j, b, h1, h2, h3⟩
            · rw [hf] at h; cases h
            · obtain ⟨hj, rfl⟩ := List.getElem?_eq_some_iff.1 h1
              rw [hf] at h2
              have hn : acc[j].1 = nm := find_name acc nm 0 j hj (by omega) h3
              exact ⟨j, hj, Prod.ext hn (Option.some.inj h2).symm, by rw [h3]; omega⟩
          have hidx' : ¬ (j : Int) < 0 := by omega
          by_cases ev : (k3, n3, s3) = (k2, n2, s2)
          · simp only [if_pos ev]
            obtain ⟨rfl, rfl, rfl⟩ : k3 = k2 ∧ n3 = n2 ∧ s3 = s2 := by simpa using ev
            refine Eq.mp (congrArg (fun z => MOut z _) (Eq.symm ?_)) same
            rcases aTS_cases 4 74 acc with ⟨h0, c1, c2⟩ | ⟨_, c1, c2⟩
            · exact absurd h0 hne
            · rw [c1, c2, Mt01_E1 (n2 := (i : Int))]; simp [Mt01_Tr1, h1, h2, hx, hv, w, hf, hidx, hidx', hj, hjb, idxV_of, fdO_of, f1, f2, f3]
          · simp only [if_neg ev]
            have ev' := vl_ne ev
            refine ⟨acc, ?_⟩
            rcases aTS_cases 4 74 acc with ⟨h0, c1, c2⟩ | ⟨_, c1, c2⟩
            · exact absurd h0 hne
            · rw [c1, c2, Mt01_E1 (n2 := (i : Int))]; simp [Mt01_Tr1, h1, h2, hx, hv, ev', hf, hidx, hidx', hj, hjb, idxV_of, fdO_of, f1, f2, f3]
      · rw [if_neg e1]
        refine Eq.mp (congrArg (fun z => MOut z _) (Eq.symm ?_)) same
        rcases aTS_cases 4 74 acc with ⟨rfl, c1, c2⟩ | ⟨hne, c1, c2⟩
        · rw [c1, c2]; simp only [rOf_nil]; rw [Mt01_E (n2 := (i : Int))]; simp [Mt01_Tr, h1, h2, hx, hv, w, e1, e2, fdO_of, idxV_of]
        · rw [c1, c2, Mt01_E1 (n2 := (i : Int))]; simp [Mt01_Tr1, h1, h2, hx, hv, w, e1, e2, fdO_of, idxV_of]
theorem RM_law (p : List Tm) (t : List Vl) : RM0_W (rOf cM p) (rOf cV t) = some (match matchT p t with | some l => .tup [.sl (rOf cB l) .non, .bool true] | none => .tup [.sl [] .non, .bool false]) := by
  unfold RM0_W RM0_Tr matchT
  simp only [lockLL_rOf, chkP_of']
  by_cases h8 : p.length ≤ 8 ∧ p.all isTm = true
  · by_cases hl : p.length = t.length
    · have h := RM_loop p t h8.1 hl p.length 0 [] (by omega) (by simp)
      have hl' : ¬ (p.length : Int) ≠ t.length := by omega
      rw [if_pos h8, if_pos ⟨h8.1, h8.2, hl⟩]
      simp only [List.drop_zero] at h
      cases hm : matchL p t [] with
      | some l =>
        rw [hm] at h
        simp only [MOut] at h
        rcases aTS_cases 4 74 l with ⟨rfl, c1, c2⟩ | ⟨hne, c1, c2⟩
        · rw [c1, c2] at h; simp at h; simp [RM01_is0, RM01_is1, RM01_is2, RM01_is3, RM01_r_0, RM01_b_0, RM01_r_1, RM01_r_2, RM01_b_2, RM01_k_2, RM01_r_3, RM01_k_3, RM01_W, h, hl.symm]
        · rw [c1, c2] at h; simp at h; simp [RM01_is0, RM01_is1, RM01_is2, RM01_is3, RM01_r_0, RM01_b_0, RM01_r_1, RM01_r_2, RM01_b_2, RM01_k_2, RM01_r_3, RM01_k_3, RM01_W, h, hl.symm]
      | none =>
        rw [hm] at h
        obtain ⟨l, h⟩ := h
        rcases aTS_cases 4 74 l with ⟨rfl, c1, c2⟩ | ⟨hne, c1, c2⟩
        · rw [c2] at h; simp at h; simp [RM01_is0, RM01_is1, RM01_is2, RM01_is3, RM01_r_0, RM01_b_0, RM01_r_1, RM01_r_2, RM01_b_2, RM01_k_2, RM01_r_3, RM01_k_3, RM01_W, h, hl.symm]
        · rw [c2] at h; simp at h; simp [RM01_is0, RM01_is1, RM01_is2, RM01_is3, RM01_r_0, RM01_b_0, RM01_r_1, RM01_r_2, RM01_b_2, RM01_k_2, RM01_r_3, RM01_k_3, RM01_W, h, hl.symm]
    · have hl' : (p.length : Int) ≠ t.length := by omega
      rw [if_pos h8, if_neg (fun h => hl h.2.2)]
      simp [hl', hl]
  · rw [if_neg h8, if_neg (fun h => h8 ⟨h.1, h.2.1⟩)]
    simp
def F_RM : List PV → Tr PV
  | [.sl p .non, .sl t .non] => Tr.chk (okR cM p) (Tr.chk (okR cV t) (.ite (okMT p t) (.ret (.tup [.sl (mTV p t) .non, .bool true])) (.ret (.tup [.sl [] .non, .bool false]))))
  | _ => .fail
theorem sim_RM (gl : Nat → Option Obj) : SimP Tryd.prog gl 27 fun args => (F_RM args).run := by
  refine SimP.given (sim_RM0 gl) ?_
  intro args x hg h
  unfold F_RM at h
  split at h
  · rename_i p t
    obtain ⟨h0, q0⟩ := Tr.chk_some h
    obtain ⟨h1, q1⟩ := Tr.chk_some q0
    have q := q1
    obtain ⟨p, rfl⟩ := okR_eq _ h0
    obtain ⟨t, rfl⟩ := okR_eq _ h1
    have hw := RM_law p t
    have hO : okMT (rOf cM p) (rOf cV t) = (matchT p t).isSome := by simp only [okMT, unR_of]
    have hV : mTV (rOf cM p) (rOf cV t) = rOf cB ((matchT p t).getD []) := by simp only [mTV, unR_of]
    rw [hO, hV] at q
    cases hm : matchT p t with
    | some l => rw [hm] at hw q; simp at q; subst q; simp at hw; simp [F_RM0, RM0_is0, RM0_r, RM0_b, hw]
    | none => rw [hm] at hw q; simp at q; subst q; simp at hw; simp [F_RM0, RM0_is0, RM0_r, RM0_b, hw]
  · cases h
theorem Mt_law (p : List Tm) (t : List Vl) : Mt0_W (rOf cM p) (rOf cV t) = some (match matchT p t with | some l => .tup [.sl (rOf cB l) .non, .bool true] | none => .tup [.sl [] .non, .bool false]) := by
  unfold Mt0_W Mt0_Tr matchT
  simp only [lockLL_rOf, chkP_of']
  by_cases h8 : p.length ≤ 8 ∧ p.all isTm = true
  · by_cases hl : p.length = t.length
    · have h := Mt_loop p t h8.1 hl p.length 0 [] (by omega) (by simp)
      have hl' : ¬ (p.length : Int) ≠ t.length := by omega
      rw [if_pos h8, if_pos ⟨h8.1, h8.2, hl⟩]
      simp only [List.drop_zero] at h
      cases hm : matchL p t [] with
      | some l =>
        rw [hm] at h
        simp only [MOut] at h
        rcases aTS_cases 4 74 l with ⟨rfl, c1, c2⟩ | ⟨hne, c1, c2⟩
        · rw [c1, c2] at h; simp at h; simp [Mt01_is0, Mt01_is1, Mt01_is2, Mt01_is3, Mt01_r_0, Mt01_b_0, Mt01_r_1, Mt01_r_2, Mt01_b_2, Mt01_k_2, Mt01_r_3, Mt01_k_3, Mt01_W, h, hl.symm]
        · rw [c1, c2] at h; simp at h; simp [Mt01_is0, Mt01_is1, Mt01_is2, Mt01_is3, Mt01_r_0, Mt01_b_0, Mt01_r_1, Mt01_r_2, Mt01_b_2, Mt01_k_2, Mt01_r_3, Mt01_k_3, Mt01_W, h, hl.symm]
      | none =>
        rw [hm] at h
        obtain ⟨l, h⟩ := h
        rcases aTS_cases 4 74 l with ⟨rfl, c1, c2⟩ | ⟨hne, c1, c2⟩
        · rw [c2] at h; simp at h; simp [Mt01_is0, Mt01_is1, Mt01_is2, Mt01_is3, Mt01_r_0, Mt01_b_0, Mt01_r_1, Mt01_r_2, Mt01_b_2, Mt01_k_2, Mt01_r_3, Mt01_k_3, Mt01_W, h, hl.symm]
        · rw [c2] at h; simp at h; simp [Mt01_is0, Mt01_is1, Mt01_is2, Mt01_is3, Mt01_r_0, Mt01_b_0, Mt01_r_1, Mt01_r_2, Mt01_b_2, Mt01_k_2, Mt01_r_3, Mt01_k_3, Mt01_W, h, hl.symm]
    · have hl' : (p.length : Int) ≠ t.length := by omega
      rw [if_pos h8, if_neg (fun h => hl h.2.2)]
      simp [hl', hl]
  · rw [if_neg h8, if_neg (fun h => h8 ⟨h.1, h.2.1⟩)]
    simp
def F_Mt : List PV → Tr PV
  | [.sl p .non, .sl t .non] => Tr.chk (okR cM p) (Tr.chk (okR cV t) (.ite (okMT p t) (.ret (.tup [.sl (mTV p t) .non, .bool true])) (.ret (.tup [.sl [] .non, .bool false]))))
  | _ => .fail
theorem sim_Mt (gl : Nat → Option Obj) : SimP Tryd.prog gl 18 fun args => (F_Mt args).run := by
  refine SimP.given (sim_Mt0 gl) ?_
  intro args x hg h
  unfold F_Mt at h
  split at h
  · rename_i p t
    obtain ⟨h0, q0⟩ := Tr.chk_some h
    obtain ⟨h1, q1⟩ := Tr.chk_some q0
    have q := q1
    obtain ⟨p, rfl⟩ := okR_eq _ h0
    obtain ⟨t, rfl⟩ := okR_eq _ h1
    have hw := Mt_law p t
    have hO : okMT (rOf cM p) (rOf cV t) = (matchT p t).isSome := by simp only [okMT, unR_of]
    have hV : mTV (rOf cM p) (rOf cV t) = rOf cB ((matchT p t).getD []) := by simp only [mTV, unR_of]
    rw [hO, hV] at q
    cases hm : matchT p t with
    | some l => rw [hm] at hw q; simp at q; subst q; simp at hw; simp [F_Mt0, Mt0_is0, Mt0_r, Mt0_b, hw]
    | none => rw [hm] at hw q; simp at q; subst q; simp at hw; simp [F_Mt0, Mt0_is0, Mt0_r, Mt0_b, hw]
  · cases h
end Go.Pv

set_option maxHeartbeats 4000000
set_option maxRecDepth 200000
set_option linter.unusedSimpArgs false
set_option linter.unusedVariables false
namespace Go.Pv
open Go Go.Proofs
noncomputable def G_few : GamT := ofL []
theorem gok_few (gl : Nat → Option Obj) : GamOk Tryd.prog gl (gam G_few) := gamOk_nil
noncomputable def c_few1 : Code := loopC Tryd.f24 3
def I_few1 : LI := ⟨30, [0, 3, 4], fun e => match e with | .exit 0 => [3] | _ => [], true⟩
noncomputable def LI_few1 : LpsT := fun r fr σ => .fail
noncomputable def few1_V (vs : List PV) (σ : Store) : Option (PExit × List PV × Store) := lval (lstep tbT G_few LI_few1 c_few1 I_few1) vs σ
noncomputable def few1_Tr (l : List (List PV)) (out : List (List PV)) (i : Int) : Tr LR := Tr.ite (iLt i (xLen l)) (Tr.ite (iLt (xLen out) 60) (Tr.ite (okPos i) (Tr.ite (okGet [PV.sl [] .full] l (nNat i)) (Tr.ite (iLe (xLen (xRow l (nNat i) 0)) 20) (Tr.ite (okPos i) (Tr.ite (okGet [PV.sl [] .full] l (nNat i)) (Tr.ite (okGrow out [[PV.sl (xRow l (nNat i) 0) .non]] 24) (Tr.ite (okNews [[PV.sl (xRow l (nNat i) 0) .non]] 1) (Tr.ite (okSize out 1) (Tr.ret (LR.next [PV.sl l .non, PV.sl (xApp out [[PV.sl (xRow l (nNat i) 0) .non]]) (.tok 0), PV.int .i64 (iAdd .i64 i 1)] (Store.mk [] [(nXs (xApp out [[PV.sl (xRow l (nNat i) 0) .non]]), 1, 23)] []))) Tr.fail) Tr.fail) Tr.fail) Tr.fail) Tr.fail) (Tr.ret (LR.next [PV.sl l .non, PV.sl out .full, PV.int .i64 (iAdd .i64 i 1)] (Store.mk [] [] [])))) Tr.fail) Tr.fail) (Tr.ret (LR.out (.exit 0) [PV.sl out .full] (Store.mk [] [] [])))) (Tr.ret (LR.out (.exit 0) [PV.sl out .full] (Store.mk [] [] [])))
theorem few1_T (l : List (List PV)) (out : List (List PV)) (i : Int) : lstep tbT G_few LI_few1 c_few1 I_few1 [.sl l .non, .sl out .full, .int .i64 i] ⟨[], [], []⟩ = few1_Tr l out i := by kernel_rfl
theorem few1_E (l : List (List PV)) (out : List (List PV)) (i : Int) : few1_V [.sl l .non, .sl out .full, .int .i64 i] ⟨[], [], []⟩ = lnext few1_V (few1_Tr l out i).run := by unfold few1_V; rw [lval_eq, few1_T]
noncomputable def few1_Tr1 (l : List (List PV)) (out : List (List PV)) (i : Int) (k : Nat) : Tr LR := Tr.ite (iLt i (xLen l)) (Tr.ite (iLt (xLen out) 60) (Tr.ite (okPos i) (Tr.ite (okGet [PV.sl [] .full] l (nNat i)) (Tr.ite (iLe (xLen (xRow l (nNat i) 0)) 20) (Tr.ite (okPos i) (Tr.ite (okGet [PV.sl [] .full] l (nNat i)) (Tr.ite (okGrow out [[PV.sl (xRow l (nNat i) 0) .non]] 24) (Tr.ite (okNews [[PV.sl (xRow l (nNat i) 0) .non]] 1) (Tr.ite (okSize out 1) (Tr.ite (nEq k (nXs out)) (Tr.ret (LR.next [PV.sl l .non, PV.sl (xApp out [[PV.sl (xRow l (nNat i) 0) .non]]) (.tok 0), PV.int .i64 (iAdd .i64 i 1)] (Store.mk [] [(nXs (xApp out [[PV.sl (xRow l (nNat i) 0) .non]]), 1, 23)] []))) Tr.fail) Tr.fail) Tr.fail) Tr.fail) Tr.fail) Tr.fail) (Tr.ret (LR.next [PV.sl l .non, PV.sl out (.tok 0), PV.int .i64 (iAdd .i64 i 1)] (Store.mk [] [(k, 1, 23)] [])))) Tr.fail) Tr.fail) (Tr.ret (LR.out (.exit 0) [PV.sl out (.tok 0)] (Store.mk [] [(k, 1, 23)] [])))) (Tr.ret (LR.out (.exit 0) [PV.sl out (.tok 0)] (Store.mk [] [(k, 1, 23)] [])))
theorem few1_T1 (l : List (List PV)) (out : List (List PV)) (i : Int) (k : Nat) : lstep tbT G_few LI_few1 c_few1 I_few1 [.sl l .non, .sl out (.tok 0), .int .i64 i] ⟨[], [(k, 1, 23)], []⟩ = few1_Tr1 l out i k := by kernel_rfl
theorem few1_E1 (l : List (List PV)) (out : List (List PV)) (i : Int) (k : Nat) : few1_V [.sl l .non, .sl out (.tok 0), .int .i64 i] ⟨[], [(k, 1, 23)], []⟩ = lnext few1_V (few1_Tr1 l out i k).run := by unfold few1_V; rw [lval_eq, few1_T1]
noncomputable def few1_W (l : List (List PV)) (out : List (List PV)) (i : Int) : Option (PExit × List PV × Store) := few1_V [.sl l .non, .sl out .full, .int .i64 i] ⟨[], [], []⟩
noncomputable def few1_out_0 (l : List (List PV)) (out : List (List PV)) (i : Int) : List (List PV) := (gRow (gOut (few1_W l out i) 0))
noncomputable def few1_is0 (l : List (List PV)) (out : List (List PV)) (i : Int) : Bool := isW (few1_W l out i) ((.exit 0), [.sl (few1_out_0 l out i) .full], ⟨[], [], []⟩)
noncomputable def few1_out_1 (l : List (List PV)) (out : List (List PV)) (i : Int) : List (List PV) := (gRow (gOut (few1_W l out i) 0))
noncomputable def few1_k_1 (l : List (List PV)) (out : List (List PV)) (i : Int) : Nat := (gTok (few1_W l out i) 0)
noncomputable def few1_is1 (l : List (List PV)) (out : List (List PV)) (i : Int) : Bool := isW (few1_W l out i) ((.exit 0), [.sl (few1_out_1 l out i) (.tok 0)], ⟨[], [((few1_k_1 l out i), 1, 23)], []⟩)
noncomputable def few1_prop : List PV → Store → Tr (PExit × List PV × Store) | [.sl l .non, .sl out .full, .int .i64 i], ⟨[], [], []⟩ => .ite (few1_is0 l out i) (.ret ((.exit 0), [.sl (few1_out_0 l out i) .full], ⟨[], [], []⟩)) (.ite (few1_is1 l out i) (.ret ((.exit 0), [.sl (few1_out_1 l out i) (.tok 0)], ⟨[], [((few1_k_1 l out i), 1, 23)], []⟩)) (.fail)) | _, _ => .fail
theorem few1_ok : ∀ vs σ r, (few1_prop vs σ).run = some r → few1_V vs σ = some r := by
  intro vs σ r h
  unfold few1_prop at h
  split at h
  · exact ite_isW h fun h => ite_isW h fun h => by cases h
  · cases h
theorem loop_few1 (gl : Nat → Option Obj) : ∀ fr σ e fr' σ', (orc I_few1 few1_prop fr σ).run = some (e, fr', σ') → LDoes Tryd.prog gl c_few1 fr σ e fr' σ' := orc_ok tbT_ok (gok_few gl ) noMixed (L := LI_few1) (loopOk_none (by kernel_rfl)) (by kernel_rfl) few1_ok
noncomputable def L_few : LpsT := fun r fr σ => bif Nat.beq r 3 then orc I_few1 few1_prop fr σ else .fail
noncomputable def few_Tr (l : List (List PV)) : Tr PV := Tr.ite (few1_is0 l [] 0) (Tr.ret (PV.sl (shutLL (few1_out_0 l [] 0)) .non)) (Tr.ite (few1_is1 l [] 0) (Tr.ret (PV.sl (shutLL (few1_out_1 l [] 0)) .non)) Tr.fail)
theorem few_T (l : List (List PV)) : (tcall tbT G_few L_few Tryd.f24 [.sl l .non]).flat = few_Tr l := by kernel_rfl
noncomputable def few_W (l : List (List PV)) : Option PV := (few_Tr l).run
noncomputable def few_r (l : List (List PV)) : List (List PV) := (gRow (gVal (few_W l)))
noncomputable def few_is0 (l : List (List PV)) : Bool := isW (few_W l) (.sl (few_r l) .non)
noncomputable def F_few : List PV → Tr PV | [.sl l .non] => .ite (few_is0 l) (.ret (.sl (few_r l) .non)) (.fail) | _ => .fail
theorem sim_few (gl : Nat → Option Obj) : SimP Tryd.prog gl 24 fun args => (F_few args).run := by
  refine SimP.of_flat (G := G_few) (L := L_few) tbT_ok (gok_few gl ) noMixed Tryd.func24 rfl (by rfl) (by kernel_rfl) (loopOk_all (L := lps L_few) [(3, c_few1)] (by kernel_rfl) (List.forall_mem_cons.2 ⟨fun fr σ e fr' σ' h => loop_few1 gl  fr σ e fr' σ' h, (List.forall_mem_nil _)⟩)) ?_
  intro args x h
  unfold F_few at h
  split at h
  · exact (congrArg Tr.run (few_T _)).trans (ite_isW h fun h => by cases h)
  · cases h
noncomputable def G_winc : GamT := ofL []
theorem gok_winc (gl : Nat → Option Obj) : GamOk Tryd.prog gl (gam G_winc) := gamOk_nil
noncomputable def L_winc : LpsT := fun r fr σ => .fail
noncomputable def winc_Tr (n : Int) (t : List (List PV)) : Tr PV := Tr.ite (okSub true (okPos (imin n (xLen t))) 0 (nNat (imin n (xLen t))) (nXs t)) (Tr.ite (okSize t 3) (Tr.ret (PV.sl (shutLL (xSub t 0 (nNat (imin n (xLen t))))) .non)) Tr.fail) Tr.fail
theorem winc_T (n : Int) (t : List (List PV)) : (tcall tbT G_winc L_winc Tryd.f60 [.int .i64 n, .ref [.sl t .non]]).flat = winc_Tr n t := by kernel_rfl
noncomputable def F_winc : List PV → Tr PV | [.int .i64 n, .ref [.sl t .non]] => winc_Tr n t | _ => .fail
theorem sim_winc (gl : Nat → Option Obj) : SimP Tryd.prog gl 60 fun args => (F_winc args).run := by
  refine SimP.of_flat (G := G_winc) (L := L_winc) tbT_ok (gok_winc gl ) noMixed Tryd.func60 rfl (by rfl) (by kernel_rfl) (loopOk_none (by kernel_rfl)) ?_
  intro args x h
  unfold F_winc at h
  split at h
  · exact (congrArg Tr.run (winc_T _ _)).trans h
  · cases h
noncomputable def G_TWithin : GamT := ofL [(16, .pure F_TCmp), (60, .pure F_winc)]
theorem gok_TWithin (gl : Nat → Option Obj) : GamOk Tryd.prog gl (gam G_TWithin) := (gamOk_cons (sim_TCmp gl) (gamOk_cons (sim_winc gl) gamOk_nil))
noncomputable def L_TWithin : LpsT := fun r fr σ => .fail
noncomputable def TWithin_Tr (low : List (List PV)) (t : List (List PV)) (high : List (List PV)) : Tr PV := Tr.ite (okSub true (okPos (imin (xLen low) (xLen (lockLL t)))) 0 (nNat (imin (xLen low) (xLen (lockLL t)))) (nXs (lockLL t))) (Tr.ite (okSize (lockLL t) 3) (Tr.ite (okR cV (lockLL (lockLL (shutLL (xSub (lockLL t) 0 (nNat (imin (xLen low) (xLen (lockLL t))))))))) (Tr.ite (okR cV (lockLL (lockLL low))) (Tr.ite (iLe 0 (cmpTV (lockLL (lockLL (shutLL (xSub (lockLL t) 0 (nNat (imin (xLen low) (xLen (lockLL t)))))))) (lockLL (lockLL low)))) (Tr.ite (okSub true (okPos (imin (xLen high) (xLen (lockLL t)))) 0 (nNat (imin (xLen high) (xLen (lockLL t)))) (nXs (lockLL t))) (Tr.ite (okSize (lockLL t) 3) (Tr.ite (okR cV (lockLL (lockLL (shutLL (xSub (lockLL t) 0 (nNat (imin (xLen high) (xLen (lockLL t))))))))) (Tr.ite (okR cV (lockLL (lockLL high))) (Tr.ret (PV.bool (iLe (cmpTV (lockLL (lockLL (shutLL (xSub (lockLL t) 0 (nNat (imin (xLen high) (xLen (lockLL t)))))))) (lockLL (lockLL high))) 0))) Tr.fail) Tr.fail) Tr.fail) Tr.fail) (Tr.ret (PV.bool false))) Tr.fail) Tr.fail) Tr.fail) Tr.fail
theorem TWithin_T (low : List (List PV)) (t : List (List PV)) (high : List (List PV)) : (tcall tbT G_TWithin L_TWithin Tryd.f21 [.sl low .non, .sl t .non, .sl high .non]).flat = TWithin_Tr low t high := by kernel_rfl
noncomputable def F_TWithin : List PV → Tr PV | [.sl low .non, .sl t .non, .sl high .non] => TWithin_Tr low t high | _ => .fail
theorem sim_TWithin (gl : Nat → Option Obj) : SimP Tryd.prog gl 21 fun args => (F_TWithin args).run := by
  refine SimP.of_flat (G := G_TWithin) (L := L_TWithin) tbT_ok (gok_TWithin gl ) noMixed Tryd.func21 rfl (by rfl) (by kernel_rfl) (loopOk_none (by kernel_rfl)) ?_
  intro args x h
  unfold F_TWithin at h
  split at h
  · exact (congrArg Tr.run (TWithin_T _ _ _)).trans h
  · cases h
noncomputable def G_RWithin : GamT := ofL [(39, .pure F_CmpR)]
theorem gok_RWithin (gl : Nat → Option Obj) : GamOk Tryd.prog gl (gam G_RWithin) := (gamOk_cons (sim_CmpR gl) gamOk_nil)
noncomputable def L_RWithin : LpsT := fun r fr σ => .fail
noncomputable def RWithin_Tr (low : List (List PV)) (t : List (List PV)) (high : List (List PV)) : Tr PV := Tr.ite (okSub true (okPos (imin (xLen t) (xLen low))) 0 (nNat (imin (xLen t) (xLen low))) (nXs t)) (Tr.ite (okSize t 3) (Tr.ite (okR cV (lockLL (xSub t 0 (nNat (imin (xLen t) (xLen low)))))) (Tr.ite (okR cV (lockLL low)) (Tr.ite (iLe 0 (cmpTR (lockLL (xSub t 0 (nNat (imin (xLen t) (xLen low))))) (lockLL low))) (Tr.ite (okSub true (okPos (imin (xLen t) (xLen high))) 0 (nNat (imin (xLen t) (xLen high))) (nXs t)) (Tr.ite (okSize t 3) (Tr.ite (okR cV (lockLL (xSub t 0 (nNat (imin (xLen t) (xLen high)))))) (Tr.ite (okR cV (lockLL high)) (Tr.ret (PV.bool (iLe (cmpTR (lockLL (xSub t 0 (nNat (imin (xLen t) (xLen high))))) (lockLL high)) 0))) Tr.fail) Tr.fail) Tr.fail) Tr.fail) (Tr.ret (PV.bool false))) Tr.fail) Tr.fail) Tr.fail) Tr.fail
theorem RWithin_T (low : List (List PV)) (t : List (List PV)) (high : List (List PV)) : (tcall tbT G_RWithin L_RWithin Tryd.f22 [.sl low .non, .sl t .non, .sl high .non]).flat = RWithin_Tr low t high := by kernel_rfl
noncomputable def F_RWithin : List PV → Tr PV | [.sl low .non, .sl t .non, .sl high .non] => RWithin_Tr low t high | _ => .fail
theorem sim_RWithin (gl : Nat → Option Obj) : SimP Tryd.prog gl 22 fun args => (F_RWithin args).run := by
  refine SimP.of_flat (G := G_RWithin) (L := L_RWithin) tbT_ok (gok_RWithin gl ) noMixed Tryd.func22 rfl (by rfl) (by kernel_rfl) (loopOk_none (by kernel_rfl)) ?_
  intro args x h
  unfold F_RWithin at h
  split at h
  · exact (congrArg Tr.run (RWithin_T _ _ _)).trans h
  · cases h
noncomputable def G_SameRel : GamT := ofL [(17, .pure F_Same)]
theorem gok_SameRel (gl : Nat → Option Obj) : GamOk Tryd.prog gl (gam G_SameRel) := (gamOk_cons (sim_Same gl) gamOk_nil)
noncomputable def c_SameRel1 : Code := loopC Tryd.f31 4
def I_SameRel1 : LI := ⟨27, [0, 1, 5], fun e => match e with | .ret => [4] | .exit 0 => [] | _ => [], true⟩
noncomputable def LI_SameRel1 : LpsT := fun r fr σ => .fail
noncomputable def SameRel1_V (vs : List PV) (σ : Store) : Option (PExit × List PV × Store) := lval (lstep tbT G_SameRel LI_SameRel1 c_SameRel1 I_SameRel1) vs σ
noncomputable def SameRel1_Tr (a : List (List PV)) (b : List (List PV)) (i : Int) : Tr LR := Tr.ite (iLt i (xLen a)) (Tr.ite (okPos i) (Tr.ite (okGet [PV.sl [] .full] a (nNat i)) (Tr.ite (okPos i) (Tr.ite (okGet [PV.sl [] .full] b (nNat i)) (Tr.ite (okR cV (lockLL (lockLL (xRow a (nNat i) 0)))) (Tr.ite (okR cV (lockLL (lockLL (xRow b (nNat i) 0)))) (Tr.ite (bNot (iEq (cmpTR (lockLL (lockLL (xRow a (nNat i) 0))) (lockLL (lockLL (xRow b (nNat i) 0)))) 0)) (Tr.ret (LR.out .ret [PV.bool false] (Store.mk [] [] []))) (Tr.ret (LR.next [PV.sl a .non, PV.sl b .non, PV.int .i64 (iAdd .i64 i 1)] (Store.mk [] [] [])))) Tr.fail) Tr.fail) Tr.fail) Tr.fail) Tr.fail) Tr.fail) (Tr.ret (LR.out (.exit 0) [] (Store.mk [] [] [])))
theorem SameRel1_T (a : List (List PV)) (b : List (List PV)) (i : Int) : lstep tbT G_SameRel LI_SameRel1 c_SameRel1 I_SameRel1 [.sl a .non, .sl b .non, .int .i64 i] ⟨[], [], []⟩ = SameRel1_Tr a b i := by kernel_rfl
theorem SameRel1_E (a : List (List PV)) (b : List (List PV)) (i : Int) : SameRel1_V [.sl a .non, .sl b .non, .int .i64 i] ⟨[], [], []⟩ = lnext SameRel1_V (SameRel1_Tr a b i).run := by unfold SameRel1_V; rw [lval_eq, SameRel1_T]
noncomputable def SameRel1_W (a : List (List PV)) (b : List (List PV)) (i : Int) : Option (PExit × List PV × Store) := SameRel1_V [.sl a .non, .sl b .non, .int .i64 i] ⟨[], [], []⟩
noncomputable def SameRel1_b_0 (a : List (List PV)) (b : List (List PV)) (i : Int) : Bool := (gBool (gOut (SameRel1_W a b i) 0))
noncomputable def SameRel1_is0 (a : List (List PV)) (b : List (List PV)) (i : Int) : Bool := isW (SameRel1_W a b i) (.ret, [.bool (SameRel1_b_0 a b i)], ⟨[], [], []⟩)
noncomputable def SameRel1_is1 (a : List (List PV)) (b : List (List PV)) (i : Int) : Bool := isW (SameRel1_W a b i) ((.exit 0), [], ⟨[], [], []⟩)
noncomputable def SameRel1_prop : List PV → Store → Tr (PExit × List PV × Store) | [.sl a .non, .sl b .non, .int .i64 i], ⟨[], [], []⟩ => .ite (SameRel1_is0 a b i) (.ret (.ret, [.bool (SameRel1_b_0 a b i)], ⟨[], [], []⟩)) (.ite (SameRel1_is1 a b i) (.ret ((.exit 0), [], ⟨[], [], []⟩)) (.fail)) | _, _ => .fail
theorem SameRel1_ok : ∀ vs σ r, (SameRel1_prop vs σ).run = some r → SameRel1_V vs σ = some r := by
  intro vs σ r h
  unfold SameRel1_prop at h
  split at h
  · exact ite_isW h fun h => ite_isW h fun h => by cases h
  · cases h
theorem loop_SameRel1 (gl : Nat → Option Obj) : ∀ fr σ e fr' σ', (orc I_SameRel1 SameRel1_prop fr σ).run = some (e, fr', σ') → LDoes Tryd.prog gl c_SameRel1 fr σ e fr' σ' := orc_ok tbT_ok (gok_SameRel gl ) noMixed (L := LI_SameRel1) (loopOk_none (by kernel_rfl)) (by kernel_rfl) SameRel1_ok
noncomputable def L_SameRel : LpsT := fun r fr σ => bif Nat.beq r 4 then orc I_SameRel1 SameRel1_prop fr σ else .fail
noncomputable def SameRel_Tr (a : List (List PV)) (b : List (List PV)) : Tr PV := Tr.ite (iNe (xLen a) (xLen b)) (Tr.ret (PV.bool false)) (Tr.ite (SameRel1_is0 a b 0) (Tr.ret (PV.bool (SameRel1_b_0 a b 0))) (Tr.ite (SameRel1_is1 a b 0) (Tr.ret (PV.bool true)) Tr.fail))
theorem SameRel_T (a : List (List PV)) (b : List (List PV)) : (tcall tbT G_SameRel L_SameRel Tryd.f31 [.sl a .non, .sl b .non]).flat = SameRel_Tr a b := by kernel_rfl
noncomputable def SameRel_W (a : List (List PV)) (b : List (List PV)) : Option PV := (SameRel_Tr a b).run
noncomputable def SameRel_b (a : List (List PV)) (b : List (List PV)) : Bool := (gBool (gVal (SameRel_W a b)))
noncomputable def SameRel_is0 (a : List (List PV)) (b : List (List PV)) : Bool := isW (SameRel_W a b) (.bool (SameRel_b a b))
noncomputable def F_SameRel : List PV → Tr PV | [.sl a .non, .sl b .non] => .ite (SameRel_is0 a b) (.ret (.bool (SameRel_b a b))) (.fail) | _ => .fail
theorem sim_SameRel (gl : Nat → Option Obj) : SimP Tryd.prog gl 31 fun args => (F_SameRel args).run := by
  refine SimP.of_flat (G := G_SameRel) (L := L_SameRel) tbT_ok (gok_SameRel gl ) noMixed Tryd.func31 rfl (by rfl) (by kernel_rfl) (loopOk_all (L := lps L_SameRel) [(4, c_SameRel1)] (by kernel_rfl) (List.forall_mem_cons.2 ⟨fun fr σ e fr' σ' h => loop_SameRel1 gl  fr σ e fr' σ' h, (List.forall_mem_nil _)⟩)) ?_
  intro args x h
  unfold F_SameRel at h
  split at h
  · exact (congrArg Tr.run (SameRel_T _ _)).trans (ite_isW h fun h => by cases h)
  · cases h
noncomputable def G_CloneT0 : GamT := ofL []
theorem gok_CloneT0 (gl : Nat → Option Obj) : GamOk Tryd.prog gl (gam G_CloneT0) := gamOk_nil
noncomputable def L_CloneT0 : LpsT := fun r fr σ => .fail
noncomputable def CloneT0_Tr (s : List (List PV)) : Tr PV := Tr.ite (xNil s) (Tr.ite true (Tr.ret (PV.sl [] .non)) (Tr.ite (okGrow [] s 32) (Tr.ite (okNews s 3) (Tr.ite (okSize [] 3) (Tr.ite (xNil s) (Tr.ret (PV.sl [] .non)) (Tr.ret (PV.sl (shutLL (xApp [] s)) .non))) Tr.fail) Tr.fail) Tr.fail)) (Tr.ite false (Tr.ret (PV.sl [] .non)) (Tr.ite (okGrow [] s 32) (Tr.ite (okNews s 3) (Tr.ite (okSize [] 3) (Tr.ite (xNil s) (Tr.ret (PV.sl [] .non)) (Tr.ret (PV.sl (shutLL (xApp [] s)) .non))) Tr.fail) Tr.fail) Tr.fail))
theorem CloneT0_T (s : List (List PV)) : (tcall tbT G_CloneT0 L_CloneT0 Tryd.f64 [.sl s .nil]).flat = CloneT0_Tr s := by kernel_rfl
noncomputable def CloneT0_W (s : List (List PV)) : Option PV := (CloneT0_Tr s).run
noncomputable def CloneT0_r (s : List (List PV)) : List (List PV) := (gRow (gVal (CloneT0_W s)))
noncomputable def CloneT0_is0 (s : List (List PV)) : Bool := isW (CloneT0_W s) (.sl (CloneT0_r s) .non)
noncomputable def CloneT0b_Tr (s : List (List PV)) : Tr PV := Tr.ite (xNil s) (Tr.ite false (Tr.ret (PV.sl [] .non)) (Tr.ite (okGrow [] s 32) (Tr.ite (okNews s 3) (Tr.ite (okSize [] 3) (Tr.ite (xNil s) (Tr.ret (PV.sl [] .non)) (Tr.ret (PV.sl (shutLL (xApp [] s)) .non))) Tr.fail) Tr.fail) Tr.fail)) (Tr.ite false (Tr.ret (PV.sl [] .non)) (Tr.ite (okGrow [] s 32) (Tr.ite (okNews s 3) (Tr.ite (okSize [] 3) (Tr.ite (xNil s) (Tr.ret (PV.sl [] .non)) (Tr.ret (PV.sl (shutLL (xApp [] s)) .non))) Tr.fail) Tr.fail) Tr.fail))
theorem CloneT0b_T (s : List (List PV)) : (tcall tbT G_CloneT0 L_CloneT0 Tryd.f64 [.sl s .own]).flat = CloneT0b_Tr s := by kernel_rfl
noncomputable def CloneT0b_W (s : List (List PV)) : Option PV := (CloneT0b_Tr s).run
noncomputable def CloneT0b_r (s : List (List PV)) : List (List PV) := (gRow (gVal (CloneT0b_W s)))
noncomputable def CloneT0b_is0 (s : List (List PV)) : Bool := isW (CloneT0b_W s) (.sl (CloneT0b_r s) .non)
noncomputable def F_CloneT0 : List PV → Tr PV | [.sl s .nil] => .ite (CloneT0_is0 s) (.ret (.sl (CloneT0_r s) .non)) (.fail) | [.sl s .own] => .ite (CloneT0b_is0 s) (.ret (.sl (CloneT0b_r s) .non)) (.fail) | _ => .fail
theorem sim_CloneT0 (gl : Nat → Option Obj) : SimP Tryd.prog gl 64 fun args => (F_CloneT0 args).run := by
  refine SimP.of_flat (G := G_CloneT0) (L := L_CloneT0) tbT_ok (gok_CloneT0 gl ) noMixed Tryd.func64 rfl (by rfl) (by kernel_rfl) (loopOk_none (by kernel_rfl)) ?_
  intro args x h
  unfold F_CloneT0 at h
  split at h
  · exact (congrArg Tr.run (CloneT0_T _)).trans (ite_isW h fun h => by cases h)
  · exact (congrArg Tr.run (CloneT0b_T _)).trans (ite_isW h fun h => by cases h)
  · cases h
end Go.Pv

set_option maxHeartbeats 4000000
set_option maxRecDepth 200000
set_option linter.unusedSimpArgs false
set_option linter.unusedVariables false
namespace Go.Pv
open Go Go.Proofs
/-! ### few -/
def fewL (l : List (List Vl)) : List (List Vl) := (l.filter fun t => decide (t.length ≤ 20)).take 60
def fewF (b : List (List Vl)) (a : List Vl) : List (List Vl) ⊕ List (List Vl) := if b.length < 60 then (if a.length ≤ 20 then .inl (b ++ [a]) else .inl b) else .inr b
theorem few_fold : ∀ (l b : List (List Vl)), b.length ≤ 60 → foldE fewF id l b = (b ++ l.filter fun t => decide (t.length ≤ 20)).take 60
  | [], b, h => by simp [foldE, List.take_of_length_le h]
  | a :: l, b, h => by
    simp only [foldE, fewF]
    by_cases h1 : b.length < 60
    · by_cases h2 : a.length ≤ 20
      · simp only [if_pos h1, if_pos h2]
        rw [few_fold l (b ++ [a]) (by simp; omega)]
        simp [h2]
      · simp only [if_pos h1, if_neg h2]
        rw [few_fold l b h]
        simp [h2]
    · simp only [if_neg h1]
      have : b.length = 60 := by omega
      rw [List.take_append_of_le_length (by omega), List.take_of_length_le (by omega)]
theorem few_loop (l : List (List Vl)) (hl : l.length ≤ 9223372036854775807) : few1_V [.sl (rOf (cR cV) l) .non, .sl [] .full, .int .i64 0] ⟨[], [], []⟩ = some (.exit 0, [.sl (rOf (cR cV) (fewL l)) (aT (fewL l))], aS 1 23 (fewL l)) := by
  have h := loop_foldE0 (l := l) (V := fun i b => few1_V [.sl (rOf (cR cV) l) .non, .sl (rOf (cR cV) b) (aT b), .int .i64 (i : Nat)] (aS 1 23 b)) (fun _ _ => True) fewF id (fun r => some (.exit 0, [.sl (rOf (cR cV) r) (aT r)], aS 1 23 r)) [] trivial ?_ ?_
  · rw [few_fold l [] (by simp)] at h
    simpa [fewL] using h
  · intro i b a _ hi ha
    have w := inc_i64 (i := i) (by omega)
    rcases aTS_cases 1 23 b with ⟨rfl, h1, h2⟩ | ⟨hne, h1, h2⟩
    · by_cases hc : (a.length : Int) ≤ 20
      · refine .inl ⟨_, by simp only [fewF]; rw [if_pos (by simp)]; first | rw [if_pos (by omega)] | rw [if_neg (by omega)], trivial, ?_⟩
        simp [few1_E, few1_Tr, ha, hi, w, hc, one, aT, aS]
      · refine .inl ⟨_, by simp only [fewF]; rw [if_pos (by simp)]; first | rw [if_pos (by omega)] | rw [if_neg (by omega)], trivial, ?_⟩
        simp [few1_E, few1_Tr, ha, hi, w, hc, one, aT, aS]
    · by_cases h3 : (b.length : Int) < 60
      · by_cases hc : (a.length : Int) ≤ 20
        · refine .inl ⟨_, by simp only [fewF]; rw [if_pos (by omega)]; first | rw [if_pos (by omega)] | rw [if_neg (by omega)], trivial, ?_⟩
          have h4 : (b.length + 1) * 24 ≤ 140737488355328 := by omega
          have h5 : b.length ≤ 140737488355327 := by omega
          simp [h1, h2, few1_E1, few1_Tr1, ha, hi, w, hc, h3, one, aT_snoc, aS_snoc, h4, h5]
          try omega
        · refine .inl ⟨_, by simp only [fewF]; rw [if_pos (by omega)]; first | rw [if_pos (by omega)] | rw [if_neg (by omega)], trivial, ?_⟩
          simp [h1, h2, few1_E1, few1_Tr1, ha, hi, w, hc, h3, one, aT_snoc, aS_snoc]
      · refine .inr ⟨_, by simp only [fewF]; rw [if_neg (by omega)], ?_⟩
        simp [h1, h2, few1_E1, few1_Tr1, ha, hi, w, h3]
        try omega
  · intro b _
    rcases aTS_cases 1 23 b with ⟨rfl, h1, h2⟩ | ⟨hne, h1, h2⟩
    · simp [few1_E, few1_Tr]
    · simp [h1, h2, few1_E1, few1_Tr1]
theorem few_law (l : List (List Vl)) (hl : l.length ≤ 9223372036854775807) : few_W (rOf (cR cV) l) = some (.sl (rOf (cR cV) (fewL l)) .non) := by
  have h := few_loop l hl
  unfold few_W few_Tr
  generalize fewL l = r at h
  rcases aTS_cases 1 23 r with ⟨rfl, h1, h2⟩ | ⟨hne, h1, h2⟩
  · simp [few1_is0, few1_is1, few1_out_0, few1_out_1, few1_k_1, few1_W, h]
  · rw [h1, h2] at h
    simp [few1_is0, few1_is1, few1_out_0, few1_out_1, few1_k_1, few1_W, h]
theorem few_len (l : List (List Vl)) : (fewL l).length ≤ 60 := by simp [fewL]; omega
theorem few_mem {l : List (List Vl)} {t : List Vl} (h : t ∈ fewL l) : t ∈ l ∧ t.length ≤ 20 := by
  have := List.mem_of_mem_take h
  simpa using this
/-! ### the order of tuples -/
theorem cmpVl_tot : Tot cmpVl where
  val := fun a b => cmp_val _ _ _ _ _ _
  zero := fun a b => by
    unfold cmpVl
    rw [cmp_zero]
    obtain ⟨k, n, s⟩ := a
    obtain ⟨k', n', s'⟩ := b
    simp
  swap := fun a b => cmp_swap _ _ _ _ _ _
  trans := fun a b c h1 h2 => cmp_lt_trans h1 (by have : cmpVl b c < 0 := h2; unfold cmpVl at this; omega)
theorem cmpT_lex (f : Vl → Vl → Int) : ∀ (a b : List Vl), cmpT f a b = lex f a b
  | [], [] => rfl
  | [], b :: m => by simp [cmpT, dif, lex]
  | a :: l, [] => by simp [cmpT, dif, lex]
  | a :: l, b :: m => by
    have ih := cmpT_lex f l m
    simp only [cmpT, dif, lex] at ih ⊢
    by_cases h : f a b = 0
    · simp only [if_pos h]
      rw [← ih]
      cases dif f l m <;> simp
    · simp only [if_neg h]
/-- Tuples in order. -/
def lexV : List Vl → List Vl → Int := lex cmpVl
theorem lexV_tot : Tot lexV := lex_tot cmpVl_tot
@[simp] theorem cmpTV_of (a b : List Vl) : cmpTV (rOf cV a) (rOf cV b) = lexV a b := by simp only [cmpTV, unR_of, cmpT_lex]; rfl
@[simp] theorem cmpTR_of (a b : List Vl) : cmpTR (rOf cV a) (rOf cV b) = lexV a b := by simp only [cmpTR, unR_of, cmpT_lex, cmpRl_eq]; rfl
/-! ### rows of tuples alike -/
theorem sameRel_loop : ∀ (k i : Nat) (a b : List (List Vl)), i + k = a.length → a.length = b.length → a.length ≤ 9223372036854775807 → SameRel1_V [.sl (rOf (cR cV) a) .non, .sl (rOf (cR cV) b) .non, .int .i64 (i : Nat)] ⟨[], [], []⟩ = if a.drop i = b.drop i then some (.exit 0, [], ⟨[], [], []⟩) else some (.ret, [.bool false], ⟨[], [], []⟩)
  | 0, i, a, b, hi, hl, hm => by
    rw [List.drop_eq_nil_of_le (by omega), List.drop_eq_nil_of_le (by omega)]
    have : ¬ (i : Int) < a.length := by omega
    simp [SameRel1_E, SameRel1_Tr, this]
  | k + 1, i, a, b, hi, hl, hm => by
    have w := inc_i64 (i := i) (by omega)
    have h1 : i < a.length := by omega
    have h2 : i < b.length := by omega
    have key : (a.drop i = b.drop i) = (a[i] = b[i] ∧ a.drop (i + 1) = b.drop (i + 1)) := by rw [List.drop_eq_getElem_cons h1, List.drop_eq_getElem_cons h2, List.cons.injEq]
    have ih := sameRel_loop k (i + 1) a b (by omega) hl hm
    simp only [key]
    by_cases e : a[i] = b[i]
    · have := lexV_tot.self b[i]
      simp only [e, true_and]
      rw [← ih]
      simp [SameRel1_E, SameRel1_Tr, h1, h2, w, e, this]
    · have : ¬ lexV a[i] b[i] = 0 := fun h => e ((lexV_tot.zero _ _).1 h)
      simp [SameRel1_E, SameRel1_Tr, h1, h2, w, e, this]
theorem sameRel_law (a b : List (List Vl)) (ha : a.length ≤ 9223372036854775807) : SameRel_W (rOf (cR cV) a) (rOf (cR cV) b) = some (.bool (decide (a = b))) := by
  unfold SameRel_W SameRel_Tr
  by_cases hl : a.length = b.length
  · have h := sameRel_loop a.length 0 a b (by omega) hl ha
    simp only [List.drop_zero] at h
    by_cases e : a = b
    · rw [if_pos e] at h
      subst e
      simp at h
      simp [SameRel1_is0, SameRel1_is1, SameRel1_b_0, SameRel1_W, h]
    · rw [if_neg e] at h
      simp at h
      have : ¬ (a.length : Int) ≠ b.length := by omega
      simp [SameRel1_is0, SameRel1_is1, SameRel1_b_0, SameRel1_W, h, e, this]
  · have : (a.length : Int) ≠ b.length := by omega
    have e : a ≠ b := by rintro rfl; exact hl rfl
    simp [this, e]
/-! ### within -/
def withinL (low t high : List Vl) : Bool := decide (0 ≤ lexV (t.take low.length) low) && decide (lexV (t.take high.length) high ≤ 0)
theorem min_nat (a b : Nat) : imin (a : Int) (b : Int) = ((min a b : Nat) : Int) := by simp only [imin_eq]; split <;> omega
theorem TWithin_law (low t high : List Vl) : (TWithin_Tr (rOf cV low) (rOf cV t) (rOf cV high)).run = some (.bool (withinL low t high)) := by
  have e1 : ∀ x : List Vl, List.take (min x.length t.length) t = t.take x.length := fun x => by rw [List.take_eq_take_iff]; omega
  have e2 : ∀ x : List Vl, min x.length t.length ≤ t.length := fun x => by omega
  have e3 : ∀ x : List Vl, imin (x.length : Int) (t.length : Int) = ((min x.length t.length : Nat) : Int) := fun x => min_nat _ _
  simp only [TWithin_Tr, lockLL_rOf, xLen_rOf, e3]
  by_cases h : 0 ≤ lexV (t.take low.length) low
  · simp [-imin_eq, e1, e2, h, withinL]
  · simp [-imin_eq, e1, e2, h, withinL]
theorem RWithin_law (low t high : List Vl) : (RWithin_Tr (rOf cV low) (rOf cV t) (rOf cV high)).run = some (.bool (withinL low t high)) := by
  have e1 : ∀ x : List Vl, List.take (min t.length x.length) t = t.take x.length := fun x => by rw [List.take_eq_take_iff]; omega
  have e2 : ∀ x : List Vl, min t.length x.length ≤ t.length := fun x => by omega
  have e3 : ∀ x : List Vl, imin (t.length : Int) (x.length : Int) = ((min t.length x.length : Nat) : Int) := fun x => min_nat _ _
  simp only [RWithin_Tr, lockLL_rOf, xLen_rOf, e3]
  by_cases h : 0 ≤ lexV (t.take low.length) low
  · simp [-imin_eq, e1, e2, h, withinL]
  · simp [-imin_eq, e1, e2, h, withinL]
/-! ### Clone -/
noncomputable def F_CloneT : List PV → Tr PV | [.sl s .non] => Tr.chk (okNews s 3) (Tr.chk (okGrow [] s 32) (.ret (.sl (shutLL s) .non))) | _ => .fail
theorem sim_CloneT (gl : Nat → Option Obj) : SimP Tryd.prog gl 64 fun args => (F_CloneT args).run := by
  refine SimP.of_nilcase (sim_CloneT0 gl) ?_
  intro args x h
  unfold F_CloneT at h
  split at h
  · rename_i s
    obtain ⟨h1, q⟩ := Tr.chk_some h
    obtain ⟨h2, q⟩ := Tr.chk_some q
    cases q
    refine ⟨s, .non, rfl, ?_, ?_⟩
    · have : CloneT0_W s = some (.sl (shutLL s) .non) := by
        unfold CloneT0_W CloneT0_Tr
        cases s with
        | nil => simp
        | cons a s => simp at h2; simp [h1, h2]
      simp [F_CloneT0, CloneT0_is0, CloneT0_r, this]
    · have : CloneT0b_W s = some (.sl (shutLL s) .non) := by
        unfold CloneT0b_W CloneT0b_Tr
        cases s with
        | nil => simp
        | cons a s => simp at h2; simp [h1, h2]
      simp [F_CloneT0, CloneT0b_is0, CloneT0b_r, this]
  · cases h
end Go.Pv

set_option maxHeartbeats 4000000
set_option maxRecDepth 200000
set_option linter.unusedSimpArgs false
set_option linter.unusedVariables false
namespace Go.Pv
open Go Go.Proofs

theorem sAt_get {l : List UInt8} {i : Int} {v : UInt8} (h : l[i.toNat]? = some v) : sAt l i = v.toNat := by
  simp [sAt, List.getD_eq_getElem?_getD, h]
theorem okIdx_get {l : List UInt8} {i : Int} {v : UInt8} (h0 : 0 ≤ i) (h : l[i.toNat]? = some v) : okIdx l i = true := by
  have := (List.getElem?_eq_some_iff.1 h).1
  simp [h0, this]

/-! ### value.digit -/
def dv : List UInt8 → Int → Int → Int
  | [], _, _ => 16
  | b :: l, c, i => if (b.toNat : Int) = c then i else dv l c (i + 1)
def digV (c : Int) : Int := dv hexL c 0
def F_digit : List PV → Tr PV
  | [.int .u8 c] => .ret (.int .u8 (digV c))
  | _ => .fail
def d_digit : List PV → Store → Option (Int × Int × Store)
  | [.int .u8 c, .int .i64 i], σ => some (c, i, σ)
  | _, _ => none
def r_digit : Int × Int × Store → Tr (PExit × List (Nat × PV) × Store)
  | (c, i, σ) => Tr.chk (iEq i 0) (.ite (iEq (digV c) 16) (.ret (.exit 0, [], σ)) (.ret (.ret, [(2, .int .u8 (digV c))], σ)))
def L_digit : LpsT := fun r fr σ => if r = 2 then oracle 14 [0, 4] d_digit r_digit fr σ else .fail
noncomputable def c_digit : Code := loopN Tryd.f127 0
theorem loop_digit (gl : Nat → Option Obj) : ∀ vs σ a e out σ', d_digit vs σ = some a → (r_digit a).run = some (e, out, σ') → LDoes Tryd.prog gl c_digit (mk 14 ([0, 4].zip vs)) σ e (mk 14 out) σ' := by
  intro vs s a e out σ' hd hr
  unfold d_digit at hd
  split at hd
  · rename_i c i
    cases hd
    obtain ⟨h1, h2⟩ := Tr.chk_some hr
    simp at h1
    subst h1
    clear hr
    have key : ∀ (m : Nat) (i : Int), 0 ≤ i → i + m = 16 → dv (hexL.drop i.toNat) c i = digV c → LDoes Tryd.prog gl c_digit (mk 14 ([0, 4].zip [.int .u8 c, .int .i64 i])) s e (mk 14 out) σ' := by
      intro m
      induction m with
      | zero =>
        intro i h0 hi hf
        have : i = 16 := by omega
        subst this
        have hf : 16 = digV c := hf
        simp [← hf] at h2
        obtain ⟨rfl, rfl, rfl⟩ := h2
        refine LDoes.round tbT_ok (G := ofL []) gamOk_nil noMixed (L := fun _ _ _ => .fail) (loopOk_none (by kernel_rfl)) (by kernel_rfl) ?_
        refine Tr.all_as (Tr.ite (iLt 16 16)
            (Tr.ite (okIdx [48, 49, 50, 51, 52, 53, 54, 55, 56, 57, 97, 98, 99, 100, 101, 102] 16)
              (Tr.ite (iEq (sAt [48, 49, 50, 51, 52, 53, 54, 55, 56, 57, 97, 98, 99, 100, 101, 102] 16) c)
                (Tr.ret
                  (PExit.ret, [10, 5],
                    [PV.int IntKind.u8 c, PV.top, PV.int IntKind.u8 (iWrap IntKind.u8 16), PV.int IntKind.i64 16, PV.int IntKind.i64 16, PV.bool true, PV.int IntKind.i64 16, PV.int IntKind.i64 16,
                      PV.int IntKind.u8 (sAt [48, 49, 50, 51, 52, 53, 54, 55, 56, 57, 97, 98, 99, 100, 101, 102] 16), PV.int IntKind.u8 c, PV.bool true, PV.int IntKind.i64 16,
                      PV.int IntKind.u8 (iWrap IntKind.u8 16), PV.top],
                    s))
                (Tr.ret
                  (PExit.normal, [10, 5],
                    [PV.int IntKind.u8 c, PV.top, PV.top, PV.int IntKind.i64 16, PV.int IntKind.i64 (iAdd IntKind.i64 16 1), PV.bool true, PV.int IntKind.i64 16, PV.int IntKind.i64 16,
                      PV.int IntKind.u8 (sAt [48, 49, 50, 51, 52, 53, 54, 55, 56, 57, 97, 98, 99, 100, 101, 102] 16), PV.int IntKind.u8 c, PV.bool false, PV.top, PV.top,
                      PV.int IntKind.i64 (iAdd IntKind.i64 16 1)],
                    s)))
              Tr.fail)
            (Tr.ret (PExit.exit 0, [5], [PV.int IntKind.u8 c, PV.top, PV.top, PV.top, PV.int IntKind.i64 16, PV.bool false, PV.top, PV.top, PV.top, PV.top, PV.top, PV.top, PV.top, PV.top], s))) (by kernel_rfl) ?_
        refine ⟨fun h => by simp at h, fun h => ⟨rfl, by simp [Weak, mk, mkFrom, look], rfl⟩⟩
      | succ m ih =>
        intro i h0 hi hf
        obtain ⟨v, hv⟩ := get_lt (l := hexL) (i := i.toNat) (by show i.toNat < 16; omega)
        rw [drop_of_get hv] at hf
        refine LDoes.round tbT_ok (G := ofL []) gamOk_nil noMixed (L := fun _ _ _ => .fail) (loopOk_none (by kernel_rfl)) (by kernel_rfl) ?_
        refine Tr.all_as (Tr.ite (iLt i 16)
            (Tr.ite (okIdx [48, 49, 50, 51, 52, 53, 54, 55, 56, 57, 97, 98, 99, 100, 101, 102] i)
              (Tr.ite (iEq (sAt [48, 49, 50, 51, 52, 53, 54, 55, 56, 57, 97, 98, 99, 100, 101, 102] i) c)
                (Tr.ret
                  (PExit.ret, [10, 5],
                    [PV.int IntKind.u8 c, PV.top, PV.int IntKind.u8 (iWrap IntKind.u8 i), PV.int IntKind.i64 i, PV.int IntKind.i64 i, PV.bool true, PV.int IntKind.i64 i, PV.int IntKind.i64 i,
                      PV.int IntKind.u8 (sAt [48, 49, 50, 51, 52, 53, 54, 55, 56, 57, 97, 98, 99, 100, 101, 102] i), PV.int IntKind.u8 c, PV.bool true, PV.int IntKind.i64 i,
                      PV.int IntKind.u8 (iWrap IntKind.u8 i), PV.top],
                    s))
                (Tr.ret
                  (PExit.normal, [10, 5],
                    [PV.int IntKind.u8 c, PV.top, PV.top, PV.int IntKind.i64 i, PV.int IntKind.i64 (iAdd IntKind.i64 i 1), PV.bool true, PV.int IntKind.i64 i, PV.int IntKind.i64 i,
                      PV.int IntKind.u8 (sAt [48, 49, 50, 51, 52, 53, 54, 55, 56, 57, 97, 98, 99, 100, 101, 102] i), PV.int IntKind.u8 c, PV.bool false, PV.top, PV.top,
                      PV.int IntKind.i64 (iAdd IntKind.i64 i 1)],
                    s)))
              Tr.fail)
            (Tr.ret (PExit.exit 0, [5], [PV.int IntKind.u8 c, PV.top, PV.top, PV.top, PV.int IntKind.i64 i, PV.bool false, PV.top, PV.top, PV.top, PV.top, PV.top, PV.top, PV.top, PV.top], s))) (by kernel_rfl) ?_
        refine ⟨fun _ => ⟨fun _ => ⟨fun h => ?_, fun h => ?_⟩, fun h => ?_⟩, fun h => by simp at h; omega⟩
        · have h : iEq (sAt hexL i) c = true := h
          rw [sAt_get hv] at h
          simp at h
          simp only [dv, if_pos h] at hf
          rw [← hf] at h2
          have h16 : ¬ i = 16 := by omega
          simp [h16] at h2
          obtain ⟨rfl, rfl, rfl⟩ := h2
          refine ⟨rfl, ?_, rfl⟩
          simp [Weak, mk, mkFrom, look, iWrap, wrap_u8 (n := i) (by omega)]
        · have h : iEq (sAt hexL i) c = false := h
          rw [sAt_get hv] at h
          simp at h
          simp only [dv, if_neg h] at hf
          have e1 : (i + 1).toNat = i.toNat + 1 := by omega
          refine LDoes.into ?_ (ih (i + 1) (by omega) (by omega) (by rw [e1]; exact hf))
          simp [Weak, mk, mkFrom, look, iAdd, wrap_i64 (n := i + 1) (by omega)]
        · have h : okIdx hexL i = false := h
          rw [okIdx_get h0 hv] at h
          cases h
    exact key 16 0 (by omega) (by omega) rfl
  · cases hd
theorem sim_digit (gl : Nat → Option Obj) : SimP Tryd.prog gl 127 fun args => (F_digit args).run := by
  refine SimP.of_tree (G := ofL []) (L := L_digit) tbT_ok gamOk_nil noMixed Tryd.func127 rfl (by rfl) (by kernel_rfl) (loopOk_one (r := 2) (c1 := c_digit) (by kernel_rfl) ?_) ?_
  · intro fr σ e fr' σ' hh
    simp only [lps, L_digit, if_true] at hh
    exact oracle_ok (loop_digit gl) fr σ e fr' σ' hh
  intro args x h hr
  unfold F_digit at h
  split at h
  · rename_i c
    cases h
    refine Tr.run_as (Tr.ite (iEq 0 0) (Tr.ite (iEq (digV c) 16) (Tr.ret (PV.int IntKind.u8 16)) (Tr.ret (PV.int IntKind.u8 (digV c)))) Tr.fail) (by kernel_rfl) ?_
    simp [eq_comm]
  · cases h

/-! ### value.escape -/
def escB (s : List UInt8) : Int :=
  if s = [] then 0 else if sAt s 0 = 34 ∨ sAt s 0 = 92 then sAt s 0 else if sAt s 0 = 110 then 10 else if sAt s 0 = 116 then 9
  else if sAt s 0 = 120 ∧ 3 ≤ s.length ∧ digV (sAt s 1) < 16 ∧ digV (sAt s 2) < 16 then iOr .u8 (iShl .u8 (digV (sAt s 1)) 4) (digV (sAt s 2)) else 0
def escN (s : List UInt8) : Int :=
  if s = [] then 0 else if sAt s 0 = 34 ∨ sAt s 0 = 92 then 1 else if sAt s 0 = 110 then 1 else if sAt s 0 = 116 then 1
  else if sAt s 0 = 120 ∧ 3 ≤ s.length ∧ digV (sAt s 1) < 16 ∧ digV (sAt s 2) < 16 then 3 else 0
def F_escape : List PV → Tr PV
  | [.str s] => .ret (.tup [.int .u8 (escB s), .int .i64 (escN s)])
  | _ => .fail
theorem sim_escape (gl : Nat → Option Obj) : SimP Tryd.prog gl 116 fun args => (F_escape args).run := by
  refine SimP.of_tree (G := ofL [(127, .pure F_digit)]) (L := fun _ _ _ => .fail) tbT_ok (gamOk_cons (sim_digit gl) gamOk_nil) noMixed Tryd.func116 rfl (by rfl) (by kernel_rfl) (loopOk_none (by kernel_rfl)) ?_
  intro args x h hr
  unfold F_escape at h
  split at h
  · rename_i s
    cases h
    refine Tr.run_as (Tr.ite (sEq s []) (Tr.ret (PV.tup [PV.int IntKind.u8 0, PV.int IntKind.i64 0]))
        (Tr.ite (okIdx s 0)
          (Tr.ite (iEq (sAt s 0) 34) (Tr.ite (okIdx s 0) (Tr.ret (PV.tup [PV.int IntKind.u8 (sAt s 0), PV.int IntKind.i64 1])) Tr.fail)
            (Tr.ite (iEq (sAt s 0) 92) (Tr.ite (okIdx s 0) (Tr.ret (PV.tup [PV.int IntKind.u8 (sAt s 0), PV.int IntKind.i64 1])) Tr.fail)
              (Tr.ite (iEq (sAt s 0) 110) (Tr.ret (PV.tup [PV.int IntKind.u8 10, PV.int IntKind.i64 1]))
                (Tr.ite (iEq (sAt s 0) 116) (Tr.ret (PV.tup [PV.int IntKind.u8 9, PV.int IntKind.i64 1]))
                  (Tr.ite (iEq (sAt s 0) 120)
                    (Tr.ite (iLe 3 (sLen s))
                      (Tr.ite (okIdx s 1)
                        (Tr.ite (iLt (digV (sAt s 1)) 16)
                          (Tr.ite (okIdx s 2)
                            (Tr.ite (iLt (digV (sAt s 2)) 16)
                              (Tr.ite (okIdx s 1)
                                (Tr.ite (okIdx s 2) (Tr.ret (PV.tup [PV.int IntKind.u8 (iOr IntKind.u8 (iShl IntKind.u8 (digV (sAt s 1)) 4) (digV (sAt s 2))), PV.int IntKind.i64 3])) Tr.fail) Tr.fail)
                              (Tr.ret (PV.tup [PV.int IntKind.u8 0, PV.int IntKind.i64 0])))
                            Tr.fail)
                          (Tr.ret (PV.tup [PV.int IntKind.u8 0, PV.int IntKind.i64 0])))
                        Tr.fail)
                      (Tr.ret (PV.tup [PV.int IntKind.u8 0, PV.int IntKind.i64 0])))
                    (Tr.ret (PV.tup [PV.int IntKind.u8 0, PV.int IntKind.i64 0])))))))
          Tr.fail)) (by kernel_rfl) ?_
    by_cases h0 : s = []
    · subst h0; simp [escB, escN]
    · have hl : 0 < s.length := List.length_pos_iff.2 h0
      have k0 : okIdx s 0 = true := by simp [hl]
      by_cases h3 : 3 ≤ s.length
      · have k1 : okIdx s 1 = true := by simp; omega
        have k2 : okIdx s 2 = true := by simp; omega
        have h3' : (3 : Int) ≤ s.length := by omega
        simp only [Tr.run_ite, k0, k1, k2, iEq_eq, iLe_eq, iLt_eq, sEq_eq, sLen_eq, decide_eq_true_eq, h0, h3', if_true, if_false, escB, escN, h3, true_and, Tr.run_ret]
        repeat' split
        all_goals first | rfl | (simp_all; done) | (exfalso; simp_all; done) | (exfalso; omega)
      · have h3' : ¬ (3 : Int) ≤ s.length := by omega
        simp only [Tr.run_ite, k0, iEq_eq, iLe_eq, iLt_eq, sEq_eq, sLen_eq, decide_eq_true_eq, h0, h3', if_true, if_false, escB, escN, h3, false_and, and_false, Tr.run_ret]
        repeat' split
        all_goals first | rfl | (simp_all; done) | (exfalso; simp_all; done) | (exfalso; omega)
  · cases h


/-! ### digits of a number -/
def digsN (n : Nat) : List UInt8 := if h : n < 10 then [UInt8.ofNat (48 + n)] else digsN (n / 10) ++ [UInt8.ofNat (48 + n % 10)]
  termination_by n
  decreasing_by omega
theorem digsN_len : ∀ (k n : Nat), n < 10 ^ (k + 1) → (digsN n).length ≤ k + 1 := by
  intro k
  induction k with
  | zero => intro n h; unfold digsN; simp at h; simp [h]
  | succ k ih =>
    intro n h
    unfold digsN
    split
    · simp
    · have := ih (n / 10) (by rw [Nat.pow_succ] at h; omega)
      simp
      omega
def digsV (n : Int) : List UInt8 := digsN n.toNat
def F_digsK (k : Nat) : List PV → Tr PV
  | [.int .u64 n] => Tr.chk (ltN n k) (.ret (.str (digsV n)))
  | _ => .fail
def F_digs : List PV → Tr PV
  | [.int .u64 n] => .ret (.str (digsV n))
  | _ => .fail
end Go.Pv

set_option maxHeartbeats 4000000
set_option maxRecDepth 200000
set_option linter.unusedSimpArgs false
set_option linter.unusedVariables false
namespace Go.Pv
open Go Go.Proofs

/-! ### pedigreeref01.Text -/
def symB (s : List UInt8) : List UInt8 := s.flatMap fun b => oneV b.toNat
def symV (s : List UInt8) : List UInt8 := 34 :: symB s ++ [34]
def intV (n : Int) : List UInt8 := if n < 0 then 45 :: digsV (-n) else digsV n
def textV (k n : Int) (s : List UInt8) : List UInt8 := if isV k n s = true then (if k = 1 then intV n else symV s) else []
def symH (s : List UInt8) : List UInt8 := 34 :: symB s

theorem oneV_len (c : Int) : 1 ≤ (oneV c).length ∧ (oneV c).length ≤ 4 := by
  unfold oneV
  repeat' split
  all_goals simp
theorem symB_len : ∀ s, (symB s).length ≤ 4 * s.length
  | [] => by simp [symB]
  | b :: s => by
    have := symB_len s
    have := oneV_len b.toNat
    simp [symB] at *
    omega

theorem checkV_is (k n : Int) (s : List UInt8) : checkV k n s = if isV k n s = true then 0 else 10 := by
  unfold checkV isV
  by_cases h1 : k = 1 ∧ s = []
  · simp [h1]
  · by_cases h2 : k = 2 ∧ n = 0 ∧ s.length ≤ 256
    · simp [h2]
    · rw [if_neg h1, if_neg h2, if_neg]
      simp only [decide_eq_true_eq]
      rintro (h | h)
      · exact h1 h
      · exact h2 h
theorem digsV_len {n : Int} (h : n ≤ 18446744073709551616) : (digsV n).length ≤ 20 := digsN_len 19 n.toNat (by omega)

def F_RText : List PV → Tr PV
  | [.agg [.int .i64 k, .int .i64 n, .str s]] => .ret (.tup [.str (textV k n s), .int .i64 (checkV k n s)])
  | _ => .fail
def d_RText : List PV → Store → Option (Int × Int × List UInt8 × Int × Store)
  | [.ptr 0 0, .sl [[.int .u8 34]] .full, .int .i64 i], ⟨[[.int .i64 k, .int .i64 n, .str s]], [], ty⟩ => some (k, n, s, i, ⟨[[.int .i64 k, .int .i64 n, .str s]], [], ty⟩)
  | _, _ => none
def r_RText : Int × Int × List UInt8 × Int × Store → Tr (PExit × List (Nat × PV) × Store)
  | (k, n, s, i, σ) => Tr.chk (iEq i 0) (Tr.chk (iLe (sLen s) 256) (.ite (sEq s []) (.ret (.exit 0, [(4, .sl (bytesOf (symH s)) .full)], ⟨σ.objs, [], σ.tys⟩)) (.ret (.exit 0, [(4, .sl (bytesOf (symH s)) (.tok 0))], ⟨σ.objs, [(nLen (symH s), 1, 5)], σ.tys⟩))))
def L_RText : LpsT := fun r fr σ => if r = 9 then oracle 46 [1, 4, 5] d_RText r_RText fr σ else .fail
end Go.Pv

set_option maxHeartbeats 4000000
set_option maxRecDepth 200000
set_option linter.unusedSimpArgs false
set_option linter.unusedVariables false
namespace Go.Pv
open Go Go.Proofs Go.RowKit

/-- A package variable, as it lies in the world that gl tells of. -/
def VarIs (gl : Nat → Option Obj) (name : String) (cs : Array Value) : Prop := ∃ g T f, Tryd.prog.globalNamed name = some g ∧ gl g = some (.cells cs T f)

/-- The library's variables, as they are laid. -/
structure GlPow (gl : Nat → Option Obj) : Prop where
  pow : VarIs gl "internal/strconv.uint64pow10" (Lib.pow10Tab.map fun z => Value.int .u64 z).toArray
structure GlOk (gl : Nat → Option Obj) : Prop extends GlPow gl where
  syn : ∃ tp p, VarIs gl "strconv.ErrSyntax" #[.iface tp p]
  rng : ∃ tp p, VarIs gl "strconv.ErrRange" #[.iface tp p]

theorem VarIs.var {gl : Nat → Option Obj} {name : String} {cs : Array Value} (h : VarIs gl name cs) {w : World} (hw : ∀ b o, gl b = some o → w.heap[b]? = some o) : w.var? Tryd.prog name = some cs := by
  obtain ⟨g, T, f, h1, h2⟩ := h
  simp [World.var?, h1, hw g _ h2]

theorem GlPow.dr {gl : Nat → Option Obj} (h : GlPow gl) (w w' : World) : Dr gl w w' := fun hg => by
  obtain ⟨g, T, f, _, h2⟩ := h.pow
  rw [hg g] at h2
  cases h2

/-! ### strconv.FormatInt at base 10 -/
def itoaV (n : Int) : List UInt8 := Lib.itoa n
def F_FormatInt : List PV → Tr PV
  | [.int .i64 n, .int .i64 b] => Tr.chk (iEq b 10) (.ret (.str (itoaV n)))
  | _ => .fail
theorem sim_FormatInt {gl : Nat → Option Obj} (hgl : GlPow gl) : SimP Tryd.prog gl 92 fun args => (F_FormatInt args).run := by
  refine ⟨⟨_, Tryd.func92, by rfl, by rfl⟩, ?_⟩
  intro args x hx H w vs hB hob htk hw hrel
  unfold F_FormatInt at hx
  split at hx
  · rename_i n b
    obtain ⟨h1, h2⟩ := Tr.chk_some hx
    cases h2
    simp at h1
    subst h1
    cases hrel with
    | cons _ v _ vs hv hvs =>
      cases hvs with
      | cons _ v2 _ vs hv2 hvs =>
        cases hvs
        cases hv with
        | int _ _ hwf =>
          cases hv2
          simp [Lit.wf, IntKind.min, IntKind.max, IntKind.signed, IntKind.bits] at hwf
          refine (Tryd.strconv_FormatInt_10 n hwf.1 (by omega) w (hgl.pow.var hw)).mono ?_
          rintro e w' ⟨rfl, k, os, rfl⟩
          refine ⟨_, rfl, ⟨Lib.below_grow _ _ (Nat.le_refl _) k os, hgl.dr _ _⟩, .str _ ?_⟩
          have := Lib.itoa_length_le n hwf.1 (by omega)
          show (Lib.itoa n).length ≤ maxLen
          unfold maxLen
          omega
  · cases hx

/-! ### strconv.ParseInt at base 10 and 64 bits -/
def pOk (s : List UInt8) : Bool := match Lib.parseIntB 64 s with
  | .ok _ => true
  | _ => false
def pVal (s : List UInt8) : Int := match Lib.parseIntB 64 s with
  | .ok v => v
  | .range => Lib.intSat 64 s
  | _ => 0
def okSize48 (s : List UInt8) : Bool := decide (s.length ≤ 281474976710656)
def F_ParseInt : List PV → Tr PV
  | [.str s, .int .i64 b, .int .i64 k] => Tr.chk (iEq b 10) (Tr.chk (iEq k 64) (Tr.chk (okSize48 s) (.ite (pOk s) (.ret (.tup [.int .i64 (pVal s), .nili])) (.ret (.tup [.int .i64 (pVal s), .iface 159 .top])))))
  | _ => .fail
theorem pVal_wf (s : List UInt8) : (Lit.int .i64 (pVal s)).wf = true := by
  have key : -9223372036854775808 ≤ pVal s ∧ pVal s ≤ 9223372036854775807 := by
    unfold pVal
    split
    · rename_i v hv
      have h := Lib.parseIntB_bounds hv
      have e : ((2 ^ (64 - 1) : Nat) : Int) = 9223372036854775808 := by decide
      rw [e] at h
      omega
    · unfold Lib.intSat
      split
      · have e : -(((2 ^ (64 - 1) : Nat)) : Int) = -9223372036854775808 := by decide
        rw [e]
        omega
      · have e : (((2 ^ (64 - 1) - 1 : Nat)) : Int) = 9223372036854775807 := by decide
        rw [e]
        omega
    · omega
  simp [Lit.wf, IntKind.min, IntKind.max, IntKind.signed, IntKind.bits]
  omega
theorem sim_ParseInt {gl : Nat → Option Obj} (hgl : GlOk gl) : SimP Tryd.prog gl 104 fun args => (F_ParseInt args).run := by
  refine ⟨⟨_, Tryd.func104, by rfl, by rfl⟩, ?_⟩
  intro args x hx H w vs hB hob htk hw hrel
  unfold F_ParseInt at hx
  split at hx
  · rename_i s b k
    obtain ⟨h1, h2⟩ := Tr.chk_some hx
    obtain ⟨h3, h4⟩ := Tr.chk_some h2
    obtain ⟨h5, h6⟩ := Tr.chk_some h4
    simp at h1 h3
    simp [okSize48] at h5
    subst h1 h3
    have hwf := pVal_wf s
    cases hrel with
    | cons _ v _ vs hv hvs =>
      cases hvs with
      | cons _ v2 _ vs hv2 hvs =>
        cases hvs with
        | cons _ v3 _ vs hv3 hvs =>
          cases hvs
          cases hv2; cases hv3
          cases hv with
          | str _ hl =>
            have hsz : (ByteArray.mk s.toArray).size = s.length := by simp [ByteArray.size]
            cases hp : Lib.parseIntB 64 s with
            | ok n =>
              have e1 : pOk s = true := by simp [pOk, hp]
              have e2 : pVal s = n := by simp [pVal, hp]
              rw [e2] at hwf
              simp [e1, e2] at h6
              subst h6
              refine (Any.strconv_ParseInt_10_at64_ok Tryd.laysC174 ⟨s.toArray⟩ (by rw [hsz]; omega) n hp w).mono ?_
              rintro e w' ⟨rfl, hw'⟩
              refine ⟨_, rfl, ⟨?_, hgl.dr _ _⟩, .tup _ _ (.cons _ _ _ _ (.int _ _ hwf) (.cons _ _ _ _ .nili .nil))⟩
              rcases hw' with rfl | ⟨t, rfl⟩
              · exact Below.refl _ _
              · exact ⟨rfl, rfl, rfl, by rw [Lib.bytesWorld_size]; omega, fun k hk => Lib.bytesWorld_at_old w _ _ k hk⟩
            | range =>
              have e1 : pOk s = false := by simp [pOk, hp]
              have e2 : pVal s = Lib.intSat 64 s := by simp [pVal, hp]
              simp [e1, e2] at h6
              rw [e2] at hwf
              subst h6
              obtain ⟨tp, p, hv⟩ := hgl.rng
              refine (Any.strconv_ParseInt_10_at64_range_var Tryd.laysC174 ⟨s.toArray⟩ (by rw [hsz]; omega) hp tp p w (hv.var hw)).mono ?_
              rintro e w' ⟨N, rfl, h1, h2, h3⟩
              exact ⟨_, rfl, ⟨h3, hgl.dr _ _⟩, .tup _ _ (.cons _ _ _ _ (.int _ _ hwf) (.cons _ _ _ _ (.iface _ _ _ (.top _)) .nil))⟩
            | _ =>
              have e1 : pOk s = false := by simp [pOk, hp]
              have e2 : pVal s = 0 := by simp [pVal, hp]
              rw [e2] at hwf
              simp [e1, e2] at h6
              subst h6
              obtain ⟨tp, p, hv⟩ := hgl.syn
              refine (Any.strconv_ParseInt_10_at64_syntax_var Tryd.laysC174 ⟨s.toArray⟩ (by rw [hsz]; omega) hp tp p w (hv.var hw)).mono ?_
              rintro e w' ⟨N, rfl, h1, h2, h3⟩
              exact ⟨_, rfl, ⟨h3, hgl.dr _ _⟩, .tup _ _ (.cons _ _ _ _ (.int _ _ hwf) (.cons _ _ _ _ (.iface _ _ _ (.top _)) .nil))⟩
  · cases hx
end Go.Pv
