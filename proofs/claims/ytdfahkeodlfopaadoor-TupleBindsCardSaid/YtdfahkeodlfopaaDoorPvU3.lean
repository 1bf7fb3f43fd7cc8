import Derived.Test.YtdfahkeodlfopaaDoorPvU2
set_option maxHeartbeats 4000000
set_option maxRecDepth 200000
set_option linter.unusedSimpArgs false
set_option linter.unusedVariables false
namespace Go.Pv
open Go Go.Proofs
noncomputable def G_TCmp : GamT := ofL [(55, .pure F_CmpF), (56, .pure F_Compare)]
theorem gok_TCmp (gl : Nat → Option Obj) : GamOk Tryd.prog gl (gam G_TCmp) := (gamOk_cons (sim_CmpF gl) (gamOk_cons (sim_Compare gl) gamOk_nil))
noncomputable def L_TCmp : LpsT := fun r fr σ => .fail
noncomputable def TCmp_Tr (a : List (List PV)) (b : List (List PV)) : Tr PV := Tr.ite (okR cV (lockLL a)) (Tr.ite (okR cV (lockLL b)) (Tr.ret (PV.int .i64 (cmpTV (lockLL a) (lockLL b)))) Tr.fail) Tr.fail
theorem TCmp_T (a : List (List PV)) (b : List (List PV)) : (tcall tbT G_TCmp L_TCmp Tryd.f16 [.sl a .non, .sl b .non]).flat = TCmp_Tr a b := by kernel_rfl
noncomputable def F_TCmp : List PV → Tr PV | [.sl a .non, .sl b .non] => TCmp_Tr a b | _ => .fail
theorem sim_TCmp (gl : Nat → Option Obj) : SimP Tryd.prog gl 16 fun args => (F_TCmp args).run := by
  refine SimP.of_flat (G := G_TCmp) (L := L_TCmp) tbT_ok (gok_TCmp gl ) noMixed Tryd.func16 rfl (by rfl) (by kernel_rfl) (loopOk_none (by kernel_rfl)) ?_
  intro args x h
  unfold F_TCmp at h
  split at h
  · exact (congrArg Tr.run (TCmp_T _ _)).trans h
  · cases h
noncomputable def G_Same : GamT := ofL [(39, .pure F_CmpR)]
theorem gok_Same (gl : Nat → Option Obj) : GamOk Tryd.prog gl (gam G_Same) := (gamOk_cons (sim_CmpR gl) gamOk_nil)
noncomputable def L_Same : LpsT := fun r fr σ => .fail
noncomputable def Same_Tr (a : List (List PV)) (b : List (List PV)) : Tr PV := Tr.ite (okR cV (lockLL a)) (Tr.ite (okR cV (lockLL b)) (Tr.ret (PV.bool (iEq (cmpTR (lockLL a) (lockLL b)) 0))) Tr.fail) Tr.fail
theorem Same_T (a : List (List PV)) (b : List (List PV)) : (tcall tbT G_Same L_Same Tryd.f17 [.sl a .non, .sl b .non]).flat = Same_Tr a b := by kernel_rfl
noncomputable def F_Same : List PV → Tr PV | [.sl a .non, .sl b .non] => Same_Tr a b | _ => .fail
theorem sim_Same (gl : Nat → Option Obj) : SimP Tryd.prog gl 17 fun args => (F_Same args).run := by
  refine SimP.of_flat (G := G_Same) (L := L_Same) tbT_ok (gok_Same gl ) noMixed Tryd.func17 rfl (by rfl) (by kernel_rfl) (loopOk_none (by kernel_rfl)) ?_
  intro args x h
  unfold F_Same at h
  split at h
  · exact (congrArg Tr.run (Same_T _ _)).trans h
  · cases h
noncomputable def G_TPat0 : GamT := ofL [(63, .pure F_term)]
theorem gok_TPat0 (gl : Nat → Option Obj) : GamOk Tryd.prog gl (gam G_TPat0) := (gamOk_cons (sim_term gl) gamOk_nil)
noncomputable def c_TPat01 : Code := loopC Tryd.f28 4
def I_TPat01 : LI := ⟨18, [8, 9, 10], fun e => match e with | .ret => [2] | .exit 0 => [] | _ => []⟩
noncomputable def LI_TPat01 : LpsT := fun r fr σ => .fail
noncomputable def TPat01_V (vs : List PV) (σ : Store) : Option (PExit × List PV × Store) := lval (lstep tbT G_TPat0 LI_TPat01 c_TPat01 I_TPat01) vs σ
noncomputable def TPat01_Tr (r : List (List PV)) (n : Int) (n2 : Int) : Tr LR := Tr.ite (iLt n2 n)
  (Tr.ite (okPos n2)
    (Tr.ite (okGet [PV.int .i64 0, PV.str [], PV.int .i64 0, PV.int .i64 0, PV.str []] r (nNat n2))
      (Tr.ite (bNot (isTmV (xInt r (nNat n2) 0) (xStr r (nNat n2) 1) (xInt r (nNat n2) 2) (xInt r (nNat n2) 3) (xStr r (nNat n2) 4)))
        (Tr.ret (LR.out .ret [PV.int .i64 22] (Store.mk [] [] [])))
        (Tr.ret (LR.next [PV.sl (dropPLL 0 r) .non, PV.int .i64 n, PV.int .i64 (iAdd .i64 n2 1)] (Store.mk [] [] []))))
      Tr.fail)
    Tr.fail)
  (Tr.ret (LR.out (.exit 0) [] (Store.mk [] [] [])))
theorem TPat01_T (r : List (List PV)) (n : Int) (n2 : Int) : lstep tbT G_TPat0 LI_TPat01 c_TPat01 I_TPat01 [.sl r .non, .int .i64 n, .int .i64 n2] ⟨[], [], []⟩ = TPat01_Tr r n n2 := by kernel_rfl
theorem TPat01_E (r : List (List PV)) (n : Int) (n2 : Int) : TPat01_V [.sl r .non, .int .i64 n, .int .i64 n2] ⟨[], [], []⟩ = lnext TPat01_V (TPat01_Tr r n n2).run := by unfold TPat01_V; rw [lval_eq, TPat01_T]
noncomputable def TPat01_W (r : List (List PV)) (n : Int) (n2 : Int) : Option (PExit × List PV × Store) := TPat01_V [.sl r .non, .int .i64 n, .int .i64 n2] ⟨[], [], []⟩
noncomputable def TPat01_n_0 (r : List (List PV)) (n : Int) (n2 : Int) : Int := (gInt (gOut (TPat01_W r n n2) 0))
noncomputable def TPat01_is0 (r : List (List PV)) (n : Int) (n2 : Int) : Bool := isW (TPat01_W r n n2) (.ret, [.int .i64 (TPat01_n_0 r n n2)], ⟨[], [], []⟩)
noncomputable def TPat01_is1 (r : List (List PV)) (n : Int) (n2 : Int) : Bool := isW (TPat01_W r n n2) ((.exit 0), [], ⟨[], [], []⟩)
noncomputable def TPat01_prop : List PV → Store → Tr (PExit × List PV × Store) | [.sl r .non, .int .i64 n, .int .i64 n2], ⟨[], [], []⟩ => .ite (TPat01_is0 r n n2) (.ret (.ret, [.int .i64 (TPat01_n_0 r n n2)], ⟨[], [], []⟩)) (.ite (TPat01_is1 r n n2) (.ret ((.exit 0), [], ⟨[], [], []⟩)) (.fail)) | _, _ => .fail
theorem TPat01_ok : ∀ vs σ r, (TPat01_prop vs σ).run = some r → TPat01_V vs σ = some r := by
  intro vs σ r h
  unfold TPat01_prop at h
  split at h
  · exact ite_isW h fun h => ite_isW h fun h => by cases h
  · cases h
theorem loop_TPat01 (gl : Nat → Option Obj) : ∀ fr σ e fr' σ', (orc I_TPat01 TPat01_prop fr σ).run = some (e, fr', σ') → LDoes Tryd.prog gl c_TPat01 fr σ e fr' σ' := orc_ok tbT_ok (gok_TPat0 gl ) noMixed (L := LI_TPat01) (loopOk_none (by kernel_rfl)) (by kernel_rfl) TPat01_ok
noncomputable def L_TPat0 : LpsT := fun r fr σ => bif Nat.beq r 4 then orc I_TPat01 TPat01_prop fr σ else .fail
noncomputable def TPat0_Tr (p_ : List (List PV)) : Tr PV := Tr.ite (iLt 8 (xLen p_)) (Tr.ret (PV.int .i64 22))
  (Tr.ite (TPat01_is0 p_ (xLen p_) 0) (Tr.ret (PV.int .i64 (TPat01_n_0 p_ (xLen p_) 0))) (Tr.ite (TPat01_is1 p_ (xLen p_) 0) (Tr.ret (PV.int .i64 0)) Tr.fail))
theorem TPat0_T (p_ : List (List PV)) : (tcall tbT G_TPat0 L_TPat0 Tryd.f28 [.sl p_ .non]).flat = TPat0_Tr p_ := by kernel_rfl
noncomputable def TPat0_W (p_ : List (List PV)) : Option PV := (TPat0_Tr p_).run
noncomputable def TPat0_n (p_ : List (List PV)) : Int := (gInt (gVal (TPat0_W p_)))
noncomputable def TPat0_is0 (p_ : List (List PV)) : Bool := isW (TPat0_W p_) (.int .i64 (TPat0_n p_))
noncomputable def F_TPat0 : List PV → Tr PV | [.sl p_ .non] => .ite (TPat0_is0 p_) (.ret (.int .i64 (TPat0_n p_))) (.fail) | _ => .fail
theorem sim_TPat0 (gl : Nat → Option Obj) : SimP Tryd.prog gl 28 fun args => (F_TPat0 args).run := by
  refine SimP.of_flat (G := G_TPat0) (L := L_TPat0) tbT_ok (gok_TPat0 gl ) noMixed Tryd.func28 rfl (by rfl) (by kernel_rfl) (loopOk_all (L := lps L_TPat0) [(4, c_TPat01)] (by kernel_rfl) (List.forall_mem_cons.2 ⟨fun fr σ e fr' σ' h => loop_TPat01 gl  fr σ e fr' σ' h, (List.forall_mem_nil _)⟩)) ?_
  intro args x h
  unfold F_TPat0 at h
  split at h
  · exact (congrArg Tr.run (TPat0_T _)).trans (ite_isW h fun h => by cases h)
  · cases h
end Go.Pv
