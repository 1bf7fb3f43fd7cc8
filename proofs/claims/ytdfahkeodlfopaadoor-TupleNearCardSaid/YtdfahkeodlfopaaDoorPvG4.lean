/- Part 4 of the proof: pure values for the machine's values, what functions compute over them, and laws of what is computed. Conditions: none beyond each theorem's own premises. -/
import Derived.Test.YtdfahkeodlfopaaDoorPvG3
set_option maxHeartbeats 4000000
set_option maxRecDepth 200000
set_option linter.unusedSimpArgs false
set_option linter.unusedVariables false
namespace Go.Pv
open Go Go.Proofs
noncomputable def G_few : GamT := ofL []
theorem gok_few (gl : Nat → Option Obj) : GamOk Tryd.prog gl (gam G_few) := gamOk_nil
noncomputable def c_few1 : Code := loopC Tryd.f24 3
def I_few1 : LI := ⟨30, [0, 3, 4], fun e => match e with | .exit 0 => [3] | _ => [], true⟩
noncomputable def LI_few1 : LpsT := fun r fr σ => .fail
noncomputable def few1_V (vs : List PV) (σ : Store) : Option (PExit × List PV × Store) := lval (lstep tbT G_few LI_few1 c_few1 I_few1) vs σ
noncomputable def few1_Tr (l : List (List PV)) (out : List (List PV)) (i : Int) : Tr LR := Tr.ite (iLt i (xLen l))
  (Tr.ite (iLt (xLen out) 60)
    (Tr.ite (okPos i)
      (Tr.ite (okGet [PV.sl [] .full] l (nNat i))
        (Tr.ite (iLe (xLen (xRow l (nNat i) 0)) 20)
          (Tr.ite (okPos i)
            (Tr.ite (okGet [PV.sl [] .full] l (nNat i))
              (Tr.ite (okGrow out [[PV.sl (xRow l (nNat i) 0) .non]] 24)
                (Tr.ite (okNews [[PV.sl (xRow l (nNat i) 0) .non]] 1)
                  (Tr.ite (okSize out 1)
                    (Tr.ret
                      (LR.next [PV.sl l .non, PV.sl (xApp out [[PV.sl (xRow l (nNat i) 0) .non]]) (.tok 0), PV.int .i64 (iAdd .i64 i 1)]
                        (Store.mk [] [(nXs (xApp out [[PV.sl (xRow l (nNat i) 0) .non]]), 1, 23)] [])))
                    Tr.fail)
                  Tr.fail)
                Tr.fail)
              Tr.fail)
            Tr.fail)
          (Tr.ret (LR.next [PV.sl l .non, PV.sl out .full, PV.int .i64 (iAdd .i64 i 1)] (Store.mk [] [] []))))
        Tr.fail)
      Tr.fail)
    (Tr.ret (LR.out (.exit 0) [PV.sl out .full] (Store.mk [] [] []))))
  (Tr.ret (LR.out (.exit 0) [PV.sl out .full] (Store.mk [] [] [])))
theorem few1_T (l : List (List PV)) (out : List (List PV)) (i : Int) : lstep tbT G_few LI_few1 c_few1 I_few1 [.sl l .non, .sl out .full, .int .i64 i] ⟨[], [], []⟩ = few1_Tr l out i := by kernel_rfl
theorem few1_E (l : List (List PV)) (out : List (List PV)) (i : Int) : few1_V [.sl l .non, .sl out .full, .int .i64 i] ⟨[], [], []⟩ = lnext few1_V (few1_Tr l out i).run := by unfold few1_V; rw [lval_eq, few1_T]
noncomputable def few1_Tr1 (l : List (List PV)) (out : List (List PV)) (i : Int) (k : Nat) : Tr LR := Tr.ite (iLt i (xLen l))
  (Tr.ite (iLt (xLen out) 60)
    (Tr.ite (okPos i)
      (Tr.ite (okGet [PV.sl [] .full] l (nNat i))
        (Tr.ite (iLe (xLen (xRow l (nNat i) 0)) 20)
          (Tr.ite (okPos i)
            (Tr.ite (okGet [PV.sl [] .full] l (nNat i))
              (Tr.ite (okGrow out [[PV.sl (xRow l (nNat i) 0) .non]] 24)
                (Tr.ite (okNews [[PV.sl (xRow l (nNat i) 0) .non]] 1)
                  (Tr.ite (okSize out 1)
                    (Tr.ite (nEq k (nXs out))
                      (Tr.ret
                        (LR.next [PV.sl l .non, PV.sl (xApp out [[PV.sl (xRow l (nNat i) 0) .non]]) (.tok 0), PV.int .i64 (iAdd .i64 i 1)]
                          (Store.mk [] [(nXs (xApp out [[PV.sl (xRow l (nNat i) 0) .non]]), 1, 23)] [])))
                      Tr.fail)
                    Tr.fail)
                  Tr.fail)
                Tr.fail)
              Tr.fail)
            Tr.fail)
          (Tr.ret (LR.next [PV.sl l .non, PV.sl out (.tok 0), PV.int .i64 (iAdd .i64 i 1)] (Store.mk [] [(k, 1, 23)] []))))
        Tr.fail)
      Tr.fail)
    (Tr.ret (LR.out (.exit 0) [PV.sl out (.tok 0)] (Store.mk [] [(k, 1, 23)] []))))
  (Tr.ret (LR.out (.exit 0) [PV.sl out (.tok 0)] (Store.mk [] [(k, 1, 23)] [])))
theorem few1_T1 (l : List (List PV)) (out : List (List PV)) (i : Int) (k : Nat) : lstep tbT G_few LI_few1 c_few1 I_few1 [.sl l .non, .sl out (.tok 0), .int .i64 i] ⟨[], [(k, 1, 23)], []⟩ = few1_Tr1 l out i k := by kernel_rfl
theorem few1_E1 (l : List (List PV)) (out : List (List PV)) (i : Int) (k : Nat) : few1_V [.sl l .non, .sl out (.tok 0), .int .i64 i] ⟨[], [(k, 1, 23)], []⟩ = lnext few1_V (few1_Tr1 l out i k).run := by unfold few1_V; rw [lval_eq, few1_T1]
noncomputable def few1_W (l : List (List PV)) (out : List (List PV)) (i : Int) : Option (PExit × List PV × Store) := few1_V [.sl l .non, .sl out .full, .int .i64 i] ⟨[], [], []⟩
noncomputable def few1_out_0 (l : List (List PV)) (out : List (List PV)) (i : Int) : List (List PV) := (gRow (gOut (few1_W l out i) 0))
noncomputable def few1_is0 (l : List (List PV)) (out : List (List PV)) (i : Int) : Bool := isW (few1_W l out i) ((.exit 0), [.sl (few1_out_0 l out i) .full], ⟨[], [], []⟩)
noncomputable def few1_out_1 (l : List (List PV)) (out : List (List PV)) (i : Int) : List (List PV) := (gRow (gOut (few1_W l out i) 0))
noncomputable def few1_k_1 (l : List (List PV)) (out : List (List PV)) (i : Int) : Nat := (gTok (few1_W l out i) 0)
noncomputable def few1_is1 (l : List (List PV)) (out : List (List PV)) (i : Int) : Bool := isW (few1_W l out i) ((.exit 0), [.sl (few1_out_1 l out i) (.tok 0)], ⟨[], [((few1_k_1 l out i), 1, 23)], []⟩)
noncomputable def few1_prop : List PV → Store → Tr (PExit × List PV × Store) | [.sl l .non, .sl out .full, .int .i64 i], ⟨[], [], []⟩ => .ite (few1_is0 l out i) (.ret ((.exit 0), [.sl (few1_out_0 l out i) .full], ⟨[], [], []⟩)) (.ite (few1_is1 l out i) (.ret ((.exit 0), [.sl (few1_out_1 l out i) (.tok 0)], ⟨[], [((few1_k_1 l out i), 1, 23)], []⟩)) (.fail)) | _, _ => .fail
theorem few1_ok : ∀ vs σ r, (few1_prop vs σ).run = some r → few1_V vs σ = some r := by
  intro vs σ r h
  unfold few1_prop at h
  split at h
  · exact ite_isW h fun h => ite_isW h fun h => by cases h
  · cases h
theorem loop_few1 (gl : Nat → Option Obj) : ∀ fr σ e fr' σ', (orc I_few1 few1_prop fr σ).run = some (e, fr', σ') → LDoes Tryd.prog gl c_few1 fr σ e fr' σ' := orc_ok tbT_ok (gok_few gl ) noMixed (L := LI_few1) (loopOk_none (by kernel_rfl)) (by kernel_rfl) few1_ok
noncomputable def L_few : LpsT := fun r fr σ => bif Nat.beq r 3 then orc I_few1 few1_prop fr σ else .fail
noncomputable def few_Tr (l : List (List PV)) : Tr PV := Tr.ite (few1_is0 l [] 0) (Tr.ret (PV.sl (shutLL (few1_out_0 l [] 0)) .non)) (Tr.ite (few1_is1 l [] 0) (Tr.ret (PV.sl (shutLL (few1_out_1 l [] 0)) .non)) Tr.fail)
theorem few_T (l : List (List PV)) : (tcall tbT G_few L_few Tryd.f24 [.sl l .non]).flat = few_Tr l := by kernel_rfl
noncomputable def few_W (l : List (List PV)) : Option PV := (few_Tr l).run
noncomputable def few_r (l : List (List PV)) : List (List PV) := (gRow (gVal (few_W l)))
noncomputable def few_is0 (l : List (List PV)) : Bool := isW (few_W l) (.sl (few_r l) .non)
noncomputable def F_few : List PV → Tr PV | [.sl l .non] => .ite (few_is0 l) (.ret (.sl (few_r l) .non)) (.fail) | _ => .fail
theorem sim_few (gl : Nat → Option Obj) : SimP Tryd.prog gl 24 fun args => (F_few args).run := by
  refine SimP.of_flat (G := G_few) (L := L_few) tbT_ok (gok_few gl ) noMixed Tryd.func24 rfl (by rfl) (by kernel_rfl) (loopOk_all (L := lps L_few) [(3, c_few1)] (by kernel_rfl) (List.forall_mem_cons.2 ⟨fun fr σ e fr' σ' h => loop_few1 gl  fr σ e fr' σ' h, (List.forall_mem_nil _)⟩)) ?_
  intro args x h
  unfold F_few at h
  split at h
  · exact (congrArg Tr.run (few_T _)).trans (ite_isW h fun h => by cases h)
  · cases h
noncomputable def G_winc : GamT := ofL []
theorem gok_winc (gl : Nat → Option Obj) : GamOk Tryd.prog gl (gam G_winc) := gamOk_nil
noncomputable def L_winc : LpsT := fun r fr σ => .fail
noncomputable def winc_Tr (n : Int) (t : List (List PV)) : Tr PV := Tr.ite (okSub true (okPos (imin n (xLen t))) 0 (nNat (imin n (xLen t))) (nXs t)) (Tr.ite (okSize t 3) (Tr.ret (PV.sl (shutLL (xSub t 0 (nNat (imin n (xLen t))))) .non)) Tr.fail)
  Tr.fail
theorem winc_T (n : Int) (t : List (List PV)) : (tcall tbT G_winc L_winc Tryd.f60 [.int .i64 n, .ref [.sl t .non]]).flat = winc_Tr n t := by kernel_rfl
noncomputable def F_winc : List PV → Tr PV | [.int .i64 n, .ref [.sl t .non]] => winc_Tr n t | _ => .fail
theorem sim_winc (gl : Nat → Option Obj) : SimP Tryd.prog gl 60 fun args => (F_winc args).run := by
  refine SimP.of_flat (G := G_winc) (L := L_winc) tbT_ok (gok_winc gl ) noMixed Tryd.func60 rfl (by rfl) (by kernel_rfl) (loopOk_none (by kernel_rfl)) ?_
  intro args x h
  unfold F_winc at h
  split at h
  · exact (congrArg Tr.run (winc_T _ _)).trans h
  · cases h
noncomputable def G_TWithin : GamT := ofL [(16, .pure F_TCmp), (60, .pure F_winc)]
theorem gok_TWithin (gl : Nat → Option Obj) : GamOk Tryd.prog gl (gam G_TWithin) := (gamOk_cons (sim_TCmp gl) (gamOk_cons (sim_winc gl) gamOk_nil))
noncomputable def L_TWithin : LpsT := fun r fr σ => .fail
noncomputable def TWithin_Tr (low : List (List PV)) (t : List (List PV)) (high : List (List PV)) : Tr PV := Tr.ite (okSub true (okPos (imin (xLen low) (xLen (lockLL t)))) 0 (nNat (imin (xLen low) (xLen (lockLL t)))) (nXs (lockLL t)))
  (Tr.ite (okSize (lockLL t) 3)
    (Tr.ite (okR cV (lockLL (lockLL (shutLL (xSub (lockLL t) 0 (nNat (imin (xLen low) (xLen (lockLL t)))))))))
      (Tr.ite (okR cV (lockLL (lockLL low)))
        (Tr.ite (iLe 0 (cmpTV (lockLL (lockLL (shutLL (xSub (lockLL t) 0 (nNat (imin (xLen low) (xLen (lockLL t)))))))) (lockLL (lockLL low))))
          (Tr.ite (okSub true (okPos (imin (xLen high) (xLen (lockLL t)))) 0 (nNat (imin (xLen high) (xLen (lockLL t)))) (nXs (lockLL t)))
            (Tr.ite (okSize (lockLL t) 3)
              (Tr.ite (okR cV (lockLL (lockLL (shutLL (xSub (lockLL t) 0 (nNat (imin (xLen high) (xLen (lockLL t)))))))))
                (Tr.ite (okR cV (lockLL (lockLL high)))
                  (Tr.ret (PV.bool (iLe (cmpTV (lockLL (lockLL (shutLL (xSub (lockLL t) 0 (nNat (imin (xLen high) (xLen (lockLL t)))))))) (lockLL (lockLL high))) 0))) Tr.fail)
                Tr.fail)
              Tr.fail)
            Tr.fail)
          (Tr.ret (PV.bool false)))
        Tr.fail)
      Tr.fail)
    Tr.fail)
  Tr.fail
theorem TWithin_T (low : List (List PV)) (t : List (List PV)) (high : List (List PV)) : (tcall tbT G_TWithin L_TWithin Tryd.f21 [.sl low .non, .sl t .non, .sl high .non]).flat = TWithin_Tr low t high := by kernel_rfl
noncomputable def F_TWithin : List PV → Tr PV | [.sl low .non, .sl t .non, .sl high .non] => TWithin_Tr low t high | _ => .fail
theorem sim_TWithin (gl : Nat → Option Obj) : SimP Tryd.prog gl 21 fun args => (F_TWithin args).run := by
  refine SimP.of_flat (G := G_TWithin) (L := L_TWithin) tbT_ok (gok_TWithin gl ) noMixed Tryd.func21 rfl (by rfl) (by kernel_rfl) (loopOk_none (by kernel_rfl)) ?_
  intro args x h
  unfold F_TWithin at h
  split at h
  · exact (congrArg Tr.run (TWithin_T _ _ _)).trans h
  · cases h
noncomputable def G_RWithin : GamT := ofL [(39, .pure F_CmpR)]
theorem gok_RWithin (gl : Nat → Option Obj) : GamOk Tryd.prog gl (gam G_RWithin) := (gamOk_cons (sim_CmpR gl) gamOk_nil)
noncomputable def L_RWithin : LpsT := fun r fr σ => .fail
noncomputable def RWithin_Tr (low : List (List PV)) (t : List (List PV)) (high : List (List PV)) : Tr PV := Tr.ite (okSub true (okPos (imin (xLen t) (xLen low))) 0 (nNat (imin (xLen t) (xLen low))) (nXs t))
  (Tr.ite (okSize t 3)
    (Tr.ite (okR cV (lockLL (xSub t 0 (nNat (imin (xLen t) (xLen low))))))
      (Tr.ite (okR cV (lockLL low))
        (Tr.ite (iLe 0 (cmpTR (lockLL (xSub t 0 (nNat (imin (xLen t) (xLen low))))) (lockLL low)))
          (Tr.ite (okSub true (okPos (imin (xLen t) (xLen high))) 0 (nNat (imin (xLen t) (xLen high))) (nXs t))
            (Tr.ite (okSize t 3)
              (Tr.ite (okR cV (lockLL (xSub t 0 (nNat (imin (xLen t) (xLen high))))))
                (Tr.ite (okR cV (lockLL high)) (Tr.ret (PV.bool (iLe (cmpTR (lockLL (xSub t 0 (nNat (imin (xLen t) (xLen high))))) (lockLL high)) 0))) Tr.fail) Tr.fail)
              Tr.fail)
            Tr.fail)
          (Tr.ret (PV.bool false)))
        Tr.fail)
      Tr.fail)
    Tr.fail)
  Tr.fail
theorem RWithin_T (low : List (List PV)) (t : List (List PV)) (high : List (List PV)) : (tcall tbT G_RWithin L_RWithin Tryd.f22 [.sl low .non, .sl t .non, .sl high .non]).flat = RWithin_Tr low t high := by kernel_rfl
noncomputable def F_RWithin : List PV → Tr PV | [.sl low .non, .sl t .non, .sl high .non] => RWithin_Tr low t high | _ => .fail
theorem sim_RWithin (gl : Nat → Option Obj) : SimP Tryd.prog gl 22 fun args => (F_RWithin args).run := by
  refine SimP.of_flat (G := G_RWithin) (L := L_RWithin) tbT_ok (gok_RWithin gl ) noMixed Tryd.func22 rfl (by rfl) (by kernel_rfl) (loopOk_none (by kernel_rfl)) ?_
  intro args x h
  unfold F_RWithin at h
  split at h
  · exact (congrArg Tr.run (RWithin_T _ _ _)).trans h
  · cases h
noncomputable def G_SameRel : GamT := ofL [(17, .pure F_Same)]
theorem gok_SameRel (gl : Nat → Option Obj) : GamOk Tryd.prog gl (gam G_SameRel) := (gamOk_cons (sim_Same gl) gamOk_nil)
noncomputable def c_SameRel1 : Code := loopC Tryd.f31 4
def I_SameRel1 : LI := ⟨27, [0, 1, 5], fun e => match e with | .ret => [4] | .exit 0 => [] | _ => [], true⟩
noncomputable def LI_SameRel1 : LpsT := fun r fr σ => .fail
noncomputable def SameRel1_V (vs : List PV) (σ : Store) : Option (PExit × List PV × Store) := lval (lstep tbT G_SameRel LI_SameRel1 c_SameRel1 I_SameRel1) vs σ
noncomputable def SameRel1_Tr (a : List (List PV)) (b : List (List PV)) (i : Int) : Tr LR := Tr.ite (iLt i (xLen a))
  (Tr.ite (okPos i)
    (Tr.ite (okGet [PV.sl [] .full] a (nNat i))
      (Tr.ite (okPos i)
        (Tr.ite (okGet [PV.sl [] .full] b (nNat i))
          (Tr.ite (okR cV (lockLL (lockLL (xRow a (nNat i) 0))))
            (Tr.ite (okR cV (lockLL (lockLL (xRow b (nNat i) 0))))
              (Tr.ite (bNot (iEq (cmpTR (lockLL (lockLL (xRow a (nNat i) 0))) (lockLL (lockLL (xRow b (nNat i) 0)))) 0))
                (Tr.ret (LR.out .ret [PV.bool false] (Store.mk [] [] [])))
                (Tr.ret (LR.next [PV.sl a .non, PV.sl b .non, PV.int .i64 (iAdd .i64 i 1)] (Store.mk [] [] []))))
              Tr.fail)
            Tr.fail)
          Tr.fail)
        Tr.fail)
      Tr.fail)
    Tr.fail)
  (Tr.ret (LR.out (.exit 0) [] (Store.mk [] [] [])))
theorem SameRel1_T (a : List (List PV)) (b : List (List PV)) (i : Int) : lstep tbT G_SameRel LI_SameRel1 c_SameRel1 I_SameRel1 [.sl a .non, .sl b .non, .int .i64 i] ⟨[], [], []⟩ = SameRel1_Tr a b i := by kernel_rfl
theorem SameRel1_E (a : List (List PV)) (b : List (List PV)) (i : Int) : SameRel1_V [.sl a .non, .sl b .non, .int .i64 i] ⟨[], [], []⟩ = lnext SameRel1_V (SameRel1_Tr a b i).run := by unfold SameRel1_V; rw [lval_eq, SameRel1_T]
noncomputable def SameRel1_W (a : List (List PV)) (b : List (List PV)) (i : Int) : Option (PExit × List PV × Store) := SameRel1_V [.sl a .non, .sl b .non, .int .i64 i] ⟨[], [], []⟩
noncomputable def SameRel1_b_0 (a : List (List PV)) (b : List (List PV)) (i : Int) : Bool := (gBool (gOut (SameRel1_W a b i) 0))
noncomputable def SameRel1_is0 (a : List (List PV)) (b : List (List PV)) (i : Int) : Bool := isW (SameRel1_W a b i) (.ret, [.bool (SameRel1_b_0 a b i)], ⟨[], [], []⟩)
noncomputable def SameRel1_is1 (a : List (List PV)) (b : List (List PV)) (i : Int) : Bool := isW (SameRel1_W a b i) ((.exit 0), [], ⟨[], [], []⟩)
noncomputable def SameRel1_prop : List PV → Store → Tr (PExit × List PV × Store) | [.sl a .non, .sl b .non, .int .i64 i], ⟨[], [], []⟩ => .ite (SameRel1_is0 a b i) (.ret (.ret, [.bool (SameRel1_b_0 a b i)], ⟨[], [], []⟩)) (.ite (SameRel1_is1 a b i) (.ret ((.exit 0), [], ⟨[], [], []⟩)) (.fail)) | _, _ => .fail
theorem SameRel1_ok : ∀ vs σ r, (SameRel1_prop vs σ).run = some r → SameRel1_V vs σ = some r := by
  intro vs σ r h
  unfold SameRel1_prop at h
  split at h
  · exact ite_isW h fun h => ite_isW h fun h => by cases h
  · cases h
theorem loop_SameRel1 (gl : Nat → Option Obj) : ∀ fr σ e fr' σ', (orc I_SameRel1 SameRel1_prop fr σ).run = some (e, fr', σ') → LDoes Tryd.prog gl c_SameRel1 fr σ e fr' σ' := orc_ok tbT_ok (gok_SameRel gl ) noMixed (L := LI_SameRel1) (loopOk_none (by kernel_rfl)) (by kernel_rfl) SameRel1_ok
noncomputable def L_SameRel : LpsT := fun r fr σ => bif Nat.beq r 4 then orc I_SameRel1 SameRel1_prop fr σ else .fail
noncomputable def SameRel_Tr (a : List (List PV)) (b : List (List PV)) : Tr PV := Tr.ite (iNe (xLen a) (xLen b)) (Tr.ret (PV.bool false))
  (Tr.ite (SameRel1_is0 a b 0) (Tr.ret (PV.bool (SameRel1_b_0 a b 0))) (Tr.ite (SameRel1_is1 a b 0) (Tr.ret (PV.bool true)) Tr.fail))
theorem SameRel_T (a : List (List PV)) (b : List (List PV)) : (tcall tbT G_SameRel L_SameRel Tryd.f31 [.sl a .non, .sl b .non]).flat = SameRel_Tr a b := by kernel_rfl
noncomputable def SameRel_W (a : List (List PV)) (b : List (List PV)) : Option PV := (SameRel_Tr a b).run
noncomputable def SameRel_b (a : List (List PV)) (b : List (List PV)) : Bool := (gBool (gVal (SameRel_W a b)))
noncomputable def SameRel_is0 (a : List (List PV)) (b : List (List PV)) : Bool := isW (SameRel_W a b) (.bool (SameRel_b a b))
noncomputable def F_SameRel : List PV → Tr PV | [.sl a .non, .sl b .non] => .ite (SameRel_is0 a b) (.ret (.bool (SameRel_b a b))) (.fail) | _ => .fail
theorem sim_SameRel (gl : Nat → Option Obj) : SimP Tryd.prog gl 31 fun args => (F_SameRel args).run := by
  refine SimP.of_flat (G := G_SameRel) (L := L_SameRel) tbT_ok (gok_SameRel gl ) noMixed Tryd.func31 rfl (by rfl) (by kernel_rfl) (loopOk_all (L := lps L_SameRel) [(4, c_SameRel1)] (by kernel_rfl) (List.forall_mem_cons.2 ⟨fun fr σ e fr' σ' h => loop_SameRel1 gl  fr σ e fr' σ' h, (List.forall_mem_nil _)⟩)) ?_
  intro args x h
  unfold F_SameRel at h
  split at h
  · exact (congrArg Tr.run (SameRel_T _ _)).trans (ite_isW h fun h => by cases h)
  · cases h
noncomputable def G_CloneT0 : GamT := ofL []
theorem gok_CloneT0 (gl : Nat → Option Obj) : GamOk Tryd.prog gl (gam G_CloneT0) := gamOk_nil
noncomputable def L_CloneT0 : LpsT := fun r fr σ => .fail
noncomputable def CloneT0_Tr (s : List (List PV)) : Tr PV := Tr.ite (xNil s)
  (Tr.ite true (Tr.ret (PV.sl [] .non))
    (Tr.ite (okGrow [] s 32)
      (Tr.ite (okNews s 3) (Tr.ite (okSize [] 3) (Tr.ite (xNil s) (Tr.ret (PV.sl [] .non)) (Tr.ret (PV.sl (shutLL (xApp [] s)) .non))) Tr.fail) Tr.fail) Tr.fail))
  (Tr.ite false (Tr.ret (PV.sl [] .non))
    (Tr.ite (okGrow [] s 32)
      (Tr.ite (okNews s 3) (Tr.ite (okSize [] 3) (Tr.ite (xNil s) (Tr.ret (PV.sl [] .non)) (Tr.ret (PV.sl (shutLL (xApp [] s)) .non))) Tr.fail) Tr.fail) Tr.fail))
theorem CloneT0_T (s : List (List PV)) : (tcall tbT G_CloneT0 L_CloneT0 Tryd.f64 [.sl s .nil]).flat = CloneT0_Tr s := by kernel_rfl
noncomputable def CloneT0_W (s : List (List PV)) : Option PV := (CloneT0_Tr s).run
noncomputable def CloneT0_r (s : List (List PV)) : List (List PV) := (gRow (gVal (CloneT0_W s)))
noncomputable def CloneT0_is0 (s : List (List PV)) : Bool := isW (CloneT0_W s) (.sl (CloneT0_r s) .non)
noncomputable def CloneT0b_Tr (s : List (List PV)) : Tr PV := Tr.ite (xNil s)
  (Tr.ite false (Tr.ret (PV.sl [] .non))
    (Tr.ite (okGrow [] s 32)
      (Tr.ite (okNews s 3) (Tr.ite (okSize [] 3) (Tr.ite (xNil s) (Tr.ret (PV.sl [] .non)) (Tr.ret (PV.sl (shutLL (xApp [] s)) .non))) Tr.fail) Tr.fail) Tr.fail))
  (Tr.ite false (Tr.ret (PV.sl [] .non))
    (Tr.ite (okGrow [] s 32)
      (Tr.ite (okNews s 3) (Tr.ite (okSize [] 3) (Tr.ite (xNil s) (Tr.ret (PV.sl [] .non)) (Tr.ret (PV.sl (shutLL (xApp [] s)) .non))) Tr.fail) Tr.fail) Tr.fail))
theorem CloneT0b_T (s : List (List PV)) : (tcall tbT G_CloneT0 L_CloneT0 Tryd.f64 [.sl s .own]).flat = CloneT0b_Tr s := by kernel_rfl
noncomputable def CloneT0b_W (s : List (List PV)) : Option PV := (CloneT0b_Tr s).run
noncomputable def CloneT0b_r (s : List (List PV)) : List (List PV) := (gRow (gVal (CloneT0b_W s)))
noncomputable def CloneT0b_is0 (s : List (List PV)) : Bool := isW (CloneT0b_W s) (.sl (CloneT0b_r s) .non)
noncomputable def F_CloneT0 : List PV → Tr PV | [.sl s .nil] => .ite (CloneT0_is0 s) (.ret (.sl (CloneT0_r s) .non)) (.fail) | [.sl s .own] => .ite (CloneT0b_is0 s) (.ret (.sl (CloneT0b_r s) .non)) (.fail) | _ => .fail
theorem sim_CloneT0 (gl : Nat → Option Obj) : SimP Tryd.prog gl 64 fun args => (F_CloneT0 args).run := by
  refine SimP.of_flat (G := G_CloneT0) (L := L_CloneT0) tbT_ok (gok_CloneT0 gl ) noMixed Tryd.func64 rfl (by rfl) (by kernel_rfl) (loopOk_none (by kernel_rfl)) ?_
  intro args x h
  unfold F_CloneT0 at h
  split at h
  · exact (congrArg Tr.run (CloneT0_T _)).trans (ite_isW h fun h => by cases h)
  · exact (congrArg Tr.run (CloneT0b_T _)).trans (ite_isW h fun h => by cases h)
  · cases h
end Go.Pv

set_option maxHeartbeats 4000000
set_option maxRecDepth 200000
set_option linter.unusedSimpArgs false
set_option linter.unusedVariables false
namespace Go.Pv
open Go Go.Proofs
/-! ### few -/
def fewL (l : List (List Vl)) : List (List Vl) := (l.filter fun t => decide (t.length ≤ 20)).take 60
def fewF (b : List (List Vl)) (a : List Vl) : List (List Vl) ⊕ List (List Vl) := if b.length < 60 then (if a.length ≤ 20 then .inl (b ++ [a]) else .inl b) else .inr b
theorem few_fold : ∀ (l b : List (List Vl)), b.length ≤ 60 → foldE fewF id l b = (b ++ l.filter fun t => decide (t.length ≤ 20)).take 60
  | [], b, h => by simp [foldE, List.take_of_length_le h]
  | a :: l, b, h => by
    simp only [foldE, fewF]
    by_cases h1 : b.length < 60
    · by_cases h2 : a.length ≤ 20
      · simp only [if_pos h1, if_pos h2]
        rw [few_fold l (b ++ [a]) (by simp; omega)]
        simp [h2]
      · simp only [if_pos h1, if_neg h2]
        rw [few_fold l b h]
        simp [h2]
    · simp only [if_neg h1]
      have : b.length = 60 := by omega
      rw [List.take_append_of_le_length (by omega), List.take_of_length_le (by omega)]
theorem few_loop (l : List (List Vl)) (hl : l.length ≤ 9223372036854775807) : few1_V [.sl (rOf (cR cV) l) .non, .sl [] .full, .int .i64 0] ⟨[], [], []⟩ = some (.exit 0, [.sl (rOf (cR cV) (fewL l)) (aT (fewL l))], aS 1 23 (fewL l)) := by
  have h := loop_foldE0 (l := l) (V := fun i b => few1_V [.sl (rOf (cR cV) l) .non, .sl (rOf (cR cV) b) (aT b), .int .i64 (i : Nat)] (aS 1 23 b)) (fun _ _ => True) fewF id (fun r => some (.exit 0, [.sl (rOf (cR cV) r) (aT r)], aS 1 23 r)) [] trivial ?_ ?_
  · rw [few_fold l [] (by simp)] at h
    simpa [fewL] using h
  · intro i b a _ hi ha
    have w := inc_i64 (i := i) (by omega)
    rcases aTS_cases 1 23 b with ⟨rfl, h1, h2⟩ | ⟨hne, h1, h2⟩
    · by_cases hc : (a.length : Int) ≤ 20
      · refine .inl ⟨_, by simp only [fewF]; rw [if_pos (by simp)]; first | rw [if_pos (by omega)] | rw [if_neg (by omega)], trivial, ?_⟩
        simp [few1_E, few1_Tr, ha, hi, w, hc, one, aT, aS]
      · refine .inl ⟨_, by simp only [fewF]; rw [if_pos (by simp)]; first | rw [if_pos (by omega)] | rw [if_neg (by omega)], trivial, ?_⟩
        simp [few1_E, few1_Tr, ha, hi, w, hc, one, aT, aS]
    · by_cases h3 : (b.length : Int) < 60
      · by_cases hc : (a.length : Int) ≤ 20
        · refine .inl ⟨_, by simp only [fewF]; rw [if_pos (by omega)]; first | rw [if_pos (by omega)] | rw [if_neg (by omega)], trivial, ?_⟩
          have h4 : (b.length + 1) * 24 ≤ 140737488355328 := by omega
          have h5 : b.length ≤ 140737488355327 := by omega
          simp [h1, h2, few1_E1, few1_Tr1, ha, hi, w, hc, h3, one, aT_snoc, aS_snoc, h4, h5]
          try omega
        · refine .inl ⟨_, by simp only [fewF]; rw [if_pos (by omega)]; first | rw [if_pos (by omega)] | rw [if_neg (by omega)], trivial, ?_⟩
          simp [h1, h2, few1_E1, few1_Tr1, ha, hi, w, hc, h3, one, aT_snoc, aS_snoc]
      · refine .inr ⟨_, by simp only [fewF]; rw [if_neg (by omega)], ?_⟩
        simp [h1, h2, few1_E1, few1_Tr1, ha, hi, w, h3]
        try omega
  · intro b _
    rcases aTS_cases 1 23 b with ⟨rfl, h1, h2⟩ | ⟨hne, h1, h2⟩
    · simp [few1_E, few1_Tr]
    · simp [h1, h2, few1_E1, few1_Tr1]
theorem few_law (l : List (List Vl)) (hl : l.length ≤ 9223372036854775807) : few_W (rOf (cR cV) l) = some (.sl (rOf (cR cV) (fewL l)) .non) := by
  have h := few_loop l hl
  unfold few_W few_Tr
  generalize fewL l = r at h
  rcases aTS_cases 1 23 r with ⟨rfl, h1, h2⟩ | ⟨hne, h1, h2⟩
  · simp [few1_is0, few1_is1, few1_out_0, few1_out_1, few1_k_1, few1_W, h]
  · rw [h1, h2] at h
    simp [few1_is0, few1_is1, few1_out_0, few1_out_1, few1_k_1, few1_W, h]
theorem few_len (l : List (List Vl)) : (fewL l).length ≤ 60 := by simp [fewL]; omega
theorem few_mem {l : List (List Vl)} {t : List Vl} (h : t ∈ fewL l) : t ∈ l ∧ t.length ≤ 20 := by
  have := List.mem_of_mem_take h
  simpa using this
/-! ### the order of tuples -/
theorem cmpVl_tot : Tot cmpVl where
  val := fun a b => cmp_val _ _ _ _ _ _
  zero := fun a b => by
    unfold cmpVl
    rw [cmp_zero]
    obtain ⟨k, n, s⟩ := a
    obtain ⟨k', n', s'⟩ := b
    simp
  swap := fun a b => cmp_swap _ _ _ _ _ _
  trans := fun a b c h1 h2 => cmp_lt_trans h1 (by have : cmpVl b c < 0 := h2; unfold cmpVl at this; omega)
theorem cmpT_lex (f : Vl → Vl → Int) : ∀ (a b : List Vl), cmpT f a b = lex f a b
  | [], [] => rfl
  | [], b :: m => by simp [cmpT, dif, lex]
  | a :: l, [] => by simp [cmpT, dif, lex]
  | a :: l, b :: m => by
    have ih := cmpT_lex f l m
    simp only [cmpT, dif, lex] at ih ⊢
    by_cases h : f a b = 0
    · simp only [if_pos h]
      rw [← ih]
      cases dif f l m <;> simp
    · simp only [if_neg h]
/-- Tuples in order. -/
def lexV : List Vl → List Vl → Int := lex cmpVl
theorem lexV_tot : Tot lexV := lex_tot cmpVl_tot
@[simp] theorem cmpTV_of (a b : List Vl) : cmpTV (rOf cV a) (rOf cV b) = lexV a b := by simp only [cmpTV, unR_of, cmpT_lex]; rfl
@[simp] theorem cmpTR_of (a b : List Vl) : cmpTR (rOf cV a) (rOf cV b) = lexV a b := by simp only [cmpTR, unR_of, cmpT_lex, cmpRl_eq]; rfl
/-! ### rows of tuples alike -/
theorem sameRel_loop : ∀ (k i : Nat) (a b : List (List Vl)), i + k = a.length → a.length = b.length → a.length ≤ 9223372036854775807 → SameRel1_V [.sl (rOf (cR cV) a) .non, .sl (rOf (cR cV) b) .non, .int .i64 (i : Nat)] ⟨[], [], []⟩ = if a.drop i = b.drop i then some (.exit 0, [], ⟨[], [], []⟩) else some (.ret, [.bool false], ⟨[], [], []⟩)
  | 0, i, a, b, hi, hl, hm => by
    rw [List.drop_eq_nil_of_le (by omega), List.drop_eq_nil_of_le (by omega)]
    have : ¬ (i : Int) < a.length := by omega
    simp [SameRel1_E, SameRel1_Tr, this]
  | k + 1, i, a, b, hi, hl, hm => by
    have w := inc_i64 (i := i) (by omega)
    have h1 : i < a.length := by omega
    have h2 : i < b.length := by omega
    have key : (a.drop i = b.drop i) = (a[i] = b[i] ∧ a.drop (i + 1) = b.drop (i + 1)) := by rw [List.drop_eq_getElem_cons h1, List.drop_eq_getElem_cons h2, List.cons.injEq]
    have ih := sameRel_loop k (i + 1) a b (by omega) hl hm
    simp only [key]
    by_cases e : a[i] = b[i]
    · have := lexV_tot.self b[i]
      simp only [e, true_and]
      rw [← ih]
      simp [SameRel1_E, SameRel1_Tr, h1, h2, w, e, this]
    · have : ¬ lexV a[i] b[i] = 0 := fun h => e ((lexV_tot.zero _ _).1 h)
      simp [SameRel1_E, SameRel1_Tr, h1, h2, w, e, this]
theorem sameRel_law (a b : List (List Vl)) (ha : a.length ≤ 9223372036854775807) : SameRel_W (rOf (cR cV) a) (rOf (cR cV) b) = some (.bool (decide (a = b))) := by
  unfold SameRel_W SameRel_Tr
  by_cases hl : a.length = b.length
  · have h := sameRel_loop a.length 0 a b (by omega) hl ha
    simp only [List.drop_zero] at h
    by_cases e : a = b
    · rw [if_pos e] at h
      subst e
      simp at h
      simp [SameRel1_is0, SameRel1_is1, SameRel1_b_0, SameRel1_W, h]
    · rw [if_neg e] at h
      simp at h
      have : ¬ (a.length : Int) ≠ b.length := by omega
      simp [SameRel1_is0, SameRel1_is1, SameRel1_b_0, SameRel1_W, h, e, this]
  · have : (a.length : Int) ≠ b.length := by omega
    have e : a ≠ b := by rintro rfl; exact hl rfl
    simp [this, e]
/-! ### within -/
def withinL (low t high : List Vl) : Bool := decide (0 ≤ lexV (t.take low.length) low) && decide (lexV (t.take high.length) high ≤ 0)
theorem min_nat (a b : Nat) : imin (a : Int) (b : Int) = ((min a b : Nat) : Int) := by simp only [imin_eq]; split <;> omega
theorem TWithin_law (low t high : List Vl) : (TWithin_Tr (rOf cV low) (rOf cV t) (rOf cV high)).run = some (.bool (withinL low t high)) := by
  have e1 : ∀ x : List Vl, List.take (min x.length t.length) t = t.take x.length := fun x => by rw [List.take_eq_take_iff]; omega
  have e2 : ∀ x : List Vl, min x.length t.length ≤ t.length := fun x => by omega
  have e3 : ∀ x : List Vl, imin (x.length : Int) (t.length : Int) = ((min x.length t.length : Nat) : Int) := fun x => min_nat _ _
  simp only [TWithin_Tr, lockLL_rOf, xLen_rOf, e3]
  by_cases h : 0 ≤ lexV (t.take low.length) low
  · simp [-imin_eq, e1, e2, h, withinL]
  · simp [-imin_eq, e1, e2, h, withinL]
theorem RWithin_law (low t high : List Vl) : (RWithin_Tr (rOf cV low) (rOf cV t) (rOf cV high)).run = some (.bool (withinL low t high)) := by
  have e1 : ∀ x : List Vl, List.take (min t.length x.length) t = t.take x.length := fun x => by rw [List.take_eq_take_iff]; omega
  have e2 : ∀ x : List Vl, min t.length x.length ≤ t.length := fun x => by omega
  have e3 : ∀ x : List Vl, imin (t.length : Int) (x.length : Int) = ((min t.length x.length : Nat) : Int) := fun x => min_nat _ _
  simp only [RWithin_Tr, lockLL_rOf, xLen_rOf, e3]
  by_cases h : 0 ≤ lexV (t.take low.length) low
  · simp [-imin_eq, e1, e2, h, withinL]
  · simp [-imin_eq, e1, e2, h, withinL]
/-! ### Clone -/
noncomputable def F_CloneT : List PV → Tr PV | [.sl s .non] => Tr.chk (okNews s 3) (Tr.chk (okGrow [] s 32) (.ret (.sl (shutLL s) .non))) | _ => .fail
theorem sim_CloneT (gl : Nat → Option Obj) : SimP Tryd.prog gl 64 fun args => (F_CloneT args).run := by
  refine SimP.of_nilcase (sim_CloneT0 gl) ?_
  intro args x h
  unfold F_CloneT at h
  split at h
  · rename_i s
    obtain ⟨h1, q⟩ := Tr.chk_some h
    obtain ⟨h2, q⟩ := Tr.chk_some q
    cases q
    refine ⟨s, .non, rfl, ?_, ?_⟩
    · have : CloneT0_W s = some (.sl (shutLL s) .non) := by
        unfold CloneT0_W CloneT0_Tr
        cases s with
        | nil => simp
        | cons a s => simp at h2; simp [h1, h2]
      simp [F_CloneT0, CloneT0_is0, CloneT0_r, this]
    · have : CloneT0b_W s = some (.sl (shutLL s) .non) := by
        unfold CloneT0b_W CloneT0b_Tr
        cases s with
        | nil => simp
        | cons a s => simp at h2; simp [h1, h2]
      simp [F_CloneT0, CloneT0b_is0, CloneT0b_r, this]
  · cases h
end Go.Pv

/- Rows that are put in order: where things go, and what stays. No program in sight. -/
set_option linter.unusedSimpArgs false
set_option linter.unusedVariables false
namespace Go.Pv
section
variable {α : Type}
/-- One place put anew. -/
def upd (f : Nat → α) (i : Nat) (x : α) : Nat → α := fun k => if k = i then x else f k
theorem upd_at (f : Nat → α) (i : Nat) (x : α) (k : Nat) : upd f i x k = if k = i then x else f k := rfl

/-- The same things, from lo to hi at other places. -/
def Mv (f g : Nat → α) (lo hi : Nat) : Prop :=
  ∃ s t : Nat → Nat, (∀ k, s (t k) = k) ∧ (∀ k, t (s k) = k) ∧ (∀ k, k < lo ∨ hi ≤ k → s k = k) ∧ ∀ k, g k = f (s k)
namespace Mv
theorem refl (f : Nat → α) (lo hi : Nat) : Mv f f lo hi := ⟨id, id, fun _ => rfl, fun _ => rfl, fun _ _ => rfl, fun _ => rfl⟩
theorem trans {f g h : Nat → α} {lo hi : Nat} : Mv f g lo hi → Mv g h lo hi → Mv f h lo hi
  | ⟨s, t, h1, h2, h3, h4⟩, ⟨s', t', h1', h2', h3', h4'⟩ => ⟨fun k => s (s' k), fun k => t' (t k),
    fun k => by simp only [h1', h1], fun k => by simp only [h2, h2'], fun k hk => by simp only [h3' k hk, h3 k hk], fun k => by simp only [h4', h4]⟩
theorem mono {f g : Nat → α} {lo hi lo' hi' : Nat} (h : Mv f g lo hi) (hl : lo' ≤ lo) (hh : hi ≤ hi') : Mv f g lo' hi' := by
  obtain ⟨s, t, h1, h2, h3, h4⟩ := h
  exact ⟨s, t, h1, h2, fun k hk => h3 k (by omega), h4⟩
theorem swap (f : Nat → α) {lo hi i j : Nat} (hi1 : lo ≤ i) (hi2 : i < hi) (hj1 : lo ≤ j) (hj2 : j < hi) : Mv f (upd (upd f i (f j)) j (f i)) lo hi := by
  refine ⟨fun k => if k = j then i else if k = i then j else k, fun k => if k = j then i else if k = i then j else k, ?_, ?_, ?_, ?_⟩
  · intro k; simp only []; split <;> split <;> simp_all <;> omega
  · intro k; simp only []; split <;> split <;> simp_all <;> omega
  · intro k hk; simp only []; repeat' split
    all_goals omega
  · intro k
    simp only [upd_at]
    split
    · rfl
    · split <;> simp_all
theorem out {f g : Nat → α} {lo hi : Nat} (h : Mv f g lo hi) {k : Nat} (hk : k < lo ∨ hi ≤ k) : g k = f k := by
  obtain ⟨s, t, h1, h2, h3, h4⟩ := h
  rw [h4, h3 k hk]
theorem inn {f g : Nat → α} {lo hi : Nat} (h : Mv f g lo hi) {k : Nat} (h5 : lo ≤ k) (h6 : k < hi) : ∃ j, lo ≤ j ∧ j < hi ∧ g k = f j := by
  obtain ⟨s, t, h1, h2, h3, h4⟩ := h
  refine ⟨s k, ?_, ?_, h4 k⟩
  · apply Decidable.byContradiction
    intro hc
    have h7 := h3 (s k) (by omega)
    have h8 : s k = k := by have := congrArg t h7; rw [h2, h2] at this; exact this
    omega
  · apply Decidable.byContradiction
    intro hc
    have h7 := h3 (s k) (by omega)
    have h8 : s k = k := by have := congrArg t h7; rw [h2, h2] at this; exact this
    omega
theorem symm {f g : Nat → α} {lo hi : Nat} (h : Mv f g lo hi) : Mv g f lo hi := by
  obtain ⟨s, t, h1, h2, h3, h4⟩ := h
  refine ⟨t, s, h2, h1, fun k hk => ?_, fun k => ?_⟩
  · have := congrArg t (h3 k hk); rw [h2] at this; exact this.symm
  · rw [h4, h1]
end Mv

/-- Two ranges of n, one for the other. -/
def swR (f : Nat → α) (a b n : Nat) : Nat → α := fun k => if a ≤ k ∧ k < a + n then f (b + (k - a)) else if b ≤ k ∧ k < b + n then f (a + (k - b)) else f k
theorem swR_zero (f : Nat → α) (a b : Nat) : swR f a b 0 = f := by
  funext k; unfold swR; split
  · omega
  · split
    · omega
    · rfl
theorem swR_succ (f : Nat → α) {a b n : Nat} (h : a + n < b) : upd (upd (swR f a b n) (a + n) (swR f a b n (b + n))) (b + n) (swR f a b n (a + n)) = swR f a b (n + 1) := by
  have e1 : swR f a b n (b + n) = f (b + n) := by unfold swR; rw [if_neg (by omega), if_neg (by omega)]
  have e2 : swR f a b n (a + n) = f (a + n) := by unfold swR; rw [if_neg (by omega), if_neg (by omega)]
  rw [e1, e2]
  funext k
  simp only [upd_at, swR]
  by_cases h1 : k = b + n
  · rw [if_pos h1, if_neg (by omega), if_pos (by omega)]; congr 1; omega
  · rw [if_neg h1]
    by_cases h2 : k = a + n
    · rw [if_pos h2, if_pos (by omega)]; congr 1; omega
    · rw [if_neg h2]
      by_cases h3 : a ≤ k ∧ k < a + n
      · rw [if_pos h3, if_pos (by omega)]
      · rw [if_neg h3]
        rw [if_neg (c := a ≤ k ∧ k < a + (n + 1)) (by omega)]
        by_cases h4 : b ≤ k ∧ k < b + n
        · rw [if_pos h4, if_pos (by omega)]
        · rw [if_neg h4, if_neg (by omega)]
theorem swR_mv (f : Nat → α) {a b lo hi : Nat} : ∀ {n : Nat}, lo ≤ a → a + n ≤ b → b + n ≤ hi → Mv f (swR f a b n) lo hi
  | 0, _, _, _ => by rw [swR_zero]; exact Mv.refl _ _ _
  | n + 1, h1, h2, h3 => by
    rw [← swR_succ f (by omega)]
    exact (swR_mv f h1 (by omega) (by omega)).trans (Mv.swap _ (by omega) (by omega) (by omega) (by omega))

/-- The range up to m behind the range from m. -/
def rotR (f : Nat → α) (lo m hi : Nat) : Nat → α := fun k => if lo ≤ k ∧ k < lo + (hi - m) then f (k + (m - lo)) else if lo + (hi - m) ≤ k ∧ k < hi then f (k - (hi - m)) else f k
theorem rotR_more (f : Nat → α) {m i j : Nat} (h1 : j < i) (h2 : i ≤ m) : rotR (swR f (m - i) m j) (m - (i - j)) m (m + j) = rotR f (m - i) m (m + j) := by
  funext k
  simp only [rotR, swR]
  repeat' split
  all_goals first | rfl | (congr 1; omega) | omega
theorem rotR_less (f : Nat → α) {m i j : Nat} (h1 : i < j) (h2 : i ≤ m) : rotR (swR f (m - i) (m + j - i) i) (m - i) m (m + (j - i)) = rotR f (m - i) m (m + j) := by
  funext k
  simp only [rotR, swR]
  repeat' split
  all_goals first | rfl | (congr 1; omega) | omega
theorem rotR_same (f : Nat → α) {m i : Nat} (h2 : i ≤ m) : swR f (m - i) m i = rotR f (m - i) m (m + i) := by
  funext k
  simp only [rotR, swR]
  repeat' split
  all_goals first | rfl | (congr 1; omega) | omega
theorem rotR_lo (f : Nat → α) (m hi : Nat) : rotR f m m hi = f := by
  funext k
  simp only [rotR]
  repeat' split
  all_goals first | rfl | (congr 1; omega) | omega
theorem rotR_hi (f : Nat → α) {lo m : Nat} (h : lo ≤ m) : rotR f lo m m = f := by
  funext k
  simp only [rotR]
  repeat' split
  all_goals first | rfl | (congr 1; omega) | omega
end

section
variable {α : Type} {c : α → α → Int} (T : Tot c)
/-- In order from lo to hi. -/
def Srt (c : α → α → Int) (f : Nat → α) (lo hi : Nat) : Prop := ∀ p q, lo ≤ p → p < q → q < hi → c (f p) (f q) ≤ 0
/-- In order but for the place j. -/
def SrtX (c : α → α → Int) (f : Nat → α) (lo hi j : Nat) : Prop := ∀ p q, lo ≤ p → p < q → q < hi → q ≠ j → c (f p) (f q) ≤ 0
theorem SrtX.init {f : Nat → α} {lo i : Nat} (h : Srt c f lo i) : SrtX c f lo (i + 1) i := fun p q h1 h2 h3 h4 => h p q h1 h2 (by omega)
theorem SrtX.done0 {f : Nat → α} {lo hi : Nat} (h : SrtX c f lo hi lo) : Srt c f lo hi := fun p q h1 h2 h3 => h p q h1 h2 h3 (by omega)
include T
theorem SrtX.done {f : Nat → α} {lo hi j : Nat} (h : SrtX c f lo hi j) (hl : lo < j) (hj : j < hi) (h1 : ¬ c (f j) (f (j - 1)) < 0) : Srt c f lo hi := by
  intro p q hp hq hh
  by_cases e : q = j
  · subst e
    have h2 : c (f (q - 1)) (f q) ≤ 0 := by have := T.swap (f q) (f (q - 1)); omega
    by_cases e' : p = q - 1
    · rw [e']; exact h2
    · exact T.le_trans (h p (q - 1) hp (by omega) (by omega) (by omega)) h2
  · exact h p q hp hq hh e
omit T in
theorem SrtX.step {f : Nat → α} {lo hi j : Nat} (h : SrtX c f lo hi j) (hl : lo < j) (hj : j < hi) (h1 : c (f j) (f (j - 1)) < 0) :
    SrtX c (upd (upd f j (f (j - 1))) (j - 1) (f j)) lo hi (j - 1) := by
  intro p q hp hq hh hx
  simp only [upd_at]
  rw [if_neg hx]
  by_cases e : q = j
  · rw [if_pos e]
    by_cases e1 : p = j - 1
    · rw [if_pos e1]; omega
    · rw [if_neg e1, if_neg (by omega)]
      exact h p (j - 1) hp (by omega) (by omega) (by omega)
  · rw [if_neg e]
    by_cases e1 : p = j - 1
    · rw [if_pos e1]
      exact h j q (by omega) (by omega) hh e
    · rw [if_neg e1]
      by_cases e2 : p = j
      · rw [if_pos e2]; exact h (j - 1) q (by omega) (by omega) hh e
      · rw [if_neg e2]; exact h p q hp hq hh e
omit T in
theorem Srt.one (f : Nat → α) (lo : Nat) : Srt c f lo (lo + 1) := fun p q _ _ _ => by omega
omit T in
theorem Srt.sub {f : Nat → α} {lo hi lo' hi' : Nat} (h : Srt c f lo hi) (h1 : lo ≤ lo') (h2 : hi' ≤ hi) : Srt c f lo' hi' := fun p q a b d => h p q (by omega) b (by omega)
omit T in
theorem Srt.congr {f g : Nat → α} {lo hi : Nat} (h : Srt c f lo hi) (e : ∀ k, lo ≤ k → k < hi → g k = f k) : Srt c g lo hi := fun p q a b d => by
  rw [e p a (by omega), e q (by omega) d]; exact h p q a b d
omit T in
/-- Two ranges, each in order, the first not above the second. -/
theorem Srt.join {f : Nat → α} {lo m hi : Nat} (h1 : Srt c f lo m) (h2 : Srt c f m hi) (h3 : ∀ p q, lo ≤ p → p < m → m ≤ q → q < hi → c (f p) (f q) ≤ 0) : Srt c f lo hi := by
  intro p q a b d
  by_cases e : q < m
  · exact h1 p q a b e
  · by_cases e' : m ≤ p
    · exact h2 p q e' b d
    · exact h3 p q a (by omega) (by omega) d
theorem le_of_not {x y : α} (h : ¬ c x y < 0) : c y x ≤ 0 := by have := T.swap x y; omega

/-- A merge of two ranges, by a cut that is found: what stands where it is cut. -/
structure Cut (c : α → α → Int) (f : Nat → α) (a m b mid start : Nat) : Prop where
  am : a ≤ start
  sm : start ≤ m
  smid : start ≤ mid
  em : m ≤ mid + m - start
  eb : mid + m - start ≤ b
  lo : ∀ p q, a ≤ p → p < start → mid + m - start ≤ q → q < b → c (f p) (f q) ≤ 0
  hi : ∀ p q, m ≤ p → p < mid + m - start → start ≤ q → q < m → c (f p) (f q) ≤ 0
omit T in
theorem rotR_at {f : Nat → α} {start m mid : Nat} (h1 : start ≤ m) (h2 : start ≤ mid) (k : Nat) :
    rotR f start m (mid + m - start) k = if k < start then f k else if k < mid then f (k + (m - start)) else if k < mid + m - start then f (k - (mid - start)) else f k := by
  simp only [rotR]
  repeat' split
  all_goals first | rfl | (congr 1; omega) | omega
omit T in
theorem Cut.left1 {f : Nat → α} {a m b mid start : Nat} (h : Cut c f a m b mid start) (hA : Srt c f a m) : Srt c (rotR f start m (mid + m - start)) a start := by
  intro p q h1 h2 h3
  have := h.am; have := h.sm; have := h.smid
  rw [rotR_at h.sm h.smid, rotR_at h.sm h.smid, if_pos (by omega), if_pos (by omega)]
  exact hA p q h1 h2 (by omega)
omit T in
theorem Cut.left2 {f : Nat → α} {a m b mid start : Nat} (h : Cut c f a m b mid start) (hB : Srt c f m b) : Srt c (rotR f start m (mid + m - start)) start mid := by
  intro p q h1 h2 h3
  have := h.am; have := h.sm; have := h.smid; have := h.em; have := h.eb
  rw [rotR_at h.sm h.smid, rotR_at h.sm h.smid, if_neg (by omega), if_pos (by omega), if_neg (by omega), if_pos (by omega)]
  exact hB _ _ (by omega) (by omega) (by omega)
omit T in
theorem Cut.right1 {f : Nat → α} {a m b mid start : Nat} (h : Cut c f a m b mid start) (hA : Srt c f a m) : Srt c (rotR f start m (mid + m - start)) mid (mid + m - start) := by
  intro p q h1 h2 h3
  have := h.am; have := h.sm; have := h.smid; have := h.em; have := h.eb
  rw [rotR_at h.sm h.smid, rotR_at h.sm h.smid, if_neg (by omega), if_neg (by omega), if_pos (by omega), if_neg (by omega), if_neg (by omega), if_pos (by omega)]
  exact hA _ _ (by omega) (by omega) (by omega)
omit T in
theorem Cut.right2 {f : Nat → α} {a m b mid start : Nat} (h : Cut c f a m b mid start) (hB : Srt c f m b) : Srt c (rotR f start m (mid + m - start)) (mid + m - start) b := by
  intro p q h1 h2 h3
  have := h.am; have := h.sm; have := h.smid; have := h.em; have := h.eb
  rw [rotR_at h.sm h.smid, rotR_at h.sm h.smid, if_neg (by omega), if_neg (by omega), if_neg (by omega), if_neg (by omega), if_neg (by omega), if_neg (by omega)]
  exact hB _ _ (by omega) (by omega) (by omega)
omit T in
theorem Cut.across {f : Nat → α} {a m b mid start : Nat} (h : Cut c f a m b mid start) (hA : Srt c f a m) (hB : Srt c f m b) (hm : mid ≤ b) (p q : Nat) (h1 : a ≤ p) (h2 : p < mid) (h3 : mid ≤ q) (h4 : q < b) :
    c (rotR f start m (mid + m - start) p) (rotR f start m (mid + m - start) q) ≤ 0 := by
  have := h.am; have := h.sm; have := h.smid; have := h.em; have := h.eb
  rw [rotR_at h.sm h.smid, rotR_at h.sm h.smid, if_neg (c := q < start) (by omega), if_neg (c := q < mid) (by omega), if_pos h2]
  split
  · split
    · exact hA _ _ (by omega) (by omega) (by omega)
    · exact h.lo _ _ (by omega) (by omega) (by omega) (by omega)
  · split
    · exact h.hi _ _ (by omega) (by omega) (by omega) (by omega)
    · exact hB _ _ (by omega) (by omega) (by omega)
/-- The cut that the search finds. -/
theorem Cut.of {f : Nat → α} {a m b mid start lo hi : Nat} (hA : Srt c f a m) (hB : Srt c f m b) (h0 : a < m) (h00 : m < b) (hmid : mid = (a + b) / 2)
    (hlo : lo = if mid < m then mid + m - b else a) (hhi : hi = if mid < m then mid else m) (h1 : lo ≤ start) (h2 : start ≤ hi)
    (h3 : ∀ k, lo ≤ k → k < start → ¬ c (f (mid + m - 1 - k)) (f k) < 0) (h4 : ∀ k, start ≤ k → k < hi → c (f (mid + m - 1 - k)) (f k) < 0) : Cut c f a m b mid start := by
  have e1 : a ≤ lo := by rw [hlo]; split <;> omega
  have e2 : hi ≤ m := by rw [hhi]; split <;> omega
  have e3 : hi ≤ mid := by rw [hhi]; split <;> omega
  have e4 : mid + m - lo ≤ b := by rw [hlo]; split <;> omega
  refine ⟨by omega, by omega, by omega, by omega, ?_, ?_, ?_⟩
  · rw [hlo] at h1; split at h1 <;> omega
  · intro p q hp hp2 hq hq2
    by_cases e : lo = start
    · rw [hlo] at e; split at e <;> omega
    · have h5 := le_of_not T (h3 (start - 1) (by omega) (by omega))
      have h6 : mid + m - 1 - (start - 1) = mid + m - start := by omega
      rw [h6] at h5
      have h7 : c (f p) (f (mid + m - start)) ≤ 0 := by
        by_cases e' : p = start - 1
        · rw [e']; exact h5
        · exact T.le_trans (hA p (start - 1) hp (by omega) (by omega)) h5
      by_cases e' : q = mid + m - start
      · rw [e']; exact h7
      · exact T.le_trans h7 (hB _ _ (by omega) (by omega) hq2)
  · intro p q hp hp2 hq hq2
    by_cases e : start = hi
    · rw [hhi] at e; split at e <;> omega
    · have h5 := h4 start (Nat.le_refl _) (by omega)
      have h7 : c (f p) (f start) ≤ 0 := by
        by_cases e' : p = mid + m - 1 - start
        · rw [e']; omega
        · exact T.le_trans (hB p (mid + m - 1 - start) hp (by omega) (by omega)) (by omega)
      by_cases e' : q = start
      · rw [e']; exact h7
      · exact T.le_trans h7 (hA _ _ (by omega) (by omega) hq2)
omit T in
/-- Both halves put in order. -/
theorem merge_done {f g h : Nat → α} {a mid b : Nat} (h1 : a ≤ mid) (h2 : mid ≤ b) (m1 : Mv f g a mid) (s1 : Srt c g a mid) (m2 : Mv g h mid b) (s2 : Srt c h mid b)
    (hx : ∀ p q, a ≤ p → p < mid → mid ≤ q → q < b → c (f p) (f q) ≤ 0) : Srt c h a b ∧ Mv f h a b := by
  refine ⟨Srt.join (s1.congr fun k _ hk => m2.out (by omega)) s2 fun p q hp hp2 hq hq2 => ?_, (m1.mono (Nat.le_refl _) h2).trans (m2.mono h1 (Nat.le_refl _))⟩
  rw [m2.out (by omega)]
  obtain ⟨j, hj1, hj2, e⟩ := m1.inn hp hp2
  obtain ⟨j', hj1', hj2', e'⟩ := m2.inn hq hq2
  rw [e, e', m1.out (by omega)]
  exact hx j j' hj1 hj2 hj1' hj2'

omit T in
/-- One put ahead of its place, the others behind it one further. -/
theorem shl_step {f g : Nat → α} {a k : Nat} (h : g = fun p => if a ≤ p ∧ p < k then f (p + 1) else if p = k then f a else f p) (hk : a ≤ k) :
    upd (upd g k (g (k + 1))) (k + 1) (g k) = fun p => if a ≤ p ∧ p < k + 1 then f (p + 1) else if p = k + 1 then f a else f p := by
  have e1 : g (k + 1) = f (k + 1) := by rw [h]; simp only []; rw [if_neg (by omega), if_neg (by omega)]
  have e2 : g k = f a := by rw [h]; simp
  rw [e1, e2]
  funext p
  simp only [upd_at]
  by_cases h1 : p = k + 1
  · rw [if_pos h1, if_neg (by omega), if_pos h1]
  · rw [if_neg h1]
    by_cases h2 : p = k
    · rw [if_pos h2, if_pos (by omega), h2]
    · rw [if_neg h2, h]
      simp only []
      by_cases h3 : a ≤ p ∧ p < k
      · rw [if_pos h3, if_pos (by omega)]
      · rw [if_neg h3, if_neg h2, if_neg (by omega), if_neg h1]
omit T in
theorem shr_step {f g : Nat → α} {m k : Nat} (h : g = fun p => if k < p ∧ p ≤ m then f (p - 1) else if p = k then f m else f p) (h0 : 0 < k) (hk : k ≤ m) :
    upd (upd g k (g (k - 1))) (k - 1) (g k) = fun p => if k - 1 < p ∧ p ≤ m then f (p - 1) else if p = k - 1 then f m else f p := by
  have e1 : g (k - 1) = f (k - 1) := by rw [h]; simp only []; rw [if_neg (by omega), if_neg (by omega)]
  have e2 : g k = f m := by rw [h]; simp
  rw [e1, e2]
  funext p
  simp only [upd_at]
  by_cases h1 : p = k - 1
  · rw [if_pos h1, if_neg (by omega), if_pos h1]
  · rw [if_neg h1]
    by_cases h2 : p = k
    · rw [if_pos h2, if_pos (by omega), h2]
    · rw [if_neg h2, h]
      simp only []
      by_cases h3 : k < p ∧ p ≤ m
      · rw [if_pos h3, if_pos (by omega)]
      · rw [if_neg h3, if_neg h2, if_neg (by omega), if_neg h1]
theorem shl_srt {f : Nat → α} {a b i : Nat} (hB : Srt c f (a + 1) b) (h1 : a + 1 ≤ i) (h2 : i ≤ b) (h3 : ∀ k, a + 1 ≤ k → k < i → c (f k) (f a) < 0) (h4 : ∀ k, i ≤ k → k < b → ¬ c (f k) (f a) < 0) :
    Srt c (fun p => if a ≤ p ∧ p < i - 1 then f (p + 1) else if p = i - 1 then f a else f p) a b := by
  intro p q hp hq hh
  simp only []
  repeat' split
  all_goals first
    | omega
    | exact hB _ _ (by omega) (by omega) (by omega)
    | (have := h3 (p + 1) (by omega) (by omega); omega)
    | exact le_of_not T (h4 _ (by omega) (by omega))
theorem shr_srt {f : Nat → α} {a m i : Nat} (hA : Srt c f a m) (h1 : a ≤ i) (h2 : i ≤ m) (h3 : ∀ k, a ≤ k → k < i → ¬ c (f m) (f k) < 0) (h4 : ∀ k, i ≤ k → k < m → c (f m) (f k) < 0) :
    Srt c (fun p => if i < p ∧ p ≤ m then f (p - 1) else if p = i then f m else f p) a (m + 1) := by
  intro p q hp hq hh
  simp only []
  repeat' split
  all_goals first
    | omega
    | exact hA _ _ (by omega) (by omega) (by omega)
    | (have := h4 (q - 1) (by omega) (by omega); omega)
    | exact le_of_not T (h3 _ (by omega) (by omega))
end

/-- A search that halves: told by its rounds. -/
theorem halves {R : Type} (V : Nat → Nat → R) (D : Nat → R) (Q : Nat → Prop) (lo hi : Nat)
    (hV : ∀ i j, lo ≤ i → i < j → j ≤ hi → (Q ((i + j) / 2) → V i j = V ((i + j) / 2 + 1) j) ∧ (¬ Q ((i + j) / 2) → V i j = V i ((i + j) / 2)))
    (hD : ∀ i, lo ≤ i → i ≤ hi → V i i = D i) (mono : ∀ p q, lo ≤ p → p < q → q < hi → Q q → Q p) :
    ∀ k i j, j - i ≤ k → lo ≤ i → i ≤ j → j ≤ hi → (∀ p, lo ≤ p → p < i → Q p) → (∀ p, j ≤ p → p < hi → ¬ Q p) →
      ∃ i', V i j = D i' ∧ lo ≤ i' ∧ i' ≤ hi ∧ (∀ p, lo ≤ p → p < i' → Q p) ∧ (∀ p, i' ≤ p → p < hi → ¬ Q p) := by
  intro k
  induction k with
  | zero =>
    intro i j h h1 h2 h3 h4 h5
    have e : i = j := by omega
    subst e
    exact ⟨i, hD i h1 h3, h1, h3, h4, h5⟩
  | succ k ih =>
    intro i j h h1 h2 h3 h4 h5
    by_cases e : i = j
    · subst e
      exact ⟨i, hD i h1 h3, h1, h3, h4, h5⟩
    · have hm1 : i ≤ (i + j) / 2 := by omega
      have hm2 : (i + j) / 2 < j := by omega
      obtain ⟨s1, s2⟩ := hV i j h1 (by omega) h3
      by_cases q : Q ((i + j) / 2)
      · rw [s1 q]
        refine ih _ _ (by omega) (by omega) (by omega) h3 (fun p hp hp2 => ?_) h5
        by_cases e : p = (i + j) / 2
        · rw [e]; exact q
        · exact mono p _ hp (by omega) (by omega) q
      · rw [s2 q]
        refine ih _ _ (by omega) h1 hm1 (by omega) h4 (fun p hp hp2 hq => ?_)
        by_cases e : p = (i + j) / 2
        · rw [e] at hq; exact q hq
        · exact q (mono _ p (by omega) (by omega) hp2 hq)
end Go.Pv

/- Own rows of rows, as functions; whole numbers as they are reckoned with. No program in sight. -/
set_option linter.unusedSimpArgs false
set_option linter.unusedVariables false
namespace Go.Pv
section
variable {β : Type} (C : Cod β)
/-- An own row of rows. -/
def oA (f : Nat → List β) (n : Nat) : List PV := (List.range n).map fun i => .sl (rOf C (f i)) .non
@[simp] theorem oA_len (f : Nat → List β) (n : Nat) : (oA C f n).length = n := by simp [oA]
theorem oA_get {f : Nat → List β} {n i : Nat} (h : i < n) : (oA C f n)[i]? = some (.sl (rOf C (f i)) .non) := by simp [oA, h]
theorem oA_getD {f : Nat → List β} {n i : Nat} (h : i < n) : (oA C f n).getD i .top = .sl (rOf C (f i)) .non := by simp [List.getD, oA_get C h]
theorem cRow_oA {f : Nat → List β} {n i : Nat} (h : i < n) : cRow (oA C f n) i 0 = rOf C (f i) := by simp only [cRow, Nat.add_zero, oA_getD C h]
theorem okCell_oA {f : Nat → List β} {n i : Nat} (h : i < n) : okCell [.sl [] .full] (oA C f n) i = true := by
  have h1 : (oA C f n).drop i = .sl (rOf C (f i)) .non :: (oA C f n).drop (i + 1) := by
    rw [List.drop_eq_getElem_cons (by simpa using h)]
    congr 1
    have := oA_get C (f := f) h
    rw [List.getElem?_eq_getElem (by simpa using h)] at this
    exact Option.some.inj this
  simp only [okCell, List.length_cons, List.length_nil, Nat.zero_add, h1, List.take_succ_cons, List.take_zero, oA_len, cSel, cCell, cRow_oA C h]
  simp
  omega
theorem okOff_oA {f : Nat → List β} {n i : Nat} (h : i < n) : okOff (oA C f n) i 1 = true := by simp [okOff]; omega
theorem putC_oA {f : Nat → List β} {n i : Nat} (x : List β) (h : i < n) : putC (oA C f n) i [.sl (rOf C x) .non] = oA C (upd f i x) n := by
  apply List.ext_getElem?
  intro k
  have e : putC (oA C f n) i [.sl (rOf C x) .non] = (oA C f n).set i (.sl (rOf C x) .non) := by
    simp only [putC, List.length_cons, List.length_nil, Nat.zero_add]
    rw [List.set_eq_take_append_cons_drop, if_pos (by simpa using h)]
    simp
  rw [e, List.getElem?_set]
  by_cases hk : k < n
  · by_cases hi : i = k
    · subst hi
      simp [h, oA, upd]
    · rw [if_neg hi, oA_get C hk, oA_get C hk, upd_at, if_neg (by omega)]
  · have : ¬ i = k := by omega
    rw [if_neg this, List.getElem?_eq_none (by simp; omega), List.getElem?_eq_none (by simp; omega)]
theorem oA_congr {f g : Nat → List β} {n : Nat} (h : ∀ k, k < n → f k = g k) : oA C f n = oA C g n := by
  apply List.map_congr_left
  intro k hk
  rw [h k (by simpa using hk)]
/-- A row as an own row. -/
theorem oA_of (l : List (List β)) : oA C (fun i => l.getD i []) l.length = l.map fun x => .sl (rOf C x) .non := by
  apply List.ext_getElem?
  intro k
  by_cases hk : k < l.length
  · rw [oA_get C hk]; simp [hk]
  · rw [List.getElem?_eq_none (by simp; omega), List.getElem?_eq_none (by simp; omega)]
end

/-! ### whole numbers -/
theorem add_N {a b : Nat} (h : a + b ≤ 9223372036854775807) : iAdd .i64 (a : Int) (b : Int) = ((a + b : Nat) : Int) := by
  unfold iAdd; rw [wrap_i64 (by omega)]; omega
theorem add_N1 {a : Nat} (h : a < 9223372036854775807) : iAdd .i64 (a : Int) 1 = ((a + 1 : Nat) : Int) := inc_i64 h
theorem add_1N {a : Nat} (h : a < 9223372036854775807) : iAdd .i64 1 (a : Int) = ((1 + a : Nat) : Int) := by
  unfold iAdd; rw [wrap_i64 (by omega)]; omega
theorem sub_N {a b : Nat} (h : b ≤ a) (h2 : a ≤ 9223372036854775807) : iSub .i64 (a : Int) (b : Int) = ((a - b : Nat) : Int) := by
  unfold iSub; rw [wrap_i64 (by omega)]; omega
theorem sub_N1 {a : Nat} (h : 1 ≤ a) (h2 : a ≤ 9223372036854775807) : iSub .i64 (a : Int) 1 = ((a - 1 : Nat) : Int) := by
  unfold iSub; rw [wrap_i64 (by omega)]; omega
theorem okIx_N (a n : Nat) : okIx (a : Int) n = decide (a < n) := by unfold okIx; simp
theorem nNat_N (a : Nat) : nNat (a : Int) = a := by unfold nNat; simp
theorem pOff_01 (a : Nat) : pOff 0 a 1 = a := by unfold pOff; omega
theorem iLt_N (a b : Nat) : iLt (a : Int) (b : Int) = decide (a < b) := by unfold iLt; simp
theorem iLe_N (a b : Nat) : iLe (a : Int) (b : Int) = decide (a ≤ b) := by unfold iLe; simp
theorem iEq_N (a b : Nat) : iEq (a : Int) (b : Int) = decide (a = b) := by
  unfold iEq
  by_cases h : a = b
  · simp [h]
  · have : (a : Int) ≠ b := by omega
    simp [h, this]
theorem iNe_N (a b : Nat) : iNe (a : Int) (b : Int) = decide (a ≠ b) := by
  unfold iNe
  by_cases h : a = b
  · simp [h]
  · have : (a : Int) ≠ b := by omega
    simp [h, this]
theorem iEq_N1 (a : Nat) : iEq (a : Int) 1 = decide (a = 1) := iEq_N a 1
theorem half_N {a b : Nat} (h : a + b ≤ 9223372036854775807) : iWrap .i64 (iShr .u64 (iWrap .u64 (iAdd .i64 (a : Int) (b : Int))) 1) = (((a + b) / 2 : Nat) : Int) := by
  rw [add_N h]
  have e1 : iWrap .u64 ((a + b : Nat) : Int) = ((a + b : Nat) : Int) := by
    unfold iWrap; exact wrap_u64 (by omega)
  rw [e1]
  have e2 : iShr .u64 ((a + b : Nat) : Int) 1 = (((a + b) / 2 : Nat) : Int) := by
    unfold iShr
    have : (2 : Int) ^ min (Int.toNat 1) (IntKind.bits .u64) = 2 := rfl
    rw [this, Int.fdiv_eq_ediv_of_nonneg _ (by omega)]
    omega
  rw [e2]
  unfold iWrap
  exact wrap_i64 (by omega)
/-- Rows that grow from nothing become own rows. -/
theorem gamOk_flag {P : Go.Program} {gl : Nat → Option Go.Obj} {l : List (Go.FuncId × ConT)} (hl : GamOk P gl (gam (ofL l))) : GamOk P gl (gam (ofL ((objKey, .flag) :: l))) := gamOk_con (K := .flag) trivial hl
end Go.Pv

/- Rows in order, each once: there is one alone of the same things. No program in sight. -/
set_option linter.unusedSimpArgs false
set_option linter.unusedVariables false
namespace Go.Pv
variable {α : Type} {c : α → α → Int}
def SSrt (c : α → α → Int) (l : List α) : Prop := l.Pairwise (fun a b => c a b < 0)
/-- Put at its place, if it is not there. -/
def putS (c : α → α → Int) (x : α) : List α → List α
  | [] => [x]
  | a :: l => if c x a < 0 then x :: a :: l else if c x a = 0 then a :: l else a :: putS c x l
def usort (c : α → α → Int) (l : List α) : List α := l.foldl (fun out x => putS c x out) []
theorem mem_putS (T : Tot c) (x y : α) : ∀ l : List α, y ∈ putS c x l ↔ y = x ∨ y ∈ l
  | [] => by simp [putS]
  | a :: l => by
    have ih := mem_putS T x y l
    simp only [putS]
    split
    · simp
    · split
      · rename_i h
        have e := (T.zero x a).1 h
        subst e
        simp
      · simp only [List.mem_cons, ih]
        constructor
        · rintro (h | h | h) <;> simp [h]
        · rintro (h | h | h) <;> simp [h]
theorem ssrt_putS (T : Tot c) (x : α) : ∀ l : List α, SSrt c l → SSrt c (putS c x l)
  | [], _ => by simp [putS, SSrt]
  | a :: l, h => by
    have hc := List.pairwise_cons.1 h
    have ih := ssrt_putS T x l hc.2
    simp only [putS]
    split
    · rename_i h1
      refine List.pairwise_cons.2 ⟨?_, h⟩
      intro y hy
      cases hy with
      | head => exact h1
      | tail _ hy => exact T.trans x a y h1 (hc.1 y hy)
    · split
      · exact h
      · rename_i h1 h2
        refine List.pairwise_cons.2 ⟨?_, ih⟩
        intro y hy
        rcases (mem_putS T x y l).1 hy with e | e
        · subst e
          have := T.swap y a
          omega
        · exact hc.1 y e
theorem usort_acc (T : Tot c) : ∀ (l out : List α), SSrt c out → SSrt c (l.foldl (fun out x => putS c x out) out) ∧ ∀ y, y ∈ l.foldl (fun out x => putS c x out) out ↔ y ∈ l ∨ y ∈ out
  | [], out, h => ⟨h, fun y => by simp⟩
  | a :: l, out, h => by
    obtain ⟨h1, h2⟩ := usort_acc T l (putS c a out) (ssrt_putS T a out h)
    refine ⟨h1, fun y => ?_⟩
    rw [List.foldl_cons, h2 y, mem_putS T]
    simp only [List.mem_cons]
    constructor
    · rintro (h | h | h) <;> simp [h]
    · rintro ((h | h) | h) <;> simp [h]
theorem ssrt_usort (T : Tot c) (l : List α) : SSrt c (usort c l) := (usort_acc T l [] List.Pairwise.nil).1
theorem mem_usort (T : Tot c) (l : List α) (y : α) : y ∈ usort c l ↔ y ∈ l := by
  have := (usort_acc T l [] List.Pairwise.nil).2 y
  simpa [usort] using this
theorem ssrt_unique (T : Tot c) : ∀ {l m : List α}, SSrt c l → SSrt c m → (∀ x, x ∈ l ↔ x ∈ m) → l = m
  | [], [], _, _, _ => rfl
  | [], b :: m, _, _, h => by have := (h b).2 (by simp); cases this
  | a :: l, [], _, _, h => by have := (h a).1 (by simp); cases this
  | a :: l, b :: m, h1, h2, h => by
    have k1 := List.pairwise_cons.1 h1
    have k2 := List.pairwise_cons.1 h2
    have e : a = b := by
      have m1 := (h a).1 (by simp)
      have m2 := (h b).2 (by simp)
      rcases List.mem_cons.1 m1 with e | e
      · exact e
      · rcases List.mem_cons.1 m2 with e' | e'
        · exact e'.symm
        · have q1 := k2.1 a e
          have q2 := k1.1 b e'
          have := T.swap a b
          omega
    subst e
    rw [ssrt_unique T k1.2 k2.2 fun x => ?_]
    constructor
    · intro hx
      rcases List.mem_cons.1 ((h x).1 (List.mem_cons_of_mem _ hx)) with e | e
      · subst e
        have := k1.1 x hx
        have := T.self x
        omega
      · exact e
    · intro hx
      rcases List.mem_cons.1 ((h x).2 (List.mem_cons_of_mem _ hx)) with e | e
      · subst e
        have := k2.1 x hx
        have := T.self x
        omega
      · exact e
theorem usort_of (T : Tot c) {l m : List α} (h : SSrt c m) (h2 : ∀ x, x ∈ m ↔ x ∈ l) : usort c l = m := ssrt_unique T (ssrt_usort T l) h fun x => by rw [mem_usort T, h2]
/-- A row by its places. -/
theorem ssrt_fn {g : Nat → α} {k : Nat} (h : ∀ p q, p < q → q < k → c (g p) (g q) < 0) : SSrt c ((List.range k).map g) := by
  refine List.pairwise_map.2 ?_
  refine (List.pairwise_lt_range (n := k)).imp_of_mem ?_
  intro a b ha hb hab
  exact h a b hab (by simpa using hb)
theorem mem_fn {g : Nat → α} {k : Nat} {x : α} : x ∈ (List.range k).map g ↔ ∃ p, p < k ∧ g p = x := by simp

/-- The first e of f are, each once and in order, the first k of g. -/
structure Dd (c : α → α → Int) (f g : Nat → α) (N k e : Nat) : Prop where
  keep : ∀ p, e - 1 ≤ p → p < N → g p = f p
  str : ∀ p q, p < q → q < k → c (g p) (g q) < 0
  sub : ∀ p, p < k → ∃ j, j < e ∧ g p = f j
  sup : ∀ j, j < e → ∃ p, p < k ∧ g p = f j
  last : g (k - 1) = f (e - 1)
  k1 : 1 ≤ k
  ke : k ≤ e
theorem Dd.init (f : Nat → α) (N : Nat) : Dd c f f N 1 1 where
  keep := fun _ _ _ => rfl
  str := fun p q h1 h2 => by omega
  sub := fun p h => ⟨p, h, rfl⟩
  sup := fun p h => ⟨p, h, rfl⟩
  last := rfl
  k1 := Nat.le_refl _
  ke := Nat.le_refl _
theorem Dd.eq {f g : Nat → α} {N k e : Nat} (h : Dd c f g N k e) (he : f e = f (e - 1)) : Dd c f g N k (e + 1) where
  keep := fun p h1 h2 => h.keep p (by omega) h2
  str := h.str
  sub := fun p hp => by obtain ⟨j, h1, h2⟩ := h.sub p hp; exact ⟨j, by omega, h2⟩
  sup := fun j hj => by
    by_cases e' : j = e
    · subst e'
      exact ⟨k - 1, by have := h.k1; omega, by rw [h.last, he]⟩
    · exact h.sup j (by omega)
  last := by rw [h.last, Nat.add_sub_cancel, he]
  k1 := h.k1
  ke := by have := h.ke; omega
theorem Dd.ne (T : Tot c) {f g : Nat → α} {N k e : Nat} (h : Dd c f g N k e) (hlt : c (f (e - 1)) (f e) < 0) : Dd c f (upd g k (f e)) N (k + 1) (e + 1) where
  keep := fun p h1 h2 => by
    have := h.ke
    simp only [upd_at]
    split
    · rename_i e'
      have : p = e := by omega
      rw [this]
    · exact h.keep p (by omega) h2
  str := fun p q h1 h2 => by
    have := h.k1
    simp only [upd_at]
    rw [if_neg (c := p = k) (by omega)]
    split
    · rename_i e'
      by_cases e2 : p = k - 1
      · rw [e2, h.last]; exact hlt
      · refine T.trans _ _ _ (h.str p (k - 1) (by omega) (by omega)) ?_
        rw [h.last]; exact hlt
    · exact h.str p q h1 (by omega)
  sub := fun p hp => by
    simp only [upd_at]
    split
    · exact ⟨e, by omega, rfl⟩
    · obtain ⟨j, h1, h2⟩ := h.sub p (by omega)
      exact ⟨j, by omega, h2⟩
  sup := fun j hj => by
    by_cases e' : j = e
    · exact ⟨k, by omega, by simp [upd_at, e']⟩
    · obtain ⟨p, h1, h2⟩ := h.sup j (by omega)
      exact ⟨p, by omega, by simp only [upd_at]; rw [if_neg (by omega)]; exact h2⟩
  last := by simp [upd_at]
  k1 := by omega
  ke := by have := h.ke; omega
theorem upd_self (f : Nat → α) (k : Nat) : upd f k (f k) = f := by
  funext p
  simp only [upd_at]
  split
  · rename_i h; rw [h]
  · rfl
theorem Dd.done (T : Tot c) {f0 f g : Nat → α} {N k : Nat} (h : Dd c f g N k N) (hm : Mv f0 f 0 N) : (List.range k).map g = usort c ((List.range N).map f0) := by
  refine (usort_of T (ssrt_fn h.str) fun x => ?_).symm
  rw [mem_fn, mem_fn]
  constructor
  · rintro ⟨p, h1, rfl⟩
    obtain ⟨j, h2, h3⟩ := h.sub p h1
    obtain ⟨i, h4, h5, h6⟩ := hm.inn (Nat.zero_le j) h2
    exact ⟨i, h5, by rw [h3, h6]⟩
  · rintro ⟨p, h1, rfl⟩
    obtain ⟨j, h2, h3, h4⟩ := hm.symm.inn (Nat.zero_le p) h1
    obtain ⟨i, h5, h6⟩ := h.sup j h3
    exact ⟨i, h5, by rw [h6, h4]⟩

/-! ### an own row as it leaves its call -/
theorem rows1 {β : Type} (C : Cod β) : ∀ (k : Nat) (g : Nat → List β) (cs : List PV), (∀ p, p < k → cs[p]? = some (.sl (rOf C (g p)) .non)) → chunks 1 k cs = rOf (cR C) ((List.range k).map g)
  | 0, _, _, _ => rfl
  | k + 1, g, [], h => by have := h 0 (by omega); cases this
  | k + 1, g, x :: cs, h => by
    have h0 := h 0 (by omega)
    simp only [List.getElem?_cons_zero, Option.some.injEq] at h0
    subst h0
    have ih := rows1 C k (fun p => g (p + 1)) cs fun p hp => by have := h (p + 1) (by omega); simpa using this
    rw [List.range_succ_eq_map, List.map_cons, rOf_cons, List.map_map]
    simp only [chunks, List.take_succ_cons, List.take_zero, List.drop_succ_cons, List.drop_zero, ih]
    rfl
theorem rowsC_1 {β : Type} (C : Cod β) {k : Nat} {g : Nat → List β} {cs : List PV} (h : ∀ p, p < k → cs[p]? = some (.sl (rOf C (g p)) .non)) : rowsC cs 0 k 1 = rOf (cR C) ((List.range k).map g) := rows1 C k g cs h
theorem clrC_get {cs : List PV} {off len : Nat} {z : List PV} (h : off ≤ cs.length) {p : Nat} (hp : p < off) : (clrC cs off len z)[p]? = cs[p]? := by
  unfold clrC
  rw [List.append_assoc, List.getElem?_append_left (by simp; omega), List.getElem?_take]
  simp [hp]
end Go.Pv

/- Rows in order: the place of a thing, what is put in, what lies between, sets. No program in sight. -/
set_option linter.unusedSimpArgs false
set_option linter.unusedVariables false
namespace Go.Pv
variable {α : Type} {c : α → α → Int}
def plN (c : α → α → Int) (x : α) (l : List α) : Nat := l.countP fun y => decide (c y x < 0)
def plB (c : α → α → Int) (x : α) (l : List α) : Bool := l.any fun y => decide (c y x = 0)
def insP (c : α → α → Int) (x : α) (l : List α) : List α := if plB c x l = true then l else l.take (plN c x l) ++ [x] ++ l.drop (plN c x l)
theorem insP_putS (T : Tot c) (x : α) : ∀ l : List α, SSrt c l → insP c x l = putS c x l
  | [], _ => by simp [insP, plB, plN, putS]
  | a :: l, h => by
    have hc := List.pairwise_cons.1 h
    have ih := insP_putS T x l hc.2
    have sw := T.swap a x
    simp only [putS]
    by_cases h1 : c x a < 0
    · rw [if_pos h1]
      have hp : ∀ y ∈ a :: l, 0 < c y x := by
        intro y hy
        rcases List.mem_cons.1 hy with e | e
        · subst e; omega
        · have h2 := T.trans x a y h1 (hc.1 y e)
          have h3 := T.swap y x
          omega
      have hB : plB c x (a :: l) = false := by
        simp only [plB, List.any_eq_false, decide_eq_true_eq]
        intro y hy
        have := hp y hy
        omega
      have hN : plN c x (a :: l) = 0 := by
        simp only [plN, List.countP_eq_zero, decide_eq_true_eq]
        intro y hy
        have := hp y hy
        omega
      unfold insP
      rw [hB, hN]
      simp
    · rw [if_neg h1]
      by_cases h2 : c x a = 0
      · rw [if_pos h2]
        have hB : plB c x (a :: l) = true := by
          have : c a x = 0 := by omega
          simp [plB, this]
        simp [insP, hB]
      · rw [if_neg h2, ← ih]
        have h3 : c a x < 0 := by omega
        have h4 : ¬ c a x = 0 := by omega
        have hB : plB c x (a :: l) = plB c x l := by simp [plB, h4]
        have hN : plN c x (a :: l) = plN c x l + 1 := by simp [plN, List.countP_cons, h3]
        unfold insP
        rw [hB, hN]
        split <;> simp
theorem fold_insP (T : Tot c) : ∀ (l out : List α), SSrt c out → l.foldl (fun o x => insP c x o) out = l.foldl (fun o x => putS c x o) out
  | [], _, _ => rfl
  | a :: l, out, h => by
    simp only [List.foldl_cons]
    rw [insP_putS T a out h]
    exact fold_insP T l _ (ssrt_putS T a out h)
theorem fold_insP_usort (T : Tot c) (l : List α) : l.foldl (fun o x => insP c x o) [] = usort c l := fold_insP T l [] List.Pairwise.nil
theorem putS_len (x : α) : ∀ l : List α, (putS c x l).length ≤ l.length + 1
  | [] => by simp [putS]
  | a :: l => by
    have ih := putS_len x l
    simp only [putS]
    split
    · simp
    · split
      · simp
      · simp only [List.length_cons]; omega
theorem usort_acc_len : ∀ (l out : List α), (l.foldl (fun out x => putS c x out) out).length ≤ l.length + out.length
  | [], out => by simp
  | a :: l, out => by
    have h1 := usort_acc_len l (putS c a out)
    have h2 := putS_len (c := c) a out
    simp only [List.foldl_cons, List.length_cons]
    omega
theorem usort_len (l : List α) : (usort c l).length ≤ l.length := by
  have := usort_acc_len (c := c) l []
  simpa [usort] using this
theorem insP_len (x : α) (l : List α) : (insP c x l).length ≤ l.length + 1 := by
  unfold insP
  split
  · omega
  · simp; omega
theorem plB_iff (T : Tot c) (x : α) (l : List α) : plB c x l = true ↔ x ∈ l := by
  simp only [plB, List.any_eq_true, decide_eq_true_eq]
  constructor
  · rintro ⟨y, hy, h⟩
    have := (T.zero y x).1 h
    subst this
    exact hy
  · intro h
    exact ⟨x, h, T.self x⟩
theorem plB_usort (T : Tot c) (x : α) (l : List α) : plB c x (usort c l) = plB c x l := by
  have h1 := plB_iff T x (usort c l)
  have h2 := plB_iff T x l
  rw [mem_usort T] at h1
  cases e1 : plB c x (usort c l) <;> cases e2 : plB c x l <;> simp_all
/-- The sorted row without what is not kept. -/
theorem usort_filter (T : Tot c) (p : α → Bool) (l : List α) : (usort c l).filter p = usort c (l.filter p) := by
  refine (usort_of T ?_ fun x => ?_).symm
  · exact (ssrt_usort T l).filter p
  · simp only [List.mem_filter, mem_usort T]
theorem usort_idem (T : Tot c) (l : List α) : usort c (usort c l) = usort c l := usort_of T (ssrt_usort T l) fun x => Iff.rfl
theorem usort_congr (T : Tot c) {l m : List α} (h : ∀ x, x ∈ l ↔ x ∈ m) : usort c l = usort c m := usort_of T (ssrt_usort T m) fun x => by rw [mem_usort T, h]
theorem usort_nil : usort c ([] : List α) = [] := rfl

/-! ### beginnings keep the order -/
theorem lex_take {f : α → α → Int} : ∀ (k : Nat) (a b : List α), lex f a b ≤ 0 → lex f (a.take k) (b.take k) ≤ 0
  | 0, a, b, _ => by simp [lex]
  | k + 1, [], b, _ => by cases b <;> simp [lex]
  | k + 1, x :: a, [], h => by simp [lex] at h
  | k + 1, x :: a, y :: b, h => by
    simp only [lex, List.take_succ_cons] at h ⊢
    split
    · rename_i e
      rw [if_pos e] at h
      exact lex_take k a b h
    · rename_i e
      rw [if_neg e] at h
      exact h

/-! ### how often one begins -/
def turnF (s : Nat × Bool) (b : Bool) : Nat × Bool := (if b && !s.2 then s.1 + 1 else s.1, b)
def conv : List Bool → Prop
  | [] => True
  | b :: l => if b = true then l.Pairwise (fun x y => y = true → x = true) else conv l
theorem turns_none : ∀ (l : List Bool) (n : Nat) (w : Bool), (∀ b ∈ l, b = false) → (l.foldl turnF (n, w)).1 = n
  | [], n, w, _ => rfl
  | b :: l, n, w, h => by
    have e : b = false := h b (by simp)
    subst e
    simp only [List.foldl_cons, turnF, Bool.false_and, Bool.false_eq_true, if_false]
    exact turns_none l n false fun b hb => h b (by simp [hb])
theorem turns_down : ∀ (l : List Bool) (n : Nat), l.Pairwise (fun x y => y = true → x = true) → (l.foldl turnF (n, true)).1 = n
  | [], n, _ => rfl
  | b :: l, n, h => by
    have hc := List.pairwise_cons.1 h
    cases b with
    | true =>
      simp only [List.foldl_cons, turnF, Bool.not_true, Bool.and_false, Bool.false_eq_true, if_false]
      exact turns_down l n hc.2
    | false =>
      simp only [List.foldl_cons, turnF, Bool.false_and, Bool.false_eq_true, if_false]
      refine turns_none l n false fun b hb => ?_
      cases b with
      | false => rfl
      | true => exact absurd (hc.1 true hb rfl) (by simp)
theorem turns_le : ∀ (l : List Bool), conv l → (l.foldl turnF (0, false)).1 ≤ 1
  | [], _ => by simp
  | b :: l, h => by
    cases b with
    | true =>
      simp only [conv, if_true] at h
      simp only [List.foldl_cons, turnF, Bool.not_false, Bool.and_true, if_true]
      rw [turns_down l 1 h]
      exact Nat.le_refl _
    | false =>
      simp only [conv, Bool.false_eq_true, if_false] at h
      simp only [List.foldl_cons, turnF, Bool.false_and, Bool.false_eq_true, if_false]
      exact turns_le l h
theorem turnF_le (s : Nat × Bool) (b : Bool) : s.1 ≤ (turnF s b).1 ∧ (turnF s b).1 ≤ s.1 + 1 := by
  unfold turnF
  split <;> simp
theorem turns_bound : ∀ (l : List Bool) (s : Nat × Bool), (l.foldl turnF s).1 ≤ s.1 + l.length
  | [], s => by simp
  | b :: l, s => by
    have h1 := turns_bound l (turnF s b)
    have h2 := (turnF_le s b).2
    simp only [List.foldl_cons, List.length_cons]
    omega
theorem conv_of (T : Tot c) (P : α → Bool) (hP : ∀ a b d, c a b < 0 → c b d < 0 → P a = true → P d = true → P b = true) : ∀ l : List α, SSrt c l → conv (l.map P)
  | [], _ => trivial
  | a :: l, h => by
    have hc := List.pairwise_cons.1 h
    simp only [List.map_cons, conv]
    split
    · rename_i ha
      refine List.pairwise_map.2 ?_
      refine hc.2.imp_of_mem ?_
      intro x y hx hy hxy hPy
      exact hP a x y (hc.1 x hx) hxy ha hPy
    · exact conv_of T P hP l hc.2

/-! ### neighbours -/
def adjL {β : Type} (c : List β → List β → Int) : List (List β) → Bool
  | a :: b :: l => decide (a.length = b.length) && (decide (c a b < 0) && adjL c (b :: l))
  | _ => true
theorem adj_drop {β : Type} (c : List β → List β → Int) (l : List (List β)) (i : Nat) (h : i + 1 < l.length) : adjL c (l.drop i) = (decide (l[i].length = l[i + 1].length) && (decide (c l[i] l[i + 1] < 0) && adjL c (l.drop (i + 1)))) := by
  rw [List.drop_eq_getElem_cons (by omega), List.drop_eq_getElem_cons h]
  rfl
theorem adj_last {β : Type} (c : List β → List β → Int) (l : List (List β)) (i : Nat) (h : l.length ≤ i + 1) : adjL c (l.drop i) = true := by
  by_cases e : i < l.length
  · rw [List.drop_eq_getElem_cons e, List.drop_eq_nil_of_le h]
    rfl
  · rw [List.drop_eq_nil_of_le (by omega)]
    rfl
end Go.Pv

set_option maxHeartbeats 4000000
set_option maxRecDepth 200000
set_option linter.unusedSimpArgs false
set_option linter.unusedVariables false
/-! The place of a tuple, rows in order by putting in, what a relation is, tuples of one width: as the walks give them. -/
namespace Go.Pv
open Go Go.Proofs
/-! ### the place of a tuple -/
def plF (t : List Vl) (s : Nat × Bool) (a : List Vl) : (Nat × Bool) ⊕ (Nat × Bool) := .inl (if lexV a t < 0 then s.1 + 1 else s.1, s.2 || decide (lexV a t = 0))
theorem pl_fold (t : List Vl) : ∀ (l : List (List Vl)) (s : Nat × Bool), foldE (plF t) id l s = (s.1 + plN lexV t l, s.2 || plB lexV t l)
  | [], s => by simp [foldE, plN, plB]
  | a :: l, s => by
    simp only [foldE, plF]
    rw [pl_fold t l]
    simp only [plN, plB, List.countP_cons, List.any_cons, Prod.mk.injEq, Bool.or_assoc, and_true, decide_eq_true_eq]
    split <;> omega
theorem plN_le (t : List Vl) (l : List (List Vl)) : plN lexV t l ≤ l.length := List.countP_le_length
theorem TPlace_loop (l : List (List Vl)) (t : List Vl) (hl : l.length ≤ 1000000) : TPlace1_V [.sl (rOf cV t) .non, .int .i64 0, .bool false, .sl (rOf (cR cV) l) .non, .int .i64 (l.length : Nat), .int .i64 0] ⟨[], [], []⟩ = some (.exit 0, [.int .i64 (plN lexV t l : Nat), .bool (plB lexV t l)], ⟨[], [], []⟩) := by
  have h := loop_foldE0 (l := l) (V := fun i s => TPlace1_V [.sl (rOf cV t) .non, .int .i64 (s.1 : Nat), .bool s.2, .sl (rOf (cR cV) l) .non, .int .i64 (l.length : Nat), .int .i64 (i : Nat)] ⟨[], [], []⟩) (fun i s => s.1 ≤ i) (plF t) id (fun r => some (.exit 0, [.int .i64 (r.1 : Nat), .bool r.2], ⟨[], [], []⟩)) (0, false) (Nat.le_refl _) ?_ ?_
  · rw [pl_fold] at h
    simpa using h
  · intro i s a hs hi ha
    obtain ⟨n, b⟩ := s
    simp only at hs
    have w := inc_i64 (i := i) (by omega)
    have w2 := inc_i64 (i := n) (by omega)
    refine .inl ⟨_, rfl, ?_, ?_⟩
    · simp only
      split <;> omega
    · by_cases hc : lexV a t < 0 <;> cases b <;> simp [TPlace1_E, TPlace1_Tr, ha, hi, w, w2, hc]
  · intro b _
    simp [TPlace1_E, TPlace1_Tr]
theorem TPlace_law (l : List (List Vl)) (t : List Vl) (hl : l.length ≤ 1000000) : TPlace_W (rOf (cR cV) l) (rOf cV t) = some (.tup [.int .i64 (plN lexV t l : Nat), .bool (plB lexV t l)]) := by
  have h := TPlace_loop l t hl
  simp [TPlace_W, TPlace_Tr, TPlace1_is0, TPlace1_n, TPlace1_there, TPlace1_W, h]
theorem RPlace_loop (l : List (List Vl)) (t : List Vl) (hl : l.length ≤ 1000000) : RPlace1_V [.sl (rOf (cR cV) l) .non, .sl (rOf cV t) .non, .int .i64 0, .bool false, .int .i64 0] ⟨[], [], []⟩ = some (.exit 0, [.int .i64 (plN lexV t l : Nat), .bool (plB lexV t l)], ⟨[], [], []⟩) := by
  have h := loop_foldE0 (l := l) (V := fun i s => RPlace1_V [.sl (rOf (cR cV) l) .non, .sl (rOf cV t) .non, .int .i64 (s.1 : Nat), .bool s.2, .int .i64 (i : Nat)] ⟨[], [], []⟩) (fun i s => s.1 ≤ i) (plF t) id (fun r => some (.exit 0, [.int .i64 (r.1 : Nat), .bool r.2], ⟨[], [], []⟩)) (0, false) (Nat.le_refl _) ?_ ?_
  · rw [pl_fold] at h
    simpa using h
  · intro i s a hs hi ha
    obtain ⟨n, b⟩ := s
    simp only at hs
    have w := inc_i64 (i := i) (by omega)
    have w2 := inc_i64 (i := n) (by omega)
    refine .inl ⟨_, rfl, ?_, ?_⟩
    · simp only
      split <;> omega
    · by_cases hc : lexV a t < 0 <;> cases b <;> simp [RPlace1_E, RPlace1_Tr, ha, hi, w, w2, hc]
  · intro b _
    simp [RPlace1_E, RPlace1_Tr]
theorem RPlace_law (l : List (List Vl)) (t : List Vl) (hl : l.length ≤ 1000000) : RPlace_W (rOf (cR cV) l) (rOf cV t) = some (.tup [.int .i64 (plN lexV t l : Nat), .bool (plB lexV t l)]) := by
  have h := RPlace_loop l t hl
  simp [RPlace_W, RPlace_Tr, RPlace1_is0, RPlace1_n, RPlace1_in_, RPlace1_W, h]
/-! ### put in -/
theorem put_law (l : List (List Vl)) (t : List Vl) (hl : l.length ≤ 1000000) : put_W (rOf (cR cV) l) (rOf cV t) = some (.sl (rOf (cR cV) (insP lexV t l)) .non) := by
  have hp := RPlace_law l t hl
  have hn := plN_le t l
  have e0 : RPlace_is0 (rOf (cR cV) l) (rOf cV t) = true := by simp [RPlace_is0, RPlace_n, RPlace_b, hp]
  have e1 : RPlace_b (rOf (cR cV) l) (rOf cV t) = plB lexV t l := by simp [RPlace_b, hp]
  have e2 : RPlace_n (rOf (cR cV) l) (rOf cV t) = (plN lexV t l : Nat) := by simp [RPlace_n, hp]
  unfold put_W put_Tr insP
  generalize plN lexV t l = n at *
  simp only [lockLL_rOf, e0, e1, e2, Tr.run_ite, if_true]
  cases hb : plB lexV t l with
  | true => simp
  | false =>
    have g1 : (min n l.length) * 24 ≤ 140737488355328 := by omega
    have g2 : (min n l.length + 1) * 24 ≤ 140737488355328 := by omega
    have g3 : (min n l.length + 1 + (l.length - n)) * 24 ≤ 140737488355328 := by omega
    have g4 : min n l.length ≤ 140737488355328 := by omega
    have g5 : l.length ≤ 140737488355328 := by omega
    by_cases h1 : (l.take n) = [] <;> by_cases h2 : l.drop n = []
    all_goals
      simp [-List.take_eq_nil_iff, -List.drop_eq_nil_iff, h1, h2, hn]
      try omega
theorem RSorted_loop (l : List (List Vl)) (a : List Vl) (hl : l.length ≤ 1000000) (i : Nat) (b : List (List Vl)) (hb : b.length ≤ i) (hi : i ≤ l.length) : RSorted1_V [.sl (rOf (cR cV) l) .non, .sl (rOf (cR cV) b) .non, .int .i64 (i : Nat)] ⟨[], [], []⟩ = some (.exit 0, [.sl (rOf (cR cV) ((l.drop i).foldl (fun o x => insP lexV x o) b)) .non], ⟨[], [], []⟩) := by
  have hf : ∀ (m b : List (List Vl)), foldE (fun b a => (.inl (insP lexV a b) : List (List Vl) ⊕ List (List Vl))) id m b = m.foldl (fun o x => insP lexV x o) b := by
    intro m
    induction m with
    | nil => intro b; rfl
    | cons x m ih => intro b; simp only [foldE, List.foldl_cons, ih]
  have h := loop_foldE (l := l) (V := fun i b => RSorted1_V [.sl (rOf (cR cV) l) .non, .sl (rOf (cR cV) b) .non, .int .i64 (i : Nat)] ⟨[], [], []⟩) (fun i b => b.length ≤ i) (fun b a => .inl (insP lexV a b)) id (fun r => some (.exit 0, [.sl (rOf (cR cV) r) .non], ⟨[], [], []⟩)) ?_ ?_ i b hb hi
  · rw [hf] at h
    exact h
  · intro i b a hb hi ha
    have w := inc_i64 (i := i) (by omega)
    have hp := put_law b a (by omega)
    have hle := insP_len (c := lexV) a b
    refine .inl ⟨_, rfl, by omega, ?_⟩
    simp [RSorted1_E1, RSorted1_Tr1, ha, hi, w, put_is0, put_r, hp]
  · intro b _
    simp [RSorted1_E1, RSorted1_Tr1]
theorem RSorted_law (l : List (List Vl)) (hl : l.length ≤ 1000000) : RSorted_W (rOf (cR cV) l) = some (.sl (rOf (cR cV) (usort lexV l)) .non) := by
  rw [← fold_insP_usort lexV_tot]
  cases l with
  | nil =>
    have h : RSorted1_V [.sl [] .non, .sl [] .full, .int .i64 0] ⟨[], [], []⟩ = some (.exit 0, [.sl [] .full], ⟨[], [], []⟩) := by simp [RSorted1_E, RSorted1_Tr]
    simp [RSorted_W, RSorted_Tr, RSorted1_is0, RSorted1_out_0, RSorted1_W, h]
  | cons a m =>
    have w : iAdd .i64 0 1 = 1 := by kernel_rfl
    have hp := put_law [] a (by simp)
    have h1 := RSorted_loop (a :: m) a hl 1 (insP lexV a []) (by have := insP_len (c := lexV) a []; simpa using this) (by simp)
    have h : RSorted1_V [.sl (rOf (cR cV) (a :: m)) .non, .sl [] .full, .int .i64 0] ⟨[], [], []⟩ = some (.exit 0, [.sl (rOf (cR cV) ((a :: m).foldl (fun o x => insP lexV x o) [])) .non], ⟨[], [], []⟩) := by
      rw [RSorted1_E]
      simp only [List.drop_succ_cons, List.drop_zero] at h1
      simp only [List.foldl_cons]
      rw [← h1]
      simp at hp
      simp [RSorted1_Tr, put_is0, put_r, hp, w]
    generalize (a :: m).foldl (fun o x => insP lexV x o) [] = r at *
    simp [RSorted_W, RSorted_Tr, RSorted1_is0, RSorted1_is1, RSorted1_out_0, RSorted1_out_1, RSorted1_W, h]
/-! ### tuples of one width -/
def widL (l : List (List Vl)) (n : Nat) : List (List Vl) := l.filter fun t => decide (t.length = n)
theorem width_loop (l : List (List Vl)) (n : Nat) (hl : l.length ≤ 1000000) : width1_V [.sl (rOf (cR cV) l) .non, .int .i64 (n : Nat), .sl [] .full, .int .i64 0] ⟨[], [], []⟩ = some (.exit 0, [.sl (rOf (cR cV) (widL l n)) (aT (widL l n))], aS 1 23 (widL l n)) := by
  have h := loop_acc (l := l) (V := fun i b => width1_V [.sl (rOf (cR cV) l) .non, .int .i64 (n : Nat), .sl (rOf (cR cV) b) (aT b), .int .i64 (i : Nat)] (aS 1 23 b)) (fun a => if (decide (a.length = n)) = true then [a] else []) (fun r => some (.exit 0, [.sl (rOf (cR cV) r) (aT r)], aS 1 23 r)) ?_ ?_
  · rw [flatMap_filter (fun a : List Vl => decide (a.length = n))] at h
    simpa [widL] using h
  · intro i b a hb hi ha
    have w := inc_i64 (i := i) (by omega)
    have hlen : b.length ≤ i := by rw [hb]; exact flatMap_le _ (fun a => by split <;> simp) _ _
    have g1 : (b.length + 1) * 24 ≤ 140737488355328 := by omega
    have g2 : b.length ≤ 140737488355327 := by omega
    rcases aTS_cases 1 23 b with ⟨rfl, h1, h2⟩ | ⟨hne, h1, h2⟩
    · by_cases hm : a.length = n
      · simp [width1_E, width1_Tr, ha, hi, w, hm, one, aT, aS]
      · have hm' : ¬ (a.length : Int) = n := by omega
        simp [width1_E, width1_Tr, ha, hi, w, hm, hm']
    · by_cases hm : a.length = n
      · simp [h1, h2, width1_E1, width1_Tr1, ha, hi, w, hm, one, aT_snoc, aS_snoc, g1, g2]
      · have hm' : ¬ (a.length : Int) = n := by omega
        simp [h1, h2, width1_E1, width1_Tr1, ha, hi, w, hm, hm', g1, g2]
  · intro b hb
    rcases aTS_cases 1 23 b with ⟨rfl, h1, h2⟩ | ⟨hne, h1, h2⟩
    · simp [width1_E, width1_Tr]
    · simp [h1, h2, width1_E1, width1_Tr1]
theorem width_law (l : List (List Vl)) (n : Nat) (hl : l.length ≤ 1000000) : width_W (rOf (cR cV) l) (n : Nat) = some (.sl (rOf (cR cV) (widL l n)) .non) := by
  have h := width_loop l n hl
  unfold width_W width_Tr
  generalize widL l n = r at h
  rcases aTS_cases 1 23 r with ⟨rfl, h1, h2⟩ | ⟨hne, h1, h2⟩
  · try simp at h
    simp [width1_is0, width1_is1, width1_out_0, width1_out_1, width1_k_1, width1_W, h]
  · rw [h1, h2] at h
    try simp at h
    simp [width1_is0, width1_is1, width1_out_0, width1_out_1, width1_k_1, width1_W, h]
/-! ### what a relation is -/
def chkV (t : List Vl) : Int := if t.length ≤ 8 ∧ t.all isVl = true then 0 else 20
theorem chkT_of (t : List Vl) : chkT (rOf cV t) = chkV t := by simp only [chkT, unR_of, chkV]
theorem chkV_cases (t : List Vl) : chkV t = 0 ∨ chkV t = 20 := by unfold chkV; split <;> simp
def relV (l : List (List Vl)) : Int := if 65536 < l.length then 3 else if (l.all fun t => decide (chkV t = 0)) = true then (if adjL lexV l = true then 0 else 21) else 20
def chkF (b : Unit) (a : List Vl) : Unit ⊕ Bool := if chkV a = 0 then .inl () else .inr false
theorem chk_fold : ∀ l : List (List Vl), foldE chkF (fun _ => true) l () = l.all fun t => decide (chkV t = 0)
  | [] => rfl
  | a :: l => by
    have ih := chk_fold l
    by_cases h : chkV a = 0 <;> simp [foldE, chkF, h, ih]
theorem RChk1 (l : List (List Vl)) (hl : l.length ≤ 1000000) : RChkRel1_V [.sl (rOf (cR cV) l) .non, .int .i64 0] ⟨[], [], []⟩ = if (l.all fun t => decide (chkV t = 0)) = true then some (.exit 0, [.sl (rOf (cR cV) l) .non], ⟨[], [], []⟩) else some (.ret, [.int .i64 20], ⟨[], [], []⟩) := by
  have h := loop_foldE0 (l := l) (V := fun i _ => RChkRel1_V [.sl (rOf (cR cV) l) .non, .int .i64 (i : Nat)] ⟨[], [], []⟩) (fun _ _ => True) chkF (fun _ => true) (fun r => if r = true then some (.exit 0, [.sl (rOf (cR cV) l) .non], ⟨[], [], []⟩) else some (.ret, [.int .i64 20], ⟨[], [], []⟩)) () trivial ?_ ?_
  · rw [chk_fold] at h
    exact h
  · intro i b a _ hi ha
    have w := inc_i64 (i := i) (by omega)
    by_cases hc : chkV a = 0
    · exact .inl ⟨(), by simp [chkF, hc], trivial, by simp [RChkRel1_E, RChkRel1_Tr, ha, hi, w, chkT_of, hc]⟩
    · exact .inr ⟨false, by simp [chkF, hc], by simp [RChkRel1_E, RChkRel1_Tr, ha, hi, w, chkT_of, hc]⟩
  · intro b _
    simp [RChkRel1_E, RChkRel1_Tr]
theorem TChk1 (l : List (List Vl)) (hl : l.length ≤ 1000000) : TChkRel1_V [.sl (rOf (cR cV) l) .non, .sl (rOf (cR cV) l) .non, .int .i64 (l.length : Nat), .int .i64 0] ⟨[], [], []⟩ = if (l.all fun t => decide (chkV t = 0)) = true then some (.exit 0, [.sl (rOf (cR cV) l) .non], ⟨[], [], []⟩) else some (.ret, [.int .i64 20], ⟨[], [], []⟩) := by
  have h := loop_foldE0 (l := l) (V := fun i _ => TChkRel1_V [.sl (rOf (cR cV) l) .non, .sl (rOf (cR cV) l) .non, .int .i64 (l.length : Nat), .int .i64 (i : Nat)] ⟨[], [], []⟩) (fun _ _ => True) chkF (fun _ => true) (fun r => if r = true then some (.exit 0, [.sl (rOf (cR cV) l) .non], ⟨[], [], []⟩) else some (.ret, [.int .i64 20], ⟨[], [], []⟩)) () trivial ?_ ?_
  · rw [chk_fold] at h
    exact h
  · intro i b a _ hi ha
    have w := inc_i64 (i := i) (by omega)
    have hcc := chkV_cases a
    by_cases hc : chkV a = 0
    · exact .inl ⟨(), by simp [chkF, hc], trivial, by simp [TChkRel1_E, TChkRel1_Tr, ha, hi, w, chkT_of, hc]⟩
    · have hc2 : chkV a = 20 := by omega
      exact .inr ⟨false, by simp [chkF, hc], by simp [TChkRel1_E, TChkRel1_Tr, ha, hi, w, chkT_of, hc2]⟩
  · intro b _
    simp [TChkRel1_E, TChkRel1_Tr]
theorem dec_i64 {i : Nat} (h : i < 9223372036854775807) : iSub .i64 ((i + 1 : Nat) : Int) 1 = (i : Int) := by
  have : iSub .i64 ((i + 1 : Nat) : Int) 1 = IntKind.wrap .i64 (((i + 1 : Nat) : Int) - 1) := rfl
  rw [this, wrap_i64 (by omega)]
  omega
theorem TChk2 (l : List (List Vl)) (hl : l.length ≤ 1000000) : ∀ (k i : Nat), i + k = l.length → TChkRel2_V [.sl (rOf (cR cV) l) .non, .int .i64 (l.length : Nat), .int .i64 ((i + 1 : Nat) : Int)] ⟨[], [], []⟩ = if adjL lexV (l.drop i) = true then some (.exit 2, [], ⟨[], [], []⟩) else some (.ret, [.int .i64 21], ⟨[], [], []⟩)
  | 0, i, hi => by
    rw [adj_last _ _ _ (by omega), if_pos rfl]
    have : ¬ (((i + 1 : Nat) : Int) < l.length) := by omega
    rw [TChkRel2_E]
    simp only [TChkRel2_Tr, Tr.run_ite, iLt_eq, decide_eq_true_eq, if_neg this, Tr.run_ret, lnext]
  | k + 1, i, hi => by
    by_cases he : i + 1 < l.length
    · have ih := TChk2 l hl k (i + 1) (by omega)
      have w := inc_i64 (i := i + 1) (by omega)
      have d := dec_i64 (i := i) (by omega)
      have h1 : i < l.length := by omega
      rw [adj_drop _ _ _ he]
      have p : (((i + 1 : Nat) : Int) < l.length) := by omega
      have p2 : ((0 : Int) < ((i + 1 : Nat) : Int)) := by omega
      have p3 : 0 < i + 1 := by omega
      by_cases c1 : l[i].length = l[i + 1].length
      · by_cases c2 : lexV l[i] l[i + 1] < 0
        · have c3 : ¬ 0 ≤ lexV l[i] l[i + 1] := by omega
          simp only [c1, c2, decide_true, Bool.true_and, ← ih]
          rw [TChkRel2_E]
          generalize hj : i + 1 = j at *
          simp [TChkRel2_Tr, p, p2, p3, d, w, h1, he, c1, c3]
        · have c3 : 0 ≤ lexV l[i] l[i + 1] := by omega
          simp only [c2, decide_false, Bool.false_and, Bool.and_false]
          rw [TChkRel2_E]
          generalize hj : i + 1 = j at *
          simp [TChkRel2_Tr, p, p2, p3, d, w, h1, he, c1, c3]
      · have c4 : ¬ (l[i].length : Int) = l[i + 1].length := by omega
        simp only [c1, decide_false, Bool.false_and]
        rw [TChkRel2_E]
        generalize hj : i + 1 = j at *
        simp [TChkRel2_Tr, p, p2, p3, d, w, h1, he, c1, c4]
    · rw [adj_last _ _ _ (by omega), if_pos rfl]
      have : ¬ (((i + 1 : Nat) : Int) < l.length) := by omega
      rw [TChkRel2_E]
      simp only [TChkRel2_Tr, Tr.run_ite, iLt_eq, xLen_rOf, decide_eq_true_eq, if_neg this, Tr.run_ret, lnext]
theorem RChk2 (l : List (List Vl)) (hl : l.length ≤ 1000000) (h0 : 0 < l.length) : ∀ (k i : Nat) (hi : i + k = l.length) (hw : ∀ h : i < l.length, l[i].length = l[0].length), RChkRel2_V [.sl (rOf (cR cV) l) .non, .int .i64 ((i + 1 : Nat) : Int)] ⟨[], [], []⟩ = if adjL lexV (l.drop i) = true then some (.exit 2, [], ⟨[], [], []⟩) else some (.ret, [.int .i64 21], ⟨[], [], []⟩)
  | 0, i, hi, hw => by
    rw [adj_last _ _ _ (by omega), if_pos rfl]
    have : ¬ (((i + 1 : Nat) : Int) < l.length) := by omega
    rw [RChkRel2_E]
    simp only [RChkRel2_Tr, Tr.run_ite, iLt_eq, xLen_rOf, decide_eq_true_eq, if_neg this, Tr.run_ret, lnext]
  | k + 1, i, hi, hw => by
    by_cases he : i + 1 < l.length
    · have h1 : i < l.length := by omega
      have hw1 := hw h1
      have w := inc_i64 (i := i + 1) (by omega)
      have d := dec_i64 (i := i) (by omega)
      rw [adj_drop _ _ _ he]
      have p : (((i + 1 : Nat) : Int) < l.length) := by omega
      by_cases c1 : l[i].length = l[i + 1].length
      · have c1' : l[i + 1].length = l[0].length := by omega
        have ih := RChk2 l hl h0 k (i + 1) (by omega) (fun _ => c1')
        by_cases c2 : lexV l[i] l[i + 1] < 0
        · have c3 : ¬ 0 ≤ lexV l[i] l[i + 1] := by omega
          simp only [c1, c2, decide_true, Bool.true_and, ← ih]
          rw [RChkRel2_E]
          generalize hj : i + 1 = j at *
          simp [RChkRel2_Tr, p, d, w, h0, h1, he, c1', c3]
        · have c3 : 0 ≤ lexV l[i] l[i + 1] := by omega
          simp only [c2, decide_false, Bool.false_and, Bool.and_false]
          rw [RChkRel2_E]
          generalize hj : i + 1 = j at *
          simp [RChkRel2_Tr, p, d, w, h0, h1, he, c1', c3]
      · have c4 : ¬ l[i + 1].length = l[0].length := by omega
        have c5 : ¬ (l[i + 1].length : Int) = l[0].length := by omega
        simp only [c1, decide_false, Bool.false_and]
        rw [RChkRel2_E]
        generalize hj : i + 1 = j at *
        simp [RChkRel2_Tr, p, d, w, h0, h1, he, c4, c5]
    · rw [adj_last _ _ _ (by omega), if_pos rfl]
      have : ¬ (((i + 1 : Nat) : Int) < l.length) := by omega
      rw [RChkRel2_E]
      simp only [RChkRel2_Tr, Tr.run_ite, iLt_eq, xLen_rOf, decide_eq_true_eq, if_neg this, Tr.run_ret, lnext]
theorem RChkRel_law (l : List (List Vl)) (hl : l.length ≤ 1000000) : RChkRel_W (rOf (cR cV) l) = some (.int .i64 (relV l)) := by
  have h1 := RChk1 l hl
  unfold RChkRel_W RChkRel_Tr relV
  by_cases hm : 65536 < l.length
  · have hm' : (65536 : Int) < l.length := by omega
    simp [hm, hm']
  · have hm' : ¬ (65536 : Int) < l.length := by omega
    cases ha : l.all fun t => decide (chkV t = 0) with
    | false =>
      rw [ha] at h1
      simp only [Bool.false_eq_true, if_false] at h1 ⊢
      simp [hm, hm', RChkRel1_is0, RChkRel1_n_0, RChkRel1_W, h1]
    | true =>
      rw [ha] at h1
      simp only [if_true] at h1 ⊢
      have h2 : RChkRel2_V [.sl (rOf (cR cV) l) .non, .int .i64 1] ⟨[], [], []⟩ = if adjL lexV l = true then some (.exit 2, [], ⟨[], [], []⟩) else some (.ret, [.int .i64 21], ⟨[], [], []⟩) := by
        by_cases h0 : 0 < l.length
        · have := RChk2 l hl h0 l.length 0 (by omega) (fun _ => rfl)
          simpa using this
        · have : l = [] := List.length_eq_zero_iff.1 (by omega)
          subst this
          rw [RChkRel2_E]
          simp [RChkRel2_Tr, adjL]
      cases hj : adjL lexV l with
      | true =>
        rw [hj, if_pos rfl] at h2
        simp [hm, hm', RChkRel1_is0, RChkRel1_is1, RChkRel1_n_0, RChkRel1_l_1, RChkRel1_W, h1, RChkRel2_is0, RChkRel2_is1, RChkRel2_n_0, RChkRel2_W, h2]
      | false =>
        rw [hj] at h2
        simp only [Bool.false_eq_true, if_false] at h2
        simp [hm, hm', RChkRel1_is0, RChkRel1_is1, RChkRel1_n_0, RChkRel1_l_1, RChkRel1_W, h1, RChkRel2_is0, RChkRel2_is1, RChkRel2_n_0, RChkRel2_W, h2]
theorem TChkRel_law (l : List (List Vl)) (hl : l.length ≤ 1000000) : TChkRel_W (rOf (cR cV) l) = some (.int .i64 (relV l)) := by
  have h1 := TChk1 l hl
  unfold TChkRel_W TChkRel_Tr relV
  by_cases hm : 65536 < l.length
  · have hm' : (65536 : Int) < l.length := by omega
    simp [hm, hm']
  · have hm' : ¬ (65536 : Int) < l.length := by omega
    cases ha : l.all fun t => decide (chkV t = 0) with
    | false =>
      rw [ha] at h1
      simp only [Bool.false_eq_true, if_false] at h1 ⊢
      simp [hm, hm', TChkRel1_is0, TChkRel1_n_0, TChkRel1_W, h1]
    | true =>
      rw [ha] at h1
      simp only [if_true] at h1 ⊢
      have h2 : TChkRel2_V [.sl (rOf (cR cV) l) .non, .int .i64 (l.length : Nat), .int .i64 0] ⟨[], [], []⟩ = if adjL lexV l = true then some (.exit 2, [], ⟨[], [], []⟩) else some (.ret, [.int .i64 21], ⟨[], [], []⟩) := by
        have h := TChk2 l hl l.length 0 (by omega)
        by_cases h0 : 0 < l.length
        · simp only [List.drop_zero] at h
          rw [← h, TChkRel2_E]
          have w : iAdd .i64 0 1 = 1 := by kernel_rfl
          simp [TChkRel2_Tr, h0, w]
        · have : l = [] := List.length_eq_zero_iff.1 (by omega)
          subst this
          rw [TChkRel2_E]
          simp [TChkRel2_Tr, adjL]
      cases hj : adjL lexV l with
      | true =>
        rw [hj, if_pos rfl] at h2
        simp [hm, hm', TChkRel1_is0, TChkRel1_is1, TChkRel1_n_0, TChkRel1_l_1, TChkRel1_W, h1, TChkRel2_is0, TChkRel2_is1, TChkRel2_n_0, TChkRel2_W, h2]
      | false =>
        rw [hj] at h2
        simp only [Bool.false_eq_true, if_false] at h2
        simp [hm, hm', TChkRel1_is0, TChkRel1_is1, TChkRel1_n_0, TChkRel1_l_1, TChkRel1_W, h1, TChkRel2_is0, TChkRel2_is1, TChkRel2_n_0, TChkRel2_W, h2]
end Go.Pv

set_option maxHeartbeats 4000000
set_option maxRecDepth 200000
set_option linter.unusedSimpArgs false
set_option linter.unusedVariables false
namespace Go.Pv
open Go Go.Proofs
noncomputable def G_ins : GamT := ofL [(16, .pure F_TCmp)]
theorem gok_ins (gl : Nat → Option Obj) : GamOk Tryd.prog gl (gam G_ins) := (gamOk_cons (sim_TCmp gl) gamOk_nil)
noncomputable def c_ins1 : Code := loopC Tryd.f119 1
noncomputable def c_ins2 : Code := loopC Tryd.f119 4
def I_ins2 : LI := ⟨53, [0, 1, 2, 3, 8, 9], fun e => match e with | .exit 2 => [0, 1, 2, 3, 8] | _ => [], false⟩
noncomputable def LI_ins2 : LpsT := fun r fr σ => .fail
noncomputable def ins2_V (vs : List PV) (σ : Store) : Option (PExit × List PV × Store) := lval (lstep tbT G_ins LI_ins2 c_ins2 I_ins2) vs σ
noncomputable def ins2_Tr (data : Nat) (data2 : Nat) (a : Int) (b : Int) (i : Int) (j : Int) (l : List PV) (l2 : List PV) (rest : List (List PV)) (toks : List (Nat × Nat × TypeId)) (tys : List TypeId) : Tr LR := Tr.ite (iLt a j)
  (Tr.ite (okIx j data2)
    (Tr.ite (okCell [PV.sl [] .full] l2 (pOff data (nNat j) 1))
      (Tr.ite (okIx (iSub .i64 j 1) data2)
        (Tr.ite (okCell [PV.sl [] .full] l2 (pOff data (nNat (iSub .i64 j 1)) 1))
          (Tr.ite (okR cV (lockLL (lockLL (cRow l2 (pOff data (nNat j) 1) 0))))
            (Tr.ite (okR cV (lockLL (lockLL (cRow l2 (pOff data (nNat (iSub .i64 j 1)) 1) 0))))
              (Tr.ite (iLt (cmpTV (lockLL (lockLL (cRow l2 (pOff data (nNat j) 1) 0))) (lockLL (lockLL (cRow l2 (pOff data (nNat (iSub .i64 j 1)) 1) 0)))) 0)
                (Tr.ite (okIx (iSub .i64 j 1) data2)
                  (Tr.ite (okCell [PV.sl [] .full] l2 (pOff data (nNat (iSub .i64 j 1)) 1))
                    (Tr.ite (okIx j data2)
                      (Tr.ite (okCell [PV.sl [] .full] l2 (pOff data (nNat j) 1))
                        (Tr.ite (okIx j data2)
                          (Tr.ite (okOff l2 (pOff data (nNat j) 1) 1)
                            (Tr.ite (okIx (iSub .i64 j 1) data2)
                              (Tr.ite
                                (okOff (putC l2 (pOff data (nNat j) 1) [PV.sl (cRow l2 (pOff data (nNat (iSub .i64 j 1)) 1) 0) .non])
                                  (pOff data (nNat (iSub .i64 j 1)) 1) 1)
                                (Tr.ret
                                  (LR.next
                                    [PV.osl 1 data data2 1, PV.int .i64 a, PV.int .i64 b, PV.fn 16 [], PV.int .i64 i,
                                      PV.int .i64 (iSub .i64 j 1)]
                                    (Store.mk
                                      (l ::
                                        putC (putC l2 (pOff data (nNat j) 1) [PV.sl (cRow l2 (pOff data (nNat (iSub .i64 j 1)) 1) 0) .non])
                                            (pOff data (nNat (iSub .i64 j 1)) 1) [PV.sl (cRow l2 (pOff data (nNat j) 1) 0) .non] ::
                                          rest)
                                      toks (82 :: 1000023 :: tys))))
                                Tr.fail)
                              Tr.fail)
                            Tr.fail)
                          Tr.fail)
                        Tr.fail)
                      Tr.fail)
                    Tr.fail)
                  Tr.fail)
                (Tr.ret
                  (LR.out (.exit 2) [PV.osl 1 data data2 1, PV.int .i64 a, PV.int .i64 b, PV.fn 16 [], PV.int .i64 i]
                    (Store.mk (l :: l2 :: rest) toks (82 :: 1000023 :: tys)))))
              Tr.fail)
            Tr.fail)
          Tr.fail)
        Tr.fail)
      Tr.fail)
    Tr.fail)
  (Tr.ret
    (LR.out (.exit 2) [PV.osl 1 data data2 1, PV.int .i64 a, PV.int .i64 b, PV.fn 16 [], PV.int .i64 i]
      (Store.mk (l :: l2 :: rest) toks (82 :: 1000023 :: tys))))
theorem ins2_T (data : Nat) (data2 : Nat) (a : Int) (b : Int) (i : Int) (j : Int) (l : List PV) (l2 : List PV) (rest : List (List PV)) (toks : List (Nat × Nat × TypeId)) (tys : List TypeId) : lstep tbT G_ins LI_ins2 c_ins2 I_ins2 [.osl 1 data data2 1, .int .i64 a, .int .i64 b, .fn 16 [], .int .i64 i, .int .i64 j] ⟨(l :: l2 :: rest), (toks), (82 :: 1000023 :: tys)⟩ = ins2_Tr data data2 a b i j l l2 rest toks tys := by kernel_rfl
theorem ins2_E (data : Nat) (data2 : Nat) (a : Int) (b : Int) (i : Int) (j : Int) (l : List PV) (l2 : List PV) (rest : List (List PV)) (toks : List (Nat × Nat × TypeId)) (tys : List TypeId) : ins2_V [.osl 1 data data2 1, .int .i64 a, .int .i64 b, .fn 16 [], .int .i64 i, .int .i64 j] ⟨(l :: l2 :: rest), (toks), (82 :: 1000023 :: tys)⟩ = lnext ins2_V (ins2_Tr data data2 a b i j l l2 rest toks tys).run := by unfold ins2_V; rw [lval_eq, ins2_T]
noncomputable def ins2_W (data : Nat) (data2 : Nat) (a : Int) (b : Int) (i : Int) (j : Int) (l : List PV) (l2 : List PV) (rest : List (List PV)) (toks : List (Nat × Nat × TypeId)) (tys : List TypeId) : Option (PExit × List PV × Store) := ins2_V [.osl 1 data data2 1, .int .i64 a, .int .i64 b, .fn 16 [], .int .i64 i, .int .i64 j] ⟨(l :: l2 :: rest), (toks), (82 :: 1000023 :: tys)⟩
noncomputable def ins2_l2 (data : Nat) (data2 : Nat) (a : Int) (b : Int) (i : Int) (j : Int) (l : List PV) (l2 : List PV) (rest : List (List PV)) (toks : List (Nat × Nat × TypeId)) (tys : List TypeId) : List PV := (gObj (ins2_W data data2 a b i j l l2 rest toks tys) 1)
noncomputable def ins2_is0 (data : Nat) (data2 : Nat) (a : Int) (b : Int) (i : Int) (j : Int) (l : List PV) (l2 : List PV) (rest : List (List PV)) (toks : List (Nat × Nat × TypeId)) (tys : List TypeId) : Bool := isW (ins2_W data data2 a b i j l l2 rest toks tys) ((.exit 2), [.osl 1 data data2 1, .int .i64 a, .int .i64 b, .fn 16 [], .int .i64 i], ⟨(l :: (ins2_l2 data data2 a b i j l l2 rest toks tys) :: rest), (toks), (82 :: 1000023 :: tys)⟩)
noncomputable def ins2_prop : List PV → Store → Tr (PExit × List PV × Store) | [.osl 1 data data2 1, .int .i64 a, .int .i64 b, .fn 16 [], .int .i64 i, .int .i64 j], ⟨(l :: l2 :: rest), (toks), (82 :: 1000023 :: tys)⟩ => .ite (ins2_is0 data data2 a b i j l l2 rest toks tys) (.ret ((.exit 2), [.osl 1 data data2 1, .int .i64 a, .int .i64 b, .fn 16 [], .int .i64 i], ⟨(l :: (ins2_l2 data data2 a b i j l l2 rest toks tys) :: rest), (toks), (82 :: 1000023 :: tys)⟩)) (.fail) | _, _ => .fail
theorem ins2_ok : ∀ vs σ r, (ins2_prop vs σ).run = some r → ins2_V vs σ = some r := by
  intro vs σ r h
  unfold ins2_prop at h
  split at h
  · exact ite_isW h fun h => by cases h
  · cases h
theorem loop_ins2 (gl : Nat → Option Obj) : ∀ fr σ e fr' σ', (orc I_ins2 ins2_prop fr σ).run = some (e, fr', σ') → LDoes Tryd.prog gl c_ins2 fr σ e fr' σ' := orc_ok tbT_ok (gok_ins gl ) noMixed (L := LI_ins2) (loopOk_none (by kernel_rfl)) (by kernel_rfl) ins2_ok
def I_ins1 : LI := ⟨53, [0, 1, 2, 3, 8], fun e => match e with | .exit 0 => [] | _ => [], false⟩
noncomputable def LI_ins1 : LpsT := fun r fr σ => bif Nat.beq r 4 then orc I_ins2 ins2_prop fr σ else .fail
noncomputable def ins1_V (vs : List PV) (σ : Store) : Option (PExit × List PV × Store) := lval (lstep tbT G_ins LI_ins1 c_ins1 I_ins1) vs σ
noncomputable def ins1_Tr (data : Nat) (data2 : Nat) (a : Int) (b : Int) (i : Int) (l : List PV) (l2 : List PV) (rest : List (List PV)) (toks : List (Nat × Nat × TypeId)) (tys : List TypeId) : Tr LR := Tr.ite (iLt i b)
  (Tr.ite (ins2_is0 data data2 a b i i l l2 rest toks tys)
    (Tr.ret
      (LR.next [PV.osl 1 data data2 1, PV.int .i64 a, PV.int .i64 b, PV.fn 16 [], PV.int .i64 (iAdd .i64 i 1)]
        (Store.mk (l :: ins2_l2 data data2 a b i i l l2 rest toks tys :: rest) toks (82 :: 1000023 :: tys))))
    Tr.fail)
  (Tr.ret (LR.out (.exit 0) [] (Store.mk (l :: l2 :: rest) toks (82 :: 1000023 :: tys))))
theorem ins1_T (data : Nat) (data2 : Nat) (a : Int) (b : Int) (i : Int) (l : List PV) (l2 : List PV) (rest : List (List PV)) (toks : List (Nat × Nat × TypeId)) (tys : List TypeId) : lstep tbT G_ins LI_ins1 c_ins1 I_ins1 [.osl 1 data data2 1, .int .i64 a, .int .i64 b, .fn 16 [], .int .i64 i] ⟨(l :: l2 :: rest), (toks), (82 :: 1000023 :: tys)⟩ = ins1_Tr data data2 a b i l l2 rest toks tys := by kernel_rfl
theorem ins1_E (data : Nat) (data2 : Nat) (a : Int) (b : Int) (i : Int) (l : List PV) (l2 : List PV) (rest : List (List PV)) (toks : List (Nat × Nat × TypeId)) (tys : List TypeId) : ins1_V [.osl 1 data data2 1, .int .i64 a, .int .i64 b, .fn 16 [], .int .i64 i] ⟨(l :: l2 :: rest), (toks), (82 :: 1000023 :: tys)⟩ = lnext ins1_V (ins1_Tr data data2 a b i l l2 rest toks tys).run := by unfold ins1_V; rw [lval_eq, ins1_T]
noncomputable def ins1_W (data : Nat) (data2 : Nat) (a : Int) (b : Int) (i : Int) (l : List PV) (l2 : List PV) (rest : List (List PV)) (toks : List (Nat × Nat × TypeId)) (tys : List TypeId) : Option (PExit × List PV × Store) := ins1_V [.osl 1 data data2 1, .int .i64 a, .int .i64 b, .fn 16 [], .int .i64 i] ⟨(l :: l2 :: rest), (toks), (82 :: 1000023 :: tys)⟩
noncomputable def ins1_l2 (data : Nat) (data2 : Nat) (a : Int) (b : Int) (i : Int) (l : List PV) (l2 : List PV) (rest : List (List PV)) (toks : List (Nat × Nat × TypeId)) (tys : List TypeId) : List PV := (gObj (ins1_W data data2 a b i l l2 rest toks tys) 1)
noncomputable def ins1_is0 (data : Nat) (data2 : Nat) (a : Int) (b : Int) (i : Int) (l : List PV) (l2 : List PV) (rest : List (List PV)) (toks : List (Nat × Nat × TypeId)) (tys : List TypeId) : Bool := isW (ins1_W data data2 a b i l l2 rest toks tys) ((.exit 0), [], ⟨(l :: (ins1_l2 data data2 a b i l l2 rest toks tys) :: rest), (toks), (82 :: 1000023 :: tys)⟩)
noncomputable def ins1_prop : List PV → Store → Tr (PExit × List PV × Store) | [.osl 1 data data2 1, .int .i64 a, .int .i64 b, .fn 16 [], .int .i64 i], ⟨(l :: l2 :: rest), (toks), (82 :: 1000023 :: tys)⟩ => .ite (ins1_is0 data data2 a b i l l2 rest toks tys) (.ret ((.exit 0), [], ⟨(l :: (ins1_l2 data data2 a b i l l2 rest toks tys) :: rest), (toks), (82 :: 1000023 :: tys)⟩)) (.fail) | _, _ => .fail
theorem ins1_ok : ∀ vs σ r, (ins1_prop vs σ).run = some r → ins1_V vs σ = some r := by
  intro vs σ r h
  unfold ins1_prop at h
  split at h
  · exact ite_isW h fun h => by cases h
  · cases h
theorem loop_ins1 (gl : Nat → Option Obj) : ∀ fr σ e fr' σ', (orc I_ins1 ins1_prop fr σ).run = some (e, fr', σ') → LDoes Tryd.prog gl c_ins1 fr σ e fr' σ' := orc_ok tbT_ok (gok_ins gl ) noMixed (L := LI_ins1) (loopOk_all (L := lps LI_ins1) [(4, c_ins2)] (by kernel_rfl) (List.forall_mem_cons.2 ⟨fun fr σ e fr' σ' h => loop_ins2 gl  fr σ e fr' σ' h, (List.forall_mem_nil _)⟩)) (by kernel_rfl) ins1_ok
noncomputable def L_ins : LpsT := fun r fr σ => bif Nat.beq r 1 then orc I_ins1 ins1_prop fr σ else .fail
noncomputable def ins_Tr (off : Nat) (len : Nat) (a : Int) (b : Int) (c0 : List PV) (cs : List PV) (rest : List (List PV)) (toks : List (Nat × Nat × TypeId)) (tys : List TypeId) : Tr (PV × Store) := Tr.ite (ins1_is0 off len a b (iAdd .i64 a 1) c0 cs rest toks tys)
  (Tr.ret (PV.tup [], Store.mk (c0 :: ins1_l2 off len a b (iAdd .i64 a 1) c0 cs rest toks tys :: rest) toks (82 :: 1000023 :: tys))) Tr.fail
theorem ins_T (off : Nat) (len : Nat) (a : Int) (b : Int) (c0 : List PV) (cs : List PV) (rest : List (List PV)) (toks : List (Nat × Nat × TypeId)) (tys : List TypeId) : (tcallS tbT G_ins L_ins Tryd.f119 [.osl 1 off len 1, .int .i64 a, .int .i64 b, .fn 16 []] ⟨c0 :: cs :: rest, toks, 82 :: 1000023 :: tys⟩).flat = ins_Tr off len a b c0 cs rest toks tys := by kernel_rfl
noncomputable def ins_W (off : Nat) (len : Nat) (a : Int) (b : Int) (c0 : List PV) (cs : List PV) (rest : List (List PV)) (toks : List (Nat × Nat × TypeId)) (tys : List TypeId) : Option (PV × Store) := (ins_Tr off len a b c0 cs rest toks tys).run
noncomputable def ins_l2 (off : Nat) (len : Nat) (a : Int) (b : Int) (c0 : List PV) (cs : List PV) (rest : List (List PV)) (toks : List (Nat × Nat × TypeId)) (tys : List TypeId) : List PV := (gObj (asOut (ins_W off len a b c0 cs rest toks tys)) 1)
noncomputable def ins_is0 (off : Nat) (len : Nat) (a : Int) (b : Int) (c0 : List PV) (cs : List PV) (rest : List (List PV)) (toks : List (Nat × Nat × TypeId)) (tys : List TypeId) : Bool := isW (ins_W off len a b c0 cs rest toks tys) (.tup [], ⟨(c0 :: (ins_l2 off len a b c0 cs rest toks tys) :: rest), (toks), (82 :: 1000023 :: tys)⟩)
noncomputable def D_ins : List PV → Store → Tr (PV × Store) | [.osl 1 off len 1, .int .i64 a, .int .i64 b, .fn 16 []], ⟨c0 :: cs :: rest, toks, 82 :: 1000023 :: tys⟩ => .ite (ins_is0 off len a b c0 cs rest toks tys) (.ret (.tup [], ⟨(c0 :: (ins_l2 off len a b c0 cs rest toks tys) :: rest), (toks), (82 :: 1000023 :: tys)⟩)) (.fail) | _, _ => .fail
theorem sim_ins (gl : Nat → Option Obj) : SimS Tryd.prog gl 119 fun args σ => (D_ins args σ).run := by
  refine SimS.of_flat (G := G_ins) (L := L_ins) tbT_ok (gok_ins gl ) noMixed Tryd.func119 rfl (by rfl) (by kernel_rfl) (loopOk_all (L := lps L_ins) [(1, c_ins1)] (by kernel_rfl) (List.forall_mem_cons.2 ⟨fun fr σ e fr' σ' h => loop_ins1 gl  fr σ e fr' σ' h, (List.forall_mem_nil _)⟩)) ?_
  intro args σ x h
  unfold D_ins at h
  split at h
  · exact (congrArg Tr.run (ins_T _ _ _ _ _ _ _ _ _)).trans (ite_isW h fun h => by cases h)
  · cases h
noncomputable def G_swp : GamT := ofL []
theorem gok_swp (gl : Nat → Option Obj) : GamOk Tryd.prog gl (gam G_swp) := gamOk_nil
noncomputable def c_swp1 : Code := loopC Tryd.f144 1
def I_swp1 : LI := ⟨38, [0, 1, 2, 3, 10], fun e => match e with | .exit 0 => [] | _ => [], false⟩
noncomputable def LI_swp1 : LpsT := fun r fr σ => .fail
noncomputable def swp1_V (vs : List PV) (σ : Store) : Option (PExit × List PV × Store) := lval (lstep tbT G_swp LI_swp1 c_swp1 I_swp1) vs σ
noncomputable def swp1_Tr (data : Nat) (data2 : Nat) (a : Int) (b : Int) (n : Int) (i : Int) (l : List PV) (l2 : List PV) (rest : List (List PV)) (toks : List (Nat × Nat × TypeId)) (tys : List TypeId) : Tr LR := Tr.ite (iLt i n)
  (Tr.ite (okIx (iAdd .i64 b i) data2)
    (Tr.ite (okCell [PV.sl [] .full] l2 (pOff data (nNat (iAdd .i64 b i)) 1))
      (Tr.ite (okIx (iAdd .i64 a i) data2)
        (Tr.ite (okCell [PV.sl [] .full] l2 (pOff data (nNat (iAdd .i64 a i)) 1))
          (Tr.ite (okIx (iAdd .i64 a i) data2)
            (Tr.ite (okOff l2 (pOff data (nNat (iAdd .i64 a i)) 1) 1)
              (Tr.ite (okIx (iAdd .i64 b i) data2)
                (Tr.ite
                  (okOff (putC l2 (pOff data (nNat (iAdd .i64 a i)) 1) [PV.sl (cRow l2 (pOff data (nNat (iAdd .i64 b i)) 1) 0) .non])
                    (pOff data (nNat (iAdd .i64 b i)) 1) 1)
                  (Tr.ret
                    (LR.next [PV.osl 1 data data2 1, PV.int .i64 a, PV.int .i64 b, PV.int .i64 n, PV.int .i64 (iAdd .i64 i 1)]
                      (Store.mk
                        (l ::
                          putC (putC l2 (pOff data (nNat (iAdd .i64 a i)) 1) [PV.sl (cRow l2 (pOff data (nNat (iAdd .i64 b i)) 1) 0) .non])
                              (pOff data (nNat (iAdd .i64 b i)) 1) [PV.sl (cRow l2 (pOff data (nNat (iAdd .i64 a i)) 1) 0) .non] ::
                            rest)
                        toks (82 :: 1000023 :: tys))))
                  Tr.fail)
                Tr.fail)
              Tr.fail)
            Tr.fail)
          Tr.fail)
        Tr.fail)
      Tr.fail)
    Tr.fail)
  (Tr.ret (LR.out (.exit 0) [] (Store.mk (l :: l2 :: rest) toks (82 :: 1000023 :: tys))))
theorem swp1_T (data : Nat) (data2 : Nat) (a : Int) (b : Int) (n : Int) (i : Int) (l : List PV) (l2 : List PV) (rest : List (List PV)) (toks : List (Nat × Nat × TypeId)) (tys : List TypeId) : lstep tbT G_swp LI_swp1 c_swp1 I_swp1 [.osl 1 data data2 1, .int .i64 a, .int .i64 b, .int .i64 n, .int .i64 i] ⟨(l :: l2 :: rest), (toks), (82 :: 1000023 :: tys)⟩ = swp1_Tr data data2 a b n i l l2 rest toks tys := by kernel_rfl
theorem swp1_E (data : Nat) (data2 : Nat) (a : Int) (b : Int) (n : Int) (i : Int) (l : List PV) (l2 : List PV) (rest : List (List PV)) (toks : List (Nat × Nat × TypeId)) (tys : List TypeId) : swp1_V [.osl 1 data data2 1, .int .i64 a, .int .i64 b, .int .i64 n, .int .i64 i] ⟨(l :: l2 :: rest), (toks), (82 :: 1000023 :: tys)⟩ = lnext swp1_V (swp1_Tr data data2 a b n i l l2 rest toks tys).run := by unfold swp1_V; rw [lval_eq, swp1_T]
noncomputable def swp1_W (data : Nat) (data2 : Nat) (a : Int) (b : Int) (n : Int) (i : Int) (l : List PV) (l2 : List PV) (rest : List (List PV)) (toks : List (Nat × Nat × TypeId)) (tys : List TypeId) : Option (PExit × List PV × Store) := swp1_V [.osl 1 data data2 1, .int .i64 a, .int .i64 b, .int .i64 n, .int .i64 i] ⟨(l :: l2 :: rest), (toks), (82 :: 1000023 :: tys)⟩
noncomputable def swp1_l2 (data : Nat) (data2 : Nat) (a : Int) (b : Int) (n : Int) (i : Int) (l : List PV) (l2 : List PV) (rest : List (List PV)) (toks : List (Nat × Nat × TypeId)) (tys : List TypeId) : List PV := (gObj (swp1_W data data2 a b n i l l2 rest toks tys) 1)
noncomputable def swp1_is0 (data : Nat) (data2 : Nat) (a : Int) (b : Int) (n : Int) (i : Int) (l : List PV) (l2 : List PV) (rest : List (List PV)) (toks : List (Nat × Nat × TypeId)) (tys : List TypeId) : Bool := isW (swp1_W data data2 a b n i l l2 rest toks tys) ((.exit 0), [], ⟨(l :: (swp1_l2 data data2 a b n i l l2 rest toks tys) :: rest), (toks), (82 :: 1000023 :: tys)⟩)
noncomputable def swp1_prop : List PV → Store → Tr (PExit × List PV × Store) | [.osl 1 data data2 1, .int .i64 a, .int .i64 b, .int .i64 n, .int .i64 i], ⟨(l :: l2 :: rest), (toks), (82 :: 1000023 :: tys)⟩ => .ite (swp1_is0 data data2 a b n i l l2 rest toks tys) (.ret ((.exit 0), [], ⟨(l :: (swp1_l2 data data2 a b n i l l2 rest toks tys) :: rest), (toks), (82 :: 1000023 :: tys)⟩)) (.fail) | _, _ => .fail
theorem swp1_ok : ∀ vs σ r, (swp1_prop vs σ).run = some r → swp1_V vs σ = some r := by
  intro vs σ r h
  unfold swp1_prop at h
  split at h
  · exact ite_isW h fun h => by cases h
  · cases h
theorem loop_swp1 (gl : Nat → Option Obj) : ∀ fr σ e fr' σ', (orc I_swp1 swp1_prop fr σ).run = some (e, fr', σ') → LDoes Tryd.prog gl c_swp1 fr σ e fr' σ' := orc_ok tbT_ok (gok_swp gl ) noMixed (L := LI_swp1) (loopOk_none (by kernel_rfl)) (by kernel_rfl) swp1_ok
noncomputable def L_swp : LpsT := fun r fr σ => bif Nat.beq r 1 then orc I_swp1 swp1_prop fr σ else .fail
noncomputable def swp_Tr (off : Nat) (len : Nat) (a : Int) (b : Int) (n : Int) (c0 : List PV) (cs : List PV) (rest : List (List PV)) (toks : List (Nat × Nat × TypeId)) (tys : List TypeId) : Tr (PV × Store) := Tr.ite (swp1_is0 off len a b n 0 c0 cs rest toks tys) (Tr.ret (PV.tup [], Store.mk (c0 :: swp1_l2 off len a b n 0 c0 cs rest toks tys :: rest) toks (82 :: 1000023 :: tys))) Tr.fail
theorem swp_T (off : Nat) (len : Nat) (a : Int) (b : Int) (n : Int) (c0 : List PV) (cs : List PV) (rest : List (List PV)) (toks : List (Nat × Nat × TypeId)) (tys : List TypeId) : (tcallS tbT G_swp L_swp Tryd.f144 [.osl 1 off len 1, .int .i64 a, .int .i64 b, .int .i64 n, .fn 16 []] ⟨c0 :: cs :: rest, toks, 82 :: 1000023 :: tys⟩).flat = swp_Tr off len a b n c0 cs rest toks tys := by kernel_rfl
noncomputable def swp_W (off : Nat) (len : Nat) (a : Int) (b : Int) (n : Int) (c0 : List PV) (cs : List PV) (rest : List (List PV)) (toks : List (Nat × Nat × TypeId)) (tys : List TypeId) : Option (PV × Store) := (swp_Tr off len a b n c0 cs rest toks tys).run
noncomputable def swp_l2 (off : Nat) (len : Nat) (a : Int) (b : Int) (n : Int) (c0 : List PV) (cs : List PV) (rest : List (List PV)) (toks : List (Nat × Nat × TypeId)) (tys : List TypeId) : List PV := (gObj (asOut (swp_W off len a b n c0 cs rest toks tys)) 1)
noncomputable def swp_is0 (off : Nat) (len : Nat) (a : Int) (b : Int) (n : Int) (c0 : List PV) (cs : List PV) (rest : List (List PV)) (toks : List (Nat × Nat × TypeId)) (tys : List TypeId) : Bool := isW (swp_W off len a b n c0 cs rest toks tys) (.tup [], ⟨(c0 :: (swp_l2 off len a b n c0 cs rest toks tys) :: rest), (toks), (82 :: 1000023 :: tys)⟩)
noncomputable def D_swp : List PV → Store → Tr (PV × Store) | [.osl 1 off len 1, .int .i64 a, .int .i64 b, .int .i64 n, .fn 16 []], ⟨c0 :: cs :: rest, toks, 82 :: 1000023 :: tys⟩ => .ite (swp_is0 off len a b n c0 cs rest toks tys) (.ret (.tup [], ⟨(c0 :: (swp_l2 off len a b n c0 cs rest toks tys) :: rest), (toks), (82 :: 1000023 :: tys)⟩)) (.fail) | _, _ => .fail
theorem sim_swp (gl : Nat → Option Obj) : SimS Tryd.prog gl 144 fun args σ => (D_swp args σ).run := by
  refine SimS.of_flat (G := G_swp) (L := L_swp) tbT_ok (gok_swp gl ) noMixed Tryd.func144 rfl (by rfl) (by kernel_rfl) (loopOk_all (L := lps L_swp) [(1, c_swp1)] (by kernel_rfl) (List.forall_mem_cons.2 ⟨fun fr σ e fr' σ' h => loop_swp1 gl  fr σ e fr' σ' h, (List.forall_mem_nil _)⟩)) ?_
  intro args σ x h
  unfold D_swp at h
  split at h
  · exact (congrArg Tr.run (swp_T _ _ _ _ _ _ _ _ _ _)).trans (ite_isW h fun h => by cases h)
  · cases h
noncomputable def G_rot : GamT := ofL [(16, .pure F_TCmp), (144, .store D_swp)]
theorem gok_rot (gl : Nat → Option Obj) : GamOk Tryd.prog gl (gam G_rot) := (gamOk_cons (sim_TCmp gl) (gamOk_store (sim_swp gl) gamOk_nil))
noncomputable def c_rot1 : Code := loopC Tryd.f133 2
def I_rot1 : LI := ⟨58, [0, 2, 4, 10, 11], fun e => match e with | .exit 0 => [0, 2, 4, 10] | _ => [], false⟩
noncomputable def LI_rot1 : LpsT := fun r fr σ => .fail
noncomputable def rot1_V (vs : List PV) (σ : Store) : Option (PExit × List PV × Store) := lval (lstep tbT G_rot LI_rot1 c_rot1 I_rot1) vs σ
noncomputable def rot1_Tr (data : Nat) (data2 : Nat) (m : Int) (i : Int) (j : Int) (l : List PV) (l2 : List PV) (rest : List (List PV)) (toks : List (Nat × Nat × TypeId)) (tys : List TypeId) : Tr LR := Tr.ite (iNe i j)
  (Tr.ite (iLt j i)
    (Tr.ite (swp_is0 data data2 (iSub .i64 m i) m j l l2 rest toks tys)
      (Tr.ret
        (LR.next [PV.osl 1 data data2 1, PV.int .i64 m, PV.fn 16 [], PV.int .i64 (iSub .i64 i j), PV.int .i64 j]
          (Store.mk (l :: swp_l2 data data2 (iSub .i64 m i) m j l l2 rest toks tys :: rest) toks (82 :: 1000023 :: tys))))
      Tr.fail)
    (Tr.ite (swp_is0 data data2 (iSub .i64 m i) (iSub .i64 (iAdd .i64 m j) i) i l l2 rest toks tys)
      (Tr.ret
        (LR.next [PV.osl 1 data data2 1, PV.int .i64 m, PV.fn 16 [], PV.int .i64 i, PV.int .i64 (iSub .i64 j i)]
          (Store.mk (l :: swp_l2 data data2 (iSub .i64 m i) (iSub .i64 (iAdd .i64 m j) i) i l l2 rest toks tys :: rest) toks (82 :: 1000023 :: tys))))
      Tr.fail))
  (Tr.ret (LR.out (.exit 0) [PV.osl 1 data data2 1, PV.int .i64 m, PV.fn 16 [], PV.int .i64 i] (Store.mk (l :: l2 :: rest) toks (82 :: 1000023 :: tys))))
theorem rot1_T (data : Nat) (data2 : Nat) (m : Int) (i : Int) (j : Int) (l : List PV) (l2 : List PV) (rest : List (List PV)) (toks : List (Nat × Nat × TypeId)) (tys : List TypeId) : lstep tbT G_rot LI_rot1 c_rot1 I_rot1 [.osl 1 data data2 1, .int .i64 m, .fn 16 [], .int .i64 i, .int .i64 j] ⟨(l :: l2 :: rest), (toks), (82 :: 1000023 :: tys)⟩ = rot1_Tr data data2 m i j l l2 rest toks tys := by kernel_rfl
theorem rot1_E (data : Nat) (data2 : Nat) (m : Int) (i : Int) (j : Int) (l : List PV) (l2 : List PV) (rest : List (List PV)) (toks : List (Nat × Nat × TypeId)) (tys : List TypeId) : rot1_V [.osl 1 data data2 1, .int .i64 m, .fn 16 [], .int .i64 i, .int .i64 j] ⟨(l :: l2 :: rest), (toks), (82 :: 1000023 :: tys)⟩ = lnext rot1_V (rot1_Tr data data2 m i j l l2 rest toks tys).run := by unfold rot1_V; rw [lval_eq, rot1_T]
noncomputable def rot1_W (data : Nat) (data2 : Nat) (m : Int) (i : Int) (j : Int) (l : List PV) (l2 : List PV) (rest : List (List PV)) (toks : List (Nat × Nat × TypeId)) (tys : List TypeId) : Option (PExit × List PV × Store) := rot1_V [.osl 1 data data2 1, .int .i64 m, .fn 16 [], .int .i64 i, .int .i64 j] ⟨(l :: l2 :: rest), (toks), (82 :: 1000023 :: tys)⟩
noncomputable def rot1_i (data : Nat) (data2 : Nat) (m : Int) (i : Int) (j : Int) (l : List PV) (l2 : List PV) (rest : List (List PV)) (toks : List (Nat × Nat × TypeId)) (tys : List TypeId) : Int := (gInt (gOut (rot1_W data data2 m i j l l2 rest toks tys) 3))
noncomputable def rot1_l2 (data : Nat) (data2 : Nat) (m : Int) (i : Int) (j : Int) (l : List PV) (l2 : List PV) (rest : List (List PV)) (toks : List (Nat × Nat × TypeId)) (tys : List TypeId) : List PV := (gObj (rot1_W data data2 m i j l l2 rest toks tys) 1)
noncomputable def rot1_is0 (data : Nat) (data2 : Nat) (m : Int) (i : Int) (j : Int) (l : List PV) (l2 : List PV) (rest : List (List PV)) (toks : List (Nat × Nat × TypeId)) (tys : List TypeId) : Bool := isW (rot1_W data data2 m i j l l2 rest toks tys) ((.exit 0), [.osl 1 data data2 1, .int .i64 m, .fn 16 [], .int .i64 (rot1_i data data2 m i j l l2 rest toks tys)], ⟨(l :: (rot1_l2 data data2 m i j l l2 rest toks tys) :: rest), (toks), (82 :: 1000023 :: tys)⟩)
noncomputable def rot1_prop : List PV → Store → Tr (PExit × List PV × Store) | [.osl 1 data data2 1, .int .i64 m, .fn 16 [], .int .i64 i, .int .i64 j], ⟨(l :: l2 :: rest), (toks), (82 :: 1000023 :: tys)⟩ => .ite (rot1_is0 data data2 m i j l l2 rest toks tys) (.ret ((.exit 0), [.osl 1 data data2 1, .int .i64 m, .fn 16 [], .int .i64 (rot1_i data data2 m i j l l2 rest toks tys)], ⟨(l :: (rot1_l2 data data2 m i j l l2 rest toks tys) :: rest), (toks), (82 :: 1000023 :: tys)⟩)) (.fail) | _, _ => .fail
theorem rot1_ok : ∀ vs σ r, (rot1_prop vs σ).run = some r → rot1_V vs σ = some r := by
  intro vs σ r h
  unfold rot1_prop at h
  split at h
  · exact ite_isW h fun h => by cases h
  · cases h
theorem loop_rot1 (gl : Nat → Option Obj) : ∀ fr σ e fr' σ', (orc I_rot1 rot1_prop fr σ).run = some (e, fr', σ') → LDoes Tryd.prog gl c_rot1 fr σ e fr' σ' := orc_ok tbT_ok (gok_rot gl ) noMixed (L := LI_rot1) (loopOk_none (by kernel_rfl)) (by kernel_rfl) rot1_ok
noncomputable def L_rot : LpsT := fun r fr σ => bif Nat.beq r 2 then orc I_rot1 rot1_prop fr σ else .fail
noncomputable def rot_Tr (off : Nat) (len : Nat) (a : Int) (m : Int) (b : Int) (c0 : List PV) (cs : List PV) (rest : List (List PV)) (toks : List (Nat × Nat × TypeId)) (tys : List TypeId) : Tr (PV × Store) := Tr.ite (rot1_is0 off len m (iSub .i64 m a) (iSub .i64 b m) c0 cs rest toks tys)
  (Tr.ite
    (swp_is0 off len (iSub .i64 m (rot1_i off len m (iSub .i64 m a) (iSub .i64 b m) c0 cs rest toks tys)) m
      (rot1_i off len m (iSub .i64 m a) (iSub .i64 b m) c0 cs rest toks tys) c0 (rot1_l2 off len m (iSub .i64 m a) (iSub .i64 b m) c0 cs rest toks tys)
      rest toks tys)
    (Tr.ret
      (PV.tup [],
        Store.mk
          (c0 ::
            swp_l2 off len (iSub .i64 m (rot1_i off len m (iSub .i64 m a) (iSub .i64 b m) c0 cs rest toks tys)) m
                (rot1_i off len m (iSub .i64 m a) (iSub .i64 b m) c0 cs rest toks tys) c0
                (rot1_l2 off len m (iSub .i64 m a) (iSub .i64 b m) c0 cs rest toks tys) rest toks tys ::
              rest)
          toks (82 :: 1000023 :: tys)))
    Tr.fail)
  Tr.fail
theorem rot_T (off : Nat) (len : Nat) (a : Int) (m : Int) (b : Int) (c0 : List PV) (cs : List PV) (rest : List (List PV)) (toks : List (Nat × Nat × TypeId)) (tys : List TypeId) : (tcallS tbT G_rot L_rot Tryd.f133 [.osl 1 off len 1, .int .i64 a, .int .i64 m, .int .i64 b, .fn 16 []] ⟨c0 :: cs :: rest, toks, 82 :: 1000023 :: tys⟩).flat = rot_Tr off len a m b c0 cs rest toks tys := by kernel_rfl
noncomputable def rot_W (off : Nat) (len : Nat) (a : Int) (m : Int) (b : Int) (c0 : List PV) (cs : List PV) (rest : List (List PV)) (toks : List (Nat × Nat × TypeId)) (tys : List TypeId) : Option (PV × Store) := (rot_Tr off len a m b c0 cs rest toks tys).run
noncomputable def rot_l2 (off : Nat) (len : Nat) (a : Int) (m : Int) (b : Int) (c0 : List PV) (cs : List PV) (rest : List (List PV)) (toks : List (Nat × Nat × TypeId)) (tys : List TypeId) : List PV := (gObj (asOut (rot_W off len a m b c0 cs rest toks tys)) 1)
noncomputable def rot_is0 (off : Nat) (len : Nat) (a : Int) (m : Int) (b : Int) (c0 : List PV) (cs : List PV) (rest : List (List PV)) (toks : List (Nat × Nat × TypeId)) (tys : List TypeId) : Bool := isW (rot_W off len a m b c0 cs rest toks tys) (.tup [], ⟨(c0 :: (rot_l2 off len a m b c0 cs rest toks tys) :: rest), (toks), (82 :: 1000023 :: tys)⟩)
noncomputable def D_rot : List PV → Store → Tr (PV × Store) | [.osl 1 off len 1, .int .i64 a, .int .i64 m, .int .i64 b, .fn 16 []], ⟨c0 :: cs :: rest, toks, 82 :: 1000023 :: tys⟩ => .ite (rot_is0 off len a m b c0 cs rest toks tys) (.ret (.tup [], ⟨(c0 :: (rot_l2 off len a m b c0 cs rest toks tys) :: rest), (toks), (82 :: 1000023 :: tys)⟩)) (.fail) | _, _ => .fail
theorem sim_rot (gl : Nat → Option Obj) : SimS Tryd.prog gl 133 fun args σ => (D_rot args σ).run := by
  refine SimS.of_flat (G := G_rot) (L := L_rot) tbT_ok (gok_rot gl ) noMixed Tryd.func133 rfl (by rfl) (by kernel_rfl) (loopOk_all (L := lps L_rot) [(2, c_rot1)] (by kernel_rfl) (List.forall_mem_cons.2 ⟨fun fr σ e fr' σ' h => loop_rot1 gl  fr σ e fr' σ' h, (List.forall_mem_nil _)⟩)) ?_
  intro args σ x h
  unfold D_rot at h
  split at h
  · exact (congrArg Tr.run (rot_T _ _ _ _ _ _ _ _ _ _)).trans (ite_isW h fun h => by cases h)
  · cases h
end Go.Pv

set_option maxHeartbeats 4000000
set_option maxRecDepth 200000
/-! A contract that may be called in a function's own body: what it gives is a parameter. -/
namespace Go.Pv
open Go Go.Proofs
/-- What the function gives where it calls itself. -/
class RecW where
  W : Nat → Nat → Int → Int → Int → List PV → List PV → List (List PV) → List (Nat × Nat × TypeId) → List TypeId → Option (PV × Store)
section
variable [RecW]
noncomputable def rec_l (off len : Nat) (a m b : Int) (c0 cs : List PV) (rest : List (List PV)) (toks : List (Nat × Nat × TypeId)) (tys : List TypeId) : List PV := gObj (asOut (RecW.W off len a m b c0 cs rest toks tys)) 1
noncomputable def rec_is0 (off len : Nat) (a m b : Int) (c0 cs : List PV) (rest : List (List PV)) (toks : List (Nat × Nat × TypeId)) (tys : List TypeId) : Bool :=
  isW (RecW.W off len a m b c0 cs rest toks tys) (.tup [], ⟨c0 :: (rec_l off len a m b c0 cs rest toks tys) :: rest, toks, 82 :: 1000023 :: tys⟩)
noncomputable def D_rec : List PV → Store → Tr (PV × Store)
  | [.osl 1 off len 1, .int .i64 a, .int .i64 m, .int .i64 b, .fn 16 []], ⟨c0 :: cs :: rest, toks, 82 :: 1000023 :: tys⟩ => .ite (rec_is0 off len a m b c0 cs rest toks tys) (.ret (.tup [], ⟨c0 :: (rec_l off len a m b c0 cs rest toks tys) :: rest, toks, 82 :: 1000023 :: tys⟩)) .fail
  | _, _ => .fail
end
end Go.Pv
