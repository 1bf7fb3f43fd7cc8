import Derived.Test.YtdfahkeodlfopaaDoorPvU6
import Derived.Test.YtdfahkeodlfopaaDoorPvXc
set_option maxHeartbeats 4000000
set_option maxRecDepth 200000
set_option linter.unusedSimpArgs false
set_option linter.unusedVariables false
namespace Go.Pv
open Go Go.Proofs
noncomputable def G_few : GamT := ofL []
theorem gok_few (gl : Nat → Option Obj) : GamOk Tryd.prog gl (gam G_few) := gamOk_nil
noncomputable def c_few1 : Code := loopC Tryd.f24 3
def I_few1 : LI := ⟨30, [0, 3, 4], fun e => match e with | .exit 0 => [3] | _ => []⟩
noncomputable def LI_few1 : LpsT := fun r fr σ => .fail
noncomputable def few1_V (vs : List PV) (σ : Store) : Option (PExit × List PV × Store) := lval (lstep tbT G_few LI_few1 c_few1 I_few1) vs σ
noncomputable def few1_Tr (l : List (List PV)) (out : List (List PV)) (i : Int) : Tr LR := Tr.ite (iLt i (xLen l))
  (Tr.ite (iLt (xLen out) 60)
    (Tr.ite (okPos i)
      (Tr.ite (okGet [PV.sl [] .full] l (nNat i))
        (Tr.ite (iLe (xLen (xRow l (nNat i) 0)) 20)
          (Tr.ite (okPos i)
            (Tr.ite (okGet [PV.sl [] .full] l (nNat i))
              (Tr.ite (okGrow out [[PV.sl (xRow l (nNat i) 0) .non]] 24)
                (Tr.ite (okNews [[PV.sl (xRow l (nNat i) 0) .non]] 1)
                  (Tr.ite (okSize out 1)
                    (Tr.ret
                      (LR.next [PV.sl l .non, PV.sl (xApp out [[PV.sl (xRow l (nNat i) 0) .non]]) (.tok 0), PV.int .i64 (iAdd .i64 i 1)]
                        (Store.mk [] [(nXs (xApp out [[PV.sl (xRow l (nNat i) 0) .non]]), 1, 23)] [])))
                    Tr.fail)
                  Tr.fail)
                Tr.fail)
              Tr.fail)
            Tr.fail)
          (Tr.ret (LR.next [PV.sl l .non, PV.sl out .full, PV.int .i64 (iAdd .i64 i 1)] (Store.mk [] [] []))))
        Tr.fail)
      Tr.fail)
    (Tr.ret (LR.out (.exit 0) [PV.sl out .full] (Store.mk [] [] []))))
  (Tr.ret (LR.out (.exit 0) [PV.sl out .full] (Store.mk [] [] [])))
theorem few1_T (l : List (List PV)) (out : List (List PV)) (i : Int) : lstep tbT G_few LI_few1 c_few1 I_few1 [.sl l .non, .sl out .full, .int .i64 i] ⟨[], [], []⟩ = few1_Tr l out i := by kernel_rfl
theorem few1_E (l : List (List PV)) (out : List (List PV)) (i : Int) : few1_V [.sl l .non, .sl out .full, .int .i64 i] ⟨[], [], []⟩ = lnext few1_V (few1_Tr l out i).run := by unfold few1_V; rw [lval_eq, few1_T]
noncomputable def few1_Tr1 (l : List (List PV)) (out : List (List PV)) (i : Int) (k : Nat) : Tr LR := Tr.ite (iLt i (xLen l))
  (Tr.ite (iLt (xLen out) 60)
    (Tr.ite (okPos i)
      (Tr.ite (okGet [PV.sl [] .full] l (nNat i))
        (Tr.ite (iLe (xLen (xRow l (nNat i) 0)) 20)
          (Tr.ite (okPos i)
            (Tr.ite (okGet [PV.sl [] .full] l (nNat i))
              (Tr.ite (okGrow out [[PV.sl (xRow l (nNat i) 0) .non]] 24)
                (Tr.ite (okNews [[PV.sl (xRow l (nNat i) 0) .non]] 1)
                  (Tr.ite (okSize out 1)
                    (Tr.ite (nEq k (nXs out))
                      (Tr.ret
                        (LR.next [PV.sl l .non, PV.sl (xApp out [[PV.sl (xRow l (nNat i) 0) .non]]) (.tok 0), PV.int .i64 (iAdd .i64 i 1)]
                          (Store.mk [] [(nXs (xApp out [[PV.sl (xRow l (nNat i) 0) .non]]), 1, 23)] [])))
                      Tr.fail)
                    Tr.fail)
                  Tr.fail)
                Tr.fail)
              Tr.fail)
            Tr.fail)
          (Tr.ret (LR.next [PV.sl l .non, PV.sl out (.tok 0), PV.int .i64 (iAdd .i64 i 1)] (Store.mk [] [(k, 1, 23)] []))))
        Tr.fail)
      Tr.fail)
    (Tr.ret (LR.out (.exit 0) [PV.sl out (.tok 0)] (Store.mk [] [(k, 1, 23)] []))))
  (Tr.ret (LR.out (.exit 0) [PV.sl out (.tok 0)] (Store.mk [] [(k, 1, 23)] [])))
theorem few1_T1 (l : List (List PV)) (out : List (List PV)) (i : Int) (k : Nat) : lstep tbT G_few LI_few1 c_few1 I_few1 [.sl l .non, .sl out (.tok 0), .int .i64 i] ⟨[], [(k, 1, 23)], []⟩ = few1_Tr1 l out i k := by kernel_rfl
theorem few1_E1 (l : List (List PV)) (out : List (List PV)) (i : Int) (k : Nat) : few1_V [.sl l .non, .sl out (.tok 0), .int .i64 i] ⟨[], [(k, 1, 23)], []⟩ = lnext few1_V (few1_Tr1 l out i k).run := by unfold few1_V; rw [lval_eq, few1_T1]
noncomputable def few1_W (l : List (List PV)) (out : List (List PV)) (i : Int) : Option (PExit × List PV × Store) := few1_V [.sl l .non, .sl out .full, .int .i64 i] ⟨[], [], []⟩
noncomputable def few1_out_0 (l : List (List PV)) (out : List (List PV)) (i : Int) : List (List PV) := (gRow (gOut (few1_W l out i) 0))
noncomputable def few1_is0 (l : List (List PV)) (out : List (List PV)) (i : Int) : Bool := isW (few1_W l out i) ((.exit 0), [.sl (few1_out_0 l out i) .full], ⟨[], [], []⟩)
noncomputable def few1_out_1 (l : List (List PV)) (out : List (List PV)) (i : Int) : List (List PV) := (gRow (gOut (few1_W l out i) 0))
noncomputable def few1_k_1 (l : List (List PV)) (out : List (List PV)) (i : Int) : Nat := (gTok (few1_W l out i) 0)
noncomputable def few1_is1 (l : List (List PV)) (out : List (List PV)) (i : Int) : Bool := isW (few1_W l out i) ((.exit 0), [.sl (few1_out_1 l out i) (.tok 0)], ⟨[], [((few1_k_1 l out i), 1, 23)], []⟩)
noncomputable def few1_prop : List PV → Store → Tr (PExit × List PV × Store) | [.sl l .non, .sl out .full, .int .i64 i], ⟨[], [], []⟩ => .ite (few1_is0 l out i) (.ret ((.exit 0), [.sl (few1_out_0 l out i) .full], ⟨[], [], []⟩)) (.ite (few1_is1 l out i) (.ret ((.exit 0), [.sl (few1_out_1 l out i) (.tok 0)], ⟨[], [((few1_k_1 l out i), 1, 23)], []⟩)) (.fail)) | _, _ => .fail
theorem few1_ok : ∀ vs σ r, (few1_prop vs σ).run = some r → few1_V vs σ = some r := by
  intro vs σ r h
  unfold few1_prop at h
  split at h
  · exact ite_isW h fun h => ite_isW h fun h => by cases h
  · cases h
theorem loop_few1 (gl : Nat → Option Obj) : ∀ fr σ e fr' σ', (orc I_few1 few1_prop fr σ).run = some (e, fr', σ') → LDoes Tryd.prog gl c_few1 fr σ e fr' σ' := orc_ok tbT_ok (gok_few gl ) noMixed (L := LI_few1) (loopOk_none (by kernel_rfl)) (by kernel_rfl) few1_ok
noncomputable def L_few : LpsT := fun r fr σ => bif Nat.beq r 3 then orc I_few1 few1_prop fr σ else .fail
noncomputable def few_Tr (l : List (List PV)) : Tr PV := Tr.ite (few1_is0 l [] 0) (Tr.ret (PV.sl (shutLL (few1_out_0 l [] 0)) .non)) (Tr.ite (few1_is1 l [] 0) (Tr.ret (PV.sl (shutLL (few1_out_1 l [] 0)) .non)) Tr.fail)
theorem few_T (l : List (List PV)) : (tcall tbT G_few L_few Tryd.f24 [.sl l .non]).flat = few_Tr l := by kernel_rfl
noncomputable def few_W (l : List (List PV)) : Option PV := (few_Tr l).run
noncomputable def few_r (l : List (List PV)) : List (List PV) := (gRow (gVal (few_W l)))
noncomputable def few_is0 (l : List (List PV)) : Bool := isW (few_W l) (.sl (few_r l) .non)
noncomputable def F_few : List PV → Tr PV | [.sl l .non] => .ite (few_is0 l) (.ret (.sl (few_r l) .non)) (.fail) | _ => .fail
theorem sim_few (gl : Nat → Option Obj) : SimP Tryd.prog gl 24 fun args => (F_few args).run := by
  refine SimP.of_flat (G := G_few) (L := L_few) tbT_ok (gok_few gl ) noMixed Tryd.func24 rfl (by rfl) (by kernel_rfl) (loopOk_all (L := lps L_few) [(3, c_few1)] (by kernel_rfl) (List.forall_mem_cons.2 ⟨fun fr σ e fr' σ' h => loop_few1 gl  fr σ e fr' σ' h, (List.forall_mem_nil _)⟩)) ?_
  intro args x h
  unfold F_few at h
  split at h
  · exact (congrArg Tr.run (few_T _)).trans (ite_isW h fun h => by cases h)
  · cases h
noncomputable def G_winc : GamT := ofL []
theorem gok_winc (gl : Nat → Option Obj) : GamOk Tryd.prog gl (gam G_winc) := gamOk_nil
noncomputable def L_winc : LpsT := fun r fr σ => .fail
noncomputable def winc_Tr (n : Int) (t : List (List PV)) : Tr PV := Tr.ite (okSub true (okPos (imin n (xLen t))) 0 (nNat (imin n (xLen t))) (nXs t)) (Tr.ite (okSize t 3) (Tr.ret (PV.sl (shutLL (xSub t 0 (nNat (imin n (xLen t))))) .non)) Tr.fail)
  Tr.fail
theorem winc_T (n : Int) (t : List (List PV)) : (tcall tbT G_winc L_winc Tryd.f60 [.int .i64 n, .ref [.sl t .non]]).flat = winc_Tr n t := by kernel_rfl
noncomputable def F_winc : List PV → Tr PV | [.int .i64 n, .ref [.sl t .non]] => winc_Tr n t | _ => .fail
theorem sim_winc (gl : Nat → Option Obj) : SimP Tryd.prog gl 60 fun args => (F_winc args).run := by
  refine SimP.of_flat (G := G_winc) (L := L_winc) tbT_ok (gok_winc gl ) noMixed Tryd.func60 rfl (by rfl) (by kernel_rfl) (loopOk_none (by kernel_rfl)) ?_
  intro args x h
  unfold F_winc at h
  split at h
  · exact (congrArg Tr.run (winc_T _ _)).trans h
  · cases h
noncomputable def G_TWithin : GamT := ofL [(16, .pure F_TCmp), (60, .pure F_winc)]
theorem gok_TWithin (gl : Nat → Option Obj) : GamOk Tryd.prog gl (gam G_TWithin) := (gamOk_cons (sim_TCmp gl) (gamOk_cons (sim_winc gl) gamOk_nil))
noncomputable def L_TWithin : LpsT := fun r fr σ => .fail
noncomputable def TWithin_Tr (low : List (List PV)) (t : List (List PV)) (high : List (List PV)) : Tr PV := Tr.ite (okSub true (okPos (imin (xLen low) (xLen (lockLL t)))) 0 (nNat (imin (xLen low) (xLen (lockLL t)))) (nXs (lockLL t)))
  (Tr.ite (okSize (lockLL t) 3)
    (Tr.ite (okR cV (lockLL (lockLL (shutLL (xSub (lockLL t) 0 (nNat (imin (xLen low) (xLen (lockLL t)))))))))
      (Tr.ite (okR cV (lockLL (lockLL low)))
        (Tr.ite (iLe 0 (cmpTV (lockLL (lockLL (shutLL (xSub (lockLL t) 0 (nNat (imin (xLen low) (xLen (lockLL t)))))))) (lockLL (lockLL low))))
          (Tr.ite (okSub true (okPos (imin (xLen high) (xLen (lockLL t)))) 0 (nNat (imin (xLen high) (xLen (lockLL t)))) (nXs (lockLL t)))
            (Tr.ite (okSize (lockLL t) 3)
              (Tr.ite (okR cV (lockLL (lockLL (shutLL (xSub (lockLL t) 0 (nNat (imin (xLen high) (xLen (lockLL t)))))))))
                (Tr.ite (okR cV (lockLL (lockLL high)))
                  (Tr.ret (PV.bool (iLe (cmpTV (lockLL (lockLL (shutLL (xSub (lockLL t) 0 (nNat (imin (xLen high) (xLen (lockLL t)))))))) (lockLL (lockLL high))) 0))) Tr.fail)
                Tr.fail)
              Tr.fail)
            Tr.fail)
          (Tr.ret (PV.bool false)))
        Tr.fail)
      Tr.fail)
    Tr.fail)
  Tr.fail
theorem TWithin_T (low : List (List PV)) (t : List (List PV)) (high : List (List PV)) : (tcall tbT G_TWithin L_TWithin Tryd.f21 [.sl low .non, .sl t .non, .sl high .non]).flat = TWithin_Tr low t high := by kernel_rfl
noncomputable def F_TWithin : List PV → Tr PV | [.sl low .non, .sl t .non, .sl high .non] => TWithin_Tr low t high | _ => .fail
theorem sim_TWithin (gl : Nat → Option Obj) : SimP Tryd.prog gl 21 fun args => (F_TWithin args).run := by
  refine SimP.of_flat (G := G_TWithin) (L := L_TWithin) tbT_ok (gok_TWithin gl ) noMixed Tryd.func21 rfl (by rfl) (by kernel_rfl) (loopOk_none (by kernel_rfl)) ?_
  intro args x h
  unfold F_TWithin at h
  split at h
  · exact (congrArg Tr.run (TWithin_T _ _ _)).trans h
  · cases h
noncomputable def G_RWithin : GamT := ofL [(39, .pure F_CmpR)]
theorem gok_RWithin (gl : Nat → Option Obj) : GamOk Tryd.prog gl (gam G_RWithin) := (gamOk_cons (sim_CmpR gl) gamOk_nil)
noncomputable def L_RWithin : LpsT := fun r fr σ => .fail
noncomputable def RWithin_Tr (low : List (List PV)) (t : List (List PV)) (high : List (List PV)) : Tr PV := Tr.ite (okSub true (okPos (imin (xLen t) (xLen low))) 0 (nNat (imin (xLen t) (xLen low))) (nXs t))
  (Tr.ite (okSize t 3)
    (Tr.ite (okR cV (lockLL (xSub t 0 (nNat (imin (xLen t) (xLen low))))))
      (Tr.ite (okR cV (lockLL low))
        (Tr.ite (iLe 0 (cmpTR (lockLL (xSub t 0 (nNat (imin (xLen t) (xLen low))))) (lockLL low)))
          (Tr.ite (okSub true (okPos (imin (xLen t) (xLen high))) 0 (nNat (imin (xLen t) (xLen high))) (nXs t))
            (Tr.ite (okSize t 3)
              (Tr.ite (okR cV (lockLL (xSub t 0 (nNat (imin (xLen t) (xLen high))))))
                (Tr.ite (okR cV (lockLL high)) (Tr.ret (PV.bool (iLe (cmpTR (lockLL (xSub t 0 (nNat (imin (xLen t) (xLen high))))) (lockLL high)) 0))) Tr.fail) Tr.fail)
              Tr.fail)
            Tr.fail)
          (Tr.ret (PV.bool false)))
        Tr.fail)
      Tr.fail)
    Tr.fail)
  Tr.fail
theorem RWithin_T (low : List (List PV)) (t : List (List PV)) (high : List (List PV)) : (tcall tbT G_RWithin L_RWithin Tryd.f22 [.sl low .non, .sl t .non, .sl high .non]).flat = RWithin_Tr low t high := by kernel_rfl
noncomputable def F_RWithin : List PV → Tr PV | [.sl low .non, .sl t .non, .sl high .non] => RWithin_Tr low t high | _ => .fail
theorem sim_RWithin (gl : Nat → Option Obj) : SimP Tryd.prog gl 22 fun args => (F_RWithin args).run := by
  refine SimP.of_flat (G := G_RWithin) (L := L_RWithin) tbT_ok (gok_RWithin gl ) noMixed Tryd.func22 rfl (by rfl) (by kernel_rfl) (loopOk_none (by kernel_rfl)) ?_
  intro args x h
  unfold F_RWithin at h
  split at h
  · exact (congrArg Tr.run (RWithin_T _ _ _)).trans h
  · cases h
noncomputable def G_SameRel : GamT := ofL [(17, .pure F_Same)]
theorem gok_SameRel (gl : Nat → Option Obj) : GamOk Tryd.prog gl (gam G_SameRel) := (gamOk_cons (sim_Same gl) gamOk_nil)
noncomputable def c_SameRel1 : Code := loopC Tryd.f31 4
def I_SameRel1 : LI := ⟨27, [0, 1, 5], fun e => match e with | .ret => [4] | .exit 0 => [] | _ => []⟩
noncomputable def LI_SameRel1 : LpsT := fun r fr σ => .fail
noncomputable def SameRel1_V (vs : List PV) (σ : Store) : Option (PExit × List PV × Store) := lval (lstep tbT G_SameRel LI_SameRel1 c_SameRel1 I_SameRel1) vs σ
noncomputable def SameRel1_Tr (a : List (List PV)) (b : List (List PV)) (i : Int) : Tr LR := Tr.ite (iLt i (xLen a))
  (Tr.ite (okPos i)
    (Tr.ite (okGet [PV.sl [] .full] a (nNat i))
      (Tr.ite (okPos i)
        (Tr.ite (okGet [PV.sl [] .full] b (nNat i))
          (Tr.ite (okR cV (lockLL (lockLL (xRow a (nNat i) 0))))
            (Tr.ite (okR cV (lockLL (lockLL (xRow b (nNat i) 0))))
              (Tr.ite (bNot (iEq (cmpTR (lockLL (lockLL (xRow a (nNat i) 0))) (lockLL (lockLL (xRow b (nNat i) 0)))) 0))
                (Tr.ret (LR.out .ret [PV.bool false] (Store.mk [] [] [])))
                (Tr.ret (LR.next [PV.sl a .non, PV.sl b .non, PV.int .i64 (iAdd .i64 i 1)] (Store.mk [] [] []))))
              Tr.fail)
            Tr.fail)
          Tr.fail)
        Tr.fail)
      Tr.fail)
    Tr.fail)
  (Tr.ret (LR.out (.exit 0) [] (Store.mk [] [] [])))
theorem SameRel1_T (a : List (List PV)) (b : List (List PV)) (i : Int) : lstep tbT G_SameRel LI_SameRel1 c_SameRel1 I_SameRel1 [.sl a .non, .sl b .non, .int .i64 i] ⟨[], [], []⟩ = SameRel1_Tr a b i := by kernel_rfl
theorem SameRel1_E (a : List (List PV)) (b : List (List PV)) (i : Int) : SameRel1_V [.sl a .non, .sl b .non, .int .i64 i] ⟨[], [], []⟩ = lnext SameRel1_V (SameRel1_Tr a b i).run := by unfold SameRel1_V; rw [lval_eq, SameRel1_T]
noncomputable def SameRel1_W (a : List (List PV)) (b : List (List PV)) (i : Int) : Option (PExit × List PV × Store) := SameRel1_V [.sl a .non, .sl b .non, .int .i64 i] ⟨[], [], []⟩
noncomputable def SameRel1_b_0 (a : List (List PV)) (b : List (List PV)) (i : Int) : Bool := (gBool (gOut (SameRel1_W a b i) 0))
noncomputable def SameRel1_is0 (a : List (List PV)) (b : List (List PV)) (i : Int) : Bool := isW (SameRel1_W a b i) (.ret, [.bool (SameRel1_b_0 a b i)], ⟨[], [], []⟩)
noncomputable def SameRel1_is1 (a : List (List PV)) (b : List (List PV)) (i : Int) : Bool := isW (SameRel1_W a b i) ((.exit 0), [], ⟨[], [], []⟩)
noncomputable def SameRel1_prop : List PV → Store → Tr (PExit × List PV × Store) | [.sl a .non, .sl b .non, .int .i64 i], ⟨[], [], []⟩ => .ite (SameRel1_is0 a b i) (.ret (.ret, [.bool (SameRel1_b_0 a b i)], ⟨[], [], []⟩)) (.ite (SameRel1_is1 a b i) (.ret ((.exit 0), [], ⟨[], [], []⟩)) (.fail)) | _, _ => .fail
theorem SameRel1_ok : ∀ vs σ r, (SameRel1_prop vs σ).run = some r → SameRel1_V vs σ = some r := by
  intro vs σ r h
  unfold SameRel1_prop at h
  split at h
  · exact ite_isW h fun h => ite_isW h fun h => by cases h
  · cases h
theorem loop_SameRel1 (gl : Nat → Option Obj) : ∀ fr σ e fr' σ', (orc I_SameRel1 SameRel1_prop fr σ).run = some (e, fr', σ') → LDoes Tryd.prog gl c_SameRel1 fr σ e fr' σ' := orc_ok tbT_ok (gok_SameRel gl ) noMixed (L := LI_SameRel1) (loopOk_none (by kernel_rfl)) (by kernel_rfl) SameRel1_ok
noncomputable def L_SameRel : LpsT := fun r fr σ => bif Nat.beq r 4 then orc I_SameRel1 SameRel1_prop fr σ else .fail
noncomputable def SameRel_Tr (a : List (List PV)) (b : List (List PV)) : Tr PV := Tr.ite (iNe (xLen a) (xLen b)) (Tr.ret (PV.bool false))
  (Tr.ite (SameRel1_is0 a b 0) (Tr.ret (PV.bool (SameRel1_b_0 a b 0))) (Tr.ite (SameRel1_is1 a b 0) (Tr.ret (PV.bool true)) Tr.fail))
theorem SameRel_T (a : List (List PV)) (b : List (List PV)) : (tcall tbT G_SameRel L_SameRel Tryd.f31 [.sl a .non, .sl b .non]).flat = SameRel_Tr a b := by kernel_rfl
noncomputable def SameRel_W (a : List (List PV)) (b : List (List PV)) : Option PV := (SameRel_Tr a b).run
noncomputable def SameRel_b (a : List (List PV)) (b : List (List PV)) : Bool := (gBool (gVal (SameRel_W a b)))
noncomputable def SameRel_is0 (a : List (List PV)) (b : List (List PV)) : Bool := isW (SameRel_W a b) (.bool (SameRel_b a b))
noncomputable def F_SameRel : List PV → Tr PV | [.sl a .non, .sl b .non] => .ite (SameRel_is0 a b) (.ret (.bool (SameRel_b a b))) (.fail) | _ => .fail
theorem sim_SameRel (gl : Nat → Option Obj) : SimP Tryd.prog gl 31 fun args => (F_SameRel args).run := by
  refine SimP.of_flat (G := G_SameRel) (L := L_SameRel) tbT_ok (gok_SameRel gl ) noMixed Tryd.func31 rfl (by rfl) (by kernel_rfl) (loopOk_all (L := lps L_SameRel) [(4, c_SameRel1)] (by kernel_rfl) (List.forall_mem_cons.2 ⟨fun fr σ e fr' σ' h => loop_SameRel1 gl  fr σ e fr' σ' h, (List.forall_mem_nil _)⟩)) ?_
  intro args x h
  unfold F_SameRel at h
  split at h
  · exact (congrArg Tr.run (SameRel_T _ _)).trans (ite_isW h fun h => by cases h)
  · cases h
noncomputable def G_CloneT0 : GamT := ofL []
theorem gok_CloneT0 (gl : Nat → Option Obj) : GamOk Tryd.prog gl (gam G_CloneT0) := gamOk_nil
noncomputable def L_CloneT0 : LpsT := fun r fr σ => .fail
noncomputable def CloneT0_Tr (s : List (List PV)) : Tr PV := Tr.ite (xNil s)
  (Tr.ite true (Tr.ret (PV.sl [] .non))
    (Tr.ite (okGrow [] s 32)
      (Tr.ite (okNews s 3) (Tr.ite (okSize [] 3) (Tr.ite (xNil s) (Tr.ret (PV.sl [] .non)) (Tr.ret (PV.sl (shutLL (xApp [] s)) .non))) Tr.fail) Tr.fail) Tr.fail))
  (Tr.ite false (Tr.ret (PV.sl [] .non))
    (Tr.ite (okGrow [] s 32)
      (Tr.ite (okNews s 3) (Tr.ite (okSize [] 3) (Tr.ite (xNil s) (Tr.ret (PV.sl [] .non)) (Tr.ret (PV.sl (shutLL (xApp [] s)) .non))) Tr.fail) Tr.fail) Tr.fail))
theorem CloneT0_T (s : List (List PV)) : (tcall tbT G_CloneT0 L_CloneT0 Tryd.f64 [.sl s .nil]).flat = CloneT0_Tr s := by kernel_rfl
noncomputable def CloneT0_W (s : List (List PV)) : Option PV := (CloneT0_Tr s).run
noncomputable def CloneT0_r (s : List (List PV)) : List (List PV) := (gRow (gVal (CloneT0_W s)))
noncomputable def CloneT0_is0 (s : List (List PV)) : Bool := isW (CloneT0_W s) (.sl (CloneT0_r s) .non)
noncomputable def CloneT0b_Tr (s : List (List PV)) : Tr PV := Tr.ite (xNil s)
  (Tr.ite false (Tr.ret (PV.sl [] .non))
    (Tr.ite (okGrow [] s 32)
      (Tr.ite (okNews s 3) (Tr.ite (okSize [] 3) (Tr.ite (xNil s) (Tr.ret (PV.sl [] .non)) (Tr.ret (PV.sl (shutLL (xApp [] s)) .non))) Tr.fail) Tr.fail) Tr.fail))
  (Tr.ite false (Tr.ret (PV.sl [] .non))
    (Tr.ite (okGrow [] s 32)
      (Tr.ite (okNews s 3) (Tr.ite (okSize [] 3) (Tr.ite (xNil s) (Tr.ret (PV.sl [] .non)) (Tr.ret (PV.sl (shutLL (xApp [] s)) .non))) Tr.fail) Tr.fail) Tr.fail))
theorem CloneT0b_T (s : List (List PV)) : (tcall tbT G_CloneT0 L_CloneT0 Tryd.f64 [.sl s .own]).flat = CloneT0b_Tr s := by kernel_rfl
noncomputable def CloneT0b_W (s : List (List PV)) : Option PV := (CloneT0b_Tr s).run
noncomputable def CloneT0b_r (s : List (List PV)) : List (List PV) := (gRow (gVal (CloneT0b_W s)))
noncomputable def CloneT0b_is0 (s : List (List PV)) : Bool := isW (CloneT0b_W s) (.sl (CloneT0b_r s) .non)
noncomputable def F_CloneT0 : List PV → Tr PV | [.sl s .nil] => .ite (CloneT0_is0 s) (.ret (.sl (CloneT0_r s) .non)) (.fail) | [.sl s .own] => .ite (CloneT0b_is0 s) (.ret (.sl (CloneT0b_r s) .non)) (.fail) | _ => .fail
theorem sim_CloneT0 (gl : Nat → Option Obj) : SimP Tryd.prog gl 64 fun args => (F_CloneT0 args).run := by
  refine SimP.of_flat (G := G_CloneT0) (L := L_CloneT0) tbT_ok (gok_CloneT0 gl ) noMixed Tryd.func64 rfl (by rfl) (by kernel_rfl) (loopOk_none (by kernel_rfl)) ?_
  intro args x h
  unfold F_CloneT0 at h
  split at h
  · exact (congrArg Tr.run (CloneT0_T _)).trans (ite_isW h fun h => by cases h)
  · exact (congrArg Tr.run (CloneT0b_T _)).trans (ite_isW h fun h => by cases h)
  · cases h
end Go.Pv
