import Derived.Test.YtdfahkeodlfopaaDoorPvTB
set_option maxHeartbeats 4000000
set_option maxRecDepth 200000
set_option linter.unusedSimpArgs false
set_option linter.unusedVariables false
namespace Go.Pv
open Go Go.Proofs
noncomputable def G_TSel : GamT := ofL [(18, .pure F_Mt), (64, .pure F_CloneT)]
theorem gok_TSel (gl : Nat → Option Obj) : GamOk Tryd.prog gl (gam G_TSel) := (gamOk_cons (sim_Mt gl) (gamOk_cons (sim_CloneT gl) gamOk_nil))
noncomputable def c_TSel1 : Code := loopC Tryd.f32 3
def I_TSel1 : LI := ⟨30, [1, 5, 10, 11, 12], fun e => match e with | .exit 0 => [5] | _ => []⟩
noncomputable def LI_TSel1 : LpsT := fun r fr σ => .fail
noncomputable def TSel1_V (vs : List PV) (σ : Store) : Option (PExit × List PV × Store) := lval (lstep tbT G_TSel LI_TSel1 c_TSel1 I_TSel1) vs σ
noncomputable def TSel1_Tr (p_ : List (List PV)) (out : List (List PV)) (r : List (List PV)) (n : Int) (n2 : Int) : Tr LR := Tr.ite (iLt n2 n)
  (Tr.ite (okPos n2)
    (Tr.ite (okGet [PV.sl [] .full] r (nNat n2))
      (Tr.ite (okR cM (lockLL p_))
        (Tr.ite (okR cV (lockLL (xRow r (nNat n2) 0)))
          (Tr.ite (okMT (lockLL p_) (lockLL (xRow r (nNat n2) 0)))
            (Tr.ite true
              (Tr.ite (okNews (lockLL (xRow r (nNat n2) 0)) 3)
                (Tr.ite (okGrow [] (lockLL (xRow r (nNat n2) 0)) 32)
                  (Tr.ite (okGrow out [[PV.sl (shutLL (lockLL (xRow r (nNat n2) 0))) .non]] 24)
                    (Tr.ite (okNews [[PV.sl (shutLL (lockLL (xRow r (nNat n2) 0))) .non]] 1)
                      (Tr.ite (okSize out 1)
                        (Tr.ret
                          (LR.next
                            [PV.sl p_ .non, PV.sl (xApp out [[PV.sl (shutLL (lockLL (xRow r (nNat n2) 0))) .non]]) (.tok 0), PV.sl r .non, PV.int .i64 n,
                              PV.int .i64 (iAdd .i64 n2 1)]
                            (Store.mk [] [(nXs (xApp out [[PV.sl (shutLL (lockLL (xRow r (nNat n2) 0))) .non]]), 1, 23)] [])))
                        Tr.fail)
                      Tr.fail)
                    Tr.fail)
                  Tr.fail)
                Tr.fail)
              (Tr.ret (LR.next [PV.sl p_ .non, PV.sl out .full, PV.sl r .non, PV.int .i64 n, PV.int .i64 (iAdd .i64 n2 1)] (Store.mk [] [] []))))
            (Tr.ite false
              (Tr.ite (okNews (lockLL (xRow r (nNat n2) 0)) 3)
                (Tr.ite (okGrow [] (lockLL (xRow r (nNat n2) 0)) 32)
                  (Tr.ite (okGrow out [[PV.sl (shutLL (lockLL (xRow r (nNat n2) 0))) .non]] 24)
                    (Tr.ite (okNews [[PV.sl (shutLL (lockLL (xRow r (nNat n2) 0))) .non]] 1)
                      (Tr.ite (okSize out 1)
                        (Tr.ret
                          (LR.next
                            [PV.sl p_ .non, PV.sl (xApp out [[PV.sl (shutLL (lockLL (xRow r (nNat n2) 0))) .non]]) (.tok 0), PV.sl r .non, PV.int .i64 n,
                              PV.int .i64 (iAdd .i64 n2 1)]
                            (Store.mk [] [(nXs (xApp out [[PV.sl (shutLL (lockLL (xRow r (nNat n2) 0))) .non]]), 1, 23)] [])))
                        Tr.fail)
                      Tr.fail)
                    Tr.fail)
                  Tr.fail)
                Tr.fail)
              (Tr.ret (LR.next [PV.sl p_ .non, PV.sl out .full, PV.sl r .non, PV.int .i64 n, PV.int .i64 (iAdd .i64 n2 1)] (Store.mk [] [] [])))))
          Tr.fail)
        Tr.fail)
      Tr.fail)
    Tr.fail)
  (Tr.ret (LR.out (.exit 0) [PV.sl out .full] (Store.mk [] [] [])))
theorem TSel1_T (p_ : List (List PV)) (out : List (List PV)) (r : List (List PV)) (n : Int) (n2 : Int) : lstep tbT G_TSel LI_TSel1 c_TSel1 I_TSel1 [.sl p_ .non, .sl out .full, .sl r .non, .int .i64 n, .int .i64 n2] ⟨[], [], []⟩ = TSel1_Tr p_ out r n n2 := by kernel_rfl
theorem TSel1_E (p_ : List (List PV)) (out : List (List PV)) (r : List (List PV)) (n : Int) (n2 : Int) : TSel1_V [.sl p_ .non, .sl out .full, .sl r .non, .int .i64 n, .int .i64 n2] ⟨[], [], []⟩ = lnext TSel1_V (TSel1_Tr p_ out r n n2).run := by unfold TSel1_V; rw [lval_eq, TSel1_T]
noncomputable def TSel1_Tr1 (p_ : List (List PV)) (out : List (List PV)) (r : List (List PV)) (n : Int) (n2 : Int) (k : Nat) : Tr LR := Tr.ite (iLt n2 n)
  (Tr.ite (okPos n2)
    (Tr.ite (okGet [PV.sl [] .full] r (nNat n2))
      (Tr.ite (okR cM (lockLL p_))
        (Tr.ite (okR cV (lockLL (xRow r (nNat n2) 0)))
          (Tr.ite (okMT (lockLL p_) (lockLL (xRow r (nNat n2) 0)))
            (Tr.ite true
              (Tr.ite (okNews (lockLL (xRow r (nNat n2) 0)) 3)
                (Tr.ite (okGrow [] (lockLL (xRow r (nNat n2) 0)) 32)
                  (Tr.ite (okGrow out [[PV.sl (shutLL (lockLL (xRow r (nNat n2) 0))) .non]] 24)
                    (Tr.ite (okNews [[PV.sl (shutLL (lockLL (xRow r (nNat n2) 0))) .non]] 1)
                      (Tr.ite (okSize out 1)
                        (Tr.ite (nEq k (nXs out))
                          (Tr.ret
                            (LR.next
                              [PV.sl p_ .non, PV.sl (xApp out [[PV.sl (shutLL (lockLL (xRow r (nNat n2) 0))) .non]]) (.tok 0), PV.sl r .non, PV.int .i64 n,
                                PV.int .i64 (iAdd .i64 n2 1)]
                              (Store.mk [] [(nXs (xApp out [[PV.sl (shutLL (lockLL (xRow r (nNat n2) 0))) .non]]), 1, 23)] [])))
                          Tr.fail)
                        Tr.fail)
                      Tr.fail)
                    Tr.fail)
                  Tr.fail)
                Tr.fail)
              (Tr.ret
                (LR.next [PV.sl p_ .non, PV.sl out (.tok 0), PV.sl r .non, PV.int .i64 n, PV.int .i64 (iAdd .i64 n2 1)]
                  (Store.mk [] [(k, 1, 23)] []))))
            (Tr.ite false
              (Tr.ite (okNews (lockLL (xRow r (nNat n2) 0)) 3)
                (Tr.ite (okGrow [] (lockLL (xRow r (nNat n2) 0)) 32)
                  (Tr.ite (okGrow out [[PV.sl (shutLL (lockLL (xRow r (nNat n2) 0))) .non]] 24)
                    (Tr.ite (okNews [[PV.sl (shutLL (lockLL (xRow r (nNat n2) 0))) .non]] 1)
                      (Tr.ite (okSize out 1)
                        (Tr.ite (nEq k (nXs out))
                          (Tr.ret
                            (LR.next
                              [PV.sl p_ .non, PV.sl (xApp out [[PV.sl (shutLL (lockLL (xRow r (nNat n2) 0))) .non]]) (.tok 0), PV.sl r .non, PV.int .i64 n,
                                PV.int .i64 (iAdd .i64 n2 1)]
                              (Store.mk [] [(nXs (xApp out [[PV.sl (shutLL (lockLL (xRow r (nNat n2) 0))) .non]]), 1, 23)] [])))
                          Tr.fail)
                        Tr.fail)
                      Tr.fail)
                    Tr.fail)
                  Tr.fail)
                Tr.fail)
              (Tr.ret
                (LR.next [PV.sl p_ .non, PV.sl out (.tok 0), PV.sl r .non, PV.int .i64 n, PV.int .i64 (iAdd .i64 n2 1)]
                  (Store.mk [] [(k, 1, 23)] [])))))
          Tr.fail)
        Tr.fail)
      Tr.fail)
    Tr.fail)
  (Tr.ret (LR.out (.exit 0) [PV.sl out (.tok 0)] (Store.mk [] [(k, 1, 23)] [])))
theorem TSel1_T1 (p_ : List (List PV)) (out : List (List PV)) (r : List (List PV)) (n : Int) (n2 : Int) (k : Nat) : lstep tbT G_TSel LI_TSel1 c_TSel1 I_TSel1 [.sl p_ .non, .sl out (.tok 0), .sl r .non, .int .i64 n, .int .i64 n2] ⟨[], [(k, 1, 23)], []⟩ = TSel1_Tr1 p_ out r n n2 k := by kernel_rfl
theorem TSel1_E1 (p_ : List (List PV)) (out : List (List PV)) (r : List (List PV)) (n : Int) (n2 : Int) (k : Nat) : TSel1_V [.sl p_ .non, .sl out (.tok 0), .sl r .non, .int .i64 n, .int .i64 n2] ⟨[], [(k, 1, 23)], []⟩ = lnext TSel1_V (TSel1_Tr1 p_ out r n n2 k).run := by unfold TSel1_V; rw [lval_eq, TSel1_T1]
noncomputable def TSel1_W (p_ : List (List PV)) (out : List (List PV)) (r : List (List PV)) (n : Int) (n2 : Int) : Option (PExit × List PV × Store) := TSel1_V [.sl p_ .non, .sl out .full, .sl r .non, .int .i64 n, .int .i64 n2] ⟨[], [], []⟩
noncomputable def TSel1_out_0 (p_ : List (List PV)) (out : List (List PV)) (r : List (List PV)) (n : Int) (n2 : Int) : List (List PV) := (gRow (gOut (TSel1_W p_ out r n n2) 0))
noncomputable def TSel1_is0 (p_ : List (List PV)) (out : List (List PV)) (r : List (List PV)) (n : Int) (n2 : Int) : Bool := isW (TSel1_W p_ out r n n2) ((.exit 0), [.sl (TSel1_out_0 p_ out r n n2) .full], ⟨[], [], []⟩)
noncomputable def TSel1_out_1 (p_ : List (List PV)) (out : List (List PV)) (r : List (List PV)) (n : Int) (n2 : Int) : List (List PV) := (gRow (gOut (TSel1_W p_ out r n n2) 0))
noncomputable def TSel1_k_1 (p_ : List (List PV)) (out : List (List PV)) (r : List (List PV)) (n : Int) (n2 : Int) : Nat := (gTok (TSel1_W p_ out r n n2) 0)
noncomputable def TSel1_is1 (p_ : List (List PV)) (out : List (List PV)) (r : List (List PV)) (n : Int) (n2 : Int) : Bool := isW (TSel1_W p_ out r n n2) ((.exit 0), [.sl (TSel1_out_1 p_ out r n n2) (.tok 0)], ⟨[], [((TSel1_k_1 p_ out r n n2), 1, 23)], []⟩)
noncomputable def TSel1_prop : List PV → Store → Tr (PExit × List PV × Store) | [.sl p_ .non, .sl out .full, .sl r .non, .int .i64 n, .int .i64 n2], ⟨[], [], []⟩ => .ite (TSel1_is0 p_ out r n n2) (.ret ((.exit 0), [.sl (TSel1_out_0 p_ out r n n2) .full], ⟨[], [], []⟩)) (.ite (TSel1_is1 p_ out r n n2) (.ret ((.exit 0), [.sl (TSel1_out_1 p_ out r n n2) (.tok 0)], ⟨[], [((TSel1_k_1 p_ out r n n2), 1, 23)], []⟩)) (.fail)) | _, _ => .fail
theorem TSel1_ok : ∀ vs σ r, (TSel1_prop vs σ).run = some r → TSel1_V vs σ = some r := by
  intro vs σ r h
  unfold TSel1_prop at h
  split at h
  · exact ite_isW h fun h => ite_isW h fun h => by cases h
  · cases h
theorem loop_TSel1 (gl : Nat → Option Obj) : ∀ fr σ e fr' σ', (orc I_TSel1 TSel1_prop fr σ).run = some (e, fr', σ') → LDoes Tryd.prog gl c_TSel1 fr σ e fr' σ' := orc_ok tbT_ok (gok_TSel gl ) noMixed (L := LI_TSel1) (loopOk_none (by kernel_rfl)) (by kernel_rfl) TSel1_ok
noncomputable def L_TSel : LpsT := fun r fr σ => bif Nat.beq r 3 then orc I_TSel1 TSel1_prop fr σ else .fail
noncomputable def TSel_Tr (l : List (List PV)) (p_ : List (List PV)) : Tr PV := Tr.ite (TSel1_is0 p_ [] l (xLen l) 0) (Tr.ret (PV.sl (shutLL (TSel1_out_0 p_ [] l (xLen l) 0)) .non))
  (Tr.ite (TSel1_is1 p_ [] l (xLen l) 0) (Tr.ret (PV.sl (shutLL (TSel1_out_1 p_ [] l (xLen l) 0)) .non)) Tr.fail)
theorem TSel_T (l : List (List PV)) (p_ : List (List PV)) : (tcall tbT G_TSel L_TSel Tryd.f32 [.sl l .non, .sl p_ .non]).flat = TSel_Tr l p_ := by kernel_rfl
noncomputable def TSel_W (l : List (List PV)) (p_ : List (List PV)) : Option PV := (TSel_Tr l p_).run
noncomputable def TSel_r (l : List (List PV)) (p_ : List (List PV)) : List (List PV) := (gRow (gVal (TSel_W l p_)))
noncomputable def TSel_is0 (l : List (List PV)) (p_ : List (List PV)) : Bool := isW (TSel_W l p_) (.sl (TSel_r l p_) .non)
noncomputable def F_TSel : List PV → Tr PV | [.sl l .non, .sl p_ .non] => .ite (TSel_is0 l p_) (.ret (.sl (TSel_r l p_) .non)) (.fail) | _ => .fail
theorem sim_TSel (gl : Nat → Option Obj) : SimP Tryd.prog gl 32 fun args => (F_TSel args).run := by
  refine SimP.of_flat (G := G_TSel) (L := L_TSel) tbT_ok (gok_TSel gl ) noMixed Tryd.func32 rfl (by rfl) (by kernel_rfl) (loopOk_all (L := lps L_TSel) [(3, c_TSel1)] (by kernel_rfl) (List.forall_mem_cons.2 ⟨fun fr σ e fr' σ' h => loop_TSel1 gl  fr σ e fr' σ' h, (List.forall_mem_nil _)⟩)) ?_
  intro args x h
  unfold F_TSel at h
  split at h
  · exact (congrArg Tr.run (TSel_T _ _)).trans (ite_isW h fun h => by cases h)
  · cases h
noncomputable def G_RSel : GamT := ofL [(27, .pure F_RM)]
theorem gok_RSel (gl : Nat → Option Obj) : GamOk Tryd.prog gl (gam G_RSel) := (gamOk_cons (sim_RM gl) gamOk_nil)
noncomputable def c_RSel1 : Code := loopC Tryd.f33 3
def I_RSel1 : LI := ⟨33, [0, 1, 5, 6], fun e => match e with | .exit 0 => [5] | _ => []⟩
noncomputable def LI_RSel1 : LpsT := fun r fr σ => .fail
noncomputable def RSel1_V (vs : List PV) (σ : Store) : Option (PExit × List PV × Store) := lval (lstep tbT G_RSel LI_RSel1 c_RSel1 I_RSel1) vs σ
noncomputable def RSel1_Tr (l : List (List PV)) (p_ : List (List PV)) (out : List (List PV)) (i : Int) : Tr LR := Tr.ite (iLt i (xLen l))
  (Tr.ite (okPos i)
    (Tr.ite (okGet [PV.sl [] .full] l (nNat i))
      (Tr.ite (okR cM (lockLL p_))
        (Tr.ite (okR cV (lockLL (xRow l (nNat i) 0)))
          (Tr.ite (okMT (lockLL p_) (lockLL (xRow l (nNat i) 0)))
            (Tr.ite true
              (Tr.ite (okPos i)
                (Tr.ite (okGet [PV.sl [] .full] l (nNat i))
                  (Tr.ite (okGrow out [[PV.sl (xRow l (nNat i) 0) .non]] 24)
                    (Tr.ite (okNews [[PV.sl (xRow l (nNat i) 0) .non]] 1)
                      (Tr.ite (okSize out 1)
                        (Tr.ret
                          (LR.next
                            [PV.sl l .non, PV.sl p_ .non, PV.sl (xApp out [[PV.sl (xRow l (nNat i) 0) .non]]) (.tok 0), PV.int .i64 (iAdd .i64 i 1)]
                            (Store.mk [] [(nXs (xApp out [[PV.sl (xRow l (nNat i) 0) .non]]), 1, 23)] [])))
                        Tr.fail)
                      Tr.fail)
                    Tr.fail)
                  Tr.fail)
                Tr.fail)
              (Tr.ret (LR.next [PV.sl l .non, PV.sl p_ .non, PV.sl out .full, PV.int .i64 (iAdd .i64 i 1)] (Store.mk [] [] []))))
            (Tr.ite false
              (Tr.ite (okPos i)
                (Tr.ite (okGet [PV.sl [] .full] l (nNat i))
                  (Tr.ite (okGrow out [[PV.sl (xRow l (nNat i) 0) .non]] 24)
                    (Tr.ite (okNews [[PV.sl (xRow l (nNat i) 0) .non]] 1)
                      (Tr.ite (okSize out 1)
                        (Tr.ret
                          (LR.next
                            [PV.sl l .non, PV.sl p_ .non, PV.sl (xApp out [[PV.sl (xRow l (nNat i) 0) .non]]) (.tok 0), PV.int .i64 (iAdd .i64 i 1)]
                            (Store.mk [] [(nXs (xApp out [[PV.sl (xRow l (nNat i) 0) .non]]), 1, 23)] [])))
                        Tr.fail)
                      Tr.fail)
                    Tr.fail)
                  Tr.fail)
                Tr.fail)
              (Tr.ret (LR.next [PV.sl l .non, PV.sl p_ .non, PV.sl out .full, PV.int .i64 (iAdd .i64 i 1)] (Store.mk [] [] [])))))
          Tr.fail)
        Tr.fail)
      Tr.fail)
    Tr.fail)
  (Tr.ret (LR.out (.exit 0) [PV.sl out .full] (Store.mk [] [] [])))
theorem RSel1_T (l : List (List PV)) (p_ : List (List PV)) (out : List (List PV)) (i : Int) : lstep tbT G_RSel LI_RSel1 c_RSel1 I_RSel1 [.sl l .non, .sl p_ .non, .sl out .full, .int .i64 i] ⟨[], [], []⟩ = RSel1_Tr l p_ out i := by kernel_rfl
theorem RSel1_E (l : List (List PV)) (p_ : List (List PV)) (out : List (List PV)) (i : Int) : RSel1_V [.sl l .non, .sl p_ .non, .sl out .full, .int .i64 i] ⟨[], [], []⟩ = lnext RSel1_V (RSel1_Tr l p_ out i).run := by unfold RSel1_V; rw [lval_eq, RSel1_T]
noncomputable def RSel1_Tr1 (l : List (List PV)) (p_ : List (List PV)) (out : List (List PV)) (i : Int) (k : Nat) : Tr LR := Tr.ite (iLt i (xLen l))
  (Tr.ite (okPos i)
    (Tr.ite (okGet [PV.sl [] .full] l (nNat i))
      (Tr.ite (okR cM (lockLL p_))
        (Tr.ite (okR cV (lockLL (xRow l (nNat i) 0)))
          (Tr.ite (okMT (lockLL p_) (lockLL (xRow l (nNat i) 0)))
            (Tr.ite true
              (Tr.ite (okPos i)
                (Tr.ite (okGet [PV.sl [] .full] l (nNat i))
                  (Tr.ite (okGrow out [[PV.sl (xRow l (nNat i) 0) .non]] 24)
                    (Tr.ite (okNews [[PV.sl (xRow l (nNat i) 0) .non]] 1)
                      (Tr.ite (okSize out 1)
                        (Tr.ite (nEq k (nXs out))
                          (Tr.ret
                            (LR.next
                              [PV.sl l .non, PV.sl p_ .non, PV.sl (xApp out [[PV.sl (xRow l (nNat i) 0) .non]]) (.tok 0), PV.int .i64 (iAdd .i64 i 1)]
                              (Store.mk [] [(nXs (xApp out [[PV.sl (xRow l (nNat i) 0) .non]]), 1, 23)] [])))
                          Tr.fail)
                        Tr.fail)
                      Tr.fail)
                    Tr.fail)
                  Tr.fail)
                Tr.fail)
              (Tr.ret (LR.next [PV.sl l .non, PV.sl p_ .non, PV.sl out (.tok 0), PV.int .i64 (iAdd .i64 i 1)] (Store.mk [] [(k, 1, 23)] []))))
            (Tr.ite false
              (Tr.ite (okPos i)
                (Tr.ite (okGet [PV.sl [] .full] l (nNat i))
                  (Tr.ite (okGrow out [[PV.sl (xRow l (nNat i) 0) .non]] 24)
                    (Tr.ite (okNews [[PV.sl (xRow l (nNat i) 0) .non]] 1)
                      (Tr.ite (okSize out 1)
                        (Tr.ite (nEq k (nXs out))
                          (Tr.ret
                            (LR.next
                              [PV.sl l .non, PV.sl p_ .non, PV.sl (xApp out [[PV.sl (xRow l (nNat i) 0) .non]]) (.tok 0), PV.int .i64 (iAdd .i64 i 1)]
                              (Store.mk [] [(nXs (xApp out [[PV.sl (xRow l (nNat i) 0) .non]]), 1, 23)] [])))
                          Tr.fail)
                        Tr.fail)
                      Tr.fail)
                    Tr.fail)
                  Tr.fail)
                Tr.fail)
              (Tr.ret (LR.next [PV.sl l .non, PV.sl p_ .non, PV.sl out (.tok 0), PV.int .i64 (iAdd .i64 i 1)] (Store.mk [] [(k, 1, 23)] [])))))
          Tr.fail)
        Tr.fail)
      Tr.fail)
    Tr.fail)
  (Tr.ret (LR.out (.exit 0) [PV.sl out (.tok 0)] (Store.mk [] [(k, 1, 23)] [])))
theorem RSel1_T1 (l : List (List PV)) (p_ : List (List PV)) (out : List (List PV)) (i : Int) (k : Nat) : lstep tbT G_RSel LI_RSel1 c_RSel1 I_RSel1 [.sl l .non, .sl p_ .non, .sl out (.tok 0), .int .i64 i] ⟨[], [(k, 1, 23)], []⟩ = RSel1_Tr1 l p_ out i k := by kernel_rfl
theorem RSel1_E1 (l : List (List PV)) (p_ : List (List PV)) (out : List (List PV)) (i : Int) (k : Nat) : RSel1_V [.sl l .non, .sl p_ .non, .sl out (.tok 0), .int .i64 i] ⟨[], [(k, 1, 23)], []⟩ = lnext RSel1_V (RSel1_Tr1 l p_ out i k).run := by unfold RSel1_V; rw [lval_eq, RSel1_T1]
noncomputable def RSel1_W (l : List (List PV)) (p_ : List (List PV)) (out : List (List PV)) (i : Int) : Option (PExit × List PV × Store) := RSel1_V [.sl l .non, .sl p_ .non, .sl out .full, .int .i64 i] ⟨[], [], []⟩
noncomputable def RSel1_out_0 (l : List (List PV)) (p_ : List (List PV)) (out : List (List PV)) (i : Int) : List (List PV) := (gRow (gOut (RSel1_W l p_ out i) 0))
noncomputable def RSel1_is0 (l : List (List PV)) (p_ : List (List PV)) (out : List (List PV)) (i : Int) : Bool := isW (RSel1_W l p_ out i) ((.exit 0), [.sl (RSel1_out_0 l p_ out i) .full], ⟨[], [], []⟩)
noncomputable def RSel1_out_1 (l : List (List PV)) (p_ : List (List PV)) (out : List (List PV)) (i : Int) : List (List PV) := (gRow (gOut (RSel1_W l p_ out i) 0))
noncomputable def RSel1_k_1 (l : List (List PV)) (p_ : List (List PV)) (out : List (List PV)) (i : Int) : Nat := (gTok (RSel1_W l p_ out i) 0)
noncomputable def RSel1_is1 (l : List (List PV)) (p_ : List (List PV)) (out : List (List PV)) (i : Int) : Bool := isW (RSel1_W l p_ out i) ((.exit 0), [.sl (RSel1_out_1 l p_ out i) (.tok 0)], ⟨[], [((RSel1_k_1 l p_ out i), 1, 23)], []⟩)
noncomputable def RSel1_prop : List PV → Store → Tr (PExit × List PV × Store) | [.sl l .non, .sl p_ .non, .sl out .full, .int .i64 i], ⟨[], [], []⟩ => .ite (RSel1_is0 l p_ out i) (.ret ((.exit 0), [.sl (RSel1_out_0 l p_ out i) .full], ⟨[], [], []⟩)) (.ite (RSel1_is1 l p_ out i) (.ret ((.exit 0), [.sl (RSel1_out_1 l p_ out i) (.tok 0)], ⟨[], [((RSel1_k_1 l p_ out i), 1, 23)], []⟩)) (.fail)) | _, _ => .fail
theorem RSel1_ok : ∀ vs σ r, (RSel1_prop vs σ).run = some r → RSel1_V vs σ = some r := by
  intro vs σ r h
  unfold RSel1_prop at h
  split at h
  · exact ite_isW h fun h => ite_isW h fun h => by cases h
  · cases h
theorem loop_RSel1 (gl : Nat → Option Obj) : ∀ fr σ e fr' σ', (orc I_RSel1 RSel1_prop fr σ).run = some (e, fr', σ') → LDoes Tryd.prog gl c_RSel1 fr σ e fr' σ' := orc_ok tbT_ok (gok_RSel gl ) noMixed (L := LI_RSel1) (loopOk_none (by kernel_rfl)) (by kernel_rfl) RSel1_ok
noncomputable def L_RSel : LpsT := fun r fr σ => bif Nat.beq r 3 then orc I_RSel1 RSel1_prop fr σ else .fail
noncomputable def RSel_Tr (l : List (List PV)) (p_ : List (List PV)) : Tr PV := Tr.ite (RSel1_is0 l p_ [] 0) (Tr.ret (PV.sl (shutLL (RSel1_out_0 l p_ [] 0)) .non))
  (Tr.ite (RSel1_is1 l p_ [] 0) (Tr.ret (PV.sl (shutLL (RSel1_out_1 l p_ [] 0)) .non)) Tr.fail)
theorem RSel_T (l : List (List PV)) (p_ : List (List PV)) : (tcall tbT G_RSel L_RSel Tryd.f33 [.sl l .non, .sl p_ .non]).flat = RSel_Tr l p_ := by kernel_rfl
noncomputable def RSel_W (l : List (List PV)) (p_ : List (List PV)) : Option PV := (RSel_Tr l p_).run
noncomputable def RSel_r (l : List (List PV)) (p_ : List (List PV)) : List (List PV) := (gRow (gVal (RSel_W l p_)))
noncomputable def RSel_is0 (l : List (List PV)) (p_ : List (List PV)) : Bool := isW (RSel_W l p_) (.sl (RSel_r l p_) .non)
noncomputable def F_RSel : List PV → Tr PV | [.sl l .non, .sl p_ .non] => .ite (RSel_is0 l p_) (.ret (.sl (RSel_r l p_) .non)) (.fail) | _ => .fail
theorem sim_RSel (gl : Nat → Option Obj) : SimP Tryd.prog gl 33 fun args => (F_RSel args).run := by
  refine SimP.of_flat (G := G_RSel) (L := L_RSel) tbT_ok (gok_RSel gl ) noMixed Tryd.func33 rfl (by rfl) (by kernel_rfl) (loopOk_all (L := lps L_RSel) [(3, c_RSel1)] (by kernel_rfl) (List.forall_mem_cons.2 ⟨fun fr σ e fr' σ' h => loop_RSel1 gl  fr σ e fr' σ' h, (List.forall_mem_nil _)⟩)) ?_
  intro args x h
  unfold F_RSel at h
  split at h
  · exact (congrArg Tr.run (RSel_T _ _)).trans (ite_isW h fun h => by cases h)
  · cases h
noncomputable def G_TForms : GamT := ofL [(14, .pure F_awk), (15, .pure F_cutT), (16, .pure F_TCmp), (20, .pure F_RCheck), (36, .pure F_TCheck), (37, .pure F_TTyped), (38, .pure F_RTyped), (39, .pure F_CmpR)]
theorem gok_TForms (gl : Nat → Option Obj) (hg : GlPow gl) : GamOk Tryd.prog gl (gam G_TForms) := (gamOk_cons (sim_awk gl hg) (gamOk_cons (sim_cutT gl) (gamOk_cons (sim_TCmp gl) (gamOk_cons (sim_RCheck gl) (gamOk_cons (sim_TCheck gl) (gamOk_cons (sim_TTyped gl) (gamOk_cons (sim_RTyped gl) (gamOk_cons (sim_CmpR gl) gamOk_nil))))))))
noncomputable def L_TForms : LpsT := fun r fr σ => .fail
noncomputable def TForms_Tr (a : List (List PV)) (b : List (List PV)) (types : List (List PV)) : Tr PV := Tr.ite (okR cV (lockLL a))
  (Tr.ite (okR cV (lockLL b))
    (Tr.ite (okR cV (lockLL (cutT (lockLL a))))
      (Tr.ite (okR cV (lockLL (cutT (lockLL a))))
        (Tr.ite (iEq (chkT (lockLL (cutT (lockLL a)))) (chkT (lockLL (cutT (lockLL a)))))
          (Tr.ite (okR cV (lockLL (cutT (lockLL a))))
            (Tr.ite (okR cI (lockLL types))
              (Tr.ite (okR cV (lockLL (cutT (lockLL a))))
                (Tr.ite (okR cI (lockLL types))
                  (Tr.ite (bEq (typT (lockLL (cutT (lockLL a))) (lockLL types)) (typT (lockLL (cutT (lockLL a))) (lockLL types)))
                    (Tr.ite (okR cV (lockLL (lockLL (cutT (lockLL a)))))
                      (Tr.ite (okR cV (lockLL (lockLL (cutT (lockLL b)))))
                        (Tr.ite (okR cV (lockLL (cutT (lockLL a))))
                          (Tr.ite (okR cV (lockLL (cutT (lockLL b))))
                            (Tr.ite
                              (iEq (cmpTV (lockLL (lockLL (cutT (lockLL a)))) (lockLL (lockLL (cutT (lockLL b))))) (cmpTR (lockLL (cutT (lockLL a))) (lockLL (cutT (lockLL b)))))
                              (Tr.ret (PV.bool true)) (Tr.ret (PV.bool false)))
                            Tr.fail)
                          Tr.fail)
                        Tr.fail)
                      Tr.fail)
                    (Tr.ret (PV.bool false)))
                  Tr.fail)
                Tr.fail)
              Tr.fail)
            Tr.fail)
          (Tr.ret (PV.bool false)))
        Tr.fail)
      Tr.fail)
    Tr.fail)
  Tr.fail
theorem TForms_T (a : List (List PV)) (b : List (List PV)) (types : List (List PV)) : (tcall tbT G_TForms L_TForms Tryd.f9 [.sl a .non, .sl b .non, .sl types .non]).flat = TForms_Tr a b types := by kernel_rfl
noncomputable def TForms_W (a : List (List PV)) (b : List (List PV)) (types : List (List PV)) : Option PV := (TForms_Tr a b types).run
noncomputable def TForms_b (a : List (List PV)) (b : List (List PV)) (types : List (List PV)) : Bool := (gBool (gVal (TForms_W a b types)))
noncomputable def TForms_is0 (a : List (List PV)) (b : List (List PV)) (types : List (List PV)) : Bool := isW (TForms_W a b types) (.bool (TForms_b a b types))
noncomputable def F_TForms : List PV → Tr PV | [.sl a .non, .sl b .non, .sl types .non] => .ite (TForms_is0 a b types) (.ret (.bool (TForms_b a b types))) (.fail) | _ => .fail
theorem sim_TForms (gl : Nat → Option Obj) (hg : GlPow gl) : SimP Tryd.prog gl 9 fun args => (F_TForms args).run := by
  refine SimP.of_flat (G := G_TForms) (L := L_TForms) tbT_ok (gok_TForms gl hg ) noMixed Tryd.func9 rfl (by rfl) (by kernel_rfl) (loopOk_none (by kernel_rfl)) ?_
  intro args x h
  unfold F_TForms at h
  split at h
  · exact (congrArg Tr.run (TForms_T _ _ _)).trans (ite_isW h fun h => by cases h)
  · cases h
noncomputable def G_TWithinL : GamT := ofL [(14, .pure F_awk), (15, .pure F_cutT), (21, .pure F_TWithin), (22, .pure F_RWithin)]
theorem gok_TWithinL (gl : Nat → Option Obj) (hg : GlPow gl) : GamOk Tryd.prog gl (gam G_TWithinL) := (gamOk_cons (sim_awk gl hg) (gamOk_cons (sim_cutT gl) (gamOk_cons (sim_TWithin gl) (gamOk_cons (sim_RWithin gl) gamOk_nil))))
noncomputable def L_TWithinL : LpsT := fun r fr σ => .fail
noncomputable def TWithinL_Tr (low : List (List PV)) (t : List (List PV)) (high : List (List PV)) : Tr PV := Tr.ite (okR cV (lockLL low))
  (Tr.ite (okR cV (lockLL t))
    (Tr.ite (okR cV (lockLL high))
      (Tr.ite
        (okSub true (okPos (imin (xLen (lockLL (cutT (lockLL low)))) (xLen (lockLL (lockLL (cutT (lockLL t))))))) 0
          (nNat (imin (xLen (lockLL (cutT (lockLL low)))) (xLen (lockLL (lockLL (cutT (lockLL t))))))) (nXs (lockLL (lockLL (cutT (lockLL t))))))
        (Tr.ite (okSize (lockLL (lockLL (cutT (lockLL t)))) 3)
          (Tr.ite
            (okR cV
              (lockLL (lockLL (shutLL (xSub (lockLL (lockLL (cutT (lockLL t)))) 0 (nNat (imin (xLen (lockLL (cutT (lockLL low)))) (xLen (lockLL (lockLL (cutT (lockLL t))))))))))))
            (Tr.ite (okR cV (lockLL (lockLL (lockLL (cutT (lockLL low))))))
              (Tr.ite
                (iLe 0
                  (cmpTV
                    (lockLL
                      (lockLL (shutLL (xSub (lockLL (lockLL (cutT (lockLL t)))) 0 (nNat (imin (xLen (lockLL (cutT (lockLL low)))) (xLen (lockLL (lockLL (cutT (lockLL t)))))))))))
                    (lockLL (lockLL (lockLL (cutT (lockLL low)))))))
                (Tr.ite
                  (okSub true (okPos (imin (xLen (lockLL (cutT (lockLL high)))) (xLen (lockLL (lockLL (cutT (lockLL t))))))) 0
                    (nNat (imin (xLen (lockLL (cutT (lockLL high)))) (xLen (lockLL (lockLL (cutT (lockLL t))))))) (nXs (lockLL (lockLL (cutT (lockLL t))))))
                  (Tr.ite (okSize (lockLL (lockLL (cutT (lockLL t)))) 3)
                    (Tr.ite
                      (okR cV
                        (lockLL
                          (lockLL
                            (shutLL (xSub (lockLL (lockLL (cutT (lockLL t)))) 0 (nNat (imin (xLen (lockLL (cutT (lockLL high)))) (xLen (lockLL (lockLL (cutT (lockLL t))))))))))))
                      (Tr.ite (okR cV (lockLL (lockLL (lockLL (cutT (lockLL high))))))
                        (Tr.ite
                          (okSub true (okPos (imin (xLen (lockLL (cutT (lockLL t)))) (xLen (lockLL (cutT (lockLL low)))))) 0
                            (nNat (imin (xLen (lockLL (cutT (lockLL t)))) (xLen (lockLL (cutT (lockLL low)))))) (nXs (lockLL (cutT (lockLL t)))))
                          (Tr.ite (okSize (lockLL (cutT (lockLL t))) 3)
                            (Tr.ite (okR cV (lockLL (xSub (lockLL (cutT (lockLL t))) 0 (nNat (imin (xLen (lockLL (cutT (lockLL t)))) (xLen (lockLL (cutT (lockLL low)))))))))
                              (Tr.ite (okR cV (lockLL (lockLL (cutT (lockLL low)))))
                                (Tr.ite
                                  (iLe 0
                                    (cmpTR (lockLL (xSub (lockLL (cutT (lockLL t))) 0 (nNat (imin (xLen (lockLL (cutT (lockLL t)))) (xLen (lockLL (cutT (lockLL low))))))))
                                      (lockLL (lockLL (cutT (lockLL low))))))
                                  (Tr.ite
                                    (okSub true (okPos (imin (xLen (lockLL (cutT (lockLL t)))) (xLen (lockLL (cutT (lockLL high)))))) 0
                                      (nNat (imin (xLen (lockLL (cutT (lockLL t)))) (xLen (lockLL (cutT (lockLL high)))))) (nXs (lockLL (cutT (lockLL t)))))
                                    (Tr.ite (okSize (lockLL (cutT (lockLL t))) 3)
                                      (Tr.ite
                                        (okR cV (lockLL (xSub (lockLL (cutT (lockLL t))) 0 (nNat (imin (xLen (lockLL (cutT (lockLL t)))) (xLen (lockLL (cutT (lockLL high)))))))))
                                        (Tr.ite (okR cV (lockLL (lockLL (cutT (lockLL high)))))
                                          (Tr.ite
                                            (bEq
                                              (iLe
                                                (cmpTV
                                                  (lockLL
                                                    (lockLL
                                                      (shutLL
                                                        (xSub (lockLL (lockLL (cutT (lockLL t)))) 0
                                                          (nNat (imin (xLen (lockLL (cutT (lockLL high)))) (xLen (lockLL (lockLL (cutT (lockLL t)))))))))))
                                                  (lockLL (lockLL (lockLL (cutT (lockLL high))))))
                                                0)
                                              (iLe
                                                (cmpTR
                                                  (lockLL (xSub (lockLL (cutT (lockLL t))) 0 (nNat (imin (xLen (lockLL (cutT (lockLL t)))) (xLen (lockLL (cutT (lockLL high))))))))
                                                  (lockLL (lockLL (cutT (lockLL high)))))
                                                0))
                                            (Tr.ret (PV.bool true)) (Tr.ret (PV.bool false)))
                                          Tr.fail)
                                        Tr.fail)
                                      Tr.fail)
                                    Tr.fail)
                                  (Tr.ite
                                    (bEq
                                      (iLe
                                        (cmpTV
                                          (lockLL
                                            (lockLL
                                              (shutLL
                                                (xSub (lockLL (lockLL (cutT (lockLL t)))) 0
                                                  (nNat (imin (xLen (lockLL (cutT (lockLL high)))) (xLen (lockLL (lockLL (cutT (lockLL t)))))))))))
                                          (lockLL (lockLL (lockLL (cutT (lockLL high))))))
                                        0)
                                      false)
                                    (Tr.ret (PV.bool true)) (Tr.ret (PV.bool false))))
                                Tr.fail)
                              Tr.fail)
                            Tr.fail)
                          Tr.fail)
                        Tr.fail)
                      Tr.fail)
                    Tr.fail)
                  Tr.fail)
                (Tr.ite
                  (okSub true (okPos (imin (xLen (lockLL (cutT (lockLL t)))) (xLen (lockLL (cutT (lockLL low)))))) 0
                    (nNat (imin (xLen (lockLL (cutT (lockLL t)))) (xLen (lockLL (cutT (lockLL low)))))) (nXs (lockLL (cutT (lockLL t)))))
                  (Tr.ite (okSize (lockLL (cutT (lockLL t))) 3)
                    (Tr.ite (okR cV (lockLL (xSub (lockLL (cutT (lockLL t))) 0 (nNat (imin (xLen (lockLL (cutT (lockLL t)))) (xLen (lockLL (cutT (lockLL low)))))))))
                      (Tr.ite (okR cV (lockLL (lockLL (cutT (lockLL low)))))
                        (Tr.ite
                          (iLe 0
                            (cmpTR (lockLL (xSub (lockLL (cutT (lockLL t))) 0 (nNat (imin (xLen (lockLL (cutT (lockLL t)))) (xLen (lockLL (cutT (lockLL low))))))))
                              (lockLL (lockLL (cutT (lockLL low))))))
                          (Tr.ite
                            (okSub true (okPos (imin (xLen (lockLL (cutT (lockLL t)))) (xLen (lockLL (cutT (lockLL high)))))) 0
                              (nNat (imin (xLen (lockLL (cutT (lockLL t)))) (xLen (lockLL (cutT (lockLL high)))))) (nXs (lockLL (cutT (lockLL t)))))
                            (Tr.ite (okSize (lockLL (cutT (lockLL t))) 3)
                              (Tr.ite (okR cV (lockLL (xSub (lockLL (cutT (lockLL t))) 0 (nNat (imin (xLen (lockLL (cutT (lockLL t)))) (xLen (lockLL (cutT (lockLL high)))))))))
                                (Tr.ite (okR cV (lockLL (lockLL (cutT (lockLL high)))))
                                  (Tr.ite
                                    (bEq false
                                      (iLe
                                        (cmpTR (lockLL (xSub (lockLL (cutT (lockLL t))) 0 (nNat (imin (xLen (lockLL (cutT (lockLL t)))) (xLen (lockLL (cutT (lockLL high))))))))
                                          (lockLL (lockLL (cutT (lockLL high)))))
                                        0))
                                    (Tr.ret (PV.bool true)) (Tr.ret (PV.bool false)))
                                  Tr.fail)
                                Tr.fail)
                              Tr.fail)
                            Tr.fail)
                          (Tr.ite (bEq false false) (Tr.ret (PV.bool true)) (Tr.ret (PV.bool false))))
                        Tr.fail)
                      Tr.fail)
                    Tr.fail)
                  Tr.fail))
              Tr.fail)
            Tr.fail)
          Tr.fail)
        Tr.fail)
      Tr.fail)
    Tr.fail)
  Tr.fail
theorem TWithinL_T (low : List (List PV)) (t : List (List PV)) (high : List (List PV)) : (tcall tbT G_TWithinL L_TWithinL Tryd.f5 [.sl low .non, .sl t .non, .sl high .non]).flat = TWithinL_Tr low t high := by kernel_rfl
noncomputable def TWithinL_W (low : List (List PV)) (t : List (List PV)) (high : List (List PV)) : Option PV := (TWithinL_Tr low t high).run
noncomputable def TWithinL_b (low : List (List PV)) (t : List (List PV)) (high : List (List PV)) : Bool := (gBool (gVal (TWithinL_W low t high)))
noncomputable def TWithinL_is0 (low : List (List PV)) (t : List (List PV)) (high : List (List PV)) : Bool := isW (TWithinL_W low t high) (.bool (TWithinL_b low t high))
noncomputable def F_TWithinL : List PV → Tr PV | [.sl low .non, .sl t .non, .sl high .non] => .ite (TWithinL_is0 low t high) (.ret (.bool (TWithinL_b low t high))) (.fail) | _ => .fail
theorem sim_TWithinL (gl : Nat → Option Obj) (hg : GlPow gl) : SimP Tryd.prog gl 5 fun args => (F_TWithinL args).run := by
  refine SimP.of_flat (G := G_TWithinL) (L := L_TWithinL) tbT_ok (gok_TWithinL gl hg ) noMixed Tryd.func5 rfl (by rfl) (by kernel_rfl) (loopOk_none (by kernel_rfl)) ?_
  intro args x h
  unfold F_TWithinL at h
  split at h
  · exact (congrArg Tr.run (TWithinL_T _ _ _)).trans (ite_isW h fun h => by cases h)
  · cases h
noncomputable def G_TTotal : GamT := ofL [(14, .pure F_awk), (15, .pure F_cutT), (16, .pure F_TCmp), (17, .pure F_Same)]
theorem gok_TTotal (gl : Nat → Option Obj) (hg : GlPow gl) : GamOk Tryd.prog gl (gam G_TTotal) := (gamOk_cons (sim_awk gl hg) (gamOk_cons (sim_cutT gl) (gamOk_cons (sim_TCmp gl) (gamOk_cons (sim_Same gl) gamOk_nil))))
noncomputable def L_TTotal : LpsT := fun r fr σ => .fail
noncomputable def TTotal_Tr (v : List (List PV)) (v2 : List (List PV)) (v3 : List (List PV)) : Tr PV := Tr.ite false (Tr.ret (PV.bool false))
  (Tr.ite (okR cV (lockLL v))
    (Tr.ite (okR cV (lockLL v2))
      (Tr.ite (okR cV (lockLL v3))
        (Tr.ite (okR cV (lockLL (lockLL (cutT (lockLL v)))))
          (Tr.ite (okR cV (lockLL (lockLL (cutT (lockLL v2)))))
            (Tr.ite (okR cV (lockLL (lockLL (cutT (lockLL v2)))))
              (Tr.ite (okR cV (lockLL (lockLL (cutT (lockLL v3)))))
                (Tr.ite (okR cV (lockLL (lockLL (cutT (lockLL v)))))
                  (Tr.ite (okR cV (lockLL (lockLL (cutT (lockLL v3)))))
                    (Tr.ite (iLt (cmpTV (lockLL (lockLL (cutT (lockLL v)))) (lockLL (lockLL (cutT (lockLL v2))))) (-1)) (Tr.ret (PV.bool false))
                      (Tr.ite (iLt 1 (cmpTV (lockLL (lockLL (cutT (lockLL v)))) (lockLL (lockLL (cutT (lockLL v2)))))) (Tr.ret (PV.bool false))
                        (Tr.ite (okR cV (lockLL (lockLL (cutT (lockLL v2)))))
                          (Tr.ite (okR cV (lockLL (lockLL (cutT (lockLL v)))))
                            (Tr.ite
                              (iNe (cmpTV (lockLL (lockLL (cutT (lockLL v)))) (lockLL (lockLL (cutT (lockLL v2)))))
                                (iSub .i64 0 (cmpTV (lockLL (lockLL (cutT (lockLL v2)))) (lockLL (lockLL (cutT (lockLL v)))))))
                              (Tr.ret (PV.bool false))
                              (Tr.ite (okR cV (lockLL (lockLL (cutT (lockLL v)))))
                                (Tr.ite (okR cV (lockLL (lockLL (cutT (lockLL v2)))))
                                  (Tr.ite
                                    (bNot
                                      (bEq (iEq (cmpTV (lockLL (lockLL (cutT (lockLL v)))) (lockLL (lockLL (cutT (lockLL v2))))) 0)
                                        (iEq (cmpTR (lockLL (lockLL (cutT (lockLL v)))) (lockLL (lockLL (cutT (lockLL v2))))) 0)))
                                    (Tr.ret (PV.bool false))
                                    (Tr.ite (iLe (cmpTV (lockLL (lockLL (cutT (lockLL v)))) (lockLL (lockLL (cutT (lockLL v2))))) 0)
                                      (Tr.ite (iLe (cmpTV (lockLL (lockLL (cutT (lockLL v2)))) (lockLL (lockLL (cutT (lockLL v3))))) 0)
                                        (Tr.ite (iLt 0 (cmpTV (lockLL (lockLL (cutT (lockLL v)))) (lockLL (lockLL (cutT (lockLL v3)))))) (Tr.ret (PV.bool false))
                                          (Tr.ite (iLt (cmpTV (lockLL (lockLL (cutT (lockLL v)))) (lockLL (lockLL (cutT (lockLL v2))))) 0)
                                            (Tr.ite (iLe (cmpTV (lockLL (lockLL (cutT (lockLL v2)))) (lockLL (lockLL (cutT (lockLL v3))))) 0)
                                              (Tr.ite (iLe 0 (cmpTV (lockLL (lockLL (cutT (lockLL v)))) (lockLL (lockLL (cutT (lockLL v3)))))) (Tr.ret (PV.bool false))
                                                (Tr.ite (okGrow [] (cutT (lockLL v)) 32)
                                                  (Tr.ite (okNews (cutT (lockLL v)) 3)
                                                    (Tr.ite (okSize [] 3)
                                                      (Tr.ite (xNil (cutT (lockLL v)))
                                                        (Tr.ite (okGrow [] (cutT (lockLL v2)) 32)
                                                          (Tr.ite (okNews (cutT (lockLL v2)) 3)
                                                            (Tr.ite (okSize [] 3)
                                                              (Tr.ite (xNil (cutT (lockLL v2)))
                                                                (Tr.ite (okR cV (lockLL (lockLL (cutT (lockLL v)))))
                                                                  (Tr.ite (okR cV []) (Tr.ret (PV.bool (iLe (cmpTV (lockLL (lockLL (cutT (lockLL v)))) []) 0))) Tr.fail) Tr.fail)
                                                                (Tr.ite (okR cV (lockLL (lockLL (cutT (lockLL v)))))
                                                                  (Tr.ite (okR cV (lockLL (lockLL (xApp [] (cutT (lockLL v2))))))
                                                                    (Tr.ret
                                                                      (PV.bool (iLe (cmpTV (lockLL (lockLL (cutT (lockLL v)))) (lockLL (lockLL (xApp [] (cutT (lockLL v2)))))) 0)))
                                                                    Tr.fail)
                                                                  Tr.fail))
                                                              Tr.fail)
                                                            Tr.fail)
                                                          Tr.fail)
                                                        (Tr.ite (okGrow (xApp [] (cutT (lockLL v))) (cutT (lockLL v2)) 32)
                                                          (Tr.ite (okNews (cutT (lockLL v2)) 3)
                                                            (Tr.ite (okSize (xApp [] (cutT (lockLL v))) 3)
                                                              (Tr.ite (xNil (cutT (lockLL v2)))
                                                                (Tr.ite (okR cV (lockLL (lockLL (cutT (lockLL v)))))
                                                                  (Tr.ite (okR cV (lockLL (lockLL (xApp [] (cutT (lockLL v))))))
                                                                    (Tr.ret
                                                                      (PV.bool (iLe (cmpTV (lockLL (lockLL (cutT (lockLL v)))) (lockLL (lockLL (xApp [] (cutT (lockLL v)))))) 0)))
                                                                    Tr.fail)
                                                                  Tr.fail)
                                                                (Tr.ite (nEq (nXs (xApp [] (cutT (lockLL v)))) (nXs (xApp [] (cutT (lockLL v)))))
                                                                  (Tr.ite (okR cV (lockLL (lockLL (cutT (lockLL v)))))
                                                                    (Tr.ite (okR cV (lockLL (lockLL (xApp (xApp [] (cutT (lockLL v))) (cutT (lockLL v2))))))
                                                                      (Tr.ret
                                                                        (PV.bool
                                                                          (iLe
                                                                            (cmpTV (lockLL (lockLL (cutT (lockLL v))))
                                                                              (lockLL (lockLL (xApp (xApp [] (cutT (lockLL v))) (cutT (lockLL v2))))))
                                                                            0)))
                                                                      Tr.fail)
                                                                    Tr.fail)
                                                                  Tr.fail))
                                                              Tr.fail)
                                                            Tr.fail)
                                                          Tr.fail))
                                                      Tr.fail)
                                                    Tr.fail)
                                                  Tr.fail))
                                              (Tr.ite (okGrow [] (cutT (lockLL v)) 32)
                                                (Tr.ite (okNews (cutT (lockLL v)) 3)
                                                  (Tr.ite (okSize [] 3)
                                                    (Tr.ite (xNil (cutT (lockLL v)))
                                                      (Tr.ite (okGrow [] (cutT (lockLL v2)) 32)
                                                        (Tr.ite (okNews (cutT (lockLL v2)) 3)
                                                          (Tr.ite (okSize [] 3)
                                                            (Tr.ite (xNil (cutT (lockLL v2)))
                                                              (Tr.ite (okR cV (lockLL (lockLL (cutT (lockLL v)))))
                                                                (Tr.ite (okR cV []) (Tr.ret (PV.bool (iLe (cmpTV (lockLL (lockLL (cutT (lockLL v)))) []) 0))) Tr.fail) Tr.fail)
                                                              (Tr.ite (okR cV (lockLL (lockLL (cutT (lockLL v)))))
                                                                (Tr.ite (okR cV (lockLL (lockLL (xApp [] (cutT (lockLL v2))))))
                                                                  (Tr.ret
                                                                    (PV.bool (iLe (cmpTV (lockLL (lockLL (cutT (lockLL v)))) (lockLL (lockLL (xApp [] (cutT (lockLL v2)))))) 0)))
                                                                  Tr.fail)
                                                                Tr.fail))
                                                            Tr.fail)
                                                          Tr.fail)
                                                        Tr.fail)
                                                      (Tr.ite (okGrow (xApp [] (cutT (lockLL v))) (cutT (lockLL v2)) 32)
                                                        (Tr.ite (okNews (cutT (lockLL v2)) 3)
                                                          (Tr.ite (okSize (xApp [] (cutT (lockLL v))) 3)
                                                            (Tr.ite (xNil (cutT (lockLL v2)))
                                                              (Tr.ite (okR cV (lockLL (lockLL (cutT (lockLL v)))))
                                                                (Tr.ite (okR cV (lockLL (lockLL (xApp [] (cutT (lockLL v))))))
                                                                  (Tr.ret
                                                                    (PV.bool (iLe (cmpTV (lockLL (lockLL (cutT (lockLL v)))) (lockLL (lockLL (xApp [] (cutT (lockLL v)))))) 0)))
                                                                  Tr.fail)
                                                                Tr.fail)
                                                              (Tr.ite (nEq (nXs (xApp [] (cutT (lockLL v)))) (nXs (xApp [] (cutT (lockLL v)))))
                                                                (Tr.ite (okR cV (lockLL (lockLL (cutT (lockLL v)))))
                                                                  (Tr.ite (okR cV (lockLL (lockLL (xApp (xApp [] (cutT (lockLL v))) (cutT (lockLL v2))))))
                                                                    (Tr.ret
                                                                      (PV.bool
                                                                        (iLe
                                                                          (cmpTV (lockLL (lockLL (cutT (lockLL v))))
                                                                            (lockLL (lockLL (xApp (xApp [] (cutT (lockLL v))) (cutT (lockLL v2))))))
                                                                          0)))
                                                                    Tr.fail)
                                                                  Tr.fail)
                                                                Tr.fail))
                                                            Tr.fail)
                                                          Tr.fail)
                                                        Tr.fail))
                                                    Tr.fail)
                                                  Tr.fail)
                                                Tr.fail))
                                            (Tr.ite (okGrow [] (cutT (lockLL v)) 32)
                                              (Tr.ite (okNews (cutT (lockLL v)) 3)
                                                (Tr.ite (okSize [] 3)
                                                  (Tr.ite (xNil (cutT (lockLL v)))
                                                    (Tr.ite (okGrow [] (cutT (lockLL v2)) 32)
                                                      (Tr.ite (okNews (cutT (lockLL v2)) 3)
                                                        (Tr.ite (okSize [] 3)
                                                          (Tr.ite (xNil (cutT (lockLL v2)))
                                                            (Tr.ite (okR cV (lockLL (lockLL (cutT (lockLL v)))))
                                                              (Tr.ite (okR cV []) (Tr.ret (PV.bool (iLe (cmpTV (lockLL (lockLL (cutT (lockLL v)))) []) 0))) Tr.fail) Tr.fail)
                                                            (Tr.ite (okR cV (lockLL (lockLL (cutT (lockLL v)))))
                                                              (Tr.ite (okR cV (lockLL (lockLL (xApp [] (cutT (lockLL v2))))))
                                                                (Tr.ret
                                                                  (PV.bool (iLe (cmpTV (lockLL (lockLL (cutT (lockLL v)))) (lockLL (lockLL (xApp [] (cutT (lockLL v2)))))) 0)))
                                                                Tr.fail)
                                                              Tr.fail))
                                                          Tr.fail)
                                                        Tr.fail)
                                                      Tr.fail)
                                                    (Tr.ite (okGrow (xApp [] (cutT (lockLL v))) (cutT (lockLL v2)) 32)
                                                      (Tr.ite (okNews (cutT (lockLL v2)) 3)
                                                        (Tr.ite (okSize (xApp [] (cutT (lockLL v))) 3)
                                                          (Tr.ite (xNil (cutT (lockLL v2)))
                                                            (Tr.ite (okR cV (lockLL (lockLL (cutT (lockLL v)))))
                                                              (Tr.ite (okR cV (lockLL (lockLL (xApp [] (cutT (lockLL v))))))
                                                                (Tr.ret (PV.bool (iLe (cmpTV (lockLL (lockLL (cutT (lockLL v)))) (lockLL (lockLL (xApp [] (cutT (lockLL v)))))) 0)))
                                                                Tr.fail)
                                                              Tr.fail)
                                                            (Tr.ite (nEq (nXs (xApp [] (cutT (lockLL v)))) (nXs (xApp [] (cutT (lockLL v)))))
                                                              (Tr.ite (okR cV (lockLL (lockLL (cutT (lockLL v)))))
                                                                (Tr.ite (okR cV (lockLL (lockLL (xApp (xApp [] (cutT (lockLL v))) (cutT (lockLL v2))))))
                                                                  (Tr.ret
                                                                    (PV.bool
                                                                      (iLe
                                                                        (cmpTV (lockLL (lockLL (cutT (lockLL v))))
                                                                          (lockLL (lockLL (xApp (xApp [] (cutT (lockLL v))) (cutT (lockLL v2))))))
                                                                        0)))
                                                                  Tr.fail)
                                                                Tr.fail)
                                                              Tr.fail))
                                                          Tr.fail)
                                                        Tr.fail)
                                                      Tr.fail))
                                                  Tr.fail)
                                                Tr.fail)
                                              Tr.fail)))
                                        (Tr.ite (iLt (cmpTV (lockLL (lockLL (cutT (lockLL v)))) (lockLL (lockLL (cutT (lockLL v2))))) 0)
                                          (Tr.ite (iLe (cmpTV (lockLL (lockLL (cutT (lockLL v2)))) (lockLL (lockLL (cutT (lockLL v3))))) 0)
                                            (Tr.ite (iLe 0 (cmpTV (lockLL (lockLL (cutT (lockLL v)))) (lockLL (lockLL (cutT (lockLL v3)))))) (Tr.ret (PV.bool false))
                                              (Tr.ite (okGrow [] (cutT (lockLL v)) 32)
                                                (Tr.ite (okNews (cutT (lockLL v)) 3)
                                                  (Tr.ite (okSize [] 3)
                                                    (Tr.ite (xNil (cutT (lockLL v)))
                                                      (Tr.ite (okGrow [] (cutT (lockLL v2)) 32)
                                                        (Tr.ite (okNews (cutT (lockLL v2)) 3)
                                                          (Tr.ite (okSize [] 3)
                                                            (Tr.ite (xNil (cutT (lockLL v2)))
                                                              (Tr.ite (okR cV (lockLL (lockLL (cutT (lockLL v)))))
                                                                (Tr.ite (okR cV []) (Tr.ret (PV.bool (iLe (cmpTV (lockLL (lockLL (cutT (lockLL v)))) []) 0))) Tr.fail) Tr.fail)
                                                              (Tr.ite (okR cV (lockLL (lockLL (cutT (lockLL v)))))
                                                                (Tr.ite (okR cV (lockLL (lockLL (xApp [] (cutT (lockLL v2))))))
                                                                  (Tr.ret
                                                                    (PV.bool (iLe (cmpTV (lockLL (lockLL (cutT (lockLL v)))) (lockLL (lockLL (xApp [] (cutT (lockLL v2)))))) 0)))
                                                                  Tr.fail)
                                                                Tr.fail))
                                                            Tr.fail)
                                                          Tr.fail)
                                                        Tr.fail)
                                                      (Tr.ite (okGrow (xApp [] (cutT (lockLL v))) (cutT (lockLL v2)) 32)
                                                        (Tr.ite (okNews (cutT (lockLL v2)) 3)
                                                          (Tr.ite (okSize (xApp [] (cutT (lockLL v))) 3)
                                                            (Tr.ite (xNil (cutT (lockLL v2)))
                                                              (Tr.ite (okR cV (lockLL (lockLL (cutT (lockLL v)))))
                                                                (Tr.ite (okR cV (lockLL (lockLL (xApp [] (cutT (lockLL v))))))
                                                                  (Tr.ret
                                                                    (PV.bool (iLe (cmpTV (lockLL (lockLL (cutT (lockLL v)))) (lockLL (lockLL (xApp [] (cutT (lockLL v)))))) 0)))
                                                                  Tr.fail)
                                                                Tr.fail)
                                                              (Tr.ite (nEq (nXs (xApp [] (cutT (lockLL v)))) (nXs (xApp [] (cutT (lockLL v)))))
                                                                (Tr.ite (okR cV (lockLL (lockLL (cutT (lockLL v)))))
                                                                  (Tr.ite (okR cV (lockLL (lockLL (xApp (xApp [] (cutT (lockLL v))) (cutT (lockLL v2))))))
                                                                    (Tr.ret
                                                                      (PV.bool
                                                                        (iLe
                                                                          (cmpTV (lockLL (lockLL (cutT (lockLL v))))
                                                                            (lockLL (lockLL (xApp (xApp [] (cutT (lockLL v))) (cutT (lockLL v2))))))
                                                                          0)))
                                                                    Tr.fail)
                                                                  Tr.fail)
                                                                Tr.fail))
                                                            Tr.fail)
                                                          Tr.fail)
                                                        Tr.fail))
                                                    Tr.fail)
                                                  Tr.fail)
                                                Tr.fail))
                                            (Tr.ite (okGrow [] (cutT (lockLL v)) 32)
                                              (Tr.ite (okNews (cutT (lockLL v)) 3)
                                                (Tr.ite (okSize [] 3)
                                                  (Tr.ite (xNil (cutT (lockLL v)))
                                                    (Tr.ite (okGrow [] (cutT (lockLL v2)) 32)
                                                      (Tr.ite (okNews (cutT (lockLL v2)) 3)
                                                        (Tr.ite (okSize [] 3)
                                                          (Tr.ite (xNil (cutT (lockLL v2)))
                                                            (Tr.ite (okR cV (lockLL (lockLL (cutT (lockLL v)))))
                                                              (Tr.ite (okR cV []) (Tr.ret (PV.bool (iLe (cmpTV (lockLL (lockLL (cutT (lockLL v)))) []) 0))) Tr.fail) Tr.fail)
                                                            (Tr.ite (okR cV (lockLL (lockLL (cutT (lockLL v)))))
                                                              (Tr.ite (okR cV (lockLL (lockLL (xApp [] (cutT (lockLL v2))))))
                                                                (Tr.ret
                                                                  (PV.bool (iLe (cmpTV (lockLL (lockLL (cutT (lockLL v)))) (lockLL (lockLL (xApp [] (cutT (lockLL v2)))))) 0)))
                                                                Tr.fail)
                                                              Tr.fail))
                                                          Tr.fail)
                                                        Tr.fail)
                                                      Tr.fail)
                                                    (Tr.ite (okGrow (xApp [] (cutT (lockLL v))) (cutT (lockLL v2)) 32)
                                                      (Tr.ite (okNews (cutT (lockLL v2)) 3)
                                                        (Tr.ite (okSize (xApp [] (cutT (lockLL v))) 3)
                                                          (Tr.ite (xNil (cutT (lockLL v2)))
                                                            (Tr.ite (okR cV (lockLL (lockLL (cutT (lockLL v)))))
                                                              (Tr.ite (okR cV (lockLL (lockLL (xApp [] (cutT (lockLL v))))))
                                                                (Tr.ret (PV.bool (iLe (cmpTV (lockLL (lockLL (cutT (lockLL v)))) (lockLL (lockLL (xApp [] (cutT (lockLL v)))))) 0)))
                                                                Tr.fail)
                                                              Tr.fail)
                                                            (Tr.ite (nEq (nXs (xApp [] (cutT (lockLL v)))) (nXs (xApp [] (cutT (lockLL v)))))
                                                              (Tr.ite (okR cV (lockLL (lockLL (cutT (lockLL v)))))
                                                                (Tr.ite (okR cV (lockLL (lockLL (xApp (xApp [] (cutT (lockLL v))) (cutT (lockLL v2))))))
                                                                  (Tr.ret
                                                                    (PV.bool
                                                                      (iLe
                                                                        (cmpTV (lockLL (lockLL (cutT (lockLL v))))
                                                                          (lockLL (lockLL (xApp (xApp [] (cutT (lockLL v))) (cutT (lockLL v2))))))
                                                                        0)))
                                                                  Tr.fail)
                                                                Tr.fail)
                                                              Tr.fail))
                                                          Tr.fail)
                                                        Tr.fail)
                                                      Tr.fail))
                                                  Tr.fail)
                                                Tr.fail)
                                              Tr.fail))
                                          (Tr.ite (okGrow [] (cutT (lockLL v)) 32)
                                            (Tr.ite (okNews (cutT (lockLL v)) 3)
                                              (Tr.ite (okSize [] 3)
                                                (Tr.ite (xNil (cutT (lockLL v)))
                                                  (Tr.ite (okGrow [] (cutT (lockLL v2)) 32)
                                                    (Tr.ite (okNews (cutT (lockLL v2)) 3)
                                                      (Tr.ite (okSize [] 3)
                                                        (Tr.ite (xNil (cutT (lockLL v2)))
                                                          (Tr.ite (okR cV (lockLL (lockLL (cutT (lockLL v)))))
                                                            (Tr.ite (okR cV []) (Tr.ret (PV.bool (iLe (cmpTV (lockLL (lockLL (cutT (lockLL v)))) []) 0))) Tr.fail) Tr.fail)
                                                          (Tr.ite (okR cV (lockLL (lockLL (cutT (lockLL v)))))
                                                            (Tr.ite (okR cV (lockLL (lockLL (xApp [] (cutT (lockLL v2))))))
                                                              (Tr.ret (PV.bool (iLe (cmpTV (lockLL (lockLL (cutT (lockLL v)))) (lockLL (lockLL (xApp [] (cutT (lockLL v2)))))) 0)))
                                                              Tr.fail)
                                                            Tr.fail))
                                                        Tr.fail)
                                                      Tr.fail)
                                                    Tr.fail)
                                                  (Tr.ite (okGrow (xApp [] (cutT (lockLL v))) (cutT (lockLL v2)) 32)
                                                    (Tr.ite (okNews (cutT (lockLL v2)) 3)
                                                      (Tr.ite (okSize (xApp [] (cutT (lockLL v))) 3)
                                                        (Tr.ite (xNil (cutT (lockLL v2)))
                                                          (Tr.ite (okR cV (lockLL (lockLL (cutT (lockLL v)))))
                                                            (Tr.ite (okR cV (lockLL (lockLL (xApp [] (cutT (lockLL v))))))
                                                              (Tr.ret (PV.bool (iLe (cmpTV (lockLL (lockLL (cutT (lockLL v)))) (lockLL (lockLL (xApp [] (cutT (lockLL v)))))) 0)))
                                                              Tr.fail)
                                                            Tr.fail)
                                                          (Tr.ite (nEq (nXs (xApp [] (cutT (lockLL v)))) (nXs (xApp [] (cutT (lockLL v)))))
                                                            (Tr.ite (okR cV (lockLL (lockLL (cutT (lockLL v)))))
                                                              (Tr.ite (okR cV (lockLL (lockLL (xApp (xApp [] (cutT (lockLL v))) (cutT (lockLL v2))))))
                                                                (Tr.ret
                                                                  (PV.bool
                                                                    (iLe
                                                                      (cmpTV (lockLL (lockLL (cutT (lockLL v))))
                                                                        (lockLL (lockLL (xApp (xApp [] (cutT (lockLL v))) (cutT (lockLL v2))))))
                                                                      0)))
                                                                Tr.fail)
                                                              Tr.fail)
                                                            Tr.fail))
                                                        Tr.fail)
                                                      Tr.fail)
                                                    Tr.fail))
                                                Tr.fail)
                                              Tr.fail)
                                            Tr.fail)))
                                      (Tr.ite (iLt (cmpTV (lockLL (lockLL (cutT (lockLL v)))) (lockLL (lockLL (cutT (lockLL v2))))) 0)
                                        (Tr.ite (iLe (cmpTV (lockLL (lockLL (cutT (lockLL v2)))) (lockLL (lockLL (cutT (lockLL v3))))) 0)
                                          (Tr.ite (iLe 0 (cmpTV (lockLL (lockLL (cutT (lockLL v)))) (lockLL (lockLL (cutT (lockLL v3)))))) (Tr.ret (PV.bool false))
                                            (Tr.ite (okGrow [] (cutT (lockLL v)) 32)
                                              (Tr.ite (okNews (cutT (lockLL v)) 3)
                                                (Tr.ite (okSize [] 3)
                                                  (Tr.ite (xNil (cutT (lockLL v)))
                                                    (Tr.ite (okGrow [] (cutT (lockLL v2)) 32)
                                                      (Tr.ite (okNews (cutT (lockLL v2)) 3)
                                                        (Tr.ite (okSize [] 3)
                                                          (Tr.ite (xNil (cutT (lockLL v2)))
                                                            (Tr.ite (okR cV (lockLL (lockLL (cutT (lockLL v)))))
                                                              (Tr.ite (okR cV []) (Tr.ret (PV.bool (iLe (cmpTV (lockLL (lockLL (cutT (lockLL v)))) []) 0))) Tr.fail) Tr.fail)
                                                            (Tr.ite (okR cV (lockLL (lockLL (cutT (lockLL v)))))
                                                              (Tr.ite (okR cV (lockLL (lockLL (xApp [] (cutT (lockLL v2))))))
                                                                (Tr.ret
                                                                  (PV.bool (iLe (cmpTV (lockLL (lockLL (cutT (lockLL v)))) (lockLL (lockLL (xApp [] (cutT (lockLL v2)))))) 0)))
                                                                Tr.fail)
                                                              Tr.fail))
                                                          Tr.fail)
                                                        Tr.fail)
                                                      Tr.fail)
                                                    (Tr.ite (okGrow (xApp [] (cutT (lockLL v))) (cutT (lockLL v2)) 32)
                                                      (Tr.ite (okNews (cutT (lockLL v2)) 3)
                                                        (Tr.ite (okSize (xApp [] (cutT (lockLL v))) 3)
                                                          (Tr.ite (xNil (cutT (lockLL v2)))
                                                            (Tr.ite (okR cV (lockLL (lockLL (cutT (lockLL v)))))
                                                              (Tr.ite (okR cV (lockLL (lockLL (xApp [] (cutT (lockLL v))))))
                                                                (Tr.ret (PV.bool (iLe (cmpTV (lockLL (lockLL (cutT (lockLL v)))) (lockLL (lockLL (xApp [] (cutT (lockLL v)))))) 0)))
                                                                Tr.fail)
                                                              Tr.fail)
                                                            (Tr.ite (nEq (nXs (xApp [] (cutT (lockLL v)))) (nXs (xApp [] (cutT (lockLL v)))))
                                                              (Tr.ite (okR cV (lockLL (lockLL (cutT (lockLL v)))))
                                                                (Tr.ite (okR cV (lockLL (lockLL (xApp (xApp [] (cutT (lockLL v))) (cutT (lockLL v2))))))
                                                                  (Tr.ret
                                                                    (PV.bool
                                                                      (iLe
                                                                        (cmpTV (lockLL (lockLL (cutT (lockLL v))))
                                                                          (lockLL (lockLL (xApp (xApp [] (cutT (lockLL v))) (cutT (lockLL v2))))))
                                                                        0)))
                                                                  Tr.fail)
                                                                Tr.fail)
                                                              Tr.fail))
                                                          Tr.fail)
                                                        Tr.fail)
                                                      Tr.fail))
                                                  Tr.fail)
                                                Tr.fail)
                                              Tr.fail))
                                          (Tr.ite (okGrow [] (cutT (lockLL v)) 32)
                                            (Tr.ite (okNews (cutT (lockLL v)) 3)
                                              (Tr.ite (okSize [] 3)
                                                (Tr.ite (xNil (cutT (lockLL v)))
                                                  (Tr.ite (okGrow [] (cutT (lockLL v2)) 32)
                                                    (Tr.ite (okNews (cutT (lockLL v2)) 3)
                                                      (Tr.ite (okSize [] 3)
                                                        (Tr.ite (xNil (cutT (lockLL v2)))
                                                          (Tr.ite (okR cV (lockLL (lockLL (cutT (lockLL v)))))
                                                            (Tr.ite (okR cV []) (Tr.ret (PV.bool (iLe (cmpTV (lockLL (lockLL (cutT (lockLL v)))) []) 0))) Tr.fail) Tr.fail)
                                                          (Tr.ite (okR cV (lockLL (lockLL (cutT (lockLL v)))))
                                                            (Tr.ite (okR cV (lockLL (lockLL (xApp [] (cutT (lockLL v2))))))
                                                              (Tr.ret (PV.bool (iLe (cmpTV (lockLL (lockLL (cutT (lockLL v)))) (lockLL (lockLL (xApp [] (cutT (lockLL v2)))))) 0)))
                                                              Tr.fail)
                                                            Tr.fail))
                                                        Tr.fail)
                                                      Tr.fail)
                                                    Tr.fail)
                                                  (Tr.ite (okGrow (xApp [] (cutT (lockLL v))) (cutT (lockLL v2)) 32)
                                                    (Tr.ite (okNews (cutT (lockLL v2)) 3)
                                                      (Tr.ite (okSize (xApp [] (cutT (lockLL v))) 3)
                                                        (Tr.ite (xNil (cutT (lockLL v2)))
                                                          (Tr.ite (okR cV (lockLL (lockLL (cutT (lockLL v)))))
                                                            (Tr.ite (okR cV (lockLL (lockLL (xApp [] (cutT (lockLL v))))))
                                                              (Tr.ret (PV.bool (iLe (cmpTV (lockLL (lockLL (cutT (lockLL v)))) (lockLL (lockLL (xApp [] (cutT (lockLL v)))))) 0)))
                                                              Tr.fail)
                                                            Tr.fail)
                                                          (Tr.ite (nEq (nXs (xApp [] (cutT (lockLL v)))) (nXs (xApp [] (cutT (lockLL v)))))
                                                            (Tr.ite (okR cV (lockLL (lockLL (cutT (lockLL v)))))
                                                              (Tr.ite (okR cV (lockLL (lockLL (xApp (xApp [] (cutT (lockLL v))) (cutT (lockLL v2))))))
                                                                (Tr.ret
                                                                  (PV.bool
                                                                    (iLe
                                                                      (cmpTV (lockLL (lockLL (cutT (lockLL v))))
                                                                        (lockLL (lockLL (xApp (xApp [] (cutT (lockLL v))) (cutT (lockLL v2))))))
                                                                      0)))
                                                                Tr.fail)
                                                              Tr.fail)
                                                            Tr.fail))
                                                        Tr.fail)
                                                      Tr.fail)
                                                    Tr.fail))
                                                Tr.fail)
                                              Tr.fail)
                                            Tr.fail))
                                        (Tr.ite (okGrow [] (cutT (lockLL v)) 32)
                                          (Tr.ite (okNews (cutT (lockLL v)) 3)
                                            (Tr.ite (okSize [] 3)
                                              (Tr.ite (xNil (cutT (lockLL v)))
                                                (Tr.ite (okGrow [] (cutT (lockLL v2)) 32)
                                                  (Tr.ite (okNews (cutT (lockLL v2)) 3)
                                                    (Tr.ite (okSize [] 3)
                                                      (Tr.ite (xNil (cutT (lockLL v2)))
                                                        (Tr.ite (okR cV (lockLL (lockLL (cutT (lockLL v)))))
                                                          (Tr.ite (okR cV []) (Tr.ret (PV.bool (iLe (cmpTV (lockLL (lockLL (cutT (lockLL v)))) []) 0))) Tr.fail) Tr.fail)
                                                        (Tr.ite (okR cV (lockLL (lockLL (cutT (lockLL v)))))
                                                          (Tr.ite (okR cV (lockLL (lockLL (xApp [] (cutT (lockLL v2))))))
                                                            (Tr.ret (PV.bool (iLe (cmpTV (lockLL (lockLL (cutT (lockLL v)))) (lockLL (lockLL (xApp [] (cutT (lockLL v2)))))) 0)))
                                                            Tr.fail)
                                                          Tr.fail))
                                                      Tr.fail)
                                                    Tr.fail)
                                                  Tr.fail)
                                                (Tr.ite (okGrow (xApp [] (cutT (lockLL v))) (cutT (lockLL v2)) 32)
                                                  (Tr.ite (okNews (cutT (lockLL v2)) 3)
                                                    (Tr.ite (okSize (xApp [] (cutT (lockLL v))) 3)
                                                      (Tr.ite (xNil (cutT (lockLL v2)))
                                                        (Tr.ite (okR cV (lockLL (lockLL (cutT (lockLL v)))))
                                                          (Tr.ite (okR cV (lockLL (lockLL (xApp [] (cutT (lockLL v))))))
                                                            (Tr.ret (PV.bool (iLe (cmpTV (lockLL (lockLL (cutT (lockLL v)))) (lockLL (lockLL (xApp [] (cutT (lockLL v)))))) 0)))
                                                            Tr.fail)
                                                          Tr.fail)
                                                        (Tr.ite (nEq (nXs (xApp [] (cutT (lockLL v)))) (nXs (xApp [] (cutT (lockLL v)))))
                                                          (Tr.ite (okR cV (lockLL (lockLL (cutT (lockLL v)))))
                                                            (Tr.ite (okR cV (lockLL (lockLL (xApp (xApp [] (cutT (lockLL v))) (cutT (lockLL v2))))))
                                                              (Tr.ret
                                                                (PV.bool
                                                                  (iLe
                                                                    (cmpTV (lockLL (lockLL (cutT (lockLL v))))
                                                                      (lockLL (lockLL (xApp (xApp [] (cutT (lockLL v))) (cutT (lockLL v2))))))
                                                                    0)))
                                                              Tr.fail)
                                                            Tr.fail)
                                                          Tr.fail))
                                                      Tr.fail)
                                                    Tr.fail)
                                                  Tr.fail))
                                              Tr.fail)
                                            Tr.fail)
                                          Tr.fail))))
                                  Tr.fail)
                                Tr.fail))
                            Tr.fail)
                          Tr.fail)))
                    Tr.fail)
                  Tr.fail)
                Tr.fail)
              Tr.fail)
            Tr.fail)
          Tr.fail)
        Tr.fail)
      Tr.fail)
    Tr.fail)
theorem TTotal_T (v : List (List PV)) (v2 : List (List PV)) (v3 : List (List PV)) : (tcall tbT G_TTotal L_TTotal Tryd.f3 [.sl v .non, .sl v2 .non, .sl v3 .non]).flat = TTotal_Tr v v2 v3 := by kernel_rfl
noncomputable def TTotal_W (v : List (List PV)) (v2 : List (List PV)) (v3 : List (List PV)) : Option PV := (TTotal_Tr v v2 v3).run
noncomputable def TTotal_b (v : List (List PV)) (v2 : List (List PV)) (v3 : List (List PV)) : Bool := (gBool (gVal (TTotal_W v v2 v3)))
noncomputable def TTotal_is0 (v : List (List PV)) (v2 : List (List PV)) (v3 : List (List PV)) : Bool := isW (TTotal_W v v2 v3) (.bool (TTotal_b v v2 v3))
noncomputable def F_TTotal : List PV → Tr PV | [.sl v .non, .sl v2 .non, .sl v3 .non] => .ite (TTotal_is0 v v2 v3) (.ret (.bool (TTotal_b v v2 v3))) (.fail) | _ => .fail
theorem sim_TTotal (gl : Nat → Option Obj) (hg : GlPow gl) : SimP Tryd.prog gl 3 fun args => (F_TTotal args).run := by
  refine SimP.of_flat (G := G_TTotal) (L := L_TTotal) tbT_ok (gok_TTotal gl hg ) noMixed Tryd.func3 rfl (by rfl) (by kernel_rfl) (loopOk_none (by kernel_rfl)) ?_
  intro args x h
  unfold F_TTotal at h
  split at h
  · exact (congrArg Tr.run (TTotal_T _ _ _)).trans (ite_isW h fun h => by cases h)
  · cases h
noncomputable def G_TMatches : GamT := ofL [(14, .pure F_awk), (15, .pure F_cutT), (18, .pure F_Mt), (24, .pure F_few), (27, .pure F_RM), (28, .pure F_TPat), (29, .pure F_RPat), (30, .pure F_SameB), (31, .pure F_SameRel), (32, .pure F_TSel), (33, .pure F_RSel)]
theorem gok_TMatches (gl : Nat → Option Obj) (hg : GlPow gl) : GamOk Tryd.prog gl (gam G_TMatches) := (gamOk_cons (sim_awk gl hg) (gamOk_cons (sim_cutT gl) (gamOk_cons (sim_Mt gl) (gamOk_cons (sim_few gl) (gamOk_cons (sim_RM gl) (gamOk_cons (sim_TPat gl) (gamOk_cons (sim_RPat gl) (gamOk_cons (sim_SameB gl) (gamOk_cons (sim_SameRel gl) (gamOk_cons (sim_TSel gl) (gamOk_cons (sim_RSel gl) gamOk_nil)))))))))))
noncomputable def L_TMatches : LpsT := fun r fr σ => .fail
noncomputable def TMatches_Tr (p_ : List (List PV)) (t : List (List PV)) (l : List (List PV)) : Tr PV := Tr.ite (okR cV (lockLL t))
  (Tr.ite (few_is0 (lockLL l))
    (Tr.ite (iLt 20 (xLen p_))
      (Tr.ite (okSub true (okPos 20) 0 (nNat 20) (nXs p_))
        (Tr.ite (okSize p_ 5)
          (Tr.ite (okR cM (lockLL (xSub p_ 0 (nNat 20))))
            (Tr.ite (okR cV (lockLL (cutT (lockLL t))))
              (Tr.ite (okMT (lockLL (xSub p_ 0 (nNat 20))) (lockLL (cutT (lockLL t))))
                (Tr.ite (okR cM (lockLL (xSub p_ 0 (nNat 20))))
                  (Tr.ite (okR cV (lockLL (cutT (lockLL t))))
                    (Tr.ite (okMT (lockLL (xSub p_ 0 (nNat 20))) (lockLL (cutT (lockLL t))))
                      (Tr.ite (okR cM (lockLL (xSub p_ 0 (nNat 20))))
                        (Tr.ite (okR cM (lockLL (xSub p_ 0 (nNat 20))))
                          (Tr.ite (iEq (chkP (lockLL (xSub p_ 0 (nNat 20)))) (chkP (lockLL (xSub p_ 0 (nNat 20)))))
                            (Tr.ite (okR cB (lockLL (mTV (lockLL (xSub p_ 0 (nNat 20))) (lockLL (cutT (lockLL t))))))
                              (Tr.ite (okR cB (lockLL (mTV (lockLL (xSub p_ 0 (nNat 20))) (lockLL (cutT (lockLL t))))))
                                (Tr.ite
                                  (eqRB (lockLL (mTV (lockLL (xSub p_ 0 (nNat 20))) (lockLL (cutT (lockLL t)))))
                                    (lockLL (mTV (lockLL (xSub p_ 0 (nNat 20))) (lockLL (cutT (lockLL t))))))
                                  (Tr.ite (bEq true true)
                                    (Tr.ite (TSel_is0 (lockLL (few_r (lockLL l))) (lockLL (xSub p_ 0 (nNat 20))))
                                      (Tr.ite (RSel_is0 (lockLL (few_r (lockLL l))) (lockLL (xSub p_ 0 (nNat 20))))
                                        (Tr.ite
                                          (SameRel_is0 (lockLL (TSel_r (lockLL (few_r (lockLL l))) (lockLL (xSub p_ 0 (nNat 20)))))
                                            (lockLL (RSel_r (lockLL (few_r (lockLL l))) (lockLL (xSub p_ 0 (nNat 20))))))
                                          (Tr.ite
                                            (SameRel_b (lockLL (TSel_r (lockLL (few_r (lockLL l))) (lockLL (xSub p_ 0 (nNat 20)))))
                                              (lockLL (RSel_r (lockLL (few_r (lockLL l))) (lockLL (xSub p_ 0 (nNat 20))))))
                                            (Tr.ret (PV.bool true)) (Tr.ret (PV.bool false)))
                                          Tr.fail)
                                        Tr.fail)
                                      Tr.fail)
                                    (Tr.ret (PV.bool false)))
                                  (Tr.ret (PV.bool false)))
                                Tr.fail)
                              Tr.fail)
                            (Tr.ret (PV.bool false)))
                          Tr.fail)
                        Tr.fail)
                      (Tr.ite (okR cM (lockLL (xSub p_ 0 (nNat 20))))
                        (Tr.ite (okR cM (lockLL (xSub p_ 0 (nNat 20))))
                          (Tr.ite (iEq (chkP (lockLL (xSub p_ 0 (nNat 20)))) (chkP (lockLL (xSub p_ 0 (nNat 20)))))
                            (Tr.ite (okR cB (lockLL (mTV (lockLL (xSub p_ 0 (nNat 20))) (lockLL (cutT (lockLL t))))))
                              (Tr.ite (okR cB [])
                                (Tr.ite (eqRB (lockLL (mTV (lockLL (xSub p_ 0 (nNat 20))) (lockLL (cutT (lockLL t))))) [])
                                  (Tr.ite (bEq true false)
                                    (Tr.ite (TSel_is0 (lockLL (few_r (lockLL l))) (lockLL (xSub p_ 0 (nNat 20))))
                                      (Tr.ite (RSel_is0 (lockLL (few_r (lockLL l))) (lockLL (xSub p_ 0 (nNat 20))))
                                        (Tr.ite
                                          (SameRel_is0 (lockLL (TSel_r (lockLL (few_r (lockLL l))) (lockLL (xSub p_ 0 (nNat 20)))))
                                            (lockLL (RSel_r (lockLL (few_r (lockLL l))) (lockLL (xSub p_ 0 (nNat 20))))))
                                          (Tr.ite
                                            (SameRel_b (lockLL (TSel_r (lockLL (few_r (lockLL l))) (lockLL (xSub p_ 0 (nNat 20)))))
                                              (lockLL (RSel_r (lockLL (few_r (lockLL l))) (lockLL (xSub p_ 0 (nNat 20))))))
                                            (Tr.ret (PV.bool true)) (Tr.ret (PV.bool false)))
                                          Tr.fail)
                                        Tr.fail)
                                      Tr.fail)
                                    (Tr.ret (PV.bool false)))
                                  (Tr.ret (PV.bool false)))
                                Tr.fail)
                              Tr.fail)
                            (Tr.ret (PV.bool false)))
                          Tr.fail)
                        Tr.fail))
                    Tr.fail)
                  Tr.fail)
                (Tr.ite (okR cM (lockLL (xSub p_ 0 (nNat 20))))
                  (Tr.ite (okR cV (lockLL (cutT (lockLL t))))
                    (Tr.ite (okMT (lockLL (xSub p_ 0 (nNat 20))) (lockLL (cutT (lockLL t))))
                      (Tr.ite (okR cM (lockLL (xSub p_ 0 (nNat 20))))
                        (Tr.ite (okR cM (lockLL (xSub p_ 0 (nNat 20))))
                          (Tr.ite (iEq (chkP (lockLL (xSub p_ 0 (nNat 20)))) (chkP (lockLL (xSub p_ 0 (nNat 20)))))
                            (Tr.ite (okR cB [])
                              (Tr.ite (okR cB (lockLL (mTV (lockLL (xSub p_ 0 (nNat 20))) (lockLL (cutT (lockLL t))))))
                                (Tr.ite (eqRB [] (lockLL (mTV (lockLL (xSub p_ 0 (nNat 20))) (lockLL (cutT (lockLL t))))))
                                  (Tr.ite (bEq false true)
                                    (Tr.ite (TSel_is0 (lockLL (few_r (lockLL l))) (lockLL (xSub p_ 0 (nNat 20))))
                                      (Tr.ite (RSel_is0 (lockLL (few_r (lockLL l))) (lockLL (xSub p_ 0 (nNat 20))))
                                        (Tr.ite
                                          (SameRel_is0 (lockLL (TSel_r (lockLL (few_r (lockLL l))) (lockLL (xSub p_ 0 (nNat 20)))))
                                            (lockLL (RSel_r (lockLL (few_r (lockLL l))) (lockLL (xSub p_ 0 (nNat 20))))))
                                          (Tr.ite
                                            (SameRel_b (lockLL (TSel_r (lockLL (few_r (lockLL l))) (lockLL (xSub p_ 0 (nNat 20)))))
                                              (lockLL (RSel_r (lockLL (few_r (lockLL l))) (lockLL (xSub p_ 0 (nNat 20))))))
                                            (Tr.ret (PV.bool true)) (Tr.ret (PV.bool false)))
                                          Tr.fail)
                                        Tr.fail)
                                      Tr.fail)
                                    (Tr.ret (PV.bool false)))
                                  (Tr.ret (PV.bool false)))
                                Tr.fail)
                              Tr.fail)
                            (Tr.ret (PV.bool false)))
                          Tr.fail)
                        Tr.fail)
                      (Tr.ite (okR cM (lockLL (xSub p_ 0 (nNat 20))))
                        (Tr.ite (okR cM (lockLL (xSub p_ 0 (nNat 20))))
                          (Tr.ite (iEq (chkP (lockLL (xSub p_ 0 (nNat 20)))) (chkP (lockLL (xSub p_ 0 (nNat 20)))))
                            (Tr.ite (okR cB [])
                              (Tr.ite (okR cB [])
                                (Tr.ite (eqRB [] [])
                                  (Tr.ite (bEq false false)
                                    (Tr.ite (TSel_is0 (lockLL (few_r (lockLL l))) (lockLL (xSub p_ 0 (nNat 20))))
                                      (Tr.ite (RSel_is0 (lockLL (few_r (lockLL l))) (lockLL (xSub p_ 0 (nNat 20))))
                                        (Tr.ite
                                          (SameRel_is0 (lockLL (TSel_r (lockLL (few_r (lockLL l))) (lockLL (xSub p_ 0 (nNat 20)))))
                                            (lockLL (RSel_r (lockLL (few_r (lockLL l))) (lockLL (xSub p_ 0 (nNat 20))))))
                                          (Tr.ite
                                            (SameRel_b (lockLL (TSel_r (lockLL (few_r (lockLL l))) (lockLL (xSub p_ 0 (nNat 20)))))
                                              (lockLL (RSel_r (lockLL (few_r (lockLL l))) (lockLL (xSub p_ 0 (nNat 20))))))
                                            (Tr.ret (PV.bool true)) (Tr.ret (PV.bool false)))
                                          Tr.fail)
                                        Tr.fail)
                                      Tr.fail)
                                    (Tr.ret (PV.bool false)))
                                  (Tr.ret (PV.bool false)))
                                Tr.fail)
                              Tr.fail)
                            (Tr.ret (PV.bool false)))
                          Tr.fail)
                        Tr.fail))
                    Tr.fail)
                  Tr.fail))
              Tr.fail)
            Tr.fail)
          Tr.fail)
        Tr.fail)
      (Tr.ite (okR cM (lockLL p_))
        (Tr.ite (okR cV (lockLL (cutT (lockLL t))))
          (Tr.ite (okMT (lockLL p_) (lockLL (cutT (lockLL t))))
            (Tr.ite (okR cM (lockLL p_))
              (Tr.ite (okR cV (lockLL (cutT (lockLL t))))
                (Tr.ite (okMT (lockLL p_) (lockLL (cutT (lockLL t))))
                  (Tr.ite (okR cM (lockLL p_))
                    (Tr.ite (okR cM (lockLL p_))
                      (Tr.ite (iEq (chkP (lockLL p_)) (chkP (lockLL p_)))
                        (Tr.ite (okR cB (lockLL (mTV (lockLL p_) (lockLL (cutT (lockLL t))))))
                          (Tr.ite (okR cB (lockLL (mTV (lockLL p_) (lockLL (cutT (lockLL t))))))
                            (Tr.ite (eqRB (lockLL (mTV (lockLL p_) (lockLL (cutT (lockLL t))))) (lockLL (mTV (lockLL p_) (lockLL (cutT (lockLL t))))))
                              (Tr.ite (bEq true true)
                                (Tr.ite (TSel_is0 (lockLL (few_r (lockLL l))) (lockLL p_))
                                  (Tr.ite (RSel_is0 (lockLL (few_r (lockLL l))) (lockLL p_))
                                    (Tr.ite (SameRel_is0 (lockLL (TSel_r (lockLL (few_r (lockLL l))) (lockLL p_))) (lockLL (RSel_r (lockLL (few_r (lockLL l))) (lockLL p_))))
                                      (Tr.ite (SameRel_b (lockLL (TSel_r (lockLL (few_r (lockLL l))) (lockLL p_))) (lockLL (RSel_r (lockLL (few_r (lockLL l))) (lockLL p_))))
                                        (Tr.ret (PV.bool true)) (Tr.ret (PV.bool false)))
                                      Tr.fail)
                                    Tr.fail)
                                  Tr.fail)
                                (Tr.ret (PV.bool false)))
                              (Tr.ret (PV.bool false)))
                            Tr.fail)
                          Tr.fail)
                        (Tr.ret (PV.bool false)))
                      Tr.fail)
                    Tr.fail)
                  (Tr.ite (okR cM (lockLL p_))
                    (Tr.ite (okR cM (lockLL p_))
                      (Tr.ite (iEq (chkP (lockLL p_)) (chkP (lockLL p_)))
                        (Tr.ite (okR cB (lockLL (mTV (lockLL p_) (lockLL (cutT (lockLL t))))))
                          (Tr.ite (okR cB [])
                            (Tr.ite (eqRB (lockLL (mTV (lockLL p_) (lockLL (cutT (lockLL t))))) [])
                              (Tr.ite (bEq true false)
                                (Tr.ite (TSel_is0 (lockLL (few_r (lockLL l))) (lockLL p_))
                                  (Tr.ite (RSel_is0 (lockLL (few_r (lockLL l))) (lockLL p_))
                                    (Tr.ite (SameRel_is0 (lockLL (TSel_r (lockLL (few_r (lockLL l))) (lockLL p_))) (lockLL (RSel_r (lockLL (few_r (lockLL l))) (lockLL p_))))
                                      (Tr.ite (SameRel_b (lockLL (TSel_r (lockLL (few_r (lockLL l))) (lockLL p_))) (lockLL (RSel_r (lockLL (few_r (lockLL l))) (lockLL p_))))
                                        (Tr.ret (PV.bool true)) (Tr.ret (PV.bool false)))
                                      Tr.fail)
                                    Tr.fail)
                                  Tr.fail)
                                (Tr.ret (PV.bool false)))
                              (Tr.ret (PV.bool false)))
                            Tr.fail)
                          Tr.fail)
                        (Tr.ret (PV.bool false)))
                      Tr.fail)
                    Tr.fail))
                Tr.fail)
              Tr.fail)
            (Tr.ite (okR cM (lockLL p_))
              (Tr.ite (okR cV (lockLL (cutT (lockLL t))))
                (Tr.ite (okMT (lockLL p_) (lockLL (cutT (lockLL t))))
                  (Tr.ite (okR cM (lockLL p_))
                    (Tr.ite (okR cM (lockLL p_))
                      (Tr.ite (iEq (chkP (lockLL p_)) (chkP (lockLL p_)))
                        (Tr.ite (okR cB [])
                          (Tr.ite (okR cB (lockLL (mTV (lockLL p_) (lockLL (cutT (lockLL t))))))
                            (Tr.ite (eqRB [] (lockLL (mTV (lockLL p_) (lockLL (cutT (lockLL t))))))
                              (Tr.ite (bEq false true)
                                (Tr.ite (TSel_is0 (lockLL (few_r (lockLL l))) (lockLL p_))
                                  (Tr.ite (RSel_is0 (lockLL (few_r (lockLL l))) (lockLL p_))
                                    (Tr.ite (SameRel_is0 (lockLL (TSel_r (lockLL (few_r (lockLL l))) (lockLL p_))) (lockLL (RSel_r (lockLL (few_r (lockLL l))) (lockLL p_))))
                                      (Tr.ite (SameRel_b (lockLL (TSel_r (lockLL (few_r (lockLL l))) (lockLL p_))) (lockLL (RSel_r (lockLL (few_r (lockLL l))) (lockLL p_))))
                                        (Tr.ret (PV.bool true)) (Tr.ret (PV.bool false)))
                                      Tr.fail)
                                    Tr.fail)
                                  Tr.fail)
                                (Tr.ret (PV.bool false)))
                              (Tr.ret (PV.bool false)))
                            Tr.fail)
                          Tr.fail)
                        (Tr.ret (PV.bool false)))
                      Tr.fail)
                    Tr.fail)
                  (Tr.ite (okR cM (lockLL p_))
                    (Tr.ite (okR cM (lockLL p_))
                      (Tr.ite (iEq (chkP (lockLL p_)) (chkP (lockLL p_)))
                        (Tr.ite (okR cB [])
                          (Tr.ite (okR cB [])
                            (Tr.ite (eqRB [] [])
                              (Tr.ite (bEq false false)
                                (Tr.ite (TSel_is0 (lockLL (few_r (lockLL l))) (lockLL p_))
                                  (Tr.ite (RSel_is0 (lockLL (few_r (lockLL l))) (lockLL p_))
                                    (Tr.ite (SameRel_is0 (lockLL (TSel_r (lockLL (few_r (lockLL l))) (lockLL p_))) (lockLL (RSel_r (lockLL (few_r (lockLL l))) (lockLL p_))))
                                      (Tr.ite (SameRel_b (lockLL (TSel_r (lockLL (few_r (lockLL l))) (lockLL p_))) (lockLL (RSel_r (lockLL (few_r (lockLL l))) (lockLL p_))))
                                        (Tr.ret (PV.bool true)) (Tr.ret (PV.bool false)))
                                      Tr.fail)
                                    Tr.fail)
                                  Tr.fail)
                                (Tr.ret (PV.bool false)))
                              (Tr.ret (PV.bool false)))
                            Tr.fail)
                          Tr.fail)
                        (Tr.ret (PV.bool false)))
                      Tr.fail)
                    Tr.fail))
                Tr.fail)
              Tr.fail))
          Tr.fail)
        Tr.fail))
    Tr.fail)
  Tr.fail
theorem TMatches_T (p_ : List (List PV)) (t : List (List PV)) (l : List (List PV)) : (tcall tbT G_TMatches L_TMatches Tryd.f7 [.sl p_ .non, .sl t .non, .sl l .non]).flat = TMatches_Tr p_ t l := by kernel_rfl
noncomputable def TMatches_W (p_ : List (List PV)) (t : List (List PV)) (l : List (List PV)) : Option PV := (TMatches_Tr p_ t l).run
noncomputable def TMatches_b (p_ : List (List PV)) (t : List (List PV)) (l : List (List PV)) : Bool := (gBool (gVal (TMatches_W p_ t l)))
noncomputable def TMatches_is0 (p_ : List (List PV)) (t : List (List PV)) (l : List (List PV)) : Bool := isW (TMatches_W p_ t l) (.bool (TMatches_b p_ t l))
noncomputable def F_TMatches : List PV → Tr PV | [.sl p_ .non, .sl t .non, .sl l .non] => .ite (TMatches_is0 p_ t l) (.ret (.bool (TMatches_b p_ t l))) (.fail) | _ => .fail
theorem sim_TMatches (gl : Nat → Option Obj) (hg : GlPow gl) : SimP Tryd.prog gl 7 fun args => (F_TMatches args).run := by
  refine SimP.of_flat (G := G_TMatches) (L := L_TMatches) tbT_ok (gok_TMatches gl hg ) noMixed Tryd.func7 rfl (by rfl) (by kernel_rfl) (loopOk_none (by kernel_rfl)) ?_
  intro args x h
  unfold F_TMatches at h
  split at h
  · exact (congrArg Tr.run (TMatches_T _ _ _)).trans (ite_isW h fun h => by cases h)
  · cases h
noncomputable def G_TBinds : GamT := ofL [(14, .pure F_awk), (15, .pure F_cutT), (18, .pure F_Mt), (19, .pure F_Find), (20, .pure F_RCheck)]
theorem gok_TBinds (gl : Nat → Option Obj) (hg : GlPow gl) : GamOk Tryd.prog gl (gam G_TBinds) := (gamOk_cons (sim_awk gl hg) (gamOk_cons (sim_cutT gl) (gamOk_cons (sim_Mt gl) (gamOk_cons (sim_Find gl) (gamOk_cons (sim_RCheck gl) gamOk_nil)))))
noncomputable def c_TBinds1 : Code := loopC Tryd.f4 12
noncomputable def c_TBinds2 : Code := loopC Tryd.f4 28
def I_TBinds1 : LI := ⟨113, [0, 1, 5, 7, 8, 9], fun e => match e with | .ret => [4] | .exit 0 => [1, 7, 8] | _ => []⟩
noncomputable def LI_TBinds1 : LpsT := fun r fr σ => .fail
noncomputable def TBinds1_V (vs : List PV) (σ : Store) : Option (PExit × List PV × Store) := lval (lstep tbT G_TBinds LI_TBinds1 c_TBinds1 I_TBinds1) vs σ
noncomputable def TBinds1_Tr (r : List (List PV)) (r2 : List (List PV)) (r3 : List (List PV)) (r4 : List (List PV)) (b : Bool) (n : Int) : Tr LR := Tr.ite (iLt n (xLen r))
  (Tr.ite (okPos n)
    (Tr.ite (okGet [PV.int .i64 0, PV.str [], PV.int .i64 0, PV.int .i64 0, PV.str []] r (nNat n))
      (Tr.ite (iEq (xInt r (nNat n) 0) 1)
        (Tr.ite (okR cB (lockLL r3))
          (Tr.ite (bNot (fdO (lockLL r3) (xStr r (nNat n) 1))) (Tr.ret (LR.out .ret [PV.bool false] (Store.mk [] [] [])))
            (Tr.ite (okPos n)
              (Tr.ite (okGet [PV.int .i64 0, PV.int .i64 0, PV.str []] r2 (nNat n))
                (Tr.ite
                  (bNot
                    (bAnd (iEq (fdK (lockLL r3) (xStr r (nNat n) 1)) (xInt r2 (nNat n) 0))
                      (bAnd (iEq (fdN (lockLL r3) (xStr r (nNat n) 1)) (xInt r2 (nNat n) 1)) (bAnd (sEq (fdS (lockLL r3) (xStr r (nNat n) 1)) (xStr r2 (nNat n) 2)) true))))
                  (Tr.ret (LR.out .ret [PV.bool false] (Store.mk [] [] [])))
                  (Tr.ite b
                    (Tr.ite
                      (okGrow r4
                        [[PV.int .i64 2, PV.str [], PV.int .i64 (fdK (lockLL r3) (xStr r (nNat n) 1)), PV.int .i64 (fdN (lockLL r3) (xStr r (nNat n) 1)),
                            PV.str (fdS (lockLL r3) (xStr r (nNat n) 1))]]
                        56)
                      (Tr.ite
                        (okNews
                          [[PV.int .i64 2, PV.str [], PV.int .i64 (fdK (lockLL r3) (xStr r (nNat n) 1)), PV.int .i64 (fdN (lockLL r3) (xStr r (nNat n) 1)),
                              PV.str (fdS (lockLL r3) (xStr r (nNat n) 1))]]
                          5)
                        (Tr.ite (okSize r4 5)
                          (Tr.ret
                            (LR.next
                              [PV.sl (dropPLL 0 r) .non, PV.sl (dropPLL 0 r2) .non, PV.sl (dropPLL 0 r3) .non,
                                PV.sl
                                  (dropPLL 0
                                    (xApp r4
                                      [[PV.int .i64 2, PV.str [], PV.int .i64 (fdK (lockLL r3) (xStr r (nNat n) 1)),
                                          PV.int .i64 (fdN (lockLL r3) (xStr r (nNat n) 1)), PV.str (fdS (lockLL r3) (xStr r (nNat n) 1))]]))
                                  (.tok 0),
                                PV.bool (iEq 2 2), PV.int .i64 (iAdd .i64 n 1)]
                              (Store.mk []
                                [(nXs
                                      (xApp r4
                                        [[PV.int .i64 2, PV.str [], PV.int .i64 (fdK (lockLL r3) (xStr r (nNat n) 1)),
                                            PV.int .i64 (fdN (lockLL r3) (xStr r (nNat n) 1)), PV.str (fdS (lockLL r3) (xStr r (nNat n) 1))]]),
                                    5, 38)]
                                [])))
                          Tr.fail)
                        Tr.fail)
                      Tr.fail)
                    (Tr.ite
                      (okGrow r4
                        [[PV.int .i64 2, PV.str [], PV.int .i64 (fdK (lockLL r3) (xStr r (nNat n) 1)), PV.int .i64 (fdN (lockLL r3) (xStr r (nNat n) 1)),
                            PV.str (fdS (lockLL r3) (xStr r (nNat n) 1))]]
                        56)
                      (Tr.ite
                        (okNews
                          [[PV.int .i64 2, PV.str [], PV.int .i64 (fdK (lockLL r3) (xStr r (nNat n) 1)), PV.int .i64 (fdN (lockLL r3) (xStr r (nNat n) 1)),
                              PV.str (fdS (lockLL r3) (xStr r (nNat n) 1))]]
                          5)
                        (Tr.ite (okSize r4 5)
                          (Tr.ret
                            (LR.next
                              [PV.sl (dropPLL 0 r) .non, PV.sl (dropPLL 0 r2) .non, PV.sl (dropPLL 0 r3) .non,
                                PV.sl
                                  (dropPLL 0
                                    (xApp r4
                                      [[PV.int .i64 2, PV.str [], PV.int .i64 (fdK (lockLL r3) (xStr r (nNat n) 1)),
                                          PV.int .i64 (fdN (lockLL r3) (xStr r (nNat n) 1)), PV.str (fdS (lockLL r3) (xStr r (nNat n) 1))]]))
                                  (.tok 0),
                                PV.bool false, PV.int .i64 (iAdd .i64 n 1)]
                              (Store.mk []
                                [(nXs
                                      (xApp r4
                                        [[PV.int .i64 2, PV.str [], PV.int .i64 (fdK (lockLL r3) (xStr r (nNat n) 1)),
                                            PV.int .i64 (fdN (lockLL r3) (xStr r (nNat n) 1)), PV.str (fdS (lockLL r3) (xStr r (nNat n) 1))]]),
                                    5, 38)]
                                [])))
                          Tr.fail)
                        Tr.fail)
                      Tr.fail)))
                Tr.fail)
              Tr.fail))
          Tr.fail)
        (Tr.ite b
          (Tr.ite
            (okGrow r4
              [[PV.int .i64 (xInt r (nNat n) 0), PV.str (xStr r (nNat n) 1), PV.int .i64 (xInt r (nNat n) 2), PV.int .i64 (xInt r (nNat n) 3),
                  PV.str (xStr r (nNat n) 4)]]
              56)
            (Tr.ite
              (okNews
                [[PV.int .i64 (xInt r (nNat n) 0), PV.str (xStr r (nNat n) 1), PV.int .i64 (xInt r (nNat n) 2), PV.int .i64 (xInt r (nNat n) 3),
                    PV.str (xStr r (nNat n) 4)]]
                5)
              (Tr.ite (okSize r4 5)
                (Tr.ret
                  (LR.next
                    [PV.sl (dropPLL 0 r) .non, PV.sl (dropPLL 0 r2) .non, PV.sl (dropPLL 0 r3) .non,
                      PV.sl
                        (dropPLL 0
                          (xApp r4
                            [[PV.int .i64 (xInt r (nNat n) 0), PV.str (xStr r (nNat n) 1), PV.int .i64 (xInt r (nNat n) 2), PV.int .i64 (xInt r (nNat n) 3),
                                PV.str (xStr r (nNat n) 4)]]))
                        (.tok 0),
                      PV.bool (iEq (xInt r (nNat n) 0) 2), PV.int .i64 (iAdd .i64 n 1)]
                    (Store.mk []
                      [(nXs
                            (xApp r4
                              [[PV.int .i64 (xInt r (nNat n) 0), PV.str (xStr r (nNat n) 1), PV.int .i64 (xInt r (nNat n) 2), PV.int .i64 (xInt r (nNat n) 3),
                                  PV.str (xStr r (nNat n) 4)]]),
                          5, 38)]
                      [])))
                Tr.fail)
              Tr.fail)
            Tr.fail)
          (Tr.ite
            (okGrow r4
              [[PV.int .i64 (xInt r (nNat n) 0), PV.str (xStr r (nNat n) 1), PV.int .i64 (xInt r (nNat n) 2), PV.int .i64 (xInt r (nNat n) 3),
                  PV.str (xStr r (nNat n) 4)]]
              56)
            (Tr.ite
              (okNews
                [[PV.int .i64 (xInt r (nNat n) 0), PV.str (xStr r (nNat n) 1), PV.int .i64 (xInt r (nNat n) 2), PV.int .i64 (xInt r (nNat n) 3),
                    PV.str (xStr r (nNat n) 4)]]
                5)
              (Tr.ite (okSize r4 5)
                (Tr.ret
                  (LR.next
                    [PV.sl (dropPLL 0 r) .non, PV.sl (dropPLL 0 r2) .non, PV.sl (dropPLL 0 r3) .non,
                      PV.sl
                        (dropPLL 0
                          (xApp r4
                            [[PV.int .i64 (xInt r (nNat n) 0), PV.str (xStr r (nNat n) 1), PV.int .i64 (xInt r (nNat n) 2), PV.int .i64 (xInt r (nNat n) 3),
                                PV.str (xStr r (nNat n) 4)]]))
                        (.tok 0),
                      PV.bool false, PV.int .i64 (iAdd .i64 n 1)]
                    (Store.mk []
                      [(nXs
                            (xApp r4
                              [[PV.int .i64 (xInt r (nNat n) 0), PV.str (xStr r (nNat n) 1), PV.int .i64 (xInt r (nNat n) 2), PV.int .i64 (xInt r (nNat n) 3),
                                  PV.str (xStr r (nNat n) 4)]]),
                          5, 38)]
                      [])))
                Tr.fail)
              Tr.fail)
            Tr.fail)))
      Tr.fail)
    Tr.fail)
  (Tr.ret (LR.out (.exit 0) [PV.sl r2 .non, PV.sl r4 .full, PV.bool b] (Store.mk [] [] [])))
theorem TBinds1_T (r : List (List PV)) (r2 : List (List PV)) (r3 : List (List PV)) (r4 : List (List PV)) (b : Bool) (n : Int) : lstep tbT G_TBinds LI_TBinds1 c_TBinds1 I_TBinds1 [.sl r .non, .sl r2 .non, .sl r3 .non, .sl r4 .full, .bool b, .int .i64 n] ⟨[], [], []⟩ = TBinds1_Tr r r2 r3 r4 b n := by kernel_rfl
theorem TBinds1_E (r : List (List PV)) (r2 : List (List PV)) (r3 : List (List PV)) (r4 : List (List PV)) (b : Bool) (n : Int) : TBinds1_V [.sl r .non, .sl r2 .non, .sl r3 .non, .sl r4 .full, .bool b, .int .i64 n] ⟨[], [], []⟩ = lnext TBinds1_V (TBinds1_Tr r r2 r3 r4 b n).run := by unfold TBinds1_V; rw [lval_eq, TBinds1_T]
noncomputable def TBinds1_Tr1 (r : List (List PV)) (r2 : List (List PV)) (r3 : List (List PV)) (r4 : List (List PV)) (b : Bool) (n : Int) (k : Nat) : Tr LR := Tr.ite (iLt n (xLen r))
  (Tr.ite (okPos n)
    (Tr.ite (okGet [PV.int .i64 0, PV.str [], PV.int .i64 0, PV.int .i64 0, PV.str []] r (nNat n))
      (Tr.ite (iEq (xInt r (nNat n) 0) 1)
        (Tr.ite (okR cB (lockLL r3))
          (Tr.ite (bNot (fdO (lockLL r3) (xStr r (nNat n) 1))) (Tr.ret (LR.out .ret [PV.bool false] (Store.mk [] [(k, 5, 38)] [])))
            (Tr.ite (okPos n)
              (Tr.ite (okGet [PV.int .i64 0, PV.int .i64 0, PV.str []] r2 (nNat n))
                (Tr.ite
                  (bNot
                    (bAnd (iEq (fdK (lockLL r3) (xStr r (nNat n) 1)) (xInt r2 (nNat n) 0))
                      (bAnd (iEq (fdN (lockLL r3) (xStr r (nNat n) 1)) (xInt r2 (nNat n) 1)) (bAnd (sEq (fdS (lockLL r3) (xStr r (nNat n) 1)) (xStr r2 (nNat n) 2)) true))))
                  (Tr.ret (LR.out .ret [PV.bool false] (Store.mk [] [(k, 5, 38)] [])))
                  (Tr.ite b
                    (Tr.ite
                      (okGrow r4
                        [[PV.int .i64 2, PV.str [], PV.int .i64 (fdK (lockLL r3) (xStr r (nNat n) 1)), PV.int .i64 (fdN (lockLL r3) (xStr r (nNat n) 1)),
                            PV.str (fdS (lockLL r3) (xStr r (nNat n) 1))]]
                        56)
                      (Tr.ite
                        (okNews
                          [[PV.int .i64 2, PV.str [], PV.int .i64 (fdK (lockLL r3) (xStr r (nNat n) 1)), PV.int .i64 (fdN (lockLL r3) (xStr r (nNat n) 1)),
                              PV.str (fdS (lockLL r3) (xStr r (nNat n) 1))]]
                          5)
                        (Tr.ite (okSize r4 5)
                          (Tr.ite (nEq k (nXs r4))
                            (Tr.ret
                              (LR.next
                                [PV.sl (dropPLL 0 r) .non, PV.sl (dropPLL 0 r2) .non, PV.sl (dropPLL 0 r3) .non,
                                  PV.sl
                                    (dropPLL 0
                                      (xApp r4
                                        [[PV.int .i64 2, PV.str [], PV.int .i64 (fdK (lockLL r3) (xStr r (nNat n) 1)),
                                            PV.int .i64 (fdN (lockLL r3) (xStr r (nNat n) 1)), PV.str (fdS (lockLL r3) (xStr r (nNat n) 1))]]))
                                    (.tok 0),
                                  PV.bool (iEq 2 2), PV.int .i64 (iAdd .i64 n 1)]
                                (Store.mk []
                                  [(nXs
                                        (xApp r4
                                          [[PV.int .i64 2, PV.str [], PV.int .i64 (fdK (lockLL r3) (xStr r (nNat n) 1)),
                                              PV.int .i64 (fdN (lockLL r3) (xStr r (nNat n) 1)), PV.str (fdS (lockLL r3) (xStr r (nNat n) 1))]]),
                                      5, 38)]
                                  [])))
                            Tr.fail)
                          Tr.fail)
                        Tr.fail)
                      Tr.fail)
                    (Tr.ite
                      (okGrow r4
                        [[PV.int .i64 2, PV.str [], PV.int .i64 (fdK (lockLL r3) (xStr r (nNat n) 1)), PV.int .i64 (fdN (lockLL r3) (xStr r (nNat n) 1)),
                            PV.str (fdS (lockLL r3) (xStr r (nNat n) 1))]]
                        56)
                      (Tr.ite
                        (okNews
                          [[PV.int .i64 2, PV.str [], PV.int .i64 (fdK (lockLL r3) (xStr r (nNat n) 1)), PV.int .i64 (fdN (lockLL r3) (xStr r (nNat n) 1)),
                              PV.str (fdS (lockLL r3) (xStr r (nNat n) 1))]]
                          5)
                        (Tr.ite (okSize r4 5)
                          (Tr.ite (nEq k (nXs r4))
                            (Tr.ret
                              (LR.next
                                [PV.sl (dropPLL 0 r) .non, PV.sl (dropPLL 0 r2) .non, PV.sl (dropPLL 0 r3) .non,
                                  PV.sl
                                    (dropPLL 0
                                      (xApp r4
                                        [[PV.int .i64 2, PV.str [], PV.int .i64 (fdK (lockLL r3) (xStr r (nNat n) 1)),
                                            PV.int .i64 (fdN (lockLL r3) (xStr r (nNat n) 1)), PV.str (fdS (lockLL r3) (xStr r (nNat n) 1))]]))
                                    (.tok 0),
                                  PV.bool false, PV.int .i64 (iAdd .i64 n 1)]
                                (Store.mk []
                                  [(nXs
                                        (xApp r4
                                          [[PV.int .i64 2, PV.str [], PV.int .i64 (fdK (lockLL r3) (xStr r (nNat n) 1)),
                                              PV.int .i64 (fdN (lockLL r3) (xStr r (nNat n) 1)), PV.str (fdS (lockLL r3) (xStr r (nNat n) 1))]]),
                                      5, 38)]
                                  [])))
                            Tr.fail)
                          Tr.fail)
                        Tr.fail)
                      Tr.fail)))
                Tr.fail)
              Tr.fail))
          Tr.fail)
        (Tr.ite b
          (Tr.ite
            (okGrow r4
              [[PV.int .i64 (xInt r (nNat n) 0), PV.str (xStr r (nNat n) 1), PV.int .i64 (xInt r (nNat n) 2), PV.int .i64 (xInt r (nNat n) 3),
                  PV.str (xStr r (nNat n) 4)]]
              56)
            (Tr.ite
              (okNews
                [[PV.int .i64 (xInt r (nNat n) 0), PV.str (xStr r (nNat n) 1), PV.int .i64 (xInt r (nNat n) 2), PV.int .i64 (xInt r (nNat n) 3),
                    PV.str (xStr r (nNat n) 4)]]
                5)
              (Tr.ite (okSize r4 5)
                (Tr.ite (nEq k (nXs r4))
                  (Tr.ret
                    (LR.next
                      [PV.sl (dropPLL 0 r) .non, PV.sl (dropPLL 0 r2) .non, PV.sl (dropPLL 0 r3) .non,
                        PV.sl
                          (dropPLL 0
                            (xApp r4
                              [[PV.int .i64 (xInt r (nNat n) 0), PV.str (xStr r (nNat n) 1), PV.int .i64 (xInt r (nNat n) 2), PV.int .i64 (xInt r (nNat n) 3),
                                  PV.str (xStr r (nNat n) 4)]]))
                          (.tok 0),
                        PV.bool (iEq (xInt r (nNat n) 0) 2), PV.int .i64 (iAdd .i64 n 1)]
                      (Store.mk []
                        [(nXs
                              (xApp r4
                                [[PV.int .i64 (xInt r (nNat n) 0), PV.str (xStr r (nNat n) 1), PV.int .i64 (xInt r (nNat n) 2),
                                    PV.int .i64 (xInt r (nNat n) 3), PV.str (xStr r (nNat n) 4)]]),
                            5, 38)]
                        [])))
                  Tr.fail)
                Tr.fail)
              Tr.fail)
            Tr.fail)
          (Tr.ite
            (okGrow r4
              [[PV.int .i64 (xInt r (nNat n) 0), PV.str (xStr r (nNat n) 1), PV.int .i64 (xInt r (nNat n) 2), PV.int .i64 (xInt r (nNat n) 3),
                  PV.str (xStr r (nNat n) 4)]]
              56)
            (Tr.ite
              (okNews
                [[PV.int .i64 (xInt r (nNat n) 0), PV.str (xStr r (nNat n) 1), PV.int .i64 (xInt r (nNat n) 2), PV.int .i64 (xInt r (nNat n) 3),
                    PV.str (xStr r (nNat n) 4)]]
                5)
              (Tr.ite (okSize r4 5)
                (Tr.ite (nEq k (nXs r4))
                  (Tr.ret
                    (LR.next
                      [PV.sl (dropPLL 0 r) .non, PV.sl (dropPLL 0 r2) .non, PV.sl (dropPLL 0 r3) .non,
                        PV.sl
                          (dropPLL 0
                            (xApp r4
                              [[PV.int .i64 (xInt r (nNat n) 0), PV.str (xStr r (nNat n) 1), PV.int .i64 (xInt r (nNat n) 2), PV.int .i64 (xInt r (nNat n) 3),
                                  PV.str (xStr r (nNat n) 4)]]))
                          (.tok 0),
                        PV.bool false, PV.int .i64 (iAdd .i64 n 1)]
                      (Store.mk []
                        [(nXs
                              (xApp r4
                                [[PV.int .i64 (xInt r (nNat n) 0), PV.str (xStr r (nNat n) 1), PV.int .i64 (xInt r (nNat n) 2),
                                    PV.int .i64 (xInt r (nNat n) 3), PV.str (xStr r (nNat n) 4)]]),
                            5, 38)]
                        [])))
                  Tr.fail)
                Tr.fail)
              Tr.fail)
            Tr.fail)))
      Tr.fail)
    Tr.fail)
  (Tr.ret (LR.out (.exit 0) [PV.sl r2 .non, PV.sl r4 (.tok 0), PV.bool b] (Store.mk [] [(k, 5, 38)] [])))
theorem TBinds1_T1 (r : List (List PV)) (r2 : List (List PV)) (r3 : List (List PV)) (r4 : List (List PV)) (b : Bool) (n : Int) (k : Nat) : lstep tbT G_TBinds LI_TBinds1 c_TBinds1 I_TBinds1 [.sl r .non, .sl r2 .non, .sl r3 .non, .sl r4 (.tok 0), .bool b, .int .i64 n] ⟨[], [(k, 5, 38)], []⟩ = TBinds1_Tr1 r r2 r3 r4 b n k := by kernel_rfl
theorem TBinds1_E1 (r : List (List PV)) (r2 : List (List PV)) (r3 : List (List PV)) (r4 : List (List PV)) (b : Bool) (n : Int) (k : Nat) : TBinds1_V [.sl r .non, .sl r2 .non, .sl r3 .non, .sl r4 (.tok 0), .bool b, .int .i64 n] ⟨[], [(k, 5, 38)], []⟩ = lnext TBinds1_V (TBinds1_Tr1 r r2 r3 r4 b n k).run := by unfold TBinds1_V; rw [lval_eq, TBinds1_T1]
noncomputable def TBinds1_W (r : List (List PV)) (r2 : List (List PV)) (r3 : List (List PV)) (r4 : List (List PV)) (b : Bool) (n : Int) : Option (PExit × List PV × Store) := TBinds1_V [.sl r .non, .sl r2 .non, .sl r3 .non, .sl r4 .full, .bool b, .int .i64 n] ⟨[], [], []⟩
noncomputable def TBinds1_b_0 (r : List (List PV)) (r2 : List (List PV)) (r3 : List (List PV)) (r4 : List (List PV)) (b : Bool) (n : Int) : Bool := (gBool (gOut (TBinds1_W r r2 r3 r4 b n) 0))
noncomputable def TBinds1_is0 (r : List (List PV)) (r2 : List (List PV)) (r3 : List (List PV)) (r4 : List (List PV)) (b : Bool) (n : Int) : Bool := isW (TBinds1_W r r2 r3 r4 b n) (.ret, [.bool (TBinds1_b_0 r r2 r3 r4 b n)], ⟨[], [], []⟩)
noncomputable def TBinds1_r_1 (r : List (List PV)) (r2 : List (List PV)) (r3 : List (List PV)) (r4 : List (List PV)) (b : Bool) (n : Int) : List (List PV) := (gRow (gOut (TBinds1_W r r2 r3 r4 b n) 0))
noncomputable def TBinds1_r2_1 (r : List (List PV)) (r2 : List (List PV)) (r3 : List (List PV)) (r4 : List (List PV)) (b : Bool) (n : Int) : List (List PV) := (gRow (gOut (TBinds1_W r r2 r3 r4 b n) 1))
noncomputable def TBinds1_b_1 (r : List (List PV)) (r2 : List (List PV)) (r3 : List (List PV)) (r4 : List (List PV)) (b : Bool) (n : Int) : Bool := (gBool (gOut (TBinds1_W r r2 r3 r4 b n) 2))
noncomputable def TBinds1_is1 (r : List (List PV)) (r2 : List (List PV)) (r3 : List (List PV)) (r4 : List (List PV)) (b : Bool) (n : Int) : Bool := isW (TBinds1_W r r2 r3 r4 b n) ((.exit 0), [.sl (TBinds1_r_1 r r2 r3 r4 b n) .non, .sl (TBinds1_r2_1 r r2 r3 r4 b n) .full, .bool (TBinds1_b_1 r r2 r3 r4 b n)], ⟨[], [], []⟩)
noncomputable def TBinds1_b_2 (r : List (List PV)) (r2 : List (List PV)) (r3 : List (List PV)) (r4 : List (List PV)) (b : Bool) (n : Int) : Bool := (gBool (gOut (TBinds1_W r r2 r3 r4 b n) 0))
noncomputable def TBinds1_k_2 (r : List (List PV)) (r2 : List (List PV)) (r3 : List (List PV)) (r4 : List (List PV)) (b : Bool) (n : Int) : Nat := (gTok (TBinds1_W r r2 r3 r4 b n) 0)
noncomputable def TBinds1_is2 (r : List (List PV)) (r2 : List (List PV)) (r3 : List (List PV)) (r4 : List (List PV)) (b : Bool) (n : Int) : Bool := isW (TBinds1_W r r2 r3 r4 b n) (.ret, [.bool (TBinds1_b_2 r r2 r3 r4 b n)], ⟨[], [((TBinds1_k_2 r r2 r3 r4 b n), 5, 38)], []⟩)
noncomputable def TBinds1_r_3 (r : List (List PV)) (r2 : List (List PV)) (r3 : List (List PV)) (r4 : List (List PV)) (b : Bool) (n : Int) : List (List PV) := (gRow (gOut (TBinds1_W r r2 r3 r4 b n) 0))
noncomputable def TBinds1_r2_3 (r : List (List PV)) (r2 : List (List PV)) (r3 : List (List PV)) (r4 : List (List PV)) (b : Bool) (n : Int) : List (List PV) := (gRow (gOut (TBinds1_W r r2 r3 r4 b n) 1))
noncomputable def TBinds1_b_3 (r : List (List PV)) (r2 : List (List PV)) (r3 : List (List PV)) (r4 : List (List PV)) (b : Bool) (n : Int) : Bool := (gBool (gOut (TBinds1_W r r2 r3 r4 b n) 2))
noncomputable def TBinds1_k_3 (r : List (List PV)) (r2 : List (List PV)) (r3 : List (List PV)) (r4 : List (List PV)) (b : Bool) (n : Int) : Nat := (gTok (TBinds1_W r r2 r3 r4 b n) 0)
noncomputable def TBinds1_is3 (r : List (List PV)) (r2 : List (List PV)) (r3 : List (List PV)) (r4 : List (List PV)) (b : Bool) (n : Int) : Bool := isW (TBinds1_W r r2 r3 r4 b n) ((.exit 0), [.sl (TBinds1_r_3 r r2 r3 r4 b n) .non, .sl (TBinds1_r2_3 r r2 r3 r4 b n) (.tok 0), .bool (TBinds1_b_3 r r2 r3 r4 b n)], ⟨[], [((TBinds1_k_3 r r2 r3 r4 b n), 5, 38)], []⟩)
noncomputable def TBinds1_prop : List PV → Store → Tr (PExit × List PV × Store) | [.sl r .non, .sl r2 .non, .sl r3 .non, .sl r4 .full, .bool b, .int .i64 n], ⟨[], [], []⟩ => .ite (TBinds1_is0 r r2 r3 r4 b n) (.ret (.ret, [.bool (TBinds1_b_0 r r2 r3 r4 b n)], ⟨[], [], []⟩)) (.ite (TBinds1_is1 r r2 r3 r4 b n) (.ret ((.exit 0), [.sl (TBinds1_r_1 r r2 r3 r4 b n) .non, .sl (TBinds1_r2_1 r r2 r3 r4 b n) .full, .bool (TBinds1_b_1 r r2 r3 r4 b n)], ⟨[], [], []⟩)) (.ite (TBinds1_is2 r r2 r3 r4 b n) (.ret (.ret, [.bool (TBinds1_b_2 r r2 r3 r4 b n)], ⟨[], [((TBinds1_k_2 r r2 r3 r4 b n), 5, 38)], []⟩)) (.ite (TBinds1_is3 r r2 r3 r4 b n) (.ret ((.exit 0), [.sl (TBinds1_r_3 r r2 r3 r4 b n) .non, .sl (TBinds1_r2_3 r r2 r3 r4 b n) (.tok 0), .bool (TBinds1_b_3 r r2 r3 r4 b n)], ⟨[], [((TBinds1_k_3 r r2 r3 r4 b n), 5, 38)], []⟩)) (.fail)))) | _, _ => .fail
theorem TBinds1_ok : ∀ vs σ r, (TBinds1_prop vs σ).run = some r → TBinds1_V vs σ = some r := by
  intro vs σ r h
  unfold TBinds1_prop at h
  split at h
  · exact ite_isW h fun h => ite_isW h fun h => ite_isW h fun h => ite_isW h fun h => by cases h
  · cases h
theorem loop_TBinds1 (gl : Nat → Option Obj) (hg : GlPow gl) : ∀ fr σ e fr' σ', (orc I_TBinds1 TBinds1_prop fr σ).run = some (e, fr', σ') → LDoes Tryd.prog gl c_TBinds1 fr σ e fr' σ' := orc_ok tbT_ok (gok_TBinds gl hg ) noMixed (L := LI_TBinds1) (loopOk_none (by kernel_rfl)) (by kernel_rfl) TBinds1_ok
def I_TBinds2 : LI := ⟨113, [1, 7, 8, 15], fun e => match e with | .ret => [4] | .exit 2 => [] | _ => []⟩
noncomputable def LI_TBinds2 : LpsT := fun r fr σ => .fail
noncomputable def TBinds2_V (vs : List PV) (σ : Store) : Option (PExit × List PV × Store) := lval (lstep tbT G_TBinds LI_TBinds2 c_TBinds2 I_TBinds2) vs σ
noncomputable def TBinds2_Tr (r : List (List PV)) (r2 : List (List PV)) (b : Bool) (n : Int) : Tr LR := Tr.ite (iLt n (xLen r2))
  (Tr.ite b
    (Tr.ite (okPos n)
      (Tr.ite (okGet [PV.int .i64 0, PV.str [], PV.int .i64 0, PV.int .i64 0, PV.str []] r2 (nNat n))
        (Tr.ite (okPos n)
          (Tr.ite (okGet [PV.int .i64 0, PV.int .i64 0, PV.str []] r (nNat n))
            (Tr.ite
              (bNot
                (bAnd (iEq (xInt r2 (nNat n) 2) (xInt r (nNat n) 0))
                  (bAnd (iEq (xInt r2 (nNat n) 3) (xInt r (nNat n) 1)) (bAnd (sEq (xStr r2 (nNat n) 4) (xStr r (nNat n) 2)) true))))
              (Tr.ret (LR.out .ret [PV.bool false] (Store.mk [] [] [])))
              (Tr.ret (LR.next [PV.sl r .non, PV.sl r2 .full, PV.bool b, PV.int .i64 (iAdd .i64 n 1)] (Store.mk [] [] []))))
            Tr.fail)
          Tr.fail)
        Tr.fail)
      Tr.fail)
    (Tr.ret (LR.out (.exit 2) [] (Store.mk [] [] []))))
  (Tr.ret (LR.out (.exit 2) [] (Store.mk [] [] [])))
theorem TBinds2_T (r : List (List PV)) (r2 : List (List PV)) (b : Bool) (n : Int) : lstep tbT G_TBinds LI_TBinds2 c_TBinds2 I_TBinds2 [.sl r .non, .sl r2 .full, .bool b, .int .i64 n] ⟨[], [], []⟩ = TBinds2_Tr r r2 b n := by kernel_rfl
theorem TBinds2_E (r : List (List PV)) (r2 : List (List PV)) (b : Bool) (n : Int) : TBinds2_V [.sl r .non, .sl r2 .full, .bool b, .int .i64 n] ⟨[], [], []⟩ = lnext TBinds2_V (TBinds2_Tr r r2 b n).run := by unfold TBinds2_V; rw [lval_eq, TBinds2_T]
noncomputable def TBinds2_Tr1 (r : List (List PV)) (r2 : List (List PV)) (b : Bool) (n : Int) (k : Nat) : Tr LR := Tr.ite (iLt n (xLen r2))
  (Tr.ite b
    (Tr.ite (okPos n)
      (Tr.ite (okGet [PV.int .i64 0, PV.str [], PV.int .i64 0, PV.int .i64 0, PV.str []] r2 (nNat n))
        (Tr.ite (okPos n)
          (Tr.ite (okGet [PV.int .i64 0, PV.int .i64 0, PV.str []] r (nNat n))
            (Tr.ite
              (bNot
                (bAnd (iEq (xInt r2 (nNat n) 2) (xInt r (nNat n) 0))
                  (bAnd (iEq (xInt r2 (nNat n) 3) (xInt r (nNat n) 1)) (bAnd (sEq (xStr r2 (nNat n) 4) (xStr r (nNat n) 2)) true))))
              (Tr.ret (LR.out .ret [PV.bool false] (Store.mk [] [(k, 5, 38)] [])))
              (Tr.ret (LR.next [PV.sl r .non, PV.sl r2 (.tok 0), PV.bool b, PV.int .i64 (iAdd .i64 n 1)] (Store.mk [] [(k, 5, 38)] []))))
            Tr.fail)
          Tr.fail)
        Tr.fail)
      Tr.fail)
    (Tr.ret (LR.out (.exit 2) [] (Store.mk [] [(k, 5, 38)] []))))
  (Tr.ret (LR.out (.exit 2) [] (Store.mk [] [(k, 5, 38)] [])))
theorem TBinds2_T1 (r : List (List PV)) (r2 : List (List PV)) (b : Bool) (n : Int) (k : Nat) : lstep tbT G_TBinds LI_TBinds2 c_TBinds2 I_TBinds2 [.sl r .non, .sl r2 (.tok 0), .bool b, .int .i64 n] ⟨[], [(k, 5, 38)], []⟩ = TBinds2_Tr1 r r2 b n k := by kernel_rfl
theorem TBinds2_E1 (r : List (List PV)) (r2 : List (List PV)) (b : Bool) (n : Int) (k : Nat) : TBinds2_V [.sl r .non, .sl r2 (.tok 0), .bool b, .int .i64 n] ⟨[], [(k, 5, 38)], []⟩ = lnext TBinds2_V (TBinds2_Tr1 r r2 b n k).run := by unfold TBinds2_V; rw [lval_eq, TBinds2_T1]
noncomputable def TBinds2_W (r : List (List PV)) (r2 : List (List PV)) (b : Bool) (n : Int) : Option (PExit × List PV × Store) := TBinds2_V [.sl r .non, .sl r2 .full, .bool b, .int .i64 n] ⟨[], [], []⟩
noncomputable def TBinds2_b_0 (r : List (List PV)) (r2 : List (List PV)) (b : Bool) (n : Int) : Bool := (gBool (gOut (TBinds2_W r r2 b n) 0))
noncomputable def TBinds2_is0 (r : List (List PV)) (r2 : List (List PV)) (b : Bool) (n : Int) : Bool := isW (TBinds2_W r r2 b n) (.ret, [.bool (TBinds2_b_0 r r2 b n)], ⟨[], [], []⟩)
noncomputable def TBinds2_is1 (r : List (List PV)) (r2 : List (List PV)) (b : Bool) (n : Int) : Bool := isW (TBinds2_W r r2 b n) ((.exit 2), [], ⟨[], [], []⟩)
noncomputable def TBinds2b_W (r : List (List PV)) (r2 : List (List PV)) (b : Bool) (n : Int) (k : Nat) : Option (PExit × List PV × Store) := TBinds2_V [.sl r .non, .sl r2 (.tok 0), .bool b, .int .i64 n] ⟨[], [(k, 5, 38)], []⟩
noncomputable def TBinds2b_b_0 (r : List (List PV)) (r2 : List (List PV)) (b : Bool) (n : Int) (k : Nat) : Bool := (gBool (gOut (TBinds2b_W r r2 b n k) 0))
noncomputable def TBinds2b_k_0 (r : List (List PV)) (r2 : List (List PV)) (b : Bool) (n : Int) (k : Nat) : Nat := (gTok (TBinds2b_W r r2 b n k) 0)
noncomputable def TBinds2b_is0 (r : List (List PV)) (r2 : List (List PV)) (b : Bool) (n : Int) (k : Nat) : Bool := isW (TBinds2b_W r r2 b n k) (.ret, [.bool (TBinds2b_b_0 r r2 b n k)], ⟨[], [((TBinds2b_k_0 r r2 b n k), 5, 38)], []⟩)
noncomputable def TBinds2b_k_1 (r : List (List PV)) (r2 : List (List PV)) (b : Bool) (n : Int) (k : Nat) : Nat := (gTok (TBinds2b_W r r2 b n k) 0)
noncomputable def TBinds2b_is1 (r : List (List PV)) (r2 : List (List PV)) (b : Bool) (n : Int) (k : Nat) : Bool := isW (TBinds2b_W r r2 b n k) ((.exit 2), [], ⟨[], [((TBinds2b_k_1 r r2 b n k), 5, 38)], []⟩)
noncomputable def TBinds2_prop : List PV → Store → Tr (PExit × List PV × Store) | [.sl r .non, .sl r2 .full, .bool b, .int .i64 n], ⟨[], [], []⟩ => .ite (TBinds2_is0 r r2 b n) (.ret (.ret, [.bool (TBinds2_b_0 r r2 b n)], ⟨[], [], []⟩)) (.ite (TBinds2_is1 r r2 b n) (.ret ((.exit 2), [], ⟨[], [], []⟩)) (.fail)) | [.sl r .non, .sl r2 (.tok 0), .bool b, .int .i64 n], ⟨[], [(k, 5, 38)], []⟩ => .ite (TBinds2b_is0 r r2 b n k) (.ret (.ret, [.bool (TBinds2b_b_0 r r2 b n k)], ⟨[], [((TBinds2b_k_0 r r2 b n k), 5, 38)], []⟩)) (.ite (TBinds2b_is1 r r2 b n k) (.ret ((.exit 2), [], ⟨[], [((TBinds2b_k_1 r r2 b n k), 5, 38)], []⟩)) (.fail)) | _, _ => .fail
theorem TBinds2_ok : ∀ vs σ r, (TBinds2_prop vs σ).run = some r → TBinds2_V vs σ = some r := by
  intro vs σ r h
  unfold TBinds2_prop at h
  split at h
  · exact ite_isW h fun h => ite_isW h fun h => by cases h
  · exact ite_isW h fun h => ite_isW h fun h => by cases h
  · cases h
theorem loop_TBinds2 (gl : Nat → Option Obj) (hg : GlPow gl) : ∀ fr σ e fr' σ', (orc I_TBinds2 TBinds2_prop fr σ).run = some (e, fr', σ') → LDoes Tryd.prog gl c_TBinds2 fr σ e fr' σ' := orc_ok tbT_ok (gok_TBinds gl hg ) noMixed (L := LI_TBinds2) (loopOk_none (by kernel_rfl)) (by kernel_rfl) TBinds2_ok
noncomputable def L_TBinds : LpsT := fun r fr σ => bif Nat.beq r 12 then orc I_TBinds1 TBinds1_prop fr σ else bif Nat.beq r 28 then orc I_TBinds2 TBinds2_prop fr σ else .fail
noncomputable def TBinds_Tr (v : List (List PV)) (v2 : List (List PV)) : Tr PV := Tr.ite false (Tr.ret (PV.bool false))
  (Tr.ite (okR cV (lockLL v2))
    (Tr.ite (okR cM (lockLL v))
      (Tr.ite (okR cV (lockLL (cutT (lockLL v2))))
        (Tr.ite (okMT (lockLL v) (lockLL (cutT (lockLL v2))))
          (Tr.ite false (Tr.ret (PV.bool (iEq (xLen (mTV (lockLL v) (lockLL (cutT (lockLL v2))))) 0)))
            (Tr.ite (iNe (xLen v) (xLen (cutT (lockLL v2)))) (Tr.ret (PV.bool false))
              (Tr.ite (TBinds1_is0 v (cutT (lockLL v2)) (mTV (lockLL v) (lockLL (cutT (lockLL v2)))) [] true 0)
                (Tr.ret (PV.bool (TBinds1_b_0 v (cutT (lockLL v2)) (mTV (lockLL v) (lockLL (cutT (lockLL v2)))) [] true 0)))
                (Tr.ite (TBinds1_is1 v (cutT (lockLL v2)) (mTV (lockLL v) (lockLL (cutT (lockLL v2)))) [] true 0)
                  (Tr.ite (okR cV (lockLL (TBinds1_r_1 v (cutT (lockLL v2)) (mTV (lockLL v) (lockLL (cutT (lockLL v2)))) [] true 0)))
                    (Tr.ite (iNe (chkT (lockLL (TBinds1_r_1 v (cutT (lockLL v2)) (mTV (lockLL v) (lockLL (cutT (lockLL v2)))) [] true 0))) 0) (Tr.ret (PV.bool true))
                      (Tr.ite (okR cM (lockLL (TBinds1_r2_1 v (cutT (lockLL v2)) (mTV (lockLL v) (lockLL (cutT (lockLL v2)))) [] true 0)))
                        (Tr.ite (okR cV (lockLL (TBinds1_r_1 v (cutT (lockLL v2)) (mTV (lockLL v) (lockLL (cutT (lockLL v2)))) [] true 0)))
                          (Tr.ite
                            (okMT (lockLL (TBinds1_r2_1 v (cutT (lockLL v2)) (mTV (lockLL v) (lockLL (cutT (lockLL v2)))) [] true 0))
                              (lockLL (TBinds1_r_1 v (cutT (lockLL v2)) (mTV (lockLL v) (lockLL (cutT (lockLL v2)))) [] true 0)))
                            (Tr.ite false (Tr.ret (PV.bool false))
                              (Tr.ite
                                (iNe
                                  (xLen
                                    (mTV (lockLL (TBinds1_r2_1 v (cutT (lockLL v2)) (mTV (lockLL v) (lockLL (cutT (lockLL v2)))) [] true 0))
                                      (lockLL (TBinds1_r_1 v (cutT (lockLL v2)) (mTV (lockLL v) (lockLL (cutT (lockLL v2)))) [] true 0))))
                                  0)
                                (Tr.ret (PV.bool false))
                                (Tr.ite
                                  (TBinds2_is0 (TBinds1_r_1 v (cutT (lockLL v2)) (mTV (lockLL v) (lockLL (cutT (lockLL v2)))) [] true 0)
                                    (TBinds1_r2_1 v (cutT (lockLL v2)) (mTV (lockLL v) (lockLL (cutT (lockLL v2)))) [] true 0)
                                    (TBinds1_b_1 v (cutT (lockLL v2)) (mTV (lockLL v) (lockLL (cutT (lockLL v2)))) [] true 0) 0)
                                  (Tr.ret
                                    (PV.bool
                                      (TBinds2_b_0 (TBinds1_r_1 v (cutT (lockLL v2)) (mTV (lockLL v) (lockLL (cutT (lockLL v2)))) [] true 0)
                                        (TBinds1_r2_1 v (cutT (lockLL v2)) (mTV (lockLL v) (lockLL (cutT (lockLL v2)))) [] true 0)
                                        (TBinds1_b_1 v (cutT (lockLL v2)) (mTV (lockLL v) (lockLL (cutT (lockLL v2)))) [] true 0) 0)))
                                  (Tr.ite
                                    (TBinds2_is1 (TBinds1_r_1 v (cutT (lockLL v2)) (mTV (lockLL v) (lockLL (cutT (lockLL v2)))) [] true 0)
                                      (TBinds1_r2_1 v (cutT (lockLL v2)) (mTV (lockLL v) (lockLL (cutT (lockLL v2)))) [] true 0)
                                      (TBinds1_b_1 v (cutT (lockLL v2)) (mTV (lockLL v) (lockLL (cutT (lockLL v2)))) [] true 0) 0)
                                    (Tr.ret (PV.bool true)) Tr.fail))))
                            (Tr.ite true (Tr.ret (PV.bool false))
                              (Tr.ite (iNe (xLen []) 0) (Tr.ret (PV.bool false))
                                (Tr.ite
                                  (TBinds2_is0 (TBinds1_r_1 v (cutT (lockLL v2)) (mTV (lockLL v) (lockLL (cutT (lockLL v2)))) [] true 0)
                                    (TBinds1_r2_1 v (cutT (lockLL v2)) (mTV (lockLL v) (lockLL (cutT (lockLL v2)))) [] true 0)
                                    (TBinds1_b_1 v (cutT (lockLL v2)) (mTV (lockLL v) (lockLL (cutT (lockLL v2)))) [] true 0) 0)
                                  (Tr.ret
                                    (PV.bool
                                      (TBinds2_b_0 (TBinds1_r_1 v (cutT (lockLL v2)) (mTV (lockLL v) (lockLL (cutT (lockLL v2)))) [] true 0)
                                        (TBinds1_r2_1 v (cutT (lockLL v2)) (mTV (lockLL v) (lockLL (cutT (lockLL v2)))) [] true 0)
                                        (TBinds1_b_1 v (cutT (lockLL v2)) (mTV (lockLL v) (lockLL (cutT (lockLL v2)))) [] true 0) 0)))
                                  (Tr.ite
                                    (TBinds2_is1 (TBinds1_r_1 v (cutT (lockLL v2)) (mTV (lockLL v) (lockLL (cutT (lockLL v2)))) [] true 0)
                                      (TBinds1_r2_1 v (cutT (lockLL v2)) (mTV (lockLL v) (lockLL (cutT (lockLL v2)))) [] true 0)
                                      (TBinds1_b_1 v (cutT (lockLL v2)) (mTV (lockLL v) (lockLL (cutT (lockLL v2)))) [] true 0) 0)
                                    (Tr.ret (PV.bool true)) Tr.fail)))))
                          Tr.fail)
                        Tr.fail))
                    Tr.fail)
                  (Tr.ite (TBinds1_is2 v (cutT (lockLL v2)) (mTV (lockLL v) (lockLL (cutT (lockLL v2)))) [] true 0)
                    (Tr.ret (PV.bool (TBinds1_b_2 v (cutT (lockLL v2)) (mTV (lockLL v) (lockLL (cutT (lockLL v2)))) [] true 0)))
                    (Tr.ite (TBinds1_is3 v (cutT (lockLL v2)) (mTV (lockLL v) (lockLL (cutT (lockLL v2)))) [] true 0)
                      (Tr.ite (okR cV (lockLL (TBinds1_r_3 v (cutT (lockLL v2)) (mTV (lockLL v) (lockLL (cutT (lockLL v2)))) [] true 0)))
                        (Tr.ite (iNe (chkT (lockLL (TBinds1_r_3 v (cutT (lockLL v2)) (mTV (lockLL v) (lockLL (cutT (lockLL v2)))) [] true 0))) 0) (Tr.ret (PV.bool true))
                          (Tr.ite (okR cM (lockLL (TBinds1_r2_3 v (cutT (lockLL v2)) (mTV (lockLL v) (lockLL (cutT (lockLL v2)))) [] true 0)))
                            (Tr.ite (okR cV (lockLL (TBinds1_r_3 v (cutT (lockLL v2)) (mTV (lockLL v) (lockLL (cutT (lockLL v2)))) [] true 0)))
                              (Tr.ite
                                (okMT (lockLL (TBinds1_r2_3 v (cutT (lockLL v2)) (mTV (lockLL v) (lockLL (cutT (lockLL v2)))) [] true 0))
                                  (lockLL (TBinds1_r_3 v (cutT (lockLL v2)) (mTV (lockLL v) (lockLL (cutT (lockLL v2)))) [] true 0)))
                                (Tr.ite false (Tr.ret (PV.bool false))
                                  (Tr.ite
                                    (iNe
                                      (xLen
                                        (mTV (lockLL (TBinds1_r2_3 v (cutT (lockLL v2)) (mTV (lockLL v) (lockLL (cutT (lockLL v2)))) [] true 0))
                                          (lockLL (TBinds1_r_3 v (cutT (lockLL v2)) (mTV (lockLL v) (lockLL (cutT (lockLL v2)))) [] true 0))))
                                      0)
                                    (Tr.ret (PV.bool false))
                                    (Tr.ite
                                      (TBinds2b_is0 (TBinds1_r_3 v (cutT (lockLL v2)) (mTV (lockLL v) (lockLL (cutT (lockLL v2)))) [] true 0)
                                        (TBinds1_r2_3 v (cutT (lockLL v2)) (mTV (lockLL v) (lockLL (cutT (lockLL v2)))) [] true 0)
                                        (TBinds1_b_3 v (cutT (lockLL v2)) (mTV (lockLL v) (lockLL (cutT (lockLL v2)))) [] true 0) 0
                                        (TBinds1_k_3 v (cutT (lockLL v2)) (mTV (lockLL v) (lockLL (cutT (lockLL v2)))) [] true 0))
                                      (Tr.ret
                                        (PV.bool
                                          (TBinds2b_b_0 (TBinds1_r_3 v (cutT (lockLL v2)) (mTV (lockLL v) (lockLL (cutT (lockLL v2)))) [] true 0)
                                            (TBinds1_r2_3 v (cutT (lockLL v2)) (mTV (lockLL v) (lockLL (cutT (lockLL v2)))) [] true 0)
                                            (TBinds1_b_3 v (cutT (lockLL v2)) (mTV (lockLL v) (lockLL (cutT (lockLL v2)))) [] true 0) 0
                                            (TBinds1_k_3 v (cutT (lockLL v2)) (mTV (lockLL v) (lockLL (cutT (lockLL v2)))) [] true 0))))
                                      (Tr.ite
                                        (TBinds2b_is1 (TBinds1_r_3 v (cutT (lockLL v2)) (mTV (lockLL v) (lockLL (cutT (lockLL v2)))) [] true 0)
                                          (TBinds1_r2_3 v (cutT (lockLL v2)) (mTV (lockLL v) (lockLL (cutT (lockLL v2)))) [] true 0)
                                          (TBinds1_b_3 v (cutT (lockLL v2)) (mTV (lockLL v) (lockLL (cutT (lockLL v2)))) [] true 0) 0
                                          (TBinds1_k_3 v (cutT (lockLL v2)) (mTV (lockLL v) (lockLL (cutT (lockLL v2)))) [] true 0))
                                        (Tr.ret (PV.bool true)) Tr.fail))))
                                (Tr.ite true (Tr.ret (PV.bool false))
                                  (Tr.ite (iNe (xLen []) 0) (Tr.ret (PV.bool false))
                                    (Tr.ite
                                      (TBinds2b_is0 (TBinds1_r_3 v (cutT (lockLL v2)) (mTV (lockLL v) (lockLL (cutT (lockLL v2)))) [] true 0)
                                        (TBinds1_r2_3 v (cutT (lockLL v2)) (mTV (lockLL v) (lockLL (cutT (lockLL v2)))) [] true 0)
                                        (TBinds1_b_3 v (cutT (lockLL v2)) (mTV (lockLL v) (lockLL (cutT (lockLL v2)))) [] true 0) 0
                                        (TBinds1_k_3 v (cutT (lockLL v2)) (mTV (lockLL v) (lockLL (cutT (lockLL v2)))) [] true 0))
                                      (Tr.ret
                                        (PV.bool
                                          (TBinds2b_b_0 (TBinds1_r_3 v (cutT (lockLL v2)) (mTV (lockLL v) (lockLL (cutT (lockLL v2)))) [] true 0)
                                            (TBinds1_r2_3 v (cutT (lockLL v2)) (mTV (lockLL v) (lockLL (cutT (lockLL v2)))) [] true 0)
                                            (TBinds1_b_3 v (cutT (lockLL v2)) (mTV (lockLL v) (lockLL (cutT (lockLL v2)))) [] true 0) 0
                                            (TBinds1_k_3 v (cutT (lockLL v2)) (mTV (lockLL v) (lockLL (cutT (lockLL v2)))) [] true 0))))
                                      (Tr.ite
                                        (TBinds2b_is1 (TBinds1_r_3 v (cutT (lockLL v2)) (mTV (lockLL v) (lockLL (cutT (lockLL v2)))) [] true 0)
                                          (TBinds1_r2_3 v (cutT (lockLL v2)) (mTV (lockLL v) (lockLL (cutT (lockLL v2)))) [] true 0)
                                          (TBinds1_b_3 v (cutT (lockLL v2)) (mTV (lockLL v) (lockLL (cutT (lockLL v2)))) [] true 0) 0
                                          (TBinds1_k_3 v (cutT (lockLL v2)) (mTV (lockLL v) (lockLL (cutT (lockLL v2)))) [] true 0))
                                        (Tr.ret (PV.bool true)) Tr.fail)))))
                              Tr.fail)
                            Tr.fail))
                        Tr.fail)
                      Tr.fail))))))
          (Tr.ite true (Tr.ret (PV.bool (iEq (xLen []) 0)))
            (Tr.ite (iNe (xLen v) (xLen (cutT (lockLL v2)))) (Tr.ret (PV.bool false))
              (Tr.ite (TBinds1_is0 v (cutT (lockLL v2)) [] [] true 0) (Tr.ret (PV.bool (TBinds1_b_0 v (cutT (lockLL v2)) [] [] true 0)))
                (Tr.ite (TBinds1_is1 v (cutT (lockLL v2)) [] [] true 0)
                  (Tr.ite (okR cV (lockLL (TBinds1_r_1 v (cutT (lockLL v2)) [] [] true 0)))
                    (Tr.ite (iNe (chkT (lockLL (TBinds1_r_1 v (cutT (lockLL v2)) [] [] true 0))) 0) (Tr.ret (PV.bool true))
                      (Tr.ite (okR cM (lockLL (TBinds1_r2_1 v (cutT (lockLL v2)) [] [] true 0)))
                        (Tr.ite (okR cV (lockLL (TBinds1_r_1 v (cutT (lockLL v2)) [] [] true 0)))
                          (Tr.ite (okMT (lockLL (TBinds1_r2_1 v (cutT (lockLL v2)) [] [] true 0)) (lockLL (TBinds1_r_1 v (cutT (lockLL v2)) [] [] true 0)))
                            (Tr.ite false (Tr.ret (PV.bool false))
                              (Tr.ite (iNe (xLen (mTV (lockLL (TBinds1_r2_1 v (cutT (lockLL v2)) [] [] true 0)) (lockLL (TBinds1_r_1 v (cutT (lockLL v2)) [] [] true 0)))) 0)
                                (Tr.ret (PV.bool false))
                                (Tr.ite
                                  (TBinds2_is0 (TBinds1_r_1 v (cutT (lockLL v2)) [] [] true 0) (TBinds1_r2_1 v (cutT (lockLL v2)) [] [] true 0)
                                    (TBinds1_b_1 v (cutT (lockLL v2)) [] [] true 0) 0)
                                  (Tr.ret
                                    (PV.bool
                                      (TBinds2_b_0 (TBinds1_r_1 v (cutT (lockLL v2)) [] [] true 0) (TBinds1_r2_1 v (cutT (lockLL v2)) [] [] true 0)
                                        (TBinds1_b_1 v (cutT (lockLL v2)) [] [] true 0) 0)))
                                  (Tr.ite
                                    (TBinds2_is1 (TBinds1_r_1 v (cutT (lockLL v2)) [] [] true 0) (TBinds1_r2_1 v (cutT (lockLL v2)) [] [] true 0)
                                      (TBinds1_b_1 v (cutT (lockLL v2)) [] [] true 0) 0)
                                    (Tr.ret (PV.bool true)) Tr.fail))))
                            (Tr.ite true (Tr.ret (PV.bool false))
                              (Tr.ite (iNe (xLen []) 0) (Tr.ret (PV.bool false))
                                (Tr.ite
                                  (TBinds2_is0 (TBinds1_r_1 v (cutT (lockLL v2)) [] [] true 0) (TBinds1_r2_1 v (cutT (lockLL v2)) [] [] true 0)
                                    (TBinds1_b_1 v (cutT (lockLL v2)) [] [] true 0) 0)
                                  (Tr.ret
                                    (PV.bool
                                      (TBinds2_b_0 (TBinds1_r_1 v (cutT (lockLL v2)) [] [] true 0) (TBinds1_r2_1 v (cutT (lockLL v2)) [] [] true 0)
                                        (TBinds1_b_1 v (cutT (lockLL v2)) [] [] true 0) 0)))
                                  (Tr.ite
                                    (TBinds2_is1 (TBinds1_r_1 v (cutT (lockLL v2)) [] [] true 0) (TBinds1_r2_1 v (cutT (lockLL v2)) [] [] true 0)
                                      (TBinds1_b_1 v (cutT (lockLL v2)) [] [] true 0) 0)
                                    (Tr.ret (PV.bool true)) Tr.fail)))))
                          Tr.fail)
                        Tr.fail))
                    Tr.fail)
                  (Tr.ite (TBinds1_is2 v (cutT (lockLL v2)) [] [] true 0) (Tr.ret (PV.bool (TBinds1_b_2 v (cutT (lockLL v2)) [] [] true 0)))
                    (Tr.ite (TBinds1_is3 v (cutT (lockLL v2)) [] [] true 0)
                      (Tr.ite (okR cV (lockLL (TBinds1_r_3 v (cutT (lockLL v2)) [] [] true 0)))
                        (Tr.ite (iNe (chkT (lockLL (TBinds1_r_3 v (cutT (lockLL v2)) [] [] true 0))) 0) (Tr.ret (PV.bool true))
                          (Tr.ite (okR cM (lockLL (TBinds1_r2_3 v (cutT (lockLL v2)) [] [] true 0)))
                            (Tr.ite (okR cV (lockLL (TBinds1_r_3 v (cutT (lockLL v2)) [] [] true 0)))
                              (Tr.ite (okMT (lockLL (TBinds1_r2_3 v (cutT (lockLL v2)) [] [] true 0)) (lockLL (TBinds1_r_3 v (cutT (lockLL v2)) [] [] true 0)))
                                (Tr.ite false (Tr.ret (PV.bool false))
                                  (Tr.ite (iNe (xLen (mTV (lockLL (TBinds1_r2_3 v (cutT (lockLL v2)) [] [] true 0)) (lockLL (TBinds1_r_3 v (cutT (lockLL v2)) [] [] true 0)))) 0)
                                    (Tr.ret (PV.bool false))
                                    (Tr.ite
                                      (TBinds2b_is0 (TBinds1_r_3 v (cutT (lockLL v2)) [] [] true 0) (TBinds1_r2_3 v (cutT (lockLL v2)) [] [] true 0)
                                        (TBinds1_b_3 v (cutT (lockLL v2)) [] [] true 0) 0 (TBinds1_k_3 v (cutT (lockLL v2)) [] [] true 0))
                                      (Tr.ret
                                        (PV.bool
                                          (TBinds2b_b_0 (TBinds1_r_3 v (cutT (lockLL v2)) [] [] true 0) (TBinds1_r2_3 v (cutT (lockLL v2)) [] [] true 0)
                                            (TBinds1_b_3 v (cutT (lockLL v2)) [] [] true 0) 0 (TBinds1_k_3 v (cutT (lockLL v2)) [] [] true 0))))
                                      (Tr.ite
                                        (TBinds2b_is1 (TBinds1_r_3 v (cutT (lockLL v2)) [] [] true 0) (TBinds1_r2_3 v (cutT (lockLL v2)) [] [] true 0)
                                          (TBinds1_b_3 v (cutT (lockLL v2)) [] [] true 0) 0 (TBinds1_k_3 v (cutT (lockLL v2)) [] [] true 0))
                                        (Tr.ret (PV.bool true)) Tr.fail))))
                                (Tr.ite true (Tr.ret (PV.bool false))
                                  (Tr.ite (iNe (xLen []) 0) (Tr.ret (PV.bool false))
                                    (Tr.ite
                                      (TBinds2b_is0 (TBinds1_r_3 v (cutT (lockLL v2)) [] [] true 0) (TBinds1_r2_3 v (cutT (lockLL v2)) [] [] true 0)
                                        (TBinds1_b_3 v (cutT (lockLL v2)) [] [] true 0) 0 (TBinds1_k_3 v (cutT (lockLL v2)) [] [] true 0))
                                      (Tr.ret
                                        (PV.bool
                                          (TBinds2b_b_0 (TBinds1_r_3 v (cutT (lockLL v2)) [] [] true 0) (TBinds1_r2_3 v (cutT (lockLL v2)) [] [] true 0)
                                            (TBinds1_b_3 v (cutT (lockLL v2)) [] [] true 0) 0 (TBinds1_k_3 v (cutT (lockLL v2)) [] [] true 0))))
                                      (Tr.ite
                                        (TBinds2b_is1 (TBinds1_r_3 v (cutT (lockLL v2)) [] [] true 0) (TBinds1_r2_3 v (cutT (lockLL v2)) [] [] true 0)
                                          (TBinds1_b_3 v (cutT (lockLL v2)) [] [] true 0) 0 (TBinds1_k_3 v (cutT (lockLL v2)) [] [] true 0))
                                        (Tr.ret (PV.bool true)) Tr.fail)))))
                              Tr.fail)
                            Tr.fail))
                        Tr.fail)
                      Tr.fail)))))))
        Tr.fail)
      Tr.fail)
    Tr.fail)
theorem TBinds_T (v : List (List PV)) (v2 : List (List PV)) : (tcall tbT G_TBinds L_TBinds Tryd.f4 [.sl v .non, .sl v2 .non]).flat = TBinds_Tr v v2 := by kernel_rfl
noncomputable def TBinds_W (v : List (List PV)) (v2 : List (List PV)) : Option PV := (TBinds_Tr v v2).run
noncomputable def TBinds_b (v : List (List PV)) (v2 : List (List PV)) : Bool := (gBool (gVal (TBinds_W v v2)))
noncomputable def TBinds_is0 (v : List (List PV)) (v2 : List (List PV)) : Bool := isW (TBinds_W v v2) (.bool (TBinds_b v v2))
noncomputable def F_TBinds : List PV → Tr PV | [.sl v .non, .sl v2 .non] => .ite (TBinds_is0 v v2) (.ret (.bool (TBinds_b v v2))) (.fail) | _ => .fail
theorem sim_TBinds (gl : Nat → Option Obj) (hg : GlPow gl) : SimP Tryd.prog gl 4 fun args => (F_TBinds args).run := by
  refine SimP.of_flat (G := G_TBinds) (L := L_TBinds) tbT_ok (gok_TBinds gl hg ) noMixed Tryd.func4 rfl (by rfl) (by kernel_rfl) (loopOk_all (L := lps L_TBinds) [(12, c_TBinds1), (28, c_TBinds2)] (by kernel_rfl) (List.forall_mem_cons.2 ⟨fun fr σ e fr' σ' h => loop_TBinds1 gl hg  fr σ e fr' σ' h, (List.forall_mem_cons.2 ⟨fun fr σ e fr' σ' h => loop_TBinds2 gl hg  fr σ e fr' σ' h, (List.forall_mem_nil _)⟩)⟩)) ?_
  intro args x h
  unfold F_TBinds at h
  split at h
  · exact (congrArg Tr.run (TBinds_T _ _)).trans (ite_isW h fun h => by cases h)
  · cases h
noncomputable def G_TCheckRel : GamT := ofL [(16, .pure F_TCmp), (36, .pure F_TCheck)]
theorem gok_TCheckRel (gl : Nat → Option Obj) : GamOk Tryd.prog gl (gam G_TCheckRel) := (gamOk_cons (sim_TCmp gl) (gamOk_cons (sim_TCheck gl) gamOk_nil))
noncomputable def c_TCheckRel1 : Code := loopC Tryd.f35 4
noncomputable def c_TCheckRel2 : Code := loopC Tryd.f35 11
def I_TCheckRel1 : LI := ⟨57, [0, 10, 11, 12], fun e => match e with | .ret => [2] | .exit 0 => [0] | _ => []⟩
noncomputable def LI_TCheckRel1 : LpsT := fun r fr σ => .fail
noncomputable def TCheckRel1_V (vs : List PV) (σ : Store) : Option (PExit × List PV × Store) := lval (lstep tbT G_TCheckRel LI_TCheckRel1 c_TCheckRel1 I_TCheckRel1) vs σ
noncomputable def TCheckRel1_Tr (l : List (List PV)) (r : List (List PV)) (n : Int) (n2 : Int) : Tr LR := Tr.ite (iLt n2 n)
  (Tr.ite (okPos n2)
    (Tr.ite (okGet [PV.sl [] .full] r (nNat n2))
      (Tr.ite (okR cV (lockLL (xRow r (nNat n2) 0)))
        (Tr.ite (iNe (chkT (lockLL (xRow r (nNat n2) 0))) 0) (Tr.ret (LR.out .ret [PV.int .i64 (chkT (lockLL (xRow r (nNat n2) 0)))] (Store.mk [] [] [])))
          (Tr.ret (LR.next [PV.sl l .non, PV.sl r .non, PV.int .i64 n, PV.int .i64 (iAdd .i64 n2 1)] (Store.mk [] [] []))))
        Tr.fail)
      Tr.fail)
    Tr.fail)
  (Tr.ret (LR.out (.exit 0) [PV.sl l .non] (Store.mk [] [] [])))
theorem TCheckRel1_T (l : List (List PV)) (r : List (List PV)) (n : Int) (n2 : Int) : lstep tbT G_TCheckRel LI_TCheckRel1 c_TCheckRel1 I_TCheckRel1 [.sl l .non, .sl r .non, .int .i64 n, .int .i64 n2] ⟨[], [], []⟩ = TCheckRel1_Tr l r n n2 := by kernel_rfl
theorem TCheckRel1_E (l : List (List PV)) (r : List (List PV)) (n : Int) (n2 : Int) : TCheckRel1_V [.sl l .non, .sl r .non, .int .i64 n, .int .i64 n2] ⟨[], [], []⟩ = lnext TCheckRel1_V (TCheckRel1_Tr l r n n2).run := by unfold TCheckRel1_V; rw [lval_eq, TCheckRel1_T]
noncomputable def TCheckRel1_W (l : List (List PV)) (r : List (List PV)) (n : Int) (n2 : Int) : Option (PExit × List PV × Store) := TCheckRel1_V [.sl l .non, .sl r .non, .int .i64 n, .int .i64 n2] ⟨[], [], []⟩
noncomputable def TCheckRel1_n_0 (l : List (List PV)) (r : List (List PV)) (n : Int) (n2 : Int) : Int := (gInt (gOut (TCheckRel1_W l r n n2) 0))
noncomputable def TCheckRel1_is0 (l : List (List PV)) (r : List (List PV)) (n : Int) (n2 : Int) : Bool := isW (TCheckRel1_W l r n n2) (.ret, [.int .i64 (TCheckRel1_n_0 l r n n2)], ⟨[], [], []⟩)
noncomputable def TCheckRel1_l_1 (l : List (List PV)) (r : List (List PV)) (n : Int) (n2 : Int) : List (List PV) := (gRow (gOut (TCheckRel1_W l r n n2) 0))
noncomputable def TCheckRel1_is1 (l : List (List PV)) (r : List (List PV)) (n : Int) (n2 : Int) : Bool := isW (TCheckRel1_W l r n n2) ((.exit 0), [.sl (TCheckRel1_l_1 l r n n2) .non], ⟨[], [], []⟩)
noncomputable def TCheckRel1_prop : List PV → Store → Tr (PExit × List PV × Store) | [.sl l .non, .sl r .non, .int .i64 n, .int .i64 n2], ⟨[], [], []⟩ => .ite (TCheckRel1_is0 l r n n2) (.ret (.ret, [.int .i64 (TCheckRel1_n_0 l r n n2)], ⟨[], [], []⟩)) (.ite (TCheckRel1_is1 l r n n2) (.ret ((.exit 0), [.sl (TCheckRel1_l_1 l r n n2) .non], ⟨[], [], []⟩)) (.fail)) | _, _ => .fail
theorem TCheckRel1_ok : ∀ vs σ r, (TCheckRel1_prop vs σ).run = some r → TCheckRel1_V vs σ = some r := by
  intro vs σ r h
  unfold TCheckRel1_prop at h
  split at h
  · exact ite_isW h fun h => ite_isW h fun h => by cases h
  · cases h
theorem loop_TCheckRel1 (gl : Nat → Option Obj) : ∀ fr σ e fr' σ', (orc I_TCheckRel1 TCheckRel1_prop fr σ).run = some (e, fr', σ') → LDoes Tryd.prog gl c_TCheckRel1 fr σ e fr' σ' := orc_ok tbT_ok (gok_TCheckRel gl ) noMixed (L := LI_TCheckRel1) (loopOk_none (by kernel_rfl)) (by kernel_rfl) TCheckRel1_ok
def I_TCheckRel2 : LI := ⟨57, [0, 23, 24], fun e => match e with | .ret => [2] | .exit 2 => [] | _ => []⟩
noncomputable def LI_TCheckRel2 : LpsT := fun r fr σ => .fail
noncomputable def TCheckRel2_V (vs : List PV) (σ : Store) : Option (PExit × List PV × Store) := lval (lstep tbT G_TCheckRel LI_TCheckRel2 c_TCheckRel2 I_TCheckRel2) vs σ
noncomputable def TCheckRel2_Tr (l : List (List PV)) (n : Int) (n2 : Int) : Tr LR := Tr.ite (iLt n2 n)
  (Tr.ite (iLt 0 n2)
    (Tr.ite (okPos (iSub .i64 n2 1))
      (Tr.ite (okGet [PV.sl [] .full] l (nNat (iSub .i64 n2 1)))
        (Tr.ite (okPos n2)
          (Tr.ite (okGet [PV.sl [] .full] l (nNat n2))
            (Tr.ite (iNe (xLen (xRow l (nNat (iSub .i64 n2 1)) 0)) (xLen (xRow l (nNat n2) 0))) (Tr.ret (LR.out .ret [PV.int .i64 21] (Store.mk [] [] [])))
              (Tr.ite (okPos (iSub .i64 n2 1))
                (Tr.ite (okGet [PV.sl [] .full] l (nNat (iSub .i64 n2 1)))
                  (Tr.ite (okPos n2)
                    (Tr.ite (okGet [PV.sl [] .full] l (nNat n2))
                      (Tr.ite (okR cV (lockLL (lockLL (xRow l (nNat (iSub .i64 n2 1)) 0))))
                        (Tr.ite (okR cV (lockLL (lockLL (xRow l (nNat n2) 0))))
                          (Tr.ite (iLe 0 (cmpTV (lockLL (lockLL (xRow l (nNat (iSub .i64 n2 1)) 0))) (lockLL (lockLL (xRow l (nNat n2) 0)))))
                            (Tr.ret (LR.out .ret [PV.int .i64 21] (Store.mk [] [] [])))
                            (Tr.ret (LR.next [PV.sl l .non, PV.int .i64 n, PV.int .i64 (iAdd .i64 n2 1)] (Store.mk [] [] []))))
                          Tr.fail)
                        Tr.fail)
                      Tr.fail)
                    Tr.fail)
                  Tr.fail)
                Tr.fail))
            Tr.fail)
          Tr.fail)
        Tr.fail)
      Tr.fail)
    (Tr.ret (LR.next [PV.sl l .non, PV.int .i64 n, PV.int .i64 (iAdd .i64 n2 1)] (Store.mk [] [] []))))
  (Tr.ret (LR.out (.exit 2) [] (Store.mk [] [] [])))
theorem TCheckRel2_T (l : List (List PV)) (n : Int) (n2 : Int) : lstep tbT G_TCheckRel LI_TCheckRel2 c_TCheckRel2 I_TCheckRel2 [.sl l .non, .int .i64 n, .int .i64 n2] ⟨[], [], []⟩ = TCheckRel2_Tr l n n2 := by kernel_rfl
theorem TCheckRel2_E (l : List (List PV)) (n : Int) (n2 : Int) : TCheckRel2_V [.sl l .non, .int .i64 n, .int .i64 n2] ⟨[], [], []⟩ = lnext TCheckRel2_V (TCheckRel2_Tr l n n2).run := by unfold TCheckRel2_V; rw [lval_eq, TCheckRel2_T]
noncomputable def TCheckRel2_W (l : List (List PV)) (n : Int) (n2 : Int) : Option (PExit × List PV × Store) := TCheckRel2_V [.sl l .non, .int .i64 n, .int .i64 n2] ⟨[], [], []⟩
noncomputable def TCheckRel2_n_0 (l : List (List PV)) (n : Int) (n2 : Int) : Int := (gInt (gOut (TCheckRel2_W l n n2) 0))
noncomputable def TCheckRel2_is0 (l : List (List PV)) (n : Int) (n2 : Int) : Bool := isW (TCheckRel2_W l n n2) (.ret, [.int .i64 (TCheckRel2_n_0 l n n2)], ⟨[], [], []⟩)
noncomputable def TCheckRel2_is1 (l : List (List PV)) (n : Int) (n2 : Int) : Bool := isW (TCheckRel2_W l n n2) ((.exit 2), [], ⟨[], [], []⟩)
noncomputable def TCheckRel2_prop : List PV → Store → Tr (PExit × List PV × Store) | [.sl l .non, .int .i64 n, .int .i64 n2], ⟨[], [], []⟩ => .ite (TCheckRel2_is0 l n n2) (.ret (.ret, [.int .i64 (TCheckRel2_n_0 l n n2)], ⟨[], [], []⟩)) (.ite (TCheckRel2_is1 l n n2) (.ret ((.exit 2), [], ⟨[], [], []⟩)) (.fail)) | _, _ => .fail
theorem TCheckRel2_ok : ∀ vs σ r, (TCheckRel2_prop vs σ).run = some r → TCheckRel2_V vs σ = some r := by
  intro vs σ r h
  unfold TCheckRel2_prop at h
  split at h
  · exact ite_isW h fun h => ite_isW h fun h => by cases h
  · cases h
theorem loop_TCheckRel2 (gl : Nat → Option Obj) : ∀ fr σ e fr' σ', (orc I_TCheckRel2 TCheckRel2_prop fr σ).run = some (e, fr', σ') → LDoes Tryd.prog gl c_TCheckRel2 fr σ e fr' σ' := orc_ok tbT_ok (gok_TCheckRel gl ) noMixed (L := LI_TCheckRel2) (loopOk_none (by kernel_rfl)) (by kernel_rfl) TCheckRel2_ok
noncomputable def L_TCheckRel : LpsT := fun r fr σ => bif Nat.beq r 4 then orc I_TCheckRel1 TCheckRel1_prop fr σ else bif Nat.beq r 11 then orc I_TCheckRel2 TCheckRel2_prop fr σ else .fail
noncomputable def TCheckRel_Tr (l : List (List PV)) : Tr PV := Tr.ite (iLt 65536 (xLen l)) (Tr.ret (PV.int .i64 3))
  (Tr.ite (TCheckRel1_is0 l l (xLen l) 0) (Tr.ret (PV.int .i64 (TCheckRel1_n_0 l l (xLen l) 0)))
    (Tr.ite (TCheckRel1_is1 l l (xLen l) 0)
      (Tr.ite (TCheckRel2_is0 (TCheckRel1_l_1 l l (xLen l) 0) (xLen (TCheckRel1_l_1 l l (xLen l) 0)) 0)
        (Tr.ret (PV.int .i64 (TCheckRel2_n_0 (TCheckRel1_l_1 l l (xLen l) 0) (xLen (TCheckRel1_l_1 l l (xLen l) 0)) 0)))
        (Tr.ite (TCheckRel2_is1 (TCheckRel1_l_1 l l (xLen l) 0) (xLen (TCheckRel1_l_1 l l (xLen l) 0)) 0) (Tr.ret (PV.int .i64 0)) Tr.fail))
      Tr.fail))
theorem TCheckRel_T (l : List (List PV)) : (tcall tbT G_TCheckRel L_TCheckRel Tryd.f35 [.sl l .non]).flat = TCheckRel_Tr l := by kernel_rfl
noncomputable def TCheckRel_W (l : List (List PV)) : Option PV := (TCheckRel_Tr l).run
noncomputable def TCheckRel_n (l : List (List PV)) : Int := (gInt (gVal (TCheckRel_W l)))
noncomputable def TCheckRel_is0 (l : List (List PV)) : Bool := isW (TCheckRel_W l) (.int .i64 (TCheckRel_n l))
noncomputable def F_TCheckRel : List PV → Tr PV | [.sl l .non] => .ite (TCheckRel_is0 l) (.ret (.int .i64 (TCheckRel_n l))) (.fail) | _ => .fail
theorem sim_TCheckRel (gl : Nat → Option Obj) : SimP Tryd.prog gl 35 fun args => (F_TCheckRel args).run := by
  refine SimP.of_flat (G := G_TCheckRel) (L := L_TCheckRel) tbT_ok (gok_TCheckRel gl ) noMixed Tryd.func35 rfl (by rfl) (by kernel_rfl) (loopOk_all (L := lps L_TCheckRel) [(4, c_TCheckRel1), (11, c_TCheckRel2)] (by kernel_rfl) (List.forall_mem_cons.2 ⟨fun fr σ e fr' σ' h => loop_TCheckRel1 gl  fr σ e fr' σ' h, (List.forall_mem_cons.2 ⟨fun fr σ e fr' σ' h => loop_TCheckRel2 gl  fr σ e fr' σ' h, (List.forall_mem_nil _)⟩)⟩)) ?_
  intro args x h
  unfold F_TCheckRel at h
  split at h
  · exact (congrArg Tr.run (TCheckRel_T _)).trans (ite_isW h fun h => by cases h)
  · cases h
end Go.Pv
