import Derived.Test.YtdfahkeodlfopaaDoorPvU4
set_option maxHeartbeats 4000000
set_option maxRecDepth 200000
set_option linter.unusedSimpArgs false
set_option linter.unusedVariables false
namespace Go.Pv
open Go Go.Proofs
noncomputable def G_RM0 : GamT := ofL [(19, .pure F_Find), (29, .pure F_RPat)]
theorem gok_RM0 (gl : Nat → Option Obj) : GamOk Tryd.prog gl (gam G_RM0) := (gamOk_cons (sim_Find gl) (gamOk_cons (sim_RPat gl) gamOk_nil))
noncomputable def c_RM01 : Code := loopC Tryd.f27 5
def I_RM01 : LI := ⟨99, [0, 1, 6, 7], fun e => match e with | .ret => [4, 5] | .exit 0 => [6] | _ => []⟩
noncomputable def LI_RM01 : LpsT := fun r fr σ => .fail
noncomputable def RM01_V (vs : List PV) (σ : Store) : Option (PExit × List PV × Store) := lval (lstep tbT G_RM0 LI_RM01 c_RM01 I_RM01) vs σ
noncomputable def RM01_Tr (r : List (List PV)) (r2 : List (List PV)) (r3 : List (List PV)) (n : Int) : Tr LR := Tr.ite (iLt n (xLen r))
  (Tr.ite (okPos n)
    (Tr.ite (okGet [PV.int .i64 0, PV.str [], PV.int .i64 0, PV.int .i64 0, PV.str []] r (nNat n))
      (Tr.ite (okR cB (lockLL r3))
        (Tr.ite (okPos n)
          (Tr.ite (okGet [PV.int .i64 0, PV.str [], PV.int .i64 0, PV.int .i64 0, PV.str []] r (nNat n))
            (Tr.ite (iEq (xInt r (nNat n) 0) 2)
              (Tr.ite (okPos n)
                (Tr.ite (okGet [PV.int .i64 0, PV.str [], PV.int .i64 0, PV.int .i64 0, PV.str []] r (nNat n))
                  (Tr.ite (okPos n)
                    (Tr.ite (okGet [PV.int .i64 0, PV.int .i64 0, PV.str []] r2 (nNat n))
                      (Tr.ite
                        (bNot
                          (bAnd (iEq (xInt r (nNat n) 2) (xInt r2 (nNat n) 0))
                            (bAnd (iEq (xInt r (nNat n) 3) (xInt r2 (nNat n) 1)) (bAnd (sEq (xStr r (nNat n) 4) (xStr r2 (nNat n) 2)) true))))
                        (Tr.ret (LR.out .ret [PV.sl (dropPLL 0 []) .full, PV.bool false] (Store.mk [] [] [])))
                        (Tr.ite (okPos n)
                          (Tr.ite (okGet [PV.int .i64 0, PV.str [], PV.int .i64 0, PV.int .i64 0, PV.str []] r (nNat n))
                            (Tr.ite (iEq (xInt r (nNat n) 0) 1)
                              (Tr.ite (fdO (lockLL r3) (xStr r (nNat n) 1))
                                (Tr.ite (okPos n)
                                  (Tr.ite (okGet [PV.int .i64 0, PV.int .i64 0, PV.str []] r2 (nNat n))
                                    (Tr.ite
                                      (bNot
                                        (bAnd (iEq (fdK (lockLL r3) (xStr r (nNat n) 1)) (xInt r2 (nNat n) 0))
                                          (bAnd (iEq (fdN (lockLL r3) (xStr r (nNat n) 1)) (xInt r2 (nNat n) 1))
                                            (bAnd (sEq (fdS (lockLL r3) (xStr r (nNat n) 1)) (xStr r2 (nNat n) 2)) true))))
                                      (Tr.ret (LR.out .ret [PV.sl (dropPLL 0 []) .full, PV.bool false] (Store.mk [] [] [])))
                                      (Tr.ite (okPos n)
                                        (Tr.ite (okGet [PV.int .i64 0, PV.str [], PV.int .i64 0, PV.int .i64 0, PV.str []] r (nNat n))
                                          (Tr.ite (iEq (xInt r (nNat n) 0) 1)
                                            (Tr.ite (bNot (fdO (lockLL r3) (xStr r (nNat n) 1)))
                                              (Tr.ite (okPos n)
                                                (Tr.ite (okGet [PV.int .i64 0, PV.str [], PV.int .i64 0, PV.int .i64 0, PV.str []] r (nNat n))
                                                  (Tr.ite (okPos n)
                                                    (Tr.ite (okGet [PV.int .i64 0, PV.int .i64 0, PV.str []] r2 (nNat n))
                                                      (Tr.ite
                                                        (okGrow r3
                                                          [[PV.str (xStr r (nNat n) 1), PV.int .i64 (xInt r2 (nNat n) 0), PV.int .i64 (xInt r2 (nNat n) 1),
                                                              PV.str (xStr r2 (nNat n) 2)]]
                                                          48)
                                                        (Tr.ite
                                                          (okNews
                                                            [[PV.str (xStr r (nNat n) 1), PV.int .i64 (xInt r2 (nNat n) 0), PV.int .i64 (xInt r2 (nNat n) 1),
                                                                PV.str (xStr r2 (nNat n) 2)]]
                                                            4)
                                                          (Tr.ite (okSize r3 4)
                                                            (Tr.ret
                                                              (LR.next
                                                                [PV.sl (dropPLL 0 r) .non, PV.sl (dropPLL 0 r2) .non,
                                                                  PV.sl
                                                                    (dropPLL 0
                                                                      (xApp r3
                                                                        [[PV.str (xStr r (nNat n) 1), PV.int .i64 (xInt r2 (nNat n) 0),
                                                                            PV.int .i64 (xInt r2 (nNat n) 1), PV.str (xStr r2 (nNat n) 2)]]))
                                                                    (.tok 0),
                                                                  PV.int .i64 (iAdd .i64 n 1)]
                                                                (Store.mk []
                                                                  [(nXs
                                                                        (xApp r3
                                                                          [[PV.str (xStr r (nNat n) 1), PV.int .i64 (xInt r2 (nNat n) 0),
                                                                              PV.int .i64 (xInt r2 (nNat n) 1), PV.str (xStr r2 (nNat n) 2)]]),
                                                                      4, 74)]
                                                                  [])))
                                                            Tr.fail)
                                                          Tr.fail)
                                                        Tr.fail)
                                                      Tr.fail)
                                                    Tr.fail)
                                                  Tr.fail)
                                                Tr.fail)
                                              (Tr.ret
                                                (LR.next
                                                  [PV.sl (dropPLL 0 r) .non, PV.sl (dropPLL 0 r2) .non, PV.sl (dropPLL 0 r3) .full,
                                                    PV.int .i64 (iAdd .i64 n 1)]
                                                  (Store.mk [] [] []))))
                                            (Tr.ret
                                              (LR.next
                                                [PV.sl (dropPLL 0 r) .non, PV.sl (dropPLL 0 r2) .non, PV.sl (dropPLL 0 r3) .full,
                                                  PV.int .i64 (iAdd .i64 n 1)]
                                                (Store.mk [] [] []))))
                                          Tr.fail)
                                        Tr.fail))
                                    Tr.fail)
                                  Tr.fail)
                                (Tr.ite (okPos n)
                                  (Tr.ite (okGet [PV.int .i64 0, PV.str [], PV.int .i64 0, PV.int .i64 0, PV.str []] r (nNat n))
                                    (Tr.ite (iEq (xInt r (nNat n) 0) 1)
                                      (Tr.ite (bNot (fdO (lockLL r3) (xStr r (nNat n) 1)))
                                        (Tr.ite (okPos n)
                                          (Tr.ite (okGet [PV.int .i64 0, PV.str [], PV.int .i64 0, PV.int .i64 0, PV.str []] r (nNat n))
                                            (Tr.ite (okPos n)
                                              (Tr.ite (okGet [PV.int .i64 0, PV.int .i64 0, PV.str []] r2 (nNat n))
                                                (Tr.ite
                                                  (okGrow r3
                                                    [[PV.str (xStr r (nNat n) 1), PV.int .i64 (xInt r2 (nNat n) 0), PV.int .i64 (xInt r2 (nNat n) 1),
                                                        PV.str (xStr r2 (nNat n) 2)]]
                                                    48)
                                                  (Tr.ite
                                                    (okNews
                                                      [[PV.str (xStr r (nNat n) 1), PV.int .i64 (xInt r2 (nNat n) 0), PV.int .i64 (xInt r2 (nNat n) 1),
                                                          PV.str (xStr r2 (nNat n) 2)]]
                                                      4)
                                                    (Tr.ite (okSize r3 4)
                                                      (Tr.ret
                                                        (LR.next
                                                          [PV.sl (dropPLL 0 r) .non, PV.sl (dropPLL 0 r2) .non,
                                                            PV.sl
                                                              (dropPLL 0
                                                                (xApp r3
                                                                  [[PV.str (xStr r (nNat n) 1), PV.int .i64 (xInt r2 (nNat n) 0), PV.int .i64 (xInt r2 (nNat n) 1),
                                                                      PV.str (xStr r2 (nNat n) 2)]]))
                                                              (.tok 0),
                                                            PV.int .i64 (iAdd .i64 n 1)]
                                                          (Store.mk []
                                                            [(nXs
                                                                  (xApp r3
                                                                    [[PV.str (xStr r (nNat n) 1), PV.int .i64 (xInt r2 (nNat n) 0), PV.int .i64 (xInt r2 (nNat n) 1),
                                                                        PV.str (xStr r2 (nNat n) 2)]]),
                                                                4, 74)]
                                                            [])))
                                                      Tr.fail)
                                                    Tr.fail)
                                                  Tr.fail)
                                                Tr.fail)
                                              Tr.fail)
                                            Tr.fail)
                                          Tr.fail)
                                        (Tr.ret
                                          (LR.next
                                            [PV.sl (dropPLL 0 r) .non, PV.sl (dropPLL 0 r2) .non, PV.sl (dropPLL 0 r3) .full, PV.int .i64 (iAdd .i64 n 1)]
                                            (Store.mk [] [] []))))
                                      (Tr.ret
                                        (LR.next
                                          [PV.sl (dropPLL 0 r) .non, PV.sl (dropPLL 0 r2) .non, PV.sl (dropPLL 0 r3) .full, PV.int .i64 (iAdd .i64 n 1)]
                                          (Store.mk [] [] []))))
                                    Tr.fail)
                                  Tr.fail))
                              (Tr.ite (okPos n)
                                (Tr.ite (okGet [PV.int .i64 0, PV.str [], PV.int .i64 0, PV.int .i64 0, PV.str []] r (nNat n))
                                  (Tr.ite (iEq (xInt r (nNat n) 0) 1)
                                    (Tr.ite (bNot (fdO (lockLL r3) (xStr r (nNat n) 1)))
                                      (Tr.ite (okPos n)
                                        (Tr.ite (okGet [PV.int .i64 0, PV.str [], PV.int .i64 0, PV.int .i64 0, PV.str []] r (nNat n))
                                          (Tr.ite (okPos n)
                                            (Tr.ite (okGet [PV.int .i64 0, PV.int .i64 0, PV.str []] r2 (nNat n))
                                              (Tr.ite
                                                (okGrow r3
                                                  [[PV.str (xStr r (nNat n) 1), PV.int .i64 (xInt r2 (nNat n) 0), PV.int .i64 (xInt r2 (nNat n) 1),
                                                      PV.str (xStr r2 (nNat n) 2)]]
                                                  48)
                                                (Tr.ite
                                                  (okNews
                                                    [[PV.str (xStr r (nNat n) 1), PV.int .i64 (xInt r2 (nNat n) 0), PV.int .i64 (xInt r2 (nNat n) 1),
                                                        PV.str (xStr r2 (nNat n) 2)]]
                                                    4)
                                                  (Tr.ite (okSize r3 4)
                                                    (Tr.ret
                                                      (LR.next
                                                        [PV.sl (dropPLL 0 r) .non, PV.sl (dropPLL 0 r2) .non,
                                                          PV.sl
                                                            (dropPLL 0
                                                              (xApp r3
                                                                [[PV.str (xStr r (nNat n) 1), PV.int .i64 (xInt r2 (nNat n) 0), PV.int .i64 (xInt r2 (nNat n) 1),
                                                                    PV.str (xStr r2 (nNat n) 2)]]))
                                                            (.tok 0),
                                                          PV.int .i64 (iAdd .i64 n 1)]
                                                        (Store.mk []
                                                          [(nXs
                                                                (xApp r3
                                                                  [[PV.str (xStr r (nNat n) 1), PV.int .i64 (xInt r2 (nNat n) 0), PV.int .i64 (xInt r2 (nNat n) 1),
                                                                      PV.str (xStr r2 (nNat n) 2)]]),
                                                              4, 74)]
                                                          [])))
                                                    Tr.fail)
                                                  Tr.fail)
                                                Tr.fail)
                                              Tr.fail)
                                            Tr.fail)
                                          Tr.fail)
                                        Tr.fail)
                                      (Tr.ret
                                        (LR.next
                                          [PV.sl (dropPLL 0 r) .non, PV.sl (dropPLL 0 r2) .non, PV.sl (dropPLL 0 r3) .full, PV.int .i64 (iAdd .i64 n 1)]
                                          (Store.mk [] [] []))))
                                    (Tr.ret
                                      (LR.next [PV.sl (dropPLL 0 r) .non, PV.sl (dropPLL 0 r2) .non, PV.sl (dropPLL 0 r3) .full, PV.int .i64 (iAdd .i64 n 1)]
                                        (Store.mk [] [] []))))
                                  Tr.fail)
                                Tr.fail))
                            Tr.fail)
                          Tr.fail))
                      Tr.fail)
                    Tr.fail)
                  Tr.fail)
                Tr.fail)
              (Tr.ite (okPos n)
                (Tr.ite (okGet [PV.int .i64 0, PV.str [], PV.int .i64 0, PV.int .i64 0, PV.str []] r (nNat n))
                  (Tr.ite (iEq (xInt r (nNat n) 0) 1)
                    (Tr.ite (fdO (lockLL r3) (xStr r (nNat n) 1))
                      (Tr.ite (okPos n)
                        (Tr.ite (okGet [PV.int .i64 0, PV.int .i64 0, PV.str []] r2 (nNat n))
                          (Tr.ite
                            (bNot
                              (bAnd (iEq (fdK (lockLL r3) (xStr r (nNat n) 1)) (xInt r2 (nNat n) 0))
                                (bAnd (iEq (fdN (lockLL r3) (xStr r (nNat n) 1)) (xInt r2 (nNat n) 1))
                                  (bAnd (sEq (fdS (lockLL r3) (xStr r (nNat n) 1)) (xStr r2 (nNat n) 2)) true))))
                            (Tr.ret (LR.out .ret [PV.sl (dropPLL 0 []) .full, PV.bool false] (Store.mk [] [] [])))
                            (Tr.ite (okPos n)
                              (Tr.ite (okGet [PV.int .i64 0, PV.str [], PV.int .i64 0, PV.int .i64 0, PV.str []] r (nNat n))
                                (Tr.ite (iEq (xInt r (nNat n) 0) 1)
                                  (Tr.ite (bNot (fdO (lockLL r3) (xStr r (nNat n) 1)))
                                    (Tr.ite (okPos n)
                                      (Tr.ite (okGet [PV.int .i64 0, PV.str [], PV.int .i64 0, PV.int .i64 0, PV.str []] r (nNat n))
                                        (Tr.ite (okPos n)
                                          (Tr.ite (okGet [PV.int .i64 0, PV.int .i64 0, PV.str []] r2 (nNat n))
                                            (Tr.ite
                                              (okGrow r3
                                                [[PV.str (xStr r (nNat n) 1), PV.int .i64 (xInt r2 (nNat n) 0), PV.int .i64 (xInt r2 (nNat n) 1),
                                                    PV.str (xStr r2 (nNat n) 2)]]
                                                48)
                                              (Tr.ite
                                                (okNews
                                                  [[PV.str (xStr r (nNat n) 1), PV.int .i64 (xInt r2 (nNat n) 0), PV.int .i64 (xInt r2 (nNat n) 1),
                                                      PV.str (xStr r2 (nNat n) 2)]]
                                                  4)
                                                (Tr.ite (okSize r3 4)
                                                  (Tr.ret
                                                    (LR.next
                                                      [PV.sl (dropPLL 0 r) .non, PV.sl (dropPLL 0 r2) .non,
                                                        PV.sl
                                                          (dropPLL 0
                                                            (xApp r3
                                                              [[PV.str (xStr r (nNat n) 1), PV.int .i64 (xInt r2 (nNat n) 0), PV.int .i64 (xInt r2 (nNat n) 1),
                                                                  PV.str (xStr r2 (nNat n) 2)]]))
                                                          (.tok 0),
                                                        PV.int .i64 (iAdd .i64 n 1)]
                                                      (Store.mk []
                                                        [(nXs
                                                              (xApp r3
                                                                [[PV.str (xStr r (nNat n) 1), PV.int .i64 (xInt r2 (nNat n) 0), PV.int .i64 (xInt r2 (nNat n) 1),
                                                                    PV.str (xStr r2 (nNat n) 2)]]),
                                                            4, 74)]
                                                        [])))
                                                  Tr.fail)
                                                Tr.fail)
                                              Tr.fail)
                                            Tr.fail)
                                          Tr.fail)
                                        Tr.fail)
                                      Tr.fail)
                                    (Tr.ret
                                      (LR.next [PV.sl (dropPLL 0 r) .non, PV.sl (dropPLL 0 r2) .non, PV.sl (dropPLL 0 r3) .full, PV.int .i64 (iAdd .i64 n 1)]
                                        (Store.mk [] [] []))))
                                  (Tr.ret
                                    (LR.next [PV.sl (dropPLL 0 r) .non, PV.sl (dropPLL 0 r2) .non, PV.sl (dropPLL 0 r3) .full, PV.int .i64 (iAdd .i64 n 1)]
                                      (Store.mk [] [] []))))
                                Tr.fail)
                              Tr.fail))
                          Tr.fail)
                        Tr.fail)
                      (Tr.ite (okPos n)
                        (Tr.ite (okGet [PV.int .i64 0, PV.str [], PV.int .i64 0, PV.int .i64 0, PV.str []] r (nNat n))
                          (Tr.ite (iEq (xInt r (nNat n) 0) 1)
                            (Tr.ite (bNot (fdO (lockLL r3) (xStr r (nNat n) 1)))
                              (Tr.ite (okPos n)
                                (Tr.ite (okGet [PV.int .i64 0, PV.str [], PV.int .i64 0, PV.int .i64 0, PV.str []] r (nNat n))
                                  (Tr.ite (okPos n)
                                    (Tr.ite (okGet [PV.int .i64 0, PV.int .i64 0, PV.str []] r2 (nNat n))
                                      (Tr.ite
                                        (okGrow r3
                                          [[PV.str (xStr r (nNat n) 1), PV.int .i64 (xInt r2 (nNat n) 0), PV.int .i64 (xInt r2 (nNat n) 1),
                                              PV.str (xStr r2 (nNat n) 2)]]
                                          48)
                                        (Tr.ite
                                          (okNews
                                            [[PV.str (xStr r (nNat n) 1), PV.int .i64 (xInt r2 (nNat n) 0), PV.int .i64 (xInt r2 (nNat n) 1),
                                                PV.str (xStr r2 (nNat n) 2)]]
                                            4)
                                          (Tr.ite (okSize r3 4)
                                            (Tr.ret
                                              (LR.next
                                                [PV.sl (dropPLL 0 r) .non, PV.sl (dropPLL 0 r2) .non,
                                                  PV.sl
                                                    (dropPLL 0
                                                      (xApp r3
                                                        [[PV.str (xStr r (nNat n) 1), PV.int .i64 (xInt r2 (nNat n) 0), PV.int .i64 (xInt r2 (nNat n) 1),
                                                            PV.str (xStr r2 (nNat n) 2)]]))
                                                    (.tok 0),
                                                  PV.int .i64 (iAdd .i64 n 1)]
                                                (Store.mk []
                                                  [(nXs
                                                        (xApp r3
                                                          [[PV.str (xStr r (nNat n) 1), PV.int .i64 (xInt r2 (nNat n) 0), PV.int .i64 (xInt r2 (nNat n) 1),
                                                              PV.str (xStr r2 (nNat n) 2)]]),
                                                      4, 74)]
                                                  [])))
                                            Tr.fail)
                                          Tr.fail)
                                        Tr.fail)
                                      Tr.fail)
                                    Tr.fail)
                                  Tr.fail)
                                Tr.fail)
                              (Tr.ret
                                (LR.next [PV.sl (dropPLL 0 r) .non, PV.sl (dropPLL 0 r2) .non, PV.sl (dropPLL 0 r3) .full, PV.int .i64 (iAdd .i64 n 1)]
                                  (Store.mk [] [] []))))
                            (Tr.ret
                              (LR.next [PV.sl (dropPLL 0 r) .non, PV.sl (dropPLL 0 r2) .non, PV.sl (dropPLL 0 r3) .full, PV.int .i64 (iAdd .i64 n 1)]
                                (Store.mk [] [] []))))
                          Tr.fail)
                        Tr.fail))
                    (Tr.ite (okPos n)
                      (Tr.ite (okGet [PV.int .i64 0, PV.str [], PV.int .i64 0, PV.int .i64 0, PV.str []] r (nNat n))
                        (Tr.ite (iEq (xInt r (nNat n) 0) 1)
                          (Tr.ite (bNot (fdO (lockLL r3) (xStr r (nNat n) 1)))
                            (Tr.ite (okPos n)
                              (Tr.ite (okGet [PV.int .i64 0, PV.str [], PV.int .i64 0, PV.int .i64 0, PV.str []] r (nNat n))
                                (Tr.ite (okPos n)
                                  (Tr.ite (okGet [PV.int .i64 0, PV.int .i64 0, PV.str []] r2 (nNat n))
                                    (Tr.ite
                                      (okGrow r3
                                        [[PV.str (xStr r (nNat n) 1), PV.int .i64 (xInt r2 (nNat n) 0), PV.int .i64 (xInt r2 (nNat n) 1),
                                            PV.str (xStr r2 (nNat n) 2)]]
                                        48)
                                      (Tr.ite
                                        (okNews
                                          [[PV.str (xStr r (nNat n) 1), PV.int .i64 (xInt r2 (nNat n) 0), PV.int .i64 (xInt r2 (nNat n) 1),
                                              PV.str (xStr r2 (nNat n) 2)]]
                                          4)
                                        (Tr.ite (okSize r3 4)
                                          (Tr.ret
                                            (LR.next
                                              [PV.sl (dropPLL 0 r) .non, PV.sl (dropPLL 0 r2) .non,
                                                PV.sl
                                                  (dropPLL 0
                                                    (xApp r3
                                                      [[PV.str (xStr r (nNat n) 1), PV.int .i64 (xInt r2 (nNat n) 0), PV.int .i64 (xInt r2 (nNat n) 1),
                                                          PV.str (xStr r2 (nNat n) 2)]]))
                                                  (.tok 0),
                                                PV.int .i64 (iAdd .i64 n 1)]
                                              (Store.mk []
                                                [(nXs
                                                      (xApp r3
                                                        [[PV.str (xStr r (nNat n) 1), PV.int .i64 (xInt r2 (nNat n) 0), PV.int .i64 (xInt r2 (nNat n) 1),
                                                            PV.str (xStr r2 (nNat n) 2)]]),
                                                    4, 74)]
                                                [])))
                                          Tr.fail)
                                        Tr.fail)
                                      Tr.fail)
                                    Tr.fail)
                                  Tr.fail)
                                Tr.fail)
                              Tr.fail)
                            (Tr.ret
                              (LR.next [PV.sl (dropPLL 0 r) .non, PV.sl (dropPLL 0 r2) .non, PV.sl (dropPLL 0 r3) .full, PV.int .i64 (iAdd .i64 n 1)]
                                (Store.mk [] [] []))))
                          (Tr.ret
                            (LR.next [PV.sl (dropPLL 0 r) .non, PV.sl (dropPLL 0 r2) .non, PV.sl (dropPLL 0 r3) .full, PV.int .i64 (iAdd .i64 n 1)]
                              (Store.mk [] [] []))))
                        Tr.fail)
                      Tr.fail))
                  Tr.fail)
                Tr.fail))
            Tr.fail)
          Tr.fail)
        Tr.fail)
      Tr.fail)
    Tr.fail)
  (Tr.ret (LR.out (.exit 0) [PV.sl r3 .full] (Store.mk [] [] [])))
theorem RM01_T (r : List (List PV)) (r2 : List (List PV)) (r3 : List (List PV)) (n : Int) : lstep tbT G_RM0 LI_RM01 c_RM01 I_RM01 [.sl r .non, .sl r2 .non, .sl r3 .full, .int .i64 n] ⟨[], [], []⟩ = RM01_Tr r r2 r3 n := by kernel_rfl
theorem RM01_E (r : List (List PV)) (r2 : List (List PV)) (r3 : List (List PV)) (n : Int) : RM01_V [.sl r .non, .sl r2 .non, .sl r3 .full, .int .i64 n] ⟨[], [], []⟩ = lnext RM01_V (RM01_Tr r r2 r3 n).run := by unfold RM01_V; rw [lval_eq, RM01_T]
noncomputable def RM01_Tr1 (r : List (List PV)) (r2 : List (List PV)) (r3 : List (List PV)) (n : Int) (k : Nat) : Tr LR := Tr.ite (iLt n (xLen r))
  (Tr.ite (okPos n)
    (Tr.ite (okGet [PV.int .i64 0, PV.str [], PV.int .i64 0, PV.int .i64 0, PV.str []] r (nNat n))
      (Tr.ite (okR cB (lockLL r3))
        (Tr.ite (okPos n)
          (Tr.ite (okGet [PV.int .i64 0, PV.str [], PV.int .i64 0, PV.int .i64 0, PV.str []] r (nNat n))
            (Tr.ite (iEq (xInt r (nNat n) 0) 2)
              (Tr.ite (okPos n)
                (Tr.ite (okGet [PV.int .i64 0, PV.str [], PV.int .i64 0, PV.int .i64 0, PV.str []] r (nNat n))
                  (Tr.ite (okPos n)
                    (Tr.ite (okGet [PV.int .i64 0, PV.int .i64 0, PV.str []] r2 (nNat n))
                      (Tr.ite
                        (bNot
                          (bAnd (iEq (xInt r (nNat n) 2) (xInt r2 (nNat n) 0))
                            (bAnd (iEq (xInt r (nNat n) 3) (xInt r2 (nNat n) 1)) (bAnd (sEq (xStr r (nNat n) 4) (xStr r2 (nNat n) 2)) true))))
                        (Tr.ret (LR.out .ret [PV.sl (dropPLL 0 []) .full, PV.bool false] (Store.mk [] [(k, 4, 74)] [])))
                        (Tr.ite (okPos n)
                          (Tr.ite (okGet [PV.int .i64 0, PV.str [], PV.int .i64 0, PV.int .i64 0, PV.str []] r (nNat n))
                            (Tr.ite (iEq (xInt r (nNat n) 0) 1)
                              (Tr.ite (fdO (lockLL r3) (xStr r (nNat n) 1))
                                (Tr.ite (okPos n)
                                  (Tr.ite (okGet [PV.int .i64 0, PV.int .i64 0, PV.str []] r2 (nNat n))
                                    (Tr.ite
                                      (bNot
                                        (bAnd (iEq (fdK (lockLL r3) (xStr r (nNat n) 1)) (xInt r2 (nNat n) 0))
                                          (bAnd (iEq (fdN (lockLL r3) (xStr r (nNat n) 1)) (xInt r2 (nNat n) 1))
                                            (bAnd (sEq (fdS (lockLL r3) (xStr r (nNat n) 1)) (xStr r2 (nNat n) 2)) true))))
                                      (Tr.ret (LR.out .ret [PV.sl (dropPLL 0 []) .full, PV.bool false] (Store.mk [] [(k, 4, 74)] [])))
                                      (Tr.ite (okPos n)
                                        (Tr.ite (okGet [PV.int .i64 0, PV.str [], PV.int .i64 0, PV.int .i64 0, PV.str []] r (nNat n))
                                          (Tr.ite (iEq (xInt r (nNat n) 0) 1)
                                            (Tr.ite (bNot (fdO (lockLL r3) (xStr r (nNat n) 1)))
                                              (Tr.ite (okPos n)
                                                (Tr.ite (okGet [PV.int .i64 0, PV.str [], PV.int .i64 0, PV.int .i64 0, PV.str []] r (nNat n))
                                                  (Tr.ite (okPos n)
                                                    (Tr.ite (okGet [PV.int .i64 0, PV.int .i64 0, PV.str []] r2 (nNat n))
                                                      (Tr.ite
                                                        (okGrow r3
                                                          [[PV.str (xStr r (nNat n) 1), PV.int .i64 (xInt r2 (nNat n) 0), PV.int .i64 (xInt r2 (nNat n) 1),
                                                              PV.str (xStr r2 (nNat n) 2)]]
                                                          48)
                                                        (Tr.ite
                                                          (okNews
                                                            [[PV.str (xStr r (nNat n) 1), PV.int .i64 (xInt r2 (nNat n) 0), PV.int .i64 (xInt r2 (nNat n) 1),
                                                                PV.str (xStr r2 (nNat n) 2)]]
                                                            4)
                                                          (Tr.ite (okSize r3 4)
                                                            (Tr.ite (nEq k (nXs r3))
                                                              (Tr.ret
                                                                (LR.next
                                                                  [PV.sl (dropPLL 0 r) .non, PV.sl (dropPLL 0 r2) .non,
                                                                    PV.sl
                                                                      (dropPLL 0
                                                                        (xApp r3
                                                                          [[PV.str (xStr r (nNat n) 1), PV.int .i64 (xInt r2 (nNat n) 0),
                                                                              PV.int .i64 (xInt r2 (nNat n) 1), PV.str (xStr r2 (nNat n) 2)]]))
                                                                      (.tok 0),
                                                                    PV.int .i64 (iAdd .i64 n 1)]
                                                                  (Store.mk []
                                                                    [(nXs
                                                                          (xApp r3
                                                                            [[PV.str (xStr r (nNat n) 1), PV.int .i64 (xInt r2 (nNat n) 0),
                                                                                PV.int .i64 (xInt r2 (nNat n) 1), PV.str (xStr r2 (nNat n) 2)]]),
                                                                        4, 74)]
                                                                    [])))
                                                              Tr.fail)
                                                            Tr.fail)
                                                          Tr.fail)
                                                        Tr.fail)
                                                      Tr.fail)
                                                    Tr.fail)
                                                  Tr.fail)
                                                Tr.fail)
                                              (Tr.ret
                                                (LR.next
                                                  [PV.sl (dropPLL 0 r) .non, PV.sl (dropPLL 0 r2) .non, PV.sl (dropPLL 0 r3) (.tok 0),
                                                    PV.int .i64 (iAdd .i64 n 1)]
                                                  (Store.mk [] [(k, 4, 74)] []))))
                                            (Tr.ret
                                              (LR.next
                                                [PV.sl (dropPLL 0 r) .non, PV.sl (dropPLL 0 r2) .non, PV.sl (dropPLL 0 r3) (.tok 0),
                                                  PV.int .i64 (iAdd .i64 n 1)]
                                                (Store.mk [] [(k, 4, 74)] []))))
                                          Tr.fail)
                                        Tr.fail))
                                    Tr.fail)
                                  Tr.fail)
                                (Tr.ite (okPos n)
                                  (Tr.ite (okGet [PV.int .i64 0, PV.str [], PV.int .i64 0, PV.int .i64 0, PV.str []] r (nNat n))
                                    (Tr.ite (iEq (xInt r (nNat n) 0) 1)
                                      (Tr.ite (bNot (fdO (lockLL r3) (xStr r (nNat n) 1)))
                                        (Tr.ite (okPos n)
                                          (Tr.ite (okGet [PV.int .i64 0, PV.str [], PV.int .i64 0, PV.int .i64 0, PV.str []] r (nNat n))
                                            (Tr.ite (okPos n)
                                              (Tr.ite (okGet [PV.int .i64 0, PV.int .i64 0, PV.str []] r2 (nNat n))
                                                (Tr.ite
                                                  (okGrow r3
                                                    [[PV.str (xStr r (nNat n) 1), PV.int .i64 (xInt r2 (nNat n) 0), PV.int .i64 (xInt r2 (nNat n) 1),
                                                        PV.str (xStr r2 (nNat n) 2)]]
                                                    48)
                                                  (Tr.ite
                                                    (okNews
                                                      [[PV.str (xStr r (nNat n) 1), PV.int .i64 (xInt r2 (nNat n) 0), PV.int .i64 (xInt r2 (nNat n) 1),
                                                          PV.str (xStr r2 (nNat n) 2)]]
                                                      4)
                                                    (Tr.ite (okSize r3 4)
                                                      (Tr.ite (nEq k (nXs r3))
                                                        (Tr.ret
                                                          (LR.next
                                                            [PV.sl (dropPLL 0 r) .non, PV.sl (dropPLL 0 r2) .non,
                                                              PV.sl
                                                                (dropPLL 0
                                                                  (xApp r3
                                                                    [[PV.str (xStr r (nNat n) 1), PV.int .i64 (xInt r2 (nNat n) 0), PV.int .i64 (xInt r2 (nNat n) 1),
                                                                        PV.str (xStr r2 (nNat n) 2)]]))
                                                                (.tok 0),
                                                              PV.int .i64 (iAdd .i64 n 1)]
                                                            (Store.mk []
                                                              [(nXs
                                                                    (xApp r3
                                                                      [[PV.str (xStr r (nNat n) 1), PV.int .i64 (xInt r2 (nNat n) 0),
                                                                          PV.int .i64 (xInt r2 (nNat n) 1), PV.str (xStr r2 (nNat n) 2)]]),
                                                                  4, 74)]
                                                              [])))
                                                        Tr.fail)
                                                      Tr.fail)
                                                    Tr.fail)
                                                  Tr.fail)
                                                Tr.fail)
                                              Tr.fail)
                                            Tr.fail)
                                          Tr.fail)
                                        (Tr.ret
                                          (LR.next
                                            [PV.sl (dropPLL 0 r) .non, PV.sl (dropPLL 0 r2) .non, PV.sl (dropPLL 0 r3) (.tok 0), PV.int .i64 (iAdd .i64 n 1)]
                                            (Store.mk [] [(k, 4, 74)] []))))
                                      (Tr.ret
                                        (LR.next
                                          [PV.sl (dropPLL 0 r) .non, PV.sl (dropPLL 0 r2) .non, PV.sl (dropPLL 0 r3) (.tok 0), PV.int .i64 (iAdd .i64 n 1)]
                                          (Store.mk [] [(k, 4, 74)] []))))
                                    Tr.fail)
                                  Tr.fail))
                              (Tr.ite (okPos n)
                                (Tr.ite (okGet [PV.int .i64 0, PV.str [], PV.int .i64 0, PV.int .i64 0, PV.str []] r (nNat n))
                                  (Tr.ite (iEq (xInt r (nNat n) 0) 1)
                                    (Tr.ite (bNot (fdO (lockLL r3) (xStr r (nNat n) 1)))
                                      (Tr.ite (okPos n)
                                        (Tr.ite (okGet [PV.int .i64 0, PV.str [], PV.int .i64 0, PV.int .i64 0, PV.str []] r (nNat n))
                                          (Tr.ite (okPos n)
                                            (Tr.ite (okGet [PV.int .i64 0, PV.int .i64 0, PV.str []] r2 (nNat n))
                                              (Tr.ite
                                                (okGrow r3
                                                  [[PV.str (xStr r (nNat n) 1), PV.int .i64 (xInt r2 (nNat n) 0), PV.int .i64 (xInt r2 (nNat n) 1),
                                                      PV.str (xStr r2 (nNat n) 2)]]
                                                  48)
                                                (Tr.ite
                                                  (okNews
                                                    [[PV.str (xStr r (nNat n) 1), PV.int .i64 (xInt r2 (nNat n) 0), PV.int .i64 (xInt r2 (nNat n) 1),
                                                        PV.str (xStr r2 (nNat n) 2)]]
                                                    4)
                                                  (Tr.ite (okSize r3 4)
                                                    (Tr.ite (nEq k (nXs r3))
                                                      (Tr.ret
                                                        (LR.next
                                                          [PV.sl (dropPLL 0 r) .non, PV.sl (dropPLL 0 r2) .non,
                                                            PV.sl
                                                              (dropPLL 0
                                                                (xApp r3
                                                                  [[PV.str (xStr r (nNat n) 1), PV.int .i64 (xInt r2 (nNat n) 0), PV.int .i64 (xInt r2 (nNat n) 1),
                                                                      PV.str (xStr r2 (nNat n) 2)]]))
                                                              (.tok 0),
                                                            PV.int .i64 (iAdd .i64 n 1)]
                                                          (Store.mk []
                                                            [(nXs
                                                                  (xApp r3
                                                                    [[PV.str (xStr r (nNat n) 1), PV.int .i64 (xInt r2 (nNat n) 0), PV.int .i64 (xInt r2 (nNat n) 1),
                                                                        PV.str (xStr r2 (nNat n) 2)]]),
                                                                4, 74)]
                                                            [])))
                                                      Tr.fail)
                                                    Tr.fail)
                                                  Tr.fail)
                                                Tr.fail)
                                              Tr.fail)
                                            Tr.fail)
                                          Tr.fail)
                                        Tr.fail)
                                      (Tr.ret
                                        (LR.next
                                          [PV.sl (dropPLL 0 r) .non, PV.sl (dropPLL 0 r2) .non, PV.sl (dropPLL 0 r3) (.tok 0), PV.int .i64 (iAdd .i64 n 1)]
                                          (Store.mk [] [(k, 4, 74)] []))))
                                    (Tr.ret
                                      (LR.next
                                        [PV.sl (dropPLL 0 r) .non, PV.sl (dropPLL 0 r2) .non, PV.sl (dropPLL 0 r3) (.tok 0), PV.int .i64 (iAdd .i64 n 1)]
                                        (Store.mk [] [(k, 4, 74)] []))))
                                  Tr.fail)
                                Tr.fail))
                            Tr.fail)
                          Tr.fail))
                      Tr.fail)
                    Tr.fail)
                  Tr.fail)
                Tr.fail)
              (Tr.ite (okPos n)
                (Tr.ite (okGet [PV.int .i64 0, PV.str [], PV.int .i64 0, PV.int .i64 0, PV.str []] r (nNat n))
                  (Tr.ite (iEq (xInt r (nNat n) 0) 1)
                    (Tr.ite (fdO (lockLL r3) (xStr r (nNat n) 1))
                      (Tr.ite (okPos n)
                        (Tr.ite (okGet [PV.int .i64 0, PV.int .i64 0, PV.str []] r2 (nNat n))
                          (Tr.ite
                            (bNot
                              (bAnd (iEq (fdK (lockLL r3) (xStr r (nNat n) 1)) (xInt r2 (nNat n) 0))
                                (bAnd (iEq (fdN (lockLL r3) (xStr r (nNat n) 1)) (xInt r2 (nNat n) 1))
                                  (bAnd (sEq (fdS (lockLL r3) (xStr r (nNat n) 1)) (xStr r2 (nNat n) 2)) true))))
                            (Tr.ret (LR.out .ret [PV.sl (dropPLL 0 []) .full, PV.bool false] (Store.mk [] [(k, 4, 74)] [])))
                            (Tr.ite (okPos n)
                              (Tr.ite (okGet [PV.int .i64 0, PV.str [], PV.int .i64 0, PV.int .i64 0, PV.str []] r (nNat n))
                                (Tr.ite (iEq (xInt r (nNat n) 0) 1)
                                  (Tr.ite (bNot (fdO (lockLL r3) (xStr r (nNat n) 1)))
                                    (Tr.ite (okPos n)
                                      (Tr.ite (okGet [PV.int .i64 0, PV.str [], PV.int .i64 0, PV.int .i64 0, PV.str []] r (nNat n))
                                        (Tr.ite (okPos n)
                                          (Tr.ite (okGet [PV.int .i64 0, PV.int .i64 0, PV.str []] r2 (nNat n))
                                            (Tr.ite
                                              (okGrow r3
                                                [[PV.str (xStr r (nNat n) 1), PV.int .i64 (xInt r2 (nNat n) 0), PV.int .i64 (xInt r2 (nNat n) 1),
                                                    PV.str (xStr r2 (nNat n) 2)]]
                                                48)
                                              (Tr.ite
                                                (okNews
                                                  [[PV.str (xStr r (nNat n) 1), PV.int .i64 (xInt r2 (nNat n) 0), PV.int .i64 (xInt r2 (nNat n) 1),
                                                      PV.str (xStr r2 (nNat n) 2)]]
                                                  4)
                                                (Tr.ite (okSize r3 4)
                                                  (Tr.ite (nEq k (nXs r3))
                                                    (Tr.ret
                                                      (LR.next
                                                        [PV.sl (dropPLL 0 r) .non, PV.sl (dropPLL 0 r2) .non,
                                                          PV.sl
                                                            (dropPLL 0
                                                              (xApp r3
                                                                [[PV.str (xStr r (nNat n) 1), PV.int .i64 (xInt r2 (nNat n) 0), PV.int .i64 (xInt r2 (nNat n) 1),
                                                                    PV.str (xStr r2 (nNat n) 2)]]))
                                                            (.tok 0),
                                                          PV.int .i64 (iAdd .i64 n 1)]
                                                        (Store.mk []
                                                          [(nXs
                                                                (xApp r3
                                                                  [[PV.str (xStr r (nNat n) 1), PV.int .i64 (xInt r2 (nNat n) 0), PV.int .i64 (xInt r2 (nNat n) 1),
                                                                      PV.str (xStr r2 (nNat n) 2)]]),
                                                              4, 74)]
                                                          [])))
                                                    Tr.fail)
                                                  Tr.fail)
                                                Tr.fail)
                                              Tr.fail)
                                            Tr.fail)
                                          Tr.fail)
                                        Tr.fail)
                                      Tr.fail)
                                    (Tr.ret
                                      (LR.next
                                        [PV.sl (dropPLL 0 r) .non, PV.sl (dropPLL 0 r2) .non, PV.sl (dropPLL 0 r3) (.tok 0), PV.int .i64 (iAdd .i64 n 1)]
                                        (Store.mk [] [(k, 4, 74)] []))))
                                  (Tr.ret
                                    (LR.next
                                      [PV.sl (dropPLL 0 r) .non, PV.sl (dropPLL 0 r2) .non, PV.sl (dropPLL 0 r3) (.tok 0), PV.int .i64 (iAdd .i64 n 1)]
                                      (Store.mk [] [(k, 4, 74)] []))))
                                Tr.fail)
                              Tr.fail))
                          Tr.fail)
                        Tr.fail)
                      (Tr.ite (okPos n)
                        (Tr.ite (okGet [PV.int .i64 0, PV.str [], PV.int .i64 0, PV.int .i64 0, PV.str []] r (nNat n))
                          (Tr.ite (iEq (xInt r (nNat n) 0) 1)
                            (Tr.ite (bNot (fdO (lockLL r3) (xStr r (nNat n) 1)))
                              (Tr.ite (okPos n)
                                (Tr.ite (okGet [PV.int .i64 0, PV.str [], PV.int .i64 0, PV.int .i64 0, PV.str []] r (nNat n))
                                  (Tr.ite (okPos n)
                                    (Tr.ite (okGet [PV.int .i64 0, PV.int .i64 0, PV.str []] r2 (nNat n))
                                      (Tr.ite
                                        (okGrow r3
                                          [[PV.str (xStr r (nNat n) 1), PV.int .i64 (xInt r2 (nNat n) 0), PV.int .i64 (xInt r2 (nNat n) 1),
                                              PV.str (xStr r2 (nNat n) 2)]]
                                          48)
                                        (Tr.ite
                                          (okNews
                                            [[PV.str (xStr r (nNat n) 1), PV.int .i64 (xInt r2 (nNat n) 0), PV.int .i64 (xInt r2 (nNat n) 1),
                                                PV.str (xStr r2 (nNat n) 2)]]
                                            4)
                                          (Tr.ite (okSize r3 4)
                                            (Tr.ite (nEq k (nXs r3))
                                              (Tr.ret
                                                (LR.next
                                                  [PV.sl (dropPLL 0 r) .non, PV.sl (dropPLL 0 r2) .non,
                                                    PV.sl
                                                      (dropPLL 0
                                                        (xApp r3
                                                          [[PV.str (xStr r (nNat n) 1), PV.int .i64 (xInt r2 (nNat n) 0), PV.int .i64 (xInt r2 (nNat n) 1),
                                                              PV.str (xStr r2 (nNat n) 2)]]))
                                                      (.tok 0),
                                                    PV.int .i64 (iAdd .i64 n 1)]
                                                  (Store.mk []
                                                    [(nXs
                                                          (xApp r3
                                                            [[PV.str (xStr r (nNat n) 1), PV.int .i64 (xInt r2 (nNat n) 0), PV.int .i64 (xInt r2 (nNat n) 1),
                                                                PV.str (xStr r2 (nNat n) 2)]]),
                                                        4, 74)]
                                                    [])))
                                              Tr.fail)
                                            Tr.fail)
                                          Tr.fail)
                                        Tr.fail)
                                      Tr.fail)
                                    Tr.fail)
                                  Tr.fail)
                                Tr.fail)
                              (Tr.ret
                                (LR.next [PV.sl (dropPLL 0 r) .non, PV.sl (dropPLL 0 r2) .non, PV.sl (dropPLL 0 r3) (.tok 0), PV.int .i64 (iAdd .i64 n 1)]
                                  (Store.mk [] [(k, 4, 74)] []))))
                            (Tr.ret
                              (LR.next [PV.sl (dropPLL 0 r) .non, PV.sl (dropPLL 0 r2) .non, PV.sl (dropPLL 0 r3) (.tok 0), PV.int .i64 (iAdd .i64 n 1)]
                                (Store.mk [] [(k, 4, 74)] []))))
                          Tr.fail)
                        Tr.fail))
                    (Tr.ite (okPos n)
                      (Tr.ite (okGet [PV.int .i64 0, PV.str [], PV.int .i64 0, PV.int .i64 0, PV.str []] r (nNat n))
                        (Tr.ite (iEq (xInt r (nNat n) 0) 1)
                          (Tr.ite (bNot (fdO (lockLL r3) (xStr r (nNat n) 1)))
                            (Tr.ite (okPos n)
                              (Tr.ite (okGet [PV.int .i64 0, PV.str [], PV.int .i64 0, PV.int .i64 0, PV.str []] r (nNat n))
                                (Tr.ite (okPos n)
                                  (Tr.ite (okGet [PV.int .i64 0, PV.int .i64 0, PV.str []] r2 (nNat n))
                                    (Tr.ite
                                      (okGrow r3
                                        [[PV.str (xStr r (nNat n) 1), PV.int .i64 (xInt r2 (nNat n) 0), PV.int .i64 (xInt r2 (nNat n) 1),
                                            PV.str (xStr r2 (nNat n) 2)]]
                                        48)
                                      (Tr.ite
                                        (okNews
                                          [[PV.str (xStr r (nNat n) 1), PV.int .i64 (xInt r2 (nNat n) 0), PV.int .i64 (xInt r2 (nNat n) 1),
                                              PV.str (xStr r2 (nNat n) 2)]]
                                          4)
                                        (Tr.ite (okSize r3 4)
                                          (Tr.ite (nEq k (nXs r3))
                                            (Tr.ret
                                              (LR.next
                                                [PV.sl (dropPLL 0 r) .non, PV.sl (dropPLL 0 r2) .non,
                                                  PV.sl
                                                    (dropPLL 0
                                                      (xApp r3
                                                        [[PV.str (xStr r (nNat n) 1), PV.int .i64 (xInt r2 (nNat n) 0), PV.int .i64 (xInt r2 (nNat n) 1),
                                                            PV.str (xStr r2 (nNat n) 2)]]))
                                                    (.tok 0),
                                                  PV.int .i64 (iAdd .i64 n 1)]
                                                (Store.mk []
                                                  [(nXs
                                                        (xApp r3
                                                          [[PV.str (xStr r (nNat n) 1), PV.int .i64 (xInt r2 (nNat n) 0), PV.int .i64 (xInt r2 (nNat n) 1),
                                                              PV.str (xStr r2 (nNat n) 2)]]),
                                                      4, 74)]
                                                  [])))
                                            Tr.fail)
                                          Tr.fail)
                                        Tr.fail)
                                      Tr.fail)
                                    Tr.fail)
                                  Tr.fail)
                                Tr.fail)
                              Tr.fail)
                            (Tr.ret
                              (LR.next [PV.sl (dropPLL 0 r) .non, PV.sl (dropPLL 0 r2) .non, PV.sl (dropPLL 0 r3) (.tok 0), PV.int .i64 (iAdd .i64 n 1)]
                                (Store.mk [] [(k, 4, 74)] []))))
                          (Tr.ret
                            (LR.next [PV.sl (dropPLL 0 r) .non, PV.sl (dropPLL 0 r2) .non, PV.sl (dropPLL 0 r3) (.tok 0), PV.int .i64 (iAdd .i64 n 1)]
                              (Store.mk [] [(k, 4, 74)] []))))
                        Tr.fail)
                      Tr.fail))
                  Tr.fail)
                Tr.fail))
            Tr.fail)
          Tr.fail)
        Tr.fail)
      Tr.fail)
    Tr.fail)
  (Tr.ret (LR.out (.exit 0) [PV.sl r3 (.tok 0)] (Store.mk [] [(k, 4, 74)] [])))
theorem RM01_T1 (r : List (List PV)) (r2 : List (List PV)) (r3 : List (List PV)) (n : Int) (k : Nat) : lstep tbT G_RM0 LI_RM01 c_RM01 I_RM01 [.sl r .non, .sl r2 .non, .sl r3 (.tok 0), .int .i64 n] ⟨[], [(k, 4, 74)], []⟩ = RM01_Tr1 r r2 r3 n k := by kernel_rfl
theorem RM01_E1 (r : List (List PV)) (r2 : List (List PV)) (r3 : List (List PV)) (n : Int) (k : Nat) : RM01_V [.sl r .non, .sl r2 .non, .sl r3 (.tok 0), .int .i64 n] ⟨[], [(k, 4, 74)], []⟩ = lnext RM01_V (RM01_Tr1 r r2 r3 n k).run := by unfold RM01_V; rw [lval_eq, RM01_T1]
noncomputable def RM01_W (r : List (List PV)) (r2 : List (List PV)) (r3 : List (List PV)) (n : Int) : Option (PExit × List PV × Store) := RM01_V [.sl r .non, .sl r2 .non, .sl r3 .full, .int .i64 n] ⟨[], [], []⟩
noncomputable def RM01_r_0 (r : List (List PV)) (r2 : List (List PV)) (r3 : List (List PV)) (n : Int) : List (List PV) := (gRow (gOut (RM01_W r r2 r3 n) 0))
noncomputable def RM01_b_0 (r : List (List PV)) (r2 : List (List PV)) (r3 : List (List PV)) (n : Int) : Bool := (gBool (gOut (RM01_W r r2 r3 n) 1))
noncomputable def RM01_is0 (r : List (List PV)) (r2 : List (List PV)) (r3 : List (List PV)) (n : Int) : Bool := isW (RM01_W r r2 r3 n) (.ret, [.sl (RM01_r_0 r r2 r3 n) .full, .bool (RM01_b_0 r r2 r3 n)], ⟨[], [], []⟩)
noncomputable def RM01_r_1 (r : List (List PV)) (r2 : List (List PV)) (r3 : List (List PV)) (n : Int) : List (List PV) := (gRow (gOut (RM01_W r r2 r3 n) 0))
noncomputable def RM01_is1 (r : List (List PV)) (r2 : List (List PV)) (r3 : List (List PV)) (n : Int) : Bool := isW (RM01_W r r2 r3 n) ((.exit 0), [.sl (RM01_r_1 r r2 r3 n) .full], ⟨[], [], []⟩)
noncomputable def RM01_r_2 (r : List (List PV)) (r2 : List (List PV)) (r3 : List (List PV)) (n : Int) : List (List PV) := (gRow (gOut (RM01_W r r2 r3 n) 0))
noncomputable def RM01_b_2 (r : List (List PV)) (r2 : List (List PV)) (r3 : List (List PV)) (n : Int) : Bool := (gBool (gOut (RM01_W r r2 r3 n) 1))
noncomputable def RM01_k_2 (r : List (List PV)) (r2 : List (List PV)) (r3 : List (List PV)) (n : Int) : Nat := (gTok (RM01_W r r2 r3 n) 0)
noncomputable def RM01_is2 (r : List (List PV)) (r2 : List (List PV)) (r3 : List (List PV)) (n : Int) : Bool := isW (RM01_W r r2 r3 n) (.ret, [.sl (RM01_r_2 r r2 r3 n) .full, .bool (RM01_b_2 r r2 r3 n)], ⟨[], [((RM01_k_2 r r2 r3 n), 4, 74)], []⟩)
noncomputable def RM01_r_3 (r : List (List PV)) (r2 : List (List PV)) (r3 : List (List PV)) (n : Int) : List (List PV) := (gRow (gOut (RM01_W r r2 r3 n) 0))
noncomputable def RM01_k_3 (r : List (List PV)) (r2 : List (List PV)) (r3 : List (List PV)) (n : Int) : Nat := (gTok (RM01_W r r2 r3 n) 0)
noncomputable def RM01_is3 (r : List (List PV)) (r2 : List (List PV)) (r3 : List (List PV)) (n : Int) : Bool := isW (RM01_W r r2 r3 n) ((.exit 0), [.sl (RM01_r_3 r r2 r3 n) (.tok 0)], ⟨[], [((RM01_k_3 r r2 r3 n), 4, 74)], []⟩)
noncomputable def RM01_prop : List PV → Store → Tr (PExit × List PV × Store) | [.sl r .non, .sl r2 .non, .sl r3 .full, .int .i64 n], ⟨[], [], []⟩ => .ite (RM01_is0 r r2 r3 n) (.ret (.ret, [.sl (RM01_r_0 r r2 r3 n) .full, .bool (RM01_b_0 r r2 r3 n)], ⟨[], [], []⟩)) (.ite (RM01_is1 r r2 r3 n) (.ret ((.exit 0), [.sl (RM01_r_1 r r2 r3 n) .full], ⟨[], [], []⟩)) (.ite (RM01_is2 r r2 r3 n) (.ret (.ret, [.sl (RM01_r_2 r r2 r3 n) .full, .bool (RM01_b_2 r r2 r3 n)], ⟨[], [((RM01_k_2 r r2 r3 n), 4, 74)], []⟩)) (.ite (RM01_is3 r r2 r3 n) (.ret ((.exit 0), [.sl (RM01_r_3 r r2 r3 n) (.tok 0)], ⟨[], [((RM01_k_3 r r2 r3 n), 4, 74)], []⟩)) (.fail)))) | _, _ => .fail
theorem RM01_ok : ∀ vs σ r, (RM01_prop vs σ).run = some r → RM01_V vs σ = some r := by
  intro vs σ r h
  unfold RM01_prop at h
  split at h
  · exact ite_isW h fun h => ite_isW h fun h => ite_isW h fun h => ite_isW h fun h => by cases h
  · cases h
theorem loop_RM01 (gl : Nat → Option Obj) : ∀ fr σ e fr' σ', (orc I_RM01 RM01_prop fr σ).run = some (e, fr', σ') → LDoes Tryd.prog gl c_RM01 fr σ e fr' σ' := orc_ok tbT_ok (gok_RM0 gl ) noMixed (L := LI_RM01) (loopOk_none (by kernel_rfl)) (by kernel_rfl) RM01_ok
noncomputable def L_RM0 : LpsT := fun r fr σ => bif Nat.beq r 5 then orc I_RM01 RM01_prop fr σ else .fail
noncomputable def RM0_Tr (v : List (List PV)) (v2 : List (List PV)) : Tr PV := Tr.ite (okR cM (lockLL v))
  (Tr.ite (iNe (chkP (lockLL v)) 0) (Tr.ret (PV.tup [PV.sl [] .non, PV.bool false]))
    (Tr.ite (iNe (xLen v) (xLen v2)) (Tr.ret (PV.tup [PV.sl [] .non, PV.bool false]))
      (Tr.ite (RM01_is0 v v2 [] 0) (Tr.ret (PV.tup [PV.sl (shutLL (RM01_r_0 v v2 [] 0)) .non, PV.bool (RM01_b_0 v v2 [] 0)]))
        (Tr.ite (RM01_is1 v v2 [] 0) (Tr.ret (PV.tup [PV.sl (shutLL (RM01_r_1 v v2 [] 0)) .non, PV.bool true]))
          (Tr.ite (RM01_is2 v v2 [] 0) (Tr.ret (PV.tup [PV.sl (shutLL (RM01_r_2 v v2 [] 0)) .non, PV.bool (RM01_b_2 v v2 [] 0)]))
            (Tr.ite (RM01_is3 v v2 [] 0) (Tr.ret (PV.tup [PV.sl (shutLL (RM01_r_3 v v2 [] 0)) .non, PV.bool true])) Tr.fail))))))
  Tr.fail
theorem RM0_T (v : List (List PV)) (v2 : List (List PV)) : (tcall tbT G_RM0 L_RM0 Tryd.f27 [.sl v .non, .sl v2 .non]).flat = RM0_Tr v v2 := by kernel_rfl
noncomputable def RM0_W (v : List (List PV)) (v2 : List (List PV)) : Option PV := (RM0_Tr v v2).run
noncomputable def RM0_r (v : List (List PV)) (v2 : List (List PV)) : List (List PV) := (gRow (gAt (gCs (gVal (RM0_W v v2))) 0))
noncomputable def RM0_b (v : List (List PV)) (v2 : List (List PV)) : Bool := (gBool (gAt (gCs (gVal (RM0_W v v2))) 1))
noncomputable def RM0_is0 (v : List (List PV)) (v2 : List (List PV)) : Bool := isW (RM0_W v v2) (.tup [.sl (RM0_r v v2) .non, .bool (RM0_b v v2)])
noncomputable def F_RM0 : List PV → Tr PV | [.sl v .non, .sl v2 .non] => .ite (RM0_is0 v v2) (.ret (.tup [.sl (RM0_r v v2) .non, .bool (RM0_b v v2)])) (.fail) | _ => .fail
theorem sim_RM0 (gl : Nat → Option Obj) : SimP Tryd.prog gl 27 fun args => (F_RM0 args).run := by
  refine SimP.of_flat (G := G_RM0) (L := L_RM0) tbT_ok (gok_RM0 gl ) noMixed Tryd.func27 rfl (by rfl) (by kernel_rfl) (loopOk_all (L := lps L_RM0) [(5, c_RM01)] (by kernel_rfl) (List.forall_mem_cons.2 ⟨fun fr σ e fr' σ' h => loop_RM01 gl  fr σ e fr' σ' h, (List.forall_mem_nil _)⟩)) ?_
  intro args x h
  unfold F_RM0 at h
  split at h
  · exact (congrArg Tr.run (RM0_T _ _)).trans (ite_isW h fun h => by cases h)
  · cases h
noncomputable def G_Mt0 : GamT := ofL [(28, .pure F_TPat), (57, .pure F_Idx), (58, .pure F_mcl)]
theorem gok_Mt0 (gl : Nat → Option Obj) : GamOk Tryd.prog gl (gam G_Mt0) := (gamOk_cons (sim_TPat gl) (gamOk_cons (sim_Idx gl) (gamOk_cons (sim_mcl gl) gamOk_nil)))
noncomputable def c_Mt01 : Code := loopC Tryd.f18 5
def I_Mt01 : LI := ⟨67, [1, 6, 20, 21, 22], fun e => match e with | .ret => [4, 5] | .exit 0 => [6] | _ => []⟩
noncomputable def LI_Mt01 : LpsT := fun r fr σ => .fail
noncomputable def Mt01_V (vs : List PV) (σ : Store) : Option (PExit × List PV × Store) := lval (lstep tbT G_Mt0 LI_Mt01 c_Mt01 I_Mt01) vs σ
noncomputable def Mt01_Tr (r : List (List PV)) (r2 : List (List PV)) (r3 : List (List PV)) (n : Int) (n2 : Int) : Tr LR := Tr.ite (iLt n2 n)
  (Tr.ite (okPos n2)
    (Tr.ite (okGet [PV.int .i64 0, PV.str [], PV.int .i64 0, PV.int .i64 0, PV.str []] r3 (nNat n2))
      (Tr.ite (iEq (xInt r3 (nNat n2) 0) 2)
        (Tr.ite (okPos n2)
          (Tr.ite (okGet [PV.int .i64 0, PV.int .i64 0, PV.str []] r (nNat n2))
            (Tr.ite
              (bNot
                (bAnd (iEq (xInt r3 (nNat n2) 2) (xInt r (nNat n2) 0))
                  (bAnd (iEq (xInt r3 (nNat n2) 3) (xInt r (nNat n2) 1)) (bAnd (sEq (xStr r3 (nNat n2) 4) (xStr r (nNat n2) 2)) true))))
              (Tr.ret (LR.out .ret [PV.sl (dropPLL 0 []) .full, PV.bool false] (Store.mk [] [] [])))
              (Tr.ret
                (LR.next
                  [PV.sl (dropPLL 0 r) .non, PV.sl (dropPLL 0 r2) .full, PV.sl (dropPLL 0 r3) .non, PV.int .i64 n, PV.int .i64 (iAdd .i64 n2 1)]
                  (Store.mk [] [] []))))
            Tr.fail)
          Tr.fail)
        (Tr.ite (iEq (xInt r3 (nNat n2) 0) 1)
          (Tr.ite (okR cB (lockLL r2))
            (Tr.ite (iLt (idxV (lockLL r2) (xStr r3 (nNat n2) 1)) 0)
              (Tr.ite (okPos n2)
                (Tr.ite (okGet [PV.int .i64 0, PV.int .i64 0, PV.str []] r (nNat n2))
                  (Tr.ite
                    (okGrow r2 [[PV.str (xStr r3 (nNat n2) 1), PV.int .i64 (xInt r (nNat n2) 0), PV.int .i64 (xInt r (nNat n2) 1), PV.str (xStr r (nNat n2) 2)]] 48)
                    (Tr.ite
                      (okNews [[PV.str (xStr r3 (nNat n2) 1), PV.int .i64 (xInt r (nNat n2) 0), PV.int .i64 (xInt r (nNat n2) 1), PV.str (xStr r (nNat n2) 2)]] 4)
                      (Tr.ite (okSize r2 4)
                        (Tr.ret
                          (LR.next
                            [PV.sl (dropPLL 0 r) .non,
                              PV.sl
                                (dropPLL 0
                                  (xApp r2
                                    [[PV.str (xStr r3 (nNat n2) 1), PV.int .i64 (xInt r (nNat n2) 0), PV.int .i64 (xInt r (nNat n2) 1),
                                        PV.str (xStr r (nNat n2) 2)]]))
                                (.tok 0),
                              PV.sl (dropPLL 0 r3) .non, PV.int .i64 n, PV.int .i64 (iAdd .i64 n2 1)]
                            (Store.mk []
                              [(nXs
                                    (xApp r2
                                      [[PV.str (xStr r3 (nNat n2) 1), PV.int .i64 (xInt r (nNat n2) 0), PV.int .i64 (xInt r (nNat n2) 1),
                                          PV.str (xStr r (nNat n2) 2)]]),
                                  4, 74)]
                              [])))
                        Tr.fail)
                      Tr.fail)
                    Tr.fail)
                  Tr.fail)
                Tr.fail)
              (Tr.ite (okPos (idxV (lockLL r2) (xStr r3 (nNat n2) 1)))
                (Tr.ite (okGet [PV.str [], PV.int .i64 0, PV.int .i64 0, PV.str []] r2 (nNat (idxV (lockLL r2) (xStr r3 (nNat n2) 1))))
                  (Tr.ite (okPos n2)
                    (Tr.ite (okGet [PV.int .i64 0, PV.int .i64 0, PV.str []] r (nNat n2))
                      (Tr.ite
                        (bNot
                          (bAnd (iEq (xInt r2 (nNat (idxV (lockLL r2) (xStr r3 (nNat n2) 1))) 1) (xInt r (nNat n2) 0))
                            (bAnd (iEq (xInt r2 (nNat (idxV (lockLL r2) (xStr r3 (nNat n2) 1))) 2) (xInt r (nNat n2) 1))
                              (bAnd (sEq (xStr r2 (nNat (idxV (lockLL r2) (xStr r3 (nNat n2) 1))) 3) (xStr r (nNat n2) 2)) true))))
                        (Tr.ret (LR.out .ret [PV.sl (dropPLL 0 []) .full, PV.bool false] (Store.mk [] [] [])))
                        (Tr.ret
                          (LR.next
                            [PV.sl (dropPLL 0 r) .non, PV.sl (dropPLL 0 r2) .full, PV.sl (dropPLL 0 r3) .non, PV.int .i64 n,
                              PV.int .i64 (iAdd .i64 n2 1)]
                            (Store.mk [] [] []))))
                      Tr.fail)
                    Tr.fail)
                  Tr.fail)
                Tr.fail))
            Tr.fail)
          (Tr.ret
            (LR.next [PV.sl (dropPLL 0 r) .non, PV.sl (dropPLL 0 r2) .full, PV.sl (dropPLL 0 r3) .non, PV.int .i64 n, PV.int .i64 (iAdd .i64 n2 1)]
              (Store.mk [] [] [])))))
      Tr.fail)
    Tr.fail)
  (Tr.ret (LR.out (.exit 0) [PV.sl r2 .full] (Store.mk [] [] [])))
theorem Mt01_T (r : List (List PV)) (r2 : List (List PV)) (r3 : List (List PV)) (n : Int) (n2 : Int) : lstep tbT G_Mt0 LI_Mt01 c_Mt01 I_Mt01 [.sl r .non, .sl r2 .full, .sl r3 .non, .int .i64 n, .int .i64 n2] ⟨[], [], []⟩ = Mt01_Tr r r2 r3 n n2 := by kernel_rfl
theorem Mt01_E (r : List (List PV)) (r2 : List (List PV)) (r3 : List (List PV)) (n : Int) (n2 : Int) : Mt01_V [.sl r .non, .sl r2 .full, .sl r3 .non, .int .i64 n, .int .i64 n2] ⟨[], [], []⟩ = lnext Mt01_V (Mt01_Tr r r2 r3 n n2).run := by unfold Mt01_V; rw [lval_eq, Mt01_T]
noncomputable def Mt01_Tr1 (r : List (List PV)) (r2 : List (List PV)) (r3 : List (List PV)) (n : Int) (n2 : Int) (k : Nat) : Tr LR := Tr.ite (iLt n2 n)
  (Tr.ite (okPos n2)
    (Tr.ite (okGet [PV.int .i64 0, PV.str [], PV.int .i64 0, PV.int .i64 0, PV.str []] r3 (nNat n2))
      (Tr.ite (iEq (xInt r3 (nNat n2) 0) 2)
        (Tr.ite (okPos n2)
          (Tr.ite (okGet [PV.int .i64 0, PV.int .i64 0, PV.str []] r (nNat n2))
            (Tr.ite
              (bNot
                (bAnd (iEq (xInt r3 (nNat n2) 2) (xInt r (nNat n2) 0))
                  (bAnd (iEq (xInt r3 (nNat n2) 3) (xInt r (nNat n2) 1)) (bAnd (sEq (xStr r3 (nNat n2) 4) (xStr r (nNat n2) 2)) true))))
              (Tr.ret (LR.out .ret [PV.sl (dropPLL 0 []) .full, PV.bool false] (Store.mk [] [(k, 4, 74)] [])))
              (Tr.ret
                (LR.next
                  [PV.sl (dropPLL 0 r) .non, PV.sl (dropPLL 0 r2) (.tok 0), PV.sl (dropPLL 0 r3) .non, PV.int .i64 n, PV.int .i64 (iAdd .i64 n2 1)]
                  (Store.mk [] [(k, 4, 74)] []))))
            Tr.fail)
          Tr.fail)
        (Tr.ite (iEq (xInt r3 (nNat n2) 0) 1)
          (Tr.ite (okR cB (lockLL r2))
            (Tr.ite (iLt (idxV (lockLL r2) (xStr r3 (nNat n2) 1)) 0)
              (Tr.ite (okPos n2)
                (Tr.ite (okGet [PV.int .i64 0, PV.int .i64 0, PV.str []] r (nNat n2))
                  (Tr.ite
                    (okGrow r2 [[PV.str (xStr r3 (nNat n2) 1), PV.int .i64 (xInt r (nNat n2) 0), PV.int .i64 (xInt r (nNat n2) 1), PV.str (xStr r (nNat n2) 2)]] 48)
                    (Tr.ite
                      (okNews [[PV.str (xStr r3 (nNat n2) 1), PV.int .i64 (xInt r (nNat n2) 0), PV.int .i64 (xInt r (nNat n2) 1), PV.str (xStr r (nNat n2) 2)]] 4)
                      (Tr.ite (okSize r2 4)
                        (Tr.ite (nEq k (nXs r2))
                          (Tr.ret
                            (LR.next
                              [PV.sl (dropPLL 0 r) .non,
                                PV.sl
                                  (dropPLL 0
                                    (xApp r2
                                      [[PV.str (xStr r3 (nNat n2) 1), PV.int .i64 (xInt r (nNat n2) 0), PV.int .i64 (xInt r (nNat n2) 1),
                                          PV.str (xStr r (nNat n2) 2)]]))
                                  (.tok 0),
                                PV.sl (dropPLL 0 r3) .non, PV.int .i64 n, PV.int .i64 (iAdd .i64 n2 1)]
                              (Store.mk []
                                [(nXs
                                      (xApp r2
                                        [[PV.str (xStr r3 (nNat n2) 1), PV.int .i64 (xInt r (nNat n2) 0), PV.int .i64 (xInt r (nNat n2) 1),
                                            PV.str (xStr r (nNat n2) 2)]]),
                                    4, 74)]
                                [])))
                          Tr.fail)
                        Tr.fail)
                      Tr.fail)
                    Tr.fail)
                  Tr.fail)
                Tr.fail)
              (Tr.ite (okPos (idxV (lockLL r2) (xStr r3 (nNat n2) 1)))
                (Tr.ite (okGet [PV.str [], PV.int .i64 0, PV.int .i64 0, PV.str []] r2 (nNat (idxV (lockLL r2) (xStr r3 (nNat n2) 1))))
                  (Tr.ite (okPos n2)
                    (Tr.ite (okGet [PV.int .i64 0, PV.int .i64 0, PV.str []] r (nNat n2))
                      (Tr.ite
                        (bNot
                          (bAnd (iEq (xInt r2 (nNat (idxV (lockLL r2) (xStr r3 (nNat n2) 1))) 1) (xInt r (nNat n2) 0))
                            (bAnd (iEq (xInt r2 (nNat (idxV (lockLL r2) (xStr r3 (nNat n2) 1))) 2) (xInt r (nNat n2) 1))
                              (bAnd (sEq (xStr r2 (nNat (idxV (lockLL r2) (xStr r3 (nNat n2) 1))) 3) (xStr r (nNat n2) 2)) true))))
                        (Tr.ret (LR.out .ret [PV.sl (dropPLL 0 []) .full, PV.bool false] (Store.mk [] [(k, 4, 74)] [])))
                        (Tr.ret
                          (LR.next
                            [PV.sl (dropPLL 0 r) .non, PV.sl (dropPLL 0 r2) (.tok 0), PV.sl (dropPLL 0 r3) .non, PV.int .i64 n,
                              PV.int .i64 (iAdd .i64 n2 1)]
                            (Store.mk [] [(k, 4, 74)] []))))
                      Tr.fail)
                    Tr.fail)
                  Tr.fail)
                Tr.fail))
            Tr.fail)
          (Tr.ret
            (LR.next [PV.sl (dropPLL 0 r) .non, PV.sl (dropPLL 0 r2) (.tok 0), PV.sl (dropPLL 0 r3) .non, PV.int .i64 n, PV.int .i64 (iAdd .i64 n2 1)]
              (Store.mk [] [(k, 4, 74)] [])))))
      Tr.fail)
    Tr.fail)
  (Tr.ret (LR.out (.exit 0) [PV.sl r2 (.tok 0)] (Store.mk [] [(k, 4, 74)] [])))
theorem Mt01_T1 (r : List (List PV)) (r2 : List (List PV)) (r3 : List (List PV)) (n : Int) (n2 : Int) (k : Nat) : lstep tbT G_Mt0 LI_Mt01 c_Mt01 I_Mt01 [.sl r .non, .sl r2 (.tok 0), .sl r3 .non, .int .i64 n, .int .i64 n2] ⟨[], [(k, 4, 74)], []⟩ = Mt01_Tr1 r r2 r3 n n2 k := by kernel_rfl
theorem Mt01_E1 (r : List (List PV)) (r2 : List (List PV)) (r3 : List (List PV)) (n : Int) (n2 : Int) (k : Nat) : Mt01_V [.sl r .non, .sl r2 (.tok 0), .sl r3 .non, .int .i64 n, .int .i64 n2] ⟨[], [(k, 4, 74)], []⟩ = lnext Mt01_V (Mt01_Tr1 r r2 r3 n n2 k).run := by unfold Mt01_V; rw [lval_eq, Mt01_T1]
noncomputable def Mt01_W (r : List (List PV)) (r2 : List (List PV)) (r3 : List (List PV)) (n : Int) (n2 : Int) : Option (PExit × List PV × Store) := Mt01_V [.sl r .non, .sl r2 .full, .sl r3 .non, .int .i64 n, .int .i64 n2] ⟨[], [], []⟩
noncomputable def Mt01_r_0 (r : List (List PV)) (r2 : List (List PV)) (r3 : List (List PV)) (n : Int) (n2 : Int) : List (List PV) := (gRow (gOut (Mt01_W r r2 r3 n n2) 0))
noncomputable def Mt01_b_0 (r : List (List PV)) (r2 : List (List PV)) (r3 : List (List PV)) (n : Int) (n2 : Int) : Bool := (gBool (gOut (Mt01_W r r2 r3 n n2) 1))
noncomputable def Mt01_is0 (r : List (List PV)) (r2 : List (List PV)) (r3 : List (List PV)) (n : Int) (n2 : Int) : Bool := isW (Mt01_W r r2 r3 n n2) (.ret, [.sl (Mt01_r_0 r r2 r3 n n2) .full, .bool (Mt01_b_0 r r2 r3 n n2)], ⟨[], [], []⟩)
noncomputable def Mt01_r_1 (r : List (List PV)) (r2 : List (List PV)) (r3 : List (List PV)) (n : Int) (n2 : Int) : List (List PV) := (gRow (gOut (Mt01_W r r2 r3 n n2) 0))
noncomputable def Mt01_is1 (r : List (List PV)) (r2 : List (List PV)) (r3 : List (List PV)) (n : Int) (n2 : Int) : Bool := isW (Mt01_W r r2 r3 n n2) ((.exit 0), [.sl (Mt01_r_1 r r2 r3 n n2) .full], ⟨[], [], []⟩)
noncomputable def Mt01_r_2 (r : List (List PV)) (r2 : List (List PV)) (r3 : List (List PV)) (n : Int) (n2 : Int) : List (List PV) := (gRow (gOut (Mt01_W r r2 r3 n n2) 0))
noncomputable def Mt01_b_2 (r : List (List PV)) (r2 : List (List PV)) (r3 : List (List PV)) (n : Int) (n2 : Int) : Bool := (gBool (gOut (Mt01_W r r2 r3 n n2) 1))
noncomputable def Mt01_k_2 (r : List (List PV)) (r2 : List (List PV)) (r3 : List (List PV)) (n : Int) (n2 : Int) : Nat := (gTok (Mt01_W r r2 r3 n n2) 0)
noncomputable def Mt01_is2 (r : List (List PV)) (r2 : List (List PV)) (r3 : List (List PV)) (n : Int) (n2 : Int) : Bool := isW (Mt01_W r r2 r3 n n2) (.ret, [.sl (Mt01_r_2 r r2 r3 n n2) .full, .bool (Mt01_b_2 r r2 r3 n n2)], ⟨[], [((Mt01_k_2 r r2 r3 n n2), 4, 74)], []⟩)
noncomputable def Mt01_r_3 (r : List (List PV)) (r2 : List (List PV)) (r3 : List (List PV)) (n : Int) (n2 : Int) : List (List PV) := (gRow (gOut (Mt01_W r r2 r3 n n2) 0))
noncomputable def Mt01_k_3 (r : List (List PV)) (r2 : List (List PV)) (r3 : List (List PV)) (n : Int) (n2 : Int) : Nat := (gTok (Mt01_W r r2 r3 n n2) 0)
noncomputable def Mt01_is3 (r : List (List PV)) (r2 : List (List PV)) (r3 : List (List PV)) (n : Int) (n2 : Int) : Bool := isW (Mt01_W r r2 r3 n n2) ((.exit 0), [.sl (Mt01_r_3 r r2 r3 n n2) (.tok 0)], ⟨[], [((Mt01_k_3 r r2 r3 n n2), 4, 74)], []⟩)
noncomputable def Mt01_prop : List PV → Store → Tr (PExit × List PV × Store) | [.sl r .non, .sl r2 .full, .sl r3 .non, .int .i64 n, .int .i64 n2], ⟨[], [], []⟩ => .ite (Mt01_is0 r r2 r3 n n2) (.ret (.ret, [.sl (Mt01_r_0 r r2 r3 n n2) .full, .bool (Mt01_b_0 r r2 r3 n n2)], ⟨[], [], []⟩)) (.ite (Mt01_is1 r r2 r3 n n2) (.ret ((.exit 0), [.sl (Mt01_r_1 r r2 r3 n n2) .full], ⟨[], [], []⟩)) (.ite (Mt01_is2 r r2 r3 n n2) (.ret (.ret, [.sl (Mt01_r_2 r r2 r3 n n2) .full, .bool (Mt01_b_2 r r2 r3 n n2)], ⟨[], [((Mt01_k_2 r r2 r3 n n2), 4, 74)], []⟩)) (.ite (Mt01_is3 r r2 r3 n n2) (.ret ((.exit 0), [.sl (Mt01_r_3 r r2 r3 n n2) (.tok 0)], ⟨[], [((Mt01_k_3 r r2 r3 n n2), 4, 74)], []⟩)) (.fail)))) | _, _ => .fail
theorem Mt01_ok : ∀ vs σ r, (Mt01_prop vs σ).run = some r → Mt01_V vs σ = some r := by
  intro vs σ r h
  unfold Mt01_prop at h
  split at h
  · exact ite_isW h fun h => ite_isW h fun h => ite_isW h fun h => ite_isW h fun h => by cases h
  · cases h
theorem loop_Mt01 (gl : Nat → Option Obj) : ∀ fr σ e fr' σ', (orc I_Mt01 Mt01_prop fr σ).run = some (e, fr', σ') → LDoes Tryd.prog gl c_Mt01 fr σ e fr' σ' := orc_ok tbT_ok (gok_Mt0 gl ) noMixed (L := LI_Mt01) (loopOk_none (by kernel_rfl)) (by kernel_rfl) Mt01_ok
noncomputable def L_Mt0 : LpsT := fun r fr σ => bif Nat.beq r 5 then orc I_Mt01 Mt01_prop fr σ else .fail
noncomputable def Mt0_Tr (v : List (List PV)) (v2 : List (List PV)) : Tr PV := Tr.ite (okR cM (lockLL v))
  (Tr.ite (iNe (chkP (lockLL v)) 0) (Tr.ret (PV.tup [PV.sl [] .non, PV.bool false]))
    (Tr.ite (iNe (xLen v) (xLen v2)) (Tr.ret (PV.tup [PV.sl [] .non, PV.bool false]))
      (Tr.ite (Mt01_is0 v2 [] v (xLen v) 0) (Tr.ret (PV.tup [PV.sl (shutLL (Mt01_r_0 v2 [] v (xLen v) 0)) .non, PV.bool (Mt01_b_0 v2 [] v (xLen v) 0)]))
        (Tr.ite (Mt01_is1 v2 [] v (xLen v) 0) (Tr.ret (PV.tup [PV.sl (shutLL (Mt01_r_1 v2 [] v (xLen v) 0)) .non, PV.bool true]))
          (Tr.ite (Mt01_is2 v2 [] v (xLen v) 0) (Tr.ret (PV.tup [PV.sl (shutLL (Mt01_r_2 v2 [] v (xLen v) 0)) .non, PV.bool (Mt01_b_2 v2 [] v (xLen v) 0)]))
            (Tr.ite (Mt01_is3 v2 [] v (xLen v) 0) (Tr.ret (PV.tup [PV.sl (shutLL (Mt01_r_3 v2 [] v (xLen v) 0)) .non, PV.bool true])) Tr.fail))))))
  Tr.fail
theorem Mt0_T (v : List (List PV)) (v2 : List (List PV)) : (tcall tbT G_Mt0 L_Mt0 Tryd.f18 [.sl v .non, .sl v2 .non]).flat = Mt0_Tr v v2 := by kernel_rfl
noncomputable def Mt0_W (v : List (List PV)) (v2 : List (List PV)) : Option PV := (Mt0_Tr v v2).run
noncomputable def Mt0_r (v : List (List PV)) (v2 : List (List PV)) : List (List PV) := (gRow (gAt (gCs (gVal (Mt0_W v v2))) 0))
noncomputable def Mt0_b (v : List (List PV)) (v2 : List (List PV)) : Bool := (gBool (gAt (gCs (gVal (Mt0_W v v2))) 1))
noncomputable def Mt0_is0 (v : List (List PV)) (v2 : List (List PV)) : Bool := isW (Mt0_W v v2) (.tup [.sl (Mt0_r v v2) .non, .bool (Mt0_b v v2)])
noncomputable def F_Mt0 : List PV → Tr PV | [.sl v .non, .sl v2 .non] => .ite (Mt0_is0 v v2) (.ret (.tup [.sl (Mt0_r v v2) .non, .bool (Mt0_b v v2)])) (.fail) | _ => .fail
theorem sim_Mt0 (gl : Nat → Option Obj) : SimP Tryd.prog gl 18 fun args => (F_Mt0 args).run := by
  refine SimP.of_flat (G := G_Mt0) (L := L_Mt0) tbT_ok (gok_Mt0 gl ) noMixed Tryd.func18 rfl (by rfl) (by kernel_rfl) (loopOk_all (L := lps L_Mt0) [(5, c_Mt01)] (by kernel_rfl) (List.forall_mem_cons.2 ⟨fun fr σ e fr' σ' h => loop_Mt01 gl  fr σ e fr' σ' h, (List.forall_mem_nil _)⟩)) ?_
  intro args x h
  unfold F_Mt0 at h
  split at h
  · exact (congrArg Tr.run (Mt0_T _ _)).trans (ite_isW h fun h => by cases h)
  · cases h
end Go.Pv
