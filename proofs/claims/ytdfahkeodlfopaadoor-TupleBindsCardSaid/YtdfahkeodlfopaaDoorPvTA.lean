import Derived.Test.YtdfahkeodlfopaaDoorPvT9
set_option maxHeartbeats 4000000
set_option maxRecDepth 200000
set_option linter.unusedSimpArgs false
set_option linter.unusedVariables false
namespace Go.Pv
open Go Go.Proofs
noncomputable def G_awake : GamT := ofL [(17, .pure F_Same), (18, .pure F_Mt), (23, .pure F_Srt), (34, .pure F_one2), (36, .pure F_TCheck), (53, .pure F_TText)]
theorem gok_awake (gl : Nat → Option Obj) (hg : GlPow gl) : GamOk Tryd.prog gl (gam G_awake) := (gamOk_cons (sim_Same gl) (gamOk_cons (sim_Mt gl) (gamOk_cons (sim_Srt gl) (gamOk_cons (sim_one2 gl) (gamOk_cons (sim_TCheck gl) (gamOk_cons (sim_TText gl hg) gamOk_nil))))))
noncomputable def L_awake : LpsT := fun r fr σ => .fail
noncomputable def awake_Tr : Tr PV := Tr.ite (TText_is0 [[PV.int .i64 1, PV.int .i64 7, PV.str []]])
  (Tr.ite (okR cM [[PV.int .i64 1, PV.str [88], PV.int .i64 0, PV.int .i64 0, PV.str []]])
    (Tr.ite (okR cV [[PV.int .i64 1, PV.int .i64 3, PV.str []]])
      (Tr.ite (okMT [[PV.int .i64 1, PV.str [88], PV.int .i64 0, PV.int .i64 0, PV.str []]] [[PV.int .i64 1, PV.int .i64 3, PV.str []]])
        (Tr.ite
          (iEq (xLen [[PV.sl [[PV.int .i64 1, PV.int .i64 1, PV.str []]] .non], [PV.sl [[PV.int .i64 1, PV.int .i64 2, PV.str []]] .non]]) 2)
          (Tr.ite (okPos 0)
            (Tr.ite
              (okGet [PV.sl [] .full]
                [[PV.sl [[PV.int .i64 1, PV.int .i64 1, PV.str []]] .non], [PV.sl [[PV.int .i64 1, PV.int .i64 2, PV.str []]] .non]] (nNat 0))
              (Tr.ite
                (okR cV
                  (lockLL
                    (lockLL
                      (xRow [[PV.sl [[PV.int .i64 1, PV.int .i64 1, PV.str []]] .non], [PV.sl [[PV.int .i64 1, PV.int .i64 2, PV.str []]] .non]]
                        (nNat 0) 0))))
                (Tr.ite (okR cV [[PV.int .i64 1, PV.int .i64 1, PV.str []]])
                  (Tr.ite
                    (iEq
                      (cmpTR
                        (lockLL
                          (lockLL
                            (xRow
                              [[PV.sl [[PV.int .i64 1, PV.int .i64 1, PV.str []]] .non], [PV.sl [[PV.int .i64 1, PV.int .i64 2, PV.str []]] .non]]
                              (nNat 0) 0)))
                        [[PV.int .i64 1, PV.int .i64 1, PV.str []]])
                      0)
                    (Tr.ite (sEq (TText_s [[PV.int .i64 1, PV.int .i64 7, PV.str []]]) [40, 55, 41])
                      (Tr.ite (iEq (TText_n [[PV.int .i64 1, PV.int .i64 7, PV.str []]]) 0)
                        (Tr.ite true
                          (Tr.ite
                            (iEq
                              (xLen
                                (mTV [[PV.int .i64 1, PV.str [88], PV.int .i64 0, PV.int .i64 0, PV.str []]]
                                  [[PV.int .i64 1, PV.int .i64 3, PV.str []]]))
                              1)
                            (Tr.ite (okPos 0)
                              (Tr.ite
                                (okGet [PV.str [], PV.int .i64 0, PV.int .i64 0, PV.str []]
                                  (mTV [[PV.int .i64 1, PV.str [88], PV.int .i64 0, PV.int .i64 0, PV.str []]]
                                    [[PV.int .i64 1, PV.int .i64 3, PV.str []]])
                                  (nNat 0))
                                (Tr.ite
                                  (iEq
                                    (xInt
                                      (mTV [[PV.int .i64 1, PV.str [88], PV.int .i64 0, PV.int .i64 0, PV.str []]]
                                        [[PV.int .i64 1, PV.int .i64 3, PV.str []]])
                                      (nNat 0) 2)
                                    3)
                                  (Tr.ite
                                    (okR cV
                                      [[PV.int .i64 0, PV.int .i64 0, PV.str []], [PV.int .i64 0, PV.int .i64 0, PV.str []],
                                        [PV.int .i64 0, PV.int .i64 0, PV.str []], [PV.int .i64 0, PV.int .i64 0, PV.str []],
                                        [PV.int .i64 0, PV.int .i64 0, PV.str []], [PV.int .i64 0, PV.int .i64 0, PV.str []],
                                        [PV.int .i64 0, PV.int .i64 0, PV.str []], [PV.int .i64 0, PV.int .i64 0, PV.str []],
                                        [PV.int .i64 0, PV.int .i64 0, PV.str []]])
                                    (Tr.ret
                                      (PV.bool
                                        (iEq
                                          (chkT
                                            [[PV.int .i64 0, PV.int .i64 0, PV.str []], [PV.int .i64 0, PV.int .i64 0, PV.str []],
                                              [PV.int .i64 0, PV.int .i64 0, PV.str []], [PV.int .i64 0, PV.int .i64 0, PV.str []],
                                              [PV.int .i64 0, PV.int .i64 0, PV.str []], [PV.int .i64 0, PV.int .i64 0, PV.str []],
                                              [PV.int .i64 0, PV.int .i64 0, PV.str []], [PV.int .i64 0, PV.int .i64 0, PV.str []],
                                              [PV.int .i64 0, PV.int .i64 0, PV.str []]])
                                          20)))
                                    Tr.fail)
                                  (Tr.ret (PV.bool false)))
                                Tr.fail)
                              Tr.fail)
                            (Tr.ret (PV.bool false)))
                          (Tr.ret (PV.bool false)))
                        (Tr.ret (PV.bool false)))
                      (Tr.ret (PV.bool false)))
                    (Tr.ret (PV.bool false)))
                  Tr.fail)
                Tr.fail)
              Tr.fail)
            Tr.fail)
          (Tr.ret (PV.bool false)))
        (Tr.ite
          (iEq (xLen [[PV.sl [[PV.int .i64 1, PV.int .i64 1, PV.str []]] .non], [PV.sl [[PV.int .i64 1, PV.int .i64 2, PV.str []]] .non]]) 2)
          (Tr.ite (okPos 0)
            (Tr.ite
              (okGet [PV.sl [] .full]
                [[PV.sl [[PV.int .i64 1, PV.int .i64 1, PV.str []]] .non], [PV.sl [[PV.int .i64 1, PV.int .i64 2, PV.str []]] .non]] (nNat 0))
              (Tr.ite
                (okR cV
                  (lockLL
                    (lockLL
                      (xRow [[PV.sl [[PV.int .i64 1, PV.int .i64 1, PV.str []]] .non], [PV.sl [[PV.int .i64 1, PV.int .i64 2, PV.str []]] .non]]
                        (nNat 0) 0))))
                (Tr.ite (okR cV [[PV.int .i64 1, PV.int .i64 1, PV.str []]])
                  (Tr.ite
                    (iEq
                      (cmpTR
                        (lockLL
                          (lockLL
                            (xRow
                              [[PV.sl [[PV.int .i64 1, PV.int .i64 1, PV.str []]] .non], [PV.sl [[PV.int .i64 1, PV.int .i64 2, PV.str []]] .non]]
                              (nNat 0) 0)))
                        [[PV.int .i64 1, PV.int .i64 1, PV.str []]])
                      0)
                    (Tr.ite (sEq (TText_s [[PV.int .i64 1, PV.int .i64 7, PV.str []]]) [40, 55, 41])
                      (Tr.ite (iEq (TText_n [[PV.int .i64 1, PV.int .i64 7, PV.str []]]) 0)
                        (Tr.ite false
                          (Tr.ite (iEq (xLen []) 1)
                            (Tr.ite (okPos 0)
                              (Tr.ite (okGet [PV.str [], PV.int .i64 0, PV.int .i64 0, PV.str []] [] (nNat 0))
                                (Tr.ite (iEq (xInt [] (nNat 0) 2) 3)
                                  (Tr.ite
                                    (okR cV
                                      [[PV.int .i64 0, PV.int .i64 0, PV.str []], [PV.int .i64 0, PV.int .i64 0, PV.str []],
                                        [PV.int .i64 0, PV.int .i64 0, PV.str []], [PV.int .i64 0, PV.int .i64 0, PV.str []],
                                        [PV.int .i64 0, PV.int .i64 0, PV.str []], [PV.int .i64 0, PV.int .i64 0, PV.str []],
                                        [PV.int .i64 0, PV.int .i64 0, PV.str []], [PV.int .i64 0, PV.int .i64 0, PV.str []],
                                        [PV.int .i64 0, PV.int .i64 0, PV.str []]])
                                    (Tr.ret
                                      (PV.bool
                                        (iEq
                                          (chkT
                                            [[PV.int .i64 0, PV.int .i64 0, PV.str []], [PV.int .i64 0, PV.int .i64 0, PV.str []],
                                              [PV.int .i64 0, PV.int .i64 0, PV.str []], [PV.int .i64 0, PV.int .i64 0, PV.str []],
                                              [PV.int .i64 0, PV.int .i64 0, PV.str []], [PV.int .i64 0, PV.int .i64 0, PV.str []],
                                              [PV.int .i64 0, PV.int .i64 0, PV.str []], [PV.int .i64 0, PV.int .i64 0, PV.str []],
                                              [PV.int .i64 0, PV.int .i64 0, PV.str []]])
                                          20)))
                                    Tr.fail)
                                  (Tr.ret (PV.bool false)))
                                Tr.fail)
                              Tr.fail)
                            (Tr.ret (PV.bool false)))
                          (Tr.ret (PV.bool false)))
                        (Tr.ret (PV.bool false)))
                      (Tr.ret (PV.bool false)))
                    (Tr.ret (PV.bool false)))
                  Tr.fail)
                Tr.fail)
              Tr.fail)
            Tr.fail)
          (Tr.ret (PV.bool false))))
      Tr.fail)
    Tr.fail)
  Tr.fail
theorem awake_T : (tcall tbT G_awake L_awake Tryd.f14 []).flat = awake_Tr := by kernel_rfl
noncomputable def F_awake : List PV → Tr PV | [] => awake_Tr | _ => .fail
theorem sim_awake (gl : Nat → Option Obj) (hg : GlPow gl) : SimP Tryd.prog gl 14 fun args => (F_awake args).run := by
  refine SimP.of_flat (G := G_awake) (L := L_awake) tbT_ok (gok_awake gl hg ) noMixed Tryd.func14 rfl (by rfl) (by kernel_rfl) (loopOk_none (by kernel_rfl)) ?_
  intro args x h
  unfold F_awake at h
  split at h
  · exact (congrArg Tr.run (awake_T)).trans h
  · cases h
end Go.Pv
