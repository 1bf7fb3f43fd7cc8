import Derived.Test.YtpicepaiigbgkaaDoorPvJ
set_option maxHeartbeats 4000000
set_option maxRecDepth 200000
set_option linter.unusedSimpArgs false
set_option linter.unusedVariables false
namespace Go.Pv
open Go Go.Proofs Go.RowKit

/-! ### ValueChecks, ValueCompares -/
def F_Value1 : List PV → Tr PV
  | [.agg [.int .i64 k, .int .i64 n, .str s]] => .ret (.bool true)
  | _ => .fail
theorem sim_ValueChecks {gl : Nat → Option Obj} (hgl : GlOk gl) : SimP Tryd.prog gl 6 fun args => (F_Value1 args).run := by
  refine SimP.of_tree (G := ofL [(13, .pure F_alive), (14, .pure F_cut), (18, .pure F_Type), (19, .pure F_RType), (16, .pure F_Text), (20, .pure F_RText), (21, .pure F_Check), (17, .pure F_Is)]) (L := fun _ _ _ => .fail) tbT_ok (gamOk_cons (sim_alive hgl) (gamOk_cons (sim_cut gl) (gamOk_cons (sim_Type gl) (gamOk_cons (sim_RType gl) (gamOk_cons (sim_Text hgl) (gamOk_cons (sim_RText gl) (gamOk_cons (sim_Check gl) (gamOk_cons (sim_Is gl) gamOk_nil)))))))) noMixed Tryd.func6 rfl (by rfl) (by kernel_rfl) (loopOk_none (by kernel_rfl)) ?_
  intro args x h hr
  unfold F_Value1 at h
  split at h
  · rename_i k n s
    cases h
    refine Tr.run_as (Tr.ite (bEq (iEq (checkV k n (cutS s)) 0) (isV k n (cutS s)))
        (Tr.ite (bNot (bEq (iEq (checkV k n (cutS s)) 10) (isV k n (cutS s))))
          (Tr.ite (iEq (typeV k n (cutS s)) (typeV k n (cutS s)))
            (Tr.ite (iEq (checkV k n (cutS s)) (checkV k n (cutS s)))
              (Tr.ite (sEq (textW k n (cutS s)) (textV k n (cutS s))) (Tr.ite (iEq (checkV k n (cutS s)) (checkV k n (cutS s))) (Tr.ret (PV.bool true)) (Tr.ret (PV.bool false))) (Tr.ret (PV.bool false)))
              (Tr.ret (PV.bool false)))
            (Tr.ret (PV.bool false)))
          (Tr.ret (PV.bool false)))
        (Tr.ret (PV.bool false))) (by kernel_rfl) ?_
    rw [textW_eq]
    have h1 := checkV_is k n (cutS s)
    cases hI : isV k n (cutS s) with
    | false => rw [hI] at h1; simp [h1]
    | true => rw [hI] at h1; simp [h1]
  · cases h
def F_Value2o : List PV → Tr PV
  | [.agg [.int .i64 k, .int .i64 n, .str s], .agg [.int .i64 k', .int .i64 n', .str s'], .int .i64 op] => .ret (.bool true)
  | _ => .fail
theorem sim_ValueCompares {gl : Nat → Option Obj} (hgl : GlOk gl) : SimP Tryd.prog gl 7 fun args => (F_Value2o args).run := by
  refine SimP.of_tree (G := ofL [(13, .pure F_alive), (14, .pure F_cut), (22, .pure F_Holds), (23, .pure F_RHolds), (15, .pure F_Compare), (24, .pure F_RCompare)]) (L := fun _ _ _ => .fail) tbT_ok (gamOk_cons (sim_alive hgl) (gamOk_cons (sim_cut gl) (gamOk_cons (sim_Holds gl) (gamOk_cons (sim_RHolds gl) (gamOk_cons (sim_Compare gl) (gamOk_cons (sim_RCompare gl) gamOk_nil)))))) noMixed Tryd.func7 rfl (by rfl) (by kernel_rfl) (loopOk_none (by kernel_rfl)) ?_
  intro args x h hr
  unfold F_Value2o at h
  split at h
  · rename_i k n s k' n' s' op
    cases h
    refine Tr.run_as (Tr.ite (iEq (compareV k n (cutS s) k' n' (cutS s')) (compareR k n (cutS s) k' n' (cutS s')))
        (Tr.ite (bEq (holdsB op (compareV k n (cutS s) k' n' (cutS s'))) (holdsB op (compareR k n (cutS s) k' n' (cutS s'))))
          (Tr.ite (iEq (holdsE op) (holdsE op)) (Tr.ret (PV.bool true)) (Tr.ret (PV.bool false))) (Tr.ret (PV.bool false)))
        (Tr.ret (PV.bool false))) (by kernel_rfl) ?_
    rw [compareR_is]
    simp
  · cases h

/-! ### ValueThree -/
noncomputable def c_Three : Code := loopN Tryd.f8 0
section
variable (gl : Nat → Option Obj) (k n : Int) (s : List UInt8) (k' n' : Int) (s' : List UInt8)
theorem three7 (m : Int) : LDoes Tryd.prog gl c_Three (mk 71 ([2, 3, 5, 6, 7].zip [.ptr 0 0, .ptr 1 0, .ptr 2 0, .int .i64 m, .int .i64 7])) ⟨[[.int .i64 k, .int .i64 n, .str s], [.int .i64 k', .int .i64 n', .str s'], [.bool false, .bool (holdsB 1 (compareV k n s k' n' s')), .bool (holdsB 2 (compareV k n s k' n' s')), .bool (holdsB 3 (compareV k n s k' n' s')), .bool (holdsB 4 (compareV k n s k' n' s')), .bool (holdsB 5 (compareV k n s k' n' s')), .bool (holdsB 6 (compareV k n s k' n' s'))]], [], [24, 24, 53]⟩ (.exit 0) (mk 71 [(2, .ptr 0 0), (3, .ptr 1 0), (5, .ptr 2 0), (6, .int .i64 m)]) ⟨[[.int .i64 k, .int .i64 n, .str s], [.int .i64 k', .int .i64 n', .str s'], [.bool false, .bool (holdsB 1 (compareV k n s k' n' s')), .bool (holdsB 2 (compareV k n s k' n' s')), .bool (holdsB 3 (compareV k n s k' n' s')), .bool (holdsB 4 (compareV k n s k' n' s')), .bool (holdsB 5 (compareV k n s k' n' s')), .bool (holdsB 6 (compareV k n s k' n' s'))]], [], [24, 24, 53]⟩ := by
  refine LDoes.round tbT_ok (G := ofL []) gamOk_nil noMixed (L := fun _ _ _ => .fail) (loopOk_none (by kernel_rfl)) (by kernel_rfl) ?_
  refine Tr.all_as (Tr.ite (iLe 7 6) Tr.fail
      (Tr.ret
        (PExit.exit 0, [15],
          [PV.top, PV.top, PV.ptr 0 0, PV.ptr 1 0, PV.top, PV.ptr 2 0, PV.int IntKind.i64 m, PV.int IntKind.i64 7, PV.top, PV.top, PV.top, PV.top, PV.top, PV.top, PV.int IntKind.i64 7, PV.bool false,
            PV.top, PV.top, PV.top, PV.top, PV.top, PV.top, PV.top, PV.top, PV.top, PV.top, PV.top, PV.top, PV.top, PV.top, PV.top, PV.top, PV.top, PV.top, PV.top, PV.top, PV.top, PV.top, PV.top, PV.top,
            PV.top, PV.top, PV.top, PV.top, PV.top, PV.top, PV.top, PV.top, PV.top, PV.top, PV.top, PV.top, PV.top, PV.top, PV.top, PV.top, PV.top, PV.top, PV.top, PV.top, PV.top, PV.top, PV.top, PV.top,
            PV.top, PV.top, PV.top, PV.top, PV.top, PV.top, PV.top],
          Store.mk
            [[PV.int IntKind.i64 k, PV.int IntKind.i64 n, PV.str s], [PV.int IntKind.i64 k', PV.int IntKind.i64 n', PV.str s'],
              [PV.bool false, PV.bool (holdsB 1 (compareV k n s k' n' s')), PV.bool (holdsB 2 (compareV k n s k' n' s')), PV.bool (holdsB 3 (compareV k n s k' n' s')),
                PV.bool (holdsB 4 (compareV k n s k' n' s')), PV.bool (holdsB 5 (compareV k n s k' n' s')), PV.bool (holdsB 6 (compareV k n s k' n' s'))]]
            [] [24, 24, 53]))) (by kernel_rfl) ?_
  exact Tr.all_f (by simp) ⟨rfl, by simp [Weak, mk, mkFrom, look], rfl⟩
theorem three6 (m : Int) (hm : 0 ≤ m ∧ m ≤ 6) {e : PExit} {out : List PV} {σ' : Store} (h : LDoes Tryd.prog gl c_Three (mk 71 ([2, 3, 5, 6, 7].zip [.ptr 0 0, .ptr 1 0, .ptr 2 0, .int .i64 m, .int .i64 7])) ⟨[[.int .i64 k, .int .i64 n, .str s], [.int .i64 k', .int .i64 n', .str s'], [.bool false, .bool (holdsB 1 (compareV k n s k' n' s')), .bool (holdsB 2 (compareV k n s k' n' s')), .bool (holdsB 3 (compareV k n s k' n' s')), .bool (holdsB 4 (compareV k n s k' n' s')), .bool (holdsB 5 (compareV k n s k' n' s')), .bool (holdsB 6 (compareV k n s k' n' s'))]], [], [24, 24, 53]⟩ e out σ') :
    LDoes Tryd.prog gl c_Three (mk 71 ([2, 3, 5, 6, 7].zip [.ptr 0 0, .ptr 1 0, .ptr 2 0, .int .i64 m, .int .i64 6])) ⟨[[.int .i64 k, .int .i64 n, .str s], [.int .i64 k', .int .i64 n', .str s'], [.bool false, .bool (holdsB 1 (compareV k n s k' n' s')), .bool (holdsB 2 (compareV k n s k' n' s')), .bool (holdsB 3 (compareV k n s k' n' s')), .bool (holdsB 4 (compareV k n s k' n' s')), .bool (holdsB 5 (compareV k n s k' n' s')), .bool false]], [], [24, 24, 53]⟩ e out σ' := by
  have hG : GamOk Tryd.prog gl (gam (ofL [(22, .pure F_Holds)])) := gamOk_cons (sim_Holds gl) gamOk_nil
  refine LDoes.round tbT_ok hG noMixed (L := fun _ _ _ => .fail) (loopOk_none (by kernel_rfl)) (by kernel_rfl) ?_
  refine Tr.all_as (Tr.ite (iLe 6 6)
      (Tr.ite (iNe (holdsE 6) 0)
        (Tr.ret
          (PExit.ret, [4, 26, 15],
            [PV.top, PV.top, PV.ptr 0 0, PV.ptr 1 0, PV.bool false, PV.ptr 2 0, PV.int IntKind.i64 m, PV.int IntKind.i64 6, PV.bool (holdsB 6 (compareV k n s k' n' s')), PV.int IntKind.i64 (holdsE 6),
              PV.top, PV.top, PV.top, PV.top, PV.int IntKind.i64 6, PV.bool true, PV.top, PV.top, PV.tup [PV.bool (holdsB 6 (compareV k n s k' n' s')), PV.int IntKind.i64 (holdsE 6)],
              PV.int IntKind.i64 6, PV.agg [PV.int IntKind.i64 k, PV.int IntKind.i64 n, PV.str s], PV.agg [PV.int IntKind.i64 k', PV.int IntKind.i64 n', PV.str s'],
              PV.tup [PV.bool (holdsB 6 (compareV k n s k' n' s')), PV.int IntKind.i64 (holdsE 6)], PV.bool (holdsB 6 (compareV k n s k' n' s')), PV.int IntKind.i64 (holdsE 6),
              PV.int IntKind.i64 (holdsE 6), PV.bool true, PV.top, PV.top, PV.top, PV.top, PV.top, PV.top, PV.top, PV.top, PV.top, PV.top, PV.top, PV.top, PV.top, PV.top, PV.top, PV.top, PV.top, PV.top,
              PV.top, PV.top, PV.top, PV.top, PV.top, PV.top, PV.top, PV.top, PV.top, PV.top, PV.top, PV.top, PV.top, PV.top, PV.top, PV.top, PV.top, PV.top, PV.top, PV.top, PV.top, PV.top, PV.top,
              PV.top, PV.top, PV.top],
            Store.mk
              [[PV.int IntKind.i64 k, PV.int IntKind.i64 n, PV.str s], [PV.int IntKind.i64 k', PV.int IntKind.i64 n', PV.str s'],
                [PV.bool false, PV.bool (holdsB 1 (compareV k n s k' n' s')), PV.bool (holdsB 2 (compareV k n s k' n' s')), PV.bool (holdsB 3 (compareV k n s k' n' s')),
                  PV.bool (holdsB 4 (compareV k n s k' n' s')), PV.bool (holdsB 5 (compareV k n s k' n' s')), PV.bool false]]
              [] [24, 24, 53]))
        (Tr.ite (holdsB 6 (compareV k n s k' n' s'))
          (Tr.ite (iEq 6 1)
            (Tr.ret
              (PExit.normal, [42, 41, 38, 37, 34, 31, 26, 15],
                [PV.top, PV.top, PV.ptr 0 0, PV.ptr 1 0, PV.top, PV.ptr 2 0, PV.int IntKind.i64 (iAdd IntKind.i64 m 1), PV.int IntKind.i64 (iAdd IntKind.i64 6 1),
                  PV.bool (holdsB 6 (compareV k n s k' n' s')), PV.int IntKind.i64 (holdsE 6), PV.top, PV.top, PV.top, PV.top, PV.int IntKind.i64 6, PV.bool true, PV.int IntKind.i64 6,
                  PV.int IntKind.i64 (iAdd IntKind.i64 6 1), PV.tup [PV.bool (holdsB 6 (compareV k n s k' n' s')), PV.int IntKind.i64 (holdsE 6)], PV.int IntKind.i64 6,
                  PV.agg [PV.int IntKind.i64 k, PV.int IntKind.i64 n, PV.str s], PV.agg [PV.int IntKind.i64 k', PV.int IntKind.i64 n', PV.str s'],
                  PV.tup [PV.bool (holdsB 6 (compareV k n s k' n' s')), PV.int IntKind.i64 (holdsE 6)], PV.bool (holdsB 6 (compareV k n s k' n' s')), PV.int IntKind.i64 (holdsE 6),
                  PV.int IntKind.i64 (holdsE 6), PV.bool false, PV.int IntKind.i64 6, PV.bool (holdsB 6 (compareV k n s k' n' s')), PV.ptr 2 6, PV.bool (holdsB 6 (compareV k n s k' n' s')), PV.bool true,
                  PV.int IntKind.i64 6, PV.bool (iEq 6 1), PV.bool true, PV.tup [], PV.tup [], PV.bool true, PV.bool true, PV.tup [], PV.tup [], PV.bool true, PV.bool true, PV.int IntKind.i64 m,
                  PV.int IntKind.i64 (iAdd IntKind.i64 m 1), PV.top, PV.top, PV.top, PV.top, PV.top, PV.top, PV.top, PV.top, PV.top, PV.top, PV.top, PV.top, PV.top, PV.top, PV.top, PV.top, PV.top, PV.top,
                  PV.top, PV.top, PV.top, PV.top, PV.top, PV.top, PV.top, PV.top],
                Store.mk
                  [[PV.int IntKind.i64 k, PV.int IntKind.i64 n, PV.str s], [PV.int IntKind.i64 k', PV.int IntKind.i64 n', PV.str s'],
                    [PV.bool false, PV.bool (holdsB 1 (compareV k n s k' n' s')), PV.bool (holdsB 2 (compareV k n s k' n' s')), PV.bool (holdsB 3 (compareV k n s k' n' s')),
                      PV.bool (holdsB 4 (compareV k n s k' n' s')), PV.bool (holdsB 5 (compareV k n s k' n' s')), PV.bool (holdsB 6 (compareV k n s k' n' s'))]]
                  [] [24, 24, 53]))
            (Tr.ite (iEq 6 3)
              (Tr.ret
                (PExit.normal, [42, 41, 38, 34, 31, 26, 15],
                  [PV.top, PV.top, PV.ptr 0 0, PV.ptr 1 0, PV.top, PV.ptr 2 0, PV.int IntKind.i64 (iAdd IntKind.i64 m 1), PV.int IntKind.i64 (iAdd IntKind.i64 6 1),
                    PV.bool (holdsB 6 (compareV k n s k' n' s')), PV.int IntKind.i64 (holdsE 6), PV.top, PV.top, PV.top, PV.top, PV.int IntKind.i64 6, PV.bool true, PV.int IntKind.i64 6,
                    PV.int IntKind.i64 (iAdd IntKind.i64 6 1), PV.tup [PV.bool (holdsB 6 (compareV k n s k' n' s')), PV.int IntKind.i64 (holdsE 6)], PV.int IntKind.i64 6,
                    PV.agg [PV.int IntKind.i64 k, PV.int IntKind.i64 n, PV.str s], PV.agg [PV.int IntKind.i64 k', PV.int IntKind.i64 n', PV.str s'],
                    PV.tup [PV.bool (holdsB 6 (compareV k n s k' n' s')), PV.int IntKind.i64 (holdsE 6)], PV.bool (holdsB 6 (compareV k n s k' n' s')), PV.int IntKind.i64 (holdsE 6),
                    PV.int IntKind.i64 (holdsE 6), PV.bool false, PV.int IntKind.i64 6, PV.bool (holdsB 6 (compareV k n s k' n' s')), PV.ptr 2 6, PV.bool (holdsB 6 (compareV k n s k' n' s')),
                    PV.bool true, PV.int IntKind.i64 6, PV.bool (iEq 6 1), PV.bool false, PV.int IntKind.i64 6, PV.bool (iEq 6 3), PV.bool (iEq 6 3), PV.bool true, PV.tup [], PV.tup [], PV.bool true,
                    PV.bool true, PV.int IntKind.i64 m, PV.int IntKind.i64 (iAdd IntKind.i64 m 1), PV.top, PV.top, PV.top, PV.top, PV.top, PV.top, PV.top, PV.top, PV.top, PV.top, PV.top, PV.top, PV.top,
                    PV.top, PV.top, PV.top, PV.top, PV.top, PV.top, PV.top, PV.top, PV.top, PV.top, PV.top, PV.top, PV.top],
                  Store.mk
                    [[PV.int IntKind.i64 k, PV.int IntKind.i64 n, PV.str s], [PV.int IntKind.i64 k', PV.int IntKind.i64 n', PV.str s'],
                      [PV.bool false, PV.bool (holdsB 1 (compareV k n s k' n' s')), PV.bool (holdsB 2 (compareV k n s k' n' s')), PV.bool (holdsB 3 (compareV k n s k' n' s')),
                        PV.bool (holdsB 4 (compareV k n s k' n' s')), PV.bool (holdsB 5 (compareV k n s k' n' s')), PV.bool (holdsB 6 (compareV k n s k' n' s'))]]
                    [] [24, 24, 53]))
              (Tr.ite (iEq 6 5)
                (Tr.ret
                  (PExit.normal, [42, 38, 34, 31, 26, 15],
                    [PV.top, PV.top, PV.ptr 0 0, PV.ptr 1 0, PV.top, PV.ptr 2 0, PV.int IntKind.i64 (iAdd IntKind.i64 m 1), PV.int IntKind.i64 (iAdd IntKind.i64 6 1),
                      PV.bool (holdsB 6 (compareV k n s k' n' s')), PV.int IntKind.i64 (holdsE 6), PV.top, PV.top, PV.top, PV.top, PV.int IntKind.i64 6, PV.bool true, PV.int IntKind.i64 6,
                      PV.int IntKind.i64 (iAdd IntKind.i64 6 1), PV.tup [PV.bool (holdsB 6 (compareV k n s k' n' s')), PV.int IntKind.i64 (holdsE 6)], PV.int IntKind.i64 6,
                      PV.agg [PV.int IntKind.i64 k, PV.int IntKind.i64 n, PV.str s], PV.agg [PV.int IntKind.i64 k', PV.int IntKind.i64 n', PV.str s'],
                      PV.tup [PV.bool (holdsB 6 (compareV k n s k' n' s')), PV.int IntKind.i64 (holdsE 6)], PV.bool (holdsB 6 (compareV k n s k' n' s')), PV.int IntKind.i64 (holdsE 6),
                      PV.int IntKind.i64 (holdsE 6), PV.bool false, PV.int IntKind.i64 6, PV.bool (holdsB 6 (compareV k n s k' n' s')), PV.ptr 2 6, PV.bool (holdsB 6 (compareV k n s k' n' s')),
                      PV.bool true, PV.int IntKind.i64 6, PV.bool (iEq 6 1), PV.bool false, PV.int IntKind.i64 6, PV.bool (iEq 6 3), PV.bool (iEq 6 3), PV.bool false, PV.int IntKind.i64 6,
                      PV.bool (iEq 6 5), PV.bool (iEq 6 5), PV.bool true, PV.int IntKind.i64 m, PV.int IntKind.i64 (iAdd IntKind.i64 m 1), PV.top, PV.top, PV.top, PV.top, PV.top, PV.top, PV.top, PV.top,
                      PV.top, PV.top, PV.top, PV.top, PV.top, PV.top, PV.top, PV.top, PV.top, PV.top, PV.top, PV.top, PV.top, PV.top, PV.top, PV.top, PV.top, PV.top],
                    Store.mk
                      [[PV.int IntKind.i64 k, PV.int IntKind.i64 n, PV.str s], [PV.int IntKind.i64 k', PV.int IntKind.i64 n', PV.str s'],
                        [PV.bool false, PV.bool (holdsB 1 (compareV k n s k' n' s')), PV.bool (holdsB 2 (compareV k n s k' n' s')), PV.bool (holdsB 3 (compareV k n s k' n' s')),
                          PV.bool (holdsB 4 (compareV k n s k' n' s')), PV.bool (holdsB 5 (compareV k n s k' n' s')), PV.bool (holdsB 6 (compareV k n s k' n' s'))]]
                      [] [24, 24, 53]))
                (Tr.ret
                  (PExit.normal, [42, 38, 34, 31, 26, 15],
                    [PV.top, PV.top, PV.ptr 0 0, PV.ptr 1 0, PV.top, PV.ptr 2 0, PV.int IntKind.i64 m, PV.int IntKind.i64 (iAdd IntKind.i64 6 1), PV.bool (holdsB 6 (compareV k n s k' n' s')),
                      PV.int IntKind.i64 (holdsE 6), PV.top, PV.top, PV.top, PV.top, PV.int IntKind.i64 6, PV.bool true, PV.int IntKind.i64 6, PV.int IntKind.i64 (iAdd IntKind.i64 6 1),
                      PV.tup [PV.bool (holdsB 6 (compareV k n s k' n' s')), PV.int IntKind.i64 (holdsE 6)], PV.int IntKind.i64 6, PV.agg [PV.int IntKind.i64 k, PV.int IntKind.i64 n, PV.str s],
                      PV.agg [PV.int IntKind.i64 k', PV.int IntKind.i64 n', PV.str s'], PV.tup [PV.bool (holdsB 6 (compareV k n s k' n' s')), PV.int IntKind.i64 (holdsE 6)],
                      PV.bool (holdsB 6 (compareV k n s k' n' s')), PV.int IntKind.i64 (holdsE 6), PV.int IntKind.i64 (holdsE 6), PV.bool false, PV.int IntKind.i64 6,
                      PV.bool (holdsB 6 (compareV k n s k' n' s')), PV.ptr 2 6, PV.bool (holdsB 6 (compareV k n s k' n' s')), PV.bool true, PV.int IntKind.i64 6, PV.bool (iEq 6 1), PV.bool false,
                      PV.int IntKind.i64 6, PV.bool (iEq 6 3), PV.bool (iEq 6 3), PV.bool false, PV.int IntKind.i64 6, PV.bool (iEq 6 5), PV.bool (iEq 6 5), PV.bool false, PV.top, PV.top, PV.top, PV.top,
                      PV.top, PV.top, PV.top, PV.top, PV.top, PV.top, PV.top, PV.top, PV.top, PV.top, PV.top, PV.top, PV.top, PV.top, PV.top, PV.top, PV.top, PV.top, PV.top, PV.top, PV.top, PV.top,
                      PV.top, PV.top],
                    Store.mk
                      [[PV.int IntKind.i64 k, PV.int IntKind.i64 n, PV.str s], [PV.int IntKind.i64 k', PV.int IntKind.i64 n', PV.str s'],
                        [PV.bool false, PV.bool (holdsB 1 (compareV k n s k' n' s')), PV.bool (holdsB 2 (compareV k n s k' n' s')), PV.bool (holdsB 3 (compareV k n s k' n' s')),
                          PV.bool (holdsB 4 (compareV k n s k' n' s')), PV.bool (holdsB 5 (compareV k n s k' n' s')), PV.bool (holdsB 6 (compareV k n s k' n' s'))]]
                      [] [24, 24, 53])))))
          (Tr.ret
            (PExit.normal, [42, 31, 26, 15],
              [PV.top, PV.top, PV.ptr 0 0, PV.ptr 1 0, PV.top, PV.ptr 2 0, PV.int IntKind.i64 m, PV.int IntKind.i64 (iAdd IntKind.i64 6 1), PV.bool (holdsB 6 (compareV k n s k' n' s')),
                PV.int IntKind.i64 (holdsE 6), PV.top, PV.top, PV.top, PV.top, PV.int IntKind.i64 6, PV.bool true, PV.int IntKind.i64 6, PV.int IntKind.i64 (iAdd IntKind.i64 6 1),
                PV.tup [PV.bool (holdsB 6 (compareV k n s k' n' s')), PV.int IntKind.i64 (holdsE 6)], PV.int IntKind.i64 6, PV.agg [PV.int IntKind.i64 k, PV.int IntKind.i64 n, PV.str s],
                PV.agg [PV.int IntKind.i64 k', PV.int IntKind.i64 n', PV.str s'], PV.tup [PV.bool (holdsB 6 (compareV k n s k' n' s')), PV.int IntKind.i64 (holdsE 6)],
                PV.bool (holdsB 6 (compareV k n s k' n' s')), PV.int IntKind.i64 (holdsE 6), PV.int IntKind.i64 (holdsE 6), PV.bool false, PV.int IntKind.i64 6,
                PV.bool (holdsB 6 (compareV k n s k' n' s')), PV.ptr 2 6, PV.bool (holdsB 6 (compareV k n s k' n' s')), PV.bool false, PV.tup [], PV.tup [], PV.tup [], PV.tup [], PV.tup [], PV.tup [],
                PV.tup [], PV.tup [], PV.tup [], PV.tup [], PV.bool false, PV.top, PV.top, PV.top, PV.top, PV.top, PV.top, PV.top, PV.top, PV.top, PV.top, PV.top, PV.top, PV.top, PV.top, PV.top, PV.top,
                PV.top, PV.top, PV.top, PV.top, PV.top, PV.top, PV.top, PV.top, PV.top, PV.top, PV.top, PV.top],
              Store.mk
                [[PV.int IntKind.i64 k, PV.int IntKind.i64 n, PV.str s], [PV.int IntKind.i64 k', PV.int IntKind.i64 n', PV.str s'],
                  [PV.bool false, PV.bool (holdsB 1 (compareV k n s k' n' s')), PV.bool (holdsB 2 (compareV k n s k' n' s')), PV.bool (holdsB 3 (compareV k n s k' n' s')),
                    PV.bool (holdsB 4 (compareV k n s k' n' s')), PV.bool (holdsB 5 (compareV k n s k' n' s')), PV.bool (holdsB 6 (compareV k n s k' n' s'))]]
                [] [24, 24, 53]))))
      (Tr.ret
        (PExit.exit 0, [15],
          [PV.top, PV.top, PV.ptr 0 0, PV.ptr 1 0, PV.top, PV.ptr 2 0, PV.int IntKind.i64 m, PV.int IntKind.i64 6, PV.top, PV.top, PV.top, PV.top, PV.top, PV.top, PV.int IntKind.i64 6, PV.bool false,
            PV.top, PV.top, PV.top, PV.top, PV.top, PV.top, PV.top, PV.top, PV.top, PV.top, PV.top, PV.top, PV.top, PV.top, PV.top, PV.top, PV.top, PV.top, PV.top, PV.top, PV.top, PV.top, PV.top, PV.top,
            PV.top, PV.top, PV.top, PV.top, PV.top, PV.top, PV.top, PV.top, PV.top, PV.top, PV.top, PV.top, PV.top, PV.top, PV.top, PV.top, PV.top, PV.top, PV.top, PV.top, PV.top, PV.top, PV.top, PV.top,
            PV.top, PV.top, PV.top, PV.top, PV.top, PV.top, PV.top],
          Store.mk
            [[PV.int IntKind.i64 k, PV.int IntKind.i64 n, PV.str s], [PV.int IntKind.i64 k', PV.int IntKind.i64 n', PV.str s'],
              [PV.bool false, PV.bool (holdsB 1 (compareV k n s k' n' s')), PV.bool (holdsB 2 (compareV k n s k' n' s')), PV.bool (holdsB 3 (compareV k n s k' n' s')),
                PV.bool (holdsB 4 (compareV k n s k' n' s')), PV.bool (holdsB 5 (compareV k n s k' n' s')), PV.bool false]]
            [] [24, 24, 53]))) (by kernel_rfl) ?_
  have he : iNe (holdsE 6) 0 = false := by decide
  have w1 : iAdd .i64 m 1 = m + 1 := wrap_i64 (by omega)
  have w2 : iAdd .i64 6 1 = 7 := by decide
  refine Tr.all_t (by simp) <| Tr.all_f he ?_
  cases hb : holdsB 6 (compareV k n s k' n' s') with
  | true =>
    rw [hb] at h
    refine Tr.all_t rfl <| Tr.all_f (by simp) <| Tr.all_f (by simp) <| Tr.all_f (by simp) <| ?_
    refine LDoes.into ?_ h
    simp [Weak, mk, mkFrom, look, w1, w2]
  | false =>
    rw [hb] at h
    refine Tr.all_f rfl ?_
    refine LDoes.into ?_ h
    simp [Weak, mk, mkFrom, look, w1, w2]
theorem three5 (m : Int) (hm : 0 ≤ m ∧ m ≤ 6) {e : PExit} {out : List PV} {σ' : Store} (h : LDoes Tryd.prog gl c_Three (mk 71 ([2, 3, 5, 6, 7].zip [.ptr 0 0, .ptr 1 0, .ptr 2 0, .int .i64 (if holdsB 5 (compareV k n s k' n' s') = true then m + 1 else m), .int .i64 6])) ⟨[[.int .i64 k, .int .i64 n, .str s], [.int .i64 k', .int .i64 n', .str s'], [.bool false, .bool (holdsB 1 (compareV k n s k' n' s')), .bool (holdsB 2 (compareV k n s k' n' s')), .bool (holdsB 3 (compareV k n s k' n' s')), .bool (holdsB 4 (compareV k n s k' n' s')), .bool (holdsB 5 (compareV k n s k' n' s')), .bool false]], [], [24, 24, 53]⟩ e out σ') :
    LDoes Tryd.prog gl c_Three (mk 71 ([2, 3, 5, 6, 7].zip [.ptr 0 0, .ptr 1 0, .ptr 2 0, .int .i64 m, .int .i64 5])) ⟨[[.int .i64 k, .int .i64 n, .str s], [.int .i64 k', .int .i64 n', .str s'], [.bool false, .bool (holdsB 1 (compareV k n s k' n' s')), .bool (holdsB 2 (compareV k n s k' n' s')), .bool (holdsB 3 (compareV k n s k' n' s')), .bool (holdsB 4 (compareV k n s k' n' s')), .bool false, .bool false]], [], [24, 24, 53]⟩ e out σ' := by
  have hG : GamOk Tryd.prog gl (gam (ofL [(22, .pure F_Holds)])) := gamOk_cons (sim_Holds gl) gamOk_nil
  refine LDoes.round tbT_ok hG noMixed (L := fun _ _ _ => .fail) (loopOk_none (by kernel_rfl)) (by kernel_rfl) ?_
  refine Tr.all_as (Tr.ite (iLe 5 6)
      (Tr.ite (iNe (holdsE 5) 0)
        (Tr.ret
          (PExit.ret, [4, 26, 15],
            [PV.top, PV.top, PV.ptr 0 0, PV.ptr 1 0, PV.bool false, PV.ptr 2 0, PV.int IntKind.i64 m, PV.int IntKind.i64 5, PV.bool (holdsB 5 (compareV k n s k' n' s')), PV.int IntKind.i64 (holdsE 5),
              PV.top, PV.top, PV.top, PV.top, PV.int IntKind.i64 5, PV.bool true, PV.top, PV.top, PV.tup [PV.bool (holdsB 5 (compareV k n s k' n' s')), PV.int IntKind.i64 (holdsE 5)],
              PV.int IntKind.i64 5, PV.agg [PV.int IntKind.i64 k, PV.int IntKind.i64 n, PV.str s], PV.agg [PV.int IntKind.i64 k', PV.int IntKind.i64 n', PV.str s'],
              PV.tup [PV.bool (holdsB 5 (compareV k n s k' n' s')), PV.int IntKind.i64 (holdsE 5)], PV.bool (holdsB 5 (compareV k n s k' n' s')), PV.int IntKind.i64 (holdsE 5),
              PV.int IntKind.i64 (holdsE 5), PV.bool true, PV.top, PV.top, PV.top, PV.top, PV.top, PV.top, PV.top, PV.top, PV.top, PV.top, PV.top, PV.top, PV.top, PV.top, PV.top, PV.top, PV.top, PV.top,
              PV.top, PV.top, PV.top, PV.top, PV.top, PV.top, PV.top, PV.top, PV.top, PV.top, PV.top, PV.top, PV.top, PV.top, PV.top, PV.top, PV.top, PV.top, PV.top, PV.top, PV.top, PV.top, PV.top,
              PV.top, PV.top, PV.top],
            Store.mk
              [[PV.int IntKind.i64 k, PV.int IntKind.i64 n, PV.str s], [PV.int IntKind.i64 k', PV.int IntKind.i64 n', PV.str s'],
                [PV.bool false, PV.bool (holdsB 1 (compareV k n s k' n' s')), PV.bool (holdsB 2 (compareV k n s k' n' s')), PV.bool (holdsB 3 (compareV k n s k' n' s')),
                  PV.bool (holdsB 4 (compareV k n s k' n' s')), PV.bool false, PV.bool false]]
              [] [24, 24, 53]))
        (Tr.ite (holdsB 5 (compareV k n s k' n' s'))
          (Tr.ite (iEq 5 1)
            (Tr.ret
              (PExit.normal, [42, 41, 38, 37, 34, 31, 26, 15],
                [PV.top, PV.top, PV.ptr 0 0, PV.ptr 1 0, PV.top, PV.ptr 2 0, PV.int IntKind.i64 (iAdd IntKind.i64 m 1), PV.int IntKind.i64 (iAdd IntKind.i64 5 1),
                  PV.bool (holdsB 5 (compareV k n s k' n' s')), PV.int IntKind.i64 (holdsE 5), PV.top, PV.top, PV.top, PV.top, PV.int IntKind.i64 5, PV.bool true, PV.int IntKind.i64 5,
                  PV.int IntKind.i64 (iAdd IntKind.i64 5 1), PV.tup [PV.bool (holdsB 5 (compareV k n s k' n' s')), PV.int IntKind.i64 (holdsE 5)], PV.int IntKind.i64 5,
                  PV.agg [PV.int IntKind.i64 k, PV.int IntKind.i64 n, PV.str s], PV.agg [PV.int IntKind.i64 k', PV.int IntKind.i64 n', PV.str s'],
                  PV.tup [PV.bool (holdsB 5 (compareV k n s k' n' s')), PV.int IntKind.i64 (holdsE 5)], PV.bool (holdsB 5 (compareV k n s k' n' s')), PV.int IntKind.i64 (holdsE 5),
                  PV.int IntKind.i64 (holdsE 5), PV.bool false, PV.int IntKind.i64 5, PV.bool (holdsB 5 (compareV k n s k' n' s')), PV.ptr 2 5, PV.bool (holdsB 5 (compareV k n s k' n' s')), PV.bool true,
                  PV.int IntKind.i64 5, PV.bool (iEq 5 1), PV.bool true, PV.tup [], PV.tup [], PV.bool true, PV.bool true, PV.tup [], PV.tup [], PV.bool true, PV.bool true, PV.int IntKind.i64 m,
                  PV.int IntKind.i64 (iAdd IntKind.i64 m 1), PV.top, PV.top, PV.top, PV.top, PV.top, PV.top, PV.top, PV.top, PV.top, PV.top, PV.top, PV.top, PV.top, PV.top, PV.top, PV.top, PV.top, PV.top,
                  PV.top, PV.top, PV.top, PV.top, PV.top, PV.top, PV.top, PV.top],
                Store.mk
                  [[PV.int IntKind.i64 k, PV.int IntKind.i64 n, PV.str s], [PV.int IntKind.i64 k', PV.int IntKind.i64 n', PV.str s'],
                    [PV.bool false, PV.bool (holdsB 1 (compareV k n s k' n' s')), PV.bool (holdsB 2 (compareV k n s k' n' s')), PV.bool (holdsB 3 (compareV k n s k' n' s')),
                      PV.bool (holdsB 4 (compareV k n s k' n' s')), PV.bool (holdsB 5 (compareV k n s k' n' s')), PV.bool false]]
                  [] [24, 24, 53]))
            (Tr.ite (iEq 5 3)
              (Tr.ret
                (PExit.normal, [42, 41, 38, 34, 31, 26, 15],
                  [PV.top, PV.top, PV.ptr 0 0, PV.ptr 1 0, PV.top, PV.ptr 2 0, PV.int IntKind.i64 (iAdd IntKind.i64 m 1), PV.int IntKind.i64 (iAdd IntKind.i64 5 1),
                    PV.bool (holdsB 5 (compareV k n s k' n' s')), PV.int IntKind.i64 (holdsE 5), PV.top, PV.top, PV.top, PV.top, PV.int IntKind.i64 5, PV.bool true, PV.int IntKind.i64 5,
                    PV.int IntKind.i64 (iAdd IntKind.i64 5 1), PV.tup [PV.bool (holdsB 5 (compareV k n s k' n' s')), PV.int IntKind.i64 (holdsE 5)], PV.int IntKind.i64 5,
                    PV.agg [PV.int IntKind.i64 k, PV.int IntKind.i64 n, PV.str s], PV.agg [PV.int IntKind.i64 k', PV.int IntKind.i64 n', PV.str s'],
                    PV.tup [PV.bool (holdsB 5 (compareV k n s k' n' s')), PV.int IntKind.i64 (holdsE 5)], PV.bool (holdsB 5 (compareV k n s k' n' s')), PV.int IntKind.i64 (holdsE 5),
                    PV.int IntKind.i64 (holdsE 5), PV.bool false, PV.int IntKind.i64 5, PV.bool (holdsB 5 (compareV k n s k' n' s')), PV.ptr 2 5, PV.bool (holdsB 5 (compareV k n s k' n' s')),
                    PV.bool true, PV.int IntKind.i64 5, PV.bool (iEq 5 1), PV.bool false, PV.int IntKind.i64 5, PV.bool (iEq 5 3), PV.bool (iEq 5 3), PV.bool true, PV.tup [], PV.tup [], PV.bool true,
                    PV.bool true, PV.int IntKind.i64 m, PV.int IntKind.i64 (iAdd IntKind.i64 m 1), PV.top, PV.top, PV.top, PV.top, PV.top, PV.top, PV.top, PV.top, PV.top, PV.top, PV.top, PV.top, PV.top,
                    PV.top, PV.top, PV.top, PV.top, PV.top, PV.top, PV.top, PV.top, PV.top, PV.top, PV.top, PV.top, PV.top],
                  Store.mk
                    [[PV.int IntKind.i64 k, PV.int IntKind.i64 n, PV.str s], [PV.int IntKind.i64 k', PV.int IntKind.i64 n', PV.str s'],
                      [PV.bool false, PV.bool (holdsB 1 (compareV k n s k' n' s')), PV.bool (holdsB 2 (compareV k n s k' n' s')), PV.bool (holdsB 3 (compareV k n s k' n' s')),
                        PV.bool (holdsB 4 (compareV k n s k' n' s')), PV.bool (holdsB 5 (compareV k n s k' n' s')), PV.bool false]]
                    [] [24, 24, 53]))
              (Tr.ite (iEq 5 5)
                (Tr.ret
                  (PExit.normal, [42, 38, 34, 31, 26, 15],
                    [PV.top, PV.top, PV.ptr 0 0, PV.ptr 1 0, PV.top, PV.ptr 2 0, PV.int IntKind.i64 (iAdd IntKind.i64 m 1), PV.int IntKind.i64 (iAdd IntKind.i64 5 1),
                      PV.bool (holdsB 5 (compareV k n s k' n' s')), PV.int IntKind.i64 (holdsE 5), PV.top, PV.top, PV.top, PV.top, PV.int IntKind.i64 5, PV.bool true, PV.int IntKind.i64 5,
                      PV.int IntKind.i64 (iAdd IntKind.i64 5 1), PV.tup [PV.bool (holdsB 5 (compareV k n s k' n' s')), PV.int IntKind.i64 (holdsE 5)], PV.int IntKind.i64 5,
                      PV.agg [PV.int IntKind.i64 k, PV.int IntKind.i64 n, PV.str s], PV.agg [PV.int IntKind.i64 k', PV.int IntKind.i64 n', PV.str s'],
                      PV.tup [PV.bool (holdsB 5 (compareV k n s k' n' s')), PV.int IntKind.i64 (holdsE 5)], PV.bool (holdsB 5 (compareV k n s k' n' s')), PV.int IntKind.i64 (holdsE 5),
                      PV.int IntKind.i64 (holdsE 5), PV.bool false, PV.int IntKind.i64 5, PV.bool (holdsB 5 (compareV k n s k' n' s')), PV.ptr 2 5, PV.bool (holdsB 5 (compareV k n s k' n' s')),
                      PV.bool true, PV.int IntKind.i64 5, PV.bool (iEq 5 1), PV.bool false, PV.int IntKind.i64 5, PV.bool (iEq 5 3), PV.bool (iEq 5 3), PV.bool false, PV.int IntKind.i64 5,
                      PV.bool (iEq 5 5), PV.bool (iEq 5 5), PV.bool true, PV.int IntKind.i64 m, PV.int IntKind.i64 (iAdd IntKind.i64 m 1), PV.top, PV.top, PV.top, PV.top, PV.top, PV.top, PV.top, PV.top,
                      PV.top, PV.top, PV.top, PV.top, PV.top, PV.top, PV.top, PV.top, PV.top, PV.top, PV.top, PV.top, PV.top, PV.top, PV.top, PV.top, PV.top, PV.top],
                    Store.mk
                      [[PV.int IntKind.i64 k, PV.int IntKind.i64 n, PV.str s], [PV.int IntKind.i64 k', PV.int IntKind.i64 n', PV.str s'],
                        [PV.bool false, PV.bool (holdsB 1 (compareV k n s k' n' s')), PV.bool (holdsB 2 (compareV k n s k' n' s')), PV.bool (holdsB 3 (compareV k n s k' n' s')),
                          PV.bool (holdsB 4 (compareV k n s k' n' s')), PV.bool (holdsB 5 (compareV k n s k' n' s')), PV.bool false]]
                      [] [24, 24, 53]))
                (Tr.ret
                  (PExit.normal, [42, 38, 34, 31, 26, 15],
                    [PV.top, PV.top, PV.ptr 0 0, PV.ptr 1 0, PV.top, PV.ptr 2 0, PV.int IntKind.i64 m, PV.int IntKind.i64 (iAdd IntKind.i64 5 1), PV.bool (holdsB 5 (compareV k n s k' n' s')),
                      PV.int IntKind.i64 (holdsE 5), PV.top, PV.top, PV.top, PV.top, PV.int IntKind.i64 5, PV.bool true, PV.int IntKind.i64 5, PV.int IntKind.i64 (iAdd IntKind.i64 5 1),
                      PV.tup [PV.bool (holdsB 5 (compareV k n s k' n' s')), PV.int IntKind.i64 (holdsE 5)], PV.int IntKind.i64 5, PV.agg [PV.int IntKind.i64 k, PV.int IntKind.i64 n, PV.str s],
                      PV.agg [PV.int IntKind.i64 k', PV.int IntKind.i64 n', PV.str s'], PV.tup [PV.bool (holdsB 5 (compareV k n s k' n' s')), PV.int IntKind.i64 (holdsE 5)],
                      PV.bool (holdsB 5 (compareV k n s k' n' s')), PV.int IntKind.i64 (holdsE 5), PV.int IntKind.i64 (holdsE 5), PV.bool false, PV.int IntKind.i64 5,
                      PV.bool (holdsB 5 (compareV k n s k' n' s')), PV.ptr 2 5, PV.bool (holdsB 5 (compareV k n s k' n' s')), PV.bool true, PV.int IntKind.i64 5, PV.bool (iEq 5 1), PV.bool false,
                      PV.int IntKind.i64 5, PV.bool (iEq 5 3), PV.bool (iEq 5 3), PV.bool false, PV.int IntKind.i64 5, PV.bool (iEq 5 5), PV.bool (iEq 5 5), PV.bool false, PV.top, PV.top, PV.top, PV.top,
                      PV.top, PV.top, PV.top, PV.top, PV.top, PV.top, PV.top, PV.top, PV.top, PV.top, PV.top, PV.top, PV.top, PV.top, PV.top, PV.top, PV.top, PV.top, PV.top, PV.top, PV.top, PV.top,
                      PV.top, PV.top],
                    Store.mk
                      [[PV.int IntKind.i64 k, PV.int IntKind.i64 n, PV.str s], [PV.int IntKind.i64 k', PV.int IntKind.i64 n', PV.str s'],
                        [PV.bool false, PV.bool (holdsB 1 (compareV k n s k' n' s')), PV.bool (holdsB 2 (compareV k n s k' n' s')), PV.bool (holdsB 3 (compareV k n s k' n' s')),
                          PV.bool (holdsB 4 (compareV k n s k' n' s')), PV.bool (holdsB 5 (compareV k n s k' n' s')), PV.bool false]]
                      [] [24, 24, 53])))))
          (Tr.ret
            (PExit.normal, [42, 31, 26, 15],
              [PV.top, PV.top, PV.ptr 0 0, PV.ptr 1 0, PV.top, PV.ptr 2 0, PV.int IntKind.i64 m, PV.int IntKind.i64 (iAdd IntKind.i64 5 1), PV.bool (holdsB 5 (compareV k n s k' n' s')),
                PV.int IntKind.i64 (holdsE 5), PV.top, PV.top, PV.top, PV.top, PV.int IntKind.i64 5, PV.bool true, PV.int IntKind.i64 5, PV.int IntKind.i64 (iAdd IntKind.i64 5 1),
                PV.tup [PV.bool (holdsB 5 (compareV k n s k' n' s')), PV.int IntKind.i64 (holdsE 5)], PV.int IntKind.i64 5, PV.agg [PV.int IntKind.i64 k, PV.int IntKind.i64 n, PV.str s],
                PV.agg [PV.int IntKind.i64 k', PV.int IntKind.i64 n', PV.str s'], PV.tup [PV.bool (holdsB 5 (compareV k n s k' n' s')), PV.int IntKind.i64 (holdsE 5)],
                PV.bool (holdsB 5 (compareV k n s k' n' s')), PV.int IntKind.i64 (holdsE 5), PV.int IntKind.i64 (holdsE 5), PV.bool false, PV.int IntKind.i64 5,
                PV.bool (holdsB 5 (compareV k n s k' n' s')), PV.ptr 2 5, PV.bool (holdsB 5 (compareV k n s k' n' s')), PV.bool false, PV.tup [], PV.tup [], PV.tup [], PV.tup [], PV.tup [], PV.tup [],
                PV.tup [], PV.tup [], PV.tup [], PV.tup [], PV.bool false, PV.top, PV.top, PV.top, PV.top, PV.top, PV.top, PV.top, PV.top, PV.top, PV.top, PV.top, PV.top, PV.top, PV.top, PV.top, PV.top,
                PV.top, PV.top, PV.top, PV.top, PV.top, PV.top, PV.top, PV.top, PV.top, PV.top, PV.top, PV.top],
              Store.mk
                [[PV.int IntKind.i64 k, PV.int IntKind.i64 n, PV.str s], [PV.int IntKind.i64 k', PV.int IntKind.i64 n', PV.str s'],
                  [PV.bool false, PV.bool (holdsB 1 (compareV k n s k' n' s')), PV.bool (holdsB 2 (compareV k n s k' n' s')), PV.bool (holdsB 3 (compareV k n s k' n' s')),
                    PV.bool (holdsB 4 (compareV k n s k' n' s')), PV.bool (holdsB 5 (compareV k n s k' n' s')), PV.bool false]]
                [] [24, 24, 53]))))
      (Tr.ret
        (PExit.exit 0, [15],
          [PV.top, PV.top, PV.ptr 0 0, PV.ptr 1 0, PV.top, PV.ptr 2 0, PV.int IntKind.i64 m, PV.int IntKind.i64 5, PV.top, PV.top, PV.top, PV.top, PV.top, PV.top, PV.int IntKind.i64 5, PV.bool false,
            PV.top, PV.top, PV.top, PV.top, PV.top, PV.top, PV.top, PV.top, PV.top, PV.top, PV.top, PV.top, PV.top, PV.top, PV.top, PV.top, PV.top, PV.top, PV.top, PV.top, PV.top, PV.top, PV.top, PV.top,
            PV.top, PV.top, PV.top, PV.top, PV.top, PV.top, PV.top, PV.top, PV.top, PV.top, PV.top, PV.top, PV.top, PV.top, PV.top, PV.top, PV.top, PV.top, PV.top, PV.top, PV.top, PV.top, PV.top, PV.top,
            PV.top, PV.top, PV.top, PV.top, PV.top, PV.top, PV.top],
          Store.mk
            [[PV.int IntKind.i64 k, PV.int IntKind.i64 n, PV.str s], [PV.int IntKind.i64 k', PV.int IntKind.i64 n', PV.str s'],
              [PV.bool false, PV.bool (holdsB 1 (compareV k n s k' n' s')), PV.bool (holdsB 2 (compareV k n s k' n' s')), PV.bool (holdsB 3 (compareV k n s k' n' s')),
                PV.bool (holdsB 4 (compareV k n s k' n' s')), PV.bool false, PV.bool false]]
            [] [24, 24, 53]))) (by kernel_rfl) ?_
  have he : iNe (holdsE 5) 0 = false := by decide
  have w1 : iAdd .i64 m 1 = m + 1 := wrap_i64 (by omega)
  have w2 : iAdd .i64 5 1 = 6 := by decide
  refine Tr.all_t (by simp) <| Tr.all_f he ?_
  cases hb : holdsB 5 (compareV k n s k' n' s') with
  | true =>
    rw [hb] at h
    refine Tr.all_t rfl <| Tr.all_f (by simp) <| Tr.all_f (by simp) <| Tr.all_t (by simp) <| ?_
    refine LDoes.into ?_ h
    simp [Weak, mk, mkFrom, look, w1, w2]
  | false =>
    rw [hb] at h
    refine Tr.all_f rfl ?_
    refine LDoes.into ?_ h
    simp [Weak, mk, mkFrom, look, w1, w2]
theorem three4 (m : Int) (hm : 0 ≤ m ∧ m ≤ 6) {e : PExit} {out : List PV} {σ' : Store} (h : LDoes Tryd.prog gl c_Three (mk 71 ([2, 3, 5, 6, 7].zip [.ptr 0 0, .ptr 1 0, .ptr 2 0, .int .i64 m, .int .i64 5])) ⟨[[.int .i64 k, .int .i64 n, .str s], [.int .i64 k', .int .i64 n', .str s'], [.bool false, .bool (holdsB 1 (compareV k n s k' n' s')), .bool (holdsB 2 (compareV k n s k' n' s')), .bool (holdsB 3 (compareV k n s k' n' s')), .bool (holdsB 4 (compareV k n s k' n' s')), .bool false, .bool false]], [], [24, 24, 53]⟩ e out σ') :
    LDoes Tryd.prog gl c_Three (mk 71 ([2, 3, 5, 6, 7].zip [.ptr 0 0, .ptr 1 0, .ptr 2 0, .int .i64 m, .int .i64 4])) ⟨[[.int .i64 k, .int .i64 n, .str s], [.int .i64 k', .int .i64 n', .str s'], [.bool false, .bool (holdsB 1 (compareV k n s k' n' s')), .bool (holdsB 2 (compareV k n s k' n' s')), .bool (holdsB 3 (compareV k n s k' n' s')), .bool false, .bool false, .bool false]], [], [24, 24, 53]⟩ e out σ' := by
  have hG : GamOk Tryd.prog gl (gam (ofL [(22, .pure F_Holds)])) := gamOk_cons (sim_Holds gl) gamOk_nil
  refine LDoes.round tbT_ok hG noMixed (L := fun _ _ _ => .fail) (loopOk_none (by kernel_rfl)) (by kernel_rfl) ?_
  refine Tr.all_as (Tr.ite (iLe 4 6)
      (Tr.ite (iNe (holdsE 4) 0)
        (Tr.ret
          (PExit.ret, [4, 26, 15],
            [PV.top, PV.top, PV.ptr 0 0, PV.ptr 1 0, PV.bool false, PV.ptr 2 0, PV.int IntKind.i64 m, PV.int IntKind.i64 4, PV.bool (holdsB 4 (compareV k n s k' n' s')), PV.int IntKind.i64 (holdsE 4),
              PV.top, PV.top, PV.top, PV.top, PV.int IntKind.i64 4, PV.bool true, PV.top, PV.top, PV.tup [PV.bool (holdsB 4 (compareV k n s k' n' s')), PV.int IntKind.i64 (holdsE 4)],
              PV.int IntKind.i64 4, PV.agg [PV.int IntKind.i64 k, PV.int IntKind.i64 n, PV.str s], PV.agg [PV.int IntKind.i64 k', PV.int IntKind.i64 n', PV.str s'],
              PV.tup [PV.bool (holdsB 4 (compareV k n s k' n' s')), PV.int IntKind.i64 (holdsE 4)], PV.bool (holdsB 4 (compareV k n s k' n' s')), PV.int IntKind.i64 (holdsE 4),
              PV.int IntKind.i64 (holdsE 4), PV.bool true, PV.top, PV.top, PV.top, PV.top, PV.top, PV.top, PV.top, PV.top, PV.top, PV.top, PV.top, PV.top, PV.top, PV.top, PV.top, PV.top, PV.top, PV.top,
              PV.top, PV.top, PV.top, PV.top, PV.top, PV.top, PV.top, PV.top, PV.top, PV.top, PV.top, PV.top, PV.top, PV.top, PV.top, PV.top, PV.top, PV.top, PV.top, PV.top, PV.top, PV.top, PV.top,
              PV.top, PV.top, PV.top],
            Store.mk
              [[PV.int IntKind.i64 k, PV.int IntKind.i64 n, PV.str s], [PV.int IntKind.i64 k', PV.int IntKind.i64 n', PV.str s'],
                [PV.bool false, PV.bool (holdsB 1 (compareV k n s k' n' s')), PV.bool (holdsB 2 (compareV k n s k' n' s')), PV.bool (holdsB 3 (compareV k n s k' n' s')), PV.bool false, PV.bool false,
                  PV.bool false]]
              [] [24, 24, 53]))
        (Tr.ite (holdsB 4 (compareV k n s k' n' s'))
          (Tr.ite (iEq 4 1)
            (Tr.ret
              (PExit.normal, [42, 41, 38, 37, 34, 31, 26, 15],
                [PV.top, PV.top, PV.ptr 0 0, PV.ptr 1 0, PV.top, PV.ptr 2 0, PV.int IntKind.i64 (iAdd IntKind.i64 m 1), PV.int IntKind.i64 (iAdd IntKind.i64 4 1),
                  PV.bool (holdsB 4 (compareV k n s k' n' s')), PV.int IntKind.i64 (holdsE 4), PV.top, PV.top, PV.top, PV.top, PV.int IntKind.i64 4, PV.bool true, PV.int IntKind.i64 4,
                  PV.int IntKind.i64 (iAdd IntKind.i64 4 1), PV.tup [PV.bool (holdsB 4 (compareV k n s k' n' s')), PV.int IntKind.i64 (holdsE 4)], PV.int IntKind.i64 4,
                  PV.agg [PV.int IntKind.i64 k, PV.int IntKind.i64 n, PV.str s], PV.agg [PV.int IntKind.i64 k', PV.int IntKind.i64 n', PV.str s'],
                  PV.tup [PV.bool (holdsB 4 (compareV k n s k' n' s')), PV.int IntKind.i64 (holdsE 4)], PV.bool (holdsB 4 (compareV k n s k' n' s')), PV.int IntKind.i64 (holdsE 4),
                  PV.int IntKind.i64 (holdsE 4), PV.bool false, PV.int IntKind.i64 4, PV.bool (holdsB 4 (compareV k n s k' n' s')), PV.ptr 2 4, PV.bool (holdsB 4 (compareV k n s k' n' s')), PV.bool true,
                  PV.int IntKind.i64 4, PV.bool (iEq 4 1), PV.bool true, PV.tup [], PV.tup [], PV.bool true, PV.bool true, PV.tup [], PV.tup [], PV.bool true, PV.bool true, PV.int IntKind.i64 m,
                  PV.int IntKind.i64 (iAdd IntKind.i64 m 1), PV.top, PV.top, PV.top, PV.top, PV.top, PV.top, PV.top, PV.top, PV.top, PV.top, PV.top, PV.top, PV.top, PV.top, PV.top, PV.top, PV.top, PV.top,
                  PV.top, PV.top, PV.top, PV.top, PV.top, PV.top, PV.top, PV.top],
                Store.mk
                  [[PV.int IntKind.i64 k, PV.int IntKind.i64 n, PV.str s], [PV.int IntKind.i64 k', PV.int IntKind.i64 n', PV.str s'],
                    [PV.bool false, PV.bool (holdsB 1 (compareV k n s k' n' s')), PV.bool (holdsB 2 (compareV k n s k' n' s')), PV.bool (holdsB 3 (compareV k n s k' n' s')),
                      PV.bool (holdsB 4 (compareV k n s k' n' s')), PV.bool false, PV.bool false]]
                  [] [24, 24, 53]))
            (Tr.ite (iEq 4 3)
              (Tr.ret
                (PExit.normal, [42, 41, 38, 34, 31, 26, 15],
                  [PV.top, PV.top, PV.ptr 0 0, PV.ptr 1 0, PV.top, PV.ptr 2 0, PV.int IntKind.i64 (iAdd IntKind.i64 m 1), PV.int IntKind.i64 (iAdd IntKind.i64 4 1),
                    PV.bool (holdsB 4 (compareV k n s k' n' s')), PV.int IntKind.i64 (holdsE 4), PV.top, PV.top, PV.top, PV.top, PV.int IntKind.i64 4, PV.bool true, PV.int IntKind.i64 4,
                    PV.int IntKind.i64 (iAdd IntKind.i64 4 1), PV.tup [PV.bool (holdsB 4 (compareV k n s k' n' s')), PV.int IntKind.i64 (holdsE 4)], PV.int IntKind.i64 4,
                    PV.agg [PV.int IntKind.i64 k, PV.int IntKind.i64 n, PV.str s], PV.agg [PV.int IntKind.i64 k', PV.int IntKind.i64 n', PV.str s'],
                    PV.tup [PV.bool (holdsB 4 (compareV k n s k' n' s')), PV.int IntKind.i64 (holdsE 4)], PV.bool (holdsB 4 (compareV k n s k' n' s')), PV.int IntKind.i64 (holdsE 4),
                    PV.int IntKind.i64 (holdsE 4), PV.bool false, PV.int IntKind.i64 4, PV.bool (holdsB 4 (compareV k n s k' n' s')), PV.ptr 2 4, PV.bool (holdsB 4 (compareV k n s k' n' s')),
                    PV.bool true, PV.int IntKind.i64 4, PV.bool (iEq 4 1), PV.bool false, PV.int IntKind.i64 4, PV.bool (iEq 4 3), PV.bool (iEq 4 3), PV.bool true, PV.tup [], PV.tup [], PV.bool true,
                    PV.bool true, PV.int IntKind.i64 m, PV.int IntKind.i64 (iAdd IntKind.i64 m 1), PV.top, PV.top, PV.top, PV.top, PV.top, PV.top, PV.top, PV.top, PV.top, PV.top, PV.top, PV.top, PV.top,
                    PV.top, PV.top, PV.top, PV.top, PV.top, PV.top, PV.top, PV.top, PV.top, PV.top, PV.top, PV.top, PV.top],
                  Store.mk
                    [[PV.int IntKind.i64 k, PV.int IntKind.i64 n, PV.str s], [PV.int IntKind.i64 k', PV.int IntKind.i64 n', PV.str s'],
                      [PV.bool false, PV.bool (holdsB 1 (compareV k n s k' n' s')), PV.bool (holdsB 2 (compareV k n s k' n' s')), PV.bool (holdsB 3 (compareV k n s k' n' s')),
                        PV.bool (holdsB 4 (compareV k n s k' n' s')), PV.bool false, PV.bool false]]
                    [] [24, 24, 53]))
              (Tr.ite (iEq 4 5)
                (Tr.ret
                  (PExit.normal, [42, 38, 34, 31, 26, 15],
                    [PV.top, PV.top, PV.ptr 0 0, PV.ptr 1 0, PV.top, PV.ptr 2 0, PV.int IntKind.i64 (iAdd IntKind.i64 m 1), PV.int IntKind.i64 (iAdd IntKind.i64 4 1),
                      PV.bool (holdsB 4 (compareV k n s k' n' s')), PV.int IntKind.i64 (holdsE 4), PV.top, PV.top, PV.top, PV.top, PV.int IntKind.i64 4, PV.bool true, PV.int IntKind.i64 4,
                      PV.int IntKind.i64 (iAdd IntKind.i64 4 1), PV.tup [PV.bool (holdsB 4 (compareV k n s k' n' s')), PV.int IntKind.i64 (holdsE 4)], PV.int IntKind.i64 4,
                      PV.agg [PV.int IntKind.i64 k, PV.int IntKind.i64 n, PV.str s], PV.agg [PV.int IntKind.i64 k', PV.int IntKind.i64 n', PV.str s'],
                      PV.tup [PV.bool (holdsB 4 (compareV k n s k' n' s')), PV.int IntKind.i64 (holdsE 4)], PV.bool (holdsB 4 (compareV k n s k' n' s')), PV.int IntKind.i64 (holdsE 4),
                      PV.int IntKind.i64 (holdsE 4), PV.bool false, PV.int IntKind.i64 4, PV.bool (holdsB 4 (compareV k n s k' n' s')), PV.ptr 2 4, PV.bool (holdsB 4 (compareV k n s k' n' s')),
                      PV.bool true, PV.int IntKind.i64 4, PV.bool (iEq 4 1), PV.bool false, PV.int IntKind.i64 4, PV.bool (iEq 4 3), PV.bool (iEq 4 3), PV.bool false, PV.int IntKind.i64 4,
                      PV.bool (iEq 4 5), PV.bool (iEq 4 5), PV.bool true, PV.int IntKind.i64 m, PV.int IntKind.i64 (iAdd IntKind.i64 m 1), PV.top, PV.top, PV.top, PV.top, PV.top, PV.top, PV.top, PV.top,
                      PV.top, PV.top, PV.top, PV.top, PV.top, PV.top, PV.top, PV.top, PV.top, PV.top, PV.top, PV.top, PV.top, PV.top, PV.top, PV.top, PV.top, PV.top],
                    Store.mk
                      [[PV.int IntKind.i64 k, PV.int IntKind.i64 n, PV.str s], [PV.int IntKind.i64 k', PV.int IntKind.i64 n', PV.str s'],
                        [PV.bool false, PV.bool (holdsB 1 (compareV k n s k' n' s')), PV.bool (holdsB 2 (compareV k n s k' n' s')), PV.bool (holdsB 3 (compareV k n s k' n' s')),
                          PV.bool (holdsB 4 (compareV k n s k' n' s')), PV.bool false, PV.bool false]]
                      [] [24, 24, 53]))
                (Tr.ret
                  (PExit.normal, [42, 38, 34, 31, 26, 15],
                    [PV.top, PV.top, PV.ptr 0 0, PV.ptr 1 0, PV.top, PV.ptr 2 0, PV.int IntKind.i64 m, PV.int IntKind.i64 (iAdd IntKind.i64 4 1), PV.bool (holdsB 4 (compareV k n s k' n' s')),
                      PV.int IntKind.i64 (holdsE 4), PV.top, PV.top, PV.top, PV.top, PV.int IntKind.i64 4, PV.bool true, PV.int IntKind.i64 4, PV.int IntKind.i64 (iAdd IntKind.i64 4 1),
                      PV.tup [PV.bool (holdsB 4 (compareV k n s k' n' s')), PV.int IntKind.i64 (holdsE 4)], PV.int IntKind.i64 4, PV.agg [PV.int IntKind.i64 k, PV.int IntKind.i64 n, PV.str s],
                      PV.agg [PV.int IntKind.i64 k', PV.int IntKind.i64 n', PV.str s'], PV.tup [PV.bool (holdsB 4 (compareV k n s k' n' s')), PV.int IntKind.i64 (holdsE 4)],
                      PV.bool (holdsB 4 (compareV k n s k' n' s')), PV.int IntKind.i64 (holdsE 4), PV.int IntKind.i64 (holdsE 4), PV.bool false, PV.int IntKind.i64 4,
                      PV.bool (holdsB 4 (compareV k n s k' n' s')), PV.ptr 2 4, PV.bool (holdsB 4 (compareV k n s k' n' s')), PV.bool true, PV.int IntKind.i64 4, PV.bool (iEq 4 1), PV.bool false,
                      PV.int IntKind.i64 4, PV.bool (iEq 4 3), PV.bool (iEq 4 3), PV.bool false, PV.int IntKind.i64 4, PV.bool (iEq 4 5), PV.bool (iEq 4 5), PV.bool false, PV.top, PV.top, PV.top, PV.top,
                      PV.top, PV.top, PV.top, PV.top, PV.top, PV.top, PV.top, PV.top, PV.top, PV.top, PV.top, PV.top, PV.top, PV.top, PV.top, PV.top, PV.top, PV.top, PV.top, PV.top, PV.top, PV.top,
                      PV.top, PV.top],
                    Store.mk
                      [[PV.int IntKind.i64 k, PV.int IntKind.i64 n, PV.str s], [PV.int IntKind.i64 k', PV.int IntKind.i64 n', PV.str s'],
                        [PV.bool false, PV.bool (holdsB 1 (compareV k n s k' n' s')), PV.bool (holdsB 2 (compareV k n s k' n' s')), PV.bool (holdsB 3 (compareV k n s k' n' s')),
                          PV.bool (holdsB 4 (compareV k n s k' n' s')), PV.bool false, PV.bool false]]
                      [] [24, 24, 53])))))
          (Tr.ret
            (PExit.normal, [42, 31, 26, 15],
              [PV.top, PV.top, PV.ptr 0 0, PV.ptr 1 0, PV.top, PV.ptr 2 0, PV.int IntKind.i64 m, PV.int IntKind.i64 (iAdd IntKind.i64 4 1), PV.bool (holdsB 4 (compareV k n s k' n' s')),
                PV.int IntKind.i64 (holdsE 4), PV.top, PV.top, PV.top, PV.top, PV.int IntKind.i64 4, PV.bool true, PV.int IntKind.i64 4, PV.int IntKind.i64 (iAdd IntKind.i64 4 1),
                PV.tup [PV.bool (holdsB 4 (compareV k n s k' n' s')), PV.int IntKind.i64 (holdsE 4)], PV.int IntKind.i64 4, PV.agg [PV.int IntKind.i64 k, PV.int IntKind.i64 n, PV.str s],
                PV.agg [PV.int IntKind.i64 k', PV.int IntKind.i64 n', PV.str s'], PV.tup [PV.bool (holdsB 4 (compareV k n s k' n' s')), PV.int IntKind.i64 (holdsE 4)],
                PV.bool (holdsB 4 (compareV k n s k' n' s')), PV.int IntKind.i64 (holdsE 4), PV.int IntKind.i64 (holdsE 4), PV.bool false, PV.int IntKind.i64 4,
                PV.bool (holdsB 4 (compareV k n s k' n' s')), PV.ptr 2 4, PV.bool (holdsB 4 (compareV k n s k' n' s')), PV.bool false, PV.tup [], PV.tup [], PV.tup [], PV.tup [], PV.tup [], PV.tup [],
                PV.tup [], PV.tup [], PV.tup [], PV.tup [], PV.bool false, PV.top, PV.top, PV.top, PV.top, PV.top, PV.top, PV.top, PV.top, PV.top, PV.top, PV.top, PV.top, PV.top, PV.top, PV.top, PV.top,
                PV.top, PV.top, PV.top, PV.top, PV.top, PV.top, PV.top, PV.top, PV.top, PV.top, PV.top, PV.top],
              Store.mk
                [[PV.int IntKind.i64 k, PV.int IntKind.i64 n, PV.str s], [PV.int IntKind.i64 k', PV.int IntKind.i64 n', PV.str s'],
                  [PV.bool false, PV.bool (holdsB 1 (compareV k n s k' n' s')), PV.bool (holdsB 2 (compareV k n s k' n' s')), PV.bool (holdsB 3 (compareV k n s k' n' s')),
                    PV.bool (holdsB 4 (compareV k n s k' n' s')), PV.bool false, PV.bool false]]
                [] [24, 24, 53]))))
      (Tr.ret
        (PExit.exit 0, [15],
          [PV.top, PV.top, PV.ptr 0 0, PV.ptr 1 0, PV.top, PV.ptr 2 0, PV.int IntKind.i64 m, PV.int IntKind.i64 4, PV.top, PV.top, PV.top, PV.top, PV.top, PV.top, PV.int IntKind.i64 4, PV.bool false,
            PV.top, PV.top, PV.top, PV.top, PV.top, PV.top, PV.top, PV.top, PV.top, PV.top, PV.top, PV.top, PV.top, PV.top, PV.top, PV.top, PV.top, PV.top, PV.top, PV.top, PV.top, PV.top, PV.top, PV.top,
            PV.top, PV.top, PV.top, PV.top, PV.top, PV.top, PV.top, PV.top, PV.top, PV.top, PV.top, PV.top, PV.top, PV.top, PV.top, PV.top, PV.top, PV.top, PV.top, PV.top, PV.top, PV.top, PV.top, PV.top,
            PV.top, PV.top, PV.top, PV.top, PV.top, PV.top, PV.top],
          Store.mk
            [[PV.int IntKind.i64 k, PV.int IntKind.i64 n, PV.str s], [PV.int IntKind.i64 k', PV.int IntKind.i64 n', PV.str s'],
              [PV.bool false, PV.bool (holdsB 1 (compareV k n s k' n' s')), PV.bool (holdsB 2 (compareV k n s k' n' s')), PV.bool (holdsB 3 (compareV k n s k' n' s')), PV.bool false, PV.bool false,
                PV.bool false]]
            [] [24, 24, 53]))) (by kernel_rfl) ?_
  have he : iNe (holdsE 4) 0 = false := by decide
  have w1 : iAdd .i64 m 1 = m + 1 := wrap_i64 (by omega)
  have w2 : iAdd .i64 4 1 = 5 := by decide
  refine Tr.all_t (by simp) <| Tr.all_f he ?_
  cases hb : holdsB 4 (compareV k n s k' n' s') with
  | true =>
    rw [hb] at h
    refine Tr.all_t rfl <| Tr.all_f (by simp) <| Tr.all_f (by simp) <| Tr.all_f (by simp) <| ?_
    refine LDoes.into ?_ h
    simp [Weak, mk, mkFrom, look, w1, w2]
  | false =>
    rw [hb] at h
    refine Tr.all_f rfl ?_
    refine LDoes.into ?_ h
    simp [Weak, mk, mkFrom, look, w1, w2]
theorem three3 (m : Int) (hm : 0 ≤ m ∧ m ≤ 6) {e : PExit} {out : List PV} {σ' : Store} (h : LDoes Tryd.prog gl c_Three (mk 71 ([2, 3, 5, 6, 7].zip [.ptr 0 0, .ptr 1 0, .ptr 2 0, .int .i64 (if holdsB 3 (compareV k n s k' n' s') = true then m + 1 else m), .int .i64 4])) ⟨[[.int .i64 k, .int .i64 n, .str s], [.int .i64 k', .int .i64 n', .str s'], [.bool false, .bool (holdsB 1 (compareV k n s k' n' s')), .bool (holdsB 2 (compareV k n s k' n' s')), .bool (holdsB 3 (compareV k n s k' n' s')), .bool false, .bool false, .bool false]], [], [24, 24, 53]⟩ e out σ') :
    LDoes Tryd.prog gl c_Three (mk 71 ([2, 3, 5, 6, 7].zip [.ptr 0 0, .ptr 1 0, .ptr 2 0, .int .i64 m, .int .i64 3])) ⟨[[.int .i64 k, .int .i64 n, .str s], [.int .i64 k', .int .i64 n', .str s'], [.bool false, .bool (holdsB 1 (compareV k n s k' n' s')), .bool (holdsB 2 (compareV k n s k' n' s')), .bool false, .bool false, .bool false, .bool false]], [], [24, 24, 53]⟩ e out σ' := by
  have hG : GamOk Tryd.prog gl (gam (ofL [(22, .pure F_Holds)])) := gamOk_cons (sim_Holds gl) gamOk_nil
  refine LDoes.round tbT_ok hG noMixed (L := fun _ _ _ => .fail) (loopOk_none (by kernel_rfl)) (by kernel_rfl) ?_
  refine Tr.all_as (Tr.ite (iLe 3 6)
      (Tr.ite (iNe (holdsE 3) 0)
        (Tr.ret
          (PExit.ret, [4, 26, 15],
            [PV.top, PV.top, PV.ptr 0 0, PV.ptr 1 0, PV.bool false, PV.ptr 2 0, PV.int IntKind.i64 m, PV.int IntKind.i64 3, PV.bool (holdsB 3 (compareV k n s k' n' s')), PV.int IntKind.i64 (holdsE 3),
              PV.top, PV.top, PV.top, PV.top, PV.int IntKind.i64 3, PV.bool true, PV.top, PV.top, PV.tup [PV.bool (holdsB 3 (compareV k n s k' n' s')), PV.int IntKind.i64 (holdsE 3)],
              PV.int IntKind.i64 3, PV.agg [PV.int IntKind.i64 k, PV.int IntKind.i64 n, PV.str s], PV.agg [PV.int IntKind.i64 k', PV.int IntKind.i64 n', PV.str s'],
              PV.tup [PV.bool (holdsB 3 (compareV k n s k' n' s')), PV.int IntKind.i64 (holdsE 3)], PV.bool (holdsB 3 (compareV k n s k' n' s')), PV.int IntKind.i64 (holdsE 3),
              PV.int IntKind.i64 (holdsE 3), PV.bool true, PV.top, PV.top, PV.top, PV.top, PV.top, PV.top, PV.top, PV.top, PV.top, PV.top, PV.top, PV.top, PV.top, PV.top, PV.top, PV.top, PV.top, PV.top,
              PV.top, PV.top, PV.top, PV.top, PV.top, PV.top, PV.top, PV.top, PV.top, PV.top, PV.top, PV.top, PV.top, PV.top, PV.top, PV.top, PV.top, PV.top, PV.top, PV.top, PV.top, PV.top, PV.top,
              PV.top, PV.top, PV.top],
            Store.mk
              [[PV.int IntKind.i64 k, PV.int IntKind.i64 n, PV.str s], [PV.int IntKind.i64 k', PV.int IntKind.i64 n', PV.str s'],
                [PV.bool false, PV.bool (holdsB 1 (compareV k n s k' n' s')), PV.bool (holdsB 2 (compareV k n s k' n' s')), PV.bool false, PV.bool false, PV.bool false, PV.bool false]]
              [] [24, 24, 53]))
        (Tr.ite (holdsB 3 (compareV k n s k' n' s'))
          (Tr.ite (iEq 3 1)
            (Tr.ret
              (PExit.normal, [42, 41, 38, 37, 34, 31, 26, 15],
                [PV.top, PV.top, PV.ptr 0 0, PV.ptr 1 0, PV.top, PV.ptr 2 0, PV.int IntKind.i64 (iAdd IntKind.i64 m 1), PV.int IntKind.i64 (iAdd IntKind.i64 3 1),
                  PV.bool (holdsB 3 (compareV k n s k' n' s')), PV.int IntKind.i64 (holdsE 3), PV.top, PV.top, PV.top, PV.top, PV.int IntKind.i64 3, PV.bool true, PV.int IntKind.i64 3,
                  PV.int IntKind.i64 (iAdd IntKind.i64 3 1), PV.tup [PV.bool (holdsB 3 (compareV k n s k' n' s')), PV.int IntKind.i64 (holdsE 3)], PV.int IntKind.i64 3,
                  PV.agg [PV.int IntKind.i64 k, PV.int IntKind.i64 n, PV.str s], PV.agg [PV.int IntKind.i64 k', PV.int IntKind.i64 n', PV.str s'],
                  PV.tup [PV.bool (holdsB 3 (compareV k n s k' n' s')), PV.int IntKind.i64 (holdsE 3)], PV.bool (holdsB 3 (compareV k n s k' n' s')), PV.int IntKind.i64 (holdsE 3),
                  PV.int IntKind.i64 (holdsE 3), PV.bool false, PV.int IntKind.i64 3, PV.bool (holdsB 3 (compareV k n s k' n' s')), PV.ptr 2 3, PV.bool (holdsB 3 (compareV k n s k' n' s')), PV.bool true,
                  PV.int IntKind.i64 3, PV.bool (iEq 3 1), PV.bool true, PV.tup [], PV.tup [], PV.bool true, PV.bool true, PV.tup [], PV.tup [], PV.bool true, PV.bool true, PV.int IntKind.i64 m,
                  PV.int IntKind.i64 (iAdd IntKind.i64 m 1), PV.top, PV.top, PV.top, PV.top, PV.top, PV.top, PV.top, PV.top, PV.top, PV.top, PV.top, PV.top, PV.top, PV.top, PV.top, PV.top, PV.top, PV.top,
                  PV.top, PV.top, PV.top, PV.top, PV.top, PV.top, PV.top, PV.top],
                Store.mk
                  [[PV.int IntKind.i64 k, PV.int IntKind.i64 n, PV.str s], [PV.int IntKind.i64 k', PV.int IntKind.i64 n', PV.str s'],
                    [PV.bool false, PV.bool (holdsB 1 (compareV k n s k' n' s')), PV.bool (holdsB 2 (compareV k n s k' n' s')), PV.bool (holdsB 3 (compareV k n s k' n' s')), PV.bool false, PV.bool false,
                      PV.bool false]]
                  [] [24, 24, 53]))
            (Tr.ite (iEq 3 3)
              (Tr.ret
                (PExit.normal, [42, 41, 38, 34, 31, 26, 15],
                  [PV.top, PV.top, PV.ptr 0 0, PV.ptr 1 0, PV.top, PV.ptr 2 0, PV.int IntKind.i64 (iAdd IntKind.i64 m 1), PV.int IntKind.i64 (iAdd IntKind.i64 3 1),
                    PV.bool (holdsB 3 (compareV k n s k' n' s')), PV.int IntKind.i64 (holdsE 3), PV.top, PV.top, PV.top, PV.top, PV.int IntKind.i64 3, PV.bool true, PV.int IntKind.i64 3,
                    PV.int IntKind.i64 (iAdd IntKind.i64 3 1), PV.tup [PV.bool (holdsB 3 (compareV k n s k' n' s')), PV.int IntKind.i64 (holdsE 3)], PV.int IntKind.i64 3,
                    PV.agg [PV.int IntKind.i64 k, PV.int IntKind.i64 n, PV.str s], PV.agg [PV.int IntKind.i64 k', PV.int IntKind.i64 n', PV.str s'],
                    PV.tup [PV.bool (holdsB 3 (compareV k n s k' n' s')), PV.int IntKind.i64 (holdsE 3)], PV.bool (holdsB 3 (compareV k n s k' n' s')), PV.int IntKind.i64 (holdsE 3),
                    PV.int IntKind.i64 (holdsE 3), PV.bool false, PV.int IntKind.i64 3, PV.bool (holdsB 3 (compareV k n s k' n' s')), PV.ptr 2 3, PV.bool (holdsB 3 (compareV k n s k' n' s')),
                    PV.bool true, PV.int IntKind.i64 3, PV.bool (iEq 3 1), PV.bool false, PV.int IntKind.i64 3, PV.bool (iEq 3 3), PV.bool (iEq 3 3), PV.bool true, PV.tup [], PV.tup [], PV.bool true,
                    PV.bool true, PV.int IntKind.i64 m, PV.int IntKind.i64 (iAdd IntKind.i64 m 1), PV.top, PV.top, PV.top, PV.top, PV.top, PV.top, PV.top, PV.top, PV.top, PV.top, PV.top, PV.top, PV.top,
                    PV.top, PV.top, PV.top, PV.top, PV.top, PV.top, PV.top, PV.top, PV.top, PV.top, PV.top, PV.top, PV.top],
                  Store.mk
                    [[PV.int IntKind.i64 k, PV.int IntKind.i64 n, PV.str s], [PV.int IntKind.i64 k', PV.int IntKind.i64 n', PV.str s'],
                      [PV.bool false, PV.bool (holdsB 1 (compareV k n s k' n' s')), PV.bool (holdsB 2 (compareV k n s k' n' s')), PV.bool (holdsB 3 (compareV k n s k' n' s')), PV.bool false,
                        PV.bool false, PV.bool false]]
                    [] [24, 24, 53]))
              (Tr.ite (iEq 3 5)
                (Tr.ret
                  (PExit.normal, [42, 38, 34, 31, 26, 15],
                    [PV.top, PV.top, PV.ptr 0 0, PV.ptr 1 0, PV.top, PV.ptr 2 0, PV.int IntKind.i64 (iAdd IntKind.i64 m 1), PV.int IntKind.i64 (iAdd IntKind.i64 3 1),
                      PV.bool (holdsB 3 (compareV k n s k' n' s')), PV.int IntKind.i64 (holdsE 3), PV.top, PV.top, PV.top, PV.top, PV.int IntKind.i64 3, PV.bool true, PV.int IntKind.i64 3,
                      PV.int IntKind.i64 (iAdd IntKind.i64 3 1), PV.tup [PV.bool (holdsB 3 (compareV k n s k' n' s')), PV.int IntKind.i64 (holdsE 3)], PV.int IntKind.i64 3,
                      PV.agg [PV.int IntKind.i64 k, PV.int IntKind.i64 n, PV.str s], PV.agg [PV.int IntKind.i64 k', PV.int IntKind.i64 n', PV.str s'],
                      PV.tup [PV.bool (holdsB 3 (compareV k n s k' n' s')), PV.int IntKind.i64 (holdsE 3)], PV.bool (holdsB 3 (compareV k n s k' n' s')), PV.int IntKind.i64 (holdsE 3),
                      PV.int IntKind.i64 (holdsE 3), PV.bool false, PV.int IntKind.i64 3, PV.bool (holdsB 3 (compareV k n s k' n' s')), PV.ptr 2 3, PV.bool (holdsB 3 (compareV k n s k' n' s')),
                      PV.bool true, PV.int IntKind.i64 3, PV.bool (iEq 3 1), PV.bool false, PV.int IntKind.i64 3, PV.bool (iEq 3 3), PV.bool (iEq 3 3), PV.bool false, PV.int IntKind.i64 3,
                      PV.bool (iEq 3 5), PV.bool (iEq 3 5), PV.bool true, PV.int IntKind.i64 m, PV.int IntKind.i64 (iAdd IntKind.i64 m 1), PV.top, PV.top, PV.top, PV.top, PV.top, PV.top, PV.top, PV.top,
                      PV.top, PV.top, PV.top, PV.top, PV.top, PV.top, PV.top, PV.top, PV.top, PV.top, PV.top, PV.top, PV.top, PV.top, PV.top, PV.top, PV.top, PV.top],
                    Store.mk
                      [[PV.int IntKind.i64 k, PV.int IntKind.i64 n, PV.str s], [PV.int IntKind.i64 k', PV.int IntKind.i64 n', PV.str s'],
                        [PV.bool false, PV.bool (holdsB 1 (compareV k n s k' n' s')), PV.bool (holdsB 2 (compareV k n s k' n' s')), PV.bool (holdsB 3 (compareV k n s k' n' s')), PV.bool false,
                          PV.bool false, PV.bool false]]
                      [] [24, 24, 53]))
                (Tr.ret
                  (PExit.normal, [42, 38, 34, 31, 26, 15],
                    [PV.top, PV.top, PV.ptr 0 0, PV.ptr 1 0, PV.top, PV.ptr 2 0, PV.int IntKind.i64 m, PV.int IntKind.i64 (iAdd IntKind.i64 3 1), PV.bool (holdsB 3 (compareV k n s k' n' s')),
                      PV.int IntKind.i64 (holdsE 3), PV.top, PV.top, PV.top, PV.top, PV.int IntKind.i64 3, PV.bool true, PV.int IntKind.i64 3, PV.int IntKind.i64 (iAdd IntKind.i64 3 1),
                      PV.tup [PV.bool (holdsB 3 (compareV k n s k' n' s')), PV.int IntKind.i64 (holdsE 3)], PV.int IntKind.i64 3, PV.agg [PV.int IntKind.i64 k, PV.int IntKind.i64 n, PV.str s],
                      PV.agg [PV.int IntKind.i64 k', PV.int IntKind.i64 n', PV.str s'], PV.tup [PV.bool (holdsB 3 (compareV k n s k' n' s')), PV.int IntKind.i64 (holdsE 3)],
                      PV.bool (holdsB 3 (compareV k n s k' n' s')), PV.int IntKind.i64 (holdsE 3), PV.int IntKind.i64 (holdsE 3), PV.bool false, PV.int IntKind.i64 3,
                      PV.bool (holdsB 3 (compareV k n s k' n' s')), PV.ptr 2 3, PV.bool (holdsB 3 (compareV k n s k' n' s')), PV.bool true, PV.int IntKind.i64 3, PV.bool (iEq 3 1), PV.bool false,
                      PV.int IntKind.i64 3, PV.bool (iEq 3 3), PV.bool (iEq 3 3), PV.bool false, PV.int IntKind.i64 3, PV.bool (iEq 3 5), PV.bool (iEq 3 5), PV.bool false, PV.top, PV.top, PV.top, PV.top,
                      PV.top, PV.top, PV.top, PV.top, PV.top, PV.top, PV.top, PV.top, PV.top, PV.top, PV.top, PV.top, PV.top, PV.top, PV.top, PV.top, PV.top, PV.top, PV.top, PV.top, PV.top, PV.top,
                      PV.top, PV.top],
                    Store.mk
                      [[PV.int IntKind.i64 k, PV.int IntKind.i64 n, PV.str s], [PV.int IntKind.i64 k', PV.int IntKind.i64 n', PV.str s'],
                        [PV.bool false, PV.bool (holdsB 1 (compareV k n s k' n' s')), PV.bool (holdsB 2 (compareV k n s k' n' s')), PV.bool (holdsB 3 (compareV k n s k' n' s')), PV.bool false,
                          PV.bool false, PV.bool false]]
                      [] [24, 24, 53])))))
          (Tr.ret
            (PExit.normal, [42, 31, 26, 15],
              [PV.top, PV.top, PV.ptr 0 0, PV.ptr 1 0, PV.top, PV.ptr 2 0, PV.int IntKind.i64 m, PV.int IntKind.i64 (iAdd IntKind.i64 3 1), PV.bool (holdsB 3 (compareV k n s k' n' s')),
                PV.int IntKind.i64 (holdsE 3), PV.top, PV.top, PV.top, PV.top, PV.int IntKind.i64 3, PV.bool true, PV.int IntKind.i64 3, PV.int IntKind.i64 (iAdd IntKind.i64 3 1),
                PV.tup [PV.bool (holdsB 3 (compareV k n s k' n' s')), PV.int IntKind.i64 (holdsE 3)], PV.int IntKind.i64 3, PV.agg [PV.int IntKind.i64 k, PV.int IntKind.i64 n, PV.str s],
                PV.agg [PV.int IntKind.i64 k', PV.int IntKind.i64 n', PV.str s'], PV.tup [PV.bool (holdsB 3 (compareV k n s k' n' s')), PV.int IntKind.i64 (holdsE 3)],
                PV.bool (holdsB 3 (compareV k n s k' n' s')), PV.int IntKind.i64 (holdsE 3), PV.int IntKind.i64 (holdsE 3), PV.bool false, PV.int IntKind.i64 3,
                PV.bool (holdsB 3 (compareV k n s k' n' s')), PV.ptr 2 3, PV.bool (holdsB 3 (compareV k n s k' n' s')), PV.bool false, PV.tup [], PV.tup [], PV.tup [], PV.tup [], PV.tup [], PV.tup [],
                PV.tup [], PV.tup [], PV.tup [], PV.tup [], PV.bool false, PV.top, PV.top, PV.top, PV.top, PV.top, PV.top, PV.top, PV.top, PV.top, PV.top, PV.top, PV.top, PV.top, PV.top, PV.top, PV.top,
                PV.top, PV.top, PV.top, PV.top, PV.top, PV.top, PV.top, PV.top, PV.top, PV.top, PV.top, PV.top],
              Store.mk
                [[PV.int IntKind.i64 k, PV.int IntKind.i64 n, PV.str s], [PV.int IntKind.i64 k', PV.int IntKind.i64 n', PV.str s'],
                  [PV.bool false, PV.bool (holdsB 1 (compareV k n s k' n' s')), PV.bool (holdsB 2 (compareV k n s k' n' s')), PV.bool (holdsB 3 (compareV k n s k' n' s')), PV.bool false, PV.bool false,
                    PV.bool false]]
                [] [24, 24, 53]))))
      (Tr.ret
        (PExit.exit 0, [15],
          [PV.top, PV.top, PV.ptr 0 0, PV.ptr 1 0, PV.top, PV.ptr 2 0, PV.int IntKind.i64 m, PV.int IntKind.i64 3, PV.top, PV.top, PV.top, PV.top, PV.top, PV.top, PV.int IntKind.i64 3, PV.bool false,
            PV.top, PV.top, PV.top, PV.top, PV.top, PV.top, PV.top, PV.top, PV.top, PV.top, PV.top, PV.top, PV.top, PV.top, PV.top, PV.top, PV.top, PV.top, PV.top, PV.top, PV.top, PV.top, PV.top, PV.top,
            PV.top, PV.top, PV.top, PV.top, PV.top, PV.top, PV.top, PV.top, PV.top, PV.top, PV.top, PV.top, PV.top, PV.top, PV.top, PV.top, PV.top, PV.top, PV.top, PV.top, PV.top, PV.top, PV.top, PV.top,
            PV.top, PV.top, PV.top, PV.top, PV.top, PV.top, PV.top],
          Store.mk
            [[PV.int IntKind.i64 k, PV.int IntKind.i64 n, PV.str s], [PV.int IntKind.i64 k', PV.int IntKind.i64 n', PV.str s'],
              [PV.bool false, PV.bool (holdsB 1 (compareV k n s k' n' s')), PV.bool (holdsB 2 (compareV k n s k' n' s')), PV.bool false, PV.bool false, PV.bool false, PV.bool false]]
            [] [24, 24, 53]))) (by kernel_rfl) ?_
  have he : iNe (holdsE 3) 0 = false := by decide
  have w1 : iAdd .i64 m 1 = m + 1 := wrap_i64 (by omega)
  have w2 : iAdd .i64 3 1 = 4 := by decide
  refine Tr.all_t (by simp) <| Tr.all_f he ?_
  cases hb : holdsB 3 (compareV k n s k' n' s') with
  | true =>
    rw [hb] at h
    refine Tr.all_t rfl <| Tr.all_f (by simp) <| Tr.all_t (by simp) <| ?_
    refine LDoes.into ?_ h
    simp [Weak, mk, mkFrom, look, w1, w2]
  | false =>
    rw [hb] at h
    refine Tr.all_f rfl ?_
    refine LDoes.into ?_ h
    simp [Weak, mk, mkFrom, look, w1, w2]
theorem three2 (m : Int) (hm : 0 ≤ m ∧ m ≤ 6) {e : PExit} {out : List PV} {σ' : Store} (h : LDoes Tryd.prog gl c_Three (mk 71 ([2, 3, 5, 6, 7].zip [.ptr 0 0, .ptr 1 0, .ptr 2 0, .int .i64 m, .int .i64 3])) ⟨[[.int .i64 k, .int .i64 n, .str s], [.int .i64 k', .int .i64 n', .str s'], [.bool false, .bool (holdsB 1 (compareV k n s k' n' s')), .bool (holdsB 2 (compareV k n s k' n' s')), .bool false, .bool false, .bool false, .bool false]], [], [24, 24, 53]⟩ e out σ') :
    LDoes Tryd.prog gl c_Three (mk 71 ([2, 3, 5, 6, 7].zip [.ptr 0 0, .ptr 1 0, .ptr 2 0, .int .i64 m, .int .i64 2])) ⟨[[.int .i64 k, .int .i64 n, .str s], [.int .i64 k', .int .i64 n', .str s'], [.bool false, .bool (holdsB 1 (compareV k n s k' n' s')), .bool false, .bool false, .bool false, .bool false, .bool false]], [], [24, 24, 53]⟩ e out σ' := by
  have hG : GamOk Tryd.prog gl (gam (ofL [(22, .pure F_Holds)])) := gamOk_cons (sim_Holds gl) gamOk_nil
  refine LDoes.round tbT_ok hG noMixed (L := fun _ _ _ => .fail) (loopOk_none (by kernel_rfl)) (by kernel_rfl) ?_
  refine Tr.all_as (Tr.ite (iLe 2 6)
      (Tr.ite (iNe (holdsE 2) 0)
        (Tr.ret
          (PExit.ret, [4, 26, 15],
            [PV.top, PV.top, PV.ptr 0 0, PV.ptr 1 0, PV.bool false, PV.ptr 2 0, PV.int IntKind.i64 m, PV.int IntKind.i64 2, PV.bool (holdsB 2 (compareV k n s k' n' s')), PV.int IntKind.i64 (holdsE 2),
              PV.top, PV.top, PV.top, PV.top, PV.int IntKind.i64 2, PV.bool true, PV.top, PV.top, PV.tup [PV.bool (holdsB 2 (compareV k n s k' n' s')), PV.int IntKind.i64 (holdsE 2)],
              PV.int IntKind.i64 2, PV.agg [PV.int IntKind.i64 k, PV.int IntKind.i64 n, PV.str s], PV.agg [PV.int IntKind.i64 k', PV.int IntKind.i64 n', PV.str s'],
              PV.tup [PV.bool (holdsB 2 (compareV k n s k' n' s')), PV.int IntKind.i64 (holdsE 2)], PV.bool (holdsB 2 (compareV k n s k' n' s')), PV.int IntKind.i64 (holdsE 2),
              PV.int IntKind.i64 (holdsE 2), PV.bool true, PV.top, PV.top, PV.top, PV.top, PV.top, PV.top, PV.top, PV.top, PV.top, PV.top, PV.top, PV.top, PV.top, PV.top, PV.top, PV.top, PV.top, PV.top,
              PV.top, PV.top, PV.top, PV.top, PV.top, PV.top, PV.top, PV.top, PV.top, PV.top, PV.top, PV.top, PV.top, PV.top, PV.top, PV.top, PV.top, PV.top, PV.top, PV.top, PV.top, PV.top, PV.top,
              PV.top, PV.top, PV.top],
            Store.mk
              [[PV.int IntKind.i64 k, PV.int IntKind.i64 n, PV.str s], [PV.int IntKind.i64 k', PV.int IntKind.i64 n', PV.str s'],
                [PV.bool false, PV.bool (holdsB 1 (compareV k n s k' n' s')), PV.bool false, PV.bool false, PV.bool false, PV.bool false, PV.bool false]]
              [] [24, 24, 53]))
        (Tr.ite (holdsB 2 (compareV k n s k' n' s'))
          (Tr.ite (iEq 2 1)
            (Tr.ret
              (PExit.normal, [42, 41, 38, 37, 34, 31, 26, 15],
                [PV.top, PV.top, PV.ptr 0 0, PV.ptr 1 0, PV.top, PV.ptr 2 0, PV.int IntKind.i64 (iAdd IntKind.i64 m 1), PV.int IntKind.i64 (iAdd IntKind.i64 2 1),
                  PV.bool (holdsB 2 (compareV k n s k' n' s')), PV.int IntKind.i64 (holdsE 2), PV.top, PV.top, PV.top, PV.top, PV.int IntKind.i64 2, PV.bool true, PV.int IntKind.i64 2,
                  PV.int IntKind.i64 (iAdd IntKind.i64 2 1), PV.tup [PV.bool (holdsB 2 (compareV k n s k' n' s')), PV.int IntKind.i64 (holdsE 2)], PV.int IntKind.i64 2,
                  PV.agg [PV.int IntKind.i64 k, PV.int IntKind.i64 n, PV.str s], PV.agg [PV.int IntKind.i64 k', PV.int IntKind.i64 n', PV.str s'],
                  PV.tup [PV.bool (holdsB 2 (compareV k n s k' n' s')), PV.int IntKind.i64 (holdsE 2)], PV.bool (holdsB 2 (compareV k n s k' n' s')), PV.int IntKind.i64 (holdsE 2),
                  PV.int IntKind.i64 (holdsE 2), PV.bool false, PV.int IntKind.i64 2, PV.bool (holdsB 2 (compareV k n s k' n' s')), PV.ptr 2 2, PV.bool (holdsB 2 (compareV k n s k' n' s')), PV.bool true,
                  PV.int IntKind.i64 2, PV.bool (iEq 2 1), PV.bool true, PV.tup [], PV.tup [], PV.bool true, PV.bool true, PV.tup [], PV.tup [], PV.bool true, PV.bool true, PV.int IntKind.i64 m,
                  PV.int IntKind.i64 (iAdd IntKind.i64 m 1), PV.top, PV.top, PV.top, PV.top, PV.top, PV.top, PV.top, PV.top, PV.top, PV.top, PV.top, PV.top, PV.top, PV.top, PV.top, PV.top, PV.top, PV.top,
                  PV.top, PV.top, PV.top, PV.top, PV.top, PV.top, PV.top, PV.top],
                Store.mk
                  [[PV.int IntKind.i64 k, PV.int IntKind.i64 n, PV.str s], [PV.int IntKind.i64 k', PV.int IntKind.i64 n', PV.str s'],
                    [PV.bool false, PV.bool (holdsB 1 (compareV k n s k' n' s')), PV.bool (holdsB 2 (compareV k n s k' n' s')), PV.bool false, PV.bool false, PV.bool false, PV.bool false]]
                  [] [24, 24, 53]))
            (Tr.ite (iEq 2 3)
              (Tr.ret
                (PExit.normal, [42, 41, 38, 34, 31, 26, 15],
                  [PV.top, PV.top, PV.ptr 0 0, PV.ptr 1 0, PV.top, PV.ptr 2 0, PV.int IntKind.i64 (iAdd IntKind.i64 m 1), PV.int IntKind.i64 (iAdd IntKind.i64 2 1),
                    PV.bool (holdsB 2 (compareV k n s k' n' s')), PV.int IntKind.i64 (holdsE 2), PV.top, PV.top, PV.top, PV.top, PV.int IntKind.i64 2, PV.bool true, PV.int IntKind.i64 2,
                    PV.int IntKind.i64 (iAdd IntKind.i64 2 1), PV.tup [PV.bool (holdsB 2 (compareV k n s k' n' s')), PV.int IntKind.i64 (holdsE 2)], PV.int IntKind.i64 2,
                    PV.agg [PV.int IntKind.i64 k, PV.int IntKind.i64 n, PV.str s], PV.agg [PV.int IntKind.i64 k', PV.int IntKind.i64 n', PV.str s'],
                    PV.tup [PV.bool (holdsB 2 (compareV k n s k' n' s')), PV.int IntKind.i64 (holdsE 2)], PV.bool (holdsB 2 (compareV k n s k' n' s')), PV.int IntKind.i64 (holdsE 2),
                    PV.int IntKind.i64 (holdsE 2), PV.bool false, PV.int IntKind.i64 2, PV.bool (holdsB 2 (compareV k n s k' n' s')), PV.ptr 2 2, PV.bool (holdsB 2 (compareV k n s k' n' s')),
                    PV.bool true, PV.int IntKind.i64 2, PV.bool (iEq 2 1), PV.bool false, PV.int IntKind.i64 2, PV.bool (iEq 2 3), PV.bool (iEq 2 3), PV.bool true, PV.tup [], PV.tup [], PV.bool true,
                    PV.bool true, PV.int IntKind.i64 m, PV.int IntKind.i64 (iAdd IntKind.i64 m 1), PV.top, PV.top, PV.top, PV.top, PV.top, PV.top, PV.top, PV.top, PV.top, PV.top, PV.top, PV.top, PV.top,
                    PV.top, PV.top, PV.top, PV.top, PV.top, PV.top, PV.top, PV.top, PV.top, PV.top, PV.top, PV.top, PV.top],
                  Store.mk
                    [[PV.int IntKind.i64 k, PV.int IntKind.i64 n, PV.str s], [PV.int IntKind.i64 k', PV.int IntKind.i64 n', PV.str s'],
                      [PV.bool false, PV.bool (holdsB 1 (compareV k n s k' n' s')), PV.bool (holdsB 2 (compareV k n s k' n' s')), PV.bool false, PV.bool false, PV.bool false, PV.bool false]]
                    [] [24, 24, 53]))
              (Tr.ite (iEq 2 5)
                (Tr.ret
                  (PExit.normal, [42, 38, 34, 31, 26, 15],
                    [PV.top, PV.top, PV.ptr 0 0, PV.ptr 1 0, PV.top, PV.ptr 2 0, PV.int IntKind.i64 (iAdd IntKind.i64 m 1), PV.int IntKind.i64 (iAdd IntKind.i64 2 1),
                      PV.bool (holdsB 2 (compareV k n s k' n' s')), PV.int IntKind.i64 (holdsE 2), PV.top, PV.top, PV.top, PV.top, PV.int IntKind.i64 2, PV.bool true, PV.int IntKind.i64 2,
                      PV.int IntKind.i64 (iAdd IntKind.i64 2 1), PV.tup [PV.bool (holdsB 2 (compareV k n s k' n' s')), PV.int IntKind.i64 (holdsE 2)], PV.int IntKind.i64 2,
                      PV.agg [PV.int IntKind.i64 k, PV.int IntKind.i64 n, PV.str s], PV.agg [PV.int IntKind.i64 k', PV.int IntKind.i64 n', PV.str s'],
                      PV.tup [PV.bool (holdsB 2 (compareV k n s k' n' s')), PV.int IntKind.i64 (holdsE 2)], PV.bool (holdsB 2 (compareV k n s k' n' s')), PV.int IntKind.i64 (holdsE 2),
                      PV.int IntKind.i64 (holdsE 2), PV.bool false, PV.int IntKind.i64 2, PV.bool (holdsB 2 (compareV k n s k' n' s')), PV.ptr 2 2, PV.bool (holdsB 2 (compareV k n s k' n' s')),
                      PV.bool true, PV.int IntKind.i64 2, PV.bool (iEq 2 1), PV.bool false, PV.int IntKind.i64 2, PV.bool (iEq 2 3), PV.bool (iEq 2 3), PV.bool false, PV.int IntKind.i64 2,
                      PV.bool (iEq 2 5), PV.bool (iEq 2 5), PV.bool true, PV.int IntKind.i64 m, PV.int IntKind.i64 (iAdd IntKind.i64 m 1), PV.top, PV.top, PV.top, PV.top, PV.top, PV.top, PV.top, PV.top,
                      PV.top, PV.top, PV.top, PV.top, PV.top, PV.top, PV.top, PV.top, PV.top, PV.top, PV.top, PV.top, PV.top, PV.top, PV.top, PV.top, PV.top, PV.top],
                    Store.mk
                      [[PV.int IntKind.i64 k, PV.int IntKind.i64 n, PV.str s], [PV.int IntKind.i64 k', PV.int IntKind.i64 n', PV.str s'],
                        [PV.bool false, PV.bool (holdsB 1 (compareV k n s k' n' s')), PV.bool (holdsB 2 (compareV k n s k' n' s')), PV.bool false, PV.bool false, PV.bool false, PV.bool false]]
                      [] [24, 24, 53]))
                (Tr.ret
                  (PExit.normal, [42, 38, 34, 31, 26, 15],
                    [PV.top, PV.top, PV.ptr 0 0, PV.ptr 1 0, PV.top, PV.ptr 2 0, PV.int IntKind.i64 m, PV.int IntKind.i64 (iAdd IntKind.i64 2 1), PV.bool (holdsB 2 (compareV k n s k' n' s')),
                      PV.int IntKind.i64 (holdsE 2), PV.top, PV.top, PV.top, PV.top, PV.int IntKind.i64 2, PV.bool true, PV.int IntKind.i64 2, PV.int IntKind.i64 (iAdd IntKind.i64 2 1),
                      PV.tup [PV.bool (holdsB 2 (compareV k n s k' n' s')), PV.int IntKind.i64 (holdsE 2)], PV.int IntKind.i64 2, PV.agg [PV.int IntKind.i64 k, PV.int IntKind.i64 n, PV.str s],
                      PV.agg [PV.int IntKind.i64 k', PV.int IntKind.i64 n', PV.str s'], PV.tup [PV.bool (holdsB 2 (compareV k n s k' n' s')), PV.int IntKind.i64 (holdsE 2)],
                      PV.bool (holdsB 2 (compareV k n s k' n' s')), PV.int IntKind.i64 (holdsE 2), PV.int IntKind.i64 (holdsE 2), PV.bool false, PV.int IntKind.i64 2,
                      PV.bool (holdsB 2 (compareV k n s k' n' s')), PV.ptr 2 2, PV.bool (holdsB 2 (compareV k n s k' n' s')), PV.bool true, PV.int IntKind.i64 2, PV.bool (iEq 2 1), PV.bool false,
                      PV.int IntKind.i64 2, PV.bool (iEq 2 3), PV.bool (iEq 2 3), PV.bool false, PV.int IntKind.i64 2, PV.bool (iEq 2 5), PV.bool (iEq 2 5), PV.bool false, PV.top, PV.top, PV.top, PV.top,
                      PV.top, PV.top, PV.top, PV.top, PV.top, PV.top, PV.top, PV.top, PV.top, PV.top, PV.top, PV.top, PV.top, PV.top, PV.top, PV.top, PV.top, PV.top, PV.top, PV.top, PV.top, PV.top,
                      PV.top, PV.top],
                    Store.mk
                      [[PV.int IntKind.i64 k, PV.int IntKind.i64 n, PV.str s], [PV.int IntKind.i64 k', PV.int IntKind.i64 n', PV.str s'],
                        [PV.bool false, PV.bool (holdsB 1 (compareV k n s k' n' s')), PV.bool (holdsB 2 (compareV k n s k' n' s')), PV.bool false, PV.bool false, PV.bool false, PV.bool false]]
                      [] [24, 24, 53])))))
          (Tr.ret
            (PExit.normal, [42, 31, 26, 15],
              [PV.top, PV.top, PV.ptr 0 0, PV.ptr 1 0, PV.top, PV.ptr 2 0, PV.int IntKind.i64 m, PV.int IntKind.i64 (iAdd IntKind.i64 2 1), PV.bool (holdsB 2 (compareV k n s k' n' s')),
                PV.int IntKind.i64 (holdsE 2), PV.top, PV.top, PV.top, PV.top, PV.int IntKind.i64 2, PV.bool true, PV.int IntKind.i64 2, PV.int IntKind.i64 (iAdd IntKind.i64 2 1),
                PV.tup [PV.bool (holdsB 2 (compareV k n s k' n' s')), PV.int IntKind.i64 (holdsE 2)], PV.int IntKind.i64 2, PV.agg [PV.int IntKind.i64 k, PV.int IntKind.i64 n, PV.str s],
                PV.agg [PV.int IntKind.i64 k', PV.int IntKind.i64 n', PV.str s'], PV.tup [PV.bool (holdsB 2 (compareV k n s k' n' s')), PV.int IntKind.i64 (holdsE 2)],
                PV.bool (holdsB 2 (compareV k n s k' n' s')), PV.int IntKind.i64 (holdsE 2), PV.int IntKind.i64 (holdsE 2), PV.bool false, PV.int IntKind.i64 2,
                PV.bool (holdsB 2 (compareV k n s k' n' s')), PV.ptr 2 2, PV.bool (holdsB 2 (compareV k n s k' n' s')), PV.bool false, PV.tup [], PV.tup [], PV.tup [], PV.tup [], PV.tup [], PV.tup [],
                PV.tup [], PV.tup [], PV.tup [], PV.tup [], PV.bool false, PV.top, PV.top, PV.top, PV.top, PV.top, PV.top, PV.top, PV.top, PV.top, PV.top, PV.top, PV.top, PV.top, PV.top, PV.top, PV.top,
                PV.top, PV.top, PV.top, PV.top, PV.top, PV.top, PV.top, PV.top, PV.top, PV.top, PV.top, PV.top],
              Store.mk
                [[PV.int IntKind.i64 k, PV.int IntKind.i64 n, PV.str s], [PV.int IntKind.i64 k', PV.int IntKind.i64 n', PV.str s'],
                  [PV.bool false, PV.bool (holdsB 1 (compareV k n s k' n' s')), PV.bool (holdsB 2 (compareV k n s k' n' s')), PV.bool false, PV.bool false, PV.bool false, PV.bool false]]
                [] [24, 24, 53]))))
      (Tr.ret
        (PExit.exit 0, [15],
          [PV.top, PV.top, PV.ptr 0 0, PV.ptr 1 0, PV.top, PV.ptr 2 0, PV.int IntKind.i64 m, PV.int IntKind.i64 2, PV.top, PV.top, PV.top, PV.top, PV.top, PV.top, PV.int IntKind.i64 2, PV.bool false,
            PV.top, PV.top, PV.top, PV.top, PV.top, PV.top, PV.top, PV.top, PV.top, PV.top, PV.top, PV.top, PV.top, PV.top, PV.top, PV.top, PV.top, PV.top, PV.top, PV.top, PV.top, PV.top, PV.top, PV.top,
            PV.top, PV.top, PV.top, PV.top, PV.top, PV.top, PV.top, PV.top, PV.top, PV.top, PV.top, PV.top, PV.top, PV.top, PV.top, PV.top, PV.top, PV.top, PV.top, PV.top, PV.top, PV.top, PV.top, PV.top,
            PV.top, PV.top, PV.top, PV.top, PV.top, PV.top, PV.top],
          Store.mk
            [[PV.int IntKind.i64 k, PV.int IntKind.i64 n, PV.str s], [PV.int IntKind.i64 k', PV.int IntKind.i64 n', PV.str s'],
              [PV.bool false, PV.bool (holdsB 1 (compareV k n s k' n' s')), PV.bool false, PV.bool false, PV.bool false, PV.bool false, PV.bool false]]
            [] [24, 24, 53]))) (by kernel_rfl) ?_
  have he : iNe (holdsE 2) 0 = false := by decide
  have w1 : iAdd .i64 m 1 = m + 1 := wrap_i64 (by omega)
  have w2 : iAdd .i64 2 1 = 3 := by decide
  refine Tr.all_t (by simp) <| Tr.all_f he ?_
  cases hb : holdsB 2 (compareV k n s k' n' s') with
  | true =>
    rw [hb] at h
    refine Tr.all_t rfl <| Tr.all_f (by simp) <| Tr.all_f (by simp) <| Tr.all_f (by simp) <| ?_
    refine LDoes.into ?_ h
    simp [Weak, mk, mkFrom, look, w1, w2]
  | false =>
    rw [hb] at h
    refine Tr.all_f rfl ?_
    refine LDoes.into ?_ h
    simp [Weak, mk, mkFrom, look, w1, w2]
theorem three1 (m : Int) (hm : 0 ≤ m ∧ m ≤ 6) {e : PExit} {out : List PV} {σ' : Store} (h : LDoes Tryd.prog gl c_Three (mk 71 ([2, 3, 5, 6, 7].zip [.ptr 0 0, .ptr 1 0, .ptr 2 0, .int .i64 (if holdsB 1 (compareV k n s k' n' s') = true then m + 1 else m), .int .i64 2])) ⟨[[.int .i64 k, .int .i64 n, .str s], [.int .i64 k', .int .i64 n', .str s'], [.bool false, .bool (holdsB 1 (compareV k n s k' n' s')), .bool false, .bool false, .bool false, .bool false, .bool false]], [], [24, 24, 53]⟩ e out σ') :
    LDoes Tryd.prog gl c_Three (mk 71 ([2, 3, 5, 6, 7].zip [.ptr 0 0, .ptr 1 0, .ptr 2 0, .int .i64 m, .int .i64 1])) ⟨[[.int .i64 k, .int .i64 n, .str s], [.int .i64 k', .int .i64 n', .str s'], [.bool false, .bool false, .bool false, .bool false, .bool false, .bool false, .bool false]], [], [24, 24, 53]⟩ e out σ' := by
  have hG : GamOk Tryd.prog gl (gam (ofL [(22, .pure F_Holds)])) := gamOk_cons (sim_Holds gl) gamOk_nil
  refine LDoes.round tbT_ok hG noMixed (L := fun _ _ _ => .fail) (loopOk_none (by kernel_rfl)) (by kernel_rfl) ?_
  refine Tr.all_as (Tr.ite (iLe 1 6)
      (Tr.ite (iNe (holdsE 1) 0)
        (Tr.ret
          (PExit.ret, [4, 26, 15],
            [PV.top, PV.top, PV.ptr 0 0, PV.ptr 1 0, PV.bool false, PV.ptr 2 0, PV.int IntKind.i64 m, PV.int IntKind.i64 1, PV.bool (holdsB 1 (compareV k n s k' n' s')), PV.int IntKind.i64 (holdsE 1),
              PV.top, PV.top, PV.top, PV.top, PV.int IntKind.i64 1, PV.bool true, PV.top, PV.top, PV.tup [PV.bool (holdsB 1 (compareV k n s k' n' s')), PV.int IntKind.i64 (holdsE 1)],
              PV.int IntKind.i64 1, PV.agg [PV.int IntKind.i64 k, PV.int IntKind.i64 n, PV.str s], PV.agg [PV.int IntKind.i64 k', PV.int IntKind.i64 n', PV.str s'],
              PV.tup [PV.bool (holdsB 1 (compareV k n s k' n' s')), PV.int IntKind.i64 (holdsE 1)], PV.bool (holdsB 1 (compareV k n s k' n' s')), PV.int IntKind.i64 (holdsE 1),
              PV.int IntKind.i64 (holdsE 1), PV.bool true, PV.top, PV.top, PV.top, PV.top, PV.top, PV.top, PV.top, PV.top, PV.top, PV.top, PV.top, PV.top, PV.top, PV.top, PV.top, PV.top, PV.top, PV.top,
              PV.top, PV.top, PV.top, PV.top, PV.top, PV.top, PV.top, PV.top, PV.top, PV.top, PV.top, PV.top, PV.top, PV.top, PV.top, PV.top, PV.top, PV.top, PV.top, PV.top, PV.top, PV.top, PV.top,
              PV.top, PV.top, PV.top],
            Store.mk
              [[PV.int IntKind.i64 k, PV.int IntKind.i64 n, PV.str s], [PV.int IntKind.i64 k', PV.int IntKind.i64 n', PV.str s'],
                [PV.bool false, PV.bool false, PV.bool false, PV.bool false, PV.bool false, PV.bool false, PV.bool false]]
              [] [24, 24, 53]))
        (Tr.ite (holdsB 1 (compareV k n s k' n' s'))
          (Tr.ite (iEq 1 1)
            (Tr.ret
              (PExit.normal, [42, 41, 38, 37, 34, 31, 26, 15],
                [PV.top, PV.top, PV.ptr 0 0, PV.ptr 1 0, PV.top, PV.ptr 2 0, PV.int IntKind.i64 (iAdd IntKind.i64 m 1), PV.int IntKind.i64 (iAdd IntKind.i64 1 1),
                  PV.bool (holdsB 1 (compareV k n s k' n' s')), PV.int IntKind.i64 (holdsE 1), PV.top, PV.top, PV.top, PV.top, PV.int IntKind.i64 1, PV.bool true, PV.int IntKind.i64 1,
                  PV.int IntKind.i64 (iAdd IntKind.i64 1 1), PV.tup [PV.bool (holdsB 1 (compareV k n s k' n' s')), PV.int IntKind.i64 (holdsE 1)], PV.int IntKind.i64 1,
                  PV.agg [PV.int IntKind.i64 k, PV.int IntKind.i64 n, PV.str s], PV.agg [PV.int IntKind.i64 k', PV.int IntKind.i64 n', PV.str s'],
                  PV.tup [PV.bool (holdsB 1 (compareV k n s k' n' s')), PV.int IntKind.i64 (holdsE 1)], PV.bool (holdsB 1 (compareV k n s k' n' s')), PV.int IntKind.i64 (holdsE 1),
                  PV.int IntKind.i64 (holdsE 1), PV.bool false, PV.int IntKind.i64 1, PV.bool (holdsB 1 (compareV k n s k' n' s')), PV.ptr 2 1, PV.bool (holdsB 1 (compareV k n s k' n' s')), PV.bool true,
                  PV.int IntKind.i64 1, PV.bool (iEq 1 1), PV.bool true, PV.tup [], PV.tup [], PV.bool true, PV.bool true, PV.tup [], PV.tup [], PV.bool true, PV.bool true, PV.int IntKind.i64 m,
                  PV.int IntKind.i64 (iAdd IntKind.i64 m 1), PV.top, PV.top, PV.top, PV.top, PV.top, PV.top, PV.top, PV.top, PV.top, PV.top, PV.top, PV.top, PV.top, PV.top, PV.top, PV.top, PV.top, PV.top,
                  PV.top, PV.top, PV.top, PV.top, PV.top, PV.top, PV.top, PV.top],
                Store.mk
                  [[PV.int IntKind.i64 k, PV.int IntKind.i64 n, PV.str s], [PV.int IntKind.i64 k', PV.int IntKind.i64 n', PV.str s'],
                    [PV.bool false, PV.bool (holdsB 1 (compareV k n s k' n' s')), PV.bool false, PV.bool false, PV.bool false, PV.bool false, PV.bool false]]
                  [] [24, 24, 53]))
            (Tr.ite (iEq 1 3)
              (Tr.ret
                (PExit.normal, [42, 41, 38, 34, 31, 26, 15],
                  [PV.top, PV.top, PV.ptr 0 0, PV.ptr 1 0, PV.top, PV.ptr 2 0, PV.int IntKind.i64 (iAdd IntKind.i64 m 1), PV.int IntKind.i64 (iAdd IntKind.i64 1 1),
                    PV.bool (holdsB 1 (compareV k n s k' n' s')), PV.int IntKind.i64 (holdsE 1), PV.top, PV.top, PV.top, PV.top, PV.int IntKind.i64 1, PV.bool true, PV.int IntKind.i64 1,
                    PV.int IntKind.i64 (iAdd IntKind.i64 1 1), PV.tup [PV.bool (holdsB 1 (compareV k n s k' n' s')), PV.int IntKind.i64 (holdsE 1)], PV.int IntKind.i64 1,
                    PV.agg [PV.int IntKind.i64 k, PV.int IntKind.i64 n, PV.str s], PV.agg [PV.int IntKind.i64 k', PV.int IntKind.i64 n', PV.str s'],
                    PV.tup [PV.bool (holdsB 1 (compareV k n s k' n' s')), PV.int IntKind.i64 (holdsE 1)], PV.bool (holdsB 1 (compareV k n s k' n' s')), PV.int IntKind.i64 (holdsE 1),
                    PV.int IntKind.i64 (holdsE 1), PV.bool false, PV.int IntKind.i64 1, PV.bool (holdsB 1 (compareV k n s k' n' s')), PV.ptr 2 1, PV.bool (holdsB 1 (compareV k n s k' n' s')),
                    PV.bool true, PV.int IntKind.i64 1, PV.bool (iEq 1 1), PV.bool false, PV.int IntKind.i64 1, PV.bool (iEq 1 3), PV.bool (iEq 1 3), PV.bool true, PV.tup [], PV.tup [], PV.bool true,
                    PV.bool true, PV.int IntKind.i64 m, PV.int IntKind.i64 (iAdd IntKind.i64 m 1), PV.top, PV.top, PV.top, PV.top, PV.top, PV.top, PV.top, PV.top, PV.top, PV.top, PV.top, PV.top, PV.top,
                    PV.top, PV.top, PV.top, PV.top, PV.top, PV.top, PV.top, PV.top, PV.top, PV.top, PV.top, PV.top, PV.top],
                  Store.mk
                    [[PV.int IntKind.i64 k, PV.int IntKind.i64 n, PV.str s], [PV.int IntKind.i64 k', PV.int IntKind.i64 n', PV.str s'],
                      [PV.bool false, PV.bool (holdsB 1 (compareV k n s k' n' s')), PV.bool false, PV.bool false, PV.bool false, PV.bool false, PV.bool false]]
                    [] [24, 24, 53]))
              (Tr.ite (iEq 1 5)
                (Tr.ret
                  (PExit.normal, [42, 38, 34, 31, 26, 15],
                    [PV.top, PV.top, PV.ptr 0 0, PV.ptr 1 0, PV.top, PV.ptr 2 0, PV.int IntKind.i64 (iAdd IntKind.i64 m 1), PV.int IntKind.i64 (iAdd IntKind.i64 1 1),
                      PV.bool (holdsB 1 (compareV k n s k' n' s')), PV.int IntKind.i64 (holdsE 1), PV.top, PV.top, PV.top, PV.top, PV.int IntKind.i64 1, PV.bool true, PV.int IntKind.i64 1,
                      PV.int IntKind.i64 (iAdd IntKind.i64 1 1), PV.tup [PV.bool (holdsB 1 (compareV k n s k' n' s')), PV.int IntKind.i64 (holdsE 1)], PV.int IntKind.i64 1,
                      PV.agg [PV.int IntKind.i64 k, PV.int IntKind.i64 n, PV.str s], PV.agg [PV.int IntKind.i64 k', PV.int IntKind.i64 n', PV.str s'],
                      PV.tup [PV.bool (holdsB 1 (compareV k n s k' n' s')), PV.int IntKind.i64 (holdsE 1)], PV.bool (holdsB 1 (compareV k n s k' n' s')), PV.int IntKind.i64 (holdsE 1),
                      PV.int IntKind.i64 (holdsE 1), PV.bool false, PV.int IntKind.i64 1, PV.bool (holdsB 1 (compareV k n s k' n' s')), PV.ptr 2 1, PV.bool (holdsB 1 (compareV k n s k' n' s')),
                      PV.bool true, PV.int IntKind.i64 1, PV.bool (iEq 1 1), PV.bool false, PV.int IntKind.i64 1, PV.bool (iEq 1 3), PV.bool (iEq 1 3), PV.bool false, PV.int IntKind.i64 1,
                      PV.bool (iEq 1 5), PV.bool (iEq 1 5), PV.bool true, PV.int IntKind.i64 m, PV.int IntKind.i64 (iAdd IntKind.i64 m 1), PV.top, PV.top, PV.top, PV.top, PV.top, PV.top, PV.top, PV.top,
                      PV.top, PV.top, PV.top, PV.top, PV.top, PV.top, PV.top, PV.top, PV.top, PV.top, PV.top, PV.top, PV.top, PV.top, PV.top, PV.top, PV.top, PV.top],
                    Store.mk
                      [[PV.int IntKind.i64 k, PV.int IntKind.i64 n, PV.str s], [PV.int IntKind.i64 k', PV.int IntKind.i64 n', PV.str s'],
                        [PV.bool false, PV.bool (holdsB 1 (compareV k n s k' n' s')), PV.bool false, PV.bool false, PV.bool false, PV.bool false, PV.bool false]]
                      [] [24, 24, 53]))
                (Tr.ret
                  (PExit.normal, [42, 38, 34, 31, 26, 15],
                    [PV.top, PV.top, PV.ptr 0 0, PV.ptr 1 0, PV.top, PV.ptr 2 0, PV.int IntKind.i64 m, PV.int IntKind.i64 (iAdd IntKind.i64 1 1), PV.bool (holdsB 1 (compareV k n s k' n' s')),
                      PV.int IntKind.i64 (holdsE 1), PV.top, PV.top, PV.top, PV.top, PV.int IntKind.i64 1, PV.bool true, PV.int IntKind.i64 1, PV.int IntKind.i64 (iAdd IntKind.i64 1 1),
                      PV.tup [PV.bool (holdsB 1 (compareV k n s k' n' s')), PV.int IntKind.i64 (holdsE 1)], PV.int IntKind.i64 1, PV.agg [PV.int IntKind.i64 k, PV.int IntKind.i64 n, PV.str s],
                      PV.agg [PV.int IntKind.i64 k', PV.int IntKind.i64 n', PV.str s'], PV.tup [PV.bool (holdsB 1 (compareV k n s k' n' s')), PV.int IntKind.i64 (holdsE 1)],
                      PV.bool (holdsB 1 (compareV k n s k' n' s')), PV.int IntKind.i64 (holdsE 1), PV.int IntKind.i64 (holdsE 1), PV.bool false, PV.int IntKind.i64 1,
                      PV.bool (holdsB 1 (compareV k n s k' n' s')), PV.ptr 2 1, PV.bool (holdsB 1 (compareV k n s k' n' s')), PV.bool true, PV.int IntKind.i64 1, PV.bool (iEq 1 1), PV.bool false,
                      PV.int IntKind.i64 1, PV.bool (iEq 1 3), PV.bool (iEq 1 3), PV.bool false, PV.int IntKind.i64 1, PV.bool (iEq 1 5), PV.bool (iEq 1 5), PV.bool false, PV.top, PV.top, PV.top, PV.top,
                      PV.top, PV.top, PV.top, PV.top, PV.top, PV.top, PV.top, PV.top, PV.top, PV.top, PV.top, PV.top, PV.top, PV.top, PV.top, PV.top, PV.top, PV.top, PV.top, PV.top, PV.top, PV.top,
                      PV.top, PV.top],
                    Store.mk
                      [[PV.int IntKind.i64 k, PV.int IntKind.i64 n, PV.str s], [PV.int IntKind.i64 k', PV.int IntKind.i64 n', PV.str s'],
                        [PV.bool false, PV.bool (holdsB 1 (compareV k n s k' n' s')), PV.bool false, PV.bool false, PV.bool false, PV.bool false, PV.bool false]]
                      [] [24, 24, 53])))))
          (Tr.ret
            (PExit.normal, [42, 31, 26, 15],
              [PV.top, PV.top, PV.ptr 0 0, PV.ptr 1 0, PV.top, PV.ptr 2 0, PV.int IntKind.i64 m, PV.int IntKind.i64 (iAdd IntKind.i64 1 1), PV.bool (holdsB 1 (compareV k n s k' n' s')),
                PV.int IntKind.i64 (holdsE 1), PV.top, PV.top, PV.top, PV.top, PV.int IntKind.i64 1, PV.bool true, PV.int IntKind.i64 1, PV.int IntKind.i64 (iAdd IntKind.i64 1 1),
                PV.tup [PV.bool (holdsB 1 (compareV k n s k' n' s')), PV.int IntKind.i64 (holdsE 1)], PV.int IntKind.i64 1, PV.agg [PV.int IntKind.i64 k, PV.int IntKind.i64 n, PV.str s],
                PV.agg [PV.int IntKind.i64 k', PV.int IntKind.i64 n', PV.str s'], PV.tup [PV.bool (holdsB 1 (compareV k n s k' n' s')), PV.int IntKind.i64 (holdsE 1)],
                PV.bool (holdsB 1 (compareV k n s k' n' s')), PV.int IntKind.i64 (holdsE 1), PV.int IntKind.i64 (holdsE 1), PV.bool false, PV.int IntKind.i64 1,
                PV.bool (holdsB 1 (compareV k n s k' n' s')), PV.ptr 2 1, PV.bool (holdsB 1 (compareV k n s k' n' s')), PV.bool false, PV.tup [], PV.tup [], PV.tup [], PV.tup [], PV.tup [], PV.tup [],
                PV.tup [], PV.tup [], PV.tup [], PV.tup [], PV.bool false, PV.top, PV.top, PV.top, PV.top, PV.top, PV.top, PV.top, PV.top, PV.top, PV.top, PV.top, PV.top, PV.top, PV.top, PV.top, PV.top,
                PV.top, PV.top, PV.top, PV.top, PV.top, PV.top, PV.top, PV.top, PV.top, PV.top, PV.top, PV.top],
              Store.mk
                [[PV.int IntKind.i64 k, PV.int IntKind.i64 n, PV.str s], [PV.int IntKind.i64 k', PV.int IntKind.i64 n', PV.str s'],
                  [PV.bool false, PV.bool (holdsB 1 (compareV k n s k' n' s')), PV.bool false, PV.bool false, PV.bool false, PV.bool false, PV.bool false]]
                [] [24, 24, 53]))))
      (Tr.ret
        (PExit.exit 0, [15],
          [PV.top, PV.top, PV.ptr 0 0, PV.ptr 1 0, PV.top, PV.ptr 2 0, PV.int IntKind.i64 m, PV.int IntKind.i64 1, PV.top, PV.top, PV.top, PV.top, PV.top, PV.top, PV.int IntKind.i64 1, PV.bool false,
            PV.top, PV.top, PV.top, PV.top, PV.top, PV.top, PV.top, PV.top, PV.top, PV.top, PV.top, PV.top, PV.top, PV.top, PV.top, PV.top, PV.top, PV.top, PV.top, PV.top, PV.top, PV.top, PV.top, PV.top,
            PV.top, PV.top, PV.top, PV.top, PV.top, PV.top, PV.top, PV.top, PV.top, PV.top, PV.top, PV.top, PV.top, PV.top, PV.top, PV.top, PV.top, PV.top, PV.top, PV.top, PV.top, PV.top, PV.top, PV.top,
            PV.top, PV.top, PV.top, PV.top, PV.top, PV.top, PV.top],
          Store.mk
            [[PV.int IntKind.i64 k, PV.int IntKind.i64 n, PV.str s], [PV.int IntKind.i64 k', PV.int IntKind.i64 n', PV.str s'],
              [PV.bool false, PV.bool false, PV.bool false, PV.bool false, PV.bool false, PV.bool false, PV.bool false]]
            [] [24, 24, 53]))) (by kernel_rfl) ?_
  have he : iNe (holdsE 1) 0 = false := by decide
  have w1 : iAdd .i64 m 1 = m + 1 := wrap_i64 (by omega)
  have w2 : iAdd .i64 1 1 = 2 := by decide
  refine Tr.all_t (by simp) <| Tr.all_f he ?_
  cases hb : holdsB 1 (compareV k n s k' n' s') with
  | true =>
    rw [hb] at h
    refine Tr.all_t rfl <| Tr.all_t (by simp) <| ?_
    refine LDoes.into ?_ h
    simp [Weak, mk, mkFrom, look, w1, w2]
  | false =>
    rw [hb] at h
    refine Tr.all_f rfl ?_
    refine LDoes.into ?_ h
    simp [Weak, mk, mkFrom, look, w1, w2]
end
def d_Three : List PV → Store → Option (Int × Int × List UInt8 × Int × Int × List UInt8)
  | [.ptr 0 0, .ptr 1 0, .ptr 2 0, .int .i64 m, .int .i64 op], ⟨[[.int .i64 k, .int .i64 n, .str s], [.int .i64 k', .int .i64 n', .str s'], [.bool false, .bool false, .bool false, .bool false, .bool false, .bool false, .bool false]], [], [24, 24, 53]⟩ => if m = 0 ∧ op = 1 then some (k, n, s, k', n', s') else none
  | _, _ => none
def r_Three : Int × Int × List UInt8 × Int × Int × List UInt8 → Tr (PExit × List (Nat × PV) × Store)
  | (k, n, s, k', n', s') => .ret (.exit 0, [(2, .ptr 0 0), (3, .ptr 1 0), (5, .ptr 2 0), (6, .int .i64 1)], ⟨[[.int .i64 k, .int .i64 n, .str s], [.int .i64 k', .int .i64 n', .str s'], [.bool false, .bool (holdsB 1 (compareV k n s k' n' s')), .bool (holdsB 2 (compareV k n s k' n' s')), .bool (holdsB 3 (compareV k n s k' n' s')), .bool (holdsB 4 (compareV k n s k' n' s')), .bool (holdsB 5 (compareV k n s k' n' s')), .bool (holdsB 6 (compareV k n s k' n' s'))]], [], [24, 24, 53]⟩)
def L_Three : LpsT := fun r fr σ => if r = 5 then oracle 71 [2, 3, 5, 6, 7] d_Three r_Three fr σ else .fail
theorem loop_Three (gl : Nat → Option Obj) : ∀ vs σ a e out σ', d_Three vs σ = some a → (r_Three a).run = some (e, out, σ') → LDoes Tryd.prog gl c_Three (mk 71 ([2, 3, 5, 6, 7].zip vs)) σ e (mk 71 out) σ' := by
  intro vs st a e out σ' hd hr
  unfold d_Three at hd
  split at hd
  · rename_i m op k n s k' n' s'
    split at hd
    · rename_i hm
      obtain ⟨rfl, rfl⟩ := hm
      injection hd with hd
      subst hd
      cases hr
      have hc := cmp_val k n s k' n' s'
      generalize hC : compareV k n s k' n' s' = C at *
      have key : (if holdsB 5 C = true then (if holdsB 3 C = true then (if holdsB 1 C = true then (0 : Int) + 1 else 0) + 1 else (if holdsB 1 C = true then (0 : Int) + 1 else 0)) + 1 else (if holdsB 3 C = true then (if holdsB 1 C = true then (0 : Int) + 1 else 0) + 1 else (if holdsB 1 C = true then (0 : Int) + 1 else 0))) = 1 := by
        rcases hc with rfl | rfl | rfl <;> decide
      have b1 : 0 ≤ (if holdsB 1 C = true then (0 : Int) + 1 else 0) ∧ (if holdsB 1 C = true then (0 : Int) + 1 else 0) ≤ 1 := by split <;> omega
      have hz := three7 gl k n s k' n' s' 1
      subst hC
      refine three1 gl k n s k' n' s' 0 (by omega) (three2 gl k n s k' n' s' _ ⟨b1.1, by omega⟩ (three3 gl k n s k' n' s' _ ⟨b1.1, by omega⟩ (three4 gl k n s k' n' s' _ (by split <;> omega) (three5 gl k n s k' n' s' _ (by split <;> omega) (three6 gl k n s k' n' s' _ (by split <;> (try split) <;> omega) ?_)))))
      rw [key]
      exact hz
    · cases hd
  · cases hd
def F_Value2t : List PV → Tr PV
  | [.agg [.int .i64 k, .int .i64 n, .str s], .agg [.int .i64 k', .int .i64 n', .str s']] => .ret (.bool true)
  | _ => .fail
theorem sim_ValueThree {gl : Nat → Option Obj} (hgl : GlOk gl) : SimP Tryd.prog gl 8 fun args => (F_Value2t args).run := by
  refine SimP.of_tree (G := ofL [(13, .pure F_alive), (14, .pure F_cut)]) (L := L_Three) tbT_ok (gamOk_cons (sim_alive hgl) (gamOk_cons (sim_cut gl) gamOk_nil)) noMixed Tryd.func8 rfl (by rfl) (by kernel_rfl) (loopOk_one (r := 5) (c1 := c_Three) (by kernel_rfl) ?_) ?_
  · intro fr σ e fr' σ' hh
    simp only [lps, L_Three, if_true] at hh
    exact oracle_ok (loop_Three gl) fr σ e fr' σ' hh
  intro args x h hr
  unfold F_Value2t at h
  split at h
  · rename_i k n s k' n' s'
    cases h
    refine Tr.run_as (Tr.ite (iEq 1 1)
        (Tr.ite (bNot (bEq (holdsB 2 (compareV k n (cutS s) k' n' (cutS s'))) (holdsB 1 (compareV k n (cutS s) k' n' (cutS s')))))
          (Tr.ite (bNot (bEq (holdsB 6 (compareV k n (cutS s) k' n' (cutS s'))) (holdsB 3 (compareV k n (cutS s) k' n' (cutS s')))))
            (Tr.ite (bNot (bEq (holdsB 4 (compareV k n (cutS s) k' n' (cutS s'))) (holdsB 5 (compareV k n (cutS s) k' n' (cutS s'))))) (Tr.ret (PV.bool true)) (Tr.ret (PV.bool false)))
            (Tr.ret (PV.bool false)))
          (Tr.ret (PV.bool false)))
        (Tr.ret (PV.bool false))) (by kernel_rfl) ?_
    have hc := cmp_val k n (cutS s) k' n' (cutS s')
    generalize compareV k n (cutS s) k' n' (cutS s') = C at *
    rcases hc with rfl | rfl | rfl <;> rfl
  · cases h
end Go.Pv
