import Derived.Test.YtdfahkeodlfopaaDoorPvV0
set_option maxHeartbeats 4000000
set_option maxRecDepth 200000
set_option linter.unusedSimpArgs false
set_option linter.unusedVariables false
namespace Go.Pv
open Go Go.Proofs
def checkV (k n : Int) (s : List UInt8) : Int := if k = 1 ∧ s = [] then 0 else if k = 2 ∧ n = 0 ∧ s.length ≤ 256 then 0 else 10
def isV (k n : Int) (s : List UInt8) : Bool := decide (k = 1 ∧ s = [] ∨ k = 2 ∧ n = 0 ∧ s.length ≤ 256)
def typeV (k n : Int) (s : List UInt8) : Int := if checkV k n s = 0 then (if k = 1 then 1 else 2) else 0
def cmpInt (a b : Int) : Int := if a < b then -1 else if b < a then 1 else 0
def cmpStr (a b : List UInt8) : Int := if Op.bytesLess a b = true then -1 else if a = b then 0 else 1
def compareV (k n : Int) (s : List UInt8) (k' n' : Int) (s' : List UInt8) : Int := firstNZ [cmpInt k k', cmpInt n n', cmpStr s s']
def compareR (k n : Int) (s : List UInt8) (k' n' : Int) (s' : List UInt8) : Int :=
  if k = k' ∧ n = n' ∧ s = s' then 0 else if k < k' ∨ k = k' ∧ (n < n' ∨ n = n' ∧ Op.bytesLess s s' = true) then -1 else 1
def holdsB (op c : Int) : Bool := if op = 1 then decide (c = 0) else if op = 2 then decide (c ≠ 0) else if op = 3 then decide (c < 0) else if op = 4 then decide (c ≤ 0) else if op = 5 then decide (0 < c) else if op = 6 then decide (0 ≤ c) else false
def holdsE (op : Int) : Int := if 1 ≤ op ∧ op ≤ 6 then 0 else 1

def F_Check : List PV → Tr PV
  | [.agg [.int .i64 k, .int .i64 n, .str s]] => .ret (.int .i64 (checkV k n s))
  | _ => .fail
theorem sim_Check (gl : Nat → Option Obj) : SimP Tryd.prog gl 65 fun args => (F_Check args).run := by
  refine SimP.of_tree (G := ofL []) (L := fun _ _ _ => .fail) tbT_ok gamOk_nil noMixed Tryd.func65 rfl (by rfl) (by kernel_rfl) (loopOk_none (by kernel_rfl)) ?_
  intro args x h hr
  unfold F_Check at h
  split at h
  · rename_i k n s
    cases h
    refine Tr.run_as (Tr.ite (iEq k 1)
        (Tr.ite (sEq s []) (Tr.ret (PV.int IntKind.i64 0))
          (Tr.ite (iEq k 2) (Tr.ite (iEq n 0) (Tr.ite (iLe (sLen s) 256) (Tr.ret (PV.int IntKind.i64 0)) (Tr.ret (PV.int IntKind.i64 10))) (Tr.ret (PV.int IntKind.i64 10)))
            (Tr.ret (PV.int IntKind.i64 10))))
        (Tr.ite (iEq k 2) (Tr.ite (iEq n 0) (Tr.ite (iLe (sLen s) 256) (Tr.ret (PV.int IntKind.i64 0)) (Tr.ret (PV.int IntKind.i64 10))) (Tr.ret (PV.int IntKind.i64 10))) (Tr.ret (PV.int IntKind.i64 10)))) (by kernel_rfl) ?_
    simp
    try simp [checkV]
    try ((repeat' split) <;> first | rfl | (simp_all; done) | omega | (simp_all; omega))
  · cases h

def F_Is : List PV → Tr PV
  | [.agg [.int .i64 k, .int .i64 n, .str s]] => .ret (.bool (isV k n s))
  | _ => .fail
theorem sim_Is (gl : Nat → Option Obj) : SimP Tryd.prog gl 59 fun args => (F_Is args).run := by
  refine SimP.of_tree (G := ofL []) (L := fun _ _ _ => .fail) tbT_ok gamOk_nil noMixed Tryd.func59 rfl (by rfl) (by kernel_rfl) (loopOk_none (by kernel_rfl)) ?_
  intro args x h hr
  unfold F_Is at h
  split at h
  · rename_i k n s
    cases h
    refine Tr.run_as (Tr.ite (iEq k 1) (Tr.ite (sEq s []) (Tr.ret (PV.bool true)) (Tr.ite (iEq k 2) (Tr.ite (iEq n 0) (Tr.ret (PV.bool (iLe (sLen s) 256))) (Tr.ret (PV.bool false))) (Tr.ret (PV.bool false))))
        (Tr.ite (iEq k 2) (Tr.ite (iEq n 0) (Tr.ret (PV.bool (iLe (sLen s) 256))) (Tr.ret (PV.bool false))) (Tr.ret (PV.bool false)))) (by kernel_rfl) ?_
    simp
    try simp [isV]
    try ((repeat' split) <;> first | rfl | (simp_all; done) | omega | (simp_all; omega))
  · cases h

def F_Type : List PV → Tr PV
  | [.agg [.int .i64 k, .int .i64 n, .str s]] => .ret (.tup [.int .i64 (typeV k n s), .int .i64 (checkV k n s)])
  | _ => .fail
theorem sim_Type (gl : Nat → Option Obj) : SimP Tryd.prog gl 66 fun args => (F_Type args).run := by
  refine SimP.of_tree (G := ofL [(65, .pure F_Check)]) (L := fun _ _ _ => .fail) tbT_ok (gamOk_cons (sim_Check gl) gamOk_nil) noMixed Tryd.func66 rfl (by rfl) (by kernel_rfl) (loopOk_none (by kernel_rfl)) ?_
  intro args x h hr
  unfold F_Type at h
  split at h
  · rename_i k n s
    cases h
    refine Tr.run_as (Tr.ite (iNe (checkV k n s) 0) (Tr.ret (PV.tup [PV.int IntKind.i64 0, PV.int IntKind.i64 (checkV k n s)]))
        (Tr.ite (iEq k 1) (Tr.ret (PV.tup [PV.int IntKind.i64 1, PV.int IntKind.i64 0])) (Tr.ret (PV.tup [PV.int IntKind.i64 2, PV.int IntKind.i64 0])))) (by kernel_rfl) ?_
    simp
    try simp [typeV]
    try ((repeat' split) <;> first | rfl | (simp_all; done) | omega | (simp_all; omega))
  · cases h

def F_RType : List PV → Tr PV
  | [.agg [.int .i64 k, .int .i64 n, .str s]] => .ret (.tup [.int .i64 (typeV k n s), .int .i64 (checkV k n s)])
  | _ => .fail
theorem sim_RType (gl : Nat → Option Obj) : SimP Tryd.prog gl 67 fun args => (F_RType args).run := by
  refine SimP.of_tree (G := ofL [(59, .pure F_Is)]) (L := fun _ _ _ => .fail) tbT_ok (gamOk_cons (sim_Is gl) gamOk_nil) noMixed Tryd.func67 rfl (by rfl) (by kernel_rfl) (loopOk_none (by kernel_rfl)) ?_
  intro args x h hr
  unfold F_RType at h
  split at h
  · rename_i k n s
    cases h
    refine Tr.run_as (Tr.ite (bNot (isV k n s)) (Tr.ret (PV.tup [PV.int IntKind.i64 0, PV.int IntKind.i64 10]))
        (Tr.ite (iEq k 1) (Tr.ret (PV.tup [PV.int IntKind.i64 1, PV.int IntKind.i64 0])) (Tr.ret (PV.tup [PV.int IntKind.i64 2, PV.int IntKind.i64 0])))) (by kernel_rfl) ?_
    simp
    try simp [typeV, isV, checkV]
    try ((repeat' split) <;> first | rfl | (simp_all; done) | omega | (simp_all; omega))
  · cases h

def F_isNaNk : List PV → Tr PV
  | [.int .i64 a] => .ret (.bool false)
  | _ => .fail
theorem sim_isNaNk (gl : Nat → Option Obj) : SimP Tryd.prog gl 105 fun args => (F_isNaNk args).run := by
  refine SimP.of_tree (G := ofL []) (L := fun _ _ _ => .fail) tbT_ok gamOk_nil noMixed Tryd.func105 rfl (by rfl) (by kernel_rfl) (loopOk_none (by kernel_rfl)) ?_
  intro args x h hr
  unfold F_isNaNk at h
  split at h
  · rename_i a
    cases h
    refine Tr.run_as (Tr.ret (PV.bool (iNe a a))) (by kernel_rfl) ?_
    simp
    try simp
    try ((repeat' split) <;> first | rfl | (simp_all; done) | omega | (simp_all; omega))
  · cases h

def F_isNaNi : List PV → Tr PV
  | [.int .i64 a] => .ret (.bool false)
  | _ => .fail
theorem sim_isNaNi (gl : Nat → Option Obj) : SimP Tryd.prog gl 106 fun args => (F_isNaNi args).run := by
  refine SimP.of_tree (G := ofL []) (L := fun _ _ _ => .fail) tbT_ok gamOk_nil noMixed Tryd.func106 rfl (by rfl) (by kernel_rfl) (loopOk_none (by kernel_rfl)) ?_
  intro args x h hr
  unfold F_isNaNi at h
  split at h
  · rename_i a
    cases h
    refine Tr.run_as (Tr.ret (PV.bool (iNe a a))) (by kernel_rfl) ?_
    simp
    try simp
    try ((repeat' split) <;> first | rfl | (simp_all; done) | omega | (simp_all; omega))
  · cases h

def F_isNaNs : List PV → Tr PV
  | [.str a] => .ret (.bool false)
  | _ => .fail
theorem sim_isNaNs (gl : Nat → Option Obj) : SimP Tryd.prog gl 107 fun args => (F_isNaNs args).run := by
  refine SimP.of_tree (G := ofL []) (L := fun _ _ _ => .fail) tbT_ok gamOk_nil noMixed Tryd.func107 rfl (by rfl) (by kernel_rfl) (loopOk_none (by kernel_rfl)) ?_
  intro args x h hr
  unfold F_isNaNs at h
  split at h
  · rename_i a
    cases h
    refine Tr.run_as (Tr.ret (PV.bool (sNe a a))) (by kernel_rfl) ?_
    simp
    try simp
    try ((repeat' split) <;> first | rfl | (simp_all; done) | omega | (simp_all; omega))
  · cases h

def F_CmpK : List PV → Tr PV
  | [.int .i64 a, .int .i64 b] => .ret (.int .i64 (cmpInt a b))
  | _ => .fail
theorem sim_CmpK (gl : Nat → Option Obj) : SimP Tryd.prog gl 79 fun args => (F_CmpK args).run := by
  refine SimP.of_tree (G := ofL [(105, .pure F_isNaNk)]) (L := fun _ _ _ => .fail) tbT_ok (gamOk_cons (sim_isNaNk gl) gamOk_nil) noMixed Tryd.func79 rfl (by rfl) (by kernel_rfl) (loopOk_none (by kernel_rfl)) ?_
  intro args x h hr
  unfold F_CmpK at h
  split at h
  · rename_i a b
    cases h
    refine Tr.run_as (Tr.ite false (Tr.ite false (Tr.ret (PV.int IntKind.i64 0)) (Tr.ret (PV.int IntKind.i64 (-1))))
        (Tr.ite false (Tr.ret (PV.int IntKind.i64 1)) (Tr.ite (iLt a b) (Tr.ret (PV.int IntKind.i64 (-1))) (Tr.ite (iLt b a) (Tr.ret (PV.int IntKind.i64 1)) (Tr.ret (PV.int IntKind.i64 0)))))) (by kernel_rfl) ?_
    simp
    try simp [cmpInt]
    try ((repeat' split) <;> first | rfl | (simp_all; done) | omega | (simp_all; omega))
  · cases h

def F_CmpI : List PV → Tr PV
  | [.int .i64 a, .int .i64 b] => .ret (.int .i64 (cmpInt a b))
  | _ => .fail
theorem sim_CmpI (gl : Nat → Option Obj) : SimP Tryd.prog gl 80 fun args => (F_CmpI args).run := by
  refine SimP.of_tree (G := ofL [(106, .pure F_isNaNi)]) (L := fun _ _ _ => .fail) tbT_ok (gamOk_cons (sim_isNaNi gl) gamOk_nil) noMixed Tryd.func80 rfl (by rfl) (by kernel_rfl) (loopOk_none (by kernel_rfl)) ?_
  intro args x h hr
  unfold F_CmpI at h
  split at h
  · rename_i a b
    cases h
    refine Tr.run_as (Tr.ite false (Tr.ite false (Tr.ret (PV.int IntKind.i64 0)) (Tr.ret (PV.int IntKind.i64 (-1))))
        (Tr.ite false (Tr.ret (PV.int IntKind.i64 1)) (Tr.ite (iLt a b) (Tr.ret (PV.int IntKind.i64 (-1))) (Tr.ite (iLt b a) (Tr.ret (PV.int IntKind.i64 1)) (Tr.ret (PV.int IntKind.i64 0)))))) (by kernel_rfl) ?_
    simp
    try simp [cmpInt]
    try ((repeat' split) <;> first | rfl | (simp_all; done) | omega | (simp_all; omega))
  · cases h

def F_CmpS : List PV → Tr PV
  | [.str a, .str b] => .ret (.int .i64 (cmpStr a b))
  | _ => .fail
theorem sim_CmpS (gl : Nat → Option Obj) : SimP Tryd.prog gl 81 fun args => (F_CmpS args).run := by
  refine SimP.of_tree (G := ofL [(107, .pure F_isNaNs)]) (L := fun _ _ _ => .fail) tbT_ok (gamOk_cons (sim_isNaNs gl) gamOk_nil) noMixed Tryd.func81 rfl (by rfl) (by kernel_rfl) (loopOk_none (by kernel_rfl)) ?_
  intro args x h hr
  unfold F_CmpS at h
  split at h
  · rename_i a b
    cases h
    refine Tr.run_as (Tr.ite false (Tr.ite false (Tr.ret (PV.int IntKind.i64 0)) (Tr.ret (PV.int IntKind.i64 (-1))))
        (Tr.ite false (Tr.ret (PV.int IntKind.i64 1)) (Tr.ite (sLt a b) (Tr.ret (PV.int IntKind.i64 (-1))) (Tr.ite (sGt a b) (Tr.ret (PV.int IntKind.i64 1)) (Tr.ret (PV.int IntKind.i64 0)))))) (by kernel_rfl) ?_
    simp
    try simp [cmpStr]
    try ((repeat' split) <;> first | rfl | (simp_all; done) | omega | (simp_all; omega))
  · cases h

def F_Compare : List PV → Tr PV
  | [.agg [.int .i64 k, .int .i64 n, .str s], .agg [.int .i64 k', .int .i64 n', .str s']] => .ret (.int .i64 (compareV k n s k' n' s'))
  | _ => .fail
theorem sim_Compare (gl : Nat → Option Obj) : SimP Tryd.prog gl 56 fun args => (F_Compare args).run := by
  refine SimP.of_tree (G := ofL [(78, .pure F_Or), (79, .pure F_CmpK), (80, .pure F_CmpI), (81, .pure F_CmpS)]) (L := fun _ _ _ => .fail) tbT_ok (gamOk_cons (sim_Or gl) (gamOk_cons (sim_CmpK gl) (gamOk_cons (sim_CmpI gl) (gamOk_cons (sim_CmpS gl) gamOk_nil)))) noMixed Tryd.func56 rfl (by rfl) (by kernel_rfl) (loopOk_none (by kernel_rfl)) ?_
  intro args x h hr
  unfold F_Compare at h
  split at h
  · rename_i k n s k' n' s'
    cases h
    refine Tr.run_as (Tr.ite (okIs [[PV.int IntKind.i64 (cmpInt k k')], [PV.int IntKind.i64 (cmpInt n n')], [PV.int IntKind.i64 (cmpStr s s')]])
        (Tr.ret (PV.int IntKind.i64 (firstNZ (unIs [[PV.int IntKind.i64 (cmpInt k k')], [PV.int IntKind.i64 (cmpInt n n')], [PV.int IntKind.i64 (cmpStr s s')]])))) Tr.fail) (by kernel_rfl) ?_
    simp
    try simp [compareV]
    try ((repeat' split) <;> first | rfl | (simp_all; done) | omega | (simp_all; omega))
  · cases h

def F_RCompare : List PV → Tr PV
  | [.agg [.int .i64 k, .int .i64 n, .str s], .agg [.int .i64 k', .int .i64 n', .str s']] => .ret (.int .i64 (compareR k n s k' n' s'))
  | _ => .fail
theorem sim_RCompare (gl : Nat → Option Obj) : SimP Tryd.prog gl 26 fun args => (F_RCompare args).run := by
  refine SimP.of_tree (G := ofL []) (L := fun _ _ _ => .fail) tbT_ok gamOk_nil noMixed Tryd.func26 rfl (by rfl) (by kernel_rfl) (loopOk_none (by kernel_rfl)) ?_
  intro args x h hr
  unfold F_RCompare at h
  split at h
  · rename_i k n s k' n' s'
    cases h
    refine Tr.run_as (Tr.ite (bAnd (iEq k k') (bAnd (iEq n n') (bAnd (sEq s s') true))) (Tr.ret (PV.int IntKind.i64 0))
        (Tr.ite (iLt k k') (Tr.ret (PV.int IntKind.i64 (-1)))
          (Tr.ite (iEq k k')
            (Tr.ite (iLt n n') (Tr.ret (PV.int IntKind.i64 (-1))) (Tr.ite (iEq n n') (Tr.ite (sLt s s') (Tr.ret (PV.int IntKind.i64 (-1))) (Tr.ret (PV.int IntKind.i64 1))) (Tr.ret (PV.int IntKind.i64 1))))
            (Tr.ret (PV.int IntKind.i64 1))))) (by kernel_rfl) ?_
    simp
    try simp [compareR]
    try ((repeat' split) <;> first | rfl | (simp_all; done) | omega | (simp_all; omega))
  · cases h

def F_Holds : List PV → Tr PV
  | [.int .i64 op, .agg [.int .i64 k, .int .i64 n, .str s], .agg [.int .i64 k', .int .i64 n', .str s']] => .ret (.tup [.bool (holdsB op (compareV k n s k' n' s')), .int .i64 (holdsE op)])
  | _ => .fail
def F_RHolds : List PV → Tr PV
  | [.int .i64 op, .agg [.int .i64 k, .int .i64 n, .str s], .agg [.int .i64 k', .int .i64 n', .str s']] => .ret (.tup [.bool (holdsB op (compareR k n s k' n' s')), .int .i64 (holdsE op)])
  | _ => .fail
def cutS (s : List UInt8) : List UInt8 := s.take 300
def isPre (a b : List UInt8) : Bool := decide (b.length ≤ a.length) && decide (a.take b.length = b)
def isSuf (a b : List UInt8) : Bool := decide (b.length ≤ a.length) && decide (a.drop (a.length - b.length) = b)
def F_cut : List PV → Tr PV
  | [.agg [.int .i64 k, .int .i64 n, .str s]] => .ret (.agg [.int .i64 k, .int .i64 n, .str (cutS s)])
  | _ => .fail
def F_HasPre0 : List PV → Tr PV
  | [.str a, .str b] => .ret (.bool (isPre a b))
  | _ => .fail
theorem sim_HasPre0 (gl : Nat → Option Obj) : SimP Tryd.prog gl 114 fun args => (F_HasPre0 args).run := by
  refine SimP.of_tree (G := ofL []) (L := fun _ _ _ => .fail) tbT_ok gamOk_nil noMixed Tryd.func114 rfl (by rfl) (by kernel_rfl) (loopOk_none (by kernel_rfl)) ?_
  intro args x h hr
  unfold F_HasPre0 at h
  split at h
  · rename_i a b
    cases h
    have h1 := rel_str hr 0 rfl
    have h2 := rel_str hr 1 rfl
    unfold maxLen at h1 h2
    refine Tr.run_as (Tr.ite (iLe (sLen b) (sLen a)) (Tr.ite (okSub true (okPos (sLen b)) 0 (nNat (sLen b)) (nLen a)) (Tr.ret (PV.bool (sEq (sSub a 0 (nNat (sLen b))) b))) Tr.fail) (Tr.ret (PV.bool false))) (by kernel_rfl) ?_
    simp [iSub]
    by_cases hl : b.length ≤ a.length
    · simp [isPre, hl]
    · simp [isPre, hl]
  · cases h

def F_HasSuf0 : List PV → Tr PV
  | [.str a, .str b] => .ret (.bool (isSuf a b))
  | _ => .fail
theorem sim_HasSuf0 (gl : Nat → Option Obj) : SimP Tryd.prog gl 115 fun args => (F_HasSuf0 args).run := by
  refine SimP.of_tree (G := ofL []) (L := fun _ _ _ => .fail) tbT_ok gamOk_nil noMixed Tryd.func115 rfl (by rfl) (by kernel_rfl) (loopOk_none (by kernel_rfl)) ?_
  intro args x h hr
  unfold F_HasSuf0 at h
  split at h
  · rename_i a b
    cases h
    have h1 := rel_str hr 0 rfl
    have h2 := rel_str hr 1 rfl
    unfold maxLen at h1 h2
    refine Tr.run_as (Tr.ite (iLe (sLen b) (sLen a))
        (Tr.ite (okSub (okPos (iSub IntKind.i64 (sLen a) (sLen b))) true (nNat (iSub IntKind.i64 (sLen a) (sLen b))) (nLen a) (nLen a))
          (Tr.ret (PV.bool (sEq (sSub a (nNat (iSub IntKind.i64 (sLen a) (sLen b))) (nLen a)) b))) Tr.fail)
        (Tr.ret (PV.bool false))) (by kernel_rfl) ?_
    simp [iSub]
    by_cases hl : b.length ≤ a.length
    · have e : IntKind.wrap .i64 ((a.length : Int) - b.length) = (a.length : Int) - b.length := wrap_i64 (by omega)
      have e2 : ((a.length : Int) - b.length).toNat = a.length - b.length := by omega
      rw [if_pos hl, e, if_pos (by omega), e2]
      simp [isSuf, hl]
    · simp [isSuf, hl]
  · cases h

def F_HasPre : List PV → Tr PV
  | [.str a, .str b] => .ret (.bool (isPre a b))
  | _ => .fail
theorem sim_HasPre (gl : Nat → Option Obj) : SimP Tryd.prog gl 101 fun args => (F_HasPre args).run := by
  refine SimP.of_tree (G := ofL [(114, .pure F_HasPre0)]) (L := fun _ _ _ => .fail) tbT_ok (gamOk_cons (sim_HasPre0 gl) gamOk_nil) noMixed Tryd.func101 rfl (by rfl) (by kernel_rfl) (loopOk_none (by kernel_rfl)) ?_
  intro args x h hr
  unfold F_HasPre at h
  split at h
  · rename_i a b
    cases h
    refine Tr.run_as (Tr.ret (PV.bool (isPre a b))) (by kernel_rfl) ?_
    simp
    try simp
    try ((repeat' split) <;> first | rfl | (simp_all; done) | omega | (simp_all; omega))
  · cases h

def F_HasSuf : List PV → Tr PV
  | [.str a, .str b] => .ret (.bool (isSuf a b))
  | _ => .fail
theorem sim_HasSuf (gl : Nat → Option Obj) : SimP Tryd.prog gl 102 fun args => (F_HasSuf args).run := by
  refine SimP.of_tree (G := ofL [(115, .pure F_HasSuf0)]) (L := fun _ _ _ => .fail) tbT_ok (gamOk_cons (sim_HasSuf0 gl) gamOk_nil) noMixed Tryd.func102 rfl (by rfl) (by kernel_rfl) (loopOk_none (by kernel_rfl)) ?_
  intro args x h hr
  unfold F_HasSuf at h
  split at h
  · rename_i a b
    cases h
    refine Tr.run_as (Tr.ret (PV.bool (isSuf a b))) (by kernel_rfl) ?_
    simp
    try simp
    try ((repeat' split) <;> first | rfl | (simp_all; done) | omega | (simp_all; omega))
  · cases h

def hexL : List UInt8 := [48, 49, 50, 51, 52, 53, 54, 55, 56, 57, 97, 98, 99, 100, 101, 102]
theorem hexIdx (n : Fin 256) : okIdx hexL (iShr .u8 (n.val : Int) 4) = true ∧ okIdx hexL (iAnd .u8 (n.val : Int) 15) = true ∧ okAscii (iWrap .i32 (sAt hexL (iShr .u8 (n.val : Int) 4))) = true ∧ okAscii (iWrap .i32 (sAt hexL (iAnd .u8 (n.val : Int) 15))) = true := by
  revert n
  decide +kernel
/-- A byte's text in a symbol. -/
def oneV (c : Int) : List UInt8 :=
  if c = 34 ∨ c = 92 then [92, UInt8.ofNat c.toNat] else if c = 10 then [92, 110] else if c = 9 then [92, 116] else if 32 ≤ c ∧ c ≤ 126 then [UInt8.ofNat c.toNat]
  else [92, 120, UInt8.ofNat (sAt hexL (iShr .u8 c 4)).toNat, UInt8.ofNat (sAt hexL (iAnd .u8 c 15)).toNat]
def F_one : List PV → Tr PV
  | [.int .u8 c] => .ret (.str (oneV c))
  | _ => .fail
theorem sim_one (gl : Nat → Option Obj) : SimP Tryd.prog gl 95 fun args => (F_one args).run := by
  refine SimP.of_tree (G := ofL []) (L := fun _ _ _ => .fail) tbT_ok gamOk_nil noMixed Tryd.func95 rfl (by rfl) (by kernel_rfl) (loopOk_none (by kernel_rfl)) ?_
  intro args x h hr
  unfold F_one at h
  split at h
  · rename_i c
    cases h
    have h1 := rel_int hr 0 rfl
    obtain ⟨n, rfl⟩ := byte_fin h1
    refine Tr.run_as (Tr.ite (iEq (Int.ofNat n.1) 34)
        (Tr.ite (okAscii (iWrap IntKind.i32 (Int.ofNat n.1)))
          (Tr.ite (okApp [92] (sOne (iWrap IntKind.i32 (Int.ofNat n.1)))) (Tr.ret (PV.str (sApp [92] (sOne (iWrap IntKind.i32 (Int.ofNat n.1)))))) Tr.fail) Tr.fail)
        (Tr.ite (iEq (Int.ofNat n.1) 92)
          (Tr.ite (okAscii (iWrap IntKind.i32 (Int.ofNat n.1)))
            (Tr.ite (okApp [92] (sOne (iWrap IntKind.i32 (Int.ofNat n.1)))) (Tr.ret (PV.str (sApp [92] (sOne (iWrap IntKind.i32 (Int.ofNat n.1)))))) Tr.fail) Tr.fail)
          (Tr.ite (iEq (Int.ofNat n.1) 10) (Tr.ret (PV.str [92, 110]))
            (Tr.ite (iEq (Int.ofNat n.1) 9) (Tr.ret (PV.str [92, 116]))
              (Tr.ite (iLe 32 (Int.ofNat n.1))
                (Tr.ite (iLe (Int.ofNat n.1) 126) (Tr.ite (okAscii (iWrap IntKind.i32 (Int.ofNat n.1))) (Tr.ret (PV.str (sOne (iWrap IntKind.i32 (Int.ofNat n.1))))) Tr.fail)
                  (Tr.ite (okIdx [48, 49, 50, 51, 52, 53, 54, 55, 56, 57, 97, 98, 99, 100, 101, 102] (iShr IntKind.u8 (Int.ofNat n.1) 4))
                    (Tr.ite (okAscii (iWrap IntKind.i32 (sAt [48, 49, 50, 51, 52, 53, 54, 55, 56, 57, 97, 98, 99, 100, 101, 102] (iShr IntKind.u8 (Int.ofNat n.1) 4))))
                      (Tr.ite (okApp [92, 120] (sOne (iWrap IntKind.i32 (sAt [48, 49, 50, 51, 52, 53, 54, 55, 56, 57, 97, 98, 99, 100, 101, 102] (iShr IntKind.u8 (Int.ofNat n.1) 4)))))
                        (Tr.ite (okIdx [48, 49, 50, 51, 52, 53, 54, 55, 56, 57, 97, 98, 99, 100, 101, 102] (iAnd IntKind.u8 (Int.ofNat n.1) 15))
                          (Tr.ite (okAscii (iWrap IntKind.i32 (sAt [48, 49, 50, 51, 52, 53, 54, 55, 56, 57, 97, 98, 99, 100, 101, 102] (iAnd IntKind.u8 (Int.ofNat n.1) 15))))
                            (Tr.ite
                              (okApp (sApp [92, 120] (sOne (iWrap IntKind.i32 (sAt [48, 49, 50, 51, 52, 53, 54, 55, 56, 57, 97, 98, 99, 100, 101, 102] (iShr IntKind.u8 (Int.ofNat n.1) 4)))))
                                (sOne (iWrap IntKind.i32 (sAt [48, 49, 50, 51, 52, 53, 54, 55, 56, 57, 97, 98, 99, 100, 101, 102] (iAnd IntKind.u8 (Int.ofNat n.1) 15)))))
                              (Tr.ret
                                (PV.str
                                  (sApp (sApp [92, 120] (sOne (iWrap IntKind.i32 (sAt [48, 49, 50, 51, 52, 53, 54, 55, 56, 57, 97, 98, 99, 100, 101, 102] (iShr IntKind.u8 (Int.ofNat n.1) 4)))))
                                    (sOne (iWrap IntKind.i32 (sAt [48, 49, 50, 51, 52, 53, 54, 55, 56, 57, 97, 98, 99, 100, 101, 102] (iAnd IntKind.u8 (Int.ofNat n.1) 15)))))))
                              Tr.fail)
                            Tr.fail)
                          Tr.fail)
                        Tr.fail)
                      Tr.fail)
                    Tr.fail))
                (Tr.ite (okIdx [48, 49, 50, 51, 52, 53, 54, 55, 56, 57, 97, 98, 99, 100, 101, 102] (iShr IntKind.u8 (Int.ofNat n.1) 4))
                  (Tr.ite (okAscii (iWrap IntKind.i32 (sAt [48, 49, 50, 51, 52, 53, 54, 55, 56, 57, 97, 98, 99, 100, 101, 102] (iShr IntKind.u8 (Int.ofNat n.1) 4))))
                    (Tr.ite (okApp [92, 120] (sOne (iWrap IntKind.i32 (sAt [48, 49, 50, 51, 52, 53, 54, 55, 56, 57, 97, 98, 99, 100, 101, 102] (iShr IntKind.u8 (Int.ofNat n.1) 4)))))
                      (Tr.ite (okIdx [48, 49, 50, 51, 52, 53, 54, 55, 56, 57, 97, 98, 99, 100, 101, 102] (iAnd IntKind.u8 (Int.ofNat n.1) 15))
                        (Tr.ite (okAscii (iWrap IntKind.i32 (sAt [48, 49, 50, 51, 52, 53, 54, 55, 56, 57, 97, 98, 99, 100, 101, 102] (iAnd IntKind.u8 (Int.ofNat n.1) 15))))
                          (Tr.ite
                            (okApp (sApp [92, 120] (sOne (iWrap IntKind.i32 (sAt [48, 49, 50, 51, 52, 53, 54, 55, 56, 57, 97, 98, 99, 100, 101, 102] (iShr IntKind.u8 (Int.ofNat n.1) 4)))))
                              (sOne (iWrap IntKind.i32 (sAt [48, 49, 50, 51, 52, 53, 54, 55, 56, 57, 97, 98, 99, 100, 101, 102] (iAnd IntKind.u8 (Int.ofNat n.1) 15)))))
                            (Tr.ret
                              (PV.str
                                (sApp (sApp [92, 120] (sOne (iWrap IntKind.i32 (sAt [48, 49, 50, 51, 52, 53, 54, 55, 56, 57, 97, 98, 99, 100, 101, 102] (iShr IntKind.u8 (Int.ofNat n.1) 4)))))
                                  (sOne (iWrap IntKind.i32 (sAt [48, 49, 50, 51, 52, 53, 54, 55, 56, 57, 97, 98, 99, 100, 101, 102] (iAnd IntKind.u8 (Int.ofNat n.1) 15)))))))
                            Tr.fail)
                          Tr.fail)
                        Tr.fail)
                      Tr.fail)
                    Tr.fail)
                  Tr.fail)))))) (by kernel_rfl) ?_
    clear hr h1
    apply eqStr_eq
    revert n
    decide +kernel
  · cases h

def rhexV (c : Int) : Int := if c < 10 then iAdd .u8 48 c else iSub .u8 (iAdd .u8 97 c) 10
def rdigV (c : Int) : Int := if 48 ≤ c ∧ c ≤ 57 then c - 48 else if 97 ≤ c ∧ c ≤ 102 then c - 87 else -1
def F_Rhex : List PV → Tr PV
  | [.int .u8 c] => .ret (.int .u8 (rhexV c))
  | _ => .fail
def F_Rdig : List PV → Tr PV
  | [.int .u8 c] => .ret (.int .i64 (rdigV c))
  | _ => .fail
def F_Rone : List PV → Tr PV
  | [.int .u8 c] => .ret (.sl (bytesOf (oneV c)) .non)
  | _ => .fail
end Go.Pv
