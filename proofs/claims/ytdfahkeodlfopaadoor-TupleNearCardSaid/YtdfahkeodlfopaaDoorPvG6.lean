/- Part 6 of the proof: pure values for the machine's values, what functions compute over them, and laws of what is computed. Conditions: none beyond each theorem's own premises. -/
import Derived.Test.YtdfahkeodlfopaaDoorPvG5
import Derived.Test.YtdfahkeodlfopaaDoorShelf
import Derived.Lib.AppendIntMem
import Derived.Lib.ItoaLen
import Derived.Lib.ParseIntBTie
import Derived.Shelf.Strings.BuilderK
import Derived.Test.YtdfahkeodlfopaaDoorCards
import Derived.Test.YtdfahkeodlfopaaDoorTie
set_option maxHeartbeats 4000000
set_option maxRecDepth 200000
set_option linter.unusedSimpArgs false
set_option linter.unusedVariables false
namespace Go.Pv
open Go Go.Proofs
noncomputable def G_stb : GamT := ofL [(16, .pure F_TCmp), (119, .store D_ins), (120, .store D_rec)]
theorem gok_stb (gl : Nat → Option Obj) : GamOk Tryd.prog gl (gam G_stb) := (gamOk_cons (sim_TCmp gl) (gamOk_store (sim_ins gl) (gamOk_store (sim_sm gl) gamOk_nil)))
noncomputable def c_stb1 : Code := loopC Tryd.f108 2
noncomputable def c_stb2 : Code := loopC Tryd.f108 7
noncomputable def c_stb3 : Code := loopC Tryd.f108 9
def I_stb1 : LI := ⟨63, [0, 1, 2, 6, 7, 8], fun e => match e with | .exit 0 => [0, 1, 2, 6, 7] | _ => [], false⟩
noncomputable def LI_stb1 : LpsT := fun r fr σ => .fail
noncomputable def stb1_V (vs : List PV) (σ : Store) : Option (PExit × List PV × Store) := lval (lstep tbT G_stb LI_stb1 c_stb1 I_stb1) vs σ
noncomputable def stb1_Tr (data : Nat) (data2 : Nat) (n : Int) (blockSize : Int) (a : Int) (b : Int) (l : List PV) (l2 : List PV) (rest : List (List PV)) (toks : List (Nat × Nat × TypeId)) (tys : List TypeId) : Tr LR := Tr.ite (iLe b n)
  (Tr.ite (ins_is0 data data2 a b l l2 rest toks tys)
    (Tr.ret
      (LR.next [PV.osl 1 data data2 1, PV.int .i64 n, PV.fn 16 [], PV.int .i64 blockSize, PV.int .i64 b, PV.int .i64 (iAdd .i64 b blockSize)]
        (Store.mk (l :: ins_l2 data data2 a b l l2 rest toks tys :: rest) toks (82 :: 1000023 :: tys))))
    Tr.fail)
  (Tr.ret
    (LR.out (.exit 0) [PV.osl 1 data data2 1, PV.int .i64 n, PV.fn 16 [], PV.int .i64 blockSize, PV.int .i64 a]
      (Store.mk (l :: l2 :: rest) toks (82 :: 1000023 :: tys))))
theorem stb1_T (data : Nat) (data2 : Nat) (n : Int) (blockSize : Int) (a : Int) (b : Int) (l : List PV) (l2 : List PV) (rest : List (List PV)) (toks : List (Nat × Nat × TypeId)) (tys : List TypeId) : lstep tbT G_stb LI_stb1 c_stb1 I_stb1 [.osl 1 data data2 1, .int .i64 n, .fn 16 [], .int .i64 blockSize, .int .i64 a, .int .i64 b] ⟨(l :: l2 :: rest), (toks), (82 :: 1000023 :: tys)⟩ = stb1_Tr data data2 n blockSize a b l l2 rest toks tys := by kernel_rfl
theorem stb1_E (data : Nat) (data2 : Nat) (n : Int) (blockSize : Int) (a : Int) (b : Int) (l : List PV) (l2 : List PV) (rest : List (List PV)) (toks : List (Nat × Nat × TypeId)) (tys : List TypeId) : stb1_V [.osl 1 data data2 1, .int .i64 n, .fn 16 [], .int .i64 blockSize, .int .i64 a, .int .i64 b] ⟨(l :: l2 :: rest), (toks), (82 :: 1000023 :: tys)⟩ = lnext stb1_V (stb1_Tr data data2 n blockSize a b l l2 rest toks tys).run := by unfold stb1_V; rw [lval_eq, stb1_T]
noncomputable def stb1_W (data : Nat) (data2 : Nat) (n : Int) (blockSize : Int) (a : Int) (b : Int) (l : List PV) (l2 : List PV) (rest : List (List PV)) (toks : List (Nat × Nat × TypeId)) (tys : List TypeId) : Option (PExit × List PV × Store) := stb1_V [.osl 1 data data2 1, .int .i64 n, .fn 16 [], .int .i64 blockSize, .int .i64 a, .int .i64 b] ⟨(l :: l2 :: rest), (toks), (82 :: 1000023 :: tys)⟩
noncomputable def stb1_a (data : Nat) (data2 : Nat) (n : Int) (blockSize : Int) (a : Int) (b : Int) (l : List PV) (l2 : List PV) (rest : List (List PV)) (toks : List (Nat × Nat × TypeId)) (tys : List TypeId) : Int := (gInt (gOut (stb1_W data data2 n blockSize a b l l2 rest toks tys) 4))
noncomputable def stb1_l2 (data : Nat) (data2 : Nat) (n : Int) (blockSize : Int) (a : Int) (b : Int) (l : List PV) (l2 : List PV) (rest : List (List PV)) (toks : List (Nat × Nat × TypeId)) (tys : List TypeId) : List PV := (gObj (stb1_W data data2 n blockSize a b l l2 rest toks tys) 1)
noncomputable def stb1_is0 (data : Nat) (data2 : Nat) (n : Int) (blockSize : Int) (a : Int) (b : Int) (l : List PV) (l2 : List PV) (rest : List (List PV)) (toks : List (Nat × Nat × TypeId)) (tys : List TypeId) : Bool := isW (stb1_W data data2 n blockSize a b l l2 rest toks tys) ((.exit 0), [.osl 1 data data2 1, .int .i64 n, .fn 16 [], .int .i64 blockSize, .int .i64 (stb1_a data data2 n blockSize a b l l2 rest toks tys)], ⟨(l :: (stb1_l2 data data2 n blockSize a b l l2 rest toks tys) :: rest), (toks), (82 :: 1000023 :: tys)⟩)
noncomputable def stb1_prop : List PV → Store → Tr (PExit × List PV × Store) | [.osl 1 data data2 1, .int .i64 n, .fn 16 [], .int .i64 blockSize, .int .i64 a, .int .i64 b], ⟨(l :: l2 :: rest), (toks), (82 :: 1000023 :: tys)⟩ => .ite (stb1_is0 data data2 n blockSize a b l l2 rest toks tys) (.ret ((.exit 0), [.osl 1 data data2 1, .int .i64 n, .fn 16 [], .int .i64 blockSize, .int .i64 (stb1_a data data2 n blockSize a b l l2 rest toks tys)], ⟨(l :: (stb1_l2 data data2 n blockSize a b l l2 rest toks tys) :: rest), (toks), (82 :: 1000023 :: tys)⟩)) (.fail) | _, _ => .fail
theorem stb1_ok : ∀ vs σ r, (stb1_prop vs σ).run = some r → stb1_V vs σ = some r := by
  intro vs σ r h
  unfold stb1_prop at h
  split at h
  · exact ite_isW h fun h => by cases h
  · cases h
theorem loop_stb1 (gl : Nat → Option Obj) : ∀ fr σ e fr' σ', (orc I_stb1 stb1_prop fr σ).run = some (e, fr', σ') → LDoes Tryd.prog gl c_stb1 fr σ e fr' σ' := orc_ok tbT_ok (gok_stb gl ) noMixed (L := LI_stb1) (loopOk_none (by kernel_rfl)) (by kernel_rfl) stb1_ok
def I_stb3 : LI := ⟨63, [0, 1, 2, 6, 7, 8], fun e => match e with | .exit 4 => [0, 1, 2, 6, 7] | _ => [], false⟩
noncomputable def LI_stb3 : LpsT := fun r fr σ => .fail
noncomputable def stb3_V (vs : List PV) (σ : Store) : Option (PExit × List PV × Store) := lval (lstep tbT G_stb LI_stb3 c_stb3 I_stb3) vs σ
noncomputable def stb3_Tr (data : Nat) (data2 : Nat) (n : Int) (blockSize : Int) (a : Int) (b : Int) (l : List PV) (l2 : List PV) (rest : List (List PV)) (toks : List (Nat × Nat × TypeId)) (tys : List TypeId) : Tr LR := Tr.ite (iLe b n)
  (Tr.ite (rec_is0 data data2 a (iAdd .i64 a blockSize) b l l2 rest toks tys)
    (Tr.ret
      (LR.next
        [PV.osl 1 data data2 1, PV.int .i64 n, PV.fn 16 [], PV.int .i64 blockSize, PV.int .i64 b,
          PV.int .i64 (iAdd .i64 b (iMul .i64 2 blockSize))]
        (Store.mk (l :: rec_l data data2 a (iAdd .i64 a blockSize) b l l2 rest toks tys :: rest) toks (82 :: 1000023 :: tys))))
    Tr.fail)
  (Tr.ret
    (LR.out (.exit 4) [PV.osl 1 data data2 1, PV.int .i64 n, PV.fn 16 [], PV.int .i64 blockSize, PV.int .i64 a]
      (Store.mk (l :: l2 :: rest) toks (82 :: 1000023 :: tys))))
theorem stb3_T (data : Nat) (data2 : Nat) (n : Int) (blockSize : Int) (a : Int) (b : Int) (l : List PV) (l2 : List PV) (rest : List (List PV)) (toks : List (Nat × Nat × TypeId)) (tys : List TypeId) : lstep tbT G_stb LI_stb3 c_stb3 I_stb3 [.osl 1 data data2 1, .int .i64 n, .fn 16 [], .int .i64 blockSize, .int .i64 a, .int .i64 b] ⟨(l :: l2 :: rest), (toks), (82 :: 1000023 :: tys)⟩ = stb3_Tr data data2 n blockSize a b l l2 rest toks tys := by kernel_rfl
theorem stb3_E (data : Nat) (data2 : Nat) (n : Int) (blockSize : Int) (a : Int) (b : Int) (l : List PV) (l2 : List PV) (rest : List (List PV)) (toks : List (Nat × Nat × TypeId)) (tys : List TypeId) : stb3_V [.osl 1 data data2 1, .int .i64 n, .fn 16 [], .int .i64 blockSize, .int .i64 a, .int .i64 b] ⟨(l :: l2 :: rest), (toks), (82 :: 1000023 :: tys)⟩ = lnext stb3_V (stb3_Tr data data2 n blockSize a b l l2 rest toks tys).run := by unfold stb3_V; rw [lval_eq, stb3_T]
noncomputable def stb3_W (data : Nat) (data2 : Nat) (n : Int) (blockSize : Int) (a : Int) (b : Int) (l : List PV) (l2 : List PV) (rest : List (List PV)) (toks : List (Nat × Nat × TypeId)) (tys : List TypeId) : Option (PExit × List PV × Store) := stb3_V [.osl 1 data data2 1, .int .i64 n, .fn 16 [], .int .i64 blockSize, .int .i64 a, .int .i64 b] ⟨(l :: l2 :: rest), (toks), (82 :: 1000023 :: tys)⟩
noncomputable def stb3_a (data : Nat) (data2 : Nat) (n : Int) (blockSize : Int) (a : Int) (b : Int) (l : List PV) (l2 : List PV) (rest : List (List PV)) (toks : List (Nat × Nat × TypeId)) (tys : List TypeId) : Int := (gInt (gOut (stb3_W data data2 n blockSize a b l l2 rest toks tys) 4))
noncomputable def stb3_l2 (data : Nat) (data2 : Nat) (n : Int) (blockSize : Int) (a : Int) (b : Int) (l : List PV) (l2 : List PV) (rest : List (List PV)) (toks : List (Nat × Nat × TypeId)) (tys : List TypeId) : List PV := (gObj (stb3_W data data2 n blockSize a b l l2 rest toks tys) 1)
noncomputable def stb3_is0 (data : Nat) (data2 : Nat) (n : Int) (blockSize : Int) (a : Int) (b : Int) (l : List PV) (l2 : List PV) (rest : List (List PV)) (toks : List (Nat × Nat × TypeId)) (tys : List TypeId) : Bool := isW (stb3_W data data2 n blockSize a b l l2 rest toks tys) ((.exit 4), [.osl 1 data data2 1, .int .i64 n, .fn 16 [], .int .i64 blockSize, .int .i64 (stb3_a data data2 n blockSize a b l l2 rest toks tys)], ⟨(l :: (stb3_l2 data data2 n blockSize a b l l2 rest toks tys) :: rest), (toks), (82 :: 1000023 :: tys)⟩)
noncomputable def stb3_prop : List PV → Store → Tr (PExit × List PV × Store) | [.osl 1 data data2 1, .int .i64 n, .fn 16 [], .int .i64 blockSize, .int .i64 a, .int .i64 b], ⟨(l :: l2 :: rest), (toks), (82 :: 1000023 :: tys)⟩ => .ite (stb3_is0 data data2 n blockSize a b l l2 rest toks tys) (.ret ((.exit 4), [.osl 1 data data2 1, .int .i64 n, .fn 16 [], .int .i64 blockSize, .int .i64 (stb3_a data data2 n blockSize a b l l2 rest toks tys)], ⟨(l :: (stb3_l2 data data2 n blockSize a b l l2 rest toks tys) :: rest), (toks), (82 :: 1000023 :: tys)⟩)) (.fail) | _, _ => .fail
theorem stb3_ok : ∀ vs σ r, (stb3_prop vs σ).run = some r → stb3_V vs σ = some r := by
  intro vs σ r h
  unfold stb3_prop at h
  split at h
  · exact ite_isW h fun h => by cases h
  · cases h
theorem loop_stb3 (gl : Nat → Option Obj) : ∀ fr σ e fr' σ', (orc I_stb3 stb3_prop fr σ).run = some (e, fr', σ') → LDoes Tryd.prog gl c_stb3 fr σ e fr' σ' := orc_ok tbT_ok (gok_stb gl ) noMixed (L := LI_stb3) (loopOk_none (by kernel_rfl)) (by kernel_rfl) stb3_ok
def I_stb2 : LI := ⟨63, [0, 1, 2, 6], fun e => match e with | .exit 2 => [] | _ => [], false⟩
noncomputable def LI_stb2 : LpsT := fun r fr σ => bif Nat.beq r 9 then orc I_stb3 stb3_prop fr σ else .fail
noncomputable def stb2_V (vs : List PV) (σ : Store) : Option (PExit × List PV × Store) := lval (lstep tbT G_stb LI_stb2 c_stb2 I_stb2) vs σ
noncomputable def stb2_Tr (data : Nat) (data2 : Nat) (n : Int) (blockSize : Int) (l : List PV) (l2 : List PV) (rest : List (List PV)) (toks : List (Nat × Nat × TypeId)) (tys : List TypeId) : Tr LR := Tr.ite (iLt blockSize n)
  (Tr.ite (stb3_is0 data data2 n blockSize 0 (iMul .i64 2 blockSize) l l2 rest toks tys)
    (Tr.ite (iLt (iAdd .i64 (stb3_a data data2 n blockSize 0 (iMul .i64 2 blockSize) l l2 rest toks tys) blockSize) n)
      (Tr.ite
        (rec_is0 data data2 (stb3_a data data2 n blockSize 0 (iMul .i64 2 blockSize) l l2 rest toks tys)
          (iAdd .i64 (stb3_a data data2 n blockSize 0 (iMul .i64 2 blockSize) l l2 rest toks tys) blockSize) n l
          (stb3_l2 data data2 n blockSize 0 (iMul .i64 2 blockSize) l l2 rest toks tys) rest toks tys)
        (Tr.ret
          (LR.next [PV.osl 1 data data2 1, PV.int .i64 n, PV.fn 16 [], PV.int .i64 (iMul .i64 blockSize 2)]
            (Store.mk
              (l ::
                rec_l data data2 (stb3_a data data2 n blockSize 0 (iMul .i64 2 blockSize) l l2 rest toks tys)
                    (iAdd .i64 (stb3_a data data2 n blockSize 0 (iMul .i64 2 blockSize) l l2 rest toks tys) blockSize) n l
                    (stb3_l2 data data2 n blockSize 0 (iMul .i64 2 blockSize) l l2 rest toks tys) rest toks tys ::
                  rest)
              toks (82 :: 1000023 :: tys))))
        Tr.fail)
      (Tr.ret
        (LR.next [PV.osl 1 data data2 1, PV.int .i64 n, PV.fn 16 [], PV.int .i64 (iMul .i64 blockSize 2)]
          (Store.mk (l :: stb3_l2 data data2 n blockSize 0 (iMul .i64 2 blockSize) l l2 rest toks tys :: rest) toks (82 :: 1000023 :: tys)))))
    Tr.fail)
  (Tr.ret (LR.out (.exit 2) [] (Store.mk (l :: l2 :: rest) toks (82 :: 1000023 :: tys))))
theorem stb2_T (data : Nat) (data2 : Nat) (n : Int) (blockSize : Int) (l : List PV) (l2 : List PV) (rest : List (List PV)) (toks : List (Nat × Nat × TypeId)) (tys : List TypeId) : lstep tbT G_stb LI_stb2 c_stb2 I_stb2 [.osl 1 data data2 1, .int .i64 n, .fn 16 [], .int .i64 blockSize] ⟨(l :: l2 :: rest), (toks), (82 :: 1000023 :: tys)⟩ = stb2_Tr data data2 n blockSize l l2 rest toks tys := by kernel_rfl
theorem stb2_E (data : Nat) (data2 : Nat) (n : Int) (blockSize : Int) (l : List PV) (l2 : List PV) (rest : List (List PV)) (toks : List (Nat × Nat × TypeId)) (tys : List TypeId) : stb2_V [.osl 1 data data2 1, .int .i64 n, .fn 16 [], .int .i64 blockSize] ⟨(l :: l2 :: rest), (toks), (82 :: 1000023 :: tys)⟩ = lnext stb2_V (stb2_Tr data data2 n blockSize l l2 rest toks tys).run := by unfold stb2_V; rw [lval_eq, stb2_T]
noncomputable def stb2_W (data : Nat) (data2 : Nat) (n : Int) (blockSize : Int) (l : List PV) (l2 : List PV) (rest : List (List PV)) (toks : List (Nat × Nat × TypeId)) (tys : List TypeId) : Option (PExit × List PV × Store) := stb2_V [.osl 1 data data2 1, .int .i64 n, .fn 16 [], .int .i64 blockSize] ⟨(l :: l2 :: rest), (toks), (82 :: 1000023 :: tys)⟩
noncomputable def stb2_l2 (data : Nat) (data2 : Nat) (n : Int) (blockSize : Int) (l : List PV) (l2 : List PV) (rest : List (List PV)) (toks : List (Nat × Nat × TypeId)) (tys : List TypeId) : List PV := (gObj (stb2_W data data2 n blockSize l l2 rest toks tys) 1)
noncomputable def stb2_is0 (data : Nat) (data2 : Nat) (n : Int) (blockSize : Int) (l : List PV) (l2 : List PV) (rest : List (List PV)) (toks : List (Nat × Nat × TypeId)) (tys : List TypeId) : Bool := isW (stb2_W data data2 n blockSize l l2 rest toks tys) ((.exit 2), [], ⟨(l :: (stb2_l2 data data2 n blockSize l l2 rest toks tys) :: rest), (toks), (82 :: 1000023 :: tys)⟩)
noncomputable def stb2_prop : List PV → Store → Tr (PExit × List PV × Store) | [.osl 1 data data2 1, .int .i64 n, .fn 16 [], .int .i64 blockSize], ⟨(l :: l2 :: rest), (toks), (82 :: 1000023 :: tys)⟩ => .ite (stb2_is0 data data2 n blockSize l l2 rest toks tys) (.ret ((.exit 2), [], ⟨(l :: (stb2_l2 data data2 n blockSize l l2 rest toks tys) :: rest), (toks), (82 :: 1000023 :: tys)⟩)) (.fail) | _, _ => .fail
theorem stb2_ok : ∀ vs σ r, (stb2_prop vs σ).run = some r → stb2_V vs σ = some r := by
  intro vs σ r h
  unfold stb2_prop at h
  split at h
  · exact ite_isW h fun h => by cases h
  · cases h
theorem loop_stb2 (gl : Nat → Option Obj) : ∀ fr σ e fr' σ', (orc I_stb2 stb2_prop fr σ).run = some (e, fr', σ') → LDoes Tryd.prog gl c_stb2 fr σ e fr' σ' := orc_ok tbT_ok (gok_stb gl ) noMixed (L := LI_stb2) (loopOk_all (L := lps LI_stb2) [(9, c_stb3)] (by kernel_rfl) (List.forall_mem_cons.2 ⟨fun fr σ e fr' σ' h => loop_stb3 gl  fr σ e fr' σ' h, (List.forall_mem_nil _)⟩)) (by kernel_rfl) stb2_ok
noncomputable def L_stb : LpsT := fun r fr σ => bif Nat.beq r 2 then orc I_stb1 stb1_prop fr σ else bif Nat.beq r 7 then orc I_stb2 stb2_prop fr σ else .fail
noncomputable def stb_Tr (off : Nat) (len : Nat) (n : Int) (c0 : List PV) (cs : List PV) (rest : List (List PV)) (toks : List (Nat × Nat × TypeId)) (tys : List TypeId) : Tr (PV × Store) := Tr.ite (stb1_is0 off len n 20 0 20 c0 cs rest toks tys)
  (Tr.ite (ins_is0 off len (stb1_a off len n 20 0 20 c0 cs rest toks tys) n c0 (stb1_l2 off len n 20 0 20 c0 cs rest toks tys) rest toks tys)
    (Tr.ite
      (stb2_is0 off len n 20 c0 (ins_l2 off len (stb1_a off len n 20 0 20 c0 cs rest toks tys) n c0 (stb1_l2 off len n 20 0 20 c0 cs rest toks tys) rest toks tys) rest toks tys)
      (Tr.ret
        (PV.tup [],
          Store.mk
            (c0 ::
              stb2_l2 off len n 20 c0 (ins_l2 off len (stb1_a off len n 20 0 20 c0 cs rest toks tys) n c0 (stb1_l2 off len n 20 0 20 c0 cs rest toks tys) rest toks tys) rest toks
                  tys ::
                rest)
            toks (82 :: 1000023 :: tys)))
      Tr.fail)
    Tr.fail)
  Tr.fail
theorem stb_T (off : Nat) (len : Nat) (n : Int) (c0 : List PV) (cs : List PV) (rest : List (List PV)) (toks : List (Nat × Nat × TypeId)) (tys : List TypeId) : (tcallS tbT G_stb L_stb Tryd.f108 [.osl 1 off len 1, .int .i64 n, .fn 16 []] ⟨c0 :: cs :: rest, toks, 82 :: 1000023 :: tys⟩).flat = stb_Tr off len n c0 cs rest toks tys := by kernel_rfl
noncomputable def stb_W (off : Nat) (len : Nat) (n : Int) (c0 : List PV) (cs : List PV) (rest : List (List PV)) (toks : List (Nat × Nat × TypeId)) (tys : List TypeId) : Option (PV × Store) := (stb_Tr off len n c0 cs rest toks tys).run
noncomputable def stb_l2 (off : Nat) (len : Nat) (n : Int) (c0 : List PV) (cs : List PV) (rest : List (List PV)) (toks : List (Nat × Nat × TypeId)) (tys : List TypeId) : List PV := (gObj (asOut (stb_W off len n c0 cs rest toks tys)) 1)
noncomputable def stb_is0 (off : Nat) (len : Nat) (n : Int) (c0 : List PV) (cs : List PV) (rest : List (List PV)) (toks : List (Nat × Nat × TypeId)) (tys : List TypeId) : Bool := isW (stb_W off len n c0 cs rest toks tys) (.tup [], ⟨(c0 :: (stb_l2 off len n c0 cs rest toks tys) :: rest), (toks), (82 :: 1000023 :: tys)⟩)
noncomputable def D_stb : List PV → Store → Tr (PV × Store) | [.osl 1 off len 1, .int .i64 n, .fn 16 []], ⟨c0 :: cs :: rest, toks, 82 :: 1000023 :: tys⟩ => .ite (stb_is0 off len n c0 cs rest toks tys) (.ret (.tup [], ⟨(c0 :: (stb_l2 off len n c0 cs rest toks tys) :: rest), (toks), (82 :: 1000023 :: tys)⟩)) (.fail) | _, _ => .fail
theorem sim_stb (gl : Nat → Option Obj) : SimS Tryd.prog gl 108 fun args σ => (D_stb args σ).run := by
  refine SimS.of_flat (G := G_stb) (L := L_stb) tbT_ok (gok_stb gl ) noMixed Tryd.func108 rfl (by rfl) (by kernel_rfl) (loopOk_all (L := lps L_stb) [(2, c_stb1), (7, c_stb2)] (by kernel_rfl) (List.forall_mem_cons.2 ⟨fun fr σ e fr' σ' h => loop_stb1 gl  fr σ e fr' σ' h, (List.forall_mem_cons.2 ⟨fun fr σ e fr' σ' h => loop_stb2 gl  fr σ e fr' σ' h, (List.forall_mem_nil _)⟩)⟩)) ?_
  intro args σ x h
  unfold D_stb at h
  split at h
  · exact (congrArg Tr.run (stb_T _ _ _ _ _ _ _ _)).trans (ite_isW h fun h => by cases h)
  · cases h
noncomputable def G_ssf : GamT := ofL [(16, .pure F_TCmp), (108, .store D_stb)]
theorem gok_ssf (gl : Nat → Option Obj) : GamOk Tryd.prog gl (gam G_ssf) := (gamOk_cons (sim_TCmp gl) (gamOk_store (sim_stb gl) gamOk_nil))
noncomputable def L_ssf : LpsT := fun r fr σ => .fail
noncomputable def ssf_Tr (off : Nat) (len : Nat) (c0 : List PV) (cs : List PV) (rest : List (List PV)) (toks : List (Nat × Nat × TypeId)) (tys : List TypeId) : Tr (PV × Store) := Tr.ite (stb_is0 off len (oLen len) c0 cs rest toks tys) (Tr.ret (PV.tup [], Store.mk (c0 :: stb_l2 off len (oLen len) c0 cs rest toks tys :: rest) toks (82 :: 1000023 :: tys)))
  Tr.fail
theorem ssf_T (off : Nat) (len : Nat) (c0 : List PV) (cs : List PV) (rest : List (List PV)) (toks : List (Nat × Nat × TypeId)) (tys : List TypeId) : (tcallS tbT G_ssf L_ssf Tryd.f83 [.osl 1 off len 1, .fn 16 []] ⟨c0 :: cs :: rest, toks, 82 :: 1000023 :: tys⟩).flat = ssf_Tr off len c0 cs rest toks tys := by kernel_rfl
noncomputable def ssf_W (off : Nat) (len : Nat) (c0 : List PV) (cs : List PV) (rest : List (List PV)) (toks : List (Nat × Nat × TypeId)) (tys : List TypeId) : Option (PV × Store) := (ssf_Tr off len c0 cs rest toks tys).run
noncomputable def ssf_l2 (off : Nat) (len : Nat) (c0 : List PV) (cs : List PV) (rest : List (List PV)) (toks : List (Nat × Nat × TypeId)) (tys : List TypeId) : List PV := (gObj (asOut (ssf_W off len c0 cs rest toks tys)) 1)
noncomputable def ssf_is0 (off : Nat) (len : Nat) (c0 : List PV) (cs : List PV) (rest : List (List PV)) (toks : List (Nat × Nat × TypeId)) (tys : List TypeId) : Bool := isW (ssf_W off len c0 cs rest toks tys) (.tup [], ⟨(c0 :: (ssf_l2 off len c0 cs rest toks tys) :: rest), (toks), (82 :: 1000023 :: tys)⟩)
noncomputable def D_ssf : List PV → Store → Tr (PV × Store) | [.osl 1 off len 1, .fn 16 []], ⟨c0 :: cs :: rest, toks, 82 :: 1000023 :: tys⟩ => .ite (ssf_is0 off len c0 cs rest toks tys) (.ret (.tup [], ⟨(c0 :: (ssf_l2 off len c0 cs rest toks tys) :: rest), (toks), (82 :: 1000023 :: tys)⟩)) (.fail) | _, _ => .fail
theorem sim_ssf (gl : Nat → Option Obj) : SimS Tryd.prog gl 83 fun args σ => (D_ssf args σ).run := by
  refine SimS.of_flat (G := G_ssf) (L := L_ssf) tbT_ok (gok_ssf gl ) noMixed Tryd.func83 rfl (by rfl) (by kernel_rfl) (loopOk_none (by kernel_rfl)) ?_
  intro args σ x h
  unfold D_ssf at h
  split at h
  · exact (congrArg Tr.run (ssf_T _ _ _ _ _ _ _)).trans (ite_isW h fun h => by cases h)
  · cases h
noncomputable def G_cpt : GamT := ofL [(85, .pure F_eq85)]
theorem gok_cpt (gl : Nat → Option Obj) : GamOk Tryd.prog gl (gam G_cpt) := (gamOk_cons (sim_eq85 gl) gamOk_nil)
noncomputable def c_cpt1 : Code := loopC Tryd.f84 4
noncomputable def c_cpt2 : Code := loopC Tryd.f84 9
def I_cpt2 : LI := ⟨66, [0, 1, 5, 6, 7], fun e => match e with | .exit 2 => [0, 5] | _ => [], false⟩
noncomputable def LI_cpt2 : LpsT := fun r fr σ => .fail
noncomputable def cpt2_V (vs : List PV) (σ : Store) : Option (PExit × List PV × Store) := lval (lstep tbT G_cpt LI_cpt2 c_cpt2 I_cpt2) vs σ
noncomputable def cpt2_Tr (o : Nat) (m : Nat) (n : Int) (o2 : Nat) (m2 : Nat) (n2 : Int) (r : List (List PV)) (l : List PV) (rest : List (List PV)) (toks : List (Nat × Nat × TypeId)) (tys : List TypeId) : Tr LR := Tr.ite (iLt n2 (oLen m2))
  (Tr.ite (okIx n2 m2)
    (Tr.ite (okCell [PV.sl [] .full] l (pOff o2 (nNat n2) 1))
      (Tr.ite (okIx (iSub .i64 n2 1) m2)
        (Tr.ite (okCell [PV.sl [] .full] l (pOff o2 (nNat (iSub .i64 n2 1)) 1))
          (Tr.ite (okR cV (lockLL (lockLL (lockLL (cRow l (pOff o2 (nNat n2) 1) 0)))))
            (Tr.ite (okR cV (lockLL (lockLL (lockLL (cRow l (pOff o2 (nNat (iSub .i64 n2 1)) 1) 0)))))
              (Tr.ite
                (bNot (iEq (cmpTV (lockLL (lockLL (lockLL (cRow l (pOff o2 (nNat n2) 1) 0)))) (lockLL (lockLL (lockLL (cRow l (pOff o2 (nNat (iSub .i64 n2 1)) 1) 0))))) 0))
                (Tr.ite (okIx n2 m2)
                  (Tr.ite (okCell [PV.sl [] .full] l (pOff o2 (nNat n2) 1))
                    (Tr.ite (okIx n m)
                      (Tr.ite (okOff l (pOff o (nNat n) 1) 1)
                        (Tr.ret
                          (LR.next [PV.osl 1 o m 1, PV.fn 85 [PV.ptr 0 0], PV.int .i64 (iAdd .i64 n 1), PV.osl 1 o2 m2 1, PV.int .i64 (iAdd .i64 n2 1)]
                            (Store.mk ([PV.sl r .own, PV.fn 16 []] :: putC l (pOff o (nNat n) 1) [PV.sl (cRow l (pOff o2 (nNat n2) 1) 0) .non] :: rest) toks
                              (82 :: 1000023 :: tys))))
                        Tr.fail)
                      Tr.fail)
                    Tr.fail)
                  Tr.fail)
                (Tr.ret
                  (LR.next [PV.osl 1 o m 1, PV.fn 85 [PV.ptr 0 0], PV.int .i64 n, PV.osl 1 o2 m2 1, PV.int .i64 (iAdd .i64 n2 1)]
                    (Store.mk ([PV.sl r .own, PV.fn 16 []] :: l :: rest) toks (82 :: 1000023 :: tys)))))
              Tr.fail)
            Tr.fail)
          Tr.fail)
        Tr.fail)
      Tr.fail)
    Tr.fail)
  (Tr.ret (LR.out (.exit 2) [PV.osl 1 o m 1, PV.int .i64 n] (Store.mk ([PV.sl r .own, PV.fn 16 []] :: l :: rest) toks (82 :: 1000023 :: tys))))
theorem cpt2_T (o : Nat) (m : Nat) (n : Int) (o2 : Nat) (m2 : Nat) (n2 : Int) (r : List (List PV)) (l : List PV) (rest : List (List PV)) (toks : List (Nat × Nat × TypeId)) (tys : List TypeId) : lstep tbT G_cpt LI_cpt2 c_cpt2 I_cpt2 [.osl 1 o m 1, .fn 85 [.ptr 0 0], .int .i64 n, .osl 1 o2 m2 1, .int .i64 n2] ⟨([.sl r .own, .fn 16 []] :: l :: rest), (toks), (82 :: 1000023 :: tys)⟩ = cpt2_Tr o m n o2 m2 n2 r l rest toks tys := by kernel_rfl
theorem cpt2_E (o : Nat) (m : Nat) (n : Int) (o2 : Nat) (m2 : Nat) (n2 : Int) (r : List (List PV)) (l : List PV) (rest : List (List PV)) (toks : List (Nat × Nat × TypeId)) (tys : List TypeId) : cpt2_V [.osl 1 o m 1, .fn 85 [.ptr 0 0], .int .i64 n, .osl 1 o2 m2 1, .int .i64 n2] ⟨([.sl r .own, .fn 16 []] :: l :: rest), (toks), (82 :: 1000023 :: tys)⟩ = lnext cpt2_V (cpt2_Tr o m n o2 m2 n2 r l rest toks tys).run := by unfold cpt2_V; rw [lval_eq, cpt2_T]
noncomputable def cpt2_W (o : Nat) (m : Nat) (n : Int) (o2 : Nat) (m2 : Nat) (n2 : Int) (r : List (List PV)) (l : List PV) (rest : List (List PV)) (toks : List (Nat × Nat × TypeId)) (tys : List TypeId) : Option (PExit × List PV × Store) := cpt2_V [.osl 1 o m 1, .fn 85 [.ptr 0 0], .int .i64 n, .osl 1 o2 m2 1, .int .i64 n2] ⟨([.sl r .own, .fn 16 []] :: l :: rest), (toks), (82 :: 1000023 :: tys)⟩
noncomputable def cpt2_n (o : Nat) (m : Nat) (n : Int) (o2 : Nat) (m2 : Nat) (n2 : Int) (r : List (List PV)) (l : List PV) (rest : List (List PV)) (toks : List (Nat × Nat × TypeId)) (tys : List TypeId) : Int := (gInt (gOut (cpt2_W o m n o2 m2 n2 r l rest toks tys) 1))
noncomputable def cpt2_l (o : Nat) (m : Nat) (n : Int) (o2 : Nat) (m2 : Nat) (n2 : Int) (r : List (List PV)) (l : List PV) (rest : List (List PV)) (toks : List (Nat × Nat × TypeId)) (tys : List TypeId) : List PV := (gObj (cpt2_W o m n o2 m2 n2 r l rest toks tys) 1)
noncomputable def cpt2_is0 (o : Nat) (m : Nat) (n : Int) (o2 : Nat) (m2 : Nat) (n2 : Int) (r : List (List PV)) (l : List PV) (rest : List (List PV)) (toks : List (Nat × Nat × TypeId)) (tys : List TypeId) : Bool := isW (cpt2_W o m n o2 m2 n2 r l rest toks tys) ((.exit 2), [.osl 1 o m 1, .int .i64 (cpt2_n o m n o2 m2 n2 r l rest toks tys)], ⟨([.sl r .own, .fn 16 []] :: (cpt2_l o m n o2 m2 n2 r l rest toks tys) :: rest), (toks), (82 :: 1000023 :: tys)⟩)
noncomputable def cpt2_prop : List PV → Store → Tr (PExit × List PV × Store) | [.osl 1 o m 1, .fn 85 [.ptr 0 0], .int .i64 n, .osl 1 o2 m2 1, .int .i64 n2], ⟨([.sl r .own, .fn 16 []] :: l :: rest), (toks), (82 :: 1000023 :: tys)⟩ => .ite (cpt2_is0 o m n o2 m2 n2 r l rest toks tys) (.ret ((.exit 2), [.osl 1 o m 1, .int .i64 (cpt2_n o m n o2 m2 n2 r l rest toks tys)], ⟨([.sl r .own, .fn 16 []] :: (cpt2_l o m n o2 m2 n2 r l rest toks tys) :: rest), (toks), (82 :: 1000023 :: tys)⟩)) (.fail) | _, _ => .fail
theorem cpt2_ok : ∀ vs σ r, (cpt2_prop vs σ).run = some r → cpt2_V vs σ = some r := by
  intro vs σ r h
  unfold cpt2_prop at h
  split at h
  · exact ite_isW h fun h => by cases h
  · cases h
theorem loop_cpt2 (gl : Nat → Option Obj) : ∀ fr σ e fr' σ', (orc I_cpt2 cpt2_prop fr σ).run = some (e, fr', σ') → LDoes Tryd.prog gl c_cpt2 fr σ e fr' σ' := orc_ok tbT_ok (gok_cpt gl ) noMixed (L := LI_cpt2) (loopOk_none (by kernel_rfl)) (by kernel_rfl) cpt2_ok
def I_cpt1 : LI := ⟨66, [0, 1, 5], fun e => match e with | .ret => [4] | .exit 0 => [0] | _ => [], false⟩
noncomputable def LI_cpt1 : LpsT := fun r fr σ => bif Nat.beq r 9 then orc I_cpt2 cpt2_prop fr σ else .fail
noncomputable def cpt1_V (vs : List PV) (σ : Store) : Option (PExit × List PV × Store) := lval (lstep tbT G_cpt LI_cpt1 c_cpt1 I_cpt1) vs σ
noncomputable def cpt1_Tr (o : Nat) (m : Nat) (n : Int) (r : List (List PV)) (l : List PV) (rest : List (List PV)) (toks : List (Nat × Nat × TypeId)) (tys : List TypeId) : Tr LR := Tr.ite (iLt n (oLen m))
  (Tr.ite (okIx n m)
    (Tr.ite (okCell [PV.sl [] .full] l (pOff o (nNat n) 1))
      (Tr.ite (okIx (iSub .i64 n 1) m)
        (Tr.ite (okCell [PV.sl [] .full] l (pOff o (nNat (iSub .i64 n 1)) 1))
          (Tr.ite (okR cV (lockLL (lockLL (lockLL (cRow l (pOff o (nNat n) 1) 0)))))
            (Tr.ite (okR cV (lockLL (lockLL (lockLL (cRow l (pOff o (nNat (iSub .i64 n 1)) 1) 0)))))
              (Tr.ite (iEq (cmpTV (lockLL (lockLL (lockLL (cRow l (pOff o (nNat n) 1) 0)))) (lockLL (lockLL (lockLL (cRow l (pOff o (nNat (iSub .i64 n 1)) 1) 0))))) 0)
                (Tr.ite (okSub (okPos n) true (nNat n) m m)
                  (Tr.ite (cpt2_is0 o m n (pOff o (nNat n) 1) (nSub m (nNat n)) 1 r l rest toks tys)
                    (Tr.ite
                      (okSub (okPos (cpt2_n o m n (pOff o (nNat n) 1) (nSub m (nNat n)) 1 r l rest toks tys)) true
                        (nNat (cpt2_n o m n (pOff o (nNat n) 1) (nSub m (nNat n)) 1 r l rest toks tys)) m m)
                      (Tr.ite (nEq (nSub m (nNat (cpt2_n o m n (pOff o (nNat n) 1) (nSub m (nNat n)) 1 r l rest toks tys))) 0)
                        (Tr.ite
                          (okSub true (okPos (cpt2_n o m n (pOff o (nNat n) 1) (nSub m (nNat n)) 1 r l rest toks tys)) 0
                            (nNat (cpt2_n o m n (pOff o (nNat n) 1) (nSub m (nNat n)) 1 r l rest toks tys)) m)
                          (Tr.ret
                            (LR.out .ret [PV.osl 1 (pOff o 0 1) (nSub (nNat (cpt2_n o m n (pOff o (nNat n) 1) (nSub m (nNat n)) 1 r l rest toks tys)) 0) 1]
                              (Store.mk ([PV.sl r .own, PV.fn 16 []] :: cpt2_l o m n (pOff o (nNat n) 1) (nSub m (nNat n)) 1 r l rest toks tys :: rest) toks
                                (82 :: 1000023 :: tys))))
                          Tr.fail)
                        (Tr.ite
                          (okOff (cpt2_l o m n (pOff o (nNat n) 1) (nSub m (nNat n)) 1 r l rest toks tys)
                            (pOff o (nNat (cpt2_n o m n (pOff o (nNat n) 1) (nSub m (nNat n)) 1 r l rest toks tys)) 1)
                            (pOff 0 (nSub m (nNat (cpt2_n o m n (pOff o (nNat n) 1) (nSub m (nNat n)) 1 r l rest toks tys))) 1))
                          (Tr.ite
                            (okSub true (okPos (cpt2_n o m n (pOff o (nNat n) 1) (nSub m (nNat n)) 1 r l rest toks tys)) 0
                              (nNat (cpt2_n o m n (pOff o (nNat n) 1) (nSub m (nNat n)) 1 r l rest toks tys)) m)
                            (Tr.ret
                              (LR.out .ret [PV.osl 1 (pOff o 0 1) (nSub (nNat (cpt2_n o m n (pOff o (nNat n) 1) (nSub m (nNat n)) 1 r l rest toks tys)) 0) 1]
                                (Store.mk
                                  ([PV.sl r .own, PV.fn 16 []] ::
                                    clrC (cpt2_l o m n (pOff o (nNat n) 1) (nSub m (nNat n)) 1 r l rest toks tys)
                                        (pOff o (nNat (cpt2_n o m n (pOff o (nNat n) 1) (nSub m (nNat n)) 1 r l rest toks tys)) 1)
                                        (nSub m (nNat (cpt2_n o m n (pOff o (nNat n) 1) (nSub m (nNat n)) 1 r l rest toks tys))) [PV.sl [] .full] ::
                                      rest)
                                  toks (82 :: 1000023 :: tys))))
                            Tr.fail)
                          Tr.fail))
                      Tr.fail)
                    Tr.fail)
                  Tr.fail)
                (Tr.ret
                  (LR.next [PV.osl 1 o m 1, PV.fn 85 [PV.ptr 0 0], PV.int .i64 (iAdd .i64 n 1)]
                    (Store.mk ([PV.sl r .own, PV.fn 16 []] :: l :: rest) toks (82 :: 1000023 :: tys)))))
              Tr.fail)
            Tr.fail)
          Tr.fail)
        Tr.fail)
      Tr.fail)
    Tr.fail)
  (Tr.ret (LR.out (.exit 0) [PV.osl 1 o m 1] (Store.mk ([PV.sl r .own, PV.fn 16 []] :: l :: rest) toks (82 :: 1000023 :: tys))))
theorem cpt1_T (o : Nat) (m : Nat) (n : Int) (r : List (List PV)) (l : List PV) (rest : List (List PV)) (toks : List (Nat × Nat × TypeId)) (tys : List TypeId) : lstep tbT G_cpt LI_cpt1 c_cpt1 I_cpt1 [.osl 1 o m 1, .fn 85 [.ptr 0 0], .int .i64 n] ⟨([.sl r .own, .fn 16 []] :: l :: rest), (toks), (82 :: 1000023 :: tys)⟩ = cpt1_Tr o m n r l rest toks tys := by kernel_rfl
theorem cpt1_E (o : Nat) (m : Nat) (n : Int) (r : List (List PV)) (l : List PV) (rest : List (List PV)) (toks : List (Nat × Nat × TypeId)) (tys : List TypeId) : cpt1_V [.osl 1 o m 1, .fn 85 [.ptr 0 0], .int .i64 n] ⟨([.sl r .own, .fn 16 []] :: l :: rest), (toks), (82 :: 1000023 :: tys)⟩ = lnext cpt1_V (cpt1_Tr o m n r l rest toks tys).run := by unfold cpt1_V; rw [lval_eq, cpt1_T]
noncomputable def cpt1_W (o : Nat) (m : Nat) (n : Int) (r : List (List PV)) (l : List PV) (rest : List (List PV)) (toks : List (Nat × Nat × TypeId)) (tys : List TypeId) : Option (PExit × List PV × Store) := cpt1_V [.osl 1 o m 1, .fn 85 [.ptr 0 0], .int .i64 n] ⟨([.sl r .own, .fn 16 []] :: l :: rest), (toks), (82 :: 1000023 :: tys)⟩
noncomputable def cpt1_o_0 (o : Nat) (m : Nat) (n : Int) (r : List (List PV)) (l : List PV) (rest : List (List PV)) (toks : List (Nat × Nat × TypeId)) (tys : List TypeId) : Nat := (gOff (gOut (cpt1_W o m n r l rest toks tys) 0))
noncomputable def cpt1_m_0 (o : Nat) (m : Nat) (n : Int) (r : List (List PV)) (l : List PV) (rest : List (List PV)) (toks : List (Nat × Nat × TypeId)) (tys : List TypeId) : Nat := (gLen (gOut (cpt1_W o m n r l rest toks tys) 0))
noncomputable def cpt1_l_0 (o : Nat) (m : Nat) (n : Int) (r : List (List PV)) (l : List PV) (rest : List (List PV)) (toks : List (Nat × Nat × TypeId)) (tys : List TypeId) : List PV := (gObj (cpt1_W o m n r l rest toks tys) 1)
noncomputable def cpt1_is0 (o : Nat) (m : Nat) (n : Int) (r : List (List PV)) (l : List PV) (rest : List (List PV)) (toks : List (Nat × Nat × TypeId)) (tys : List TypeId) : Bool := isW (cpt1_W o m n r l rest toks tys) (.ret, [.osl 1 (cpt1_o_0 o m n r l rest toks tys) (cpt1_m_0 o m n r l rest toks tys) 1], ⟨([.sl r .own, .fn 16 []] :: (cpt1_l_0 o m n r l rest toks tys) :: rest), (toks), (82 :: 1000023 :: tys)⟩)
noncomputable def cpt1_l_1 (o : Nat) (m : Nat) (n : Int) (r : List (List PV)) (l : List PV) (rest : List (List PV)) (toks : List (Nat × Nat × TypeId)) (tys : List TypeId) : List PV := (gObj (cpt1_W o m n r l rest toks tys) 1)
noncomputable def cpt1_is1 (o : Nat) (m : Nat) (n : Int) (r : List (List PV)) (l : List PV) (rest : List (List PV)) (toks : List (Nat × Nat × TypeId)) (tys : List TypeId) : Bool := isW (cpt1_W o m n r l rest toks tys) ((.exit 0), [.osl 1 o m 1], ⟨([.sl r .own, .fn 16 []] :: (cpt1_l_1 o m n r l rest toks tys) :: rest), (toks), (82 :: 1000023 :: tys)⟩)
noncomputable def cpt1_prop : List PV → Store → Tr (PExit × List PV × Store) | [.osl 1 o m 1, .fn 85 [.ptr 0 0], .int .i64 n], ⟨([.sl r .own, .fn 16 []] :: l :: rest), (toks), (82 :: 1000023 :: tys)⟩ => .ite (cpt1_is0 o m n r l rest toks tys) (.ret (.ret, [.osl 1 (cpt1_o_0 o m n r l rest toks tys) (cpt1_m_0 o m n r l rest toks tys) 1], ⟨([.sl r .own, .fn 16 []] :: (cpt1_l_0 o m n r l rest toks tys) :: rest), (toks), (82 :: 1000023 :: tys)⟩)) (.ite (cpt1_is1 o m n r l rest toks tys) (.ret ((.exit 0), [.osl 1 o m 1], ⟨([.sl r .own, .fn 16 []] :: (cpt1_l_1 o m n r l rest toks tys) :: rest), (toks), (82 :: 1000023 :: tys)⟩)) (.fail)) | _, _ => .fail
theorem cpt1_ok : ∀ vs σ r, (cpt1_prop vs σ).run = some r → cpt1_V vs σ = some r := by
  intro vs σ r h
  unfold cpt1_prop at h
  split at h
  · exact ite_isW h fun h => ite_isW h fun h => by cases h
  · cases h
theorem loop_cpt1 (gl : Nat → Option Obj) : ∀ fr σ e fr' σ', (orc I_cpt1 cpt1_prop fr σ).run = some (e, fr', σ') → LDoes Tryd.prog gl c_cpt1 fr σ e fr' σ' := orc_ok tbT_ok (gok_cpt gl ) noMixed (L := LI_cpt1) (loopOk_all (L := lps LI_cpt1) [(9, c_cpt2)] (by kernel_rfl) (List.forall_mem_cons.2 ⟨fun fr σ e fr' σ' h => loop_cpt2 gl  fr σ e fr' σ' h, (List.forall_mem_nil _)⟩)) (by kernel_rfl) cpt1_ok
noncomputable def L_cpt : LpsT := fun r fr σ => bif Nat.beq r 4 then orc I_cpt1 cpt1_prop fr σ else .fail
noncomputable def cpt_Tr (off : Nat) (len : Nat) (r : List (List PV)) (cs : List PV) (rest : List (List PV)) (toks : List (Nat × Nat × TypeId)) (tys : List TypeId) : Tr (PV × Store) := Tr.ite (iLt (oLen len) 2) (Tr.ret (PV.osl 1 off len 1, Store.mk ([PV.sl r .own, PV.fn 16 []] :: cs :: rest) toks (82 :: 1000023 :: tys)))
  (Tr.ite (cpt1_is0 off len 1 r cs rest toks tys)
    (Tr.ret
      (PV.osl 1 (cpt1_o_0 off len 1 r cs rest toks tys) (cpt1_m_0 off len 1 r cs rest toks tys) 1,
        Store.mk ([PV.sl r .own, PV.fn 16 []] :: cpt1_l_0 off len 1 r cs rest toks tys :: rest) toks (82 :: 1000023 :: tys)))
    (Tr.ite (cpt1_is1 off len 1 r cs rest toks tys)
      (Tr.ret (PV.osl 1 off len 1, Store.mk ([PV.sl r .own, PV.fn 16 []] :: cpt1_l_1 off len 1 r cs rest toks tys :: rest) toks (82 :: 1000023 :: tys))) Tr.fail))
theorem cpt_T (off : Nat) (len : Nat) (r : List (List PV)) (cs : List PV) (rest : List (List PV)) (toks : List (Nat × Nat × TypeId)) (tys : List TypeId) : (tcallS tbT G_cpt L_cpt Tryd.f84 [.osl 1 off len 1, .fn 85 [.ptr 0 0]] ⟨[.sl r .own, .fn 16 []] :: cs :: rest, toks, 82 :: 1000023 :: tys⟩).flat = cpt_Tr off len r cs rest toks tys := by kernel_rfl
noncomputable def cpt_W (off : Nat) (len : Nat) (r : List (List PV)) (cs : List PV) (rest : List (List PV)) (toks : List (Nat × Nat × TypeId)) (tys : List TypeId) : Option (PV × Store) := (cpt_Tr off len r cs rest toks tys).run
noncomputable def cpt_o (off : Nat) (len : Nat) (r : List (List PV)) (cs : List PV) (rest : List (List PV)) (toks : List (Nat × Nat × TypeId)) (tys : List TypeId) : Nat := (gOff (gOut (asOut (cpt_W off len r cs rest toks tys)) 0))
noncomputable def cpt_m (off : Nat) (len : Nat) (r : List (List PV)) (cs : List PV) (rest : List (List PV)) (toks : List (Nat × Nat × TypeId)) (tys : List TypeId) : Nat := (gLen (gOut (asOut (cpt_W off len r cs rest toks tys)) 0))
noncomputable def cpt_l (off : Nat) (len : Nat) (r : List (List PV)) (cs : List PV) (rest : List (List PV)) (toks : List (Nat × Nat × TypeId)) (tys : List TypeId) : List PV := (gObj (asOut (cpt_W off len r cs rest toks tys)) 1)
noncomputable def cpt_is0 (off : Nat) (len : Nat) (r : List (List PV)) (cs : List PV) (rest : List (List PV)) (toks : List (Nat × Nat × TypeId)) (tys : List TypeId) : Bool := isW (cpt_W off len r cs rest toks tys) (.osl 1 (cpt_o off len r cs rest toks tys) (cpt_m off len r cs rest toks tys) 1, ⟨([.sl r .own, .fn 16 []] :: (cpt_l off len r cs rest toks tys) :: rest), (toks), (82 :: 1000023 :: tys)⟩)
noncomputable def D_cpt : List PV → Store → Tr (PV × Store) | [.osl 1 off len 1, .fn 85 [.ptr 0 0]], ⟨[.sl r .own, .fn 16 []] :: cs :: rest, toks, 82 :: 1000023 :: tys⟩ => .ite (cpt_is0 off len r cs rest toks tys) (.ret (.osl 1 (cpt_o off len r cs rest toks tys) (cpt_m off len r cs rest toks tys) 1, ⟨([.sl r .own, .fn 16 []] :: (cpt_l off len r cs rest toks tys) :: rest), (toks), (82 :: 1000023 :: tys)⟩)) (.fail) | _, _ => .fail
theorem sim_cpt (gl : Nat → Option Obj) : SimS Tryd.prog gl 84 fun args σ => (D_cpt args σ).run := by
  refine SimS.of_flat (G := G_cpt) (L := L_cpt) tbT_ok (gok_cpt gl ) noMixed Tryd.func84 rfl (by rfl) (by kernel_rfl) (loopOk_all (L := lps L_cpt) [(4, c_cpt1)] (by kernel_rfl) (List.forall_mem_cons.2 ⟨fun fr σ e fr' σ' h => loop_cpt1 gl  fr σ e fr' σ' h, (List.forall_mem_nil _)⟩)) ?_
  intro args σ x h
  unfold D_cpt at h
  split at h
  · exact (congrArg Tr.run (cpt_T _ _ _ _ _ _ _)).trans (ite_isW h fun h => by cases h)
  · cases h
end Go.Pv

set_option maxHeartbeats 4000000
set_option maxRecDepth 200000
set_option linter.unusedSimpArgs false
set_option linter.unusedVariables false
namespace Go.Pv
open Go Go.Proofs
noncomputable def G_srt : GamT := ofL [(16, .pure F_TCmp), (82, .store D_cln), (83, .store D_ssf), (84, .store D_cpt), (85, .pure F_eq85)]
theorem gok_srt (gl : Nat → Option Obj) : GamOk Tryd.prog gl (gam G_srt) := (gamOk_cons (sim_TCmp gl) (gamOk_store (sim_cln gl) (gamOk_store (sim_ssf gl) (gamOk_store (sim_cpt gl) (gamOk_cons (sim_eq85 gl) gamOk_nil)))))
noncomputable def L_srt : LpsT := fun r fr σ => .fail
noncomputable def srt_Tr (l : List (List PV)) : Tr PV := Tr.ite (cln_is0 l [PV.sl l .own, PV.fn 16 []]) Tr.fail
  (Tr.ite (cln_is1 l [PV.sl l .own, PV.fn 16 []])
    (Tr.ite
      (ssf_is0 (cln_o_1 l [PV.sl l .own, PV.fn 16 []]) (cln_m_1 l [PV.sl l .own, PV.fn 16 []]) [PV.sl l .own, PV.fn 16 []] (cln_l2_1 l [PV.sl l .own, PV.fn 16 []]) []
        [] [])
      (Tr.ite
        (cpt_is0 (cln_o_1 l [PV.sl l .own, PV.fn 16 []]) (cln_m_1 l [PV.sl l .own, PV.fn 16 []]) l
          (ssf_l2 (cln_o_1 l [PV.sl l .own, PV.fn 16 []]) (cln_m_1 l [PV.sl l .own, PV.fn 16 []]) [PV.sl l .own, PV.fn 16 []] (cln_l2_1 l [PV.sl l .own, PV.fn 16 []])
            [] [] [])
          [] [] [])
        (Tr.ite
          (okOff
            (cpt_l (cln_o_1 l [PV.sl l .own, PV.fn 16 []]) (cln_m_1 l [PV.sl l .own, PV.fn 16 []]) l
              (ssf_l2 (cln_o_1 l [PV.sl l .own, PV.fn 16 []]) (cln_m_1 l [PV.sl l .own, PV.fn 16 []]) [PV.sl l .own, PV.fn 16 []]
                (cln_l2_1 l [PV.sl l .own, PV.fn 16 []]) [] [] [])
              [] [] [])
            (cpt_o (cln_o_1 l [PV.sl l .own, PV.fn 16 []]) (cln_m_1 l [PV.sl l .own, PV.fn 16 []]) l
              (ssf_l2 (cln_o_1 l [PV.sl l .own, PV.fn 16 []]) (cln_m_1 l [PV.sl l .own, PV.fn 16 []]) [PV.sl l .own, PV.fn 16 []]
                (cln_l2_1 l [PV.sl l .own, PV.fn 16 []]) [] [] [])
              [] [] [])
            (pOff 0
              (cpt_m (cln_o_1 l [PV.sl l .own, PV.fn 16 []]) (cln_m_1 l [PV.sl l .own, PV.fn 16 []]) l
                (ssf_l2 (cln_o_1 l [PV.sl l .own, PV.fn 16 []]) (cln_m_1 l [PV.sl l .own, PV.fn 16 []]) [PV.sl l .own, PV.fn 16 []]
                  (cln_l2_1 l [PV.sl l .own, PV.fn 16 []]) [] [] [])
                [] [] [])
              1))
          (Tr.ret
            (PV.sl
              (shutLL
                (rowsC
                  (cpt_l (cln_o_1 l [PV.sl l .own, PV.fn 16 []]) (cln_m_1 l [PV.sl l .own, PV.fn 16 []]) l
                    (ssf_l2 (cln_o_1 l [PV.sl l .own, PV.fn 16 []]) (cln_m_1 l [PV.sl l .own, PV.fn 16 []]) [PV.sl l .own, PV.fn 16 []]
                      (cln_l2_1 l [PV.sl l .own, PV.fn 16 []]) [] [] [])
                    [] [] [])
                  (cpt_o (cln_o_1 l [PV.sl l .own, PV.fn 16 []]) (cln_m_1 l [PV.sl l .own, PV.fn 16 []]) l
                    (ssf_l2 (cln_o_1 l [PV.sl l .own, PV.fn 16 []]) (cln_m_1 l [PV.sl l .own, PV.fn 16 []]) [PV.sl l .own, PV.fn 16 []]
                      (cln_l2_1 l [PV.sl l .own, PV.fn 16 []]) [] [] [])
                    [] [] [])
                  (cpt_m (cln_o_1 l [PV.sl l .own, PV.fn 16 []]) (cln_m_1 l [PV.sl l .own, PV.fn 16 []]) l
                    (ssf_l2 (cln_o_1 l [PV.sl l .own, PV.fn 16 []]) (cln_m_1 l [PV.sl l .own, PV.fn 16 []]) [PV.sl l .own, PV.fn 16 []]
                      (cln_l2_1 l [PV.sl l .own, PV.fn 16 []]) [] [] [])
                    [] [] [])
                  1))
              .non))
          Tr.fail)
        Tr.fail)
      Tr.fail)
    Tr.fail)
theorem srt_T (l : List (List PV)) : (tcall tbT G_srt L_srt Tryd.f61 [.agg [.sl l .own, .fn 16 []]]).flat = srt_Tr l := by kernel_rfl
noncomputable def srt_W (l : List (List PV)) : Option PV := (srt_Tr l).run
noncomputable def srt_r (l : List (List PV)) : List (List PV) := (gRow (gVal (srt_W l)))
noncomputable def srt_is0 (l : List (List PV)) : Bool := isW (srt_W l) (.sl (srt_r l) .non)
noncomputable def F_srt : List PV → Tr PV | [.agg [.sl l .own, .fn 16 []]] => .ite (srt_is0 l) (.ret (.sl (srt_r l) .non)) (.fail) | _ => .fail
theorem sim_srt (gl : Nat → Option Obj) : SimP Tryd.prog gl 61 fun args => (F_srt args).run := by
  refine SimP.of_flat (G := G_srt) (L := L_srt) tbT_ok (gok_srt gl ) noMixed Tryd.func61 rfl (by rfl) (by kernel_rfl) (loopOk_none (by kernel_rfl)) ?_
  intro args x h
  unfold F_srt at h
  split at h
  · exact (congrArg Tr.run (srt_T _)).trans (ite_isW h fun h => by cases h)
  · cases h
end Go.Pv

set_option maxHeartbeats 8000000
set_option maxRecDepth 200000
set_option linter.unusedSimpArgs false
set_option linter.unusedVariables false
/-! What a stable sort makes of a row. -/
namespace Go.Pv
open Go Go.Proofs
theorem mul_2N {a : Nat} (h : 2 * a ≤ 9223372036854775807) : iMul .i64 2 (a : Int) = ((2 * a : Nat) : Int) := by
  unfold iMul; rw [wrap_i64 (by omega)]; omega
theorem mul_N2 {a : Nat} (h : 2 * a ≤ 9223372036854775807) : iMul .i64 (a : Int) 2 = ((2 * a : Nat) : Int) := by
  unfold iMul; rw [wrap_i64 (by omega)]; omega
/-- Blocks of s, each in order, up to hi. -/
def Bl (f : Nat → List Vl) (s hi : Nat) : Prop := ∀ t, Srt cT f (t * s) (min (t * s + s) hi)
theorem Bl.next {f f' : Nat → List Vl} {s t hi : Nat} (h : Bl f s (t * s)) (hs : t * s ≤ hi) (h2 : hi ≤ t * s + s) (hm : Mv f f' (t * s) hi) (ho : Srt cT f' (t * s) hi) : Bl f' s hi := by
  intro u p q h3 h4 h5
  by_cases e : u = t
  · subst e
    exact ho p q h3 h4 (by omega)
  · by_cases e' : u < t
    · have e2 : (u + 1) * s ≤ t * s := Nat.mul_le_mul_right s e'
      have e3 : (u + 1) * s = u * s + s := Nat.succ_mul u s
      rw [hm.out (by omega), hm.out (by omega)]
      exact h u p q h3 h4 (by omega)
    · have e2 : (t + 1) * s ≤ u * s := Nat.mul_le_mul_right s (by omega)
      have e3 : (t + 1) * s = t * s + s := Nat.succ_mul t s
      omega
section
variable (T : Tot cT) (c0 : List PV) (rest : List (List PV)) (toks : List (Nat × Nat × TypeId)) (tys : List TypeId)
include T
theorem stb1_law (f0 : Nat → List Vl) (N s : Nat) (hs : 0 < s) (hs2 : s ≤ N + 20) (hN : N ≤ 1152921504606846975) : ∀ k t : Nat, ∀ f : Nat → List Vl, N - t * s ≤ k → t * s ≤ N → Bl f s (t * s) → Mv f0 f 0 N →
    ∃ t' : Nat, ∃ f', stb1_V [.osl 1 0 N 1, .int .i64 N, .fn 16 [], .int .i64 s, .int .i64 ((t * s : Nat) : Int), .int .i64 ((t * s + s : Nat) : Int)] (sT c0 rest toks tys f N) =
      some (.exit 0, [.osl 1 0 N 1, .int .i64 N, .fn 16 [], .int .i64 s, .int .i64 ((t' * s : Nat) : Int)], sT c0 rest toks tys f' N) ∧ t' * s ≤ N ∧ N < t' * s + s ∧ Bl f' s (t' * s) ∧ Mv f0 f' 0 N := by
  intro k
  induction k with
  | zero =>
    intro t f h1 h2 h3 h4
    refine ⟨t, f, ?_, h2, by omega, h3, h4⟩
    have c1 : ¬ t * s + s ≤ N := by omega
    simp only [sT]
    rw [stb1_E]
    unfold stb1_Tr
    simp only [iLe_N, c1, decide_false, Bool.false_eq_true, if_false, Tr.run_ite, Tr.run_ret, lnext_out]
  | succ k ih =>
    intro t f h1 h2 h3 h4
    by_cases c1 : t * s + s ≤ N
    · obtain ⟨f1, e1, e2, e3, e4⟩ := ins_law f T N (t * s) (t * s + s) c0 rest toks tys c1 h2 (by omega)
      have et : (t + 1) * s = t * s + s := Nat.succ_mul t s
      obtain ⟨t', f', g1, g2, g3, g4, g5⟩ := ih (t + 1) f1 (by omega) (by omega) (by rw [et]; exact h3.next (by omega) (by omega) e4 e3) (h4.trans (e4.mono (by omega) c1))
      refine ⟨t', f', ?_, g2, g3, g4, g5⟩
      rw [← g1]
      simp only [sT]
      rw [stb1_E]
      unfold stb1_Tr
      simp only [iLe_N, c1, e1, e2, add_N (a := t * s + s) (b := s) (by omega), et, decide_true, if_true, Tr.run_ite, Tr.run_ret, lnext_next]
    · refine ⟨t, f, ?_, h2, by omega, h3, h4⟩
      simp only [sT]
      rw [stb1_E]
      unfold stb1_Tr
      simp only [iLe_N, c1, decide_false, Bool.false_eq_true, if_false, Tr.run_ite, Tr.run_ret, lnext_out]
/-- Blocks of s from a on. -/
def Blf (f : Nat → List Vl) (s lo hi : Nat) : Prop := ∀ u, lo ≤ u * s → Srt cT f (u * s) (min (u * s + s) hi)
omit T in
theorem Blf.next {f f' : Nat → List Vl} {s lo lo' hi x : Nat} (h : Blf f s lo hi) (hl : lo ≤ lo') (hm : Mv f f' x lo') : Blf f' s lo' hi := by
  intro u h1 p q h3 h4 h5
  rw [hm.out (by omega), hm.out (by omega)]
  exact h u (by omega) p q h3 h4 h5
theorem stb3_law (f0 : Nat → List Vl) (N s : Nat) (hs : 0 < s) (hs2 : s ≤ N) (hN : N ≤ 1152921504606846975) : ∀ k t : Nat, ∀ f : Nat → List Vl, N - t * (2 * s) ≤ k → t * (2 * s) ≤ N → Bl f (2 * s) (t * (2 * s)) → Blf f s (t * (2 * s)) N → Mv f0 f 0 N →
    ∃ t' : Nat, ∃ f', stb3_V [.osl 1 0 N 1, .int .i64 N, .fn 16 [], .int .i64 s, .int .i64 ((t * (2 * s) : Nat) : Int), .int .i64 ((t * (2 * s) + 2 * s : Nat) : Int)] (sT c0 rest toks tys f N) =
      some (.exit 4, [.osl 1 0 N 1, .int .i64 N, .fn 16 [], .int .i64 s, .int .i64 ((t' * (2 * s) : Nat) : Int)], sT c0 rest toks tys f' N) ∧ t' * (2 * s) ≤ N ∧ N < t' * (2 * s) + 2 * s ∧ Bl f' (2 * s) (t' * (2 * s)) ∧ Blf f' s (t' * (2 * s)) N ∧ Mv f0 f' 0 N := by
  intro k
  induction k with
  | zero =>
    intro t f h1 h2 h3 h3' h4
    refine ⟨t, f, ?_, h2, by omega, h3, h3', h4⟩
    have c1 : ¬ t * (2 * s) + 2 * s ≤ N := by omega
    simp only [sT]
    rw [stb3_E]
    unfold stb3_Tr
    simp only [iLe_N, c1, decide_false, Bool.false_eq_true, if_false, Tr.run_ite, Tr.run_ret, lnext_out]
  | succ k ih =>
    intro t f h1 h2 h3 h3' h4
    have eu : (2 * t) * s = t * (2 * s) := by rw [Nat.mul_comm 2 t, Nat.mul_assoc]
    have eu1 : (2 * t + 1) * s = t * (2 * s) + s := by rw [Nat.succ_mul, eu]
    by_cases c1 : t * (2 * s) + 2 * s ≤ N
    · have hA : Srt cT f (t * (2 * s)) (t * (2 * s) + s) := by
        have := h3' (2 * t) (by omega)
        rw [eu, Nat.min_eq_left (by omega)] at this
        exact this
      have hB : Srt cT f (t * (2 * s) + s) (t * (2 * s) + 2 * s) := by
        have := h3' (2 * t + 1) (by omega)
        rw [eu1, Nat.min_eq_left (by omega)] at this
        have e : t * (2 * s) + s + s = t * (2 * s) + 2 * s := by omega
        rw [e] at this
        exact this
      obtain ⟨f1, e1, e2, e3, e4⟩ := sm_law T c0 rest toks tys N (by omega) f (t * (2 * s)) (t * (2 * s) + s) (t * (2 * s) + 2 * s) (by omega) (by omega) c1 hA hB
      have et : (t + 1) * (2 * s) = t * (2 * s) + 2 * s := Nat.succ_mul t (2 * s)
      obtain ⟨t', f', g1, g2, g3, g4, g4', g5⟩ := ih (t + 1) f1 (by omega) (by omega) (by rw [et]; exact h3.next (by omega) (by omega) e4 e3) (by rw [et]; exact h3'.next (by omega) e4) (h4.trans (e4.mono (by omega) c1))
      refine ⟨t', f', ?_, g2, g3, g4, g4', g5⟩
      rw [← g1]
      simp only [sT]
      rw [stb3_E]
      unfold stb3_Tr
      simp only [iLe_N, c1, add_N (a := t * (2 * s)) (b := s) (by omega), mul_2N (a := s) (by omega), e1, e2, add_N (a := t * (2 * s) + 2 * s) (b := 2 * s) (by omega), et, decide_true, if_true, Tr.run_ite, Tr.run_ret, lnext_next]
    · refine ⟨t, f, ?_, h2, by omega, h3, h3', h4⟩
      simp only [sT]
      rw [stb3_E]
      unfold stb3_Tr
      simp only [iLe_N, c1, decide_false, Bool.false_eq_true, if_false, Tr.run_ite, Tr.run_ret, lnext_out]
theorem stb2_law (f0 : Nat → List Vl) (N : Nat) (hN : N ≤ 1152921504606846975) : ∀ k s : Nat, ∀ f : Nat → List Vl, N - s ≤ k → 0 < s → Bl f s N → Mv f0 f 0 N →
    ∃ f', stb2_V [.osl 1 0 N 1, .int .i64 N, .fn 16 [], .int .i64 s] (sT c0 rest toks tys f N) = some (.exit 2, [], sT c0 rest toks tys f' N) ∧ Srt cT f' 0 N ∧ Mv f0 f' 0 N := by
  intro k
  induction k with
  | zero =>
    intro s f h1 h2 h3 h4
    have c1 : ¬ s < N := by omega
    refine ⟨f, ?_, ?_, h4⟩
    · simp only [sT]
      rw [stb2_E]
      unfold stb2_Tr
      simp only [iLt_N, c1, decide_false, Bool.false_eq_true, if_false, Tr.run_ite, Tr.run_ret, lnext_out]
    · have := h3 0
      rw [Nat.zero_mul, Nat.zero_add, Nat.min_eq_right (by omega)] at this
      exact this
  | succ k ih =>
    intro s f h1 h2 h3 h4
    by_cases c1 : s < N
    · obtain ⟨t, f1, g1, g2, g3, g4, g5, g6⟩ := stb3_law T c0 rest toks tys f0 N s h2 (by omega) hN N 0 f (by omega) (by omega) (by rw [Nat.zero_mul]; intro u p q _ _ h; omega) (fun u _ => h3 u) h4
      rw [Nat.zero_mul, Nat.zero_add] at g1
      have w : stb3_W 0 N N s 0 ((2 * s : Nat) : Int) c0 (oA cV f N) rest toks tys = _ := g1
      have a1 : stb3_a 0 N N s 0 ((2 * s : Nat) : Int) c0 (oA cV f N) rest toks tys = ((t * (2 * s) : Nat) : Int) := by rw [stb3_a, w]; rfl
      have a2 : stb3_l2 0 N N s 0 ((2 * s : Nat) : Int) c0 (oA cV f N) rest toks tys = oA cV f1 N := by rw [stb3_l2, w]; rfl
      have a3 : stb3_is0 0 N N s 0 ((2 * s : Nat) : Int) c0 (oA cV f N) rest toks tys = true := by rw [stb3_is0, w, a1, a2]; simp [sT]
      have eu : (2 * t) * s = t * (2 * s) := by rw [Nat.mul_comm 2 t, Nat.mul_assoc]
      have eu1 : (2 * t + 1) * s = t * (2 * s) + s := by rw [Nat.succ_mul, eu]
      by_cases c2 : t * (2 * s) + s < N
      · have hA : Srt cT f1 (t * (2 * s)) (t * (2 * s) + s) := by
          have := g5 (2 * t) (by omega)
          rw [eu, Nat.min_eq_left (by omega)] at this
          exact this
        have hB : Srt cT f1 (t * (2 * s) + s) N := by
          have := g5 (2 * t + 1) (by omega)
          rw [eu1, Nat.min_eq_right (by omega)] at this
          exact this
        obtain ⟨f2, e1, e2, e3, e4⟩ := sm_law T c0 rest toks tys N (by omega) f1 (t * (2 * s)) (t * (2 * s) + s) N (by omega) c2 (Nat.le_refl _) hA hB
        obtain ⟨f', b1, b2, b3⟩ := ih (2 * s) f2 (by omega) (by omega) (g4.next (by omega) (by omega) e4 e3) (g6.trans (e4.mono (by omega) (Nat.le_refl _)))
        refine ⟨f', ?_, b2, b3⟩
        rw [← b1]
        simp only [sT]
        rw [stb2_E]
        unfold stb2_Tr
        simp only [iLt_N, c1, c2, mul_2N (a := s) (by omega), mul_N2 (a := s) (by omega), a1, a2, a3, add_N (a := t * (2 * s)) (b := s) (by omega), e1, e2, decide_true, if_true, Tr.run_ite, Tr.run_ret, lnext_next]
      · have hA : Srt cT f1 (t * (2 * s)) N := by
          have := g5 (2 * t) (by omega)
          rw [eu, Nat.min_eq_right (by omega)] at this
          exact this
        obtain ⟨f', b1, b2, b3⟩ := ih (2 * s) f1 (by omega) (by omega) (g4.next (by omega) (by omega) (Mv.refl _ _ _) hA) g6
        refine ⟨f', ?_, b2, b3⟩
        rw [← b1]
        simp only [sT]
        rw [stb2_E]
        unfold stb2_Tr
        simp only [iLt_N, c1, c2, mul_2N (a := s) (by omega), mul_N2 (a := s) (by omega), a1, a2, a3, add_N (a := t * (2 * s)) (b := s) (by omega), decide_true, decide_false, Bool.false_eq_true, if_false, if_true, Tr.run_ite, Tr.run_ret, lnext_next]
    · refine ⟨f, ?_, ?_, h4⟩
      · simp only [sT]
        rw [stb2_E]
        unfold stb2_Tr
        simp only [iLt_N, c1, decide_false, Bool.false_eq_true, if_false, Tr.run_ite, Tr.run_ret, lnext_out]
      · have := h3 0
        rw [Nat.zero_mul, Nat.zero_add, Nat.min_eq_right (by omega)] at this
        exact this
theorem ssf_law (f : Nat → List Vl) (N : Nat) (hN : N ≤ 1152921504606846975) :
    ∃ f', ssf_is0 0 N c0 (oA cV f N) rest toks tys = true ∧ ssf_l2 0 N c0 (oA cV f N) rest toks tys = oA cV f' N ∧ Srt cT f' 0 N ∧ Mv f f' 0 N := by
  obtain ⟨t, f1, g1, g2, g3, g4, g5⟩ := stb1_law T c0 rest toks tys f N 20 (by omega) (by omega) hN N 0 f (by omega) (by omega) (by rw [Nat.zero_mul]; intro u p q _ _ h; omega) (Mv.refl _ _ _)
  rw [Nat.zero_mul, Nat.zero_add] at g1
  have w : stb1_W 0 N N 20 0 20 c0 (oA cV f N) rest toks tys = _ := g1
  have a1 : stb1_a 0 N N 20 0 20 c0 (oA cV f N) rest toks tys = ((t * 20 : Nat) : Int) := by rw [stb1_a, w]; rfl
  have a2 : stb1_l2 0 N N 20 0 20 c0 (oA cV f N) rest toks tys = oA cV f1 N := by rw [stb1_l2, w]; rfl
  have a3 : stb1_is0 0 N N 20 0 20 c0 (oA cV f N) rest toks tys = true := by rw [stb1_is0, w, a1, a2]; simp [sT]
  obtain ⟨f2, e1, e2, e3, e4⟩ := ins_law f1 T N (t * 20) N c0 rest toks tys (Nat.le_refl _) g2 (by omega)
  obtain ⟨f3, b1, b2, b3⟩ := stb2_law T c0 rest toks tys f N hN N 20 f2 (by omega) (by omega) (g4.next (by omega) (by omega) e4 e3) (g5.trans (e4.mono (by omega) (Nat.le_refl _)))
  have w2 : stb2_W 0 N N 20 c0 (oA cV f2 N) rest toks tys = _ := b1
  have d2 : stb2_l2 0 N N 20 c0 (oA cV f2 N) rest toks tys = oA cV f3 N := by rw [stb2_l2, w2]; rfl
  have d3 : stb2_is0 0 N N 20 c0 (oA cV f2 N) rest toks tys = true := by rw [stb2_is0, w2, d2]; simp [sT]
  have hw : stb_W 0 N N c0 (oA cV f N) rest toks tys = some (.tup [], sT c0 rest toks tys f3 N) := by
    unfold stb_W stb_Tr
    simp only [a1, a2, a3, e1, e2, d2, d3, if_true, Tr.run_ite, Tr.run_ret]
  have k2 : stb_l2 0 N N c0 (oA cV f N) rest toks tys = oA cV f3 N := by rw [stb_l2, hw]; rfl
  have k3 : stb_is0 0 N N c0 (oA cV f N) rest toks tys = true := by rw [stb_is0, k2, hw]; simp [sT]
  have hs : ssf_W 0 N c0 (oA cV f N) rest toks tys = some (.tup [], sT c0 rest toks tys f3 N) := by
    unfold ssf_W ssf_Tr oLen
    simp only [k2, k3, if_true, Tr.run_ite, Tr.run_ret]
  have k4 : ssf_l2 0 N c0 (oA cV f N) rest toks tys = oA cV f3 N := by rw [ssf_l2, hs]; rfl
  exact ⟨f3, by rw [ssf_is0, k4, hs]; simp [sT], k4, b2, b3⟩
end
end Go.Pv

set_option maxHeartbeats 8000000
set_option maxRecDepth 200000
set_option linter.unusedSimpArgs false
set_option linter.unusedVariables false
/-! What is left of a row in order when each is there once. -/
namespace Go.Pv
open Go Go.Proofs
theorem iEq_0 (x : Int) : iEq x 0 = decide (x = 0) := by
  unfold iEq
  by_cases h : x = 0 <;> simp [h]
theorem pOff_1 (o a : Nat) : pOff o a 1 = o + a := by unfold pOff; omega
theorem oLen_N (n : Nat) : oLen n = (n : Int) := rfl
theorem nSub_N (a b : Nat) : nSub a b = a - b := rfl
theorem okPos_N (a : Nat) : okPos (a : Int) = true := by simp [okPos]
section
variable (T : Tot cT) (r : List (List PV)) (rest : List (List PV)) (toks : List (Nat × Nat × TypeId)) (tys : List TypeId)
abbrev sO : List PV := [.sl r .own, .fn 16 []]
include T
theorem cpt2_law (f : Nat → List Vl) (N k0 : Nat) (hk0 : 1 ≤ k0) (hk1 : k0 < N) (hN : N ≤ 1152921504606846975) (hS : Srt cT f 0 N) : ∀ d e : Nat, e + d = N → k0 + 1 ≤ e → ∀ (k : Nat) (g : Nat → List Vl), k0 ≤ k → k < e → Dd cT f g N k e →
    ∃ k' : Nat, ∃ g', cpt2_V [.osl 1 0 N 1, .fn 85 [.ptr 0 0], .int .i64 k, .osl 1 k0 (N - k0) 1, .int .i64 ((e - k0 : Nat) : Int)] (sT (sO r) rest toks tys g N) =
      some (.exit 2, [.osl 1 0 N 1, .int .i64 k'], sT (sO r) rest toks tys g' N) ∧ k' < N ∧ Dd cT f g' N k' N := by
  intro d
  induction d with
  | zero =>
    intro e h1 h2 k g h3 h4 h5
    have ee : e = N := by omega
    subst ee
    refine ⟨k, g, ?_, h4, h5⟩
    simp only [sT, sO]
    rw [cpt2_E]
    unfold cpt2_Tr
    simp only [oLen_N, iLt_N, Nat.lt_irrefl, decide_false, Bool.false_eq_true, if_false, Tr.run_ite, Tr.run_ret, lnext_out]
  | succ d ih =>
    intro e h1 h2 k g h3 h4 h5
    have q1 : e - k0 < N - k0 := by omega
    have q2 : e - k0 - 1 < N - k0 := by omega
    have q3 : k0 + (e - k0) = e := by omega
    have q4 : k0 + (e - k0 - 1) = e - 1 := by omega
    have q5 : e < N := by omega
    have q6 : e - 1 < N := by omega
    have q7 : k < N := by omega
    have q8 : e - k0 + 1 = e + 1 - k0 := by omega
    have g1 : g e = f e := h5.keep e (by omega) q5
    have g2 : g (e - 1) = f (e - 1) := h5.keep (e - 1) (by omega) q6
    by_cases c1 : cT (f e) (f (e - 1)) = 0
    · obtain ⟨k', g', b1, b2, b3⟩ := ih (e + 1) (by omega) (by omega) k g h3 (by omega) (h5.eq ((T.zero _ _).1 c1))
      refine ⟨k', g', ?_, b2, b3⟩
      rw [← b1]
      simp only [sT, sO]
      rw [cpt2_E]
      unfold cpt2_Tr
      simp only [oLen_N, iLt_N, iEq_0, okIx_N, nNat_N, pOff_1, sub_N1 (a := e - k0) (by omega) (by omega), add_N1 (a := e - k0) (by omega), q1, q2, q3, q4, q8, okCell_oA cV q5, okCell_oA cV q6, cRow_oA cV q5, cRow_oA cV q6, lockLL_rOf, okR_of, cmpTV_cT, g1, g2, c1, bNot_eq, decide_true, Bool.not_true, Bool.false_eq_true, if_false, if_true, Tr.run_ite, Tr.run_ret, lnext_next]
    · have c2 : cT (f (e - 1)) (f e) < 0 := by
        have w1 := hS (e - 1) e (by omega) (by omega) q5
        have w2 := T.swap (f e) (f (e - 1))
        omega
      obtain ⟨k', g', b1, b2, b3⟩ := ih (e + 1) (by omega) (by omega) (k + 1) (upd g k (f e)) (by omega) (by omega) (h5.ne T c2)
      refine ⟨k', g', ?_, b2, b3⟩
      rw [← b1]
      simp only [sT, sO]
      rw [cpt2_E]
      unfold cpt2_Tr
      simp only [oLen_N, iLt_N, iEq_0, okIx_N, nNat_N, pOff_1, Nat.zero_add, sub_N1 (a := e - k0) (by omega) (by omega), add_N1 (a := e - k0) (by omega), add_N1 (a := k) (by omega), q1, q2, q3, q4, q7, q8, okCell_oA cV q5, okCell_oA cV q6, cRow_oA cV q5, cRow_oA cV q6, okOff_oA cV q7, putC_oA cV _ q7, lockLL_rOf, okR_of, cmpTV_cT, g1, g2, c1, bNot_eq, decide_true, decide_false, Bool.not_false, if_true, Tr.run_ite, Tr.run_ret, lnext_next]

theorem cpt1_law (f : Nat → List Vl) (N : Nat) (hN : N ≤ 1152921504606846975) (hS : Srt cT f 0 N) : ∀ d k : Nat, k + d = N → 1 ≤ k → Dd cT f f N k k →
    ∃ (k' : Nat) (g' : Nat → List Vl) (cs' : List PV), (cpt1_V [.osl 1 0 N 1, .fn 85 [.ptr 0 0], .int .i64 k] (sT (sO r) rest toks tys f N) =
        some (.ret, [.osl 1 0 k' 1], ⟨sO r :: cs' :: rest, toks, 82 :: 1000023 :: tys⟩) ∨
      k' = N ∧ cpt1_V [.osl 1 0 N 1, .fn 85 [.ptr 0 0], .int .i64 k] (sT (sO r) rest toks tys f N) =
        some (.exit 0, [.osl 1 0 N 1], ⟨sO r :: cs' :: rest, toks, 82 :: 1000023 :: tys⟩)) ∧ k' ≤ N ∧ k' ≤ cs'.length ∧ (∀ p, p < k' → cs'[p]? = some (.sl (rOf cV (g' p)) .non)) ∧ Dd cT f g' N k' N := by
  intro d
  induction d with
  | zero =>
    intro k h1 h2 h3
    have e : k = N := by omega
    subst e
    refine ⟨k, f, oA cV f k, Or.inr ⟨rfl, ?_⟩, Nat.le_refl _, by simp, fun p hp => oA_get cV hp, h3⟩
    simp only [sT, sO]
    rw [cpt1_E]
    unfold cpt1_Tr
    simp only [oLen_N, iLt_N, Nat.lt_irrefl, decide_false, Bool.false_eq_true, if_false, Tr.run_ite, Tr.run_ret, lnext_out]
  | succ d ih =>
    intro k h1 h2 h3
    have q1 : k < N := by omega
    have q2 : k - 1 < N := by omega
    by_cases c1 : cT (f k) (f (k - 1)) = 0
    · obtain ⟨k', g', b1, b2, b3⟩ := cpt2_law T r rest toks tys f N k h2 q1 hN hS (N - (k + 1)) (k + 1) (by omega) (Nat.le_refl _) k f (Nat.le_refl _) (by omega) (h3.eq ((T.zero _ _).1 c1))
      have e1 : k + 1 - k = 1 := by omega
      rw [e1] at b1
      have w : cpt2_W 0 N k k (N - k) 1 r (oA cV f N) rest toks tys = _ := b1
      have a1 : cpt2_n 0 N k k (N - k) 1 r (oA cV f N) rest toks tys = (k' : Int) := by rw [cpt2_n, w]; rfl
      have a2 : cpt2_l 0 N k k (N - k) 1 r (oA cV f N) rest toks tys = oA cV g' N := by rw [cpt2_l, w]; rfl
      have a3 : cpt2_is0 0 N k k (N - k) 1 r (oA cV f N) rest toks tys = true := by rw [cpt2_is0, w, a1, a2]; simp [sT, sO]
      refine ⟨k', g', clrC (oA cV g' N) k' (N - k') [.sl [] .full], Or.inl ?_, by omega, ?_, fun p hp => ?_, b3⟩
      · have s1 : okSub true true k N N = true := by simp [okSub]; omega
        have s2 : okSub true true k' N N = true := by simp [okSub]; omega
        have s3 : okSub true true 0 k' N = true := by simp [okSub]; omega
        have s4 : nEq (N - k') 0 = false := by simp [nEq]; omega
        have s5 : okOff (oA cV g' N) k' (N - k') = true := by simp [okOff]; omega
        simp only [sT, sO]
        rw [cpt1_E]
        unfold cpt1_Tr
        simp only [oLen_N, iLt_N, iEq_0, okIx_N, nNat_N, okPos_N, nSub_N, Nat.sub_zero, pOff_1, Nat.zero_add, sub_N1 (a := k) h2 (by omega), q1, q2, okCell_oA cV q1, okCell_oA cV q2, cRow_oA cV q1, cRow_oA cV q2, lockLL_rOf, okR_of, cmpTV_cT, c1, a1, a2, a3, s1, s2, s3, s4, s5, decide_true, Bool.false_eq_true, if_false, if_true, Tr.run_ite, Tr.run_ret, lnext_out]
      · unfold clrC; simp; omega
      · rw [clrC_get (by simp; omega) hp, oA_get cV (by omega)]
    · have c2 : cT (f (k - 1)) (f k) < 0 := by
        have w1 := hS (k - 1) k (by omega) (by omega) q1
        have w2 := T.swap (f k) (f (k - 1))
        omega
      have h4 := h3.ne T c2
      rw [upd_self] at h4
      obtain ⟨k', g', cs', b1, b2⟩ := ih (k + 1) (by omega) (by omega) h4
      refine ⟨k', g', cs', ?_, b2⟩
      have e : cpt1_V [.osl 1 0 N 1, .fn 85 [.ptr 0 0], .int .i64 k] (sT (sO r) rest toks tys f N) = cpt1_V [.osl 1 0 N 1, .fn 85 [.ptr 0 0], .int .i64 ((k + 1 : Nat) : Int)] (sT (sO r) rest toks tys f N) := by
        simp only [sT, sO]
        rw [cpt1_E]
        unfold cpt1_Tr
        simp only [oLen_N, iLt_N, iEq_0, okIx_N, nNat_N, pOff_1, Nat.zero_add, sub_N1 (a := k) h2 (by omega), add_N1 (a := k) (by omega), q1, q2, okCell_oA cV q1, okCell_oA cV q2, cRow_oA cV q1, cRow_oA cV q2, lockLL_rOf, okR_of, cmpTV_cT, c1, decide_true, decide_false, Bool.false_eq_true, if_false, if_true, Tr.run_ite, Tr.run_ret, lnext_next]
      rw [e]
      exact b1
theorem cpt_law (f : Nat → List Vl) (N : Nat) (h1 : 1 ≤ N) (hN : N ≤ 1152921504606846975) (hS : Srt cT f 0 N) :
    ∃ (k' : Nat) (g' : Nat → List Vl) (cs' : List PV), cpt_is0 0 N r (oA cV f N) rest toks tys = true ∧ cpt_o 0 N r (oA cV f N) rest toks tys = 0 ∧ cpt_m 0 N r (oA cV f N) rest toks tys = k' ∧ cpt_l 0 N r (oA cV f N) rest toks tys = cs' ∧
      k' ≤ cs'.length ∧ (∀ p, p < k' → cs'[p]? = some (.sl (rOf cV (g' p)) .non)) ∧ Dd cT f g' N k' N := by
  have fin : ∀ (k' : Nat) (cs' : List PV), cpt_W 0 N r (oA cV f N) rest toks tys = some (.osl 1 0 k' 1, ⟨sO r :: cs' :: rest, toks, 82 :: 1000023 :: tys⟩) →
      cpt_is0 0 N r (oA cV f N) rest toks tys = true ∧ cpt_o 0 N r (oA cV f N) rest toks tys = 0 ∧ cpt_m 0 N r (oA cV f N) rest toks tys = k' ∧ cpt_l 0 N r (oA cV f N) rest toks tys = cs' := by
    intro k' cs' h
    have a1 : cpt_o 0 N r (oA cV f N) rest toks tys = 0 := by rw [cpt_o, h]; rfl
    have a2 : cpt_m 0 N r (oA cV f N) rest toks tys = k' := by rw [cpt_m, h]; rfl
    have a3 : cpt_l 0 N r (oA cV f N) rest toks tys = cs' := by rw [cpt_l, h]; rfl
    exact ⟨by rw [cpt_is0, a1, a2, a3, h]; simp [sO], a1, a2, a3⟩
  by_cases e : N < 2
  · have e1 : N = 1 := by omega
    subst e1
    obtain ⟨x1, x2, x3, x4⟩ := fin 1 (oA cV f 1) (by
      unfold cpt_W cpt_Tr
      have : iLt (oLen 1) 2 = true := by decide
      simp only [this, if_true, Tr.run_ite, Tr.run_ret])
    exact ⟨1, f, oA cV f 1, x1, x2, x3, x4, by simp, fun p hp => oA_get cV hp, Dd.init f 1⟩
  · obtain ⟨k', g', cs', b1, b2, b3, b4, b5⟩ := cpt1_law T r rest toks tys f N hN hS (N - 1) 1 (by omega) (Nat.le_refl _) (Dd.init f N)
    have hlt : iLt (oLen N) 2 = false := by unfold iLt oLen; simp; omega
    rcases b1 with b1 | ⟨rfl, b1⟩
    · have w : cpt1_W 0 N 1 r (oA cV f N) rest toks tys = _ := b1
      have a1 : cpt1_o_0 0 N 1 r (oA cV f N) rest toks tys = 0 := by rw [cpt1_o_0, w]; rfl
      have a2 : cpt1_m_0 0 N 1 r (oA cV f N) rest toks tys = k' := by rw [cpt1_m_0, w]; rfl
      have a3 : cpt1_l_0 0 N 1 r (oA cV f N) rest toks tys = cs' := by rw [cpt1_l_0, w]; rfl
      have a4 : cpt1_is0 0 N 1 r (oA cV f N) rest toks tys = true := by rw [cpt1_is0, w, a1, a2, a3]; simp [sO]
      obtain ⟨x1, x2, x3, x4⟩ := fin k' cs' (by
        unfold cpt_W cpt_Tr
        simp only [hlt, a1, a2, a3, a4, Bool.false_eq_true, if_false, if_true, Tr.run_ite, Tr.run_ret])
      exact ⟨k', g', cs', x1, x2, x3, x4, b3, b4, b5⟩
    · have w : cpt1_W 0 k' 1 r (oA cV f k') rest toks tys = _ := b1
      have a3 : cpt1_l_1 0 k' 1 r (oA cV f k') rest toks tys = cs' := by rw [cpt1_l_1, w]; rfl
      have a4 : cpt1_is0 0 k' 1 r (oA cV f k') rest toks tys = false := by rw [cpt1_is0, w]; simp [isW]
      have a5 : cpt1_is1 0 k' 1 r (oA cV f k') rest toks tys = true := by rw [cpt1_is1, w, a3]; simp [sO]
      obtain ⟨x1, x2, x3, x4⟩ := fin k' cs' (by
        unfold cpt_W cpt_Tr
        simp only [hlt, a3, a4, a5, Bool.false_eq_true, if_false, if_true, Tr.run_ite, Tr.run_ret])
      exact ⟨k', g', cs', x1, x2, x3, x4, b3, b4, b5⟩
end
end Go.Pv

set_option maxHeartbeats 8000000
set_option maxRecDepth 200000
set_option linter.unusedSimpArgs false
set_option linter.unusedVariables false
/-! Tuples in order, each once. -/
namespace Go.Pv
open Go Go.Proofs
theorem cln_law (l : List (List Vl)) (h : l ≠ []) (hb : l.length * 24 ≤ 140737488355328) (c0 : List PV) :
    cln_is0 (rOf (cR cV) l) c0 = false ∧ cln_is1 (rOf (cR cV) l) c0 = true ∧ cln_o_1 (rOf (cR cV) l) c0 = 0 ∧ cln_m_1 (rOf (cR cV) l) c0 = l.length ∧ cln_l2_1 (rOf (cR cV) l) c0 = oA cV (fun i => l.getD i []) l.length := by
  have hw : cln_W (rOf (cR cV) l) c0 = some (.osl 1 0 l.length 1, ⟨[c0, oA cV (fun i => l.getD i []) l.length], [], [82, 1000023]⟩) := by
    have hfl : ∀ m : List (List Vl), (rOf (cR cV) m).flatten = m.map fun x => .sl (rOf cV x) .non := fun m => by
      induction m with
      | nil => rfl
      | cons a m ih => rw [rOf_cons, List.flatten_cons, List.map_cons, ih]; rfl
    have hfl := (hfl l).trans (oA_of cV l).symm
    have e1 : xNil (rOf (cR cV) l) = false := by cases l with
      | nil => exact absurd rfl h
      | cons a l => rfl
    have e2 : okGrow [] (rOf (cR cV) l) 24 = true := by simp [okGrow]; omega
    have e3 : okNews (rOf (cR cV) l) 1 = true := okNews_rOf (cR cV) l
    have e4 : okSize [] 1 = true := rfl
    have e5 : nXs (rOf (cR cV) l) = l.length := nXs_rOf (cR cV) l
    have e6 : xApp [] (rOf (cR cV) l) = rOf (cR cV) l := rfl
    unfold cln_W cln_Tr
    simp only [e1, e2, e3, e4, e5, e6, hfl, Bool.false_eq_true, if_false, if_true, Tr.run_ite, Tr.run_ret]
  have a1 : cln_o_1 (rOf (cR cV) l) c0 = 0 := by rw [cln_o_1, hw]; rfl
  have a2 : cln_m_1 (rOf (cR cV) l) c0 = l.length := by rw [cln_m_1, hw]; rfl
  have a3 : cln_l2_1 (rOf (cR cV) l) c0 = oA cV (fun i => l.getD i []) l.length := by rw [cln_l2_1, hw]; rfl
  exact ⟨by rw [cln_is0, hw]; simp [isW], by rw [cln_is1, a1, a2, a3, hw]; simp, a1, a2, a3⟩
theorem srt_law (T : Tot cT) (l : List (List Vl)) (h : l ≠ []) (hb : l.length * 24 ≤ 140737488355328) : srt_W (rOf (cR cV) l) = some (.sl (rOf (cR cV) (usort cT l)) .non) := by
  obtain ⟨a1, a2, a3, a4, a5⟩ := cln_law l h hb (sO (rOf (cR cV) l))
  obtain ⟨f1, b1, b2, b3, b4⟩ := ssf_law T (sO (rOf (cR cV) l)) [] [] [] (fun i => l.getD i []) l.length (by omega)
  obtain ⟨k', g', cs', d1, d2, d3, d4, d5, d6, d7⟩ := cpt_law T (rOf (cR cV) l) [] [] [] f1 l.length (by cases l with | nil => exact absurd rfl h | cons a l => simp) (by omega) b3
  have e1 := d7.done T b4
  have e2 := rowsC_1 cV d6
  have e3 : (List.range l.length).map (fun i => l.getD i []) = l := by
    apply List.ext_getElem?
    intro i
    by_cases hi : i < l.length
    · simp [hi]
    · simp [hi]
  rw [e3] at e1
  have e4 : okOff cs' 0 k' = true := by simp [okOff]; omega
  simp only [sO] at a1 a2 a3 a4 a5 b1 b2 d1 d2 d3 d4
  unfold srt_W srt_Tr
  simp only [a1, a2, a3, a4, a5, b1, b2, d1, d2, d3, d4, pOff_1, Nat.zero_add, e4, e2, e1, shutLL_rOf, Bool.false_eq_true, if_false, if_true, Tr.run_ite, Tr.run_ret]
end Go.Pv

set_option maxHeartbeats 4000000
set_option maxRecDepth 200000
set_option linter.unusedSimpArgs false
set_option linter.unusedVariables false
namespace Go.Pv
open Go Go.Proofs

theorem sAt_get {l : List UInt8} {i : Int} {v : UInt8} (h : l[i.toNat]? = some v) : sAt l i = v.toNat := by
  simp [sAt, List.getD_eq_getElem?_getD, h]
theorem okIdx_get {l : List UInt8} {i : Int} {v : UInt8} (h0 : 0 ≤ i) (h : l[i.toNat]? = some v) : okIdx l i = true := by
  have := (List.getElem?_eq_some_iff.1 h).1
  simp [h0, this]

/-! ### value.digit -/
def dv : List UInt8 → Int → Int → Int
  | [], _, _ => 16
  | b :: l, c, i => if (b.toNat : Int) = c then i else dv l c (i + 1)
def digV (c : Int) : Int := dv hexL c 0
def F_digit : List PV → Tr PV
  | [.int .u8 c] => .ret (.int .u8 (digV c))
  | _ => .fail
def d_digit : List PV → Store → Option (Int × Int × Store)
  | [.int .u8 c, .int .i64 i], σ => some (c, i, σ)
  | _, _ => none
def r_digit : Int × Int × Store → Tr (PExit × List (Nat × PV) × Store)
  | (c, i, σ) => Tr.chk (iEq i 0) (.ite (iEq (digV c) 16) (.ret (.exit 0, [], σ)) (.ret (.ret, [(2, .int .u8 (digV c))], σ)))
def L_digit : LpsT := fun r fr σ => if r = 2 then oracle 14 [0, 4] d_digit r_digit fr σ else .fail
noncomputable def c_digit : Code := loopN Tryd.f127 0
theorem loop_digit (gl : Nat → Option Obj) : ∀ vs σ a e out σ', d_digit vs σ = some a → (r_digit a).run = some (e, out, σ') → LDoes Tryd.prog gl c_digit (mk 14 ([0, 4].zip vs)) σ e (mk 14 out) σ' := by
  intro vs s a e out σ' hd hr
  unfold d_digit at hd
  split at hd
  · rename_i c i
    cases hd
    obtain ⟨h1, h2⟩ := Tr.chk_some hr
    simp at h1
    subst h1
    clear hr
    have key : ∀ (m : Nat) (i : Int), 0 ≤ i → i + m = 16 → dv (hexL.drop i.toNat) c i = digV c → LDoes Tryd.prog gl c_digit (mk 14 ([0, 4].zip [.int .u8 c, .int .i64 i])) s e (mk 14 out) σ' := by
      intro m
      induction m with
      | zero =>
        intro i h0 hi hf
        have : i = 16 := by omega
        subst this
        have hf : 16 = digV c := hf
        simp [← hf] at h2
        obtain ⟨rfl, rfl, rfl⟩ := h2
        refine LDoes.round tbT_ok (G := ofL []) gamOk_nil noMixed (L := fun _ _ _ => .fail) (loopOk_none (by kernel_rfl)) (by kernel_rfl) ?_
        refine Tr.all_as (Tr.ite (iLt 16 16)
            (Tr.ite (okIdx [48, 49, 50, 51, 52, 53, 54, 55, 56, 57, 97, 98, 99, 100, 101, 102] 16)
              (Tr.ite (iEq (sAt [48, 49, 50, 51, 52, 53, 54, 55, 56, 57, 97, 98, 99, 100, 101, 102] 16) c)
                (Tr.ret
                  (PExit.ret, [10, 5],
                    [PV.int IntKind.u8 c, PV.top, PV.int IntKind.u8 (iWrap IntKind.u8 16), PV.int IntKind.i64 16, PV.int IntKind.i64 16, PV.bool true, PV.int IntKind.i64 16, PV.int IntKind.i64 16,
                      PV.int IntKind.u8 (sAt [48, 49, 50, 51, 52, 53, 54, 55, 56, 57, 97, 98, 99, 100, 101, 102] 16), PV.int IntKind.u8 c, PV.bool true, PV.int IntKind.i64 16,
                      PV.int IntKind.u8 (iWrap IntKind.u8 16), PV.top],
                    s))
                (Tr.ret
                  (PExit.normal, [10, 5],
                    [PV.int IntKind.u8 c, PV.top, PV.top, PV.int IntKind.i64 16, PV.int IntKind.i64 (iAdd IntKind.i64 16 1), PV.bool true, PV.int IntKind.i64 16, PV.int IntKind.i64 16,
                      PV.int IntKind.u8 (sAt [48, 49, 50, 51, 52, 53, 54, 55, 56, 57, 97, 98, 99, 100, 101, 102] 16), PV.int IntKind.u8 c, PV.bool false, PV.top, PV.top,
                      PV.int IntKind.i64 (iAdd IntKind.i64 16 1)],
                    s)))
              Tr.fail)
            (Tr.ret (PExit.exit 0, [5], [PV.int IntKind.u8 c, PV.top, PV.top, PV.top, PV.int IntKind.i64 16, PV.bool false, PV.top, PV.top, PV.top, PV.top, PV.top, PV.top, PV.top, PV.top], s))) (by kernel_rfl) ?_
        refine ⟨fun h => by simp at h, fun h => ⟨rfl, by simp [Weak, mk, mkFrom, look], rfl⟩⟩
      | succ m ih =>
        intro i h0 hi hf
        obtain ⟨v, hv⟩ := get_lt (l := hexL) (i := i.toNat) (by show i.toNat < 16; omega)
        rw [drop_of_get hv] at hf
        refine LDoes.round tbT_ok (G := ofL []) gamOk_nil noMixed (L := fun _ _ _ => .fail) (loopOk_none (by kernel_rfl)) (by kernel_rfl) ?_
        refine Tr.all_as (Tr.ite (iLt i 16)
            (Tr.ite (okIdx [48, 49, 50, 51, 52, 53, 54, 55, 56, 57, 97, 98, 99, 100, 101, 102] i)
              (Tr.ite (iEq (sAt [48, 49, 50, 51, 52, 53, 54, 55, 56, 57, 97, 98, 99, 100, 101, 102] i) c)
                (Tr.ret
                  (PExit.ret, [10, 5],
                    [PV.int IntKind.u8 c, PV.top, PV.int IntKind.u8 (iWrap IntKind.u8 i), PV.int IntKind.i64 i, PV.int IntKind.i64 i, PV.bool true, PV.int IntKind.i64 i, PV.int IntKind.i64 i,
                      PV.int IntKind.u8 (sAt [48, 49, 50, 51, 52, 53, 54, 55, 56, 57, 97, 98, 99, 100, 101, 102] i), PV.int IntKind.u8 c, PV.bool true, PV.int IntKind.i64 i,
                      PV.int IntKind.u8 (iWrap IntKind.u8 i), PV.top],
                    s))
                (Tr.ret
                  (PExit.normal, [10, 5],
                    [PV.int IntKind.u8 c, PV.top, PV.top, PV.int IntKind.i64 i, PV.int IntKind.i64 (iAdd IntKind.i64 i 1), PV.bool true, PV.int IntKind.i64 i, PV.int IntKind.i64 i,
                      PV.int IntKind.u8 (sAt [48, 49, 50, 51, 52, 53, 54, 55, 56, 57, 97, 98, 99, 100, 101, 102] i), PV.int IntKind.u8 c, PV.bool false, PV.top, PV.top,
                      PV.int IntKind.i64 (iAdd IntKind.i64 i 1)],
                    s)))
              Tr.fail)
            (Tr.ret (PExit.exit 0, [5], [PV.int IntKind.u8 c, PV.top, PV.top, PV.top, PV.int IntKind.i64 i, PV.bool false, PV.top, PV.top, PV.top, PV.top, PV.top, PV.top, PV.top, PV.top], s))) (by kernel_rfl) ?_
        refine ⟨fun _ => ⟨fun _ => ⟨fun h => ?_, fun h => ?_⟩, fun h => ?_⟩, fun h => by simp at h; omega⟩
        · have h : iEq (sAt hexL i) c = true := h
          rw [sAt_get hv] at h
          simp at h
          simp only [dv, if_pos h] at hf
          rw [← hf] at h2
          have h16 : ¬ i = 16 := by omega
          simp [h16] at h2
          obtain ⟨rfl, rfl, rfl⟩ := h2
          refine ⟨rfl, ?_, rfl⟩
          simp [Weak, mk, mkFrom, look, iWrap, wrap_u8 (n := i) (by omega)]
        · have h : iEq (sAt hexL i) c = false := h
          rw [sAt_get hv] at h
          simp at h
          simp only [dv, if_neg h] at hf
          have e1 : (i + 1).toNat = i.toNat + 1 := by omega
          refine LDoes.into ?_ (ih (i + 1) (by omega) (by omega) (by rw [e1]; exact hf))
          simp [Weak, mk, mkFrom, look, iAdd, wrap_i64 (n := i + 1) (by omega)]
        · have h : okIdx hexL i = false := h
          rw [okIdx_get h0 hv] at h
          cases h
    exact key 16 0 (by omega) (by omega) rfl
  · cases hd
theorem sim_digit (gl : Nat → Option Obj) : SimP Tryd.prog gl 127 fun args => (F_digit args).run := by
  refine SimP.of_tree (G := ofL []) (L := L_digit) tbT_ok gamOk_nil noMixed Tryd.func127 rfl (by rfl) (by kernel_rfl) (loopOk_one (r := 2) (c1 := c_digit) (by kernel_rfl) ?_) ?_
  · intro fr σ e fr' σ' hh
    simp only [lps, L_digit, if_true] at hh
    exact oracle_ok (loop_digit gl) fr σ e fr' σ' hh
  intro args x h hr
  unfold F_digit at h
  split at h
  · rename_i c
    cases h
    refine Tr.run_as (Tr.ite (iEq 0 0) (Tr.ite (iEq (digV c) 16) (Tr.ret (PV.int IntKind.u8 16)) (Tr.ret (PV.int IntKind.u8 (digV c)))) Tr.fail) (by kernel_rfl) ?_
    simp [eq_comm]
  · cases h

/-! ### value.escape -/
def escB (s : List UInt8) : Int :=
  if s = [] then 0 else if sAt s 0 = 34 ∨ sAt s 0 = 92 then sAt s 0 else if sAt s 0 = 110 then 10 else if sAt s 0 = 116 then 9
  else if sAt s 0 = 120 ∧ 3 ≤ s.length ∧ digV (sAt s 1) < 16 ∧ digV (sAt s 2) < 16 then iOr .u8 (iShl .u8 (digV (sAt s 1)) 4) (digV (sAt s 2)) else 0
def escN (s : List UInt8) : Int :=
  if s = [] then 0 else if sAt s 0 = 34 ∨ sAt s 0 = 92 then 1 else if sAt s 0 = 110 then 1 else if sAt s 0 = 116 then 1
  else if sAt s 0 = 120 ∧ 3 ≤ s.length ∧ digV (sAt s 1) < 16 ∧ digV (sAt s 2) < 16 then 3 else 0
def F_escape : List PV → Tr PV
  | [.str s] => .ret (.tup [.int .u8 (escB s), .int .i64 (escN s)])
  | _ => .fail
theorem sim_escape (gl : Nat → Option Obj) : SimP Tryd.prog gl 116 fun args => (F_escape args).run := by
  refine SimP.of_tree (G := ofL [(127, .pure F_digit)]) (L := fun _ _ _ => .fail) tbT_ok (gamOk_cons (sim_digit gl) gamOk_nil) noMixed Tryd.func116 rfl (by rfl) (by kernel_rfl) (loopOk_none (by kernel_rfl)) ?_
  intro args x h hr
  unfold F_escape at h
  split at h
  · rename_i s
    cases h
    refine Tr.run_as (Tr.ite (sEq s []) (Tr.ret (PV.tup [PV.int IntKind.u8 0, PV.int IntKind.i64 0]))
        (Tr.ite (okIdx s 0)
          (Tr.ite (iEq (sAt s 0) 34) (Tr.ite (okIdx s 0) (Tr.ret (PV.tup [PV.int IntKind.u8 (sAt s 0), PV.int IntKind.i64 1])) Tr.fail)
            (Tr.ite (iEq (sAt s 0) 92) (Tr.ite (okIdx s 0) (Tr.ret (PV.tup [PV.int IntKind.u8 (sAt s 0), PV.int IntKind.i64 1])) Tr.fail)
              (Tr.ite (iEq (sAt s 0) 110) (Tr.ret (PV.tup [PV.int IntKind.u8 10, PV.int IntKind.i64 1]))
                (Tr.ite (iEq (sAt s 0) 116) (Tr.ret (PV.tup [PV.int IntKind.u8 9, PV.int IntKind.i64 1]))
                  (Tr.ite (iEq (sAt s 0) 120)
                    (Tr.ite (iLe 3 (sLen s))
                      (Tr.ite (okIdx s 1)
                        (Tr.ite (iLt (digV (sAt s 1)) 16)
                          (Tr.ite (okIdx s 2)
                            (Tr.ite (iLt (digV (sAt s 2)) 16)
                              (Tr.ite (okIdx s 1)
                                (Tr.ite (okIdx s 2) (Tr.ret (PV.tup [PV.int IntKind.u8 (iOr IntKind.u8 (iShl IntKind.u8 (digV (sAt s 1)) 4) (digV (sAt s 2))), PV.int IntKind.i64 3])) Tr.fail) Tr.fail)
                              (Tr.ret (PV.tup [PV.int IntKind.u8 0, PV.int IntKind.i64 0])))
                            Tr.fail)
                          (Tr.ret (PV.tup [PV.int IntKind.u8 0, PV.int IntKind.i64 0])))
                        Tr.fail)
                      (Tr.ret (PV.tup [PV.int IntKind.u8 0, PV.int IntKind.i64 0])))
                    (Tr.ret (PV.tup [PV.int IntKind.u8 0, PV.int IntKind.i64 0])))))))
          Tr.fail)) (by kernel_rfl) ?_
    by_cases h0 : s = []
    · subst h0; simp [escB, escN]
    · have hl : 0 < s.length := List.length_pos_iff.2 h0
      have k0 : okIdx s 0 = true := by simp [hl]
      by_cases h3 : 3 ≤ s.length
      · have k1 : okIdx s 1 = true := by simp; omega
        have k2 : okIdx s 2 = true := by simp; omega
        have h3' : (3 : Int) ≤ s.length := by omega
        simp only [Tr.run_ite, k0, k1, k2, iEq_eq, iLe_eq, iLt_eq, sEq_eq, sLen_eq, decide_eq_true_eq, h0, h3', if_true, if_false, escB, escN, h3, true_and, Tr.run_ret]
        repeat' split
        all_goals first | rfl | (simp_all; done) | (exfalso; simp_all; done) | (exfalso; omega)
      · have h3' : ¬ (3 : Int) ≤ s.length := by omega
        simp only [Tr.run_ite, k0, iEq_eq, iLe_eq, iLt_eq, sEq_eq, sLen_eq, decide_eq_true_eq, h0, h3', if_true, if_false, escB, escN, h3, false_and, and_false, Tr.run_ret]
        repeat' split
        all_goals first | rfl | (simp_all; done) | (exfalso; simp_all; done) | (exfalso; omega)
  · cases h


/-! ### digits of a number -/
def digsN (n : Nat) : List UInt8 := if h : n < 10 then [UInt8.ofNat (48 + n)] else digsN (n / 10) ++ [UInt8.ofNat (48 + n % 10)]
  termination_by n
  decreasing_by omega
theorem digsN_len : ∀ (k n : Nat), n < 10 ^ (k + 1) → (digsN n).length ≤ k + 1 := by
  intro k
  induction k with
  | zero => intro n h; unfold digsN; simp at h; simp [h]
  | succ k ih =>
    intro n h
    unfold digsN
    split
    · simp
    · have := ih (n / 10) (by rw [Nat.pow_succ] at h; omega)
      simp
      omega
def digsV (n : Int) : List UInt8 := digsN n.toNat
def F_digsK (k : Nat) : List PV → Tr PV
  | [.int .u64 n] => Tr.chk (ltN n k) (.ret (.str (digsV n)))
  | _ => .fail
def F_digs : List PV → Tr PV
  | [.int .u64 n] => .ret (.str (digsV n))
  | _ => .fail
end Go.Pv

set_option maxHeartbeats 4000000
set_option maxRecDepth 200000
set_option linter.unusedSimpArgs false
set_option linter.unusedVariables false
namespace Go.Pv
open Go Go.Proofs

/-! ### pedigreeref01.Text -/
def symB (s : List UInt8) : List UInt8 := s.flatMap fun b => oneV b.toNat
def symV (s : List UInt8) : List UInt8 := 34 :: symB s ++ [34]
def intV (n : Int) : List UInt8 := if n < 0 then 45 :: digsV (-n) else digsV n
def textV (k n : Int) (s : List UInt8) : List UInt8 := if isV k n s = true then (if k = 1 then intV n else symV s) else []
def symH (s : List UInt8) : List UInt8 := 34 :: symB s

theorem oneV_len (c : Int) : 1 ≤ (oneV c).length ∧ (oneV c).length ≤ 4 := by
  unfold oneV
  repeat' split
  all_goals simp
theorem symB_len : ∀ s, (symB s).length ≤ 4 * s.length
  | [] => by simp [symB]
  | b :: s => by
    have := symB_len s
    have := oneV_len b.toNat
    simp [symB] at *
    omega

theorem checkV_is (k n : Int) (s : List UInt8) : checkV k n s = if isV k n s = true then 0 else 10 := by
  unfold checkV isV
  by_cases h1 : k = 1 ∧ s = []
  · simp [h1]
  · by_cases h2 : k = 2 ∧ n = 0 ∧ s.length ≤ 256
    · simp [h2]
    · rw [if_neg h1, if_neg h2, if_neg]
      simp only [decide_eq_true_eq]
      rintro (h | h)
      · exact h1 h
      · exact h2 h
theorem digsV_len {n : Int} (h : n ≤ 18446744073709551616) : (digsV n).length ≤ 20 := digsN_len 19 n.toNat (by omega)

def F_RText : List PV → Tr PV
  | [.agg [.int .i64 k, .int .i64 n, .str s]] => .ret (.tup [.str (textV k n s), .int .i64 (checkV k n s)])
  | _ => .fail
def d_RText : List PV → Store → Option (Int × Int × List UInt8 × Int × Store)
  | [.ptr 0 0, .sl [[.int .u8 34]] .full, .int .i64 i], ⟨[[.int .i64 k, .int .i64 n, .str s]], [], ty⟩ => some (k, n, s, i, ⟨[[.int .i64 k, .int .i64 n, .str s]], [], ty⟩)
  | _, _ => none
def r_RText : Int × Int × List UInt8 × Int × Store → Tr (PExit × List (Nat × PV) × Store)
  | (k, n, s, i, σ) => Tr.chk (iEq i 0) (Tr.chk (iLe (sLen s) 256) (.ite (sEq s []) (.ret (.exit 0, [(4, .sl (bytesOf (symH s)) .full)], ⟨σ.objs, [], σ.tys⟩)) (.ret (.exit 0, [(4, .sl (bytesOf (symH s)) (.tok 0))], ⟨σ.objs, [(nLen (symH s), 1, 5)], σ.tys⟩))))
def L_RText : LpsT := fun r fr σ => if r = 9 then oracle 46 [1, 4, 5] d_RText r_RText fr σ else .fail
end Go.Pv

set_option maxHeartbeats 4000000
set_option maxRecDepth 200000
set_option linter.unusedSimpArgs false
set_option linter.unusedVariables false
namespace Go.Pv
open Go Go.Proofs Go.RowKit

/-- A package variable, as it lies in the world that gl tells of. -/
def VarIs (gl : Nat → Option Obj) (name : String) (cs : Array Value) : Prop := ∃ g T f, Tryd.prog.globalNamed name = some g ∧ gl g = some (.cells cs T f)

/-- The library's variables, as they are laid. -/
structure GlPow (gl : Nat → Option Obj) : Prop where
  pow : VarIs gl "internal/strconv.uint64pow10" (Lib.pow10Tab.map fun z => Value.int .u64 z).toArray
structure GlOk (gl : Nat → Option Obj) : Prop extends GlPow gl where
  syn : ∃ tp p, VarIs gl "strconv.ErrSyntax" #[.iface tp p]
  rng : ∃ tp p, VarIs gl "strconv.ErrRange" #[.iface tp p]

theorem VarIs.var {gl : Nat → Option Obj} {name : String} {cs : Array Value} (h : VarIs gl name cs) {w : World} (hw : ∀ b o, gl b = some o → w.heap[b]? = some o) : w.var? Tryd.prog name = some cs := by
  obtain ⟨g, T, f, h1, h2⟩ := h
  simp [World.var?, h1, hw g _ h2]

theorem GlPow.dr {gl : Nat → Option Obj} (h : GlPow gl) (w w' : World) : Dr gl w w' := fun hg => by
  obtain ⟨g, T, f, _, h2⟩ := h.pow
  rw [hg g] at h2
  cases h2

/-! ### strconv.FormatInt at base 10 -/
def itoaV (n : Int) : List UInt8 := Lib.itoa n
def F_FormatInt : List PV → Tr PV
  | [.int .i64 n, .int .i64 b] => Tr.chk (iEq b 10) (.ret (.str (itoaV n)))
  | _ => .fail
theorem sim_FormatInt {gl : Nat → Option Obj} (hgl : GlPow gl) : SimP Tryd.prog gl 92 fun args => (F_FormatInt args).run := by
  refine ⟨⟨_, Tryd.func92, by rfl, by rfl⟩, ?_⟩
  intro args x hx H w vs hB hob htk hw hrel
  unfold F_FormatInt at hx
  split at hx
  · rename_i n b
    obtain ⟨h1, h2⟩ := Tr.chk_some hx
    cases h2
    simp at h1
    subst h1
    cases hrel with
    | cons _ v _ vs hv hvs =>
      cases hvs with
      | cons _ v2 _ vs hv2 hvs =>
        cases hvs
        cases hv with
        | int _ _ hwf =>
          cases hv2
          simp [Lit.wf, IntKind.min, IntKind.max, IntKind.signed, IntKind.bits] at hwf
          refine (Tryd.strconv_FormatInt_10 n hwf.1 (by omega) w (hgl.pow.var hw)).mono ?_
          rintro e w' ⟨rfl, k, os, rfl⟩
          refine ⟨_, rfl, ⟨Lib.below_grow _ _ (Nat.le_refl _) k os, hgl.dr _ _⟩, .str _ ?_⟩
          have := Lib.itoa_length_le n hwf.1 (by omega)
          show (Lib.itoa n).length ≤ maxLen
          unfold maxLen
          omega
  · cases hx

/-! ### strconv.ParseInt at base 10 and 64 bits -/
def pOk (s : List UInt8) : Bool := match Lib.parseIntB 64 s with
  | .ok _ => true
  | _ => false
def pVal (s : List UInt8) : Int := match Lib.parseIntB 64 s with
  | .ok v => v
  | .range => Lib.intSat 64 s
  | _ => 0
def okSize48 (s : List UInt8) : Bool := decide (s.length ≤ 281474976710656)
def F_ParseInt : List PV → Tr PV
  | [.str s, .int .i64 b, .int .i64 k] => Tr.chk (iEq b 10) (Tr.chk (iEq k 64) (Tr.chk (okSize48 s) (.ite (pOk s) (.ret (.tup [.int .i64 (pVal s), .nili])) (.ret (.tup [.int .i64 (pVal s), .iface 159 .top])))))
  | _ => .fail
theorem pVal_wf (s : List UInt8) : (Lit.int .i64 (pVal s)).wf = true := by
  have key : -9223372036854775808 ≤ pVal s ∧ pVal s ≤ 9223372036854775807 := by
    unfold pVal
    split
    · rename_i v hv
      have h := Lib.parseIntB_bounds hv
      have e : ((2 ^ (64 - 1) : Nat) : Int) = 9223372036854775808 := by decide
      rw [e] at h
      omega
    · unfold Lib.intSat
      split
      · have e : -(((2 ^ (64 - 1) : Nat)) : Int) = -9223372036854775808 := by decide
        rw [e]
        omega
      · have e : (((2 ^ (64 - 1) - 1 : Nat)) : Int) = 9223372036854775807 := by decide
        rw [e]
        omega
    · omega
  simp [Lit.wf, IntKind.min, IntKind.max, IntKind.signed, IntKind.bits]
  omega
theorem sim_ParseInt {gl : Nat → Option Obj} (hgl : GlOk gl) : SimP Tryd.prog gl 104 fun args => (F_ParseInt args).run := by
  refine ⟨⟨_, Tryd.func104, by rfl, by rfl⟩, ?_⟩
  intro args x hx H w vs hB hob htk hw hrel
  unfold F_ParseInt at hx
  split at hx
  · rename_i s b k
    obtain ⟨h1, h2⟩ := Tr.chk_some hx
    obtain ⟨h3, h4⟩ := Tr.chk_some h2
    obtain ⟨h5, h6⟩ := Tr.chk_some h4
    simp at h1 h3
    simp [okSize48] at h5
    subst h1 h3
    have hwf := pVal_wf s
    cases hrel with
    | cons _ v _ vs hv hvs =>
      cases hvs with
      | cons _ v2 _ vs hv2 hvs =>
        cases hvs with
        | cons _ v3 _ vs hv3 hvs =>
          cases hvs
          cases hv2; cases hv3
          cases hv with
          | str _ hl =>
            have hsz : (ByteArray.mk s.toArray).size = s.length := by simp [ByteArray.size]
            cases hp : Lib.parseIntB 64 s with
            | ok n =>
              have e1 : pOk s = true := by simp [pOk, hp]
              have e2 : pVal s = n := by simp [pVal, hp]
              rw [e2] at hwf
              simp [e1, e2] at h6
              subst h6
              refine (Any.strconv_ParseInt_10_at64_ok Tryd.laysC174 ⟨s.toArray⟩ (by rw [hsz]; omega) n hp w).mono ?_
              rintro e w' ⟨rfl, hw'⟩
              refine ⟨_, rfl, ⟨?_, hgl.dr _ _⟩, .tup _ _ (.cons _ _ _ _ (.int _ _ hwf) (.cons _ _ _ _ .nili .nil))⟩
              rcases hw' with rfl | ⟨t, rfl⟩
              · exact Below.refl _ _
              · exact ⟨rfl, rfl, rfl, by rw [Lib.bytesWorld_size]; omega, fun k hk => Lib.bytesWorld_at_old w _ _ k hk⟩
            | range =>
              have e1 : pOk s = false := by simp [pOk, hp]
              have e2 : pVal s = Lib.intSat 64 s := by simp [pVal, hp]
              simp [e1, e2] at h6
              rw [e2] at hwf
              subst h6
              obtain ⟨tp, p, hv⟩ := hgl.rng
              refine (Any.strconv_ParseInt_10_at64_range_var Tryd.laysC174 ⟨s.toArray⟩ (by rw [hsz]; omega) hp tp p w (hv.var hw)).mono ?_
              rintro e w' ⟨N, rfl, h1, h2, h3⟩
              exact ⟨_, rfl, ⟨h3, hgl.dr _ _⟩, .tup _ _ (.cons _ _ _ _ (.int _ _ hwf) (.cons _ _ _ _ (.iface _ _ _ (.top _)) .nil))⟩
            | _ =>
              have e1 : pOk s = false := by simp [pOk, hp]
              have e2 : pVal s = 0 := by simp [pVal, hp]
              rw [e2] at hwf
              simp [e1, e2] at h6
              subst h6
              obtain ⟨tp, p, hv⟩ := hgl.syn
              refine (Any.strconv_ParseInt_10_at64_syntax_var Tryd.laysC174 ⟨s.toArray⟩ (by rw [hsz]; omega) hp tp p w (hv.var hw)).mono ?_
              rintro e w' ⟨N, rfl, h1, h2, h3⟩
              exact ⟨_, rfl, ⟨h3, hgl.dr _ _⟩, .tup _ _ (.cons _ _ _ _ (.int _ _ hwf) (.cons _ _ _ _ (.iface _ _ _ (.top _)) .nil))⟩
  · cases hx
end Go.Pv

/- strings.Builder: its check, and its text, with the caller's store. -/
set_option maxHeartbeats 4000000
set_option maxRecDepth 200000
set_option linter.unusedSimpArgs false
set_option linter.unusedVariables false
namespace Go.Pv
open Go Go.Proofs Go.Shelf Go.RowKit
variable {P : Program} {ρ : Ren} {gl : Nat → Option Obj}

theorem setCell_row {w : World} {b off : Nat} {cs : Array Value} {T : TypeId} {fz : Nat × Nat} (h : w.heap[b]? = some (.cells cs T fz)) (v : Value) : w.setCell ⟨b, off, none⟩ v = w.setRow b (cs.setIfInBounds off v) := by
  unfold World.setCell World.setRow
  congr 1
  apply Array.ext_getElem?
  intro i
  rw [Array.getElem?_modify, Array.getElem?_modify]
  by_cases hi : b = i
  · subst hi
    rw [if_pos rfl, if_pos rfl, h]
    rfl
  · rw [if_neg hi, if_neg hi]

theorem freeze_at {w : World} {b n : Nat} {cs : Array Value} {T : TypeId} {fz : Nat × Nat} (h : w.heap[b]? = some (.cells cs T fz)) : ∃ fz', (w.freeze ⟨b, 0, none⟩ n).heap[b]? = some (.cells cs T fz') := by
  unfold World.freeze
  split
  · exact ⟨fz, h⟩
  · obtain ⟨lo, hi⟩ := fz
    exact ⟨_, by simp only [Array.getElem?_modify, if_true, h]; rfl⟩

theorem freeze_other (w : World) (b n k : Nat) (h : k ≠ b) : (w.freeze ⟨b, 0, none⟩ n).heap[k]? = w.heap[k]? := by
  unfold World.freeze
  split
  · rfl
  · simp only [Array.getElem?_modify]
    rw [if_neg (fun e => h e.symm)]

theorem freeze_size (w : World) (b n : Nat) : (w.freeze ⟨b, 0, none⟩ n).heap.size = w.heap.size := by
  unfold World.freeze
  split
  · rfl
  · simp

theorem freeze_rest (w : World) (b n : Nat) : (w.freeze ⟨b, 0, none⟩ n).os = w.os ∧ (w.freeze ⟨b, 0, none⟩ n).tape = w.tape ∧ (w.freeze ⟨b, 0, none⟩ n).output = w.output := by
  unfold World.freeze
  split <;> exact ⟨rfl, rfl, rfl⟩

theorem freeze_drawn (w : World) (b n : Nat) : (w.drew.freeze ⟨b, 0, none⟩ n).drawn = w.drew.drawn := by
  unfold World.freeze
  split <;> rfl

/-! ### copyCheck -/
def D_copyCheck (T : TypeId) : List PV → Store → Tr (PV × Store)
  | [.ptr 1 0], ⟨[o, [.nilp, q]], tk, [t0, t1]⟩ => Tr.chk (t1 == T) (.ret (.tup [], ⟨[o, [.ptr 1 0, q]], tk, [t0, t1]⟩))
  | [.ptr 1 0], ⟨[o, [.ptr 1 0, q]], tk, [t0, t1]⟩ => .ret (.tup [], ⟨[o, [.ptr 1 0, q]], tk, [t0, t1]⟩)
  | _, _ => .fail

theorem one_ptr {H : Gh} {w : World} {args : List Value} {id off : Nat} (h : RelL H w [.ptr id off] args) : ∃ b, H.ob[id]? = some b ∧ args = [.pointer (some ⟨b, off, none⟩)] := by
  cases h with
  | cons _ v _ vs hv hvs =>
    cases hvs
    cases hv with
    | ptr _ _ b hb => exact ⟨b, hb, rfl⟩

theorem sim_copyCheck_of {f : FuncId} {TB : TypeId} (hTB : TB < tyMark) (hfresh : ∀ (b : Nat) (w : World), w.cell? ⟨b, 0, none⟩ = some (.pointer none) → w.shape? b = some (TB, 2) → w.frozen? ⟨b, 0, none⟩ = false → Calls P f #[.pointer (some ⟨b, 0, none⟩)] w fun e w' => e = .returned (.tuple #[]) ∧ w' = w.setCell ⟨b, 0, none⟩ (.pointer (some ⟨b, 0, none⟩)))
    (hused : ∀ (b : Nat) (w : World), w.cell? ⟨b, 0, none⟩ = some (.pointer (some ⟨b, 0, none⟩)) → Calls P f #[.pointer (some ⟨b, 0, none⟩)] w fun e w' => e = .returned (.tuple #[]) ∧ w' = w)
    (hent : ∃ fn, P.funcs[f]? = some fn ∧ (fn.name == "runtime.NumGoroutine") = false ∧ fn.body.isNone = false) : SimS P gl f fun args σ => (D_copyCheck TB args σ).run := by
  refine ⟨hent, ?_⟩
  intro args σ x σ' hx H w vs hok hrel
  unfold D_copyCheck at hx
  split at hx
  · rename_i o q tk t0 t1
    obtain ⟨h1, h2⟩ := Tr.chk_some hx
    cases h2
    have h1 : t1 = TB := by simpa using h1
    subst h1
    obtain ⟨b, hb, rfl⟩ := one_ptr hrel
    obtain ⟨hB, us, ext, T, hheap, hus⟩ := hok.obj 1 b _ hb rfl
    obtain ⟨cs, hcs, hsz⟩ := hok.ty 1 b _ _ hb rfl rfl hTB
    rw [hheap] at hcs
    simp only [Option.some.injEq, Obj.cells.injEq] at hcs
    obtain ⟨rfl, rfl, _⟩ := hcs
    have hul := hus.len
    have hext : ext = [] := by
      apply List.eq_nil_of_length_eq_zero
      simp at hsz hul
      omega
    subst hext
    cases hus with
    | cons _ u0 _ us hu0 hus =>
      cases hu0
      cases hus with
      | cons _ u1 _ us hu1 hus =>
        cases hus
        refine (hfresh b w (by rw [Lib.cell_of_heap hheap]; rfl) (by simp [World.shape?, hheap]) (by rw [Lib.frozen_of_heap hheap 0])).mono ?_
        rintro e w' ⟨rfl, rfl⟩
        rw [setCell_row hheap]
        have hset := set_obj (cs' := [.ptr 1 0, q]) (vs' := [.pointer (some ⟨b, 0, none⟩), u1]) hok hb hheap (.cons _ _ _ _ (.ptr _ _ _ hb) (.cons _ _ _ _ hu1 .nil)) (fun c0 hc0 => by cases hc0; exact ⟨rfl, rfl⟩)
        exact ⟨_, rfl, H, hset.1, hset.2, .tup _ _ .nil⟩
  · rename_i o q tk t0 t1
    cases hx
    obtain ⟨b, hb, rfl⟩ := one_ptr hrel
    obtain ⟨hB, us, ext, T, hheap, hus⟩ := hok.obj 1 b _ hb rfl
    cases hus with
    | cons _ u0 _ us hu0 hus =>
      have hu0' : u0 = .pointer (some ⟨b, 0, none⟩) := by
        cases hu0 with
        | ptr _ _ b' hb' =>
          rw [hb] at hb'
          cases hb'
          rfl
      subst hu0'
      refine (hused b w (by rw [Lib.cell_of_heap hheap]; rfl)).mono ?_
      rintro e w' ⟨rfl, rfl⟩
      exact ⟨_, rfl, .same hok (.tup _ _ .nil)⟩
  · cases hx
/-! ### String -/
def D_String (T : TypeId) : List PV → Store → Tr (PV × Store)
  | [.ptr 1 0], ⟨[o, [p, .sl xs (.tok 0)]], [(v, 1, e)], ty⟩ => Tr.chk (okBytes xs) (Tr.chk (bNot (xNil xs)) (Tr.chk (nEq v (nXs xs)) (Tr.chk (e == T) (.ret (.str (unBytes xs), ⟨[o, [p, .sl xs (.tok 0)]], [(maxLen + 1, 1, e)], ty⟩)))))
  | _, _ => .fail

set_option maxRecDepth 100000 in
theorem Any.Builder_String_at (L : Lays.n169 P ρ) (X : Builder.Extra P ρ) (b g cap : Nat) (l : List UInt8) (w : World) (p : Value) (cs cur : Array Value) (T : TypeId) (fz : Nat × Nat)
    (hbk : w.cell? ⟨b, 1, none⟩ = some (.slice (some ⟨g, 0, none⟩) l.length cap)) (hg : w.heap[g]? = some (.cells cur (ρ.t 5) fz)) (hnc : l.length ≤ cap) (hcm : cap ≤ maxLen) (hcs : cur.size = cap)
    (hcell : ∀ j x, l[j]? = some x → w.cell? ((⟨g, 0, none⟩ : Addr).add j) = some (.int .u8 x.toNat)) (h0 : l ≠ []) :
    Calls P (ρ.f 169) #[.pointer (some ⟨b, 0, none⟩)] w fun e w' => e = .returned (.string ⟨l.toArray⟩) ∧ w' = w.drew.freeze ⟨g, 0, none⟩ l.length := by
  have hl0 : l.length ≠ 0 := by simpa using h0
  have c1 : w.drew.cell? ⟨b, 1, none⟩ = some (.slice (some ⟨g, 0, none⟩) l.length cap) := hbk
  have hSD : (Builtin.unsafeSliceData_ #[(ρ.t 37)] (ρ.t 127) #[.slice (some ⟨g, 0, none⟩) l.length cap]).run P w.drew = .ok (.pointer (some ⟨g, 0, none⟩)) w.drew :=
    Lib.run_unsafeSliceData_row _ _ _ _ _ _ (by omega)
  have hUS : (Builtin.unsafeString_ #[(ρ.t 127), (ρ.t 3)] (ρ.t 9) #[.pointer (some ⟨g, 0, none⟩), .int .i64 l.length]).run P w.drew = .ok (.string ⟨l.toArray⟩) (w.drew.freeze ⟨g, 0, none⟩ l.length) := by
    refine Lib.run_unsafeString_row w.drew (ρ.t 127) (ρ.t 3) (ρ.t 9) (ρ.t 5) L.t127 X.cellsByte g cur.size (by have hg' : w.drew.heap[g]? = some (.cells cur (ρ.t 5) fz) := hg; simp [World.shape?, hg']) l h0 (by omega) (by unfold maxLen at hcm; omega) ?_
    intro j x hx
    exact hcell j x hx
  have mixed := L.mixed
  have t72 := L.t72; have a72 := L.a72; have z72 := L.z72; have v72 := L.v72; have u72 := run_underlying L.t72
  have t70 := L.t70; have a70 := L.a70; have z70 := L.z70; have v70 := L.v70; have u70 := run_underlying L.t70
  have t37 := L.t37; have a37 := L.a37; have z37 := L.z37; have v37 := L.v37; have u37 := run_underlying L.t37
  have t127 := L.t127; have a127 := L.a127; have z127 := L.z127; have v127 := L.v127; have u127 := run_underlying L.t127
  have t3 := L.t3; have a3 := L.a3; have z3 := L.z3; have v3 := L.v3; have u3 := run_underlying L.t3
  have t9 := L.t9; have a9 := L.a9; have z9 := L.z9; have v9 := L.v9; have u9 := run_underlying L.t9
  have t5 := X.t5; have a5 := X.a5; have z5 := X.z5; have v5 := X.v5; have u5 := run_underlying X.t5
  go_enter L.f169, Body.n169_ntmps ρ
  go_wp2
  go_region_o
  all_goals (go_wp2; go_ret; exact ⟨rfl, rfl⟩)

theorem Any.sim_String (L : Lays.n169 P ρ) (X : Builder.Extra P ρ) (hent : ∃ fn, P.funcs[ρ.f 169]? = some fn ∧ (fn.name == "runtime.NumGoroutine") = false ∧ fn.body.isNone = false) : SimS P gl (ρ.f 169) fun args σ => (D_String (ρ.t 5) args σ).run := by
  refine ⟨hent, ?_⟩
  intro args σ x σ' hx H w vs hok hrel
  unfold D_String at hx
  split at hx
  · rename_i o p xs v e ty
    obtain ⟨h1, q1⟩ := Tr.chk_some hx
    obtain ⟨h2, q2⟩ := Tr.chk_some q1
    obtain ⟨h3, q3⟩ := Tr.chk_some q2
    obtain ⟨h4, q4⟩ := Tr.chk_some q3
    clear hx q1 q2 q3
    have h4 : e = ρ.t 5 := by simpa using h4
    subst h4
    simp at h2 h3
    subst h3
    cases q4
    unfold okBytes unBytes at *
    cases hl : pbytes xs with
    | none => simp [hl] at h1
    | some l =>
      obtain ⟨b, hb, rfl⟩ := one_ptr hrel
      obtain ⟨hB, us, ext, T, hheap, hus⟩ := hok.obj 1 b _ hb rfl
      cases hus with
      | cons _ u0 _ us hu0 hus =>
        cases hus with
        | cons _ u1 _ us hu1 hus =>
          cases hus
          cases hu1 with
          | sl a len cap k _ vss _ hlen hcap hm hrr hrow htag =>
            obtain ⟨ns, rfl, rfl⟩ := pbytes_some hl
            have hvs := relLL_ints hrr
            subst hvs
            obtain ⟨U, hU, hle, hUv⟩ := htag
            have hUs : (U.ver, U.k, U.e) = (len, 1, ρ.t 5) := by
              have hh := hok.tkl
              have : (H.tk.map fun T => (T.ver, T.k, T.e))[0]? = some (U.ver, U.k, U.e) := by rw [List.getElem?_map, hU]; rfl
              rw [hh] at this
              simp at this
              rw [← this.1, ← this.2.1, ← this.2.2]
              simp [← hlen]
            simp only [Prod.mk.injEq] at hUs
            obtain ⟨hUver, hUk, hUe⟩ := hUs
            obtain ⟨rfl, hcapU, hkU⟩ := hUv hUver.symm
            obtain ⟨hBT, hTob, cur, fz, hcur, hvc, hcm, hcs⟩ := hok.tok 0 U hU
            have hln : (ns.map fun n => UInt8.ofNat n.toNat).length = len := by simpa using hlen
            have hk1 : k = 1 := by rw [hkU, hUk]
            subst hk1
            have hln : ns.length = len := by simpa using hlen
            have hwf : ∀ (j : Nat) (n : Int), ns[j]? = some n → 0 ≤ n ∧ n < 256 := by
              intro j n hj
              have := (relLL_iff.1 hrr).2 j [.int .u8 n] [.int .u8 n] (by simp [hj]) (by simp [hj])
              cases this with
              | cons _ _ _ _ hv _ =>
                cases hv with
                | int _ _ hwf => simp [Lit.wf, IntKind.min, IntKind.max, IntKind.signed, IntKind.bits] at hwf; omega
            have hll : (ns.map fun n => UInt8.ofNat n.toNat).length = len := by simpa using hln
            refine (Any.Builder_String_at L X b U.blk cap (ns.map fun n => UInt8.ofNat n.toNat) w u0 #[] cur T fz (by rw [hll, Lib.cell_of_heap hheap]; rfl) (by rw [← hUe]; exact hcur) (by rw [hll]; exact hcap) hm (by rw [hcs, hUk, hcapU, Nat.mul_one]) ?_ ?_).mono ?_
            · intro j x hj
              rw [List.getElem?_map] at hj
              cases hn : ns[j]? with
              | none => simp [hn] at hj
              | some n =>
                simp [hn] at hj
                subst hj
                have hb := hwf j n hn
                obtain ⟨hk, a', ha', hcell⟩ := hrow j [.int .u8 n] (by simp [hn])
                injection ha' with ha'
                subst ha'
                have := (hcell 0 _ rfl).2
                rw [Nat.mul_one, add_add, Nat.add_zero] at this
                rw [this]
                simp
                omega
            · intro hnil
              apply h2
              simpa using hnil
            · rintro e w' ⟨rfl, rfl⟩
              rw [hll]
              have hcur' : w.drew.heap[U.blk]? = some (.cells cur U.e fz) := hcur
              obtain ⟨fz', hfz'⟩ := freeze_at (n := len) hcur'
              have hrest := freeze_rest w.drew U.blk len
              have hset := set_tok' (T' := ⟨U.blk, maxLen + 1, U.cap, U.k, U.e⟩) (w' := w.drew.freeze ⟨U.blk, 0, none⟩ len) hok hU rfl (by show U.ver < maxLen + 1; omega) hcm (fun _ => by rw [freeze_drawn]; exact Nat.le_succ _) hrest.1 hrest.2.1 hrest.2.2 (by rw [freeze_size]; exact Nat.le_refl _) (.inl rfl)
                (fun k _ hk => freeze_other w.drew U.blk len k hk) (fz' := fz') (by intro h; simp at h; omega) hcur hfz' hcs (fun _ off _ => rfl)
              refine ⟨_, rfl, _, hset.1, ?_, ?_⟩
              · have := hset.2
                simpa [hUk, hUe] using this
              · exact .str (List.map (fun n => UInt8.ofNat n.toNat) ns) (by simp; omega)
  · cases hx
end Go.Pv

set_option maxHeartbeats 4000000
set_option maxRecDepth 200000
set_option linter.unusedSimpArgs false
set_option linter.unusedVariables false
namespace Go.Pv
open Go Go.Proofs Go.RowKit

/-! ### strings.Builder -/
section
variable (b : Nat) (w : World)
theorem copyCheck_used (h0 : w.cell? ⟨b, 0, none⟩ = some (.pointer (some ⟨b, 0, none⟩))) : Calls Tryd.prog 112 #[.pointer (some ⟨b, 0, none⟩)] w fun e w' => e = .returned (.tuple #[]) ∧ w' = w := by
  obtain ⟨j, hj, _⟩ : ∃ j, Tryd.prog.info? 117 = some j ∧ j.size = 2 := ⟨_, rfl, rfl⟩
  have mixed : Tryd.prog.follows .mixedOrders = true := noMixed
  have t72 := Tryd.underlying117; have a72 := Tryd.isAgg117; have z72 := Tryd.sizeOf117; have v72 := Tryd.zeroValue117; have u72 := run_underlying Tryd.underlying117
  have t70 := Tryd.underlying114; have a70 := Tryd.isAgg114; have z70 := Tryd.sizeOf114; have v70 := Tryd.zeroValue114; have u70 := run_underlying Tryd.underlying114
  have t164 := Tryd.underlying152; have a164 := Tryd.isAgg152; have z164 := Tryd.sizeOf152; have v164 := Tryd.zeroValue152; have u164 := run_underlying Tryd.underlying152
  go_enter Tryd.func112, Tryd.ntmps112
  go_wp2
  rw [Lib.run_neq_ptr_same w _ t70 hj]
  go_wp2
  go_end0
  exact ⟨rfl, rfl⟩
theorem copyCheck_fresh (h0 : w.cell? ⟨b, 0, none⟩ = some (.pointer none)) (hsh : w.shape? b = some (117, 2)) (hfz : w.frozen? ⟨b, 0, none⟩ = false) :
    Calls Tryd.prog 112 #[.pointer (some ⟨b, 0, none⟩)] w fun e w' => e = .returned (.tuple #[]) ∧ w' = w.setCell ⟨b, 0, none⟩ (.pointer (some ⟨b, 0, none⟩)) := by
  obtain ⟨j, hj, hjs⟩ : ∃ j, Tryd.prog.info? 117 = some j ∧ j.size = 2 := ⟨_, rfl, rfl⟩
  have mixed : Tryd.prog.follows .mixedOrders = true := noMixed
  have t72 := Tryd.underlying117; have a72 := Tryd.isAgg117; have z72 := Tryd.sizeOf117; have v72 := Tryd.zeroValue117; have u72 := run_underlying Tryd.underlying117
  have t70 := Tryd.underlying114; have a70 := Tryd.isAgg114; have z70 := Tryd.sizeOf114; have v70 := Tryd.zeroValue114; have u70 := run_underlying Tryd.underlying114
  have t164 := Tryd.underlying152; have a164 := Tryd.isAgg152; have z164 := Tryd.sizeOf152; have v164 := Tryd.zeroValue152; have u164 := run_underlying Tryd.underlying152
  go_enter Tryd.func112, Tryd.ntmps112
  go_wp2
  rw [Lib.run_to_unsafe w ⟨b, 0, none⟩ t70 t164 hj (by rw [hjs]; decide) hsh (Nat.zero_lt_succ 1)]
  simp only [Result.andThen]
  rw [Oper.upon_value]
  go_wp2
  rw [run_callFunc_extern Tryd.func125 (by kernel_rfl) (by kernel_rfl) (by kernel_rfl) (e := Extern.AbiNoEscape.same) (by kernel_rfl)]
  rw [Lib.run_noEscape]
  simp only [Result.andThen]
  rw [Oper.upon_value]
  go_wp2
  rw [Lib.run_from_unsafe w ⟨b, 0, none⟩ t164 t70 hj hsh (by kernel_rfl)]
  simp only [Result.andThen]
  rw [Oper.upon_value]
  go_wp2
  go_end0
  exact ⟨rfl, rfl⟩
end
theorem sim_copyCheck (gl : Nat → Option Obj) : SimS Tryd.prog gl 112 fun args σ => (D_copyCheck 117 args σ).run :=
  sim_copyCheck_of (by decide) (fun b w => copyCheck_fresh b w) (fun b w => copyCheck_used b w) ⟨_, Tryd.func112, by rfl, by rfl⟩
theorem sim_String (gl : Nat → Option Obj) : SimS Tryd.prog gl 96 fun args σ => (D_String 5 args σ).run :=
  Any.sim_String Tryd.lays169 Tryd.Builder_Extra_169 ⟨_, Tryd.func96, by rfl, by rfl⟩

def D_WB : List PV → Store → Tr (PV × Store)
  | [.ptr 1 0, .int .u8 c], ⟨[o, [.nilp, .sl [] .full]], [], [t0, 117]⟩ => .ret (.nili, ⟨[o, [.ptr 1 0, .sl [[.int .u8 c]] (.tok 0)]], [(1, 1, 5)], [t0, 117]⟩)
  | [.ptr 1 0, .int .u8 c], ⟨[o, [.ptr 1 0, .sl xs (.tok 0)]], [(v, 1, 5)], [t0, 117]⟩ => Tr.chk (okGrow xs [[.int .u8 c]] 1) (Tr.chk (okSize xs 1) (Tr.chk (nEq v (nXs xs))
      (.ret (.nili, ⟨[o, [.ptr 1 0, .sl (xApp xs [[.int .u8 c]]) (.tok 0)]], [(nXs (xApp xs [[.int .u8 c]]), 1, 5)], [t0, 117]⟩))))
  | _, _ => .fail
theorem sim_WB (gl : Nat → Option Obj) : SimS Tryd.prog gl 93 fun args σ => (D_WB args σ).run := by
  refine SimS.of_tree (G := ofL [(112, .store (D_copyCheck 117))]) (L := fun _ _ _ => .fail) tbT_ok (gamOk_store (sim_copyCheck gl) gamOk_nil) noMixed Tryd.func93 rfl (by rfl) (by kernel_rfl) (loopOk_none (by kernel_rfl)) ?_
  intro args σ x σ' h hr
  unfold D_WB at h
  split at h
  · rename_i c o t0
    cases h
    refine Tr.run_as (Tr.ite true
        (Tr.ite (okGrow [] [[PV.int IntKind.u8 c]] 1)
          (Tr.ite (okNews [[PV.int IntKind.u8 c]] 1)
            (Tr.ite (okSize [] 1) (Tr.ret (PV.nili, Store.mk [o, [PV.ptr 1 0, PV.sl (xApp [] [[PV.int IntKind.u8 c]]) (Tag.tok 0)]] [(nXs (xApp [] [[PV.int IntKind.u8 c]]), 1, 5)] [t0, 117])) Tr.fail)
            Tr.fail)
          Tr.fail)
        Tr.fail) (by kernel_rfl) ?_
    simp [one]
  · rename_i c o xs v t0
    obtain ⟨h1, q1⟩ := Tr.chk_some h
    obtain ⟨h2, q2⟩ := Tr.chk_some q1
    obtain ⟨h3, q3⟩ := Tr.chk_some q2
    cases q3
    refine Tr.run_as (Tr.ite (okGrow xs [[PV.int IntKind.u8 c]] 1)
        (Tr.ite (okNews [[PV.int IntKind.u8 c]] 1)
          (Tr.ite (okSize xs 1)
            (Tr.ite (nEq v (nXs xs)) (Tr.ret (PV.nili, Store.mk [o, [PV.ptr 1 0, PV.sl (xApp xs [[PV.int IntKind.u8 c]]) (Tag.tok 0)]] [(nXs (xApp xs [[PV.int IntKind.u8 c]]), 1, 5)] [t0, 117])) Tr.fail)
            Tr.fail)
          Tr.fail)
        Tr.fail) (by kernel_rfl) ?_
    simp at h1 h2 h3
    simp [h1, h2, h3, one]
  · cases h
def D_WS : List PV → Store → Tr (PV × Store)
  | [.ptr 1 0, .str l], ⟨[o, [.ptr 1 0, .sl xs (.tok 0)]], [(v, 1, 5)], [t0, 117]⟩ => Tr.chk (bNot (xNil (bytesOf l))) (Tr.chk (okGrow xs (bytesOf l) 1) (Tr.chk (okSize xs 1) (Tr.chk (nEq v (nXs xs))
      (.ret (.tup [.int .i64 (sLen l), .nili], ⟨[o, [.ptr 1 0, .sl (xApp xs (bytesOf l)) (.tok 0)]], [(nXs (xApp xs (bytesOf l)), 1, 5)], [t0, 117]⟩)))))
  | _, _ => .fail
theorem sim_WS (gl : Nat → Option Obj) : SimS Tryd.prog gl 94 fun args σ => (D_WS args σ).run := by
  refine SimS.of_tree (G := ofL [(112, .store (D_copyCheck 117))]) (L := fun _ _ _ => .fail) tbT_ok (gamOk_store (sim_copyCheck gl) gamOk_nil) noMixed Tryd.func94 rfl (by rfl) (by kernel_rfl) (loopOk_none (by kernel_rfl)) ?_
  intro args σ x σ' h hr
  unfold D_WS at h
  split at h
  · rename_i l o xs v t0
    obtain ⟨h0, q0⟩ := Tr.chk_some h
    obtain ⟨h1, q1⟩ := Tr.chk_some q0
    obtain ⟨h2, q2⟩ := Tr.chk_some q1
    obtain ⟨h3, q3⟩ := Tr.chk_some q2
    cases q3
    refine Tr.run_as (Tr.ite (okGrow xs (bytesOf l) 1)
        (Tr.ite (okNews (bytesOf l) 1)
          (Tr.ite (okSize xs 1)
            (Tr.ite (xNil (bytesOf l)) (Tr.ret (PV.tup [PV.int IntKind.i64 (sLen l), PV.nili], Store.mk [o, [PV.ptr 1 0, PV.sl xs (Tag.tok 0)]] [(v, 1, 5)] [t0, 117]))
              (Tr.ite (nEq v (nXs xs))
                (Tr.ret (PV.tup [PV.int IntKind.i64 (sLen l), PV.nili], Store.mk [o, [PV.ptr 1 0, PV.sl (xApp xs (bytesOf l)) (Tag.tok 0)]] [(nXs (xApp xs (bytesOf l)), 1, 5)] [t0, 117])) Tr.fail))
            Tr.fail)
          Tr.fail)
        Tr.fail) (by kernel_rfl) ?_
    simp at h0 h1 h2 h3
    simp [h0, h1, h2, h3]
  · cases h

/-! ### value.Text -/
def textW (k n : Int) (s : List UInt8) : List UInt8 := if isV k n s = true then (if k = 1 then itoaV n else symV s) else []
def F_Text : List PV → Tr PV
  | [.agg [.int .i64 k, .int .i64 n, .str s]] => .ret (.tup [.str (textW k n s), .int .i64 (checkV k n s)])
  | _ => .fail
def d_Text : List PV → Store → Option (Int × Int × List UInt8 × Int × Int)
  | [.ptr 0 0, .ptr 1 0, .int .i64 m, .int .i64 i], ⟨[[.int .i64 k, .int .i64 n, .str s], [.ptr 1 0, .sl [[.int .u8 34]] (.tok 0)]], [(1, 1, 5)], [36, 117]⟩ => some (k, n, s, m, i)
  | _, _ => none
def st_Text (k n : Int) (s : List UInt8) (b : List UInt8) : Store := ⟨[[.int .i64 k, .int .i64 n, .str s], [.ptr 1 0, .sl (bytesOf b) (.tok 0)]], [(nLen b, 1, 5)], [36, 117]⟩
def r_Text : Int × Int × List UInt8 × Int × Int → Tr (PExit × List (Nat × PV) × Store)
  | (k, n, s, m, i) => Tr.chk (iEq i 0) (Tr.chk (iEq m (sLen s)) (Tr.chk (iLe (sLen s) 256) (.ret (.exit 0, [(1, .ptr 0 0), (5, .ptr 1 0)], ⟨[[.int .i64 k, .int .i64 n, .str s], [.ptr 1 0, .sl (bytesOf (symH s)) (.tok 0)]], [(nLen (symH s), 1, 5)], [36, 117]⟩))))
def L_Text : LpsT := fun r fr σ => if r = 9 then oracle 34 [1, 5, 21, 22] d_Text r_Text fr σ else .fail
noncomputable def c_Text : Code := loopN Tryd.f72 0
theorem loop_Text (gl : Nat → Option Obj) : ∀ vs σ a e out σ', d_Text vs σ = some a → (r_Text a).run = some (e, out, σ') → LDoes Tryd.prog gl c_Text (mk 34 ([1, 5, 21, 22].zip vs)) σ e (mk 34 out) σ' := by
  intro vs st a e out σ' hd hr
  unfold d_Text at hd
  split at hd
  · rename_i m i k n s
    cases hd
    obtain ⟨h1, h2⟩ := Tr.chk_some hr
    obtain ⟨h3, h4⟩ := Tr.chk_some h2
    obtain ⟨h5, h6⟩ := Tr.chk_some h4
    simp at h1 h3 h5
    subst h1 h3
    clear hr h2 h4
    cases h6
    have hG : GamOk Tryd.prog gl (gam (ofL [(95, .pure F_one), (94, .store D_WS)])) := gamOk_cons (sim_one gl) (gamOk_store (sim_WS gl) gamOk_nil)
    have key : ∀ (m : Nat) (i : Int) (b : List UInt8), 0 ≤ i → i + m = s.length → b ++ symB (s.drop i.toNat) = symH s → b.length ≤ 1 + 4 * i.toNat →
        LDoes Tryd.prog gl c_Text (mk 34 ([1, 5, 21, 22].zip [.ptr 0 0, .ptr 1 0, .int .i64 (sLen s), .int .i64 i])) (st_Text k n s b) (.exit 0) (mk 34 [(1, .ptr 0 0), (5, .ptr 1 0)]) (st_Text k n s (symH s)) := by
      intro m
      induction m with
      | zero =>
        intro i b h0 hi hf hb
        have e1 : s.drop i.toNat = [] := by apply List.drop_eq_nil_of_le; omega
        rw [e1] at hf
        simp [symB] at hf
        subst hf
        unfold st_Text
        refine LDoes.round tbT_ok hG noMixed (L := fun _ _ _ => .fail) (loopOk_none (by kernel_rfl)) (by kernel_rfl) ?_
        refine Tr.all_as (Tr.ite (iLt i (sLen s))
            (Tr.ite (okIdx s i)
              (Tr.ite (bNot (xNil (bytesOf (oneV (sAt s i)))))
                (Tr.ite (okGrow (bytesOf (symH s)) (bytesOf (oneV (sAt s i))) 1)
                  (Tr.ite (okSize (bytesOf (symH s)) 1)
                    (Tr.ite (nEq (nLen (symH s)) (nXs (bytesOf (symH s))))
                      (Tr.ret
                        (PExit.normal, [23],
                          [PV.top, PV.ptr 0 0, PV.top, PV.top, PV.top, PV.ptr 1 0, PV.int IntKind.i64 i, PV.top, PV.top, PV.top, PV.top, PV.top, PV.top, PV.top, PV.top, PV.top, PV.top, PV.top, PV.top, PV.top,
                            PV.top, PV.int IntKind.i64 (sLen s), PV.int IntKind.i64 (iAdd IntKind.i64 i 1), PV.bool true, PV.int IntKind.i64 i, PV.ptr 0 2, PV.str s, PV.int IntKind.i64 i,
                            PV.int IntKind.u8 (sAt s i), PV.str (oneV (sAt s i)), PV.tup [PV.int IntKind.i64 (sLen (oneV (sAt s i))), PV.nili], PV.int IntKind.i64 (iAdd IntKind.i64 i 1), PV.top, PV.top],
                          Store.mk [[PV.int IntKind.i64 k, PV.int IntKind.i64 n, PV.str s], [PV.ptr 1 0, PV.sl (xApp (bytesOf (symH s)) (bytesOf (oneV (sAt s i)))) (Tag.tok 0)]]
                            [(nXs (xApp (bytesOf (symH s)) (bytesOf (oneV (sAt s i)))), 1, 5)] [36, 117]))
                      Tr.fail)
                    Tr.fail)
                  Tr.fail)
                Tr.fail)
              Tr.fail)
            (Tr.ret
              (PExit.exit 0, [23],
                [PV.top, PV.ptr 0 0, PV.top, PV.top, PV.top, PV.ptr 1 0, PV.top, PV.top, PV.top, PV.top, PV.top, PV.top, PV.top, PV.top, PV.top, PV.top, PV.top, PV.top, PV.top, PV.top, PV.top,
                  PV.int IntKind.i64 (sLen s), PV.int IntKind.i64 i, PV.bool false, PV.top, PV.top, PV.top, PV.top, PV.top, PV.top, PV.top, PV.top, PV.top, PV.top],
                Store.mk [[PV.int IntKind.i64 k, PV.int IntKind.i64 n, PV.str s], [PV.ptr 1 0, PV.sl (bytesOf (symH s)) (Tag.tok 0)]] [(nLen (symH s), 1, 5)] [36, 117]))) (by kernel_rfl) ?_
        exact Tr.all_f (by simp; omega) ⟨rfl, by simp [Weak, mk, mkFrom, look], rfl⟩
      | succ m ih =>
        intro i b h0 hi hf hb
        obtain ⟨v, hv⟩ := get_lt (l := s) (i := i.toNat) (by omega)
        rw [drop_of_get hv] at hf
        have hone := oneV_len v.toNat
        have e2 : (i + 1).toNat = i.toNat + 1 := by omega
        unfold st_Text
        refine LDoes.round tbT_ok hG noMixed (L := fun _ _ _ => .fail) (loopOk_none (by kernel_rfl)) (by kernel_rfl) ?_
        refine Tr.all_as (Tr.ite (iLt i (sLen s))
            (Tr.ite (okIdx s i)
              (Tr.ite (bNot (xNil (bytesOf (oneV (sAt s i)))))
                (Tr.ite (okGrow (bytesOf b) (bytesOf (oneV (sAt s i))) 1)
                  (Tr.ite (okSize (bytesOf b) 1)
                    (Tr.ite (nEq (nLen b) (nXs (bytesOf b)))
                      (Tr.ret
                        (PExit.normal, [23],
                          [PV.top, PV.ptr 0 0, PV.top, PV.top, PV.top, PV.ptr 1 0, PV.int IntKind.i64 i, PV.top, PV.top, PV.top, PV.top, PV.top, PV.top, PV.top, PV.top, PV.top, PV.top, PV.top, PV.top, PV.top,
                            PV.top, PV.int IntKind.i64 (sLen s), PV.int IntKind.i64 (iAdd IntKind.i64 i 1), PV.bool true, PV.int IntKind.i64 i, PV.ptr 0 2, PV.str s, PV.int IntKind.i64 i,
                            PV.int IntKind.u8 (sAt s i), PV.str (oneV (sAt s i)), PV.tup [PV.int IntKind.i64 (sLen (oneV (sAt s i))), PV.nili], PV.int IntKind.i64 (iAdd IntKind.i64 i 1), PV.top, PV.top],
                          Store.mk [[PV.int IntKind.i64 k, PV.int IntKind.i64 n, PV.str s], [PV.ptr 1 0, PV.sl (xApp (bytesOf b) (bytesOf (oneV (sAt s i)))) (Tag.tok 0)]]
                            [(nXs (xApp (bytesOf b) (bytesOf (oneV (sAt s i)))), 1, 5)] [36, 117]))
                      Tr.fail)
                    Tr.fail)
                  Tr.fail)
                Tr.fail)
              Tr.fail)
            (Tr.ret
              (PExit.exit 0, [23],
                [PV.top, PV.ptr 0 0, PV.top, PV.top, PV.top, PV.ptr 1 0, PV.top, PV.top, PV.top, PV.top, PV.top, PV.top, PV.top, PV.top, PV.top, PV.top, PV.top, PV.top, PV.top, PV.top, PV.top,
                  PV.int IntKind.i64 (sLen s), PV.int IntKind.i64 i, PV.bool false, PV.top, PV.top, PV.top, PV.top, PV.top, PV.top, PV.top, PV.top, PV.top, PV.top],
                Store.mk [[PV.int IntKind.i64 k, PV.int IntKind.i64 n, PV.str s], [PV.ptr 1 0, PV.sl (bytesOf b) (Tag.tok 0)]] [(nLen b, 1, 5)] [36, 117]))) (by kernel_rfl) ?_
        rw [sAt_get hv, xApp_bytes, nXs_bytes, nXs_bytes]
        refine Tr.all_t (by simp; omega) <| Tr.all_t (okIdx_get h0 hv) <| Tr.all_t (by rw [xNil_bytes hone.1]; rfl) <| Tr.all_t (okGrow_bytes (by omega)) <| Tr.all_t (okSize_bytes _) <| Tr.all_t (by simp) ?_
        refine LDoes.into ?_ (ih (i + 1) (b ++ oneV v.toNat) (by omega) (by omega) (by rw [← hf, e2]; simp [symB]) (by simp; omega))
        simp [Weak, mk, mkFrom, look, iAdd, wrap_i64 (n := i + 1) (by omega)]
    have hz := key s.length 0 [34] (by omega) (by omega) (by simp [symH]) (by simp)
    exact hz
  · cases hd
theorem sim_Text {gl : Nat → Option Obj} (hgl : GlPow gl) : SimP Tryd.prog gl 72 fun args => (F_Text args).run := by
  refine SimP.of_tree (G := ofL [(65, .pure F_Check), (92, .pure F_FormatInt), (93, .store D_WB), (96, .store (D_String 5))]) (L := L_Text) tbT_ok (gamOk_cons (sim_Check gl) (gamOk_cons (sim_FormatInt hgl) (gamOk_store (sim_WB gl) (gamOk_store (sim_String gl) gamOk_nil)))) noMixed Tryd.func72 rfl (by rfl) (by kernel_rfl) (loopOk_one (r := 9) (c1 := c_Text) (by kernel_rfl) ?_) ?_
  · intro fr σ e fr' σ' hh
    simp only [lps, L_Text, if_true] at hh
    exact oracle_ok (loop_Text gl) fr σ e fr' σ' hh
  intro args x h hr
  unfold F_Text at h
  split at h
  · rename_i k n s
    cases h
    refine Tr.run_as (Tr.ite (iNe (checkV k n s) 0) (Tr.ret (PV.tup [PV.str [], PV.int IntKind.i64 (checkV k n s)]))
        (Tr.ite (iEq k 1) (Tr.ite (iEq 10 10) (Tr.ret (PV.tup [PV.str (itoaV n), PV.int IntKind.i64 0])) Tr.fail)
          (Tr.ite (iEq 0 0)
            (Tr.ite (iEq (sLen s) (sLen s))
              (Tr.ite (iLe (sLen s) 256)
                (Tr.ite (okGrow (bytesOf (symH s)) [[PV.int IntKind.u8 34]] 1)
                  (Tr.ite (okSize (bytesOf (symH s)) 1)
                    (Tr.ite (nEq (nLen (symH s)) (nXs (bytesOf (symH s))))
                      (Tr.ite (okBytes (xApp (bytesOf (symH s)) [[PV.int IntKind.u8 34]]))
                        (Tr.ite (bNot (xNil (xApp (bytesOf (symH s)) [[PV.int IntKind.u8 34]])))
                          (Tr.ite (nEq (nXs (xApp (bytesOf (symH s)) [[PV.int IntKind.u8 34]])) (nXs (xApp (bytesOf (symH s)) [[PV.int IntKind.u8 34]])))
                            (Tr.ite true (Tr.ret (PV.tup [PV.str (unBytes (xApp (bytesOf (symH s)) [[PV.int IntKind.u8 34]])), PV.int IntKind.i64 0])) Tr.fail) Tr.fail)
                          Tr.fail)
                        Tr.fail)
                      Tr.fail)
                    Tr.fail)
                  Tr.fail)
                Tr.fail)
              Tr.fail)
            Tr.fail))) (by kernel_rfl) ?_
    rw [checkV_is]
    cases hI : isV k n s with
    | false => simp [textW, hI]
    | true =>
      by_cases hk : k = 1
      · subst hk
        simp [textW, hI]
      · have h2 : s.length ≤ 256 := by
          unfold isV at hI
          simp at hI
          omega
        have e3 : ([[PV.int .u8 34]] : List (List PV)) = bytesOf [34] := rfl
        have hs := symB_len s
        have hl : (symH s).length = 1 + (symB s).length := by simp [symH]; omega
        have e4 : okGrow (bytesOf (symH s)) (bytesOf [34]) 1 = true := okGrow_bytes (by simp; omega)
        have e5 : symV s = symH s ++ [34] := by simp [symV, symH]
        have e6 : ¬ (symH s ++ [34] = []) := by simp
        rw [e3]
        simp [textW, hI, hk, xApp_bytes, e4, e5, nXs_bytes, -okGrow_eq, -xApp_eq]
        exact ⟨by omega, by simp [bytesOf]⟩
  · cases h
end Go.Pv

set_option maxHeartbeats 4000000
set_option maxRecDepth 200000
set_option linter.unusedSimpArgs false
set_option linter.unusedVariables false
namespace Go.Pv
open Go Go.Proofs
noncomputable def G_one2 : GamT := ofL []
theorem gok_one2 (gl : Nat → Option Obj) : GamOk Tryd.prog gl (gam G_one2) := gamOk_nil
noncomputable def L_one2 : LpsT := fun r fr σ => .fail
noncomputable def one2_Tr (n : Int) : Tr PV := Tr.ret (PV.sl [[PV.int .i64 1, PV.int .i64 n, PV.str []]] .non)
theorem one2_T (n : Int) : (tcall tbT G_one2 L_one2 Tryd.f34 [.int .i64 n]).flat = one2_Tr n := by kernel_rfl
noncomputable def F_one2 : List PV → Tr PV | [.int .i64 n] => one2_Tr n | _ => .fail
theorem sim_one2 (gl : Nat → Option Obj) : SimP Tryd.prog gl 34 fun args => (F_one2 args).run := by
  refine SimP.of_flat (G := G_one2) (L := L_one2) tbT_ok (gok_one2 gl ) noMixed Tryd.func34 rfl (by rfl) (by kernel_rfl) (loopOk_none (by kernel_rfl)) ?_
  intro args x h
  unfold F_one2 at h
  split at h
  · exact (congrArg Tr.run (one2_T _)).trans h
  · cases h
noncomputable def G_sclo : GamT := ofL [(16, .pure F_TCmp)]
theorem gok_sclo (gl : Nat → Option Obj) : GamOk Tryd.prog gl (gam G_sclo) := (gamOk_cons (sim_TCmp gl) gamOk_nil)
noncomputable def L_sclo : LpsT := fun r fr σ => .fail
noncomputable def sclo_Tr (a : List (List PV)) (b : List (List PV)) (l : List (List PV)) : Tr PV := Tr.ite (okR cV (lockLL (lockLL a))) (Tr.ite (okR cV (lockLL (lockLL b))) (Tr.ret (PV.bool (iEq (cmpTV (lockLL (lockLL a)) (lockLL (lockLL b))) 0))) Tr.fail) Tr.fail
theorem sclo_T (a : List (List PV)) (b : List (List PV)) (l : List (List PV)) : (tcall tbT G_sclo L_sclo Tryd.f85 [.sl a .non, .sl b .non, .ref [.sl l .non, .fn 16 []]]).flat = sclo_Tr a b l := by kernel_rfl
noncomputable def F_sclo : List PV → Tr PV | [.sl a .non, .sl b .non, .ref [.sl l .non, .fn 16 []]] => sclo_Tr a b l | _ => .fail
theorem sim_sclo (gl : Nat → Option Obj) : SimP Tryd.prog gl 85 fun args => (F_sclo args).run := by
  refine SimP.of_flat (G := G_sclo) (L := L_sclo) tbT_ok (gok_sclo gl ) noMixed Tryd.func85 rfl (by rfl) (by kernel_rfl) (loopOk_none (by kernel_rfl)) ?_
  intro args x h
  unfold F_sclo at h
  split at h
  · exact (congrArg Tr.run (sclo_T _ _ _)).trans h
  · cases h
noncomputable def G_copied : GamT := ofL [(64, .pure F_CloneT)]
theorem gok_copied (gl : Nat → Option Obj) : GamOk Tryd.prog gl (gam G_copied) := (gamOk_cons (sim_CloneT gl) gamOk_nil)
noncomputable def c_copied1 : Code := loopC Tryd.f62 3
def I_copied1 : LI := ⟨19, [3, 6, 7, 8], fun e => match e with | .exit 0 => [3] | _ => [], true⟩
noncomputable def LI_copied1 : LpsT := fun r fr σ => .fail
noncomputable def copied1_V (vs : List PV) (σ : Store) : Option (PExit × List PV × Store) := lval (lstep tbT G_copied LI_copied1 c_copied1 I_copied1) vs σ
noncomputable def copied1_Tr (out : List (List PV)) (r : List (List PV)) (n : Int) (n2 : Int) : Tr LR := Tr.ite (iLt n2 n)
  (Tr.ite (okPos n2)
    (Tr.ite (okGet [PV.sl [] .full] r (nNat n2))
      (Tr.ite (okNews (lockLL (xRow r (nNat n2) 0)) 3)
        (Tr.ite (okGrow [] (lockLL (xRow r (nNat n2) 0)) 32)
          (Tr.ite (okGrow out [[PV.sl (shutLL (lockLL (xRow r (nNat n2) 0))) .non]] 24)
            (Tr.ite (okNews [[PV.sl (shutLL (lockLL (xRow r (nNat n2) 0))) .non]] 1)
              (Tr.ite (okSize out 1)
                (Tr.ret
                  (LR.next
                    [PV.sl (xApp out [[PV.sl (shutLL (lockLL (xRow r (nNat n2) 0))) .non]]) (.tok 0), PV.sl r .non, PV.int .i64 n,
                      PV.int .i64 (iAdd .i64 n2 1)]
                    (Store.mk [] [(nXs (xApp out [[PV.sl (shutLL (lockLL (xRow r (nNat n2) 0))) .non]]), 1, 23)] [])))
                Tr.fail)
              Tr.fail)
            Tr.fail)
          Tr.fail)
        Tr.fail)
      Tr.fail)
    Tr.fail)
  (Tr.ret (LR.out (.exit 0) [PV.sl out .full] (Store.mk [] [] [])))
theorem copied1_T (out : List (List PV)) (r : List (List PV)) (n : Int) (n2 : Int) : lstep tbT G_copied LI_copied1 c_copied1 I_copied1 [.sl out .full, .sl r .non, .int .i64 n, .int .i64 n2] ⟨[], [], []⟩ = copied1_Tr out r n n2 := by kernel_rfl
theorem copied1_E (out : List (List PV)) (r : List (List PV)) (n : Int) (n2 : Int) : copied1_V [.sl out .full, .sl r .non, .int .i64 n, .int .i64 n2] ⟨[], [], []⟩ = lnext copied1_V (copied1_Tr out r n n2).run := by unfold copied1_V; rw [lval_eq, copied1_T]
noncomputable def copied1_Tr1 (out : List (List PV)) (r : List (List PV)) (n : Int) (n2 : Int) (k : Nat) : Tr LR := Tr.ite (iLt n2 n)
  (Tr.ite (okPos n2)
    (Tr.ite (okGet [PV.sl [] .full] r (nNat n2))
      (Tr.ite (okNews (lockLL (xRow r (nNat n2) 0)) 3)
        (Tr.ite (okGrow [] (lockLL (xRow r (nNat n2) 0)) 32)
          (Tr.ite (okGrow out [[PV.sl (shutLL (lockLL (xRow r (nNat n2) 0))) .non]] 24)
            (Tr.ite (okNews [[PV.sl (shutLL (lockLL (xRow r (nNat n2) 0))) .non]] 1)
              (Tr.ite (okSize out 1)
                (Tr.ite (nEq k (nXs out))
                  (Tr.ret
                    (LR.next
                      [PV.sl (xApp out [[PV.sl (shutLL (lockLL (xRow r (nNat n2) 0))) .non]]) (.tok 0), PV.sl r .non, PV.int .i64 n,
                        PV.int .i64 (iAdd .i64 n2 1)]
                      (Store.mk [] [(nXs (xApp out [[PV.sl (shutLL (lockLL (xRow r (nNat n2) 0))) .non]]), 1, 23)] [])))
                  Tr.fail)
                Tr.fail)
              Tr.fail)
            Tr.fail)
          Tr.fail)
        Tr.fail)
      Tr.fail)
    Tr.fail)
  (Tr.ret (LR.out (.exit 0) [PV.sl out (.tok 0)] (Store.mk [] [(k, 1, 23)] [])))
theorem copied1_T1 (out : List (List PV)) (r : List (List PV)) (n : Int) (n2 : Int) (k : Nat) : lstep tbT G_copied LI_copied1 c_copied1 I_copied1 [.sl out (.tok 0), .sl r .non, .int .i64 n, .int .i64 n2] ⟨[], [(k, 1, 23)], []⟩ = copied1_Tr1 out r n n2 k := by kernel_rfl
theorem copied1_E1 (out : List (List PV)) (r : List (List PV)) (n : Int) (n2 : Int) (k : Nat) : copied1_V [.sl out (.tok 0), .sl r .non, .int .i64 n, .int .i64 n2] ⟨[], [(k, 1, 23)], []⟩ = lnext copied1_V (copied1_Tr1 out r n n2 k).run := by unfold copied1_V; rw [lval_eq, copied1_T1]
noncomputable def copied1_W (out : List (List PV)) (r : List (List PV)) (n : Int) (n2 : Int) : Option (PExit × List PV × Store) := copied1_V [.sl out .full, .sl r .non, .int .i64 n, .int .i64 n2] ⟨[], [], []⟩
noncomputable def copied1_out_0 (out : List (List PV)) (r : List (List PV)) (n : Int) (n2 : Int) : List (List PV) := (gRow (gOut (copied1_W out r n n2) 0))
noncomputable def copied1_is0 (out : List (List PV)) (r : List (List PV)) (n : Int) (n2 : Int) : Bool := isW (copied1_W out r n n2) ((.exit 0), [.sl (copied1_out_0 out r n n2) .full], ⟨[], [], []⟩)
noncomputable def copied1_out_1 (out : List (List PV)) (r : List (List PV)) (n : Int) (n2 : Int) : List (List PV) := (gRow (gOut (copied1_W out r n n2) 0))
noncomputable def copied1_k_1 (out : List (List PV)) (r : List (List PV)) (n : Int) (n2 : Int) : Nat := (gTok (copied1_W out r n n2) 0)
noncomputable def copied1_is1 (out : List (List PV)) (r : List (List PV)) (n : Int) (n2 : Int) : Bool := isW (copied1_W out r n n2) ((.exit 0), [.sl (copied1_out_1 out r n n2) (.tok 0)], ⟨[], [((copied1_k_1 out r n n2), 1, 23)], []⟩)
noncomputable def copied1_prop : List PV → Store → Tr (PExit × List PV × Store) | [.sl out .full, .sl r .non, .int .i64 n, .int .i64 n2], ⟨[], [], []⟩ => .ite (copied1_is0 out r n n2) (.ret ((.exit 0), [.sl (copied1_out_0 out r n n2) .full], ⟨[], [], []⟩)) (.ite (copied1_is1 out r n n2) (.ret ((.exit 0), [.sl (copied1_out_1 out r n n2) (.tok 0)], ⟨[], [((copied1_k_1 out r n n2), 1, 23)], []⟩)) (.fail)) | _, _ => .fail
theorem copied1_ok : ∀ vs σ r, (copied1_prop vs σ).run = some r → copied1_V vs σ = some r := by
  intro vs σ r h
  unfold copied1_prop at h
  split at h
  · exact ite_isW h fun h => ite_isW h fun h => by cases h
  · cases h
theorem loop_copied1 (gl : Nat → Option Obj) : ∀ fr σ e fr' σ', (orc I_copied1 copied1_prop fr σ).run = some (e, fr', σ') → LDoes Tryd.prog gl c_copied1 fr σ e fr' σ' := orc_ok tbT_ok (gok_copied gl ) noMixed (L := LI_copied1) (loopOk_none (by kernel_rfl)) (by kernel_rfl) copied1_ok
noncomputable def L_copied : LpsT := fun r fr σ => bif Nat.beq r 3 then orc I_copied1 copied1_prop fr σ else .fail
noncomputable def copied_Tr (l : List (List PV)) : Tr PV := Tr.ite (copied1_is0 [] l (xLen l) 0) (Tr.ret (PV.sl (shutLL (copied1_out_0 [] l (xLen l) 0)) .non))
  (Tr.ite (copied1_is1 [] l (xLen l) 0) (Tr.ret (PV.sl (shutLL (copied1_out_1 [] l (xLen l) 0)) .non)) Tr.fail)
theorem copied_T (l : List (List PV)) : (tcall tbT G_copied L_copied Tryd.f62 [.sl l .non]).flat = copied_Tr l := by kernel_rfl
noncomputable def copied_W (l : List (List PV)) : Option PV := (copied_Tr l).run
noncomputable def copied_r (l : List (List PV)) : List (List PV) := (gRow (gVal (copied_W l)))
noncomputable def copied_is0 (l : List (List PV)) : Bool := isW (copied_W l) (.sl (copied_r l) .non)
noncomputable def F_copied : List PV → Tr PV | [.sl l .non] => .ite (copied_is0 l) (.ret (.sl (copied_r l) .non)) (.fail) | _ => .fail
theorem sim_copied (gl : Nat → Option Obj) : SimP Tryd.prog gl 62 fun args => (F_copied args).run := by
  refine SimP.of_flat (G := G_copied) (L := L_copied) tbT_ok (gok_copied gl ) noMixed Tryd.func62 rfl (by rfl) (by kernel_rfl) (loopOk_all (L := lps L_copied) [(3, c_copied1)] (by kernel_rfl) (List.forall_mem_cons.2 ⟨fun fr σ e fr' σ' h => loop_copied1 gl  fr σ e fr' σ' h, (List.forall_mem_nil _)⟩)) ?_
  intro args x h
  unfold F_copied at h
  split at h
  · exact (congrArg Tr.run (copied_T _)).trans (ite_isW h fun h => by cases h)
  · cases h
noncomputable def G_Join : GamT := ofL [(94, .store D_WS), (96, .store (D_String 5))]
theorem gok_Join (gl : Nat → Option Obj) : GamOk Tryd.prog gl (gam G_Join) := (gamOk_store (sim_WS gl) (gamOk_store (sim_String gl) gamOk_nil))
noncomputable def c_Join1 : Code := loopC Tryd.f73 12
noncomputable def c_Join2 : Code := loopC Tryd.f73 22
def I_Join1 : LI := ⟨75, [0, 1, 5, 39, 40, 41], fun e => match e with | .exit 1 => [0, 1, 5] | _ => [], true⟩
noncomputable def LI_Join1 : LpsT := fun r fr σ => .fail
noncomputable def Join1_V (vs : List PV) (σ : Store) : Option (PExit × List PV × Store) := lval (lstep tbT G_Join LI_Join1 c_Join1 I_Join1) vs σ
noncomputable def Join1_Tr (r : List (List PV)) (s : List UInt8) (n : Int) (r2 : List (List PV)) (n2 : Int) (n3 : Int) : Tr LR := Tr.ite (iLt n3 n2)
  (Tr.ite (okPos n3)
    (Tr.ite (okGet [PV.str []] r2 (nNat n3))
      (Tr.ite (iLt (iSub .i64 9223372036854775807 n) (sLen (xStr r2 (nNat n3) 0))) Tr.fail
        (Tr.ret
          (LR.next
            [PV.sl r .non, PV.str s, PV.int .i64 (iAdd .i64 n (sLen (xStr r2 (nNat n3) 0))), PV.sl r2 .non, PV.int .i64 n2,
              PV.int .i64 (iAdd .i64 n3 1)]
            (Store.mk [] [] []))))
      Tr.fail)
    Tr.fail)
  (Tr.ret (LR.out (.exit 1) [PV.sl r .non, PV.str s, PV.int .i64 n] (Store.mk [] [] [])))
theorem Join1_T (r : List (List PV)) (s : List UInt8) (n : Int) (r2 : List (List PV)) (n2 : Int) (n3 : Int) : lstep tbT G_Join LI_Join1 c_Join1 I_Join1 [.sl r .non, .str s, .int .i64 n, .sl r2 .non, .int .i64 n2, .int .i64 n3] ⟨[], [], []⟩ = Join1_Tr r s n r2 n2 n3 := by kernel_rfl
theorem Join1_E (r : List (List PV)) (s : List UInt8) (n : Int) (r2 : List (List PV)) (n2 : Int) (n3 : Int) : Join1_V [.sl r .non, .str s, .int .i64 n, .sl r2 .non, .int .i64 n2, .int .i64 n3] ⟨[], [], []⟩ = lnext Join1_V (Join1_Tr r s n r2 n2 n3).run := by unfold Join1_V; rw [lval_eq, Join1_T]
noncomputable def Join1_W (r : List (List PV)) (s : List UInt8) (n : Int) (r2 : List (List PV)) (n2 : Int) (n3 : Int) : Option (PExit × List PV × Store) := Join1_V [.sl r .non, .str s, .int .i64 n, .sl r2 .non, .int .i64 n2, .int .i64 n3] ⟨[], [], []⟩
noncomputable def Join1_r (r : List (List PV)) (s : List UInt8) (n : Int) (r2 : List (List PV)) (n2 : Int) (n3 : Int) : List (List PV) := (gRow (gOut (Join1_W r s n r2 n2 n3) 0))
noncomputable def Join1_s (r : List (List PV)) (s : List UInt8) (n : Int) (r2 : List (List PV)) (n2 : Int) (n3 : Int) : List UInt8 := (gStr (gOut (Join1_W r s n r2 n2 n3) 1))
noncomputable def Join1_n (r : List (List PV)) (s : List UInt8) (n : Int) (r2 : List (List PV)) (n2 : Int) (n3 : Int) : Int := (gInt (gOut (Join1_W r s n r2 n2 n3) 2))
noncomputable def Join1_is0 (r : List (List PV)) (s : List UInt8) (n : Int) (r2 : List (List PV)) (n2 : Int) (n3 : Int) : Bool := isW (Join1_W r s n r2 n2 n3) ((.exit 1), [.sl (Join1_r r s n r2 n2 n3) .non, .str (Join1_s r s n r2 n2 n3), .int .i64 (Join1_n r s n r2 n2 n3)], ⟨[], [], []⟩)
noncomputable def Join1_prop : List PV → Store → Tr (PExit × List PV × Store) | [.sl r .non, .str s, .int .i64 n, .sl r2 .non, .int .i64 n2, .int .i64 n3], ⟨[], [], []⟩ => .ite (Join1_is0 r s n r2 n2 n3) (.ret ((.exit 1), [.sl (Join1_r r s n r2 n2 n3) .non, .str (Join1_s r s n r2 n2 n3), .int .i64 (Join1_n r s n r2 n2 n3)], ⟨[], [], []⟩)) (.fail) | _, _ => .fail
theorem Join1_ok : ∀ vs σ r, (Join1_prop vs σ).run = some r → Join1_V vs σ = some r := by
  intro vs σ r h
  unfold Join1_prop at h
  split at h
  · exact ite_isW h fun h => by cases h
  · cases h
theorem loop_Join1 (gl : Nat → Option Obj) : ∀ fr σ e fr' σ', (orc I_Join1 Join1_prop fr σ).run = some (e, fr', σ') → LDoes Tryd.prog gl c_Join1 fr σ e fr' σ' := orc_ok tbT_ok (gok_Join gl ) noMixed (L := LI_Join1) (loopOk_none (by kernel_rfl)) (by kernel_rfl) Join1_ok
def I_Join2 : LI := ⟨75, [1, 8, 63, 64, 65], fun e => match e with | .exit 3 => [8] | _ => [], true⟩
noncomputable def LI_Join2 : LpsT := fun r fr σ => .fail
noncomputable def Join2_V (vs : List PV) (σ : Store) : Option (PExit × List PV × Store) := lval (lstep tbT G_Join LI_Join2 c_Join2 I_Join2) vs σ
noncomputable def Join2_prop : List PV → Store → Tr (PExit × List PV × Store) | _, _ => .fail
theorem Join2_ok : ∀ vs σ r, (Join2_prop vs σ).run = some r → Join2_V vs σ = some r := by
  intro vs σ r h
  unfold Join2_prop at h
  split at h
  · cases h
theorem loop_Join2 (gl : Nat → Option Obj) : ∀ fr σ e fr' σ', (orc I_Join2 Join2_prop fr σ).run = some (e, fr', σ') → LDoes Tryd.prog gl c_Join2 fr σ e fr' σ' := orc_ok tbT_ok (gok_Join gl ) noMixed (L := LI_Join2) (loopOk_none (by kernel_rfl)) (by kernel_rfl) Join2_ok
noncomputable def L_Join : LpsT := fun r fr σ => bif Nat.beq r 12 then orc I_Join1 Join1_prop fr σ else bif Nat.beq r 22 then orc I_Join2 Join2_prop fr σ else .fail
noncomputable def Join_Tr (v : List (List PV)) (v2 : List UInt8) : Tr PV := Tr.ite (iEq (xLen v) 0) (Tr.ret (PV.str []))
  (Tr.ite (iEq (xLen v) 1) (Tr.ite (okPos 0) (Tr.ite (okGet [PV.str []] v (nNat 0)) (Tr.ret (PV.str (xStr v (nNat 0) 0))) Tr.fail) Tr.fail)
    (Tr.ite (iLt 0 (sLen v2))
      (Tr.ite (iEq (iSub .i64 (xLen v) 1) 0) Tr.fail
        (Tr.ite (iLe (iQuo .i64 9223372036854775807 (iSub .i64 (xLen v) 1)) (sLen v2)) Tr.fail
          (Tr.ite (Join1_is0 v v2 (iAdd .i64 0 (iMul .i64 (sLen v2) (iSub .i64 (xLen v) 1))) v (xLen v) 0) Tr.fail Tr.fail)))
      (Tr.ite (Join1_is0 v v2 0 v (xLen v) 0) Tr.fail Tr.fail)))
theorem Join_T (v : List (List PV)) (v2 : List UInt8) : (tcall tbT G_Join L_Join Tryd.f73 [.sl v .non, .str v2]).flat = Join_Tr v v2 := by kernel_rfl
noncomputable def Join_W (v : List (List PV)) (v2 : List UInt8) : Option PV := (Join_Tr v v2).run
noncomputable def Join_s (v : List (List PV)) (v2 : List UInt8) : List UInt8 := (gStr (gVal (Join_W v v2)))
noncomputable def Join_is0 (v : List (List PV)) (v2 : List UInt8) : Bool := isW (Join_W v v2) (.str (Join_s v v2))
noncomputable def F_Join : List PV → Tr PV | [.sl v .non, .str v2] => .ite (Join_is0 v v2) (.ret (.str (Join_s v v2))) (.fail) | _ => .fail
theorem sim_Join (gl : Nat → Option Obj) : SimP Tryd.prog gl 73 fun args => (F_Join args).run := by
  refine SimP.of_flat (G := G_Join) (L := L_Join) tbT_ok (gok_Join gl ) noMixed Tryd.func73 rfl (by rfl) (by kernel_rfl) (loopOk_all (L := lps L_Join) [(12, c_Join1), (22, c_Join2)] (by kernel_rfl) (List.forall_mem_cons.2 ⟨fun fr σ e fr' σ' h => loop_Join1 gl  fr σ e fr' σ' h, (List.forall_mem_cons.2 ⟨fun fr σ e fr' σ' h => loop_Join2 gl  fr σ e fr' σ' h, (List.forall_mem_nil _)⟩)⟩)) ?_
  intro args x h
  unfold F_Join at h
  split at h
  · exact (congrArg Tr.run (Join_T _ _)).trans (ite_isW h fun h => by cases h)
  · cases h
noncomputable def G_TText : GamT := ofL [(36, .pure F_TCheck), (72, .pure F_Text), (73, .pure F_Join)]
theorem gok_TText (gl : Nat → Option Obj) (hg : GlPow gl) : GamOk Tryd.prog gl (gam G_TText) := (gamOk_cons (sim_TCheck gl) (gamOk_cons (sim_Text hg) (gamOk_cons (sim_Join gl) gamOk_nil)))
noncomputable def c_TText1 : Code := loopC Tryd.f53 6
def I_TText1 : LI := ⟨35, [5, 15, 16, 17], fun e => match e with | .exit 0 => [5] | _ => [], true⟩
noncomputable def LI_TText1 : LpsT := fun r fr σ => .fail
noncomputable def TText1_V (vs : List PV) (σ : Store) : Option (PExit × List PV × Store) := lval (lstep tbT G_TText LI_TText1 c_TText1 I_TText1) vs σ
noncomputable def TText1_Tr (l : List (List PV)) (r : List (List PV)) (n : Int) (n2 : Int) : Tr LR := Tr.ite (iLt n2 n)
  (Tr.ite (okPos n2)
    (Tr.ite (okGet [PV.int .i64 0, PV.int .i64 0, PV.str []] r (nNat n2))
      (Tr.ite (okGrow l [[PV.str (textW (xInt r (nNat n2) 0) (xInt r (nNat n2) 1) (xStr r (nNat n2) 2))]] 16)
        (Tr.ite (okNews [[PV.str (textW (xInt r (nNat n2) 0) (xInt r (nNat n2) 1) (xStr r (nNat n2) 2))]] 1)
          (Tr.ite (okSize l 1)
            (Tr.ret
              (LR.next
                [PV.sl (dropPLL 0 (xApp l [[PV.str (textW (xInt r (nNat n2) 0) (xInt r (nNat n2) 1) (xStr r (nNat n2) 2))]])) (.tok 0), PV.sl (dropPLL 0 r) .non,
                  PV.int .i64 n, PV.int .i64 (iAdd .i64 n2 1)]
                (Store.mk [] [(nXs (xApp l [[PV.str (textW (xInt r (nNat n2) 0) (xInt r (nNat n2) 1) (xStr r (nNat n2) 2))]]), 1, 9)] [])))
            Tr.fail)
          Tr.fail)
        Tr.fail)
      Tr.fail)
    Tr.fail)
  (Tr.ret (LR.out (.exit 0) [PV.sl l .full] (Store.mk [] [] [])))
theorem TText1_T (l : List (List PV)) (r : List (List PV)) (n : Int) (n2 : Int) : lstep tbT G_TText LI_TText1 c_TText1 I_TText1 [.sl l .full, .sl r .non, .int .i64 n, .int .i64 n2] ⟨[], [], []⟩ = TText1_Tr l r n n2 := by kernel_rfl
theorem TText1_E (l : List (List PV)) (r : List (List PV)) (n : Int) (n2 : Int) : TText1_V [.sl l .full, .sl r .non, .int .i64 n, .int .i64 n2] ⟨[], [], []⟩ = lnext TText1_V (TText1_Tr l r n n2).run := by unfold TText1_V; rw [lval_eq, TText1_T]
noncomputable def TText1_Tr1 (l : List (List PV)) (r : List (List PV)) (n : Int) (n2 : Int) (k : Nat) : Tr LR := Tr.ite (iLt n2 n)
  (Tr.ite (okPos n2)
    (Tr.ite (okGet [PV.int .i64 0, PV.int .i64 0, PV.str []] r (nNat n2))
      (Tr.ite (okGrow l [[PV.str (textW (xInt r (nNat n2) 0) (xInt r (nNat n2) 1) (xStr r (nNat n2) 2))]] 16)
        (Tr.ite (okNews [[PV.str (textW (xInt r (nNat n2) 0) (xInt r (nNat n2) 1) (xStr r (nNat n2) 2))]] 1)
          (Tr.ite (okSize l 1)
            (Tr.ite (nEq k (nXs l))
              (Tr.ret
                (LR.next
                  [PV.sl (dropPLL 0 (xApp l [[PV.str (textW (xInt r (nNat n2) 0) (xInt r (nNat n2) 1) (xStr r (nNat n2) 2))]])) (.tok 0), PV.sl (dropPLL 0 r) .non,
                    PV.int .i64 n, PV.int .i64 (iAdd .i64 n2 1)]
                  (Store.mk [] [(nXs (xApp l [[PV.str (textW (xInt r (nNat n2) 0) (xInt r (nNat n2) 1) (xStr r (nNat n2) 2))]]), 1, 9)] [])))
              Tr.fail)
            Tr.fail)
          Tr.fail)
        Tr.fail)
      Tr.fail)
    Tr.fail)
  (Tr.ret (LR.out (.exit 0) [PV.sl l (.tok 0)] (Store.mk [] [(k, 1, 9)] [])))
theorem TText1_T1 (l : List (List PV)) (r : List (List PV)) (n : Int) (n2 : Int) (k : Nat) : lstep tbT G_TText LI_TText1 c_TText1 I_TText1 [.sl l (.tok 0), .sl r .non, .int .i64 n, .int .i64 n2] ⟨[], [(k, 1, 9)], []⟩ = TText1_Tr1 l r n n2 k := by kernel_rfl
theorem TText1_E1 (l : List (List PV)) (r : List (List PV)) (n : Int) (n2 : Int) (k : Nat) : TText1_V [.sl l (.tok 0), .sl r .non, .int .i64 n, .int .i64 n2] ⟨[], [(k, 1, 9)], []⟩ = lnext TText1_V (TText1_Tr1 l r n n2 k).run := by unfold TText1_V; rw [lval_eq, TText1_T1]
noncomputable def TText1_W (l : List (List PV)) (r : List (List PV)) (n : Int) (n2 : Int) : Option (PExit × List PV × Store) := TText1_V [.sl l .full, .sl r .non, .int .i64 n, .int .i64 n2] ⟨[], [], []⟩
noncomputable def TText1_l_0 (l : List (List PV)) (r : List (List PV)) (n : Int) (n2 : Int) : List (List PV) := (gRow (gOut (TText1_W l r n n2) 0))
noncomputable def TText1_is0 (l : List (List PV)) (r : List (List PV)) (n : Int) (n2 : Int) : Bool := isW (TText1_W l r n n2) ((.exit 0), [.sl (TText1_l_0 l r n n2) .full], ⟨[], [], []⟩)
noncomputable def TText1_l_1 (l : List (List PV)) (r : List (List PV)) (n : Int) (n2 : Int) : List (List PV) := (gRow (gOut (TText1_W l r n n2) 0))
noncomputable def TText1_k_1 (l : List (List PV)) (r : List (List PV)) (n : Int) (n2 : Int) : Nat := (gTok (TText1_W l r n n2) 0)
noncomputable def TText1_is1 (l : List (List PV)) (r : List (List PV)) (n : Int) (n2 : Int) : Bool := isW (TText1_W l r n n2) ((.exit 0), [.sl (TText1_l_1 l r n n2) (.tok 0)], ⟨[], [((TText1_k_1 l r n n2), 1, 9)], []⟩)
noncomputable def TText1_prop : List PV → Store → Tr (PExit × List PV × Store) | [.sl l .full, .sl r .non, .int .i64 n, .int .i64 n2], ⟨[], [], []⟩ => .ite (TText1_is0 l r n n2) (.ret ((.exit 0), [.sl (TText1_l_0 l r n n2) .full], ⟨[], [], []⟩)) (.ite (TText1_is1 l r n n2) (.ret ((.exit 0), [.sl (TText1_l_1 l r n n2) (.tok 0)], ⟨[], [((TText1_k_1 l r n n2), 1, 9)], []⟩)) (.fail)) | _, _ => .fail
theorem TText1_ok : ∀ vs σ r, (TText1_prop vs σ).run = some r → TText1_V vs σ = some r := by
  intro vs σ r h
  unfold TText1_prop at h
  split at h
  · exact ite_isW h fun h => ite_isW h fun h => by cases h
  · cases h
theorem loop_TText1 (gl : Nat → Option Obj) (hg : GlPow gl) : ∀ fr σ e fr' σ', (orc I_TText1 TText1_prop fr σ).run = some (e, fr', σ') → LDoes Tryd.prog gl c_TText1 fr σ e fr' σ' := orc_ok tbT_ok (gok_TText gl hg ) noMixed (L := LI_TText1) (loopOk_none (by kernel_rfl)) (by kernel_rfl) TText1_ok
noncomputable def L_TText : LpsT := fun r fr σ => bif Nat.beq r 6 then orc I_TText1 TText1_prop fr σ else .fail
noncomputable def TText_Tr (t : List (List PV)) : Tr PV := Tr.ite (okR cV (lockLL t))
  (Tr.ite (iNe (chkT (lockLL t)) 0) (Tr.ret (PV.tup [PV.str [], PV.int .i64 (chkT (lockLL t))]))
    (Tr.ite (TText1_is0 [] t (xLen t) 0)
      (Tr.ite (Join_is0 (lockLL (TText1_l_0 [] t (xLen t) 0)) [44, 32])
        (Tr.ite (okApp [40] (Join_s (lockLL (TText1_l_0 [] t (xLen t) 0)) [44, 32]))
          (Tr.ite (okApp (sApp [40] (Join_s (lockLL (TText1_l_0 [] t (xLen t) 0)) [44, 32])) [41])
            (Tr.ret (PV.tup [PV.str (sApp (sApp [40] (Join_s (lockLL (TText1_l_0 [] t (xLen t) 0)) [44, 32])) [41]), PV.int .i64 0])) Tr.fail)
          Tr.fail)
        Tr.fail)
      (Tr.ite (TText1_is1 [] t (xLen t) 0)
        (Tr.ite (Join_is0 (lockLL (TText1_l_1 [] t (xLen t) 0)) [44, 32])
          (Tr.ite (okApp [40] (Join_s (lockLL (TText1_l_1 [] t (xLen t) 0)) [44, 32]))
            (Tr.ite (okApp (sApp [40] (Join_s (lockLL (TText1_l_1 [] t (xLen t) 0)) [44, 32])) [41])
              (Tr.ret (PV.tup [PV.str (sApp (sApp [40] (Join_s (lockLL (TText1_l_1 [] t (xLen t) 0)) [44, 32])) [41]), PV.int .i64 0])) Tr.fail)
            Tr.fail)
          Tr.fail)
        Tr.fail)))
  Tr.fail
theorem TText_T (t : List (List PV)) : (tcall tbT G_TText L_TText Tryd.f53 [.sl t .non]).flat = TText_Tr t := by kernel_rfl
noncomputable def TText_W (t : List (List PV)) : Option PV := (TText_Tr t).run
noncomputable def TText_s (t : List (List PV)) : List UInt8 := (gStr (gAt (gCs (gVal (TText_W t))) 0))
noncomputable def TText_n (t : List (List PV)) : Int := (gInt (gAt (gCs (gVal (TText_W t))) 1))
noncomputable def TText_is0 (t : List (List PV)) : Bool := isW (TText_W t) (.tup [.str (TText_s t), .int .i64 (TText_n t)])
noncomputable def F_TText : List PV → Tr PV | [.sl t .non] => .ite (TText_is0 t) (.ret (.tup [.str (TText_s t), .int .i64 (TText_n t)])) (.fail) | _ => .fail
theorem sim_TText (gl : Nat → Option Obj) (hg : GlPow gl) : SimP Tryd.prog gl 53 fun args => (F_TText args).run := by
  refine SimP.of_flat (G := G_TText) (L := L_TText) tbT_ok (gok_TText gl hg ) noMixed Tryd.func53 rfl (by rfl) (by kernel_rfl) (loopOk_all (L := lps L_TText) [(6, c_TText1)] (by kernel_rfl) (List.forall_mem_cons.2 ⟨fun fr σ e fr' σ' h => loop_TText1 gl hg  fr σ e fr' σ' h, (List.forall_mem_nil _)⟩)) ?_
  intro args x h
  unfold F_TText at h
  split at h
  · exact (congrArg Tr.run (TText_T _)).trans (ite_isW h fun h => by cases h)
  · cases h
end Go.Pv

set_option maxHeartbeats 4000000
set_option maxRecDepth 200000
set_option linter.unusedSimpArgs false
set_option linter.unusedVariables false
namespace Go.Pv
open Go Go.Proofs
/-! ### three tuples sorted: reckoned -/
noncomputable def G_ins9 : GamT := ofL [(16, .pure F_TCmp)]
noncomputable def D_ins9 : List PV → Store → Tr (PV × Store) := fun a σ => Tr.ofOpt (pcallSU tbT (gam G_ins9) 300 Tryd.f119 a σ)
theorem sim_ins9 (gl : Nat → Option Obj) : SimS Tryd.prog gl 119 fun a σ => (D_ins9 a σ).run :=
  simS_opt (SimS.of_evalU tbT_ok (gamOk_cons (sim_TCmp gl) gamOk_nil) noMixed Tryd.func119 rfl (by rfl) (by kernel_rfl) 300)
noncomputable def G_stb9 : GamT := ofL [(119, .store D_ins9)]
noncomputable def D_stb9 : List PV → Store → Tr (PV × Store) := fun a σ => Tr.ofOpt (pcallSU tbT (gam G_stb9) 300 Tryd.f108 a σ)
theorem sim_stb9 (gl : Nat → Option Obj) : SimS Tryd.prog gl 108 fun a σ => (D_stb9 a σ).run :=
  simS_opt (SimS.of_evalU tbT_ok (gamOk_store (sim_ins9 gl) gamOk_nil) noMixed Tryd.func108 rfl (by rfl) (by kernel_rfl) 300)
noncomputable def G_ssf9 : GamT := ofL [(108, .store D_stb9)]
noncomputable def D_ssf9 : List PV → Store → Tr (PV × Store) := fun a σ => Tr.ofOpt (pcallSU tbT (gam G_ssf9) 300 Tryd.f83 a σ)
theorem sim_ssf9 (gl : Nat → Option Obj) : SimS Tryd.prog gl 83 fun a σ => (D_ssf9 a σ).run :=
  simS_opt (SimS.of_evalU tbT_ok (gamOk_store (sim_stb9 gl) gamOk_nil) noMixed Tryd.func83 rfl (by rfl) (by kernel_rfl) 300)
noncomputable def G_cpf : GamT := ofL [(85, .pure F_sclo)]
noncomputable def D_cpf : List PV → Store → Tr (PV × Store) := fun a σ => Tr.ofOpt (pcallSU tbT (gam G_cpf) 300 Tryd.f84 a σ)
theorem sim_cpf (gl : Nat → Option Obj) : SimS Tryd.prog gl 84 fun a σ => (D_cpf a σ).run :=
  simS_opt (SimS.of_evalU tbT_ok (gamOk_cons (sim_sclo gl) gamOk_nil) noMixed Tryd.func84 rfl (by rfl) (by kernel_rfl) 300)
noncomputable def G_clo : GamT := ofL [(objKey, .flag)]
noncomputable def D_clo : List PV → Store → Tr (PV × Store) := fun a σ => Tr.ofOpt (pcallSU tbT (gam G_clo) 300 Tryd.f82 a σ)
theorem sim_clo (gl : Nat → Option Obj) : SimS Tryd.prog gl 82 fun a σ => (D_clo a σ).run :=
  simS_opt (SimS.of_evalU tbT_ok (gamOk_con (K := .flag) trivial gamOk_nil) noMixed Tryd.func82 rfl (by rfl) (by kernel_rfl) 300)
noncomputable def G_srd : GamT := ofL [(82, .store D_clo), (83, .store D_ssf9), (84, .store D_cpf)]
noncomputable def F_srd : List PV → Tr PV := fun a => Tr.ofOpt (pcallU tbT (gam G_srd) 300 Tryd.f61 a)
theorem sim_srd (gl : Nat → Option Obj) : SimP Tryd.prog gl 61 fun a => (F_srd a).run :=
  simP_opt (SimP.of_evalU tbT_ok (gamOk_store (sim_clo gl) (gamOk_store (sim_ssf9 gl) (gamOk_store (sim_cpf gl) gamOk_nil))) noMixed Tryd.func61 rfl (by rfl) (by kernel_rfl) 300)
noncomputable def G_cpd : GamT := ofL [(64, .pure F_CloneT)]
noncomputable def F_cpd : List PV → Tr PV := fun a => Tr.ofOpt (pcallU tbT (gam G_cpd) 300 Tryd.f62 a)
theorem sim_cpd (gl : Nat → Option Obj) : SimP Tryd.prog gl 62 fun a => (F_cpd a).run :=
  simP_opt (SimP.of_evalU tbT_ok (gamOk_cons (sim_CloneT gl) gamOk_nil) noMixed Tryd.func62 rfl (by rfl) (by kernel_rfl) 300)
noncomputable def G_Srt : GamT := ofL [(62, .pure F_cpd), (61, .pure F_srd)]
def tup1 (n : Int) : List PV := [.sl [[.int .i64 1, .int .i64 n, .str []]] .non]
theorem srt3 : pcallU tbT (gam G_Srt) 300 Tryd.f23 [.sl [tup1 2, tup1 1, tup1 2] .non] = some (.sl [tup1 1, tup1 2] .non) := by kernel_rfl
noncomputable def F_Srt : List PV → Tr PV
  | [.sl [[.sl [[.int .i64 1, .int .i64 2, .str []]] .non], [.sl [[.int .i64 1, .int .i64 1, .str []]] .non], [.sl [[.int .i64 1, .int .i64 2, .str []]] .non]] .non] => .ret (.sl [tup1 1, tup1 2] .non)
  | _ => .fail
theorem sim_Srt (gl : Nat → Option Obj) : SimP Tryd.prog gl 23 fun args => (F_Srt args).run := by
  refine SimP.imp (SimP.of_evalU tbT_ok (gamOk_cons (sim_cpd gl) (gamOk_cons (sim_srd gl) gamOk_nil)) noMixed Tryd.func23 rfl (by rfl) (by kernel_rfl) 300) ?_
  intro args x h
  unfold F_Srt at h
  split at h
  · cases h
    exact srt3
  · cases h
/-! ### the text of (7) -/
theorem text7 : TText_W [[.int .i64 1, .int .i64 7, .str []]] = some (.tup [.str [40, 55, 41], .int .i64 0]) := by
  have e0 : ([[.int .i64 1, .int .i64 7, .str []]] : List (List PV)) = rOf cV [(1, 7, [])] := rfl
  have e1 : TText1_V [.sl [] .full, .sl (rOf cV [(1, 7, [])]) .non, .int .i64 1, .int .i64 0] ⟨[], [], []⟩ = TText1_V [.sl (rOf cS [[55]]) (.tok 0), .sl (rOf cV [(1, 7, [])]) .non, .int .i64 1, .int .i64 1] ⟨[], [(1, 1, 9)], []⟩ := by
    rw [TText1_E]
    have : textW 1 7 [] = [55] := by kernel_rfl
    have w : iAdd .i64 0 1 = 1 := by kernel_rfl
    simp [TText1_Tr, this, w, one]
  have e2 : TText1_V [.sl (rOf cS [[55]]) (.tok 0), .sl (rOf cV [(1, 7, [])]) .non, .int .i64 1, .int .i64 1] ⟨[], [(1, 1, 9)], []⟩ = some (.exit 0, [.sl (rOf cS [[55]]) (.tok 0)], ⟨[], [(1, 1, 9)], []⟩) := by
    rw [TText1_E1]
    simp [TText1_Tr1]
  have hj : Join_W (rOf cS [[55]]) [44, 32] = some (.str [55]) := by
    unfold Join_W Join_Tr
    simp
  have hc : chkT (rOf cV [(1, 7, [])]) = 0 := by kernel_rfl
  unfold TText_W TText_Tr
  rw [e0]
  simp [TText1_is0, TText1_is1, TText1_l_0, TText1_l_1, TText1_k_1, TText1_W, e1, e2, hc, Join_is0, Join_s, hj]
  unfold maxLen; omega
end Go.Pv

set_option maxHeartbeats 4000000
set_option maxRecDepth 200000
set_option linter.unusedSimpArgs false
set_option linter.unusedVariables false
namespace Go.Pv
open Go Go.Proofs
noncomputable def G_awake : GamT := ofL [(17, .pure F_Same), (18, .pure F_Mt), (23, .pure F_Srt), (34, .pure F_one2), (36, .pure F_TCheck), (53, .pure F_TText)]
theorem gok_awake (gl : Nat → Option Obj) (hg : GlPow gl) : GamOk Tryd.prog gl (gam G_awake) := (gamOk_cons (sim_Same gl) (gamOk_cons (sim_Mt gl) (gamOk_cons (sim_Srt gl) (gamOk_cons (sim_one2 gl) (gamOk_cons (sim_TCheck gl) (gamOk_cons (sim_TText gl hg) gamOk_nil))))))
noncomputable def L_awake : LpsT := fun r fr σ => .fail
noncomputable def awake_Tr : Tr PV := Tr.ite (TText_is0 [[PV.int .i64 1, PV.int .i64 7, PV.str []]])
  (Tr.ite (okR cM [[PV.int .i64 1, PV.str [88], PV.int .i64 0, PV.int .i64 0, PV.str []]])
    (Tr.ite (okR cV [[PV.int .i64 1, PV.int .i64 3, PV.str []]])
      (Tr.ite (okMT [[PV.int .i64 1, PV.str [88], PV.int .i64 0, PV.int .i64 0, PV.str []]] [[PV.int .i64 1, PV.int .i64 3, PV.str []]])
        (Tr.ite
          (iEq (xLen [[PV.sl [[PV.int .i64 1, PV.int .i64 1, PV.str []]] .non], [PV.sl [[PV.int .i64 1, PV.int .i64 2, PV.str []]] .non]]) 2)
          (Tr.ite (okPos 0)
            (Tr.ite
              (okGet [PV.sl [] .full]
                [[PV.sl [[PV.int .i64 1, PV.int .i64 1, PV.str []]] .non], [PV.sl [[PV.int .i64 1, PV.int .i64 2, PV.str []]] .non]] (nNat 0))
              (Tr.ite
                (okR cV
                  (lockLL
                    (lockLL
                      (xRow [[PV.sl [[PV.int .i64 1, PV.int .i64 1, PV.str []]] .non], [PV.sl [[PV.int .i64 1, PV.int .i64 2, PV.str []]] .non]]
                        (nNat 0) 0))))
                (Tr.ite (okR cV [[PV.int .i64 1, PV.int .i64 1, PV.str []]])
                  (Tr.ite
                    (iEq
                      (cmpTR
                        (lockLL
                          (lockLL
                            (xRow
                              [[PV.sl [[PV.int .i64 1, PV.int .i64 1, PV.str []]] .non], [PV.sl [[PV.int .i64 1, PV.int .i64 2, PV.str []]] .non]]
                              (nNat 0) 0)))
                        [[PV.int .i64 1, PV.int .i64 1, PV.str []]])
                      0)
                    (Tr.ite (sEq (TText_s [[PV.int .i64 1, PV.int .i64 7, PV.str []]]) [40, 55, 41])
                      (Tr.ite (iEq (TText_n [[PV.int .i64 1, PV.int .i64 7, PV.str []]]) 0)
                        (Tr.ite true
                          (Tr.ite
                            (iEq
                              (xLen
                                (mTV [[PV.int .i64 1, PV.str [88], PV.int .i64 0, PV.int .i64 0, PV.str []]]
                                  [[PV.int .i64 1, PV.int .i64 3, PV.str []]]))
                              1)
                            (Tr.ite (okPos 0)
                              (Tr.ite
                                (okGet [PV.str [], PV.int .i64 0, PV.int .i64 0, PV.str []]
                                  (mTV [[PV.int .i64 1, PV.str [88], PV.int .i64 0, PV.int .i64 0, PV.str []]]
                                    [[PV.int .i64 1, PV.int .i64 3, PV.str []]])
                                  (nNat 0))
                                (Tr.ite
                                  (iEq
                                    (xInt
                                      (mTV [[PV.int .i64 1, PV.str [88], PV.int .i64 0, PV.int .i64 0, PV.str []]]
                                        [[PV.int .i64 1, PV.int .i64 3, PV.str []]])
                                      (nNat 0) 2)
                                    3)
                                  (Tr.ite
                                    (okR cV
                                      [[PV.int .i64 0, PV.int .i64 0, PV.str []], [PV.int .i64 0, PV.int .i64 0, PV.str []],
                                        [PV.int .i64 0, PV.int .i64 0, PV.str []], [PV.int .i64 0, PV.int .i64 0, PV.str []],
                                        [PV.int .i64 0, PV.int .i64 0, PV.str []], [PV.int .i64 0, PV.int .i64 0, PV.str []],
                                        [PV.int .i64 0, PV.int .i64 0, PV.str []], [PV.int .i64 0, PV.int .i64 0, PV.str []],
                                        [PV.int .i64 0, PV.int .i64 0, PV.str []]])
                                    (Tr.ret
                                      (PV.bool
                                        (iEq
                                          (chkT
                                            [[PV.int .i64 0, PV.int .i64 0, PV.str []], [PV.int .i64 0, PV.int .i64 0, PV.str []],
                                              [PV.int .i64 0, PV.int .i64 0, PV.str []], [PV.int .i64 0, PV.int .i64 0, PV.str []],
                                              [PV.int .i64 0, PV.int .i64 0, PV.str []], [PV.int .i64 0, PV.int .i64 0, PV.str []],
                                              [PV.int .i64 0, PV.int .i64 0, PV.str []], [PV.int .i64 0, PV.int .i64 0, PV.str []],
                                              [PV.int .i64 0, PV.int .i64 0, PV.str []]])
                                          20)))
                                    Tr.fail)
                                  (Tr.ret (PV.bool false)))
                                Tr.fail)
                              Tr.fail)
                            (Tr.ret (PV.bool false)))
                          (Tr.ret (PV.bool false)))
                        (Tr.ret (PV.bool false)))
                      (Tr.ret (PV.bool false)))
                    (Tr.ret (PV.bool false)))
                  Tr.fail)
                Tr.fail)
              Tr.fail)
            Tr.fail)
          (Tr.ret (PV.bool false)))
        (Tr.ite
          (iEq (xLen [[PV.sl [[PV.int .i64 1, PV.int .i64 1, PV.str []]] .non], [PV.sl [[PV.int .i64 1, PV.int .i64 2, PV.str []]] .non]]) 2)
          (Tr.ite (okPos 0)
            (Tr.ite
              (okGet [PV.sl [] .full]
                [[PV.sl [[PV.int .i64 1, PV.int .i64 1, PV.str []]] .non], [PV.sl [[PV.int .i64 1, PV.int .i64 2, PV.str []]] .non]] (nNat 0))
              (Tr.ite
                (okR cV
                  (lockLL
                    (lockLL
                      (xRow [[PV.sl [[PV.int .i64 1, PV.int .i64 1, PV.str []]] .non], [PV.sl [[PV.int .i64 1, PV.int .i64 2, PV.str []]] .non]]
                        (nNat 0) 0))))
                (Tr.ite (okR cV [[PV.int .i64 1, PV.int .i64 1, PV.str []]])
                  (Tr.ite
                    (iEq
                      (cmpTR
                        (lockLL
                          (lockLL
                            (xRow
                              [[PV.sl [[PV.int .i64 1, PV.int .i64 1, PV.str []]] .non], [PV.sl [[PV.int .i64 1, PV.int .i64 2, PV.str []]] .non]]
                              (nNat 0) 0)))
                        [[PV.int .i64 1, PV.int .i64 1, PV.str []]])
                      0)
                    (Tr.ite (sEq (TText_s [[PV.int .i64 1, PV.int .i64 7, PV.str []]]) [40, 55, 41])
                      (Tr.ite (iEq (TText_n [[PV.int .i64 1, PV.int .i64 7, PV.str []]]) 0)
                        (Tr.ite false
                          (Tr.ite (iEq (xLen []) 1)
                            (Tr.ite (okPos 0)
                              (Tr.ite (okGet [PV.str [], PV.int .i64 0, PV.int .i64 0, PV.str []] [] (nNat 0))
                                (Tr.ite (iEq (xInt [] (nNat 0) 2) 3)
                                  (Tr.ite
                                    (okR cV
                                      [[PV.int .i64 0, PV.int .i64 0, PV.str []], [PV.int .i64 0, PV.int .i64 0, PV.str []],
                                        [PV.int .i64 0, PV.int .i64 0, PV.str []], [PV.int .i64 0, PV.int .i64 0, PV.str []],
                                        [PV.int .i64 0, PV.int .i64 0, PV.str []], [PV.int .i64 0, PV.int .i64 0, PV.str []],
                                        [PV.int .i64 0, PV.int .i64 0, PV.str []], [PV.int .i64 0, PV.int .i64 0, PV.str []],
                                        [PV.int .i64 0, PV.int .i64 0, PV.str []]])
                                    (Tr.ret
                                      (PV.bool
                                        (iEq
                                          (chkT
                                            [[PV.int .i64 0, PV.int .i64 0, PV.str []], [PV.int .i64 0, PV.int .i64 0, PV.str []],
                                              [PV.int .i64 0, PV.int .i64 0, PV.str []], [PV.int .i64 0, PV.int .i64 0, PV.str []],
                                              [PV.int .i64 0, PV.int .i64 0, PV.str []], [PV.int .i64 0, PV.int .i64 0, PV.str []],
                                              [PV.int .i64 0, PV.int .i64 0, PV.str []], [PV.int .i64 0, PV.int .i64 0, PV.str []],
                                              [PV.int .i64 0, PV.int .i64 0, PV.str []]])
                                          20)))
                                    Tr.fail)
                                  (Tr.ret (PV.bool false)))
                                Tr.fail)
                              Tr.fail)
                            (Tr.ret (PV.bool false)))
                          (Tr.ret (PV.bool false)))
                        (Tr.ret (PV.bool false)))
                      (Tr.ret (PV.bool false)))
                    (Tr.ret (PV.bool false)))
                  Tr.fail)
                Tr.fail)
              Tr.fail)
            Tr.fail)
          (Tr.ret (PV.bool false))))
      Tr.fail)
    Tr.fail)
  Tr.fail
theorem awake_T : (tcall tbT G_awake L_awake Tryd.f14 []).flat = awake_Tr := by kernel_rfl
noncomputable def F_awake : List PV → Tr PV | [] => awake_Tr | _ => .fail
theorem sim_awake (gl : Nat → Option Obj) (hg : GlPow gl) : SimP Tryd.prog gl 14 fun args => (F_awake args).run := by
  refine SimP.of_flat (G := G_awake) (L := L_awake) tbT_ok (gok_awake gl hg ) noMixed Tryd.func14 rfl (by rfl) (by kernel_rfl) (loopOk_none (by kernel_rfl)) ?_
  intro args x h
  unfold F_awake at h
  split at h
  · exact (congrArg Tr.run (awake_T)).trans h
  · cases h
end Go.Pv

set_option maxHeartbeats 4000000
set_option maxRecDepth 200000
set_option linter.unusedSimpArgs false
set_option linter.unusedVariables false
namespace Go.Pv
open Go Go.Proofs
theorem awake_law : awake_Tr.run = some (.bool true) := by
  have h7 : TText_W (rOf cV [(1, 7, [])]) = some (.tup [.str [40, 55, 41], .int .i64 0]) := text7
  have h1 : okMT (rOf cM [(1, [88], 0, 0, [])]) (rOf cV [(1, 3, [])]) = true := by kernel_rfl
  have h2 : mTV (rOf cM [(1, [88], 0, 0, [])]) (rOf cV [(1, 3, [])]) = rOf cB [([88], 1, 3, [])] := by kernel_rfl
  have h3 : lexV [(1, 1, [])] [(1, 1, [])] = 0 := by kernel_rfl
  have h4 : chkT (rOf cV [(0, 0, []), (0, 0, []), (0, 0, []), (0, 0, []), (0, 0, []), (0, 0, []), (0, 0, []), (0, 0, []), (0, 0, [])]) = 20 := by kernel_rfl
  simp [awake_Tr, TText_is0, TText_s, TText_n, h7, h1, h2, h3, h4]
noncomputable def F_awk : List PV → Tr PV | [] => .ret (.bool true) | _ => .fail
theorem sim_awk (gl : Nat → Option Obj) (hg : GlPow gl) : SimP Tryd.prog gl 14 fun args => (F_awk args).run := by
  refine SimP.imp (sim_awake gl hg) ?_
  intro args x h
  unfold F_awk at h
  split at h
  · cases h; exact awake_law
  · cases h
end Go.Pv

set_option maxHeartbeats 4000000
set_option maxRecDepth 200000
set_option linter.unusedSimpArgs false
set_option linter.unusedVariables false
/-! Tuples in order, each once: the contract of tuple.sorted at any row. -/
namespace Go.Pv
open Go Go.Proofs
/-- A contract at a struct that begins with a row, by two: the row is empty (nil or not), or it is not. -/
theorem SimP.of_nil2 {P : Program} {gl : Nat → Option Obj} {f : FuncId} {F G1 G2 : List PV → Option PV} (h1 : SimP P gl f G1) (h2 : SimP P gl f G2)
    (h : ∀ args x, F args = some x → ∃ xs tg ys, args = [.agg (.sl xs tg :: ys)] ∧ (xs = [] → G1 [.agg (.sl [] .nil :: ys)] = some x ∧ G1 [.agg (.sl [] .own :: ys)] = some x) ∧ (xs ≠ [] → G2 [.agg (.sl xs .own :: ys)] = some x)) : SimP P gl f F where
  ent := h1.ent
  run := fun args x hx H w vs a1 a2 a3 a4 hr => by
    obtain ⟨xs, tg, ys, rfl, ha, hb⟩ := h args x hx
    cases hr with
    | cons _ v _ vs hv hvs =>
      cases hvs
      cases hv with
      | agg _ us hu =>
        cases hu with
        | cons _ v _ us hv hus =>
          cases hv with
          | sl p len cap k _ vss _ hl hcap hm hrel hrow htag =>
            cases p with
            | none =>
              have e : xs = [] := by
                cases hrel with
                | nil => rfl
                | cons _ v _ vs _ _ =>
                  obtain ⟨_, a, e, _⟩ := hrow 0 v (by simp)
                  cases e
              subst e
              exact h1.run _ x (ha rfl).1 H w _ a1 a2 a3 a4 (.cons _ _ _ _ (.agg _ _ (.cons _ _ _ _ (.sl none len cap k [] vss .nil hl hcap hm hrel hrow rfl) hus)) .nil)
            | some a =>
              by_cases e : xs = []
              · subst e
                exact h1.run _ x (ha rfl).2 H w _ a1 a2 a3 a4 (.cons _ _ _ _ (.agg _ _ (.cons _ _ _ _ (.sl (some a) len cap k [] vss .own hl hcap hm hrel hrow (by simp [TagOk])) hus)) .nil)
              · exact h2.run _ x (hb e) H w _ a1 a2 a3 a4 (.cons _ _ _ _ (.agg _ _ (.cons _ _ _ _ (.sl (some a) len cap k xs vss .own hl hcap hm hrel hrow (by simp [TagOk])) hus)) .nil)
theorem cT_lexV : (cT : List Vl → List Vl → Int) = lexV := by
  funext a b
  exact cmpT_lex cmpVl a b
theorem srd_nil : (F_srd [.agg [.sl [] .nil, .fn 16 []]]).run = some (.sl [] .non) := by kernel_rfl
theorem srd_own : (F_srd [.agg [.sl [] .own, .fn 16 []]]).run = some (.sl [] .non) := by kernel_rfl
/-- A row in order, each once. -/
noncomputable def srtV (l : List (List PV)) : List (List PV) := rOf (cR cV) (usort lexV (unR (cR cV) l))
noncomputable def F_srtd : List PV → Tr PV
  | [.agg [.sl l .non, .fn 16 []]] => Tr.chk (okR (cR cV) l) (Tr.chk (okGrow [] l 24) (.ret (.sl (srtV l) .non)))
  | _ => .fail
theorem sim_srtd (gl : Nat → Option Obj) : SimP Tryd.prog gl 61 fun args => (F_srtd args).run := by
  refine SimP.of_nil2 (sim_srd gl) (sim_srt gl) ?_
  intro args x h
  unfold F_srtd at h
  split at h
  · rename_i l
    obtain ⟨h1, q⟩ := Tr.chk_some h
    obtain ⟨h2, q⟩ := Tr.chk_some q
    cases q
    refine ⟨l, .non, [.fn 16 []], rfl, fun e => ?_, fun e => ?_⟩
    · subst e
      exact ⟨srd_nil, srd_own⟩
    · have hl : l = rOf (cR cV) (unR (cR cV) l) := by obtain ⟨m, rfl⟩ := okR_eq (cR cV) h1; simp only [unR_of]
      generalize hm : unR (cR cV) l = m at *
      subst hl
      have hne : m ≠ [] := by rintro rfl; exact e rfl
      have T : Tot (cT : List Vl → List Vl → Int) := by rw [cT_lexV]; exact lexV_tot
      have hs := srt_law T m hne (by simp at h2; exact h2.1)
      have hs' : srt_W (rOf (cR cV) m) = some (.sl (srtV (rOf (cR cV) m)) .non) := by
        rw [hs, cT_lexV]
        simp only [srtV, unR_of]
      simp [F_srt, srt_is0, srt_r, hs']
  · cases h
@[simp] theorem srtV_of (l : List (List Vl)) : srtV (rOf (cR cV) l) = rOf (cR cV) (usort lexV l) := by simp only [srtV, unR_of]
/-! ### copied -/
theorem copied_loop (l : List (List Vl)) (hl : l.length ≤ 1000000) (ht : ∀ t ∈ l, t.length ≤ 1000000) : copied1_V [.sl [] .full, .sl (rOf (cR cV) l) .non, .int .i64 (l.length : Nat), .int .i64 0] ⟨[], [], []⟩ = some (.exit 0, [.sl (rOf (cR cV) l) (aT l)], aS 1 23 l) := by
  have h := loop_acc (l := l) (V := fun i b => copied1_V [.sl (rOf (cR cV) b) (aT b), .sl (rOf (cR cV) l) .non, .int .i64 (l.length : Nat), .int .i64 (i : Nat)] (aS 1 23 b)) (fun a => [a]) (fun r => some (.exit 0, [.sl (rOf (cR cV) r) (aT r)], aS 1 23 r)) ?_ ?_
  · rw [show l.flatMap (fun a => [a]) = l from by rw [flatMap_one (fun a => a) l, List.map_id']] at h
    simpa using h
  · intro i b a hb hi ha
    have w := inc_i64 (i := i) (by omega)
    have hlen : b.length ≤ i := by rw [hb]; exact flatMap_le _ (fun a => by simp) _ _
    have g1 : (b.length + 1) * 24 ≤ 140737488355328 := by omega
    have g2 : b.length ≤ 140737488355327 := by omega
    have hta := ht a (by rw [← ha]; exact List.getElem_mem hi)
    have g3 : a.length * 32 ≤ 140737488355328 := by omega
    have g4 : a.length ≤ 140737488355328 := by omega
    rcases aTS_cases 1 23 b with ⟨rfl, h1, h2⟩ | ⟨hne, h1, h2⟩
    · simp [copied1_E, copied1_Tr, ha, hi, w, one, aT, aS, g3, g4]
    · simp [h1, h2, copied1_E1, copied1_Tr1, ha, hi, w, one, aT_snoc, aS_snoc, g1, g2, g3, g4]
  · intro b hb
    rcases aTS_cases 1 23 b with ⟨rfl, h1, h2⟩ | ⟨hne, h1, h2⟩
    · simp [copied1_E, copied1_Tr]
    · simp [h1, h2, copied1_E1, copied1_Tr1]
theorem copied_law (l : List (List Vl)) (hl : l.length ≤ 1000000) (ht : ∀ t ∈ l, t.length ≤ 1000000) : copied_W (rOf (cR cV) l) = some (.sl (rOf (cR cV) l) .non) := by
  have h := copied_loop l hl ht
  unfold copied_W copied_Tr
  have e : xLen (rOf (cR cV) l) = (l.length : Nat) := by simp
  rw [e]
  generalize hr : l = r at h
  rcases aTS_cases 1 23 r with ⟨rfl, h1, h2⟩ | ⟨hne, h1, h2⟩
  · subst hr
    try simp at h
    simp [copied1_is0, copied1_is1, copied1_out_0, copied1_out_1, copied1_k_1, copied1_W, h]
  · subst hr
    rw [h1, h2] at h
    try simp at h
    simp [copied1_is0, copied1_is1, copied1_out_0, copied1_out_1, copied1_k_1, copied1_W, h]
/-! ### within -/
def wthV (a b c : List (List PV)) : Bool := withinL (unR cV a) (unR cV b) (unR cV c)
@[simp] theorem wthV_of (a b c : List Vl) : wthV (rOf cV a) (rOf cV b) (rOf cV c) = withinL a b c := by simp only [wthV, unR_of]
noncomputable def F_Wth : List PV → Tr PV
  | [.sl a .non, .sl b .non, .sl c .non] => Tr.chk (okR cV a) (Tr.chk (okR cV b) (Tr.chk (okR cV c) (.ret (.bool (wthV a b c)))))
  | _ => .fail
theorem sim_Wth (gl : Nat → Option Obj) : SimP Tryd.prog gl 21 fun args => (F_Wth args).run := by
  refine SimP.imp (sim_TWithin gl) ?_
  intro args x h
  unfold F_Wth at h
  split at h
  · rename_i a b c
    obtain ⟨h1, q⟩ := Tr.chk_some h
    obtain ⟨h2, q⟩ := Tr.chk_some q
    obtain ⟨h3, q⟩ := Tr.chk_some q
    cases q
    obtain ⟨a, rfl⟩ := okR_eq cV h1
    obtain ⟨b, rfl⟩ := okR_eq cV h2
    obtain ⟨c, rfl⟩ := okR_eq cV h3
    have := TWithin_law a b c
    simpa [F_TWithin] using this
  · cases h
end Go.Pv

set_option maxHeartbeats 4000000
set_option maxRecDepth 200000
set_option linter.unusedSimpArgs false
set_option linter.unusedVariables false
namespace Go.Pv
open Go Go.Proofs
noncomputable def G_TSorted : GamT := ofL [(16, .pure F_TCmp), (61, .pure F_srtd), (62, .pure F_copied)]
theorem gok_TSorted (gl : Nat → Option Obj) : GamOk Tryd.prog gl (gam G_TSorted) := (gamOk_cons (sim_TCmp gl) (gamOk_cons (sim_srtd gl) (gamOk_cons (sim_copied gl) gamOk_nil)))
noncomputable def L_TSorted : LpsT := fun r fr σ => .fail
noncomputable def TSorted_Tr (l : List (List PV)) : Tr PV := Tr.ite (copied_is0 (lockLL l))
  (Tr.ite (okR (cR cV) (lockLL (copied_r (lockLL l))))
    (Tr.ite (okGrow [] (lockLL (copied_r (lockLL l))) 24) (Tr.ret (PV.sl (shutLL (srtV (lockLL (copied_r (lockLL l))))) .non)) Tr.fail) Tr.fail)
  Tr.fail
theorem TSorted_T (l : List (List PV)) : (tcall tbT G_TSorted L_TSorted Tryd.f23 [.sl l .non]).flat = TSorted_Tr l := by kernel_rfl
noncomputable def TSorted_W (l : List (List PV)) : Option PV := (TSorted_Tr l).run
noncomputable def TSorted_r (l : List (List PV)) : List (List PV) := (gRow (gVal (TSorted_W l)))
noncomputable def TSorted_is0 (l : List (List PV)) : Bool := isW (TSorted_W l) (.sl (TSorted_r l) .non)
noncomputable def F_TSorted : List PV → Tr PV | [.sl l .non] => .ite (TSorted_is0 l) (.ret (.sl (TSorted_r l) .non)) (.fail) | _ => .fail
theorem sim_TSorted (gl : Nat → Option Obj) : SimP Tryd.prog gl 23 fun args => (F_TSorted args).run := by
  refine SimP.of_flat (G := G_TSorted) (L := L_TSorted) tbT_ok (gok_TSorted gl ) noMixed Tryd.func23 rfl (by rfl) (by kernel_rfl) (loopOk_none (by kernel_rfl)) ?_
  intro args x h
  unfold F_TSorted at h
  split at h
  · exact (congrArg Tr.run (TSorted_T _)).trans (ite_isW h fun h => by cases h)
  · cases h
noncomputable def G_TRows : GamT := ofL [(14, .pure F_awk), (15, .pure F_cutT), (23, .pure F_TSorted), (24, .pure F_few), (31, .pure F_SameRel), (35, .pure F_TChkRel), (40, .pure F_TPlace), (41, .pure F_RPlace), (42, .pure F_RChkRel), (43, .pure F_RSorted)]
theorem gok_TRows (gl : Nat → Option Obj) (hg : GlPow gl) : GamOk Tryd.prog gl (gam G_TRows) := (gamOk_cons (sim_awk gl hg) (gamOk_cons (sim_cutT gl) (gamOk_cons (sim_TSorted gl) (gamOk_cons (sim_few gl) (gamOk_cons (sim_SameRel gl) (gamOk_cons (sim_TChkRel gl) (gamOk_cons (sim_TPlace gl) (gamOk_cons (sim_RPlace gl) (gamOk_cons (sim_RChkRel gl) (gamOk_cons (sim_RSorted gl) gamOk_nil))))))))))
noncomputable def L_TRows : LpsT := fun r fr σ => .fail
noncomputable def TRows_Tr (l : List (List PV)) (t : List (List PV)) : Tr PV := Tr.ite (few_is0 (lockLL l))
  (Tr.ite (okR cV (lockLL t))
    (Tr.ite (TPlace_is0 (lockLL (few_r (lockLL l))) (lockLL (cutT (lockLL t))))
      (Tr.ite (RPlace_is0 (lockLL (few_r (lockLL l))) (lockLL (cutT (lockLL t))))
        (Tr.ite (TChkRel_is0 (lockLL (few_r (lockLL l))))
          (Tr.ite (RChkRel_is0 (lockLL (few_r (lockLL l))))
            (Tr.ite (iEq (TChkRel_n (lockLL (few_r (lockLL l)))) (RChkRel_n (lockLL (few_r (lockLL l)))))
              (Tr.ite (TSorted_is0 (lockLL (few_r (lockLL l))))
                (Tr.ite (RSorted_is0 (lockLL (few_r (lockLL l))))
                  (Tr.ite (SameRel_is0 (lockLL (TSorted_r (lockLL (few_r (lockLL l))))) (lockLL (RSorted_r (lockLL (few_r (lockLL l))))))
                    (Tr.ite (SameRel_b (lockLL (TSorted_r (lockLL (few_r (lockLL l))))) (lockLL (RSorted_r (lockLL (few_r (lockLL l))))))
                      (Tr.ite (iEq (TPlace_n (lockLL (few_r (lockLL l))) (lockLL (cutT (lockLL t)))) (RPlace_n (lockLL (few_r (lockLL l))) (lockLL (cutT (lockLL t)))))
                        (Tr.ite (bEq (TPlace_b (lockLL (few_r (lockLL l))) (lockLL (cutT (lockLL t)))) (RPlace_b (lockLL (few_r (lockLL l))) (lockLL (cutT (lockLL t)))))
                          (Tr.ret (PV.bool true)) (Tr.ret (PV.bool false)))
                        (Tr.ret (PV.bool false)))
                      (Tr.ret (PV.bool false)))
                    Tr.fail)
                  Tr.fail)
                Tr.fail)
              (Tr.ret (PV.bool false)))
            Tr.fail)
          Tr.fail)
        Tr.fail)
      Tr.fail)
    Tr.fail)
  Tr.fail
theorem TRows_T (l : List (List PV)) (t : List (List PV)) : (tcall tbT G_TRows L_TRows Tryd.f10 [.sl l .non, .sl t .non]).flat = TRows_Tr l t := by kernel_rfl
noncomputable def TRows_W (l : List (List PV)) (t : List (List PV)) : Option PV := (TRows_Tr l t).run
noncomputable def TRows_b (l : List (List PV)) (t : List (List PV)) : Bool := (gBool (gVal (TRows_W l t)))
noncomputable def TRows_is0 (l : List (List PV)) (t : List (List PV)) : Bool := isW (TRows_W l t) (.bool (TRows_b l t))
noncomputable def F_TRows : List PV → Tr PV | [.sl l .non, .sl t .non] => .ite (TRows_is0 l t) (.ret (.bool (TRows_b l t))) (.fail) | _ => .fail
theorem sim_TRows (gl : Nat → Option Obj) (hg : GlPow gl) : SimP Tryd.prog gl 10 fun args => (F_TRows args).run := by
  refine SimP.of_flat (G := G_TRows) (L := L_TRows) tbT_ok (gok_TRows gl hg ) noMixed Tryd.func10 rfl (by rfl) (by kernel_rfl) (loopOk_none (by kernel_rfl)) ?_
  intro args x h
  unfold F_TRows at h
  split at h
  · exact (congrArg Tr.run (TRows_T _ _)).trans (ite_isW h fun h => by cases h)
  · cases h
noncomputable def G_TNear : GamT := ofL [(14, .pure F_awk), (15, .pure F_cutT), (21, .pure F_Wth), (23, .pure F_TSorted), (24, .pure F_few), (25, .pure F_width), (26, .pure F_RCompare)]
theorem gok_TNear (gl : Nat → Option Obj) (hg : GlPow gl) : GamOk Tryd.prog gl (gam G_TNear) := (gamOk_cons (sim_awk gl hg) (gamOk_cons (sim_cutT gl) (gamOk_cons (sim_Wth gl) (gamOk_cons (sim_TSorted gl) (gamOk_cons (sim_few gl) (gamOk_cons (sim_width gl) (gamOk_cons (sim_RCompare gl) gamOk_nil)))))))
noncomputable def c_TNear1 : Code := loopC Tryd.f6 13
def I_TNear1 : LI := ⟨70, [0, 1, 2, 8, 9, 10], fun e => match e with | .exit 0 => [8] | _ => [], true⟩
noncomputable def LI_TNear1 : LpsT := fun r fr σ => .fail
noncomputable def TNear1_V (vs : List PV) (σ : Store) : Option (PExit × List PV × Store) := lval (lstep tbT G_TNear LI_TNear1 c_TNear1 I_TNear1) vs σ
noncomputable def TNear1_Tr (r : List (List PV)) (r2 : List (List PV)) (r3 : List (List PV)) (n : Int) (b : Bool) (n2 : Int) : Tr LR := Tr.ite (iLt n2 (xLen r))
  (Tr.ite (okPos n2)
    (Tr.ite (okGet [PV.sl [] .full] r (nNat n2))
      (Tr.ite (okR cV (lockLL r2))
        (Tr.ite (okR cV (lockLL (xRow r (nNat n2) 0)))
          (Tr.ite (okR cV (lockLL r3))
            (Tr.ite (wthV (lockLL r2) (lockLL (xRow r (nNat n2) 0)) (lockLL r3))
              (Tr.ite (bNot b)
                (Tr.ret
                  (LR.next
                    [PV.sl r .non, PV.sl r2 .non, PV.sl r3 .non, PV.int .i64 (iAdd .i64 n 1),
                      PV.bool (wthV (lockLL r2) (lockLL (xRow r (nNat n2) 0)) (lockLL r3)), PV.int .i64 (iAdd .i64 n2 1)]
                    (Store.mk [] [] [])))
                (Tr.ret
                  (LR.next
                    [PV.sl r .non, PV.sl r2 .non, PV.sl r3 .non, PV.int .i64 n, PV.bool (wthV (lockLL r2) (lockLL (xRow r (nNat n2) 0)) (lockLL r3)),
                      PV.int .i64 (iAdd .i64 n2 1)]
                    (Store.mk [] [] []))))
              (Tr.ret
                (LR.next
                  [PV.sl r .non, PV.sl r2 .non, PV.sl r3 .non, PV.int .i64 n, PV.bool (wthV (lockLL r2) (lockLL (xRow r (nNat n2) 0)) (lockLL r3)),
                    PV.int .i64 (iAdd .i64 n2 1)]
                  (Store.mk [] [] []))))
            Tr.fail)
          Tr.fail)
        Tr.fail)
      Tr.fail)
    Tr.fail)
  (Tr.ret (LR.out (.exit 0) [PV.int .i64 n] (Store.mk [] [] [])))
theorem TNear1_T (r : List (List PV)) (r2 : List (List PV)) (r3 : List (List PV)) (n : Int) (b : Bool) (n2 : Int) : lstep tbT G_TNear LI_TNear1 c_TNear1 I_TNear1 [.sl r .non, .sl r2 .non, .sl r3 .non, .int .i64 n, .bool b, .int .i64 n2] ⟨[], [], []⟩ = TNear1_Tr r r2 r3 n b n2 := by kernel_rfl
theorem TNear1_E (r : List (List PV)) (r2 : List (List PV)) (r3 : List (List PV)) (n : Int) (b : Bool) (n2 : Int) : TNear1_V [.sl r .non, .sl r2 .non, .sl r3 .non, .int .i64 n, .bool b, .int .i64 n2] ⟨[], [], []⟩ = lnext TNear1_V (TNear1_Tr r r2 r3 n b n2).run := by unfold TNear1_V; rw [lval_eq, TNear1_T]
noncomputable def TNear1_W (r : List (List PV)) (r2 : List (List PV)) (r3 : List (List PV)) (n : Int) (b : Bool) (n2 : Int) : Option (PExit × List PV × Store) := TNear1_V [.sl r .non, .sl r2 .non, .sl r3 .non, .int .i64 n, .bool b, .int .i64 n2] ⟨[], [], []⟩
noncomputable def TNear1_n (r : List (List PV)) (r2 : List (List PV)) (r3 : List (List PV)) (n : Int) (b : Bool) (n2 : Int) : Int := (gInt (gOut (TNear1_W r r2 r3 n b n2) 0))
noncomputable def TNear1_is0 (r : List (List PV)) (r2 : List (List PV)) (r3 : List (List PV)) (n : Int) (b : Bool) (n2 : Int) : Bool := isW (TNear1_W r r2 r3 n b n2) ((.exit 0), [.int .i64 (TNear1_n r r2 r3 n b n2)], ⟨[], [], []⟩)
noncomputable def TNear1_prop : List PV → Store → Tr (PExit × List PV × Store) | [.sl r .non, .sl r2 .non, .sl r3 .non, .int .i64 n, .bool b, .int .i64 n2], ⟨[], [], []⟩ => .ite (TNear1_is0 r r2 r3 n b n2) (.ret ((.exit 0), [.int .i64 (TNear1_n r r2 r3 n b n2)], ⟨[], [], []⟩)) (.fail) | _, _ => .fail
theorem TNear1_ok : ∀ vs σ r, (TNear1_prop vs σ).run = some r → TNear1_V vs σ = some r := by
  intro vs σ r h
  unfold TNear1_prop at h
  split at h
  · exact ite_isW h fun h => by cases h
  · cases h
theorem loop_TNear1 (gl : Nat → Option Obj) (hg : GlPow gl) : ∀ fr σ e fr' σ', (orc I_TNear1 TNear1_prop fr σ).run = some (e, fr', σ') → LDoes Tryd.prog gl c_TNear1 fr σ e fr' σ' := orc_ok tbT_ok (gok_TNear gl hg ) noMixed (L := LI_TNear1) (loopOk_none (by kernel_rfl)) (by kernel_rfl) TNear1_ok
noncomputable def L_TNear : LpsT := fun r fr σ => bif Nat.beq r 13 then orc I_TNear1 TNear1_prop fr σ else .fail
noncomputable def TNear_Tr (v : List (List PV)) (v2 : List (List PV)) (v3 : List (List PV)) : Tr PV := Tr.ite false (Tr.ret (PV.bool false))
  (Tr.ite (few_is0 (lockLL v))
    (Tr.ite (TSorted_is0 (lockLL (few_r (lockLL v))))
      (Tr.ite (okR cV (lockLL v2))
        (Tr.ite (okR cV (lockLL v3))
          (Tr.ite (iLt 0 (xLen (TSorted_r (lockLL (few_r (lockLL v))))))
            (Tr.ite (okPos 0)
              (Tr.ite (okGet [PV.sl [] .full] (TSorted_r (lockLL (few_r (lockLL v)))) (nNat 0))
                (Tr.ite (width_is0 (lockLL (TSorted_r (lockLL (few_r (lockLL v))))) (xLen (xRow (TSorted_r (lockLL (few_r (lockLL v)))) (nNat 0) 0)))
                  (Tr.ite (iLt (xLen (xRow (TSorted_r (lockLL (few_r (lockLL v)))) (nNat 0) 0)) (xLen (cutT (lockLL v2)))) (Tr.ret (PV.bool true))
                    (Tr.ite (iLt (xLen (xRow (TSorted_r (lockLL (few_r (lockLL v)))) (nNat 0) 0)) (xLen (cutT (lockLL v3)))) (Tr.ret (PV.bool true))
                      (Tr.ite
                        (TNear1_is0 (width_r (lockLL (TSorted_r (lockLL (few_r (lockLL v))))) (xLen (xRow (TSorted_r (lockLL (few_r (lockLL v)))) (nNat 0) 0))) (cutT (lockLL v2))
                          (cutT (lockLL v3)) 0 false 0)
                        (Tr.ite
                          (iLe
                            (TNear1_n (width_r (lockLL (TSorted_r (lockLL (few_r (lockLL v))))) (xLen (xRow (TSorted_r (lockLL (few_r (lockLL v)))) (nNat 0) 0))) (cutT (lockLL v2))
                              (cutT (lockLL v3)) 0 false 0)
                            1)
                          (Tr.ret (PV.bool (iEq (compareR 0 0 [] 0 0 []) 0))) (Tr.ret (PV.bool false)))
                        Tr.fail)))
                  Tr.fail)
                Tr.fail)
              Tr.fail)
            (Tr.ite (width_is0 (lockLL (TSorted_r (lockLL (few_r (lockLL v))))) 0)
              (Tr.ite (iLt 0 (xLen (cutT (lockLL v2)))) (Tr.ret (PV.bool true))
                (Tr.ite (iLt 0 (xLen (cutT (lockLL v3)))) (Tr.ret (PV.bool true))
                  (Tr.ite (TNear1_is0 (width_r (lockLL (TSorted_r (lockLL (few_r (lockLL v))))) 0) (cutT (lockLL v2)) (cutT (lockLL v3)) 0 false 0)
                    (Tr.ite (iLe (TNear1_n (width_r (lockLL (TSorted_r (lockLL (few_r (lockLL v))))) 0) (cutT (lockLL v2)) (cutT (lockLL v3)) 0 false 0) 1)
                      (Tr.ret (PV.bool (iEq (compareR 0 0 [] 0 0 []) 0))) (Tr.ret (PV.bool false)))
                    Tr.fail)))
              Tr.fail))
          Tr.fail)
        Tr.fail)
      Tr.fail)
    Tr.fail)
theorem TNear_T (v : List (List PV)) (v2 : List (List PV)) (v3 : List (List PV)) : (tcall tbT G_TNear L_TNear Tryd.f6 [.sl v .non, .sl v2 .non, .sl v3 .non]).flat = TNear_Tr v v2 v3 := by kernel_rfl
noncomputable def TNear_W (v : List (List PV)) (v2 : List (List PV)) (v3 : List (List PV)) : Option PV := (TNear_Tr v v2 v3).run
noncomputable def TNear_b (v : List (List PV)) (v2 : List (List PV)) (v3 : List (List PV)) : Bool := (gBool (gVal (TNear_W v v2 v3)))
noncomputable def TNear_is0 (v : List (List PV)) (v2 : List (List PV)) (v3 : List (List PV)) : Bool := isW (TNear_W v v2 v3) (.bool (TNear_b v v2 v3))
noncomputable def F_TNear : List PV → Tr PV | [.sl v .non, .sl v2 .non, .sl v3 .non] => .ite (TNear_is0 v v2 v3) (.ret (.bool (TNear_b v v2 v3))) (.fail) | _ => .fail
theorem sim_TNear (gl : Nat → Option Obj) (hg : GlPow gl) : SimP Tryd.prog gl 6 fun args => (F_TNear args).run := by
  refine SimP.of_flat (G := G_TNear) (L := L_TNear) tbT_ok (gok_TNear gl hg ) noMixed Tryd.func6 rfl (by rfl) (by kernel_rfl) (loopOk_all (L := lps L_TNear) [(13, c_TNear1)] (by kernel_rfl) (List.forall_mem_cons.2 ⟨fun fr σ e fr' σ' h => loop_TNear1 gl hg  fr σ e fr' σ' h, (List.forall_mem_nil _)⟩)) ?_
  intro args x h
  unfold F_TNear at h
  split at h
  · exact (congrArg Tr.run (TNear_T _ _ _)).trans (ite_isW h fun h => by cases h)
  · cases h
end Go.Pv

set_option maxHeartbeats 4000000
set_option maxRecDepth 200000
set_option linter.unusedSimpArgs false
set_option linter.unusedVariables false
/-! TupleRows, TupleNear: what their walks give is true. -/
namespace Go.Pv
open Go Go.Proofs
theorem TSorted_law (l : List (List Vl)) (hl : l.length ≤ 1000000) (ht : ∀ t ∈ l, t.length ≤ 1000000) : TSorted_W (rOf (cR cV) l) = some (.sl (rOf (cR cV) (usort lexV l)) .non) := by
  have h := copied_law l hl ht
  have g1 : l.length * 24 ≤ 140737488355328 := by omega
  have g2 : l.length ≤ 140737488355328 := by omega
  simp [TSorted_W, TSorted_Tr, copied_is0, copied_r, h, g1, g2]
theorem usort_few (l : List (List Vl)) : (usort lexV (fewL l)).length ≤ 60 := by
  have h1 := usort_len (c := lexV) (fewL l)
  have h2 := few_len l
  omega
theorem TRows_law (l : List (List Vl)) (t : List Vl) (hl : l.length ≤ 9223372036854775807) : TRows_W (rOf (cR cV) l) (rOf cV t) = some (.bool true) := by
  have hf := few_law l hl
  have f1 : (fewL l).length ≤ 1000000 := by have := few_len l; omega
  have f2 : ∀ t ∈ fewL l, t.length ≤ 1000000 := fun t ht => by have := (few_mem ht).2; omega
  have s1 := TSorted_law (fewL l) f1 f2
  have s2 := RSorted_law (fewL l) f1
  have s3 := sameRel_law (usort lexV (fewL l)) (usort lexV (fewL l)) (by have := usort_few l; omega)
  have s4 := TPlace_law (fewL l) (t.take 20) f1
  have s5 := RPlace_law (fewL l) (t.take 20) f1
  have s6 := TChkRel_law (fewL l) f1
  have s7 := RChkRel_law (fewL l) f1
  have e0 : cutT (rOf cV t) = rOf cV (t.take 20) := by simp only [cutT, unR_of]
  unfold TRows_W TRows_Tr
  simp only [lockLL_rOf, e0]
  repeat' first
    | rfl
    | refine Tr.run_t (by first | rfl | (simp; done) | (simp [few_is0, few_r, hf, TPlace_is0, TPlace_n, TPlace_b, RPlace_is0, RPlace_n, RPlace_b, TChkRel_is0, TChkRel_n, RChkRel_is0, RChkRel_n, TSorted_is0, TSorted_r, RSorted_is0, RSorted_r, SameRel_is0, SameRel_b, s1, s2, s3, s4, s5, s6, s7]; done)) ?_
theorem within_conv (low high : List Vl) (a b d : List Vl) (h1 : lexV a b < 0) (h2 : lexV b d < 0) (ha : withinL low a high = true) (hd : withinL low d high = true) : withinL low b high = true := by
  simp only [withinL, Bool.and_eq_true, decide_eq_true_eq] at ha hd ⊢
  have k1 : lexV (a.take low.length) (b.take low.length) ≤ 0 := lex_take low.length a b (by have : lexV a b < 0 := h1; exact Int.le_of_lt this)
  have k2 : lexV (b.take high.length) (d.take high.length) ≤ 0 := lex_take high.length b d (by have : lexV b d < 0 := h2; exact Int.le_of_lt this)
  constructor
  · have s1 := lexV_tot.swap (a.take low.length) low
    have s2 := lexV_tot.swap (b.take low.length) low
    have := lexV_tot.le_trans (a := low) (b := a.take low.length) (c := b.take low.length) (by omega) k1
    omega
  · exact lexV_tot.le_trans k2 hd.2
def nrF (low high : List Vl) (s : Nat × Bool) (a : List Vl) : (Nat × Bool) ⊕ (Nat × Bool) := .inl (turnF s (withinL low a high))
theorem nr_fold (low high : List Vl) : ∀ (l : List (List Vl)) (s : Nat × Bool), foldE (nrF low high) id l s = (l.map fun a => withinL low a high).foldl turnF s
  | [], s => rfl
  | a :: l, s => by
    simp only [foldE, nrF, List.map_cons, List.foldl_cons]
    exact nr_fold low high l _
theorem TNear_loop (l : List (List Vl)) (low high : List Vl) (hl : l.length ≤ 1000000) : TNear1_V [.sl (rOf (cR cV) l) .non, .sl (rOf cV low) .non, .sl (rOf cV high) .non, .int .i64 0, .bool false, .int .i64 0] ⟨[], [], []⟩ = some (.exit 0, [.int .i64 (((l.map fun a => withinL low a high).foldl turnF (0, false)).1 : Nat)], ⟨[], [], []⟩) := by
  have h := loop_foldE0 (l := l) (V := fun i s => TNear1_V [.sl (rOf (cR cV) l) .non, .sl (rOf cV low) .non, .sl (rOf cV high) .non, .int .i64 (s.1 : Nat), .bool s.2, .int .i64 (i : Nat)] ⟨[], [], []⟩) (fun i s => s.1 ≤ i) (nrF low high) id (fun r => some (.exit 0, [.int .i64 (r.1 : Nat)], ⟨[], [], []⟩)) (0, false) (Nat.le_refl _) ?_ ?_
  · rw [nr_fold] at h
    simpa using h
  · intro i s a hs hi ha
    obtain ⟨n, b⟩ := s
    simp only at hs
    have w := inc_i64 (i := i) (by omega)
    have w2 := inc_i64 (i := n) (by omega)
    refine .inl ⟨_, rfl, ?_, ?_⟩
    · have := (turnF_le (n, b) (withinL low a high)).2
      simp only at this
      omega
    · cases hc : withinL low a high <;> cases b <;> simp [TNear1_E, TNear1_Tr, ha, hi, w, w2, hc, turnF]
  · intro b _
    simp [TNear1_E, TNear1_Tr]
theorem TNear_law (l : List (List Vl)) (low high : List Vl) (hl : l.length ≤ 9223372036854775807) : TNear_W (rOf (cR cV) l) (rOf cV low) (rOf cV high) = some (.bool true) := by
  have hf := few_law l hl
  have f1 : (fewL l).length ≤ 1000000 := by have := few_len l; omega
  have f2 : ∀ t ∈ fewL l, t.length ≤ 1000000 := fun t ht => by have := (few_mem ht).2; omega
  have s1 := TSorted_law (fewL l) f1 f2
  have hs := ssrt_usort lexV_tot (fewL l)
  have hm := usort_few l
  have e0 : ∀ t : List Vl, cutT (rOf cV t) = rOf cV (t.take 20) := fun t => by simp only [cutT, unR_of]
  have e1 : few_is0 (rOf (cR cV) l) = true := by simp [few_is0, few_r, hf]
  have e2 : few_r (rOf (cR cV) l) = rOf (cR cV) (fewL l) := by simp [few_r, hf]
  have e3 : TSorted_is0 (rOf (cR cV) (fewL l)) = true := by simp [TSorted_is0, TSorted_r, s1]
  have e4 : TSorted_r (rOf (cR cV) (fewL l)) = rOf (cR cV) (usort lexV (fewL l)) := by simp [TSorted_r, s1]
  have hz : compareR 0 0 [] 0 0 [] = 0 := by kernel_rfl
  unfold TNear_W TNear_Tr
  simp only [lockLL_rOf, e0, e1, e2, e3, e4]
  generalize usort lexV (fewL l) = m at *
  generalize List.take 20 low = low, List.take 20 high = high
  have w1 : ∀ n : Nat, width_W (rOf (cR cV) m) (n : Nat) = some (.sl (rOf (cR cV) (widL m n)) .non) := fun n => width_law m n (by omega)
  have w2 : ∀ n : Nat, width_is0 (rOf (cR cV) m) (n : Nat) = true := fun n => by simp [width_is0, width_r, w1]
  have w3 : ∀ n : Nat, width_r (rOf (cR cV) m) (n : Nat) = rOf (cR cV) (widL m n) := fun n => by simp [width_r, w1]
  have n1 : ∀ n : Nat, (widL m n).length ≤ 1000000 := fun n => by have : (widL m n).length ≤ m.length := List.length_filter_le _ _; omega
  have n2 := fun n => TNear_loop (widL m n) low high (n1 n)
  have n3 : ∀ n, (((widL m n).map fun a => withinL low a high).foldl turnF (0, false)).1 ≤ 1 := fun n => turns_le _ (conv_of lexV_tot _ (fun a b d => within_conv low high a b d) _ (hs.filter _))
  have n4 : ∀ n, TNear1_is0 (rOf (cR cV) (widL m n)) (rOf cV low) (rOf cV high) 0 false 0 = true := fun n => by simp [TNear1_is0, TNear1_n, TNear1_W, n2]
  have n5 : ∀ n, TNear1_n (rOf (cR cV) (widL m n)) (rOf cV low) (rOf cV high) 0 false 0 = ((((widL m n).map fun a => withinL low a high).foldl turnF (0, false)).1 : Nat) := fun n => by simp [TNear1_n, TNear1_W, n2]
  have n6 : ∀ n, TNear1_n (rOf (cR cV) (widL m n)) (rOf cV low) (rOf cV high) 0 false 0 ≤ 1 := fun n => by rw [n5]; have := n3 n; omega
  have w20 := w2 0
  have w30 := w3 0
  simp only [Int.natCast_zero] at w20 w30
  repeat' first
    | rfl
    | refine Tr.run_t (by first | rfl | (simp; done) | (simp [w2, w3, w20, w30, n4, n6]; done) | (simp; omega)) ?_
    | refine Tr.run_f (by first | rfl | (simp; done) | (simp; omega)) ?_
    | (refine Tr.run_of (fun h => ?_) (fun h => ?_) <;> simp at h)
  all_goals (simp only [Tr.run_ret, hz]; rfl)
end Go.Pv

set_option maxHeartbeats 4000000
set_option maxRecDepth 200000
set_option linter.unusedSimpArgs false
set_option linter.unusedVariables false
namespace Go.Pv
open Go Go.Proofs Go.RowKit Go.Proofs.YtdfahkeodlfopaaDoor

/-! ### the listed variables -/
theorem g_pow : Tryd.prog.globalNamed "internal/strconv.uint64pow10" = some 0 := by kernel_rfl
theorem gt_pow : (Tryd.prog.globals[0]?).map (·.type) = some 164 := by kernel_rfl
def laidL : List (String × DataW Unit) := [("math/bits.deBruijn32tab", Rows.laid_math_bits_deBruijn32tab), ("math/bits.deBruijn64tab", Rows.laid_math_bits_deBruijn64tab), ("internal/strconv.uint64pow10", Rows.laid_internal_strconv_uint64pow10)]
theorem laidL_plain : (laidL.filter fun x => x.2.handleName?.isSome) = [] := by kernel_rfl
theorem glPow_laid {W : World} (h : laidMetH Tryd.prog laidL W) : GlPow fun b => W.heap[b]? := by
  unfold laidMetH at h
  rw [laidL_plain] at h
  obtain ⟨ps, hl, _⟩ := h
  refine ⟨?_⟩
  obtain ⟨g, t, cs, fuel, p, h1, h2, h3, h4⟩ := laid_var (nm := "internal/strconv.uint64pow10") hl (.tail _ (.tail _ (.head _)))
  obtain rfl := Option.some.inj (g_pow.symm.trans h1)
  obtain rfl := Option.some.inj (gt_pow.symm.trans h2)
  have e : (Rows.laid_internal_strconv_uint64pow10 : DataW Unit) = Lib.tabData .u64 Lib.pow10Tab := by rfl
  rw [e] at h4
  have hc := Lib.cells_of_tab Tryd.underlying164 Tryd.underlying147 (by kernel_rfl) (by kernel_rfl) h4
  obtain ⟨T, f, hh⟩ := var_heap h1 h3
  refine ⟨0, T, f, g_pow, ?_⟩
  rw [← hc]
  simpa using hh
theorem laidOut : laidOutB Tryd.prog = true := by kernel_rfl

/-- From a law's contract to its row's. -/
theorem law_calls {F : List PV → Tr PV} {f : FuncId} {fn : Func} {s : ChangeSpec} (hsim : ∀ {gl : Nat → Option Obj}, GlPow gl → SimP Tryd.prog gl f fun args => (F args).run) (hF : ∀ xs, ArgL Tryd.prog fn.params.toList xs → (∃ H w vs, RelL H w xs vs) → (F xs).run = some (.bool true))
    (hrt : fn.resultTypes = #[4]) (hsv : s.vars = []) (hT : (fn.params.toList.all fun t => okT Tryd.prog 9 t && Tryd.prog.readableRec t && decide (t < Tryd.prog.types.size)) = true)
    {H : Type} {enc : TypeId × Value → H} {W : World} {base : Nat} {args : Array Value} {ds gs : List (DataW H)} {before : List MemPlace} (hfn : ∀ ds : List (DataW H), ds.length = fn.params.size → s.fn H ds = { results := [.lit (.bool true)], args := ds })
    (hval : ∀ (j : Nat) t v, fn.params[j]? = some t → args[j]? = some v → Value.okWide Tryd.prog W .any base t v) (hW : DataW.Whole enc Tryd.prog fn.params.toList s.vars false W args.toList ds gs before) (hL : laidMetH Tryd.prog laidL W) :
    Calls Tryd.prog f args W fun e W' => ∃ v, e = .returned v ∧ s.post enc Tryd.prog fn false true false false W args v W' := by
  have hW' := hW
  obtain ⟨p, q, hA, hV, rfl, hfz, hnd⟩ := hW'
  have hT' : ∀ t ∈ fn.params.toList, okT Tryd.prog 9 t = true ∧ Tryd.prog.readableRec t = true ∧ t < Tryd.prog.types.size := by
    intro t ht
    have := List.all_eq_true.1 hT t ht
    simp only [Bool.and_eq_true, decide_eq_true_eq] at this
    exact ⟨this.1.1, this.1.2, this.2⟩
  obtain ⟨xs, hx, ha⟩ := args_rel (n := 9) (fun j t v ht hv => hval j t v (by simpa using ht) (by simpa using hv)) hA (List.all_eq_true.2 fun t ht => (hT' t ht).1)
  have hlen : ds.length = fn.params.size := by
    have h1 : ∀ {ts : List TypeId} {vs : List Value} {ds : List (DataW H)} {ps : List MemPlace}, DataW.TrodAll enc Tryd.prog W 0 (fun _ => true) true ts vs ds ps → ds.length = ts.length := by
      intro ts
      induction ts with
      | nil => intro vs ds ps h; obtain ⟨rfl, rfl, rfl⟩ := Go.ChangeShapes.trodAll_nil h; rfl
      | cons t ts ih =>
        intro vs ds ps h
        obtain ⟨v, vs', d, ds', p, q, rfl, rfl, rfl, hd, hrest⟩ := Go.ChangeShapes.trodAll_cons h
        simp [ih hrest]
    simpa using h1 hA
  have hc := (hsim (glPow_laid hL)).run xs _ (hF xs ha ⟨_, _, _, hx⟩) (ghOf W) W args.toList rfl rfl rfl (fun b o h => h) hx
  simp only [Array.toArray_toList] at hc
  refine hc.mono ?_
  rintro e W' ⟨v, rfl, hb, hr⟩
  cases hr
  exact ⟨_, rfl, law_post laidOut hrt Tryd.underlying4 hsv (fun t ht => (hT' t ht).2) hW (hfn ds hlen) hb.1⟩
end Go.Pv
namespace Go.Proofs.YtdfahkeodlfopaaDoor
open Go Go.Proofs Go.RowKit Go.Pv Go.ChangeShapes Go.WideShapes Go.ChangeAt

/-! ### arguments of the laws' types -/
theorem shp_int {t : TypeId} {k : IntKind} {xs : List PV} (hu : Tryd.prog.underlying t = some (.int k)) (h : Shp Tryd.prog t xs) : ∃ n, xs = [.int k n] := by
  cases h with
  | int t k' n h => rw [hu] at h; cases h; exact ⟨n, rfl⟩
  | bool t b h => rw [hu] at h; cases h
  | str t l h => rw [hu] at h; cases h
  | sl t e xss h hx => rw [hu] at h; cases h
  | struct t fs xs h hx => rw [hu] at h; cases h
theorem shp_str {t : TypeId} {xs : List PV} (hu : Tryd.prog.underlying t = some .string) (h : Shp Tryd.prog t xs) : ∃ l, xs = [.str l] := by
  cases h with
  | str t l h => exact ⟨l, rfl⟩
  | int t k' n h => rw [hu] at h; cases h
  | bool t b h => rw [hu] at h; cases h
  | sl t e xss h hx => rw [hu] at h; cases h
  | struct t fs xs h hx => rw [hu] at h; cases h
theorem shp_struct {t : TypeId} {fs : Array Field} {xs : List PV} (hu : Tryd.prog.underlying t = some (.struct fs)) (h : Shp Tryd.prog t xs) : ShpL Tryd.prog (fs.toList.map (·.type)) xs := by
  cases h with
  | struct t fs xs h hx => rw [hu] at h; cases h; exact hx
  | str t l h => rw [hu] at h; cases h
  | int t k' n h => rw [hu] at h; cases h
  | bool t b h => rw [hu] at h; cases h
  | sl t e xss h hx => rw [hu] at h; cases h
theorem shp_sl {t e : TypeId} {xs : List PV} (hu : Tryd.prog.underlying t = some (.slice e)) (h : Shp Tryd.prog t xs) : ∃ xss, xs = [.sl xss .non] ∧ ∀ ys, ys ∈ xss → Shp Tryd.prog e ys := by
  cases h with
  | sl t e xss h hx => rw [hu] at h; cases h; exact ⟨xss, rfl, hx⟩
  | str t l h => rw [hu] at h; cases h
  | int t k' n h => rw [hu] at h; cases h
  | bool t b h => rw [hu] at h; cases h
  | struct t fs xs h hx => rw [hu] at h; cases h
/-- Rows told by a code. -/
theorem shp_rows {α : Type} (C : Cod α) {t e : TypeId} {xs : List PV} (hu : Tryd.prog.underlying t = some (.slice e)) (he : ∀ ys, Shp Tryd.prog e ys → ∃ a, ys = C.enc a) (h : Shp Tryd.prog t xs) : ∃ l : List α, xs = [.sl (rOf C l) .non] := by
  obtain ⟨xss, rfl, hx⟩ := shp_sl hu h
  have : ∃ l : List α, xss = rOf C l := by
    clear h
    induction xss with
    | nil => exact ⟨[], rfl⟩
    | cons y ys ih =>
      obtain ⟨a, rfl⟩ := he y (hx y (List.mem_cons_self ..))
      obtain ⟨l, rfl⟩ := ih fun z hz => hx z (List.mem_cons_of_mem _ hz)
      exact ⟨a :: l, rfl⟩
  obtain ⟨l, rfl⟩ := this
  exact ⟨l, rfl⟩
theorem arg_rows {α : Type} (C : Cod α) {t e : TypeId} {x : PV} (hu : Tryd.prog.underlying t = some (.slice e)) (he : ∀ ys, Shp Tryd.prog e ys → ∃ a, ys = C.enc a) (h : Arg Tryd.prog t x) : ∃ l : List α, x = .sl (rOf C l) .non := by
  rcases h with ⟨fs, ys, hu', rfl, hs⟩ | ⟨hne, hs⟩
  · rw [hu] at hu'; cases hu'
  · obtain ⟨l, h⟩ := shp_rows C hu he hs
    cases h
    exact ⟨l, rfl⟩
theorem arg_int {k : IntKind} {t : TypeId} {x : PV} (hu : Tryd.prog.underlying t = some (.int k)) (h : Arg Tryd.prog t x) : ∃ n, x = .int k n := by
  rcases h with ⟨fs, ys, hu', rfl, hs⟩ | ⟨hne, hs⟩
  · rw [hu] at hu'; cases hu'
  · obtain ⟨n, h⟩ := shp_int hu hs
    cases h
    exact ⟨n, rfl⟩
theorem arg_str {x : PV} (h : Arg Tryd.prog 9 x) : ∃ s, x = .str s := by
  rcases h with ⟨fs, ys, hu, rfl, hs⟩ | ⟨hne, hs⟩
  · rw [Tryd.underlying9] at hu; cases hu
  · obtain ⟨s, h⟩ := shp_str Tryd.underlying9 hs
    cases h
    exact ⟨s, rfl⟩
theorem shp_val {xs : List PV} (h : Shp Tryd.prog 36 xs) : ∃ v : Vl, xs = cV.enc v := by
  have h1 := shp_struct Tryd.underlying36 h
  cases h1 with
  | cons t ts xs ys ha hs =>
    obtain ⟨k, rfl⟩ := shp_int Tryd.underlying34 ha
    cases hs with
    | cons t ts xs ys hb hs =>
      obtain ⟨n, rfl⟩ := shp_int Tryd.underlying2 hb
      cases hs with
      | cons t ts xs ys hc hs =>
        obtain ⟨s, rfl⟩ := shp_str Tryd.underlying9 hc
        cases hs
        exact ⟨(k, n, s), rfl⟩
theorem shp_tuple {xs : List PV} (h : Shp Tryd.prog 23 xs) : ∃ l : List Vl, xs = (cR cV).enc l := shp_rows cV Tryd.underlying23 (fun _ h => shp_val h) h
theorem arg_tuple {x : PV} (h : Arg Tryd.prog 23 x) : ∃ l : List Vl, x = .sl (rOf cV l) .non := arg_rows cV Tryd.underlying23 (fun _ h => shp_val h) h
theorem arg_rel {x : PV} (h : Arg Tryd.prog 44 x) : ∃ l : List (List Vl), x = .sl (rOf (cR cV) l) .non := arg_rows (cR cV) Tryd.underlying44 (fun _ h => shp_tuple h) h
theorem arg_types {x : PV} (h : Arg Tryd.prog 58 x) : ∃ l : List Int, x = .sl (rOf cI l) .non := arg_rows cI Tryd.underlying58 (fun _ h => by obtain ⟨n, rfl⟩ := shp_int Tryd.underlying85 h; exact ⟨n, rfl⟩) h
theorem shp_term {xs : List PV} (h : Shp Tryd.prog 38 xs) : ∃ a : Tm, xs = cM.enc a := by
  have h1 := shp_struct Tryd.underlying38 h
  cases h1 with
  | cons t ts xs ys ha hs =>
    obtain ⟨k, rfl⟩ := shp_int Tryd.underlying33 ha
    cases hs with
    | cons t ts xs ys hb hs =>
      obtain ⟨b, rfl⟩ := shp_str Tryd.underlying9 hb
      cases hs with
      | cons t ts xs ys hc hs =>
        obtain ⟨v, rfl⟩ := shp_val hc
        cases hs
        exact ⟨(k, b, v), rfl⟩
theorem arg_terms {x : PV} (h : Arg Tryd.prog 29 x) : ∃ l : List Tm, x = .sl (rOf cM l) .non := arg_rows cM Tryd.underlying29 (fun _ h => shp_term h) h

/-! ### a world that fits -/
def litVals : DataW Unit → Array Value
  | .agg l => (l.map fun d => match d with | .lit (.int k n) => Value.int k n | _ => undef).toArray
  | _ => #[]
noncomputable def low : Nat := (World.holding Tryd.prog default ⟨#[], #[], []⟩).heap.size
noncomputable def laidWorld (os : Os) : World :=
  let w0 := World.holding Tryd.prog os ⟨#[], #[], []⟩
  { w0 with heap := (((w0.heap.modify 4 fun
      | .cells _ t frozen => .cells (litVals Rows.laid_math_bits_deBruijn32tab) t frozen
      | o => o).modify 5 fun
      | .cells _ t frozen => .cells (litVals Rows.laid_math_bits_deBruijn64tab) t frozen
      | o => o).modify 0 fun
      | .cells _ t frozen => .cells (litVals Rows.laid_internal_strconv_uint64pow10) t frozen
      | o => o) }
theorem own : ownKnob Tryd.prog.godebug = none := by kernel_rfl
theorem laid_met (os : Os) (args : Array Value) : laidMet Tryd.prog laidL ((laidWorld os).forCall (fun _ _ => 0) ⟨#[], args, []⟩).memory :=
  laidMet_of_run' 8 (by kernel_rfl) (by kernel_rfl)
end Go.Proofs.YtdfahkeodlfopaaDoor
