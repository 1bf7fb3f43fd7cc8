import Derived.Test.YtdfahkeodlfopaaDoorPvT7
import Derived.Test.YtdfahkeodlfopaaDoorPvB
set_option maxHeartbeats 4000000
set_option maxRecDepth 200000
set_option linter.unusedSimpArgs false
set_option linter.unusedVariables false
namespace Go.Pv
open Go Go.Proofs
noncomputable def G_one2 : GamT := ofL []
theorem gok_one2 (gl : Nat → Option Obj) : GamOk Tryd.prog gl (gam G_one2) := gamOk_nil
noncomputable def L_one2 : LpsT := fun r fr σ => .fail
noncomputable def one2_Tr (n : Int) : Tr PV := Tr.ret (PV.sl [[PV.int .i64 1, PV.int .i64 n, PV.str []]] .non)
theorem one2_T (n : Int) : (tcall tbT G_one2 L_one2 Tryd.f34 [.int .i64 n]).flat = one2_Tr n := by kernel_rfl
noncomputable def F_one2 : List PV → Tr PV | [.int .i64 n] => one2_Tr n | _ => .fail
theorem sim_one2 (gl : Nat → Option Obj) : SimP Tryd.prog gl 34 fun args => (F_one2 args).run := by
  refine SimP.of_flat (G := G_one2) (L := L_one2) tbT_ok (gok_one2 gl ) noMixed Tryd.func34 rfl (by rfl) (by kernel_rfl) (loopOk_none (by kernel_rfl)) ?_
  intro args x h
  unfold F_one2 at h
  split at h
  · exact (congrArg Tr.run (one2_T _)).trans h
  · cases h
noncomputable def G_sclo : GamT := ofL [(16, .pure F_TCmp)]
theorem gok_sclo (gl : Nat → Option Obj) : GamOk Tryd.prog gl (gam G_sclo) := (gamOk_cons (sim_TCmp gl) gamOk_nil)
noncomputable def L_sclo : LpsT := fun r fr σ => .fail
noncomputable def sclo_Tr (a : List (List PV)) (b : List (List PV)) (l : List (List PV)) : Tr PV := Tr.ite (okR cV (lockLL (lockLL a))) (Tr.ite (okR cV (lockLL (lockLL b))) (Tr.ret (PV.bool (iEq (cmpTV (lockLL (lockLL a)) (lockLL (lockLL b))) 0))) Tr.fail) Tr.fail
theorem sclo_T (a : List (List PV)) (b : List (List PV)) (l : List (List PV)) : (tcall tbT G_sclo L_sclo Tryd.f85 [.sl a .non, .sl b .non, .ref [.sl l .non, .fn 16 []]]).flat = sclo_Tr a b l := by kernel_rfl
noncomputable def F_sclo : List PV → Tr PV | [.sl a .non, .sl b .non, .ref [.sl l .non, .fn 16 []]] => sclo_Tr a b l | _ => .fail
theorem sim_sclo (gl : Nat → Option Obj) : SimP Tryd.prog gl 85 fun args => (F_sclo args).run := by
  refine SimP.of_flat (G := G_sclo) (L := L_sclo) tbT_ok (gok_sclo gl ) noMixed Tryd.func85 rfl (by rfl) (by kernel_rfl) (loopOk_none (by kernel_rfl)) ?_
  intro args x h
  unfold F_sclo at h
  split at h
  · exact (congrArg Tr.run (sclo_T _ _ _)).trans h
  · cases h
noncomputable def G_copied : GamT := ofL [(64, .pure F_CloneT)]
theorem gok_copied (gl : Nat → Option Obj) : GamOk Tryd.prog gl (gam G_copied) := (gamOk_cons (sim_CloneT gl) gamOk_nil)
noncomputable def c_copied1 : Code := loopC Tryd.f62 3
def I_copied1 : LI := ⟨19, [3, 6, 7, 8], fun e => match e with | .exit 0 => [3] | _ => []⟩
noncomputable def LI_copied1 : LpsT := fun r fr σ => .fail
noncomputable def copied1_V (vs : List PV) (σ : Store) : Option (PExit × List PV × Store) := lval (lstep tbT G_copied LI_copied1 c_copied1 I_copied1) vs σ
noncomputable def copied1_Tr (out : List (List PV)) (r : List (List PV)) (n : Int) (n2 : Int) : Tr LR := Tr.ite (iLt n2 n)
  (Tr.ite (okPos n2)
    (Tr.ite (okGet [PV.sl [] .full] r (nNat n2))
      (Tr.ite (okNews (lockLL (xRow r (nNat n2) 0)) 3)
        (Tr.ite (okGrow [] (lockLL (xRow r (nNat n2) 0)) 32)
          (Tr.ite (okGrow out [[PV.sl (shutLL (lockLL (xRow r (nNat n2) 0))) .non]] 24)
            (Tr.ite (okNews [[PV.sl (shutLL (lockLL (xRow r (nNat n2) 0))) .non]] 1)
              (Tr.ite (okSize out 1)
                (Tr.ret
                  (LR.next
                    [PV.sl (xApp out [[PV.sl (shutLL (lockLL (xRow r (nNat n2) 0))) .non]]) (.tok 0), PV.sl r .non, PV.int .i64 n,
                      PV.int .i64 (iAdd .i64 n2 1)]
                    (Store.mk [] [(nXs (xApp out [[PV.sl (shutLL (lockLL (xRow r (nNat n2) 0))) .non]]), 1, 23)] [])))
                Tr.fail)
              Tr.fail)
            Tr.fail)
          Tr.fail)
        Tr.fail)
      Tr.fail)
    Tr.fail)
  (Tr.ret (LR.out (.exit 0) [PV.sl out .full] (Store.mk [] [] [])))
theorem copied1_T (out : List (List PV)) (r : List (List PV)) (n : Int) (n2 : Int) : lstep tbT G_copied LI_copied1 c_copied1 I_copied1 [.sl out .full, .sl r .non, .int .i64 n, .int .i64 n2] ⟨[], [], []⟩ = copied1_Tr out r n n2 := by kernel_rfl
theorem copied1_E (out : List (List PV)) (r : List (List PV)) (n : Int) (n2 : Int) : copied1_V [.sl out .full, .sl r .non, .int .i64 n, .int .i64 n2] ⟨[], [], []⟩ = lnext copied1_V (copied1_Tr out r n n2).run := by unfold copied1_V; rw [lval_eq, copied1_T]
noncomputable def copied1_Tr1 (out : List (List PV)) (r : List (List PV)) (n : Int) (n2 : Int) (k : Nat) : Tr LR := Tr.ite (iLt n2 n)
  (Tr.ite (okPos n2)
    (Tr.ite (okGet [PV.sl [] .full] r (nNat n2))
      (Tr.ite (okNews (lockLL (xRow r (nNat n2) 0)) 3)
        (Tr.ite (okGrow [] (lockLL (xRow r (nNat n2) 0)) 32)
          (Tr.ite (okGrow out [[PV.sl (shutLL (lockLL (xRow r (nNat n2) 0))) .non]] 24)
            (Tr.ite (okNews [[PV.sl (shutLL (lockLL (xRow r (nNat n2) 0))) .non]] 1)
              (Tr.ite (okSize out 1)
                (Tr.ite (nEq k (nXs out))
                  (Tr.ret
                    (LR.next
                      [PV.sl (xApp out [[PV.sl (shutLL (lockLL (xRow r (nNat n2) 0))) .non]]) (.tok 0), PV.sl r .non, PV.int .i64 n,
                        PV.int .i64 (iAdd .i64 n2 1)]
                      (Store.mk [] [(nXs (xApp out [[PV.sl (shutLL (lockLL (xRow r (nNat n2) 0))) .non]]), 1, 23)] [])))
                  Tr.fail)
                Tr.fail)
              Tr.fail)
            Tr.fail)
          Tr.fail)
        Tr.fail)
      Tr.fail)
    Tr.fail)
  (Tr.ret (LR.out (.exit 0) [PV.sl out (.tok 0)] (Store.mk [] [(k, 1, 23)] [])))
theorem copied1_T1 (out : List (List PV)) (r : List (List PV)) (n : Int) (n2 : Int) (k : Nat) : lstep tbT G_copied LI_copied1 c_copied1 I_copied1 [.sl out (.tok 0), .sl r .non, .int .i64 n, .int .i64 n2] ⟨[], [(k, 1, 23)], []⟩ = copied1_Tr1 out r n n2 k := by kernel_rfl
theorem copied1_E1 (out : List (List PV)) (r : List (List PV)) (n : Int) (n2 : Int) (k : Nat) : copied1_V [.sl out (.tok 0), .sl r .non, .int .i64 n, .int .i64 n2] ⟨[], [(k, 1, 23)], []⟩ = lnext copied1_V (copied1_Tr1 out r n n2 k).run := by unfold copied1_V; rw [lval_eq, copied1_T1]
noncomputable def copied1_W (out : List (List PV)) (r : List (List PV)) (n : Int) (n2 : Int) : Option (PExit × List PV × Store) := copied1_V [.sl out .full, .sl r .non, .int .i64 n, .int .i64 n2] ⟨[], [], []⟩
noncomputable def copied1_out_0 (out : List (List PV)) (r : List (List PV)) (n : Int) (n2 : Int) : List (List PV) := (gRow (gOut (copied1_W out r n n2) 0))
noncomputable def copied1_is0 (out : List (List PV)) (r : List (List PV)) (n : Int) (n2 : Int) : Bool := isW (copied1_W out r n n2) ((.exit 0), [.sl (copied1_out_0 out r n n2) .full], ⟨[], [], []⟩)
noncomputable def copied1_out_1 (out : List (List PV)) (r : List (List PV)) (n : Int) (n2 : Int) : List (List PV) := (gRow (gOut (copied1_W out r n n2) 0))
noncomputable def copied1_k_1 (out : List (List PV)) (r : List (List PV)) (n : Int) (n2 : Int) : Nat := (gTok (copied1_W out r n n2) 0)
noncomputable def copied1_is1 (out : List (List PV)) (r : List (List PV)) (n : Int) (n2 : Int) : Bool := isW (copied1_W out r n n2) ((.exit 0), [.sl (copied1_out_1 out r n n2) (.tok 0)], ⟨[], [((copied1_k_1 out r n n2), 1, 23)], []⟩)
noncomputable def copied1_prop : List PV → Store → Tr (PExit × List PV × Store) | [.sl out .full, .sl r .non, .int .i64 n, .int .i64 n2], ⟨[], [], []⟩ => .ite (copied1_is0 out r n n2) (.ret ((.exit 0), [.sl (copied1_out_0 out r n n2) .full], ⟨[], [], []⟩)) (.ite (copied1_is1 out r n n2) (.ret ((.exit 0), [.sl (copied1_out_1 out r n n2) (.tok 0)], ⟨[], [((copied1_k_1 out r n n2), 1, 23)], []⟩)) (.fail)) | _, _ => .fail
theorem copied1_ok : ∀ vs σ r, (copied1_prop vs σ).run = some r → copied1_V vs σ = some r := by
  intro vs σ r h
  unfold copied1_prop at h
  split at h
  · exact ite_isW h fun h => ite_isW h fun h => by cases h
  · cases h
theorem loop_copied1 (gl : Nat → Option Obj) : ∀ fr σ e fr' σ', (orc I_copied1 copied1_prop fr σ).run = some (e, fr', σ') → LDoes Tryd.prog gl c_copied1 fr σ e fr' σ' := orc_ok tbT_ok (gok_copied gl ) noMixed (L := LI_copied1) (loopOk_none (by kernel_rfl)) (by kernel_rfl) copied1_ok
noncomputable def L_copied : LpsT := fun r fr σ => bif Nat.beq r 3 then orc I_copied1 copied1_prop fr σ else .fail
noncomputable def copied_Tr (l : List (List PV)) : Tr PV := Tr.ite (copied1_is0 [] l (xLen l) 0) (Tr.ret (PV.sl (shutLL (copied1_out_0 [] l (xLen l) 0)) .non))
  (Tr.ite (copied1_is1 [] l (xLen l) 0) (Tr.ret (PV.sl (shutLL (copied1_out_1 [] l (xLen l) 0)) .non)) Tr.fail)
theorem copied_T (l : List (List PV)) : (tcall tbT G_copied L_copied Tryd.f62 [.sl l .non]).flat = copied_Tr l := by kernel_rfl
noncomputable def copied_W (l : List (List PV)) : Option PV := (copied_Tr l).run
noncomputable def copied_r (l : List (List PV)) : List (List PV) := (gRow (gVal (copied_W l)))
noncomputable def copied_is0 (l : List (List PV)) : Bool := isW (copied_W l) (.sl (copied_r l) .non)
noncomputable def F_copied : List PV → Tr PV | [.sl l .non] => .ite (copied_is0 l) (.ret (.sl (copied_r l) .non)) (.fail) | _ => .fail
theorem sim_copied (gl : Nat → Option Obj) : SimP Tryd.prog gl 62 fun args => (F_copied args).run := by
  refine SimP.of_flat (G := G_copied) (L := L_copied) tbT_ok (gok_copied gl ) noMixed Tryd.func62 rfl (by rfl) (by kernel_rfl) (loopOk_all (L := lps L_copied) [(3, c_copied1)] (by kernel_rfl) (List.forall_mem_cons.2 ⟨fun fr σ e fr' σ' h => loop_copied1 gl  fr σ e fr' σ' h, (List.forall_mem_nil _)⟩)) ?_
  intro args x h
  unfold F_copied at h
  split at h
  · exact (congrArg Tr.run (copied_T _)).trans (ite_isW h fun h => by cases h)
  · cases h
noncomputable def G_Join : GamT := ofL [(94, .store D_WS), (96, .store (D_String 5))]
theorem gok_Join (gl : Nat → Option Obj) : GamOk Tryd.prog gl (gam G_Join) := (gamOk_store (sim_WS gl) (gamOk_store (sim_String gl) gamOk_nil))
noncomputable def c_Join1 : Code := loopC Tryd.f73 12
noncomputable def c_Join2 : Code := loopC Tryd.f73 22
def I_Join1 : LI := ⟨75, [0, 1, 5, 39, 40, 41], fun e => match e with | .exit 1 => [0, 1, 5] | _ => []⟩
noncomputable def LI_Join1 : LpsT := fun r fr σ => .fail
noncomputable def Join1_V (vs : List PV) (σ : Store) : Option (PExit × List PV × Store) := lval (lstep tbT G_Join LI_Join1 c_Join1 I_Join1) vs σ
noncomputable def Join1_Tr (r : List (List PV)) (s : List UInt8) (n : Int) (r2 : List (List PV)) (n2 : Int) (n3 : Int) : Tr LR := Tr.ite (iLt n3 n2)
  (Tr.ite (okPos n3)
    (Tr.ite (okGet [PV.str []] r2 (nNat n3))
      (Tr.ite (iLt (iSub .i64 9223372036854775807 n) (sLen (xStr r2 (nNat n3) 0))) Tr.fail
        (Tr.ret
          (LR.next
            [PV.sl r .non, PV.str s, PV.int .i64 (iAdd .i64 n (sLen (xStr r2 (nNat n3) 0))), PV.sl r2 .non, PV.int .i64 n2,
              PV.int .i64 (iAdd .i64 n3 1)]
            (Store.mk [] [] []))))
      Tr.fail)
    Tr.fail)
  (Tr.ret (LR.out (.exit 1) [PV.sl r .non, PV.str s, PV.int .i64 n] (Store.mk [] [] [])))
theorem Join1_T (r : List (List PV)) (s : List UInt8) (n : Int) (r2 : List (List PV)) (n2 : Int) (n3 : Int) : lstep tbT G_Join LI_Join1 c_Join1 I_Join1 [.sl r .non, .str s, .int .i64 n, .sl r2 .non, .int .i64 n2, .int .i64 n3] ⟨[], [], []⟩ = Join1_Tr r s n r2 n2 n3 := by kernel_rfl
theorem Join1_E (r : List (List PV)) (s : List UInt8) (n : Int) (r2 : List (List PV)) (n2 : Int) (n3 : Int) : Join1_V [.sl r .non, .str s, .int .i64 n, .sl r2 .non, .int .i64 n2, .int .i64 n3] ⟨[], [], []⟩ = lnext Join1_V (Join1_Tr r s n r2 n2 n3).run := by unfold Join1_V; rw [lval_eq, Join1_T]
noncomputable def Join1_W (r : List (List PV)) (s : List UInt8) (n : Int) (r2 : List (List PV)) (n2 : Int) (n3 : Int) : Option (PExit × List PV × Store) := Join1_V [.sl r .non, .str s, .int .i64 n, .sl r2 .non, .int .i64 n2, .int .i64 n3] ⟨[], [], []⟩
noncomputable def Join1_r (r : List (List PV)) (s : List UInt8) (n : Int) (r2 : List (List PV)) (n2 : Int) (n3 : Int) : List (List PV) := (gRow (gOut (Join1_W r s n r2 n2 n3) 0))
noncomputable def Join1_s (r : List (List PV)) (s : List UInt8) (n : Int) (r2 : List (List PV)) (n2 : Int) (n3 : Int) : List UInt8 := (gStr (gOut (Join1_W r s n r2 n2 n3) 1))
noncomputable def Join1_n (r : List (List PV)) (s : List UInt8) (n : Int) (r2 : List (List PV)) (n2 : Int) (n3 : Int) : Int := (gInt (gOut (Join1_W r s n r2 n2 n3) 2))
noncomputable def Join1_is0 (r : List (List PV)) (s : List UInt8) (n : Int) (r2 : List (List PV)) (n2 : Int) (n3 : Int) : Bool := isW (Join1_W r s n r2 n2 n3) ((.exit 1), [.sl (Join1_r r s n r2 n2 n3) .non, .str (Join1_s r s n r2 n2 n3), .int .i64 (Join1_n r s n r2 n2 n3)], ⟨[], [], []⟩)
noncomputable def Join1_prop : List PV → Store → Tr (PExit × List PV × Store) | [.sl r .non, .str s, .int .i64 n, .sl r2 .non, .int .i64 n2, .int .i64 n3], ⟨[], [], []⟩ => .ite (Join1_is0 r s n r2 n2 n3) (.ret ((.exit 1), [.sl (Join1_r r s n r2 n2 n3) .non, .str (Join1_s r s n r2 n2 n3), .int .i64 (Join1_n r s n r2 n2 n3)], ⟨[], [], []⟩)) (.fail) | _, _ => .fail
theorem Join1_ok : ∀ vs σ r, (Join1_prop vs σ).run = some r → Join1_V vs σ = some r := by
  intro vs σ r h
  unfold Join1_prop at h
  split at h
  · exact ite_isW h fun h => by cases h
  · cases h
theorem loop_Join1 (gl : Nat → Option Obj) : ∀ fr σ e fr' σ', (orc I_Join1 Join1_prop fr σ).run = some (e, fr', σ') → LDoes Tryd.prog gl c_Join1 fr σ e fr' σ' := orc_ok tbT_ok (gok_Join gl ) noMixed (L := LI_Join1) (loopOk_none (by kernel_rfl)) (by kernel_rfl) Join1_ok
def I_Join2 : LI := ⟨75, [1, 8, 63, 64, 65], fun e => match e with | .exit 3 => [8] | _ => []⟩
noncomputable def LI_Join2 : LpsT := fun r fr σ => .fail
noncomputable def Join2_V (vs : List PV) (σ : Store) : Option (PExit × List PV × Store) := lval (lstep tbT G_Join LI_Join2 c_Join2 I_Join2) vs σ
noncomputable def Join2_prop : List PV → Store → Tr (PExit × List PV × Store) | _, _ => .fail
theorem Join2_ok : ∀ vs σ r, (Join2_prop vs σ).run = some r → Join2_V vs σ = some r := by
  intro vs σ r h
  unfold Join2_prop at h
  split at h
  · cases h
theorem loop_Join2 (gl : Nat → Option Obj) : ∀ fr σ e fr' σ', (orc I_Join2 Join2_prop fr σ).run = some (e, fr', σ') → LDoes Tryd.prog gl c_Join2 fr σ e fr' σ' := orc_ok tbT_ok (gok_Join gl ) noMixed (L := LI_Join2) (loopOk_none (by kernel_rfl)) (by kernel_rfl) Join2_ok
noncomputable def L_Join : LpsT := fun r fr σ => bif Nat.beq r 12 then orc I_Join1 Join1_prop fr σ else bif Nat.beq r 22 then orc I_Join2 Join2_prop fr σ else .fail
noncomputable def Join_Tr (v : List (List PV)) (v2 : List UInt8) : Tr PV := Tr.ite (iEq (xLen v) 0) (Tr.ret (PV.str []))
  (Tr.ite (iEq (xLen v) 1) (Tr.ite (okPos 0) (Tr.ite (okGet [PV.str []] v (nNat 0)) (Tr.ret (PV.str (xStr v (nNat 0) 0))) Tr.fail) Tr.fail)
    (Tr.ite (iLt 0 (sLen v2))
      (Tr.ite (iEq (iSub .i64 (xLen v) 1) 0) Tr.fail
        (Tr.ite (iLe (iQuo .i64 9223372036854775807 (iSub .i64 (xLen v) 1)) (sLen v2)) Tr.fail
          (Tr.ite (Join1_is0 v v2 (iAdd .i64 0 (iMul .i64 (sLen v2) (iSub .i64 (xLen v) 1))) v (xLen v) 0) Tr.fail Tr.fail)))
      (Tr.ite (Join1_is0 v v2 0 v (xLen v) 0) Tr.fail Tr.fail)))
theorem Join_T (v : List (List PV)) (v2 : List UInt8) : (tcall tbT G_Join L_Join Tryd.f73 [.sl v .non, .str v2]).flat = Join_Tr v v2 := by kernel_rfl
noncomputable def Join_W (v : List (List PV)) (v2 : List UInt8) : Option PV := (Join_Tr v v2).run
noncomputable def Join_s (v : List (List PV)) (v2 : List UInt8) : List UInt8 := (gStr (gVal (Join_W v v2)))
noncomputable def Join_is0 (v : List (List PV)) (v2 : List UInt8) : Bool := isW (Join_W v v2) (.str (Join_s v v2))
noncomputable def F_Join : List PV → Tr PV | [.sl v .non, .str v2] => .ite (Join_is0 v v2) (.ret (.str (Join_s v v2))) (.fail) | _ => .fail
theorem sim_Join (gl : Nat → Option Obj) : SimP Tryd.prog gl 73 fun args => (F_Join args).run := by
  refine SimP.of_flat (G := G_Join) (L := L_Join) tbT_ok (gok_Join gl ) noMixed Tryd.func73 rfl (by rfl) (by kernel_rfl) (loopOk_all (L := lps L_Join) [(12, c_Join1), (22, c_Join2)] (by kernel_rfl) (List.forall_mem_cons.2 ⟨fun fr σ e fr' σ' h => loop_Join1 gl  fr σ e fr' σ' h, (List.forall_mem_cons.2 ⟨fun fr σ e fr' σ' h => loop_Join2 gl  fr σ e fr' σ' h, (List.forall_mem_nil _)⟩)⟩)) ?_
  intro args x h
  unfold F_Join at h
  split at h
  · exact (congrArg Tr.run (Join_T _ _)).trans (ite_isW h fun h => by cases h)
  · cases h
noncomputable def G_TText : GamT := ofL [(36, .pure F_TCheck), (72, .pure F_Text), (73, .pure F_Join)]
theorem gok_TText (gl : Nat → Option Obj) (hg : GlPow gl) : GamOk Tryd.prog gl (gam G_TText) := (gamOk_cons (sim_TCheck gl) (gamOk_cons (sim_Text hg) (gamOk_cons (sim_Join gl) gamOk_nil)))
noncomputable def c_TText1 : Code := loopC Tryd.f53 6
def I_TText1 : LI := ⟨35, [5, 15, 16, 17], fun e => match e with | .exit 0 => [5] | _ => []⟩
noncomputable def LI_TText1 : LpsT := fun r fr σ => .fail
noncomputable def TText1_V (vs : List PV) (σ : Store) : Option (PExit × List PV × Store) := lval (lstep tbT G_TText LI_TText1 c_TText1 I_TText1) vs σ
noncomputable def TText1_Tr (l : List (List PV)) (r : List (List PV)) (n : Int) (n2 : Int) : Tr LR := Tr.ite (iLt n2 n)
  (Tr.ite (okPos n2)
    (Tr.ite (okGet [PV.int .i64 0, PV.int .i64 0, PV.str []] r (nNat n2))
      (Tr.ite (okGrow l [[PV.str (textW (xInt r (nNat n2) 0) (xInt r (nNat n2) 1) (xStr r (nNat n2) 2))]] 16)
        (Tr.ite (okNews [[PV.str (textW (xInt r (nNat n2) 0) (xInt r (nNat n2) 1) (xStr r (nNat n2) 2))]] 1)
          (Tr.ite (okSize l 1)
            (Tr.ret
              (LR.next
                [PV.sl (dropPLL 0 (xApp l [[PV.str (textW (xInt r (nNat n2) 0) (xInt r (nNat n2) 1) (xStr r (nNat n2) 2))]])) (.tok 0), PV.sl (dropPLL 0 r) .non,
                  PV.int .i64 n, PV.int .i64 (iAdd .i64 n2 1)]
                (Store.mk [] [(nXs (xApp l [[PV.str (textW (xInt r (nNat n2) 0) (xInt r (nNat n2) 1) (xStr r (nNat n2) 2))]]), 1, 9)] [])))
            Tr.fail)
          Tr.fail)
        Tr.fail)
      Tr.fail)
    Tr.fail)
  (Tr.ret (LR.out (.exit 0) [PV.sl l .full] (Store.mk [] [] [])))
theorem TText1_T (l : List (List PV)) (r : List (List PV)) (n : Int) (n2 : Int) : lstep tbT G_TText LI_TText1 c_TText1 I_TText1 [.sl l .full, .sl r .non, .int .i64 n, .int .i64 n2] ⟨[], [], []⟩ = TText1_Tr l r n n2 := by kernel_rfl
theorem TText1_E (l : List (List PV)) (r : List (List PV)) (n : Int) (n2 : Int) : TText1_V [.sl l .full, .sl r .non, .int .i64 n, .int .i64 n2] ⟨[], [], []⟩ = lnext TText1_V (TText1_Tr l r n n2).run := by unfold TText1_V; rw [lval_eq, TText1_T]
noncomputable def TText1_Tr1 (l : List (List PV)) (r : List (List PV)) (n : Int) (n2 : Int) (k : Nat) : Tr LR := Tr.ite (iLt n2 n)
  (Tr.ite (okPos n2)
    (Tr.ite (okGet [PV.int .i64 0, PV.int .i64 0, PV.str []] r (nNat n2))
      (Tr.ite (okGrow l [[PV.str (textW (xInt r (nNat n2) 0) (xInt r (nNat n2) 1) (xStr r (nNat n2) 2))]] 16)
        (Tr.ite (okNews [[PV.str (textW (xInt r (nNat n2) 0) (xInt r (nNat n2) 1) (xStr r (nNat n2) 2))]] 1)
          (Tr.ite (okSize l 1)
            (Tr.ite (nEq k (nXs l))
              (Tr.ret
                (LR.next
                  [PV.sl (dropPLL 0 (xApp l [[PV.str (textW (xInt r (nNat n2) 0) (xInt r (nNat n2) 1) (xStr r (nNat n2) 2))]])) (.tok 0), PV.sl (dropPLL 0 r) .non,
                    PV.int .i64 n, PV.int .i64 (iAdd .i64 n2 1)]
                  (Store.mk [] [(nXs (xApp l [[PV.str (textW (xInt r (nNat n2) 0) (xInt r (nNat n2) 1) (xStr r (nNat n2) 2))]]), 1, 9)] [])))
              Tr.fail)
            Tr.fail)
          Tr.fail)
        Tr.fail)
      Tr.fail)
    Tr.fail)
  (Tr.ret (LR.out (.exit 0) [PV.sl l (.tok 0)] (Store.mk [] [(k, 1, 9)] [])))
theorem TText1_T1 (l : List (List PV)) (r : List (List PV)) (n : Int) (n2 : Int) (k : Nat) : lstep tbT G_TText LI_TText1 c_TText1 I_TText1 [.sl l (.tok 0), .sl r .non, .int .i64 n, .int .i64 n2] ⟨[], [(k, 1, 9)], []⟩ = TText1_Tr1 l r n n2 k := by kernel_rfl
theorem TText1_E1 (l : List (List PV)) (r : List (List PV)) (n : Int) (n2 : Int) (k : Nat) : TText1_V [.sl l (.tok 0), .sl r .non, .int .i64 n, .int .i64 n2] ⟨[], [(k, 1, 9)], []⟩ = lnext TText1_V (TText1_Tr1 l r n n2 k).run := by unfold TText1_V; rw [lval_eq, TText1_T1]
noncomputable def TText1_W (l : List (List PV)) (r : List (List PV)) (n : Int) (n2 : Int) : Option (PExit × List PV × Store) := TText1_V [.sl l .full, .sl r .non, .int .i64 n, .int .i64 n2] ⟨[], [], []⟩
noncomputable def TText1_l_0 (l : List (List PV)) (r : List (List PV)) (n : Int) (n2 : Int) : List (List PV) := (gRow (gOut (TText1_W l r n n2) 0))
noncomputable def TText1_is0 (l : List (List PV)) (r : List (List PV)) (n : Int) (n2 : Int) : Bool := isW (TText1_W l r n n2) ((.exit 0), [.sl (TText1_l_0 l r n n2) .full], ⟨[], [], []⟩)
noncomputable def TText1_l_1 (l : List (List PV)) (r : List (List PV)) (n : Int) (n2 : Int) : List (List PV) := (gRow (gOut (TText1_W l r n n2) 0))
noncomputable def TText1_k_1 (l : List (List PV)) (r : List (List PV)) (n : Int) (n2 : Int) : Nat := (gTok (TText1_W l r n n2) 0)
noncomputable def TText1_is1 (l : List (List PV)) (r : List (List PV)) (n : Int) (n2 : Int) : Bool := isW (TText1_W l r n n2) ((.exit 0), [.sl (TText1_l_1 l r n n2) (.tok 0)], ⟨[], [((TText1_k_1 l r n n2), 1, 9)], []⟩)
noncomputable def TText1_prop : List PV → Store → Tr (PExit × List PV × Store) | [.sl l .full, .sl r .non, .int .i64 n, .int .i64 n2], ⟨[], [], []⟩ => .ite (TText1_is0 l r n n2) (.ret ((.exit 0), [.sl (TText1_l_0 l r n n2) .full], ⟨[], [], []⟩)) (.ite (TText1_is1 l r n n2) (.ret ((.exit 0), [.sl (TText1_l_1 l r n n2) (.tok 0)], ⟨[], [((TText1_k_1 l r n n2), 1, 9)], []⟩)) (.fail)) | _, _ => .fail
theorem TText1_ok : ∀ vs σ r, (TText1_prop vs σ).run = some r → TText1_V vs σ = some r := by
  intro vs σ r h
  unfold TText1_prop at h
  split at h
  · exact ite_isW h fun h => ite_isW h fun h => by cases h
  · cases h
theorem loop_TText1 (gl : Nat → Option Obj) (hg : GlPow gl) : ∀ fr σ e fr' σ', (orc I_TText1 TText1_prop fr σ).run = some (e, fr', σ') → LDoes Tryd.prog gl c_TText1 fr σ e fr' σ' := orc_ok tbT_ok (gok_TText gl hg ) noMixed (L := LI_TText1) (loopOk_none (by kernel_rfl)) (by kernel_rfl) TText1_ok
noncomputable def L_TText : LpsT := fun r fr σ => bif Nat.beq r 6 then orc I_TText1 TText1_prop fr σ else .fail
noncomputable def TText_Tr (t : List (List PV)) : Tr PV := Tr.ite (okR cV (lockLL t))
  (Tr.ite (iNe (chkT (lockLL t)) 0) (Tr.ret (PV.tup [PV.str [], PV.int .i64 (chkT (lockLL t))]))
    (Tr.ite (TText1_is0 [] t (xLen t) 0)
      (Tr.ite (Join_is0 (lockLL (TText1_l_0 [] t (xLen t) 0)) [44, 32])
        (Tr.ite (okApp [40] (Join_s (lockLL (TText1_l_0 [] t (xLen t) 0)) [44, 32]))
          (Tr.ite (okApp (sApp [40] (Join_s (lockLL (TText1_l_0 [] t (xLen t) 0)) [44, 32])) [41])
            (Tr.ret (PV.tup [PV.str (sApp (sApp [40] (Join_s (lockLL (TText1_l_0 [] t (xLen t) 0)) [44, 32])) [41]), PV.int .i64 0])) Tr.fail)
          Tr.fail)
        Tr.fail)
      (Tr.ite (TText1_is1 [] t (xLen t) 0)
        (Tr.ite (Join_is0 (lockLL (TText1_l_1 [] t (xLen t) 0)) [44, 32])
          (Tr.ite (okApp [40] (Join_s (lockLL (TText1_l_1 [] t (xLen t) 0)) [44, 32]))
            (Tr.ite (okApp (sApp [40] (Join_s (lockLL (TText1_l_1 [] t (xLen t) 0)) [44, 32])) [41])
              (Tr.ret (PV.tup [PV.str (sApp (sApp [40] (Join_s (lockLL (TText1_l_1 [] t (xLen t) 0)) [44, 32])) [41]), PV.int .i64 0])) Tr.fail)
            Tr.fail)
          Tr.fail)
        Tr.fail)))
  Tr.fail
theorem TText_T (t : List (List PV)) : (tcall tbT G_TText L_TText Tryd.f53 [.sl t .non]).flat = TText_Tr t := by kernel_rfl
noncomputable def TText_W (t : List (List PV)) : Option PV := (TText_Tr t).run
noncomputable def TText_s (t : List (List PV)) : List UInt8 := (gStr (gAt (gCs (gVal (TText_W t))) 0))
noncomputable def TText_n (t : List (List PV)) : Int := (gInt (gAt (gCs (gVal (TText_W t))) 1))
noncomputable def TText_is0 (t : List (List PV)) : Bool := isW (TText_W t) (.tup [.str (TText_s t), .int .i64 (TText_n t)])
noncomputable def F_TText : List PV → Tr PV | [.sl t .non] => .ite (TText_is0 t) (.ret (.tup [.str (TText_s t), .int .i64 (TText_n t)])) (.fail) | _ => .fail
theorem sim_TText (gl : Nat → Option Obj) (hg : GlPow gl) : SimP Tryd.prog gl 53 fun args => (F_TText args).run := by
  refine SimP.of_flat (G := G_TText) (L := L_TText) tbT_ok (gok_TText gl hg ) noMixed Tryd.func53 rfl (by rfl) (by kernel_rfl) (loopOk_all (L := lps L_TText) [(6, c_TText1)] (by kernel_rfl) (List.forall_mem_cons.2 ⟨fun fr σ e fr' σ' h => loop_TText1 gl hg  fr σ e fr' σ' h, (List.forall_mem_nil _)⟩)) ?_
  intro args x h
  unfold F_TText at h
  split at h
  · exact (congrArg Tr.run (TText_T _)).trans (ite_isW h fun h => by cases h)
  · cases h
end Go.Pv
