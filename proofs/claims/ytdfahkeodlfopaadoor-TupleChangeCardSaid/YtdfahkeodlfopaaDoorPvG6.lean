/- Part 6 of the proof: pure values for the machine's values, what functions compute over them, and laws of what is computed. Conditions: none beyond each theorem's own premises. -/
import Derived.Test.YtdfahkeodlfopaaDoorPvG5
import Derived.Shelf.Spec.SlicesGrow
import Derived.Test.YtdfahkeodlfopaaDoorCards
import Derived.Test.YtdfahkeodlfopaaDoorTie
set_option maxHeartbeats 4000000
set_option maxRecDepth 200000
set_option linter.unusedSimpArgs false
set_option linter.unusedVariables false
namespace Go.Pv
open Go Go.Proofs
noncomputable def G_one2 : GamT := ofL []
theorem gok_one2 (gl : Nat → Option Obj) : GamOk Tryd.prog gl (gam G_one2) := gamOk_nil
noncomputable def L_one2 : LpsT := fun r fr σ => .fail
noncomputable def one2_Tr (n : Int) : Tr PV := Tr.ret (PV.sl [[PV.int .i64 1, PV.int .i64 n, PV.str []]] .non)
theorem one2_T (n : Int) : (tcall tbT G_one2 L_one2 Tryd.f34 [.int .i64 n]).flat = one2_Tr n := by kernel_rfl
noncomputable def F_one2 : List PV → Tr PV | [.int .i64 n] => one2_Tr n | _ => .fail
theorem sim_one2 (gl : Nat → Option Obj) : SimP Tryd.prog gl 34 fun args => (F_one2 args).run := by
  refine SimP.of_flat (G := G_one2) (L := L_one2) tbT_ok (gok_one2 gl ) noMixed Tryd.func34 rfl (by rfl) (by kernel_rfl) (loopOk_none (by kernel_rfl)) ?_
  intro args x h
  unfold F_one2 at h
  split at h
  · exact (congrArg Tr.run (one2_T _)).trans h
  · cases h
noncomputable def G_sclo : GamT := ofL [(16, .pure F_TCmp)]
theorem gok_sclo (gl : Nat → Option Obj) : GamOk Tryd.prog gl (gam G_sclo) := (gamOk_cons (sim_TCmp gl) gamOk_nil)
noncomputable def L_sclo : LpsT := fun r fr σ => .fail
noncomputable def sclo_Tr (a : List (List PV)) (b : List (List PV)) (l : List (List PV)) : Tr PV := Tr.ite (okR cV (lockLL (lockLL a))) (Tr.ite (okR cV (lockLL (lockLL b))) (Tr.ret (PV.bool (iEq (cmpTV (lockLL (lockLL a)) (lockLL (lockLL b))) 0))) Tr.fail) Tr.fail
theorem sclo_T (a : List (List PV)) (b : List (List PV)) (l : List (List PV)) : (tcall tbT G_sclo L_sclo Tryd.f85 [.sl a .non, .sl b .non, .ref [.sl l .non, .fn 16 []]]).flat = sclo_Tr a b l := by kernel_rfl
noncomputable def F_sclo : List PV → Tr PV | [.sl a .non, .sl b .non, .ref [.sl l .non, .fn 16 []]] => sclo_Tr a b l | _ => .fail
theorem sim_sclo (gl : Nat → Option Obj) : SimP Tryd.prog gl 85 fun args => (F_sclo args).run := by
  refine SimP.of_flat (G := G_sclo) (L := L_sclo) tbT_ok (gok_sclo gl ) noMixed Tryd.func85 rfl (by rfl) (by kernel_rfl) (loopOk_none (by kernel_rfl)) ?_
  intro args x h
  unfold F_sclo at h
  split at h
  · exact (congrArg Tr.run (sclo_T _ _ _)).trans h
  · cases h
noncomputable def G_copied : GamT := ofL [(64, .pure F_CloneT)]
theorem gok_copied (gl : Nat → Option Obj) : GamOk Tryd.prog gl (gam G_copied) := (gamOk_cons (sim_CloneT gl) gamOk_nil)
noncomputable def c_copied1 : Code := loopC Tryd.f62 3
def I_copied1 : LI := ⟨19, [3, 6, 7, 8], fun e => match e with | .exit 0 => [3] | _ => [], true⟩
noncomputable def LI_copied1 : LpsT := fun r fr σ => .fail
noncomputable def copied1_V (vs : List PV) (σ : Store) : Option (PExit × List PV × Store) := lval (lstep tbT G_copied LI_copied1 c_copied1 I_copied1) vs σ
noncomputable def copied1_Tr (out : List (List PV)) (r : List (List PV)) (n : Int) (n2 : Int) : Tr LR := Tr.ite (iLt n2 n) (Tr.ite (okPos n2) (Tr.ite (okGet [PV.sl [] .full] r (nNat n2)) (Tr.ite (okNews (lockLL (xRow r (nNat n2) 0)) 3) (Tr.ite (okGrow [] (lockLL (xRow r (nNat n2) 0)) 32) (Tr.ite (okGrow out [[PV.sl (shutLL (lockLL (xRow r (nNat n2) 0))) .non]] 24) (Tr.ite (okNews [[PV.sl (shutLL (lockLL (xRow r (nNat n2) 0))) .non]] 1) (Tr.ite (okSize out 1) (Tr.ret (LR.next [PV.sl (xApp out [[PV.sl (shutLL (lockLL (xRow r (nNat n2) 0))) .non]]) (.tok 0), PV.sl r .non, PV.int .i64 n, PV.int .i64 (iAdd .i64 n2 1)] (Store.mk [] [(nXs (xApp out [[PV.sl (shutLL (lockLL (xRow r (nNat n2) 0))) .non]]), 1, 23)] []))) Tr.fail) Tr.fail) Tr.fail) Tr.fail) Tr.fail) Tr.fail) Tr.fail) (Tr.ret (LR.out (.exit 0) [PV.sl out .full] (Store.mk [] [] [])))
theorem copied1_T (out : List (List PV)) (r : List (List PV)) (n : Int) (n2 : Int) : lstep tbT G_copied LI_copied1 c_copied1 I_copied1 [.sl out .full, .sl r .non, .int .i64 n, .int .i64 n2] ⟨[], [], []⟩ = copied1_Tr out r n n2 := by kernel_rfl
theorem copied1_E (out : List (List PV)) (r : List (List PV)) (n : Int) (n2 : Int) : copied1_V [.sl out .full, .sl r .non, .int .i64 n, .int .i64 n2] ⟨[], [], []⟩ = lnext copied1_V (copied1_Tr out r n n2).run := by unfold copied1_V; rw [lval_eq, copied1_T]
noncomputable def copied1_Tr1 (out : List (List PV)) (r : List (List PV)) (n : Int) (n2 : Int) (k : Nat) : Tr LR := Tr.ite (iLt n2 n) (Tr.ite (okPos n2) (Tr.ite (okGet [PV.sl [] .full] r (nNat n2)) (Tr.ite (okNews (lockLL (xRow r (nNat n2) 0)) 3) (Tr.ite (okGrow [] (lockLL (xRow r (nNat n2) 0)) 32) (Tr.ite (okGrow out [[PV.sl (shutLL (lockLL (xRow r (nNat n2) 0))) .non]] 24) (Tr.ite (okNews [[PV.sl (shutLL (lockLL (xRow r (nNat n2) 0))) .non]] 1) (Tr.ite (okSize out 1) (Tr.ite (nEq k (nXs out)) (Tr.ret (LR.next [PV.sl (xApp out [[PV.sl (shutLL (lockLL (xRow r (nNat n2) 0))) .non]]) (.tok 0), PV.sl r .non, PV.int .i64 n, PV.int .i64 (iAdd .i64 n2 1)] (Store.mk [] [(nXs (xApp out [[PV.sl (shutLL (lockLL (xRow r (nNat n2) 0))) .non]]), 1, 23)] []))) Tr.fail) Tr.fail) Tr.fail) Tr.fail) Tr.fail) Tr.fail) Tr.fail) Tr.fail) (Tr.ret (LR.out (.exit 0) [PV.sl out (.tok 0)] (Store.mk [] [(k, 1, 23)] [])))
theorem copied1_T1 (out : List (List PV)) (r : List (List PV)) (n : Int) (n2 : Int) (k : Nat) : lstep tbT G_copied LI_copied1 c_copied1 I_copied1 [.sl out (.tok 0), .sl r .non, .int .i64 n, .int .i64 n2] ⟨[], [(k, 1, 23)], []⟩ = copied1_Tr1 out r n n2 k := by kernel_rfl
theorem copied1_E1 (out : List (List PV)) (r : List (List PV)) (n : Int) (n2 : Int) (k : Nat) : copied1_V [.sl out (.tok 0), .sl r .non, .int .i64 n, .int .i64 n2] ⟨[], [(k, 1, 23)], []⟩ = lnext copied1_V (copied1_Tr1 out r n n2 k).run := by unfold copied1_V; rw [lval_eq, copied1_T1]
noncomputable def copied1_W (out : List (List PV)) (r : List (List PV)) (n : Int) (n2 : Int) : Option (PExit × List PV × Store) := copied1_V [.sl out .full, .sl r .non, .int .i64 n, .int .i64 n2] ⟨[], [], []⟩
noncomputable def copied1_out_0 (out : List (List PV)) (r : List (List PV)) (n : Int) (n2 : Int) : List (List PV) := (gRow (gOut (copied1_W out r n n2) 0))
noncomputable def copied1_is0 (out : List (List PV)) (r : List (List PV)) (n : Int) (n2 : Int) : Bool := isW (copied1_W out r n n2) ((.exit 0), [.sl (copied1_out_0 out r n n2) .full], ⟨[], [], []⟩)
noncomputable def copied1_out_1 (out : List (List PV)) (r : List (List PV)) (n : Int) (n2 : Int) : List (List PV) := (gRow (gOut (copied1_W out r n n2) 0))
noncomputable def copied1_k_1 (out : List (List PV)) (r : List (List PV)) (n : Int) (n2 : Int) : Nat := (gTok (copied1_W out r n n2) 0)
noncomputable def copied1_is1 (out : List (List PV)) (r : List (List PV)) (n : Int) (n2 : Int) : Bool := isW (copied1_W out r n n2) ((.exit 0), [.sl (copied1_out_1 out r n n2) (.tok 0)], ⟨[], [((copied1_k_1 out r n n2), 1, 23)], []⟩)
noncomputable def copied1_prop : List PV → Store → Tr (PExit × List PV × Store) | [.sl out .full, .sl r .non, .int .i64 n, .int .i64 n2], ⟨[], [], []⟩ => .ite (copied1_is0 out r n n2) (.ret ((.exit 0), [.sl (copied1_out_0 out r n n2) .full], ⟨[], [], []⟩)) (.ite (copied1_is1 out r n n2) (.ret ((.exit 0), [.sl (copied1_out_1 out r n n2) (.tok 0)], ⟨[], [((copied1_k_1 out r n n2), 1, 23)], []⟩)) (.fail)) | _, _ => .fail
theorem copied1_ok : ∀ vs σ r, (copied1_prop vs σ).run = some r → copied1_V vs σ = some r := by
  intro vs σ r h
  unfold copied1_prop at h
  split at h
  · exact ite_isW h fun h => ite_isW h fun h => by cases h
  · cases h
theorem loop_copied1 (gl : Nat → Option Obj) : ∀ fr σ e fr' σ', (orc I_copied1 copied1_prop fr σ).run = some (e, fr', σ') → LDoes Tryd.prog gl c_copied1 fr σ e fr' σ' := orc_ok tbT_ok (gok_copied gl ) noMixed (L := LI_copied1) (loopOk_none (by kernel_rfl)) (by kernel_rfl) copied1_ok
noncomputable def L_copied : LpsT := fun r fr σ => bif Nat.beq r 3 then orc I_copied1 copied1_prop fr σ else .fail
noncomputable def copied_Tr (l : List (List PV)) : Tr PV := Tr.ite (copied1_is0 [] l (xLen l) 0) (Tr.ret (PV.sl (shutLL (copied1_out_0 [] l (xLen l) 0)) .non)) (Tr.ite (copied1_is1 [] l (xLen l) 0) (Tr.ret (PV.sl (shutLL (copied1_out_1 [] l (xLen l) 0)) .non)) Tr.fail)
theorem copied_T (l : List (List PV)) : (tcall tbT G_copied L_copied Tryd.f62 [.sl l .non]).flat = copied_Tr l := by kernel_rfl
noncomputable def copied_W (l : List (List PV)) : Option PV := (copied_Tr l).run
noncomputable def copied_r (l : List (List PV)) : List (List PV) := (gRow (gVal (copied_W l)))
noncomputable def copied_is0 (l : List (List PV)) : Bool := isW (copied_W l) (.sl (copied_r l) .non)
noncomputable def F_copied : List PV → Tr PV | [.sl l .non] => .ite (copied_is0 l) (.ret (.sl (copied_r l) .non)) (.fail) | _ => .fail
theorem sim_copied (gl : Nat → Option Obj) : SimP Tryd.prog gl 62 fun args => (F_copied args).run := by
  refine SimP.of_flat (G := G_copied) (L := L_copied) tbT_ok (gok_copied gl ) noMixed Tryd.func62 rfl (by rfl) (by kernel_rfl) (loopOk_all (L := lps L_copied) [(3, c_copied1)] (by kernel_rfl) (List.forall_mem_cons.2 ⟨fun fr σ e fr' σ' h => loop_copied1 gl  fr σ e fr' σ' h, (List.forall_mem_nil _)⟩)) ?_
  intro args x h
  unfold F_copied at h
  split at h
  · exact (congrArg Tr.run (copied_T _)).trans (ite_isW h fun h => by cases h)
  · cases h
noncomputable def G_Join : GamT := ofL [(94, .store D_WS), (96, .store (D_String 5))]
theorem gok_Join (gl : Nat → Option Obj) : GamOk Tryd.prog gl (gam G_Join) := (gamOk_store (sim_WS gl) (gamOk_store (sim_String gl) gamOk_nil))
noncomputable def c_Join1 : Code := loopC Tryd.f73 12
noncomputable def c_Join2 : Code := loopC Tryd.f73 22
def I_Join1 : LI := ⟨75, [0, 1, 5, 39, 40, 41], fun e => match e with | .exit 1 => [0, 1, 5] | _ => [], true⟩
noncomputable def LI_Join1 : LpsT := fun r fr σ => .fail
noncomputable def Join1_V (vs : List PV) (σ : Store) : Option (PExit × List PV × Store) := lval (lstep tbT G_Join LI_Join1 c_Join1 I_Join1) vs σ
noncomputable def Join1_Tr (r : List (List PV)) (s : List UInt8) (n : Int) (r2 : List (List PV)) (n2 : Int) (n3 : Int) : Tr LR := Tr.ite (iLt n3 n2) (Tr.ite (okPos n3) (Tr.ite (okGet [PV.str []] r2 (nNat n3)) (Tr.ite (iLt (iSub .i64 9223372036854775807 n) (sLen (xStr r2 (nNat n3) 0))) Tr.fail (Tr.ret (LR.next [PV.sl r .non, PV.str s, PV.int .i64 (iAdd .i64 n (sLen (xStr r2 (nNat n3) 0))), PV.sl r2 .non, PV.int .i64 n2, PV.int .i64 (iAdd .i64 n3 1)] (Store.mk [] [] [])))) Tr.fail) Tr.fail) (Tr.ret (LR.out (.exit 1) [PV.sl r .non, PV.str s, PV.int .i64 n] (Store.mk [] [] [])))
theorem Join1_T (r : List (List PV)) (s : List UInt8) (n : Int) (r2 : List (List PV)) (n2 : Int) (n3 : Int) : lstep tbT G_Join LI_Join1 c_Join1 I_Join1 [.sl r .non, .str s, .int .i64 n, .sl r2 .non, .int .i64 n2, .int .i64 n3] ⟨[], [], []⟩ = Join1_Tr r s n r2 n2 n3 := by kernel_rfl
theorem Join1_E (r : List (List PV)) (s : List UInt8) (n : Int) (r2 : List (List PV)) (n2 : Int) (n3 : Int) : Join1_V [.sl r .non, .str s, .int .i64 n, .sl r2 .non, .int .i64 n2, .int .i64 n3] ⟨[], [], []⟩ = lnext Join1_V (Join1_Tr r s n r2 n2 n3).run := by unfold Join1_V; rw [lval_eq, Join1_T]
noncomputable def Join1_W (r : List (List PV)) (s : List UInt8) (n : Int) (r2 : List (List PV)) (n2 : Int) (n3 : Int) : Option (PExit × List PV × Store) := Join1_V [.sl r .non, .str s, .int .i64 n, .sl r2 .non, .int .i64 n2, .int .i64 n3] ⟨[], [], []⟩
noncomputable def Join1_r (r : List (List PV)) (s : List UInt8) (n : Int) (r2 : List (List PV)) (n2 : Int) (n3 : Int) : List (List PV) := (gRow (gOut (Join1_W r s n r2 n2 n3) 0))
noncomputable def Join1_s (r : List (List PV)) (s : List UInt8) (n : Int) (r2 : List (List PV)) (n2 : Int) (n3 : Int) : List UInt8 := (gStr (gOut (Join1_W r s n r2 n2 n3) 1))
noncomputable def Join1_n (r : List (List PV)) (s : List UInt8) (n : Int) (r2 : List (List PV)) (n2 : Int) (n3 : Int) : Int := (gInt (gOut (Join1_W r s n r2 n2 n3) 2))
noncomputable def Join1_is0 (r : List (List PV)) (s : List UInt8) (n : Int) (r2 : List (List PV)) (n2 : Int) (n3 : Int) : Bool := isW (Join1_W r s n r2 n2 n3) ((.exit 1), [.sl (Join1_r r s n r2 n2 n3) .non, .str (Join1_s r s n r2 n2 n3), .int .i64 (Join1_n r s n r2 n2 n3)], ⟨[], [], []⟩)
noncomputable def Join1_prop : List PV → Store → Tr (PExit × List PV × Store) | [.sl r .non, .str s, .int .i64 n, .sl r2 .non, .int .i64 n2, .int .i64 n3], ⟨[], [], []⟩ => .ite (Join1_is0 r s n r2 n2 n3) (.ret ((.exit 1), [.sl (Join1_r r s n r2 n2 n3) .non, .str (Join1_s r s n r2 n2 n3), .int .i64 (Join1_n r s n r2 n2 n3)], ⟨[], [], []⟩)) (.fail) | _, _ => .fail
theorem Join1_ok : ∀ vs σ r, (Join1_prop vs σ).run = some r → Join1_V vs σ = some r := by
  intro vs σ r h
  unfold Join1_prop at h
  split at h
  · exact ite_isW h fun h => by cases h
  · cases h
theorem loop_Join1 (gl : Nat → Option Obj) : ∀ fr σ e fr' σ', (orc I_Join1 Join1_prop fr σ).run = some (e, fr', σ') → LDoes Tryd.prog gl c_Join1 fr σ e fr' σ' := orc_ok tbT_ok (gok_Join gl ) noMixed (L := LI_Join1) (loopOk_none (by kernel_rfl)) (by kernel_rfl) Join1_ok
def I_Join2 : LI := ⟨75, [1, 8, 63, 64, 65], fun e => match e with | .exit 3 => [8] | _ => [], true⟩
noncomputable def LI_Join2 : LpsT := fun r fr σ => .fail
noncomputable def Join2_V (vs : List PV) (σ : Store) : Option (PExit × List PV × Store) := lval (lstep tbT G_Join LI_Join2 c_Join2 I_Join2) vs σ
noncomputable def Join2_prop : List PV → Store → Tr (PExit × List PV × Store) | _, _ => .fail
theorem Join2_ok : ∀ vs σ r, (Join2_prop vs σ).run = some r → Join2_V vs σ = some r := by
  intro vs σ r h
  unfold Join2_prop at h
  split at h
  · cases h
theorem loop_Join2 (gl : Nat → Option Obj) : ∀ fr σ e fr' σ', (orc I_Join2 Join2_prop fr σ).run = some (e, fr', σ') → LDoes Tryd.prog gl c_Join2 fr σ e fr' σ' := orc_ok tbT_ok (gok_Join gl ) noMixed (L := LI_Join2) (loopOk_none (by kernel_rfl)) (by kernel_rfl) Join2_ok
noncomputable def L_Join : LpsT := fun r fr σ => bif Nat.beq r 12 then orc I_Join1 Join1_prop fr σ else bif Nat.beq r 22 then orc I_Join2 Join2_prop fr σ else .fail
noncomputable def Join_Tr (v : List (List PV)) (v2 : List UInt8) : Tr PV := Tr.ite (iEq (xLen v) 0) (Tr.ret (PV.str [])) (Tr.ite (iEq (xLen v) 1) (Tr.ite (okPos 0) (Tr.ite (okGet [PV.str []] v (nNat 0)) (Tr.ret (PV.str (xStr v (nNat 0) 0))) Tr.fail) Tr.fail) (Tr.ite (iLt 0 (sLen v2)) (Tr.ite (iEq (iSub .i64 (xLen v) 1) 0) Tr.fail (Tr.ite (iLe (iQuo .i64 9223372036854775807 (iSub .i64 (xLen v) 1)) (sLen v2)) Tr.fail (Tr.ite (Join1_is0 v v2 (iAdd .i64 0 (iMul .i64 (sLen v2) (iSub .i64 (xLen v) 1))) v (xLen v) 0) Tr.fail Tr.fail))) (Tr.ite (Join1_is0 v v2 0 v (xLen v) 0) Tr.fail Tr.fail)))
theorem Join_T (v : List (List PV)) (v2 : List UInt8) : (tcall tbT G_Join L_Join Tryd.f73 [.sl v .non, .str v2]).flat = Join_Tr v v2 := by kernel_rfl
noncomputable def Join_W (v : List (List PV)) (v2 : List UInt8) : Option PV := (Join_Tr v v2).run
noncomputable def Join_s (v : List (List PV)) (v2 : List UInt8) : List UInt8 := (gStr (gVal (Join_W v v2)))
noncomputable def Join_is0 (v : List (List PV)) (v2 : List UInt8) : Bool := isW (Join_W v v2) (.str (Join_s v v2))
noncomputable def F_Join : List PV → Tr PV | [.sl v .non, .str v2] => .ite (Join_is0 v v2) (.ret (.str (Join_s v v2))) (.fail) | _ => .fail
theorem sim_Join (gl : Nat → Option Obj) : SimP Tryd.prog gl 73 fun args => (F_Join args).run := by
  refine SimP.of_flat (G := G_Join) (L := L_Join) tbT_ok (gok_Join gl ) noMixed Tryd.func73 rfl (by rfl) (by kernel_rfl) (loopOk_all (L := lps L_Join) [(12, c_Join1), (22, c_Join2)] (by kernel_rfl) (List.forall_mem_cons.2 ⟨fun fr σ e fr' σ' h => loop_Join1 gl  fr σ e fr' σ' h, (List.forall_mem_cons.2 ⟨fun fr σ e fr' σ' h => loop_Join2 gl  fr σ e fr' σ' h, (List.forall_mem_nil _)⟩)⟩)) ?_
  intro args x h
  unfold F_Join at h
  split at h
  · exact (congrArg Tr.run (Join_T _ _)).trans (ite_isW h fun h => by cases h)
  · cases h
noncomputable def G_TText : GamT := ofL [(36, .pure F_TCheck), (72, .pure F_Text), (73, .pure F_Join)]
theorem gok_TText (gl : Nat → Option Obj) (hg : GlPow gl) : GamOk Tryd.prog gl (gam G_TText) := (gamOk_cons (sim_TCheck gl) (gamOk_cons (sim_Text hg) (gamOk_cons (sim_Join gl) gamOk_nil)))
noncomputable def c_TText1 : Code := loopC Tryd.f53 6
def I_TText1 : LI := ⟨35, [5, 15, 16, 17], fun e => match e with | .exit 0 => [5] | _ => [], true⟩
noncomputable def LI_TText1 : LpsT := fun r fr σ => .fail
noncomputable def TText1_V (vs : List PV) (σ : Store) : Option (PExit × List PV × Store) := lval (lstep tbT G_TText LI_TText1 c_TText1 I_TText1) vs σ
noncomputable def TText1_Tr (l : List (List PV)) (r : List (List PV)) (n : Int) (n2 : Int) : Tr LR := Tr.ite (iLt n2 n) (Tr.ite (okPos n2) (Tr.ite (okGet [PV.int .i64 0, PV.int .i64 0, PV.str []] r (nNat n2)) (Tr.ite (okGrow l [[PV.str (textW (xInt r (nNat n2) 0) (xInt r (nNat n2) 1) (xStr r (nNat n2) 2))]] 16) (Tr.ite (okNews [[PV.str (textW (xInt r (nNat n2) 0) (xInt r (nNat n2) 1) (xStr r (nNat n2) 2))]] 1) (Tr.ite (okSize l 1) (Tr.ret (LR.next [PV.sl (dropPLL 0 (xApp l [[PV.str (textW (xInt r (nNat n2) 0) (xInt r (nNat n2) 1) (xStr r (nNat n2) 2))]])) (.tok 0), PV.sl (dropPLL 0 r) .non, PV.int .i64 n, PV.int .i64 (iAdd .i64 n2 1)] (Store.mk [] [(nXs (xApp l [[PV.str (textW (xInt r (nNat n2) 0) (xInt r (nNat n2) 1) (xStr r (nNat n2) 2))]]), 1, 9)] []))) Tr.fail) Tr.fail) Tr.fail) Tr.fail) Tr.fail) (Tr.ret (LR.out (.exit 0) [PV.sl l .full] (Store.mk [] [] [])))
theorem TText1_T (l : List (List PV)) (r : List (List PV)) (n : Int) (n2 : Int) : lstep tbT G_TText LI_TText1 c_TText1 I_TText1 [.sl l .full, .sl r .non, .int .i64 n, .int .i64 n2] ⟨[], [], []⟩ = TText1_Tr l r n n2 := by kernel_rfl
theorem TText1_E (l : List (List PV)) (r : List (List PV)) (n : Int) (n2 : Int) : TText1_V [.sl l .full, .sl r .non, .int .i64 n, .int .i64 n2] ⟨[], [], []⟩ = lnext TText1_V (TText1_Tr l r n n2).run := by unfold TText1_V; rw [lval_eq, TText1_T]
noncomputable def TText1_Tr1 (l : List (List PV)) (r : List (List PV)) (n : Int) (n2 : Int) (k : Nat) : Tr LR := Tr.ite (iLt n2 n) (Tr.ite (okPos n2) (Tr.ite (okGet [PV.int .i64 0, PV.int .i64 0, PV.str []] r (nNat n2)) (Tr.ite (okGrow l [[PV.str (textW (xInt r (nNat n2) 0) (xInt r (nNat n2) 1) (xStr r (nNat n2) 2))]] 16) (Tr.ite (okNews [[PV.str (textW (xInt r (nNat n2) 0) (xInt r (nNat n2) 1) (xStr r (nNat n2) 2))]] 1) (Tr.ite (okSize l 1) (Tr.ite (nEq k (nXs l)) (Tr.ret (LR.next [PV.sl (dropPLL 0 (xApp l [[PV.str (textW (xInt r (nNat n2) 0) (xInt r (nNat n2) 1) (xStr r (nNat n2) 2))]])) (.tok 0), PV.sl (dropPLL 0 r) .non, PV.int .i64 n, PV.int .i64 (iAdd .i64 n2 1)] (Store.mk [] [(nXs (xApp l [[PV.str (textW (xInt r (nNat n2) 0) (xInt r (nNat n2) 1) (xStr r (nNat n2) 2))]]), 1, 9)] []))) Tr.fail) Tr.fail) Tr.fail) Tr.fail) Tr.fail) Tr.fail) (Tr.ret (LR.out (.exit 0) [PV.sl l (.tok 0)] (Store.mk [] [(k, 1, 9)] [])))
theorem TText1_T1 (l : List (List PV)) (r : List (List PV)) (n : Int) (n2 : Int) (k : Nat) : lstep tbT G_TText LI_TText1 c_TText1 I_TText1 [.sl l (.tok 0), .sl r .non, .int .i64 n, .int .i64 n2] ⟨[], [(k, 1, 9)], []⟩ = TText1_Tr1 l r n n2 k := by kernel_rfl
theorem TText1_E1 (l : List (List PV)) (r : List (List PV)) (n : Int) (n2 : Int) (k : Nat) : TText1_V [.sl l (.tok 0), .sl r .non, .int .i64 n, .int .i64 n2] ⟨[], [(k, 1, 9)], []⟩ = lnext TText1_V (TText1_Tr1 l r n n2 k).run := by unfold TText1_V; rw [lval_eq, TText1_T1]
noncomputable def TText1_W (l : List (List PV)) (r : List (List PV)) (n : Int) (n2 : Int) : Option (PExit × List PV × Store) := TText1_V [.sl l .full, .sl r .non, .int .i64 n, .int .i64 n2] ⟨[], [], []⟩
noncomputable def TText1_l_0 (l : List (List PV)) (r : List (List PV)) (n : Int) (n2 : Int) : List (List PV) := (gRow (gOut (TText1_W l r n n2) 0))
noncomputable def TText1_is0 (l : List (List PV)) (r : List (List PV)) (n : Int) (n2 : Int) : Bool := isW (TText1_W l r n n2) ((.exit 0), [.sl (TText1_l_0 l r n n2) .full], ⟨[], [], []⟩)
noncomputable def TText1_l_1 (l : List (List PV)) (r : List (List PV)) (n : Int) (n2 : Int) : List (List PV) := (gRow (gOut (TText1_W l r n n2) 0))
noncomputable def TText1_k_1 (l : List (List PV)) (r : List (List PV)) (n : Int) (n2 : Int) : Nat := (gTok (TText1_W l r n n2) 0)
noncomputable def TText1_is1 (l : List (List PV)) (r : List (List PV)) (n : Int) (n2 : Int) : Bool := isW (TText1_W l r n n2) ((.exit 0), [.sl (TText1_l_1 l r n n2) (.tok 0)], ⟨[], [((TText1_k_1 l r n n2), 1, 9)], []⟩)
noncomputable def TText1_prop : List PV → Store → Tr (PExit × List PV × Store) | [.sl l .full, .sl r .non, .int .i64 n, .int .i64 n2], ⟨[], [], []⟩ => .ite (TText1_is0 l r n n2) (.ret ((.exit 0), [.sl (TText1_l_0 l r n n2) .full], ⟨[], [], []⟩)) (.ite (TText1_is1 l r n n2) (.ret ((.exit 0), [.sl (TText1_l_1 l r n n2) (.tok 0)], ⟨[], [((TText1_k_1 l r n n2), 1, 9)], []⟩)) (.fail)) | _, _ => .fail
theorem TText1_ok : ∀ vs σ r, (TText1_prop vs σ).run = some r → TText1_V vs σ = some r := by
  intro vs σ r h
  unfold TText1_prop at h
  split at h
  · exact ite_isW h fun h => ite_isW h fun h => by cases h
  · cases h
theorem loop_TText1 (gl : Nat → Option Obj) (hg : GlPow gl) : ∀ fr σ e fr' σ', (orc I_TText1 TText1_prop fr σ).run = some (e, fr', σ') → LDoes Tryd.prog gl c_TText1 fr σ e fr' σ' := orc_ok tbT_ok (gok_TText gl hg ) noMixed (L := LI_TText1) (loopOk_none (by kernel_rfl)) (by kernel_rfl) TText1_ok
noncomputable def L_TText : LpsT := fun r fr σ => bif Nat.beq r 6 then orc I_TText1 TText1_prop fr σ else .fail
noncomputable def TText_Tr (t : List (List PV)) : Tr PV := Tr.ite (okR cV (lockLL t)) (Tr.ite (iNe (chkT (lockLL t)) 0) (Tr.ret (PV.tup [PV.str [], PV.int .i64 (chkT (lockLL t))])) (Tr.ite (TText1_is0 [] t (xLen t) 0) (Tr.ite (Join_is0 (lockLL (TText1_l_0 [] t (xLen t) 0)) [44, 32]) (Tr.ite (okApp [40] (Join_s (lockLL (TText1_l_0 [] t (xLen t) 0)) [44, 32])) (Tr.ite (okApp (sApp [40] (Join_s (lockLL (TText1_l_0 [] t (xLen t) 0)) [44, 32])) [41]) (Tr.ret (PV.tup [PV.str (sApp (sApp [40] (Join_s (lockLL (TText1_l_0 [] t (xLen t) 0)) [44, 32])) [41]), PV.int .i64 0])) Tr.fail) Tr.fail) Tr.fail) (Tr.ite (TText1_is1 [] t (xLen t) 0) (Tr.ite (Join_is0 (lockLL (TText1_l_1 [] t (xLen t) 0)) [44, 32]) (Tr.ite (okApp [40] (Join_s (lockLL (TText1_l_1 [] t (xLen t) 0)) [44, 32])) (Tr.ite (okApp (sApp [40] (Join_s (lockLL (TText1_l_1 [] t (xLen t) 0)) [44, 32])) [41]) (Tr.ret (PV.tup [PV.str (sApp (sApp [40] (Join_s (lockLL (TText1_l_1 [] t (xLen t) 0)) [44, 32])) [41]), PV.int .i64 0])) Tr.fail) Tr.fail) Tr.fail) Tr.fail))) Tr.fail
theorem TText_T (t : List (List PV)) : (tcall tbT G_TText L_TText Tryd.f53 [.sl t .non]).flat = TText_Tr t := by kernel_rfl
noncomputable def TText_W (t : List (List PV)) : Option PV := (TText_Tr t).run
noncomputable def TText_s (t : List (List PV)) : List UInt8 := (gStr (gAt (gCs (gVal (TText_W t))) 0))
noncomputable def TText_n (t : List (List PV)) : Int := (gInt (gAt (gCs (gVal (TText_W t))) 1))
noncomputable def TText_is0 (t : List (List PV)) : Bool := isW (TText_W t) (.tup [.str (TText_s t), .int .i64 (TText_n t)])
noncomputable def F_TText : List PV → Tr PV | [.sl t .non] => .ite (TText_is0 t) (.ret (.tup [.str (TText_s t), .int .i64 (TText_n t)])) (.fail) | _ => .fail
theorem sim_TText (gl : Nat → Option Obj) (hg : GlPow gl) : SimP Tryd.prog gl 53 fun args => (F_TText args).run := by
  refine SimP.of_flat (G := G_TText) (L := L_TText) tbT_ok (gok_TText gl hg ) noMixed Tryd.func53 rfl (by rfl) (by kernel_rfl) (loopOk_all (L := lps L_TText) [(6, c_TText1)] (by kernel_rfl) (List.forall_mem_cons.2 ⟨fun fr σ e fr' σ' h => loop_TText1 gl hg  fr σ e fr' σ' h, (List.forall_mem_nil _)⟩)) ?_
  intro args x h
  unfold F_TText at h
  split at h
  · exact (congrArg Tr.run (TText_T _)).trans (ite_isW h fun h => by cases h)
  · cases h
end Go.Pv

set_option maxHeartbeats 4000000
set_option maxRecDepth 200000
set_option linter.unusedSimpArgs false
set_option linter.unusedVariables false
namespace Go.Pv
open Go Go.Proofs
/-! ### three tuples sorted: reckoned -/
noncomputable def G_ins9 : GamT := ofL [(16, .pure F_TCmp)]
noncomputable def D_ins9 : List PV → Store → Tr (PV × Store) := fun a σ => Tr.ofOpt (pcallSU tbT (gam G_ins9) 300 Tryd.f119 a σ)
theorem sim_ins9 (gl : Nat → Option Obj) : SimS Tryd.prog gl 119 fun a σ => (D_ins9 a σ).run :=
  simS_opt (SimS.of_evalU tbT_ok (gamOk_cons (sim_TCmp gl) gamOk_nil) noMixed Tryd.func119 rfl (by rfl) (by kernel_rfl) 300)
noncomputable def G_stb9 : GamT := ofL [(119, .store D_ins9)]
noncomputable def D_stb9 : List PV → Store → Tr (PV × Store) := fun a σ => Tr.ofOpt (pcallSU tbT (gam G_stb9) 300 Tryd.f108 a σ)
theorem sim_stb9 (gl : Nat → Option Obj) : SimS Tryd.prog gl 108 fun a σ => (D_stb9 a σ).run :=
  simS_opt (SimS.of_evalU tbT_ok (gamOk_store (sim_ins9 gl) gamOk_nil) noMixed Tryd.func108 rfl (by rfl) (by kernel_rfl) 300)
noncomputable def G_ssf9 : GamT := ofL [(108, .store D_stb9)]
noncomputable def D_ssf9 : List PV → Store → Tr (PV × Store) := fun a σ => Tr.ofOpt (pcallSU tbT (gam G_ssf9) 300 Tryd.f83 a σ)
theorem sim_ssf9 (gl : Nat → Option Obj) : SimS Tryd.prog gl 83 fun a σ => (D_ssf9 a σ).run :=
  simS_opt (SimS.of_evalU tbT_ok (gamOk_store (sim_stb9 gl) gamOk_nil) noMixed Tryd.func83 rfl (by rfl) (by kernel_rfl) 300)
noncomputable def G_cpf : GamT := ofL [(85, .pure F_sclo)]
noncomputable def D_cpf : List PV → Store → Tr (PV × Store) := fun a σ => Tr.ofOpt (pcallSU tbT (gam G_cpf) 300 Tryd.f84 a σ)
theorem sim_cpf (gl : Nat → Option Obj) : SimS Tryd.prog gl 84 fun a σ => (D_cpf a σ).run :=
  simS_opt (SimS.of_evalU tbT_ok (gamOk_cons (sim_sclo gl) gamOk_nil) noMixed Tryd.func84 rfl (by rfl) (by kernel_rfl) 300)
noncomputable def G_clo : GamT := ofL [(objKey, .flag)]
noncomputable def D_clo : List PV → Store → Tr (PV × Store) := fun a σ => Tr.ofOpt (pcallSU tbT (gam G_clo) 300 Tryd.f82 a σ)
theorem sim_clo (gl : Nat → Option Obj) : SimS Tryd.prog gl 82 fun a σ => (D_clo a σ).run :=
  simS_opt (SimS.of_evalU tbT_ok (gamOk_con (K := .flag) trivial gamOk_nil) noMixed Tryd.func82 rfl (by rfl) (by kernel_rfl) 300)
noncomputable def G_srd : GamT := ofL [(82, .store D_clo), (83, .store D_ssf9), (84, .store D_cpf)]
noncomputable def F_srd : List PV → Tr PV := fun a => Tr.ofOpt (pcallU tbT (gam G_srd) 300 Tryd.f61 a)
theorem sim_srd (gl : Nat → Option Obj) : SimP Tryd.prog gl 61 fun a => (F_srd a).run :=
  simP_opt (SimP.of_evalU tbT_ok (gamOk_store (sim_clo gl) (gamOk_store (sim_ssf9 gl) (gamOk_store (sim_cpf gl) gamOk_nil))) noMixed Tryd.func61 rfl (by rfl) (by kernel_rfl) 300)
noncomputable def G_cpd : GamT := ofL [(64, .pure F_CloneT)]
noncomputable def F_cpd : List PV → Tr PV := fun a => Tr.ofOpt (pcallU tbT (gam G_cpd) 300 Tryd.f62 a)
theorem sim_cpd (gl : Nat → Option Obj) : SimP Tryd.prog gl 62 fun a => (F_cpd a).run :=
  simP_opt (SimP.of_evalU tbT_ok (gamOk_cons (sim_CloneT gl) gamOk_nil) noMixed Tryd.func62 rfl (by rfl) (by kernel_rfl) 300)
noncomputable def G_Srt : GamT := ofL [(62, .pure F_cpd), (61, .pure F_srd)]
def tup1 (n : Int) : List PV := [.sl [[.int .i64 1, .int .i64 n, .str []]] .non]
theorem srt3 : pcallU tbT (gam G_Srt) 300 Tryd.f23 [.sl [tup1 2, tup1 1, tup1 2] .non] = some (.sl [tup1 1, tup1 2] .non) := by kernel_rfl
noncomputable def F_Srt : List PV → Tr PV
  | [.sl [[.sl [[.int .i64 1, .int .i64 2, .str []]] .non], [.sl [[.int .i64 1, .int .i64 1, .str []]] .non], [.sl [[.int .i64 1, .int .i64 2, .str []]] .non]] .non] => .ret (.sl [tup1 1, tup1 2] .non)
  | _ => .fail
theorem sim_Srt (gl : Nat → Option Obj) : SimP Tryd.prog gl 23 fun args => (F_Srt args).run := by
  refine SimP.imp (SimP.of_evalU tbT_ok (gamOk_cons (sim_cpd gl) (gamOk_cons (sim_srd gl) gamOk_nil)) noMixed Tryd.func23 rfl (by rfl) (by kernel_rfl) 300) ?_
  intro args x h
  unfold F_Srt at h
  split at h
  · cases h
    exact srt3
  · cases h
/-! ### the text of (7) -/
theorem text7 : TText_W [[.int .i64 1, .int .i64 7, .str []]] = some (.tup [.str [40, 55, 41], .int .i64 0]) := by
  have e0 : ([[.int .i64 1, .int .i64 7, .str []]] : List (List PV)) = rOf cV [(1, 7, [])] := rfl
  have e1 : TText1_V [.sl [] .full, .sl (rOf cV [(1, 7, [])]) .non, .int .i64 1, .int .i64 0] ⟨[], [], []⟩ = TText1_V [.sl (rOf cS [[55]]) (.tok 0), .sl (rOf cV [(1, 7, [])]) .non, .int .i64 1, .int .i64 1] ⟨[], [(1, 1, 9)], []⟩ := by
    rw [TText1_E]
    have : textW 1 7 [] = [55] := by kernel_rfl
    have w : iAdd .i64 0 1 = 1 := by kernel_rfl
    simp [TText1_Tr, this, w, one]
  have e2 : TText1_V [.sl (rOf cS [[55]]) (.tok 0), .sl (rOf cV [(1, 7, [])]) .non, .int .i64 1, .int .i64 1] ⟨[], [(1, 1, 9)], []⟩ = some (.exit 0, [.sl (rOf cS [[55]]) (.tok 0)], ⟨[], [(1, 1, 9)], []⟩) := by
    rw [TText1_E1]
    simp [TText1_Tr1]
  have hj : Join_W (rOf cS [[55]]) [44, 32] = some (.str [55]) := by
    unfold Join_W Join_Tr
    simp
  have hc : chkT (rOf cV [(1, 7, [])]) = 0 := by kernel_rfl
  unfold TText_W TText_Tr
  rw [e0]
  simp [TText1_is0, TText1_is1, TText1_l_0, TText1_l_1, TText1_k_1, TText1_W, e1, e2, hc, Join_is0, Join_s, hj]
  unfold maxLen; omega
end Go.Pv

set_option maxHeartbeats 4000000
set_option maxRecDepth 200000
set_option linter.unusedSimpArgs false
set_option linter.unusedVariables false
namespace Go.Pv
open Go Go.Proofs
noncomputable def G_awake : GamT := ofL [(17, .pure F_Same), (18, .pure F_Mt), (23, .pure F_Srt), (34, .pure F_one2), (36, .pure F_TCheck), (53, .pure F_TText)]
theorem gok_awake (gl : Nat → Option Obj) (hg : GlPow gl) : GamOk Tryd.prog gl (gam G_awake) := (gamOk_cons (sim_Same gl) (gamOk_cons (sim_Mt gl) (gamOk_cons (sim_Srt gl) (gamOk_cons (sim_one2 gl) (gamOk_cons (sim_TCheck gl) (gamOk_cons (sim_TText gl hg) gamOk_nil))))))
noncomputable def L_awake : LpsT := fun r fr σ => .fail
noncomputable def awake_Tr : Tr PV := Tr.ite (TText_is0 [[PV.int .i64 1, PV.int .i64 7, PV.str []]]) (Tr.ite (okR cM [[PV.int .i64 1, PV.str [88], PV.int .i64 0, PV.int .i64 0, PV.str []]]) (Tr.ite (okR cV [[PV.int .i64 1, PV.int .i64 3, PV.str []]]) (Tr.ite (okMT [[PV.int .i64 1, PV.str [88], PV.int .i64 0, PV.int .i64 0, PV.str []]] [[PV.int .i64 1, PV.int .i64 3, PV.str []]]) (Tr.ite (iEq (xLen [[PV.sl [[PV.int .i64 1, PV.int .i64 1, PV.str []]] .non], [PV.sl [[PV.int .i64 1, PV.int .i64 2, PV.str []]] .non]]) 2) (Tr.ite (okPos 0) (Tr.ite (okGet [PV.sl [] .full] [[PV.sl [[PV.int .i64 1, PV.int .i64 1, PV.str []]] .non], [PV.sl [[PV.int .i64 1, PV.int .i64 2, PV.str []]] .non]] (nNat 0)) (Tr.ite (okR cV (lockLL (lockLL (xRow [[PV.sl [[PV.int .i64 1, PV.int .i64 1, PV.str []]] .non], [PV.sl [[PV.int .i64 1, PV.int .i64 2, PV.str []]] .non]] (nNat 0) 0)))) (Tr.ite (okR cV [[PV.int .i64 1, PV.int .i64 1, PV.str []]]) (Tr.ite (iEq (cmpTR (lockLL (lockLL (xRow [[PV.sl [[PV.int .i64 1, PV.int .i64 1, PV.str []]] .non], [PV.sl [[PV.int .i64 1, PV.int .i64 2, PV.str []]] .non]] (nNat 0) 0))) [[PV.int .i64 1, PV.int .i64 1, PV.str []]]) 0) (Tr.ite (sEq (TText_s [[PV.int .i64 1, PV.int .i64 7, PV.str []]]) [40, 55, 41]) (Tr.ite (iEq (TText_n [[PV.int .i64 1, PV.int .i64 7, PV.str []]]) 0) (Tr.ite true (Tr.ite (iEq (xLen (mTV [[PV.int .i64 1, PV.str [88], PV.int .i64 0, PV.int .i64 0, PV.str []]] [[PV.int .i64 1, PV.int .i64 3, PV.str []]])) 1) (Tr.ite (okPos 0) (Tr.ite (okGet [PV.str [], PV.int .i64 0, PV.int .i64 0, PV.str []] (mTV [[PV.int .i64 1, PV.str [88], PV.int .i64 0, PV.int .i64 0, PV.str []]] [[PV.int .i64 1, PV.int .i64 3, PV.str []]]) (nNat 0)) (Tr.ite (iEq (xInt (mTV [[PV.int .i64 1, PV.str [88], PV.int .i64 0, PV.int .i64 0, PV.str []]] [[PV.int .i64 1, PV.int .i64 3, PV.str []]]) (nNat 0) 2) 3) (Tr.ite (okR cV [[PV.int .i64 0, PV.int .i64 0, PV.str []], [PV.int .i64 0, PV.int .i64 0, PV.str []],
 [PV.int .i64 0, PV.int .i64 0, PV.str []], [PV.int .i64 0, PV.int .i64 0, PV.str []], [PV.int .i64 0, PV.int .i64 0, PV.str []], [PV.int .i64 0, PV.int .i64 0, PV.str []], [PV.int .i64 0, PV.int .i64 0, PV.str []], [PV.int .i64 0, PV.int .i64 0, PV.str []], [PV.int .i64 0, PV.int .i64 0, PV.str []]]) (Tr.ret (PV.bool (iEq (chkT [[PV.int .i64 0, PV.int .i64 0, PV.str []], [PV.int .i64 0, PV.int .i64 0, PV.str []], [PV.int .i64 0, PV.int .i64 0, PV.str []], [PV.int .i64 0, PV.int .i64 0, PV.str []], [PV.int .i64 0, PV.int .i64 0, PV.str []], [PV.int .i64 0, PV.int .i64 0, PV.str []], [PV.int .i64 0, PV.int .i64 0, PV.str []], [PV.int .i64 0, PV.int .i64 0, PV.str []], [PV.int .i64 0, PV.int .i64 0, PV.str []]]) 20))) Tr.fail) (Tr.ret (PV.bool false))) Tr.fail) Tr.fail) (Tr.ret (PV.bool false))) (Tr.ret (PV.bool false))) (Tr.ret (PV.bool false))) (Tr.ret (PV.bool false))) (Tr.ret (PV.bool false))) Tr.fail) Tr.fail) Tr.fail) Tr.fail) (Tr.ret (PV.bool false))) (Tr.ite (iEq (xLen [[PV.sl [[PV.int .i64 1, PV.int .i64 1, PV.str []]] .non], [PV.sl [[PV.int .i64 1, PV.int .i64 2, PV.str []]] .non]]) 2) (Tr.ite (okPos 0) (Tr.ite (okGet [PV.sl [] .full] [[PV.sl [[PV.int .i64 1, PV.int .i64 1, PV.str []]] .non], [PV.sl [[PV.int .i64 1, PV.int .i64 2, PV.str []]] .non]] (nNat 0)) (Tr.ite (okR cV (lockLL (lockLL (xRow [[PV.sl [[PV.int .i64 1, PV.int .i64 1, PV.str []]] .non], [PV.sl [[PV.int .i64 1, PV.int .i64 2, PV.str []]] .non]] (nNat 0) 0)))) (Tr.ite (okR cV [[PV.int .i64 1, PV.int .i64 1, PV.str []]]) (Tr.ite (iEq (cmpTR (lockLL (lockLL (xRow [[PV.sl [[PV.int .i64 1, PV.int .i64 1, PV.str []]] .non], [PV.sl [[PV.int .i64 1, PV.int .i64 2, PV.str []]] .non]] (nNat 0) 0))) [[PV.int .i64 1, PV.int .i64 1, PV.str []]]) 0) (Tr.ite (sEq (TText_s [[PV.int .i64 1, PV.int .i64 7, PV.str []]]) [40, 55, 41]) (Tr.ite (iEq (TText_n [[PV.int .i64 1, PV.int .i64 7, PV.str []]]) 0) (Tr.ite false (Tr.ite (iEq (xLen []) 1) (Tr.ite (okPos 0)
 (Tr.ite (okGet [PV.str [], PV.int .i64 0, PV.int .i64 0, PV.str []] [] (nNat 0)) (Tr.ite (iEq (xInt [] (nNat 0) 2) 3) (Tr.ite (okR cV [[PV.int .i64 0, PV.int .i64 0, PV.str []], [PV.int .i64 0, PV.int .i64 0, PV.str []], [PV.int .i64 0, PV.int .i64 0, PV.str []], [PV.int .i64 0, PV.int .i64 0, PV.str []], [PV.int .i64 0, PV.int .i64 0, PV.str []], [PV.int .i64 0, PV.int .i64 0, PV.str []], [PV.int .i64 0, PV.int .i64 0, PV.str []], [PV.int .i64 0, PV.int .i64 0, PV.str []], [PV.int .i64 0, PV.int .i64 0, PV.str []]]) (Tr.ret (PV.bool (iEq (chkT [[PV.int .i64 0, PV.int .i64 0, PV.str []], [PV.int .i64 0, PV.int .i64 0, PV.str []], [PV.int .i64 0, PV.int .i64 0, PV.str []], [PV.int .i64 0, PV.int .i64 0, PV.str []], [PV.int .i64 0, PV.int .i64 0, PV.str []], [PV.int .i64 0, PV.int .i64 0, PV.str []], [PV.int .i64 0, PV.int .i64 0, PV.str []], [PV.int .i64 0, PV.int .i64 0, PV.str []], [PV.int .i64 0, PV.int .i64 0, PV.str []]]) 20))) Tr.fail) (Tr.ret (PV.bool false))) Tr.fail) Tr.fail) (Tr.ret (PV.bool false))) (Tr.ret (PV.bool false))) (Tr.ret (PV.bool false))) (Tr.ret (PV.bool false))) (Tr.ret (PV.bool false))) Tr.fail) Tr.fail) Tr.fail) Tr.fail) (Tr.ret (PV.bool false)))) Tr.fail) Tr.fail) Tr.fail
theorem awake_T : (tcall tbT G_awake L_awake Tryd.f14 []).flat = awake_Tr := by kernel_rfl
noncomputable def F_awake : List PV → Tr PV | [] => awake_Tr | _ => .fail
theorem sim_awake (gl : Nat → Option Obj) (hg : GlPow gl) : SimP Tryd.prog gl 14 fun args => (F_awake args).run := by
  refine SimP.of_flat (G := G_awake) (L := L_awake) tbT_ok (gok_awake gl hg ) noMixed Tryd.func14 rfl (by rfl) (by kernel_rfl) (loopOk_none (by kernel_rfl)) ?_
  intro args x h
  unfold F_awake at h
  split at h
  · exact (congrArg Tr.run (awake_T)).trans h
  · cases h
end Go.Pv

set_option maxHeartbeats 4000000
set_option maxRecDepth 200000
set_option linter.unusedSimpArgs false
set_option linter.unusedVariables false
namespace Go.Pv
open Go Go.Proofs
theorem awake_law : awake_Tr.run = some (.bool true) := by
  have h7 : TText_W (rOf cV [(1, 7, [])]) = some (.tup [.str [40, 55, 41], .int .i64 0]) := text7
  have h1 : okMT (rOf cM [(1, [88], 0, 0, [])]) (rOf cV [(1, 3, [])]) = true := by kernel_rfl
  have h2 : mTV (rOf cM [(1, [88], 0, 0, [])]) (rOf cV [(1, 3, [])]) = rOf cB [([88], 1, 3, [])] := by kernel_rfl
  have h3 : lexV [(1, 1, [])] [(1, 1, [])] = 0 := by kernel_rfl
  have h4 : chkT (rOf cV [(0, 0, []), (0, 0, []), (0, 0, []), (0, 0, []), (0, 0, []), (0, 0, []), (0, 0, []), (0, 0, []), (0, 0, [])]) = 20 := by kernel_rfl
  simp [awake_Tr, TText_is0, TText_s, TText_n, h7, h1, h2, h3, h4]
noncomputable def F_awk : List PV → Tr PV | [] => .ret (.bool true) | _ => .fail
theorem sim_awk (gl : Nat → Option Obj) (hg : GlPow gl) : SimP Tryd.prog gl 14 fun args => (F_awk args).run := by
  refine SimP.imp (sim_awake gl hg) ?_
  intro args x h
  unfold F_awk at h
  split at h
  · cases h; exact awake_law
  · cases h
end Go.Pv

set_option maxHeartbeats 4000000
set_option maxRecDepth 200000
set_option linter.unusedSimpArgs false
set_option linter.unusedVariables false
/-! Tuples in order, each once: the contract of tuple.sorted at any row. -/
namespace Go.Pv
open Go Go.Proofs
/-- A contract at a struct that begins with a row, by two: the row is empty (nil or not), or it is not. -/
theorem SimP.of_nil2 {P : Program} {gl : Nat → Option Obj} {f : FuncId} {F G1 G2 : List PV → Option PV} (h1 : SimP P gl f G1) (h2 : SimP P gl f G2)
    (h : ∀ args x, F args = some x → ∃ xs tg ys, args = [.agg (.sl xs tg :: ys)] ∧ (xs = [] → G1 [.agg (.sl [] .nil :: ys)] = some x ∧ G1 [.agg (.sl [] .own :: ys)] = some x) ∧ (xs ≠ [] → G2 [.agg (.sl xs .own :: ys)] = some x)) : SimP P gl f F where
  ent := h1.ent
  run := fun args x hx H w vs a1 a2 a3 a4 hr => by
    obtain ⟨xs, tg, ys, rfl, ha, hb⟩ := h args x hx
    cases hr with
    | cons _ v _ vs hv hvs =>
      cases hvs
      cases hv with
      | agg _ us hu =>
        cases hu with
        | cons _ v _ us hv hus =>
          cases hv with
          | sl p len cap k _ vss _ hl hcap hm hrel hrow htag =>
            cases p with
            | none =>
              have e : xs = [] := by
                cases hrel with
                | nil => rfl
                | cons _ v _ vs _ _ =>
                  obtain ⟨_, a, e, _⟩ := hrow 0 v (by simp)
                  cases e
              subst e
              exact h1.run _ x (ha rfl).1 H w _ a1 a2 a3 a4 (.cons _ _ _ _ (.agg _ _ (.cons _ _ _ _ (.sl none len cap k [] vss .nil hl hcap hm hrel hrow rfl) hus)) .nil)
            | some a =>
              by_cases e : xs = []
              · subst e
                exact h1.run _ x (ha rfl).2 H w _ a1 a2 a3 a4 (.cons _ _ _ _ (.agg _ _ (.cons _ _ _ _ (.sl (some a) len cap k [] vss .own hl hcap hm hrel hrow (by simp [TagOk])) hus)) .nil)
              · exact h2.run _ x (hb e) H w _ a1 a2 a3 a4 (.cons _ _ _ _ (.agg _ _ (.cons _ _ _ _ (.sl (some a) len cap k xs vss .own hl hcap hm hrel hrow (by simp [TagOk])) hus)) .nil)
theorem cT_lexV : (cT : List Vl → List Vl → Int) = lexV := by
  funext a b
  exact cmpT_lex cmpVl a b
theorem srd_nil : (F_srd [.agg [.sl [] .nil, .fn 16 []]]).run = some (.sl [] .non) := by kernel_rfl
theorem srd_own : (F_srd [.agg [.sl [] .own, .fn 16 []]]).run = some (.sl [] .non) := by kernel_rfl
/-- A row in order, each once. -/
noncomputable def srtV (l : List (List PV)) : List (List PV) := rOf (cR cV) (usort lexV (unR (cR cV) l))
noncomputable def F_srtd : List PV → Tr PV
  | [.agg [.sl l .non, .fn 16 []]] => Tr.chk (okR (cR cV) l) (Tr.chk (okGrow [] l 24) (.ret (.sl (srtV l) .non)))
  | _ => .fail
theorem sim_srtd (gl : Nat → Option Obj) : SimP Tryd.prog gl 61 fun args => (F_srtd args).run := by
  refine SimP.of_nil2 (sim_srd gl) (sim_srt gl) ?_
  intro args x h
  unfold F_srtd at h
  split at h
  · rename_i l
    obtain ⟨h1, q⟩ := Tr.chk_some h
    obtain ⟨h2, q⟩ := Tr.chk_some q
    cases q
    refine ⟨l, .non, [.fn 16 []], rfl, fun e => ?_, fun e => ?_⟩
    · subst e
      exact ⟨srd_nil, srd_own⟩
    · have hl : l = rOf (cR cV) (unR (cR cV) l) := by obtain ⟨m, rfl⟩ := okR_eq (cR cV) h1; simp only [unR_of]
      generalize hm : unR (cR cV) l = m at *
      subst hl
      have hne : m ≠ [] := by rintro rfl; exact e rfl
      have T : Tot (cT : List Vl → List Vl → Int) := by rw [cT_lexV]; exact lexV_tot
      have hs := srt_law T m hne (by simp at h2; exact h2.1)
      have hs' : srt_W (rOf (cR cV) m) = some (.sl (srtV (rOf (cR cV) m)) .non) := by
        rw [hs, cT_lexV]
        simp only [srtV, unR_of]
      simp [F_srt, srt_is0, srt_r, hs']
  · cases h
@[simp] theorem srtV_of (l : List (List Vl)) : srtV (rOf (cR cV) l) = rOf (cR cV) (usort lexV l) := by simp only [srtV, unR_of]
/-! ### copied -/
theorem copied_loop (l : List (List Vl)) (hl : l.length ≤ 1000000) (ht : ∀ t ∈ l, t.length ≤ 1000000) : copied1_V [.sl [] .full, .sl (rOf (cR cV) l) .non, .int .i64 (l.length : Nat), .int .i64 0] ⟨[], [], []⟩ = some (.exit 0, [.sl (rOf (cR cV) l) (aT l)], aS 1 23 l) := by
  have h := loop_acc (l := l) (V := fun i b => copied1_V [.sl (rOf (cR cV) b) (aT b), .sl (rOf (cR cV) l) .non, .int .i64 (l.length : Nat), .int .i64 (i : Nat)] (aS 1 23 b)) (fun a => [a]) (fun r => some (.exit 0, [.sl (rOf (cR cV) r) (aT r)], aS 1 23 r)) ?_ ?_
  · rw [show l.flatMap (fun a => [a]) = l from by rw [flatMap_one (fun a => a) l, List.map_id']] at h
    simpa using h
  · intro i b a hb hi ha
    have w := inc_i64 (i := i) (by omega)
    have hlen : b.length ≤ i := by rw [hb]; exact flatMap_le _ (fun a => by simp) _ _
    have g1 : (b.length + 1) * 24 ≤ 140737488355328 := by omega
    have g2 : b.length ≤ 140737488355327 := by omega
    have hta := ht a (by rw [← ha]; exact List.getElem_mem hi)
    have g3 : a.length * 32 ≤ 140737488355328 := by omega
    have g4 : a.length ≤ 140737488355328 := by omega
    rcases aTS_cases 1 23 b with ⟨rfl, h1, h2⟩ | ⟨hne, h1, h2⟩
    · simp [copied1_E, copied1_Tr, ha, hi, w, one, aT, aS, g3, g4]
    · simp [h1, h2, copied1_E1, copied1_Tr1, ha, hi, w, one, aT_snoc, aS_snoc, g1, g2, g3, g4]
  · intro b hb
    rcases aTS_cases 1 23 b with ⟨rfl, h1, h2⟩ | ⟨hne, h1, h2⟩
    · simp [copied1_E, copied1_Tr]
    · simp [h1, h2, copied1_E1, copied1_Tr1]
theorem copied_law (l : List (List Vl)) (hl : l.length ≤ 1000000) (ht : ∀ t ∈ l, t.length ≤ 1000000) : copied_W (rOf (cR cV) l) = some (.sl (rOf (cR cV) l) .non) := by
  have h := copied_loop l hl ht
  unfold copied_W copied_Tr
  have e : xLen (rOf (cR cV) l) = (l.length : Nat) := by simp
  rw [e]
  generalize hr : l = r at h
  rcases aTS_cases 1 23 r with ⟨rfl, h1, h2⟩ | ⟨hne, h1, h2⟩
  · subst hr
    try simp at h
    simp [copied1_is0, copied1_is1, copied1_out_0, copied1_out_1, copied1_k_1, copied1_W, h]
  · subst hr
    rw [h1, h2] at h
    try simp at h
    simp [copied1_is0, copied1_is1, copied1_out_0, copied1_out_1, copied1_k_1, copied1_W, h]
/-! ### within -/
def wthV (a b c : List (List PV)) : Bool := withinL (unR cV a) (unR cV b) (unR cV c)
@[simp] theorem wthV_of (a b c : List Vl) : wthV (rOf cV a) (rOf cV b) (rOf cV c) = withinL a b c := by simp only [wthV, unR_of]
noncomputable def F_Wth : List PV → Tr PV
  | [.sl a .non, .sl b .non, .sl c .non] => Tr.chk (okR cV a) (Tr.chk (okR cV b) (Tr.chk (okR cV c) (.ret (.bool (wthV a b c)))))
  | _ => .fail
theorem sim_Wth (gl : Nat → Option Obj) : SimP Tryd.prog gl 21 fun args => (F_Wth args).run := by
  refine SimP.imp (sim_TWithin gl) ?_
  intro args x h
  unfold F_Wth at h
  split at h
  · rename_i a b c
    obtain ⟨h1, q⟩ := Tr.chk_some h
    obtain ⟨h2, q⟩ := Tr.chk_some q
    obtain ⟨h3, q⟩ := Tr.chk_some q
    cases q
    obtain ⟨a, rfl⟩ := okR_eq cV h1
    obtain ⟨b, rfl⟩ := okR_eq cV h2
    obtain ⟨c, rfl⟩ := okR_eq cV h3
    have := TWithin_law a b c
    simpa [F_TWithin] using this
  · cases h
end Go.Pv

set_option maxHeartbeats 4000000
set_option maxRecDepth 200000
set_option linter.unusedSimpArgs false
set_option linter.unusedVariables false
namespace Go.Pv
open Go Go.Proofs
noncomputable def G_TSorted : GamT := ofL [(16, .pure F_TCmp), (61, .pure F_srtd), (62, .pure F_copied)]
theorem gok_TSorted (gl : Nat → Option Obj) : GamOk Tryd.prog gl (gam G_TSorted) := (gamOk_cons (sim_TCmp gl) (gamOk_cons (sim_srtd gl) (gamOk_cons (sim_copied gl) gamOk_nil)))
noncomputable def L_TSorted : LpsT := fun r fr σ => .fail
noncomputable def TSorted_Tr (l : List (List PV)) : Tr PV := Tr.ite (copied_is0 (lockLL l)) (Tr.ite (okR (cR cV) (lockLL (copied_r (lockLL l)))) (Tr.ite (okGrow [] (lockLL (copied_r (lockLL l))) 24) (Tr.ret (PV.sl (shutLL (srtV (lockLL (copied_r (lockLL l))))) .non)) Tr.fail) Tr.fail) Tr.fail
theorem TSorted_T (l : List (List PV)) : (tcall tbT G_TSorted L_TSorted Tryd.f23 [.sl l .non]).flat = TSorted_Tr l := by kernel_rfl
noncomputable def TSorted_W (l : List (List PV)) : Option PV := (TSorted_Tr l).run
noncomputable def TSorted_r (l : List (List PV)) : List (List PV) := (gRow (gVal (TSorted_W l)))
noncomputable def TSorted_is0 (l : List (List PV)) : Bool := isW (TSorted_W l) (.sl (TSorted_r l) .non)
noncomputable def F_TSorted : List PV → Tr PV | [.sl l .non] => .ite (TSorted_is0 l) (.ret (.sl (TSorted_r l) .non)) (.fail) | _ => .fail
theorem sim_TSorted (gl : Nat → Option Obj) : SimP Tryd.prog gl 23 fun args => (F_TSorted args).run := by
  refine SimP.of_flat (G := G_TSorted) (L := L_TSorted) tbT_ok (gok_TSorted gl ) noMixed Tryd.func23 rfl (by rfl) (by kernel_rfl) (loopOk_none (by kernel_rfl)) ?_
  intro args x h
  unfold F_TSorted at h
  split at h
  · exact (congrArg Tr.run (TSorted_T _)).trans (ite_isW h fun h => by cases h)
  · cases h
noncomputable def G_TRows : GamT := ofL [(14, .pure F_awk), (15, .pure F_cutT), (23, .pure F_TSorted), (24, .pure F_few), (31, .pure F_SameRel), (35, .pure F_TChkRel), (40, .pure F_TPlace), (41, .pure F_RPlace), (42, .pure F_RChkRel), (43, .pure F_RSorted)]
theorem gok_TRows (gl : Nat → Option Obj) (hg : GlPow gl) : GamOk Tryd.prog gl (gam G_TRows) := (gamOk_cons (sim_awk gl hg) (gamOk_cons (sim_cutT gl) (gamOk_cons (sim_TSorted gl) (gamOk_cons (sim_few gl) (gamOk_cons (sim_SameRel gl) (gamOk_cons (sim_TChkRel gl) (gamOk_cons (sim_TPlace gl) (gamOk_cons (sim_RPlace gl) (gamOk_cons (sim_RChkRel gl) (gamOk_cons (sim_RSorted gl) gamOk_nil))))))))))
noncomputable def L_TRows : LpsT := fun r fr σ => .fail
noncomputable def TRows_Tr (l : List (List PV)) (t : List (List PV)) : Tr PV := Tr.ite (few_is0 (lockLL l)) (Tr.ite (okR cV (lockLL t)) (Tr.ite (TPlace_is0 (lockLL (few_r (lockLL l))) (lockLL (cutT (lockLL t)))) (Tr.ite (RPlace_is0 (lockLL (few_r (lockLL l))) (lockLL (cutT (lockLL t)))) (Tr.ite (TChkRel_is0 (lockLL (few_r (lockLL l)))) (Tr.ite (RChkRel_is0 (lockLL (few_r (lockLL l)))) (Tr.ite (iEq (TChkRel_n (lockLL (few_r (lockLL l)))) (RChkRel_n (lockLL (few_r (lockLL l))))) (Tr.ite (TSorted_is0 (lockLL (few_r (lockLL l)))) (Tr.ite (RSorted_is0 (lockLL (few_r (lockLL l)))) (Tr.ite (SameRel_is0 (lockLL (TSorted_r (lockLL (few_r (lockLL l))))) (lockLL (RSorted_r (lockLL (few_r (lockLL l)))))) (Tr.ite (SameRel_b (lockLL (TSorted_r (lockLL (few_r (lockLL l))))) (lockLL (RSorted_r (lockLL (few_r (lockLL l)))))) (Tr.ite (iEq (TPlace_n (lockLL (few_r (lockLL l))) (lockLL (cutT (lockLL t)))) (RPlace_n (lockLL (few_r (lockLL l))) (lockLL (cutT (lockLL t))))) (Tr.ite (bEq (TPlace_b (lockLL (few_r (lockLL l))) (lockLL (cutT (lockLL t)))) (RPlace_b (lockLL (few_r (lockLL l))) (lockLL (cutT (lockLL t))))) (Tr.ret (PV.bool true)) (Tr.ret (PV.bool false))) (Tr.ret (PV.bool false))) (Tr.ret (PV.bool false))) Tr.fail) Tr.fail) Tr.fail) (Tr.ret (PV.bool false))) Tr.fail) Tr.fail) Tr.fail) Tr.fail) Tr.fail) Tr.fail
theorem TRows_T (l : List (List PV)) (t : List (List PV)) : (tcall tbT G_TRows L_TRows Tryd.f10 [.sl l .non, .sl t .non]).flat = TRows_Tr l t := by kernel_rfl
noncomputable def TRows_W (l : List (List PV)) (t : List (List PV)) : Option PV := (TRows_Tr l t).run
noncomputable def TRows_b (l : List (List PV)) (t : List (List PV)) : Bool := (gBool (gVal (TRows_W l t)))
noncomputable def TRows_is0 (l : List (List PV)) (t : List (List PV)) : Bool := isW (TRows_W l t) (.bool (TRows_b l t))
noncomputable def F_TRows : List PV → Tr PV | [.sl l .non, .sl t .non] => .ite (TRows_is0 l t) (.ret (.bool (TRows_b l t))) (.fail) | _ => .fail
theorem sim_TRows (gl : Nat → Option Obj) (hg : GlPow gl) : SimP Tryd.prog gl 10 fun args => (F_TRows args).run := by
  refine SimP.of_flat (G := G_TRows) (L := L_TRows) tbT_ok (gok_TRows gl hg ) noMixed Tryd.func10 rfl (by rfl) (by kernel_rfl) (loopOk_none (by kernel_rfl)) ?_
  intro args x h
  unfold F_TRows at h
  split at h
  · exact (congrArg Tr.run (TRows_T _ _)).trans (ite_isW h fun h => by cases h)
  · cases h
noncomputable def G_TNear : GamT := ofL [(14, .pure F_awk), (15, .pure F_cutT), (21, .pure F_Wth), (23, .pure F_TSorted), (24, .pure F_few), (25, .pure F_width), (26, .pure F_RCompare)]
theorem gok_TNear (gl : Nat → Option Obj) (hg : GlPow gl) : GamOk Tryd.prog gl (gam G_TNear) := (gamOk_cons (sim_awk gl hg) (gamOk_cons (sim_cutT gl) (gamOk_cons (sim_Wth gl) (gamOk_cons (sim_TSorted gl) (gamOk_cons (sim_few gl) (gamOk_cons (sim_width gl) (gamOk_cons (sim_RCompare gl) gamOk_nil)))))))
noncomputable def c_TNear1 : Code := loopC Tryd.f6 13
def I_TNear1 : LI := ⟨70, [0, 1, 2, 8, 9, 10], fun e => match e with | .exit 0 => [8] | _ => [], true⟩
noncomputable def LI_TNear1 : LpsT := fun r fr σ => .fail
noncomputable def TNear1_V (vs : List PV) (σ : Store) : Option (PExit × List PV × Store) := lval (lstep tbT G_TNear LI_TNear1 c_TNear1 I_TNear1) vs σ
noncomputable def TNear1_Tr (r : List (List PV)) (r2 : List (List PV)) (r3 : List (List PV)) (n : Int) (b : Bool) (n2 : Int) : Tr LR := Tr.ite (iLt n2 (xLen r)) (Tr.ite (okPos n2) (Tr.ite (okGet [PV.sl [] .full] r (nNat n2)) (Tr.ite (okR cV (lockLL r2)) (Tr.ite (okR cV (lockLL (xRow r (nNat n2) 0))) (Tr.ite (okR cV (lockLL r3)) (Tr.ite (wthV (lockLL r2) (lockLL (xRow r (nNat n2) 0)) (lockLL r3)) (Tr.ite (bNot b) (Tr.ret (LR.next [PV.sl r .non, PV.sl r2 .non, PV.sl r3 .non, PV.int .i64 (iAdd .i64 n 1), PV.bool (wthV (lockLL r2) (lockLL (xRow r (nNat n2) 0)) (lockLL r3)), PV.int .i64 (iAdd .i64 n2 1)] (Store.mk [] [] []))) (Tr.ret (LR.next [PV.sl r .non, PV.sl r2 .non, PV.sl r3 .non, PV.int .i64 n, PV.bool (wthV (lockLL r2) (lockLL (xRow r (nNat n2) 0)) (lockLL r3)), PV.int .i64 (iAdd .i64 n2 1)] (Store.mk [] [] [])))) (Tr.ret (LR.next [PV.sl r .non, PV.sl r2 .non, PV.sl r3 .non, PV.int .i64 n, PV.bool (wthV (lockLL r2) (lockLL (xRow r (nNat n2) 0)) (lockLL r3)), PV.int .i64 (iAdd .i64 n2 1)] (Store.mk [] [] [])))) Tr.fail) Tr.fail) Tr.fail) Tr.fail) Tr.fail) (Tr.ret (LR.out (.exit 0) [PV.int .i64 n] (Store.mk [] [] [])))
theorem TNear1_T (r : List (List PV)) (r2 : List (List PV)) (r3 : List (List PV)) (n : Int) (b : Bool) (n2 : Int) : lstep tbT G_TNear LI_TNear1 c_TNear1 I_TNear1 [.sl r .non, .sl r2 .non, .sl r3 .non, .int .i64 n, .bool b, .int .i64 n2] ⟨[], [], []⟩ = TNear1_Tr r r2 r3 n b n2 := by kernel_rfl
theorem TNear1_E (r : List (List PV)) (r2 : List (List PV)) (r3 : List (List PV)) (n : Int) (b : Bool) (n2 : Int) : TNear1_V [.sl r .non, .sl r2 .non, .sl r3 .non, .int .i64 n, .bool b, .int .i64 n2] ⟨[], [], []⟩ = lnext TNear1_V (TNear1_Tr r r2 r3 n b n2).run := by unfold TNear1_V; rw [lval_eq, TNear1_T]
noncomputable def TNear1_W (r : List (List PV)) (r2 : List (List PV)) (r3 : List (List PV)) (n : Int) (b : Bool) (n2 : Int) : Option (PExit × List PV × Store) := TNear1_V [.sl r .non, .sl r2 .non, .sl r3 .non, .int .i64 n, .bool b, .int .i64 n2] ⟨[], [], []⟩
noncomputable def TNear1_n (r : List (List PV)) (r2 : List (List PV)) (r3 : List (List PV)) (n : Int) (b : Bool) (n2 : Int) : Int := (gInt (gOut (TNear1_W r r2 r3 n b n2) 0))
noncomputable def TNear1_is0 (r : List (List PV)) (r2 : List (List PV)) (r3 : List (List PV)) (n : Int) (b : Bool) (n2 : Int) : Bool := isW (TNear1_W r r2 r3 n b n2) ((.exit 0), [.int .i64 (TNear1_n r r2 r3 n b n2)], ⟨[], [], []⟩)
noncomputable def TNear1_prop : List PV → Store → Tr (PExit × List PV × Store) | [.sl r .non, .sl r2 .non, .sl r3 .non, .int .i64 n, .bool b, .int .i64 n2], ⟨[], [], []⟩ => .ite (TNear1_is0 r r2 r3 n b n2) (.ret ((.exit 0), [.int .i64 (TNear1_n r r2 r3 n b n2)], ⟨[], [], []⟩)) (.fail) | _, _ => .fail
theorem TNear1_ok : ∀ vs σ r, (TNear1_prop vs σ).run = some r → TNear1_V vs σ = some r := by
  intro vs σ r h
  unfold TNear1_prop at h
  split at h
  · exact ite_isW h fun h => by cases h
  · cases h
theorem loop_TNear1 (gl : Nat → Option Obj) (hg : GlPow gl) : ∀ fr σ e fr' σ', (orc I_TNear1 TNear1_prop fr σ).run = some (e, fr', σ') → LDoes Tryd.prog gl c_TNear1 fr σ e fr' σ' := orc_ok tbT_ok (gok_TNear gl hg ) noMixed (L := LI_TNear1) (loopOk_none (by kernel_rfl)) (by kernel_rfl) TNear1_ok
noncomputable def L_TNear : LpsT := fun r fr σ => bif Nat.beq r 13 then orc I_TNear1 TNear1_prop fr σ else .fail
noncomputable def TNear_Tr (v : List (List PV)) (v2 : List (List PV)) (v3 : List (List PV)) : Tr PV := Tr.ite false (Tr.ret (PV.bool false)) (Tr.ite (few_is0 (lockLL v)) (Tr.ite (TSorted_is0 (lockLL (few_r (lockLL v)))) (Tr.ite (okR cV (lockLL v2)) (Tr.ite (okR cV (lockLL v3)) (Tr.ite (iLt 0 (xLen (TSorted_r (lockLL (few_r (lockLL v)))))) (Tr.ite (okPos 0) (Tr.ite (okGet [PV.sl [] .full] (TSorted_r (lockLL (few_r (lockLL v)))) (nNat 0)) (Tr.ite (width_is0 (lockLL (TSorted_r (lockLL (few_r (lockLL v))))) (xLen (xRow (TSorted_r (lockLL (few_r (lockLL v)))) (nNat 0) 0))) (Tr.ite (iLt (xLen (xRow (TSorted_r (lockLL (few_r (lockLL v)))) (nNat 0) 0)) (xLen (cutT (lockLL v2)))) (Tr.ret (PV.bool true)) (Tr.ite (iLt (xLen (xRow (TSorted_r (lockLL (few_r (lockLL v)))) (nNat 0) 0)) (xLen (cutT (lockLL v3)))) (Tr.ret (PV.bool true)) (Tr.ite (TNear1_is0 (width_r (lockLL (TSorted_r (lockLL (few_r (lockLL v))))) (xLen (xRow (TSorted_r (lockLL (few_r (lockLL v)))) (nNat 0) 0))) (cutT (lockLL v2)) (cutT (lockLL v3)) 0 false 0) (Tr.ite (iLe (TNear1_n (width_r (lockLL (TSorted_r (lockLL (few_r (lockLL v))))) (xLen (xRow (TSorted_r (lockLL (few_r (lockLL v)))) (nNat 0) 0))) (cutT (lockLL v2)) (cutT (lockLL v3)) 0 false 0) 1) (Tr.ret (PV.bool (iEq (compareR 0 0 [] 0 0 []) 0))) (Tr.ret (PV.bool false))) Tr.fail))) Tr.fail) Tr.fail) Tr.fail) (Tr.ite (width_is0 (lockLL (TSorted_r (lockLL (few_r (lockLL v))))) 0) (Tr.ite (iLt 0 (xLen (cutT (lockLL v2)))) (Tr.ret (PV.bool true)) (Tr.ite (iLt 0 (xLen (cutT (lockLL v3)))) (Tr.ret (PV.bool true)) (Tr.ite (TNear1_is0 (width_r (lockLL (TSorted_r (lockLL (few_r (lockLL v))))) 0) (cutT (lockLL v2)) (cutT (lockLL v3)) 0 false 0) (Tr.ite (iLe (TNear1_n (width_r (lockLL (TSorted_r (lockLL (few_r (lockLL v))))) 0) (cutT (lockLL v2)) (cutT (lockLL v3)) 0 false 0) 1) (Tr.ret (PV.bool (iEq (compareR 0 0 [] 0 0 []) 0))) (Tr.ret (PV.bool false))) Tr.fail))) Tr.fail)) Tr.fail) Tr.fail) Tr.fail) Tr.fail)
theorem TNear_T (v : List (List PV)) (v2 : List (List PV)) (v3 : List (List PV)) : (tcall tbT G_TNear L_TNear Tryd.f6 [.sl v .non, .sl v2 .non, .sl v3 .non]).flat = TNear_Tr v v2 v3 := by kernel_rfl
noncomputable def TNear_W (v : List (List PV)) (v2 : List (List PV)) (v3 : List (List PV)) : Option PV := (TNear_Tr v v2 v3).run
noncomputable def TNear_b (v : List (List PV)) (v2 : List (List PV)) (v3 : List (List PV)) : Bool := (gBool (gVal (TNear_W v v2 v3)))
noncomputable def TNear_is0 (v : List (List PV)) (v2 : List (List PV)) (v3 : List (List PV)) : Bool := isW (TNear_W v v2 v3) (.bool (TNear_b v v2 v3))
noncomputable def F_TNear : List PV → Tr PV | [.sl v .non, .sl v2 .non, .sl v3 .non] => .ite (TNear_is0 v v2 v3) (.ret (.bool (TNear_b v v2 v3))) (.fail) | _ => .fail
theorem sim_TNear (gl : Nat → Option Obj) (hg : GlPow gl) : SimP Tryd.prog gl 6 fun args => (F_TNear args).run := by
  refine SimP.of_flat (G := G_TNear) (L := L_TNear) tbT_ok (gok_TNear gl hg ) noMixed Tryd.func6 rfl (by rfl) (by kernel_rfl) (loopOk_all (L := lps L_TNear) [(13, c_TNear1)] (by kernel_rfl) (List.forall_mem_cons.2 ⟨fun fr σ e fr' σ' h => loop_TNear1 gl hg  fr σ e fr' σ' h, (List.forall_mem_nil _)⟩)) ?_
  intro args x h
  unfold F_TNear at h
  split at h
  · exact (congrArg Tr.run (TNear_T _ _ _)).trans (ite_isW h fun h => by cases h)
  · cases h
end Go.Pv

set_option maxHeartbeats 4000000
set_option maxRecDepth 200000
set_option linter.unusedSimpArgs false
set_option linter.unusedVariables false
/-! TupleRows, TupleNear: what their walks give is true. -/
namespace Go.Pv
open Go Go.Proofs
theorem TSorted_law (l : List (List Vl)) (hl : l.length ≤ 1000000) (ht : ∀ t ∈ l, t.length ≤ 1000000) : TSorted_W (rOf (cR cV) l) = some (.sl (rOf (cR cV) (usort lexV l)) .non) := by
  have h := copied_law l hl ht
  have g1 : l.length * 24 ≤ 140737488355328 := by omega
  have g2 : l.length ≤ 140737488355328 := by omega
  simp [TSorted_W, TSorted_Tr, copied_is0, copied_r, h, g1, g2]
theorem usort_few (l : List (List Vl)) : (usort lexV (fewL l)).length ≤ 60 := by
  have h1 := usort_len (c := lexV) (fewL l)
  have h2 := few_len l
  omega
theorem TRows_law (l : List (List Vl)) (t : List Vl) (hl : l.length ≤ 9223372036854775807) : TRows_W (rOf (cR cV) l) (rOf cV t) = some (.bool true) := by
  have hf := few_law l hl
  have f1 : (fewL l).length ≤ 1000000 := by have := few_len l; omega
  have f2 : ∀ t ∈ fewL l, t.length ≤ 1000000 := fun t ht => by have := (few_mem ht).2; omega
  have s1 := TSorted_law (fewL l) f1 f2
  have s2 := RSorted_law (fewL l) f1
  have s3 := sameRel_law (usort lexV (fewL l)) (usort lexV (fewL l)) (by have := usort_few l; omega)
  have s4 := TPlace_law (fewL l) (t.take 20) f1
  have s5 := RPlace_law (fewL l) (t.take 20) f1
  have s6 := TChkRel_law (fewL l) f1
  have s7 := RChkRel_law (fewL l) f1
  have e0 : cutT (rOf cV t) = rOf cV (t.take 20) := by simp only [cutT, unR_of]
  unfold TRows_W TRows_Tr
  simp only [lockLL_rOf, e0]
  repeat' first
    | rfl
    | refine Tr.run_t (by first | rfl | (simp; done) | (simp [few_is0, few_r, hf, TPlace_is0, TPlace_n, TPlace_b, RPlace_is0, RPlace_n, RPlace_b, TChkRel_is0, TChkRel_n, RChkRel_is0, RChkRel_n, TSorted_is0, TSorted_r, RSorted_is0, RSorted_r, SameRel_is0, SameRel_b, s1, s2, s3, s4, s5, s6, s7]; done)) ?_
theorem within_conv (low high : List Vl) (a b d : List Vl) (h1 : lexV a b < 0) (h2 : lexV b d < 0) (ha : withinL low a high = true) (hd : withinL low d high = true) : withinL low b high = true := by
  simp only [withinL, Bool.and_eq_true, decide_eq_true_eq] at ha hd ⊢
  have k1 : lexV (a.take low.length) (b.take low.length) ≤ 0 := lex_take low.length a b (by have : lexV a b < 0 := h1; exact Int.le_of_lt this)
  have k2 : lexV (b.take high.length) (d.take high.length) ≤ 0 := lex_take high.length b d (by have : lexV b d < 0 := h2; exact Int.le_of_lt this)
  constructor
  · have s1 := lexV_tot.swap (a.take low.length) low
    have s2 := lexV_tot.swap (b.take low.length) low
    have := lexV_tot.le_trans (a := low) (b := a.take low.length) (c := b.take low.length) (by omega) k1
    omega
  · exact lexV_tot.le_trans k2 hd.2
def nrF (low high : List Vl) (s : Nat × Bool) (a : List Vl) : (Nat × Bool) ⊕ (Nat × Bool) := .inl (turnF s (withinL low a high))
theorem nr_fold (low high : List Vl) : ∀ (l : List (List Vl)) (s : Nat × Bool), foldE (nrF low high) id l s = (l.map fun a => withinL low a high).foldl turnF s
  | [], s => rfl
  | a :: l, s => by
    simp only [foldE, nrF, List.map_cons, List.foldl_cons]
    exact nr_fold low high l _
theorem TNear_loop (l : List (List Vl)) (low high : List Vl) (hl : l.length ≤ 1000000) : TNear1_V [.sl (rOf (cR cV) l) .non, .sl (rOf cV low) .non, .sl (rOf cV high) .non, .int .i64 0, .bool false, .int .i64 0] ⟨[], [], []⟩ = some (.exit 0, [.int .i64 (((l.map fun a => withinL low a high).foldl turnF (0, false)).1 : Nat)], ⟨[], [], []⟩) := by
  have h := loop_foldE0 (l := l) (V := fun i s => TNear1_V [.sl (rOf (cR cV) l) .non, .sl (rOf cV low) .non, .sl (rOf cV high) .non, .int .i64 (s.1 : Nat), .bool s.2, .int .i64 (i : Nat)] ⟨[], [], []⟩) (fun i s => s.1 ≤ i) (nrF low high) id (fun r => some (.exit 0, [.int .i64 (r.1 : Nat)], ⟨[], [], []⟩)) (0, false) (Nat.le_refl _) ?_ ?_
  · rw [nr_fold] at h
    simpa using h
  · intro i s a hs hi ha
    obtain ⟨n, b⟩ := s
    simp only at hs
    have w := inc_i64 (i := i) (by omega)
    have w2 := inc_i64 (i := n) (by omega)
    refine .inl ⟨_, rfl, ?_, ?_⟩
    · have := (turnF_le (n, b) (withinL low a high)).2
      simp only at this
      omega
    · cases hc : withinL low a high <;> cases b <;> simp [TNear1_E, TNear1_Tr, ha, hi, w, w2, hc, turnF]
  · intro b _
    simp [TNear1_E, TNear1_Tr]
theorem TNear_law (l : List (List Vl)) (low high : List Vl) (hl : l.length ≤ 9223372036854775807) : TNear_W (rOf (cR cV) l) (rOf cV low) (rOf cV high) = some (.bool true) := by
  have hf := few_law l hl
  have f1 : (fewL l).length ≤ 1000000 := by have := few_len l; omega
  have f2 : ∀ t ∈ fewL l, t.length ≤ 1000000 := fun t ht => by have := (few_mem ht).2; omega
  have s1 := TSorted_law (fewL l) f1 f2
  have hs := ssrt_usort lexV_tot (fewL l)
  have hm := usort_few l
  have e0 : ∀ t : List Vl, cutT (rOf cV t) = rOf cV (t.take 20) := fun t => by simp only [cutT, unR_of]
  have e1 : few_is0 (rOf (cR cV) l) = true := by simp [few_is0, few_r, hf]
  have e2 : few_r (rOf (cR cV) l) = rOf (cR cV) (fewL l) := by simp [few_r, hf]
  have e3 : TSorted_is0 (rOf (cR cV) (fewL l)) = true := by simp [TSorted_is0, TSorted_r, s1]
  have e4 : TSorted_r (rOf (cR cV) (fewL l)) = rOf (cR cV) (usort lexV (fewL l)) := by simp [TSorted_r, s1]
  have hz : compareR 0 0 [] 0 0 [] = 0 := by kernel_rfl
  unfold TNear_W TNear_Tr
  simp only [lockLL_rOf, e0, e1, e2, e3, e4]
  generalize usort lexV (fewL l) = m at *
  generalize List.take 20 low = low, List.take 20 high = high
  have w1 : ∀ n : Nat, width_W (rOf (cR cV) m) (n : Nat) = some (.sl (rOf (cR cV) (widL m n)) .non) := fun n => width_law m n (by omega)
  have w2 : ∀ n : Nat, width_is0 (rOf (cR cV) m) (n : Nat) = true := fun n => by simp [width_is0, width_r, w1]
  have w3 : ∀ n : Nat, width_r (rOf (cR cV) m) (n : Nat) = rOf (cR cV) (widL m n) := fun n => by simp [width_r, w1]
  have n1 : ∀ n : Nat, (widL m n).length ≤ 1000000 := fun n => by have : (widL m n).length ≤ m.length := List.length_filter_le _ _; omega
  have n2 := fun n => TNear_loop (widL m n) low high (n1 n)
  have n3 : ∀ n, (((widL m n).map fun a => withinL low a high).foldl turnF (0, false)).1 ≤ 1 := fun n => turns_le _ (conv_of lexV_tot _ (fun a b d => within_conv low high a b d) _ (hs.filter _))
  have n4 : ∀ n, TNear1_is0 (rOf (cR cV) (widL m n)) (rOf cV low) (rOf cV high) 0 false 0 = true := fun n => by simp [TNear1_is0, TNear1_n, TNear1_W, n2]
  have n5 : ∀ n, TNear1_n (rOf (cR cV) (widL m n)) (rOf cV low) (rOf cV high) 0 false 0 = ((((widL m n).map fun a => withinL low a high).foldl turnF (0, false)).1 : Nat) := fun n => by simp [TNear1_n, TNear1_W, n2]
  have n6 : ∀ n, TNear1_n (rOf (cR cV) (widL m n)) (rOf cV low) (rOf cV high) 0 false 0 ≤ 1 := fun n => by rw [n5]; have := n3 n; omega
  have w20 := w2 0
  have w30 := w3 0
  simp only [Int.natCast_zero] at w20 w30
  repeat' first
    | rfl
    | refine Tr.run_t (by first | rfl | (simp; done) | (simp [w2, w3, w20, w30, n4, n6]; done) | (simp; omega)) ?_
    | refine Tr.run_f (by first | rfl | (simp; done) | (simp; omega)) ?_
    | (refine Tr.run_of (fun h => ?_) (fun h => ?_) <;> simp at h)
  all_goals (simp only [Tr.run_ret, hz]; rfl)
end Go.Pv

/- Contracts over stores, put together: a function that hands back a row of its own, at any store; two contracts for one function. -/
set_option linter.unusedSimpArgs false
set_option linter.unusedVariables false
namespace Go.Pv
open Go.RowKit
section
variable {P : Program} {gl : Nat → Option Obj} {f : FuncId}
theorem SimS.imp {D E : List PV → Store → Option (PV × Store)} (hD : SimS P gl f D) (h : ∀ args σ x σ', E args σ = some (x, σ') → D args σ = some (x, σ')) : SimS P gl f E := ⟨hD.ent, fun args σ x σ' hx => hD.run args σ x σ' (h args σ x σ' hx)⟩
theorem SimS.or {D1 D2 E : List PV → Store → Option (PV × Store)} (h1 : SimS P gl f D1) (h2 : SimS P gl f D2) (h : ∀ args σ x σ', E args σ = some (x, σ') → D1 args σ = some (x, σ') ∨ D2 args σ = some (x, σ')) : SimS P gl f E :=
  ⟨h1.ent, fun args σ x σ' hx => (h args σ x σ' hx).elim (fun e => h1.run args σ x σ' e) (fun e => h2.run args σ x σ' e)⟩
theorem SimP.or {F1 F2 E : List PV → Option PV} (h1 : SimP P gl f F1) (h2 : SimP P gl f F2) (h : ∀ args x, E args = some x → F1 args = some x ∨ F2 args = some x) : SimP P gl f E :=
  ⟨h1.ent, fun args x hx => (h args x hx).elim (fun e => h1.run args x e) (fun e => h2.run args x e)⟩
/-- A function that writes nothing, as one that might. -/
theorem SimS.of_pure {F : List PV → Option PV} (hF : SimP P gl f F) {E : List PV → Store → Option (PV × Store)} (h : ∀ args σ x σ', E args σ = some (x, σ') → F (args.map (view σ.objs)) = some x ∧ σ' = σ) : SimS P gl f E where
  ent := hF.ent
  run := fun args σ x σ' hx H w vs hok hr => by
    obtain ⟨hx, rfl⟩ := h args σ x σ' hx
    refine (hF.run _ x hx (sub H w) w vs rfl rfl rfl (fun b o e => (hok.gl b o e).2) (views_rel hok hr)).mono ?_
    rintro e w' ⟨v, he, hb, hr⟩
    exact ⟨v, he, Post.below hok hb.1 hb.2 (back_rel hok hb.1 hr)⟩
/-- A contract at a struct that begins with a row that is not empty. -/
theorem SimS.of_own1 {D E : List PV → Store → Option (PV × Store)} (hD : SimS P gl f D)
    (h : ∀ args σ x σ', E args σ = some (x, σ') → ∃ xs tg ys, args = [.agg (.sl xs tg :: ys)] ∧ xs ≠ [] ∧ D [.agg (.sl xs .own :: ys)] σ = some (x, σ')) : SimS P gl f E where
  ent := hD.ent
  run := fun args σ x σ' hx H w vs hok hr => by
    obtain ⟨xs, tg, ys, rfl, hne, hd⟩ := h args σ x σ' hx
    cases hr with
    | cons _ v _ vs hv hvs =>
      cases hvs
      cases hv with
      | agg _ us hu =>
        cases hu with
        | cons _ v _ us hv hus =>
          cases hv with
          | sl p len cap k _ vss _ hl hcap hm hrel hrow htag =>
            cases p with
            | none =>
              cases hrel with
              | nil => exact absurd rfl hne
              | cons _ v _ vs _ _ =>
                obtain ⟨_, a, e, _⟩ := hrow 0 v (by simp)
                cases e
            | some a => exact hD.run _ σ x σ' hd H w _ hok (.cons _ _ _ _ (.agg _ _ (.cons _ _ _ _ (.sl (some a) len cap k xs vss .own hl hcap hm hrel hrow (by simp [TagOk])) hus)) .nil)
theorem relL_tops' {H : Gh} {w : World} : ∀ vs : List Value, RelL H w (List.replicate vs.length .top) vs
  | [] => .nil
  | v :: vs => .cons _ _ _ _ (.top v) (relL_tops' vs)
/-- A new object whose cells are told once it is there. -/
theorem new_obj_then {H : Gh} {σ : Store} {w w' : World} (h : Ok gl H σ w) {b0 : Nat} (hb : Below w.heap.size w w') (hd : Dr gl w w') (hn : w.heap.size ≤ b0) {cs : List PV} {vs ext : List Value} {T Tm : TypeId} (hTm : ¬ Tm < tyMark)
    (he0 : w'.heap[b0]? = some (.cells (vs ++ ext).toArray T (0, 0))) (hr : RelL { H with ob := H.ob ++ [b0] } w' cs vs) :
    Ev gl H w { H with ob := H.ob ++ [b0] } w' ∧ Ok gl { H with ob := H.ob ++ [b0] } ⟨σ.objs ++ [cs], σ.toks, σ.tys ++ [Tm]⟩ w' ∧ ({ H with ob := H.ob ++ [b0] } : Gh).ob[σ.objs.length]? = some b0 := by
  obtain ⟨h1, h2, h3⟩ := new_obj_at h hb hd hn (cs := List.replicate vs.length .top) (vs := vs) (ext := ext) (T := T) (Tm := Tm) (fun e => absurd e hTm) he0 (relL_tops' vs)
  refine ⟨h1, ⟨h2.B, h2.gl, by have := h2.len; simpa using this, fun id b cs' e1 e2 => ?_, h2.nd, h2.tkl, h2.tok, h2.tnd, by have := h2.tyl; simpa using this, fun id b T' cs' e1 e2 e3 hT => ?_⟩, h3⟩
  · have e2' : (σ.objs ++ [cs])[id]? = some cs' := e2
    by_cases hid : id < σ.objs.length
    · rw [List.getElem?_append_left hid] at e2'
      exact h2.obj id b cs' e1 (by show (σ.objs ++ [List.replicate vs.length PV.top])[id]? = some cs'; rw [List.getElem?_append_left hid]; exact e2')
    · have hlt : id < (σ.objs ++ [cs]).length := (List.getElem?_eq_some_iff.1 e2').1
      have : id = σ.objs.length := by simp at hlt; omega
      subst this
      rw [List.getElem?_append_right (Nat.le_refl _)] at e2'
      simp at e2'
      subst e2'
      have e1' : some b = some b0 := e1.symm.trans h3
      cases e1'
      obtain ⟨hB, _⟩ := h2.obj σ.objs.length b0 (List.replicate vs.length PV.top) h3 (by simp)
      exact ⟨hB, vs, ext, T, he0, hr⟩
  · have e3' : (σ.objs ++ [cs])[id]? = some cs' := e3
    have e2' : (σ.tys ++ [Tm])[id]? = some T' := e2
    by_cases hid : id < σ.objs.length
    · rw [List.getElem?_append_left hid] at e3'
      exact h2.ty id b T' cs' e1 e2 (by show (σ.objs ++ [List.replicate vs.length PV.top])[id]? = some cs'; rw [List.getElem?_append_left hid]; exact e3') hT
    · have hlt : id < (σ.objs ++ [cs]).length := (List.getElem?_eq_some_iff.1 e3').1
      have : id = σ.tys.length := by simp at hlt; have := h.tyl; omega
      subst this
      rw [List.getElem?_append_right (Nat.le_refl _)] at e2'
      simp at e2'
      subst e2'
      exact absurd hT hTm
/-- A function that begins with nothing of its own and hands back an own row: at any store the row comes behind all that is there. -/
theorem SimS.of_fresh {D E : List PV → Store → Option (PV × Store)} (hD : SimS P gl f D)
    (h : ∀ args σ x σ', E args σ = some (x, σ') → ∃ id off len k cs σ1 t n, D (args.map (view σ.objs)) ⟨[], [], []⟩ = some (.osl id off len k, σ1) ∧ σ1.objs[id]? = some cs ∧ ¬ t < tyMark ∧ x = .osl σ.objs.length off len k ∧ σ' = ⟨σ.objs ++ [shutL (cs.take n)], σ.toks, σ.tys ++ [t]⟩) : SimS P gl f E where
  ent := hD.ent
  run := fun args σ x σ' hx H w vs hok hr => by
    obtain ⟨id, off, len, k, cs, σ1, t, n, hd, hcs, ht, rfl, rfl⟩ := h args σ x σ' hx
    have hok0 : Ok gl (sub H w) ⟨[], [], []⟩ w :=
      ⟨Nat.le_refl _, fun b o e => ⟨lt_of_heap (hok.gl b o e).2, (hok.gl b o e).2⟩, rfl, fun id b cs e => by simp [sub] at e, fun i j b e => by simp [sub] at e, rfl, fun t T e => by simp [sub] at e, fun t u T U e => by simp [sub] at e, rfl, fun id b T cs e => by simp [sub] at e⟩
    refine (hD.run _ _ _ _ hd (sub H w) w vs hok0 (views_rel hok hr)).mono ?_
    rintro e w' ⟨v, he, H', hev, hok', hv⟩
    refine ⟨v, he, ?_⟩
    have hbel : Below w.heap.size w w' := ⟨hev.os, hev.tape, hev.output, hev.size, fun b hlt => hev.block b hlt⟩
    cases hv with
    | osl _ _ off' _ cap _ b hb hoff hcap hm =>
      obtain ⟨hB, us, ext, T, heap, hrel⟩ := hok'.obj id b cs hb hcs
      have hBw : w.heap.size ≤ b := by rw [hev.B] at hB; exact hB
      have hbH : b ∉ H.ob := fun hm => by have := (hok.ob_at hm).2; omega
      have hbH' : b ∈ H'.ob := List.mem_of_getElem? hb
      have hp : ∀ b0 off0, H'.prot w' b0 off0 → ({ H with ob := H.ob ++ [b] } : Gh).prot w' b0 off0 ∧ ∀ s, w'.cell? ⟨b0, off0, s⟩ = w'.cell? ⟨b0, off0, s⟩ := fun b0 off0 hp => by
        refine ⟨⟨hp.1, fun hlt => ?_, fun hm => ?_, fun T hT e => ?_⟩, fun _ => rfl⟩
        · have h1 := hp.2.1
          rw [hev.B, hev.base] at h1
          have h2 : b0 < w.heap.size := Nat.lt_of_lt_of_le hlt hok.B
          exact (h1 h2).2.1 hlt
        · rcases List.mem_append.1 hm with hm | hm
          · have h1 := hp.2.1
            rw [hev.B, hev.base] at h1
            exact (h1 (hok.ob_at hm).2).2.2.1 hm
          · simp at hm
            subst hm
            exact hp.2.2.1 hbH'
        · have h1 := hp.2.1
          rw [hev.B, hev.base] at h1
          have h2 : b0 < w.heap.size := e ▸ (hok.tk_at hT).2
          exact (h1 h2).2.2.2 T hT e
      obtain ⟨e1, e2, e3⟩ := new_obj_then hok hbel hev.dr hBw (cs := shutL (cs.take n)) (vs := us.take n) (ext := us.drop n ++ ext) (T := T) (Tm := t) ht (by rw [← List.append_assoc, List.take_append_drop]; exact heap) (shutL_rel hp (hrel.take n))
      exact ⟨_, e1, e2, .osl _ off off' len cap k b e3 hoff hcap hm⟩
end
end Go.Pv

set_option maxHeartbeats 8000000
set_option maxRecDepth 200000
set_option linter.unusedSimpArgs false
set_option linter.unusedVariables false
/-! Tuples in order, each once, as a row of one's own. -/
namespace Go.Pv
open Go Go.Proofs
theorem srs_law (l : List (List Vl)) (h : l ≠ []) (hb : l.length * 24 ≤ 140737488355328) : ∃ cs', srs_W (rOf (cR cV) l) = some (.osl 1 0 (usort lexV l).length 1, ⟨[[.sl (rOf (cR cV) l) .own, .fn 16 []], cs'], [], [82, 1000023]⟩) ∧
    cs'.take (usort lexV l).length = oA cV (fun i => (usort lexV l).getD i []) (usort lexV l).length := by
  have T : Tot cT := by rw [cT_lexV]; exact lexV_tot
  obtain ⟨a1, a2, a3, a4, a5⟩ := cln_law l h hb (sO (rOf (cR cV) l))
  obtain ⟨f1, b1, b2, b3, b4⟩ := ssf_law T (sO (rOf (cR cV) l)) [] [] [] (fun i => l.getD i []) l.length (by omega)
  obtain ⟨k', g', cs', d1, d2, d3, d4, d5, d6, d7⟩ := cpt_law T (rOf (cR cV) l) [] [] [] f1 l.length (by cases l with | nil => exact absurd rfl h | cons a l => simp) (by omega) b3
  have e1 := d7.done T b4
  have e3 : (List.range l.length).map (fun i => l.getD i []) = l := by
    apply List.ext_getElem?
    intro i
    by_cases hi : i < l.length
    · simp [hi]
    · simp [hi]
  rw [e3, cT_lexV] at e1
  have e5 : (usort lexV l).length = k' := by rw [← e1]; simp
  refine ⟨cs', ?_, ?_⟩
  · rw [e5]
    simp only [sO] at a1 a2 a3 a4 a5 b1 b2 d1 d2 d3 d4
    unfold srs_W srs_Tr
    simp only [a1, a2, a3, a4, a5, b1, b2, d1, d2, d3, d4, Bool.false_eq_true, if_false, if_true, Tr.run_ite, Tr.run_ret]
  · rw [e5]
    apply List.ext_getElem?
    intro p
    by_cases hp : p < k'
    · rw [List.getElem?_take, if_pos hp, d6 p hp, oA_get cV hp]
      congr 3
      rw [← e1]
      simp [hp]
    · rw [List.getElem?_take, if_neg hp]
      simp [oA, hp]
/-- The row of one's own. -/
noncomputable def srtO (l : List (List PV)) : List PV := gObj (asOut (srs_W l)) 1
noncomputable def D_srd1 : List PV → Store → Tr (PV × Store)
  | [.agg [.sl l .non, .fn 16 []]], ⟨[], [], []⟩ => Tr.chk (okR (cR cV) l) (Tr.chk (bNot (xNil l)) (Tr.chk (okGrow [] l 24) (.ret (.osl 1 0 (nXs (srtV l)) 1, ⟨[[.sl l .own, .fn 16 []], srtO l], [], [82, 1000023]⟩))))
  | _, _ => .fail
theorem sim_srd1 (gl : Nat → Option Obj) : SimS Tryd.prog gl 61 fun args σ => (D_srd1 args σ).run := by
  refine SimS.of_own1 (sim_srs gl) ?_
  intro args σ x σ' h
  unfold D_srd1 at h
  split at h
  · rename_i l
    obtain ⟨h1, q⟩ := Tr.chk_some h
    obtain ⟨h2, q⟩ := Tr.chk_some q
    obtain ⟨h3, q⟩ := Tr.chk_some q
    cases q
    obtain ⟨m, rfl⟩ := okR_eq (cR cV) h1
    have hne : m ≠ [] := by rintro rfl; simp at h2
    refine ⟨_, .non, [.fn 16 []], rfl, (fun e => hne (by cases m with | nil => rfl | cons a m => cases e)), ?_⟩
    obtain ⟨cs', hw, _⟩ := srs_law m hne (by simp at h3; exact h3.1)
    have e0 : srtO (rOf (cR cV) m) = cs' := by rw [srtO, hw]; rfl
    have a1 : srs_o (rOf (cR cV) m) = 0 := by rw [srs_o, hw]; rfl
    have a2 : srs_m (rOf (cR cV) m) = (usort lexV m).length := by rw [srs_m, hw]; rfl
    have a3 : srs_r (rOf (cR cV) m) = rOf (cR cV) m := by rw [srs_r, hw]; rfl
    have a4 : srs_l (rOf (cR cV) m) = cs' := by rw [srs_l, hw]; rfl
    have a5 : srs_is0 (rOf (cR cV) m) = true := by rw [srs_is0, a1, a2, a3, a4, hw]; simp
    have e1 : nXs (srtV (rOf (cR cV) m)) = (usort lexV m).length := by rw [srtV_of, nXs_rOf]
    simp only [D_srs, a1, a2, a3, a4, a5, e0, e1, Tr.run_ite, if_true, Tr.run_ret]
  · cases h
theorem srtO_law (l : List (List Vl)) (h : l ≠ []) (hb : l.length * 24 ≤ 140737488355328) : (srtO (rOf (cR cV) l)).take (usort lexV l).length = oA cV (fun i => (usort lexV l).getD i []) (usort lexV l).length := by
  obtain ⟨cs', hw, hc⟩ := srs_law l h hb
  have e0 : srtO (rOf (cR cV) l) = cs' := by rw [srtO, hw]; rfl
  rw [e0, hc]
end Go.Pv

set_option maxHeartbeats 4000000
set_option maxRecDepth 200000
set_option linter.unusedSimpArgs false
set_option linter.unusedVariables false
namespace Go.Pv
open Go Go.Proofs
noncomputable def G_TSs : GamT := ofL [(16, .pure F_TCmp), (61, .store D_srd1), (62, .pure F_copied)]
theorem gok_TSs (gl : Nat → Option Obj) : GamOk Tryd.prog gl (gam G_TSs) := (gamOk_cons (sim_TCmp gl) (gamOk_store (sim_srd1 gl) (gamOk_cons (sim_copied gl) gamOk_nil)))
noncomputable def L_TSs : LpsT := fun r fr σ => .fail
noncomputable def TSs_Tr (l : List (List PV)) : Tr (PV × Store) := Tr.ite (copied_is0 (lockLL l)) (Tr.ite (okR (cR cV) (copied_r (lockLL l))) (Tr.ite (bNot (xNil (copied_r (lockLL l)))) (Tr.ite (okGrow [] (copied_r (lockLL l)) 24) (Tr.ret (PV.osl 1 0 (nXs (srtV (copied_r (lockLL l)))) 1, Store.mk [[PV.sl (copied_r (lockLL l)) .own, PV.fn 16 []], srtO (copied_r (lockLL l))] [] [82, 1000023])) Tr.fail) Tr.fail) Tr.fail) Tr.fail
theorem TSs_T (l : List (List PV)) : (tcallS tbT G_TSs L_TSs Tryd.f23 [.sl l .non] ⟨[], [], []⟩).flat = TSs_Tr l := by kernel_rfl
noncomputable def TSs_W (l : List (List PV)) : Option (PV × Store) := (TSs_Tr l).run
noncomputable def TSs_o (l : List (List PV)) : Nat := (gOff (gOut (asOut (TSs_W l)) 0))
noncomputable def TSs_m (l : List (List PV)) : Nat := (gLen (gOut (asOut (TSs_W l)) 0))
noncomputable def TSs_r (l : List (List PV)) : List (List PV) := (gRow (gAt (gObj (asOut (TSs_W l)) 0) 0))
noncomputable def TSs_l (l : List (List PV)) : List PV := (gObj (asOut (TSs_W l)) 1)
noncomputable def TSs_is0 (l : List (List PV)) : Bool := isW (TSs_W l) (.osl 1 (TSs_o l) (TSs_m l) 1, ⟨[[.sl (TSs_r l) .own, .fn 16 []], (TSs_l l)], [], [82, 1000023]⟩)
noncomputable def D_TSs : List PV → Store → Tr (PV × Store) | [.sl l .non], ⟨[], [], []⟩ => .ite (TSs_is0 l) (.ret (.osl 1 (TSs_o l) (TSs_m l) 1, ⟨[[.sl (TSs_r l) .own, .fn 16 []], (TSs_l l)], [], [82, 1000023]⟩)) (.fail) | _, _ => .fail
theorem sim_TSs (gl : Nat → Option Obj) : SimS Tryd.prog gl 23 fun args σ => (D_TSs args σ).run := by
  refine SimS.of_flat (G := G_TSs) (L := L_TSs) tbT_ok (gok_TSs gl ) noMixed Tryd.func23 rfl (by rfl) (by kernel_rfl) (loopOk_none (by kernel_rfl)) ?_
  intro args σ x h
  unfold D_TSs at h
  split at h
  · exact (congrArg Tr.run (TSs_T _)).trans (ite_isW h fun h => by cases h)
  · cases h
end Go.Pv

set_option maxHeartbeats 4000000
set_option maxRecDepth 200000
set_option linter.unusedSimpArgs false
set_option linter.unusedVariables false
namespace Go.Pv
open Go Go.Proofs
noncomputable def G_bsf : GamT := ofL [(16, .pure F_TCmp)]
theorem gok_bsf (gl : Nat → Option Obj) : GamOk Tryd.prog gl (gam G_bsf) := (gamOk_cons (sim_TCmp gl) gamOk_nil)
noncomputable def c_bsf1 : Code := loopC Tryd.f110 3
def I_bsf1 : LI := ⟨49, [0, 1, 2, 8, 9, 10], fun e => match e with | .exit 0 => [0, 1, 2, 8, 9] | _ => [], true⟩
noncomputable def LI_bsf1 : LpsT := fun r fr σ => .fail
noncomputable def bsf1_V (vs : List PV) (σ : Store) : Option (PExit × List PV × Store) := lval (lstep tbT G_bsf LI_bsf1 c_bsf1 I_bsf1) vs σ
noncomputable def bsf1_Tr (x_ : List (List PV)) (target : List (List PV)) (n : Int) (i : Int) (j : Int) : Tr LR := Tr.ite (iLt i j) (Tr.ite (okPos (iWrap .i64 (iShr .u64 (iWrap .u64 (iAdd .i64 i j)) 1))) (Tr.ite (okGet [PV.sl [] .full] x_ (nNat (iWrap .i64 (iShr .u64 (iWrap .u64 (iAdd .i64 i j)) 1)))) (Tr.ite (okR cV (lockLL (lockLL (xRow x_ (nNat (iWrap .i64 (iShr .u64 (iWrap .u64 (iAdd .i64 i j)) 1))) 0)))) (Tr.ite (okR cV (lockLL (lockLL target))) (Tr.ite (iLt (cmpTV (lockLL (lockLL (xRow x_ (nNat (iWrap .i64 (iShr .u64 (iWrap .u64 (iAdd .i64 i j)) 1))) 0))) (lockLL (lockLL target))) 0) (Tr.ret (LR.next [PV.sl x_ .non, PV.sl target .non, PV.fn 16 [], PV.int .i64 n, PV.int .i64 (iAdd .i64 (iWrap .i64 (iShr .u64 (iWrap .u64 (iAdd .i64 i j)) 1)) 1), PV.int .i64 j] (Store.mk [] [] []))) (Tr.ret (LR.next [PV.sl x_ .non, PV.sl target .non, PV.fn 16 [], PV.int .i64 n, PV.int .i64 i, PV.int .i64 (iWrap .i64 (iShr .u64 (iWrap .u64 (iAdd .i64 i j)) 1))] (Store.mk [] [] [])))) Tr.fail) Tr.fail) Tr.fail) Tr.fail) (Tr.ret (LR.out (.exit 0) [PV.sl x_ .non, PV.sl target .non, PV.fn 16 [], PV.int .i64 n, PV.int .i64 i] (Store.mk [] [] [])))
theorem bsf1_T (x_ : List (List PV)) (target : List (List PV)) (n : Int) (i : Int) (j : Int) : lstep tbT G_bsf LI_bsf1 c_bsf1 I_bsf1 [.sl x_ .non, .sl target .non, .fn 16 [], .int .i64 n, .int .i64 i, .int .i64 j] ⟨[], [], []⟩ = bsf1_Tr x_ target n i j := by kernel_rfl
theorem bsf1_E (x_ : List (List PV)) (target : List (List PV)) (n : Int) (i : Int) (j : Int) : bsf1_V [.sl x_ .non, .sl target .non, .fn 16 [], .int .i64 n, .int .i64 i, .int .i64 j] ⟨[], [], []⟩ = lnext bsf1_V (bsf1_Tr x_ target n i j).run := by unfold bsf1_V; rw [lval_eq, bsf1_T]
noncomputable def bsf1_W (x_ : List (List PV)) (target : List (List PV)) (n : Int) (i : Int) (j : Int) : Option (PExit × List PV × Store) := bsf1_V [.sl x_ .non, .sl target .non, .fn 16 [], .int .i64 n, .int .i64 i, .int .i64 j] ⟨[], [], []⟩
noncomputable def bsf1_x_ (x_ : List (List PV)) (target : List (List PV)) (n : Int) (i : Int) (j : Int) : List (List PV) := (gRow (gOut (bsf1_W x_ target n i j) 0))
noncomputable def bsf1_target (x_ : List (List PV)) (target : List (List PV)) (n : Int) (i : Int) (j : Int) : List (List PV) := (gRow (gOut (bsf1_W x_ target n i j) 1))
noncomputable def bsf1_n (x_ : List (List PV)) (target : List (List PV)) (n : Int) (i : Int) (j : Int) : Int := (gInt (gOut (bsf1_W x_ target n i j) 3))
noncomputable def bsf1_i (x_ : List (List PV)) (target : List (List PV)) (n : Int) (i : Int) (j : Int) : Int := (gInt (gOut (bsf1_W x_ target n i j) 4))
noncomputable def bsf1_is0 (x_ : List (List PV)) (target : List (List PV)) (n : Int) (i : Int) (j : Int) : Bool := isW (bsf1_W x_ target n i j) ((.exit 0), [.sl (bsf1_x_ x_ target n i j) .non, .sl (bsf1_target x_ target n i j) .non, .fn 16 [], .int .i64 (bsf1_n x_ target n i j), .int .i64 (bsf1_i x_ target n i j)], ⟨[], [], []⟩)
noncomputable def bsf1_prop : List PV → Store → Tr (PExit × List PV × Store) | [.sl x_ .non, .sl target .non, .fn 16 [], .int .i64 n, .int .i64 i, .int .i64 j], ⟨[], [], []⟩ => .ite (bsf1_is0 x_ target n i j) (.ret ((.exit 0), [.sl (bsf1_x_ x_ target n i j) .non, .sl (bsf1_target x_ target n i j) .non, .fn 16 [], .int .i64 (bsf1_n x_ target n i j), .int .i64 (bsf1_i x_ target n i j)], ⟨[], [], []⟩)) (.fail) | _, _ => .fail
theorem bsf1_ok : ∀ vs σ r, (bsf1_prop vs σ).run = some r → bsf1_V vs σ = some r := by
  intro vs σ r h
  unfold bsf1_prop at h
  split at h
  · exact ite_isW h fun h => by cases h
  · cases h
theorem loop_bsf1 (gl : Nat → Option Obj) : ∀ fr σ e fr' σ', (orc I_bsf1 bsf1_prop fr σ).run = some (e, fr', σ') → LDoes Tryd.prog gl c_bsf1 fr σ e fr' σ' := orc_ok tbT_ok (gok_bsf gl ) noMixed (L := LI_bsf1) (loopOk_none (by kernel_rfl)) (by kernel_rfl) bsf1_ok
noncomputable def L_bsf : LpsT := fun r fr σ => bif Nat.beq r 3 then orc I_bsf1 bsf1_prop fr σ else .fail
noncomputable def bsf_Tr (m : List (List PV)) (t : List (List PV)) : Tr PV := Tr.ite (bsf1_is0 m t (xLen m) 0 (xLen m)) (Tr.ite (iLt (bsf1_i m t (xLen m) 0 (xLen m)) (bsf1_n m t (xLen m) 0 (xLen m))) (Tr.ite (okPos (bsf1_i m t (xLen m) 0 (xLen m))) (Tr.ite (okGet [PV.sl [] .full] (bsf1_x_ m t (xLen m) 0 (xLen m)) (nNat (bsf1_i m t (xLen m) 0 (xLen m)))) (Tr.ite (okR cV (lockLL (lockLL (xRow (bsf1_x_ m t (xLen m) 0 (xLen m)) (nNat (bsf1_i m t (xLen m) 0 (xLen m))) 0)))) (Tr.ite (okR cV (lockLL (lockLL (bsf1_target m t (xLen m) 0 (xLen m))))) (Tr.ret (PV.tup [PV.int .i64 (bsf1_i m t (xLen m) 0 (xLen m)), PV.bool (iEq (cmpTV (lockLL (lockLL (xRow (bsf1_x_ m t (xLen m) 0 (xLen m)) (nNat (bsf1_i m t (xLen m) 0 (xLen m))) 0))) (lockLL (lockLL (bsf1_target m t (xLen m) 0 (xLen m))))) 0)])) Tr.fail) Tr.fail) Tr.fail) Tr.fail) (Tr.ret (PV.tup [PV.int .i64 (bsf1_i m t (xLen m) 0 (xLen m)), PV.bool false]))) Tr.fail
theorem bsf_T (m : List (List PV)) (t : List (List PV)) : (tcall tbT G_bsf L_bsf Tryd.f110 [.sl m .non, .sl t .non, .fn 16 []]).flat = bsf_Tr m t := by kernel_rfl
noncomputable def bsf_W (m : List (List PV)) (t : List (List PV)) : Option PV := (bsf_Tr m t).run
noncomputable def bsf_n (m : List (List PV)) (t : List (List PV)) : Int := (gInt (gAt (gCs (gVal (bsf_W m t))) 0))
noncomputable def bsf_b (m : List (List PV)) (t : List (List PV)) : Bool := (gBool (gAt (gCs (gVal (bsf_W m t))) 1))
noncomputable def bsf_is0 (m : List (List PV)) (t : List (List PV)) : Bool := isW (bsf_W m t) (.tup [.int .i64 (bsf_n m t), .bool (bsf_b m t)])
noncomputable def F_bsf : List PV → Tr PV | [.sl m .non, .sl t .non, .fn 16 []] => .ite (bsf_is0 m t) (.ret (.tup [.int .i64 (bsf_n m t), .bool (bsf_b m t)])) (.fail) | _ => .fail
theorem sim_bsf (gl : Nat → Option Obj) : SimP Tryd.prog gl 110 fun args => (F_bsf args).run := by
  refine SimP.of_flat (G := G_bsf) (L := L_bsf) tbT_ok (gok_bsf gl ) noMixed Tryd.func110 rfl (by rfl) (by kernel_rfl) (loopOk_all (L := lps L_bsf) [(3, c_bsf1)] (by kernel_rfl) (List.forall_mem_cons.2 ⟨fun fr σ e fr' σ' h => loop_bsf1 gl  fr σ e fr' σ' h, (List.forall_mem_nil _)⟩)) ?_
  intro args x h
  unfold F_bsf at h
  split at h
  · exact (congrArg Tr.run (bsf_T _ _)).trans (ite_isW h fun h => by cases h)
  · cases h
noncomputable def G_has : GamT := ofL [(16, .pure F_TCmp), (110, .pure F_bsf)]
theorem gok_has (gl : Nat → Option Obj) : GamOk Tryd.prog gl (gam G_has) := (gamOk_cons (sim_TCmp gl) (gamOk_cons (sim_bsf gl) gamOk_nil))
noncomputable def L_has : LpsT := fun r fr σ => .fail
noncomputable def has_Tr (m : List (List PV)) (t : List (List PV)) : Tr PV := Tr.ite (bsf_is0 (lockLL m) (lockLL t)) (Tr.ret (PV.bool (bsf_b (lockLL m) (lockLL t)))) Tr.fail
theorem has_T (m : List (List PV)) (t : List (List PV)) : (tcall tbT G_has L_has Tryd.f90 [.agg [.sl m .non, .fn 16 []], .sl t .non]).flat = has_Tr m t := by kernel_rfl
noncomputable def has_W (m : List (List PV)) (t : List (List PV)) : Option PV := (has_Tr m t).run
noncomputable def has_b (m : List (List PV)) (t : List (List PV)) : Bool := (gBool (gVal (has_W m t)))
noncomputable def has_is0 (m : List (List PV)) (t : List (List PV)) : Bool := isW (has_W m t) (.bool (has_b m t))
noncomputable def F_has : List PV → Tr PV | [.agg [.sl m .non, .fn 16 []], .sl t .non] => .ite (has_is0 m t) (.ret (.bool (has_b m t))) (.fail) | _ => .fail
theorem sim_has (gl : Nat → Option Obj) : SimP Tryd.prog gl 90 fun args => (F_has args).run := by
  refine SimP.of_flat (G := G_has) (L := L_has) tbT_ok (gok_has gl ) noMixed Tryd.func90 rfl (by rfl) (by kernel_rfl) (loopOk_none (by kernel_rfl)) ?_
  intro args x h
  unfold F_has at h
  split at h
  · exact (congrArg Tr.run (has_T _ _)).trans (ite_isW h fun h => by cases h)
  · cases h
noncomputable def G_set0 : GamT := ofL [(16, .pure F_TCmp), (23, .pure F_TSorted)]
theorem gok_set0 (gl : Nat → Option Obj) : GamOk Tryd.prog gl (gam G_set0) := (gamOk_cons (sim_TCmp gl) (gamOk_cons (sim_TSorted gl) gamOk_nil))
noncomputable def L_set0 : LpsT := fun r fr σ => .fail
noncomputable def set0_Tr (l : List (List PV)) : Tr PV := Tr.ite (TSorted_is0 (lockLL l)) (Tr.ret (PV.agg [PV.sl (shutLL (TSorted_r (lockLL l))) .non, PV.fn 16 []])) Tr.fail
theorem set0_T (l : List (List PV)) : (tcall tbT G_set0 L_set0 Tryd.f87 [.sl l .non]).flat = set0_Tr l := by kernel_rfl
noncomputable def F_set0 : List PV → Tr PV | [.sl l .non] => set0_Tr l | _ => .fail
theorem sim_set0 (gl : Nat → Option Obj) : SimP Tryd.prog gl 87 fun args => (F_set0 args).run := by
  refine SimP.of_flat (G := G_set0) (L := L_set0) tbT_ok (gok_set0 gl ) noMixed Tryd.func87 rfl (by rfl) (by kernel_rfl) (loopOk_none (by kernel_rfl)) ?_
  intro args x h
  unfold F_set0 at h
  split at h
  · exact (congrArg Tr.run (set0_T _)).trans h
  · cases h
noncomputable def G_smc : GamT := ofL [(16, .pure F_TCmp), (90, .pure F_has)]
theorem gok_smc (gl : Nat → Option Obj) : GamOk Tryd.prog gl (gam G_smc) := (gamOk_cons (sim_TCmp gl) (gamOk_cons (sim_has gl) gamOk_nil))
noncomputable def L_smc : LpsT := fun r fr σ => .fail
noncomputable def smc_Tr (t : List (List PV)) (m : List (List PV)) (b : Bool) : Tr PV := Tr.ite (has_is0 (lockLL m) (lockLL t)) (Tr.ret (PV.bool (bNot (bEq (has_b (lockLL m) (lockLL t)) b)))) Tr.fail
theorem smc_T (t : List (List PV)) (m : List (List PV)) (b : Bool) : (tcall tbT G_smc L_smc Tryd.f89 [.sl t .non, .ref [.sl m .non, .fn 16 []], .ref [.bool b]]).flat = smc_Tr t m b := by kernel_rfl
noncomputable def smc_W (t : List (List PV)) (m : List (List PV)) (b : Bool) : Option PV := (smc_Tr t m b).run
noncomputable def smc_b (t : List (List PV)) (m : List (List PV)) (b : Bool) : Bool := (gBool (gVal (smc_W t m b)))
noncomputable def smc_is0 (t : List (List PV)) (m : List (List PV)) (b : Bool) : Bool := isW (smc_W t m b) (.bool (smc_b t m b))
noncomputable def F_smc : List PV → Tr PV | [.sl t .non, .ref [.sl m .non, .fn 16 []], .ref [.bool b]] => .ite (smc_is0 t m b) (.ret (.bool (smc_b t m b))) (.fail) | _ => .fail
theorem sim_smc (gl : Nat → Option Obj) : SimP Tryd.prog gl 89 fun args => (F_smc args).run := by
  refine SimP.of_flat (G := G_smc) (L := L_smc) tbT_ok (gok_smc gl ) noMixed Tryd.func89 rfl (by rfl) (by kernel_rfl) (loopOk_none (by kernel_rfl)) ?_
  intro args x h
  unfold F_smc at h
  split at h
  · exact (congrArg Tr.run (smc_T _ _ _)).trans (ite_isW h fun h => by cases h)
  · cases h
end Go.Pv

set_option maxHeartbeats 4000000
set_option maxRecDepth 200000
set_option linter.unusedSimpArgs false
set_option linter.unusedVariables false
/-! A search that halves a row in order; is a tuple there. -/
namespace Go.Pv
open Go Go.Proofs
theorem ssrt_get {l : List (List Vl)} (h : SSrt lexV l) {p q : Nat} (h1 : p < q) (h2 : q < l.length) : lexV (l[p]?.getD []) (l[q]?.getD []) < 0 := by
  have := List.pairwise_iff_getElem.1 h p q (by omega) h2 h1
  rw [List.getElem?_eq_getElem (by omega), List.getElem?_eq_getElem h2]
  exact this
theorem bsf_loop (m : List (List Vl)) (t : List Vl) (hm : m.length ≤ 1000000) (hs : SSrt lexV m) :
    ∃ i' : Nat, bsf1_V [.sl (rOf (cR cV) m) .non, .sl (rOf cV t) .non, .fn 16 [], .int .i64 (m.length : Nat), .int .i64 ((0 : Nat) : Int), .int .i64 (m.length : Nat)] ⟨[], [], []⟩ = some (.exit 0, [.sl (rOf (cR cV) m) .non, .sl (rOf cV t) .non, .fn 16 [], .int .i64 (m.length : Nat), .int .i64 (i' : Nat)], ⟨[], [], []⟩) ∧ 0 ≤ i' ∧
      i' ≤ m.length ∧ (∀ p, 0 ≤ p → p < i' → lexV (m[p]?.getD []) t < 0) ∧ (∀ p, i' ≤ p → p < m.length → ¬ lexV (m[p]?.getD []) t < 0) := by
  refine halves (fun i j => bsf1_V [.sl (rOf (cR cV) m) .non, .sl (rOf cV t) .non, .fn 16 [], .int .i64 (m.length : Nat), .int .i64 (i : Nat), .int .i64 (j : Nat)] ⟨[], [], []⟩) (fun i' => some (.exit 0, [.sl (rOf (cR cV) m) .non, .sl (rOf cV t) .non, .fn 16 [], .int .i64 (m.length : Nat), .int .i64 (i' : Nat)], ⟨[], [], []⟩)) (fun p => lexV (m[p]?.getD []) t < 0) 0 m.length ?_ ?_ ?_ m.length 0 m.length (by omega) (by omega) (by omega) (by omega) (fun p _ _ => by omega) (fun p _ _ => by omega)
  · intro i j h1 h2 h3
    have k1 : (i + j) / 2 < m.length := by omega
    have w := inc_i64 (i := (i + j) / 2) (by omega)
    have hh := half_N (a := i) (b := j) (by omega)
    constructor
    · intro q
      rw [bsf1_E]
      unfold bsf1_Tr
      simp only [hh]
      generalize (i + j) / 2 = d at *
      rw [List.getElem?_eq_getElem k1] at q
      simp only [Option.getD_some] at q
      simp [h2, k1, q, w]
    · intro q
      rw [bsf1_E]
      unfold bsf1_Tr
      simp only [hh]
      generalize (i + j) / 2 = d at *
      rw [List.getElem?_eq_getElem k1] at q
      simp only [Option.getD_some] at q
      simp [h2, k1, q, w]
  · intro i h1 h2
    rw [bsf1_E]
    simp [bsf1_Tr]
  · intro p q h1 h2 h3 h4
    exact lexV_tot.trans _ _ _ (ssrt_get hs h2 h3) h4
theorem bsf_law (m : List (List Vl)) (t : List Vl) (hm : m.length ≤ 1000000) (hs : SSrt lexV m) : bsf_is0 (rOf (cR cV) m) (rOf cV t) = true ∧ bsf_b (rOf (cR cV) m) (rOf cV t) = plB lexV t m := by
  obtain ⟨i, h, _, hi, h1, h2⟩ := bsf_loop m t hm hs
  simp only [Int.natCast_zero] at h
  have key : bsf_W (rOf (cR cV) m) (rOf cV t) = some (.tup [.int .i64 (i : Nat), .bool (plB lexV t m)]) := by
    unfold bsf_W bsf_Tr
    by_cases hlt : i < m.length
    · have hb : plB lexV t m = decide (lexV (m[i]?.getD []) t = 0) := by
        have e := plB_iff lexV_tot t m
        by_cases hc : lexV (m[i]?.getD []) t = 0
        · have : t ∈ m := by
            have := (lexV_tot.zero _ _).1 hc
            rw [← this, List.getElem?_eq_getElem hlt]
            exact List.getElem_mem hlt
          simp [hc, e.2 this]
        · have : ¬ t ∈ m := by
            intro hmem
            obtain ⟨p, hp, hpt⟩ := List.mem_iff_getElem.1 hmem
            have hp0 : lexV (m[p]?.getD []) t = 0 := by rw [List.getElem?_eq_getElem hp, ← hpt]; exact lexV_tot.self _
            by_cases hpi : p < i
            · have := h1 p (Nat.zero_le _) hpi; omega
            · by_cases hpe : p = i
              · subst hpe; exact hc hp0
              · have := ssrt_get hs (p := i) (q := p) (by omega) hp
                have h3 := h2 i (Nat.le_refl _) hlt
                have h4 := (lexV_tot.zero _ _).1 hp0
                rw [h4] at this
                exact h3 this
          cases hx : plB lexV t m with
          | true => exact absurd (e.1 hx) this
          | false => simp [hc]
      simp [bsf1_is0, bsf1_i, bsf1_n, bsf1_x_, bsf1_target, bsf1_W, h, hlt, hb]
    · have hb : plB lexV t m = false := by
        have e := plB_iff lexV_tot t m
        cases hx : plB lexV t m with
        | false => rfl
        | true =>
          obtain ⟨p, hp, hpt⟩ := List.mem_iff_getElem.1 (e.1 hx)
          have := h1 p (Nat.zero_le _) (by omega)
          rw [List.getElem?_eq_getElem hp] at this
          have h0 := lexV_tot.self t
          rw [← hpt] at h0
          simp only [Option.getD_some] at this
          rw [← hpt] at this
          omega
      simp [bsf1_is0, bsf1_i, bsf1_n, bsf1_x_, bsf1_target, bsf1_W, h, hlt, hb]
  constructor
  · simp [bsf_is0, bsf_n, bsf_b, key]
  · simp [bsf_b, key]
/-- Not as it is asked: what DeleteFunc's function tells. -/
theorem smc_law (t : List Vl) (m : List (List Vl)) (b : Bool) (hm : m.length ≤ 1000000) (hs : SSrt lexV m) : smc_is0 (rOf cV t) (rOf (cR cV) m) b = true ∧ smc_b (rOf cV t) (rOf (cR cV) m) b = !(plB lexV t m == b) := by
  obtain ⟨h1, h2⟩ := bsf_law m t hm hs
  have h3 : has_W (rOf (cR cV) m) (rOf cV t) = some (.bool (plB lexV t m)) := by simp [has_W, has_Tr, h1, h2]
  have h4 : has_is0 (rOf (cR cV) m) (rOf cV t) = true := by simp [has_is0, has_b, h3]
  have h5 : has_b (rOf (cR cV) m) (rOf cV t) = plB lexV t m := by simp [has_b, h3]
  have h6 : smc_W (rOf cV t) (rOf (cR cV) m) b = some (.bool (!(plB lexV t m == b))) := by
    simp only [smc_W, smc_Tr, lockLL_rOf, h4, h5, Tr.run_ite, if_true, Tr.run_ret]
    cases plB lexV t m <;> cases b <;> rfl
  exact ⟨by simp [smc_is0, smc_b, h6], by simp [smc_b, h6]⟩
end Go.Pv

set_option maxHeartbeats 4000000
set_option maxRecDepth 200000
set_option linter.unusedSimpArgs false
set_option linter.unusedVariables false
namespace Go.Pv
open Go Go.Proofs
noncomputable def G_idx : GamT := ofL [(89, .pure F_smc)]
theorem gok_idx (gl : Nat → Option Obj) : GamOk Tryd.prog gl (gam G_idx) := (gamOk_cons (sim_smc gl) gamOk_nil)
noncomputable def c_idx1 : Code := loopC Tryd.f109 2
def I_idx1 : LI := ⟨19, [0, 1, 7, 8], fun e => match e with | .ret => [4] | .exit 0 => [] | _ => [], false⟩
noncomputable def LI_idx1 : LpsT := fun r fr σ => .fail
noncomputable def idx1_V (vs : List PV) (σ : Store) : Option (PExit × List PV × Store) := lval (lstep tbT G_idx LI_idx1 c_idx1 I_idx1) vs σ
noncomputable def idx1_Tr (s : Nat) (s2 : Nat) (n : Int) (n2 : Int) (b : Bool) (r : List (List PV)) (l : List PV) (rest : List (List PV)) (toks : List (Nat × Nat × TypeId)) (tys : List TypeId) : Tr LR := Tr.ite (iLt n2 n) (Tr.ite (okIx n2 s2) (Tr.ite (okCell [PV.sl [] .full] l (pOff s (nNat n2) 1)) (Tr.ite (smc_is0 (lockLL (cRow l (pOff s (nNat n2) 1) 0)) (lockLL r) b) (Tr.ite (smc_b (lockLL (cRow l (pOff s (nNat n2) 1) 0)) (lockLL r) b) (Tr.ret (LR.out .ret [PV.int .i64 n2] (Store.mk ([PV.bool b] :: [PV.sl r .non, PV.fn 16 []] :: l :: rest) toks (4 :: 82 :: 1000023 :: tys)))) (Tr.ret (LR.next [PV.osl 2 s s2 1, PV.fn 89 [PV.ptr 1 0, PV.ptr 0 0], PV.int .i64 n, PV.int .i64 (iAdd .i64 n2 1)] (Store.mk ([PV.bool b] :: [PV.sl r .non, PV.fn 16 []] :: l :: rest) toks (4 :: 82 :: 1000023 :: tys))))) Tr.fail) Tr.fail) Tr.fail) (Tr.ret (LR.out (.exit 0) [] (Store.mk ([PV.bool b] :: [PV.sl r .non, PV.fn 16 []] :: l :: rest) toks (4 :: 82 :: 1000023 :: tys))))
theorem idx1_T (s : Nat) (s2 : Nat) (n : Int) (n2 : Int) (b : Bool) (r : List (List PV)) (l : List PV) (rest : List (List PV)) (toks : List (Nat × Nat × TypeId)) (tys : List TypeId) : lstep tbT G_idx LI_idx1 c_idx1 I_idx1 [.osl 2 s s2 1, .fn 89 [.ptr 1 0, .ptr 0 0], .int .i64 n, .int .i64 n2] ⟨([.bool b] :: [.sl r .non, .fn 16 []] :: l :: rest), (toks), (4 :: 82 :: 1000023 :: tys)⟩ = idx1_Tr s s2 n n2 b r l rest toks tys := by kernel_rfl
theorem idx1_E (s : Nat) (s2 : Nat) (n : Int) (n2 : Int) (b : Bool) (r : List (List PV)) (l : List PV) (rest : List (List PV)) (toks : List (Nat × Nat × TypeId)) (tys : List TypeId) : idx1_V [.osl 2 s s2 1, .fn 89 [.ptr 1 0, .ptr 0 0], .int .i64 n, .int .i64 n2] ⟨([.bool b] :: [.sl r .non, .fn 16 []] :: l :: rest), (toks), (4 :: 82 :: 1000023 :: tys)⟩ = lnext idx1_V (idx1_Tr s s2 n n2 b r l rest toks tys).run := by unfold idx1_V; rw [lval_eq, idx1_T]
noncomputable def idx1_W (s : Nat) (s2 : Nat) (n : Int) (n2 : Int) (b : Bool) (r : List (List PV)) (l : List PV) (rest : List (List PV)) (toks : List (Nat × Nat × TypeId)) (tys : List TypeId) : Option (PExit × List PV × Store) := idx1_V [.osl 2 s s2 1, .fn 89 [.ptr 1 0, .ptr 0 0], .int .i64 n, .int .i64 n2] ⟨([.bool b] :: [.sl r .non, .fn 16 []] :: l :: rest), (toks), (4 :: 82 :: 1000023 :: tys)⟩
noncomputable def idx1_n_0 (s : Nat) (s2 : Nat) (n : Int) (n2 : Int) (b : Bool) (r : List (List PV)) (l : List PV) (rest : List (List PV)) (toks : List (Nat × Nat × TypeId)) (tys : List TypeId) : Int := (gInt (gOut (idx1_W s s2 n n2 b r l rest toks tys) 0))
noncomputable def idx1_l_0 (s : Nat) (s2 : Nat) (n : Int) (n2 : Int) (b : Bool) (r : List (List PV)) (l : List PV) (rest : List (List PV)) (toks : List (Nat × Nat × TypeId)) (tys : List TypeId) : List PV := (gObj (idx1_W s s2 n n2 b r l rest toks tys) 2)
noncomputable def idx1_is0 (s : Nat) (s2 : Nat) (n : Int) (n2 : Int) (b : Bool) (r : List (List PV)) (l : List PV) (rest : List (List PV)) (toks : List (Nat × Nat × TypeId)) (tys : List TypeId) : Bool := isW (idx1_W s s2 n n2 b r l rest toks tys) (.ret, [.int .i64 (idx1_n_0 s s2 n n2 b r l rest toks tys)], ⟨([.bool b] :: [.sl r .non, .fn 16 []] :: (idx1_l_0 s s2 n n2 b r l rest toks tys) :: rest), (toks), (4 :: 82 :: 1000023 :: tys)⟩)
noncomputable def idx1_l_1 (s : Nat) (s2 : Nat) (n : Int) (n2 : Int) (b : Bool) (r : List (List PV)) (l : List PV) (rest : List (List PV)) (toks : List (Nat × Nat × TypeId)) (tys : List TypeId) : List PV := (gObj (idx1_W s s2 n n2 b r l rest toks tys) 2)
noncomputable def idx1_is1 (s : Nat) (s2 : Nat) (n : Int) (n2 : Int) (b : Bool) (r : List (List PV)) (l : List PV) (rest : List (List PV)) (toks : List (Nat × Nat × TypeId)) (tys : List TypeId) : Bool := isW (idx1_W s s2 n n2 b r l rest toks tys) ((.exit 0), [], ⟨([.bool b] :: [.sl r .non, .fn 16 []] :: (idx1_l_1 s s2 n n2 b r l rest toks tys) :: rest), (toks), (4 :: 82 :: 1000023 :: tys)⟩)
noncomputable def idx1_prop : List PV → Store → Tr (PExit × List PV × Store) | [.osl 2 s s2 1, .fn 89 [.ptr 1 0, .ptr 0 0], .int .i64 n, .int .i64 n2], ⟨([.bool b] :: [.sl r .non, .fn 16 []] :: l :: rest), (toks), (4 :: 82 :: 1000023 :: tys)⟩ => .ite (idx1_is0 s s2 n n2 b r l rest toks tys) (.ret (.ret, [.int .i64 (idx1_n_0 s s2 n n2 b r l rest toks tys)], ⟨([.bool b] :: [.sl r .non, .fn 16 []] :: (idx1_l_0 s s2 n n2 b r l rest toks tys) :: rest), (toks), (4 :: 82 :: 1000023 :: tys)⟩)) (.ite (idx1_is1 s s2 n n2 b r l rest toks tys) (.ret ((.exit 0), [], ⟨([.bool b] :: [.sl r .non, .fn 16 []] :: (idx1_l_1 s s2 n n2 b r l rest toks tys) :: rest), (toks), (4 :: 82 :: 1000023 :: tys)⟩)) (.fail)) | _, _ => .fail
theorem idx1_ok : ∀ vs σ r, (idx1_prop vs σ).run = some r → idx1_V vs σ = some r := by
  intro vs σ r h
  unfold idx1_prop at h
  split at h
  · exact ite_isW h fun h => ite_isW h fun h => by cases h
  · cases h
theorem loop_idx1 (gl : Nat → Option Obj) : ∀ fr σ e fr' σ', (orc I_idx1 idx1_prop fr σ).run = some (e, fr', σ') → LDoes Tryd.prog gl c_idx1 fr σ e fr' σ' := orc_ok tbT_ok (gok_idx gl ) noMixed (L := LI_idx1) (loopOk_none (by kernel_rfl)) (by kernel_rfl) idx1_ok
noncomputable def L_idx : LpsT := fun r fr σ => bif Nat.beq r 2 then orc I_idx1 idx1_prop fr σ else .fail
noncomputable def idx_Tr (off : Nat) (len : Nat) (b : Bool) (m : List (List PV)) (cs : List PV) (rest : List (List PV)) (toks : List (Nat × Nat × TypeId)) (tys : List TypeId) : Tr (PV × Store) := Tr.ite (idx1_is0 off len (oLen len) 0 b m cs rest toks tys) (Tr.ret (PV.int .i64 (idx1_n_0 off len (oLen len) 0 b m cs rest toks tys), Store.mk ([PV.bool b] :: [PV.sl m .non, PV.fn 16 []] :: idx1_l_0 off len (oLen len) 0 b m cs rest toks tys :: rest) toks (4 :: 82 :: 1000023 :: tys))) (Tr.ite (idx1_is1 off len (oLen len) 0 b m cs rest toks tys) (Tr.ret (PV.int .i64 (-1), Store.mk ([PV.bool b] :: [PV.sl m .non, PV.fn 16 []] :: idx1_l_1 off len (oLen len) 0 b m cs rest toks tys :: rest) toks (4 :: 82 :: 1000023 :: tys))) Tr.fail)
theorem idx_T (off : Nat) (len : Nat) (b : Bool) (m : List (List PV)) (cs : List PV) (rest : List (List PV)) (toks : List (Nat × Nat × TypeId)) (tys : List TypeId) : (tcallS tbT G_idx L_idx Tryd.f109 [.osl 2 off len 1, .fn 89 [.ptr 1 0, .ptr 0 0]] ⟨[.bool b] :: [.sl m .non, .fn 16 []] :: cs :: rest, toks, 4 :: 82 :: 1000023 :: tys⟩).flat = idx_Tr off len b m cs rest toks tys := by kernel_rfl
noncomputable def idx_W (off : Nat) (len : Nat) (b : Bool) (m : List (List PV)) (cs : List PV) (rest : List (List PV)) (toks : List (Nat × Nat × TypeId)) (tys : List TypeId) : Option (PV × Store) := (idx_Tr off len b m cs rest toks tys).run
noncomputable def idx_n (off : Nat) (len : Nat) (b : Bool) (m : List (List PV)) (cs : List PV) (rest : List (List PV)) (toks : List (Nat × Nat × TypeId)) (tys : List TypeId) : Int := (gInt (gOut (asOut (idx_W off len b m cs rest toks tys)) 0))
noncomputable def idx_l (off : Nat) (len : Nat) (b : Bool) (m : List (List PV)) (cs : List PV) (rest : List (List PV)) (toks : List (Nat × Nat × TypeId)) (tys : List TypeId) : List PV := (gObj (asOut (idx_W off len b m cs rest toks tys)) 2)
noncomputable def idx_is0 (off : Nat) (len : Nat) (b : Bool) (m : List (List PV)) (cs : List PV) (rest : List (List PV)) (toks : List (Nat × Nat × TypeId)) (tys : List TypeId) : Bool := isW (idx_W off len b m cs rest toks tys) (.int .i64 (idx_n off len b m cs rest toks tys), ⟨([.bool b] :: [.sl m .non, .fn 16 []] :: (idx_l off len b m cs rest toks tys) :: rest), (toks), (4 :: 82 :: 1000023 :: tys)⟩)
noncomputable def D_idx : List PV → Store → Tr (PV × Store) | [.osl 2 off len 1, .fn 89 [.ptr 1 0, .ptr 0 0]], ⟨[.bool b] :: [.sl m .non, .fn 16 []] :: cs :: rest, toks, 4 :: 82 :: 1000023 :: tys⟩ => .ite (idx_is0 off len b m cs rest toks tys) (.ret (.int .i64 (idx_n off len b m cs rest toks tys), ⟨([.bool b] :: [.sl m .non, .fn 16 []] :: (idx_l off len b m cs rest toks tys) :: rest), (toks), (4 :: 82 :: 1000023 :: tys)⟩)) (.fail) | _, _ => .fail
theorem sim_idx (gl : Nat → Option Obj) : SimS Tryd.prog gl 109 fun args σ => (D_idx args σ).run := by
  refine SimS.of_flat (G := G_idx) (L := L_idx) tbT_ok (gok_idx gl ) noMixed Tryd.func109 rfl (by rfl) (by kernel_rfl) (loopOk_all (L := lps L_idx) [(2, c_idx1)] (by kernel_rfl) (List.forall_mem_cons.2 ⟨fun fr σ e fr' σ' h => loop_idx1 gl  fr σ e fr' σ' h, (List.forall_mem_nil _)⟩)) ?_
  intro args σ x h
  unfold D_idx at h
  split at h
  · exact (congrArg Tr.run (idx_T _ _ _ _ _ _ _ _)).trans (ite_isW h fun h => by cases h)
  · cases h
noncomputable def G_del : GamT := ofL [(89, .pure F_smc), (109, .store D_idx)]
theorem gok_del (gl : Nat → Option Obj) : GamOk Tryd.prog gl (gam G_del) := (gamOk_cons (sim_smc gl) (gamOk_store (sim_idx gl) gamOk_nil))
noncomputable def c_del1 : Code := loopC Tryd.f88 5
def I_del1 : LI := ⟨42, [0, 1, 5, 6], fun e => match e with | .exit 0 => [0, 5] | _ => [], false⟩
noncomputable def LI_del1 : LpsT := fun r fr σ => .fail
noncomputable def del1_V (vs : List PV) (σ : Store) : Option (PExit × List PV × Store) := lval (lstep tbT G_del LI_del1 c_del1 I_del1) vs σ
noncomputable def del1_Tr (s : Nat) (s2 : Nat) (i : Int) (j : Int) (b : Bool) (r : List (List PV)) (l : List PV) (rest : List (List PV)) (toks : List (Nat × Nat × TypeId)) (tys : List TypeId) : Tr LR := Tr.ite (iLt j (oLen s2)) (Tr.ite (okIx j s2) (Tr.ite (okCell [PV.sl [] .full] l (pOff s (nNat j) 1)) (Tr.ite (smc_is0 (lockLL (cRow l (pOff s (nNat j) 1) 0)) (lockLL r) b) (Tr.ite (bNot (smc_b (lockLL (cRow l (pOff s (nNat j) 1) 0)) (lockLL r) b)) (Tr.ite (okIx i s2) (Tr.ite (okOff l (pOff s (nNat i) 1) 1) (Tr.ret (LR.next [PV.osl 2 s s2 1, PV.fn 89 [PV.ptr 1 0, PV.ptr 0 0], PV.int .i64 (iAdd .i64 i 1), PV.int .i64 (iAdd .i64 j 1)] (Store.mk ([PV.bool b] :: [PV.sl r .non, PV.fn 16 []] :: putC l (pOff s (nNat i) 1) [PV.sl (cRow l (pOff s (nNat j) 1) 0) .non] :: rest) toks (4 :: 82 :: 1000023 :: tys)))) Tr.fail) Tr.fail) (Tr.ret (LR.next [PV.osl 2 s s2 1, PV.fn 89 [PV.ptr 1 0, PV.ptr 0 0], PV.int .i64 i, PV.int .i64 (iAdd .i64 j 1)] (Store.mk ([PV.bool b] :: [PV.sl r .non, PV.fn 16 []] :: l :: rest) toks (4 :: 82 :: 1000023 :: tys))))) Tr.fail) Tr.fail) Tr.fail) (Tr.ret (LR.out (.exit 0) [PV.osl 2 s s2 1, PV.int .i64 i] (Store.mk ([PV.bool b] :: [PV.sl r .non, PV.fn 16 []] :: l :: rest) toks (4 :: 82 :: 1000023 :: tys))))
theorem del1_T (s : Nat) (s2 : Nat) (i : Int) (j : Int) (b : Bool) (r : List (List PV)) (l : List PV) (rest : List (List PV)) (toks : List (Nat × Nat × TypeId)) (tys : List TypeId) : lstep tbT G_del LI_del1 c_del1 I_del1 [.osl 2 s s2 1, .fn 89 [.ptr 1 0, .ptr 0 0], .int .i64 i, .int .i64 j] ⟨([.bool b] :: [.sl r .non, .fn 16 []] :: l :: rest), (toks), (4 :: 82 :: 1000023 :: tys)⟩ = del1_Tr s s2 i j b r l rest toks tys := by kernel_rfl
theorem del1_E (s : Nat) (s2 : Nat) (i : Int) (j : Int) (b : Bool) (r : List (List PV)) (l : List PV) (rest : List (List PV)) (toks : List (Nat × Nat × TypeId)) (tys : List TypeId) : del1_V [.osl 2 s s2 1, .fn 89 [.ptr 1 0, .ptr 0 0], .int .i64 i, .int .i64 j] ⟨([.bool b] :: [.sl r .non, .fn 16 []] :: l :: rest), (toks), (4 :: 82 :: 1000023 :: tys)⟩ = lnext del1_V (del1_Tr s s2 i j b r l rest toks tys).run := by unfold del1_V; rw [lval_eq, del1_T]
noncomputable def del1_W (s : Nat) (s2 : Nat) (i : Int) (j : Int) (b : Bool) (r : List (List PV)) (l : List PV) (rest : List (List PV)) (toks : List (Nat × Nat × TypeId)) (tys : List TypeId) : Option (PExit × List PV × Store) := del1_V [.osl 2 s s2 1, .fn 89 [.ptr 1 0, .ptr 0 0], .int .i64 i, .int .i64 j] ⟨([.bool b] :: [.sl r .non, .fn 16 []] :: l :: rest), (toks), (4 :: 82 :: 1000023 :: tys)⟩
noncomputable def del1_i (s : Nat) (s2 : Nat) (i : Int) (j : Int) (b : Bool) (r : List (List PV)) (l : List PV) (rest : List (List PV)) (toks : List (Nat × Nat × TypeId)) (tys : List TypeId) : Int := (gInt (gOut (del1_W s s2 i j b r l rest toks tys) 1))
noncomputable def del1_l (s : Nat) (s2 : Nat) (i : Int) (j : Int) (b : Bool) (r : List (List PV)) (l : List PV) (rest : List (List PV)) (toks : List (Nat × Nat × TypeId)) (tys : List TypeId) : List PV := (gObj (del1_W s s2 i j b r l rest toks tys) 2)
noncomputable def del1_is0 (s : Nat) (s2 : Nat) (i : Int) (j : Int) (b : Bool) (r : List (List PV)) (l : List PV) (rest : List (List PV)) (toks : List (Nat × Nat × TypeId)) (tys : List TypeId) : Bool := isW (del1_W s s2 i j b r l rest toks tys) ((.exit 0), [.osl 2 s s2 1, .int .i64 (del1_i s s2 i j b r l rest toks tys)], ⟨([.bool b] :: [.sl r .non, .fn 16 []] :: (del1_l s s2 i j b r l rest toks tys) :: rest), (toks), (4 :: 82 :: 1000023 :: tys)⟩)
noncomputable def del1_prop : List PV → Store → Tr (PExit × List PV × Store) | [.osl 2 s s2 1, .fn 89 [.ptr 1 0, .ptr 0 0], .int .i64 i, .int .i64 j], ⟨([.bool b] :: [.sl r .non, .fn 16 []] :: l :: rest), (toks), (4 :: 82 :: 1000023 :: tys)⟩ => .ite (del1_is0 s s2 i j b r l rest toks tys) (.ret ((.exit 0), [.osl 2 s s2 1, .int .i64 (del1_i s s2 i j b r l rest toks tys)], ⟨([.bool b] :: [.sl r .non, .fn 16 []] :: (del1_l s s2 i j b r l rest toks tys) :: rest), (toks), (4 :: 82 :: 1000023 :: tys)⟩)) (.fail) | _, _ => .fail
theorem del1_ok : ∀ vs σ r, (del1_prop vs σ).run = some r → del1_V vs σ = some r := by
  intro vs σ r h
  unfold del1_prop at h
  split at h
  · exact ite_isW h fun h => by cases h
  · cases h
theorem loop_del1 (gl : Nat → Option Obj) : ∀ fr σ e fr' σ', (orc I_del1 del1_prop fr σ).run = some (e, fr', σ') → LDoes Tryd.prog gl c_del1 fr σ e fr' σ' := orc_ok tbT_ok (gok_del gl ) noMixed (L := LI_del1) (loopOk_none (by kernel_rfl)) (by kernel_rfl) del1_ok
noncomputable def L_del : LpsT := fun r fr σ => bif Nat.beq r 5 then orc I_del1 del1_prop fr σ else .fail
noncomputable def del_Tr (off : Nat) (len : Nat) (b : Bool) (m : List (List PV)) (cs : List PV) (rest : List (List PV)) (toks : List (Nat × Nat × TypeId)) (tys : List TypeId) : Tr (PV × Store) := Tr.ite (idx_is0 off len b m cs rest toks tys) (Tr.ite (iEq (idx_n off len b m cs rest toks tys) (-1)) (Tr.ret (PV.osl 2 off len 1, Store.mk ([PV.bool b] :: [PV.sl m .non, PV.fn 16 []] :: idx_l off len b m cs rest toks tys :: rest) toks (4 :: 82 :: 1000023 :: tys))) (Tr.ite (del1_is0 off len (idx_n off len b m cs rest toks tys) (iAdd .i64 (idx_n off len b m cs rest toks tys) 1) b m (idx_l off len b m cs rest toks tys) rest toks tys) (Tr.ite (okSub (okPos (del1_i off len (idx_n off len b m cs rest toks tys) (iAdd .i64 (idx_n off len b m cs rest toks tys) 1) b m (idx_l off len b m cs rest toks tys) rest toks tys)) true (nNat (del1_i off len (idx_n off len b m cs rest toks tys) (iAdd .i64 (idx_n off len b m cs rest toks tys) 1) b m (idx_l off len b m cs rest toks tys) rest toks tys)) len len) (Tr.ite (nEq (nSub len (nNat (del1_i off len (idx_n off len b m cs rest toks tys) (iAdd .i64 (idx_n off len b m cs rest toks tys) 1) b m (idx_l off len b m cs rest toks tys) rest toks tys))) 0) (Tr.ite (okSub true (okPos (del1_i off len (idx_n off len b m cs rest toks tys) (iAdd .i64 (idx_n off len b m cs rest toks tys) 1) b m (idx_l off len b m cs rest toks tys) rest toks tys)) 0 (nNat (del1_i off len (idx_n off len b m cs rest toks tys) (iAdd .i64 (idx_n off len b m cs rest toks tys) 1) b m (idx_l off len b m cs rest toks tys) rest toks tys)) len) (Tr.ret (PV.osl 2 (pOff off 0 1) (nSub (nNat (del1_i off len (idx_n off len b m cs rest toks tys) (iAdd .i64 (idx_n off len b m cs rest toks tys) 1) b m (idx_l off len b m cs rest toks tys) rest toks tys)) 0) 1, Store.mk ([PV.bool b] :: [PV.sl m .non, PV.fn 16 []] :: del1_l off len (idx_n off len b m cs rest toks tys) (iAdd .i64 (idx_n off len b m cs rest toks tys) 1) b m (idx_l off len b m cs rest toks tys) rest toks tys :: rest)
 toks (4 :: 82 :: 1000023 :: tys))) Tr.fail) (Tr.ite (okOff (del1_l off len (idx_n off len b m cs rest toks tys) (iAdd .i64 (idx_n off len b m cs rest toks tys) 1) b m (idx_l off len b m cs rest toks tys) rest toks tys) (pOff off (nNat (del1_i off len (idx_n off len b m cs rest toks tys) (iAdd .i64 (idx_n off len b m cs rest toks tys) 1) b m (idx_l off len b m cs rest toks tys) rest toks tys)) 1) (pOff 0 (nSub len (nNat (del1_i off len (idx_n off len b m cs rest toks tys) (iAdd .i64 (idx_n off len b m cs rest toks tys) 1) b m (idx_l off len b m cs rest toks tys) rest toks tys))) 1)) (Tr.ite (okSub true (okPos (del1_i off len (idx_n off len b m cs rest toks tys) (iAdd .i64 (idx_n off len b m cs rest toks tys) 1) b m (idx_l off len b m cs rest toks tys) rest toks tys)) 0 (nNat (del1_i off len (idx_n off len b m cs rest toks tys) (iAdd .i64 (idx_n off len b m cs rest toks tys) 1) b m (idx_l off len b m cs rest toks tys) rest toks tys)) len) (Tr.ret (PV.osl 2 (pOff off 0 1) (nSub (nNat (del1_i off len (idx_n off len b m cs rest toks tys) (iAdd .i64 (idx_n off len b m cs rest toks tys) 1) b m (idx_l off len b m cs rest toks tys) rest toks tys)) 0) 1, Store.mk ([PV.bool b] :: [PV.sl m .non, PV.fn 16 []] :: clrC (del1_l off len (idx_n off len b m cs rest toks tys) (iAdd .i64 (idx_n off len b m cs rest toks tys) 1) b m (idx_l off len b m cs rest toks tys) rest toks tys) (pOff off (nNat (del1_i off len (idx_n off len b m cs rest toks tys) (iAdd .i64 (idx_n off len b m cs rest toks tys) 1) b m (idx_l off len b m cs rest toks tys) rest toks tys)) 1) (nSub len (nNat (del1_i off len (idx_n off len b m cs rest toks tys) (iAdd .i64 (idx_n off len b m cs rest toks tys) 1) b m (idx_l off len b m cs rest toks tys) rest toks tys))) [PV.sl [] .full] :: rest) toks (4 :: 82 :: 1000023 :: tys))) Tr.fail) Tr.fail)) Tr.fail) Tr.fail)) Tr.fail
theorem del_T (off : Nat) (len : Nat) (b : Bool) (m : List (List PV)) (cs : List PV) (rest : List (List PV)) (toks : List (Nat × Nat × TypeId)) (tys : List TypeId) : (tcallS tbT G_del L_del Tryd.f88 [.osl 2 off len 1, .fn 89 [.ptr 1 0, .ptr 0 0]] ⟨[.bool b] :: [.sl m .non, .fn 16 []] :: cs :: rest, toks, 4 :: 82 :: 1000023 :: tys⟩).flat = del_Tr off len b m cs rest toks tys := by kernel_rfl
noncomputable def del_W (off : Nat) (len : Nat) (b : Bool) (m : List (List PV)) (cs : List PV) (rest : List (List PV)) (toks : List (Nat × Nat × TypeId)) (tys : List TypeId) : Option (PV × Store) := (del_Tr off len b m cs rest toks tys).run
noncomputable def del_o (off : Nat) (len : Nat) (b : Bool) (m : List (List PV)) (cs : List PV) (rest : List (List PV)) (toks : List (Nat × Nat × TypeId)) (tys : List TypeId) : Nat := (gOff (gOut (asOut (del_W off len b m cs rest toks tys)) 0))
noncomputable def del_m (off : Nat) (len : Nat) (b : Bool) (m : List (List PV)) (cs : List PV) (rest : List (List PV)) (toks : List (Nat × Nat × TypeId)) (tys : List TypeId) : Nat := (gLen (gOut (asOut (del_W off len b m cs rest toks tys)) 0))
noncomputable def del_l (off : Nat) (len : Nat) (b : Bool) (m : List (List PV)) (cs : List PV) (rest : List (List PV)) (toks : List (Nat × Nat × TypeId)) (tys : List TypeId) : List PV := (gObj (asOut (del_W off len b m cs rest toks tys)) 2)
noncomputable def del_is0 (off : Nat) (len : Nat) (b : Bool) (m : List (List PV)) (cs : List PV) (rest : List (List PV)) (toks : List (Nat × Nat × TypeId)) (tys : List TypeId) : Bool := isW (del_W off len b m cs rest toks tys) (.osl 2 (del_o off len b m cs rest toks tys) (del_m off len b m cs rest toks tys) 1, ⟨([.bool b] :: [.sl m .non, .fn 16 []] :: (del_l off len b m cs rest toks tys) :: rest), (toks), (4 :: 82 :: 1000023 :: tys)⟩)
noncomputable def D_del : List PV → Store → Tr (PV × Store) | [.osl 2 off len 1, .fn 89 [.ptr 1 0, .ptr 0 0]], ⟨[.bool b] :: [.sl m .non, .fn 16 []] :: cs :: rest, toks, 4 :: 82 :: 1000023 :: tys⟩ => .ite (del_is0 off len b m cs rest toks tys) (.ret (.osl 2 (del_o off len b m cs rest toks tys) (del_m off len b m cs rest toks tys) 1, ⟨([.bool b] :: [.sl m .non, .fn 16 []] :: (del_l off len b m cs rest toks tys) :: rest), (toks), (4 :: 82 :: 1000023 :: tys)⟩)) (.fail) | _, _ => .fail
theorem sim_del (gl : Nat → Option Obj) : SimS Tryd.prog gl 88 fun args σ => (D_del args σ).run := by
  refine SimS.of_flat (G := G_del) (L := L_del) tbT_ok (gok_del gl ) noMixed Tryd.func88 rfl (by rfl) (by kernel_rfl) (loopOk_all (L := lps L_del) [(5, c_del1)] (by kernel_rfl) (List.forall_mem_cons.2 ⟨fun fr σ e fr' σ' h => loop_del1 gl  fr σ e fr' σ' h, (List.forall_mem_nil _)⟩)) ?_
  intro args σ x h
  unfold D_del at h
  split at h
  · exact (congrArg Tr.run (del_T _ _ _ _ _ _ _ _)).trans (ite_isW h fun h => by cases h)
  · cases h
end Go.Pv

set_option maxHeartbeats 8000000
set_option maxRecDepth 200000
set_option linter.unusedSimpArgs false
set_option linter.unusedVariables false
/-! What DeleteFunc leaves of a row. -/
namespace Go.Pv
open Go Go.Proofs
/-- The first i of g are those of the first j of f that are kept. -/
structure Fl {α : Type} (K : α → Bool) (f g : Nat → α) (N i j : Nat) : Prop where
  pre : (List.range i).map g = ((List.range j).map f).filter K
  keep : ∀ p, j ≤ p → p < N → g p = f p
  ij : i ≤ j
theorem Fl.start {α : Type} {K : α → Bool} {f : Nat → α} {N j : Nat} (h : ∀ p, p < j → K (f p) = true) (hj : K (f j) = false) : Fl K f f N j (j + 1) where
  pre := by
    rw [List.range_succ, List.map_append, List.filter_append]
    have e1 : ((List.range j).map f).filter K = (List.range j).map f := by
      rw [List.filter_eq_self]
      intro x hx
      obtain ⟨p, hp, rfl⟩ := List.mem_map.1 hx
      exact h p (by simpa using hp)
    rw [e1]
    simp [hj]
  keep := fun _ _ _ => rfl
  ij := by omega
theorem Fl.drop {α : Type} {K : α → Bool} {f g : Nat → α} {N i j : Nat} (h : Fl K f g N i j) (hj : K (f j) = false) : Fl K f g N i (j + 1) where
  pre := by
    rw [List.range_succ (n := j), List.map_append, List.filter_append, h.pre]
    simp [hj]
  keep := fun p h1 h2 => h.keep p (by omega) h2
  ij := by have := h.ij; omega
theorem Fl.take {α : Type} {K : α → Bool} {f g : Nat → α} {N i j : Nat} (h : Fl K f g N i j) (hj : K (f j) = true) : Fl K f (upd g i (f j)) N (i + 1) (j + 1) where
  pre := by
    rw [List.range_succ (n := j), List.map_append, List.filter_append, ← h.pre, List.range_succ (n := i), List.map_append]
    have e1 : (List.range i).map (upd g i (f j)) = (List.range i).map g := by
      apply List.map_congr_left
      intro p hp
      have : p < i := by simpa using hp
      simp only [upd_at]
      rw [if_neg (by omega)]
    rw [e1]
    simp [hj, upd_at]
  keep := fun p h1 h2 => by
    have := h.ij
    simp only [upd_at]
    rw [if_neg (by omega)]
    exact h.keep p (by omega) h2
  ij := by have := h.ij; omega
section
variable (b : Bool) (m : List (List Vl)) (hm : m.length ≤ 1000000) (hs : SSrt lexV m) (rest : List (List PV)) (toks : List (Nat × Nat × TypeId)) (tys : List TypeId)
/-- What is kept. -/
def kp (b : Bool) (m : List (List Vl)) (x : List Vl) : Bool := plB lexV x m == b
abbrev sD (b : Bool) (m : List (List Vl)) (f : Nat → List Vl) (N : Nat) : Store := ⟨[.bool b] :: [.sl (rOf (cR cV) m) .non, .fn 16 []] :: oA cV f N :: rest, toks, 4 :: 82 :: 1000023 :: tys⟩
include hm hs
theorem smc_kp (x : List Vl) : smc_is0 (rOf cV x) (rOf (cR cV) m) b = true ∧ smc_b (rOf cV x) (rOf (cR cV) m) b = !(kp b m x) := smc_law x m b hm hs
theorem idx1_law (f : Nat → List Vl) (N : Nat) (hN : N ≤ 1152921504606846975) : ∀ d e : Nat, e + d = N → (∀ p, p < e → kp b m (f p) = true) →
    (∃ j : Nat, j < N ∧ (∀ p, p < j → kp b m (f p) = true) ∧ kp b m (f j) = false ∧ idx1_V [.osl 2 0 N 1, .fn 89 [.ptr 1 0, .ptr 0 0], .int .i64 N, .int .i64 e] (sD rest toks tys b m f N) = some (.ret, [.int .i64 j], sD rest toks tys b m f N)) ∨
    ((∀ p, p < N → kp b m (f p) = true) ∧ idx1_V [.osl 2 0 N 1, .fn 89 [.ptr 1 0, .ptr 0 0], .int .i64 N, .int .i64 e] (sD rest toks tys b m f N) = some (.exit 0, [], sD rest toks tys b m f N)) := by
  intro d
  induction d with
  | zero =>
    intro e h1 h2
    have ee : e = N := by omega
    subst ee
    refine .inr ⟨h2, ?_⟩
    simp only [sD]
    rw [idx1_E]
    unfold idx1_Tr
    simp only [iLt_N, Nat.lt_irrefl, decide_false, Bool.false_eq_true, if_false, Tr.run_ite, Tr.run_ret, lnext_out]
  | succ d ih =>
    intro e h1 h2
    have q1 : e < N := by omega
    obtain ⟨s1, s2⟩ := smc_kp b m hm hs (f e)
    cases hk : kp b m (f e) with
    | false =>
      refine .inl ⟨e, q1, h2, hk, ?_⟩
      simp only [sD]
      rw [idx1_E]
      unfold idx1_Tr
      simp only [iLt_N, okIx_N, nNat_N, pOff_1, Nat.zero_add, q1, okCell_oA cV q1, cRow_oA cV q1, lockLL_rOf, s1, s2, hk, Bool.not_false, decide_true, if_true, Tr.run_ite, Tr.run_ret, lnext_out]
    | true =>
      have step : idx1_V [.osl 2 0 N 1, .fn 89 [.ptr 1 0, .ptr 0 0], .int .i64 N, .int .i64 e] (sD rest toks tys b m f N) = idx1_V [.osl 2 0 N 1, .fn 89 [.ptr 1 0, .ptr 0 0], .int .i64 N, .int .i64 ((e + 1 : Nat) : Int)] (sD rest toks tys b m f N) := by
        simp only [sD]
        rw [idx1_E]
        unfold idx1_Tr
        simp only [iLt_N, okIx_N, nNat_N, pOff_1, Nat.zero_add, q1, okCell_oA cV q1, cRow_oA cV q1, lockLL_rOf, s1, s2, hk, add_N1 (a := e) (by omega), Bool.not_true, Bool.false_eq_true, if_false, decide_true, if_true, Tr.run_ite, Tr.run_ret, lnext_next]
      rw [step]
      refine ih (e + 1) (by omega) fun p hp => ?_
      by_cases hpe : p = e
      · subst hpe; exact hk
      · exact h2 p (by omega)
theorem idx_law (f : Nat → List Vl) (N : Nat) (hN : N ≤ 1152921504606846975) :
    idx_is0 0 N b (rOf (cR cV) m) (oA cV f N) rest toks tys = true ∧ idx_l 0 N b (rOf (cR cV) m) (oA cV f N) rest toks tys = oA cV f N ∧
    ((∃ j : Nat, j < N ∧ (∀ p, p < j → kp b m (f p) = true) ∧ kp b m (f j) = false ∧ idx_n 0 N b (rOf (cR cV) m) (oA cV f N) rest toks tys = (j : Nat)) ∨
    ((∀ p, p < N → kp b m (f p) = true) ∧ idx_n 0 N b (rOf (cR cV) m) (oA cV f N) rest toks tys = -1)) := by
  have fin : ∀ n : Int, idx_W 0 N b (rOf (cR cV) m) (oA cV f N) rest toks tys = some (.int .i64 n, sD rest toks tys b m f N) → idx_is0 0 N b (rOf (cR cV) m) (oA cV f N) rest toks tys = true ∧ idx_l 0 N b (rOf (cR cV) m) (oA cV f N) rest toks tys = oA cV f N ∧ idx_n 0 N b (rOf (cR cV) m) (oA cV f N) rest toks tys = n := by
    intro n h
    have a1 : idx_n 0 N b (rOf (cR cV) m) (oA cV f N) rest toks tys = n := by rw [idx_n, h]; rfl
    have a2 : idx_l 0 N b (rOf (cR cV) m) (oA cV f N) rest toks tys = oA cV f N := by rw [idx_l, h]; rfl
    exact ⟨by rw [idx_is0, a1, a2, h]; simp [sD], a2, a1⟩
  rcases idx1_law b m hm hs rest toks tys f N hN N 0 (by omega) (fun p hp => by omega) with ⟨j, h1, h2, h3, h4⟩ | ⟨h1, h4⟩
  · have w : idx1_W 0 N N 0 b (rOf (cR cV) m) (oA cV f N) rest toks tys = _ := h4
    have a1 : idx1_n_0 0 N N 0 b (rOf (cR cV) m) (oA cV f N) rest toks tys = (j : Nat) := by rw [idx1_n_0, w]; rfl
    have a2 : idx1_l_0 0 N N 0 b (rOf (cR cV) m) (oA cV f N) rest toks tys = oA cV f N := by rw [idx1_l_0, w]; rfl
    have a3 : idx1_is0 0 N N 0 b (rOf (cR cV) m) (oA cV f N) rest toks tys = true := by rw [idx1_is0, w, a1, a2]; simp [sD]
    obtain ⟨x1, x2, x3⟩ := fin (j : Nat) (by
      unfold idx_W idx_Tr
      simp only [oLen_N, a1, a2, a3, if_true, Tr.run_ite, Tr.run_ret])
    exact ⟨x1, x2, .inl ⟨j, h1, h2, h3, x3⟩⟩
  · have w : idx1_W 0 N N 0 b (rOf (cR cV) m) (oA cV f N) rest toks tys = _ := h4
    have a2 : idx1_l_1 0 N N 0 b (rOf (cR cV) m) (oA cV f N) rest toks tys = oA cV f N := by rw [idx1_l_1, w]; rfl
    have a3 : idx1_is0 0 N N 0 b (rOf (cR cV) m) (oA cV f N) rest toks tys = false := by rw [idx1_is0, w]; simp [isW]
    have a4 : idx1_is1 0 N N 0 b (rOf (cR cV) m) (oA cV f N) rest toks tys = true := by rw [idx1_is1, w, a2]; simp [sD]
    obtain ⟨x1, x2, x3⟩ := fin (-1) (by
      unfold idx_W idx_Tr
      simp only [oLen_N, a2, a3, a4, Bool.false_eq_true, if_false, if_true, Tr.run_ite, Tr.run_ret])
    exact ⟨x1, x2, .inr ⟨h1, x3⟩⟩
theorem del1_law (f : Nat → List Vl) (N : Nat) (hN : N ≤ 1152921504606846975) : ∀ d j : Nat, j + d = N → ∀ (i : Nat) (g : Nat → List Vl), i < j → Fl (kp b m) f g N i j →
    ∃ (i' : Nat) (g' : Nat → List Vl), del1_V [.osl 2 0 N 1, .fn 89 [.ptr 1 0, .ptr 0 0], .int .i64 i, .int .i64 j] (sD rest toks tys b m g N) = some (.exit 0, [.osl 2 0 N 1, .int .i64 i'], sD rest toks tys b m g' N) ∧ i' < N ∧ Fl (kp b m) f g' N i' N := by
  intro d
  induction d with
  | zero =>
    intro j h1 i g h2 h3
    have ee : j = N := by omega
    subst ee
    refine ⟨i, g, ?_, h2, h3⟩
    simp only [sD]
    rw [del1_E]
    unfold del1_Tr
    simp only [oLen_N, iLt_N, Nat.lt_irrefl, decide_false, Bool.false_eq_true, if_false, Tr.run_ite, Tr.run_ret, lnext_out]
  | succ d ih =>
    intro j h1 i g h2 h3
    have q1 : j < N := by omega
    have q2 : i < N := by omega
    have g1 : g j = f j := h3.keep j (Nat.le_refl _) q1
    obtain ⟨s1, s2⟩ := smc_kp b m hm hs (f j)
    cases hk : kp b m (f j) with
    | false =>
      obtain ⟨i', g', b1, b2⟩ := ih (j + 1) (by omega) i g (by omega) (h3.drop hk)
      refine ⟨i', g', ?_, b2⟩
      rw [← b1]
      simp only [sD]
      rw [del1_E]
      unfold del1_Tr
      simp only [oLen_N, iLt_N, okIx_N, nNat_N, pOff_1, Nat.zero_add, q1, q2, okCell_oA cV q1, cRow_oA cV q1, g1, lockLL_rOf, s1, s2, hk, add_N1 (a := j) (by omega), bNot_eq, Bool.not_false, Bool.not_true, Bool.false_eq_true, if_false, decide_true, if_true, Tr.run_ite, Tr.run_ret, lnext_next]
    | true =>
      obtain ⟨i', g', b1, b2⟩ := ih (j + 1) (by omega) (i + 1) (upd g i (f j)) (by omega) (h3.take hk)
      refine ⟨i', g', ?_, b2⟩
      rw [← b1]
      simp only [sD]
      rw [del1_E]
      unfold del1_Tr
      simp only [oLen_N, iLt_N, okIx_N, nNat_N, pOff_1, Nat.zero_add, q1, q2, okCell_oA cV q1, okOff_oA cV q2, putC_oA cV _ q2, cRow_oA cV q1, g1, lockLL_rOf, s1, s2, hk, add_N1 (a := j) (by omega), add_N1 (a := i) (by omega), bNot_eq, Bool.not_false, Bool.not_true, Bool.false_eq_true, if_false, decide_true, if_true, Tr.run_ite, Tr.run_ret, lnext_next]
theorem del_law (f : Nat → List Vl) (N : Nat) (hN : N ≤ 1152921504606846975) :
    ∃ (k : Nat) (g : Nat → List Vl) (cs' : List PV), del_is0 0 N b (rOf (cR cV) m) (oA cV f N) rest toks tys = true ∧ del_o 0 N b (rOf (cR cV) m) (oA cV f N) rest toks tys = 0 ∧ del_m 0 N b (rOf (cR cV) m) (oA cV f N) rest toks tys = k ∧ del_l 0 N b (rOf (cR cV) m) (oA cV f N) rest toks tys = cs' ∧
      k ≤ cs'.length ∧ (∀ p, p < k → cs'[p]? = some (.sl (rOf cV (g p)) .non)) ∧ (List.range k).map g = ((List.range N).map f).filter (kp b m) := by
  have fin : ∀ (k : Nat) (cs' : List PV), del_W 0 N b (rOf (cR cV) m) (oA cV f N) rest toks tys = some (.osl 2 0 k 1, ⟨[.bool b] :: [.sl (rOf (cR cV) m) .non, .fn 16 []] :: cs' :: rest, toks, 4 :: 82 :: 1000023 :: tys⟩) →
      del_is0 0 N b (rOf (cR cV) m) (oA cV f N) rest toks tys = true ∧ del_o 0 N b (rOf (cR cV) m) (oA cV f N) rest toks tys = 0 ∧ del_m 0 N b (rOf (cR cV) m) (oA cV f N) rest toks tys = k ∧ del_l 0 N b (rOf (cR cV) m) (oA cV f N) rest toks tys = cs' := by
    intro k cs' h
    have a1 : del_o 0 N b (rOf (cR cV) m) (oA cV f N) rest toks tys = 0 := by rw [del_o, h]; rfl
    have a2 : del_m 0 N b (rOf (cR cV) m) (oA cV f N) rest toks tys = k := by rw [del_m, h]; rfl
    have a3 : del_l 0 N b (rOf (cR cV) m) (oA cV f N) rest toks tys = cs' := by rw [del_l, h]; rfl
    exact ⟨by rw [del_is0, a1, a2, a3, h]; simp, a1, a2, a3⟩
  obtain ⟨i1, i2, hi⟩ := idx_law b m hm hs rest toks tys f N hN
  rcases hi with ⟨j, h1, h2, h3, h4⟩ | ⟨h1, h4⟩
  · obtain ⟨k, g, b1, b2, b3⟩ := del1_law b m hm hs rest toks tys f N hN (N - (j + 1)) (j + 1) (by omega) j f (by omega) (Fl.start h2 h3)
    have w : del1_W 0 N j ((j + 1 : Nat) : Int) b (rOf (cR cV) m) (oA cV f N) rest toks tys = _ := b1
    have a1 : del1_i 0 N j ((j + 1 : Nat) : Int) b (rOf (cR cV) m) (oA cV f N) rest toks tys = (k : Nat) := by rw [del1_i, w]; rfl
    have a2 : del1_l 0 N j ((j + 1 : Nat) : Int) b (rOf (cR cV) m) (oA cV f N) rest toks tys = oA cV g N := by rw [del1_l, w]; rfl
    have a3 : del1_is0 0 N j ((j + 1 : Nat) : Int) b (rOf (cR cV) m) (oA cV f N) rest toks tys = true := by rw [del1_is0, w, a1, a2]; simp [sD]
    have s2 : okSub true true k N N = true := by simp [okSub]; omega
    have s3 : okSub true true 0 k N = true := by simp [okSub]; omega
    have s4 : nEq (N - k) 0 = false := by simp [nEq]; omega
    have s5 : okOff (oA cV g N) k (N - k) = true := by simp [okOff]; omega
    have s6 : iEq (j : Int) (-1) = false := by simp [iEq] <;> omega
    obtain ⟨x1, x2, x3, x4⟩ := fin k (clrC (oA cV g N) k (N - k) [.sl [] .full]) (by
      unfold del_W del_Tr
      simp only [i1, i2, h4, s6, add_N1 (a := j) (by omega), a1, a2, a3, okPos_N, nNat_N, nSub_N, Nat.sub_zero, pOff_1, Nat.zero_add, s2, s3, s4, s5, Bool.false_eq_true, if_false, if_true, Tr.run_ite, Tr.run_ret])
    refine ⟨k, g, _, x1, x2, x3, x4, ?_, fun p hp => ?_, b3.pre⟩
    · unfold clrC; simp; omega
    · rw [clrC_get (by simp; omega) hp, oA_get cV (by omega)]
  · obtain ⟨x1, x2, x3, x4⟩ := fin N (oA cV f N) (by
      have s6 : iEq (-1) (-1) = true := by rfl
      unfold del_W del_Tr
      simp only [i1, i2, h4, s6, if_true, Tr.run_ite, Tr.run_ret])
    refine ⟨N, f, _, x1, x2, x3, x4, by simp, fun p hp => oA_get cV hp, ?_⟩
    symm
    rw [List.filter_eq_self]
    intro x hx
    obtain ⟨p, hp, rfl⟩ := List.mem_map.1 hx
    exact h1 p (by simpa using hp)
end
end Go.Pv

set_option maxHeartbeats 4000000
set_option maxRecDepth 200000
set_option linter.unusedSimpArgs false
set_option linter.unusedVariables false
namespace Go.Pv
open Go Go.Proofs
noncomputable def G_idx0 : GamT := ofL [(89, .pure F_smc)]
theorem gok_idx0 (gl : Nat → Option Obj) : GamOk Tryd.prog gl (gam G_idx0) := (gamOk_cons (sim_smc gl) gamOk_nil)
noncomputable def c_idx01 : Code := loopC Tryd.f109 2
def I_idx01 : LI := ⟨19, [0, 1, 7, 8], fun e => match e with | .ret => [4] | .exit 0 => [] | _ => [], true⟩
noncomputable def LI_idx01 : LpsT := fun r fr σ => .fail
noncomputable def idx01_V (vs : List PV) (σ : Store) : Option (PExit × List PV × Store) := lval (lstep tbT G_idx0 LI_idx01 c_idx01 I_idx01) vs σ
noncomputable def idx01_Tr (s : List (List PV)) (f : List (List PV)) (f2 : Bool) (n : Int) (n2 : Int) : Tr LR := Tr.ite (iLt n2 n) (Tr.ite (okPos n2) (Tr.ite (okGet [PV.sl [] .full] s (nNat n2)) (Tr.ite (smc_is0 (lockLL (xRow s (nNat n2) 0)) (lockLL f) f2) (Tr.ite (smc_b (lockLL (xRow s (nNat n2) 0)) (lockLL f) f2) (Tr.ret (LR.out .ret [PV.int .i64 n2] (Store.mk [] [] []))) (Tr.ret (LR.next [PV.sl s .non, PV.fn 89 [PV.ref [PV.sl f .non, PV.fn 16 []], PV.ref [PV.bool f2]], PV.int .i64 n, PV.int .i64 (iAdd .i64 n2 1)] (Store.mk [] [] [])))) Tr.fail) Tr.fail) Tr.fail) (Tr.ret (LR.out (.exit 0) [] (Store.mk [] [] [])))
theorem idx01_T (s : List (List PV)) (f : List (List PV)) (f2 : Bool) (n : Int) (n2 : Int) : lstep tbT G_idx0 LI_idx01 c_idx01 I_idx01 [.sl s .non, .fn 89 [.ref [.sl f .non, .fn 16 []], .ref [.bool f2]], .int .i64 n, .int .i64 n2] ⟨[], [], []⟩ = idx01_Tr s f f2 n n2 := by kernel_rfl
theorem idx01_E (s : List (List PV)) (f : List (List PV)) (f2 : Bool) (n : Int) (n2 : Int) : idx01_V [.sl s .non, .fn 89 [.ref [.sl f .non, .fn 16 []], .ref [.bool f2]], .int .i64 n, .int .i64 n2] ⟨[], [], []⟩ = lnext idx01_V (idx01_Tr s f f2 n n2).run := by unfold idx01_V; rw [lval_eq, idx01_T]
noncomputable def idx01_W (s : List (List PV)) (f : List (List PV)) (f2 : Bool) (n : Int) (n2 : Int) : Option (PExit × List PV × Store) := idx01_V [.sl s .non, .fn 89 [.ref [.sl f .non, .fn 16 []], .ref [.bool f2]], .int .i64 n, .int .i64 n2] ⟨[], [], []⟩
noncomputable def idx01_n_0 (s : List (List PV)) (f : List (List PV)) (f2 : Bool) (n : Int) (n2 : Int) : Int := (gInt (gOut (idx01_W s f f2 n n2) 0))
noncomputable def idx01_is0 (s : List (List PV)) (f : List (List PV)) (f2 : Bool) (n : Int) (n2 : Int) : Bool := isW (idx01_W s f f2 n n2) (.ret, [.int .i64 (idx01_n_0 s f f2 n n2)], ⟨[], [], []⟩)
noncomputable def idx01_is1 (s : List (List PV)) (f : List (List PV)) (f2 : Bool) (n : Int) (n2 : Int) : Bool := isW (idx01_W s f f2 n n2) ((.exit 0), [], ⟨[], [], []⟩)
noncomputable def idx01_prop : List PV → Store → Tr (PExit × List PV × Store) | [.sl s .non, .fn 89 [.ref [.sl f .non, .fn 16 []], .ref [.bool f2]], .int .i64 n, .int .i64 n2], ⟨[], [], []⟩ => .ite (idx01_is0 s f f2 n n2) (.ret (.ret, [.int .i64 (idx01_n_0 s f f2 n n2)], ⟨[], [], []⟩)) (.ite (idx01_is1 s f f2 n n2) (.ret ((.exit 0), [], ⟨[], [], []⟩)) (.fail)) | _, _ => .fail
theorem idx01_ok : ∀ vs σ r, (idx01_prop vs σ).run = some r → idx01_V vs σ = some r := by
  intro vs σ r h
  unfold idx01_prop at h
  split at h
  · exact ite_isW h fun h => ite_isW h fun h => by cases h
  · cases h
theorem loop_idx01 (gl : Nat → Option Obj) : ∀ fr σ e fr' σ', (orc I_idx01 idx01_prop fr σ).run = some (e, fr', σ') → LDoes Tryd.prog gl c_idx01 fr σ e fr' σ' := orc_ok tbT_ok (gok_idx0 gl ) noMixed (L := LI_idx01) (loopOk_none (by kernel_rfl)) (by kernel_rfl) idx01_ok
noncomputable def L_idx0 : LpsT := fun r fr σ => bif Nat.beq r 2 then orc I_idx01 idx01_prop fr σ else .fail
noncomputable def idx0_Tr (s : List (List PV)) (m : List (List PV)) (b : Bool) : Tr PV := Tr.ite (idx01_is0 s m b (xLen s) 0) (Tr.ret (PV.int .i64 (idx01_n_0 s m b (xLen s) 0))) (Tr.ite (idx01_is1 s m b (xLen s) 0) (Tr.ret (PV.int .i64 (-1))) Tr.fail)
theorem idx0_T (s : List (List PV)) (m : List (List PV)) (b : Bool) : (tcall tbT G_idx0 L_idx0 Tryd.f109 [.sl s .non, .fn 89 [.ref [.sl m .non, .fn 16 []], .ref [.bool b]]]).flat = idx0_Tr s m b := by kernel_rfl
noncomputable def idx0_W (s : List (List PV)) (m : List (List PV)) (b : Bool) : Option PV := (idx0_Tr s m b).run
noncomputable def idx0_n (s : List (List PV)) (m : List (List PV)) (b : Bool) : Int := (gInt (gVal (idx0_W s m b)))
noncomputable def idx0_is0 (s : List (List PV)) (m : List (List PV)) (b : Bool) : Bool := isW (idx0_W s m b) (.int .i64 (idx0_n s m b))
noncomputable def F_idx0 : List PV → Tr PV | [.sl s .non, .fn 89 [.ref [.sl m .non, .fn 16 []], .ref [.bool b]]] => .ite (idx0_is0 s m b) (.ret (.int .i64 (idx0_n s m b))) (.fail) | _ => .fail
theorem sim_idx0 (gl : Nat → Option Obj) : SimP Tryd.prog gl 109 fun args => (F_idx0 args).run := by
  refine SimP.of_flat (G := G_idx0) (L := L_idx0) tbT_ok (gok_idx0 gl ) noMixed Tryd.func109 rfl (by rfl) (by kernel_rfl) (loopOk_all (L := lps L_idx0) [(2, c_idx01)] (by kernel_rfl) (List.forall_mem_cons.2 ⟨fun fr σ e fr' σ' h => loop_idx01 gl  fr σ e fr' σ' h, (List.forall_mem_nil _)⟩)) ?_
  intro args x h
  unfold F_idx0 at h
  split at h
  · exact (congrArg Tr.run (idx0_T _ _ _)).trans (ite_isW h fun h => by cases h)
  · cases h
noncomputable def G_del0 : GamT := ofL [(89, .pure F_smc), (109, .pure F_idx0)]
theorem gok_del0 (gl : Nat → Option Obj) : GamOk Tryd.prog gl (gam G_del0) := (gamOk_cons (sim_smc gl) (gamOk_cons (sim_idx0 gl) gamOk_nil))
noncomputable def c_del01 : Code := loopC Tryd.f88 5
def I_del01 : LI := ⟨42, [0, 1, 5, 6], fun e => match e with | .exit 0 => [0, 5] | _ => [], true⟩
noncomputable def LI_del01 : LpsT := fun r fr σ => .fail
noncomputable def del01_V (vs : List PV) (σ : Store) : Option (PExit × List PV × Store) := lval (lstep tbT G_del0 LI_del01 c_del01 I_del01) vs σ
noncomputable def del01_Tr (s : List (List PV)) (del : List (List PV)) (del2 : Bool) (i : Int) (j : Int) : Tr LR := Tr.ite (iLt j (xLen s)) (Tr.ite (okPos j) (Tr.ite (okGet [PV.sl [] .full] s (nNat j)) (Tr.ite (smc_is0 (lockLL (xRow s (nNat j) 0)) (lockLL del) del2) (Tr.ite (bNot (smc_b (lockLL (xRow s (nNat j) 0)) (lockLL del) del2)) (Tr.ite (okPos i) (Tr.ite (okGet [PV.sl [] .full] s (nNat i)) Tr.fail Tr.fail) Tr.fail) (Tr.ret (LR.next [PV.sl s .non, PV.fn 89 [PV.ref [PV.sl del .non, PV.fn 16 []], PV.ref [PV.bool del2]], PV.int .i64 i, PV.int .i64 (iAdd .i64 j 1)] (Store.mk [] [] [])))) Tr.fail) Tr.fail) Tr.fail) (Tr.ret (LR.out (.exit 0) [PV.sl s .non, PV.int .i64 i] (Store.mk [] [] [])))
theorem del01_T (s : List (List PV)) (del : List (List PV)) (del2 : Bool) (i : Int) (j : Int) : lstep tbT G_del0 LI_del01 c_del01 I_del01 [.sl s .non, .fn 89 [.ref [.sl del .non, .fn 16 []], .ref [.bool del2]], .int .i64 i, .int .i64 j] ⟨[], [], []⟩ = del01_Tr s del del2 i j := by kernel_rfl
theorem del01_E (s : List (List PV)) (del : List (List PV)) (del2 : Bool) (i : Int) (j : Int) : del01_V [.sl s .non, .fn 89 [.ref [.sl del .non, .fn 16 []], .ref [.bool del2]], .int .i64 i, .int .i64 j] ⟨[], [], []⟩ = lnext del01_V (del01_Tr s del del2 i j).run := by unfold del01_V; rw [lval_eq, del01_T]
noncomputable def del01_W (s : List (List PV)) (del : List (List PV)) (del2 : Bool) (i : Int) (j : Int) : Option (PExit × List PV × Store) := del01_V [.sl s .non, .fn 89 [.ref [.sl del .non, .fn 16 []], .ref [.bool del2]], .int .i64 i, .int .i64 j] ⟨[], [], []⟩
noncomputable def del01_s (s : List (List PV)) (del : List (List PV)) (del2 : Bool) (i : Int) (j : Int) : List (List PV) := (gRow (gOut (del01_W s del del2 i j) 0))
noncomputable def del01_i (s : List (List PV)) (del : List (List PV)) (del2 : Bool) (i : Int) (j : Int) : Int := (gInt (gOut (del01_W s del del2 i j) 1))
noncomputable def del01_is0 (s : List (List PV)) (del : List (List PV)) (del2 : Bool) (i : Int) (j : Int) : Bool := isW (del01_W s del del2 i j) ((.exit 0), [.sl (del01_s s del del2 i j) .non, .int .i64 (del01_i s del del2 i j)], ⟨[], [], []⟩)
noncomputable def del01_prop : List PV → Store → Tr (PExit × List PV × Store) | [.sl s .non, .fn 89 [.ref [.sl del .non, .fn 16 []], .ref [.bool del2]], .int .i64 i, .int .i64 j], ⟨[], [], []⟩ => .ite (del01_is0 s del del2 i j) (.ret ((.exit 0), [.sl (del01_s s del del2 i j) .non, .int .i64 (del01_i s del del2 i j)], ⟨[], [], []⟩)) (.fail) | _, _ => .fail
theorem del01_ok : ∀ vs σ r, (del01_prop vs σ).run = some r → del01_V vs σ = some r := by
  intro vs σ r h
  unfold del01_prop at h
  split at h
  · exact ite_isW h fun h => by cases h
  · cases h
theorem loop_del01 (gl : Nat → Option Obj) : ∀ fr σ e fr' σ', (orc I_del01 del01_prop fr σ).run = some (e, fr', σ') → LDoes Tryd.prog gl c_del01 fr σ e fr' σ' := orc_ok tbT_ok (gok_del0 gl ) noMixed (L := LI_del01) (loopOk_none (by kernel_rfl)) (by kernel_rfl) del01_ok
noncomputable def L_del0 : LpsT := fun r fr σ => bif Nat.beq r 5 then orc I_del01 del01_prop fr σ else .fail
noncomputable def del0_Tr (s : List (List PV)) (m : List (List PV)) (b : Bool) : Tr PV := Tr.ite (idx0_is0 (lockLL s) (lockLL m) b) (Tr.ite (iEq (idx0_n (lockLL s) (lockLL m) b) (-1)) (Tr.ret (PV.sl (shutLL s) .non)) (Tr.ite (del01_is0 s m b (idx0_n (lockLL s) (lockLL m) b) (iAdd .i64 (idx0_n (lockLL s) (lockLL m) b) 1)) (Tr.ite (okSub (okPos (del01_i s m b (idx0_n (lockLL s) (lockLL m) b) (iAdd .i64 (idx0_n (lockLL s) (lockLL m) b) 1))) true (nNat (del01_i s m b (idx0_n (lockLL s) (lockLL m) b) (iAdd .i64 (idx0_n (lockLL s) (lockLL m) b) 1))) (nXs (del01_s s m b (idx0_n (lockLL s) (lockLL m) b) (iAdd .i64 (idx0_n (lockLL s) (lockLL m) b) 1))) (nXs (del01_s s m b (idx0_n (lockLL s) (lockLL m) b) (iAdd .i64 (idx0_n (lockLL s) (lockLL m) b) 1)))) (Tr.ite (okSize (del01_s s m b (idx0_n (lockLL s) (lockLL m) b) (iAdd .i64 (idx0_n (lockLL s) (lockLL m) b) 1)) 1) Tr.fail Tr.fail) Tr.fail) Tr.fail)) Tr.fail
theorem del0_T (s : List (List PV)) (m : List (List PV)) (b : Bool) : (tcall tbT G_del0 L_del0 Tryd.f88 [.sl s .non, .fn 89 [.ref [.sl m .non, .fn 16 []], .ref [.bool b]]]).flat = del0_Tr s m b := by kernel_rfl
noncomputable def del0_W (s : List (List PV)) (m : List (List PV)) (b : Bool) : Option PV := (del0_Tr s m b).run
noncomputable def del0_r (s : List (List PV)) (m : List (List PV)) (b : Bool) : List (List PV) := (gRow (gVal (del0_W s m b)))
noncomputable def del0_is0 (s : List (List PV)) (m : List (List PV)) (b : Bool) : Bool := isW (del0_W s m b) (.sl (del0_r s m b) .non)
noncomputable def F_del0 : List PV → Tr PV | [.sl s .non, .fn 89 [.ref [.sl m .non, .fn 16 []], .ref [.bool b]]] => .ite (del0_is0 s m b) (.ret (.sl (del0_r s m b) .non)) (.fail) | _ => .fail
theorem sim_del0 (gl : Nat → Option Obj) : SimP Tryd.prog gl 88 fun args => (F_del0 args).run := by
  refine SimP.of_flat (G := G_del0) (L := L_del0) tbT_ok (gok_del0 gl ) noMixed Tryd.func88 rfl (by rfl) (by kernel_rfl) (loopOk_all (L := lps L_del0) [(5, c_del01)] (by kernel_rfl) (List.forall_mem_cons.2 ⟨fun fr σ e fr' σ' h => loop_del01 gl  fr σ e fr' σ' h, (List.forall_mem_nil _)⟩)) ?_
  intro args x h
  unfold F_del0 at h
  split at h
  · exact (congrArg Tr.run (del0_T _ _ _)).trans (ite_isW h fun h => by cases h)
  · cases h
end Go.Pv

set_option maxHeartbeats 4000000
set_option maxRecDepth 200000
set_option linter.unusedSimpArgs false
set_option linter.unusedVariables false
/-! slices.Grow at nil: a new row without elements, with room. -/
namespace Go.Pv
open Go Go.Proofs Go.RowKit
def grow_ren : Go.Shelf.Ren := ⟨fun | 4 => 86 | n => n, fun | 22 => 44 | 25 => 23 | n => n, fun | n => n⟩
theorem grow_lays : Go.Proofs.Lays8.n4 Tryd.prog grow_ren := {
  mixed := by kernel_rfl
  f4 := ⟨"slices.Grow[[]pedigree/api.Tuple,pedigree/api.Tuple]", by rfl, Tryd.func86.trans (congrArg some (by kernel_rfl))⟩
  t0 := Tryd.underlying0
  a0 := Tryd.isAgg0
  z0 := Tryd.sizeOf0
  v0 := Tryd.zeroValue0
  t3 := Tryd.underlying3
  a3 := Tryd.isAgg3
  z3 := Tryd.sizeOf3
  v3 := Tryd.zeroValue3
  t4 := Tryd.underlying4
  a4 := Tryd.isAgg4
  z4 := Tryd.sizeOf4
  v4 := Tryd.zeroValue4
  t9 := Tryd.underlying9
  a9 := Tryd.isAgg9
  z9 := Tryd.sizeOf9
  v9 := Tryd.zeroValue9
  t20 := Tryd.underlying20
  a20 := Tryd.isAgg20
  z20 := Tryd.sizeOf20
  v20 := Tryd.zeroValue20
  t22 := Tryd.underlying44
  a22 := Tryd.isAgg44
  z22 := Tryd.sizeOf44
  v22 := Tryd.zeroValue44 }
theorem grow_info : ∃ i0 z, Tryd.prog.info? 23 = some i0 ∧ i0.zero = some z ∧ i0.size = 1 ∧ i0.bytes = 24 ∧ z.cells.size = 1 := by
  have h : (Tryd.prog.info? 23).map (fun i => (i.zero.map (fun z => z.cells.size), i.size, i.bytes)) = some (some 1, 1, 24) := by kernel_rfl
  cases hi : Tryd.prog.info? 23 with
  | none => rw [hi] at h; cases h
  | some i0 =>
    rw [hi] at h
    simp only [Option.map_some, Option.some.injEq, Prod.mk.injEq] at h
    obtain ⟨h1, h2, h3⟩ := h
    cases hz : i0.zero with
    | none => rw [hz] at h1; cases h1
    | some z =>
      rw [hz] at h1
      simp only [Option.map_some, Option.some.injEq] at h1
      exact ⟨i0, z, rfl, hz, h2, h3, h1⟩
noncomputable def D_Grow : List PV → Store → Tr (PV × Store)
  | [.sl [] .full, .int .i64 n], ⟨objs, toks, tys⟩ => Tr.ite (iEq n 0) (.ret (.sl [] .full, ⟨objs, toks, tys⟩)) (Tr.ite (iLt 0 n) (Tr.ite (iLe n 1000000000000) (.ret (.sl [] (.tok toks.length), ⟨objs, toks ++ [(0, 1, 23)], tys⟩)) .fail) .fail)
  | _, _ => .fail
theorem sim_Grow (gl : Nat → Option Obj) : SimS Tryd.prog gl 86 fun args σ => (D_Grow args σ).run where
  ent := ⟨_, Tryd.func86, by rfl, by rfl⟩
  run := by
    intro args σ x σ' h H w vs hok hr
    unfold D_Grow at h
    split at h
    · rename_i n objs toks tys
      cases hr with
      | cons _ v _ vs hv hvs =>
        cases hvs with
        | cons _ u _ us hu hus =>
          cases hus
          cases hu with
          | int _ _ hwf =>
            cases hv with
            | sl p len cap k _ vss _ hl hcap hm hrel hrow htag =>
              have e1 : len = 0 := by simpa using hl.symm
              have e2 : cap = 0 := by
                have : len = cap := htag
                omega
              subst e1
              subst e2
              simp only [Tr.run_ite, iEq_eq, iLt_eq, iLe_eq, decide_eq_true_eq] at h
              split at h
              · rename_i h0
                subst h0
                cases h
                refine (Any8.slices_Grow_room grow_lays p 0 0 0 w (Nat.le_refl _) (by omega) (by omega) (Nat.le_refl _)).mono ?_
                rintro e w' ⟨rfl, rfl⟩
                exact ⟨_, rfl, Post.same hok (.sl p 0 0 k [] vss .full rfl (Nat.le_refl _) hm hrel hrow rfl)⟩
              · split at h
                · split at h
                  · rename_i h1 h2
                    cases h
                    obtain ⟨m, rfl⟩ : ∃ m : Nat, n = (m : Int) := ⟨n.toNat, by omega⟩
                    obtain ⟨i0, z, hi0, hz0, hs0, hb0, hzc⟩ := grow_info
                    have hG := grownCap_ge w (0 + m) 0 (grow_ren.t 25)
                    have hGm := grownCap_le_maxLen w (0 + m) 0 (grow_ren.t 25) (by unfold maxLen; omega)
                    refine (Any8.slices_Grow_grow grow_lays i0 z hi0 hz0 (by rw [hs0]; omega) p 0 0 m [] w (Nat.le_refl _) (by omega) (by rw [hb0]; omega) (by omega) (by simp) (fun _ => rfl) (fun a _ j v hj => by simp at hj)).mono ?_
                    rintro e w' ⟨rfl, rfl⟩
                    have hd := hok.of_below (below_drew0 w)
                    have hev := Ev.of_below (gl := gl) (H := H) hok.B (below_drew0 w) (fun _ => by simp)
                    obtain ⟨q1, q2, q3⟩ := new_tok hd (cur := (([] : List Value).toArray ++ Builtin.zeroCells z.cells (0 + m - 0) ++ Builtin.zeroCells z.cells (grownCap w (0 + m) 0 (grow_ren.t 25) - (0 + m)))) (ver := 0) (cap := grownCap w (0 + m) 0 (grow_ren.t 25)) (k := 1) (e := grow_ren.t 25) (Nat.zero_le _) hGm (by simp only [Array.size_append, size_zeroCells, hzc, List.size_toArray, List.length_nil]; omega)
                    have hsz : w.drew.heap.size = w.heap.size := rfl
                    rw [hsz] at q1 q2 q3
                    exact ⟨_, rfl, _, hev.trans q1, q2, .sl (some ⟨w.heap.size, 0, none⟩) 0 _ 1 [] [] (.tok toks.length) rfl (Nat.zero_le _) hGm .nil (fun i vs e => by simp at e) ⟨_, q3, Nat.le_refl _, fun _ => ⟨rfl, rfl, rfl⟩⟩⟩
                  · cases h
                · cases h
    · cases h
end Go.Pv

set_option maxHeartbeats 4000000
set_option maxRecDepth 200000
set_option linter.unusedSimpArgs false
set_option linter.unusedVariables false
namespace Go.Pv
open Go Go.Proofs
noncomputable def G_cat : GamT := ofL [(86, .store D_Grow)]
theorem gok_cat (gl : Nat → Option Obj) : GamOk Tryd.prog gl (gam G_cat) := (gamOk_store (sim_Grow gl) gamOk_nil)
noncomputable def c_cat1 : Code := loopC Tryd.f69 3
noncomputable def c_cat2 : Code := loopC Tryd.f69 11
def I_cat1 : LI := ⟨36, [0, 3, 9, 10, 11], fun e => match e with | .exit 0 => [0, 3] | _ => [], true⟩
noncomputable def LI_cat1 : LpsT := fun r fr σ => .fail
noncomputable def cat1_V (vs : List PV) (σ : Store) : Option (PExit × List PV × Store) := lval (lstep tbT G_cat LI_cat1 c_cat1 I_cat1) vs σ
noncomputable def cat1_Tr (slices : List (List PV)) (size : Int) (r : List (List PV)) (n : Int) (n2 : Int) : Tr LR := Tr.ite (iLt n2 n) (Tr.ite (okPos n2) (Tr.ite (okGet [PV.sl [] .full] r (nNat n2)) (Tr.ite (iLt (iAdd .i64 size (xLen (xRow r (nNat n2) 0))) 0) Tr.fail (Tr.ret (LR.next [PV.sl slices .non, PV.int .i64 (iAdd .i64 size (xLen (xRow r (nNat n2) 0))), PV.sl r .non, PV.int .i64 n, PV.int .i64 (iAdd .i64 n2 1)] (Store.mk [] [] [])))) Tr.fail) Tr.fail) (Tr.ret (LR.out (.exit 0) [PV.sl slices .non, PV.int .i64 size] (Store.mk [] [] [])))
theorem cat1_T (slices : List (List PV)) (size : Int) (r : List (List PV)) (n : Int) (n2 : Int) : lstep tbT G_cat LI_cat1 c_cat1 I_cat1 [.sl slices .non, .int .i64 size, .sl r .non, .int .i64 n, .int .i64 n2] ⟨[], [], []⟩ = cat1_Tr slices size r n n2 := by kernel_rfl
theorem cat1_E (slices : List (List PV)) (size : Int) (r : List (List PV)) (n : Int) (n2 : Int) : cat1_V [.sl slices .non, .int .i64 size, .sl r .non, .int .i64 n, .int .i64 n2] ⟨[], [], []⟩ = lnext cat1_V (cat1_Tr slices size r n n2).run := by unfold cat1_V; rw [lval_eq, cat1_T]
noncomputable def cat1_W (slices : List (List PV)) (size : Int) (r : List (List PV)) (n : Int) (n2 : Int) : Option (PExit × List PV × Store) := cat1_V [.sl slices .non, .int .i64 size, .sl r .non, .int .i64 n, .int .i64 n2] ⟨[], [], []⟩
noncomputable def cat1_slices (slices : List (List PV)) (size : Int) (r : List (List PV)) (n : Int) (n2 : Int) : List (List PV) := (gRow (gOut (cat1_W slices size r n n2) 0))
noncomputable def cat1_size (slices : List (List PV)) (size : Int) (r : List (List PV)) (n : Int) (n2 : Int) : Int := (gInt (gOut (cat1_W slices size r n n2) 1))
noncomputable def cat1_is0 (slices : List (List PV)) (size : Int) (r : List (List PV)) (n : Int) (n2 : Int) : Bool := isW (cat1_W slices size r n n2) ((.exit 0), [.sl (cat1_slices slices size r n n2) .non, .int .i64 (cat1_size slices size r n n2)], ⟨[], [], []⟩)
noncomputable def cat1_prop : List PV → Store → Tr (PExit × List PV × Store) | [.sl slices .non, .int .i64 size, .sl r .non, .int .i64 n, .int .i64 n2], ⟨[], [], []⟩ => .ite (cat1_is0 slices size r n n2) (.ret ((.exit 0), [.sl (cat1_slices slices size r n n2) .non, .int .i64 (cat1_size slices size r n n2)], ⟨[], [], []⟩)) (.fail) | _, _ => .fail
theorem cat1_ok : ∀ vs σ r, (cat1_prop vs σ).run = some r → cat1_V vs σ = some r := by
  intro vs σ r h
  unfold cat1_prop at h
  split at h
  · exact ite_isW h fun h => by cases h
  · cases h
theorem loop_cat1 (gl : Nat → Option Obj) : ∀ fr σ e fr' σ', (orc I_cat1 cat1_prop fr σ).run = some (e, fr', σ') → LDoes Tryd.prog gl c_cat1 fr σ e fr' σ' := orc_ok tbT_ok (gok_cat gl ) noMixed (L := LI_cat1) (loopOk_none (by kernel_rfl)) (by kernel_rfl) cat1_ok
def I_cat2 : LI := ⟨36, [6, 25, 26, 27], fun e => match e with | .exit 2 => [6] | _ => [], true⟩
noncomputable def LI_cat2 : LpsT := fun r fr σ => .fail
noncomputable def cat2_V (vs : List PV) (σ : Store) : Option (PExit × List PV × Store) := lval (lstep tbT G_cat LI_cat2 c_cat2 I_cat2) vs σ
noncomputable def cat2_Tr (newslice : List (List PV)) (r : List (List PV)) (n : Int) (n2 : Int) : Tr LR := Tr.ite (iLt n2 n) (Tr.ite (okPos n2) (Tr.ite (okGet [PV.sl [] .full] r (nNat n2)) (Tr.ite (okGrow newslice (xRow r (nNat n2) 0) 24) (Tr.ite (okNews (xRow r (nNat n2) 0) 1) (Tr.ite (okSize newslice 1) (Tr.ite (xNil (xRow r (nNat n2) 0)) (Tr.ret (LR.next [PV.sl newslice .full, PV.sl r .non, PV.int .i64 n, PV.int .i64 (iAdd .i64 n2 1)] (Store.mk [] [] []))) (Tr.ret (LR.next [PV.sl (xApp newslice (xRow r (nNat n2) 0)) (.tok 0), PV.sl r .non, PV.int .i64 n, PV.int .i64 (iAdd .i64 n2 1)] (Store.mk [] [(nXs (xApp newslice (xRow r (nNat n2) 0)), 1, 23)] [])))) Tr.fail) Tr.fail) Tr.fail) Tr.fail) Tr.fail) (Tr.ret (LR.out (.exit 2) [PV.sl newslice .full] (Store.mk [] [] [])))
theorem cat2_T (newslice : List (List PV)) (r : List (List PV)) (n : Int) (n2 : Int) : lstep tbT G_cat LI_cat2 c_cat2 I_cat2 [.sl newslice .full, .sl r .non, .int .i64 n, .int .i64 n2] ⟨[], [], []⟩ = cat2_Tr newslice r n n2 := by kernel_rfl
theorem cat2_E (newslice : List (List PV)) (r : List (List PV)) (n : Int) (n2 : Int) : cat2_V [.sl newslice .full, .sl r .non, .int .i64 n, .int .i64 n2] ⟨[], [], []⟩ = lnext cat2_V (cat2_Tr newslice r n n2).run := by unfold cat2_V; rw [lval_eq, cat2_T]
noncomputable def cat2_Tr1 (newslice : List (List PV)) (r : List (List PV)) (n : Int) (n2 : Int) (k : Nat) : Tr LR := Tr.ite (iLt n2 n) (Tr.ite (okPos n2) (Tr.ite (okGet [PV.sl [] .full] r (nNat n2)) (Tr.ite (okGrow newslice (xRow r (nNat n2) 0) 24) (Tr.ite (okNews (xRow r (nNat n2) 0) 1) (Tr.ite (okSize newslice 1) (Tr.ite (xNil (xRow r (nNat n2) 0)) (Tr.ret (LR.next [PV.sl newslice (.tok 0), PV.sl r .non, PV.int .i64 n, PV.int .i64 (iAdd .i64 n2 1)] (Store.mk [] [(k, 1, 23)] []))) (Tr.ite (nEq k (nXs newslice)) (Tr.ret (LR.next [PV.sl (xApp newslice (xRow r (nNat n2) 0)) (.tok 0), PV.sl r .non, PV.int .i64 n, PV.int .i64 (iAdd .i64 n2 1)] (Store.mk [] [(nXs (xApp newslice (xRow r (nNat n2) 0)), 1, 23)] []))) Tr.fail)) Tr.fail) Tr.fail) Tr.fail) Tr.fail) Tr.fail) (Tr.ret (LR.out (.exit 2) [PV.sl newslice (.tok 0)] (Store.mk [] [(k, 1, 23)] [])))
theorem cat2_T1 (newslice : List (List PV)) (r : List (List PV)) (n : Int) (n2 : Int) (k : Nat) : lstep tbT G_cat LI_cat2 c_cat2 I_cat2 [.sl newslice (.tok 0), .sl r .non, .int .i64 n, .int .i64 n2] ⟨[], [(k, 1, 23)], []⟩ = cat2_Tr1 newslice r n n2 k := by kernel_rfl
theorem cat2_E1 (newslice : List (List PV)) (r : List (List PV)) (n : Int) (n2 : Int) (k : Nat) : cat2_V [.sl newslice (.tok 0), .sl r .non, .int .i64 n, .int .i64 n2] ⟨[], [(k, 1, 23)], []⟩ = lnext cat2_V (cat2_Tr1 newslice r n n2 k).run := by unfold cat2_V; rw [lval_eq, cat2_T1]
noncomputable def cat2_W (newslice : List (List PV)) (r : List (List PV)) (n : Int) (n2 : Int) : Option (PExit × List PV × Store) := cat2_V [.sl newslice .full, .sl r .non, .int .i64 n, .int .i64 n2] ⟨[], [], []⟩
noncomputable def cat2_newslice_0 (newslice : List (List PV)) (r : List (List PV)) (n : Int) (n2 : Int) : List (List PV) := (gRow (gOut (cat2_W newslice r n n2) 0))
noncomputable def cat2_is0 (newslice : List (List PV)) (r : List (List PV)) (n : Int) (n2 : Int) : Bool := isW (cat2_W newslice r n n2) ((.exit 2), [.sl (cat2_newslice_0 newslice r n n2) .full], ⟨[], [], []⟩)
noncomputable def cat2_newslice_1 (newslice : List (List PV)) (r : List (List PV)) (n : Int) (n2 : Int) : List (List PV) := (gRow (gOut (cat2_W newslice r n n2) 0))
noncomputable def cat2_k_1 (newslice : List (List PV)) (r : List (List PV)) (n : Int) (n2 : Int) : Nat := (gTok (cat2_W newslice r n n2) 0)
noncomputable def cat2_is1 (newslice : List (List PV)) (r : List (List PV)) (n : Int) (n2 : Int) : Bool := isW (cat2_W newslice r n n2) ((.exit 2), [.sl (cat2_newslice_1 newslice r n n2) (.tok 0)], ⟨[], [((cat2_k_1 newslice r n n2), 1, 23)], []⟩)
noncomputable def cat2b_W (newslice : List (List PV)) (r : List (List PV)) (n : Int) (n2 : Int) (k : Nat) : Option (PExit × List PV × Store) := cat2_V [.sl newslice (.tok 0), .sl r .non, .int .i64 n, .int .i64 n2] ⟨[], [(k, 1, 23)], []⟩
noncomputable def cat2b_newslice (newslice : List (List PV)) (r : List (List PV)) (n : Int) (n2 : Int) (k : Nat) : List (List PV) := (gRow (gOut (cat2b_W newslice r n n2 k) 0))
noncomputable def cat2b_k (newslice : List (List PV)) (r : List (List PV)) (n : Int) (n2 : Int) (k : Nat) : Nat := (gTok (cat2b_W newslice r n n2 k) 0)
noncomputable def cat2b_is0 (newslice : List (List PV)) (r : List (List PV)) (n : Int) (n2 : Int) (k : Nat) : Bool := isW (cat2b_W newslice r n n2 k) ((.exit 2), [.sl (cat2b_newslice newslice r n n2 k) (.tok 0)], ⟨[], [((cat2b_k newslice r n n2 k), 1, 23)], []⟩)
noncomputable def cat2_prop : List PV → Store → Tr (PExit × List PV × Store) | [.sl newslice .full, .sl r .non, .int .i64 n, .int .i64 n2], ⟨[], [], []⟩ => .ite (cat2_is0 newslice r n n2) (.ret ((.exit 2), [.sl (cat2_newslice_0 newslice r n n2) .full], ⟨[], [], []⟩)) (.ite (cat2_is1 newslice r n n2) (.ret ((.exit 2), [.sl (cat2_newslice_1 newslice r n n2) (.tok 0)], ⟨[], [((cat2_k_1 newslice r n n2), 1, 23)], []⟩)) (.fail)) | [.sl newslice (.tok 0), .sl r .non, .int .i64 n, .int .i64 n2], ⟨[], [(k, 1, 23)], []⟩ => .ite (cat2b_is0 newslice r n n2 k) (.ret ((.exit 2), [.sl (cat2b_newslice newslice r n n2 k) (.tok 0)], ⟨[], [((cat2b_k newslice r n n2 k), 1, 23)], []⟩)) (.fail) | _, _ => .fail
theorem cat2_ok : ∀ vs σ r, (cat2_prop vs σ).run = some r → cat2_V vs σ = some r := by
  intro vs σ r h
  unfold cat2_prop at h
  split at h
  · exact ite_isW h fun h => ite_isW h fun h => by cases h
  · exact ite_isW h fun h => by cases h
  · cases h
theorem loop_cat2 (gl : Nat → Option Obj) : ∀ fr σ e fr' σ', (orc I_cat2 cat2_prop fr σ).run = some (e, fr', σ') → LDoes Tryd.prog gl c_cat2 fr σ e fr' σ' := orc_ok tbT_ok (gok_cat gl ) noMixed (L := LI_cat2) (loopOk_none (by kernel_rfl)) (by kernel_rfl) cat2_ok
noncomputable def L_cat : LpsT := fun r fr σ => bif Nat.beq r 3 then orc I_cat1 cat1_prop fr σ else bif Nat.beq r 11 then orc I_cat2 cat2_prop fr σ else .fail
noncomputable def cat_Tr (slices : List (List PV)) : Tr PV := Tr.ite (cat1_is0 slices 0 slices (xLen slices) 0) (Tr.ite (iEq (cat1_size slices 0 slices (xLen slices) 0) 0) (Tr.ite (cat2_is0 [] (cat1_slices slices 0 slices (xLen slices) 0) (xLen (cat1_slices slices 0 slices (xLen slices) 0)) 0) (Tr.ret (PV.sl (shutLL (cat2_newslice_0 [] (cat1_slices slices 0 slices (xLen slices) 0) (xLen (cat1_slices slices 0 slices (xLen slices) 0)) 0)) .non)) (Tr.ite (cat2_is1 [] (cat1_slices slices 0 slices (xLen slices) 0) (xLen (cat1_slices slices 0 slices (xLen slices) 0)) 0) (Tr.ret (PV.sl (shutLL (cat2_newslice_1 [] (cat1_slices slices 0 slices (xLen slices) 0) (xLen (cat1_slices slices 0 slices (xLen slices) 0)) 0)) .non)) Tr.fail)) (Tr.ite (iLt 0 (cat1_size slices 0 slices (xLen slices) 0)) (Tr.ite (iLe (cat1_size slices 0 slices (xLen slices) 0) 1000000000000) (Tr.ite (cat2b_is0 [] (cat1_slices slices 0 slices (xLen slices) 0) (xLen (cat1_slices slices 0 slices (xLen slices) 0)) 0 0) (Tr.ret (PV.sl (shutLL (cat2b_newslice [] (cat1_slices slices 0 slices (xLen slices) 0) (xLen (cat1_slices slices 0 slices (xLen slices) 0)) 0 0)) .non)) Tr.fail) Tr.fail) Tr.fail)) Tr.fail
theorem cat_T (slices : List (List PV)) : (tcall tbT G_cat L_cat Tryd.f69 [.sl slices .non]).flat = cat_Tr slices := by kernel_rfl
noncomputable def cat_W (slices : List (List PV)) : Option PV := (cat_Tr slices).run
noncomputable def cat_r (slices : List (List PV)) : List (List PV) := (gRow (gVal (cat_W slices)))
noncomputable def cat_is0 (slices : List (List PV)) : Bool := isW (cat_W slices) (.sl (cat_r slices) .non)
noncomputable def F_cat : List PV → Tr PV | [.sl slices .non] => .ite (cat_is0 slices) (.ret (.sl (cat_r slices) .non)) (.fail) | _ => .fail
theorem sim_cat (gl : Nat → Option Obj) : SimP Tryd.prog gl 69 fun args => (F_cat args).run := by
  refine SimP.of_flat (G := G_cat) (L := L_cat) tbT_ok (gok_cat gl ) noMixed Tryd.func69 rfl (by rfl) (by kernel_rfl) (loopOk_all (L := lps L_cat) [(3, c_cat1), (11, c_cat2)] (by kernel_rfl) (List.forall_mem_cons.2 ⟨fun fr σ e fr' σ' h => loop_cat1 gl  fr σ e fr' σ' h, (List.forall_mem_cons.2 ⟨fun fr σ e fr' σ' h => loop_cat2 gl  fr σ e fr' σ' h, (List.forall_mem_nil _)⟩)⟩)) ?_
  intro args x h
  unfold F_cat at h
  split at h
  · exact (congrArg Tr.run (cat_T _)).trans (ite_isW h fun h => by cases h)
  · cases h
end Go.Pv

set_option maxHeartbeats 8000000
set_option maxRecDepth 200000
set_option linter.unusedSimpArgs false
set_option linter.unusedVariables false
/-! tuple.Sorted as a row of one's own at any store; Concat. -/
namespace Go.Pv
open Go Go.Proofs
noncomputable def srtC (l : List (List PV)) : List PV := oA cV (fun i => (usort lexV (unR (cR cV) l)).getD i []) (usort lexV (unR (cR cV) l)).length
@[simp] theorem srtC_of (l : List (List Vl)) : srtC (rOf (cR cV) l) = oA cV (fun i => (usort lexV l).getD i []) (usort lexV l).length := by simp only [srtC, unR_of]
def okLens (l : List (List PV)) : Bool := decide (l.length ≤ 1000000) && (unR (cR cV) l).all fun t => decide (t.length ≤ 1000000)
@[simp] theorem okLens_of (l : List (List Vl)) : okLens (rOf (cR cV) l) = (decide (l.length ≤ 1000000) && l.all fun t => decide (t.length ≤ 1000000)) := by simp only [okLens, unR_of, rOf_len]
noncomputable def D_Sf : List PV → Store → Tr (PV × Store)
  | [.sl l .non], ⟨objs, toks, tys⟩ => Tr.chk (okR (cR cV) l) (Tr.chk (okLens l) (Tr.chk (bNot (xNil l)) (.ret (.osl objs.length 0 (nXs (srtV l)) 1, ⟨objs ++ [srtC l], toks, tys ++ [1000023]⟩))))
  | _, _ => .fail
theorem shutL_oA (f : Nat → List Vl) (n : Nat) : shutL (oA cV f n) = oA cV f n := by
  have : ∀ xs : List PV, shutL xs = xs.map shut := fun xs => by
    induction xs with
    | nil => rfl
    | cons x xs ih => simp only [shutL, List.map_cons, ih]
  rw [this]
  unfold oA
  rw [List.map_map]
  apply List.map_congr_left
  intro p _
  simp only [Function.comp, shut, shutLL_rOf]
theorem sim_Sf (gl : Nat → Option Obj) : SimS Tryd.prog gl 23 fun args σ => (D_Sf args σ).run := by
  refine SimS.of_fresh (sim_TSs gl) ?_
  intro args σ x σ' h
  unfold D_Sf at h
  split at h
  · rename_i l objs toks tys
    obtain ⟨h1, q⟩ := Tr.chk_some h
    obtain ⟨h2, q⟩ := Tr.chk_some q
    obtain ⟨h3, q⟩ := Tr.chk_some q
    cases q
    obtain ⟨m, rfl⟩ := okR_eq (cR cV) h1
    have hne : m ≠ [] := by rintro rfl; simp at h3
    simp only [okLens_of, Bool.and_eq_true, decide_eq_true_eq, List.all_eq_true] at h2
    have g1 : m.length * 24 ≤ 140737488355328 := by omega
    have g2 : m.length ≤ 140737488355328 := by omega
    have hc := copied_law m h2.1 h2.2
    have c1 : copied_is0 (rOf (cR cV) m) = true := by simp [copied_is0, copied_r, hc]
    have c2 : copied_r (rOf (cR cV) m) = rOf (cR cV) m := by simp [copied_r, hc]
    have hw : TSs_W (rOf (cR cV) m) = some (.osl 1 0 (usort lexV m).length 1, ⟨[[.sl (rOf (cR cV) m) .own, .fn 16 []], srtO (rOf (cR cV) m)], [], [82, 1000023]⟩) := by
      unfold TSs_W TSs_Tr
      simp [c1, c2, hne, g1, g2]
    have a1 : TSs_o (rOf (cR cV) m) = 0 := by rw [TSs_o, hw]; rfl
    have a2 : TSs_m (rOf (cR cV) m) = (usort lexV m).length := by rw [TSs_m, hw]; rfl
    have a3 : TSs_r (rOf (cR cV) m) = rOf (cR cV) m := by rw [TSs_r, hw]; rfl
    have a4 : TSs_l (rOf (cR cV) m) = srtO (rOf (cR cV) m) := by rw [TSs_l, hw]; rfl
    have a5 : TSs_is0 (rOf (cR cV) m) = true := by rw [TSs_is0, a1, a2, a3, a4, hw]; simp
    have e1 : nXs (srtV (rOf (cR cV) m)) = (usort lexV m).length := by rw [srtV_of, nXs_rOf]
    have hv : view objs (.sl (rOf (cR cV) m) .non) = .sl (rOf (cR cV) m) .non := by simp [view, view1, lock]
    refine ⟨1, 0, (usort lexV m).length, 1, srtO (rOf (cR cV) m), ⟨[[.sl (rOf (cR cV) m) .own, .fn 16 []], srtO (rOf (cR cV) m)], [], [82, 1000023]⟩, 1000023, (usort lexV m).length, ?_, rfl, by decide, by rw [e1], ?_⟩
    · simp only [List.map_cons, List.map_nil, hv, D_TSs, a1, a2, a3, a4, a5, Tr.run_ite, if_true, Tr.run_ret]
    · rw [srtO_law m hne g1, shutL_oA, srtC_of]
  · cases h
/-! ### nothing to take out of nothing -/
theorem del0_law (m : List (List PV)) (b : Bool) : del0_W [] m b = some (.sl [] .non) := by
  have h : ∀ m, idx01_V [.sl [] .non, .fn 89 [.ref [.sl m .non, .fn 16 []], .ref [.bool b]], .int .i64 0, .int .i64 0] ⟨[], [], []⟩ = some (.exit 0, [], ⟨[], [], []⟩) := fun m => by
    rw [idx01_E]
    simp [idx01_Tr]
  have h1 : ∀ m, idx0_W [] m b = some (.int .i64 (-1)) := fun m => by
    unfold idx0_W idx0_Tr
    simp [idx01_is0, idx01_is1, idx01_W, h, isW]
  unfold del0_W del0_Tr
  simp [idx0_is0, idx0_n, h1]
/-! ### Concat -/
def catF (s : Nat) (a : List (List Vl)) : Nat ⊕ Nat := .inl (s + a.length)
def lenL (l : List (List (List Vl))) : Nat := l.foldl (fun s a => s + a.length) 0
theorem cat_fold : ∀ (l : List (List (List Vl))) (s : Nat), foldE catF id l s = s + l.flatten.length
  | [], s => by simp [foldE]
  | a :: l, s => by
    simp only [foldE, catF]
    rw [cat_fold l]
    simp
    omega
theorem take_flat (l : List (List (List Vl))) (i : Nat) : (l.take i).flatten.length ≤ l.flatten.length := by
  have : l.flatten = (l.take i).flatten ++ (l.drop i).flatten := by rw [← List.flatten_append, List.take_append_drop]
  rw [this]
  simp
theorem cat1_loop (l : List (List (List Vl))) (hl : l.length ≤ 1000000) (hf : l.flatten.length ≤ 1000000) : cat1_V [.sl (rOf (cR (cR cV)) l) .non, .int .i64 0, .sl (rOf (cR (cR cV)) l) .non, .int .i64 (l.length : Nat), .int .i64 0] ⟨[], [], []⟩ = some (.exit 0, [.sl (rOf (cR (cR cV)) l) .non, .int .i64 (l.flatten.length : Nat)], ⟨[], [], []⟩) := by
  have h := loop_foldE0 (l := l) (V := fun i s => cat1_V [.sl (rOf (cR (cR cV)) l) .non, .int .i64 (s : Nat), .sl (rOf (cR (cR cV)) l) .non, .int .i64 (l.length : Nat), .int .i64 (i : Nat)] ⟨[], [], []⟩) (fun i s => s = (l.take i).flatten.length) catF id (fun r => some (.exit 0, [.sl (rOf (cR (cR cV)) l) .non, .int .i64 (r : Nat)], ⟨[], [], []⟩)) 0 (by simp) ?_ ?_
  · rw [cat_fold] at h
    simpa using h
  · intro i s a hs hi ha
    have w := inc_i64 (i := i) (by omega)
    have e : (l.take (i + 1)).flatten.length = s + a.length := by
      rw [hs, ← List.take_append_getElem hi, List.flatten_append, ha]
      simp
    have hle := take_flat l (i + 1)
    have w2 : iAdd .i64 (s : Int) (a.length : Int) = ((s + a.length : Nat) : Int) := add_N (by omega)
    have nn : ¬ ((s + a.length : Nat) : Int) < 0 := by omega
    refine .inl ⟨_, rfl, e.symm, ?_⟩
    rw [cat1_E]
    generalize hx : s + a.length = x at *
    simp [cat1_Tr, ha, hi, w, w2, nn]
  · intro b _
    simp [cat1_E, cat1_Tr]
theorem cat2b_loop (l : List (List (List Vl))) (hl : l.length ≤ 1000000) (hf : l.flatten.length ≤ 1000000) : cat2_V [.sl [] (.tok 0), .sl (rOf (cR (cR cV)) l) .non, .int .i64 (l.length : Nat), .int .i64 0] ⟨[], [(0, 1, 23)], []⟩ = some (.exit 2, [.sl (rOf (cR cV) l.flatten) (.tok 0)], ⟨[], [(l.flatten.length, 1, 23)], []⟩) := by
  have h := loop_acc (l := l) (V := fun i b => cat2_V [.sl (rOf (cR cV) b) (.tok 0), .sl (rOf (cR (cR cV)) l) .non, .int .i64 (l.length : Nat), .int .i64 (i : Nat)] ⟨[], [(b.length, 1, 23)], []⟩) (fun a => a) (fun r => some (.exit 2, [.sl (rOf (cR cV) r) (.tok 0)], ⟨[], [(r.length, 1, 23)], []⟩)) ?_ ?_
  · rw [show l.flatMap (fun a => a) = l.flatten from List.flatMap_id'] at h
    simpa using h
  · intro i b a hb hi ha
    have w := inc_i64 (i := i) (by omega)
    have e : (l.take (i + 1)).flatten.length = b.length + a.length := by
      rw [hb, ← List.take_append_getElem hi, List.flatten_append, ha, show (l.take i).flatMap (fun a => a) = (l.take i).flatten from List.flatMap_id']
      simp
    have hle := take_flat l (i + 1)
    have g1 : (b.length + a.length) * 24 ≤ 140737488355328 := by omega
    have g2 : b.length + a.length ≤ 140737488355328 := by omega
    have g3 : b.length ≤ 140737488355327 := by omega
    cases a with
    | nil =>
      have k1 : b.length * 24 ≤ 140737488355328 := by simp at g1; omega
      have k2 : b.length ≤ 140737488355328 := by omega
      simp [cat2_E1, cat2_Tr1, ha, hi, w, k1, k2, g3]
    | cons x a =>
      have k1 : (b.length + (a.length + 1)) * 24 ≤ 140737488355328 := by simp at g1; omega
      have k2 : b.length + (a.length + 1) ≤ 140737488355328 := by simp at g2; omega
      have k3 : b.length ≤ 140737488355328 := by omega
      simp [cat2_E1, cat2_Tr1, ha, hi, w, k1, k2, k3, g3]
  · intro b hb
    simp [cat2_E1, cat2_Tr1]
theorem cat2_zero (l : List (List (List Vl))) (hl : l.length ≤ 1000000) (hz : l.flatten = []) : cat2_V [.sl [] .full, .sl (rOf (cR (cR cV)) l) .non, .int .i64 (l.length : Nat), .int .i64 0] ⟨[], [], []⟩ = some (.exit 2, [.sl [] .full], ⟨[], [], []⟩) := by
  have h := loop_foldE0 (l := l) (V := fun i (_ : Unit) => cat2_V [.sl [] .full, .sl (rOf (cR (cR cV)) l) .non, .int .i64 (l.length : Nat), .int .i64 (i : Nat)] ⟨[], [], []⟩) (fun _ _ => True) (fun _ _ => .inl ()) id (fun _ => some (.exit 2, [.sl [] .full], ⟨[], [], []⟩)) () trivial ?_ ?_
  · simpa using h
  · intro i s a _ hi ha
    have w := inc_i64 (i := i) (by omega)
    have : a = [] := List.flatten_eq_nil_iff.1 hz a (by rw [← ha]; exact List.getElem_mem hi)
    subst this
    refine .inl ⟨(), rfl, trivial, ?_⟩
    simp [cat2_E, cat2_Tr, ha, hi, w]
  · intro b _
    simp [cat2_E, cat2_Tr]
theorem cat_law (l : List (List (List Vl))) (hl : l.length ≤ 1000000) (hf : l.flatten.length ≤ 1000000) : cat_W (rOf (cR (cR cV)) l) = some (.sl (rOf (cR cV) l.flatten) .non) := by
  have h1 := cat1_loop l hl hf
  have x1 : xLen (rOf (cR (cR cV)) l) = (l.length : Nat) := by simp
  have a1 : cat1_slices (rOf (cR (cR cV)) l) 0 (rOf (cR (cR cV)) l) (l.length : Nat) 0 = rOf (cR (cR cV)) l := by simp [cat1_slices, cat1_W, h1]
  have a2 : cat1_size (rOf (cR (cR cV)) l) 0 (rOf (cR (cR cV)) l) (l.length : Nat) 0 = (l.flatten.length : Nat) := by simp [cat1_size, cat1_W, h1]
  have a3 : cat1_is0 (rOf (cR (cR cV)) l) 0 (rOf (cR (cR cV)) l) (l.length : Nat) 0 = true := by simp [cat1_is0, a1, a2, cat1_W, h1]
  unfold cat_W cat_Tr
  simp only [x1, a1, a2, a3, Tr.run_ite, if_true]
  by_cases hz : l.flatten = []
  · have h2 := cat2_zero l hl hz
    have b1 : cat2_newslice_0 [] (rOf (cR (cR cV)) l) (l.length : Nat) 0 = [] := by simp [cat2_newslice_0, cat2_W, h2]
    have b2 : cat2_is0 [] (rOf (cR (cR cV)) l) (l.length : Nat) 0 = true := by simp [cat2_is0, b1, cat2_W, h2]
    simp [hz, b1, b2]
  · have h2 := cat2b_loop l hl hf
    have hp : 0 < l.flatten.length := by
      cases h : l.flatten with
      | nil => exact absurd h hz
      | cons a m => simp
    have b1 : cat2b_newslice [] (rOf (cR (cR cV)) l) (l.length : Nat) 0 0 = rOf (cR cV) l.flatten := by simp [cat2b_newslice, cat2b_W, h2]
    have b2 : cat2b_is0 [] (rOf (cR (cR cV)) l) (l.length : Nat) 0 0 = true := by simp [cat2b_is0, cat2b_k, b1, cat2b_W, h2]
    generalize l.flatten = r at *
    have c1 : iEq ((r.length : Nat) : Int) 0 = false := by simp; intro h; subst h; simp at hp
    have c2 : iLt 0 ((r.length : Nat) : Int) = true := by simp; exact hp
    have c3 : iLe ((r.length : Nat) : Int) 1000000000000 = true := by simp; omega
    simp only [c1, c2, c3, b1, b2, Bool.false_eq_true, if_false, if_true, Tr.run_ret, shutLL_rOf]
end Go.Pv

set_option maxHeartbeats 4000000
set_option maxRecDepth 200000
set_option linter.unusedSimpArgs false
set_option linter.unusedVariables false
namespace Go.Pv
open Go Go.Proofs
noncomputable def G_Union : GamT := ofL [(23, .pure F_TSorted), (69, .pure F_cat)]
theorem gok_Union (gl : Nat → Option Obj) : GamOk Tryd.prog gl (gam G_Union) := (gamOk_cons (sim_TSorted gl) (gamOk_cons (sim_cat gl) gamOk_nil))
noncomputable def L_Union : LpsT := fun r fr σ => .fail
noncomputable def Union_Tr (a : List (List PV)) (b : List (List PV)) : Tr PV := Tr.ite (cat_is0 [[PV.sl (lockLL a) .non], [PV.sl (lockLL b) .non]]) (Tr.ite (TSorted_is0 (lockLL (cat_r [[PV.sl (lockLL a) .non], [PV.sl (lockLL b) .non]]))) (Tr.ret (PV.sl (shutLL (TSorted_r (lockLL (cat_r [[PV.sl (lockLL a) .non], [PV.sl (lockLL b) .non]])))) .non)) Tr.fail) Tr.fail
theorem Union_T (a : List (List PV)) (b : List (List PV)) : (tcall tbT G_Union L_Union Tryd.f45 [.sl a .non, .sl b .non]).flat = Union_Tr a b := by kernel_rfl
noncomputable def Union_W (a : List (List PV)) (b : List (List PV)) : Option PV := (Union_Tr a b).run
noncomputable def Union_r (a : List (List PV)) (b : List (List PV)) : List (List PV) := (gRow (gVal (Union_W a b)))
noncomputable def Union_is0 (a : List (List PV)) (b : List (List PV)) : Bool := isW (Union_W a b) (.sl (Union_r a b) .non)
noncomputable def F_Union : List PV → Tr PV | [.sl a .non, .sl b .non] => .ite (Union_is0 a b) (.ret (.sl (Union_r a b) .non)) (.fail) | _ => .fail
theorem sim_Union (gl : Nat → Option Obj) : SimP Tryd.prog gl 45 fun args => (F_Union args).run := by
  refine SimP.of_flat (G := G_Union) (L := L_Union) tbT_ok (gok_Union gl ) noMixed Tryd.func45 rfl (by rfl) (by kernel_rfl) (loopOk_none (by kernel_rfl)) ?_
  intro args x h
  unfold F_Union at h
  split at h
  · exact (congrArg Tr.run (Union_T _ _)).trans (ite_isW h fun h => by cases h)
  · cases h
noncomputable def G_some0 : GamT := ofL [(16, .pure F_TCmp), (23, .pure F_TSorted), (87, .pure F_set0), (88, .pure F_del0), (89, .pure F_smc)]
theorem gok_some0 (gl : Nat → Option Obj) : GamOk Tryd.prog gl (gam G_some0) := (gamOk_cons (sim_TCmp gl) (gamOk_cons (sim_TSorted gl) (gamOk_cons (sim_set0 gl) (gamOk_cons (sim_del0 gl) (gamOk_cons (sim_smc gl) gamOk_nil)))))
noncomputable def L_some0 : LpsT := fun r fr σ => .fail
noncomputable def some0_Tr (a : List (List PV)) (b : List (List PV)) (has : Bool) : Tr PV := Tr.ite (TSorted_is0 (lockLL (lockLL b))) (Tr.ite (TSorted_is0 (lockLL a)) (Tr.ite (del0_is0 (lockLL (TSorted_r (lockLL a))) (lockLL (shutLL (TSorted_r (lockLL (lockLL b))))) has) (Tr.ret (PV.sl (shutLL (del0_r (lockLL (TSorted_r (lockLL a))) (lockLL (shutLL (TSorted_r (lockLL (lockLL b))))) has)) .non)) Tr.fail) Tr.fail) Tr.fail
theorem some0_T (a : List (List PV)) (b : List (List PV)) (has : Bool) : (tcall tbT G_some0 L_some0 Tryd.f70 [.sl a .non, .sl b .non, .bool has]).flat = some0_Tr a b has := by kernel_rfl
noncomputable def some0_W (a : List (List PV)) (b : List (List PV)) (has : Bool) : Option PV := (some0_Tr a b has).run
noncomputable def some0_r (a : List (List PV)) (b : List (List PV)) (has : Bool) : List (List PV) := (gRow (gVal (some0_W a b has)))
noncomputable def some0_is0 (a : List (List PV)) (b : List (List PV)) (has : Bool) : Bool := isW (some0_W a b has) (.sl (some0_r a b has) .non)
noncomputable def F_some0 : List PV → Tr PV | [.sl a .non, .sl b .non, .bool has] => .ite (some0_is0 a b has) (.ret (.sl (some0_r a b has) .non)) (.fail) | _ => .fail
theorem sim_some0 (gl : Nat → Option Obj) : SimP Tryd.prog gl 70 fun args => (F_some0 args).run := by
  refine SimP.of_flat (G := G_some0) (L := L_some0) tbT_ok (gok_some0 gl ) noMixed Tryd.func70 rfl (by rfl) (by kernel_rfl) (loopOk_none (by kernel_rfl)) ?_
  intro args x h
  unfold F_some0 at h
  split at h
  · exact (congrArg Tr.run (some0_T _ _ _)).trans (ite_isW h fun h => by cases h)
  · cases h
end Go.Pv

set_option maxHeartbeats 4000000
set_option maxRecDepth 200000
set_option linter.unusedSimpArgs false
set_option linter.unusedVariables false
namespace Go.Pv
open Go Go.Proofs
noncomputable def G_some1 : GamT := ofL [(16, .pure F_TCmp), (23, .store D_Sf), (87, .pure F_set0), (88, .store D_del), (89, .pure F_smc)]
theorem gok_some1 (gl : Nat → Option Obj) : GamOk Tryd.prog gl (gam G_some1) := (gamOk_cons (sim_TCmp gl) (gamOk_store (sim_Sf gl) (gamOk_cons (sim_set0 gl) (gamOk_store (sim_del gl) (gamOk_cons (sim_smc gl) gamOk_nil)))))
noncomputable def L_some1 : LpsT := fun r fr σ => .fail
noncomputable def some1_Tr (a : List (List PV)) (b : List (List PV)) (has : Bool) : Tr PV := Tr.ite (TSorted_is0 (lockLL (lockLL b))) (Tr.ite (okR (cR cV) a) (Tr.ite (okLens a) (Tr.ite (bNot (xNil a)) (Tr.ite (del_is0 0 (nXs (srtV a)) has (shutLL (TSorted_r (lockLL (lockLL b)))) (srtC a) [] [] []) (Tr.ite (okOff (del_l 0 (nXs (srtV a)) has (shutLL (TSorted_r (lockLL (lockLL b)))) (srtC a) [] [] []) (del_o 0 (nXs (srtV a)) has (shutLL (TSorted_r (lockLL (lockLL b)))) (srtC a) [] [] []) (pOff 0 (del_m 0 (nXs (srtV a)) has (shutLL (TSorted_r (lockLL (lockLL b)))) (srtC a) [] [] []) 1)) (Tr.ret (PV.sl (shutLL (rowsC (del_l 0 (nXs (srtV a)) has (shutLL (TSorted_r (lockLL (lockLL b)))) (srtC a) [] [] []) (del_o 0 (nXs (srtV a)) has (shutLL (TSorted_r (lockLL (lockLL b)))) (srtC a) [] [] []) (del_m 0 (nXs (srtV a)) has (shutLL (TSorted_r (lockLL (lockLL b)))) (srtC a) [] [] []) 1)) .non)) Tr.fail) Tr.fail) Tr.fail) Tr.fail) Tr.fail) Tr.fail
theorem some1_T (a : List (List PV)) (b : List (List PV)) (has : Bool) : (tcall tbT G_some1 L_some1 Tryd.f70 [.sl a .non, .sl b .non, .bool has]).flat = some1_Tr a b has := by kernel_rfl
noncomputable def some1_W (a : List (List PV)) (b : List (List PV)) (has : Bool) : Option PV := (some1_Tr a b has).run
noncomputable def some1_r (a : List (List PV)) (b : List (List PV)) (has : Bool) : List (List PV) := (gRow (gVal (some1_W a b has)))
noncomputable def some1_is0 (a : List (List PV)) (b : List (List PV)) (has : Bool) : Bool := isW (some1_W a b has) (.sl (some1_r a b has) .non)
noncomputable def F_some1 : List PV → Tr PV | [.sl a .non, .sl b .non, .bool has] => .ite (some1_is0 a b has) (.ret (.sl (some1_r a b has) .non)) (.fail) | _ => .fail
theorem sim_some1 (gl : Nat → Option Obj) : SimP Tryd.prog gl 70 fun args => (F_some1 args).run := by
  refine SimP.of_flat (G := G_some1) (L := L_some1) tbT_ok (gok_some1 gl ) noMixed Tryd.func70 rfl (by rfl) (by kernel_rfl) (loopOk_none (by kernel_rfl)) ?_
  intro args x h
  unfold F_some1 at h
  split at h
  · exact (congrArg Tr.run (some1_T _ _ _)).trans (ite_isW h fun h => by cases h)
  · cases h
end Go.Pv

set_option maxHeartbeats 8000000
set_option maxRecDepth 200000
set_option linter.unusedSimpArgs false
set_option linter.unusedVariables false
/-! Those of one row that the other one has, or has not. -/
namespace Go.Pv
open Go Go.Proofs
def someL (a b : List (List Vl)) (h : Bool) : List (List Vl) := usort lexV (a.filter (kp h b))
theorem kp_usort (h : Bool) (b : List (List Vl)) : kp h (usort lexV b) = kp h b := by
  funext x
  simp only [kp, plB_usort lexV_tot]
theorem someL_eq (a b : List (List Vl)) (h : Bool) : (usort lexV a).filter (kp h (usort lexV b)) = someL a b h := by
  rw [usort_filter lexV_tot, kp_usort]
  rfl
theorem range_get (l : List (List Vl)) : (List.range l.length).map (fun i => l.getD i []) = l := by
  apply List.ext_getElem?
  intro i
  by_cases hi : i < l.length
  · simp [hi]
  · simp [hi]
theorem some0_law (b : List (List Vl)) (h : Bool) (hb : b.length ≤ 1000000) (hb2 : ∀ t ∈ b, t.length ≤ 1000000) : some0_W [] (rOf (cR cV) b) h = some (.sl [] .non) := by
  have s1 := TSorted_law b hb hb2
  have s2 := TSorted_law [] (by simp) (by simp)
  have e1 : TSorted_is0 (rOf (cR cV) b) = true := by simp [TSorted_is0, TSorted_r, s1]
  have e2 : TSorted_r (rOf (cR cV) b) = rOf (cR cV) (usort lexV b) := by simp [TSorted_r, s1]
  have s2' : TSorted_W [] = some (.sl [] .non) := s2
  have e3 : TSorted_is0 [] = true := by simp [TSorted_is0, TSorted_r, s2']
  have e4 : TSorted_r [] = [] := by simp [TSorted_r, s2']
  have d := fun m => del0_law m h
  unfold some0_W some0_Tr
  simp [e1, e2, e3, e4, del0_is0, del0_r, d]
theorem some1_law (a b : List (List Vl)) (h : Bool) (hne : a ≠ []) (ha : a.length ≤ 1000000) (ha2 : ∀ t ∈ a, t.length ≤ 1000000) (hb : b.length ≤ 1000000) (hb2 : ∀ t ∈ b, t.length ≤ 1000000) : some1_W (rOf (cR cV) a) (rOf (cR cV) b) h = some (.sl (rOf (cR cV) (someL a b h)) .non) := by
  have s1 := TSorted_law b hb hb2
  have e1 : TSorted_is0 (rOf (cR cV) b) = true := by simp [TSorted_is0, TSorted_r, s1]
  have e2 : TSorted_r (rOf (cR cV) b) = rOf (cR cV) (usort lexV b) := by simp [TSorted_r, s1]
  have hul := usort_len (c := lexV) a
  have hbl := usort_len (c := lexV) b
  obtain ⟨k, g, cs', d1, d2, d3, d4, d5, d6, d7⟩ := del_law h (usort lexV b) (by omega) (ssrt_usort lexV_tot b) [] [] [] (fun i => (usort lexV a).getD i []) (usort lexV a).length (by omega)
  rw [range_get, someL_eq] at d7
  have q1 : okLens (rOf (cR cV) a) = true := by
    rw [okLens_of]
    simp only [Bool.and_eq_true, decide_eq_true_eq, List.all_eq_true]
    exact ⟨ha, ha2⟩
  have q2 : bNot (xNil (rOf (cR cV) a)) = true := by simp [hne]
  have e5 := rowsC_1 cV d6
  rw [d7] at e5
  have e6 : okOff cs' 0 k = true := by simp [okOff]; omega
  have e7 : nXs (srtV (rOf (cR cV) a)) = (usort lexV a).length := by rw [srtV_of, nXs_rOf]
  unfold some1_W some1_Tr
  simp only [lockLL_rOf, shutLL_rOf, e1, e2, okR_of, q1, q2, e7, srtC_of, d1, d2, d3, d4, pOff_1, Nat.zero_add, e5, e6, if_true, Tr.run_ite, Tr.run_ret]
noncomputable def someV (a b : List (List PV)) (h : Bool) : List (List PV) := rOf (cR cV) (someL (unR (cR cV) a) (unR (cR cV) b) h)
@[simp] theorem someV_of (a b : List (List Vl)) (h : Bool) : someV (rOf (cR cV) a) (rOf (cR cV) b) h = rOf (cR cV) (someL a b h) := by simp only [someV, unR_of]
noncomputable def F_some : List PV → Tr PV
  | [.sl a .non, .sl b .non, .bool h] => Tr.chk (okR (cR cV) a) (Tr.chk (okR (cR cV) b) (Tr.chk (okLens a) (Tr.chk (okLens b) (.ret (.sl (someV a b h) .non)))))
  | _ => .fail
theorem sim_some (gl : Nat → Option Obj) : SimP Tryd.prog gl 70 fun args => (F_some args).run := by
  refine SimP.or (sim_some0 gl) (sim_some1 gl) ?_
  intro args x hh
  unfold F_some at hh
  split at hh
  · rename_i a b h
    obtain ⟨h1, q⟩ := Tr.chk_some hh
    obtain ⟨h2, q⟩ := Tr.chk_some q
    obtain ⟨h3, q⟩ := Tr.chk_some q
    obtain ⟨h4, q⟩ := Tr.chk_some q
    cases q
    obtain ⟨a, rfl⟩ := okR_eq (cR cV) h1
    obtain ⟨b, rfl⟩ := okR_eq (cR cV) h2
    simp only [okLens_of, Bool.and_eq_true, decide_eq_true_eq, List.all_eq_true] at h3 h4
    rw [someV_of]
    by_cases hne : a = []
    · subst hne
      have := some0_law b h h4.1 h4.2
      refine .inl ?_
      have e : someL [] b h = [] := rfl
      simp [F_some0, some0_is0, some0_r, this, e]
    · have := some1_law a b h hne h3.1 h3.2 h4.1 h4.2
      refine .inr ?_
      simp [F_some1, some1_is0, some1_r, this]
  · cases hh
end Go.Pv

set_option maxHeartbeats 4000000
set_option maxRecDepth 200000
set_option linter.unusedSimpArgs false
set_option linter.unusedVariables false
namespace Go.Pv
open Go Go.Proofs
noncomputable def G_RUnion : GamT := ofL [(43, .pure F_RSorted)]
theorem gok_RUnion (gl : Nat → Option Obj) : GamOk Tryd.prog gl (gam G_RUnion) := (gamOk_cons (sim_RSorted gl) gamOk_nil)
noncomputable def L_RUnion : LpsT := fun r fr σ => .fail
noncomputable def RUnion_Tr (a : List (List PV)) (b : List (List PV)) : Tr PV := Tr.ite (okGrow [] a 24) (Tr.ite (okNews a 1) (Tr.ite (okSize [] 1) (Tr.ite (xNil a) (Tr.ite (okGrow [] b 24) (Tr.ite (okNews b 1) (Tr.ite (okSize [] 1) (Tr.ite (xNil b) (Tr.ite (RSorted_is0 []) (Tr.ret (PV.sl (shutLL (RSorted_r [])) .non)) Tr.fail) (Tr.ite (RSorted_is0 (lockLL (xApp [] b))) (Tr.ret (PV.sl (shutLL (RSorted_r (lockLL (xApp [] b)))) .non)) Tr.fail)) Tr.fail) Tr.fail) Tr.fail) (Tr.ite (okGrow (xApp [] a) b 24) (Tr.ite (okNews b 1) (Tr.ite (okSize (xApp [] a) 1) (Tr.ite (xNil b) (Tr.ite (RSorted_is0 (lockLL (xApp [] a))) (Tr.ret (PV.sl (shutLL (RSorted_r (lockLL (xApp [] a)))) .non)) Tr.fail) (Tr.ite (nEq (nXs (xApp [] a)) (nXs (xApp [] a))) (Tr.ite (RSorted_is0 (lockLL (xApp (xApp [] a) b))) (Tr.ret (PV.sl (shutLL (RSorted_r (lockLL (xApp (xApp [] a) b)))) .non)) Tr.fail) Tr.fail)) Tr.fail) Tr.fail) Tr.fail)) Tr.fail) Tr.fail) Tr.fail
theorem RUnion_T (a : List (List PV)) (b : List (List PV)) : (tcall tbT G_RUnion L_RUnion Tryd.f46 [.sl a .non, .sl b .non]).flat = RUnion_Tr a b := by kernel_rfl
noncomputable def RUnion_W (a : List (List PV)) (b : List (List PV)) : Option PV := (RUnion_Tr a b).run
noncomputable def RUnion_r (a : List (List PV)) (b : List (List PV)) : List (List PV) := (gRow (gVal (RUnion_W a b)))
noncomputable def RUnion_is0 (a : List (List PV)) (b : List (List PV)) : Bool := isW (RUnion_W a b) (.sl (RUnion_r a b) .non)
noncomputable def F_RUnion : List PV → Tr PV | [.sl a .non, .sl b .non] => .ite (RUnion_is0 a b) (.ret (.sl (RUnion_r a b) .non)) (.fail) | _ => .fail
theorem sim_RUnion (gl : Nat → Option Obj) : SimP Tryd.prog gl 46 fun args => (F_RUnion args).run := by
  refine SimP.of_flat (G := G_RUnion) (L := L_RUnion) tbT_ok (gok_RUnion gl ) noMixed Tryd.func46 rfl (by rfl) (by kernel_rfl) (loopOk_none (by kernel_rfl)) ?_
  intro args x h
  unfold F_RUnion at h
  split at h
  · exact (congrArg Tr.run (RUnion_T _ _)).trans (ite_isW h fun h => by cases h)
  · cases h
noncomputable def G_RHas : GamT := ofL [(41, .pure F_RPlace)]
theorem gok_RHas (gl : Nat → Option Obj) : GamOk Tryd.prog gl (gam G_RHas) := (gamOk_cons (sim_RPlace gl) gamOk_nil)
noncomputable def L_RHas : LpsT := fun r fr σ => .fail
noncomputable def RHas_Tr (l : List (List PV)) (t : List (List PV)) : Tr PV := Tr.ite (RPlace_is0 (lockLL l) (lockLL t)) (Tr.ret (PV.bool (RPlace_b (lockLL l) (lockLL t)))) Tr.fail
theorem RHas_T (l : List (List PV)) (t : List (List PV)) : (tcall tbT G_RHas L_RHas Tryd.f91 [.sl l .non, .sl t .non]).flat = RHas_Tr l t := by kernel_rfl
noncomputable def RHas_W (l : List (List PV)) (t : List (List PV)) : Option PV := (RHas_Tr l t).run
noncomputable def RHas_b (l : List (List PV)) (t : List (List PV)) : Bool := (gBool (gVal (RHas_W l t)))
noncomputable def RHas_is0 (l : List (List PV)) (t : List (List PV)) : Bool := isW (RHas_W l t) (.bool (RHas_b l t))
noncomputable def F_RHas : List PV → Tr PV | [.sl l .non, .sl t .non] => .ite (RHas_is0 l t) (.ret (.bool (RHas_b l t))) (.fail) | _ => .fail
theorem sim_RHas (gl : Nat → Option Obj) : SimP Tryd.prog gl 91 fun args => (F_RHas args).run := by
  refine SimP.of_flat (G := G_RHas) (L := L_RHas) tbT_ok (gok_RHas gl ) noMixed Tryd.func91 rfl (by rfl) (by kernel_rfl) (loopOk_none (by kernel_rfl)) ?_
  intro args x h
  unfold F_RHas at h
  split at h
  · exact (congrArg Tr.run (RHas_T _ _)).trans (ite_isW h fun h => by cases h)
  · cases h
noncomputable def G_Rsome : GamT := ofL [(68, .pure F_put), (91, .pure F_RHas)]
theorem gok_Rsome (gl : Nat → Option Obj) : GamOk Tryd.prog gl (gam G_Rsome) := (gamOk_cons (sim_put gl) (gamOk_cons (sim_RHas gl) gamOk_nil))
noncomputable def c_Rsome1 : Code := loopC Tryd.f71 3
def I_Rsome1 : LI := ⟨30, [0, 1, 2, 7, 8], fun e => match e with | .exit 0 => [7] | _ => [], true⟩
noncomputable def LI_Rsome1 : LpsT := fun r fr σ => .fail
noncomputable def Rsome1_V (vs : List PV) (σ : Store) : Option (PExit × List PV × Store) := lval (lstep tbT G_Rsome LI_Rsome1 c_Rsome1 I_Rsome1) vs σ
noncomputable def Rsome1_Tr (a : List (List PV)) (b : List (List PV)) (in_ : Bool) (out : List (List PV)) (i : Int) : Tr LR := Tr.ite (iLt i (xLen a)) (Tr.ite (okPos i) (Tr.ite (okGet [PV.sl [] .full] a (nNat i)) (Tr.ite (RHas_is0 (lockLL b) (lockLL (xRow a (nNat i) 0))) (Tr.ite (bEq (RHas_b (lockLL b) (lockLL (xRow a (nNat i) 0))) in_) (Tr.ite (okPos i) (Tr.ite (okGet [PV.sl [] .full] a (nNat i)) (Tr.ite (put_is0 (lockLL out) (lockLL (xRow a (nNat i) 0))) (Tr.ret (LR.next [PV.sl a .non, PV.sl b .non, PV.bool in_, PV.sl (put_r (lockLL out) (lockLL (xRow a (nNat i) 0))) .non, PV.int .i64 (iAdd .i64 i 1)] (Store.mk [] [] []))) Tr.fail) Tr.fail) Tr.fail) (Tr.ret (LR.next [PV.sl a .non, PV.sl b .non, PV.bool in_, PV.sl out .full, PV.int .i64 (iAdd .i64 i 1)] (Store.mk [] [] [])))) Tr.fail) Tr.fail) Tr.fail) (Tr.ret (LR.out (.exit 0) [PV.sl out .full] (Store.mk [] [] [])))
theorem Rsome1_T (a : List (List PV)) (b : List (List PV)) (in_ : Bool) (out : List (List PV)) (i : Int) : lstep tbT G_Rsome LI_Rsome1 c_Rsome1 I_Rsome1 [.sl a .non, .sl b .non, .bool in_, .sl out .full, .int .i64 i] ⟨[], [], []⟩ = Rsome1_Tr a b in_ out i := by kernel_rfl
theorem Rsome1_E (a : List (List PV)) (b : List (List PV)) (in_ : Bool) (out : List (List PV)) (i : Int) : Rsome1_V [.sl a .non, .sl b .non, .bool in_, .sl out .full, .int .i64 i] ⟨[], [], []⟩ = lnext Rsome1_V (Rsome1_Tr a b in_ out i).run := by unfold Rsome1_V; rw [lval_eq, Rsome1_T]
noncomputable def Rsome1_Tr1 (a : List (List PV)) (b : List (List PV)) (in_ : Bool) (out : List (List PV)) (i : Int) : Tr LR := Tr.ite (iLt i (xLen a)) (Tr.ite (okPos i) (Tr.ite (okGet [PV.sl [] .full] a (nNat i)) (Tr.ite (RHas_is0 (lockLL b) (lockLL (xRow a (nNat i) 0))) (Tr.ite (bEq (RHas_b (lockLL b) (lockLL (xRow a (nNat i) 0))) in_) (Tr.ite (okPos i) (Tr.ite (okGet [PV.sl [] .full] a (nNat i)) (Tr.ite (put_is0 (lockLL out) (lockLL (xRow a (nNat i) 0))) (Tr.ret (LR.next [PV.sl a .non, PV.sl b .non, PV.bool in_, PV.sl (put_r (lockLL out) (lockLL (xRow a (nNat i) 0))) .non, PV.int .i64 (iAdd .i64 i 1)] (Store.mk [] [] []))) Tr.fail) Tr.fail) Tr.fail) (Tr.ret (LR.next [PV.sl a .non, PV.sl b .non, PV.bool in_, PV.sl out .non, PV.int .i64 (iAdd .i64 i 1)] (Store.mk [] [] [])))) Tr.fail) Tr.fail) Tr.fail) (Tr.ret (LR.out (.exit 0) [PV.sl out .non] (Store.mk [] [] [])))
theorem Rsome1_T1 (a : List (List PV)) (b : List (List PV)) (in_ : Bool) (out : List (List PV)) (i : Int) : lstep tbT G_Rsome LI_Rsome1 c_Rsome1 I_Rsome1 [.sl a .non, .sl b .non, .bool in_, .sl out .non, .int .i64 i] ⟨[], [], []⟩ = Rsome1_Tr1 a b in_ out i := by kernel_rfl
theorem Rsome1_E1 (a : List (List PV)) (b : List (List PV)) (in_ : Bool) (out : List (List PV)) (i : Int) : Rsome1_V [.sl a .non, .sl b .non, .bool in_, .sl out .non, .int .i64 i] ⟨[], [], []⟩ = lnext Rsome1_V (Rsome1_Tr1 a b in_ out i).run := by unfold Rsome1_V; rw [lval_eq, Rsome1_T1]
noncomputable def Rsome1_W (a : List (List PV)) (b : List (List PV)) (in_ : Bool) (out : List (List PV)) (i : Int) : Option (PExit × List PV × Store) := Rsome1_V [.sl a .non, .sl b .non, .bool in_, .sl out .full, .int .i64 i] ⟨[], [], []⟩
noncomputable def Rsome1_out_0 (a : List (List PV)) (b : List (List PV)) (in_ : Bool) (out : List (List PV)) (i : Int) : List (List PV) := (gRow (gOut (Rsome1_W a b in_ out i) 0))
noncomputable def Rsome1_is0 (a : List (List PV)) (b : List (List PV)) (in_ : Bool) (out : List (List PV)) (i : Int) : Bool := isW (Rsome1_W a b in_ out i) ((.exit 0), [.sl (Rsome1_out_0 a b in_ out i) .full], ⟨[], [], []⟩)
noncomputable def Rsome1_out_1 (a : List (List PV)) (b : List (List PV)) (in_ : Bool) (out : List (List PV)) (i : Int) : List (List PV) := (gRow (gOut (Rsome1_W a b in_ out i) 0))
noncomputable def Rsome1_is1 (a : List (List PV)) (b : List (List PV)) (in_ : Bool) (out : List (List PV)) (i : Int) : Bool := isW (Rsome1_W a b in_ out i) ((.exit 0), [.sl (Rsome1_out_1 a b in_ out i) .non], ⟨[], [], []⟩)
noncomputable def Rsome1_prop : List PV → Store → Tr (PExit × List PV × Store) | [.sl a .non, .sl b .non, .bool in_, .sl out .full, .int .i64 i], ⟨[], [], []⟩ => .ite (Rsome1_is0 a b in_ out i) (.ret ((.exit 0), [.sl (Rsome1_out_0 a b in_ out i) .full], ⟨[], [], []⟩)) (.ite (Rsome1_is1 a b in_ out i) (.ret ((.exit 0), [.sl (Rsome1_out_1 a b in_ out i) .non], ⟨[], [], []⟩)) (.fail)) | _, _ => .fail
theorem Rsome1_ok : ∀ vs σ r, (Rsome1_prop vs σ).run = some r → Rsome1_V vs σ = some r := by
  intro vs σ r h
  unfold Rsome1_prop at h
  split at h
  · exact ite_isW h fun h => ite_isW h fun h => by cases h
  · cases h
theorem loop_Rsome1 (gl : Nat → Option Obj) : ∀ fr σ e fr' σ', (orc I_Rsome1 Rsome1_prop fr σ).run = some (e, fr', σ') → LDoes Tryd.prog gl c_Rsome1 fr σ e fr' σ' := orc_ok tbT_ok (gok_Rsome gl ) noMixed (L := LI_Rsome1) (loopOk_none (by kernel_rfl)) (by kernel_rfl) Rsome1_ok
noncomputable def L_Rsome : LpsT := fun r fr σ => bif Nat.beq r 3 then orc I_Rsome1 Rsome1_prop fr σ else .fail
noncomputable def Rsome_Tr (a : List (List PV)) (b : List (List PV)) (in_ : Bool) : Tr PV := Tr.ite (Rsome1_is0 a b in_ [] 0) (Tr.ret (PV.sl (shutLL (Rsome1_out_0 a b in_ [] 0)) .non)) (Tr.ite (Rsome1_is1 a b in_ [] 0) (Tr.ret (PV.sl (shutLL (Rsome1_out_1 a b in_ [] 0)) .non)) Tr.fail)
theorem Rsome_T (a : List (List PV)) (b : List (List PV)) (in_ : Bool) : (tcall tbT G_Rsome L_Rsome Tryd.f71 [.sl a .non, .sl b .non, .bool in_]).flat = Rsome_Tr a b in_ := by kernel_rfl
noncomputable def Rsome_W (a : List (List PV)) (b : List (List PV)) (in_ : Bool) : Option PV := (Rsome_Tr a b in_).run
noncomputable def Rsome_r (a : List (List PV)) (b : List (List PV)) (in_ : Bool) : List (List PV) := (gRow (gVal (Rsome_W a b in_)))
noncomputable def Rsome_is0 (a : List (List PV)) (b : List (List PV)) (in_ : Bool) : Bool := isW (Rsome_W a b in_) (.sl (Rsome_r a b in_) .non)
noncomputable def F_Rsome : List PV → Tr PV | [.sl a .non, .sl b .non, .bool in_] => .ite (Rsome_is0 a b in_) (.ret (.sl (Rsome_r a b in_) .non)) (.fail) | _ => .fail
theorem sim_Rsome (gl : Nat → Option Obj) : SimP Tryd.prog gl 71 fun args => (F_Rsome args).run := by
  refine SimP.of_flat (G := G_Rsome) (L := L_Rsome) tbT_ok (gok_Rsome gl ) noMixed Tryd.func71 rfl (by rfl) (by kernel_rfl) (loopOk_all (L := lps L_Rsome) [(3, c_Rsome1)] (by kernel_rfl) (List.forall_mem_cons.2 ⟨fun fr σ e fr' σ' h => loop_Rsome1 gl  fr σ e fr' σ' h, (List.forall_mem_nil _)⟩)) ?_
  intro args x h
  unfold F_Rsome at h
  split at h
  · exact (congrArg Tr.run (Rsome_T _ _ _)).trans (ite_isW h fun h => by cases h)
  · cases h
noncomputable def G_Minus : GamT := ofL [(70, .pure F_some)]
theorem gok_Minus (gl : Nat → Option Obj) : GamOk Tryd.prog gl (gam G_Minus) := (gamOk_cons (sim_some gl) gamOk_nil)
noncomputable def L_Minus : LpsT := fun r fr σ => .fail
noncomputable def Minus_Tr (a : List (List PV)) (b : List (List PV)) : Tr PV := Tr.ite (okR (cR cV) (lockLL a)) (Tr.ite (okR (cR cV) (lockLL b)) (Tr.ite (okLens (lockLL a)) (Tr.ite (okLens (lockLL b)) (Tr.ret (PV.sl (shutLL (someV (lockLL a) (lockLL b) false)) .non)) Tr.fail) Tr.fail) Tr.fail) Tr.fail
theorem Minus_T (a : List (List PV)) (b : List (List PV)) : (tcall tbT G_Minus L_Minus Tryd.f47 [.sl a .non, .sl b .non]).flat = Minus_Tr a b := by kernel_rfl
noncomputable def Minus_W (a : List (List PV)) (b : List (List PV)) : Option PV := (Minus_Tr a b).run
noncomputable def Minus_r (a : List (List PV)) (b : List (List PV)) : List (List PV) := (gRow (gVal (Minus_W a b)))
noncomputable def Minus_is0 (a : List (List PV)) (b : List (List PV)) : Bool := isW (Minus_W a b) (.sl (Minus_r a b) .non)
noncomputable def F_Minus : List PV → Tr PV | [.sl a .non, .sl b .non] => .ite (Minus_is0 a b) (.ret (.sl (Minus_r a b) .non)) (.fail) | _ => .fail
theorem sim_Minus (gl : Nat → Option Obj) : SimP Tryd.prog gl 47 fun args => (F_Minus args).run := by
  refine SimP.of_flat (G := G_Minus) (L := L_Minus) tbT_ok (gok_Minus gl ) noMixed Tryd.func47 rfl (by rfl) (by kernel_rfl) (loopOk_none (by kernel_rfl)) ?_
  intro args x h
  unfold F_Minus at h
  split at h
  · exact (congrArg Tr.run (Minus_T _ _)).trans (ite_isW h fun h => by cases h)
  · cases h
noncomputable def G_RMinus : GamT := ofL [(71, .pure F_Rsome)]
theorem gok_RMinus (gl : Nat → Option Obj) : GamOk Tryd.prog gl (gam G_RMinus) := (gamOk_cons (sim_Rsome gl) gamOk_nil)
noncomputable def L_RMinus : LpsT := fun r fr σ => .fail
noncomputable def RMinus_Tr (a : List (List PV)) (b : List (List PV)) : Tr PV := Tr.ite (Rsome_is0 (lockLL a) (lockLL b) false) (Tr.ret (PV.sl (shutLL (Rsome_r (lockLL a) (lockLL b) false)) .non)) Tr.fail
theorem RMinus_T (a : List (List PV)) (b : List (List PV)) : (tcall tbT G_RMinus L_RMinus Tryd.f48 [.sl a .non, .sl b .non]).flat = RMinus_Tr a b := by kernel_rfl
noncomputable def RMinus_W (a : List (List PV)) (b : List (List PV)) : Option PV := (RMinus_Tr a b).run
noncomputable def RMinus_r (a : List (List PV)) (b : List (List PV)) : List (List PV) := (gRow (gVal (RMinus_W a b)))
noncomputable def RMinus_is0 (a : List (List PV)) (b : List (List PV)) : Bool := isW (RMinus_W a b) (.sl (RMinus_r a b) .non)
noncomputable def F_RMinus : List PV → Tr PV | [.sl a .non, .sl b .non] => .ite (RMinus_is0 a b) (.ret (.sl (RMinus_r a b) .non)) (.fail) | _ => .fail
theorem sim_RMinus (gl : Nat → Option Obj) : SimP Tryd.prog gl 48 fun args => (F_RMinus args).run := by
  refine SimP.of_flat (G := G_RMinus) (L := L_RMinus) tbT_ok (gok_RMinus gl ) noMixed Tryd.func48 rfl (by rfl) (by kernel_rfl) (loopOk_none (by kernel_rfl)) ?_
  intro args x h
  unfold F_RMinus at h
  split at h
  · exact (congrArg Tr.run (RMinus_T _ _)).trans (ite_isW h fun h => by cases h)
  · cases h
noncomputable def G_Both : GamT := ofL [(70, .pure F_some)]
theorem gok_Both (gl : Nat → Option Obj) : GamOk Tryd.prog gl (gam G_Both) := (gamOk_cons (sim_some gl) gamOk_nil)
noncomputable def L_Both : LpsT := fun r fr σ => .fail
noncomputable def Both_Tr (a : List (List PV)) (b : List (List PV)) : Tr PV := Tr.ite (okR (cR cV) (lockLL a)) (Tr.ite (okR (cR cV) (lockLL b)) (Tr.ite (okLens (lockLL a)) (Tr.ite (okLens (lockLL b)) (Tr.ret (PV.sl (shutLL (someV (lockLL a) (lockLL b) true)) .non)) Tr.fail) Tr.fail) Tr.fail) Tr.fail
theorem Both_T (a : List (List PV)) (b : List (List PV)) : (tcall tbT G_Both L_Both Tryd.f49 [.sl a .non, .sl b .non]).flat = Both_Tr a b := by kernel_rfl
noncomputable def Both_W (a : List (List PV)) (b : List (List PV)) : Option PV := (Both_Tr a b).run
noncomputable def Both_r (a : List (List PV)) (b : List (List PV)) : List (List PV) := (gRow (gVal (Both_W a b)))
noncomputable def Both_is0 (a : List (List PV)) (b : List (List PV)) : Bool := isW (Both_W a b) (.sl (Both_r a b) .non)
noncomputable def F_Both : List PV → Tr PV | [.sl a .non, .sl b .non] => .ite (Both_is0 a b) (.ret (.sl (Both_r a b) .non)) (.fail) | _ => .fail
theorem sim_Both (gl : Nat → Option Obj) : SimP Tryd.prog gl 49 fun args => (F_Both args).run := by
  refine SimP.of_flat (G := G_Both) (L := L_Both) tbT_ok (gok_Both gl ) noMixed Tryd.func49 rfl (by rfl) (by kernel_rfl) (loopOk_none (by kernel_rfl)) ?_
  intro args x h
  unfold F_Both at h
  split at h
  · exact (congrArg Tr.run (Both_T _ _)).trans (ite_isW h fun h => by cases h)
  · cases h
noncomputable def G_RBoth : GamT := ofL [(71, .pure F_Rsome)]
theorem gok_RBoth (gl : Nat → Option Obj) : GamOk Tryd.prog gl (gam G_RBoth) := (gamOk_cons (sim_Rsome gl) gamOk_nil)
noncomputable def L_RBoth : LpsT := fun r fr σ => .fail
noncomputable def RBoth_Tr (a : List (List PV)) (b : List (List PV)) : Tr PV := Tr.ite (Rsome_is0 (lockLL a) (lockLL b) true) (Tr.ret (PV.sl (shutLL (Rsome_r (lockLL a) (lockLL b) true)) .non)) Tr.fail
theorem RBoth_T (a : List (List PV)) (b : List (List PV)) : (tcall tbT G_RBoth L_RBoth Tryd.f50 [.sl a .non, .sl b .non]).flat = RBoth_Tr a b := by kernel_rfl
noncomputable def RBoth_W (a : List (List PV)) (b : List (List PV)) : Option PV := (RBoth_Tr a b).run
noncomputable def RBoth_r (a : List (List PV)) (b : List (List PV)) : List (List PV) := (gRow (gVal (RBoth_W a b)))
noncomputable def RBoth_is0 (a : List (List PV)) (b : List (List PV)) : Bool := isW (RBoth_W a b) (.sl (RBoth_r a b) .non)
noncomputable def F_RBoth : List PV → Tr PV | [.sl a .non, .sl b .non] => .ite (RBoth_is0 a b) (.ret (.sl (RBoth_r a b) .non)) (.fail) | _ => .fail
theorem sim_RBoth (gl : Nat → Option Obj) : SimP Tryd.prog gl 50 fun args => (F_RBoth args).run := by
  refine SimP.of_flat (G := G_RBoth) (L := L_RBoth) tbT_ok (gok_RBoth gl ) noMixed Tryd.func50 rfl (by rfl) (by kernel_rfl) (loopOk_none (by kernel_rfl)) ?_
  intro args x h
  unfold F_RBoth at h
  split at h
  · exact (congrArg Tr.run (RBoth_T _ _)).trans (ite_isW h fun h => by cases h)
  · cases h
noncomputable def G_Apply : GamT := ofL [(45, .pure F_Union), (47, .pure F_Minus)]
theorem gok_Apply (gl : Nat → Option Obj) : GamOk Tryd.prog gl (gam G_Apply) := (gamOk_cons (sim_Union gl) (gamOk_cons (sim_Minus gl) gamOk_nil))
noncomputable def L_Apply : LpsT := fun r fr σ => .fail
noncomputable def Apply_Tr (l : List (List PV)) (plus : List (List PV)) (minus : List (List PV)) : Tr PV := Tr.ite (Minus_is0 (lockLL l) (lockLL minus)) (Tr.ite (Union_is0 (lockLL plus) (lockLL (Minus_r (lockLL l) (lockLL minus)))) (Tr.ret (PV.sl (shutLL (Union_r (lockLL plus) (lockLL (Minus_r (lockLL l) (lockLL minus))))) .non)) Tr.fail) Tr.fail
theorem Apply_T (l : List (List PV)) (plus : List (List PV)) (minus : List (List PV)) : (tcall tbT G_Apply L_Apply Tryd.f51 [.sl l .non, .sl plus .non, .sl minus .non]).flat = Apply_Tr l plus minus := by kernel_rfl
noncomputable def Apply_W (l : List (List PV)) (plus : List (List PV)) (minus : List (List PV)) : Option PV := (Apply_Tr l plus minus).run
noncomputable def Apply_r (l : List (List PV)) (plus : List (List PV)) (minus : List (List PV)) : List (List PV) := (gRow (gVal (Apply_W l plus minus)))
noncomputable def Apply_is0 (l : List (List PV)) (plus : List (List PV)) (minus : List (List PV)) : Bool := isW (Apply_W l plus minus) (.sl (Apply_r l plus minus) .non)
noncomputable def F_Apply : List PV → Tr PV | [.sl l .non, .sl plus .non, .sl minus .non] => .ite (Apply_is0 l plus minus) (.ret (.sl (Apply_r l plus minus) .non)) (.fail) | _ => .fail
theorem sim_Apply (gl : Nat → Option Obj) : SimP Tryd.prog gl 51 fun args => (F_Apply args).run := by
  refine SimP.of_flat (G := G_Apply) (L := L_Apply) tbT_ok (gok_Apply gl ) noMixed Tryd.func51 rfl (by rfl) (by kernel_rfl) (loopOk_none (by kernel_rfl)) ?_
  intro args x h
  unfold F_Apply at h
  split at h
  · exact (congrArg Tr.run (Apply_T _ _ _)).trans (ite_isW h fun h => by cases h)
  · cases h
noncomputable def G_RApply : GamT := ofL [(46, .pure F_RUnion), (48, .pure F_RMinus)]
theorem gok_RApply (gl : Nat → Option Obj) : GamOk Tryd.prog gl (gam G_RApply) := (gamOk_cons (sim_RUnion gl) (gamOk_cons (sim_RMinus gl) gamOk_nil))
noncomputable def L_RApply : LpsT := fun r fr σ => .fail
noncomputable def RApply_Tr (l : List (List PV)) (plus : List (List PV)) (minus : List (List PV)) : Tr PV := Tr.ite (RMinus_is0 (lockLL l) (lockLL minus)) (Tr.ite (RUnion_is0 (lockLL plus) (lockLL (RMinus_r (lockLL l) (lockLL minus)))) (Tr.ret (PV.sl (shutLL (RUnion_r (lockLL plus) (lockLL (RMinus_r (lockLL l) (lockLL minus))))) .non)) Tr.fail) Tr.fail
theorem RApply_T (l : List (List PV)) (plus : List (List PV)) (minus : List (List PV)) : (tcall tbT G_RApply L_RApply Tryd.f52 [.sl l .non, .sl plus .non, .sl minus .non]).flat = RApply_Tr l plus minus := by kernel_rfl
noncomputable def RApply_W (l : List (List PV)) (plus : List (List PV)) (minus : List (List PV)) : Option PV := (RApply_Tr l plus minus).run
noncomputable def RApply_r (l : List (List PV)) (plus : List (List PV)) (minus : List (List PV)) : List (List PV) := (gRow (gVal (RApply_W l plus minus)))
noncomputable def RApply_is0 (l : List (List PV)) (plus : List (List PV)) (minus : List (List PV)) : Bool := isW (RApply_W l plus minus) (.sl (RApply_r l plus minus) .non)
noncomputable def F_RApply : List PV → Tr PV | [.sl l .non, .sl plus .non, .sl minus .non] => .ite (RApply_is0 l plus minus) (.ret (.sl (RApply_r l plus minus) .non)) (.fail) | _ => .fail
theorem sim_RApply (gl : Nat → Option Obj) : SimP Tryd.prog gl 52 fun args => (F_RApply args).run := by
  refine SimP.of_flat (G := G_RApply) (L := L_RApply) tbT_ok (gok_RApply gl ) noMixed Tryd.func52 rfl (by rfl) (by kernel_rfl) (loopOk_none (by kernel_rfl)) ?_
  intro args x h
  unfold F_RApply at h
  split at h
  · exact (congrArg Tr.run (RApply_T _ _ _)).trans (ite_isW h fun h => by cases h)
  · cases h
noncomputable def G_Diff : GamT := ofL [(47, .pure F_Minus)]
theorem gok_Diff (gl : Nat → Option Obj) : GamOk Tryd.prog gl (gam G_Diff) := (gamOk_cons (sim_Minus gl) gamOk_nil)
noncomputable def L_Diff : LpsT := fun r fr σ => .fail
noncomputable def Diff_Tr (old : List (List PV)) (now : List (List PV)) : Tr PV := Tr.ite (Minus_is0 (lockLL now) (lockLL old)) (Tr.ite (Minus_is0 (lockLL old) (lockLL now)) (Tr.ret (PV.tup [PV.sl (shutLL (Minus_r (lockLL now) (lockLL old))) .non, PV.sl (shutLL (Minus_r (lockLL old) (lockLL now))) .non])) Tr.fail) Tr.fail
theorem Diff_T (old : List (List PV)) (now : List (List PV)) : (tcall tbT G_Diff L_Diff Tryd.f44 [.sl old .non, .sl now .non]).flat = Diff_Tr old now := by kernel_rfl
noncomputable def Diff_W (old : List (List PV)) (now : List (List PV)) : Option PV := (Diff_Tr old now).run
noncomputable def Diff_r (old : List (List PV)) (now : List (List PV)) : List (List PV) := (gRow (gAt (gCs (gVal (Diff_W old now))) 0))
noncomputable def Diff_r2 (old : List (List PV)) (now : List (List PV)) : List (List PV) := (gRow (gAt (gCs (gVal (Diff_W old now))) 1))
noncomputable def Diff_is0 (old : List (List PV)) (now : List (List PV)) : Bool := isW (Diff_W old now) (.tup [.sl (Diff_r old now) .non, .sl (Diff_r2 old now) .non])
noncomputable def F_Diff : List PV → Tr PV | [.sl old .non, .sl now .non] => .ite (Diff_is0 old now) (.ret (.tup [.sl (Diff_r old now) .non, .sl (Diff_r2 old now) .non])) (.fail) | _ => .fail
theorem sim_Diff (gl : Nat → Option Obj) : SimP Tryd.prog gl 44 fun args => (F_Diff args).run := by
  refine SimP.of_flat (G := G_Diff) (L := L_Diff) tbT_ok (gok_Diff gl ) noMixed Tryd.func44 rfl (by rfl) (by kernel_rfl) (loopOk_none (by kernel_rfl)) ?_
  intro args x h
  unfold F_Diff at h
  split at h
  · exact (congrArg Tr.run (Diff_T _ _)).trans (ite_isW h fun h => by cases h)
  · cases h
noncomputable def G_TSets : GamT := ofL [(14, .pure F_awk), (24, .pure F_few), (31, .pure F_SameRel), (44, .pure F_Diff), (45, .pure F_Union), (46, .pure F_RUnion), (47, .pure F_Minus), (48, .pure F_RMinus), (49, .pure F_Both), (50, .pure F_RBoth), (51, .pure F_Apply), (52, .pure F_RApply)]
theorem gok_TSets (gl : Nat → Option Obj) (hg : GlPow gl) : GamOk Tryd.prog gl (gam G_TSets) := (gamOk_cons (sim_awk gl hg) (gamOk_cons (sim_few gl) (gamOk_cons (sim_SameRel gl) (gamOk_cons (sim_Diff gl) (gamOk_cons (sim_Union gl) (gamOk_cons (sim_RUnion gl) (gamOk_cons (sim_Minus gl) (gamOk_cons (sim_RMinus gl) (gamOk_cons (sim_Both gl) (gamOk_cons (sim_RBoth gl) (gamOk_cons (sim_Apply gl) (gamOk_cons (sim_RApply gl) gamOk_nil))))))))))))
noncomputable def L_TSets : LpsT := fun r fr σ => .fail
noncomputable def TSets_Tr (v : List (List PV)) (v2 : List (List PV)) (v3 : List (List PV)) : Tr PV := Tr.ite (few_is0 (lockLL v)) (Tr.ite (few_is0 (lockLL v2)) (Tr.ite (few_is0 (lockLL v3)) (Tr.ite (Diff_is0 (lockLL (few_r (lockLL v))) (lockLL (few_r (lockLL v2)))) (Tr.ite (Union_is0 (lockLL (few_r (lockLL v))) (lockLL (few_r (lockLL v2)))) (Tr.ite (RUnion_is0 (lockLL (few_r (lockLL v))) (lockLL (few_r (lockLL v2)))) (Tr.ite (SameRel_is0 (lockLL (Union_r (lockLL (few_r (lockLL v))) (lockLL (few_r (lockLL v2))))) (lockLL (RUnion_r (lockLL (few_r (lockLL v))) (lockLL (few_r (lockLL v2)))))) (Tr.ite (SameRel_b (lockLL (Union_r (lockLL (few_r (lockLL v))) (lockLL (few_r (lockLL v2))))) (lockLL (RUnion_r (lockLL (few_r (lockLL v))) (lockLL (few_r (lockLL v2)))))) (Tr.ite (Minus_is0 (lockLL (few_r (lockLL v))) (lockLL (few_r (lockLL v2)))) (Tr.ite (RMinus_is0 (lockLL (few_r (lockLL v))) (lockLL (few_r (lockLL v2)))) (Tr.ite (SameRel_is0 (lockLL (Minus_r (lockLL (few_r (lockLL v))) (lockLL (few_r (lockLL v2))))) (lockLL (RMinus_r (lockLL (few_r (lockLL v))) (lockLL (few_r (lockLL v2)))))) (Tr.ite (SameRel_b (lockLL (Minus_r (lockLL (few_r (lockLL v))) (lockLL (few_r (lockLL v2))))) (lockLL (RMinus_r (lockLL (few_r (lockLL v))) (lockLL (few_r (lockLL v2)))))) (Tr.ite (Both_is0 (lockLL (few_r (lockLL v))) (lockLL (few_r (lockLL v2)))) (Tr.ite (RBoth_is0 (lockLL (few_r (lockLL v))) (lockLL (few_r (lockLL v2)))) (Tr.ite (SameRel_is0 (lockLL (Both_r (lockLL (few_r (lockLL v))) (lockLL (few_r (lockLL v2))))) (lockLL (RBoth_r (lockLL (few_r (lockLL v))) (lockLL (few_r (lockLL v2)))))) (Tr.ite (SameRel_b (lockLL (Both_r (lockLL (few_r (lockLL v))) (lockLL (few_r (lockLL v2))))) (lockLL (RBoth_r (lockLL (few_r (lockLL v))) (lockLL (few_r (lockLL v2)))))) (Tr.ite (Apply_is0 (lockLL (few_r (lockLL v))) (lockLL (few_r (lockLL v2))) (lockLL (few_r (lockLL v3)))) (Tr.ite (RApply_is0 (lockLL (few_r (lockLL v))) (lockLL (few_r (lockLL v2))) (lockLL (few_r (lockLL v3)))) (Tr.ite
 (SameRel_is0 (lockLL (Apply_r (lockLL (few_r (lockLL v))) (lockLL (few_r (lockLL v2))) (lockLL (few_r (lockLL v3))))) (lockLL (RApply_r (lockLL (few_r (lockLL v))) (lockLL (few_r (lockLL v2))) (lockLL (few_r (lockLL v3)))))) (Tr.ite (SameRel_b (lockLL (Apply_r (lockLL (few_r (lockLL v))) (lockLL (few_r (lockLL v2))) (lockLL (few_r (lockLL v3))))) (lockLL (RApply_r (lockLL (few_r (lockLL v))) (lockLL (few_r (lockLL v2))) (lockLL (few_r (lockLL v3)))))) (Tr.ite (RMinus_is0 (lockLL (few_r (lockLL v2))) (lockLL (few_r (lockLL v)))) (Tr.ite (SameRel_is0 (lockLL (Diff_r (lockLL (few_r (lockLL v))) (lockLL (few_r (lockLL v2))))) (lockLL (RMinus_r (lockLL (few_r (lockLL v2))) (lockLL (few_r (lockLL v)))))) (Tr.ite (SameRel_b (lockLL (Diff_r (lockLL (few_r (lockLL v))) (lockLL (few_r (lockLL v2))))) (lockLL (RMinus_r (lockLL (few_r (lockLL v2))) (lockLL (few_r (lockLL v)))))) (Tr.ite (RMinus_is0 (lockLL (few_r (lockLL v))) (lockLL (few_r (lockLL v2)))) (Tr.ite (SameRel_is0 (lockLL (Diff_r2 (lockLL (few_r (lockLL v))) (lockLL (few_r (lockLL v2))))) (lockLL (RMinus_r (lockLL (few_r (lockLL v))) (lockLL (few_r (lockLL v2)))))) (Tr.ite (SameRel_b (lockLL (Diff_r2 (lockLL (few_r (lockLL v))) (lockLL (few_r (lockLL v2))))) (lockLL (RMinus_r (lockLL (few_r (lockLL v))) (lockLL (few_r (lockLL v2)))))) (Tr.ret (PV.bool true)) (Tr.ret (PV.bool false))) Tr.fail) Tr.fail) (Tr.ret (PV.bool false))) Tr.fail) Tr.fail) (Tr.ret (PV.bool false))) Tr.fail) Tr.fail) Tr.fail) (Tr.ret (PV.bool false))) Tr.fail) Tr.fail) Tr.fail) (Tr.ret (PV.bool false))) Tr.fail) Tr.fail) Tr.fail) (Tr.ret (PV.bool false))) Tr.fail) Tr.fail) Tr.fail) Tr.fail) Tr.fail) Tr.fail) Tr.fail
theorem TSets_T (v : List (List PV)) (v2 : List (List PV)) (v3 : List (List PV)) : (tcall tbT G_TSets L_TSets Tryd.f11 [.sl v .non, .sl v2 .non, .sl v3 .non]).flat = TSets_Tr v v2 v3 := by kernel_rfl
noncomputable def TSets_W (v : List (List PV)) (v2 : List (List PV)) (v3 : List (List PV)) : Option PV := (TSets_Tr v v2 v3).run
noncomputable def TSets_b (v : List (List PV)) (v2 : List (List PV)) (v3 : List (List PV)) : Bool := (gBool (gVal (TSets_W v v2 v3)))
noncomputable def TSets_is0 (v : List (List PV)) (v2 : List (List PV)) (v3 : List (List PV)) : Bool := isW (TSets_W v v2 v3) (.bool (TSets_b v v2 v3))
noncomputable def F_TSets : List PV → Tr PV | [.sl v .non, .sl v2 .non, .sl v3 .non] => .ite (TSets_is0 v v2 v3) (.ret (.bool (TSets_b v v2 v3))) (.fail) | _ => .fail
theorem sim_TSets (gl : Nat → Option Obj) (hg : GlPow gl) : SimP Tryd.prog gl 11 fun args => (F_TSets args).run := by
  refine SimP.of_flat (G := G_TSets) (L := L_TSets) tbT_ok (gok_TSets gl hg ) noMixed Tryd.func11 rfl (by rfl) (by kernel_rfl) (loopOk_none (by kernel_rfl)) ?_
  intro args x h
  unfold F_TSets at h
  split at h
  · exact (congrArg Tr.run (TSets_T _ _ _)).trans (ite_isW h fun h => by cases h)
  · cases h
noncomputable def G_TChange : GamT := ofL [(14, .pure F_awk), (23, .pure F_TSorted), (24, .pure F_few), (25, .pure F_width), (31, .pure F_SameRel), (35, .pure F_TChkRel), (42, .pure F_RChkRel), (44, .pure F_Diff), (45, .pure F_Union), (49, .pure F_Both), (51, .pure F_Apply)]
theorem gok_TChange (gl : Nat → Option Obj) (hg : GlPow gl) : GamOk Tryd.prog gl (gam G_TChange) := (gamOk_cons (sim_awk gl hg) (gamOk_cons (sim_TSorted gl) (gamOk_cons (sim_few gl) (gamOk_cons (sim_width gl) (gamOk_cons (sim_SameRel gl) (gamOk_cons (sim_TChkRel gl) (gamOk_cons (sim_RChkRel gl) (gamOk_cons (sim_Diff gl) (gamOk_cons (sim_Union gl) (gamOk_cons (sim_Both gl) (gamOk_cons (sim_Apply gl) gamOk_nil)))))))))))
noncomputable def L_TChange : LpsT := fun r fr σ => .fail
noncomputable def TChange_Tr (v : List (List PV)) (v2 : List (List PV)) : Tr PV := Tr.ite false (Tr.ret (PV.bool false)) (Tr.ite (iLt 0 (xLen v)) (Tr.ite (okPos 0) (Tr.ite (okGet [PV.sl [] .full] v (nNat 0)) (Tr.ite (few_is0 (lockLL v)) (Tr.ite (width_is0 (lockLL (few_r (lockLL v))) (xLen (xRow v (nNat 0) 0))) (Tr.ite (TSorted_is0 (lockLL (width_r (lockLL (few_r (lockLL v))) (xLen (xRow v (nNat 0) 0))))) (Tr.ite (few_is0 (lockLL v2)) (Tr.ite (width_is0 (lockLL (few_r (lockLL v2))) (xLen (xRow v (nNat 0) 0))) (Tr.ite (TSorted_is0 (lockLL (width_r (lockLL (few_r (lockLL v2))) (xLen (xRow v (nNat 0) 0))))) (Tr.ite (RChkRel_is0 (lockLL (TSorted_r (lockLL (width_r (lockLL (few_r (lockLL v))) (xLen (xRow v (nNat 0) 0))))))) (Tr.ite (iNe (RChkRel_n (lockLL (TSorted_r (lockLL (width_r (lockLL (few_r (lockLL v))) (xLen (xRow v (nNat 0) 0))))))) 0) (Tr.ret (PV.bool true)) (Tr.ite (RChkRel_is0 (lockLL (TSorted_r (lockLL (width_r (lockLL (few_r (lockLL v2))) (xLen (xRow v (nNat 0) 0))))))) (Tr.ite (iNe (RChkRel_n (lockLL (TSorted_r (lockLL (width_r (lockLL (few_r (lockLL v2))) (xLen (xRow v (nNat 0) 0))))))) 0) (Tr.ret (PV.bool true)) (Tr.ite (Diff_is0 (lockLL (TSorted_r (lockLL (width_r (lockLL (few_r (lockLL v))) (xLen (xRow v (nNat 0) 0)))))) (lockLL (TSorted_r (lockLL (width_r (lockLL (few_r (lockLL v2))) (xLen (xRow v (nNat 0) 0))))))) (Tr.ite (TChkRel_is0 (lockLL (Diff_r (lockLL (TSorted_r (lockLL (width_r (lockLL (few_r (lockLL v))) (xLen (xRow v (nNat 0) 0)))))) (lockLL (TSorted_r (lockLL (width_r (lockLL (few_r (lockLL v2))) (xLen (xRow v (nNat 0) 0))))))))) (Tr.ite (iNe (TChkRel_n (lockLL (Diff_r (lockLL (TSorted_r (lockLL (width_r (lockLL (few_r (lockLL v))) (xLen (xRow v (nNat 0) 0)))))) (lockLL (TSorted_r (lockLL (width_r (lockLL (few_r (lockLL v2))) (xLen (xRow v (nNat 0) 0))))))))) 0) (Tr.ret (PV.bool false)) (Tr.ite (TChkRel_is0 (lockLL (Diff_r2 (lockLL (TSorted_r (lockLL (width_r (lockLL (few_r (lockLL v))) (xLen (xRow v (nNat 0) 0))))))
 (lockLL (TSorted_r (lockLL (width_r (lockLL (few_r (lockLL v2))) (xLen (xRow v (nNat 0) 0))))))))) (Tr.ite (iNe (TChkRel_n (lockLL (Diff_r2 (lockLL (TSorted_r (lockLL (width_r (lockLL (few_r (lockLL v))) (xLen (xRow v (nNat 0) 0)))))) (lockLL (TSorted_r (lockLL (width_r (lockLL (few_r (lockLL v2))) (xLen (xRow v (nNat 0) 0))))))))) 0) (Tr.ret (PV.bool false)) (Tr.ite (Union_is0 (lockLL (TSorted_r (lockLL (width_r (lockLL (few_r (lockLL v))) (xLen (xRow v (nNat 0) 0)))))) (lockLL (TSorted_r (lockLL (width_r (lockLL (few_r (lockLL v2))) (xLen (xRow v (nNat 0) 0))))))) (Tr.ite (TChkRel_is0 (lockLL (Union_r (lockLL (TSorted_r (lockLL (width_r (lockLL (few_r (lockLL v))) (xLen (xRow v (nNat 0) 0)))))) (lockLL (TSorted_r (lockLL (width_r (lockLL (few_r (lockLL v2))) (xLen (xRow v (nNat 0) 0))))))))) (Tr.ite (iNe (TChkRel_n (lockLL (Union_r (lockLL (TSorted_r (lockLL (width_r (lockLL (few_r (lockLL v))) (xLen (xRow v (nNat 0) 0)))))) (lockLL (TSorted_r (lockLL (width_r (lockLL (few_r (lockLL v2))) (xLen (xRow v (nNat 0) 0))))))))) 0) (Tr.ret (PV.bool false)) (Tr.ite (Both_is0 (lockLL (TSorted_r (lockLL (width_r (lockLL (few_r (lockLL v))) (xLen (xRow v (nNat 0) 0)))))) (lockLL (TSorted_r (lockLL (width_r (lockLL (few_r (lockLL v2))) (xLen (xRow v (nNat 0) 0))))))) (Tr.ite (TChkRel_is0 (lockLL (Both_r (lockLL (TSorted_r (lockLL (width_r (lockLL (few_r (lockLL v))) (xLen (xRow v (nNat 0) 0)))))) (lockLL (TSorted_r (lockLL (width_r (lockLL (few_r (lockLL v2))) (xLen (xRow v (nNat 0) 0))))))))) (Tr.ite (iNe (TChkRel_n (lockLL (Both_r (lockLL (TSorted_r (lockLL (width_r (lockLL (few_r (lockLL v))) (xLen (xRow v (nNat 0) 0)))))) (lockLL (TSorted_r (lockLL (width_r (lockLL (few_r (lockLL v2))) (xLen (xRow v (nNat 0) 0))))))))) 0) (Tr.ret (PV.bool false)) (Tr.ite (Apply_is0 (lockLL (TSorted_r (lockLL (width_r (lockLL (few_r (lockLL v))) (xLen (xRow v (nNat 0) 0)))))) (lockLL (Diff_r (lockLL (TSorted_r (lockLL (width_r (lockLL (few_r (lockLL v))) (xLen (xRow v (nNat 0) 0))))))
 (lockLL (TSorted_r (lockLL (width_r (lockLL (few_r (lockLL v2))) (xLen (xRow v (nNat 0) 0)))))))) (lockLL (Diff_r2 (lockLL (TSorted_r (lockLL (width_r (lockLL (few_r (lockLL v))) (xLen (xRow v (nNat 0) 0)))))) (lockLL (TSorted_r (lockLL (width_r (lockLL (few_r (lockLL v2))) (xLen (xRow v (nNat 0) 0))))))))) (Tr.ite (SameRel_is0 (lockLL (Apply_r (lockLL (TSorted_r (lockLL (width_r (lockLL (few_r (lockLL v))) (xLen (xRow v (nNat 0) 0)))))) (lockLL (Diff_r (lockLL (TSorted_r (lockLL (width_r (lockLL (few_r (lockLL v))) (xLen (xRow v (nNat 0) 0)))))) (lockLL (TSorted_r (lockLL (width_r (lockLL (few_r (lockLL v2))) (xLen (xRow v (nNat 0) 0)))))))) (lockLL (Diff_r2 (lockLL (TSorted_r (lockLL (width_r (lockLL (few_r (lockLL v))) (xLen (xRow v (nNat 0) 0)))))) (lockLL (TSorted_r (lockLL (width_r (lockLL (few_r (lockLL v2))) (xLen (xRow v (nNat 0) 0)))))))))) (lockLL (TSorted_r (lockLL (width_r (lockLL (few_r (lockLL v2))) (xLen (xRow v (nNat 0) 0))))))) (Tr.ite (SameRel_b (lockLL (Apply_r (lockLL (TSorted_r (lockLL (width_r (lockLL (few_r (lockLL v))) (xLen (xRow v (nNat 0) 0)))))) (lockLL (Diff_r (lockLL (TSorted_r (lockLL (width_r (lockLL (few_r (lockLL v))) (xLen (xRow v (nNat 0) 0)))))) (lockLL (TSorted_r (lockLL (width_r (lockLL (few_r (lockLL v2))) (xLen (xRow v (nNat 0) 0)))))))) (lockLL (Diff_r2 (lockLL (TSorted_r (lockLL (width_r (lockLL (few_r (lockLL v))) (xLen (xRow v (nNat 0) 0)))))) (lockLL (TSorted_r (lockLL (width_r (lockLL (few_r (lockLL v2))) (xLen (xRow v (nNat 0) 0)))))))))) (lockLL (TSorted_r (lockLL (width_r (lockLL (few_r (lockLL v2))) (xLen (xRow v (nNat 0) 0))))))) (Tr.ite (Union_is0 (lockLL (TSorted_r (lockLL (width_r (lockLL (few_r (lockLL v))) (xLen (xRow v (nNat 0) 0)))))) (lockLL (TSorted_r (lockLL (width_r (lockLL (few_r (lockLL v2))) (xLen (xRow v (nNat 0) 0))))))) (Tr.ite (iEq (xLen (Union_r (lockLL (TSorted_r (lockLL (width_r (lockLL (few_r (lockLL v))) (xLen (xRow v (nNat 0) 0))))))
 (lockLL (TSorted_r (lockLL (width_r (lockLL (few_r (lockLL v2))) (xLen (xRow v (nNat 0) 0)))))))) (iAdd .i64 (xLen (TSorted_r (lockLL (width_r (lockLL (few_r (lockLL v))) (xLen (xRow v (nNat 0) 0)))))) (xLen (Diff_r (lockLL (TSorted_r (lockLL (width_r (lockLL (few_r (lockLL v))) (xLen (xRow v (nNat 0) 0)))))) (lockLL (TSorted_r (lockLL (width_r (lockLL (few_r (lockLL v2))) (xLen (xRow v (nNat 0) 0)))))))))) (Tr.ite (Both_is0 (lockLL (TSorted_r (lockLL (width_r (lockLL (few_r (lockLL v))) (xLen (xRow v (nNat 0) 0)))))) (lockLL (TSorted_r (lockLL (width_r (lockLL (few_r (lockLL v2))) (xLen (xRow v (nNat 0) 0))))))) (Tr.ret (PV.bool (iEq (xLen (Both_r (lockLL (TSorted_r (lockLL (width_r (lockLL (few_r (lockLL v))) (xLen (xRow v (nNat 0) 0)))))) (lockLL (TSorted_r (lockLL (width_r (lockLL (few_r (lockLL v2))) (xLen (xRow v (nNat 0) 0)))))))) (iSub .i64 (xLen (TSorted_r (lockLL (width_r (lockLL (few_r (lockLL v))) (xLen (xRow v (nNat 0) 0)))))) (xLen (Diff_r2 (lockLL (TSorted_r (lockLL (width_r (lockLL (few_r (lockLL v))) (xLen (xRow v (nNat 0) 0)))))) (lockLL (TSorted_r (lockLL (width_r (lockLL (few_r (lockLL v2))) (xLen (xRow v (nNat 0) 0)))))))))))) Tr.fail) (Tr.ret (PV.bool false))) Tr.fail) (Tr.ret (PV.bool false))) Tr.fail) Tr.fail)) Tr.fail) Tr.fail)) Tr.fail) Tr.fail)) Tr.fail)) Tr.fail) Tr.fail)) Tr.fail)) Tr.fail) Tr.fail) Tr.fail) Tr.fail) Tr.fail) Tr.fail) Tr.fail) Tr.fail) Tr.fail) (Tr.ite (few_is0 (lockLL v)) (Tr.ite (width_is0 (lockLL (few_r (lockLL v))) 0) (Tr.ite (TSorted_is0 (lockLL (width_r (lockLL (few_r (lockLL v))) 0))) (Tr.ite (few_is0 (lockLL v2)) (Tr.ite (width_is0 (lockLL (few_r (lockLL v2))) 0) (Tr.ite (TSorted_is0 (lockLL (width_r (lockLL (few_r (lockLL v2))) 0))) (Tr.ite (RChkRel_is0 (lockLL (TSorted_r (lockLL (width_r (lockLL (few_r (lockLL v))) 0))))) (Tr.ite (iNe (RChkRel_n (lockLL (TSorted_r (lockLL (width_r (lockLL (few_r (lockLL v))) 0))))) 0) (Tr.ret (PV.bool true))
 (Tr.ite (RChkRel_is0 (lockLL (TSorted_r (lockLL (width_r (lockLL (few_r (lockLL v2))) 0))))) (Tr.ite (iNe (RChkRel_n (lockLL (TSorted_r (lockLL (width_r (lockLL (few_r (lockLL v2))) 0))))) 0) (Tr.ret (PV.bool true)) (Tr.ite (Diff_is0 (lockLL (TSorted_r (lockLL (width_r (lockLL (few_r (lockLL v))) 0)))) (lockLL (TSorted_r (lockLL (width_r (lockLL (few_r (lockLL v2))) 0))))) (Tr.ite (TChkRel_is0 (lockLL (Diff_r (lockLL (TSorted_r (lockLL (width_r (lockLL (few_r (lockLL v))) 0)))) (lockLL (TSorted_r (lockLL (width_r (lockLL (few_r (lockLL v2))) 0))))))) (Tr.ite (iNe (TChkRel_n (lockLL (Diff_r (lockLL (TSorted_r (lockLL (width_r (lockLL (few_r (lockLL v))) 0)))) (lockLL (TSorted_r (lockLL (width_r (lockLL (few_r (lockLL v2))) 0))))))) 0) (Tr.ret (PV.bool false)) (Tr.ite (TChkRel_is0 (lockLL (Diff_r2 (lockLL (TSorted_r (lockLL (width_r (lockLL (few_r (lockLL v))) 0)))) (lockLL (TSorted_r (lockLL (width_r (lockLL (few_r (lockLL v2))) 0))))))) (Tr.ite (iNe (TChkRel_n (lockLL (Diff_r2 (lockLL (TSorted_r (lockLL (width_r (lockLL (few_r (lockLL v))) 0)))) (lockLL (TSorted_r (lockLL (width_r (lockLL (few_r (lockLL v2))) 0))))))) 0) (Tr.ret (PV.bool false)) (Tr.ite (Union_is0 (lockLL (TSorted_r (lockLL (width_r (lockLL (few_r (lockLL v))) 0)))) (lockLL (TSorted_r (lockLL (width_r (lockLL (few_r (lockLL v2))) 0))))) (Tr.ite (TChkRel_is0 (lockLL (Union_r (lockLL (TSorted_r (lockLL (width_r (lockLL (few_r (lockLL v))) 0)))) (lockLL (TSorted_r (lockLL (width_r (lockLL (few_r (lockLL v2))) 0))))))) (Tr.ite (iNe (TChkRel_n (lockLL (Union_r (lockLL (TSorted_r (lockLL (width_r (lockLL (few_r (lockLL v))) 0)))) (lockLL (TSorted_r (lockLL (width_r (lockLL (few_r (lockLL v2))) 0))))))) 0) (Tr.ret (PV.bool false)) (Tr.ite (Both_is0 (lockLL (TSorted_r (lockLL (width_r (lockLL (few_r (lockLL v))) 0)))) (lockLL (TSorted_r (lockLL (width_r (lockLL (few_r (lockLL v2))) 0))))) (Tr.ite (TChkRel_is0 (lockLL (Both_r (lockLL (TSorted_r (lockLL (width_r (lockLL (few_r (lockLL v))) 0))))
 (lockLL (TSorted_r (lockLL (width_r (lockLL (few_r (lockLL v2))) 0))))))) (Tr.ite (iNe (TChkRel_n (lockLL (Both_r (lockLL (TSorted_r (lockLL (width_r (lockLL (few_r (lockLL v))) 0)))) (lockLL (TSorted_r (lockLL (width_r (lockLL (few_r (lockLL v2))) 0))))))) 0) (Tr.ret (PV.bool false)) (Tr.ite (Apply_is0 (lockLL (TSorted_r (lockLL (width_r (lockLL (few_r (lockLL v))) 0)))) (lockLL (Diff_r (lockLL (TSorted_r (lockLL (width_r (lockLL (few_r (lockLL v))) 0)))) (lockLL (TSorted_r (lockLL (width_r (lockLL (few_r (lockLL v2))) 0)))))) (lockLL (Diff_r2 (lockLL (TSorted_r (lockLL (width_r (lockLL (few_r (lockLL v))) 0)))) (lockLL (TSorted_r (lockLL (width_r (lockLL (few_r (lockLL v2))) 0))))))) (Tr.ite (SameRel_is0 (lockLL (Apply_r (lockLL (TSorted_r (lockLL (width_r (lockLL (few_r (lockLL v))) 0)))) (lockLL (Diff_r (lockLL (TSorted_r (lockLL (width_r (lockLL (few_r (lockLL v))) 0)))) (lockLL (TSorted_r (lockLL (width_r (lockLL (few_r (lockLL v2))) 0)))))) (lockLL (Diff_r2 (lockLL (TSorted_r (lockLL (width_r (lockLL (few_r (lockLL v))) 0)))) (lockLL (TSorted_r (lockLL (width_r (lockLL (few_r (lockLL v2))) 0)))))))) (lockLL (TSorted_r (lockLL (width_r (lockLL (few_r (lockLL v2))) 0))))) (Tr.ite (SameRel_b (lockLL (Apply_r (lockLL (TSorted_r (lockLL (width_r (lockLL (few_r (lockLL v))) 0)))) (lockLL (Diff_r (lockLL (TSorted_r (lockLL (width_r (lockLL (few_r (lockLL v))) 0)))) (lockLL (TSorted_r (lockLL (width_r (lockLL (few_r (lockLL v2))) 0)))))) (lockLL (Diff_r2 (lockLL (TSorted_r (lockLL (width_r (lockLL (few_r (lockLL v))) 0)))) (lockLL (TSorted_r (lockLL (width_r (lockLL (few_r (lockLL v2))) 0)))))))) (lockLL (TSorted_r (lockLL (width_r (lockLL (few_r (lockLL v2))) 0))))) (Tr.ite (Union_is0 (lockLL (TSorted_r (lockLL (width_r (lockLL (few_r (lockLL v))) 0)))) (lockLL (TSorted_r (lockLL (width_r (lockLL (few_r (lockLL v2))) 0))))) (Tr.ite (iEq (xLen (Union_r (lockLL (TSorted_r (lockLL (width_r (lockLL (few_r (lockLL v))) 0))))
 (lockLL (TSorted_r (lockLL (width_r (lockLL (few_r (lockLL v2))) 0)))))) (iAdd .i64 (xLen (TSorted_r (lockLL (width_r (lockLL (few_r (lockLL v))) 0)))) (xLen (Diff_r (lockLL (TSorted_r (lockLL (width_r (lockLL (few_r (lockLL v))) 0)))) (lockLL (TSorted_r (lockLL (width_r (lockLL (few_r (lockLL v2))) 0)))))))) (Tr.ite (Both_is0 (lockLL (TSorted_r (lockLL (width_r (lockLL (few_r (lockLL v))) 0)))) (lockLL (TSorted_r (lockLL (width_r (lockLL (few_r (lockLL v2))) 0))))) (Tr.ret (PV.bool (iEq (xLen (Both_r (lockLL (TSorted_r (lockLL (width_r (lockLL (few_r (lockLL v))) 0)))) (lockLL (TSorted_r (lockLL (width_r (lockLL (few_r (lockLL v2))) 0)))))) (iSub .i64 (xLen (TSorted_r (lockLL (width_r (lockLL (few_r (lockLL v))) 0)))) (xLen (Diff_r2 (lockLL (TSorted_r (lockLL (width_r (lockLL (few_r (lockLL v))) 0)))) (lockLL (TSorted_r (lockLL (width_r (lockLL (few_r (lockLL v2))) 0)))))))))) Tr.fail) (Tr.ret (PV.bool false))) Tr.fail) (Tr.ret (PV.bool false))) Tr.fail) Tr.fail)) Tr.fail) Tr.fail)) Tr.fail) Tr.fail)) Tr.fail)) Tr.fail) Tr.fail)) Tr.fail)) Tr.fail) Tr.fail) Tr.fail) Tr.fail) Tr.fail) Tr.fail) Tr.fail))
theorem TChange_T (v : List (List PV)) (v2 : List (List PV)) : (tcall tbT G_TChange L_TChange Tryd.f12 [.sl v .non, .sl v2 .non]).flat = TChange_Tr v v2 := by kernel_rfl
noncomputable def TChange_W (v : List (List PV)) (v2 : List (List PV)) : Option PV := (TChange_Tr v v2).run
noncomputable def TChange_b (v : List (List PV)) (v2 : List (List PV)) : Bool := (gBool (gVal (TChange_W v v2)))
noncomputable def TChange_is0 (v : List (List PV)) (v2 : List (List PV)) : Bool := isW (TChange_W v v2) (.bool (TChange_b v v2))
noncomputable def F_TChange : List PV → Tr PV | [.sl v .non, .sl v2 .non] => .ite (TChange_is0 v v2) (.ret (.bool (TChange_b v v2))) (.fail) | _ => .fail
theorem sim_TChange (gl : Nat → Option Obj) (hg : GlPow gl) : SimP Tryd.prog gl 12 fun args => (F_TChange args).run := by
  refine SimP.of_flat (G := G_TChange) (L := L_TChange) tbT_ok (gok_TChange gl hg ) noMixed Tryd.func12 rfl (by rfl) (by kernel_rfl) (loopOk_none (by kernel_rfl)) ?_
  intro args x h
  unfold F_TChange at h
  split at h
  · exact (congrArg Tr.run (TChange_T _ _)).trans (ite_isW h fun h => by cases h)
  · cases h
end Go.Pv

/- Rows in order, each once: as sets. No program in sight. -/
set_option linter.unusedSimpArgs false
set_option linter.unusedVariables false
namespace Go.Pv
variable {α : Type} {c : α → α → Int}
theorem putS_length (T : Tot c) (x : α) : ∀ l : List α, SSrt c l → (putS c x l).length = l.length + (if plB c x l = true then 0 else 1)
  | [], _ => by simp [putS, plB]
  | a :: l, h => by
    have hc := List.pairwise_cons.1 h
    have ih := putS_length T x l hc.2
    have sw := T.swap a x
    simp only [putS]
    by_cases h1 : c x a < 0
    · rw [if_pos h1]
      have hB : plB c x (a :: l) = false := by
        simp only [plB, List.any_eq_false, decide_eq_true_eq]
        intro y hy
        rcases List.mem_cons.1 hy with e | e
        · subst e; omega
        · have h2 := T.trans x a y h1 (hc.1 y e)
          have h3 := T.swap y x
          omega
      simp [hB]
    · rw [if_neg h1]
      by_cases h2 : c x a = 0
      · rw [if_pos h2]
        have hB : plB c x (a :: l) = true := by
          have : c a x = 0 := by omega
          simp [plB, this]
        simp [hB]
      · rw [if_neg h2]
        have h4 : ¬ c a x = 0 := by omega
        have hB : plB c x (a :: l) = plB c x l := by simp [plB, h4]
        rw [hB, List.length_cons, ih, List.length_cons]
        omega
theorem fold_len (T : Tot c) : ∀ (y out : List α), SSrt c out → SSrt c y → (y.foldl (fun o x => putS c x o) out).length = out.length + (y.filter fun t => !(plB c t out)).length
  | [], out, _, _ => by simp
  | a :: y, out, ho, hy => by
    have hc := List.pairwise_cons.1 hy
    rw [List.foldl_cons, fold_len T y (putS c a out) (ssrt_putS T a out ho) hc.2, putS_length T a out ho]
    have e : y.filter (fun t => !(plB c t (putS c a out))) = y.filter (fun t => !(plB c t out)) := by
      apply List.filter_congr
      intro t ht
      have hne : t ≠ a := by
        rintro rfl
        have := hc.1 t ht
        have := T.self t
        omega
      have h1 := plB_iff T t (putS c a out)
      have h2 := plB_iff T t out
      rw [mem_putS T] at h1
      cases e1 : plB c t (putS c a out) <;> cases e2 : plB c t out <;> simp_all
    rw [e, List.filter_cons]
    cases plB c a out <;> simp <;> omega
theorem usort_self (T : Tot c) {l : List α} (h : SSrt c l) : usort c l = l := usort_of T h fun _ => Iff.rfl
theorem union_len (T : Tot c) {x y : List α} (hx : SSrt c x) (hy : SSrt c y) : (usort c (x ++ y)).length = x.length + (y.filter fun t => !(plB c t x)).length := by
  have e : usort c (x ++ y) = y.foldl (fun o a => putS c a o) x := by
    have : usort c x = x := usort_self T hx
    unfold usort at this ⊢
    rw [List.foldl_append, this]
  rw [e, fold_len T y x hx hy]
theorem filter_len (p : α → Bool) : ∀ l : List α, (l.filter p).length + (l.filter fun t => !(p t)).length = l.length
  | [] => rfl
  | a :: l => by
    have ih := filter_len p l
    simp only [List.filter_cons]
    cases p a <;> simp <;> omega
theorem adj_of {β : Type} {c : List β → List β → Int} (n : Nat) : ∀ l : List (List β), SSrt c l → (∀ t ∈ l, t.length = n) → adjL c l = true
  | [], _, _ => rfl
  | [_], _, _ => rfl
  | a :: b :: l, h, hn => by
    have hc := List.pairwise_cons.1 h
    have ih := adj_of n (b :: l) hc.2 (fun t ht => hn t (List.mem_cons_of_mem _ ht))
    have h1 : a.length = b.length := by rw [hn a (by simp), hn b (by simp)]
    have h2 : c a b < 0 := hc.1 b (by simp)
    simp only [adjL, h1, h2, ih, decide_true, Bool.and_self]
end Go.Pv

set_option maxHeartbeats 8000000
set_option maxRecDepth 200000
set_option linter.unusedSimpArgs false
set_option linter.unusedVariables false
/-! TupleSets: what is made of two rows is what it is as sets. -/
namespace Go.Pv
open Go Go.Proofs
/-- Not too great. -/
structure Sm (l : List (List Vl)) : Prop where
  len : l.length ≤ 1000
  fit : ∀ t ∈ l, t.length ≤ 1000000
theorem Sm.few (l : List (List Vl)) : Sm (fewL l) ∧ (fewL l).length ≤ 60 := ⟨⟨by have := few_len l; omega, fun t ht => by have := (few_mem ht).2; omega⟩, few_len l⟩
theorem Sm.usort {l : List (List Vl)} (h : Sm l) : Sm (usort lexV l) := ⟨by have := usort_len (c := lexV) l; have := h.len; omega, fun t ht => h.fit t ((mem_usort lexV_tot l t).1 ht)⟩
theorem Sm.app {a b : List (List Vl)} (ha : Sm a) (hb : Sm b) (h : a.length + b.length ≤ 1000) : Sm (a ++ b) := ⟨by simpa using h, fun t ht => by
  rcases List.mem_append.1 ht with h | h
  · exact ha.fit t h
  · exact hb.fit t h⟩
theorem someL_len (a b : List (List Vl)) (h : Bool) : (someL a b h).length ≤ a.length := by
  have h1 := usort_len (c := lexV) (a.filter (kp h b))
  have h2 : (a.filter (kp h b)).length ≤ a.length := List.length_filter_le _ _
  unfold someL
  omega
theorem mem_someL (a b : List (List Vl)) (h : Bool) (t : List Vl) : t ∈ someL a b h ↔ t ∈ a ∧ kp h b t = true := by
  unfold someL
  rw [mem_usort lexV_tot, List.mem_filter]
theorem Sm.some {a : List (List Vl)} (ha : Sm a) (b : List (List Vl)) (h : Bool) : Sm (someL a b h) := ⟨by have := someL_len a b h; have := ha.len; omega, fun t ht => ha.fit t ((mem_someL a b h t).1 ht).1⟩
theorem okLens_sm {l : List (List Vl)} (h : Sm l) : okLens (rOf (cR cV) l) = true := by
  rw [okLens_of]
  simp only [Bool.and_eq_true, decide_eq_true_eq, List.all_eq_true]
  exact ⟨by have := h.len; omega, h.fit⟩
theorem SameRel_of (a b : List (List Vl)) (h : Sm a) : SameRel_is0 (rOf (cR cV) a) (rOf (cR cV) b) = true ∧ SameRel_b (rOf (cR cV) a) (rOf (cR cV) b) = decide (a = b) := by
  have := sameRel_law a b (by have := h.len; omega)
  constructor
  · simp [SameRel_is0, SameRel_b, this]
  · simp [SameRel_b, this]
theorem TSorted_of {l : List (List Vl)} (h : Sm l) : TSorted_is0 (rOf (cR cV) l) = true ∧ TSorted_r (rOf (cR cV) l) = rOf (cR cV) (usort lexV l) := by
  have := TSorted_law l (by have := h.len; omega) h.fit
  constructor
  · simp [TSorted_is0, TSorted_r, this]
  · simp [TSorted_r, this]
theorem RSorted_of {l : List (List Vl)} (h : Sm l) : RSorted_is0 (rOf (cR cV) l) = true ∧ RSorted_r (rOf (cR cV) l) = rOf (cR cV) (usort lexV l) := by
  have := RSorted_law l (by have := h.len; omega)
  constructor
  · simp [RSorted_is0, RSorted_r, this]
  · simp [RSorted_r, this]
theorem Union_of {a b : List (List Vl)} (ha : Sm a) (hb : Sm b) (h : a.length + b.length ≤ 1000) : Union_is0 (rOf (cR cV) a) (rOf (cR cV) b) = true ∧ Union_r (rOf (cR cV) a) (rOf (cR cV) b) = rOf (cR cV) (usort lexV (a ++ b)) := by
  have e : ([[.sl (rOf (cR cV) a) .non], [.sl (rOf (cR cV) b) .non]] : List (List PV)) = rOf (cR (cR cV)) [a, b] := rfl
  have hc := cat_law [a, b] (by simp) (by simp; omega)
  have ef : [a, b].flatten = a ++ b := by simp
  rw [ef] at hc
  have c1 : cat_is0 (rOf (cR (cR cV)) [a, b]) = true := by simp [cat_is0, cat_r, hc]
  have c2 : cat_r (rOf (cR (cR cV)) [a, b]) = rOf (cR cV) (a ++ b) := by simp [cat_r, hc]
  obtain ⟨s1, s2⟩ := TSorted_of (ha.app hb h)
  have hw : Union_W (rOf (cR cV) a) (rOf (cR cV) b) = some (.sl (rOf (cR cV) (usort lexV (a ++ b))) .non) := by
    unfold Union_W Union_Tr
    simp only [lockLL_rOf, e, c1, c2, s1, s2, shutLL_rOf, Tr.run_ite, if_true, Tr.run_ret]
  constructor
  · simp [Union_is0, Union_r, hw]
  · simp [Union_r, hw]
theorem RUnion_of {a b : List (List Vl)} (ha : Sm a) (hb : Sm b) (h : a.length + b.length ≤ 1000) : RUnion_is0 (rOf (cR cV) a) (rOf (cR cV) b) = true ∧ RUnion_r (rOf (cR cV) a) (rOf (cR cV) b) = rOf (cR cV) (usort lexV (a ++ b)) := by
  obtain ⟨s1, s2⟩ := RSorted_of (ha.app hb h)
  have h1 := ha.len
  have h2 := hb.len
  have hw : RUnion_W (rOf (cR cV) a) (rOf (cR cV) b) = some (.sl (rOf (cR cV) (usort lexV (a ++ b))) .non) := by
    unfold RUnion_W RUnion_Tr
    have g1 : a.length * 24 ≤ 140737488355328 := by omega
    have g2 : a.length ≤ 140737488355328 := by omega
    have g3 : b.length * 24 ≤ 140737488355328 := by omega
    have g4 : b.length ≤ 140737488355328 := by omega
    have g5 : (a.length + b.length) * 24 ≤ 140737488355328 := by omega
    have g6 : a.length + b.length ≤ 140737488355328 := by omega
    by_cases ea : a = []
    · subst ea
      by_cases eb : b = []
      · subst eb
        simp at s1 s2
        simp [s1, s2]
      · simp at s1 s2
        simp [s1, s2, eb, g3, g4]
    · by_cases eb : b = []
      · subst eb
        simp at s1 s2
        simp [s1, s2, ea, g1, g2]
      · simp [s1, s2, ea, eb, g1, g2, g5, g6]
  constructor
  · simp [RUnion_is0, RUnion_r, hw]
  · simp [RUnion_r, hw]
/-! ### some -/
def nT {α : Type} : List α → Tag | [] => .full | _ :: _ => .non
theorem insP_ne (x : List Vl) (l : List (List Vl)) : insP lexV x l ≠ [] := by
  unfold insP
  split
  · rename_i h
    rintro rfl
    simp [plB] at h
  · simp
theorem nT_ne {l : List (List Vl)} (h : l ≠ []) : nT l = .non := by cases l with | nil => exact absurd rfl h | cons a m => rfl
theorem RHas_of {b : List (List Vl)} (hb : Sm b) (t : List Vl) : RHas_is0 (rOf (cR cV) b) (rOf cV t) = true ∧ RHas_b (rOf (cR cV) b) (rOf cV t) = plB lexV t b := by
  have hp := RPlace_law b t (by have := hb.len; omega)
  have e0 : RPlace_is0 (rOf (cR cV) b) (rOf cV t) = true := by simp [RPlace_is0, RPlace_n, RPlace_b, hp]
  have e1 : RPlace_b (rOf (cR cV) b) (rOf cV t) = plB lexV t b := by simp [RPlace_b, hp]
  have hw : RHas_W (rOf (cR cV) b) (rOf cV t) = some (.bool (plB lexV t b)) := by
    unfold RHas_W RHas_Tr
    simp only [lockLL_rOf, e0, e1, Tr.run_ite, if_true, Tr.run_ret]
  constructor
  · simp [RHas_is0, RHas_b, hw]
  · simp [RHas_b, hw]
def rsF (b : List (List Vl)) (h : Bool) (out : List (List Vl)) (a : List Vl) : List (List Vl) ⊕ List (List Vl) := .inl (if kp h b a = true then insP lexV a out else out)
theorem rs_fold (b : List (List Vl)) (h : Bool) : ∀ (l out : List (List Vl)), foldE (rsF b h) id l out = (l.filter (kp h b)).foldl (fun o x => insP lexV x o) out
  | [], out => rfl
  | a :: l, out => by
    simp only [foldE, rsF]
    rw [rs_fold b h l]
    by_cases hk : kp h b a = true
    · simp [hk]
    · simp [hk]
theorem Rsome_loop (a b : List (List Vl)) (h : Bool) (ha : Sm a) (hb : Sm b) : Rsome1_V [.sl (rOf (cR cV) a) .non, .sl (rOf (cR cV) b) .non, .bool h, .sl [] .full, .int .i64 0] ⟨[], [], []⟩ = some (.exit 0, [.sl (rOf (cR cV) (someL a b h)) (nT (someL a b h))], ⟨[], [], []⟩) := by
  have hl := ha.len
  have hh := loop_foldE0 (l := a) (V := fun i out => Rsome1_V [.sl (rOf (cR cV) a) .non, .sl (rOf (cR cV) b) .non, .bool h, .sl (rOf (cR cV) out) (nT out), .int .i64 (i : Nat)] ⟨[], [], []⟩) (fun i out => out.length ≤ i) (rsF b h) id (fun r => some (.exit 0, [.sl (rOf (cR cV) r) (nT r)], ⟨[], [], []⟩)) [] (by simp) ?_ ?_
  · rw [rs_fold, fold_insP_usort lexV_tot] at hh
    simpa [someL, nT] using hh
  · intro i out t hs hi hat
    have w := inc_i64 (i := i) (by omega)
    obtain ⟨r1, r2⟩ := RHas_of hb t
    have hp := put_law out t (by omega)
    have p1 : put_is0 (rOf (cR cV) out) (rOf cV t) = true := by simp [put_is0, put_r, hp]
    have p2 : put_r (rOf (cR cV) out) (rOf cV t) = rOf (cR cV) (insP lexV t out) := by simp [put_r, hp]
    have hle := insP_len (c := lexV) t out
    have hne := nT_ne (insP_ne t out)
    refine .inl ⟨_, rfl, ?_, ?_⟩
    · split <;> omega
    · have hk : (plB lexV t b == h) = kp h b t := rfl
      cases out with
      | nil =>
        simp at p1 p2
        cases hkk : kp h b t with
        | true =>
          rw [hkk] at hk
          rw [if_pos rfl, hne]
          simp [nT, Rsome1_E, Rsome1_Tr, hat, hi, w, r1, r2, p1, p2, hk]
        | false =>
          rw [hkk] at hk
          simp at hk
          simp [nT, Rsome1_E, Rsome1_Tr, hat, hi, w, r1, r2, p1, p2, hk]
      | cons x out =>
        have hn2 : nT (x :: out) = .non := rfl
        cases hkk : kp h b t with
        | true =>
          rw [hkk] at hk
          rw [if_pos rfl, hne, hn2]
          simp at hk
          simp [Rsome1_E1, Rsome1_Tr1, hat, hi, w, r1, r2, p1, p2, hk]
        | false =>
          rw [hkk] at hk
          simp at hk
          rw [hn2]
          simp [hn2, Rsome1_E1, Rsome1_Tr1, hat, hi, w, r1, r2, p1, p2, hk]
  · intro out _
    cases out with
    | nil => simp [nT, Rsome1_E, Rsome1_Tr]
    | cons x out => simp [nT, Rsome1_E1, Rsome1_Tr1]
theorem Rsome_of {a b : List (List Vl)} (ha : Sm a) (hb : Sm b) (h : Bool) : Rsome_is0 (rOf (cR cV) a) (rOf (cR cV) b) h = true ∧ Rsome_r (rOf (cR cV) a) (rOf (cR cV) b) h = rOf (cR cV) (someL a b h) := by
  have hl := Rsome_loop a b h ha hb
  have hw : Rsome_W (rOf (cR cV) a) (rOf (cR cV) b) h = some (.sl (rOf (cR cV) (someL a b h)) .non) := by
    unfold Rsome_W Rsome_Tr
    generalize someL a b h = r at hl
    cases r with
    | nil =>
      simp [nT] at hl
      simp [Rsome1_is0, Rsome1_is1, Rsome1_out_0, Rsome1_out_1, Rsome1_W, hl]
    | cons x r =>
      simp [nT] at hl
      simp [Rsome1_is0, Rsome1_is1, Rsome1_out_0, Rsome1_out_1, Rsome1_W, hl]
  constructor
  · simp [Rsome_is0, Rsome_r, hw]
  · simp [Rsome_r, hw]
theorem Minus_of {a b : List (List Vl)} (ha : Sm a) (hb : Sm b) : Minus_is0 (rOf (cR cV) a) (rOf (cR cV) b) = true ∧ Minus_r (rOf (cR cV) a) (rOf (cR cV) b) = rOf (cR cV) (someL a b false) := by
  have hw : Minus_W (rOf (cR cV) a) (rOf (cR cV) b) = some (.sl (rOf (cR cV) (someL a b false)) .non) := by
    unfold Minus_W Minus_Tr
    simp only [lockLL_rOf, okR_of, okLens_sm ha, okLens_sm hb, someV_of, shutLL_rOf, Tr.run_ite, if_true, Tr.run_ret]
  constructor
  · simp [Minus_is0, Minus_r, hw]
  · simp [Minus_r, hw]
theorem Both_of {a b : List (List Vl)} (ha : Sm a) (hb : Sm b) : Both_is0 (rOf (cR cV) a) (rOf (cR cV) b) = true ∧ Both_r (rOf (cR cV) a) (rOf (cR cV) b) = rOf (cR cV) (someL a b true) := by
  have hw : Both_W (rOf (cR cV) a) (rOf (cR cV) b) = some (.sl (rOf (cR cV) (someL a b true)) .non) := by
    unfold Both_W Both_Tr
    simp only [lockLL_rOf, okR_of, okLens_sm ha, okLens_sm hb, someV_of, shutLL_rOf, Tr.run_ite, if_true, Tr.run_ret]
  constructor
  · simp [Both_is0, Both_r, hw]
  · simp [Both_r, hw]
theorem RMinus_of {a b : List (List Vl)} (ha : Sm a) (hb : Sm b) : RMinus_is0 (rOf (cR cV) a) (rOf (cR cV) b) = true ∧ RMinus_r (rOf (cR cV) a) (rOf (cR cV) b) = rOf (cR cV) (someL a b false) := by
  obtain ⟨r1, r2⟩ := Rsome_of ha hb false
  have hw : RMinus_W (rOf (cR cV) a) (rOf (cR cV) b) = some (.sl (rOf (cR cV) (someL a b false)) .non) := by
    unfold RMinus_W RMinus_Tr
    simp only [lockLL_rOf, r1, r2, shutLL_rOf, Tr.run_ite, if_true, Tr.run_ret]
  constructor
  · simp [RMinus_is0, RMinus_r, hw]
  · simp [RMinus_r, hw]
theorem RBoth_of {a b : List (List Vl)} (ha : Sm a) (hb : Sm b) : RBoth_is0 (rOf (cR cV) a) (rOf (cR cV) b) = true ∧ RBoth_r (rOf (cR cV) a) (rOf (cR cV) b) = rOf (cR cV) (someL a b true) := by
  obtain ⟨r1, r2⟩ := Rsome_of ha hb true
  have hw : RBoth_W (rOf (cR cV) a) (rOf (cR cV) b) = some (.sl (rOf (cR cV) (someL a b true)) .non) := by
    unfold RBoth_W RBoth_Tr
    simp only [lockLL_rOf, r1, r2, shutLL_rOf, Tr.run_ite, if_true, Tr.run_ret]
  constructor
  · simp [RBoth_is0, RBoth_r, hw]
  · simp [RBoth_r, hw]
def applyL (l p m : List (List Vl)) : List (List Vl) := usort lexV (p ++ someL l m false)
theorem Apply_of {l p m : List (List Vl)} (hl : Sm l) (hp : Sm p) (hm : Sm m) (h : p.length + l.length ≤ 1000) : Apply_is0 (rOf (cR cV) l) (rOf (cR cV) p) (rOf (cR cV) m) = true ∧ Apply_r (rOf (cR cV) l) (rOf (cR cV) p) (rOf (cR cV) m) = rOf (cR cV) (applyL l p m) := by
  obtain ⟨r1, r2⟩ := Minus_of hl hm
  have := someL_len l m false
  obtain ⟨u1, u2⟩ := Union_of hp (hl.some m false) (by omega)
  have hw : Apply_W (rOf (cR cV) l) (rOf (cR cV) p) (rOf (cR cV) m) = some (.sl (rOf (cR cV) (applyL l p m)) .non) := by
    unfold Apply_W Apply_Tr
    simp only [lockLL_rOf, r1, r2, u1, u2, shutLL_rOf, Tr.run_ite, if_true, Tr.run_ret]
    rfl
  constructor
  · simp [Apply_is0, Apply_r, hw]
  · simp [Apply_r, hw]
theorem RApply_of {l p m : List (List Vl)} (hl : Sm l) (hp : Sm p) (hm : Sm m) (h : p.length + l.length ≤ 1000) : RApply_is0 (rOf (cR cV) l) (rOf (cR cV) p) (rOf (cR cV) m) = true ∧ RApply_r (rOf (cR cV) l) (rOf (cR cV) p) (rOf (cR cV) m) = rOf (cR cV) (applyL l p m) := by
  obtain ⟨r1, r2⟩ := RMinus_of hl hm
  have := someL_len l m false
  obtain ⟨u1, u2⟩ := RUnion_of hp (hl.some m false) (by omega)
  have hw : RApply_W (rOf (cR cV) l) (rOf (cR cV) p) (rOf (cR cV) m) = some (.sl (rOf (cR cV) (applyL l p m)) .non) := by
    unfold RApply_W RApply_Tr
    simp only [lockLL_rOf, r1, r2, u1, u2, shutLL_rOf, Tr.run_ite, if_true, Tr.run_ret]
    rfl
  constructor
  · simp [RApply_is0, RApply_r, hw]
  · simp [RApply_r, hw]
theorem Diff_of {a b : List (List Vl)} (ha : Sm a) (hb : Sm b) : Diff_is0 (rOf (cR cV) a) (rOf (cR cV) b) = true ∧ Diff_r (rOf (cR cV) a) (rOf (cR cV) b) = rOf (cR cV) (someL b a false) ∧ Diff_r2 (rOf (cR cV) a) (rOf (cR cV) b) = rOf (cR cV) (someL a b false) := by
  obtain ⟨r1, r2⟩ := Minus_of hb ha
  obtain ⟨q1, q2⟩ := Minus_of ha hb
  have hw : Diff_W (rOf (cR cV) a) (rOf (cR cV) b) = some (.tup [.sl (rOf (cR cV) (someL b a false)) .non, .sl (rOf (cR cV) (someL a b false)) .non]) := by
    unfold Diff_W Diff_Tr
    simp only [lockLL_rOf, r1, r2, q1, q2, shutLL_rOf, Tr.run_ite, if_true, Tr.run_ret]
  refine ⟨?_, ?_, ?_⟩
  · simp [Diff_is0, Diff_r, Diff_r2, hw]
  · simp [Diff_r, hw]
  · simp [Diff_r2, hw]
theorem few_of (l : List (List Vl)) (hl : l.length ≤ 9223372036854775807) : few_is0 (rOf (cR cV) l) = true ∧ few_r (rOf (cR cV) l) = rOf (cR cV) (fewL l) := by
  have hf := few_law l hl
  constructor
  · simp [few_is0, few_r, hf]
  · simp [few_r, hf]
/-! ### TupleSets -/
theorem TSets_law (a b c : List (List Vl)) (ha : a.length ≤ 9223372036854775807) (hb : b.length ≤ 9223372036854775807) (hc : c.length ≤ 9223372036854775807) : TSets_W (rOf (cR cV) a) (rOf (cR cV) b) (rOf (cR cV) c) = some (.bool true) := by
  obtain ⟨a1, a2⟩ := few_of a ha
  obtain ⟨b1, b2⟩ := few_of b hb
  obtain ⟨c1, c2⟩ := few_of c hc
  obtain ⟨sa, la⟩ := Sm.few a
  obtain ⟨sb, lb⟩ := Sm.few b
  obtain ⟨sc, lc⟩ := Sm.few c
  unfold TSets_W TSets_Tr
  simp only [lockLL_rOf, a1, a2, b1, b2, c1, c2]
  generalize fewL a = a at *
  generalize fewL b = b at *
  generalize fewL c = c at *
  obtain ⟨d1, d2, d3⟩ := Diff_of sa sb
  obtain ⟨u1, u2⟩ := Union_of sa sb (by omega)
  obtain ⟨v1, v2⟩ := RUnion_of sa sb (by omega)
  obtain ⟨m1, m2⟩ := Minus_of sa sb
  obtain ⟨n1, n2⟩ := RMinus_of sa sb
  obtain ⟨x1, x2⟩ := Both_of sa sb
  obtain ⟨y1, y2⟩ := RBoth_of sa sb
  obtain ⟨p1, p2⟩ := Apply_of sa sb sc (by omega)
  obtain ⟨q1, q2⟩ := RApply_of sa sb sc (by omega)
  obtain ⟨n3, n4⟩ := RMinus_of sb sa
  obtain ⟨s1, s2⟩ := SameRel_of _ (usort lexV (a ++ b)) (sa.app sb (by omega)).usort
  obtain ⟨s3, s4⟩ := SameRel_of _ (someL a b false) (sa.some b false)
  obtain ⟨s5, s6⟩ := SameRel_of _ (someL a b true) (sa.some b true)
  have hap : Sm (applyL a b c) := (sb.app (sa.some c false) (by have := someL_len a c false; omega)).usort
  obtain ⟨s7, s8⟩ := SameRel_of _ (applyL a b c) hap
  obtain ⟨s9, s10⟩ := SameRel_of _ (someL b a false) (sb.some a false)
  simp only [lockLL_rOf, d1, d2, d3, u1, u2, v1, v2, m1, m2, n1, n2, n3, n4, x1, x2, y1, y2, p1, p2, q1, q2, s1, s2, s3, s4, s5, s6, s7, s8, s9, s10, decide_true, Tr.run_ite, if_true, Tr.run_ret]
end Go.Pv

set_option maxHeartbeats 8000000
set_option maxRecDepth 200000
set_option linter.unusedSimpArgs false
set_option linter.unusedVariables false
/-! TupleChange: what came and what went, put on the old relation, makes the new one. -/
namespace Go.Pv
open Go Go.Proofs
theorem Sm.wid {l : List (List Vl)} (h : Sm l) (k : Nat) : Sm (widL l k) := ⟨by have : (widL l k).length ≤ l.length := List.length_filter_le _ _; have := h.len; omega, fun t ht => h.fit t (List.mem_filter.1 ht).1⟩
theorem wid_usort (l : List (List Vl)) (k : Nat) : ∀ t ∈ usort lexV (widL l k), t.length = k := fun t ht => by
  have := (mem_usort lexV_tot _ t).1 ht
  simpa [widL] using (List.mem_filter.1 this).2
theorem RChk_of {l : List (List Vl)} (h : Sm l) : RChkRel_is0 (rOf (cR cV) l) = true ∧ RChkRel_n (rOf (cR cV) l) = relV l := by
  have := RChkRel_law l (by have := h.len; omega)
  constructor
  · simp [RChkRel_is0, RChkRel_n, this]
  · simp [RChkRel_n, this]
theorem TChk_of {l : List (List Vl)} (h : Sm l) : TChkRel_is0 (rOf (cR cV) l) = true ∧ TChkRel_n (rOf (cR cV) l) = relV l := by
  have := TChkRel_law l (by have := h.len; omega)
  constructor
  · simp [TChkRel_is0, TChkRel_n, this]
  · simp [TChkRel_n, this]
theorem width_of {l : List (List Vl)} (h : Sm l) (n : Int) (k : Nat) (hk : n = (k : Nat)) : width_is0 (rOf (cR cV) l) n = true ∧ width_r (rOf (cR cV) l) n = rOf (cR cV) (widL l k) := by
  subst hk
  have := width_law l k (by have := h.len; omega)
  constructor
  · simp [width_is0, width_r, this]
  · simp [width_r, this]
theorem relV_chk {l : List (List Vl)} (h : relV l = 0) : ∀ t ∈ l, chkV t = 0 := by
  unfold relV at h
  split at h
  · omega
  · split at h
    · rename_i h1
      simpa using h1
    · omega
theorem relV_ok (k : Nat) (l : List (List Vl)) (ho : SSrt lexV l) (hw : ∀ t ∈ l, t.length = k) (hc : ∀ t ∈ l, chkV t = 0) (hl : l.length ≤ 1000) : relV l = 0 := by
  unfold relV
  rw [if_neg (by omega), if_pos (by simpa using hc), if_pos (adj_of k l ho hw)]
theorem relV_some (k : Nat) (a b : List (List Vl)) (h : Bool) (ho : SSrt lexV a) (hw : ∀ t ∈ a, t.length = k) (hc : ∀ t ∈ a, chkV t = 0) (hl : (someL a b h).length ≤ 1000) : relV (someL a b h) = 0 :=
  relV_ok k _ (ssrt_usort lexV_tot _) (fun t ht => hw t ((mem_someL a b h t).1 ht).1) (fun t ht => hc t ((mem_someL a b h t).1 ht).1) hl
theorem relV_union (k : Nat) (x y : List (List Vl)) (wx : ∀ t ∈ x, t.length = k) (wy : ∀ t ∈ y, t.length = k) (cx : ∀ t ∈ x, chkV t = 0) (cy : ∀ t ∈ y, chkV t = 0) (hl : x.length + y.length ≤ 1000) : relV (usort lexV (x ++ y)) = 0 := by
  have hm : ∀ t ∈ usort lexV (x ++ y), t ∈ x ∨ t ∈ y := fun t ht => by
    have := (mem_usort lexV_tot _ t).1 ht
    simpa using this
  refine relV_ok k _ (ssrt_usort lexV_tot _) (fun t ht => (hm t ht).elim (wx t) (wy t)) (fun t ht => (hm t ht).elim (cx t) (cy t)) ?_
  have := usort_len (c := lexV) (x ++ y)
  simp at this
  omega
theorem kp_iff (h : Bool) (b : List (List Vl)) (t : List Vl) : kp h b t = true ↔ (t ∈ b ↔ h = true) := by
  have := plB_iff lexV_tot t b
  unfold kp
  cases e : plB lexV t b <;> cases h <;> simp_all
theorem apply_diff {x y : List (List Vl)} (oy : SSrt lexV y) : applyL x (someL y x false) (someL x y false) = y := by
  unfold applyL
  refine usort_of lexV_tot oy fun t => ?_
  simp only [List.mem_append, mem_someL, kp_iff]
  constructor
  · intro hy
    by_cases hx : t ∈ x
    · right
      refine ⟨hx, ?_⟩
      simp [hx, hy]
    · left
      simp [hx, hy]
  · rintro (⟨h1, _⟩ | ⟨h1, h2⟩)
    · exact h1
    · simp [h1] at h2
      exact h2
theorem someL_self {a b : List (List Vl)} {h : Bool} (ho : SSrt lexV a) : someL a b h = a.filter (kp h b) := by
  unfold someL
  exact usort_self lexV_tot (ho.filter _)
theorem union_some {x y : List (List Vl)} (ox : SSrt lexV x) (oy : SSrt lexV y) : (usort lexV (x ++ y)).length = x.length + (someL y x false).length := by
  rw [union_len lexV_tot ox oy, someL_self oy]
  congr 2
  apply List.filter_congr
  intro t _
  unfold kp
  cases plB lexV t x <;> rfl
theorem both_some {x y : List (List Vl)} (ox : SSrt lexV x) : (someL x y true).length = x.length - (someL x y false).length := by
  rw [someL_self ox, someL_self ox]
  have h := filter_len (kp true y) x
  have e : x.filter (fun t => !(kp true y t)) = x.filter (kp false y) := by
    apply List.filter_congr
    intro t _
    unfold kp
    cases plB lexV t y <;> rfl
  rw [e] at h
  omega
theorem TChange_law (a b : List (List Vl)) (ha : a.length ≤ 9223372036854775807) (hb : b.length ≤ 9223372036854775807) : TChange_W (rOf (cR cV) a) (rOf (cR cV) b) = some (.bool true) := by
  obtain ⟨a1, a2⟩ := few_of a ha
  obtain ⟨b1', b2'⟩ := few_of b hb
  obtain ⟨sa, la⟩ := Sm.few a
  obtain ⟨sb, lb⟩ := Sm.few b
  have z0 : iNe 0 0 = false := by rfl
  unfold TChange_W TChange_Tr
  simp only [lockLL_rOf, a1, a2, b1', b2']
  refine Tr.run_f rfl ?_
  refine Tr.run_of (fun h => ?_) (fun h => ?_)
  · have h0 : 0 < a.length := by simpa using h
    refine Tr.run_t (by simp) ?_
    refine Tr.run_t (by simp [h0]) ?_
    have hk : xLen (xRow (rOf (cR cV) a) (nNat 0) 0) = ((a[0]?.getD []).length : Nat) := by simp
    generalize xLen (xRow (rOf (cR cV) a) (nNat 0) 0) = n at *
    generalize (a[0]?.getD []).length = k at *
    clear h h0 a1 a2 b1' b2' ha hb
    generalize fewL a = a at *
    generalize fewL b = b at *
    obtain ⟨w1, w2⟩ := width_of sa n k hk
    obtain ⟨w3, w4⟩ := width_of sb n k hk
    obtain ⟨t1, t2⟩ := TSorted_of (sa.wid k)
    obtain ⟨t3, t4⟩ := TSorted_of (sb.wid k)
    simp only [lockLL_rOf, w1, w2, w3, w4, t1, t2, t3, t4, Tr.run_ite, if_true]
    have wx := wid_usort a k
    have wy := wid_usort b k
    have sx := (sa.wid k).usort
    have sy := (sb.wid k).usort
    have ox := ssrt_usort lexV_tot (widL a k)
    have oy := ssrt_usort lexV_tot (widL b k)
    have lx : (usort lexV (widL a k)).length ≤ 60 := by have h1 := usort_len (c := lexV) (widL a k); have h2 : (widL a k).length ≤ a.length := List.length_filter_le _ _; omega
    have ly : (usort lexV (widL b k)).length ≤ 60 := by have h1 := usort_len (c := lexV) (widL b k); have h2 : (widL b k).length ≤ b.length := List.length_filter_le _ _; omega
    generalize usort lexV (widL a k) = x at *
    generalize usort lexV (widL b k) = y at *
    obtain ⟨r1, r2⟩ := RChk_of sx
    obtain ⟨r3, r4⟩ := RChk_of sy
    by_cases hx : relV x = 0
    · by_cases hy : relV y = 0
      · have cx := relV_chk hx
        have cy := relV_chk hy
        obtain ⟨d1, d2, d3⟩ := Diff_of sx sy
        obtain ⟨u1, u2⟩ := Union_of sx sy (by omega)
        obtain ⟨b1, b2⟩ := Both_of sx sy
        have hP : relV (someL y x false) = 0 := relV_some k y x false oy wy cy (by have := someL_len y x false; omega)
        have hM : relV (someL x y false) = 0 := relV_some k x y false ox wx cx (by have := someL_len x y false; omega)
        have hB : relV (someL x y true) = 0 := relV_some k x y true ox wx cx (by have := someL_len x y true; omega)
        have hU : relV (usort lexV (x ++ y)) = 0 := relV_union k x y wx wy cx cy (by omega)
        obtain ⟨e1, e2⟩ := TChk_of (sy.some x false)
        obtain ⟨e3, e4⟩ := TChk_of (sx.some y false)
        obtain ⟨e5, e6⟩ := TChk_of (sx.some y true)
        obtain ⟨e7, e8⟩ := TChk_of (sx.app sy (by omega)).usort
        rw [hP] at e2
        rw [hM] at e4
        rw [hB] at e6
        rw [hU] at e8
        obtain ⟨p1, p2⟩ := Apply_of sx (sy.some x false) (sx.some y false) (by have := someL_len y x false; omega)
        rw [apply_diff oy] at p2
        obtain ⟨s1, s2⟩ := SameRel_of y y sy
        have l1 : (usort lexV (x ++ y)).length = x.length + (someL y x false).length := union_some ox oy
        have l2 : (someL x y true).length = x.length - (someL x y false).length := both_some ox
        have l3 := someL_len x y false
        have l4 := someL_len y x false
        have i1 : iAdd .i64 ((x.length : Nat) : Int) (((someL y x false).length : Nat) : Int) = ((x.length + (someL y x false).length : Nat) : Int) := add_N (by omega)
        have i2 : iSub .i64 ((x.length : Nat) : Int) (((someL x y false).length : Nat) : Int) = ((x.length - (someL x y false).length : Nat) : Int) := sub_N l3 (by omega)
        rw [hx] at r2
        rw [hy] at r4
        simp only [lockLL_rOf, r1, r2, r3, r4, d1, d2, d3, u1, u2, b1, b2, e1, e2, e3, e4, e5, e6, e7, e8, p1, p2, s1, s2, xLen_rOf, l1, l2, i1, i2, iEq_N, z0, decide_true, Bool.false_eq_true, if_false, if_true, Tr.run_ite, Tr.run_ret]
      · have n4 : iNe (relV y) 0 = true := by simp [hy]
        rw [hx] at r2
        simp only [lockLL_rOf, r1, r2, r3, r4, n4, z0, Bool.false_eq_true, if_false, if_true, Tr.run_ite, Tr.run_ret]
    · have n2 : iNe (relV x) 0 = true := by simp [hx]
      simp only [lockLL_rOf, r1, r2, n2, if_true, Tr.run_ite, Tr.run_ret]
  · clear h a1 a2 b1' b2' ha hb
    generalize fewL a = a at *
    generalize fewL b = b at *
    obtain ⟨k, hk⟩ : ∃ k : Nat, k = 0 := ⟨0, rfl⟩
    obtain ⟨w1, w2⟩ := width_of sa 0 k (by rw [hk]; rfl)
    obtain ⟨w3, w4⟩ := width_of sb 0 k (by rw [hk]; rfl)
    obtain ⟨t1, t2⟩ := TSorted_of (sa.wid k)
    obtain ⟨t3, t4⟩ := TSorted_of (sb.wid k)
    simp only [lockLL_rOf, w1, w2, w3, w4, t1, t2, t3, t4, Tr.run_ite, if_true]
    have wx := wid_usort a k
    have wy := wid_usort b k
    have sx := (sa.wid k).usort
    have sy := (sb.wid k).usort
    have ox := ssrt_usort lexV_tot (widL a k)
    have oy := ssrt_usort lexV_tot (widL b k)
    have lx : (usort lexV (widL a k)).length ≤ 60 := by have h1 := usort_len (c := lexV) (widL a k); have h2 : (widL a k).length ≤ a.length := List.length_filter_le _ _; omega
    have ly : (usort lexV (widL b k)).length ≤ 60 := by have h1 := usort_len (c := lexV) (widL b k); have h2 : (widL b k).length ≤ b.length := List.length_filter_le _ _; omega
    generalize usort lexV (widL a k) = x at *
    generalize usort lexV (widL b k) = y at *
    obtain ⟨r1, r2⟩ := RChk_of sx
    obtain ⟨r3, r4⟩ := RChk_of sy
    by_cases hx : relV x = 0
    · by_cases hy : relV y = 0
      · have cx := relV_chk hx
        have cy := relV_chk hy
        obtain ⟨d1, d2, d3⟩ := Diff_of sx sy
        obtain ⟨u1, u2⟩ := Union_of sx sy (by omega)
        obtain ⟨b1, b2⟩ := Both_of sx sy
        have hP : relV (someL y x false) = 0 := relV_some k y x false oy wy cy (by have := someL_len y x false; omega)
        have hM : relV (someL x y false) = 0 := relV_some k x y false ox wx cx (by have := someL_len x y false; omega)
        have hB : relV (someL x y true) = 0 := relV_some k x y true ox wx cx (by have := someL_len x y true; omega)
        have hU : relV (usort lexV (x ++ y)) = 0 := relV_union k x y wx wy cx cy (by omega)
        obtain ⟨e1, e2⟩ := TChk_of (sy.some x false)
        obtain ⟨e3, e4⟩ := TChk_of (sx.some y false)
        obtain ⟨e5, e6⟩ := TChk_of (sx.some y true)
        obtain ⟨e7, e8⟩ := TChk_of (sx.app sy (by omega)).usort
        rw [hP] at e2
        rw [hM] at e4
        rw [hB] at e6
        rw [hU] at e8
        obtain ⟨p1, p2⟩ := Apply_of sx (sy.some x false) (sx.some y false) (by have := someL_len y x false; omega)
        rw [apply_diff oy] at p2
        obtain ⟨s1, s2⟩ := SameRel_of y y sy
        have l1 : (usort lexV (x ++ y)).length = x.length + (someL y x false).length := union_some ox oy
        have l2 : (someL x y true).length = x.length - (someL x y false).length := both_some ox
        have l3 := someL_len x y false
        have l4 := someL_len y x false
        have i1 : iAdd .i64 ((x.length : Nat) : Int) (((someL y x false).length : Nat) : Int) = ((x.length + (someL y x false).length : Nat) : Int) := add_N (by omega)
        have i2 : iSub .i64 ((x.length : Nat) : Int) (((someL x y false).length : Nat) : Int) = ((x.length - (someL x y false).length : Nat) : Int) := sub_N l3 (by omega)
        rw [hx] at r2
        rw [hy] at r4
        simp only [lockLL_rOf, r1, r2, r3, r4, d1, d2, d3, u1, u2, b1, b2, e1, e2, e3, e4, e5, e6, e7, e8, p1, p2, s1, s2, xLen_rOf, l1, l2, i1, i2, iEq_N, z0, decide_true, Bool.false_eq_true, if_false, if_true, Tr.run_ite, Tr.run_ret]
      · have n4 : iNe (relV y) 0 = true := by simp [hy]
        rw [hx] at r2
        simp only [lockLL_rOf, r1, r2, r3, r4, n4, z0, Bool.false_eq_true, if_false, if_true, Tr.run_ite, Tr.run_ret]
    · have n2 : iNe (relV x) 0 = true := by simp [hx]
      simp only [lockLL_rOf, r1, r2, n2, if_true, Tr.run_ite, Tr.run_ret]
end Go.Pv

set_option maxHeartbeats 4000000
set_option maxRecDepth 200000
set_option linter.unusedSimpArgs false
set_option linter.unusedVariables false
namespace Go.Pv
open Go Go.Proofs Go.RowKit Go.Proofs.YtdfahkeodlfopaaDoor

/-! ### the listed variables -/
theorem g_pow : Tryd.prog.globalNamed "internal/strconv.uint64pow10" = some 0 := by kernel_rfl
theorem gt_pow : (Tryd.prog.globals[0]?).map (·.type) = some 164 := by kernel_rfl
def laidL : List (String × DataW Unit) := [("math/bits.deBruijn32tab", Rows.laid_math_bits_deBruijn32tab), ("math/bits.deBruijn64tab", Rows.laid_math_bits_deBruijn64tab), ("internal/strconv.uint64pow10", Rows.laid_internal_strconv_uint64pow10)]
theorem laidL_plain : (laidL.filter fun x => x.2.handleName?.isSome) = [] := by kernel_rfl
theorem glPow_laid {W : World} (h : laidMetH Tryd.prog laidL W) : GlPow fun b => W.heap[b]? := by
  unfold laidMetH at h
  rw [laidL_plain] at h
  obtain ⟨ps, hl, _⟩ := h
  refine ⟨?_⟩
  obtain ⟨g, t, cs, fuel, p, h1, h2, h3, h4⟩ := laid_var (nm := "internal/strconv.uint64pow10") hl (.tail _ (.tail _ (.head _)))
  obtain rfl := Option.some.inj (g_pow.symm.trans h1)
  obtain rfl := Option.some.inj (gt_pow.symm.trans h2)
  have e : (Rows.laid_internal_strconv_uint64pow10 : DataW Unit) = Lib.tabData .u64 Lib.pow10Tab := by rfl
  rw [e] at h4
  have hc := Lib.cells_of_tab Tryd.underlying164 Tryd.underlying147 (by kernel_rfl) (by kernel_rfl) h4
  obtain ⟨T, f, hh⟩ := var_heap h1 h3
  refine ⟨0, T, f, g_pow, ?_⟩
  rw [← hc]
  simpa using hh
theorem laidOut : laidOutB Tryd.prog = true := by kernel_rfl

/-- From a law's contract to its row's. -/
theorem law_calls {F : List PV → Tr PV} {f : FuncId} {fn : Func} {s : ChangeSpec} (hsim : ∀ {gl : Nat → Option Obj}, GlPow gl → SimP Tryd.prog gl f fun args => (F args).run) (hF : ∀ xs, ArgL Tryd.prog fn.params.toList xs → (∃ H w vs, RelL H w xs vs) → (F xs).run = some (.bool true))
    (hrt : fn.resultTypes = #[4]) (hsv : s.vars = []) (hT : (fn.params.toList.all fun t => okT Tryd.prog 9 t && Tryd.prog.readableRec t && decide (t < Tryd.prog.types.size)) = true)
    {H : Type} {enc : TypeId × Value → H} {W : World} {base : Nat} {args : Array Value} {ds gs : List (DataW H)} {before : List MemPlace} (hfn : ∀ ds : List (DataW H), ds.length = fn.params.size → s.fn H ds = { results := [.lit (.bool true)], args := ds })
    (hval : ∀ (j : Nat) t v, fn.params[j]? = some t → args[j]? = some v → Value.okWide Tryd.prog W .any base t v) (hW : DataW.Whole enc Tryd.prog fn.params.toList s.vars false W args.toList ds gs before) (hL : laidMetH Tryd.prog laidL W) :
    Calls Tryd.prog f args W fun e W' => ∃ v, e = .returned v ∧ s.post enc Tryd.prog fn false true false false W args v W' := by
  have hW' := hW
  obtain ⟨p, q, hA, hV, rfl, hfz, hnd⟩ := hW'
  have hT' : ∀ t ∈ fn.params.toList, okT Tryd.prog 9 t = true ∧ Tryd.prog.readableRec t = true ∧ t < Tryd.prog.types.size := by
    intro t ht
    have := List.all_eq_true.1 hT t ht
    simp only [Bool.and_eq_true, decide_eq_true_eq] at this
    exact ⟨this.1.1, this.1.2, this.2⟩
  obtain ⟨xs, hx, ha⟩ := args_rel (n := 9) (fun j t v ht hv => hval j t v (by simpa using ht) (by simpa using hv)) hA (List.all_eq_true.2 fun t ht => (hT' t ht).1)
  have hlen : ds.length = fn.params.size := by
    have h1 : ∀ {ts : List TypeId} {vs : List Value} {ds : List (DataW H)} {ps : List MemPlace}, DataW.TrodAll enc Tryd.prog W 0 (fun _ => true) true ts vs ds ps → ds.length = ts.length := by
      intro ts
      induction ts with
      | nil => intro vs ds ps h; obtain ⟨rfl, rfl, rfl⟩ := Go.ChangeShapes.trodAll_nil h; rfl
      | cons t ts ih =>
        intro vs ds ps h
        obtain ⟨v, vs', d, ds', p, q, rfl, rfl, rfl, hd, hrest⟩ := Go.ChangeShapes.trodAll_cons h
        simp [ih hrest]
    simpa using h1 hA
  have hc := (hsim (glPow_laid hL)).run xs _ (hF xs ha ⟨_, _, _, hx⟩) (ghOf W) W args.toList rfl rfl rfl (fun b o h => h) hx
  simp only [Array.toArray_toList] at hc
  refine hc.mono ?_
  rintro e W' ⟨v, rfl, hb, hr⟩
  cases hr
  exact ⟨_, rfl, law_post laidOut hrt Tryd.underlying4 hsv (fun t ht => (hT' t ht).2) hW (hfn ds hlen) hb.1⟩
end Go.Pv
namespace Go.Proofs.YtdfahkeodlfopaaDoor
open Go Go.Proofs Go.RowKit Go.Pv Go.ChangeShapes Go.WideShapes Go.ChangeAt

/-! ### arguments of the laws' types -/
theorem shp_int {t : TypeId} {k : IntKind} {xs : List PV} (hu : Tryd.prog.underlying t = some (.int k)) (h : Shp Tryd.prog t xs) : ∃ n, xs = [.int k n] := by
  cases h with
  | int t k' n h => rw [hu] at h; cases h; exact ⟨n, rfl⟩
  | bool t b h => rw [hu] at h; cases h
  | str t l h => rw [hu] at h; cases h
  | sl t e xss h hx => rw [hu] at h; cases h
  | struct t fs xs h hx => rw [hu] at h; cases h
theorem shp_str {t : TypeId} {xs : List PV} (hu : Tryd.prog.underlying t = some .string) (h : Shp Tryd.prog t xs) : ∃ l, xs = [.str l] := by
  cases h with
  | str t l h => exact ⟨l, rfl⟩
  | int t k' n h => rw [hu] at h; cases h
  | bool t b h => rw [hu] at h; cases h
  | sl t e xss h hx => rw [hu] at h; cases h
  | struct t fs xs h hx => rw [hu] at h; cases h
theorem shp_struct {t : TypeId} {fs : Array Field} {xs : List PV} (hu : Tryd.prog.underlying t = some (.struct fs)) (h : Shp Tryd.prog t xs) : ShpL Tryd.prog (fs.toList.map (·.type)) xs := by
  cases h with
  | struct t fs xs h hx => rw [hu] at h; cases h; exact hx
  | str t l h => rw [hu] at h; cases h
  | int t k' n h => rw [hu] at h; cases h
  | bool t b h => rw [hu] at h; cases h
  | sl t e xss h hx => rw [hu] at h; cases h
theorem shp_sl {t e : TypeId} {xs : List PV} (hu : Tryd.prog.underlying t = some (.slice e)) (h : Shp Tryd.prog t xs) : ∃ xss, xs = [.sl xss .non] ∧ ∀ ys, ys ∈ xss → Shp Tryd.prog e ys := by
  cases h with
  | sl t e xss h hx => rw [hu] at h; cases h; exact ⟨xss, rfl, hx⟩
  | str t l h => rw [hu] at h; cases h
  | int t k' n h => rw [hu] at h; cases h
  | bool t b h => rw [hu] at h; cases h
  | struct t fs xs h hx => rw [hu] at h; cases h
/-- Rows told by a code. -/
theorem shp_rows {α : Type} (C : Cod α) {t e : TypeId} {xs : List PV} (hu : Tryd.prog.underlying t = some (.slice e)) (he : ∀ ys, Shp Tryd.prog e ys → ∃ a, ys = C.enc a) (h : Shp Tryd.prog t xs) : ∃ l : List α, xs = [.sl (rOf C l) .non] := by
  obtain ⟨xss, rfl, hx⟩ := shp_sl hu h
  have : ∃ l : List α, xss = rOf C l := by
    clear h
    induction xss with
    | nil => exact ⟨[], rfl⟩
    | cons y ys ih =>
      obtain ⟨a, rfl⟩ := he y (hx y (List.mem_cons_self ..))
      obtain ⟨l, rfl⟩ := ih fun z hz => hx z (List.mem_cons_of_mem _ hz)
      exact ⟨a :: l, rfl⟩
  obtain ⟨l, rfl⟩ := this
  exact ⟨l, rfl⟩
theorem arg_rows {α : Type} (C : Cod α) {t e : TypeId} {x : PV} (hu : Tryd.prog.underlying t = some (.slice e)) (he : ∀ ys, Shp Tryd.prog e ys → ∃ a, ys = C.enc a) (h : Arg Tryd.prog t x) : ∃ l : List α, x = .sl (rOf C l) .non := by
  rcases h with ⟨fs, ys, hu', rfl, hs⟩ | ⟨hne, hs⟩
  · rw [hu] at hu'; cases hu'
  · obtain ⟨l, h⟩ := shp_rows C hu he hs
    cases h
    exact ⟨l, rfl⟩
theorem arg_int {k : IntKind} {t : TypeId} {x : PV} (hu : Tryd.prog.underlying t = some (.int k)) (h : Arg Tryd.prog t x) : ∃ n, x = .int k n := by
  rcases h with ⟨fs, ys, hu', rfl, hs⟩ | ⟨hne, hs⟩
  · rw [hu] at hu'; cases hu'
  · obtain ⟨n, h⟩ := shp_int hu hs
    cases h
    exact ⟨n, rfl⟩
theorem arg_str {x : PV} (h : Arg Tryd.prog 9 x) : ∃ s, x = .str s := by
  rcases h with ⟨fs, ys, hu, rfl, hs⟩ | ⟨hne, hs⟩
  · rw [Tryd.underlying9] at hu; cases hu
  · obtain ⟨s, h⟩ := shp_str Tryd.underlying9 hs
    cases h
    exact ⟨s, rfl⟩
theorem shp_val {xs : List PV} (h : Shp Tryd.prog 36 xs) : ∃ v : Vl, xs = cV.enc v := by
  have h1 := shp_struct Tryd.underlying36 h
  cases h1 with
  | cons t ts xs ys ha hs =>
    obtain ⟨k, rfl⟩ := shp_int Tryd.underlying34 ha
    cases hs with
    | cons t ts xs ys hb hs =>
      obtain ⟨n, rfl⟩ := shp_int Tryd.underlying2 hb
      cases hs with
      | cons t ts xs ys hc hs =>
        obtain ⟨s, rfl⟩ := shp_str Tryd.underlying9 hc
        cases hs
        exact ⟨(k, n, s), rfl⟩
theorem shp_tuple {xs : List PV} (h : Shp Tryd.prog 23 xs) : ∃ l : List Vl, xs = (cR cV).enc l := shp_rows cV Tryd.underlying23 (fun _ h => shp_val h) h
theorem arg_tuple {x : PV} (h : Arg Tryd.prog 23 x) : ∃ l : List Vl, x = .sl (rOf cV l) .non := arg_rows cV Tryd.underlying23 (fun _ h => shp_val h) h
theorem arg_rel {x : PV} (h : Arg Tryd.prog 44 x) : ∃ l : List (List Vl), x = .sl (rOf (cR cV) l) .non := arg_rows (cR cV) Tryd.underlying44 (fun _ h => shp_tuple h) h
theorem arg_types {x : PV} (h : Arg Tryd.prog 58 x) : ∃ l : List Int, x = .sl (rOf cI l) .non := arg_rows cI Tryd.underlying58 (fun _ h => by obtain ⟨n, rfl⟩ := shp_int Tryd.underlying85 h; exact ⟨n, rfl⟩) h
theorem shp_term {xs : List PV} (h : Shp Tryd.prog 38 xs) : ∃ a : Tm, xs = cM.enc a := by
  have h1 := shp_struct Tryd.underlying38 h
  cases h1 with
  | cons t ts xs ys ha hs =>
    obtain ⟨k, rfl⟩ := shp_int Tryd.underlying33 ha
    cases hs with
    | cons t ts xs ys hb hs =>
      obtain ⟨b, rfl⟩ := shp_str Tryd.underlying9 hb
      cases hs with
      | cons t ts xs ys hc hs =>
        obtain ⟨v, rfl⟩ := shp_val hc
        cases hs
        exact ⟨(k, b, v), rfl⟩
theorem arg_terms {x : PV} (h : Arg Tryd.prog 29 x) : ∃ l : List Tm, x = .sl (rOf cM l) .non := arg_rows cM Tryd.underlying29 (fun _ h => shp_term h) h

/-! ### a world that fits -/
def litVals : DataW Unit → Array Value
  | .agg l => (l.map fun d => match d with | .lit (.int k n) => Value.int k n | _ => undef).toArray
  | _ => #[]
noncomputable def low : Nat := (World.holding Tryd.prog default ⟨#[], #[], []⟩).heap.size
noncomputable def laidWorld (os : Os) : World :=
  let w0 := World.holding Tryd.prog os ⟨#[], #[], []⟩
  { w0 with heap := (((w0.heap.modify 4 fun
      | .cells _ t frozen => .cells (litVals Rows.laid_math_bits_deBruijn32tab) t frozen
      | o => o).modify 5 fun
      | .cells _ t frozen => .cells (litVals Rows.laid_math_bits_deBruijn64tab) t frozen
      | o => o).modify 0 fun
      | .cells _ t frozen => .cells (litVals Rows.laid_internal_strconv_uint64pow10) t frozen
      | o => o) }
theorem own : ownKnob Tryd.prog.godebug = none := by kernel_rfl
theorem laid_met (os : Os) (args : Array Value) : laidMet Tryd.prog laidL ((laidWorld os).forCall (fun _ _ => 0) ⟨#[], args, []⟩).memory :=
  laidMet_of_run' 8 (by kernel_rfl) (by kernel_rfl)
end Go.Proofs.YtdfahkeodlfopaaDoor
