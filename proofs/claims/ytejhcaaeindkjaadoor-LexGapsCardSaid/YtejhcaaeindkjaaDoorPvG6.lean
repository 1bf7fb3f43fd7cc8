/- Part 6 of the proof: pure values for the machine's values, what functions compute over them, and laws of what is computed. Conditions: none beyond each theorem's own premises. -/
import Derived.Test.YtejhcaaeindkjaaDoorPvG5
import Derived.Test.YtejhcaaeindkjaaDoorCards
import Derived.Test.YtejhcaaeindkjaaDoorTie
set_option maxHeartbeats 4000000
set_option maxRecDepth 200000
set_option linter.unusedSimpArgs false
set_option linter.unusedVariables false
namespace Go.Pv
open Go Go.Proofs
noncomputable def G_awake : GamT := ofL [(10, .pure F_lWords), (15, .pure F_lJoin)]
theorem gok_awake (gl : Gl) (hg : GlLex gl) : GamOk Tryd.prog gl (gam G_awake) := (gamOk_cons (sim_lWords gl hg) (gamOk_cons (sim_lJoin gl hg.toGlOk.toGlPow) gamOk_nil))
noncomputable def L_awake : LpsT := fun r fr σ => .fail
noncomputable def awake_Tr : Tr PV := Tr.ite (lWords_is0 [112, 40, 88, 41, 32, 58, 45, 32, 113, 40, 88, 44, 32, 95, 41, 44, 32, 88, 32, 33, 61, 32, 45, 51, 46]) (Tr.ite (lWords_is0 [97, 32, 63]) (Tr.ite (iEq (lWords_n2 [112, 40, 88, 41, 32, 58, 45, 32, 113, 40, 88, 44, 32, 95, 41, 44, 32, 88, 32, 33, 61, 32, 45, 51, 46]) 0) (Tr.ite (iEq (xLen (lWords_r [112, 40, 88, 41, 32, 58, 45, 32, 113, 40, 88, 44, 32, 95, 41, 44, 32, 88, 32, 33, 61, 32, 45, 51, 46])) 16) (Tr.ite (okPos 14) (Tr.ite (okGet [PV.int .i64 0, PV.str [], PV.int .i64 0, PV.int .i64 0, PV.str [], PV.int .i64 0] (lWords_r [112, 40, 88, 41, 32, 58, 45, 32, 113, 40, 88, 44, 32, 95, 41, 44, 32, 88, 32, 33, 61, 32, 45, 51, 46]) (nNat 14)) (Tr.ite (iEq (xInt (lWords_r [112, 40, 88, 41, 32, 58, 45, 32, 113, 40, 88, 44, 32, 95, 41, 44, 32, 88, 32, 33, 61, 32, 45, 51, 46]) (nNat 14) 0) 4) (Tr.ite (okPos 14) (Tr.ite (okGet [PV.int .i64 0, PV.str [], PV.int .i64 0, PV.int .i64 0, PV.str [], PV.int .i64 0] (lWords_r [112, 40, 88, 41, 32, 58, 45, 32, 113, 40, 88, 44, 32, 95, 41, 44, 32, 88, 32, 33, 61, 32, 45, 51, 46]) (nNat 14)) (Tr.ite (iEq (xInt (lWords_r [112, 40, 88, 41, 32, 58, 45, 32, 113, 40, 88, 44, 32, 95, 41, 44, 32, 88, 32, 33, 61, 32, 45, 51, 46]) (nNat 14) 3) (-3)) (Tr.ite (okPos 9) (Tr.ite (okGet [PV.int .i64 0, PV.str [], PV.int .i64 0, PV.int .i64 0, PV.str [], PV.int .i64 0] (lWords_r [112, 40, 88, 41, 32, 58, 45, 32, 113, 40, 88, 44, 32, 95, 41, 44, 32, 88, 32, 33, 61, 32, 45, 51, 46]) (nNat 9)) (Tr.ite (iEq (xInt (lWords_r [112, 40, 88, 41, 32, 58, 45, 32, 113, 40, 88, 44, 32, 95, 41, 44, 32, 88, 32, 33, 61, 32, 45, 51, 46]) (nNat 9) 0) 3) (Tr.ite (iEq (lWords_n [97, 32, 63]) 2) (Tr.ite (iEq (lWords_n2 [97, 32, 63]) 120) (Tr.ite (okSub true (okPos 3) 0 (nNat 3) (nXs (lWords_r [112, 40, 88, 41, 32, 58, 45, 32, 113, 40, 88, 44, 32, 95, 41, 44, 32, 88, 32, 33, 61, 32, 45, 51, 46])))
 (Tr.ite (okSize (lWords_r [112, 40, 88, 41, 32, 58, 45, 32, 113, 40, 88, 44, 32, 95, 41, 44, 32, 88, 32, 33, 61, 32, 45, 51, 46]) 6) (Tr.ite (lJoin_is0 (lockLL (xSub (lWords_r [112, 40, 88, 41, 32, 58, 45, 32, 113, 40, 88, 44, 32, 95, 41, 44, 32, 88, 32, 33, 61, 32, 45, 51, 46]) 0 (nNat 3)))) (Tr.ret (PV.bool (sEq (lJoin_s (lockLL (xSub (lWords_r [112, 40, 88, 41, 32, 58, 45, 32, 113, 40, 88, 44, 32, 95, 41, 44, 32, 88, 32, 33, 61, 32, 45, 51, 46]) 0 (nNat 3)))) [112, 32, 40, 32, 88]))) Tr.fail) Tr.fail) Tr.fail) (Tr.ret (PV.bool false))) (Tr.ret (PV.bool false))) (Tr.ret (PV.bool false))) Tr.fail) Tr.fail) (Tr.ret (PV.bool false))) Tr.fail) Tr.fail) (Tr.ret (PV.bool false))) Tr.fail) Tr.fail) (Tr.ret (PV.bool false))) (Tr.ret (PV.bool false))) Tr.fail) Tr.fail
theorem awake_T : (tcall tbT G_awake L_awake Tryd.f13 []).flat = awake_Tr := by kernel_rfl
noncomputable def awake_W : Option PV := (awake_Tr).run
noncomputable def awake_b : Bool := (gBool (gVal (awake_W)))
noncomputable def awake_is0 : Bool := isW (awake_W) (.bool (awake_b))
noncomputable def F_awake : List PV → Tr PV | [] => .ite (awake_is0) (.ret (.bool (awake_b))) (.fail) | _ => .fail
theorem sim_awake (gl : Gl) (hg : GlLex gl) : SimP Tryd.prog gl 13 fun args => (F_awake args).run := by
  refine SimP.of_flat (G := G_awake) (L := L_awake) tbT_ok (gok_awake gl hg ) noMixed Tryd.func13 rfl (by rfl) (by kernel_rfl) (loopOk_none (by kernel_rfl)) ?_
  intro args x h
  unfold F_awake at h
  split at h
  · exact (congrArg Tr.run (awake_T)).trans (ite_isW h fun h => by cases h)
  · cases h
noncomputable def G_xWords : GamT := ofL [(9, .pure F_lcut), (10, .pure F_lWords), (11, .pure F_rWords), (12, .pure F_rSameAll), (13, .pure F_awake)]
theorem gok_xWords (gl : Gl) (hg : GlLex gl) : GamOk Tryd.prog gl (gam G_xWords) := (gamOk_cons (sim_lcut gl) (gamOk_cons (sim_lWords gl hg) (gamOk_cons (sim_rWords gl) (gamOk_cons (sim_rSameAll gl) (gamOk_cons (sim_awake gl hg) gamOk_nil)))))
noncomputable def L_xWords : LpsT := fun r fr σ => .fail
noncomputable def xWords_Tr (s : List UInt8) : Tr PV := Tr.ite (lcut_is0 s) (Tr.ite (lWords_is0 (lcut_s s)) (Tr.ite (rWords_is0 (lcut_s s)) (Tr.ite (rSameAll_is0 (lockLL (lWords_r (lcut_s s))) (lockLL (rWords_r (lcut_s s)))) (Tr.ite (rSameAll_b (lockLL (lWords_r (lcut_s s))) (lockLL (rWords_r (lcut_s s)))) (Tr.ite (iEq (lWords_n (lcut_s s)) (rWords_n (lcut_s s))) (Tr.ite (iEq (lWords_n2 (lcut_s s)) (rWords_n2 (lcut_s s))) (Tr.ite awake_is0 (Tr.ret (PV.bool awake_b)) Tr.fail) (Tr.ret (PV.bool false))) (Tr.ret (PV.bool false))) (Tr.ret (PV.bool false))) Tr.fail) Tr.fail) Tr.fail) Tr.fail
theorem xWords_T (s : List UInt8) : (tcall tbT G_xWords L_xWords Tryd.f3 [.str s]).flat = xWords_Tr s := by kernel_rfl
noncomputable def xWords_W (s : List UInt8) : Option PV := (xWords_Tr s).run
noncomputable def xWords_b (s : List UInt8) : Bool := (gBool (gVal (xWords_W s)))
noncomputable def xWords_is0 (s : List UInt8) : Bool := isW (xWords_W s) (.bool (xWords_b s))
noncomputable def F_xWords : List PV → Tr PV | [.str s] => .ite (xWords_is0 s) (.ret (.bool (xWords_b s))) (.fail) | _ => .fail
theorem sim_xWords (gl : Gl) (hg : GlLex gl) : SimP Tryd.prog gl 3 fun args => (F_xWords args).run := by
  refine SimP.of_flat (G := G_xWords) (L := L_xWords) tbT_ok (gok_xWords gl hg ) noMixed Tryd.func3 rfl (by rfl) (by kernel_rfl) (loopOk_none (by kernel_rfl)) ?_
  intro args x h
  unfold F_xWords at h
  split at h
  · exact (congrArg Tr.run (xWords_T _)).trans (ite_isW h fun h => by cases h)
  · cases h
end Go.Pv

set_option maxHeartbeats 8000000
set_option maxRecDepth 200000
set_option linter.unusedSimpArgs false
set_option linter.unusedVariables false
namespace Go.Pv
open Go Go.Proofs Go.RowKit

/-! ### awake -/
theorem awake_law : awake_W = some (.bool true) := by
  have h1 : awT.length ≤ 65536 := by decide
  have h2 : ([97, 32, 63] : List UInt8).length ≤ 65536 := by decide
  have a1 := lWords_is_v h1
  have a2 := lWords_r_v h1
  have a3 := lWords_e_v h1
  have a4 := lWords_is_v h2
  have a5 := lWords_n_v h2
  have a6 := lWords_e_v h2
  have w1 : wL awT = awL := by unfold wL; rw [aw_words]
  have w2 : wE awT = 0 := by unfold wE; rw [aw_words]
  have w3 : wN [97, 32, 63] = 2 := by unfold wN; rw [aw_words2]; rfl
  have w4 : wE [97, 32, 63] = 120 := by unfold wE; rw [aw_words2]
  rw [w1] at a2
  rw [w2] at a3
  rw [w3] at a5
  rw [w4] at a6
  have j : jnW (awL.take 3) = [112, 32, 40, 32, 88] := by decide
  have j1 : lJoin_is0 (rOf cW (awL.take 3)) = true := lJoin_is _ (by decide) (by rw [j]; decide)
  have j2 : lJoin_s (rOf cW (awL.take 3)) = [112, 32, 40, 32, 88] := by rw [lJoin_v _ (by decide) (by rw [j]; decide), j]
  have t : lockLL (xSub (rOf cW awL) 0 (nNat 3)) = rOf cW (awL.take 3) := by
    rw [show nNat 3 = 3 from rfl, xSub_rOf, lockLL_rOf]
    rfl
  have l16 : xLen (rOf cW awL) = 16 := by simp only [xLen_eq, rOf_len]; rfl
  have n16 : nXs (rOf cW awL) = 16 := by simp only [nXs_eq, rOf_len]; rfl
  have g14 : okGet [PV.int .i64 0, .str [], .int .i64 0, .int .i64 0, .str [], .int .i64 0] (rOf cW awL) (nNat 14) = true := by rw [okGet_cW]; decide
  have g9 : okGet [PV.int .i64 0, .str [], .int .i64 0, .int .i64 0, .str [], .int .i64 0] (rOf cW awL) (nNat 9) = true := by rw [okGet_cW]; decide
  have x1 : xInt (rOf cW awL) (nNat 14) 0 = 4 := by rw [xInt_cW0]; rfl
  have x2 : xInt (rOf cW awL) (nNat 14) 3 = -3 := by rw [xInt_cW3]; rfl
  have x3 : xInt (rOf cW awL) (nNat 9) 0 = 3 := by rw [xInt_cW0]; rfl
  have oz : okSize (rOf cW awL) 6 = true := okSize_cW _
  unfold awT at a1 a2 a3
  unfold awake_W awake_Tr
  rw [a1, a4, a3, a2, a5, a6, l16, n16, g14, g9, x1, x2, x3, oz, t, j1, j2]
  rfl
@[simp] theorem awake_is : awake_is0 = true := by simp [awake_is0, awake_b, awake_law]
@[simp] theorem awake_v : awake_b = true := by simp [awake_b, awake_law]

/-! ### LexWords -/
theorem xWords_law (s : List UInt8) : xWords_W s = some (.bool true) := by
  have hc := cut_len s
  have hw := wL_len (s.take 3000)
  have h : (s.take 3000).length ≤ 65536 := by omega
  unfold xWords_W xWords_Tr
  have r1 : rSameAll_is0 (rOf cW (wL (s.take 3000))) (rOf cW (wL (s.take 3000))) = true := by
    simp only [rSameAll_is0, rSameAll_b, rSameAll_law (l := wL (s.take 3000)) (by omega)]; simp
  have r2 : rSameAll_b (rOf cW (wL (s.take 3000))) (rOf cW (wL (s.take 3000))) = true := by
    simp only [rSameAll_b, rSameAll_law (l := wL (s.take 3000)) (by omega)]; simp
  rw [lcut_is, lcut_v, lWords_is_v h, rWords_is_v h, lWords_r_v h, rWords_r_v h, lockLL_rOf, r1, r2, lWords_n_v h, rWords_n_v h, lWords_e_v h, rWords_e_v h, awake_is, awake_v]
  simp
def F_LexWords : List PV → Tr PV
  | [.str _] => .ret (.bool true)
  | _ => .fail
theorem sim_LexWords {gl : Gl} (hg : GlLex gl) : SimP Tryd.prog gl 3 fun args => (F_LexWords args).run := by
  refine SimP.imp (sim_xWords gl hg) ?_
  intro args x h
  unfold F_LexWords at h
  split at h
  · rename_i s
    cases h
    have hw := xWords_law s
    simp [F_xWords, xWords_is0, xWords_b, hw]
  · cases h
end Go.Pv

set_option maxHeartbeats 4000000
set_option maxRecDepth 200000
set_option linter.unusedSimpArgs false
set_option linter.unusedVariables false
namespace Go.Pv
open Go Go.Proofs
noncomputable def G_xCovers : GamT := ofL [(9, .pure F_lcut), (10, .pure F_lWords), (13, .pure F_awake), (14, .pure F_rGaps)]
theorem gok_xCovers (gl : Gl) (hg : GlLex gl) : GamOk Tryd.prog gl (gam G_xCovers) := (gamOk_cons (sim_lcut gl) (gamOk_cons (sim_lWords gl hg) (gamOk_cons (sim_awake gl hg) (gamOk_cons (sim_rGaps gl) gamOk_nil))))
noncomputable def c_xCovers1 : Code := loopC Tryd.f5 9
def I_xCovers1 : LI := ⟨96, [0, 3, 6, 7], fun e => match e with | .ret => [2] | .exit 0 => [0, 6] | _ => [], true⟩
noncomputable def LI_xCovers1 : LpsT := fun r fr σ => .fail
noncomputable def xCovers1_V (vs : List PV) (σ : Store) : Option (PExit × List PV × Store) := lval (lstep tbT G_xCovers LI_xCovers1 c_xCovers1 I_xCovers1) vs σ
noncomputable def xCovers1_Tr (s : List UInt8) (r : List (List PV)) (n : Int) (n2 : Int) : Tr LR := Tr.ite (iLt n2 (xLen r)) (Tr.ite (okPos n2) (Tr.ite (okGet [PV.int .i64 0, PV.str [], PV.int .i64 0, PV.int .i64 0, PV.str [], PV.int .i64 0] r (nNat n2)) (Tr.ite (iLt (xInt r (nNat n2) 5) n) (Tr.ret (LR.out .ret [PV.bool false] (Store.mk [] [] []))) (Tr.ite (iLt (sLen s) (xInt r (nNat n2) 5)) (Tr.ret (LR.out .ret [PV.bool false] (Store.mk [] [] []))) (Tr.ite (iEq (sLen (xStr r (nNat n2) 1)) 0) (Tr.ret (LR.out .ret [PV.bool false] (Store.mk [] [] []))) (Tr.ite (iLt (iSub .i64 (sLen s) (xInt r (nNat n2) 5)) (sLen (xStr r (nNat n2) 1))) (Tr.ret (LR.out .ret [PV.bool false] (Store.mk [] [] []))) (Tr.ite (okSub (okPos (xInt r (nNat n2) 5)) (okPos (iAdd .i64 (xInt r (nNat n2) 5) (sLen (xStr r (nNat n2) 1)))) (nNat (xInt r (nNat n2) 5)) (nNat (iAdd .i64 (xInt r (nNat n2) 5) (sLen (xStr r (nNat n2) 1)))) (nLen s)) (Tr.ite (sNe (sSub s (nNat (xInt r (nNat n2) 5)) (nNat (iAdd .i64 (xInt r (nNat n2) 5) (sLen (xStr r (nNat n2) 1))))) (xStr r (nNat n2) 1)) (Tr.ret (LR.out .ret [PV.bool false] (Store.mk [] [] []))) (Tr.ite (okSub (okPos n) (okPos (xInt r (nNat n2) 5)) (nNat n) (nNat (xInt r (nNat n2) 5)) (nLen s)) (Tr.ite (rGaps_is0 (sSub s (nNat n) (nNat (xInt r (nNat n2) 5)))) (Tr.ite (bNot (rGaps_b (sSub s (nNat n) (nNat (xInt r (nNat n2) 5))))) (Tr.ret (LR.out .ret [PV.bool false] (Store.mk [] [] []))) (Tr.ret (LR.next [PV.str s, PV.sl (dropPLL 0 r) .non, PV.int .i64 (iAdd .i64 (xInt r (nNat n2) 5) (sLen (xStr r (nNat n2) 1))), PV.int .i64 (iAdd .i64 n2 1)] (Store.mk [] [] [])))) Tr.fail) Tr.fail)) Tr.fail))))) Tr.fail) Tr.fail) (Tr.ret (LR.out (.exit 0) [PV.str s, PV.int .i64 n] (Store.mk [] [] [])))
theorem xCovers1_T (s : List UInt8) (r : List (List PV)) (n : Int) (n2 : Int) : lstep tbT G_xCovers LI_xCovers1 c_xCovers1 I_xCovers1 [.str s, .sl r .non, .int .i64 n, .int .i64 n2] ⟨[], [], []⟩ = xCovers1_Tr s r n n2 := by kernel_rfl
theorem xCovers1_E (s : List UInt8) (r : List (List PV)) (n : Int) (n2 : Int) : xCovers1_V [.str s, .sl r .non, .int .i64 n, .int .i64 n2] ⟨[], [], []⟩ = lnext xCovers1_V (xCovers1_Tr s r n n2).run := by unfold xCovers1_V; rw [lval_eq, xCovers1_T]
noncomputable def xCovers1_W (s : List UInt8) (r : List (List PV)) (n : Int) (n2 : Int) : Option (PExit × List PV × Store) := xCovers1_V [.str s, .sl r .non, .int .i64 n, .int .i64 n2] ⟨[], [], []⟩
noncomputable def xCovers1_b_0 (s : List UInt8) (r : List (List PV)) (n : Int) (n2 : Int) : Bool := (gBool (gOut (xCovers1_W s r n n2) 0))
noncomputable def xCovers1_is0 (s : List UInt8) (r : List (List PV)) (n : Int) (n2 : Int) : Bool := isW (xCovers1_W s r n n2) (.ret, [.bool (xCovers1_b_0 s r n n2)], ⟨[], [], []⟩)
noncomputable def xCovers1_s_1 (s : List UInt8) (r : List (List PV)) (n : Int) (n2 : Int) : List UInt8 := (gStr (gOut (xCovers1_W s r n n2) 0))
noncomputable def xCovers1_n_1 (s : List UInt8) (r : List (List PV)) (n : Int) (n2 : Int) : Int := (gInt (gOut (xCovers1_W s r n n2) 1))
noncomputable def xCovers1_is1 (s : List UInt8) (r : List (List PV)) (n : Int) (n2 : Int) : Bool := isW (xCovers1_W s r n n2) ((.exit 0), [.str (xCovers1_s_1 s r n n2), .int .i64 (xCovers1_n_1 s r n n2)], ⟨[], [], []⟩)
noncomputable def xCovers1_prop : List PV → Store → Tr (PExit × List PV × Store) | [.str s, .sl r .non, .int .i64 n, .int .i64 n2], ⟨[], [], []⟩ => .ite (xCovers1_is0 s r n n2) (.ret (.ret, [.bool (xCovers1_b_0 s r n n2)], ⟨[], [], []⟩)) (.ite (xCovers1_is1 s r n n2) (.ret ((.exit 0), [.str (xCovers1_s_1 s r n n2), .int .i64 (xCovers1_n_1 s r n n2)], ⟨[], [], []⟩)) (.fail)) | _, _ => .fail
theorem xCovers1_ok : ∀ vs σ r, (xCovers1_prop vs σ).run = some r → xCovers1_V vs σ = some r := by
  intro vs σ r h
  unfold xCovers1_prop at h
  split at h
  · exact ite_isW h fun h => ite_isW h fun h => by cases h
  · cases h
theorem loop_xCovers1 (gl : Gl) (hg : GlLex gl) : ∀ fr σ e fr' σ', (orc I_xCovers1 xCovers1_prop fr σ).run = some (e, fr', σ') → LDoes Tryd.prog gl c_xCovers1 fr σ e fr' σ' := orc_ok tbT_ok (gok_xCovers gl hg ) noMixed (L := LI_xCovers1) (loopOk_none (by kernel_rfl)) (by kernel_rfl) xCovers1_ok
noncomputable def L_xCovers : LpsT := fun r fr σ => bif Nat.beq r 9 then orc I_xCovers1 xCovers1_prop fr σ else .fail
noncomputable def xCovers_Tr (v : List UInt8) : Tr PV := Tr.ite awake_is0 (Tr.ite (bNot awake_b) (Tr.ret (PV.bool false)) (Tr.ite (lcut_is0 v) (Tr.ite (lWords_is0 (lcut_s v)) (Tr.ite (iNe (lWords_n2 (lcut_s v)) 0) (Tr.ret (PV.bool (iEq (xLen (lWords_r (lcut_s v))) 0))) (Tr.ite (xCovers1_is0 (lcut_s v) (lWords_r (lcut_s v)) 0 0) (Tr.ret (PV.bool (xCovers1_b_0 (lcut_s v) (lWords_r (lcut_s v)) 0 0))) (Tr.ite (xCovers1_is1 (lcut_s v) (lWords_r (lcut_s v)) 0 0) (Tr.ite (okSub (okPos (xCovers1_n_1 (lcut_s v) (lWords_r (lcut_s v)) 0 0)) true (nNat (xCovers1_n_1 (lcut_s v) (lWords_r (lcut_s v)) 0 0)) (nLen (xCovers1_s_1 (lcut_s v) (lWords_r (lcut_s v)) 0 0)) (nLen (xCovers1_s_1 (lcut_s v) (lWords_r (lcut_s v)) 0 0))) (Tr.ite (rGaps_is0 (sSub (xCovers1_s_1 (lcut_s v) (lWords_r (lcut_s v)) 0 0) (nNat (xCovers1_n_1 (lcut_s v) (lWords_r (lcut_s v)) 0 0)) (nLen (xCovers1_s_1 (lcut_s v) (lWords_r (lcut_s v)) 0 0)))) (Tr.ret (PV.bool (rGaps_b (sSub (xCovers1_s_1 (lcut_s v) (lWords_r (lcut_s v)) 0 0) (nNat (xCovers1_n_1 (lcut_s v) (lWords_r (lcut_s v)) 0 0)) (nLen (xCovers1_s_1 (lcut_s v) (lWords_r (lcut_s v)) 0 0)))))) Tr.fail) Tr.fail) Tr.fail))) Tr.fail) Tr.fail)) Tr.fail
theorem xCovers_T (v : List UInt8) : (tcall tbT G_xCovers L_xCovers Tryd.f5 [.str v]).flat = xCovers_Tr v := by kernel_rfl
noncomputable def xCovers_W (v : List UInt8) : Option PV := (xCovers_Tr v).run
noncomputable def xCovers_b (v : List UInt8) : Bool := (gBool (gVal (xCovers_W v)))
noncomputable def xCovers_is0 (v : List UInt8) : Bool := isW (xCovers_W v) (.bool (xCovers_b v))
noncomputable def F_xCovers : List PV → Tr PV | [.str v] => .ite (xCovers_is0 v) (.ret (.bool (xCovers_b v))) (.fail) | _ => .fail
theorem sim_xCovers (gl : Gl) (hg : GlLex gl) : SimP Tryd.prog gl 5 fun args => (F_xCovers args).run := by
  refine SimP.of_flat (G := G_xCovers) (L := L_xCovers) tbT_ok (gok_xCovers gl hg ) noMixed Tryd.func5 rfl (by rfl) (by kernel_rfl) (loopOk_all (L := lps L_xCovers) [(9, c_xCovers1)] (by kernel_rfl) (List.forall_mem_cons.2 ⟨fun fr σ e fr' σ' h => loop_xCovers1 gl hg  fr σ e fr' σ' h, (List.forall_mem_nil _)⟩)) ?_
  intro args x h
  unfold F_xCovers at h
  split at h
  · exact (congrArg Tr.run (xCovers_T _)).trans (ite_isW h fun h => by cases h)
  · cases h
noncomputable def G_xBack : GamT := ofL [(9, .pure F_lcut), (10, .pure F_lWords), (13, .pure F_awake), (15, .pure F_lJoin), (16, .pure F_rSame)]
theorem gok_xBack (gl : Gl) (hg : GlLex gl) : GamOk Tryd.prog gl (gam G_xBack) := (gamOk_cons (sim_lcut gl) (gamOk_cons (sim_lWords gl hg) (gamOk_cons (sim_awake gl hg) (gamOk_cons (sim_lJoin gl hg.toGlOk.toGlPow) (gamOk_cons (sim_rSame gl) gamOk_nil)))))
noncomputable def c_xBack1 : Code := loopC Tryd.f6 11
def I_xBack1 : LI := ⟨54, [3, 6, 9], fun e => match e with | .ret => [2] | .exit 0 => [] | _ => [], true⟩
noncomputable def LI_xBack1 : LpsT := fun r fr σ => .fail
noncomputable def xBack1_V (vs : List PV) (σ : Store) : Option (PExit × List PV × Store) := lval (lstep tbT G_xBack LI_xBack1 c_xBack1 I_xBack1) vs σ
noncomputable def xBack1_Tr (l : List (List PV)) (m : List (List PV)) (i : Int) : Tr LR := Tr.ite (iLt i (xLen l)) (Tr.ite (okPos i) (Tr.ite (okGet [PV.int .i64 0, PV.str [], PV.int .i64 0, PV.int .i64 0, PV.str [], PV.int .i64 0] l (nNat i)) (Tr.ite (okPos i) (Tr.ite (okGet [PV.int .i64 0, PV.str [], PV.int .i64 0, PV.int .i64 0, PV.str [], PV.int .i64 0] m (nNat i)) (Tr.ite (rSame_is0 (xInt l (nNat i) 0) (xStr l (nNat i) 1) (xInt l (nNat i) 2) (xInt l (nNat i) 3) (xStr l (nNat i) 4) (xInt l (nNat i) 5) (xInt m (nNat i) 0) (xStr m (nNat i) 1) (xInt m (nNat i) 2) (xInt m (nNat i) 3) (xStr m (nNat i) 4) (xInt m (nNat i) 5)) (Tr.ite (bNot (rSame_b (xInt l (nNat i) 0) (xStr l (nNat i) 1) (xInt l (nNat i) 2) (xInt l (nNat i) 3) (xStr l (nNat i) 4) (xInt l (nNat i) 5) (xInt m (nNat i) 0) (xStr m (nNat i) 1) (xInt m (nNat i) 2) (xInt m (nNat i) 3) (xStr m (nNat i) 4) (xInt m (nNat i) 5))) (Tr.ret (LR.out .ret [PV.bool false] (Store.mk [] [] []))) (Tr.ret (LR.next [PV.sl l .non, PV.sl m .non, PV.int .i64 (iAdd .i64 i 1)] (Store.mk [] [] [])))) Tr.fail) Tr.fail) Tr.fail) Tr.fail) Tr.fail) (Tr.ret (LR.out (.exit 0) [] (Store.mk [] [] [])))
theorem xBack1_T (l : List (List PV)) (m : List (List PV)) (i : Int) : lstep tbT G_xBack LI_xBack1 c_xBack1 I_xBack1 [.sl l .non, .sl m .non, .int .i64 i] ⟨[], [], []⟩ = xBack1_Tr l m i := by kernel_rfl
theorem xBack1_E (l : List (List PV)) (m : List (List PV)) (i : Int) : xBack1_V [.sl l .non, .sl m .non, .int .i64 i] ⟨[], [], []⟩ = lnext xBack1_V (xBack1_Tr l m i).run := by unfold xBack1_V; rw [lval_eq, xBack1_T]
noncomputable def xBack1_W (l : List (List PV)) (m : List (List PV)) (i : Int) : Option (PExit × List PV × Store) := xBack1_V [.sl l .non, .sl m .non, .int .i64 i] ⟨[], [], []⟩
noncomputable def xBack1_b_0 (l : List (List PV)) (m : List (List PV)) (i : Int) : Bool := (gBool (gOut (xBack1_W l m i) 0))
noncomputable def xBack1_is0 (l : List (List PV)) (m : List (List PV)) (i : Int) : Bool := isW (xBack1_W l m i) (.ret, [.bool (xBack1_b_0 l m i)], ⟨[], [], []⟩)
noncomputable def xBack1_is1 (l : List (List PV)) (m : List (List PV)) (i : Int) : Bool := isW (xBack1_W l m i) ((.exit 0), [], ⟨[], [], []⟩)
noncomputable def xBack1_prop : List PV → Store → Tr (PExit × List PV × Store) | [.sl l .non, .sl m .non, .int .i64 i], ⟨[], [], []⟩ => .ite (xBack1_is0 l m i) (.ret (.ret, [.bool (xBack1_b_0 l m i)], ⟨[], [], []⟩)) (.ite (xBack1_is1 l m i) (.ret ((.exit 0), [], ⟨[], [], []⟩)) (.fail)) | _, _ => .fail
theorem xBack1_ok : ∀ vs σ r, (xBack1_prop vs σ).run = some r → xBack1_V vs σ = some r := by
  intro vs σ r h
  unfold xBack1_prop at h
  split at h
  · exact ite_isW h fun h => ite_isW h fun h => by cases h
  · cases h
theorem loop_xBack1 (gl : Gl) (hg : GlLex gl) : ∀ fr σ e fr' σ', (orc I_xBack1 xBack1_prop fr σ).run = some (e, fr', σ') → LDoes Tryd.prog gl c_xBack1 fr σ e fr' σ' := orc_ok tbT_ok (gok_xBack gl hg ) noMixed (L := LI_xBack1) (loopOk_none (by kernel_rfl)) (by kernel_rfl) xBack1_ok
noncomputable def L_xBack : LpsT := fun r fr σ => bif Nat.beq r 11 then orc I_xBack1 xBack1_prop fr σ else .fail
noncomputable def xBack_Tr (s : List UInt8) : Tr PV := Tr.ite awake_is0 (Tr.ite (bNot awake_b) (Tr.ret (PV.bool false)) (Tr.ite (lcut_is0 s) (Tr.ite (lWords_is0 (lcut_s s)) (Tr.ite (iNe (lWords_n2 (lcut_s s)) 0) (Tr.ret (PV.bool true)) (Tr.ite (lJoin_is0 (lockLL (lWords_r (lcut_s s)))) (Tr.ite (lWords_is0 (lJoin_s (lockLL (lWords_r (lcut_s s))))) (Tr.ite (iNe (lWords_n2 (lJoin_s (lockLL (lWords_r (lcut_s s))))) 0) (Tr.ret (PV.bool false)) (Tr.ite (iNe (xLen (lWords_r (lcut_s s))) (xLen (lWords_r (lJoin_s (lockLL (lWords_r (lcut_s s))))))) (Tr.ret (PV.bool false)) (Tr.ite (xBack1_is0 (lWords_r (lcut_s s)) (lWords_r (lJoin_s (lockLL (lWords_r (lcut_s s))))) 0) (Tr.ret (PV.bool (xBack1_b_0 (lWords_r (lcut_s s)) (lWords_r (lJoin_s (lockLL (lWords_r (lcut_s s))))) 0))) (Tr.ite (xBack1_is1 (lWords_r (lcut_s s)) (lWords_r (lJoin_s (lockLL (lWords_r (lcut_s s))))) 0) (Tr.ret (PV.bool true)) Tr.fail)))) Tr.fail) Tr.fail)) Tr.fail) Tr.fail)) Tr.fail
theorem xBack_T (s : List UInt8) : (tcall tbT G_xBack L_xBack Tryd.f6 [.str s]).flat = xBack_Tr s := by kernel_rfl
noncomputable def xBack_W (s : List UInt8) : Option PV := (xBack_Tr s).run
noncomputable def xBack_b (s : List UInt8) : Bool := (gBool (gVal (xBack_W s)))
noncomputable def xBack_is0 (s : List UInt8) : Bool := isW (xBack_W s) (.bool (xBack_b s))
noncomputable def F_xBack : List PV → Tr PV | [.str s] => .ite (xBack_is0 s) (.ret (.bool (xBack_b s))) (.fail) | _ => .fail
theorem sim_xBack (gl : Gl) (hg : GlLex gl) : SimP Tryd.prog gl 6 fun args => (F_xBack args).run := by
  refine SimP.of_flat (G := G_xBack) (L := L_xBack) tbT_ok (gok_xBack gl hg ) noMixed Tryd.func6 rfl (by rfl) (by kernel_rfl) (loopOk_all (L := lps L_xBack) [(11, c_xBack1)] (by kernel_rfl) (List.forall_mem_cons.2 ⟨fun fr σ e fr' σ' h => loop_xBack1 gl hg  fr σ e fr' σ' h, (List.forall_mem_nil _)⟩)) ?_
  intro args x h
  unfold F_xBack at h
  split at h
  · exact (congrArg Tr.run (xBack_T _)).trans (ite_isW h fun h => by cases h)
  · cases h
noncomputable def G_xRows : GamT := ofL [(9, .pure F_lcut), (13, .pure F_awake), (15, .pure F_lJoin), (16, .pure F_rSame), (18, .pure F_lWhere), (19, .pure F_rWhere), (20, .pure F_rJoin), (21, .pure F_lSame)]
theorem gok_xRows (gl : Gl) (hg : GlLex gl) : GamOk Tryd.prog gl (gam G_xRows) := (gamOk_cons (sim_lcut gl) (gamOk_cons (sim_awake gl hg) (gamOk_cons (sim_lJoin gl hg.toGlOk.toGlPow) (gamOk_cons (sim_rSame gl) (gamOk_cons (sim_lWhere gl) (gamOk_cons (sim_rWhere gl) (gamOk_cons (sim_rJoin gl) (gamOk_cons (sim_lSame gl) gamOk_nil))))))))
noncomputable def c_xRows1 : Code := loopC Tryd.f8 4
def I_xRows1 : LI := ⟨96, [0, 1, 2, 8, 9, 11, 12], fun e => match e with | .exit 0 => [1, 2, 8, 9, 11] | _ => [], true⟩
noncomputable def LI_xRows1 : LpsT := fun r fr σ => .fail
noncomputable def xRows1_V (vs : List PV) (σ : Store) : Option (PExit × List PV × Store) := lval (lstep tbT G_xRows LI_xRows1 c_xRows1 I_xRows1) vs σ
noncomputable def xRows1_Tr (r : List (List PV)) (s : List UInt8) (n : Int) (r2 : List (List PV)) (n2 : Int) (n3 : Int) (s2 : List UInt8) (n4 : Int) (n5 : Int) (s3 : List UInt8) (n6 : Int) (n7 : Int) (s4 : List UInt8) (n8 : Int) (n9 : Int) (s5 : List UInt8) (n10 : Int) : Tr LR := Tr.ite (iLt n2 (xLen r)) (Tr.ite (iLt n2 40) (Tr.ite (okPos n2) (Tr.ite (okGet [PV.int .i64 0, PV.str [], PV.int .i64 0, PV.int .i64 0, PV.str [], PV.int .i64 0] r (nNat n2)) (Tr.ite (iLe (sLen (xStr r (nNat n2) 1)) 300) (Tr.ite (okPos n2) (Tr.ite (okGet [PV.int .i64 0, PV.str [], PV.int .i64 0, PV.int .i64 0, PV.str [], PV.int .i64 0] r (nNat n2)) (Tr.ite (okGrow r2 [[PV.int .i64 (xInt r (nNat n2) 0), PV.str (xStr r (nNat n2) 1), PV.int .i64 (xInt r (nNat n2) 2), PV.int .i64 (xInt r (nNat n2) 3), PV.str (xStr r (nNat n2) 4), PV.int .i64 (xInt r (nNat n2) 5)]] 64) (Tr.ite (okNews [[PV.int .i64 (xInt r (nNat n2) 0), PV.str (xStr r (nNat n2) 1), PV.int .i64 (xInt r (nNat n2) 2), PV.int .i64 (xInt r (nNat n2) 3), PV.str (xStr r (nNat n2) 4), PV.int .i64 (xInt r (nNat n2) 5)]] 6) (Tr.ite (okSize r2 6) (Tr.ret (LR.next [PV.sl r .non, PV.str s, PV.int .i64 n, PV.ptr 0 0, PV.ptr 1 0, PV.sl (xApp r2 [[PV.int .i64 (xInt r (nNat n2) 0), PV.str (xStr r (nNat n2) 1), PV.int .i64 (xInt r (nNat n2) 2), PV.int .i64 (xInt r (nNat n2) 3), PV.str (xStr r (nNat n2) 4), PV.int .i64 (xInt r (nNat n2) 5)]]) (.tok 0), PV.int .i64 (iAdd .i64 n2 1)] (Store.mk [[PV.int .i64 n3, PV.str s2, PV.int .i64 n4, PV.int .i64 n5, PV.str s3, PV.int .i64 n6], [PV.int .i64 n7, PV.str s4, PV.int .i64 n8, PV.int .i64 n9, PV.str s5, PV.int .i64 n10]] [(nXs (xApp r2 [[PV.int .i64 (xInt r (nNat n2) 0), PV.str (xStr r (nNat n2) 1), PV.int .i64 (xInt r (nNat n2) 2), PV.int .i64 (xInt r (nNat n2) 3), PV.str (xStr r (nNat n2) 4), PV.int .i64 (xInt r (nNat n2) 5)]]), 6, 37)] [37, 37]))) Tr.fail) Tr.fail) Tr.fail) Tr.fail) Tr.fail) (Tr.ret
 (LR.next [PV.sl r .non, PV.str s, PV.int .i64 n, PV.ptr 0 0, PV.ptr 1 0, PV.sl r2 .full, PV.int .i64 (iAdd .i64 n2 1)] (Store.mk [[PV.int .i64 n3, PV.str s2, PV.int .i64 n4, PV.int .i64 n5, PV.str s3, PV.int .i64 n6], [PV.int .i64 n7, PV.str s4, PV.int .i64 n8, PV.int .i64 n9, PV.str s5, PV.int .i64 n10]] [] [37, 37])))) Tr.fail) Tr.fail) (Tr.ret (LR.out (.exit 0) [PV.str s, PV.int .i64 n, PV.ptr 0 0, PV.ptr 1 0, PV.sl r2 .full] (Store.mk [[PV.int .i64 n3, PV.str s2, PV.int .i64 n4, PV.int .i64 n5, PV.str s3, PV.int .i64 n6], [PV.int .i64 n7, PV.str s4, PV.int .i64 n8, PV.int .i64 n9, PV.str s5, PV.int .i64 n10]] [] [37, 37])))) (Tr.ret (LR.out (.exit 0) [PV.str s, PV.int .i64 n, PV.ptr 0 0, PV.ptr 1 0, PV.sl r2 .full] (Store.mk [[PV.int .i64 n3, PV.str s2, PV.int .i64 n4, PV.int .i64 n5, PV.str s3, PV.int .i64 n6], [PV.int .i64 n7, PV.str s4, PV.int .i64 n8, PV.int .i64 n9, PV.str s5, PV.int .i64 n10]] [] [37, 37])))
theorem xRows1_T (r : List (List PV)) (s : List UInt8) (n : Int) (r2 : List (List PV)) (n2 : Int) (n3 : Int) (s2 : List UInt8) (n4 : Int) (n5 : Int) (s3 : List UInt8) (n6 : Int) (n7 : Int) (s4 : List UInt8) (n8 : Int) (n9 : Int) (s5 : List UInt8) (n10 : Int) : lstep tbT G_xRows LI_xRows1 c_xRows1 I_xRows1 [.sl r .non, .str s, .int .i64 n, .ptr 0 0, .ptr 1 0, .sl r2 .full, .int .i64 n2] ⟨[[.int .i64 n3, .str s2, .int .i64 n4, .int .i64 n5, .str s3, .int .i64 n6], [.int .i64 n7, .str s4, .int .i64 n8, .int .i64 n9, .str s5, .int .i64 n10]], [], [37, 37]⟩ = xRows1_Tr r s n r2 n2 n3 s2 n4 n5 s3 n6 n7 s4 n8 n9 s5 n10 := by kernel_rfl
theorem xRows1_E (r : List (List PV)) (s : List UInt8) (n : Int) (r2 : List (List PV)) (n2 : Int) (n3 : Int) (s2 : List UInt8) (n4 : Int) (n5 : Int) (s3 : List UInt8) (n6 : Int) (n7 : Int) (s4 : List UInt8) (n8 : Int) (n9 : Int) (s5 : List UInt8) (n10 : Int) : xRows1_V [.sl r .non, .str s, .int .i64 n, .ptr 0 0, .ptr 1 0, .sl r2 .full, .int .i64 n2] ⟨[[.int .i64 n3, .str s2, .int .i64 n4, .int .i64 n5, .str s3, .int .i64 n6], [.int .i64 n7, .str s4, .int .i64 n8, .int .i64 n9, .str s5, .int .i64 n10]], [], [37, 37]⟩ = lnext xRows1_V (xRows1_Tr r s n r2 n2 n3 s2 n4 n5 s3 n6 n7 s4 n8 n9 s5 n10).run := by unfold xRows1_V; rw [lval_eq, xRows1_T]
noncomputable def xRows1_Tr1 (r : List (List PV)) (s : List UInt8) (n : Int) (r2 : List (List PV)) (n2 : Int) (n3 : Int) (s2 : List UInt8) (n4 : Int) (n5 : Int) (s3 : List UInt8) (n6 : Int) (n7 : Int) (s4 : List UInt8) (n8 : Int) (n9 : Int) (s5 : List UInt8) (n10 : Int) (k : Nat) : Tr LR := Tr.ite (iLt n2 (xLen r)) (Tr.ite (iLt n2 40) (Tr.ite (okPos n2) (Tr.ite (okGet [PV.int .i64 0, PV.str [], PV.int .i64 0, PV.int .i64 0, PV.str [], PV.int .i64 0] r (nNat n2)) (Tr.ite (iLe (sLen (xStr r (nNat n2) 1)) 300) (Tr.ite (okPos n2) (Tr.ite (okGet [PV.int .i64 0, PV.str [], PV.int .i64 0, PV.int .i64 0, PV.str [], PV.int .i64 0] r (nNat n2)) (Tr.ite (okGrow r2 [[PV.int .i64 (xInt r (nNat n2) 0), PV.str (xStr r (nNat n2) 1), PV.int .i64 (xInt r (nNat n2) 2), PV.int .i64 (xInt r (nNat n2) 3), PV.str (xStr r (nNat n2) 4), PV.int .i64 (xInt r (nNat n2) 5)]] 64) (Tr.ite (okNews [[PV.int .i64 (xInt r (nNat n2) 0), PV.str (xStr r (nNat n2) 1), PV.int .i64 (xInt r (nNat n2) 2), PV.int .i64 (xInt r (nNat n2) 3), PV.str (xStr r (nNat n2) 4), PV.int .i64 (xInt r (nNat n2) 5)]] 6) (Tr.ite (okSize r2 6) (Tr.ite (nEq k (nXs r2)) (Tr.ret (LR.next [PV.sl r .non, PV.str s, PV.int .i64 n, PV.ptr 0 0, PV.ptr 1 0, PV.sl (xApp r2 [[PV.int .i64 (xInt r (nNat n2) 0), PV.str (xStr r (nNat n2) 1), PV.int .i64 (xInt r (nNat n2) 2), PV.int .i64 (xInt r (nNat n2) 3), PV.str (xStr r (nNat n2) 4), PV.int .i64 (xInt r (nNat n2) 5)]]) (.tok 0), PV.int .i64 (iAdd .i64 n2 1)] (Store.mk [[PV.int .i64 n3, PV.str s2, PV.int .i64 n4, PV.int .i64 n5, PV.str s3, PV.int .i64 n6], [PV.int .i64 n7, PV.str s4, PV.int .i64 n8, PV.int .i64 n9, PV.str s5, PV.int .i64 n10]] [(nXs (xApp r2 [[PV.int .i64 (xInt r (nNat n2) 0), PV.str (xStr r (nNat n2) 1), PV.int .i64 (xInt r (nNat n2) 2), PV.int .i64 (xInt r (nNat n2) 3), PV.str (xStr r (nNat n2) 4), PV.int .i64 (xInt r (nNat n2) 5)]]), 6, 37)] [37, 37]))) Tr.fail) Tr.fail) Tr.fail) Tr.fail) Tr.fail) Tr.fail) (Tr.ret
 (LR.next [PV.sl r .non, PV.str s, PV.int .i64 n, PV.ptr 0 0, PV.ptr 1 0, PV.sl r2 (.tok 0), PV.int .i64 (iAdd .i64 n2 1)] (Store.mk [[PV.int .i64 n3, PV.str s2, PV.int .i64 n4, PV.int .i64 n5, PV.str s3, PV.int .i64 n6], [PV.int .i64 n7, PV.str s4, PV.int .i64 n8, PV.int .i64 n9, PV.str s5, PV.int .i64 n10]] [(k, 6, 37)] [37, 37])))) Tr.fail) Tr.fail) (Tr.ret (LR.out (.exit 0) [PV.str s, PV.int .i64 n, PV.ptr 0 0, PV.ptr 1 0, PV.sl r2 (.tok 0)] (Store.mk [[PV.int .i64 n3, PV.str s2, PV.int .i64 n4, PV.int .i64 n5, PV.str s3, PV.int .i64 n6], [PV.int .i64 n7, PV.str s4, PV.int .i64 n8, PV.int .i64 n9, PV.str s5, PV.int .i64 n10]] [(k, 6, 37)] [37, 37])))) (Tr.ret (LR.out (.exit 0) [PV.str s, PV.int .i64 n, PV.ptr 0 0, PV.ptr 1 0, PV.sl r2 (.tok 0)] (Store.mk [[PV.int .i64 n3, PV.str s2, PV.int .i64 n4, PV.int .i64 n5, PV.str s3, PV.int .i64 n6], [PV.int .i64 n7, PV.str s4, PV.int .i64 n8, PV.int .i64 n9, PV.str s5, PV.int .i64 n10]] [(k, 6, 37)] [37, 37])))
theorem xRows1_T1 (r : List (List PV)) (s : List UInt8) (n : Int) (r2 : List (List PV)) (n2 : Int) (n3 : Int) (s2 : List UInt8) (n4 : Int) (n5 : Int) (s3 : List UInt8) (n6 : Int) (n7 : Int) (s4 : List UInt8) (n8 : Int) (n9 : Int) (s5 : List UInt8) (n10 : Int) (k : Nat) : lstep tbT G_xRows LI_xRows1 c_xRows1 I_xRows1 [.sl r .non, .str s, .int .i64 n, .ptr 0 0, .ptr 1 0, .sl r2 (.tok 0), .int .i64 n2] ⟨[[.int .i64 n3, .str s2, .int .i64 n4, .int .i64 n5, .str s3, .int .i64 n6], [.int .i64 n7, .str s4, .int .i64 n8, .int .i64 n9, .str s5, .int .i64 n10]], [(k, 6, 37)], [37, 37]⟩ = xRows1_Tr1 r s n r2 n2 n3 s2 n4 n5 s3 n6 n7 s4 n8 n9 s5 n10 k := by kernel_rfl
theorem xRows1_E1 (r : List (List PV)) (s : List UInt8) (n : Int) (r2 : List (List PV)) (n2 : Int) (n3 : Int) (s2 : List UInt8) (n4 : Int) (n5 : Int) (s3 : List UInt8) (n6 : Int) (n7 : Int) (s4 : List UInt8) (n8 : Int) (n9 : Int) (s5 : List UInt8) (n10 : Int) (k : Nat) : xRows1_V [.sl r .non, .str s, .int .i64 n, .ptr 0 0, .ptr 1 0, .sl r2 (.tok 0), .int .i64 n2] ⟨[[.int .i64 n3, .str s2, .int .i64 n4, .int .i64 n5, .str s3, .int .i64 n6], [.int .i64 n7, .str s4, .int .i64 n8, .int .i64 n9, .str s5, .int .i64 n10]], [(k, 6, 37)], [37, 37]⟩ = lnext xRows1_V (xRows1_Tr1 r s n r2 n2 n3 s2 n4 n5 s3 n6 n7 s4 n8 n9 s5 n10 k).run := by unfold xRows1_V; rw [lval_eq, xRows1_T1]
noncomputable def xRows1_W (r : List (List PV)) (s : List UInt8) (n : Int) (r2 : List (List PV)) (n2 : Int) (n3 : Int) (s2 : List UInt8) (n4 : Int) (n5 : Int) (s3 : List UInt8) (n6 : Int) (n7 : Int) (s4 : List UInt8) (n8 : Int) (n9 : Int) (s5 : List UInt8) (n10 : Int) : Option (PExit × List PV × Store) := xRows1_V [.sl r .non, .str s, .int .i64 n, .ptr 0 0, .ptr 1 0, .sl r2 .full, .int .i64 n2] ⟨[[.int .i64 n3, .str s2, .int .i64 n4, .int .i64 n5, .str s3, .int .i64 n6], [.int .i64 n7, .str s4, .int .i64 n8, .int .i64 n9, .str s5, .int .i64 n10]], [], [37, 37]⟩
noncomputable def xRows1_s_0 (r : List (List PV)) (s : List UInt8) (n : Int) (r2 : List (List PV)) (n2 : Int) (n3 : Int) (s2 : List UInt8) (n4 : Int) (n5 : Int) (s3 : List UInt8) (n6 : Int) (n7 : Int) (s4 : List UInt8) (n8 : Int) (n9 : Int) (s5 : List UInt8) (n10 : Int) : List UInt8 := (gStr (gOut (xRows1_W r s n r2 n2 n3 s2 n4 n5 s3 n6 n7 s4 n8 n9 s5 n10) 0))
noncomputable def xRows1_n_0 (r : List (List PV)) (s : List UInt8) (n : Int) (r2 : List (List PV)) (n2 : Int) (n3 : Int) (s2 : List UInt8) (n4 : Int) (n5 : Int) (s3 : List UInt8) (n6 : Int) (n7 : Int) (s4 : List UInt8) (n8 : Int) (n9 : Int) (s5 : List UInt8) (n10 : Int) : Int := (gInt (gOut (xRows1_W r s n r2 n2 n3 s2 n4 n5 s3 n6 n7 s4 n8 n9 s5 n10) 1))
noncomputable def xRows1_r_0 (r : List (List PV)) (s : List UInt8) (n : Int) (r2 : List (List PV)) (n2 : Int) (n3 : Int) (s2 : List UInt8) (n4 : Int) (n5 : Int) (s3 : List UInt8) (n6 : Int) (n7 : Int) (s4 : List UInt8) (n8 : Int) (n9 : Int) (s5 : List UInt8) (n10 : Int) : List (List PV) := (gRow (gOut (xRows1_W r s n r2 n2 n3 s2 n4 n5 s3 n6 n7 s4 n8 n9 s5 n10) 4))
noncomputable def xRows1_n2_0 (r : List (List PV)) (s : List UInt8) (n : Int) (r2 : List (List PV)) (n2 : Int) (n3 : Int) (s2 : List UInt8) (n4 : Int) (n5 : Int) (s3 : List UInt8) (n6 : Int) (n7 : Int) (s4 : List UInt8) (n8 : Int) (n9 : Int) (s5 : List UInt8) (n10 : Int) : Int := (gInt (gAt (gObj (xRows1_W r s n r2 n2 n3 s2 n4 n5 s3 n6 n7 s4 n8 n9 s5 n10) 0) 0))
noncomputable def xRows1_s2_0 (r : List (List PV)) (s : List UInt8) (n : Int) (r2 : List (List PV)) (n2 : Int) (n3 : Int) (s2 : List UInt8) (n4 : Int) (n5 : Int) (s3 : List UInt8) (n6 : Int) (n7 : Int) (s4 : List UInt8) (n8 : Int) (n9 : Int) (s5 : List UInt8) (n10 : Int) : List UInt8 := (gStr (gAt (gObj (xRows1_W r s n r2 n2 n3 s2 n4 n5 s3 n6 n7 s4 n8 n9 s5 n10) 0) 1))
noncomputable def xRows1_n3_0 (r : List (List PV)) (s : List UInt8) (n : Int) (r2 : List (List PV)) (n2 : Int) (n3 : Int) (s2 : List UInt8) (n4 : Int) (n5 : Int) (s3 : List UInt8) (n6 : Int) (n7 : Int) (s4 : List UInt8) (n8 : Int) (n9 : Int) (s5 : List UInt8) (n10 : Int) : Int := (gInt (gAt (gObj (xRows1_W r s n r2 n2 n3 s2 n4 n5 s3 n6 n7 s4 n8 n9 s5 n10) 0) 2))
noncomputable def xRows1_n4_0 (r : List (List PV)) (s : List UInt8) (n : Int) (r2 : List (List PV)) (n2 : Int) (n3 : Int) (s2 : List UInt8) (n4 : Int) (n5 : Int) (s3 : List UInt8) (n6 : Int) (n7 : Int) (s4 : List UInt8) (n8 : Int) (n9 : Int) (s5 : List UInt8) (n10 : Int) : Int := (gInt (gAt (gObj (xRows1_W r s n r2 n2 n3 s2 n4 n5 s3 n6 n7 s4 n8 n9 s5 n10) 0) 3))
noncomputable def xRows1_s3_0 (r : List (List PV)) (s : List UInt8) (n : Int) (r2 : List (List PV)) (n2 : Int) (n3 : Int) (s2 : List UInt8) (n4 : Int) (n5 : Int) (s3 : List UInt8) (n6 : Int) (n7 : Int) (s4 : List UInt8) (n8 : Int) (n9 : Int) (s5 : List UInt8) (n10 : Int) : List UInt8 := (gStr (gAt (gObj (xRows1_W r s n r2 n2 n3 s2 n4 n5 s3 n6 n7 s4 n8 n9 s5 n10) 0) 4))
noncomputable def xRows1_n5_0 (r : List (List PV)) (s : List UInt8) (n : Int) (r2 : List (List PV)) (n2 : Int) (n3 : Int) (s2 : List UInt8) (n4 : Int) (n5 : Int) (s3 : List UInt8) (n6 : Int) (n7 : Int) (s4 : List UInt8) (n8 : Int) (n9 : Int) (s5 : List UInt8) (n10 : Int) : Int := (gInt (gAt (gObj (xRows1_W r s n r2 n2 n3 s2 n4 n5 s3 n6 n7 s4 n8 n9 s5 n10) 0) 5))
noncomputable def xRows1_n6_0 (r : List (List PV)) (s : List UInt8) (n : Int) (r2 : List (List PV)) (n2 : Int) (n3 : Int) (s2 : List UInt8) (n4 : Int) (n5 : Int) (s3 : List UInt8) (n6 : Int) (n7 : Int) (s4 : List UInt8) (n8 : Int) (n9 : Int) (s5 : List UInt8) (n10 : Int) : Int := (gInt (gAt (gObj (xRows1_W r s n r2 n2 n3 s2 n4 n5 s3 n6 n7 s4 n8 n9 s5 n10) 1) 0))
noncomputable def xRows1_s4_0 (r : List (List PV)) (s : List UInt8) (n : Int) (r2 : List (List PV)) (n2 : Int) (n3 : Int) (s2 : List UInt8) (n4 : Int) (n5 : Int) (s3 : List UInt8) (n6 : Int) (n7 : Int) (s4 : List UInt8) (n8 : Int) (n9 : Int) (s5 : List UInt8) (n10 : Int) : List UInt8 := (gStr (gAt (gObj (xRows1_W r s n r2 n2 n3 s2 n4 n5 s3 n6 n7 s4 n8 n9 s5 n10) 1) 1))
noncomputable def xRows1_n7_0 (r : List (List PV)) (s : List UInt8) (n : Int) (r2 : List (List PV)) (n2 : Int) (n3 : Int) (s2 : List UInt8) (n4 : Int) (n5 : Int) (s3 : List UInt8) (n6 : Int) (n7 : Int) (s4 : List UInt8) (n8 : Int) (n9 : Int) (s5 : List UInt8) (n10 : Int) : Int := (gInt (gAt (gObj (xRows1_W r s n r2 n2 n3 s2 n4 n5 s3 n6 n7 s4 n8 n9 s5 n10) 1) 2))
noncomputable def xRows1_n8_0 (r : List (List PV)) (s : List UInt8) (n : Int) (r2 : List (List PV)) (n2 : Int) (n3 : Int) (s2 : List UInt8) (n4 : Int) (n5 : Int) (s3 : List UInt8) (n6 : Int) (n7 : Int) (s4 : List UInt8) (n8 : Int) (n9 : Int) (s5 : List UInt8) (n10 : Int) : Int := (gInt (gAt (gObj (xRows1_W r s n r2 n2 n3 s2 n4 n5 s3 n6 n7 s4 n8 n9 s5 n10) 1) 3))
noncomputable def xRows1_s5_0 (r : List (List PV)) (s : List UInt8) (n : Int) (r2 : List (List PV)) (n2 : Int) (n3 : Int) (s2 : List UInt8) (n4 : Int) (n5 : Int) (s3 : List UInt8) (n6 : Int) (n7 : Int) (s4 : List UInt8) (n8 : Int) (n9 : Int) (s5 : List UInt8) (n10 : Int) : List UInt8 := (gStr (gAt (gObj (xRows1_W r s n r2 n2 n3 s2 n4 n5 s3 n6 n7 s4 n8 n9 s5 n10) 1) 4))
noncomputable def xRows1_n9_0 (r : List (List PV)) (s : List UInt8) (n : Int) (r2 : List (List PV)) (n2 : Int) (n3 : Int) (s2 : List UInt8) (n4 : Int) (n5 : Int) (s3 : List UInt8) (n6 : Int) (n7 : Int) (s4 : List UInt8) (n8 : Int) (n9 : Int) (s5 : List UInt8) (n10 : Int) : Int := (gInt (gAt (gObj (xRows1_W r s n r2 n2 n3 s2 n4 n5 s3 n6 n7 s4 n8 n9 s5 n10) 1) 5))
noncomputable def xRows1_is0 (r : List (List PV)) (s : List UInt8) (n : Int) (r2 : List (List PV)) (n2 : Int) (n3 : Int) (s2 : List UInt8) (n4 : Int) (n5 : Int) (s3 : List UInt8) (n6 : Int) (n7 : Int) (s4 : List UInt8) (n8 : Int) (n9 : Int) (s5 : List UInt8) (n10 : Int) : Bool := isW (xRows1_W r s n r2 n2 n3 s2 n4 n5 s3 n6 n7 s4 n8 n9 s5 n10) ((.exit 0), [.str (xRows1_s_0 r s n r2 n2 n3 s2 n4 n5 s3 n6 n7 s4 n8 n9 s5 n10), .int .i64 (xRows1_n_0 r s n r2 n2 n3 s2 n4 n5 s3 n6 n7 s4 n8 n9 s5 n10), .ptr 0 0, .ptr 1 0, .sl (xRows1_r_0 r s n r2 n2 n3 s2 n4 n5 s3 n6 n7 s4 n8 n9 s5 n10) .full], ⟨[[.int .i64 (xRows1_n2_0 r s n r2 n2 n3 s2 n4 n5 s3 n6 n7 s4 n8 n9 s5 n10), .str (xRows1_s2_0 r s n r2 n2 n3 s2 n4 n5 s3 n6 n7 s4 n8 n9 s5 n10), .int .i64 (xRows1_n3_0 r s n r2 n2 n3 s2 n4 n5 s3 n6 n7 s4 n8 n9 s5 n10), .int .i64 (xRows1_n4_0 r s n r2 n2 n3 s2 n4 n5 s3 n6 n7 s4 n8 n9 s5 n10), .str (xRows1_s3_0 r s n r2 n2 n3 s2 n4 n5 s3 n6 n7 s4 n8 n9 s5 n10), .int .i64 (xRows1_n5_0 r s n r2 n2 n3 s2 n4 n5 s3 n6 n7 s4 n8 n9 s5 n10)], [.int .i64 (xRows1_n6_0 r s n r2 n2 n3 s2 n4 n5 s3 n6 n7 s4 n8 n9 s5 n10), .str (xRows1_s4_0 r s n r2 n2 n3 s2 n4 n5 s3 n6 n7 s4 n8 n9 s5 n10), .int .i64 (xRows1_n7_0 r s n r2 n2 n3 s2 n4 n5 s3 n6 n7 s4 n8 n9 s5 n10), .int .i64 (xRows1_n8_0 r s n r2 n2 n3 s2 n4 n5 s3 n6 n7 s4 n8 n9 s5 n10), .str (xRows1_s5_0 r s n r2 n2 n3 s2 n4 n5 s3 n6 n7 s4 n8 n9 s5 n10), .int .i64 (xRows1_n9_0 r s n r2 n2 n3 s2 n4 n5 s3 n6 n7 s4 n8 n9 s5 n10)]], [], [37, 37]⟩)
noncomputable def xRows1_s_1 (r : List (List PV)) (s : List UInt8) (n : Int) (r2 : List (List PV)) (n2 : Int) (n3 : Int) (s2 : List UInt8) (n4 : Int) (n5 : Int) (s3 : List UInt8) (n6 : Int) (n7 : Int) (s4 : List UInt8) (n8 : Int) (n9 : Int) (s5 : List UInt8) (n10 : Int) : List UInt8 := (gStr (gOut (xRows1_W r s n r2 n2 n3 s2 n4 n5 s3 n6 n7 s4 n8 n9 s5 n10) 0))
noncomputable def xRows1_n_1 (r : List (List PV)) (s : List UInt8) (n : Int) (r2 : List (List PV)) (n2 : Int) (n3 : Int) (s2 : List UInt8) (n4 : Int) (n5 : Int) (s3 : List UInt8) (n6 : Int) (n7 : Int) (s4 : List UInt8) (n8 : Int) (n9 : Int) (s5 : List UInt8) (n10 : Int) : Int := (gInt (gOut (xRows1_W r s n r2 n2 n3 s2 n4 n5 s3 n6 n7 s4 n8 n9 s5 n10) 1))
noncomputable def xRows1_r_1 (r : List (List PV)) (s : List UInt8) (n : Int) (r2 : List (List PV)) (n2 : Int) (n3 : Int) (s2 : List UInt8) (n4 : Int) (n5 : Int) (s3 : List UInt8) (n6 : Int) (n7 : Int) (s4 : List UInt8) (n8 : Int) (n9 : Int) (s5 : List UInt8) (n10 : Int) : List (List PV) := (gRow (gOut (xRows1_W r s n r2 n2 n3 s2 n4 n5 s3 n6 n7 s4 n8 n9 s5 n10) 4))
noncomputable def xRows1_n2_1 (r : List (List PV)) (s : List UInt8) (n : Int) (r2 : List (List PV)) (n2 : Int) (n3 : Int) (s2 : List UInt8) (n4 : Int) (n5 : Int) (s3 : List UInt8) (n6 : Int) (n7 : Int) (s4 : List UInt8) (n8 : Int) (n9 : Int) (s5 : List UInt8) (n10 : Int) : Int := (gInt (gAt (gObj (xRows1_W r s n r2 n2 n3 s2 n4 n5 s3 n6 n7 s4 n8 n9 s5 n10) 0) 0))
noncomputable def xRows1_s2_1 (r : List (List PV)) (s : List UInt8) (n : Int) (r2 : List (List PV)) (n2 : Int) (n3 : Int) (s2 : List UInt8) (n4 : Int) (n5 : Int) (s3 : List UInt8) (n6 : Int) (n7 : Int) (s4 : List UInt8) (n8 : Int) (n9 : Int) (s5 : List UInt8) (n10 : Int) : List UInt8 := (gStr (gAt (gObj (xRows1_W r s n r2 n2 n3 s2 n4 n5 s3 n6 n7 s4 n8 n9 s5 n10) 0) 1))
noncomputable def xRows1_n3_1 (r : List (List PV)) (s : List UInt8) (n : Int) (r2 : List (List PV)) (n2 : Int) (n3 : Int) (s2 : List UInt8) (n4 : Int) (n5 : Int) (s3 : List UInt8) (n6 : Int) (n7 : Int) (s4 : List UInt8) (n8 : Int) (n9 : Int) (s5 : List UInt8) (n10 : Int) : Int := (gInt (gAt (gObj (xRows1_W r s n r2 n2 n3 s2 n4 n5 s3 n6 n7 s4 n8 n9 s5 n10) 0) 2))
noncomputable def xRows1_n4_1 (r : List (List PV)) (s : List UInt8) (n : Int) (r2 : List (List PV)) (n2 : Int) (n3 : Int) (s2 : List UInt8) (n4 : Int) (n5 : Int) (s3 : List UInt8) (n6 : Int) (n7 : Int) (s4 : List UInt8) (n8 : Int) (n9 : Int) (s5 : List UInt8) (n10 : Int) : Int := (gInt (gAt (gObj (xRows1_W r s n r2 n2 n3 s2 n4 n5 s3 n6 n7 s4 n8 n9 s5 n10) 0) 3))
noncomputable def xRows1_s3_1 (r : List (List PV)) (s : List UInt8) (n : Int) (r2 : List (List PV)) (n2 : Int) (n3 : Int) (s2 : List UInt8) (n4 : Int) (n5 : Int) (s3 : List UInt8) (n6 : Int) (n7 : Int) (s4 : List UInt8) (n8 : Int) (n9 : Int) (s5 : List UInt8) (n10 : Int) : List UInt8 := (gStr (gAt (gObj (xRows1_W r s n r2 n2 n3 s2 n4 n5 s3 n6 n7 s4 n8 n9 s5 n10) 0) 4))
noncomputable def xRows1_n5_1 (r : List (List PV)) (s : List UInt8) (n : Int) (r2 : List (List PV)) (n2 : Int) (n3 : Int) (s2 : List UInt8) (n4 : Int) (n5 : Int) (s3 : List UInt8) (n6 : Int) (n7 : Int) (s4 : List UInt8) (n8 : Int) (n9 : Int) (s5 : List UInt8) (n10 : Int) : Int := (gInt (gAt (gObj (xRows1_W r s n r2 n2 n3 s2 n4 n5 s3 n6 n7 s4 n8 n9 s5 n10) 0) 5))
noncomputable def xRows1_n6_1 (r : List (List PV)) (s : List UInt8) (n : Int) (r2 : List (List PV)) (n2 : Int) (n3 : Int) (s2 : List UInt8) (n4 : Int) (n5 : Int) (s3 : List UInt8) (n6 : Int) (n7 : Int) (s4 : List UInt8) (n8 : Int) (n9 : Int) (s5 : List UInt8) (n10 : Int) : Int := (gInt (gAt (gObj (xRows1_W r s n r2 n2 n3 s2 n4 n5 s3 n6 n7 s4 n8 n9 s5 n10) 1) 0))
noncomputable def xRows1_s4_1 (r : List (List PV)) (s : List UInt8) (n : Int) (r2 : List (List PV)) (n2 : Int) (n3 : Int) (s2 : List UInt8) (n4 : Int) (n5 : Int) (s3 : List UInt8) (n6 : Int) (n7 : Int) (s4 : List UInt8) (n8 : Int) (n9 : Int) (s5 : List UInt8) (n10 : Int) : List UInt8 := (gStr (gAt (gObj (xRows1_W r s n r2 n2 n3 s2 n4 n5 s3 n6 n7 s4 n8 n9 s5 n10) 1) 1))
noncomputable def xRows1_n7_1 (r : List (List PV)) (s : List UInt8) (n : Int) (r2 : List (List PV)) (n2 : Int) (n3 : Int) (s2 : List UInt8) (n4 : Int) (n5 : Int) (s3 : List UInt8) (n6 : Int) (n7 : Int) (s4 : List UInt8) (n8 : Int) (n9 : Int) (s5 : List UInt8) (n10 : Int) : Int := (gInt (gAt (gObj (xRows1_W r s n r2 n2 n3 s2 n4 n5 s3 n6 n7 s4 n8 n9 s5 n10) 1) 2))
noncomputable def xRows1_n8_1 (r : List (List PV)) (s : List UInt8) (n : Int) (r2 : List (List PV)) (n2 : Int) (n3 : Int) (s2 : List UInt8) (n4 : Int) (n5 : Int) (s3 : List UInt8) (n6 : Int) (n7 : Int) (s4 : List UInt8) (n8 : Int) (n9 : Int) (s5 : List UInt8) (n10 : Int) : Int := (gInt (gAt (gObj (xRows1_W r s n r2 n2 n3 s2 n4 n5 s3 n6 n7 s4 n8 n9 s5 n10) 1) 3))
noncomputable def xRows1_s5_1 (r : List (List PV)) (s : List UInt8) (n : Int) (r2 : List (List PV)) (n2 : Int) (n3 : Int) (s2 : List UInt8) (n4 : Int) (n5 : Int) (s3 : List UInt8) (n6 : Int) (n7 : Int) (s4 : List UInt8) (n8 : Int) (n9 : Int) (s5 : List UInt8) (n10 : Int) : List UInt8 := (gStr (gAt (gObj (xRows1_W r s n r2 n2 n3 s2 n4 n5 s3 n6 n7 s4 n8 n9 s5 n10) 1) 4))
noncomputable def xRows1_n9_1 (r : List (List PV)) (s : List UInt8) (n : Int) (r2 : List (List PV)) (n2 : Int) (n3 : Int) (s2 : List UInt8) (n4 : Int) (n5 : Int) (s3 : List UInt8) (n6 : Int) (n7 : Int) (s4 : List UInt8) (n8 : Int) (n9 : Int) (s5 : List UInt8) (n10 : Int) : Int := (gInt (gAt (gObj (xRows1_W r s n r2 n2 n3 s2 n4 n5 s3 n6 n7 s4 n8 n9 s5 n10) 1) 5))
noncomputable def xRows1_k_1 (r : List (List PV)) (s : List UInt8) (n : Int) (r2 : List (List PV)) (n2 : Int) (n3 : Int) (s2 : List UInt8) (n4 : Int) (n5 : Int) (s3 : List UInt8) (n6 : Int) (n7 : Int) (s4 : List UInt8) (n8 : Int) (n9 : Int) (s5 : List UInt8) (n10 : Int) : Nat := (gTok (xRows1_W r s n r2 n2 n3 s2 n4 n5 s3 n6 n7 s4 n8 n9 s5 n10) 0)
noncomputable def xRows1_is1 (r : List (List PV)) (s : List UInt8) (n : Int) (r2 : List (List PV)) (n2 : Int) (n3 : Int) (s2 : List UInt8) (n4 : Int) (n5 : Int) (s3 : List UInt8) (n6 : Int) (n7 : Int) (s4 : List UInt8) (n8 : Int) (n9 : Int) (s5 : List UInt8) (n10 : Int) : Bool := isW (xRows1_W r s n r2 n2 n3 s2 n4 n5 s3 n6 n7 s4 n8 n9 s5 n10) ((.exit 0), [.str (xRows1_s_1 r s n r2 n2 n3 s2 n4 n5 s3 n6 n7 s4 n8 n9 s5 n10), .int .i64 (xRows1_n_1 r s n r2 n2 n3 s2 n4 n5 s3 n6 n7 s4 n8 n9 s5 n10), .ptr 0 0, .ptr 1 0, .sl (xRows1_r_1 r s n r2 n2 n3 s2 n4 n5 s3 n6 n7 s4 n8 n9 s5 n10) (.tok 0)], ⟨[[.int .i64 (xRows1_n2_1 r s n r2 n2 n3 s2 n4 n5 s3 n6 n7 s4 n8 n9 s5 n10), .str (xRows1_s2_1 r s n r2 n2 n3 s2 n4 n5 s3 n6 n7 s4 n8 n9 s5 n10), .int .i64 (xRows1_n3_1 r s n r2 n2 n3 s2 n4 n5 s3 n6 n7 s4 n8 n9 s5 n10), .int .i64 (xRows1_n4_1 r s n r2 n2 n3 s2 n4 n5 s3 n6 n7 s4 n8 n9 s5 n10), .str (xRows1_s3_1 r s n r2 n2 n3 s2 n4 n5 s3 n6 n7 s4 n8 n9 s5 n10), .int .i64 (xRows1_n5_1 r s n r2 n2 n3 s2 n4 n5 s3 n6 n7 s4 n8 n9 s5 n10)], [.int .i64 (xRows1_n6_1 r s n r2 n2 n3 s2 n4 n5 s3 n6 n7 s4 n8 n9 s5 n10), .str (xRows1_s4_1 r s n r2 n2 n3 s2 n4 n5 s3 n6 n7 s4 n8 n9 s5 n10), .int .i64 (xRows1_n7_1 r s n r2 n2 n3 s2 n4 n5 s3 n6 n7 s4 n8 n9 s5 n10), .int .i64 (xRows1_n8_1 r s n r2 n2 n3 s2 n4 n5 s3 n6 n7 s4 n8 n9 s5 n10), .str (xRows1_s5_1 r s n r2 n2 n3 s2 n4 n5 s3 n6 n7 s4 n8 n9 s5 n10), .int .i64 (xRows1_n9_1 r s n r2 n2 n3 s2 n4 n5 s3 n6 n7 s4 n8 n9 s5 n10)]], [((xRows1_k_1 r s n r2 n2 n3 s2 n4 n5 s3 n6 n7 s4 n8 n9 s5 n10), 6, 37)], [37, 37]⟩)
noncomputable def xRows1_prop : List PV → Store → Tr (PExit × List PV × Store) | [.sl r .non, .str s, .int .i64 n, .ptr 0 0, .ptr 1 0, .sl r2 .full, .int .i64 n2], ⟨[[.int .i64 n3, .str s2, .int .i64 n4, .int .i64 n5, .str s3, .int .i64 n6], [.int .i64 n7, .str s4, .int .i64 n8, .int .i64 n9, .str s5, .int .i64 n10]], [], [37, 37]⟩ => .ite (xRows1_is0 r s n r2 n2 n3 s2 n4 n5 s3 n6 n7 s4 n8 n9 s5 n10) (.ret ((.exit 0), [.str (xRows1_s_0 r s n r2 n2 n3 s2 n4 n5 s3 n6 n7 s4 n8 n9 s5 n10), .int .i64 (xRows1_n_0 r s n r2 n2 n3 s2 n4 n5 s3 n6 n7 s4 n8 n9 s5 n10), .ptr 0 0, .ptr 1 0, .sl (xRows1_r_0 r s n r2 n2 n3 s2 n4 n5 s3 n6 n7 s4 n8 n9 s5 n10) .full], ⟨[[.int .i64 (xRows1_n2_0 r s n r2 n2 n3 s2 n4 n5 s3 n6 n7 s4 n8 n9 s5 n10), .str (xRows1_s2_0 r s n r2 n2 n3 s2 n4 n5 s3 n6 n7 s4 n8 n9 s5 n10), .int .i64 (xRows1_n3_0 r s n r2 n2 n3 s2 n4 n5 s3 n6 n7 s4 n8 n9 s5 n10), .int .i64 (xRows1_n4_0 r s n r2 n2 n3 s2 n4 n5 s3 n6 n7 s4 n8 n9 s5 n10), .str (xRows1_s3_0 r s n r2 n2 n3 s2 n4 n5 s3 n6 n7 s4 n8 n9 s5 n10), .int .i64 (xRows1_n5_0 r s n r2 n2 n3 s2 n4 n5 s3 n6 n7 s4 n8 n9 s5 n10)], [.int .i64 (xRows1_n6_0 r s n r2 n2 n3 s2 n4 n5 s3 n6 n7 s4 n8 n9 s5 n10), .str (xRows1_s4_0 r s n r2 n2 n3 s2 n4 n5 s3 n6 n7 s4 n8 n9 s5 n10), .int .i64 (xRows1_n7_0 r s n r2 n2 n3 s2 n4 n5 s3 n6 n7 s4 n8 n9 s5 n10), .int .i64 (xRows1_n8_0 r s n r2 n2 n3 s2 n4 n5 s3 n6 n7 s4 n8 n9 s5 n10), .str (xRows1_s5_0 r s n r2 n2 n3 s2 n4 n5 s3 n6 n7 s4 n8 n9 s5 n10), .int .i64 (xRows1_n9_0 r s n r2 n2 n3 s2 n4 n5 s3 n6 n7 s4 n8 n9 s5 n10)]], [], [37, 37]⟩)) (.ite (xRows1_is1 r s n r2 n2 n3 s2 n4 n5 s3 n6 n7 s4 n8 n9 s5 n10) (.ret ((.exit 0), [.str (xRows1_s_1 r s n r2 n2 n3 s2 n4 n5 s3 n6 n7 s4 n8 n9 s5 n10), .int .i64 (xRows1_n_1 r s n r2 n2 n3 s2 n4 n5 s3 n6 n7 s4 n8 n9 s5 n10), .ptr 0 0, .ptr 1 0, .sl (xRows1_r_1 r s n r2 n2 n3 s2 n4 n5 s3 n6 n7 s4 n8 n9 s5 n10) (.tok 0)], ⟨[[.int .i64 (xRows1_n2_1 r s n r2 n2 n3 s2 n4 n5 s3 n6 n7 s4 n8 n9 s5 n10), .str (xRows1_s2_1 r s n r2 n2 n3 s2 n4 n5 s3 n6 n7 s4 n8 n9 s5 n10), .int .i64 (xRows1_n3_1 r s n r2 n2 n3 s2 n4 n5 s3 n6 n7 s4 n8 n9 s5 n10), .int .i64 (xRows1_n4_1 r s n r2 n2 n3 s2 n4 n5 s3 n6 n7 s4 n8 n9 s5 n10), .str (xRows1_s3_1 r s n r2 n2 n3 s2 n4 n5 s3 n6 n7 s4 n8 n9 s5 n10), .int .i64 (xRows1_n5_1 r s n r2 n2 n3 s2 n4 n5 s3 n6 n7 s4 n8 n9 s5 n10)], [.int .i64 (xRows1_n6_1 r s n r2 n2 n3 s2 n4 n5 s3 n6 n7 s4 n8 n9 s5 n10), .str (xRows1_s4_1 r s n r2 n2 n3 s2 n4 n5 s3 n6 n7 s4 n8 n9 s5 n10), .int .i64 (xRows1_n7_1 r s n r2 n2 n3 s2 n4 n5 s3 n6 n7 s4 n8 n9 s5 n10), .int .i64 (xRows1_n8_1 r s n r2 n2 n3 s2 n4 n5 s3 n6 n7 s4 n8 n9 s5 n10), .str (xRows1_s5_1 r s n r2 n2 n3 s2 n4 n5 s3 n6 n7 s4 n8 n9 s5 n10), .int .i64 (xRows1_n9_1 r s n r2 n2 n3 s2 n4 n5 s3 n6 n7 s4 n8 n9 s5 n10)]], [((xRows1_k_1 r s n r2 n2 n3 s2 n4 n5 s3 n6 n7 s4 n8 n9 s5 n10), 6, 37)], [37, 37]⟩)) (.fail)) | _, _ => .fail
theorem xRows1_ok : ∀ vs σ r, (xRows1_prop vs σ).run = some r → xRows1_V vs σ = some r := by
  intro vs σ r h
  unfold xRows1_prop at h
  split at h
  · exact ite_isW h fun h => ite_isW h fun h => by cases h
  · cases h
theorem loop_xRows1 (gl : Gl) (hg : GlLex gl) : ∀ fr σ e fr' σ', (orc I_xRows1 xRows1_prop fr σ).run = some (e, fr', σ') → LDoes Tryd.prog gl c_xRows1 fr σ e fr' σ' := orc_ok tbT_ok (gok_xRows gl hg ) noMixed (L := LI_xRows1) (loopOk_none (by kernel_rfl)) (by kernel_rfl) xRows1_ok
noncomputable def L_xRows : LpsT := fun r fr σ => bif Nat.beq r 4 then orc I_xRows1 xRows1_prop fr σ else .fail
noncomputable def xRows_Tr (v : List (List PV)) (v2 : List UInt8) (v3 : Int) (v4 : Int) (v5 : List UInt8) (v6 : Int) (v7 : Int) (v8 : List UInt8) (v9 : Int) (v10 : Int) (v11 : List UInt8) (v12 : Int) (v13 : Int) (v14 : List UInt8) (v15 : Int) : Tr PV := Tr.ite (lcut_is0 v2) (Tr.ite (xRows1_is0 v (lcut_s v2) v3 [] 0 v4 v5 v6 v7 v8 v9 v10 v11 v12 v13 v14 v15) (Tr.ite (lWhere_is0 (xRows1_s_0 v (lcut_s v2) v3 [] 0 v4 v5 v6 v7 v8 v9 v10 v11 v12 v13 v14 v15) (xRows1_n_0 v (lcut_s v2) v3 [] 0 v4 v5 v6 v7 v8 v9 v10 v11 v12 v13 v14 v15)) (Tr.ite (rWhere_is0 (xRows1_s_0 v (lcut_s v2) v3 [] 0 v4 v5 v6 v7 v8 v9 v10 v11 v12 v13 v14 v15) (xRows1_n_0 v (lcut_s v2) v3 [] 0 v4 v5 v6 v7 v8 v9 v10 v11 v12 v13 v14 v15)) (Tr.ite (lJoin_is0 (lockLL (xRows1_r_0 v (lcut_s v2) v3 [] 0 v4 v5 v6 v7 v8 v9 v10 v11 v12 v13 v14 v15))) (Tr.ite (rJoin_is0 (lockLL (xRows1_r_0 v (lcut_s v2) v3 [] 0 v4 v5 v6 v7 v8 v9 v10 v11 v12 v13 v14 v15))) (Tr.ite (sEq (lJoin_s (lockLL (xRows1_r_0 v (lcut_s v2) v3 [] 0 v4 v5 v6 v7 v8 v9 v10 v11 v12 v13 v14 v15))) (rJoin_s (lockLL (xRows1_r_0 v (lcut_s v2) v3 [] 0 v4 v5 v6 v7 v8 v9 v10 v11 v12 v13 v14 v15)))) (Tr.ite (iEq (lWhere_n (xRows1_s_0 v (lcut_s v2) v3 [] 0 v4 v5 v6 v7 v8 v9 v10 v11 v12 v13 v14 v15) (xRows1_n_0 v (lcut_s v2) v3 [] 0 v4 v5 v6 v7 v8 v9 v10 v11 v12 v13 v14 v15)) (rWhere_n (xRows1_s_0 v (lcut_s v2) v3 [] 0 v4 v5 v6 v7 v8 v9 v10 v11 v12 v13 v14 v15) (xRows1_n_0 v (lcut_s v2) v3 [] 0 v4 v5 v6 v7 v8 v9 v10 v11 v12 v13 v14 v15))) (Tr.ite (iEq (lWhere_n2 (xRows1_s_0 v (lcut_s v2) v3 [] 0 v4 v5 v6 v7 v8 v9 v10 v11 v12 v13 v14 v15) (xRows1_n_0 v (lcut_s v2) v3 [] 0 v4 v5 v6 v7 v8 v9 v10 v11 v12 v13 v14 v15)) (rWhere_n2 (xRows1_s_0 v (lcut_s v2) v3 [] 0 v4 v5 v6 v7 v8 v9 v10 v11 v12 v13 v14 v15) (xRows1_n_0 v (lcut_s v2) v3 [] 0 v4 v5 v6 v7 v8 v9 v10 v11 v12 v13 v14 v15))) (Tr.ite (iEq (lWhere_n3 (xRows1_s_0 v (lcut_s v2) v3 [] 0 v4 v5 v6 v7 v8 v9 v10 v11 v12 v13 v14 v15) (xRows1_n_0 v (lcut_s v2) v3 [] 0 v4 v5 v6 v7 v8 v9 v10 v11 v12 v13 v14 v15))
 (rWhere_n3 (xRows1_s_0 v (lcut_s v2) v3 [] 0 v4 v5 v6 v7 v8 v9 v10 v11 v12 v13 v14 v15) (xRows1_n_0 v (lcut_s v2) v3 [] 0 v4 v5 v6 v7 v8 v9 v10 v11 v12 v13 v14 v15))) (Tr.ite (lSame_is0 (xRows1_n2_0 v (lcut_s v2) v3 [] 0 v4 v5 v6 v7 v8 v9 v10 v11 v12 v13 v14 v15) (xRows1_s2_0 v (lcut_s v2) v3 [] 0 v4 v5 v6 v7 v8 v9 v10 v11 v12 v13 v14 v15) (xRows1_n3_0 v (lcut_s v2) v3 [] 0 v4 v5 v6 v7 v8 v9 v10 v11 v12 v13 v14 v15) (xRows1_n4_0 v (lcut_s v2) v3 [] 0 v4 v5 v6 v7 v8 v9 v10 v11 v12 v13 v14 v15) (xRows1_s3_0 v (lcut_s v2) v3 [] 0 v4 v5 v6 v7 v8 v9 v10 v11 v12 v13 v14 v15) (xRows1_n5_0 v (lcut_s v2) v3 [] 0 v4 v5 v6 v7 v8 v9 v10 v11 v12 v13 v14 v15) (xRows1_n6_0 v (lcut_s v2) v3 [] 0 v4 v5 v6 v7 v8 v9 v10 v11 v12 v13 v14 v15) (xRows1_s4_0 v (lcut_s v2) v3 [] 0 v4 v5 v6 v7 v8 v9 v10 v11 v12 v13 v14 v15) (xRows1_n7_0 v (lcut_s v2) v3 [] 0 v4 v5 v6 v7 v8 v9 v10 v11 v12 v13 v14 v15) (xRows1_n8_0 v (lcut_s v2) v3 [] 0 v4 v5 v6 v7 v8 v9 v10 v11 v12 v13 v14 v15) (xRows1_s5_0 v (lcut_s v2) v3 [] 0 v4 v5 v6 v7 v8 v9 v10 v11 v12 v13 v14 v15) (xRows1_n9_0 v (lcut_s v2) v3 [] 0 v4 v5 v6 v7 v8 v9 v10 v11 v12 v13 v14 v15)) (Tr.ite (rSame_is0 (xRows1_n2_0 v (lcut_s v2) v3 [] 0 v4 v5 v6 v7 v8 v9 v10 v11 v12 v13 v14 v15) (xRows1_s2_0 v (lcut_s v2) v3 [] 0 v4 v5 v6 v7 v8 v9 v10 v11 v12 v13 v14 v15) (xRows1_n3_0 v (lcut_s v2) v3 [] 0 v4 v5 v6 v7 v8 v9 v10 v11 v12 v13 v14 v15) (xRows1_n4_0 v (lcut_s v2) v3 [] 0 v4 v5 v6 v7 v8 v9 v10 v11 v12 v13 v14 v15) (xRows1_s3_0 v (lcut_s v2) v3 [] 0 v4 v5 v6 v7 v8 v9 v10 v11 v12 v13 v14 v15) (xRows1_n5_0 v (lcut_s v2) v3 [] 0 v4 v5 v6 v7 v8 v9 v10 v11 v12 v13 v14 v15) (xRows1_n6_0 v (lcut_s v2) v3 [] 0 v4 v5 v6 v7 v8 v9 v10 v11 v12 v13 v14 v15) (xRows1_s4_0 v (lcut_s v2) v3 [] 0 v4 v5 v6 v7 v8 v9 v10 v11 v12 v13 v14 v15) (xRows1_n7_0 v (lcut_s v2) v3 [] 0 v4 v5 v6 v7 v8 v9 v10 v11 v12 v13 v14 v15) (xRows1_n8_0 v (lcut_s v2) v3 [] 0 v4 v5 v6 v7 v8 v9 v10 v11 v12 v13 v14 v15) (xRows1_s5_0 v (lcut_s v2) v3 [] 0 v4 v5 v6 v7 v8 v9 v10 v11 v12 v13 v14 v15)
 (xRows1_n9_0 v (lcut_s v2) v3 [] 0 v4 v5 v6 v7 v8 v9 v10 v11 v12 v13 v14 v15)) (Tr.ite (bEq (lSame_b (xRows1_n2_0 v (lcut_s v2) v3 [] 0 v4 v5 v6 v7 v8 v9 v10 v11 v12 v13 v14 v15) (xRows1_s2_0 v (lcut_s v2) v3 [] 0 v4 v5 v6 v7 v8 v9 v10 v11 v12 v13 v14 v15) (xRows1_n3_0 v (lcut_s v2) v3 [] 0 v4 v5 v6 v7 v8 v9 v10 v11 v12 v13 v14 v15) (xRows1_n4_0 v (lcut_s v2) v3 [] 0 v4 v5 v6 v7 v8 v9 v10 v11 v12 v13 v14 v15) (xRows1_s3_0 v (lcut_s v2) v3 [] 0 v4 v5 v6 v7 v8 v9 v10 v11 v12 v13 v14 v15) (xRows1_n5_0 v (lcut_s v2) v3 [] 0 v4 v5 v6 v7 v8 v9 v10 v11 v12 v13 v14 v15) (xRows1_n6_0 v (lcut_s v2) v3 [] 0 v4 v5 v6 v7 v8 v9 v10 v11 v12 v13 v14 v15) (xRows1_s4_0 v (lcut_s v2) v3 [] 0 v4 v5 v6 v7 v8 v9 v10 v11 v12 v13 v14 v15) (xRows1_n7_0 v (lcut_s v2) v3 [] 0 v4 v5 v6 v7 v8 v9 v10 v11 v12 v13 v14 v15) (xRows1_n8_0 v (lcut_s v2) v3 [] 0 v4 v5 v6 v7 v8 v9 v10 v11 v12 v13 v14 v15) (xRows1_s5_0 v (lcut_s v2) v3 [] 0 v4 v5 v6 v7 v8 v9 v10 v11 v12 v13 v14 v15) (xRows1_n9_0 v (lcut_s v2) v3 [] 0 v4 v5 v6 v7 v8 v9 v10 v11 v12 v13 v14 v15)) (rSame_b (xRows1_n2_0 v (lcut_s v2) v3 [] 0 v4 v5 v6 v7 v8 v9 v10 v11 v12 v13 v14 v15) (xRows1_s2_0 v (lcut_s v2) v3 [] 0 v4 v5 v6 v7 v8 v9 v10 v11 v12 v13 v14 v15) (xRows1_n3_0 v (lcut_s v2) v3 [] 0 v4 v5 v6 v7 v8 v9 v10 v11 v12 v13 v14 v15) (xRows1_n4_0 v (lcut_s v2) v3 [] 0 v4 v5 v6 v7 v8 v9 v10 v11 v12 v13 v14 v15) (xRows1_s3_0 v (lcut_s v2) v3 [] 0 v4 v5 v6 v7 v8 v9 v10 v11 v12 v13 v14 v15) (xRows1_n5_0 v (lcut_s v2) v3 [] 0 v4 v5 v6 v7 v8 v9 v10 v11 v12 v13 v14 v15) (xRows1_n6_0 v (lcut_s v2) v3 [] 0 v4 v5 v6 v7 v8 v9 v10 v11 v12 v13 v14 v15) (xRows1_s4_0 v (lcut_s v2) v3 [] 0 v4 v5 v6 v7 v8 v9 v10 v11 v12 v13 v14 v15) (xRows1_n7_0 v (lcut_s v2) v3 [] 0 v4 v5 v6 v7 v8 v9 v10 v11 v12 v13 v14 v15) (xRows1_n8_0 v (lcut_s v2) v3 [] 0 v4 v5 v6 v7 v8 v9 v10 v11 v12 v13 v14 v15) (xRows1_s5_0 v (lcut_s v2) v3 [] 0 v4 v5 v6 v7 v8 v9 v10 v11 v12 v13 v14 v15) (xRows1_n9_0 v (lcut_s v2) v3 [] 0 v4 v5 v6 v7 v8 v9 v10 v11 v12 v13 v14 v15))) (Tr.ite
 (lSame_is0 (xRows1_n2_0 v (lcut_s v2) v3 [] 0 v4 v5 v6 v7 v8 v9 v10 v11 v12 v13 v14 v15) (xRows1_s2_0 v (lcut_s v2) v3 [] 0 v4 v5 v6 v7 v8 v9 v10 v11 v12 v13 v14 v15) (xRows1_n3_0 v (lcut_s v2) v3 [] 0 v4 v5 v6 v7 v8 v9 v10 v11 v12 v13 v14 v15) (xRows1_n4_0 v (lcut_s v2) v3 [] 0 v4 v5 v6 v7 v8 v9 v10 v11 v12 v13 v14 v15) (xRows1_s3_0 v (lcut_s v2) v3 [] 0 v4 v5 v6 v7 v8 v9 v10 v11 v12 v13 v14 v15) (xRows1_n5_0 v (lcut_s v2) v3 [] 0 v4 v5 v6 v7 v8 v9 v10 v11 v12 v13 v14 v15) (xRows1_n2_0 v (lcut_s v2) v3 [] 0 v4 v5 v6 v7 v8 v9 v10 v11 v12 v13 v14 v15) (xRows1_s2_0 v (lcut_s v2) v3 [] 0 v4 v5 v6 v7 v8 v9 v10 v11 v12 v13 v14 v15) (xRows1_n3_0 v (lcut_s v2) v3 [] 0 v4 v5 v6 v7 v8 v9 v10 v11 v12 v13 v14 v15) (xRows1_n4_0 v (lcut_s v2) v3 [] 0 v4 v5 v6 v7 v8 v9 v10 v11 v12 v13 v14 v15) (xRows1_s3_0 v (lcut_s v2) v3 [] 0 v4 v5 v6 v7 v8 v9 v10 v11 v12 v13 v14 v15) (xRows1_n5_0 v (lcut_s v2) v3 [] 0 v4 v5 v6 v7 v8 v9 v10 v11 v12 v13 v14 v15)) (Tr.ite (lSame_b (xRows1_n2_0 v (lcut_s v2) v3 [] 0 v4 v5 v6 v7 v8 v9 v10 v11 v12 v13 v14 v15) (xRows1_s2_0 v (lcut_s v2) v3 [] 0 v4 v5 v6 v7 v8 v9 v10 v11 v12 v13 v14 v15) (xRows1_n3_0 v (lcut_s v2) v3 [] 0 v4 v5 v6 v7 v8 v9 v10 v11 v12 v13 v14 v15) (xRows1_n4_0 v (lcut_s v2) v3 [] 0 v4 v5 v6 v7 v8 v9 v10 v11 v12 v13 v14 v15) (xRows1_s3_0 v (lcut_s v2) v3 [] 0 v4 v5 v6 v7 v8 v9 v10 v11 v12 v13 v14 v15) (xRows1_n5_0 v (lcut_s v2) v3 [] 0 v4 v5 v6 v7 v8 v9 v10 v11 v12 v13 v14 v15) (xRows1_n2_0 v (lcut_s v2) v3 [] 0 v4 v5 v6 v7 v8 v9 v10 v11 v12 v13 v14 v15) (xRows1_s2_0 v (lcut_s v2) v3 [] 0 v4 v5 v6 v7 v8 v9 v10 v11 v12 v13 v14 v15) (xRows1_n3_0 v (lcut_s v2) v3 [] 0 v4 v5 v6 v7 v8 v9 v10 v11 v12 v13 v14 v15) (xRows1_n4_0 v (lcut_s v2) v3 [] 0 v4 v5 v6 v7 v8 v9 v10 v11 v12 v13 v14 v15) (xRows1_s3_0 v (lcut_s v2) v3 [] 0 v4 v5 v6 v7 v8 v9 v10 v11 v12 v13 v14 v15) (xRows1_n5_0 v (lcut_s v2) v3 [] 0 v4 v5 v6 v7 v8 v9 v10 v11 v12 v13 v14 v15)) (Tr.ite awake_is0 (Tr.ret (PV.bool awake_b)) Tr.fail) (Tr.ret (PV.bool false))) Tr.fail)
 (Tr.ret (PV.bool false))) Tr.fail) Tr.fail) (Tr.ret (PV.bool false))) (Tr.ret (PV.bool false))) (Tr.ret (PV.bool false))) (Tr.ret (PV.bool false))) Tr.fail) Tr.fail) Tr.fail) Tr.fail) (Tr.ite (xRows1_is1 v (lcut_s v2) v3 [] 0 v4 v5 v6 v7 v8 v9 v10 v11 v12 v13 v14 v15) (Tr.ite (lWhere_is0 (xRows1_s_1 v (lcut_s v2) v3 [] 0 v4 v5 v6 v7 v8 v9 v10 v11 v12 v13 v14 v15) (xRows1_n_1 v (lcut_s v2) v3 [] 0 v4 v5 v6 v7 v8 v9 v10 v11 v12 v13 v14 v15)) (Tr.ite (rWhere_is0 (xRows1_s_1 v (lcut_s v2) v3 [] 0 v4 v5 v6 v7 v8 v9 v10 v11 v12 v13 v14 v15) (xRows1_n_1 v (lcut_s v2) v3 [] 0 v4 v5 v6 v7 v8 v9 v10 v11 v12 v13 v14 v15)) (Tr.ite (lJoin_is0 (lockLL (xRows1_r_1 v (lcut_s v2) v3 [] 0 v4 v5 v6 v7 v8 v9 v10 v11 v12 v13 v14 v15))) (Tr.ite (rJoin_is0 (lockLL (xRows1_r_1 v (lcut_s v2) v3 [] 0 v4 v5 v6 v7 v8 v9 v10 v11 v12 v13 v14 v15))) (Tr.ite (sEq (lJoin_s (lockLL (xRows1_r_1 v (lcut_s v2) v3 [] 0 v4 v5 v6 v7 v8 v9 v10 v11 v12 v13 v14 v15))) (rJoin_s (lockLL (xRows1_r_1 v (lcut_s v2) v3 [] 0 v4 v5 v6 v7 v8 v9 v10 v11 v12 v13 v14 v15)))) (Tr.ite (iEq (lWhere_n (xRows1_s_1 v (lcut_s v2) v3 [] 0 v4 v5 v6 v7 v8 v9 v10 v11 v12 v13 v14 v15) (xRows1_n_1 v (lcut_s v2) v3 [] 0 v4 v5 v6 v7 v8 v9 v10 v11 v12 v13 v14 v15)) (rWhere_n (xRows1_s_1 v (lcut_s v2) v3 [] 0 v4 v5 v6 v7 v8 v9 v10 v11 v12 v13 v14 v15) (xRows1_n_1 v (lcut_s v2) v3 [] 0 v4 v5 v6 v7 v8 v9 v10 v11 v12 v13 v14 v15))) (Tr.ite (iEq (lWhere_n2 (xRows1_s_1 v (lcut_s v2) v3 [] 0 v4 v5 v6 v7 v8 v9 v10 v11 v12 v13 v14 v15) (xRows1_n_1 v (lcut_s v2) v3 [] 0 v4 v5 v6 v7 v8 v9 v10 v11 v12 v13 v14 v15)) (rWhere_n2 (xRows1_s_1 v (lcut_s v2) v3 [] 0 v4 v5 v6 v7 v8 v9 v10 v11 v12 v13 v14 v15) (xRows1_n_1 v (lcut_s v2) v3 [] 0 v4 v5 v6 v7 v8 v9 v10 v11 v12 v13 v14 v15))) (Tr.ite (iEq (lWhere_n3 (xRows1_s_1 v (lcut_s v2) v3 [] 0 v4 v5 v6 v7 v8 v9 v10 v11 v12 v13 v14 v15) (xRows1_n_1 v (lcut_s v2) v3 [] 0 v4 v5 v6 v7 v8 v9 v10 v11 v12 v13 v14 v15)) (rWhere_n3 (xRows1_s_1 v (lcut_s v2) v3 [] 0 v4 v5 v6 v7 v8 v9 v10 v11 v12 v13 v14 v15)
 (xRows1_n_1 v (lcut_s v2) v3 [] 0 v4 v5 v6 v7 v8 v9 v10 v11 v12 v13 v14 v15))) (Tr.ite (lSame_is0 (xRows1_n2_1 v (lcut_s v2) v3 [] 0 v4 v5 v6 v7 v8 v9 v10 v11 v12 v13 v14 v15) (xRows1_s2_1 v (lcut_s v2) v3 [] 0 v4 v5 v6 v7 v8 v9 v10 v11 v12 v13 v14 v15) (xRows1_n3_1 v (lcut_s v2) v3 [] 0 v4 v5 v6 v7 v8 v9 v10 v11 v12 v13 v14 v15) (xRows1_n4_1 v (lcut_s v2) v3 [] 0 v4 v5 v6 v7 v8 v9 v10 v11 v12 v13 v14 v15) (xRows1_s3_1 v (lcut_s v2) v3 [] 0 v4 v5 v6 v7 v8 v9 v10 v11 v12 v13 v14 v15) (xRows1_n5_1 v (lcut_s v2) v3 [] 0 v4 v5 v6 v7 v8 v9 v10 v11 v12 v13 v14 v15) (xRows1_n6_1 v (lcut_s v2) v3 [] 0 v4 v5 v6 v7 v8 v9 v10 v11 v12 v13 v14 v15) (xRows1_s4_1 v (lcut_s v2) v3 [] 0 v4 v5 v6 v7 v8 v9 v10 v11 v12 v13 v14 v15) (xRows1_n7_1 v (lcut_s v2) v3 [] 0 v4 v5 v6 v7 v8 v9 v10 v11 v12 v13 v14 v15) (xRows1_n8_1 v (lcut_s v2) v3 [] 0 v4 v5 v6 v7 v8 v9 v10 v11 v12 v13 v14 v15) (xRows1_s5_1 v (lcut_s v2) v3 [] 0 v4 v5 v6 v7 v8 v9 v10 v11 v12 v13 v14 v15) (xRows1_n9_1 v (lcut_s v2) v3 [] 0 v4 v5 v6 v7 v8 v9 v10 v11 v12 v13 v14 v15)) (Tr.ite (rSame_is0 (xRows1_n2_1 v (lcut_s v2) v3 [] 0 v4 v5 v6 v7 v8 v9 v10 v11 v12 v13 v14 v15) (xRows1_s2_1 v (lcut_s v2) v3 [] 0 v4 v5 v6 v7 v8 v9 v10 v11 v12 v13 v14 v15) (xRows1_n3_1 v (lcut_s v2) v3 [] 0 v4 v5 v6 v7 v8 v9 v10 v11 v12 v13 v14 v15) (xRows1_n4_1 v (lcut_s v2) v3 [] 0 v4 v5 v6 v7 v8 v9 v10 v11 v12 v13 v14 v15) (xRows1_s3_1 v (lcut_s v2) v3 [] 0 v4 v5 v6 v7 v8 v9 v10 v11 v12 v13 v14 v15) (xRows1_n5_1 v (lcut_s v2) v3 [] 0 v4 v5 v6 v7 v8 v9 v10 v11 v12 v13 v14 v15) (xRows1_n6_1 v (lcut_s v2) v3 [] 0 v4 v5 v6 v7 v8 v9 v10 v11 v12 v13 v14 v15) (xRows1_s4_1 v (lcut_s v2) v3 [] 0 v4 v5 v6 v7 v8 v9 v10 v11 v12 v13 v14 v15) (xRows1_n7_1 v (lcut_s v2) v3 [] 0 v4 v5 v6 v7 v8 v9 v10 v11 v12 v13 v14 v15) (xRows1_n8_1 v (lcut_s v2) v3 [] 0 v4 v5 v6 v7 v8 v9 v10 v11 v12 v13 v14 v15) (xRows1_s5_1 v (lcut_s v2) v3 [] 0 v4 v5 v6 v7 v8 v9 v10 v11 v12 v13 v14 v15) (xRows1_n9_1 v (lcut_s v2) v3 [] 0 v4 v5 v6 v7 v8 v9 v10 v11 v12 v13 v14 v15)) (Tr.ite
 (bEq (lSame_b (xRows1_n2_1 v (lcut_s v2) v3 [] 0 v4 v5 v6 v7 v8 v9 v10 v11 v12 v13 v14 v15) (xRows1_s2_1 v (lcut_s v2) v3 [] 0 v4 v5 v6 v7 v8 v9 v10 v11 v12 v13 v14 v15) (xRows1_n3_1 v (lcut_s v2) v3 [] 0 v4 v5 v6 v7 v8 v9 v10 v11 v12 v13 v14 v15) (xRows1_n4_1 v (lcut_s v2) v3 [] 0 v4 v5 v6 v7 v8 v9 v10 v11 v12 v13 v14 v15) (xRows1_s3_1 v (lcut_s v2) v3 [] 0 v4 v5 v6 v7 v8 v9 v10 v11 v12 v13 v14 v15) (xRows1_n5_1 v (lcut_s v2) v3 [] 0 v4 v5 v6 v7 v8 v9 v10 v11 v12 v13 v14 v15) (xRows1_n6_1 v (lcut_s v2) v3 [] 0 v4 v5 v6 v7 v8 v9 v10 v11 v12 v13 v14 v15) (xRows1_s4_1 v (lcut_s v2) v3 [] 0 v4 v5 v6 v7 v8 v9 v10 v11 v12 v13 v14 v15) (xRows1_n7_1 v (lcut_s v2) v3 [] 0 v4 v5 v6 v7 v8 v9 v10 v11 v12 v13 v14 v15) (xRows1_n8_1 v (lcut_s v2) v3 [] 0 v4 v5 v6 v7 v8 v9 v10 v11 v12 v13 v14 v15) (xRows1_s5_1 v (lcut_s v2) v3 [] 0 v4 v5 v6 v7 v8 v9 v10 v11 v12 v13 v14 v15) (xRows1_n9_1 v (lcut_s v2) v3 [] 0 v4 v5 v6 v7 v8 v9 v10 v11 v12 v13 v14 v15)) (rSame_b (xRows1_n2_1 v (lcut_s v2) v3 [] 0 v4 v5 v6 v7 v8 v9 v10 v11 v12 v13 v14 v15) (xRows1_s2_1 v (lcut_s v2) v3 [] 0 v4 v5 v6 v7 v8 v9 v10 v11 v12 v13 v14 v15) (xRows1_n3_1 v (lcut_s v2) v3 [] 0 v4 v5 v6 v7 v8 v9 v10 v11 v12 v13 v14 v15) (xRows1_n4_1 v (lcut_s v2) v3 [] 0 v4 v5 v6 v7 v8 v9 v10 v11 v12 v13 v14 v15) (xRows1_s3_1 v (lcut_s v2) v3 [] 0 v4 v5 v6 v7 v8 v9 v10 v11 v12 v13 v14 v15) (xRows1_n5_1 v (lcut_s v2) v3 [] 0 v4 v5 v6 v7 v8 v9 v10 v11 v12 v13 v14 v15) (xRows1_n6_1 v (lcut_s v2) v3 [] 0 v4 v5 v6 v7 v8 v9 v10 v11 v12 v13 v14 v15) (xRows1_s4_1 v (lcut_s v2) v3 [] 0 v4 v5 v6 v7 v8 v9 v10 v11 v12 v13 v14 v15) (xRows1_n7_1 v (lcut_s v2) v3 [] 0 v4 v5 v6 v7 v8 v9 v10 v11 v12 v13 v14 v15) (xRows1_n8_1 v (lcut_s v2) v3 [] 0 v4 v5 v6 v7 v8 v9 v10 v11 v12 v13 v14 v15) (xRows1_s5_1 v (lcut_s v2) v3 [] 0 v4 v5 v6 v7 v8 v9 v10 v11 v12 v13 v14 v15) (xRows1_n9_1 v (lcut_s v2) v3 [] 0 v4 v5 v6 v7 v8 v9 v10 v11 v12 v13 v14 v15))) (Tr.ite (lSame_is0 (xRows1_n2_1 v (lcut_s v2) v3 [] 0 v4 v5 v6 v7 v8 v9 v10 v11 v12 v13 v14 v15)
 (xRows1_s2_1 v (lcut_s v2) v3 [] 0 v4 v5 v6 v7 v8 v9 v10 v11 v12 v13 v14 v15) (xRows1_n3_1 v (lcut_s v2) v3 [] 0 v4 v5 v6 v7 v8 v9 v10 v11 v12 v13 v14 v15) (xRows1_n4_1 v (lcut_s v2) v3 [] 0 v4 v5 v6 v7 v8 v9 v10 v11 v12 v13 v14 v15) (xRows1_s3_1 v (lcut_s v2) v3 [] 0 v4 v5 v6 v7 v8 v9 v10 v11 v12 v13 v14 v15) (xRows1_n5_1 v (lcut_s v2) v3 [] 0 v4 v5 v6 v7 v8 v9 v10 v11 v12 v13 v14 v15) (xRows1_n2_1 v (lcut_s v2) v3 [] 0 v4 v5 v6 v7 v8 v9 v10 v11 v12 v13 v14 v15) (xRows1_s2_1 v (lcut_s v2) v3 [] 0 v4 v5 v6 v7 v8 v9 v10 v11 v12 v13 v14 v15) (xRows1_n3_1 v (lcut_s v2) v3 [] 0 v4 v5 v6 v7 v8 v9 v10 v11 v12 v13 v14 v15) (xRows1_n4_1 v (lcut_s v2) v3 [] 0 v4 v5 v6 v7 v8 v9 v10 v11 v12 v13 v14 v15) (xRows1_s3_1 v (lcut_s v2) v3 [] 0 v4 v5 v6 v7 v8 v9 v10 v11 v12 v13 v14 v15) (xRows1_n5_1 v (lcut_s v2) v3 [] 0 v4 v5 v6 v7 v8 v9 v10 v11 v12 v13 v14 v15)) (Tr.ite (lSame_b (xRows1_n2_1 v (lcut_s v2) v3 [] 0 v4 v5 v6 v7 v8 v9 v10 v11 v12 v13 v14 v15) (xRows1_s2_1 v (lcut_s v2) v3 [] 0 v4 v5 v6 v7 v8 v9 v10 v11 v12 v13 v14 v15) (xRows1_n3_1 v (lcut_s v2) v3 [] 0 v4 v5 v6 v7 v8 v9 v10 v11 v12 v13 v14 v15) (xRows1_n4_1 v (lcut_s v2) v3 [] 0 v4 v5 v6 v7 v8 v9 v10 v11 v12 v13 v14 v15) (xRows1_s3_1 v (lcut_s v2) v3 [] 0 v4 v5 v6 v7 v8 v9 v10 v11 v12 v13 v14 v15) (xRows1_n5_1 v (lcut_s v2) v3 [] 0 v4 v5 v6 v7 v8 v9 v10 v11 v12 v13 v14 v15) (xRows1_n2_1 v (lcut_s v2) v3 [] 0 v4 v5 v6 v7 v8 v9 v10 v11 v12 v13 v14 v15) (xRows1_s2_1 v (lcut_s v2) v3 [] 0 v4 v5 v6 v7 v8 v9 v10 v11 v12 v13 v14 v15) (xRows1_n3_1 v (lcut_s v2) v3 [] 0 v4 v5 v6 v7 v8 v9 v10 v11 v12 v13 v14 v15) (xRows1_n4_1 v (lcut_s v2) v3 [] 0 v4 v5 v6 v7 v8 v9 v10 v11 v12 v13 v14 v15) (xRows1_s3_1 v (lcut_s v2) v3 [] 0 v4 v5 v6 v7 v8 v9 v10 v11 v12 v13 v14 v15) (xRows1_n5_1 v (lcut_s v2) v3 [] 0 v4 v5 v6 v7 v8 v9 v10 v11 v12 v13 v14 v15)) (Tr.ite awake_is0 (Tr.ret (PV.bool awake_b)) Tr.fail) (Tr.ret (PV.bool false))) Tr.fail) (Tr.ret (PV.bool false))) Tr.fail) Tr.fail) (Tr.ret (PV.bool false))) (Tr.ret (PV.bool false)))
 (Tr.ret (PV.bool false))) (Tr.ret (PV.bool false))) Tr.fail) Tr.fail) Tr.fail) Tr.fail) Tr.fail)) Tr.fail
theorem xRows_T (v : List (List PV)) (v2 : List UInt8) (v3 : Int) (v4 : Int) (v5 : List UInt8) (v6 : Int) (v7 : Int) (v8 : List UInt8) (v9 : Int) (v10 : Int) (v11 : List UInt8) (v12 : Int) (v13 : Int) (v14 : List UInt8) (v15 : Int) : (tcall tbT G_xRows L_xRows Tryd.f8 [.sl v .non, .str v2, .int .i64 v3, .agg [.int .i64 v4, .str v5, .int .i64 v6, .int .i64 v7, .str v8, .int .i64 v9], .agg [.int .i64 v10, .str v11, .int .i64 v12, .int .i64 v13, .str v14, .int .i64 v15]]).flat = xRows_Tr v v2 v3 v4 v5 v6 v7 v8 v9 v10 v11 v12 v13 v14 v15 := by kernel_rfl
noncomputable def xRows_W (v : List (List PV)) (v2 : List UInt8) (v3 : Int) (v4 : Int) (v5 : List UInt8) (v6 : Int) (v7 : Int) (v8 : List UInt8) (v9 : Int) (v10 : Int) (v11 : List UInt8) (v12 : Int) (v13 : Int) (v14 : List UInt8) (v15 : Int) : Option PV := (xRows_Tr v v2 v3 v4 v5 v6 v7 v8 v9 v10 v11 v12 v13 v14 v15).run
noncomputable def xRows_b (v : List (List PV)) (v2 : List UInt8) (v3 : Int) (v4 : Int) (v5 : List UInt8) (v6 : Int) (v7 : Int) (v8 : List UInt8) (v9 : Int) (v10 : Int) (v11 : List UInt8) (v12 : Int) (v13 : Int) (v14 : List UInt8) (v15 : Int) : Bool := (gBool (gVal (xRows_W v v2 v3 v4 v5 v6 v7 v8 v9 v10 v11 v12 v13 v14 v15)))
noncomputable def xRows_is0 (v : List (List PV)) (v2 : List UInt8) (v3 : Int) (v4 : Int) (v5 : List UInt8) (v6 : Int) (v7 : Int) (v8 : List UInt8) (v9 : Int) (v10 : Int) (v11 : List UInt8) (v12 : Int) (v13 : Int) (v14 : List UInt8) (v15 : Int) : Bool := isW (xRows_W v v2 v3 v4 v5 v6 v7 v8 v9 v10 v11 v12 v13 v14 v15) (.bool (xRows_b v v2 v3 v4 v5 v6 v7 v8 v9 v10 v11 v12 v13 v14 v15))
noncomputable def F_xRows : List PV → Tr PV | [.sl v .non, .str v2, .int .i64 v3, .agg [.int .i64 v4, .str v5, .int .i64 v6, .int .i64 v7, .str v8, .int .i64 v9], .agg [.int .i64 v10, .str v11, .int .i64 v12, .int .i64 v13, .str v14, .int .i64 v15]] => .ite (xRows_is0 v v2 v3 v4 v5 v6 v7 v8 v9 v10 v11 v12 v13 v14 v15) (.ret (.bool (xRows_b v v2 v3 v4 v5 v6 v7 v8 v9 v10 v11 v12 v13 v14 v15))) (.fail) | _ => .fail
theorem sim_xRows (gl : Gl) (hg : GlLex gl) : SimP Tryd.prog gl 8 fun args => (F_xRows args).run := by
  refine SimP.of_flat (G := G_xRows) (L := L_xRows) tbT_ok (gok_xRows gl hg ) noMixed Tryd.func8 rfl (by rfl) (by kernel_rfl) (loopOk_all (L := lps L_xRows) [(4, c_xRows1)] (by kernel_rfl) (List.forall_mem_cons.2 ⟨fun fr σ e fr' σ' h => loop_xRows1 gl hg  fr σ e fr' σ' h, (List.forall_mem_nil _)⟩)) ?_
  intro args x h
  unfold F_xRows at h
  split at h
  · exact (congrArg Tr.run (xRows_T _ _ _ _ _ _ _ _ _ _ _ _ _ _ _)).trans (ite_isW h fun h => by cases h)
  · cases h
noncomputable def G_xGaps : GamT := ofL [(9, .pure F_lcut), (10, .pure F_lWords), (13, .pure F_awake), (16, .pure F_rSame), (17, .pure F_lplain)]
theorem gok_xGaps (gl : Gl) (hg : GlLex gl) : GamOk Tryd.prog gl (gam G_xGaps) := (gamOk_cons (sim_lcut gl) (gamOk_cons (sim_lWords gl hg) (gamOk_cons (sim_awake gl hg) (gamOk_cons (sim_rSame gl) (gamOk_cons (sim_lplain gl) gamOk_nil)))))
noncomputable def c_xGaps1 : Code := loopC Tryd.f7 13
def I_xGaps1 : LI := ⟨100, [9, 14, 17], fun e => match e with | .ret => [8] | .exit 0 => [] | _ => [], true⟩
noncomputable def LI_xGaps1 : LpsT := fun r fr σ => .fail
noncomputable def xGaps1_V (vs : List PV) (σ : Store) : Option (PExit × List PV × Store) := lval (lstep tbT G_xGaps LI_xGaps1 c_xGaps1 I_xGaps1) vs σ
noncomputable def xGaps1_Tr (r : List (List PV)) (r2 : List (List PV)) (n : Int) : Tr LR := Tr.ite (iLt n (xLen r)) (Tr.ite (okPos n) (Tr.ite (okGet [PV.int .i64 0, PV.str [], PV.int .i64 0, PV.int .i64 0, PV.str [], PV.int .i64 0] r (nNat n)) (Tr.ite (okPos n) (Tr.ite (okGet [PV.int .i64 0, PV.str [], PV.int .i64 0, PV.int .i64 0, PV.str [], PV.int .i64 0] r2 (nNat n)) (Tr.ite (rSame_is0 (xInt r (nNat n) 0) (xStr r (nNat n) 1) (xInt r (nNat n) 2) (xInt r (nNat n) 3) (xStr r (nNat n) 4) (xInt r (nNat n) 5) (xInt r2 (nNat n) 0) (xStr r2 (nNat n) 1) (xInt r2 (nNat n) 2) (xInt r2 (nNat n) 3) (xStr r2 (nNat n) 4) (xInt r2 (nNat n) 5)) (Tr.ite (bNot (rSame_b (xInt r (nNat n) 0) (xStr r (nNat n) 1) (xInt r (nNat n) 2) (xInt r (nNat n) 3) (xStr r (nNat n) 4) (xInt r (nNat n) 5) (xInt r2 (nNat n) 0) (xStr r2 (nNat n) 1) (xInt r2 (nNat n) 2) (xInt r2 (nNat n) 3) (xStr r2 (nNat n) 4) (xInt r2 (nNat n) 5))) (Tr.ret (LR.out .ret [PV.bool false] (Store.mk [] [] []))) (Tr.ret (LR.next [PV.sl r .non, PV.sl r2 .non, PV.int .i64 (iAdd .i64 n 1)] (Store.mk [] [] [])))) Tr.fail) Tr.fail) Tr.fail) Tr.fail) Tr.fail) (Tr.ret (LR.out (.exit 0) [] (Store.mk [] [] [])))
theorem xGaps1_T (r : List (List PV)) (r2 : List (List PV)) (n : Int) : lstep tbT G_xGaps LI_xGaps1 c_xGaps1 I_xGaps1 [.sl r .non, .sl r2 .non, .int .i64 n] ⟨[], [], []⟩ = xGaps1_Tr r r2 n := by kernel_rfl
theorem xGaps1_E (r : List (List PV)) (r2 : List (List PV)) (n : Int) : xGaps1_V [.sl r .non, .sl r2 .non, .int .i64 n] ⟨[], [], []⟩ = lnext xGaps1_V (xGaps1_Tr r r2 n).run := by unfold xGaps1_V; rw [lval_eq, xGaps1_T]
noncomputable def xGaps1_W (r : List (List PV)) (r2 : List (List PV)) (n : Int) : Option (PExit × List PV × Store) := xGaps1_V [.sl r .non, .sl r2 .non, .int .i64 n] ⟨[], [], []⟩
noncomputable def xGaps1_b_0 (r : List (List PV)) (r2 : List (List PV)) (n : Int) : Bool := (gBool (gOut (xGaps1_W r r2 n) 0))
noncomputable def xGaps1_is0 (r : List (List PV)) (r2 : List (List PV)) (n : Int) : Bool := isW (xGaps1_W r r2 n) (.ret, [.bool (xGaps1_b_0 r r2 n)], ⟨[], [], []⟩)
noncomputable def xGaps1_is1 (r : List (List PV)) (r2 : List (List PV)) (n : Int) : Bool := isW (xGaps1_W r r2 n) ((.exit 0), [], ⟨[], [], []⟩)
noncomputable def xGaps1_prop : List PV → Store → Tr (PExit × List PV × Store) | [.sl r .non, .sl r2 .non, .int .i64 n], ⟨[], [], []⟩ => .ite (xGaps1_is0 r r2 n) (.ret (.ret, [.bool (xGaps1_b_0 r r2 n)], ⟨[], [], []⟩)) (.ite (xGaps1_is1 r r2 n) (.ret ((.exit 0), [], ⟨[], [], []⟩)) (.fail)) | _, _ => .fail
theorem xGaps1_ok : ∀ vs σ r, (xGaps1_prop vs σ).run = some r → xGaps1_V vs σ = some r := by
  intro vs σ r h
  unfold xGaps1_prop at h
  split at h
  · exact ite_isW h fun h => ite_isW h fun h => by cases h
  · cases h
theorem loop_xGaps1 (gl : Gl) (hg : GlLex gl) : ∀ fr σ e fr' σ', (orc I_xGaps1 xGaps1_prop fr σ).run = some (e, fr', σ') → LDoes Tryd.prog gl c_xGaps1 fr σ e fr' σ' := orc_ok tbT_ok (gok_xGaps gl hg ) noMixed (L := LI_xGaps1) (loopOk_none (by kernel_rfl)) (by kernel_rfl) xGaps1_ok
noncomputable def L_xGaps : LpsT := fun r fr σ => bif Nat.beq r 13 then orc I_xGaps1 xGaps1_prop fr σ else .fail
noncomputable def xGaps_Tr (v : List UInt8) (v2 : Int) (v3 : Int) (v4 : List UInt8) : Tr PV := Tr.ite awake_is0 (Tr.ite (bNot awake_b) (Tr.ret (PV.bool false)) (Tr.ite (lcut_is0 v) (Tr.ite (lcut_is0 v4) (Tr.ite (lWords_is0 (lcut_s v)) (Tr.ite (iNe (lWords_n2 (lcut_s v)) 0) (Tr.ret (PV.bool true)) (Tr.ite (iEq (xLen (lWords_r (lcut_s v))) 0) (Tr.ret (PV.bool true)) (Tr.ite (iEq (iWrap .u64 (xLen (lWords_r (lcut_s v)))) 0) Tr.fail (Tr.ite (okPos (iWrap .i64 (iRem v2 (iWrap .u64 (xLen (lWords_r (lcut_s v))))))) (Tr.ite (okGet [PV.int .i64 0, PV.str [], PV.int .i64 0, PV.int .i64 0, PV.str [], PV.int .i64 0] (lWords_r (lcut_s v)) (nNat (iWrap .i64 (iRem v2 (iWrap .u64 (xLen (lWords_r (lcut_s v)))))))) (Tr.ite (lplain_is0 (lcut_s v4)) (Tr.ite (okApp [37, 32] (lplain_s (lcut_s v4))) (Tr.ite (okApp (sApp [37, 32] (lplain_s (lcut_s v4))) [10]) (Tr.ite (okPos (iRem (iWrap .i64 v3) 6)) (Tr.ite (okGet [PV.str []] [[PV.str [32]], [PV.str [9]], [PV.str [10]], [PV.str [13]], [PV.str (sApp (sApp [37, 32] (lplain_s (lcut_s v4))) [10])], [PV.str [37, 10, 37, 10]]] (nNat (iRem (iWrap .i64 v3) 6))) (Tr.ite (okSub true (okPos (xInt (lWords_r (lcut_s v)) (nNat (iWrap .i64 (iRem v2 (iWrap .u64 (xLen (lWords_r (lcut_s v))))))) 5)) 0 (nNat (xInt (lWords_r (lcut_s v)) (nNat (iWrap .i64 (iRem v2 (iWrap .u64 (xLen (lWords_r (lcut_s v))))))) 5)) (nLen (lcut_s v))) (Tr.ite (okApp (sSub (lcut_s v) 0 (nNat (xInt (lWords_r (lcut_s v)) (nNat (iWrap .i64 (iRem v2 (iWrap .u64 (xLen (lWords_r (lcut_s v))))))) 5))) (xStr [[PV.str [32]], [PV.str [9]], [PV.str [10]], [PV.str [13]], [PV.str (sApp (sApp [37, 32] (lplain_s (lcut_s v4))) [10])], [PV.str [37, 10, 37, 10]]] (nNat (iRem (iWrap .i64 v3) 6)) 0)) (Tr.ite (okSub (okPos (xInt (lWords_r (lcut_s v)) (nNat (iWrap .i64 (iRem v2 (iWrap .u64 (xLen (lWords_r (lcut_s v))))))) 5)) true (nNat (xInt (lWords_r (lcut_s v)) (nNat (iWrap .i64 (iRem v2 (iWrap .u64 (xLen (lWords_r (lcut_s v))))))) 5)) (nLen (lcut_s v)) (nLen (lcut_s v))) (Tr.ite (okApp (sApp
 (sSub (lcut_s v) 0 (nNat (xInt (lWords_r (lcut_s v)) (nNat (iWrap .i64 (iRem v2 (iWrap .u64 (xLen (lWords_r (lcut_s v))))))) 5))) (xStr [[PV.str [32]], [PV.str [9]], [PV.str [10]], [PV.str [13]], [PV.str (sApp (sApp [37, 32] (lplain_s (lcut_s v4))) [10])], [PV.str [37, 10, 37, 10]]] (nNat (iRem (iWrap .i64 v3) 6)) 0)) (sSub (lcut_s v) (nNat (xInt (lWords_r (lcut_s v)) (nNat (iWrap .i64 (iRem v2 (iWrap .u64 (xLen (lWords_r (lcut_s v))))))) 5)) (nLen (lcut_s v)))) (Tr.ite (okApp (sApp (sApp (sSub (lcut_s v) 0 (nNat (xInt (lWords_r (lcut_s v)) (nNat (iWrap .i64 (iRem v2 (iWrap .u64 (xLen (lWords_r (lcut_s v))))))) 5))) (xStr [[PV.str [32]], [PV.str [9]], [PV.str [10]], [PV.str [13]], [PV.str (sApp (sApp [37, 32] (lplain_s (lcut_s v4))) [10])], [PV.str [37, 10, 37, 10]]] (nNat (iRem (iWrap .i64 v3) 6)) 0)) (sSub (lcut_s v) (nNat (xInt (lWords_r (lcut_s v)) (nNat (iWrap .i64 (iRem v2 (iWrap .u64 (xLen (lWords_r (lcut_s v))))))) 5)) (nLen (lcut_s v)))) [10, 37]) (Tr.ite (lplain_is0 (lcut_s v4)) (Tr.ite (okApp (sApp (sApp (sApp (sSub (lcut_s v) 0 (nNat (xInt (lWords_r (lcut_s v)) (nNat (iWrap .i64 (iRem v2 (iWrap .u64 (xLen (lWords_r (lcut_s v))))))) 5))) (xStr [[PV.str [32]], [PV.str [9]], [PV.str [10]], [PV.str [13]], [PV.str (sApp (sApp [37, 32] (lplain_s (lcut_s v4))) [10])], [PV.str [37, 10, 37, 10]]] (nNat (iRem (iWrap .i64 v3) 6)) 0)) (sSub (lcut_s v) (nNat (xInt (lWords_r (lcut_s v)) (nNat (iWrap .i64 (iRem v2 (iWrap .u64 (xLen (lWords_r (lcut_s v))))))) 5)) (nLen (lcut_s v)))) [10, 37]) (lplain_s (lcut_s v4))) (Tr.ite (lWords_is0 (sApp (sApp (sApp (sApp (sSub (lcut_s v) 0 (nNat (xInt (lWords_r (lcut_s v)) (nNat (iWrap .i64 (iRem v2 (iWrap .u64 (xLen (lWords_r (lcut_s v))))))) 5))) (xStr [[PV.str [32]], [PV.str [9]], [PV.str [10]], [PV.str [13]], [PV.str (sApp (sApp [37, 32] (lplain_s (lcut_s v4))) [10])], [PV.str [37, 10, 37, 10]]] (nNat (iRem (iWrap .i64 v3) 6)) 0)) (sSub (lcut_s v)
 (nNat (xInt (lWords_r (lcut_s v)) (nNat (iWrap .i64 (iRem v2 (iWrap .u64 (xLen (lWords_r (lcut_s v))))))) 5)) (nLen (lcut_s v)))) [10, 37]) (lplain_s (lcut_s v4)))) (Tr.ite (iNe (lWords_n2 (sApp (sApp (sApp (sApp (sSub (lcut_s v) 0 (nNat (xInt (lWords_r (lcut_s v)) (nNat (iWrap .i64 (iRem v2 (iWrap .u64 (xLen (lWords_r (lcut_s v))))))) 5))) (xStr [[PV.str [32]], [PV.str [9]], [PV.str [10]], [PV.str [13]], [PV.str (sApp (sApp [37, 32] (lplain_s (lcut_s v4))) [10])], [PV.str [37, 10, 37, 10]]] (nNat (iRem (iWrap .i64 v3) 6)) 0)) (sSub (lcut_s v) (nNat (xInt (lWords_r (lcut_s v)) (nNat (iWrap .i64 (iRem v2 (iWrap .u64 (xLen (lWords_r (lcut_s v))))))) 5)) (nLen (lcut_s v)))) [10, 37]) (lplain_s (lcut_s v4)))) 0) (Tr.ret (PV.bool false)) (Tr.ite (iNe (xLen (lWords_r (lcut_s v))) (xLen (lWords_r (sApp (sApp (sApp (sApp (sSub (lcut_s v) 0 (nNat (xInt (lWords_r (lcut_s v)) (nNat (iWrap .i64 (iRem v2 (iWrap .u64 (xLen (lWords_r (lcut_s v))))))) 5))) (xStr [[PV.str [32]], [PV.str [9]], [PV.str [10]], [PV.str [13]], [PV.str (sApp (sApp [37, 32] (lplain_s (lcut_s v4))) [10])], [PV.str [37, 10, 37, 10]]] (nNat (iRem (iWrap .i64 v3) 6)) 0)) (sSub (lcut_s v) (nNat (xInt (lWords_r (lcut_s v)) (nNat (iWrap .i64 (iRem v2 (iWrap .u64 (xLen (lWords_r (lcut_s v))))))) 5)) (nLen (lcut_s v)))) [10, 37]) (lplain_s (lcut_s v4)))))) (Tr.ret (PV.bool false)) (Tr.ite (xGaps1_is0 (lWords_r (lcut_s v)) (lWords_r (sApp (sApp (sApp (sApp (sSub (lcut_s v) 0 (nNat (xInt (lWords_r (lcut_s v)) (nNat (iWrap .i64 (iRem v2 (iWrap .u64 (xLen (lWords_r (lcut_s v))))))) 5))) (xStr [[PV.str [32]], [PV.str [9]], [PV.str [10]], [PV.str [13]], [PV.str (sApp (sApp [37, 32] (lplain_s (lcut_s v4))) [10])], [PV.str [37, 10, 37, 10]]] (nNat (iRem (iWrap .i64 v3) 6)) 0)) (sSub (lcut_s v) (nNat (xInt (lWords_r (lcut_s v)) (nNat (iWrap .i64 (iRem v2 (iWrap .u64 (xLen (lWords_r (lcut_s v))))))) 5)) (nLen (lcut_s v)))) [10, 37]) (lplain_s (lcut_s v4)))) 0) (Tr.ret (PV.bool (xGaps1_b_0 (lWords_r (lcut_s v)) (lWords_r
 (sApp (sApp (sApp (sApp (sSub (lcut_s v) 0 (nNat (xInt (lWords_r (lcut_s v)) (nNat (iWrap .i64 (iRem v2 (iWrap .u64 (xLen (lWords_r (lcut_s v))))))) 5))) (xStr [[PV.str [32]], [PV.str [9]], [PV.str [10]], [PV.str [13]], [PV.str (sApp (sApp [37, 32] (lplain_s (lcut_s v4))) [10])], [PV.str [37, 10, 37, 10]]] (nNat (iRem (iWrap .i64 v3) 6)) 0)) (sSub (lcut_s v) (nNat (xInt (lWords_r (lcut_s v)) (nNat (iWrap .i64 (iRem v2 (iWrap .u64 (xLen (lWords_r (lcut_s v))))))) 5)) (nLen (lcut_s v)))) [10, 37]) (lplain_s (lcut_s v4)))) 0))) (Tr.ite (xGaps1_is1 (lWords_r (lcut_s v)) (lWords_r (sApp (sApp (sApp (sApp (sSub (lcut_s v) 0 (nNat (xInt (lWords_r (lcut_s v)) (nNat (iWrap .i64 (iRem v2 (iWrap .u64 (xLen (lWords_r (lcut_s v))))))) 5))) (xStr [[PV.str [32]], [PV.str [9]], [PV.str [10]], [PV.str [13]], [PV.str (sApp (sApp [37, 32] (lplain_s (lcut_s v4))) [10])], [PV.str [37, 10, 37, 10]]] (nNat (iRem (iWrap .i64 v3) 6)) 0)) (sSub (lcut_s v) (nNat (xInt (lWords_r (lcut_s v)) (nNat (iWrap .i64 (iRem v2 (iWrap .u64 (xLen (lWords_r (lcut_s v))))))) 5)) (nLen (lcut_s v)))) [10, 37]) (lplain_s (lcut_s v4)))) 0) (Tr.ret (PV.bool true)) Tr.fail)))) Tr.fail) Tr.fail) Tr.fail) Tr.fail) Tr.fail) Tr.fail) Tr.fail) Tr.fail) Tr.fail) Tr.fail) Tr.fail) Tr.fail) Tr.fail) Tr.fail) Tr.fail)))) Tr.fail) Tr.fail) Tr.fail)) Tr.fail
theorem xGaps_T (v : List UInt8) (v2 : Int) (v3 : Int) (v4 : List UInt8) : (tcall tbT G_xGaps L_xGaps Tryd.f7 [.str v, .int .u64 v2, .int .u8 v3, .str v4]).flat = xGaps_Tr v v2 v3 v4 := by kernel_rfl
noncomputable def xGaps_W (v : List UInt8) (v2 : Int) (v3 : Int) (v4 : List UInt8) : Option PV := (xGaps_Tr v v2 v3 v4).run
noncomputable def xGaps_b (v : List UInt8) (v2 : Int) (v3 : Int) (v4 : List UInt8) : Bool := (gBool (gVal (xGaps_W v v2 v3 v4)))
noncomputable def xGaps_is0 (v : List UInt8) (v2 : Int) (v3 : Int) (v4 : List UInt8) : Bool := isW (xGaps_W v v2 v3 v4) (.bool (xGaps_b v v2 v3 v4))
noncomputable def F_xGaps : List PV → Tr PV | [.str v, .int .u64 v2, .int .u8 v3, .str v4] => .ite (xGaps_is0 v v2 v3 v4) (.ret (.bool (xGaps_b v v2 v3 v4))) (.fail) | _ => .fail
theorem sim_xGaps (gl : Gl) (hg : GlLex gl) : SimP Tryd.prog gl 7 fun args => (F_xGaps args).run := by
  refine SimP.of_flat (G := G_xGaps) (L := L_xGaps) tbT_ok (gok_xGaps gl hg ) noMixed Tryd.func7 rfl (by rfl) (by kernel_rfl) (loopOk_all (L := lps L_xGaps) [(13, c_xGaps1)] (by kernel_rfl) (List.forall_mem_cons.2 ⟨fun fr σ e fr' σ' h => loop_xGaps1 gl hg  fr σ e fr' σ' h, (List.forall_mem_nil _)⟩)) ?_
  intro args x h
  unfold F_xGaps at h
  split at h
  · exact (congrArg Tr.run (xGaps_T _ _ _ _)).trans (ite_isW h fun h => by cases h)
  · cases h
end Go.Pv

set_option maxHeartbeats 8000000
set_option maxRecDepth 200000
set_option linter.unusedSimpArgs false
set_option linter.unusedVariables false
namespace Go.Pv
open Go Go.Proofs Go.RowKit

/-! ### rows of words that are the same -/
theorem isW_no {α : Type} {a r : α} (h : a ≠ r) : isW (some a) r = false := by
  cases hb : isW (some a) r with
  | false => rfl
  | true => exact absurd ((isW_some a r).1 hb) h
theorem map_at {l m : List Wd} (h : l.map stW = m.map stW) {i : Nat} (hi : i < l.length) (hj : i < m.length) : stW l[i] = stW m[i] := by
  have := congrArg (·[i]?) h
  simpa [hi, hj] using this
theorem same_of {a b : Wd} (h : stW a = stW b) : sameW (a.1, a.2.1, a.2.2.1.1, a.2.2.1.2.1, a.2.2.1.2.2) (b.1, b.2.1, b.2.2.1.1, b.2.2.1.2.1, b.2.2.1.2.2) = true := by
  unfold sameW
  exact decide_eq_true h
theorem xBack_loop (l m : List Wd) (h : l.map stW = m.map stW) (hl : l.length ≤ 1000000) : ∀ (k i : Nat), i + k = l.length → xBack1_V [.sl (rOf cW l) .non, .sl (rOf cW m) .non, .int .i64 (i : Nat)] ⟨[], [], []⟩ = some (.exit 0, [], ⟨[], [], []⟩) := by
  have hlm : l.length = m.length := by simpa using congrArg List.length h
  intro k
  induction k with
  | zero =>
    intro i hi
    rw [xBack1_E]
    have : ¬ (i : Int) < l.length := by omega
    simp [xBack1_Tr, this]
  | succ k ih =>
    intro i hi
    have w := inc_i64 (i := i) (by omega)
    have hlt : i < l.length := by omega
    have hlt' : i < m.length := by omega
    have hab := map_at h hlt hlt'
    have h1 := ih (i + 1) (by omega)
    rw [xBack1_E, ← h1]
    simp [xBack1_Tr, hlt, hlt', w, same_of hab]
theorem xGaps_loop (l m : List Wd) (h : l.map stW = m.map stW) (hl : l.length ≤ 1000000) : ∀ (k i : Nat), i + k = l.length → xGaps1_V [.sl (rOf cW l) .non, .sl (rOf cW m) .non, .int .i64 (i : Nat)] ⟨[], [], []⟩ = some (.exit 0, [], ⟨[], [], []⟩) := by
  have hlm : l.length = m.length := by simpa using congrArg List.length h
  intro k
  induction k with
  | zero =>
    intro i hi
    rw [xGaps1_E]
    have : ¬ (i : Int) < l.length := by omega
    simp [xGaps1_Tr, this]
  | succ k ih =>
    intro i hi
    have w := inc_i64 (i := i) (by omega)
    have hlt : i < l.length := by omega
    have hlt' : i < m.length := by omega
    have hab := map_at h hlt hlt'
    have h1 := ih (i + 1) (by omega)
    rw [xGaps1_E, ← h1]
    simp [xGaps1_Tr, hlt, hlt', w, same_of hab]

/-! ### LexBack -/
theorem lx_join_len {l : List Wv} {s : List UInt8} (h : Lx l s) : (joinV (l.map fun w => w.2.1) [32]).length ≤ 2 * s.length := by
  induction h with
  | nil s c h => simp [joinV, Lib.join_nil]
  | cons g x r k v l hg hw h ih =>
    have h1 := (wdL_len hw).1
    cases l with
    | nil => simp [joinV, Lib.join_one]; omega
    | cons w l =>
      have : joinV (((k, x, v) :: w :: l).map fun w => w.2.1) [32] = x ++ 32 :: joinV ((w :: l).map fun w => w.2.1) [32] := by simp [joinV, Lib.join]
      rw [this]
      simp only [List.length_append, List.length_cons]
      omega
theorem jn_st (l : List Wd) : joinV ((l.map stW).map fun w => w.2.1) [32] = jnW l := by
  unfold jnW
  rw [List.map_map]
  rfl
theorem words_of {s : List UInt8} {l : List Wd} (h : wordsL s = (l, none)) : wL s = l ∧ wE s = 0 := by
  unfold wL wE
  rw [h]
  exact ⟨rfl, rfl⟩
theorem words_no {s : List UInt8} {l : List Wd} {p : Nat} (h : wordsL s = (l, some p)) : wL s = [] ∧ wE s = 120 := by
  unfold wL wE
  rw [h]
  exact ⟨rfl, rfl⟩
theorem xBack_law (s : List UInt8) : xBack_W s = some (.bool true) := by
  have hc := cut_len s
  have h : (s.take 3000).length ≤ 65536 := by omega
  unfold xBack_W xBack_Tr
  rw [awake_is, awake_v, lcut_is, lcut_v, lWords_is_v h, lWords_e_v h, lWords_r_v h, lockLL_rOf]
  generalize s.take 3000 = s at hc h ⊢
  cases hw : wordsL s with
  | mk l o =>
    cases o with
    | some p =>
      rw [(words_no hw).2]
      rfl
    | none =>
      obtain ⟨e1, e2⟩ := words_of hw
      have hll := wL_len s
      rw [e1] at hll
      rw [e1, e2]
      have hx := words_lx hw
      have hj := lx_join hx
      have hjl := lx_join_len hx
      rw [jn_st] at hj hjl
      obtain ⟨l', g1, g2⟩ := lx_words hj
      obtain ⟨f1, f2⟩ := words_of g1
      have hl : l.length ≤ 1000000 := by omega
      have h2 : (jnW l).length ≤ 65536 := by omega
      have hlen : l.length = l'.length := by simpa using (congrArg List.length g2).symm
      have loop := xBack_loop l l' g2.symm hl l.length 0 (by omega)
      have loop' : xBack1_V [.sl (rOf cW l) .non, .sl (rOf cW l') .non, .int .i64 0] ⟨[], [], []⟩ = some (.exit 0, [], ⟨[], [], []⟩) := loop
      rw [lJoin_is l hl (by omega), lJoin_v l hl (by omega), lWords_is_v h2, lWords_e_v h2, lWords_r_v h2, f1, f2]
      have i1 : xBack1_is0 (rOf cW l) (rOf cW l') 0 = false := by unfold xBack1_is0 xBack1_W; rw [loop']; exact isW_no (by simp)
      have i2 : xBack1_is1 (rOf cW l) (rOf cW l') 0 = true := by simp [xBack1_is1, xBack1_W, loop']
      rw [i1, i2]
      simp [hlen]
noncomputable def F_LexBack : List PV → Tr PV
  | [.str _] => .ret (.bool true)
  | _ => .fail
theorem sim_LexBack {gl : Gl} (hg : GlLex gl) : SimP Tryd.prog gl 6 fun args => (F_LexBack args).run := by
  refine SimP.imp (sim_xBack gl hg) ?_
  intro args x h
  unfold F_LexBack at h
  split at h
  · rename_i s
    cases h
    have hw := xBack_law s
    simp [F_xBack, xBack_is0, xBack_b, hw]
  · cases h

/-! ### LexCovers -/
theorem xCovers_loop (s : List UInt8) (hs : s.length ≤ 1000000) (l : List Wd) : ∀ (f p i : Nat), p ≤ s.length → s.length < p + gapL false (s.drop p) + f → lexL f (p + gapL false (s.drop p)) (s.drop (p + gapL false (s.drop p))) = (l.drop i, none) → i ≤ 1000000 + p →
    ∃ q : Nat, q ≤ s.length ∧ gapL false (s.drop q) = (s.drop q).length ∧ xCovers1_V [.str s, .sl (rOf cW l) .non, .int .i64 (p : Nat), .int .i64 (i : Nat)] ⟨[], [], []⟩ = some (.exit 0, [.str s, .int .i64 (q : Nat)], ⟨[], [], []⟩) := by
  intro f
  induction f with
  | zero =>
    intro p i hp hf h hi
    have := gapL_le false (s.drop p)
    simp at this
    omega
  | succ f ih =>
    intro p i hp hf h hi
    have hgl := gapL_le false (s.drop p)
    generalize hg : gapL false (s.drop p) = g at *
    have hgl' : g ≤ s.length - p := by simpa using hgl
    by_cases hlt : p + g < s.length
    · obtain ⟨c, t, hct⟩ := List.exists_cons_of_ne_nil (l := s.drop (p + g)) (by
        intro h0
        have := congrArg List.length h0
        rw [List.length_drop, List.length_nil] at this
        omega)
      have eL : lexL (f + 1) (p + g) (s.drop (p + g)) = match wdL (s.drop (p + g)) with
          | none => ([], some (p + g))
          | some (k, m, v) =>
            ((k, (s.drop (p + g)).take m, v, ((p + g : Nat) : Int)) :: (lexL f (p + g + m + gapL false ((s.drop (p + g)).drop m)) ((s.drop (p + g)).drop (m + gapL false ((s.drop (p + g)).drop m)))).1, (lexL f (p + g + m + gapL false ((s.drop (p + g)).drop m)) ((s.drop (p + g)).drop (m + gapL false ((s.drop (p + g)).drop m)))).2) := by
        rw [hct]
        rfl
      rw [eL] at h
      cases hw : wdL (s.drop (p + g)) with
      | none => rw [hw] at h; simp at h
      | some r =>
        obtain ⟨k, m, v⟩ := r
        rw [hw] at h
        simp only [Prod.mk.injEq] at h
        obtain ⟨h1, h2⟩ := h
        obtain ⟨m1, m2⟩ := wdL_len hw
        rw [List.length_drop] at m2
        have hd1 : (s.drop (p + g)).drop m = s.drop (p + g + m) := List.drop_drop
        have hd2 : (s.drop (p + g)).drop (m + gapL false (s.drop (p + g + m))) = s.drop (p + g + m + gapL false (s.drop (p + g + m))) := by rw [List.drop_drop]; congr 1; omega
        rw [hd1, hd2] at h1 h2
        have hli : l[i]? = some (k, (s.drop (p + g)).take m, v, ((p + g : Nat) : Int)) := by
          have := congrArg (·[0]?) h1.symm
          simpa using this
        have hdr : l.drop (i + 1) = (lexL f (p + g + m + gapL false (s.drop (p + g + m))) (s.drop (p + g + m + gapL false (s.drop (p + g + m))))).1 := by
          rw [← List.drop_drop, ← h1]
          rfl
        obtain ⟨q, q1, q2, q3⟩ := ih (p + g + m) (i + 1) (by omega) (by omega) (Prod.ext hdr.symm h2) (by omega)
        refine ⟨q, q1, q2, ?_⟩
        rw [← q3, xCovers1_E]
        have hil : i < l.length := (List.getElem?_eq_some_iff.1 hli).1
        have hx : ((s.drop (p + g)).take m).length = m := by rw [List.length_take, List.length_drop]; omega
        have w := inc_i64 (i := i) (by omega)
        have w1 : iAdd .i64 ((p + g : Nat) : Int) (m : Nat) = ((p + g + m : Nat) : Int) := wrap_i64 (by omega)
        have w2 : iSub .i64 (s.length : Int) ((p + g : Nat) : Int) = ((s.length - (p + g) : Nat) : Int) := by
          rw [show ((s.length - (p + g) : Nat) : Int) = (s.length : Int) - ((p + g : Nat) : Int) by omega]
          exact wrap_i64 (by omega)
        have x5 : xInt (rOf cW l) (nNat (i : Int)) 5 = ((p + g : Nat) : Int) := by rw [xInt_cW5]; simp [hli]
        have x1 : xStr (rOf cW l) (nNat (i : Int)) 1 = (s.drop (p + g)).take m := by rw [xStr_cW1]; simp [hli]
        have t1 : iLt (i : Int) (xLen (rOf cW l)) = true := by simp; omega
        have t2 : okPos (i : Int) = true := by simp
        have t3 : okGet [PV.int .i64 0, .str [], .int .i64 0, .int .i64 0, .str [], .int .i64 0] (rOf cW l) (nNat (i : Int)) = true := by simp; omega
        have t4 : iLt ((p + g : Nat) : Int) (p : Int) = false := by simp; omega
        have t5 : iLt (sLen s) ((p + g : Nat) : Int) = false := by simp; omega
        have sl : sLen ((s.drop (p + g)).take m) = (m : Nat) := by rw [sLen_eq, hx]
        have sl2 : sLen s = (s.length : Nat) := rfl
        have t5' : iLt (s.length : Nat) ((p + g : Nat) : Int) = false := t5
        have t6 : iEq ((m : Nat) : Int) 0 = false := by simp; omega
        have t7 : iLt ((s.length - (p + g) : Nat) : Int) ((m : Nat) : Int) = false := by simp; omega
        have t8 : okSub (okPos ((p + g : Nat) : Int)) (okPos ((p + g + m : Nat) : Int)) (nNat ((p + g : Nat) : Int)) (nNat ((p + g + m : Nat) : Int)) (nLen s) = true := by simp; omega
        have e1 : sSub s (nNat ((p + g : Nat) : Int)) (nNat ((p + g + m : Nat) : Int)) = (s.drop (p + g)).take m := by
          rw [sSub_eq, nNat_eq, nNat_eq, Int.toNat_natCast, Int.toNat_natCast, List.drop_take]
          congr 1
          omega
        have t9 : sNe ((s.drop (p + g)).take m) ((s.drop (p + g)).take m) = false := by simp
        have t10 : okSub (okPos (p : Int)) (okPos ((p + g : Nat) : Int)) (nNat (p : Int)) (nNat ((p + g : Nat) : Int)) (nLen s) = true := by simp; omega
        have e2 : sSub s (nNat (p : Int)) (nNat ((p + g : Nat) : Int)) = (s.drop p).take g := by
          rw [sSub_eq, nNat_eq, nNat_eq, Int.toNat_natCast, Int.toNat_natCast, List.drop_take]
          congr 1
          omega
        have hgs : gpS false ((s.drop p).take g) = some false := by
          have := gap_stop (s.drop p) false (by rw [hg, List.length_drop]; omega)
          rwa [hg] at this
        have hgl2 : ((s.drop p).take g).length < 9223372036854775807 := by rw [List.length_take]; omega
        have t11 : rGaps_is0 ((s.drop p).take g) = true := rGaps_is hgl2
        have t12 : rGaps_b ((s.drop p).take g) = true := by
          rw [rGaps_v hgl2, decide_eq_true_eq]
          exact (gap_all _ _).2 ⟨_, hgs⟩
        have dp : dropPLL 0 (rOf cW l) = rOf cW l := by simp
        have hb : bNot true = false := rfl
        simp only [xCovers1_Tr, t1, t2, t3, x5, x1, t4, t5', sl, t6, sl2, w2, t7, w1, t8, e1, t9, t10, e2, t11, t12, w, dp, hb]
        simp only [Tr.run_ite, if_true, Bool.false_eq_true, if_false, Tr.run_ret]
        rfl
    · have hz : s.drop (p + g) = [] := List.drop_eq_nil_of_le (by omega)
      rw [hz, lexL_nil] at h
      simp only [Prod.mk.injEq] at h
      have hil : l.length ≤ i := by
        have := congrArg List.length h.1
        rw [List.length_drop, List.length_nil] at this
        omega
      refine ⟨p, hp, by rw [hg, List.length_drop]; omega, ?_⟩
      rw [xCovers1_E]
      have t1 : iLt (i : Int) (xLen (rOf cW l)) = false := by simp; omega
      simp only [xCovers1_Tr, t1]
      simp
theorem xCovers_law (s : List UInt8) : xCovers_W s = some (.bool true) := by
  have hc := cut_len s
  have h : (s.take 3000).length ≤ 65536 := by omega
  unfold xCovers_W xCovers_Tr
  rw [awake_is, awake_v, lcut_is, lcut_v, lWords_is_v h, lWords_e_v h, lWords_r_v h]
  generalize s.take 3000 = s at hc h ⊢
  cases hw : wordsL s with
  | mk l o =>
    cases o with
    | some p =>
      rw [(words_no hw).2, (words_no hw).1]
      rfl
    | none =>
      obtain ⟨e1, e2⟩ := words_of hw
      rw [e1, e2]
      have hw' : lexL (s.length + 1) (gapL false s) (s.drop (gapL false s)) = (l, none) := hw
      obtain ⟨q, q1, q2, q3⟩ := xCovers_loop s (by omega) l (s.length + 1) 0 0 (by omega) (by omega) (by simpa using hw') (by omega)
      have q3' : xCovers1_V [.str s, .sl (rOf cW l) .non, .int .i64 0, .int .i64 0] ⟨[], [], []⟩ = some (.exit 0, [.str s, .int .i64 (q : Nat)], ⟨[], [], []⟩) := q3
      have i1 : xCovers1_is0 s (rOf cW l) 0 0 = false := by unfold xCovers1_is0 xCovers1_W; rw [q3']; exact isW_no (by simp)
      have i2 : xCovers1_is1 s (rOf cW l) 0 0 = true := by simp [xCovers1_is1, xCovers1_s_1, xCovers1_n_1, xCovers1_W, q3']
      have i3 : xCovers1_s_1 s (rOf cW l) 0 0 = s := by simp [xCovers1_s_1, xCovers1_W, q3']
      have i4 : xCovers1_n_1 s (rOf cW l) 0 0 = (q : Nat) := by simp [xCovers1_n_1, xCovers1_W, q3']
      rw [i1, i2, i3, i4]
      have e3 : sSub s (nNat (q : Int)) (nLen s) = s.drop q := by simp
      have t1 : okSub (okPos (q : Int)) true (nNat (q : Int)) (nLen s) (nLen s) = true := by simp; omega
      have hl2 : (s.drop q).length < 9223372036854775807 := by simp; omega
      rw [e3, t1, rGaps_is hl2, rGaps_v hl2, decide_eq_true q2]
      rfl
noncomputable def F_LexCovers : List PV → Tr PV
  | [.str _] => .ret (.bool true)
  | _ => .fail
theorem sim_LexCovers {gl : Gl} (hg : GlLex gl) : SimP Tryd.prog gl 5 fun args => (F_LexCovers args).run := by
  refine SimP.imp (sim_xCovers gl hg) ?_
  intro args x h
  unfold F_LexCovers at h
  split at h
  · rename_i s
    cases h
    have hw := xCovers_law s
    simp [F_xCovers, xCovers_is0, xCovers_b, hw]
  · cases h
end Go.Pv

set_option maxHeartbeats 8000000
set_option maxRecDepth 200000
set_option linter.unusedSimpArgs false
set_option linter.unusedVariables false
namespace Go.Pv
open Go Go.Proofs Go.RowKit

/-! ### LexRows -/
def wC (a : Wd) : List PV := [.int .i64 a.1, .str a.2.1, .int .i64 a.2.2.1.1, .int .i64 a.2.2.1.2.1, .str a.2.2.1.2.2, .int .i64 a.2.2.2]
def fS (a b : Wd) : List Wd → Store
  | [] => ⟨[wC a, wC b], [], [37, 37]⟩
  | x :: l => ⟨[wC a, wC b], [((x :: l).length, 6, 37)], [37, 37]⟩
theorem fS_snoc (a b : Wd) (l : List Wd) (x : Wd) : fS a b (l ++ [x]) = ⟨[wC a, wC b], [((l ++ [x]).length, 6, 37)], [37, 37]⟩ := by cases l <;> rfl
def fewB (w : Wd) : Bool := decide (w.2.1.length ≤ 300)
def fewW (l : List Wd) : List Wd := (l.take 40).filter fewB
theorem xRows_loop (l : List Wd) (s : List UInt8) (n : Int) (a b : Wd) : ∀ (m i : Nat), i + m = min l.length 40 →
    xRows1_V [.sl (rOf cW l) .non, .str s, .int .i64 n, .ptr 0 0, .ptr 1 0, .sl (rOf cW ((l.take i).filter fewB)) (aT ((l.take i).filter fewB)), .int .i64 (i : Nat)] (fS a b ((l.take i).filter fewB)) = some (.exit 0, [.str s, .int .i64 n, .ptr 0 0, .ptr 1 0, .sl (rOf cW (fewW l)) (aT (fewW l))], fS a b (fewW l)) := by
  intro m
  induction m with
  | zero =>
    intro i hi
    have e : (l.take i).filter fewB = fewW l := by
      unfold fewW
      by_cases h : l.length ≤ 40
      · rw [List.take_of_length_le (by omega), List.take_of_length_le (by omega)]
      · have : i = 40 := by omega
        rw [this]
    rw [e]
    have t : iLt (i : Int) (xLen (rOf cW l)) = false ∨ iLt (i : Int) 40 = false := by
      by_cases h : l.length ≤ 40
      · left; simp; omega
      · right; simp; omega
    cases he : fewW l with
    | nil =>
      show xRows1_V [_, _, _, _, _, .sl [] .full, _] ⟨[wC a, wC b], [], _⟩ = _
      simp only [wC]
      rw [xRows1_E]
      rcases t with t | t
      · simp only [xRows1_Tr, t]
        simp [fS, wC]
      · cases t2 : iLt (i : Int) (xLen (rOf cW l)) <;> (simp only [xRows1_Tr, t, t2]; simp [fS, wC])
    | cons x q =>
      show xRows1_V [_, _, _, _, _, .sl (rOf cW (x :: q)) (.tok 0), _] ⟨[wC a, wC b], [((x :: q).length, 6, 37)], _⟩ = _
      simp only [wC]
      rw [xRows1_E1]
      rcases t with t | t
      · simp only [xRows1_Tr1, t]
        simp [fS, wC, aT]
      · cases t2 : iLt (i : Int) (xLen (rOf cW l)) <;> (simp only [xRows1_Tr1, t, t2]; simp [fS, wC, aT])
  | succ m ih =>
    intro i hi
    have hlt : i < l.length := by omega
    have w := inc_i64 (i := i) (by omega)
    have h1 := ih (i + 1) (by omega)
    rw [← h1]
    have ef : (l.take (i + 1)).filter fewB = (l.take i).filter fewB ++ if l[i].2.1.length ≤ 300 then [l[i]] else [] := by
      rw [← List.take_append_getElem hlt, List.filter_append]
      congr 1
      by_cases h : l[i].2.1.length ≤ 300 <;> simp [fewB, h]
    have hbl : ((l.take i).filter fewB).length ≤ i := by
      have h1 := List.length_filter_le fewB (l.take i)
      rw [List.length_take] at h1
      omega
    rw [ef]
    generalize (l.take i).filter fewB = q at hbl ⊢
    have t1 : iLt (i : Int) (xLen (rOf cW l)) = true := by simp; omega
    have t2 : iLt (i : Int) 40 = true := by simp; omega
    have t3 : okPos (i : Int) = true := by simp
    have t4 : okGet [PV.int .i64 0, .str [], .int .i64 0, .int .i64 0, .str [], .int .i64 0] (rOf cW l) (nNat (i : Int)) = true := by simp; omega
    have x0 : xInt (rOf cW l) (nNat (i : Int)) 0 = l[i].1 := by simp [hlt]
    have x1 : xStr (rOf cW l) (nNat (i : Int)) 1 = l[i].2.1 := by simp [hlt]
    have x2 : xInt (rOf cW l) (nNat (i : Int)) 2 = l[i].2.2.1.1 := by simp [hlt]
    have x3 : xInt (rOf cW l) (nNat (i : Int)) 3 = l[i].2.2.1.2.1 := by simp [hlt]
    have x4 : xStr (rOf cW l) (nNat (i : Int)) 4 = l[i].2.2.1.2.2 := by simp [hlt]
    have x5 : xInt (rOf cW l) (nNat (i : Int)) 5 = l[i].2.2.2 := by simp [hlt]
    generalize l[i] = c at x0 x1 x2 x3 x4 x5 ⊢
    obtain ⟨ck, ct, ⟨vk, vn, vs⟩, cp⟩ := c
    simp only at x0 x1 x2 x3 x4 x5 ⊢
    have o2 : okNews [[PV.int .i64 ck, .str ct, .int .i64 vk, .int .i64 vn, .str vs, .int .i64 cp]] 6 = true := by simp [one]
    have o3 : okSize (rOf cW q) 6 = true := okSize_cW _
    by_cases hc : ct.length ≤ 300
    · have t5 : iLe (sLen ct) 300 = true := by simp; omega
      rw [if_pos hc, aT_snoc, fS_snoc]
      cases q with
      | nil =>
        show xRows1_V [_, _, _, _, _, .sl [] .full, _] ⟨[wC a, wC b], [], _⟩ = _
        simp only [wC]
        rw [xRows1_E]
        have o1 : okGrow [] [[PV.int .i64 ck, .str ct, .int .i64 vk, .int .i64 vn, .str vs, .int .i64 cp]] 64 = true := by simp
        simp only [xRows1_Tr, t1, t2, t3, t4, x0, x1, x2, x3, x4, x5, t5, o1, o2, w]
        simp [one_cW]
      | cons y q =>
        show xRows1_V [_, _, _, _, _, .sl (rOf cW (y :: q)) (.tok 0), _] ⟨[wC a, wC b], [((y :: q).length, 6, 37)], _⟩ = _
        simp only [wC]
        rw [xRows1_E1]
        have o1 : okGrow (rOf cW (y :: q)) [[PV.int .i64 ck, .str ct, .int .i64 vk, .int .i64 vn, .str vs, .int .i64 cp]] 64 = true := by
          simp only [List.length_cons] at hbl
          simp
          omega
        simp only [xRows1_Tr1, t1, t2, t3, t4, x0, x1, x2, x3, x4, x5, t5, o1, o2, o3, w]
        simp [snoc_cW]
    · have t5 : iLe (sLen ct) 300 = false := by simp; omega
      rw [if_neg hc, List.append_nil]
      cases q with
      | nil =>
        show xRows1_V [_, _, _, _, _, .sl [] .full, _] ⟨[wC a, wC b], [], _⟩ = xRows1_V [_, _, _, _, _, .sl [] .full, _] ⟨[wC a, wC b], [], _⟩
        simp only [wC]
        rw [xRows1_E]
        simp only [xRows1_Tr, t1, t2, t3, t4, x0, x1, x2, x3, x4, x5, t5, w]
        simp
      | cons y q =>
        show xRows1_V [_, _, _, _, _, .sl (rOf cW (y :: q)) (.tok 0), _] ⟨[wC a, wC b], [((y :: q).length, 6, 37)], _⟩ = xRows1_V [_, _, _, _, _, .sl (rOf cW (y :: q)) (.tok 0), _] ⟨[wC a, wC b], [((y :: q).length, 6, 37)], _⟩
        simp only [wC]
        rw [xRows1_E1]
        simp only [xRows1_Tr1, t1, t2, t3, t4, x0, x1, x2, x3, x4, x5, t5, w]
        simp
theorem whV_parts {W W' : Option PV} {s : List UInt8} {n : Int} (h : W = some (whV s n)) : ∃ a b c, W = some (.tup [.int .i64 a, .int .i64 b, .int .i64 c]) ∧ whV s n = .tup [.int .i64 a, .int .i64 b, .int .i64 c] := by
  rw [h]
  unfold whV
  split <;> exact ⟨_, _, _, rfl, rfl⟩
theorem xRows_law (l : List Wd) (s : List UInt8) (n : Int) (a b : Wd) : xRows_W (rOf cW l) s n a.1 a.2.1 a.2.2.1.1 a.2.2.1.2.1 a.2.2.1.2.2 a.2.2.2 b.1 b.2.1 b.2.2.1.1 b.2.2.1.2.1 b.2.2.1.2.2 b.2.2.2 = some (.bool true) := by
  have hc := cut_len s
  have h := xRows_loop l (s.take 3000) n a b (min l.length 40) 0 (by omega)
  have h' : xRows1_V [.sl (rOf cW l) .non, .str (s.take 3000), .int .i64 n, .ptr 0 0, .ptr 1 0, .sl [] .full, .int .i64 0] ⟨[wC a, wC b], [], [37, 37]⟩ = some (.exit 0, [.str (s.take 3000), .int .i64 n, .ptr 0 0, .ptr 1 0, .sl (rOf cW (fewW l)) (aT (fewW l))], fS a b (fewW l)) := h
  have hfl : (fewW l).length ≤ 40 := by
    have h1 := List.length_filter_le fewB (l.take 40)
    rw [List.length_take] at h1
    unfold fewW
    omega
  have hfw : ∀ w ∈ fewW l, w.2.1.length ≤ 300 := fun w hw => by
    have := (List.mem_filter.1 hw).2
    simpa [fewB] using this
  have hj := jn_len 300 (fewW l) hfw
  have hj2 : (fewW l).length * 301 ≤ 40 * 301 := Nat.mul_le_mul_right _ hfl
  have j1 := lJoin_is (fewW l) (by omega) (by omega)
  have j2 := lJoin_v (fewW l) (by omega) (by omega)
  have j3 := rJoin_is (fewW l) (by omega) (fun w hw => Nat.le_trans (hfw w hw) (by omega))
  have j4 := rJoin_v (fewW l) (by omega) (fun w hw => Nat.le_trans (hfw w hw) (by omega))
  have w1 := lWhere_law (s := s.take 3000) (by omega) n
  have w2 := rWhere_law (s := s.take 3000) (by omega) n
  obtain ⟨p, q, r, w1', e⟩ := whV_parts (W' := none) w1
  rw [e] at w2
  have l0 : lWhere_is0 (s.take 3000) n = true := by simp only [lWhere_is0, lWhere_n, lWhere_n2, lWhere_n3, w1']; simp
  have l1 : lWhere_n (s.take 3000) n = p := by simp only [lWhere_n, w1']; simp
  have l2 : lWhere_n2 (s.take 3000) n = q := by simp only [lWhere_n2, w1']; simp
  have l3 : lWhere_n3 (s.take 3000) n = r := by simp only [lWhere_n3, w1']; simp
  have r0 : rWhere_is0 (s.take 3000) n = true := by simp only [rWhere_is0, rWhere_n, rWhere_n2, rWhere_n3, w2]; simp
  have r1 : rWhere_n (s.take 3000) n = p := by simp only [rWhere_n, w2]; simp
  have r2 : rWhere_n2 (s.take 3000) n = q := by simp only [rWhere_n2, w2]; simp
  have r3 : rWhere_n3 (s.take 3000) n = r := by simp only [rWhere_n3, w2]; simp
  have sm : sameW (a.1, a.2.1, a.2.2.1.1, a.2.2.1.2.1, a.2.2.1.2.2) (a.1, a.2.1, a.2.2.1.1, a.2.2.1.2.1, a.2.2.1.2.2) = true := decide_eq_true rfl
  unfold xRows_W xRows_Tr
  simp only [lcut_is, lcut_v]
  generalize s.take 3000 = s at h' l0 l1 l2 l3 r0 r1 r2 r3 ⊢
  cases hp : fewW l with
  | nil =>
    rw [hp] at h' j1 j2 j3 j4
    simp only [aT, fS, wC] at h'
    simp only [xRows1_is0, xRows1_is1, xRows1_k_1, xRows1_n2_0, xRows1_n2_1, xRows1_n3_0, xRows1_n3_1, xRows1_n4_0, xRows1_n4_1, xRows1_n5_0, xRows1_n5_1, xRows1_n6_0, xRows1_n6_1, xRows1_n7_0, xRows1_n7_1, xRows1_n8_0, xRows1_n8_1, xRows1_n9_0, xRows1_n9_1, xRows1_n_0, xRows1_n_1, xRows1_r_0, xRows1_r_1, xRows1_s2_0, xRows1_s2_1, xRows1_s3_0, xRows1_s3_1, xRows1_s4_0, xRows1_s4_1, xRows1_s5_0, xRows1_s5_1, xRows1_s_0, xRows1_s_1, xRows1_W, h']
    simp at j1 j2 j3 j4
    simp [l0, l1, l2, l3, r0, r1, r2, r3, j1, j2, j3, j4, sm]
  | cons x f =>
    rw [hp] at h' j1 j2 j3 j4
    simp only [aT, fS, wC] at h'
    simp only [xRows1_is0, xRows1_is1, xRows1_k_1, xRows1_n2_0, xRows1_n2_1, xRows1_n3_0, xRows1_n3_1, xRows1_n4_0, xRows1_n4_1, xRows1_n5_0, xRows1_n5_1, xRows1_n6_0, xRows1_n6_1, xRows1_n7_0, xRows1_n7_1, xRows1_n8_0, xRows1_n8_1, xRows1_n9_0, xRows1_n9_1, xRows1_n_0, xRows1_n_1, xRows1_r_0, xRows1_r_1, xRows1_s2_0, xRows1_s2_1, xRows1_s3_0, xRows1_s3_1, xRows1_s4_0, xRows1_s4_1, xRows1_s5_0, xRows1_s5_1, xRows1_s_0, xRows1_s_1, xRows1_W, h']
    simp [l0, l1, l2, l3, r0, r1, r2, r3, j1, j2, j3, j4, sm]
noncomputable def F_LexRows : List PV → Tr PV
  | [.sl r .non, .str _, .int .i64 _, .agg [.int .i64 _, .str _, .int .i64 _, .int .i64 _, .str _, .int .i64 _], .agg [.int .i64 _, .str _, .int .i64 _, .int .i64 _, .str _, .int .i64 _]] => Tr.chk (okR cW r) (.ret (.bool true))
  | _ => .fail
theorem sim_LexRows {gl : Gl} (hg : GlLex gl) : SimP Tryd.prog gl 8 fun args => (F_LexRows args).run := by
  refine SimP.imp (sim_xRows gl hg) ?_
  intro args x h
  unfold F_LexRows at h
  split at h
  · rename_i r s n a1 a2 a3 a4 a5 a6 b1 b2 b3 b4 b5 b6
    obtain ⟨h0, h⟩ := Tr.chk_some h
    cases h
    obtain ⟨l, rfl⟩ := okR_eq cW h0
    have hw := xRows_law l s n (a1, a2, (a3, a4, a5), a6) (b1, b2, (b3, b4, b5), b6)
    simp only at hw
    simp [F_xRows, xRows_is0, xRows_b, hw]
  · cases h

/-! ### LexGaps -/
def moreL (t : List UInt8) : List (List UInt8) := [[32], [9], [10], [13], 37 :: 32 :: t ++ [10], [37, 10, 37, 10]]
theorem gp_com (t : List UInt8) (h : ∀ b ∈ t, b.toNat ≠ 10) : gpS true t = some true := by
  induction t with
  | nil => rfl
  | cons b t ih =>
    have hb := h b (by simp)
    have : (decide (b.toNat = 37) || true && decide (b.toNat ≠ 10)) = true := by simp [hb]
    simp only [gpS, Bool.true_or, if_true, this]
    exact ih fun x hx => h x (by simp [hx])
theorem pln_no (s : List UInt8) : ∀ b ∈ plnL s, b.toNat ≠ 10 := fun b hb => by
  have := (List.mem_filter.1 hb).2
  simpa using this
theorem pln_len (s : List UInt8) : (plnL s).length ≤ s.length := List.length_filter_le _ _
theorem more_gap {t : List UInt8} (h : ∀ b ∈ t, b.toNat ≠ 10) {i : Nat} {z : List UInt8} (hz : (moreL t)[i]? = some z) : gpS false z = some false ∧ hdIs gpB z = true ∧ z.length ≤ t.length + 4 := by
  match i, hz with
  | 0, hz => cases hz; exact ⟨rfl, rfl, by simp⟩
  | 1, hz => cases hz; exact ⟨rfl, rfl, by simp⟩
  | 2, hz => cases hz; exact ⟨rfl, rfl, by simp⟩
  | 3, hz => cases hz; exact ⟨rfl, rfl, by simp⟩
  | 4, hz =>
    cases hz
    refine ⟨?_, rfl, by simp⟩
    show gpS true (t ++ [10]) = some false
    rw [gpS_app t true true _ (gp_com t h)]
    rfl
  | 5, hz => cases hz; exact ⟨rfl, rfl, by simp⟩
  | i + 6, hz => simp [moreL] at hz
theorem tail_gap {t : List UInt8} (h : ∀ b ∈ t, b.toNat ≠ 10) (c : Bool) : ∃ c', gpS c (10 :: 37 :: t) = some c' := by
  refine ⟨true, ?_⟩
  cases c <;> exact gp_com t h
theorem xGaps_law (s t : List UInt8) (k n : Int) (hk : 0 ≤ k ∧ k ≤ 18446744073709551615) (hn : 0 ≤ n ∧ n ≤ 255) : xGaps_W s k n t = some (.bool true) := by
  have hc := cut_len s
  have hct := cut_len t
  have h : (s.take 3000).length ≤ 65536 := by omega
  unfold xGaps_W xGaps_Tr
  simp only [awake_is, awake_v, lcut_is, lcut_v, lWords_is_v h, lWords_e_v h, lWords_r_v h]
  generalize s.take 3000 = s at hc h ⊢
  generalize t.take 3000 = t at hct ⊢
  simp only [lplain_is (s := t) (by omega), lplain_v (s := t) (by omega)]
  have hnt := pln_no t
  have hntl := pln_len t
  generalize plnL t = t at hnt hntl ⊢
  cases hw : wordsL s with
  | mk l o =>
    cases o with
    | some p =>
      rw [(words_no hw).2]
      rfl
    | none =>
      obtain ⟨e1, e2⟩ := words_of hw
      have hll := wL_len s
      rw [e1] at hll
      rw [e1, e2]
      have xl : xLen (rOf cW l) = (l.length : Nat) := by simp
      rw [xl]
      by_cases h0 : l.length = 0
      · have q1 : iNe 0 0 = false := rfl
        have q2 : iEq ((l.length : Nat) : Int) 0 = true := by simp; exact List.length_eq_zero_iff.1 h0
        rw [q1, q2]
        rfl
      · have q1 : iNe 0 0 = false := rfl
        have q2 : iEq ((l.length : Nat) : Int) 0 = false := by simp; intro hh; exact h0 (by rw [hh]; rfl)
        have w1 : iWrap .u64 ((l.length : Nat) : Int) = (l.length : Nat) := wrap_u64 (by omega)
        obtain ⟨kk, rfl⟩ : ∃ kk : Nat, k = (kk : Int) := ⟨k.toNat, by omega⟩
        obtain ⟨nn, rfl⟩ : ∃ nn : Nat, n = (nn : Int) := ⟨n.toNat, by omega⟩
        have w2 : iRem (kk : Int) ((l.length : Nat) : Int) = ((kk % l.length : Nat) : Int) := by
          unfold iRem
          rw [Int.tmod_eq_emod_of_nonneg (by omega)]
          omega
        have hj : kk % l.length < l.length := Nat.mod_lt _ (by omega)
        have w3 : iWrap .i64 ((kk % l.length : Nat) : Int) = (kk % l.length : Nat) := wrap_i64 (by omega)
        have w4 : iWrap .i64 ((nn : Nat) : Int) = (nn : Nat) := wrap_i64 (by omega)
        have w5 : iRem (nn : Int) 6 = ((nn % 6 : Nat) : Int) := by
          unfold iRem
          rw [Int.tmod_eq_emod_of_nonneg (by omega)]
          omega
        simp only [q1, q2, w1, w2, w3, w4, w5]
        generalize kk % l.length = j at hj ⊢
        have hi : nn % 6 < 6 := Nat.mod_lt _ (by omega)
        generalize nn % 6 = i at hi ⊢
        have hget : l[j]? = some l[j] := List.getElem?_eq_getElem hj
        have hzl : (moreL t).length = 6 := rfl
        have hz : (moreL t)[i]? = some (moreL t)[i] := List.getElem?_eq_getElem (by omega)
        obtain ⟨z1, z2, z3⟩ := more_gap hnt hz
        obtain ⟨p, p1, p2, p3⟩ := words_more z1 z2 hw hget
        have p4 := Lx.tail (z := 10 :: 37 :: t) rfl (tail_gap hnt) p3
        obtain ⟨l', g1, g2⟩ := lx_words p4
        have row : ([[PV.str [32]], [.str [9]], [.str [10]], [.str [13]], [.str (sApp (sApp [37, 32] t) [10])], [.str [37, 10, 37, 10]]] : List (List PV)) = rOf cS (moreL t) := rfl
        have x5 : xInt (rOf cW l) (nNat (j : Int)) 5 = (p : Nat) := by
          have h5 : xInt (rOf cW l) (nNat (j : Int)) 5 = l[j].2.2.2 := by simp [hj]
          rw [h5, p1]
        have xz : xStr (rOf cS (moreL t)) (nNat (i : Int)) 0 = (moreL t)[i] := by rw [xStr_cS0]; simp [hz]
        generalize (moreL t)[i] = z at z1 z2 z3 p3 p4 g1 xz
        have v1 : okPos ((j : Nat) : Int) = true := by simp
        have v2 : okGet [PV.int .i64 0, .str [], .int .i64 0, .int .i64 0, .str [], .int .i64 0] (rOf cW l) (nNat (j : Int)) = true := by simp; omega
        have ml : maxLen = 9223372036854775807 := rfl
        have v3 : okApp [37, 32] t = true := by rw [okApp_eq, ml]; simp; omega
        have v4 : okApp (sApp [37, 32] t) [10] = true := by rw [okApp_eq, ml]; simp; omega
        have v5 : okPos ((i : Nat) : Int) = true := by simp
        have v6 : okGet [PV.str []] (rOf cS (moreL t)) (nNat (i : Int)) = true := by simp; omega
        have v7 : okSub true (okPos ((p : Nat) : Int)) 0 (nNat (p : Int)) (nLen s) = true := by simp; omega
        have v8 : okSub (okPos ((p : Nat) : Int)) true (nNat (p : Int)) (nLen s) (nLen s) = true := by simp; omega
        have s1 : sSub s 0 (nNat (p : Int)) = s.take p := by simp
        have s2 : sSub s (nNat (p : Int)) (nLen s) = s.drop p := by simp
        have v9 : okApp (s.take p) z = true := by rw [okApp_eq, ml]; simp; omega
        have v10 : okApp (sApp (s.take p) z) (s.drop p) = true := by rw [okApp_eq, ml]; simp; omega
        have v11 : okApp (sApp (sApp (s.take p) z) (s.drop p)) [10, 37] = true := by rw [okApp_eq, ml]; simp; omega
        have v12 : okApp (sApp (sApp (sApp (s.take p) z) (s.drop p)) [10, 37]) t = true := by rw [okApp_eq, ml]; simp; omega
        have full : sApp (sApp (sApp (sApp (s.take p) z) (s.drop p)) [10, 37]) t = s.take p ++ (z ++ s.drop p) ++ 10 :: 37 :: t := by simp
        have hfl : (s.take p ++ (z ++ s.drop p) ++ 10 :: 37 :: t).length ≤ 65536 := by simp; omega
        obtain ⟨f1, f2⟩ := words_of g1
        have hlen : l.length = l'.length := by simpa using (congrArg List.length g2).symm
        have loop := xGaps_loop l l' g2.symm (by omega) l.length 0 (by omega)
        have loop' : xGaps1_V [.sl (rOf cW l) .non, .sl (rOf cW l') .non, .int .i64 0] ⟨[], [], []⟩ = some (.exit 0, [], ⟨[], [], []⟩) := loop
        have i1 : xGaps1_is0 (rOf cW l) (rOf cW l') 0 = false := by unfold xGaps1_is0 xGaps1_W; rw [loop']; exact isW_no (by simp)
        have i2 : xGaps1_is1 (rOf cW l) (rOf cW l') 0 = true := by simp [xGaps1_is1, xGaps1_W, loop']
        have xl2 : xLen (rOf cW l') = (l'.length : Nat) := by simp
        have ne : iNe ((l.length : Nat) : Int) (l'.length : Nat) = false := by simp [hlen]
        have ne0 : iNe 0 0 = false := rfl
        rw [row]
        simp only [x5, xz, v1, v2, v3, v4, v5, v6, v7, v8, s1, s2, v9, v10, v11, v12]
        simp only [full, lWords_is_v hfl, lWords_e_v hfl, lWords_r_v hfl, f1, f2, xl2, ne, ne0, i1, i2]
        rfl
noncomputable def F_LexGaps : List PV → Tr PV
  | [.str _, .int .u64 k, .int .u8 n, .str _] => Tr.chk (iLe 0 k) (Tr.chk (iLe k 18446744073709551615) (Tr.chk (iLe 0 n) (Tr.chk (iLe n 255) (.ret (.bool true)))))
  | _ => .fail
theorem sim_LexGaps {gl : Gl} (hg : GlLex gl) : SimP Tryd.prog gl 7 fun args => (F_LexGaps args).run := by
  refine SimP.imp (sim_xGaps gl hg) ?_
  intro args x h
  unfold F_LexGaps at h
  split at h
  · rename_i s k n t
    obtain ⟨h1, h⟩ := Tr.chk_some h
    obtain ⟨h2, h⟩ := Tr.chk_some h
    obtain ⟨h3, h⟩ := Tr.chk_some h
    obtain ⟨h4, h⟩ := Tr.chk_some h
    cases h
    simp at h1 h2 h3 h4
    have hw := xGaps_law s t k n ⟨h1, h2⟩ ⟨h3, h4⟩
    simp [F_xGaps, xGaps_is0, xGaps_b, hw]
  · cases h
end Go.Pv

set_option maxHeartbeats 4000000
set_option maxRecDepth 200000
set_option linter.unusedSimpArgs false
set_option linter.unusedVariables false
namespace Go.Pv
open Go Go.Proofs Go.RowKit Go.Proofs.YtejhcaaeindkjaaDoor

/-! ### the listed variables -/
theorem g_pow : Tryd.prog.globalNamed "internal/strconv.uint64pow10" = some 4 := by kernel_rfl
theorem gt_pow : (Tryd.prog.globals[4]?).map (·.type) = some 129 := by kernel_rfl
theorem g_rng : Tryd.prog.globalNamed "strconv.ErrRange" = some 3 := by kernel_rfl
theorem gt_rng : (Tryd.prog.globals[3]?).map (·.type) = some 65 := by kernel_rfl
theorem g_syn : Tryd.prog.globalNamed "strconv.ErrSyntax" = some 2 := by kernel_rfl
theorem gt_syn : (Tryd.prog.globals[2]?).map (·.type) = some 65 := by kernel_rfl
theorem g_two : Tryd.prog.globalNamed "pedigree/lex.twos" = some 0 := by kernel_rfl
theorem gt_two : (Tryd.prog.globals[0]?).map (·.type) = some 71 := by kernel_rfl
/-- The package's variables, as they lie in a world. -/
def glAt (W : World) : Gl := ⟨fun b => W.heap[b]?, fun _ _ => .cells #[] 0 (0, 0), fun _ => []⟩
def laidL : List (String × DataW Unit) := [("math/bits.deBruijn32tab", Rows.laid_math_bits_deBruijn32tab), ("math/bits.deBruijn64tab", Rows.laid_math_bits_deBruijn64tab), ("internal/strconv.uint64pow10", Rows.laid_internal_strconv_uint64pow10), ("strconv.ErrRange", Rows.laid_strconv_ErrRange), ("strconv.ErrSyntax", Rows.laid_strconv_ErrSyntax), ("pedigree/lex.twos", Rows.laid_pedigree_lex_twos)]
theorem laidL_plain : (laidL.filter fun x => x.2.handleName?.isSome) = [] := by kernel_rfl
theorem glPow_laid {W : World} (h : laidMetH Tryd.prog laidL W) : GlPow (glAt W) := by
  unfold laidMetH at h
  rw [laidL_plain] at h
  obtain ⟨ps, hl, _⟩ := h
  refine ⟨?_⟩
  obtain ⟨g, t, cs, fuel, p, h1, h2, h3, h4⟩ := laid_var (nm := "internal/strconv.uint64pow10") hl (.tail _ (.tail _ (.head _)))
  obtain rfl := Option.some.inj (g_pow.symm.trans h1)
  obtain rfl := Option.some.inj (gt_pow.symm.trans h2)
  have e : (Rows.laid_internal_strconv_uint64pow10 : DataW Unit) = Lib.tabData .u64 Lib.pow10Tab := by rfl
  rw [e] at h4
  have hc := Lib.cells_of_tab Tryd.underlying129 Tryd.underlying94 (by kernel_rfl) (by kernel_rfl) h4
  obtain ⟨T, f, hh⟩ := var_heap h1 h3
  refine ⟨4, T, f, g_pow, ?_⟩
  show W.heap[4]? = _
  rw [← hc]
  simpa using hh
theorem glOk_laid {W : World} (h0 : laidMetH Tryd.prog laidL W) : GlOk (glAt W) := by
  have h := h0
  unfold laidMetH at h
  rw [laidL_plain] at h
  obtain ⟨ps, hl, _⟩ := h
  refine ⟨glPow_laid h0, ?_, ?_⟩
  · obtain ⟨g, t, cs, fuel, p, h1, h2, h3, h4⟩ := laid_var (nm := "strconv.ErrSyntax") hl (.tail _ (.tail _ (.tail _ (.tail _ (.head _)))))
    obtain rfl := Option.some.inj (g_syn.symm.trans h1)
    obtain rfl := Option.some.inj (gt_syn.symm.trans h2)
    obtain ⟨u, v, rfl⟩ := trod_iface Tryd.underlying65 h4
    obtain ⟨T, f, hh⟩ := var_heap h1 h3
    exact ⟨u, v, 2, T, f, g_syn, hh⟩
  · obtain ⟨g, t, cs, fuel, p, h1, h2, h3, h4⟩ := laid_var (nm := "strconv.ErrRange") hl (.tail _ (.tail _ (.tail _ (.head _))))
    obtain rfl := Option.some.inj (g_rng.symm.trans h1)
    obtain rfl := Option.some.inj (gt_rng.symm.trans h2)
    obtain ⟨u, v, rfl⟩ := trod_iface Tryd.underlying65 h4
    obtain ⟨T, f, hh⟩ := var_heap h1 h3
    exact ⟨u, v, 3, T, f, g_rng, hh⟩
/-- An array of texts that reads as these texts holds them. -/
theorem cells_of_strs {H : Type} {enc : TypeId × Value → H} {P : Program} {w : World} {base : Nat} {sp : Nat → Bool} {held : Bool} {fuel : Nat} {t e : TypeId} {n : Nat} {cs : List Value} {zs : List (List UInt8)} {p : List MemPlace}
    (ht : P.underlying t = some (.array n e)) (he : P.underlying e = some .string) (hce : P.cellsOf e = 1) (hct : P.cellsOf t = n)
    (h : DataW.trod enc P w base sp held fuel t cs = some (.agg (zs.map fun z => .lit (.string z)), p)) : cs = zs.map fun z => Value.string ⟨z.toArray⟩ := by
  cases fuel with
  | zero => simp [DataW.trod] at h
  | succ fuel =>
    simp only [DataW.trod, ht, hce, hct, Nat.mul_one] at h
    split at h
    · rename_i hl
      obtain ⟨xs, hm, hx⟩ := Option.map_eq_some_iff.1 h
      have hxs : xs.map (·.1) = zs.map fun z => (DataW.lit (.string z) : DataW H) := by
        have := congrArg Prod.fst hx
        simpa using this
      have hxl : xs.length = n := by simpa using Lib.mapM_length hm
      have hzl : zs.length = n := by
        have := congrArg List.length hxs
        simp at this
        omega
      apply List.ext_getElem?
      intro i
      by_cases hi : i < n
      · obtain ⟨b, hb, hf⟩ := Lib.mapM_at hm i i (by simp [hi])
        obtain ⟨z, hc, rfl, _⟩ := DataW.trod_string he hf
        have h1 : cs[i]? = some (.string z) := by
          have := congrArg (·[0]?) hc
          simpa [List.getElem?_take, List.getElem?_drop] using this
        have h2 : (xs.map (·.1))[i]? = some (DataW.lit (.string z.data.toList) : DataW H) := by simp [hb]
        rw [hxs] at h2
        simp only [List.getElem?_map, Option.map_eq_some_iff, DataW.lit.injEq, Lit.string.injEq] at h2
        obtain ⟨z', hz', rfl⟩ := h2
        simp [h1, hz']
      · rw [List.getElem?_eq_none (by omega), List.getElem?_eq_none (by simp; omega)]
    · cases h
theorem glLex_laid {W : World} (h0 : laidMetH Tryd.prog laidL W) : GlLex (glAt W) := by
  have h := h0
  unfold laidMetH at h
  rw [laidL_plain] at h
  obtain ⟨ps, hl, _⟩ := h
  refine ⟨glOk_laid h0, ?_⟩
  obtain ⟨g, t, cs, fuel, p, h1, h2, h3, h4⟩ := laid_var (nm := "pedigree/lex.twos") hl (.tail _ (.tail _ (.tail _ (.tail _ (.tail _ (.head _))))))
  obtain rfl := Option.some.inj (g_two.symm.trans h1)
  obtain rfl := Option.some.inj (gt_two.symm.trans h2)
  have e : (Rows.laid_pedigree_lex_twos : DataW Unit) = .agg (twosV.map fun z => .lit (.string z)) := by rfl
  rw [e] at h4
  have hc := cells_of_strs Tryd.underlying71 Tryd.underlying9 (by kernel_rfl) (by kernel_rfl) h4
  obtain ⟨T, f, hh⟩ := var_heap h1 h3
  refine ⟨0, T, f, g_two, ?_⟩
  show W.heap[0]? = _
  rw [← hc]
  simpa using hh
theorem laidOut : laidOutB Tryd.prog = true := by kernel_rfl

/-- From a law's contract to its row's. -/
theorem law_calls {F : List PV → Tr PV} {f : FuncId} {fn : Func} {s : ChangeSpec} (hsim : ∀ {gl : Gl}, GlLex gl → SimP Tryd.prog gl f fun args => (F args).run) (hF : ∀ xs, ArgL Tryd.prog fn.params.toList xs → (∃ H w vs, RelL H w xs vs) → (F xs).run = some (.bool true))
    (hrt : fn.resultTypes = #[4]) (hsv : s.vars = []) (hT : (fn.params.toList.all fun t => okT Tryd.prog 9 t && Tryd.prog.readableRec t && decide (t < Tryd.prog.types.size)) = true)
    {H : Type} {enc : TypeId × Value → H} {W : World} {base : Nat} {args : Array Value} {ds gs : List (DataW H)} {before : List MemPlace} (hfn : ∀ ds : List (DataW H), ds.length = fn.params.size → s.fn H ds = { results := [.lit (.bool true)], args := ds })
    (hval : ∀ (j : Nat) t v, fn.params[j]? = some t → args[j]? = some v → Value.okWide Tryd.prog W .any base t v) (hW : DataW.Whole enc Tryd.prog fn.params.toList s.vars false W args.toList ds gs before) (hL : laidMetH Tryd.prog laidL W) :
    Calls Tryd.prog f args W fun e W' => ∃ v, e = .returned v ∧ s.post enc Tryd.prog fn false true false false W args v W' := by
  have hW' := hW
  obtain ⟨p, q, hA, hV, rfl, hfz, hnd⟩ := hW'
  have hT' : ∀ t ∈ fn.params.toList, okT Tryd.prog 9 t = true ∧ Tryd.prog.readableRec t = true ∧ t < Tryd.prog.types.size := by
    intro t ht
    have := List.all_eq_true.1 hT t ht
    simp only [Bool.and_eq_true, decide_eq_true_eq] at this
    exact ⟨this.1.1, this.1.2, this.2⟩
  obtain ⟨xs, hx, ha⟩ := args_rel (n := 9) (fun j t v ht hv => hval j t v (by simpa using ht) (by simpa using hv)) hA (List.all_eq_true.2 fun t ht => (hT' t ht).1)
  have hlen : ds.length = fn.params.size := by
    have h1 : ∀ {ts : List TypeId} {vs : List Value} {ds : List (DataW H)} {ps : List MemPlace}, DataW.TrodAll enc Tryd.prog W 0 (fun _ => true) true ts vs ds ps → ds.length = ts.length := by
      intro ts
      induction ts with
      | nil => intro vs ds ps h; obtain ⟨rfl, rfl, rfl⟩ := Go.ChangeShapes.trodAll_nil h; rfl
      | cons t ts ih =>
        intro vs ds ps h
        obtain ⟨v, vs', d, ds', p, q, rfl, rfl, rfl, hd, hrest⟩ := Go.ChangeShapes.trodAll_cons h
        simp [ih hrest]
    simpa using h1 hA
  have hc := (hsim (glLex_laid hL)).run xs _ (hF xs ha ⟨_, _, _, hx⟩) (ghOf W) W args.toList rfl rfl rfl (fun b o h => h) hx
  simp only [Array.toArray_toList] at hc
  refine hc.mono ?_
  rintro e W' ⟨v, rfl, hb, hr⟩
  cases hr
  exact ⟨_, rfl, law_post laidOut hrt Tryd.underlying4 hsv (fun t ht => (hT' t ht).2) hW (hfn ds hlen) hb.1⟩
end Go.Pv
namespace Go.Proofs.YtejhcaaeindkjaaDoor
open Go Go.Proofs Go.RowKit Go.Pv Go.ChangeShapes Go.WideShapes Go.ChangeAt

/-! ### arguments of the laws' types -/
theorem shp_int {t : TypeId} {k : IntKind} {xs : List PV} (hu : Tryd.prog.underlying t = some (.int k)) (h : Shp Tryd.prog t xs) : ∃ n, xs = [.int k n] := by
  cases h with
  | int t k' n h => rw [hu] at h; cases h; exact ⟨n, rfl⟩
  | bool t b h => rw [hu] at h; cases h
  | str t l h => rw [hu] at h; cases h
  | sl t e xss h hx => rw [hu] at h; cases h
  | struct t fs xs h hx => rw [hu] at h; cases h
theorem shp_str {t : TypeId} {xs : List PV} (hu : Tryd.prog.underlying t = some .string) (h : Shp Tryd.prog t xs) : ∃ l, xs = [.str l] := by
  cases h with
  | str t l h => exact ⟨l, rfl⟩
  | int t k' n h => rw [hu] at h; cases h
  | bool t b h => rw [hu] at h; cases h
  | sl t e xss h hx => rw [hu] at h; cases h
  | struct t fs xs h hx => rw [hu] at h; cases h
theorem shp_struct {t : TypeId} {fs : Array Field} {xs : List PV} (hu : Tryd.prog.underlying t = some (.struct fs)) (h : Shp Tryd.prog t xs) : ShpL Tryd.prog (fs.toList.map (·.type)) xs := by
  cases h with
  | struct t fs xs h hx => rw [hu] at h; cases h; exact hx
  | str t l h => rw [hu] at h; cases h
  | int t k' n h => rw [hu] at h; cases h
  | bool t b h => rw [hu] at h; cases h
  | sl t e xss h hx => rw [hu] at h; cases h
theorem shp_sl {t e : TypeId} {xs : List PV} (hu : Tryd.prog.underlying t = some (.slice e)) (h : Shp Tryd.prog t xs) : ∃ xss, xs = [.sl xss .non] ∧ ∀ ys, ys ∈ xss → Shp Tryd.prog e ys := by
  cases h with
  | sl t e xss h hx => rw [hu] at h; cases h; exact ⟨xss, rfl, hx⟩
  | str t l h => rw [hu] at h; cases h
  | int t k' n h => rw [hu] at h; cases h
  | bool t b h => rw [hu] at h; cases h
  | struct t fs xs h hx => rw [hu] at h; cases h
/-- Rows told by a code. -/
theorem shp_rows {α : Type} (C : Cod α) {t e : TypeId} {xs : List PV} (hu : Tryd.prog.underlying t = some (.slice e)) (he : ∀ ys, Shp Tryd.prog e ys → ∃ a, ys = C.enc a) (h : Shp Tryd.prog t xs) : ∃ l : List α, xs = [.sl (rOf C l) .non] := by
  obtain ⟨xss, rfl, hx⟩ := shp_sl hu h
  have : ∃ l : List α, xss = rOf C l := by
    clear h
    induction xss with
    | nil => exact ⟨[], rfl⟩
    | cons y ys ih =>
      obtain ⟨a, rfl⟩ := he y (hx y (List.mem_cons_self ..))
      obtain ⟨l, rfl⟩ := ih fun z hz => hx z (List.mem_cons_of_mem _ hz)
      exact ⟨a :: l, rfl⟩
  obtain ⟨l, rfl⟩ := this
  exact ⟨l, rfl⟩
theorem arg_rows {α : Type} (C : Cod α) {t e : TypeId} {x : PV} (hu : Tryd.prog.underlying t = some (.slice e)) (he : ∀ ys, Shp Tryd.prog e ys → ∃ a, ys = C.enc a) (h : Arg Tryd.prog t x) : ∃ l : List α, x = .sl (rOf C l) .non := by
  rcases h with ⟨fs, ys, hu', rfl, hs⟩ | ⟨hne, hs⟩
  · rw [hu] at hu'; cases hu'
  · obtain ⟨l, h⟩ := shp_rows C hu he hs
    cases h
    exact ⟨l, rfl⟩
theorem arg_int {k : IntKind} {t : TypeId} {x : PV} (hu : Tryd.prog.underlying t = some (.int k)) (h : Arg Tryd.prog t x) : ∃ n, x = .int k n := by
  rcases h with ⟨fs, ys, hu', rfl, hs⟩ | ⟨hne, hs⟩
  · rw [hu] at hu'; cases hu'
  · obtain ⟨n, h⟩ := shp_int hu hs
    cases h
    exact ⟨n, rfl⟩
theorem arg_str {x : PV} (h : Arg Tryd.prog 9 x) : ∃ s, x = .str s := by
  rcases h with ⟨fs, ys, hu, rfl, hs⟩ | ⟨hne, hs⟩
  · rw [Tryd.underlying9] at hu; cases hu
  · obtain ⟨s, h⟩ := shp_str Tryd.underlying9 hs
    cases h
    exact ⟨s, rfl⟩
theorem shp_val {xs : List PV} (h : Shp Tryd.prog 35 xs) : ∃ v : Vl, xs = [.int .i64 v.1, .int .i64 v.2.1, .str v.2.2] := by
  have h1 := shp_struct Tryd.underlying35 h
  cases h1 with
  | cons t ts xs ys ha hs =>
    obtain ⟨k, rfl⟩ := shp_int Tryd.underlying33 ha
    cases hs with
    | cons t ts xs ys hb hs =>
      obtain ⟨n, rfl⟩ := shp_int Tryd.underlying2 hb
      cases hs with
      | cons t ts xs ys hc hs =>
        obtain ⟨s, rfl⟩ := shp_str Tryd.underlying9 hc
        cases hs
        exact ⟨(k, n, s), rfl⟩
theorem shp_word {xs : List PV} (h : Shp Tryd.prog 37 xs) : ∃ v : Wd, xs = cW.enc v := by
  have h1 := shp_struct Tryd.underlying37 h
  cases h1 with
  | cons t ts xs ys ha hs =>
    obtain ⟨k, rfl⟩ := shp_int Tryd.underlying32 ha
    cases hs with
    | cons t ts xs ys hb hs =>
      obtain ⟨s, rfl⟩ := shp_str Tryd.underlying9 hb
      cases hs with
      | cons t ts xs ys hc hs =>
        obtain ⟨v, rfl⟩ := shp_val hc
        cases hs with
        | cons t ts xs ys hd hs =>
          obtain ⟨n, rfl⟩ := shp_int Tryd.underlying3 hd
          cases hs
          exact ⟨(k, s, v, n), rfl⟩
theorem arg_words {x : PV} (h : Arg Tryd.prog 23 x) : ∃ l : List Wd, x = .sl (rOf cW l) .non := arg_rows cW Tryd.underlying23 (fun _ h => shp_word h) h
theorem arg_word {x : PV} (h : Arg Tryd.prog 37 x) : ∃ v : Wd, x = .agg [.int .i64 v.1, .str v.2.1, .int .i64 v.2.2.1.1, .int .i64 v.2.2.1.2.1, .str v.2.2.1.2.2, .int .i64 v.2.2.2] := by
  rcases h with ⟨fs, ys, hu, rfl, hs⟩ | ⟨hne, _⟩
  · obtain ⟨v, rfl⟩ := shp_word hs
    exact ⟨v, rfl⟩
  · exact absurd Tryd.underlying37 (hne _)

/-! ### a world that fits -/
def litVals : DataW Unit → Array Value
  | .agg l => (l.map fun d => match d with | .lit (.int k n) => Value.int k n | .lit (.string s) => Value.string ⟨s.toArray⟩ | _ => undef).toArray
  | _ => #[]
noncomputable def low : Nat := (World.holding Tryd.prog default ⟨#[], #[], []⟩).heap.size
noncomputable def laidWorld (os : Os) : World :=
  let w0 := World.holding Tryd.prog os ⟨#[.cells #[.string ⟨#[118, 97, 108, 117, 101, 32, 111, 117, 116, 32, 111, 102, 32, 114, 97, 110, 103, 101]⟩] 127, .cells #[.string ⟨#[105, 110, 118, 97, 108, 105, 100, 32, 115, 121, 110, 116, 97, 120]⟩] 127], #[], []⟩
  { w0 with heap := ((((((w0.heap.modify 2 fun
      | .cells _ t frozen => .cells #[.iface 125 (.pointer (some ⟨low + 1, 0, none⟩))] t frozen
      | o => o).modify 3 fun
      | .cells _ t frozen => .cells #[.iface 125 (.pointer (some ⟨low, 0, none⟩))] t frozen
      | o => o).modify 5 fun
      | .cells _ t frozen => .cells (litVals Rows.laid_math_bits_deBruijn32tab) t frozen
      | o => o).modify 6 fun
      | .cells _ t frozen => .cells (litVals Rows.laid_math_bits_deBruijn64tab) t frozen
      | o => o).modify 4 fun
      | .cells _ t frozen => .cells (litVals Rows.laid_internal_strconv_uint64pow10) t frozen
      | o => o).modify 0 fun
      | .cells _ t frozen => .cells (litVals Rows.laid_pedigree_lex_twos) t frozen
      | o => o) }
theorem own : ownKnob Tryd.prog.godebug = none := by kernel_rfl
theorem laid_met (os : Os) (args : Array Value) : laidMet Tryd.prog laidL ((laidWorld os).forCall (fun _ _ => 0) ⟨#[], args, []⟩).memory :=
  laidMet_of_run' 8 (by kernel_rfl) (by kernel_rfl)
end Go.Proofs.YtejhcaaeindkjaaDoor
