/- Part 5 of the proof: pure values for the machine's values, what functions compute over them, and laws of what is computed. Conditions: none beyond each theorem's own premises. -/
import Derived.Test.YtdfahkeodlfopaaDoorPvG4
import Derived.Test.YtdfahkeodlfopaaDoorShelf
import Derived.Lib.AppendIntMem
import Derived.Lib.ItoaLen
import Derived.Lib.ParseIntBTie
import Derived.Shelf.Strings.BuilderK
set_option maxHeartbeats 4000000
set_option maxRecDepth 200000
set_option linter.unusedSimpArgs false
set_option linter.unusedVariables false
namespace Go.Pv
open Go Go.Proofs
noncomputable def G_TPlace : GamT := ofL [(16, .pure F_TCmp)]
theorem gok_TPlace (gl : Nat → Option Obj) : GamOk Tryd.prog gl (gam G_TPlace) := (gamOk_cons (sim_TCmp gl) gamOk_nil)
noncomputable def c_TPlace1 : Code := loopC Tryd.f40 3
def I_TPlace1 : LI := ⟨32, [1, 6, 7, 11, 12, 13], fun e => match e with | .exit 0 => [6, 7] | _ => [], true⟩
noncomputable def LI_TPlace1 : LpsT := fun r fr σ => .fail
noncomputable def TPlace1_V (vs : List PV) (σ : Store) : Option (PExit × List PV × Store) := lval (lstep tbT G_TPlace LI_TPlace1 c_TPlace1 I_TPlace1) vs σ
noncomputable def TPlace1_Tr (t : List (List PV)) (n : Int) (there : Bool) (r : List (List PV)) (n2 : Int) (n3 : Int) : Tr LR := Tr.ite (iLt n3 n2) (Tr.ite (okPos n3) (Tr.ite (okGet [PV.sl [] .full] r (nNat n3)) (Tr.ite (okR cV (lockLL (lockLL (xRow r (nNat n3) 0)))) (Tr.ite (okR cV (lockLL (lockLL t))) (Tr.ite (iLt (cmpTV (lockLL (lockLL (xRow r (nNat n3) 0))) (lockLL (lockLL t))) 0) (Tr.ite there (Tr.ret (LR.next [PV.sl t .non, PV.int .i64 (iAdd .i64 n 1), PV.bool true, PV.sl r .non, PV.int .i64 n2, PV.int .i64 (iAdd .i64 n3 1)] (Store.mk [] [] []))) (Tr.ret (LR.next [PV.sl t .non, PV.int .i64 (iAdd .i64 n 1), PV.bool (iEq (cmpTV (lockLL (lockLL (xRow r (nNat n3) 0))) (lockLL (lockLL t))) 0), PV.sl r .non, PV.int .i64 n2, PV.int .i64 (iAdd .i64 n3 1)] (Store.mk [] [] [])))) (Tr.ite there (Tr.ret (LR.next [PV.sl t .non, PV.int .i64 n, PV.bool true, PV.sl r .non, PV.int .i64 n2, PV.int .i64 (iAdd .i64 n3 1)] (Store.mk [] [] []))) (Tr.ret (LR.next [PV.sl t .non, PV.int .i64 n, PV.bool (iEq (cmpTV (lockLL (lockLL (xRow r (nNat n3) 0))) (lockLL (lockLL t))) 0), PV.sl r .non, PV.int .i64 n2, PV.int .i64 (iAdd .i64 n3 1)] (Store.mk [] [] []))))) Tr.fail) Tr.fail) Tr.fail) Tr.fail) (Tr.ret (LR.out (.exit 0) [PV.int .i64 n, PV.bool there] (Store.mk [] [] [])))
theorem TPlace1_T (t : List (List PV)) (n : Int) (there : Bool) (r : List (List PV)) (n2 : Int) (n3 : Int) : lstep tbT G_TPlace LI_TPlace1 c_TPlace1 I_TPlace1 [.sl t .non, .int .i64 n, .bool there, .sl r .non, .int .i64 n2, .int .i64 n3] ⟨[], [], []⟩ = TPlace1_Tr t n there r n2 n3 := by kernel_rfl
theorem TPlace1_E (t : List (List PV)) (n : Int) (there : Bool) (r : List (List PV)) (n2 : Int) (n3 : Int) : TPlace1_V [.sl t .non, .int .i64 n, .bool there, .sl r .non, .int .i64 n2, .int .i64 n3] ⟨[], [], []⟩ = lnext TPlace1_V (TPlace1_Tr t n there r n2 n3).run := by unfold TPlace1_V; rw [lval_eq, TPlace1_T]
noncomputable def TPlace1_W (t : List (List PV)) (n : Int) (there : Bool) (r : List (List PV)) (n2 : Int) (n3 : Int) : Option (PExit × List PV × Store) := TPlace1_V [.sl t .non, .int .i64 n, .bool there, .sl r .non, .int .i64 n2, .int .i64 n3] ⟨[], [], []⟩
noncomputable def TPlace1_n (t : List (List PV)) (n : Int) (there : Bool) (r : List (List PV)) (n2 : Int) (n3 : Int) : Int := (gInt (gOut (TPlace1_W t n there r n2 n3) 0))
noncomputable def TPlace1_there (t : List (List PV)) (n : Int) (there : Bool) (r : List (List PV)) (n2 : Int) (n3 : Int) : Bool := (gBool (gOut (TPlace1_W t n there r n2 n3) 1))
noncomputable def TPlace1_is0 (t : List (List PV)) (n : Int) (there : Bool) (r : List (List PV)) (n2 : Int) (n3 : Int) : Bool := isW (TPlace1_W t n there r n2 n3) ((.exit 0), [.int .i64 (TPlace1_n t n there r n2 n3), .bool (TPlace1_there t n there r n2 n3)], ⟨[], [], []⟩)
noncomputable def TPlace1_prop : List PV → Store → Tr (PExit × List PV × Store) | [.sl t .non, .int .i64 n, .bool there, .sl r .non, .int .i64 n2, .int .i64 n3], ⟨[], [], []⟩ => .ite (TPlace1_is0 t n there r n2 n3) (.ret ((.exit 0), [.int .i64 (TPlace1_n t n there r n2 n3), .bool (TPlace1_there t n there r n2 n3)], ⟨[], [], []⟩)) (.fail) | _, _ => .fail
theorem TPlace1_ok : ∀ vs σ r, (TPlace1_prop vs σ).run = some r → TPlace1_V vs σ = some r := by
  intro vs σ r h
  unfold TPlace1_prop at h
  split at h
  · exact ite_isW h fun h => by cases h
  · cases h
theorem loop_TPlace1 (gl : Nat → Option Obj) : ∀ fr σ e fr' σ', (orc I_TPlace1 TPlace1_prop fr σ).run = some (e, fr', σ') → LDoes Tryd.prog gl c_TPlace1 fr σ e fr' σ' := orc_ok tbT_ok (gok_TPlace gl ) noMixed (L := LI_TPlace1) (loopOk_none (by kernel_rfl)) (by kernel_rfl) TPlace1_ok
noncomputable def L_TPlace : LpsT := fun r fr σ => bif Nat.beq r 3 then orc I_TPlace1 TPlace1_prop fr σ else .fail
noncomputable def TPlace_Tr (l : List (List PV)) (t : List (List PV)) : Tr PV := Tr.ite (TPlace1_is0 t 0 false l (xLen l) 0) (Tr.ret (PV.tup [PV.int .i64 (TPlace1_n t 0 false l (xLen l) 0), PV.bool (TPlace1_there t 0 false l (xLen l) 0)])) Tr.fail
theorem TPlace_T (l : List (List PV)) (t : List (List PV)) : (tcall tbT G_TPlace L_TPlace Tryd.f40 [.sl l .non, .sl t .non]).flat = TPlace_Tr l t := by kernel_rfl
noncomputable def TPlace_W (l : List (List PV)) (t : List (List PV)) : Option PV := (TPlace_Tr l t).run
noncomputable def TPlace_n (l : List (List PV)) (t : List (List PV)) : Int := (gInt (gAt (gCs (gVal (TPlace_W l t))) 0))
noncomputable def TPlace_b (l : List (List PV)) (t : List (List PV)) : Bool := (gBool (gAt (gCs (gVal (TPlace_W l t))) 1))
noncomputable def TPlace_is0 (l : List (List PV)) (t : List (List PV)) : Bool := isW (TPlace_W l t) (.tup [.int .i64 (TPlace_n l t), .bool (TPlace_b l t)])
noncomputable def F_TPlace : List PV → Tr PV | [.sl l .non, .sl t .non] => .ite (TPlace_is0 l t) (.ret (.tup [.int .i64 (TPlace_n l t), .bool (TPlace_b l t)])) (.fail) | _ => .fail
theorem sim_TPlace (gl : Nat → Option Obj) : SimP Tryd.prog gl 40 fun args => (F_TPlace args).run := by
  refine SimP.of_flat (G := G_TPlace) (L := L_TPlace) tbT_ok (gok_TPlace gl ) noMixed Tryd.func40 rfl (by rfl) (by kernel_rfl) (loopOk_all (L := lps L_TPlace) [(3, c_TPlace1)] (by kernel_rfl) (List.forall_mem_cons.2 ⟨fun fr σ e fr' σ' h => loop_TPlace1 gl  fr σ e fr' σ' h, (List.forall_mem_nil _)⟩)) ?_
  intro args x h
  unfold F_TPlace at h
  split at h
  · exact (congrArg Tr.run (TPlace_T _ _)).trans (ite_isW h fun h => by cases h)
  · cases h
noncomputable def G_RPlace : GamT := ofL [(39, .pure F_CmpR)]
theorem gok_RPlace (gl : Nat → Option Obj) : GamOk Tryd.prog gl (gam G_RPlace) := (gamOk_cons (sim_CmpR gl) gamOk_nil)
noncomputable def c_RPlace1 : Code := loopC Tryd.f41 3
def I_RPlace1 : LI := ⟨33, [0, 1, 6, 7, 8], fun e => match e with | .exit 0 => [6, 7] | _ => [], true⟩
noncomputable def LI_RPlace1 : LpsT := fun r fr σ => .fail
noncomputable def RPlace1_V (vs : List PV) (σ : Store) : Option (PExit × List PV × Store) := lval (lstep tbT G_RPlace LI_RPlace1 c_RPlace1 I_RPlace1) vs σ
noncomputable def RPlace1_Tr (l : List (List PV)) (t : List (List PV)) (n : Int) (in_ : Bool) (i : Int) : Tr LR := Tr.ite (iLt i (xLen l)) (Tr.ite (okPos i) (Tr.ite (okGet [PV.sl [] .full] l (nNat i)) (Tr.ite (okR cV (lockLL (xRow l (nNat i) 0))) (Tr.ite (okR cV (lockLL t)) (Tr.ite (iLt (cmpTR (lockLL (xRow l (nNat i) 0)) (lockLL t)) 0) (Tr.ite in_ (Tr.ret (LR.next [PV.sl l .non, PV.sl t .non, PV.int .i64 (iAdd .i64 n 1), PV.bool true, PV.int .i64 (iAdd .i64 i 1)] (Store.mk [] [] []))) (Tr.ret (LR.next [PV.sl l .non, PV.sl t .non, PV.int .i64 (iAdd .i64 n 1), PV.bool (iEq (cmpTR (lockLL (xRow l (nNat i) 0)) (lockLL t)) 0), PV.int .i64 (iAdd .i64 i 1)] (Store.mk [] [] [])))) (Tr.ite in_ (Tr.ret (LR.next [PV.sl l .non, PV.sl t .non, PV.int .i64 n, PV.bool true, PV.int .i64 (iAdd .i64 i 1)] (Store.mk [] [] []))) (Tr.ret (LR.next [PV.sl l .non, PV.sl t .non, PV.int .i64 n, PV.bool (iEq (cmpTR (lockLL (xRow l (nNat i) 0)) (lockLL t)) 0), PV.int .i64 (iAdd .i64 i 1)] (Store.mk [] [] []))))) Tr.fail) Tr.fail) Tr.fail) Tr.fail) (Tr.ret (LR.out (.exit 0) [PV.int .i64 n, PV.bool in_] (Store.mk [] [] [])))
theorem RPlace1_T (l : List (List PV)) (t : List (List PV)) (n : Int) (in_ : Bool) (i : Int) : lstep tbT G_RPlace LI_RPlace1 c_RPlace1 I_RPlace1 [.sl l .non, .sl t .non, .int .i64 n, .bool in_, .int .i64 i] ⟨[], [], []⟩ = RPlace1_Tr l t n in_ i := by kernel_rfl
theorem RPlace1_E (l : List (List PV)) (t : List (List PV)) (n : Int) (in_ : Bool) (i : Int) : RPlace1_V [.sl l .non, .sl t .non, .int .i64 n, .bool in_, .int .i64 i] ⟨[], [], []⟩ = lnext RPlace1_V (RPlace1_Tr l t n in_ i).run := by unfold RPlace1_V; rw [lval_eq, RPlace1_T]
noncomputable def RPlace1_W (l : List (List PV)) (t : List (List PV)) (n : Int) (in_ : Bool) (i : Int) : Option (PExit × List PV × Store) := RPlace1_V [.sl l .non, .sl t .non, .int .i64 n, .bool in_, .int .i64 i] ⟨[], [], []⟩
noncomputable def RPlace1_n (l : List (List PV)) (t : List (List PV)) (n : Int) (in_ : Bool) (i : Int) : Int := (gInt (gOut (RPlace1_W l t n in_ i) 0))
noncomputable def RPlace1_in_ (l : List (List PV)) (t : List (List PV)) (n : Int) (in_ : Bool) (i : Int) : Bool := (gBool (gOut (RPlace1_W l t n in_ i) 1))
noncomputable def RPlace1_is0 (l : List (List PV)) (t : List (List PV)) (n : Int) (in_ : Bool) (i : Int) : Bool := isW (RPlace1_W l t n in_ i) ((.exit 0), [.int .i64 (RPlace1_n l t n in_ i), .bool (RPlace1_in_ l t n in_ i)], ⟨[], [], []⟩)
noncomputable def RPlace1_prop : List PV → Store → Tr (PExit × List PV × Store) | [.sl l .non, .sl t .non, .int .i64 n, .bool in_, .int .i64 i], ⟨[], [], []⟩ => .ite (RPlace1_is0 l t n in_ i) (.ret ((.exit 0), [.int .i64 (RPlace1_n l t n in_ i), .bool (RPlace1_in_ l t n in_ i)], ⟨[], [], []⟩)) (.fail) | _, _ => .fail
theorem RPlace1_ok : ∀ vs σ r, (RPlace1_prop vs σ).run = some r → RPlace1_V vs σ = some r := by
  intro vs σ r h
  unfold RPlace1_prop at h
  split at h
  · exact ite_isW h fun h => by cases h
  · cases h
theorem loop_RPlace1 (gl : Nat → Option Obj) : ∀ fr σ e fr' σ', (orc I_RPlace1 RPlace1_prop fr σ).run = some (e, fr', σ') → LDoes Tryd.prog gl c_RPlace1 fr σ e fr' σ' := orc_ok tbT_ok (gok_RPlace gl ) noMixed (L := LI_RPlace1) (loopOk_none (by kernel_rfl)) (by kernel_rfl) RPlace1_ok
noncomputable def L_RPlace : LpsT := fun r fr σ => bif Nat.beq r 3 then orc I_RPlace1 RPlace1_prop fr σ else .fail
noncomputable def RPlace_Tr (l : List (List PV)) (t : List (List PV)) : Tr PV := Tr.ite (RPlace1_is0 l t 0 false 0) (Tr.ret (PV.tup [PV.int .i64 (RPlace1_n l t 0 false 0), PV.bool (RPlace1_in_ l t 0 false 0)])) Tr.fail
theorem RPlace_T (l : List (List PV)) (t : List (List PV)) : (tcall tbT G_RPlace L_RPlace Tryd.f41 [.sl l .non, .sl t .non]).flat = RPlace_Tr l t := by kernel_rfl
noncomputable def RPlace_W (l : List (List PV)) (t : List (List PV)) : Option PV := (RPlace_Tr l t).run
noncomputable def RPlace_n (l : List (List PV)) (t : List (List PV)) : Int := (gInt (gAt (gCs (gVal (RPlace_W l t))) 0))
noncomputable def RPlace_b (l : List (List PV)) (t : List (List PV)) : Bool := (gBool (gAt (gCs (gVal (RPlace_W l t))) 1))
noncomputable def RPlace_is0 (l : List (List PV)) (t : List (List PV)) : Bool := isW (RPlace_W l t) (.tup [.int .i64 (RPlace_n l t), .bool (RPlace_b l t)])
noncomputable def F_RPlace : List PV → Tr PV | [.sl l .non, .sl t .non] => .ite (RPlace_is0 l t) (.ret (.tup [.int .i64 (RPlace_n l t), .bool (RPlace_b l t)])) (.fail) | _ => .fail
theorem sim_RPlace (gl : Nat → Option Obj) : SimP Tryd.prog gl 41 fun args => (F_RPlace args).run := by
  refine SimP.of_flat (G := G_RPlace) (L := L_RPlace) tbT_ok (gok_RPlace gl ) noMixed Tryd.func41 rfl (by rfl) (by kernel_rfl) (loopOk_all (L := lps L_RPlace) [(3, c_RPlace1)] (by kernel_rfl) (List.forall_mem_cons.2 ⟨fun fr σ e fr' σ' h => loop_RPlace1 gl  fr σ e fr' σ' h, (List.forall_mem_nil _)⟩)) ?_
  intro args x h
  unfold F_RPlace at h
  split at h
  · exact (congrArg Tr.run (RPlace_T _ _)).trans (ite_isW h fun h => by cases h)
  · cases h
noncomputable def G_put : GamT := ofL [(41, .pure F_RPlace)]
theorem gok_put (gl : Nat → Option Obj) : GamOk Tryd.prog gl (gam G_put) := (gamOk_cons (sim_RPlace gl) gamOk_nil)
noncomputable def L_put : LpsT := fun r fr σ => .fail
noncomputable def put_Tr (l : List (List PV)) (t : List (List PV)) : Tr PV := Tr.ite (RPlace_is0 (lockLL l) (lockLL t)) (Tr.ite (RPlace_b (lockLL l) (lockLL t)) (Tr.ret (PV.sl (shutLL l) .non)) (Tr.ite (okSub true (okPos (RPlace_n (lockLL l) (lockLL t))) 0 (nNat (RPlace_n (lockLL l) (lockLL t))) (nXs l)) (Tr.ite (okSize l 1) (Tr.ite (okGrow [] (xSub l 0 (nNat (RPlace_n (lockLL l) (lockLL t)))) 24) (Tr.ite (okNews (xSub l 0 (nNat (RPlace_n (lockLL l) (lockLL t)))) 1) (Tr.ite (okSize [] 1) (Tr.ite (xNil (xSub l 0 (nNat (RPlace_n (lockLL l) (lockLL t))))) (Tr.ite (okGrow [] [[PV.sl t .non]] 24) (Tr.ite (okNews [[PV.sl t .non]] 1) (Tr.ite (okSize [] 1) (Tr.ite (okSub (okPos (RPlace_n (lockLL l) (lockLL t))) true (nNat (RPlace_n (lockLL l) (lockLL t))) (nXs l) (nXs l)) (Tr.ite (okSize l 1) (Tr.ite (okGrow (xApp [] [[PV.sl t .non]]) (xSub l (nNat (RPlace_n (lockLL l) (lockLL t))) (nXs l)) 24) (Tr.ite (okNews (xSub l (nNat (RPlace_n (lockLL l) (lockLL t))) (nXs l)) 1) (Tr.ite (okSize (xApp [] [[PV.sl t .non]]) 1) (Tr.ite (xNil (xSub l (nNat (RPlace_n (lockLL l) (lockLL t))) (nXs l))) (Tr.ret (PV.sl (shutLL (xApp [] [[PV.sl t .non]])) .non)) (Tr.ite (nEq (nXs (xApp [] [[PV.sl t .non]])) (nXs (xApp [] [[PV.sl t .non]]))) (Tr.ret (PV.sl (shutLL (xApp (xApp [] [[PV.sl t .non]]) (xSub l (nNat (RPlace_n (lockLL l) (lockLL t))) (nXs l)))) .non)) Tr.fail)) Tr.fail) Tr.fail) Tr.fail) Tr.fail) Tr.fail) Tr.fail) Tr.fail) Tr.fail) (Tr.ite (okGrow (xApp [] (xSub l 0 (nNat (RPlace_n (lockLL l) (lockLL t))))) [[PV.sl t .non]] 24) (Tr.ite (okNews [[PV.sl t .non]] 1) (Tr.ite (okSize (xApp [] (xSub l 0 (nNat (RPlace_n (lockLL l) (lockLL t))))) 1) (Tr.ite (nEq (nXs (xApp [] (xSub l 0 (nNat (RPlace_n (lockLL l) (lockLL t)))))) (nXs (xApp [] (xSub l 0 (nNat (RPlace_n (lockLL l) (lockLL t))))))) (Tr.ite (okSub (okPos (RPlace_n (lockLL l) (lockLL t))) true (nNat (RPlace_n (lockLL l) (lockLL t))) (nXs l) (nXs l)) (Tr.ite (okSize l 1) (Tr.ite
 (okGrow (xApp (xApp [] (xSub l 0 (nNat (RPlace_n (lockLL l) (lockLL t))))) [[PV.sl t .non]]) (xSub l (nNat (RPlace_n (lockLL l) (lockLL t))) (nXs l)) 24) (Tr.ite (okNews (xSub l (nNat (RPlace_n (lockLL l) (lockLL t))) (nXs l)) 1) (Tr.ite (okSize (xApp (xApp [] (xSub l 0 (nNat (RPlace_n (lockLL l) (lockLL t))))) [[PV.sl t .non]]) 1) (Tr.ite (xNil (xSub l (nNat (RPlace_n (lockLL l) (lockLL t))) (nXs l))) (Tr.ret (PV.sl (shutLL (xApp (xApp [] (xSub l 0 (nNat (RPlace_n (lockLL l) (lockLL t))))) [[PV.sl t .non]])) .non)) (Tr.ite (nEq (nXs (xApp (xApp [] (xSub l 0 (nNat (RPlace_n (lockLL l) (lockLL t))))) [[PV.sl t .non]])) (nXs (xApp (xApp [] (xSub l 0 (nNat (RPlace_n (lockLL l) (lockLL t))))) [[PV.sl t .non]]))) (Tr.ret (PV.sl (shutLL (xApp (xApp (xApp [] (xSub l 0 (nNat (RPlace_n (lockLL l) (lockLL t))))) [[PV.sl t .non]]) (xSub l (nNat (RPlace_n (lockLL l) (lockLL t))) (nXs l)))) .non)) Tr.fail)) Tr.fail) Tr.fail) Tr.fail) Tr.fail) Tr.fail) Tr.fail) Tr.fail) Tr.fail) Tr.fail)) Tr.fail) Tr.fail) Tr.fail) Tr.fail) Tr.fail)) Tr.fail
theorem put_T (l : List (List PV)) (t : List (List PV)) : (tcall tbT G_put L_put Tryd.f68 [.sl l .non, .sl t .non]).flat = put_Tr l t := by kernel_rfl
noncomputable def put_W (l : List (List PV)) (t : List (List PV)) : Option PV := (put_Tr l t).run
noncomputable def put_r (l : List (List PV)) (t : List (List PV)) : List (List PV) := (gRow (gVal (put_W l t)))
noncomputable def put_is0 (l : List (List PV)) (t : List (List PV)) : Bool := isW (put_W l t) (.sl (put_r l t) .non)
noncomputable def F_put : List PV → Tr PV | [.sl l .non, .sl t .non] => .ite (put_is0 l t) (.ret (.sl (put_r l t) .non)) (.fail) | _ => .fail
theorem sim_put (gl : Nat → Option Obj) : SimP Tryd.prog gl 68 fun args => (F_put args).run := by
  refine SimP.of_flat (G := G_put) (L := L_put) tbT_ok (gok_put gl ) noMixed Tryd.func68 rfl (by rfl) (by kernel_rfl) (loopOk_none (by kernel_rfl)) ?_
  intro args x h
  unfold F_put at h
  split at h
  · exact (congrArg Tr.run (put_T _ _)).trans (ite_isW h fun h => by cases h)
  · cases h
noncomputable def G_RSorted : GamT := ofL [(68, .pure F_put)]
theorem gok_RSorted (gl : Nat → Option Obj) : GamOk Tryd.prog gl (gam G_RSorted) := (gamOk_cons (sim_put gl) gamOk_nil)
noncomputable def c_RSorted1 : Code := loopC Tryd.f43 3
def I_RSorted1 : LI := ⟨18, [0, 3, 4], fun e => match e with | .exit 0 => [3] | _ => [], true⟩
noncomputable def LI_RSorted1 : LpsT := fun r fr σ => .fail
noncomputable def RSorted1_V (vs : List PV) (σ : Store) : Option (PExit × List PV × Store) := lval (lstep tbT G_RSorted LI_RSorted1 c_RSorted1 I_RSorted1) vs σ
noncomputable def RSorted1_Tr (l : List (List PV)) (out : List (List PV)) (i : Int) : Tr LR := Tr.ite (iLt i (xLen l)) (Tr.ite (okPos i) (Tr.ite (okGet [PV.sl [] .full] l (nNat i)) (Tr.ite (put_is0 (lockLL out) (lockLL (xRow l (nNat i) 0))) (Tr.ret (LR.next [PV.sl l .non, PV.sl (put_r (lockLL out) (lockLL (xRow l (nNat i) 0))) .non, PV.int .i64 (iAdd .i64 i 1)] (Store.mk [] [] []))) Tr.fail) Tr.fail) Tr.fail) (Tr.ret (LR.out (.exit 0) [PV.sl out .full] (Store.mk [] [] [])))
theorem RSorted1_T (l : List (List PV)) (out : List (List PV)) (i : Int) : lstep tbT G_RSorted LI_RSorted1 c_RSorted1 I_RSorted1 [.sl l .non, .sl out .full, .int .i64 i] ⟨[], [], []⟩ = RSorted1_Tr l out i := by kernel_rfl
theorem RSorted1_E (l : List (List PV)) (out : List (List PV)) (i : Int) : RSorted1_V [.sl l .non, .sl out .full, .int .i64 i] ⟨[], [], []⟩ = lnext RSorted1_V (RSorted1_Tr l out i).run := by unfold RSorted1_V; rw [lval_eq, RSorted1_T]
noncomputable def RSorted1_Tr1 (l : List (List PV)) (out : List (List PV)) (i : Int) : Tr LR := Tr.ite (iLt i (xLen l)) (Tr.ite (okPos i) (Tr.ite (okGet [PV.sl [] .full] l (nNat i)) (Tr.ite (put_is0 (lockLL out) (lockLL (xRow l (nNat i) 0))) (Tr.ret (LR.next [PV.sl l .non, PV.sl (put_r (lockLL out) (lockLL (xRow l (nNat i) 0))) .non, PV.int .i64 (iAdd .i64 i 1)] (Store.mk [] [] []))) Tr.fail) Tr.fail) Tr.fail) (Tr.ret (LR.out (.exit 0) [PV.sl out .non] (Store.mk [] [] [])))
theorem RSorted1_T1 (l : List (List PV)) (out : List (List PV)) (i : Int) : lstep tbT G_RSorted LI_RSorted1 c_RSorted1 I_RSorted1 [.sl l .non, .sl out .non, .int .i64 i] ⟨[], [], []⟩ = RSorted1_Tr1 l out i := by kernel_rfl
theorem RSorted1_E1 (l : List (List PV)) (out : List (List PV)) (i : Int) : RSorted1_V [.sl l .non, .sl out .non, .int .i64 i] ⟨[], [], []⟩ = lnext RSorted1_V (RSorted1_Tr1 l out i).run := by unfold RSorted1_V; rw [lval_eq, RSorted1_T1]
noncomputable def RSorted1_W (l : List (List PV)) (out : List (List PV)) (i : Int) : Option (PExit × List PV × Store) := RSorted1_V [.sl l .non, .sl out .full, .int .i64 i] ⟨[], [], []⟩
noncomputable def RSorted1_out_0 (l : List (List PV)) (out : List (List PV)) (i : Int) : List (List PV) := (gRow (gOut (RSorted1_W l out i) 0))
noncomputable def RSorted1_is0 (l : List (List PV)) (out : List (List PV)) (i : Int) : Bool := isW (RSorted1_W l out i) ((.exit 0), [.sl (RSorted1_out_0 l out i) .full], ⟨[], [], []⟩)
noncomputable def RSorted1_out_1 (l : List (List PV)) (out : List (List PV)) (i : Int) : List (List PV) := (gRow (gOut (RSorted1_W l out i) 0))
noncomputable def RSorted1_is1 (l : List (List PV)) (out : List (List PV)) (i : Int) : Bool := isW (RSorted1_W l out i) ((.exit 0), [.sl (RSorted1_out_1 l out i) .non], ⟨[], [], []⟩)
noncomputable def RSorted1_prop : List PV → Store → Tr (PExit × List PV × Store) | [.sl l .non, .sl out .full, .int .i64 i], ⟨[], [], []⟩ => .ite (RSorted1_is0 l out i) (.ret ((.exit 0), [.sl (RSorted1_out_0 l out i) .full], ⟨[], [], []⟩)) (.ite (RSorted1_is1 l out i) (.ret ((.exit 0), [.sl (RSorted1_out_1 l out i) .non], ⟨[], [], []⟩)) (.fail)) | _, _ => .fail
theorem RSorted1_ok : ∀ vs σ r, (RSorted1_prop vs σ).run = some r → RSorted1_V vs σ = some r := by
  intro vs σ r h
  unfold RSorted1_prop at h
  split at h
  · exact ite_isW h fun h => ite_isW h fun h => by cases h
  · cases h
theorem loop_RSorted1 (gl : Nat → Option Obj) : ∀ fr σ e fr' σ', (orc I_RSorted1 RSorted1_prop fr σ).run = some (e, fr', σ') → LDoes Tryd.prog gl c_RSorted1 fr σ e fr' σ' := orc_ok tbT_ok (gok_RSorted gl ) noMixed (L := LI_RSorted1) (loopOk_none (by kernel_rfl)) (by kernel_rfl) RSorted1_ok
noncomputable def L_RSorted : LpsT := fun r fr σ => bif Nat.beq r 3 then orc I_RSorted1 RSorted1_prop fr σ else .fail
noncomputable def RSorted_Tr (l : List (List PV)) : Tr PV := Tr.ite (RSorted1_is0 l [] 0) (Tr.ret (PV.sl (shutLL (RSorted1_out_0 l [] 0)) .non)) (Tr.ite (RSorted1_is1 l [] 0) (Tr.ret (PV.sl (shutLL (RSorted1_out_1 l [] 0)) .non)) Tr.fail)
theorem RSorted_T (l : List (List PV)) : (tcall tbT G_RSorted L_RSorted Tryd.f43 [.sl l .non]).flat = RSorted_Tr l := by kernel_rfl
noncomputable def RSorted_W (l : List (List PV)) : Option PV := (RSorted_Tr l).run
noncomputable def RSorted_r (l : List (List PV)) : List (List PV) := (gRow (gVal (RSorted_W l)))
noncomputable def RSorted_is0 (l : List (List PV)) : Bool := isW (RSorted_W l) (.sl (RSorted_r l) .non)
noncomputable def F_RSorted : List PV → Tr PV | [.sl l .non] => .ite (RSorted_is0 l) (.ret (.sl (RSorted_r l) .non)) (.fail) | _ => .fail
theorem sim_RSorted (gl : Nat → Option Obj) : SimP Tryd.prog gl 43 fun args => (F_RSorted args).run := by
  refine SimP.of_flat (G := G_RSorted) (L := L_RSorted) tbT_ok (gok_RSorted gl ) noMixed Tryd.func43 rfl (by rfl) (by kernel_rfl) (loopOk_all (L := lps L_RSorted) [(3, c_RSorted1)] (by kernel_rfl) (List.forall_mem_cons.2 ⟨fun fr σ e fr' σ' h => loop_RSorted1 gl  fr σ e fr' σ' h, (List.forall_mem_nil _)⟩)) ?_
  intro args x h
  unfold F_RSorted at h
  split at h
  · exact (congrArg Tr.run (RSorted_T _)).trans (ite_isW h fun h => by cases h)
  · cases h
noncomputable def G_RChkRel : GamT := ofL [(20, .pure F_RCheck), (39, .pure F_CmpR)]
theorem gok_RChkRel (gl : Nat → Option Obj) : GamOk Tryd.prog gl (gam G_RChkRel) := (gamOk_cons (sim_RCheck gl) (gamOk_cons (sim_CmpR gl) gamOk_nil))
noncomputable def c_RChkRel1 : Code := loopC Tryd.f42 4
noncomputable def c_RChkRel2 : Code := loopC Tryd.f42 9
def I_RChkRel1 : LI := ⟨49, [0, 3], fun e => match e with | .ret => [2] | .exit 0 => [0] | _ => [], true⟩
noncomputable def LI_RChkRel1 : LpsT := fun r fr σ => .fail
noncomputable def RChkRel1_V (vs : List PV) (σ : Store) : Option (PExit × List PV × Store) := lval (lstep tbT G_RChkRel LI_RChkRel1 c_RChkRel1 I_RChkRel1) vs σ
noncomputable def RChkRel1_Tr (l : List (List PV)) (i : Int) : Tr LR := Tr.ite (iLt i (xLen l)) (Tr.ite (okPos i) (Tr.ite (okGet [PV.sl [] .full] l (nNat i)) (Tr.ite (okR cV (lockLL (xRow l (nNat i) 0))) (Tr.ite (iNe (chkT (lockLL (xRow l (nNat i) 0))) 0) (Tr.ret (LR.out .ret [PV.int .i64 20] (Store.mk [] [] []))) (Tr.ret (LR.next [PV.sl l .non, PV.int .i64 (iAdd .i64 i 1)] (Store.mk [] [] [])))) Tr.fail) Tr.fail) Tr.fail) (Tr.ret (LR.out (.exit 0) [PV.sl l .non] (Store.mk [] [] [])))
theorem RChkRel1_T (l : List (List PV)) (i : Int) : lstep tbT G_RChkRel LI_RChkRel1 c_RChkRel1 I_RChkRel1 [.sl l .non, .int .i64 i] ⟨[], [], []⟩ = RChkRel1_Tr l i := by kernel_rfl
theorem RChkRel1_E (l : List (List PV)) (i : Int) : RChkRel1_V [.sl l .non, .int .i64 i] ⟨[], [], []⟩ = lnext RChkRel1_V (RChkRel1_Tr l i).run := by unfold RChkRel1_V; rw [lval_eq, RChkRel1_T]
noncomputable def RChkRel1_W (l : List (List PV)) (i : Int) : Option (PExit × List PV × Store) := RChkRel1_V [.sl l .non, .int .i64 i] ⟨[], [], []⟩
noncomputable def RChkRel1_n_0 (l : List (List PV)) (i : Int) : Int := (gInt (gOut (RChkRel1_W l i) 0))
noncomputable def RChkRel1_is0 (l : List (List PV)) (i : Int) : Bool := isW (RChkRel1_W l i) (.ret, [.int .i64 (RChkRel1_n_0 l i)], ⟨[], [], []⟩)
noncomputable def RChkRel1_l_1 (l : List (List PV)) (i : Int) : List (List PV) := (gRow (gOut (RChkRel1_W l i) 0))
noncomputable def RChkRel1_is1 (l : List (List PV)) (i : Int) : Bool := isW (RChkRel1_W l i) ((.exit 0), [.sl (RChkRel1_l_1 l i) .non], ⟨[], [], []⟩)
noncomputable def RChkRel1_prop : List PV → Store → Tr (PExit × List PV × Store) | [.sl l .non, .int .i64 i], ⟨[], [], []⟩ => .ite (RChkRel1_is0 l i) (.ret (.ret, [.int .i64 (RChkRel1_n_0 l i)], ⟨[], [], []⟩)) (.ite (RChkRel1_is1 l i) (.ret ((.exit 0), [.sl (RChkRel1_l_1 l i) .non], ⟨[], [], []⟩)) (.fail)) | _, _ => .fail
theorem RChkRel1_ok : ∀ vs σ r, (RChkRel1_prop vs σ).run = some r → RChkRel1_V vs σ = some r := by
  intro vs σ r h
  unfold RChkRel1_prop at h
  split at h
  · exact ite_isW h fun h => ite_isW h fun h => by cases h
  · cases h
theorem loop_RChkRel1 (gl : Nat → Option Obj) : ∀ fr σ e fr' σ', (orc I_RChkRel1 RChkRel1_prop fr σ).run = some (e, fr', σ') → LDoes Tryd.prog gl c_RChkRel1 fr σ e fr' σ' := orc_ok tbT_ok (gok_RChkRel gl ) noMixed (L := LI_RChkRel1) (loopOk_none (by kernel_rfl)) (by kernel_rfl) RChkRel1_ok
def I_RChkRel2 : LI := ⟨49, [0, 4], fun e => match e with | .ret => [2] | .exit 2 => [] | _ => [], true⟩
noncomputable def LI_RChkRel2 : LpsT := fun r fr σ => .fail
noncomputable def RChkRel2_V (vs : List PV) (σ : Store) : Option (PExit × List PV × Store) := lval (lstep tbT G_RChkRel LI_RChkRel2 c_RChkRel2 I_RChkRel2) vs σ
noncomputable def RChkRel2_Tr (l : List (List PV)) (i : Int) : Tr LR := Tr.ite (iLt i (xLen l)) (Tr.ite (okPos i) (Tr.ite (okGet [PV.sl [] .full] l (nNat i)) (Tr.ite (okPos 0) (Tr.ite (okGet [PV.sl [] .full] l (nNat 0)) (Tr.ite (iNe (xLen (xRow l (nNat i) 0)) (xLen (xRow l (nNat 0) 0))) (Tr.ret (LR.out .ret [PV.int .i64 21] (Store.mk [] [] []))) (Tr.ite (okPos (iSub .i64 i 1)) (Tr.ite (okGet [PV.sl [] .full] l (nNat (iSub .i64 i 1))) (Tr.ite (okPos i) (Tr.ite (okGet [PV.sl [] .full] l (nNat i)) (Tr.ite (okR cV (lockLL (xRow l (nNat (iSub .i64 i 1)) 0))) (Tr.ite (okR cV (lockLL (xRow l (nNat i) 0))) (Tr.ite (iLe 0 (cmpTR (lockLL (xRow l (nNat (iSub .i64 i 1)) 0)) (lockLL (xRow l (nNat i) 0)))) (Tr.ret (LR.out .ret [PV.int .i64 21] (Store.mk [] [] []))) (Tr.ret (LR.next [PV.sl l .non, PV.int .i64 (iAdd .i64 i 1)] (Store.mk [] [] [])))) Tr.fail) Tr.fail) Tr.fail) Tr.fail) Tr.fail) Tr.fail)) Tr.fail) Tr.fail) Tr.fail) Tr.fail) (Tr.ret (LR.out (.exit 2) [] (Store.mk [] [] [])))
theorem RChkRel2_T (l : List (List PV)) (i : Int) : lstep tbT G_RChkRel LI_RChkRel2 c_RChkRel2 I_RChkRel2 [.sl l .non, .int .i64 i] ⟨[], [], []⟩ = RChkRel2_Tr l i := by kernel_rfl
theorem RChkRel2_E (l : List (List PV)) (i : Int) : RChkRel2_V [.sl l .non, .int .i64 i] ⟨[], [], []⟩ = lnext RChkRel2_V (RChkRel2_Tr l i).run := by unfold RChkRel2_V; rw [lval_eq, RChkRel2_T]
noncomputable def RChkRel2_W (l : List (List PV)) (i : Int) : Option (PExit × List PV × Store) := RChkRel2_V [.sl l .non, .int .i64 i] ⟨[], [], []⟩
noncomputable def RChkRel2_n_0 (l : List (List PV)) (i : Int) : Int := (gInt (gOut (RChkRel2_W l i) 0))
noncomputable def RChkRel2_is0 (l : List (List PV)) (i : Int) : Bool := isW (RChkRel2_W l i) (.ret, [.int .i64 (RChkRel2_n_0 l i)], ⟨[], [], []⟩)
noncomputable def RChkRel2_is1 (l : List (List PV)) (i : Int) : Bool := isW (RChkRel2_W l i) ((.exit 2), [], ⟨[], [], []⟩)
noncomputable def RChkRel2_prop : List PV → Store → Tr (PExit × List PV × Store) | [.sl l .non, .int .i64 i], ⟨[], [], []⟩ => .ite (RChkRel2_is0 l i) (.ret (.ret, [.int .i64 (RChkRel2_n_0 l i)], ⟨[], [], []⟩)) (.ite (RChkRel2_is1 l i) (.ret ((.exit 2), [], ⟨[], [], []⟩)) (.fail)) | _, _ => .fail
theorem RChkRel2_ok : ∀ vs σ r, (RChkRel2_prop vs σ).run = some r → RChkRel2_V vs σ = some r := by
  intro vs σ r h
  unfold RChkRel2_prop at h
  split at h
  · exact ite_isW h fun h => ite_isW h fun h => by cases h
  · cases h
theorem loop_RChkRel2 (gl : Nat → Option Obj) : ∀ fr σ e fr' σ', (orc I_RChkRel2 RChkRel2_prop fr σ).run = some (e, fr', σ') → LDoes Tryd.prog gl c_RChkRel2 fr σ e fr' σ' := orc_ok tbT_ok (gok_RChkRel gl ) noMixed (L := LI_RChkRel2) (loopOk_none (by kernel_rfl)) (by kernel_rfl) RChkRel2_ok
noncomputable def L_RChkRel : LpsT := fun r fr σ => bif Nat.beq r 4 then orc I_RChkRel1 RChkRel1_prop fr σ else bif Nat.beq r 9 then orc I_RChkRel2 RChkRel2_prop fr σ else .fail
noncomputable def RChkRel_Tr (l : List (List PV)) : Tr PV := Tr.ite (iLt 65536 (xLen l)) (Tr.ret (PV.int .i64 3)) (Tr.ite (RChkRel1_is0 l 0) (Tr.ret (PV.int .i64 (RChkRel1_n_0 l 0))) (Tr.ite (RChkRel1_is1 l 0) (Tr.ite (RChkRel2_is0 (RChkRel1_l_1 l 0) 1) (Tr.ret (PV.int .i64 (RChkRel2_n_0 (RChkRel1_l_1 l 0) 1))) (Tr.ite (RChkRel2_is1 (RChkRel1_l_1 l 0) 1) (Tr.ret (PV.int .i64 0)) Tr.fail)) Tr.fail))
theorem RChkRel_T (l : List (List PV)) : (tcall tbT G_RChkRel L_RChkRel Tryd.f42 [.sl l .non]).flat = RChkRel_Tr l := by kernel_rfl
noncomputable def RChkRel_W (l : List (List PV)) : Option PV := (RChkRel_Tr l).run
noncomputable def RChkRel_n (l : List (List PV)) : Int := (gInt (gVal (RChkRel_W l)))
noncomputable def RChkRel_is0 (l : List (List PV)) : Bool := isW (RChkRel_W l) (.int .i64 (RChkRel_n l))
noncomputable def F_RChkRel : List PV → Tr PV | [.sl l .non] => .ite (RChkRel_is0 l) (.ret (.int .i64 (RChkRel_n l))) (.fail) | _ => .fail
theorem sim_RChkRel (gl : Nat → Option Obj) : SimP Tryd.prog gl 42 fun args => (F_RChkRel args).run := by
  refine SimP.of_flat (G := G_RChkRel) (L := L_RChkRel) tbT_ok (gok_RChkRel gl ) noMixed Tryd.func42 rfl (by rfl) (by kernel_rfl) (loopOk_all (L := lps L_RChkRel) [(4, c_RChkRel1), (9, c_RChkRel2)] (by kernel_rfl) (List.forall_mem_cons.2 ⟨fun fr σ e fr' σ' h => loop_RChkRel1 gl  fr σ e fr' σ' h, (List.forall_mem_cons.2 ⟨fun fr σ e fr' σ' h => loop_RChkRel2 gl  fr σ e fr' σ' h, (List.forall_mem_nil _)⟩)⟩)) ?_
  intro args x h
  unfold F_RChkRel at h
  split at h
  · exact (congrArg Tr.run (RChkRel_T _)).trans (ite_isW h fun h => by cases h)
  · cases h
noncomputable def G_TChkRel : GamT := ofL [(16, .pure F_TCmp), (36, .pure F_TCheck)]
theorem gok_TChkRel (gl : Nat → Option Obj) : GamOk Tryd.prog gl (gam G_TChkRel) := (gamOk_cons (sim_TCmp gl) (gamOk_cons (sim_TCheck gl) gamOk_nil))
noncomputable def c_TChkRel1 : Code := loopC Tryd.f35 4
noncomputable def c_TChkRel2 : Code := loopC Tryd.f35 11
def I_TChkRel1 : LI := ⟨57, [0, 10, 11, 12], fun e => match e with | .ret => [2] | .exit 0 => [0] | _ => [], true⟩
noncomputable def LI_TChkRel1 : LpsT := fun r fr σ => .fail
noncomputable def TChkRel1_V (vs : List PV) (σ : Store) : Option (PExit × List PV × Store) := lval (lstep tbT G_TChkRel LI_TChkRel1 c_TChkRel1 I_TChkRel1) vs σ
noncomputable def TChkRel1_Tr (l : List (List PV)) (r : List (List PV)) (n : Int) (n2 : Int) : Tr LR := Tr.ite (iLt n2 n) (Tr.ite (okPos n2) (Tr.ite (okGet [PV.sl [] .full] r (nNat n2)) (Tr.ite (okR cV (lockLL (xRow r (nNat n2) 0))) (Tr.ite (iNe (chkT (lockLL (xRow r (nNat n2) 0))) 0) (Tr.ret (LR.out .ret [PV.int .i64 (chkT (lockLL (xRow r (nNat n2) 0)))] (Store.mk [] [] []))) (Tr.ret (LR.next [PV.sl l .non, PV.sl r .non, PV.int .i64 n, PV.int .i64 (iAdd .i64 n2 1)] (Store.mk [] [] [])))) Tr.fail) Tr.fail) Tr.fail) (Tr.ret (LR.out (.exit 0) [PV.sl l .non] (Store.mk [] [] [])))
theorem TChkRel1_T (l : List (List PV)) (r : List (List PV)) (n : Int) (n2 : Int) : lstep tbT G_TChkRel LI_TChkRel1 c_TChkRel1 I_TChkRel1 [.sl l .non, .sl r .non, .int .i64 n, .int .i64 n2] ⟨[], [], []⟩ = TChkRel1_Tr l r n n2 := by kernel_rfl
theorem TChkRel1_E (l : List (List PV)) (r : List (List PV)) (n : Int) (n2 : Int) : TChkRel1_V [.sl l .non, .sl r .non, .int .i64 n, .int .i64 n2] ⟨[], [], []⟩ = lnext TChkRel1_V (TChkRel1_Tr l r n n2).run := by unfold TChkRel1_V; rw [lval_eq, TChkRel1_T]
noncomputable def TChkRel1_W (l : List (List PV)) (r : List (List PV)) (n : Int) (n2 : Int) : Option (PExit × List PV × Store) := TChkRel1_V [.sl l .non, .sl r .non, .int .i64 n, .int .i64 n2] ⟨[], [], []⟩
noncomputable def TChkRel1_n_0 (l : List (List PV)) (r : List (List PV)) (n : Int) (n2 : Int) : Int := (gInt (gOut (TChkRel1_W l r n n2) 0))
noncomputable def TChkRel1_is0 (l : List (List PV)) (r : List (List PV)) (n : Int) (n2 : Int) : Bool := isW (TChkRel1_W l r n n2) (.ret, [.int .i64 (TChkRel1_n_0 l r n n2)], ⟨[], [], []⟩)
noncomputable def TChkRel1_l_1 (l : List (List PV)) (r : List (List PV)) (n : Int) (n2 : Int) : List (List PV) := (gRow (gOut (TChkRel1_W l r n n2) 0))
noncomputable def TChkRel1_is1 (l : List (List PV)) (r : List (List PV)) (n : Int) (n2 : Int) : Bool := isW (TChkRel1_W l r n n2) ((.exit 0), [.sl (TChkRel1_l_1 l r n n2) .non], ⟨[], [], []⟩)
noncomputable def TChkRel1_prop : List PV → Store → Tr (PExit × List PV × Store) | [.sl l .non, .sl r .non, .int .i64 n, .int .i64 n2], ⟨[], [], []⟩ => .ite (TChkRel1_is0 l r n n2) (.ret (.ret, [.int .i64 (TChkRel1_n_0 l r n n2)], ⟨[], [], []⟩)) (.ite (TChkRel1_is1 l r n n2) (.ret ((.exit 0), [.sl (TChkRel1_l_1 l r n n2) .non], ⟨[], [], []⟩)) (.fail)) | _, _ => .fail
theorem TChkRel1_ok : ∀ vs σ r, (TChkRel1_prop vs σ).run = some r → TChkRel1_V vs σ = some r := by
  intro vs σ r h
  unfold TChkRel1_prop at h
  split at h
  · exact ite_isW h fun h => ite_isW h fun h => by cases h
  · cases h
theorem loop_TChkRel1 (gl : Nat → Option Obj) : ∀ fr σ e fr' σ', (orc I_TChkRel1 TChkRel1_prop fr σ).run = some (e, fr', σ') → LDoes Tryd.prog gl c_TChkRel1 fr σ e fr' σ' := orc_ok tbT_ok (gok_TChkRel gl ) noMixed (L := LI_TChkRel1) (loopOk_none (by kernel_rfl)) (by kernel_rfl) TChkRel1_ok
def I_TChkRel2 : LI := ⟨57, [0, 23, 24], fun e => match e with | .ret => [2] | .exit 2 => [] | _ => [], true⟩
noncomputable def LI_TChkRel2 : LpsT := fun r fr σ => .fail
noncomputable def TChkRel2_V (vs : List PV) (σ : Store) : Option (PExit × List PV × Store) := lval (lstep tbT G_TChkRel LI_TChkRel2 c_TChkRel2 I_TChkRel2) vs σ
noncomputable def TChkRel2_Tr (l : List (List PV)) (n : Int) (n2 : Int) : Tr LR := Tr.ite (iLt n2 n) (Tr.ite (iLt 0 n2) (Tr.ite (okPos (iSub .i64 n2 1)) (Tr.ite (okGet [PV.sl [] .full] l (nNat (iSub .i64 n2 1))) (Tr.ite (okPos n2) (Tr.ite (okGet [PV.sl [] .full] l (nNat n2)) (Tr.ite (iNe (xLen (xRow l (nNat (iSub .i64 n2 1)) 0)) (xLen (xRow l (nNat n2) 0))) (Tr.ret (LR.out .ret [PV.int .i64 21] (Store.mk [] [] []))) (Tr.ite (okPos (iSub .i64 n2 1)) (Tr.ite (okGet [PV.sl [] .full] l (nNat (iSub .i64 n2 1))) (Tr.ite (okPos n2) (Tr.ite (okGet [PV.sl [] .full] l (nNat n2)) (Tr.ite (okR cV (lockLL (lockLL (xRow l (nNat (iSub .i64 n2 1)) 0)))) (Tr.ite (okR cV (lockLL (lockLL (xRow l (nNat n2) 0)))) (Tr.ite (iLe 0 (cmpTV (lockLL (lockLL (xRow l (nNat (iSub .i64 n2 1)) 0))) (lockLL (lockLL (xRow l (nNat n2) 0))))) (Tr.ret (LR.out .ret [PV.int .i64 21] (Store.mk [] [] []))) (Tr.ret (LR.next [PV.sl l .non, PV.int .i64 n, PV.int .i64 (iAdd .i64 n2 1)] (Store.mk [] [] [])))) Tr.fail) Tr.fail) Tr.fail) Tr.fail) Tr.fail) Tr.fail)) Tr.fail) Tr.fail) Tr.fail) Tr.fail) (Tr.ret (LR.next [PV.sl l .non, PV.int .i64 n, PV.int .i64 (iAdd .i64 n2 1)] (Store.mk [] [] [])))) (Tr.ret (LR.out (.exit 2) [] (Store.mk [] [] [])))
theorem TChkRel2_T (l : List (List PV)) (n : Int) (n2 : Int) : lstep tbT G_TChkRel LI_TChkRel2 c_TChkRel2 I_TChkRel2 [.sl l .non, .int .i64 n, .int .i64 n2] ⟨[], [], []⟩ = TChkRel2_Tr l n n2 := by kernel_rfl
theorem TChkRel2_E (l : List (List PV)) (n : Int) (n2 : Int) : TChkRel2_V [.sl l .non, .int .i64 n, .int .i64 n2] ⟨[], [], []⟩ = lnext TChkRel2_V (TChkRel2_Tr l n n2).run := by unfold TChkRel2_V; rw [lval_eq, TChkRel2_T]
noncomputable def TChkRel2_W (l : List (List PV)) (n : Int) (n2 : Int) : Option (PExit × List PV × Store) := TChkRel2_V [.sl l .non, .int .i64 n, .int .i64 n2] ⟨[], [], []⟩
noncomputable def TChkRel2_n_0 (l : List (List PV)) (n : Int) (n2 : Int) : Int := (gInt (gOut (TChkRel2_W l n n2) 0))
noncomputable def TChkRel2_is0 (l : List (List PV)) (n : Int) (n2 : Int) : Bool := isW (TChkRel2_W l n n2) (.ret, [.int .i64 (TChkRel2_n_0 l n n2)], ⟨[], [], []⟩)
noncomputable def TChkRel2_is1 (l : List (List PV)) (n : Int) (n2 : Int) : Bool := isW (TChkRel2_W l n n2) ((.exit 2), [], ⟨[], [], []⟩)
noncomputable def TChkRel2_prop : List PV → Store → Tr (PExit × List PV × Store) | [.sl l .non, .int .i64 n, .int .i64 n2], ⟨[], [], []⟩ => .ite (TChkRel2_is0 l n n2) (.ret (.ret, [.int .i64 (TChkRel2_n_0 l n n2)], ⟨[], [], []⟩)) (.ite (TChkRel2_is1 l n n2) (.ret ((.exit 2), [], ⟨[], [], []⟩)) (.fail)) | _, _ => .fail
theorem TChkRel2_ok : ∀ vs σ r, (TChkRel2_prop vs σ).run = some r → TChkRel2_V vs σ = some r := by
  intro vs σ r h
  unfold TChkRel2_prop at h
  split at h
  · exact ite_isW h fun h => ite_isW h fun h => by cases h
  · cases h
theorem loop_TChkRel2 (gl : Nat → Option Obj) : ∀ fr σ e fr' σ', (orc I_TChkRel2 TChkRel2_prop fr σ).run = some (e, fr', σ') → LDoes Tryd.prog gl c_TChkRel2 fr σ e fr' σ' := orc_ok tbT_ok (gok_TChkRel gl ) noMixed (L := LI_TChkRel2) (loopOk_none (by kernel_rfl)) (by kernel_rfl) TChkRel2_ok
noncomputable def L_TChkRel : LpsT := fun r fr σ => bif Nat.beq r 4 then orc I_TChkRel1 TChkRel1_prop fr σ else bif Nat.beq r 11 then orc I_TChkRel2 TChkRel2_prop fr σ else .fail
noncomputable def TChkRel_Tr (l : List (List PV)) : Tr PV := Tr.ite (iLt 65536 (xLen l)) (Tr.ret (PV.int .i64 3)) (Tr.ite (TChkRel1_is0 l l (xLen l) 0) (Tr.ret (PV.int .i64 (TChkRel1_n_0 l l (xLen l) 0))) (Tr.ite (TChkRel1_is1 l l (xLen l) 0) (Tr.ite (TChkRel2_is0 (TChkRel1_l_1 l l (xLen l) 0) (xLen (TChkRel1_l_1 l l (xLen l) 0)) 0) (Tr.ret (PV.int .i64 (TChkRel2_n_0 (TChkRel1_l_1 l l (xLen l) 0) (xLen (TChkRel1_l_1 l l (xLen l) 0)) 0))) (Tr.ite (TChkRel2_is1 (TChkRel1_l_1 l l (xLen l) 0) (xLen (TChkRel1_l_1 l l (xLen l) 0)) 0) (Tr.ret (PV.int .i64 0)) Tr.fail)) Tr.fail))
theorem TChkRel_T (l : List (List PV)) : (tcall tbT G_TChkRel L_TChkRel Tryd.f35 [.sl l .non]).flat = TChkRel_Tr l := by kernel_rfl
noncomputable def TChkRel_W (l : List (List PV)) : Option PV := (TChkRel_Tr l).run
noncomputable def TChkRel_n (l : List (List PV)) : Int := (gInt (gVal (TChkRel_W l)))
noncomputable def TChkRel_is0 (l : List (List PV)) : Bool := isW (TChkRel_W l) (.int .i64 (TChkRel_n l))
noncomputable def F_TChkRel : List PV → Tr PV | [.sl l .non] => .ite (TChkRel_is0 l) (.ret (.int .i64 (TChkRel_n l))) (.fail) | _ => .fail
theorem sim_TChkRel (gl : Nat → Option Obj) : SimP Tryd.prog gl 35 fun args => (F_TChkRel args).run := by
  refine SimP.of_flat (G := G_TChkRel) (L := L_TChkRel) tbT_ok (gok_TChkRel gl ) noMixed Tryd.func35 rfl (by rfl) (by kernel_rfl) (loopOk_all (L := lps L_TChkRel) [(4, c_TChkRel1), (11, c_TChkRel2)] (by kernel_rfl) (List.forall_mem_cons.2 ⟨fun fr σ e fr' σ' h => loop_TChkRel1 gl  fr σ e fr' σ' h, (List.forall_mem_cons.2 ⟨fun fr σ e fr' σ' h => loop_TChkRel2 gl  fr σ e fr' σ' h, (List.forall_mem_nil _)⟩)⟩)) ?_
  intro args x h
  unfold F_TChkRel at h
  split at h
  · exact (congrArg Tr.run (TChkRel_T _)).trans (ite_isW h fun h => by cases h)
  · cases h
noncomputable def G_width : GamT := ofL []
theorem gok_width (gl : Nat → Option Obj) : GamOk Tryd.prog gl (gam G_width) := gamOk_nil
noncomputable def c_width1 : Code := loopC Tryd.f25 3
def I_width1 : LI := ⟨28, [0, 1, 5, 6], fun e => match e with | .exit 0 => [5] | _ => [], true⟩
noncomputable def LI_width1 : LpsT := fun r fr σ => .fail
noncomputable def width1_V (vs : List PV) (σ : Store) : Option (PExit × List PV × Store) := lval (lstep tbT G_width LI_width1 c_width1 I_width1) vs σ
noncomputable def width1_Tr (l : List (List PV)) (n : Int) (out : List (List PV)) (i : Int) : Tr LR := Tr.ite (iLt i (xLen l)) (Tr.ite (okPos i) (Tr.ite (okGet [PV.sl [] .full] l (nNat i)) (Tr.ite (iEq (xLen (xRow l (nNat i) 0)) n) (Tr.ite (okPos i) (Tr.ite (okGet [PV.sl [] .full] l (nNat i)) (Tr.ite (okGrow out [[PV.sl (xRow l (nNat i) 0) .non]] 24) (Tr.ite (okNews [[PV.sl (xRow l (nNat i) 0) .non]] 1) (Tr.ite (okSize out 1) (Tr.ret (LR.next [PV.sl l .non, PV.int .i64 n, PV.sl (xApp out [[PV.sl (xRow l (nNat i) 0) .non]]) (.tok 0), PV.int .i64 (iAdd .i64 i 1)] (Store.mk [] [(nXs (xApp out [[PV.sl (xRow l (nNat i) 0) .non]]), 1, 23)] []))) Tr.fail) Tr.fail) Tr.fail) Tr.fail) Tr.fail) (Tr.ret (LR.next [PV.sl l .non, PV.int .i64 n, PV.sl out .full, PV.int .i64 (iAdd .i64 i 1)] (Store.mk [] [] [])))) Tr.fail) Tr.fail) (Tr.ret (LR.out (.exit 0) [PV.sl out .full] (Store.mk [] [] [])))
theorem width1_T (l : List (List PV)) (n : Int) (out : List (List PV)) (i : Int) : lstep tbT G_width LI_width1 c_width1 I_width1 [.sl l .non, .int .i64 n, .sl out .full, .int .i64 i] ⟨[], [], []⟩ = width1_Tr l n out i := by kernel_rfl
theorem width1_E (l : List (List PV)) (n : Int) (out : List (List PV)) (i : Int) : width1_V [.sl l .non, .int .i64 n, .sl out .full, .int .i64 i] ⟨[], [], []⟩ = lnext width1_V (width1_Tr l n out i).run := by unfold width1_V; rw [lval_eq, width1_T]
noncomputable def width1_Tr1 (l : List (List PV)) (n : Int) (out : List (List PV)) (i : Int) (k : Nat) : Tr LR := Tr.ite (iLt i (xLen l)) (Tr.ite (okPos i) (Tr.ite (okGet [PV.sl [] .full] l (nNat i)) (Tr.ite (iEq (xLen (xRow l (nNat i) 0)) n) (Tr.ite (okPos i) (Tr.ite (okGet [PV.sl [] .full] l (nNat i)) (Tr.ite (okGrow out [[PV.sl (xRow l (nNat i) 0) .non]] 24) (Tr.ite (okNews [[PV.sl (xRow l (nNat i) 0) .non]] 1) (Tr.ite (okSize out 1) (Tr.ite (nEq k (nXs out)) (Tr.ret (LR.next [PV.sl l .non, PV.int .i64 n, PV.sl (xApp out [[PV.sl (xRow l (nNat i) 0) .non]]) (.tok 0), PV.int .i64 (iAdd .i64 i 1)] (Store.mk [] [(nXs (xApp out [[PV.sl (xRow l (nNat i) 0) .non]]), 1, 23)] []))) Tr.fail) Tr.fail) Tr.fail) Tr.fail) Tr.fail) Tr.fail) (Tr.ret (LR.next [PV.sl l .non, PV.int .i64 n, PV.sl out (.tok 0), PV.int .i64 (iAdd .i64 i 1)] (Store.mk [] [(k, 1, 23)] [])))) Tr.fail) Tr.fail) (Tr.ret (LR.out (.exit 0) [PV.sl out (.tok 0)] (Store.mk [] [(k, 1, 23)] [])))
theorem width1_T1 (l : List (List PV)) (n : Int) (out : List (List PV)) (i : Int) (k : Nat) : lstep tbT G_width LI_width1 c_width1 I_width1 [.sl l .non, .int .i64 n, .sl out (.tok 0), .int .i64 i] ⟨[], [(k, 1, 23)], []⟩ = width1_Tr1 l n out i k := by kernel_rfl
theorem width1_E1 (l : List (List PV)) (n : Int) (out : List (List PV)) (i : Int) (k : Nat) : width1_V [.sl l .non, .int .i64 n, .sl out (.tok 0), .int .i64 i] ⟨[], [(k, 1, 23)], []⟩ = lnext width1_V (width1_Tr1 l n out i k).run := by unfold width1_V; rw [lval_eq, width1_T1]
noncomputable def width1_W (l : List (List PV)) (n : Int) (out : List (List PV)) (i : Int) : Option (PExit × List PV × Store) := width1_V [.sl l .non, .int .i64 n, .sl out .full, .int .i64 i] ⟨[], [], []⟩
noncomputable def width1_out_0 (l : List (List PV)) (n : Int) (out : List (List PV)) (i : Int) : List (List PV) := (gRow (gOut (width1_W l n out i) 0))
noncomputable def width1_is0 (l : List (List PV)) (n : Int) (out : List (List PV)) (i : Int) : Bool := isW (width1_W l n out i) ((.exit 0), [.sl (width1_out_0 l n out i) .full], ⟨[], [], []⟩)
noncomputable def width1_out_1 (l : List (List PV)) (n : Int) (out : List (List PV)) (i : Int) : List (List PV) := (gRow (gOut (width1_W l n out i) 0))
noncomputable def width1_k_1 (l : List (List PV)) (n : Int) (out : List (List PV)) (i : Int) : Nat := (gTok (width1_W l n out i) 0)
noncomputable def width1_is1 (l : List (List PV)) (n : Int) (out : List (List PV)) (i : Int) : Bool := isW (width1_W l n out i) ((.exit 0), [.sl (width1_out_1 l n out i) (.tok 0)], ⟨[], [((width1_k_1 l n out i), 1, 23)], []⟩)
noncomputable def width1_prop : List PV → Store → Tr (PExit × List PV × Store) | [.sl l .non, .int .i64 n, .sl out .full, .int .i64 i], ⟨[], [], []⟩ => .ite (width1_is0 l n out i) (.ret ((.exit 0), [.sl (width1_out_0 l n out i) .full], ⟨[], [], []⟩)) (.ite (width1_is1 l n out i) (.ret ((.exit 0), [.sl (width1_out_1 l n out i) (.tok 0)], ⟨[], [((width1_k_1 l n out i), 1, 23)], []⟩)) (.fail)) | _, _ => .fail
theorem width1_ok : ∀ vs σ r, (width1_prop vs σ).run = some r → width1_V vs σ = some r := by
  intro vs σ r h
  unfold width1_prop at h
  split at h
  · exact ite_isW h fun h => ite_isW h fun h => by cases h
  · cases h
theorem loop_width1 (gl : Nat → Option Obj) : ∀ fr σ e fr' σ', (orc I_width1 width1_prop fr σ).run = some (e, fr', σ') → LDoes Tryd.prog gl c_width1 fr σ e fr' σ' := orc_ok tbT_ok (gok_width gl ) noMixed (L := LI_width1) (loopOk_none (by kernel_rfl)) (by kernel_rfl) width1_ok
noncomputable def L_width : LpsT := fun r fr σ => bif Nat.beq r 3 then orc I_width1 width1_prop fr σ else .fail
noncomputable def width_Tr (l : List (List PV)) (n : Int) : Tr PV := Tr.ite (width1_is0 l n [] 0) (Tr.ret (PV.sl (shutLL (width1_out_0 l n [] 0)) .non)) (Tr.ite (width1_is1 l n [] 0) (Tr.ret (PV.sl (shutLL (width1_out_1 l n [] 0)) .non)) Tr.fail)
theorem width_T (l : List (List PV)) (n : Int) : (tcall tbT G_width L_width Tryd.f25 [.sl l .non, .int .i64 n]).flat = width_Tr l n := by kernel_rfl
noncomputable def width_W (l : List (List PV)) (n : Int) : Option PV := (width_Tr l n).run
noncomputable def width_r (l : List (List PV)) (n : Int) : List (List PV) := (gRow (gVal (width_W l n)))
noncomputable def width_is0 (l : List (List PV)) (n : Int) : Bool := isW (width_W l n) (.sl (width_r l n) .non)
noncomputable def F_width : List PV → Tr PV | [.sl l .non, .int .i64 n] => .ite (width_is0 l n) (.ret (.sl (width_r l n) .non)) (.fail) | _ => .fail
theorem sim_width (gl : Nat → Option Obj) : SimP Tryd.prog gl 25 fun args => (F_width args).run := by
  refine SimP.of_flat (G := G_width) (L := L_width) tbT_ok (gok_width gl ) noMixed Tryd.func25 rfl (by rfl) (by kernel_rfl) (loopOk_all (L := lps L_width) [(3, c_width1)] (by kernel_rfl) (List.forall_mem_cons.2 ⟨fun fr σ e fr' σ' h => loop_width1 gl  fr σ e fr' σ' h, (List.forall_mem_nil _)⟩)) ?_
  intro args x h
  unfold F_width at h
  split at h
  · exact (congrArg Tr.run (width_T _ _)).trans (ite_isW h fun h => by cases h)
  · cases h
end Go.Pv

set_option maxHeartbeats 4000000
set_option maxRecDepth 200000
set_option linter.unusedSimpArgs false
set_option linter.unusedVariables false
namespace Go.Pv
open Go Go.Proofs
noncomputable def G_RM0 : GamT := ofL [(19, .pure F_Find), (29, .pure F_RPat)]
theorem gok_RM0 (gl : Nat → Option Obj) : GamOk Tryd.prog gl (gam G_RM0) := (gamOk_cons (sim_Find gl) (gamOk_cons (sim_RPat gl) gamOk_nil))
noncomputable def c_RM01 : Code := loopC Tryd.f27 5
def I_RM01 : LI := ⟨99, [0, 1, 6, 7], fun e => match e with | .ret => [4, 5] | .exit 0 => [6] | _ => [], true⟩
noncomputable def LI_RM01 : LpsT := fun r fr σ => .fail
noncomputable def RM01_V (vs : List PV) (σ : Store) : Option (PExit × List PV × Store) := lval (lstep tbT G_RM0 LI_RM01 c_RM01 I_RM01) vs σ
noncomputable def RM01_Tr (r : List (List PV)) (r2 : List (List PV)) (r3 : List (List PV)) (n : Int) : Tr LR := Tr.ite (iLt n (xLen r)) (Tr.ite (okPos n) (Tr.ite (okGet [PV.int .i64 0, PV.str [], PV.int .i64 0, PV.int .i64 0, PV.str []] r (nNat n)) (Tr.ite (okR cB (lockLL r3)) (Tr.ite (okPos n) (Tr.ite (okGet [PV.int .i64 0, PV.str [], PV.int .i64 0, PV.int .i64 0, PV.str []] r (nNat n)) (Tr.ite (iEq (xInt r (nNat n) 0) 2) (Tr.ite (okPos n) (Tr.ite (okGet [PV.int .i64 0, PV.str [], PV.int .i64 0, PV.int .i64 0, PV.str []] r (nNat n)) (Tr.ite (okPos n) (Tr.ite (okGet [PV.int .i64 0, PV.int .i64 0, PV.str []] r2 (nNat n)) (Tr.ite (bNot (bAnd (iEq (xInt r (nNat n) 2) (xInt r2 (nNat n) 0)) (bAnd (iEq (xInt r (nNat n) 3) (xInt r2 (nNat n) 1)) (bAnd (sEq (xStr r (nNat n) 4) (xStr r2 (nNat n) 2)) true)))) (Tr.ret (LR.out .ret [PV.sl (dropPLL 0 []) .full, PV.bool false] (Store.mk [] [] []))) (Tr.ite (okPos n) (Tr.ite (okGet [PV.int .i64 0, PV.str [], PV.int .i64 0, PV.int .i64 0, PV.str []] r (nNat n)) (Tr.ite (iEq (xInt r (nNat n) 0) 1) (Tr.ite (fdO (lockLL r3) (xStr r (nNat n) 1)) (Tr.ite (okPos n) (Tr.ite (okGet [PV.int .i64 0, PV.int .i64 0, PV.str []] r2 (nNat n)) (Tr.ite (bNot (bAnd (iEq (fdK (lockLL r3) (xStr r (nNat n) 1)) (xInt r2 (nNat n) 0)) (bAnd (iEq (fdN (lockLL r3) (xStr r (nNat n) 1)) (xInt r2 (nNat n) 1)) (bAnd (sEq (fdS (lockLL r3) (xStr r (nNat n) 1)) (xStr r2 (nNat n) 2)) true)))) (Tr.ret (LR.out .ret [PV.sl (dropPLL 0 []) .full, PV.bool false] (Store.mk [] [] []))) (Tr.ite (okPos n) (Tr.ite (okGet [PV.int .i64 0, PV.str [], PV.int .i64 0, PV.int .i64 0, PV.str []] r (nNat n)) (Tr.ite (iEq (xInt r (nNat n) 0) 1) (Tr.ite (bNot (fdO (lockLL r3) (xStr r (nNat n) 1))) (Tr.ite (okPos n) (Tr.ite (okGet [PV.int .i64 0, PV.str [], PV.int .i64 0, PV.int .i64 0, PV.str []] r (nNat n)) (Tr.ite (okPos n) (Tr.ite (okGet [PV.int .i64 0, PV.int .i64 0, PV.str []] r2 (nNat n)) (Tr.ite (okGrow r3
 [[PV.str (xStr r (nNat n) 1), PV.int .i64 (xInt r2 (nNat n) 0), PV.int .i64 (xInt r2 (nNat n) 1), PV.str (xStr r2 (nNat n) 2)]] 48) (Tr.ite (okNews [[PV.str (xStr r (nNat n) 1), PV.int .i64 (xInt r2 (nNat n) 0), PV.int .i64 (xInt r2 (nNat n) 1), PV.str (xStr r2 (nNat n) 2)]] 4) (Tr.ite (okSize r3 4) (Tr.ret (LR.next [PV.sl (dropPLL 0 r) .non, PV.sl (dropPLL 0 r2) .non, PV.sl (dropPLL 0 (xApp r3 [[PV.str (xStr r (nNat n) 1), PV.int .i64 (xInt r2 (nNat n) 0), PV.int .i64 (xInt r2 (nNat n) 1), PV.str (xStr r2 (nNat n) 2)]])) (.tok 0), PV.int .i64 (iAdd .i64 n 1)] (Store.mk [] [(nXs (xApp r3 [[PV.str (xStr r (nNat n) 1), PV.int .i64 (xInt r2 (nNat n) 0), PV.int .i64 (xInt r2 (nNat n) 1), PV.str (xStr r2 (nNat n) 2)]]), 4, 74)] []))) Tr.fail) Tr.fail) Tr.fail) Tr.fail) Tr.fail) Tr.fail) Tr.fail) (Tr.ret (LR.next [PV.sl (dropPLL 0 r) .non, PV.sl (dropPLL 0 r2) .non, PV.sl (dropPLL 0 r3) .full, PV.int .i64 (iAdd .i64 n 1)] (Store.mk [] [] [])))) (Tr.ret (LR.next [PV.sl (dropPLL 0 r) .non, PV.sl (dropPLL 0 r2) .non, PV.sl (dropPLL 0 r3) .full, PV.int .i64 (iAdd .i64 n 1)] (Store.mk [] [] [])))) Tr.fail) Tr.fail)) Tr.fail) Tr.fail) (Tr.ite (okPos n) (Tr.ite (okGet [PV.int .i64 0, PV.str [], PV.int .i64 0, PV.int .i64 0, PV.str []] r (nNat n)) (Tr.ite (iEq (xInt r (nNat n) 0) 1) (Tr.ite (bNot (fdO (lockLL r3) (xStr r (nNat n) 1))) (Tr.ite (okPos n) (Tr.ite (okGet [PV.int .i64 0, PV.str [], PV.int .i64 0, PV.int .i64 0, PV.str []] r (nNat n)) (Tr.ite (okPos n) (Tr.ite (okGet [PV.int .i64 0, PV.int .i64 0, PV.str []] r2 (nNat n)) (Tr.ite (okGrow r3 [[PV.str (xStr r (nNat n) 1), PV.int .i64 (xInt r2 (nNat n) 0), PV.int .i64 (xInt r2 (nNat n) 1), PV.str (xStr r2 (nNat n) 2)]] 48) (Tr.ite (okNews [[PV.str (xStr r (nNat n) 1), PV.int .i64 (xInt r2 (nNat n) 0), PV.int .i64 (xInt r2 (nNat n) 1), PV.str (xStr r2 (nNat n) 2)]] 4) (Tr.ite (okSize r3 4) (Tr.ret (LR.next [PV.sl (dropPLL 0 r) .non, PV.sl (dropPLL 0 r2) .non, PV.sl (dropPLL 0 (xApp r3
 [[PV.str (xStr r (nNat n) 1), PV.int .i64 (xInt r2 (nNat n) 0), PV.int .i64 (xInt r2 (nNat n) 1), PV.str (xStr r2 (nNat n) 2)]])) (.tok 0), PV.int .i64 (iAdd .i64 n 1)] (Store.mk [] [(nXs (xApp r3 [[PV.str (xStr r (nNat n) 1), PV.int .i64 (xInt r2 (nNat n) 0), PV.int .i64 (xInt r2 (nNat n) 1), PV.str (xStr r2 (nNat n) 2)]]), 4, 74)] []))) Tr.fail) Tr.fail) Tr.fail) Tr.fail) Tr.fail) Tr.fail) Tr.fail) (Tr.ret (LR.next [PV.sl (dropPLL 0 r) .non, PV.sl (dropPLL 0 r2) .non, PV.sl (dropPLL 0 r3) .full, PV.int .i64 (iAdd .i64 n 1)] (Store.mk [] [] [])))) (Tr.ret (LR.next [PV.sl (dropPLL 0 r) .non, PV.sl (dropPLL 0 r2) .non, PV.sl (dropPLL 0 r3) .full, PV.int .i64 (iAdd .i64 n 1)] (Store.mk [] [] [])))) Tr.fail) Tr.fail)) (Tr.ite (okPos n) (Tr.ite (okGet [PV.int .i64 0, PV.str [], PV.int .i64 0, PV.int .i64 0, PV.str []] r (nNat n)) (Tr.ite (iEq (xInt r (nNat n) 0) 1) (Tr.ite (bNot (fdO (lockLL r3) (xStr r (nNat n) 1))) (Tr.ite (okPos n) (Tr.ite (okGet [PV.int .i64 0, PV.str [], PV.int .i64 0, PV.int .i64 0, PV.str []] r (nNat n)) (Tr.ite (okPos n) (Tr.ite (okGet [PV.int .i64 0, PV.int .i64 0, PV.str []] r2 (nNat n)) (Tr.ite (okGrow r3 [[PV.str (xStr r (nNat n) 1), PV.int .i64 (xInt r2 (nNat n) 0), PV.int .i64 (xInt r2 (nNat n) 1), PV.str (xStr r2 (nNat n) 2)]] 48) (Tr.ite (okNews [[PV.str (xStr r (nNat n) 1), PV.int .i64 (xInt r2 (nNat n) 0), PV.int .i64 (xInt r2 (nNat n) 1), PV.str (xStr r2 (nNat n) 2)]] 4) (Tr.ite (okSize r3 4) (Tr.ret (LR.next [PV.sl (dropPLL 0 r) .non, PV.sl (dropPLL 0 r2) .non, PV.sl (dropPLL 0 (xApp r3 [[PV.str (xStr r (nNat n) 1), PV.int .i64 (xInt r2 (nNat n) 0), PV.int .i64 (xInt r2 (nNat n) 1), PV.str (xStr r2 (nNat n) 2)]])) (.tok 0), PV.int .i64 (iAdd .i64 n 1)] (Store.mk [] [(nXs (xApp r3 [[PV.str (xStr r (nNat n) 1), PV.int .i64 (xInt r2 (nNat n) 0), PV.int .i64 (xInt r2 (nNat n) 1), PV.str (xStr r2 (nNat n) 2)]]), 4, 74)] []))) Tr.fail) Tr.fail) Tr.fail) Tr.fail) Tr.fail) Tr.fail) Tr.fail) (Tr.ret (LR.next
 [PV.sl (dropPLL 0 r) .non, PV.sl (dropPLL 0 r2) .non, PV.sl (dropPLL 0 r3) .full, PV.int .i64 (iAdd .i64 n 1)] (Store.mk [] [] [])))) (Tr.ret (LR.next [PV.sl (dropPLL 0 r) .non, PV.sl (dropPLL 0 r2) .non, PV.sl (dropPLL 0 r3) .full, PV.int .i64 (iAdd .i64 n 1)] (Store.mk [] [] [])))) Tr.fail) Tr.fail)) Tr.fail) Tr.fail)) Tr.fail) Tr.fail) Tr.fail) Tr.fail) (Tr.ite (okPos n) (Tr.ite (okGet [PV.int .i64 0, PV.str [], PV.int .i64 0, PV.int .i64 0, PV.str []] r (nNat n)) (Tr.ite (iEq (xInt r (nNat n) 0) 1) (Tr.ite (fdO (lockLL r3) (xStr r (nNat n) 1)) (Tr.ite (okPos n) (Tr.ite (okGet [PV.int .i64 0, PV.int .i64 0, PV.str []] r2 (nNat n)) (Tr.ite (bNot (bAnd (iEq (fdK (lockLL r3) (xStr r (nNat n) 1)) (xInt r2 (nNat n) 0)) (bAnd (iEq (fdN (lockLL r3) (xStr r (nNat n) 1)) (xInt r2 (nNat n) 1)) (bAnd (sEq (fdS (lockLL r3) (xStr r (nNat n) 1)) (xStr r2 (nNat n) 2)) true)))) (Tr.ret (LR.out .ret [PV.sl (dropPLL 0 []) .full, PV.bool false] (Store.mk [] [] []))) (Tr.ite (okPos n) (Tr.ite (okGet [PV.int .i64 0, PV.str [], PV.int .i64 0, PV.int .i64 0, PV.str []] r (nNat n)) (Tr.ite (iEq (xInt r (nNat n) 0) 1) (Tr.ite (bNot (fdO (lockLL r3) (xStr r (nNat n) 1))) (Tr.ite (okPos n) (Tr.ite (okGet [PV.int .i64 0, PV.str [], PV.int .i64 0, PV.int .i64 0, PV.str []] r (nNat n)) (Tr.ite (okPos n) (Tr.ite (okGet [PV.int .i64 0, PV.int .i64 0, PV.str []] r2 (nNat n)) (Tr.ite (okGrow r3 [[PV.str (xStr r (nNat n) 1), PV.int .i64 (xInt r2 (nNat n) 0), PV.int .i64 (xInt r2 (nNat n) 1), PV.str (xStr r2 (nNat n) 2)]] 48) (Tr.ite (okNews [[PV.str (xStr r (nNat n) 1), PV.int .i64 (xInt r2 (nNat n) 0), PV.int .i64 (xInt r2 (nNat n) 1), PV.str (xStr r2 (nNat n) 2)]] 4) (Tr.ite (okSize r3 4) (Tr.ret (LR.next [PV.sl (dropPLL 0 r) .non, PV.sl (dropPLL 0 r2) .non, PV.sl (dropPLL 0 (xApp r3 [[PV.str (xStr r (nNat n) 1), PV.int .i64 (xInt r2 (nNat n) 0), PV.int .i64 (xInt r2 (nNat n) 1), PV.str (xStr r2 (nNat n) 2)]])) (.tok 0), PV.int .i64 (iAdd .i64 n 1)] (Store.mk [] [(nXs (xApp r3
 [[PV.str (xStr r (nNat n) 1), PV.int .i64 (xInt r2 (nNat n) 0), PV.int .i64 (xInt r2 (nNat n) 1), PV.str (xStr r2 (nNat n) 2)]]), 4, 74)] []))) Tr.fail) Tr.fail) Tr.fail) Tr.fail) Tr.fail) Tr.fail) Tr.fail) (Tr.ret (LR.next [PV.sl (dropPLL 0 r) .non, PV.sl (dropPLL 0 r2) .non, PV.sl (dropPLL 0 r3) .full, PV.int .i64 (iAdd .i64 n 1)] (Store.mk [] [] [])))) (Tr.ret (LR.next [PV.sl (dropPLL 0 r) .non, PV.sl (dropPLL 0 r2) .non, PV.sl (dropPLL 0 r3) .full, PV.int .i64 (iAdd .i64 n 1)] (Store.mk [] [] [])))) Tr.fail) Tr.fail)) Tr.fail) Tr.fail) (Tr.ite (okPos n) (Tr.ite (okGet [PV.int .i64 0, PV.str [], PV.int .i64 0, PV.int .i64 0, PV.str []] r (nNat n)) (Tr.ite (iEq (xInt r (nNat n) 0) 1) (Tr.ite (bNot (fdO (lockLL r3) (xStr r (nNat n) 1))) (Tr.ite (okPos n) (Tr.ite (okGet [PV.int .i64 0, PV.str [], PV.int .i64 0, PV.int .i64 0, PV.str []] r (nNat n)) (Tr.ite (okPos n) (Tr.ite (okGet [PV.int .i64 0, PV.int .i64 0, PV.str []] r2 (nNat n)) (Tr.ite (okGrow r3 [[PV.str (xStr r (nNat n) 1), PV.int .i64 (xInt r2 (nNat n) 0), PV.int .i64 (xInt r2 (nNat n) 1), PV.str (xStr r2 (nNat n) 2)]] 48) (Tr.ite (okNews [[PV.str (xStr r (nNat n) 1), PV.int .i64 (xInt r2 (nNat n) 0), PV.int .i64 (xInt r2 (nNat n) 1), PV.str (xStr r2 (nNat n) 2)]] 4) (Tr.ite (okSize r3 4) (Tr.ret (LR.next [PV.sl (dropPLL 0 r) .non, PV.sl (dropPLL 0 r2) .non, PV.sl (dropPLL 0 (xApp r3 [[PV.str (xStr r (nNat n) 1), PV.int .i64 (xInt r2 (nNat n) 0), PV.int .i64 (xInt r2 (nNat n) 1), PV.str (xStr r2 (nNat n) 2)]])) (.tok 0), PV.int .i64 (iAdd .i64 n 1)] (Store.mk [] [(nXs (xApp r3 [[PV.str (xStr r (nNat n) 1), PV.int .i64 (xInt r2 (nNat n) 0), PV.int .i64 (xInt r2 (nNat n) 1), PV.str (xStr r2 (nNat n) 2)]]), 4, 74)] []))) Tr.fail) Tr.fail) Tr.fail) Tr.fail) Tr.fail) Tr.fail) Tr.fail) (Tr.ret (LR.next [PV.sl (dropPLL 0 r) .non, PV.sl (dropPLL 0 r2) .non, PV.sl (dropPLL 0 r3) .full, PV.int .i64 (iAdd .i64 n 1)] (Store.mk [] [] [])))) (Tr.ret
 (LR.next [PV.sl (dropPLL 0 r) .non, PV.sl (dropPLL 0 r2) .non, PV.sl (dropPLL 0 r3) .full, PV.int .i64 (iAdd .i64 n 1)] (Store.mk [] [] [])))) Tr.fail) Tr.fail)) (Tr.ite (okPos n) (Tr.ite (okGet [PV.int .i64 0, PV.str [], PV.int .i64 0, PV.int .i64 0, PV.str []] r (nNat n)) (Tr.ite (iEq (xInt r (nNat n) 0) 1) (Tr.ite (bNot (fdO (lockLL r3) (xStr r (nNat n) 1))) (Tr.ite (okPos n) (Tr.ite (okGet [PV.int .i64 0, PV.str [], PV.int .i64 0, PV.int .i64 0, PV.str []] r (nNat n)) (Tr.ite (okPos n) (Tr.ite (okGet [PV.int .i64 0, PV.int .i64 0, PV.str []] r2 (nNat n)) (Tr.ite (okGrow r3 [[PV.str (xStr r (nNat n) 1), PV.int .i64 (xInt r2 (nNat n) 0), PV.int .i64 (xInt r2 (nNat n) 1), PV.str (xStr r2 (nNat n) 2)]] 48) (Tr.ite (okNews [[PV.str (xStr r (nNat n) 1), PV.int .i64 (xInt r2 (nNat n) 0), PV.int .i64 (xInt r2 (nNat n) 1), PV.str (xStr r2 (nNat n) 2)]] 4) (Tr.ite (okSize r3 4) (Tr.ret (LR.next [PV.sl (dropPLL 0 r) .non, PV.sl (dropPLL 0 r2) .non, PV.sl (dropPLL 0 (xApp r3 [[PV.str (xStr r (nNat n) 1), PV.int .i64 (xInt r2 (nNat n) 0), PV.int .i64 (xInt r2 (nNat n) 1), PV.str (xStr r2 (nNat n) 2)]])) (.tok 0), PV.int .i64 (iAdd .i64 n 1)] (Store.mk [] [(nXs (xApp r3 [[PV.str (xStr r (nNat n) 1), PV.int .i64 (xInt r2 (nNat n) 0), PV.int .i64 (xInt r2 (nNat n) 1), PV.str (xStr r2 (nNat n) 2)]]), 4, 74)] []))) Tr.fail) Tr.fail) Tr.fail) Tr.fail) Tr.fail) Tr.fail) Tr.fail) (Tr.ret (LR.next [PV.sl (dropPLL 0 r) .non, PV.sl (dropPLL 0 r2) .non, PV.sl (dropPLL 0 r3) .full, PV.int .i64 (iAdd .i64 n 1)] (Store.mk [] [] [])))) (Tr.ret (LR.next [PV.sl (dropPLL 0 r) .non, PV.sl (dropPLL 0 r2) .non, PV.sl (dropPLL 0 r3) .full, PV.int .i64 (iAdd .i64 n 1)] (Store.mk [] [] [])))) Tr.fail) Tr.fail)) Tr.fail) Tr.fail)) Tr.fail) Tr.fail) Tr.fail) Tr.fail) Tr.fail) (Tr.ret (LR.out (.exit 0) [PV.sl r3 .full] (Store.mk [] [] [])))
theorem RM01_T (r : List (List PV)) (r2 : List (List PV)) (r3 : List (List PV)) (n : Int) : lstep tbT G_RM0 LI_RM01 c_RM01 I_RM01 [.sl r .non, .sl r2 .non, .sl r3 .full, .int .i64 n] ⟨[], [], []⟩ = RM01_Tr r r2 r3 n := by kernel_rfl
theorem RM01_E (r : List (List PV)) (r2 : List (List PV)) (r3 : List (List PV)) (n : Int) : RM01_V [.sl r .non, .sl r2 .non, .sl r3 .full, .int .i64 n] ⟨[], [], []⟩ = lnext RM01_V (RM01_Tr r r2 r3 n).run := by unfold RM01_V; rw [lval_eq, RM01_T]
noncomputable def RM01_Tr1 (r : List (List PV)) (r2 : List (List PV)) (r3 : List (List PV)) (n : Int) (k : Nat) : Tr LR := Tr.ite (iLt n (xLen r)) (Tr.ite (okPos n) (Tr.ite (okGet [PV.int .i64 0, PV.str [], PV.int .i64 0, PV.int .i64 0, PV.str []] r (nNat n)) (Tr.ite (okR cB (lockLL r3)) (Tr.ite (okPos n) (Tr.ite (okGet [PV.int .i64 0, PV.str [], PV.int .i64 0, PV.int .i64 0, PV.str []] r (nNat n)) (Tr.ite (iEq (xInt r (nNat n) 0) 2) (Tr.ite (okPos n) (Tr.ite (okGet [PV.int .i64 0, PV.str [], PV.int .i64 0, PV.int .i64 0, PV.str []] r (nNat n)) (Tr.ite (okPos n) (Tr.ite (okGet [PV.int .i64 0, PV.int .i64 0, PV.str []] r2 (nNat n)) (Tr.ite (bNot (bAnd (iEq (xInt r (nNat n) 2) (xInt r2 (nNat n) 0)) (bAnd (iEq (xInt r (nNat n) 3) (xInt r2 (nNat n) 1)) (bAnd (sEq (xStr r (nNat n) 4) (xStr r2 (nNat n) 2)) true)))) (Tr.ret (LR.out .ret [PV.sl (dropPLL 0 []) .full, PV.bool false] (Store.mk [] [(k, 4, 74)] []))) (Tr.ite (okPos n) (Tr.ite (okGet [PV.int .i64 0, PV.str [], PV.int .i64 0, PV.int .i64 0, PV.str []] r (nNat n)) (Tr.ite (iEq (xInt r (nNat n) 0) 1) (Tr.ite (fdO (lockLL r3) (xStr r (nNat n) 1)) (Tr.ite (okPos n) (Tr.ite (okGet [PV.int .i64 0, PV.int .i64 0, PV.str []] r2 (nNat n)) (Tr.ite (bNot (bAnd (iEq (fdK (lockLL r3) (xStr r (nNat n) 1)) (xInt r2 (nNat n) 0)) (bAnd (iEq (fdN (lockLL r3) (xStr r (nNat n) 1)) (xInt r2 (nNat n) 1)) (bAnd (sEq (fdS (lockLL r3) (xStr r (nNat n) 1)) (xStr r2 (nNat n) 2)) true)))) (Tr.ret (LR.out .ret [PV.sl (dropPLL 0 []) .full, PV.bool false] (Store.mk [] [(k, 4, 74)] []))) (Tr.ite (okPos n) (Tr.ite (okGet [PV.int .i64 0, PV.str [], PV.int .i64 0, PV.int .i64 0, PV.str []] r (nNat n)) (Tr.ite (iEq (xInt r (nNat n) 0) 1) (Tr.ite (bNot (fdO (lockLL r3) (xStr r (nNat n) 1))) (Tr.ite (okPos n) (Tr.ite (okGet [PV.int .i64 0, PV.str [], PV.int .i64 0, PV.int .i64 0, PV.str []] r (nNat n)) (Tr.ite (okPos n) (Tr.ite (okGet [PV.int .i64 0, PV.int .i64 0, PV.str []] r2 (nNat n)) (Tr.ite (okGrow r3
 [[PV.str (xStr r (nNat n) 1), PV.int .i64 (xInt r2 (nNat n) 0), PV.int .i64 (xInt r2 (nNat n) 1), PV.str (xStr r2 (nNat n) 2)]] 48) (Tr.ite (okNews [[PV.str (xStr r (nNat n) 1), PV.int .i64 (xInt r2 (nNat n) 0), PV.int .i64 (xInt r2 (nNat n) 1), PV.str (xStr r2 (nNat n) 2)]] 4) (Tr.ite (okSize r3 4) (Tr.ite (nEq k (nXs r3)) (Tr.ret (LR.next [PV.sl (dropPLL 0 r) .non, PV.sl (dropPLL 0 r2) .non, PV.sl (dropPLL 0 (xApp r3 [[PV.str (xStr r (nNat n) 1), PV.int .i64 (xInt r2 (nNat n) 0), PV.int .i64 (xInt r2 (nNat n) 1), PV.str (xStr r2 (nNat n) 2)]])) (.tok 0), PV.int .i64 (iAdd .i64 n 1)] (Store.mk [] [(nXs (xApp r3 [[PV.str (xStr r (nNat n) 1), PV.int .i64 (xInt r2 (nNat n) 0), PV.int .i64 (xInt r2 (nNat n) 1), PV.str (xStr r2 (nNat n) 2)]]), 4, 74)] []))) Tr.fail) Tr.fail) Tr.fail) Tr.fail) Tr.fail) Tr.fail) Tr.fail) Tr.fail) (Tr.ret (LR.next [PV.sl (dropPLL 0 r) .non, PV.sl (dropPLL 0 r2) .non, PV.sl (dropPLL 0 r3) (.tok 0), PV.int .i64 (iAdd .i64 n 1)] (Store.mk [] [(k, 4, 74)] [])))) (Tr.ret (LR.next [PV.sl (dropPLL 0 r) .non, PV.sl (dropPLL 0 r2) .non, PV.sl (dropPLL 0 r3) (.tok 0), PV.int .i64 (iAdd .i64 n 1)] (Store.mk [] [(k, 4, 74)] [])))) Tr.fail) Tr.fail)) Tr.fail) Tr.fail) (Tr.ite (okPos n) (Tr.ite (okGet [PV.int .i64 0, PV.str [], PV.int .i64 0, PV.int .i64 0, PV.str []] r (nNat n)) (Tr.ite (iEq (xInt r (nNat n) 0) 1) (Tr.ite (bNot (fdO (lockLL r3) (xStr r (nNat n) 1))) (Tr.ite (okPos n) (Tr.ite (okGet [PV.int .i64 0, PV.str [], PV.int .i64 0, PV.int .i64 0, PV.str []] r (nNat n)) (Tr.ite (okPos n) (Tr.ite (okGet [PV.int .i64 0, PV.int .i64 0, PV.str []] r2 (nNat n)) (Tr.ite (okGrow r3 [[PV.str (xStr r (nNat n) 1), PV.int .i64 (xInt r2 (nNat n) 0), PV.int .i64 (xInt r2 (nNat n) 1), PV.str (xStr r2 (nNat n) 2)]] 48) (Tr.ite (okNews [[PV.str (xStr r (nNat n) 1), PV.int .i64 (xInt r2 (nNat n) 0), PV.int .i64 (xInt r2 (nNat n) 1), PV.str (xStr r2 (nNat n) 2)]] 4) (Tr.ite (okSize r3 4) (Tr.ite (nEq k (nXs r3)) (Tr.ret (LR.next
 [PV.sl (dropPLL 0 r) .non, PV.sl (dropPLL 0 r2) .non, PV.sl (dropPLL 0 (xApp r3 [[PV.str (xStr r (nNat n) 1), PV.int .i64 (xInt r2 (nNat n) 0), PV.int .i64 (xInt r2 (nNat n) 1), PV.str (xStr r2 (nNat n) 2)]])) (.tok 0), PV.int .i64 (iAdd .i64 n 1)] (Store.mk [] [(nXs (xApp r3 [[PV.str (xStr r (nNat n) 1), PV.int .i64 (xInt r2 (nNat n) 0), PV.int .i64 (xInt r2 (nNat n) 1), PV.str (xStr r2 (nNat n) 2)]]), 4, 74)] []))) Tr.fail) Tr.fail) Tr.fail) Tr.fail) Tr.fail) Tr.fail) Tr.fail) Tr.fail) (Tr.ret (LR.next [PV.sl (dropPLL 0 r) .non, PV.sl (dropPLL 0 r2) .non, PV.sl (dropPLL 0 r3) (.tok 0), PV.int .i64 (iAdd .i64 n 1)] (Store.mk [] [(k, 4, 74)] [])))) (Tr.ret (LR.next [PV.sl (dropPLL 0 r) .non, PV.sl (dropPLL 0 r2) .non, PV.sl (dropPLL 0 r3) (.tok 0), PV.int .i64 (iAdd .i64 n 1)] (Store.mk [] [(k, 4, 74)] [])))) Tr.fail) Tr.fail)) (Tr.ite (okPos n) (Tr.ite (okGet [PV.int .i64 0, PV.str [], PV.int .i64 0, PV.int .i64 0, PV.str []] r (nNat n)) (Tr.ite (iEq (xInt r (nNat n) 0) 1) (Tr.ite (bNot (fdO (lockLL r3) (xStr r (nNat n) 1))) (Tr.ite (okPos n) (Tr.ite (okGet [PV.int .i64 0, PV.str [], PV.int .i64 0, PV.int .i64 0, PV.str []] r (nNat n)) (Tr.ite (okPos n) (Tr.ite (okGet [PV.int .i64 0, PV.int .i64 0, PV.str []] r2 (nNat n)) (Tr.ite (okGrow r3 [[PV.str (xStr r (nNat n) 1), PV.int .i64 (xInt r2 (nNat n) 0), PV.int .i64 (xInt r2 (nNat n) 1), PV.str (xStr r2 (nNat n) 2)]] 48) (Tr.ite (okNews [[PV.str (xStr r (nNat n) 1), PV.int .i64 (xInt r2 (nNat n) 0), PV.int .i64 (xInt r2 (nNat n) 1), PV.str (xStr r2 (nNat n) 2)]] 4) (Tr.ite (okSize r3 4) (Tr.ite (nEq k (nXs r3)) (Tr.ret (LR.next [PV.sl (dropPLL 0 r) .non, PV.sl (dropPLL 0 r2) .non, PV.sl (dropPLL 0 (xApp r3 [[PV.str (xStr r (nNat n) 1), PV.int .i64 (xInt r2 (nNat n) 0), PV.int .i64 (xInt r2 (nNat n) 1), PV.str (xStr r2 (nNat n) 2)]])) (.tok 0), PV.int .i64 (iAdd .i64 n 1)] (Store.mk [] [(nXs (xApp r3 [[PV.str (xStr r (nNat n) 1), PV.int .i64 (xInt r2 (nNat n) 0), PV.int .i64 (xInt r2 (nNat n) 1),
 PV.str (xStr r2 (nNat n) 2)]]), 4, 74)] []))) Tr.fail) Tr.fail) Tr.fail) Tr.fail) Tr.fail) Tr.fail) Tr.fail) Tr.fail) (Tr.ret (LR.next [PV.sl (dropPLL 0 r) .non, PV.sl (dropPLL 0 r2) .non, PV.sl (dropPLL 0 r3) (.tok 0), PV.int .i64 (iAdd .i64 n 1)] (Store.mk [] [(k, 4, 74)] [])))) (Tr.ret (LR.next [PV.sl (dropPLL 0 r) .non, PV.sl (dropPLL 0 r2) .non, PV.sl (dropPLL 0 r3) (.tok 0), PV.int .i64 (iAdd .i64 n 1)] (Store.mk [] [(k, 4, 74)] [])))) Tr.fail) Tr.fail)) Tr.fail) Tr.fail)) Tr.fail) Tr.fail) Tr.fail) Tr.fail) (Tr.ite (okPos n) (Tr.ite (okGet [PV.int .i64 0, PV.str [], PV.int .i64 0, PV.int .i64 0, PV.str []] r (nNat n)) (Tr.ite (iEq (xInt r (nNat n) 0) 1) (Tr.ite (fdO (lockLL r3) (xStr r (nNat n) 1)) (Tr.ite (okPos n) (Tr.ite (okGet [PV.int .i64 0, PV.int .i64 0, PV.str []] r2 (nNat n)) (Tr.ite (bNot (bAnd (iEq (fdK (lockLL r3) (xStr r (nNat n) 1)) (xInt r2 (nNat n) 0)) (bAnd (iEq (fdN (lockLL r3) (xStr r (nNat n) 1)) (xInt r2 (nNat n) 1)) (bAnd (sEq (fdS (lockLL r3) (xStr r (nNat n) 1)) (xStr r2 (nNat n) 2)) true)))) (Tr.ret (LR.out .ret [PV.sl (dropPLL 0 []) .full, PV.bool false] (Store.mk [] [(k, 4, 74)] []))) (Tr.ite (okPos n) (Tr.ite (okGet [PV.int .i64 0, PV.str [], PV.int .i64 0, PV.int .i64 0, PV.str []] r (nNat n)) (Tr.ite (iEq (xInt r (nNat n) 0) 1) (Tr.ite (bNot (fdO (lockLL r3) (xStr r (nNat n) 1))) (Tr.ite (okPos n) (Tr.ite (okGet [PV.int .i64 0, PV.str [], PV.int .i64 0, PV.int .i64 0, PV.str []] r (nNat n)) (Tr.ite (okPos n) (Tr.ite (okGet [PV.int .i64 0, PV.int .i64 0, PV.str []] r2 (nNat n)) (Tr.ite (okGrow r3 [[PV.str (xStr r (nNat n) 1), PV.int .i64 (xInt r2 (nNat n) 0), PV.int .i64 (xInt r2 (nNat n) 1), PV.str (xStr r2 (nNat n) 2)]] 48) (Tr.ite (okNews [[PV.str (xStr r (nNat n) 1), PV.int .i64 (xInt r2 (nNat n) 0), PV.int .i64 (xInt r2 (nNat n) 1), PV.str (xStr r2 (nNat n) 2)]] 4) (Tr.ite (okSize r3 4) (Tr.ite (nEq k (nXs r3)) (Tr.ret (LR.next [PV.sl (dropPLL 0 r) .non, PV.sl (dropPLL 0 r2) .non, PV.sl (dropPLL 0 (xApp r3
 [[PV.str (xStr r (nNat n) 1), PV.int .i64 (xInt r2 (nNat n) 0), PV.int .i64 (xInt r2 (nNat n) 1), PV.str (xStr r2 (nNat n) 2)]])) (.tok 0), PV.int .i64 (iAdd .i64 n 1)] (Store.mk [] [(nXs (xApp r3 [[PV.str (xStr r (nNat n) 1), PV.int .i64 (xInt r2 (nNat n) 0), PV.int .i64 (xInt r2 (nNat n) 1), PV.str (xStr r2 (nNat n) 2)]]), 4, 74)] []))) Tr.fail) Tr.fail) Tr.fail) Tr.fail) Tr.fail) Tr.fail) Tr.fail) Tr.fail) (Tr.ret (LR.next [PV.sl (dropPLL 0 r) .non, PV.sl (dropPLL 0 r2) .non, PV.sl (dropPLL 0 r3) (.tok 0), PV.int .i64 (iAdd .i64 n 1)] (Store.mk [] [(k, 4, 74)] [])))) (Tr.ret (LR.next [PV.sl (dropPLL 0 r) .non, PV.sl (dropPLL 0 r2) .non, PV.sl (dropPLL 0 r3) (.tok 0), PV.int .i64 (iAdd .i64 n 1)] (Store.mk [] [(k, 4, 74)] [])))) Tr.fail) Tr.fail)) Tr.fail) Tr.fail) (Tr.ite (okPos n) (Tr.ite (okGet [PV.int .i64 0, PV.str [], PV.int .i64 0, PV.int .i64 0, PV.str []] r (nNat n)) (Tr.ite (iEq (xInt r (nNat n) 0) 1) (Tr.ite (bNot (fdO (lockLL r3) (xStr r (nNat n) 1))) (Tr.ite (okPos n) (Tr.ite (okGet [PV.int .i64 0, PV.str [], PV.int .i64 0, PV.int .i64 0, PV.str []] r (nNat n)) (Tr.ite (okPos n) (Tr.ite (okGet [PV.int .i64 0, PV.int .i64 0, PV.str []] r2 (nNat n)) (Tr.ite (okGrow r3 [[PV.str (xStr r (nNat n) 1), PV.int .i64 (xInt r2 (nNat n) 0), PV.int .i64 (xInt r2 (nNat n) 1), PV.str (xStr r2 (nNat n) 2)]] 48) (Tr.ite (okNews [[PV.str (xStr r (nNat n) 1), PV.int .i64 (xInt r2 (nNat n) 0), PV.int .i64 (xInt r2 (nNat n) 1), PV.str (xStr r2 (nNat n) 2)]] 4) (Tr.ite (okSize r3 4) (Tr.ite (nEq k (nXs r3)) (Tr.ret (LR.next [PV.sl (dropPLL 0 r) .non, PV.sl (dropPLL 0 r2) .non, PV.sl (dropPLL 0 (xApp r3 [[PV.str (xStr r (nNat n) 1), PV.int .i64 (xInt r2 (nNat n) 0), PV.int .i64 (xInt r2 (nNat n) 1), PV.str (xStr r2 (nNat n) 2)]])) (.tok 0), PV.int .i64 (iAdd .i64 n 1)] (Store.mk [] [(nXs (xApp r3 [[PV.str (xStr r (nNat n) 1), PV.int .i64 (xInt r2 (nNat n) 0), PV.int .i64 (xInt r2 (nNat n) 1), PV.str (xStr r2 (nNat n) 2)]]), 4, 74)] []))) Tr.fail) Tr.fail) Tr.fail) Tr.fail)
 Tr.fail) Tr.fail) Tr.fail) Tr.fail) (Tr.ret (LR.next [PV.sl (dropPLL 0 r) .non, PV.sl (dropPLL 0 r2) .non, PV.sl (dropPLL 0 r3) (.tok 0), PV.int .i64 (iAdd .i64 n 1)] (Store.mk [] [(k, 4, 74)] [])))) (Tr.ret (LR.next [PV.sl (dropPLL 0 r) .non, PV.sl (dropPLL 0 r2) .non, PV.sl (dropPLL 0 r3) (.tok 0), PV.int .i64 (iAdd .i64 n 1)] (Store.mk [] [(k, 4, 74)] [])))) Tr.fail) Tr.fail)) (Tr.ite (okPos n) (Tr.ite (okGet [PV.int .i64 0, PV.str [], PV.int .i64 0, PV.int .i64 0, PV.str []] r (nNat n)) (Tr.ite (iEq (xInt r (nNat n) 0) 1) (Tr.ite (bNot (fdO (lockLL r3) (xStr r (nNat n) 1))) (Tr.ite (okPos n) (Tr.ite (okGet [PV.int .i64 0, PV.str [], PV.int .i64 0, PV.int .i64 0, PV.str []] r (nNat n)) (Tr.ite (okPos n) (Tr.ite (okGet [PV.int .i64 0, PV.int .i64 0, PV.str []] r2 (nNat n)) (Tr.ite (okGrow r3 [[PV.str (xStr r (nNat n) 1), PV.int .i64 (xInt r2 (nNat n) 0), PV.int .i64 (xInt r2 (nNat n) 1), PV.str (xStr r2 (nNat n) 2)]] 48) (Tr.ite (okNews [[PV.str (xStr r (nNat n) 1), PV.int .i64 (xInt r2 (nNat n) 0), PV.int .i64 (xInt r2 (nNat n) 1), PV.str (xStr r2 (nNat n) 2)]] 4) (Tr.ite (okSize r3 4) (Tr.ite (nEq k (nXs r3)) (Tr.ret (LR.next [PV.sl (dropPLL 0 r) .non, PV.sl (dropPLL 0 r2) .non, PV.sl (dropPLL 0 (xApp r3 [[PV.str (xStr r (nNat n) 1), PV.int .i64 (xInt r2 (nNat n) 0), PV.int .i64 (xInt r2 (nNat n) 1), PV.str (xStr r2 (nNat n) 2)]])) (.tok 0), PV.int .i64 (iAdd .i64 n 1)] (Store.mk [] [(nXs (xApp r3 [[PV.str (xStr r (nNat n) 1), PV.int .i64 (xInt r2 (nNat n) 0), PV.int .i64 (xInt r2 (nNat n) 1), PV.str (xStr r2 (nNat n) 2)]]), 4, 74)] []))) Tr.fail) Tr.fail) Tr.fail) Tr.fail) Tr.fail) Tr.fail) Tr.fail) Tr.fail) (Tr.ret (LR.next [PV.sl (dropPLL 0 r) .non, PV.sl (dropPLL 0 r2) .non, PV.sl (dropPLL 0 r3) (.tok 0), PV.int .i64 (iAdd .i64 n 1)] (Store.mk [] [(k, 4, 74)] [])))) (Tr.ret (LR.next [PV.sl (dropPLL 0 r) .non, PV.sl (dropPLL 0 r2) .non, PV.sl (dropPLL 0 r3) (.tok 0), PV.int .i64 (iAdd .i64 n 1)] (Store.mk [] [(k, 4, 74)] [])))) Tr.fail) Tr.fail)) Tr.fail)
 Tr.fail)) Tr.fail) Tr.fail) Tr.fail) Tr.fail) Tr.fail) (Tr.ret (LR.out (.exit 0) [PV.sl r3 (.tok 0)] (Store.mk [] [(k, 4, 74)] [])))
theorem RM01_T1 (r : List (List PV)) (r2 : List (List PV)) (r3 : List (List PV)) (n : Int) (k : Nat) : lstep tbT G_RM0 LI_RM01 c_RM01 I_RM01 [.sl r .non, .sl r2 .non, .sl r3 (.tok 0), .int .i64 n] ⟨[], [(k, 4, 74)], []⟩ = RM01_Tr1 r r2 r3 n k := by kernel_rfl
theorem RM01_E1 (r : List (List PV)) (r2 : List (List PV)) (r3 : List (List PV)) (n : Int) (k : Nat) : RM01_V [.sl r .non, .sl r2 .non, .sl r3 (.tok 0), .int .i64 n] ⟨[], [(k, 4, 74)], []⟩ = lnext RM01_V (RM01_Tr1 r r2 r3 n k).run := by unfold RM01_V; rw [lval_eq, RM01_T1]
noncomputable def RM01_W (r : List (List PV)) (r2 : List (List PV)) (r3 : List (List PV)) (n : Int) : Option (PExit × List PV × Store) := RM01_V [.sl r .non, .sl r2 .non, .sl r3 .full, .int .i64 n] ⟨[], [], []⟩
noncomputable def RM01_r_0 (r : List (List PV)) (r2 : List (List PV)) (r3 : List (List PV)) (n : Int) : List (List PV) := (gRow (gOut (RM01_W r r2 r3 n) 0))
noncomputable def RM01_b_0 (r : List (List PV)) (r2 : List (List PV)) (r3 : List (List PV)) (n : Int) : Bool := (gBool (gOut (RM01_W r r2 r3 n) 1))
noncomputable def RM01_is0 (r : List (List PV)) (r2 : List (List PV)) (r3 : List (List PV)) (n : Int) : Bool := isW (RM01_W r r2 r3 n) (.ret, [.sl (RM01_r_0 r r2 r3 n) .full, .bool (RM01_b_0 r r2 r3 n)], ⟨[], [], []⟩)
noncomputable def RM01_r_1 (r : List (List PV)) (r2 : List (List PV)) (r3 : List (List PV)) (n : Int) : List (List PV) := (gRow (gOut (RM01_W r r2 r3 n) 0))
noncomputable def RM01_is1 (r : List (List PV)) (r2 : List (List PV)) (r3 : List (List PV)) (n : Int) : Bool := isW (RM01_W r r2 r3 n) ((.exit 0), [.sl (RM01_r_1 r r2 r3 n) .full], ⟨[], [], []⟩)
noncomputable def RM01_r_2 (r : List (List PV)) (r2 : List (List PV)) (r3 : List (List PV)) (n : Int) : List (List PV) := (gRow (gOut (RM01_W r r2 r3 n) 0))
noncomputable def RM01_b_2 (r : List (List PV)) (r2 : List (List PV)) (r3 : List (List PV)) (n : Int) : Bool := (gBool (gOut (RM01_W r r2 r3 n) 1))
noncomputable def RM01_k_2 (r : List (List PV)) (r2 : List (List PV)) (r3 : List (List PV)) (n : Int) : Nat := (gTok (RM01_W r r2 r3 n) 0)
noncomputable def RM01_is2 (r : List (List PV)) (r2 : List (List PV)) (r3 : List (List PV)) (n : Int) : Bool := isW (RM01_W r r2 r3 n) (.ret, [.sl (RM01_r_2 r r2 r3 n) .full, .bool (RM01_b_2 r r2 r3 n)], ⟨[], [((RM01_k_2 r r2 r3 n), 4, 74)], []⟩)
noncomputable def RM01_r_3 (r : List (List PV)) (r2 : List (List PV)) (r3 : List (List PV)) (n : Int) : List (List PV) := (gRow (gOut (RM01_W r r2 r3 n) 0))
noncomputable def RM01_k_3 (r : List (List PV)) (r2 : List (List PV)) (r3 : List (List PV)) (n : Int) : Nat := (gTok (RM01_W r r2 r3 n) 0)
noncomputable def RM01_is3 (r : List (List PV)) (r2 : List (List PV)) (r3 : List (List PV)) (n : Int) : Bool := isW (RM01_W r r2 r3 n) ((.exit 0), [.sl (RM01_r_3 r r2 r3 n) (.tok 0)], ⟨[], [((RM01_k_3 r r2 r3 n), 4, 74)], []⟩)
noncomputable def RM01_prop : List PV → Store → Tr (PExit × List PV × Store) | [.sl r .non, .sl r2 .non, .sl r3 .full, .int .i64 n], ⟨[], [], []⟩ => .ite (RM01_is0 r r2 r3 n) (.ret (.ret, [.sl (RM01_r_0 r r2 r3 n) .full, .bool (RM01_b_0 r r2 r3 n)], ⟨[], [], []⟩)) (.ite (RM01_is1 r r2 r3 n) (.ret ((.exit 0), [.sl (RM01_r_1 r r2 r3 n) .full], ⟨[], [], []⟩)) (.ite (RM01_is2 r r2 r3 n) (.ret (.ret, [.sl (RM01_r_2 r r2 r3 n) .full, .bool (RM01_b_2 r r2 r3 n)], ⟨[], [((RM01_k_2 r r2 r3 n), 4, 74)], []⟩)) (.ite (RM01_is3 r r2 r3 n) (.ret ((.exit 0), [.sl (RM01_r_3 r r2 r3 n) (.tok 0)], ⟨[], [((RM01_k_3 r r2 r3 n), 4, 74)], []⟩)) (.fail)))) | _, _ => .fail
theorem RM01_ok : ∀ vs σ r, (RM01_prop vs σ).run = some r → RM01_V vs σ = some r := by
  intro vs σ r h
  unfold RM01_prop at h
  split at h
  · exact ite_isW h fun h => ite_isW h fun h => ite_isW h fun h => ite_isW h fun h => by cases h
  · cases h
theorem loop_RM01 (gl : Nat → Option Obj) : ∀ fr σ e fr' σ', (orc I_RM01 RM01_prop fr σ).run = some (e, fr', σ') → LDoes Tryd.prog gl c_RM01 fr σ e fr' σ' := orc_ok tbT_ok (gok_RM0 gl ) noMixed (L := LI_RM01) (loopOk_none (by kernel_rfl)) (by kernel_rfl) RM01_ok
noncomputable def L_RM0 : LpsT := fun r fr σ => bif Nat.beq r 5 then orc I_RM01 RM01_prop fr σ else .fail
noncomputable def RM0_Tr (v : List (List PV)) (v2 : List (List PV)) : Tr PV := Tr.ite (okR cM (lockLL v)) (Tr.ite (iNe (chkP (lockLL v)) 0) (Tr.ret (PV.tup [PV.sl [] .non, PV.bool false])) (Tr.ite (iNe (xLen v) (xLen v2)) (Tr.ret (PV.tup [PV.sl [] .non, PV.bool false])) (Tr.ite (RM01_is0 v v2 [] 0) (Tr.ret (PV.tup [PV.sl (shutLL (RM01_r_0 v v2 [] 0)) .non, PV.bool (RM01_b_0 v v2 [] 0)])) (Tr.ite (RM01_is1 v v2 [] 0) (Tr.ret (PV.tup [PV.sl (shutLL (RM01_r_1 v v2 [] 0)) .non, PV.bool true])) (Tr.ite (RM01_is2 v v2 [] 0) (Tr.ret (PV.tup [PV.sl (shutLL (RM01_r_2 v v2 [] 0)) .non, PV.bool (RM01_b_2 v v2 [] 0)])) (Tr.ite (RM01_is3 v v2 [] 0) (Tr.ret (PV.tup [PV.sl (shutLL (RM01_r_3 v v2 [] 0)) .non, PV.bool true])) Tr.fail)))))) Tr.fail
theorem RM0_T (v : List (List PV)) (v2 : List (List PV)) : (tcall tbT G_RM0 L_RM0 Tryd.f27 [.sl v .non, .sl v2 .non]).flat = RM0_Tr v v2 := by kernel_rfl
noncomputable def RM0_W (v : List (List PV)) (v2 : List (List PV)) : Option PV := (RM0_Tr v v2).run
noncomputable def RM0_r (v : List (List PV)) (v2 : List (List PV)) : List (List PV) := (gRow (gAt (gCs (gVal (RM0_W v v2))) 0))
noncomputable def RM0_b (v : List (List PV)) (v2 : List (List PV)) : Bool := (gBool (gAt (gCs (gVal (RM0_W v v2))) 1))
noncomputable def RM0_is0 (v : List (List PV)) (v2 : List (List PV)) : Bool := isW (RM0_W v v2) (.tup [.sl (RM0_r v v2) .non, .bool (RM0_b v v2)])
noncomputable def F_RM0 : List PV → Tr PV | [.sl v .non, .sl v2 .non] => .ite (RM0_is0 v v2) (.ret (.tup [.sl (RM0_r v v2) .non, .bool (RM0_b v v2)])) (.fail) | _ => .fail
theorem sim_RM0 (gl : Nat → Option Obj) : SimP Tryd.prog gl 27 fun args => (F_RM0 args).run := by
  refine SimP.of_flat (G := G_RM0) (L := L_RM0) tbT_ok (gok_RM0 gl ) noMixed Tryd.func27 rfl (by rfl) (by kernel_rfl) (loopOk_all (L := lps L_RM0) [(5, c_RM01)] (by kernel_rfl) (List.forall_mem_cons.2 ⟨fun fr σ e fr' σ' h => loop_RM01 gl  fr σ e fr' σ' h, (List.forall_mem_nil _)⟩)) ?_
  intro args x h
  unfold F_RM0 at h
  split at h
  · exact (congrArg Tr.run (RM0_T _ _)).trans (ite_isW h fun h => by cases h)
  · cases h
noncomputable def G_Mt0 : GamT := ofL [(28, .pure F_TPat), (57, .pure F_Idx), (58, .pure F_mcl)]
theorem gok_Mt0 (gl : Nat → Option Obj) : GamOk Tryd.prog gl (gam G_Mt0) := (gamOk_cons (sim_TPat gl) (gamOk_cons (sim_Idx gl) (gamOk_cons (sim_mcl gl) gamOk_nil)))
noncomputable def c_Mt01 : Code := loopC Tryd.f18 5
def I_Mt01 : LI := ⟨67, [1, 6, 20, 21, 22], fun e => match e with | .ret => [4, 5] | .exit 0 => [6] | _ => [], true⟩
noncomputable def LI_Mt01 : LpsT := fun r fr σ => .fail
noncomputable def Mt01_V (vs : List PV) (σ : Store) : Option (PExit × List PV × Store) := lval (lstep tbT G_Mt0 LI_Mt01 c_Mt01 I_Mt01) vs σ
noncomputable def Mt01_Tr (r : List (List PV)) (r2 : List (List PV)) (r3 : List (List PV)) (n : Int) (n2 : Int) : Tr LR := Tr.ite (iLt n2 n) (Tr.ite (okPos n2) (Tr.ite (okGet [PV.int .i64 0, PV.str [], PV.int .i64 0, PV.int .i64 0, PV.str []] r3 (nNat n2)) (Tr.ite (iEq (xInt r3 (nNat n2) 0) 2) (Tr.ite (okPos n2) (Tr.ite (okGet [PV.int .i64 0, PV.int .i64 0, PV.str []] r (nNat n2)) (Tr.ite (bNot (bAnd (iEq (xInt r3 (nNat n2) 2) (xInt r (nNat n2) 0)) (bAnd (iEq (xInt r3 (nNat n2) 3) (xInt r (nNat n2) 1)) (bAnd (sEq (xStr r3 (nNat n2) 4) (xStr r (nNat n2) 2)) true)))) (Tr.ret (LR.out .ret [PV.sl (dropPLL 0 []) .full, PV.bool false] (Store.mk [] [] []))) (Tr.ret (LR.next [PV.sl (dropPLL 0 r) .non, PV.sl (dropPLL 0 r2) .full, PV.sl (dropPLL 0 r3) .non, PV.int .i64 n, PV.int .i64 (iAdd .i64 n2 1)] (Store.mk [] [] [])))) Tr.fail) Tr.fail) (Tr.ite (iEq (xInt r3 (nNat n2) 0) 1) (Tr.ite (okR cB (lockLL r2)) (Tr.ite (iLt (idxV (lockLL r2) (xStr r3 (nNat n2) 1)) 0) (Tr.ite (okPos n2) (Tr.ite (okGet [PV.int .i64 0, PV.int .i64 0, PV.str []] r (nNat n2)) (Tr.ite (okGrow r2 [[PV.str (xStr r3 (nNat n2) 1), PV.int .i64 (xInt r (nNat n2) 0), PV.int .i64 (xInt r (nNat n2) 1), PV.str (xStr r (nNat n2) 2)]] 48) (Tr.ite (okNews [[PV.str (xStr r3 (nNat n2) 1), PV.int .i64 (xInt r (nNat n2) 0), PV.int .i64 (xInt r (nNat n2) 1), PV.str (xStr r (nNat n2) 2)]] 4) (Tr.ite (okSize r2 4) (Tr.ret (LR.next [PV.sl (dropPLL 0 r) .non, PV.sl (dropPLL 0 (xApp r2 [[PV.str (xStr r3 (nNat n2) 1), PV.int .i64 (xInt r (nNat n2) 0), PV.int .i64 (xInt r (nNat n2) 1), PV.str (xStr r (nNat n2) 2)]])) (.tok 0), PV.sl (dropPLL 0 r3) .non, PV.int .i64 n, PV.int .i64 (iAdd .i64 n2 1)] (Store.mk [] [(nXs (xApp r2 [[PV.str (xStr r3 (nNat n2) 1), PV.int .i64 (xInt r (nNat n2) 0), PV.int .i64 (xInt r (nNat n2) 1), PV.str (xStr r (nNat n2) 2)]]), 4, 74)] []))) Tr.fail) Tr.fail) Tr.fail) Tr.fail) Tr.fail) (Tr.ite (okPos (idxV (lockLL r2) (xStr r3 (nNat n2) 1)))
 (Tr.ite (okGet [PV.str [], PV.int .i64 0, PV.int .i64 0, PV.str []] r2 (nNat (idxV (lockLL r2) (xStr r3 (nNat n2) 1)))) (Tr.ite (okPos n2) (Tr.ite (okGet [PV.int .i64 0, PV.int .i64 0, PV.str []] r (nNat n2)) (Tr.ite (bNot (bAnd (iEq (xInt r2 (nNat (idxV (lockLL r2) (xStr r3 (nNat n2) 1))) 1) (xInt r (nNat n2) 0)) (bAnd (iEq (xInt r2 (nNat (idxV (lockLL r2) (xStr r3 (nNat n2) 1))) 2) (xInt r (nNat n2) 1)) (bAnd (sEq (xStr r2 (nNat (idxV (lockLL r2) (xStr r3 (nNat n2) 1))) 3) (xStr r (nNat n2) 2)) true)))) (Tr.ret (LR.out .ret [PV.sl (dropPLL 0 []) .full, PV.bool false] (Store.mk [] [] []))) (Tr.ret (LR.next [PV.sl (dropPLL 0 r) .non, PV.sl (dropPLL 0 r2) .full, PV.sl (dropPLL 0 r3) .non, PV.int .i64 n, PV.int .i64 (iAdd .i64 n2 1)] (Store.mk [] [] [])))) Tr.fail) Tr.fail) Tr.fail) Tr.fail)) Tr.fail) (Tr.ret (LR.next [PV.sl (dropPLL 0 r) .non, PV.sl (dropPLL 0 r2) .full, PV.sl (dropPLL 0 r3) .non, PV.int .i64 n, PV.int .i64 (iAdd .i64 n2 1)] (Store.mk [] [] []))))) Tr.fail) Tr.fail) (Tr.ret (LR.out (.exit 0) [PV.sl r2 .full] (Store.mk [] [] [])))
theorem Mt01_T (r : List (List PV)) (r2 : List (List PV)) (r3 : List (List PV)) (n : Int) (n2 : Int) : lstep tbT G_Mt0 LI_Mt01 c_Mt01 I_Mt01 [.sl r .non, .sl r2 .full, .sl r3 .non, .int .i64 n, .int .i64 n2] ⟨[], [], []⟩ = Mt01_Tr r r2 r3 n n2 := by kernel_rfl
theorem Mt01_E (r : List (List PV)) (r2 : List (List PV)) (r3 : List (List PV)) (n : Int) (n2 : Int) : Mt01_V [.sl r .non, .sl r2 .full, .sl r3 .non, .int .i64 n, .int .i64 n2] ⟨[], [], []⟩ = lnext Mt01_V (Mt01_Tr r r2 r3 n n2).run := by unfold Mt01_V; rw [lval_eq, Mt01_T]
noncomputable def Mt01_Tr1 (r : List (List PV)) (r2 : List (List PV)) (r3 : List (List PV)) (n : Int) (n2 : Int) (k : Nat) : Tr LR := Tr.ite (iLt n2 n) (Tr.ite (okPos n2) (Tr.ite (okGet [PV.int .i64 0, PV.str [], PV.int .i64 0, PV.int .i64 0, PV.str []] r3 (nNat n2)) (Tr.ite (iEq (xInt r3 (nNat n2) 0) 2) (Tr.ite (okPos n2) (Tr.ite (okGet [PV.int .i64 0, PV.int .i64 0, PV.str []] r (nNat n2)) (Tr.ite (bNot (bAnd (iEq (xInt r3 (nNat n2) 2) (xInt r (nNat n2) 0)) (bAnd (iEq (xInt r3 (nNat n2) 3) (xInt r (nNat n2) 1)) (bAnd (sEq (xStr r3 (nNat n2) 4) (xStr r (nNat n2) 2)) true)))) (Tr.ret (LR.out .ret [PV.sl (dropPLL 0 []) .full, PV.bool false] (Store.mk [] [(k, 4, 74)] []))) (Tr.ret (LR.next [PV.sl (dropPLL 0 r) .non, PV.sl (dropPLL 0 r2) (.tok 0), PV.sl (dropPLL 0 r3) .non, PV.int .i64 n, PV.int .i64 (iAdd .i64 n2 1)] (Store.mk [] [(k, 4, 74)] [])))) Tr.fail) Tr.fail) (Tr.ite (iEq (xInt r3 (nNat n2) 0) 1) (Tr.ite (okR cB (lockLL r2)) (Tr.ite (iLt (idxV (lockLL r2) (xStr r3 (nNat n2) 1)) 0) (Tr.ite (okPos n2) (Tr.ite (okGet [PV.int .i64 0, PV.int .i64 0, PV.str []] r (nNat n2)) (Tr.ite (okGrow r2 [[PV.str (xStr r3 (nNat n2) 1), PV.int .i64 (xInt r (nNat n2) 0), PV.int .i64 (xInt r (nNat n2) 1), PV.str (xStr r (nNat n2) 2)]] 48) (Tr.ite (okNews [[PV.str (xStr r3 (nNat n2) 1), PV.int .i64 (xInt r (nNat n2) 0), PV.int .i64 (xInt r (nNat n2) 1), PV.str (xStr r (nNat n2) 2)]] 4) (Tr.ite (okSize r2 4) (Tr.ite (nEq k (nXs r2)) (Tr.ret (LR.next [PV.sl (dropPLL 0 r) .non, PV.sl (dropPLL 0 (xApp r2 [[PV.str (xStr r3 (nNat n2) 1), PV.int .i64 (xInt r (nNat n2) 0), PV.int .i64 (xInt r (nNat n2) 1), PV.str (xStr r (nNat n2) 2)]])) (.tok 0), PV.sl (dropPLL 0 r3) .non, PV.int .i64 n, PV.int .i64 (iAdd .i64 n2 1)] (Store.mk [] [(nXs (xApp r2 [[PV.str (xStr r3 (nNat n2) 1), PV.int .i64 (xInt r (nNat n2) 0), PV.int .i64 (xInt r (nNat n2) 1), PV.str (xStr r (nNat n2) 2)]]), 4, 74)] []))) Tr.fail) Tr.fail) Tr.fail) Tr.fail) Tr.fail) Tr.fail)
 (Tr.ite (okPos (idxV (lockLL r2) (xStr r3 (nNat n2) 1))) (Tr.ite (okGet [PV.str [], PV.int .i64 0, PV.int .i64 0, PV.str []] r2 (nNat (idxV (lockLL r2) (xStr r3 (nNat n2) 1)))) (Tr.ite (okPos n2) (Tr.ite (okGet [PV.int .i64 0, PV.int .i64 0, PV.str []] r (nNat n2)) (Tr.ite (bNot (bAnd (iEq (xInt r2 (nNat (idxV (lockLL r2) (xStr r3 (nNat n2) 1))) 1) (xInt r (nNat n2) 0)) (bAnd (iEq (xInt r2 (nNat (idxV (lockLL r2) (xStr r3 (nNat n2) 1))) 2) (xInt r (nNat n2) 1)) (bAnd (sEq (xStr r2 (nNat (idxV (lockLL r2) (xStr r3 (nNat n2) 1))) 3) (xStr r (nNat n2) 2)) true)))) (Tr.ret (LR.out .ret [PV.sl (dropPLL 0 []) .full, PV.bool false] (Store.mk [] [(k, 4, 74)] []))) (Tr.ret (LR.next [PV.sl (dropPLL 0 r) .non, PV.sl (dropPLL 0 r2) (.tok 0), PV.sl (dropPLL 0 r3) .non, PV.int .i64 n, PV.int .i64 (iAdd .i64 n2 1)] (Store.mk [] [(k, 4, 74)] [])))) Tr.fail) Tr.fail) Tr.fail) Tr.fail)) Tr.fail) (Tr.ret (LR.next [PV.sl (dropPLL 0 r) .non, PV.sl (dropPLL 0 r2) (.tok 0), PV.sl (dropPLL 0 r3) .non, PV.int .i64 n, PV.int .i64 (iAdd .i64 n2 1)] (Store.mk [] [(k, 4, 74)] []))))) Tr.fail) Tr.fail) (Tr.ret (LR.out (.exit 0) [PV.sl r2 (.tok 0)] (Store.mk [] [(k, 4, 74)] [])))
theorem Mt01_T1 (r : List (List PV)) (r2 : List (List PV)) (r3 : List (List PV)) (n : Int) (n2 : Int) (k : Nat) : lstep tbT G_Mt0 LI_Mt01 c_Mt01 I_Mt01 [.sl r .non, .sl r2 (.tok 0), .sl r3 .non, .int .i64 n, .int .i64 n2] ⟨[], [(k, 4, 74)], []⟩ = Mt01_Tr1 r r2 r3 n n2 k := by kernel_rfl
theorem Mt01_E1 (r : List (List PV)) (r2 : List (List PV)) (r3 : List (List PV)) (n : Int) (n2 : Int) (k : Nat) : Mt01_V [.sl r .non, .sl r2 (.tok 0), .sl r3 .non, .int .i64 n, .int .i64 n2] ⟨[], [(k, 4, 74)], []⟩ = lnext Mt01_V (Mt01_Tr1 r r2 r3 n n2 k).run := by unfold Mt01_V; rw [lval_eq, Mt01_T1]
noncomputable def Mt01_W (r : List (List PV)) (r2 : List (List PV)) (r3 : List (List PV)) (n : Int) (n2 : Int) : Option (PExit × List PV × Store) := Mt01_V [.sl r .non, .sl r2 .full, .sl r3 .non, .int .i64 n, .int .i64 n2] ⟨[], [], []⟩
noncomputable def Mt01_r_0 (r : List (List PV)) (r2 : List (List PV)) (r3 : List (List PV)) (n : Int) (n2 : Int) : List (List PV) := (gRow (gOut (Mt01_W r r2 r3 n n2) 0))
noncomputable def Mt01_b_0 (r : List (List PV)) (r2 : List (List PV)) (r3 : List (List PV)) (n : Int) (n2 : Int) : Bool := (gBool (gOut (Mt01_W r r2 r3 n n2) 1))
noncomputable def Mt01_is0 (r : List (List PV)) (r2 : List (List PV)) (r3 : List (List PV)) (n : Int) (n2 : Int) : Bool := isW (Mt01_W r r2 r3 n n2) (.ret, [.sl (Mt01_r_0 r r2 r3 n n2) .full, .bool (Mt01_b_0 r r2 r3 n n2)], ⟨[], [], []⟩)
noncomputable def Mt01_r_1 (r : List (List PV)) (r2 : List (List PV)) (r3 : List (List PV)) (n : Int) (n2 : Int) : List (List PV) := (gRow (gOut (Mt01_W r r2 r3 n n2) 0))
noncomputable def Mt01_is1 (r : List (List PV)) (r2 : List (List PV)) (r3 : List (List PV)) (n : Int) (n2 : Int) : Bool := isW (Mt01_W r r2 r3 n n2) ((.exit 0), [.sl (Mt01_r_1 r r2 r3 n n2) .full], ⟨[], [], []⟩)
noncomputable def Mt01_r_2 (r : List (List PV)) (r2 : List (List PV)) (r3 : List (List PV)) (n : Int) (n2 : Int) : List (List PV) := (gRow (gOut (Mt01_W r r2 r3 n n2) 0))
noncomputable def Mt01_b_2 (r : List (List PV)) (r2 : List (List PV)) (r3 : List (List PV)) (n : Int) (n2 : Int) : Bool := (gBool (gOut (Mt01_W r r2 r3 n n2) 1))
noncomputable def Mt01_k_2 (r : List (List PV)) (r2 : List (List PV)) (r3 : List (List PV)) (n : Int) (n2 : Int) : Nat := (gTok (Mt01_W r r2 r3 n n2) 0)
noncomputable def Mt01_is2 (r : List (List PV)) (r2 : List (List PV)) (r3 : List (List PV)) (n : Int) (n2 : Int) : Bool := isW (Mt01_W r r2 r3 n n2) (.ret, [.sl (Mt01_r_2 r r2 r3 n n2) .full, .bool (Mt01_b_2 r r2 r3 n n2)], ⟨[], [((Mt01_k_2 r r2 r3 n n2), 4, 74)], []⟩)
noncomputable def Mt01_r_3 (r : List (List PV)) (r2 : List (List PV)) (r3 : List (List PV)) (n : Int) (n2 : Int) : List (List PV) := (gRow (gOut (Mt01_W r r2 r3 n n2) 0))
noncomputable def Mt01_k_3 (r : List (List PV)) (r2 : List (List PV)) (r3 : List (List PV)) (n : Int) (n2 : Int) : Nat := (gTok (Mt01_W r r2 r3 n n2) 0)
noncomputable def Mt01_is3 (r : List (List PV)) (r2 : List (List PV)) (r3 : List (List PV)) (n : Int) (n2 : Int) : Bool := isW (Mt01_W r r2 r3 n n2) ((.exit 0), [.sl (Mt01_r_3 r r2 r3 n n2) (.tok 0)], ⟨[], [((Mt01_k_3 r r2 r3 n n2), 4, 74)], []⟩)
noncomputable def Mt01_prop : List PV → Store → Tr (PExit × List PV × Store) | [.sl r .non, .sl r2 .full, .sl r3 .non, .int .i64 n, .int .i64 n2], ⟨[], [], []⟩ => .ite (Mt01_is0 r r2 r3 n n2) (.ret (.ret, [.sl (Mt01_r_0 r r2 r3 n n2) .full, .bool (Mt01_b_0 r r2 r3 n n2)], ⟨[], [], []⟩)) (.ite (Mt01_is1 r r2 r3 n n2) (.ret ((.exit 0), [.sl (Mt01_r_1 r r2 r3 n n2) .full], ⟨[], [], []⟩)) (.ite (Mt01_is2 r r2 r3 n n2) (.ret (.ret, [.sl (Mt01_r_2 r r2 r3 n n2) .full, .bool (Mt01_b_2 r r2 r3 n n2)], ⟨[], [((Mt01_k_2 r r2 r3 n n2), 4, 74)], []⟩)) (.ite (Mt01_is3 r r2 r3 n n2) (.ret ((.exit 0), [.sl (Mt01_r_3 r r2 r3 n n2) (.tok 0)], ⟨[], [((Mt01_k_3 r r2 r3 n n2), 4, 74)], []⟩)) (.fail)))) | _, _ => .fail
theorem Mt01_ok : ∀ vs σ r, (Mt01_prop vs σ).run = some r → Mt01_V vs σ = some r := by
  intro vs σ r h
  unfold Mt01_prop at h
  split at h
  · exact ite_isW h fun h => ite_isW h fun h => ite_isW h fun h => ite_isW h fun h => by cases h
  · cases h
theorem loop_Mt01 (gl : Nat → Option Obj) : ∀ fr σ e fr' σ', (orc I_Mt01 Mt01_prop fr σ).run = some (e, fr', σ') → LDoes Tryd.prog gl c_Mt01 fr σ e fr' σ' := orc_ok tbT_ok (gok_Mt0 gl ) noMixed (L := LI_Mt01) (loopOk_none (by kernel_rfl)) (by kernel_rfl) Mt01_ok
noncomputable def L_Mt0 : LpsT := fun r fr σ => bif Nat.beq r 5 then orc I_Mt01 Mt01_prop fr σ else .fail
noncomputable def Mt0_Tr (v : List (List PV)) (v2 : List (List PV)) : Tr PV := Tr.ite (okR cM (lockLL v)) (Tr.ite (iNe (chkP (lockLL v)) 0) (Tr.ret (PV.tup [PV.sl [] .non, PV.bool false])) (Tr.ite (iNe (xLen v) (xLen v2)) (Tr.ret (PV.tup [PV.sl [] .non, PV.bool false])) (Tr.ite (Mt01_is0 v2 [] v (xLen v) 0) (Tr.ret (PV.tup [PV.sl (shutLL (Mt01_r_0 v2 [] v (xLen v) 0)) .non, PV.bool (Mt01_b_0 v2 [] v (xLen v) 0)])) (Tr.ite (Mt01_is1 v2 [] v (xLen v) 0) (Tr.ret (PV.tup [PV.sl (shutLL (Mt01_r_1 v2 [] v (xLen v) 0)) .non, PV.bool true])) (Tr.ite (Mt01_is2 v2 [] v (xLen v) 0) (Tr.ret (PV.tup [PV.sl (shutLL (Mt01_r_2 v2 [] v (xLen v) 0)) .non, PV.bool (Mt01_b_2 v2 [] v (xLen v) 0)])) (Tr.ite (Mt01_is3 v2 [] v (xLen v) 0) (Tr.ret (PV.tup [PV.sl (shutLL (Mt01_r_3 v2 [] v (xLen v) 0)) .non, PV.bool true])) Tr.fail)))))) Tr.fail
theorem Mt0_T (v : List (List PV)) (v2 : List (List PV)) : (tcall tbT G_Mt0 L_Mt0 Tryd.f18 [.sl v .non, .sl v2 .non]).flat = Mt0_Tr v v2 := by kernel_rfl
noncomputable def Mt0_W (v : List (List PV)) (v2 : List (List PV)) : Option PV := (Mt0_Tr v v2).run
noncomputable def Mt0_r (v : List (List PV)) (v2 : List (List PV)) : List (List PV) := (gRow (gAt (gCs (gVal (Mt0_W v v2))) 0))
noncomputable def Mt0_b (v : List (List PV)) (v2 : List (List PV)) : Bool := (gBool (gAt (gCs (gVal (Mt0_W v v2))) 1))
noncomputable def Mt0_is0 (v : List (List PV)) (v2 : List (List PV)) : Bool := isW (Mt0_W v v2) (.tup [.sl (Mt0_r v v2) .non, .bool (Mt0_b v v2)])
noncomputable def F_Mt0 : List PV → Tr PV | [.sl v .non, .sl v2 .non] => .ite (Mt0_is0 v v2) (.ret (.tup [.sl (Mt0_r v v2) .non, .bool (Mt0_b v v2)])) (.fail) | _ => .fail
theorem sim_Mt0 (gl : Nat → Option Obj) : SimP Tryd.prog gl 18 fun args => (F_Mt0 args).run := by
  refine SimP.of_flat (G := G_Mt0) (L := L_Mt0) tbT_ok (gok_Mt0 gl ) noMixed Tryd.func18 rfl (by rfl) (by kernel_rfl) (loopOk_all (L := lps L_Mt0) [(5, c_Mt01)] (by kernel_rfl) (List.forall_mem_cons.2 ⟨fun fr σ e fr' σ' h => loop_Mt01 gl  fr σ e fr' σ' h, (List.forall_mem_nil _)⟩)) ?_
  intro args x h
  unfold F_Mt0 at h
  split at h
  · exact (congrArg Tr.run (Mt0_T _ _)).trans (ite_isW h fun h => by cases h)
  · cases h
end Go.Pv

set_option maxHeartbeats 4000000
set_option maxRecDepth 200000
set_option linter.unusedSimpArgs false
set_option linter.unusedVariables false
namespace Go.Pv
open Go Go.Proofs
def matchL : List Tm → List Vl → List Bd → Option (List Bd)
  | x :: p, v :: t, acc =>
    if x.1 = 2 then (if x.2.2 = v then matchL p t acc else none)
    else if x.1 = 1 then (match findB acc x.2.1 with
      | none => matchL p t (acc ++ [(x.2.1, v)])
      | some u => if u = v then matchL p t acc else none)
    else matchL p t acc
  | _, _, acc => some acc
def matchT (p : List Tm) (t : List Vl) : Option (List Bd) := if p.length ≤ 8 ∧ p.all isTm = true ∧ p.length = t.length then matchL p t [] else none
def okMT (p t : List (List PV)) : Bool := (matchT (unR cM p) (unR cV t)).isSome
def mTV (p t : List (List PV)) : List (List PV) := rOf cB ((matchT (unR cM p) (unR cV t)).getD [])
theorem idx_find : ∀ (l : List Bd) (nm : List UInt8) (i : Int), 0 ≤ i → (findB l nm = none ∧ idxA l nm i = -1) ∨ ∃ j b, l[j]? = some b ∧ findB l nm = some b.2 ∧ idxA l nm i = i + (j : Nat)
  | [], nm, i, h => .inl ⟨rfl, rfl⟩
  | b :: l, nm, i, h => by
    simp only [findB, idxA]
    by_cases e : b.1 = nm
    · rw [if_pos e, if_pos e]
      exact .inr ⟨0, b, rfl, rfl, by simp⟩
    · rw [if_neg e, if_neg e]
      rcases idx_find l nm (i + 1) (by omega) with h1 | ⟨j, b', h1, h2, h3⟩
      · exact .inl h1
      · exact .inr ⟨j + 1, b', by simpa using h1, h2, by rw [h3]; simp only [Int.natCast_add]; omega⟩
theorem fdO_of (l : List Bd) (nm : List UInt8) : fdO (rOf cB l) nm = (findB l nm).isSome := by simp only [fdO, unR_of]
theorem fdK_of (l : List Bd) (nm : List UInt8) {v : Vl} (h : findB l nm = some v) : fdK (rOf cB l) nm = v.1 := by simp only [fdK, unR_of, h]; rfl
theorem fdN_of (l : List Bd) (nm : List UInt8) {v : Vl} (h : findB l nm = some v) : fdN (rOf cB l) nm = v.2.1 := by simp only [fdN, unR_of, h]; rfl
theorem fdS_of (l : List Bd) (nm : List UInt8) {v : Vl} (h : findB l nm = some v) : fdS (rOf cB l) nm = v.2.2 := by simp only [fdS, unR_of, h]; rfl
theorem chkP_of' (p : List Tm) : chkP (rOf cM p) = if p.length ≤ 8 ∧ p.all isTm = true then 0 else 22 := by simp only [chkP, unR_of]
theorem idxV_of (l : List Bd) (nm : List UInt8) : idxV (rOf cB l) nm = idxA l nm 0 := by simp only [idxV, unR_of]
theorem vl_ne {k n : Int} {s : List UInt8} {k' n' : Int} {s' : List UInt8} (h : ¬ (k, n, s) = (k', n', s')) : ¬ k = k' ∨ ¬ n = n' ∨ ¬ s = s' := by
  by_cases h1 : k = k'
  · by_cases h2 : n = n'
    · exact .inr (.inr fun h3 => h (by rw [h1, h2, h3]))
    · exact .inr (.inl h2)
  · exact .inl h1
/-- What the loop of a match comes to: bindings, or no. -/
def MOut (r : Option (PExit × List PV × Store)) (m : Option (List Bd)) : Prop := match m with
  | some l => r = some (.exit 0, [.sl (rOf cB l) (aT l)], aS 4 74 l)
  | none => ∃ l : List Bd, r = some (.ret, [.sl [] .full, .bool false], aS 4 74 l)
theorem find_name : ∀ (l : List Bd) (nm : List UInt8) (i : Int) (j : Nat) (hj : j < l.length), 0 ≤ i → idxA l nm i = i + (j : Nat) → l[j].1 = nm
  | b :: l, nm, i, 0, _, hi, h => by
    simp only [idxA] at h
    split at h
    · assumption
    · rcases idxA_rng l nm (i + 1) (by omega) with h1 | h1 <;> omega
  | b :: l, nm, i, j + 1, hj, hi, h => by
    simp only [idxA] at h
    split at h
    · omega
    · exact find_name l nm (i + 1) j (by simpa using hj) (by omega) (by omega)
@[simp] theorem fdO_nil (nm : List UInt8) : fdO [] nm = false := fdO_of [] nm
@[simp] theorem idxV_nil (nm : List UInt8) : idxV [] nm = -1 := idxV_of [] nm
theorem RM_loop (p : List Tm) (t : List Vl) (h8 : p.length ≤ 8) (hlen : p.length = t.length) : ∀ (k i : Nat) (acc : List Bd), i + k = p.length → acc.length ≤ i →
    MOut (RM01_V [.sl (rOf cM p) .non, .sl (rOf cV t) .non, .sl (rOf cB acc) (aT acc), .int .i64 (i : Nat)] (aS 4 74 acc)) (matchL (p.drop i) (t.drop i) acc)
  | 0, i, acc, hi, ha => by
    have hn : ¬ (i : Int) < p.length := by omega
    rw [show p.drop i = [] from List.drop_eq_nil_of_le (by omega)]
    simp only [matchL, MOut]
    rcases aTS_cases 4 74 acc with ⟨rfl, c1, c2⟩ | ⟨hne, c1, c2⟩
    · rw [c1, c2]; simp only [rOf_nil]; rw [RM01_E]; simp [RM01_Tr, hn]
    · rw [c1, c2, RM01_E1]; simp [RM01_Tr1, hn]
  | k + 1, i, acc, hi, ha => by
    have h1 : i < p.length := by omega
    have h2 : i < t.length := by omega
    have w := inc_i64 (i := i) (by omega)
    have g1 : (acc.length + 1) * 48 ≤ 140737488355328 := by omega
    have g2 : acc.length ≤ 140737488355327 := by omega
    have same := RM_loop p t h8 hlen k (i + 1) acc (by omega) (by omega)
    rw [List.drop_eq_getElem_cons h1, List.drop_eq_getElem_cons h2]
    have more := RM_loop p t h8 hlen k (i + 1) (acc ++ [(p[i].2.1, t[i])]) (by omega) (by simp; omega)
    rw [aT_snoc, aS_snoc] at more
    simp only [matchL]
    generalize hx : p[i] = x at *
    generalize hv : t[i] = v at *
    obtain ⟨a1, nm, k1, n1, s1⟩ := x
    obtain ⟨k2, n2, s2⟩ := v
    simp only at more ⊢
    by_cases e2 : a1 = 2
    · subst e2
      by_cases ev : (k1, n1, s1) = (k2, n2, s2)
      · rw [if_pos rfl, if_pos ev]
        obtain ⟨rfl, rfl, rfl⟩ : k1 = k2 ∧ n1 = n2 ∧ s1 = s2 := by simpa using ev
        refine Eq.mp (congrArg (fun z => MOut z _) (Eq.symm ?_)) same
        rcases aTS_cases 4 74 acc with ⟨rfl, c1, c2⟩ | ⟨hne, c1, c2⟩
        · rw [c1, c2]; simp only [rOf_nil]; rw [RM01_E (n := (i : Int))]; simp [RM01_Tr, h1, h2, hx, hv, w]
        · rw [c1, c2, RM01_E1 (n := (i : Int))]; simp [RM01_Tr1, h1, h2, hx, hv, w]
      · rw [if_pos rfl, if_neg ev]
        have ev' := vl_ne ev
        refine ⟨acc, ?_⟩
        rcases aTS_cases 4 74 acc with ⟨rfl, c1, c2⟩ | ⟨hne, c1, c2⟩
        · rw [c1, c2]; simp only [rOf_nil]; rw [RM01_E (n := (i : Int))]; simp [RM01_Tr, h1, h2, hx, hv, ev']
        · rw [c1, c2, RM01_E1 (n := (i : Int))]; simp [RM01_Tr1, h1, h2, hx, hv, ev']
    · rw [if_neg e2]
      by_cases e1 : a1 = 1
      · subst e1
        rw [if_pos rfl]
        cases hf : findB acc nm with
        | none =>
          have hi := idx_find acc nm 0 (by omega)
          rw [hf] at hi
          have hidx : idxA acc nm 0 = -1 := by
            rcases hi with ⟨_, h⟩ | ⟨j, b, _, h, _⟩
            · exact h
            · cases h
          refine Eq.mp (congrArg (fun z => MOut z _) (Eq.symm ?_)) more
          rcases aTS_cases 4 74 acc with ⟨rfl, c1, c2⟩ | ⟨hne, c1, c2⟩
          · rw [c1, c2]; simp only [rOf_nil]; rw [RM01_E (n := (i : Int))]; simp [RM01_Tr, h1, h2, hx, hv, w, hf, hidx, one, aT_snoc, aS_snoc, g1, g2, idxV_of, fdO_of]
          · rw [c1, c2, RM01_E1 (n := (i : Int))]; simp [RM01_Tr1, h1, h2, hx, hv, w, hf, hidx, one, aT_snoc, aS_snoc, g1, g2, idxV_of, fdO_of]
        | some u =>
          have hne : acc ≠ [] := by rintro rfl; simp [findB] at hf
          obtain ⟨k3, n3, s3⟩ := u
          have f1 := fdK_of acc nm hf
          have f2 := fdN_of acc nm hf
          have f3 := fdS_of acc nm hf
          simp only at f1 f2 f3
          obtain ⟨j, hj, hjb, hidx⟩ : ∃ j : Nat, ∃ hj : j < acc.length, acc[j] = (nm, k3, n3, s3) ∧ idxA acc nm 0 = (j : Nat) := by
            rcases idx_find acc nm 0 (by omega) with ⟨h, _⟩ | ⟨j, b, h1, h2, h3⟩
            · rw [hf] at h; cases h
            · obtain ⟨hj, rfl⟩ := List.getElem?_eq_some_iff.1 h1
              rw [hf] at h2
              have hn : acc[j].1 = nm := find_name acc nm 0 j hj (by omega) h3
              exact ⟨j, hj, Prod.ext hn (Option.some.inj h2).symm, by rw [h3]; omega⟩
          have hidx' : ¬ (j : Int) < 0 := by omega
          by_cases ev : (k3, n3, s3) = (k2, n2, s2)
          · simp only [if_pos ev]
            obtain ⟨rfl, rfl, rfl⟩ : k3 = k2 ∧ n3 = n2 ∧ s3 = s2 := by simpa using ev
            refine Eq.mp (congrArg (fun z => MOut z _) (Eq.symm ?_)) same
            rcases aTS_cases 4 74 acc with ⟨h0, c1, c2⟩ | ⟨_, c1, c2⟩
            · exact absurd h0 hne
            · rw [c1, c2, RM01_E1 (n := (i : Int))]; simp [RM01_Tr1, h1, h2, hx, hv, w, hf, hidx, hidx', hj, hjb, idxV_of, fdO_of, f1, f2, f3]
          · simp only [if_neg ev]
            have ev' := vl_ne ev
            refine ⟨acc, ?_⟩
            rcases aTS_cases 4 74 acc with ⟨h0, c1, c2⟩ | ⟨_, c1, c2⟩
            · exact absurd h0 hne
            · rw [c1, c2, RM01_E1 (n := (i : Int))]; simp [RM01_Tr1, h1, h2, hx, hv, ev', hf, hidx, hidx', hj, hjb, idxV_of, fdO_of, f1, f2, f3]
      · rw [if_neg e1]
        refine Eq.mp (congrArg (fun z => MOut z _) (Eq.symm ?_)) same
        rcases aTS_cases 4 74 acc with ⟨rfl, c1, c2⟩ | ⟨hne, c1, c2⟩
        · rw [c1, c2]; simp only [rOf_nil]; rw [RM01_E (n := (i : Int))]; simp [RM01_Tr, h1, h2, hx, hv, w, e1, e2, fdO_of, idxV_of]
        · rw [c1, c2, RM01_E1 (n := (i : Int))]; simp [RM01_Tr1, h1, h2, hx, hv, w, e1, e2, fdO_of, idxV_of]
theorem Mt_loop (p : List Tm) (t : List Vl) (h8 : p.length ≤ 8) (hlen : p.length = t.length) : ∀ (k i : Nat) (acc : List Bd), i + k = p.length → acc.length ≤ i →
    MOut (Mt01_V [.sl (rOf cV t) .non, .sl (rOf cB acc) (aT acc), .sl (rOf cM p) .non, .int .i64 (p.length : Nat), .int .i64 (i : Nat)] (aS 4 74 acc)) (matchL (p.drop i) (t.drop i) acc)
  | 0, i, acc, hi, ha => by
    have hn : ¬ (i : Int) < p.length := by omega
    rw [show p.drop i = [] from List.drop_eq_nil_of_le (by omega)]
    simp only [matchL, MOut]
    rcases aTS_cases 4 74 acc with ⟨rfl, c1, c2⟩ | ⟨hne, c1, c2⟩
    · rw [c1, c2]; simp only [rOf_nil]; rw [Mt01_E]; simp [Mt01_Tr, hn]
    · rw [c1, c2, Mt01_E1]; simp [Mt01_Tr1, hn]
  | k + 1, i, acc, hi, ha => by
    have h1 : i < p.length := by omega
    have h2 : i < t.length := by omega
    have w := inc_i64 (i := i) (by omega)
    have g1 : (acc.length + 1) * 48 ≤ 140737488355328 := by omega
    have g2 : acc.length ≤ 140737488355327 := by omega
    have same := Mt_loop p t h8 hlen k (i + 1) acc (by omega) (by omega)
    rw [List.drop_eq_getElem_cons h1, List.drop_eq_getElem_cons h2]
    have more := Mt_loop p t h8 hlen k (i + 1) (acc ++ [(p[i].2.1, t[i])]) (by omega) (by simp; omega)
    rw [aT_snoc, aS_snoc] at more
    simp only [matchL]
    generalize hx : p[i] = x at *
    generalize hv : t[i] = v at *
    obtain ⟨a1, nm, k1, n1, s1⟩ := x
    obtain ⟨k2, n2, s2⟩ := v
    simp only at more ⊢
    by_cases e2 : a1 = 2
    · subst e2
      by_cases ev : (k1, n1, s1) = (k2, n2, s2)
      · rw [if_pos rfl, if_pos ev]
        obtain ⟨rfl, rfl, rfl⟩ : k1 = k2 ∧ n1 = n2 ∧ s1 = s2 := by simpa using ev
        refine Eq.mp (congrArg (fun z => MOut z _) (Eq.symm ?_)) same
        rcases aTS_cases 4 74 acc with ⟨rfl, c1, c2⟩ | ⟨hne, c1, c2⟩
        · rw [c1, c2]; simp only [rOf_nil]; rw [Mt01_E (n2 := (i : Int))]; simp [Mt01_Tr, h1, h2, hx, hv, w]
        · rw [c1, c2, Mt01_E1 (n2 := (i : Int))]; simp [Mt01_Tr1, h1, h2, hx, hv, w]
      · rw [if_pos rfl, if_neg ev]
        have ev' := vl_ne ev
        refine ⟨acc, ?_⟩
        rcases aTS_cases 4 74 acc with ⟨rfl, c1, c2⟩ | ⟨hne, c1, c2⟩
        · rw [c1, c2]; simp only [rOf_nil]; rw [Mt01_E (n2 := (i : Int))]; simp [Mt01_Tr, h1, h2, hx, hv, ev']
        · rw [c1, c2, Mt01_E1 (n2 := (i : Int))]; simp [Mt01_Tr1, h1, h2, hx, hv, ev']
    · rw [if_neg e2]
      by_cases e1 : a1 = 1
      · subst e1
        rw [if_pos rfl]
        cases hf : findB acc nm with
        | none =>
          have hi := idx_find acc nm 0 (by omega)
          rw [hf] at hi
          have hidx : idxA acc nm 0 = -1 := by
            rcases hi with ⟨_, h⟩ | ⟨j, b, _, h, _⟩
            · exact h
            · cases h
          refine Eq.mp (congrArg (fun z => MOut z _) (Eq.symm ?_)) more
          rcases aTS_cases 4 74 acc with ⟨rfl, c1, c2⟩ | ⟨hne, c1, c2⟩
          · rw [c1, c2]; simp only [rOf_nil]; rw [Mt01_E (n2 := (i : Int))]; simp [Mt01_Tr, h1, h2, hx, hv, w, hf, hidx, one, aT_snoc, aS_snoc, g1, g2, idxV_of, fdO_of]
          · rw [c1, c2, Mt01_E1 (n2 := (i : Int))]; simp [Mt01_Tr1, h1, h2, hx, hv, w, hf, hidx, one, aT_snoc, aS_snoc, g1, g2, idxV_of, fdO_of]
        | some u =>
          have hne : acc ≠ [] := by rintro rfl; simp [findB] at hf
          obtain ⟨k3, n3, s3⟩ := u
          have f1 := fdK_of acc nm hf
          have f2 := fdN_of acc nm hf
          have f3 := fdS_of acc nm hf
          simp only at f1 f2 f3
          obtain ⟨j, hj, hjb, hidx⟩ : ∃ j : Nat, ∃ hj : j < acc.length, acc[j] = (nm, k3, n3, s3) ∧ idxA acc nm 0 = (j : Nat) := by
            rcases idx_find acc nm 0 (by omega) with ⟨h, _⟩ | ⟨j, b, h1, h2, h3⟩
            · rw [hf] at h; cases h
            · obtain ⟨hj, rfl⟩ := List.getElem?_eq_some_iff.1 h1
              rw [hf] at h2
              have hn : acc[j].1 = nm := find_name acc nm 0 j hj (by omega) h3
              exact ⟨j, hj, Prod.ext hn (Option.some.inj h2).symm, by rw [h3]; omega⟩
          have hidx' : ¬ (j : Int) < 0 := by omega
          by_cases ev : (k3, n3, s3) = (k2, n2, s2)
          · simp only [if_pos ev]
            obtain ⟨rfl, rfl, rfl⟩ : k3 = k2 ∧ n3 = n2 ∧ s3 = s2 := by simpa using ev
            refine Eq.mp (congrArg (fun z => MOut z _) (Eq.symm ?_)) same
            rcases aTS_cases 4 74 acc with ⟨h0, c1, c2⟩ | ⟨_, c1, c2⟩
            · exact absurd h0 hne
            · rw [c1, c2, Mt01_E1 (n2 := (i : Int))]; simp [Mt01_Tr1, h1, h2, hx, hv, w, hf, hidx, hidx', hj, hjb, idxV_of, fdO_of, f1, f2, f3]
          · simp only [if_neg ev]
            have ev' := vl_ne ev
            refine ⟨acc, ?_⟩
            rcases aTS_cases 4 74 acc with ⟨h0, c1, c2⟩ | ⟨_, c1, c2⟩
            · exact absurd h0 hne
            · rw [c1, c2, Mt01_E1 (n2 := (i : Int))]; simp [Mt01_Tr1, h1, h2, hx, hv, ev', hf, hidx, hidx', hj, hjb, idxV_of, fdO_of, f1, f2, f3]
      · rw [if_neg e1]
        refine Eq.mp (congrArg (fun z => MOut z _) (Eq.symm ?_)) same
        rcases aTS_cases 4 74 acc with ⟨rfl, c1, c2⟩ | ⟨hne, c1, c2⟩
        · rw [c1, c2]; simp only [rOf_nil]; rw [Mt01_E (n2 := (i : Int))]; simp [Mt01_Tr, h1, h2, hx, hv, w, e1, e2, fdO_of, idxV_of]
        · rw [c1, c2, Mt01_E1 (n2 := (i : Int))]; simp [Mt01_Tr1, h1, h2, hx, hv, w, e1, e2, fdO_of, idxV_of]
theorem RM_law (p : List Tm) (t : List Vl) : RM0_W (rOf cM p) (rOf cV t) = some (match matchT p t with | some l => .tup [.sl (rOf cB l) .non, .bool true] | none => .tup [.sl [] .non, .bool false]) := by
  unfold RM0_W RM0_Tr matchT
  simp only [lockLL_rOf, chkP_of']
  by_cases h8 : p.length ≤ 8 ∧ p.all isTm = true
  · by_cases hl : p.length = t.length
    · have h := RM_loop p t h8.1 hl p.length 0 [] (by omega) (by simp)
      have hl' : ¬ (p.length : Int) ≠ t.length := by omega
      rw [if_pos h8, if_pos ⟨h8.1, h8.2, hl⟩]
      simp only [List.drop_zero] at h
      cases hm : matchL p t [] with
      | some l =>
        rw [hm] at h
        simp only [MOut] at h
        rcases aTS_cases 4 74 l with ⟨rfl, c1, c2⟩ | ⟨hne, c1, c2⟩
        · rw [c1, c2] at h; simp at h; simp [RM01_is0, RM01_is1, RM01_is2, RM01_is3, RM01_r_0, RM01_b_0, RM01_r_1, RM01_r_2, RM01_b_2, RM01_k_2, RM01_r_3, RM01_k_3, RM01_W, h, hl.symm]
        · rw [c1, c2] at h; simp at h; simp [RM01_is0, RM01_is1, RM01_is2, RM01_is3, RM01_r_0, RM01_b_0, RM01_r_1, RM01_r_2, RM01_b_2, RM01_k_2, RM01_r_3, RM01_k_3, RM01_W, h, hl.symm]
      | none =>
        rw [hm] at h
        obtain ⟨l, h⟩ := h
        rcases aTS_cases 4 74 l with ⟨rfl, c1, c2⟩ | ⟨hne, c1, c2⟩
        · rw [c2] at h; simp at h; simp [RM01_is0, RM01_is1, RM01_is2, RM01_is3, RM01_r_0, RM01_b_0, RM01_r_1, RM01_r_2, RM01_b_2, RM01_k_2, RM01_r_3, RM01_k_3, RM01_W, h, hl.symm]
        · rw [c2] at h; simp at h; simp [RM01_is0, RM01_is1, RM01_is2, RM01_is3, RM01_r_0, RM01_b_0, RM01_r_1, RM01_r_2, RM01_b_2, RM01_k_2, RM01_r_3, RM01_k_3, RM01_W, h, hl.symm]
    · have hl' : (p.length : Int) ≠ t.length := by omega
      rw [if_pos h8, if_neg (fun h => hl h.2.2)]
      simp [hl', hl]
  · rw [if_neg h8, if_neg (fun h => h8 ⟨h.1, h.2.1⟩)]
    simp
def F_RM : List PV → Tr PV
  | [.sl p .non, .sl t .non] => Tr.chk (okR cM p) (Tr.chk (okR cV t) (.ite (okMT p t) (.ret (.tup [.sl (mTV p t) .non, .bool true])) (.ret (.tup [.sl [] .non, .bool false]))))
  | _ => .fail
theorem sim_RM (gl : Nat → Option Obj) : SimP Tryd.prog gl 27 fun args => (F_RM args).run := by
  refine SimP.given (sim_RM0 gl) ?_
  intro args x hg h
  unfold F_RM at h
  split at h
  · rename_i p t
    obtain ⟨h0, q0⟩ := Tr.chk_some h
    obtain ⟨h1, q1⟩ := Tr.chk_some q0
    have q := q1
    obtain ⟨p, rfl⟩ := okR_eq _ h0
    obtain ⟨t, rfl⟩ := okR_eq _ h1
    have hw := RM_law p t
    have hO : okMT (rOf cM p) (rOf cV t) = (matchT p t).isSome := by simp only [okMT, unR_of]
    have hV : mTV (rOf cM p) (rOf cV t) = rOf cB ((matchT p t).getD []) := by simp only [mTV, unR_of]
    rw [hO, hV] at q
    cases hm : matchT p t with
    | some l => rw [hm] at hw q; simp at q; subst q; simp at hw; simp [F_RM0, RM0_is0, RM0_r, RM0_b, hw]
    | none => rw [hm] at hw q; simp at q; subst q; simp at hw; simp [F_RM0, RM0_is0, RM0_r, RM0_b, hw]
  · cases h
theorem Mt_law (p : List Tm) (t : List Vl) : Mt0_W (rOf cM p) (rOf cV t) = some (match matchT p t with | some l => .tup [.sl (rOf cB l) .non, .bool true] | none => .tup [.sl [] .non, .bool false]) := by
  unfold Mt0_W Mt0_Tr matchT
  simp only [lockLL_rOf, chkP_of']
  by_cases h8 : p.length ≤ 8 ∧ p.all isTm = true
  · by_cases hl : p.length = t.length
    · have h := Mt_loop p t h8.1 hl p.length 0 [] (by omega) (by simp)
      have hl' : ¬ (p.length : Int) ≠ t.length := by omega
      rw [if_pos h8, if_pos ⟨h8.1, h8.2, hl⟩]
      simp only [List.drop_zero] at h
      cases hm : matchL p t [] with
      | some l =>
        rw [hm] at h
        simp only [MOut] at h
        rcases aTS_cases 4 74 l with ⟨rfl, c1, c2⟩ | ⟨hne, c1, c2⟩
        · rw [c1, c2] at h; simp at h; simp [Mt01_is0, Mt01_is1, Mt01_is2, Mt01_is3, Mt01_r_0, Mt01_b_0, Mt01_r_1, Mt01_r_2, Mt01_b_2, Mt01_k_2, Mt01_r_3, Mt01_k_3, Mt01_W, h, hl.symm]
        · rw [c1, c2] at h; simp at h; simp [Mt01_is0, Mt01_is1, Mt01_is2, Mt01_is3, Mt01_r_0, Mt01_b_0, Mt01_r_1, Mt01_r_2, Mt01_b_2, Mt01_k_2, Mt01_r_3, Mt01_k_3, Mt01_W, h, hl.symm]
      | none =>
        rw [hm] at h
        obtain ⟨l, h⟩ := h
        rcases aTS_cases 4 74 l with ⟨rfl, c1, c2⟩ | ⟨hne, c1, c2⟩
        · rw [c2] at h; simp at h; simp [Mt01_is0, Mt01_is1, Mt01_is2, Mt01_is3, Mt01_r_0, Mt01_b_0, Mt01_r_1, Mt01_r_2, Mt01_b_2, Mt01_k_2, Mt01_r_3, Mt01_k_3, Mt01_W, h, hl.symm]
        · rw [c2] at h; simp at h; simp [Mt01_is0, Mt01_is1, Mt01_is2, Mt01_is3, Mt01_r_0, Mt01_b_0, Mt01_r_1, Mt01_r_2, Mt01_b_2, Mt01_k_2, Mt01_r_3, Mt01_k_3, Mt01_W, h, hl.symm]
    · have hl' : (p.length : Int) ≠ t.length := by omega
      rw [if_pos h8, if_neg (fun h => hl h.2.2)]
      simp [hl', hl]
  · rw [if_neg h8, if_neg (fun h => h8 ⟨h.1, h.2.1⟩)]
    simp
def F_Mt : List PV → Tr PV
  | [.sl p .non, .sl t .non] => Tr.chk (okR cM p) (Tr.chk (okR cV t) (.ite (okMT p t) (.ret (.tup [.sl (mTV p t) .non, .bool true])) (.ret (.tup [.sl [] .non, .bool false]))))
  | _ => .fail
theorem sim_Mt (gl : Nat → Option Obj) : SimP Tryd.prog gl 18 fun args => (F_Mt args).run := by
  refine SimP.given (sim_Mt0 gl) ?_
  intro args x hg h
  unfold F_Mt at h
  split at h
  · rename_i p t
    obtain ⟨h0, q0⟩ := Tr.chk_some h
    obtain ⟨h1, q1⟩ := Tr.chk_some q0
    have q := q1
    obtain ⟨p, rfl⟩ := okR_eq _ h0
    obtain ⟨t, rfl⟩ := okR_eq _ h1
    have hw := Mt_law p t
    have hO : okMT (rOf cM p) (rOf cV t) = (matchT p t).isSome := by simp only [okMT, unR_of]
    have hV : mTV (rOf cM p) (rOf cV t) = rOf cB ((matchT p t).getD []) := by simp only [mTV, unR_of]
    rw [hO, hV] at q
    cases hm : matchT p t with
    | some l => rw [hm] at hw q; simp at q; subst q; simp at hw; simp [F_Mt0, Mt0_is0, Mt0_r, Mt0_b, hw]
    | none => rw [hm] at hw q; simp at q; subst q; simp at hw; simp [F_Mt0, Mt0_is0, Mt0_r, Mt0_b, hw]
  · cases h
end Go.Pv

set_option maxHeartbeats 4000000
set_option maxRecDepth 200000
set_option linter.unusedSimpArgs false
set_option linter.unusedVariables false
namespace Go.Pv
open Go Go.Proofs
noncomputable def G_few : GamT := ofL []
theorem gok_few (gl : Nat → Option Obj) : GamOk Tryd.prog gl (gam G_few) := gamOk_nil
noncomputable def c_few1 : Code := loopC Tryd.f24 3
def I_few1 : LI := ⟨30, [0, 3, 4], fun e => match e with | .exit 0 => [3] | _ => [], true⟩
noncomputable def LI_few1 : LpsT := fun r fr σ => .fail
noncomputable def few1_V (vs : List PV) (σ : Store) : Option (PExit × List PV × Store) := lval (lstep tbT G_few LI_few1 c_few1 I_few1) vs σ
noncomputable def few1_Tr (l : List (List PV)) (out : List (List PV)) (i : Int) : Tr LR := Tr.ite (iLt i (xLen l)) (Tr.ite (iLt (xLen out) 60) (Tr.ite (okPos i) (Tr.ite (okGet [PV.sl [] .full] l (nNat i)) (Tr.ite (iLe (xLen (xRow l (nNat i) 0)) 20) (Tr.ite (okPos i) (Tr.ite (okGet [PV.sl [] .full] l (nNat i)) (Tr.ite (okGrow out [[PV.sl (xRow l (nNat i) 0) .non]] 24) (Tr.ite (okNews [[PV.sl (xRow l (nNat i) 0) .non]] 1) (Tr.ite (okSize out 1) (Tr.ret (LR.next [PV.sl l .non, PV.sl (xApp out [[PV.sl (xRow l (nNat i) 0) .non]]) (.tok 0), PV.int .i64 (iAdd .i64 i 1)] (Store.mk [] [(nXs (xApp out [[PV.sl (xRow l (nNat i) 0) .non]]), 1, 23)] []))) Tr.fail) Tr.fail) Tr.fail) Tr.fail) Tr.fail) (Tr.ret (LR.next [PV.sl l .non, PV.sl out .full, PV.int .i64 (iAdd .i64 i 1)] (Store.mk [] [] [])))) Tr.fail) Tr.fail) (Tr.ret (LR.out (.exit 0) [PV.sl out .full] (Store.mk [] [] [])))) (Tr.ret (LR.out (.exit 0) [PV.sl out .full] (Store.mk [] [] [])))
theorem few1_T (l : List (List PV)) (out : List (List PV)) (i : Int) : lstep tbT G_few LI_few1 c_few1 I_few1 [.sl l .non, .sl out .full, .int .i64 i] ⟨[], [], []⟩ = few1_Tr l out i := by kernel_rfl
theorem few1_E (l : List (List PV)) (out : List (List PV)) (i : Int) : few1_V [.sl l .non, .sl out .full, .int .i64 i] ⟨[], [], []⟩ = lnext few1_V (few1_Tr l out i).run := by unfold few1_V; rw [lval_eq, few1_T]
noncomputable def few1_Tr1 (l : List (List PV)) (out : List (List PV)) (i : Int) (k : Nat) : Tr LR := Tr.ite (iLt i (xLen l)) (Tr.ite (iLt (xLen out) 60) (Tr.ite (okPos i) (Tr.ite (okGet [PV.sl [] .full] l (nNat i)) (Tr.ite (iLe (xLen (xRow l (nNat i) 0)) 20) (Tr.ite (okPos i) (Tr.ite (okGet [PV.sl [] .full] l (nNat i)) (Tr.ite (okGrow out [[PV.sl (xRow l (nNat i) 0) .non]] 24) (Tr.ite (okNews [[PV.sl (xRow l (nNat i) 0) .non]] 1) (Tr.ite (okSize out 1) (Tr.ite (nEq k (nXs out)) (Tr.ret (LR.next [PV.sl l .non, PV.sl (xApp out [[PV.sl (xRow l (nNat i) 0) .non]]) (.tok 0), PV.int .i64 (iAdd .i64 i 1)] (Store.mk [] [(nXs (xApp out [[PV.sl (xRow l (nNat i) 0) .non]]), 1, 23)] []))) Tr.fail) Tr.fail) Tr.fail) Tr.fail) Tr.fail) Tr.fail) (Tr.ret (LR.next [PV.sl l .non, PV.sl out (.tok 0), PV.int .i64 (iAdd .i64 i 1)] (Store.mk [] [(k, 1, 23)] [])))) Tr.fail) Tr.fail) (Tr.ret (LR.out (.exit 0) [PV.sl out (.tok 0)] (Store.mk [] [(k, 1, 23)] [])))) (Tr.ret (LR.out (.exit 0) [PV.sl out (.tok 0)] (Store.mk [] [(k, 1, 23)] [])))
theorem few1_T1 (l : List (List PV)) (out : List (List PV)) (i : Int) (k : Nat) : lstep tbT G_few LI_few1 c_few1 I_few1 [.sl l .non, .sl out (.tok 0), .int .i64 i] ⟨[], [(k, 1, 23)], []⟩ = few1_Tr1 l out i k := by kernel_rfl
theorem few1_E1 (l : List (List PV)) (out : List (List PV)) (i : Int) (k : Nat) : few1_V [.sl l .non, .sl out (.tok 0), .int .i64 i] ⟨[], [(k, 1, 23)], []⟩ = lnext few1_V (few1_Tr1 l out i k).run := by unfold few1_V; rw [lval_eq, few1_T1]
noncomputable def few1_W (l : List (List PV)) (out : List (List PV)) (i : Int) : Option (PExit × List PV × Store) := few1_V [.sl l .non, .sl out .full, .int .i64 i] ⟨[], [], []⟩
noncomputable def few1_out_0 (l : List (List PV)) (out : List (List PV)) (i : Int) : List (List PV) := (gRow (gOut (few1_W l out i) 0))
noncomputable def few1_is0 (l : List (List PV)) (out : List (List PV)) (i : Int) : Bool := isW (few1_W l out i) ((.exit 0), [.sl (few1_out_0 l out i) .full], ⟨[], [], []⟩)
noncomputable def few1_out_1 (l : List (List PV)) (out : List (List PV)) (i : Int) : List (List PV) := (gRow (gOut (few1_W l out i) 0))
noncomputable def few1_k_1 (l : List (List PV)) (out : List (List PV)) (i : Int) : Nat := (gTok (few1_W l out i) 0)
noncomputable def few1_is1 (l : List (List PV)) (out : List (List PV)) (i : Int) : Bool := isW (few1_W l out i) ((.exit 0), [.sl (few1_out_1 l out i) (.tok 0)], ⟨[], [((few1_k_1 l out i), 1, 23)], []⟩)
noncomputable def few1_prop : List PV → Store → Tr (PExit × List PV × Store) | [.sl l .non, .sl out .full, .int .i64 i], ⟨[], [], []⟩ => .ite (few1_is0 l out i) (.ret ((.exit 0), [.sl (few1_out_0 l out i) .full], ⟨[], [], []⟩)) (.ite (few1_is1 l out i) (.ret ((.exit 0), [.sl (few1_out_1 l out i) (.tok 0)], ⟨[], [((few1_k_1 l out i), 1, 23)], []⟩)) (.fail)) | _, _ => .fail
theorem few1_ok : ∀ vs σ r, (few1_prop vs σ).run = some r → few1_V vs σ = some r := by
  intro vs σ r h
  unfold few1_prop at h
  split at h
  · exact ite_isW h fun h => ite_isW h fun h => by cases h
  · cases h
theorem loop_few1 (gl : Nat → Option Obj) : ∀ fr σ e fr' σ', (orc I_few1 few1_prop fr σ).run = some (e, fr', σ') → LDoes Tryd.prog gl c_few1 fr σ e fr' σ' := orc_ok tbT_ok (gok_few gl ) noMixed (L := LI_few1) (loopOk_none (by kernel_rfl)) (by kernel_rfl) few1_ok
noncomputable def L_few : LpsT := fun r fr σ => bif Nat.beq r 3 then orc I_few1 few1_prop fr σ else .fail
noncomputable def few_Tr (l : List (List PV)) : Tr PV := Tr.ite (few1_is0 l [] 0) (Tr.ret (PV.sl (shutLL (few1_out_0 l [] 0)) .non)) (Tr.ite (few1_is1 l [] 0) (Tr.ret (PV.sl (shutLL (few1_out_1 l [] 0)) .non)) Tr.fail)
theorem few_T (l : List (List PV)) : (tcall tbT G_few L_few Tryd.f24 [.sl l .non]).flat = few_Tr l := by kernel_rfl
noncomputable def few_W (l : List (List PV)) : Option PV := (few_Tr l).run
noncomputable def few_r (l : List (List PV)) : List (List PV) := (gRow (gVal (few_W l)))
noncomputable def few_is0 (l : List (List PV)) : Bool := isW (few_W l) (.sl (few_r l) .non)
noncomputable def F_few : List PV → Tr PV | [.sl l .non] => .ite (few_is0 l) (.ret (.sl (few_r l) .non)) (.fail) | _ => .fail
theorem sim_few (gl : Nat → Option Obj) : SimP Tryd.prog gl 24 fun args => (F_few args).run := by
  refine SimP.of_flat (G := G_few) (L := L_few) tbT_ok (gok_few gl ) noMixed Tryd.func24 rfl (by rfl) (by kernel_rfl) (loopOk_all (L := lps L_few) [(3, c_few1)] (by kernel_rfl) (List.forall_mem_cons.2 ⟨fun fr σ e fr' σ' h => loop_few1 gl  fr σ e fr' σ' h, (List.forall_mem_nil _)⟩)) ?_
  intro args x h
  unfold F_few at h
  split at h
  · exact (congrArg Tr.run (few_T _)).trans (ite_isW h fun h => by cases h)
  · cases h
noncomputable def G_winc : GamT := ofL []
theorem gok_winc (gl : Nat → Option Obj) : GamOk Tryd.prog gl (gam G_winc) := gamOk_nil
noncomputable def L_winc : LpsT := fun r fr σ => .fail
noncomputable def winc_Tr (n : Int) (t : List (List PV)) : Tr PV := Tr.ite (okSub true (okPos (imin n (xLen t))) 0 (nNat (imin n (xLen t))) (nXs t)) (Tr.ite (okSize t 3) (Tr.ret (PV.sl (shutLL (xSub t 0 (nNat (imin n (xLen t))))) .non)) Tr.fail) Tr.fail
theorem winc_T (n : Int) (t : List (List PV)) : (tcall tbT G_winc L_winc Tryd.f60 [.int .i64 n, .ref [.sl t .non]]).flat = winc_Tr n t := by kernel_rfl
noncomputable def F_winc : List PV → Tr PV | [.int .i64 n, .ref [.sl t .non]] => winc_Tr n t | _ => .fail
theorem sim_winc (gl : Nat → Option Obj) : SimP Tryd.prog gl 60 fun args => (F_winc args).run := by
  refine SimP.of_flat (G := G_winc) (L := L_winc) tbT_ok (gok_winc gl ) noMixed Tryd.func60 rfl (by rfl) (by kernel_rfl) (loopOk_none (by kernel_rfl)) ?_
  intro args x h
  unfold F_winc at h
  split at h
  · exact (congrArg Tr.run (winc_T _ _)).trans h
  · cases h
noncomputable def G_TWithin : GamT := ofL [(16, .pure F_TCmp), (60, .pure F_winc)]
theorem gok_TWithin (gl : Nat → Option Obj) : GamOk Tryd.prog gl (gam G_TWithin) := (gamOk_cons (sim_TCmp gl) (gamOk_cons (sim_winc gl) gamOk_nil))
noncomputable def L_TWithin : LpsT := fun r fr σ => .fail
noncomputable def TWithin_Tr (low : List (List PV)) (t : List (List PV)) (high : List (List PV)) : Tr PV := Tr.ite (okSub true (okPos (imin (xLen low) (xLen (lockLL t)))) 0 (nNat (imin (xLen low) (xLen (lockLL t)))) (nXs (lockLL t))) (Tr.ite (okSize (lockLL t) 3) (Tr.ite (okR cV (lockLL (lockLL (shutLL (xSub (lockLL t) 0 (nNat (imin (xLen low) (xLen (lockLL t))))))))) (Tr.ite (okR cV (lockLL (lockLL low))) (Tr.ite (iLe 0 (cmpTV (lockLL (lockLL (shutLL (xSub (lockLL t) 0 (nNat (imin (xLen low) (xLen (lockLL t)))))))) (lockLL (lockLL low)))) (Tr.ite (okSub true (okPos (imin (xLen high) (xLen (lockLL t)))) 0 (nNat (imin (xLen high) (xLen (lockLL t)))) (nXs (lockLL t))) (Tr.ite (okSize (lockLL t) 3) (Tr.ite (okR cV (lockLL (lockLL (shutLL (xSub (lockLL t) 0 (nNat (imin (xLen high) (xLen (lockLL t))))))))) (Tr.ite (okR cV (lockLL (lockLL high))) (Tr.ret (PV.bool (iLe (cmpTV (lockLL (lockLL (shutLL (xSub (lockLL t) 0 (nNat (imin (xLen high) (xLen (lockLL t)))))))) (lockLL (lockLL high))) 0))) Tr.fail) Tr.fail) Tr.fail) Tr.fail) (Tr.ret (PV.bool false))) Tr.fail) Tr.fail) Tr.fail) Tr.fail
theorem TWithin_T (low : List (List PV)) (t : List (List PV)) (high : List (List PV)) : (tcall tbT G_TWithin L_TWithin Tryd.f21 [.sl low .non, .sl t .non, .sl high .non]).flat = TWithin_Tr low t high := by kernel_rfl
noncomputable def F_TWithin : List PV → Tr PV | [.sl low .non, .sl t .non, .sl high .non] => TWithin_Tr low t high | _ => .fail
theorem sim_TWithin (gl : Nat → Option Obj) : SimP Tryd.prog gl 21 fun args => (F_TWithin args).run := by
  refine SimP.of_flat (G := G_TWithin) (L := L_TWithin) tbT_ok (gok_TWithin gl ) noMixed Tryd.func21 rfl (by rfl) (by kernel_rfl) (loopOk_none (by kernel_rfl)) ?_
  intro args x h
  unfold F_TWithin at h
  split at h
  · exact (congrArg Tr.run (TWithin_T _ _ _)).trans h
  · cases h
noncomputable def G_RWithin : GamT := ofL [(39, .pure F_CmpR)]
theorem gok_RWithin (gl : Nat → Option Obj) : GamOk Tryd.prog gl (gam G_RWithin) := (gamOk_cons (sim_CmpR gl) gamOk_nil)
noncomputable def L_RWithin : LpsT := fun r fr σ => .fail
noncomputable def RWithin_Tr (low : List (List PV)) (t : List (List PV)) (high : List (List PV)) : Tr PV := Tr.ite (okSub true (okPos (imin (xLen t) (xLen low))) 0 (nNat (imin (xLen t) (xLen low))) (nXs t)) (Tr.ite (okSize t 3) (Tr.ite (okR cV (lockLL (xSub t 0 (nNat (imin (xLen t) (xLen low)))))) (Tr.ite (okR cV (lockLL low)) (Tr.ite (iLe 0 (cmpTR (lockLL (xSub t 0 (nNat (imin (xLen t) (xLen low))))) (lockLL low))) (Tr.ite (okSub true (okPos (imin (xLen t) (xLen high))) 0 (nNat (imin (xLen t) (xLen high))) (nXs t)) (Tr.ite (okSize t 3) (Tr.ite (okR cV (lockLL (xSub t 0 (nNat (imin (xLen t) (xLen high)))))) (Tr.ite (okR cV (lockLL high)) (Tr.ret (PV.bool (iLe (cmpTR (lockLL (xSub t 0 (nNat (imin (xLen t) (xLen high))))) (lockLL high)) 0))) Tr.fail) Tr.fail) Tr.fail) Tr.fail) (Tr.ret (PV.bool false))) Tr.fail) Tr.fail) Tr.fail) Tr.fail
theorem RWithin_T (low : List (List PV)) (t : List (List PV)) (high : List (List PV)) : (tcall tbT G_RWithin L_RWithin Tryd.f22 [.sl low .non, .sl t .non, .sl high .non]).flat = RWithin_Tr low t high := by kernel_rfl
noncomputable def F_RWithin : List PV → Tr PV | [.sl low .non, .sl t .non, .sl high .non] => RWithin_Tr low t high | _ => .fail
theorem sim_RWithin (gl : Nat → Option Obj) : SimP Tryd.prog gl 22 fun args => (F_RWithin args).run := by
  refine SimP.of_flat (G := G_RWithin) (L := L_RWithin) tbT_ok (gok_RWithin gl ) noMixed Tryd.func22 rfl (by rfl) (by kernel_rfl) (loopOk_none (by kernel_rfl)) ?_
  intro args x h
  unfold F_RWithin at h
  split at h
  · exact (congrArg Tr.run (RWithin_T _ _ _)).trans h
  · cases h
noncomputable def G_SameRel : GamT := ofL [(17, .pure F_Same)]
theorem gok_SameRel (gl : Nat → Option Obj) : GamOk Tryd.prog gl (gam G_SameRel) := (gamOk_cons (sim_Same gl) gamOk_nil)
noncomputable def c_SameRel1 : Code := loopC Tryd.f31 4
def I_SameRel1 : LI := ⟨27, [0, 1, 5], fun e => match e with | .ret => [4] | .exit 0 => [] | _ => [], true⟩
noncomputable def LI_SameRel1 : LpsT := fun r fr σ => .fail
noncomputable def SameRel1_V (vs : List PV) (σ : Store) : Option (PExit × List PV × Store) := lval (lstep tbT G_SameRel LI_SameRel1 c_SameRel1 I_SameRel1) vs σ
noncomputable def SameRel1_Tr (a : List (List PV)) (b : List (List PV)) (i : Int) : Tr LR := Tr.ite (iLt i (xLen a)) (Tr.ite (okPos i) (Tr.ite (okGet [PV.sl [] .full] a (nNat i)) (Tr.ite (okPos i) (Tr.ite (okGet [PV.sl [] .full] b (nNat i)) (Tr.ite (okR cV (lockLL (lockLL (xRow a (nNat i) 0)))) (Tr.ite (okR cV (lockLL (lockLL (xRow b (nNat i) 0)))) (Tr.ite (bNot (iEq (cmpTR (lockLL (lockLL (xRow a (nNat i) 0))) (lockLL (lockLL (xRow b (nNat i) 0)))) 0)) (Tr.ret (LR.out .ret [PV.bool false] (Store.mk [] [] []))) (Tr.ret (LR.next [PV.sl a .non, PV.sl b .non, PV.int .i64 (iAdd .i64 i 1)] (Store.mk [] [] [])))) Tr.fail) Tr.fail) Tr.fail) Tr.fail) Tr.fail) Tr.fail) (Tr.ret (LR.out (.exit 0) [] (Store.mk [] [] [])))
theorem SameRel1_T (a : List (List PV)) (b : List (List PV)) (i : Int) : lstep tbT G_SameRel LI_SameRel1 c_SameRel1 I_SameRel1 [.sl a .non, .sl b .non, .int .i64 i] ⟨[], [], []⟩ = SameRel1_Tr a b i := by kernel_rfl
theorem SameRel1_E (a : List (List PV)) (b : List (List PV)) (i : Int) : SameRel1_V [.sl a .non, .sl b .non, .int .i64 i] ⟨[], [], []⟩ = lnext SameRel1_V (SameRel1_Tr a b i).run := by unfold SameRel1_V; rw [lval_eq, SameRel1_T]
noncomputable def SameRel1_W (a : List (List PV)) (b : List (List PV)) (i : Int) : Option (PExit × List PV × Store) := SameRel1_V [.sl a .non, .sl b .non, .int .i64 i] ⟨[], [], []⟩
noncomputable def SameRel1_b_0 (a : List (List PV)) (b : List (List PV)) (i : Int) : Bool := (gBool (gOut (SameRel1_W a b i) 0))
noncomputable def SameRel1_is0 (a : List (List PV)) (b : List (List PV)) (i : Int) : Bool := isW (SameRel1_W a b i) (.ret, [.bool (SameRel1_b_0 a b i)], ⟨[], [], []⟩)
noncomputable def SameRel1_is1 (a : List (List PV)) (b : List (List PV)) (i : Int) : Bool := isW (SameRel1_W a b i) ((.exit 0), [], ⟨[], [], []⟩)
noncomputable def SameRel1_prop : List PV → Store → Tr (PExit × List PV × Store) | [.sl a .non, .sl b .non, .int .i64 i], ⟨[], [], []⟩ => .ite (SameRel1_is0 a b i) (.ret (.ret, [.bool (SameRel1_b_0 a b i)], ⟨[], [], []⟩)) (.ite (SameRel1_is1 a b i) (.ret ((.exit 0), [], ⟨[], [], []⟩)) (.fail)) | _, _ => .fail
theorem SameRel1_ok : ∀ vs σ r, (SameRel1_prop vs σ).run = some r → SameRel1_V vs σ = some r := by
  intro vs σ r h
  unfold SameRel1_prop at h
  split at h
  · exact ite_isW h fun h => ite_isW h fun h => by cases h
  · cases h
theorem loop_SameRel1 (gl : Nat → Option Obj) : ∀ fr σ e fr' σ', (orc I_SameRel1 SameRel1_prop fr σ).run = some (e, fr', σ') → LDoes Tryd.prog gl c_SameRel1 fr σ e fr' σ' := orc_ok tbT_ok (gok_SameRel gl ) noMixed (L := LI_SameRel1) (loopOk_none (by kernel_rfl)) (by kernel_rfl) SameRel1_ok
noncomputable def L_SameRel : LpsT := fun r fr σ => bif Nat.beq r 4 then orc I_SameRel1 SameRel1_prop fr σ else .fail
noncomputable def SameRel_Tr (a : List (List PV)) (b : List (List PV)) : Tr PV := Tr.ite (iNe (xLen a) (xLen b)) (Tr.ret (PV.bool false)) (Tr.ite (SameRel1_is0 a b 0) (Tr.ret (PV.bool (SameRel1_b_0 a b 0))) (Tr.ite (SameRel1_is1 a b 0) (Tr.ret (PV.bool true)) Tr.fail))
theorem SameRel_T (a : List (List PV)) (b : List (List PV)) : (tcall tbT G_SameRel L_SameRel Tryd.f31 [.sl a .non, .sl b .non]).flat = SameRel_Tr a b := by kernel_rfl
noncomputable def SameRel_W (a : List (List PV)) (b : List (List PV)) : Option PV := (SameRel_Tr a b).run
noncomputable def SameRel_b (a : List (List PV)) (b : List (List PV)) : Bool := (gBool (gVal (SameRel_W a b)))
noncomputable def SameRel_is0 (a : List (List PV)) (b : List (List PV)) : Bool := isW (SameRel_W a b) (.bool (SameRel_b a b))
noncomputable def F_SameRel : List PV → Tr PV | [.sl a .non, .sl b .non] => .ite (SameRel_is0 a b) (.ret (.bool (SameRel_b a b))) (.fail) | _ => .fail
theorem sim_SameRel (gl : Nat → Option Obj) : SimP Tryd.prog gl 31 fun args => (F_SameRel args).run := by
  refine SimP.of_flat (G := G_SameRel) (L := L_SameRel) tbT_ok (gok_SameRel gl ) noMixed Tryd.func31 rfl (by rfl) (by kernel_rfl) (loopOk_all (L := lps L_SameRel) [(4, c_SameRel1)] (by kernel_rfl) (List.forall_mem_cons.2 ⟨fun fr σ e fr' σ' h => loop_SameRel1 gl  fr σ e fr' σ' h, (List.forall_mem_nil _)⟩)) ?_
  intro args x h
  unfold F_SameRel at h
  split at h
  · exact (congrArg Tr.run (SameRel_T _ _)).trans (ite_isW h fun h => by cases h)
  · cases h
noncomputable def G_CloneT0 : GamT := ofL []
theorem gok_CloneT0 (gl : Nat → Option Obj) : GamOk Tryd.prog gl (gam G_CloneT0) := gamOk_nil
noncomputable def L_CloneT0 : LpsT := fun r fr σ => .fail
noncomputable def CloneT0_Tr (s : List (List PV)) : Tr PV := Tr.ite (xNil s) (Tr.ite true (Tr.ret (PV.sl [] .non)) (Tr.ite (okGrow [] s 32) (Tr.ite (okNews s 3) (Tr.ite (okSize [] 3) (Tr.ite (xNil s) (Tr.ret (PV.sl [] .non)) (Tr.ret (PV.sl (shutLL (xApp [] s)) .non))) Tr.fail) Tr.fail) Tr.fail)) (Tr.ite false (Tr.ret (PV.sl [] .non)) (Tr.ite (okGrow [] s 32) (Tr.ite (okNews s 3) (Tr.ite (okSize [] 3) (Tr.ite (xNil s) (Tr.ret (PV.sl [] .non)) (Tr.ret (PV.sl (shutLL (xApp [] s)) .non))) Tr.fail) Tr.fail) Tr.fail))
theorem CloneT0_T (s : List (List PV)) : (tcall tbT G_CloneT0 L_CloneT0 Tryd.f64 [.sl s .nil]).flat = CloneT0_Tr s := by kernel_rfl
noncomputable def CloneT0_W (s : List (List PV)) : Option PV := (CloneT0_Tr s).run
noncomputable def CloneT0_r (s : List (List PV)) : List (List PV) := (gRow (gVal (CloneT0_W s)))
noncomputable def CloneT0_is0 (s : List (List PV)) : Bool := isW (CloneT0_W s) (.sl (CloneT0_r s) .non)
noncomputable def CloneT0b_Tr (s : List (List PV)) : Tr PV := Tr.ite (xNil s) (Tr.ite false (Tr.ret (PV.sl [] .non)) (Tr.ite (okGrow [] s 32) (Tr.ite (okNews s 3) (Tr.ite (okSize [] 3) (Tr.ite (xNil s) (Tr.ret (PV.sl [] .non)) (Tr.ret (PV.sl (shutLL (xApp [] s)) .non))) Tr.fail) Tr.fail) Tr.fail)) (Tr.ite false (Tr.ret (PV.sl [] .non)) (Tr.ite (okGrow [] s 32) (Tr.ite (okNews s 3) (Tr.ite (okSize [] 3) (Tr.ite (xNil s) (Tr.ret (PV.sl [] .non)) (Tr.ret (PV.sl (shutLL (xApp [] s)) .non))) Tr.fail) Tr.fail) Tr.fail))
theorem CloneT0b_T (s : List (List PV)) : (tcall tbT G_CloneT0 L_CloneT0 Tryd.f64 [.sl s .own]).flat = CloneT0b_Tr s := by kernel_rfl
noncomputable def CloneT0b_W (s : List (List PV)) : Option PV := (CloneT0b_Tr s).run
noncomputable def CloneT0b_r (s : List (List PV)) : List (List PV) := (gRow (gVal (CloneT0b_W s)))
noncomputable def CloneT0b_is0 (s : List (List PV)) : Bool := isW (CloneT0b_W s) (.sl (CloneT0b_r s) .non)
noncomputable def F_CloneT0 : List PV → Tr PV | [.sl s .nil] => .ite (CloneT0_is0 s) (.ret (.sl (CloneT0_r s) .non)) (.fail) | [.sl s .own] => .ite (CloneT0b_is0 s) (.ret (.sl (CloneT0b_r s) .non)) (.fail) | _ => .fail
theorem sim_CloneT0 (gl : Nat → Option Obj) : SimP Tryd.prog gl 64 fun args => (F_CloneT0 args).run := by
  refine SimP.of_flat (G := G_CloneT0) (L := L_CloneT0) tbT_ok (gok_CloneT0 gl ) noMixed Tryd.func64 rfl (by rfl) (by kernel_rfl) (loopOk_none (by kernel_rfl)) ?_
  intro args x h
  unfold F_CloneT0 at h
  split at h
  · exact (congrArg Tr.run (CloneT0_T _)).trans (ite_isW h fun h => by cases h)
  · exact (congrArg Tr.run (CloneT0b_T _)).trans (ite_isW h fun h => by cases h)
  · cases h
end Go.Pv

set_option maxHeartbeats 4000000
set_option maxRecDepth 200000
set_option linter.unusedSimpArgs false
set_option linter.unusedVariables false
namespace Go.Pv
open Go Go.Proofs
/-! ### few -/
def fewL (l : List (List Vl)) : List (List Vl) := (l.filter fun t => decide (t.length ≤ 20)).take 60
def fewF (b : List (List Vl)) (a : List Vl) : List (List Vl) ⊕ List (List Vl) := if b.length < 60 then (if a.length ≤ 20 then .inl (b ++ [a]) else .inl b) else .inr b
theorem few_fold : ∀ (l b : List (List Vl)), b.length ≤ 60 → foldE fewF id l b = (b ++ l.filter fun t => decide (t.length ≤ 20)).take 60
  | [], b, h => by simp [foldE, List.take_of_length_le h]
  | a :: l, b, h => by
    simp only [foldE, fewF]
    by_cases h1 : b.length < 60
    · by_cases h2 : a.length ≤ 20
      · simp only [if_pos h1, if_pos h2]
        rw [few_fold l (b ++ [a]) (by simp; omega)]
        simp [h2]
      · simp only [if_pos h1, if_neg h2]
        rw [few_fold l b h]
        simp [h2]
    · simp only [if_neg h1]
      have : b.length = 60 := by omega
      rw [List.take_append_of_le_length (by omega), List.take_of_length_le (by omega)]
theorem few_loop (l : List (List Vl)) (hl : l.length ≤ 9223372036854775807) : few1_V [.sl (rOf (cR cV) l) .non, .sl [] .full, .int .i64 0] ⟨[], [], []⟩ = some (.exit 0, [.sl (rOf (cR cV) (fewL l)) (aT (fewL l))], aS 1 23 (fewL l)) := by
  have h := loop_foldE0 (l := l) (V := fun i b => few1_V [.sl (rOf (cR cV) l) .non, .sl (rOf (cR cV) b) (aT b), .int .i64 (i : Nat)] (aS 1 23 b)) (fun _ _ => True) fewF id (fun r => some (.exit 0, [.sl (rOf (cR cV) r) (aT r)], aS 1 23 r)) [] trivial ?_ ?_
  · rw [few_fold l [] (by simp)] at h
    simpa [fewL] using h
  · intro i b a _ hi ha
    have w := inc_i64 (i := i) (by omega)
    rcases aTS_cases 1 23 b with ⟨rfl, h1, h2⟩ | ⟨hne, h1, h2⟩
    · by_cases hc : (a.length : Int) ≤ 20
      · refine .inl ⟨_, by simp only [fewF]; rw [if_pos (by simp)]; first | rw [if_pos (by omega)] | rw [if_neg (by omega)], trivial, ?_⟩
        simp [few1_E, few1_Tr, ha, hi, w, hc, one, aT, aS]
      · refine .inl ⟨_, by simp only [fewF]; rw [if_pos (by simp)]; first | rw [if_pos (by omega)] | rw [if_neg (by omega)], trivial, ?_⟩
        simp [few1_E, few1_Tr, ha, hi, w, hc, one, aT, aS]
    · by_cases h3 : (b.length : Int) < 60
      · by_cases hc : (a.length : Int) ≤ 20
        · refine .inl ⟨_, by simp only [fewF]; rw [if_pos (by omega)]; first | rw [if_pos (by omega)] | rw [if_neg (by omega)], trivial, ?_⟩
          have h4 : (b.length + 1) * 24 ≤ 140737488355328 := by omega
          have h5 : b.length ≤ 140737488355327 := by omega
          simp [h1, h2, few1_E1, few1_Tr1, ha, hi, w, hc, h3, one, aT_snoc, aS_snoc, h4, h5]
          try omega
        · refine .inl ⟨_, by simp only [fewF]; rw [if_pos (by omega)]; first | rw [if_pos (by omega)] | rw [if_neg (by omega)], trivial, ?_⟩
          simp [h1, h2, few1_E1, few1_Tr1, ha, hi, w, hc, h3, one, aT_snoc, aS_snoc]
      · refine .inr ⟨_, by simp only [fewF]; rw [if_neg (by omega)], ?_⟩
        simp [h1, h2, few1_E1, few1_Tr1, ha, hi, w, h3]
        try omega
  · intro b _
    rcases aTS_cases 1 23 b with ⟨rfl, h1, h2⟩ | ⟨hne, h1, h2⟩
    · simp [few1_E, few1_Tr]
    · simp [h1, h2, few1_E1, few1_Tr1]
theorem few_law (l : List (List Vl)) (hl : l.length ≤ 9223372036854775807) : few_W (rOf (cR cV) l) = some (.sl (rOf (cR cV) (fewL l)) .non) := by
  have h := few_loop l hl
  unfold few_W few_Tr
  generalize fewL l = r at h
  rcases aTS_cases 1 23 r with ⟨rfl, h1, h2⟩ | ⟨hne, h1, h2⟩
  · simp [few1_is0, few1_is1, few1_out_0, few1_out_1, few1_k_1, few1_W, h]
  · rw [h1, h2] at h
    simp [few1_is0, few1_is1, few1_out_0, few1_out_1, few1_k_1, few1_W, h]
theorem few_len (l : List (List Vl)) : (fewL l).length ≤ 60 := by simp [fewL]; omega
theorem few_mem {l : List (List Vl)} {t : List Vl} (h : t ∈ fewL l) : t ∈ l ∧ t.length ≤ 20 := by
  have := List.mem_of_mem_take h
  simpa using this
/-! ### the order of tuples -/
theorem cmpVl_tot : Tot cmpVl where
  val := fun a b => cmp_val _ _ _ _ _ _
  zero := fun a b => by
    unfold cmpVl
    rw [cmp_zero]
    obtain ⟨k, n, s⟩ := a
    obtain ⟨k', n', s'⟩ := b
    simp
  swap := fun a b => cmp_swap _ _ _ _ _ _
  trans := fun a b c h1 h2 => cmp_lt_trans h1 (by have : cmpVl b c < 0 := h2; unfold cmpVl at this; omega)
theorem cmpT_lex (f : Vl → Vl → Int) : ∀ (a b : List Vl), cmpT f a b = lex f a b
  | [], [] => rfl
  | [], b :: m => by simp [cmpT, dif, lex]
  | a :: l, [] => by simp [cmpT, dif, lex]
  | a :: l, b :: m => by
    have ih := cmpT_lex f l m
    simp only [cmpT, dif, lex] at ih ⊢
    by_cases h : f a b = 0
    · simp only [if_pos h]
      rw [← ih]
      cases dif f l m <;> simp
    · simp only [if_neg h]
/-- Tuples in order. -/
def lexV : List Vl → List Vl → Int := lex cmpVl
theorem lexV_tot : Tot lexV := lex_tot cmpVl_tot
@[simp] theorem cmpTV_of (a b : List Vl) : cmpTV (rOf cV a) (rOf cV b) = lexV a b := by simp only [cmpTV, unR_of, cmpT_lex]; rfl
@[simp] theorem cmpTR_of (a b : List Vl) : cmpTR (rOf cV a) (rOf cV b) = lexV a b := by simp only [cmpTR, unR_of, cmpT_lex, cmpRl_eq]; rfl
/-! ### rows of tuples alike -/
theorem sameRel_loop : ∀ (k i : Nat) (a b : List (List Vl)), i + k = a.length → a.length = b.length → a.length ≤ 9223372036854775807 → SameRel1_V [.sl (rOf (cR cV) a) .non, .sl (rOf (cR cV) b) .non, .int .i64 (i : Nat)] ⟨[], [], []⟩ = if a.drop i = b.drop i then some (.exit 0, [], ⟨[], [], []⟩) else some (.ret, [.bool false], ⟨[], [], []⟩)
  | 0, i, a, b, hi, hl, hm => by
    rw [List.drop_eq_nil_of_le (by omega), List.drop_eq_nil_of_le (by omega)]
    have : ¬ (i : Int) < a.length := by omega
    simp [SameRel1_E, SameRel1_Tr, this]
  | k + 1, i, a, b, hi, hl, hm => by
    have w := inc_i64 (i := i) (by omega)
    have h1 : i < a.length := by omega
    have h2 : i < b.length := by omega
    have key : (a.drop i = b.drop i) = (a[i] = b[i] ∧ a.drop (i + 1) = b.drop (i + 1)) := by rw [List.drop_eq_getElem_cons h1, List.drop_eq_getElem_cons h2, List.cons.injEq]
    have ih := sameRel_loop k (i + 1) a b (by omega) hl hm
    simp only [key]
    by_cases e : a[i] = b[i]
    · have := lexV_tot.self b[i]
      simp only [e, true_and]
      rw [← ih]
      simp [SameRel1_E, SameRel1_Tr, h1, h2, w, e, this]
    · have : ¬ lexV a[i] b[i] = 0 := fun h => e ((lexV_tot.zero _ _).1 h)
      simp [SameRel1_E, SameRel1_Tr, h1, h2, w, e, this]
theorem sameRel_law (a b : List (List Vl)) (ha : a.length ≤ 9223372036854775807) : SameRel_W (rOf (cR cV) a) (rOf (cR cV) b) = some (.bool (decide (a = b))) := by
  unfold SameRel_W SameRel_Tr
  by_cases hl : a.length = b.length
  · have h := sameRel_loop a.length 0 a b (by omega) hl ha
    simp only [List.drop_zero] at h
    by_cases e : a = b
    · rw [if_pos e] at h
      subst e
      simp at h
      simp [SameRel1_is0, SameRel1_is1, SameRel1_b_0, SameRel1_W, h]
    · rw [if_neg e] at h
      simp at h
      have : ¬ (a.length : Int) ≠ b.length := by omega
      simp [SameRel1_is0, SameRel1_is1, SameRel1_b_0, SameRel1_W, h, e, this]
  · have : (a.length : Int) ≠ b.length := by omega
    have e : a ≠ b := by rintro rfl; exact hl rfl
    simp [this, e]
/-! ### within -/
def withinL (low t high : List Vl) : Bool := decide (0 ≤ lexV (t.take low.length) low) && decide (lexV (t.take high.length) high ≤ 0)
theorem min_nat (a b : Nat) : imin (a : Int) (b : Int) = ((min a b : Nat) : Int) := by simp only [imin_eq]; split <;> omega
theorem TWithin_law (low t high : List Vl) : (TWithin_Tr (rOf cV low) (rOf cV t) (rOf cV high)).run = some (.bool (withinL low t high)) := by
  have e1 : ∀ x : List Vl, List.take (min x.length t.length) t = t.take x.length := fun x => by rw [List.take_eq_take_iff]; omega
  have e2 : ∀ x : List Vl, min x.length t.length ≤ t.length := fun x => by omega
  have e3 : ∀ x : List Vl, imin (x.length : Int) (t.length : Int) = ((min x.length t.length : Nat) : Int) := fun x => min_nat _ _
  simp only [TWithin_Tr, lockLL_rOf, xLen_rOf, e3]
  by_cases h : 0 ≤ lexV (t.take low.length) low
  · simp [-imin_eq, e1, e2, h, withinL]
  · simp [-imin_eq, e1, e2, h, withinL]
theorem RWithin_law (low t high : List Vl) : (RWithin_Tr (rOf cV low) (rOf cV t) (rOf cV high)).run = some (.bool (withinL low t high)) := by
  have e1 : ∀ x : List Vl, List.take (min t.length x.length) t = t.take x.length := fun x => by rw [List.take_eq_take_iff]; omega
  have e2 : ∀ x : List Vl, min t.length x.length ≤ t.length := fun x => by omega
  have e3 : ∀ x : List Vl, imin (t.length : Int) (x.length : Int) = ((min t.length x.length : Nat) : Int) := fun x => min_nat _ _
  simp only [RWithin_Tr, lockLL_rOf, xLen_rOf, e3]
  by_cases h : 0 ≤ lexV (t.take low.length) low
  · simp [-imin_eq, e1, e2, h, withinL]
  · simp [-imin_eq, e1, e2, h, withinL]
/-! ### Clone -/
noncomputable def F_CloneT : List PV → Tr PV | [.sl s .non] => Tr.chk (okNews s 3) (Tr.chk (okGrow [] s 32) (.ret (.sl (shutLL s) .non))) | _ => .fail
theorem sim_CloneT (gl : Nat → Option Obj) : SimP Tryd.prog gl 64 fun args => (F_CloneT args).run := by
  refine SimP.of_nilcase (sim_CloneT0 gl) ?_
  intro args x h
  unfold F_CloneT at h
  split at h
  · rename_i s
    obtain ⟨h1, q⟩ := Tr.chk_some h
    obtain ⟨h2, q⟩ := Tr.chk_some q
    cases q
    refine ⟨s, .non, rfl, ?_, ?_⟩
    · have : CloneT0_W s = some (.sl (shutLL s) .non) := by
        unfold CloneT0_W CloneT0_Tr
        cases s with
        | nil => simp
        | cons a s => simp at h2; simp [h1, h2]
      simp [F_CloneT0, CloneT0_is0, CloneT0_r, this]
    · have : CloneT0b_W s = some (.sl (shutLL s) .non) := by
        unfold CloneT0b_W CloneT0b_Tr
        cases s with
        | nil => simp
        | cons a s => simp at h2; simp [h1, h2]
      simp [F_CloneT0, CloneT0b_is0, CloneT0b_r, this]
  · cases h
end Go.Pv

/- Rows in order, each once: there is one alone of the same things. No program in sight. -/
set_option linter.unusedSimpArgs false
set_option linter.unusedVariables false
namespace Go.Pv
variable {α : Type} {c : α → α → Int}
def SSrt (c : α → α → Int) (l : List α) : Prop := l.Pairwise (fun a b => c a b < 0)
/-- Put at its place, if it is not there. -/
def putS (c : α → α → Int) (x : α) : List α → List α
  | [] => [x]
  | a :: l => if c x a < 0 then x :: a :: l else if c x a = 0 then a :: l else a :: putS c x l
def usort (c : α → α → Int) (l : List α) : List α := l.foldl (fun out x => putS c x out) []
theorem mem_putS (T : Tot c) (x y : α) : ∀ l : List α, y ∈ putS c x l ↔ y = x ∨ y ∈ l
  | [] => by simp [putS]
  | a :: l => by
    have ih := mem_putS T x y l
    simp only [putS]
    split
    · simp
    · split
      · rename_i h
        have e := (T.zero x a).1 h
        subst e
        simp
      · simp only [List.mem_cons, ih]
        constructor
        · rintro (h | h | h) <;> simp [h]
        · rintro (h | h | h) <;> simp [h]
theorem ssrt_putS (T : Tot c) (x : α) : ∀ l : List α, SSrt c l → SSrt c (putS c x l)
  | [], _ => by simp [putS, SSrt]
  | a :: l, h => by
    have hc := List.pairwise_cons.1 h
    have ih := ssrt_putS T x l hc.2
    simp only [putS]
    split
    · rename_i h1
      refine List.pairwise_cons.2 ⟨?_, h⟩
      intro y hy
      cases hy with
      | head => exact h1
      | tail _ hy => exact T.trans x a y h1 (hc.1 y hy)
    · split
      · exact h
      · rename_i h1 h2
        refine List.pairwise_cons.2 ⟨?_, ih⟩
        intro y hy
        rcases (mem_putS T x y l).1 hy with e | e
        · subst e
          have := T.swap y a
          omega
        · exact hc.1 y e
theorem usort_acc (T : Tot c) : ∀ (l out : List α), SSrt c out → SSrt c (l.foldl (fun out x => putS c x out) out) ∧ ∀ y, y ∈ l.foldl (fun out x => putS c x out) out ↔ y ∈ l ∨ y ∈ out
  | [], out, h => ⟨h, fun y => by simp⟩
  | a :: l, out, h => by
    obtain ⟨h1, h2⟩ := usort_acc T l (putS c a out) (ssrt_putS T a out h)
    refine ⟨h1, fun y => ?_⟩
    rw [List.foldl_cons, h2 y, mem_putS T]
    simp only [List.mem_cons]
    constructor
    · rintro (h | h | h) <;> simp [h]
    · rintro ((h | h) | h) <;> simp [h]
theorem ssrt_usort (T : Tot c) (l : List α) : SSrt c (usort c l) := (usort_acc T l [] List.Pairwise.nil).1
theorem mem_usort (T : Tot c) (l : List α) (y : α) : y ∈ usort c l ↔ y ∈ l := by
  have := (usort_acc T l [] List.Pairwise.nil).2 y
  simpa [usort] using this
theorem ssrt_unique (T : Tot c) : ∀ {l m : List α}, SSrt c l → SSrt c m → (∀ x, x ∈ l ↔ x ∈ m) → l = m
  | [], [], _, _, _ => rfl
  | [], b :: m, _, _, h => by have := (h b).2 (by simp); cases this
  | a :: l, [], _, _, h => by have := (h a).1 (by simp); cases this
  | a :: l, b :: m, h1, h2, h => by
    have k1 := List.pairwise_cons.1 h1
    have k2 := List.pairwise_cons.1 h2
    have e : a = b := by
      have m1 := (h a).1 (by simp)
      have m2 := (h b).2 (by simp)
      rcases List.mem_cons.1 m1 with e | e
      · exact e
      · rcases List.mem_cons.1 m2 with e' | e'
        · exact e'.symm
        · have q1 := k2.1 a e
          have q2 := k1.1 b e'
          have := T.swap a b
          omega
    subst e
    rw [ssrt_unique T k1.2 k2.2 fun x => ?_]
    constructor
    · intro hx
      rcases List.mem_cons.1 ((h x).1 (List.mem_cons_of_mem _ hx)) with e | e
      · subst e
        have := k1.1 x hx
        have := T.self x
        omega
      · exact e
    · intro hx
      rcases List.mem_cons.1 ((h x).2 (List.mem_cons_of_mem _ hx)) with e | e
      · subst e
        have := k2.1 x hx
        have := T.self x
        omega
      · exact e
theorem usort_of (T : Tot c) {l m : List α} (h : SSrt c m) (h2 : ∀ x, x ∈ m ↔ x ∈ l) : usort c l = m := ssrt_unique T (ssrt_usort T l) h fun x => by rw [mem_usort T, h2]
/-- A row by its places. -/
theorem ssrt_fn {g : Nat → α} {k : Nat} (h : ∀ p q, p < q → q < k → c (g p) (g q) < 0) : SSrt c ((List.range k).map g) := by
  refine List.pairwise_map.2 ?_
  refine (List.pairwise_lt_range (n := k)).imp_of_mem ?_
  intro a b ha hb hab
  exact h a b hab (by simpa using hb)
theorem mem_fn {g : Nat → α} {k : Nat} {x : α} : x ∈ (List.range k).map g ↔ ∃ p, p < k ∧ g p = x := by simp

/-- The first e of f are, each once and in order, the first k of g. -/
structure Dd (c : α → α → Int) (f g : Nat → α) (N k e : Nat) : Prop where
  keep : ∀ p, e - 1 ≤ p → p < N → g p = f p
  str : ∀ p q, p < q → q < k → c (g p) (g q) < 0
  sub : ∀ p, p < k → ∃ j, j < e ∧ g p = f j
  sup : ∀ j, j < e → ∃ p, p < k ∧ g p = f j
  last : g (k - 1) = f (e - 1)
  k1 : 1 ≤ k
  ke : k ≤ e
theorem Dd.init (f : Nat → α) (N : Nat) : Dd c f f N 1 1 where
  keep := fun _ _ _ => rfl
  str := fun p q h1 h2 => by omega
  sub := fun p h => ⟨p, h, rfl⟩
  sup := fun p h => ⟨p, h, rfl⟩
  last := rfl
  k1 := Nat.le_refl _
  ke := Nat.le_refl _
theorem Dd.eq {f g : Nat → α} {N k e : Nat} (h : Dd c f g N k e) (he : f e = f (e - 1)) : Dd c f g N k (e + 1) where
  keep := fun p h1 h2 => h.keep p (by omega) h2
  str := h.str
  sub := fun p hp => by obtain ⟨j, h1, h2⟩ := h.sub p hp; exact ⟨j, by omega, h2⟩
  sup := fun j hj => by
    by_cases e' : j = e
    · subst e'
      exact ⟨k - 1, by have := h.k1; omega, by rw [h.last, he]⟩
    · exact h.sup j (by omega)
  last := by rw [h.last, Nat.add_sub_cancel, he]
  k1 := h.k1
  ke := by have := h.ke; omega
theorem Dd.ne (T : Tot c) {f g : Nat → α} {N k e : Nat} (h : Dd c f g N k e) (hlt : c (f (e - 1)) (f e) < 0) : Dd c f (upd g k (f e)) N (k + 1) (e + 1) where
  keep := fun p h1 h2 => by
    have := h.ke
    simp only [upd_at]
    split
    · rename_i e'
      have : p = e := by omega
      rw [this]
    · exact h.keep p (by omega) h2
  str := fun p q h1 h2 => by
    have := h.k1
    simp only [upd_at]
    rw [if_neg (c := p = k) (by omega)]
    split
    · rename_i e'
      by_cases e2 : p = k - 1
      · rw [e2, h.last]; exact hlt
      · refine T.trans _ _ _ (h.str p (k - 1) (by omega) (by omega)) ?_
        rw [h.last]; exact hlt
    · exact h.str p q h1 (by omega)
  sub := fun p hp => by
    simp only [upd_at]
    split
    · exact ⟨e, by omega, rfl⟩
    · obtain ⟨j, h1, h2⟩ := h.sub p (by omega)
      exact ⟨j, by omega, h2⟩
  sup := fun j hj => by
    by_cases e' : j = e
    · exact ⟨k, by omega, by simp [upd_at, e']⟩
    · obtain ⟨p, h1, h2⟩ := h.sup j (by omega)
      exact ⟨p, by omega, by simp only [upd_at]; rw [if_neg (by omega)]; exact h2⟩
  last := by simp [upd_at]
  k1 := by omega
  ke := by have := h.ke; omega
theorem upd_self (f : Nat → α) (k : Nat) : upd f k (f k) = f := by
  funext p
  simp only [upd_at]
  split
  · rename_i h; rw [h]
  · rfl
theorem Dd.done (T : Tot c) {f0 f g : Nat → α} {N k : Nat} (h : Dd c f g N k N) (hm : Mv f0 f 0 N) : (List.range k).map g = usort c ((List.range N).map f0) := by
  refine (usort_of T (ssrt_fn h.str) fun x => ?_).symm
  rw [mem_fn, mem_fn]
  constructor
  · rintro ⟨p, h1, rfl⟩
    obtain ⟨j, h2, h3⟩ := h.sub p h1
    obtain ⟨i, h4, h5, h6⟩ := hm.inn (Nat.zero_le j) h2
    exact ⟨i, h5, by rw [h3, h6]⟩
  · rintro ⟨p, h1, rfl⟩
    obtain ⟨j, h2, h3, h4⟩ := hm.symm.inn (Nat.zero_le p) h1
    obtain ⟨i, h5, h6⟩ := h.sup j h3
    exact ⟨i, h5, by rw [h6, h4]⟩

/-! ### an own row as it leaves its call -/
theorem rows1 {β : Type} (C : Cod β) : ∀ (k : Nat) (g : Nat → List β) (cs : List PV), (∀ p, p < k → cs[p]? = some (.sl (rOf C (g p)) .non)) → chunks 1 k cs = rOf (cR C) ((List.range k).map g)
  | 0, _, _, _ => rfl
  | k + 1, g, [], h => by have := h 0 (by omega); cases this
  | k + 1, g, x :: cs, h => by
    have h0 := h 0 (by omega)
    simp only [List.getElem?_cons_zero, Option.some.injEq] at h0
    subst h0
    have ih := rows1 C k (fun p => g (p + 1)) cs fun p hp => by have := h (p + 1) (by omega); simpa using this
    rw [List.range_succ_eq_map, List.map_cons, rOf_cons, List.map_map]
    simp only [chunks, List.take_succ_cons, List.take_zero, List.drop_succ_cons, List.drop_zero, ih]
    rfl
theorem rowsC_1 {β : Type} (C : Cod β) {k : Nat} {g : Nat → List β} {cs : List PV} (h : ∀ p, p < k → cs[p]? = some (.sl (rOf C (g p)) .non)) : rowsC cs 0 k 1 = rOf (cR C) ((List.range k).map g) := rows1 C k g cs h
theorem clrC_get {cs : List PV} {off len : Nat} {z : List PV} (h : off ≤ cs.length) {p : Nat} (hp : p < off) : (clrC cs off len z)[p]? = cs[p]? := by
  unfold clrC
  rw [List.append_assoc, List.getElem?_append_left (by simp; omega), List.getElem?_take]
  simp [hp]
end Go.Pv

/- Rows in order: the place of a thing, what is put in, what lies between, sets. No program in sight. -/
set_option linter.unusedSimpArgs false
set_option linter.unusedVariables false
namespace Go.Pv
variable {α : Type} {c : α → α → Int}
def plN (c : α → α → Int) (x : α) (l : List α) : Nat := l.countP fun y => decide (c y x < 0)
def plB (c : α → α → Int) (x : α) (l : List α) : Bool := l.any fun y => decide (c y x = 0)
def insP (c : α → α → Int) (x : α) (l : List α) : List α := if plB c x l = true then l else l.take (plN c x l) ++ [x] ++ l.drop (plN c x l)
theorem insP_putS (T : Tot c) (x : α) : ∀ l : List α, SSrt c l → insP c x l = putS c x l
  | [], _ => by simp [insP, plB, plN, putS]
  | a :: l, h => by
    have hc := List.pairwise_cons.1 h
    have ih := insP_putS T x l hc.2
    have sw := T.swap a x
    simp only [putS]
    by_cases h1 : c x a < 0
    · rw [if_pos h1]
      have hp : ∀ y ∈ a :: l, 0 < c y x := by
        intro y hy
        rcases List.mem_cons.1 hy with e | e
        · subst e; omega
        · have h2 := T.trans x a y h1 (hc.1 y e)
          have h3 := T.swap y x
          omega
      have hB : plB c x (a :: l) = false := by
        simp only [plB, List.any_eq_false, decide_eq_true_eq]
        intro y hy
        have := hp y hy
        omega
      have hN : plN c x (a :: l) = 0 := by
        simp only [plN, List.countP_eq_zero, decide_eq_true_eq]
        intro y hy
        have := hp y hy
        omega
      unfold insP
      rw [hB, hN]
      simp
    · rw [if_neg h1]
      by_cases h2 : c x a = 0
      · rw [if_pos h2]
        have hB : plB c x (a :: l) = true := by
          have : c a x = 0 := by omega
          simp [plB, this]
        simp [insP, hB]
      · rw [if_neg h2, ← ih]
        have h3 : c a x < 0 := by omega
        have h4 : ¬ c a x = 0 := by omega
        have hB : plB c x (a :: l) = plB c x l := by simp [plB, h4]
        have hN : plN c x (a :: l) = plN c x l + 1 := by simp [plN, List.countP_cons, h3]
        unfold insP
        rw [hB, hN]
        split <;> simp
theorem fold_insP (T : Tot c) : ∀ (l out : List α), SSrt c out → l.foldl (fun o x => insP c x o) out = l.foldl (fun o x => putS c x o) out
  | [], _, _ => rfl
  | a :: l, out, h => by
    simp only [List.foldl_cons]
    rw [insP_putS T a out h]
    exact fold_insP T l _ (ssrt_putS T a out h)
theorem fold_insP_usort (T : Tot c) (l : List α) : l.foldl (fun o x => insP c x o) [] = usort c l := fold_insP T l [] List.Pairwise.nil
theorem putS_len (x : α) : ∀ l : List α, (putS c x l).length ≤ l.length + 1
  | [] => by simp [putS]
  | a :: l => by
    have ih := putS_len x l
    simp only [putS]
    split
    · simp
    · split
      · simp
      · simp only [List.length_cons]; omega
theorem usort_acc_len : ∀ (l out : List α), (l.foldl (fun out x => putS c x out) out).length ≤ l.length + out.length
  | [], out => by simp
  | a :: l, out => by
    have h1 := usort_acc_len l (putS c a out)
    have h2 := putS_len (c := c) a out
    simp only [List.foldl_cons, List.length_cons]
    omega
theorem usort_len (l : List α) : (usort c l).length ≤ l.length := by
  have := usort_acc_len (c := c) l []
  simpa [usort] using this
theorem insP_len (x : α) (l : List α) : (insP c x l).length ≤ l.length + 1 := by
  unfold insP
  split
  · omega
  · simp; omega
theorem plB_iff (T : Tot c) (x : α) (l : List α) : plB c x l = true ↔ x ∈ l := by
  simp only [plB, List.any_eq_true, decide_eq_true_eq]
  constructor
  · rintro ⟨y, hy, h⟩
    have := (T.zero y x).1 h
    subst this
    exact hy
  · intro h
    exact ⟨x, h, T.self x⟩
theorem plB_usort (T : Tot c) (x : α) (l : List α) : plB c x (usort c l) = plB c x l := by
  have h1 := plB_iff T x (usort c l)
  have h2 := plB_iff T x l
  rw [mem_usort T] at h1
  cases e1 : plB c x (usort c l) <;> cases e2 : plB c x l <;> simp_all
/-- The sorted row without what is not kept. -/
theorem usort_filter (T : Tot c) (p : α → Bool) (l : List α) : (usort c l).filter p = usort c (l.filter p) := by
  refine (usort_of T ?_ fun x => ?_).symm
  · exact (ssrt_usort T l).filter p
  · simp only [List.mem_filter, mem_usort T]
theorem usort_idem (T : Tot c) (l : List α) : usort c (usort c l) = usort c l := usort_of T (ssrt_usort T l) fun x => Iff.rfl
theorem usort_congr (T : Tot c) {l m : List α} (h : ∀ x, x ∈ l ↔ x ∈ m) : usort c l = usort c m := usort_of T (ssrt_usort T m) fun x => by rw [mem_usort T, h]
theorem usort_nil : usort c ([] : List α) = [] := rfl

/-! ### beginnings keep the order -/
theorem lex_take {f : α → α → Int} : ∀ (k : Nat) (a b : List α), lex f a b ≤ 0 → lex f (a.take k) (b.take k) ≤ 0
  | 0, a, b, _ => by simp [lex]
  | k + 1, [], b, _ => by cases b <;> simp [lex]
  | k + 1, x :: a, [], h => by simp [lex] at h
  | k + 1, x :: a, y :: b, h => by
    simp only [lex, List.take_succ_cons] at h ⊢
    split
    · rename_i e
      rw [if_pos e] at h
      exact lex_take k a b h
    · rename_i e
      rw [if_neg e] at h
      exact h

/-! ### how often one begins -/
def turnF (s : Nat × Bool) (b : Bool) : Nat × Bool := (if b && !s.2 then s.1 + 1 else s.1, b)
def conv : List Bool → Prop
  | [] => True
  | b :: l => if b = true then l.Pairwise (fun x y => y = true → x = true) else conv l
theorem turns_none : ∀ (l : List Bool) (n : Nat) (w : Bool), (∀ b ∈ l, b = false) → (l.foldl turnF (n, w)).1 = n
  | [], n, w, _ => rfl
  | b :: l, n, w, h => by
    have e : b = false := h b (by simp)
    subst e
    simp only [List.foldl_cons, turnF, Bool.false_and, Bool.false_eq_true, if_false]
    exact turns_none l n false fun b hb => h b (by simp [hb])
theorem turns_down : ∀ (l : List Bool) (n : Nat), l.Pairwise (fun x y => y = true → x = true) → (l.foldl turnF (n, true)).1 = n
  | [], n, _ => rfl
  | b :: l, n, h => by
    have hc := List.pairwise_cons.1 h
    cases b with
    | true =>
      simp only [List.foldl_cons, turnF, Bool.not_true, Bool.and_false, Bool.false_eq_true, if_false]
      exact turns_down l n hc.2
    | false =>
      simp only [List.foldl_cons, turnF, Bool.false_and, Bool.false_eq_true, if_false]
      refine turns_none l n false fun b hb => ?_
      cases b with
      | false => rfl
      | true => exact absurd (hc.1 true hb rfl) (by simp)
theorem turns_le : ∀ (l : List Bool), conv l → (l.foldl turnF (0, false)).1 ≤ 1
  | [], _ => by simp
  | b :: l, h => by
    cases b with
    | true =>
      simp only [conv, if_true] at h
      simp only [List.foldl_cons, turnF, Bool.not_false, Bool.and_true, if_true]
      rw [turns_down l 1 h]
      exact Nat.le_refl _
    | false =>
      simp only [conv, Bool.false_eq_true, if_false] at h
      simp only [List.foldl_cons, turnF, Bool.false_and, Bool.false_eq_true, if_false]
      exact turns_le l h
theorem turnF_le (s : Nat × Bool) (b : Bool) : s.1 ≤ (turnF s b).1 ∧ (turnF s b).1 ≤ s.1 + 1 := by
  unfold turnF
  split <;> simp
theorem turns_bound : ∀ (l : List Bool) (s : Nat × Bool), (l.foldl turnF s).1 ≤ s.1 + l.length
  | [], s => by simp
  | b :: l, s => by
    have h1 := turns_bound l (turnF s b)
    have h2 := (turnF_le s b).2
    simp only [List.foldl_cons, List.length_cons]
    omega
theorem conv_of (T : Tot c) (P : α → Bool) (hP : ∀ a b d, c a b < 0 → c b d < 0 → P a = true → P d = true → P b = true) : ∀ l : List α, SSrt c l → conv (l.map P)
  | [], _ => trivial
  | a :: l, h => by
    have hc := List.pairwise_cons.1 h
    simp only [List.map_cons, conv]
    split
    · rename_i ha
      refine List.pairwise_map.2 ?_
      refine hc.2.imp_of_mem ?_
      intro x y hx hy hxy hPy
      exact hP a x y (hc.1 x hx) hxy ha hPy
    · exact conv_of T P hP l hc.2

/-! ### neighbours -/
def adjL {β : Type} (c : List β → List β → Int) : List (List β) → Bool
  | a :: b :: l => decide (a.length = b.length) && (decide (c a b < 0) && adjL c (b :: l))
  | _ => true
theorem adj_drop {β : Type} (c : List β → List β → Int) (l : List (List β)) (i : Nat) (h : i + 1 < l.length) : adjL c (l.drop i) = (decide (l[i].length = l[i + 1].length) && (decide (c l[i] l[i + 1] < 0) && adjL c (l.drop (i + 1)))) := by
  rw [List.drop_eq_getElem_cons (by omega), List.drop_eq_getElem_cons h]
  rfl
theorem adj_last {β : Type} (c : List β → List β → Int) (l : List (List β)) (i : Nat) (h : l.length ≤ i + 1) : adjL c (l.drop i) = true := by
  by_cases e : i < l.length
  · rw [List.drop_eq_getElem_cons e, List.drop_eq_nil_of_le h]
    rfl
  · rw [List.drop_eq_nil_of_le (by omega)]
    rfl
end Go.Pv

set_option maxHeartbeats 4000000
set_option maxRecDepth 200000
set_option linter.unusedSimpArgs false
set_option linter.unusedVariables false
/-! The place of a tuple, rows in order by putting in, what a relation is, tuples of one width: as the walks give them. -/
namespace Go.Pv
open Go Go.Proofs
/-! ### the place of a tuple -/
def plF (t : List Vl) (s : Nat × Bool) (a : List Vl) : (Nat × Bool) ⊕ (Nat × Bool) := .inl (if lexV a t < 0 then s.1 + 1 else s.1, s.2 || decide (lexV a t = 0))
theorem pl_fold (t : List Vl) : ∀ (l : List (List Vl)) (s : Nat × Bool), foldE (plF t) id l s = (s.1 + plN lexV t l, s.2 || plB lexV t l)
  | [], s => by simp [foldE, plN, plB]
  | a :: l, s => by
    simp only [foldE, plF]
    rw [pl_fold t l]
    simp only [plN, plB, List.countP_cons, List.any_cons, Prod.mk.injEq, Bool.or_assoc, and_true, decide_eq_true_eq]
    split <;> omega
theorem plN_le (t : List Vl) (l : List (List Vl)) : plN lexV t l ≤ l.length := List.countP_le_length
theorem TPlace_loop (l : List (List Vl)) (t : List Vl) (hl : l.length ≤ 1000000) : TPlace1_V [.sl (rOf cV t) .non, .int .i64 0, .bool false, .sl (rOf (cR cV) l) .non, .int .i64 (l.length : Nat), .int .i64 0] ⟨[], [], []⟩ = some (.exit 0, [.int .i64 (plN lexV t l : Nat), .bool (plB lexV t l)], ⟨[], [], []⟩) := by
  have h := loop_foldE0 (l := l) (V := fun i s => TPlace1_V [.sl (rOf cV t) .non, .int .i64 (s.1 : Nat), .bool s.2, .sl (rOf (cR cV) l) .non, .int .i64 (l.length : Nat), .int .i64 (i : Nat)] ⟨[], [], []⟩) (fun i s => s.1 ≤ i) (plF t) id (fun r => some (.exit 0, [.int .i64 (r.1 : Nat), .bool r.2], ⟨[], [], []⟩)) (0, false) (Nat.le_refl _) ?_ ?_
  · rw [pl_fold] at h
    simpa using h
  · intro i s a hs hi ha
    obtain ⟨n, b⟩ := s
    simp only at hs
    have w := inc_i64 (i := i) (by omega)
    have w2 := inc_i64 (i := n) (by omega)
    refine .inl ⟨_, rfl, ?_, ?_⟩
    · simp only
      split <;> omega
    · by_cases hc : lexV a t < 0 <;> cases b <;> simp [TPlace1_E, TPlace1_Tr, ha, hi, w, w2, hc]
  · intro b _
    simp [TPlace1_E, TPlace1_Tr]
theorem TPlace_law (l : List (List Vl)) (t : List Vl) (hl : l.length ≤ 1000000) : TPlace_W (rOf (cR cV) l) (rOf cV t) = some (.tup [.int .i64 (plN lexV t l : Nat), .bool (plB lexV t l)]) := by
  have h := TPlace_loop l t hl
  simp [TPlace_W, TPlace_Tr, TPlace1_is0, TPlace1_n, TPlace1_there, TPlace1_W, h]
theorem RPlace_loop (l : List (List Vl)) (t : List Vl) (hl : l.length ≤ 1000000) : RPlace1_V [.sl (rOf (cR cV) l) .non, .sl (rOf cV t) .non, .int .i64 0, .bool false, .int .i64 0] ⟨[], [], []⟩ = some (.exit 0, [.int .i64 (plN lexV t l : Nat), .bool (plB lexV t l)], ⟨[], [], []⟩) := by
  have h := loop_foldE0 (l := l) (V := fun i s => RPlace1_V [.sl (rOf (cR cV) l) .non, .sl (rOf cV t) .non, .int .i64 (s.1 : Nat), .bool s.2, .int .i64 (i : Nat)] ⟨[], [], []⟩) (fun i s => s.1 ≤ i) (plF t) id (fun r => some (.exit 0, [.int .i64 (r.1 : Nat), .bool r.2], ⟨[], [], []⟩)) (0, false) (Nat.le_refl _) ?_ ?_
  · rw [pl_fold] at h
    simpa using h
  · intro i s a hs hi ha
    obtain ⟨n, b⟩ := s
    simp only at hs
    have w := inc_i64 (i := i) (by omega)
    have w2 := inc_i64 (i := n) (by omega)
    refine .inl ⟨_, rfl, ?_, ?_⟩
    · simp only
      split <;> omega
    · by_cases hc : lexV a t < 0 <;> cases b <;> simp [RPlace1_E, RPlace1_Tr, ha, hi, w, w2, hc]
  · intro b _
    simp [RPlace1_E, RPlace1_Tr]
theorem RPlace_law (l : List (List Vl)) (t : List Vl) (hl : l.length ≤ 1000000) : RPlace_W (rOf (cR cV) l) (rOf cV t) = some (.tup [.int .i64 (plN lexV t l : Nat), .bool (plB lexV t l)]) := by
  have h := RPlace_loop l t hl
  simp [RPlace_W, RPlace_Tr, RPlace1_is0, RPlace1_n, RPlace1_in_, RPlace1_W, h]
/-! ### put in -/
theorem put_law (l : List (List Vl)) (t : List Vl) (hl : l.length ≤ 1000000) : put_W (rOf (cR cV) l) (rOf cV t) = some (.sl (rOf (cR cV) (insP lexV t l)) .non) := by
  have hp := RPlace_law l t hl
  have hn := plN_le t l
  have e0 : RPlace_is0 (rOf (cR cV) l) (rOf cV t) = true := by simp [RPlace_is0, RPlace_n, RPlace_b, hp]
  have e1 : RPlace_b (rOf (cR cV) l) (rOf cV t) = plB lexV t l := by simp [RPlace_b, hp]
  have e2 : RPlace_n (rOf (cR cV) l) (rOf cV t) = (plN lexV t l : Nat) := by simp [RPlace_n, hp]
  unfold put_W put_Tr insP
  generalize plN lexV t l = n at *
  simp only [lockLL_rOf, e0, e1, e2, Tr.run_ite, if_true]
  cases hb : plB lexV t l with
  | true => simp
  | false =>
    have g1 : (min n l.length) * 24 ≤ 140737488355328 := by omega
    have g2 : (min n l.length + 1) * 24 ≤ 140737488355328 := by omega
    have g3 : (min n l.length + 1 + (l.length - n)) * 24 ≤ 140737488355328 := by omega
    have g4 : min n l.length ≤ 140737488355328 := by omega
    have g5 : l.length ≤ 140737488355328 := by omega
    by_cases h1 : (l.take n) = [] <;> by_cases h2 : l.drop n = []
    all_goals
      simp [-List.take_eq_nil_iff, -List.drop_eq_nil_iff, h1, h2, hn]
      try omega
theorem RSorted_loop (l : List (List Vl)) (a : List Vl) (hl : l.length ≤ 1000000) (i : Nat) (b : List (List Vl)) (hb : b.length ≤ i) (hi : i ≤ l.length) : RSorted1_V [.sl (rOf (cR cV) l) .non, .sl (rOf (cR cV) b) .non, .int .i64 (i : Nat)] ⟨[], [], []⟩ = some (.exit 0, [.sl (rOf (cR cV) ((l.drop i).foldl (fun o x => insP lexV x o) b)) .non], ⟨[], [], []⟩) := by
  have hf : ∀ (m b : List (List Vl)), foldE (fun b a => (.inl (insP lexV a b) : List (List Vl) ⊕ List (List Vl))) id m b = m.foldl (fun o x => insP lexV x o) b := by
    intro m
    induction m with
    | nil => intro b; rfl
    | cons x m ih => intro b; simp only [foldE, List.foldl_cons, ih]
  have h := loop_foldE (l := l) (V := fun i b => RSorted1_V [.sl (rOf (cR cV) l) .non, .sl (rOf (cR cV) b) .non, .int .i64 (i : Nat)] ⟨[], [], []⟩) (fun i b => b.length ≤ i) (fun b a => .inl (insP lexV a b)) id (fun r => some (.exit 0, [.sl (rOf (cR cV) r) .non], ⟨[], [], []⟩)) ?_ ?_ i b hb hi
  · rw [hf] at h
    exact h
  · intro i b a hb hi ha
    have w := inc_i64 (i := i) (by omega)
    have hp := put_law b a (by omega)
    have hle := insP_len (c := lexV) a b
    refine .inl ⟨_, rfl, by omega, ?_⟩
    simp [RSorted1_E1, RSorted1_Tr1, ha, hi, w, put_is0, put_r, hp]
  · intro b _
    simp [RSorted1_E1, RSorted1_Tr1]
theorem RSorted_law (l : List (List Vl)) (hl : l.length ≤ 1000000) : RSorted_W (rOf (cR cV) l) = some (.sl (rOf (cR cV) (usort lexV l)) .non) := by
  rw [← fold_insP_usort lexV_tot]
  cases l with
  | nil =>
    have h : RSorted1_V [.sl [] .non, .sl [] .full, .int .i64 0] ⟨[], [], []⟩ = some (.exit 0, [.sl [] .full], ⟨[], [], []⟩) := by simp [RSorted1_E, RSorted1_Tr]
    simp [RSorted_W, RSorted_Tr, RSorted1_is0, RSorted1_out_0, RSorted1_W, h]
  | cons a m =>
    have w : iAdd .i64 0 1 = 1 := by kernel_rfl
    have hp := put_law [] a (by simp)
    have h1 := RSorted_loop (a :: m) a hl 1 (insP lexV a []) (by have := insP_len (c := lexV) a []; simpa using this) (by simp)
    have h : RSorted1_V [.sl (rOf (cR cV) (a :: m)) .non, .sl [] .full, .int .i64 0] ⟨[], [], []⟩ = some (.exit 0, [.sl (rOf (cR cV) ((a :: m).foldl (fun o x => insP lexV x o) [])) .non], ⟨[], [], []⟩) := by
      rw [RSorted1_E]
      simp only [List.drop_succ_cons, List.drop_zero] at h1
      simp only [List.foldl_cons]
      rw [← h1]
      simp at hp
      simp [RSorted1_Tr, put_is0, put_r, hp, w]
    generalize (a :: m).foldl (fun o x => insP lexV x o) [] = r at *
    simp [RSorted_W, RSorted_Tr, RSorted1_is0, RSorted1_is1, RSorted1_out_0, RSorted1_out_1, RSorted1_W, h]
/-! ### tuples of one width -/
def widL (l : List (List Vl)) (n : Nat) : List (List Vl) := l.filter fun t => decide (t.length = n)
theorem width_loop (l : List (List Vl)) (n : Nat) (hl : l.length ≤ 1000000) : width1_V [.sl (rOf (cR cV) l) .non, .int .i64 (n : Nat), .sl [] .full, .int .i64 0] ⟨[], [], []⟩ = some (.exit 0, [.sl (rOf (cR cV) (widL l n)) (aT (widL l n))], aS 1 23 (widL l n)) := by
  have h := loop_acc (l := l) (V := fun i b => width1_V [.sl (rOf (cR cV) l) .non, .int .i64 (n : Nat), .sl (rOf (cR cV) b) (aT b), .int .i64 (i : Nat)] (aS 1 23 b)) (fun a => if (decide (a.length = n)) = true then [a] else []) (fun r => some (.exit 0, [.sl (rOf (cR cV) r) (aT r)], aS 1 23 r)) ?_ ?_
  · rw [flatMap_filter (fun a : List Vl => decide (a.length = n))] at h
    simpa [widL] using h
  · intro i b a hb hi ha
    have w := inc_i64 (i := i) (by omega)
    have hlen : b.length ≤ i := by rw [hb]; exact flatMap_le _ (fun a => by split <;> simp) _ _
    have g1 : (b.length + 1) * 24 ≤ 140737488355328 := by omega
    have g2 : b.length ≤ 140737488355327 := by omega
    rcases aTS_cases 1 23 b with ⟨rfl, h1, h2⟩ | ⟨hne, h1, h2⟩
    · by_cases hm : a.length = n
      · simp [width1_E, width1_Tr, ha, hi, w, hm, one, aT, aS]
      · have hm' : ¬ (a.length : Int) = n := by omega
        simp [width1_E, width1_Tr, ha, hi, w, hm, hm']
    · by_cases hm : a.length = n
      · simp [h1, h2, width1_E1, width1_Tr1, ha, hi, w, hm, one, aT_snoc, aS_snoc, g1, g2]
      · have hm' : ¬ (a.length : Int) = n := by omega
        simp [h1, h2, width1_E1, width1_Tr1, ha, hi, w, hm, hm', g1, g2]
  · intro b hb
    rcases aTS_cases 1 23 b with ⟨rfl, h1, h2⟩ | ⟨hne, h1, h2⟩
    · simp [width1_E, width1_Tr]
    · simp [h1, h2, width1_E1, width1_Tr1]
theorem width_law (l : List (List Vl)) (n : Nat) (hl : l.length ≤ 1000000) : width_W (rOf (cR cV) l) (n : Nat) = some (.sl (rOf (cR cV) (widL l n)) .non) := by
  have h := width_loop l n hl
  unfold width_W width_Tr
  generalize widL l n = r at h
  rcases aTS_cases 1 23 r with ⟨rfl, h1, h2⟩ | ⟨hne, h1, h2⟩
  · try simp at h
    simp [width1_is0, width1_is1, width1_out_0, width1_out_1, width1_k_1, width1_W, h]
  · rw [h1, h2] at h
    try simp at h
    simp [width1_is0, width1_is1, width1_out_0, width1_out_1, width1_k_1, width1_W, h]
/-! ### what a relation is -/
def chkV (t : List Vl) : Int := if t.length ≤ 8 ∧ t.all isVl = true then 0 else 20
theorem chkT_of (t : List Vl) : chkT (rOf cV t) = chkV t := by simp only [chkT, unR_of, chkV]
theorem chkV_cases (t : List Vl) : chkV t = 0 ∨ chkV t = 20 := by unfold chkV; split <;> simp
def relV (l : List (List Vl)) : Int := if 65536 < l.length then 3 else if (l.all fun t => decide (chkV t = 0)) = true then (if adjL lexV l = true then 0 else 21) else 20
def chkF (b : Unit) (a : List Vl) : Unit ⊕ Bool := if chkV a = 0 then .inl () else .inr false
theorem chk_fold : ∀ l : List (List Vl), foldE chkF (fun _ => true) l () = l.all fun t => decide (chkV t = 0)
  | [] => rfl
  | a :: l => by
    have ih := chk_fold l
    by_cases h : chkV a = 0 <;> simp [foldE, chkF, h, ih]
theorem RChk1 (l : List (List Vl)) (hl : l.length ≤ 1000000) : RChkRel1_V [.sl (rOf (cR cV) l) .non, .int .i64 0] ⟨[], [], []⟩ = if (l.all fun t => decide (chkV t = 0)) = true then some (.exit 0, [.sl (rOf (cR cV) l) .non], ⟨[], [], []⟩) else some (.ret, [.int .i64 20], ⟨[], [], []⟩) := by
  have h := loop_foldE0 (l := l) (V := fun i _ => RChkRel1_V [.sl (rOf (cR cV) l) .non, .int .i64 (i : Nat)] ⟨[], [], []⟩) (fun _ _ => True) chkF (fun _ => true) (fun r => if r = true then some (.exit 0, [.sl (rOf (cR cV) l) .non], ⟨[], [], []⟩) else some (.ret, [.int .i64 20], ⟨[], [], []⟩)) () trivial ?_ ?_
  · rw [chk_fold] at h
    exact h
  · intro i b a _ hi ha
    have w := inc_i64 (i := i) (by omega)
    by_cases hc : chkV a = 0
    · exact .inl ⟨(), by simp [chkF, hc], trivial, by simp [RChkRel1_E, RChkRel1_Tr, ha, hi, w, chkT_of, hc]⟩
    · exact .inr ⟨false, by simp [chkF, hc], by simp [RChkRel1_E, RChkRel1_Tr, ha, hi, w, chkT_of, hc]⟩
  · intro b _
    simp [RChkRel1_E, RChkRel1_Tr]
theorem TChk1 (l : List (List Vl)) (hl : l.length ≤ 1000000) : TChkRel1_V [.sl (rOf (cR cV) l) .non, .sl (rOf (cR cV) l) .non, .int .i64 (l.length : Nat), .int .i64 0] ⟨[], [], []⟩ = if (l.all fun t => decide (chkV t = 0)) = true then some (.exit 0, [.sl (rOf (cR cV) l) .non], ⟨[], [], []⟩) else some (.ret, [.int .i64 20], ⟨[], [], []⟩) := by
  have h := loop_foldE0 (l := l) (V := fun i _ => TChkRel1_V [.sl (rOf (cR cV) l) .non, .sl (rOf (cR cV) l) .non, .int .i64 (l.length : Nat), .int .i64 (i : Nat)] ⟨[], [], []⟩) (fun _ _ => True) chkF (fun _ => true) (fun r => if r = true then some (.exit 0, [.sl (rOf (cR cV) l) .non], ⟨[], [], []⟩) else some (.ret, [.int .i64 20], ⟨[], [], []⟩)) () trivial ?_ ?_
  · rw [chk_fold] at h
    exact h
  · intro i b a _ hi ha
    have w := inc_i64 (i := i) (by omega)
    have hcc := chkV_cases a
    by_cases hc : chkV a = 0
    · exact .inl ⟨(), by simp [chkF, hc], trivial, by simp [TChkRel1_E, TChkRel1_Tr, ha, hi, w, chkT_of, hc]⟩
    · have hc2 : chkV a = 20 := by omega
      exact .inr ⟨false, by simp [chkF, hc], by simp [TChkRel1_E, TChkRel1_Tr, ha, hi, w, chkT_of, hc2]⟩
  · intro b _
    simp [TChkRel1_E, TChkRel1_Tr]
theorem dec_i64 {i : Nat} (h : i < 9223372036854775807) : iSub .i64 ((i + 1 : Nat) : Int) 1 = (i : Int) := by
  have : iSub .i64 ((i + 1 : Nat) : Int) 1 = IntKind.wrap .i64 (((i + 1 : Nat) : Int) - 1) := rfl
  rw [this, wrap_i64 (by omega)]
  omega
theorem TChk2 (l : List (List Vl)) (hl : l.length ≤ 1000000) : ∀ (k i : Nat), i + k = l.length → TChkRel2_V [.sl (rOf (cR cV) l) .non, .int .i64 (l.length : Nat), .int .i64 ((i + 1 : Nat) : Int)] ⟨[], [], []⟩ = if adjL lexV (l.drop i) = true then some (.exit 2, [], ⟨[], [], []⟩) else some (.ret, [.int .i64 21], ⟨[], [], []⟩)
  | 0, i, hi => by
    rw [adj_last _ _ _ (by omega), if_pos rfl]
    have : ¬ (((i + 1 : Nat) : Int) < l.length) := by omega
    rw [TChkRel2_E]
    simp only [TChkRel2_Tr, Tr.run_ite, iLt_eq, decide_eq_true_eq, if_neg this, Tr.run_ret, lnext]
  | k + 1, i, hi => by
    by_cases he : i + 1 < l.length
    · have ih := TChk2 l hl k (i + 1) (by omega)
      have w := inc_i64 (i := i + 1) (by omega)
      have d := dec_i64 (i := i) (by omega)
      have h1 : i < l.length := by omega
      rw [adj_drop _ _ _ he]
      have p : (((i + 1 : Nat) : Int) < l.length) := by omega
      have p2 : ((0 : Int) < ((i + 1 : Nat) : Int)) := by omega
      have p3 : 0 < i + 1 := by omega
      by_cases c1 : l[i].length = l[i + 1].length
      · by_cases c2 : lexV l[i] l[i + 1] < 0
        · have c3 : ¬ 0 ≤ lexV l[i] l[i + 1] := by omega
          simp only [c1, c2, decide_true, Bool.true_and, ← ih]
          rw [TChkRel2_E]
          generalize hj : i + 1 = j at *
          simp [TChkRel2_Tr, p, p2, p3, d, w, h1, he, c1, c3]
        · have c3 : 0 ≤ lexV l[i] l[i + 1] := by omega
          simp only [c2, decide_false, Bool.false_and, Bool.and_false]
          rw [TChkRel2_E]
          generalize hj : i + 1 = j at *
          simp [TChkRel2_Tr, p, p2, p3, d, w, h1, he, c1, c3]
      · have c4 : ¬ (l[i].length : Int) = l[i + 1].length := by omega
        simp only [c1, decide_false, Bool.false_and]
        rw [TChkRel2_E]
        generalize hj : i + 1 = j at *
        simp [TChkRel2_Tr, p, p2, p3, d, w, h1, he, c1, c4]
    · rw [adj_last _ _ _ (by omega), if_pos rfl]
      have : ¬ (((i + 1 : Nat) : Int) < l.length) := by omega
      rw [TChkRel2_E]
      simp only [TChkRel2_Tr, Tr.run_ite, iLt_eq, xLen_rOf, decide_eq_true_eq, if_neg this, Tr.run_ret, lnext]
theorem RChk2 (l : List (List Vl)) (hl : l.length ≤ 1000000) (h0 : 0 < l.length) : ∀ (k i : Nat) (hi : i + k = l.length) (hw : ∀ h : i < l.length, l[i].length = l[0].length), RChkRel2_V [.sl (rOf (cR cV) l) .non, .int .i64 ((i + 1 : Nat) : Int)] ⟨[], [], []⟩ = if adjL lexV (l.drop i) = true then some (.exit 2, [], ⟨[], [], []⟩) else some (.ret, [.int .i64 21], ⟨[], [], []⟩)
  | 0, i, hi, hw => by
    rw [adj_last _ _ _ (by omega), if_pos rfl]
    have : ¬ (((i + 1 : Nat) : Int) < l.length) := by omega
    rw [RChkRel2_E]
    simp only [RChkRel2_Tr, Tr.run_ite, iLt_eq, xLen_rOf, decide_eq_true_eq, if_neg this, Tr.run_ret, lnext]
  | k + 1, i, hi, hw => by
    by_cases he : i + 1 < l.length
    · have h1 : i < l.length := by omega
      have hw1 := hw h1
      have w := inc_i64 (i := i + 1) (by omega)
      have d := dec_i64 (i := i) (by omega)
      rw [adj_drop _ _ _ he]
      have p : (((i + 1 : Nat) : Int) < l.length) := by omega
      by_cases c1 : l[i].length = l[i + 1].length
      · have c1' : l[i + 1].length = l[0].length := by omega
        have ih := RChk2 l hl h0 k (i + 1) (by omega) (fun _ => c1')
        by_cases c2 : lexV l[i] l[i + 1] < 0
        · have c3 : ¬ 0 ≤ lexV l[i] l[i + 1] := by omega
          simp only [c1, c2, decide_true, Bool.true_and, ← ih]
          rw [RChkRel2_E]
          generalize hj : i + 1 = j at *
          simp [RChkRel2_Tr, p, d, w, h0, h1, he, c1', c3]
        · have c3 : 0 ≤ lexV l[i] l[i + 1] := by omega
          simp only [c2, decide_false, Bool.false_and, Bool.and_false]
          rw [RChkRel2_E]
          generalize hj : i + 1 = j at *
          simp [RChkRel2_Tr, p, d, w, h0, h1, he, c1', c3]
      · have c4 : ¬ l[i + 1].length = l[0].length := by omega
        have c5 : ¬ (l[i + 1].length : Int) = l[0].length := by omega
        simp only [c1, decide_false, Bool.false_and]
        rw [RChkRel2_E]
        generalize hj : i + 1 = j at *
        simp [RChkRel2_Tr, p, d, w, h0, h1, he, c4, c5]
    · rw [adj_last _ _ _ (by omega), if_pos rfl]
      have : ¬ (((i + 1 : Nat) : Int) < l.length) := by omega
      rw [RChkRel2_E]
      simp only [RChkRel2_Tr, Tr.run_ite, iLt_eq, xLen_rOf, decide_eq_true_eq, if_neg this, Tr.run_ret, lnext]
theorem RChkRel_law (l : List (List Vl)) (hl : l.length ≤ 1000000) : RChkRel_W (rOf (cR cV) l) = some (.int .i64 (relV l)) := by
  have h1 := RChk1 l hl
  unfold RChkRel_W RChkRel_Tr relV
  by_cases hm : 65536 < l.length
  · have hm' : (65536 : Int) < l.length := by omega
    simp [hm, hm']
  · have hm' : ¬ (65536 : Int) < l.length := by omega
    cases ha : l.all fun t => decide (chkV t = 0) with
    | false =>
      rw [ha] at h1
      simp only [Bool.false_eq_true, if_false] at h1 ⊢
      simp [hm, hm', RChkRel1_is0, RChkRel1_n_0, RChkRel1_W, h1]
    | true =>
      rw [ha] at h1
      simp only [if_true] at h1 ⊢
      have h2 : RChkRel2_V [.sl (rOf (cR cV) l) .non, .int .i64 1] ⟨[], [], []⟩ = if adjL lexV l = true then some (.exit 2, [], ⟨[], [], []⟩) else some (.ret, [.int .i64 21], ⟨[], [], []⟩) := by
        by_cases h0 : 0 < l.length
        · have := RChk2 l hl h0 l.length 0 (by omega) (fun _ => rfl)
          simpa using this
        · have : l = [] := List.length_eq_zero_iff.1 (by omega)
          subst this
          rw [RChkRel2_E]
          simp [RChkRel2_Tr, adjL]
      cases hj : adjL lexV l with
      | true =>
        rw [hj, if_pos rfl] at h2
        simp [hm, hm', RChkRel1_is0, RChkRel1_is1, RChkRel1_n_0, RChkRel1_l_1, RChkRel1_W, h1, RChkRel2_is0, RChkRel2_is1, RChkRel2_n_0, RChkRel2_W, h2]
      | false =>
        rw [hj] at h2
        simp only [Bool.false_eq_true, if_false] at h2
        simp [hm, hm', RChkRel1_is0, RChkRel1_is1, RChkRel1_n_0, RChkRel1_l_1, RChkRel1_W, h1, RChkRel2_is0, RChkRel2_is1, RChkRel2_n_0, RChkRel2_W, h2]
theorem TChkRel_law (l : List (List Vl)) (hl : l.length ≤ 1000000) : TChkRel_W (rOf (cR cV) l) = some (.int .i64 (relV l)) := by
  have h1 := TChk1 l hl
  unfold TChkRel_W TChkRel_Tr relV
  by_cases hm : 65536 < l.length
  · have hm' : (65536 : Int) < l.length := by omega
    simp [hm, hm']
  · have hm' : ¬ (65536 : Int) < l.length := by omega
    cases ha : l.all fun t => decide (chkV t = 0) with
    | false =>
      rw [ha] at h1
      simp only [Bool.false_eq_true, if_false] at h1 ⊢
      simp [hm, hm', TChkRel1_is0, TChkRel1_n_0, TChkRel1_W, h1]
    | true =>
      rw [ha] at h1
      simp only [if_true] at h1 ⊢
      have h2 : TChkRel2_V [.sl (rOf (cR cV) l) .non, .int .i64 (l.length : Nat), .int .i64 0] ⟨[], [], []⟩ = if adjL lexV l = true then some (.exit 2, [], ⟨[], [], []⟩) else some (.ret, [.int .i64 21], ⟨[], [], []⟩) := by
        have h := TChk2 l hl l.length 0 (by omega)
        by_cases h0 : 0 < l.length
        · simp only [List.drop_zero] at h
          rw [← h, TChkRel2_E]
          have w : iAdd .i64 0 1 = 1 := by kernel_rfl
          simp [TChkRel2_Tr, h0, w]
        · have : l = [] := List.length_eq_zero_iff.1 (by omega)
          subst this
          rw [TChkRel2_E]
          simp [TChkRel2_Tr, adjL]
      cases hj : adjL lexV l with
      | true =>
        rw [hj, if_pos rfl] at h2
        simp [hm, hm', TChkRel1_is0, TChkRel1_is1, TChkRel1_n_0, TChkRel1_l_1, TChkRel1_W, h1, TChkRel2_is0, TChkRel2_is1, TChkRel2_n_0, TChkRel2_W, h2]
      | false =>
        rw [hj] at h2
        simp only [Bool.false_eq_true, if_false] at h2
        simp [hm, hm', TChkRel1_is0, TChkRel1_is1, TChkRel1_n_0, TChkRel1_l_1, TChkRel1_W, h1, TChkRel2_is0, TChkRel2_is1, TChkRel2_n_0, TChkRel2_W, h2]
end Go.Pv

set_option maxHeartbeats 4000000
set_option maxRecDepth 200000
set_option linter.unusedSimpArgs false
set_option linter.unusedVariables false
namespace Go.Pv
open Go Go.Proofs
noncomputable def G_srt : GamT := ofL [(16, .pure F_TCmp), (82, .store D_cln), (83, .store D_ssf), (84, .store D_cpt), (85, .pure F_eq85)]
theorem gok_srt (gl : Nat → Option Obj) : GamOk Tryd.prog gl (gam G_srt) := (gamOk_cons (sim_TCmp gl) (gamOk_store (sim_cln gl) (gamOk_store (sim_ssf gl) (gamOk_store (sim_cpt gl) (gamOk_cons (sim_eq85 gl) gamOk_nil)))))
noncomputable def L_srt : LpsT := fun r fr σ => .fail
noncomputable def srt_Tr (l : List (List PV)) : Tr PV := Tr.ite (cln_is0 l [PV.sl l .own, PV.fn 16 []]) Tr.fail (Tr.ite (cln_is1 l [PV.sl l .own, PV.fn 16 []]) (Tr.ite (ssf_is0 (cln_o_1 l [PV.sl l .own, PV.fn 16 []]) (cln_m_1 l [PV.sl l .own, PV.fn 16 []]) [PV.sl l .own, PV.fn 16 []] (cln_l2_1 l [PV.sl l .own, PV.fn 16 []]) [] [] []) (Tr.ite (cpt_is0 (cln_o_1 l [PV.sl l .own, PV.fn 16 []]) (cln_m_1 l [PV.sl l .own, PV.fn 16 []]) l (ssf_l2 (cln_o_1 l [PV.sl l .own, PV.fn 16 []]) (cln_m_1 l [PV.sl l .own, PV.fn 16 []]) [PV.sl l .own, PV.fn 16 []] (cln_l2_1 l [PV.sl l .own, PV.fn 16 []]) [] [] []) [] [] []) (Tr.ite (okOff (cpt_l (cln_o_1 l [PV.sl l .own, PV.fn 16 []]) (cln_m_1 l [PV.sl l .own, PV.fn 16 []]) l (ssf_l2 (cln_o_1 l [PV.sl l .own, PV.fn 16 []]) (cln_m_1 l [PV.sl l .own, PV.fn 16 []]) [PV.sl l .own, PV.fn 16 []] (cln_l2_1 l [PV.sl l .own, PV.fn 16 []]) [] [] []) [] [] []) (cpt_o (cln_o_1 l [PV.sl l .own, PV.fn 16 []]) (cln_m_1 l [PV.sl l .own, PV.fn 16 []]) l (ssf_l2 (cln_o_1 l [PV.sl l .own, PV.fn 16 []]) (cln_m_1 l [PV.sl l .own, PV.fn 16 []]) [PV.sl l .own, PV.fn 16 []] (cln_l2_1 l [PV.sl l .own, PV.fn 16 []]) [] [] []) [] [] []) (pOff 0 (cpt_m (cln_o_1 l [PV.sl l .own, PV.fn 16 []]) (cln_m_1 l [PV.sl l .own, PV.fn 16 []]) l (ssf_l2 (cln_o_1 l [PV.sl l .own, PV.fn 16 []]) (cln_m_1 l [PV.sl l .own, PV.fn 16 []]) [PV.sl l .own, PV.fn 16 []] (cln_l2_1 l [PV.sl l .own, PV.fn 16 []]) [] [] []) [] [] []) 1)) (Tr.ret (PV.sl (shutLL (rowsC (cpt_l (cln_o_1 l [PV.sl l .own, PV.fn 16 []]) (cln_m_1 l [PV.sl l .own, PV.fn 16 []]) l (ssf_l2 (cln_o_1 l [PV.sl l .own, PV.fn 16 []]) (cln_m_1 l [PV.sl l .own, PV.fn 16 []]) [PV.sl l .own, PV.fn 16 []] (cln_l2_1 l [PV.sl l .own, PV.fn 16 []]) [] [] []) [] [] []) (cpt_o (cln_o_1 l [PV.sl l .own, PV.fn 16 []]) (cln_m_1 l [PV.sl l .own, PV.fn 16 []]) l (ssf_l2 (cln_o_1 l [PV.sl l .own, PV.fn 16 []]) (cln_m_1 l [PV.sl l .own, PV.fn 16 []]) [PV.sl l .own, PV.fn 16 []] (cln_l2_1 l [PV.sl l .own, PV.fn 16 []]) [] [] []) [] [] [])
 (cpt_m (cln_o_1 l [PV.sl l .own, PV.fn 16 []]) (cln_m_1 l [PV.sl l .own, PV.fn 16 []]) l (ssf_l2 (cln_o_1 l [PV.sl l .own, PV.fn 16 []]) (cln_m_1 l [PV.sl l .own, PV.fn 16 []]) [PV.sl l .own, PV.fn 16 []] (cln_l2_1 l [PV.sl l .own, PV.fn 16 []]) [] [] []) [] [] []) 1)) .non)) Tr.fail) Tr.fail) Tr.fail) Tr.fail)
theorem srt_T (l : List (List PV)) : (tcall tbT G_srt L_srt Tryd.f61 [.agg [.sl l .own, .fn 16 []]]).flat = srt_Tr l := by kernel_rfl
noncomputable def srt_W (l : List (List PV)) : Option PV := (srt_Tr l).run
noncomputable def srt_r (l : List (List PV)) : List (List PV) := (gRow (gVal (srt_W l)))
noncomputable def srt_is0 (l : List (List PV)) : Bool := isW (srt_W l) (.sl (srt_r l) .non)
noncomputable def F_srt : List PV → Tr PV | [.agg [.sl l .own, .fn 16 []]] => .ite (srt_is0 l) (.ret (.sl (srt_r l) .non)) (.fail) | _ => .fail
theorem sim_srt (gl : Nat → Option Obj) : SimP Tryd.prog gl 61 fun args => (F_srt args).run := by
  refine SimP.of_flat (G := G_srt) (L := L_srt) tbT_ok (gok_srt gl ) noMixed Tryd.func61 rfl (by rfl) (by kernel_rfl) (loopOk_none (by kernel_rfl)) ?_
  intro args x h
  unfold F_srt at h
  split at h
  · exact (congrArg Tr.run (srt_T _)).trans (ite_isW h fun h => by cases h)
  · cases h
end Go.Pv

set_option maxHeartbeats 8000000
set_option maxRecDepth 200000
set_option linter.unusedSimpArgs false
set_option linter.unusedVariables false
/-! What a stable sort makes of a row. -/
namespace Go.Pv
open Go Go.Proofs
theorem mul_2N {a : Nat} (h : 2 * a ≤ 9223372036854775807) : iMul .i64 2 (a : Int) = ((2 * a : Nat) : Int) := by
  unfold iMul; rw [wrap_i64 (by omega)]; omega
theorem mul_N2 {a : Nat} (h : 2 * a ≤ 9223372036854775807) : iMul .i64 (a : Int) 2 = ((2 * a : Nat) : Int) := by
  unfold iMul; rw [wrap_i64 (by omega)]; omega
/-- Blocks of s, each in order, up to hi. -/
def Bl (f : Nat → List Vl) (s hi : Nat) : Prop := ∀ t, Srt cT f (t * s) (min (t * s + s) hi)
theorem Bl.next {f f' : Nat → List Vl} {s t hi : Nat} (h : Bl f s (t * s)) (hs : t * s ≤ hi) (h2 : hi ≤ t * s + s) (hm : Mv f f' (t * s) hi) (ho : Srt cT f' (t * s) hi) : Bl f' s hi := by
  intro u p q h3 h4 h5
  by_cases e : u = t
  · subst e
    exact ho p q h3 h4 (by omega)
  · by_cases e' : u < t
    · have e2 : (u + 1) * s ≤ t * s := Nat.mul_le_mul_right s e'
      have e3 : (u + 1) * s = u * s + s := Nat.succ_mul u s
      rw [hm.out (by omega), hm.out (by omega)]
      exact h u p q h3 h4 (by omega)
    · have e2 : (t + 1) * s ≤ u * s := Nat.mul_le_mul_right s (by omega)
      have e3 : (t + 1) * s = t * s + s := Nat.succ_mul t s
      omega
section
variable (T : Tot cT) (c0 : List PV) (rest : List (List PV)) (toks : List (Nat × Nat × TypeId)) (tys : List TypeId)
include T
theorem stb1_law (f0 : Nat → List Vl) (N s : Nat) (hs : 0 < s) (hs2 : s ≤ N + 20) (hN : N ≤ 1152921504606846975) : ∀ k t : Nat, ∀ f : Nat → List Vl, N - t * s ≤ k → t * s ≤ N → Bl f s (t * s) → Mv f0 f 0 N →
    ∃ t' : Nat, ∃ f', stb1_V [.osl 1 0 N 1, .int .i64 N, .fn 16 [], .int .i64 s, .int .i64 ((t * s : Nat) : Int), .int .i64 ((t * s + s : Nat) : Int)] (sT c0 rest toks tys f N) =
      some (.exit 0, [.osl 1 0 N 1, .int .i64 N, .fn 16 [], .int .i64 s, .int .i64 ((t' * s : Nat) : Int)], sT c0 rest toks tys f' N) ∧ t' * s ≤ N ∧ N < t' * s + s ∧ Bl f' s (t' * s) ∧ Mv f0 f' 0 N := by
  intro k
  induction k with
  | zero =>
    intro t f h1 h2 h3 h4
    refine ⟨t, f, ?_, h2, by omega, h3, h4⟩
    have c1 : ¬ t * s + s ≤ N := by omega
    simp only [sT]
    rw [stb1_E]
    unfold stb1_Tr
    simp only [iLe_N, c1, decide_false, Bool.false_eq_true, if_false, Tr.run_ite, Tr.run_ret, lnext_out]
  | succ k ih =>
    intro t f h1 h2 h3 h4
    by_cases c1 : t * s + s ≤ N
    · obtain ⟨f1, e1, e2, e3, e4⟩ := ins_law f T N (t * s) (t * s + s) c0 rest toks tys c1 h2 (by omega)
      have et : (t + 1) * s = t * s + s := Nat.succ_mul t s
      obtain ⟨t', f', g1, g2, g3, g4, g5⟩ := ih (t + 1) f1 (by omega) (by omega) (by rw [et]; exact h3.next (by omega) (by omega) e4 e3) (h4.trans (e4.mono (by omega) c1))
      refine ⟨t', f', ?_, g2, g3, g4, g5⟩
      rw [← g1]
      simp only [sT]
      rw [stb1_E]
      unfold stb1_Tr
      simp only [iLe_N, c1, e1, e2, add_N (a := t * s + s) (b := s) (by omega), et, decide_true, if_true, Tr.run_ite, Tr.run_ret, lnext_next]
    · refine ⟨t, f, ?_, h2, by omega, h3, h4⟩
      simp only [sT]
      rw [stb1_E]
      unfold stb1_Tr
      simp only [iLe_N, c1, decide_false, Bool.false_eq_true, if_false, Tr.run_ite, Tr.run_ret, lnext_out]
/-- Blocks of s from a on. -/
def Blf (f : Nat → List Vl) (s lo hi : Nat) : Prop := ∀ u, lo ≤ u * s → Srt cT f (u * s) (min (u * s + s) hi)
omit T in
theorem Blf.next {f f' : Nat → List Vl} {s lo lo' hi x : Nat} (h : Blf f s lo hi) (hl : lo ≤ lo') (hm : Mv f f' x lo') : Blf f' s lo' hi := by
  intro u h1 p q h3 h4 h5
  rw [hm.out (by omega), hm.out (by omega)]
  exact h u (by omega) p q h3 h4 h5
theorem stb3_law (f0 : Nat → List Vl) (N s : Nat) (hs : 0 < s) (hs2 : s ≤ N) (hN : N ≤ 1152921504606846975) : ∀ k t : Nat, ∀ f : Nat → List Vl, N - t * (2 * s) ≤ k → t * (2 * s) ≤ N → Bl f (2 * s) (t * (2 * s)) → Blf f s (t * (2 * s)) N → Mv f0 f 0 N →
    ∃ t' : Nat, ∃ f', stb3_V [.osl 1 0 N 1, .int .i64 N, .fn 16 [], .int .i64 s, .int .i64 ((t * (2 * s) : Nat) : Int), .int .i64 ((t * (2 * s) + 2 * s : Nat) : Int)] (sT c0 rest toks tys f N) =
      some (.exit 4, [.osl 1 0 N 1, .int .i64 N, .fn 16 [], .int .i64 s, .int .i64 ((t' * (2 * s) : Nat) : Int)], sT c0 rest toks tys f' N) ∧ t' * (2 * s) ≤ N ∧ N < t' * (2 * s) + 2 * s ∧ Bl f' (2 * s) (t' * (2 * s)) ∧ Blf f' s (t' * (2 * s)) N ∧ Mv f0 f' 0 N := by
  intro k
  induction k with
  | zero =>
    intro t f h1 h2 h3 h3' h4
    refine ⟨t, f, ?_, h2, by omega, h3, h3', h4⟩
    have c1 : ¬ t * (2 * s) + 2 * s ≤ N := by omega
    simp only [sT]
    rw [stb3_E]
    unfold stb3_Tr
    simp only [iLe_N, c1, decide_false, Bool.false_eq_true, if_false, Tr.run_ite, Tr.run_ret, lnext_out]
  | succ k ih =>
    intro t f h1 h2 h3 h3' h4
    have eu : (2 * t) * s = t * (2 * s) := by rw [Nat.mul_comm 2 t, Nat.mul_assoc]
    have eu1 : (2 * t + 1) * s = t * (2 * s) + s := by rw [Nat.succ_mul, eu]
    by_cases c1 : t * (2 * s) + 2 * s ≤ N
    · have hA : Srt cT f (t * (2 * s)) (t * (2 * s) + s) := by
        have := h3' (2 * t) (by omega)
        rw [eu, Nat.min_eq_left (by omega)] at this
        exact this
      have hB : Srt cT f (t * (2 * s) + s) (t * (2 * s) + 2 * s) := by
        have := h3' (2 * t + 1) (by omega)
        rw [eu1, Nat.min_eq_left (by omega)] at this
        have e : t * (2 * s) + s + s = t * (2 * s) + 2 * s := by omega
        rw [e] at this
        exact this
      obtain ⟨f1, e1, e2, e3, e4⟩ := sm_law T c0 rest toks tys N (by omega) f (t * (2 * s)) (t * (2 * s) + s) (t * (2 * s) + 2 * s) (by omega) (by omega) c1 hA hB
      have et : (t + 1) * (2 * s) = t * (2 * s) + 2 * s := Nat.succ_mul t (2 * s)
      obtain ⟨t', f', g1, g2, g3, g4, g4', g5⟩ := ih (t + 1) f1 (by omega) (by omega) (by rw [et]; exact h3.next (by omega) (by omega) e4 e3) (by rw [et]; exact h3'.next (by omega) e4) (h4.trans (e4.mono (by omega) c1))
      refine ⟨t', f', ?_, g2, g3, g4, g4', g5⟩
      rw [← g1]
      simp only [sT]
      rw [stb3_E]
      unfold stb3_Tr
      simp only [iLe_N, c1, add_N (a := t * (2 * s)) (b := s) (by omega), mul_2N (a := s) (by omega), e1, e2, add_N (a := t * (2 * s) + 2 * s) (b := 2 * s) (by omega), et, decide_true, if_true, Tr.run_ite, Tr.run_ret, lnext_next]
    · refine ⟨t, f, ?_, h2, by omega, h3, h3', h4⟩
      simp only [sT]
      rw [stb3_E]
      unfold stb3_Tr
      simp only [iLe_N, c1, decide_false, Bool.false_eq_true, if_false, Tr.run_ite, Tr.run_ret, lnext_out]
theorem stb2_law (f0 : Nat → List Vl) (N : Nat) (hN : N ≤ 1152921504606846975) : ∀ k s : Nat, ∀ f : Nat → List Vl, N - s ≤ k → 0 < s → Bl f s N → Mv f0 f 0 N →
    ∃ f', stb2_V [.osl 1 0 N 1, .int .i64 N, .fn 16 [], .int .i64 s] (sT c0 rest toks tys f N) = some (.exit 2, [], sT c0 rest toks tys f' N) ∧ Srt cT f' 0 N ∧ Mv f0 f' 0 N := by
  intro k
  induction k with
  | zero =>
    intro s f h1 h2 h3 h4
    have c1 : ¬ s < N := by omega
    refine ⟨f, ?_, ?_, h4⟩
    · simp only [sT]
      rw [stb2_E]
      unfold stb2_Tr
      simp only [iLt_N, c1, decide_false, Bool.false_eq_true, if_false, Tr.run_ite, Tr.run_ret, lnext_out]
    · have := h3 0
      rw [Nat.zero_mul, Nat.zero_add, Nat.min_eq_right (by omega)] at this
      exact this
  | succ k ih =>
    intro s f h1 h2 h3 h4
    by_cases c1 : s < N
    · obtain ⟨t, f1, g1, g2, g3, g4, g5, g6⟩ := stb3_law T c0 rest toks tys f0 N s h2 (by omega) hN N 0 f (by omega) (by omega) (by rw [Nat.zero_mul]; intro u p q _ _ h; omega) (fun u _ => h3 u) h4
      rw [Nat.zero_mul, Nat.zero_add] at g1
      have w : stb3_W 0 N N s 0 ((2 * s : Nat) : Int) c0 (oA cV f N) rest toks tys = _ := g1
      have a1 : stb3_a 0 N N s 0 ((2 * s : Nat) : Int) c0 (oA cV f N) rest toks tys = ((t * (2 * s) : Nat) : Int) := by rw [stb3_a, w]; rfl
      have a2 : stb3_l2 0 N N s 0 ((2 * s : Nat) : Int) c0 (oA cV f N) rest toks tys = oA cV f1 N := by rw [stb3_l2, w]; rfl
      have a3 : stb3_is0 0 N N s 0 ((2 * s : Nat) : Int) c0 (oA cV f N) rest toks tys = true := by rw [stb3_is0, w, a1, a2]; simp [sT]
      have eu : (2 * t) * s = t * (2 * s) := by rw [Nat.mul_comm 2 t, Nat.mul_assoc]
      have eu1 : (2 * t + 1) * s = t * (2 * s) + s := by rw [Nat.succ_mul, eu]
      by_cases c2 : t * (2 * s) + s < N
      · have hA : Srt cT f1 (t * (2 * s)) (t * (2 * s) + s) := by
          have := g5 (2 * t) (by omega)
          rw [eu, Nat.min_eq_left (by omega)] at this
          exact this
        have hB : Srt cT f1 (t * (2 * s) + s) N := by
          have := g5 (2 * t + 1) (by omega)
          rw [eu1, Nat.min_eq_right (by omega)] at this
          exact this
        obtain ⟨f2, e1, e2, e3, e4⟩ := sm_law T c0 rest toks tys N (by omega) f1 (t * (2 * s)) (t * (2 * s) + s) N (by omega) c2 (Nat.le_refl _) hA hB
        obtain ⟨f', b1, b2, b3⟩ := ih (2 * s) f2 (by omega) (by omega) (g4.next (by omega) (by omega) e4 e3) (g6.trans (e4.mono (by omega) (Nat.le_refl _)))
        refine ⟨f', ?_, b2, b3⟩
        rw [← b1]
        simp only [sT]
        rw [stb2_E]
        unfold stb2_Tr
        simp only [iLt_N, c1, c2, mul_2N (a := s) (by omega), mul_N2 (a := s) (by omega), a1, a2, a3, add_N (a := t * (2 * s)) (b := s) (by omega), e1, e2, decide_true, if_true, Tr.run_ite, Tr.run_ret, lnext_next]
      · have hA : Srt cT f1 (t * (2 * s)) N := by
          have := g5 (2 * t) (by omega)
          rw [eu, Nat.min_eq_right (by omega)] at this
          exact this
        obtain ⟨f', b1, b2, b3⟩ := ih (2 * s) f1 (by omega) (by omega) (g4.next (by omega) (by omega) (Mv.refl _ _ _) hA) g6
        refine ⟨f', ?_, b2, b3⟩
        rw [← b1]
        simp only [sT]
        rw [stb2_E]
        unfold stb2_Tr
        simp only [iLt_N, c1, c2, mul_2N (a := s) (by omega), mul_N2 (a := s) (by omega), a1, a2, a3, add_N (a := t * (2 * s)) (b := s) (by omega), decide_true, decide_false, Bool.false_eq_true, if_false, if_true, Tr.run_ite, Tr.run_ret, lnext_next]
    · refine ⟨f, ?_, ?_, h4⟩
      · simp only [sT]
        rw [stb2_E]
        unfold stb2_Tr
        simp only [iLt_N, c1, decide_false, Bool.false_eq_true, if_false, Tr.run_ite, Tr.run_ret, lnext_out]
      · have := h3 0
        rw [Nat.zero_mul, Nat.zero_add, Nat.min_eq_right (by omega)] at this
        exact this
theorem ssf_law (f : Nat → List Vl) (N : Nat) (hN : N ≤ 1152921504606846975) :
    ∃ f', ssf_is0 0 N c0 (oA cV f N) rest toks tys = true ∧ ssf_l2 0 N c0 (oA cV f N) rest toks tys = oA cV f' N ∧ Srt cT f' 0 N ∧ Mv f f' 0 N := by
  obtain ⟨t, f1, g1, g2, g3, g4, g5⟩ := stb1_law T c0 rest toks tys f N 20 (by omega) (by omega) hN N 0 f (by omega) (by omega) (by rw [Nat.zero_mul]; intro u p q _ _ h; omega) (Mv.refl _ _ _)
  rw [Nat.zero_mul, Nat.zero_add] at g1
  have w : stb1_W 0 N N 20 0 20 c0 (oA cV f N) rest toks tys = _ := g1
  have a1 : stb1_a 0 N N 20 0 20 c0 (oA cV f N) rest toks tys = ((t * 20 : Nat) : Int) := by rw [stb1_a, w]; rfl
  have a2 : stb1_l2 0 N N 20 0 20 c0 (oA cV f N) rest toks tys = oA cV f1 N := by rw [stb1_l2, w]; rfl
  have a3 : stb1_is0 0 N N 20 0 20 c0 (oA cV f N) rest toks tys = true := by rw [stb1_is0, w, a1, a2]; simp [sT]
  obtain ⟨f2, e1, e2, e3, e4⟩ := ins_law f1 T N (t * 20) N c0 rest toks tys (Nat.le_refl _) g2 (by omega)
  obtain ⟨f3, b1, b2, b3⟩ := stb2_law T c0 rest toks tys f N hN N 20 f2 (by omega) (by omega) (g4.next (by omega) (by omega) e4 e3) (g5.trans (e4.mono (by omega) (Nat.le_refl _)))
  have w2 : stb2_W 0 N N 20 c0 (oA cV f2 N) rest toks tys = _ := b1
  have d2 : stb2_l2 0 N N 20 c0 (oA cV f2 N) rest toks tys = oA cV f3 N := by rw [stb2_l2, w2]; rfl
  have d3 : stb2_is0 0 N N 20 c0 (oA cV f2 N) rest toks tys = true := by rw [stb2_is0, w2, d2]; simp [sT]
  have hw : stb_W 0 N N c0 (oA cV f N) rest toks tys = some (.tup [], sT c0 rest toks tys f3 N) := by
    unfold stb_W stb_Tr
    simp only [a1, a2, a3, e1, e2, d2, d3, if_true, Tr.run_ite, Tr.run_ret]
  have k2 : stb_l2 0 N N c0 (oA cV f N) rest toks tys = oA cV f3 N := by rw [stb_l2, hw]; rfl
  have k3 : stb_is0 0 N N c0 (oA cV f N) rest toks tys = true := by rw [stb_is0, k2, hw]; simp [sT]
  have hs : ssf_W 0 N c0 (oA cV f N) rest toks tys = some (.tup [], sT c0 rest toks tys f3 N) := by
    unfold ssf_W ssf_Tr oLen
    simp only [k2, k3, if_true, Tr.run_ite, Tr.run_ret]
  have k4 : ssf_l2 0 N c0 (oA cV f N) rest toks tys = oA cV f3 N := by rw [ssf_l2, hs]; rfl
  exact ⟨f3, by rw [ssf_is0, k4, hs]; simp [sT], k4, b2, b3⟩
end
end Go.Pv

set_option maxHeartbeats 8000000
set_option maxRecDepth 200000
set_option linter.unusedSimpArgs false
set_option linter.unusedVariables false
/-! What is left of a row in order when each is there once. -/
namespace Go.Pv
open Go Go.Proofs
theorem iEq_0 (x : Int) : iEq x 0 = decide (x = 0) := by
  unfold iEq
  by_cases h : x = 0 <;> simp [h]
theorem pOff_1 (o a : Nat) : pOff o a 1 = o + a := by unfold pOff; omega
theorem oLen_N (n : Nat) : oLen n = (n : Int) := rfl
theorem nSub_N (a b : Nat) : nSub a b = a - b := rfl
theorem okPos_N (a : Nat) : okPos (a : Int) = true := by simp [okPos]
section
variable (T : Tot cT) (r : List (List PV)) (rest : List (List PV)) (toks : List (Nat × Nat × TypeId)) (tys : List TypeId)
abbrev sO : List PV := [.sl r .own, .fn 16 []]
include T
theorem cpt2_law (f : Nat → List Vl) (N k0 : Nat) (hk0 : 1 ≤ k0) (hk1 : k0 < N) (hN : N ≤ 1152921504606846975) (hS : Srt cT f 0 N) : ∀ d e : Nat, e + d = N → k0 + 1 ≤ e → ∀ (k : Nat) (g : Nat → List Vl), k0 ≤ k → k < e → Dd cT f g N k e →
    ∃ k' : Nat, ∃ g', cpt2_V [.osl 1 0 N 1, .fn 85 [.ptr 0 0], .int .i64 k, .osl 1 k0 (N - k0) 1, .int .i64 ((e - k0 : Nat) : Int)] (sT (sO r) rest toks tys g N) =
      some (.exit 2, [.osl 1 0 N 1, .int .i64 k'], sT (sO r) rest toks tys g' N) ∧ k' < N ∧ Dd cT f g' N k' N := by
  intro d
  induction d with
  | zero =>
    intro e h1 h2 k g h3 h4 h5
    have ee : e = N := by omega
    subst ee
    refine ⟨k, g, ?_, h4, h5⟩
    simp only [sT, sO]
    rw [cpt2_E]
    unfold cpt2_Tr
    simp only [oLen_N, iLt_N, Nat.lt_irrefl, decide_false, Bool.false_eq_true, if_false, Tr.run_ite, Tr.run_ret, lnext_out]
  | succ d ih =>
    intro e h1 h2 k g h3 h4 h5
    have q1 : e - k0 < N - k0 := by omega
    have q2 : e - k0 - 1 < N - k0 := by omega
    have q3 : k0 + (e - k0) = e := by omega
    have q4 : k0 + (e - k0 - 1) = e - 1 := by omega
    have q5 : e < N := by omega
    have q6 : e - 1 < N := by omega
    have q7 : k < N := by omega
    have q8 : e - k0 + 1 = e + 1 - k0 := by omega
    have g1 : g e = f e := h5.keep e (by omega) q5
    have g2 : g (e - 1) = f (e - 1) := h5.keep (e - 1) (by omega) q6
    by_cases c1 : cT (f e) (f (e - 1)) = 0
    · obtain ⟨k', g', b1, b2, b3⟩ := ih (e + 1) (by omega) (by omega) k g h3 (by omega) (h5.eq ((T.zero _ _).1 c1))
      refine ⟨k', g', ?_, b2, b3⟩
      rw [← b1]
      simp only [sT, sO]
      rw [cpt2_E]
      unfold cpt2_Tr
      simp only [oLen_N, iLt_N, iEq_0, okIx_N, nNat_N, pOff_1, sub_N1 (a := e - k0) (by omega) (by omega), add_N1 (a := e - k0) (by omega), q1, q2, q3, q4, q8, okCell_oA cV q5, okCell_oA cV q6, cRow_oA cV q5, cRow_oA cV q6, lockLL_rOf, okR_of, cmpTV_cT, g1, g2, c1, bNot_eq, decide_true, Bool.not_true, Bool.false_eq_true, if_false, if_true, Tr.run_ite, Tr.run_ret, lnext_next]
    · have c2 : cT (f (e - 1)) (f e) < 0 := by
        have w1 := hS (e - 1) e (by omega) (by omega) q5
        have w2 := T.swap (f e) (f (e - 1))
        omega
      obtain ⟨k', g', b1, b2, b3⟩ := ih (e + 1) (by omega) (by omega) (k + 1) (upd g k (f e)) (by omega) (by omega) (h5.ne T c2)
      refine ⟨k', g', ?_, b2, b3⟩
      rw [← b1]
      simp only [sT, sO]
      rw [cpt2_E]
      unfold cpt2_Tr
      simp only [oLen_N, iLt_N, iEq_0, okIx_N, nNat_N, pOff_1, Nat.zero_add, sub_N1 (a := e - k0) (by omega) (by omega), add_N1 (a := e - k0) (by omega), add_N1 (a := k) (by omega), q1, q2, q3, q4, q7, q8, okCell_oA cV q5, okCell_oA cV q6, cRow_oA cV q5, cRow_oA cV q6, okOff_oA cV q7, putC_oA cV _ q7, lockLL_rOf, okR_of, cmpTV_cT, g1, g2, c1, bNot_eq, decide_true, decide_false, Bool.not_false, if_true, Tr.run_ite, Tr.run_ret, lnext_next]

theorem cpt1_law (f : Nat → List Vl) (N : Nat) (hN : N ≤ 1152921504606846975) (hS : Srt cT f 0 N) : ∀ d k : Nat, k + d = N → 1 ≤ k → Dd cT f f N k k →
    ∃ (k' : Nat) (g' : Nat → List Vl) (cs' : List PV), (cpt1_V [.osl 1 0 N 1, .fn 85 [.ptr 0 0], .int .i64 k] (sT (sO r) rest toks tys f N) =
        some (.ret, [.osl 1 0 k' 1], ⟨sO r :: cs' :: rest, toks, 82 :: 1000023 :: tys⟩) ∨
      k' = N ∧ cpt1_V [.osl 1 0 N 1, .fn 85 [.ptr 0 0], .int .i64 k] (sT (sO r) rest toks tys f N) =
        some (.exit 0, [.osl 1 0 N 1], ⟨sO r :: cs' :: rest, toks, 82 :: 1000023 :: tys⟩)) ∧ k' ≤ N ∧ k' ≤ cs'.length ∧ (∀ p, p < k' → cs'[p]? = some (.sl (rOf cV (g' p)) .non)) ∧ Dd cT f g' N k' N := by
  intro d
  induction d with
  | zero =>
    intro k h1 h2 h3
    have e : k = N := by omega
    subst e
    refine ⟨k, f, oA cV f k, Or.inr ⟨rfl, ?_⟩, Nat.le_refl _, by simp, fun p hp => oA_get cV hp, h3⟩
    simp only [sT, sO]
    rw [cpt1_E]
    unfold cpt1_Tr
    simp only [oLen_N, iLt_N, Nat.lt_irrefl, decide_false, Bool.false_eq_true, if_false, Tr.run_ite, Tr.run_ret, lnext_out]
  | succ d ih =>
    intro k h1 h2 h3
    have q1 : k < N := by omega
    have q2 : k - 1 < N := by omega
    by_cases c1 : cT (f k) (f (k - 1)) = 0
    · obtain ⟨k', g', b1, b2, b3⟩ := cpt2_law T r rest toks tys f N k h2 q1 hN hS (N - (k + 1)) (k + 1) (by omega) (Nat.le_refl _) k f (Nat.le_refl _) (by omega) (h3.eq ((T.zero _ _).1 c1))
      have e1 : k + 1 - k = 1 := by omega
      rw [e1] at b1
      have w : cpt2_W 0 N k k (N - k) 1 r (oA cV f N) rest toks tys = _ := b1
      have a1 : cpt2_n 0 N k k (N - k) 1 r (oA cV f N) rest toks tys = (k' : Int) := by rw [cpt2_n, w]; rfl
      have a2 : cpt2_l 0 N k k (N - k) 1 r (oA cV f N) rest toks tys = oA cV g' N := by rw [cpt2_l, w]; rfl
      have a3 : cpt2_is0 0 N k k (N - k) 1 r (oA cV f N) rest toks tys = true := by rw [cpt2_is0, w, a1, a2]; simp [sT, sO]
      refine ⟨k', g', clrC (oA cV g' N) k' (N - k') [.sl [] .full], Or.inl ?_, by omega, ?_, fun p hp => ?_, b3⟩
      · have s1 : okSub true true k N N = true := by simp [okSub]; omega
        have s2 : okSub true true k' N N = true := by simp [okSub]; omega
        have s3 : okSub true true 0 k' N = true := by simp [okSub]; omega
        have s4 : nEq (N - k') 0 = false := by simp [nEq]; omega
        have s5 : okOff (oA cV g' N) k' (N - k') = true := by simp [okOff]; omega
        simp only [sT, sO]
        rw [cpt1_E]
        unfold cpt1_Tr
        simp only [oLen_N, iLt_N, iEq_0, okIx_N, nNat_N, okPos_N, nSub_N, Nat.sub_zero, pOff_1, Nat.zero_add, sub_N1 (a := k) h2 (by omega), q1, q2, okCell_oA cV q1, okCell_oA cV q2, cRow_oA cV q1, cRow_oA cV q2, lockLL_rOf, okR_of, cmpTV_cT, c1, a1, a2, a3, s1, s2, s3, s4, s5, decide_true, Bool.false_eq_true, if_false, if_true, Tr.run_ite, Tr.run_ret, lnext_out]
      · unfold clrC; simp; omega
      · rw [clrC_get (by simp; omega) hp, oA_get cV (by omega)]
    · have c2 : cT (f (k - 1)) (f k) < 0 := by
        have w1 := hS (k - 1) k (by omega) (by omega) q1
        have w2 := T.swap (f k) (f (k - 1))
        omega
      have h4 := h3.ne T c2
      rw [upd_self] at h4
      obtain ⟨k', g', cs', b1, b2⟩ := ih (k + 1) (by omega) (by omega) h4
      refine ⟨k', g', cs', ?_, b2⟩
      have e : cpt1_V [.osl 1 0 N 1, .fn 85 [.ptr 0 0], .int .i64 k] (sT (sO r) rest toks tys f N) = cpt1_V [.osl 1 0 N 1, .fn 85 [.ptr 0 0], .int .i64 ((k + 1 : Nat) : Int)] (sT (sO r) rest toks tys f N) := by
        simp only [sT, sO]
        rw [cpt1_E]
        unfold cpt1_Tr
        simp only [oLen_N, iLt_N, iEq_0, okIx_N, nNat_N, pOff_1, Nat.zero_add, sub_N1 (a := k) h2 (by omega), add_N1 (a := k) (by omega), q1, q2, okCell_oA cV q1, okCell_oA cV q2, cRow_oA cV q1, cRow_oA cV q2, lockLL_rOf, okR_of, cmpTV_cT, c1, decide_true, decide_false, Bool.false_eq_true, if_false, if_true, Tr.run_ite, Tr.run_ret, lnext_next]
      rw [e]
      exact b1
theorem cpt_law (f : Nat → List Vl) (N : Nat) (h1 : 1 ≤ N) (hN : N ≤ 1152921504606846975) (hS : Srt cT f 0 N) :
    ∃ (k' : Nat) (g' : Nat → List Vl) (cs' : List PV), cpt_is0 0 N r (oA cV f N) rest toks tys = true ∧ cpt_o 0 N r (oA cV f N) rest toks tys = 0 ∧ cpt_m 0 N r (oA cV f N) rest toks tys = k' ∧ cpt_l 0 N r (oA cV f N) rest toks tys = cs' ∧
      k' ≤ cs'.length ∧ (∀ p, p < k' → cs'[p]? = some (.sl (rOf cV (g' p)) .non)) ∧ Dd cT f g' N k' N := by
  have fin : ∀ (k' : Nat) (cs' : List PV), cpt_W 0 N r (oA cV f N) rest toks tys = some (.osl 1 0 k' 1, ⟨sO r :: cs' :: rest, toks, 82 :: 1000023 :: tys⟩) →
      cpt_is0 0 N r (oA cV f N) rest toks tys = true ∧ cpt_o 0 N r (oA cV f N) rest toks tys = 0 ∧ cpt_m 0 N r (oA cV f N) rest toks tys = k' ∧ cpt_l 0 N r (oA cV f N) rest toks tys = cs' := by
    intro k' cs' h
    have a1 : cpt_o 0 N r (oA cV f N) rest toks tys = 0 := by rw [cpt_o, h]; rfl
    have a2 : cpt_m 0 N r (oA cV f N) rest toks tys = k' := by rw [cpt_m, h]; rfl
    have a3 : cpt_l 0 N r (oA cV f N) rest toks tys = cs' := by rw [cpt_l, h]; rfl
    exact ⟨by rw [cpt_is0, a1, a2, a3, h]; simp [sO], a1, a2, a3⟩
  by_cases e : N < 2
  · have e1 : N = 1 := by omega
    subst e1
    obtain ⟨x1, x2, x3, x4⟩ := fin 1 (oA cV f 1) (by
      unfold cpt_W cpt_Tr
      have : iLt (oLen 1) 2 = true := by decide
      simp only [this, if_true, Tr.run_ite, Tr.run_ret])
    exact ⟨1, f, oA cV f 1, x1, x2, x3, x4, by simp, fun p hp => oA_get cV hp, Dd.init f 1⟩
  · obtain ⟨k', g', cs', b1, b2, b3, b4, b5⟩ := cpt1_law T r rest toks tys f N hN hS (N - 1) 1 (by omega) (Nat.le_refl _) (Dd.init f N)
    have hlt : iLt (oLen N) 2 = false := by unfold iLt oLen; simp; omega
    rcases b1 with b1 | ⟨rfl, b1⟩
    · have w : cpt1_W 0 N 1 r (oA cV f N) rest toks tys = _ := b1
      have a1 : cpt1_o_0 0 N 1 r (oA cV f N) rest toks tys = 0 := by rw [cpt1_o_0, w]; rfl
      have a2 : cpt1_m_0 0 N 1 r (oA cV f N) rest toks tys = k' := by rw [cpt1_m_0, w]; rfl
      have a3 : cpt1_l_0 0 N 1 r (oA cV f N) rest toks tys = cs' := by rw [cpt1_l_0, w]; rfl
      have a4 : cpt1_is0 0 N 1 r (oA cV f N) rest toks tys = true := by rw [cpt1_is0, w, a1, a2, a3]; simp [sO]
      obtain ⟨x1, x2, x3, x4⟩ := fin k' cs' (by
        unfold cpt_W cpt_Tr
        simp only [hlt, a1, a2, a3, a4, Bool.false_eq_true, if_false, if_true, Tr.run_ite, Tr.run_ret])
      exact ⟨k', g', cs', x1, x2, x3, x4, b3, b4, b5⟩
    · have w : cpt1_W 0 k' 1 r (oA cV f k') rest toks tys = _ := b1
      have a3 : cpt1_l_1 0 k' 1 r (oA cV f k') rest toks tys = cs' := by rw [cpt1_l_1, w]; rfl
      have a4 : cpt1_is0 0 k' 1 r (oA cV f k') rest toks tys = false := by rw [cpt1_is0, w]; simp [isW]
      have a5 : cpt1_is1 0 k' 1 r (oA cV f k') rest toks tys = true := by rw [cpt1_is1, w, a3]; simp [sO]
      obtain ⟨x1, x2, x3, x4⟩ := fin k' cs' (by
        unfold cpt_W cpt_Tr
        simp only [hlt, a3, a4, a5, Bool.false_eq_true, if_false, if_true, Tr.run_ite, Tr.run_ret])
      exact ⟨k', g', cs', x1, x2, x3, x4, b3, b4, b5⟩
end
end Go.Pv

set_option maxHeartbeats 8000000
set_option maxRecDepth 200000
set_option linter.unusedSimpArgs false
set_option linter.unusedVariables false
/-! Tuples in order, each once. -/
namespace Go.Pv
open Go Go.Proofs
theorem cln_law (l : List (List Vl)) (h : l ≠ []) (hb : l.length * 24 ≤ 140737488355328) (c0 : List PV) :
    cln_is0 (rOf (cR cV) l) c0 = false ∧ cln_is1 (rOf (cR cV) l) c0 = true ∧ cln_o_1 (rOf (cR cV) l) c0 = 0 ∧ cln_m_1 (rOf (cR cV) l) c0 = l.length ∧ cln_l2_1 (rOf (cR cV) l) c0 = oA cV (fun i => l.getD i []) l.length := by
  have hw : cln_W (rOf (cR cV) l) c0 = some (.osl 1 0 l.length 1, ⟨[c0, oA cV (fun i => l.getD i []) l.length], [], [82, 1000023]⟩) := by
    have hfl : ∀ m : List (List Vl), (rOf (cR cV) m).flatten = m.map fun x => .sl (rOf cV x) .non := fun m => by
      induction m with
      | nil => rfl
      | cons a m ih => rw [rOf_cons, List.flatten_cons, List.map_cons, ih]; rfl
    have hfl := (hfl l).trans (oA_of cV l).symm
    have e1 : xNil (rOf (cR cV) l) = false := by cases l with
      | nil => exact absurd rfl h
      | cons a l => rfl
    have e2 : okGrow [] (rOf (cR cV) l) 24 = true := by simp [okGrow]; omega
    have e3 : okNews (rOf (cR cV) l) 1 = true := okNews_rOf (cR cV) l
    have e4 : okSize [] 1 = true := rfl
    have e5 : nXs (rOf (cR cV) l) = l.length := nXs_rOf (cR cV) l
    have e6 : xApp [] (rOf (cR cV) l) = rOf (cR cV) l := rfl
    unfold cln_W cln_Tr
    simp only [e1, e2, e3, e4, e5, e6, hfl, Bool.false_eq_true, if_false, if_true, Tr.run_ite, Tr.run_ret]
  have a1 : cln_o_1 (rOf (cR cV) l) c0 = 0 := by rw [cln_o_1, hw]; rfl
  have a2 : cln_m_1 (rOf (cR cV) l) c0 = l.length := by rw [cln_m_1, hw]; rfl
  have a3 : cln_l2_1 (rOf (cR cV) l) c0 = oA cV (fun i => l.getD i []) l.length := by rw [cln_l2_1, hw]; rfl
  exact ⟨by rw [cln_is0, hw]; simp [isW], by rw [cln_is1, a1, a2, a3, hw]; simp, a1, a2, a3⟩
theorem srt_law (T : Tot cT) (l : List (List Vl)) (h : l ≠ []) (hb : l.length * 24 ≤ 140737488355328) : srt_W (rOf (cR cV) l) = some (.sl (rOf (cR cV) (usort cT l)) .non) := by
  obtain ⟨a1, a2, a3, a4, a5⟩ := cln_law l h hb (sO (rOf (cR cV) l))
  obtain ⟨f1, b1, b2, b3, b4⟩ := ssf_law T (sO (rOf (cR cV) l)) [] [] [] (fun i => l.getD i []) l.length (by omega)
  obtain ⟨k', g', cs', d1, d2, d3, d4, d5, d6, d7⟩ := cpt_law T (rOf (cR cV) l) [] [] [] f1 l.length (by cases l with | nil => exact absurd rfl h | cons a l => simp) (by omega) b3
  have e1 := d7.done T b4
  have e2 := rowsC_1 cV d6
  have e3 : (List.range l.length).map (fun i => l.getD i []) = l := by
    apply List.ext_getElem?
    intro i
    by_cases hi : i < l.length
    · simp [hi]
    · simp [hi]
  rw [e3] at e1
  have e4 : okOff cs' 0 k' = true := by simp [okOff]; omega
  simp only [sO] at a1 a2 a3 a4 a5 b1 b2 d1 d2 d3 d4
  unfold srt_W srt_Tr
  simp only [a1, a2, a3, a4, a5, b1, b2, d1, d2, d3, d4, pOff_1, Nat.zero_add, e4, e2, e1, shutLL_rOf, Bool.false_eq_true, if_false, if_true, Tr.run_ite, Tr.run_ret]
end Go.Pv

set_option maxHeartbeats 4000000
set_option maxRecDepth 200000
set_option linter.unusedSimpArgs false
set_option linter.unusedVariables false
namespace Go.Pv
open Go Go.Proofs

theorem sAt_get {l : List UInt8} {i : Int} {v : UInt8} (h : l[i.toNat]? = some v) : sAt l i = v.toNat := by
  simp [sAt, List.getD_eq_getElem?_getD, h]
theorem okIdx_get {l : List UInt8} {i : Int} {v : UInt8} (h0 : 0 ≤ i) (h : l[i.toNat]? = some v) : okIdx l i = true := by
  have := (List.getElem?_eq_some_iff.1 h).1
  simp [h0, this]

/-! ### value.digit -/
def dv : List UInt8 → Int → Int → Int
  | [], _, _ => 16
  | b :: l, c, i => if (b.toNat : Int) = c then i else dv l c (i + 1)
def digV (c : Int) : Int := dv hexL c 0
def F_digit : List PV → Tr PV
  | [.int .u8 c] => .ret (.int .u8 (digV c))
  | _ => .fail
def d_digit : List PV → Store → Option (Int × Int × Store)
  | [.int .u8 c, .int .i64 i], σ => some (c, i, σ)
  | _, _ => none
def r_digit : Int × Int × Store → Tr (PExit × List (Nat × PV) × Store)
  | (c, i, σ) => Tr.chk (iEq i 0) (.ite (iEq (digV c) 16) (.ret (.exit 0, [], σ)) (.ret (.ret, [(2, .int .u8 (digV c))], σ)))
def L_digit : LpsT := fun r fr σ => if r = 2 then oracle 14 [0, 4] d_digit r_digit fr σ else .fail
noncomputable def c_digit : Code := loopN Tryd.f127 0
theorem loop_digit (gl : Nat → Option Obj) : ∀ vs σ a e out σ', d_digit vs σ = some a → (r_digit a).run = some (e, out, σ') → LDoes Tryd.prog gl c_digit (mk 14 ([0, 4].zip vs)) σ e (mk 14 out) σ' := by
  intro vs s a e out σ' hd hr
  unfold d_digit at hd
  split at hd
  · rename_i c i
    cases hd
    obtain ⟨h1, h2⟩ := Tr.chk_some hr
    simp at h1
    subst h1
    clear hr
    have key : ∀ (m : Nat) (i : Int), 0 ≤ i → i + m = 16 → dv (hexL.drop i.toNat) c i = digV c → LDoes Tryd.prog gl c_digit (mk 14 ([0, 4].zip [.int .u8 c, .int .i64 i])) s e (mk 14 out) σ' := by
      intro m
      induction m with
      | zero =>
        intro i h0 hi hf
        have : i = 16 := by omega
        subst this
        have hf : 16 = digV c := hf
        simp [← hf] at h2
        obtain ⟨rfl, rfl, rfl⟩ := h2
        refine LDoes.round tbT_ok (G := ofL []) gamOk_nil noMixed (L := fun _ _ _ => .fail) (loopOk_none (by kernel_rfl)) (by kernel_rfl) ?_
        refine Tr.all_as (Tr.ite (iLt 16 16)
            (Tr.ite (okIdx [48, 49, 50, 51, 52, 53, 54, 55, 56, 57, 97, 98, 99, 100, 101, 102] 16)
              (Tr.ite (iEq (sAt [48, 49, 50, 51, 52, 53, 54, 55, 56, 57, 97, 98, 99, 100, 101, 102] 16) c)
                (Tr.ret
                  (PExit.ret, [10, 5],
                    [PV.int IntKind.u8 c, PV.top, PV.int IntKind.u8 (iWrap IntKind.u8 16), PV.int IntKind.i64 16, PV.int IntKind.i64 16, PV.bool true, PV.int IntKind.i64 16, PV.int IntKind.i64 16,
                      PV.int IntKind.u8 (sAt [48, 49, 50, 51, 52, 53, 54, 55, 56, 57, 97, 98, 99, 100, 101, 102] 16), PV.int IntKind.u8 c, PV.bool true, PV.int IntKind.i64 16,
                      PV.int IntKind.u8 (iWrap IntKind.u8 16), PV.top],
                    s))
                (Tr.ret
                  (PExit.normal, [10, 5],
                    [PV.int IntKind.u8 c, PV.top, PV.top, PV.int IntKind.i64 16, PV.int IntKind.i64 (iAdd IntKind.i64 16 1), PV.bool true, PV.int IntKind.i64 16, PV.int IntKind.i64 16,
                      PV.int IntKind.u8 (sAt [48, 49, 50, 51, 52, 53, 54, 55, 56, 57, 97, 98, 99, 100, 101, 102] 16), PV.int IntKind.u8 c, PV.bool false, PV.top, PV.top,
                      PV.int IntKind.i64 (iAdd IntKind.i64 16 1)],
                    s)))
              Tr.fail)
            (Tr.ret (PExit.exit 0, [5], [PV.int IntKind.u8 c, PV.top, PV.top, PV.top, PV.int IntKind.i64 16, PV.bool false, PV.top, PV.top, PV.top, PV.top, PV.top, PV.top, PV.top, PV.top], s))) (by kernel_rfl) ?_
        refine ⟨fun h => by simp at h, fun h => ⟨rfl, by simp [Weak, mk, mkFrom, look], rfl⟩⟩
      | succ m ih =>
        intro i h0 hi hf
        obtain ⟨v, hv⟩ := get_lt (l := hexL) (i := i.toNat) (by show i.toNat < 16; omega)
        rw [drop_of_get hv] at hf
        refine LDoes.round tbT_ok (G := ofL []) gamOk_nil noMixed (L := fun _ _ _ => .fail) (loopOk_none (by kernel_rfl)) (by kernel_rfl) ?_
        refine Tr.all_as (Tr.ite (iLt i 16)
            (Tr.ite (okIdx [48, 49, 50, 51, 52, 53, 54, 55, 56, 57, 97, 98, 99, 100, 101, 102] i)
              (Tr.ite (iEq (sAt [48, 49, 50, 51, 52, 53, 54, 55, 56, 57, 97, 98, 99, 100, 101, 102] i) c)
                (Tr.ret
                  (PExit.ret, [10, 5],
                    [PV.int IntKind.u8 c, PV.top, PV.int IntKind.u8 (iWrap IntKind.u8 i), PV.int IntKind.i64 i, PV.int IntKind.i64 i, PV.bool true, PV.int IntKind.i64 i, PV.int IntKind.i64 i,
                      PV.int IntKind.u8 (sAt [48, 49, 50, 51, 52, 53, 54, 55, 56, 57, 97, 98, 99, 100, 101, 102] i), PV.int IntKind.u8 c, PV.bool true, PV.int IntKind.i64 i,
                      PV.int IntKind.u8 (iWrap IntKind.u8 i), PV.top],
                    s))
                (Tr.ret
                  (PExit.normal, [10, 5],
                    [PV.int IntKind.u8 c, PV.top, PV.top, PV.int IntKind.i64 i, PV.int IntKind.i64 (iAdd IntKind.i64 i 1), PV.bool true, PV.int IntKind.i64 i, PV.int IntKind.i64 i,
                      PV.int IntKind.u8 (sAt [48, 49, 50, 51, 52, 53, 54, 55, 56, 57, 97, 98, 99, 100, 101, 102] i), PV.int IntKind.u8 c, PV.bool false, PV.top, PV.top,
                      PV.int IntKind.i64 (iAdd IntKind.i64 i 1)],
                    s)))
              Tr.fail)
            (Tr.ret (PExit.exit 0, [5], [PV.int IntKind.u8 c, PV.top, PV.top, PV.top, PV.int IntKind.i64 i, PV.bool false, PV.top, PV.top, PV.top, PV.top, PV.top, PV.top, PV.top, PV.top], s))) (by kernel_rfl) ?_
        refine ⟨fun _ => ⟨fun _ => ⟨fun h => ?_, fun h => ?_⟩, fun h => ?_⟩, fun h => by simp at h; omega⟩
        · have h : iEq (sAt hexL i) c = true := h
          rw [sAt_get hv] at h
          simp at h
          simp only [dv, if_pos h] at hf
          rw [← hf] at h2
          have h16 : ¬ i = 16 := by omega
          simp [h16] at h2
          obtain ⟨rfl, rfl, rfl⟩ := h2
          refine ⟨rfl, ?_, rfl⟩
          simp [Weak, mk, mkFrom, look, iWrap, wrap_u8 (n := i) (by omega)]
        · have h : iEq (sAt hexL i) c = false := h
          rw [sAt_get hv] at h
          simp at h
          simp only [dv, if_neg h] at hf
          have e1 : (i + 1).toNat = i.toNat + 1 := by omega
          refine LDoes.into ?_ (ih (i + 1) (by omega) (by omega) (by rw [e1]; exact hf))
          simp [Weak, mk, mkFrom, look, iAdd, wrap_i64 (n := i + 1) (by omega)]
        · have h : okIdx hexL i = false := h
          rw [okIdx_get h0 hv] at h
          cases h
    exact key 16 0 (by omega) (by omega) rfl
  · cases hd
theorem sim_digit (gl : Nat → Option Obj) : SimP Tryd.prog gl 127 fun args => (F_digit args).run := by
  refine SimP.of_tree (G := ofL []) (L := L_digit) tbT_ok gamOk_nil noMixed Tryd.func127 rfl (by rfl) (by kernel_rfl) (loopOk_one (r := 2) (c1 := c_digit) (by kernel_rfl) ?_) ?_
  · intro fr σ e fr' σ' hh
    simp only [lps, L_digit, if_true] at hh
    exact oracle_ok (loop_digit gl) fr σ e fr' σ' hh
  intro args x h hr
  unfold F_digit at h
  split at h
  · rename_i c
    cases h
    refine Tr.run_as (Tr.ite (iEq 0 0) (Tr.ite (iEq (digV c) 16) (Tr.ret (PV.int IntKind.u8 16)) (Tr.ret (PV.int IntKind.u8 (digV c)))) Tr.fail) (by kernel_rfl) ?_
    simp [eq_comm]
  · cases h

/-! ### value.escape -/
def escB (s : List UInt8) : Int :=
  if s = [] then 0 else if sAt s 0 = 34 ∨ sAt s 0 = 92 then sAt s 0 else if sAt s 0 = 110 then 10 else if sAt s 0 = 116 then 9
  else if sAt s 0 = 120 ∧ 3 ≤ s.length ∧ digV (sAt s 1) < 16 ∧ digV (sAt s 2) < 16 then iOr .u8 (iShl .u8 (digV (sAt s 1)) 4) (digV (sAt s 2)) else 0
def escN (s : List UInt8) : Int :=
  if s = [] then 0 else if sAt s 0 = 34 ∨ sAt s 0 = 92 then 1 else if sAt s 0 = 110 then 1 else if sAt s 0 = 116 then 1
  else if sAt s 0 = 120 ∧ 3 ≤ s.length ∧ digV (sAt s 1) < 16 ∧ digV (sAt s 2) < 16 then 3 else 0
def F_escape : List PV → Tr PV
  | [.str s] => .ret (.tup [.int .u8 (escB s), .int .i64 (escN s)])
  | _ => .fail
theorem sim_escape (gl : Nat → Option Obj) : SimP Tryd.prog gl 116 fun args => (F_escape args).run := by
  refine SimP.of_tree (G := ofL [(127, .pure F_digit)]) (L := fun _ _ _ => .fail) tbT_ok (gamOk_cons (sim_digit gl) gamOk_nil) noMixed Tryd.func116 rfl (by rfl) (by kernel_rfl) (loopOk_none (by kernel_rfl)) ?_
  intro args x h hr
  unfold F_escape at h
  split at h
  · rename_i s
    cases h
    refine Tr.run_as (Tr.ite (sEq s []) (Tr.ret (PV.tup [PV.int IntKind.u8 0, PV.int IntKind.i64 0]))
        (Tr.ite (okIdx s 0)
          (Tr.ite (iEq (sAt s 0) 34) (Tr.ite (okIdx s 0) (Tr.ret (PV.tup [PV.int IntKind.u8 (sAt s 0), PV.int IntKind.i64 1])) Tr.fail)
            (Tr.ite (iEq (sAt s 0) 92) (Tr.ite (okIdx s 0) (Tr.ret (PV.tup [PV.int IntKind.u8 (sAt s 0), PV.int IntKind.i64 1])) Tr.fail)
              (Tr.ite (iEq (sAt s 0) 110) (Tr.ret (PV.tup [PV.int IntKind.u8 10, PV.int IntKind.i64 1]))
                (Tr.ite (iEq (sAt s 0) 116) (Tr.ret (PV.tup [PV.int IntKind.u8 9, PV.int IntKind.i64 1]))
                  (Tr.ite (iEq (sAt s 0) 120)
                    (Tr.ite (iLe 3 (sLen s))
                      (Tr.ite (okIdx s 1)
                        (Tr.ite (iLt (digV (sAt s 1)) 16)
                          (Tr.ite (okIdx s 2)
                            (Tr.ite (iLt (digV (sAt s 2)) 16)
                              (Tr.ite (okIdx s 1)
                                (Tr.ite (okIdx s 2) (Tr.ret (PV.tup [PV.int IntKind.u8 (iOr IntKind.u8 (iShl IntKind.u8 (digV (sAt s 1)) 4) (digV (sAt s 2))), PV.int IntKind.i64 3])) Tr.fail) Tr.fail)
                              (Tr.ret (PV.tup [PV.int IntKind.u8 0, PV.int IntKind.i64 0])))
                            Tr.fail)
                          (Tr.ret (PV.tup [PV.int IntKind.u8 0, PV.int IntKind.i64 0])))
                        Tr.fail)
                      (Tr.ret (PV.tup [PV.int IntKind.u8 0, PV.int IntKind.i64 0])))
                    (Tr.ret (PV.tup [PV.int IntKind.u8 0, PV.int IntKind.i64 0])))))))
          Tr.fail)) (by kernel_rfl) ?_
    by_cases h0 : s = []
    · subst h0; simp [escB, escN]
    · have hl : 0 < s.length := List.length_pos_iff.2 h0
      have k0 : okIdx s 0 = true := by simp [hl]
      by_cases h3 : 3 ≤ s.length
      · have k1 : okIdx s 1 = true := by simp; omega
        have k2 : okIdx s 2 = true := by simp; omega
        have h3' : (3 : Int) ≤ s.length := by omega
        simp only [Tr.run_ite, k0, k1, k2, iEq_eq, iLe_eq, iLt_eq, sEq_eq, sLen_eq, decide_eq_true_eq, h0, h3', if_true, if_false, escB, escN, h3, true_and, Tr.run_ret]
        repeat' split
        all_goals first | rfl | (simp_all; done) | (exfalso; simp_all; done) | (exfalso; omega)
      · have h3' : ¬ (3 : Int) ≤ s.length := by omega
        simp only [Tr.run_ite, k0, iEq_eq, iLe_eq, iLt_eq, sEq_eq, sLen_eq, decide_eq_true_eq, h0, h3', if_true, if_false, escB, escN, h3, false_and, and_false, Tr.run_ret]
        repeat' split
        all_goals first | rfl | (simp_all; done) | (exfalso; simp_all; done) | (exfalso; omega)
  · cases h


/-! ### digits of a number -/
def digsN (n : Nat) : List UInt8 := if h : n < 10 then [UInt8.ofNat (48 + n)] else digsN (n / 10) ++ [UInt8.ofNat (48 + n % 10)]
  termination_by n
  decreasing_by omega
theorem digsN_len : ∀ (k n : Nat), n < 10 ^ (k + 1) → (digsN n).length ≤ k + 1 := by
  intro k
  induction k with
  | zero => intro n h; unfold digsN; simp at h; simp [h]
  | succ k ih =>
    intro n h
    unfold digsN
    split
    · simp
    · have := ih (n / 10) (by rw [Nat.pow_succ] at h; omega)
      simp
      omega
def digsV (n : Int) : List UInt8 := digsN n.toNat
def F_digsK (k : Nat) : List PV → Tr PV
  | [.int .u64 n] => Tr.chk (ltN n k) (.ret (.str (digsV n)))
  | _ => .fail
def F_digs : List PV → Tr PV
  | [.int .u64 n] => .ret (.str (digsV n))
  | _ => .fail
end Go.Pv

set_option maxHeartbeats 4000000
set_option maxRecDepth 200000
set_option linter.unusedSimpArgs false
set_option linter.unusedVariables false
namespace Go.Pv
open Go Go.Proofs

/-! ### pedigreeref01.Text -/
def symB (s : List UInt8) : List UInt8 := s.flatMap fun b => oneV b.toNat
def symV (s : List UInt8) : List UInt8 := 34 :: symB s ++ [34]
def intV (n : Int) : List UInt8 := if n < 0 then 45 :: digsV (-n) else digsV n
def textV (k n : Int) (s : List UInt8) : List UInt8 := if isV k n s = true then (if k = 1 then intV n else symV s) else []
def symH (s : List UInt8) : List UInt8 := 34 :: symB s

theorem oneV_len (c : Int) : 1 ≤ (oneV c).length ∧ (oneV c).length ≤ 4 := by
  unfold oneV
  repeat' split
  all_goals simp
theorem symB_len : ∀ s, (symB s).length ≤ 4 * s.length
  | [] => by simp [symB]
  | b :: s => by
    have := symB_len s
    have := oneV_len b.toNat
    simp [symB] at *
    omega

theorem checkV_is (k n : Int) (s : List UInt8) : checkV k n s = if isV k n s = true then 0 else 10 := by
  unfold checkV isV
  by_cases h1 : k = 1 ∧ s = []
  · simp [h1]
  · by_cases h2 : k = 2 ∧ n = 0 ∧ s.length ≤ 256
    · simp [h2]
    · rw [if_neg h1, if_neg h2, if_neg]
      simp only [decide_eq_true_eq]
      rintro (h | h)
      · exact h1 h
      · exact h2 h
theorem digsV_len {n : Int} (h : n ≤ 18446744073709551616) : (digsV n).length ≤ 20 := digsN_len 19 n.toNat (by omega)

def F_RText : List PV → Tr PV
  | [.agg [.int .i64 k, .int .i64 n, .str s]] => .ret (.tup [.str (textV k n s), .int .i64 (checkV k n s)])
  | _ => .fail
def d_RText : List PV → Store → Option (Int × Int × List UInt8 × Int × Store)
  | [.ptr 0 0, .sl [[.int .u8 34]] .full, .int .i64 i], ⟨[[.int .i64 k, .int .i64 n, .str s]], [], ty⟩ => some (k, n, s, i, ⟨[[.int .i64 k, .int .i64 n, .str s]], [], ty⟩)
  | _, _ => none
def r_RText : Int × Int × List UInt8 × Int × Store → Tr (PExit × List (Nat × PV) × Store)
  | (k, n, s, i, σ) => Tr.chk (iEq i 0) (Tr.chk (iLe (sLen s) 256) (.ite (sEq s []) (.ret (.exit 0, [(4, .sl (bytesOf (symH s)) .full)], ⟨σ.objs, [], σ.tys⟩)) (.ret (.exit 0, [(4, .sl (bytesOf (symH s)) (.tok 0))], ⟨σ.objs, [(nLen (symH s), 1, 5)], σ.tys⟩))))
def L_RText : LpsT := fun r fr σ => if r = 9 then oracle 46 [1, 4, 5] d_RText r_RText fr σ else .fail
end Go.Pv

set_option maxHeartbeats 4000000
set_option maxRecDepth 200000
set_option linter.unusedSimpArgs false
set_option linter.unusedVariables false
namespace Go.Pv
open Go Go.Proofs Go.RowKit

/-- A package variable, as it lies in the world that gl tells of. -/
def VarIs (gl : Nat → Option Obj) (name : String) (cs : Array Value) : Prop := ∃ g T f, Tryd.prog.globalNamed name = some g ∧ gl g = some (.cells cs T f)

/-- The library's variables, as they are laid. -/
structure GlPow (gl : Nat → Option Obj) : Prop where
  pow : VarIs gl "internal/strconv.uint64pow10" (Lib.pow10Tab.map fun z => Value.int .u64 z).toArray
structure GlOk (gl : Nat → Option Obj) : Prop extends GlPow gl where
  syn : ∃ tp p, VarIs gl "strconv.ErrSyntax" #[.iface tp p]
  rng : ∃ tp p, VarIs gl "strconv.ErrRange" #[.iface tp p]

theorem VarIs.var {gl : Nat → Option Obj} {name : String} {cs : Array Value} (h : VarIs gl name cs) {w : World} (hw : ∀ b o, gl b = some o → w.heap[b]? = some o) : w.var? Tryd.prog name = some cs := by
  obtain ⟨g, T, f, h1, h2⟩ := h
  simp [World.var?, h1, hw g _ h2]

theorem GlPow.dr {gl : Nat → Option Obj} (h : GlPow gl) (w w' : World) : Dr gl w w' := fun hg => by
  obtain ⟨g, T, f, _, h2⟩ := h.pow
  rw [hg g] at h2
  cases h2

/-! ### strconv.FormatInt at base 10 -/
def itoaV (n : Int) : List UInt8 := Lib.itoa n
def F_FormatInt : List PV → Tr PV
  | [.int .i64 n, .int .i64 b] => Tr.chk (iEq b 10) (.ret (.str (itoaV n)))
  | _ => .fail
theorem sim_FormatInt {gl : Nat → Option Obj} (hgl : GlPow gl) : SimP Tryd.prog gl 92 fun args => (F_FormatInt args).run := by
  refine ⟨⟨_, Tryd.func92, by rfl, by rfl⟩, ?_⟩
  intro args x hx H w vs hB hob htk hw hrel
  unfold F_FormatInt at hx
  split at hx
  · rename_i n b
    obtain ⟨h1, h2⟩ := Tr.chk_some hx
    cases h2
    simp at h1
    subst h1
    cases hrel with
    | cons _ v _ vs hv hvs =>
      cases hvs with
      | cons _ v2 _ vs hv2 hvs =>
        cases hvs
        cases hv with
        | int _ _ hwf =>
          cases hv2
          simp [Lit.wf, IntKind.min, IntKind.max, IntKind.signed, IntKind.bits] at hwf
          refine (Tryd.strconv_FormatInt_10 n hwf.1 (by omega) w (hgl.pow.var hw)).mono ?_
          rintro e w' ⟨rfl, k, os, rfl⟩
          refine ⟨_, rfl, ⟨Lib.below_grow _ _ (Nat.le_refl _) k os, hgl.dr _ _⟩, .str _ ?_⟩
          have := Lib.itoa_length_le n hwf.1 (by omega)
          show (Lib.itoa n).length ≤ maxLen
          unfold maxLen
          omega
  · cases hx

/-! ### strconv.ParseInt at base 10 and 64 bits -/
def pOk (s : List UInt8) : Bool := match Lib.parseIntB 64 s with
  | .ok _ => true
  | _ => false
def pVal (s : List UInt8) : Int := match Lib.parseIntB 64 s with
  | .ok v => v
  | .range => Lib.intSat 64 s
  | _ => 0
def okSize48 (s : List UInt8) : Bool := decide (s.length ≤ 281474976710656)
def F_ParseInt : List PV → Tr PV
  | [.str s, .int .i64 b, .int .i64 k] => Tr.chk (iEq b 10) (Tr.chk (iEq k 64) (Tr.chk (okSize48 s) (.ite (pOk s) (.ret (.tup [.int .i64 (pVal s), .nili])) (.ret (.tup [.int .i64 (pVal s), .iface 159 .top])))))
  | _ => .fail
theorem pVal_wf (s : List UInt8) : (Lit.int .i64 (pVal s)).wf = true := by
  have key : -9223372036854775808 ≤ pVal s ∧ pVal s ≤ 9223372036854775807 := by
    unfold pVal
    split
    · rename_i v hv
      have h := Lib.parseIntB_bounds hv
      have e : ((2 ^ (64 - 1) : Nat) : Int) = 9223372036854775808 := by decide
      rw [e] at h
      omega
    · unfold Lib.intSat
      split
      · have e : -(((2 ^ (64 - 1) : Nat)) : Int) = -9223372036854775808 := by decide
        rw [e]
        omega
      · have e : (((2 ^ (64 - 1) - 1 : Nat)) : Int) = 9223372036854775807 := by decide
        rw [e]
        omega
    · omega
  simp [Lit.wf, IntKind.min, IntKind.max, IntKind.signed, IntKind.bits]
  omega
theorem sim_ParseInt {gl : Nat → Option Obj} (hgl : GlOk gl) : SimP Tryd.prog gl 104 fun args => (F_ParseInt args).run := by
  refine ⟨⟨_, Tryd.func104, by rfl, by rfl⟩, ?_⟩
  intro args x hx H w vs hB hob htk hw hrel
  unfold F_ParseInt at hx
  split at hx
  · rename_i s b k
    obtain ⟨h1, h2⟩ := Tr.chk_some hx
    obtain ⟨h3, h4⟩ := Tr.chk_some h2
    obtain ⟨h5, h6⟩ := Tr.chk_some h4
    simp at h1 h3
    simp [okSize48] at h5
    subst h1 h3
    have hwf := pVal_wf s
    cases hrel with
    | cons _ v _ vs hv hvs =>
      cases hvs with
      | cons _ v2 _ vs hv2 hvs =>
        cases hvs with
        | cons _ v3 _ vs hv3 hvs =>
          cases hvs
          cases hv2; cases hv3
          cases hv with
          | str _ hl =>
            have hsz : (ByteArray.mk s.toArray).size = s.length := by simp [ByteArray.size]
            cases hp : Lib.parseIntB 64 s with
            | ok n =>
              have e1 : pOk s = true := by simp [pOk, hp]
              have e2 : pVal s = n := by simp [pVal, hp]
              rw [e2] at hwf
              simp [e1, e2] at h6
              subst h6
              refine (Any.strconv_ParseInt_10_at64_ok Tryd.laysC174 ⟨s.toArray⟩ (by rw [hsz]; omega) n hp w).mono ?_
              rintro e w' ⟨rfl, hw'⟩
              refine ⟨_, rfl, ⟨?_, hgl.dr _ _⟩, .tup _ _ (.cons _ _ _ _ (.int _ _ hwf) (.cons _ _ _ _ .nili .nil))⟩
              rcases hw' with rfl | ⟨t, rfl⟩
              · exact Below.refl _ _
              · exact ⟨rfl, rfl, rfl, by rw [Lib.bytesWorld_size]; omega, fun k hk => Lib.bytesWorld_at_old w _ _ k hk⟩
            | range =>
              have e1 : pOk s = false := by simp [pOk, hp]
              have e2 : pVal s = Lib.intSat 64 s := by simp [pVal, hp]
              simp [e1, e2] at h6
              rw [e2] at hwf
              subst h6
              obtain ⟨tp, p, hv⟩ := hgl.rng
              refine (Any.strconv_ParseInt_10_at64_range_var Tryd.laysC174 ⟨s.toArray⟩ (by rw [hsz]; omega) hp tp p w (hv.var hw)).mono ?_
              rintro e w' ⟨N, rfl, h1, h2, h3⟩
              exact ⟨_, rfl, ⟨h3, hgl.dr _ _⟩, .tup _ _ (.cons _ _ _ _ (.int _ _ hwf) (.cons _ _ _ _ (.iface _ _ _ (.top _)) .nil))⟩
            | _ =>
              have e1 : pOk s = false := by simp [pOk, hp]
              have e2 : pVal s = 0 := by simp [pVal, hp]
              rw [e2] at hwf
              simp [e1, e2] at h6
              subst h6
              obtain ⟨tp, p, hv⟩ := hgl.syn
              refine (Any.strconv_ParseInt_10_at64_syntax_var Tryd.laysC174 ⟨s.toArray⟩ (by rw [hsz]; omega) hp tp p w (hv.var hw)).mono ?_
              rintro e w' ⟨N, rfl, h1, h2, h3⟩
              exact ⟨_, rfl, ⟨h3, hgl.dr _ _⟩, .tup _ _ (.cons _ _ _ _ (.int _ _ hwf) (.cons _ _ _ _ (.iface _ _ _ (.top _)) .nil))⟩
  · cases hx
end Go.Pv

/- strings.Builder: its check, and its text, with the caller's store. -/
set_option maxHeartbeats 4000000
set_option maxRecDepth 200000
set_option linter.unusedSimpArgs false
set_option linter.unusedVariables false
namespace Go.Pv
open Go Go.Proofs Go.Shelf Go.RowKit
variable {P : Program} {ρ : Ren} {gl : Nat → Option Obj}

theorem setCell_row {w : World} {b off : Nat} {cs : Array Value} {T : TypeId} {fz : Nat × Nat} (h : w.heap[b]? = some (.cells cs T fz)) (v : Value) : w.setCell ⟨b, off, none⟩ v = w.setRow b (cs.setIfInBounds off v) := by
  unfold World.setCell World.setRow
  congr 1
  apply Array.ext_getElem?
  intro i
  rw [Array.getElem?_modify, Array.getElem?_modify]
  by_cases hi : b = i
  · subst hi
    rw [if_pos rfl, if_pos rfl, h]
    rfl
  · rw [if_neg hi, if_neg hi]

theorem freeze_at {w : World} {b n : Nat} {cs : Array Value} {T : TypeId} {fz : Nat × Nat} (h : w.heap[b]? = some (.cells cs T fz)) : ∃ fz', (w.freeze ⟨b, 0, none⟩ n).heap[b]? = some (.cells cs T fz') := by
  unfold World.freeze
  split
  · exact ⟨fz, h⟩
  · obtain ⟨lo, hi⟩ := fz
    exact ⟨_, by simp only [Array.getElem?_modify, if_true, h]; rfl⟩

theorem freeze_other (w : World) (b n k : Nat) (h : k ≠ b) : (w.freeze ⟨b, 0, none⟩ n).heap[k]? = w.heap[k]? := by
  unfold World.freeze
  split
  · rfl
  · simp only [Array.getElem?_modify]
    rw [if_neg (fun e => h e.symm)]

theorem freeze_size (w : World) (b n : Nat) : (w.freeze ⟨b, 0, none⟩ n).heap.size = w.heap.size := by
  unfold World.freeze
  split
  · rfl
  · simp

theorem freeze_rest (w : World) (b n : Nat) : (w.freeze ⟨b, 0, none⟩ n).os = w.os ∧ (w.freeze ⟨b, 0, none⟩ n).tape = w.tape ∧ (w.freeze ⟨b, 0, none⟩ n).output = w.output := by
  unfold World.freeze
  split <;> exact ⟨rfl, rfl, rfl⟩

theorem freeze_drawn (w : World) (b n : Nat) : (w.drew.freeze ⟨b, 0, none⟩ n).drawn = w.drew.drawn := by
  unfold World.freeze
  split <;> rfl

/-! ### copyCheck -/
def D_copyCheck (T : TypeId) : List PV → Store → Tr (PV × Store)
  | [.ptr 1 0], ⟨[o, [.nilp, q]], tk, [t0, t1]⟩ => Tr.chk (t1 == T) (.ret (.tup [], ⟨[o, [.ptr 1 0, q]], tk, [t0, t1]⟩))
  | [.ptr 1 0], ⟨[o, [.ptr 1 0, q]], tk, [t0, t1]⟩ => .ret (.tup [], ⟨[o, [.ptr 1 0, q]], tk, [t0, t1]⟩)
  | _, _ => .fail

theorem one_ptr {H : Gh} {w : World} {args : List Value} {id off : Nat} (h : RelL H w [.ptr id off] args) : ∃ b, H.ob[id]? = some b ∧ args = [.pointer (some ⟨b, off, none⟩)] := by
  cases h with
  | cons _ v _ vs hv hvs =>
    cases hvs
    cases hv with
    | ptr _ _ b hb => exact ⟨b, hb, rfl⟩

theorem sim_copyCheck_of {f : FuncId} {TB : TypeId} (hTB : TB < tyMark) (hfresh : ∀ (b : Nat) (w : World), w.cell? ⟨b, 0, none⟩ = some (.pointer none) → w.shape? b = some (TB, 2) → w.frozen? ⟨b, 0, none⟩ = false → Calls P f #[.pointer (some ⟨b, 0, none⟩)] w fun e w' => e = .returned (.tuple #[]) ∧ w' = w.setCell ⟨b, 0, none⟩ (.pointer (some ⟨b, 0, none⟩)))
    (hused : ∀ (b : Nat) (w : World), w.cell? ⟨b, 0, none⟩ = some (.pointer (some ⟨b, 0, none⟩)) → Calls P f #[.pointer (some ⟨b, 0, none⟩)] w fun e w' => e = .returned (.tuple #[]) ∧ w' = w)
    (hent : ∃ fn, P.funcs[f]? = some fn ∧ (fn.name == "runtime.NumGoroutine") = false ∧ fn.body.isNone = false) : SimS P gl f fun args σ => (D_copyCheck TB args σ).run := by
  refine ⟨hent, ?_⟩
  intro args σ x σ' hx H w vs hok hrel
  unfold D_copyCheck at hx
  split at hx
  · rename_i o q tk t0 t1
    obtain ⟨h1, h2⟩ := Tr.chk_some hx
    cases h2
    have h1 : t1 = TB := by simpa using h1
    subst h1
    obtain ⟨b, hb, rfl⟩ := one_ptr hrel
    obtain ⟨hB, us, ext, T, hheap, hus⟩ := hok.obj 1 b _ hb rfl
    obtain ⟨cs, hcs, hsz⟩ := hok.ty 1 b _ _ hb rfl rfl hTB
    rw [hheap] at hcs
    simp only [Option.some.injEq, Obj.cells.injEq] at hcs
    obtain ⟨rfl, rfl, _⟩ := hcs
    have hul := hus.len
    have hext : ext = [] := by
      apply List.eq_nil_of_length_eq_zero
      simp at hsz hul
      omega
    subst hext
    cases hus with
    | cons _ u0 _ us hu0 hus =>
      cases hu0
      cases hus with
      | cons _ u1 _ us hu1 hus =>
        cases hus
        refine (hfresh b w (by rw [Lib.cell_of_heap hheap]; rfl) (by simp [World.shape?, hheap]) (by rw [Lib.frozen_of_heap hheap 0])).mono ?_
        rintro e w' ⟨rfl, rfl⟩
        rw [setCell_row hheap]
        have hset := set_obj (cs' := [.ptr 1 0, q]) (vs' := [.pointer (some ⟨b, 0, none⟩), u1]) hok hb hheap (.cons _ _ _ _ (.ptr _ _ _ hb) (.cons _ _ _ _ hu1 .nil)) (fun c0 hc0 => by cases hc0; exact ⟨rfl, rfl⟩)
        exact ⟨_, rfl, H, hset.1, hset.2, .tup _ _ .nil⟩
  · rename_i o q tk t0 t1
    cases hx
    obtain ⟨b, hb, rfl⟩ := one_ptr hrel
    obtain ⟨hB, us, ext, T, hheap, hus⟩ := hok.obj 1 b _ hb rfl
    cases hus with
    | cons _ u0 _ us hu0 hus =>
      have hu0' : u0 = .pointer (some ⟨b, 0, none⟩) := by
        cases hu0 with
        | ptr _ _ b' hb' =>
          rw [hb] at hb'
          cases hb'
          rfl
      subst hu0'
      refine (hused b w (by rw [Lib.cell_of_heap hheap]; rfl)).mono ?_
      rintro e w' ⟨rfl, rfl⟩
      exact ⟨_, rfl, .same hok (.tup _ _ .nil)⟩
  · cases hx
/-! ### String -/
def D_String (T : TypeId) : List PV → Store → Tr (PV × Store)
  | [.ptr 1 0], ⟨[o, [p, .sl xs (.tok 0)]], [(v, 1, e)], ty⟩ => Tr.chk (okBytes xs) (Tr.chk (bNot (xNil xs)) (Tr.chk (nEq v (nXs xs)) (Tr.chk (e == T) (.ret (.str (unBytes xs), ⟨[o, [p, .sl xs (.tok 0)]], [(maxLen + 1, 1, e)], ty⟩)))))
  | _, _ => .fail

set_option maxRecDepth 100000 in
theorem Any.Builder_String_at (L : Lays.n169 P ρ) (X : Builder.Extra P ρ) (b g cap : Nat) (l : List UInt8) (w : World) (p : Value) (cs cur : Array Value) (T : TypeId) (fz : Nat × Nat)
    (hbk : w.cell? ⟨b, 1, none⟩ = some (.slice (some ⟨g, 0, none⟩) l.length cap)) (hg : w.heap[g]? = some (.cells cur (ρ.t 5) fz)) (hnc : l.length ≤ cap) (hcm : cap ≤ maxLen) (hcs : cur.size = cap)
    (hcell : ∀ j x, l[j]? = some x → w.cell? ((⟨g, 0, none⟩ : Addr).add j) = some (.int .u8 x.toNat)) (h0 : l ≠ []) :
    Calls P (ρ.f 169) #[.pointer (some ⟨b, 0, none⟩)] w fun e w' => e = .returned (.string ⟨l.toArray⟩) ∧ w' = w.drew.freeze ⟨g, 0, none⟩ l.length := by
  have hl0 : l.length ≠ 0 := by simpa using h0
  have c1 : w.drew.cell? ⟨b, 1, none⟩ = some (.slice (some ⟨g, 0, none⟩) l.length cap) := hbk
  have hSD : (Builtin.unsafeSliceData_ #[(ρ.t 37)] (ρ.t 127) #[.slice (some ⟨g, 0, none⟩) l.length cap]).run P w.drew = .ok (.pointer (some ⟨g, 0, none⟩)) w.drew :=
    Lib.run_unsafeSliceData_row _ _ _ _ _ _ (by omega)
  have hUS : (Builtin.unsafeString_ #[(ρ.t 127), (ρ.t 3)] (ρ.t 9) #[.pointer (some ⟨g, 0, none⟩), .int .i64 l.length]).run P w.drew = .ok (.string ⟨l.toArray⟩) (w.drew.freeze ⟨g, 0, none⟩ l.length) := by
    refine Lib.run_unsafeString_row w.drew (ρ.t 127) (ρ.t 3) (ρ.t 9) (ρ.t 5) L.t127 X.cellsByte g cur.size (by have hg' : w.drew.heap[g]? = some (.cells cur (ρ.t 5) fz) := hg; simp [World.shape?, hg']) l h0 (by omega) (by unfold maxLen at hcm; omega) ?_
    intro j x hx
    exact hcell j x hx
  have mixed := L.mixed
  have t72 := L.t72; have a72 := L.a72; have z72 := L.z72; have v72 := L.v72; have u72 := run_underlying L.t72
  have t70 := L.t70; have a70 := L.a70; have z70 := L.z70; have v70 := L.v70; have u70 := run_underlying L.t70
  have t37 := L.t37; have a37 := L.a37; have z37 := L.z37; have v37 := L.v37; have u37 := run_underlying L.t37
  have t127 := L.t127; have a127 := L.a127; have z127 := L.z127; have v127 := L.v127; have u127 := run_underlying L.t127
  have t3 := L.t3; have a3 := L.a3; have z3 := L.z3; have v3 := L.v3; have u3 := run_underlying L.t3
  have t9 := L.t9; have a9 := L.a9; have z9 := L.z9; have v9 := L.v9; have u9 := run_underlying L.t9
  have t5 := X.t5; have a5 := X.a5; have z5 := X.z5; have v5 := X.v5; have u5 := run_underlying X.t5
  go_enter L.f169, Body.n169_ntmps ρ
  go_wp2
  go_region_o
  all_goals (go_wp2; go_ret; exact ⟨rfl, rfl⟩)

theorem Any.sim_String (L : Lays.n169 P ρ) (X : Builder.Extra P ρ) (hent : ∃ fn, P.funcs[ρ.f 169]? = some fn ∧ (fn.name == "runtime.NumGoroutine") = false ∧ fn.body.isNone = false) : SimS P gl (ρ.f 169) fun args σ => (D_String (ρ.t 5) args σ).run := by
  refine ⟨hent, ?_⟩
  intro args σ x σ' hx H w vs hok hrel
  unfold D_String at hx
  split at hx
  · rename_i o p xs v e ty
    obtain ⟨h1, q1⟩ := Tr.chk_some hx
    obtain ⟨h2, q2⟩ := Tr.chk_some q1
    obtain ⟨h3, q3⟩ := Tr.chk_some q2
    obtain ⟨h4, q4⟩ := Tr.chk_some q3
    clear hx q1 q2 q3
    have h4 : e = ρ.t 5 := by simpa using h4
    subst h4
    simp at h2 h3
    subst h3
    cases q4
    unfold okBytes unBytes at *
    cases hl : pbytes xs with
    | none => simp [hl] at h1
    | some l =>
      obtain ⟨b, hb, rfl⟩ := one_ptr hrel
      obtain ⟨hB, us, ext, T, hheap, hus⟩ := hok.obj 1 b _ hb rfl
      cases hus with
      | cons _ u0 _ us hu0 hus =>
        cases hus with
        | cons _ u1 _ us hu1 hus =>
          cases hus
          cases hu1 with
          | sl a len cap k _ vss _ hlen hcap hm hrr hrow htag =>
            obtain ⟨ns, rfl, rfl⟩ := pbytes_some hl
            have hvs := relLL_ints hrr
            subst hvs
            obtain ⟨U, hU, hle, hUv⟩ := htag
            have hUs : (U.ver, U.k, U.e) = (len, 1, ρ.t 5) := by
              have hh := hok.tkl
              have : (H.tk.map fun T => (T.ver, T.k, T.e))[0]? = some (U.ver, U.k, U.e) := by rw [List.getElem?_map, hU]; rfl
              rw [hh] at this
              simp at this
              rw [← this.1, ← this.2.1, ← this.2.2]
              simp [← hlen]
            simp only [Prod.mk.injEq] at hUs
            obtain ⟨hUver, hUk, hUe⟩ := hUs
            obtain ⟨rfl, hcapU, hkU⟩ := hUv hUver.symm
            obtain ⟨hBT, hTob, cur, fz, hcur, hvc, hcm, hcs⟩ := hok.tok 0 U hU
            have hln : (ns.map fun n => UInt8.ofNat n.toNat).length = len := by simpa using hlen
            have hk1 : k = 1 := by rw [hkU, hUk]
            subst hk1
            have hln : ns.length = len := by simpa using hlen
            have hwf : ∀ (j : Nat) (n : Int), ns[j]? = some n → 0 ≤ n ∧ n < 256 := by
              intro j n hj
              have := (relLL_iff.1 hrr).2 j [.int .u8 n] [.int .u8 n] (by simp [hj]) (by simp [hj])
              cases this with
              | cons _ _ _ _ hv _ =>
                cases hv with
                | int _ _ hwf => simp [Lit.wf, IntKind.min, IntKind.max, IntKind.signed, IntKind.bits] at hwf; omega
            have hll : (ns.map fun n => UInt8.ofNat n.toNat).length = len := by simpa using hln
            refine (Any.Builder_String_at L X b U.blk cap (ns.map fun n => UInt8.ofNat n.toNat) w u0 #[] cur T fz (by rw [hll, Lib.cell_of_heap hheap]; rfl) (by rw [← hUe]; exact hcur) (by rw [hll]; exact hcap) hm (by rw [hcs, hUk, hcapU, Nat.mul_one]) ?_ ?_).mono ?_
            · intro j x hj
              rw [List.getElem?_map] at hj
              cases hn : ns[j]? with
              | none => simp [hn] at hj
              | some n =>
                simp [hn] at hj
                subst hj
                have hb := hwf j n hn
                obtain ⟨hk, a', ha', hcell⟩ := hrow j [.int .u8 n] (by simp [hn])
                injection ha' with ha'
                subst ha'
                have := (hcell 0 _ rfl).2
                rw [Nat.mul_one, add_add, Nat.add_zero] at this
                rw [this]
                simp
                omega
            · intro hnil
              apply h2
              simpa using hnil
            · rintro e w' ⟨rfl, rfl⟩
              rw [hll]
              have hcur' : w.drew.heap[U.blk]? = some (.cells cur U.e fz) := hcur
              obtain ⟨fz', hfz'⟩ := freeze_at (n := len) hcur'
              have hrest := freeze_rest w.drew U.blk len
              have hset := set_tok' (T' := ⟨U.blk, maxLen + 1, U.cap, U.k, U.e⟩) (w' := w.drew.freeze ⟨U.blk, 0, none⟩ len) hok hU rfl (by show U.ver < maxLen + 1; omega) hcm (fun _ => by rw [freeze_drawn]; exact Nat.le_succ _) hrest.1 hrest.2.1 hrest.2.2 (by rw [freeze_size]; exact Nat.le_refl _) (.inl rfl)
                (fun k _ hk => freeze_other w.drew U.blk len k hk) (fz' := fz') (by intro h; simp at h; omega) hcur hfz' hcs (fun _ off _ => rfl)
              refine ⟨_, rfl, _, hset.1, ?_, ?_⟩
              · have := hset.2
                simpa [hUk, hUe] using this
              · exact .str (List.map (fun n => UInt8.ofNat n.toNat) ns) (by simp; omega)
  · cases hx
end Go.Pv

set_option maxHeartbeats 4000000
set_option maxRecDepth 200000
set_option linter.unusedSimpArgs false
set_option linter.unusedVariables false
namespace Go.Pv
open Go Go.Proofs Go.RowKit

/-! ### strings.Builder -/
section
variable (b : Nat) (w : World)
theorem copyCheck_used (h0 : w.cell? ⟨b, 0, none⟩ = some (.pointer (some ⟨b, 0, none⟩))) : Calls Tryd.prog 112 #[.pointer (some ⟨b, 0, none⟩)] w fun e w' => e = .returned (.tuple #[]) ∧ w' = w := by
  obtain ⟨j, hj, _⟩ : ∃ j, Tryd.prog.info? 117 = some j ∧ j.size = 2 := ⟨_, rfl, rfl⟩
  have mixed : Tryd.prog.follows .mixedOrders = true := noMixed
  have t72 := Tryd.underlying117; have a72 := Tryd.isAgg117; have z72 := Tryd.sizeOf117; have v72 := Tryd.zeroValue117; have u72 := run_underlying Tryd.underlying117
  have t70 := Tryd.underlying114; have a70 := Tryd.isAgg114; have z70 := Tryd.sizeOf114; have v70 := Tryd.zeroValue114; have u70 := run_underlying Tryd.underlying114
  have t164 := Tryd.underlying152; have a164 := Tryd.isAgg152; have z164 := Tryd.sizeOf152; have v164 := Tryd.zeroValue152; have u164 := run_underlying Tryd.underlying152
  go_enter Tryd.func112, Tryd.ntmps112
  go_wp2
  rw [Lib.run_neq_ptr_same w _ t70 hj]
  go_wp2
  go_end0
  exact ⟨rfl, rfl⟩
theorem copyCheck_fresh (h0 : w.cell? ⟨b, 0, none⟩ = some (.pointer none)) (hsh : w.shape? b = some (117, 2)) (hfz : w.frozen? ⟨b, 0, none⟩ = false) :
    Calls Tryd.prog 112 #[.pointer (some ⟨b, 0, none⟩)] w fun e w' => e = .returned (.tuple #[]) ∧ w' = w.setCell ⟨b, 0, none⟩ (.pointer (some ⟨b, 0, none⟩)) := by
  obtain ⟨j, hj, hjs⟩ : ∃ j, Tryd.prog.info? 117 = some j ∧ j.size = 2 := ⟨_, rfl, rfl⟩
  have mixed : Tryd.prog.follows .mixedOrders = true := noMixed
  have t72 := Tryd.underlying117; have a72 := Tryd.isAgg117; have z72 := Tryd.sizeOf117; have v72 := Tryd.zeroValue117; have u72 := run_underlying Tryd.underlying117
  have t70 := Tryd.underlying114; have a70 := Tryd.isAgg114; have z70 := Tryd.sizeOf114; have v70 := Tryd.zeroValue114; have u70 := run_underlying Tryd.underlying114
  have t164 := Tryd.underlying152; have a164 := Tryd.isAgg152; have z164 := Tryd.sizeOf152; have v164 := Tryd.zeroValue152; have u164 := run_underlying Tryd.underlying152
  go_enter Tryd.func112, Tryd.ntmps112
  go_wp2
  rw [Lib.run_to_unsafe w ⟨b, 0, none⟩ t70 t164 hj (by rw [hjs]; decide) hsh (Nat.zero_lt_succ 1)]
  simp only [Result.andThen]
  rw [Oper.upon_value]
  go_wp2
  rw [run_callFunc_extern Tryd.func125 (by kernel_rfl) (by kernel_rfl) (by kernel_rfl) (e := Extern.AbiNoEscape.same) (by kernel_rfl)]
  rw [Lib.run_noEscape]
  simp only [Result.andThen]
  rw [Oper.upon_value]
  go_wp2
  rw [Lib.run_from_unsafe w ⟨b, 0, none⟩ t164 t70 hj hsh (by kernel_rfl)]
  simp only [Result.andThen]
  rw [Oper.upon_value]
  go_wp2
  go_end0
  exact ⟨rfl, rfl⟩
end
theorem sim_copyCheck (gl : Nat → Option Obj) : SimS Tryd.prog gl 112 fun args σ => (D_copyCheck 117 args σ).run :=
  sim_copyCheck_of (by decide) (fun b w => copyCheck_fresh b w) (fun b w => copyCheck_used b w) ⟨_, Tryd.func112, by rfl, by rfl⟩
theorem sim_String (gl : Nat → Option Obj) : SimS Tryd.prog gl 96 fun args σ => (D_String 5 args σ).run :=
  Any.sim_String Tryd.lays169 Tryd.Builder_Extra_169 ⟨_, Tryd.func96, by rfl, by rfl⟩

def D_WB : List PV → Store → Tr (PV × Store)
  | [.ptr 1 0, .int .u8 c], ⟨[o, [.nilp, .sl [] .full]], [], [t0, 117]⟩ => .ret (.nili, ⟨[o, [.ptr 1 0, .sl [[.int .u8 c]] (.tok 0)]], [(1, 1, 5)], [t0, 117]⟩)
  | [.ptr 1 0, .int .u8 c], ⟨[o, [.ptr 1 0, .sl xs (.tok 0)]], [(v, 1, 5)], [t0, 117]⟩ => Tr.chk (okGrow xs [[.int .u8 c]] 1) (Tr.chk (okSize xs 1) (Tr.chk (nEq v (nXs xs))
      (.ret (.nili, ⟨[o, [.ptr 1 0, .sl (xApp xs [[.int .u8 c]]) (.tok 0)]], [(nXs (xApp xs [[.int .u8 c]]), 1, 5)], [t0, 117]⟩))))
  | _, _ => .fail
theorem sim_WB (gl : Nat → Option Obj) : SimS Tryd.prog gl 93 fun args σ => (D_WB args σ).run := by
  refine SimS.of_tree (G := ofL [(112, .store (D_copyCheck 117))]) (L := fun _ _ _ => .fail) tbT_ok (gamOk_store (sim_copyCheck gl) gamOk_nil) noMixed Tryd.func93 rfl (by rfl) (by kernel_rfl) (loopOk_none (by kernel_rfl)) ?_
  intro args σ x σ' h hr
  unfold D_WB at h
  split at h
  · rename_i c o t0
    cases h
    refine Tr.run_as (Tr.ite true
        (Tr.ite (okGrow [] [[PV.int IntKind.u8 c]] 1)
          (Tr.ite (okNews [[PV.int IntKind.u8 c]] 1)
            (Tr.ite (okSize [] 1) (Tr.ret (PV.nili, Store.mk [o, [PV.ptr 1 0, PV.sl (xApp [] [[PV.int IntKind.u8 c]]) (Tag.tok 0)]] [(nXs (xApp [] [[PV.int IntKind.u8 c]]), 1, 5)] [t0, 117])) Tr.fail)
            Tr.fail)
          Tr.fail)
        Tr.fail) (by kernel_rfl) ?_
    simp [one]
  · rename_i c o xs v t0
    obtain ⟨h1, q1⟩ := Tr.chk_some h
    obtain ⟨h2, q2⟩ := Tr.chk_some q1
    obtain ⟨h3, q3⟩ := Tr.chk_some q2
    cases q3
    refine Tr.run_as (Tr.ite (okGrow xs [[PV.int IntKind.u8 c]] 1)
        (Tr.ite (okNews [[PV.int IntKind.u8 c]] 1)
          (Tr.ite (okSize xs 1)
            (Tr.ite (nEq v (nXs xs)) (Tr.ret (PV.nili, Store.mk [o, [PV.ptr 1 0, PV.sl (xApp xs [[PV.int IntKind.u8 c]]) (Tag.tok 0)]] [(nXs (xApp xs [[PV.int IntKind.u8 c]]), 1, 5)] [t0, 117])) Tr.fail)
            Tr.fail)
          Tr.fail)
        Tr.fail) (by kernel_rfl) ?_
    simp at h1 h2 h3
    simp [h1, h2, h3, one]
  · cases h
def D_WS : List PV → Store → Tr (PV × Store)
  | [.ptr 1 0, .str l], ⟨[o, [.ptr 1 0, .sl xs (.tok 0)]], [(v, 1, 5)], [t0, 117]⟩ => Tr.chk (bNot (xNil (bytesOf l))) (Tr.chk (okGrow xs (bytesOf l) 1) (Tr.chk (okSize xs 1) (Tr.chk (nEq v (nXs xs))
      (.ret (.tup [.int .i64 (sLen l), .nili], ⟨[o, [.ptr 1 0, .sl (xApp xs (bytesOf l)) (.tok 0)]], [(nXs (xApp xs (bytesOf l)), 1, 5)], [t0, 117]⟩)))))
  | _, _ => .fail
theorem sim_WS (gl : Nat → Option Obj) : SimS Tryd.prog gl 94 fun args σ => (D_WS args σ).run := by
  refine SimS.of_tree (G := ofL [(112, .store (D_copyCheck 117))]) (L := fun _ _ _ => .fail) tbT_ok (gamOk_store (sim_copyCheck gl) gamOk_nil) noMixed Tryd.func94 rfl (by rfl) (by kernel_rfl) (loopOk_none (by kernel_rfl)) ?_
  intro args σ x σ' h hr
  unfold D_WS at h
  split at h
  · rename_i l o xs v t0
    obtain ⟨h0, q0⟩ := Tr.chk_some h
    obtain ⟨h1, q1⟩ := Tr.chk_some q0
    obtain ⟨h2, q2⟩ := Tr.chk_some q1
    obtain ⟨h3, q3⟩ := Tr.chk_some q2
    cases q3
    refine Tr.run_as (Tr.ite (okGrow xs (bytesOf l) 1)
        (Tr.ite (okNews (bytesOf l) 1)
          (Tr.ite (okSize xs 1)
            (Tr.ite (xNil (bytesOf l)) (Tr.ret (PV.tup [PV.int IntKind.i64 (sLen l), PV.nili], Store.mk [o, [PV.ptr 1 0, PV.sl xs (Tag.tok 0)]] [(v, 1, 5)] [t0, 117]))
              (Tr.ite (nEq v (nXs xs))
                (Tr.ret (PV.tup [PV.int IntKind.i64 (sLen l), PV.nili], Store.mk [o, [PV.ptr 1 0, PV.sl (xApp xs (bytesOf l)) (Tag.tok 0)]] [(nXs (xApp xs (bytesOf l)), 1, 5)] [t0, 117])) Tr.fail))
            Tr.fail)
          Tr.fail)
        Tr.fail) (by kernel_rfl) ?_
    simp at h0 h1 h2 h3
    simp [h0, h1, h2, h3]
  · cases h

/-! ### value.Text -/
def textW (k n : Int) (s : List UInt8) : List UInt8 := if isV k n s = true then (if k = 1 then itoaV n else symV s) else []
def F_Text : List PV → Tr PV
  | [.agg [.int .i64 k, .int .i64 n, .str s]] => .ret (.tup [.str (textW k n s), .int .i64 (checkV k n s)])
  | _ => .fail
def d_Text : List PV → Store → Option (Int × Int × List UInt8 × Int × Int)
  | [.ptr 0 0, .ptr 1 0, .int .i64 m, .int .i64 i], ⟨[[.int .i64 k, .int .i64 n, .str s], [.ptr 1 0, .sl [[.int .u8 34]] (.tok 0)]], [(1, 1, 5)], [36, 117]⟩ => some (k, n, s, m, i)
  | _, _ => none
def st_Text (k n : Int) (s : List UInt8) (b : List UInt8) : Store := ⟨[[.int .i64 k, .int .i64 n, .str s], [.ptr 1 0, .sl (bytesOf b) (.tok 0)]], [(nLen b, 1, 5)], [36, 117]⟩
def r_Text : Int × Int × List UInt8 × Int × Int → Tr (PExit × List (Nat × PV) × Store)
  | (k, n, s, m, i) => Tr.chk (iEq i 0) (Tr.chk (iEq m (sLen s)) (Tr.chk (iLe (sLen s) 256) (.ret (.exit 0, [(1, .ptr 0 0), (5, .ptr 1 0)], ⟨[[.int .i64 k, .int .i64 n, .str s], [.ptr 1 0, .sl (bytesOf (symH s)) (.tok 0)]], [(nLen (symH s), 1, 5)], [36, 117]⟩))))
def L_Text : LpsT := fun r fr σ => if r = 9 then oracle 34 [1, 5, 21, 22] d_Text r_Text fr σ else .fail
noncomputable def c_Text : Code := loopN Tryd.f72 0
theorem loop_Text (gl : Nat → Option Obj) : ∀ vs σ a e out σ', d_Text vs σ = some a → (r_Text a).run = some (e, out, σ') → LDoes Tryd.prog gl c_Text (mk 34 ([1, 5, 21, 22].zip vs)) σ e (mk 34 out) σ' := by
  intro vs st a e out σ' hd hr
  unfold d_Text at hd
  split at hd
  · rename_i m i k n s
    cases hd
    obtain ⟨h1, h2⟩ := Tr.chk_some hr
    obtain ⟨h3, h4⟩ := Tr.chk_some h2
    obtain ⟨h5, h6⟩ := Tr.chk_some h4
    simp at h1 h3 h5
    subst h1 h3
    clear hr h2 h4
    cases h6
    have hG : GamOk Tryd.prog gl (gam (ofL [(95, .pure F_one), (94, .store D_WS)])) := gamOk_cons (sim_one gl) (gamOk_store (sim_WS gl) gamOk_nil)
    have key : ∀ (m : Nat) (i : Int) (b : List UInt8), 0 ≤ i → i + m = s.length → b ++ symB (s.drop i.toNat) = symH s → b.length ≤ 1 + 4 * i.toNat →
        LDoes Tryd.prog gl c_Text (mk 34 ([1, 5, 21, 22].zip [.ptr 0 0, .ptr 1 0, .int .i64 (sLen s), .int .i64 i])) (st_Text k n s b) (.exit 0) (mk 34 [(1, .ptr 0 0), (5, .ptr 1 0)]) (st_Text k n s (symH s)) := by
      intro m
      induction m with
      | zero =>
        intro i b h0 hi hf hb
        have e1 : s.drop i.toNat = [] := by apply List.drop_eq_nil_of_le; omega
        rw [e1] at hf
        simp [symB] at hf
        subst hf
        unfold st_Text
        refine LDoes.round tbT_ok hG noMixed (L := fun _ _ _ => .fail) (loopOk_none (by kernel_rfl)) (by kernel_rfl) ?_
        refine Tr.all_as (Tr.ite (iLt i (sLen s))
            (Tr.ite (okIdx s i)
              (Tr.ite (bNot (xNil (bytesOf (oneV (sAt s i)))))
                (Tr.ite (okGrow (bytesOf (symH s)) (bytesOf (oneV (sAt s i))) 1)
                  (Tr.ite (okSize (bytesOf (symH s)) 1)
                    (Tr.ite (nEq (nLen (symH s)) (nXs (bytesOf (symH s))))
                      (Tr.ret
                        (PExit.normal, [23],
                          [PV.top, PV.ptr 0 0, PV.top, PV.top, PV.top, PV.ptr 1 0, PV.int IntKind.i64 i, PV.top, PV.top, PV.top, PV.top, PV.top, PV.top, PV.top, PV.top, PV.top, PV.top, PV.top, PV.top, PV.top,
                            PV.top, PV.int IntKind.i64 (sLen s), PV.int IntKind.i64 (iAdd IntKind.i64 i 1), PV.bool true, PV.int IntKind.i64 i, PV.ptr 0 2, PV.str s, PV.int IntKind.i64 i,
                            PV.int IntKind.u8 (sAt s i), PV.str (oneV (sAt s i)), PV.tup [PV.int IntKind.i64 (sLen (oneV (sAt s i))), PV.nili], PV.int IntKind.i64 (iAdd IntKind.i64 i 1), PV.top, PV.top],
                          Store.mk [[PV.int IntKind.i64 k, PV.int IntKind.i64 n, PV.str s], [PV.ptr 1 0, PV.sl (xApp (bytesOf (symH s)) (bytesOf (oneV (sAt s i)))) (Tag.tok 0)]]
                            [(nXs (xApp (bytesOf (symH s)) (bytesOf (oneV (sAt s i)))), 1, 5)] [36, 117]))
                      Tr.fail)
                    Tr.fail)
                  Tr.fail)
                Tr.fail)
              Tr.fail)
            (Tr.ret
              (PExit.exit 0, [23],
                [PV.top, PV.ptr 0 0, PV.top, PV.top, PV.top, PV.ptr 1 0, PV.top, PV.top, PV.top, PV.top, PV.top, PV.top, PV.top, PV.top, PV.top, PV.top, PV.top, PV.top, PV.top, PV.top, PV.top,
                  PV.int IntKind.i64 (sLen s), PV.int IntKind.i64 i, PV.bool false, PV.top, PV.top, PV.top, PV.top, PV.top, PV.top, PV.top, PV.top, PV.top, PV.top],
                Store.mk [[PV.int IntKind.i64 k, PV.int IntKind.i64 n, PV.str s], [PV.ptr 1 0, PV.sl (bytesOf (symH s)) (Tag.tok 0)]] [(nLen (symH s), 1, 5)] [36, 117]))) (by kernel_rfl) ?_
        exact Tr.all_f (by simp; omega) ⟨rfl, by simp [Weak, mk, mkFrom, look], rfl⟩
      | succ m ih =>
        intro i b h0 hi hf hb
        obtain ⟨v, hv⟩ := get_lt (l := s) (i := i.toNat) (by omega)
        rw [drop_of_get hv] at hf
        have hone := oneV_len v.toNat
        have e2 : (i + 1).toNat = i.toNat + 1 := by omega
        unfold st_Text
        refine LDoes.round tbT_ok hG noMixed (L := fun _ _ _ => .fail) (loopOk_none (by kernel_rfl)) (by kernel_rfl) ?_
        refine Tr.all_as (Tr.ite (iLt i (sLen s))
            (Tr.ite (okIdx s i)
              (Tr.ite (bNot (xNil (bytesOf (oneV (sAt s i)))))
                (Tr.ite (okGrow (bytesOf b) (bytesOf (oneV (sAt s i))) 1)
                  (Tr.ite (okSize (bytesOf b) 1)
                    (Tr.ite (nEq (nLen b) (nXs (bytesOf b)))
                      (Tr.ret
                        (PExit.normal, [23],
                          [PV.top, PV.ptr 0 0, PV.top, PV.top, PV.top, PV.ptr 1 0, PV.int IntKind.i64 i, PV.top, PV.top, PV.top, PV.top, PV.top, PV.top, PV.top, PV.top, PV.top, PV.top, PV.top, PV.top, PV.top,
                            PV.top, PV.int IntKind.i64 (sLen s), PV.int IntKind.i64 (iAdd IntKind.i64 i 1), PV.bool true, PV.int IntKind.i64 i, PV.ptr 0 2, PV.str s, PV.int IntKind.i64 i,
                            PV.int IntKind.u8 (sAt s i), PV.str (oneV (sAt s i)), PV.tup [PV.int IntKind.i64 (sLen (oneV (sAt s i))), PV.nili], PV.int IntKind.i64 (iAdd IntKind.i64 i 1), PV.top, PV.top],
                          Store.mk [[PV.int IntKind.i64 k, PV.int IntKind.i64 n, PV.str s], [PV.ptr 1 0, PV.sl (xApp (bytesOf b) (bytesOf (oneV (sAt s i)))) (Tag.tok 0)]]
                            [(nXs (xApp (bytesOf b) (bytesOf (oneV (sAt s i)))), 1, 5)] [36, 117]))
                      Tr.fail)
                    Tr.fail)
                  Tr.fail)
                Tr.fail)
              Tr.fail)
            (Tr.ret
              (PExit.exit 0, [23],
                [PV.top, PV.ptr 0 0, PV.top, PV.top, PV.top, PV.ptr 1 0, PV.top, PV.top, PV.top, PV.top, PV.top, PV.top, PV.top, PV.top, PV.top, PV.top, PV.top, PV.top, PV.top, PV.top, PV.top,
                  PV.int IntKind.i64 (sLen s), PV.int IntKind.i64 i, PV.bool false, PV.top, PV.top, PV.top, PV.top, PV.top, PV.top, PV.top, PV.top, PV.top, PV.top],
                Store.mk [[PV.int IntKind.i64 k, PV.int IntKind.i64 n, PV.str s], [PV.ptr 1 0, PV.sl (bytesOf b) (Tag.tok 0)]] [(nLen b, 1, 5)] [36, 117]))) (by kernel_rfl) ?_
        rw [sAt_get hv, xApp_bytes, nXs_bytes, nXs_bytes]
        refine Tr.all_t (by simp; omega) <| Tr.all_t (okIdx_get h0 hv) <| Tr.all_t (by rw [xNil_bytes hone.1]; rfl) <| Tr.all_t (okGrow_bytes (by omega)) <| Tr.all_t (okSize_bytes _) <| Tr.all_t (by simp) ?_
        refine LDoes.into ?_ (ih (i + 1) (b ++ oneV v.toNat) (by omega) (by omega) (by rw [← hf, e2]; simp [symB]) (by simp; omega))
        simp [Weak, mk, mkFrom, look, iAdd, wrap_i64 (n := i + 1) (by omega)]
    have hz := key s.length 0 [34] (by omega) (by omega) (by simp [symH]) (by simp)
    exact hz
  · cases hd
theorem sim_Text {gl : Nat → Option Obj} (hgl : GlPow gl) : SimP Tryd.prog gl 72 fun args => (F_Text args).run := by
  refine SimP.of_tree (G := ofL [(65, .pure F_Check), (92, .pure F_FormatInt), (93, .store D_WB), (96, .store (D_String 5))]) (L := L_Text) tbT_ok (gamOk_cons (sim_Check gl) (gamOk_cons (sim_FormatInt hgl) (gamOk_store (sim_WB gl) (gamOk_store (sim_String gl) gamOk_nil)))) noMixed Tryd.func72 rfl (by rfl) (by kernel_rfl) (loopOk_one (r := 9) (c1 := c_Text) (by kernel_rfl) ?_) ?_
  · intro fr σ e fr' σ' hh
    simp only [lps, L_Text, if_true] at hh
    exact oracle_ok (loop_Text gl) fr σ e fr' σ' hh
  intro args x h hr
  unfold F_Text at h
  split at h
  · rename_i k n s
    cases h
    refine Tr.run_as (Tr.ite (iNe (checkV k n s) 0) (Tr.ret (PV.tup [PV.str [], PV.int IntKind.i64 (checkV k n s)]))
        (Tr.ite (iEq k 1) (Tr.ite (iEq 10 10) (Tr.ret (PV.tup [PV.str (itoaV n), PV.int IntKind.i64 0])) Tr.fail)
          (Tr.ite (iEq 0 0)
            (Tr.ite (iEq (sLen s) (sLen s))
              (Tr.ite (iLe (sLen s) 256)
                (Tr.ite (okGrow (bytesOf (symH s)) [[PV.int IntKind.u8 34]] 1)
                  (Tr.ite (okSize (bytesOf (symH s)) 1)
                    (Tr.ite (nEq (nLen (symH s)) (nXs (bytesOf (symH s))))
                      (Tr.ite (okBytes (xApp (bytesOf (symH s)) [[PV.int IntKind.u8 34]]))
                        (Tr.ite (bNot (xNil (xApp (bytesOf (symH s)) [[PV.int IntKind.u8 34]])))
                          (Tr.ite (nEq (nXs (xApp (bytesOf (symH s)) [[PV.int IntKind.u8 34]])) (nXs (xApp (bytesOf (symH s)) [[PV.int IntKind.u8 34]])))
                            (Tr.ite true (Tr.ret (PV.tup [PV.str (unBytes (xApp (bytesOf (symH s)) [[PV.int IntKind.u8 34]])), PV.int IntKind.i64 0])) Tr.fail) Tr.fail)
                          Tr.fail)
                        Tr.fail)
                      Tr.fail)
                    Tr.fail)
                  Tr.fail)
                Tr.fail)
              Tr.fail)
            Tr.fail))) (by kernel_rfl) ?_
    rw [checkV_is]
    cases hI : isV k n s with
    | false => simp [textW, hI]
    | true =>
      by_cases hk : k = 1
      · subst hk
        simp [textW, hI]
      · have h2 : s.length ≤ 256 := by
          unfold isV at hI
          simp at hI
          omega
        have e3 : ([[PV.int .u8 34]] : List (List PV)) = bytesOf [34] := rfl
        have hs := symB_len s
        have hl : (symH s).length = 1 + (symB s).length := by simp [symH]; omega
        have e4 : okGrow (bytesOf (symH s)) (bytesOf [34]) 1 = true := okGrow_bytes (by simp; omega)
        have e5 : symV s = symH s ++ [34] := by simp [symV, symH]
        have e6 : ¬ (symH s ++ [34] = []) := by simp
        rw [e3]
        simp [textW, hI, hk, xApp_bytes, e4, e5, nXs_bytes, -okGrow_eq, -xApp_eq]
        exact ⟨by omega, by simp [bytesOf]⟩
  · cases h
end Go.Pv
