/- Part 5 of the proof: pure values for the machine's values, what functions compute over them, and laws of what is computed. Conditions: none beyond each theorem's own premises. -/
import Derived.Test.YtejhcaaeindkjaaDoorPvG4
set_option maxHeartbeats 4000000
set_option maxRecDepth 200000
set_option linter.unusedSimpArgs false
set_option linter.unusedVariables false
namespace Go.Pv
open Go Go.Proofs
noncomputable def G_rsmall : GamT := ofL []
theorem gok_rsmall (gl : Gl) : GamOk Tryd.prog gl (gam G_rsmall) := gamOk_nil
noncomputable def L_rsmall : LpsT := fun r fr σ => .fail
noncomputable def rsmall_Tr (c : Int) : Tr PV := Tr.ite (iLe 97 c) (Tr.ret (PV.bool (iLe c 122))) (Tr.ret (PV.bool false))
theorem rsmall_T (c : Int) : (tcall tbT G_rsmall L_rsmall Tryd.f32 [.int .u8 c]).flat = rsmall_Tr c := by kernel_rfl
noncomputable def rsmall_W (c : Int) : Option PV := (rsmall_Tr c).run
noncomputable def rsmall_b (c : Int) : Bool := (gBool (gVal (rsmall_W c)))
noncomputable def rsmall_is0 (c : Int) : Bool := isW (rsmall_W c) (.bool (rsmall_b c))
noncomputable def F_rsmall : List PV → Tr PV | [.int .u8 c] => .ite (rsmall_is0 c) (.ret (.bool (rsmall_b c))) (.fail) | _ => .fail
theorem sim_rsmall (gl : Gl) : SimP Tryd.prog gl 32 fun args => (F_rsmall args).run := by
  refine SimP.of_flat (G := G_rsmall) (L := L_rsmall) tbT_ok (gok_rsmall gl ) noMixed Tryd.func32 rfl (by rfl) (by kernel_rfl) (loopOk_none (by kernel_rfl)) ?_
  intro args x h
  unfold F_rsmall at h
  split at h
  · exact (congrArg Tr.run (rsmall_T _)).trans (ite_isW h fun h => by cases h)
  · cases h
noncomputable def G_rgreat : GamT := ofL []
theorem gok_rgreat (gl : Gl) : GamOk Tryd.prog gl (gam G_rgreat) := gamOk_nil
noncomputable def L_rgreat : LpsT := fun r fr σ => .fail
noncomputable def rgreat_Tr (c : Int) : Tr PV := Tr.ite (iLe 65 c) (Tr.ret (PV.bool (iLe c 90))) (Tr.ret (PV.bool false))
theorem rgreat_T (c : Int) : (tcall tbT G_rgreat L_rgreat Tryd.f33 [.int .u8 c]).flat = rgreat_Tr c := by kernel_rfl
noncomputable def rgreat_W (c : Int) : Option PV := (rgreat_Tr c).run
noncomputable def rgreat_b (c : Int) : Bool := (gBool (gVal (rgreat_W c)))
noncomputable def rgreat_is0 (c : Int) : Bool := isW (rgreat_W c) (.bool (rgreat_b c))
noncomputable def F_rgreat : List PV → Tr PV | [.int .u8 c] => .ite (rgreat_is0 c) (.ret (.bool (rgreat_b c))) (.fail) | _ => .fail
theorem sim_rgreat (gl : Gl) : SimP Tryd.prog gl 33 fun args => (F_rgreat args).run := by
  refine SimP.of_flat (G := G_rgreat) (L := L_rgreat) tbT_ok (gok_rgreat gl ) noMixed Tryd.func33 rfl (by rfl) (by kernel_rfl) (loopOk_none (by kernel_rfl)) ?_
  intro args x h
  unfold F_rgreat at h
  split at h
  · exact (congrArg Tr.run (rgreat_T _)).trans (ite_isW h fun h => by cases h)
  · cases h
noncomputable def G_rdigit : GamT := ofL []
theorem gok_rdigit (gl : Gl) : GamOk Tryd.prog gl (gam G_rdigit) := gamOk_nil
noncomputable def L_rdigit : LpsT := fun r fr σ => .fail
noncomputable def rdigit_Tr (c : Int) : Tr PV := Tr.ite (iLe 48 c) (Tr.ret (PV.bool (iLe c 57))) (Tr.ret (PV.bool false))
theorem rdigit_T (c : Int) : (tcall tbT G_rdigit L_rdigit Tryd.f35 [.int .u8 c]).flat = rdigit_Tr c := by kernel_rfl
noncomputable def rdigit_W (c : Int) : Option PV := (rdigit_Tr c).run
noncomputable def rdigit_b (c : Int) : Bool := (gBool (gVal (rdigit_W c)))
noncomputable def rdigit_is0 (c : Int) : Bool := isW (rdigit_W c) (.bool (rdigit_b c))
noncomputable def F_rdigit : List PV → Tr PV | [.int .u8 c] => .ite (rdigit_is0 c) (.ret (.bool (rdigit_b c))) (.fail) | _ => .fail
theorem sim_rdigit (gl : Gl) : SimP Tryd.prog gl 35 fun args => (F_rdigit args).run := by
  refine SimP.of_flat (G := G_rdigit) (L := L_rdigit) tbT_ok (gok_rdigit gl ) noMixed Tryd.func35 rfl (by rfl) (by kernel_rfl) (loopOk_none (by kernel_rfl)) ?_
  intro args x h
  unfold F_rdigit at h
  split at h
  · exact (congrArg Tr.run (rdigit_T _)).trans (ite_isW h fun h => by cases h)
  · cases h
noncomputable def G_rinner : GamT := ofL [(32, .pure F_rsmall), (33, .pure F_rgreat), (35, .pure F_rdigit)]
theorem gok_rinner (gl : Gl) : GamOk Tryd.prog gl (gam G_rinner) := (gamOk_cons (sim_rsmall gl) (gamOk_cons (sim_rgreat gl) (gamOk_cons (sim_rdigit gl) gamOk_nil)))
noncomputable def L_rinner : LpsT := fun r fr σ => .fail
noncomputable def rinner_Tr (c : Int) : Tr PV := Tr.ite (rsmall_is0 c) (Tr.ite (rsmall_b c) (Tr.ret (PV.bool true)) (Tr.ite (rgreat_is0 c) (Tr.ite (rgreat_b c) (Tr.ret (PV.bool true)) (Tr.ite (rdigit_is0 c) (Tr.ite (rdigit_b c) (Tr.ret (PV.bool true)) (Tr.ret (PV.bool (iEq c 95)))) Tr.fail)) Tr.fail)) Tr.fail
theorem rinner_T (c : Int) : (tcall tbT G_rinner L_rinner Tryd.f55 [.int .u8 c]).flat = rinner_Tr c := by kernel_rfl
noncomputable def rinner_W (c : Int) : Option PV := (rinner_Tr c).run
noncomputable def rinner_b (c : Int) : Bool := (gBool (gVal (rinner_W c)))
noncomputable def rinner_is0 (c : Int) : Bool := isW (rinner_W c) (.bool (rinner_b c))
noncomputable def F_rinner : List PV → Tr PV | [.int .u8 c] => .ite (rinner_is0 c) (.ret (.bool (rinner_b c))) (.fail) | _ => .fail
theorem sim_rinner (gl : Gl) : SimP Tryd.prog gl 55 fun args => (F_rinner args).run := by
  refine SimP.of_flat (G := G_rinner) (L := L_rinner) tbT_ok (gok_rinner gl ) noMixed Tryd.func55 rfl (by rfl) (by kernel_rfl) (loopOk_none (by kernel_rfl)) ?_
  intro args x h
  unfold F_rinner at h
  split at h
  · exact (congrArg Tr.run (rinner_T _)).trans (ite_isW h fun h => by cases h)
  · cases h
noncomputable def G_rblank : GamT := ofL []
theorem gok_rblank (gl : Gl) : GamOk Tryd.prog gl (gam G_rblank) := gamOk_nil
noncomputable def L_rblank : LpsT := fun r fr σ => .fail
noncomputable def rblank_Tr (c : Int) : Tr PV := Tr.ite (iEq c 32) (Tr.ret (PV.bool true)) (Tr.ite (iEq c 9) (Tr.ret (PV.bool true)) (Tr.ite (iEq c 10) (Tr.ret (PV.bool true)) (Tr.ret (PV.bool (iEq c 13)))))
theorem rblank_T (c : Int) : (tcall tbT G_rblank L_rblank Tryd.f31 [.int .u8 c]).flat = rblank_Tr c := by kernel_rfl
noncomputable def rblank_W (c : Int) : Option PV := (rblank_Tr c).run
noncomputable def rblank_b (c : Int) : Bool := (gBool (gVal (rblank_W c)))
noncomputable def rblank_is0 (c : Int) : Bool := isW (rblank_W c) (.bool (rblank_b c))
noncomputable def F_rblank : List PV → Tr PV | [.int .u8 c] => .ite (rblank_is0 c) (.ret (.bool (rblank_b c))) (.fail) | _ => .fail
theorem sim_rblank (gl : Gl) : SimP Tryd.prog gl 31 fun args => (F_rblank args).run := by
  refine SimP.of_flat (G := G_rblank) (L := L_rblank) tbT_ok (gok_rblank gl ) noMixed Tryd.func31 rfl (by rfl) (by kernel_rfl) (loopOk_none (by kernel_rfl)) ?_
  intro args x h
  unfold F_rblank at h
  split at h
  · exact (congrArg Tr.run (rblank_T _)).trans (ite_isW h fun h => by cases h)
  · cases h
noncomputable def G_rgap : GamT := ofL [(31, .pure F_rblank)]
theorem gok_rgap (gl : Gl) : GamOk Tryd.prog gl (gam G_rgap) := (gamOk_cons (sim_rblank gl) gamOk_nil)
noncomputable def c_rgap1 : Code := loopC Tryd.f23 2
def I_rgap1 : LI := ⟨41, [0, 1, 5], fun e => match e with | .exit 0 => [1] | _ => [], true⟩
noncomputable def LI_rgap1 : LpsT := fun r fr σ => .fail
noncomputable def rgap1_V (vs : List PV) (σ : Store) : Option (PExit × List PV × Store) := lval (lstep tbT G_rgap LI_rgap1 c_rgap1 I_rgap1) vs σ
noncomputable def rgap1_Tr (s : List UInt8) (at_ : Int) (comment : Bool) : Tr LR := Tr.ite (iLt at_ (sLen s)) (Tr.ite comment (Tr.ite (okIdx s at_) (Tr.ite (iEq (sAt s at_) 37) (Tr.ret (LR.next [PV.str s, PV.int .i64 (iAdd .i64 at_ 1), PV.bool true] (Store.mk [] [] []))) (Tr.ite comment (Tr.ite (okIdx s at_) (Tr.ret (LR.next [PV.str s, PV.int .i64 (iAdd .i64 at_ 1), PV.bool (iNe (sAt s at_) 10)] (Store.mk [] [] []))) Tr.fail) (Tr.ret (LR.next [PV.str s, PV.int .i64 (iAdd .i64 at_ 1), PV.bool false] (Store.mk [] [] []))))) Tr.fail) (Tr.ite (okIdx s at_) (Tr.ite (rblank_is0 (sAt s at_)) (Tr.ite (rblank_b (sAt s at_)) (Tr.ite (okIdx s at_) (Tr.ite (iEq (sAt s at_) 37) (Tr.ret (LR.next [PV.str s, PV.int .i64 (iAdd .i64 at_ 1), PV.bool true] (Store.mk [] [] []))) (Tr.ite comment (Tr.ite (okIdx s at_) (Tr.ret (LR.next [PV.str s, PV.int .i64 (iAdd .i64 at_ 1), PV.bool (iNe (sAt s at_) 10)] (Store.mk [] [] []))) Tr.fail) (Tr.ret (LR.next [PV.str s, PV.int .i64 (iAdd .i64 at_ 1), PV.bool false] (Store.mk [] [] []))))) Tr.fail) (Tr.ite (okIdx s at_) (Tr.ite (iEq (sAt s at_) 37) (Tr.ite (okIdx s at_) (Tr.ite (iEq (sAt s at_) 37) (Tr.ret (LR.next [PV.str s, PV.int .i64 (iAdd .i64 at_ 1), PV.bool true] (Store.mk [] [] []))) (Tr.ite comment (Tr.ite (okIdx s at_) (Tr.ret (LR.next [PV.str s, PV.int .i64 (iAdd .i64 at_ 1), PV.bool (iNe (sAt s at_) 10)] (Store.mk [] [] []))) Tr.fail) (Tr.ret (LR.next [PV.str s, PV.int .i64 (iAdd .i64 at_ 1), PV.bool false] (Store.mk [] [] []))))) Tr.fail) (Tr.ret (LR.out (.exit 0) [PV.int .i64 at_] (Store.mk [] [] [])))) Tr.fail)) Tr.fail) Tr.fail)) (Tr.ret (LR.out (.exit 0) [PV.int .i64 at_] (Store.mk [] [] [])))
theorem rgap1_T (s : List UInt8) (at_ : Int) (comment : Bool) : lstep tbT G_rgap LI_rgap1 c_rgap1 I_rgap1 [.str s, .int .i64 at_, .bool comment] ⟨[], [], []⟩ = rgap1_Tr s at_ comment := by kernel_rfl
theorem rgap1_E (s : List UInt8) (at_ : Int) (comment : Bool) : rgap1_V [.str s, .int .i64 at_, .bool comment] ⟨[], [], []⟩ = lnext rgap1_V (rgap1_Tr s at_ comment).run := by unfold rgap1_V; rw [lval_eq, rgap1_T]
noncomputable def rgap1_W (s : List UInt8) (at_ : Int) (comment : Bool) : Option (PExit × List PV × Store) := rgap1_V [.str s, .int .i64 at_, .bool comment] ⟨[], [], []⟩
noncomputable def rgap1_at_ (s : List UInt8) (at_ : Int) (comment : Bool) : Int := (gInt (gOut (rgap1_W s at_ comment) 0))
noncomputable def rgap1_is0 (s : List UInt8) (at_ : Int) (comment : Bool) : Bool := isW (rgap1_W s at_ comment) ((.exit 0), [.int .i64 (rgap1_at_ s at_ comment)], ⟨[], [], []⟩)
noncomputable def rgap1_prop : List PV → Store → Tr (PExit × List PV × Store) | [.str s, .int .i64 at_, .bool comment], ⟨[], [], []⟩ => .ite (rgap1_is0 s at_ comment) (.ret ((.exit 0), [.int .i64 (rgap1_at_ s at_ comment)], ⟨[], [], []⟩)) (.fail) | _, _ => .fail
theorem rgap1_ok : ∀ vs σ r, (rgap1_prop vs σ).run = some r → rgap1_V vs σ = some r := by
  intro vs σ r h
  unfold rgap1_prop at h
  split at h
  · exact ite_isW h fun h => by cases h
  · cases h
theorem loop_rgap1 (gl : Gl) : ∀ fr σ e fr' σ', (orc I_rgap1 rgap1_prop fr σ).run = some (e, fr', σ') → LDoes Tryd.prog gl c_rgap1 fr σ e fr' σ' := orc_ok tbT_ok (gok_rgap gl ) noMixed (L := LI_rgap1) (loopOk_none (by kernel_rfl)) (by kernel_rfl) rgap1_ok
noncomputable def L_rgap : LpsT := fun r fr σ => bif Nat.beq r 2 then orc I_rgap1 rgap1_prop fr σ else .fail
noncomputable def rgap_Tr (s : List UInt8) (at_ : Int) : Tr PV := Tr.ite (rgap1_is0 s at_ false) (Tr.ret (PV.int .i64 (rgap1_at_ s at_ false))) Tr.fail
theorem rgap_T (s : List UInt8) (at_ : Int) : (tcall tbT G_rgap L_rgap Tryd.f23 [.str s, .int .i64 at_]).flat = rgap_Tr s at_ := by kernel_rfl
noncomputable def rgap_W (s : List UInt8) (at_ : Int) : Option PV := (rgap_Tr s at_).run
noncomputable def rgap_n (s : List UInt8) (at_ : Int) : Int := (gInt (gVal (rgap_W s at_)))
noncomputable def rgap_is0 (s : List UInt8) (at_ : Int) : Bool := isW (rgap_W s at_) (.int .i64 (rgap_n s at_))
noncomputable def F_rgap : List PV → Tr PV | [.str s, .int .i64 at_] => .ite (rgap_is0 s at_) (.ret (.int .i64 (rgap_n s at_))) (.fail) | _ => .fail
theorem sim_rgap (gl : Gl) : SimP Tryd.prog gl 23 fun args => (F_rgap args).run := by
  refine SimP.of_flat (G := G_rgap) (L := L_rgap) tbT_ok (gok_rgap gl ) noMixed Tryd.func23 rfl (by rfl) (by kernel_rfl) (loopOk_all (L := lps L_rgap) [(2, c_rgap1)] (by kernel_rfl) (List.forall_mem_cons.2 ⟨fun fr σ e fr' σ' h => loop_rgap1 gl  fr σ e fr' σ' h, (List.forall_mem_nil _)⟩)) ?_
  intro args x h
  unfold F_rgap at h
  split at h
  · exact (congrArg Tr.run (rgap_T _ _)).trans (ite_isW h fun h => by cases h)
  · cases h
noncomputable def G_rname : GamT := ofL [(55, .pure F_rinner)]
theorem gok_rname (gl : Gl) : GamOk Tryd.prog gl (gam G_rname) := (gamOk_cons (sim_rinner gl) gamOk_nil)
noncomputable def c_rname1 : Code := loopC Tryd.f34 1
def I_rname1 : LI := ⟨18, [0, 1], fun e => match e with | .exit 0 => [1] | _ => [], true⟩
noncomputable def LI_rname1 : LpsT := fun r fr σ => .fail
noncomputable def rname1_V (vs : List PV) (σ : Store) : Option (PExit × List PV × Store) := lval (lstep tbT G_rname LI_rname1 c_rname1 I_rname1) vs σ
noncomputable def rname1_Tr (s : List UInt8) (at_ : Int) : Tr LR := Tr.ite (iLt at_ (sLen s)) (Tr.ite (okIdx s at_) (Tr.ite (rinner_is0 (sAt s at_)) (Tr.ite (rinner_b (sAt s at_)) (Tr.ret (LR.next [PV.str s, PV.int .i64 (iAdd .i64 at_ 1)] (Store.mk [] [] []))) (Tr.ret (LR.out (.exit 0) [PV.int .i64 at_] (Store.mk [] [] [])))) Tr.fail) Tr.fail) (Tr.ret (LR.out (.exit 0) [PV.int .i64 at_] (Store.mk [] [] [])))
theorem rname1_T (s : List UInt8) (at_ : Int) : lstep tbT G_rname LI_rname1 c_rname1 I_rname1 [.str s, .int .i64 at_] ⟨[], [], []⟩ = rname1_Tr s at_ := by kernel_rfl
theorem rname1_E (s : List UInt8) (at_ : Int) : rname1_V [.str s, .int .i64 at_] ⟨[], [], []⟩ = lnext rname1_V (rname1_Tr s at_).run := by unfold rname1_V; rw [lval_eq, rname1_T]
noncomputable def rname1_W (s : List UInt8) (at_ : Int) : Option (PExit × List PV × Store) := rname1_V [.str s, .int .i64 at_] ⟨[], [], []⟩
noncomputable def rname1_at_ (s : List UInt8) (at_ : Int) : Int := (gInt (gOut (rname1_W s at_) 0))
noncomputable def rname1_is0 (s : List UInt8) (at_ : Int) : Bool := isW (rname1_W s at_) ((.exit 0), [.int .i64 (rname1_at_ s at_)], ⟨[], [], []⟩)
noncomputable def rname1_prop : List PV → Store → Tr (PExit × List PV × Store) | [.str s, .int .i64 at_], ⟨[], [], []⟩ => .ite (rname1_is0 s at_) (.ret ((.exit 0), [.int .i64 (rname1_at_ s at_)], ⟨[], [], []⟩)) (.fail) | _, _ => .fail
theorem rname1_ok : ∀ vs σ r, (rname1_prop vs σ).run = some r → rname1_V vs σ = some r := by
  intro vs σ r h
  unfold rname1_prop at h
  split at h
  · exact ite_isW h fun h => by cases h
  · cases h
theorem loop_rname1 (gl : Gl) : ∀ fr σ e fr' σ', (orc I_rname1 rname1_prop fr σ).run = some (e, fr', σ') → LDoes Tryd.prog gl c_rname1 fr σ e fr' σ' := orc_ok tbT_ok (gok_rname gl ) noMixed (L := LI_rname1) (loopOk_none (by kernel_rfl)) (by kernel_rfl) rname1_ok
noncomputable def L_rname : LpsT := fun r fr σ => bif Nat.beq r 1 then orc I_rname1 rname1_prop fr σ else .fail
noncomputable def rname_Tr (s : List UInt8) (at_ : Int) : Tr PV := Tr.ite (rname1_is0 s at_) (Tr.ret (PV.int .i64 (rname1_at_ s at_))) Tr.fail
theorem rname_T (s : List UInt8) (at_ : Int) : (tcall tbT G_rname L_rname Tryd.f34 [.str s, .int .i64 at_]).flat = rname_Tr s at_ := by kernel_rfl
noncomputable def rname_W (s : List UInt8) (at_ : Int) : Option PV := (rname_Tr s at_).run
noncomputable def rname_n (s : List UInt8) (at_ : Int) : Int := (gInt (gVal (rname_W s at_)))
noncomputable def rname_is0 (s : List UInt8) (at_ : Int) : Bool := isW (rname_W s at_) (.int .i64 (rname_n s at_))
noncomputable def F_rname : List PV → Tr PV | [.str s, .int .i64 at_] => .ite (rname_is0 s at_) (.ret (.int .i64 (rname_n s at_))) (.fail) | _ => .fail
theorem sim_rname (gl : Gl) : SimP Tryd.prog gl 34 fun args => (F_rname args).run := by
  refine SimP.of_flat (G := G_rname) (L := L_rname) tbT_ok (gok_rname gl ) noMixed Tryd.func34 rfl (by rfl) (by kernel_rfl) (loopOk_all (L := lps L_rname) [(1, c_rname1)] (by kernel_rfl) (List.forall_mem_cons.2 ⟨fun fr σ e fr' σ' h => loop_rname1 gl  fr σ e fr' σ' h, (List.forall_mem_nil _)⟩)) ?_
  intro args x h
  unfold F_rname at h
  split at h
  · exact (congrArg Tr.run (rname_T _ _)).trans (ite_isW h fun h => by cases h)
  · cases h
noncomputable def G_rdigits : GamT := ofL [(35, .pure F_rdigit)]
theorem gok_rdigits (gl : Gl) : GamOk Tryd.prog gl (gam G_rdigits) := (gamOk_cons (sim_rdigit gl) gamOk_nil)
noncomputable def c_rdigits1 : Code := loopC Tryd.f37 1
def I_rdigits1 : LI := ⟨18, [0, 1], fun e => match e with | .exit 0 => [1] | _ => [], true⟩
noncomputable def LI_rdigits1 : LpsT := fun r fr σ => .fail
noncomputable def rdigits1_V (vs : List PV) (σ : Store) : Option (PExit × List PV × Store) := lval (lstep tbT G_rdigits LI_rdigits1 c_rdigits1 I_rdigits1) vs σ
noncomputable def rdigits1_Tr (s : List UInt8) (at_ : Int) : Tr LR := Tr.ite (iLt at_ (sLen s)) (Tr.ite (okIdx s at_) (Tr.ite (rdigit_is0 (sAt s at_)) (Tr.ite (rdigit_b (sAt s at_)) (Tr.ret (LR.next [PV.str s, PV.int .i64 (iAdd .i64 at_ 1)] (Store.mk [] [] []))) (Tr.ret (LR.out (.exit 0) [PV.int .i64 at_] (Store.mk [] [] [])))) Tr.fail) Tr.fail) (Tr.ret (LR.out (.exit 0) [PV.int .i64 at_] (Store.mk [] [] [])))
theorem rdigits1_T (s : List UInt8) (at_ : Int) : lstep tbT G_rdigits LI_rdigits1 c_rdigits1 I_rdigits1 [.str s, .int .i64 at_] ⟨[], [], []⟩ = rdigits1_Tr s at_ := by kernel_rfl
theorem rdigits1_E (s : List UInt8) (at_ : Int) : rdigits1_V [.str s, .int .i64 at_] ⟨[], [], []⟩ = lnext rdigits1_V (rdigits1_Tr s at_).run := by unfold rdigits1_V; rw [lval_eq, rdigits1_T]
noncomputable def rdigits1_W (s : List UInt8) (at_ : Int) : Option (PExit × List PV × Store) := rdigits1_V [.str s, .int .i64 at_] ⟨[], [], []⟩
noncomputable def rdigits1_at_ (s : List UInt8) (at_ : Int) : Int := (gInt (gOut (rdigits1_W s at_) 0))
noncomputable def rdigits1_is0 (s : List UInt8) (at_ : Int) : Bool := isW (rdigits1_W s at_) ((.exit 0), [.int .i64 (rdigits1_at_ s at_)], ⟨[], [], []⟩)
noncomputable def rdigits1_prop : List PV → Store → Tr (PExit × List PV × Store) | [.str s, .int .i64 at_], ⟨[], [], []⟩ => .ite (rdigits1_is0 s at_) (.ret ((.exit 0), [.int .i64 (rdigits1_at_ s at_)], ⟨[], [], []⟩)) (.fail) | _, _ => .fail
theorem rdigits1_ok : ∀ vs σ r, (rdigits1_prop vs σ).run = some r → rdigits1_V vs σ = some r := by
  intro vs σ r h
  unfold rdigits1_prop at h
  split at h
  · exact ite_isW h fun h => by cases h
  · cases h
theorem loop_rdigits1 (gl : Gl) : ∀ fr σ e fr' σ', (orc I_rdigits1 rdigits1_prop fr σ).run = some (e, fr', σ') → LDoes Tryd.prog gl c_rdigits1 fr σ e fr' σ' := orc_ok tbT_ok (gok_rdigits gl ) noMixed (L := LI_rdigits1) (loopOk_none (by kernel_rfl)) (by kernel_rfl) rdigits1_ok
noncomputable def L_rdigits : LpsT := fun r fr σ => bif Nat.beq r 1 then orc I_rdigits1 rdigits1_prop fr σ else .fail
noncomputable def rdigits_Tr (s : List UInt8) (at_ : Int) : Tr PV := Tr.ite (rdigits1_is0 s at_) (Tr.ret (PV.int .i64 (rdigits1_at_ s at_))) Tr.fail
theorem rdigits_T (s : List UInt8) (at_ : Int) : (tcall tbT G_rdigits L_rdigits Tryd.f37 [.str s, .int .i64 at_]).flat = rdigits_Tr s at_ := by kernel_rfl
noncomputable def rdigits_W (s : List UInt8) (at_ : Int) : Option PV := (rdigits_Tr s at_).run
noncomputable def rdigits_n (s : List UInt8) (at_ : Int) : Int := (gInt (gVal (rdigits_W s at_)))
noncomputable def rdigits_is0 (s : List UInt8) (at_ : Int) : Bool := isW (rdigits_W s at_) (.int .i64 (rdigits_n s at_))
noncomputable def F_rdigits : List PV → Tr PV | [.str s, .int .i64 at_] => .ite (rdigits_is0 s at_) (.ret (.int .i64 (rdigits_n s at_))) (.fail) | _ => .fail
theorem sim_rdigits (gl : Gl) : SimP Tryd.prog gl 37 fun args => (F_rdigits args).run := by
  refine SimP.of_flat (G := G_rdigits) (L := L_rdigits) tbT_ok (gok_rdigits gl ) noMixed Tryd.func37 rfl (by rfl) (by kernel_rfl) (loopOk_all (L := lps L_rdigits) [(1, c_rdigits1)] (by kernel_rfl) (List.forall_mem_cons.2 ⟨fun fr σ e fr' σ' h => loop_rdigits1 gl  fr σ e fr' σ' h, (List.forall_mem_nil _)⟩)) ?_
  intro args x h
  unfold F_rdigits at h
  split at h
  · exact (congrArg Tr.run (rdigits_T _ _)).trans (ite_isW h fun h => by cases h)
  · cases h
noncomputable def G_rquoted : GamT := ofL []
theorem gok_rquoted (gl : Gl) : GamOk Tryd.prog gl (gam G_rquoted) := gamOk_nil
noncomputable def c_rquoted1 : Code := loopC Tryd.f38 2
def I_rquoted1 : LI := ⟨26, [0, 5], fun e => match e with | .ret => [4] | .exit 0 => [] | _ => [], true⟩
noncomputable def LI_rquoted1 : LpsT := fun r fr σ => .fail
noncomputable def rquoted1_V (vs : List PV) (σ : Store) : Option (PExit × List PV × Store) := lval (lstep tbT G_rquoted LI_rquoted1 c_rquoted1 I_rquoted1) vs σ
noncomputable def rquoted1_Tr (s : List UInt8) (i : Int) : Tr LR := Tr.ite (iLt i (sLen s)) (Tr.ite (okIdx s i) (Tr.ite (iEq (sAt s i) 34) (Tr.ret (LR.out .ret [PV.int .i64 (iAdd .i64 i 1)] (Store.mk [] [] []))) (Tr.ite (okIdx s i) (Tr.ite (iEq (sAt s i) 92) (Tr.ret (LR.next [PV.str s, PV.int .i64 (iAdd .i64 (iAdd .i64 i 1) 1)] (Store.mk [] [] []))) (Tr.ret (LR.next [PV.str s, PV.int .i64 (iAdd .i64 i 1)] (Store.mk [] [] [])))) Tr.fail)) Tr.fail) (Tr.ret (LR.out (.exit 0) [] (Store.mk [] [] [])))
theorem rquoted1_T (s : List UInt8) (i : Int) : lstep tbT G_rquoted LI_rquoted1 c_rquoted1 I_rquoted1 [.str s, .int .i64 i] ⟨[], [], []⟩ = rquoted1_Tr s i := by kernel_rfl
theorem rquoted1_E (s : List UInt8) (i : Int) : rquoted1_V [.str s, .int .i64 i] ⟨[], [], []⟩ = lnext rquoted1_V (rquoted1_Tr s i).run := by unfold rquoted1_V; rw [lval_eq, rquoted1_T]
noncomputable def rquoted1_W (s : List UInt8) (i : Int) : Option (PExit × List PV × Store) := rquoted1_V [.str s, .int .i64 i] ⟨[], [], []⟩
noncomputable def rquoted1_n_0 (s : List UInt8) (i : Int) : Int := (gInt (gOut (rquoted1_W s i) 0))
noncomputable def rquoted1_is0 (s : List UInt8) (i : Int) : Bool := isW (rquoted1_W s i) (.ret, [.int .i64 (rquoted1_n_0 s i)], ⟨[], [], []⟩)
noncomputable def rquoted1_is1 (s : List UInt8) (i : Int) : Bool := isW (rquoted1_W s i) ((.exit 0), [], ⟨[], [], []⟩)
noncomputable def rquoted1_prop : List PV → Store → Tr (PExit × List PV × Store) | [.str s, .int .i64 i], ⟨[], [], []⟩ => .ite (rquoted1_is0 s i) (.ret (.ret, [.int .i64 (rquoted1_n_0 s i)], ⟨[], [], []⟩)) (.ite (rquoted1_is1 s i) (.ret ((.exit 0), [], ⟨[], [], []⟩)) (.fail)) | _, _ => .fail
theorem rquoted1_ok : ∀ vs σ r, (rquoted1_prop vs σ).run = some r → rquoted1_V vs σ = some r := by
  intro vs σ r h
  unfold rquoted1_prop at h
  split at h
  · exact ite_isW h fun h => ite_isW h fun h => by cases h
  · cases h
theorem loop_rquoted1 (gl : Gl) : ∀ fr σ e fr' σ', (orc I_rquoted1 rquoted1_prop fr σ).run = some (e, fr', σ') → LDoes Tryd.prog gl c_rquoted1 fr σ e fr' σ' := orc_ok tbT_ok (gok_rquoted gl ) noMixed (L := LI_rquoted1) (loopOk_none (by kernel_rfl)) (by kernel_rfl) rquoted1_ok
noncomputable def L_rquoted : LpsT := fun r fr σ => bif Nat.beq r 2 then orc I_rquoted1 rquoted1_prop fr σ else .fail
noncomputable def rquoted_Tr (s : List UInt8) (at_ : Int) : Tr PV := Tr.ite (rquoted1_is0 s (iAdd .i64 at_ 1)) (Tr.ret (PV.int .i64 (rquoted1_n_0 s (iAdd .i64 at_ 1)))) (Tr.ite (rquoted1_is1 s (iAdd .i64 at_ 1)) (Tr.ret (PV.int .i64 (-1))) Tr.fail)
theorem rquoted_T (s : List UInt8) (at_ : Int) : (tcall tbT G_rquoted L_rquoted Tryd.f38 [.str s, .int .i64 at_]).flat = rquoted_Tr s at_ := by kernel_rfl
noncomputable def rquoted_W (s : List UInt8) (at_ : Int) : Option PV := (rquoted_Tr s at_).run
noncomputable def rquoted_n (s : List UInt8) (at_ : Int) : Int := (gInt (gVal (rquoted_W s at_)))
noncomputable def rquoted_is0 (s : List UInt8) (at_ : Int) : Bool := isW (rquoted_W s at_) (.int .i64 (rquoted_n s at_))
noncomputable def F_rquoted : List PV → Tr PV | [.str s, .int .i64 at_] => .ite (rquoted_is0 s at_) (.ret (.int .i64 (rquoted_n s at_))) (.fail) | _ => .fail
theorem sim_rquoted (gl : Gl) : SimP Tryd.prog gl 38 fun args => (F_rquoted args).run := by
  refine SimP.of_flat (G := G_rquoted) (L := L_rquoted) tbT_ok (gok_rquoted gl ) noMixed Tryd.func38 rfl (by rfl) (by kernel_rfl) (loopOk_all (L := lps L_rquoted) [(2, c_rquoted1)] (by kernel_rfl) (List.forall_mem_cons.2 ⟨fun fr σ e fr' σ' h => loop_rquoted1 gl  fr σ e fr' σ' h, (List.forall_mem_nil _)⟩)) ?_
  intro args x h
  unfold F_rquoted at h
  split at h
  · exact (congrArg Tr.run (rquoted_T _ _)).trans (ite_isW h fun h => by cases h)
  · cases h
noncomputable def G_rmark : GamT := ofL []
theorem gok_rmark (gl : Gl) : GamOk Tryd.prog gl (gam G_rmark) := gamOk_nil
noncomputable def L_rmark : LpsT := fun r fr σ => .fail
noncomputable def rmark_Tr (v : List UInt8) (v2 : Int) : Tr PV := Tr.ite (iLe 2 (iSub .i64 (sLen v) v2)) (Tr.ite (okSub (okPos v2) (okPos (iAdd .i64 v2 2)) (nNat v2) (nNat (iAdd .i64 v2 2)) (nLen v)) (Tr.ite (sEq (sSub v (nNat v2) (nNat (iAdd .i64 v2 2))) [58, 45]) (Tr.ret (PV.int .i64 2)) (Tr.ite (sEq (sSub v (nNat v2) (nNat (iAdd .i64 v2 2))) [60, 61]) (Tr.ret (PV.int .i64 2)) (Tr.ite (sEq (sSub v (nNat v2) (nNat (iAdd .i64 v2 2))) [62, 61]) (Tr.ret (PV.int .i64 2)) (Tr.ite (sEq (sSub v (nNat v2) (nNat (iAdd .i64 v2 2))) [33, 61]) (Tr.ret (PV.int .i64 2)) (Tr.ite (okIdx v v2) (Tr.ite (iEq (sAt v v2) 40) (Tr.ret (PV.int .i64 1)) (Tr.ite (okIdx v v2) (Tr.ite (iEq (sAt v v2) 41) (Tr.ret (PV.int .i64 1)) (Tr.ite (okIdx v v2) (Tr.ite (iEq (sAt v v2) 44) (Tr.ret (PV.int .i64 1)) (Tr.ite (okIdx v v2) (Tr.ite (iEq (sAt v v2) 46) (Tr.ret (PV.int .i64 1)) (Tr.ite (okIdx v v2) (Tr.ite (iEq (sAt v v2) 43) (Tr.ret (PV.int .i64 1)) (Tr.ite (okIdx v v2) (Tr.ite (iEq (sAt v v2) 45) (Tr.ret (PV.int .i64 1)) (Tr.ite (okIdx v v2) (Tr.ite (iEq (sAt v v2) 61) (Tr.ret (PV.int .i64 1)) (Tr.ite (okIdx v v2) (Tr.ite (iEq (sAt v v2) 58) (Tr.ret (PV.int .i64 1)) (Tr.ite (okIdx v v2) (Tr.ite (iEq (sAt v v2) 60) (Tr.ret (PV.int .i64 1)) (Tr.ite (okIdx v v2) (Tr.ite (iEq (sAt v v2) 62) (Tr.ret (PV.int .i64 1)) (Tr.ret (PV.int .i64 0))) Tr.fail)) Tr.fail)) Tr.fail)) Tr.fail)) Tr.fail)) Tr.fail)) Tr.fail)) Tr.fail)) Tr.fail)) Tr.fail))))) Tr.fail) (Tr.ite (sEq [] [58, 45]) (Tr.ret (PV.int .i64 2)) (Tr.ite (sEq [] [60, 61]) (Tr.ret (PV.int .i64 2)) (Tr.ite (sEq [] [62, 61]) (Tr.ret (PV.int .i64 2)) (Tr.ite (sEq [] [33, 61]) (Tr.ret (PV.int .i64 2)) (Tr.ite (okIdx v v2) (Tr.ite (iEq (sAt v v2) 40) (Tr.ret (PV.int .i64 1)) (Tr.ite (okIdx v v2) (Tr.ite (iEq (sAt v v2) 41) (Tr.ret (PV.int .i64 1)) (Tr.ite (okIdx v v2) (Tr.ite (iEq (sAt v v2) 44) (Tr.ret (PV.int .i64 1)) (Tr.ite (okIdx v v2) (Tr.ite (iEq (sAt v v2) 46) (Tr.ret (PV.int .i64 1)) (Tr.ite (okIdx v v2)
 (Tr.ite (iEq (sAt v v2) 43) (Tr.ret (PV.int .i64 1)) (Tr.ite (okIdx v v2) (Tr.ite (iEq (sAt v v2) 45) (Tr.ret (PV.int .i64 1)) (Tr.ite (okIdx v v2) (Tr.ite (iEq (sAt v v2) 61) (Tr.ret (PV.int .i64 1)) (Tr.ite (okIdx v v2) (Tr.ite (iEq (sAt v v2) 58) (Tr.ret (PV.int .i64 1)) (Tr.ite (okIdx v v2) (Tr.ite (iEq (sAt v v2) 60) (Tr.ret (PV.int .i64 1)) (Tr.ite (okIdx v v2) (Tr.ite (iEq (sAt v v2) 62) (Tr.ret (PV.int .i64 1)) (Tr.ret (PV.int .i64 0))) Tr.fail)) Tr.fail)) Tr.fail)) Tr.fail)) Tr.fail)) Tr.fail)) Tr.fail)) Tr.fail)) Tr.fail)) Tr.fail)))))
theorem rmark_T (v : List UInt8) (v2 : Int) : (tcall tbT G_rmark L_rmark Tryd.f39 [.str v, .int .i64 v2]).flat = rmark_Tr v v2 := by kernel_rfl
noncomputable def rmark_W (v : List UInt8) (v2 : Int) : Option PV := (rmark_Tr v v2).run
noncomputable def rmark_n (v : List UInt8) (v2 : Int) : Int := (gInt (gVal (rmark_W v v2)))
noncomputable def rmark_is0 (v : List UInt8) (v2 : Int) : Bool := isW (rmark_W v v2) (.int .i64 (rmark_n v v2))
noncomputable def F_rmark : List PV → Tr PV | [.str v, .int .i64 v2] => .ite (rmark_is0 v v2) (.ret (.int .i64 (rmark_n v v2))) (.fail) | _ => .fail
theorem sim_rmark (gl : Gl) : SimP Tryd.prog gl 39 fun args => (F_rmark args).run := by
  refine SimP.of_flat (G := G_rmark) (L := L_rmark) tbT_ok (gok_rmark gl ) noMixed Tryd.func39 rfl (by rfl) (by kernel_rfl) (loopOk_none (by kernel_rfl)) ?_
  intro args x h
  unfold F_rmark at h
  split at h
  · exact (congrArg Tr.run (rmark_T _ _)).trans (ite_isW h fun h => by cases h)
  · cases h
noncomputable def G_rvalue : GamT := ofL [(56, .pure F_Read)]
theorem gok_rvalue (gl : Gl) : GamOk Tryd.prog gl (gam G_rvalue) := (gamOk_cons (sim_RRead gl) gamOk_nil)
noncomputable def L_rvalue : LpsT := fun r fr σ => .fail
noncomputable def rvalue_Tr (k : Int) (s : List UInt8) (at_ : Int) : Tr PV := Tr.ite (okLen s) (Tr.ite (iNe (eRd s) 0) (Tr.ret (PV.tup [PV.agg [PV.int .i64 0, PV.str [], PV.int .i64 0, PV.int .i64 0, PV.str [], PV.int .i64 0], PV.bool false])) (Tr.ret (PV.tup [PV.agg [PV.int .i64 k, PV.str s, PV.int .i64 (kRd s), PV.int .i64 (nRd s), PV.str (sRd s), PV.int .i64 at_], PV.bool true]))) Tr.fail
theorem rvalue_T (k : Int) (s : List UInt8) (at_ : Int) : (tcall tbT G_rvalue L_rvalue Tryd.f36 [.int .i64 k, .str s, .int .i64 at_]).flat = rvalue_Tr k s at_ := by kernel_rfl
noncomputable def rvalue_W (k : Int) (s : List UInt8) (at_ : Int) : Option PV := (rvalue_Tr k s at_).run
noncomputable def rvalue_n (k : Int) (s : List UInt8) (at_ : Int) : Int := (gInt (gAt (gCs (gAt (gCs (gVal (rvalue_W k s at_))) 0)) 0))
noncomputable def rvalue_s (k : Int) (s : List UInt8) (at_ : Int) : List UInt8 := (gStr (gAt (gCs (gAt (gCs (gVal (rvalue_W k s at_))) 0)) 1))
noncomputable def rvalue_n2 (k : Int) (s : List UInt8) (at_ : Int) : Int := (gInt (gAt (gCs (gAt (gCs (gVal (rvalue_W k s at_))) 0)) 2))
noncomputable def rvalue_n3 (k : Int) (s : List UInt8) (at_ : Int) : Int := (gInt (gAt (gCs (gAt (gCs (gVal (rvalue_W k s at_))) 0)) 3))
noncomputable def rvalue_s2 (k : Int) (s : List UInt8) (at_ : Int) : List UInt8 := (gStr (gAt (gCs (gAt (gCs (gVal (rvalue_W k s at_))) 0)) 4))
noncomputable def rvalue_n4 (k : Int) (s : List UInt8) (at_ : Int) : Int := (gInt (gAt (gCs (gAt (gCs (gVal (rvalue_W k s at_))) 0)) 5))
noncomputable def rvalue_b (k : Int) (s : List UInt8) (at_ : Int) : Bool := (gBool (gAt (gCs (gVal (rvalue_W k s at_))) 1))
noncomputable def rvalue_is0 (k : Int) (s : List UInt8) (at_ : Int) : Bool := isW (rvalue_W k s at_) (.tup [.agg [.int .i64 (rvalue_n k s at_), .str (rvalue_s k s at_), .int .i64 (rvalue_n2 k s at_), .int .i64 (rvalue_n3 k s at_), .str (rvalue_s2 k s at_), .int .i64 (rvalue_n4 k s at_)], .bool (rvalue_b k s at_)])
noncomputable def F_rvalue : List PV → Tr PV | [.int .i64 k, .str s, .int .i64 at_] => .ite (rvalue_is0 k s at_) (.ret (.tup [.agg [.int .i64 (rvalue_n k s at_), .str (rvalue_s k s at_), .int .i64 (rvalue_n2 k s at_), .int .i64 (rvalue_n3 k s at_), .str (rvalue_s2 k s at_), .int .i64 (rvalue_n4 k s at_)], .bool (rvalue_b k s at_)])) (.fail) | _ => .fail
theorem sim_rvalue (gl : Gl) : SimP Tryd.prog gl 36 fun args => (F_rvalue args).run := by
  refine SimP.of_flat (G := G_rvalue) (L := L_rvalue) tbT_ok (gok_rvalue gl ) noMixed Tryd.func36 rfl (by rfl) (by kernel_rfl) (loopOk_none (by kernel_rfl)) ?_
  intro args x h
  unfold F_rvalue at h
  split at h
  · exact (congrArg Tr.run (rvalue_T _ _ _)).trans (ite_isW h fun h => by cases h)
  · cases h
noncomputable def G_rword : GamT := ofL [(32, .pure F_rsmall), (33, .pure F_rgreat), (34, .pure F_rname), (35, .pure F_rdigit), (36, .pure F_rvalue), (37, .pure F_rdigits), (38, .pure F_rquoted), (39, .pure F_rmark)]
theorem gok_rword (gl : Gl) : GamOk Tryd.prog gl (gam G_rword) := (gamOk_cons (sim_rsmall gl) (gamOk_cons (sim_rgreat gl) (gamOk_cons (sim_rname gl) (gamOk_cons (sim_rdigit gl) (gamOk_cons (sim_rvalue gl) (gamOk_cons (sim_rdigits gl) (gamOk_cons (sim_rquoted gl) (gamOk_cons (sim_rmark gl) gamOk_nil))))))))
noncomputable def L_rword : LpsT := fun r fr σ => .fail
noncomputable def rword_Tr (v : List UInt8) (v2 : Int) : Tr PV := Tr.ite (okIdx v v2) (Tr.ite (rsmall_is0 (sAt v v2)) (Tr.ite (rsmall_b (sAt v v2)) (Tr.ite (rname_is0 v v2) (Tr.ite (rgreat_is0 (sAt v v2)) (Tr.ite (rgreat_b (sAt v v2)) (Tr.ite (okSub (okPos v2) (okPos (rname_n v v2)) (nNat v2) (nNat (rname_n v v2)) (nLen v)) (Tr.ite (iEq (rname_n v v2) v2) (Tr.ret (PV.tup [PV.agg [PV.int .i64 0, PV.str [], PV.int .i64 0, PV.int .i64 0, PV.str [], PV.int .i64 0], PV.bool false])) (Tr.ite (iLt 64 (sLen (sSub v (nNat v2) (nNat (rname_n v v2))))) (Tr.ret (PV.tup [PV.agg [PV.int .i64 0, PV.str [], PV.int .i64 0, PV.int .i64 0, PV.str [], PV.int .i64 0], PV.bool false])) (Tr.ite (iEq 2 3) (Tr.ite (iNe (rname_n v v2) (iAdd .i64 v2 1)) (Tr.ret (PV.tup [PV.agg [PV.int .i64 0, PV.str [], PV.int .i64 0, PV.int .i64 0, PV.str [], PV.int .i64 0], PV.bool false])) (Tr.ret (PV.tup [PV.agg [PV.int .i64 2, PV.str (sSub v (nNat v2) (nNat (rname_n v v2))), PV.int .i64 0, PV.int .i64 0, PV.str [], PV.int .i64 v2], PV.bool true]))) (Tr.ret (PV.tup [PV.agg [PV.int .i64 2, PV.str (sSub v (nNat v2) (nNat (rname_n v v2))), PV.int .i64 0, PV.int .i64 0, PV.str [], PV.int .i64 v2], PV.bool true]))))) Tr.fail) (Tr.ite (okSub (okPos v2) (okPos (rname_n v v2)) (nNat v2) (nNat (rname_n v v2)) (nLen v)) (Tr.ite (iEq (rname_n v v2) v2) (Tr.ret (PV.tup [PV.agg [PV.int .i64 0, PV.str [], PV.int .i64 0, PV.int .i64 0, PV.str [], PV.int .i64 0], PV.bool false])) (Tr.ite (iLt 64 (sLen (sSub v (nNat v2) (nNat (rname_n v v2))))) (Tr.ret (PV.tup [PV.agg [PV.int .i64 0, PV.str [], PV.int .i64 0, PV.int .i64 0, PV.str [], PV.int .i64 0], PV.bool false])) (Tr.ite (iEq 1 3) (Tr.ite (iNe (rname_n v v2) (iAdd .i64 v2 1)) (Tr.ret (PV.tup [PV.agg [PV.int .i64 0, PV.str [], PV.int .i64 0, PV.int .i64 0, PV.str [], PV.int .i64 0], PV.bool false])) (Tr.ret (PV.tup [PV.agg [PV.int .i64 1, PV.str (sSub v (nNat v2) (nNat (rname_n v v2))), PV.int .i64 0, PV.int .i64 0, PV.str [], PV.int .i64 v2], PV.bool true]))) (Tr.ret
 (PV.tup [PV.agg [PV.int .i64 1, PV.str (sSub v (nNat v2) (nNat (rname_n v v2))), PV.int .i64 0, PV.int .i64 0, PV.str [], PV.int .i64 v2], PV.bool true]))))) Tr.fail)) Tr.fail) Tr.fail) (Tr.ite (rgreat_is0 (sAt v v2)) (Tr.ite (rgreat_b (sAt v v2)) (Tr.ite (rname_is0 v v2) (Tr.ite (rgreat_is0 (sAt v v2)) (Tr.ite (rgreat_b (sAt v v2)) (Tr.ite (okSub (okPos v2) (okPos (rname_n v v2)) (nNat v2) (nNat (rname_n v v2)) (nLen v)) (Tr.ite (iEq (rname_n v v2) v2) (Tr.ret (PV.tup [PV.agg [PV.int .i64 0, PV.str [], PV.int .i64 0, PV.int .i64 0, PV.str [], PV.int .i64 0], PV.bool false])) (Tr.ite (iLt 64 (sLen (sSub v (nNat v2) (nNat (rname_n v v2))))) (Tr.ret (PV.tup [PV.agg [PV.int .i64 0, PV.str [], PV.int .i64 0, PV.int .i64 0, PV.str [], PV.int .i64 0], PV.bool false])) (Tr.ite (iEq 2 3) (Tr.ite (iNe (rname_n v v2) (iAdd .i64 v2 1)) (Tr.ret (PV.tup [PV.agg [PV.int .i64 0, PV.str [], PV.int .i64 0, PV.int .i64 0, PV.str [], PV.int .i64 0], PV.bool false])) (Tr.ret (PV.tup [PV.agg [PV.int .i64 2, PV.str (sSub v (nNat v2) (nNat (rname_n v v2))), PV.int .i64 0, PV.int .i64 0, PV.str [], PV.int .i64 v2], PV.bool true]))) (Tr.ret (PV.tup [PV.agg [PV.int .i64 2, PV.str (sSub v (nNat v2) (nNat (rname_n v v2))), PV.int .i64 0, PV.int .i64 0, PV.str [], PV.int .i64 v2], PV.bool true]))))) Tr.fail) (Tr.ite (okSub (okPos v2) (okPos (rname_n v v2)) (nNat v2) (nNat (rname_n v v2)) (nLen v)) (Tr.ite (iEq (rname_n v v2) v2) (Tr.ret (PV.tup [PV.agg [PV.int .i64 0, PV.str [], PV.int .i64 0, PV.int .i64 0, PV.str [], PV.int .i64 0], PV.bool false])) (Tr.ite (iLt 64 (sLen (sSub v (nNat v2) (nNat (rname_n v v2))))) (Tr.ret (PV.tup [PV.agg [PV.int .i64 0, PV.str [], PV.int .i64 0, PV.int .i64 0, PV.str [], PV.int .i64 0], PV.bool false])) (Tr.ite (iEq 1 3) (Tr.ite (iNe (rname_n v v2) (iAdd .i64 v2 1)) (Tr.ret (PV.tup [PV.agg [PV.int .i64 0, PV.str [], PV.int .i64 0, PV.int .i64 0, PV.str [], PV.int .i64 0], PV.bool false])) (Tr.ret (PV.tup [PV.agg
 [PV.int .i64 1, PV.str (sSub v (nNat v2) (nNat (rname_n v v2))), PV.int .i64 0, PV.int .i64 0, PV.str [], PV.int .i64 v2], PV.bool true]))) (Tr.ret (PV.tup [PV.agg [PV.int .i64 1, PV.str (sSub v (nNat v2) (nNat (rname_n v v2))), PV.int .i64 0, PV.int .i64 0, PV.str [], PV.int .i64 v2], PV.bool true]))))) Tr.fail)) Tr.fail) Tr.fail) (Tr.ite (iEq (sAt v v2) 95) (Tr.ite (rname_is0 v v2) (Tr.ite (okSub (okPos v2) (okPos (rname_n v v2)) (nNat v2) (nNat (rname_n v v2)) (nLen v)) (Tr.ite (iEq (rname_n v v2) v2) (Tr.ret (PV.tup [PV.agg [PV.int .i64 0, PV.str [], PV.int .i64 0, PV.int .i64 0, PV.str [], PV.int .i64 0], PV.bool false])) (Tr.ite (iLt 64 (sLen (sSub v (nNat v2) (nNat (rname_n v v2))))) (Tr.ret (PV.tup [PV.agg [PV.int .i64 0, PV.str [], PV.int .i64 0, PV.int .i64 0, PV.str [], PV.int .i64 0], PV.bool false])) (Tr.ite (iEq 3 3) (Tr.ite (iNe (rname_n v v2) (iAdd .i64 v2 1)) (Tr.ret (PV.tup [PV.agg [PV.int .i64 0, PV.str [], PV.int .i64 0, PV.int .i64 0, PV.str [], PV.int .i64 0], PV.bool false])) (Tr.ret (PV.tup [PV.agg [PV.int .i64 3, PV.str (sSub v (nNat v2) (nNat (rname_n v v2))), PV.int .i64 0, PV.int .i64 0, PV.str [], PV.int .i64 v2], PV.bool true]))) (Tr.ret (PV.tup [PV.agg [PV.int .i64 3, PV.str (sSub v (nNat v2) (nNat (rname_n v v2))), PV.int .i64 0, PV.int .i64 0, PV.str [], PV.int .i64 v2], PV.bool true]))))) Tr.fail) Tr.fail) (Tr.ite (rdigit_is0 (sAt v v2)) (Tr.ite (rdigit_b (sAt v v2)) (Tr.ite (rdigits_is0 v (iAdd .i64 v2 1)) (Tr.ite (okSub (okPos v2) (okPos (rdigits_n v (iAdd .i64 v2 1))) (nNat v2) (nNat (rdigits_n v (iAdd .i64 v2 1))) (nLen v)) (Tr.ite (rvalue_is0 4 (sSub v (nNat v2) (nNat (rdigits_n v (iAdd .i64 v2 1)))) v2) (Tr.ret (PV.tup [PV.agg [PV.int .i64 (rvalue_n 4 (sSub v (nNat v2) (nNat (rdigits_n v (iAdd .i64 v2 1)))) v2), PV.str (rvalue_s 4 (sSub v (nNat v2) (nNat (rdigits_n v (iAdd .i64 v2 1)))) v2), PV.int .i64 (rvalue_n2 4 (sSub v (nNat v2) (nNat (rdigits_n v (iAdd .i64 v2 1)))) v2),
 PV.int .i64 (rvalue_n3 4 (sSub v (nNat v2) (nNat (rdigits_n v (iAdd .i64 v2 1)))) v2), PV.str (rvalue_s2 4 (sSub v (nNat v2) (nNat (rdigits_n v (iAdd .i64 v2 1)))) v2), PV.int .i64 (rvalue_n4 4 (sSub v (nNat v2) (nNat (rdigits_n v (iAdd .i64 v2 1)))) v2)], PV.bool (rvalue_b 4 (sSub v (nNat v2) (nNat (rdigits_n v (iAdd .i64 v2 1)))) v2)])) Tr.fail) Tr.fail) Tr.fail) (Tr.ite (iEq (sAt v v2) 45) (Tr.ite (iLt (iAdd .i64 v2 1) (sLen v)) (Tr.ite (okIdx v (iAdd .i64 v2 1)) (Tr.ite (rdigit_is0 (sAt v (iAdd .i64 v2 1))) (Tr.ite (rdigit_b (sAt v (iAdd .i64 v2 1))) (Tr.ite (rdigits_is0 v (iAdd .i64 v2 1)) (Tr.ite (okSub (okPos v2) (okPos (rdigits_n v (iAdd .i64 v2 1))) (nNat v2) (nNat (rdigits_n v (iAdd .i64 v2 1))) (nLen v)) (Tr.ite (rvalue_is0 4 (sSub v (nNat v2) (nNat (rdigits_n v (iAdd .i64 v2 1)))) v2) (Tr.ret (PV.tup [PV.agg [PV.int .i64 (rvalue_n 4 (sSub v (nNat v2) (nNat (rdigits_n v (iAdd .i64 v2 1)))) v2), PV.str (rvalue_s 4 (sSub v (nNat v2) (nNat (rdigits_n v (iAdd .i64 v2 1)))) v2), PV.int .i64 (rvalue_n2 4 (sSub v (nNat v2) (nNat (rdigits_n v (iAdd .i64 v2 1)))) v2), PV.int .i64 (rvalue_n3 4 (sSub v (nNat v2) (nNat (rdigits_n v (iAdd .i64 v2 1)))) v2), PV.str (rvalue_s2 4 (sSub v (nNat v2) (nNat (rdigits_n v (iAdd .i64 v2 1)))) v2), PV.int .i64 (rvalue_n4 4 (sSub v (nNat v2) (nNat (rdigits_n v (iAdd .i64 v2 1)))) v2)], PV.bool (rvalue_b 4 (sSub v (nNat v2) (nNat (rdigits_n v (iAdd .i64 v2 1)))) v2)])) Tr.fail) Tr.fail) Tr.fail) (Tr.ite (iEq (sAt v v2) 34) (Tr.ite (rquoted_is0 v v2) (Tr.ite (iLt (rquoted_n v v2) 0) (Tr.ret (PV.tup [PV.agg [PV.int .i64 0, PV.str [], PV.int .i64 0, PV.int .i64 0, PV.str [], PV.int .i64 0], PV.bool false])) (Tr.ite (okSub (okPos v2) (okPos (rquoted_n v v2)) (nNat v2) (nNat (rquoted_n v v2)) (nLen v)) (Tr.ite (rvalue_is0 5 (sSub v (nNat v2) (nNat (rquoted_n v v2))) v2) (Tr.ret (PV.tup [PV.agg [PV.int .i64 (rvalue_n 5 (sSub v (nNat v2) (nNat (rquoted_n v v2))) v2), PV.str (rvalue_s 5 (sSub v (nNat v2) (nNat (rquoted_n v v2))) v2),
 PV.int .i64 (rvalue_n2 5 (sSub v (nNat v2) (nNat (rquoted_n v v2))) v2), PV.int .i64 (rvalue_n3 5 (sSub v (nNat v2) (nNat (rquoted_n v v2))) v2), PV.str (rvalue_s2 5 (sSub v (nNat v2) (nNat (rquoted_n v v2))) v2), PV.int .i64 (rvalue_n4 5 (sSub v (nNat v2) (nNat (rquoted_n v v2))) v2)], PV.bool (rvalue_b 5 (sSub v (nNat v2) (nNat (rquoted_n v v2))) v2)])) Tr.fail) Tr.fail)) Tr.fail) (Tr.ite (rmark_is0 v v2) (Tr.ite (okSub (okPos v2) (okPos (iAdd .i64 v2 (rmark_n v v2))) (nNat v2) (nNat (iAdd .i64 v2 (rmark_n v v2))) (nLen v)) (Tr.ite (iEq (iAdd .i64 v2 (rmark_n v v2)) v2) (Tr.ret (PV.tup [PV.agg [PV.int .i64 0, PV.str [], PV.int .i64 0, PV.int .i64 0, PV.str [], PV.int .i64 0], PV.bool false])) (Tr.ite (iLt 64 (sLen (sSub v (nNat v2) (nNat (iAdd .i64 v2 (rmark_n v v2)))))) (Tr.ret (PV.tup [PV.agg [PV.int .i64 0, PV.str [], PV.int .i64 0, PV.int .i64 0, PV.str [], PV.int .i64 0], PV.bool false])) (Tr.ite (iEq 6 3) (Tr.ite (iNe (iAdd .i64 v2 (rmark_n v v2)) (iAdd .i64 v2 1)) (Tr.ret (PV.tup [PV.agg [PV.int .i64 0, PV.str [], PV.int .i64 0, PV.int .i64 0, PV.str [], PV.int .i64 0], PV.bool false])) (Tr.ret (PV.tup [PV.agg [PV.int .i64 6, PV.str (sSub v (nNat v2) (nNat (iAdd .i64 v2 (rmark_n v v2)))), PV.int .i64 0, PV.int .i64 0, PV.str [], PV.int .i64 v2], PV.bool true]))) (Tr.ret (PV.tup [PV.agg [PV.int .i64 6, PV.str (sSub v (nNat v2) (nNat (iAdd .i64 v2 (rmark_n v v2)))), PV.int .i64 0, PV.int .i64 0, PV.str [], PV.int .i64 v2], PV.bool true]))))) Tr.fail) Tr.fail))) Tr.fail) Tr.fail) (Tr.ite (iEq (sAt v v2) 34) (Tr.ite (rquoted_is0 v v2) (Tr.ite (iLt (rquoted_n v v2) 0) (Tr.ret (PV.tup [PV.agg [PV.int .i64 0, PV.str [], PV.int .i64 0, PV.int .i64 0, PV.str [], PV.int .i64 0], PV.bool false])) (Tr.ite (okSub (okPos v2) (okPos (rquoted_n v v2)) (nNat v2) (nNat (rquoted_n v v2)) (nLen v)) (Tr.ite (rvalue_is0 5 (sSub v (nNat v2) (nNat (rquoted_n v v2))) v2) (Tr.ret (PV.tup [PV.agg [PV.int .i64 (rvalue_n 5 (sSub v (nNat v2) (nNat (rquoted_n v v2))) v2),
 PV.str (rvalue_s 5 (sSub v (nNat v2) (nNat (rquoted_n v v2))) v2), PV.int .i64 (rvalue_n2 5 (sSub v (nNat v2) (nNat (rquoted_n v v2))) v2), PV.int .i64 (rvalue_n3 5 (sSub v (nNat v2) (nNat (rquoted_n v v2))) v2), PV.str (rvalue_s2 5 (sSub v (nNat v2) (nNat (rquoted_n v v2))) v2), PV.int .i64 (rvalue_n4 5 (sSub v (nNat v2) (nNat (rquoted_n v v2))) v2)], PV.bool (rvalue_b 5 (sSub v (nNat v2) (nNat (rquoted_n v v2))) v2)])) Tr.fail) Tr.fail)) Tr.fail) (Tr.ite (rmark_is0 v v2) (Tr.ite (okSub (okPos v2) (okPos (iAdd .i64 v2 (rmark_n v v2))) (nNat v2) (nNat (iAdd .i64 v2 (rmark_n v v2))) (nLen v)) (Tr.ite (iEq (iAdd .i64 v2 (rmark_n v v2)) v2) (Tr.ret (PV.tup [PV.agg [PV.int .i64 0, PV.str [], PV.int .i64 0, PV.int .i64 0, PV.str [], PV.int .i64 0], PV.bool false])) (Tr.ite (iLt 64 (sLen (sSub v (nNat v2) (nNat (iAdd .i64 v2 (rmark_n v v2)))))) (Tr.ret (PV.tup [PV.agg [PV.int .i64 0, PV.str [], PV.int .i64 0, PV.int .i64 0, PV.str [], PV.int .i64 0], PV.bool false])) (Tr.ite (iEq 6 3) (Tr.ite (iNe (iAdd .i64 v2 (rmark_n v v2)) (iAdd .i64 v2 1)) (Tr.ret (PV.tup [PV.agg [PV.int .i64 0, PV.str [], PV.int .i64 0, PV.int .i64 0, PV.str [], PV.int .i64 0], PV.bool false])) (Tr.ret (PV.tup [PV.agg [PV.int .i64 6, PV.str (sSub v (nNat v2) (nNat (iAdd .i64 v2 (rmark_n v v2)))), PV.int .i64 0, PV.int .i64 0, PV.str [], PV.int .i64 v2], PV.bool true]))) (Tr.ret (PV.tup [PV.agg [PV.int .i64 6, PV.str (sSub v (nNat v2) (nNat (iAdd .i64 v2 (rmark_n v v2)))), PV.int .i64 0, PV.int .i64 0, PV.str [], PV.int .i64 v2], PV.bool true]))))) Tr.fail) Tr.fail))) (Tr.ite (iEq (sAt v v2) 34) (Tr.ite (rquoted_is0 v v2) (Tr.ite (iLt (rquoted_n v v2) 0) (Tr.ret (PV.tup [PV.agg [PV.int .i64 0, PV.str [], PV.int .i64 0, PV.int .i64 0, PV.str [], PV.int .i64 0], PV.bool false])) (Tr.ite (okSub (okPos v2) (okPos (rquoted_n v v2)) (nNat v2) (nNat (rquoted_n v v2)) (nLen v)) (Tr.ite (rvalue_is0 5 (sSub v (nNat v2) (nNat (rquoted_n v v2))) v2) (Tr.ret (PV.tup [PV.agg
 [PV.int .i64 (rvalue_n 5 (sSub v (nNat v2) (nNat (rquoted_n v v2))) v2), PV.str (rvalue_s 5 (sSub v (nNat v2) (nNat (rquoted_n v v2))) v2), PV.int .i64 (rvalue_n2 5 (sSub v (nNat v2) (nNat (rquoted_n v v2))) v2), PV.int .i64 (rvalue_n3 5 (sSub v (nNat v2) (nNat (rquoted_n v v2))) v2), PV.str (rvalue_s2 5 (sSub v (nNat v2) (nNat (rquoted_n v v2))) v2), PV.int .i64 (rvalue_n4 5 (sSub v (nNat v2) (nNat (rquoted_n v v2))) v2)], PV.bool (rvalue_b 5 (sSub v (nNat v2) (nNat (rquoted_n v v2))) v2)])) Tr.fail) Tr.fail)) Tr.fail) (Tr.ite (rmark_is0 v v2) (Tr.ite (okSub (okPos v2) (okPos (iAdd .i64 v2 (rmark_n v v2))) (nNat v2) (nNat (iAdd .i64 v2 (rmark_n v v2))) (nLen v)) (Tr.ite (iEq (iAdd .i64 v2 (rmark_n v v2)) v2) (Tr.ret (PV.tup [PV.agg [PV.int .i64 0, PV.str [], PV.int .i64 0, PV.int .i64 0, PV.str [], PV.int .i64 0], PV.bool false])) (Tr.ite (iLt 64 (sLen (sSub v (nNat v2) (nNat (iAdd .i64 v2 (rmark_n v v2)))))) (Tr.ret (PV.tup [PV.agg [PV.int .i64 0, PV.str [], PV.int .i64 0, PV.int .i64 0, PV.str [], PV.int .i64 0], PV.bool false])) (Tr.ite (iEq 6 3) (Tr.ite (iNe (iAdd .i64 v2 (rmark_n v v2)) (iAdd .i64 v2 1)) (Tr.ret (PV.tup [PV.agg [PV.int .i64 0, PV.str [], PV.int .i64 0, PV.int .i64 0, PV.str [], PV.int .i64 0], PV.bool false])) (Tr.ret (PV.tup [PV.agg [PV.int .i64 6, PV.str (sSub v (nNat v2) (nNat (iAdd .i64 v2 (rmark_n v v2)))), PV.int .i64 0, PV.int .i64 0, PV.str [], PV.int .i64 v2], PV.bool true]))) (Tr.ret (PV.tup [PV.agg [PV.int .i64 6, PV.str (sSub v (nNat v2) (nNat (iAdd .i64 v2 (rmark_n v v2)))), PV.int .i64 0, PV.int .i64 0, PV.str [], PV.int .i64 v2], PV.bool true]))))) Tr.fail) Tr.fail)))) Tr.fail))) Tr.fail)) Tr.fail) Tr.fail
theorem rword_T (v : List UInt8) (v2 : Int) : (tcall tbT G_rword L_rword Tryd.f24 [.str v, .int .i64 v2]).flat = rword_Tr v v2 := by kernel_rfl
noncomputable def rword_W (v : List UInt8) (v2 : Int) : Option PV := (rword_Tr v v2).run
noncomputable def rword_n (v : List UInt8) (v2 : Int) : Int := (gInt (gAt (gCs (gAt (gCs (gVal (rword_W v v2))) 0)) 0))
noncomputable def rword_s (v : List UInt8) (v2 : Int) : List UInt8 := (gStr (gAt (gCs (gAt (gCs (gVal (rword_W v v2))) 0)) 1))
noncomputable def rword_n2 (v : List UInt8) (v2 : Int) : Int := (gInt (gAt (gCs (gAt (gCs (gVal (rword_W v v2))) 0)) 2))
noncomputable def rword_n3 (v : List UInt8) (v2 : Int) : Int := (gInt (gAt (gCs (gAt (gCs (gVal (rword_W v v2))) 0)) 3))
noncomputable def rword_s2 (v : List UInt8) (v2 : Int) : List UInt8 := (gStr (gAt (gCs (gAt (gCs (gVal (rword_W v v2))) 0)) 4))
noncomputable def rword_n4 (v : List UInt8) (v2 : Int) : Int := (gInt (gAt (gCs (gAt (gCs (gVal (rword_W v v2))) 0)) 5))
noncomputable def rword_b (v : List UInt8) (v2 : Int) : Bool := (gBool (gAt (gCs (gVal (rword_W v v2))) 1))
noncomputable def rword_is0 (v : List UInt8) (v2 : Int) : Bool := isW (rword_W v v2) (.tup [.agg [.int .i64 (rword_n v v2), .str (rword_s v v2), .int .i64 (rword_n2 v v2), .int .i64 (rword_n3 v v2), .str (rword_s2 v v2), .int .i64 (rword_n4 v v2)], .bool (rword_b v v2)])
noncomputable def F_rword : List PV → Tr PV | [.str v, .int .i64 v2] => .ite (rword_is0 v v2) (.ret (.tup [.agg [.int .i64 (rword_n v v2), .str (rword_s v v2), .int .i64 (rword_n2 v v2), .int .i64 (rword_n3 v v2), .str (rword_s2 v v2), .int .i64 (rword_n4 v v2)], .bool (rword_b v v2)])) (.fail) | _ => .fail
theorem sim_rword (gl : Gl) : SimP Tryd.prog gl 24 fun args => (F_rword args).run := by
  refine SimP.of_flat (G := G_rword) (L := L_rword) tbT_ok (gok_rword gl ) noMixed Tryd.func24 rfl (by rfl) (by kernel_rfl) (loopOk_none (by kernel_rfl)) ?_
  intro args x h
  unfold F_rword at h
  split at h
  · exact (congrArg Tr.run (rword_T _ _)).trans (ite_isW h fun h => by cases h)
  · cases h
noncomputable def G_rWords : GamT := ofL [(23, .pure F_rgap), (24, .pure F_rword)]
theorem gok_rWords (gl : Gl) : GamOk Tryd.prog gl (gam G_rWords) := (gamOk_cons (sim_rgap gl) (gamOk_cons (sim_rword gl) gamOk_nil))
noncomputable def c_rWords1 : Code := loopC Tryd.f11 5
def I_rWords1 : LI := ⟨39, [0, 5, 6], fun e => match e with | .ret => [2, 3, 4] | .exit 0 => [5] | _ => [], true⟩
noncomputable def LI_rWords1 : LpsT := fun r fr σ => .fail
noncomputable def rWords1_V (vs : List PV) (σ : Store) : Option (PExit × List PV × Store) := lval (lstep tbT G_rWords LI_rWords1 c_rWords1 I_rWords1) vs σ
noncomputable def rWords1_Tr (s : List UInt8) (out : List (List PV)) (at_ : Int) : Tr LR := Tr.ite (iLt at_ (sLen s)) (Tr.ite (rword_is0 s at_) (Tr.ite (bNot (rword_b s at_)) (Tr.ret (LR.out .ret [PV.sl (dropPLL 0 []) .full, PV.int .i64 at_, PV.int .i64 120] (Store.mk [] [] []))) (Tr.ite (okGrow out [[PV.int .i64 (rword_n s at_), PV.str (rword_s s at_), PV.int .i64 (rword_n2 s at_), PV.int .i64 (rword_n3 s at_), PV.str (rword_s2 s at_), PV.int .i64 (rword_n4 s at_)]] 64) (Tr.ite (okNews [[PV.int .i64 (rword_n s at_), PV.str (rword_s s at_), PV.int .i64 (rword_n2 s at_), PV.int .i64 (rword_n3 s at_), PV.str (rword_s2 s at_), PV.int .i64 (rword_n4 s at_)]] 6) (Tr.ite (okSize out 6) (Tr.ite (rgap_is0 s (iAdd .i64 at_ (sLen (rword_s s at_)))) (Tr.ret (LR.next [PV.str s, PV.sl (dropPLL 0 (xApp out [[PV.int .i64 (rword_n s at_), PV.str (rword_s s at_), PV.int .i64 (rword_n2 s at_), PV.int .i64 (rword_n3 s at_), PV.str (rword_s2 s at_), PV.int .i64 (rword_n4 s at_)]])) (.tok 0), PV.int .i64 (rgap_n s (iAdd .i64 at_ (sLen (rword_s s at_))))] (Store.mk [] [(nXs (xApp out [[PV.int .i64 (rword_n s at_), PV.str (rword_s s at_), PV.int .i64 (rword_n2 s at_), PV.int .i64 (rword_n3 s at_), PV.str (rword_s2 s at_), PV.int .i64 (rword_n4 s at_)]]), 6, 37)] []))) Tr.fail) Tr.fail) Tr.fail) Tr.fail)) Tr.fail) (Tr.ret (LR.out (.exit 0) [PV.sl out .full] (Store.mk [] [] [])))
theorem rWords1_T (s : List UInt8) (out : List (List PV)) (at_ : Int) : lstep tbT G_rWords LI_rWords1 c_rWords1 I_rWords1 [.str s, .sl out .full, .int .i64 at_] ⟨[], [], []⟩ = rWords1_Tr s out at_ := by kernel_rfl
theorem rWords1_E (s : List UInt8) (out : List (List PV)) (at_ : Int) : rWords1_V [.str s, .sl out .full, .int .i64 at_] ⟨[], [], []⟩ = lnext rWords1_V (rWords1_Tr s out at_).run := by unfold rWords1_V; rw [lval_eq, rWords1_T]
noncomputable def rWords1_Tr1 (s : List UInt8) (out : List (List PV)) (at_ : Int) (k : Nat) : Tr LR := Tr.ite (iLt at_ (sLen s)) (Tr.ite (rword_is0 s at_) (Tr.ite (bNot (rword_b s at_)) (Tr.ret (LR.out .ret [PV.sl (dropPLL 0 []) .full, PV.int .i64 at_, PV.int .i64 120] (Store.mk [] [(k, 6, 37)] []))) (Tr.ite (okGrow out [[PV.int .i64 (rword_n s at_), PV.str (rword_s s at_), PV.int .i64 (rword_n2 s at_), PV.int .i64 (rword_n3 s at_), PV.str (rword_s2 s at_), PV.int .i64 (rword_n4 s at_)]] 64) (Tr.ite (okNews [[PV.int .i64 (rword_n s at_), PV.str (rword_s s at_), PV.int .i64 (rword_n2 s at_), PV.int .i64 (rword_n3 s at_), PV.str (rword_s2 s at_), PV.int .i64 (rword_n4 s at_)]] 6) (Tr.ite (okSize out 6) (Tr.ite (nEq k (nXs out)) (Tr.ite (rgap_is0 s (iAdd .i64 at_ (sLen (rword_s s at_)))) (Tr.ret (LR.next [PV.str s, PV.sl (dropPLL 0 (xApp out [[PV.int .i64 (rword_n s at_), PV.str (rword_s s at_), PV.int .i64 (rword_n2 s at_), PV.int .i64 (rword_n3 s at_), PV.str (rword_s2 s at_), PV.int .i64 (rword_n4 s at_)]])) (.tok 0), PV.int .i64 (rgap_n s (iAdd .i64 at_ (sLen (rword_s s at_))))] (Store.mk [] [(nXs (xApp out [[PV.int .i64 (rword_n s at_), PV.str (rword_s s at_), PV.int .i64 (rword_n2 s at_), PV.int .i64 (rword_n3 s at_), PV.str (rword_s2 s at_), PV.int .i64 (rword_n4 s at_)]]), 6, 37)] []))) Tr.fail) Tr.fail) Tr.fail) Tr.fail) Tr.fail)) Tr.fail) (Tr.ret (LR.out (.exit 0) [PV.sl out (.tok 0)] (Store.mk [] [(k, 6, 37)] [])))
theorem rWords1_T1 (s : List UInt8) (out : List (List PV)) (at_ : Int) (k : Nat) : lstep tbT G_rWords LI_rWords1 c_rWords1 I_rWords1 [.str s, .sl out (.tok 0), .int .i64 at_] ⟨[], [(k, 6, 37)], []⟩ = rWords1_Tr1 s out at_ k := by kernel_rfl
theorem rWords1_E1 (s : List UInt8) (out : List (List PV)) (at_ : Int) (k : Nat) : rWords1_V [.str s, .sl out (.tok 0), .int .i64 at_] ⟨[], [(k, 6, 37)], []⟩ = lnext rWords1_V (rWords1_Tr1 s out at_ k).run := by unfold rWords1_V; rw [lval_eq, rWords1_T1]
noncomputable def rWords1_W (s : List UInt8) (out : List (List PV)) (at_ : Int) : Option (PExit × List PV × Store) := rWords1_V [.str s, .sl out .full, .int .i64 at_] ⟨[], [], []⟩
noncomputable def rWords1_r_0 (s : List UInt8) (out : List (List PV)) (at_ : Int) : List (List PV) := (gRow (gOut (rWords1_W s out at_) 0))
noncomputable def rWords1_n_0 (s : List UInt8) (out : List (List PV)) (at_ : Int) : Int := (gInt (gOut (rWords1_W s out at_) 1))
noncomputable def rWords1_n2_0 (s : List UInt8) (out : List (List PV)) (at_ : Int) : Int := (gInt (gOut (rWords1_W s out at_) 2))
noncomputable def rWords1_is0 (s : List UInt8) (out : List (List PV)) (at_ : Int) : Bool := isW (rWords1_W s out at_) (.ret, [.sl (rWords1_r_0 s out at_) .full, .int .i64 (rWords1_n_0 s out at_), .int .i64 (rWords1_n2_0 s out at_)], ⟨[], [], []⟩)
noncomputable def rWords1_out_1 (s : List UInt8) (out : List (List PV)) (at_ : Int) : List (List PV) := (gRow (gOut (rWords1_W s out at_) 0))
noncomputable def rWords1_is1 (s : List UInt8) (out : List (List PV)) (at_ : Int) : Bool := isW (rWords1_W s out at_) ((.exit 0), [.sl (rWords1_out_1 s out at_) .full], ⟨[], [], []⟩)
noncomputable def rWords1_r_2 (s : List UInt8) (out : List (List PV)) (at_ : Int) : List (List PV) := (gRow (gOut (rWords1_W s out at_) 0))
noncomputable def rWords1_n_2 (s : List UInt8) (out : List (List PV)) (at_ : Int) : Int := (gInt (gOut (rWords1_W s out at_) 1))
noncomputable def rWords1_n2_2 (s : List UInt8) (out : List (List PV)) (at_ : Int) : Int := (gInt (gOut (rWords1_W s out at_) 2))
noncomputable def rWords1_k_2 (s : List UInt8) (out : List (List PV)) (at_ : Int) : Nat := (gTok (rWords1_W s out at_) 0)
noncomputable def rWords1_is2 (s : List UInt8) (out : List (List PV)) (at_ : Int) : Bool := isW (rWords1_W s out at_) (.ret, [.sl (rWords1_r_2 s out at_) .full, .int .i64 (rWords1_n_2 s out at_), .int .i64 (rWords1_n2_2 s out at_)], ⟨[], [((rWords1_k_2 s out at_), 6, 37)], []⟩)
noncomputable def rWords1_out_3 (s : List UInt8) (out : List (List PV)) (at_ : Int) : List (List PV) := (gRow (gOut (rWords1_W s out at_) 0))
noncomputable def rWords1_k_3 (s : List UInt8) (out : List (List PV)) (at_ : Int) : Nat := (gTok (rWords1_W s out at_) 0)
noncomputable def rWords1_is3 (s : List UInt8) (out : List (List PV)) (at_ : Int) : Bool := isW (rWords1_W s out at_) ((.exit 0), [.sl (rWords1_out_3 s out at_) (.tok 0)], ⟨[], [((rWords1_k_3 s out at_), 6, 37)], []⟩)
noncomputable def rWords1_prop : List PV → Store → Tr (PExit × List PV × Store) | [.str s, .sl out .full, .int .i64 at_], ⟨[], [], []⟩ => .ite (rWords1_is0 s out at_) (.ret (.ret, [.sl (rWords1_r_0 s out at_) .full, .int .i64 (rWords1_n_0 s out at_), .int .i64 (rWords1_n2_0 s out at_)], ⟨[], [], []⟩)) (.ite (rWords1_is1 s out at_) (.ret ((.exit 0), [.sl (rWords1_out_1 s out at_) .full], ⟨[], [], []⟩)) (.ite (rWords1_is2 s out at_) (.ret (.ret, [.sl (rWords1_r_2 s out at_) .full, .int .i64 (rWords1_n_2 s out at_), .int .i64 (rWords1_n2_2 s out at_)], ⟨[], [((rWords1_k_2 s out at_), 6, 37)], []⟩)) (.ite (rWords1_is3 s out at_) (.ret ((.exit 0), [.sl (rWords1_out_3 s out at_) (.tok 0)], ⟨[], [((rWords1_k_3 s out at_), 6, 37)], []⟩)) (.fail)))) | _, _ => .fail
theorem rWords1_ok : ∀ vs σ r, (rWords1_prop vs σ).run = some r → rWords1_V vs σ = some r := by
  intro vs σ r h
  unfold rWords1_prop at h
  split at h
  · exact ite_isW h fun h => ite_isW h fun h => ite_isW h fun h => ite_isW h fun h => by cases h
  · cases h
theorem loop_rWords1 (gl : Gl) : ∀ fr σ e fr' σ', (orc I_rWords1 rWords1_prop fr σ).run = some (e, fr', σ') → LDoes Tryd.prog gl c_rWords1 fr σ e fr' σ' := orc_ok tbT_ok (gok_rWords gl ) noMixed (L := LI_rWords1) (loopOk_none (by kernel_rfl)) (by kernel_rfl) rWords1_ok
noncomputable def L_rWords : LpsT := fun r fr σ => bif Nat.beq r 5 then orc I_rWords1 rWords1_prop fr σ else .fail
noncomputable def rWords_Tr (s : List UInt8) : Tr PV := Tr.ite (iLt 65536 (sLen s)) (Tr.ret (PV.tup [PV.sl [] .non, PV.int .i64 0, PV.int .i64 2])) (Tr.ite (rgap_is0 s 0) (Tr.ite (rWords1_is0 s [] (rgap_n s 0)) (Tr.ret (PV.tup [PV.sl (shutLL (rWords1_r_0 s [] (rgap_n s 0))) .non, PV.int .i64 (rWords1_n_0 s [] (rgap_n s 0)), PV.int .i64 (rWords1_n2_0 s [] (rgap_n s 0))])) (Tr.ite (rWords1_is1 s [] (rgap_n s 0)) (Tr.ret (PV.tup [PV.sl (shutLL (rWords1_out_1 s [] (rgap_n s 0))) .non, PV.int .i64 0, PV.int .i64 0])) (Tr.ite (rWords1_is2 s [] (rgap_n s 0)) (Tr.ret (PV.tup [PV.sl (shutLL (rWords1_r_2 s [] (rgap_n s 0))) .non, PV.int .i64 (rWords1_n_2 s [] (rgap_n s 0)), PV.int .i64 (rWords1_n2_2 s [] (rgap_n s 0))])) (Tr.ite (rWords1_is3 s [] (rgap_n s 0)) (Tr.ret (PV.tup [PV.sl (shutLL (rWords1_out_3 s [] (rgap_n s 0))) .non, PV.int .i64 0, PV.int .i64 0])) Tr.fail)))) Tr.fail)
theorem rWords_T (s : List UInt8) : (tcall tbT G_rWords L_rWords Tryd.f11 [.str s]).flat = rWords_Tr s := by kernel_rfl
noncomputable def rWords_W (s : List UInt8) : Option PV := (rWords_Tr s).run
noncomputable def rWords_r (s : List UInt8) : List (List PV) := (gRow (gAt (gCs (gVal (rWords_W s))) 0))
noncomputable def rWords_n (s : List UInt8) : Int := (gInt (gAt (gCs (gVal (rWords_W s))) 1))
noncomputable def rWords_n2 (s : List UInt8) : Int := (gInt (gAt (gCs (gVal (rWords_W s))) 2))
noncomputable def rWords_is0 (s : List UInt8) : Bool := isW (rWords_W s) (.tup [.sl (rWords_r s) .non, .int .i64 (rWords_n s), .int .i64 (rWords_n2 s)])
noncomputable def F_rWords : List PV → Tr PV | [.str s] => .ite (rWords_is0 s) (.ret (.tup [.sl (rWords_r s) .non, .int .i64 (rWords_n s), .int .i64 (rWords_n2 s)])) (.fail) | _ => .fail
theorem sim_rWords (gl : Gl) : SimP Tryd.prog gl 11 fun args => (F_rWords args).run := by
  refine SimP.of_flat (G := G_rWords) (L := L_rWords) tbT_ok (gok_rWords gl ) noMixed Tryd.func11 rfl (by rfl) (by kernel_rfl) (loopOk_all (L := lps L_rWords) [(5, c_rWords1)] (by kernel_rfl) (List.forall_mem_cons.2 ⟨fun fr σ e fr' σ' h => loop_rWords1 gl  fr σ e fr' σ' h, (List.forall_mem_nil _)⟩)) ?_
  intro args x h
  unfold F_rWords at h
  split at h
  · exact (congrArg Tr.run (rWords_T _)).trans (ite_isW h fun h => by cases h)
  · cases h
noncomputable def G_rGaps : GamT := ofL [(23, .pure F_rgap)]
theorem gok_rGaps (gl : Gl) : GamOk Tryd.prog gl (gam G_rGaps) := (gamOk_cons (sim_rgap gl) gamOk_nil)
noncomputable def L_rGaps : LpsT := fun r fr σ => .fail
noncomputable def rGaps_Tr (s : List UInt8) : Tr PV := Tr.ite (rgap_is0 s 0) (Tr.ret (PV.bool (iEq (rgap_n s 0) (sLen s)))) Tr.fail
theorem rGaps_T (s : List UInt8) : (tcall tbT G_rGaps L_rGaps Tryd.f14 [.str s]).flat = rGaps_Tr s := by kernel_rfl
noncomputable def rGaps_W (s : List UInt8) : Option PV := (rGaps_Tr s).run
noncomputable def rGaps_b (s : List UInt8) : Bool := (gBool (gVal (rGaps_W s)))
noncomputable def rGaps_is0 (s : List UInt8) : Bool := isW (rGaps_W s) (.bool (rGaps_b s))
noncomputable def F_rGaps : List PV → Tr PV | [.str s] => .ite (rGaps_is0 s) (.ret (.bool (rGaps_b s))) (.fail) | _ => .fail
theorem sim_rGaps (gl : Gl) : SimP Tryd.prog gl 14 fun args => (F_rGaps args).run := by
  refine SimP.of_flat (G := G_rGaps) (L := L_rGaps) tbT_ok (gok_rGaps gl ) noMixed Tryd.func14 rfl (by rfl) (by kernel_rfl) (loopOk_none (by kernel_rfl)) ?_
  intro args x h
  unfold F_rGaps at h
  split at h
  · exact (congrArg Tr.run (rGaps_T _)).trans (ite_isW h fun h => by cases h)
  · cases h
noncomputable def G_rSame : GamT := ofL []
theorem gok_rSame (gl : Gl) : GamOk Tryd.prog gl (gam G_rSame) := gamOk_nil
noncomputable def L_rSame : LpsT := fun r fr σ => .fail
noncomputable def rSame_Tr (a : Int) (a2 : List UInt8) (a3 : Int) (a4 : Int) (a5 : List UInt8) (a6 : Int) (b : Int) (b2 : List UInt8) (b3 : Int) (b4 : Int) (b5 : List UInt8) (b6 : Int) : Tr PV := Tr.ite (iEq a b) (Tr.ite (sEq a2 b2) (Tr.ret (PV.bool (bAnd (iEq a3 b3) (bAnd (iEq a4 b4) (bAnd (sEq a5 b5) true))))) (Tr.ret (PV.bool false))) (Tr.ret (PV.bool false))
theorem rSame_T (a : Int) (a2 : List UInt8) (a3 : Int) (a4 : Int) (a5 : List UInt8) (a6 : Int) (b : Int) (b2 : List UInt8) (b3 : Int) (b4 : Int) (b5 : List UInt8) (b6 : Int) : (tcall tbT G_rSame L_rSame Tryd.f16 [.agg [.int .i64 a, .str a2, .int .i64 a3, .int .i64 a4, .str a5, .int .i64 a6], .agg [.int .i64 b, .str b2, .int .i64 b3, .int .i64 b4, .str b5, .int .i64 b6]]).flat = rSame_Tr a a2 a3 a4 a5 a6 b b2 b3 b4 b5 b6 := by kernel_rfl
noncomputable def rSame_W (a : Int) (a2 : List UInt8) (a3 : Int) (a4 : Int) (a5 : List UInt8) (a6 : Int) (b : Int) (b2 : List UInt8) (b3 : Int) (b4 : Int) (b5 : List UInt8) (b6 : Int) : Option PV := (rSame_Tr a a2 a3 a4 a5 a6 b b2 b3 b4 b5 b6).run
noncomputable def rSame_b (a : Int) (a2 : List UInt8) (a3 : Int) (a4 : Int) (a5 : List UInt8) (a6 : Int) (b : Int) (b2 : List UInt8) (b3 : Int) (b4 : Int) (b5 : List UInt8) (b6 : Int) : Bool := (gBool (gVal (rSame_W a a2 a3 a4 a5 a6 b b2 b3 b4 b5 b6)))
noncomputable def rSame_is0 (a : Int) (a2 : List UInt8) (a3 : Int) (a4 : Int) (a5 : List UInt8) (a6 : Int) (b : Int) (b2 : List UInt8) (b3 : Int) (b4 : Int) (b5 : List UInt8) (b6 : Int) : Bool := isW (rSame_W a a2 a3 a4 a5 a6 b b2 b3 b4 b5 b6) (.bool (rSame_b a a2 a3 a4 a5 a6 b b2 b3 b4 b5 b6))
noncomputable def F_rSame : List PV → Tr PV | [.agg [.int .i64 a, .str a2, .int .i64 a3, .int .i64 a4, .str a5, .int .i64 a6], .agg [.int .i64 b, .str b2, .int .i64 b3, .int .i64 b4, .str b5, .int .i64 b6]] => .ite (rSame_is0 a a2 a3 a4 a5 a6 b b2 b3 b4 b5 b6) (.ret (.bool (rSame_b a a2 a3 a4 a5 a6 b b2 b3 b4 b5 b6))) (.fail) | _ => .fail
theorem sim_rSame (gl : Gl) : SimP Tryd.prog gl 16 fun args => (F_rSame args).run := by
  refine SimP.of_flat (G := G_rSame) (L := L_rSame) tbT_ok (gok_rSame gl ) noMixed Tryd.func16 rfl (by rfl) (by kernel_rfl) (loopOk_none (by kernel_rfl)) ?_
  intro args x h
  unfold F_rSame at h
  split at h
  · exact (congrArg Tr.run (rSame_T _ _ _ _ _ _ _ _ _ _ _ _)).trans (ite_isW h fun h => by cases h)
  · cases h
noncomputable def G_rSameAll : GamT := ofL []
theorem gok_rSameAll (gl : Gl) : GamOk Tryd.prog gl (gam G_rSameAll) := gamOk_nil
noncomputable def c_rSameAll1 : Code := loopC Tryd.f12 4
def I_rSameAll1 : LI := ⟨26, [0, 1, 5], fun e => match e with | .ret => [4] | .exit 0 => [] | _ => [], true⟩
noncomputable def LI_rSameAll1 : LpsT := fun r fr σ => .fail
noncomputable def rSameAll1_V (vs : List PV) (σ : Store) : Option (PExit × List PV × Store) := lval (lstep tbT G_rSameAll LI_rSameAll1 c_rSameAll1 I_rSameAll1) vs σ
noncomputable def rSameAll1_Tr (a : List (List PV)) (b : List (List PV)) (i : Int) : Tr LR := Tr.ite (iLt i (xLen a)) (Tr.ite (okPos i) (Tr.ite (okGet [PV.int .i64 0, PV.str [], PV.int .i64 0, PV.int .i64 0, PV.str [], PV.int .i64 0] a (nNat i)) (Tr.ite (okPos i) (Tr.ite (okGet [PV.int .i64 0, PV.str [], PV.int .i64 0, PV.int .i64 0, PV.str [], PV.int .i64 0] b (nNat i)) (Tr.ite (bNot (bAnd (iEq (xInt a (nNat i) 0) (xInt b (nNat i) 0)) (bAnd (sEq (xStr a (nNat i) 1) (xStr b (nNat i) 1)) (bAnd (bAnd (iEq (xInt a (nNat i) 2) (xInt b (nNat i) 2)) (bAnd (iEq (xInt a (nNat i) 3) (xInt b (nNat i) 3)) (bAnd (sEq (xStr a (nNat i) 4) (xStr b (nNat i) 4)) true))) (bAnd (iEq (xInt a (nNat i) 5) (xInt b (nNat i) 5)) true))))) (Tr.ret (LR.out .ret [PV.bool false] (Store.mk [] [] []))) (Tr.ret (LR.next [PV.sl a .non, PV.sl b .non, PV.int .i64 (iAdd .i64 i 1)] (Store.mk [] [] [])))) Tr.fail) Tr.fail) Tr.fail) Tr.fail) (Tr.ret (LR.out (.exit 0) [] (Store.mk [] [] [])))
theorem rSameAll1_T (a : List (List PV)) (b : List (List PV)) (i : Int) : lstep tbT G_rSameAll LI_rSameAll1 c_rSameAll1 I_rSameAll1 [.sl a .non, .sl b .non, .int .i64 i] ⟨[], [], []⟩ = rSameAll1_Tr a b i := by kernel_rfl
theorem rSameAll1_E (a : List (List PV)) (b : List (List PV)) (i : Int) : rSameAll1_V [.sl a .non, .sl b .non, .int .i64 i] ⟨[], [], []⟩ = lnext rSameAll1_V (rSameAll1_Tr a b i).run := by unfold rSameAll1_V; rw [lval_eq, rSameAll1_T]
noncomputable def rSameAll1_W (a : List (List PV)) (b : List (List PV)) (i : Int) : Option (PExit × List PV × Store) := rSameAll1_V [.sl a .non, .sl b .non, .int .i64 i] ⟨[], [], []⟩
noncomputable def rSameAll1_b_0 (a : List (List PV)) (b : List (List PV)) (i : Int) : Bool := (gBool (gOut (rSameAll1_W a b i) 0))
noncomputable def rSameAll1_is0 (a : List (List PV)) (b : List (List PV)) (i : Int) : Bool := isW (rSameAll1_W a b i) (.ret, [.bool (rSameAll1_b_0 a b i)], ⟨[], [], []⟩)
noncomputable def rSameAll1_is1 (a : List (List PV)) (b : List (List PV)) (i : Int) : Bool := isW (rSameAll1_W a b i) ((.exit 0), [], ⟨[], [], []⟩)
noncomputable def rSameAll1_prop : List PV → Store → Tr (PExit × List PV × Store) | [.sl a .non, .sl b .non, .int .i64 i], ⟨[], [], []⟩ => .ite (rSameAll1_is0 a b i) (.ret (.ret, [.bool (rSameAll1_b_0 a b i)], ⟨[], [], []⟩)) (.ite (rSameAll1_is1 a b i) (.ret ((.exit 0), [], ⟨[], [], []⟩)) (.fail)) | _, _ => .fail
theorem rSameAll1_ok : ∀ vs σ r, (rSameAll1_prop vs σ).run = some r → rSameAll1_V vs σ = some r := by
  intro vs σ r h
  unfold rSameAll1_prop at h
  split at h
  · exact ite_isW h fun h => ite_isW h fun h => by cases h
  · cases h
theorem loop_rSameAll1 (gl : Gl) : ∀ fr σ e fr' σ', (orc I_rSameAll1 rSameAll1_prop fr σ).run = some (e, fr', σ') → LDoes Tryd.prog gl c_rSameAll1 fr σ e fr' σ' := orc_ok tbT_ok (gok_rSameAll gl ) noMixed (L := LI_rSameAll1) (loopOk_none (by kernel_rfl)) (by kernel_rfl) rSameAll1_ok
noncomputable def L_rSameAll : LpsT := fun r fr σ => bif Nat.beq r 4 then orc I_rSameAll1 rSameAll1_prop fr σ else .fail
noncomputable def rSameAll_Tr (a : List (List PV)) (b : List (List PV)) : Tr PV := Tr.ite (iNe (xLen a) (xLen b)) (Tr.ret (PV.bool false)) (Tr.ite (rSameAll1_is0 a b 0) (Tr.ret (PV.bool (rSameAll1_b_0 a b 0))) (Tr.ite (rSameAll1_is1 a b 0) (Tr.ret (PV.bool true)) Tr.fail))
theorem rSameAll_T (a : List (List PV)) (b : List (List PV)) : (tcall tbT G_rSameAll L_rSameAll Tryd.f12 [.sl a .non, .sl b .non]).flat = rSameAll_Tr a b := by kernel_rfl
noncomputable def rSameAll_W (a : List (List PV)) (b : List (List PV)) : Option PV := (rSameAll_Tr a b).run
noncomputable def rSameAll_b (a : List (List PV)) (b : List (List PV)) : Bool := (gBool (gVal (rSameAll_W a b)))
noncomputable def rSameAll_is0 (a : List (List PV)) (b : List (List PV)) : Bool := isW (rSameAll_W a b) (.bool (rSameAll_b a b))
noncomputable def F_rSameAll : List PV → Tr PV | [.sl a .non, .sl b .non] => .ite (rSameAll_is0 a b) (.ret (.bool (rSameAll_b a b))) (.fail) | _ => .fail
theorem sim_rSameAll (gl : Gl) : SimP Tryd.prog gl 12 fun args => (F_rSameAll args).run := by
  refine SimP.of_flat (G := G_rSameAll) (L := L_rSameAll) tbT_ok (gok_rSameAll gl ) noMixed Tryd.func12 rfl (by rfl) (by kernel_rfl) (loopOk_all (L := lps L_rSameAll) [(4, c_rSameAll1)] (by kernel_rfl) (List.forall_mem_cons.2 ⟨fun fr σ e fr' σ' h => loop_rSameAll1 gl  fr σ e fr' σ' h, (List.forall_mem_nil _)⟩)) ?_
  intro args x h
  unfold F_rSameAll at h
  split at h
  · exact (congrArg Tr.run (rSameAll_T _ _)).trans (ite_isW h fun h => by cases h)
  · cases h
noncomputable def G_rJoin : GamT := ofL []
theorem gok_rJoin (gl : Gl) : GamOk Tryd.prog gl (gam G_rJoin) := gamOk_nil
noncomputable def c_rJoin1 : Code := loopC Tryd.f20 3
def I_rJoin1 : LI := ⟨25, [0, 3, 4], fun e => match e with | .exit 0 => [3] | _ => [], true⟩
noncomputable def LI_rJoin1 : LpsT := fun r fr σ => .fail
noncomputable def rJoin1_V (vs : List PV) (σ : Store) : Option (PExit × List PV × Store) := lval (lstep tbT G_rJoin LI_rJoin1 c_rJoin1 I_rJoin1) vs σ
noncomputable def rJoin1_Tr (l : List (List PV)) (b : List (List PV)) (i : Int) : Tr LR := Tr.ite (iLt i (xLen l)) (Tr.ite (iLt 0 i) (Tr.ite (okGrow b [[PV.int .u8 32]] 1) (Tr.ite (okNews [[PV.int .u8 32]] 1) (Tr.ite (okSize b 1) (Tr.ite (okPos i) (Tr.ite (okGet [PV.int .i64 0, PV.str [], PV.int .i64 0, PV.int .i64 0, PV.str [], PV.int .i64 0] l (nNat i)) (Tr.ite (okGrow (xApp b [[PV.int .u8 32]]) (bytesOf (xStr l (nNat i) 1)) 1) (Tr.ite (okNews (bytesOf (xStr l (nNat i) 1)) 1) (Tr.ite (okSize (xApp b [[PV.int .u8 32]]) 1) (Tr.ite (xNil (bytesOf (xStr l (nNat i) 1))) (Tr.ret (LR.next [PV.sl l .non, PV.sl (xApp b [[PV.int .u8 32]]) (.tok 0), PV.int .i64 (iAdd .i64 i 1)] (Store.mk [] [(nXs (xApp b [[PV.int .u8 32]]), 1, 5)] []))) (Tr.ite (nEq (nXs (xApp b [[PV.int .u8 32]])) (nXs (xApp b [[PV.int .u8 32]]))) (Tr.ret (LR.next [PV.sl l .non, PV.sl (xApp (xApp b [[PV.int .u8 32]]) (bytesOf (xStr l (nNat i) 1))) (.tok 0), PV.int .i64 (iAdd .i64 i 1)] (Store.mk [] [(nXs (xApp (xApp b [[PV.int .u8 32]]) (bytesOf (xStr l (nNat i) 1))), 1, 5)] []))) Tr.fail)) Tr.fail) Tr.fail) Tr.fail) Tr.fail) Tr.fail) Tr.fail) Tr.fail) Tr.fail) (Tr.ite (okPos i) (Tr.ite (okGet [PV.int .i64 0, PV.str [], PV.int .i64 0, PV.int .i64 0, PV.str [], PV.int .i64 0] l (nNat i)) (Tr.ite (okGrow b (bytesOf (xStr l (nNat i) 1)) 1) (Tr.ite (okNews (bytesOf (xStr l (nNat i) 1)) 1) (Tr.ite (okSize b 1) (Tr.ite (xNil (bytesOf (xStr l (nNat i) 1))) (Tr.ret (LR.next [PV.sl l .non, PV.sl b .full, PV.int .i64 (iAdd .i64 i 1)] (Store.mk [] [] []))) (Tr.ret (LR.next [PV.sl l .non, PV.sl (xApp b (bytesOf (xStr l (nNat i) 1))) (.tok 0), PV.int .i64 (iAdd .i64 i 1)] (Store.mk [] [(nXs (xApp b (bytesOf (xStr l (nNat i) 1))), 1, 5)] [])))) Tr.fail) Tr.fail) Tr.fail) Tr.fail) Tr.fail)) (Tr.ret (LR.out (.exit 0) [PV.sl b .full] (Store.mk [] [] [])))
theorem rJoin1_T (l : List (List PV)) (b : List (List PV)) (i : Int) : lstep tbT G_rJoin LI_rJoin1 c_rJoin1 I_rJoin1 [.sl l .non, .sl b .full, .int .i64 i] ⟨[], [], []⟩ = rJoin1_Tr l b i := by kernel_rfl
theorem rJoin1_E (l : List (List PV)) (b : List (List PV)) (i : Int) : rJoin1_V [.sl l .non, .sl b .full, .int .i64 i] ⟨[], [], []⟩ = lnext rJoin1_V (rJoin1_Tr l b i).run := by unfold rJoin1_V; rw [lval_eq, rJoin1_T]
noncomputable def rJoin1_Tr1 (l : List (List PV)) (b : List (List PV)) (i : Int) (k : Nat) : Tr LR := Tr.ite (iLt i (xLen l)) (Tr.ite (iLt 0 i) (Tr.ite (okGrow b [[PV.int .u8 32]] 1) (Tr.ite (okNews [[PV.int .u8 32]] 1) (Tr.ite (okSize b 1) (Tr.ite (nEq k (nXs b)) (Tr.ite (okPos i) (Tr.ite (okGet [PV.int .i64 0, PV.str [], PV.int .i64 0, PV.int .i64 0, PV.str [], PV.int .i64 0] l (nNat i)) (Tr.ite (okGrow (xApp b [[PV.int .u8 32]]) (bytesOf (xStr l (nNat i) 1)) 1) (Tr.ite (okNews (bytesOf (xStr l (nNat i) 1)) 1) (Tr.ite (okSize (xApp b [[PV.int .u8 32]]) 1) (Tr.ite (xNil (bytesOf (xStr l (nNat i) 1))) (Tr.ret (LR.next [PV.sl l .non, PV.sl (xApp b [[PV.int .u8 32]]) (.tok 0), PV.int .i64 (iAdd .i64 i 1)] (Store.mk [] [(nXs (xApp b [[PV.int .u8 32]]), 1, 5)] []))) (Tr.ite (nEq (nXs (xApp b [[PV.int .u8 32]])) (nXs (xApp b [[PV.int .u8 32]]))) (Tr.ret (LR.next [PV.sl l .non, PV.sl (xApp (xApp b [[PV.int .u8 32]]) (bytesOf (xStr l (nNat i) 1))) (.tok 0), PV.int .i64 (iAdd .i64 i 1)] (Store.mk [] [(nXs (xApp (xApp b [[PV.int .u8 32]]) (bytesOf (xStr l (nNat i) 1))), 1, 5)] []))) Tr.fail)) Tr.fail) Tr.fail) Tr.fail) Tr.fail) Tr.fail) Tr.fail) Tr.fail) Tr.fail) Tr.fail) (Tr.ite (okPos i) (Tr.ite (okGet [PV.int .i64 0, PV.str [], PV.int .i64 0, PV.int .i64 0, PV.str [], PV.int .i64 0] l (nNat i)) (Tr.ite (okGrow b (bytesOf (xStr l (nNat i) 1)) 1) (Tr.ite (okNews (bytesOf (xStr l (nNat i) 1)) 1) (Tr.ite (okSize b 1) (Tr.ite (xNil (bytesOf (xStr l (nNat i) 1))) (Tr.ret (LR.next [PV.sl l .non, PV.sl b (.tok 0), PV.int .i64 (iAdd .i64 i 1)] (Store.mk [] [(k, 1, 5)] []))) (Tr.ite (nEq k (nXs b)) (Tr.ret (LR.next [PV.sl l .non, PV.sl (xApp b (bytesOf (xStr l (nNat i) 1))) (.tok 0), PV.int .i64 (iAdd .i64 i 1)] (Store.mk [] [(nXs (xApp b (bytesOf (xStr l (nNat i) 1))), 1, 5)] []))) Tr.fail)) Tr.fail) Tr.fail) Tr.fail) Tr.fail) Tr.fail)) (Tr.ret (LR.out (.exit 0) [PV.sl b (.tok 0)] (Store.mk [] [(k, 1, 5)] [])))
theorem rJoin1_T1 (l : List (List PV)) (b : List (List PV)) (i : Int) (k : Nat) : lstep tbT G_rJoin LI_rJoin1 c_rJoin1 I_rJoin1 [.sl l .non, .sl b (.tok 0), .int .i64 i] ⟨[], [(k, 1, 5)], []⟩ = rJoin1_Tr1 l b i k := by kernel_rfl
theorem rJoin1_E1 (l : List (List PV)) (b : List (List PV)) (i : Int) (k : Nat) : rJoin1_V [.sl l .non, .sl b (.tok 0), .int .i64 i] ⟨[], [(k, 1, 5)], []⟩ = lnext rJoin1_V (rJoin1_Tr1 l b i k).run := by unfold rJoin1_V; rw [lval_eq, rJoin1_T1]
noncomputable def rJoin1_W (l : List (List PV)) (b : List (List PV)) (i : Int) : Option (PExit × List PV × Store) := rJoin1_V [.sl l .non, .sl b .full, .int .i64 i] ⟨[], [], []⟩
noncomputable def rJoin1_b_0 (l : List (List PV)) (b : List (List PV)) (i : Int) : List (List PV) := (gRow (gOut (rJoin1_W l b i) 0))
noncomputable def rJoin1_is0 (l : List (List PV)) (b : List (List PV)) (i : Int) : Bool := isW (rJoin1_W l b i) ((.exit 0), [.sl (rJoin1_b_0 l b i) .full], ⟨[], [], []⟩)
noncomputable def rJoin1_b_1 (l : List (List PV)) (b : List (List PV)) (i : Int) : List (List PV) := (gRow (gOut (rJoin1_W l b i) 0))
noncomputable def rJoin1_k_1 (l : List (List PV)) (b : List (List PV)) (i : Int) : Nat := (gTok (rJoin1_W l b i) 0)
noncomputable def rJoin1_is1 (l : List (List PV)) (b : List (List PV)) (i : Int) : Bool := isW (rJoin1_W l b i) ((.exit 0), [.sl (rJoin1_b_1 l b i) (.tok 0)], ⟨[], [((rJoin1_k_1 l b i), 1, 5)], []⟩)
noncomputable def rJoin1_prop : List PV → Store → Tr (PExit × List PV × Store) | [.sl l .non, .sl b .full, .int .i64 i], ⟨[], [], []⟩ => .ite (rJoin1_is0 l b i) (.ret ((.exit 0), [.sl (rJoin1_b_0 l b i) .full], ⟨[], [], []⟩)) (.ite (rJoin1_is1 l b i) (.ret ((.exit 0), [.sl (rJoin1_b_1 l b i) (.tok 0)], ⟨[], [((rJoin1_k_1 l b i), 1, 5)], []⟩)) (.fail)) | _, _ => .fail
theorem rJoin1_ok : ∀ vs σ r, (rJoin1_prop vs σ).run = some r → rJoin1_V vs σ = some r := by
  intro vs σ r h
  unfold rJoin1_prop at h
  split at h
  · exact ite_isW h fun h => ite_isW h fun h => by cases h
  · cases h
theorem loop_rJoin1 (gl : Gl) : ∀ fr σ e fr' σ', (orc I_rJoin1 rJoin1_prop fr σ).run = some (e, fr', σ') → LDoes Tryd.prog gl c_rJoin1 fr σ e fr' σ' := orc_ok tbT_ok (gok_rJoin gl ) noMixed (L := LI_rJoin1) (loopOk_none (by kernel_rfl)) (by kernel_rfl) rJoin1_ok
noncomputable def L_rJoin : LpsT := fun r fr σ => bif Nat.beq r 3 then orc I_rJoin1 rJoin1_prop fr σ else .fail
noncomputable def rJoin_Tr (l : List (List PV)) : Tr PV := Tr.ite (rJoin1_is0 l [] 0) (Tr.ite (okBytes (rJoin1_b_0 l [] 0)) (Tr.ret (PV.str (unBytes (rJoin1_b_0 l [] 0)))) Tr.fail) (Tr.ite (rJoin1_is1 l [] 0) (Tr.ite (okBytes (rJoin1_b_1 l [] 0)) (Tr.ret (PV.str (unBytes (rJoin1_b_1 l [] 0)))) Tr.fail) Tr.fail)
theorem rJoin_T (l : List (List PV)) : (tcall tbT G_rJoin L_rJoin Tryd.f20 [.sl l .non]).flat = rJoin_Tr l := by kernel_rfl
noncomputable def rJoin_W (l : List (List PV)) : Option PV := (rJoin_Tr l).run
noncomputable def rJoin_s (l : List (List PV)) : List UInt8 := (gStr (gVal (rJoin_W l)))
noncomputable def rJoin_is0 (l : List (List PV)) : Bool := isW (rJoin_W l) (.str (rJoin_s l))
noncomputable def F_rJoin : List PV → Tr PV | [.sl l .non] => .ite (rJoin_is0 l) (.ret (.str (rJoin_s l))) (.fail) | _ => .fail
theorem sim_rJoin (gl : Gl) : SimP Tryd.prog gl 20 fun args => (F_rJoin args).run := by
  refine SimP.of_flat (G := G_rJoin) (L := L_rJoin) tbT_ok (gok_rJoin gl ) noMixed Tryd.func20 rfl (by rfl) (by kernel_rfl) (loopOk_all (L := lps L_rJoin) [(3, c_rJoin1)] (by kernel_rfl) (List.forall_mem_cons.2 ⟨fun fr σ e fr' σ' h => loop_rJoin1 gl  fr σ e fr' σ' h, (List.forall_mem_nil _)⟩)) ?_
  intro args x h
  unfold F_rJoin at h
  split at h
  · exact (congrArg Tr.run (rJoin_T _)).trans (ite_isW h fun h => by cases h)
  · cases h
noncomputable def G_rWhere : GamT := ofL []
theorem gok_rWhere (gl : Gl) : GamOk Tryd.prog gl (gam G_rWhere) := gamOk_nil
noncomputable def c_rWhere1 : Code := loopC Tryd.f19 5
def I_rWhere1 : LI := ⟨36, [0, 1, 7, 8, 9], fun e => match e with | .exit 0 => [1, 7, 8] | _ => [], true⟩
noncomputable def LI_rWhere1 : LpsT := fun r fr σ => .fail
noncomputable def rWhere1_V (vs : List PV) (σ : Store) : Option (PExit × List PV × Store) := lval (lstep tbT G_rWhere LI_rWhere1 c_rWhere1 I_rWhere1) vs σ
noncomputable def rWhere1_Tr (s : List UInt8) (at_ : Int) (line : Int) (from_ : Int) (i : Int) : Tr LR := Tr.ite (iLt i at_) (Tr.ite (okIdx s i) (Tr.ite (iEq (sAt s i) 10) (Tr.ret (LR.next [PV.str s, PV.int .i64 at_, PV.int .i64 (iAdd .i64 line 1), PV.int .i64 (iAdd .i64 i 1), PV.int .i64 (iAdd .i64 i 1)] (Store.mk [] [] []))) (Tr.ret (LR.next [PV.str s, PV.int .i64 at_, PV.int .i64 line, PV.int .i64 from_, PV.int .i64 (iAdd .i64 i 1)] (Store.mk [] [] [])))) Tr.fail) (Tr.ret (LR.out (.exit 0) [PV.int .i64 at_, PV.int .i64 line, PV.int .i64 from_] (Store.mk [] [] [])))
theorem rWhere1_T (s : List UInt8) (at_ : Int) (line : Int) (from_ : Int) (i : Int) : lstep tbT G_rWhere LI_rWhere1 c_rWhere1 I_rWhere1 [.str s, .int .i64 at_, .int .i64 line, .int .i64 from_, .int .i64 i] ⟨[], [], []⟩ = rWhere1_Tr s at_ line from_ i := by kernel_rfl
theorem rWhere1_E (s : List UInt8) (at_ : Int) (line : Int) (from_ : Int) (i : Int) : rWhere1_V [.str s, .int .i64 at_, .int .i64 line, .int .i64 from_, .int .i64 i] ⟨[], [], []⟩ = lnext rWhere1_V (rWhere1_Tr s at_ line from_ i).run := by unfold rWhere1_V; rw [lval_eq, rWhere1_T]
noncomputable def rWhere1_W (s : List UInt8) (at_ : Int) (line : Int) (from_ : Int) (i : Int) : Option (PExit × List PV × Store) := rWhere1_V [.str s, .int .i64 at_, .int .i64 line, .int .i64 from_, .int .i64 i] ⟨[], [], []⟩
noncomputable def rWhere1_at_ (s : List UInt8) (at_ : Int) (line : Int) (from_ : Int) (i : Int) : Int := (gInt (gOut (rWhere1_W s at_ line from_ i) 0))
noncomputable def rWhere1_line (s : List UInt8) (at_ : Int) (line : Int) (from_ : Int) (i : Int) : Int := (gInt (gOut (rWhere1_W s at_ line from_ i) 1))
noncomputable def rWhere1_from_ (s : List UInt8) (at_ : Int) (line : Int) (from_ : Int) (i : Int) : Int := (gInt (gOut (rWhere1_W s at_ line from_ i) 2))
noncomputable def rWhere1_is0 (s : List UInt8) (at_ : Int) (line : Int) (from_ : Int) (i : Int) : Bool := isW (rWhere1_W s at_ line from_ i) ((.exit 0), [.int .i64 (rWhere1_at_ s at_ line from_ i), .int .i64 (rWhere1_line s at_ line from_ i), .int .i64 (rWhere1_from_ s at_ line from_ i)], ⟨[], [], []⟩)
noncomputable def rWhere1_prop : List PV → Store → Tr (PExit × List PV × Store) | [.str s, .int .i64 at_, .int .i64 line, .int .i64 from_, .int .i64 i], ⟨[], [], []⟩ => .ite (rWhere1_is0 s at_ line from_ i) (.ret ((.exit 0), [.int .i64 (rWhere1_at_ s at_ line from_ i), .int .i64 (rWhere1_line s at_ line from_ i), .int .i64 (rWhere1_from_ s at_ line from_ i)], ⟨[], [], []⟩)) (.fail) | _, _ => .fail
theorem rWhere1_ok : ∀ vs σ r, (rWhere1_prop vs σ).run = some r → rWhere1_V vs σ = some r := by
  intro vs σ r h
  unfold rWhere1_prop at h
  split at h
  · exact ite_isW h fun h => by cases h
  · cases h
theorem loop_rWhere1 (gl : Gl) : ∀ fr σ e fr' σ', (orc I_rWhere1 rWhere1_prop fr σ).run = some (e, fr', σ') → LDoes Tryd.prog gl c_rWhere1 fr σ e fr' σ' := orc_ok tbT_ok (gok_rWhere gl ) noMixed (L := LI_rWhere1) (loopOk_none (by kernel_rfl)) (by kernel_rfl) rWhere1_ok
noncomputable def L_rWhere : LpsT := fun r fr σ => bif Nat.beq r 5 then orc I_rWhere1 rWhere1_prop fr σ else .fail
noncomputable def rWhere_Tr (s : List UInt8) (at_ : Int) : Tr PV := Tr.ite (iLt at_ 0) (Tr.ret (PV.tup [PV.int .i64 0, PV.int .i64 0, PV.int .i64 5])) (Tr.ite (iLt (sLen s) at_) (Tr.ret (PV.tup [PV.int .i64 0, PV.int .i64 0, PV.int .i64 5])) (Tr.ite (rWhere1_is0 s at_ 1 0 0) (Tr.ret (PV.tup [PV.int .i64 (rWhere1_line s at_ 1 0 0), PV.int .i64 (iAdd .i64 (iSub .i64 (rWhere1_at_ s at_ 1 0 0) (rWhere1_from_ s at_ 1 0 0)) 1), PV.int .i64 0])) Tr.fail))
theorem rWhere_T (s : List UInt8) (at_ : Int) : (tcall tbT G_rWhere L_rWhere Tryd.f19 [.str s, .int .i64 at_]).flat = rWhere_Tr s at_ := by kernel_rfl
noncomputable def rWhere_W (s : List UInt8) (at_ : Int) : Option PV := (rWhere_Tr s at_).run
noncomputable def rWhere_n (s : List UInt8) (at_ : Int) : Int := (gInt (gAt (gCs (gVal (rWhere_W s at_))) 0))
noncomputable def rWhere_n2 (s : List UInt8) (at_ : Int) : Int := (gInt (gAt (gCs (gVal (rWhere_W s at_))) 1))
noncomputable def rWhere_n3 (s : List UInt8) (at_ : Int) : Int := (gInt (gAt (gCs (gVal (rWhere_W s at_))) 2))
noncomputable def rWhere_is0 (s : List UInt8) (at_ : Int) : Bool := isW (rWhere_W s at_) (.tup [.int .i64 (rWhere_n s at_), .int .i64 (rWhere_n2 s at_), .int .i64 (rWhere_n3 s at_)])
noncomputable def F_rWhere : List PV → Tr PV | [.str s, .int .i64 at_] => .ite (rWhere_is0 s at_) (.ret (.tup [.int .i64 (rWhere_n s at_), .int .i64 (rWhere_n2 s at_), .int .i64 (rWhere_n3 s at_)])) (.fail) | _ => .fail
theorem sim_rWhere (gl : Gl) : SimP Tryd.prog gl 19 fun args => (F_rWhere args).run := by
  refine SimP.of_flat (G := G_rWhere) (L := L_rWhere) tbT_ok (gok_rWhere gl ) noMixed Tryd.func19 rfl (by rfl) (by kernel_rfl) (loopOk_all (L := lps L_rWhere) [(5, c_rWhere1)] (by kernel_rfl) (List.forall_mem_cons.2 ⟨fun fr σ e fr' σ' h => loop_rWhere1 gl  fr σ e fr' σ' h, (List.forall_mem_nil _)⟩)) ?_
  intro args x h
  unfold F_rWhere at h
  split at h
  · exact (congrArg Tr.run (rWhere_T _ _)).trans (ite_isW h fun h => by cases h)
  · cases h
noncomputable def G_lSame : GamT := ofL []
theorem gok_lSame (gl : Gl) : GamOk Tryd.prog gl (gam G_lSame) := gamOk_nil
noncomputable def L_lSame : LpsT := fun r fr σ => .fail
noncomputable def lSame_Tr (a : Int) (a2 : List UInt8) (a3 : Int) (a4 : Int) (a5 : List UInt8) (a6 : Int) (b : Int) (b2 : List UInt8) (b3 : Int) (b4 : Int) (b5 : List UInt8) (b6 : Int) : Tr PV := Tr.ite (iEq a b) (Tr.ite (sEq a2 b2) (Tr.ret (PV.bool (bAnd (iEq a3 b3) (bAnd (iEq a4 b4) (bAnd (sEq a5 b5) true))))) (Tr.ret (PV.bool false))) (Tr.ret (PV.bool false))
theorem lSame_T (a : Int) (a2 : List UInt8) (a3 : Int) (a4 : Int) (a5 : List UInt8) (a6 : Int) (b : Int) (b2 : List UInt8) (b3 : Int) (b4 : Int) (b5 : List UInt8) (b6 : Int) : (tcall tbT G_lSame L_lSame Tryd.f21 [.agg [.int .i64 a, .str a2, .int .i64 a3, .int .i64 a4, .str a5, .int .i64 a6], .agg [.int .i64 b, .str b2, .int .i64 b3, .int .i64 b4, .str b5, .int .i64 b6]]).flat = lSame_Tr a a2 a3 a4 a5 a6 b b2 b3 b4 b5 b6 := by kernel_rfl
noncomputable def lSame_W (a : Int) (a2 : List UInt8) (a3 : Int) (a4 : Int) (a5 : List UInt8) (a6 : Int) (b : Int) (b2 : List UInt8) (b3 : Int) (b4 : Int) (b5 : List UInt8) (b6 : Int) : Option PV := (lSame_Tr a a2 a3 a4 a5 a6 b b2 b3 b4 b5 b6).run
noncomputable def lSame_b (a : Int) (a2 : List UInt8) (a3 : Int) (a4 : Int) (a5 : List UInt8) (a6 : Int) (b : Int) (b2 : List UInt8) (b3 : Int) (b4 : Int) (b5 : List UInt8) (b6 : Int) : Bool := (gBool (gVal (lSame_W a a2 a3 a4 a5 a6 b b2 b3 b4 b5 b6)))
noncomputable def lSame_is0 (a : Int) (a2 : List UInt8) (a3 : Int) (a4 : Int) (a5 : List UInt8) (a6 : Int) (b : Int) (b2 : List UInt8) (b3 : Int) (b4 : Int) (b5 : List UInt8) (b6 : Int) : Bool := isW (lSame_W a a2 a3 a4 a5 a6 b b2 b3 b4 b5 b6) (.bool (lSame_b a a2 a3 a4 a5 a6 b b2 b3 b4 b5 b6))
noncomputable def F_lSame : List PV → Tr PV | [.agg [.int .i64 a, .str a2, .int .i64 a3, .int .i64 a4, .str a5, .int .i64 a6], .agg [.int .i64 b, .str b2, .int .i64 b3, .int .i64 b4, .str b5, .int .i64 b6]] => .ite (lSame_is0 a a2 a3 a4 a5 a6 b b2 b3 b4 b5 b6) (.ret (.bool (lSame_b a a2 a3 a4 a5 a6 b b2 b3 b4 b5 b6))) (.fail) | _ => .fail
theorem sim_lSame (gl : Gl) : SimP Tryd.prog gl 21 fun args => (F_lSame args).run := by
  refine SimP.of_flat (G := G_lSame) (L := L_lSame) tbT_ok (gok_lSame gl ) noMixed Tryd.func21 rfl (by rfl) (by kernel_rfl) (loopOk_none (by kernel_rfl)) ?_
  intro args x h
  unfold F_lSame at h
  split at h
  · exact (congrArg Tr.run (lSame_T _ _ _ _ _ _ _ _ _ _ _ _)).trans (ite_isW h fun h => by cases h)
  · cases h
noncomputable def G_lJoin : GamT := ofL [(25, .pure F_Join)]
theorem gok_lJoin (gl : Gl) (hg : GlPow gl) : GamOk Tryd.prog gl (gam G_lJoin) := (gamOk_cons (sim_Join hg) gamOk_nil)
noncomputable def c_lJoin1 : Code := loopC Tryd.f15 3
def I_lJoin1 : LI := ⟨20, [3, 6, 7, 8], fun e => match e with | .exit 0 => [3] | _ => [], true⟩
noncomputable def LI_lJoin1 : LpsT := fun r fr σ => .fail
noncomputable def lJoin1_V (vs : List PV) (σ : Store) : Option (PExit × List PV × Store) := lval (lstep tbT G_lJoin LI_lJoin1 c_lJoin1 I_lJoin1) vs σ
noncomputable def lJoin1_Tr (texts : List (List PV)) (r : List (List PV)) (n : Int) (n2 : Int) : Tr LR := Tr.ite (iLt n2 n) (Tr.ite (okPos n2) (Tr.ite (okGet [PV.int .i64 0, PV.str [], PV.int .i64 0, PV.int .i64 0, PV.str [], PV.int .i64 0] r (nNat n2)) (Tr.ite (okGrow texts [[PV.str (xStr r (nNat n2) 1)]] 16) (Tr.ite (okNews [[PV.str (xStr r (nNat n2) 1)]] 1) (Tr.ite (okSize texts 1) (Tr.ret (LR.next [PV.sl (dropPLL 0 (xApp texts [[PV.str (xStr r (nNat n2) 1)]])) (.tok 0), PV.sl (dropPLL 0 r) .non, PV.int .i64 n, PV.int .i64 (iAdd .i64 n2 1)] (Store.mk [] [(nXs (xApp texts [[PV.str (xStr r (nNat n2) 1)]]), 1, 9)] []))) Tr.fail) Tr.fail) Tr.fail) Tr.fail) Tr.fail) (Tr.ret (LR.out (.exit 0) [PV.sl texts .full] (Store.mk [] [] [])))
theorem lJoin1_T (texts : List (List PV)) (r : List (List PV)) (n : Int) (n2 : Int) : lstep tbT G_lJoin LI_lJoin1 c_lJoin1 I_lJoin1 [.sl texts .full, .sl r .non, .int .i64 n, .int .i64 n2] ⟨[], [], []⟩ = lJoin1_Tr texts r n n2 := by kernel_rfl
theorem lJoin1_E (texts : List (List PV)) (r : List (List PV)) (n : Int) (n2 : Int) : lJoin1_V [.sl texts .full, .sl r .non, .int .i64 n, .int .i64 n2] ⟨[], [], []⟩ = lnext lJoin1_V (lJoin1_Tr texts r n n2).run := by unfold lJoin1_V; rw [lval_eq, lJoin1_T]
noncomputable def lJoin1_Tr1 (texts : List (List PV)) (r : List (List PV)) (n : Int) (n2 : Int) (k : Nat) : Tr LR := Tr.ite (iLt n2 n) (Tr.ite (okPos n2) (Tr.ite (okGet [PV.int .i64 0, PV.str [], PV.int .i64 0, PV.int .i64 0, PV.str [], PV.int .i64 0] r (nNat n2)) (Tr.ite (okGrow texts [[PV.str (xStr r (nNat n2) 1)]] 16) (Tr.ite (okNews [[PV.str (xStr r (nNat n2) 1)]] 1) (Tr.ite (okSize texts 1) (Tr.ite (nEq k (nXs texts)) (Tr.ret (LR.next [PV.sl (dropPLL 0 (xApp texts [[PV.str (xStr r (nNat n2) 1)]])) (.tok 0), PV.sl (dropPLL 0 r) .non, PV.int .i64 n, PV.int .i64 (iAdd .i64 n2 1)] (Store.mk [] [(nXs (xApp texts [[PV.str (xStr r (nNat n2) 1)]]), 1, 9)] []))) Tr.fail) Tr.fail) Tr.fail) Tr.fail) Tr.fail) Tr.fail) (Tr.ret (LR.out (.exit 0) [PV.sl texts (.tok 0)] (Store.mk [] [(k, 1, 9)] [])))
theorem lJoin1_T1 (texts : List (List PV)) (r : List (List PV)) (n : Int) (n2 : Int) (k : Nat) : lstep tbT G_lJoin LI_lJoin1 c_lJoin1 I_lJoin1 [.sl texts (.tok 0), .sl r .non, .int .i64 n, .int .i64 n2] ⟨[], [(k, 1, 9)], []⟩ = lJoin1_Tr1 texts r n n2 k := by kernel_rfl
theorem lJoin1_E1 (texts : List (List PV)) (r : List (List PV)) (n : Int) (n2 : Int) (k : Nat) : lJoin1_V [.sl texts (.tok 0), .sl r .non, .int .i64 n, .int .i64 n2] ⟨[], [(k, 1, 9)], []⟩ = lnext lJoin1_V (lJoin1_Tr1 texts r n n2 k).run := by unfold lJoin1_V; rw [lval_eq, lJoin1_T1]
noncomputable def lJoin1_W (texts : List (List PV)) (r : List (List PV)) (n : Int) (n2 : Int) : Option (PExit × List PV × Store) := lJoin1_V [.sl texts .full, .sl r .non, .int .i64 n, .int .i64 n2] ⟨[], [], []⟩
noncomputable def lJoin1_texts_0 (texts : List (List PV)) (r : List (List PV)) (n : Int) (n2 : Int) : List (List PV) := (gRow (gOut (lJoin1_W texts r n n2) 0))
noncomputable def lJoin1_is0 (texts : List (List PV)) (r : List (List PV)) (n : Int) (n2 : Int) : Bool := isW (lJoin1_W texts r n n2) ((.exit 0), [.sl (lJoin1_texts_0 texts r n n2) .full], ⟨[], [], []⟩)
noncomputable def lJoin1_texts_1 (texts : List (List PV)) (r : List (List PV)) (n : Int) (n2 : Int) : List (List PV) := (gRow (gOut (lJoin1_W texts r n n2) 0))
noncomputable def lJoin1_k_1 (texts : List (List PV)) (r : List (List PV)) (n : Int) (n2 : Int) : Nat := (gTok (lJoin1_W texts r n n2) 0)
noncomputable def lJoin1_is1 (texts : List (List PV)) (r : List (List PV)) (n : Int) (n2 : Int) : Bool := isW (lJoin1_W texts r n n2) ((.exit 0), [.sl (lJoin1_texts_1 texts r n n2) (.tok 0)], ⟨[], [((lJoin1_k_1 texts r n n2), 1, 9)], []⟩)
noncomputable def lJoin1_prop : List PV → Store → Tr (PExit × List PV × Store) | [.sl texts .full, .sl r .non, .int .i64 n, .int .i64 n2], ⟨[], [], []⟩ => .ite (lJoin1_is0 texts r n n2) (.ret ((.exit 0), [.sl (lJoin1_texts_0 texts r n n2) .full], ⟨[], [], []⟩)) (.ite (lJoin1_is1 texts r n n2) (.ret ((.exit 0), [.sl (lJoin1_texts_1 texts r n n2) (.tok 0)], ⟨[], [((lJoin1_k_1 texts r n n2), 1, 9)], []⟩)) (.fail)) | _, _ => .fail
theorem lJoin1_ok : ∀ vs σ r, (lJoin1_prop vs σ).run = some r → lJoin1_V vs σ = some r := by
  intro vs σ r h
  unfold lJoin1_prop at h
  split at h
  · exact ite_isW h fun h => ite_isW h fun h => by cases h
  · cases h
theorem loop_lJoin1 (gl : Gl) (hg : GlPow gl) : ∀ fr σ e fr' σ', (orc I_lJoin1 lJoin1_prop fr σ).run = some (e, fr', σ') → LDoes Tryd.prog gl c_lJoin1 fr σ e fr' σ' := orc_ok tbT_ok (gok_lJoin gl hg ) noMixed (L := LI_lJoin1) (loopOk_none (by kernel_rfl)) (by kernel_rfl) lJoin1_ok
noncomputable def L_lJoin : LpsT := fun r fr σ => bif Nat.beq r 3 then orc I_lJoin1 lJoin1_prop fr σ else .fail
noncomputable def lJoin_Tr (l : List (List PV)) : Tr PV := Tr.ite (lJoin1_is0 [] l (xLen l) 0) (Tr.ite (okR cS (lockLL (lJoin1_texts_0 [] l (xLen l) 0))) (Tr.ite (okJoin (unR cS (lockLL (lJoin1_texts_0 [] l (xLen l) 0))) [32]) (Tr.ret (PV.str (joinV (unR cS (lockLL (lJoin1_texts_0 [] l (xLen l) 0))) [32]))) Tr.fail) Tr.fail) (Tr.ite (lJoin1_is1 [] l (xLen l) 0) (Tr.ite (okR cS (lockLL (lJoin1_texts_1 [] l (xLen l) 0))) (Tr.ite (okJoin (unR cS (lockLL (lJoin1_texts_1 [] l (xLen l) 0))) [32]) (Tr.ret (PV.str (joinV (unR cS (lockLL (lJoin1_texts_1 [] l (xLen l) 0))) [32]))) Tr.fail) Tr.fail) Tr.fail)
theorem lJoin_T (l : List (List PV)) : (tcall tbT G_lJoin L_lJoin Tryd.f15 [.sl l .non]).flat = lJoin_Tr l := by kernel_rfl
noncomputable def lJoin_W (l : List (List PV)) : Option PV := (lJoin_Tr l).run
noncomputable def lJoin_s (l : List (List PV)) : List UInt8 := (gStr (gVal (lJoin_W l)))
noncomputable def lJoin_is0 (l : List (List PV)) : Bool := isW (lJoin_W l) (.str (lJoin_s l))
noncomputable def F_lJoin : List PV → Tr PV | [.sl l .non] => .ite (lJoin_is0 l) (.ret (.str (lJoin_s l))) (.fail) | _ => .fail
theorem sim_lJoin (gl : Gl) (hg : GlPow gl) : SimP Tryd.prog gl 15 fun args => (F_lJoin args).run := by
  refine SimP.of_flat (G := G_lJoin) (L := L_lJoin) tbT_ok (gok_lJoin gl hg ) noMixed Tryd.func15 rfl (by rfl) (by kernel_rfl) (loopOk_all (L := lps L_lJoin) [(3, c_lJoin1)] (by kernel_rfl) (List.forall_mem_cons.2 ⟨fun fr σ e fr' σ' h => loop_lJoin1 gl hg  fr σ e fr' σ' h, (List.forall_mem_nil _)⟩)) ?_
  intro args x h
  unfold F_lJoin at h
  split at h
  · exact (congrArg Tr.run (lJoin_T _)).trans (ite_isW h fun h => by cases h)
  · cases h
noncomputable def G_lWhere : GamT := ofL [(26, .pure F_Count), (27, .pure F_LastIndexByte)]
theorem gok_lWhere (gl : Gl) : GamOk Tryd.prog gl (gam G_lWhere) := (gamOk_cons (sim_Count gl) (gamOk_cons (sim_LastIndexByte gl) gamOk_nil))
noncomputable def L_lWhere : LpsT := fun r fr σ => .fail
noncomputable def lWhere_Tr (s : List UInt8) (at_ : Int) : Tr PV := Tr.ite (iLt at_ 0) (Tr.ret (PV.tup [PV.int .i64 0, PV.int .i64 0, PV.int .i64 5])) (Tr.ite (iLt (sLen s) at_) (Tr.ret (PV.tup [PV.int .i64 0, PV.int .i64 0, PV.int .i64 5])) (Tr.ite (okSub true (okPos at_) 0 (nNat at_) (nLen s)) (Tr.ite (okSub true (okPos at_) 0 (nNat at_) (nLen s)) (Tr.ite (iLe (sLen (sSub s 0 (nNat at_))) 4611686018427387903) (Tr.ret (PV.tup [PV.int .i64 (iAdd .i64 1 (cntV (sSub s 0 (nNat at_)) 10)), PV.int .i64 (iSub .i64 at_ (lidxV (sSub s 0 (nNat at_)) 10)), PV.int .i64 0])) Tr.fail) Tr.fail) Tr.fail))
theorem lWhere_T (s : List UInt8) (at_ : Int) : (tcall tbT G_lWhere L_lWhere Tryd.f18 [.str s, .int .i64 at_]).flat = lWhere_Tr s at_ := by kernel_rfl
noncomputable def lWhere_W (s : List UInt8) (at_ : Int) : Option PV := (lWhere_Tr s at_).run
noncomputable def lWhere_n (s : List UInt8) (at_ : Int) : Int := (gInt (gAt (gCs (gVal (lWhere_W s at_))) 0))
noncomputable def lWhere_n2 (s : List UInt8) (at_ : Int) : Int := (gInt (gAt (gCs (gVal (lWhere_W s at_))) 1))
noncomputable def lWhere_n3 (s : List UInt8) (at_ : Int) : Int := (gInt (gAt (gCs (gVal (lWhere_W s at_))) 2))
noncomputable def lWhere_is0 (s : List UInt8) (at_ : Int) : Bool := isW (lWhere_W s at_) (.tup [.int .i64 (lWhere_n s at_), .int .i64 (lWhere_n2 s at_), .int .i64 (lWhere_n3 s at_)])
noncomputable def F_lWhere : List PV → Tr PV | [.str s, .int .i64 at_] => .ite (lWhere_is0 s at_) (.ret (.tup [.int .i64 (lWhere_n s at_), .int .i64 (lWhere_n2 s at_), .int .i64 (lWhere_n3 s at_)])) (.fail) | _ => .fail
theorem sim_lWhere (gl : Gl) : SimP Tryd.prog gl 18 fun args => (F_lWhere args).run := by
  refine SimP.of_flat (G := G_lWhere) (L := L_lWhere) tbT_ok (gok_lWhere gl ) noMixed Tryd.func18 rfl (by rfl) (by kernel_rfl) (loopOk_none (by kernel_rfl)) ?_
  intro args x h
  unfold F_lWhere at h
  split at h
  · exact (congrArg Tr.run (lWhere_T _ _)).trans (ite_isW h fun h => by cases h)
  · cases h
noncomputable def G_lcut : GamT := ofL []
theorem gok_lcut (gl : Gl) : GamOk Tryd.prog gl (gam G_lcut) := gamOk_nil
noncomputable def L_lcut : LpsT := fun r fr σ => .fail
noncomputable def lcut_Tr (s : List UInt8) : Tr PV := Tr.ite (iLt 3000 (sLen s)) (Tr.ite (okSub true (okPos 3000) 0 (nNat 3000) (nLen s)) (Tr.ret (PV.str (sSub s 0 (nNat 3000)))) Tr.fail) (Tr.ret (PV.str s))
theorem lcut_T (s : List UInt8) : (tcall tbT G_lcut L_lcut Tryd.f9 [.str s]).flat = lcut_Tr s := by kernel_rfl
noncomputable def lcut_W (s : List UInt8) : Option PV := (lcut_Tr s).run
noncomputable def lcut_s (s : List UInt8) : List UInt8 := (gStr (gVal (lcut_W s)))
noncomputable def lcut_is0 (s : List UInt8) : Bool := isW (lcut_W s) (.str (lcut_s s))
noncomputable def F_lcut : List PV → Tr PV | [.str s] => .ite (lcut_is0 s) (.ret (.str (lcut_s s))) (.fail) | _ => .fail
theorem sim_lcut (gl : Gl) : SimP Tryd.prog gl 9 fun args => (F_lcut args).run := by
  refine SimP.of_flat (G := G_lcut) (L := L_lcut) tbT_ok (gok_lcut gl ) noMixed Tryd.func9 rfl (by rfl) (by kernel_rfl) (loopOk_none (by kernel_rfl)) ?_
  intro args x h
  unfold F_lcut at h
  split at h
  · exact (congrArg Tr.run (lcut_T _)).trans (ite_isW h fun h => by cases h)
  · cases h
noncomputable def G_lplain : GamT := ofL []
theorem gok_lplain (gl : Gl) : GamOk Tryd.prog gl (gam G_lplain) := gamOk_nil
noncomputable def c_lplain1 : Code := loopC Tryd.f17 3
def I_lplain1 : LI := ⟨23, [0, 3, 4], fun e => match e with | .exit 0 => [3] | _ => [], true⟩
noncomputable def LI_lplain1 : LpsT := fun r fr σ => .fail
noncomputable def lplain1_V (vs : List PV) (σ : Store) : Option (PExit × List PV × Store) := lval (lstep tbT G_lplain LI_lplain1 c_lplain1 I_lplain1) vs σ
noncomputable def lplain1_Tr (s : List UInt8) (b : List (List PV)) (i : Int) : Tr LR := Tr.ite (iLt i (sLen s)) (Tr.ite (okIdx s i) (Tr.ite (iNe (sAt s i) 10) (Tr.ite (okIdx s i) (Tr.ite (okGrow b [[PV.int .u8 (sAt s i)]] 1) (Tr.ite (okNews [[PV.int .u8 (sAt s i)]] 1) (Tr.ite (okSize b 1) (Tr.ret (LR.next [PV.str s, PV.sl (xApp b [[PV.int .u8 (sAt s i)]]) (.tok 0), PV.int .i64 (iAdd .i64 i 1)] (Store.mk [] [(nXs (xApp b [[PV.int .u8 (sAt s i)]]), 1, 5)] []))) Tr.fail) Tr.fail) Tr.fail) Tr.fail) (Tr.ret (LR.next [PV.str s, PV.sl b .full, PV.int .i64 (iAdd .i64 i 1)] (Store.mk [] [] [])))) Tr.fail) (Tr.ret (LR.out (.exit 0) [PV.sl b .full] (Store.mk [] [] [])))
theorem lplain1_T (s : List UInt8) (b : List (List PV)) (i : Int) : lstep tbT G_lplain LI_lplain1 c_lplain1 I_lplain1 [.str s, .sl b .full, .int .i64 i] ⟨[], [], []⟩ = lplain1_Tr s b i := by kernel_rfl
theorem lplain1_E (s : List UInt8) (b : List (List PV)) (i : Int) : lplain1_V [.str s, .sl b .full, .int .i64 i] ⟨[], [], []⟩ = lnext lplain1_V (lplain1_Tr s b i).run := by unfold lplain1_V; rw [lval_eq, lplain1_T]
noncomputable def lplain1_Tr1 (s : List UInt8) (b : List (List PV)) (i : Int) (k : Nat) : Tr LR := Tr.ite (iLt i (sLen s)) (Tr.ite (okIdx s i) (Tr.ite (iNe (sAt s i) 10) (Tr.ite (okIdx s i) (Tr.ite (okGrow b [[PV.int .u8 (sAt s i)]] 1) (Tr.ite (okNews [[PV.int .u8 (sAt s i)]] 1) (Tr.ite (okSize b 1) (Tr.ite (nEq k (nXs b)) (Tr.ret (LR.next [PV.str s, PV.sl (xApp b [[PV.int .u8 (sAt s i)]]) (.tok 0), PV.int .i64 (iAdd .i64 i 1)] (Store.mk [] [(nXs (xApp b [[PV.int .u8 (sAt s i)]]), 1, 5)] []))) Tr.fail) Tr.fail) Tr.fail) Tr.fail) Tr.fail) (Tr.ret (LR.next [PV.str s, PV.sl b (.tok 0), PV.int .i64 (iAdd .i64 i 1)] (Store.mk [] [(k, 1, 5)] [])))) Tr.fail) (Tr.ret (LR.out (.exit 0) [PV.sl b (.tok 0)] (Store.mk [] [(k, 1, 5)] [])))
theorem lplain1_T1 (s : List UInt8) (b : List (List PV)) (i : Int) (k : Nat) : lstep tbT G_lplain LI_lplain1 c_lplain1 I_lplain1 [.str s, .sl b (.tok 0), .int .i64 i] ⟨[], [(k, 1, 5)], []⟩ = lplain1_Tr1 s b i k := by kernel_rfl
theorem lplain1_E1 (s : List UInt8) (b : List (List PV)) (i : Int) (k : Nat) : lplain1_V [.str s, .sl b (.tok 0), .int .i64 i] ⟨[], [(k, 1, 5)], []⟩ = lnext lplain1_V (lplain1_Tr1 s b i k).run := by unfold lplain1_V; rw [lval_eq, lplain1_T1]
noncomputable def lplain1_W (s : List UInt8) (b : List (List PV)) (i : Int) : Option (PExit × List PV × Store) := lplain1_V [.str s, .sl b .full, .int .i64 i] ⟨[], [], []⟩
noncomputable def lplain1_b_0 (s : List UInt8) (b : List (List PV)) (i : Int) : List (List PV) := (gRow (gOut (lplain1_W s b i) 0))
noncomputable def lplain1_is0 (s : List UInt8) (b : List (List PV)) (i : Int) : Bool := isW (lplain1_W s b i) ((.exit 0), [.sl (lplain1_b_0 s b i) .full], ⟨[], [], []⟩)
noncomputable def lplain1_b_1 (s : List UInt8) (b : List (List PV)) (i : Int) : List (List PV) := (gRow (gOut (lplain1_W s b i) 0))
noncomputable def lplain1_k_1 (s : List UInt8) (b : List (List PV)) (i : Int) : Nat := (gTok (lplain1_W s b i) 0)
noncomputable def lplain1_is1 (s : List UInt8) (b : List (List PV)) (i : Int) : Bool := isW (lplain1_W s b i) ((.exit 0), [.sl (lplain1_b_1 s b i) (.tok 0)], ⟨[], [((lplain1_k_1 s b i), 1, 5)], []⟩)
noncomputable def lplain1_prop : List PV → Store → Tr (PExit × List PV × Store) | [.str s, .sl b .full, .int .i64 i], ⟨[], [], []⟩ => .ite (lplain1_is0 s b i) (.ret ((.exit 0), [.sl (lplain1_b_0 s b i) .full], ⟨[], [], []⟩)) (.ite (lplain1_is1 s b i) (.ret ((.exit 0), [.sl (lplain1_b_1 s b i) (.tok 0)], ⟨[], [((lplain1_k_1 s b i), 1, 5)], []⟩)) (.fail)) | _, _ => .fail
theorem lplain1_ok : ∀ vs σ r, (lplain1_prop vs σ).run = some r → lplain1_V vs σ = some r := by
  intro vs σ r h
  unfold lplain1_prop at h
  split at h
  · exact ite_isW h fun h => ite_isW h fun h => by cases h
  · cases h
theorem loop_lplain1 (gl : Gl) : ∀ fr σ e fr' σ', (orc I_lplain1 lplain1_prop fr σ).run = some (e, fr', σ') → LDoes Tryd.prog gl c_lplain1 fr σ e fr' σ' := orc_ok tbT_ok (gok_lplain gl ) noMixed (L := LI_lplain1) (loopOk_none (by kernel_rfl)) (by kernel_rfl) lplain1_ok
noncomputable def L_lplain : LpsT := fun r fr σ => bif Nat.beq r 3 then orc I_lplain1 lplain1_prop fr σ else .fail
noncomputable def lplain_Tr (s : List UInt8) : Tr PV := Tr.ite (lplain1_is0 s [] 0) (Tr.ite (okBytes (lplain1_b_0 s [] 0)) (Tr.ret (PV.str (unBytes (lplain1_b_0 s [] 0)))) Tr.fail) (Tr.ite (lplain1_is1 s [] 0) (Tr.ite (okBytes (lplain1_b_1 s [] 0)) (Tr.ret (PV.str (unBytes (lplain1_b_1 s [] 0)))) Tr.fail) Tr.fail)
theorem lplain_T (s : List UInt8) : (tcall tbT G_lplain L_lplain Tryd.f17 [.str s]).flat = lplain_Tr s := by kernel_rfl
noncomputable def lplain_W (s : List UInt8) : Option PV := (lplain_Tr s).run
noncomputable def lplain_s (s : List UInt8) : List UInt8 := (gStr (gVal (lplain_W s)))
noncomputable def lplain_is0 (s : List UInt8) : Bool := isW (lplain_W s) (.str (lplain_s s))
noncomputable def F_lplain : List PV → Tr PV | [.str s] => .ite (lplain_is0 s) (.ret (.str (lplain_s s))) (.fail) | _ => .fail
theorem sim_lplain (gl : Gl) : SimP Tryd.prog gl 17 fun args => (F_lplain args).run := by
  refine SimP.of_flat (G := G_lplain) (L := L_lplain) tbT_ok (gok_lplain gl ) noMixed Tryd.func17 rfl (by rfl) (by kernel_rfl) (loopOk_all (L := lps L_lplain) [(3, c_lplain1)] (by kernel_rfl) (List.forall_mem_cons.2 ⟨fun fr σ e fr' σ' h => loop_lplain1 gl  fr σ e fr' σ' h, (List.forall_mem_nil _)⟩)) ?_
  intro args x h
  unfold F_lplain at h
  split at h
  · exact (congrArg Tr.run (lplain_T _)).trans (ite_isW h fun h => by cases h)
  · cases h
end Go.Pv

set_option maxHeartbeats 8000000
set_option maxRecDepth 200000
set_option linter.unusedSimpArgs false
set_option linter.unusedVariables false
namespace Go.Pv
open Go Go.Proofs Go.RowKit

/-! ### the reference's bytes -/
theorem rsmall_law (c : Int) : rsmall_W c = some (.bool (smI c)) := by
  unfold rsmall_W rsmall_Tr smI
  by_cases h : (97 : Int) ≤ c <;> simp [h]
@[simp] theorem rsmall_is (c : Int) : rsmall_is0 c = true := by simp [rsmall_is0, rsmall_b, rsmall_law]
@[simp] theorem rsmall_v (c : Int) : rsmall_b c = smI c := by simp [rsmall_b, rsmall_law]
theorem rgreat_law (c : Int) : rgreat_W c = some (.bool (grI c)) := by
  unfold rgreat_W rgreat_Tr grI
  by_cases h : (65 : Int) ≤ c <;> simp [h]
@[simp] theorem rgreat_is (c : Int) : rgreat_is0 c = true := by simp [rgreat_is0, rgreat_b, rgreat_law]
@[simp] theorem rgreat_v (c : Int) : rgreat_b c = grI c := by simp [rgreat_b, rgreat_law]
theorem rdigit_law (c : Int) : rdigit_W c = some (.bool (dgI c)) := by
  unfold rdigit_W rdigit_Tr dgI
  by_cases h : (48 : Int) ≤ c <;> simp [h]
@[simp] theorem rdigit_is (c : Int) : rdigit_is0 c = true := by simp [rdigit_is0, rdigit_b, rdigit_law]
@[simp] theorem rdigit_v (c : Int) : rdigit_b c = dgI c := by simp [rdigit_b, rdigit_law]
theorem rinner_law (c : Int) : rinner_W c = some (.bool (inI c)) := by
  unfold rinner_W rinner_Tr inI
  cases h1 : smI c <;> cases h2 : grI c <;> cases h3 : dgI c <;> simp [h1, h2, h3]
@[simp] theorem rinner_is (c : Int) : rinner_is0 c = true := by simp [rinner_is0, rinner_b, rinner_law]
@[simp] theorem rinner_v (c : Int) : rinner_b c = inI c := by simp [rinner_b, rinner_law]
def blI (c : Int) : Bool := decide (c = 32) || decide (c = 9) || decide (c = 10) || decide (c = 13)
theorem blI_byte (b : UInt8) : blI (b.toNat : Int) = blB b := by
  unfold blI blB
  congr 1
  · congr 1
    · congr 1 <;> (apply decide_eq_decide.2; omega)
    · apply decide_eq_decide.2; omega
  · apply decide_eq_decide.2; omega
theorem rblank_law (c : Int) : rblank_W c = some (.bool (blI c)) := by
  unfold rblank_W rblank_Tr blI
  by_cases h1 : c = 32 <;> by_cases h2 : c = 9 <;> by_cases h3 : c = 10 <;> simp [h1, h2, h3]
@[simp] theorem rblank_is (c : Int) : rblank_is0 c = true := by simp [rblank_is0, rblank_b, rblank_law]
@[simp] theorem rblank_v (c : Int) : rblank_b c = blI c := by simp [rblank_b, rblank_law]

/-! ### its places -/
theorem rname_loop (s : List UInt8) (hs : s.length < 9223372036854775807) : ∀ (m i : Nat), i + m = s.length → rname1_V [.str s, .int .i64 (i : Nat)] ⟨[], [], []⟩ = some (.exit 0, [.int .i64 ((i + runL innB (s.drop i) : Nat) : Int)], ⟨[], [], []⟩) := by
  intro m
  induction m with
  | zero =>
    intro i hi
    rw [rname1_E, List.drop_eq_nil_of_le (by omega)]
    have : ¬ (i : Int) < s.length := by omega
    simp [rname1_Tr, runL, this]
  | succ m ih =>
    intro i hi
    obtain ⟨b, hb⟩ := get_lt (l := s) (i := i) (by omega)
    have hbe := (List.getElem?_eq_some_iff.1 hb).2
    have w := inc_i64 (i := i) (by omega)
    have hlt : i < s.length := by omega
    have h1 := ih (i + 1) (by omega)
    rw [drop_of_get hb, rname1_E]
    cases hc : innB b with
    | true =>
      have e : i + (runL innB (s.drop (i + 1)) + 1) = i + 1 + runL innB (s.drop (i + 1)) := by omega
      simp only [runL, hc, if_true, e]
      rw [← h1]
      simp [rname1_Tr, hlt, hbe, inI_byte, hc, w]
    | false => simp [rname1_Tr, hlt, hbe, inI_byte, hc, runL]
theorem rname_law {s : List UInt8} (hs : s.length < 9223372036854775807) {i : Nat} (hi : i ≤ s.length) : rname_W s (i : Nat) = some (.int .i64 ((i + runL innB (s.drop i) : Nat) : Int)) := by
  have h := rname_loop s hs (s.length - i) i (by omega)
  unfold rname_W rname_Tr
  simp only [rname1_is0, rname1_at_, rname1_W, h]
  simp
theorem rname_is {s : List UInt8} (hs : s.length < 9223372036854775807) {i : Nat} (hi : i ≤ s.length) : rname_is0 s (i : Nat) = true := by simp only [rname_is0, rname_n, rname_law hs hi]; simp
theorem rname_v {s : List UInt8} (hs : s.length < 9223372036854775807) {i : Nat} (hi : i ≤ s.length) : rname_n s (i : Nat) = ((i + runL innB (s.drop i) : Nat) : Int) := by simp only [rname_n, rname_law hs hi]; simp
theorem rdigits_loop (s : List UInt8) (hs : s.length < 9223372036854775807) : ∀ (m i : Nat), i + m = s.length → rdigits1_V [.str s, .int .i64 (i : Nat)] ⟨[], [], []⟩ = some (.exit 0, [.int .i64 ((i + runL isDgB (s.drop i) : Nat) : Int)], ⟨[], [], []⟩) := by
  intro m
  induction m with
  | zero =>
    intro i hi
    rw [rdigits1_E, List.drop_eq_nil_of_le (by omega)]
    have : ¬ (i : Int) < s.length := by omega
    simp [rdigits1_Tr, runL, this]
  | succ m ih =>
    intro i hi
    obtain ⟨b, hb⟩ := get_lt (l := s) (i := i) (by omega)
    have hbe := (List.getElem?_eq_some_iff.1 hb).2
    have w := inc_i64 (i := i) (by omega)
    have hlt : i < s.length := by omega
    have h1 := ih (i + 1) (by omega)
    rw [drop_of_get hb, rdigits1_E]
    cases hc : isDgB b with
    | true =>
      have e : i + (runL isDgB (s.drop (i + 1)) + 1) = i + 1 + runL isDgB (s.drop (i + 1)) := by omega
      simp only [runL, hc, if_true, e]
      rw [← h1]
      simp [rdigits1_Tr, hlt, hbe, dgI_byte, hc, w]
    | false => simp [rdigits1_Tr, hlt, hbe, dgI_byte, hc, runL]
theorem rdigits_law {s : List UInt8} (hs : s.length < 9223372036854775807) {i : Nat} (hi : i ≤ s.length) : rdigits_W s (i : Nat) = some (.int .i64 ((i + runL isDgB (s.drop i) : Nat) : Int)) := by
  have h := rdigits_loop s hs (s.length - i) i (by omega)
  unfold rdigits_W rdigits_Tr
  simp only [rdigits1_is0, rdigits1_at_, rdigits1_W, h]
  simp
theorem rdigits_is {s : List UInt8} (hs : s.length < 9223372036854775807) {i : Nat} (hi : i ≤ s.length) : rdigits_is0 s (i : Nat) = true := by simp only [rdigits_is0, rdigits_n, rdigits_law hs hi]; simp
theorem rdigits_v {s : List UInt8} (hs : s.length < 9223372036854775807) {i : Nat} (hi : i ≤ s.length) : rdigits_n s (i : Nat) = ((i + runL isDgB (s.drop i) : Nat) : Int) := by simp only [rdigits_n, rdigits_law hs hi]; simp
theorem rgap_loop (s : List UInt8) (hs : s.length < 9223372036854775807) : ∀ (m i : Nat) (c : Bool), i + m = s.length → rgap1_V [.str s, .int .i64 (i : Nat), .bool c] ⟨[], [], []⟩ = some (.exit 0, [.int .i64 ((i + gapL c (s.drop i) : Nat) : Int)], ⟨[], [], []⟩) := by
  intro m
  induction m with
  | zero =>
    intro i c hi
    rw [rgap1_E, List.drop_eq_nil_of_le (by omega)]
    have : ¬ (i : Int) < s.length := by omega
    simp [rgap1_Tr, gapL, this]
  | succ m ih =>
    intro i c hi
    obtain ⟨b, hb⟩ := get_lt (l := s) (i := i) (by omega)
    have hbe := (List.getElem?_eq_some_iff.1 hb).2
    have w := inc_i64 (i := i) (by omega)
    have hlt : i < s.length := by omega
    rw [drop_of_get hb, rgap1_E]
    have q1 : iEq (sAt s (i : Int)) 37 = decide (b.toNat = 37) := by simp [hlt, hbe]; omega
    have q2 : iNe (sAt s (i : Int)) 10 = decide (b.toNat ≠ 10) := by simp [hlt, hbe]; omega
    have q3 : rblank_b (sAt s (i : Int)) = blB b := by simp [hlt, hbe, blI_byte]
    have q4 : okIdx s (i : Int) = true := by simp; omega
    have q5 : iLt (i : Int) (sLen s) = true := by simp; omega
    have h1 := ih (i + 1) (decide (b.toNat = 37) || c && decide (b.toNat ≠ 10)) (by omega)
    cases hg : (c || blB b || decide (b.toNat = 37)) with
    | true =>
      have e : gapL c (b :: s.drop (i + 1)) = gapL (decide (b.toNat = 37) || c && decide (b.toNat ≠ 10)) (s.drop (i + 1)) + 1 := by
        simp only [gapL, hg, if_true]
      rw [e, show i + (gapL (decide (b.toNat = 37) || c && decide (b.toNat ≠ 10)) (s.drop (i + 1)) + 1) = i + 1 + gapL (decide (b.toNat = 37) || c && decide (b.toNat ≠ 10)) (s.drop (i + 1)) from by omega, ← h1]
      simp only [rgap1_Tr, q1, q2, q3, q4, q5, rblank_is, w]
      cases c <;> cases hb2 : blB b <;> by_cases h37 : b.toNat = 37 <;> simp [hb2, h37] at hg ⊢
    | false =>
      have e : gapL c (b :: s.drop (i + 1)) = 0 := by
        simp only [gapL, hg, Bool.false_eq_true, if_false]
      rw [e]
      simp only [Bool.or_eq_false_iff, decide_eq_false_iff_not] at hg
      obtain ⟨⟨rfl, hb2⟩, h37⟩ := hg
      simp only [rgap1_Tr, q1, q2, q3, q4, q5, rblank_is, w, hb2]
      simp [h37]
theorem rgap_law {s : List UInt8} (hs : s.length < 9223372036854775807) {i : Nat} (hi : i ≤ s.length) : rgap_W s (i : Nat) = some (.int .i64 ((i + gapL false (s.drop i) : Nat) : Int)) := by
  have h := rgap_loop s hs (s.length - i) i false (by omega)
  unfold rgap_W rgap_Tr
  simp only [rgap1_is0, rgap1_at_, rgap1_W, h]
  simp
theorem rgap_is {s : List UInt8} (hs : s.length < 9223372036854775807) {i : Nat} (hi : i ≤ s.length) : rgap_is0 s (i : Nat) = true := by simp only [rgap_is0, rgap_n, rgap_law hs hi]; simp
theorem rgap_v {s : List UInt8} (hs : s.length < 9223372036854775807) {i : Nat} (hi : i ≤ s.length) : rgap_n s (i : Nat) = ((i + gapL false (s.drop i) : Nat) : Int) := by simp only [rgap_n, rgap_law hs hi]; simp
theorem rquoted_loop (s : List UInt8) (hs : s.length < 9223372036854775800) : ∀ (m i : Nat), s.length ≤ i + m → i ≤ s.length + 1 → rquoted1_V [.str s, .int .i64 (i : Nat)] ⟨[], [], []⟩ = qOut i (quoE false (s.drop i)) := by
  have hend : ∀ i : Nat, s.length ≤ i → rquoted1_V [.str s, .int .i64 (i : Nat)] ⟨[], [], []⟩ = some (.exit 0, [], ⟨[], [], []⟩) := fun i hi => by
    rw [rquoted1_E]
    have : ¬ (i : Int) < s.length := by omega
    simp [rquoted1_Tr, this]
  intro m
  induction m with
  | zero =>
    intro i hi _
    rw [hend i (by omega), List.drop_eq_nil_of_le (by omega)]
    simp [quoE, qOut]
  | succ m ih =>
    intro i hi hi2
    by_cases hlt : i < s.length
    · obtain ⟨b, hb⟩ := get_lt (l := s) (i := i) hlt
      have hbe := (List.getElem?_eq_some_iff.1 hb).2
      have w := inc_i64 (i := i) (by omega)
      have w2 := inc_i64 (i := i + 1) (by omega)
      have h1 := ih (i + 1) (by omega) (by omega)
      rw [drop_of_get hb, rquoted1_E]
      simp only [quoE]
      have t1 : iLt (i : Int) (sLen s) = true := by simp; omega
      have t2 : okIdx s (i : Int) = true := by simp; omega
      have t3 : sAt s (i : Int) = b.toNat := by simp [hbe, hlt]
      by_cases hq : b.toNat = 34
      · rw [if_pos hq]
        simp only [rquoted1_Tr, t1, t2, t3]
        simp [hq, w, qOut]
      · rw [if_neg hq]
        have hq' : ¬ ((b.toNat : Int) = 34) := by omega
        by_cases hp : b.toNat = 92
        · rw [if_pos hp, qOut_inc]
          have e1 : rquoted1_V [.str s, .int .i64 (iAdd .i64 (iAdd .i64 (i : Int) 1) 1)] ⟨[], [], []⟩ = qOut (i + 1) (quoE true (s.drop (i + 1))) := by
            rw [w, w2]
            by_cases hl2 : i + 1 < s.length
            · obtain ⟨c, hc⟩ := get_lt (l := s) (i := i + 1) hl2
              rw [drop_of_get hc]
              simp only [quoE]
              rw [qOut_inc]
              exact ih (i + 1 + 1) (by omega) (by omega)
            · rw [hend (i + 1 + 1) (by omega), List.drop_eq_nil_of_le (by omega)]
              simp [quoE, qOut]
          rw [← e1]
          simp only [rquoted1_Tr, t1, t2, t3]
          simp [hp]
        · have hp' : ¬ ((b.toNat : Int) = 92) := by omega
          rw [if_neg hp, qOut_inc, ← h1, ← w]
          simp only [rquoted1_Tr, t1, t2, t3]
          simp [hq', hp']
    · rw [hend i (by omega), List.drop_eq_nil_of_le (by omega)]
      simp [quoE, qOut]
theorem rquoted_law {s : List UInt8} (hs : s.length < 9223372036854775800) {i : Nat} (hi : i < s.length) : rquoted_W s (i : Nat) = some (.int .i64 (if quoL (s.drop (i + 1)) = 0 then -1 else ((i + 1 + quoL (s.drop (i + 1)) : Nat) : Int))) := by
  have h := rquoted_loop s hs (s.length - (i + 1)) (i + 1) (by omega) (by omega)
  have w := inc_i64 (i := i) (by omega)
  unfold rquoted_W rquoted_Tr
  rw [w]
  unfold qOut at h
  rw [show quoE false (s.drop (i + 1)) = quoL (s.drop (i + 1)) from rfl] at h
  by_cases h0 : quoL (s.drop (i + 1)) = 0
  · rw [if_pos h0] at h ⊢
    simp only [rquoted1_is0, rquoted1_is1, rquoted1_n_0, rquoted1_W, h]
    simp
  · rw [if_neg h0] at h ⊢
    simp only [rquoted1_is0, rquoted1_is1, rquoted1_n_0, rquoted1_W, h]
    simp
theorem rquoted_is {s : List UInt8} (hs : s.length < 9223372036854775800) {i : Nat} (hi : i < s.length) : rquoted_is0 s (i : Nat) = true := by simp only [rquoted_is0, rquoted_n, rquoted_law hs hi]; simp
theorem rquoted_v {s : List UInt8} (hs : s.length < 9223372036854775800) {i : Nat} (hi : i < s.length) : rquoted_n s (i : Nat) = (if quoL (s.drop (i + 1)) = 0 then -1 else ((i + 1 + quoL (s.drop (i + 1)) : Nat) : Int)) := by simp only [rquoted_n, rquoted_law hs hi]; simp
theorem rvalue_law {s : List UInt8} (hs : s.length ≤ 140737488355328) (k at_ : Int) : rvalue_W k s at_ = some (if eRd s = 0 then wTup k s (kRd s, nRd s, sRd s) at_ true else wTup 0 [] (0, 0, []) 0 false) := by
  unfold rvalue_W rvalue_Tr wTup
  by_cases h : eRd s = 0 <;> simp [hs, h]
theorem rvalue_is {s : List UInt8} (hs : s.length ≤ 140737488355328) (k at_ : Int) : rvalue_is0 k s at_ = true := by
  simp only [rvalue_is0, rvalue_n, rvalue_s, rvalue_n2, rvalue_n3, rvalue_s2, rvalue_n4, rvalue_b, rvalue_law hs]
  by_cases h : eRd s = 0 <;> simp [h, wTup]
theorem rvalue_o {s : List UInt8} (hs : s.length ≤ 140737488355328) (k at_ : Int) : (PV.tup [.agg [.int .i64 (rvalue_n k s at_), .str (rvalue_s k s at_), .int .i64 (rvalue_n2 k s at_), .int .i64 (rvalue_n3 k s at_), .str (rvalue_s2 k s at_), .int .i64 (rvalue_n4 k s at_)], .bool (rvalue_b k s at_)]) = if eRd s = 0 then wTup k s (kRd s, nRd s, sRd s) at_ true else wTup 0 [] (0, 0, []) 0 false := by
  simp only [rvalue_n, rvalue_s, rvalue_n2, rvalue_n3, rvalue_s2, rvalue_n4, rvalue_b, rvalue_law hs]
  by_cases h : eRd s = 0 <;> simp [h, wTup]

/-! ### its words -/
theorem rmark_law {v : List UInt8} (hs : v.length < 9223372036854775800) {i : Nat} {c : UInt8} {t : List UInt8} (hv : v.drop i = c :: t) : rmark_W v (i : Nat) = some (.int .i64 (markL c t : Nat)) := by
  have hl : v.length = i + (t.length + 1) := by
    have := congrArg List.length hv
    simp at this
    omega
  have hc : v[i]? = some c := by
    have : (v.drop i)[0]? = some c := by rw [hv]; rfl
    simpa using this
  have hbe := (List.getElem?_eq_some_iff.1 hc).2
  have e3 : sAt v (i : Int) = (c.toNat : Int) := by
    have : i < v.length := by omega
    simp [this, hbe]
  have q : okIdx v (i : Int) = true := by simp; omega
  have k40 : iEq (sAt v (i : Int)) 40 = decide (c.toNat = 40) := by rw [e3]; simp; omega
  have k41 : iEq (sAt v (i : Int)) 41 = decide (c.toNat = 41) := by rw [e3]; simp; omega
  have k44 : iEq (sAt v (i : Int)) 44 = decide (c.toNat = 44) := by rw [e3]; simp; omega
  have k46 : iEq (sAt v (i : Int)) 46 = decide (c.toNat = 46) := by rw [e3]; simp; omega
  have k43 : iEq (sAt v (i : Int)) 43 = decide (c.toNat = 43) := by rw [e3]; simp; omega
  have k45 : iEq (sAt v (i : Int)) 45 = decide (c.toNat = 45) := by rw [e3]; simp; omega
  have k61 : iEq (sAt v (i : Int)) 61 = decide (c.toNat = 61) := by rw [e3]; simp; omega
  have k58 : iEq (sAt v (i : Int)) 58 = decide (c.toNat = 58) := by rw [e3]; simp; omega
  have k60 : iEq (sAt v (i : Int)) 60 = decide (c.toNat = 60) := by rw [e3]; simp; omega
  have k62 : iEq (sAt v (i : Int)) 62 = decide (c.toNat = 62) := by rw [e3]; simp; omega
  have w2 : iAdd .i64 (i : Int) 2 = ((i + 2 : Nat) : Int) := wrap_i64 (by omega)
  have w3 : iSub .i64 (sLen v) (i : Int) = ((t.length + 1 : Nat) : Int) := by
    rw [sLen_eq]
    unfold iSub
    rw [wrap_i64 (by omega)]
    omega
  have ones : ∀ T : Option PV, T = (if c.toNat = 40 then some (.int .i64 1) else if c.toNat = 41 then some (.int .i64 1) else if c.toNat = 44 then some (.int .i64 1) else if c.toNat = 46 then some (.int .i64 1) else if c.toNat = 43 then some (.int .i64 1) else if c.toNat = 45 then some (.int .i64 1) else if c.toNat = 61 then some (.int .i64 1) else if c.toNat = 58 then some (.int .i64 1) else if c.toNat = 60 then some (.int .i64 1) else if c.toNat = 62 then some (.int .i64 1) else some (.int .i64 0)) → T = some (.int .i64 ((if onesB c then 1 else 0 : Nat) : Int)) := fun T hT => by
    rw [hT]
    cases ho : onesB c with
    | true =>
      simp [onesB] at ho
      simp only [if_true]
      repeat' split
      all_goals first | rfl | (exfalso; omega)
    | false =>
      simp [onesB] at ho
      simp only [Bool.false_eq_true, if_false]
      repeat' split
      all_goals first | rfl | (exfalso; omega)
  unfold rmark_W rmark_Tr markL
  rw [w3, w2]
  cases t with
  | nil =>
    have g : iLe 2 (([] : List UInt8).length + 1 : Nat) = false := by decide
    rw [g]
    simp only [hdIs, Bool.false_eq_true, if_false]
    refine ones _ ?_
    simp only [k40, k41, k44, k46, k43, k45, k61, k58, k60, k62, q]
    simp
  | cons d u =>
    have g : iLe 2 (((d :: u).length + 1 : Nat) : Int) = true := by simp; omega
    have g2 : okSub (okPos (i : Int)) (okPos ((i + 2 : Nat) : Int)) (nNat (i : Int)) (nNat ((i + 2 : Nat) : Int)) (nLen v) = true := by simp at hl ⊢; omega
    have g3 : sSub v (nNat (i : Int)) (nNat ((i + 2 : Nat) : Int)) = [c, d] := by
      simp only [sSub_eq, nNat_eq, Int.toNat_natCast]
      rw [List.drop_take, hv, show i + 2 - i = 2 from by omega]
      rfl
    rw [g, g2, g3]
    have two : ∀ a b : UInt8, sEq [c, d] [a, b] = decide (c.toNat = a.toNat ∧ d.toNat = b.toNat) := fun a b => by
      simp [← UInt8.toNat_inj]
    rw [two, two, two, two]
    have ht : hdIs (twoB c) (d :: u) = (decide (c.toNat = 58 ∧ d.toNat = 45) || decide (c.toNat = 60 ∧ d.toNat = 61) || decide (c.toNat = 62 ∧ d.toNat = 61) || decide (c.toNat = 33 ∧ d.toNat = 61)) := rfl
    rw [ht]
    by_cases z1 : c.toNat = 58 ∧ d.toNat = 45
    · simp [z1]
    · by_cases z2 : c.toNat = 60 ∧ d.toNat = 61
      · simp [z2]
      · by_cases z3 : c.toNat = 62 ∧ d.toNat = 61
        · simp [z3]
        · by_cases z4 : c.toNat = 33 ∧ d.toNat = 61
          · simp [z4]
          · have y1 : decide (c.toNat = (58 : UInt8).toNat ∧ d.toNat = (45 : UInt8).toNat) = false := decide_eq_false z1
            have y2 : decide (c.toNat = (60 : UInt8).toNat ∧ d.toNat = (61 : UInt8).toNat) = false := decide_eq_false z2
            have y3 : decide (c.toNat = (62 : UInt8).toNat ∧ d.toNat = (61 : UInt8).toNat) = false := decide_eq_false z3
            have y4 : decide (c.toNat = (33 : UInt8).toNat ∧ d.toNat = (61 : UInt8).toNat) = false := decide_eq_false z4
            rw [y1, y2, y3, y4, decide_eq_false z1, decide_eq_false z2, decide_eq_false z3, decide_eq_false z4]
            simp only [Bool.or_false, Bool.false_eq_true, if_false]
            refine ones _ ?_
            simp only [k40, k41, k44, k46, k43, k45, k61, k58, k60, k62, q]
            simp
theorem rmark_is {v : List UInt8} (hs : v.length < 9223372036854775800) {i : Nat} {c : UInt8} {t : List UInt8} (hv : v.drop i = c :: t) : rmark_is0 v (i : Nat) = true := by simp only [rmark_is0, rmark_n, rmark_law hs hv]; simp
theorem rmark_v {v : List UInt8} (hs : v.length < 9223372036854775800) {i : Nat} {c : UInt8} {t : List UInt8} (hv : v.drop i = c :: t) : rmark_n v (i : Nat) = (markL c t : Nat) := by simp only [rmark_n, rmark_law hs hv]; simp

def rOut (v : List UInt8) (i : Nat) : Option (Int × Nat × Vl) → PV
  | some (k, m, x) => wTup k ((v.drop i).take m) x (i : Nat) true
  | none => wTup 0 [] (0, 0, []) 0 false
theorem eRd_val (k : Int) (s : List UInt8) (n : Nat) (v : List UInt8) (i : Nat) (hv : v.drop i = s) : rOut v i (valL k s n) = if eRd (s.take n) = 0 then wTup k (s.take n) (kRd (s.take n), nRd (s.take n), sRd (s.take n)) (i : Nat) true else wTup 0 [] (0, 0, []) 0 false := by
  unfold valL eRd kRd nRd sRd rOut
  rw [hv]
  cases h : rdV (s.take n) <;> simp
theorem rword_law {v : List UInt8} (hs : v.length ≤ 140737488355328) {i : Nat} {c : UInt8} {t : List UInt8} (hv : v.drop i = c :: t) : rword_W v (i : Nat) = some (rOut v i (wdL (c :: t))) := by
  have hs1 : v.length < 9223372036854775807 := by omega
  have hs2 : v.length < 9223372036854775800 := by omega
  have hl : v.length = i + (t.length + 1) := by
    have := congrArg List.length hv
    simp at this
    omega
  have hc : v[i]? = some c := by
    have : (v.drop i)[0]? = some c := by rw [hv]; rfl
    simpa using this
  have ht : v.drop (i + 1) = t := by rw [← List.drop_drop, hv]; rfl
  have hbe := (List.getElem?_eq_some_iff.1 hc).2
  have hlt : i < v.length := by omega
  have e3 : sAt v (i : Int) = (c.toNat : Int) := by simp [hlt, hbe]
  have w := inc_i64 (i := i) (by omega)
  -- parts of the text from i
  have hsub : ∀ n : Nat, sSub v (nNat (i : Int)) (nNat ((i + n : Nat) : Int)) = (c :: t).take n := fun n => by
    simp only [sSub_eq, nNat_eq, Int.toNat_natCast]
    rw [List.drop_take, hv, show i + n - i = n from by omega]
  have hok : ∀ n : Nat, n ≤ t.length + 1 → okSub (okPos (i : Int)) (okPos ((i + n : Nat) : Int)) (nNat (i : Int)) (nNat ((i + n : Nat) : Int)) (nLen v) = true := fun n hn => by simp; omega
  have hne : ∀ n : Nat, n ≠ 0 → iEq ((i + n : Nat) : Int) (i : Int) = false := fun n hn => by simp; omega
  have hln : ∀ n : Nat, n ≤ t.length + 1 → iLt 64 (sLen ((c :: t).take n)) = decide (64 < n) := fun n hn => by
    simp only [sLen_eq, iLt_eq, List.length_take, List.length_cons]
    apply decide_eq_decide.2
    omega
  have q0 : okIdx v (i : Int) = true := by simp; omega
  have q1 : smI (sAt v (i : Int)) = isSmB c := by rw [e3, smI_byte]
  have q2 : grI (sAt v (i : Int)) = isGrB c := by rw [e3, grI_byte]
  have q3 : iEq (sAt v (i : Int)) 95 = decide (c.toNat = 95) := by rw [e3]; simp; omega
  have q4 : dgI (sAt v (i : Int)) = isDgB c := by rw [e3, dgI_byte]
  have q5 : iEq (sAt v (i : Int)) 45 = decide (c.toNat = 45) := by rw [e3]; simp; omega
  have q6 : iEq (sAt v (i : Int)) 34 = decide (c.toNat = 34) := by rw [e3]; simp; omega
  have n1 := rname_is hs1 (i := i) (by omega)
  have n2 := rname_v hs1 (i := i) (by omega)
  rw [hv] at n2
  have z23 : iEq 2 3 = false := by decide
  have z13 : iEq 1 3 = false := by decide
  have z33 : iEq 3 3 = true := by decide
  have z63 : iEq 6 3 = false := by decide
  have hr1 := runL_le innB t
  unfold rword_W rword_Tr
  by_cases h1 : isSmB c = true
  · have e : runL innB (c :: t) = runL innB t + 1 := by simp [runL, innB, h1]
    rw [e] at n2
    have g : isGrB c = false := by
      simp [isSmB] at h1
      simp [isGrB]
      omega
    simp only [q0, rsmall_is, rsmall_v, rgreat_is, rgreat_v, q1, q2, h1, g, n1, n2, hok (runL innB t + 1) (by omega), hne (runL innB t + 1) (by omega), hsub, hln (runL innB t + 1) (by omega), z13, wdL, if_true]
    by_cases h64 : runL innB t + 1 ≤ 64
    · have : ¬ 64 < runL innB t + 1 := by omega
      simp [this, h64, rOut, wTup, hv]
    · have : 64 < runL innB t + 1 := by omega
      simp [this, h64, rOut, wTup]
  · have h1' : isSmB c = false := by simpa using h1
    by_cases h2 : isGrB c = true
    · have e : runL innB (c :: t) = runL innB t + 1 := by simp [runL, innB, h2]
      rw [e] at n2
      simp only [q0, rsmall_is, rsmall_v, rgreat_is, rgreat_v, q1, q2, h1', h2, n1, n2, hok (runL innB t + 1) (by omega), hne (runL innB t + 1) (by omega), hsub, hln (runL innB t + 1) (by omega), z23, wdL, if_true, Bool.false_eq_true, if_false]
      by_cases h64 : runL innB t + 1 ≤ 64
      · have : ¬ 64 < runL innB t + 1 := by omega
        simp [this, h64, rOut, wTup, hv]
      · have : 64 < runL innB t + 1 := by omega
        simp [this, h64, rOut, wTup]
    · have h2' : isGrB c = false := by simpa using h2
      by_cases h3 : c.toNat = 95
      · have e : runL innB (c :: t) = runL innB t + 1 := by simp [runL, innB, h3]
        rw [e] at n2
        have ee : wdL (c :: t) = if hdIs innB t then none else some (3, 1, 0, 0, []) := by
          show (if isSmB c = true then _ else _) = _
          rw [if_neg h1, if_neg h2, if_pos h3]
        have nn : iNe ((i + (runL innB t + 1) : Nat) : Int) (iAdd .i64 (i : Int) 1) = hdIs innB t := by
          rw [w]
          cases t with
          | nil => simp [runL, hdIs]
          | cons d u =>
            simp only [runL, hdIs]
            cases innB d <;> simp <;> omega
        rw [ee]
        simp only [q0, rsmall_is, rsmall_v, rgreat_is, rgreat_v, q1, q2, h1', h2', q3, h3, decide_true, n1, n2, hok (runL innB t + 1) (by omega), hne (runL innB t + 1) (by omega), hsub, hln (runL innB t + 1) (by omega), z33, nn]
        cases hh : hdIs innB t with
        | true =>
          by_cases h64 : 64 < runL innB t + 1 <;> simp [h64, rOut, wTup]
        | false =>
          have r0 : runL innB t = 0 := by
            cases t with
            | nil => rfl
            | cons d u => simp [hdIs] at hh; simp [runL, hh]
          rw [r0]
          simp [rOut, wTup, hv]
      · have val : ∀ (k : Int) (n : Nat), n ≤ t.length + 1 → ((c :: t).take n).length ≤ 140737488355328 := fun k n hn => by rw [List.length_take]; simp; omega
        have hr2 := runL_le isDgB t
        have d1 : rdigits_is0 v ((i + 1 : Nat) : Int) = true := rdigits_is hs1 (by omega)
        have d2 : rdigits_n v ((i + 1 : Nat) : Int) = ((i + (runL isDgB t + 1) : Nat) : Int) := by
          rw [rdigits_v hs1 (by omega), ht]
          congr 1
          omega
        by_cases h4 : isDgB c = true
        · have ee : wdL (c :: t) = valL 4 (c :: t) (runL isDgB t + 1) := by
            show (if isSmB c = true then _ else _) = _
            rw [if_neg h1, if_neg h2, if_neg h3, if_pos (by simp [h4])]
          rw [ee, eRd_val 4 (c :: t) _ v i hv]
          simp only [q0, rsmall_is, rsmall_v, rgreat_is, rgreat_v, q1, q2, h1', h2', q3, decide_eq_false h3, rdigit_is, rdigit_v, q4, h4, w, d1, d2, hok (runL isDgB t + 1) (by omega), hsub, rvalue_is (val 4 (runL isDgB t + 1) (by omega)), rvalue_o (val 4 (runL isDgB t + 1) (by omega))]
          rfl
        · have h4' : isDgB c = false := by simpa using h4
          -- a symbol, or a mark
          have rest : ∀ T : Tr PV, (c.toNat = 45 → hdIs isDgB t = false) → T.run = (Tr.ite (iEq (sAt v (i : Int)) 34)
              (Tr.ite (rquoted_is0 v (i : Int))
                (Tr.ite (iLt (rquoted_n v (i : Int)) 0)
                  (Tr.ret (PV.tup [PV.agg [PV.int .i64 0, PV.str [], PV.int .i64 0, PV.int .i64 0, PV.str [], PV.int .i64 0], PV.bool false]))
                  (Tr.ite (okSub (okPos (i : Int)) (okPos (rquoted_n v (i : Int))) (nNat (i : Int)) (nNat (rquoted_n v (i : Int))) (nLen v))
                    (Tr.ite (rvalue_is0 5 (sSub v (nNat (i : Int)) (nNat (rquoted_n v (i : Int)))) (i : Int))
                      (Tr.ret (PV.tup [PV.agg [PV.int .i64 (rvalue_n 5 (sSub v (nNat (i : Int)) (nNat (rquoted_n v (i : Int)))) (i : Int)), PV.str (rvalue_s 5 (sSub v (nNat (i : Int)) (nNat (rquoted_n v (i : Int)))) (i : Int)), PV.int .i64 (rvalue_n2 5 (sSub v (nNat (i : Int)) (nNat (rquoted_n v (i : Int)))) (i : Int)), PV.int .i64 (rvalue_n3 5 (sSub v (nNat (i : Int)) (nNat (rquoted_n v (i : Int)))) (i : Int)), PV.str (rvalue_s2 5 (sSub v (nNat (i : Int)) (nNat (rquoted_n v (i : Int)))) (i : Int)), PV.int .i64 (rvalue_n4 5 (sSub v (nNat (i : Int)) (nNat (rquoted_n v (i : Int)))) (i : Int))], PV.bool (rvalue_b 5 (sSub v (nNat (i : Int)) (nNat (rquoted_n v (i : Int)))) (i : Int))]))
                      Tr.fail)
                    Tr.fail))
                Tr.fail)
              (Tr.ite (rmark_is0 v (i : Int))
                (Tr.ite (okSub (okPos (i : Int)) (okPos (iAdd .i64 (i : Int) (rmark_n v (i : Int)))) (nNat (i : Int)) (nNat (iAdd .i64 (i : Int) (rmark_n v (i : Int)))) (nLen v))
                  (Tr.ite (iEq (iAdd .i64 (i : Int) (rmark_n v (i : Int))) (i : Int))
                    (Tr.ret (PV.tup [PV.agg [PV.int .i64 0, PV.str [], PV.int .i64 0, PV.int .i64 0, PV.str [], PV.int .i64 0], PV.bool false]))
                    (Tr.ite (iLt 64 (sLen (sSub v (nNat (i : Int)) (nNat (iAdd .i64 (i : Int) (rmark_n v (i : Int)))))))
                      (Tr.ret (PV.tup [PV.agg [PV.int .i64 0, PV.str [], PV.int .i64 0, PV.int .i64 0, PV.str [], PV.int .i64 0], PV.bool false]))
                      (Tr.ite (iEq 6 3)
                        (Tr.ite (iNe (iAdd .i64 (i : Int) (rmark_n v (i : Int))) (iAdd .i64 (i : Int) 1))
                          (Tr.ret (PV.tup [PV.agg [PV.int .i64 0, PV.str [], PV.int .i64 0, PV.int .i64 0, PV.str [], PV.int .i64 0], PV.bool false]))
                          (Tr.ret (PV.tup [PV.agg [PV.int .i64 6, PV.str (sSub v (nNat (i : Int)) (nNat (iAdd .i64 (i : Int) (rmark_n v (i : Int))))), PV.int .i64 0, PV.int .i64 0, PV.str [], PV.int .i64 (i : Int)], PV.bool true])))
                        (Tr.ret (PV.tup [PV.agg [PV.int .i64 6, PV.str (sSub v (nNat (i : Int)) (nNat (iAdd .i64 (i : Int) (rmark_n v (i : Int))))), PV.int .i64 0, PV.int .i64 0, PV.str [], PV.int .i64 (i : Int)], PV.bool true])))))
                  Tr.fail)
                Tr.fail)).run → T.run = some (rOut v i (wdL (c :: t))) := by
            intro T h45 hT
            rw [hT, q6]
            have hd : ¬ (isDgB c || (decide (c.toNat = 45) && hdIs isDgB t)) = true := by
              rw [h4']
              by_cases hc45 : c.toNat = 45
              · simp [hc45, h45 hc45]
              · simp [hc45]
            by_cases h6 : c.toNat = 34
            · have ee : wdL (c :: t) = if quoL t = 0 then none else valL 5 (c :: t) (quoL t + 1) := by
                show (if isSmB c = true then _ else _) = _
                rw [if_neg h1, if_neg h2, if_neg h3, if_neg hd, if_pos h6]
              rw [ee, decide_eq_true h6, rquoted_is hs2 hlt, rquoted_v hs2 hlt, ht]
              have hq := quoL_le t
              by_cases h0 : quoL t = 0
              · rw [if_pos h0, if_pos h0]
                rfl
              · rw [if_neg h0, if_neg h0, eRd_val 5 (c :: t) _ v i hv]
                have e5 : ((i + 1 + quoL t : Nat) : Int) = ((i + (quoL t + 1) : Nat) : Int) := by omega
                have e6 : iLt ((i + (quoL t + 1) : Nat) : Int) 0 = false := by simp; omega
                rw [e5, e6, hok (quoL t + 1) (by omega), hsub, rvalue_is (val 5 (quoL t + 1) (by omega)), rvalue_o (val 5 (quoL t + 1) (by omega))]
                rfl
            · have ee : wdL (c :: t) = if markL c t = 0 then none else some (6, markL c t, 0, 0, []) := by
                show (if isSmB c = true then _ else _) = _
                rw [if_neg h1, if_neg h2, if_neg h3, if_neg hd, if_neg h6]
              have hm : markL c t ≤ t.length + 1 ∧ markL c t ≤ 2 := by
                unfold markL
                cases t with
                | nil => cases onesB c <;> simp [hdIs]
                | cons d u => cases hdIs (twoB c) (d :: u) <;> cases onesB c <;> simp
              have wm : iAdd .i64 (i : Int) ((markL c t : Nat) : Int) = ((i + markL c t : Nat) : Int) := wrap_i64 (by omega)
              rw [ee, decide_eq_false h6, rmark_is hs2 hv, rmark_v hs2 hv, wm, hok (markL c t) hm.1, hsub, hln (markL c t) hm.1, z63]
              by_cases h0 : markL c t = 0
              · rw [if_pos h0, h0]
                have : iEq ((i + 0 : Nat) : Int) (i : Int) = true := by simp
                rw [this]
                rfl
              · have : decide (64 < markL c t) = false := decide_eq_false (by omega)
                rw [if_neg h0, hne _ h0, this]
                simp [rOut, wTup, hv]
          simp only [q0, rsmall_is, rsmall_v, rgreat_is, rgreat_v, q1, q2, h1', h2', q3, decide_eq_false h3, rdigit_is, rdigit_v, q4, h4', q5, w]
          by_cases h45 : c.toNat = 45
          · rw [decide_eq_true h45]
            cases t with
            | nil =>
              have g : iLt ((i + 1 : Nat) : Int) (sLen v) = false := by simp at hl ⊢; omega
              rw [g]
              refine rest _ (fun _ => rfl) ?_
              rw [w]
              rfl
            | cons d u =>
              have g : iLt ((i + 1 : Nat) : Int) (sLen v) = true := by simp at hl ⊢; omega
              have g2 : okIdx v ((i + 1 : Nat) : Int) = true := by simp at hl ⊢; omega
              have hd1 : v[i + 1]? = some d := by
                have : (v.drop (i + 1))[0]? = some d := by rw [ht]; rfl
                simpa using this
              have g3 : dgI (sAt v ((i + 1 : Nat) : Int)) = isDgB d := by
                rw [← dgI_byte]
                have h5 := (List.getElem?_eq_some_iff.1 hd1)
                obtain ⟨h5a, h5b⟩ := h5
                congr 1
                simp only [sAt_eq, Int.toNat_natCast, List.getD_eq_getElem?_getD, hd1, Option.getD_some]
              rw [g, g2, g3]
              cases hdd : isDgB d with
              | true =>
                have ee : wdL (c :: d :: u) = valL 4 (c :: d :: u) (runL isDgB (d :: u) + 1) := by
                  show (if isSmB c = true then _ else _) = _
                  rw [if_neg h1, if_neg h2, if_neg h3, if_pos (by simp [h45, hdIs, hdd])]
                rw [ee, eRd_val 4 (c :: d :: u) _ v i hv]
                simp only [d1, d2, hok (runL isDgB (d :: u) + 1) (by omega), hsub, rvalue_is (val 4 (runL isDgB (d :: u) + 1) (by omega)), rvalue_o (val 4 (runL isDgB (d :: u) + 1) (by omega))]
                rfl
              | false =>
                refine rest _ (fun _ => by simp [hdIs, hdd]) ?_
                rw [w]
                rfl
          · rw [decide_eq_false h45]
            refine rest _ (fun h => absurd h h45) ?_
            rw [w]
            rfl
end Go.Pv

set_option maxHeartbeats 4000000
set_option maxRecDepth 200000
set_option linter.unusedSimpArgs false
set_option linter.unusedVariables false
namespace Go.Pv
open Go Go.Proofs Go.RowKit

/-! ### lex.Words: a round of its loop -/
noncomputable def rc_Words : Code := rngC Tryd.f10 500007
def I_rWords : RI := ⟨24, [2, 3, 4, 5, 12], [2, 3, 4, 5], [.ptr 0 0, .ptr 1 0, .ptr 2 0, .ptr 3 0], [13, 14], 1⟩
noncomputable def R_Words : Nat → List PV → Store → Tr (PV × Store) := rtree tbT (ofL []) (fun _ _ _ => .fail) I_rWords (rngX rc_Words) (rngY rc_Words)
end Go.Pv

set_option maxHeartbeats 4000000
set_option maxRecDepth 200000
set_option linter.unusedSimpArgs false
set_option linter.unusedVariables false
namespace Go.Pv
open Go Go.Proofs
noncomputable def G_lw1 : GamT := ofL [(29, .pure F_lgap), (30, .pure F_lword), (yldKey, .yld 1 R_Words)]
theorem gok_lw1 (gl : Gl) (hg : GlLex gl) (hy : ConOk Tryd.prog gl yldKey (.yld 1 fun t a σ => (R_Words t a σ).run)) : GamOk Tryd.prog gl (gam G_lw1) := (gamOk_cons (sim_lgap gl) (gamOk_cons (sim_lword gl hg) (gamOk_con (K := .yld 1 R_Words) hy gamOk_nil)))
noncomputable def c_lw11 : Code := loopC Tryd.f28 1
def I_lw11 : LI := ⟨41, [0, 1, 3], fun e => match e with | .ret => [] | .exit 0 => [] | _ => [], true⟩
noncomputable def LI_lw11 : LpsT := fun r fr σ => .fail
noncomputable def lw11_V (vs : List PV) (σ : Store) : Option (PExit × List PV × Store) := lval (lstep tbT G_lw1 LI_lw11 c_lw11 I_lw11) vs σ
noncomputable def lw11_Tr (at_ : Int) (r : List (List PV)) (n : Int) (n2 : Int) (r2 : List (List PV)) (s : List UInt8) : Tr LR := Tr.ite (iLt at_ (sLen s)) (Tr.ite (okSub (okPos at_) true (nNat at_) (nLen s) (nLen s)) (Tr.ite (lword_is0 (sSub s (nNat at_) (nLen s))) (Tr.ite (nEq 0 0) (Tr.ite (bNot (lword_b (sSub s (nNat at_) (nLen s)))) (Tr.ite true (Tr.ret (LR.out .ret [] (Store.mk [[PV.sl (dropPLL 5 (dropPLL 6 [])) .full], [PV.int .i64 at_], [PV.int .i64 120], [PV.sl (dropPLL 5 (dropPLL 6 r2)) .full], [PV.str s]] [(2, 0, 1)] [23, 3, 24, 23, 9]))) (Tr.ite (bNot (lword_b (sSub s (nNat at_) (nLen s)))) (Tr.ret (LR.out .ret [] (Store.mk [[PV.sl (dropPLL 5 (dropPLL 6 [])) .full], [PV.int .i64 at_], [PV.int .i64 120], [PV.sl (dropPLL 5 (dropPLL 6 r2)) .full], [PV.str s]] [(2, 0, 1)] [23, 3, 24, 23, 9]))) (Tr.ite (okSub (okPos (iAdd .i64 at_ (sLen (lword_s (sSub s (nNat at_) (nLen s)))))) true (nNat (iAdd .i64 at_ (sLen (lword_s (sSub s (nNat at_) (nLen s)))))) (nLen s) (nLen s)) (Tr.ite (lgap_is0 (sSub s (nNat (iAdd .i64 at_ (sLen (lword_s (sSub s (nNat at_) (nLen s)))))) (nLen s))) (Tr.ret (LR.next [PV.yld 0, PV.ptr 4 0, PV.int .i64 (iAdd .i64 (iAdd .i64 at_ (sLen (lword_s (sSub s (nNat at_) (nLen s))))) (lgap_n (sSub s (nNat (iAdd .i64 at_ (sLen (lword_s (sSub s (nNat at_) (nLen s)))))) (nLen s))))] (Store.mk [[PV.sl (dropPLL 5 (dropPLL 6 [])) .full], [PV.int .i64 at_], [PV.int .i64 120], [PV.sl (dropPLL 5 (dropPLL 6 r2)) .full], [PV.str s]] [(2, 0, 1)] [23, 3, 24, 23, 9]))) Tr.fail) Tr.fail))) (Tr.ite (okGrow r2 [[PV.int .i64 (lword_n (sSub s (nNat at_) (nLen s))), PV.str (lword_s (sSub s (nNat at_) (nLen s))), PV.int .i64 (lword_n2 (sSub s (nNat at_) (nLen s))), PV.int .i64 (lword_n3 (sSub s (nNat at_) (nLen s))), PV.str (lword_s2 (sSub s (nNat at_) (nLen s))), PV.int .i64 at_]] 64) (Tr.ite (okNews [[PV.int .i64 (lword_n (sSub s (nNat at_) (nLen s))), PV.str (lword_s (sSub s (nNat at_) (nLen s))),
 PV.int .i64 (lword_n2 (sSub s (nNat at_) (nLen s))), PV.int .i64 (lword_n3 (sSub s (nNat at_) (nLen s))), PV.str (lword_s2 (sSub s (nNat at_) (nLen s))), PV.int .i64 at_]] 6) (Tr.ite (okSize r2 6) (Tr.ite false (Tr.ret (LR.out .ret [] (Store.mk [[PV.sl (dropPLL 5 (dropPLL 6 r)) .full], [PV.int .i64 n], [PV.int .i64 n2], [PV.sl (dropPLL 5 (dropPLL 6 (xApp r2 [[PV.int .i64 (lword_n (sSub s (nNat at_) (nLen s))), PV.str (lword_s (sSub s (nNat at_) (nLen s))), PV.int .i64 (lword_n2 (sSub s (nNat at_) (nLen s))), PV.int .i64 (lword_n3 (sSub s (nNat at_) (nLen s))), PV.str (lword_s2 (sSub s (nNat at_) (nLen s))), PV.int .i64 at_]]))) (.tok 1)], [PV.str s]] [(0, 0, 1), (nXs (xApp r2 [[PV.int .i64 (lword_n (sSub s (nNat at_) (nLen s))), PV.str (lword_s (sSub s (nNat at_) (nLen s))), PV.int .i64 (lword_n2 (sSub s (nNat at_) (nLen s))), PV.int .i64 (lword_n3 (sSub s (nNat at_) (nLen s))), PV.str (lword_s2 (sSub s (nNat at_) (nLen s))), PV.int .i64 at_]]), 6, 37)] [23, 3, 24, 23, 9]))) (Tr.ite (bNot (lword_b (sSub s (nNat at_) (nLen s)))) (Tr.ret (LR.out .ret [] (Store.mk [[PV.sl (dropPLL 5 (dropPLL 6 r)) .full], [PV.int .i64 n], [PV.int .i64 n2], [PV.sl (dropPLL 5 (dropPLL 6 (xApp r2 [[PV.int .i64 (lword_n (sSub s (nNat at_) (nLen s))), PV.str (lword_s (sSub s (nNat at_) (nLen s))), PV.int .i64 (lword_n2 (sSub s (nNat at_) (nLen s))), PV.int .i64 (lword_n3 (sSub s (nNat at_) (nLen s))), PV.str (lword_s2 (sSub s (nNat at_) (nLen s))), PV.int .i64 at_]]))) (.tok 1)], [PV.str s]] [(0, 0, 1), (nXs (xApp r2 [[PV.int .i64 (lword_n (sSub s (nNat at_) (nLen s))), PV.str (lword_s (sSub s (nNat at_) (nLen s))), PV.int .i64 (lword_n2 (sSub s (nNat at_) (nLen s))), PV.int .i64 (lword_n3 (sSub s (nNat at_) (nLen s))), PV.str (lword_s2 (sSub s (nNat at_) (nLen s))), PV.int .i64 at_]]), 6, 37)] [23, 3, 24, 23, 9]))) (Tr.ite (okSub (okPos (iAdd .i64 at_ (sLen (lword_s (sSub s (nNat at_) (nLen s)))))) true (nNat (iAdd .i64 at_ (sLen (lword_s (sSub s (nNat at_) (nLen s)))))) (nLen s) (nLen s))
 (Tr.ite (lgap_is0 (sSub s (nNat (iAdd .i64 at_ (sLen (lword_s (sSub s (nNat at_) (nLen s)))))) (nLen s))) (Tr.ret (LR.next [PV.yld 0, PV.ptr 4 0, PV.int .i64 (iAdd .i64 (iAdd .i64 at_ (sLen (lword_s (sSub s (nNat at_) (nLen s))))) (lgap_n (sSub s (nNat (iAdd .i64 at_ (sLen (lword_s (sSub s (nNat at_) (nLen s)))))) (nLen s))))] (Store.mk [[PV.sl (dropPLL 5 (dropPLL 6 r)) .full], [PV.int .i64 n], [PV.int .i64 n2], [PV.sl (dropPLL 5 (dropPLL 6 (xApp r2 [[PV.int .i64 (lword_n (sSub s (nNat at_) (nLen s))), PV.str (lword_s (sSub s (nNat at_) (nLen s))), PV.int .i64 (lword_n2 (sSub s (nNat at_) (nLen s))), PV.int .i64 (lword_n3 (sSub s (nNat at_) (nLen s))), PV.str (lword_s2 (sSub s (nNat at_) (nLen s))), PV.int .i64 at_]]))) (.tok 1)], [PV.str s]] [(0, 0, 1), (nXs (xApp r2 [[PV.int .i64 (lword_n (sSub s (nNat at_) (nLen s))), PV.str (lword_s (sSub s (nNat at_) (nLen s))), PV.int .i64 (lword_n2 (sSub s (nNat at_) (nLen s))), PV.int .i64 (lword_n3 (sSub s (nNat at_) (nLen s))), PV.str (lword_s2 (sSub s (nNat at_) (nLen s))), PV.int .i64 at_]]), 6, 37)] [23, 3, 24, 23, 9]))) Tr.fail) Tr.fail))) Tr.fail) Tr.fail) Tr.fail)) Tr.fail) Tr.fail) Tr.fail) (Tr.ret (LR.out (.exit 0) [] (Store.mk [[PV.sl r .full], [PV.int .i64 n], [PV.int .i64 n2], [PV.sl r2 .full], [PV.str s]] [(0, 0, 1)] [23, 3, 24, 23, 9])))
theorem lw11_T (at_ : Int) (r : List (List PV)) (n : Int) (n2 : Int) (r2 : List (List PV)) (s : List UInt8) : lstep tbT G_lw1 LI_lw11 c_lw11 I_lw11 [.yld 0, .ptr 4 0, .int .i64 at_] ⟨[[.sl r .full], [.int .i64 n], [.int .i64 n2], [.sl r2 .full], [.str s]], [(0, 0, 1)], [23, 3, 24, 23, 9]⟩ = lw11_Tr at_ r n n2 r2 s := by kernel_rfl
theorem lw11_E (at_ : Int) (r : List (List PV)) (n : Int) (n2 : Int) (r2 : List (List PV)) (s : List UInt8) : lw11_V [.yld 0, .ptr 4 0, .int .i64 at_] ⟨[[.sl r .full], [.int .i64 n], [.int .i64 n2], [.sl r2 .full], [.str s]], [(0, 0, 1)], [23, 3, 24, 23, 9]⟩ = lnext lw11_V (lw11_Tr at_ r n n2 r2 s).run := by unfold lw11_V; rw [lval_eq, lw11_T]
noncomputable def lw11_Tr1 (at_ : Int) (r : List (List PV)) (n : Int) (n2 : Int) (r2 : List (List PV)) (s : List UInt8) : Tr LR := Tr.ite (iLt at_ (sLen s)) (Tr.ite (okSub (okPos at_) true (nNat at_) (nLen s) (nLen s)) (Tr.ite (lword_is0 (sSub s (nNat at_) (nLen s))) (Tr.ite (nEq 2 0) Tr.fail Tr.fail) Tr.fail) Tr.fail) (Tr.ret (LR.out (.exit 0) [] (Store.mk [[PV.sl r .full], [PV.int .i64 n], [PV.int .i64 n2], [PV.sl r2 .full], [PV.str s]] [(2, 0, 1)] [23, 3, 24, 23, 9])))
theorem lw11_T1 (at_ : Int) (r : List (List PV)) (n : Int) (n2 : Int) (r2 : List (List PV)) (s : List UInt8) : lstep tbT G_lw1 LI_lw11 c_lw11 I_lw11 [.yld 0, .ptr 4 0, .int .i64 at_] ⟨[[.sl r .full], [.int .i64 n], [.int .i64 n2], [.sl r2 .full], [.str s]], [(2, 0, 1)], [23, 3, 24, 23, 9]⟩ = lw11_Tr1 at_ r n n2 r2 s := by kernel_rfl
theorem lw11_E1 (at_ : Int) (r : List (List PV)) (n : Int) (n2 : Int) (r2 : List (List PV)) (s : List UInt8) : lw11_V [.yld 0, .ptr 4 0, .int .i64 at_] ⟨[[.sl r .full], [.int .i64 n], [.int .i64 n2], [.sl r2 .full], [.str s]], [(2, 0, 1)], [23, 3, 24, 23, 9]⟩ = lnext lw11_V (lw11_Tr1 at_ r n n2 r2 s).run := by unfold lw11_V; rw [lval_eq, lw11_T1]
noncomputable def lw11_Tr2 (at_ : Int) (r : List (List PV)) (n : Int) (n2 : Int) (r2 : List (List PV)) (s : List UInt8) (k : Nat) : Tr LR := Tr.ite (iLt at_ (sLen s)) (Tr.ite (okSub (okPos at_) true (nNat at_) (nLen s) (nLen s)) (Tr.ite (lword_is0 (sSub s (nNat at_) (nLen s))) (Tr.ite (nEq 0 0) (Tr.ite (bNot (lword_b (sSub s (nNat at_) (nLen s)))) (Tr.ite true (Tr.ret (LR.out .ret [] (Store.mk [[PV.sl (dropPLL 5 (dropPLL 6 [])) .full], [PV.int .i64 at_], [PV.int .i64 120], [PV.sl (dropPLL 5 (dropPLL 6 r2)) (.tok 1)], [PV.str s]] [(2, 0, 1), (k, 6, 37)] [23, 3, 24, 23, 9]))) (Tr.ite (bNot (lword_b (sSub s (nNat at_) (nLen s)))) (Tr.ret (LR.out .ret [] (Store.mk [[PV.sl (dropPLL 5 (dropPLL 6 [])) .full], [PV.int .i64 at_], [PV.int .i64 120], [PV.sl (dropPLL 5 (dropPLL 6 r2)) (.tok 1)], [PV.str s]] [(2, 0, 1), (k, 6, 37)] [23, 3, 24, 23, 9]))) (Tr.ite (okSub (okPos (iAdd .i64 at_ (sLen (lword_s (sSub s (nNat at_) (nLen s)))))) true (nNat (iAdd .i64 at_ (sLen (lword_s (sSub s (nNat at_) (nLen s)))))) (nLen s) (nLen s)) (Tr.ite (lgap_is0 (sSub s (nNat (iAdd .i64 at_ (sLen (lword_s (sSub s (nNat at_) (nLen s)))))) (nLen s))) (Tr.ret (LR.next [PV.yld 0, PV.ptr 4 0, PV.int .i64 (iAdd .i64 (iAdd .i64 at_ (sLen (lword_s (sSub s (nNat at_) (nLen s))))) (lgap_n (sSub s (nNat (iAdd .i64 at_ (sLen (lword_s (sSub s (nNat at_) (nLen s)))))) (nLen s))))] (Store.mk [[PV.sl (dropPLL 5 (dropPLL 6 [])) .full], [PV.int .i64 at_], [PV.int .i64 120], [PV.sl (dropPLL 5 (dropPLL 6 r2)) (.tok 1)], [PV.str s]] [(2, 0, 1), (k, 6, 37)] [23, 3, 24, 23, 9]))) Tr.fail) Tr.fail))) (Tr.ite (okGrow r2 [[PV.int .i64 (lword_n (sSub s (nNat at_) (nLen s))), PV.str (lword_s (sSub s (nNat at_) (nLen s))), PV.int .i64 (lword_n2 (sSub s (nNat at_) (nLen s))), PV.int .i64 (lword_n3 (sSub s (nNat at_) (nLen s))), PV.str (lword_s2 (sSub s (nNat at_) (nLen s))), PV.int .i64 at_]] 64) (Tr.ite (okNews [[PV.int .i64 (lword_n (sSub s (nNat at_) (nLen s))), PV.str (lword_s (sSub s (nNat at_) (nLen s))),
 PV.int .i64 (lword_n2 (sSub s (nNat at_) (nLen s))), PV.int .i64 (lword_n3 (sSub s (nNat at_) (nLen s))), PV.str (lword_s2 (sSub s (nNat at_) (nLen s))), PV.int .i64 at_]] 6) (Tr.ite (okSize r2 6) (Tr.ite (nEq k (nXs r2)) (Tr.ite false (Tr.ret (LR.out .ret [] (Store.mk [[PV.sl (dropPLL 5 (dropPLL 6 r)) .full], [PV.int .i64 n], [PV.int .i64 n2], [PV.sl (dropPLL 5 (dropPLL 6 (xApp r2 [[PV.int .i64 (lword_n (sSub s (nNat at_) (nLen s))), PV.str (lword_s (sSub s (nNat at_) (nLen s))), PV.int .i64 (lword_n2 (sSub s (nNat at_) (nLen s))), PV.int .i64 (lword_n3 (sSub s (nNat at_) (nLen s))), PV.str (lword_s2 (sSub s (nNat at_) (nLen s))), PV.int .i64 at_]]))) (.tok 1)], [PV.str s]] [(0, 0, 1), (nXs (xApp r2 [[PV.int .i64 (lword_n (sSub s (nNat at_) (nLen s))), PV.str (lword_s (sSub s (nNat at_) (nLen s))), PV.int .i64 (lword_n2 (sSub s (nNat at_) (nLen s))), PV.int .i64 (lword_n3 (sSub s (nNat at_) (nLen s))), PV.str (lword_s2 (sSub s (nNat at_) (nLen s))), PV.int .i64 at_]]), 6, 37)] [23, 3, 24, 23, 9]))) (Tr.ite (bNot (lword_b (sSub s (nNat at_) (nLen s)))) (Tr.ret (LR.out .ret [] (Store.mk [[PV.sl (dropPLL 5 (dropPLL 6 r)) .full], [PV.int .i64 n], [PV.int .i64 n2], [PV.sl (dropPLL 5 (dropPLL 6 (xApp r2 [[PV.int .i64 (lword_n (sSub s (nNat at_) (nLen s))), PV.str (lword_s (sSub s (nNat at_) (nLen s))), PV.int .i64 (lword_n2 (sSub s (nNat at_) (nLen s))), PV.int .i64 (lword_n3 (sSub s (nNat at_) (nLen s))), PV.str (lword_s2 (sSub s (nNat at_) (nLen s))), PV.int .i64 at_]]))) (.tok 1)], [PV.str s]] [(0, 0, 1), (nXs (xApp r2 [[PV.int .i64 (lword_n (sSub s (nNat at_) (nLen s))), PV.str (lword_s (sSub s (nNat at_) (nLen s))), PV.int .i64 (lword_n2 (sSub s (nNat at_) (nLen s))), PV.int .i64 (lword_n3 (sSub s (nNat at_) (nLen s))), PV.str (lword_s2 (sSub s (nNat at_) (nLen s))), PV.int .i64 at_]]), 6, 37)] [23, 3, 24, 23, 9]))) (Tr.ite (okSub (okPos (iAdd .i64 at_ (sLen (lword_s (sSub s (nNat at_) (nLen s)))))) true
 (nNat (iAdd .i64 at_ (sLen (lword_s (sSub s (nNat at_) (nLen s)))))) (nLen s) (nLen s)) (Tr.ite (lgap_is0 (sSub s (nNat (iAdd .i64 at_ (sLen (lword_s (sSub s (nNat at_) (nLen s)))))) (nLen s))) (Tr.ret (LR.next [PV.yld 0, PV.ptr 4 0, PV.int .i64 (iAdd .i64 (iAdd .i64 at_ (sLen (lword_s (sSub s (nNat at_) (nLen s))))) (lgap_n (sSub s (nNat (iAdd .i64 at_ (sLen (lword_s (sSub s (nNat at_) (nLen s)))))) (nLen s))))] (Store.mk [[PV.sl (dropPLL 5 (dropPLL 6 r)) .full], [PV.int .i64 n], [PV.int .i64 n2], [PV.sl (dropPLL 5 (dropPLL 6 (xApp r2 [[PV.int .i64 (lword_n (sSub s (nNat at_) (nLen s))), PV.str (lword_s (sSub s (nNat at_) (nLen s))), PV.int .i64 (lword_n2 (sSub s (nNat at_) (nLen s))), PV.int .i64 (lword_n3 (sSub s (nNat at_) (nLen s))), PV.str (lword_s2 (sSub s (nNat at_) (nLen s))), PV.int .i64 at_]]))) (.tok 1)], [PV.str s]] [(0, 0, 1), (nXs (xApp r2 [[PV.int .i64 (lword_n (sSub s (nNat at_) (nLen s))), PV.str (lword_s (sSub s (nNat at_) (nLen s))), PV.int .i64 (lword_n2 (sSub s (nNat at_) (nLen s))), PV.int .i64 (lword_n3 (sSub s (nNat at_) (nLen s))), PV.str (lword_s2 (sSub s (nNat at_) (nLen s))), PV.int .i64 at_]]), 6, 37)] [23, 3, 24, 23, 9]))) Tr.fail) Tr.fail))) Tr.fail) Tr.fail) Tr.fail) Tr.fail)) Tr.fail) Tr.fail) Tr.fail) (Tr.ret (LR.out (.exit 0) [] (Store.mk [[PV.sl r .full], [PV.int .i64 n], [PV.int .i64 n2], [PV.sl r2 (.tok 1)], [PV.str s]] [(0, 0, 1), (k, 6, 37)] [23, 3, 24, 23, 9])))
theorem lw11_T2 (at_ : Int) (r : List (List PV)) (n : Int) (n2 : Int) (r2 : List (List PV)) (s : List UInt8) (k : Nat) : lstep tbT G_lw1 LI_lw11 c_lw11 I_lw11 [.yld 0, .ptr 4 0, .int .i64 at_] ⟨[[.sl r .full], [.int .i64 n], [.int .i64 n2], [.sl r2 (.tok 1)], [.str s]], [(0, 0, 1), (k, 6, 37)], [23, 3, 24, 23, 9]⟩ = lw11_Tr2 at_ r n n2 r2 s k := by kernel_rfl
theorem lw11_E2 (at_ : Int) (r : List (List PV)) (n : Int) (n2 : Int) (r2 : List (List PV)) (s : List UInt8) (k : Nat) : lw11_V [.yld 0, .ptr 4 0, .int .i64 at_] ⟨[[.sl r .full], [.int .i64 n], [.int .i64 n2], [.sl r2 (.tok 1)], [.str s]], [(0, 0, 1), (k, 6, 37)], [23, 3, 24, 23, 9]⟩ = lnext lw11_V (lw11_Tr2 at_ r n n2 r2 s k).run := by unfold lw11_V; rw [lval_eq, lw11_T2]
noncomputable def lw11_Tr3 (at_ : Int) (r : List (List PV)) (n : Int) (n2 : Int) (r2 : List (List PV)) (s : List UInt8) (k : Nat) : Tr LR := Tr.ite (iLt at_ (sLen s)) (Tr.ite (okSub (okPos at_) true (nNat at_) (nLen s) (nLen s)) (Tr.ite (lword_is0 (sSub s (nNat at_) (nLen s))) (Tr.ite (nEq 2 0) Tr.fail Tr.fail) Tr.fail) Tr.fail) (Tr.ret (LR.out (.exit 0) [] (Store.mk [[PV.sl r .full], [PV.int .i64 n], [PV.int .i64 n2], [PV.sl r2 (.tok 1)], [PV.str s]] [(2, 0, 1), (k, 6, 37)] [23, 3, 24, 23, 9])))
theorem lw11_T3 (at_ : Int) (r : List (List PV)) (n : Int) (n2 : Int) (r2 : List (List PV)) (s : List UInt8) (k : Nat) : lstep tbT G_lw1 LI_lw11 c_lw11 I_lw11 [.yld 0, .ptr 4 0, .int .i64 at_] ⟨[[.sl r .full], [.int .i64 n], [.int .i64 n2], [.sl r2 (.tok 1)], [.str s]], [(2, 0, 1), (k, 6, 37)], [23, 3, 24, 23, 9]⟩ = lw11_Tr3 at_ r n n2 r2 s k := by kernel_rfl
theorem lw11_E3 (at_ : Int) (r : List (List PV)) (n : Int) (n2 : Int) (r2 : List (List PV)) (s : List UInt8) (k : Nat) : lw11_V [.yld 0, .ptr 4 0, .int .i64 at_] ⟨[[.sl r .full], [.int .i64 n], [.int .i64 n2], [.sl r2 (.tok 1)], [.str s]], [(2, 0, 1), (k, 6, 37)], [23, 3, 24, 23, 9]⟩ = lnext lw11_V (lw11_Tr3 at_ r n n2 r2 s k).run := by unfold lw11_V; rw [lval_eq, lw11_T3]
noncomputable def lw11_W (at_ : Int) (r : List (List PV)) (n : Int) (n2 : Int) (r2 : List (List PV)) (s : List UInt8) : Option (PExit × List PV × Store) := lw11_V [.yld 0, .ptr 4 0, .int .i64 at_] ⟨[[.sl r .full], [.int .i64 n], [.int .i64 n2], [.sl r2 .full], [.str s]], [(0, 0, 1)], [23, 3, 24, 23, 9]⟩
noncomputable def lw11_r_0 (at_ : Int) (r : List (List PV)) (n : Int) (n2 : Int) (r2 : List (List PV)) (s : List UInt8) : List (List PV) := (gRow (gAt (gObj (lw11_W at_ r n n2 r2 s) 0) 0))
noncomputable def lw11_n_0 (at_ : Int) (r : List (List PV)) (n : Int) (n2 : Int) (r2 : List (List PV)) (s : List UInt8) : Int := (gInt (gAt (gObj (lw11_W at_ r n n2 r2 s) 1) 0))
noncomputable def lw11_n2_0 (at_ : Int) (r : List (List PV)) (n : Int) (n2 : Int) (r2 : List (List PV)) (s : List UInt8) : Int := (gInt (gAt (gObj (lw11_W at_ r n n2 r2 s) 2) 0))
noncomputable def lw11_r2_0 (at_ : Int) (r : List (List PV)) (n : Int) (n2 : Int) (r2 : List (List PV)) (s : List UInt8) : List (List PV) := (gRow (gAt (gObj (lw11_W at_ r n n2 r2 s) 3) 0))
noncomputable def lw11_s_0 (at_ : Int) (r : List (List PV)) (n : Int) (n2 : Int) (r2 : List (List PV)) (s : List UInt8) : List UInt8 := (gStr (gAt (gObj (lw11_W at_ r n n2 r2 s) 4) 0))
noncomputable def lw11_is0 (at_ : Int) (r : List (List PV)) (n : Int) (n2 : Int) (r2 : List (List PV)) (s : List UInt8) : Bool := isW (lw11_W at_ r n n2 r2 s) (.ret, [], ⟨[[.sl (lw11_r_0 at_ r n n2 r2 s) .full], [.int .i64 (lw11_n_0 at_ r n n2 r2 s)], [.int .i64 (lw11_n2_0 at_ r n n2 r2 s)], [.sl (lw11_r2_0 at_ r n n2 r2 s) .full], [.str (lw11_s_0 at_ r n n2 r2 s)]], [(2, 0, 1)], [23, 3, 24, 23, 9]⟩)
noncomputable def lw11_r_1 (at_ : Int) (r : List (List PV)) (n : Int) (n2 : Int) (r2 : List (List PV)) (s : List UInt8) : List (List PV) := (gRow (gAt (gObj (lw11_W at_ r n n2 r2 s) 0) 0))
noncomputable def lw11_n_1 (at_ : Int) (r : List (List PV)) (n : Int) (n2 : Int) (r2 : List (List PV)) (s : List UInt8) : Int := (gInt (gAt (gObj (lw11_W at_ r n n2 r2 s) 1) 0))
noncomputable def lw11_n2_1 (at_ : Int) (r : List (List PV)) (n : Int) (n2 : Int) (r2 : List (List PV)) (s : List UInt8) : Int := (gInt (gAt (gObj (lw11_W at_ r n n2 r2 s) 2) 0))
noncomputable def lw11_r2_1 (at_ : Int) (r : List (List PV)) (n : Int) (n2 : Int) (r2 : List (List PV)) (s : List UInt8) : List (List PV) := (gRow (gAt (gObj (lw11_W at_ r n n2 r2 s) 3) 0))
noncomputable def lw11_s_1 (at_ : Int) (r : List (List PV)) (n : Int) (n2 : Int) (r2 : List (List PV)) (s : List UInt8) : List UInt8 := (gStr (gAt (gObj (lw11_W at_ r n n2 r2 s) 4) 0))
noncomputable def lw11_k_1 (at_ : Int) (r : List (List PV)) (n : Int) (n2 : Int) (r2 : List (List PV)) (s : List UInt8) : Nat := (gTok (lw11_W at_ r n n2 r2 s) 1)
noncomputable def lw11_is1 (at_ : Int) (r : List (List PV)) (n : Int) (n2 : Int) (r2 : List (List PV)) (s : List UInt8) : Bool := isW (lw11_W at_ r n n2 r2 s) (.ret, [], ⟨[[.sl (lw11_r_1 at_ r n n2 r2 s) .full], [.int .i64 (lw11_n_1 at_ r n n2 r2 s)], [.int .i64 (lw11_n2_1 at_ r n n2 r2 s)], [.sl (lw11_r2_1 at_ r n n2 r2 s) (.tok 1)], [.str (lw11_s_1 at_ r n n2 r2 s)]], [(0, 0, 1), ((lw11_k_1 at_ r n n2 r2 s), 6, 37)], [23, 3, 24, 23, 9]⟩)
noncomputable def lw11_r_2 (at_ : Int) (r : List (List PV)) (n : Int) (n2 : Int) (r2 : List (List PV)) (s : List UInt8) : List (List PV) := (gRow (gAt (gObj (lw11_W at_ r n n2 r2 s) 0) 0))
noncomputable def lw11_n_2 (at_ : Int) (r : List (List PV)) (n : Int) (n2 : Int) (r2 : List (List PV)) (s : List UInt8) : Int := (gInt (gAt (gObj (lw11_W at_ r n n2 r2 s) 1) 0))
noncomputable def lw11_n2_2 (at_ : Int) (r : List (List PV)) (n : Int) (n2 : Int) (r2 : List (List PV)) (s : List UInt8) : Int := (gInt (gAt (gObj (lw11_W at_ r n n2 r2 s) 2) 0))
noncomputable def lw11_r2_2 (at_ : Int) (r : List (List PV)) (n : Int) (n2 : Int) (r2 : List (List PV)) (s : List UInt8) : List (List PV) := (gRow (gAt (gObj (lw11_W at_ r n n2 r2 s) 3) 0))
noncomputable def lw11_s_2 (at_ : Int) (r : List (List PV)) (n : Int) (n2 : Int) (r2 : List (List PV)) (s : List UInt8) : List UInt8 := (gStr (gAt (gObj (lw11_W at_ r n n2 r2 s) 4) 0))
noncomputable def lw11_is2 (at_ : Int) (r : List (List PV)) (n : Int) (n2 : Int) (r2 : List (List PV)) (s : List UInt8) : Bool := isW (lw11_W at_ r n n2 r2 s) ((.exit 0), [], ⟨[[.sl (lw11_r_2 at_ r n n2 r2 s) .full], [.int .i64 (lw11_n_2 at_ r n n2 r2 s)], [.int .i64 (lw11_n2_2 at_ r n n2 r2 s)], [.sl (lw11_r2_2 at_ r n n2 r2 s) .full], [.str (lw11_s_2 at_ r n n2 r2 s)]], [(0, 0, 1)], [23, 3, 24, 23, 9]⟩)
noncomputable def lw11_r_3 (at_ : Int) (r : List (List PV)) (n : Int) (n2 : Int) (r2 : List (List PV)) (s : List UInt8) : List (List PV) := (gRow (gAt (gObj (lw11_W at_ r n n2 r2 s) 0) 0))
noncomputable def lw11_n_3 (at_ : Int) (r : List (List PV)) (n : Int) (n2 : Int) (r2 : List (List PV)) (s : List UInt8) : Int := (gInt (gAt (gObj (lw11_W at_ r n n2 r2 s) 1) 0))
noncomputable def lw11_n2_3 (at_ : Int) (r : List (List PV)) (n : Int) (n2 : Int) (r2 : List (List PV)) (s : List UInt8) : Int := (gInt (gAt (gObj (lw11_W at_ r n n2 r2 s) 2) 0))
noncomputable def lw11_r2_3 (at_ : Int) (r : List (List PV)) (n : Int) (n2 : Int) (r2 : List (List PV)) (s : List UInt8) : List (List PV) := (gRow (gAt (gObj (lw11_W at_ r n n2 r2 s) 3) 0))
noncomputable def lw11_s_3 (at_ : Int) (r : List (List PV)) (n : Int) (n2 : Int) (r2 : List (List PV)) (s : List UInt8) : List UInt8 := (gStr (gAt (gObj (lw11_W at_ r n n2 r2 s) 4) 0))
noncomputable def lw11_is3 (at_ : Int) (r : List (List PV)) (n : Int) (n2 : Int) (r2 : List (List PV)) (s : List UInt8) : Bool := isW (lw11_W at_ r n n2 r2 s) ((.exit 0), [], ⟨[[.sl (lw11_r_3 at_ r n n2 r2 s) .full], [.int .i64 (lw11_n_3 at_ r n n2 r2 s)], [.int .i64 (lw11_n2_3 at_ r n n2 r2 s)], [.sl (lw11_r2_3 at_ r n n2 r2 s) .full], [.str (lw11_s_3 at_ r n n2 r2 s)]], [(2, 0, 1)], [23, 3, 24, 23, 9]⟩)
noncomputable def lw11_r_4 (at_ : Int) (r : List (List PV)) (n : Int) (n2 : Int) (r2 : List (List PV)) (s : List UInt8) : List (List PV) := (gRow (gAt (gObj (lw11_W at_ r n n2 r2 s) 0) 0))
noncomputable def lw11_n_4 (at_ : Int) (r : List (List PV)) (n : Int) (n2 : Int) (r2 : List (List PV)) (s : List UInt8) : Int := (gInt (gAt (gObj (lw11_W at_ r n n2 r2 s) 1) 0))
noncomputable def lw11_n2_4 (at_ : Int) (r : List (List PV)) (n : Int) (n2 : Int) (r2 : List (List PV)) (s : List UInt8) : Int := (gInt (gAt (gObj (lw11_W at_ r n n2 r2 s) 2) 0))
noncomputable def lw11_r2_4 (at_ : Int) (r : List (List PV)) (n : Int) (n2 : Int) (r2 : List (List PV)) (s : List UInt8) : List (List PV) := (gRow (gAt (gObj (lw11_W at_ r n n2 r2 s) 3) 0))
noncomputable def lw11_s_4 (at_ : Int) (r : List (List PV)) (n : Int) (n2 : Int) (r2 : List (List PV)) (s : List UInt8) : List UInt8 := (gStr (gAt (gObj (lw11_W at_ r n n2 r2 s) 4) 0))
noncomputable def lw11_k_4 (at_ : Int) (r : List (List PV)) (n : Int) (n2 : Int) (r2 : List (List PV)) (s : List UInt8) : Nat := (gTok (lw11_W at_ r n n2 r2 s) 1)
noncomputable def lw11_is4 (at_ : Int) (r : List (List PV)) (n : Int) (n2 : Int) (r2 : List (List PV)) (s : List UInt8) : Bool := isW (lw11_W at_ r n n2 r2 s) (.ret, [], ⟨[[.sl (lw11_r_4 at_ r n n2 r2 s) .full], [.int .i64 (lw11_n_4 at_ r n n2 r2 s)], [.int .i64 (lw11_n2_4 at_ r n n2 r2 s)], [.sl (lw11_r2_4 at_ r n n2 r2 s) (.tok 1)], [.str (lw11_s_4 at_ r n n2 r2 s)]], [(2, 0, 1), ((lw11_k_4 at_ r n n2 r2 s), 6, 37)], [23, 3, 24, 23, 9]⟩)
noncomputable def lw11_r_5 (at_ : Int) (r : List (List PV)) (n : Int) (n2 : Int) (r2 : List (List PV)) (s : List UInt8) : List (List PV) := (gRow (gAt (gObj (lw11_W at_ r n n2 r2 s) 0) 0))
noncomputable def lw11_n_5 (at_ : Int) (r : List (List PV)) (n : Int) (n2 : Int) (r2 : List (List PV)) (s : List UInt8) : Int := (gInt (gAt (gObj (lw11_W at_ r n n2 r2 s) 1) 0))
noncomputable def lw11_n2_5 (at_ : Int) (r : List (List PV)) (n : Int) (n2 : Int) (r2 : List (List PV)) (s : List UInt8) : Int := (gInt (gAt (gObj (lw11_W at_ r n n2 r2 s) 2) 0))
noncomputable def lw11_r2_5 (at_ : Int) (r : List (List PV)) (n : Int) (n2 : Int) (r2 : List (List PV)) (s : List UInt8) : List (List PV) := (gRow (gAt (gObj (lw11_W at_ r n n2 r2 s) 3) 0))
noncomputable def lw11_s_5 (at_ : Int) (r : List (List PV)) (n : Int) (n2 : Int) (r2 : List (List PV)) (s : List UInt8) : List UInt8 := (gStr (gAt (gObj (lw11_W at_ r n n2 r2 s) 4) 0))
noncomputable def lw11_k_5 (at_ : Int) (r : List (List PV)) (n : Int) (n2 : Int) (r2 : List (List PV)) (s : List UInt8) : Nat := (gTok (lw11_W at_ r n n2 r2 s) 1)
noncomputable def lw11_is5 (at_ : Int) (r : List (List PV)) (n : Int) (n2 : Int) (r2 : List (List PV)) (s : List UInt8) : Bool := isW (lw11_W at_ r n n2 r2 s) ((.exit 0), [], ⟨[[.sl (lw11_r_5 at_ r n n2 r2 s) .full], [.int .i64 (lw11_n_5 at_ r n n2 r2 s)], [.int .i64 (lw11_n2_5 at_ r n n2 r2 s)], [.sl (lw11_r2_5 at_ r n n2 r2 s) (.tok 1)], [.str (lw11_s_5 at_ r n n2 r2 s)]], [(0, 0, 1), ((lw11_k_5 at_ r n n2 r2 s), 6, 37)], [23, 3, 24, 23, 9]⟩)
noncomputable def lw11_r_6 (at_ : Int) (r : List (List PV)) (n : Int) (n2 : Int) (r2 : List (List PV)) (s : List UInt8) : List (List PV) := (gRow (gAt (gObj (lw11_W at_ r n n2 r2 s) 0) 0))
noncomputable def lw11_n_6 (at_ : Int) (r : List (List PV)) (n : Int) (n2 : Int) (r2 : List (List PV)) (s : List UInt8) : Int := (gInt (gAt (gObj (lw11_W at_ r n n2 r2 s) 1) 0))
noncomputable def lw11_n2_6 (at_ : Int) (r : List (List PV)) (n : Int) (n2 : Int) (r2 : List (List PV)) (s : List UInt8) : Int := (gInt (gAt (gObj (lw11_W at_ r n n2 r2 s) 2) 0))
noncomputable def lw11_r2_6 (at_ : Int) (r : List (List PV)) (n : Int) (n2 : Int) (r2 : List (List PV)) (s : List UInt8) : List (List PV) := (gRow (gAt (gObj (lw11_W at_ r n n2 r2 s) 3) 0))
noncomputable def lw11_s_6 (at_ : Int) (r : List (List PV)) (n : Int) (n2 : Int) (r2 : List (List PV)) (s : List UInt8) : List UInt8 := (gStr (gAt (gObj (lw11_W at_ r n n2 r2 s) 4) 0))
noncomputable def lw11_k_6 (at_ : Int) (r : List (List PV)) (n : Int) (n2 : Int) (r2 : List (List PV)) (s : List UInt8) : Nat := (gTok (lw11_W at_ r n n2 r2 s) 1)
noncomputable def lw11_is6 (at_ : Int) (r : List (List PV)) (n : Int) (n2 : Int) (r2 : List (List PV)) (s : List UInt8) : Bool := isW (lw11_W at_ r n n2 r2 s) ((.exit 0), [], ⟨[[.sl (lw11_r_6 at_ r n n2 r2 s) .full], [.int .i64 (lw11_n_6 at_ r n n2 r2 s)], [.int .i64 (lw11_n2_6 at_ r n n2 r2 s)], [.sl (lw11_r2_6 at_ r n n2 r2 s) (.tok 1)], [.str (lw11_s_6 at_ r n n2 r2 s)]], [(2, 0, 1), ((lw11_k_6 at_ r n n2 r2 s), 6, 37)], [23, 3, 24, 23, 9]⟩)
noncomputable def lw11_prop : List PV → Store → Tr (PExit × List PV × Store) | [.yld 0, .ptr 4 0, .int .i64 at_], ⟨[[.sl r .full], [.int .i64 n], [.int .i64 n2], [.sl r2 .full], [.str s]], [(0, 0, 1)], [23, 3, 24, 23, 9]⟩ => .ite (lw11_is0 at_ r n n2 r2 s) (.ret (.ret, [], ⟨[[.sl (lw11_r_0 at_ r n n2 r2 s) .full], [.int .i64 (lw11_n_0 at_ r n n2 r2 s)], [.int .i64 (lw11_n2_0 at_ r n n2 r2 s)], [.sl (lw11_r2_0 at_ r n n2 r2 s) .full], [.str (lw11_s_0 at_ r n n2 r2 s)]], [(2, 0, 1)], [23, 3, 24, 23, 9]⟩)) (.ite (lw11_is1 at_ r n n2 r2 s) (.ret (.ret, [], ⟨[[.sl (lw11_r_1 at_ r n n2 r2 s) .full], [.int .i64 (lw11_n_1 at_ r n n2 r2 s)], [.int .i64 (lw11_n2_1 at_ r n n2 r2 s)], [.sl (lw11_r2_1 at_ r n n2 r2 s) (.tok 1)], [.str (lw11_s_1 at_ r n n2 r2 s)]], [(0, 0, 1), ((lw11_k_1 at_ r n n2 r2 s), 6, 37)], [23, 3, 24, 23, 9]⟩)) (.ite (lw11_is2 at_ r n n2 r2 s) (.ret ((.exit 0), [], ⟨[[.sl (lw11_r_2 at_ r n n2 r2 s) .full], [.int .i64 (lw11_n_2 at_ r n n2 r2 s)], [.int .i64 (lw11_n2_2 at_ r n n2 r2 s)], [.sl (lw11_r2_2 at_ r n n2 r2 s) .full], [.str (lw11_s_2 at_ r n n2 r2 s)]], [(0, 0, 1)], [23, 3, 24, 23, 9]⟩)) (.ite (lw11_is3 at_ r n n2 r2 s) (.ret ((.exit 0), [], ⟨[[.sl (lw11_r_3 at_ r n n2 r2 s) .full], [.int .i64 (lw11_n_3 at_ r n n2 r2 s)], [.int .i64 (lw11_n2_3 at_ r n n2 r2 s)], [.sl (lw11_r2_3 at_ r n n2 r2 s) .full], [.str (lw11_s_3 at_ r n n2 r2 s)]], [(2, 0, 1)], [23, 3, 24, 23, 9]⟩)) (.ite (lw11_is4 at_ r n n2 r2 s) (.ret (.ret, [], ⟨[[.sl (lw11_r_4 at_ r n n2 r2 s) .full], [.int .i64 (lw11_n_4 at_ r n n2 r2 s)], [.int .i64 (lw11_n2_4 at_ r n n2 r2 s)], [.sl (lw11_r2_4 at_ r n n2 r2 s) (.tok 1)], [.str (lw11_s_4 at_ r n n2 r2 s)]], [(2, 0, 1), ((lw11_k_4 at_ r n n2 r2 s), 6, 37)], [23, 3, 24, 23, 9]⟩)) (.ite (lw11_is5 at_ r n n2 r2 s) (.ret ((.exit 0), [], ⟨[[.sl (lw11_r_5 at_ r n n2 r2 s) .full], [.int .i64 (lw11_n_5 at_ r n n2 r2 s)], [.int .i64 (lw11_n2_5 at_ r n n2 r2 s)], [.sl (lw11_r2_5 at_ r n n2 r2 s) (.tok 1)], [.str (lw11_s_5 at_ r n n2 r2 s)]], [(0, 0, 1), ((lw11_k_5 at_ r n n2 r2 s), 6, 37)], [23, 3, 24, 23, 9]⟩)) (.ite (lw11_is6 at_ r n n2 r2 s) (.ret ((.exit 0), [], ⟨[[.sl (lw11_r_6 at_ r n n2 r2 s) .full], [.int .i64 (lw11_n_6 at_ r n n2 r2 s)], [.int .i64 (lw11_n2_6 at_ r n n2 r2 s)], [.sl (lw11_r2_6 at_ r n n2 r2 s) (.tok 1)], [.str (lw11_s_6 at_ r n n2 r2 s)]], [(2, 0, 1), ((lw11_k_6 at_ r n n2 r2 s), 6, 37)], [23, 3, 24, 23, 9]⟩)) (.fail))))))) | _, _ => .fail
theorem lw11_ok : ∀ vs σ r, (lw11_prop vs σ).run = some r → lw11_V vs σ = some r := by
  intro vs σ r h
  unfold lw11_prop at h
  split at h
  · exact ite_isW h fun h => ite_isW h fun h => ite_isW h fun h => ite_isW h fun h => ite_isW h fun h => ite_isW h fun h => ite_isW h fun h => by cases h
  · cases h
theorem loop_lw11 (gl : Gl) (hg : GlLex gl) (hy : ConOk Tryd.prog gl yldKey (.yld 1 fun t a σ => (R_Words t a σ).run)) : ∀ fr σ e fr' σ', (orc I_lw11 lw11_prop fr σ).run = some (e, fr', σ') → LDoes Tryd.prog gl c_lw11 fr σ e fr' σ' := orc_ok tbT_ok (gok_lw1 gl hg hy ) noMixed (L := LI_lw11) (loopOk_none (by kernel_rfl)) (by kernel_rfl) lw11_ok
noncomputable def L_lw1 : LpsT := fun r fr σ => bif Nat.beq r 1 then orc I_lw11 lw11_prop fr σ else .fail
noncomputable def lw1_Tr (r : List (List PV)) (n : Int) (n2 : Int) (r2 : List (List PV)) (s : List UInt8) : Tr (PV × Store) := Tr.ite (lgap_is0 s) (Tr.ite (lw11_is0 (lgap_n s) r n n2 r2 s) (Tr.ret (PV.tup [], Store.mk [[PV.sl (lw11_r_0 (lgap_n s) r n n2 r2 s) .full], [PV.int .i64 (lw11_n_0 (lgap_n s) r n n2 r2 s)], [PV.int .i64 (lw11_n2_0 (lgap_n s) r n n2 r2 s)], [PV.sl (lw11_r2_0 (lgap_n s) r n n2 r2 s) .full], [PV.str (lw11_s_0 (lgap_n s) r n n2 r2 s)]] [(2, 0, 1)] [23, 3, 24, 23, 9])) (Tr.ite (lw11_is1 (lgap_n s) r n n2 r2 s) (Tr.ret (PV.tup [], Store.mk [[PV.sl (lw11_r_1 (lgap_n s) r n n2 r2 s) .full], [PV.int .i64 (lw11_n_1 (lgap_n s) r n n2 r2 s)], [PV.int .i64 (lw11_n2_1 (lgap_n s) r n n2 r2 s)], [PV.sl (lw11_r2_1 (lgap_n s) r n n2 r2 s) (.tok 1)], [PV.str (lw11_s_1 (lgap_n s) r n n2 r2 s)]] [(0, 0, 1), (lw11_k_1 (lgap_n s) r n n2 r2 s, 6, 37)] [23, 3, 24, 23, 9])) (Tr.ite (lw11_is2 (lgap_n s) r n n2 r2 s) (Tr.ret (PV.tup [], Store.mk [[PV.sl (lw11_r_2 (lgap_n s) r n n2 r2 s) .full], [PV.int .i64 (lw11_n_2 (lgap_n s) r n n2 r2 s)], [PV.int .i64 (lw11_n2_2 (lgap_n s) r n n2 r2 s)], [PV.sl (lw11_r2_2 (lgap_n s) r n n2 r2 s) .full], [PV.str (lw11_s_2 (lgap_n s) r n n2 r2 s)]] [(0, 0, 1)] [23, 3, 24, 23, 9])) (Tr.ite (lw11_is3 (lgap_n s) r n n2 r2 s) (Tr.ret (PV.tup [], Store.mk [[PV.sl (lw11_r_3 (lgap_n s) r n n2 r2 s) .full], [PV.int .i64 (lw11_n_3 (lgap_n s) r n n2 r2 s)], [PV.int .i64 (lw11_n2_3 (lgap_n s) r n n2 r2 s)], [PV.sl (lw11_r2_3 (lgap_n s) r n n2 r2 s) .full], [PV.str (lw11_s_3 (lgap_n s) r n n2 r2 s)]] [(2, 0, 1)] [23, 3, 24, 23, 9])) (Tr.ite (lw11_is4 (lgap_n s) r n n2 r2 s) (Tr.ret (PV.tup [], Store.mk [[PV.sl (lw11_r_4 (lgap_n s) r n n2 r2 s) .full], [PV.int .i64 (lw11_n_4 (lgap_n s) r n n2 r2 s)], [PV.int .i64 (lw11_n2_4 (lgap_n s) r n n2 r2 s)], [PV.sl (lw11_r2_4 (lgap_n s) r n n2 r2 s) (.tok 1)], [PV.str (lw11_s_4 (lgap_n s) r n n2 r2 s)]] [(2, 0, 1), (lw11_k_4 (lgap_n s) r n n2 r2 s, 6, 37)] [23, 3, 24, 23, 9]))
 (Tr.ite (lw11_is5 (lgap_n s) r n n2 r2 s) (Tr.ret (PV.tup [], Store.mk [[PV.sl (lw11_r_5 (lgap_n s) r n n2 r2 s) .full], [PV.int .i64 (lw11_n_5 (lgap_n s) r n n2 r2 s)], [PV.int .i64 (lw11_n2_5 (lgap_n s) r n n2 r2 s)], [PV.sl (lw11_r2_5 (lgap_n s) r n n2 r2 s) (.tok 1)], [PV.str (lw11_s_5 (lgap_n s) r n n2 r2 s)]] [(0, 0, 1), (lw11_k_5 (lgap_n s) r n n2 r2 s, 6, 37)] [23, 3, 24, 23, 9])) (Tr.ite (lw11_is6 (lgap_n s) r n n2 r2 s) (Tr.ret (PV.tup [], Store.mk [[PV.sl (lw11_r_6 (lgap_n s) r n n2 r2 s) .full], [PV.int .i64 (lw11_n_6 (lgap_n s) r n n2 r2 s)], [PV.int .i64 (lw11_n2_6 (lgap_n s) r n n2 r2 s)], [PV.sl (lw11_r2_6 (lgap_n s) r n n2 r2 s) (.tok 1)], [PV.str (lw11_s_6 (lgap_n s) r n n2 r2 s)]] [(2, 0, 1), (lw11_k_6 (lgap_n s) r n n2 r2 s, 6, 37)] [23, 3, 24, 23, 9])) Tr.fail))))))) Tr.fail
theorem lw1_T (r : List (List PV)) (n : Int) (n2 : Int) (r2 : List (List PV)) (s : List UInt8) : (tcallS tbT G_lw1 L_lw1 Tryd.f28 [.yld 0, .ptr 4 0] ⟨[[.sl r .full], [.int .i64 n], [.int .i64 n2], [.sl r2 .full], [.str s]], [(0, 0, 1)], [23, 3, 24, 23, 9]⟩).flat = lw1_Tr r n n2 r2 s := by kernel_rfl
noncomputable def lw1_W (r : List (List PV)) (n : Int) (n2 : Int) (r2 : List (List PV)) (s : List UInt8) : Option (PV × Store) := (lw1_Tr r n n2 r2 s).run
noncomputable def lw1_r_0 (r : List (List PV)) (n : Int) (n2 : Int) (r2 : List (List PV)) (s : List UInt8) : List (List PV) := (gRow (gAt (gObj (asOut (lw1_W r n n2 r2 s)) 0) 0))
noncomputable def lw1_n_0 (r : List (List PV)) (n : Int) (n2 : Int) (r2 : List (List PV)) (s : List UInt8) : Int := (gInt (gAt (gObj (asOut (lw1_W r n n2 r2 s)) 1) 0))
noncomputable def lw1_n2_0 (r : List (List PV)) (n : Int) (n2 : Int) (r2 : List (List PV)) (s : List UInt8) : Int := (gInt (gAt (gObj (asOut (lw1_W r n n2 r2 s)) 2) 0))
noncomputable def lw1_r2_0 (r : List (List PV)) (n : Int) (n2 : Int) (r2 : List (List PV)) (s : List UInt8) : List (List PV) := (gRow (gAt (gObj (asOut (lw1_W r n n2 r2 s)) 3) 0))
noncomputable def lw1_s_0 (r : List (List PV)) (n : Int) (n2 : Int) (r2 : List (List PV)) (s : List UInt8) : List UInt8 := (gStr (gAt (gObj (asOut (lw1_W r n n2 r2 s)) 4) 0))
noncomputable def lw1_is0 (r : List (List PV)) (n : Int) (n2 : Int) (r2 : List (List PV)) (s : List UInt8) : Bool := isW (lw1_W r n n2 r2 s) (.tup [], ⟨[[.sl (lw1_r_0 r n n2 r2 s) .full], [.int .i64 (lw1_n_0 r n n2 r2 s)], [.int .i64 (lw1_n2_0 r n n2 r2 s)], [.sl (lw1_r2_0 r n n2 r2 s) .full], [.str (lw1_s_0 r n n2 r2 s)]], [(2, 0, 1)], [23, 3, 24, 23, 9]⟩)
noncomputable def lw1_r_1 (r : List (List PV)) (n : Int) (n2 : Int) (r2 : List (List PV)) (s : List UInt8) : List (List PV) := (gRow (gAt (gObj (asOut (lw1_W r n n2 r2 s)) 0) 0))
noncomputable def lw1_n_1 (r : List (List PV)) (n : Int) (n2 : Int) (r2 : List (List PV)) (s : List UInt8) : Int := (gInt (gAt (gObj (asOut (lw1_W r n n2 r2 s)) 1) 0))
noncomputable def lw1_n2_1 (r : List (List PV)) (n : Int) (n2 : Int) (r2 : List (List PV)) (s : List UInt8) : Int := (gInt (gAt (gObj (asOut (lw1_W r n n2 r2 s)) 2) 0))
noncomputable def lw1_r2_1 (r : List (List PV)) (n : Int) (n2 : Int) (r2 : List (List PV)) (s : List UInt8) : List (List PV) := (gRow (gAt (gObj (asOut (lw1_W r n n2 r2 s)) 3) 0))
noncomputable def lw1_s_1 (r : List (List PV)) (n : Int) (n2 : Int) (r2 : List (List PV)) (s : List UInt8) : List UInt8 := (gStr (gAt (gObj (asOut (lw1_W r n n2 r2 s)) 4) 0))
noncomputable def lw1_k_1 (r : List (List PV)) (n : Int) (n2 : Int) (r2 : List (List PV)) (s : List UInt8) : Nat := (gTok (asOut (lw1_W r n n2 r2 s)) 1)
noncomputable def lw1_is1 (r : List (List PV)) (n : Int) (n2 : Int) (r2 : List (List PV)) (s : List UInt8) : Bool := isW (lw1_W r n n2 r2 s) (.tup [], ⟨[[.sl (lw1_r_1 r n n2 r2 s) .full], [.int .i64 (lw1_n_1 r n n2 r2 s)], [.int .i64 (lw1_n2_1 r n n2 r2 s)], [.sl (lw1_r2_1 r n n2 r2 s) (.tok 1)], [.str (lw1_s_1 r n n2 r2 s)]], [(0, 0, 1), ((lw1_k_1 r n n2 r2 s), 6, 37)], [23, 3, 24, 23, 9]⟩)
noncomputable def lw1_r_2 (r : List (List PV)) (n : Int) (n2 : Int) (r2 : List (List PV)) (s : List UInt8) : List (List PV) := (gRow (gAt (gObj (asOut (lw1_W r n n2 r2 s)) 0) 0))
noncomputable def lw1_n_2 (r : List (List PV)) (n : Int) (n2 : Int) (r2 : List (List PV)) (s : List UInt8) : Int := (gInt (gAt (gObj (asOut (lw1_W r n n2 r2 s)) 1) 0))
noncomputable def lw1_n2_2 (r : List (List PV)) (n : Int) (n2 : Int) (r2 : List (List PV)) (s : List UInt8) : Int := (gInt (gAt (gObj (asOut (lw1_W r n n2 r2 s)) 2) 0))
noncomputable def lw1_r2_2 (r : List (List PV)) (n : Int) (n2 : Int) (r2 : List (List PV)) (s : List UInt8) : List (List PV) := (gRow (gAt (gObj (asOut (lw1_W r n n2 r2 s)) 3) 0))
noncomputable def lw1_s_2 (r : List (List PV)) (n : Int) (n2 : Int) (r2 : List (List PV)) (s : List UInt8) : List UInt8 := (gStr (gAt (gObj (asOut (lw1_W r n n2 r2 s)) 4) 0))
noncomputable def lw1_is2 (r : List (List PV)) (n : Int) (n2 : Int) (r2 : List (List PV)) (s : List UInt8) : Bool := isW (lw1_W r n n2 r2 s) (.tup [], ⟨[[.sl (lw1_r_2 r n n2 r2 s) .full], [.int .i64 (lw1_n_2 r n n2 r2 s)], [.int .i64 (lw1_n2_2 r n n2 r2 s)], [.sl (lw1_r2_2 r n n2 r2 s) .full], [.str (lw1_s_2 r n n2 r2 s)]], [(0, 0, 1)], [23, 3, 24, 23, 9]⟩)
noncomputable def lw1_r_3 (r : List (List PV)) (n : Int) (n2 : Int) (r2 : List (List PV)) (s : List UInt8) : List (List PV) := (gRow (gAt (gObj (asOut (lw1_W r n n2 r2 s)) 0) 0))
noncomputable def lw1_n_3 (r : List (List PV)) (n : Int) (n2 : Int) (r2 : List (List PV)) (s : List UInt8) : Int := (gInt (gAt (gObj (asOut (lw1_W r n n2 r2 s)) 1) 0))
noncomputable def lw1_n2_3 (r : List (List PV)) (n : Int) (n2 : Int) (r2 : List (List PV)) (s : List UInt8) : Int := (gInt (gAt (gObj (asOut (lw1_W r n n2 r2 s)) 2) 0))
noncomputable def lw1_r2_3 (r : List (List PV)) (n : Int) (n2 : Int) (r2 : List (List PV)) (s : List UInt8) : List (List PV) := (gRow (gAt (gObj (asOut (lw1_W r n n2 r2 s)) 3) 0))
noncomputable def lw1_s_3 (r : List (List PV)) (n : Int) (n2 : Int) (r2 : List (List PV)) (s : List UInt8) : List UInt8 := (gStr (gAt (gObj (asOut (lw1_W r n n2 r2 s)) 4) 0))
noncomputable def lw1_k_3 (r : List (List PV)) (n : Int) (n2 : Int) (r2 : List (List PV)) (s : List UInt8) : Nat := (gTok (asOut (lw1_W r n n2 r2 s)) 1)
noncomputable def lw1_is3 (r : List (List PV)) (n : Int) (n2 : Int) (r2 : List (List PV)) (s : List UInt8) : Bool := isW (lw1_W r n n2 r2 s) (.tup [], ⟨[[.sl (lw1_r_3 r n n2 r2 s) .full], [.int .i64 (lw1_n_3 r n n2 r2 s)], [.int .i64 (lw1_n2_3 r n n2 r2 s)], [.sl (lw1_r2_3 r n n2 r2 s) (.tok 1)], [.str (lw1_s_3 r n n2 r2 s)]], [(2, 0, 1), ((lw1_k_3 r n n2 r2 s), 6, 37)], [23, 3, 24, 23, 9]⟩)
noncomputable def D_lw1 : List PV → Store → Tr (PV × Store) | [.yld 0, .ptr 4 0], ⟨[[.sl r .full], [.int .i64 n], [.int .i64 n2], [.sl r2 .full], [.str s]], [(0, 0, 1)], [23, 3, 24, 23, 9]⟩ => .ite (lw1_is0 r n n2 r2 s) (.ret (.tup [], ⟨[[.sl (lw1_r_0 r n n2 r2 s) .full], [.int .i64 (lw1_n_0 r n n2 r2 s)], [.int .i64 (lw1_n2_0 r n n2 r2 s)], [.sl (lw1_r2_0 r n n2 r2 s) .full], [.str (lw1_s_0 r n n2 r2 s)]], [(2, 0, 1)], [23, 3, 24, 23, 9]⟩)) (.ite (lw1_is1 r n n2 r2 s) (.ret (.tup [], ⟨[[.sl (lw1_r_1 r n n2 r2 s) .full], [.int .i64 (lw1_n_1 r n n2 r2 s)], [.int .i64 (lw1_n2_1 r n n2 r2 s)], [.sl (lw1_r2_1 r n n2 r2 s) (.tok 1)], [.str (lw1_s_1 r n n2 r2 s)]], [(0, 0, 1), ((lw1_k_1 r n n2 r2 s), 6, 37)], [23, 3, 24, 23, 9]⟩)) (.ite (lw1_is2 r n n2 r2 s) (.ret (.tup [], ⟨[[.sl (lw1_r_2 r n n2 r2 s) .full], [.int .i64 (lw1_n_2 r n n2 r2 s)], [.int .i64 (lw1_n2_2 r n n2 r2 s)], [.sl (lw1_r2_2 r n n2 r2 s) .full], [.str (lw1_s_2 r n n2 r2 s)]], [(0, 0, 1)], [23, 3, 24, 23, 9]⟩)) (.ite (lw1_is3 r n n2 r2 s) (.ret (.tup [], ⟨[[.sl (lw1_r_3 r n n2 r2 s) .full], [.int .i64 (lw1_n_3 r n n2 r2 s)], [.int .i64 (lw1_n2_3 r n n2 r2 s)], [.sl (lw1_r2_3 r n n2 r2 s) (.tok 1)], [.str (lw1_s_3 r n n2 r2 s)]], [(2, 0, 1), ((lw1_k_3 r n n2 r2 s), 6, 37)], [23, 3, 24, 23, 9]⟩)) (.fail)))) | _, _ => .fail
theorem sim_lw1 (gl : Gl) (hg : GlLex gl) (hy : ConOk Tryd.prog gl yldKey (.yld 1 fun t a σ => (R_Words t a σ).run)) : SimS Tryd.prog gl 28 fun args σ => (D_lw1 args σ).run := by
  refine SimS.of_flat (G := G_lw1) (L := L_lw1) tbT_ok (gok_lw1 gl hg hy ) noMixed Tryd.func28 rfl (by rfl) (by kernel_rfl) (loopOk_all (L := lps L_lw1) [(1, c_lw11)] (by kernel_rfl) (List.forall_mem_cons.2 ⟨fun fr σ e fr' σ' h => loop_lw11 gl hg hy  fr σ e fr' σ' h, (List.forall_mem_nil _)⟩)) ?_
  intro args σ x h
  unfold D_lw1 at h
  split at h
  · exact (congrArg Tr.run (lw1_T _ _ _ _ _)).trans (ite_isW h fun h => ite_isW h fun h => ite_isW h fun h => ite_isW h fun h => by cases h)
  · cases h
end Go.Pv

set_option maxHeartbeats 4000000
set_option maxRecDepth 200000
set_option linter.unusedSimpArgs false
set_option linter.unusedVariables false
namespace Go.Pv
open Go Go.Proofs Go.RowKit

theorem range_Words (gl : Gl) (hg : GlLex gl) : ∀ fr σ e fr' σ', (rorc I_rWords (rngG rc_Words) 28 D_lw1 fr σ).run = some (e, fr', σ') → Does Tryd.prog gl (rngO rc_Words) fr σ e fr' σ' :=
  rorc_ok (G := ofL []) (L := fun _ _ _ => .fail) tbT_ok (fun _ _ => gamOk_nil) noMixed (fun _ _ => loopOk_none (by kernel_rfl)) (fun _ _ => loopOk_none (by kernel_rfl)) (by kernel_rfl) (by kernel_rfl) (by kernel_rfl)
    ⟨Tryd.f28, Tryd.func28, by rfl, by rfl⟩ (fun gl' hv hy => sim_lw1 gl' (hg.of_v hv) hy)
end Go.Pv

set_option maxHeartbeats 4000000
set_option maxRecDepth 200000
set_option linter.unusedSimpArgs false
set_option linter.unusedVariables false
namespace Go.Pv
open Go Go.Proofs
noncomputable def G_lwords : GamT := ofL []
theorem gok_lwords (gl : Gl) : GamOk Tryd.prog gl (gam G_lwords) := gamOk_nil
noncomputable def L_lwords : LpsT := fun r fr σ => .fail
noncomputable def lwords_Tr (s : List UInt8) : Tr (PV × Store) := Tr.ret (PV.fn 28 [PV.ptr 4 0], Store.mk [[PV.sl [] .full], [PV.int .i64 0], [PV.int .i64 0], [PV.sl [] .full], [PV.str s]] [] [23, 3, 24, 23, 9])
theorem lwords_T (s : List UInt8) : (tcallS tbT G_lwords L_lwords Tryd.f22 [.str s] ⟨[[.sl [] .full], [.int .i64 0], [.int .i64 0], [.sl [] .full]], [], [23, 3, 24, 23]⟩).flat = lwords_Tr s := by kernel_rfl
noncomputable def lwords_W (s : List UInt8) : Option (PV × Store) := (lwords_Tr s).run
noncomputable def lwords_r (s : List UInt8) : List (List PV) := (gRow (gAt (gObj (asOut (lwords_W s)) 0) 0))
noncomputable def lwords_n (s : List UInt8) : Int := (gInt (gAt (gObj (asOut (lwords_W s)) 1) 0))
noncomputable def lwords_n2 (s : List UInt8) : Int := (gInt (gAt (gObj (asOut (lwords_W s)) 2) 0))
noncomputable def lwords_r2 (s : List UInt8) : List (List PV) := (gRow (gAt (gObj (asOut (lwords_W s)) 3) 0))
noncomputable def lwords_s (s : List UInt8) : List UInt8 := (gStr (gAt (gObj (asOut (lwords_W s)) 4) 0))
noncomputable def lwords_is0 (s : List UInt8) : Bool := isW (lwords_W s) (.fn 28 [.ptr 4 0], ⟨[[.sl (lwords_r s) .full], [.int .i64 (lwords_n s)], [.int .i64 (lwords_n2 s)], [.sl (lwords_r2 s) .full], [.str (lwords_s s)]], [], [23, 3, 24, 23, 9]⟩)
noncomputable def D_lwords : List PV → Store → Tr (PV × Store) | [.str s], ⟨[[.sl [] .full], [.int .i64 0], [.int .i64 0], [.sl [] .full]], [], [23, 3, 24, 23]⟩ => .ite (lwords_is0 s) (.ret (.fn 28 [.ptr 4 0], ⟨[[.sl (lwords_r s) .full], [.int .i64 (lwords_n s)], [.int .i64 (lwords_n2 s)], [.sl (lwords_r2 s) .full], [.str (lwords_s s)]], [], [23, 3, 24, 23, 9]⟩)) (.fail) | _, _ => .fail
theorem sim_lwords (gl : Gl) : SimS Tryd.prog gl 22 fun args σ => (D_lwords args σ).run := by
  refine SimS.of_flat (G := G_lwords) (L := L_lwords) tbT_ok (gok_lwords gl ) noMixed Tryd.func22 rfl (by rfl) (by kernel_rfl) (loopOk_none (by kernel_rfl)) ?_
  intro args σ x h
  unfold D_lwords at h
  split at h
  · exact (congrArg Tr.run (lwords_T _)).trans (ite_isW h fun h => by cases h)
  · cases h
noncomputable def G_lWords : GamT := ofL [(22, .store D_lwords), (glKey + 0, .glob twosC)]
theorem gok_lWords (gl : Gl) (hg : GlLex gl) : GamOk Tryd.prog gl (gam G_lWords) := (gamOk_store (sim_lwords gl) (gamOk_con (K := .glob twosC) (con_twos hg) gamOk_nil))
noncomputable def L_lWords : LpsT := fun r fr σ => if r = 500007 then rorc I_rWords (rngG rc_Words) 28 D_lw1 fr σ else .fail
noncomputable def lWords_Tr (s : List UInt8) : Tr PV := Tr.ite (iLt 65536 (sLen s)) (Tr.ret (PV.tup [PV.sl [] .non, PV.int .i64 0, PV.int .i64 2])) (Tr.ite (lwords_is0 s) (Tr.ite (lw1_is0 (lwords_r s) (lwords_n s) (lwords_n2 s) (lwords_r2 s) (lwords_s s)) (Tr.ret (PV.tup [PV.sl (shutLL (dropTLL 0 (lw1_r_0 (lwords_r s) (lwords_n s) (lwords_n2 s) (lwords_r2 s) (lwords_s s)))) .non, PV.int .i64 (lw1_n_0 (lwords_r s) (lwords_n s) (lwords_n2 s) (lwords_r2 s) (lwords_s s)), PV.int .i64 (lw1_n2_0 (lwords_r s) (lwords_n s) (lwords_n2 s) (lwords_r2 s) (lwords_s s))])) (Tr.ite (lw1_is1 (lwords_r s) (lwords_n s) (lwords_n2 s) (lwords_r2 s) (lwords_s s)) (Tr.ret (PV.tup [PV.sl (shutLL (dropTLL 0 (lw1_r2_1 (lwords_r s) (lwords_n s) (lwords_n2 s) (lwords_r2 s) (lwords_s s)))) .non, PV.int .i64 0, PV.int .i64 0])) (Tr.ite (lw1_is2 (lwords_r s) (lwords_n s) (lwords_n2 s) (lwords_r2 s) (lwords_s s)) (Tr.ret (PV.tup [PV.sl (shutLL (dropTLL 0 (lw1_r2_2 (lwords_r s) (lwords_n s) (lwords_n2 s) (lwords_r2 s) (lwords_s s)))) .non, PV.int .i64 0, PV.int .i64 0])) (Tr.ite (lw1_is3 (lwords_r s) (lwords_n s) (lwords_n2 s) (lwords_r2 s) (lwords_s s)) (Tr.ret (PV.tup [PV.sl (shutLL (dropTLL 0 (lw1_r_3 (lwords_r s) (lwords_n s) (lwords_n2 s) (lwords_r2 s) (lwords_s s)))) .non, PV.int .i64 (lw1_n_3 (lwords_r s) (lwords_n s) (lwords_n2 s) (lwords_r2 s) (lwords_s s)), PV.int .i64 (lw1_n2_3 (lwords_r s) (lwords_n s) (lwords_n2 s) (lwords_r2 s) (lwords_s s))])) Tr.fail)))) Tr.fail)
theorem lWords_T (s : List UInt8) : (tcall tbT G_lWords L_lWords Tryd.f10 [.str s]).flat = lWords_Tr s := by kernel_rfl
noncomputable def lWords_W (s : List UInt8) : Option PV := (lWords_Tr s).run
noncomputable def lWords_r (s : List UInt8) : List (List PV) := (gRow (gAt (gCs (gVal (lWords_W s))) 0))
noncomputable def lWords_n (s : List UInt8) : Int := (gInt (gAt (gCs (gVal (lWords_W s))) 1))
noncomputable def lWords_n2 (s : List UInt8) : Int := (gInt (gAt (gCs (gVal (lWords_W s))) 2))
noncomputable def lWords_is0 (s : List UInt8) : Bool := isW (lWords_W s) (.tup [.sl (lWords_r s) .non, .int .i64 (lWords_n s), .int .i64 (lWords_n2 s)])
noncomputable def F_lWords : List PV → Tr PV | [.str s] => .ite (lWords_is0 s) (.ret (.tup [.sl (lWords_r s) .non, .int .i64 (lWords_n s), .int .i64 (lWords_n2 s)])) (.fail) | _ => .fail
theorem sim_lWords (gl : Gl) (hg : GlLex gl) : SimP Tryd.prog gl 10 fun args => (F_lWords args).run := by
  refine SimP.of_flat (G := G_lWords) (L := L_lWords) tbT_ok (gok_lWords gl hg ) noMixed Tryd.func10 rfl (by rfl) (by kernel_rfl) (loopOk_ranges (L := lps L_lWords) [] [(500007, rngO rc_Words)] (by kernel_rfl) (by kernel_rfl) (List.forall_mem_nil _) (List.forall_mem_cons.2 ⟨fun fr σ e fr' σ' h => range_Words gl hg fr σ e fr' σ' h, (List.forall_mem_nil _)⟩)) ?_
  intro args x h
  unfold F_lWords at h
  split at h
  · exact (congrArg Tr.run (lWords_T _)).trans (ite_isW h fun h => by cases h)
  · cases h
end Go.Pv

set_option maxHeartbeats 8000000
set_option maxRecDepth 200000
set_option linter.unusedSimpArgs false
set_option linter.unusedVariables false
namespace Go.Pv
open Go Go.Proofs Go.RowKit

/-- The word with which a text begins. -/
theorem lword_law {s : List UInt8} (hs : s.length ≤ 140737488355328) (hne : s ≠ []) : ∃ k x v, lword_W s = some (wTup k x v 0 (wdL s).isSome) ∧ ∀ k' m v', wdL s = some (k', m, v') → k' = k ∧ x = s.take m ∧ v' = v := by
  obtain ⟨c, t, rfl⟩ := List.exists_cons_of_ne_nil hne
  have val : ∀ (k : Int) (n : Nat), (valL k (c :: t) n).isSome = decide (eRd ((c :: t).take n) = 0) ∧ ∀ k' m v', valL k (c :: t) n = some (k', m, v') → k' = k ∧ (c :: t).take n = (c :: t).take m ∧ v' = (kRd ((c :: t).take n), nRd ((c :: t).take n), sRd ((c :: t).take n)) := fun k n => by
    unfold valL eRd kRd nRd sRd
    cases h : rdV ((c :: t).take n) with
    | none => simp
    | some v =>
      refine ⟨by simp, fun k' m v' he => ?_⟩
      cases he
      exact ⟨rfl, rfl, rfl⟩
  by_cases h1 : isSmB c = true
  · have e : runL innB (c :: t) = runL innB t + 1 := by simp [runL, innB, h1]
    refine ⟨1, (c :: t).take (runL innB t + 1), (0, 0, []), ?_, fun k' m v' he => ?_⟩
    · rw [lword_small hs h1, e]
      congr 2
      simp only [wdL, h1, if_true]
      by_cases hl : runL innB t + 1 ≤ 64 <;> simp [hl]
    · simp only [wdL, h1, if_true] at he
      split at he
      · cases he; exact ⟨rfl, rfl, rfl⟩
      · cases he
  · have h1' : isSmB c = false := by simpa using h1
    by_cases h2 : isGrB c = true
    · have e : runL innB (c :: t) = runL innB t + 1 := by simp [runL, innB, h2]
      refine ⟨2, (c :: t).take (runL innB t + 1), (0, 0, []), ?_, fun k' m v' he => ?_⟩
      · rw [lword_great hs h2, e]
        congr 2
        simp only [wdL, h1', h2, if_true, Bool.false_eq_true, if_false]
        by_cases hl : runL innB t + 1 ≤ 64 <;> simp [hl]
      · simp only [wdL, h1', h2, if_true, Bool.false_eq_true, if_false] at he
        split at he
        · cases he; exact ⟨rfl, rfl, rfl⟩
        · cases he
    · have h2' : isGrB c = false := by simpa using h2
      by_cases h3 : c.toNat = 95
      · have hc : c = 95 := UInt8.toNat_inj.1 h3
        refine ⟨3, [95], (0, 0, []), ?_, fun k' m v' he => ?_⟩
        · rw [lword_any hs h3]
          congr 2
          simp only [wdL, h1', h2', h3, if_true, Bool.false_eq_true, if_false]
          cases hdIs innB t <;> simp
        · simp only [wdL, h1', h2', h3, if_true, Bool.false_eq_true, if_false] at he
          split at he
          · cases he
          · cases he; exact ⟨rfl, by rw [hc]; simp, rfl⟩
      · have dg : lword_W (c :: t) = some (dgW (c :: t)) → (isDgB c || (decide (c.toNat = 45) && hdIs isDgB t)) = true → ∃ k x v, lword_W (c :: t) = some (wTup k x v 0 (wdL (c :: t)).isSome) ∧ ∀ k' m v', wdL (c :: t) = some (k', m, v') → k' = k ∧ x = (c :: t).take m ∧ v' = v := fun hw hd => by
          have e : wdL (c :: t) = valL 4 (c :: t) (runL isDgB t + 1) := by simp only [wdL, h1', h2', h3, hd, if_true, Bool.false_eq_true, if_false]
          obtain ⟨v1, v2⟩ := val 4 (runL isDgB t + 1)
          refine ⟨4, (c :: t).take (runL isDgB t + 1), (kRd ((c :: t).take (runL isDgB t + 1)), nRd ((c :: t).take (runL isDgB t + 1)), sRd ((c :: t).take (runL isDgB t + 1))), ?_, fun k' m v' he => v2 k' m v' (by rw [← e]; exact he)⟩
          rw [hw, e, v1]
          rfl
        by_cases h4 : isDgB c = true
        · exact dg (lword_dg hs h4) (by simp [h4])
        · have h4' : isDgB c = false := by simpa using h4
          by_cases h5 : c.toNat = 45 ∧ hdIs isDgB t = true
          · cases t with
            | nil => simp [hdIs] at h5
            | cons d u => exact dg (lword_neg hs h5.1 h5.2) (by simp [h5.1, h5.2])
          · have h5' : (isDgB c || (decide (c.toNat = 45) && hdIs isDgB t)) = false := by
              rw [h4']
              by_cases hc : c.toNat = 45
              · have : hdIs isDgB t = false := by
                  cases hh : hdIs isDgB t with
                  | false => rfl
                  | true => exact absurd ⟨hc, hh⟩ h5
                simp [this]
              · simp [hc]
            by_cases h6 : c.toNat = 34
            · have e : wdL (c :: t) = if quoL t = 0 then none else valL 5 (c :: t) (quoL t + 1) := by
                show (if isSmB c = true then _ else _) = _
                rw [if_neg h1, if_neg h2, if_neg h3, if_neg (by rw [h5']; simp), if_pos h6]
              obtain ⟨v1, v2⟩ := val 5 (symN t)
              refine ⟨5, (c :: t).take (symN t), (kRd ((c :: t).take (symN t)), nRd ((c :: t).take (symN t)), sRd ((c :: t).take (symN t))), ?_, fun k' m v' he => ?_⟩
              · rw [lword_sym hs h6, e]
                by_cases hq : quoL t = 0
                · rw [if_pos hq]
                  unfold syW symN
                  rw [if_pos hq]
                  have : eRd [] = 10 := by decide
                  simp [this, wTup]
                · rw [if_neg hq]
                  unfold symN at v1 ⊢
                  rw [if_neg hq] at v1 ⊢
                  rw [v1]
                  rfl
              · rw [e] at he
                by_cases hq : quoL t = 0
                · rw [if_pos hq] at he; cases he
                · rw [if_neg hq] at he
                  refine v2 k' m v' ?_
                  unfold symN
                  rw [if_neg hq]
                  exact he
            · have e : wdL (c :: t) = if markL c t = 0 then none else some (6, markL c t, 0, 0, []) := by
                show (if isSmB c = true then _ else _) = _
                rw [if_neg h1, if_neg h2, if_neg h3, if_neg (by rw [h5']; simp), if_neg h6]
              have hm := lword_mark hs h1' h2' h3 h4' (fun hc => by
                cases hh : hdIs isDgB t with
                | false => rfl
                | true => exact absurd ⟨hc, hh⟩ h5) h6
              unfold mkW at hm
              cases ht : hdIs (twoB c) t with
              | true =>
                rw [ht, if_pos rfl] at hm
                have em : markL c t = 2 := by simp [markL, ht]
                refine ⟨6, (c :: t).take 2, (0, 0, []), ?_, fun k' m v' he => ?_⟩
                · rw [hm, e, em]; rfl
                · rw [e, em] at he
                  cases he
                  exact ⟨rfl, rfl, rfl⟩
              | false =>
                rw [ht, if_neg (by simp)] at hm
                refine ⟨6, [c], (0, 0, []), ?_, fun k' m v' he => ?_⟩
                · rw [hm, e]
                  congr 2
                  unfold markL
                  rw [ht]
                  cases onesB c <;> simp
                · rw [e] at he
                  split at he
                  · cases he
                  · rename_i hn
                    have em : markL c t = 1 := by
                      unfold markL at hn ⊢
                      rw [ht] at hn ⊢
                      cases ho : onesB c with
                      | true => simp
                      | false => simp [ho] at hn
                    rw [em] at he
                    cases he
                    exact ⟨rfl, by simp, rfl⟩

/-! ### the words of a text -/
def wdT : List TypeId := [23, 3, 24, 23, 9]
def lst (s : List UInt8) (st : Nat) (n n2 : Int) : List Wd → Store
  | [] => ⟨[[.sl [] .full], [.int .i64 n], [.int .i64 n2], [.sl [] .full], [.str s]], [(st, 0, 1)], wdT⟩
  | a :: l => ⟨[[.sl [] .full], [.int .i64 n], [.int .i64 n2], [.sl (rOf cW (a :: l)) (.tok 1)], [.str s]], [(st, 0, 1), ((a :: l).length, 6, 37)], wdT⟩
theorem lst_snoc (s : List UInt8) (st : Nat) (n n2 : Int) (l : List Wd) (a : Wd) : lst s st n n2 (l ++ [a]) = ⟨[[.sl [] .full], [.int .i64 n], [.int .i64 n2], [.sl (rOf cW (l ++ [a])) (.tok 1)], [.str s]], [(st, 0, 1), ((l ++ [a]).length, 6, 37)], wdT⟩ := by
  cases l <;> rfl
def wEnd (s : List UInt8) (acc : List Wd) : List Wd × Option Nat → Option (PExit × List PV × Store)
  | (l, none) => some (.exit 0, [], lst s 0 0 0 (acc ++ l))
  | (l, some p) => some (.ret, [], lst s 2 (p : Nat) 120 (acc ++ l))
theorem lexL_nil (f i : Nat) : lexL f i [] = ([], none) := by cases f <;> rfl
theorem lw_loop (s : List UInt8) (hs : s.length ≤ 70000) : ∀ (f i : Nat) (acc : List Wd), i ≤ s.length → s.length < i + f → acc.length ≤ i → lw11_V [.yld 0, .ptr 4 0, .int .i64 (i : Nat)] (lst s 0 0 0 acc) = wEnd s acc (lexL f i (s.drop i)) := by
  intro f
  induction f with
  | zero => intro i acc h1 h2 _; omega
  | succ f ih =>
    intro i acc h1 h2 h3
    by_cases hlt : i < s.length
    · have hS : sSub s (nNat (i : Int)) (nLen s) = s.drop i := by simp
      have hne : s.drop i ≠ [] := by
        intro h
        have := congrArg List.length h
        simp at this
        omega
      have hSl : (s.drop i).length ≤ 140737488355328 := by simp; omega
      obtain ⟨k, x, v, hw, hw2⟩ := lword_law hSl hne
      have a0 : lword_is0 (s.drop i) = true := by simp [lword_is0, lword_n, lword_s, lword_n2, lword_n3, lword_s2, lword_n4, lword_b, hw, wTup]
      have a1 : lword_n (s.drop i) = k := by simp [lword_n, hw, wTup]
      have a2 : lword_s (s.drop i) = x := by simp [lword_s, hw, wTup]
      have a3 : lword_n2 (s.drop i) = v.1 := by simp [lword_n2, hw, wTup]
      have a4 : lword_n3 (s.drop i) = v.2.1 := by simp [lword_n3, hw, wTup]
      have a5 : lword_s2 (s.drop i) = v.2.2 := by simp [lword_s2, hw, wTup]
      have a6 : lword_b (s.drop i) = (wdL (s.drop i)).isSome := by simp [lword_b, hw, wTup]
      have t1 : iLt (i : Int) (sLen s) = true := by simp; omega
      have t2 : okSub (okPos (i : Int)) true (nNat (i : Int)) (nLen s) (nLen s) = true := by simp; omega
      have eL : lexL (f + 1) i (s.drop i) = match wdL (s.drop i) with
          | none => ([], some i)
          | some (k, m, v) =>
            ((k, (s.drop i).take m, v, (i : Int)) :: (lexL f (i + m + gapL false ((s.drop i).drop m)) ((s.drop i).drop (m + gapL false ((s.drop i).drop m)))).1, (lexL f (i + m + gapL false ((s.drop i).drop m)) ((s.drop i).drop (m + gapL false ((s.drop i).drop m)))).2) := by
        obtain ⟨c, t, hct⟩ := List.exists_cons_of_ne_nil hne
        rw [hct]
        rfl
      rw [eL]
      cases hwd : wdL (s.drop i) with
      | none =>
        rw [hwd] at a6
        cases acc with
        | nil =>
          show lw11_V _ ⟨_, _, _⟩ = _
          simp only [wdT]
          rw [lw11_E]
          simp only [lw11_Tr, hS, a0, a1, a2, a3, a4, a5, a6, t1, t2]
          simp [wEnd, lst, wdT]
        | cons a l =>
          show lw11_V _ ⟨_, _, _⟩ = _
          simp only [wdT]
          rw [lw11_E2]
          simp only [lw11_Tr2, hS, a0, a1, a2, a3, a4, a5, a6, t1, t2]
          simp [wEnd, lst, wdT]
      | some r =>
        obtain ⟨k', m, v'⟩ := r
        obtain ⟨rfl, rfl, rfl⟩ := hw2 k' m v' hwd
        rw [hwd] at a6
        obtain ⟨m1, m2⟩ := wdL_len hwd
        have hx : ((s.drop i).take m).length = m := by rw [List.length_take]; omega
        have m3 : i + m ≤ s.length := by simp at m2; omega
        have e1 : iAdd .i64 (i : Int) (sLen ((s.drop i).take m)) = ((i + m : Nat) : Int) := by
          rw [sLen_eq, hx]
          exact wrap_i64 (by omega)
        have hS2 : sSub s (nNat ((i + m : Nat) : Int)) (nLen s) = s.drop (i + m) := by simp only [sSub_eq, nNat_eq, nLen_eq, Int.toNat_natCast, List.take_length]
        have t3 : okSub (okPos ((i + m : Nat) : Int)) true (nNat ((i + m : Nat) : Int)) (nLen s) (nLen s) = true := by simp; omega
        have g1 : lgap_is0 (s.drop (i + m)) = true := lgap_is (by simp; omega)
        have g2 : lgap_n (s.drop (i + m)) = (gapL false (s.drop (i + m)) : Nat) := lgap_v (by simp; omega)
        have g3 := gapL_le false (s.drop (i + m))
        have e2 : iAdd .i64 ((i + m : Nat) : Int) ((gapL false (s.drop (i + m)) : Nat) : Int) = ((i + m + gapL false (s.drop (i + m)) : Nat) : Int) := wrap_i64 (by simp at g3; omega)
        have hd1 : (s.drop i).drop m = s.drop (i + m) := by rw [List.drop_drop]
        have hd2 : (s.drop i).drop (m + gapL false (s.drop (i + m))) = s.drop (i + m + gapL false (s.drop (i + m))) := by rw [List.drop_drop]; congr 1; omega
        simp only [hd1, hd2]
        have hih := ih (i + m + gapL false (s.drop (i + m))) (acc ++ [(k', (s.drop i).take m, v', (i : Int))]) (by simp at g3; omega) (by omega) (by simp; omega)
        have hfin : wEnd s (acc ++ [(k', (s.drop i).take m, v', (i : Int))]) (lexL f (i + m + gapL false (s.drop (i + m))) (s.drop (i + m + gapL false (s.drop (i + m))))) = wEnd s acc ((k', (s.drop i).take m, v', (i : Int)) :: (lexL f (i + m + gapL false (s.drop (i + m))) (s.drop (i + m + gapL false (s.drop (i + m))))).1, (lexL f (i + m + gapL false (s.drop (i + m))) (s.drop (i + m + gapL false (s.drop (i + m))))).2) := by
          cases hr : lexL f (i + m + gapL false (s.drop (i + m))) (s.drop (i + m + gapL false (s.drop (i + m)))) with
          | mk l o => cases o <;> simp [wEnd]
        rw [← hfin, ← hih, lst_snoc]
        cases acc with
        | nil =>
          show lw11_V _ ⟨_, _, _⟩ = _
          simp only [wdT]
          rw [lw11_E]
          have o1 : okGrow [] [[PV.int .i64 k', .str ((s.drop i).take m), .int .i64 v'.1, .int .i64 v'.2.1, .str v'.2.2, .int .i64 (i : Int)]] 64 = true := by simp
          have o2 : okNews [[PV.int .i64 k', .str ((s.drop i).take m), .int .i64 v'.1, .int .i64 v'.2.1, .str v'.2.2, .int .i64 (i : Int)]] 6 = true := by simp [one]
          simp only [lw11_Tr, hS, a0, a1, a2, a3, a4, a5, a6, t1, t2, e1, hS2, t3, g1, g2, e2, o1, o2]
          simp [one_cW, cons_cW]
        | cons a l =>
          show lw11_V _ ⟨_, _, _⟩ = _
          simp only [wdT]
          rw [lw11_E2]
          have o1 : okGrow (rOf cW (a :: l)) [[PV.int .i64 k', .str ((s.drop i).take m), .int .i64 v'.1, .int .i64 v'.2.1, .str v'.2.2, .int .i64 (i : Int)]] 64 = true := by
            simp only [List.length_cons] at h3
            simp
            omega
          have o2 : okNews [[PV.int .i64 k', .str ((s.drop i).take m), .int .i64 v'.1, .int .i64 v'.2.1, .str v'.2.2, .int .i64 (i : Int)]] 6 = true := by simp [one]
          simp only [lw11_Tr2, hS, a0, a1, a2, a3, a4, a5, a6, t1, t2, e1, hS2, t3, g1, g2, e2, o1, o2]
          simp [snoc_cW]
    · have : i = s.length := by omega
      subst this
      rw [List.drop_eq_nil_of_le (Nat.le_refl _), lexL_nil]
      have t1 : iLt (s.length : Int) (sLen s) = false := by simp
      cases acc with
      | nil =>
        show lw11_V _ ⟨_, _, _⟩ = _
        simp only [wdT]
        rw [lw11_E]
        simp only [lw11_Tr, t1]
        simp [wEnd, lst, wdT]
      | cons a l =>
        show lw11_V _ ⟨_, _, _⟩ = _
        simp only [wdT]
        rw [lw11_E2]
        simp only [lw11_Tr2, t1]
        simp [wEnd, lst, wdT]
def w1End (s : List UInt8) : List Wd × Option Nat → Option (PV × Store)
  | (l, none) => some (.tup [], lst s 0 0 0 l)
  | (l, some p) => some (.tup [], lst s 2 (p : Nat) 120 l)
theorem lw1_law {s : List UInt8} (hs : s.length ≤ 70000) : lw1_W [] 0 0 [] s = w1End s (wordsL s) := by
  have hg := gapL_le false s
  have h := lw_loop s hs (s.length + 1) (gapL false s) [] hg (by omega) (by simp)
  rw [show lexL (s.length + 1) (gapL false s) (s.drop (gapL false s)) = wordsL s from rfl] at h
  unfold lw1_W lw1_Tr
  rw [lgap_is (by omega), lgap_v (by omega)]
  generalize wordsL s = r at h ⊢
  simp only [lst, wdT] at h
  generalize ((gapL false s : Nat) : Int) = g at h ⊢
  obtain ⟨l, o⟩ := r
  cases o with
  | none =>
    cases l with
    | nil =>
      simp only [wEnd, lst, wdT, List.append_nil, List.nil_append] at h
      simp only [lw11_is0, lw11_is1, lw11_is2, lw11_is3, lw11_is4, lw11_is5, lw11_is6, lw11_k_1, lw11_k_4, lw11_k_5, lw11_k_6, lw11_n2_0, lw11_n2_1, lw11_n2_2, lw11_n2_3, lw11_n2_4, lw11_n2_5, lw11_n2_6, lw11_n_0, lw11_n_1, lw11_n_2, lw11_n_3, lw11_n_4, lw11_n_5, lw11_n_6, lw11_r2_0, lw11_r2_1, lw11_r2_2, lw11_r2_3, lw11_r2_4, lw11_r2_5, lw11_r2_6, lw11_r_0, lw11_r_1, lw11_r_2, lw11_r_3, lw11_r_4, lw11_r_5, lw11_r_6, lw11_s_0, lw11_s_1, lw11_s_2, lw11_s_3, lw11_s_4, lw11_s_5, lw11_s_6, lw11_W, h]
      simp [-one_cS, w1End, lst, wdT]
    | cons a l =>
      simp only [wEnd, lst, wdT, List.nil_append] at h
      simp only [lw11_is0, lw11_is1, lw11_is2, lw11_is3, lw11_is4, lw11_is5, lw11_is6, lw11_k_1, lw11_k_4, lw11_k_5, lw11_k_6, lw11_n2_0, lw11_n2_1, lw11_n2_2, lw11_n2_3, lw11_n2_4, lw11_n2_5, lw11_n2_6, lw11_n_0, lw11_n_1, lw11_n_2, lw11_n_3, lw11_n_4, lw11_n_5, lw11_n_6, lw11_r2_0, lw11_r2_1, lw11_r2_2, lw11_r2_3, lw11_r2_4, lw11_r2_5, lw11_r2_6, lw11_r_0, lw11_r_1, lw11_r_2, lw11_r_3, lw11_r_4, lw11_r_5, lw11_r_6, lw11_s_0, lw11_s_1, lw11_s_2, lw11_s_3, lw11_s_4, lw11_s_5, lw11_s_6, lw11_W, h]
      simp [-one_cS, w1End, lst, wdT]
  | some p =>
    cases l with
    | nil =>
      simp only [wEnd, lst, wdT, List.append_nil, List.nil_append] at h
      simp only [lw11_is0, lw11_is1, lw11_is2, lw11_is3, lw11_is4, lw11_is5, lw11_is6, lw11_k_1, lw11_k_4, lw11_k_5, lw11_k_6, lw11_n2_0, lw11_n2_1, lw11_n2_2, lw11_n2_3, lw11_n2_4, lw11_n2_5, lw11_n2_6, lw11_n_0, lw11_n_1, lw11_n_2, lw11_n_3, lw11_n_4, lw11_n_5, lw11_n_6, lw11_r2_0, lw11_r2_1, lw11_r2_2, lw11_r2_3, lw11_r2_4, lw11_r2_5, lw11_r2_6, lw11_r_0, lw11_r_1, lw11_r_2, lw11_r_3, lw11_r_4, lw11_r_5, lw11_r_6, lw11_s_0, lw11_s_1, lw11_s_2, lw11_s_3, lw11_s_4, lw11_s_5, lw11_s_6, lw11_W, h]
      simp [-one_cS, w1End, lst, wdT]
    | cons a l =>
      simp only [wEnd, lst, wdT, List.nil_append] at h
      simp only [lw11_is0, lw11_is1, lw11_is2, lw11_is3, lw11_is4, lw11_is5, lw11_is6, lw11_k_1, lw11_k_4, lw11_k_5, lw11_k_6, lw11_n2_0, lw11_n2_1, lw11_n2_2, lw11_n2_3, lw11_n2_4, lw11_n2_5, lw11_n2_6, lw11_n_0, lw11_n_1, lw11_n_2, lw11_n_3, lw11_n_4, lw11_n_5, lw11_n_6, lw11_r2_0, lw11_r2_1, lw11_r2_2, lw11_r2_3, lw11_r2_4, lw11_r2_5, lw11_r2_6, lw11_r_0, lw11_r_1, lw11_r_2, lw11_r_3, lw11_r_4, lw11_r_5, lw11_r_6, lw11_s_0, lw11_s_1, lw11_s_2, lw11_s_3, lw11_s_4, lw11_s_5, lw11_s_6, lw11_W, h]
      simp [-one_cS, w1End, lst, wdT]
def wOut : List Wd × Option Nat → PV
  | (l, none) => .tup [.sl (rOf cW l) .non, .int .i64 0, .int .i64 0]
  | (_, some p) => .tup [.sl [] .non, .int .i64 (p : Nat), .int .i64 120]
theorem lWords_law {s : List UInt8} (hs : s.length ≤ 70000) : lWords_W s = some (if 65536 < s.length then .tup [.sl [] .non, .int .i64 0, .int .i64 2] else wOut (wordsL s)) := by
  have h := lw1_law hs
  unfold lWords_W lWords_Tr
  have b : lwords_W s = some (.fn 28 [.ptr 4 0], ⟨[[.sl [] .full], [.int .i64 0], [.int .i64 0], [.sl [] .full], [.str s]], [], wdT⟩) := by simp [-one_cS, lwords_W, lwords_Tr, wdT]
  have b0 : lwords_is0 s = true := by
    simp only [lwords_is0, lwords_n, lwords_n2, lwords_r, lwords_r2, lwords_s, b, wdT]
    simp [-one_cS]
  have b1 : lwords_n s = 0 := by simp only [lwords_n, b]; simp [-one_cS]
  have b2 : lwords_n2 s = 0 := by simp only [lwords_n2, b]; simp [-one_cS]
  have b3 : lwords_r s = [] := by simp only [lwords_r, b]; simp [-one_cS]
  have b4 : lwords_r2 s = [] := by simp only [lwords_r2, b]; simp [-one_cS]
  have b5 : lwords_s s = s := by simp only [lwords_s, b]; simp [-one_cS]
  rw [b0, b1, b2, b3, b4, b5]
  by_cases hl : 65536 < s.length
  · have : iLt 65536 (sLen s) = true := by simp; omega
    rw [this, if_pos hl]
    rfl
  · have : iLt 65536 (sLen s) = false := by simp; omega
    rw [this, if_neg hl]
    generalize wordsL s = r at h ⊢
    obtain ⟨l, o⟩ := r
    cases o with
    | none =>
      cases l with
      | nil =>
        simp only [w1End, lst, wdT] at h
        simp only [lw1_is0, lw1_is1, lw1_is2, lw1_is3, lw1_k_1, lw1_k_3, lw1_n2_0, lw1_n2_1, lw1_n2_2, lw1_n2_3, lw1_n_0, lw1_n_1, lw1_n_2, lw1_n_3, lw1_r2_0, lw1_r2_1, lw1_r2_2, lw1_r2_3, lw1_r_0, lw1_r_1, lw1_r_2, lw1_r_3, lw1_s_0, lw1_s_1, lw1_s_2, lw1_s_3, h]
        simp [-one_cS, wOut]
      | cons a l =>
        simp only [w1End, lst, wdT] at h
        simp only [lw1_is0, lw1_is1, lw1_is2, lw1_is3, lw1_k_1, lw1_k_3, lw1_n2_0, lw1_n2_1, lw1_n2_2, lw1_n2_3, lw1_n_0, lw1_n_1, lw1_n_2, lw1_n_3, lw1_r2_0, lw1_r2_1, lw1_r2_2, lw1_r2_3, lw1_r_0, lw1_r_1, lw1_r_2, lw1_r_3, lw1_s_0, lw1_s_1, lw1_s_2, lw1_s_3, h]
        simp [-one_cS, wOut]
    | some p =>
      cases l with
      | nil =>
        simp only [w1End, lst, wdT] at h
        simp only [lw1_is0, lw1_is1, lw1_is2, lw1_is3, lw1_k_1, lw1_k_3, lw1_n2_0, lw1_n2_1, lw1_n2_2, lw1_n2_3, lw1_n_0, lw1_n_1, lw1_n_2, lw1_n_3, lw1_r2_0, lw1_r2_1, lw1_r2_2, lw1_r2_3, lw1_r_0, lw1_r_1, lw1_r_2, lw1_r_3, lw1_s_0, lw1_s_1, lw1_s_2, lw1_s_3, h]
        simp [-one_cS, wOut]
      | cons a l =>
        simp only [w1End, lst, wdT] at h
        simp only [lw1_is0, lw1_is1, lw1_is2, lw1_is3, lw1_k_1, lw1_k_3, lw1_n2_0, lw1_n2_1, lw1_n2_2, lw1_n2_3, lw1_n_0, lw1_n_1, lw1_n_2, lw1_n_3, lw1_r2_0, lw1_r2_1, lw1_r2_2, lw1_r2_3, lw1_r_0, lw1_r_1, lw1_r_2, lw1_r_3, lw1_s_0, lw1_s_1, lw1_s_2, lw1_s_3, h]
        simp [-one_cS, wOut]
/-- lex.Words. -/
noncomputable def F_Words : List PV → Tr PV
  | [.str s] => Tr.chk (iLe (sLen s) 70000) (.ite (iLt 65536 (sLen s)) (.ret (.tup [.sl [] .non, .int .i64 0, .int .i64 2])) (.ret (wOut (wordsL s))))
  | _ => .fail
end Go.Pv

set_option maxHeartbeats 8000000
set_option maxRecDepth 200000
set_option linter.unusedSimpArgs false
set_option linter.unusedVariables false
namespace Go.Pv
open Go Go.Proofs Go.RowKit

def rEnd (acc : List Wd) : List Wd × Option Nat → Option (PExit × List PV × Store)
  | (l, none) => some (.exit 0, [.sl (rOf cW (acc ++ l)) (aT (acc ++ l))], aS 6 37 (acc ++ l))
  | (l, some p) => some (.ret, [.sl [] .full, .int .i64 (p : Nat), .int .i64 120], aS 6 37 (acc ++ l))
theorem rw_loop (s : List UInt8) (hs : s.length ≤ 70000) : ∀ (f i : Nat) (acc : List Wd), i ≤ s.length → s.length < i + f → acc.length ≤ i → rWords1_V [.str s, .sl (rOf cW acc) (aT acc), .int .i64 (i : Nat)] (aS 6 37 acc) = rEnd acc (lexL f i (s.drop i)) := by
  intro f
  induction f with
  | zero => intro i acc h1 h2 _; omega
  | succ f ih =>
    intro i acc h1 h2 h3
    by_cases hlt : i < s.length
    · have hne : s.drop i ≠ [] := by
        intro h
        have := congrArg List.length h
        simp at this
        omega
      obtain ⟨c, t, hct⟩ := List.exists_cons_of_ne_nil hne
      have hw := rword_law (v := s) (by omega) hct
      rw [← hct] at hw
      have t1 : iLt (i : Int) (sLen s) = true := by simp; omega
      have eL : lexL (f + 1) i (s.drop i) = match wdL (s.drop i) with
          | none => ([], some i)
          | some (k, m, v) =>
            ((k, (s.drop i).take m, v, (i : Int)) :: (lexL f (i + m + gapL false ((s.drop i).drop m)) ((s.drop i).drop (m + gapL false ((s.drop i).drop m)))).1, (lexL f (i + m + gapL false ((s.drop i).drop m)) ((s.drop i).drop (m + gapL false ((s.drop i).drop m)))).2) := by
        rw [hct]
        rfl
      rw [eL]
      cases hwd : wdL (s.drop i) with
      | none =>
        rw [hwd] at hw
        simp only [rOut, wTup] at hw
        have a0 : rword_is0 s (i : Int) = true := by simp only [rword_is0, rword_n, rword_s, rword_n2, rword_n3, rword_s2, rword_n4, rword_b, hw]; simp
        have a6 : rword_b s (i : Int) = false := by simp only [rword_b, hw]; simp
        cases acc with
        | nil =>
          show rWords1_V [_, .sl [] .full, _] ⟨[], [], []⟩ = _
          rw [rWords1_E]
          simp only [rWords1_Tr, t1, a0, a6]
          simp [rEnd]
        | cons a l =>
          show rWords1_V [_, .sl (rOf cW (a :: l)) (.tok 0), _] ⟨[], [((a :: l).length, 6, 37)], []⟩ = _
          rw [rWords1_E1]
          simp only [rWords1_Tr1, t1, a0, a6]
          simp [rEnd, aS]
      | some r =>
        obtain ⟨k, m, v⟩ := r
        rw [hwd] at hw
        simp only [rOut, wTup] at hw
        have a0 : rword_is0 s (i : Int) = true := by simp only [rword_is0, rword_n, rword_s, rword_n2, rword_n3, rword_s2, rword_n4, rword_b, hw]; simp
        have a1 : rword_n s (i : Int) = k := by simp only [rword_n, hw]; simp
        have a2 : rword_s s (i : Int) = (s.drop i).take m := by simp only [rword_s, hw]; simp
        have a3 : rword_n2 s (i : Int) = v.1 := by simp only [rword_n2, hw]; simp
        have a4 : rword_n3 s (i : Int) = v.2.1 := by simp only [rword_n3, hw]; simp
        have a5 : rword_s2 s (i : Int) = v.2.2 := by simp only [rword_s2, hw]; simp
        have a7 : rword_n4 s (i : Int) = (i : Int) := by simp only [rword_n4, hw]; simp
        have a6 : rword_b s (i : Int) = true := by simp only [rword_b, hw]; simp
        obtain ⟨m1, m2⟩ := wdL_len hwd
        have hx : ((s.drop i).take m).length = m := by rw [List.length_take]; omega
        have m3 : i + m ≤ s.length := by simp at m2; omega
        have e1 : iAdd .i64 (i : Int) (sLen ((s.drop i).take m)) = ((i + m : Nat) : Int) := by
          rw [sLen_eq, hx]
          exact wrap_i64 (by omega)
        have g1 : rgap_is0 s ((i + m : Nat) : Int) = true := rgap_is (by omega) m3
        have g2 : rgap_n s ((i + m : Nat) : Int) = ((i + m + gapL false (s.drop (i + m)) : Nat) : Int) := rgap_v (by omega) m3
        have g3 := gapL_le false (s.drop (i + m))
        have hd1 : (s.drop i).drop m = s.drop (i + m) := by rw [List.drop_drop]
        have hd2 : (s.drop i).drop (m + gapL false (s.drop (i + m))) = s.drop (i + m + gapL false (s.drop (i + m))) := by rw [List.drop_drop]; congr 1; omega
        simp only [hd1, hd2]
        have hih := ih (i + m + gapL false (s.drop (i + m))) (acc ++ [(k, (s.drop i).take m, v, (i : Int))]) (by simp at g3; omega) (by omega) (by simp; omega)
        have hfin : rEnd (acc ++ [(k, (s.drop i).take m, v, (i : Int))]) (lexL f (i + m + gapL false (s.drop (i + m))) (s.drop (i + m + gapL false (s.drop (i + m))))) = rEnd acc ((k, (s.drop i).take m, v, (i : Int)) :: (lexL f (i + m + gapL false (s.drop (i + m))) (s.drop (i + m + gapL false (s.drop (i + m))))).1, (lexL f (i + m + gapL false (s.drop (i + m))) (s.drop (i + m + gapL false (s.drop (i + m))))).2) := by
          cases hr : lexL f (i + m + gapL false (s.drop (i + m))) (s.drop (i + m + gapL false (s.drop (i + m)))) with
          | mk l o => cases o <;> simp [rEnd]
        rw [← hfin, ← hih, aT_snoc, aS_snoc]
        have o2 : okNews [[PV.int .i64 k, .str ((s.drop i).take m), .int .i64 v.1, .int .i64 v.2.1, .str v.2.2, .int .i64 (i : Int)]] 6 = true := by simp [one]
        cases acc with
        | nil =>
          show rWords1_V [_, .sl [] .full, _] ⟨[], [], []⟩ = _
          rw [rWords1_E]
          have o1 : okGrow [] [[PV.int .i64 k, .str ((s.drop i).take m), .int .i64 v.1, .int .i64 v.2.1, .str v.2.2, .int .i64 (i : Int)]] 64 = true := by simp
          simp only [rWords1_Tr, t1, a0, a1, a2, a3, a4, a5, a6, a7, e1, g1, g2, o1, o2]
          simp [one_cW, cons_cW]
        | cons a l =>
          show rWords1_V [_, .sl (rOf cW (a :: l)) (.tok 0), _] ⟨[], [((a :: l).length, 6, 37)], []⟩ = _
          rw [rWords1_E1]
          have o1 : okGrow (rOf cW (a :: l)) [[PV.int .i64 k, .str ((s.drop i).take m), .int .i64 v.1, .int .i64 v.2.1, .str v.2.2, .int .i64 (i : Int)]] 64 = true := by
            simp only [List.length_cons] at h3
            simp
            omega
          simp only [rWords1_Tr1, t1, a0, a1, a2, a3, a4, a5, a6, a7, e1, g1, g2, o1, o2]
          simp [snoc_cW]
    · have : i = s.length := by omega
      subst this
      rw [List.drop_eq_nil_of_le (Nat.le_refl _), lexL_nil]
      have t1 : iLt (s.length : Int) (sLen s) = false := by simp
      cases acc with
      | nil =>
        show rWords1_V [_, .sl [] .full, _] ⟨[], [], []⟩ = _
        rw [rWords1_E]
        simp only [rWords1_Tr, t1]
        simp [rEnd]
      | cons a l =>
        show rWords1_V [_, .sl (rOf cW (a :: l)) (.tok 0), _] ⟨[], [((a :: l).length, 6, 37)], []⟩ = _
        rw [rWords1_E1]
        simp only [rWords1_Tr1, t1]
        simp [rEnd, aT, aS]
theorem rWords_law {s : List UInt8} (hs : s.length ≤ 70000) : rWords_W s = some (if 65536 < s.length then .tup [.sl [] .non, .int .i64 0, .int .i64 2] else wOut (wordsL s)) := by
  have hg := gapL_le false s
  have h := rw_loop s hs (s.length + 1) (gapL false s) [] hg (by omega) (by simp)
  rw [show lexL (s.length + 1) (gapL false s) (s.drop (gapL false s)) = wordsL s from rfl] at h
  unfold rWords_W rWords_Tr
  have g1 : rgap_is0 s 0 = true := rgap_is (i := 0) (by omega) (by omega)
  have g2 : rgap_n s 0 = (gapL false s : Nat) := by
    have := rgap_v (s := s) (i := 0) (by omega) (by omega)
    simpa using this
  rw [g1, g2]
  by_cases hl : 65536 < s.length
  · have : iLt 65536 (sLen s) = true := by simp; omega
    rw [this, if_pos hl]
    rfl
  · have : iLt 65536 (sLen s) = false := by simp; omega
    rw [this, if_neg hl]
    generalize wordsL s = r at h ⊢
    simp only [aT_nil, aS_nil, rOf_nil] at h
    generalize ((gapL false s : Nat) : Int) = g at h ⊢
    obtain ⟨l, o⟩ := r
    cases o with
    | none =>
      cases l with
      | nil =>
        simp only [rEnd, List.append_nil, List.nil_append, aT, aS] at h
        simp only [rWords1_is0, rWords1_is1, rWords1_is2, rWords1_is3, rWords1_k_2, rWords1_k_3, rWords1_n2_0, rWords1_n2_2, rWords1_n_0, rWords1_n_2, rWords1_out_1, rWords1_out_3, rWords1_r_0, rWords1_r_2, rWords1_W, h]
        simp [wOut]
      | cons a l =>
        simp only [rEnd, List.nil_append, aT, aS] at h
        simp only [rWords1_is0, rWords1_is1, rWords1_is2, rWords1_is3, rWords1_k_2, rWords1_k_3, rWords1_n2_0, rWords1_n2_2, rWords1_n_0, rWords1_n_2, rWords1_out_1, rWords1_out_3, rWords1_r_0, rWords1_r_2, rWords1_W, h]
        simp [wOut]
    | some p =>
      cases l with
      | nil =>
        simp only [rEnd, List.append_nil, List.nil_append, aT, aS] at h
        simp only [rWords1_is0, rWords1_is1, rWords1_is2, rWords1_is3, rWords1_k_2, rWords1_k_3, rWords1_n2_0, rWords1_n2_2, rWords1_n_0, rWords1_n_2, rWords1_out_1, rWords1_out_3, rWords1_r_0, rWords1_r_2, rWords1_W, h]
        simp [wOut]
      | cons a l =>
        simp only [rEnd, List.nil_append, aT, aS] at h
        simp only [rWords1_is0, rWords1_is1, rWords1_is2, rWords1_is3, rWords1_k_2, rWords1_k_3, rWords1_n2_0, rWords1_n2_2, rWords1_n_0, rWords1_n_2, rWords1_out_1, rWords1_out_3, rWords1_r_0, rWords1_r_2, rWords1_W, h]
        simp [wOut]

/-! ### rows of words are the same -/
theorem rSameAll_loop (l : List Wd) (hl : l.length < 9223372036854775807) : ∀ (m i : Nat), i + m = l.length → rSameAll1_V [.sl (rOf cW l) .non, .sl (rOf cW l) .non, .int .i64 (i : Nat)] ⟨[], [], []⟩ = some (.exit 0, [], ⟨[], [], []⟩) := by
  intro m
  induction m with
  | zero =>
    intro i hi
    rw [rSameAll1_E]
    have : ¬ (i : Int) < l.length := by omega
    simp [rSameAll1_Tr, this]
  | succ m ih =>
    intro i hi
    have w := inc_i64 (i := i) (by omega)
    have hlt : i < l.length := by omega
    have h1 := ih (i + 1) (by omega)
    rw [rSameAll1_E, ← h1]
    simp [rSameAll1_Tr, hlt, w]
theorem rSameAll_law {l : List Wd} (hl : l.length < 9223372036854775807) : rSameAll_W (rOf cW l) (rOf cW l) = some (.bool true) := by
  have h := rSameAll_loop l hl l.length 0 (by omega)
  have h' : rSameAll1_V [.sl (rOf cW l) .non, .sl (rOf cW l) .non, .int .i64 0] ⟨[], [], []⟩ = some (.exit 0, [], ⟨[], [], []⟩) := h
  unfold rSameAll_W rSameAll_Tr
  simp [rSameAll1_is0, rSameAll1_is1, rSameAll1_W, h']
end Go.Pv

set_option maxHeartbeats 8000000
set_option maxRecDepth 200000
set_option linter.unusedSimpArgs false
set_option linter.unusedVariables false
namespace Go.Pv
open Go Go.Proofs Go.RowKit

/-! ### small ones -/
theorem lcut_law (s : List UInt8) : lcut_W s = some (.str (s.take 3000)) := by
  unfold lcut_W lcut_Tr
  by_cases h : (3000 : Int) < s.length
  · have h' : (3000 : Int) ≤ s.length := by omega
    have h2 : 3000 ≤ s.length := by omega
    simp [h, h', h2]
  · have : s.take 3000 = s := List.take_of_length_le (by omega)
    simp [h, this]
@[simp] theorem lcut_is (s : List UInt8) : lcut_is0 s = true := by simp [lcut_is0, lcut_s, lcut_law]
@[simp] theorem lcut_v (s : List UInt8) : lcut_s s = s.take 3000 := by simp [lcut_s, lcut_law]
theorem cut_len (s : List UInt8) : (s.take 3000).length ≤ 3000 := by rw [List.length_take]; omega

/-- Words: what comes out, part by part. -/
def wL (s : List UInt8) : List Wd := match wordsL s with | (l, none) => l | _ => []
def wN (s : List UInt8) : Int := match (wordsL s).2 with | none => 0 | some p => (p : Nat)
def wE (s : List UInt8) : Int := match (wordsL s).2 with | none => 0 | some _ => 120
theorem wOut_eq (s : List UInt8) : wOut (wordsL s) = .tup [.sl (rOf cW (wL s)) .non, .int .i64 (wN s), .int .i64 (wE s)] := by
  unfold wL wN wE
  cases h : wordsL s with
  | mk l o => cases o <;> rfl
theorem lWords_out {s : List UInt8} (hs : s.length ≤ 65536) : lWords_W s = some (.tup [.sl (rOf cW (wL s)) .non, .int .i64 (wN s), .int .i64 (wE s)]) := by
  rw [lWords_law (by omega), if_neg (by omega), wOut_eq]
theorem rWords_out {s : List UInt8} (hs : s.length ≤ 65536) : rWords_W s = some (.tup [.sl (rOf cW (wL s)) .non, .int .i64 (wN s), .int .i64 (wE s)]) := by
  rw [rWords_law (by omega), if_neg (by omega), wOut_eq]
section
variable {s : List UInt8} (hs : s.length ≤ 65536)
include hs
theorem lWords_r_v : lWords_r s = rOf cW (wL s) := by simp only [lWords_r, lWords_out hs]; simp
theorem lWords_n_v : lWords_n s = wN s := by simp only [lWords_n, lWords_out hs]; simp
theorem lWords_e_v : lWords_n2 s = wE s := by simp only [lWords_n2, lWords_out hs]; simp
theorem lWords_is_v : lWords_is0 s = true := by simp only [lWords_is0, lWords_r_v hs, lWords_n_v hs, lWords_e_v hs, lWords_out hs]; simp
theorem rWords_r_v : rWords_r s = rOf cW (wL s) := by simp only [rWords_r, rWords_out hs]; simp
theorem rWords_n_v : rWords_n s = wN s := by simp only [rWords_n, rWords_out hs]; simp
theorem rWords_e_v : rWords_n2 s = wE s := by simp only [rWords_n2, rWords_out hs]; simp
theorem rWords_is_v : rWords_is0 s = true := by simp only [rWords_is0, rWords_r_v hs, rWords_n_v hs, rWords_e_v hs, rWords_out hs]; simp
end
/-- No more words than bytes. -/
theorem lexL_len : ∀ (f i : Nat) (s : List UInt8), (lexL f i s).1.length ≤ s.length := by
  intro f
  induction f with
  | zero => intro i s; simp [lexL]
  | succ f ih =>
    intro i s
    cases s with
    | nil => simp [lexL]
    | cons c t =>
      simp only [lexL]
      cases hw : wdL (c :: t) with
      | none => simp
      | some r =>
        obtain ⟨k, m, v⟩ := r
        have h1 := wdL_len hw
        have := ih (i + m + gapL false ((c :: t).drop m)) ((c :: t).drop (m + gapL false ((c :: t).drop m)))
        simp only [List.length_cons, List.length_drop] at this ⊢
        simp only [List.length_cons] at h1
        omega
theorem wL_len (s : List UInt8) : (wL s).length ≤ s.length := by
  have h := lexL_len (s.length + 1) (gapL false s) (s.drop (gapL false s))
  rw [show lexL (s.length + 1) (gapL false s) (s.drop (gapL false s)) = wordsL s from rfl] at h
  unfold wL
  cases hw : wordsL s with
  | mk l o =>
    rw [hw] at h
    have h2 : (s.drop (gapL false s)).length ≤ s.length := by simp
    cases o with
    | none => exact Nat.le_trans h h2
    | some p => simp

/-! ### Join -/
theorem lJoin_loop (l : List Wd) (hl : l.length ≤ 1000000) : lJoin1_V [.sl [] .full, .sl (rOf cW l) .non, .int .i64 (l.length : Nat), .int .i64 0] ⟨[], [], []⟩ = some (.exit 0, [.sl (rOf cS (l.map fun w => w.2.1)) (aT (l.map fun w => w.2.1))], aS 1 9 (l.map fun w => w.2.1)) := by
  have h := loop_acc (l := l) (V := fun i b => lJoin1_V [.sl (rOf cS b) (aT b), .sl (rOf cW l) .non, .int .i64 (l.length : Nat), .int .i64 (i : Nat)] (aS 1 9 b)) (fun w => [w.2.1]) (fun b => some (.exit 0, [.sl (rOf cS b) (aT b)], aS 1 9 b)) ?_ ?_
  · rw [flatMap_one] at h
    exact h
  · intro i b a hb hi ha
    have w := inc_i64 (i := i) (by omega)
    have hbl : b.length ≤ i := by rw [hb]; exact flatMap_le _ (fun _ => by simp) l i
    have o2 : okNews [[PV.str a.2.1]] 1 = true := by simp [one]
    show lJoin1_V [.sl (rOf cS b) (aT b), _, _, _] (aS 1 9 b) = lJoin1_V [.sl (rOf cS (b ++ [a.2.1])) (aT (b ++ [a.2.1])), _, _, _] (aS 1 9 (b ++ [a.2.1]))
    rw [aT_snoc, aS_snoc]
    have q1 : iLt (i : Int) (l.length : Nat) = true := by simp; omega
    have q2 : okGet [PV.int .i64 0, .str [], .int .i64 0, .int .i64 0, .str [], .int .i64 0] (rOf cW l) (nNat (i : Int)) = true := by simp; omega
    have q3 : xStr (rOf cW l) (nNat (i : Int)) 1 = a.2.1 := by simp [hi, ha]
    have q4 : okPos (i : Int) = true := by simp
    cases b with
    | nil =>
      show lJoin1_V [.sl [] .full, _, _, _] ⟨[], [], []⟩ = _
      rw [lJoin1_E]
      have o1 : okGrow [] [[PV.str a.2.1]] 16 = true := by simp
      simp only [lJoin1_Tr, q1, q2, q3, q4, o1, o2, w]
      simp
    | cons x b =>
      show lJoin1_V [.sl (rOf cS (x :: b)) (.tok 0), _, _, _] ⟨[], [((x :: b).length, 1, 9)], []⟩ = _
      rw [lJoin1_E1]
      have o1 : okGrow (rOf cS (x :: b)) [[PV.str a.2.1]] 16 = true := by simp only [List.length_cons] at hbl; simp; omega
      simp only [lJoin1_Tr1, q1, q2, q3, q4, o1, o2, w]
      simp
  · intro b hb
    show lJoin1_V [.sl (rOf cS b) (aT b), _, _, _] (aS 1 9 b) = _
    have q1 : iLt (l.length : Nat) (l.length : Nat) = false := by simp
    cases b with
    | nil =>
      show lJoin1_V [.sl [] .full, _, _, _] ⟨[], [], []⟩ = _
      rw [lJoin1_E]
      simp only [lJoin1_Tr, q1]
      simp
    | cons x b =>
      show lJoin1_V [.sl (rOf cS (x :: b)) (.tok 0), _, _, _] ⟨[], [((x :: b).length, 1, 9)], []⟩ = _
      rw [lJoin1_E1]
      simp only [lJoin1_Tr1, q1]
      simp [aT, aS]
def jnW (l : List Wd) : List UInt8 := joinV (l.map fun w => w.2.1) [32]
theorem lJoin_law (l : List Wd) (hl : l.length ≤ 1000000) (hj : (jnW l).length ≤ 140737488355328) : lJoin_W (rOf cW l) = some (.str (jnW l)) := by
  have h := lJoin_loop l hl
  have o : okJoin (l.map fun w => w.2.1) [32] = true := by
    rw [okJoin_iff]
    exact ⟨by simp; omega, hj⟩
  unfold lJoin_W lJoin_Tr
  have x0 : xLen (rOf cW l) = (l.length : Nat) := by simp
  rw [x0]
  have hb : jnW l = joinV (l.map fun w => w.2.1) [32] := rfl
  rw [hb]
  cases hq : l.map (fun w => w.2.1) with
  | nil =>
    rw [hq] at h o
    simp only [aT, aS] at h
    simp only [lJoin1_is0, lJoin1_is1, lJoin1_texts_0, lJoin1_texts_1, lJoin1_k_1, lJoin1_W, h]
    simp at o
    simp [o]
  | cons x b =>
    rw [hq] at h o
    simp only [aT, aS] at h
    simp only [lJoin1_is0, lJoin1_is1, lJoin1_texts_0, lJoin1_texts_1, lJoin1_k_1, lJoin1_W, h]
    simp at o
    simp [o]
theorem lJoin_is (l : List Wd) (hl : l.length ≤ 1000000) (hj : (jnW l).length ≤ 140737488355328) : lJoin_is0 (rOf cW l) = true := by simp only [lJoin_is0, lJoin_s, lJoin_law l hl hj]; simp
theorem lJoin_v (l : List Wd) (hl : l.length ≤ 1000000) (hj : (jnW l).length ≤ 140737488355328) : lJoin_s (rOf cW l) = jnW l := by simp only [lJoin_s, lJoin_law l hl hj]; simp

/-! ### awake -/
def awT : List UInt8 := [112, 40, 88, 41, 32, 58, 45, 32, 113, 40, 88, 44, 32, 95, 41, 44, 32, 88, 32, 33, 61, 32, 45, 51, 46]
def awL : List Wd := [(1, [112], (0, 0, []), 0), (6, [40], (0, 0, []), 1), (2, [88], (0, 0, []), 2), (6, [41], (0, 0, []), 3), (6, [58, 45], (0, 0, []), 5), (1, [113], (0, 0, []), 8), (6, [40], (0, 0, []), 9), (2, [88], (0, 0, []), 10), (6, [44], (0, 0, []), 11), (3, [95], (0, 0, []), 13), (6, [41], (0, 0, []), 14), (6, [44], (0, 0, []), 15), (2, [88], (0, 0, []), 17), (6, [33, 61], (0, 0, []), 19), (4, [45, 51], (1, -3, []), 22), (6, [46], (0, 0, []), 24)]
theorem aw_words : wordsL awT = (awL, none) := by kernel_rfl
theorem aw_words2 : wordsL [97, 32, 63] = ([(1, [97], (0, 0, []), 0)], some 2) := by kernel_rfl
end Go.Pv

set_option maxHeartbeats 8000000
set_option maxRecDepth 200000
set_option linter.unusedSimpArgs false
set_option linter.unusedVariables false
namespace Go.Pv
open Go Go.Proofs Go.RowKit

/-! ### texts made of gaps and words -/
def gpB (b : UInt8) : Bool := blB b || decide (b.toNat = 37)
/-- What may stand behind a word in place of r: r', so that the word stays one. -/
def Nxt (r r' : List UInt8) : Prop := r' = [] ∨ hdIs gpB r' = true ∨ ∃ b t t', r = b :: t ∧ r' = b :: t'
theorem hdIs_nxt {p : UInt8 → Bool} (hp : ∀ b, gpB b = true → p b = false) {r r' : List UInt8} (hn : Nxt r r') (h : hdIs p r = false) : hdIs p r' = false := by
  rcases hn with rfl | hg | ⟨b, t, t', rfl, rfl⟩
  · rfl
  · cases r' with
    | nil => rfl
    | cons b t => exact hp b hg
  · exact h
theorem runL_nxt {p : UInt8 → Bool} (hp : ∀ b, gpB b = true → p b = false) {r r' : List UInt8} (hn : Nxt r r') : ∀ t : List UInt8, runL p (t ++ r) = t.length → runL p (t ++ r') = t.length
  | [], h => by
    have h1 : hdIs p r = false := by
      cases r with
      | nil => rfl
      | cons b t =>
        simp only [List.nil_append, runL, List.length_nil] at h
        cases hb : p b with
        | false => exact hb
        | true => rw [hb] at h; simp at h
    have h2 := hdIs_nxt hp hn h1
    cases r' with
    | nil => rfl
    | cons b t =>
      have h2 : p b = false := h2
      simp [runL, h2]
  | a :: t, h => by
    simp only [List.cons_append, runL, List.length_cons] at h ⊢
    cases ha : p a with
    | false => rw [ha] at h; simp at h
    | true =>
      rw [ha] at h
      simp only [if_true, Nat.add_right_cancel_iff] at h ⊢
      exact runL_nxt hp hn t h
theorem incN_pos {n m : Nat} (h : incN n = m + 1) : n = m ∧ m ≠ 0 := by
  unfold incN at h
  split at h <;> omega
theorem quoE_nxt (r r' : List UInt8) : ∀ (e : Bool) (t : List UInt8), quoE e (t ++ r) = t.length → t.length ≠ 0 → quoE e (t ++ r') = t.length
  | _, [], _, h => absurd rfl h
  | true, a :: t, h, _ => by
    simp only [List.cons_append, quoE, List.length_cons] at h ⊢
    obtain ⟨h1, h2⟩ := incN_pos h
    rw [quoE_nxt r r' false t h1 h2]
    simp [incN, h2]
  | false, a :: t, h, _ => by
    simp only [List.cons_append, quoE, List.length_cons] at h ⊢
    split at h
    · rename_i h1
      rw [if_pos h1]
      exact h
    · rename_i h1
      rw [if_neg h1]
      split at h
      · rename_i h2
        rw [if_pos h2]
        obtain ⟨h1, h2⟩ := incN_pos h
        rw [quoE_nxt r r' true t h1 h2]
        simp [incN, h2]
      · rename_i h2
        rw [if_neg h2]
        obtain ⟨h1, h2⟩ := incN_pos h
        rw [quoE_nxt r r' false t h1 h2]
        simp [incN, h2]
theorem gp_cases {b : UInt8} (h : gpB b = true) : b.toNat = 32 ∨ b.toNat = 9 ∨ b.toNat = 10 ∨ b.toNat = 13 ∨ b.toNat = 37 := by
  simp only [gpB, blB, Bool.or_eq_true, decide_eq_true_eq] at h
  omega
theorem gp_inn (b : UInt8) (h : gpB b = true) : innB b = false := by
  rcases gp_cases h with h | h | h | h | h <;> simp [innB, isSmB, isGrB, isDgB, h]
theorem gp_dg (b : UInt8) (h : gpB b = true) : isDgB b = false := by
  rcases gp_cases h with h | h | h | h | h <;> simp [isDgB, h]
theorem gp_two (c b : UInt8) (h : gpB b = true) : twoB c b = false := by
  rcases gp_cases h with h | h | h | h | h <;> simp [twoB, h]
theorem valL_some {k k' : Int} {s : List UInt8} {n m : Nat} {v : Vl} (h : valL k s n = some (k', m, v)) : k' = k ∧ m = n ∧ rdV (s.take n) = some v := by
  unfold valL at h
  split at h
  · rename_i v' hv
    cases h
    exact ⟨rfl, rfl, hv⟩
  · cases h
theorem valL_of {k : Int} {s s' : List UInt8} {n m : Nat} {k' : Int} {v : Vl} (h : valL k s n = some (k', m, v)) (e : s'.take n = s.take n) : valL k s' n = some (k', m, v) := by
  unfold valL at h ⊢
  rw [e]
  exact h
/-- A word stays the word with which a text begins, whatever stands behind it, if that may. -/
theorem wdL_nxt {x r r' : List UInt8} {k : Int} {v : Vl} (h : wdL (x ++ r) = some (k, x.length, v)) (hn : Nxt r r') : wdL (x ++ r') = some (k, x.length, v) := by
  have hl := (wdL_len h).1
  cases x with
  | nil => simp at hl
  | cons c t =>
    simp only [List.cons_append, wdL, List.length_cons] at h ⊢
    by_cases h1 : isSmB c = true
    · simp only [h1, if_true] at h ⊢
      split at h
      · rename_i h2
        simp only [Option.some.injEq, Prod.mk.injEq, Nat.add_right_cancel_iff] at h
        obtain ⟨rfl, h3, rfl⟩ := h
        have := runL_nxt gp_inn hn t h3
        rw [this, if_pos (by omega)]
      · cases h
    · rw [if_neg h1] at h ⊢
      by_cases h2 : isGrB c = true
      · simp only [h2, if_true] at h ⊢
        split at h
        · rename_i h4
          simp only [Option.some.injEq, Prod.mk.injEq, Nat.add_right_cancel_iff] at h
          obtain ⟨rfl, h3, rfl⟩ := h
          have := runL_nxt gp_inn hn t h3
          rw [this, if_pos (by omega)]
        · cases h
      · rw [if_neg h2] at h ⊢
        by_cases h3 : c.toNat = 95
        · rw [if_pos h3] at h ⊢
          split at h
          · cases h
          · rename_i h4
            simp only [Option.some.injEq, Prod.mk.injEq] at h
            obtain ⟨rfl, h5, rfl⟩ := h
            have ht : t = [] := by cases t with | nil => rfl | cons => simp at h5
            subst ht
            have h6 := hdIs_nxt gp_inn hn (by simpa using h4)
            simp [h6]
        · rw [if_neg h3] at h ⊢
          have dgs : ∀ q : Bool, (q || (decide (c.toNat = 45) && hdIs isDgB (t ++ r))) = (q || (decide (c.toNat = 45) && hdIs isDgB (t ++ r'))) ∨ (t = [] ∧ hdIs isDgB r = true) := by
            intro q
            cases t with
            | cons a t => exact .inl rfl
            | nil =>
              cases hr : hdIs isDgB r with
              | true => exact .inr ⟨rfl, rfl⟩
              | false =>
                have := hdIs_nxt gp_dg hn hr
                left
                simp [hr, this]
          by_cases h4 : (isDgB c || (decide (c.toNat = 45) && hdIs isDgB (t ++ r))) = true
          · rw [if_pos h4] at h
            obtain ⟨hk, hm, hv⟩ := valL_some h
            have h5 : runL isDgB (t ++ r) = t.length := by omega
            have h6 := runL_nxt gp_dg hn t h5
            have h7 : (isDgB c || (decide (c.toNat = 45) && hdIs isDgB (t ++ r'))) = true := by
              rcases dgs (isDgB c) with e | ⟨rfl, e⟩
              · rw [← e]; exact h4
              · cases r with
                | nil => simp [hdIs] at e
                | cons b u =>
                  have e : isDgB b = true := e
                  simp [runL, e] at h5
            rw [if_pos h7, h6]
            rw [h5] at h
            refine valL_of h ?_
            simp
          · rw [if_neg h4] at h
            have h7 : ¬ (isDgB c || (decide (c.toNat = 45) && hdIs isDgB (t ++ r'))) = true := by
              rcases dgs (isDgB c) with e | ⟨rfl, e⟩
              · rw [← e]; exact h4
              · intro hh
                apply h4
                simp only [List.nil_append, Bool.or_eq_true, Bool.and_eq_true] at hh ⊢
                rcases hh with hh | ⟨hh, _⟩
                · exact .inl hh
                · exact .inr ⟨hh, e⟩
            rw [if_neg h7]
            by_cases h5 : c.toNat = 34
            · rw [if_pos h5] at h ⊢
              split at h
              · cases h
              · rename_i h6
                obtain ⟨hk, hm, hv⟩ := valL_some h
                have h8 : quoL (t ++ r) = t.length := by omega
                have h9 : quoL (t ++ r') = t.length := quoE_nxt r r' false t h8 (by omega)
                rw [h9, if_neg (by omega)]
                rw [h8] at h
                refine valL_of h ?_
                simp
            · rw [if_neg h5] at h ⊢
              split at h
              · cases h
              · rename_i h6
                simp only [Option.some.injEq, Prod.mk.injEq] at h
                obtain ⟨rfl, h8, rfl⟩ := h
                have h9 : markL c (t ++ r') = t.length + 1 := by
                  unfold markL at h8 ⊢
                  cases t with
                  | nil =>
                    show (if hdIs (twoB c) r' = true then 2 else if onesB c = true then 1 else 0) = 1
                    have h8 : (if hdIs (twoB c) r = true then 2 else if onesB c = true then 1 else 0) = 1 := h8
                    cases hr : hdIs (twoB c) r with
                    | true => rw [if_pos hr] at h8; omega
                    | false =>
                      rw [if_neg (by rw [hr]; simp)] at h8
                      rw [if_neg (by rw [hdIs_nxt (gp_two c) hn hr]; simp)]
                      exact h8
                  | cons d t =>
                    simp only [List.cons_append, hdIs] at h8 ⊢
                    exact h8
                rw [h9]
                simp

/-- The state behind a text that is gaps alone: within a comment? -/
def gpS : Bool → List UInt8 → Option Bool
  | c, [] => some c
  | c, b :: s => if c || blB b || decide (b.toNat = 37) then gpS (decide (b.toNat = 37) || c && decide (b.toNat ≠ 10)) s else none
theorem gapL_app : ∀ (g : List UInt8) (c c' : Bool) (s : List UInt8), gpS c g = some c' → gapL c (g ++ s) = g.length + gapL c' s
  | [], c, c', s, h => by cases h; simp
  | b :: g, c, c', s, h => by
    simp only [gpS] at h
    split at h
    · rename_i hb
      simp only [List.cons_append, gapL, hb, if_true, List.length_cons]
      rw [gapL_app g _ c' s h]
      omega
    · cases h
theorem gpS_app : ∀ (g : List UInt8) (c c' : Bool) (s : List UInt8), gpS c g = some c' → gpS c (g ++ s) = gpS c' s
  | [], c, c', s, h => by cases h; simp
  | b :: g, c, c', s, h => by
    simp only [gpS] at h
    split at h
    · rename_i hb
      simp only [List.cons_append, gpS, hb, if_true]
      exact gpS_app g _ c' s h
    · cases h
theorem gap_all : ∀ (s : List UInt8) (c : Bool), gapL c s = s.length ↔ ∃ c', gpS c s = some c'
  | [], c => by simp [gapL, gpS]
  | b :: s, c => by
    have ih := gap_all s (decide (b.toNat = 37) || c && decide (b.toNat ≠ 10))
    simp only [gapL, gpS, List.length_cons]
    split
    · rw [← ih]; omega
    · simp
theorem gap_stop : ∀ (s : List UInt8) (c : Bool), gapL c s < s.length → gpS c (s.take (gapL c s)) = some false
  | [], c, h => by simp at h
  | b :: s, c, h => by
    have ih := gap_stop s (decide (b.toNat = 37) || c && decide (b.toNat ≠ 10))
    simp only [gapL, List.length_cons] at h ⊢
    split
    · rename_i hb
      rw [if_pos hb] at h
      simp only [List.take_succ_cons, gpS, hb, if_true]
      exact ih (by omega)
    · rename_i hb
      simp only [List.take_zero, gpS]
      cases c <;> simp_all
theorem gap_after : ∀ (s : List UInt8) (c : Bool), gapL false (s.drop (gapL c s)) = 0
  | [], c => by simp [gapL]
  | b :: s, c => by
    simp only [gapL]
    split
    · simpa using gap_after s _
    · rename_i hb
      have hb : (c || blB b || decide (b.toNat = 37)) = false := by simpa using hb
      simp only [Bool.or_eq_false_iff] at hb
      simp [gapL, hb.1.2, hb.2]
theorem gap_word {s : List UInt8} {r} (h : wdL s = some r) : gapL false s = 0 := by
  cases s with
  | nil => rfl
  | cons b s =>
    simp only [gapL, Bool.false_or]
    split
    · rename_i hb
      have hb : gpB b = true := hb
      exfalso
      have hi := gp_inn b hb
      have hd := gp_dg b hb
      simp only [innB, Bool.or_eq_false_iff] at hi
      have h34 : b.toNat ≠ 34 := by rcases gp_cases hb with h | h | h | h | h <;> omega
      have h45 : b.toNat ≠ 45 := by rcases gp_cases hb with h | h | h | h | h <;> omega
      have h95 : b.toNat ≠ 95 := by simpa using hi.2
      have hm : markL b s = 0 := by
        unfold markL
        have h1 : hdIs (twoB b) s = false := by
          cases s with
          | nil => rfl
          | cons d s => rcases gp_cases hb with h | h | h | h | h <;> simp [hdIs, twoB, h]
        have h2 : onesB b = false := by rcases gp_cases hb with h | h | h | h | h <;> simp [onesB, h]
        rw [h1, h2]
        rfl
      simp [wdL, hi.1.1.1, hi.1.1.2, h95, hd, h45, h34, hm] at h
    · rfl

/-- A word without its place. -/
abbrev Wv := Int × List UInt8 × Vl
def stW (w : Wd) : Wv := (w.1, w.2.1, w.2.2.1)
inductive Lx : List Wv → List UInt8 → Prop
  | nil (s : List UInt8) (c : Bool) (h : gpS false s = some c) : Lx [] s
  | cons (g x r : List UInt8) (k : Int) (v : Vl) (l : List Wv) (hg : gpS false g = some false) (hw : wdL (x ++ r) = some (k, x.length, v)) (h : Lx l r) : Lx ((k, x, v) :: l) (g ++ (x ++ r))
theorem Lx.pre {g : List UInt8} (hg : gpS false g = some false) {l : List Wv} {s : List UInt8} (h : Lx l s) : Lx l (g ++ s) := by
  cases h with
  | nil s c h => exact .nil _ c (by rw [gpS_app g false false s hg]; exact h)
  | cons g' x r k v l hg' hw h =>
    rw [← List.append_assoc]
    exact .cons _ x r k v l (by rw [gpS_app g false false g' hg]; exact hg') hw h
theorem Lx.tail {z : List UInt8} (hz : hdIs gpB z = true) (h0 : ∀ c, ∃ c', gpS c z = some c') {l : List Wv} {s : List UInt8} (h : Lx l s) : Lx l (s ++ z) := by
  induction h with
  | nil s c h =>
    obtain ⟨c', hc⟩ := h0 c
    exact .nil _ c' (by rw [gpS_app s false c z h]; exact hc)
  | cons g x r k v l hg hw h ih =>
    rw [List.append_assoc, List.append_assoc]
    refine .cons g x (r ++ z) k v l hg (wdL_nxt hw ?_) ih
    cases r with
    | nil => exact .inr (.inl hz)
    | cons b r => exact .inr (.inr ⟨b, r, r ++ z, rfl, rfl⟩)
/-- What the words of a text are, it is made of. -/
theorem lx_of : ∀ (f i : Nat) (s : List UInt8) (l : List Wd), s.length < f → gapL false s = 0 → lexL f i s = (l, none) → Lx (l.map stW) s := by
  intro f
  induction f with
  | zero => intro i s l h; omega
  | succ f ih =>
    intro i s l hf hg h
    cases s with
    | nil =>
      simp only [lexL, Prod.mk.injEq] at h
      obtain ⟨rfl, _⟩ := h
      exact .nil [] false rfl
    | cons c t =>
      simp only [lexL] at h
      cases hw : wdL (c :: t) with
      | none => rw [hw] at h; simp at h
      | some r =>
        obtain ⟨k, m, v⟩ := r
        rw [hw] at h
        simp only [Prod.mk.injEq] at h
        obtain ⟨h1, h2⟩ := h
        obtain ⟨m1, m2⟩ := wdL_len hw
        generalize hs : c :: t = s at *
        have hd : s.drop (m + gapL false (s.drop m)) = (s.drop m).drop (gapL false (s.drop m)) := List.drop_drop.symm
        rw [hd] at h1 h2
        have hgl := gapL_le false (s.drop m)
        have hx : s = [] ++ (s.take m ++ s.drop m) := (List.take_append_drop m s).symm
        have hm : (s.take m).length = m := by rw [List.length_take]; omega
        have ih1 := ih (i + m + gapL false (s.drop m)) ((s.drop m).drop (gapL false (s.drop m))) (lexL f (i + m + gapL false (s.drop m)) ((s.drop m).drop (gapL false (s.drop m)))).1 (by simp only [List.length_drop]; omega) (gap_after _ _) (Prod.ext rfl h2)
        rw [hx, ← h1]
        refine .cons [] (s.take m) (s.drop m) k v _ rfl (by rw [List.take_append_drop, hm]; exact hw) ?_
        by_cases he : gapL false (s.drop m) = (s.drop m).length
        · have : (s.drop m).drop (gapL false (s.drop m)) = [] := by rw [he]; exact List.drop_length
          rw [this, lexL_nil]
          obtain ⟨c', hc⟩ := (gap_all _ _).1 he
          exact .nil _ c' hc
        · have h3 := gap_stop (s.drop m) false (by omega)
          have h4 := Lx.pre h3 ih1
          rwa [List.take_append_drop] at h4
theorem words_lx {s : List UInt8} {l : List Wd} (h : wordsL s = (l, none)) : Lx (l.map stW) s := by
  unfold wordsL at h
  have hgl := gapL_le false s
  have h1 := lx_of _ _ _ _ (by simp; omega) (gap_after _ _) h
  by_cases he : gapL false s = s.length
  · have : s.drop (gapL false s) = [] := by rw [he]; exact List.drop_length
    rw [this, lexL_nil] at h
    simp only [Prod.mk.injEq] at h
    obtain ⟨rfl, _⟩ := h
    obtain ⟨c', hc⟩ := (gap_all _ _).1 he
    exact .nil _ c' hc
  · have h4 := Lx.pre (gap_stop s false (by omega)) h1
    rwa [List.take_append_drop] at h4
/-- Words of which a text is made are its words. -/
theorem lx_lex {l : List Wv} {s : List UInt8} (h : Lx l s) : ∀ (f i : Nat), s.length < f → ∃ l', lexL f i (s.drop (gapL false s)) = (l', none) ∧ l'.map stW = l := by
  induction h with
  | nil s c h =>
    intro f i hf
    have := (gap_all s false).2 ⟨c, h⟩
    rw [this, List.drop_length, lexL_nil]
    exact ⟨[], rfl, rfl⟩
  | cons g x r k v l hg hw h ih =>
    intro f i hf
    obtain ⟨m1, m2⟩ := wdL_len hw
    have e : gapL false (g ++ (x ++ r)) = g.length := by rw [gapL_app g false false _ hg, gap_word hw]; rfl
    rw [e, List.drop_left]
    cases f with
    | zero => omega
    | succ f =>
      have hne : x ++ r ≠ [] := by
        intro hh
        rw [hh, List.length_nil] at m2
        omega
      have eL : lexL (f + 1) i (x ++ r) = match wdL (x ++ r) with
          | none => ([], some i)
          | some (k, m, v) =>
            ((k, (x ++ r).take m, v, (i : Int)) :: (lexL f (i + m + gapL false ((x ++ r).drop m)) ((x ++ r).drop (m + gapL false ((x ++ r).drop m)))).1, (lexL f (i + m + gapL false ((x ++ r).drop m)) ((x ++ r).drop (m + gapL false ((x ++ r).drop m)))).2) := by
        obtain ⟨c, t, hct⟩ := List.exists_cons_of_ne_nil hne
        rw [hct]
        rfl
      rw [eL, hw]
      simp only [List.drop_left, List.take_left, ← List.drop_drop]
      obtain ⟨l', h1, h2⟩ := ih f (i + x.length + gapL false r) (by simp only [List.length_append] at hf m2; omega)
      rw [h1]
      exact ⟨_, rfl, by simp [stW, h2]⟩
theorem lx_words {l : List Wv} {s : List UInt8} (h : Lx l s) : ∃ l', wordsL s = (l', none) ∧ l'.map stW = l := lx_lex h _ _ (by omega)

/-! ### words with blanks between them -/
theorem join_nil (sep : List UInt8) : joinV [] sep = [] := rfl
theorem lx_join {l : List Wv} {s : List UInt8} (h : Lx l s) : Lx l (joinV (l.map fun w => w.2.1) [32]) := by
  induction h with
  | nil s c h => exact .nil _ false rfl
  | cons g x r k v l hg hw h ih =>
    cases l with
    | nil =>
      have : joinV (((k, x, v) :: ([] : List Wv)).map fun w => w.2.1) [32] = [] ++ (x ++ []) := by simp [joinV, Lib.join]
      rw [this]
      exact .cons [] x [] k v [] rfl (wdL_nxt hw (.inl rfl)) (.nil [] false rfl)
    | cons w l =>
      have : joinV (((k, x, v) :: w :: l).map fun w => w.2.1) [32] = [] ++ (x ++ ([32] ++ joinV ((w :: l).map fun w => w.2.1) [32])) := by simp [joinV, Lib.join]
      rw [this]
      refine .cons [] x _ k v _ rfl (wdL_nxt hw (.inr (.inl (by simp [hdIs, gpB, blB])))) (Lx.pre (by simp [gpS, blB]) ih)
/-- A gap more ahead of a word changes no word. -/
theorem lx_more {z : List UInt8} (hz : gpS false z = some false) (hz1 : hdIs gpB z = true) : ∀ (f i : Nat) (s : List UInt8) (l : List Wd), s.length < f → gapL false s = 0 → lexL f i s = (l, none) →
    ∀ (j : Nat) (w : Wd), l[j]? = some w → ∃ n, w.2.2.2 = ((i + n : Nat) : Int) ∧ n ≤ s.length ∧ Lx (l.map stW) (s.take n ++ (z ++ s.drop n)) := by
  intro f
  induction f with
  | zero => intro i s l h; omega
  | succ f ih =>
    intro i s l hf hg h j w hj
    have hlx := lx_of (f + 1) i s l hf hg h
    cases s with
    | nil =>
      simp only [lexL, Prod.mk.injEq] at h
      obtain ⟨rfl, _⟩ := h
      simp at hj
    | cons c t =>
      simp only [lexL] at h
      cases hw : wdL (c :: t) with
      | none => rw [hw] at h; simp at h
      | some r =>
        obtain ⟨k, m, v⟩ := r
        rw [hw] at h
        simp only [Prod.mk.injEq] at h
        obtain ⟨h1, h2⟩ := h
        obtain ⟨m1, m2⟩ := wdL_len hw
        generalize hs : c :: t = s at *
        have hd : s.drop (m + gapL false (s.drop m)) = (s.drop m).drop (gapL false (s.drop m)) := List.drop_drop.symm
        rw [hd] at h1 h2
        have hgl := gapL_le false (s.drop m)
        have hm : (s.take m).length = m := by rw [List.length_take]; omega
        subst h1
        cases j with
        | zero =>
          simp only [List.getElem?_cons_zero, Option.some.injEq] at hj
          subst hj
          exact ⟨0, rfl, Nat.zero_le _, by simpa using Lx.pre hz hlx⟩
        | succ j =>
          simp only [List.getElem?_cons_succ] at hj
          obtain ⟨n, n1, n2, n3⟩ := ih (i + m + gapL false (s.drop m)) ((s.drop m).drop (gapL false (s.drop m))) _ (by simp only [List.length_drop]; omega) (gap_after _ _) (Prod.ext rfl h2) j w hj
          have hlt : gapL false (s.drop m) < (s.drop m).length := by
            by_cases he : gapL false (s.drop m) = (s.drop m).length
            · have : (s.drop m).drop (gapL false (s.drop m)) = [] := by rw [he]; exact List.drop_length
              rw [this, lexL_nil] at hj
              simp at hj
            · omega
          have hst := gap_stop (s.drop m) false hlt
          have h4 := Lx.pre hst n3
          generalize hgv : gapL false (s.drop m) = g at *
          refine ⟨m + g + n, by rw [n1]; congr 1; omega, by simp only [List.length_drop] at n2 hlt; omega, ?_⟩
          have e1 : s.take (m + g + n) ++ (z ++ s.drop (m + g + n)) = [] ++ (s.take m ++ ((s.drop m).take g ++ (((s.drop m).drop g).take n ++ (z ++ ((s.drop m).drop g).drop n)))) := by
            have e2 : s.take (m + g + n) = s.take m ++ ((s.drop m).take g ++ ((s.drop m).drop g).take n) := by
              rw [Nat.add_assoc, List.take_add, List.take_add]
            rw [e2]
            simp only [List.drop_drop, List.append_assoc, List.nil_append]
          rw [e1]
          refine .cons [] (s.take m) _ k v _ rfl (wdL_nxt (r := s.drop m) (by rw [List.take_append_drop, hm]; exact hw) ?_) h4
          rcases Nat.eq_zero_or_pos (g + n) with h0 | h0
          · have g0 : g = 0 := by omega
            have n0 : n = 0 := by omega
            subst g0 n0
            right; left
            cases z with
            | nil => simp [hdIs] at hz1
            | cons b z => exact hz1
          · right; right
            have hq : (s.drop m).take g ++ (((s.drop m).drop g).take n ++ (z ++ ((s.drop m).drop g).drop n)) = (s.drop m).take (g + n) ++ (z ++ (s.drop m).drop (g + n)) := by
              rw [List.take_add]
              simp only [List.append_assoc, List.drop_drop, Nat.add_assoc]
            rw [hq]
            cases hb : s.drop m with
            | nil => rw [hb] at hlt; simp at hlt
            | cons b u =>
              obtain ⟨q, hq⟩ : ∃ q, g + n = q + 1 := ⟨g + n - 1, by omega⟩
              rw [hq]
              exact ⟨b, u, _, rfl, rfl⟩
theorem words_more {z : List UInt8} (hz : gpS false z = some false) (hz1 : hdIs gpB z = true) {s : List UInt8} {l : List Wd} (h : wordsL s = (l, none)) {j : Nat} {w : Wd} (hj : l[j]? = some w) :
    ∃ n : Nat, w.2.2.2 = (n : Int) ∧ n ≤ s.length ∧ Lx (l.map stW) (s.take n ++ (z ++ s.drop n)) := by
  unfold wordsL at h
  have hgl := gapL_le false s
  obtain ⟨n, h1, h2, h3⟩ := lx_more hz hz1 _ _ _ _ (by simp; omega) (gap_after _ _) h j w hj
  have hlt : gapL false s < s.length := by
    by_cases he : gapL false s = s.length
    · have : s.drop (gapL false s) = [] := by rw [he]; exact List.drop_length
      rw [this, lexL_nil] at h
      simp only [Prod.mk.injEq] at h
      obtain ⟨rfl, _⟩ := h
      simp at hj
    · omega
  refine ⟨gapL false s + n, h1, by simp at h2; omega, ?_⟩
  have h4 := Lx.pre (gap_stop s false hlt) h3
  have e : s.take (gapL false s + n) ++ (z ++ s.drop (gapL false s + n)) = s.take (gapL false s) ++ ((s.drop (gapL false s)).take n ++ (z ++ (s.drop (gapL false s)).drop n)) := by
    rw [List.drop_drop, List.take_add]
    simp [List.append_assoc]
  rw [e]
  exact h4
end Go.Pv

set_option maxHeartbeats 8000000
set_option maxRecDepth 200000
set_option linter.unusedSimpArgs false
set_option linter.unusedVariables false
namespace Go.Pv
open Go Go.Proofs Go.RowKit

/-! ### two words are the same -/
def sameW (a b : Wv) : Bool := decide (a = b)
theorem rSame_law (a : Int) (a2 : List UInt8) (a3 a4 : Int) (a5 : List UInt8) (a6 b : Int) (b2 : List UInt8) (b3 b4 : Int) (b5 : List UInt8) (b6 : Int) : rSame_W a a2 a3 a4 a5 a6 b b2 b3 b4 b5 b6 = some (.bool (sameW (a, a2, a3, a4, a5) (b, b2, b3, b4, b5))) := by
  unfold rSame_W rSame_Tr sameW
  by_cases h1 : a = b <;> by_cases h2 : a2 = b2 <;> simp [h1, h2, bAnd, Bool.decide_and]
theorem lSame_law (a : Int) (a2 : List UInt8) (a3 a4 : Int) (a5 : List UInt8) (a6 b : Int) (b2 : List UInt8) (b3 b4 : Int) (b5 : List UInt8) (b6 : Int) : lSame_W a a2 a3 a4 a5 a6 b b2 b3 b4 b5 b6 = some (.bool (sameW (a, a2, a3, a4, a5) (b, b2, b3, b4, b5))) := by
  unfold lSame_W lSame_Tr sameW
  by_cases h1 : a = b <;> by_cases h2 : a2 = b2 <;> simp [h1, h2, bAnd, Bool.decide_and]
@[simp] theorem rSame_is (a : Int) (a2 : List UInt8) (a3 a4 : Int) (a5 : List UInt8) (a6 b : Int) (b2 : List UInt8) (b3 b4 : Int) (b5 : List UInt8) (b6 : Int) : rSame_is0 a a2 a3 a4 a5 a6 b b2 b3 b4 b5 b6 = true := by simp [rSame_is0, rSame_b, rSame_law]
@[simp] theorem lSame_is (a : Int) (a2 : List UInt8) (a3 a4 : Int) (a5 : List UInt8) (a6 b : Int) (b2 : List UInt8) (b3 b4 : Int) (b5 : List UInt8) (b6 : Int) : lSame_is0 a a2 a3 a4 a5 a6 b b2 b3 b4 b5 b6 = true := by simp [lSame_is0, lSame_b, lSame_law]
@[simp] theorem rSame_v (a : Int) (a2 : List UInt8) (a3 a4 : Int) (a5 : List UInt8) (a6 b : Int) (b2 : List UInt8) (b3 b4 : Int) (b5 : List UInt8) (b6 : Int) : rSame_b a a2 a3 a4 a5 a6 b b2 b3 b4 b5 b6 = sameW (a, a2, a3, a4, a5) (b, b2, b3, b4, b5) := by simp [rSame_b, rSame_law]
@[simp] theorem lSame_v (a : Int) (a2 : List UInt8) (a3 a4 : Int) (a5 : List UInt8) (a6 b : Int) (b2 : List UInt8) (b3 b4 : Int) (b5 : List UInt8) (b6 : Int) : lSame_b a a2 a3 a4 a5 a6 b b2 b3 b4 b5 b6 = sameW (a, a2, a3, a4, a5) (b, b2, b3, b4, b5) := by simp [lSame_b, lSame_law]

/-! ### a text that is gaps alone -/
theorem rGaps_law {s : List UInt8} (hs : s.length < 9223372036854775807) : rGaps_W s = some (.bool (decide (gapL false s = s.length))) := by
  have g1 : rgap_is0 s 0 = true := rgap_is (i := 0) hs (by omega)
  have g2 : rgap_n s 0 = (gapL false s : Nat) := by
    have := rgap_v (s := s) (i := 0) hs (by omega)
    simpa using this
  unfold rGaps_W rGaps_Tr
  rw [g1, g2]
  simp
  omega
theorem rGaps_is {s : List UInt8} (hs : s.length < 9223372036854775807) : rGaps_is0 s = true := by simp only [rGaps_is0, rGaps_b, rGaps_law hs]; simp
theorem rGaps_v {s : List UInt8} (hs : s.length < 9223372036854775807) : rGaps_b s = decide (gapL false s = s.length) := by simp only [rGaps_b, rGaps_law hs]; simp

/-! ### bytes one by one -/
theorem byte_row (x : UInt8) : ([[PV.int .u8 (x.toNat : Int)]] : List (List PV)) = bytesOf [x] := rfl
theorem getD_at {s : List UInt8} {i : Nat} {b : UInt8} {t : List UInt8} (h : s.drop i = b :: t) : s.getD i 0 = b ∧ i < s.length ∧ s.drop (i + 1) = t := by
  have h1 : s[i]? = some b := by
    have := congrArg (·[0]?) h
    simpa using this
  refine ⟨by rw [List.getD_eq_getElem?_getD, h1]; rfl, (List.getElem?_eq_some_iff.1 h1).1, ?_⟩
  rw [← List.drop_drop, h]
  rfl
def plnL (s : List UInt8) : List UInt8 := s.filter fun b => decide (b.toNat ≠ 10)
theorem lplain_loop (s : List UInt8) (hs : s.length ≤ 1000000) : ∀ (r : List UInt8) (i : Nat) (b : List UInt8), s.drop i = r → i ≤ s.length → b.length ≤ i → lplain1_V [.str s, .sl (bytesOf b) (aT b), .int .i64 (i : Nat)] (aS 1 5 b) = some (.exit 0, [.sl (bytesOf (b ++ plnL r)) (aT (b ++ plnL r))], aS 1 5 (b ++ plnL r)) := by
  intro r
  induction r with
  | nil =>
    intro i b h h1 h2
    have : ¬ (i : Int) < s.length := by
      have := congrArg List.length h
      simp at this
      omega
    cases b with
    | nil =>
      show lplain1_V [_, .sl [] .full, _] ⟨[], [], []⟩ = _
      rw [lplain1_E]
      simp [lplain1_Tr, this, plnL]
    | cons x b =>
      show lplain1_V [_, .sl (bytesOf (x :: b)) (.tok 0), _] ⟨[], [((x :: b).length, 1, 5)], []⟩ = _
      rw [lplain1_E1]
      simp [lplain1_Tr1, this, plnL, aT, aS]
  | cons c r ih =>
    intro i b h h1 h2
    obtain ⟨e1, e2, e3⟩ := getD_at h
    have w := inc_i64 (i := i) (by omega)
    have t1 : iLt (i : Int) (sLen s) = true := by simp; omega
    have t2 : okIdx s (i : Int) = true := by simp; omega
    have t3 : sAt s (i : Int) = (c.toNat : Int) := by rw [sAt_eq, Int.toNat_natCast, e1]
    by_cases hc : c.toNat = 10
    · have ih1 := ih (i + 1) b e3 (by omega) (by omega)
      have hp : plnL (c :: r) = plnL r := by simp [plnL, hc]
      have t4 : iNe (c.toNat : Int) 10 = false := by simp; omega
      rw [hp, ← ih1]
      cases b with
      | nil =>
        show lplain1_V [_, .sl [] .full, _] ⟨[], [], []⟩ = _
        rw [lplain1_E]
        simp only [lplain1_Tr, t1, t2, t3, t4, w]
        simp
      | cons x b =>
        show lplain1_V [_, .sl (bytesOf (x :: b)) (.tok 0), _] ⟨[], [((x :: b).length, 1, 5)], []⟩ = lplain1_V [_, .sl (bytesOf (x :: b)) (.tok 0), _] ⟨[], [((x :: b).length, 1, 5)], []⟩
        rw [lplain1_E1]
        simp only [lplain1_Tr1, t1, t2, t3, t4, w]
        simp
    · have ih1 := ih (i + 1) (b ++ [c]) e3 (by omega) (by simp; omega)
      have hp : b ++ plnL (c :: r) = (b ++ [c]) ++ plnL r := by simp [plnL, hc]
      have t4 : iNe (c.toNat : Int) 10 = true := by simp; omega
      have o2 : okNews (bytesOf [c]) 1 = true := okNews_bytes _
      rw [hp, ← ih1, aT_snoc, aS_snoc]
      cases b with
      | nil =>
        show lplain1_V [_, .sl [] .full, _] ⟨[], [], []⟩ = _
        rw [lplain1_E]
        have o1 : okGrow [] (bytesOf [c]) 1 = true := by simp
        simp only [lplain1_Tr, t1, t2, t3, t4, w, byte_row, o1, o2]
        simp
      | cons x b =>
        show lplain1_V [_, .sl (bytesOf (x :: b)) (.tok 0), _] ⟨[], [((x :: b).length, 1, 5)], []⟩ = _
        rw [lplain1_E1]
        have o1 : okGrow (bytesOf (x :: b)) (bytesOf [c]) 1 = true := okGrow_bytes (by simp only [List.length_cons, List.length_nil] at h2 ⊢; omega)
        have o3 : okSize (bytesOf (x :: b)) 1 = true := okSize_bytes _
        simp only [lplain1_Tr1, t1, t2, t3, t4, w, byte_row, o1, o2, o3, xApp_bytes]
        simp
theorem lplain_law {s : List UInt8} (hs : s.length ≤ 1000000) : lplain_W s = some (.str (plnL s)) := by
  have h := lplain_loop s hs s 0 [] rfl (by omega) (by simp)
  have h' : lplain1_V [.str s, .sl [] .full, .int .i64 0] ⟨[], [], []⟩ = some (.exit 0, [.sl (bytesOf (plnL s)) (aT (plnL s))], aS 1 5 (plnL s)) := h
  unfold lplain_W lplain_Tr
  cases hp : plnL s with
  | nil =>
    rw [hp] at h'
    simp only [aT, aS] at h'
    simp only [lplain1_is0, lplain1_is1, lplain1_b_0, lplain1_b_1, lplain1_k_1, lplain1_W, h']
    simp
    exact ⟨okBytes_bytes [], unBytes_bytes []⟩
  | cons x b =>
    rw [hp] at h'
    simp only [aT, aS] at h'
    simp only [lplain1_is0, lplain1_is1, lplain1_b_0, lplain1_b_1, lplain1_k_1, lplain1_W, h']
    simp
theorem lplain_is {s : List UInt8} (hs : s.length ≤ 1000000) : lplain_is0 s = true := by simp only [lplain_is0, lplain_s, lplain_law hs]; simp
theorem lplain_v {s : List UInt8} (hs : s.length ≤ 1000000) : lplain_s s = plnL s := by simp only [lplain_s, lplain_law hs]; simp

/-! ### words joined, by the document -/
theorem jn_nil : jnW [] = [] := rfl
theorem jn_one (w : Wd) : jnW [w] = w.2.1 := by simp [jnW, joinV, Lib.join_one]
theorem jn_snoc (l : List Wd) (w : Wd) (h : l ≠ []) : jnW (l ++ [w]) = jnW l ++ 32 :: w.2.1 := by
  cases l with
  | nil => exact absurd rfl h
  | cons x l => simp [jnW, joinV, Lib.join_cons, Lib.joinTail]
theorem jn_len (n : Nat) : ∀ (l : List Wd), (∀ w ∈ l, w.2.1.length ≤ n) → (jnW l).length ≤ l.length * (n + 1) := by
  intro l h
  have key : ∀ (m : Nat), m ≤ l.length → (jnW (l.take m)).length ≤ m * (n + 1) := by
    intro m
    induction m with
    | zero => intro _; simp [jn_nil]
    | succ m ih =>
      intro hm
      have hm' : m < l.length := by omega
      have h1 := ih (by omega)
      have h2 := h _ (List.getElem_mem hm')
      rw [← List.take_append_getElem hm']
      by_cases h0 : l.take m = []
      · rw [h0, List.nil_append, jn_one, Nat.succ_mul]
        omega
      · rw [jn_snoc _ _ h0, Nat.succ_mul]
        simp only [List.length_append, List.length_cons]
        omega
  have := key l.length (Nat.le_refl _)
  rwa [List.take_length] at this
def jrT (l : List Wd) (i : Nat) : List UInt8 := jnW (l.take i)
theorem jr_succ {l : List Wd} {i : Nat} {a : Wd} (hi : i < l.length) (ha : l[i] = a) : jrT l (i + 1) = if i = 0 then a.2.1 else jrT l i ++ 32 :: a.2.1 := by
  unfold jrT
  rw [← List.take_append_getElem hi, ha]
  by_cases h : i = 0
  · subst h
    simp [jn_one]
  · have : l.take i ≠ [] := by
      intro h0
      have := congrArg List.length h0
      rw [List.length_take, List.length_nil] at this
      omega
    rw [if_neg h, jn_snoc _ _ this]
theorem rJoin_loop (l : List Wd) (hl : l.length ≤ 1000000) (hw : ∀ w ∈ l, w.2.1.length ≤ 1000000) : ∀ (m i : Nat), i + m = l.length → rJoin1_V [.sl (rOf cW l) .non, .sl (bytesOf (jrT l i)) (aT (jrT l i)), .int .i64 (i : Nat)] (aS 1 5 (jrT l i)) = some (.exit 0, [.sl (bytesOf (jnW l)) (aT (jnW l))], aS 1 5 (jnW l)) := by
  intro m
  induction m with
  | zero =>
    intro i hi
    have : i = l.length := by omega
    subst this
    have t1 : iLt (l.length : Int) (xLen (rOf cW l)) = false := by simp
    have e : jrT l l.length = jnW l := by unfold jrT; rw [List.take_length]
    rw [e]
    cases hj : jnW l with
    | nil =>
      show rJoin1_V [_, .sl [] .full, _] ⟨[], [], []⟩ = _
      rw [rJoin1_E]
      simp only [rJoin1_Tr, t1]
      simp
    | cons x b =>
      show rJoin1_V [_, .sl (bytesOf (x :: b)) (.tok 0), _] ⟨[], [((x :: b).length, 1, 5)], []⟩ = _
      rw [rJoin1_E1]
      simp only [rJoin1_Tr1, t1]
      simp [aT, aS]
  | succ m ih =>
    intro i hi
    have w := inc_i64 (i := i) (by omega)
    have hlt : i < l.length := by omega
    have h1 := ih (i + 1) (by omega)
    rw [← h1, jr_succ hlt rfl]
    have hb : (jrT l i).length ≤ i * 1000001 := by
      unfold jrT
      refine Nat.le_trans (jn_len 1000000 _ (fun w hw' => hw w (List.mem_of_mem_take hw'))) ?_
      refine Nat.mul_le_mul_right _ ?_
      rw [List.length_take]; omega
    have ha : (l[i]).2.1.length ≤ 1000000 := hw _ (List.getElem_mem hlt)
    have q1 : iLt (i : Int) (xLen (rOf cW l)) = true := by simp; omega
    have q2 : okGet [PV.int .i64 0, .str [], .int .i64 0, .int .i64 0, .str [], .int .i64 0] (rOf cW l) (nNat (i : Int)) = true := by simp; omega
    have q3 : xStr (rOf cW l) (nNat (i : Int)) 1 = (l[i]).2.1 := by simp [hlt]
    have q4 : okPos (i : Int) = true := by simp
    generalize l[i] = a at ha q3 ⊢
    obtain ⟨ak, tx, av, ap⟩ := a
    simp only at ha q3 ⊢
    have o2 : okNews (bytesOf tx) 1 = true := okNews_bytes _
    have o4 : okNews [[PV.int .u8 32]] 1 = true := by simp [one]
    have b32 : ([[PV.int .u8 32]] : List (List PV)) = bytesOf [32] := rfl
    by_cases h0 : i = 0
    · subst h0
      have hj : jrT l 0 = [] := rfl
      rw [hj, if_pos rfl]
      have t5 : iLt 0 ((0 : Nat) : Int) = false := rfl
      show rJoin1_V [_, .sl [] .full, _] ⟨[], [], []⟩ = _
      rw [rJoin1_E]
      have o1 : okGrow [] (bytesOf tx) 1 = true := okGrow_bytes (a := []) (by simp; omega)
      cases tx with
      | nil =>
        simp only [rJoin1_Tr, q1, q2, q3, q4, t5, o1, o2, w]
        simp [aT, aS]
      | cons x tx =>
        simp only [rJoin1_Tr, q1, q2, q3, q4, t5, o1, o2, w]
        simp [aT, aS, bytesOf_eq]
    · rw [if_neg h0]
      have t5 : iLt 0 (i : Int) = true := by simp; omega
      cases hj : jrT l i with
      | nil =>
        show rJoin1_V [_, .sl [] .full, _] ⟨[], [], []⟩ = _
        rw [rJoin1_E]
        have o1 : okGrow [] (bytesOf [32]) 1 = true := by simp
        have o5 : okGrow (bytesOf [32]) (bytesOf tx) 1 = true := okGrow_bytes (by simp; omega)
        have x1 : xApp [] (bytesOf [32]) = bytesOf [32] := rfl
        have o6 : okSize (bytesOf [32]) 1 = true := okSize_bytes _
        have o7 : okNews (bytesOf [32]) 1 = true := okNews_bytes _
        cases tx with
        | nil =>
          simp only [rJoin1_Tr, q1, q2, q3, q4, t5, b32, x1, o1, o2, o5, o6, o7, w]
          simp [aT, aS]
        | cons x tx =>
          simp only [rJoin1_Tr, q1, q2, q3, q4, t5, b32, x1, o1, o2, o5, o6, o7, w, xApp_bytes]
          simp [aT, aS, bytesOf_eq]
      | cons y b =>
        rw [hj] at hb
        show rJoin1_V [_, .sl (bytesOf (y :: b)) (.tok 0), _] ⟨[], [((y :: b).length, 1, 5)], []⟩ = _
        rw [rJoin1_E1]
        have hb2 : i * 1000001 ≤ 1000000 * 1000001 := Nat.mul_le_mul_right _ (by omega)
        have o1 : okGrow (bytesOf (y :: b)) (bytesOf [32]) 1 = true := okGrow_bytes (by simp only [List.length_cons, List.length_nil] at hb ⊢; omega)
        have o5 : okGrow (bytesOf (y :: b ++ [32])) (bytesOf tx) 1 = true := okGrow_bytes (by simp only [List.length_cons, List.length_nil, List.length_append] at hb ⊢; omega)
        have o6 : okSize (bytesOf (y :: b ++ [32])) 1 = true := okSize_bytes _
        have o8 : okSize (bytesOf (y :: b)) 1 = true := okSize_bytes _
        have o7 : okNews (bytesOf [32]) 1 = true := okNews_bytes _
        cases tx with
        | nil =>
          simp only [rJoin1_Tr1, q1, q2, q3, q4, t5, b32, o1, o2, o5, o6, o7, o8, w, xApp_bytes]
          simp [aT, aS]
        | cons x tx =>
          simp only [rJoin1_Tr1, q1, q2, q3, q4, t5, b32, o1, o2, o5, o6, o7, o8, w, xApp_bytes]
          simp [aT, aS, bytesOf_eq]
theorem rJoin_law (l : List Wd) (hl : l.length ≤ 1000000) (hw : ∀ w ∈ l, w.2.1.length ≤ 1000000) : rJoin_W (rOf cW l) = some (.str (jnW l)) := by
  have h := rJoin_loop l hl hw l.length 0 (by omega)
  have h' : rJoin1_V [.sl (rOf cW l) .non, .sl [] .full, .int .i64 0] ⟨[], [], []⟩ = some (.exit 0, [.sl (bytesOf (jnW l)) (aT (jnW l))], aS 1 5 (jnW l)) := h
  unfold rJoin_W rJoin_Tr
  cases hp : jnW l with
  | nil =>
    rw [hp] at h'
    simp only [aT, aS] at h'
    simp only [rJoin1_is0, rJoin1_is1, rJoin1_b_0, rJoin1_b_1, rJoin1_k_1, rJoin1_W, h']
    simp
    exact ⟨okBytes_bytes [], unBytes_bytes []⟩
  | cons x b =>
    rw [hp] at h'
    simp only [aT, aS] at h'
    simp only [rJoin1_is0, rJoin1_is1, rJoin1_b_0, rJoin1_b_1, rJoin1_k_1, rJoin1_W, h']
    simp
theorem rJoin_is (l : List Wd) (hl : l.length ≤ 1000000) (hw : ∀ w ∈ l, w.2.1.length ≤ 1000000) : rJoin_is0 (rOf cW l) = true := by simp only [rJoin_is0, rJoin_s, rJoin_law l hl hw]; simp
theorem rJoin_v (l : List Wd) (hl : l.length ≤ 1000000) (hw : ∀ w ∈ l, w.2.1.length ≤ 1000000) : rJoin_s (rOf cW l) = jnW l := by simp only [rJoin_s, rJoin_law l hl hw]; simp

/-! ### the line of a place -/
theorem rWhere_loop (s p : List UInt8) (hs : s.length ≤ 1000000) (n : Nat) (hn : n ≤ s.length) (hp : p = s.take n) : ∀ (m i : Nat), i + m = n →
    rWhere1_V [.str s, .int .i64 (n : Nat), .int .i64 (1 + ((p.take i).count 10 : Nat)), .int .i64 (Lib.lastIdx ⟨p.toArray⟩ 10 i + 1), .int .i64 (i : Nat)] ⟨[], [], []⟩ = some (.exit 0, [.int .i64 (n : Nat), .int .i64 (1 + (p.count 10 : Nat)), .int .i64 (Lib.lastIdx ⟨p.toArray⟩ 10 n + 1)], ⟨[], [], []⟩) := by
  have hpl : p.length = n := by rw [hp, List.length_take]; omega
  intro m
  induction m with
  | zero =>
    intro i hi
    have : i = n := by omega
    subst this
    have e : p.take i = p := List.take_of_length_le (by omega)
    rw [rWhere1_E, e]
    simp [rWhere1_Tr]
  | succ m ih =>
    intro i hi
    have w := inc_i64 (i := i) (by omega)
    have h1 := ih (i + 1) (by omega)
    have hip : i < p.length := by omega
    have hget : p[i]? = some p[i] := List.getElem?_eq_getElem hip
    have hs1 : s.getD i 0 = p[i] := by
      have : s[i]? = some p[i] := by
        rw [← hget, hp, List.getElem?_take, if_pos (by omega)]
      rw [List.getD_eq_getElem?_getD, this]; rfl
    have hd : (⟨p.toArray⟩ : ByteArray).data[i]! = p[i] := by
      show p.toArray[i]! = p[i]
      simp [hip]
    have hli : Lib.lastIdx ⟨p.toArray⟩ 10 (i + 1) = if ((p[i]).toNat : Int) = 10 then (i : Int) else Lib.lastIdx ⟨p.toArray⟩ 10 i := by
      rw [Lib.lastIdx, hd]
    have hcnt : (p.take (i + 1)).count 10 = (p.take i).count 10 + if (p[i]).toNat = 10 then 1 else 0 := by
      rw [← List.take_append_getElem hip, List.count_append, List.count_singleton]
      congr 1
      by_cases h : (p[i]).toNat = 10
      · have h' : p[i] = 10 := UInt8.toNat_inj.1 h
        rw [if_pos h, h']; simp
      · have h' : p[i] ≠ 10 := fun hh => h (by rw [hh]; rfl)
        rw [if_neg h, if_neg (by simpa using h')]
    rw [hli, hcnt] at h1
    have t1 : iLt (i : Int) (n : Nat) = true := by simp; omega
    have t2 : okIdx s (i : Int) = true := by simp; omega
    have t3 : sAt s (i : Int) = ((p[i]).toNat : Int) := by rw [sAt_eq, Int.toNat_natCast, hs1]
    have hc := List.count_le_length (a := (10 : UInt8)) (l := p.take i)
    have hc2 : (p.take i).length ≤ 1000000 := by rw [List.length_take]; omega
    rw [rWhere1_E]
    by_cases h : (p[i]).toNat = 10
    · have t4 : iEq ((p[i]).toNat : Int) 10 = true := by simp; omega
      have w2 : iAdd .i64 (1 + (((p.take i).count 10 : Nat) : Int)) 1 = 1 + (((p.take i).count 10 + 1 : Nat) : Int) := by
        rw [show (1 + (((p.take i).count 10 + 1 : Nat) : Int)) = 1 + (((p.take i).count 10 : Nat) : Int) + 1 by omega]
        exact wrap_i64 (by omega)
      rw [if_pos h, if_pos (by omega)] at h1
      simp only [rWhere1_Tr, t1, t2, t3, t4, w, w2]
      rw [← h1]
      simp
    · have t4 : iEq ((p[i]).toNat : Int) 10 = false := by simp; omega
      rw [if_neg h, if_neg (by omega)] at h1
      simp only [rWhere1_Tr, t1, t2, t3, t4, w]
      rw [← h1]
      simp
/-- What Where says of a place within a text. -/
def whV (s : List UInt8) (n : Int) : PV := if n < 0 ∨ (s.length : Int) < n then .tup [.int .i64 0, .int .i64 0, .int .i64 5] else .tup [.int .i64 (1 + ((s.take n.toNat).count 10 : Nat)), .int .i64 (n - Lib.lastIdx ⟨(s.take n.toNat).toArray⟩ 10 n.toNat), .int .i64 0]
theorem rWhere_law {s : List UInt8} (hs : s.length ≤ 1000000) (n : Int) : rWhere_W s n = some (whV s n) := by
  unfold rWhere_W rWhere_Tr whV
  by_cases h1 : n < 0
  · simp [h1]
  · by_cases h2 : (s.length : Int) < n
    · simp [h1, h2]
    · rw [if_neg (by omega)]
      obtain ⟨k, rfl⟩ : ∃ k : Nat, n = (k : Int) := ⟨n.toNat, by omega⟩
      have h := rWhere_loop s (s.take k) hs k (by omega) rfl k 0 (by omega)
      have h' : rWhere1_V [.str s, .int .i64 (k : Nat), .int .i64 1, .int .i64 0, .int .i64 0] ⟨[], [], []⟩ = some (.exit 0, [.int .i64 (k : Nat), .int .i64 (1 + ((s.take k).count 10 : Nat)), .int .i64 (Lib.lastIdx ⟨(s.take k).toArray⟩ 10 k + 1)], ⟨[], [], []⟩) := h
      have hb := lastIdx_bd ⟨(s.take k).toArray⟩ 10 k
      simp only [Int.toNat_natCast]
      generalize Lib.lastIdx ⟨(s.take k).toArray⟩ 10 k = q at h' hb ⊢
      have w1 : iSub .i64 (k : Int) (q + 1) = (k : Int) - (q + 1) := wrap_i64 (by omega)
      have w2 : iAdd .i64 ((k : Int) - (q + 1)) 1 = (k : Int) - q := by
        rw [show (k : Int) - q = (k : Int) - (q + 1) + 1 by omega]
        exact wrap_i64 (by omega)
      have t1 : iLt (k : Int) 0 = false := by simp
      have t2 : iLt (sLen s) (k : Int) = false := by simp; omega
      simp only [t1, t2, rWhere1_is0, rWhere1_line, rWhere1_at_, rWhere1_from_, rWhere1_W, h']
      simp [w1, w2]
theorem lWhere_law {s : List UInt8} (hs : s.length ≤ 1000000) (n : Int) : lWhere_W s n = some (whV s n) := by
  unfold lWhere_W lWhere_Tr whV
  by_cases h1 : n < 0
  · simp [h1]
  · by_cases h2 : (s.length : Int) < n
    · simp [h1, h2]
    · rw [if_neg (by omega)]
      obtain ⟨k, rfl⟩ : ∃ k : Nat, n = (k : Int) := ⟨n.toNat, by omega⟩
      have hb := lastIdx_bd ⟨(s.take k).toArray⟩ 10 k
      have hc := List.count_le_length (a := (10 : UInt8)) (l := s.take k)
      have hc2 : (s.take k).length = k := by rw [List.length_take]; omega
      have e1 : sSub s 0 (nNat (k : Int)) = s.take k := by simp
      have e2 : cntV (s.take k) 10 = ((s.take k).count 10 : Nat) := rfl
      have e3 : lidxV (s.take k) 10 = Lib.lastIdx ⟨(s.take k).toArray⟩ 10 k := by
        unfold lidxV Lib.lastIndexByte
        rw [show (⟨(s.take k).toArray⟩ : ByteArray).size = k by simp [ByteArray.size]; omega]
      simp only [Int.toNat_natCast, e1, e2, e3]
      generalize Lib.lastIdx ⟨(s.take k).toArray⟩ 10 k = q at hb ⊢
      generalize (s.take k).count 10 = cn at hc ⊢
      have w1 : iSub .i64 (k : Int) q = (k : Int) - q := wrap_i64 (by omega)
      have w2 : iAdd .i64 1 (cn : Int) = 1 + (cn : Int) := wrap_i64 (by omega)
      have t1 : iLt (k : Int) 0 = false := by simp
      have t2 : iLt (sLen s) (k : Int) = false := by simp; omega
      have t3 : iLe (sLen (s.take k)) 4611686018427387903 = true := by simp only [iLe_eq, sLen_eq, decide_eq_true_eq]; omega
      have t4 : okSub true (okPos (k : Int)) 0 (nNat (k : Int)) (nLen s) = true := by simp; omega
      simp only [t1, t2, t3, t4, w1, w2]
      simp
end Go.Pv
