import Derived.Test.YtdfahkeodlfopaaDoorPvT8
set_option maxHeartbeats 4000000
set_option maxRecDepth 200000
set_option linter.unusedSimpArgs false
set_option linter.unusedVariables false
namespace Go.Pv
open Go Go.Proofs
/-! ### three tuples sorted: reckoned -/
noncomputable def G_ins : GamT := ofL [(16, .pure F_TCmp)]
noncomputable def D_ins : List PV → Store → Tr (PV × Store) := fun a σ => Tr.ofOpt (pcallSU tbT (gam G_ins) 300 Tryd.f119 a σ)
theorem sim_ins (gl : Nat → Option Obj) : SimS Tryd.prog gl 119 fun a σ => (D_ins a σ).run :=
  simS_opt (SimS.of_evalU tbT_ok (gamOk_cons (sim_TCmp gl) gamOk_nil) noMixed Tryd.func119 rfl (by rfl) (by kernel_rfl) 300)
noncomputable def G_stb : GamT := ofL [(119, .store D_ins)]
noncomputable def D_stb : List PV → Store → Tr (PV × Store) := fun a σ => Tr.ofOpt (pcallSU tbT (gam G_stb) 300 Tryd.f108 a σ)
theorem sim_stb (gl : Nat → Option Obj) : SimS Tryd.prog gl 108 fun a σ => (D_stb a σ).run :=
  simS_opt (SimS.of_evalU tbT_ok (gamOk_store (sim_ins gl) gamOk_nil) noMixed Tryd.func108 rfl (by rfl) (by kernel_rfl) 300)
noncomputable def G_ssf : GamT := ofL [(108, .store D_stb)]
noncomputable def D_ssf : List PV → Store → Tr (PV × Store) := fun a σ => Tr.ofOpt (pcallSU tbT (gam G_ssf) 300 Tryd.f83 a σ)
theorem sim_ssf (gl : Nat → Option Obj) : SimS Tryd.prog gl 83 fun a σ => (D_ssf a σ).run :=
  simS_opt (SimS.of_evalU tbT_ok (gamOk_store (sim_stb gl) gamOk_nil) noMixed Tryd.func83 rfl (by rfl) (by kernel_rfl) 300)
noncomputable def G_cpf : GamT := ofL [(85, .pure F_sclo)]
noncomputable def D_cpf : List PV → Store → Tr (PV × Store) := fun a σ => Tr.ofOpt (pcallSU tbT (gam G_cpf) 300 Tryd.f84 a σ)
theorem sim_cpf (gl : Nat → Option Obj) : SimS Tryd.prog gl 84 fun a σ => (D_cpf a σ).run :=
  simS_opt (SimS.of_evalU tbT_ok (gamOk_cons (sim_sclo gl) gamOk_nil) noMixed Tryd.func84 rfl (by rfl) (by kernel_rfl) 300)
noncomputable def G_clo : GamT := ofL [(objKey, .flag)]
noncomputable def D_clo : List PV → Store → Tr (PV × Store) := fun a σ => Tr.ofOpt (pcallSU tbT (gam G_clo) 300 Tryd.f82 a σ)
theorem sim_clo (gl : Nat → Option Obj) : SimS Tryd.prog gl 82 fun a σ => (D_clo a σ).run :=
  simS_opt (SimS.of_evalU tbT_ok (gamOk_con (K := .flag) trivial gamOk_nil) noMixed Tryd.func82 rfl (by rfl) (by kernel_rfl) 300)
noncomputable def G_srd : GamT := ofL [(82, .store D_clo), (83, .store D_ssf), (84, .store D_cpf)]
noncomputable def F_srd : List PV → Tr PV := fun a => Tr.ofOpt (pcallU tbT (gam G_srd) 300 Tryd.f61 a)
theorem sim_srd (gl : Nat → Option Obj) : SimP Tryd.prog gl 61 fun a => (F_srd a).run :=
  simP_opt (SimP.of_evalU tbT_ok (gamOk_store (sim_clo gl) (gamOk_store (sim_ssf gl) (gamOk_store (sim_cpf gl) gamOk_nil))) noMixed Tryd.func61 rfl (by rfl) (by kernel_rfl) 300)
noncomputable def G_cpd : GamT := ofL [(64, .pure F_CloneT)]
noncomputable def F_cpd : List PV → Tr PV := fun a => Tr.ofOpt (pcallU tbT (gam G_cpd) 300 Tryd.f62 a)
theorem sim_cpd (gl : Nat → Option Obj) : SimP Tryd.prog gl 62 fun a => (F_cpd a).run :=
  simP_opt (SimP.of_evalU tbT_ok (gamOk_cons (sim_CloneT gl) gamOk_nil) noMixed Tryd.func62 rfl (by rfl) (by kernel_rfl) 300)
noncomputable def G_Srt : GamT := ofL [(62, .pure F_cpd), (61, .pure F_srd)]
def tup1 (n : Int) : List PV := [.sl [[.int .i64 1, .int .i64 n, .str []]] .non]
theorem srt3 : pcallU tbT (gam G_Srt) 300 Tryd.f23 [.sl [tup1 2, tup1 1, tup1 2] .non] = some (.sl [tup1 1, tup1 2] .non) := by kernel_rfl
noncomputable def F_Srt : List PV → Tr PV
  | [.sl [[.sl [[.int .i64 1, .int .i64 2, .str []]] .non], [.sl [[.int .i64 1, .int .i64 1, .str []]] .non], [.sl [[.int .i64 1, .int .i64 2, .str []]] .non]] .non] => .ret (.sl [tup1 1, tup1 2] .non)
  | _ => .fail
theorem sim_Srt (gl : Nat → Option Obj) : SimP Tryd.prog gl 23 fun args => (F_Srt args).run := by
  refine SimP.imp (SimP.of_evalU tbT_ok (gamOk_cons (sim_cpd gl) (gamOk_cons (sim_srd gl) gamOk_nil)) noMixed Tryd.func23 rfl (by rfl) (by kernel_rfl) 300) ?_
  intro args x h
  unfold F_Srt at h
  split at h
  · cases h
    exact srt3
  · cases h
/-! ### the text of (7) -/
theorem text7 : TText_W [[.int .i64 1, .int .i64 7, .str []]] = some (.tup [.str [40, 55, 41], .int .i64 0]) := by
  have e0 : ([[.int .i64 1, .int .i64 7, .str []]] : List (List PV)) = rOf cV [(1, 7, [])] := rfl
  have e1 : TText1_V [.sl [] .full, .sl (rOf cV [(1, 7, [])]) .non, .int .i64 1, .int .i64 0] ⟨[], [], []⟩ = TText1_V [.sl (rOf cS [[55]]) (.tok 0), .sl (rOf cV [(1, 7, [])]) .non, .int .i64 1, .int .i64 1] ⟨[], [(1, 1, 9)], []⟩ := by
    rw [TText1_E]
    have : textW 1 7 [] = [55] := by kernel_rfl
    have w : iAdd .i64 0 1 = 1 := by kernel_rfl
    simp [TText1_Tr, this, w, one]
  have e2 : TText1_V [.sl (rOf cS [[55]]) (.tok 0), .sl (rOf cV [(1, 7, [])]) .non, .int .i64 1, .int .i64 1] ⟨[], [(1, 1, 9)], []⟩ = some (.exit 0, [.sl (rOf cS [[55]]) (.tok 0)], ⟨[], [(1, 1, 9)], []⟩) := by
    rw [TText1_E1]
    simp [TText1_Tr1]
  have hj : Join_W (rOf cS [[55]]) [44, 32] = some (.str [55]) := by
    unfold Join_W Join_Tr
    simp
  have hc : chkT (rOf cV [(1, 7, [])]) = 0 := by kernel_rfl
  unfold TText_W TText_Tr
  rw [e0]
  simp [TText1_is0, TText1_is1, TText1_l_0, TText1_l_1, TText1_k_1, TText1_W, e1, e2, hc, Join_is0, Join_s, hj]
  unfold maxLen; omega
end Go.Pv
