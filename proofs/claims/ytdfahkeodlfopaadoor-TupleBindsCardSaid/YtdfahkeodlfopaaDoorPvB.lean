import Derived.Test.YtdfahkeodlfopaaDoorPvS1
import Derived.Test.YtdfahkeodlfopaaDoorPvBuild
set_option maxHeartbeats 4000000
set_option maxRecDepth 200000
set_option linter.unusedSimpArgs false
set_option linter.unusedVariables false
namespace Go.Pv
open Go Go.Proofs Go.RowKit

/-! ### strings.Builder -/
section
variable (b : Nat) (w : World)
theorem copyCheck_used (h0 : w.cell? ⟨b, 0, none⟩ = some (.pointer (some ⟨b, 0, none⟩))) : Calls Tryd.prog 112 #[.pointer (some ⟨b, 0, none⟩)] w fun e w' => e = .returned (.tuple #[]) ∧ w' = w := by
  obtain ⟨j, hj, _⟩ : ∃ j, Tryd.prog.info? 117 = some j ∧ j.size = 2 := ⟨_, rfl, rfl⟩
  have mixed : Tryd.prog.follows .mixedOrders = true := noMixed
  have t72 := Tryd.underlying117; have a72 := Tryd.isAgg117; have z72 := Tryd.sizeOf117; have v72 := Tryd.zeroValue117; have u72 := run_underlying Tryd.underlying117
  have t70 := Tryd.underlying114; have a70 := Tryd.isAgg114; have z70 := Tryd.sizeOf114; have v70 := Tryd.zeroValue114; have u70 := run_underlying Tryd.underlying114
  have t164 := Tryd.underlying152; have a164 := Tryd.isAgg152; have z164 := Tryd.sizeOf152; have v164 := Tryd.zeroValue152; have u164 := run_underlying Tryd.underlying152
  go_enter Tryd.func112, Tryd.ntmps112
  go_wp2
  rw [Lib.run_neq_ptr_same w _ t70 hj]
  go_wp2
  go_end0
  exact ⟨rfl, rfl⟩
theorem copyCheck_fresh (h0 : w.cell? ⟨b, 0, none⟩ = some (.pointer none)) (hsh : w.shape? b = some (117, 2)) (hfz : w.frozen? ⟨b, 0, none⟩ = false) :
    Calls Tryd.prog 112 #[.pointer (some ⟨b, 0, none⟩)] w fun e w' => e = .returned (.tuple #[]) ∧ w' = w.setCell ⟨b, 0, none⟩ (.pointer (some ⟨b, 0, none⟩)) := by
  obtain ⟨j, hj, hjs⟩ : ∃ j, Tryd.prog.info? 117 = some j ∧ j.size = 2 := ⟨_, rfl, rfl⟩
  have mixed : Tryd.prog.follows .mixedOrders = true := noMixed
  have t72 := Tryd.underlying117; have a72 := Tryd.isAgg117; have z72 := Tryd.sizeOf117; have v72 := Tryd.zeroValue117; have u72 := run_underlying Tryd.underlying117
  have t70 := Tryd.underlying114; have a70 := Tryd.isAgg114; have z70 := Tryd.sizeOf114; have v70 := Tryd.zeroValue114; have u70 := run_underlying Tryd.underlying114
  have t164 := Tryd.underlying152; have a164 := Tryd.isAgg152; have z164 := Tryd.sizeOf152; have v164 := Tryd.zeroValue152; have u164 := run_underlying Tryd.underlying152
  go_enter Tryd.func112, Tryd.ntmps112
  go_wp2
  rw [Lib.run_to_unsafe w ⟨b, 0, none⟩ t70 t164 hj (by rw [hjs]; decide) hsh (Nat.zero_lt_succ 1)]
  simp only [Result.andThen]
  rw [Oper.upon_value]
  go_wp2
  rw [run_callFunc_extern Tryd.func125 (by kernel_rfl) (by kernel_rfl) (by kernel_rfl) (e := Extern.AbiNoEscape.same) (by kernel_rfl)]
  rw [Lib.run_noEscape]
  simp only [Result.andThen]
  rw [Oper.upon_value]
  go_wp2
  rw [Lib.run_from_unsafe w ⟨b, 0, none⟩ t164 t70 hj hsh (by kernel_rfl)]
  simp only [Result.andThen]
  rw [Oper.upon_value]
  go_wp2
  go_end0
  exact ⟨rfl, rfl⟩
end
theorem sim_copyCheck (gl : Nat → Option Obj) : SimS Tryd.prog gl 112 fun args σ => (D_copyCheck 117 args σ).run :=
  sim_copyCheck_of (by decide) (fun b w => copyCheck_fresh b w) (fun b w => copyCheck_used b w) ⟨_, Tryd.func112, by rfl, by rfl⟩
theorem sim_String (gl : Nat → Option Obj) : SimS Tryd.prog gl 96 fun args σ => (D_String 5 args σ).run :=
  Any.sim_String Tryd.lays169 Tryd.Builder_Extra_169 ⟨_, Tryd.func96, by rfl, by rfl⟩

def D_WB : List PV → Store → Tr (PV × Store)
  | [.ptr 1 0, .int .u8 c], ⟨[o, [.nilp, .sl [] .full]], [], [t0, 117]⟩ => .ret (.nili, ⟨[o, [.ptr 1 0, .sl [[.int .u8 c]] (.tok 0)]], [(1, 1, 5)], [t0, 117]⟩)
  | [.ptr 1 0, .int .u8 c], ⟨[o, [.ptr 1 0, .sl xs (.tok 0)]], [(v, 1, 5)], [t0, 117]⟩ => Tr.chk (okGrow xs [[.int .u8 c]] 1) (Tr.chk (okSize xs 1) (Tr.chk (nEq v (nXs xs))
      (.ret (.nili, ⟨[o, [.ptr 1 0, .sl (xApp xs [[.int .u8 c]]) (.tok 0)]], [(nXs (xApp xs [[.int .u8 c]]), 1, 5)], [t0, 117]⟩))))
  | _, _ => .fail
theorem sim_WB (gl : Nat → Option Obj) : SimS Tryd.prog gl 93 fun args σ => (D_WB args σ).run := by
  refine SimS.of_tree (G := ofL [(112, .store (D_copyCheck 117))]) (L := fun _ _ _ => .fail) tbT_ok (gamOk_store (sim_copyCheck gl) gamOk_nil) noMixed Tryd.func93 rfl (by rfl) (by kernel_rfl) (loopOk_none (by kernel_rfl)) ?_
  intro args σ x σ' h hr
  unfold D_WB at h
  split at h
  · rename_i c o t0
    cases h
    refine Tr.run_as (Tr.ite true
        (Tr.ite (okGrow [] [[PV.int IntKind.u8 c]] 1)
          (Tr.ite (okNews [[PV.int IntKind.u8 c]] 1)
            (Tr.ite (okSize [] 1) (Tr.ret (PV.nili, Store.mk [o, [PV.ptr 1 0, PV.sl (xApp [] [[PV.int IntKind.u8 c]]) (Tag.tok 0)]] [(nXs (xApp [] [[PV.int IntKind.u8 c]]), 1, 5)] [t0, 117])) Tr.fail)
            Tr.fail)
          Tr.fail)
        Tr.fail) (by kernel_rfl) ?_
    simp [one]
  · rename_i c o xs v t0
    obtain ⟨h1, q1⟩ := Tr.chk_some h
    obtain ⟨h2, q2⟩ := Tr.chk_some q1
    obtain ⟨h3, q3⟩ := Tr.chk_some q2
    cases q3
    refine Tr.run_as (Tr.ite (okGrow xs [[PV.int IntKind.u8 c]] 1)
        (Tr.ite (okNews [[PV.int IntKind.u8 c]] 1)
          (Tr.ite (okSize xs 1)
            (Tr.ite (nEq v (nXs xs)) (Tr.ret (PV.nili, Store.mk [o, [PV.ptr 1 0, PV.sl (xApp xs [[PV.int IntKind.u8 c]]) (Tag.tok 0)]] [(nXs (xApp xs [[PV.int IntKind.u8 c]]), 1, 5)] [t0, 117])) Tr.fail)
            Tr.fail)
          Tr.fail)
        Tr.fail) (by kernel_rfl) ?_
    simp at h1 h2 h3
    simp [h1, h2, h3, one]
  · cases h
def D_WS : List PV → Store → Tr (PV × Store)
  | [.ptr 1 0, .str l], ⟨[o, [.ptr 1 0, .sl xs (.tok 0)]], [(v, 1, 5)], [t0, 117]⟩ => Tr.chk (bNot (xNil (bytesOf l))) (Tr.chk (okGrow xs (bytesOf l) 1) (Tr.chk (okSize xs 1) (Tr.chk (nEq v (nXs xs))
      (.ret (.tup [.int .i64 (sLen l), .nili], ⟨[o, [.ptr 1 0, .sl (xApp xs (bytesOf l)) (.tok 0)]], [(nXs (xApp xs (bytesOf l)), 1, 5)], [t0, 117]⟩)))))
  | _, _ => .fail
theorem sim_WS (gl : Nat → Option Obj) : SimS Tryd.prog gl 94 fun args σ => (D_WS args σ).run := by
  refine SimS.of_tree (G := ofL [(112, .store (D_copyCheck 117))]) (L := fun _ _ _ => .fail) tbT_ok (gamOk_store (sim_copyCheck gl) gamOk_nil) noMixed Tryd.func94 rfl (by rfl) (by kernel_rfl) (loopOk_none (by kernel_rfl)) ?_
  intro args σ x σ' h hr
  unfold D_WS at h
  split at h
  · rename_i l o xs v t0
    obtain ⟨h0, q0⟩ := Tr.chk_some h
    obtain ⟨h1, q1⟩ := Tr.chk_some q0
    obtain ⟨h2, q2⟩ := Tr.chk_some q1
    obtain ⟨h3, q3⟩ := Tr.chk_some q2
    cases q3
    refine Tr.run_as (Tr.ite (okGrow xs (bytesOf l) 1)
        (Tr.ite (okNews (bytesOf l) 1)
          (Tr.ite (okSize xs 1)
            (Tr.ite (xNil (bytesOf l)) (Tr.ret (PV.tup [PV.int IntKind.i64 (sLen l), PV.nili], Store.mk [o, [PV.ptr 1 0, PV.sl xs (Tag.tok 0)]] [(v, 1, 5)] [t0, 117]))
              (Tr.ite (nEq v (nXs xs))
                (Tr.ret (PV.tup [PV.int IntKind.i64 (sLen l), PV.nili], Store.mk [o, [PV.ptr 1 0, PV.sl (xApp xs (bytesOf l)) (Tag.tok 0)]] [(nXs (xApp xs (bytesOf l)), 1, 5)] [t0, 117])) Tr.fail))
            Tr.fail)
          Tr.fail)
        Tr.fail) (by kernel_rfl) ?_
    simp at h0 h1 h2 h3
    simp [h0, h1, h2, h3]
  · cases h

/-! ### value.Text -/
def textW (k n : Int) (s : List UInt8) : List UInt8 := if isV k n s = true then (if k = 1 then itoaV n else symV s) else []
def F_Text : List PV → Tr PV
  | [.agg [.int .i64 k, .int .i64 n, .str s]] => .ret (.tup [.str (textW k n s), .int .i64 (checkV k n s)])
  | _ => .fail
def d_Text : List PV → Store → Option (Int × Int × List UInt8 × Int × Int)
  | [.ptr 0 0, .ptr 1 0, .int .i64 m, .int .i64 i], ⟨[[.int .i64 k, .int .i64 n, .str s], [.ptr 1 0, .sl [[.int .u8 34]] (.tok 0)]], [(1, 1, 5)], [36, 117]⟩ => some (k, n, s, m, i)
  | _, _ => none
def st_Text (k n : Int) (s : List UInt8) (b : List UInt8) : Store := ⟨[[.int .i64 k, .int .i64 n, .str s], [.ptr 1 0, .sl (bytesOf b) (.tok 0)]], [(nLen b, 1, 5)], [36, 117]⟩
def r_Text : Int × Int × List UInt8 × Int × Int → Tr (PExit × List (Nat × PV) × Store)
  | (k, n, s, m, i) => Tr.chk (iEq i 0) (Tr.chk (iEq m (sLen s)) (Tr.chk (iLe (sLen s) 256) (.ret (.exit 0, [(1, .ptr 0 0), (5, .ptr 1 0)], ⟨[[.int .i64 k, .int .i64 n, .str s], [.ptr 1 0, .sl (bytesOf (symH s)) (.tok 0)]], [(nLen (symH s), 1, 5)], [36, 117]⟩))))
def L_Text : LpsT := fun r fr σ => if r = 9 then oracle 34 [1, 5, 21, 22] d_Text r_Text fr σ else .fail
noncomputable def c_Text : Code := loopN Tryd.f72 0
theorem loop_Text (gl : Nat → Option Obj) : ∀ vs σ a e out σ', d_Text vs σ = some a → (r_Text a).run = some (e, out, σ') → LDoes Tryd.prog gl c_Text (mk 34 ([1, 5, 21, 22].zip vs)) σ e (mk 34 out) σ' := by
  intro vs st a e out σ' hd hr
  unfold d_Text at hd
  split at hd
  · rename_i m i k n s
    cases hd
    obtain ⟨h1, h2⟩ := Tr.chk_some hr
    obtain ⟨h3, h4⟩ := Tr.chk_some h2
    obtain ⟨h5, h6⟩ := Tr.chk_some h4
    simp at h1 h3 h5
    subst h1 h3
    clear hr h2 h4
    cases h6
    have hG : GamOk Tryd.prog gl (gam (ofL [(95, .pure F_one), (94, .store D_WS)])) := gamOk_cons (sim_one gl) (gamOk_store (sim_WS gl) gamOk_nil)
    have key : ∀ (m : Nat) (i : Int) (b : List UInt8), 0 ≤ i → i + m = s.length → b ++ symB (s.drop i.toNat) = symH s → b.length ≤ 1 + 4 * i.toNat →
        LDoes Tryd.prog gl c_Text (mk 34 ([1, 5, 21, 22].zip [.ptr 0 0, .ptr 1 0, .int .i64 (sLen s), .int .i64 i])) (st_Text k n s b) (.exit 0) (mk 34 [(1, .ptr 0 0), (5, .ptr 1 0)]) (st_Text k n s (symH s)) := by
      intro m
      induction m with
      | zero =>
        intro i b h0 hi hf hb
        have e1 : s.drop i.toNat = [] := by apply List.drop_eq_nil_of_le; omega
        rw [e1] at hf
        simp [symB] at hf
        subst hf
        unfold st_Text
        refine LDoes.round tbT_ok hG noMixed (L := fun _ _ _ => .fail) (loopOk_none (by kernel_rfl)) (by kernel_rfl) ?_
        refine Tr.all_as (Tr.ite (iLt i (sLen s))
            (Tr.ite (okIdx s i)
              (Tr.ite (bNot (xNil (bytesOf (oneV (sAt s i)))))
                (Tr.ite (okGrow (bytesOf (symH s)) (bytesOf (oneV (sAt s i))) 1)
                  (Tr.ite (okSize (bytesOf (symH s)) 1)
                    (Tr.ite (nEq (nLen (symH s)) (nXs (bytesOf (symH s))))
                      (Tr.ret
                        (PExit.normal, [23],
                          [PV.top, PV.ptr 0 0, PV.top, PV.top, PV.top, PV.ptr 1 0, PV.int IntKind.i64 i, PV.top, PV.top, PV.top, PV.top, PV.top, PV.top, PV.top, PV.top, PV.top, PV.top, PV.top, PV.top, PV.top,
                            PV.top, PV.int IntKind.i64 (sLen s), PV.int IntKind.i64 (iAdd IntKind.i64 i 1), PV.bool true, PV.int IntKind.i64 i, PV.ptr 0 2, PV.str s, PV.int IntKind.i64 i,
                            PV.int IntKind.u8 (sAt s i), PV.str (oneV (sAt s i)), PV.tup [PV.int IntKind.i64 (sLen (oneV (sAt s i))), PV.nili], PV.int IntKind.i64 (iAdd IntKind.i64 i 1), PV.top, PV.top],
                          Store.mk [[PV.int IntKind.i64 k, PV.int IntKind.i64 n, PV.str s], [PV.ptr 1 0, PV.sl (xApp (bytesOf (symH s)) (bytesOf (oneV (sAt s i)))) (Tag.tok 0)]]
                            [(nXs (xApp (bytesOf (symH s)) (bytesOf (oneV (sAt s i)))), 1, 5)] [36, 117]))
                      Tr.fail)
                    Tr.fail)
                  Tr.fail)
                Tr.fail)
              Tr.fail)
            (Tr.ret
              (PExit.exit 0, [23],
                [PV.top, PV.ptr 0 0, PV.top, PV.top, PV.top, PV.ptr 1 0, PV.top, PV.top, PV.top, PV.top, PV.top, PV.top, PV.top, PV.top, PV.top, PV.top, PV.top, PV.top, PV.top, PV.top, PV.top,
                  PV.int IntKind.i64 (sLen s), PV.int IntKind.i64 i, PV.bool false, PV.top, PV.top, PV.top, PV.top, PV.top, PV.top, PV.top, PV.top, PV.top, PV.top],
                Store.mk [[PV.int IntKind.i64 k, PV.int IntKind.i64 n, PV.str s], [PV.ptr 1 0, PV.sl (bytesOf (symH s)) (Tag.tok 0)]] [(nLen (symH s), 1, 5)] [36, 117]))) (by kernel_rfl) ?_
        exact Tr.all_f (by simp; omega) ⟨rfl, by simp [Weak, mk, mkFrom, look], rfl⟩
      | succ m ih =>
        intro i b h0 hi hf hb
        obtain ⟨v, hv⟩ := get_lt (l := s) (i := i.toNat) (by omega)
        rw [drop_of_get hv] at hf
        have hone := oneV_len v.toNat
        have e2 : (i + 1).toNat = i.toNat + 1 := by omega
        unfold st_Text
        refine LDoes.round tbT_ok hG noMixed (L := fun _ _ _ => .fail) (loopOk_none (by kernel_rfl)) (by kernel_rfl) ?_
        refine Tr.all_as (Tr.ite (iLt i (sLen s))
            (Tr.ite (okIdx s i)
              (Tr.ite (bNot (xNil (bytesOf (oneV (sAt s i)))))
                (Tr.ite (okGrow (bytesOf b) (bytesOf (oneV (sAt s i))) 1)
                  (Tr.ite (okSize (bytesOf b) 1)
                    (Tr.ite (nEq (nLen b) (nXs (bytesOf b)))
                      (Tr.ret
                        (PExit.normal, [23],
                          [PV.top, PV.ptr 0 0, PV.top, PV.top, PV.top, PV.ptr 1 0, PV.int IntKind.i64 i, PV.top, PV.top, PV.top, PV.top, PV.top, PV.top, PV.top, PV.top, PV.top, PV.top, PV.top, PV.top, PV.top,
                            PV.top, PV.int IntKind.i64 (sLen s), PV.int IntKind.i64 (iAdd IntKind.i64 i 1), PV.bool true, PV.int IntKind.i64 i, PV.ptr 0 2, PV.str s, PV.int IntKind.i64 i,
                            PV.int IntKind.u8 (sAt s i), PV.str (oneV (sAt s i)), PV.tup [PV.int IntKind.i64 (sLen (oneV (sAt s i))), PV.nili], PV.int IntKind.i64 (iAdd IntKind.i64 i 1), PV.top, PV.top],
                          Store.mk [[PV.int IntKind.i64 k, PV.int IntKind.i64 n, PV.str s], [PV.ptr 1 0, PV.sl (xApp (bytesOf b) (bytesOf (oneV (sAt s i)))) (Tag.tok 0)]]
                            [(nXs (xApp (bytesOf b) (bytesOf (oneV (sAt s i)))), 1, 5)] [36, 117]))
                      Tr.fail)
                    Tr.fail)
                  Tr.fail)
                Tr.fail)
              Tr.fail)
            (Tr.ret
              (PExit.exit 0, [23],
                [PV.top, PV.ptr 0 0, PV.top, PV.top, PV.top, PV.ptr 1 0, PV.top, PV.top, PV.top, PV.top, PV.top, PV.top, PV.top, PV.top, PV.top, PV.top, PV.top, PV.top, PV.top, PV.top, PV.top,
                  PV.int IntKind.i64 (sLen s), PV.int IntKind.i64 i, PV.bool false, PV.top, PV.top, PV.top, PV.top, PV.top, PV.top, PV.top, PV.top, PV.top, PV.top],
                Store.mk [[PV.int IntKind.i64 k, PV.int IntKind.i64 n, PV.str s], [PV.ptr 1 0, PV.sl (bytesOf b) (Tag.tok 0)]] [(nLen b, 1, 5)] [36, 117]))) (by kernel_rfl) ?_
        rw [sAt_get hv, xApp_bytes, nXs_bytes, nXs_bytes]
        refine Tr.all_t (by simp; omega) <| Tr.all_t (okIdx_get h0 hv) <| Tr.all_t (by rw [xNil_bytes hone.1]; rfl) <| Tr.all_t (okGrow_bytes (by omega)) <| Tr.all_t (okSize_bytes _) <| Tr.all_t (by simp) ?_
        refine LDoes.into ?_ (ih (i + 1) (b ++ oneV v.toNat) (by omega) (by omega) (by rw [← hf, e2]; simp [symB]) (by simp; omega))
        simp [Weak, mk, mkFrom, look, iAdd, wrap_i64 (n := i + 1) (by omega)]
    have hz := key s.length 0 [34] (by omega) (by omega) (by simp [symH]) (by simp)
    exact hz
  · cases hd
theorem sim_Text {gl : Nat → Option Obj} (hgl : GlPow gl) : SimP Tryd.prog gl 72 fun args => (F_Text args).run := by
  refine SimP.of_tree (G := ofL [(65, .pure F_Check), (92, .pure F_FormatInt), (93, .store D_WB), (96, .store (D_String 5))]) (L := L_Text) tbT_ok (gamOk_cons (sim_Check gl) (gamOk_cons (sim_FormatInt hgl) (gamOk_store (sim_WB gl) (gamOk_store (sim_String gl) gamOk_nil)))) noMixed Tryd.func72 rfl (by rfl) (by kernel_rfl) (loopOk_one (r := 9) (c1 := c_Text) (by kernel_rfl) ?_) ?_
  · intro fr σ e fr' σ' hh
    simp only [lps, L_Text, if_true] at hh
    exact oracle_ok (loop_Text gl) fr σ e fr' σ' hh
  intro args x h hr
  unfold F_Text at h
  split at h
  · rename_i k n s
    cases h
    refine Tr.run_as (Tr.ite (iNe (checkV k n s) 0) (Tr.ret (PV.tup [PV.str [], PV.int IntKind.i64 (checkV k n s)]))
        (Tr.ite (iEq k 1) (Tr.ite (iEq 10 10) (Tr.ret (PV.tup [PV.str (itoaV n), PV.int IntKind.i64 0])) Tr.fail)
          (Tr.ite (iEq 0 0)
            (Tr.ite (iEq (sLen s) (sLen s))
              (Tr.ite (iLe (sLen s) 256)
                (Tr.ite (okGrow (bytesOf (symH s)) [[PV.int IntKind.u8 34]] 1)
                  (Tr.ite (okSize (bytesOf (symH s)) 1)
                    (Tr.ite (nEq (nLen (symH s)) (nXs (bytesOf (symH s))))
                      (Tr.ite (okBytes (xApp (bytesOf (symH s)) [[PV.int IntKind.u8 34]]))
                        (Tr.ite (bNot (xNil (xApp (bytesOf (symH s)) [[PV.int IntKind.u8 34]])))
                          (Tr.ite (nEq (nXs (xApp (bytesOf (symH s)) [[PV.int IntKind.u8 34]])) (nXs (xApp (bytesOf (symH s)) [[PV.int IntKind.u8 34]])))
                            (Tr.ite true (Tr.ret (PV.tup [PV.str (unBytes (xApp (bytesOf (symH s)) [[PV.int IntKind.u8 34]])), PV.int IntKind.i64 0])) Tr.fail) Tr.fail)
                          Tr.fail)
                        Tr.fail)
                      Tr.fail)
                    Tr.fail)
                  Tr.fail)
                Tr.fail)
              Tr.fail)
            Tr.fail))) (by kernel_rfl) ?_
    rw [checkV_is]
    cases hI : isV k n s with
    | false => simp [textW, hI]
    | true =>
      by_cases hk : k = 1
      · subst hk
        simp [textW, hI]
      · have h2 : s.length ≤ 256 := by
          unfold isV at hI
          simp at hI
          omega
        have e3 : ([[PV.int .u8 34]] : List (List PV)) = bytesOf [34] := rfl
        have hs := symB_len s
        have hl : (symH s).length = 1 + (symB s).length := by simp [symH]; omega
        have e4 : okGrow (bytesOf (symH s)) (bytesOf [34]) 1 = true := okGrow_bytes (by simp; omega)
        have e5 : symV s = symH s ++ [34] := by simp [symV, symH]
        have e6 : ¬ (symH s ++ [34] = []) := by simp
        rw [e3]
        simp [textW, hI, hk, xApp_bytes, e4, e5, nXs_bytes, -okGrow_eq, -xApp_eq]
        exact ⟨by omega, by simp [bytesOf]⟩
  · cases h
end Go.Pv
