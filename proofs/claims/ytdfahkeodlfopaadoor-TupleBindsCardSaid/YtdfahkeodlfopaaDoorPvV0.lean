import Derived.Test.YtdfahkeodlfopaaDoorPvTab
import Derived.Test.YtdfahkeodlfopaaDoorPvLoop
namespace Go.Pv
open Go Go.Proofs
set_option maxHeartbeats 4000000
set_option maxRecDepth 200000
theorem noMixed : Tryd.prog.follows .mixedOrders = true := by kernel_rfl

def encIs (l : List Int) : List (List PV) := l.map fun n => [.int .i64 n]
def isI : List PV → Bool
  | [.int .i64 _] => true
  | _ => false
def unI : List PV → Int
  | [.int .i64 n] => n
  | _ => 0
def okIs (xs : List (List PV)) : Bool := xs.all isI
def unIs (xs : List (List PV)) : List Int := xs.map unI
@[simp] theorem okIs_enc (l : List Int) : okIs (encIs l) = true := by simp [okIs, encIs, isI]
@[simp] theorem unIs_enc (l : List Int) : unIs (encIs l) = l := by simp [unIs, encIs, unI, Function.comp_def]
@[simp] theorem okIs_nil : okIs [] = true := rfl
@[simp] theorem unIs_nil : unIs [] = [] := rfl
@[simp] theorem okIs_cons (n : Int) (xs : List (List PV)) : okIs ([.int .i64 n] :: xs) = okIs xs := by simp [okIs, isI]
@[simp] theorem unIs_cons (n : Int) (xs : List (List PV)) : unIs ([.int .i64 n] :: xs) = n :: unIs xs := by simp [unIs, unI]
theorem okIs_some {xs : List (List PV)} (h : okIs xs = true) : ∃ l, xs = encIs l := by
  unfold okIs at h
  unfold encIs
  induction xs with
  | nil => exact ⟨[], rfl⟩
  | cons c xs ih =>
    simp only [List.all_cons, Bool.and_eq_true] at h
    obtain ⟨l, rfl⟩ := ih h.2
    have h1 := h.1
    unfold isI at h1
    split at h1
    · rename_i n; exact ⟨n :: l, rfl⟩
    · cases h1
@[simp] theorem encIs_len (l : List Int) : (encIs l).length = l.length := by simp [encIs]
@[simp] theorem encIs_get (l : List Int) (i : Nat) : (encIs l)[i]? = (l[i]?).map fun n => [.int .i64 n] := by simp [encIs]
@[simp] theorem lockLL_Is (l : List Int) : lockLL (encIs l) = encIs l := lockLL_id (by simp [encIs, lockL, lock])

def firstNZ : List Int → Int
  | [] => 0
  | x :: l => if x = 0 then firstNZ l else x

def F_Or : List PV → Tr PV
  | [.sl xs _] => Tr.chk (okIs xs) (.ret (.int .i64 (firstNZ (unIs xs))))
  | _ => .fail

def d_Or : List PV → Store → Option (List (List PV) × Tag × Int × Int × Int × Store)
  | [.sl xs t, .int .i64 n, .int .i64 i, .int .i64 z], σ => some (xs, t, n, i, z, σ)
  | _, _ => none
def r_Or : List (List PV) × Tag × Int × Int × Int × Store → Tr (PExit × List (Nat × PV) × Store)
  | (xs, _, n, i, z, σ) => Tr.chk (okIs xs) (Tr.chk (bAnd (iEq z 0) (bAnd (iEq i 0) (iEq n (xLen xs)))) (.ite (iEq (firstNZ (unIs xs)) 0) (.ret (.exit 0, [(3, .int .i64 0)], σ)) (.ret (.ret, [(2, .int .i64 (firstNZ (unIs xs)))], σ))))
def L_Or : LpsT := fun r fr σ => if r = 3 then oracle 18 [6, 7, 8, 3] d_Or r_Or fr σ else .fail

noncomputable def c_Or : Code := loopN Tryd.f78 0
theorem sim_Or (gl : Nat → Option Obj) : SimP Tryd.prog gl 78 fun args => (F_Or args).run := by
  refine SimP.of_tree (G := ofL []) (L := L_Or) tbT_ok gamOk_nil noMixed Tryd.func78 rfl (by rfl) (by kernel_rfl) (loopOk_one (r := 3) (c1 := c_Or) (by kernel_rfl) ?_) ?_
  · intro fr σ e fr' σ' hh
    simp only [lps, L_Or, if_true] at hh
    refine oracle_ok ?_ fr σ e fr' σ' hh
    intro vs s a e out σ' hd hr
    unfold d_Or at hd
    split at hd
    · rename_i xs t n i z
      cases hd
      obtain ⟨h0, hr'⟩ := Tr.chk_some hr
      obtain ⟨l, rfl⟩ := okIs_some h0
      obtain ⟨h1, h2⟩ := Tr.chk_some hr'
      · rw [unIs_enc] at h2
        simp at h1
        obtain ⟨rfl, rfl, hn⟩ := h1
        clear hr hr' hh
        have key : ∀ (m : Nat) (i : Int), 0 ≤ i → i + m = n → firstNZ (l.drop i.toNat) = firstNZ l → LDoes Tryd.prog gl c_Or (mk 18 ([6, 7, 8, 3].zip [.sl (encIs l) t, .int .i64 n, .int .i64 i, .int .i64 0])) s e (mk 18 out) σ' := by
          intro m
          induction m with
          | zero =>
            intro i h0 hi hf
            have : i = n := by omega
            subst this
            have e1 : l.drop i.toNat = [] := by apply List.drop_eq_nil_of_le; omega
            simp [e1, firstNZ] at hf
            simp [← hf] at h2
            obtain ⟨rfl, rfl, rfl⟩ := h2
            refine LDoes.round tbT_ok (G := ofL []) gamOk_nil noMixed (L := fun _ _ _ => .fail) (loopOk_none (by kernel_rfl)) (by kernel_rfl) ?_
            refine Tr.all_sup [] ?_
            refine TrN.all_as (TrN.ite (iLt i i) (TrN.ite (okPos i) TrN.fail TrN.fail)
                (TrN.ret
                  (PExit.exit 0, [9],
                    [PV.top, PV.top, PV.top, PV.int IntKind.i64 0, PV.top, PV.top, PV.sl (encIs l) t, PV.int IntKind.i64 i, PV.int IntKind.i64 i, PV.bool false, PV.top, PV.top, PV.top, PV.top, PV.top, PV.top,
                      PV.top, PV.top],
                    s))) (by kernel_rfl) ?_
            refine TrN.all_f (by simp) ⟨rfl, by simp [Weak, mk, mkFrom, look], rfl⟩
          | succ m ih =>
            intro i h0 hi hf
            have hlt : i.toNat < l.length := by omega
            refine LDoes.given fun hg => ?_
            have hmax := rel_sl hg 6 (xs := encIs l) (t := t) (by simp [mk, mkFrom, look])
            unfold maxLen at hmax
            simp at hmax
            refine LDoes.round tbT_ok (G := ofL []) gamOk_nil noMixed (L := fun _ _ _ => .fail) (loopOk_none (by kernel_rfl)) (by kernel_rfl) ?_
            obtain ⟨v, hv⟩ := get_lt hlt
            refine Tr.all_sup [[.int .i64 v]] ?_
            refine TrN.all_as (TrN.ite (iLt i n)
                (TrN.ite (okPos i)
                  (TrN.need (encIs l) (nNat i) [PV.int IntKind.i64 v]
                    (TrN.ite (iNe v 0)
                      (TrN.ret
                        (PExit.ret, [14, 9],
                          [PV.top, PV.top, PV.int IntKind.i64 v, PV.int IntKind.i64 0, PV.top, PV.int IntKind.i64 v, PV.sl (encIs l) t, PV.int IntKind.i64 n, PV.int IntKind.i64 i, PV.bool true,
                            PV.ref [PV.int IntKind.i64 v], PV.int IntKind.i64 v, PV.int IntKind.i64 v, PV.int IntKind.i64 0, PV.bool true, PV.int IntKind.i64 v, PV.top, PV.top],
                          s))
                      (TrN.ret
                        (PExit.normal, [14, 9],
                          [PV.top, PV.top, PV.top, PV.int IntKind.i64 0, PV.top, PV.int IntKind.i64 v, PV.sl (encIs l) t, PV.int IntKind.i64 n, PV.int IntKind.i64 (iAdd IntKind.i64 i 1), PV.bool true,
                            PV.ref [PV.int IntKind.i64 v], PV.int IntKind.i64 v, PV.int IntKind.i64 v, PV.int IntKind.i64 0, PV.bool false, PV.top, PV.int IntKind.i64 (iAdd IntKind.i64 i 1), PV.top],
                          s))))
                  TrN.fail)
                (TrN.ret
                  (PExit.exit 0, [9],
                    [PV.top, PV.top, PV.top, PV.int IntKind.i64 0, PV.top, PV.top, PV.sl (encIs l) t, PV.int IntKind.i64 n, PV.int IntKind.i64 i, PV.bool false, PV.top, PV.top, PV.top, PV.top, PV.top, PV.top,
                      PV.top, PV.top],
                    s))) (by kernel_rfl) ?_
            refine TrN.all_t (by simp; omega) <| TrN.all_t (by simp; omega) <| TrN.all_n (by simp [hv]) ?_
            rw [drop_of_get hv] at hf
            refine ⟨fun h => ?_, fun h => ?_⟩
            · simp at h
              simp only [firstNZ, if_neg h] at hf
              rw [← hf] at h2
              simp [h] at h2
              obtain ⟨rfl, rfl, rfl⟩ := h2
              exact ⟨rfl, by simp [Weak, mk, mkFrom, look], rfl⟩
            · simp at h
              simp only [firstNZ, if_pos h] at hf
              have e1 : (i + 1).toNat = i.toNat + 1 := by omega
              refine LDoes.into ?_ (ih (i + 1) (by omega) (by omega) (by rw [e1]; exact hf))
              simp [Weak, mk, mkFrom, look, iAdd, wrap_i64 (n := i + 1) (by omega)]
        exact key l.length 0 (by omega) (by omega) rfl
    · cases hd
  intro args x h hr
  unfold F_Or at h
  split at h
  · rename_i xs tg
    obtain ⟨h0, h1⟩ := Tr.chk_some h
    cases h1
    refine Tr.run_as (Tr.ite (okIs xs)
        (Tr.ite (bAnd (iEq 0 0) (bAnd (iEq 0 0) (iEq (xLen xs) (xLen xs)))) (Tr.ite (iEq (firstNZ (unIs xs)) 0) (Tr.ret (PV.int IntKind.i64 0)) (Tr.ret (PV.int IntKind.i64 (firstNZ (unIs xs))))) Tr.fail)
        Tr.fail) (by kernel_rfl) ?_
    obtain ⟨l, rfl⟩ := okIs_some h0
    simp [eq_comm]
  · cases h
end Go.Pv
