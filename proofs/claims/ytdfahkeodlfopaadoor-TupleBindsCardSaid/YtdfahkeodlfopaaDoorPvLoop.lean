/- Loops: an oracle told by slots, and what it must show. -/
import Derived.Test.YtdfahkeodlfopaaDoorPvLeaf
set_option linter.unusedSimpArgs false
set_option linter.unusedVariables false
namespace Go.Pv
open Go.RowKit

def look : List (Nat × PV) → Nat → PV
  | [], _ => .top
  | (j, x) :: l, i => if j = i then x else look l i

def mkFrom (l : List (Nat × PV)) : Nat → Nat → List PV
  | 0, _ => []
  | n + 1, i => look l i :: mkFrom l n (i + 1)

/-- A frame of n slots: those listed, and nothing of the others. -/
def mk (n : Nat) (l : List (Nat × PV)) : List PV := mkFrom l n 0

theorem look_zip (f : Nat → PV) : ∀ (ss : List Nat) (i : Nat), look (ss.zip (ss.map f)) i = .top ∨ look (ss.zip (ss.map f)) i = f i
  | [], i => .inl rfl
  | s :: ss, i => by
    simp only [List.map_cons, List.zip_cons_cons, look]
    split
    · rename_i h; subst h; exact .inr rfl
    · exact look_zip f ss i

theorem weak_mkFrom (f : Nat → PV) (l : List (Nat × PV)) (hl : ∀ i, look l i = .top ∨ look l i = f i) : ∀ (fr : List PV) (k : Nat), (∀ i, i < fr.length → fr.getD i .top = f (k + i)) → Weak fr (mkFrom l fr.length k)
  | [], k, h => trivial
  | x :: fr, k, h => by
    refine ⟨?_, weak_mkFrom f l hl fr (k + 1) (fun i hi => ?_)⟩
    · have := h 0 (by simp)
      simp at this
      subst this
      exact hl k
    · have := h (i + 1) (by simpa using hi)
      simp only [List.getD_cons_succ] at this
      rw [this]
      congr 1
      omega

theorem weak_mk (fr : List PV) (ss : List Nat) : Weak fr (mk fr.length (ss.zip (ss.map fun s => fr.getD s .top))) := by
  unfold mk
  exact weak_mkFrom (fun s => fr.getD s .top) _ (look_zip _ ss) fr 0 (fun i _ => by simp)

section
variable {α : Type}
/-- A loop told by what it finds in the slots ss: dec reads them, ok must hold, res is what it comes to. -/
def oracle (n : Nat) (ss : List Nat) (dec : List PV → Store → Option α) (res : α → Tr (PExit × List (Nat × PV) × Store)) (fr : List PV) (σ : Store) : Tr (PExit × List PV × Store) :=
  if fr.length = n then match dec (ss.map fun s => fr.getD s .top) σ with
    | some a => Tr.bind (res a) fun r => .ret (r.1, mk n r.2.1, r.2.2)
    | none => .fail
  else .fail

theorem oracle_ok {P : Program} {gl : Nat → Option Obj} {c : Code} {n : Nat} {ss : List Nat} {dec : List PV → Store → Option α} {res : α → Tr (PExit × List (Nat × PV) × Store)}
    (h : ∀ vs σ a e out σ', dec vs σ = some a → (res a).run = some (e, out, σ') → LDoes P gl c (mk n (ss.zip vs)) σ e (mk n out) σ') :
    ∀ fr σ e fr' σ', (oracle n ss dec res fr σ).run = some (e, fr', σ') → LDoes P gl c fr σ e fr' σ' := by
  intro fr σ e fr' σ' hr
  unfold oracle at hr
  split at hr
  · rename_i hn
    split at hr
    · rename_i a ha
      obtain ⟨⟨e1, out, σ1⟩, h1, h2⟩ := Tr.bind_some hr
      simp only [Tr.run_ret, Option.some.injEq, Prod.mk.injEq] at h2
      obtain ⟨rfl, rfl, rfl⟩ := h2
      have hw := weak_mk fr ss
      rw [hn] at hw
      exact LDoes.into hw (h _ _ _ _ _ _ ha h1)
    · cases hr
  · cases hr
end

section
variable {P : Program} {gl : Nat → Option Obj} {c : Code} {fr : List PV} {σ : Store} {e : PExit} {fr' : List PV} {σ' : Store}
/-- What a frame tells of its values may be used. -/
theorem LDoes.given (h : (∃ H w vs, RelL H w fr vs) → LDoes P gl c fr σ e fr' σ') : LDoes P gl c fr σ e fr' σ' := by
  intro H0 w0 Q a w hst
  obtain ⟨H, hev, hok, hfr, hd⟩ := hst
  exact h ⟨H, w, _, hfr⟩ H0 w0 Q a w ⟨H, hev, hok, hfr, hd⟩

theorem rel_sl {fr : List PV} (h : ∃ H w vs, RelL H w fr vs) (i : Nat) {xs : List (List PV)} {t : Tag} (hi : fr[i]? = some (.sl xs t)) : xs.length ≤ maxLen := by
  obtain ⟨H, w, vs, h⟩ := h
  obtain ⟨v, _, hr⟩ := h.get hi
  cases hr with
  | sl p len cap k _ vss _ hl hcap hm _ _ _ => omega

theorem rel_str {fr : List PV} (h : ∃ H w vs, RelL H w fr vs) (i : Nat) {l : List UInt8} (hi : fr[i]? = some (.str l)) : l.length ≤ maxLen := by
  obtain ⟨H, w, vs, h⟩ := h
  obtain ⟨v, _, hr⟩ := h.get hi
  cases hr with
  | str _ hl => exact hl

theorem rel_int {fr : List PV} (h : ∃ H w vs, RelL H w fr vs) (i : Nat) {k : IntKind} {n : Int} (hi : fr[i]? = some (.int k n)) : k.min ≤ n ∧ n ≤ k.max := by
  obtain ⟨H, w, vs, h⟩ := h
  obtain ⟨v, _, hr⟩ := h.get hi
  cases hr with
  | int _ _ hl => simpa [Lit.wf] using hl
end

/-- The outer loops of a code, each with its number. -/
def loopsOf : Code → List (Nat × Code)
  | .seq a b => loopsOf a ++ loopsOf b
  | .cond _ a b => loopsOf a ++ loopsOf b
  | .block _ c => loopsOf c
  | .loop c => [(rid c, c)]
  | _ => []

def loopN (fn : Func) (k : Nat) : Code := match fn.body with
  | some c => match (loopsOf c)[k]? with
    | some p => p.2
    | none => .skip
  | none => .skip

theorem loopOk_of {P : Program} {gl : Nat → Option Obj} {L : Lps} : ∀ {c : Code}, (∀ p ∈ loopsOf c, ∀ fr σ e fr' σ', L p.1 fr σ = some (e, fr', σ') → LDoes P gl p.2 fr σ e fr' σ') → LoopOk P gl L c
  | .seq a b, h => ⟨loopOk_of fun p hp => h p (List.mem_append.2 (.inl hp)), loopOk_of fun p hp => h p (List.mem_append.2 (.inr hp))⟩
  | .cond _ a b, h => ⟨loopOk_of fun p hp => h p (List.mem_append.2 (.inl hp)), loopOk_of fun p hp => h p (List.mem_append.2 (.inr hp))⟩
  | .block _ c, h => loopOk_of (c := c) h
  | .loop c, h => h (rid c, c) (by simp [loopsOf])
  | .skip, _ => trivial
  | .region .., _ => trivial
  | .exit _, _ => trivial
  | .ret, _ => trivial
  | .label _, _ => trivial
  | .goto _, _ => trivial
  | .refuse _, _ => trivial
  | .scope _, _ => trivial
  | .rangeFunc .., _ => trivial

/-- No loop. -/
theorem loopOk_none {P : Program} {gl : Nat → Option Obj} {L : Lps} {c : Code} (h : loopsOf c = []) : LoopOk P gl L c := loopOk_of (by rw [h]; simp)

/-- One loop. -/
theorem loopOk_one {P : Program} {gl : Nat → Option Obj} {L : Lps} {c : Code} {r : Nat} {c1 : Code} (h : loopsOf c = [(r, c1)]) (h1 : ∀ fr σ e fr' σ', L r fr σ = some (e, fr', σ') → LDoes P gl c1 fr σ e fr' σ') : LoopOk P gl L c :=
  loopOk_of (by rw [h]; intro p hp; simp at hp; subst hp; exact h1)

/-! ### all ways through a tree -/
def Tr.all {α : Type} : Tr α → (α → Prop) → Prop
  | .ret a, Q => Q a
  | .fail, _ => False
  | .ite b x y, Q => (b = true → x.all Q) ∧ (b = false → y.all Q)
  | .get xs i _ k, Q => ∃ cs, xs[i]? = some cs ∧ (k cs).all Q

theorem Tr.all_run {α : Type} {Q : α → Prop} : ∀ {t : Tr α}, t.all Q → ∃ r, t.run = some r ∧ Q r
  | .ret a, h => ⟨a, rfl, h⟩
  | .fail, h => h.elim
  | .ite b x y, h => by
    cases b with
    | true => obtain ⟨r, h1, h2⟩ := Tr.all_run (h.1 rfl); exact ⟨r, by simpa using h1, h2⟩
    | false => obtain ⟨r, h1, h2⟩ := Tr.all_run (h.2 rfl); exact ⟨r, by simpa using h1, h2⟩
  | .get xs i _ k, ⟨cs, h1, h2⟩ => by
    obtain ⟨r, h3, h4⟩ := Tr.all_run h2
    exact ⟨r, by simp [h1, h3], h4⟩

/-- A tree whose elements of rows are supplied ahead: no continuation is left in it. -/
inductive TrN (α : Type) where
  | ret (a : α)
  | fail
  | ite (b : Bool) (x y : TrN α)
  | need (xs : List (List PV)) (i : Nat) (cs : List PV) (x : TrN α)

def TrN.all {α : Type} : TrN α → (α → Prop) → Prop
  | .ret a, Q => Q a
  | .fail, _ => False
  | .ite b x y, Q => (b = true → x.all Q) ∧ (b = false → y.all Q)
  | .need xs i cs x, Q => xs[i]? = some cs ∧ x.all Q

def Tr.sup {α : Type} : Tr α → List (List PV) → TrN α
  | .ret a, _ => .ret a
  | .fail, _ => .fail
  | .ite b x y, l => .ite b (x.sup l) (y.sup l)
  | .get xs i _ k, cs :: l => .need xs i cs ((k cs).sup l)
  | .get _ _ _ _, [] => .fail

theorem Tr.all_sup {α : Type} {Q : α → Prop} : ∀ {t : Tr α} (l : List (List PV)), (t.sup l).all Q → t.all Q
  | .ret a, l, h => h
  | .fail, l, h => h
  | .ite b x y, l, h => ⟨fun hb => Tr.all_sup l (h.1 hb), fun hb => Tr.all_sup l (h.2 hb)⟩
  | .get xs i _ k, cs :: l, h => ⟨cs, h.1, Tr.all_sup l h.2⟩
  | .get _ _ _ _, [], h => h.elim

theorem Tr.run_as {α : Type} {t : Tr α} (t' : Tr α) (h : t = t') {r : Option α} (hr : t'.run = r) : t.run = r := by rw [h]; exact hr
theorem Tr.all_as {α : Type} {t : Tr α} (t' : Tr α) (h : t = t') {Q : α → Prop} (hr : t'.all Q) : t.all Q := by rw [h]; exact hr
theorem TrN.all_as {α : Type} {t : TrN α} (t' : TrN α) (h : t = t') {Q : α → Prop} (hr : t'.all Q) : t.all Q := by rw [h]; exact hr
theorem TrN.all_t {α : Type} {b : Bool} {x y : TrN α} {Q : α → Prop} (h : b = true) (hx : x.all Q) : (TrN.ite b x y).all Q := ⟨fun _ => hx, fun h' => by rw [h] at h'; cases h'⟩
theorem TrN.all_f {α : Type} {b : Bool} {x y : TrN α} {Q : α → Prop} (h : b = false) (hy : y.all Q) : (TrN.ite b x y).all Q := ⟨fun h' => (by rw [h] at h'; cases h'), fun _ => hy⟩
theorem TrN.all_n {α : Type} {xs : List (List PV)} {i : Nat} {cs : List PV} {x : TrN α} {Q : α → Prop} (h : xs[i]? = some cs) (hx : x.all Q) : (TrN.need xs i cs x).all Q := ⟨h, hx⟩

/-- What a round of a loop leads to. -/
def Next (P : Program) (gl : Nat → Option Obj) (c : Code) (e : PExit) (fr' : List PV) (σ' : Store) : PExit × Fm → Prop
  | (.normal, _, fr1, σ1) => LDoes P gl c fr1 σ1 e fr' σ'
  | (e1, _, fr1, σ1) => e1 = e ∧ Weak fr1 fr' ∧ σ1 = σ'

theorem LDoes.round {P : Program} {tb : Tab} {gl : Nat → Option Obj} {G : GamT} (hT : TabOk P tb) (hΓ : GamOk P gl (gam G)) (hm : P.follows .mixedOrders = true) {L : LpsT} {c : Code} (hL : LoopOk P gl (lps L) c) (hdr : drawsOk (gam G) c = true)
    {fr : List PV} {σ : Store} {e : PExit} {fr' : List PV} {σ' : Store} (h : (texec tb G L c [] fr σ).all (Next P gl c e fr' σ')) : LDoes P gl c fr σ e fr' σ' := by
  obtain ⟨⟨e1, kn, fr1, σ1⟩, h1, h2⟩ := Tr.all_run h
  have hd := Does.of_tree hT hΓ hm hL hdr h1
  cases e1 with
  | normal => exact LDoes.next hd h2
  | exit j =>
    obtain ⟨rfl, hw, rfl⟩ := h2
    exact LDoes.outof (LDoes.out hd (by simp)) hw
  | ret =>
    obtain ⟨rfl, hw, rfl⟩ := h2
    exact LDoes.outof (LDoes.out hd (by simp)) hw

theorem SimP.of_all {P : Program} {tb : Tab} {gl : Nat → Option Obj} {G : GamT} (hT : TabOk P tb) (hΓ : GamOk P gl (gam G)) (hm : P.follows .mixedOrders = true) {f : FuncId} {fn : Func} {c : Code} (hf : P.funcs[f]? = some fn) (hb : fn.body = some c) (hn : (fn.name == "runtime.NumGoroutine") = false)
    (hdr : drawsOk (gam G) c = true) {L : LpsT} (hL : LoopOk P gl (lps L) c) {F : List PV → Tr PV} (h : ∀ args x, (F args).run = some x → (∃ H w vs, RelL H w args vs) → (tcall tb G L fn args).all (fun y => y = x)) : SimP P gl f fun args => (F args).run :=
  SimP.of_tree hT hΓ hm hf hb hn hdr hL fun args x hx hr => by
    obtain ⟨y, h1, rfl⟩ := Tr.all_run (h args x hx hr)
    exact h1

theorem drop_of_get {α : Type} {l : List α} {i : Nat} {v : α} (h : l[i]? = some v) : l.drop i = v :: l.drop (i + 1) := by
  obtain ⟨hi, rfl⟩ := List.getElem?_eq_some_iff.1 h
  exact List.drop_eq_getElem_cons hi

theorem get_lt {α : Type} {l : List α} {i : Nat} (h : i < l.length) : ∃ v, l[i]? = some v := ⟨l[i], List.getElem?_eq_getElem h⟩

/-! ### all bytes -/
def eqStr (t : Option PV) (l : List UInt8) : Bool := match t with
  | some (.str m) => m == l
  | _ => false
theorem eqStr_eq {t : Option PV} {l : List UInt8} (h : eqStr t l = true) : t = some (.str l) := by
  unfold eqStr at h
  split at h
  · rw [beq_iff_eq] at h; rw [h]
  · cases h
def eqInt (t : Option PV) (k : IntKind) (n : Int) : Bool := match t with
  | some (.int j m) => j == k && m == n
  | _ => false
theorem eqInt_eq {t : Option PV} {k : IntKind} {n : Int} (h : eqInt t k n = true) : t = some (.int k n) := by
  unfold eqInt at h
  split at h
  · rw [Bool.and_eq_true, beq_iff_eq] at h; rw [h.1, eq_of_beq h.2]
  · cases h
def eqRow (t : Option PV) (l : List UInt8) : Bool := match t with
  | some (.sl xs .non) => decBs xs == some l
  | _ => false
theorem eqRow_eq {t : Option PV} {l : List UInt8} (h : eqRow t l = true) : t = some (.sl (bytesOf l) .non) := by
  unfold eqRow at h
  split at h
  · rw [beq_iff_eq] at h; rw [decBs_some h]
  · cases h
theorem byte_fin {c : Int} (h : IntKind.u8.min ≤ c ∧ c ≤ IntKind.u8.max) : ∃ n : Fin 256, c = (n.val : Int) := by
  have h1 : 0 ≤ c ∧ c ≤ 255 := h
  exact ⟨⟨c.toNat, by omega⟩, by simp; omega⟩

/-- A contract, argument by argument. -/
theorem SimP.of_each {P : Program} {gl : Nat → Option Obj} {f : FuncId} {F : List PV → Option PV} (hent : ∃ fn, P.funcs[f]? = some fn ∧ (fn.name == "runtime.NumGoroutine") = false ∧ fn.body.isNone = false)
    (h : ∀ args x, F args = some x → ∃ F', SimP P gl f F' ∧ F' args = some x) : SimP P gl f F where
  ent := hent
  run := fun args x hx H w vs h1 h2 h3 h4 h5 => by
    obtain ⟨F', hF, hx'⟩ := h args x hx
    exact hF.run args x hx' H w vs h1 h2 h3 h4 h5

@[simp] theorem okBytes_one (n : Int) : okBytes [[.int .u8 n]] = true := by simp [okBytes, pbytes]
@[simp] theorem unBytes_one (n : Int) : unBytes [[.int .u8 n]] = [UInt8.ofNat n.toNat] := by simp [unBytes, pbytes]
def ltN (n : Int) (k : Nat) : Bool := decide (n.toNat < k)
@[simp] theorem ltN_eq (n : Int) (k : Nat) : ltN n k = decide (n.toNat < k) := rfl

theorem Tr.all_t {α : Type} {b : Bool} {x y : Tr α} {Q : α → Prop} (h : b = true) (hx : x.all Q) : (Tr.ite b x y).all Q := ⟨fun _ => hx, fun h' => by rw [h] at h'; cases h'⟩
theorem Tr.all_f {α : Type} {b : Bool} {x y : Tr α} {Q : α → Prop} (h : b = false) (hy : y.all Q) : (Tr.ite b x y).all Q := ⟨fun h' => (by rw [h] at h'; cases h'), fun _ => hy⟩
theorem Tr.all_g {α : Type} {xs : List (List PV)} {i : Nat} {z : List PV} {cs : List PV} {k : List PV → Tr α} {Q : α → Prop} (h : xs[i]? = some cs) (hk : (k cs).all Q) : (Tr.get xs i z k).all Q := ⟨cs, h, hk⟩
theorem xNil_bytes {l : List UInt8} (h : 1 ≤ l.length) : xNil (bytesOf l) = false := by
  cases l with
  | nil => simp at h
  | cons a l => rfl
theorem nXs_bytes (l : List UInt8) : nXs (bytesOf l) = nLen l := by simp
theorem xApp_bytes (a b : List UInt8) : xApp (bytesOf a) (bytesOf b) = bytesOf (a ++ b) := (bytesOf_app a b).symm
theorem okGrow_bytes {a b : List UInt8} (h : a.length + b.length ≤ 140737488355328) : okGrow (bytesOf a) (bytesOf b) 1 = true := by simp [h]
theorem xApp_byte (a : List UInt8) {n : Int} (h : 0 ≤ n ∧ n < 256) : xApp (bytesOf a) [[.int .u8 n]] = bytesOf (a ++ [UInt8.ofNat n.toNat]) := by
  rw [bytesOf_app]
  simp [bytesOf]
  omega

theorem rel_agg {fr : List PV} (h : ∃ H w vs, RelL H w fr vs) (i : Nat) {cs : List PV} (hi : fr[i]? = some (.agg cs)) : ∃ H w vs, RelL H w cs vs := by
  obtain ⟨H, w, vs, h⟩ := h
  obtain ⟨v, _, hr⟩ := h.get hi
  cases hr with
  | agg _ us hl => exact ⟨H, w, us, hl⟩

theorem wrap_i64 {n : Int} (h : -9223372036854775808 ≤ n ∧ n ≤ 9223372036854775807) : IntKind.wrap .i64 n = n := by
  unfold IntKind.wrap
  simp [IntKind.bits, IntKind.signed]
  split <;> omega
theorem wrap_u8 {n : Int} (h : 0 ≤ n ∧ n ≤ 255) : IntKind.wrap .u8 n = n := by
  unfold IntKind.wrap
  simp [IntKind.bits, IntKind.signed]
  omega
theorem wrap_u64 {n : Int} (h : 0 ≤ n ∧ n ≤ 18446744073709551615) : IntKind.wrap .u64 n = n := by
  unfold IntKind.wrap
  simp [IntKind.bits, IntKind.signed]
  omega
end Go.Pv
