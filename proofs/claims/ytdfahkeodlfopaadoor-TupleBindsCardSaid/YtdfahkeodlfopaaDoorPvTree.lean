/- The same run with what is not decided kept as data: a tree of tests. 'cbv' computes the tree; 'run' reads it. -/
import Derived.Test.YtdfahkeodlfopaaDoorPvExec
set_option linter.unusedSimpArgs false
set_option linter.unusedVariables false
namespace Go.Pv
open Go.RowKit

inductive Tr (α : Type) where
  | ret (a : α)
  | fail
  | ite (b : Bool) (x y : Tr α)
  | get (xs : List (List PV)) (i : Nat) (z : List PV) (k : List PV → Tr α)

namespace Tr
def run {α : Type} : Tr α → Option α
  | .ret a => some a
  | .fail => none
  | .ite b x y => bif b then run x else run y
  | .get xs i _ k => match xs[i]? with
    | some cs => run (k cs)
    | none => none

def bind {α β : Type} : Tr α → (α → Tr β) → Tr β
  | .ret a, f => f a
  | .fail, _ => .fail
  | .ite b x y, f => .ite b (bind x f) (bind y f)
  | .get xs i z k, f => .get xs i z fun cs => bind (k cs) f

theorem run_bind {α β : Type} : ∀ (x : Tr α) (f : α → Tr β), run (bind x f) = (run x).bind fun a => run (f a)
  | .ret a, f => rfl
  | .fail, f => rfl
  | .ite b x y, f => by
    simp only [bind, run, run_bind x f, run_bind y f]
    cases b <;> rfl
  | .get xs i z k, f => by
    simp only [bind, run]
    cases xs[i]? with
    | none => rfl
    | some cs => exact run_bind (k cs) f

theorem bind_some {α β : Type} {x : Tr α} {f : α → Tr β} {r : β} (h : run (bind x f) = some r) : ∃ a, run x = some a ∧ run (f a) = some r := by
  rw [run_bind] at h
  cases hx : run x with
  | none => simp [hx] at h
  | some a => exact ⟨a, rfl, by simpa [hx] using h⟩

/-- A test: where its outcome is written out, it is taken; else it stays. -/
def br {α : Type} (lit : Bool) (b : Bool) (x y : Tr α) : Tr α := bif lit then (bif b then x else y) else .ite b x y

theorem run_br {α : Type} (lit b : Bool) (x y : Tr α) : run (br lit b x y) = bif b then run x else run y := by
  cases lit <;> cases b <;> rfl

def chk {α : Type} (b : Bool) (x : Tr α) : Tr α := .ite b x .fail

theorem chk_some {α : Type} {b : Bool} {x : Tr α} {r : α} (h : run (chk b x) = some r) : b = true ∧ run x = some r := by
  cases b with
  | true => exact ⟨rfl, h⟩
  | false => cases h

def ofOpt {α : Type} : Option α → Tr α
  | some a => .ret a
  | none => .fail

theorem run_ofOpt {α : Type} (x : Option α) : run (ofOpt x) = x := by cases x <;> rfl
end Tr
open Tr

/-! ### leaves: what 'cbv' leaves folded -/
def iAdd (k : IntKind) (a b : Int) : Int := k.wrap (a + b)
def iSub (k : IntKind) (a b : Int) : Int := k.wrap (a - b)
def iMul (k : IntKind) (a b : Int) : Int := k.wrap (a * b)
def iQuo (k : IntKind) (a b : Int) : Int := k.wrap (a.tdiv b)
def iRem (a b : Int) : Int := a.tmod b
def iAnd (k : IntKind) (a b : Int) : Int := k.wrap (BitVec.ofInt k.bits a &&& BitVec.ofInt k.bits b).toNat
def iOr (k : IntKind) (a b : Int) : Int := k.wrap (BitVec.ofInt k.bits a ||| BitVec.ofInt k.bits b).toNat
def iXor (k : IntKind) (a b : Int) : Int := k.wrap (BitVec.ofInt k.bits a ^^^ BitVec.ofInt k.bits b).toNat
def iShl (k : IntKind) (a b : Int) : Int := k.wrap (a * 2 ^ min b.toNat k.bits)
def iShr (k : IntKind) (a b : Int) : Int := a.fdiv (2 ^ min b.toNat k.bits)
def iWrap (k : IntKind) (n : Int) : Int := k.wrap n
def iEq (a b : Int) : Bool := a == b
def iNe (a b : Int) : Bool := a != b
def iLt (a b : Int) : Bool := decide (a < b)
def iLe (a b : Int) : Bool := decide (a ≤ b)
def bNot (b : Bool) : Bool := !b
def bAnd (a b : Bool) : Bool := a && b
def bEq (a b : Bool) : Bool := a == b
def sEq (a b : List UInt8) : Bool := a == b
def sNe (a b : List UInt8) : Bool := !(a == b)
def sLt (a b : List UInt8) : Bool := Op.bytesLess a b
def sLe (a b : List UInt8) : Bool := Op.bytesLess a b || a == b
def sGt (a b : List UInt8) : Bool := !(Op.bytesLess a b || a == b)
def sGe (a b : List UInt8) : Bool := !Op.bytesLess a b
def sApp (a b : List UInt8) : List UInt8 := a ++ b
def sLen (l : List UInt8) : Int := l.length
def sSub (l : List UInt8) (a b : Nat) : List UInt8 := (l.take b).drop a
def sAt (l : List UInt8) (n : Int) : Int := (l.getD n.toNat 0).toNat
def sOne (n : Int) : List UInt8 := [UInt8.ofNat n.toNat]
def nNat (n : Int) : Nat := n.toNat
def nLen (l : List UInt8) : Nat := l.length
def xLen (xs : List (List PV)) : Int := xs.length
def nXs (xs : List (List PV)) : Nat := xs.length
def xSub (xs : List (List PV)) (a b : Nat) : List (List PV) := (xs.take b).drop a
def xApp (xs ys : List (List PV)) : List (List PV) := xs ++ ys
def xNil (xs : List (List PV)) : Bool := xs.isEmpty
def bytesOf (l : List UInt8) : List (List PV) := l.map fun b => [.int .u8 b.toNat]
def unBytes (xs : List (List PV)) : List UInt8 := (pbytes xs).getD []
def okBytes (xs : List (List PV)) : Bool := (pbytes xs).isSome
def okSize (xs : List (List PV)) (n : Nat) : Bool := xs.all fun y => y.length == n
def okNews (ys : List (List PV)) (n : Nat) : Bool := ys.all fun y => y.length == n && y.all one
def okApp (a b : List UInt8) : Bool := decide (a.length + b.length ≤ maxLen)
def okAscii (n : Int) : Bool := decide (0 ≤ n) && decide (n < 128)
def okLen (l : List UInt8) : Bool := decide (l.length ≤ 140737488355328)
def okIdx (l : List UInt8) (n : Int) : Bool := decide (0 ≤ n) && decide (n.toNat < l.length)
def okPos (n : Int) : Bool := decide (0 ≤ n)
def okSub (ca cb : Bool) (a b n : Nat) : Bool := ca && cb && decide (a ≤ b) && decide (b ≤ n)
def okSub3 (ca cb cc : Bool) (a b c n : Nat) : Bool := ca && cb && cc && decide (a ≤ b) && decide (b = c) && decide (b ≤ n)
def okGrow (xs ys : List (List PV)) (bytes : Nat) : Bool := decide ((xs.length + ys.length) * bytes ≤ 140737488355328) && decide (xs.length + ys.length ≤ 140737488355328)
def nEq (a b : Nat) : Bool := decide (a = b)
theorem bNot_true : bNot true = false := rfl
theorem bNot_false : bNot false = true := rfl

/-! ### operations -/
def tint (lit : Bool) (op : BinOp) (k : IntKind) (a b : Int) : Tr PV :=
  match op with
  | .add => .ret (.int k (iAdd k a b))
  | .sub => .ret (.int k (iSub k a b))
  | .mul => .ret (.int k (iMul k a b))
  | .quo => if lit then (if b = 0 then .fail else .ret (.int k (iQuo k a b))) else .ite (iEq b 0) .fail (.ret (.int k (iQuo k a b)))
  | .rem => if lit then (if b = 0 then .fail else .ret (.int k (iRem a b))) else .ite (iEq b 0) .fail (.ret (.int k (iRem a b)))
  | .and => .ret (.int k (iAnd k a b))
  | .or => .ret (.int k (iOr k a b))
  | .xor => .ret (.int k (iXor k a b))
  | .eql => .ret (.bool (iEq a b))
  | .neq => .ret (.bool (iNe a b))
  | .lss => .ret (.bool (iLt a b))
  | .leq => .ret (.bool (iLe a b))
  | .gtr => .ret (.bool (iLt b a))
  | .geq => .ret (.bool (iLe b a))
  | _ => .fail

theorem tint_run {lit : Bool} {op : BinOp} {k : IntKind} {a b : Int} {x : PV} (h : run (tint lit op k a b) = some x) : pint op k a b = some x := by
  cases op <;> simp only [tint, pint] at h ⊢ <;> first
    | exact h
    | (cases h; done)
    | (split at h
       · split at h
         · cases h
         · rename_i hb
           rw [if_neg hb]
           exact h
       · simp only [run, iEq] at h
         by_cases hb : b = 0
         · simp [hb] at h
         · have hb' : (b == 0) = false := by simp [hb]
           rw [hb'] at h
           rw [if_neg hb]
           exact h)

def tstr (op : BinOp) (a b : List UInt8) : Tr PV :=
  match op with
  | .add => chk (okApp a b) (.ret (.str (sApp a b)))
  | .eql => .ret (.bool (sEq a b))
  | .neq => .ret (.bool (sNe a b))
  | .lss => .ret (.bool (sLt a b))
  | .leq => .ret (.bool (sLe a b))
  | .gtr => .ret (.bool (sGt a b))
  | .geq => .ret (.bool (sGe a b))
  | _ => .fail

theorem tstr_run {op : BinOp} {a b : List UInt8} {x : PV} (h : run (tstr op a b) = some x) : pstr op a b = some x := by
  cases op <;> simp only [tstr, pstr] at h ⊢ <;> first
    | exact h
    | (cases h; done)
    | (obtain ⟨h1, h2⟩ := chk_some h
       rw [if_pos (by simpa [okApp] using h1)]
       exact h2)

/-- Equality as one test. -/
def beqFs (tb : Tab) (f : TypeId → PV → PV → Option Bool) (xs ys : List PV) : List (Nat × TypeId × Bool) → Option Bool
  | [] => some true
  | (off, t, named) :: rest =>
    if named then
      match tb t with
      | none => none
      | some K => match pload K xs off, pload K ys off with
        | some x, some y => match f t x y, beqFs tb f xs ys rest with
          | some b, some c => some (bAnd b c)
          | _, _ => none
        | _, _ => none
    else beqFs tb f xs ys rest

def beq (tb : Tab) : Nat → TypeId → PV → PV → Option Bool
  | 0, _, _, _ => none
  | d + 1, t, x, y => match tb t with
    | none => none
    | some K => match K.kd, x, y with
      | .int _, .int k a, .int k' b => if k = k' then some (iEq a b) else none
      | .bool, .bool a, .bool b => some (bEq a b)
      | .str, .str a, .str b => some (sEq a b)
      | .agg fs held _, .agg xs, .agg ys => if held then none else beqFs tb (beq tb d) xs ys fs
      | _, _, _ => none

theorem beqFs_imp {tb : Tab} {f g : TypeId → PV → PV → Option Bool} (hfg : ∀ t x y b, f t x y = some b → g t x y = some b) {xs ys : List PV} : ∀ (fs : List (Nat × TypeId × Bool)) (b : Bool), beqFs tb f xs ys fs = some b → peqFs tb g xs ys fs = some b
  | [], b, h => h
  | (off, t, named) :: rest, b, h => by
    simp only [beqFs, peqFs] at h ⊢
    split at h
    · rename_i hn
      rw [if_pos hn]
      cases hK : tb t with
      | none => simp [hK] at h
      | some K =>
        simp only [hK] at h ⊢
        split at h
        · rename_i x y hx hy
          simp only [hx, hy]
          split at h
          · rename_i p q hp hq
            rw [hfg _ _ _ _ hp]
            have := beqFs_imp hfg rest q hq
            cases p with
            | true => simp [bAnd] at h; subst h; exact this
            | false => simp [bAnd] at h; subst h; rfl
          · cases h
        · cases h
    · rename_i hn
      rw [if_neg hn]
      exact beqFs_imp hfg rest b h

theorem beq_imp {tb : Tab} : ∀ (d : Nat) (t : TypeId) (x y : PV) (b : Bool), beq tb d t x y = some b → peq tb d t x y = some b
  | 0, t, x, y, b, h => by cases h
  | d + 1, t, x, y, b, h => by
    simp only [beq, peq] at h ⊢
    cases hK : tb t with
    | none => simp [hK] at h
    | some K =>
      simp only [hK] at h ⊢
      split at h
      · rename_i hk; simp only [hk]; exact h
      · rename_i hk; simp only [hk]; exact h
      · rename_i hk; simp only [hk]; exact h
      · rename_i hk
        simp only [hk]
        split at h
        · cases h
        · rename_i hh
          rw [if_neg hh]
          exact beqFs_imp (fun t x y b => beq_imp d t x y b) _ b h
      · cases h

def bequal (tb : Tab) (t : TypeId) (xo yo : Operand) (x y : PV) : Option Bool :=
  match tb t with
  | none => none
  | some K => match K.kd, x, y with
    | .iface, .nili, .nili => if isK xo || isK yo then some true else none
    | .iface, .nili, .iface _ _ => some false
    | .iface, .iface _ _, .nili => some false
    | .fn, .nilf, .nilf => some true
    | .fn, .nilf, .fn _ _ => some false
    | .fn, .fn _ _, .nilf => some false
    | .bool, .bool a, .bool b => some (bEq a b)
    | .agg _ _ guard, .agg xs, .agg ys => if guard then none else beq tb 50 t (.agg xs) (.agg ys)
    | _, _, _ => none

theorem bequal_imp {tb : Tab} {t : TypeId} {xo yo : Operand} {x y : PV} {b : Bool} (h : bequal tb t xo yo x y = some b) : pequal tb t xo yo x y = some b := by
  unfold bequal at h
  unfold pequal
  cases hK : tb t with
  | none => simp [hK] at h
  | some K =>
    simp only [hK] at h ⊢
    split at h <;> first
      | (rename_i hk; simp only [hk]; exact h)
      | (rename_i hk
         simp only [hk]
         split at h
         · cases h
         · rename_i hg
           rw [if_neg hg]
           exact beq_imp _ _ _ _ _ h)
      | (cases h; done)

def tnilq (tb : Tab) (t : TypeId) (yo : Operand) (xs : List (List PV)) (tg : Tag) (f : Bool → PV) : Tr PV :=
  match tb t with
  | none => .fail
  | some K => match K.kd with
    | .sl _ => if isNilK yo then .ite (xNil xs) (match tg with
      | .nil => .ret (f true)
      | .own => .ret (f false)
      | _ => .fail) (.ret (f false)) else .fail
    | _ => .fail

def tbin (tb : Tab) (op : BinOp) (t : TypeId) (xo yo : Operand) (x y : PV) : Tr PV :=
  match op, x, y with
  | .shl, .int k a, .int _ b => if isK yo then (if b < 0 then .fail else .ret (.int k (iShl k a b))) else .ite (iLt b 0) .fail (.ret (.int k (iShl k a b)))
  | .shr, .int k a, .int _ b => if isK yo then (if b < 0 then .fail else .ret (.int k (iShr k a b))) else .ite (iLt b 0) .fail (.ret (.int k (iShr k a b)))
  | op, .int k a, .int k' b => if k = k' then tint (isK yo) op k a b else .fail
  | op, .str a, .str b => tstr op a b
  | .eql, .sl xs tg, .sl ys tg' => tnilq tb t yo xs tg fun b => .bool b
  | .neq, .sl xs tg, .sl ys tg' => tnilq tb t yo xs tg fun b => .bool (bNot b)
  | .eql, x, y => ofOpt ((bequal tb t xo yo x y).map .bool)
  | .neq, x, y => ofOpt ((bequal tb t xo yo x y).map fun b => .bool (bNot b))
  | _, _, _ => .fail

theorem tnilq_run {tb : Tab} {t : TypeId} {xo yo : Operand} {xs ys : List (List PV)} {tg tg' : Tag} {f : Bool → PV} {r : PV} (h : run (tnilq tb t yo xs tg f) = some r) : ∃ b, pequal tb t xo yo (.sl xs tg) (.sl ys tg') = some b ∧ r = f b := by
  unfold tnilq at h
  unfold pequal
  cases hK : tb t with
  | none => simp [hK, run] at h
  | some K =>
    simp only [hK] at h ⊢
    split at h
    · rename_i e hk
      simp only [hk]
      split at h
      · rename_i hn
        rw [if_pos hn]
        cases xs with
        | nil =>
          cases tg <;> simp [run, xNil] at h ⊢ <;> exact h.symm
        | cons x xs =>
          simp [run, xNil] at h ⊢
          exact h.symm
      · cases h
    · cases h

theorem tbin_run {tb : Tab} {op : BinOp} {t : TypeId} {xo yo : Operand} {x y r : PV} (h : run (tbin tb op t xo yo x y) = some r) : pbin tb op t xo yo x y = some r := by
  unfold tbin at h
  unfold pbin
  split at h
  · rename_i k a k' b
    simp only []
    split at h
    · split at h
      · cases h
      · rename_i hb
        rw [if_neg hb]
        exact h
    · simp only [run, iLt] at h
      by_cases hb : b < 0
      · simp [hb] at h
      · rw [if_neg hb]
        simp only [hb, decide_false, cond_false] at h
        exact h
  · rename_i k a k' b
    simp only []
    split at h
    · split at h
      · cases h
      · rename_i hb
        rw [if_neg hb]
        exact h
    · simp only [run, iLt] at h
      by_cases hb : b < 0
      · simp [hb] at h
      · rw [if_neg hb]
        simp only [hb, decide_false, cond_false] at h
        exact h
  · rename_i op' k a k' b h1 h2
    split at h
    · rename_i hk
      have := tint_run h
      cases op' <;> first
        | (simp only [hk, if_true] at this ⊢; exact this)
        | exact absurd rfl h1
        | exact absurd rfl h2
        | exact absurd rfl (h1 _ _ _ _ rfl rfl)
        | exact absurd rfl (h2 _ _ _ _ rfl rfl)
    · cases h
  · have := tstr_run h
    cases op <;> exact this
  · obtain ⟨b, hb, rfl⟩ := tnilq_run (xo := xo) h
    simp only []
    rw [hb]
    rfl
  · obtain ⟨b, hb, rfl⟩ := tnilq_run (xo := xo) h
    simp only []
    rw [hb]
    rfl
  · rename_i x y hn1 hn2 hn3
    rw [run_ofOpt] at h
    obtain ⟨b, hb, rfl⟩ := Option.map_eq_some_iff.1 h
    have hp := bequal_imp hb
    split <;> first
      | exact (hn1 _ _ _ _ rfl rfl).elim
      | exact (hn2 _ _ rfl rfl).elim
      | (rw [hp]; rfl)
      | simp_all
  · rename_i x y hn1 hn2 hn3
    rw [run_ofOpt] at h
    obtain ⟨b, hb, rfl⟩ := Option.map_eq_some_iff.1 h
    have hp := bequal_imp hb
    split <;> first
      | exact (hn1 _ _ _ _ rfl rfl).elim
      | exact (hn2 _ _ rfl rfl).elim
      | (rw [hp]; rfl)
      | simp_all
  · cases h
end Go.Pv
