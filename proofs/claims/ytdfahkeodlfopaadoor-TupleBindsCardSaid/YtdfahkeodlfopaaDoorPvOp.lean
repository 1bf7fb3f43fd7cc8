/- An operation over pure values says what the machine's operation does: the quiet ones. -/
import Derived.Test.YtdfahkeodlfopaaDoorPvWorld
import Derived.Orders
import Derived.Laws.Slices
import Derived.Laws.Build
import Derived.Laws.StructEq
import Derived.Laws.BytesArg
import Derived.Lib.ConvBytes
set_option linter.unusedSimpArgs false
set_option linter.unusedVariables false
namespace Go.Pv
open Go.RowKit

def RunsTo (P : Program) (o : Oper) (a : Act) (w : World) (R : Value → World → Prop) : Prop :=
  ∀ (next : Act → World → Prop) (Q : Exit → Act → World → Prop), (∀ v w', R v w' → next (a.put o.dst v) w') → o.wp P a w next Q

section
variable {P : Program} {o : Oper} {a : Act} {w w' : World} {R : Value → World → Prop}
theorem RunsTo.value {v : Value} (h : (execOp a.eval o).run P w = .ok (.value v) w') (hR : R v w') : RunsTo P o a w R := by
  intro next Q hn
  unfold Oper.wp
  rw [h]
  exact hn v w' hR
theorem RunsTo.skip (h : (execOp a.eval o).run P w = .ok .skip w') (hR : R undef w') : RunsTo P o a w R := by
  intro next Q hn
  unfold Oper.wp
  rw [h]
  exact hn _ w' hR
theorem RunsTo.enter {f : FuncId} {args : Array Value} (h : (execOp a.eval o).run P w = .ok (.enter f args) w')
    (hc : Calls P f args w' fun e w'' => ∃ v, e = .returned v ∧ R v w'') : RunsTo P o a w R := by
  intro next Q hn
  unfold Oper.wp
  rw [h]
  exact hc.mono fun e w'' ⟨v, he, hr⟩ => by
    subst he
    exact hn v w'' hr
end

/-- What an operation leaves. -/
def Post (gl : Nat → Option Obj) (H : Gh) (w : World) (x : PV) (σ' : Store) (v : Value) (w' : World) : Prop := ∃ H', Ev gl H w H' w' ∧ Ok gl H' σ' w' ∧ Rel H' w' x v

theorem Post.same {gl : Nat → Option Obj} {H : Gh} {w : World} {x : PV} {σ : Store} {v : Value} (hok : Ok gl H σ w) (h : Rel H w x v) : Post gl H w x σ v w := ⟨H, Ev.refl H w, hok, h⟩
theorem Post.below {gl : Nat → Option Obj} {H : Gh} {w w' : World} {x : PV} {σ : Store} {v : Value} (hok : Ok gl H σ w) (hb : Below w.heap.size w w') (hd : Dr gl w w') (h : Rel H w' x v) : Post gl H w x σ v w' := ⟨H, Ev.of_below hok.B hb hd, hok.of_below hb, h⟩

section
variable {P : Program} {H : Gh} {w : World}

/-! ### numbers and texts -/
theorem wf_tmod {k : IntKind} {a : Int} (b : Int) (h : (Lit.int k a).wf = true) : (Lit.int k (a.tmod b)).wf = true := by
  have h1 : (a.tmod b).natAbs ≤ a.natAbs := by rw [Int.natAbs_tmod]; exact Nat.mod_le _ _
  have h2 : 0 ≤ a → 0 ≤ a.tmod b := fun h => Int.tmod_nonneg b h
  have h3 : a ≤ 0 → a.tmod b ≤ 0 := fun h => by
    have := Int.tmod_nonneg b (a := -a) (by omega)
    rw [Int.neg_tmod] at this
    omega
  cases k <;> simp [Lit.wf, IntKind.min, IntKind.max, IntKind.signed, IntKind.bits] at h ⊢ <;> omega

theorem wf_fdiv {k : IntKind} {a : Int} (n : Nat) (h : (Lit.int k a).wf = true) : (Lit.int k (a.fdiv (2 ^ n))).wf = true := by
  have hp : (0 : Int) < 2 ^ n := Int.pow_pos (by decide)
  rw [Int.fdiv_eq_ediv_of_nonneg _ (Int.le_of_lt hp)]
  have h1 : 0 ≤ a → 0 ≤ a / 2 ^ n := fun h => Int.ediv_nonneg h (Int.le_of_lt hp)
  have h2 : 0 ≤ a → a / 2 ^ n ≤ a := fun h => Int.ediv_le_self _ h
  have h3 : a ≤ 0 → a ≤ a / 2 ^ n := fun h => by
    refine (Int.le_ediv_iff_mul_le hp).2 ?_
    have : a * 2 ^ n ≤ a * 1 := Int.mul_le_mul_of_nonpos_left h (by omega)
    omega
  have h4 : a ≤ 0 → a / 2 ^ n ≤ 0 := fun h => by
    have : a / 2 ^ n < 1 := (Int.ediv_lt_iff_lt_mul hp).2 (by omega)
    omega
  cases k <;> simp [Lit.wf, IntKind.min, IntKind.max, IntKind.signed, IntKind.bits] at h ⊢ <;> omega

theorem rel_bool_inv {x : PV} {b : Bool} (h : Rel H w x (.bool b)) : x = .top ∨ x = .bool b := by cases h <;> simp

theorem pint_run {op : BinOp} {k : IntKind} {m n : Int} {x : PV} (h : pint op k m n = some x) (hwf : (Lit.int k m).wf = true) (t : TypeId) (hm : op ≠ .shl) (hm2 : op ≠ .shr) :
    ∃ v, (binOp op t (.int k m) (.int k n)).run P w = .ok v w ∧ Rel H w x v := by
  unfold pint at h
  cases op <;> simp only [Option.some.injEq, reduceCtorEq] at h <;> first
    | exact absurd rfl hm
    | exact absurd rfl hm2
    | (subst h; exact ⟨_, by simp [binOp, Op.intArith, Op.intBits, Op.intCmp], .int _ _ (wf_wrap _ _)⟩)
    | (subst h; exact ⟨_, by simp [binOp, Op.intArith, Op.intBits, Op.intCmp], .bool _⟩)
    | (split at h
       · cases h
       · rename_i hz
         first
           | (simp only [Option.some.injEq] at h; subst h; exact ⟨_, by simp [binOp, Op.intDiv, hz], .int _ _ (wf_wrap _ _)⟩)
           | (simp only [Option.some.injEq] at h; subst h; exact ⟨_, by simp [binOp, Op.intDiv, hz], .int _ _ (wf_tmod _ hwf)⟩))

theorem pstr_run {op : BinOp} {l m : List UInt8} {x : PV} (h : pstr op l m = some x) (t : TypeId) :
    ∃ v, (binOp op t (.string ⟨l.toArray⟩) (.string ⟨m.toArray⟩)).run P w = .ok v w ∧ Rel H w x v := by
  unfold pstr at h
  cases op <;> simp only [Option.some.injEq, reduceCtorEq] at h
  case add =>
    split at h
    · rename_i hl
      simp only [Option.some.injEq] at h
      subst h
      have hn : (l.length : Int) + (m.length : Int) ≤ 9223372036854775807 := by unfold maxLen at hl; omega
      refine ⟨.string ⟨(l ++ m).toArray⟩, ?_, .str _ (by simpa using hl)⟩
      have e1 : (ByteArray.mk l.toArray).size = l.length := by simp [ByteArray.size]
      have e2 : (ByteArray.mk m.toArray).size = m.length := by simp [ByteArray.size]
      have e3 : (ByteArray.mk l.toArray) ++ (ByteArray.mk m.toArray) = ByteArray.mk (l ++ m).toArray := by
        apply ByteArray.ext
        simp
      simp only [binOp, Op.stringOp, e1, e2, e3, IntKind.max, IntKind.signed, IntKind.bits]
      simp [hn]
    · cases h
  all_goals
    subst h
    exact ⟨_, by simp [binOp, Op.stringOp], .bool _⟩
end
end Go.Pv
