/- Regions: operations one after another, in the order of the text or in any order that the edges leave. -/
import Derived.Test.YtdfahkeodlfopaaDoorPvOp8
set_option linter.unusedSimpArgs false
set_option linter.unusedVariables false
namespace Go.Pv
open Go.RowKit

/-- Frame and store stand for the machine's state; what began at (H0, w0) has gone on quietly. -/
def St (gl : Nat → Option Obj) (H0 : Gh) (w0 : World) (fr : List PV) (σ : Store) (a : Act) (w : World) : Prop :=
  ∃ H, Ev gl H0 w0 H w ∧ Ok gl H σ w ∧ RelL H w fr a.tmps.toList ∧ a.defers = []

section
variable {P : Program} {tb : Tab} {gl : Nat → Option Obj} {Γ : Gam} {H0 : Gh} {w0 : World} {fr : List PV} {σ : Store} {a : Act} {w : World} {Q : Exit → Act → World → Prop}

theorem put_rel {H : Gh} {w : World} {fr : List PV} {a : Act} {dst : Option Tmp} {x : PV} {v : Value} (hfr : RelL H w fr a.tmps.toList) (hx : Rel H w x v) : RelL H w (pput fr dst x) (a.put dst v).tmps.toList := by
  cases dst with
  | none => exact hfr
  | some d =>
    have := hfr.set d hx
    simpa [pput, Act.put] using this

theorem put_defers {a : Act} {dst : Option Tmp} {v : Value} : (a.put dst v).defers = a.defers := by
  cases dst <;> rfl

theorem st_step (hT : TabOk P tb) (hΓ : GamOk P gl Γ) (hst : St gl H0 w0 fr σ a w) {o : Oper} {x : PV} {σ' : Store} (h : pop tb Γ fr σ o = some (x, σ')) {next : Act → World → Prop}
    (hn : ∀ a' w', St gl H0 w0 (pput fr o.dst x) σ' a' w' → next a' w') : o.wp P a w next Q := by
  obtain ⟨H, hev, hok, hfr, hd⟩ := hst
  refine pop_sound hT hΓ hok hfr h next Q fun v w' ⟨H', hev', hok', hx⟩ => hn _ _ ⟨H', hev.trans hev', hok', put_rel (hfr.mono hev'.mono) hx, by rw [put_defers]; exact hd⟩

theorem st_skip (hst : St gl H0 w0 fr σ a w) (dst : Option Tmp) : St gl H0 w0 (pput fr dst (.tup [])) σ (a.put dst undef) w := by
  obtain ⟨H, hev, hok, hfr, hd⟩ := hst
  exact ⟨H, hev, hok, put_rel hfr (.tup [] [] .nil), by rw [put_defers]; exact hd⟩

theorem st_wanted (hst : St gl H0 w0 fr σ a w) {ops : Array Oper} {o : Oper} {b : Bool} (h : pwanted ops.toList fr o = some b) : Region.wanted o (yielded ops a.tmps) = b := by
  obtain ⟨H, hev, hok, hfr, hd⟩ := hst
  unfold pwanted at h
  unfold Region.wanted
  split at h
  · rename_i hg
    simp only [Option.some.injEq] at h
    subst h
    simp [hg]
  · rename_i j t hg
    simp only [hg]
    split at h
    · rename_i c hc
      simp only [Option.some.injEq] at h
      subst h
      rw [Array.getElem?_toList] at hc
      cases hdst : (ops[j]?).bind (·.dst) with
      | none => simp [hdst] at hc
      | some d =>
        simp only [hdst, Option.bind_some] at hc
        obtain ⟨v, hv, hr⟩ := hfr.get hc
        cases hr
        rw [Array.getElem?_toList] at hv
        simp only [yielded, hdst, Option.bind_some, hv]
        cases c <;> cases t <;> rfl
    · rename_i cs hc
      simp only [Option.some.injEq] at h
      subst h
      rw [Array.getElem?_toList] at hc
      cases hdst : (ops[j]?).bind (·.dst) with
      | none => simp [hdst] at hc
      | some d =>
        simp only [hdst, Option.bind_some] at hc
        obtain ⟨v, hv, hr⟩ := hfr.get hc
        cases hr
        rw [Array.getElem?_toList] at hv
        simp only [yielded, hdst, Option.bind_some, hv]
        cases t <;> rfl
    · cases h

theorem pops_sound (hT : TabOk P tb) (hΓ : GamOk P gl Γ) {ops : Array Oper} : ∀ (l : List Oper) (fr : List PV) (σ : Store) (a : Act) (w : World) (fr' : List PV) (σ' : Store), St gl H0 w0 fr σ a w → pops tb Γ ops.toList l fr σ = some (fr', σ') →
    (∀ a' w', St gl H0 w0 fr' σ' a' w' → Q .normal a' w') → wpList P ops Q l a w := by
  intro l
  induction l with
  | nil =>
    intro fr σ a w fr' σ' hst h hq
    simp only [pops, Option.some.injEq, Prod.mk.injEq] at h
    obtain ⟨rfl, rfl⟩ := h
    exact hq a w hst
  | cons o l ih =>
    intro fr σ a w fr' σ' hst h hq
    simp only [pops] at h
    split at h
    · cases h
    · rename_i hw
      have hwn := st_wanted hst hw
      simp only [wpList, hwn]
      exact ih _ _ _ _ _ _ (st_skip hst _) h hq
    · rename_i hw
      have hwn := st_wanted hst hw
      simp only [wpList, hwn, if_true]
      split at h
      · cases h
      · rename_i x σ1 hp
        exact .inl (st_step hT hΓ hst hp fun a' w' hst' => ih _ _ _ _ _ _ hst' h hq)

theorem st_drew (hst : St gl H0 w0 fr σ a w) : St gl H0 w0 fr σ a { w with drawn := w.drawn + 1 } := by
  obtain ⟨H, hev, hok, hfr, hd⟩ := hst
  have hb := below_drew0 w
  have e := Ev.of_below (gl := gl) hok.B hb (fun _ => Nat.le_succ _)
  exact ⟨H, hev.trans e, hok.of_below hb, hfr.mono e.mono, hd⟩

/-! ### any order -/

def callWrites (Γ : Gam) (c : Call) : Bool := match c.callee with
  | .builtin .append => true
  | .builtin .clear => true
  | .value (.func g) => match Γ g with
    | some (.store _) => true
    | _ => false
  | _ => false
def callReads (c : Call) : Bool := match c.callee with
  | .value _ => true
  | _ => false

/-- Does the operation change the store? -/
def writes (Γ : Gam) (o : Oper) : Bool := match o.op with
  | .alloc .. | .box .. | .store .. => true
  | .call c => callWrites Γ c
  | _ => false

/-- Does it look at the store? -/
def reads (Γ : Gam) (o : Oper) : Bool := writes Γ o || match o.op with
  | .load .. => true
  | .call c => callReads c
  | _ => false

/-- The slots that an operation looks at. -/
def looks (ops : List Oper) (o : Oper) : List Nat :=
  (o.op.operands.toList.filterMap fun | .tmp t => some t | _ => none) ++
  (match o.guard with
   | some (g, _) => ((ops[g]?).bind (·.dst)).toList
   | none => [])

def dstIs (o : Oper) (t : Nat) : Bool := o.dst == some t

def hits (ops : List Oper) (x y : Oper) : Bool := match x.dst with
  | some d => (looks ops y).contains d
  | none => false

def meets (Γ : Gam) (ops : List Oper) (x y : Oper) : Bool :=
  hits ops x y || hits ops y x || (match x.dst with | some d => y.dst == some d | none => false) || (writes Γ x && reads Γ y) || (writes Γ y && reads Γ x)

def mask (acc : List Nat) (o : Oper) : Nat := o.after.toList.foldl (fun s e => if Region.binds .any e then s ||| 2 ^ e.on ||| acc.getD e.on 0 else s) 0

/-- For each operation: no earlier one that it meets goes unordered with it; its edges lead to earlier ones. -/
def orderedFrom (Γ : Gam) (ops : List Oper) : List Oper → List Oper → List Nat → Bool
  | [], _, _ => true
  | o :: rest, done, acc =>
    let m := mask acc o
    o.after.toList.all (fun e => !Region.binds .any e || decide (e.on < done.length)) &&
    (done.zipIdx.all fun (x, i) => !meets Γ ops x o || m.testBit i) && orderedFrom Γ ops rest (done ++ [o]) (acc ++ [m])

def ordered (Γ : Gam) (ops : List Oper) : Bool := orderedFrom Γ ops ops [] []

end
end Go.Pv
