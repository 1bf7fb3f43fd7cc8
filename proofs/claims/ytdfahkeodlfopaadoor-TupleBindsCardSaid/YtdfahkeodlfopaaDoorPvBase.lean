/- Pure values for Go's values, and what it means that a pure value stands for a value of the machine in a world.
   No program in sight. -/
import Derived.Below
import Derived.WalkKit
namespace Go.Pv
open Go.RowKit

/-- May a slice be appended to in place? 'full': its length is its capacity; 'tok t': it is the newest state of own row t. -/
inductive Tag where
  | non | full | nil | own
  | tok (t : Nat)

/-- Pure values. 'top' stands for anything. Slices are told by value: each element by its cells. -/
inductive PV where
  | top
  | bool (b : Bool)
  | int (k : IntKind) (n : Int)
  | str (l : List UInt8)
  | nilp
  | ptr (id off : Nat)
  | ref (cs : List PV)
  | sl (xs : List (List PV)) (t : Tag)
  | osl (id off len k : Nat)
  | fn (f : FuncId) (caps : List PV)
  | nilf
  | iface (t : TypeId) (v : PV)
  | nili
  | agg (cs : List PV)
  | tup (vs : List PV)

/-- An own row: its block, how many elements it has had, its capacity, how many cells an element has, the elements' type. -/
structure Tok where
  blk : Nat
  ver : Nat
  cap : Nat
  k : Nat
  e : TypeId

/-- What is known of memory beside the values: the first block of the call's own; which old cells stay as they are for good, which only while the call lasts; the own objects' blocks; the own rows. -/
structure Gh where
  B : Nat
  base : Nat → Nat → Prop
  aux : Nat → Nat → Prop
  ob : List Nat
  tk : List Tok

/-- A cell that stays as it is. -/
def Gh.prot (H : Gh) (w : World) (b off : Nat) : Prop :=
  b < w.heap.size ∧ (b < H.B → H.base b off) ∧ b ∉ H.ob ∧ ∀ T ∈ H.tk, T.blk = b → off < T.ver * T.k

/-- A cell that stays as it is while the call lasts. -/
def Gh.prot2 (H : Gh) (w : World) (b off : Nat) : Prop := H.prot w b off ∨ (b < H.B ∧ H.aux b off)

def CellsAt (H : Gh) (w : World) (a : Addr) (vs : List Value) : Prop :=
  ∀ j v, vs[j]? = some v → H.prot w (a.add j).block (a.add j).off ∧ w.cell? (a.add j) = some v

def CellsAt2 (H : Gh) (w : World) (a : Addr) (vs : List Value) : Prop :=
  ∀ j v, vs[j]? = some v → H.prot2 w (a.add j).block (a.add j).off ∧ w.cell? (a.add j) = some v

def RowAt (H : Gh) (w : World) (p : Option Addr) (k : Nat) (vss : List (List Value)) : Prop :=
  ∀ i vs, vss[i]? = some vs → vs.length = k ∧ ∃ a, p = some a ∧ CellsAt H w (a.add (i * k)) vs

def TagOk (H : Gh) (p : Option Addr) (len cap k : Nat) : Tag → Prop
  | .non => True
  | .full => len = cap
  | .nil => p = none
  | .own => p ≠ none
  | .tok t => ∃ T, H.tk[t]? = some T ∧ len ≤ T.ver ∧ (len = T.ver → p = some ⟨T.blk, 0, none⟩ ∧ cap = T.cap ∧ k = T.k)

mutual
/-- Pure value x stands for value v. -/
inductive Rel (H : Gh) (w : World) : PV → Value → Prop
  | top (v : Value) : Rel H w .top v
  | bool (b : Bool) : Rel H w (.bool b) (.bool b)
  | int (k : IntKind) (n : Int) (h : (Lit.int k n).wf = true) : Rel H w (.int k n) (.int k n)
  | str (l : List UInt8) (h : l.length ≤ maxLen) : Rel H w (.str l) (.string ⟨l.toArray⟩)
  | nilp : Rel H w .nilp (.pointer none)
  | ptr (id off b : Nat) (h : H.ob[id]? = some b) : Rel H w (.ptr id off) (.pointer (some ⟨b, off, none⟩))
  | ref (a : Addr) (cs : List PV) (vs : List Value) (h : RelL H w cs vs) (hc : CellsAt2 H w a vs) : Rel H w (.ref cs) (.pointer (some a))
  | sl (p : Option Addr) (len cap k : Nat) (xs : List (List PV)) (vss : List (List Value)) (t : Tag) (hl : xs.length = len) (hcap : len ≤ cap) (hm : cap ≤ maxLen)
      (h : RelLL H w xs vss) (hr : RowAt H w p k vss) (ht : TagOk H p len cap k t) : Rel H w (.sl xs t) (.slice p len cap)
  | osl (id off off' len cap k b : Nat) (h : H.ob[id]? = some b) (ho : len ≠ 0 → off' = off) (hcap : len ≤ cap) (hm : cap ≤ maxLen) : Rel H w (.osl id off len k) (.slice (some ⟨b, off', none⟩) len cap)
  | fn (f : FuncId) (caps : List PV) (vs : List Value) (h : RelL H w caps vs) : Rel H w (.fn f caps) (.func (.func f) #[] vs.toArray)
  | nilf : Rel H w .nilf .nilFunc
  | iface (t : TypeId) (x : PV) (v : Value) (h : Rel H w x v) : Rel H w (.iface t x) (.iface t v)
  | nili : Rel H w .nili .nilIface
  | agg (cs : List PV) (vs : List Value) (h : RelL H w cs vs) : Rel H w (.agg cs) (.agg vs.toArray)
  | tup (cs : List PV) (vs : List Value) (h : RelL H w cs vs) : Rel H w (.tup cs) (.tuple vs.toArray)
inductive RelL (H : Gh) (w : World) : List PV → List Value → Prop
  | nil : RelL H w [] []
  | cons (x : PV) (v : Value) (xs : List PV) (vs : List Value) (h : Rel H w x v) (ht : RelL H w xs vs) : RelL H w (x :: xs) (v :: vs)
inductive RelLL (H : Gh) (w : World) : List (List PV) → List (List Value) → Prop
  | nil : RelLL H w [] []
  | cons (x : List PV) (v : List Value) (xs : List (List PV)) (vs : List (List Value)) (h : RelL H w x v) (ht : RelLL H w xs vs) : RelLL H w (x :: xs) (v :: vs)
end

/-! ### What happens to memory -/

/-- What holds of (H, w) in values holds of (H', w'). -/
structure Mono (H : Gh) (w : World) (H' : Gh) (w' : World) : Prop where
  ob : ∀ (id b : Nat), H.ob[id]? = some b → H'.ob[id]? = some b
  tok : ∀ (t : Nat) (T : Tok), H.tk[t]? = some T → ∃ T', H'.tk[t]? = some T' ∧ T.ver ≤ T'.ver ∧ (T.ver = T'.ver → T' = T)
  prot : ∀ b off, H.prot w b off → H'.prot w' b off ∧ ∀ s, w'.cell? ⟨b, off, s⟩ = w.cell? ⟨b, off, s⟩
  prot2 : ∀ b off, H.prot2 w b off → H'.prot2 w' b off ∧ ∀ s, w'.cell? ⟨b, off, s⟩ = w.cell? ⟨b, off, s⟩

/-- The tape is not wound back, where no variable is looked at. -/
def Dr (gl : Nat → Option Obj) (w w' : World) : Prop := (∀ b, gl b = none) → w.drawn ≤ w'.drawn
theorem Dr.of_eq {gl : Nat → Option Obj} {w w' : World} (h : w'.drawn = w.drawn) : Dr gl w w' := fun _ => by rw [h]; exact Nat.le_refl _
theorem Dr.trans {gl : Nat → Option Obj} {w w1 w2 : World} (h : Dr gl w w1) (k : Dr gl w1 w2) : Dr gl w w2 := fun hg => Nat.le_trans (h hg) (k hg)

/-- (H', w') comes of (H, w): what stays has stayed; no block below the call's own has been touched. -/
structure Ev (gl : Nat → Option Obj) (H : Gh) (w : World) (H' : Gh) (w' : World) : Prop where
  B : H'.B = H.B
  base : H'.base = H.base
  aux : H'.aux = H.aux
  os : w'.os = w.os
  tape : w'.tape = w.tape
  output : w'.output = w.output
  size : w.heap.size ≤ w'.heap.size
  ob : ∀ (id b : Nat), H.ob[id]? = some b → H'.ob[id]? = some b
  tok : ∀ (t : Nat) (T : Tok), H.tk[t]? = some T → ∃ T', H'.tk[t]? = some T' ∧ T.ver ≤ T'.ver ∧ (T.ver = T'.ver → T' = T)
  prot : ∀ b off, H.prot w b off → H'.prot w' b off ∧ ∀ s, w'.cell? ⟨b, off, s⟩ = w.cell? ⟨b, off, s⟩
  block : ∀ b, b < H.B → w'.heap[b]? = w.heap[b]?
  dr : Dr gl w w'

theorem Ev.mono {gl : Nat → Option Obj} {H H' : Gh} {w w' : World} (h : Ev gl H w H' w') : Mono H w H' w' where
  ob := h.ob
  tok := h.tok
  prot := h.prot
  prot2 := fun b off hp => by
    rcases hp with hp | ⟨hb, ha⟩
    · exact ⟨.inl (h.prot b off hp).1, (h.prot b off hp).2⟩
    · exact ⟨.inr ⟨by rw [h.B]; exact hb, by rw [h.aux]; exact ha⟩, fun s => World.cell?_of_block (a := ⟨b, off, s⟩) (h.block b hb)⟩

theorem Ev.refl {gl : Nat → Option Obj} (H : Gh) (w : World) : Ev gl H w H w :=
  ⟨rfl, rfl, rfl, rfl, rfl, rfl, Nat.le_refl _, fun _ _ h => h, fun _ T h => ⟨T, h, Nat.le_refl _, fun _ => rfl⟩, fun _ _ h => ⟨h, fun _ => rfl⟩, fun _ _ => rfl, fun _ => Nat.le_refl _⟩

theorem tok_trans {H H1 H2 : Gh} (h : ∀ (t : Nat) (T : Tok), H.tk[t]? = some T → ∃ T', H1.tk[t]? = some T' ∧ T.ver ≤ T'.ver ∧ (T.ver = T'.ver → T' = T))
    (k : ∀ (t : Nat) (T : Tok), H1.tk[t]? = some T → ∃ T', H2.tk[t]? = some T' ∧ T.ver ≤ T'.ver ∧ (T.ver = T'.ver → T' = T)) :
    ∀ (t : Nat) (T : Tok), H.tk[t]? = some T → ∃ T', H2.tk[t]? = some T' ∧ T.ver ≤ T'.ver ∧ (T.ver = T'.ver → T' = T) := fun t T e => by
  obtain ⟨T1, e1, l1, q1⟩ := h t T e
  obtain ⟨T2, e2, l2, q2⟩ := k t T1 e1
  refine ⟨T2, e2, Nat.le_trans l1 l2, fun hv => ?_⟩
  have hv1 : T.ver = T1.ver := by omega
  have := q1 hv1
  subst this
  exact q2 (by omega)

theorem Ev.trans {gl : Nat → Option Obj} {H H1 H2 : Gh} {w w1 w2 : World} (h : Ev gl H w H1 w1) (k : Ev gl H1 w1 H2 w2) : Ev gl H w H2 w2 where
  B := k.B.trans h.B
  base := k.base.trans h.base
  aux := k.aux.trans h.aux
  os := k.os.trans h.os
  tape := k.tape.trans h.tape
  output := k.output.trans h.output
  size := Nat.le_trans h.size k.size
  ob := fun id b e => k.ob id b (h.ob id b e)
  tok := tok_trans h.tok k.tok
  prot := fun b off e => by
    obtain ⟨p1, c1⟩ := h.prot b off e
    obtain ⟨p2, c2⟩ := k.prot b off p1
    exact ⟨p2, fun s => (c2 s).trans (c1 s)⟩
  block := fun b hb => (k.block b (by rw [h.B]; exact hb)).trans (h.block b hb)
  dr := h.dr.trans k.dr

theorem CellsAt.mono {H H' : Gh} {w w' : World} {a : Addr} {vs : List Value} (g : Mono H w H' w') (h : CellsAt H w a vs) : CellsAt H' w' a vs := fun j v e => by
  obtain ⟨p, c⟩ := h j v e
  obtain ⟨p', c'⟩ := g.prot _ _ p
  exact ⟨p', by rw [← c]; exact c' _⟩

theorem CellsAt2.mono {H H' : Gh} {w w' : World} {a : Addr} {vs : List Value} (g : Mono H w H' w') (h : CellsAt2 H w a vs) : CellsAt2 H' w' a vs := fun j v e => by
  obtain ⟨p, c⟩ := h j v e
  obtain ⟨p', c'⟩ := g.prot2 _ _ p
  exact ⟨p', by rw [← c]; exact c' _⟩

theorem CellsAt.weak {H : Gh} {w : World} {a : Addr} {vs : List Value} (h : CellsAt H w a vs) : CellsAt2 H w a vs := fun j v e => ⟨.inl (h j v e).1, (h j v e).2⟩

theorem RowAt.mono {H H' : Gh} {w w' : World} {p : Option Addr} {k : Nat} {vss : List (List Value)} (g : Mono H w H' w') (h : RowAt H w p k vss) : RowAt H' w' p k vss := fun i vs e => by
  obtain ⟨l, a, ea, hc⟩ := h i vs e
  exact ⟨l, a, ea, hc.mono g⟩

theorem TagOk.mono {H H' : Gh} {w w' : World} {p : Option Addr} {len cap k : Nat} {t : Tag} (g : Mono H w H' w') (h : TagOk H p len cap k t) : TagOk H' p len cap k t := by
  cases t with
  | non => trivial
  | full => exact h
  | nil => exact h
  | own => exact h
  | tok t =>
    obtain ⟨T, e, l, q⟩ := h
    obtain ⟨T', e', l', q'⟩ := g.tok t T e
    refine ⟨T', e', Nat.le_trans l l', fun hv => ?_⟩
    have : T.ver = T'.ver := by omega
    have := q' this
    subst this
    exact q hv

mutual
theorem Rel.mono {H H' : Gh} {w w' : World} (g : Mono H w H' w') : ∀ {x : PV} {v : Value}, Rel H w x v → Rel H' w' x v
  | _, _, .top v => .top v
  | _, _, .bool b => .bool b
  | _, _, .int k n h => .int k n h
  | _, _, .str l h => .str l h
  | _, _, .nilp => .nilp
  | _, _, .ptr id off b h => .ptr id off b (g.ob id b h)
  | _, _, .ref a cs vs h hc => .ref a cs vs (RelL.mono g h) (hc.mono g)
  | _, _, .sl p len cap k xs vss t hl hcap hm h hr ht => .sl p len cap k xs vss t hl hcap hm (RelLL.mono g h) (hr.mono g) (ht.mono g)
  | _, _, .osl id off off' len cap k b h ho hcap hm => .osl id off off' len cap k b (g.ob _ _ h) ho hcap hm
  | _, _, .fn f caps vs h => .fn f caps vs (RelL.mono g h)
  | _, _, .nilf => .nilf
  | _, _, .iface t x v h => .iface t x v (Rel.mono g h)
  | _, _, .nili => .nili
  | _, _, .agg cs vs h => .agg cs vs (RelL.mono g h)
  | _, _, .tup cs vs h => .tup cs vs (RelL.mono g h)
theorem RelL.mono {H H' : Gh} {w w' : World} (g : Mono H w H' w') : ∀ {x : List PV} {v : List Value}, RelL H w x v → RelL H' w' x v
  | _, _, .nil => .nil
  | _, _, .cons x v xs vs h ht => .cons x v xs vs (Rel.mono g h) (RelL.mono g ht)
theorem RelLL.mono {H H' : Gh} {w w' : World} (g : Mono H w H' w') : ∀ {x : List (List PV)} {v : List (List Value)}, RelLL H w x v → RelLL H' w' x v
  | _, _, .nil => .nil
  | _, _, .cons x v xs vs h ht => .cons x v xs vs (RelL.mono g h) (RelLL.mono g ht)
end

end Go.Pv
