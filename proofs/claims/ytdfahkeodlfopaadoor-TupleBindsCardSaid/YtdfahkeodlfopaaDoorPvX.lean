/- Loops told by their rounds, functions told by their trees: contracts without a proof of one's own. -/
import Derived.Test.YtdfahkeodlfopaaDoorPvVal
set_option linter.unusedSimpArgs false
set_option linter.unusedVariables false
namespace Go.Pv
open Go.RowKit Tr

/-! ### elements of rows, cell by cell -/
def xInt (xs : List (List PV)) (i j : Nat) : Int := match (xs.getD i []).getD j .top with | .int _ n => n | _ => 0
def xBool (xs : List (List PV)) (i j : Nat) : Bool := match (xs.getD i []).getD j .top with | .bool b => b | _ => false
def xStr (xs : List (List PV)) (i j : Nat) : List UInt8 := match (xs.getD i []).getD j .top with | .str l => l | _ => []
def xRow (xs : List (List PV)) (i j : Nat) : List (List PV) := match (xs.getD i []).getD j .top with | .sl l _ => l | _ => []
def xPV (xs : List (List PV)) (i j : Nat) : PV := (xs.getD i []).getD j .top
def selC (c : PV) (xs : List (List PV)) (i j : Nat) : PV := match c with
  | .int k _ => .int k (xInt xs i j)
  | .bool _ => .bool (xBool xs i j)
  | .str _ => .str (xStr xs i j)
  | .sl _ _ => .sl (xRow xs i j) .non
  | _ => xPV xs i j
def selF : List PV → List (List PV) → Nat → Nat → List PV
  | [], _, _, _ => []
  | c :: z, xs, i, j => selC c xs i j :: selF z xs i (j + 1)
open Classical in
noncomputable def okGet (z : List PV) (xs : List (List PV)) (i : Nat) : Bool := decide (xs[i]? = some (selF z xs i 0))

/-- A tree whose elements of rows are told cell by cell. -/
noncomputable def Tr.flat {α : Type} : Tr α → Tr α
  | .ret a => .ret a
  | .fail => .fail
  | .ite b x y => .ite b x.flat y.flat
  | .get xs i z k => .ite (okGet z xs i) (k (selF z xs i 0)).flat .fail

theorem Tr.flat_run {α : Type} {r : α} : ∀ {t : Tr α}, t.flat.run = some r → t.run = some r
  | .ret a, h => h
  | .fail, h => h
  | .ite b x y, h => by
    cases b with
    | true => simp only [Tr.flat, Tr.run_ite, if_true] at h ⊢; exact Tr.flat_run h
    | false => simp only [Tr.flat, Tr.run_ite, Bool.false_eq_true, if_false] at h ⊢; exact Tr.flat_run h
  | .get xs i z k, h => by
    simp only [Tr.flat, Tr.run_ite] at h
    split at h
    · rename_i hg
      have hg : xs[i]? = some (selF z xs i 0) := by simpa [okGet] using hg
      simp only [Tr.run_get, hg]
      exact Tr.flat_run h
    · cases h


/-! ### own rows from m on forgotten -/
def dropTag (m : Nat) : Tag → Tag
  | .tok t => bif decide (t < m) then .tok t else .non
  | t => t
mutual
def dropT (m : Nat) : PV → PV
  | .ref cs => .ref (dropTL m cs)
  | .sl xs t => .sl (dropTLL m xs) (dropTag m t)
  | .fn f caps => .fn f (dropTL m caps)
  | .iface t v => .iface t (dropT m v)
  | .agg cs => .agg (dropTL m cs)
  | .tup vs => .tup (dropTL m vs)
  | x => x
def dropTL (m : Nat) : List PV → List PV
  | [] => []
  | x :: xs => dropT m x :: dropTL m xs
def dropTLL (m : Nat) : List (List PV) → List (List PV)
  | [] => []
  | x :: xs => dropTL m x :: dropTLL m xs
end
def dropTS (m : Nat) (σ : Store) : Store := ⟨σ.objs.map (dropTL m), σ.toks.take m, σ.tys⟩
theorem dropTL_len (m : Nat) : ∀ (xs : List PV), (dropTL m xs).length = xs.length
  | [] => rfl
  | x :: xs => by simp [dropTL, dropTL_len m xs]
theorem dropTLL_len (m : Nat) : ∀ (xs : List (List PV)), (dropTLL m xs).length = xs.length
  | [] => rfl
  | x :: xs => by simp [dropTLL, dropTLL_len m xs]
mutual
theorem dropT_lock (m : Nat) : ∀ {x : PV}, lock x = x → dropT m x = x
  | .top, _ => rfl
  | .bool _, _ => rfl
  | .int _ _, _ => rfl
  | .str _, _ => rfl
  | .nilp, _ => rfl
  | .ptr _ _, h => by simp [lock] at h
  | .ref cs, h => by simp only [lock, PV.ref.injEq] at h; simp only [dropT]; rw [dropTL_lock m h]
  | .sl xs t, h => by simp only [lock, PV.sl.injEq] at h; simp only [dropT]; rw [dropTLL_lock m h.1, ← h.2]; rfl
  | .osl _ _ _ _, h => by simp [lock] at h
  | .fn f caps, h => by simp only [lock, PV.fn.injEq] at h; simp only [dropT]; rw [dropTL_lock m h.2]
  | .nilf, _ => rfl
  | .iface t v, h => by simp only [lock, PV.iface.injEq] at h; simp only [dropT]; rw [dropT_lock m h.2]
  | .nili, _ => rfl
  | .agg cs, h => by simp only [lock, PV.agg.injEq] at h; simp only [dropT]; rw [dropTL_lock m h]
  | .tup cs, h => by simp only [lock, PV.tup.injEq] at h; simp only [dropT]; rw [dropTL_lock m h]
theorem dropTL_lock (m : Nat) : ∀ {x : List PV}, lockL x = x → dropTL m x = x
  | [], _ => rfl
  | x :: xs, h => by simp only [lockL, List.cons.injEq] at h; simp only [dropTL]; rw [dropT_lock m h.1, dropTL_lock m h.2]
theorem dropTLL_lock (m : Nat) : ∀ {x : List (List PV)}, lockLL x = x → dropTLL m x = x
  | [], _ => rfl
  | x :: xs, h => by simp only [lockLL, List.cons.injEq] at h; simp only [dropTLL]; rw [dropTL_lock m h.1, dropTLL_lock m h.2]
end
@[simp] theorem dropTLL_bytes (m : Nat) (l : List UInt8) : dropTLL m (bytesOf l) = bytesOf l := dropTLL_lock m (lockLL_bytes l)
@[simp] theorem dropTLL_rOf {α : Type} (C : Cod α) (m : Nat) (l : List α) : dropTLL m (rOf C l) = rOf C l := dropTLL_lock m (lockLL_rOf C l)
theorem dropTLL_app (m : Nat) : ∀ (a b : List (List PV)), dropTLL m (a ++ b) = dropTLL m a ++ dropTLL m b
  | [], b => rfl
  | x :: a, b => by simp only [List.cons_append, dropTLL, dropTLL_app m a b]

def Gh.trim (H : Gh) (m : Nat) : Gh := { H with tk := H.tk.take m }
section
variable {H : Gh} {w : World} {m : Nat}
theorem trim_prot {b off : Nat} (h : H.prot w b off) : (H.trim m).prot w b off := ⟨h.1, h.2.1, h.2.2.1, fun T hT => h.2.2.2 T (List.mem_of_mem_take hT)⟩
theorem trim_prot2 {b off : Nat} (h : H.prot2 w b off) : (H.trim m).prot2 w b off := h.elim (fun h => .inl (trim_prot h)) .inr
theorem trim_tag {p : Option Addr} {len cap k : Nat} {t : Tag} (h : TagOk H p len cap k t) : TagOk (H.trim m) p len cap k (dropTag m t) := by
  cases t with
  | non => trivial
  | full => exact h
  | nil => exact h
  | own => exact h
  | tok t =>
    simp only [dropTag]
    cases hm : decide (t < m) with
    | false => trivial
    | true =>
      obtain ⟨T, e, l, q⟩ := h
      exact ⟨T, by simp only [Gh.trim]; rw [List.getElem?_take, if_pos (by simpa using hm)]; exact e, l, q⟩
mutual
theorem trim_rel : ∀ {x : PV} {v : Value}, Rel H w x v → Rel (H.trim m) w (dropT m x) v
  | _, _, .top v => by simp only [dropT]; exact .top v
  | _, _, .bool b => by simp only [dropT]; exact .bool b
  | _, _, .int k m h => by simp only [dropT]; exact .int k m h
  | _, _, .str l h => by simp only [dropT]; exact .str l h
  | _, _, .nilp => by simp only [dropT]; exact .nilp
  | _, _, .ptr id off b h => by simp only [dropT]; exact .ptr id off b h
  | _, _, .ref a cs vs h hc => by simp only [dropT]; exact .ref a _ vs (trimL_rel h) (fun j v e => ⟨trim_prot2 (hc j v e).1, (hc j v e).2⟩)
  | _, _, .osl id off off' len cap k b h ho hcap hm => by simp only [dropT]; exact .osl id off off' len cap k b h ho hcap hm
  | _, _, .sl p len cap k xs vss t hl hcap hm h hr ht => by
    simp only [dropT]
    exact .sl p len cap k _ vss _ (by rw [← hl]; exact dropTLL_len _ xs) hcap hm (trimLL_rel h) (fun i vs e => ⟨(hr i vs e).1, by
      obtain ⟨_, a, ha, hc⟩ := hr i vs e
      exact ⟨a, ha, fun j v e => ⟨trim_prot (hc j v e).1, (hc j v e).2⟩⟩⟩) (trim_tag ht)
  | _, _, .fn f caps vs h => by simp only [dropT]; exact .fn f _ vs (trimL_rel h)
  | _, _, .nilf => by simp only [dropT]; exact .nilf
  | _, _, .iface t x v h => by simp only [dropT]; exact .iface t _ v (trim_rel h)
  | _, _, .nili => by simp only [dropT]; exact .nili
  | _, _, .agg cs vs h => by simp only [dropT]; exact .agg _ vs (trimL_rel h)
  | _, _, .tup cs vs h => by simp only [dropT]; exact .tup _ vs (trimL_rel h)
theorem trimL_rel : ∀ {x : List PV} {v : List Value}, RelL H w x v → RelL (H.trim m) w (dropTL m x) v
  | _, _, .nil => by simp only [dropTL]; exact .nil
  | _, _, .cons x v xs vs h ht => by simp only [dropTL]; exact .cons _ v _ vs (trim_rel h) (trimL_rel ht)
theorem trimLL_rel : ∀ {x : List (List PV)} {v : List (List Value)}, RelLL H w x v → RelLL (H.trim m) w (dropTLL m x) v
  | _, _, .nil => by simp only [dropTLL]; exact .nil
  | _, _, .cons x v xs vs h ht => by simp only [dropTLL]; exact .cons _ v _ vs (trimL_rel h) (trimLL_rel ht)
end
theorem trim_ok {gl : Nat → Option Obj} {σ : Store} (h : Ok gl H σ w) : Ok gl (H.trim m) (dropTS m σ) w where
  B := h.B
  gl := h.gl
  len := by simp [Gh.trim, dropTS, h.len]
  obj := fun id b cs e1 e2 => by
    simp only [dropTS, List.getElem?_map] at e2
    obtain ⟨c0, hc0, rfl⟩ := Option.map_eq_some_iff.1 e2
    obtain ⟨hB, vs, ext, T, he, hr⟩ := h.obj id b c0 e1 hc0
    exact ⟨hB, vs, ext, T, he, trimL_rel hr⟩
  nd := h.nd
  tkl := by
    have := h.tkl
    simp only [Gh.trim, dropTS, List.map_take, ← this]
  tok := fun t T e => h.tok t T (take_get e).2
  tnd := fun t u T U e1 e2 => h.tnd t u T U (take_get e1).2 (take_get e2).2
  tyl := by simp [dropTS, h.tyl]
  ty := fun id b T cs e1 e2 e3 hT => by
    simp only [dropTS, List.getElem?_map] at e2 e3
    obtain ⟨c0, hc0, rfl⟩ := Option.map_eq_some_iff.1 e3
    obtain ⟨us, he, hs⟩ := h.ty id b T c0 e1 e2 hc0 hT
    exact ⟨us, he, by rw [hs, dropTL_len]⟩
end
section
variable {P : Program} {gl : Nat → Option Obj} {c : Code} {fr fr' : List PV} {σ σ' : Store} {e : PExit} {m : Nat}
theorem st_trim {H0 : Gh} {w0 : World} {a : Act} {w : World} (hn : H0.tk.length ≤ m) (h : St gl H0 w0 fr σ a w) : St gl H0 w0 (dropTL m fr) (dropTS m σ) a w := by
  obtain ⟨H, hev, hok, hfr, hd⟩ := h
  refine ⟨H.trim m, ⟨hev.B, hev.base, hev.aux, hev.os, hev.tape, hev.output, hev.size, hev.ob, fun t T ht => ?_, fun b off hp => ⟨trim_prot (hev.prot b off hp).1, (hev.prot b off hp).2⟩, hev.block, hev.dr⟩, trim_ok hok, trimL_rel hfr, hd⟩
  obtain ⟨T', h1, h2⟩ := hev.tok t T ht
  refine ⟨T', ?_, h2⟩
  simp only [Gh.trim]
  rw [List.getElem?_take, if_pos (Nat.lt_of_lt_of_le (List.getElem?_eq_some_iff.1 ht).1 hn)]
  exact h1
theorem Does.trim (hn : σ.toks.length ≤ m) (h : Does P gl c fr σ e fr' σ') : Does P gl c fr σ e (dropTL m fr') (dropTS m σ') := by
  intro H0 w0 Q a w hst hq
  obtain ⟨H, hev, hok, hfr, hd⟩ := hst
  refine h H w Q a w ⟨H, Ev.refl H w, hok, hfr, hd⟩ fun a' w' hst' => hq a' w' ?_
  have hl : H.tk.length ≤ m := by
    have := congrArg List.length hok.tkl
    simp at this
    omega
  obtain ⟨H', hev', hok', hfr', hd'⟩ := st_trim (m := m) hl hst'
  exact ⟨H', hev.trans hev', hok', hfr', hd'⟩
end

mutual
/-- How many of the own rows, of the own objects, a value speaks of. -/
def mtok : PV → Nat
  | .sl _ (.tok t) => t + 1
  | .ref cs => mtokL cs
  | .fn _ cs => mtokL cs
  | .iface _ v => mtok v
  | .agg cs => mtokL cs
  | .tup cs => mtokL cs
  | _ => 0
def mtokL : List PV → Nat
  | [] => 0
  | x :: xs => max (mtok x) (mtokL xs)
end
mutual
def mptr : PV → Nat
  | .ptr id _ => id + 1
  | .osl id _ _ _ => id + 1
  | .ref cs => mptrL cs
  | .fn _ cs => mptrL cs
  | .iface _ v => mptr v
  | .agg cs => mptrL cs
  | .tup cs => mptrL cs
  | _ => 0
def mptrL : List PV → Nat
  | [] => 0
  | x :: xs => max (mptr x) (mptrL xs)
end

/-! ### loops -/
/-- What a round leads to: the next round's slots and store, or out. -/
inductive LR where
  | next (vs : List PV) (σ : Store)
  | out (e : PExit) (vs : List PV) (σ : Store)

/-- A loop: how many slots its frame has, which it carries, which count behind it. -/
structure LI where
  nt : Nat
  ss : List Nat
  os : PExit → List Nat

def rsl (ss : List Nat) (fr : List PV) : List PV := ss.map fun s => fr.getD s .top

theorem weak_rsl (fr : List PV) (ss : List Nat) : Weak fr (mk fr.length (ss.zip (rsl ss fr))) := weak_mk fr ss

/-- At the end of a round what it has made and left is forgotten. -/
def trimO (σ : Store) (vs : List PV) (σ' : Store) : List PV × Store :=
  if σ'.objs.length ≤ max σ.objs.length (mptrL vs) then (vs, σ') else (dropPL (max σ.objs.length (mptrL vs)) vs, dropS (max σ.objs.length (mptrL vs)) σ')
def trimW (σ : Store) (vs : List PV) (σ' : Store) : List PV × Store :=
  if σ'.toks.length ≤ max σ.toks.length (mtokL vs) then trimO σ vs σ' else trimO σ (dropTL (max σ.toks.length (mtokL vs)) vs) (dropTS (max σ.toks.length (mtokL vs)) σ')

noncomputable def lstep (tb : Tab) (G : GamT) (L : LpsT) (c : Code) (I : LI) (vs : List PV) (σ : Store) : Tr LR :=
  (bind (texec tb G L c [] (mk I.nt (I.ss.zip vs)) σ) fun r => if r.2.2.1.length = I.nt then match r.1 with
    | .normal => .ret (.next (trimW σ (rsl I.ss r.2.2.1) r.2.2.2).1 (trimW σ (rsl I.ss r.2.2.1) r.2.2.2).2)
    | e => .ret (.out e (trimW σ (rsl (I.os e) r.2.2.1) r.2.2.2).1 (trimW σ (rsl (I.os e) r.2.2.1) r.2.2.2).2) else .fail).flat

def lrun (step : List PV → Store → Tr LR) : Nat → List PV → Store → Option (PExit × List PV × Store)
  | 0, _, _ => none
  | n + 1, vs, σ => match (step vs σ).run with
    | some (.next vs' σ') => lrun step n vs' σ'
    | some (.out e vs' σ') => some (e, vs', σ')
    | none => none

theorem lrun_mono {step : List PV → Store → Tr LR} : ∀ {n m : Nat} {vs : List PV} {σ : Store} {r : PExit × List PV × Store}, lrun step n vs σ = some r → n ≤ m → lrun step m vs σ = some r
  | 0, _, _, _, _, h, _ => by cases h
  | n + 1, 0, _, _, _, _, hm => by omega
  | n + 1, m + 1, vs, σ, r, h, hm => by
    simp only [lrun] at h ⊢
    split at h
    · rename_i vs' σ' hs
      exact lrun_mono h (by omega)
    · exact h
    · cases h

open Classical in
noncomputable def lval (step : List PV → Store → Tr LR) (vs : List PV) (σ : Store) : Option (PExit × List PV × Store) :=
  if h : ∃ r n, lrun step n vs σ = some r then some h.choose else none

theorem lval_of {step : List PV → Store → Tr LR} {vs : List PV} {σ : Store} {n : Nat} {r : PExit × List PV × Store} (h : lrun step n vs σ = some r) : lval step vs σ = some r := by
  unfold lval
  have hx : ∃ r n, lrun step n vs σ = some r := ⟨r, n, h⟩
  rw [dif_pos hx]
  obtain ⟨m, hm⟩ := hx.choose_spec
  have h1 := lrun_mono h (Nat.le_max_left n m)
  have h2 := lrun_mono hm (Nat.le_max_right n m)
  rw [h1] at h2
  exact h2.symm

theorem lval_run {step : List PV → Store → Tr LR} {vs : List PV} {σ : Store} {r : PExit × List PV × Store} (h : lval step vs σ = some r) : ∃ n, lrun step n vs σ = some r := by
  unfold lval at h
  split at h
  · rename_i hx
    cases h
    exact hx.choose_spec
  · cases h

/-- What a round leads to. -/
def lnext (V : List PV → Store → Option (PExit × List PV × Store)) (r : Option LR) : Option (PExit × List PV × Store) := match r with
  | some (.next vs' σ') => V vs' σ'
  | some (.out e vs' σ') => some (e, vs', σ')
  | none => none
@[simp] theorem lnext_next (V : List PV → Store → Option (PExit × List PV × Store)) (vs : List PV) (σ : Store) : lnext V (some (.next vs σ)) = V vs σ := rfl
@[simp] theorem lnext_out (V : List PV → Store → Option (PExit × List PV × Store)) (e : PExit) (vs : List PV) (σ : Store) : lnext V (some (.out e vs σ)) = some (e, vs, σ) := rfl
@[simp] theorem lnext_none (V : List PV → Store → Option (PExit × List PV × Store)) : lnext V none = none := rfl
/-- A loop, round by round. -/
theorem lval_eq (step : List PV → Store → Tr LR) (vs : List PV) (σ : Store) : lval step vs σ = lnext (lval step) (step vs σ).run := by
  unfold lnext
  cases hs : (step vs σ).run with
  | none =>
    simp only
    cases hv : lval step vs σ with
    | none => rfl
    | some r =>
      obtain ⟨n, hn⟩ := lval_run hv
      cases n with
      | zero => cases hn
      | succ n => simp [lrun, hs] at hn
  | some q =>
    cases q with
    | out e vs' σ' => exact lval_of (n := 1) (by simp [lrun, hs])
    | next vs' σ' =>
      simp only
      cases hv : lval step vs' σ' with
      | some r =>
        obtain ⟨n, hn⟩ := lval_run hv
        exact lval_of (n := n + 1) (by simp [lrun, hs, hn])
      | none =>
        cases hw : lval step vs σ with
        | none => rfl
        | some r =>
          obtain ⟨n, hn⟩ := lval_run hw
          cases n with
          | zero => cases hn
          | succ n =>
            simp only [lrun, hs] at hn
            rw [lval_of hn] at hv
            cases hv

theorem dropPL_rsl (n : Nat) (ss : List Nat) (fr : List PV) : dropPL n (rsl ss fr) = rsl ss (dropPL n fr) := by
  unfold rsl
  induction ss with
  | nil => rfl
  | cons s ss ih =>
    simp only [List.map_cons, dropPL, ih]
    congr 1
    clear ih
    induction fr generalizing s with
    | nil => rfl
    | cons x fr ih =>
      cases s with
      | zero => rfl
      | succ s => simpa [dropPL] using ih s
theorem dropTL_rsl (n : Nat) (ss : List Nat) (fr : List PV) : dropTL n (rsl ss fr) = rsl ss (dropTL n fr) := by
  unfold rsl
  induction ss with
  | nil => rfl
  | cons s ss ih =>
    simp only [List.map_cons, dropTL, ih]
    congr 1
    clear ih
    induction fr generalizing s with
    | nil => rfl
    | cons x fr ih =>
      cases s with
      | zero => rfl
      | succ s => simpa [dropTL] using ih s

section
variable {P : Program} {tb : Tab} {gl : Nat → Option Obj} {G : GamT}
theorem trimO_sound {c : Code} {fr : List PV} {σ σ2 : Store} {fr1 : List PV} {ss : List Nat} {e : PExit} (hd : Does P gl c fr σ e fr1 σ2) :
    ∃ fr3, fr3.length = fr1.length ∧ (trimO σ (rsl ss fr1) σ2).1 = rsl ss fr3 ∧ Does P gl c fr σ e fr3 (trimO σ (rsl ss fr1) σ2).2 := by
  unfold trimO
  split
  · exact ⟨fr1, rfl, rfl, hd⟩
  · exact ⟨_, dropPL_len _ _, dropPL_rsl _ _ _, hd.drop (Nat.le_max_left _ _)⟩
theorem trimW_sound {c : Code} {fr : List PV} {σ σ2 : Store} {fr1 : List PV} {ss : List Nat} {e : PExit} (hd : Does P gl c fr σ e fr1 σ2) :
    ∃ fr3, fr3.length = fr1.length ∧ (trimW σ (rsl ss fr1) σ2).1 = rsl ss fr3 ∧ Does P gl c fr σ e fr3 (trimW σ (rsl ss fr1) σ2).2 := by
  unfold trimW
  split
  · exact trimO_sound hd
  · rw [dropTL_rsl]
    obtain ⟨fr3, h1, h2, h3⟩ := trimO_sound (ss := ss) (hd.trim (m := max σ.toks.length (mtokL (rsl ss fr1))) (Nat.le_max_left _ _))
    exact ⟨fr3, by rw [h1, dropTL_len], h2, h3⟩
theorem lrun_sound (hT : TabOk P tb) (hΓ : GamOk P gl (gam G)) (hm : P.follows .mixedOrders = true) {L : LpsT} {c : Code} (hL : LoopOk P gl (lps L) c) (hdr : drawsOk (gam G) c = true) {I : LI} : ∀ (n : Nat) (vs : List PV) (σ : Store) (e : PExit) (vs' : List PV) (σ' : Store),
    lrun (lstep tb G L c I) n vs σ = some (e, vs', σ') → LDoes P gl c (mk I.nt (I.ss.zip vs)) σ e (mk I.nt ((I.os e).zip vs')) σ' := by
  intro n
  induction n with
  | zero => intro vs σ e vs' σ' h; cases h
  | succ n ih =>
    intro vs σ e vs' σ' h
    simp only [lrun] at h
    split at h
    · rename_i vs1 σ1 hs
      have hs := Tr.flat_run hs
      obtain ⟨⟨e1, kn, fr1, σ2⟩, h1, h2⟩ := bind_some hs
      have hd := Does.of_tree hT hΓ hm hL hdr h1
      simp only at h2
      split at h2
      · rename_i hn
        cases e1 with
        | normal =>
          simp only [Tr.run_ret, Option.some.injEq, LR.next.injEq] at h2
          obtain ⟨rfl, rfl⟩ := h2
          obtain ⟨fr3, h3, h4, hd3⟩ := trimW_sound (ss := I.ss) hd
          rw [h4] at h
          refine LDoes.next hd3 (LDoes.into ?_ (ih _ _ _ _ _ h))
          have hw := weak_rsl fr3 I.ss
          rw [h3, hn] at hw
          exact hw
        | exit j => simp [Tr.run_ret] at h2
        | ret => simp [Tr.run_ret] at h2
      · cases h2
    · rename_i e1 vs1 σ1 hs
      simp only [Option.some.injEq, Prod.mk.injEq] at h
      obtain ⟨rfl, rfl, rfl⟩ := h
      have hs := Tr.flat_run hs
      obtain ⟨⟨e2, kn, fr1, σ2⟩, h1, h2⟩ := bind_some hs
      have hd := Does.of_tree hT hΓ hm hL hdr h1
      simp only at h2
      split at h2
      · rename_i hn
        have fin : ∀ e, e ≠ .normal → e2 = e → LDoes P gl c (mk I.nt (I.ss.zip vs)) σ e (mk I.nt ((I.os e).zip (trimW σ (rsl (I.os e) fr1) σ2).1)) (trimW σ (rsl (I.os e) fr1) σ2).2 := by
          rintro e hne rfl
          obtain ⟨fr3, h3, h4, hd3⟩ := trimW_sound (ss := I.os e2) hd
          rw [h4]
          refine LDoes.outof (LDoes.out hd3 hne) ?_
          have hw := weak_rsl fr3 (I.os e2)
          rw [h3, hn] at hw
          exact hw
        cases e2 with
        | normal => simp [Tr.run_ret] at h2
        | exit j =>
          simp only [Tr.run_ret, Option.some.injEq, LR.out.injEq] at h2
          obtain ⟨rfl, rfl, rfl⟩ := h2
          exact fin _ (by simp) rfl
        | ret =>
          simp only [Tr.run_ret, Option.some.injEq, LR.out.injEq] at h2
          obtain ⟨rfl, rfl, rfl⟩ := h2
          exact fin _ (by simp) rfl
      · cases h2
    · cases h

/-- A loop as its rounds tell, in the form the caller proposes. -/
def orc (I : LI) (prop : List PV → Store → Tr (PExit × List PV × Store)) (fr : List PV) (σ : Store) : Tr (PExit × List PV × Store) :=
  if fr.length = I.nt then bind (prop (rsl I.ss fr) σ) fun r => .ret (r.1, mk I.nt ((I.os r.1).zip r.2.1), r.2.2) else .fail

theorem orc_ok (hT : TabOk P tb) (hΓ : GamOk P gl (gam G)) (hm : P.follows .mixedOrders = true) {L : LpsT} {c : Code} (hL : LoopOk P gl (lps L) c) (hdr : drawsOk (gam G) c = true) {I : LI} {prop : List PV → Store → Tr (PExit × List PV × Store)}
    (h : ∀ vs σ r, (prop vs σ).run = some r → lval (lstep tb G L c I) vs σ = some r) : ∀ fr σ e fr' σ', (orc I prop fr σ).run = some (e, fr', σ') → LDoes P gl c fr σ e fr' σ' := by
  intro fr σ e fr' σ' hr
  unfold orc at hr
  split at hr
  · rename_i hn
    obtain ⟨⟨e1, vs1, σ1⟩, h1, h2⟩ := bind_some hr
    simp only [Tr.run_ret, Option.some.injEq, Prod.mk.injEq] at h2
    obtain ⟨rfl, rfl, rfl⟩ := h2
    obtain ⟨n, hn'⟩ := lval_run (h _ _ _ h1)
    have hw := weak_rsl fr I.ss
    rw [hn] at hw
    exact LDoes.into hw (lrun_sound hT hΓ hm hL hdr n _ _ _ _ _ hn')
  · cases hr

/-- A function as its tree tells. -/
theorem SimP.of_flat (hT : TabOk P tb) (hΓ : GamOk P gl (gam G)) (hm : P.follows .mixedOrders = true) {f : FuncId} {fn : Func} {c : Code} (hf : P.funcs[f]? = some fn) (hb : fn.body = some c) (hn : (fn.name == "runtime.NumGoroutine") = false)
    (hdr : drawsOk (gam G) c = true) {L : LpsT} (hL : LoopOk P gl (lps L) c) {F : List PV → Tr PV} (h : ∀ args x, (F args).run = some x → (tcall tb G L fn args).flat.run = some x) : SimP P gl f fun args => (F args).run :=
  SimP.of_tree hT hΓ hm hf hb hn hdr hL fun args x hx _ => Tr.flat_run (h args x hx)
end

/-! ### proposals -/
open Classical in
noncomputable def isW {α : Type} (W : Option α) (r : α) : Bool := decide (W = some r)
@[simp] theorem isW_some {α : Type} (a r : α) : isW (some a) r = true ↔ a = r := by simp [isW]
theorem isW_eq {α : Type} {W : Option α} {r : α} (h : isW W r = true) : W = some r := by simpa [isW] using h
theorem isW_of {α : Type} {W : Option α} {r : α} (h : W = some r) : isW W r = true := by simpa [isW] using h
theorem ite_isW {α : Type} {W : Option α} {r r' : α} {t : Tr α} (h : (Tr.ite (isW W r) (.ret r) t).run = some r') (k : t.run = some r' → W = some r') : W = some r' := by
  simp only [Tr.run_ite] at h
  split at h
  · rename_i hs
    rw [isW_eq hs]
    simpa using h
  · exact k h

/-! ### parts of what comes out -/
def gInt : PV → Int | .int _ n => n | _ => 0
def gBool : PV → Bool | .bool b => b | _ => false
def gStr : PV → List UInt8 | .str l => l | _ => []
def gRow : PV → List (List PV) | .sl l _ => l | _ => []
def gCs : PV → List PV | .agg l => l | .tup l => l | .ref l => l | .fn _ l => l | .iface _ v => [v] | _ => []
def gAt (l : List PV) (i : Nat) : PV := l.getD i .top
def gVal (W : Option PV) : PV := W.getD .top
def gOut (W : Option (PExit × List PV × Store)) (i : Nat) : PV := match W with | some r => r.2.1.getD i .top | none => .top
def gObj (W : Option (PExit × List PV × Store)) (i : Nat) : List PV := match W with | some r => r.2.2.objs.getD i [] | none => []
def gTok (W : Option (PExit × List PV × Store)) (i : Nat) : Nat := match W with | some r => (r.2.2.toks.getD i (0, 0, 0)).1 | none => 0
@[simp] theorem gInt_int (k : IntKind) (n : Int) : gInt (.int k n) = n := rfl
@[simp] theorem gBool_bool (b : Bool) : gBool (.bool b) = b := rfl
@[simp] theorem gStr_str (l : List UInt8) : gStr (.str l) = l := rfl
@[simp] theorem gRow_sl (l : List (List PV)) (t : Tag) : gRow (.sl l t) = l := rfl
@[simp] theorem gCs_agg (l : List PV) : gCs (.agg l) = l := rfl
@[simp] theorem gCs_tup (l : List PV) : gCs (.tup l) = l := rfl
@[simp] theorem gCs_ref (l : List PV) : gCs (.ref l) = l := rfl
@[simp] theorem gCs_fn (f : FuncId) (l : List PV) : gCs (.fn f l) = l := rfl
@[simp] theorem gCs_iface (t : TypeId) (v : PV) : gCs (.iface t v) = [v] := rfl
@[simp] theorem gAt_zero (x : PV) (l : List PV) : gAt (x :: l) 0 = x := rfl
@[simp] theorem gAt_succ (x : PV) (l : List PV) (n : Nat) : gAt (x :: l) (n + 1) = gAt l n := rfl
@[simp] theorem gVal_some (x : PV) : gVal (some x) = x := rfl
@[simp] theorem gOut_some (e : PExit) (vs : List PV) (σ : Store) (i : Nat) : gOut (some (e, vs, σ)) i = gAt vs i := rfl
@[simp] theorem gObj_some (e : PExit) (vs : List PV) (os : List (List PV)) (ts : List (Nat × Nat × TypeId)) (tys : List TypeId) (i : Nat) : gObj (some (e, vs, ⟨os, ts, tys⟩)) i = os.getD i [] := rfl
@[simp] theorem gTok_some (e : PExit) (vs : List PV) (os : List (List PV)) (ts : List (Nat × Nat × TypeId)) (tys : List TypeId) (i : Nat) : gTok (some (e, vs, ⟨os, ts, tys⟩)) i = (ts.getD i (0, 0, 0)).1 := rfl

/-! ### the loops of a code, by their first regions -/
def findL (r : Nat) : Code → Option Code
  | .seq a b => match findL r a with
    | some c => some c
    | none => findL r b
  | .cond _ a b => match findL r a with
    | some c => some c
    | none => findL r b
  | .block _ c => findL r c
  | .loop c => if rid c = r then some c else findL r c
  | .scope c => findL r c
  | _ => none
def loopC (fn : Func) (r : Nat) : Code := match fn.body with
  | some c => (findL r c).getD .skip
  | none => .skip
theorem loopOk_all {P : Program} {gl : Nat → Option Obj} {L : Lps} {c : Code} (l : List (Nat × Code)) (h : loopsOf c = l) (h1 : ∀ p ∈ l, ∀ fr σ e fr' σ', L p.1 fr σ = some (e, fr', σ') → LDoes P gl p.2 fr σ e fr' σ') : LoopOk P gl L c := loopOk_of (by rw [h]; exact h1)
end Go.Pv
