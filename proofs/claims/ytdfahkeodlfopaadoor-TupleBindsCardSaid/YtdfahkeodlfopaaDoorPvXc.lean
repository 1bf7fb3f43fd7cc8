/- Cells of elements of rows that are told by codes. -/
import Derived.Test.YtdfahkeodlfopaaDoorPvX
set_option linter.unusedSimpArgs false
set_option linter.unusedVariables false
namespace Go.Pv
section
variable {α : Type} (C : Cod α)
theorem rOf_getD (l : List α) (i : Nat) : (rOf C l).getD i [] = match l[i]? with | some a => C.enc a | none => [] := by
  rw [List.getD_eq_getElem?_getD, rOf_get]
  cases l[i]? <;> rfl
theorem okGet_of (z : List PV) (l : List α) (i : Nat) (h : ∀ a, selF z [C.enc a] 0 0 = C.enc a) (hs : ∀ (xs : List (List PV)) (k j : Nat) (c : List PV), xs[k]? = some c → selF z xs k j = selF z [c] 0 j) : okGet z (rOf C l) i = decide (i < l.length) := by
  unfold okGet
  congr 1
  rw [rOf_get]
  cases hi : l[i]? with
  | none =>
    have : ¬ i < l.length := by simpa using hi
    simp [this]
  | some a =>
    have hl := (List.getElem?_eq_some_iff.1 hi).1
    have hx : (rOf C l)[i]? = some (C.enc a) := by simp [hi]
    rw [hs _ _ _ _ hx, h]
    simp [hl]
end
theorem selC_eq (c : PV) {xs : List (List PV)} {k j : Nat} {d : List PV} (h : xs[k]? = some d) : selC c xs k j = selC c [d] 0 j := by
  have e : xs.getD k [] = d := by rw [List.getD_eq_getElem?_getD, h]; rfl
  have e' : ([d] : List (List PV)).getD 0 [] = d := rfl
  cases c <;> simp only [selC, xInt, xBool, xStr, xRow, xPV, e, e']
theorem selF_eq : ∀ (z : List PV) (xs : List (List PV)) (k j : Nat) (d : List PV), xs[k]? = some d → selF z xs k j = selF z [d] 0 j
  | [], _, _, _, _, _ => rfl
  | c :: z, xs, k, j, d, h => by simp only [selF]; rw [selC_eq c h, selF_eq z xs k (j + 1) d h]
theorem okGet_cod {α : Type} (C : Cod α) (z : List PV) (h : ∀ a, selF z [C.enc a] 0 0 = C.enc a) (l : List α) (i : Nat) : okGet z (rOf C l) i = decide (i < l.length) := okGet_of C z l i h (selF_eq z)
@[simp] theorem okGet_cV (l : List Vl) (i : Nat) : okGet [.int .i64 0, .int .i64 0, .str []] (rOf cV l) i = decide (i < l.length) := okGet_cod _ _ (fun _ => rfl) l i
@[simp] theorem xInt_cV0 (l : List Vl) (i : Nat) : xInt (rOf cV l) i 0 = (l[i]?.getD (0, 0, [])).1 := by unfold xInt; rw [rOf_getD]; cases l[i]? <;> rfl
@[simp] theorem xInt_cV1 (l : List Vl) (i : Nat) : xInt (rOf cV l) i 1 = (l[i]?.getD (0, 0, [])).2.1 := by unfold xInt; rw [rOf_getD]; cases l[i]? <;> rfl
@[simp] theorem xStr_cV2 (l : List Vl) (i : Nat) : xStr (rOf cV l) i 2 = (l[i]?.getD (0, 0, [])).2.2 := by unfold xStr; rw [rOf_getD]; cases l[i]? <;> rfl
@[simp] theorem okGet_cI (l : List Int) (i : Nat) : okGet [.int .i64 0] (rOf cI l) i = decide (i < l.length) := okGet_cod _ _ (fun _ => rfl) l i
@[simp] theorem xInt_cI0 (l : List Int) (i : Nat) : xInt (rOf cI l) i 0 = (l[i]?.getD 0) := by unfold xInt; rw [rOf_getD]; cases l[i]? <;> rfl
@[simp] theorem okGet_cM (l : List Tm) (i : Nat) : okGet [.int .i64 0, .str [], .int .i64 0, .int .i64 0, .str []] (rOf cM l) i = decide (i < l.length) := okGet_cod _ _ (fun _ => rfl) l i
@[simp] theorem xInt_cM0 (l : List Tm) (i : Nat) : xInt (rOf cM l) i 0 = (l[i]?.getD (0, [], 0, 0, [])).1 := by unfold xInt; rw [rOf_getD]; cases l[i]? <;> rfl
@[simp] theorem xStr_cM1 (l : List Tm) (i : Nat) : xStr (rOf cM l) i 1 = (l[i]?.getD (0, [], 0, 0, [])).2.1 := by unfold xStr; rw [rOf_getD]; cases l[i]? <;> rfl
@[simp] theorem xInt_cM2 (l : List Tm) (i : Nat) : xInt (rOf cM l) i 2 = (l[i]?.getD (0, [], 0, 0, [])).2.2.1 := by unfold xInt; rw [rOf_getD]; cases l[i]? <;> rfl
@[simp] theorem xInt_cM3 (l : List Tm) (i : Nat) : xInt (rOf cM l) i 3 = (l[i]?.getD (0, [], 0, 0, [])).2.2.2.1 := by unfold xInt; rw [rOf_getD]; cases l[i]? <;> rfl
@[simp] theorem xStr_cM4 (l : List Tm) (i : Nat) : xStr (rOf cM l) i 4 = (l[i]?.getD (0, [], 0, 0, [])).2.2.2.2 := by unfold xStr; rw [rOf_getD]; cases l[i]? <;> rfl
@[simp] theorem okGet_cB (l : List Bd) (i : Nat) : okGet [.str [], .int .i64 0, .int .i64 0, .str []] (rOf cB l) i = decide (i < l.length) := okGet_cod _ _ (fun _ => rfl) l i
@[simp] theorem xStr_cB0 (l : List Bd) (i : Nat) : xStr (rOf cB l) i 0 = (l[i]?.getD ([], 0, 0, [])).1 := by unfold xStr; rw [rOf_getD]; cases l[i]? <;> rfl
@[simp] theorem xInt_cB1 (l : List Bd) (i : Nat) : xInt (rOf cB l) i 1 = (l[i]?.getD ([], 0, 0, [])).2.1 := by unfold xInt; rw [rOf_getD]; cases l[i]? <;> rfl
@[simp] theorem xInt_cB2 (l : List Bd) (i : Nat) : xInt (rOf cB l) i 2 = (l[i]?.getD ([], 0, 0, [])).2.2.1 := by unfold xInt; rw [rOf_getD]; cases l[i]? <;> rfl
@[simp] theorem xStr_cB3 (l : List Bd) (i : Nat) : xStr (rOf cB l) i 3 = (l[i]?.getD ([], 0, 0, [])).2.2.2 := by unfold xStr; rw [rOf_getD]; cases l[i]? <;> rfl
@[simp] theorem okGet_cR {α : Type} (C : Cod α) (l : List (List α)) (i : Nat) : okGet [.sl [] .full] (rOf (cR C) l) i = decide (i < l.length) := okGet_cod _ _ (fun _ => rfl) l i
@[simp] theorem xRow_cR0 {α : Type} (C : Cod α) (l : List (List α)) (i : Nat) : xRow (rOf (cR C) l) i 0 = rOf C ((l[i]?.getD [])) := by unfold xRow; rw [rOf_getD]; cases l[i]? <;> rfl
def cS : Cod (List UInt8) where
  enc s := [.str s]
  dec c := match c with | [.str s] => some s | _ => none
  k := 1
  of_dec c a h := by
    split at h
    · cases h; rfl
    · cases h
  dec_of a := rfl
  lock a := rfl
  shut a := rfl
  len a := rfl
  one a := rfl
@[simp] theorem okSize_cS (l : List (List UInt8)) : okSize (rOf cS l) 1 = true := okSize_rOf cS l
@[simp] theorem okNews_cS (l : List (List UInt8)) : okNews (rOf cS l) 1 = true := okNews_rOf cS l
@[simp] theorem okGet_cS (l : List (List UInt8)) (i : Nat) : okGet [.str []] (rOf cS l) i = decide (i < l.length) := okGet_cod _ _ (fun _ => rfl) l i
@[simp] theorem xStr_cS0 (l : List (List UInt8)) (i : Nat) : xStr (rOf cS l) i 0 = (l[i]?.getD []) := by unfold xStr; rw [rOf_getD]; cases l[i]? <;> rfl
@[simp] theorem one_cS (s : List UInt8) : ([[.str s]] : List (List PV)) = rOf cS [s] := rfl

/-! ### rows with one more -/
@[simp] theorem snoc_cV (l : List Vl) (k n : Int) (s : List UInt8) : rOf cV l ++ [[.int .i64 k, .int .i64 n, .str s]] = rOf cV (l ++ [(k, n, s)]) := by rw [rOf_app]; rfl
@[simp] theorem one_cV (k n : Int) (s : List UInt8) : ([[.int .i64 k, .int .i64 n, .str s]] : List (List PV)) = rOf cV [(k, n, s)] := rfl
@[simp] theorem snoc_cM (l : List Tm) (a : Int) (b : List UInt8) (k n : Int) (s : List UInt8) : rOf cM l ++ [[.int .i64 a, .str b, .int .i64 k, .int .i64 n, .str s]] = rOf cM (l ++ [(a, b, k, n, s)]) := by rw [rOf_app]; rfl
@[simp] theorem one_cM (a : Int) (b : List UInt8) (k n : Int) (s : List UInt8) : ([[.int .i64 a, .str b, .int .i64 k, .int .i64 n, .str s]] : List (List PV)) = rOf cM [(a, b, k, n, s)] := rfl
@[simp] theorem snoc_cB (l : List Bd) (b : List UInt8) (k n : Int) (s : List UInt8) : rOf cB l ++ [[.str b, .int .i64 k, .int .i64 n, .str s]] = rOf cB (l ++ [(b, k, n, s)]) := by rw [rOf_app]; rfl
@[simp] theorem one_cB (b : List UInt8) (k n : Int) (s : List UInt8) : ([[.str b, .int .i64 k, .int .i64 n, .str s]] : List (List PV)) = rOf cB [(b, k, n, s)] := rfl
@[simp] theorem snoc_cR {α : Type} (C : Cod α) (l : List (List α)) (a : List α) : rOf (cR C) l ++ [[.sl (rOf C a) .non]] = rOf (cR C) (l ++ [a]) := by rw [rOf_app]; rfl
@[simp] theorem one_cR {α : Type} (C : Cod α) (a : List α) : ([[.sl (rOf C a) .non]] : List (List PV)) = rOf (cR C) [a] := rfl
@[simp] theorem rOf_append {α : Type} (C : Cod α) (a b : List α) : rOf C a ++ rOf C b = rOf C (a ++ b) := (rOf_app C a b).symm
@[simp] theorem cons_cV (l : List Vl) (k n : Int) (s : List UInt8) : [.int .i64 k, .int .i64 n, .str s] :: rOf cV l = rOf cV ((k, n, s) :: l) := rfl
@[simp] theorem cons_cM (l : List Tm) (a : Int) (b : List UInt8) (k n : Int) (s : List UInt8) : [.int .i64 a, .str b, .int .i64 k, .int .i64 n, .str s] :: rOf cM l = rOf cM ((a, b, k, n, s) :: l) := rfl
@[simp] theorem cons_cB (l : List Bd) (b : List UInt8) (k n : Int) (s : List UInt8) : [.str b, .int .i64 k, .int .i64 n, .str s] :: rOf cB l = rOf cB ((b, k, n, s) :: l) := rfl
@[simp] theorem cons_cR {α : Type} (C : Cod α) (l : List (List α)) (a : List α) : [.sl (rOf C a) .non] :: rOf (cR C) l = rOf (cR C) (a :: l) := rfl
@[simp] theorem cons_cS (l : List (List UInt8)) (s : List UInt8) : [.str s] :: rOf cS l = rOf cS (s :: l) := rfl
@[simp] theorem lockLL_nil' : lockLL [] = [] := rfl
@[simp] theorem shutLL_nil' : shutLL [] = [] := rfl
@[simp] theorem dropPLL_nil' (n : Nat) : dropPLL n [] = [] := rfl
@[simp] theorem dropTLL_nil' (n : Nat) : dropTLL n [] = [] := rfl
@[simp] theorem pnil_rOf {α : Type} (C : Cod α) : (rOf C [] : List (List PV)) = [] := rfl

/-! ### a row that is built by append, begun as nil -/
def aT {α : Type} : List α → Tag
  | [] => .full
  | _ => .tok 0
def aS (k : Nat) (e : TypeId) {α : Type} : List α → Store
  | [] => ⟨[], [], []⟩
  | a :: l => ⟨[], [((a :: l).length, k, e)], []⟩
@[simp] theorem aT_nil {α : Type} : aT ([] : List α) = .full := rfl
@[simp] theorem aS_nil {α : Type} (k : Nat) (e : TypeId) : aS k e ([] : List α) = ⟨[], [], []⟩ := rfl
theorem aT_snoc {α : Type} (l : List α) (a : α) : aT (l ++ [a]) = .tok 0 := by cases l <;> rfl
theorem aS_snoc {α : Type} (k : Nat) (e : TypeId) (l : List α) (a : α) : aS k e (l ++ [a]) = ⟨[], [((l ++ [a]).length, k, e)], []⟩ := by cases l <;> rfl
theorem aTS_cases {α : Type} (k : Nat) (e : TypeId) (l : List α) : (l = [] ∧ aT l = .full ∧ aS k e l = ⟨[], [], []⟩) ∨ (l ≠ [] ∧ aT l = .tok 0 ∧ aS k e l = ⟨[], [(l.length, k, e)], []⟩) := by
  cases l with
  | nil => exact .inl ⟨rfl, rfl, rfl⟩
  | cons a l => exact .inr ⟨by simp, rfl, rfl⟩

theorem SimP.imp {P : Program} {gl : Nat → Option Obj} {f : FuncId} {F G : List PV → Option PV} (hG : SimP P gl f G) (h : ∀ args x, F args = some x → G args = some x) : SimP P gl f F := ⟨hG.ent, fun args x hx => hG.run args x (h args x hx)⟩
/-- A contract that may take for granted what its arguments stand for. -/
theorem SimP.given {P : Program} {gl : Nat → Option Obj} {f : FuncId} {F G : List PV → Option PV} (hG : SimP P gl f G) (h : ∀ args x, (∃ H w vs, RelL H w args vs) → F args = some x → G args = some x) : SimP P gl f F := ⟨hG.ent, fun args x hx H w vs a b c d hr => hG.run args x (h args x ⟨H, w, vs, hr⟩ hx) H w vs a b c d hr⟩
theorem simS_opt {P : Program} {gl : Nat → Option Obj} {f : FuncId} {D : List PV → Store → Option (PV × Store)} (h : SimS P gl f D) : SimS P gl f fun a σ => (Tr.ofOpt (D a σ)).run := by simpa only [Tr.run_ofOpt] using h
theorem simP_opt {P : Program} {gl : Nat → Option Obj} {f : FuncId} {D : List PV → Option PV} (h : SimP P gl f D) : SimP P gl f fun a => (Tr.ofOpt (D a)).run := by simpa only [Tr.run_ofOpt] using h

/-! ### reading a tree test by test -/
theorem Tr.run_of {α : Type} {b : Bool} {x y : Tr α} {r : Option α} (hx : b = true → x.run = r) (hy : b = false → y.run = r) : (Tr.ite b x y).run = r := by
  cases b with
  | true => simpa using hx rfl
  | false => simpa using hy rfl
theorem Tr.run_t {α : Type} {b : Bool} {x y : Tr α} {r : Option α} (h : b = true) (hx : x.run = r) : (Tr.ite b x y).run = r := by rw [h]; simpa using hx
theorem Tr.run_f {α : Type} {b : Bool} {x y : Tr α} {r : Option α} (h : b = false) (hy : y.run = r) : (Tr.ite b x y).run = r := by rw [h]; simpa using hy

/-! ### a loop over a row -/
/-- A fold that may be left. -/
def foldE {α β ρ : Type} (f : β → α → β ⊕ ρ) (fin : β → ρ) : List α → β → ρ
  | [], b => fin b
  | a :: l, b => match f b a with
    | .inl b' => foldE f fin l b'
    | .inr r => r
/-- A loop that takes a row's elements one by one is that fold. -/
theorem loop_foldE {α β ρ γ : Type} {l : List α} {V : Nat → β → γ} (Inv : Nat → β → Prop) (f : β → α → β ⊕ ρ) (fin : β → ρ) (out : ρ → γ)
    (hstep : ∀ i b a, Inv i b → (hi : i < l.length) → l[i] = a → (∃ b', f b a = .inl b' ∧ Inv (i + 1) b' ∧ V i b = V (i + 1) b') ∨ ∃ r, f b a = .inr r ∧ V i b = out r)
    (hend : ∀ b, Inv l.length b → V l.length b = out (fin b)) : ∀ (i : Nat) (b : β), Inv i b → i ≤ l.length → V i b = out (foldE f fin (l.drop i) b) := by
  intro i b hb hi
  obtain ⟨k, hk⟩ : ∃ k, i + k = l.length := ⟨l.length - i, by omega⟩
  clear hi
  induction k generalizing i b with
  | zero =>
    have : i = l.length := by omega
    subst this
    rw [List.drop_eq_nil_of_le (Nat.le_refl _)]
    exact hend b hb
  | succ k ih =>
    obtain ⟨a, ha⟩ := get_lt (l := l) (i := i) (by omega)
    rw [drop_of_get ha]
    simp only [foldE]
    obtain ⟨hi, hai⟩ := List.getElem?_eq_some_iff.1 ha
    rcases hstep i b a hb hi hai with ⟨b', h1, h2, h3⟩ | ⟨r, h1, h2⟩
    · rw [h1, h3]
      exact ih (i + 1) b' h2 (by omega)
    · rw [h1, h2]
theorem loop_foldE0 {α β ρ γ : Type} {l : List α} {V : Nat → β → γ} (Inv : Nat → β → Prop) (f : β → α → β ⊕ ρ) (fin : β → ρ) (out : ρ → γ) (b : β) (h0 : Inv 0 b)
    (hstep : ∀ i b a, Inv i b → (hi : i < l.length) → l[i] = a → (∃ b', f b a = .inl b' ∧ Inv (i + 1) b' ∧ V i b = V (i + 1) b') ∨ ∃ r, f b a = .inr r ∧ V i b = out r)
    (hend : ∀ b, Inv l.length b → V l.length b = out (fin b)) : V 0 b = out (foldE f fin l b) := loop_foldE Inv f fin out hstep hend 0 b h0 (Nat.zero_le _)
/-- A loop that appends, element by element. -/
theorem loop_acc {α γ ρ : Type} {l : List α} {V : Nat → List γ → ρ} (g : α → List γ) (out : List γ → ρ)
    (hstep : ∀ i b a, b = (l.take i).flatMap g → (hi : i < l.length) → l[i] = a → V i b = V (i + 1) (b ++ g a))
    (hend : ∀ b, b = l.flatMap g → V l.length b = out b) : V 0 [] = out (l.flatMap g) := by
  have key : ∀ k i, i + k = l.length → V i ((l.take i).flatMap g) = out (l.flatMap g) := by
    intro k
    induction k with
    | zero =>
      intro i hi
      have : i = l.length := by omega
      subst this
      rw [List.take_length]
      exact hend _ rfl
    | succ k ih =>
      intro i hi
      have hlt : i < l.length := by omega
      rw [hstep i _ l[i] rfl hlt rfl]
      have := ih (i + 1) (by omega)
      rw [← List.take_append_getElem hlt, List.flatMap_append] at this
      simpa using this
  simpa using key l.length 0 (by omega)
theorem flatMap_le {α γ : Type} (g : α → List γ) (h : ∀ a, (g a).length ≤ 1) : ∀ (l : List α) (i : Nat), ((l.take i).flatMap g).length ≤ i
  | [], i => by simp
  | a :: l, 0 => by simp
  | a :: l, i + 1 => by
    simp only [List.take_succ_cons, List.flatMap_cons, List.length_append]
    have := flatMap_le g h l i
    have := h a
    omega
theorem flatMap_filter {α : Type} (p : α → Bool) : ∀ (l : List α), (l.flatMap fun a => if p a = true then [a] else []) = l.filter p
  | [] => rfl
  | a :: l => by
    simp only [List.flatMap_cons, List.filter_cons, flatMap_filter p l]
    cases p a <;> simp
theorem flatMap_one {α γ : Type} (f : α → γ) : ∀ (l : List α), (l.flatMap fun a => [f a]) = l.map f
  | [] => rfl
  | a :: l => by simp [flatMap_one f l]
theorem inc_i64 {i : Nat} (h : i < 9223372036854775807) : iAdd .i64 (i : Int) 1 = ((i + 1 : Nat) : Int) := wrap_i64 (by omega)
end Go.Pv
