/- Rows of things told by a code: values, tuples, terms .. as plain lists. No program in sight. -/
import Derived.Test.YtdfahkeodlfopaaDoorPvRow
import Derived.Test.YtdfahkeodlfopaaDoorPvDrop
import Derived.Test.YtdfahkeodlfopaaDoorPvEval
set_option linter.unusedSimpArgs false
set_option linter.unusedVariables false
namespace Go.Pv

/-- How things of a kind lie in cells. -/
structure Cod (α : Type) where
  enc : α → List PV
  dec : List PV → Option α
  k : Nat
  of_dec : ∀ c a, dec c = some a → c = enc a
  dec_of : ∀ a, dec (enc a) = some a
  lock : ∀ a, lockL (enc a) = enc a
  shut : ∀ a, shutL (enc a) = enc a
  len : ∀ a, (enc a).length = k
  one : ∀ a, (enc a).all one = true

section
variable {α : Type} (C : Cod α)
def rOf (l : List α) : List (List PV) := l.map C.enc
def deR : List (List PV) → Option (List α)
  | [] => some []
  | c :: xs => match C.dec c, deR xs with
    | some a, some l => some (a :: l)
    | _, _ => none
theorem deR_some : ∀ {xs : List (List PV)} {l : List α}, deR C xs = some l → xs = rOf C l
  | [], l, h => by cases h; rfl
  | c :: xs, l, h => by
    simp only [deR] at h
    split at h
    · rename_i a l' h1 h2
      cases h
      rw [C.of_dec _ _ h1, deR_some h2]
      rfl
    · cases h
theorem deR_of : ∀ (l : List α), deR C (rOf C l) = some l
  | [] => rfl
  | a :: l => by
    have := deR_of l
    simp only [rOf, List.map_cons, deR, C.dec_of] at this ⊢
    rw [this]
def okR (xs : List (List PV)) : Bool := (deR C xs).isSome
def unR (xs : List (List PV)) : List α := (deR C xs).getD []
theorem okR_eq {xs : List (List PV)} (h : okR C xs = true) : ∃ l, xs = rOf C l := by
  unfold okR at h
  cases hd : deR C xs with
  | none => rw [hd] at h; cases h
  | some l => exact ⟨l, deR_some C hd⟩
@[simp] theorem okR_of (l : List α) : okR C (rOf C l) = true := by unfold okR; rw [deR_of]; rfl
@[simp] theorem unR_of (l : List α) : unR C (rOf C l) = l := by unfold unR; rw [deR_of]; rfl
@[simp] theorem okR_nil : okR C [] = true := rfl
@[simp] theorem unR_nil : unR C [] = [] := rfl
@[simp] theorem rOf_nil : rOf C [] = [] := rfl
theorem rOf_cons (a : α) (l : List α) : rOf C (a :: l) = C.enc a :: rOf C l := rfl
theorem rOf_one (a : α) : rOf C [a] = [C.enc a] := rfl
@[simp] theorem rOf_len (l : List α) : (rOf C l).length = l.length := by simp [rOf]
@[simp] theorem rOf_get (l : List α) (i : Nat) : (rOf C l)[i]? = (l[i]?).map C.enc := by simp [rOf]
theorem rOf_app (a b : List α) : rOf C (a ++ b) = rOf C a ++ rOf C b := by simp [rOf]
@[simp] theorem rOf_take (l : List α) (n : Nat) : (rOf C l).take n = rOf C (l.take n) := by simp [rOf]
@[simp] theorem rOf_drop (l : List α) (n : Nat) : (rOf C l).drop n = rOf C (l.drop n) := by simp [rOf]
@[simp] theorem rOf_nil_iff (l : List α) : (rOf C l = []) ↔ l = [] := by simp [rOf]
@[simp] theorem lockLL_rOf (l : List α) : lockLL (rOf C l) = rOf C l := lockLL_id (by
  intro x hx
  simp only [rOf, List.mem_map] at hx
  obtain ⟨a, _, rfl⟩ := hx
  exact C.lock a)
@[simp] theorem shutLL_rOf (l : List α) : shutLL (rOf C l) = rOf C l := shutLL_id (by
  intro x hx
  simp only [rOf, List.mem_map] at hx
  obtain ⟨a, _, rfl⟩ := hx
  exact C.shut a)
@[simp] theorem dropPLL_rOf (n : Nat) (l : List α) : dropPLL n (rOf C l) = rOf C l := dropPLL_lock n (lockLL_rOf C l)
@[simp] theorem sealLL_rOf (l : List α) : sealLL (rOf C l) = rOf C l := sealLL_lock (lockLL_rOf C l)
theorem okSize_rOf (l : List α) : okSize (rOf C l) C.k = true := by
  simp [okSize, rOf, C.len]
theorem okNews_rOf (l : List α) : okNews (rOf C l) C.k = true := by
  simp only [okNews, rOf, List.all_map, List.all_eq_true]
  intro a _
  simp [C.len, C.one]
theorem get_rOf {l : List α} {i : Nat} {a : α} (h : l[i]? = some a) : (rOf C l)[i]? = some (C.enc a) := by simp [h]
@[simp] theorem xLen_rOf (l : List α) : xLen (rOf C l) = (l.length : Int) := by simp
@[simp] theorem nXs_rOf (l : List α) : nXs (rOf C l) = l.length := by simp
@[simp] theorem xSub_rOf (l : List α) (a b : Nat) : xSub (rOf C l) a b = rOf C ((l.take b).drop a) := by simp
@[simp] theorem xApp_rOf (a b : List α) : xApp (rOf C a) (rOf C b) = rOf C (a ++ b) := by simp [rOf_app]
theorem xApp_rOf_one (l : List α) (a : α) : xApp (rOf C l) [C.enc a] = rOf C (l ++ [a]) := by simp [rOf_app, rOf_one]
@[simp] theorem xNil_rOf (l : List α) : xNil (rOf C l) = decide (l = []) := by simp
end

/-! ### the codes -/
abbrev Vl := Int × Int × List UInt8
def cV : Cod Vl where
  enc v := [.int .i64 v.1, .int .i64 v.2.1, .str v.2.2]
  dec c := match c with | [.int .i64 k, .int .i64 n, .str s] => some (k, n, s) | _ => none
  k := 3
  of_dec c a h := by
    split at h
    · cases h; rfl
    · cases h
  dec_of a := rfl
  lock a := rfl
  shut a := rfl
  len a := rfl
  one a := rfl
/-- Rows of rows. -/
def cR {α : Type} (C : Cod α) : Cod (List α) where
  enc l := [.sl (rOf C l) .non]
  dec c := match c with | [.sl xs .non] => deR C xs | _ => none
  k := 1
  of_dec c a h := by
    split at h
    · rw [deR_some C h]
    · cases h
  dec_of a := deR_of C a
  lock a := by simp only [lockL, lock, lockLL_rOf]
  shut a := by simp only [shutL, shut, shutLL_rOf]
  len a := rfl
  one a := rfl
def cI : Cod Int where
  enc n := [.int .i64 n]
  dec c := match c with | [.int .i64 n] => some n | _ => none
  k := 1
  of_dec c a h := by
    split at h
    · cases h; rfl
    · cases h
  dec_of a := rfl
  lock a := rfl
  shut a := rfl
  len a := rfl
  one a := rfl
/-- Terms: kind, name, value. -/
abbrev Tm := Int × List UInt8 × Vl
def cM : Cod Tm where
  enc t := [.int .i64 t.1, .str t.2.1, .int .i64 t.2.2.1, .int .i64 t.2.2.2.1, .str t.2.2.2.2]
  dec c := match c with | [.int .i64 a, .str b, .int .i64 k, .int .i64 n, .str s] => some (a, b, k, n, s) | _ => none
  k := 5
  of_dec c a h := by
    split at h
    · cases h; rfl
    · cases h
  dec_of a := rfl
  lock a := rfl
  shut a := rfl
  len a := rfl
  one a := rfl
/-- Bindings: name, value. -/
abbrev Bd := List UInt8 × Vl
def cB : Cod Bd where
  enc t := [.str t.1, .int .i64 t.2.1, .int .i64 t.2.2.1, .str t.2.2.2]
  dec c := match c with | [.str b, .int .i64 k, .int .i64 n, .str s] => some (b, k, n, s) | _ => none
  k := 4
  of_dec c a h := by
    split at h
    · cases h; rfl
    · cases h
  dec_of a := rfl
  lock a := rfl
  shut a := rfl
  len a := rfl
  one a := rfl
@[simp] theorem okSize_cV (l : List Vl) : okSize (rOf cV l) 3 = true := okSize_rOf cV l
@[simp] theorem okNews_cV (l : List Vl) : okNews (rOf cV l) 3 = true := okNews_rOf cV l
@[simp] theorem okSize_cI (l : List Int) : okSize (rOf cI l) 1 = true := okSize_rOf cI l
@[simp] theorem okNews_cI (l : List Int) : okNews (rOf cI l) 1 = true := okNews_rOf cI l
@[simp] theorem okSize_cM (l : List Tm) : okSize (rOf cM l) 5 = true := okSize_rOf cM l
@[simp] theorem okNews_cM (l : List Tm) : okNews (rOf cM l) 5 = true := okNews_rOf cM l
@[simp] theorem okSize_cB (l : List Bd) : okSize (rOf cB l) 4 = true := okSize_rOf cB l
@[simp] theorem okNews_cB (l : List Bd) : okNews (rOf cB l) 4 = true := okNews_rOf cB l
@[simp] theorem okSize_cR {α : Type} (C : Cod α) (l : List (List α)) : okSize (rOf (cR C) l) 1 = true := okSize_rOf (cR C) l
@[simp] theorem okNews_cR {α : Type} (C : Cod α) (l : List (List α)) : okNews (rOf (cR C) l) 1 = true := okNews_rOf (cR C) l
theorem getV {l : List Vl} {i : Nat} {k n : Int} {s : List UInt8} (h : l[i]? = some (k, n, s)) : (rOf cV l)[i]? = some [.int .i64 k, .int .i64 n, .str s] := get_rOf cV h
theorem getI {l : List Int} {i : Nat} {n : Int} (h : l[i]? = some n) : (rOf cI l)[i]? = some [.int .i64 n] := get_rOf cI h
theorem getT {l : List (List Vl)} {i : Nat} {t : List Vl} (h : l[i]? = some t) : (rOf (cR cV) l)[i]? = some [.sl (rOf cV t) .non] := get_rOf (cR cV) h
theorem getM {l : List Tm} {i : Nat} {a : Int} {b : List UInt8} {k n : Int} {s : List UInt8} (h : l[i]? = some (a, b, k, n, s)) : (rOf cM l)[i]? = some [.int .i64 a, .str b, .int .i64 k, .int .i64 n, .str s] := get_rOf cM h
theorem getB {l : List Bd} {i : Nat} {b : List UInt8} {k n : Int} {s : List UInt8} (h : l[i]? = some (b, k, n, s)) : (rOf cB l)[i]? = some [.str b, .int .i64 k, .int .i64 n, .str s] := get_rOf cB h
end Go.Pv
