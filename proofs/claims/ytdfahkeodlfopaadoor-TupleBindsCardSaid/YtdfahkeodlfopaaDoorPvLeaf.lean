/- Reading trees: the leaves opened. -/
import Derived.Test.YtdfahkeodlfopaaDoorPvTree2
namespace Go.Pv
@[simp] theorem Tr.run_ite {α : Type} (b : Bool) (x y : Tr α) : (Tr.ite b x y).run = if b = true then x.run else y.run := by cases b <;> rfl
@[simp] theorem Tr.run_ret {α : Type} (a : α) : (Tr.ret a).run = some a := rfl
@[simp] theorem Tr.run_fail {α : Type} : (Tr.fail : Tr α).run = none := rfl
@[simp] theorem Tr.run_get {α : Type} (xs : List (List PV)) (i : Nat) (z : List PV) (k : List PV → Tr α) : (Tr.get xs i z k).run = match xs[i]? with | some cs => (k cs).run | none => none := by rw [Tr.run.eq_def]; rfl
@[simp] theorem iEq_eq (a b : Int) : iEq a b = decide (a = b) := by unfold iEq; by_cases h : a = b <;> simp [h]
@[simp] theorem iNe_eq (a b : Int) : iNe a b = decide (a ≠ b) := by unfold iNe; by_cases h : a = b <;> simp [h]
@[simp] theorem iLt_eq (a b : Int) : iLt a b = decide (a < b) := rfl
@[simp] theorem iLe_eq (a b : Int) : iLe a b = decide (a ≤ b) := rfl
@[simp] theorem imin_eq (a b : Int) : imin a b = if b < a then b else a := rfl
@[simp] theorem bNot_eq (a : Bool) : bNot a = !a := rfl
@[simp] theorem bAnd_eq (a b : Bool) : bAnd a b = (a && b) := rfl
@[simp] theorem bEq_eq (a b : Bool) : bEq a b = (a == b) := rfl
@[simp] theorem sEq_eq (a b : List UInt8) : sEq a b = decide (a = b) := by unfold sEq; by_cases h : a = b <;> simp [h]
@[simp] theorem sNe_eq (a b : List UInt8) : sNe a b = decide (a ≠ b) := by unfold sNe; by_cases h : a = b <;> simp [h]
@[simp] theorem sLt_eq (a b : List UInt8) : sLt a b = Op.bytesLess a b := rfl
@[simp] theorem sLe_eq (a b : List UInt8) : sLe a b = (Op.bytesLess a b || a == b) := rfl
@[simp] theorem sGt_eq (a b : List UInt8) : sGt a b = !(Op.bytesLess a b || a == b) := rfl
@[simp] theorem sGe_eq (a b : List UInt8) : sGe a b = !Op.bytesLess a b := rfl
@[simp] theorem sApp_eq (a b : List UInt8) : sApp a b = a ++ b := rfl
@[simp] theorem sLen_eq (l : List UInt8) : sLen l = (l.length : Int) := rfl
@[simp] theorem sSub_eq (l : List UInt8) (a b : Nat) : sSub l a b = (l.take b).drop a := rfl
@[simp] theorem sAt_eq (l : List UInt8) (n : Int) : sAt l n = ((l.getD n.toNat 0).toNat : Int) := rfl
@[simp] theorem sOne_eq (n : Int) : sOne n = [UInt8.ofNat n.toNat] := rfl
@[simp] theorem nNat_eq (n : Int) : nNat n = n.toNat := rfl
@[simp] theorem nLen_eq (l : List UInt8) : nLen l = l.length := rfl
@[simp] theorem xLen_eq (l : List (List PV)) : xLen l = (l.length : Int) := rfl
@[simp] theorem nXs_eq (l : List (List PV)) : nXs l = l.length := rfl
@[simp] theorem xSub_eq (l : List (List PV)) (a b : Nat) : xSub l a b = (l.take b).drop a := rfl
@[simp] theorem xApp_eq (a b : List (List PV)) : xApp a b = a ++ b := rfl
@[simp] theorem xNil_eq (a : List (List PV)) : xNil a = decide (a = []) := by cases a <;> rfl
theorem bytesOf_eq (l : List UInt8) : bytesOf l = l.map fun b => [.int .u8 b.toNat] := rfl
@[simp] theorem bytesOf_nil : bytesOf [] = [] := rfl
@[simp] theorem bytesOf_len (l : List UInt8) : (bytesOf l).length = l.length := by simp [bytesOf]
@[simp] theorem bytesOf_get (l : List UInt8) (i : Nat) : (bytesOf l)[i]? = (l[i]?).map fun b => [.int .u8 b.toNat] := by simp [bytesOf]
theorem bytesOf_app (a b : List UInt8) : bytesOf (a ++ b) = bytesOf a ++ bytesOf b := by simp [bytesOf]
@[simp] theorem bytesOf_take (l : List UInt8) (n : Nat) : (bytesOf l).take n = bytesOf (l.take n) := by simp [bytesOf]
@[simp] theorem bytesOf_drop (l : List UInt8) (n : Nat) : (bytesOf l).drop n = bytesOf (l.drop n) := by simp [bytesOf]
theorem pbytes_bytes (l : List UInt8) : pbytes (bytesOf l) = some l := by
  unfold bytesOf
  induction l with
  | nil => rfl
  | cons b l ih => simp [pbytes, ih]
theorem pbytes_eq {xs : List (List PV)} {l : List UInt8} : pbytes xs = some l → (∀ x ∈ xs, ∃ n : Nat, n < 256 ∧ x = [.int .u8 n]) → xs = bytesOf l := by
  induction xs generalizing l with
  | nil => intro h _; simp [pbytes] at h; subst h; rfl
  | cons x xs ih =>
    intro h hx
    obtain ⟨n, hn, rfl⟩ := hx x (by simp)
    simp only [pbytes] at h
    obtain ⟨m, hm, rfl⟩ := Option.map_eq_some_iff.1 h
    have := ih hm (fun y hy => hx y (by simp [hy]))
    subst this
    simp [bytesOf]
    omega
@[simp] theorem okBytes_bytes (l : List UInt8) : okBytes (bytesOf l) = true := by unfold okBytes; rw [pbytes_bytes]; rfl
@[simp] theorem unBytes_bytes (l : List UInt8) : unBytes (bytesOf l) = l := by unfold unBytes; rw [pbytes_bytes]; rfl
/-- Bytes, told by their numbers. -/
def decBs (xs : List (List PV)) : Option (List UInt8) := xs.mapM fun c => match c with | [.int .u8 n] => if 0 ≤ n ∧ n < 256 then some (UInt8.ofNat n.toNat) else none | _ => none
@[simp] theorem decBs_bytes (l : List UInt8) : decBs (bytesOf l) = some l := by
  unfold decBs bytesOf
  induction l with
  | nil => rfl
  | cons a l ih =>
    have : ((a.toNat : Int) < 256) := by have := a.toNat_lt; omega
    simp_all
theorem decBs_some {xs : List (List PV)} {l : List UInt8} (h : decBs xs = some l) : xs = bytesOf l := by
  unfold decBs at h
  unfold bytesOf
  induction xs generalizing l with
  | nil => simp at h; subst h; rfl
  | cons c xs ih =>
    rw [List.mapM_cons] at h
    split at h
    · rename_i n
      split at h
      · rename_i hn
        cases hx : xs.mapM fun c => match c with | [.int .u8 n] => if 0 ≤ n ∧ n < 256 then some (UInt8.ofNat n.toNat) else none | _ => none with
        | none => simp [hx] at h
        | some m =>
          simp [hx] at h
          subst h
          simp [ih hx]
          omega
      · simp at h
    · simp at h
@[simp] theorem okApp_eq (a b : List UInt8) : okApp a b = decide (a.length + b.length ≤ maxLen) := rfl
@[simp] theorem okAscii_eq (n : Int) : okAscii n = decide (0 ≤ n ∧ n < 128) := by unfold okAscii; by_cases h : 0 ≤ n <;> simp [h]
@[simp] theorem okLen_eq (l : List UInt8) : okLen l = decide (l.length ≤ 140737488355328) := rfl
@[simp] theorem okIdx_eq (l : List UInt8) (n : Int) : okIdx l n = decide (0 ≤ n ∧ n.toNat < l.length) := by unfold okIdx; by_cases h : 0 ≤ n <;> simp [h]
@[simp] theorem okPos_eq (n : Int) : okPos n = decide (0 ≤ n) := rfl
@[simp] theorem okSub_eq (ca cb : Bool) (a b n : Nat) : okSub ca cb a b n = (ca && cb && decide (a ≤ b) && decide (b ≤ n)) := rfl
@[simp] theorem okSub3_eq (ca cb cc : Bool) (a b c n : Nat) : okSub3 ca cb cc a b c n = (ca && cb && cc && decide (a ≤ b) && decide (b = c) && decide (b ≤ n)) := rfl
@[simp] theorem okGrow_eq (xs ys : List (List PV)) (n : Nat) : okGrow xs ys n = (decide ((xs.length + ys.length) * n ≤ 140737488355328) && decide (xs.length + ys.length ≤ 140737488355328)) := rfl
@[simp] theorem nEq_eq (a b : Nat) : nEq a b = decide (a = b) := rfl
@[simp] theorem okSize_bytes (l : List UInt8) : okSize (bytesOf l) 1 = true := by simp [okSize, bytesOf]
@[simp] theorem okNews_bytes (l : List UInt8) : okNews (bytesOf l) 1 = true := by simp [okNews, bytesOf, one]
@[simp] theorem okSize_app (a b : List (List PV)) (n : Nat) : okSize (a ++ b) n = (okSize a n && okSize b n) := by simp [okSize]
@[simp] theorem okSize_nil (n : Nat) : okSize [] n = true := rfl
@[simp] theorem okNews_nil (n : Nat) : okNews [] n = true := rfl
@[simp] theorem okSize_cons (x : List PV) (a : List (List PV)) (n : Nat) : okSize (x :: a) n = (x.length == n && okSize a n) := by simp [okSize]
@[simp] theorem okNews_cons (x : List PV) (a : List (List PV)) (n : Nat) : okNews (x :: a) n = (x.length == n && x.all one && okNews a n) := by simp [okNews]
theorem lockLL_nil : lockLL [] = [] := rfl
theorem lockLL_cons (x : List PV) (xs : List (List PV)) : lockLL (x :: xs) = lockL x :: lockLL xs := rfl
theorem shutLL_nil : shutLL [] = [] := rfl
theorem shutLL_cons (x : List PV) (xs : List (List PV)) : shutLL (x :: xs) = shutL x :: shutLL xs := rfl
theorem lockLL_app : ∀ (a b : List (List PV)), lockLL (a ++ b) = lockLL a ++ lockLL b
  | [], b => rfl
  | x :: a, b => by simp only [List.cons_append, lockLL, lockLL_app a b]
theorem shutLL_app : ∀ (a b : List (List PV)), shutLL (a ++ b) = shutLL a ++ shutLL b
  | [], b => rfl
  | x :: a, b => by simp only [List.cons_append, shutLL, shutLL_app a b]
theorem lockLL_id : ∀ {a : List (List PV)}, (∀ x ∈ a, lockL x = x) → lockLL a = a
  | [], _ => rfl
  | x :: a, h => by simp only [lockLL]; rw [h x (by simp), lockLL_id fun y hy => h y (by simp [hy])]
theorem shutLL_id : ∀ {a : List (List PV)}, (∀ x ∈ a, shutL x = x) → shutLL a = a
  | [], _ => rfl
  | x :: a, h => by simp only [shutLL]; rw [h x (by simp), shutLL_id fun y hy => h y (by simp [hy])]
@[simp] theorem lockLL_bytes (l : List UInt8) : lockLL (bytesOf l) = bytesOf l := lockLL_id (by simp [bytesOf, lockL, lock])
@[simp] theorem shutLL_bytes (l : List UInt8) : shutLL (bytesOf l) = bytesOf l := shutLL_id (by simp [bytesOf, shutL, shut])
end Go.Pv
