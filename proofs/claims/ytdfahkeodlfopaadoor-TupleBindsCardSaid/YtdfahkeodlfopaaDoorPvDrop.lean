/- A round of a loop forgets the objects that it has made. -/
import Derived.Test.YtdfahkeodlfopaaDoorPvLoop
set_option linter.unusedSimpArgs false
set_option linter.unusedVariables false
namespace Go.Pv
open Go.RowKit

mutual
/-- What is left of a value where the objects from n on are forgotten. -/
def dropP (n : Nat) : PV → PV
  | .ptr id off => bif id < n then .ptr id off else .top
  | .osl id off len k => bif id < n then .osl id off len k else .top
  | .ref cs => .ref (dropPL n cs)
  | .sl xs t => .sl (dropPLL n xs) t
  | .fn f caps => .fn f (dropPL n caps)
  | .iface t v => .iface t (dropP n v)
  | .agg cs => .agg (dropPL n cs)
  | .tup vs => .tup (dropPL n vs)
  | x => x
def dropPL (n : Nat) : List PV → List PV
  | [] => []
  | x :: xs => dropP n x :: dropPL n xs
def dropPLL (n : Nat) : List (List PV) → List (List PV)
  | [] => []
  | x :: xs => dropPL n x :: dropPLL n xs
end
def dropS (n : Nat) (σ : Store) : Store := ⟨(σ.objs.take n).map (dropPL n), σ.toks, σ.tys.take n⟩

theorem dropPL_len (n : Nat) : ∀ (xs : List PV), (dropPL n xs).length = xs.length
  | [] => rfl
  | x :: xs => by simp [dropPL, dropPL_len n xs]
theorem dropPLL_len (n : Nat) : ∀ (xs : List (List PV)), (dropPLL n xs).length = xs.length
  | [] => rfl
  | x :: xs => by simp [dropPLL, dropPLL_len n xs]
theorem dropPLL_id (n : Nat) : ∀ {a : List (List PV)}, (∀ x ∈ a, dropPL n x = x) → dropPLL n a = a
  | [], _ => rfl
  | x :: a, h => by simp only [dropPLL]; rw [h x (by simp), dropPLL_id n fun y hy => h y (by simp [hy])]
@[simp] theorem dropPLL_bytes (n : Nat) (l : List UInt8) : dropPLL n (bytesOf l) = bytesOf l := dropPLL_id n (by simp [bytesOf, dropPL, dropP])
@[simp] theorem dropPLL_nil (n : Nat) : dropPLL n [] = [] := rfl
theorem dropPLL_app (n : Nat) : ∀ (a b : List (List PV)), dropPLL n (a ++ b) = dropPLL n a ++ dropPLL n b
  | [], b => rfl
  | x :: a, b => by simp only [List.cons_append, dropPLL, dropPLL_app n a b]

mutual
theorem dropP_lock (n : Nat) : ∀ {x : PV}, lock x = x → dropP n x = x
  | .top, _ => rfl
  | .bool _, _ => rfl
  | .int _ _, _ => rfl
  | .str _, _ => rfl
  | .nilp, _ => rfl
  | .ptr _ _, h => by simp [lock] at h
  | .ref cs, h => by simp only [lock, PV.ref.injEq] at h; simp only [dropP]; rw [dropPL_lock n h]
  | .sl xs t, h => by simp only [lock, PV.sl.injEq] at h; simp only [dropP]; rw [dropPLL_lock n h.1]
  | .osl _ _ _ _, h => by simp [lock] at h
  | .fn f caps, h => by simp only [lock, PV.fn.injEq] at h; simp only [dropP]; rw [dropPL_lock n h.2]
  | .nilf, _ => rfl
  | .iface t v, h => by simp only [lock, PV.iface.injEq] at h; simp only [dropP]; rw [dropP_lock n h.2]
  | .nili, _ => rfl
  | .agg cs, h => by simp only [lock, PV.agg.injEq] at h; simp only [dropP]; rw [dropPL_lock n h]
  | .tup cs, h => by simp only [lock, PV.tup.injEq] at h; simp only [dropP]; rw [dropPL_lock n h]
theorem dropPL_lock (n : Nat) : ∀ {x : List PV}, lockL x = x → dropPL n x = x
  | [], _ => rfl
  | x :: xs, h => by simp only [lockL, List.cons.injEq] at h; simp only [dropPL]; rw [dropP_lock n h.1, dropPL_lock n h.2]
theorem dropPLL_lock (n : Nat) : ∀ {x : List (List PV)}, lockLL x = x → dropPLL n x = x
  | [], _ => rfl
  | x :: xs, h => by simp only [lockLL, List.cons.injEq] at h; simp only [dropPLL]; rw [dropPL_lock n h.1, dropPLL_lock n h.2]
end

def Gh.keep (H : Gh) (n : Nat) : Gh := { H with ob := H.ob.take n }

section
variable {H : Gh} {w : World} {n : Nat}
theorem keep_prot {b off : Nat} (h : H.prot w b off) : (H.keep n).prot w b off := ⟨h.1, h.2.1, fun hm => h.2.2.1 (List.mem_of_mem_take hm), h.2.2.2⟩
theorem keep_prot2 {b off : Nat} (h : H.prot2 w b off) : (H.keep n).prot2 w b off := h.elim (fun h => .inl (keep_prot h)) .inr
mutual
theorem keep_rel : ∀ {x : PV} {v : Value}, Rel H w x v → Rel (H.keep n) w (dropP n x) v
  | _, _, .top v => by simp only [dropP]; exact .top v
  | _, _, .bool b => by simp only [dropP]; exact .bool b
  | _, _, .int k m h => by simp only [dropP]; exact .int k m h
  | _, _, .str l h => by simp only [dropP]; exact .str l h
  | _, _, .nilp => by simp only [dropP]; exact .nilp
  | _, _, .ptr id off b h => by
    simp only [dropP]
    cases hn : decide (id < n) with
    | true => exact .ptr id off b (by simp only [Gh.keep]; rw [List.getElem?_take, if_pos (by simpa using hn)]; exact h)
    | false => exact .top _
  | _, _, .ref a cs vs h hc => by simp only [dropP]; exact .ref a _ vs (keepL_rel h) (fun j v e => ⟨keep_prot2 (hc j v e).1, (hc j v e).2⟩)
  | _, _, .osl id off off' len cap k b h ho hcap hm => by
    simp only [dropP]
    cases hn : decide (id < n) with
    | true => exact .osl id off off' len cap k b (by simp only [Gh.keep]; rw [List.getElem?_take, if_pos (by simpa using hn)]; exact h) ho hcap hm
    | false => exact .top _
  | _, _, .sl p len cap k xs vss t hl hcap hm h hr ht => by
    simp only [dropP]
    exact .sl p len cap k _ vss t (by rw [← hl]; exact dropPLL_len n xs) hcap hm (keepLL_rel h) (fun i vs e => ⟨(hr i vs e).1, by
      obtain ⟨_, a, ha, hc⟩ := hr i vs e
      exact ⟨a, ha, fun j v e => ⟨keep_prot (hc j v e).1, (hc j v e).2⟩⟩⟩) ht
  | _, _, .fn f caps vs h => by simp only [dropP]; exact .fn f _ vs (keepL_rel h)
  | _, _, .nilf => by simp only [dropP]; exact .nilf
  | _, _, .iface t x v h => by simp only [dropP]; exact .iface t _ v (keep_rel h)
  | _, _, .nili => by simp only [dropP]; exact .nili
  | _, _, .agg cs vs h => by simp only [dropP]; exact .agg _ vs (keepL_rel h)
  | _, _, .tup cs vs h => by simp only [dropP]; exact .tup _ vs (keepL_rel h)
theorem keepL_rel : ∀ {x : List PV} {v : List Value}, RelL H w x v → RelL (H.keep n) w (dropPL n x) v
  | _, _, .nil => by simp only [dropPL]; exact .nil
  | _, _, .cons x v xs vs h ht => by simp only [dropPL]; exact .cons _ v _ vs (keep_rel h) (keepL_rel ht)
theorem keepLL_rel : ∀ {x : List (List PV)} {v : List (List Value)}, RelLL H w x v → RelLL (H.keep n) w (dropPLL n x) v
  | _, _, .nil => by simp only [dropPLL]; exact .nil
  | _, _, .cons x v xs vs h ht => by simp only [dropPLL]; exact .cons _ v _ vs (keepL_rel h) (keepLL_rel ht)
end

theorem take_get {α : Type} {l : List α} {n i : Nat} {a : α} (h : (l.take n)[i]? = some a) : i < n ∧ l[i]? = some a := by
  rw [List.getElem?_take] at h
  split at h
  · exact ⟨‹_›, h⟩
  · cases h

theorem keep_ok {gl : Nat → Option Obj} {σ : Store} (h : Ok gl H σ w) : Ok gl (H.keep n) (dropS n σ) w where
  B := h.B
  gl := h.gl
  len := by simp [Gh.keep, dropS, h.len]
  obj := fun id b cs e1 e2 => by
    obtain ⟨hn, e1⟩ := take_get e1
    simp only [dropS, List.getElem?_map] at e2
    obtain ⟨c0, hc0, rfl⟩ := Option.map_eq_some_iff.1 e2
    obtain ⟨hB, vs, ext, T, he, hr⟩ := h.obj id b c0 e1 (take_get hc0).2
    exact ⟨hB, vs, ext, T, he, keepL_rel hr⟩
  nd := fun i j b e1 e2 => h.nd i j b (take_get e1).2 (take_get e2).2
  tkl := h.tkl
  tok := fun t T e => by
    obtain ⟨hB, ho, hr⟩ := h.tok t T e
    exact ⟨hB, fun hm => ho (List.mem_of_mem_take hm), hr⟩
  tnd := h.tnd
  tyl := by simp [dropS, h.tyl]
  ty := fun id b T cs e1 e2 e3 hT => by
    obtain ⟨hn, e1⟩ := take_get e1
    simp only [dropS, List.getElem?_map] at e2 e3
    obtain ⟨c0, hc0, rfl⟩ := Option.map_eq_some_iff.1 e3
    obtain ⟨us, he, hs⟩ := h.ty id b T c0 e1 (take_get e2).2 (take_get hc0).2 hT
    exact ⟨us, he, by rw [hs, dropPL_len]⟩
end

section
variable {P : Program} {gl : Nat → Option Obj} {c : Code} {fr fr' : List PV} {σ σ' : Store} {e : PExit} {n : Nat}
theorem st_drop {H0 : Gh} {w0 : World} {a : Act} {w : World} (hn : H0.ob.length ≤ n) (h : St gl H0 w0 fr σ a w) : St gl H0 w0 (dropPL n fr) (dropS n σ) a w := by
  obtain ⟨H, hev, hok, hfr, hd⟩ := h
  refine ⟨H.keep n, ⟨hev.B, hev.base, hev.aux, hev.os, hev.tape, hev.output, hev.size, fun id b hid => ?_, hev.tok, fun b off hp => ⟨keep_prot (hev.prot b off hp).1, (hev.prot b off hp).2⟩, hev.block, hev.dr⟩, keep_ok hok, keepL_rel hfr, hd⟩
  simp only [Gh.keep]
  rw [List.getElem?_take, if_pos (Nat.lt_of_lt_of_le (List.getElem?_eq_some_iff.1 hid).1 hn)]
  exact hev.ob id b hid
theorem Does.drop (hn : σ.objs.length ≤ n) (h : Does P gl c fr σ e fr' σ') : Does P gl c fr σ e (dropPL n fr') (dropS n σ') := by
  intro H0 w0 Q a w hst hq
  obtain ⟨H, hev, hok, hfr, hd⟩ := hst
  refine h H w Q a w ⟨H, Ev.refl H w, hok, hfr, hd⟩ fun a' w' hst' => hq a' w' ?_
  obtain ⟨H', hev', hok', hfr', hd'⟩ := st_drop (n := n) (by rw [hok.len]; exact hn) hst'
  exact ⟨H', hev.trans hev', hok', hfr', hd'⟩

/-- What a round of a loop leads to, its own objects forgotten. -/
def NextD (P : Program) (gl : Nat → Option Obj) (c : Code) (e : PExit) (fr' : List PV) (σ' : Store) (n : Nat) : PExit × Fm → Prop
  | (.normal, _, fr1, σ1) => LDoes P gl c (dropPL n fr1) (dropS n σ1) e fr' σ'
  | (e1, _, fr1, σ1) => e1 = e ∧ Weak (dropPL n fr1) fr' ∧ dropS n σ1 = σ'

theorem LDoes.roundD (n : Nat) (hn : σ.objs.length ≤ n) {tb : Tab} {G : GamT} (hT : TabOk P tb) (hΓ : GamOk P gl (gam G)) (hm : P.follows .mixedOrders = true) {L : LpsT} (hL : LoopOk P gl (lps L) c) (hdr : drawsOk (gam G) c = true)
    (h : (texec tb G L c [] fr σ).all (NextD P gl c e fr' σ' n)) : LDoes P gl c fr σ e fr' σ' := by
  obtain ⟨⟨e1, kn, fr1, σ1⟩, h1, h2⟩ := Tr.all_run h
  have hd := (Does.of_tree hT hΓ hm hL hdr h1).drop hn
  cases e1 with
  | normal => exact LDoes.next hd h2
  | exit j =>
    obtain ⟨rfl, hw, rfl⟩ := h2
    exact LDoes.outof (LDoes.out hd (by simp)) hw
  | ret =>
    obtain ⟨rfl, hw, rfl⟩ := h2
    exact LDoes.outof (LDoes.out hd (by simp)) hw
end

/-! ### own rows forgotten -/
mutual
/-- No row may be appended to in place any more. -/
def sealP : PV → PV
  | .ref cs => .ref (sealL cs)
  | .sl xs _ => .sl (sealLL xs) .non
  | .fn f caps => .fn f (sealL caps)
  | .iface t v => .iface t (sealP v)
  | .agg cs => .agg (sealL cs)
  | .tup vs => .tup (sealL vs)
  | x => x
def sealL : List PV → List PV
  | [] => []
  | x :: xs => sealP x :: sealL xs
def sealLL : List (List PV) → List (List PV)
  | [] => []
  | x :: xs => sealL x :: sealLL xs
end
def sealS (σ : Store) : Store := ⟨σ.objs.map sealL, [], σ.tys⟩
theorem sealL_len : ∀ (xs : List PV), (sealL xs).length = xs.length
  | [] => rfl
  | x :: xs => by simp [sealL, sealL_len xs]
theorem sealLL_len : ∀ (xs : List (List PV)), (sealLL xs).length = xs.length
  | [] => rfl
  | x :: xs => by simp [sealLL, sealLL_len xs]
mutual
theorem sealP_lock : ∀ {x : PV}, lock x = x → sealP x = x
  | .top, _ => rfl
  | .bool _, _ => rfl
  | .int _ _, _ => rfl
  | .str _, _ => rfl
  | .nilp, _ => rfl
  | .ptr _ _, h => by simp [lock] at h
  | .ref cs, h => by simp only [lock, PV.ref.injEq] at h; simp only [sealP]; rw [sealL_lock h]
  | .sl xs t, h => by simp only [lock, PV.sl.injEq] at h; simp only [sealP]; rw [sealLL_lock h.1, ← h.2]
  | .osl _ _ _ _, h => by simp [lock] at h
  | .fn f caps, h => by simp only [lock, PV.fn.injEq] at h; simp only [sealP]; rw [sealL_lock h.2]
  | .nilf, _ => rfl
  | .iface t v, h => by simp only [lock, PV.iface.injEq] at h; simp only [sealP]; rw [sealP_lock h.2]
  | .nili, _ => rfl
  | .agg cs, h => by simp only [lock, PV.agg.injEq] at h; simp only [sealP]; rw [sealL_lock h]
  | .tup cs, h => by simp only [lock, PV.tup.injEq] at h; simp only [sealP]; rw [sealL_lock h]
theorem sealL_lock : ∀ {x : List PV}, lockL x = x → sealL x = x
  | [], _ => rfl
  | x :: xs, h => by simp only [lockL, List.cons.injEq] at h; simp only [sealL]; rw [sealP_lock h.1, sealL_lock h.2]
theorem sealLL_lock : ∀ {x : List (List PV)}, lockLL x = x → sealLL x = x
  | [], _ => rfl
  | x :: xs, h => by simp only [lockLL, List.cons.injEq] at h; simp only [sealLL]; rw [sealL_lock h.1, sealLL_lock h.2]
end
@[simp] theorem sealLL_bytes (l : List UInt8) : sealLL (bytesOf l) = bytesOf l := sealLL_lock (lockLL_bytes l)

def Gh.bare (H : Gh) : Gh := { H with tk := [] }
section
variable {H : Gh} {w : World}
theorem bare_prot {b off : Nat} (h : H.prot w b off) : H.bare.prot w b off := ⟨h.1, h.2.1, h.2.2.1, fun T hT => by cases hT⟩
theorem bare_prot2 {b off : Nat} (h : H.prot2 w b off) : H.bare.prot2 w b off := h.elim (fun h => .inl (bare_prot h)) .inr
mutual
theorem bare_rel : ∀ {x : PV} {v : Value}, Rel H w x v → Rel H.bare w (sealP x) v
  | _, _, .top v => by simp only [sealP]; exact .top v
  | _, _, .bool b => by simp only [sealP]; exact .bool b
  | _, _, .int k m h => by simp only [sealP]; exact .int k m h
  | _, _, .str l h => by simp only [sealP]; exact .str l h
  | _, _, .nilp => by simp only [sealP]; exact .nilp
  | _, _, .ptr id off b h => by simp only [sealP]; exact .ptr id off b h
  | _, _, .ref a cs vs h hc => by simp only [sealP]; exact .ref a _ vs (bareL_rel h) (fun j v e => ⟨bare_prot2 (hc j v e).1, (hc j v e).2⟩)
  | _, _, .osl id off off' len cap k b h ho hcap hm => by simp only [sealP]; exact .osl id off off' len cap k b h ho hcap hm
  | _, _, .sl p len cap k xs vss t hl hcap hm h hr ht => by
    simp only [sealP]
    exact .sl p len cap k _ vss .non (by rw [← hl]; exact sealLL_len xs) hcap hm (bareLL_rel h) (fun i vs e => ⟨(hr i vs e).1, by
      obtain ⟨_, a, ha, hc⟩ := hr i vs e
      exact ⟨a, ha, fun j v e => ⟨bare_prot (hc j v e).1, (hc j v e).2⟩⟩⟩) trivial
  | _, _, .fn f caps vs h => by simp only [sealP]; exact .fn f _ vs (bareL_rel h)
  | _, _, .nilf => by simp only [sealP]; exact .nilf
  | _, _, .iface t x v h => by simp only [sealP]; exact .iface t _ v (bare_rel h)
  | _, _, .nili => by simp only [sealP]; exact .nili
  | _, _, .agg cs vs h => by simp only [sealP]; exact .agg _ vs (bareL_rel h)
  | _, _, .tup cs vs h => by simp only [sealP]; exact .tup _ vs (bareL_rel h)
theorem bareL_rel : ∀ {x : List PV} {v : List Value}, RelL H w x v → RelL H.bare w (sealL x) v
  | _, _, .nil => by simp only [sealL]; exact .nil
  | _, _, .cons x v xs vs h ht => by simp only [sealL]; exact .cons _ v _ vs (bare_rel h) (bareL_rel ht)
theorem bareLL_rel : ∀ {x : List (List PV)} {v : List (List Value)}, RelLL H w x v → RelLL H.bare w (sealLL x) v
  | _, _, .nil => by simp only [sealLL]; exact .nil
  | _, _, .cons x v xs vs h ht => by simp only [sealLL]; exact .cons _ v _ vs (bareL_rel h) (bareLL_rel ht)
end
theorem bare_ok {gl : Nat → Option Obj} {σ : Store} (h : Ok gl H σ w) : Ok gl H.bare (sealS σ) w where
  B := h.B
  gl := h.gl
  len := by simp [Gh.bare, sealS, h.len]
  obj := fun id b cs e1 e2 => by
    simp only [sealS, List.getElem?_map] at e2
    obtain ⟨c0, hc0, rfl⟩ := Option.map_eq_some_iff.1 e2
    obtain ⟨hB, vs, ext, T, he, hr⟩ := h.obj id b c0 e1 hc0
    exact ⟨hB, vs, ext, T, he, bareL_rel hr⟩
  nd := h.nd
  tkl := rfl
  tok := fun t T e => by simp [Gh.bare] at e
  tnd := fun t u T U e => by simp [Gh.bare] at e
  tyl := by simp [sealS, h.tyl]
  ty := fun id b T cs e1 e2 e3 hT => by
    simp only [sealS, List.getElem?_map] at e2 e3
    obtain ⟨c0, hc0, rfl⟩ := Option.map_eq_some_iff.1 e3
    obtain ⟨us, he, hs⟩ := h.ty id b T c0 e1 e2 hc0 hT
    exact ⟨us, he, by rw [hs, sealL_len]⟩
end
section
variable {P : Program} {gl : Nat → Option Obj} {c : Code} {fr fr' : List PV} {σ σ' : Store} {e : PExit}
theorem st_seal {H0 : Gh} {w0 : World} {a : Act} {w : World} (hn : H0.tk = []) (h : St gl H0 w0 fr σ a w) : St gl H0 w0 (sealL fr) (sealS σ) a w := by
  obtain ⟨H, hev, hok, hfr, hd⟩ := h
  exact ⟨H.bare, ⟨hev.B, hev.base, hev.aux, hev.os, hev.tape, hev.output, hev.size, hev.ob, fun t T e => by simp [hn] at e, fun b off hp => ⟨bare_prot (hev.prot b off hp).1, (hev.prot b off hp).2⟩, hev.block, hev.dr⟩, bare_ok hok, bareL_rel hfr, hd⟩
theorem LDoes.seal (h0 : σ.toks = []) (h : LDoes P gl c fr σ e fr' σ') : LDoes P gl c fr σ e (sealL fr') (sealS σ') := by
  intro H0 w0 Q a w hst hq
  obtain ⟨H, hev, hok, hfr, hd⟩ := hst
  have htk : H.tk = [] := by
    have := hok.tkl
    rw [h0] at this
    simpa using this
  refine h H w Q a w ⟨H, Ev.refl H w, hok, hfr, hd⟩ fun a' w' hst' => hq a' w' ?_
  obtain ⟨H', hev', hok', hfr', hd'⟩ := st_seal htk hst'
  exact ⟨H', hev.trans hev', hok', hfr', hd'⟩
end

/-- A contract for a row by two: the row is nil, or it is not. -/
theorem SimP.of_nilcase {P : Program} {gl : Nat → Option Obj} {f : FuncId} {F G : List PV → Option PV} (hG : SimP P gl f G) (h : ∀ args x, F args = some x → ∃ xs tg, args = [.sl xs tg] ∧ G [.sl xs .nil] = some x ∧ G [.sl xs .own] = some x) : SimP P gl f F where
  ent := hG.ent
  run := fun args x hx H w vs h1 h2 h3 h4 hr => by
    obtain ⟨xs, tg, rfl, ha, hb⟩ := h args x hx
    cases hr with
    | cons _ v _ vs hv hvs =>
      cases hvs
      cases hv with
      | sl p len cap k _ vss _ hl hcap hm hrel hrow htag =>
        cases p with
        | none => exact hG.run _ x ha H w _ h1 h2 h3 h4 (.cons _ _ _ _ (.sl none len cap k xs vss .nil hl hcap hm hrel hrow rfl) .nil)
        | some a => exact hG.run _ x hb H w _ h1 h2 h3 h4 (.cons _ _ _ _ (.sl (some a) len cap k xs vss .own hl hcap hm hrel hrow (by simp [TagOk])) .nil)
end Go.Pv
