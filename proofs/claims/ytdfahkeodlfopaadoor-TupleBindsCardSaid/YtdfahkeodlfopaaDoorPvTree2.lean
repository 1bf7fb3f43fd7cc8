/- The tree of an operation, of regions, of code, of a function. -/
import Derived.Test.YtdfahkeodlfopaaDoorPvTree
set_option linter.unusedSimpArgs false
set_option linter.unusedVariables false
namespace Go.Pv
open Go.RowKit Tr

def tconv (tb : Tab) (src dst : TypeId) (x : PV) : Tr PV :=
  match tb src, tb dst with
  | some S, some D => match S.kd, D.kd, x with
    | .int _, .int k, .int _ n => .ret (.int k (iWrap k n))
    | .int _, .str, .int _ n => chk (okAscii n) (.ret (.str (sOne n)))
    | .str, .str, .str l => .ret (.str l)
    | .sl e, .str, .sl xs _ => match tb e with
      | some ⟨.int .u8, 1, _, _⟩ => chk (okBytes xs) (.ret (.str (unBytes xs)))
      | _ => .fail
    | .str, .sl e, .str l => match tb e with
      | some ⟨.int .u8, 1, _, _⟩ => chk (okLen l) (.ret (.sl (bytesOf l) .non))
      | _ => .fail
    | _, _, _ => .fail
  | _, _ => .fail

theorem tconv_run {tb : Tab} {src dst : TypeId} {x r : PV} (h : run (tconv tb src dst x) = some r) : pconv tb src dst x = some r := by
  unfold tconv at h
  unfold pconv
  cases hS : tb src with
  | none => simp [hS, run] at h
  | some S =>
    cases hD : tb dst with
    | none => simp [hS, hD, run] at h
    | some D =>
      simp only [hS, hD] at h ⊢
      split at h
      · rename_i hk hk'; simp only [hk, hk']; exact h
      · rename_i k n hk hk'
        obtain ⟨h1, h2⟩ := chk_some h
        simp only [okAscii, Bool.and_eq_true, decide_eq_true_eq] at h1
        simp only [hk, hk']
        rw [if_pos h1]
        exact h2
      · rename_i hk hk'; simp only [hk, hk']; exact h
      · rename_i e xs tg hk hk'
        simp only [hk, hk']
        split at h
        · rename_i b z hE
          obtain ⟨h1, h2⟩ := chk_some h
          simp only [hE]
          cases hp : pbytes xs with
          | none => simp [okBytes, hp] at h1
          | some l =>
            simp only [unBytes, hp, Option.getD_some, run, Option.some.injEq] at h2
            subst h2
            rfl
        · cases h
      · rename_i e l hk hk'
        simp only [hk, hk']
        split at h
        · rename_i b z hE
          obtain ⟨h1, h2⟩ := chk_some h
          simp only [hE]
          rw [if_pos (by simpa [okLen] using h1)]
          exact h2
        · cases h
      · cases h

def tbound : Option PV → Nat → Option (Bool × Nat)
  | none, d => some (true, d)
  | some (.int _ n), _ => some (okPos n, nNat n)
  | _, _ => none

theorem tbound_imp {x : Option PV} {d a : Nat} (h : tbound x d = some (true, a)) : pbound x d = some a := by
  unfold tbound okPos nNat at h
  unfold pbound
  split at h
  · simpa using h
  · simp only [Option.some.injEq, Prod.mk.injEq, decide_eq_true_eq] at h
    simp [h.1, h.2]
  · cases h

def tslice (tb : Tab) (t : TypeId) (x : PV) (lo hi mx : Option PV) : Tr PV :=
  match tb t with
  | none => .fail
  | some K => match K.kd, x with
    | .str, .str l =>
      match mx, tbound lo 0, tbound hi (nLen l) with
      | none, some (ca, a), some (cb, b) => chk (okSub ca cb a b (nLen l)) (.ret (.str (sSub l a b)))
      | _, _, _ => .fail
    | .sl e, .sl xs tag => match tb e with
      | some E => match mx with
        | none => match tbound lo 0, tbound hi (nXs xs) with
          | some (ca, a), some (cb, b) => chk (okSub ca cb a b (nXs xs)) (chk (okSize xs E.size) (.ret (.sl (xSub xs a b) (match lo, hi with | none, none => tag | _, _ => .non))))
          | _, _ => .fail
        | some m => match hi with
          | none => .fail
          | some h => match tbound lo 0, tbound (some h) 0, tbound (some m) 0 with
            | some (ca, a), some (cb, b), some (cc, c) => chk (okSub3 ca cb cc a b c (nXs xs)) (chk (okSize xs E.size) (.ret (.sl (xSub xs a b) .full)))
            | _, _, _ => .fail
      | none => .fail
    | .sl _, .osl id off len k => ofOpt (pslice tb t (.osl id off len k) lo hi mx)
    | _, _ => .fail

theorem tslice_run {tb : Tab} {t : TypeId} {x r : PV} {lo hi mx : Option PV} (h : run (tslice tb t x lo hi mx) = some r) : pslice tb t x lo hi mx = some r := by
  unfold tslice at h
  unfold pslice
  cases hK : tb t with
  | none => simp [hK, run] at h
  | some K =>
    simp only [hK] at h ⊢
    split at h
    · rename_i l hk
      simp only [hk]
      split at h
      · rename_i ca a cb b ha hb
        obtain ⟨h1, h2⟩ := chk_some h
        simp only [okSub, Bool.and_eq_true] at h1
        obtain ⟨⟨⟨rfl, rfl⟩, h1⟩, h3⟩ := h1
        simp only [tbound_imp ha, show pbound hi l.length = some b from tbound_imp hb]
        rw [if_pos ⟨of_decide_eq_true h1, of_decide_eq_true h3⟩]
        exact h2
      · cases h
    · rename_i e xs tag hk
      simp only [hk]
      cases hE : tb e with
      | none => simp [hE, run] at h
      | some E =>
        simp only [hE] at h ⊢
        split at h
        · split at h
          · rename_i ca a cb b ha hb
            obtain ⟨h1, h2⟩ := chk_some h
            obtain ⟨h4, h2⟩ := chk_some h2
            simp only [okSub, Bool.and_eq_true] at h1
            obtain ⟨⟨⟨rfl, rfl⟩, h1⟩, h3⟩ := h1
            unfold okSize at h4
            rw [if_pos h4]
            simp only [tbound_imp ha, show pbound hi xs.length = some b from tbound_imp hb]
            rw [if_pos ⟨of_decide_eq_true h1, of_decide_eq_true h3⟩]
            exact h2
          · cases h
        · rename_i m
          split at h
          · cases h
          · rename_i hh
            split at h
            · rename_i ca a cb b cc c ha hb hc
              obtain ⟨h1, h2⟩ := chk_some h
              obtain ⟨h5, h2⟩ := chk_some h2
              simp only [okSub3, Bool.and_eq_true] at h1
              obtain ⟨⟨⟨⟨⟨rfl, rfl⟩, rfl⟩, h1⟩, h3⟩, h4⟩ := h1
              unfold okSize at h5
              rw [if_pos h5]
              simp only [tbound_imp ha, tbound_imp hb, tbound_imp hc]
              rw [if_pos ⟨of_decide_eq_true h1, of_decide_eq_true h3, of_decide_eq_true h4⟩]
              exact h2
            · cases h
    · rename_i e id off len k hk
      rw [run_ofOpt] at h
      unfold pslice at h
      simp only [hK, hk] at h ⊢
      exact h
    · cases h

def tindexAt (tb : Tab) (t : TypeId) (x i : PV) : Tr PV :=
  match tb t with
  | none => .fail
  | some K => match K.kd, x, i with
    | .sl e, .sl xs _, .int _ n => match tb e with
      | some E => chk (okPos n) (.get xs (nNat n) E.zero fun cs => if cs.length = E.size then .ret (.ref cs) else .fail)
      | none => .fail
    | .sl e, .osl id off len k, .int _ n => match tb e with
      | some E => if 0 ≤ n ∧ n.toNat < len ∧ k = E.size then .ret (.ptr id (off + n.toNat * k)) else .fail
      | none => .fail
    | .arr m e, .ptr id off, .int _ n => match tb e with
      | some E => if 0 ≤ n ∧ n.toNat < m then .ret (.ptr id (off + n.toNat * E.size)) else .fail
      | none => .fail
    | _, _, _ => .fail

theorem tindexAt_run {tb : Tab} {t : TypeId} {x i r : PV} (h : run (tindexAt tb t x i) = some r) : pindexAt tb t x i = some r := by
  unfold tindexAt at h
  unfold pindexAt
  cases hK : tb t with
  | none => simp [hK, run] at h
  | some K =>
    simp only [hK] at h ⊢
    split at h
    · rename_i e xs tg k n hk
      simp only [hk]
      cases hE : tb e with
      | none => simp [hE, run] at h
      | some E =>
        simp only [hE] at h ⊢
        obtain ⟨h1, h2⟩ := chk_some h
        rw [if_pos (by simpa [okPos] using h1)]
        simp only [run, nNat] at h2
        split at h2
        · rename_i cs hcs
          simp only [hcs]
          split at h2
          · rename_i hl
            rw [if_pos hl]
            exact h2
          · cases h2
        · cases h2
    · rename_i e id off len k kk n hk
      simp only [hk]
      cases hE : tb e with
      | none => simp [hE, run] at h
      | some E =>
        simp only [hE] at h ⊢
        split at h
        · rename_i h0
          rw [if_pos h0]
          exact h
        · cases h
    · rename_i m e id off k n hk
      simp only [hk]
      cases hE : tb e with
      | none => simp [hE, run] at h
      | some E =>
        simp only [hE] at h ⊢
        split at h
        · rename_i h0
          rw [if_pos h0]
          exact h
        · cases h
    · cases h

def tindex (tb : Tab) (t : TypeId) (x i : PV) : Tr PV :=
  match tb t with
  | none => .fail
  | some K => match K.kd, x, i with
    | .str, .str l, .int _ n => chk (okIdx l n) (.ret (.int .u8 (sAt l n)))
    | _, _, _ => .fail

theorem tindex_run {tb : Tab} {t : TypeId} {x i r : PV} (h : run (tindex tb t x i) = some r) : pindex tb t x i = some r := by
  unfold tindex at h
  unfold pindex
  cases hK : tb t with
  | none => simp [hK, run] at h
  | some K =>
    simp only [hK] at h ⊢
    split at h
    · rename_i l k n hk
      simp only [hk]
      obtain ⟨h1, h2⟩ := chk_some h
      simp only [okIdx, Bool.and_eq_true, decide_eq_true_eq] at h1
      rw [if_pos h1.1, List.getElem?_eq_getElem h1.2]
      unfold sAt at h2
      rw [List.getD_eq_getElem?_getD, List.getElem?_eq_getElem h1.2] at h2
      exact h2
    · cases h

/-- A row that may be empty. -/
def tnil {α : Type} (lit : Bool) (ys : List (List PV)) (x y : Tr α) : Tr α :=
  if lit then (match ys with | [] => x | _ :: _ => y) else .ite (xNil ys) x y

theorem run_tnil {α : Type} (lit : Bool) (ys : List (List PV)) (x y : Tr α) : run (tnil lit ys x y) = match ys with | [] => run x | _ :: _ => run y := by
  unfold tnil
  split <;> cases ys <;> rfl

def tappend (tb : Tab) (m lit : Bool) (t : TypeId) (s : PV) (ys : List (List PV)) (σ : Store) : Tr (PV × Store) :=
  match tb t with
  | none => .fail
  | some K => match K.kd, s with
    | .sl e, .sl xs tag => match tb e with
      | some E =>
        if 0 < E.size ∧ 0 < E.bytes ∧ E.zero.length = E.size then
          chk (okGrow xs ys E.bytes) <| chk (okNews ys E.size) <| chk (okSize xs E.size) <|
            tnil lit ys (.ret (.sl xs tag, σ)) <| match tag with
            | .non => .fail
            | .nil => .fail
            | .own => .fail
            | .full => if m then .ret (.osl σ.objs.length 0 (nXs (xApp xs ys)) E.size, { σ with objs := σ.objs ++ [(xApp xs ys).flatten], tys := σ.tys ++ [e + tyMark] }) else .ret (.sl (xApp xs ys) (.tok σ.toks.length), { σ with toks := σ.toks ++ [(nXs (xApp xs ys), E.size, e)] })
            | .tok i => match σ.toks[i]? with
              | some (v, k, e') => if k = E.size ∧ e' = e then chk (nEq v (nXs xs)) (.ret (.sl (xApp xs ys) (.tok i), { σ with toks := σ.toks.set i (nXs (xApp xs ys), E.size, e) })) else .fail
              | none => .fail
        else .fail
      | none => .fail
    | _, _ => .fail

theorem tappend_run {tb : Tab} {m lit : Bool} {t : TypeId} {s : PV} {ys : List (List PV)} {tg : Tag} {σ : Store} {r : PV × Store} (h : run (tappend tb m lit t s ys σ) = some r) : pappend tb m t s (.sl ys tg) σ = some r := by
  unfold tappend at h
  unfold pappend
  cases hK : tb t with
  | none => simp [hK, run] at h
  | some K =>
    simp only [hK, pnews] at h ⊢
    split at h
    · rename_i e xs tag hk
      simp only [hk]
      cases hE : tb e with
      | none => simp [hE, run] at h
      | some E =>
        simp only [hE] at h ⊢
        split at h
        · rename_i hc
          obtain ⟨h1, h2⟩ := chk_some h
          have hh := chk_some h2
          clear h2
          obtain ⟨h5, h7⟩ := hh
          have hh := chk_some h7
          clear h7
          obtain ⟨h6, h2⟩ := hh
          simp only [okGrow, Bool.and_eq_true, decide_eq_true_eq] at h1
          obtain ⟨h3, h4⟩ := h1
          unfold okNews at h5
          unfold okSize at h6
          rw [if_pos ⟨h3, h4, hc.1, hc.2.1, hc.2.2, by rw [h5, h6]; rfl⟩]
          rw [run_tnil] at h2
          cases ys with
          | nil => exact h2
          | cons y ys =>
            simp only [nXs, xApp, List.length_append] at h2 ⊢
            split at h2
            · cases h2
            · cases h2
            · cases h2
            · cases m <;> exact h2
            · rename_i i
              simp only []
              cases hσ : σ.toks[i]? with
              | none => simp [hσ, run] at h2
              | some q =>
                obtain ⟨v, k, e'⟩ := q
                simp only [hσ] at h2 ⊢
                split at h2
                · rename_i hke
                  obtain ⟨h7, h8⟩ := chk_some h2
                  rw [if_pos ⟨by simpa [nEq] using h7, hke.1, hke.2⟩]
                  exact h8
                · cases h2
        · cases h
    · cases h

inductive ConT where
  | pure (F : List PV → Tr PV)
  | store (D : List PV → Store → Tr (PV × Store))
  | flag
def ConT.con : ConT → Con
  | .pure F => .pure fun args => Tr.run (F args)
  | .store D => .store fun args σ => Tr.run (D args σ)
  | .flag => .flag
abbrev GamT := FuncId → Option ConT
def gam (G : GamT) : Gam := fun f => (G f).map ConT.con

/-- Is the operand's value written out? -/
def litOf (kn : List Nat) : Operand → Bool
  | .const _ => true
  | .tmp t => kn.contains t
  | _ => false

def objModeT (G : GamT) : Bool := match G objKey with
  | some .flag => true
  | _ => false
theorem objModeT_eq (G : GamT) : objMode (gam G) = objModeT G := by
  unfold objMode objModeT gam
  cases G objKey with
  | none => rfl
  | some c => cases c <;> rfl

def tcallOp (tb : Tab) (G : GamT) (kn : List Nat) (fr : List PV) (σ : Store) (c : Call) : Tr (PV × Store) :=
  match c.callee with
  | .builtin .append => match c.argTypes.toList, c.args.toList with
    | [t, t'], [s, x] => if t = t' then match ev fr x with
      | .sl ys _ => tappend tb (objModeT G) (litOf kn x) t (ev fr s) ys σ
      | _ => .fail
      else match tb t' with
      | some K => match K.kd, ev fr x with
        | .str, .str l => tappend tb (objModeT G) false t (ev fr s) (bytesOf l) σ
        | _, _ => .fail
      | none => .fail
    | _, _ => .fail
  | .builtin .len => match c.argTypes.toList, c.args.toList with
    | [t], [x] => match tb t with
      | some K => match K.kd, ev fr x with
        | .str, .str l => .ret (.int .i64 (sLen l), σ)
        | .sl _, .sl xs _ => .ret (.int .i64 (xLen xs), σ)
        | .sl _, .osl _ _ len _ => .ret (.int .i64 len, σ)
        | _, _ => .fail
      | none => .fail
    | _, _ => .fail
  | .value f => match ev fr f with
    | .fn g caps => match G g with
      | some (.pure F) => bind (F ((c.args.toList.map (ev fr) ++ caps).map (view σ.objs))) fun x => .ret (x, σ)
      | some (.store D) => match f with
        | .func _ => D (c.args.toList.map (ev fr)) σ
        | _ => .fail
      | some .flag => .fail
      | none => .fail
    | _ => .fail
  | _ => ofOpt (pcallOp tb (gam G) fr σ c)

theorem tcallOp_run {tb : Tab} {G : GamT} {kn : List Nat} {fr : List PV} {σ : Store} {c : Call} {r : PV × Store} (h : run (tcallOp tb G kn fr σ c) = some r) : pcallOp tb (gam G) fr σ c = some r := by
  unfold tcallOp at h
  split at h
  · rename_i hc
    unfold pcallOp
    simp only [hc]
    split at h
    · rename_i t t' s x ht hx
      simp only [ht, hx]
      split at h
      · rename_i htt
        rw [if_pos htt]
        split at h
        · rename_i ys tg he
          simp only [he]
          rw [objModeT_eq]
          exact tappend_run h
        · cases h
      · rename_i htt
        rw [if_neg htt]
        cases hK : tb t' with
        | none => simp [hK, run] at h
        | some K =>
          simp only [hK] at h ⊢
          split at h
          · rename_i l hk he
            simp only [hk, he]
            rw [objModeT_eq]
            exact tappend_run (tg := .non) h
          · cases h
    · cases h
  · rename_i hc
    unfold pcallOp
    simp only [hc]
    split at h
    · rename_i t x ht hx
      simp only [ht, hx]
      cases hK : tb t with
      | none => simp [hK, run] at h
      | some K =>
        simp only [hK] at h ⊢
        split at h
        · rename_i l hk he
          simp only [hk, he]
          exact h
        · rename_i e xs tg hk he
          simp only [hk, he]
          exact h
        · rename_i e id off len k hk he
          simp only [hk, he]
          exact h
        · cases h
    · cases h
  · rename_i f hc
    unfold pcallOp
    simp only [hc]
    split at h
    · rename_i g caps he
      simp only [he]
      cases hG : G g with
      | none => simp [hG, run] at h
      | some K =>
        cases K with
        | pure F =>
          simp only [hG] at h
          obtain ⟨x, hx, hr⟩ := bind_some h
          simp only [gam, hG, Option.map_some, ConT.con, hx]
          exact hr
        | store D =>
          simp only [hG] at h
          simp only [gam, hG, Option.map_some, ConT.con]
          split at h
          · exact h
          · cases h
        | flag =>
          simp only [hG] at h
          cases h
    · cases h
  · rwa [run_ofOpt] at h

def tun (op : UnOp) (x : PV) : Tr PV :=
  match op, x with
  | .neg, .int k n => .ret (.int k (iSub k 0 n))
  | .not, .bool b => .ret (.bool (bNot b))
  | _, _ => .fail

theorem tun_run {op : UnOp} {x r : PV} (h : run (tun op x) = some r) : pun op x = some r := by
  unfold tun at h
  unfold pun
  split at h
  · exact h
  · exact h
  · cases h

/-- An operation: its value, whether that is written out, and the store. -/
def topp (tb : Tab) (G : GamT) (kn : List Nat) (fr : List PV) (σ : Store) (o : Oper) : Tr (PV × Bool × Store) :=
  match o.op with
  | .move x | .assign x => .ret (ev fr x, litOf kn x, σ)
  | .pick c a b => match ev fr c with
    | .bool t => br (litOf kn c) t (.ret (ev fr a, litOf kn a, σ)) (.ret (ev fr b, litOf kn b, σ))
    | _ => .fail
  | .buildSlice t len parts => bind (ofOpt (pbuildSlice tb t len (parts.toList.map fun p => (p.1, ev fr p.2)))) fun x => .ret (x, true, σ)
  | .binOp op t x y _ => bind (tbin tb op t x y (ev fr x) (ev fr y)) fun v => .ret (v, false, σ)
  | .convert s d x => bind (tconv tb s d (ev fr x)) fun v => .ret (v, false, σ)
  | .slice t x lo hi mx => bind (tslice tb t (ev fr x) (lo.map (ev fr)) (hi.map (ev fr)) (mx.map (ev fr))) fun v => .ret (v, false, σ)
  | .indexAddr t x i => bind (tindexAt tb t (ev fr x) (ev fr i)) fun v => .ret (v, false, σ)
  | .index t x i => bind (tindex tb t (ev fr x) (ev fr i)) fun v => .ret (v, false, σ)
  | .unOp op _ x => bind (tun op (ev fr x)) fun v => .ret (v, litOf kn x, σ)
  | .call c => bind (tcallOp tb G kn fr σ c) fun r => .ret (r.1, false, r.2)
  | _ => bind (ofOpt (pop tb (gam G) fr σ o)) fun r => .ret (r.1, false, r.2)

theorem topp_run {tb : Tab} {G : GamT} {kn : List Nat} {fr : List PV} {σ : Store} {o : Oper} {x : PV} {l : Bool} {σ' : Store} (h : run (topp tb G kn fr σ o) = some (x, l, σ')) : pop tb (gam G) fr σ o = some (x, σ') := by
  unfold topp at h
  split at h
  · rename_i y ho
    simp only [run, Option.some.injEq, Prod.mk.injEq] at h
    obtain ⟨rfl, rfl, rfl⟩ := h
    simp only [pop, ho]
  · rename_i y ho
    simp only [run, Option.some.injEq, Prod.mk.injEq] at h
    obtain ⟨rfl, rfl, rfl⟩ := h
    simp only [pop, ho]
  · rename_i c a b ho
    simp only [pop, ho]
    split at h
    · rename_i t ht
      rw [run_br] at h
      simp only [ht]
      cases t <;>
      · simp only [run, cond_true, cond_false, Option.some.injEq, Prod.mk.injEq] at h ⊢
        exact ⟨h.1, h.2.2⟩
    · cases h
  · rename_i ho
    obtain ⟨v, hv, h⟩ := bind_some h
    rw [run_ofOpt] at hv
    simp only [run, Option.some.injEq, Prod.mk.injEq] at h
    obtain ⟨rfl, rfl, rfl⟩ := h
    simp only [pop, ho, hv, Option.map_some]
  · rename_i ho
    obtain ⟨v, hv, h⟩ := bind_some h
    simp only [run, Option.some.injEq, Prod.mk.injEq] at h
    obtain ⟨rfl, rfl, rfl⟩ := h
    simp only [pop, ho, tbin_run hv, Option.map_some]
  · rename_i ho
    obtain ⟨v, hv, h⟩ := bind_some h
    simp only [run, Option.some.injEq, Prod.mk.injEq] at h
    obtain ⟨rfl, rfl, rfl⟩ := h
    simp only [pop, ho, tconv_run hv, Option.map_some]
  · rename_i ho
    obtain ⟨v, hv, h⟩ := bind_some h
    simp only [run, Option.some.injEq, Prod.mk.injEq] at h
    obtain ⟨rfl, rfl, rfl⟩ := h
    simp only [pop, ho, tslice_run hv, Option.map_some]
  · rename_i ho
    obtain ⟨v, hv, h⟩ := bind_some h
    simp only [run, Option.some.injEq, Prod.mk.injEq] at h
    obtain ⟨rfl, rfl, rfl⟩ := h
    simp only [pop, ho, tindexAt_run hv, Option.map_some]
  · rename_i ho
    obtain ⟨v, hv, h⟩ := bind_some h
    simp only [run, Option.some.injEq, Prod.mk.injEq] at h
    obtain ⟨rfl, rfl, rfl⟩ := h
    simp only [pop, ho, tindex_run hv, Option.map_some]
  · rename_i ho
    obtain ⟨v, hv, h⟩ := bind_some h
    simp only [run, Option.some.injEq, Prod.mk.injEq] at h
    obtain ⟨rfl, rfl, rfl⟩ := h
    simp only [pop, ho, tun_run hv, Option.map_some]
  · rename_i c ho
    obtain ⟨v, hv, h⟩ := bind_some h
    simp only [run, Option.some.injEq, Prod.mk.injEq] at h
    obtain ⟨rfl, rfl, rfl⟩ := h
    simp only [pop, ho, tcallOp_run hv]
  · obtain ⟨v, hv, h⟩ := bind_some h
    rw [run_ofOpt] at hv
    simp only [run, Option.some.injEq, Prod.mk.injEq] at h
    obtain ⟨rfl, rfl, rfl⟩ := h
    exact hv

/-! ### regions -/
def kput (kn : List Nat) (dst : Option Tmp) (l : Bool) : List Nat :=
  match dst with
  | some d => bif l then d :: kn else kn.filter (fun t => !(t == d))
  | none => kn

abbrev Fm := List Nat × List PV × Store

def tops (tb : Tab) (G : GamT) (ops : List Oper) : List Oper → List Nat → List PV → Store → Tr Fm
  | [], kn, fr, σ => .ret (kn, fr, σ)
  | o :: rest, kn, fr, σ => match o.guard with
    | none => bind (topp tb G kn fr σ o) fun r => tops tb G ops rest (kput kn o.dst r.2.1) (pput fr o.dst r.1) r.2.2
    | some (j, b) => match (ops[j]?).bind (·.dst) with
      | none => .fail
      | some d => match fr[d]? with
        | some (.bool c) =>
          if kn.contains d then
            if c == b then bind (topp tb G kn fr σ o) fun r => tops tb G ops rest (kput kn o.dst r.2.1) (pput fr o.dst r.1) r.2.2
            else tops tb G ops rest (kput kn o.dst false) (pput fr o.dst (.tup [])) σ
          else
            .ite c
              (if b then bind (topp tb G (d :: kn) (fr.set d (.bool true)) σ o) fun r => tops tb G ops rest (kput (d :: kn) o.dst r.2.1) (pput (fr.set d (.bool true)) o.dst r.1) r.2.2
              else tops tb G ops rest (kput (d :: kn) o.dst false) (pput (fr.set d (.bool true)) o.dst (.tup [])) σ)
              (if b then tops tb G ops rest (kput (d :: kn) o.dst false) (pput (fr.set d (.bool false)) o.dst (.tup [])) σ
              else bind (topp tb G (d :: kn) (fr.set d (.bool false)) σ o) fun r => tops tb G ops rest (kput (d :: kn) o.dst r.2.1) (pput (fr.set d (.bool false)) o.dst r.1) r.2.2)
        | some (.tup _) => tops tb G ops rest (kput kn o.dst false) (pput fr o.dst (.tup [])) σ
        | _ => .fail

theorem set_same {fr : List PV} {d : Nat} {x : PV} (h : fr[d]? = some x) : fr.set d x = fr := by
  apply List.ext_getElem?
  intro i
  rw [List.getElem?_set]
  split
  · rename_i e
    subst e
    split
    · exact h.symm
    · rename_i hl
      exact absurd (List.getElem?_eq_some_iff.1 h).1 hl
  · rfl

theorem tops_run {tb : Tab} {G : GamT} {ops : List Oper} : ∀ (l : List Oper) (kn : List Nat) (fr : List PV) (σ : Store) (kn' : List Nat) (fr' : List PV) (σ' : Store), run (tops tb G ops l kn fr σ) = some (kn', fr', σ') → pops tb (gam G) ops l fr σ = some (fr', σ') := by
  intro l
  induction l with
  | nil =>
    intro kn fr σ kn' fr' σ' h
    simp only [tops, run, Option.some.injEq, Prod.mk.injEq] at h
    obtain ⟨_, rfl, rfl⟩ := h
    rfl
  | cons o rest ih =>
    intro kn fr σ kn' fr' σ' h
    have yes : ∀ kn, pwanted ops fr o = some true → run (bind (topp tb G kn fr σ o) fun r => tops tb G ops rest (kput kn o.dst r.2.1) (pput fr o.dst r.1) r.2.2) = some (kn', fr', σ') → pops tb (gam G) ops (o :: rest) fr σ = some (fr', σ') := by
      intro kn hw h
      obtain ⟨⟨x, lt, σ1⟩, hx, h⟩ := bind_some h
      simp only [pops, hw, topp_run hx]
      exact ih _ _ _ _ _ _ h
    have no : ∀ kn, pwanted ops fr o = some false → run (tops tb G ops rest kn (pput fr o.dst (.tup [])) σ) = some (kn', fr', σ') → pops tb (gam G) ops (o :: rest) fr σ = some (fr', σ') := by
      intro kn hw h
      simp only [pops, hw]
      exact ih _ _ _ _ _ _ h
    simp only [tops] at h
    split at h
    · rename_i hg
      exact yes _ (by simp [pwanted, hg]) h
    · rename_i j b hg
      split at h
      · cases h
      · rename_i d hd
        split at h
        · rename_i c hc
          have hw : pwanted ops fr o = some (c == b) := by simp [pwanted, hg, hd, hc]
          split at h
          · split at h
            · rename_i hcb
              exact yes _ (by rw [hw, hcb]) h
            · rename_i hcb
              exact no _ (by rw [hw]; simpa using hcb) h
          · simp only [run] at h
            cases c with
            | true =>
              rw [set_same hc] at h
              simp only [cond_true] at h
              cases b with
              | true => exact yes _ hw h
              | false => exact no _ hw h
            | false =>
              rw [set_same hc] at h
              simp only [cond_false] at h
              cases b with
              | true => exact no _ hw h
              | false => exact yes _ hw h
        · rename_i cs hc
          exact no _ (by simp [pwanted, hg, hd, hc]) h
        · cases h

/-! ### code -/
abbrev LpsT := Nat → List PV → Store → Tr (PExit × List PV × Store)
def lps (L : LpsT) : Lps := fun r fr σ => run (L r fr σ)

def setIf (fr : List PV) (c : Operand) (b : Bool) : List PV := match c with
  | .tmp t => fr.set t (.bool b)
  | _ => fr
def knIf (kn : List Nat) (c : Operand) : List Nat := match c with
  | .tmp t => t :: kn
  | _ => kn

def texec (tb : Tab) (G : GamT) (L : LpsT) : Code → List Nat → List PV → Store → Tr (PExit × Fm)
  | .skip, kn, fr, σ => .ret (.normal, kn, fr, σ)
  | .label _, kn, fr, σ => .ret (.normal, kn, fr, σ)
  | .region _ ops _, kn, fr, σ => bind (tops tb G ops.toList ops.toList kn fr σ) fun m => .ret (.normal, m)
  | .seq a b, kn, fr, σ => bind (texec tb G L a kn fr σ) fun r => match r.1 with
    | .normal => texec tb G L b r.2.1 r.2.2.1 r.2.2.2
    | _ => .ret r
  | .cond c a b, kn, fr, σ => match ev fr c with
    | .bool t =>
      if litOf kn c then (if t then texec tb G L a kn fr σ else texec tb G L b kn fr σ)
      else .ite t (texec tb G L a (knIf kn c) (setIf fr c true) σ) (texec tb G L b (knIf kn c) (setIf fr c false) σ)
    | _ => .fail
  | .block id c, kn, fr, σ => bind (texec tb G L c kn fr σ) fun r => match r.1 with
    | .exit j => if j = id then .ret (.normal, r.2) else .ret r
    | _ => .ret r
  | .loop c, kn, fr, σ => bind (L (rid c) fr σ) fun r => .ret (r.1, [], r.2.1, r.2.2)
  | .exit id, kn, fr, σ => .ret (.exit id, kn, fr, σ)
  | .ret, kn, fr, σ => .ret (.ret, kn, fr, σ)
  | _, _, _, _ => .fail

theorem setIf_same {fr : List PV} {c : Operand} {b : Bool} (h : ev fr c = .bool b) : setIf fr c b = fr := by
  cases c with
  | tmp t =>
    simp only [setIf]
    apply set_same
    simp only [ev, List.getD_eq_getElem?_getD] at h
    cases hx : fr[t]? with
    | none => simp [hx] at h
    | some x => simp only [hx, Option.getD_some] at h; rw [h]
  | _ => rfl

theorem texec_run {tb : Tab} {G : GamT} {L : LpsT} : ∀ (c : Code) (kn : List Nat) (fr : List PV) (σ : Store) (e : PExit) (kn' : List Nat) (fr' : List PV) (σ' : Store), run (texec tb G L c kn fr σ) = some (e, kn', fr', σ') → pexec tb (gam G) (lps L) c fr σ = some (e, fr', σ') := by
  intro c
  induction c with
  | skip | label | exit | ret =>
    intro kn fr σ e kn' fr' σ' h
    simp only [texec, run, Option.some.injEq, Prod.mk.injEq] at h
    obtain ⟨rfl, _, rfl, rfl⟩ := h
    rfl
  | region id ops draw =>
    intro kn fr σ e kn' fr' σ' h
    obtain ⟨⟨kn1, fr1, σ1⟩, h1, h2⟩ := bind_some h
    simp only [run, Option.some.injEq, Prod.mk.injEq] at h2
    obtain ⟨rfl, _, rfl, rfl⟩ := h2
    simp only [pexec, tops_run _ _ _ _ _ _ _ h1]
  | seq a b iha ihb =>
    intro kn fr σ e kn' fr' σ' h
    obtain ⟨⟨e1, kn1, fr1, σ1⟩, h1, h2⟩ := bind_some h
    have := iha _ _ _ _ _ _ _ h1
    cases e1 with
    | normal =>
      simp only [pexec, this]
      exact ihb _ _ _ _ _ _ _ h2
    | exit j =>
      simp only [run, Option.some.injEq, Prod.mk.injEq] at h2
      obtain ⟨rfl, _, rfl, rfl⟩ := h2
      simp only [pexec, this]
    | ret =>
      simp only [run, Option.some.injEq, Prod.mk.injEq] at h2
      obtain ⟨rfl, _, rfl, rfl⟩ := h2
      simp only [pexec, this]
  | cond c a b iha ihb =>
    intro kn fr σ e kn' fr' σ' h
    simp only [texec] at h
    simp only [pexec]
    split at h
    · rename_i t ht
      simp only [ht]
      split at h
      · cases t with
        | true => exact iha _ _ _ _ _ _ _ h
        | false => exact ihb _ _ _ _ _ _ _ h
      · simp only [run] at h
        cases t with
        | true =>
          rw [setIf_same ht] at h
          exact iha _ _ _ _ _ _ _ h
        | false =>
          rw [setIf_same ht] at h
          exact ihb _ _ _ _ _ _ _ h
    · cases h
  | block id c ih =>
    intro kn fr σ e kn' fr' σ' h
    obtain ⟨⟨e1, kn1, fr1, σ1⟩, h1, h2⟩ := bind_some h
    have := ih _ _ _ _ _ _ _ h1
    simp only [pexec, this]
    cases e1 with
    | normal =>
      simp only [run, Option.some.injEq, Prod.mk.injEq] at h2
      obtain ⟨rfl, _, rfl, rfl⟩ := h2
      rfl
    | ret =>
      simp only [run, Option.some.injEq, Prod.mk.injEq] at h2
      obtain ⟨rfl, _, rfl, rfl⟩ := h2
      rfl
    | exit j =>
      simp only [] at h2 ⊢
      by_cases hj : j = id
      · rw [if_pos hj] at h2 ⊢
        simp only [run, Option.some.injEq, Prod.mk.injEq] at h2
        obtain ⟨rfl, _, rfl, rfl⟩ := h2
        rfl
      · rw [if_neg hj] at h2 ⊢
        simp only [run, Option.some.injEq, Prod.mk.injEq] at h2
        obtain ⟨rfl, _, rfl, rfl⟩ := h2
        rfl
  | loop c ih =>
    intro kn fr σ e kn' fr' σ' h
    obtain ⟨⟨e1, fr1, σ1⟩, h1, h2⟩ := bind_some h
    simp only [run, Option.some.injEq, Prod.mk.injEq] at h2
    obtain ⟨rfl, _, rfl, rfl⟩ := h2
    simp only [pexec, lps, h1]
  | scope | goto | refuse | rangeFunc => intro kn fr σ e kn' fr' σ' h; cases h

def tcall (tb : Tab) (G : GamT) (L : LpsT) (fn : Func) (args : List PV) : Tr PV :=
  match fn.body with
  | none => .fail
  | some c => bind (texec tb G L c [] (args ++ List.replicate (fn.ntmps - args.length) .top) ⟨[], [], []⟩) fun r => match r.1 with
    | .exit _ => .fail
    | _ => ofOpt ((presults tb r.2.2.1 r.2.2.2 fn.results.toList).map fun xs => pout (xs.map (oview r.2.2.2.objs)))

theorem tcall_run {tb : Tab} {G : GamT} {L : LpsT} {fn : Func} {args : List PV} {x : PV} (h : run (tcall tb G L fn args) = some x) : pcall tb (gam G) (lps L) fn args = some x := by
  unfold tcall at h
  unfold pcall
  cases hb : fn.body with
  | none => simp [hb, run] at h
  | some c =>
    simp only [hb] at h ⊢
    obtain ⟨⟨e1, kn1, fr1, σ1⟩, h1, h2⟩ := bind_some h
    rw [texec_run _ _ _ _ _ _ _ _ h1]
    cases e1 with
    | normal => simp only [run_ofOpt] at h2; exact h2
    | ret => simp only [run_ofOpt] at h2; exact h2
    | exit j => cases h2

def tcallS (tb : Tab) (G : GamT) (L : LpsT) (fn : Func) (args : List PV) (σ : Store) : Tr (PV × Store) :=
  match fn.body with
  | none => .fail
  | some c => bind (texec tb G L c [] (args ++ List.replicate (fn.ntmps - args.length) .top) σ) fun r => match r.1 with
    | .exit _ => .fail
    | _ => ofOpt ((presults tb r.2.2.1 r.2.2.2 fn.results.toList).map fun xs => (poutS xs, r.2.2.2))

theorem tcallS_run {tb : Tab} {G : GamT} {L : LpsT} {fn : Func} {args : List PV} {σ : Store} {x : PV × Store} (h : run (tcallS tb G L fn args σ) = some x) : pcallS tb (gam G) (lps L) fn args σ = some x := by
  unfold tcallS at h
  unfold pcallS
  cases hb : fn.body with
  | none => simp [hb, run] at h
  | some c =>
    simp only [hb] at h ⊢
    obtain ⟨⟨e1, kn1, fr1, σ1⟩, h1, h2⟩ := bind_some h
    rw [texec_run _ _ _ _ _ _ _ _ h1]
    cases e1 with
    | normal => simp only [run_ofOpt] at h2; exact h2
    | ret => simp only [run_ofOpt] at h2; exact h2
    | exit j => cases h2

/-! ### contracts, listed -/
def ofL (l : List (FuncId × ConT)) : GamT := fun f => (l.find? fun p => p.1 == f).map (·.2)

theorem gamOk_nil {P : Program} {gl : Nat → Option Obj} : GamOk P gl (gam (ofL [])) := by
  intro f F h
  simp [gam, ofL] at h

theorem gamOk_con {P : Program} {gl : Nat → Option Obj} {f : FuncId} {K : ConT} {l : List (FuncId × ConT)} (h : ConOk P gl f K.con) (hl : GamOk P gl (gam (ofL l))) : GamOk P gl (gam (ofL ((f, K) :: l))) := by
  intro g F' hg
  simp only [gam, ofL, List.find?_cons] at hg
  by_cases hfg : f = g
  · subst hfg
    simp at hg
    subst hg
    exact h
  · have : (f == g) = false := by simp [hfg]
    simp only [this] at hg
    exact hl g F' hg

theorem gamOk_cons {P : Program} {gl : Nat → Option Obj} {f : FuncId} {F : List PV → Tr PV} {l : List (FuncId × ConT)} (h : SimP P gl f fun args => Tr.run (F args)) (hl : GamOk P gl (gam (ofL l))) : GamOk P gl (gam (ofL ((f, .pure F) :: l))) := gamOk_con (K := .pure F) h hl

theorem gamOk_store {P : Program} {gl : Nat → Option Obj} {f : FuncId} {D : List PV → Store → Tr (PV × Store)} {l : List (FuncId × ConT)} (h : SimS P gl f fun args σ => Tr.run (D args σ)) (hl : GamOk P gl (gam (ofL l))) : GamOk P gl (gam (ofL ((f, .store D) :: l))) := gamOk_con (K := .store D) h hl

/-- A function's contract from its tree. -/
theorem SimP.of_tree {P : Program} {tb : Tab} {gl : Nat → Option Obj} {G : GamT} (hT : TabOk P tb) (hΓ : GamOk P gl (gam G)) (hm : P.follows .mixedOrders = true) {f : FuncId} {fn : Func} {c : Code} (hf : P.funcs[f]? = some fn) (hb : fn.body = some c) (hn : (fn.name == "runtime.NumGoroutine") = false)
    (hdr : drawsOk (gam G) c = true) {L : LpsT} (hL : LoopOk P gl (lps L) c) {F : List PV → Tr PV} (h : ∀ args x, Tr.run (F args) = some x → (∃ H w vs, RelL H w args vs) → Tr.run (tcall tb G L fn args) = some x) : SimP P gl f fun args => Tr.run (F args) :=
  SimP.of_pcall hT hΓ hm hf hb hn hdr fun args x hx hr => ⟨lps L, hL, tcall_run (h args x hx hr)⟩

/-- The contract of a function that writes through pointers, from its tree. -/
theorem SimS.of_tree {P : Program} {tb : Tab} {gl : Nat → Option Obj} {G : GamT} (hT : TabOk P tb) (hΓ : GamOk P gl (gam G)) (hm : P.follows .mixedOrders = true) {f : FuncId} {fn : Func} {c : Code} (hf : P.funcs[f]? = some fn) (hb : fn.body = some c) (hn : (fn.name == "runtime.NumGoroutine") = false)
    (hdr : drawsOk (gam G) c = true) {L : LpsT} (hL : LoopOk P gl (lps L) c) {D : List PV → Store → Tr (PV × Store)} (h : ∀ args σ x σ', Tr.run (D args σ) = some (x, σ') → (∃ H w vs, RelL H w args vs) → Tr.run (tcallS tb G L fn args σ) = some (x, σ')) : SimS P gl f fun args σ => Tr.run (D args σ) :=
  SimS.of_pcallS hT hΓ hm hf hb hn hdr fun args σ x σ' hx hr => ⟨lps L, hL, tcallS_run (h args σ x σ' hx hr)⟩

/-- Code does what its tree says. -/
theorem Does.of_tree {P : Program} {tb : Tab} {gl : Nat → Option Obj} {G : GamT} (hT : TabOk P tb) (hΓ : GamOk P gl (gam G)) (hm : P.follows .mixedOrders = true) {L : LpsT} {c : Code} {kn : List Nat} {fr : List PV} {σ : Store} {e : PExit} {kn' : List Nat} {fr' : List PV} {σ' : Store}
    (hL : LoopOk P gl (lps L) c) (hdr : drawsOk (gam G) c = true) (h : run (texec tb G L c kn fr σ) = some (e, kn', fr', σ')) : Does P gl c fr σ e fr' σ' :=
  exec_sound hT hΓ hm c _ _ _ _ _ hL hdr (texec_run _ _ _ _ _ _ _ _ h)
end Go.Pv
