/- Appends; what passes a call; then any operation. -/
import Derived.Test.YtdfahkeodlfopaaDoorPvOp5
import Derived.Lib.AppendStr
set_option linter.unusedSimpArgs false
set_option linter.unusedVariables false
namespace Go.Pv
open Go.RowKit

section
variable {P : Program} {tb : Tab} {gl : Nat → Option Obj} {H : Gh} {σ : Store} {w : World}

/-- The cells of a row, flat. -/
theorem row_cells {p : Option Addr} {k : Nat} {vss : List (List Value)} (hrow : RowAt H w p k vss) {a : Addr} (hp : p = some a) :
    ∀ (j : Nat) (v : Value), vss.flatten[j]? = some v → H.prot w (a.add j).block (a.add j).off ∧ w.cell? (a.add j) = some v := by
  have key : ∀ (vss : List (List Value)) (s : Nat), (∀ i vs, vss[i]? = some vs → vs.length = k ∧ CellsAt H w (a.add ((s + i) * k)) vs) →
      ∀ (j : Nat) (v : Value), vss.flatten[j]? = some v → H.prot w (a.add (s * k + j)).block (a.add (s * k + j)).off ∧ w.cell? (a.add (s * k + j)) = some v := by
    intro vss
    induction vss with
    | nil => intro s _ j v h; simp at h
    | cons x xs ih =>
      intro s h j v hj
      obtain ⟨hl, hc⟩ := h 0 x rfl
      rw [List.flatten_cons] at hj
      by_cases hjl : j < x.length
      · rw [List.getElem?_append_left hjl] at hj
        have := hc j v hj
        rwa [add_add, Nat.add_zero] at this
      · rw [List.getElem?_append_right (by omega)] at hj
        have := ih (s + 1) (fun i vs hi => by
          obtain ⟨h1, h2⟩ := h (i + 1) vs (by simpa using hi)
          exact ⟨h1, by rwa [show s + 1 + i = s + (i + 1) by omega]⟩) (j - x.length) v hj
        have e : (s + 1) * k + (j - x.length) = s * k + j := by rw [Nat.add_mul, Nat.one_mul]; omega
        rwa [e] at this
  intro j v hj
  have := key vss 0 (fun i vs hi => by
    obtain ⟨h1, a', ha', h2⟩ := hrow i vs hi
    rw [hp] at ha'
    injection ha' with ha'
    subst ha'
    exact ⟨h1, by rwa [Nat.zero_add]⟩) j v hj
  simpa using this

theorem flatten_len {vss : List (List Value)} {k : Nat} (h : ∀ vs ∈ vss, vs.length = k) : vss.flatten.length = vss.length * k := by
  induction vss with
  | nil => simp
  | cons x xs ih =>
    rw [List.flatten_cons, List.length_append, h x (by simp), ih (fun vs hvs => h vs (by simp [hvs])), List.length_cons, Nat.add_mul]
    omega

theorem row_of_block {b k : Nat} {vss : List (List Value)} (hk : ∀ vs ∈ vss, vs.length = k)
    (h : ∀ (j : Nat) (v : Value), vss.flatten[j]? = some v → H.prot w b j ∧ w.cell? ⟨b, j, none⟩ = some v) : RowAt H w (some ⟨b, 0, none⟩) k vss := by
  have key : ∀ (vss : List (List Value)) (s : Nat), (∀ vs ∈ vss, vs.length = k) → (∀ (j : Nat) (v : Value), vss.flatten[j]? = some v → H.prot w b (s * k + j) ∧ w.cell? ⟨b, s * k + j, none⟩ = some v) →
      ∀ i vs, vss[i]? = some vs → CellsAt H w ((⟨b, 0, none⟩ : Addr).add ((s + i) * k)) vs := by
    intro vss
    induction vss with
    | nil => intro s _ _ i vs h; simp at h
    | cons x xs ih =>
      intro s hk h i vs hi
      have hx := hk x (by simp)
      cases i with
      | zero =>
        simp at hi
        subst hi
        intro j v hj
        rw [add_add, add_plain, Nat.zero_add, Nat.add_zero]
        refine h j v ?_
        rw [List.flatten_cons, List.getElem?_append_left (List.getElem?_eq_some_iff.1 hj).1]
        exact hj
      | succ i =>
        have := ih (s + 1) (fun vs hvs => hk vs (by simp [hvs])) (fun j v hj => by
          have := h (x.length + j) v (by
            rw [List.flatten_cons, List.getElem?_append_right (by omega)]
            simpa using hj)
          have e : (s + 1) * k + j = s * k + (x.length + j) := by rw [Nat.add_mul, Nat.one_mul]; omega
          rwa [e]) i vs (by simpa using hi)
        rwa [show s + 1 + i = s + (i + 1) by omega] at this
  intro i vs hi
  refine ⟨hk vs (List.mem_of_getElem? hi), _, rfl, ?_⟩
  have := key vss 0 hk (fun j v hj => by simpa using h j v hj) i vs hi
  rwa [Nat.zero_add] at this

theorem relLL_ones {xs : List (List PV)} {vss : List (List Value)} {n : Nat} (h : RelLL H w xs vss) (ha : xs.all (fun y => y.length == n && y.all one) = true) :
    (∀ vs ∈ vss, vs.length = n) ∧ ∀ v ∈ vss.flatten, v.oneCell' = true := by
  have key : ∀ vs ∈ vss, vs.length = n ∧ ∀ v ∈ vs, v.oneCell' = true := by
    intro vs hvs
    obtain ⟨i, hi⟩ := List.mem_iff_getElem?.1 hvs
    obtain ⟨hl, hg⟩ := relLL_iff.1 h
    have hlt : i < xs.length := by rw [hl]; exact (List.getElem?_eq_some_iff.1 hi).1
    have h1 := hg i _ vs (List.getElem?_eq_getElem hlt) hi
    have h2 := List.all_eq_true.1 ha _ (List.getElem_mem hlt)
    simp at h2
    refine ⟨by have := h1.len; omega, ones_cell h1 (List.all_eq_true.2 h2.2)⟩
  refine ⟨fun vs hvs => (key vs hvs).1, fun v hv => ?_⟩
  obtain ⟨vs, hvs, hv⟩ := List.mem_flatten.1 hv
  exact (key vs hvs).2 v hv

theorem relLL_lens {xs : List (List PV)} {vss : List (List Value)} {n : Nat} (h : RelLL H w xs vss) (ha : xs.all (fun y => y.length == n) = true) : ∀ vs ∈ vss, vs.length = n := by
  intro vs hvs
  obtain ⟨i, hi⟩ := List.mem_iff_getElem?.1 hvs
  obtain ⟨hl, hg⟩ := relLL_iff.1 h
  have hlt : i < xs.length := by rw [hl]; exact (List.getElem?_eq_some_iff.1 hi).1
  have h1 := hg i _ vs (List.getElem?_eq_getElem hlt) hi
  have h2 := List.all_eq_true.1 ha _ (List.getElem_mem hlt)
  simp at h2
  have := h1.len
  omega

/-- What an append of u does: m elements, whose cells are news. -/
structure AppOk (P : Program) (w : World) (t t' ty e : TypeId) (i : TypeInfo) (z u : Value) (m : Nat) (news : List Value) : Prop where
  no0 : m = 0 → ∀ (p : Option Addr) (len cap : Nat), len ≤ cap → (Builtin.append_ #[t, t'] ty #[.slice p len cap, u]).run P w = .ok (.slice p len cap) w
  nil0 : 0 < m → (m : Int) ≤ 9223372036854775807 → m * i.bytes ≤ 140737488355328 → (Builtin.append_ #[t, t'] ty #[.slice none 0 0, u]).run P w =
    .ok (.slice (some ⟨w.heap.size, 0, none⟩) m (grownCap w m 0 e)) (w.drew.alloc (.cells (news.toArray ++ Builtin.zeroCells z.cells (grownCap w m 0 e - m)) e))
  grow : 0 < m → ∀ (b : Addr) (sLen sCap : Nat) (olds : List Value), olds.length = sLen * i.size → (∀ j v, olds[j]? = some v → w.cell? (b.add j) = some v) → sCap < sLen + m → ((sLen + m : Nat) : Int) ≤ 9223372036854775807 →
    Builtin.nextslicecap (sLen + m) sCap * i.bytes ≤ 281474976710656 → (Builtin.append_ #[t, t'] ty #[.slice (some b) sLen sCap, u]).run P w =
      .ok (.slice (some ⟨w.heap.size, 0, none⟩) (sLen + m) (grownCap w (sLen + m) sCap e)) (w.drew.alloc (.cells (olds.toArray ++ news.toArray ++ Builtin.zeroCells z.cells (grownCap w (sLen + m) sCap e - (sLen + m))) e))
  room : 0 < m → ∀ (g sLen sCap : Nat) (cur : Array Value), w.heap[g]? = some (.cells cur e (0, 0)) → (∀ u ∈ news, u.oneCell' = true) → sLen + m ≤ sCap → sLen * i.size + news.length ≤ cur.size →
    (Builtin.append_ #[t, t'] ty #[.slice (some ⟨g, 0, none⟩) sLen sCap, u]).run P w =
      .ok (.slice (some ⟨g, 0, none⟩) (sLen + m) sCap) (w.setRow g (cur.toList.take (sLen * i.size) ++ news ++ cur.toList.drop (sLen * i.size + news.length)).toArray)

/-- An append of elements. -/
theorem relLL_flatten : ∀ {xs : List (List PV)} {vs : List (List Value)}, RelLL H w xs vs → RelL H w xs.flatten vs.flatten
  | _, _, .nil => .nil
  | _, _, .cons x v xs vs h ht => by simp only [List.flatten_cons]; exact h.app (relLL_flatten ht)

theorem append_core (hT : TabOk P tb) (hok : Ok gl H σ w) {mo : Bool} {t t' ty : TypeId} {s : PV} {ys : List (List PV)} {tg : Tag} {r : PV} {σ' : Store} {v u : Value} (h : pappend tb mo t s (.sl ys tg) σ = some (r, σ')) (hs : Rel H w s v) {uss : List (List Value)} (hrel' : RelLL H w ys uss)
    (hA : ∀ e i z, P.underlying t = some (.slice e) → P.info? e = some i → i.zero = some z → (∀ us ∈ uss, us.length = i.size) → AppOk P w t t' ty e i z u ys.length uss.flatten) :
    ∃ z w', (Builtin.append_ #[t, t'] ty #[v, u]).run P w = .ok z w' ∧ Post gl H w r σ' z w' := by
  unfold pappend at h
  cases hK : tb t with
  | none => simp [hK] at h
  | some K =>
    have hkd := tk_kd hT hK
    simp only [hK, pnews] at h
    split at h
    · rename_i e xs tag ys' hk heq
      injection heq with heq
      subst heq
      have hu := kd_sl (hkd.trans hk)
      cases hE : tb e with
      | none => simp [hE] at h
      | some E =>
        simp only [hE] at h
        obtain ⟨i, z, hi, hz, hsz, hby, hzz, _⟩ := tk_info (hT _ _ hE)
        split at h
        · rename_i hcond
          obtain ⟨hbytes, hcount, hpos, hbpos, hzl, hall⟩ := hcond
          simp only [Bool.and_eq_true] at hall
          obtain ⟨hyall, hxall⟩ := hall
          cases hs with
          | sl p len cap k _ vss _ hl hcap hm hrel hrow htag =>
            · obtain ⟨m, hl'⟩ : ∃ m, ys.length = m := ⟨_, rfl⟩
              have hxl := relLL_lens hrel hxall
              obtain ⟨hyl, hyone⟩ := relLL_ones hrel' hyall
              have hA := hA e i z hu hi hz (by rw [hsz]; exact hyl)
              rw [hl'] at hA
              have hzcells : z.cells.size = E.size := by have := congrArg List.length hzz; simp at this; omega
              split at h
              · -- nothing is appended
                simp only [Option.some.injEq, Prod.mk.injEq] at h
                obtain ⟨rfl, rfl⟩ := h
                have hm0 : m = 0 := by simpa using hl'.symm
                subst hm0
                refine ⟨.slice p len cap, w, ?_, Post.same hok (.sl p len cap k xs vss tag hl hcap hm hrel hrow htag)⟩
                exact hA.no0 rfl p len cap hcap
              · rename_i hne
                have hmpos : 0 < m := by
                  rcases Nat.eq_zero_or_pos m with h0 | h0
                  · exact absurd (List.eq_nil_of_length_eq_zero (hl'.trans h0)) hne
                  · exact h0
                have hnl : uss.flatten.length = m * i.size := by rw [flatten_len hyl, ← hrel'.len, hl', hsz]
                have hol : vss.flatten.length = len * i.size := by rw [flatten_len hxl, ← hrel.len, hl, hsz]
                have hrelall : RelLL H w (xs ++ ys) (vss ++ uss) := hrel.app hrel'
                have hlens : ∀ vs ∈ vss ++ uss, vs.length = E.size := fun vs hvs => by
                  rcases List.mem_append.1 hvs with h1 | h1
                  · exact hxl vs h1
                  · exact hyl vs h1
                have hbytes' : (len + m) * i.bytes ≤ 140737488355328 := by rw [hby, ← hl, ← hl']; exact hbytes
                have hcount' : len + m ≤ 140737488355328 := by rw [← hl, ← hl']; exact hcount
                have h63 : ((len + m : Nat) : Int) ≤ 9223372036854775807 := by omega
                have hm63 : len + m ≤ maxLen := by unfold maxLen; omega
                -- a row of the call's own in a new block
                have grown : ∀ (old : Nat), old < len + m → ∀ (rest : Array Value), rest.size = (grownCap w (len + m) old e - (len + m)) * i.size →
                    (vss.flatten.toArray ++ uss.flatten.toArray ++ rest).size = grownCap w (len + m) old e * E.size := by
                  intro old ho rest hr
                  have hge := grownCap_ge w (len + m) old e
                  simp only [Array.size_append, List.size_toArray, hol, hnl, hr, ← Nat.add_mul, hsz]
                  congr 1
                  omega
                have hzc : ∀ n, (Builtin.zeroCells z.cells n).size = n * i.size := by
                  intro n
                  rw [size_zeroCells, hzcells, hsz]
                have cellsOf : ∀ (rest : Array Value) (j : Nat) (x : Value), (vss ++ uss).flatten[j]? = some x → (vss.flatten.toArray ++ uss.flatten.toArray ++ rest)[j]? = some x := by
                  intro rest j x hj
                  have hlt := (List.getElem?_eq_some_iff.1 hj).1
                  rw [List.flatten_append] at hj hlt
                  rw [← Array.getElem?_toList, Array.toList_append, Array.toList_append, List.getElem?_append_left hlt]
                  exact hj
                split at h
                · cases h
                · cases h
                · cases h
                · -- full: it must move
                  have hcl : len = cap := htag
                  subst hcl
                  have hrun : (Builtin.append_ #[t, t'] ty #[.slice p len len, u]).run P w =
                      .ok (.slice (some ⟨w.heap.size, 0, none⟩) (len + m) (grownCap w (len + m) len e)) (w.drew.alloc (.cells (vss.flatten.toArray ++ uss.flatten.toArray ++ Builtin.zeroCells z.cells (grownCap w (len + m) len e - (len + m))) e)) := by
                    cases p with
                    | none =>
                      have hv0 : vss = [] := by
                        cases vss with
                        | nil => rfl
                        | cons x xs => obtain ⟨_, a', ha', _⟩ := hrow 0 x rfl; cases ha'
                      subst hv0
                      have hl0 : len = 0 := by rw [← hl, hrel.len]; rfl
                      subst hl0
                      have := hA.nil0 hmpos (by omega) (by have hb := hbytes'; simp only [Nat.zero_add] at hb; omega)
                      simpa using this
                    | some b => exact hA.grow hmpos b len len vss.flatten hol (fun j x hj => (row_cells hrow rfl j x hj).2) (by omega) h63 (growslice_fits (by omega) hbytes')
                  have hokd := hok.of_below (below_drew0 w)
                  have hge := grownCap_ge w (len + m) len e
                  have hgm := grownCap_le_maxLen w (len + m) len e hm63
                  have hcs := grown len (by omega) _ (hzc _)
                  cases mo with
                  | true =>
                  simp only [if_true, Option.some.injEq, Prod.mk.injEq] at h
                  obtain ⟨rfl, rfl⟩ := h
                  have hblk : (w.drew.alloc (.cells (vss.flatten.toArray ++ uss.flatten.toArray ++ Builtin.zeroCells z.cells (grownCap w (len + m) len e - (len + m))) e)).heap[w.heap.size]? = some (.cells ((vss ++ uss).flatten ++ (Builtin.zeroCells z.cells (grownCap w (len + m) len e - (len + m))).toList).toArray e (0, 0)) := by
                    have h1 := heap_alloc_new w.drew (.cells (vss.flatten.toArray ++ uss.flatten.toArray ++ Builtin.zeroCells z.cells (grownCap w (len + m) len e - (len + m))) e)
                    have h2 : vss.flatten.toArray ++ uss.flatten.toArray ++ Builtin.zeroCells z.cells (grownCap w (len + m) len e - (len + m)) = ((vss ++ uss).flatten ++ (Builtin.zeroCells z.cells (grownCap w (len + m) len e - (len + m))).toList).toArray := by
                      apply Array.ext'
                      simp
                    rw [← h2]
                    exact h1
                  obtain ⟨hev, hok', hob⟩ := new_obj_at hok ((below_drew0 w).alloc (Nat.le_refl _) _) (fun _ => Nat.le_succ _) (Nat.le_refl _) (Tm := e + tyMark) (fun h => absurd h (Nat.not_lt.2 (Nat.le_add_left _ _))) hblk (relLL_flatten hrelall)
                  refine ⟨_, _, hrun, _, hev, hok', ?_⟩
                  have e1 : xs.length + ys.length = len + m := by omega
                  rw [e1]
                  exact .osl _ 0 0 (len + m) _ E.size w.heap.size hob (fun _ => rfl) hge hgm
                  | false =>
                  simp only [Bool.false_eq_true, if_false, Option.some.injEq, Prod.mk.injEq] at h
                  obtain ⟨rfl, rfl⟩ := h
                  obtain ⟨hev, hok', htk⟩ := new_tok (ver := len + m) (cap := grownCap w (len + m) len e) (k := E.size) (e := e) hokd hge hgm hcs
                  have hev' := (Ev.of_below hok.B (below_drew0 w) (fun _ => Nat.le_succ _)).trans hev
                  refine ⟨_, _, hrun, _, hev', ?_, ?_⟩
                  · have e1 : xs.length + ys.length = len + m := by omega
                    rw [e1]
                    exact hok'
                  · refine .sl _ _ _ E.size _ (vss ++ uss) _ (by simp; omega) hge hgm (hrelall.mono hev'.mono) (row_of_block hlens fun j x hj => ?_) ⟨_, htk, Nat.le_refl _, fun _ => ⟨rfl, rfl, rfl⟩⟩
                    have hlt : j < (len + m) * E.size := by
                      have h1 := (List.getElem?_eq_some_iff.1 hj).1
                      rw [List.flatten_append, List.length_append, hol, hnl, ← Nat.add_mul, hsz] at h1
                      exact h1
                    refine ⟨⟨by simp, fun hB => absurd hok.B (by have : w.heap.size < H.B := hB; omega), fun hm2 => absurd (hok.ob_at hm2).2 (Nat.lt_irrefl _), fun T hT hb => ?_⟩, ?_⟩
                    · rcases List.mem_append.1 hT with hT | hT
                      · have := (hok.tk_at hT).2
                        have hb' : T.blk = w.heap.size := hb
                        omega
                      · simp at hT
                        subst hT
                        exact hlt
                    · have hc := cellsOf (Builtin.zeroCells z.cells (grownCap w (len + m) len e - (len + m))) j x hj
                      have : (w.drew.alloc (.cells (vss.flatten.toArray ++ uss.flatten.toArray ++ Builtin.zeroCells z.cells (grownCap w (len + m) len e - (len + m))) e)).cell? ⟨w.drew.heap.size, j, none⟩ = _ := World.cell?_alloc_new _ _ _ _
                      exact this.trans hc
                · -- the newest state of an own row
                  rename_i ti
                  split at h
                  · rename_i v0 k0 e0 htok
                    split at h
                    · rename_i hver
                      obtain ⟨rfl, rfl, rfl⟩ := hver
                      simp only [Option.some.injEq, Prod.mk.injEq] at h
                      obtain ⟨rfl, rfl⟩ := h
                      obtain ⟨T, hT0, hle, hTv⟩ := htag
                      have hTs : (T.ver, T.k, T.e) = (xs.length, E.size, e0) := by
                        rw [← hok.tkl, List.getElem?_map, hT0] at htok
                        simpa using htok
                      simp only [Prod.mk.injEq] at hTs
                      obtain ⟨hTver, hTk, hTe⟩ := hTs
                      obtain ⟨rfl, hcapT, hkT⟩ := hTv (by omega)
                      obtain ⟨hBT, hTob, cur, fz, hcur, hvc', hcm, hcs⟩ := hok.tok ti T hT0
                      obtain ⟨rfl, hvc⟩ := hvc' (by omega)
                      rw [hTe] at hcur
                      have hTlen : T.ver = len := by omega
                      have holds : ∀ (j : Nat) (x : Value), vss.flatten[j]? = some x → w.cell? ((⟨T.blk, 0, none⟩ : Addr).add j) = some x := fun j x hj => (row_cells hrow rfl j x hj).2
                      by_cases hroom : len + m ≤ cap
                      · -- there is room
                        have hfit : len * i.size + uss.flatten.length ≤ cur.size := by
                          rw [hnl, hcs, ← Nat.add_mul, hsz, hTk, ← hcapT]
                          exact Nat.mul_le_mul_right _ hroom
                        have hrun := hA.room hmpos T.blk len cap cur hcur hyone hroom hfit
                        generalize hcur' : (cur.toList.take (len * i.size) ++ uss.flatten ++ cur.toList.drop (len * i.size + uss.flatten.length)).toArray = cur' at hrun
                        have hlen' : cur'.size = cap * E.size := by
                          rw [← hcur']
                          simp only [List.size_toArray, List.length_append, List.length_take, List.length_drop, Array.length_toList]
                          rw [hcs, hTk, ← hcapT] at hfit ⊢
                          omega
                        have hpre : ∀ off, off < len * E.size → cur'[off]? = cur[off]? := by
                          intro off hoff
                          rw [← hcur', List.getElem?_toArray, List.append_assoc, List.getElem?_append_left (by simp; rw [hsz]; rw [hsz] at hfit; omega), List.getElem?_take, if_pos (by rw [hsz]; exact hoff)]
                          simp
                        have hset := set_tok (T' := ⟨T.blk, len + m, cap, E.size, e0⟩) (w' := w.setRow T.blk cur') hok hT0 hTk.symm (by show T.ver < len + m; omega) hroom hm (.of_eq rfl) rfl rfl rfl (by rw [size_setRow]; exact Nat.le_refl _) (.inl rfl)
                          (fun k _ hk => setRow_other w T.blk k _ hk) (by rw [hTe]; exact hcur) (setRow_heap w T.blk cur cur' e0 _ hcur) hlen' (fun _ off hoff => hpre off (by rw [← hTlen, ← hTk]; exact hoff))
                        obtain ⟨hev, hok'⟩ := hset
                        refine ⟨_, _, hrun, _, hev, ?_, ?_⟩
                        · have e1 : xs.length + ys.length = len + m := by omega
                          rw [e1]
                          exact hok'
                        · refine .sl _ _ _ E.size _ (vss ++ uss) _ (by simp; omega) hroom hm (hrelall.mono hev.mono) (row_of_block hlens fun j x hj => ?_) ⟨_, List.getElem?_set_self (List.getElem?_eq_some_iff.1 hT0).1, Nat.le_refl _, fun _ => ⟨rfl, rfl, rfl⟩⟩
                          have hlt : j < (len + m) * E.size := by
                            have h1 := (List.getElem?_eq_some_iff.1 hj).1
                            rw [List.flatten_append, List.length_append, hol, hnl, ← Nat.add_mul, hsz] at h1
                            exact h1
                          have hcell : cur'[j]? = some x := by
                            rw [List.flatten_append] at hj
                            by_cases hjl : j < len * E.size
                            · rw [hpre j hjl]
                              have h1 := holds j x (by rwa [List.getElem?_append_left (by rw [hol, hsz]; exact hjl)] at hj)
                              rw [add_plain, Nat.zero_add, cell_of_row w T.blk j cur e0 (0, 0) hcur] at h1
                              exact h1
                            · rw [List.getElem?_append_right (by rw [hol, hsz]; omega)] at hj
                              have hl2 : (cur.toList.take (len * i.size)).length = len * i.size := by simp; omega
                              rw [← hcur', List.getElem?_toArray, List.append_assoc, List.getElem?_append_right (by rw [hl2, hsz]; omega), hl2]
                              rw [hol] at hj
                              rw [List.getElem?_append_left (List.getElem?_eq_some_iff.1 hj).1]
                              exact hj
                          have hblt := lt_of_heap hcur
                          refine ⟨⟨by rw [size_setRow]; exact hblt, fun hB => absurd hBT (by have : T.blk < H.B := hB; omega), hTob, fun U hU hb => ?_⟩, ?_⟩
                          · obtain ⟨u, hu'⟩ := List.mem_iff_getElem?.1 hU
                            by_cases hut : u = ti
                            · subst hut
                              rw [List.getElem?_set_self (List.getElem?_eq_some_iff.1 hT0).1] at hu'
                              injection hu' with hu'
                              subst hu'
                              exact hlt
                            · rw [List.getElem?_set_ne (fun e => hut e.symm)] at hu'
                              exact absurd (hok.tnd u ti U T hu' hT0 hb) hut
                          · rw [cell_of_row _ T.blk j cur' e0 (0, 0) (setRow_heap w T.blk cur cur' e0 _ hcur)]
                            exact hcell
                      · -- it must move
                        have hrun := hA.grow hmpos ⟨T.blk, 0, none⟩ len cap vss.flatten hol holds (by omega) h63 (growslice_fits (by omega) hbytes')
                        have hge := grownCap_ge w (len + m) cap e0
                        have hgm := grownCap_le_maxLen w (len + m) cap e0 hm63
                        have hcs' := grown cap (by omega) _ (hzc _)
                        generalize hcur' : (vss.flatten.toArray ++ uss.flatten.toArray ++ Builtin.zeroCells z.cells (grownCap w (len + m) cap e0 - (len + m))) = cur' at hrun hcs'
                        have hnewb : (w.drew.alloc (.cells cur' e0)).heap[w.heap.size]? = some (.cells cur' e0 (0, 0)) := heap_alloc_new w.drew _
                        have hset := set_tok (T' := ⟨w.heap.size, len + m, grownCap w (len + m) cap e0, E.size, e0⟩) (w' := w.drew.alloc (.cells cur' e0)) hok hT0 hTk.symm (by show T.ver < len + m; omega) hge hgm (fun _ => Nat.le_succ _) rfl rfl rfl (by simp) (.inr (Nat.le_refl _))
                          (fun k hk _ => by rw [heap_alloc_old (w := w.drew) (h := hk)]; rfl) (by rw [hTe]; exact hcur) hnewb hcs' (fun hb off _ => by have : w.heap.size = T.blk := hb; have := lt_of_heap hcur; omega)
                        obtain ⟨hev, hok'⟩ := hset
                        refine ⟨_, _, hrun, _, hev, ?_, ?_⟩
                        · have e1 : xs.length + ys.length = len + m := by omega
                          rw [e1]
                          exact hok'
                        · refine .sl _ _ _ E.size _ (vss ++ uss) _ (by simp; omega) hge hgm (hrelall.mono hev.mono) (row_of_block hlens fun j x hj => ?_) ⟨_, List.getElem?_set_self (List.getElem?_eq_some_iff.1 hT0).1, Nat.le_refl _, fun _ => ⟨rfl, rfl, rfl⟩⟩
                          have hlt : j < (len + m) * E.size := by
                            have h1 := (List.getElem?_eq_some_iff.1 hj).1
                            rw [List.flatten_append, List.length_append, hol, hnl, ← Nat.add_mul, hsz] at h1
                            exact h1
                          refine ⟨⟨by simp, fun hB => absurd hok.B (by have : w.heap.size < H.B := hB; omega), fun hm2 => absurd (hok.ob_at hm2).2 (Nat.lt_irrefl _), fun U hU hb => ?_⟩, ?_⟩
                          · obtain ⟨u, hu'⟩ := List.mem_iff_getElem?.1 hU
                            by_cases hut : u = ti
                            · subst hut
                              rw [List.getElem?_set_self (List.getElem?_eq_some_iff.1 hT0).1] at hu'
                              injection hu' with hu'
                              subst hu'
                              exact hlt
                            · rw [List.getElem?_set_ne (fun e => hut e.symm)] at hu'
                              have := (hok.tk_at (List.mem_of_getElem? hu')).2
                              have hb' : U.blk = w.heap.size := hb
                              omega
                          · rw [cell_of_row _ w.heap.size j cur' e0 (0, 0) hnewb, ← hcur']
                            exact cellsOf _ j x hj
                    · cases h
                  · cases h
        · cases h
    · cases h

/-- An append of a slice's elements. -/
theorem append_run (hT : TabOk P tb) (hok : Ok gl H σ w) {mo : Bool} {t ty : TypeId} {s : PV} {ys : List (List PV)} {tg : Tag} {r : PV} {σ' : Store} {v u : Value} (h : pappend tb mo t s (.sl ys tg) σ = some (r, σ')) (hs : Rel H w s v) (hx : Rel H w (.sl ys tg) u) :
    ∃ z w', (Builtin.append_ #[t, t] ty #[v, u]).run P w = .ok z w' ∧ Post gl H w r σ' z w' := by
  cases hx with
  | sl q m c k _ uss _ hl hcm hm hrel hrow htag =>
    refine append_core (tg := tg) hT hok h hs hrel ?_
    intro e i z hu hi hz hyl
    rw [hl]
    have hnl : uss.flatten.length = m * i.size := by rw [flatten_len hyl, ← hrel.len, hl]
    have hq : 0 < m → ∃ a, q = some a := by
      intro hmpos
      have hlt : 0 < uss.length := by rw [← hrel.len, hl]; exact hmpos
      obtain ⟨_, a, ha, _⟩ := hrow 0 uss[0] (List.getElem?_eq_getElem hlt)
      exact ⟨a, ha⟩
    refine ⟨fun h0 p len cap hcap => ?_, fun hmpos h1 h2 => ?_, fun hmpos b sLen sCap olds ho hc hg h63 hfit => ?_, fun hmpos g sLen sCap cur hcur h1 hroom hfit => ?_⟩
    · subst h0
      have hf : (Builtin.firstCells i.size 0 (.slice q 0 c)).run P w = .ok #[] w := by
        cases q <;> simp [Builtin.firstCells, loadCells, loadCellsFrom]
      cases p <;> simp [Builtin.append_, run_underlying hu, sizeOf, typeInfo, hi, Builtin.lenOf, hf, hcap, storeCells]
    · obtain ⟨a, rfl⟩ := hq hmpos
      exact run_append_nil (P := P) w t ty e i z hu hi hz a m c uss.flatten hnl (fun j x hj => (row_cells hrow rfl j x hj).2) hmpos h1 (by omega)
    · obtain ⟨a, rfl⟩ := hq hmpos
      exact run_append_grow (P := P) w t ty e i z hu hi hz b sLen sCap olds ho hc a m c uss.flatten hnl (fun j x hj => (row_cells hrow rfl j x hj).2) hg h63 hfit
    · obtain ⟨a, rfl⟩ := hq hmpos
      exact run_append_room (P := P) w t ty e i hu hi g sLen sCap cur hcur a m c uss.flatten hnl (fun j x hj => (row_cells hrow rfl j x hj).2) h1 hroom hfit

theorem rel_bytes : ∀ (l : List UInt8), RelLL H w (l.map fun b => [PV.int .u8 (b.toNat : Int)]) (l.map fun b => [Value.int .u8 (b.toNat : Int)])
  | [] => .nil
  | b :: l => by
    refine .cons _ _ _ _ (.cons _ _ _ _ (.int _ _ ?_) .nil) (rel_bytes l)
    have := b.toNat_lt
    simp [Lit.wf, IntKind.min, IntKind.max, IntKind.signed, IntKind.bits]
    omega

theorem flat_bytes : ∀ (l : List UInt8), (l.map fun b => [Value.int .u8 (b.toNat : Int)]).flatten = Lib.strCells ⟨l.toArray⟩
  | [] => rfl
  | b :: l => by
    have := flat_bytes l
    simp only [Lib.strCells] at this ⊢
    simp at this ⊢
    exact this

/-- An append of a text's bytes. -/
theorem append_str_run (hT : TabOk P tb) (hok : Ok gl H σ w) {mo : Bool} {t t' ty : TypeId} (hu' : P.underlying t' = some .string) {s : PV} {l : List UInt8} {r : PV} {σ' : Store} {v : Value} (h : pappend tb mo t s (.str l) σ = some (r, σ')) (hs : Rel H w s v) :
    ∃ z w', (Builtin.append_ #[t, t'] ty #[v, .string ⟨l.toArray⟩]).run P w = .ok z w' ∧ Post gl H w r σ' z w' := by
  have h : pappend tb mo t s (.sl (l.map fun b => [.int .u8 b.toNat]) .non) σ = some (r, σ') := h
  have hrel := rel_bytes (H := H) (w := w) l
  have hsz : (ByteArray.mk l.toArray).size = l.length := by simp [ByteArray.size]
  have hfl := flat_bytes l
  refine append_core hT hok h hs hrel ?_
  intro e i z hu hi hz hyl
  rw [List.length_map, hfl]
  have hs1 : 0 < l.length → i.size = 1 := by
    intro hl
    cases l with
    | nil => simp at hl
    | cons b l =>
      have := hyl [Value.int .u8 (b.toNat : Int)] (by simp)
      simpa using this.symm
  refine ⟨fun h0 p len cap hcap => ?_, fun hmpos h1 h2 => ?_, fun hmpos b sLen sCap olds ho hc hg h63 hfit => ?_, fun hmpos g sLen sCap cur hcur h1 hroom hfit => ?_⟩
  · have : l = [] := List.length_eq_zero_iff.1 h0
    subst this
    cases p <;> simp [Builtin.append_, run_underlying hu, run_underlying hu', sizeOf, typeInfo, hi, Builtin.lenOf, hcap, storeCells, Builtin.firstCells, ByteArray.size]
  · have := run_append_nil_string (P := P) w t t' ty e i z hu hu' hi hz ⟨l.toArray⟩ (by rw [hsz]; exact hmpos) (by rw [hsz]; exact h1) (by rw [hsz]; omega)
    rw [hsz] at this
    rw [this]
    congr 3
    simp [Lib.strCells]
  · have := Lib.run_append_grow_string (P := P) w t t' ty e i z hu hu' hi hz b sLen sCap olds ho hc ⟨l.toArray⟩ (by rw [hsz]; exact hg) (by rw [hsz]; exact h63) (by rw [hsz]; exact hfit)
    rw [hsz] at this
    exact this
  · have := Lib.run_append_room_string (P := P) w t t' ty e i hu hu' hi (hs1 hmpos) g sLen sCap cur hcur ⟨l.toArray⟩ (by rw [hsz]; exact hroom) (by rw [hsz]; rw [hs1 hmpos, Lib.strCells_length, hsz] at hfit; omega)
    rw [hsz] at this
    rw [hs1 hmpos, Lib.strCells_length, hsz, Nat.mul_one]
    exact this
end
end Go.Pv
