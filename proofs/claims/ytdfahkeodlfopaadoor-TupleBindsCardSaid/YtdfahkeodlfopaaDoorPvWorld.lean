/- What the operations do to memory, told by the ghost: a new object, a store, a new row, an append. -/
import Derived.Test.YtdfahkeodlfopaaDoorPvRel
import Derived.Laws.AppendOwn
set_option linter.unusedSimpArgs false
set_option linter.unusedVariables false
namespace Go.Pv
open Go.RowKit

/-- What is told of objects and own rows holds; 'gl': blocks that are as they were when all began (the package's variables). -/
structure Ok (gl : Nat → Option Obj) (H : Gh) (σ : Store) (w : World) : Prop where
  B : H.B ≤ w.heap.size
  gl : ∀ (b : Nat) (o : Obj), gl b = some o → b < H.B ∧ w.heap[b]? = some o
  len : H.ob.length = σ.objs.length
  obj : ∀ (id b : Nat) (cs : List PV), H.ob[id]? = some b → σ.objs[id]? = some cs → H.B ≤ b ∧ ∃ vs ext T, w.heap[b]? = some (.cells (vs ++ ext).toArray T (0, 0)) ∧ RelL H w cs vs
  nd : ∀ (i j b : Nat), H.ob[i]? = some b → H.ob[j]? = some b → i = j
  tkl : H.tk.map (fun T => (T.ver, T.k, T.e)) = σ.toks
  tok : ∀ (t : Nat) (T : Tok), H.tk[t]? = some T → H.B ≤ T.blk ∧ T.blk ∉ H.ob ∧ ∃ cur fz, w.heap[T.blk]? = some (.cells cur T.e fz) ∧ (T.ver ≤ maxLen → fz = (0, 0) ∧ T.ver ≤ T.cap) ∧ T.cap ≤ maxLen ∧ cur.size = T.cap * T.k
  tnd : ∀ (t u : Nat) (T U : Tok), H.tk[t]? = some T → H.tk[u]? = some U → T.blk = U.blk → t = u
  tyl : σ.tys.length = σ.objs.length
  ty : ∀ (id b : Nat) (T : TypeId) (cs : List PV), H.ob[id]? = some b → σ.tys[id]? = some T → σ.objs[id]? = some cs → T < tyMark → ∃ us, w.heap[b]? = some (.cells us T (0, 0)) ∧ us.size = cs.length

section
variable {gl : Nat → Option Obj} {H : Gh} {σ : Store} {w w' : World}

theorem lt_of_heap {w : World} {b : Nat} {o : Obj} (h : w.heap[b]? = some o) : b < w.heap.size := (Array.getElem?_eq_some_iff.1 h).1

theorem Ok.ob_at (h : Ok gl H σ w) {b : Nat} (hb : b ∈ H.ob) : H.B ≤ b ∧ b < w.heap.size := by
  obtain ⟨i, hi⟩ := List.mem_iff_getElem?.1 hb
  have hl : i < σ.objs.length := by rw [← h.len]; exact (List.getElem?_eq_some_iff.1 hi).1
  obtain ⟨hB, vs, ext, T, he, _⟩ := h.obj i b _ hi (List.getElem?_eq_getElem hl)
  exact ⟨hB, lt_of_heap he⟩

theorem Ok.tk_at (h : Ok gl H σ w) {T : Tok} (hT : T ∈ H.tk) : H.B ≤ T.blk ∧ T.blk < w.heap.size := by
  obtain ⟨i, hi⟩ := List.mem_iff_getElem?.1 hT
  obtain ⟨hB, _, cur, fz, he, _⟩ := h.tok i T hi
  exact ⟨hB, lt_of_heap he⟩

/-- All that was there is as it was. -/
theorem Ev.of_below {gl : Nat → Option Obj} (hB : H.B ≤ w.heap.size) (hb : Below w.heap.size w w') (hd : Dr gl w w') : Ev gl H w H w' where
  B := rfl
  base := rfl
  aux := rfl
  os := hb.os
  tape := hb.tape
  output := hb.output
  size := hb.size
  ob := fun _ _ h => h
  tok := fun _ T h => ⟨T, h, Nat.le_refl _, fun _ => rfl⟩
  prot := fun b off h => ⟨⟨Nat.lt_of_lt_of_le h.1 hb.size, h.2⟩, fun s => hb.cell (p := ⟨b, off, s⟩) h.1⟩
  block := fun b h => hb.block b (Nat.lt_of_lt_of_le h hB)
  dr := hd
theorem Mono.of_below (hB : H.B ≤ w.heap.size) (hb : Below w.heap.size w w') : Mono H w H w' := (Ev.of_below (gl := fun _ => some default) hB hb (fun h => by cases h 0)).mono

theorem Ok.of_below (h : Ok gl H σ w) (hb : Below w.heap.size w w') : Ok gl H σ w' where
  B := Nat.le_trans h.B hb.size
  gl := fun b o e => ⟨(h.gl b o e).1, (hb.block b (lt_of_heap (h.gl b o e).2)).trans (h.gl b o e).2⟩
  len := h.len
  obj := fun id b cs e1 e2 => by
    obtain ⟨hB, vs, ext, T, he, hr⟩ := h.obj id b cs e1 e2
    exact ⟨hB, vs, ext, T, (hb.block b (lt_of_heap he)).trans he, hr.mono (Mono.of_below h.B hb)⟩
  nd := h.nd
  tkl := h.tkl
  tok := fun t T e => by
    obtain ⟨hB, ho, cur, fz, he, hr⟩ := h.tok t T e
    exact ⟨hB, ho, cur, fz, (hb.block _ (lt_of_heap he)).trans he, hr⟩
  tnd := h.tnd
  tyl := h.tyl
  ty := fun id b T cs e1 e2 e3 hT => by
    obtain ⟨us, he, hs⟩ := h.ty id b T cs e1 e2 e3 hT
    exact ⟨us, (hb.block b (lt_of_heap he)).trans he, hs⟩

theorem below_drew0 (w : World) : Below w.heap.size w w.drew := (Below.refl _ _).drew
theorem below_alloc0 (w : World) (o : Obj) : Below w.heap.size w (w.alloc o) := (Below.refl _ _).alloc (Nat.le_refl _) o

/-- A new object, wherever above it has come to lie; behind it may lie cells that nobody knows. -/
theorem new_obj_at (h : Ok gl H σ w) {b0 : Nat} (hb : Below w.heap.size w w') (hd : Dr gl w w') (hn : w.heap.size ≤ b0) {cs : List PV} {vs ext : List Value} {T : TypeId} {Tm : TypeId} (hTm : Tm < tyMark → Tm = T ∧ ext = []) (he0 : w'.heap[b0]? = some (.cells (vs ++ ext).toArray T (0, 0))) (hr : RelL H w cs vs) :
    Ev gl H w { H with ob := H.ob ++ [b0] } w' ∧ Ok gl { H with ob := H.ob ++ [b0] } { σ with objs := σ.objs ++ [cs], tys := σ.tys ++ [Tm] } w' ∧
      ({ H with ob := H.ob ++ [b0] } : Gh).ob[σ.objs.length]? = some b0 := by
  have hnew : b0 ∉ H.ob := fun hm => by have := (h.ob_at hm).2; omega
  have e : Ev gl H w { H with ob := H.ob ++ [b0] } w' := by
    refine ⟨rfl, rfl, rfl, hb.os, hb.tape, hb.output, hb.size, fun id b hid => ?_, fun _ T h => ⟨T, h, Nat.le_refl _, fun _ => rfl⟩, fun b off hp => ?_, fun b hlt => hb.block b (Nat.lt_of_lt_of_le hlt h.B), hd⟩
    · show (H.ob ++ [b0])[id]? = some b
      rw [List.getElem?_append_left (List.getElem?_eq_some_iff.1 hid).1]
      exact hid
    · refine ⟨⟨Nat.lt_of_lt_of_le hp.1 hb.size, hp.2.1, fun hm => ?_, hp.2.2.2⟩, fun s => hb.cell (p := ⟨b, off, s⟩) hp.1⟩
      rcases List.mem_append.1 hm with hm | hm
      · exact hp.2.2.1 hm
      · simp at hm
        have := hp.1
        omega
  have hlast : (H.ob ++ [b0])[σ.objs.length]? = some b0 := by
    rw [← h.len, List.getElem?_append_right (Nat.le_refl _)]
    simp
  have case : ∀ (k b : Nat), (H.ob ++ [b0])[k]? = some b → (H.ob[k]? = some b) ∨ (k = H.ob.length ∧ b = b0) := by
    intro k b hk
    by_cases hkl : k < H.ob.length
    · rw [List.getElem?_append_left hkl] at hk
      exact .inl hk
    · have hlt : k < (H.ob ++ [b0]).length := (List.getElem?_eq_some_iff.1 hk).1
      have : k = H.ob.length := by simp at hlt; omega
      subst this
      rw [List.getElem?_append_right (Nat.le_refl _)] at hk
      simp at hk
      exact .inr ⟨rfl, hk.symm⟩
  refine ⟨e, ⟨Nat.le_trans h.B hb.size, fun b o eg => ⟨(h.gl b o eg).1, (hb.block b (lt_of_heap (h.gl b o eg).2)).trans (h.gl b o eg).2⟩, by simp [h.len], fun id b cs' e1 e2 => ?_, fun i j b hi hj => ?_, h.tkl, fun t T' ht => ?_, h.tnd, by simp [h.tyl], fun k b T' cs1 hk ht hc hTT => ?_⟩, hlast⟩
  · rcases case id b e1 with e1' | ⟨rfl, rfl⟩
    · have hid : id < H.ob.length := (List.getElem?_eq_some_iff.1 e1').1
      have e2' : (σ.objs ++ [cs])[id]? = some cs' := e2
      rw [List.getElem?_append_left (by rw [← h.len]; exact hid)] at e2'
      obtain ⟨hB, vs', ext', T', he, hr'⟩ := h.obj id b cs' e1' e2'
      exact ⟨hB, vs', ext', T', (hb.block b (lt_of_heap he)).trans he, hr'.mono e.mono⟩
    · have e2' : (σ.objs ++ [cs])[H.ob.length]? = some cs' := e2
      rw [h.len, List.getElem?_append_right (Nat.le_refl _)] at e2'
      simp at e2'
      subst e2'
      exact ⟨Nat.le_trans h.B hn, vs, ext, T, he0, hr.mono e.mono⟩
  · rcases case i b hi with h1 | ⟨h1, h1'⟩ <;> rcases case j b hj with h2 | ⟨h2, h2'⟩
    · exact h.nd i j b h1 h2
    · exact absurd (List.mem_of_getElem? h1) (h2' ▸ hnew)
    · exact absurd (List.mem_of_getElem? h2) (h1' ▸ hnew)
    · rw [h1, h2]
  · obtain ⟨hB, ho, cur, fz, he, hr'⟩ := h.tok t T' ht
    refine ⟨hB, fun hm => ?_, cur, fz, (hb.block _ (lt_of_heap he)).trans he, hr'⟩
    rcases List.mem_append.1 hm with hm | hm
    · exact ho hm
    · simp at hm
      have := lt_of_heap he
      omega
  · rcases case k b hk with hk' | ⟨rfl, rfl⟩
    · have hkl : k < H.ob.length := (List.getElem?_eq_some_iff.1 hk').1
      have ht' : (σ.tys ++ [Tm])[k]? = some T' := ht
      rw [List.getElem?_append_left (by rw [h.tyl, ← h.len]; exact hkl)] at ht'
      have hc' : (σ.objs ++ [cs])[k]? = some cs1 := hc
      rw [List.getElem?_append_left (by rw [← h.len]; exact hkl)] at hc'
      obtain ⟨us, he, hs⟩ := h.ty k b T' cs1 hk' ht' hc' hTT
      exact ⟨us, (hb.block b (lt_of_heap he)).trans he, hs⟩
    · have ht' : (σ.tys ++ [Tm])[H.ob.length]? = some T' := ht
      rw [h.len, ← h.tyl, List.getElem?_append_right (Nat.le_refl _)] at ht'
      simp at ht'
      subst ht'
      have hc' : (σ.objs ++ [cs])[H.ob.length]? = some cs1 := hc
      rw [h.len, List.getElem?_append_right (Nat.le_refl _)] at hc'
      simp at hc'
      subst hc'
      obtain ⟨rfl, rfl⟩ := hTm hTT
      exact ⟨_, he0, by simp [hr.len]⟩

theorem get_app {α : Type} {l e : List α} {i : Nat} {v : α} (h : l[i]? = some v) : (l ++ e)[i]? = some v := by
  rw [List.getElem?_append_left (List.getElem?_eq_some_iff.1 h).1]
  exact h

/-- A new object. -/
theorem new_obj (h : Ok gl H σ w) {cs : List PV} {vs : List Value} (hr : RelL H w cs vs) (T : TypeId) :
    Ev gl H w { H with ob := H.ob ++ [w.heap.size] } (w.alloc (.cells vs.toArray T)) ∧ Ok gl { H with ob := H.ob ++ [w.heap.size] } { σ with objs := σ.objs ++ [cs], tys := σ.tys ++ [T] } (w.alloc (.cells vs.toArray T)) ∧
      ({ H with ob := H.ob ++ [w.heap.size] } : Gh).ob[σ.objs.length]? = some w.heap.size :=
  new_obj_at h (below_alloc0 w _) (.of_eq rfl) (Nat.le_refl _) (vs := vs) (ext := []) (fun _ => ⟨rfl, rfl⟩) (by rw [List.append_nil]; exact heap_alloc_new w _) hr

/-- A store into an object. -/
theorem set_obj (h : Ok gl H σ w) {id b : Nat} {vs vs' ext : List Value} {T : TypeId} {cs' : List PV} (hid : H.ob[id]? = some b) (hh : w.heap[b]? = some (.cells (vs ++ ext).toArray T (0, 0))) (hr : RelL H w cs' vs') (hkeep : ∀ c0, σ.objs[id]? = some c0 → c0.length = vs.length ∧ cs'.length = c0.length) :
    Ev gl H w H (w.setRow b (vs' ++ ext).toArray) ∧ Ok gl H { σ with objs := σ.objs.set id cs' } (w.setRow b (vs' ++ ext).toArray) := by
  have hmem : b ∈ H.ob := List.mem_of_getElem? hid
  have hother : ∀ k, k ≠ b → (w.setRow b (vs' ++ ext).toArray).heap[k]? = w.heap[k]? := fun k hk => setRow_other w b k _ hk
  have hsize : (w.setRow b (vs' ++ ext).toArray).heap.size = w.heap.size := size_setRow w b _
  have hBb := (h.ob_at hmem).1
  have e : Ev gl H w H (w.setRow b (vs' ++ ext).toArray) := by
    refine ⟨rfl, rfl, rfl, rfl, rfl, rfl, by rw [hsize]; exact Nat.le_refl _, fun _ _ h => h, fun _ T h => ⟨T, h, Nat.le_refl _, fun _ => rfl⟩, fun b' off hp => ?_, fun b' hlt => hother b' (fun e => by omega), .of_eq rfl⟩
    have hne : b' ≠ b := fun e => hp.2.2.1 (e ▸ hmem)
    exact ⟨⟨by rw [hsize]; exact hp.1, hp.2⟩, fun s => World.cell?_of_block (a := ⟨b', off, s⟩) (hother b' hne)⟩
  refine ⟨e, ⟨by rw [hsize]; exact h.B, fun b' o eg => ⟨(h.gl b' o eg).1, (hother b' (fun e => by have := (h.gl b' o eg).1; omega)).trans (h.gl b' o eg).2⟩, by simp [h.len], fun i b' cs e1 e2 => ?_, h.nd, h.tkl, fun t T' ht => ?_, h.tnd, by simp [h.tyl], fun i b' T' c1 e1 e2 e3 hTT => ?_⟩⟩
  · by_cases hi : i = id
    · subst hi
      have : b' = b := by rw [hid] at e1; exact (Option.some.inj e1).symm
      subst this
      have hl : i < σ.objs.length := by have := (List.getElem?_eq_some_iff.1 e2).1; simpa using this
      have : cs = cs' := by
        have e2' : (σ.objs.set i cs')[i]? = some cs := e2
        rw [List.getElem?_set_self hl] at e2'
        exact (Option.some.inj e2').symm
      subst this
      exact ⟨hBb, vs', ext, T, setRow_heap w b' (vs ++ ext).toArray _ T _ hh, hr.mono e.mono⟩
    · have e2' : (σ.objs.set id cs')[i]? = some cs := e2
      rw [List.getElem?_set_ne (fun e => hi e.symm)] at e2'
      obtain ⟨hB, vs0, ext0, T0, he, hr0⟩ := h.obj i b' cs e1 e2'
      have hne : b' ≠ b := fun hb => hi (h.nd i id b' e1 (hb ▸ hid))
      exact ⟨hB, vs0, ext0, T0, (hother b' hne).trans he, hr0.mono e.mono⟩
  · obtain ⟨hB, ho, cur, fz, he, hr'⟩ := h.tok t T' ht
    exact ⟨hB, ho, cur, fz, (hother _ (fun e => ho (by rw [e]; exact hmem))).trans he, hr'⟩
  · by_cases hi : i = id
    · subst hi
      have hbb : b' = b := by rw [hid] at e1; exact (Option.some.inj e1).symm
      subst hbb
      have hl : i < σ.objs.length := by have := (List.getElem?_eq_some_iff.1 e3).1; simpa using this
      obtain ⟨c0, hc0⟩ : ∃ c0, σ.objs[i]? = some c0 := ⟨_, List.getElem?_eq_getElem hl⟩
      obtain ⟨us, he, hs⟩ := h.ty i b' T' c0 e1 e2 hc0 hTT
      obtain ⟨_, vs1, ext1, T1, he1, hr1⟩ := h.obj i b' c0 e1 hc0
      rw [he] at hh
      simp only [Option.some.injEq, Obj.cells.injEq] at hh
      obtain ⟨rfl, rfl, _⟩ := hh
      have e3' : (σ.objs.set i cs')[i]? = some c1 := e3
      rw [List.getElem?_set_self hl] at e3'
      obtain rfl := Option.some.inj e3'
      refine ⟨_, setRow_heap w b' (vs ++ ext).toArray _ T' _ he, ?_⟩
      have h1 := hr.len
      simp only [List.size_toArray, List.length_append] at hs ⊢
      have h2 := hkeep c0 hc0
      omega
    · have e3' : (σ.objs.set id cs')[i]? = some c1 := e3
      rw [List.getElem?_set_ne (fun e => hi e.symm)] at e3'
      obtain ⟨us, he, hs⟩ := h.ty i b' T' c1 e1 e2 e3' hTT
      have hb : b' ≠ b := fun hb => hi (h.nd i id b' e1 (hb ▸ hid))
      exact ⟨us, (hother b' hb).trans he, hs⟩

/-- A new own row. -/
theorem new_tok (h : Ok gl H σ w) {cur : Array Value} {ver cap k : Nat} {e : TypeId} (hv : ver ≤ cap) (hc : cap ≤ maxLen) (hs : cur.size = cap * k) :
    Ev gl H w { H with tk := H.tk ++ [⟨w.heap.size, ver, cap, k, e⟩] } (w.alloc (.cells cur e)) ∧
      Ok gl { H with tk := H.tk ++ [⟨w.heap.size, ver, cap, k, e⟩] } { σ with toks := σ.toks ++ [(ver, k, e)] } (w.alloc (.cells cur e)) ∧
      (H.tk ++ [(⟨w.heap.size, ver, cap, k, e⟩ : Tok)])[σ.toks.length]? = some ⟨w.heap.size, ver, cap, k, e⟩ := by
  have hb := below_alloc0 w (.cells cur e)
  have hlen : H.tk.length = σ.toks.length := by rw [← h.tkl]; simp
  have hcase : ∀ (t : Nat) (T : Tok), (H.tk ++ [(⟨w.heap.size, ver, cap, k, e⟩ : Tok)])[t]? = some T → H.tk[t]? = some T ∨ (t = H.tk.length ∧ T = ⟨w.heap.size, ver, cap, k, e⟩) := by
    intro t T ht
    by_cases htl : t < H.tk.length
    · rw [List.getElem?_append_left htl] at ht
      exact .inl ht
    · have hlt := (List.getElem?_eq_some_iff.1 ht).1
      have : t = H.tk.length := by simp at hlt; omega
      subst this
      rw [List.getElem?_append_right (Nat.le_refl _)] at ht
      simp at ht
      exact .inr ⟨rfl, ht.symm⟩
  have ev : Ev gl H w { H with tk := H.tk ++ [⟨w.heap.size, ver, cap, k, e⟩] } (w.alloc (.cells cur e)) := by
    refine ⟨rfl, rfl, rfl, rfl, rfl, rfl, hb.size, fun _ _ h => h, fun t T ht => ?_, fun b off hp => ?_, fun b hlt => hb.block b (Nat.lt_of_lt_of_le hlt h.B), .of_eq rfl⟩
    · refine ⟨T, ?_, Nat.le_refl _, fun _ => rfl⟩
      show (H.tk ++ [_])[t]? = some T
      rw [List.getElem?_append_left (List.getElem?_eq_some_iff.1 ht).1]
      exact ht
    · refine ⟨⟨Nat.lt_of_lt_of_le hp.1 hb.size, hp.2.1, hp.2.2.1, fun T hT hbk => ?_⟩, fun s => hb.cell (p := ⟨b, off, s⟩) hp.1⟩
      rcases List.mem_append.1 hT with hT | hT
      · exact hp.2.2.2 T hT hbk
      · simp at hT
        subst hT
        have := hp.1
        simp at hbk
        omega
  refine ⟨ev, ⟨Nat.le_trans h.B hb.size, fun b o eg => ⟨(h.gl b o eg).1, (hb.block b (lt_of_heap (h.gl b o eg).2)).trans (h.gl b o eg).2⟩, h.len, fun id b cs e1 e2 => ?_, h.nd, by simp [h.tkl], fun t T ht => ?_, fun t u T U ht hu hbk => ?_, h.tyl, fun id b T' c1 e1 e2 e3 hTT => ?_⟩, ?_⟩
  · obtain ⟨hB, vs, ext, T, he, hr⟩ := h.obj id b cs e1 e2
    exact ⟨hB, vs, ext, T, (hb.block b (lt_of_heap he)).trans he, hr.mono ev.mono⟩
  · rcases hcase t T ht with ht | ⟨_, rfl⟩
    · obtain ⟨hB, ho, cur', fz, he, hr⟩ := h.tok t T ht
      exact ⟨hB, ho, cur', fz, (hb.block _ (lt_of_heap he)).trans he, hr⟩
    · exact ⟨h.B, fun hm => Nat.lt_irrefl _ (h.ob_at hm).2, cur, (0, 0), heap_alloc_new w _, fun _ => ⟨rfl, hv⟩, hc, hs⟩
  · rcases hcase t T ht with ht | ⟨h1, rfl⟩ <;> rcases hcase u U hu with hu | ⟨h2, rfl⟩
    · exact h.tnd t u T U ht hu hbk
    · have := (h.tk_at (List.mem_of_getElem? ht)).2
      simp at hbk
      omega
    · have := (h.tk_at (List.mem_of_getElem? hu)).2
      simp at hbk
      omega
    · rw [h1, h2]
  · obtain ⟨us, he, hs⟩ := h.ty id b T' c1 e1 e2 e3 hTT
    exact ⟨us, (hb.block b (lt_of_heap he)).trans he, hs⟩
  · rw [← hlen, List.getElem?_append_right (Nat.le_refl _)]
    simp

/-- An own row in a new state: in its block, or in a new one. The cells that it had are as they were. -/
theorem set_tok' (h : Ok gl H σ w) {t : Nat} {T T' : Tok} (ht : H.tk[t]? = some T) (hk : T'.k = T.k) (hv : T.ver < T'.ver) (hc : T'.cap ≤ maxLen)
    (hd : Dr gl w w') (hos : w'.os = w.os) (htape : w'.tape = w.tape) (hout : w'.output = w.output) (hsize : w.heap.size ≤ w'.heap.size)
    (hblk : T'.blk = T.blk ∨ w.heap.size ≤ T'.blk)
    (hsame : ∀ k, k < w.heap.size → k ≠ T'.blk → w'.heap[k]? = w.heap[k]?)
    {cur cur' : Array Value} {fz fz' : Nat × Nat} (hfz : T'.ver ≤ maxLen → fz' = (0, 0) ∧ T'.ver ≤ T'.cap) (hold : w.heap[T.blk]? = some (.cells cur T.e fz)) (hnew : w'.heap[T'.blk]? = some (.cells cur' T'.e fz')) (hcur : cur'.size = T'.cap * T'.k)
    (hcells : T'.blk = T.blk → ∀ off, off < T.ver * T.k → cur'[off]? = cur[off]?) :
    Ev gl H w { H with tk := H.tk.set t T' } w' ∧ Ok gl { H with tk := H.tk.set t T' } { σ with toks := σ.toks.set t (T'.ver, T'.k, T'.e) } w' := by
  have hmem : T ∈ H.tk := List.mem_of_getElem? ht
  have htl : t < H.tk.length := (List.getElem?_eq_some_iff.1 ht).1
  have hTB := h.tk_at hmem
  have hBT' : H.B ≤ T'.blk := by
    rcases hblk with hb | hb
    · rw [hb]; exact hTB.1
    · exact Nat.le_trans h.B hb
  have hnob : T'.blk ∉ H.ob := by
    rcases hblk with hb | hb
    · rw [hb]; exact (h.tok t T ht).2.1
    · intro hm
      have := (h.ob_at hm).2
      omega
  have hcase : ∀ (u : Nat) (U : Tok), (H.tk.set t T')[u]? = some U → (u = t ∧ U = T') ∨ (u ≠ t ∧ H.tk[u]? = some U) := by
    intro u U hu
    by_cases hut : u = t
    · subst hut
      rw [List.getElem?_set_self htl] at hu
      exact .inl ⟨rfl, (Option.some.inj hu).symm⟩
    · rw [List.getElem?_set_ne (fun e => hut e.symm)] at hu
      exact .inr ⟨hut, hu⟩
  have ev : Ev gl H w { H with tk := H.tk.set t T' } w' := by
    refine ⟨rfl, rfl, rfl, hos, htape, hout, hsize, fun _ _ h => h, fun u U hu => ?_, fun b off hp => ?_, fun b hlt => hsame b (Nat.lt_of_lt_of_le hlt h.B) (fun e => by omega), hd⟩
    · by_cases hut : u = t
      · subst hut
        have : U = T := by rw [ht] at hu; exact (Option.some.inj hu).symm
        subst this
        refine ⟨T', List.getElem?_set_self htl, Nat.le_of_lt hv, fun e => by omega⟩
      · exact ⟨U, by show (H.tk.set t T')[u]? = some U; rw [List.getElem?_set_ne (fun e => hut e.symm)]; exact hu, Nat.le_refl _, fun _ => rfl⟩
    · have hoff : T.blk = b → off < T.ver * T.k := hp.2.2.2 T hmem
      refine ⟨⟨Nat.lt_of_lt_of_le hp.1 hsize, hp.2.1, hp.2.2.1, fun U hU hbk => ?_⟩, fun s => ?_⟩
      · obtain ⟨u, hu⟩ := List.mem_iff_getElem?.1 hU
        rcases hcase u U hu with ⟨_, rfl⟩ | ⟨_, hu⟩
        · rcases hblk with hb | hb
          · have := hoff (hb.symm.trans hbk)
            rw [hk]
            exact Nat.lt_of_lt_of_le this (Nat.mul_le_mul_right _ (Nat.le_of_lt hv))
          · have := hp.1
            omega
        · exact hp.2.2.2 U (List.mem_of_getElem? hu) hbk
      · by_cases hbb : b = T'.blk
        · rcases hblk with hb | hb
          · have hlt := hoff (hb.symm.trans hbb.symm)
            have h1 := hcells hb off hlt
            subst hbb
            rw [hb] at hnew ⊢
            simp only [World.cell?, hnew, hold]
            split
            · rfl
            · exact h1
          · have := hp.1
            omega
        · exact World.cell?_of_block (a := ⟨b, off, s⟩) (hsame b hp.1 hbb)
  refine ⟨ev, ⟨Nat.le_trans h.B hsize, fun b o eg => ⟨(h.gl b o eg).1, (hsame b (lt_of_heap (h.gl b o eg).2) (fun e => by have := (h.gl b o eg).1; omega)).trans (h.gl b o eg).2⟩, h.len, fun id b cs e1 e2 => ?_, h.nd, ?_, fun u U hu => ?_, fun u v U V hu hv hbk => ?_, h.tyl, fun id b T0 c1 e1 e2 e3 hTT => ?_⟩⟩
  · obtain ⟨hB, vs, ext, T0, he0, hr⟩ := h.obj id b cs e1 e2
    exact ⟨hB, vs, ext, T0, (hsame b (lt_of_heap he0) (fun e => hnob (e ▸ List.mem_of_getElem? e1))).trans he0, hr.mono ev.mono⟩
  · show (H.tk.set t T').map _ = σ.toks.set t _
    rw [List.map_set, h.tkl]
  · rcases hcase u U hu with ⟨_, rfl⟩ | ⟨hut, hu⟩
    · exact ⟨hBT', hnob, cur', fz', hnew, hfz, hc, hcur⟩
    · obtain ⟨hB, ho, cur0, fz0, he0, hr⟩ := h.tok u U hu
      refine ⟨hB, ho, cur0, fz0, (hsame _ (lt_of_heap he0) (fun e => ?_)).trans he0, hr⟩
      rcases hblk with hb | hb
      · exact hut (h.tnd u t U T hu ht (e.trans hb))
      · have := lt_of_heap he0
        omega
  · rcases hcase u U hu with ⟨h1, rfl⟩ | ⟨h1, hu'⟩ <;> rcases hcase v V hv with ⟨h2, rfl⟩ | ⟨h2, hv'⟩
    · rw [h1, h2]
    · rcases hblk with hb | hb
      · exact absurd (h.tnd v t V T hv' ht (hbk.symm.trans hb)) h2
      · have := (h.tk_at (List.mem_of_getElem? hv')).2
        omega
    · rcases hblk with hb | hb
      · exact absurd (h.tnd u t U T hu' ht (hbk.trans hb)) h1
      · have := (h.tk_at (List.mem_of_getElem? hu')).2
        omega
    · exact h.tnd u v U V hu' hv' hbk
  · obtain ⟨us, he, hs⟩ := h.ty id b T0 c1 e1 e2 e3 hTT
    exact ⟨us, (hsame b (lt_of_heap he) (fun e => hnob (e ▸ List.mem_of_getElem? e1))).trans he, hs⟩

theorem set_tok (h : Ok gl H σ w) {t : Nat} {T T' : Tok} (ht : H.tk[t]? = some T) (hk : T'.k = T.k) (hv : T.ver < T'.ver) (hvc : T'.ver ≤ T'.cap) (hc : T'.cap ≤ maxLen)
    (hd : Dr gl w w') (hos : w'.os = w.os) (htape : w'.tape = w.tape) (hout : w'.output = w.output) (hsize : w.heap.size ≤ w'.heap.size)
    (hblk : T'.blk = T.blk ∨ w.heap.size ≤ T'.blk)
    (hsame : ∀ k, k < w.heap.size → k ≠ T'.blk → w'.heap[k]? = w.heap[k]?)
    {cur cur' : Array Value} (hold : w.heap[T.blk]? = some (.cells cur T.e (0, 0))) (hnew : w'.heap[T'.blk]? = some (.cells cur' T'.e (0, 0))) (hcur : cur'.size = T'.cap * T'.k)
    (hcells : T'.blk = T.blk → ∀ off, off < T.ver * T.k → cur'[off]? = cur[off]?) :
    Ev gl H w { H with tk := H.tk.set t T' } w' ∧ Ok gl { H with tk := H.tk.set t T' } { σ with toks := σ.toks.set t (T'.ver, T'.k, T'.e) } w' :=
  set_tok' h ht hk hv hc hd hos htape hout hsize hblk hsame (fun _ => ⟨rfl, hvc⟩) hold hnew hcur hcells
end

end Go.Pv
