/- strings.Builder: its check, and its text, with the caller's store. -/
import Derived.Test.YtdfahkeodlfopaaDoorPvLoop
import Derived.Shelf.Strings.BuilderK
set_option maxHeartbeats 4000000
set_option maxRecDepth 200000
set_option linter.unusedSimpArgs false
set_option linter.unusedVariables false
namespace Go.Pv
open Go Go.Proofs Go.Shelf Go.RowKit
variable {P : Program} {ρ : Ren} {gl : Nat → Option Obj}

theorem setCell_row {w : World} {b off : Nat} {cs : Array Value} {T : TypeId} {fz : Nat × Nat} (h : w.heap[b]? = some (.cells cs T fz)) (v : Value) : w.setCell ⟨b, off, none⟩ v = w.setRow b (cs.setIfInBounds off v) := by
  unfold World.setCell World.setRow
  congr 1
  apply Array.ext_getElem?
  intro i
  rw [Array.getElem?_modify, Array.getElem?_modify]
  by_cases hi : b = i
  · subst hi
    rw [if_pos rfl, if_pos rfl, h]
    rfl
  · rw [if_neg hi, if_neg hi]

theorem freeze_at {w : World} {b n : Nat} {cs : Array Value} {T : TypeId} {fz : Nat × Nat} (h : w.heap[b]? = some (.cells cs T fz)) : ∃ fz', (w.freeze ⟨b, 0, none⟩ n).heap[b]? = some (.cells cs T fz') := by
  unfold World.freeze
  split
  · exact ⟨fz, h⟩
  · obtain ⟨lo, hi⟩ := fz
    exact ⟨_, by simp only [Array.getElem?_modify, if_true, h]; rfl⟩

theorem freeze_other (w : World) (b n k : Nat) (h : k ≠ b) : (w.freeze ⟨b, 0, none⟩ n).heap[k]? = w.heap[k]? := by
  unfold World.freeze
  split
  · rfl
  · simp only [Array.getElem?_modify]
    rw [if_neg (fun e => h e.symm)]

theorem freeze_size (w : World) (b n : Nat) : (w.freeze ⟨b, 0, none⟩ n).heap.size = w.heap.size := by
  unfold World.freeze
  split
  · rfl
  · simp

theorem freeze_rest (w : World) (b n : Nat) : (w.freeze ⟨b, 0, none⟩ n).os = w.os ∧ (w.freeze ⟨b, 0, none⟩ n).tape = w.tape ∧ (w.freeze ⟨b, 0, none⟩ n).output = w.output := by
  unfold World.freeze
  split <;> exact ⟨rfl, rfl, rfl⟩

theorem freeze_drawn (w : World) (b n : Nat) : (w.drew.freeze ⟨b, 0, none⟩ n).drawn = w.drew.drawn := by
  unfold World.freeze
  split <;> rfl

/-! ### copyCheck -/
def D_copyCheck (T : TypeId) : List PV → Store → Tr (PV × Store)
  | [.ptr 1 0], ⟨[o, [.nilp, q]], tk, [t0, t1]⟩ => Tr.chk (t1 == T) (.ret (.tup [], ⟨[o, [.ptr 1 0, q]], tk, [t0, t1]⟩))
  | [.ptr 1 0], ⟨[o, [.ptr 1 0, q]], tk, [t0, t1]⟩ => .ret (.tup [], ⟨[o, [.ptr 1 0, q]], tk, [t0, t1]⟩)
  | _, _ => .fail

theorem one_ptr {H : Gh} {w : World} {args : List Value} {id off : Nat} (h : RelL H w [.ptr id off] args) : ∃ b, H.ob[id]? = some b ∧ args = [.pointer (some ⟨b, off, none⟩)] := by
  cases h with
  | cons _ v _ vs hv hvs =>
    cases hvs
    cases hv with
    | ptr _ _ b hb => exact ⟨b, hb, rfl⟩

theorem sim_copyCheck_of {f : FuncId} {TB : TypeId} (hTB : TB < tyMark) (hfresh : ∀ (b : Nat) (w : World), w.cell? ⟨b, 0, none⟩ = some (.pointer none) → w.shape? b = some (TB, 2) → w.frozen? ⟨b, 0, none⟩ = false → Calls P f #[.pointer (some ⟨b, 0, none⟩)] w fun e w' => e = .returned (.tuple #[]) ∧ w' = w.setCell ⟨b, 0, none⟩ (.pointer (some ⟨b, 0, none⟩)))
    (hused : ∀ (b : Nat) (w : World), w.cell? ⟨b, 0, none⟩ = some (.pointer (some ⟨b, 0, none⟩)) → Calls P f #[.pointer (some ⟨b, 0, none⟩)] w fun e w' => e = .returned (.tuple #[]) ∧ w' = w)
    (hent : ∃ fn, P.funcs[f]? = some fn ∧ (fn.name == "runtime.NumGoroutine") = false ∧ fn.body.isNone = false) : SimS P gl f fun args σ => (D_copyCheck TB args σ).run := by
  refine ⟨hent, ?_⟩
  intro args σ x σ' hx H w vs hok hrel
  unfold D_copyCheck at hx
  split at hx
  · rename_i o q tk t0 t1
    obtain ⟨h1, h2⟩ := Tr.chk_some hx
    cases h2
    have h1 : t1 = TB := by simpa using h1
    subst h1
    obtain ⟨b, hb, rfl⟩ := one_ptr hrel
    obtain ⟨hB, us, ext, T, hheap, hus⟩ := hok.obj 1 b _ hb rfl
    obtain ⟨cs, hcs, hsz⟩ := hok.ty 1 b _ _ hb rfl rfl hTB
    rw [hheap] at hcs
    simp only [Option.some.injEq, Obj.cells.injEq] at hcs
    obtain ⟨rfl, rfl, _⟩ := hcs
    have hul := hus.len
    have hext : ext = [] := by
      apply List.eq_nil_of_length_eq_zero
      simp at hsz hul
      omega
    subst hext
    cases hus with
    | cons _ u0 _ us hu0 hus =>
      cases hu0
      cases hus with
      | cons _ u1 _ us hu1 hus =>
        cases hus
        refine (hfresh b w (by rw [Lib.cell_of_heap hheap]; rfl) (by simp [World.shape?, hheap]) (by rw [Lib.frozen_of_heap hheap 0])).mono ?_
        rintro e w' ⟨rfl, rfl⟩
        rw [setCell_row hheap]
        have hset := set_obj (cs' := [.ptr 1 0, q]) (vs' := [.pointer (some ⟨b, 0, none⟩), u1]) hok hb hheap (.cons _ _ _ _ (.ptr _ _ _ hb) (.cons _ _ _ _ hu1 .nil)) (fun c0 hc0 => by cases hc0; exact ⟨rfl, rfl⟩)
        exact ⟨_, rfl, H, hset.1, hset.2, .tup _ _ .nil⟩
  · rename_i o q tk t0 t1
    cases hx
    obtain ⟨b, hb, rfl⟩ := one_ptr hrel
    obtain ⟨hB, us, ext, T, hheap, hus⟩ := hok.obj 1 b _ hb rfl
    cases hus with
    | cons _ u0 _ us hu0 hus =>
      have hu0' : u0 = .pointer (some ⟨b, 0, none⟩) := by
        cases hu0 with
        | ptr _ _ b' hb' =>
          rw [hb] at hb'
          cases hb'
          rfl
      subst hu0'
      refine (hused b w (by rw [Lib.cell_of_heap hheap]; rfl)).mono ?_
      rintro e w' ⟨rfl, rfl⟩
      exact ⟨_, rfl, .same hok (.tup _ _ .nil)⟩
  · cases hx
/-! ### String -/
def D_String (T : TypeId) : List PV → Store → Tr (PV × Store)
  | [.ptr 1 0], ⟨[o, [p, .sl xs (.tok 0)]], [(v, 1, e)], ty⟩ => Tr.chk (okBytes xs) (Tr.chk (bNot (xNil xs)) (Tr.chk (nEq v (nXs xs)) (Tr.chk (e == T) (.ret (.str (unBytes xs), ⟨[o, [p, .sl xs (.tok 0)]], [(maxLen + 1, 1, e)], ty⟩)))))
  | _, _ => .fail

set_option maxRecDepth 100000 in
theorem Any.Builder_String_at (L : Lays.n169 P ρ) (X : Builder.Extra P ρ) (b g cap : Nat) (l : List UInt8) (w : World) (p : Value) (cs cur : Array Value) (T : TypeId) (fz : Nat × Nat)
    (hbk : w.cell? ⟨b, 1, none⟩ = some (.slice (some ⟨g, 0, none⟩) l.length cap)) (hg : w.heap[g]? = some (.cells cur (ρ.t 5) fz)) (hnc : l.length ≤ cap) (hcm : cap ≤ maxLen) (hcs : cur.size = cap)
    (hcell : ∀ j x, l[j]? = some x → w.cell? ((⟨g, 0, none⟩ : Addr).add j) = some (.int .u8 x.toNat)) (h0 : l ≠ []) :
    Calls P (ρ.f 169) #[.pointer (some ⟨b, 0, none⟩)] w fun e w' => e = .returned (.string ⟨l.toArray⟩) ∧ w' = w.drew.freeze ⟨g, 0, none⟩ l.length := by
  have hl0 : l.length ≠ 0 := by simpa using h0
  have c1 : w.drew.cell? ⟨b, 1, none⟩ = some (.slice (some ⟨g, 0, none⟩) l.length cap) := hbk
  have hSD : (Builtin.unsafeSliceData_ #[(ρ.t 37)] (ρ.t 127) #[.slice (some ⟨g, 0, none⟩) l.length cap]).run P w.drew = .ok (.pointer (some ⟨g, 0, none⟩)) w.drew :=
    Lib.run_unsafeSliceData_row _ _ _ _ _ _ (by omega)
  have hUS : (Builtin.unsafeString_ #[(ρ.t 127), (ρ.t 3)] (ρ.t 9) #[.pointer (some ⟨g, 0, none⟩), .int .i64 l.length]).run P w.drew = .ok (.string ⟨l.toArray⟩) (w.drew.freeze ⟨g, 0, none⟩ l.length) := by
    refine Lib.run_unsafeString_row w.drew (ρ.t 127) (ρ.t 3) (ρ.t 9) (ρ.t 5) L.t127 X.cellsByte g cur.size (by have hg' : w.drew.heap[g]? = some (.cells cur (ρ.t 5) fz) := hg; simp [World.shape?, hg']) l h0 (by omega) (by unfold maxLen at hcm; omega) ?_
    intro j x hx
    exact hcell j x hx
  have mixed := L.mixed
  have t72 := L.t72; have a72 := L.a72; have z72 := L.z72; have v72 := L.v72; have u72 := run_underlying L.t72
  have t70 := L.t70; have a70 := L.a70; have z70 := L.z70; have v70 := L.v70; have u70 := run_underlying L.t70
  have t37 := L.t37; have a37 := L.a37; have z37 := L.z37; have v37 := L.v37; have u37 := run_underlying L.t37
  have t127 := L.t127; have a127 := L.a127; have z127 := L.z127; have v127 := L.v127; have u127 := run_underlying L.t127
  have t3 := L.t3; have a3 := L.a3; have z3 := L.z3; have v3 := L.v3; have u3 := run_underlying L.t3
  have t9 := L.t9; have a9 := L.a9; have z9 := L.z9; have v9 := L.v9; have u9 := run_underlying L.t9
  have t5 := X.t5; have a5 := X.a5; have z5 := X.z5; have v5 := X.v5; have u5 := run_underlying X.t5
  go_enter L.f169, Body.n169_ntmps ρ
  go_wp2
  go_region_o
  all_goals (go_wp2; go_ret; exact ⟨rfl, rfl⟩)

theorem Any.sim_String (L : Lays.n169 P ρ) (X : Builder.Extra P ρ) (hent : ∃ fn, P.funcs[ρ.f 169]? = some fn ∧ (fn.name == "runtime.NumGoroutine") = false ∧ fn.body.isNone = false) : SimS P gl (ρ.f 169) fun args σ => (D_String (ρ.t 5) args σ).run := by
  refine ⟨hent, ?_⟩
  intro args σ x σ' hx H w vs hok hrel
  unfold D_String at hx
  split at hx
  · rename_i o p xs v e ty
    obtain ⟨h1, q1⟩ := Tr.chk_some hx
    obtain ⟨h2, q2⟩ := Tr.chk_some q1
    obtain ⟨h3, q3⟩ := Tr.chk_some q2
    obtain ⟨h4, q4⟩ := Tr.chk_some q3
    clear hx q1 q2 q3
    have h4 : e = ρ.t 5 := by simpa using h4
    subst h4
    simp at h2 h3
    subst h3
    cases q4
    unfold okBytes unBytes at *
    cases hl : pbytes xs with
    | none => simp [hl] at h1
    | some l =>
      obtain ⟨b, hb, rfl⟩ := one_ptr hrel
      obtain ⟨hB, us, ext, T, hheap, hus⟩ := hok.obj 1 b _ hb rfl
      cases hus with
      | cons _ u0 _ us hu0 hus =>
        cases hus with
        | cons _ u1 _ us hu1 hus =>
          cases hus
          cases hu1 with
          | sl a len cap k _ vss _ hlen hcap hm hrr hrow htag =>
            obtain ⟨ns, rfl, rfl⟩ := pbytes_some hl
            have hvs := relLL_ints hrr
            subst hvs
            obtain ⟨U, hU, hle, hUv⟩ := htag
            have hUs : (U.ver, U.k, U.e) = (len, 1, ρ.t 5) := by
              have hh := hok.tkl
              have : (H.tk.map fun T => (T.ver, T.k, T.e))[0]? = some (U.ver, U.k, U.e) := by rw [List.getElem?_map, hU]; rfl
              rw [hh] at this
              simp at this
              rw [← this.1, ← this.2.1, ← this.2.2]
              simp [← hlen]
            simp only [Prod.mk.injEq] at hUs
            obtain ⟨hUver, hUk, hUe⟩ := hUs
            obtain ⟨rfl, hcapU, hkU⟩ := hUv hUver.symm
            obtain ⟨hBT, hTob, cur, fz, hcur, hvc, hcm, hcs⟩ := hok.tok 0 U hU
            have hln : (ns.map fun n => UInt8.ofNat n.toNat).length = len := by simpa using hlen
            have hk1 : k = 1 := by rw [hkU, hUk]
            subst hk1
            have hln : ns.length = len := by simpa using hlen
            have hwf : ∀ (j : Nat) (n : Int), ns[j]? = some n → 0 ≤ n ∧ n < 256 := by
              intro j n hj
              have := (relLL_iff.1 hrr).2 j [.int .u8 n] [.int .u8 n] (by simp [hj]) (by simp [hj])
              cases this with
              | cons _ _ _ _ hv _ =>
                cases hv with
                | int _ _ hwf => simp [Lit.wf, IntKind.min, IntKind.max, IntKind.signed, IntKind.bits] at hwf; omega
            have hll : (ns.map fun n => UInt8.ofNat n.toNat).length = len := by simpa using hln
            refine (Any.Builder_String_at L X b U.blk cap (ns.map fun n => UInt8.ofNat n.toNat) w u0 #[] cur T fz (by rw [hll, Lib.cell_of_heap hheap]; rfl) (by rw [← hUe]; exact hcur) (by rw [hll]; exact hcap) hm (by rw [hcs, hUk, hcapU, Nat.mul_one]) ?_ ?_).mono ?_
            · intro j x hj
              rw [List.getElem?_map] at hj
              cases hn : ns[j]? with
              | none => simp [hn] at hj
              | some n =>
                simp [hn] at hj
                subst hj
                have hb := hwf j n hn
                obtain ⟨hk, a', ha', hcell⟩ := hrow j [.int .u8 n] (by simp [hn])
                injection ha' with ha'
                subst ha'
                have := (hcell 0 _ rfl).2
                rw [Nat.mul_one, add_add, Nat.add_zero] at this
                rw [this]
                simp
                omega
            · intro hnil
              apply h2
              simpa using hnil
            · rintro e w' ⟨rfl, rfl⟩
              rw [hll]
              have hcur' : w.drew.heap[U.blk]? = some (.cells cur U.e fz) := hcur
              obtain ⟨fz', hfz'⟩ := freeze_at (n := len) hcur'
              have hrest := freeze_rest w.drew U.blk len
              have hset := set_tok' (T' := ⟨U.blk, maxLen + 1, U.cap, U.k, U.e⟩) (w' := w.drew.freeze ⟨U.blk, 0, none⟩ len) hok hU rfl (by show U.ver < maxLen + 1; omega) hcm (fun _ => by rw [freeze_drawn]; exact Nat.le_succ _) hrest.1 hrest.2.1 hrest.2.2 (by rw [freeze_size]; exact Nat.le_refl _) (.inl rfl)
                (fun k _ hk => freeze_other w.drew U.blk len k hk) (fz' := fz') (by intro h; simp at h; omega) hcur hfz' hcs (fun _ off _ => rfl)
              refine ⟨_, rfl, _, hset.1, ?_, ?_⟩
              · have := hset.2
                simpa [hUk, hUe] using this
              · exact .str (List.map (fun n => UInt8.ofNat n.toNat) ns) (by simp; omega)
  · cases hx
end Go.Pv
