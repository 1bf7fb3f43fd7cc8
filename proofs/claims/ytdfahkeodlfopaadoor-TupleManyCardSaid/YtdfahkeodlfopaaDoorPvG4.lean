/- Part 4 of the proof: pure values for the machine's values, what functions compute over them, and laws of what is computed. Conditions: none beyond each theorem's own premises. -/
import Derived.Test.YtdfahkeodlfopaaDoorPvG3
import Derived.Shelf.Strings.BuilderK
/- strings.Builder: its check, and its text, with the caller's store. -/
set_option maxHeartbeats 4000000
set_option maxRecDepth 200000
set_option linter.unusedSimpArgs false
set_option linter.unusedVariables false
namespace Go.Pv
open Go Go.Proofs Go.Shelf Go.RowKit
variable {P : Program} {ρ : Ren} {gl : Nat → Option Obj}

theorem setCell_row {w : World} {b off : Nat} {cs : Array Value} {T : TypeId} {fz : Nat × Nat} (h : w.heap[b]? = some (.cells cs T fz)) (v : Value) : w.setCell ⟨b, off, none⟩ v = w.setRow b (cs.setIfInBounds off v) := by
  unfold World.setCell World.setRow
  congr 1
  apply Array.ext_getElem?
  intro i
  rw [Array.getElem?_modify, Array.getElem?_modify]
  by_cases hi : b = i
  · subst hi
    rw [if_pos rfl, if_pos rfl, h]
    rfl
  · rw [if_neg hi, if_neg hi]

theorem freeze_at {w : World} {b n : Nat} {cs : Array Value} {T : TypeId} {fz : Nat × Nat} (h : w.heap[b]? = some (.cells cs T fz)) : ∃ fz', (w.freeze ⟨b, 0, none⟩ n).heap[b]? = some (.cells cs T fz') := by
  unfold World.freeze
  split
  · exact ⟨fz, h⟩
  · obtain ⟨lo, hi⟩ := fz
    exact ⟨_, by simp only [Array.getElem?_modify, if_true, h]; rfl⟩

theorem freeze_other (w : World) (b n k : Nat) (h : k ≠ b) : (w.freeze ⟨b, 0, none⟩ n).heap[k]? = w.heap[k]? := by
  unfold World.freeze
  split
  · rfl
  · simp only [Array.getElem?_modify]
    rw [if_neg (fun e => h e.symm)]

theorem freeze_size (w : World) (b n : Nat) : (w.freeze ⟨b, 0, none⟩ n).heap.size = w.heap.size := by
  unfold World.freeze
  split
  · rfl
  · simp

theorem freeze_rest (w : World) (b n : Nat) : (w.freeze ⟨b, 0, none⟩ n).os = w.os ∧ (w.freeze ⟨b, 0, none⟩ n).tape = w.tape ∧ (w.freeze ⟨b, 0, none⟩ n).output = w.output := by
  unfold World.freeze
  split <;> exact ⟨rfl, rfl, rfl⟩

theorem freeze_drawn (w : World) (b n : Nat) : (w.drew.freeze ⟨b, 0, none⟩ n).drawn = w.drew.drawn := by
  unfold World.freeze
  split <;> rfl

/-! ### copyCheck -/
def D_copyCheck (T : TypeId) : List PV → Store → Tr (PV × Store)
  | [.ptr 1 0], ⟨[o, [.nilp, q]], tk, [t0, t1]⟩ => Tr.chk (t1 == T) (.ret (.tup [], ⟨[o, [.ptr 1 0, q]], tk, [t0, t1]⟩))
  | [.ptr 1 0], ⟨[o, [.ptr 1 0, q]], tk, [t0, t1]⟩ => .ret (.tup [], ⟨[o, [.ptr 1 0, q]], tk, [t0, t1]⟩)
  | _, _ => .fail

theorem one_ptr {H : Gh} {w : World} {args : List Value} {id off : Nat} (h : RelL H w [.ptr id off] args) : ∃ b, H.ob[id]? = some b ∧ args = [.pointer (some ⟨b, off, none⟩)] := by
  cases h with
  | cons _ v _ vs hv hvs =>
    cases hvs
    cases hv with
    | ptr _ _ b hb => exact ⟨b, hb, rfl⟩

theorem sim_copyCheck_of {f : FuncId} {TB : TypeId} (hTB : TB < tyMark) (hfresh : ∀ (b : Nat) (w : World), w.cell? ⟨b, 0, none⟩ = some (.pointer none) → w.shape? b = some (TB, 2) → w.frozen? ⟨b, 0, none⟩ = false → Calls P f #[.pointer (some ⟨b, 0, none⟩)] w fun e w' => e = .returned (.tuple #[]) ∧ w' = w.setCell ⟨b, 0, none⟩ (.pointer (some ⟨b, 0, none⟩)))
    (hused : ∀ (b : Nat) (w : World), w.cell? ⟨b, 0, none⟩ = some (.pointer (some ⟨b, 0, none⟩)) → Calls P f #[.pointer (some ⟨b, 0, none⟩)] w fun e w' => e = .returned (.tuple #[]) ∧ w' = w)
    (hent : ∃ fn, P.funcs[f]? = some fn ∧ (fn.name == "runtime.NumGoroutine") = false ∧ fn.body.isNone = false) : SimS P gl f fun args σ => (D_copyCheck TB args σ).run := by
  refine ⟨hent, ?_⟩
  intro args σ x σ' hx H w vs hok hrel
  unfold D_copyCheck at hx
  split at hx
  · rename_i o q tk t0 t1
    obtain ⟨h1, h2⟩ := Tr.chk_some hx
    cases h2
    have h1 : t1 = TB := by simpa using h1
    subst h1
    obtain ⟨b, hb, rfl⟩ := one_ptr hrel
    obtain ⟨hB, us, ext, T, hheap, hus⟩ := hok.obj 1 b _ hb rfl
    obtain ⟨cs, hcs, hsz⟩ := hok.ty 1 b _ _ hb rfl rfl hTB
    rw [hheap] at hcs
    simp only [Option.some.injEq, Obj.cells.injEq] at hcs
    obtain ⟨rfl, rfl, _⟩ := hcs
    have hul := hus.len
    have hext : ext = [] := by
      apply List.eq_nil_of_length_eq_zero
      simp at hsz hul
      omega
    subst hext
    cases hus with
    | cons _ u0 _ us hu0 hus =>
      cases hu0
      cases hus with
      | cons _ u1 _ us hu1 hus =>
        cases hus
        refine (hfresh b w (by rw [Lib.cell_of_heap hheap]; rfl) (by simp [World.shape?, hheap]) (by rw [Lib.frozen_of_heap hheap 0])).mono ?_
        rintro e w' ⟨rfl, rfl⟩
        rw [setCell_row hheap]
        have hset := set_obj (cs' := [.ptr 1 0, q]) (vs' := [.pointer (some ⟨b, 0, none⟩), u1]) hok hb hheap (.cons _ _ _ _ (.ptr _ _ _ hb) (.cons _ _ _ _ hu1 .nil)) (fun c0 hc0 => by cases hc0; exact ⟨rfl, rfl⟩)
        exact ⟨_, rfl, H, hset.1, hset.2, .tup _ _ .nil⟩
  · rename_i o q tk t0 t1
    cases hx
    obtain ⟨b, hb, rfl⟩ := one_ptr hrel
    obtain ⟨hB, us, ext, T, hheap, hus⟩ := hok.obj 1 b _ hb rfl
    cases hus with
    | cons _ u0 _ us hu0 hus =>
      have hu0' : u0 = .pointer (some ⟨b, 0, none⟩) := by
        cases hu0 with
        | ptr _ _ b' hb' =>
          rw [hb] at hb'
          cases hb'
          rfl
      subst hu0'
      refine (hused b w (by rw [Lib.cell_of_heap hheap]; rfl)).mono ?_
      rintro e w' ⟨rfl, rfl⟩
      exact ⟨_, rfl, .same hok (.tup _ _ .nil)⟩
  · cases hx
/-! ### String -/
def D_String (T : TypeId) : List PV → Store → Tr (PV × Store)
  | [.ptr 1 0], ⟨[o, [p, .sl xs (.tok 0)]], [(v, 1, e)], ty⟩ => Tr.chk (okBytes xs) (Tr.chk (bNot (xNil xs)) (Tr.chk (nEq v (nXs xs)) (Tr.chk (e == T) (.ret (.str (unBytes xs), ⟨[o, [p, .sl xs (.tok 0)]], [(maxLen + 1, 1, e)], ty⟩)))))
  | _, _ => .fail

set_option maxRecDepth 100000 in
theorem Any.Builder_String_at (L : Lays.n169 P ρ) (X : Builder.Extra P ρ) (b g cap : Nat) (l : List UInt8) (w : World) (p : Value) (cs cur : Array Value) (T : TypeId) (fz : Nat × Nat)
    (hbk : w.cell? ⟨b, 1, none⟩ = some (.slice (some ⟨g, 0, none⟩) l.length cap)) (hg : w.heap[g]? = some (.cells cur (ρ.t 5) fz)) (hnc : l.length ≤ cap) (hcm : cap ≤ maxLen) (hcs : cur.size = cap)
    (hcell : ∀ j x, l[j]? = some x → w.cell? ((⟨g, 0, none⟩ : Addr).add j) = some (.int .u8 x.toNat)) (h0 : l ≠ []) :
    Calls P (ρ.f 169) #[.pointer (some ⟨b, 0, none⟩)] w fun e w' => e = .returned (.string ⟨l.toArray⟩) ∧ w' = w.drew.freeze ⟨g, 0, none⟩ l.length := by
  have hl0 : l.length ≠ 0 := by simpa using h0
  have c1 : w.drew.cell? ⟨b, 1, none⟩ = some (.slice (some ⟨g, 0, none⟩) l.length cap) := hbk
  have hSD : (Builtin.unsafeSliceData_ #[(ρ.t 37)] (ρ.t 127) #[.slice (some ⟨g, 0, none⟩) l.length cap]).run P w.drew = .ok (.pointer (some ⟨g, 0, none⟩)) w.drew :=
    Lib.run_unsafeSliceData_row _ _ _ _ _ _ (by omega)
  have hUS : (Builtin.unsafeString_ #[(ρ.t 127), (ρ.t 3)] (ρ.t 9) #[.pointer (some ⟨g, 0, none⟩), .int .i64 l.length]).run P w.drew = .ok (.string ⟨l.toArray⟩) (w.drew.freeze ⟨g, 0, none⟩ l.length) := by
    refine Lib.run_unsafeString_row w.drew (ρ.t 127) (ρ.t 3) (ρ.t 9) (ρ.t 5) L.t127 X.cellsByte g cur.size (by have hg' : w.drew.heap[g]? = some (.cells cur (ρ.t 5) fz) := hg; simp [World.shape?, hg']) l h0 (by omega) (by unfold maxLen at hcm; omega) ?_
    intro j x hx
    exact hcell j x hx
  have mixed := L.mixed
  have t72 := L.t72; have a72 := L.a72; have z72 := L.z72; have v72 := L.v72; have u72 := run_underlying L.t72
  have t70 := L.t70; have a70 := L.a70; have z70 := L.z70; have v70 := L.v70; have u70 := run_underlying L.t70
  have t37 := L.t37; have a37 := L.a37; have z37 := L.z37; have v37 := L.v37; have u37 := run_underlying L.t37
  have t127 := L.t127; have a127 := L.a127; have z127 := L.z127; have v127 := L.v127; have u127 := run_underlying L.t127
  have t3 := L.t3; have a3 := L.a3; have z3 := L.z3; have v3 := L.v3; have u3 := run_underlying L.t3
  have t9 := L.t9; have a9 := L.a9; have z9 := L.z9; have v9 := L.v9; have u9 := run_underlying L.t9
  have t5 := X.t5; have a5 := X.a5; have z5 := X.z5; have v5 := X.v5; have u5 := run_underlying X.t5
  go_enter L.f169, Body.n169_ntmps ρ
  go_wp2
  go_region_o
  all_goals (go_wp2; go_ret; exact ⟨rfl, rfl⟩)

theorem Any.sim_String (L : Lays.n169 P ρ) (X : Builder.Extra P ρ) (hent : ∃ fn, P.funcs[ρ.f 169]? = some fn ∧ (fn.name == "runtime.NumGoroutine") = false ∧ fn.body.isNone = false) : SimS P gl (ρ.f 169) fun args σ => (D_String (ρ.t 5) args σ).run := by
  refine ⟨hent, ?_⟩
  intro args σ x σ' hx H w vs hok hrel
  unfold D_String at hx
  split at hx
  · rename_i o p xs v e ty
    obtain ⟨h1, q1⟩ := Tr.chk_some hx
    obtain ⟨h2, q2⟩ := Tr.chk_some q1
    obtain ⟨h3, q3⟩ := Tr.chk_some q2
    obtain ⟨h4, q4⟩ := Tr.chk_some q3
    clear hx q1 q2 q3
    have h4 : e = ρ.t 5 := by simpa using h4
    subst h4
    simp at h2 h3
    subst h3
    cases q4
    unfold okBytes unBytes at *
    cases hl : pbytes xs with
    | none => simp [hl] at h1
    | some l =>
      obtain ⟨b, hb, rfl⟩ := one_ptr hrel
      obtain ⟨hB, us, ext, T, hheap, hus⟩ := hok.obj 1 b _ hb rfl
      cases hus with
      | cons _ u0 _ us hu0 hus =>
        cases hus with
        | cons _ u1 _ us hu1 hus =>
          cases hus
          cases hu1 with
          | sl a len cap k _ vss _ hlen hcap hm hrr hrow htag =>
            obtain ⟨ns, rfl, rfl⟩ := pbytes_some hl
            have hvs := relLL_ints hrr
            subst hvs
            obtain ⟨U, hU, hle, hUv⟩ := htag
            have hUs : (U.ver, U.k, U.e) = (len, 1, ρ.t 5) := by
              have hh := hok.tkl
              have : (H.tk.map fun T => (T.ver, T.k, T.e))[0]? = some (U.ver, U.k, U.e) := by rw [List.getElem?_map, hU]; rfl
              rw [hh] at this
              simp at this
              rw [← this.1, ← this.2.1, ← this.2.2]
              simp [← hlen]
            simp only [Prod.mk.injEq] at hUs
            obtain ⟨hUver, hUk, hUe⟩ := hUs
            obtain ⟨rfl, hcapU, hkU⟩ := hUv hUver.symm
            obtain ⟨hBT, hTob, cur, fz, hcur, hvc, hcm, hcs⟩ := hok.tok 0 U hU
            have hln : (ns.map fun n => UInt8.ofNat n.toNat).length = len := by simpa using hlen
            have hk1 : k = 1 := by rw [hkU, hUk]
            subst hk1
            have hln : ns.length = len := by simpa using hlen
            have hwf : ∀ (j : Nat) (n : Int), ns[j]? = some n → 0 ≤ n ∧ n < 256 := by
              intro j n hj
              have := (relLL_iff.1 hrr).2 j [.int .u8 n] [.int .u8 n] (by simp [hj]) (by simp [hj])
              cases this with
              | cons _ _ _ _ hv _ =>
                cases hv with
                | int _ _ hwf => simp [Lit.wf, IntKind.min, IntKind.max, IntKind.signed, IntKind.bits] at hwf; omega
            have hll : (ns.map fun n => UInt8.ofNat n.toNat).length = len := by simpa using hln
            refine (Any.Builder_String_at L X b U.blk cap (ns.map fun n => UInt8.ofNat n.toNat) w u0 #[] cur T fz (by rw [hll, Lib.cell_of_heap hheap]; rfl) (by rw [← hUe]; exact hcur) (by rw [hll]; exact hcap) hm (by rw [hcs, hUk, hcapU, Nat.mul_one]) ?_ ?_).mono ?_
            · intro j x hj
              rw [List.getElem?_map] at hj
              cases hn : ns[j]? with
              | none => simp [hn] at hj
              | some n =>
                simp [hn] at hj
                subst hj
                have hb := hwf j n hn
                obtain ⟨hk, a', ha', hcell⟩ := hrow j [.int .u8 n] (by simp [hn])
                injection ha' with ha'
                subst ha'
                have := (hcell 0 _ rfl).2
                rw [Nat.mul_one, add_add, Nat.add_zero] at this
                rw [this]
                simp
                omega
            · intro hnil
              apply h2
              simpa using hnil
            · rintro e w' ⟨rfl, rfl⟩
              rw [hll]
              have hcur' : w.drew.heap[U.blk]? = some (.cells cur U.e fz) := hcur
              obtain ⟨fz', hfz'⟩ := freeze_at (n := len) hcur'
              have hrest := freeze_rest w.drew U.blk len
              have hset := set_tok' (T' := ⟨U.blk, maxLen + 1, U.cap, U.k, U.e⟩) (w' := w.drew.freeze ⟨U.blk, 0, none⟩ len) hok hU rfl (by show U.ver < maxLen + 1; omega) hcm (fun _ => by rw [freeze_drawn]; exact Nat.le_succ _) hrest.1 hrest.2.1 hrest.2.2 (by rw [freeze_size]; exact Nat.le_refl _) (.inl rfl)
                (fun k _ hk => freeze_other w.drew U.blk len k hk) (fz' := fz') (by intro h; simp at h; omega) hcur hfz' hcs (fun _ off _ => rfl)
              refine ⟨_, rfl, _, hset.1, ?_, ?_⟩
              · have := hset.2
                simpa [hUk, hUe] using this
              · exact .str (List.map (fun n => UInt8.ofNat n.toNat) ns) (by simp; omega)
  · cases hx
end Go.Pv

set_option maxHeartbeats 4000000
set_option maxRecDepth 200000
set_option linter.unusedSimpArgs false
set_option linter.unusedVariables false
namespace Go.Pv
open Go Go.Proofs Go.RowKit

/-! ### strings.Builder -/
section
variable (b : Nat) (w : World)
theorem copyCheck_used (h0 : w.cell? ⟨b, 0, none⟩ = some (.pointer (some ⟨b, 0, none⟩))) : Calls Tryd.prog 112 #[.pointer (some ⟨b, 0, none⟩)] w fun e w' => e = .returned (.tuple #[]) ∧ w' = w := by
  obtain ⟨j, hj, _⟩ : ∃ j, Tryd.prog.info? 117 = some j ∧ j.size = 2 := ⟨_, rfl, rfl⟩
  have mixed : Tryd.prog.follows .mixedOrders = true := noMixed
  have t72 := Tryd.underlying117; have a72 := Tryd.isAgg117; have z72 := Tryd.sizeOf117; have v72 := Tryd.zeroValue117; have u72 := run_underlying Tryd.underlying117
  have t70 := Tryd.underlying114; have a70 := Tryd.isAgg114; have z70 := Tryd.sizeOf114; have v70 := Tryd.zeroValue114; have u70 := run_underlying Tryd.underlying114
  have t164 := Tryd.underlying152; have a164 := Tryd.isAgg152; have z164 := Tryd.sizeOf152; have v164 := Tryd.zeroValue152; have u164 := run_underlying Tryd.underlying152
  go_enter Tryd.func112, Tryd.ntmps112
  go_wp2
  rw [Lib.run_neq_ptr_same w _ t70 hj]
  go_wp2
  go_end0
  exact ⟨rfl, rfl⟩
theorem copyCheck_fresh (h0 : w.cell? ⟨b, 0, none⟩ = some (.pointer none)) (hsh : w.shape? b = some (117, 2)) (hfz : w.frozen? ⟨b, 0, none⟩ = false) :
    Calls Tryd.prog 112 #[.pointer (some ⟨b, 0, none⟩)] w fun e w' => e = .returned (.tuple #[]) ∧ w' = w.setCell ⟨b, 0, none⟩ (.pointer (some ⟨b, 0, none⟩)) := by
  obtain ⟨j, hj, hjs⟩ : ∃ j, Tryd.prog.info? 117 = some j ∧ j.size = 2 := ⟨_, rfl, rfl⟩
  have mixed : Tryd.prog.follows .mixedOrders = true := noMixed
  have t72 := Tryd.underlying117; have a72 := Tryd.isAgg117; have z72 := Tryd.sizeOf117; have v72 := Tryd.zeroValue117; have u72 := run_underlying Tryd.underlying117
  have t70 := Tryd.underlying114; have a70 := Tryd.isAgg114; have z70 := Tryd.sizeOf114; have v70 := Tryd.zeroValue114; have u70 := run_underlying Tryd.underlying114
  have t164 := Tryd.underlying152; have a164 := Tryd.isAgg152; have z164 := Tryd.sizeOf152; have v164 := Tryd.zeroValue152; have u164 := run_underlying Tryd.underlying152
  go_enter Tryd.func112, Tryd.ntmps112
  go_wp2
  rw [Lib.run_to_unsafe w ⟨b, 0, none⟩ t70 t164 hj (by rw [hjs]; decide) hsh (Nat.zero_lt_succ 1)]
  simp only [Result.andThen]
  rw [Oper.upon_value]
  go_wp2
  rw [run_callFunc_extern Tryd.func125 (by kernel_rfl) (by kernel_rfl) (by kernel_rfl) (e := Extern.AbiNoEscape.same) (by kernel_rfl)]
  rw [Lib.run_noEscape]
  simp only [Result.andThen]
  rw [Oper.upon_value]
  go_wp2
  rw [Lib.run_from_unsafe w ⟨b, 0, none⟩ t164 t70 hj hsh (by kernel_rfl)]
  simp only [Result.andThen]
  rw [Oper.upon_value]
  go_wp2
  go_end0
  exact ⟨rfl, rfl⟩
end
theorem sim_copyCheck (gl : Nat → Option Obj) : SimS Tryd.prog gl 112 fun args σ => (D_copyCheck 117 args σ).run :=
  sim_copyCheck_of (by decide) (fun b w => copyCheck_fresh b w) (fun b w => copyCheck_used b w) ⟨_, Tryd.func112, by rfl, by rfl⟩
theorem sim_String (gl : Nat → Option Obj) : SimS Tryd.prog gl 96 fun args σ => (D_String 5 args σ).run :=
  Any.sim_String Tryd.lays169 Tryd.Builder_Extra_169 ⟨_, Tryd.func96, by rfl, by rfl⟩

def D_WB : List PV → Store → Tr (PV × Store)
  | [.ptr 1 0, .int .u8 c], ⟨[o, [.nilp, .sl [] .full]], [], [t0, 117]⟩ => .ret (.nili, ⟨[o, [.ptr 1 0, .sl [[.int .u8 c]] (.tok 0)]], [(1, 1, 5)], [t0, 117]⟩)
  | [.ptr 1 0, .int .u8 c], ⟨[o, [.ptr 1 0, .sl xs (.tok 0)]], [(v, 1, 5)], [t0, 117]⟩ => Tr.chk (okGrow xs [[.int .u8 c]] 1) (Tr.chk (okSize xs 1) (Tr.chk (nEq v (nXs xs))
      (.ret (.nili, ⟨[o, [.ptr 1 0, .sl (xApp xs [[.int .u8 c]]) (.tok 0)]], [(nXs (xApp xs [[.int .u8 c]]), 1, 5)], [t0, 117]⟩))))
  | _, _ => .fail
theorem sim_WB (gl : Nat → Option Obj) : SimS Tryd.prog gl 93 fun args σ => (D_WB args σ).run := by
  refine SimS.of_tree (G := ofL [(112, .store (D_copyCheck 117))]) (L := fun _ _ _ => .fail) tbT_ok (gamOk_store (sim_copyCheck gl) gamOk_nil) noMixed Tryd.func93 rfl (by rfl) (by kernel_rfl) (loopOk_none (by kernel_rfl)) ?_
  intro args σ x σ' h hr
  unfold D_WB at h
  split at h
  · rename_i c o t0
    cases h
    refine Tr.run_as (Tr.ite true
        (Tr.ite (okGrow [] [[PV.int IntKind.u8 c]] 1)
          (Tr.ite (okNews [[PV.int IntKind.u8 c]] 1)
            (Tr.ite (okSize [] 1) (Tr.ret (PV.nili, Store.mk [o, [PV.ptr 1 0, PV.sl (xApp [] [[PV.int IntKind.u8 c]]) (Tag.tok 0)]] [(nXs (xApp [] [[PV.int IntKind.u8 c]]), 1, 5)] [t0, 117])) Tr.fail)
            Tr.fail)
          Tr.fail)
        Tr.fail) (by kernel_rfl) ?_
    simp [one]
  · rename_i c o xs v t0
    obtain ⟨h1, q1⟩ := Tr.chk_some h
    obtain ⟨h2, q2⟩ := Tr.chk_some q1
    obtain ⟨h3, q3⟩ := Tr.chk_some q2
    cases q3
    refine Tr.run_as (Tr.ite (okGrow xs [[PV.int IntKind.u8 c]] 1)
        (Tr.ite (okNews [[PV.int IntKind.u8 c]] 1)
          (Tr.ite (okSize xs 1)
            (Tr.ite (nEq v (nXs xs)) (Tr.ret (PV.nili, Store.mk [o, [PV.ptr 1 0, PV.sl (xApp xs [[PV.int IntKind.u8 c]]) (Tag.tok 0)]] [(nXs (xApp xs [[PV.int IntKind.u8 c]]), 1, 5)] [t0, 117])) Tr.fail)
            Tr.fail)
          Tr.fail)
        Tr.fail) (by kernel_rfl) ?_
    simp at h1 h2 h3
    simp [h1, h2, h3, one]
  · cases h
def D_WS : List PV → Store → Tr (PV × Store)
  | [.ptr 1 0, .str l], ⟨[o, [.ptr 1 0, .sl xs (.tok 0)]], [(v, 1, 5)], [t0, 117]⟩ => Tr.chk (bNot (xNil (bytesOf l))) (Tr.chk (okGrow xs (bytesOf l) 1) (Tr.chk (okSize xs 1) (Tr.chk (nEq v (nXs xs))
      (.ret (.tup [.int .i64 (sLen l), .nili], ⟨[o, [.ptr 1 0, .sl (xApp xs (bytesOf l)) (.tok 0)]], [(nXs (xApp xs (bytesOf l)), 1, 5)], [t0, 117]⟩)))))
  | _, _ => .fail
theorem sim_WS (gl : Nat → Option Obj) : SimS Tryd.prog gl 94 fun args σ => (D_WS args σ).run := by
  refine SimS.of_tree (G := ofL [(112, .store (D_copyCheck 117))]) (L := fun _ _ _ => .fail) tbT_ok (gamOk_store (sim_copyCheck gl) gamOk_nil) noMixed Tryd.func94 rfl (by rfl) (by kernel_rfl) (loopOk_none (by kernel_rfl)) ?_
  intro args σ x σ' h hr
  unfold D_WS at h
  split at h
  · rename_i l o xs v t0
    obtain ⟨h0, q0⟩ := Tr.chk_some h
    obtain ⟨h1, q1⟩ := Tr.chk_some q0
    obtain ⟨h2, q2⟩ := Tr.chk_some q1
    obtain ⟨h3, q3⟩ := Tr.chk_some q2
    cases q3
    refine Tr.run_as (Tr.ite (okGrow xs (bytesOf l) 1)
        (Tr.ite (okNews (bytesOf l) 1)
          (Tr.ite (okSize xs 1)
            (Tr.ite (xNil (bytesOf l)) (Tr.ret (PV.tup [PV.int IntKind.i64 (sLen l), PV.nili], Store.mk [o, [PV.ptr 1 0, PV.sl xs (Tag.tok 0)]] [(v, 1, 5)] [t0, 117]))
              (Tr.ite (nEq v (nXs xs))
                (Tr.ret (PV.tup [PV.int IntKind.i64 (sLen l), PV.nili], Store.mk [o, [PV.ptr 1 0, PV.sl (xApp xs (bytesOf l)) (Tag.tok 0)]] [(nXs (xApp xs (bytesOf l)), 1, 5)] [t0, 117])) Tr.fail))
            Tr.fail)
          Tr.fail)
        Tr.fail) (by kernel_rfl) ?_
    simp at h0 h1 h2 h3
    simp [h0, h1, h2, h3]
  · cases h

/-! ### value.Text -/
def textW (k n : Int) (s : List UInt8) : List UInt8 := if isV k n s = true then (if k = 1 then itoaV n else symV s) else []
def F_Text : List PV → Tr PV
  | [.agg [.int .i64 k, .int .i64 n, .str s]] => .ret (.tup [.str (textW k n s), .int .i64 (checkV k n s)])
  | _ => .fail
def d_Text : List PV → Store → Option (Int × Int × List UInt8 × Int × Int)
  | [.ptr 0 0, .ptr 1 0, .int .i64 m, .int .i64 i], ⟨[[.int .i64 k, .int .i64 n, .str s], [.ptr 1 0, .sl [[.int .u8 34]] (.tok 0)]], [(1, 1, 5)], [36, 117]⟩ => some (k, n, s, m, i)
  | _, _ => none
def st_Text (k n : Int) (s : List UInt8) (b : List UInt8) : Store := ⟨[[.int .i64 k, .int .i64 n, .str s], [.ptr 1 0, .sl (bytesOf b) (.tok 0)]], [(nLen b, 1, 5)], [36, 117]⟩
def r_Text : Int × Int × List UInt8 × Int × Int → Tr (PExit × List (Nat × PV) × Store)
  | (k, n, s, m, i) => Tr.chk (iEq i 0) (Tr.chk (iEq m (sLen s)) (Tr.chk (iLe (sLen s) 256) (.ret (.exit 0, [(1, .ptr 0 0), (5, .ptr 1 0)], ⟨[[.int .i64 k, .int .i64 n, .str s], [.ptr 1 0, .sl (bytesOf (symH s)) (.tok 0)]], [(nLen (symH s), 1, 5)], [36, 117]⟩))))
def L_Text : LpsT := fun r fr σ => if r = 9 then oracle 34 [1, 5, 21, 22] d_Text r_Text fr σ else .fail
noncomputable def c_Text : Code := loopN Tryd.f72 0
theorem loop_Text (gl : Nat → Option Obj) : ∀ vs σ a e out σ', d_Text vs σ = some a → (r_Text a).run = some (e, out, σ') → LDoes Tryd.prog gl c_Text (mk 34 ([1, 5, 21, 22].zip vs)) σ e (mk 34 out) σ' := by
  intro vs st a e out σ' hd hr
  unfold d_Text at hd
  split at hd
  · rename_i m i k n s
    cases hd
    obtain ⟨h1, h2⟩ := Tr.chk_some hr
    obtain ⟨h3, h4⟩ := Tr.chk_some h2
    obtain ⟨h5, h6⟩ := Tr.chk_some h4
    simp at h1 h3 h5
    subst h1 h3
    clear hr h2 h4
    cases h6
    have hG : GamOk Tryd.prog gl (gam (ofL [(95, .pure F_one), (94, .store D_WS)])) := gamOk_cons (sim_one gl) (gamOk_store (sim_WS gl) gamOk_nil)
    have key : ∀ (m : Nat) (i : Int) (b : List UInt8), 0 ≤ i → i + m = s.length → b ++ symB (s.drop i.toNat) = symH s → b.length ≤ 1 + 4 * i.toNat →
        LDoes Tryd.prog gl c_Text (mk 34 ([1, 5, 21, 22].zip [.ptr 0 0, .ptr 1 0, .int .i64 (sLen s), .int .i64 i])) (st_Text k n s b) (.exit 0) (mk 34 [(1, .ptr 0 0), (5, .ptr 1 0)]) (st_Text k n s (symH s)) := by
      intro m
      induction m with
      | zero =>
        intro i b h0 hi hf hb
        have e1 : s.drop i.toNat = [] := by apply List.drop_eq_nil_of_le; omega
        rw [e1] at hf
        simp [symB] at hf
        subst hf
        unfold st_Text
        refine LDoes.round tbT_ok hG noMixed (L := fun _ _ _ => .fail) (loopOk_none (by kernel_rfl)) (by kernel_rfl) ?_
        refine Tr.all_as (Tr.ite (iLt i (sLen s))
            (Tr.ite (okIdx s i)
              (Tr.ite (bNot (xNil (bytesOf (oneV (sAt s i)))))
                (Tr.ite (okGrow (bytesOf (symH s)) (bytesOf (oneV (sAt s i))) 1)
                  (Tr.ite (okSize (bytesOf (symH s)) 1)
                    (Tr.ite (nEq (nLen (symH s)) (nXs (bytesOf (symH s))))
                      (Tr.ret
                        (PExit.normal, [23],
                          [PV.top, PV.ptr 0 0, PV.top, PV.top, PV.top, PV.ptr 1 0, PV.int IntKind.i64 i, PV.top, PV.top, PV.top, PV.top, PV.top, PV.top, PV.top, PV.top, PV.top, PV.top, PV.top, PV.top, PV.top,
                            PV.top, PV.int IntKind.i64 (sLen s), PV.int IntKind.i64 (iAdd IntKind.i64 i 1), PV.bool true, PV.int IntKind.i64 i, PV.ptr 0 2, PV.str s, PV.int IntKind.i64 i,
                            PV.int IntKind.u8 (sAt s i), PV.str (oneV (sAt s i)), PV.tup [PV.int IntKind.i64 (sLen (oneV (sAt s i))), PV.nili], PV.int IntKind.i64 (iAdd IntKind.i64 i 1), PV.top, PV.top],
                          Store.mk [[PV.int IntKind.i64 k, PV.int IntKind.i64 n, PV.str s], [PV.ptr 1 0, PV.sl (xApp (bytesOf (symH s)) (bytesOf (oneV (sAt s i)))) (Tag.tok 0)]]
                            [(nXs (xApp (bytesOf (symH s)) (bytesOf (oneV (sAt s i)))), 1, 5)] [36, 117]))
                      Tr.fail)
                    Tr.fail)
                  Tr.fail)
                Tr.fail)
              Tr.fail)
            (Tr.ret
              (PExit.exit 0, [23],
                [PV.top, PV.ptr 0 0, PV.top, PV.top, PV.top, PV.ptr 1 0, PV.top, PV.top, PV.top, PV.top, PV.top, PV.top, PV.top, PV.top, PV.top, PV.top, PV.top, PV.top, PV.top, PV.top, PV.top,
                  PV.int IntKind.i64 (sLen s), PV.int IntKind.i64 i, PV.bool false, PV.top, PV.top, PV.top, PV.top, PV.top, PV.top, PV.top, PV.top, PV.top, PV.top],
                Store.mk [[PV.int IntKind.i64 k, PV.int IntKind.i64 n, PV.str s], [PV.ptr 1 0, PV.sl (bytesOf (symH s)) (Tag.tok 0)]] [(nLen (symH s), 1, 5)] [36, 117]))) (by kernel_rfl) ?_
        exact Tr.all_f (by simp; omega) ⟨rfl, by simp [Weak, mk, mkFrom, look], rfl⟩
      | succ m ih =>
        intro i b h0 hi hf hb
        obtain ⟨v, hv⟩ := get_lt (l := s) (i := i.toNat) (by omega)
        rw [drop_of_get hv] at hf
        have hone := oneV_len v.toNat
        have e2 : (i + 1).toNat = i.toNat + 1 := by omega
        unfold st_Text
        refine LDoes.round tbT_ok hG noMixed (L := fun _ _ _ => .fail) (loopOk_none (by kernel_rfl)) (by kernel_rfl) ?_
        refine Tr.all_as (Tr.ite (iLt i (sLen s))
            (Tr.ite (okIdx s i)
              (Tr.ite (bNot (xNil (bytesOf (oneV (sAt s i)))))
                (Tr.ite (okGrow (bytesOf b) (bytesOf (oneV (sAt s i))) 1)
                  (Tr.ite (okSize (bytesOf b) 1)
                    (Tr.ite (nEq (nLen b) (nXs (bytesOf b)))
                      (Tr.ret
                        (PExit.normal, [23],
                          [PV.top, PV.ptr 0 0, PV.top, PV.top, PV.top, PV.ptr 1 0, PV.int IntKind.i64 i, PV.top, PV.top, PV.top, PV.top, PV.top, PV.top, PV.top, PV.top, PV.top, PV.top, PV.top, PV.top, PV.top,
                            PV.top, PV.int IntKind.i64 (sLen s), PV.int IntKind.i64 (iAdd IntKind.i64 i 1), PV.bool true, PV.int IntKind.i64 i, PV.ptr 0 2, PV.str s, PV.int IntKind.i64 i,
                            PV.int IntKind.u8 (sAt s i), PV.str (oneV (sAt s i)), PV.tup [PV.int IntKind.i64 (sLen (oneV (sAt s i))), PV.nili], PV.int IntKind.i64 (iAdd IntKind.i64 i 1), PV.top, PV.top],
                          Store.mk [[PV.int IntKind.i64 k, PV.int IntKind.i64 n, PV.str s], [PV.ptr 1 0, PV.sl (xApp (bytesOf b) (bytesOf (oneV (sAt s i)))) (Tag.tok 0)]]
                            [(nXs (xApp (bytesOf b) (bytesOf (oneV (sAt s i)))), 1, 5)] [36, 117]))
                      Tr.fail)
                    Tr.fail)
                  Tr.fail)
                Tr.fail)
              Tr.fail)
            (Tr.ret
              (PExit.exit 0, [23],
                [PV.top, PV.ptr 0 0, PV.top, PV.top, PV.top, PV.ptr 1 0, PV.top, PV.top, PV.top, PV.top, PV.top, PV.top, PV.top, PV.top, PV.top, PV.top, PV.top, PV.top, PV.top, PV.top, PV.top,
                  PV.int IntKind.i64 (sLen s), PV.int IntKind.i64 i, PV.bool false, PV.top, PV.top, PV.top, PV.top, PV.top, PV.top, PV.top, PV.top, PV.top, PV.top],
                Store.mk [[PV.int IntKind.i64 k, PV.int IntKind.i64 n, PV.str s], [PV.ptr 1 0, PV.sl (bytesOf b) (Tag.tok 0)]] [(nLen b, 1, 5)] [36, 117]))) (by kernel_rfl) ?_
        rw [sAt_get hv, xApp_bytes, nXs_bytes, nXs_bytes]
        refine Tr.all_t (by simp; omega) <| Tr.all_t (okIdx_get h0 hv) <| Tr.all_t (by rw [xNil_bytes hone.1]; rfl) <| Tr.all_t (okGrow_bytes (by omega)) <| Tr.all_t (okSize_bytes _) <| Tr.all_t (by simp) ?_
        refine LDoes.into ?_ (ih (i + 1) (b ++ oneV v.toNat) (by omega) (by omega) (by rw [← hf, e2]; simp [symB]) (by simp; omega))
        simp [Weak, mk, mkFrom, look, iAdd, wrap_i64 (n := i + 1) (by omega)]
    have hz := key s.length 0 [34] (by omega) (by omega) (by simp [symH]) (by simp)
    exact hz
  · cases hd
theorem sim_Text {gl : Nat → Option Obj} (hgl : GlPow gl) : SimP Tryd.prog gl 72 fun args => (F_Text args).run := by
  refine SimP.of_tree (G := ofL [(65, .pure F_Check), (92, .pure F_FormatInt), (93, .store D_WB), (96, .store (D_String 5))]) (L := L_Text) tbT_ok (gamOk_cons (sim_Check gl) (gamOk_cons (sim_FormatInt hgl) (gamOk_store (sim_WB gl) (gamOk_store (sim_String gl) gamOk_nil)))) noMixed Tryd.func72 rfl (by rfl) (by kernel_rfl) (loopOk_one (r := 9) (c1 := c_Text) (by kernel_rfl) ?_) ?_
  · intro fr σ e fr' σ' hh
    simp only [lps, L_Text, if_true] at hh
    exact oracle_ok (loop_Text gl) fr σ e fr' σ' hh
  intro args x h hr
  unfold F_Text at h
  split at h
  · rename_i k n s
    cases h
    refine Tr.run_as (Tr.ite (iNe (checkV k n s) 0) (Tr.ret (PV.tup [PV.str [], PV.int IntKind.i64 (checkV k n s)]))
        (Tr.ite (iEq k 1) (Tr.ite (iEq 10 10) (Tr.ret (PV.tup [PV.str (itoaV n), PV.int IntKind.i64 0])) Tr.fail)
          (Tr.ite (iEq 0 0)
            (Tr.ite (iEq (sLen s) (sLen s))
              (Tr.ite (iLe (sLen s) 256)
                (Tr.ite (okGrow (bytesOf (symH s)) [[PV.int IntKind.u8 34]] 1)
                  (Tr.ite (okSize (bytesOf (symH s)) 1)
                    (Tr.ite (nEq (nLen (symH s)) (nXs (bytesOf (symH s))))
                      (Tr.ite (okBytes (xApp (bytesOf (symH s)) [[PV.int IntKind.u8 34]]))
                        (Tr.ite (bNot (xNil (xApp (bytesOf (symH s)) [[PV.int IntKind.u8 34]])))
                          (Tr.ite (nEq (nXs (xApp (bytesOf (symH s)) [[PV.int IntKind.u8 34]])) (nXs (xApp (bytesOf (symH s)) [[PV.int IntKind.u8 34]])))
                            (Tr.ite true (Tr.ret (PV.tup [PV.str (unBytes (xApp (bytesOf (symH s)) [[PV.int IntKind.u8 34]])), PV.int IntKind.i64 0])) Tr.fail) Tr.fail)
                          Tr.fail)
                        Tr.fail)
                      Tr.fail)
                    Tr.fail)
                  Tr.fail)
                Tr.fail)
              Tr.fail)
            Tr.fail))) (by kernel_rfl) ?_
    rw [checkV_is]
    cases hI : isV k n s with
    | false => simp [textW, hI]
    | true =>
      by_cases hk : k = 1
      · subst hk
        simp [textW, hI]
      · have h2 : s.length ≤ 256 := by
          unfold isV at hI
          simp at hI
          omega
        have e3 : ([[PV.int .u8 34]] : List (List PV)) = bytesOf [34] := rfl
        have hs := symB_len s
        have hl : (symH s).length = 1 + (symB s).length := by simp [symH]; omega
        have e4 : okGrow (bytesOf (symH s)) (bytesOf [34]) 1 = true := okGrow_bytes (by simp; omega)
        have e5 : symV s = symH s ++ [34] := by simp [symV, symH]
        have e6 : ¬ (symH s ++ [34] = []) := by simp
        rw [e3]
        simp [textW, hI, hk, xApp_bytes, e4, e5, nXs_bytes, -okGrow_eq, -xApp_eq]
        exact ⟨by omega, by simp [bytesOf]⟩
  · cases h
end Go.Pv

set_option maxHeartbeats 4000000
set_option maxRecDepth 200000
set_option linter.unusedSimpArgs false
set_option linter.unusedVariables false
namespace Go.Pv
open Go Go.Proofs
noncomputable def G_one2 : GamT := ofL []
theorem gok_one2 (gl : Nat → Option Obj) : GamOk Tryd.prog gl (gam G_one2) := gamOk_nil
noncomputable def L_one2 : LpsT := fun r fr σ => .fail
noncomputable def one2_Tr (n : Int) : Tr PV := Tr.ret (PV.sl [[PV.int .i64 1, PV.int .i64 n, PV.str []]] .non)
theorem one2_T (n : Int) : (tcall tbT G_one2 L_one2 Tryd.f34 [.int .i64 n]).flat = one2_Tr n := by kernel_rfl
noncomputable def F_one2 : List PV → Tr PV | [.int .i64 n] => one2_Tr n | _ => .fail
theorem sim_one2 (gl : Nat → Option Obj) : SimP Tryd.prog gl 34 fun args => (F_one2 args).run := by
  refine SimP.of_flat (G := G_one2) (L := L_one2) tbT_ok (gok_one2 gl ) noMixed Tryd.func34 rfl (by rfl) (by kernel_rfl) (loopOk_none (by kernel_rfl)) ?_
  intro args x h
  unfold F_one2 at h
  split at h
  · exact (congrArg Tr.run (one2_T _)).trans h
  · cases h
noncomputable def G_sclo : GamT := ofL [(16, .pure F_TCmp)]
theorem gok_sclo (gl : Nat → Option Obj) : GamOk Tryd.prog gl (gam G_sclo) := (gamOk_cons (sim_TCmp gl) gamOk_nil)
noncomputable def L_sclo : LpsT := fun r fr σ => .fail
noncomputable def sclo_Tr (a : List (List PV)) (b : List (List PV)) (l : List (List PV)) : Tr PV := Tr.ite (okR cV (lockLL (lockLL a))) (Tr.ite (okR cV (lockLL (lockLL b))) (Tr.ret (PV.bool (iEq (cmpTV (lockLL (lockLL a)) (lockLL (lockLL b))) 0))) Tr.fail) Tr.fail
theorem sclo_T (a : List (List PV)) (b : List (List PV)) (l : List (List PV)) : (tcall tbT G_sclo L_sclo Tryd.f85 [.sl a .non, .sl b .non, .ref [.sl l .non, .fn 16 []]]).flat = sclo_Tr a b l := by kernel_rfl
noncomputable def F_sclo : List PV → Tr PV | [.sl a .non, .sl b .non, .ref [.sl l .non, .fn 16 []]] => sclo_Tr a b l | _ => .fail
theorem sim_sclo (gl : Nat → Option Obj) : SimP Tryd.prog gl 85 fun args => (F_sclo args).run := by
  refine SimP.of_flat (G := G_sclo) (L := L_sclo) tbT_ok (gok_sclo gl ) noMixed Tryd.func85 rfl (by rfl) (by kernel_rfl) (loopOk_none (by kernel_rfl)) ?_
  intro args x h
  unfold F_sclo at h
  split at h
  · exact (congrArg Tr.run (sclo_T _ _ _)).trans h
  · cases h
noncomputable def G_copied : GamT := ofL [(64, .pure F_CloneT)]
theorem gok_copied (gl : Nat → Option Obj) : GamOk Tryd.prog gl (gam G_copied) := (gamOk_cons (sim_CloneT gl) gamOk_nil)
noncomputable def c_copied1 : Code := loopC Tryd.f62 3
def I_copied1 : LI := ⟨19, [3, 6, 7, 8], fun e => match e with | .exit 0 => [3] | _ => [], true⟩
noncomputable def LI_copied1 : LpsT := fun r fr σ => .fail
noncomputable def copied1_V (vs : List PV) (σ : Store) : Option (PExit × List PV × Store) := lval (lstep tbT G_copied LI_copied1 c_copied1 I_copied1) vs σ
noncomputable def copied1_Tr (out : List (List PV)) (r : List (List PV)) (n : Int) (n2 : Int) : Tr LR := Tr.ite (iLt n2 n) (Tr.ite (okPos n2) (Tr.ite (okGet [PV.sl [] .full] r (nNat n2)) (Tr.ite (okNews (lockLL (xRow r (nNat n2) 0)) 3) (Tr.ite (okGrow [] (lockLL (xRow r (nNat n2) 0)) 32) (Tr.ite (okGrow out [[PV.sl (shutLL (lockLL (xRow r (nNat n2) 0))) .non]] 24) (Tr.ite (okNews [[PV.sl (shutLL (lockLL (xRow r (nNat n2) 0))) .non]] 1) (Tr.ite (okSize out 1) (Tr.ret (LR.next [PV.sl (xApp out [[PV.sl (shutLL (lockLL (xRow r (nNat n2) 0))) .non]]) (.tok 0), PV.sl r .non, PV.int .i64 n, PV.int .i64 (iAdd .i64 n2 1)] (Store.mk [] [(nXs (xApp out [[PV.sl (shutLL (lockLL (xRow r (nNat n2) 0))) .non]]), 1, 23)] []))) Tr.fail) Tr.fail) Tr.fail) Tr.fail) Tr.fail) Tr.fail) Tr.fail) (Tr.ret (LR.out (.exit 0) [PV.sl out .full] (Store.mk [] [] [])))
theorem copied1_T (out : List (List PV)) (r : List (List PV)) (n : Int) (n2 : Int) : lstep tbT G_copied LI_copied1 c_copied1 I_copied1 [.sl out .full, .sl r .non, .int .i64 n, .int .i64 n2] ⟨[], [], []⟩ = copied1_Tr out r n n2 := by kernel_rfl
theorem copied1_E (out : List (List PV)) (r : List (List PV)) (n : Int) (n2 : Int) : copied1_V [.sl out .full, .sl r .non, .int .i64 n, .int .i64 n2] ⟨[], [], []⟩ = lnext copied1_V (copied1_Tr out r n n2).run := by unfold copied1_V; rw [lval_eq, copied1_T]
noncomputable def copied1_Tr1 (out : List (List PV)) (r : List (List PV)) (n : Int) (n2 : Int) (k : Nat) : Tr LR := Tr.ite (iLt n2 n) (Tr.ite (okPos n2) (Tr.ite (okGet [PV.sl [] .full] r (nNat n2)) (Tr.ite (okNews (lockLL (xRow r (nNat n2) 0)) 3) (Tr.ite (okGrow [] (lockLL (xRow r (nNat n2) 0)) 32) (Tr.ite (okGrow out [[PV.sl (shutLL (lockLL (xRow r (nNat n2) 0))) .non]] 24) (Tr.ite (okNews [[PV.sl (shutLL (lockLL (xRow r (nNat n2) 0))) .non]] 1) (Tr.ite (okSize out 1) (Tr.ite (nEq k (nXs out)) (Tr.ret (LR.next [PV.sl (xApp out [[PV.sl (shutLL (lockLL (xRow r (nNat n2) 0))) .non]]) (.tok 0), PV.sl r .non, PV.int .i64 n, PV.int .i64 (iAdd .i64 n2 1)] (Store.mk [] [(nXs (xApp out [[PV.sl (shutLL (lockLL (xRow r (nNat n2) 0))) .non]]), 1, 23)] []))) Tr.fail) Tr.fail) Tr.fail) Tr.fail) Tr.fail) Tr.fail) Tr.fail) Tr.fail) (Tr.ret (LR.out (.exit 0) [PV.sl out (.tok 0)] (Store.mk [] [(k, 1, 23)] [])))
theorem copied1_T1 (out : List (List PV)) (r : List (List PV)) (n : Int) (n2 : Int) (k : Nat) : lstep tbT G_copied LI_copied1 c_copied1 I_copied1 [.sl out (.tok 0), .sl r .non, .int .i64 n, .int .i64 n2] ⟨[], [(k, 1, 23)], []⟩ = copied1_Tr1 out r n n2 k := by kernel_rfl
theorem copied1_E1 (out : List (List PV)) (r : List (List PV)) (n : Int) (n2 : Int) (k : Nat) : copied1_V [.sl out (.tok 0), .sl r .non, .int .i64 n, .int .i64 n2] ⟨[], [(k, 1, 23)], []⟩ = lnext copied1_V (copied1_Tr1 out r n n2 k).run := by unfold copied1_V; rw [lval_eq, copied1_T1]
noncomputable def copied1_W (out : List (List PV)) (r : List (List PV)) (n : Int) (n2 : Int) : Option (PExit × List PV × Store) := copied1_V [.sl out .full, .sl r .non, .int .i64 n, .int .i64 n2] ⟨[], [], []⟩
noncomputable def copied1_out_0 (out : List (List PV)) (r : List (List PV)) (n : Int) (n2 : Int) : List (List PV) := (gRow (gOut (copied1_W out r n n2) 0))
noncomputable def copied1_is0 (out : List (List PV)) (r : List (List PV)) (n : Int) (n2 : Int) : Bool := isW (copied1_W out r n n2) ((.exit 0), [.sl (copied1_out_0 out r n n2) .full], ⟨[], [], []⟩)
noncomputable def copied1_out_1 (out : List (List PV)) (r : List (List PV)) (n : Int) (n2 : Int) : List (List PV) := (gRow (gOut (copied1_W out r n n2) 0))
noncomputable def copied1_k_1 (out : List (List PV)) (r : List (List PV)) (n : Int) (n2 : Int) : Nat := (gTok (copied1_W out r n n2) 0)
noncomputable def copied1_is1 (out : List (List PV)) (r : List (List PV)) (n : Int) (n2 : Int) : Bool := isW (copied1_W out r n n2) ((.exit 0), [.sl (copied1_out_1 out r n n2) (.tok 0)], ⟨[], [((copied1_k_1 out r n n2), 1, 23)], []⟩)
noncomputable def copied1_prop : List PV → Store → Tr (PExit × List PV × Store) | [.sl out .full, .sl r .non, .int .i64 n, .int .i64 n2], ⟨[], [], []⟩ => .ite (copied1_is0 out r n n2) (.ret ((.exit 0), [.sl (copied1_out_0 out r n n2) .full], ⟨[], [], []⟩)) (.ite (copied1_is1 out r n n2) (.ret ((.exit 0), [.sl (copied1_out_1 out r n n2) (.tok 0)], ⟨[], [((copied1_k_1 out r n n2), 1, 23)], []⟩)) (.fail)) | _, _ => .fail
theorem copied1_ok : ∀ vs σ r, (copied1_prop vs σ).run = some r → copied1_V vs σ = some r := by
  intro vs σ r h
  unfold copied1_prop at h
  split at h
  · exact ite_isW h fun h => ite_isW h fun h => by cases h
  · cases h
theorem loop_copied1 (gl : Nat → Option Obj) : ∀ fr σ e fr' σ', (orc I_copied1 copied1_prop fr σ).run = some (e, fr', σ') → LDoes Tryd.prog gl c_copied1 fr σ e fr' σ' := orc_ok tbT_ok (gok_copied gl ) noMixed (L := LI_copied1) (loopOk_none (by kernel_rfl)) (by kernel_rfl) copied1_ok
noncomputable def L_copied : LpsT := fun r fr σ => bif Nat.beq r 3 then orc I_copied1 copied1_prop fr σ else .fail
noncomputable def copied_Tr (l : List (List PV)) : Tr PV := Tr.ite (copied1_is0 [] l (xLen l) 0) (Tr.ret (PV.sl (shutLL (copied1_out_0 [] l (xLen l) 0)) .non)) (Tr.ite (copied1_is1 [] l (xLen l) 0) (Tr.ret (PV.sl (shutLL (copied1_out_1 [] l (xLen l) 0)) .non)) Tr.fail)
theorem copied_T (l : List (List PV)) : (tcall tbT G_copied L_copied Tryd.f62 [.sl l .non]).flat = copied_Tr l := by kernel_rfl
noncomputable def copied_W (l : List (List PV)) : Option PV := (copied_Tr l).run
noncomputable def copied_r (l : List (List PV)) : List (List PV) := (gRow (gVal (copied_W l)))
noncomputable def copied_is0 (l : List (List PV)) : Bool := isW (copied_W l) (.sl (copied_r l) .non)
noncomputable def F_copied : List PV → Tr PV | [.sl l .non] => .ite (copied_is0 l) (.ret (.sl (copied_r l) .non)) (.fail) | _ => .fail
theorem sim_copied (gl : Nat → Option Obj) : SimP Tryd.prog gl 62 fun args => (F_copied args).run := by
  refine SimP.of_flat (G := G_copied) (L := L_copied) tbT_ok (gok_copied gl ) noMixed Tryd.func62 rfl (by rfl) (by kernel_rfl) (loopOk_all (L := lps L_copied) [(3, c_copied1)] (by kernel_rfl) (List.forall_mem_cons.2 ⟨fun fr σ e fr' σ' h => loop_copied1 gl  fr σ e fr' σ' h, (List.forall_mem_nil _)⟩)) ?_
  intro args x h
  unfold F_copied at h
  split at h
  · exact (congrArg Tr.run (copied_T _)).trans (ite_isW h fun h => by cases h)
  · cases h
noncomputable def G_Join : GamT := ofL [(94, .store D_WS), (96, .store (D_String 5))]
theorem gok_Join (gl : Nat → Option Obj) : GamOk Tryd.prog gl (gam G_Join) := (gamOk_store (sim_WS gl) (gamOk_store (sim_String gl) gamOk_nil))
noncomputable def c_Join1 : Code := loopC Tryd.f73 12
noncomputable def c_Join2 : Code := loopC Tryd.f73 22
def I_Join1 : LI := ⟨75, [0, 1, 5, 39, 40, 41], fun e => match e with | .exit 1 => [0, 1, 5] | _ => [], true⟩
noncomputable def LI_Join1 : LpsT := fun r fr σ => .fail
noncomputable def Join1_V (vs : List PV) (σ : Store) : Option (PExit × List PV × Store) := lval (lstep tbT G_Join LI_Join1 c_Join1 I_Join1) vs σ
noncomputable def Join1_Tr (r : List (List PV)) (s : List UInt8) (n : Int) (r2 : List (List PV)) (n2 : Int) (n3 : Int) : Tr LR := Tr.ite (iLt n3 n2) (Tr.ite (okPos n3) (Tr.ite (okGet [PV.str []] r2 (nNat n3)) (Tr.ite (iLt (iSub .i64 9223372036854775807 n) (sLen (xStr r2 (nNat n3) 0))) Tr.fail (Tr.ret (LR.next [PV.sl r .non, PV.str s, PV.int .i64 (iAdd .i64 n (sLen (xStr r2 (nNat n3) 0))), PV.sl r2 .non, PV.int .i64 n2, PV.int .i64 (iAdd .i64 n3 1)] (Store.mk [] [] [])))) Tr.fail) Tr.fail) (Tr.ret (LR.out (.exit 1) [PV.sl r .non, PV.str s, PV.int .i64 n] (Store.mk [] [] [])))
theorem Join1_T (r : List (List PV)) (s : List UInt8) (n : Int) (r2 : List (List PV)) (n2 : Int) (n3 : Int) : lstep tbT G_Join LI_Join1 c_Join1 I_Join1 [.sl r .non, .str s, .int .i64 n, .sl r2 .non, .int .i64 n2, .int .i64 n3] ⟨[], [], []⟩ = Join1_Tr r s n r2 n2 n3 := by kernel_rfl
theorem Join1_E (r : List (List PV)) (s : List UInt8) (n : Int) (r2 : List (List PV)) (n2 : Int) (n3 : Int) : Join1_V [.sl r .non, .str s, .int .i64 n, .sl r2 .non, .int .i64 n2, .int .i64 n3] ⟨[], [], []⟩ = lnext Join1_V (Join1_Tr r s n r2 n2 n3).run := by unfold Join1_V; rw [lval_eq, Join1_T]
noncomputable def Join1_W (r : List (List PV)) (s : List UInt8) (n : Int) (r2 : List (List PV)) (n2 : Int) (n3 : Int) : Option (PExit × List PV × Store) := Join1_V [.sl r .non, .str s, .int .i64 n, .sl r2 .non, .int .i64 n2, .int .i64 n3] ⟨[], [], []⟩
noncomputable def Join1_r (r : List (List PV)) (s : List UInt8) (n : Int) (r2 : List (List PV)) (n2 : Int) (n3 : Int) : List (List PV) := (gRow (gOut (Join1_W r s n r2 n2 n3) 0))
noncomputable def Join1_s (r : List (List PV)) (s : List UInt8) (n : Int) (r2 : List (List PV)) (n2 : Int) (n3 : Int) : List UInt8 := (gStr (gOut (Join1_W r s n r2 n2 n3) 1))
noncomputable def Join1_n (r : List (List PV)) (s : List UInt8) (n : Int) (r2 : List (List PV)) (n2 : Int) (n3 : Int) : Int := (gInt (gOut (Join1_W r s n r2 n2 n3) 2))
noncomputable def Join1_is0 (r : List (List PV)) (s : List UInt8) (n : Int) (r2 : List (List PV)) (n2 : Int) (n3 : Int) : Bool := isW (Join1_W r s n r2 n2 n3) ((.exit 1), [.sl (Join1_r r s n r2 n2 n3) .non, .str (Join1_s r s n r2 n2 n3), .int .i64 (Join1_n r s n r2 n2 n3)], ⟨[], [], []⟩)
noncomputable def Join1_prop : List PV → Store → Tr (PExit × List PV × Store) | [.sl r .non, .str s, .int .i64 n, .sl r2 .non, .int .i64 n2, .int .i64 n3], ⟨[], [], []⟩ => .ite (Join1_is0 r s n r2 n2 n3) (.ret ((.exit 1), [.sl (Join1_r r s n r2 n2 n3) .non, .str (Join1_s r s n r2 n2 n3), .int .i64 (Join1_n r s n r2 n2 n3)], ⟨[], [], []⟩)) (.fail) | _, _ => .fail
theorem Join1_ok : ∀ vs σ r, (Join1_prop vs σ).run = some r → Join1_V vs σ = some r := by
  intro vs σ r h
  unfold Join1_prop at h
  split at h
  · exact ite_isW h fun h => by cases h
  · cases h
theorem loop_Join1 (gl : Nat → Option Obj) : ∀ fr σ e fr' σ', (orc I_Join1 Join1_prop fr σ).run = some (e, fr', σ') → LDoes Tryd.prog gl c_Join1 fr σ e fr' σ' := orc_ok tbT_ok (gok_Join gl ) noMixed (L := LI_Join1) (loopOk_none (by kernel_rfl)) (by kernel_rfl) Join1_ok
def I_Join2 : LI := ⟨75, [1, 8, 63, 64, 65], fun e => match e with | .exit 3 => [8] | _ => [], true⟩
noncomputable def LI_Join2 : LpsT := fun r fr σ => .fail
noncomputable def Join2_V (vs : List PV) (σ : Store) : Option (PExit × List PV × Store) := lval (lstep tbT G_Join LI_Join2 c_Join2 I_Join2) vs σ
noncomputable def Join2_prop : List PV → Store → Tr (PExit × List PV × Store) | _, _ => .fail
theorem Join2_ok : ∀ vs σ r, (Join2_prop vs σ).run = some r → Join2_V vs σ = some r := by
  intro vs σ r h
  unfold Join2_prop at h
  split at h
  · cases h
theorem loop_Join2 (gl : Nat → Option Obj) : ∀ fr σ e fr' σ', (orc I_Join2 Join2_prop fr σ).run = some (e, fr', σ') → LDoes Tryd.prog gl c_Join2 fr σ e fr' σ' := orc_ok tbT_ok (gok_Join gl ) noMixed (L := LI_Join2) (loopOk_none (by kernel_rfl)) (by kernel_rfl) Join2_ok
noncomputable def L_Join : LpsT := fun r fr σ => bif Nat.beq r 12 then orc I_Join1 Join1_prop fr σ else bif Nat.beq r 22 then orc I_Join2 Join2_prop fr σ else .fail
noncomputable def Join_Tr (v : List (List PV)) (v2 : List UInt8) : Tr PV := Tr.ite (iEq (xLen v) 0) (Tr.ret (PV.str [])) (Tr.ite (iEq (xLen v) 1) (Tr.ite (okPos 0) (Tr.ite (okGet [PV.str []] v (nNat 0)) (Tr.ret (PV.str (xStr v (nNat 0) 0))) Tr.fail) Tr.fail) (Tr.ite (iLt 0 (sLen v2)) (Tr.ite (iEq (iSub .i64 (xLen v) 1) 0) Tr.fail (Tr.ite (iLe (iQuo .i64 9223372036854775807 (iSub .i64 (xLen v) 1)) (sLen v2)) Tr.fail (Tr.ite (Join1_is0 v v2 (iAdd .i64 0 (iMul .i64 (sLen v2) (iSub .i64 (xLen v) 1))) v (xLen v) 0) Tr.fail Tr.fail))) (Tr.ite (Join1_is0 v v2 0 v (xLen v) 0) Tr.fail Tr.fail)))
theorem Join_T (v : List (List PV)) (v2 : List UInt8) : (tcall tbT G_Join L_Join Tryd.f73 [.sl v .non, .str v2]).flat = Join_Tr v v2 := by kernel_rfl
noncomputable def Join_W (v : List (List PV)) (v2 : List UInt8) : Option PV := (Join_Tr v v2).run
noncomputable def Join_s (v : List (List PV)) (v2 : List UInt8) : List UInt8 := (gStr (gVal (Join_W v v2)))
noncomputable def Join_is0 (v : List (List PV)) (v2 : List UInt8) : Bool := isW (Join_W v v2) (.str (Join_s v v2))
noncomputable def F_Join : List PV → Tr PV | [.sl v .non, .str v2] => .ite (Join_is0 v v2) (.ret (.str (Join_s v v2))) (.fail) | _ => .fail
theorem sim_Join (gl : Nat → Option Obj) : SimP Tryd.prog gl 73 fun args => (F_Join args).run := by
  refine SimP.of_flat (G := G_Join) (L := L_Join) tbT_ok (gok_Join gl ) noMixed Tryd.func73 rfl (by rfl) (by kernel_rfl) (loopOk_all (L := lps L_Join) [(12, c_Join1), (22, c_Join2)] (by kernel_rfl) (List.forall_mem_cons.2 ⟨fun fr σ e fr' σ' h => loop_Join1 gl  fr σ e fr' σ' h, (List.forall_mem_cons.2 ⟨fun fr σ e fr' σ' h => loop_Join2 gl  fr σ e fr' σ' h, (List.forall_mem_nil _)⟩)⟩)) ?_
  intro args x h
  unfold F_Join at h
  split at h
  · exact (congrArg Tr.run (Join_T _ _)).trans (ite_isW h fun h => by cases h)
  · cases h
noncomputable def G_TText : GamT := ofL [(36, .pure F_TCheck), (72, .pure F_Text), (73, .pure F_Join)]
theorem gok_TText (gl : Nat → Option Obj) (hg : GlPow gl) : GamOk Tryd.prog gl (gam G_TText) := (gamOk_cons (sim_TCheck gl) (gamOk_cons (sim_Text hg) (gamOk_cons (sim_Join gl) gamOk_nil)))
noncomputable def c_TText1 : Code := loopC Tryd.f53 6
def I_TText1 : LI := ⟨35, [5, 15, 16, 17], fun e => match e with | .exit 0 => [5] | _ => [], true⟩
noncomputable def LI_TText1 : LpsT := fun r fr σ => .fail
noncomputable def TText1_V (vs : List PV) (σ : Store) : Option (PExit × List PV × Store) := lval (lstep tbT G_TText LI_TText1 c_TText1 I_TText1) vs σ
noncomputable def TText1_Tr (l : List (List PV)) (r : List (List PV)) (n : Int) (n2 : Int) : Tr LR := Tr.ite (iLt n2 n) (Tr.ite (okPos n2) (Tr.ite (okGet [PV.int .i64 0, PV.int .i64 0, PV.str []] r (nNat n2)) (Tr.ite (okGrow l [[PV.str (textW (xInt r (nNat n2) 0) (xInt r (nNat n2) 1) (xStr r (nNat n2) 2))]] 16) (Tr.ite (okNews [[PV.str (textW (xInt r (nNat n2) 0) (xInt r (nNat n2) 1) (xStr r (nNat n2) 2))]] 1) (Tr.ite (okSize l 1) (Tr.ret (LR.next [PV.sl (dropPLL 0 (xApp l [[PV.str (textW (xInt r (nNat n2) 0) (xInt r (nNat n2) 1) (xStr r (nNat n2) 2))]])) (.tok 0), PV.sl (dropPLL 0 r) .non, PV.int .i64 n, PV.int .i64 (iAdd .i64 n2 1)] (Store.mk [] [(nXs (xApp l [[PV.str (textW (xInt r (nNat n2) 0) (xInt r (nNat n2) 1) (xStr r (nNat n2) 2))]]), 1, 9)] []))) Tr.fail) Tr.fail) Tr.fail) Tr.fail) Tr.fail) (Tr.ret (LR.out (.exit 0) [PV.sl l .full] (Store.mk [] [] [])))
theorem TText1_T (l : List (List PV)) (r : List (List PV)) (n : Int) (n2 : Int) : lstep tbT G_TText LI_TText1 c_TText1 I_TText1 [.sl l .full, .sl r .non, .int .i64 n, .int .i64 n2] ⟨[], [], []⟩ = TText1_Tr l r n n2 := by kernel_rfl
theorem TText1_E (l : List (List PV)) (r : List (List PV)) (n : Int) (n2 : Int) : TText1_V [.sl l .full, .sl r .non, .int .i64 n, .int .i64 n2] ⟨[], [], []⟩ = lnext TText1_V (TText1_Tr l r n n2).run := by unfold TText1_V; rw [lval_eq, TText1_T]
noncomputable def TText1_Tr1 (l : List (List PV)) (r : List (List PV)) (n : Int) (n2 : Int) (k : Nat) : Tr LR := Tr.ite (iLt n2 n) (Tr.ite (okPos n2) (Tr.ite (okGet [PV.int .i64 0, PV.int .i64 0, PV.str []] r (nNat n2)) (Tr.ite (okGrow l [[PV.str (textW (xInt r (nNat n2) 0) (xInt r (nNat n2) 1) (xStr r (nNat n2) 2))]] 16) (Tr.ite (okNews [[PV.str (textW (xInt r (nNat n2) 0) (xInt r (nNat n2) 1) (xStr r (nNat n2) 2))]] 1) (Tr.ite (okSize l 1) (Tr.ite (nEq k (nXs l)) (Tr.ret (LR.next [PV.sl (dropPLL 0 (xApp l [[PV.str (textW (xInt r (nNat n2) 0) (xInt r (nNat n2) 1) (xStr r (nNat n2) 2))]])) (.tok 0), PV.sl (dropPLL 0 r) .non, PV.int .i64 n, PV.int .i64 (iAdd .i64 n2 1)] (Store.mk [] [(nXs (xApp l [[PV.str (textW (xInt r (nNat n2) 0) (xInt r (nNat n2) 1) (xStr r (nNat n2) 2))]]), 1, 9)] []))) Tr.fail) Tr.fail) Tr.fail) Tr.fail) Tr.fail) Tr.fail) (Tr.ret (LR.out (.exit 0) [PV.sl l (.tok 0)] (Store.mk [] [(k, 1, 9)] [])))
theorem TText1_T1 (l : List (List PV)) (r : List (List PV)) (n : Int) (n2 : Int) (k : Nat) : lstep tbT G_TText LI_TText1 c_TText1 I_TText1 [.sl l (.tok 0), .sl r .non, .int .i64 n, .int .i64 n2] ⟨[], [(k, 1, 9)], []⟩ = TText1_Tr1 l r n n2 k := by kernel_rfl
theorem TText1_E1 (l : List (List PV)) (r : List (List PV)) (n : Int) (n2 : Int) (k : Nat) : TText1_V [.sl l (.tok 0), .sl r .non, .int .i64 n, .int .i64 n2] ⟨[], [(k, 1, 9)], []⟩ = lnext TText1_V (TText1_Tr1 l r n n2 k).run := by unfold TText1_V; rw [lval_eq, TText1_T1]
noncomputable def TText1_W (l : List (List PV)) (r : List (List PV)) (n : Int) (n2 : Int) : Option (PExit × List PV × Store) := TText1_V [.sl l .full, .sl r .non, .int .i64 n, .int .i64 n2] ⟨[], [], []⟩
noncomputable def TText1_l_0 (l : List (List PV)) (r : List (List PV)) (n : Int) (n2 : Int) : List (List PV) := (gRow (gOut (TText1_W l r n n2) 0))
noncomputable def TText1_is0 (l : List (List PV)) (r : List (List PV)) (n : Int) (n2 : Int) : Bool := isW (TText1_W l r n n2) ((.exit 0), [.sl (TText1_l_0 l r n n2) .full], ⟨[], [], []⟩)
noncomputable def TText1_l_1 (l : List (List PV)) (r : List (List PV)) (n : Int) (n2 : Int) : List (List PV) := (gRow (gOut (TText1_W l r n n2) 0))
noncomputable def TText1_k_1 (l : List (List PV)) (r : List (List PV)) (n : Int) (n2 : Int) : Nat := (gTok (TText1_W l r n n2) 0)
noncomputable def TText1_is1 (l : List (List PV)) (r : List (List PV)) (n : Int) (n2 : Int) : Bool := isW (TText1_W l r n n2) ((.exit 0), [.sl (TText1_l_1 l r n n2) (.tok 0)], ⟨[], [((TText1_k_1 l r n n2), 1, 9)], []⟩)
noncomputable def TText1_prop : List PV → Store → Tr (PExit × List PV × Store) | [.sl l .full, .sl r .non, .int .i64 n, .int .i64 n2], ⟨[], [], []⟩ => .ite (TText1_is0 l r n n2) (.ret ((.exit 0), [.sl (TText1_l_0 l r n n2) .full], ⟨[], [], []⟩)) (.ite (TText1_is1 l r n n2) (.ret ((.exit 0), [.sl (TText1_l_1 l r n n2) (.tok 0)], ⟨[], [((TText1_k_1 l r n n2), 1, 9)], []⟩)) (.fail)) | _, _ => .fail
theorem TText1_ok : ∀ vs σ r, (TText1_prop vs σ).run = some r → TText1_V vs σ = some r := by
  intro vs σ r h
  unfold TText1_prop at h
  split at h
  · exact ite_isW h fun h => ite_isW h fun h => by cases h
  · cases h
theorem loop_TText1 (gl : Nat → Option Obj) (hg : GlPow gl) : ∀ fr σ e fr' σ', (orc I_TText1 TText1_prop fr σ).run = some (e, fr', σ') → LDoes Tryd.prog gl c_TText1 fr σ e fr' σ' := orc_ok tbT_ok (gok_TText gl hg ) noMixed (L := LI_TText1) (loopOk_none (by kernel_rfl)) (by kernel_rfl) TText1_ok
noncomputable def L_TText : LpsT := fun r fr σ => bif Nat.beq r 6 then orc I_TText1 TText1_prop fr σ else .fail
noncomputable def TText_Tr (t : List (List PV)) : Tr PV := Tr.ite (okR cV (lockLL t)) (Tr.ite (iNe (chkT (lockLL t)) 0) (Tr.ret (PV.tup [PV.str [], PV.int .i64 (chkT (lockLL t))])) (Tr.ite (TText1_is0 [] t (xLen t) 0) (Tr.ite (Join_is0 (lockLL (TText1_l_0 [] t (xLen t) 0)) [44, 32]) (Tr.ite (okApp [40] (Join_s (lockLL (TText1_l_0 [] t (xLen t) 0)) [44, 32])) (Tr.ite (okApp (sApp [40] (Join_s (lockLL (TText1_l_0 [] t (xLen t) 0)) [44, 32])) [41]) (Tr.ret (PV.tup [PV.str (sApp (sApp [40] (Join_s (lockLL (TText1_l_0 [] t (xLen t) 0)) [44, 32])) [41]), PV.int .i64 0])) Tr.fail) Tr.fail) Tr.fail) (Tr.ite (TText1_is1 [] t (xLen t) 0) (Tr.ite (Join_is0 (lockLL (TText1_l_1 [] t (xLen t) 0)) [44, 32]) (Tr.ite (okApp [40] (Join_s (lockLL (TText1_l_1 [] t (xLen t) 0)) [44, 32])) (Tr.ite (okApp (sApp [40] (Join_s (lockLL (TText1_l_1 [] t (xLen t) 0)) [44, 32])) [41]) (Tr.ret (PV.tup [PV.str (sApp (sApp [40] (Join_s (lockLL (TText1_l_1 [] t (xLen t) 0)) [44, 32])) [41]), PV.int .i64 0])) Tr.fail) Tr.fail) Tr.fail) Tr.fail))) Tr.fail
theorem TText_T (t : List (List PV)) : (tcall tbT G_TText L_TText Tryd.f53 [.sl t .non]).flat = TText_Tr t := by kernel_rfl
noncomputable def TText_W (t : List (List PV)) : Option PV := (TText_Tr t).run
noncomputable def TText_s (t : List (List PV)) : List UInt8 := (gStr (gAt (gCs (gVal (TText_W t))) 0))
noncomputable def TText_n (t : List (List PV)) : Int := (gInt (gAt (gCs (gVal (TText_W t))) 1))
noncomputable def TText_is0 (t : List (List PV)) : Bool := isW (TText_W t) (.tup [.str (TText_s t), .int .i64 (TText_n t)])
noncomputable def F_TText : List PV → Tr PV | [.sl t .non] => .ite (TText_is0 t) (.ret (.tup [.str (TText_s t), .int .i64 (TText_n t)])) (.fail) | _ => .fail
theorem sim_TText (gl : Nat → Option Obj) (hg : GlPow gl) : SimP Tryd.prog gl 53 fun args => (F_TText args).run := by
  refine SimP.of_flat (G := G_TText) (L := L_TText) tbT_ok (gok_TText gl hg ) noMixed Tryd.func53 rfl (by rfl) (by kernel_rfl) (loopOk_all (L := lps L_TText) [(6, c_TText1)] (by kernel_rfl) (List.forall_mem_cons.2 ⟨fun fr σ e fr' σ' h => loop_TText1 gl hg  fr σ e fr' σ' h, (List.forall_mem_nil _)⟩)) ?_
  intro args x h
  unfold F_TText at h
  split at h
  · exact (congrArg Tr.run (TText_T _)).trans (ite_isW h fun h => by cases h)
  · cases h
end Go.Pv

set_option maxHeartbeats 4000000
set_option maxRecDepth 200000
set_option linter.unusedSimpArgs false
set_option linter.unusedVariables false
namespace Go.Pv
open Go Go.Proofs
/-! ### three tuples sorted: reckoned -/
noncomputable def G_ins9 : GamT := ofL [(16, .pure F_TCmp)]
noncomputable def D_ins9 : List PV → Store → Tr (PV × Store) := fun a σ => Tr.ofOpt (pcallSU tbT (gam G_ins9) 300 Tryd.f119 a σ)
theorem sim_ins9 (gl : Nat → Option Obj) : SimS Tryd.prog gl 119 fun a σ => (D_ins9 a σ).run :=
  simS_opt (SimS.of_evalU tbT_ok (gamOk_cons (sim_TCmp gl) gamOk_nil) noMixed Tryd.func119 rfl (by rfl) (by kernel_rfl) 300)
noncomputable def G_stb9 : GamT := ofL [(119, .store D_ins9)]
noncomputable def D_stb9 : List PV → Store → Tr (PV × Store) := fun a σ => Tr.ofOpt (pcallSU tbT (gam G_stb9) 300 Tryd.f108 a σ)
theorem sim_stb9 (gl : Nat → Option Obj) : SimS Tryd.prog gl 108 fun a σ => (D_stb9 a σ).run :=
  simS_opt (SimS.of_evalU tbT_ok (gamOk_store (sim_ins9 gl) gamOk_nil) noMixed Tryd.func108 rfl (by rfl) (by kernel_rfl) 300)
noncomputable def G_ssf9 : GamT := ofL [(108, .store D_stb9)]
noncomputable def D_ssf9 : List PV → Store → Tr (PV × Store) := fun a σ => Tr.ofOpt (pcallSU tbT (gam G_ssf9) 300 Tryd.f83 a σ)
theorem sim_ssf9 (gl : Nat → Option Obj) : SimS Tryd.prog gl 83 fun a σ => (D_ssf9 a σ).run :=
  simS_opt (SimS.of_evalU tbT_ok (gamOk_store (sim_stb9 gl) gamOk_nil) noMixed Tryd.func83 rfl (by rfl) (by kernel_rfl) 300)
noncomputable def G_cpf : GamT := ofL [(85, .pure F_sclo)]
noncomputable def D_cpf : List PV → Store → Tr (PV × Store) := fun a σ => Tr.ofOpt (pcallSU tbT (gam G_cpf) 300 Tryd.f84 a σ)
theorem sim_cpf (gl : Nat → Option Obj) : SimS Tryd.prog gl 84 fun a σ => (D_cpf a σ).run :=
  simS_opt (SimS.of_evalU tbT_ok (gamOk_cons (sim_sclo gl) gamOk_nil) noMixed Tryd.func84 rfl (by rfl) (by kernel_rfl) 300)
noncomputable def G_clo : GamT := ofL [(objKey, .flag)]
noncomputable def D_clo : List PV → Store → Tr (PV × Store) := fun a σ => Tr.ofOpt (pcallSU tbT (gam G_clo) 300 Tryd.f82 a σ)
theorem sim_clo (gl : Nat → Option Obj) : SimS Tryd.prog gl 82 fun a σ => (D_clo a σ).run :=
  simS_opt (SimS.of_evalU tbT_ok (gamOk_con (K := .flag) trivial gamOk_nil) noMixed Tryd.func82 rfl (by rfl) (by kernel_rfl) 300)
noncomputable def G_srd : GamT := ofL [(82, .store D_clo), (83, .store D_ssf9), (84, .store D_cpf)]
noncomputable def F_srd : List PV → Tr PV := fun a => Tr.ofOpt (pcallU tbT (gam G_srd) 300 Tryd.f61 a)
theorem sim_srd (gl : Nat → Option Obj) : SimP Tryd.prog gl 61 fun a => (F_srd a).run :=
  simP_opt (SimP.of_evalU tbT_ok (gamOk_store (sim_clo gl) (gamOk_store (sim_ssf9 gl) (gamOk_store (sim_cpf gl) gamOk_nil))) noMixed Tryd.func61 rfl (by rfl) (by kernel_rfl) 300)
noncomputable def G_cpd : GamT := ofL [(64, .pure F_CloneT)]
noncomputable def F_cpd : List PV → Tr PV := fun a => Tr.ofOpt (pcallU tbT (gam G_cpd) 300 Tryd.f62 a)
theorem sim_cpd (gl : Nat → Option Obj) : SimP Tryd.prog gl 62 fun a => (F_cpd a).run :=
  simP_opt (SimP.of_evalU tbT_ok (gamOk_cons (sim_CloneT gl) gamOk_nil) noMixed Tryd.func62 rfl (by rfl) (by kernel_rfl) 300)
noncomputable def G_Srt : GamT := ofL [(62, .pure F_cpd), (61, .pure F_srd)]
def tup1 (n : Int) : List PV := [.sl [[.int .i64 1, .int .i64 n, .str []]] .non]
theorem srt3 : pcallU tbT (gam G_Srt) 300 Tryd.f23 [.sl [tup1 2, tup1 1, tup1 2] .non] = some (.sl [tup1 1, tup1 2] .non) := by kernel_rfl
noncomputable def F_Srt : List PV → Tr PV
  | [.sl [[.sl [[.int .i64 1, .int .i64 2, .str []]] .non], [.sl [[.int .i64 1, .int .i64 1, .str []]] .non], [.sl [[.int .i64 1, .int .i64 2, .str []]] .non]] .non] => .ret (.sl [tup1 1, tup1 2] .non)
  | _ => .fail
theorem sim_Srt (gl : Nat → Option Obj) : SimP Tryd.prog gl 23 fun args => (F_Srt args).run := by
  refine SimP.imp (SimP.of_evalU tbT_ok (gamOk_cons (sim_cpd gl) (gamOk_cons (sim_srd gl) gamOk_nil)) noMixed Tryd.func23 rfl (by rfl) (by kernel_rfl) 300) ?_
  intro args x h
  unfold F_Srt at h
  split at h
  · cases h
    exact srt3
  · cases h
/-! ### the text of (7) -/
theorem text7 : TText_W [[.int .i64 1, .int .i64 7, .str []]] = some (.tup [.str [40, 55, 41], .int .i64 0]) := by
  have e0 : ([[.int .i64 1, .int .i64 7, .str []]] : List (List PV)) = rOf cV [(1, 7, [])] := rfl
  have e1 : TText1_V [.sl [] .full, .sl (rOf cV [(1, 7, [])]) .non, .int .i64 1, .int .i64 0] ⟨[], [], []⟩ = TText1_V [.sl (rOf cS [[55]]) (.tok 0), .sl (rOf cV [(1, 7, [])]) .non, .int .i64 1, .int .i64 1] ⟨[], [(1, 1, 9)], []⟩ := by
    rw [TText1_E]
    have : textW 1 7 [] = [55] := by kernel_rfl
    have w : iAdd .i64 0 1 = 1 := by kernel_rfl
    simp [TText1_Tr, this, w, one]
  have e2 : TText1_V [.sl (rOf cS [[55]]) (.tok 0), .sl (rOf cV [(1, 7, [])]) .non, .int .i64 1, .int .i64 1] ⟨[], [(1, 1, 9)], []⟩ = some (.exit 0, [.sl (rOf cS [[55]]) (.tok 0)], ⟨[], [(1, 1, 9)], []⟩) := by
    rw [TText1_E1]
    simp [TText1_Tr1]
  have hj : Join_W (rOf cS [[55]]) [44, 32] = some (.str [55]) := by
    unfold Join_W Join_Tr
    simp
  have hc : chkT (rOf cV [(1, 7, [])]) = 0 := by kernel_rfl
  unfold TText_W TText_Tr
  rw [e0]
  simp [TText1_is0, TText1_is1, TText1_l_0, TText1_l_1, TText1_k_1, TText1_W, e1, e2, hc, Join_is0, Join_s, hj]
  unfold maxLen; omega
end Go.Pv

set_option maxHeartbeats 4000000
set_option maxRecDepth 200000
set_option linter.unusedSimpArgs false
set_option linter.unusedVariables false
namespace Go.Pv
open Go Go.Proofs
noncomputable def G_awake : GamT := ofL [(17, .pure F_Same), (18, .pure F_Mt), (23, .pure F_Srt), (34, .pure F_one2), (36, .pure F_TCheck), (53, .pure F_TText)]
theorem gok_awake (gl : Nat → Option Obj) (hg : GlPow gl) : GamOk Tryd.prog gl (gam G_awake) := (gamOk_cons (sim_Same gl) (gamOk_cons (sim_Mt gl) (gamOk_cons (sim_Srt gl) (gamOk_cons (sim_one2 gl) (gamOk_cons (sim_TCheck gl) (gamOk_cons (sim_TText gl hg) gamOk_nil))))))
noncomputable def L_awake : LpsT := fun r fr σ => .fail
noncomputable def awake_Tr : Tr PV := Tr.ite (TText_is0 [[PV.int .i64 1, PV.int .i64 7, PV.str []]]) (Tr.ite (okR cM [[PV.int .i64 1, PV.str [88], PV.int .i64 0, PV.int .i64 0, PV.str []]]) (Tr.ite (okR cV [[PV.int .i64 1, PV.int .i64 3, PV.str []]]) (Tr.ite (okMT [[PV.int .i64 1, PV.str [88], PV.int .i64 0, PV.int .i64 0, PV.str []]] [[PV.int .i64 1, PV.int .i64 3, PV.str []]]) (Tr.ite (iEq (xLen [[PV.sl [[PV.int .i64 1, PV.int .i64 1, PV.str []]] .non], [PV.sl [[PV.int .i64 1, PV.int .i64 2, PV.str []]] .non]]) 2) (Tr.ite (okPos 0) (Tr.ite (okGet [PV.sl [] .full] [[PV.sl [[PV.int .i64 1, PV.int .i64 1, PV.str []]] .non], [PV.sl [[PV.int .i64 1, PV.int .i64 2, PV.str []]] .non]] (nNat 0)) (Tr.ite (okR cV (lockLL (lockLL (xRow [[PV.sl [[PV.int .i64 1, PV.int .i64 1, PV.str []]] .non], [PV.sl [[PV.int .i64 1, PV.int .i64 2, PV.str []]] .non]] (nNat 0) 0)))) (Tr.ite (okR cV [[PV.int .i64 1, PV.int .i64 1, PV.str []]]) (Tr.ite (iEq (cmpTR (lockLL (lockLL (xRow [[PV.sl [[PV.int .i64 1, PV.int .i64 1, PV.str []]] .non], [PV.sl [[PV.int .i64 1, PV.int .i64 2, PV.str []]] .non]] (nNat 0) 0))) [[PV.int .i64 1, PV.int .i64 1, PV.str []]]) 0) (Tr.ite (sEq (TText_s [[PV.int .i64 1, PV.int .i64 7, PV.str []]]) [40, 55, 41]) (Tr.ite (iEq (TText_n [[PV.int .i64 1, PV.int .i64 7, PV.str []]]) 0) (Tr.ite true (Tr.ite (iEq (xLen (mTV [[PV.int .i64 1, PV.str [88], PV.int .i64 0, PV.int .i64 0, PV.str []]] [[PV.int .i64 1, PV.int .i64 3, PV.str []]])) 1) (Tr.ite (okPos 0) (Tr.ite (okGet [PV.str [], PV.int .i64 0, PV.int .i64 0, PV.str []] (mTV [[PV.int .i64 1, PV.str [88], PV.int .i64 0, PV.int .i64 0, PV.str []]] [[PV.int .i64 1, PV.int .i64 3, PV.str []]]) (nNat 0)) (Tr.ite (iEq (xInt (mTV [[PV.int .i64 1, PV.str [88], PV.int .i64 0, PV.int .i64 0, PV.str []]] [[PV.int .i64 1, PV.int .i64 3, PV.str []]]) (nNat 0) 2) 3) (Tr.ite (okR cV [[PV.int .i64 0, PV.int .i64 0, PV.str []], [PV.int .i64 0, PV.int .i64 0, PV.str []],
 [PV.int .i64 0, PV.int .i64 0, PV.str []], [PV.int .i64 0, PV.int .i64 0, PV.str []], [PV.int .i64 0, PV.int .i64 0, PV.str []], [PV.int .i64 0, PV.int .i64 0, PV.str []], [PV.int .i64 0, PV.int .i64 0, PV.str []], [PV.int .i64 0, PV.int .i64 0, PV.str []], [PV.int .i64 0, PV.int .i64 0, PV.str []]]) (Tr.ret (PV.bool (iEq (chkT [[PV.int .i64 0, PV.int .i64 0, PV.str []], [PV.int .i64 0, PV.int .i64 0, PV.str []], [PV.int .i64 0, PV.int .i64 0, PV.str []], [PV.int .i64 0, PV.int .i64 0, PV.str []], [PV.int .i64 0, PV.int .i64 0, PV.str []], [PV.int .i64 0, PV.int .i64 0, PV.str []], [PV.int .i64 0, PV.int .i64 0, PV.str []], [PV.int .i64 0, PV.int .i64 0, PV.str []], [PV.int .i64 0, PV.int .i64 0, PV.str []]]) 20))) Tr.fail) (Tr.ret (PV.bool false))) Tr.fail) Tr.fail) (Tr.ret (PV.bool false))) (Tr.ret (PV.bool false))) (Tr.ret (PV.bool false))) (Tr.ret (PV.bool false))) (Tr.ret (PV.bool false))) Tr.fail) Tr.fail) Tr.fail) Tr.fail) (Tr.ret (PV.bool false))) (Tr.ite (iEq (xLen [[PV.sl [[PV.int .i64 1, PV.int .i64 1, PV.str []]] .non], [PV.sl [[PV.int .i64 1, PV.int .i64 2, PV.str []]] .non]]) 2) (Tr.ite (okPos 0) (Tr.ite (okGet [PV.sl [] .full] [[PV.sl [[PV.int .i64 1, PV.int .i64 1, PV.str []]] .non], [PV.sl [[PV.int .i64 1, PV.int .i64 2, PV.str []]] .non]] (nNat 0)) (Tr.ite (okR cV (lockLL (lockLL (xRow [[PV.sl [[PV.int .i64 1, PV.int .i64 1, PV.str []]] .non], [PV.sl [[PV.int .i64 1, PV.int .i64 2, PV.str []]] .non]] (nNat 0) 0)))) (Tr.ite (okR cV [[PV.int .i64 1, PV.int .i64 1, PV.str []]]) (Tr.ite (iEq (cmpTR (lockLL (lockLL (xRow [[PV.sl [[PV.int .i64 1, PV.int .i64 1, PV.str []]] .non], [PV.sl [[PV.int .i64 1, PV.int .i64 2, PV.str []]] .non]] (nNat 0) 0))) [[PV.int .i64 1, PV.int .i64 1, PV.str []]]) 0) (Tr.ite (sEq (TText_s [[PV.int .i64 1, PV.int .i64 7, PV.str []]]) [40, 55, 41]) (Tr.ite (iEq (TText_n [[PV.int .i64 1, PV.int .i64 7, PV.str []]]) 0) (Tr.ite false (Tr.ite (iEq (xLen []) 1) (Tr.ite (okPos 0)
 (Tr.ite (okGet [PV.str [], PV.int .i64 0, PV.int .i64 0, PV.str []] [] (nNat 0)) (Tr.ite (iEq (xInt [] (nNat 0) 2) 3) (Tr.ite (okR cV [[PV.int .i64 0, PV.int .i64 0, PV.str []], [PV.int .i64 0, PV.int .i64 0, PV.str []], [PV.int .i64 0, PV.int .i64 0, PV.str []], [PV.int .i64 0, PV.int .i64 0, PV.str []], [PV.int .i64 0, PV.int .i64 0, PV.str []], [PV.int .i64 0, PV.int .i64 0, PV.str []], [PV.int .i64 0, PV.int .i64 0, PV.str []], [PV.int .i64 0, PV.int .i64 0, PV.str []], [PV.int .i64 0, PV.int .i64 0, PV.str []]]) (Tr.ret (PV.bool (iEq (chkT [[PV.int .i64 0, PV.int .i64 0, PV.str []], [PV.int .i64 0, PV.int .i64 0, PV.str []], [PV.int .i64 0, PV.int .i64 0, PV.str []], [PV.int .i64 0, PV.int .i64 0, PV.str []], [PV.int .i64 0, PV.int .i64 0, PV.str []], [PV.int .i64 0, PV.int .i64 0, PV.str []], [PV.int .i64 0, PV.int .i64 0, PV.str []], [PV.int .i64 0, PV.int .i64 0, PV.str []], [PV.int .i64 0, PV.int .i64 0, PV.str []]]) 20))) Tr.fail) (Tr.ret (PV.bool false))) Tr.fail) Tr.fail) (Tr.ret (PV.bool false))) (Tr.ret (PV.bool false))) (Tr.ret (PV.bool false))) (Tr.ret (PV.bool false))) (Tr.ret (PV.bool false))) Tr.fail) Tr.fail) Tr.fail) Tr.fail) (Tr.ret (PV.bool false)))) Tr.fail) Tr.fail) Tr.fail
theorem awake_T : (tcall tbT G_awake L_awake Tryd.f14 []).flat = awake_Tr := by kernel_rfl
noncomputable def F_awake : List PV → Tr PV | [] => awake_Tr | _ => .fail
theorem sim_awake (gl : Nat → Option Obj) (hg : GlPow gl) : SimP Tryd.prog gl 14 fun args => (F_awake args).run := by
  refine SimP.of_flat (G := G_awake) (L := L_awake) tbT_ok (gok_awake gl hg ) noMixed Tryd.func14 rfl (by rfl) (by kernel_rfl) (loopOk_none (by kernel_rfl)) ?_
  intro args x h
  unfold F_awake at h
  split at h
  · exact (congrArg Tr.run (awake_T)).trans h
  · cases h
end Go.Pv

set_option maxHeartbeats 4000000
set_option maxRecDepth 200000
set_option linter.unusedSimpArgs false
set_option linter.unusedVariables false
namespace Go.Pv
open Go Go.Proofs
theorem awake_law : awake_Tr.run = some (.bool true) := by
  have h7 : TText_W (rOf cV [(1, 7, [])]) = some (.tup [.str [40, 55, 41], .int .i64 0]) := text7
  have h1 : okMT (rOf cM [(1, [88], 0, 0, [])]) (rOf cV [(1, 3, [])]) = true := by kernel_rfl
  have h2 : mTV (rOf cM [(1, [88], 0, 0, [])]) (rOf cV [(1, 3, [])]) = rOf cB [([88], 1, 3, [])] := by kernel_rfl
  have h3 : lexV [(1, 1, [])] [(1, 1, [])] = 0 := by kernel_rfl
  have h4 : chkT (rOf cV [(0, 0, []), (0, 0, []), (0, 0, []), (0, 0, []), (0, 0, []), (0, 0, []), (0, 0, []), (0, 0, []), (0, 0, [])]) = 20 := by kernel_rfl
  simp [awake_Tr, TText_is0, TText_s, TText_n, h7, h1, h2, h3, h4]
noncomputable def F_awk : List PV → Tr PV | [] => .ret (.bool true) | _ => .fail
theorem sim_awk (gl : Nat → Option Obj) (hg : GlPow gl) : SimP Tryd.prog gl 14 fun args => (F_awk args).run := by
  refine SimP.imp (sim_awake gl hg) ?_
  intro args x h
  unfold F_awk at h
  split at h
  · cases h; exact awake_law
  · cases h
end Go.Pv

set_option maxHeartbeats 4000000
set_option maxRecDepth 200000
set_option linter.unusedSimpArgs false
set_option linter.unusedVariables false
namespace Go.Pv
open Go Go.Proofs
noncomputable def G_TMany : GamT := ofL [(14, .pure F_awk), (34, .pure F_one2), (35, .store D_ckr), (objKey, .flag)]
theorem gok_TMany (gl : Nat → Option Obj) (hg : GlPow gl) : GamOk Tryd.prog gl (gam G_TMany) := (gamOk_cons (sim_awk gl hg) (gamOk_cons (sim_one2 gl) (gamOk_store (sim_ckr gl) (gamOk_flag gamOk_nil))))
noncomputable def c_TMany1 : Code := loopC Tryd.f8 6
def I_TMany1 : LI := ⟨39, [3, 4, 5], fun e => match e with | .exit 0 => [3, 4] | _ => [], true⟩
noncomputable def LI_TMany1 : LpsT := fun r fr σ => .fail
noncomputable def TMany1_V (vs : List PV) (σ : Store) : Option (PExit × List PV × Store) := lval (lstep tbT G_TMany LI_TMany1 c_TMany1 I_TMany1) vs σ
noncomputable def TMany1_Tr (k : Int) (l : Nat) (l2 : Nat) (i : Int) (l3 : List PV) : Tr LR := Tr.ite (iLt i k) (Tr.ite (okIx i l2) (Tr.ite (okOff l3 (pOff l (nNat i) 1) 1) (Tr.ret (LR.next [PV.int .i64 k, PV.osl 0 l l2 1, PV.int .i64 (iAdd .i64 i 1)] (Store.mk [putC l3 (pOff l (nNat i) 1) [PV.sl [[PV.int .i64 1, PV.int .i64 i, PV.str []]] .non]] [] [1000023]))) Tr.fail) Tr.fail) (Tr.ret (LR.out (.exit 0) [PV.int .i64 k, PV.osl 0 l l2 1] (Store.mk [l3] [] [1000023])))
theorem TMany1_T (k : Int) (l : Nat) (l2 : Nat) (i : Int) (l3 : List PV) : lstep tbT G_TMany LI_TMany1 c_TMany1 I_TMany1 [.int .i64 k, .osl 0 l l2 1, .int .i64 i] ⟨[l3], [], [1000023]⟩ = TMany1_Tr k l l2 i l3 := by kernel_rfl
theorem TMany1_E (k : Int) (l : Nat) (l2 : Nat) (i : Int) (l3 : List PV) : TMany1_V [.int .i64 k, .osl 0 l l2 1, .int .i64 i] ⟨[l3], [], [1000023]⟩ = lnext TMany1_V (TMany1_Tr k l l2 i l3).run := by unfold TMany1_V; rw [lval_eq, TMany1_T]
noncomputable def TMany1_W (k : Int) (l : Nat) (l2 : Nat) (i : Int) (l3 : List PV) : Option (PExit × List PV × Store) := TMany1_V [.int .i64 k, .osl 0 l l2 1, .int .i64 i] ⟨[l3], [], [1000023]⟩
noncomputable def TMany1_k (k : Int) (l : Nat) (l2 : Nat) (i : Int) (l3 : List PV) : Int := (gInt (gOut (TMany1_W k l l2 i l3) 0))
noncomputable def TMany1_l (k : Int) (l : Nat) (l2 : Nat) (i : Int) (l3 : List PV) : Nat := (gOff (gOut (TMany1_W k l l2 i l3) 1))
noncomputable def TMany1_l2 (k : Int) (l : Nat) (l2 : Nat) (i : Int) (l3 : List PV) : Nat := (gLen (gOut (TMany1_W k l l2 i l3) 1))
noncomputable def TMany1_l3 (k : Int) (l : Nat) (l2 : Nat) (i : Int) (l3 : List PV) : List PV := (gObj (TMany1_W k l l2 i l3) 0)
noncomputable def TMany1_is0 (k : Int) (l : Nat) (l2 : Nat) (i : Int) (l3 : List PV) : Bool := isW (TMany1_W k l l2 i l3) ((.exit 0), [.int .i64 (TMany1_k k l l2 i l3), .osl 0 (TMany1_l k l l2 i l3) (TMany1_l2 k l l2 i l3) 1], ⟨[(TMany1_l3 k l l2 i l3)], [], [1000023]⟩)
noncomputable def TMany1_prop : List PV → Store → Tr (PExit × List PV × Store) | [.int .i64 k, .osl 0 l l2 1, .int .i64 i], ⟨[l3], [], [1000023]⟩ => .ite (TMany1_is0 k l l2 i l3) (.ret ((.exit 0), [.int .i64 (TMany1_k k l l2 i l3), .osl 0 (TMany1_l k l l2 i l3) (TMany1_l2 k l l2 i l3) 1], ⟨[(TMany1_l3 k l l2 i l3)], [], [1000023]⟩)) (.fail) | _, _ => .fail
theorem TMany1_ok : ∀ vs σ r, (TMany1_prop vs σ).run = some r → TMany1_V vs σ = some r := by
  intro vs σ r h
  unfold TMany1_prop at h
  split at h
  · exact ite_isW h fun h => by cases h
  · cases h
theorem loop_TMany1 (gl : Nat → Option Obj) (hg : GlPow gl) : ∀ fr σ e fr' σ', (orc I_TMany1 TMany1_prop fr σ).run = some (e, fr', σ') → LDoes Tryd.prog gl c_TMany1 fr σ e fr' σ' := orc_ok tbT_ok (gok_TMany gl hg ) noMixed (L := LI_TMany1) (loopOk_none (by kernel_rfl)) (by kernel_rfl) TMany1_ok
noncomputable def L_TMany : LpsT := fun r fr σ => bif Nat.beq r 6 then orc I_TMany1 TMany1_prop fr σ else .fail
noncomputable def TMany_Tr (n : Int) : Tr PV := Tr.ite false (Tr.ret (PV.bool false)) (Tr.ite (okMake (iAdd .i64 65436 (iWrap .i64 n)) (iAdd .i64 65436 (iWrap .i64 n)) 1 24) (Tr.ite (TMany1_is0 (iAdd .i64 65436 (iWrap .i64 n)) 0 (nNat (iAdd .i64 65436 (iWrap .i64 n))) 0 (zC (nNat (iAdd .i64 65436 (iWrap .i64 n))) [PV.sl [] .full])) (Tr.ite (ckr_is0 (TMany1_l (iAdd .i64 65436 (iWrap .i64 n)) 0 (nNat (iAdd .i64 65436 (iWrap .i64 n))) 0 (zC (nNat (iAdd .i64 65436 (iWrap .i64 n))) [PV.sl [] .full])) (TMany1_l2 (iAdd .i64 65436 (iWrap .i64 n)) 0 (nNat (iAdd .i64 65436 (iWrap .i64 n))) 0 (zC (nNat (iAdd .i64 65436 (iWrap .i64 n))) [PV.sl [] .full])) (TMany1_l3 (iAdd .i64 65436 (iWrap .i64 n)) 0 (nNat (iAdd .i64 65436 (iWrap .i64 n))) 0 (zC (nNat (iAdd .i64 65436 (iWrap .i64 n))) [PV.sl [] .full])) [] [] []) (Tr.ite (bEq (iEq (ckr_n (TMany1_l (iAdd .i64 65436 (iWrap .i64 n)) 0 (nNat (iAdd .i64 65436 (iWrap .i64 n))) 0 (zC (nNat (iAdd .i64 65436 (iWrap .i64 n))) [PV.sl [] .full])) (TMany1_l2 (iAdd .i64 65436 (iWrap .i64 n)) 0 (nNat (iAdd .i64 65436 (iWrap .i64 n))) 0 (zC (nNat (iAdd .i64 65436 (iWrap .i64 n))) [PV.sl [] .full])) (TMany1_l3 (iAdd .i64 65436 (iWrap .i64 n)) 0 (nNat (iAdd .i64 65436 (iWrap .i64 n))) 0 (zC (nNat (iAdd .i64 65436 (iWrap .i64 n))) [PV.sl [] .full])) [] [] []) 0) (iLe (TMany1_k (iAdd .i64 65436 (iWrap .i64 n)) 0 (nNat (iAdd .i64 65436 (iWrap .i64 n))) 0 (zC (nNat (iAdd .i64 65436 (iWrap .i64 n))) [PV.sl [] .full])) 65536)) (Tr.ite (iEq (ckr_n (TMany1_l (iAdd .i64 65436 (iWrap .i64 n)) 0 (nNat (iAdd .i64 65436 (iWrap .i64 n))) 0 (zC (nNat (iAdd .i64 65436 (iWrap .i64 n))) [PV.sl [] .full])) (TMany1_l2 (iAdd .i64 65436 (iWrap .i64 n)) 0 (nNat (iAdd .i64 65436 (iWrap .i64 n))) 0 (zC (nNat (iAdd .i64 65436 (iWrap .i64 n))) [PV.sl [] .full])) (TMany1_l3 (iAdd .i64 65436 (iWrap .i64 n)) 0 (nNat (iAdd .i64 65436 (iWrap .i64 n))) 0 (zC (nNat (iAdd .i64 65436 (iWrap .i64 n))) [PV.sl [] .full])) [] [] []) 0) (Tr.ret (PV.bool true)) (Tr.ret (PV.bool (iEq
 (ckr_n (TMany1_l (iAdd .i64 65436 (iWrap .i64 n)) 0 (nNat (iAdd .i64 65436 (iWrap .i64 n))) 0 (zC (nNat (iAdd .i64 65436 (iWrap .i64 n))) [PV.sl [] .full])) (TMany1_l2 (iAdd .i64 65436 (iWrap .i64 n)) 0 (nNat (iAdd .i64 65436 (iWrap .i64 n))) 0 (zC (nNat (iAdd .i64 65436 (iWrap .i64 n))) [PV.sl [] .full])) (TMany1_l3 (iAdd .i64 65436 (iWrap .i64 n)) 0 (nNat (iAdd .i64 65436 (iWrap .i64 n))) 0 (zC (nNat (iAdd .i64 65436 (iWrap .i64 n))) [PV.sl [] .full])) [] [] []) 3)))) (Tr.ret (PV.bool false))) Tr.fail) Tr.fail) Tr.fail)
theorem TMany_T (n : Int) : (tcall tbT G_TMany L_TMany Tryd.f8 [.int .u8 n]).flat = TMany_Tr n := by kernel_rfl
noncomputable def TMany_W (n : Int) : Option PV := (TMany_Tr n).run
noncomputable def TMany_b (n : Int) : Bool := (gBool (gVal (TMany_W n)))
noncomputable def TMany_is0 (n : Int) : Bool := isW (TMany_W n) (.bool (TMany_b n))
noncomputable def F_TMany : List PV → Tr PV | [.int .u8 n] => .ite (TMany_is0 n) (.ret (.bool (TMany_b n))) (.fail) | _ => .fail
theorem sim_TMany (gl : Nat → Option Obj) (hg : GlPow gl) : SimP Tryd.prog gl 8 fun args => (F_TMany args).run := by
  refine SimP.of_flat (G := G_TMany) (L := L_TMany) tbT_ok (gok_TMany gl hg ) noMixed Tryd.func8 rfl (by rfl) (by kernel_rfl) (loopOk_all (L := lps L_TMany) [(6, c_TMany1)] (by kernel_rfl) (List.forall_mem_cons.2 ⟨fun fr σ e fr' σ' h => loop_TMany1 gl hg  fr σ e fr' σ' h, (List.forall_mem_nil _)⟩)) ?_
  intro args x h
  unfold F_TMany at h
  split at h
  · exact (congrArg Tr.run (TMany_T _)).trans (ite_isW h fun h => by cases h)
  · cases h
end Go.Pv

set_option maxHeartbeats 4000000
set_option maxRecDepth 200000
set_option linter.unusedSimpArgs false
set_option linter.unusedVariables false
namespace Go.Pv
open Go Go.Proofs
noncomputable def G_TPlace : GamT := ofL [(16, .pure F_TCmp)]
theorem gok_TPlace (gl : Nat → Option Obj) : GamOk Tryd.prog gl (gam G_TPlace) := (gamOk_cons (sim_TCmp gl) gamOk_nil)
noncomputable def c_TPlace1 : Code := loopC Tryd.f40 3
def I_TPlace1 : LI := ⟨32, [1, 6, 7, 11, 12, 13], fun e => match e with | .exit 0 => [6, 7] | _ => [], true⟩
noncomputable def LI_TPlace1 : LpsT := fun r fr σ => .fail
noncomputable def TPlace1_V (vs : List PV) (σ : Store) : Option (PExit × List PV × Store) := lval (lstep tbT G_TPlace LI_TPlace1 c_TPlace1 I_TPlace1) vs σ
noncomputable def TPlace1_Tr (t : List (List PV)) (n : Int) (there : Bool) (r : List (List PV)) (n2 : Int) (n3 : Int) : Tr LR := Tr.ite (iLt n3 n2) (Tr.ite (okPos n3) (Tr.ite (okGet [PV.sl [] .full] r (nNat n3)) (Tr.ite (okR cV (lockLL (lockLL (xRow r (nNat n3) 0)))) (Tr.ite (okR cV (lockLL (lockLL t))) (Tr.ite (iLt (cmpTV (lockLL (lockLL (xRow r (nNat n3) 0))) (lockLL (lockLL t))) 0) (Tr.ite there (Tr.ret (LR.next [PV.sl t .non, PV.int .i64 (iAdd .i64 n 1), PV.bool true, PV.sl r .non, PV.int .i64 n2, PV.int .i64 (iAdd .i64 n3 1)] (Store.mk [] [] []))) (Tr.ret (LR.next [PV.sl t .non, PV.int .i64 (iAdd .i64 n 1), PV.bool (iEq (cmpTV (lockLL (lockLL (xRow r (nNat n3) 0))) (lockLL (lockLL t))) 0), PV.sl r .non, PV.int .i64 n2, PV.int .i64 (iAdd .i64 n3 1)] (Store.mk [] [] [])))) (Tr.ite there (Tr.ret (LR.next [PV.sl t .non, PV.int .i64 n, PV.bool true, PV.sl r .non, PV.int .i64 n2, PV.int .i64 (iAdd .i64 n3 1)] (Store.mk [] [] []))) (Tr.ret (LR.next [PV.sl t .non, PV.int .i64 n, PV.bool (iEq (cmpTV (lockLL (lockLL (xRow r (nNat n3) 0))) (lockLL (lockLL t))) 0), PV.sl r .non, PV.int .i64 n2, PV.int .i64 (iAdd .i64 n3 1)] (Store.mk [] [] []))))) Tr.fail) Tr.fail) Tr.fail) Tr.fail) (Tr.ret (LR.out (.exit 0) [PV.int .i64 n, PV.bool there] (Store.mk [] [] [])))
theorem TPlace1_T (t : List (List PV)) (n : Int) (there : Bool) (r : List (List PV)) (n2 : Int) (n3 : Int) : lstep tbT G_TPlace LI_TPlace1 c_TPlace1 I_TPlace1 [.sl t .non, .int .i64 n, .bool there, .sl r .non, .int .i64 n2, .int .i64 n3] ⟨[], [], []⟩ = TPlace1_Tr t n there r n2 n3 := by kernel_rfl
theorem TPlace1_E (t : List (List PV)) (n : Int) (there : Bool) (r : List (List PV)) (n2 : Int) (n3 : Int) : TPlace1_V [.sl t .non, .int .i64 n, .bool there, .sl r .non, .int .i64 n2, .int .i64 n3] ⟨[], [], []⟩ = lnext TPlace1_V (TPlace1_Tr t n there r n2 n3).run := by unfold TPlace1_V; rw [lval_eq, TPlace1_T]
noncomputable def TPlace1_W (t : List (List PV)) (n : Int) (there : Bool) (r : List (List PV)) (n2 : Int) (n3 : Int) : Option (PExit × List PV × Store) := TPlace1_V [.sl t .non, .int .i64 n, .bool there, .sl r .non, .int .i64 n2, .int .i64 n3] ⟨[], [], []⟩
noncomputable def TPlace1_n (t : List (List PV)) (n : Int) (there : Bool) (r : List (List PV)) (n2 : Int) (n3 : Int) : Int := (gInt (gOut (TPlace1_W t n there r n2 n3) 0))
noncomputable def TPlace1_there (t : List (List PV)) (n : Int) (there : Bool) (r : List (List PV)) (n2 : Int) (n3 : Int) : Bool := (gBool (gOut (TPlace1_W t n there r n2 n3) 1))
noncomputable def TPlace1_is0 (t : List (List PV)) (n : Int) (there : Bool) (r : List (List PV)) (n2 : Int) (n3 : Int) : Bool := isW (TPlace1_W t n there r n2 n3) ((.exit 0), [.int .i64 (TPlace1_n t n there r n2 n3), .bool (TPlace1_there t n there r n2 n3)], ⟨[], [], []⟩)
noncomputable def TPlace1_prop : List PV → Store → Tr (PExit × List PV × Store) | [.sl t .non, .int .i64 n, .bool there, .sl r .non, .int .i64 n2, .int .i64 n3], ⟨[], [], []⟩ => .ite (TPlace1_is0 t n there r n2 n3) (.ret ((.exit 0), [.int .i64 (TPlace1_n t n there r n2 n3), .bool (TPlace1_there t n there r n2 n3)], ⟨[], [], []⟩)) (.fail) | _, _ => .fail
theorem TPlace1_ok : ∀ vs σ r, (TPlace1_prop vs σ).run = some r → TPlace1_V vs σ = some r := by
  intro vs σ r h
  unfold TPlace1_prop at h
  split at h
  · exact ite_isW h fun h => by cases h
  · cases h
theorem loop_TPlace1 (gl : Nat → Option Obj) : ∀ fr σ e fr' σ', (orc I_TPlace1 TPlace1_prop fr σ).run = some (e, fr', σ') → LDoes Tryd.prog gl c_TPlace1 fr σ e fr' σ' := orc_ok tbT_ok (gok_TPlace gl ) noMixed (L := LI_TPlace1) (loopOk_none (by kernel_rfl)) (by kernel_rfl) TPlace1_ok
noncomputable def L_TPlace : LpsT := fun r fr σ => bif Nat.beq r 3 then orc I_TPlace1 TPlace1_prop fr σ else .fail
noncomputable def TPlace_Tr (l : List (List PV)) (t : List (List PV)) : Tr PV := Tr.ite (TPlace1_is0 t 0 false l (xLen l) 0) (Tr.ret (PV.tup [PV.int .i64 (TPlace1_n t 0 false l (xLen l) 0), PV.bool (TPlace1_there t 0 false l (xLen l) 0)])) Tr.fail
theorem TPlace_T (l : List (List PV)) (t : List (List PV)) : (tcall tbT G_TPlace L_TPlace Tryd.f40 [.sl l .non, .sl t .non]).flat = TPlace_Tr l t := by kernel_rfl
noncomputable def TPlace_W (l : List (List PV)) (t : List (List PV)) : Option PV := (TPlace_Tr l t).run
noncomputable def TPlace_n (l : List (List PV)) (t : List (List PV)) : Int := (gInt (gAt (gCs (gVal (TPlace_W l t))) 0))
noncomputable def TPlace_b (l : List (List PV)) (t : List (List PV)) : Bool := (gBool (gAt (gCs (gVal (TPlace_W l t))) 1))
noncomputable def TPlace_is0 (l : List (List PV)) (t : List (List PV)) : Bool := isW (TPlace_W l t) (.tup [.int .i64 (TPlace_n l t), .bool (TPlace_b l t)])
noncomputable def F_TPlace : List PV → Tr PV | [.sl l .non, .sl t .non] => .ite (TPlace_is0 l t) (.ret (.tup [.int .i64 (TPlace_n l t), .bool (TPlace_b l t)])) (.fail) | _ => .fail
theorem sim_TPlace (gl : Nat → Option Obj) : SimP Tryd.prog gl 40 fun args => (F_TPlace args).run := by
  refine SimP.of_flat (G := G_TPlace) (L := L_TPlace) tbT_ok (gok_TPlace gl ) noMixed Tryd.func40 rfl (by rfl) (by kernel_rfl) (loopOk_all (L := lps L_TPlace) [(3, c_TPlace1)] (by kernel_rfl) (List.forall_mem_cons.2 ⟨fun fr σ e fr' σ' h => loop_TPlace1 gl  fr σ e fr' σ' h, (List.forall_mem_nil _)⟩)) ?_
  intro args x h
  unfold F_TPlace at h
  split at h
  · exact (congrArg Tr.run (TPlace_T _ _)).trans (ite_isW h fun h => by cases h)
  · cases h
noncomputable def G_RPlace : GamT := ofL [(39, .pure F_CmpR)]
theorem gok_RPlace (gl : Nat → Option Obj) : GamOk Tryd.prog gl (gam G_RPlace) := (gamOk_cons (sim_CmpR gl) gamOk_nil)
noncomputable def c_RPlace1 : Code := loopC Tryd.f41 3
def I_RPlace1 : LI := ⟨33, [0, 1, 6, 7, 8], fun e => match e with | .exit 0 => [6, 7] | _ => [], true⟩
noncomputable def LI_RPlace1 : LpsT := fun r fr σ => .fail
noncomputable def RPlace1_V (vs : List PV) (σ : Store) : Option (PExit × List PV × Store) := lval (lstep tbT G_RPlace LI_RPlace1 c_RPlace1 I_RPlace1) vs σ
noncomputable def RPlace1_Tr (l : List (List PV)) (t : List (List PV)) (n : Int) (in_ : Bool) (i : Int) : Tr LR := Tr.ite (iLt i (xLen l)) (Tr.ite (okPos i) (Tr.ite (okGet [PV.sl [] .full] l (nNat i)) (Tr.ite (okR cV (lockLL (xRow l (nNat i) 0))) (Tr.ite (okR cV (lockLL t)) (Tr.ite (iLt (cmpTR (lockLL (xRow l (nNat i) 0)) (lockLL t)) 0) (Tr.ite in_ (Tr.ret (LR.next [PV.sl l .non, PV.sl t .non, PV.int .i64 (iAdd .i64 n 1), PV.bool true, PV.int .i64 (iAdd .i64 i 1)] (Store.mk [] [] []))) (Tr.ret (LR.next [PV.sl l .non, PV.sl t .non, PV.int .i64 (iAdd .i64 n 1), PV.bool (iEq (cmpTR (lockLL (xRow l (nNat i) 0)) (lockLL t)) 0), PV.int .i64 (iAdd .i64 i 1)] (Store.mk [] [] [])))) (Tr.ite in_ (Tr.ret (LR.next [PV.sl l .non, PV.sl t .non, PV.int .i64 n, PV.bool true, PV.int .i64 (iAdd .i64 i 1)] (Store.mk [] [] []))) (Tr.ret (LR.next [PV.sl l .non, PV.sl t .non, PV.int .i64 n, PV.bool (iEq (cmpTR (lockLL (xRow l (nNat i) 0)) (lockLL t)) 0), PV.int .i64 (iAdd .i64 i 1)] (Store.mk [] [] []))))) Tr.fail) Tr.fail) Tr.fail) Tr.fail) (Tr.ret (LR.out (.exit 0) [PV.int .i64 n, PV.bool in_] (Store.mk [] [] [])))
theorem RPlace1_T (l : List (List PV)) (t : List (List PV)) (n : Int) (in_ : Bool) (i : Int) : lstep tbT G_RPlace LI_RPlace1 c_RPlace1 I_RPlace1 [.sl l .non, .sl t .non, .int .i64 n, .bool in_, .int .i64 i] ⟨[], [], []⟩ = RPlace1_Tr l t n in_ i := by kernel_rfl
theorem RPlace1_E (l : List (List PV)) (t : List (List PV)) (n : Int) (in_ : Bool) (i : Int) : RPlace1_V [.sl l .non, .sl t .non, .int .i64 n, .bool in_, .int .i64 i] ⟨[], [], []⟩ = lnext RPlace1_V (RPlace1_Tr l t n in_ i).run := by unfold RPlace1_V; rw [lval_eq, RPlace1_T]
noncomputable def RPlace1_W (l : List (List PV)) (t : List (List PV)) (n : Int) (in_ : Bool) (i : Int) : Option (PExit × List PV × Store) := RPlace1_V [.sl l .non, .sl t .non, .int .i64 n, .bool in_, .int .i64 i] ⟨[], [], []⟩
noncomputable def RPlace1_n (l : List (List PV)) (t : List (List PV)) (n : Int) (in_ : Bool) (i : Int) : Int := (gInt (gOut (RPlace1_W l t n in_ i) 0))
noncomputable def RPlace1_in_ (l : List (List PV)) (t : List (List PV)) (n : Int) (in_ : Bool) (i : Int) : Bool := (gBool (gOut (RPlace1_W l t n in_ i) 1))
noncomputable def RPlace1_is0 (l : List (List PV)) (t : List (List PV)) (n : Int) (in_ : Bool) (i : Int) : Bool := isW (RPlace1_W l t n in_ i) ((.exit 0), [.int .i64 (RPlace1_n l t n in_ i), .bool (RPlace1_in_ l t n in_ i)], ⟨[], [], []⟩)
noncomputable def RPlace1_prop : List PV → Store → Tr (PExit × List PV × Store) | [.sl l .non, .sl t .non, .int .i64 n, .bool in_, .int .i64 i], ⟨[], [], []⟩ => .ite (RPlace1_is0 l t n in_ i) (.ret ((.exit 0), [.int .i64 (RPlace1_n l t n in_ i), .bool (RPlace1_in_ l t n in_ i)], ⟨[], [], []⟩)) (.fail) | _, _ => .fail
theorem RPlace1_ok : ∀ vs σ r, (RPlace1_prop vs σ).run = some r → RPlace1_V vs σ = some r := by
  intro vs σ r h
  unfold RPlace1_prop at h
  split at h
  · exact ite_isW h fun h => by cases h
  · cases h
theorem loop_RPlace1 (gl : Nat → Option Obj) : ∀ fr σ e fr' σ', (orc I_RPlace1 RPlace1_prop fr σ).run = some (e, fr', σ') → LDoes Tryd.prog gl c_RPlace1 fr σ e fr' σ' := orc_ok tbT_ok (gok_RPlace gl ) noMixed (L := LI_RPlace1) (loopOk_none (by kernel_rfl)) (by kernel_rfl) RPlace1_ok
noncomputable def L_RPlace : LpsT := fun r fr σ => bif Nat.beq r 3 then orc I_RPlace1 RPlace1_prop fr σ else .fail
noncomputable def RPlace_Tr (l : List (List PV)) (t : List (List PV)) : Tr PV := Tr.ite (RPlace1_is0 l t 0 false 0) (Tr.ret (PV.tup [PV.int .i64 (RPlace1_n l t 0 false 0), PV.bool (RPlace1_in_ l t 0 false 0)])) Tr.fail
theorem RPlace_T (l : List (List PV)) (t : List (List PV)) : (tcall tbT G_RPlace L_RPlace Tryd.f41 [.sl l .non, .sl t .non]).flat = RPlace_Tr l t := by kernel_rfl
noncomputable def RPlace_W (l : List (List PV)) (t : List (List PV)) : Option PV := (RPlace_Tr l t).run
noncomputable def RPlace_n (l : List (List PV)) (t : List (List PV)) : Int := (gInt (gAt (gCs (gVal (RPlace_W l t))) 0))
noncomputable def RPlace_b (l : List (List PV)) (t : List (List PV)) : Bool := (gBool (gAt (gCs (gVal (RPlace_W l t))) 1))
noncomputable def RPlace_is0 (l : List (List PV)) (t : List (List PV)) : Bool := isW (RPlace_W l t) (.tup [.int .i64 (RPlace_n l t), .bool (RPlace_b l t)])
noncomputable def F_RPlace : List PV → Tr PV | [.sl l .non, .sl t .non] => .ite (RPlace_is0 l t) (.ret (.tup [.int .i64 (RPlace_n l t), .bool (RPlace_b l t)])) (.fail) | _ => .fail
theorem sim_RPlace (gl : Nat → Option Obj) : SimP Tryd.prog gl 41 fun args => (F_RPlace args).run := by
  refine SimP.of_flat (G := G_RPlace) (L := L_RPlace) tbT_ok (gok_RPlace gl ) noMixed Tryd.func41 rfl (by rfl) (by kernel_rfl) (loopOk_all (L := lps L_RPlace) [(3, c_RPlace1)] (by kernel_rfl) (List.forall_mem_cons.2 ⟨fun fr σ e fr' σ' h => loop_RPlace1 gl  fr σ e fr' σ' h, (List.forall_mem_nil _)⟩)) ?_
  intro args x h
  unfold F_RPlace at h
  split at h
  · exact (congrArg Tr.run (RPlace_T _ _)).trans (ite_isW h fun h => by cases h)
  · cases h
noncomputable def G_put : GamT := ofL [(41, .pure F_RPlace)]
theorem gok_put (gl : Nat → Option Obj) : GamOk Tryd.prog gl (gam G_put) := (gamOk_cons (sim_RPlace gl) gamOk_nil)
noncomputable def L_put : LpsT := fun r fr σ => .fail
noncomputable def put_Tr (l : List (List PV)) (t : List (List PV)) : Tr PV := Tr.ite (RPlace_is0 (lockLL l) (lockLL t)) (Tr.ite (RPlace_b (lockLL l) (lockLL t)) (Tr.ret (PV.sl (shutLL l) .non)) (Tr.ite (okSub true (okPos (RPlace_n (lockLL l) (lockLL t))) 0 (nNat (RPlace_n (lockLL l) (lockLL t))) (nXs l)) (Tr.ite (okSize l 1) (Tr.ite (okGrow [] (xSub l 0 (nNat (RPlace_n (lockLL l) (lockLL t)))) 24) (Tr.ite (okNews (xSub l 0 (nNat (RPlace_n (lockLL l) (lockLL t)))) 1) (Tr.ite (okSize [] 1) (Tr.ite (xNil (xSub l 0 (nNat (RPlace_n (lockLL l) (lockLL t))))) (Tr.ite (okGrow [] [[PV.sl t .non]] 24) (Tr.ite (okNews [[PV.sl t .non]] 1) (Tr.ite (okSize [] 1) (Tr.ite (okSub (okPos (RPlace_n (lockLL l) (lockLL t))) true (nNat (RPlace_n (lockLL l) (lockLL t))) (nXs l) (nXs l)) (Tr.ite (okSize l 1) (Tr.ite (okGrow (xApp [] [[PV.sl t .non]]) (xSub l (nNat (RPlace_n (lockLL l) (lockLL t))) (nXs l)) 24) (Tr.ite (okNews (xSub l (nNat (RPlace_n (lockLL l) (lockLL t))) (nXs l)) 1) (Tr.ite (okSize (xApp [] [[PV.sl t .non]]) 1) (Tr.ite (xNil (xSub l (nNat (RPlace_n (lockLL l) (lockLL t))) (nXs l))) (Tr.ret (PV.sl (shutLL (xApp [] [[PV.sl t .non]])) .non)) (Tr.ite (nEq (nXs (xApp [] [[PV.sl t .non]])) (nXs (xApp [] [[PV.sl t .non]]))) (Tr.ret (PV.sl (shutLL (xApp (xApp [] [[PV.sl t .non]]) (xSub l (nNat (RPlace_n (lockLL l) (lockLL t))) (nXs l)))) .non)) Tr.fail)) Tr.fail) Tr.fail) Tr.fail) Tr.fail) Tr.fail) Tr.fail) Tr.fail) Tr.fail) (Tr.ite (okGrow (xApp [] (xSub l 0 (nNat (RPlace_n (lockLL l) (lockLL t))))) [[PV.sl t .non]] 24) (Tr.ite (okNews [[PV.sl t .non]] 1) (Tr.ite (okSize (xApp [] (xSub l 0 (nNat (RPlace_n (lockLL l) (lockLL t))))) 1) (Tr.ite (nEq (nXs (xApp [] (xSub l 0 (nNat (RPlace_n (lockLL l) (lockLL t)))))) (nXs (xApp [] (xSub l 0 (nNat (RPlace_n (lockLL l) (lockLL t))))))) (Tr.ite (okSub (okPos (RPlace_n (lockLL l) (lockLL t))) true (nNat (RPlace_n (lockLL l) (lockLL t))) (nXs l) (nXs l)) (Tr.ite (okSize l 1) (Tr.ite
 (okGrow (xApp (xApp [] (xSub l 0 (nNat (RPlace_n (lockLL l) (lockLL t))))) [[PV.sl t .non]]) (xSub l (nNat (RPlace_n (lockLL l) (lockLL t))) (nXs l)) 24) (Tr.ite (okNews (xSub l (nNat (RPlace_n (lockLL l) (lockLL t))) (nXs l)) 1) (Tr.ite (okSize (xApp (xApp [] (xSub l 0 (nNat (RPlace_n (lockLL l) (lockLL t))))) [[PV.sl t .non]]) 1) (Tr.ite (xNil (xSub l (nNat (RPlace_n (lockLL l) (lockLL t))) (nXs l))) (Tr.ret (PV.sl (shutLL (xApp (xApp [] (xSub l 0 (nNat (RPlace_n (lockLL l) (lockLL t))))) [[PV.sl t .non]])) .non)) (Tr.ite (nEq (nXs (xApp (xApp [] (xSub l 0 (nNat (RPlace_n (lockLL l) (lockLL t))))) [[PV.sl t .non]])) (nXs (xApp (xApp [] (xSub l 0 (nNat (RPlace_n (lockLL l) (lockLL t))))) [[PV.sl t .non]]))) (Tr.ret (PV.sl (shutLL (xApp (xApp (xApp [] (xSub l 0 (nNat (RPlace_n (lockLL l) (lockLL t))))) [[PV.sl t .non]]) (xSub l (nNat (RPlace_n (lockLL l) (lockLL t))) (nXs l)))) .non)) Tr.fail)) Tr.fail) Tr.fail) Tr.fail) Tr.fail) Tr.fail) Tr.fail) Tr.fail) Tr.fail) Tr.fail)) Tr.fail) Tr.fail) Tr.fail) Tr.fail) Tr.fail)) Tr.fail
theorem put_T (l : List (List PV)) (t : List (List PV)) : (tcall tbT G_put L_put Tryd.f68 [.sl l .non, .sl t .non]).flat = put_Tr l t := by kernel_rfl
noncomputable def put_W (l : List (List PV)) (t : List (List PV)) : Option PV := (put_Tr l t).run
noncomputable def put_r (l : List (List PV)) (t : List (List PV)) : List (List PV) := (gRow (gVal (put_W l t)))
noncomputable def put_is0 (l : List (List PV)) (t : List (List PV)) : Bool := isW (put_W l t) (.sl (put_r l t) .non)
noncomputable def F_put : List PV → Tr PV | [.sl l .non, .sl t .non] => .ite (put_is0 l t) (.ret (.sl (put_r l t) .non)) (.fail) | _ => .fail
theorem sim_put (gl : Nat → Option Obj) : SimP Tryd.prog gl 68 fun args => (F_put args).run := by
  refine SimP.of_flat (G := G_put) (L := L_put) tbT_ok (gok_put gl ) noMixed Tryd.func68 rfl (by rfl) (by kernel_rfl) (loopOk_none (by kernel_rfl)) ?_
  intro args x h
  unfold F_put at h
  split at h
  · exact (congrArg Tr.run (put_T _ _)).trans (ite_isW h fun h => by cases h)
  · cases h
noncomputable def G_RSorted : GamT := ofL [(68, .pure F_put)]
theorem gok_RSorted (gl : Nat → Option Obj) : GamOk Tryd.prog gl (gam G_RSorted) := (gamOk_cons (sim_put gl) gamOk_nil)
noncomputable def c_RSorted1 : Code := loopC Tryd.f43 3
def I_RSorted1 : LI := ⟨18, [0, 3, 4], fun e => match e with | .exit 0 => [3] | _ => [], true⟩
noncomputable def LI_RSorted1 : LpsT := fun r fr σ => .fail
noncomputable def RSorted1_V (vs : List PV) (σ : Store) : Option (PExit × List PV × Store) := lval (lstep tbT G_RSorted LI_RSorted1 c_RSorted1 I_RSorted1) vs σ
noncomputable def RSorted1_Tr (l : List (List PV)) (out : List (List PV)) (i : Int) : Tr LR := Tr.ite (iLt i (xLen l)) (Tr.ite (okPos i) (Tr.ite (okGet [PV.sl [] .full] l (nNat i)) (Tr.ite (put_is0 (lockLL out) (lockLL (xRow l (nNat i) 0))) (Tr.ret (LR.next [PV.sl l .non, PV.sl (put_r (lockLL out) (lockLL (xRow l (nNat i) 0))) .non, PV.int .i64 (iAdd .i64 i 1)] (Store.mk [] [] []))) Tr.fail) Tr.fail) Tr.fail) (Tr.ret (LR.out (.exit 0) [PV.sl out .full] (Store.mk [] [] [])))
theorem RSorted1_T (l : List (List PV)) (out : List (List PV)) (i : Int) : lstep tbT G_RSorted LI_RSorted1 c_RSorted1 I_RSorted1 [.sl l .non, .sl out .full, .int .i64 i] ⟨[], [], []⟩ = RSorted1_Tr l out i := by kernel_rfl
theorem RSorted1_E (l : List (List PV)) (out : List (List PV)) (i : Int) : RSorted1_V [.sl l .non, .sl out .full, .int .i64 i] ⟨[], [], []⟩ = lnext RSorted1_V (RSorted1_Tr l out i).run := by unfold RSorted1_V; rw [lval_eq, RSorted1_T]
noncomputable def RSorted1_Tr1 (l : List (List PV)) (out : List (List PV)) (i : Int) : Tr LR := Tr.ite (iLt i (xLen l)) (Tr.ite (okPos i) (Tr.ite (okGet [PV.sl [] .full] l (nNat i)) (Tr.ite (put_is0 (lockLL out) (lockLL (xRow l (nNat i) 0))) (Tr.ret (LR.next [PV.sl l .non, PV.sl (put_r (lockLL out) (lockLL (xRow l (nNat i) 0))) .non, PV.int .i64 (iAdd .i64 i 1)] (Store.mk [] [] []))) Tr.fail) Tr.fail) Tr.fail) (Tr.ret (LR.out (.exit 0) [PV.sl out .non] (Store.mk [] [] [])))
theorem RSorted1_T1 (l : List (List PV)) (out : List (List PV)) (i : Int) : lstep tbT G_RSorted LI_RSorted1 c_RSorted1 I_RSorted1 [.sl l .non, .sl out .non, .int .i64 i] ⟨[], [], []⟩ = RSorted1_Tr1 l out i := by kernel_rfl
theorem RSorted1_E1 (l : List (List PV)) (out : List (List PV)) (i : Int) : RSorted1_V [.sl l .non, .sl out .non, .int .i64 i] ⟨[], [], []⟩ = lnext RSorted1_V (RSorted1_Tr1 l out i).run := by unfold RSorted1_V; rw [lval_eq, RSorted1_T1]
noncomputable def RSorted1_W (l : List (List PV)) (out : List (List PV)) (i : Int) : Option (PExit × List PV × Store) := RSorted1_V [.sl l .non, .sl out .full, .int .i64 i] ⟨[], [], []⟩
noncomputable def RSorted1_out_0 (l : List (List PV)) (out : List (List PV)) (i : Int) : List (List PV) := (gRow (gOut (RSorted1_W l out i) 0))
noncomputable def RSorted1_is0 (l : List (List PV)) (out : List (List PV)) (i : Int) : Bool := isW (RSorted1_W l out i) ((.exit 0), [.sl (RSorted1_out_0 l out i) .full], ⟨[], [], []⟩)
noncomputable def RSorted1_out_1 (l : List (List PV)) (out : List (List PV)) (i : Int) : List (List PV) := (gRow (gOut (RSorted1_W l out i) 0))
noncomputable def RSorted1_is1 (l : List (List PV)) (out : List (List PV)) (i : Int) : Bool := isW (RSorted1_W l out i) ((.exit 0), [.sl (RSorted1_out_1 l out i) .non], ⟨[], [], []⟩)
noncomputable def RSorted1_prop : List PV → Store → Tr (PExit × List PV × Store) | [.sl l .non, .sl out .full, .int .i64 i], ⟨[], [], []⟩ => .ite (RSorted1_is0 l out i) (.ret ((.exit 0), [.sl (RSorted1_out_0 l out i) .full], ⟨[], [], []⟩)) (.ite (RSorted1_is1 l out i) (.ret ((.exit 0), [.sl (RSorted1_out_1 l out i) .non], ⟨[], [], []⟩)) (.fail)) | _, _ => .fail
theorem RSorted1_ok : ∀ vs σ r, (RSorted1_prop vs σ).run = some r → RSorted1_V vs σ = some r := by
  intro vs σ r h
  unfold RSorted1_prop at h
  split at h
  · exact ite_isW h fun h => ite_isW h fun h => by cases h
  · cases h
theorem loop_RSorted1 (gl : Nat → Option Obj) : ∀ fr σ e fr' σ', (orc I_RSorted1 RSorted1_prop fr σ).run = some (e, fr', σ') → LDoes Tryd.prog gl c_RSorted1 fr σ e fr' σ' := orc_ok tbT_ok (gok_RSorted gl ) noMixed (L := LI_RSorted1) (loopOk_none (by kernel_rfl)) (by kernel_rfl) RSorted1_ok
noncomputable def L_RSorted : LpsT := fun r fr σ => bif Nat.beq r 3 then orc I_RSorted1 RSorted1_prop fr σ else .fail
noncomputable def RSorted_Tr (l : List (List PV)) : Tr PV := Tr.ite (RSorted1_is0 l [] 0) (Tr.ret (PV.sl (shutLL (RSorted1_out_0 l [] 0)) .non)) (Tr.ite (RSorted1_is1 l [] 0) (Tr.ret (PV.sl (shutLL (RSorted1_out_1 l [] 0)) .non)) Tr.fail)
theorem RSorted_T (l : List (List PV)) : (tcall tbT G_RSorted L_RSorted Tryd.f43 [.sl l .non]).flat = RSorted_Tr l := by kernel_rfl
noncomputable def RSorted_W (l : List (List PV)) : Option PV := (RSorted_Tr l).run
noncomputable def RSorted_r (l : List (List PV)) : List (List PV) := (gRow (gVal (RSorted_W l)))
noncomputable def RSorted_is0 (l : List (List PV)) : Bool := isW (RSorted_W l) (.sl (RSorted_r l) .non)
noncomputable def F_RSorted : List PV → Tr PV | [.sl l .non] => .ite (RSorted_is0 l) (.ret (.sl (RSorted_r l) .non)) (.fail) | _ => .fail
theorem sim_RSorted (gl : Nat → Option Obj) : SimP Tryd.prog gl 43 fun args => (F_RSorted args).run := by
  refine SimP.of_flat (G := G_RSorted) (L := L_RSorted) tbT_ok (gok_RSorted gl ) noMixed Tryd.func43 rfl (by rfl) (by kernel_rfl) (loopOk_all (L := lps L_RSorted) [(3, c_RSorted1)] (by kernel_rfl) (List.forall_mem_cons.2 ⟨fun fr σ e fr' σ' h => loop_RSorted1 gl  fr σ e fr' σ' h, (List.forall_mem_nil _)⟩)) ?_
  intro args x h
  unfold F_RSorted at h
  split at h
  · exact (congrArg Tr.run (RSorted_T _)).trans (ite_isW h fun h => by cases h)
  · cases h
noncomputable def G_RChkRel : GamT := ofL [(20, .pure F_RCheck), (39, .pure F_CmpR)]
theorem gok_RChkRel (gl : Nat → Option Obj) : GamOk Tryd.prog gl (gam G_RChkRel) := (gamOk_cons (sim_RCheck gl) (gamOk_cons (sim_CmpR gl) gamOk_nil))
noncomputable def c_RChkRel1 : Code := loopC Tryd.f42 4
noncomputable def c_RChkRel2 : Code := loopC Tryd.f42 9
def I_RChkRel1 : LI := ⟨49, [0, 3], fun e => match e with | .ret => [2] | .exit 0 => [0] | _ => [], true⟩
noncomputable def LI_RChkRel1 : LpsT := fun r fr σ => .fail
noncomputable def RChkRel1_V (vs : List PV) (σ : Store) : Option (PExit × List PV × Store) := lval (lstep tbT G_RChkRel LI_RChkRel1 c_RChkRel1 I_RChkRel1) vs σ
noncomputable def RChkRel1_Tr (l : List (List PV)) (i : Int) : Tr LR := Tr.ite (iLt i (xLen l)) (Tr.ite (okPos i) (Tr.ite (okGet [PV.sl [] .full] l (nNat i)) (Tr.ite (okR cV (lockLL (xRow l (nNat i) 0))) (Tr.ite (iNe (chkT (lockLL (xRow l (nNat i) 0))) 0) (Tr.ret (LR.out .ret [PV.int .i64 20] (Store.mk [] [] []))) (Tr.ret (LR.next [PV.sl l .non, PV.int .i64 (iAdd .i64 i 1)] (Store.mk [] [] [])))) Tr.fail) Tr.fail) Tr.fail) (Tr.ret (LR.out (.exit 0) [PV.sl l .non] (Store.mk [] [] [])))
theorem RChkRel1_T (l : List (List PV)) (i : Int) : lstep tbT G_RChkRel LI_RChkRel1 c_RChkRel1 I_RChkRel1 [.sl l .non, .int .i64 i] ⟨[], [], []⟩ = RChkRel1_Tr l i := by kernel_rfl
theorem RChkRel1_E (l : List (List PV)) (i : Int) : RChkRel1_V [.sl l .non, .int .i64 i] ⟨[], [], []⟩ = lnext RChkRel1_V (RChkRel1_Tr l i).run := by unfold RChkRel1_V; rw [lval_eq, RChkRel1_T]
noncomputable def RChkRel1_W (l : List (List PV)) (i : Int) : Option (PExit × List PV × Store) := RChkRel1_V [.sl l .non, .int .i64 i] ⟨[], [], []⟩
noncomputable def RChkRel1_n_0 (l : List (List PV)) (i : Int) : Int := (gInt (gOut (RChkRel1_W l i) 0))
noncomputable def RChkRel1_is0 (l : List (List PV)) (i : Int) : Bool := isW (RChkRel1_W l i) (.ret, [.int .i64 (RChkRel1_n_0 l i)], ⟨[], [], []⟩)
noncomputable def RChkRel1_l_1 (l : List (List PV)) (i : Int) : List (List PV) := (gRow (gOut (RChkRel1_W l i) 0))
noncomputable def RChkRel1_is1 (l : List (List PV)) (i : Int) : Bool := isW (RChkRel1_W l i) ((.exit 0), [.sl (RChkRel1_l_1 l i) .non], ⟨[], [], []⟩)
noncomputable def RChkRel1_prop : List PV → Store → Tr (PExit × List PV × Store) | [.sl l .non, .int .i64 i], ⟨[], [], []⟩ => .ite (RChkRel1_is0 l i) (.ret (.ret, [.int .i64 (RChkRel1_n_0 l i)], ⟨[], [], []⟩)) (.ite (RChkRel1_is1 l i) (.ret ((.exit 0), [.sl (RChkRel1_l_1 l i) .non], ⟨[], [], []⟩)) (.fail)) | _, _ => .fail
theorem RChkRel1_ok : ∀ vs σ r, (RChkRel1_prop vs σ).run = some r → RChkRel1_V vs σ = some r := by
  intro vs σ r h
  unfold RChkRel1_prop at h
  split at h
  · exact ite_isW h fun h => ite_isW h fun h => by cases h
  · cases h
theorem loop_RChkRel1 (gl : Nat → Option Obj) : ∀ fr σ e fr' σ', (orc I_RChkRel1 RChkRel1_prop fr σ).run = some (e, fr', σ') → LDoes Tryd.prog gl c_RChkRel1 fr σ e fr' σ' := orc_ok tbT_ok (gok_RChkRel gl ) noMixed (L := LI_RChkRel1) (loopOk_none (by kernel_rfl)) (by kernel_rfl) RChkRel1_ok
def I_RChkRel2 : LI := ⟨49, [0, 4], fun e => match e with | .ret => [2] | .exit 2 => [] | _ => [], true⟩
noncomputable def LI_RChkRel2 : LpsT := fun r fr σ => .fail
noncomputable def RChkRel2_V (vs : List PV) (σ : Store) : Option (PExit × List PV × Store) := lval (lstep tbT G_RChkRel LI_RChkRel2 c_RChkRel2 I_RChkRel2) vs σ
noncomputable def RChkRel2_Tr (l : List (List PV)) (i : Int) : Tr LR := Tr.ite (iLt i (xLen l)) (Tr.ite (okPos i) (Tr.ite (okGet [PV.sl [] .full] l (nNat i)) (Tr.ite (okPos 0) (Tr.ite (okGet [PV.sl [] .full] l (nNat 0)) (Tr.ite (iNe (xLen (xRow l (nNat i) 0)) (xLen (xRow l (nNat 0) 0))) (Tr.ret (LR.out .ret [PV.int .i64 21] (Store.mk [] [] []))) (Tr.ite (okPos (iSub .i64 i 1)) (Tr.ite (okGet [PV.sl [] .full] l (nNat (iSub .i64 i 1))) (Tr.ite (okPos i) (Tr.ite (okGet [PV.sl [] .full] l (nNat i)) (Tr.ite (okR cV (lockLL (xRow l (nNat (iSub .i64 i 1)) 0))) (Tr.ite (okR cV (lockLL (xRow l (nNat i) 0))) (Tr.ite (iLe 0 (cmpTR (lockLL (xRow l (nNat (iSub .i64 i 1)) 0)) (lockLL (xRow l (nNat i) 0)))) (Tr.ret (LR.out .ret [PV.int .i64 21] (Store.mk [] [] []))) (Tr.ret (LR.next [PV.sl l .non, PV.int .i64 (iAdd .i64 i 1)] (Store.mk [] [] [])))) Tr.fail) Tr.fail) Tr.fail) Tr.fail) Tr.fail) Tr.fail)) Tr.fail) Tr.fail) Tr.fail) Tr.fail) (Tr.ret (LR.out (.exit 2) [] (Store.mk [] [] [])))
theorem RChkRel2_T (l : List (List PV)) (i : Int) : lstep tbT G_RChkRel LI_RChkRel2 c_RChkRel2 I_RChkRel2 [.sl l .non, .int .i64 i] ⟨[], [], []⟩ = RChkRel2_Tr l i := by kernel_rfl
theorem RChkRel2_E (l : List (List PV)) (i : Int) : RChkRel2_V [.sl l .non, .int .i64 i] ⟨[], [], []⟩ = lnext RChkRel2_V (RChkRel2_Tr l i).run := by unfold RChkRel2_V; rw [lval_eq, RChkRel2_T]
noncomputable def RChkRel2_W (l : List (List PV)) (i : Int) : Option (PExit × List PV × Store) := RChkRel2_V [.sl l .non, .int .i64 i] ⟨[], [], []⟩
noncomputable def RChkRel2_n_0 (l : List (List PV)) (i : Int) : Int := (gInt (gOut (RChkRel2_W l i) 0))
noncomputable def RChkRel2_is0 (l : List (List PV)) (i : Int) : Bool := isW (RChkRel2_W l i) (.ret, [.int .i64 (RChkRel2_n_0 l i)], ⟨[], [], []⟩)
noncomputable def RChkRel2_is1 (l : List (List PV)) (i : Int) : Bool := isW (RChkRel2_W l i) ((.exit 2), [], ⟨[], [], []⟩)
noncomputable def RChkRel2_prop : List PV → Store → Tr (PExit × List PV × Store) | [.sl l .non, .int .i64 i], ⟨[], [], []⟩ => .ite (RChkRel2_is0 l i) (.ret (.ret, [.int .i64 (RChkRel2_n_0 l i)], ⟨[], [], []⟩)) (.ite (RChkRel2_is1 l i) (.ret ((.exit 2), [], ⟨[], [], []⟩)) (.fail)) | _, _ => .fail
theorem RChkRel2_ok : ∀ vs σ r, (RChkRel2_prop vs σ).run = some r → RChkRel2_V vs σ = some r := by
  intro vs σ r h
  unfold RChkRel2_prop at h
  split at h
  · exact ite_isW h fun h => ite_isW h fun h => by cases h
  · cases h
theorem loop_RChkRel2 (gl : Nat → Option Obj) : ∀ fr σ e fr' σ', (orc I_RChkRel2 RChkRel2_prop fr σ).run = some (e, fr', σ') → LDoes Tryd.prog gl c_RChkRel2 fr σ e fr' σ' := orc_ok tbT_ok (gok_RChkRel gl ) noMixed (L := LI_RChkRel2) (loopOk_none (by kernel_rfl)) (by kernel_rfl) RChkRel2_ok
noncomputable def L_RChkRel : LpsT := fun r fr σ => bif Nat.beq r 4 then orc I_RChkRel1 RChkRel1_prop fr σ else bif Nat.beq r 9 then orc I_RChkRel2 RChkRel2_prop fr σ else .fail
noncomputable def RChkRel_Tr (l : List (List PV)) : Tr PV := Tr.ite (iLt 65536 (xLen l)) (Tr.ret (PV.int .i64 3)) (Tr.ite (RChkRel1_is0 l 0) (Tr.ret (PV.int .i64 (RChkRel1_n_0 l 0))) (Tr.ite (RChkRel1_is1 l 0) (Tr.ite (RChkRel2_is0 (RChkRel1_l_1 l 0) 1) (Tr.ret (PV.int .i64 (RChkRel2_n_0 (RChkRel1_l_1 l 0) 1))) (Tr.ite (RChkRel2_is1 (RChkRel1_l_1 l 0) 1) (Tr.ret (PV.int .i64 0)) Tr.fail)) Tr.fail))
theorem RChkRel_T (l : List (List PV)) : (tcall tbT G_RChkRel L_RChkRel Tryd.f42 [.sl l .non]).flat = RChkRel_Tr l := by kernel_rfl
noncomputable def RChkRel_W (l : List (List PV)) : Option PV := (RChkRel_Tr l).run
noncomputable def RChkRel_n (l : List (List PV)) : Int := (gInt (gVal (RChkRel_W l)))
noncomputable def RChkRel_is0 (l : List (List PV)) : Bool := isW (RChkRel_W l) (.int .i64 (RChkRel_n l))
noncomputable def F_RChkRel : List PV → Tr PV | [.sl l .non] => .ite (RChkRel_is0 l) (.ret (.int .i64 (RChkRel_n l))) (.fail) | _ => .fail
theorem sim_RChkRel (gl : Nat → Option Obj) : SimP Tryd.prog gl 42 fun args => (F_RChkRel args).run := by
  refine SimP.of_flat (G := G_RChkRel) (L := L_RChkRel) tbT_ok (gok_RChkRel gl ) noMixed Tryd.func42 rfl (by rfl) (by kernel_rfl) (loopOk_all (L := lps L_RChkRel) [(4, c_RChkRel1), (9, c_RChkRel2)] (by kernel_rfl) (List.forall_mem_cons.2 ⟨fun fr σ e fr' σ' h => loop_RChkRel1 gl  fr σ e fr' σ' h, (List.forall_mem_cons.2 ⟨fun fr σ e fr' σ' h => loop_RChkRel2 gl  fr σ e fr' σ' h, (List.forall_mem_nil _)⟩)⟩)) ?_
  intro args x h
  unfold F_RChkRel at h
  split at h
  · exact (congrArg Tr.run (RChkRel_T _)).trans (ite_isW h fun h => by cases h)
  · cases h
noncomputable def G_TChkRel : GamT := ofL [(16, .pure F_TCmp), (36, .pure F_TCheck)]
theorem gok_TChkRel (gl : Nat → Option Obj) : GamOk Tryd.prog gl (gam G_TChkRel) := (gamOk_cons (sim_TCmp gl) (gamOk_cons (sim_TCheck gl) gamOk_nil))
noncomputable def c_TChkRel1 : Code := loopC Tryd.f35 4
noncomputable def c_TChkRel2 : Code := loopC Tryd.f35 11
def I_TChkRel1 : LI := ⟨57, [0, 10, 11, 12], fun e => match e with | .ret => [2] | .exit 0 => [0] | _ => [], true⟩
noncomputable def LI_TChkRel1 : LpsT := fun r fr σ => .fail
noncomputable def TChkRel1_V (vs : List PV) (σ : Store) : Option (PExit × List PV × Store) := lval (lstep tbT G_TChkRel LI_TChkRel1 c_TChkRel1 I_TChkRel1) vs σ
noncomputable def TChkRel1_Tr (l : List (List PV)) (r : List (List PV)) (n : Int) (n2 : Int) : Tr LR := Tr.ite (iLt n2 n) (Tr.ite (okPos n2) (Tr.ite (okGet [PV.sl [] .full] r (nNat n2)) (Tr.ite (okR cV (lockLL (xRow r (nNat n2) 0))) (Tr.ite (iNe (chkT (lockLL (xRow r (nNat n2) 0))) 0) (Tr.ret (LR.out .ret [PV.int .i64 (chkT (lockLL (xRow r (nNat n2) 0)))] (Store.mk [] [] []))) (Tr.ret (LR.next [PV.sl l .non, PV.sl r .non, PV.int .i64 n, PV.int .i64 (iAdd .i64 n2 1)] (Store.mk [] [] [])))) Tr.fail) Tr.fail) Tr.fail) (Tr.ret (LR.out (.exit 0) [PV.sl l .non] (Store.mk [] [] [])))
theorem TChkRel1_T (l : List (List PV)) (r : List (List PV)) (n : Int) (n2 : Int) : lstep tbT G_TChkRel LI_TChkRel1 c_TChkRel1 I_TChkRel1 [.sl l .non, .sl r .non, .int .i64 n, .int .i64 n2] ⟨[], [], []⟩ = TChkRel1_Tr l r n n2 := by kernel_rfl
theorem TChkRel1_E (l : List (List PV)) (r : List (List PV)) (n : Int) (n2 : Int) : TChkRel1_V [.sl l .non, .sl r .non, .int .i64 n, .int .i64 n2] ⟨[], [], []⟩ = lnext TChkRel1_V (TChkRel1_Tr l r n n2).run := by unfold TChkRel1_V; rw [lval_eq, TChkRel1_T]
noncomputable def TChkRel1_W (l : List (List PV)) (r : List (List PV)) (n : Int) (n2 : Int) : Option (PExit × List PV × Store) := TChkRel1_V [.sl l .non, .sl r .non, .int .i64 n, .int .i64 n2] ⟨[], [], []⟩
noncomputable def TChkRel1_n_0 (l : List (List PV)) (r : List (List PV)) (n : Int) (n2 : Int) : Int := (gInt (gOut (TChkRel1_W l r n n2) 0))
noncomputable def TChkRel1_is0 (l : List (List PV)) (r : List (List PV)) (n : Int) (n2 : Int) : Bool := isW (TChkRel1_W l r n n2) (.ret, [.int .i64 (TChkRel1_n_0 l r n n2)], ⟨[], [], []⟩)
noncomputable def TChkRel1_l_1 (l : List (List PV)) (r : List (List PV)) (n : Int) (n2 : Int) : List (List PV) := (gRow (gOut (TChkRel1_W l r n n2) 0))
noncomputable def TChkRel1_is1 (l : List (List PV)) (r : List (List PV)) (n : Int) (n2 : Int) : Bool := isW (TChkRel1_W l r n n2) ((.exit 0), [.sl (TChkRel1_l_1 l r n n2) .non], ⟨[], [], []⟩)
noncomputable def TChkRel1_prop : List PV → Store → Tr (PExit × List PV × Store) | [.sl l .non, .sl r .non, .int .i64 n, .int .i64 n2], ⟨[], [], []⟩ => .ite (TChkRel1_is0 l r n n2) (.ret (.ret, [.int .i64 (TChkRel1_n_0 l r n n2)], ⟨[], [], []⟩)) (.ite (TChkRel1_is1 l r n n2) (.ret ((.exit 0), [.sl (TChkRel1_l_1 l r n n2) .non], ⟨[], [], []⟩)) (.fail)) | _, _ => .fail
theorem TChkRel1_ok : ∀ vs σ r, (TChkRel1_prop vs σ).run = some r → TChkRel1_V vs σ = some r := by
  intro vs σ r h
  unfold TChkRel1_prop at h
  split at h
  · exact ite_isW h fun h => ite_isW h fun h => by cases h
  · cases h
theorem loop_TChkRel1 (gl : Nat → Option Obj) : ∀ fr σ e fr' σ', (orc I_TChkRel1 TChkRel1_prop fr σ).run = some (e, fr', σ') → LDoes Tryd.prog gl c_TChkRel1 fr σ e fr' σ' := orc_ok tbT_ok (gok_TChkRel gl ) noMixed (L := LI_TChkRel1) (loopOk_none (by kernel_rfl)) (by kernel_rfl) TChkRel1_ok
def I_TChkRel2 : LI := ⟨57, [0, 23, 24], fun e => match e with | .ret => [2] | .exit 2 => [] | _ => [], true⟩
noncomputable def LI_TChkRel2 : LpsT := fun r fr σ => .fail
noncomputable def TChkRel2_V (vs : List PV) (σ : Store) : Option (PExit × List PV × Store) := lval (lstep tbT G_TChkRel LI_TChkRel2 c_TChkRel2 I_TChkRel2) vs σ
noncomputable def TChkRel2_Tr (l : List (List PV)) (n : Int) (n2 : Int) : Tr LR := Tr.ite (iLt n2 n) (Tr.ite (iLt 0 n2) (Tr.ite (okPos (iSub .i64 n2 1)) (Tr.ite (okGet [PV.sl [] .full] l (nNat (iSub .i64 n2 1))) (Tr.ite (okPos n2) (Tr.ite (okGet [PV.sl [] .full] l (nNat n2)) (Tr.ite (iNe (xLen (xRow l (nNat (iSub .i64 n2 1)) 0)) (xLen (xRow l (nNat n2) 0))) (Tr.ret (LR.out .ret [PV.int .i64 21] (Store.mk [] [] []))) (Tr.ite (okPos (iSub .i64 n2 1)) (Tr.ite (okGet [PV.sl [] .full] l (nNat (iSub .i64 n2 1))) (Tr.ite (okPos n2) (Tr.ite (okGet [PV.sl [] .full] l (nNat n2)) (Tr.ite (okR cV (lockLL (lockLL (xRow l (nNat (iSub .i64 n2 1)) 0)))) (Tr.ite (okR cV (lockLL (lockLL (xRow l (nNat n2) 0)))) (Tr.ite (iLe 0 (cmpTV (lockLL (lockLL (xRow l (nNat (iSub .i64 n2 1)) 0))) (lockLL (lockLL (xRow l (nNat n2) 0))))) (Tr.ret (LR.out .ret [PV.int .i64 21] (Store.mk [] [] []))) (Tr.ret (LR.next [PV.sl l .non, PV.int .i64 n, PV.int .i64 (iAdd .i64 n2 1)] (Store.mk [] [] [])))) Tr.fail) Tr.fail) Tr.fail) Tr.fail) Tr.fail) Tr.fail)) Tr.fail) Tr.fail) Tr.fail) Tr.fail) (Tr.ret (LR.next [PV.sl l .non, PV.int .i64 n, PV.int .i64 (iAdd .i64 n2 1)] (Store.mk [] [] [])))) (Tr.ret (LR.out (.exit 2) [] (Store.mk [] [] [])))
theorem TChkRel2_T (l : List (List PV)) (n : Int) (n2 : Int) : lstep tbT G_TChkRel LI_TChkRel2 c_TChkRel2 I_TChkRel2 [.sl l .non, .int .i64 n, .int .i64 n2] ⟨[], [], []⟩ = TChkRel2_Tr l n n2 := by kernel_rfl
theorem TChkRel2_E (l : List (List PV)) (n : Int) (n2 : Int) : TChkRel2_V [.sl l .non, .int .i64 n, .int .i64 n2] ⟨[], [], []⟩ = lnext TChkRel2_V (TChkRel2_Tr l n n2).run := by unfold TChkRel2_V; rw [lval_eq, TChkRel2_T]
noncomputable def TChkRel2_W (l : List (List PV)) (n : Int) (n2 : Int) : Option (PExit × List PV × Store) := TChkRel2_V [.sl l .non, .int .i64 n, .int .i64 n2] ⟨[], [], []⟩
noncomputable def TChkRel2_n_0 (l : List (List PV)) (n : Int) (n2 : Int) : Int := (gInt (gOut (TChkRel2_W l n n2) 0))
noncomputable def TChkRel2_is0 (l : List (List PV)) (n : Int) (n2 : Int) : Bool := isW (TChkRel2_W l n n2) (.ret, [.int .i64 (TChkRel2_n_0 l n n2)], ⟨[], [], []⟩)
noncomputable def TChkRel2_is1 (l : List (List PV)) (n : Int) (n2 : Int) : Bool := isW (TChkRel2_W l n n2) ((.exit 2), [], ⟨[], [], []⟩)
noncomputable def TChkRel2_prop : List PV → Store → Tr (PExit × List PV × Store) | [.sl l .non, .int .i64 n, .int .i64 n2], ⟨[], [], []⟩ => .ite (TChkRel2_is0 l n n2) (.ret (.ret, [.int .i64 (TChkRel2_n_0 l n n2)], ⟨[], [], []⟩)) (.ite (TChkRel2_is1 l n n2) (.ret ((.exit 2), [], ⟨[], [], []⟩)) (.fail)) | _, _ => .fail
theorem TChkRel2_ok : ∀ vs σ r, (TChkRel2_prop vs σ).run = some r → TChkRel2_V vs σ = some r := by
  intro vs σ r h
  unfold TChkRel2_prop at h
  split at h
  · exact ite_isW h fun h => ite_isW h fun h => by cases h
  · cases h
theorem loop_TChkRel2 (gl : Nat → Option Obj) : ∀ fr σ e fr' σ', (orc I_TChkRel2 TChkRel2_prop fr σ).run = some (e, fr', σ') → LDoes Tryd.prog gl c_TChkRel2 fr σ e fr' σ' := orc_ok tbT_ok (gok_TChkRel gl ) noMixed (L := LI_TChkRel2) (loopOk_none (by kernel_rfl)) (by kernel_rfl) TChkRel2_ok
noncomputable def L_TChkRel : LpsT := fun r fr σ => bif Nat.beq r 4 then orc I_TChkRel1 TChkRel1_prop fr σ else bif Nat.beq r 11 then orc I_TChkRel2 TChkRel2_prop fr σ else .fail
noncomputable def TChkRel_Tr (l : List (List PV)) : Tr PV := Tr.ite (iLt 65536 (xLen l)) (Tr.ret (PV.int .i64 3)) (Tr.ite (TChkRel1_is0 l l (xLen l) 0) (Tr.ret (PV.int .i64 (TChkRel1_n_0 l l (xLen l) 0))) (Tr.ite (TChkRel1_is1 l l (xLen l) 0) (Tr.ite (TChkRel2_is0 (TChkRel1_l_1 l l (xLen l) 0) (xLen (TChkRel1_l_1 l l (xLen l) 0)) 0) (Tr.ret (PV.int .i64 (TChkRel2_n_0 (TChkRel1_l_1 l l (xLen l) 0) (xLen (TChkRel1_l_1 l l (xLen l) 0)) 0))) (Tr.ite (TChkRel2_is1 (TChkRel1_l_1 l l (xLen l) 0) (xLen (TChkRel1_l_1 l l (xLen l) 0)) 0) (Tr.ret (PV.int .i64 0)) Tr.fail)) Tr.fail))
theorem TChkRel_T (l : List (List PV)) : (tcall tbT G_TChkRel L_TChkRel Tryd.f35 [.sl l .non]).flat = TChkRel_Tr l := by kernel_rfl
noncomputable def TChkRel_W (l : List (List PV)) : Option PV := (TChkRel_Tr l).run
noncomputable def TChkRel_n (l : List (List PV)) : Int := (gInt (gVal (TChkRel_W l)))
noncomputable def TChkRel_is0 (l : List (List PV)) : Bool := isW (TChkRel_W l) (.int .i64 (TChkRel_n l))
noncomputable def F_TChkRel : List PV → Tr PV | [.sl l .non] => .ite (TChkRel_is0 l) (.ret (.int .i64 (TChkRel_n l))) (.fail) | _ => .fail
theorem sim_TChkRel (gl : Nat → Option Obj) : SimP Tryd.prog gl 35 fun args => (F_TChkRel args).run := by
  refine SimP.of_flat (G := G_TChkRel) (L := L_TChkRel) tbT_ok (gok_TChkRel gl ) noMixed Tryd.func35 rfl (by rfl) (by kernel_rfl) (loopOk_all (L := lps L_TChkRel) [(4, c_TChkRel1), (11, c_TChkRel2)] (by kernel_rfl) (List.forall_mem_cons.2 ⟨fun fr σ e fr' σ' h => loop_TChkRel1 gl  fr σ e fr' σ' h, (List.forall_mem_cons.2 ⟨fun fr σ e fr' σ' h => loop_TChkRel2 gl  fr σ e fr' σ' h, (List.forall_mem_nil _)⟩)⟩)) ?_
  intro args x h
  unfold F_TChkRel at h
  split at h
  · exact (congrArg Tr.run (TChkRel_T _)).trans (ite_isW h fun h => by cases h)
  · cases h
noncomputable def G_width : GamT := ofL []
theorem gok_width (gl : Nat → Option Obj) : GamOk Tryd.prog gl (gam G_width) := gamOk_nil
noncomputable def c_width1 : Code := loopC Tryd.f25 3
def I_width1 : LI := ⟨28, [0, 1, 5, 6], fun e => match e with | .exit 0 => [5] | _ => [], true⟩
noncomputable def LI_width1 : LpsT := fun r fr σ => .fail
noncomputable def width1_V (vs : List PV) (σ : Store) : Option (PExit × List PV × Store) := lval (lstep tbT G_width LI_width1 c_width1 I_width1) vs σ
noncomputable def width1_Tr (l : List (List PV)) (n : Int) (out : List (List PV)) (i : Int) : Tr LR := Tr.ite (iLt i (xLen l)) (Tr.ite (okPos i) (Tr.ite (okGet [PV.sl [] .full] l (nNat i)) (Tr.ite (iEq (xLen (xRow l (nNat i) 0)) n) (Tr.ite (okPos i) (Tr.ite (okGet [PV.sl [] .full] l (nNat i)) (Tr.ite (okGrow out [[PV.sl (xRow l (nNat i) 0) .non]] 24) (Tr.ite (okNews [[PV.sl (xRow l (nNat i) 0) .non]] 1) (Tr.ite (okSize out 1) (Tr.ret (LR.next [PV.sl l .non, PV.int .i64 n, PV.sl (xApp out [[PV.sl (xRow l (nNat i) 0) .non]]) (.tok 0), PV.int .i64 (iAdd .i64 i 1)] (Store.mk [] [(nXs (xApp out [[PV.sl (xRow l (nNat i) 0) .non]]), 1, 23)] []))) Tr.fail) Tr.fail) Tr.fail) Tr.fail) Tr.fail) (Tr.ret (LR.next [PV.sl l .non, PV.int .i64 n, PV.sl out .full, PV.int .i64 (iAdd .i64 i 1)] (Store.mk [] [] [])))) Tr.fail) Tr.fail) (Tr.ret (LR.out (.exit 0) [PV.sl out .full] (Store.mk [] [] [])))
theorem width1_T (l : List (List PV)) (n : Int) (out : List (List PV)) (i : Int) : lstep tbT G_width LI_width1 c_width1 I_width1 [.sl l .non, .int .i64 n, .sl out .full, .int .i64 i] ⟨[], [], []⟩ = width1_Tr l n out i := by kernel_rfl
theorem width1_E (l : List (List PV)) (n : Int) (out : List (List PV)) (i : Int) : width1_V [.sl l .non, .int .i64 n, .sl out .full, .int .i64 i] ⟨[], [], []⟩ = lnext width1_V (width1_Tr l n out i).run := by unfold width1_V; rw [lval_eq, width1_T]
noncomputable def width1_Tr1 (l : List (List PV)) (n : Int) (out : List (List PV)) (i : Int) (k : Nat) : Tr LR := Tr.ite (iLt i (xLen l)) (Tr.ite (okPos i) (Tr.ite (okGet [PV.sl [] .full] l (nNat i)) (Tr.ite (iEq (xLen (xRow l (nNat i) 0)) n) (Tr.ite (okPos i) (Tr.ite (okGet [PV.sl [] .full] l (nNat i)) (Tr.ite (okGrow out [[PV.sl (xRow l (nNat i) 0) .non]] 24) (Tr.ite (okNews [[PV.sl (xRow l (nNat i) 0) .non]] 1) (Tr.ite (okSize out 1) (Tr.ite (nEq k (nXs out)) (Tr.ret (LR.next [PV.sl l .non, PV.int .i64 n, PV.sl (xApp out [[PV.sl (xRow l (nNat i) 0) .non]]) (.tok 0), PV.int .i64 (iAdd .i64 i 1)] (Store.mk [] [(nXs (xApp out [[PV.sl (xRow l (nNat i) 0) .non]]), 1, 23)] []))) Tr.fail) Tr.fail) Tr.fail) Tr.fail) Tr.fail) Tr.fail) (Tr.ret (LR.next [PV.sl l .non, PV.int .i64 n, PV.sl out (.tok 0), PV.int .i64 (iAdd .i64 i 1)] (Store.mk [] [(k, 1, 23)] [])))) Tr.fail) Tr.fail) (Tr.ret (LR.out (.exit 0) [PV.sl out (.tok 0)] (Store.mk [] [(k, 1, 23)] [])))
theorem width1_T1 (l : List (List PV)) (n : Int) (out : List (List PV)) (i : Int) (k : Nat) : lstep tbT G_width LI_width1 c_width1 I_width1 [.sl l .non, .int .i64 n, .sl out (.tok 0), .int .i64 i] ⟨[], [(k, 1, 23)], []⟩ = width1_Tr1 l n out i k := by kernel_rfl
theorem width1_E1 (l : List (List PV)) (n : Int) (out : List (List PV)) (i : Int) (k : Nat) : width1_V [.sl l .non, .int .i64 n, .sl out (.tok 0), .int .i64 i] ⟨[], [(k, 1, 23)], []⟩ = lnext width1_V (width1_Tr1 l n out i k).run := by unfold width1_V; rw [lval_eq, width1_T1]
noncomputable def width1_W (l : List (List PV)) (n : Int) (out : List (List PV)) (i : Int) : Option (PExit × List PV × Store) := width1_V [.sl l .non, .int .i64 n, .sl out .full, .int .i64 i] ⟨[], [], []⟩
noncomputable def width1_out_0 (l : List (List PV)) (n : Int) (out : List (List PV)) (i : Int) : List (List PV) := (gRow (gOut (width1_W l n out i) 0))
noncomputable def width1_is0 (l : List (List PV)) (n : Int) (out : List (List PV)) (i : Int) : Bool := isW (width1_W l n out i) ((.exit 0), [.sl (width1_out_0 l n out i) .full], ⟨[], [], []⟩)
noncomputable def width1_out_1 (l : List (List PV)) (n : Int) (out : List (List PV)) (i : Int) : List (List PV) := (gRow (gOut (width1_W l n out i) 0))
noncomputable def width1_k_1 (l : List (List PV)) (n : Int) (out : List (List PV)) (i : Int) : Nat := (gTok (width1_W l n out i) 0)
noncomputable def width1_is1 (l : List (List PV)) (n : Int) (out : List (List PV)) (i : Int) : Bool := isW (width1_W l n out i) ((.exit 0), [.sl (width1_out_1 l n out i) (.tok 0)], ⟨[], [((width1_k_1 l n out i), 1, 23)], []⟩)
noncomputable def width1_prop : List PV → Store → Tr (PExit × List PV × Store) | [.sl l .non, .int .i64 n, .sl out .full, .int .i64 i], ⟨[], [], []⟩ => .ite (width1_is0 l n out i) (.ret ((.exit 0), [.sl (width1_out_0 l n out i) .full], ⟨[], [], []⟩)) (.ite (width1_is1 l n out i) (.ret ((.exit 0), [.sl (width1_out_1 l n out i) (.tok 0)], ⟨[], [((width1_k_1 l n out i), 1, 23)], []⟩)) (.fail)) | _, _ => .fail
theorem width1_ok : ∀ vs σ r, (width1_prop vs σ).run = some r → width1_V vs σ = some r := by
  intro vs σ r h
  unfold width1_prop at h
  split at h
  · exact ite_isW h fun h => ite_isW h fun h => by cases h
  · cases h
theorem loop_width1 (gl : Nat → Option Obj) : ∀ fr σ e fr' σ', (orc I_width1 width1_prop fr σ).run = some (e, fr', σ') → LDoes Tryd.prog gl c_width1 fr σ e fr' σ' := orc_ok tbT_ok (gok_width gl ) noMixed (L := LI_width1) (loopOk_none (by kernel_rfl)) (by kernel_rfl) width1_ok
noncomputable def L_width : LpsT := fun r fr σ => bif Nat.beq r 3 then orc I_width1 width1_prop fr σ else .fail
noncomputable def width_Tr (l : List (List PV)) (n : Int) : Tr PV := Tr.ite (width1_is0 l n [] 0) (Tr.ret (PV.sl (shutLL (width1_out_0 l n [] 0)) .non)) (Tr.ite (width1_is1 l n [] 0) (Tr.ret (PV.sl (shutLL (width1_out_1 l n [] 0)) .non)) Tr.fail)
theorem width_T (l : List (List PV)) (n : Int) : (tcall tbT G_width L_width Tryd.f25 [.sl l .non, .int .i64 n]).flat = width_Tr l n := by kernel_rfl
noncomputable def width_W (l : List (List PV)) (n : Int) : Option PV := (width_Tr l n).run
noncomputable def width_r (l : List (List PV)) (n : Int) : List (List PV) := (gRow (gVal (width_W l n)))
noncomputable def width_is0 (l : List (List PV)) (n : Int) : Bool := isW (width_W l n) (.sl (width_r l n) .non)
noncomputable def F_width : List PV → Tr PV | [.sl l .non, .int .i64 n] => .ite (width_is0 l n) (.ret (.sl (width_r l n) .non)) (.fail) | _ => .fail
theorem sim_width (gl : Nat → Option Obj) : SimP Tryd.prog gl 25 fun args => (F_width args).run := by
  refine SimP.of_flat (G := G_width) (L := L_width) tbT_ok (gok_width gl ) noMixed Tryd.func25 rfl (by rfl) (by kernel_rfl) (loopOk_all (L := lps L_width) [(3, c_width1)] (by kernel_rfl) (List.forall_mem_cons.2 ⟨fun fr σ e fr' σ' h => loop_width1 gl  fr σ e fr' σ' h, (List.forall_mem_nil _)⟩)) ?_
  intro args x h
  unfold F_width at h
  split at h
  · exact (congrArg Tr.run (width_T _ _)).trans (ite_isW h fun h => by cases h)
  · cases h
end Go.Pv

/- Rows in order, each once: there is one alone of the same things. No program in sight. -/
set_option linter.unusedSimpArgs false
set_option linter.unusedVariables false
namespace Go.Pv
variable {α : Type} {c : α → α → Int}
def SSrt (c : α → α → Int) (l : List α) : Prop := l.Pairwise (fun a b => c a b < 0)
/-- Put at its place, if it is not there. -/
def putS (c : α → α → Int) (x : α) : List α → List α
  | [] => [x]
  | a :: l => if c x a < 0 then x :: a :: l else if c x a = 0 then a :: l else a :: putS c x l
def usort (c : α → α → Int) (l : List α) : List α := l.foldl (fun out x => putS c x out) []
theorem mem_putS (T : Tot c) (x y : α) : ∀ l : List α, y ∈ putS c x l ↔ y = x ∨ y ∈ l
  | [] => by simp [putS]
  | a :: l => by
    have ih := mem_putS T x y l
    simp only [putS]
    split
    · simp
    · split
      · rename_i h
        have e := (T.zero x a).1 h
        subst e
        simp
      · simp only [List.mem_cons, ih]
        constructor
        · rintro (h | h | h) <;> simp [h]
        · rintro (h | h | h) <;> simp [h]
theorem ssrt_putS (T : Tot c) (x : α) : ∀ l : List α, SSrt c l → SSrt c (putS c x l)
  | [], _ => by simp [putS, SSrt]
  | a :: l, h => by
    have hc := List.pairwise_cons.1 h
    have ih := ssrt_putS T x l hc.2
    simp only [putS]
    split
    · rename_i h1
      refine List.pairwise_cons.2 ⟨?_, h⟩
      intro y hy
      cases hy with
      | head => exact h1
      | tail _ hy => exact T.trans x a y h1 (hc.1 y hy)
    · split
      · exact h
      · rename_i h1 h2
        refine List.pairwise_cons.2 ⟨?_, ih⟩
        intro y hy
        rcases (mem_putS T x y l).1 hy with e | e
        · subst e
          have := T.swap y a
          omega
        · exact hc.1 y e
theorem usort_acc (T : Tot c) : ∀ (l out : List α), SSrt c out → SSrt c (l.foldl (fun out x => putS c x out) out) ∧ ∀ y, y ∈ l.foldl (fun out x => putS c x out) out ↔ y ∈ l ∨ y ∈ out
  | [], out, h => ⟨h, fun y => by simp⟩
  | a :: l, out, h => by
    obtain ⟨h1, h2⟩ := usort_acc T l (putS c a out) (ssrt_putS T a out h)
    refine ⟨h1, fun y => ?_⟩
    rw [List.foldl_cons, h2 y, mem_putS T]
    simp only [List.mem_cons]
    constructor
    · rintro (h | h | h) <;> simp [h]
    · rintro ((h | h) | h) <;> simp [h]
theorem ssrt_usort (T : Tot c) (l : List α) : SSrt c (usort c l) := (usort_acc T l [] List.Pairwise.nil).1
theorem mem_usort (T : Tot c) (l : List α) (y : α) : y ∈ usort c l ↔ y ∈ l := by
  have := (usort_acc T l [] List.Pairwise.nil).2 y
  simpa [usort] using this
theorem ssrt_unique (T : Tot c) : ∀ {l m : List α}, SSrt c l → SSrt c m → (∀ x, x ∈ l ↔ x ∈ m) → l = m
  | [], [], _, _, _ => rfl
  | [], b :: m, _, _, h => by have := (h b).2 (by simp); cases this
  | a :: l, [], _, _, h => by have := (h a).1 (by simp); cases this
  | a :: l, b :: m, h1, h2, h => by
    have k1 := List.pairwise_cons.1 h1
    have k2 := List.pairwise_cons.1 h2
    have e : a = b := by
      have m1 := (h a).1 (by simp)
      have m2 := (h b).2 (by simp)
      rcases List.mem_cons.1 m1 with e | e
      · exact e
      · rcases List.mem_cons.1 m2 with e' | e'
        · exact e'.symm
        · have q1 := k2.1 a e
          have q2 := k1.1 b e'
          have := T.swap a b
          omega
    subst e
    rw [ssrt_unique T k1.2 k2.2 fun x => ?_]
    constructor
    · intro hx
      rcases List.mem_cons.1 ((h x).1 (List.mem_cons_of_mem _ hx)) with e | e
      · subst e
        have := k1.1 x hx
        have := T.self x
        omega
      · exact e
    · intro hx
      rcases List.mem_cons.1 ((h x).2 (List.mem_cons_of_mem _ hx)) with e | e
      · subst e
        have := k2.1 x hx
        have := T.self x
        omega
      · exact e
theorem usort_of (T : Tot c) {l m : List α} (h : SSrt c m) (h2 : ∀ x, x ∈ m ↔ x ∈ l) : usort c l = m := ssrt_unique T (ssrt_usort T l) h fun x => by rw [mem_usort T, h2]
/-- A row by its places. -/
theorem ssrt_fn {g : Nat → α} {k : Nat} (h : ∀ p q, p < q → q < k → c (g p) (g q) < 0) : SSrt c ((List.range k).map g) := by
  refine List.pairwise_map.2 ?_
  refine (List.pairwise_lt_range (n := k)).imp_of_mem ?_
  intro a b ha hb hab
  exact h a b hab (by simpa using hb)
theorem mem_fn {g : Nat → α} {k : Nat} {x : α} : x ∈ (List.range k).map g ↔ ∃ p, p < k ∧ g p = x := by simp

/-- The first e of f are, each once and in order, the first k of g. -/
structure Dd (c : α → α → Int) (f g : Nat → α) (N k e : Nat) : Prop where
  keep : ∀ p, e - 1 ≤ p → p < N → g p = f p
  str : ∀ p q, p < q → q < k → c (g p) (g q) < 0
  sub : ∀ p, p < k → ∃ j, j < e ∧ g p = f j
  sup : ∀ j, j < e → ∃ p, p < k ∧ g p = f j
  last : g (k - 1) = f (e - 1)
  k1 : 1 ≤ k
  ke : k ≤ e
theorem Dd.init (f : Nat → α) (N : Nat) : Dd c f f N 1 1 where
  keep := fun _ _ _ => rfl
  str := fun p q h1 h2 => by omega
  sub := fun p h => ⟨p, h, rfl⟩
  sup := fun p h => ⟨p, h, rfl⟩
  last := rfl
  k1 := Nat.le_refl _
  ke := Nat.le_refl _
theorem Dd.eq {f g : Nat → α} {N k e : Nat} (h : Dd c f g N k e) (he : f e = f (e - 1)) : Dd c f g N k (e + 1) where
  keep := fun p h1 h2 => h.keep p (by omega) h2
  str := h.str
  sub := fun p hp => by obtain ⟨j, h1, h2⟩ := h.sub p hp; exact ⟨j, by omega, h2⟩
  sup := fun j hj => by
    by_cases e' : j = e
    · subst e'
      exact ⟨k - 1, by have := h.k1; omega, by rw [h.last, he]⟩
    · exact h.sup j (by omega)
  last := by rw [h.last, Nat.add_sub_cancel, he]
  k1 := h.k1
  ke := by have := h.ke; omega
theorem Dd.ne (T : Tot c) {f g : Nat → α} {N k e : Nat} (h : Dd c f g N k e) (hlt : c (f (e - 1)) (f e) < 0) : Dd c f (upd g k (f e)) N (k + 1) (e + 1) where
  keep := fun p h1 h2 => by
    have := h.ke
    simp only [upd_at]
    split
    · rename_i e'
      have : p = e := by omega
      rw [this]
    · exact h.keep p (by omega) h2
  str := fun p q h1 h2 => by
    have := h.k1
    simp only [upd_at]
    rw [if_neg (c := p = k) (by omega)]
    split
    · rename_i e'
      by_cases e2 : p = k - 1
      · rw [e2, h.last]; exact hlt
      · refine T.trans _ _ _ (h.str p (k - 1) (by omega) (by omega)) ?_
        rw [h.last]; exact hlt
    · exact h.str p q h1 (by omega)
  sub := fun p hp => by
    simp only [upd_at]
    split
    · exact ⟨e, by omega, rfl⟩
    · obtain ⟨j, h1, h2⟩ := h.sub p (by omega)
      exact ⟨j, by omega, h2⟩
  sup := fun j hj => by
    by_cases e' : j = e
    · exact ⟨k, by omega, by simp [upd_at, e']⟩
    · obtain ⟨p, h1, h2⟩ := h.sup j (by omega)
      exact ⟨p, by omega, by simp only [upd_at]; rw [if_neg (by omega)]; exact h2⟩
  last := by simp [upd_at]
  k1 := by omega
  ke := by have := h.ke; omega
theorem upd_self (f : Nat → α) (k : Nat) : upd f k (f k) = f := by
  funext p
  simp only [upd_at]
  split
  · rename_i h; rw [h]
  · rfl
theorem Dd.done (T : Tot c) {f0 f g : Nat → α} {N k : Nat} (h : Dd c f g N k N) (hm : Mv f0 f 0 N) : (List.range k).map g = usort c ((List.range N).map f0) := by
  refine (usort_of T (ssrt_fn h.str) fun x => ?_).symm
  rw [mem_fn, mem_fn]
  constructor
  · rintro ⟨p, h1, rfl⟩
    obtain ⟨j, h2, h3⟩ := h.sub p h1
    obtain ⟨i, h4, h5, h6⟩ := hm.inn (Nat.zero_le j) h2
    exact ⟨i, h5, by rw [h3, h6]⟩
  · rintro ⟨p, h1, rfl⟩
    obtain ⟨j, h2, h3, h4⟩ := hm.symm.inn (Nat.zero_le p) h1
    obtain ⟨i, h5, h6⟩ := h.sup j h3
    exact ⟨i, h5, by rw [h6, h4]⟩

/-! ### an own row as it leaves its call -/
theorem rows1 {β : Type} (C : Cod β) : ∀ (k : Nat) (g : Nat → List β) (cs : List PV), (∀ p, p < k → cs[p]? = some (.sl (rOf C (g p)) .non)) → chunks 1 k cs = rOf (cR C) ((List.range k).map g)
  | 0, _, _, _ => rfl
  | k + 1, g, [], h => by have := h 0 (by omega); cases this
  | k + 1, g, x :: cs, h => by
    have h0 := h 0 (by omega)
    simp only [List.getElem?_cons_zero, Option.some.injEq] at h0
    subst h0
    have ih := rows1 C k (fun p => g (p + 1)) cs fun p hp => by have := h (p + 1) (by omega); simpa using this
    rw [List.range_succ_eq_map, List.map_cons, rOf_cons, List.map_map]
    simp only [chunks, List.take_succ_cons, List.take_zero, List.drop_succ_cons, List.drop_zero, ih]
    rfl
theorem rowsC_1 {β : Type} (C : Cod β) {k : Nat} {g : Nat → List β} {cs : List PV} (h : ∀ p, p < k → cs[p]? = some (.sl (rOf C (g p)) .non)) : rowsC cs 0 k 1 = rOf (cR C) ((List.range k).map g) := rows1 C k g cs h
theorem clrC_get {cs : List PV} {off len : Nat} {z : List PV} (h : off ≤ cs.length) {p : Nat} (hp : p < off) : (clrC cs off len z)[p]? = cs[p]? := by
  unfold clrC
  rw [List.append_assoc, List.getElem?_append_left (by simp; omega), List.getElem?_take]
  simp [hp]
end Go.Pv

/- Rows in order: the place of a thing, what is put in, what lies between, sets. No program in sight. -/
set_option linter.unusedSimpArgs false
set_option linter.unusedVariables false
namespace Go.Pv
variable {α : Type} {c : α → α → Int}
def plN (c : α → α → Int) (x : α) (l : List α) : Nat := l.countP fun y => decide (c y x < 0)
def plB (c : α → α → Int) (x : α) (l : List α) : Bool := l.any fun y => decide (c y x = 0)
def insP (c : α → α → Int) (x : α) (l : List α) : List α := if plB c x l = true then l else l.take (plN c x l) ++ [x] ++ l.drop (plN c x l)
theorem insP_putS (T : Tot c) (x : α) : ∀ l : List α, SSrt c l → insP c x l = putS c x l
  | [], _ => by simp [insP, plB, plN, putS]
  | a :: l, h => by
    have hc := List.pairwise_cons.1 h
    have ih := insP_putS T x l hc.2
    have sw := T.swap a x
    simp only [putS]
    by_cases h1 : c x a < 0
    · rw [if_pos h1]
      have hp : ∀ y ∈ a :: l, 0 < c y x := by
        intro y hy
        rcases List.mem_cons.1 hy with e | e
        · subst e; omega
        · have h2 := T.trans x a y h1 (hc.1 y e)
          have h3 := T.swap y x
          omega
      have hB : plB c x (a :: l) = false := by
        simp only [plB, List.any_eq_false, decide_eq_true_eq]
        intro y hy
        have := hp y hy
        omega
      have hN : plN c x (a :: l) = 0 := by
        simp only [plN, List.countP_eq_zero, decide_eq_true_eq]
        intro y hy
        have := hp y hy
        omega
      unfold insP
      rw [hB, hN]
      simp
    · rw [if_neg h1]
      by_cases h2 : c x a = 0
      · rw [if_pos h2]
        have hB : plB c x (a :: l) = true := by
          have : c a x = 0 := by omega
          simp [plB, this]
        simp [insP, hB]
      · rw [if_neg h2, ← ih]
        have h3 : c a x < 0 := by omega
        have h4 : ¬ c a x = 0 := by omega
        have hB : plB c x (a :: l) = plB c x l := by simp [plB, h4]
        have hN : plN c x (a :: l) = plN c x l + 1 := by simp [plN, List.countP_cons, h3]
        unfold insP
        rw [hB, hN]
        split <;> simp
theorem fold_insP (T : Tot c) : ∀ (l out : List α), SSrt c out → l.foldl (fun o x => insP c x o) out = l.foldl (fun o x => putS c x o) out
  | [], _, _ => rfl
  | a :: l, out, h => by
    simp only [List.foldl_cons]
    rw [insP_putS T a out h]
    exact fold_insP T l _ (ssrt_putS T a out h)
theorem fold_insP_usort (T : Tot c) (l : List α) : l.foldl (fun o x => insP c x o) [] = usort c l := fold_insP T l [] List.Pairwise.nil
theorem putS_len (x : α) : ∀ l : List α, (putS c x l).length ≤ l.length + 1
  | [] => by simp [putS]
  | a :: l => by
    have ih := putS_len x l
    simp only [putS]
    split
    · simp
    · split
      · simp
      · simp only [List.length_cons]; omega
theorem usort_acc_len : ∀ (l out : List α), (l.foldl (fun out x => putS c x out) out).length ≤ l.length + out.length
  | [], out => by simp
  | a :: l, out => by
    have h1 := usort_acc_len l (putS c a out)
    have h2 := putS_len (c := c) a out
    simp only [List.foldl_cons, List.length_cons]
    omega
theorem usort_len (l : List α) : (usort c l).length ≤ l.length := by
  have := usort_acc_len (c := c) l []
  simpa [usort] using this
theorem insP_len (x : α) (l : List α) : (insP c x l).length ≤ l.length + 1 := by
  unfold insP
  split
  · omega
  · simp; omega
theorem plB_iff (T : Tot c) (x : α) (l : List α) : plB c x l = true ↔ x ∈ l := by
  simp only [plB, List.any_eq_true, decide_eq_true_eq]
  constructor
  · rintro ⟨y, hy, h⟩
    have := (T.zero y x).1 h
    subst this
    exact hy
  · intro h
    exact ⟨x, h, T.self x⟩
theorem plB_usort (T : Tot c) (x : α) (l : List α) : plB c x (usort c l) = plB c x l := by
  have h1 := plB_iff T x (usort c l)
  have h2 := plB_iff T x l
  rw [mem_usort T] at h1
  cases e1 : plB c x (usort c l) <;> cases e2 : plB c x l <;> simp_all
/-- The sorted row without what is not kept. -/
theorem usort_filter (T : Tot c) (p : α → Bool) (l : List α) : (usort c l).filter p = usort c (l.filter p) := by
  refine (usort_of T ?_ fun x => ?_).symm
  · exact (ssrt_usort T l).filter p
  · simp only [List.mem_filter, mem_usort T]
theorem usort_idem (T : Tot c) (l : List α) : usort c (usort c l) = usort c l := usort_of T (ssrt_usort T l) fun x => Iff.rfl
theorem usort_congr (T : Tot c) {l m : List α} (h : ∀ x, x ∈ l ↔ x ∈ m) : usort c l = usort c m := usort_of T (ssrt_usort T m) fun x => by rw [mem_usort T, h]
theorem usort_nil : usort c ([] : List α) = [] := rfl

/-! ### beginnings keep the order -/
theorem lex_take {f : α → α → Int} : ∀ (k : Nat) (a b : List α), lex f a b ≤ 0 → lex f (a.take k) (b.take k) ≤ 0
  | 0, a, b, _ => by simp [lex]
  | k + 1, [], b, _ => by cases b <;> simp [lex]
  | k + 1, x :: a, [], h => by simp [lex] at h
  | k + 1, x :: a, y :: b, h => by
    simp only [lex, List.take_succ_cons] at h ⊢
    split
    · rename_i e
      rw [if_pos e] at h
      exact lex_take k a b h
    · rename_i e
      rw [if_neg e] at h
      exact h

/-! ### how often one begins -/
def turnF (s : Nat × Bool) (b : Bool) : Nat × Bool := (if b && !s.2 then s.1 + 1 else s.1, b)
def conv : List Bool → Prop
  | [] => True
  | b :: l => if b = true then l.Pairwise (fun x y => y = true → x = true) else conv l
theorem turns_none : ∀ (l : List Bool) (n : Nat) (w : Bool), (∀ b ∈ l, b = false) → (l.foldl turnF (n, w)).1 = n
  | [], n, w, _ => rfl
  | b :: l, n, w, h => by
    have e : b = false := h b (by simp)
    subst e
    simp only [List.foldl_cons, turnF, Bool.false_and, Bool.false_eq_true, if_false]
    exact turns_none l n false fun b hb => h b (by simp [hb])
theorem turns_down : ∀ (l : List Bool) (n : Nat), l.Pairwise (fun x y => y = true → x = true) → (l.foldl turnF (n, true)).1 = n
  | [], n, _ => rfl
  | b :: l, n, h => by
    have hc := List.pairwise_cons.1 h
    cases b with
    | true =>
      simp only [List.foldl_cons, turnF, Bool.not_true, Bool.and_false, Bool.false_eq_true, if_false]
      exact turns_down l n hc.2
    | false =>
      simp only [List.foldl_cons, turnF, Bool.false_and, Bool.false_eq_true, if_false]
      refine turns_none l n false fun b hb => ?_
      cases b with
      | false => rfl
      | true => exact absurd (hc.1 true hb rfl) (by simp)
theorem turns_le : ∀ (l : List Bool), conv l → (l.foldl turnF (0, false)).1 ≤ 1
  | [], _ => by simp
  | b :: l, h => by
    cases b with
    | true =>
      simp only [conv, if_true] at h
      simp only [List.foldl_cons, turnF, Bool.not_false, Bool.and_true, if_true]
      rw [turns_down l 1 h]
      exact Nat.le_refl _
    | false =>
      simp only [conv, Bool.false_eq_true, if_false] at h
      simp only [List.foldl_cons, turnF, Bool.false_and, Bool.false_eq_true, if_false]
      exact turns_le l h
theorem turnF_le (s : Nat × Bool) (b : Bool) : s.1 ≤ (turnF s b).1 ∧ (turnF s b).1 ≤ s.1 + 1 := by
  unfold turnF
  split <;> simp
theorem turns_bound : ∀ (l : List Bool) (s : Nat × Bool), (l.foldl turnF s).1 ≤ s.1 + l.length
  | [], s => by simp
  | b :: l, s => by
    have h1 := turns_bound l (turnF s b)
    have h2 := (turnF_le s b).2
    simp only [List.foldl_cons, List.length_cons]
    omega
theorem conv_of (T : Tot c) (P : α → Bool) (hP : ∀ a b d, c a b < 0 → c b d < 0 → P a = true → P d = true → P b = true) : ∀ l : List α, SSrt c l → conv (l.map P)
  | [], _ => trivial
  | a :: l, h => by
    have hc := List.pairwise_cons.1 h
    simp only [List.map_cons, conv]
    split
    · rename_i ha
      refine List.pairwise_map.2 ?_
      refine hc.2.imp_of_mem ?_
      intro x y hx hy hxy hPy
      exact hP a x y (hc.1 x hx) hxy ha hPy
    · exact conv_of T P hP l hc.2

/-! ### neighbours -/
def adjL {β : Type} (c : List β → List β → Int) : List (List β) → Bool
  | a :: b :: l => decide (a.length = b.length) && (decide (c a b < 0) && adjL c (b :: l))
  | _ => true
theorem adj_drop {β : Type} (c : List β → List β → Int) (l : List (List β)) (i : Nat) (h : i + 1 < l.length) : adjL c (l.drop i) = (decide (l[i].length = l[i + 1].length) && (decide (c l[i] l[i + 1] < 0) && adjL c (l.drop (i + 1)))) := by
  rw [List.drop_eq_getElem_cons (by omega), List.drop_eq_getElem_cons h]
  rfl
theorem adj_last {β : Type} (c : List β → List β → Int) (l : List (List β)) (i : Nat) (h : l.length ≤ i + 1) : adjL c (l.drop i) = true := by
  by_cases e : i < l.length
  · rw [List.drop_eq_getElem_cons e, List.drop_eq_nil_of_le h]
    rfl
  · rw [List.drop_eq_nil_of_le (by omega)]
    rfl
end Go.Pv

set_option maxHeartbeats 4000000
set_option maxRecDepth 200000
set_option linter.unusedSimpArgs false
set_option linter.unusedVariables false
/-! The place of a tuple, rows in order by putting in, what a relation is, tuples of one width: as the walks give them. -/
namespace Go.Pv
open Go Go.Proofs
/-! ### the place of a tuple -/
def plF (t : List Vl) (s : Nat × Bool) (a : List Vl) : (Nat × Bool) ⊕ (Nat × Bool) := .inl (if lexV a t < 0 then s.1 + 1 else s.1, s.2 || decide (lexV a t = 0))
theorem pl_fold (t : List Vl) : ∀ (l : List (List Vl)) (s : Nat × Bool), foldE (plF t) id l s = (s.1 + plN lexV t l, s.2 || plB lexV t l)
  | [], s => by simp [foldE, plN, plB]
  | a :: l, s => by
    simp only [foldE, plF]
    rw [pl_fold t l]
    simp only [plN, plB, List.countP_cons, List.any_cons, Prod.mk.injEq, Bool.or_assoc, and_true, decide_eq_true_eq]
    split <;> omega
theorem plN_le (t : List Vl) (l : List (List Vl)) : plN lexV t l ≤ l.length := List.countP_le_length
theorem TPlace_loop (l : List (List Vl)) (t : List Vl) (hl : l.length ≤ 1000000) : TPlace1_V [.sl (rOf cV t) .non, .int .i64 0, .bool false, .sl (rOf (cR cV) l) .non, .int .i64 (l.length : Nat), .int .i64 0] ⟨[], [], []⟩ = some (.exit 0, [.int .i64 (plN lexV t l : Nat), .bool (plB lexV t l)], ⟨[], [], []⟩) := by
  have h := loop_foldE0 (l := l) (V := fun i s => TPlace1_V [.sl (rOf cV t) .non, .int .i64 (s.1 : Nat), .bool s.2, .sl (rOf (cR cV) l) .non, .int .i64 (l.length : Nat), .int .i64 (i : Nat)] ⟨[], [], []⟩) (fun i s => s.1 ≤ i) (plF t) id (fun r => some (.exit 0, [.int .i64 (r.1 : Nat), .bool r.2], ⟨[], [], []⟩)) (0, false) (Nat.le_refl _) ?_ ?_
  · rw [pl_fold] at h
    simpa using h
  · intro i s a hs hi ha
    obtain ⟨n, b⟩ := s
    simp only at hs
    have w := inc_i64 (i := i) (by omega)
    have w2 := inc_i64 (i := n) (by omega)
    refine .inl ⟨_, rfl, ?_, ?_⟩
    · simp only
      split <;> omega
    · by_cases hc : lexV a t < 0 <;> cases b <;> simp [TPlace1_E, TPlace1_Tr, ha, hi, w, w2, hc]
  · intro b _
    simp [TPlace1_E, TPlace1_Tr]
theorem TPlace_law (l : List (List Vl)) (t : List Vl) (hl : l.length ≤ 1000000) : TPlace_W (rOf (cR cV) l) (rOf cV t) = some (.tup [.int .i64 (plN lexV t l : Nat), .bool (plB lexV t l)]) := by
  have h := TPlace_loop l t hl
  simp [TPlace_W, TPlace_Tr, TPlace1_is0, TPlace1_n, TPlace1_there, TPlace1_W, h]
theorem RPlace_loop (l : List (List Vl)) (t : List Vl) (hl : l.length ≤ 1000000) : RPlace1_V [.sl (rOf (cR cV) l) .non, .sl (rOf cV t) .non, .int .i64 0, .bool false, .int .i64 0] ⟨[], [], []⟩ = some (.exit 0, [.int .i64 (plN lexV t l : Nat), .bool (plB lexV t l)], ⟨[], [], []⟩) := by
  have h := loop_foldE0 (l := l) (V := fun i s => RPlace1_V [.sl (rOf (cR cV) l) .non, .sl (rOf cV t) .non, .int .i64 (s.1 : Nat), .bool s.2, .int .i64 (i : Nat)] ⟨[], [], []⟩) (fun i s => s.1 ≤ i) (plF t) id (fun r => some (.exit 0, [.int .i64 (r.1 : Nat), .bool r.2], ⟨[], [], []⟩)) (0, false) (Nat.le_refl _) ?_ ?_
  · rw [pl_fold] at h
    simpa using h
  · intro i s a hs hi ha
    obtain ⟨n, b⟩ := s
    simp only at hs
    have w := inc_i64 (i := i) (by omega)
    have w2 := inc_i64 (i := n) (by omega)
    refine .inl ⟨_, rfl, ?_, ?_⟩
    · simp only
      split <;> omega
    · by_cases hc : lexV a t < 0 <;> cases b <;> simp [RPlace1_E, RPlace1_Tr, ha, hi, w, w2, hc]
  · intro b _
    simp [RPlace1_E, RPlace1_Tr]
theorem RPlace_law (l : List (List Vl)) (t : List Vl) (hl : l.length ≤ 1000000) : RPlace_W (rOf (cR cV) l) (rOf cV t) = some (.tup [.int .i64 (plN lexV t l : Nat), .bool (plB lexV t l)]) := by
  have h := RPlace_loop l t hl
  simp [RPlace_W, RPlace_Tr, RPlace1_is0, RPlace1_n, RPlace1_in_, RPlace1_W, h]
/-! ### put in -/
theorem put_law (l : List (List Vl)) (t : List Vl) (hl : l.length ≤ 1000000) : put_W (rOf (cR cV) l) (rOf cV t) = some (.sl (rOf (cR cV) (insP lexV t l)) .non) := by
  have hp := RPlace_law l t hl
  have hn := plN_le t l
  have e0 : RPlace_is0 (rOf (cR cV) l) (rOf cV t) = true := by simp [RPlace_is0, RPlace_n, RPlace_b, hp]
  have e1 : RPlace_b (rOf (cR cV) l) (rOf cV t) = plB lexV t l := by simp [RPlace_b, hp]
  have e2 : RPlace_n (rOf (cR cV) l) (rOf cV t) = (plN lexV t l : Nat) := by simp [RPlace_n, hp]
  unfold put_W put_Tr insP
  generalize plN lexV t l = n at *
  simp only [lockLL_rOf, e0, e1, e2, Tr.run_ite, if_true]
  cases hb : plB lexV t l with
  | true => simp
  | false =>
    have g1 : (min n l.length) * 24 ≤ 140737488355328 := by omega
    have g2 : (min n l.length + 1) * 24 ≤ 140737488355328 := by omega
    have g3 : (min n l.length + 1 + (l.length - n)) * 24 ≤ 140737488355328 := by omega
    have g4 : min n l.length ≤ 140737488355328 := by omega
    have g5 : l.length ≤ 140737488355328 := by omega
    by_cases h1 : (l.take n) = [] <;> by_cases h2 : l.drop n = []
    all_goals
      simp [-List.take_eq_nil_iff, -List.drop_eq_nil_iff, h1, h2, hn]
      try omega
theorem RSorted_loop (l : List (List Vl)) (a : List Vl) (hl : l.length ≤ 1000000) (i : Nat) (b : List (List Vl)) (hb : b.length ≤ i) (hi : i ≤ l.length) : RSorted1_V [.sl (rOf (cR cV) l) .non, .sl (rOf (cR cV) b) .non, .int .i64 (i : Nat)] ⟨[], [], []⟩ = some (.exit 0, [.sl (rOf (cR cV) ((l.drop i).foldl (fun o x => insP lexV x o) b)) .non], ⟨[], [], []⟩) := by
  have hf : ∀ (m b : List (List Vl)), foldE (fun b a => (.inl (insP lexV a b) : List (List Vl) ⊕ List (List Vl))) id m b = m.foldl (fun o x => insP lexV x o) b := by
    intro m
    induction m with
    | nil => intro b; rfl
    | cons x m ih => intro b; simp only [foldE, List.foldl_cons, ih]
  have h := loop_foldE (l := l) (V := fun i b => RSorted1_V [.sl (rOf (cR cV) l) .non, .sl (rOf (cR cV) b) .non, .int .i64 (i : Nat)] ⟨[], [], []⟩) (fun i b => b.length ≤ i) (fun b a => .inl (insP lexV a b)) id (fun r => some (.exit 0, [.sl (rOf (cR cV) r) .non], ⟨[], [], []⟩)) ?_ ?_ i b hb hi
  · rw [hf] at h
    exact h
  · intro i b a hb hi ha
    have w := inc_i64 (i := i) (by omega)
    have hp := put_law b a (by omega)
    have hle := insP_len (c := lexV) a b
    refine .inl ⟨_, rfl, by omega, ?_⟩
    simp [RSorted1_E1, RSorted1_Tr1, ha, hi, w, put_is0, put_r, hp]
  · intro b _
    simp [RSorted1_E1, RSorted1_Tr1]
theorem RSorted_law (l : List (List Vl)) (hl : l.length ≤ 1000000) : RSorted_W (rOf (cR cV) l) = some (.sl (rOf (cR cV) (usort lexV l)) .non) := by
  rw [← fold_insP_usort lexV_tot]
  cases l with
  | nil =>
    have h : RSorted1_V [.sl [] .non, .sl [] .full, .int .i64 0] ⟨[], [], []⟩ = some (.exit 0, [.sl [] .full], ⟨[], [], []⟩) := by simp [RSorted1_E, RSorted1_Tr]
    simp [RSorted_W, RSorted_Tr, RSorted1_is0, RSorted1_out_0, RSorted1_W, h]
  | cons a m =>
    have w : iAdd .i64 0 1 = 1 := by kernel_rfl
    have hp := put_law [] a (by simp)
    have h1 := RSorted_loop (a :: m) a hl 1 (insP lexV a []) (by have := insP_len (c := lexV) a []; simpa using this) (by simp)
    have h : RSorted1_V [.sl (rOf (cR cV) (a :: m)) .non, .sl [] .full, .int .i64 0] ⟨[], [], []⟩ = some (.exit 0, [.sl (rOf (cR cV) ((a :: m).foldl (fun o x => insP lexV x o) [])) .non], ⟨[], [], []⟩) := by
      rw [RSorted1_E]
      simp only [List.drop_succ_cons, List.drop_zero] at h1
      simp only [List.foldl_cons]
      rw [← h1]
      simp at hp
      simp [RSorted1_Tr, put_is0, put_r, hp, w]
    generalize (a :: m).foldl (fun o x => insP lexV x o) [] = r at *
    simp [RSorted_W, RSorted_Tr, RSorted1_is0, RSorted1_is1, RSorted1_out_0, RSorted1_out_1, RSorted1_W, h]
/-! ### tuples of one width -/
def widL (l : List (List Vl)) (n : Nat) : List (List Vl) := l.filter fun t => decide (t.length = n)
theorem width_loop (l : List (List Vl)) (n : Nat) (hl : l.length ≤ 1000000) : width1_V [.sl (rOf (cR cV) l) .non, .int .i64 (n : Nat), .sl [] .full, .int .i64 0] ⟨[], [], []⟩ = some (.exit 0, [.sl (rOf (cR cV) (widL l n)) (aT (widL l n))], aS 1 23 (widL l n)) := by
  have h := loop_acc (l := l) (V := fun i b => width1_V [.sl (rOf (cR cV) l) .non, .int .i64 (n : Nat), .sl (rOf (cR cV) b) (aT b), .int .i64 (i : Nat)] (aS 1 23 b)) (fun a => if (decide (a.length = n)) = true then [a] else []) (fun r => some (.exit 0, [.sl (rOf (cR cV) r) (aT r)], aS 1 23 r)) ?_ ?_
  · rw [flatMap_filter (fun a : List Vl => decide (a.length = n))] at h
    simpa [widL] using h
  · intro i b a hb hi ha
    have w := inc_i64 (i := i) (by omega)
    have hlen : b.length ≤ i := by rw [hb]; exact flatMap_le _ (fun a => by split <;> simp) _ _
    have g1 : (b.length + 1) * 24 ≤ 140737488355328 := by omega
    have g2 : b.length ≤ 140737488355327 := by omega
    rcases aTS_cases 1 23 b with ⟨rfl, h1, h2⟩ | ⟨hne, h1, h2⟩
    · by_cases hm : a.length = n
      · simp [width1_E, width1_Tr, ha, hi, w, hm, one, aT, aS]
      · have hm' : ¬ (a.length : Int) = n := by omega
        simp [width1_E, width1_Tr, ha, hi, w, hm, hm']
    · by_cases hm : a.length = n
      · simp [h1, h2, width1_E1, width1_Tr1, ha, hi, w, hm, one, aT_snoc, aS_snoc, g1, g2]
      · have hm' : ¬ (a.length : Int) = n := by omega
        simp [h1, h2, width1_E1, width1_Tr1, ha, hi, w, hm, hm', g1, g2]
  · intro b hb
    rcases aTS_cases 1 23 b with ⟨rfl, h1, h2⟩ | ⟨hne, h1, h2⟩
    · simp [width1_E, width1_Tr]
    · simp [h1, h2, width1_E1, width1_Tr1]
theorem width_law (l : List (List Vl)) (n : Nat) (hl : l.length ≤ 1000000) : width_W (rOf (cR cV) l) (n : Nat) = some (.sl (rOf (cR cV) (widL l n)) .non) := by
  have h := width_loop l n hl
  unfold width_W width_Tr
  generalize widL l n = r at h
  rcases aTS_cases 1 23 r with ⟨rfl, h1, h2⟩ | ⟨hne, h1, h2⟩
  · try simp at h
    simp [width1_is0, width1_is1, width1_out_0, width1_out_1, width1_k_1, width1_W, h]
  · rw [h1, h2] at h
    try simp at h
    simp [width1_is0, width1_is1, width1_out_0, width1_out_1, width1_k_1, width1_W, h]
/-! ### what a relation is -/
def chkV (t : List Vl) : Int := if t.length ≤ 8 ∧ t.all isVl = true then 0 else 20
theorem chkT_of (t : List Vl) : chkT (rOf cV t) = chkV t := by simp only [chkT, unR_of, chkV]
theorem chkV_cases (t : List Vl) : chkV t = 0 ∨ chkV t = 20 := by unfold chkV; split <;> simp
def relV (l : List (List Vl)) : Int := if 65536 < l.length then 3 else if (l.all fun t => decide (chkV t = 0)) = true then (if adjL lexV l = true then 0 else 21) else 20
def chkF (b : Unit) (a : List Vl) : Unit ⊕ Bool := if chkV a = 0 then .inl () else .inr false
theorem chk_fold : ∀ l : List (List Vl), foldE chkF (fun _ => true) l () = l.all fun t => decide (chkV t = 0)
  | [] => rfl
  | a :: l => by
    have ih := chk_fold l
    by_cases h : chkV a = 0 <;> simp [foldE, chkF, h, ih]
theorem RChk1 (l : List (List Vl)) (hl : l.length ≤ 1000000) : RChkRel1_V [.sl (rOf (cR cV) l) .non, .int .i64 0] ⟨[], [], []⟩ = if (l.all fun t => decide (chkV t = 0)) = true then some (.exit 0, [.sl (rOf (cR cV) l) .non], ⟨[], [], []⟩) else some (.ret, [.int .i64 20], ⟨[], [], []⟩) := by
  have h := loop_foldE0 (l := l) (V := fun i _ => RChkRel1_V [.sl (rOf (cR cV) l) .non, .int .i64 (i : Nat)] ⟨[], [], []⟩) (fun _ _ => True) chkF (fun _ => true) (fun r => if r = true then some (.exit 0, [.sl (rOf (cR cV) l) .non], ⟨[], [], []⟩) else some (.ret, [.int .i64 20], ⟨[], [], []⟩)) () trivial ?_ ?_
  · rw [chk_fold] at h
    exact h
  · intro i b a _ hi ha
    have w := inc_i64 (i := i) (by omega)
    by_cases hc : chkV a = 0
    · exact .inl ⟨(), by simp [chkF, hc], trivial, by simp [RChkRel1_E, RChkRel1_Tr, ha, hi, w, chkT_of, hc]⟩
    · exact .inr ⟨false, by simp [chkF, hc], by simp [RChkRel1_E, RChkRel1_Tr, ha, hi, w, chkT_of, hc]⟩
  · intro b _
    simp [RChkRel1_E, RChkRel1_Tr]
theorem TChk1 (l : List (List Vl)) (hl : l.length ≤ 1000000) : TChkRel1_V [.sl (rOf (cR cV) l) .non, .sl (rOf (cR cV) l) .non, .int .i64 (l.length : Nat), .int .i64 0] ⟨[], [], []⟩ = if (l.all fun t => decide (chkV t = 0)) = true then some (.exit 0, [.sl (rOf (cR cV) l) .non], ⟨[], [], []⟩) else some (.ret, [.int .i64 20], ⟨[], [], []⟩) := by
  have h := loop_foldE0 (l := l) (V := fun i _ => TChkRel1_V [.sl (rOf (cR cV) l) .non, .sl (rOf (cR cV) l) .non, .int .i64 (l.length : Nat), .int .i64 (i : Nat)] ⟨[], [], []⟩) (fun _ _ => True) chkF (fun _ => true) (fun r => if r = true then some (.exit 0, [.sl (rOf (cR cV) l) .non], ⟨[], [], []⟩) else some (.ret, [.int .i64 20], ⟨[], [], []⟩)) () trivial ?_ ?_
  · rw [chk_fold] at h
    exact h
  · intro i b a _ hi ha
    have w := inc_i64 (i := i) (by omega)
    have hcc := chkV_cases a
    by_cases hc : chkV a = 0
    · exact .inl ⟨(), by simp [chkF, hc], trivial, by simp [TChkRel1_E, TChkRel1_Tr, ha, hi, w, chkT_of, hc]⟩
    · have hc2 : chkV a = 20 := by omega
      exact .inr ⟨false, by simp [chkF, hc], by simp [TChkRel1_E, TChkRel1_Tr, ha, hi, w, chkT_of, hc2]⟩
  · intro b _
    simp [TChkRel1_E, TChkRel1_Tr]
theorem dec_i64 {i : Nat} (h : i < 9223372036854775807) : iSub .i64 ((i + 1 : Nat) : Int) 1 = (i : Int) := by
  have : iSub .i64 ((i + 1 : Nat) : Int) 1 = IntKind.wrap .i64 (((i + 1 : Nat) : Int) - 1) := rfl
  rw [this, wrap_i64 (by omega)]
  omega
theorem TChk2 (l : List (List Vl)) (hl : l.length ≤ 1000000) : ∀ (k i : Nat), i + k = l.length → TChkRel2_V [.sl (rOf (cR cV) l) .non, .int .i64 (l.length : Nat), .int .i64 ((i + 1 : Nat) : Int)] ⟨[], [], []⟩ = if adjL lexV (l.drop i) = true then some (.exit 2, [], ⟨[], [], []⟩) else some (.ret, [.int .i64 21], ⟨[], [], []⟩)
  | 0, i, hi => by
    rw [adj_last _ _ _ (by omega), if_pos rfl]
    have : ¬ (((i + 1 : Nat) : Int) < l.length) := by omega
    rw [TChkRel2_E]
    simp only [TChkRel2_Tr, Tr.run_ite, iLt_eq, decide_eq_true_eq, if_neg this, Tr.run_ret, lnext]
  | k + 1, i, hi => by
    by_cases he : i + 1 < l.length
    · have ih := TChk2 l hl k (i + 1) (by omega)
      have w := inc_i64 (i := i + 1) (by omega)
      have d := dec_i64 (i := i) (by omega)
      have h1 : i < l.length := by omega
      rw [adj_drop _ _ _ he]
      have p : (((i + 1 : Nat) : Int) < l.length) := by omega
      have p2 : ((0 : Int) < ((i + 1 : Nat) : Int)) := by omega
      have p3 : 0 < i + 1 := by omega
      by_cases c1 : l[i].length = l[i + 1].length
      · by_cases c2 : lexV l[i] l[i + 1] < 0
        · have c3 : ¬ 0 ≤ lexV l[i] l[i + 1] := by omega
          simp only [c1, c2, decide_true, Bool.true_and, ← ih]
          rw [TChkRel2_E]
          generalize hj : i + 1 = j at *
          simp [TChkRel2_Tr, p, p2, p3, d, w, h1, he, c1, c3]
        · have c3 : 0 ≤ lexV l[i] l[i + 1] := by omega
          simp only [c2, decide_false, Bool.false_and, Bool.and_false]
          rw [TChkRel2_E]
          generalize hj : i + 1 = j at *
          simp [TChkRel2_Tr, p, p2, p3, d, w, h1, he, c1, c3]
      · have c4 : ¬ (l[i].length : Int) = l[i + 1].length := by omega
        simp only [c1, decide_false, Bool.false_and]
        rw [TChkRel2_E]
        generalize hj : i + 1 = j at *
        simp [TChkRel2_Tr, p, p2, p3, d, w, h1, he, c1, c4]
    · rw [adj_last _ _ _ (by omega), if_pos rfl]
      have : ¬ (((i + 1 : Nat) : Int) < l.length) := by omega
      rw [TChkRel2_E]
      simp only [TChkRel2_Tr, Tr.run_ite, iLt_eq, xLen_rOf, decide_eq_true_eq, if_neg this, Tr.run_ret, lnext]
theorem RChk2 (l : List (List Vl)) (hl : l.length ≤ 1000000) (h0 : 0 < l.length) : ∀ (k i : Nat) (hi : i + k = l.length) (hw : ∀ h : i < l.length, l[i].length = l[0].length), RChkRel2_V [.sl (rOf (cR cV) l) .non, .int .i64 ((i + 1 : Nat) : Int)] ⟨[], [], []⟩ = if adjL lexV (l.drop i) = true then some (.exit 2, [], ⟨[], [], []⟩) else some (.ret, [.int .i64 21], ⟨[], [], []⟩)
  | 0, i, hi, hw => by
    rw [adj_last _ _ _ (by omega), if_pos rfl]
    have : ¬ (((i + 1 : Nat) : Int) < l.length) := by omega
    rw [RChkRel2_E]
    simp only [RChkRel2_Tr, Tr.run_ite, iLt_eq, xLen_rOf, decide_eq_true_eq, if_neg this, Tr.run_ret, lnext]
  | k + 1, i, hi, hw => by
    by_cases he : i + 1 < l.length
    · have h1 : i < l.length := by omega
      have hw1 := hw h1
      have w := inc_i64 (i := i + 1) (by omega)
      have d := dec_i64 (i := i) (by omega)
      rw [adj_drop _ _ _ he]
      have p : (((i + 1 : Nat) : Int) < l.length) := by omega
      by_cases c1 : l[i].length = l[i + 1].length
      · have c1' : l[i + 1].length = l[0].length := by omega
        have ih := RChk2 l hl h0 k (i + 1) (by omega) (fun _ => c1')
        by_cases c2 : lexV l[i] l[i + 1] < 0
        · have c3 : ¬ 0 ≤ lexV l[i] l[i + 1] := by omega
          simp only [c1, c2, decide_true, Bool.true_and, ← ih]
          rw [RChkRel2_E]
          generalize hj : i + 1 = j at *
          simp [RChkRel2_Tr, p, d, w, h0, h1, he, c1', c3]
        · have c3 : 0 ≤ lexV l[i] l[i + 1] := by omega
          simp only [c2, decide_false, Bool.false_and, Bool.and_false]
          rw [RChkRel2_E]
          generalize hj : i + 1 = j at *
          simp [RChkRel2_Tr, p, d, w, h0, h1, he, c1', c3]
      · have c4 : ¬ l[i + 1].length = l[0].length := by omega
        have c5 : ¬ (l[i + 1].length : Int) = l[0].length := by omega
        simp only [c1, decide_false, Bool.false_and]
        rw [RChkRel2_E]
        generalize hj : i + 1 = j at *
        simp [RChkRel2_Tr, p, d, w, h0, h1, he, c4, c5]
    · rw [adj_last _ _ _ (by omega), if_pos rfl]
      have : ¬ (((i + 1 : Nat) : Int) < l.length) := by omega
      rw [RChkRel2_E]
      simp only [RChkRel2_Tr, Tr.run_ite, iLt_eq, xLen_rOf, decide_eq_true_eq, if_neg this, Tr.run_ret, lnext]
theorem RChkRel_law (l : List (List Vl)) (hl : l.length ≤ 1000000) : RChkRel_W (rOf (cR cV) l) = some (.int .i64 (relV l)) := by
  have h1 := RChk1 l hl
  unfold RChkRel_W RChkRel_Tr relV
  by_cases hm : 65536 < l.length
  · have hm' : (65536 : Int) < l.length := by omega
    simp [hm, hm']
  · have hm' : ¬ (65536 : Int) < l.length := by omega
    cases ha : l.all fun t => decide (chkV t = 0) with
    | false =>
      rw [ha] at h1
      simp only [Bool.false_eq_true, if_false] at h1 ⊢
      simp [hm, hm', RChkRel1_is0, RChkRel1_n_0, RChkRel1_W, h1]
    | true =>
      rw [ha] at h1
      simp only [if_true] at h1 ⊢
      have h2 : RChkRel2_V [.sl (rOf (cR cV) l) .non, .int .i64 1] ⟨[], [], []⟩ = if adjL lexV l = true then some (.exit 2, [], ⟨[], [], []⟩) else some (.ret, [.int .i64 21], ⟨[], [], []⟩) := by
        by_cases h0 : 0 < l.length
        · have := RChk2 l hl h0 l.length 0 (by omega) (fun _ => rfl)
          simpa using this
        · have : l = [] := List.length_eq_zero_iff.1 (by omega)
          subst this
          rw [RChkRel2_E]
          simp [RChkRel2_Tr, adjL]
      cases hj : adjL lexV l with
      | true =>
        rw [hj, if_pos rfl] at h2
        simp [hm, hm', RChkRel1_is0, RChkRel1_is1, RChkRel1_n_0, RChkRel1_l_1, RChkRel1_W, h1, RChkRel2_is0, RChkRel2_is1, RChkRel2_n_0, RChkRel2_W, h2]
      | false =>
        rw [hj] at h2
        simp only [Bool.false_eq_true, if_false] at h2
        simp [hm, hm', RChkRel1_is0, RChkRel1_is1, RChkRel1_n_0, RChkRel1_l_1, RChkRel1_W, h1, RChkRel2_is0, RChkRel2_is1, RChkRel2_n_0, RChkRel2_W, h2]
theorem TChkRel_law (l : List (List Vl)) (hl : l.length ≤ 1000000) : TChkRel_W (rOf (cR cV) l) = some (.int .i64 (relV l)) := by
  have h1 := TChk1 l hl
  unfold TChkRel_W TChkRel_Tr relV
  by_cases hm : 65536 < l.length
  · have hm' : (65536 : Int) < l.length := by omega
    simp [hm, hm']
  · have hm' : ¬ (65536 : Int) < l.length := by omega
    cases ha : l.all fun t => decide (chkV t = 0) with
    | false =>
      rw [ha] at h1
      simp only [Bool.false_eq_true, if_false] at h1 ⊢
      simp [hm, hm', TChkRel1_is0, TChkRel1_n_0, TChkRel1_W, h1]
    | true =>
      rw [ha] at h1
      simp only [if_true] at h1 ⊢
      have h2 : TChkRel2_V [.sl (rOf (cR cV) l) .non, .int .i64 (l.length : Nat), .int .i64 0] ⟨[], [], []⟩ = if adjL lexV l = true then some (.exit 2, [], ⟨[], [], []⟩) else some (.ret, [.int .i64 21], ⟨[], [], []⟩) := by
        have h := TChk2 l hl l.length 0 (by omega)
        by_cases h0 : 0 < l.length
        · simp only [List.drop_zero] at h
          rw [← h, TChkRel2_E]
          have w : iAdd .i64 0 1 = 1 := by kernel_rfl
          simp [TChkRel2_Tr, h0, w]
        · have : l = [] := List.length_eq_zero_iff.1 (by omega)
          subst this
          rw [TChkRel2_E]
          simp [TChkRel2_Tr, adjL]
      cases hj : adjL lexV l with
      | true =>
        rw [hj, if_pos rfl] at h2
        simp [hm, hm', TChkRel1_is0, TChkRel1_is1, TChkRel1_n_0, TChkRel1_l_1, TChkRel1_W, h1, TChkRel2_is0, TChkRel2_is1, TChkRel2_n_0, TChkRel2_W, h2]
      | false =>
        rw [hj] at h2
        simp only [Bool.false_eq_true, if_false] at h2
        simp [hm, hm', TChkRel1_is0, TChkRel1_is1, TChkRel1_n_0, TChkRel1_l_1, TChkRel1_W, h1, TChkRel2_is0, TChkRel2_is1, TChkRel2_n_0, TChkRel2_W, h2]
end Go.Pv

set_option maxHeartbeats 4000000
set_option maxRecDepth 200000
set_option linter.unusedSimpArgs false
set_option linter.unusedVariables false
namespace Go.Pv
open Go Go.Proofs
noncomputable def G_ins : GamT := ofL [(16, .pure F_TCmp)]
theorem gok_ins (gl : Nat → Option Obj) : GamOk Tryd.prog gl (gam G_ins) := (gamOk_cons (sim_TCmp gl) gamOk_nil)
noncomputable def c_ins1 : Code := loopC Tryd.f119 1
noncomputable def c_ins2 : Code := loopC Tryd.f119 4
def I_ins2 : LI := ⟨53, [0, 1, 2, 3, 8, 9], fun e => match e with | .exit 2 => [0, 1, 2, 3, 8] | _ => [], false⟩
noncomputable def LI_ins2 : LpsT := fun r fr σ => .fail
noncomputable def ins2_V (vs : List PV) (σ : Store) : Option (PExit × List PV × Store) := lval (lstep tbT G_ins LI_ins2 c_ins2 I_ins2) vs σ
noncomputable def ins2_Tr (data : Nat) (data2 : Nat) (a : Int) (b : Int) (i : Int) (j : Int) (l : List PV) (l2 : List PV) (rest : List (List PV)) (toks : List (Nat × Nat × TypeId)) (tys : List TypeId) : Tr LR := Tr.ite (iLt a j) (Tr.ite (okIx j data2) (Tr.ite (okCell [PV.sl [] .full] l2 (pOff data (nNat j) 1)) (Tr.ite (okIx (iSub .i64 j 1) data2) (Tr.ite (okCell [PV.sl [] .full] l2 (pOff data (nNat (iSub .i64 j 1)) 1)) (Tr.ite (okR cV (lockLL (lockLL (cRow l2 (pOff data (nNat j) 1) 0)))) (Tr.ite (okR cV (lockLL (lockLL (cRow l2 (pOff data (nNat (iSub .i64 j 1)) 1) 0)))) (Tr.ite (iLt (cmpTV (lockLL (lockLL (cRow l2 (pOff data (nNat j) 1) 0))) (lockLL (lockLL (cRow l2 (pOff data (nNat (iSub .i64 j 1)) 1) 0)))) 0) (Tr.ite (okIx (iSub .i64 j 1) data2) (Tr.ite (okCell [PV.sl [] .full] l2 (pOff data (nNat (iSub .i64 j 1)) 1)) (Tr.ite (okIx j data2) (Tr.ite (okCell [PV.sl [] .full] l2 (pOff data (nNat j) 1)) (Tr.ite (okIx j data2) (Tr.ite (okOff l2 (pOff data (nNat j) 1) 1) (Tr.ite (okIx (iSub .i64 j 1) data2) (Tr.ite (okOff (putC l2 (pOff data (nNat j) 1) [PV.sl (cRow l2 (pOff data (nNat (iSub .i64 j 1)) 1) 0) .non]) (pOff data (nNat (iSub .i64 j 1)) 1) 1) (Tr.ret (LR.next [PV.osl 1 data data2 1, PV.int .i64 a, PV.int .i64 b, PV.fn 16 [], PV.int .i64 i, PV.int .i64 (iSub .i64 j 1)] (Store.mk (l :: putC (putC l2 (pOff data (nNat j) 1) [PV.sl (cRow l2 (pOff data (nNat (iSub .i64 j 1)) 1) 0) .non]) (pOff data (nNat (iSub .i64 j 1)) 1) [PV.sl (cRow l2 (pOff data (nNat j) 1) 0) .non] :: rest) toks (82 :: 1000023 :: tys)))) Tr.fail) Tr.fail) Tr.fail) Tr.fail) Tr.fail) Tr.fail) Tr.fail) Tr.fail) (Tr.ret (LR.out (.exit 2) [PV.osl 1 data data2 1, PV.int .i64 a, PV.int .i64 b, PV.fn 16 [], PV.int .i64 i] (Store.mk (l :: l2 :: rest) toks (82 :: 1000023 :: tys))))) Tr.fail) Tr.fail) Tr.fail) Tr.fail) Tr.fail) Tr.fail) (Tr.ret (LR.out (.exit 2) [PV.osl 1 data data2 1, PV.int .i64 a, PV.int .i64 b, PV.fn 16 [], PV.int .i64 i] (Store.mk (l :: l2 :: rest) toks (82 :: 1000023 :: tys))))
theorem ins2_T (data : Nat) (data2 : Nat) (a : Int) (b : Int) (i : Int) (j : Int) (l : List PV) (l2 : List PV) (rest : List (List PV)) (toks : List (Nat × Nat × TypeId)) (tys : List TypeId) : lstep tbT G_ins LI_ins2 c_ins2 I_ins2 [.osl 1 data data2 1, .int .i64 a, .int .i64 b, .fn 16 [], .int .i64 i, .int .i64 j] ⟨(l :: l2 :: rest), (toks), (82 :: 1000023 :: tys)⟩ = ins2_Tr data data2 a b i j l l2 rest toks tys := by kernel_rfl
theorem ins2_E (data : Nat) (data2 : Nat) (a : Int) (b : Int) (i : Int) (j : Int) (l : List PV) (l2 : List PV) (rest : List (List PV)) (toks : List (Nat × Nat × TypeId)) (tys : List TypeId) : ins2_V [.osl 1 data data2 1, .int .i64 a, .int .i64 b, .fn 16 [], .int .i64 i, .int .i64 j] ⟨(l :: l2 :: rest), (toks), (82 :: 1000023 :: tys)⟩ = lnext ins2_V (ins2_Tr data data2 a b i j l l2 rest toks tys).run := by unfold ins2_V; rw [lval_eq, ins2_T]
noncomputable def ins2_W (data : Nat) (data2 : Nat) (a : Int) (b : Int) (i : Int) (j : Int) (l : List PV) (l2 : List PV) (rest : List (List PV)) (toks : List (Nat × Nat × TypeId)) (tys : List TypeId) : Option (PExit × List PV × Store) := ins2_V [.osl 1 data data2 1, .int .i64 a, .int .i64 b, .fn 16 [], .int .i64 i, .int .i64 j] ⟨(l :: l2 :: rest), (toks), (82 :: 1000023 :: tys)⟩
noncomputable def ins2_l2 (data : Nat) (data2 : Nat) (a : Int) (b : Int) (i : Int) (j : Int) (l : List PV) (l2 : List PV) (rest : List (List PV)) (toks : List (Nat × Nat × TypeId)) (tys : List TypeId) : List PV := (gObj (ins2_W data data2 a b i j l l2 rest toks tys) 1)
noncomputable def ins2_is0 (data : Nat) (data2 : Nat) (a : Int) (b : Int) (i : Int) (j : Int) (l : List PV) (l2 : List PV) (rest : List (List PV)) (toks : List (Nat × Nat × TypeId)) (tys : List TypeId) : Bool := isW (ins2_W data data2 a b i j l l2 rest toks tys) ((.exit 2), [.osl 1 data data2 1, .int .i64 a, .int .i64 b, .fn 16 [], .int .i64 i], ⟨(l :: (ins2_l2 data data2 a b i j l l2 rest toks tys) :: rest), (toks), (82 :: 1000023 :: tys)⟩)
noncomputable def ins2_prop : List PV → Store → Tr (PExit × List PV × Store) | [.osl 1 data data2 1, .int .i64 a, .int .i64 b, .fn 16 [], .int .i64 i, .int .i64 j], ⟨(l :: l2 :: rest), (toks), (82 :: 1000023 :: tys)⟩ => .ite (ins2_is0 data data2 a b i j l l2 rest toks tys) (.ret ((.exit 2), [.osl 1 data data2 1, .int .i64 a, .int .i64 b, .fn 16 [], .int .i64 i], ⟨(l :: (ins2_l2 data data2 a b i j l l2 rest toks tys) :: rest), (toks), (82 :: 1000023 :: tys)⟩)) (.fail) | _, _ => .fail
theorem ins2_ok : ∀ vs σ r, (ins2_prop vs σ).run = some r → ins2_V vs σ = some r := by
  intro vs σ r h
  unfold ins2_prop at h
  split at h
  · exact ite_isW h fun h => by cases h
  · cases h
theorem loop_ins2 (gl : Nat → Option Obj) : ∀ fr σ e fr' σ', (orc I_ins2 ins2_prop fr σ).run = some (e, fr', σ') → LDoes Tryd.prog gl c_ins2 fr σ e fr' σ' := orc_ok tbT_ok (gok_ins gl ) noMixed (L := LI_ins2) (loopOk_none (by kernel_rfl)) (by kernel_rfl) ins2_ok
def I_ins1 : LI := ⟨53, [0, 1, 2, 3, 8], fun e => match e with | .exit 0 => [] | _ => [], false⟩
noncomputable def LI_ins1 : LpsT := fun r fr σ => bif Nat.beq r 4 then orc I_ins2 ins2_prop fr σ else .fail
noncomputable def ins1_V (vs : List PV) (σ : Store) : Option (PExit × List PV × Store) := lval (lstep tbT G_ins LI_ins1 c_ins1 I_ins1) vs σ
noncomputable def ins1_Tr (data : Nat) (data2 : Nat) (a : Int) (b : Int) (i : Int) (l : List PV) (l2 : List PV) (rest : List (List PV)) (toks : List (Nat × Nat × TypeId)) (tys : List TypeId) : Tr LR := Tr.ite (iLt i b) (Tr.ite (ins2_is0 data data2 a b i i l l2 rest toks tys) (Tr.ret (LR.next [PV.osl 1 data data2 1, PV.int .i64 a, PV.int .i64 b, PV.fn 16 [], PV.int .i64 (iAdd .i64 i 1)] (Store.mk (l :: ins2_l2 data data2 a b i i l l2 rest toks tys :: rest) toks (82 :: 1000023 :: tys)))) Tr.fail) (Tr.ret (LR.out (.exit 0) [] (Store.mk (l :: l2 :: rest) toks (82 :: 1000023 :: tys))))
theorem ins1_T (data : Nat) (data2 : Nat) (a : Int) (b : Int) (i : Int) (l : List PV) (l2 : List PV) (rest : List (List PV)) (toks : List (Nat × Nat × TypeId)) (tys : List TypeId) : lstep tbT G_ins LI_ins1 c_ins1 I_ins1 [.osl 1 data data2 1, .int .i64 a, .int .i64 b, .fn 16 [], .int .i64 i] ⟨(l :: l2 :: rest), (toks), (82 :: 1000023 :: tys)⟩ = ins1_Tr data data2 a b i l l2 rest toks tys := by kernel_rfl
theorem ins1_E (data : Nat) (data2 : Nat) (a : Int) (b : Int) (i : Int) (l : List PV) (l2 : List PV) (rest : List (List PV)) (toks : List (Nat × Nat × TypeId)) (tys : List TypeId) : ins1_V [.osl 1 data data2 1, .int .i64 a, .int .i64 b, .fn 16 [], .int .i64 i] ⟨(l :: l2 :: rest), (toks), (82 :: 1000023 :: tys)⟩ = lnext ins1_V (ins1_Tr data data2 a b i l l2 rest toks tys).run := by unfold ins1_V; rw [lval_eq, ins1_T]
noncomputable def ins1_W (data : Nat) (data2 : Nat) (a : Int) (b : Int) (i : Int) (l : List PV) (l2 : List PV) (rest : List (List PV)) (toks : List (Nat × Nat × TypeId)) (tys : List TypeId) : Option (PExit × List PV × Store) := ins1_V [.osl 1 data data2 1, .int .i64 a, .int .i64 b, .fn 16 [], .int .i64 i] ⟨(l :: l2 :: rest), (toks), (82 :: 1000023 :: tys)⟩
noncomputable def ins1_l2 (data : Nat) (data2 : Nat) (a : Int) (b : Int) (i : Int) (l : List PV) (l2 : List PV) (rest : List (List PV)) (toks : List (Nat × Nat × TypeId)) (tys : List TypeId) : List PV := (gObj (ins1_W data data2 a b i l l2 rest toks tys) 1)
noncomputable def ins1_is0 (data : Nat) (data2 : Nat) (a : Int) (b : Int) (i : Int) (l : List PV) (l2 : List PV) (rest : List (List PV)) (toks : List (Nat × Nat × TypeId)) (tys : List TypeId) : Bool := isW (ins1_W data data2 a b i l l2 rest toks tys) ((.exit 0), [], ⟨(l :: (ins1_l2 data data2 a b i l l2 rest toks tys) :: rest), (toks), (82 :: 1000023 :: tys)⟩)
noncomputable def ins1_prop : List PV → Store → Tr (PExit × List PV × Store) | [.osl 1 data data2 1, .int .i64 a, .int .i64 b, .fn 16 [], .int .i64 i], ⟨(l :: l2 :: rest), (toks), (82 :: 1000023 :: tys)⟩ => .ite (ins1_is0 data data2 a b i l l2 rest toks tys) (.ret ((.exit 0), [], ⟨(l :: (ins1_l2 data data2 a b i l l2 rest toks tys) :: rest), (toks), (82 :: 1000023 :: tys)⟩)) (.fail) | _, _ => .fail
theorem ins1_ok : ∀ vs σ r, (ins1_prop vs σ).run = some r → ins1_V vs σ = some r := by
  intro vs σ r h
  unfold ins1_prop at h
  split at h
  · exact ite_isW h fun h => by cases h
  · cases h
theorem loop_ins1 (gl : Nat → Option Obj) : ∀ fr σ e fr' σ', (orc I_ins1 ins1_prop fr σ).run = some (e, fr', σ') → LDoes Tryd.prog gl c_ins1 fr σ e fr' σ' := orc_ok tbT_ok (gok_ins gl ) noMixed (L := LI_ins1) (loopOk_all (L := lps LI_ins1) [(4, c_ins2)] (by kernel_rfl) (List.forall_mem_cons.2 ⟨fun fr σ e fr' σ' h => loop_ins2 gl  fr σ e fr' σ' h, (List.forall_mem_nil _)⟩)) (by kernel_rfl) ins1_ok
noncomputable def L_ins : LpsT := fun r fr σ => bif Nat.beq r 1 then orc I_ins1 ins1_prop fr σ else .fail
noncomputable def ins_Tr (off : Nat) (len : Nat) (a : Int) (b : Int) (c0 : List PV) (cs : List PV) (rest : List (List PV)) (toks : List (Nat × Nat × TypeId)) (tys : List TypeId) : Tr (PV × Store) := Tr.ite (ins1_is0 off len a b (iAdd .i64 a 1) c0 cs rest toks tys) (Tr.ret (PV.tup [], Store.mk (c0 :: ins1_l2 off len a b (iAdd .i64 a 1) c0 cs rest toks tys :: rest) toks (82 :: 1000023 :: tys))) Tr.fail
theorem ins_T (off : Nat) (len : Nat) (a : Int) (b : Int) (c0 : List PV) (cs : List PV) (rest : List (List PV)) (toks : List (Nat × Nat × TypeId)) (tys : List TypeId) : (tcallS tbT G_ins L_ins Tryd.f119 [.osl 1 off len 1, .int .i64 a, .int .i64 b, .fn 16 []] ⟨c0 :: cs :: rest, toks, 82 :: 1000023 :: tys⟩).flat = ins_Tr off len a b c0 cs rest toks tys := by kernel_rfl
noncomputable def ins_W (off : Nat) (len : Nat) (a : Int) (b : Int) (c0 : List PV) (cs : List PV) (rest : List (List PV)) (toks : List (Nat × Nat × TypeId)) (tys : List TypeId) : Option (PV × Store) := (ins_Tr off len a b c0 cs rest toks tys).run
noncomputable def ins_l2 (off : Nat) (len : Nat) (a : Int) (b : Int) (c0 : List PV) (cs : List PV) (rest : List (List PV)) (toks : List (Nat × Nat × TypeId)) (tys : List TypeId) : List PV := (gObj (asOut (ins_W off len a b c0 cs rest toks tys)) 1)
noncomputable def ins_is0 (off : Nat) (len : Nat) (a : Int) (b : Int) (c0 : List PV) (cs : List PV) (rest : List (List PV)) (toks : List (Nat × Nat × TypeId)) (tys : List TypeId) : Bool := isW (ins_W off len a b c0 cs rest toks tys) (.tup [], ⟨(c0 :: (ins_l2 off len a b c0 cs rest toks tys) :: rest), (toks), (82 :: 1000023 :: tys)⟩)
noncomputable def D_ins : List PV → Store → Tr (PV × Store) | [.osl 1 off len 1, .int .i64 a, .int .i64 b, .fn 16 []], ⟨c0 :: cs :: rest, toks, 82 :: 1000023 :: tys⟩ => .ite (ins_is0 off len a b c0 cs rest toks tys) (.ret (.tup [], ⟨(c0 :: (ins_l2 off len a b c0 cs rest toks tys) :: rest), (toks), (82 :: 1000023 :: tys)⟩)) (.fail) | _, _ => .fail
theorem sim_ins (gl : Nat → Option Obj) : SimS Tryd.prog gl 119 fun args σ => (D_ins args σ).run := by
  refine SimS.of_flat (G := G_ins) (L := L_ins) tbT_ok (gok_ins gl ) noMixed Tryd.func119 rfl (by rfl) (by kernel_rfl) (loopOk_all (L := lps L_ins) [(1, c_ins1)] (by kernel_rfl) (List.forall_mem_cons.2 ⟨fun fr σ e fr' σ' h => loop_ins1 gl  fr σ e fr' σ' h, (List.forall_mem_nil _)⟩)) ?_
  intro args σ x h
  unfold D_ins at h
  split at h
  · exact (congrArg Tr.run (ins_T _ _ _ _ _ _ _ _ _)).trans (ite_isW h fun h => by cases h)
  · cases h
noncomputable def G_swp : GamT := ofL []
theorem gok_swp (gl : Nat → Option Obj) : GamOk Tryd.prog gl (gam G_swp) := gamOk_nil
noncomputable def c_swp1 : Code := loopC Tryd.f144 1
def I_swp1 : LI := ⟨38, [0, 1, 2, 3, 10], fun e => match e with | .exit 0 => [] | _ => [], false⟩
noncomputable def LI_swp1 : LpsT := fun r fr σ => .fail
noncomputable def swp1_V (vs : List PV) (σ : Store) : Option (PExit × List PV × Store) := lval (lstep tbT G_swp LI_swp1 c_swp1 I_swp1) vs σ
noncomputable def swp1_Tr (data : Nat) (data2 : Nat) (a : Int) (b : Int) (n : Int) (i : Int) (l : List PV) (l2 : List PV) (rest : List (List PV)) (toks : List (Nat × Nat × TypeId)) (tys : List TypeId) : Tr LR := Tr.ite (iLt i n) (Tr.ite (okIx (iAdd .i64 b i) data2) (Tr.ite (okCell [PV.sl [] .full] l2 (pOff data (nNat (iAdd .i64 b i)) 1)) (Tr.ite (okIx (iAdd .i64 a i) data2) (Tr.ite (okCell [PV.sl [] .full] l2 (pOff data (nNat (iAdd .i64 a i)) 1)) (Tr.ite (okIx (iAdd .i64 a i) data2) (Tr.ite (okOff l2 (pOff data (nNat (iAdd .i64 a i)) 1) 1) (Tr.ite (okIx (iAdd .i64 b i) data2) (Tr.ite (okOff (putC l2 (pOff data (nNat (iAdd .i64 a i)) 1) [PV.sl (cRow l2 (pOff data (nNat (iAdd .i64 b i)) 1) 0) .non]) (pOff data (nNat (iAdd .i64 b i)) 1) 1) (Tr.ret (LR.next [PV.osl 1 data data2 1, PV.int .i64 a, PV.int .i64 b, PV.int .i64 n, PV.int .i64 (iAdd .i64 i 1)] (Store.mk (l :: putC (putC l2 (pOff data (nNat (iAdd .i64 a i)) 1) [PV.sl (cRow l2 (pOff data (nNat (iAdd .i64 b i)) 1) 0) .non]) (pOff data (nNat (iAdd .i64 b i)) 1) [PV.sl (cRow l2 (pOff data (nNat (iAdd .i64 a i)) 1) 0) .non] :: rest) toks (82 :: 1000023 :: tys)))) Tr.fail) Tr.fail) Tr.fail) Tr.fail) Tr.fail) Tr.fail) Tr.fail) Tr.fail) (Tr.ret (LR.out (.exit 0) [] (Store.mk (l :: l2 :: rest) toks (82 :: 1000023 :: tys))))
theorem swp1_T (data : Nat) (data2 : Nat) (a : Int) (b : Int) (n : Int) (i : Int) (l : List PV) (l2 : List PV) (rest : List (List PV)) (toks : List (Nat × Nat × TypeId)) (tys : List TypeId) : lstep tbT G_swp LI_swp1 c_swp1 I_swp1 [.osl 1 data data2 1, .int .i64 a, .int .i64 b, .int .i64 n, .int .i64 i] ⟨(l :: l2 :: rest), (toks), (82 :: 1000023 :: tys)⟩ = swp1_Tr data data2 a b n i l l2 rest toks tys := by kernel_rfl
theorem swp1_E (data : Nat) (data2 : Nat) (a : Int) (b : Int) (n : Int) (i : Int) (l : List PV) (l2 : List PV) (rest : List (List PV)) (toks : List (Nat × Nat × TypeId)) (tys : List TypeId) : swp1_V [.osl 1 data data2 1, .int .i64 a, .int .i64 b, .int .i64 n, .int .i64 i] ⟨(l :: l2 :: rest), (toks), (82 :: 1000023 :: tys)⟩ = lnext swp1_V (swp1_Tr data data2 a b n i l l2 rest toks tys).run := by unfold swp1_V; rw [lval_eq, swp1_T]
noncomputable def swp1_W (data : Nat) (data2 : Nat) (a : Int) (b : Int) (n : Int) (i : Int) (l : List PV) (l2 : List PV) (rest : List (List PV)) (toks : List (Nat × Nat × TypeId)) (tys : List TypeId) : Option (PExit × List PV × Store) := swp1_V [.osl 1 data data2 1, .int .i64 a, .int .i64 b, .int .i64 n, .int .i64 i] ⟨(l :: l2 :: rest), (toks), (82 :: 1000023 :: tys)⟩
noncomputable def swp1_l2 (data : Nat) (data2 : Nat) (a : Int) (b : Int) (n : Int) (i : Int) (l : List PV) (l2 : List PV) (rest : List (List PV)) (toks : List (Nat × Nat × TypeId)) (tys : List TypeId) : List PV := (gObj (swp1_W data data2 a b n i l l2 rest toks tys) 1)
noncomputable def swp1_is0 (data : Nat) (data2 : Nat) (a : Int) (b : Int) (n : Int) (i : Int) (l : List PV) (l2 : List PV) (rest : List (List PV)) (toks : List (Nat × Nat × TypeId)) (tys : List TypeId) : Bool := isW (swp1_W data data2 a b n i l l2 rest toks tys) ((.exit 0), [], ⟨(l :: (swp1_l2 data data2 a b n i l l2 rest toks tys) :: rest), (toks), (82 :: 1000023 :: tys)⟩)
noncomputable def swp1_prop : List PV → Store → Tr (PExit × List PV × Store) | [.osl 1 data data2 1, .int .i64 a, .int .i64 b, .int .i64 n, .int .i64 i], ⟨(l :: l2 :: rest), (toks), (82 :: 1000023 :: tys)⟩ => .ite (swp1_is0 data data2 a b n i l l2 rest toks tys) (.ret ((.exit 0), [], ⟨(l :: (swp1_l2 data data2 a b n i l l2 rest toks tys) :: rest), (toks), (82 :: 1000023 :: tys)⟩)) (.fail) | _, _ => .fail
theorem swp1_ok : ∀ vs σ r, (swp1_prop vs σ).run = some r → swp1_V vs σ = some r := by
  intro vs σ r h
  unfold swp1_prop at h
  split at h
  · exact ite_isW h fun h => by cases h
  · cases h
theorem loop_swp1 (gl : Nat → Option Obj) : ∀ fr σ e fr' σ', (orc I_swp1 swp1_prop fr σ).run = some (e, fr', σ') → LDoes Tryd.prog gl c_swp1 fr σ e fr' σ' := orc_ok tbT_ok (gok_swp gl ) noMixed (L := LI_swp1) (loopOk_none (by kernel_rfl)) (by kernel_rfl) swp1_ok
noncomputable def L_swp : LpsT := fun r fr σ => bif Nat.beq r 1 then orc I_swp1 swp1_prop fr σ else .fail
noncomputable def swp_Tr (off : Nat) (len : Nat) (a : Int) (b : Int) (n : Int) (c0 : List PV) (cs : List PV) (rest : List (List PV)) (toks : List (Nat × Nat × TypeId)) (tys : List TypeId) : Tr (PV × Store) := Tr.ite (swp1_is0 off len a b n 0 c0 cs rest toks tys) (Tr.ret (PV.tup [], Store.mk (c0 :: swp1_l2 off len a b n 0 c0 cs rest toks tys :: rest) toks (82 :: 1000023 :: tys))) Tr.fail
theorem swp_T (off : Nat) (len : Nat) (a : Int) (b : Int) (n : Int) (c0 : List PV) (cs : List PV) (rest : List (List PV)) (toks : List (Nat × Nat × TypeId)) (tys : List TypeId) : (tcallS tbT G_swp L_swp Tryd.f144 [.osl 1 off len 1, .int .i64 a, .int .i64 b, .int .i64 n, .fn 16 []] ⟨c0 :: cs :: rest, toks, 82 :: 1000023 :: tys⟩).flat = swp_Tr off len a b n c0 cs rest toks tys := by kernel_rfl
noncomputable def swp_W (off : Nat) (len : Nat) (a : Int) (b : Int) (n : Int) (c0 : List PV) (cs : List PV) (rest : List (List PV)) (toks : List (Nat × Nat × TypeId)) (tys : List TypeId) : Option (PV × Store) := (swp_Tr off len a b n c0 cs rest toks tys).run
noncomputable def swp_l2 (off : Nat) (len : Nat) (a : Int) (b : Int) (n : Int) (c0 : List PV) (cs : List PV) (rest : List (List PV)) (toks : List (Nat × Nat × TypeId)) (tys : List TypeId) : List PV := (gObj (asOut (swp_W off len a b n c0 cs rest toks tys)) 1)
noncomputable def swp_is0 (off : Nat) (len : Nat) (a : Int) (b : Int) (n : Int) (c0 : List PV) (cs : List PV) (rest : List (List PV)) (toks : List (Nat × Nat × TypeId)) (tys : List TypeId) : Bool := isW (swp_W off len a b n c0 cs rest toks tys) (.tup [], ⟨(c0 :: (swp_l2 off len a b n c0 cs rest toks tys) :: rest), (toks), (82 :: 1000023 :: tys)⟩)
noncomputable def D_swp : List PV → Store → Tr (PV × Store) | [.osl 1 off len 1, .int .i64 a, .int .i64 b, .int .i64 n, .fn 16 []], ⟨c0 :: cs :: rest, toks, 82 :: 1000023 :: tys⟩ => .ite (swp_is0 off len a b n c0 cs rest toks tys) (.ret (.tup [], ⟨(c0 :: (swp_l2 off len a b n c0 cs rest toks tys) :: rest), (toks), (82 :: 1000023 :: tys)⟩)) (.fail) | _, _ => .fail
theorem sim_swp (gl : Nat → Option Obj) : SimS Tryd.prog gl 144 fun args σ => (D_swp args σ).run := by
  refine SimS.of_flat (G := G_swp) (L := L_swp) tbT_ok (gok_swp gl ) noMixed Tryd.func144 rfl (by rfl) (by kernel_rfl) (loopOk_all (L := lps L_swp) [(1, c_swp1)] (by kernel_rfl) (List.forall_mem_cons.2 ⟨fun fr σ e fr' σ' h => loop_swp1 gl  fr σ e fr' σ' h, (List.forall_mem_nil _)⟩)) ?_
  intro args σ x h
  unfold D_swp at h
  split at h
  · exact (congrArg Tr.run (swp_T _ _ _ _ _ _ _ _ _ _)).trans (ite_isW h fun h => by cases h)
  · cases h
noncomputable def G_rot : GamT := ofL [(16, .pure F_TCmp), (144, .store D_swp)]
theorem gok_rot (gl : Nat → Option Obj) : GamOk Tryd.prog gl (gam G_rot) := (gamOk_cons (sim_TCmp gl) (gamOk_store (sim_swp gl) gamOk_nil))
noncomputable def c_rot1 : Code := loopC Tryd.f133 2
def I_rot1 : LI := ⟨58, [0, 2, 4, 10, 11], fun e => match e with | .exit 0 => [0, 2, 4, 10] | _ => [], false⟩
noncomputable def LI_rot1 : LpsT := fun r fr σ => .fail
noncomputable def rot1_V (vs : List PV) (σ : Store) : Option (PExit × List PV × Store) := lval (lstep tbT G_rot LI_rot1 c_rot1 I_rot1) vs σ
noncomputable def rot1_Tr (data : Nat) (data2 : Nat) (m : Int) (i : Int) (j : Int) (l : List PV) (l2 : List PV) (rest : List (List PV)) (toks : List (Nat × Nat × TypeId)) (tys : List TypeId) : Tr LR := Tr.ite (iNe i j) (Tr.ite (iLt j i) (Tr.ite (swp_is0 data data2 (iSub .i64 m i) m j l l2 rest toks tys) (Tr.ret (LR.next [PV.osl 1 data data2 1, PV.int .i64 m, PV.fn 16 [], PV.int .i64 (iSub .i64 i j), PV.int .i64 j] (Store.mk (l :: swp_l2 data data2 (iSub .i64 m i) m j l l2 rest toks tys :: rest) toks (82 :: 1000023 :: tys)))) Tr.fail) (Tr.ite (swp_is0 data data2 (iSub .i64 m i) (iSub .i64 (iAdd .i64 m j) i) i l l2 rest toks tys) (Tr.ret (LR.next [PV.osl 1 data data2 1, PV.int .i64 m, PV.fn 16 [], PV.int .i64 i, PV.int .i64 (iSub .i64 j i)] (Store.mk (l :: swp_l2 data data2 (iSub .i64 m i) (iSub .i64 (iAdd .i64 m j) i) i l l2 rest toks tys :: rest) toks (82 :: 1000023 :: tys)))) Tr.fail)) (Tr.ret (LR.out (.exit 0) [PV.osl 1 data data2 1, PV.int .i64 m, PV.fn 16 [], PV.int .i64 i] (Store.mk (l :: l2 :: rest) toks (82 :: 1000023 :: tys))))
theorem rot1_T (data : Nat) (data2 : Nat) (m : Int) (i : Int) (j : Int) (l : List PV) (l2 : List PV) (rest : List (List PV)) (toks : List (Nat × Nat × TypeId)) (tys : List TypeId) : lstep tbT G_rot LI_rot1 c_rot1 I_rot1 [.osl 1 data data2 1, .int .i64 m, .fn 16 [], .int .i64 i, .int .i64 j] ⟨(l :: l2 :: rest), (toks), (82 :: 1000023 :: tys)⟩ = rot1_Tr data data2 m i j l l2 rest toks tys := by kernel_rfl
theorem rot1_E (data : Nat) (data2 : Nat) (m : Int) (i : Int) (j : Int) (l : List PV) (l2 : List PV) (rest : List (List PV)) (toks : List (Nat × Nat × TypeId)) (tys : List TypeId) : rot1_V [.osl 1 data data2 1, .int .i64 m, .fn 16 [], .int .i64 i, .int .i64 j] ⟨(l :: l2 :: rest), (toks), (82 :: 1000023 :: tys)⟩ = lnext rot1_V (rot1_Tr data data2 m i j l l2 rest toks tys).run := by unfold rot1_V; rw [lval_eq, rot1_T]
noncomputable def rot1_W (data : Nat) (data2 : Nat) (m : Int) (i : Int) (j : Int) (l : List PV) (l2 : List PV) (rest : List (List PV)) (toks : List (Nat × Nat × TypeId)) (tys : List TypeId) : Option (PExit × List PV × Store) := rot1_V [.osl 1 data data2 1, .int .i64 m, .fn 16 [], .int .i64 i, .int .i64 j] ⟨(l :: l2 :: rest), (toks), (82 :: 1000023 :: tys)⟩
noncomputable def rot1_i (data : Nat) (data2 : Nat) (m : Int) (i : Int) (j : Int) (l : List PV) (l2 : List PV) (rest : List (List PV)) (toks : List (Nat × Nat × TypeId)) (tys : List TypeId) : Int := (gInt (gOut (rot1_W data data2 m i j l l2 rest toks tys) 3))
noncomputable def rot1_l2 (data : Nat) (data2 : Nat) (m : Int) (i : Int) (j : Int) (l : List PV) (l2 : List PV) (rest : List (List PV)) (toks : List (Nat × Nat × TypeId)) (tys : List TypeId) : List PV := (gObj (rot1_W data data2 m i j l l2 rest toks tys) 1)
noncomputable def rot1_is0 (data : Nat) (data2 : Nat) (m : Int) (i : Int) (j : Int) (l : List PV) (l2 : List PV) (rest : List (List PV)) (toks : List (Nat × Nat × TypeId)) (tys : List TypeId) : Bool := isW (rot1_W data data2 m i j l l2 rest toks tys) ((.exit 0), [.osl 1 data data2 1, .int .i64 m, .fn 16 [], .int .i64 (rot1_i data data2 m i j l l2 rest toks tys)], ⟨(l :: (rot1_l2 data data2 m i j l l2 rest toks tys) :: rest), (toks), (82 :: 1000023 :: tys)⟩)
noncomputable def rot1_prop : List PV → Store → Tr (PExit × List PV × Store) | [.osl 1 data data2 1, .int .i64 m, .fn 16 [], .int .i64 i, .int .i64 j], ⟨(l :: l2 :: rest), (toks), (82 :: 1000023 :: tys)⟩ => .ite (rot1_is0 data data2 m i j l l2 rest toks tys) (.ret ((.exit 0), [.osl 1 data data2 1, .int .i64 m, .fn 16 [], .int .i64 (rot1_i data data2 m i j l l2 rest toks tys)], ⟨(l :: (rot1_l2 data data2 m i j l l2 rest toks tys) :: rest), (toks), (82 :: 1000023 :: tys)⟩)) (.fail) | _, _ => .fail
theorem rot1_ok : ∀ vs σ r, (rot1_prop vs σ).run = some r → rot1_V vs σ = some r := by
  intro vs σ r h
  unfold rot1_prop at h
  split at h
  · exact ite_isW h fun h => by cases h
  · cases h
theorem loop_rot1 (gl : Nat → Option Obj) : ∀ fr σ e fr' σ', (orc I_rot1 rot1_prop fr σ).run = some (e, fr', σ') → LDoes Tryd.prog gl c_rot1 fr σ e fr' σ' := orc_ok tbT_ok (gok_rot gl ) noMixed (L := LI_rot1) (loopOk_none (by kernel_rfl)) (by kernel_rfl) rot1_ok
noncomputable def L_rot : LpsT := fun r fr σ => bif Nat.beq r 2 then orc I_rot1 rot1_prop fr σ else .fail
noncomputable def rot_Tr (off : Nat) (len : Nat) (a : Int) (m : Int) (b : Int) (c0 : List PV) (cs : List PV) (rest : List (List PV)) (toks : List (Nat × Nat × TypeId)) (tys : List TypeId) : Tr (PV × Store) := Tr.ite (rot1_is0 off len m (iSub .i64 m a) (iSub .i64 b m) c0 cs rest toks tys) (Tr.ite (swp_is0 off len (iSub .i64 m (rot1_i off len m (iSub .i64 m a) (iSub .i64 b m) c0 cs rest toks tys)) m (rot1_i off len m (iSub .i64 m a) (iSub .i64 b m) c0 cs rest toks tys) c0 (rot1_l2 off len m (iSub .i64 m a) (iSub .i64 b m) c0 cs rest toks tys) rest toks tys) (Tr.ret (PV.tup [], Store.mk (c0 :: swp_l2 off len (iSub .i64 m (rot1_i off len m (iSub .i64 m a) (iSub .i64 b m) c0 cs rest toks tys)) m (rot1_i off len m (iSub .i64 m a) (iSub .i64 b m) c0 cs rest toks tys) c0 (rot1_l2 off len m (iSub .i64 m a) (iSub .i64 b m) c0 cs rest toks tys) rest toks tys :: rest) toks (82 :: 1000023 :: tys))) Tr.fail) Tr.fail
theorem rot_T (off : Nat) (len : Nat) (a : Int) (m : Int) (b : Int) (c0 : List PV) (cs : List PV) (rest : List (List PV)) (toks : List (Nat × Nat × TypeId)) (tys : List TypeId) : (tcallS tbT G_rot L_rot Tryd.f133 [.osl 1 off len 1, .int .i64 a, .int .i64 m, .int .i64 b, .fn 16 []] ⟨c0 :: cs :: rest, toks, 82 :: 1000023 :: tys⟩).flat = rot_Tr off len a m b c0 cs rest toks tys := by kernel_rfl
noncomputable def rot_W (off : Nat) (len : Nat) (a : Int) (m : Int) (b : Int) (c0 : List PV) (cs : List PV) (rest : List (List PV)) (toks : List (Nat × Nat × TypeId)) (tys : List TypeId) : Option (PV × Store) := (rot_Tr off len a m b c0 cs rest toks tys).run
noncomputable def rot_l2 (off : Nat) (len : Nat) (a : Int) (m : Int) (b : Int) (c0 : List PV) (cs : List PV) (rest : List (List PV)) (toks : List (Nat × Nat × TypeId)) (tys : List TypeId) : List PV := (gObj (asOut (rot_W off len a m b c0 cs rest toks tys)) 1)
noncomputable def rot_is0 (off : Nat) (len : Nat) (a : Int) (m : Int) (b : Int) (c0 : List PV) (cs : List PV) (rest : List (List PV)) (toks : List (Nat × Nat × TypeId)) (tys : List TypeId) : Bool := isW (rot_W off len a m b c0 cs rest toks tys) (.tup [], ⟨(c0 :: (rot_l2 off len a m b c0 cs rest toks tys) :: rest), (toks), (82 :: 1000023 :: tys)⟩)
noncomputable def D_rot : List PV → Store → Tr (PV × Store) | [.osl 1 off len 1, .int .i64 a, .int .i64 m, .int .i64 b, .fn 16 []], ⟨c0 :: cs :: rest, toks, 82 :: 1000023 :: tys⟩ => .ite (rot_is0 off len a m b c0 cs rest toks tys) (.ret (.tup [], ⟨(c0 :: (rot_l2 off len a m b c0 cs rest toks tys) :: rest), (toks), (82 :: 1000023 :: tys)⟩)) (.fail) | _, _ => .fail
theorem sim_rot (gl : Nat → Option Obj) : SimS Tryd.prog gl 133 fun args σ => (D_rot args σ).run := by
  refine SimS.of_flat (G := G_rot) (L := L_rot) tbT_ok (gok_rot gl ) noMixed Tryd.func133 rfl (by rfl) (by kernel_rfl) (loopOk_all (L := lps L_rot) [(2, c_rot1)] (by kernel_rfl) (List.forall_mem_cons.2 ⟨fun fr σ e fr' σ' h => loop_rot1 gl  fr σ e fr' σ' h, (List.forall_mem_nil _)⟩)) ?_
  intro args σ x h
  unfold D_rot at h
  split at h
  · exact (congrArg Tr.run (rot_T _ _ _ _ _ _ _ _ _ _)).trans (ite_isW h fun h => by cases h)
  · cases h
end Go.Pv

set_option maxHeartbeats 4000000
set_option maxRecDepth 200000
/-! A contract that may be called in a function's own body: what it gives is a parameter. -/
namespace Go.Pv
open Go Go.Proofs
/-- What the function gives where it calls itself. -/
class RecW where
  W : Nat → Nat → Int → Int → Int → List PV → List PV → List (List PV) → List (Nat × Nat × TypeId) → List TypeId → Option (PV × Store)
section
variable [RecW]
noncomputable def rec_l (off len : Nat) (a m b : Int) (c0 cs : List PV) (rest : List (List PV)) (toks : List (Nat × Nat × TypeId)) (tys : List TypeId) : List PV := gObj (asOut (RecW.W off len a m b c0 cs rest toks tys)) 1
noncomputable def rec_is0 (off len : Nat) (a m b : Int) (c0 cs : List PV) (rest : List (List PV)) (toks : List (Nat × Nat × TypeId)) (tys : List TypeId) : Bool :=
  isW (RecW.W off len a m b c0 cs rest toks tys) (.tup [], ⟨c0 :: (rec_l off len a m b c0 cs rest toks tys) :: rest, toks, 82 :: 1000023 :: tys⟩)
noncomputable def D_rec : List PV → Store → Tr (PV × Store)
  | [.osl 1 off len 1, .int .i64 a, .int .i64 m, .int .i64 b, .fn 16 []], ⟨c0 :: cs :: rest, toks, 82 :: 1000023 :: tys⟩ => .ite (rec_is0 off len a m b c0 cs rest toks tys) (.ret (.tup [], ⟨c0 :: (rec_l off len a m b c0 cs rest toks tys) :: rest, toks, 82 :: 1000023 :: tys⟩)) .fail
  | _, _ => .fail
end
end Go.Pv
