/- Conversions, appends, the rest: over pure values and in the machine. -/
import Derived.Test.YtdfahkeodlfopaaDoorPvOp4
set_option linter.unusedSimpArgs false
set_option linter.unusedVariables false
namespace Go.Pv
open Go.RowKit

section
variable {P : Program} {tb : Tab} {gl : Nat → Option Obj} {H : Gh} {σ : Store} {w : World}

theorem pbytes_some : ∀ {xs : List (List PV)} {l : List UInt8}, pbytes xs = some l → ∃ ns : List Int, xs = ns.map (fun n => [.int .u8 n]) ∧ l = ns.map fun n => UInt8.ofNat n.toNat := by
  intro xs
  induction xs with
  | nil => intro l h; simp [pbytes] at h; exact ⟨[], rfl, by simp [h]⟩
  | cons x xs ih =>
    intro l h
    unfold pbytes at h
    split at h
    · rename_i heq; cases heq
    · rename_i n rest heq
      injection heq with h1 h2
      subst h1 h2
      obtain ⟨m, hm, rfl⟩ := Option.map_eq_some_iff.1 h
      obtain ⟨ns, rfl, rfl⟩ := ih hm
      exact ⟨n :: ns, rfl, rfl⟩
    · cases h

theorem relLL_ints {ns : List Int} {vss : List (List Value)} (h : RelLL H w (ns.map fun n => [.int .u8 n]) vss) : vss = ns.map fun n => [.int .u8 n] := by
  induction ns generalizing vss with
  | nil => cases h; rfl
  | cons n ns ih =>
    cases h with
    | cons _ v _ vs h ht =>
      cases h with
      | cons _ u _ us h1 h2 =>
        cases h1
        cases h2
        rw [ih ht]
        rfl

theorem pconv_run (hT : TabOk P tb) (hok : Ok gl H σ w) {src dst : TypeId} {x r : PV} {v : Value} (h : pconv tb src dst x = some r) (hx : Rel H w x v) :
    ∃ u w', (convert src dst v).run P w = .ok u w' ∧ (Below w.heap.size w w' ∧ w.drawn ≤ w'.drawn) ∧ Rel H w' r u := by
  unfold pconv at h
  cases hS : tb src with
  | none => simp [hS] at h
  | some S =>
    cases hD : tb dst with
    | none => simp [hS, hD] at h
    | some D =>
      have hks := tk_kd hT hS
      have hkd := tk_kd hT hD
      simp only [hS, hD] at h
      split at h
      · rename_i hs hd
        simp only [Option.some.injEq] at h
        subst h
        cases hx with
        | int k n hwf =>
          have h1 := kd_int (hks.trans hs)
          have h2 := kd_int (hkd.trans hd)
          exact ⟨_, w, by simp [convert, run_underlying h1, run_underlying h2, Conv.intToInt], ⟨Below.refl _ _, Nat.le_refl _⟩, .int _ _ (wf_wrap _ _)⟩
      · rename_i k n hs hd
        split at h
        · rename_i hb
          simp only [Option.some.injEq] at h
          subst h
          cases hx with
          | int _ _ hwf =>
            have h1 := kd_int (hks.trans hs)
            have h2 := kd_str (hkd.trans hd)
            refine ⟨.string ⟨[UInt8.ofNat n.toNat].toArray⟩, w, ?_, ⟨Below.refl _ _, Nat.le_refl _⟩, .str _ (by simp [maxLen])⟩
            have hv : Utf8.valid n = true := by simp [Utf8.valid]; omega
            have hlt : n.toNat < 128 := by omega
            simp [convert, run_underlying h1, run_underlying h2, Conv.intToString, Utf8.encode, hv, hlt]
        · cases h
      · rename_i hs hd
        simp only [Option.some.injEq] at h
        subst h
        have h1 := kd_str (hks.trans hs)
        have h2 := kd_str (hkd.trans hd)
        cases hx with
        | str l hl => exact ⟨_, w, by simp [convert, run_underlying h1, run_underlying h2], ⟨Below.refl _ _, Nat.le_refl _⟩, .str _ hl⟩
      · rename_i e xs tag hs hd
        have h1 := kd_sl (hks.trans hs)
        have h2 := kd_str (hkd.trans hd)
        split at h
        · rename_i hE
          have h3 := kd_int (tk_kd hT hE)
          obtain ⟨l, hl, rfl⟩ := Option.map_eq_some_iff.1 h
          obtain ⟨ns, rfl, rfl⟩ := pbytes_some hl
          cases hx with
          | sl p len cap k _ vss _ hlen hcap hm hrel hrow htag =>
            have hvs := relLL_ints hrel
            subst hvs
            refine ⟨.string ⟨(ns.map fun n => UInt8.ofNat n.toNat).toArray⟩, w, ?_, ⟨Below.refl _ _, Nat.le_refl _⟩, .str _ (by simp at hlen ⊢; omega)⟩
            rw [run_convert_bytes_string w src dst e p len cap h1 h3 h2]
            simp at hlen
            cases p with
            | none =>
              cases ns with
              | nil => simp [Conv.bytesToString]; rfl
              | cons n ns =>
                obtain ⟨_, a, ha, _⟩ := hrow 0 [.int .u8 n] rfl
                cases ha
            | some a =>
              have hc : ∀ j u, (ns.map (Value.int .u8))[j]? = some u → w.cell? (a.add j) = some u := by
                intro j u hj
                rw [List.getElem?_map] at hj
                cases hn : ns[j]? with
                | none => simp [hn] at hj
                | some n =>
                  simp [hn] at hj
                  subst hj
                  obtain ⟨hk, a', ha', hcell⟩ := hrow j [.int .u8 n] (by simp [hn])
                  injection ha' with ha'
                  subst ha'
                  have := (hcell 0 _ rfl).2
                  simp at hk
                  subst hk
                  rwa [Nat.mul_one, add_add, Nat.add_zero] at this
              have hl := run_loadCells_list (P := P) w a (ns.map (Value.int .u8)) hc
              rw [List.length_map, hlen] at hl
              rw [run_bytesToString w a len cap ns hl, foldl_push_bytes]
              simp [ByteArray.empty, ByteArray.emptyWithCapacity]
              rfl
        · cases h
      · rename_i e l hs hd
        have h1 := kd_str (hks.trans hs)
        have h2 := kd_sl (hkd.trans hd)
        split at h
        · rename_i hE
          have h3 := kd_int (tk_kd hT hE)
          split at h
          · rename_i hlen
            simp only [Option.some.injEq] at h
            subst h
            cases hx with
            | str _ hl =>
              have hsz : (ByteArray.mk l.toArray).size = l.length := by simp [ByteArray.size]
              refine ⟨_, _, Lib.run_convert_string_bytes w src dst e ⟨l.toArray⟩ h1 h2 h3, ⟨⟨rfl, rfl, rfl, by rw [Lib.bytesWorld_size]; omega, fun k hk => Lib.bytesWorld_at_old w e _ k hk⟩, Nat.le_succ _⟩, ?_⟩
              rw [hsz]
              refine .sl _ _ _ 1 _ (l.map fun b => [.int .u8 b.toNat]) _ (by simp) (grownCap_ge w _ _ _) (grownCap_le_maxLen w _ _ _ hl) ?_ ?_ trivial
              · refine relLL_iff.2 ⟨by simp, fun i x v hx hv => ?_⟩
                rw [List.getElem?_map] at hx hv
                cases hb : l[i]? with
                | none => simp [hb] at hx
                | some b =>
                  simp [hb] at hx hv
                  subst hx hv
                  exact .cons _ _ _ _ (.int _ _ (by have := b.toNat_lt; simp [Lit.wf, IntKind.min, IntKind.max, IntKind.signed, IntKind.bits]; omega)) .nil
              · intro i vs hi
                rw [List.getElem?_map] at hi
                cases hb : l[i]? with
                | none => simp [hb] at hi
                | some b =>
                  simp [hb] at hi
                  subst hi
                  have hil : i < l.length := (List.getElem?_eq_some_iff.1 hb).1
                  refine ⟨rfl, _, rfl, fun j u hj => ?_⟩
                  have hj0 : j = 0 ∧ u = .int .u8 b.toNat := by
                    cases j with
                    | zero => simp at hj; exact ⟨rfl, hj.symm⟩
                    | succ j => simp at hj
                  obtain ⟨rfl, rfl⟩ := hj0
                  rw [add_plain, add_plain, Nat.zero_add, Nat.mul_one, Nat.add_zero]
                  show H.prot _ w.heap.size i ∧ _
                  refine ⟨⟨by rw [Lib.bytesWorld_size]; omega, fun hB => absurd hok.B (by omega), fun hm => absurd (hok.ob_at hm).2 (Nat.lt_irrefl _), fun T hT hb => ?_⟩, ?_⟩
                  · have := (hok.tk_at hT).2
                    omega
                  · rw [Lib.bytesWorld_cell w e _ i (by rw [hsz]; exact hil)]
                    simp [List.getD, hb]
          · cases h
        · cases h
      · cases h

/-! ### '==' and the other operations on two values -/
section
variable {t : TypeId} (d : Nat) (w1 : World)
theorem eq_nili {ms : Array (String × TypeId)} (hu : P.underlying t = some (.interface ms)) : (Op.equalIn (d + 1) t .nilIface .nilIface).run P w1 = .ok true w1 := by simp [Op.equalIn, run_underlying hu]
theorem eq_nili1 {ms : Array (String × TypeId)} (hu : P.underlying t = some (.interface ms)) (s : TypeId) (v : Value) : (Op.equalIn (d + 1) t .nilIface (.iface s v)).run P w1 = .ok false w1 := by simp [Op.equalIn, run_underlying hu]
theorem eq_nili2 {ms : Array (String × TypeId)} (hu : P.underlying t = some (.interface ms)) (s : TypeId) (v : Value) : (Op.equalIn (d + 1) t (.iface s v) .nilIface).run P w1 = .ok false w1 := by simp [Op.equalIn, run_underlying hu]
theorem eq_sl1 {e : TypeId} (hu : P.underlying t = some (.slice e)) (a : Addr) (n c : Nat) : (Op.equalIn (d + 1) t (.slice (some a) n c) (.slice none 0 0)).run P w1 = .ok false w1 := by simp [Op.equalIn, run_underlying hu]
theorem eq_sl2 {e : TypeId} (hu : P.underlying t = some (.slice e)) (n c : Nat) : (Op.equalIn (d + 1) t (.slice none n c) (.slice none 0 0)).run P w1 = .ok true w1 := by simp [Op.equalIn, run_underlying hu]
theorem eq_nilf {a b : Array TypeId} {c : Bool} (hu : P.underlying t = some (.func a b c)) : (Op.equalIn (d + 1) t .nilFunc .nilFunc).run P w1 = .ok true w1 := by simp [Op.equalIn, run_underlying hu]
theorem eq_nilf1 {a b : Array TypeId} {c : Bool} (hu : P.underlying t = some (.func a b c)) (f : Fn) (x y : Array Value) : (Op.equalIn (d + 1) t .nilFunc (.func f x y)).run P w1 = .ok false w1 := by simp [Op.equalIn, run_underlying hu]
theorem eq_nilf2 {a b : Array TypeId} {c : Bool} (hu : P.underlying t = some (.func a b c)) (f : Fn) (x y : Array Value) : (Op.equalIn (d + 1) t (.func f x y) .nilFunc).run P w1 = .ok false w1 := by simp [Op.equalIn, run_underlying hu]
end

theorem pequal_run (hT : TabOk P tb) {t : TypeId} {xo yo : Operand} {x y : PV} {v u : Value} {b : Bool} (hyo : ∀ c, yo = .const c → u = c) (h : pequal tb t xo yo x y = some b) (hx : Rel H w x v) (hy : Rel H w y u) (op : BinOp) (w1 : World) :
    (eqGuard op t xo yo v u).run P w1 = .ok () w1 ∧ (Op.equal t v u).run P w1 = .ok b w1 ∧ binOp .eql t v u = (do pure (.bool (← Op.equal t v u))) ∧ binOp .neq t v u = (do pure (.bool (!(← Op.equal t v u)))) := by
  unfold pequal at h
  cases hK : tb t with
  | none => simp [hK] at h
  | some K =>
    have hkd := tk_kd hT hK
    simp only [hK] at h
    split at h
    · rename_i hk
      obtain ⟨ms, hu⟩ := kd_iface (hkd.trans hk)
      split at h
      · rename_i hc
        simp only [Option.some.injEq] at h
        subst h
        cases hx; cases hy
        refine ⟨?_, eq_nili 9999 w1 hu, rfl, rfl⟩
        cases xo <;> cases yo <;> first | exact Bool.noConfusion (show false = true from hc) | (cases op <;> rfl)
      · cases h
    · rename_i hk
      obtain ⟨ms, hu⟩ := kd_iface (hkd.trans hk)
      simp only [Option.some.injEq] at h
      subst h
      cases hx; cases hy
      exact ⟨by unfold eqGuard; split <;> rfl, eq_nili1 9999 w1 hu _ _, rfl, rfl⟩
    · rename_i hk
      obtain ⟨ms, hu⟩ := kd_iface (hkd.trans hk)
      simp only [Option.some.injEq] at h
      subst h
      cases hx; cases hy
      exact ⟨by unfold eqGuard; split <;> rfl, eq_nili2 9999 w1 hu _ _, rfl, rfl⟩
    · rename_i hk
      obtain ⟨a, c, d, hu⟩ := kd_fn (hkd.trans hk)
      simp only [Option.some.injEq] at h
      subst h
      cases hx; cases hy
      exact ⟨by unfold eqGuard; split <;> rfl, eq_nilf 9999 w1 hu, rfl, rfl⟩
    · rename_i hk
      obtain ⟨a, c, d, hu⟩ := kd_fn (hkd.trans hk)
      simp only [Option.some.injEq] at h
      subst h
      cases hx; cases hy
      exact ⟨by unfold eqGuard; split <;> rfl, eq_nilf1 9999 w1 hu _ _ _, rfl, rfl⟩
    · rename_i hk
      obtain ⟨a, c, d, hu⟩ := kd_fn (hkd.trans hk)
      simp only [Option.some.injEq] at h
      subst h
      cases hx; cases hy
      exact ⟨by unfold eqGuard; split <;> rfl, eq_nilf2 9999 w1 hu _ _ _, rfl, rfl⟩
    · rename_i hk
      simp only [Option.some.injEq] at h
      subst h
      cases hx; cases hy
      exact ⟨by unfold eqGuard; split <;> rfl, run_equalIn_bool' w1 9999 t _ _ (kd_bool (hkd.trans hk)), rfl, rfl⟩
    · rename_i fs held guard xs ys hk
      split at h
      · cases h
      · rename_i hg
        obtain ⟨fields, hu, _, _, hguard⟩ := kd_agg (hkd.trans hk)
        have hq := peq_run hT 50 t _ _ b h v u hx hy 10000 (by omega) w1
        cases hx with
        | agg _ vs _ =>
          cases hy with
          | agg _ us _ => exact ⟨run_eqGuard_agg w1 op t xo yo _ _ (by rw [← hguard]; simpa using hg), hq, rfl, rfl⟩
    · rename_i e xs tg ys tg' hk
      have hu := kd_sl (hkd.trans hk)
      split at h
      · rename_i hn
        have hyv : u = .slice none 0 0 := by
          unfold isNilK at hn
          split at hn
          · exact hyo _ rfl
          · cases hn
        subst hyv
        cases hx with
        | sl p len cap k _ vss _ hl hcap hm hrel hrow htag =>
          have hg : ∀ (q : Option Addr), (eqGuard op t xo yo (.slice q len cap) (.slice none 0 0)).run P w1 = .ok () w1 := fun q => by unfold eqGuard; split <;> rfl
          have e1 : ∀ a, (Op.equal t (.slice (some a) len cap) (.slice none 0 0)).run P w1 = .ok false w1 := fun a => eq_sl1 9999 w1 hu a len cap
          have e2 : (Op.equal t (.slice none len cap) (.slice none 0 0)).run P w1 = .ok true w1 := eq_sl2 9999 w1 hu len cap
          refine ⟨hg p, ?_, rfl, rfl⟩
          split at h
          · split at h
            · cases h
              have : p = none := htag
              subst this
              exact e2
            · cases h
              cases p with
              | none => exact absurd rfl htag
              | some a => exact e1 a
            · cases h
          · rename_i z zs
            cases h
            cases hrel with
            | cons _ v0 _ vs0 hv0 hvs0 =>
              obtain ⟨_, a, rfl, _⟩ := hrow 0 v0 rfl
              exact e1 a
      · cases h
    · cases h

theorem eqGuard_int (op : BinOp) (t : TypeId) (xo yo : Operand) (k k' : IntKind) (m n : Int) (w1 : World) : (eqGuard op t xo yo (.int k m) (.int k' n)).run P w1 = .ok () w1 := by
  unfold eqGuard
  split <;> rfl
theorem eqGuard_str (op : BinOp) (t : TypeId) (xo yo : Operand) (a b : ByteArray) (w1 : World) : (eqGuard op t xo yo (.string a) (.string b)).run P w1 = .ok () w1 := by
  unfold eqGuard
  split <;> rfl

theorem pbin_run (hT : TabOk P tb) {op : BinOp} {t : TypeId} {xo yo : Operand} {x y r : PV} {v u : Value} (hyo : ∀ c, yo = .const c → u = c) (h : pbin tb op t xo yo x y = some r) (hx : Rel H w x v) (hy : Rel H w y u) :
    ∃ z, ((do eqGuard op t xo yo v u; binOp op t v u : Sem Value)).run P w = .ok z w ∧ Rel H w r z := by
  unfold pbin at h
  split at h
  · rename_i k a k' b
    split at h
    · cases h
    · rename_i hb
      simp only [Option.some.injEq] at h
      subst h
      cases hx; cases hy
      refine ⟨_, ?_, .int _ _ (wf_wrap _ _)⟩
      simp [eqGuard_int, binOp, Op.shift, hb]
  · rename_i k a k' b
    split at h
    · cases h
    · rename_i hb
      simp only [Option.some.injEq] at h
      subst h
      cases hx with
      | int _ _ hwf =>
        cases hy
        refine ⟨_, ?_, .int _ _ (wf_fdiv _ hwf)⟩
        simp [eqGuard_int, binOp, Op.shift, hb]
  · rename_i op' k a k' b h1 h2
    split at h
    · rename_i hk
      subst hk
      cases hx with
      | int _ _ hwf =>
        cases hy
        obtain ⟨z, hz, hr⟩ := pint_run (P := P) (H := H) (w := w) h hwf t (fun e => h1 e) (fun e => h2 e)
        exact ⟨z, by simp only [Sem.run_bind, eqGuard_int, Result.andThen_ok, hz], hr⟩
    · cases h
  · cases hx; cases hy
    obtain ⟨z, hz, hr⟩ := pstr_run (P := P) (H := H) (w := w) h t
    exact ⟨z, by simp only [Sem.run_bind, eqGuard_str, Result.andThen_ok, hz], hr⟩
  · rename_i x y hn1 hn2
    obtain ⟨b, hb, rfl⟩ := Option.map_eq_some_iff.1 h
    obtain ⟨h1, h2, h3, _⟩ := pequal_run hT hyo hb hx hy .eql w
    refine ⟨.bool b, ?_, .bool _⟩
    simp only [Sem.run_bind, h1, Result.andThen_ok, h3, h2, Sem.run_pure]
  · rename_i x y hn1 hn2
    obtain ⟨b, hb, rfl⟩ := Option.map_eq_some_iff.1 h
    obtain ⟨h1, h2, _, h3⟩ := pequal_run hT hyo hb hx hy .neq w
    refine ⟨.bool (!b), ?_, .bool _⟩
    simp only [Sem.run_bind, h1, Result.andThen_ok, h3, h2, Sem.run_pure]
  · cases h

theorem pun_run {op : UnOp} {x r : PV} {v : Value} (h : pun op x = some r) (hx : Rel H w x v) (w1 : World) : ∃ z, (Op.unary op v).run P w1 = .ok z w1 ∧ Rel H w r z := by
  unfold pun at h
  split at h
  · simp only [Option.some.injEq] at h
    subst h
    cases hx
    exact ⟨_, by simp [Op.unary, Op.intArith], .int _ _ (wf_wrap _ _)⟩
  · simp only [Option.some.injEq] at h
    subst h
    cases hx
    exact ⟨_, by simp [Op.unary], .bool _⟩
  · cases h
end
end Go.Pv
