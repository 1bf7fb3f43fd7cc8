/- Slices, places, builds, conversions: over pure values and in the machine. -/
import Derived.Test.YtdfahkeodlfopaaDoorPvOp2
set_option linter.unusedSimpArgs false
set_option linter.unusedVariables false
namespace Go.Pv
open Go.RowKit

section
variable {P : Program} {tb : Tab} {H : Gh} {w : World}

theorem tk_kd (hT : TabOk P tb) {t : TypeId} {K : TK} (hK : tb t = some K) : kdOf P t = K.kd := by
  obtain ⟨i, z, hi, hz, hs, hb, hzz, hkd⟩ := tk_info (hT _ _ hK)
  exact hkd.symm

/-- An operand that may be absent. -/
def RelO (H : Gh) (w : World) : Option PV → Option Value → Prop
  | none, none => True
  | some x, some v => Rel H w x v
  | _, _ => False

/-! ### bounds -/
theorem pbound_some {x : PV} {v : Value} {d n y : Nat} (hb : pbound (some x) d = some n) (hr : Rel H w x v) (hn : n ≤ y) (code : BoundsCode) (w1 : World) :
    (Instr.sliceBound v y code).run P w1 = .ok n w1 := by
  unfold pbound at hb
  split at hb
  · rename_i heq; cases heq
  · rename_i k m heq
    split at hb
    · rename_i h0
      simp only [Option.some.injEq] at hb heq
      subst hb
      subst heq
      cases hr with
      | int k n h => exact run_sliceBound w1 _ _ y code h0 (by omega)
    · cases hb
  · cases hb

theorem bytes_extract (l : List UInt8) (a b : Nat) : (ByteArray.mk l.toArray).extract a b = ByteArray.mk ((l.take b).drop a).toArray := by
  apply ByteArray.ext
  apply Array.ext'
  simp
  rw [List.drop_take]

theorem bounds_run {lo hi : Option PV} {vlo vhi : Option Value} (hlo : RelO H w lo vlo) (hhi : RelO H w hi vhi) {len cap a b : Nat} (ha : pbound lo 0 = some a) (hb : pbound hi len = some b) (hab : a ≤ b) (hbl : b ≤ len) (hcap : len ≤ cap) (w1 : World) :
    (Instr.sliceBounds true len cap vlo vhi none).run P w1 = .ok (a, b, cap) w1 := by
  simp only [Instr.sliceBounds]
  cases hi with
  | none =>
    cases vhi with
    | some _ => exact hhi.elim
    | none =>
      simp only [pbound, Option.some.injEq] at hb
      subst hb
      cases lo with
      | none =>
        cases vlo with
        | some _ => exact hlo.elim
        | none =>
          simp only [pbound, Option.some.injEq] at ha
          subst ha
          simp
      | some lo =>
        cases vlo with
        | none => exact hlo.elim
        | some vlo => simp [pbound_some (P := P) ha hlo (y := len) (by omega) .sliceB w1]
  | some hi =>
    cases vhi with
    | none => exact hhi.elim
    | some vhi =>
      have h1 := pbound_some (P := P) hb hhi (y := cap) (by omega) .sliceAcap w1
      cases lo with
      | none =>
        cases vlo with
        | some _ => exact hlo.elim
        | none =>
          simp only [pbound, Option.some.injEq] at ha
          subst ha
          simp [h1]
      | some lo =>
        cases vlo with
        | none => exact hlo.elim
        | some vlo => simp [h1, pbound_some (P := P) ha hlo hab .sliceB w1]

theorem pslice_run (hT : TabOk P tb) {t : TypeId} {x r : PV} {v : Value} {lo hi mx : Option PV} {vlo vhi vmx : Option Value} (h : pslice tb t x lo hi mx = some r) (hx : Rel H w x v)
    (hlo : RelO H w lo vlo) (hhi : RelO H w hi vhi) (hmx : RelO H w mx vmx) (w1 : World) :
    ∃ u, (Instr.sliceAt t v vlo vhi vmx).run P w1 = .ok u w1 ∧ Rel H w r u := by
  unfold pslice at h
  cases hK : tb t with
  | none => simp [hK] at h
  | some K =>
    have hkd := tk_kd hT hK
    simp only [hK] at h
    split at h
    · -- a string
      rename_i l hk
      have hu := kd_str (hkd.trans hk)
      cases hx with
      | str _ hl =>
        split at h
        · rename_i a b ha hb
          split at h
          · rename_i hab
            simp only [Option.some.injEq] at h
            subst h
            cases vmx with
            | some _ => exact hmx.elim
            | none =>
              refine ⟨.string ⟨((l.take b).drop a).toArray⟩, ?_, .str _ (by simp; omega)⟩
              have hsz : (ByteArray.mk l.toArray).size = l.length := by simp [ByteArray.size]
              rw [run_sliceAt_string w1 t _ _ _ _ hu]
              have hbounds : (Instr.sliceBounds false l.length l.length vlo vhi none).run P w1 = .ok (a, b, l.length) w1 := by
                simp only [Instr.sliceBounds]
                cases hi with
                | none =>
                  cases vhi with
                  | some _ => exact hhi.elim
                  | none =>
                    simp only [pbound, Option.some.injEq] at hb
                    subst hb
                    cases lo with
                    | none =>
                      cases vlo with
                      | some _ => exact hlo.elim
                      | none =>
                        simp only [pbound, Option.some.injEq] at ha
                        subst ha
                        simp
                    | some lo =>
                      cases vlo with
                      | none => exact hlo.elim
                      | some vlo => simp [pbound_some (P := P) ha hlo hab.1 .sliceB w1]
                | some hi =>
                  cases vhi with
                  | none => exact hhi.elim
                  | some vhi =>
                    have h1 := pbound_some (P := P) hb hhi hab.2 .sliceAlen w1
                    cases lo with
                    | none =>
                      cases vlo with
                      | some _ => exact hlo.elim
                      | none =>
                        simp only [pbound, Option.some.injEq] at ha
                        subst ha
                        simp [h1]
                    | some lo =>
                      cases vlo with
                      | none => exact hlo.elim
                      | some vlo => simp [h1, pbound_some (P := P) ha hlo hab.1 .sliceB w1]
              simp [Instr.slice, run_underlying hu, hsz, hbounds, bytes_extract]
          · cases h
        · cases h
    · -- a slice
      rename_i e xs tag hk
      have hu := kd_sl (hkd.trans hk)
      cases hE : tb e with
      | none => simp [hE] at h
      | some E =>
        simp only [hE] at h
        have hsize := run_sizeOf_tk (hT _ _ hE)
        cases hx with
        | sl p len cap k _ vss _ hl hcap hm hrel hrow htag =>
          split at h
          · rename_i hall
            -- the rows' own size is the type's, where there is an element
            have hk_eq : ∀ (i : Nat) (vs : List Value), vss[i]? = some vs → k = E.size := by
              intro i vs hi
              have hlt : i < xs.length := by rw [hrel.len]; exact (List.getElem?_eq_some_iff.1 hi).1
              have h1 := (relLL_iff.1 hrel).2 i _ vs (List.getElem?_eq_getElem hlt) hi
              have h2 : (xs[i].length == E.size) = true := List.all_eq_true.1 hall _ (List.getElem_mem hlt)
              have h3 := (hrow i vs hi).1
              have h4 := h1.len
              simp at h2
              omega
            have part : ∀ (a b : Nat), a ≤ b → b ≤ xs.length → ∀ (m : Nat), b ≤ m → m ≤ cap → ∀ (tg : Tag), (tg = .non ∨ (tg = .full ∧ m = b)) →
                Rel H w (.sl ((xs.take b).drop a) tg) (.slice (if m = a then p else p.map (·.add (a * E.size))) (b - a) (m - a)) := by
              intro a b hab hb m hbm hmc tg htg
              refine .sl _ _ _ k _ ((vss.take b).drop a) _ (by simp; omega) (by omega) (by unfold maxLen at *; omega) ((hrel.take b).drop a) (fun i vs hi => ?_) ?_
              · rw [List.getElem?_drop, List.getElem?_take] at hi
                split at hi
                · rename_i hib
                  obtain ⟨hlen, ad, hp, hc⟩ := hrow _ vs hi
                  have hke := hk_eq _ vs hi
                  have : m ≠ a := by omega
                  refine ⟨hlen, ad.add (a * E.size), by rw [if_neg this, hp]; rfl, ?_⟩
                  rw [add_add]
                  have e1 : a * E.size + i * k = (a + i) * k := by rw [hke, Nat.add_mul]
                  rw [e1]
                  exact hc
                · cases hi
              · rcases htg with rfl | ⟨rfl, rfl⟩
                · trivial
                · rfl
            split at h
            · -- no third bound
              cases vmx with
              | some _ => exact hmx.elim
              | none =>
                split at h
                · rename_i a b ha hb
                  split at h
                  · rename_i hab
                    have hbounds : (Instr.sliceBounds true len cap vlo vhi none).run P w1 = .ok (a, b, cap) w1 := by
                      simp only [Instr.sliceBounds]
                      cases hi with
                      | none =>
                        cases vhi with
                        | some _ => exact hhi.elim
                        | none =>
                          simp only [pbound, Option.some.injEq] at hb
                          subst hb
                          cases lo with
                          | none =>
                            cases vlo with
                            | some _ => exact hlo.elim
                            | none =>
                              simp only [pbound, Option.some.injEq] at ha
                              subst ha
                              simp [hl]
                          | some lo =>
                            cases vlo with
                            | none => exact hlo.elim
                            | some vlo => simp [pbound_some (P := P) ha hlo (y := len) (by omega) .sliceB w1, hl]
                      | some hi =>
                        cases vhi with
                        | none => exact hhi.elim
                        | some vhi =>
                          have h1 := pbound_some (P := P) hb hhi (y := cap) (by omega) .sliceAcap w1
                          cases lo with
                          | none =>
                            cases vlo with
                            | some _ => exact hlo.elim
                            | none =>
                              simp only [pbound, Option.some.injEq] at ha
                              subst ha
                              simp [h1]
                          | some lo =>
                            cases vlo with
                            | none => exact hlo.elim
                            | some vlo => simp [h1, pbound_some (P := P) ha hlo hab.1 .sliceB w1]
                    have hrun : (Instr.sliceAt t (.slice p len cap) vlo vhi none).run P w1 = .ok (.slice (if cap = a then p else p.map (·.add (a * E.size))) (b - a) (cap - a)) w1 := by
                      simp [Instr.sliceAt, Instr.slice, run_underlying hu, hbounds, hsize w1]
                    refine ⟨_, hrun, ?_⟩
                    have whole : Rel H w (.sl xs tag) (.slice (if cap = 0 then p else p.map (·.add (0 * E.size))) (len - 0) (cap - 0)) := by
                      have e0 : (if cap = 0 then p else p.map (·.add (0 * E.size))) = p := by
                        split
                        · rfl
                        · cases p <;> simp [Addr.add]
                      rw [e0, Nat.sub_zero, Nat.sub_zero]
                      exact .sl p len cap k xs vss tag hl hcap hm hrel hrow htag
                    simp only [Option.some.injEq] at h
                    subst h
                    have hpart := part a b hab.1 hab.2 cap (by omega) (Nat.le_refl _) .non (.inl rfl)
                    cases lo with
                    | some lo => exact hpart
                    | none =>
                      cases hi with
                      | some hi => exact hpart
                      | none =>
                        simp only [pbound, Option.some.injEq] at ha hb
                        subst ha hb
                        simp only [List.take_length, List.drop_zero]
                        rw [hl]
                        exact whole
                  · cases h
                · cases h
            · -- a third bound
              rename_i m hi
              split at h
              · rename_i a b c ha hb hc
                split at h
                · rename_i hab
                  obtain ⟨hab, rfl, hbl⟩ := hab
                  simp only [Option.some.injEq] at h
                  subst h
                  cases vmx with
                  | none => exact hmx.elim
                  | some vm =>
                    cases vhi with
                    | none => exact hhi.elim
                    | some vhi =>
                      have h1 := pbound_some (P := P) hc hmx (y := cap) (by omega) .slice3Acap w1
                      have h2 := pbound_some (P := P) hb hhi (y := b) (Nat.le_refl _) .slice3B w1
                      have hbounds : (Instr.sliceBounds true len cap vlo (some vhi) (some vm)).run P w1 = .ok (a, b, b) w1 := by
                        simp only [Instr.sliceBounds]
                        cases lo with
                        | none =>
                          cases vlo with
                          | some _ => exact hlo.elim
                          | none =>
                            simp only [pbound, Option.some.injEq] at ha
                            subst ha
                            simp [h1, h2]
                        | some lo =>
                          cases vlo with
                          | none => exact hlo.elim
                          | some vlo => simp [h1, h2, pbound_some (P := P) ha hlo hab .slice3C w1]
                      have hrun : (Instr.sliceAt t (.slice p len cap) vlo (some vhi) (some vm)).run P w1 = .ok (.slice (if b = a then p else p.map (·.add (a * E.size))) (b - a) (b - a)) w1 := by
                        simp [Instr.sliceAt, Instr.slice, run_underlying hu, hbounds, hsize w1]
                      exact ⟨_, hrun, part a b hab hbl b (Nat.le_refl _) (by omega) .full (.inr ⟨rfl, rfl⟩)⟩
                · cases h
              · cases h
            · cases h
          · cases h
    · -- a row of the call's own
      rename_i e id off len k hk
      have hu := kd_sl (hkd.trans hk)
      cases hE : tb e with
      | none => simp [hE] at h
      | some E =>
        simp only [hE] at h
        have hsize := run_sizeOf_tk (hT _ _ hE)
        cases hx with
        | osl _ _ off' _ cap _ b0 hb0 hoff hcap hm =>
          cases mx with
          | some _ => simp at h
          | none =>
            cases vmx with
            | some _ => exact hmx.elim
            | none =>
              simp only [] at h
              split at h
              · rename_i a b ha hb
                split at h
                · rename_i hab
                  obtain ⟨hab, hbl, rfl⟩ := hab
                  simp only [Option.some.injEq] at h
                  subst h
                  have hbounds := bounds_run (P := P) hlo hhi ha hb hab hbl hcap w1
                  have hrun : (Instr.sliceAt t (.slice (some ⟨b0, off', none⟩) len cap) vlo vhi none).run P w1 = .ok (.slice (if cap = a then some ⟨b0, off', none⟩ else (some (⟨b0, off', none⟩ : Addr)).map (·.add (a * E.size))) (b - a) (cap - a)) w1 := by
                    simp [Instr.sliceAt, Instr.slice, run_underlying hu, hbounds, hsize w1]
                  refine ⟨_, hrun, ?_⟩
                  by_cases hca : cap = a
                  · rw [if_pos hca]
                    exact .osl id _ off' (b - a) (cap - a) E.size b0 hb0 (fun h => by omega) (by omega) (by omega)
                  · rw [if_neg hca]
                    have e2 : (some (⟨b0, off', none⟩ : Addr)).map (·.add (a * E.size)) = some ⟨b0, off' + a * E.size, none⟩ := by simp [Addr.add]
                    rw [e2]
                    refine .osl id _ (off' + a * E.size) (b - a) (cap - a) E.size b0 hb0 (fun h => ?_) (by omega) (by omega)
                    rw [hoff (by omega)]
                · cases h
              · cases h
    · cases h

/-! ### places -/
theorem pindexAt_run (hT : TabOk P tb) {t : TypeId} {x i r : PV} {v iv : Value} (h : pindexAt tb t x i = some r) (hx : Rel H w x v) (hi : Rel H w i iv) (w1 : World) :
    ∃ u, (Instr.indexAt t v iv).run P w1 = .ok u w1 ∧ Rel H w r u := by
  unfold pindexAt at h
  cases hK : tb t with
  | none => simp [hK] at h
  | some K =>
    have hkd := tk_kd hT hK
    simp only [hK] at h
    split at h
    · rename_i e xs tag k n hk
      have hu := kd_sl (hkd.trans hk)
      cases hE : tb e with
      | none => simp [hE] at h
      | some E =>
        simp only [hE] at h
        have hsize := run_sizeOf_tk (hT _ _ hE) w1
        split at h
        · rename_i h0
          split at h
          · rename_i cs hcs
            split at h
            · rename_i hlen
              simp only [Option.some.injEq] at h
              subst h
              cases hi with
              | int _ _ hwf =>
                cases hx with
                | sl p len cap kk _ vss _ hl hcap hm hrel hrow htag =>
                  obtain ⟨vs, hvs, hr⟩ := hrel.get hcs
                  obtain ⟨hvl, ad, rfl, hc⟩ := hrow _ vs hvs
                  have hlt : n.toNat < xs.length := (List.getElem?_eq_some_iff.1 hcs).1
                  have hke : kk = E.size := by have := hr.len; omega
                  subst hke
                  refine ⟨.pointer (some (ad.add (n.toNat * E.size))), ?_, .ref _ cs vs hr hc.weak⟩
                  have h2 : n < (len : Int) := by omega
                  simp [Instr.indexAt, asIntOf, run_underlying hu, h0, h2, hsize]
            · cases h
          · cases h
        · cases h
    · rename_i e id off len k kk n hk
      have hu := kd_sl (hkd.trans hk)
      cases hE : tb e with
      | none => simp [hE] at h
      | some E =>
        simp only [hE] at h
        have hsize := run_sizeOf_tk (hT _ _ hE) w1
        split at h
        · rename_i h0
          obtain ⟨h1, h2, rfl⟩ := h0
          simp only [Option.some.injEq] at h
          subst h
          cases hi with
          | int _ _ hwf =>
            cases hx with
            | osl _ _ off' _ cap _ b hb ho hcap hm =>
              obtain rfl := ho (by omega)
              refine ⟨.pointer (some ⟨b, off' + n.toNat * E.size, none⟩), ?_, .ptr id _ b hb⟩
              have h3 : n < (len : Int) := by omega
              simp [Instr.indexAt, asIntOf, run_underlying hu, h1, h3, hsize, Addr.add]
        · cases h
    · rename_i m e id off k n hk
      have hu := kd_arr (hkd.trans hk)
      cases hE : tb e with
      | none => simp [hE] at h
      | some E =>
        simp only [hE] at h
        have hsize := run_sizeOf_tk (hT _ _ hE) w1
        split at h
        · rename_i h0
          simp only [Option.some.injEq] at h
          subst h
          cases hi with
          | int _ _ hwf =>
            cases hx with
            | ptr _ _ b hb =>
              refine ⟨.pointer (some ⟨b, off + n.toNat * E.size, none⟩), ?_, .ptr id _ b hb⟩
              have h2 : n < (m : Int) := by omega
              simp [Instr.indexAt, asIntOf, run_underlying hu, h0.1, h2, hsize, Instr.sureAddr, Addr.add]
        · cases h
    · cases h

theorem pindex_run (hT : TabOk P tb) {t : TypeId} {x i r : PV} {v iv : Value} (h : pindex tb t x i = some r) (hx : Rel H w x v) (hi : Rel H w i iv) (w1 : World) :
    ∃ u, (Instr.index t v iv).run P w1 = .ok u w1 ∧ Rel H w r u := by
  unfold pindex at h
  cases hK : tb t with
  | none => simp [hK] at h
  | some K =>
    have hkd := tk_kd hT hK
    simp only [hK] at h
    split at h
    · rename_i l k n hk
      have hu := kd_str (hkd.trans hk)
      split at h
      · rename_i h0
        cases hb : l[n.toNat]? with
        | none => simp [hb] at h
        | some b =>
          simp only [hb, Option.map_some, Option.some.injEq] at h
          subst h
          cases hi with
          | int _ _ hwf =>
            cases hx with
            | str _ hl =>
              have hlt : n.toNat < l.length := (List.getElem?_eq_some_iff.1 hb).1
              have hget : (ByteArray.mk l.toArray)[n.toNat]? = some b := by
                have : n.toNat < (ByteArray.mk l.toArray).size := by simpa [ByteArray.size] using hlt
                rw [ByteArray.getElem?_lt' _ _ this]
                congr 1
                have := (List.getElem?_eq_some_iff.1 hb).2
                rw [← this]
                rfl
              refine ⟨.int .u8 b.toNat, ?_, .int _ _ (by have := b.toNat_lt; simp [Lit.wf, IntKind.min, IntKind.max, IntKind.signed, IntKind.bits]; omega)⟩
              simp [Instr.index, asIntOf, run_underlying hu, h0, hget]
      · cases h
    · cases h

theorem pfieldAt_run (hT : TabOk P tb) {t : TypeId} {x r : PV} {v : Value} {f : Nat} (h : pfieldAt tb t x f = some r) (hx : Rel H w x v) (w1 : World) :
    ∃ u, (Instr.fieldAt t v f).run P w1 = .ok u w1 ∧ Rel H w r u := by
  unfold pfieldAt at h
  cases hK : tb t with
  | none => simp [hK] at h
  | some K =>
    have hkd := tk_kd hT hK
    simp only [hK] at h
    split at h
    · rename_i fs held guard hk
      obtain ⟨fields, hu, rfl, _, _⟩ := kd_agg (hkd.trans hk)
      split at h
      · rename_i off ft nm hf
        have hf' : (fields.toList.map fun f => (f.offset, f.type, f.name != "_"))[f]? = some (off, ft, nm) := hf
        rw [List.getElem?_map] at hf'
        cases hfl : fields.toList[f]? with
        | none => simp [hfl] at hf'
        | some g =>
          simp only [hfl, Option.map_some, Option.some.injEq, Prod.mk.injEq] at hf'
          obtain ⟨rfl, rfl, rfl⟩ := hf'
          have hfa : fields[f]? = some g := by simpa using hfl
          cases hF : tb g.type with
          | none => simp [hF] at h
          | some F =>
            simp only [hF] at h
            have hsize := run_sizeOf_tk (hT _ _ hF) w1
            split at h
            · cases h
            · rename_i hz
              split at h
              · rename_i id o
                simp only [Option.some.injEq] at h
                subst h
                cases hx with
                | ptr _ _ b hob =>
                  refine ⟨.pointer (some ⟨b, o + g.offset, none⟩), ?_, .ptr _ _ _ hob⟩
                  simp [Instr.fieldAt, run_underlying hu, hfa, Instr.sureAddr, fieldPlace, hsize, hz, add_plain]
              · simp only [Option.some.injEq] at h
                subst h
                cases hx with
                | ref a cs vs hr hc =>
                  refine ⟨.pointer (some (a.add g.offset)), ?_, .ref _ _ (vs.drop g.offset) (hr.drop _) (fun j u hj => ?_)⟩
                  · simp [Instr.fieldAt, run_underlying hu, hfa, Instr.sureAddr, fieldPlace, hsize, hz]
                  · rw [List.getElem?_drop] at hj
                    rw [add_add]
                    exact hc _ u hj
              · cases h
      · cases h
    · cases h

theorem pfield_run (hT : TabOk P tb) {t : TypeId} {x r : PV} {v : Value} {f : Nat} (h : pfield tb t x f = some r) (hx : Rel H w x v) (w1 : World) :
    ∃ u, (Instr.field t v f).run P w1 = .ok u w1 ∧ Rel H w r u := by
  unfold pfield at h
  cases hK : tb t with
  | none => simp [hK] at h
  | some K =>
    have hkd := tk_kd hT hK
    simp only [hK] at h
    split at h
    · rename_i fs held guard cs hk
      obtain ⟨fields, hu, rfl, _, _⟩ := kd_agg (hkd.trans hk)
      split at h
      · rename_i off ft nm hf
        have hf' : (fields.toList.map fun f => (f.offset, f.type, f.name != "_"))[f]? = some (off, ft, nm) := hf
        rw [List.getElem?_map] at hf'
        cases hfl : fields.toList[f]? with
        | none => simp [hfl] at hf'
        | some g =>
          simp only [hfl, Option.map_some, Option.some.injEq, Prod.mk.injEq] at hf'
          obtain ⟨rfl, rfl, rfl⟩ := hf'
          have hfa : fields[f]? = some g := by simpa using hfl
          cases hF : tb g.type with
          | none => simp [hF] at h
          | some F =>
            simp only [hF] at h
            cases hx with
            | agg _ vs hr =>
              obtain ⟨u, hu1, hu2⟩ := part_rel (hT _ _ hF) hr h w1
              refine ⟨u, ?_, hu2⟩
              simp [Instr.field, run_underlying hu, hfa, asAgg, hu1]
      · cases h
    · cases h
end
end Go.Pv
