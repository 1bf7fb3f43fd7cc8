import Derived.Test.YtdfahkeodlfopaaDoorPvU3
set_option maxHeartbeats 4000000
set_option maxRecDepth 200000
set_option linter.unusedSimpArgs false
set_option linter.unusedVariables false
namespace Go.Pv
open Go Go.Proofs
theorem TPat_loop (p : List Tm) (hp : p.length ≤ 9223372036854775807) : TPat01_V [.sl (rOf cM p) .non, .int .i64 (p.length : Nat), .int .i64 0] ⟨[], [], []⟩ = if p.all isTm = true then some (.exit 0, [], ⟨[], [], []⟩) else some (.ret, [.int .i64 22], ⟨[], [], []⟩) := by
  have h := loop_scan (l := p) (V := fun i => TPat01_V [.sl (rOf cM p) .non, .int .i64 (p.length : Nat), .int .i64 (i : Nat)] ⟨[], [], []⟩) (fun _ v => if isTm v = true then none else some ()) (fun _ => some (.ret, [.int .i64 22], ⟨[], [], []⟩)) (some (.exit 0, [], ⟨[], [], []⟩)) ?_ ?_
  · rw [scan_all] at h
    refine h.trans ?_
    by_cases ha : p.all isTm = true
    · rw [if_pos ha, if_pos ha]
    · rw [if_neg ha, if_neg ha]
  · intro i hi
    have w := inc_i64 (i := i) (by omega)
    show TPat01_V _ _ = _
    rw [TPat01_E]
    by_cases hv : isTm p[i] = true
    · have hv' : isTmV p[i].1 p[i].2.1 p[i].2.2.1 p[i].2.2.2.1 p[i].2.2.2.2 = true := hv
      simp [TPat01_Tr, hi, w, hv, hv']
    · have hv' : isTmV p[i].1 p[i].2.1 p[i].2.2.1 p[i].2.2.2.1 p[i].2.2.2.2 = false := by simpa [isTm] using hv
      simp [TPat01_Tr, hi, w, hv, hv']
  · show TPat01_V _ _ = _
    rw [TPat01_E]
    simp [TPat01_Tr]
theorem TPat_law (p : List Tm) (hp : p.length ≤ 9223372036854775807) : TPat0_W (rOf cM p) = some (.int .i64 (chkP (rOf cM p))) := by
  have h := TPat_loop p hp
  have hc : chkP (rOf cM p) = if p.length ≤ 8 ∧ p.all isTm = true then 0 else 22 := by simp only [chkP, unR_of]
  unfold TPat0_W TPat0_Tr
  rw [hc]
  by_cases h8 : p.length ≤ 8
  · have h8' : ¬ (8 : Int) < p.length := by omega
    cases ha : p.all isTm <;> (rw [ha] at h; simp at h; simp [TPat01_is0, TPat01_is1, TPat01_n_0, TPat01_W, h, h8, h8'])
  · have h8' : (8 : Int) < p.length := by omega
    simp [h8, h8']
def F_TPat : List PV → Tr PV
  | [.sl p .non] => Tr.chk (okR cM p) (.ret (.int .i64 (chkP p)))
  | _ => .fail
theorem sim_TPat (gl : Nat → Option Obj) : SimP Tryd.prog gl 28 fun args => (F_TPat args).run := by
  refine SimP.given (sim_TPat0 gl) ?_
  intro args x hg h
  unfold F_TPat at h
  split at h
  · rename_i p
    obtain ⟨h0, q0⟩ := Tr.chk_some h
    have q := q0
    obtain ⟨p, rfl⟩ := okR_eq _ h0
    have hl := rel_sl hg 0 rfl
    simp only [rOf_len] at hl
    unfold maxLen at hl
    have hw := TPat_law p (by omega)
    cases q
    simp [F_TPat0, TPat0_is0, TPat0_n, hw]
  · cases h
end Go.Pv
