import Derived.Test.YtdfahkeodlfopaaDoorPvTA
set_option maxHeartbeats 4000000
set_option maxRecDepth 200000
set_option linter.unusedSimpArgs false
set_option linter.unusedVariables false
namespace Go.Pv
open Go Go.Proofs
theorem awake_law : awake_Tr.run = some (.bool true) := by
  have h7 : TText_W (rOf cV [(1, 7, [])]) = some (.tup [.str [40, 55, 41], .int .i64 0]) := text7
  have h1 : okMT (rOf cM [(1, [88], 0, 0, [])]) (rOf cV [(1, 3, [])]) = true := by kernel_rfl
  have h2 : mTV (rOf cM [(1, [88], 0, 0, [])]) (rOf cV [(1, 3, [])]) = rOf cB [([88], 1, 3, [])] := by kernel_rfl
  have h3 : lexV [(1, 1, [])] [(1, 1, [])] = 0 := by kernel_rfl
  have h4 : chkT (rOf cV [(0, 0, []), (0, 0, []), (0, 0, []), (0, 0, []), (0, 0, []), (0, 0, []), (0, 0, []), (0, 0, []), (0, 0, [])]) = 20 := by kernel_rfl
  simp [awake_Tr, TText_is0, TText_s, TText_n, h7, h1, h2, h3, h4]
noncomputable def F_awk : List PV → Tr PV | [] => .ret (.bool true) | _ => .fail
theorem sim_awk (gl : Nat → Option Obj) (hg : GlPow gl) : SimP Tryd.prog gl 14 fun args => (F_awk args).run := by
  refine SimP.imp (sim_awake gl hg) ?_
  intro args x h
  unfold F_awk at h
  split at h
  · cases h; exact awake_law
  · cases h
end Go.Pv
