import Derived.Test.YtpicepaiigbgkaaDoorPvL1
set_option maxHeartbeats 4000000
set_option maxRecDepth 200000
set_option linter.unusedSimpArgs false
set_option linter.unusedVariables false
namespace Go.Proofs.YtpicepaiigbgkaaDoor
open Go Go.Proofs Go.RowKit Go.Pv Go.ChangeShapes Go.WideShapes Go.ChangeAt

/-! ### arguments of the laws' types -/
theorem shp_int {t : TypeId} {k : IntKind} {xs : List PV} (hu : Tryd.prog.underlying t = some (.int k)) (h : Shp Tryd.prog t xs) : ∃ n, xs = [.int k n] := by
  cases h with
  | int t k' n h => rw [hu] at h; cases h; exact ⟨n, rfl⟩
  | bool t b h => rw [hu] at h; cases h
  | str t l h => rw [hu] at h; cases h
  | sl t e xss h hx => rw [hu] at h; cases h
  | struct t fs xs h hx => rw [hu] at h; cases h
theorem shp_str {t : TypeId} {xs : List PV} (hu : Tryd.prog.underlying t = some .string) (h : Shp Tryd.prog t xs) : ∃ l, xs = [.str l] := by
  cases h with
  | str t l h => exact ⟨l, rfl⟩
  | int t k' n h => rw [hu] at h; cases h
  | bool t b h => rw [hu] at h; cases h
  | sl t e xss h hx => rw [hu] at h; cases h
  | struct t fs xs h hx => rw [hu] at h; cases h
theorem shp_struct {t : TypeId} {fs : Array Field} {xs : List PV} (hu : Tryd.prog.underlying t = some (.struct fs)) (h : Shp Tryd.prog t xs) : ShpL Tryd.prog (fs.toList.map (·.type)) xs := by
  cases h with
  | struct t fs xs h hx => rw [hu] at h; cases h; exact hx
  | str t l h => rw [hu] at h; cases h
  | int t k' n h => rw [hu] at h; cases h
  | bool t b h => rw [hu] at h; cases h
  | sl t e xss h hx => rw [hu] at h; cases h
theorem shp_sl {t e : TypeId} {xs : List PV} (hu : Tryd.prog.underlying t = some (.slice e)) (h : Shp Tryd.prog t xs) : ∃ xss, xs = [.sl xss .non] ∧ ∀ ys, ys ∈ xss → Shp Tryd.prog e ys := by
  cases h with
  | sl t e xss h hx => rw [hu] at h; cases h; exact ⟨xss, rfl, hx⟩
  | str t l h => rw [hu] at h; cases h
  | int t k' n h => rw [hu] at h; cases h
  | bool t b h => rw [hu] at h; cases h
  | struct t fs xs h hx => rw [hu] at h; cases h
theorem shp_val {xs : List PV} (h : Shp Tryd.prog 24 xs) : ∃ k n s, xs = [.int .i64 k, .int .i64 n, .str s] := by
  have h1 := shp_struct Tryd.underlying24 h
  cases h1 with
  | cons t ts xs ys ha hs =>
    obtain ⟨k, rfl⟩ := shp_int Tryd.underlying22 ha
    cases hs with
    | cons t ts xs ys hb hs =>
      obtain ⟨n, rfl⟩ := shp_int Tryd.underlying2 hb
      cases hs with
      | cons t ts xs ys hc hs =>
        obtain ⟨s, rfl⟩ := shp_str Tryd.underlying9 hc
        cases hs
        exact ⟨k, n, s, rfl⟩
theorem arg_val {x : PV} (h : Arg Tryd.prog 24 x) : ∃ k n s, x = .agg [.int .i64 k, .int .i64 n, .str s] := by
  rcases h with ⟨fs, ys, hu, rfl, hs⟩ | ⟨hne, _⟩
  · obtain ⟨k, n, s, rfl⟩ := shp_val hs
    exact ⟨k, n, s, rfl⟩
  · exact absurd Tryd.underlying24 (hne _)
theorem arg_str {x : PV} (h : Arg Tryd.prog 9 x) : ∃ s, x = .str s := by
  rcases h with ⟨fs, ys, hu, rfl, hs⟩ | ⟨hne, hs⟩
  · rw [Tryd.underlying9] at hu; cases hu
  · obtain ⟨s, h⟩ := shp_str Tryd.underlying9 hs
    cases h
    exact ⟨s, rfl⟩

theorem arg_int {k : IntKind} {t : TypeId} {x : PV} (hu : Tryd.prog.underlying t = some (.int k)) (h : Arg Tryd.prog t x) : ∃ n, x = .int k n := by
  rcases h with ⟨fs, ys, hu', rfl, hs⟩ | ⟨hne, hs⟩
  · rw [hu] at hu'; cases hu'
  · obtain ⟨n, h⟩ := shp_int hu hs
    cases h
    exact ⟨n, rfl⟩

/-! ### a world that fits -/
def litVals : DataW Unit → Array Value
  | .agg l => (l.map fun d => match d with | .lit (.int k n) => Value.int k n | _ => undef).toArray
  | _ => #[]
noncomputable def low : Nat := (World.holding Tryd.prog default ⟨#[], #[], []⟩).heap.size
noncomputable def laidWorld (os : Os) : World :=
  let w0 := World.holding Tryd.prog os ⟨#[.cells #[.string ⟨#[118, 97, 108, 117, 101, 32, 111, 117, 116, 32, 111, 102, 32, 114, 97, 110, 103, 101]⟩] 144, .cells #[.string ⟨#[105, 110, 118, 97, 108, 105, 100, 32, 115, 121, 110, 116, 97, 120]⟩] 144], #[], []⟩
  { w0 with heap := ((((w0.heap.modify 0 fun
      | .cells _ t frozen => .cells #[.iface 142 (.pointer (some ⟨low + 1, 0, none⟩))] t frozen
      | o => o).modify 1 fun
      | .cells _ t frozen => .cells #[.iface 142 (.pointer (some ⟨low, 0, none⟩))] t frozen
      | o => o).modify 2 fun
      | .cells _ t frozen => .cells (litVals Rows.laid_internal_strconv_uint64pow10) t frozen
      | o => o).modify 3 fun
      | .cells _ t frozen => .cells (litVals Rows.laid_math_bits_deBruijn32tab) t frozen
      | o => o).modify 4 fun
      | .cells _ t frozen => .cells (litVals Rows.laid_math_bits_deBruijn64tab) t frozen
      | o => o }
theorem own : ownKnob Tryd.prog.godebug = none := by kernel_rfl
theorem laid_met (os : Os) (args : Array Value) : laidMet Tryd.prog laidL ((laidWorld os).forCall (fun _ _ => 0) ⟨#[], args, []⟩).memory :=
  laidMet_of_run' 8 (by kernel_rfl) (by kernel_rfl)
end Go.Proofs.YtpicepaiigbgkaaDoor
