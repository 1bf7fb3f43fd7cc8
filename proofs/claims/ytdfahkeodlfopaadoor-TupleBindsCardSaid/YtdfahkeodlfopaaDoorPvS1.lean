import Derived.Test.YtdfahkeodlfopaaDoorPvV3
import Derived.Test.YtdfahkeodlfopaaDoorShelf
import Derived.Lib.AppendIntMem
import Derived.Lib.ItoaLen
import Derived.Lib.ParseIntBTie
set_option maxHeartbeats 4000000
set_option maxRecDepth 200000
set_option linter.unusedSimpArgs false
set_option linter.unusedVariables false
namespace Go.Pv
open Go Go.Proofs Go.RowKit

/-- A package variable, as it lies in the world that gl tells of. -/
def VarIs (gl : Nat → Option Obj) (name : String) (cs : Array Value) : Prop := ∃ g T f, Tryd.prog.globalNamed name = some g ∧ gl g = some (.cells cs T f)

/-- The library's variables, as they are laid. -/
structure GlPow (gl : Nat → Option Obj) : Prop where
  pow : VarIs gl "internal/strconv.uint64pow10" (Lib.pow10Tab.map fun z => Value.int .u64 z).toArray
structure GlOk (gl : Nat → Option Obj) : Prop extends GlPow gl where
  syn : ∃ tp p, VarIs gl "strconv.ErrSyntax" #[.iface tp p]
  rng : ∃ tp p, VarIs gl "strconv.ErrRange" #[.iface tp p]

theorem VarIs.var {gl : Nat → Option Obj} {name : String} {cs : Array Value} (h : VarIs gl name cs) {w : World} (hw : ∀ b o, gl b = some o → w.heap[b]? = some o) : w.var? Tryd.prog name = some cs := by
  obtain ⟨g, T, f, h1, h2⟩ := h
  simp [World.var?, h1, hw g _ h2]

theorem GlPow.dr {gl : Nat → Option Obj} (h : GlPow gl) (w w' : World) : Dr gl w w' := fun hg => by
  obtain ⟨g, T, f, _, h2⟩ := h.pow
  rw [hg g] at h2
  cases h2

/-! ### strconv.FormatInt at base 10 -/
def itoaV (n : Int) : List UInt8 := Lib.itoa n
def F_FormatInt : List PV → Tr PV
  | [.int .i64 n, .int .i64 b] => Tr.chk (iEq b 10) (.ret (.str (itoaV n)))
  | _ => .fail
theorem sim_FormatInt {gl : Nat → Option Obj} (hgl : GlPow gl) : SimP Tryd.prog gl 92 fun args => (F_FormatInt args).run := by
  refine ⟨⟨_, Tryd.func92, by rfl, by rfl⟩, ?_⟩
  intro args x hx H w vs hB hob htk hw hrel
  unfold F_FormatInt at hx
  split at hx
  · rename_i n b
    obtain ⟨h1, h2⟩ := Tr.chk_some hx
    cases h2
    simp at h1
    subst h1
    cases hrel with
    | cons _ v _ vs hv hvs =>
      cases hvs with
      | cons _ v2 _ vs hv2 hvs =>
        cases hvs
        cases hv with
        | int _ _ hwf =>
          cases hv2
          simp [Lit.wf, IntKind.min, IntKind.max, IntKind.signed, IntKind.bits] at hwf
          refine (Tryd.strconv_FormatInt_10 n hwf.1 (by omega) w (hgl.pow.var hw)).mono ?_
          rintro e w' ⟨rfl, k, os, rfl⟩
          refine ⟨_, rfl, ⟨Lib.below_grow _ _ (Nat.le_refl _) k os, hgl.dr _ _⟩, .str _ ?_⟩
          have := Lib.itoa_length_le n hwf.1 (by omega)
          show (Lib.itoa n).length ≤ maxLen
          unfold maxLen
          omega
  · cases hx

/-! ### strconv.ParseInt at base 10 and 64 bits -/
def pOk (s : List UInt8) : Bool := match Lib.parseIntB 64 s with
  | .ok _ => true
  | _ => false
def pVal (s : List UInt8) : Int := match Lib.parseIntB 64 s with
  | .ok v => v
  | .range => Lib.intSat 64 s
  | _ => 0
def okSize48 (s : List UInt8) : Bool := decide (s.length ≤ 281474976710656)
def F_ParseInt : List PV → Tr PV
  | [.str s, .int .i64 b, .int .i64 k] => Tr.chk (iEq b 10) (Tr.chk (iEq k 64) (Tr.chk (okSize48 s) (.ite (pOk s) (.ret (.tup [.int .i64 (pVal s), .nili])) (.ret (.tup [.int .i64 (pVal s), .iface 159 .top])))))
  | _ => .fail
theorem pVal_wf (s : List UInt8) : (Lit.int .i64 (pVal s)).wf = true := by
  have key : -9223372036854775808 ≤ pVal s ∧ pVal s ≤ 9223372036854775807 := by
    unfold pVal
    split
    · rename_i v hv
      have h := Lib.parseIntB_bounds hv
      have e : ((2 ^ (64 - 1) : Nat) : Int) = 9223372036854775808 := by decide
      rw [e] at h
      omega
    · unfold Lib.intSat
      split
      · have e : -(((2 ^ (64 - 1) : Nat)) : Int) = -9223372036854775808 := by decide
        rw [e]
        omega
      · have e : (((2 ^ (64 - 1) - 1 : Nat)) : Int) = 9223372036854775807 := by decide
        rw [e]
        omega
    · omega
  simp [Lit.wf, IntKind.min, IntKind.max, IntKind.signed, IntKind.bits]
  omega
theorem sim_ParseInt {gl : Nat → Option Obj} (hgl : GlOk gl) : SimP Tryd.prog gl 104 fun args => (F_ParseInt args).run := by
  refine ⟨⟨_, Tryd.func104, by rfl, by rfl⟩, ?_⟩
  intro args x hx H w vs hB hob htk hw hrel
  unfold F_ParseInt at hx
  split at hx
  · rename_i s b k
    obtain ⟨h1, h2⟩ := Tr.chk_some hx
    obtain ⟨h3, h4⟩ := Tr.chk_some h2
    obtain ⟨h5, h6⟩ := Tr.chk_some h4
    simp at h1 h3
    simp [okSize48] at h5
    subst h1 h3
    have hwf := pVal_wf s
    cases hrel with
    | cons _ v _ vs hv hvs =>
      cases hvs with
      | cons _ v2 _ vs hv2 hvs =>
        cases hvs with
        | cons _ v3 _ vs hv3 hvs =>
          cases hvs
          cases hv2; cases hv3
          cases hv with
          | str _ hl =>
            have hsz : (ByteArray.mk s.toArray).size = s.length := by simp [ByteArray.size]
            cases hp : Lib.parseIntB 64 s with
            | ok n =>
              have e1 : pOk s = true := by simp [pOk, hp]
              have e2 : pVal s = n := by simp [pVal, hp]
              rw [e2] at hwf
              simp [e1, e2] at h6
              subst h6
              refine (Any.strconv_ParseInt_10_at64_ok Tryd.laysC174 ⟨s.toArray⟩ (by rw [hsz]; omega) n hp w).mono ?_
              rintro e w' ⟨rfl, hw'⟩
              refine ⟨_, rfl, ⟨?_, hgl.dr _ _⟩, .tup _ _ (.cons _ _ _ _ (.int _ _ hwf) (.cons _ _ _ _ .nili .nil))⟩
              rcases hw' with rfl | ⟨t, rfl⟩
              · exact Below.refl _ _
              · exact ⟨rfl, rfl, rfl, by rw [Lib.bytesWorld_size]; omega, fun k hk => Lib.bytesWorld_at_old w _ _ k hk⟩
            | range =>
              have e1 : pOk s = false := by simp [pOk, hp]
              have e2 : pVal s = Lib.intSat 64 s := by simp [pVal, hp]
              simp [e1, e2] at h6
              rw [e2] at hwf
              subst h6
              obtain ⟨tp, p, hv⟩ := hgl.rng
              refine (Any.strconv_ParseInt_10_at64_range_var Tryd.laysC174 ⟨s.toArray⟩ (by rw [hsz]; omega) hp tp p w (hv.var hw)).mono ?_
              rintro e w' ⟨N, rfl, h1, h2, h3⟩
              exact ⟨_, rfl, ⟨h3, hgl.dr _ _⟩, .tup _ _ (.cons _ _ _ _ (.int _ _ hwf) (.cons _ _ _ _ (.iface _ _ _ (.top _)) .nil))⟩
            | _ =>
              have e1 : pOk s = false := by simp [pOk, hp]
              have e2 : pVal s = 0 := by simp [pVal, hp]
              rw [e2] at hwf
              simp [e1, e2] at h6
              subst h6
              obtain ⟨tp, p, hv⟩ := hgl.syn
              refine (Any.strconv_ParseInt_10_at64_syntax_var Tryd.laysC174 ⟨s.toArray⟩ (by rw [hsz]; omega) hp tp p w (hv.var hw)).mono ?_
              rintro e w' ⟨N, rfl, h1, h2, h3⟩
              exact ⟨_, rfl, ⟨h3, hgl.dr _ _⟩, .tup _ _ (.cons _ _ _ _ (.int _ _ hwf) (.cons _ _ _ _ (.iface _ _ _ (.top _)) .nil))⟩
  · cases hx
end Go.Pv
