/- Part 4 of the proof: pure values for the machine's values, what functions compute over them, and laws of what is computed. Conditions: none beyond each theorem's own premises. -/
import Derived.Test.YtlemepahgalogaaGreatDoorPvGb3
noncomputable section
set_option maxHeartbeats 4000000
set_option maxRecDepth 200000
set_option linter.unusedSimpArgs false
set_option linter.unusedVariables false
namespace Go.Pv
open Go Go.Proofs Go.RowKit
def numN:qU→Nat→Option Nat
 |[],a=>some a
 |c::l,a=>if 48≤c.toNat∧c.toNat≤57 then numN l (a * 10+(c.toNat - 48)) else none
def qsW (s:qU):Bool:=(numN s 0).isSome
def numV (s:qU):Int:=(((numN s 0).getD 0:Nat):Int)
theorem qO6:∀ (l:qU) (a k x:Nat),numN l a=some x→a < 10 ^ k→x < 10 ^ (k+l.length)
 |[],a,k,x,h,ha=>by simp [numN] at h;subst h;simpa using ha
 |c::l,a,k,x,h,ha=>by
  unfold numN at h
  split at h
  ·have:=qO6 l _ (k+1) x h (by rw [Nat.pow_succ];omega)
   simp only [List.length_cons];have e:k+(l.length+1)=k+1+l.length:=by omega
   rw [e];exact this
  ·cases h
def qJS:List PV→Store→Option (List UInt8×Bool×Int×Int×Store)
 |[.str s,.bool m,.int .u64 n,.int .i64 i],σ=>some (s,m,n,i,σ)
 |_,_=>none
def qPp:qU×Bool×Int×Int×Store→Tr (PExit×List (Nat×PV)×Store)
 |(s,m,n,i,σ)=>Tr.chk (iEq n 0) (Tr.chk (iEq i 0) (Tr.chk (iLe (sLen s) 19) (.ite (qsW s) (.ret (.exit 0,[(4,.bool m),(5,.int .u64 (numV s))],σ)) (.ret (.ret,[(2,.int .i64 0),(3,.bool false)],σ)))))
def qQf:LpsT:=fun r fr σ=>if r=8 then oracle 75 [0,4,5,6] qJS qPp fr σ else .fail
def qJa:Code:=qRj Tryz.f164 0
theorem qNm (gl : Gl) : ∀ vs σ a e out σ', qJS vs σ = some a → (qPp a).run = some (e, out, σ') → LDoes Tryz.prog gl qJa (mk 75 ([0, 4, 5, 6].zip vs)) σ e (mk 75 out) σ' := by
  intro vs st a e out σ' hd hr
  unfold qJS at hd
  split at hd
  · rename_i s m n i
    injection hd with hd
    subst hd
    obtain ⟨h1, q1⟩ := Tr.chk_some hr
    obtain ⟨h2, q2⟩ := Tr.chk_some q1
    obtain ⟨h3, q3⟩ := Tr.chk_some q2
    clear hr q1 q2
    simp at h1 h2 h3
    subst h1 h2
    have key : ∀ (k : Nat) (i : Int) (n : Nat), 0 ≤ i → i + k = s.length → n < 10 ^ i.toNat → numN (s.drop i.toNat) n = numN s 0 →
       LDoes Tryz.prog gl qJa (mk 75 ([0, 4, 5, 6].zip [.str s, .bool m, .int .u64 (n : Int), .int .i64 i])) st e (mk 75 out) σ' := by
      intro k
      induction k with
      | zero =>
        intro i n h0 hi hn hf
        have e1 : s.drop i.toNat = [] := by apply List.drop_eq_nil_of_le; omega
        rw [e1] at hf
        simp [numN] at hf
        simp [qsW, numV, ← hf] at q3
        obtain ⟨rfl, rfl, rfl⟩ := q3
        refine LDoes.round qaj (G := ofL []) qaf qai (L := fun _ _ _ => .fail) (qab (by kernel_rfl)) (by kernel_rfl) ?_
        refine Tr.all_as (.ite (iLt i (sLen s)) (.ite (qaF s i) (.ite (iLt (sAt s i) 48) (.ret (.ret,[3,2,39,34,27],[.str s,.top,.int .i64 0,.bool false,.bool m,.int .u64 (Int.ofNat n),.int .i64 i,.top,.top,.top,.top,.top,.top,.top,.top,.top,.top,.top,.top,.top,.top,.top,.top,.top,.int .i64 i,.str s,.int .i64 (sLen s),.bool true,.top,.top,.str s,.int .i64 i,.int .u8 (sAt s i),.bool (iLt (sAt s i) 48),.bool true,.tup [],.tup [],.tup [],.tup [],.bool true,.top,.top,.top,.top,.top,.top,.top,.top,.top,.top,.top,.top,.top,.top,.top,.top,.top,.top,.top,.top,.top,.top,.top,.top,.top,.top,.top,.top,.top,.top,.top,.top,.top,.top,.top],st)) (.ite (qaF s i) (.ite (iLt 57 (sAt s i)) (.ret (.ret,[3,2,39,34,27],[.str s,.top,.int .i64 0,.bool false,.bool m,.int .u64 (Int.ofNat n),.int .i64 i,.top,.top,.top,.top,.top,.top,.top,.top,.top,.top,.top,.top,.top,.top,.top,.top,.top,.int .i64 i,.str s,.int .i64 (sLen s),.bool true,.top,.top,.str s,.int .i64 i,.int .u8 (sAt s i),.bool (iLt (sAt s i) 48),.bool false,.str s,.int .i64 i,.int .u8 (sAt s i),.bool (iLt 57 (sAt s i)),.bool true,.top,.top,.top,.top,.top,.top,.top,.top,.top,.top,.top,.top,.top,.top,.top,.top,.top,.top,.top,.top,.top,.top,.top,.top,.top,.top,.top,.top,.top,.top,.top,.top,.top,.top,.top],st)) (.ite (qaF s i) (.ret (.normal,[39,34,27],[.str s,.top,.top,.top,.bool m,.int .u64 (iAdd .u64 (iMul .u64 (Int.ofNat n) 10) (qay .u64 (iSub .u8 (sAt s i) 48))),.int .i64 (iAdd .i64 i
          1),.top,.top,.top,.top,.top,.top,.top,.top,.top,.top,.top,.top,.top,.top,.top,.top,.top,.int .i64 i,.str s,.int .i64 (sLen s),.bool true,.int .i64 i,.int .i64 (iAdd .i64 i 1),.str s,.int .i64 i,.int .u8 (sAt s i),.bool (iLt (sAt s i) 48),.bool false,.str s,.int .i64 i,.int .u8 (sAt s i),.bool (iLt 57 (sAt s i)),.bool false,.int .u64 (Int.ofNat n),.int .u64 (iMul .u64 (Int.ofNat n) 10),.str s,.int .i64 i,.int .u8 (sAt s i),.int .u8 (iSub .u8 (sAt s i) 48),.int .u64 (qay .u64 (iSub .u8 (sAt s i) 48)),.int .u64 (iAdd .u64 (iMul .u64 (Int.ofNat n) 10) (qay .u64 (iSub .u8 (sAt s i) 48))),.top,.top,.top,.top,.top,.top,.top,.top,.top,.top,.top,.top,.top,.top,.top,.top,.top,.top,.top,.top,.top,.top,.top,.top,.top,.top,.top],st)) .fail)) .fail)) .fail) (.ret (.exit 0,[27],[.str s,.top,.top,.top,.bool m,.int .u64 (Int.ofNat n),.int .i64 i,.top,.top,.top,.top,.top,.top,.top,.top,.top,.top,.top,.top,.top,.top,.top,.top,.top,.int .i64 i,.str s,.int .i64 (sLen s),.bool false,.top,.top,.top,.top,.top,.top,.top,.top,.top,.top,.top,.top,.top,.top,.top,.top,.top,.top,.top,.top,.top,.top,.top,.top,.top,.top,.top,.top,.top,.top,.top,.top,.top,.top,.top,.top,.top,.top,.top,.top,.top,.top,.top,.top,.top,.top,.top],st))) (by kernel_rfl) ?_
        exact Tr.all_f (by simp; omega) ⟨rfl, by simp [Weak, mk, qb9, look], rfl⟩
      | succ k ih =>
        intro i n h0 hi hn hf
        obtain ⟨v, hv⟩ := qfc (l := s) (i := i.toNat) (by omega)
        rw [qa3 hv, numN] at hf
        have hv8 := v.toNat_lt
        have e2 : (i + 1).toNat = i.toNat + 1 := by omega
        have hpow : 10 ^ (i.toNat + 1) ≤ 10 ^ 19 := Nat.pow_le_pow_right (by omega) (by omega)
        rw [Nat.pow_succ] at hpow
        refine LDoes.round qaj (G := ofL []) qaf qai (L := fun _ _ _ => .fail) (qab (by kernel_rfl)) (by kernel_rfl) ?_
        refine Tr.all_as (.ite (iLt i (sLen s)) (.ite (qaF s i) (.ite (iLt (sAt s i) 48) (.ret (.ret,[3,2,39,34,27],[.str s,.top,.int .i64 0,.bool false,.bool m,.int .u64 (Int.ofNat n),.int .i64 i,.top,.top,.top,.top,.top,.top,.top,.top,.top,.top,.top,.top,.top,.top,.top,.top,.top,.int .i64 i,.str s,.int .i64 (sLen s),.bool true,.top,.top,.str s,.int .i64 i,.int .u8 (sAt s i),.bool (iLt (sAt s i) 48),.bool true,.tup [],.tup [],.tup [],.tup [],.bool true,.top,.top,.top,.top,.top,.top,.top,.top,.top,.top,.top,.top,.top,.top,.top,.top,.top,.top,.top,.top,.top,.top,.top,.top,.top,.top,.top,.top,.top,.top,.top,.top,.top,.top,.top],st)) (.ite (qaF s i) (.ite (iLt 57 (sAt s i)) (.ret (.ret,[3,2,39,34,27],[.str s,.top,.int .i64 0,.bool false,.bool m,.int .u64 (Int.ofNat n),.int .i64 i,.top,.top,.top,.top,.top,.top,.top,.top,.top,.top,.top,.top,.top,.top,.top,.top,.top,.int .i64 i,.str s,.int .i64 (sLen s),.bool true,.top,.top,.str s,.int .i64 i,.int .u8 (sAt s i),.bool (iLt (sAt s i) 48),.bool false,.str s,.int .i64 i,.int .u8 (sAt s i),.bool (iLt 57 (sAt s i)),.bool true,.top,.top,.top,.top,.top,.top,.top,.top,.top,.top,.top,.top,.top,.top,.top,.top,.top,.top,.top,.top,.top,.top,.top,.top,.top,.top,.top,.top,.top,.top,.top,.top,.top,.top,.top],st)) (.ite (qaF s i) (.ret (.normal,[39,34,27],[.str s,.top,.top,.top,.bool m,.int .u64 (iAdd .u64 (iMul .u64 (Int.ofNat n) 10) (qay .u64 (iSub .u8 (sAt s i) 48))),.int .i64 (iAdd .i64 i
          1),.top,.top,.top,.top,.top,.top,.top,.top,.top,.top,.top,.top,.top,.top,.top,.top,.top,.int .i64 i,.str s,.int .i64 (sLen s),.bool true,.int .i64 i,.int .i64 (iAdd .i64 i 1),.str s,.int .i64 i,.int .u8 (sAt s i),.bool (iLt (sAt s i) 48),.bool false,.str s,.int .i64 i,.int .u8 (sAt s i),.bool (iLt 57 (sAt s i)),.bool false,.int .u64 (Int.ofNat n),.int .u64 (iMul .u64 (Int.ofNat n) 10),.str s,.int .i64 i,.int .u8 (sAt s i),.int .u8 (iSub .u8 (sAt s i) 48),.int .u64 (qay .u64 (iSub .u8 (sAt s i) 48)),.int .u64 (iAdd .u64 (iMul .u64 (Int.ofNat n) 10) (qay .u64 (iSub .u8 (sAt s i) 48))),.top,.top,.top,.top,.top,.top,.top,.top,.top,.top,.top,.top,.top,.top,.top,.top,.top,.top,.top,.top,.top,.top,.top,.top,.top,.top,.top],st)) .fail)) .fail)) .fail) (.ret (.exit 0,[27],[.str s,.top,.top,.top,.bool m,.int .u64 (Int.ofNat n),.int .i64 i,.top,.top,.top,.top,.top,.top,.top,.top,.top,.top,.top,.top,.top,.top,.top,.top,.top,.int .i64 i,.str s,.int .i64 (sLen s),.bool false,.top,.top,.top,.top,.top,.top,.top,.top,.top,.top,.top,.top,.top,.top,.top,.top,.top,.top,.top,.top,.top,.top,.top,.top,.top,.top,.top,.top,.top,.top,.top,.top,.top,.top,.top,.top,.top,.top,.top,.top,.top,.top,.top,.top,.top,.top,.top],st))) (by kernel_rfl) ?_
        rw [qf3 hv]
        have hi1 := qdS h0 hv
        refine Tr.all_t (by simp; omega) <| Tr.all_t hi1 ?_
        by_cases hc : 48 ≤ v.toNat ∧ v.toNat ≤ 57
        · rw [if_pos hc] at hf
          have w1 : iSub .u8 (v.toNat : Int) 48 = v.toNat - 48 := by unfold iSub; rw [qFx (by omega)]
          have w2 : qay .u64 (v.toNat - 48 : Int) = v.toNat - 48 := qeF (by omega)
          have w3 : iMul .u64 (Int.ofNat n) 10 = n * 10 := by unfold iMul; rw [qeF (by simp; omega)]; rfl
          have w4 : iAdd .u64 (n * 10 : Int) (v.toNat - 48) = n * 10 + (v.toNat - 48) := by unfold iAdd; rw [qeF (by omega)]
          have w5 : iAdd .i64 i 1 = i + 1 := qaP (by omega)
          have w6 : ((n * 10 + (v.toNat - 48) : Nat) : Int) = (n : Int) * 10 + (v.toNat - 48) := by omega
          refine Tr.all_f (by simp; omega) <| Tr.all_t hi1 <| Tr.all_f (by simp; omega) <| Tr.all_t hi1 ?_
          rw [w1, w2, w3, w4, w5]
          refine LDoes.into ?_ (ih (i + 1) (n * 10 + (v.toNat - 48)) (by omega) (by omega) (by rw [e2, Nat.pow_succ]; omega) (by rw [e2]; exact hf))
          rw [w6]
          simp [Weak, mk, qb9, look]
        · rw [if_neg hc] at hf
          simp [qsW, numV, ← hf] at q3
          obtain ⟨rfl, rfl, rfl⟩ := q3
          by_cases hc1 : v.toNat < 48
          · exact Tr.all_t (by simp; omega) ⟨rfl, by simp [Weak, mk, qb9, look], rfl⟩
          · refine Tr.all_f (by simp; omega) <| Tr.all_t hi1 <| Tr.all_t (by simp; omega) ⟨rfl, by simp [Weak, mk, qb9, look], rfl⟩
    exact key s.length 0 0 (by omega) (by omega) (by simp) (by simp)
  · cases hd
def whoN (m:Bool) (t:qU):Option Int :=
 if t=[]∨19 < t.length then none
 else match numN t 0 with
  |none=>none
  |some n=>if (m=true∧9223372036854775808 < n)∨(m=false∧9223372036854775807 < n) then none else some (if m then -(n:Int) else n)
def whoO (s:qU):Option Int:=if s.head?=some 45 then whoN true (s.drop 1) else whoN false s
def qj6 (s:qU):Bool:=(whoO s).isSome
def whoV (s:qU):Int:=(whoO s).getD 0
def qJ6:List PV→Tr PV
 |[.str s]=>Tr.chk (qoQ s) (.ret (.tup [.int .i64 (whoV s),.bool (qj6 s)]))
 |_=>.fail
theorem qRk (gl:Gl):SimP Tryz.prog gl 164 fun args=>(qJ6 args).run:=by
 refine SimP.of_tree (G:=ofL []) (L:=qQf) qaj qaf qai Tryz.func164 rfl (by rfl) (by kernel_rfl) (qil (r:=8) (c1:=qJa) (by kernel_rfl) ?_) ?_
 ·intro fr σ e fr' σ' hh;simp only [lps,qQf,if_true] at hh;exact qlP (qNm gl) fr σ e fr' σ' hh
 intro args x h hr;unfold qJ6 at h
 split at h
 ·rename_i s;obtain⟨h1,h2⟩:=Tr.chk_some h;simp at h1;cases h2
  refine Tr.run_as (.ite (sNe s []) (.ite (qaF s 0) (.ite (iEq (sAt s 0) 45) (.ite (qbk (qax 1) true (nNat 1) (nLen s) (nLen s)) (.ite (sEq (sSub s (nNat 1) (nLen s)) []) (.ret (.tup [.int .i64 0,.bool false])) (.ite (iLt 19 (sLen (sSub s (nNat 1) (nLen s)))) (.ret (.tup [.int .i64 0,.bool false])) (.ite (iEq 0 0) (.ite (iEq 0 0) (.ite (iLe (sLen (sSub s (nNat 1) (nLen s))) 19) (.ite (qsW (sSub s (nNat 1) (nLen s))) (.ite (iEq (sAt s 0) 45) (.ite (iLt 9223372036854775808 (numV (sSub s (nNat 1) (nLen s)))) (.ret (.tup [.int .i64 0,.bool false])) (.ite (bNot (iEq (sAt s 0) 45)) (.ite (iLt 9223372036854775807 (numV (sSub s (nNat 1) (nLen s)))) (.ret (.tup [.int .i64 0,.bool false])) (.ite (iEq (sAt s 0) 45) (.ite (iLt 0 (numV (sSub s (nNat 1) (nLen s)))) (.ret (.tup [.int .i64 (iSub .i64 (iSub .i64 0 (qay .i64 (iSub .u64 (numV (sSub s (nNat 1) (nLen s))) 1))) 1),.bool true])) (.ret (.tup [.int .i64 (qay .i64 (numV (sSub s (nNat 1) (nLen s)))),.bool true]))) (.ret (.tup [.int .i64 (qay .i64 (numV (sSub s (nNat 1) (nLen s)))),.bool true])))) (.ite (iEq (sAt s 0) 45) (.ite (iLt 0 (numV (sSub s (nNat 1) (nLen s)))) (.ret (.tup [.int .i64 (iSub .i64 (iSub .i64 0 (qay .i64 (iSub .u64 (numV (sSub s (nNat 1) (nLen s))) 1))) 1),.bool true])) (.ret (.tup [.int .i64 (qay .i64 (numV (sSub s (nNat 1) (nLen s)))),.bool true]))) (.ret (.tup [.int .i64 (qay .i64 (numV (sSub s (nNat 1) (nLen s)))),.bool true]))))) (.ite (bNot (iEq (sAt s 0) 45)) (.ite (iLt 9223372036854775807 (numV (sSub s (nNat
   1) (nLen s)))) (.ret (.tup [.int .i64 0,.bool false])) (.ite (iEq (sAt s 0) 45) (.ite (iLt 0 (numV (sSub s (nNat 1) (nLen s)))) (.ret (.tup [.int .i64 (iSub .i64 (iSub .i64 0 (qay .i64 (iSub .u64 (numV (sSub s (nNat 1) (nLen s))) 1))) 1),.bool true])) (.ret (.tup [.int .i64 (qay .i64 (numV (sSub s (nNat 1) (nLen s)))),.bool true]))) (.ret (.tup [.int .i64 (qay .i64 (numV (sSub s (nNat 1) (nLen s)))),.bool true])))) (.ite (iEq (sAt s 0) 45) (.ite (iLt 0 (numV (sSub s (nNat 1) (nLen s)))) (.ret (.tup [.int .i64 (iSub .i64 (iSub .i64 0 (qay .i64 (iSub .u64 (numV (sSub s (nNat 1) (nLen s))) 1))) 1),.bool true])) (.ret (.tup [.int .i64 (qay .i64 (numV (sSub s (nNat 1) (nLen s)))),.bool true]))) (.ret (.tup [.int .i64 (qay .i64 (numV (sSub s (nNat 1) (nLen s)))),.bool true]))))) (.ret (.tup [.int .i64 0,.bool false]))) .fail) .fail) .fail))) .fail) (.ite (sEq s []) (.ret (.tup [.int .i64 0,.bool false])) (.ite (iLt 19 (sLen s)) (.ret (.tup [.int .i64 0,.bool false])) (.ite (iEq 0 0) (.ite (iEq 0 0) (.ite (iLe (sLen s) 19) (.ite (qsW s) (.ite (iEq (sAt s 0) 45) (.ite (iLt 9223372036854775808 (numV s)) (.ret (.tup [.int .i64 0,.bool false])) (.ite (bNot (iEq (sAt s 0) 45)) (.ite (iLt 9223372036854775807 (numV s)) (.ret (.tup [.int .i64 0,.bool false])) (.ite (iEq (sAt s 0) 45) (.ite (iLt 0 (numV s)) (.ret (.tup [.int .i64 (iSub .i64 (iSub .i64 0 (qay .i64 (iSub .u64 (numV s) 1))) 1),.bool true])) (.ret (.tup [.int .i64 (qay .i64 (numV s)),.bool true]))) (.ret (.tup
   [.int .i64 (qay .i64 (numV s)),.bool true])))) (.ite (iEq (sAt s 0) 45) (.ite (iLt 0 (numV s)) (.ret (.tup [.int .i64 (iSub .i64 (iSub .i64 0 (qay .i64 (iSub .u64 (numV s) 1))) 1),.bool true])) (.ret (.tup [.int .i64 (qay .i64 (numV s)),.bool true]))) (.ret (.tup [.int .i64 (qay .i64 (numV s)),.bool true]))))) (.ite (bNot (iEq (sAt s 0) 45)) (.ite (iLt 9223372036854775807 (numV s)) (.ret (.tup [.int .i64 0,.bool false])) (.ite (iEq (sAt s 0) 45) (.ite (iLt 0 (numV s)) (.ret (.tup [.int .i64 (iSub .i64 (iSub .i64 0 (qay .i64 (iSub .u64 (numV s) 1))) 1),.bool true])) (.ret (.tup [.int .i64 (qay .i64 (numV s)),.bool true]))) (.ret (.tup [.int .i64 (qay .i64 (numV s)),.bool true])))) (.ite (iEq (sAt s 0) 45) (.ite (iLt 0 (numV s)) (.ret (.tup [.int .i64 (iSub .i64 (iSub .i64 0 (qay .i64 (iSub .u64 (numV s) 1))) 1),.bool true])) (.ret (.tup [.int .i64 (qay .i64 (numV s)),.bool true]))) (.ret (.tup [.int .i64 (qay .i64 (numV s)),.bool true]))))) (.ret (.tup [.int .i64 0,.bool false]))) .fail) .fail) .fail)))) .fail) (.ite (sEq s []) (.ret (.tup [.int .i64 0,.bool false])) (.ite (iLt 19 (sLen s)) (.ret (.tup [.int .i64 0,.bool false])) (.ite (iEq 0 0) (.ite (iEq 0 0) (.ite (iLe (sLen s) 19) (.ite (qsW s) (.ite false (.ite (iLt 9223372036854775808 (numV s)) (.ret (.tup [.int .i64 0,.bool false])) (.ite true (.ite (iLt 9223372036854775807 (numV s)) (.ret (.tup [.int .i64 0,.bool false])) (.ite false (.ite (iLt 0 (numV s)) (.ret (.tup [.int .i64 (iSub .i64 (iSub
   .i64 0 (qay .i64 (iSub .u64 (numV s) 1))) 1),.bool true])) (.ret (.tup [.int .i64 (qay .i64 (numV s)),.bool true]))) (.ret (.tup [.int .i64 (qay .i64 (numV s)),.bool true])))) (.ite false (.ite (iLt 0 (numV s)) (.ret (.tup [.int .i64 (iSub .i64 (iSub .i64 0 (qay .i64 (iSub .u64 (numV s) 1))) 1),.bool true])) (.ret (.tup [.int .i64 (qay .i64 (numV s)),.bool true]))) (.ret (.tup [.int .i64 (qay .i64 (numV s)),.bool true]))))) (.ite true (.ite (iLt 9223372036854775807 (numV s)) (.ret (.tup [.int .i64 0,.bool false])) (.ite false (.ite (iLt 0 (numV s)) (.ret (.tup [.int .i64 (iSub .i64 (iSub .i64 0 (qay .i64 (iSub .u64 (numV s) 1))) 1),.bool true])) (.ret (.tup [.int .i64 (qay .i64 (numV s)),.bool true]))) (.ret (.tup [.int .i64 (qay .i64 (numV s)),.bool true])))) (.ite false (.ite (iLt 0 (numV s)) (.ret (.tup [.int .i64 (iSub .i64 (iSub .i64 0 (qay .i64 (iSub .u64 (numV s) 1))) 1),.bool true])) (.ret (.tup [.int .i64 (qay .i64 (numV s)),.bool true]))) (.ret (.tup [.int .i64 (qay .i64 (numV s)),.bool true]))))) (.ret (.tup [.int .i64 0,.bool false]))) .fail) .fail) .fail)))) (by kernel_rfl) ?_
  have hnum:∀ t:qU,t.length≤19→∀ n,numN t 0=some n→n < 10000000000000000000:=by
   intro t ht n hn;have h2:=qO6 t 0 0 n hn (by simp)
   have h3:10 ^ (0+t.length)≤10 ^ 19:=Nat.pow_le_pow_right (by omega) (by omega)
   have:(10:Nat) ^ 19=10000000000000000000:=by decide
   omega
  cases s with
  |nil=>simp [qj6,whoV,whoO,whoN]
  |cons c t =>
   have e1:sSub (c::t) (nNat 1) (nLen (c::t))=t:=by simp
   have i0:qaF (c::t) 0=true:=by simp
   have i1:qbk (qax 1) true (nNat 1) (nLen (c::t)) (nLen (c::t))=true:=by simp
   have n0:sNe (c::t) []=true:=by simp
   have n1:sEq (c::t) []=false:=by simp
   have e0:sAt (c::t) 0=c.toNat:=by simp
   rw [i0,n0,n1,i1,e0,e1];by_cases hc:c=45
   ·have hb:iEq (c.toNat:Int) 45=true:=qkf (k:=45) hc;have hw:whoO (c::t)=whoN true t:=by simp [whoO,hc]
    rw [hb];by_cases ht:t=[]
    ·subst ht;simp [qj6,whoV,hw,whoN]
    ·by_cases hl:19 < t.length
     ·have l1:iLt 19 (sLen t)=true:=by simp;omega
      have l0:sEq t []=false:=by simp [ht]
      rw [l0,l1];simp [qj6,whoV,hw,whoN,ht,hl]
     ·have l1:iLt 19 (sLen t)=false:=by simp;omega
      have l0:sEq t []=false:=by simp [ht]
      have l2:iLe (sLen t) 19=true:=by simp;omega
      rw [l0,l1,l2];cases hn:numN t 0 with
      |none =>
       have k1:qsW t=false:=by simp [qsW,hn]
       rw [k1];simp [qj6,whoV,hw,whoN,ht,hl,hn]
      |some n =>
       have hb:=hnum t (by omega) n hn
       have k1:qsW t=true:=by simp [qsW,hn]
       have k2:numV t=n:=by simp [numV,hn]
       rw [k1,k2];by_cases b1:9223372036854775808 < n
       ·have b2:iLt 9223372036854775808 (n:Int)=true:=by simp;omega
        rw [b2];simp [qj6,whoV,hw,whoN,ht,hl,hn,b1]
       ·have b2:iLt 9223372036854775808 (n:Int)=false:=by simp;omega
        rw [b2];have o1:qj6 (c::t)=true:=by simp [qj6,hw,whoN,ht,hl,hn,b1]
        have o2:whoV (c::t)=-(n:Int):=by simp [whoV,hw,whoN,ht,hl,hn,b1]
        by_cases b3:0 < n
        ·have b4:iLt 0 (n:Int)=true:=by simp;omega
         have w1:iSub .u64 (n:Int) 1=n - 1:=qeF (by omega)
         have w2:qay .i64 ((n:Int) - 1)=n - 1:=qaP (by omega)
         have w3:iSub .i64 0 ((n:Int) - 1)=-(n - 1):=by unfold iSub;rw [qaP (by omega)];omega
         have w4:iSub .i64 (-((n:Int) - 1)) 1=-n:=by unfold iSub;rw [qaP (by omega)];omega
         rw [b4,w1,w2,w3,w4,o1,o2];simp
        ·have b4:iLt 0 (n:Int)=false:=by simp;omega
         have:n=0:=by omega
         subst this;rw [b4,o1,o2];have w5:qay .i64 ((0:Nat):Int)=0:=by decide
         rw [w5];simp
   ·have hb:iEq (c.toNat:Int) 45=false:=qen (k:=45) hc;have hw:whoO (c::t)=whoN false (c::t):=by simp [whoO,hc]
    rw [hb];generalize hs:c::t=s at *;have ht:s≠[]:=by rw [← hs];simp
    by_cases hl:19 < s.length
    ·have l1:iLt 19 (sLen s)=true:=by simp;omega
     rw [l1];simp [qj6,whoV,hw,whoN,ht,hl]
    ·have l1:iLt 19 (sLen s)=false:=by simp;omega
     have l2:iLe (sLen s) 19=true:=by simp;omega
     rw [l1,l2];cases hn:numN s 0 with
     |none =>
      have k1:qsW s=false:=by simp [qsW,hn]
      rw [k1];simp [qj6,whoV,hw,whoN,ht,hl,hn]
     |some n =>
      have hb:=hnum s (by omega) n hn
      have k1:qsW s=true:=by simp [qsW,hn]
      have k2:numV s=n:=by simp [numV,hn]
      rw [k1,k2];by_cases b1:9223372036854775807 < n
      ·have b2:iLt 9223372036854775807 (n:Int)=true:=by simp;omega
       rw [b2];simp [qj6,whoV,hw,whoN,ht,hl,hn,b1]
      ·have b2:iLt 9223372036854775807 (n:Int)=false:=by simp;omega
       have o1:qj6 s=true:=by simp [qj6,hw,whoN,ht,hl,hn,b1]
       have o2:whoV s=(n:Int):=by simp [whoV,hw,whoN,ht,hl,hn,b1]
       have w2:qay .i64 (n:Int)=n:=qaP (by omega)
       rw [b2,w2,o1,o2];simp
 ·cases h
end Go.Pv
set_option maxHeartbeats 4000000
set_option maxRecDepth 200000
set_option linter.unusedSimpArgs false
set_option linter.unusedVariables false
namespace Go.Pv
open Go Go.Proofs
def qP2:GamT:=ofL [(178,.pure qRG),(qom,.hint [(4,0,1,5)])]
theorem qS3 (gl:Gl):qal Tryz.prog gl (gam qP2):=(qag (qTM gl) (qbN (K:=.hint [(4,0,1,5)]) trivial qaf))
def qLv:Code:=qc2 Tryz.f165 5
def qMq:LI:=⟨128,[0,4,5],fun e=>match e with|.ret=>[2,3]|.exit 0=>[0,4,5]|_=>[],true⟩
def qKp:LpsT:=fun r fr σ=>.fail
def qlB (vs:List PV) (σ:Store):Option (PExit×List PV×Store):=lval (lstep tbT qP2 qKp qLv qMq) vs σ
section
variable (s:qU) (r:qR) (n:Int) (k:Nat)
def qy2:Tr LR:=let z1:=qan r 1;let z2:=nEq k (nXs r);let z3:=xApp r [[.int .u8 (sAt s n)]];let z4:=iAdd .i64 n 1;let z5:=qaF s z4;let z6:=iAdd .i64 n 2;let z7:=qcV (sAt s (iAdd .i64 n 3));let z8:=xApp r [[.int .u8 (qay .u8 (iAdd .i64 (iMul .i64 (qcV (sAt s z6)) 16) z7))]];let z9:=xApp r [[.int .u8 (sAt s z4)]];let z10:Tr LR:=.ite z5 (.ite (qas r [[.int .u8 (sAt s z4)]] 1) (.ite (qap [[.int .u8 (sAt s z4)]] 1) (.ite z1 (.ite z2 (.ret (.next [.str s,.sl z9 (.tok 0),.int .i64 z6] (Store.mk [] [(nXs z9,1,5)] []))) .fail) .fail) .fail) .fail) .fail;.ite (iLt n (sLen s)) (.ite (qaF s n) (.ite (iNe (sAt s n) 34) (.ite (qaF s n) (.ite (iNe (sAt s n) 92) (.ite (qaF s n) (.ite (qas r [[.int .u8 (sAt s n)]] 1) (.ite (qap [[.int .u8 (sAt s n)]] 1) (.ite z1 (.ite z2 (.ret (.next [.str s,.sl z3 (.tok 0),.int .i64 z4] (Store.mk [] [(nXs z3,1,5)] []))) .fail) .fail) .fail) .fail) .fail) (.ite (iLe (sLen s) z4) (.ret (.out .ret [.str [],.bool false] (Store.mk [] [(k,1,5)] []))) (.ite z5 (.ite (iEq (sAt s z4) 110) (.ite (qas r [[.int .u8 10]] 1) (.ite (qap [[.int .u8 10]] 1) (.ite z1 (.ite z2 (.ret (.next [.str s,.sl (xApp r [[.int .u8 10]]) (.tok 0),.int .i64 z6] (Store.mk [] [(nXs (xApp r [[.int .u8 10]]),1,5)] []))) .fail) .fail) .fail) .fail) (.ite z5 (.ite (iEq (sAt s z4) 116) (.ite (qas r [[.int .u8 9]] 1) (.ite (qap [[.int .u8 9]] 1) (.ite z1 (.ite z2 (.ret (.next [.str s,.sl (xApp r [[.int .u8 9]]) (.tok 0),.int .i64 z6] (Store.mk [] [(nXs (xApp r [[.int .u8 9]]),1,5)] []))) .fail) .fail) .fail) .fail) (.ite z5 (.ite (iEq (sAt s z4) 120) (.ite (iLt (iAdd .i64 n 3) (sLen s)) (.ite (qaF s z6) (.ite (iLe 0 (qcV (sAt s z6))) (.ite (qaF s (iAdd .i64 n 3)) (.ite (iLe 0 z7) (.ite (qaF s z6) (.ite (qaF s (iAdd .i64 n 3)) (.ite (qas r [[.int .u8 (qay .u8 (iAdd .i64 (iMul .i64 (qcV (sAt s z6)) 16) z7))]] 1) (.ite (qap [[.int .u8 (qay .u8 (iAdd .i64 (iMul .i64 (qcV (sAt s z6)) 16) z7))]] 1) (.ite z1 (.ite z2 (.ret (.next [.str s,.sl z8 (.tok 0),.int .i64 (iAdd .i64 n 4)] (Store.mk [] [(nXs z8,1,5)] []))) .fail) .fail) .fail) .fail) .fail) .fail) z10) .fail) z10) .fail) z10) z10) .fail)) .fail)) .fail))) .fail) (.ret (.out (.exit 0) [.str s,.sl r (.tok 0),.int .i64 n] (Store.mk [] [(k,1,5)] [])))) .fail) (.ret (.out (.exit 0) [.str s,.sl r (.tok 0),.int .i64 n] (Store.mk [] [(k,1,5)] [])))
theorem zaam:lstep tbT qP2 qKp qLv qMq [.str s,.sl r (.tok 0),.int .i64 n] ⟨[],[(k,1,5)],[]⟩=qy2 s r n k:=by kernel_rfl
theorem qVS:qlB [.str s,.sl r (.tok 0),.int .i64 n] ⟨[],[(k,1,5)],[]⟩=lnext qlB (qy2 s r n k).run:=by unfold qlB;rw [qaC,zaam]
def qkM:Option (PExit×List PV×Store):=qlB [.str s,.sl r (.tok 0),.int .i64 n] ⟨[],[(k,1,5)],[]⟩
def qnR:qU:=qYN 0 (qkM s r n k)
def qnv:Bool:=qod 1 (qkM s r n k)
def qFi:Nat:=(gTok (qkM s r n k) 0)
def qrx:Bool:=isW (qkM s r n k) (.ret,[.str (qnR s r n k),.bool (qnv s r n k)],⟨[],[((qFi s r n k),1,5)],[]⟩)
def qnq:qU:=qYN 0 (qkM s r n k)
def qj0:qR:=qpM 1 (qkM s r n k)
def qnj:Int:=qkU 2 (qkM s r n k)
def qEk:Nat:=(gTok (qkM s r n k) 0)
def qv5:Bool:=isW (qkM s r n k) ((.exit 0),[.str (qnq s r n k),.sl (qj0 s r n k) (.tok 0),.int .i64 (qnj s r n k)],⟨[],[((qEk s r n k),1,5)],[]⟩)
end
def qsV:List PV→Store→Tr (PExit×List PV×Store)|[.str s,.sl r (.tok 0),.int .i64 n],⟨[],[(k,1,5)],[]⟩=>.ite (qrx s r n k) (.ret (.ret,[.str (qnR s r n k),.bool (qnv s r n k)],⟨[],[((qFi s r n k),1,5)],[]⟩)) (.ite (qv5 s r n k) (.ret ((.exit 0),[.str (qnq s r n k),.sl (qj0 s r n k) (.tok 0),.int .i64 (qnj s r n k)],⟨[],[((qEk s r n k),1,5)],[]⟩)) (.fail))|_,_=>.fail
theorem qZB:∀ vs σ r,(qsV vs σ).run=some r→qlB vs σ=some r:=by
 intro vs σ r h;unfold qsV at h
 split at h
 ·exact qae h fun h=>qae h fun h=>by cases h
 ·cases h
theorem qPa (gl:Gl):∀ fr σ e fr' σ',(orc qMq qsV fr σ).run=some (e,fr',σ')→LDoes Tryz.prog gl qLv fr σ e fr' σ':=qbw qaj (qS3 gl ) qai (L:=qKp) (qab (by kernel_rfl)) (by kernel_rfl) qZB
def qWO:LpsT:=fun r fr σ=>bif Nat.beq r 5 then orc qMq qsV fr σ else .fail
section
variable (v:qU)
def qQY:Tr PV:=.ite (iLt (sLen v) 2) (.ret (.tup [.str [],.bool false])) (.ite (qaF v 0) (.ite (iNe (sAt v 0) 34) (.ret (.tup [.str [],.bool false])) (.ite (qrx v [] 1 0) (.ret (.tup [.str (qnR v [] 1 0),.bool (qnv v [] 1 0)])) (.ite (qv5 v [] 1 0) (.ite (qc5 (qj0 v [] 1 0)) (.ret (.tup [.str (qbW (qj0 v [] 1 0)),.bool (iEq (qnj v [] 1 0) (iSub .i64 (sLen (qnq v [] 1 0)) 1))])) .fail) .fail))) .fail)
theorem zabj:(tcall tbT qP2 qWO Tryz.f165 [.str v]).flat=qQY v:=by kernel_rfl
def qQ6:Option PV:=(qQY v).run
def qX1:qU:=zabi 0 (qQ6 v)
def qX8:Bool:=qB4 1 (qQ6 v)
def qPl:Bool:=isW (qQ6 v) (.tup [.str (qX1 v),.bool (qX8 v)])
end
def qYx:List PV→Tr PV|[.str v]=>.ite (qPl v) (.ret (.tup [.str (qX1 v),.bool (qX8 v)])) (.fail)|_=>.fail
theorem qR2 (gl:Gl):SimP Tryz.prog gl 165 fun args=>(qYx args).run:=by
 refine SimP.of_flat (G:=qP2) (L:=qWO) qaj (qS3 gl ) qai  Tryz.func165 rfl (by rfl) (by kernel_rfl) (qav (L:=lps qWO) [(5,qLv)] (by kernel_rfl) (List.forall_mem_cons.2 ⟨fun fr σ e fr' σ' h=>qPa gl  fr σ e fr' σ' h,(List.forall_mem_nil _)⟩)) ?_
 intro args x h;unfold qYx at h
 split at h
 ·exact (congrArg Tr.run (zabj _)).trans (qae h fun h=>by cases h)
 ·cases h
end Go.Pv
set_option maxHeartbeats 4000000
set_option maxRecDepth 200000
set_option linter.unusedSimpArgs false
set_option linter.unusedVariables false
namespace Go.Pv
open Go Go.Proofs Go.RowKit
def qA8:qU→Bool
 |h1::h2::_=>decide (0≤qcV h1.toNat)&&decide (0≤qcV h2.toNat)
 |_=>false
def hexW:qU→UInt8
 |h1::h2::_=>UInt8.ofNat (qay .u8 (qcV h1.toNat * 16+qcV h2.toNat)).toNat
 |_=>0
inductive RS where
 |stop
 |bad
 |one (x:UInt8) (k:Nat)
def rS:qU→RS
 |[]=>.stop
 |c::t=>if c=34 then .stop else if c≠92 then .one c 1 else
  match t with
  |[]=>.bad
  |e::u=>if e=110 then .one 10 2 else if e=116 then .one 9 2 else if e=120∧qA8 u=true then .one (hexW u) 4 else .one e 2
theorem rS_k {r:List UInt8} {x:UInt8} {k:Nat} (h:rS r=.one x k):1≤k∧k≤r.length:=by
 unfold rS at h
 split at h
 ·cases h
 ·rename_i c t;split at h
  ·cases h
  ·split at h
   ·cases h;simp
   ·split at h
    ·cases h
    ·rename_i e u;split at h
     ·cases h;simp
     ·split at h
      ·cases h;simp
      ·split at h
       ·rename_i hx;cases h
        have:=hx.2;unfold qA8 at this;split at this
        ·simp
        ·cases this
       ·cases h;simp
def rP (r:qU):Option (List UInt8×List UInt8):=match h:rS r with
 |.stop=>some ([],r)
 |.bad=>none
 |.one x k=>(rP (r.drop k)).map fun p=>(x::p.1,p.2)
 termination_by r.length
 decreasing_by have:=rS_k h;simp;omega
theorem qFp {r:List UInt8} (h:rS r=.stop):rP r=some ([],r):=by rw [rP.eq_def];split<;>simp_all
theorem zaae {r:List UInt8} (h:rS r=.bad):rP r=none:=by rw [rP.eq_def];split<;>simp_all
theorem qVw {r:List UInt8} {x:UInt8} {k:Nat} (h:rS r=.one x k):rP r=(rP (r.drop k)).map fun p=>(x::p.1,p.2):=by rw [rP.eq_def];split<;>simp_all
theorem qw6 {s r:List UInt8} {i:Nat} {c:UInt8} (h:s.drop i=c::r):s[i]?=some c∧s.drop (i+1)=r∧i+1+r.length=s.length:=by
 have h1:(s.drop i)[0]?=some c:=by rw [h];rfl
 have h2:s.drop (i+1)=r:=by
  have:(s.drop i).drop 1=r:=by rw [h];rfl
  simpa [Nat.add_comm] using this
 have h3:=congrArg List.length h;simp at h1 h3;exact⟨h1,h2,by omega⟩
theorem qMA (c:UInt8):-1≤qcV c.toNat∧qcV c.toNat≤15:=by
 have h:=c.toNat_lt;have key:∀ n:Fin 256,-1≤qcV (n.val:Int)∧qcV (n.val:Int)≤15:=by decide +kernel
 exact key ⟨c.toNat,h⟩
theorem qOU (n:Int):0≤qay .u8 n∧qay .u8 n < 256:=by
 simp [qay,IntKind.wrap,IntKind.signed,IntKind.bits];omega
theorem qpW {c k:UInt8} (h:c≠k):iNe (c.toNat:Int) (k.toNat:Int)=true:=by
 simp only [zaaw,decide_eq_true_eq];intro e;exact h (UInt8.toNat_inj.1 (by omega))
theorem qpV {c k:UInt8} (h:c=k):iNe (c.toNat:Int) (k.toNat:Int)=false:=by
 subst h;simp
theorem qTp (b:qU) (x:UInt8) {n:Int} (h:(x.toNat:Int)=n):xApp (qad b) [[.int .u8 n]]=qad (b++[x]):=by
 subst h;rw [qlU b (by have:=x.toNat_lt;omega)]
 simp
theorem qXJ {h1 h2:UInt8} {u:List UInt8}:((hexW (h1::h2::u)).toNat:Int)=qay .u8 (iAdd .i64 (iMul .i64 (qcV h1.toNat) 16) (qcV h2.toNat)):=by
 have r1:=qMA h1;have r2:=qMA h2;have e1:iMul .i64 (qcV h1.toNat) 16=qcV h1.toNat * 16:=qaP (by omega)
 have e2:iAdd .i64 (qcV h1.toNat * 16) (qcV h2.toNat)=qcV h1.toNat * 16+qcV h2.toNat:=qaP (by omega)
 rw [e1,e2];have:=qOU (qcV h1.toNat * 16+qcV h2.toNat);simp [hexW];omega
theorem qGv {s:List UInt8} (hs:s.length≤140737488355328) (b:qU) (i:Int) (r:qU) (hi:1≤i) (hr:s.drop i.toNat=r) (hil:i≤s.length) (hb:b.length+r.length≤140737488355328) :
  lnext qlB (qy2 s (qad b) i b.length).run=match rS r with
   |.stop=>some (.exit 0,[.str s,.sl (qad b) (.tok 0),.int .i64 i],⟨[],[(b.length,1,5)],[]⟩)
   |.bad=>some (.ret,[.str [],.bool false],⟨[],[(b.length,1,5)],[]⟩)
   |.one x k=>qlB [.str s,.sl (qad (b++[x])) (.tok 0),.int .i64 (i+k)] ⟨[],[((b++[x]).length,1,5)],[]⟩:=by
 cases r with
 |nil =>
  have hl:=congrArg List.length hr;simp at hl;have lt:iLt i (sLen s)=false:=by simp;omega
  unfold qy2
  try dsimp only
  simp only [lt,Tr.run_ite,Bool.false_eq_true,if_false];simp [rS]
 |cons c t =>
  obtain⟨hv,hd1,hl1⟩:=qw6 hr;have hb1:b.length+(t.length+1)≤140737488355328:=hb;have a0:sAt s i=c.toNat:=qf3 hv;have k0:qaF s i=true:=qdS (by omega) hv
  have n1:(i+1).toNat=i.toNat+1:=by omega
  have n2:(i+2).toNat=i.toNat+1+1:=by omega
  have n3:(i+3).toNat=i.toNat+1+1+1:=by omega
  have w1:iAdd .i64 i 1=i+1:=qaP (by omega)
  have w2:iAdd .i64 i 2=i+2:=qaP (by omega)
  have w3:iAdd .i64 i 3=i+3:=qaP (by omega)
  have w4:iAdd .i64 i 4=i+4:=qaP (by omega)
  have lt:iLt i (sLen s)=true:=by simp;omega
  have gr:∀ n,qas (qad b) [[.int .u8 n]] 1=true:=fun n=>by simp;omega
  have nw:∀ n,qap [[.int .u8 n]] 1=true:=fun n=>by simp [one]
  have sz:qan (qad b) 1=true:=qcB _;have ne:nEq b.length (nXs (qad b))=true:=by simp
  have put:∀ (x:UInt8) (n:Int) (k:Nat),(x.toNat:Int)=n→lnext qlB (some (LR.next [.str s,.sl (xApp (qad b) [[.int .u8 n]]) (.tok 0),.int .i64 (i+k)] ⟨[],[(nXs (xApp (qad b) [[.int .u8 n]]),1,5)],[]⟩))=qlB [.str s,.sl (qad (b++[x])) (.tok 0),.int .i64 (i+k)] ⟨[],[((b++[x]).length,1,5)],[]⟩:=fun x n k h=>by
   rw [qTp b x h,qdL];rfl
  unfold qy2
  try dsimp only
  simp only [w1,w2,w3,w4,a0,lt,k0,gr,nw,sz,ne,Tr.run_ite,Tr.run_ret,Tr.run_fail,if_true];by_cases c34:c=34
  ·have e:iNe (c.toNat:Int) 34=false:=qpV (k:=34) c34;simp only [e,Bool.false_eq_true,if_false];simp [rS,c34]
  ·have e:iNe (c.toNat:Int) 34=true:=qpW (k:=34) c34;simp only [e,if_true];by_cases c92:c=92
   ·have e:iNe (c.toNat:Int) 92=false:=qpV (k:=92) c92;simp only [e,Bool.false_eq_true,if_false];cases t with
    |nil =>
     have le:iLe (sLen s) (i+1)=true:=by simp at hl1 ⊢;omega
     simp only [le,if_true];simp [rS,c92]
    |cons e' u =>
     obtain⟨hv1,hd2,hl2⟩:=qw6 hd1;have a1:sAt s (i+1)=e'.toNat:=qf3 (by rw [n1];exact hv1)
     have k1:qaF s (i+1)=true:=qdS (by omega) (by rw [n1];exact hv1)
     have le:iLe (sLen s) (i+1)=false:=by simp;omega
     simp only [a1,k1,le,Bool.false_eq_true,if_true,if_false];by_cases e110:e'=110
     ·have f:iEq (e'.toNat:Int) 110=true:=qkf (k:=110) e110;simp only [f,if_true,rS,c92,e110];exact put 10 10 2 rfl
     ·have f:iEq (e'.toNat:Int) 110=false:=qen (k:=110) e110;simp only [f,Bool.false_eq_true,if_false];by_cases e116:e'=116
      ·have f:iEq (e'.toNat:Int) 116=true:=qkf (k:=116) e116;simp only [f,if_true,rS,c92,e110,e116];exact put 9 9 2 rfl
      ·have f:iEq (e'.toNat:Int) 116=false:=qen (k:=116) e116;simp only [f,Bool.false_eq_true,if_false];have two:∀ h:¬ (e'=120∧qA8 u=true),rS (c::e'::u)=.one e' 2:=fun h=>by simp [rS,c92,e110,e116];intro h1;exact Bool.eq_false_iff.2 fun h2=>h ⟨h1,h2⟩
       by_cases e120:e'=120
       ·have f:iEq (e'.toNat:Int) 120=true:=qkf (k:=120) e120;simp only [f,if_true];cases u with
        |nil =>
         have l3:iLt (i+3) (sLen s)=false:=by simp at hl2 ⊢;omega
         rw [two (by simp [qA8])]
         simp only [l3,Bool.false_eq_true,if_false];exact put e' _ 2 rfl
        |cons h1 u =>
         obtain⟨hv2,hd3,hl3⟩:=qw6 hd2;cases u with
         |nil =>
          have l3:iLt (i+3) (sLen s)=false:=by simp at hl3 ⊢;omega
          rw [two (by simp [qA8])]
          simp only [l3,Bool.false_eq_true,if_false];exact put e' _ 2 rfl
         |cons h2 u =>
          obtain⟨hv3,hd4,hl4⟩:=qw6 hd3;have a2:sAt s (i+2)=h1.toNat:=qf3 (by rw [n2];exact hv2)
          have k2:qaF s (i+2)=true:=qdS (by omega) (by rw [n2];exact hv2)
          have a3:sAt s (i+3)=h2.toNat:=qf3 (by rw [n3];exact hv3)
          have k3:qaF s (i+3)=true:=qdS (by omega) (by rw [n3];exact hv3)
          have l3:iLt (i+3) (sLen s)=true:=by simp;omega
          simp only [a2,k2,a3,k3,l3,if_true];by_cases g1:0≤qcV h1.toNat
          ·have f1:iLe 0 (qcV h1.toNat)=true:=by simpa using g1
           simp only [f1,if_true];by_cases g2:0≤qcV h2.toNat
           ·have f2:iLe 0 (qcV h2.toNat)=true:=by simpa using g2
            have e1:rS (c::e'::h1::h2::u)=.one (hexW (h1::h2::u)) 4:=by simp [rS,c92,e110,e116,e120,qA8,g1,g2]
            simp only [f2,if_true,e1];exact put (hexW (h1::h2::u)) _ 4 qXJ
           ·have f2:iLe 0 (qcV h2.toNat)=false:=by simpa using g2
            rw [two (by simp [qA8,g2])]
            simp only [f2,Bool.false_eq_true,if_false];exact put e' _ 2 rfl
          ·have f1:iLe 0 (qcV h1.toNat)=false:=by simpa using g1
           rw [two (by simp [qA8,g1])]
           simp only [f1,Bool.false_eq_true,if_false];exact put e' _ 2 rfl
       ·have f:iEq (e'.toNat:Int) 120=false:=qen (k:=120) e120;rw [two (fun h=>e120 h.1)]
        simp only [f,Bool.false_eq_true,if_false];exact put e' _ 2 rfl
   ·have e:iNe (c.toNat:Int) 92=true:=qpW (k:=92) c92;have e1:rS (c::t)=.one c 1:=by simp [rS,c34,c92]
    simp only [e,if_true,e1];exact put c _ 1 rfl
theorem qUB {s:List UInt8} (hs:s.length≤140737488355328):∀ (k:Nat) (b:qU) (i:Int) (r:qU),r.length≤k→1≤i→s.drop i.toNat=r→i≤s.length→b.length+r.length≤140737488355328 →
  (∀ p,rP r=some p→qlB [.str s,.sl (qad b) (.tok 0),.int .i64 i] ⟨[],[(b.length,1,5)],[]⟩=some (.exit 0,[.str s,.sl (qad (b++p.1)) (.tok 0),.int .i64 ((s.length:Int) - p.2.length)],⟨[],[((b++p.1).length,1,5)],[]⟩)) ∧
  (rP r=none→∃ m,qlB [.str s,.sl (qad b) (.tok 0),.int .i64 i] ⟨[],[(b.length,1,5)],[]⟩=some (.ret,[.str [],.bool false],⟨[],[(m,1,5)],[]⟩)):=by
 intro k
 induction k with
 |zero =>
  intro b i r hk hi hr hil hb;have:r=[]:=by apply List.eq_nil_of_length_eq_zero;omega
  subst this;have hl:=congrArg List.length hr;simp at hl;rw [qVS,qGv hs b i [] hi hr hil hb];have e:i=s.length:=by omega
  refine⟨fun p hp=>?_,fun hp=>by rw [qFp rfl] at hp;cases hp⟩
  rw [qFp rfl] at hp;cases hp
  simp [rS,e]
 |succ k ih =>
  intro b i r hk hi hr hil hb;have hl:=congrArg List.length hr;simp at hl;rw [qVS,qGv hs b i r hi hr hil hb];cases hS:rS r with
  |stop =>
   rw [qFp hS];refine⟨fun p hp=>?_,fun hp=>by cases hp⟩
   cases hp
   have e:i=(s.length:Int) - r.length:=by omega
   simp [e]
  |bad =>
   rw [zaae hS];exact⟨fun p hp=>by (cases hp),fun _=>⟨_,rfl⟩⟩
  |one x j =>
   have hj:=rS_k hS;rw [qVw hS];obtain⟨h1,h2⟩:=ih (b++[x]) (i+j) (r.drop j) (by simp;omega) (by omega) (by rw [← hr,List.drop_drop];congr 1;omega) (by omega) (by simp;omega)
   refine⟨fun p hp=>?_,fun hp=>?_⟩
   ·obtain⟨q,hq,rfl⟩:=Option.map_eq_some_iff.1 hp;have:=h1 q hq;simpa using this
   ·exact h2 (by simpa using hp)
def rsO (s:qU):qU×Bool:=if s.length < 2∨s.head?≠some 34 then ([],false) else match rP (s.drop 1) with
 |none=>([],false)
 |some p=>(p.1,decide (p.2.length=1))
def rsV (s:qU):qU:=(rsO s).1
def okRs (s:qU):Bool:=(rsO s).2
def qyN:List PV→Tr PV
 |[.str s]=>Tr.chk (qoQ s) (.ret (.tup [.str (rsV s),.bool (okRs s)]))
 |_=>.fail
theorem qX2 {s:List UInt8} (hs:s.length≤140737488355328):qQ6 s=some (.tup [.str (rsV s),.bool (okRs s)]):=by
 unfold qQ6 qQY
 try dsimp only
 by_cases hs2:s.length < 2
 ·have l1:iLt (sLen s) 2=true:=by simp;omega
  simp only [l1,Tr.run_ite,if_true];simp [rsV,okRs,rsO,hs2]
 ·have l1:iLt (sLen s) 2=false:=by simp;omega
  have l2:qaF s 0=true:=by simp;omega
  have l4:iSub .i64 (sLen s) 1=s.length - 1:=by unfold iSub;rw [qjb,qaP (by omega)]
  obtain⟨c,hc⟩:=qfc (l:=s) (i:=0) (by omega)
  have l5:sAt s 0=c.toNat:=qf3 (i:=0) hc;have hh:s.head?=some c:=by rw [List.head?_eq_getElem?];exact hc
  by_cases c34:c=34
  ·have l6:iNe (c.toNat:Int) 34=false:=qpV (k:=34) c34;have e1:rsO s=match rP (s.drop 1) with|none=>([],false)|some p=>(p.1,decide (p.2.length=1)):=by
    unfold rsO;rw [if_neg];rintro (h|h)
    ·exact hs2 h
    ·exact h (by rw [hh,c34])
   obtain⟨h1,h2⟩:=qUB hs s.length [] 1 (s.drop 1) (by simp) (by omega) rfl (by omega) (by simp;omega)
   cases hp:rP (s.drop 1) with
   |none =>
    obtain⟨m,hm⟩:=h2 hp;rw [hp] at e1;have hW:qkM s [] 1 0=some (.ret,[.str [],.bool false],⟨[],[(m,1,5)],[]⟩):=hm;have n0:qrx s [] 1 0=true:=by simp [qrx,qnR,qnv,qFi,hW]
    have r1:qnR s [] 1 0=[]:=by simp [qnR,hW]
    have r2:qnv s [] 1 0=false:=by simp [qnv,hW]
    simp only [l1,l2,l5,l6,n0,r1,r2,Tr.run_ite,Bool.false_eq_true,if_true,if_false];simp [rsV,okRs,e1]
   |some p =>
    have hW:qkM s [] 1 0=some (.exit 0,[.str s,.sl (qad p.1) (.tok 0),.int .i64 ((s.length:Int) - p.2.length)],⟨[],[(p.1.length,1,5)],[]⟩):=by
     have:=h1 p hp;unfold qkM;simpa using this
    rw [hp] at e1;have k4:iEq ((s.length:Int) - p.2.length) ((s.length:Int) - 1)=decide (p.2.length=1):=by
     simp only [qBP]
     congr 1
     apply propext;constructor<;>intro h<;>omega
    have n0:qrx s [] 1 0=false:=by
     rw [Bool.eq_false_iff];intro h;have:=qVV h;rw [hW] at this;simp at this
    have n1:qv5 s [] 1 0=true:=by simp [qv5,qnq,qj0,qnj,qEk,hW]
    have r1:qj0 s [] 1 0=qad p.1:=by simp [qj0,hW]
    have r2:qnq s [] 1 0=s:=by simp [qnq,hW]
    have r3:qnj s [] 1 0=(s.length:Int) - p.2.length:=by simp [qnj,hW]
    simp only [l1,l2,l5,l6,n0,n1,r1,r2,r3,l4,k4,Tr.run_ite,Bool.false_eq_true,if_true,if_false];simp [rsV,okRs,e1]
  ·have l6:iNe (c.toNat:Int) 34=true:=qpW (k:=34) c34;simp only [l1,l2,l5,l6,Tr.run_ite,Bool.false_eq_true,if_true,if_false];simp [rsV,okRs,rsO,hh,c34]
theorem qKz (gl:Gl):SimP Tryz.prog gl 165 fun args=>(qyN args).run :=
 ⟨(qR2 gl).ent,fun args x h=>(qR2 gl).run args x (by
  unfold qyN at h
  split at h
  ·rename_i s;obtain⟨h1,h2⟩:=Tr.chk_some h;cases h2
   have hl:s.length≤140737488355328:=by simpa using h1
   have hW:=qX2 hl;simp [qYx,qPl,qX1,qX8,hW]
  ·cases h)⟩
end Go.Pv
set_option maxHeartbeats 4000000
set_option maxRecDepth 200000
set_option linter.unusedSimpArgs false
set_option linter.unusedVariables false
namespace Go.Pv
open Go Go.Proofs Go.RowKit
theorem qLF (c:UInt8):∀ (l:qU) (a:Nat),numN (l++[c]) a=(numN l a).bind fun n=>if 48≤c.toNat∧c.toNat≤57 then some (n * 10+(c.toNat - 48)) else none
 |[],a=>by simp [numN]
 |d::l,a=>by
  simp only [List.cons_append,numN];split
  ·exact qLF c l _
  ·rfl
theorem qiO {u:Nat} (h:¬ u < 10):qfX u=qfX (u / 10)++[UInt8.ofNat (48+u % 10)]:=by
 conv=>lhs;unfold qfX
 rw [dif_neg h]
theorem qf6 {u:Nat} (h:u < 10):qfX u=[UInt8.ofNat (48+u)]:=by
 unfold qfX;rw [dif_pos h]
theorem qtD {d:Nat} (h:d < 10):(UInt8.ofNat (48+d)).toNat=48+d:=by
 simp;omega
theorem qza:∀ (k u:Nat),u < k→numN (qfX u) 0=some u
 |0,u,h=>by omega
 |k+1,u,h=>by
  by_cases hu:u < 10
  ·rw [qf6 hu];simp only [numN,qtD hu];rw [if_pos (by omega)]
   simp
  ·have hd:u % 10 < 10:=Nat.mod_lt _ (by omega)
   rw [qiO hu,qLF,qza k (u / 10) (by omega)]
   simp only [Option.bind_some,qtD hd];rw [if_pos (by omega)]
   congr 1
   omega
theorem qIl:∀ (k u:Nat),u < k→∀ c∈qfX u,48≤c.toNat∧c.toNat≤57
 |0,u,h=>by omega
 |k+1,u,h=>by
  intro c hc;by_cases hu:u < 10
  ·rw [qf6 hu] at hc;simp only [List.mem_singleton] at hc;subst hc;have:=qtD hu;omega
  ·have hd:u % 10 < 10:=Nat.mod_lt _ (by omega)
   rw [qiO hu] at hc;rcases List.mem_append.1 hc with hc|hc
   ·exact qIl k (u / 10) (by omega) c hc
   ·simp only [List.mem_singleton] at hc;subst hc;have:=qtD hd;omega
theorem qx5 (u:Nat):qfX u≠[]:=by
 by_cases hu:u < 10
 ·rw [qf6 hu];simp
 ·rw [qiO hu];simp
theorem qtG (u:Nat):∃ c t,qfX u=c::t∧48≤c.toNat∧c.toNat≤57:=by
 cases h:qfX u with
 |nil=>exact absurd h (qx5 u)
 |cons c t =>
  have:=qIl (u+1) u (by omega) c (by rw [h];simp)
  exact⟨c,t,rfl,this⟩
theorem qgx:∀ (k u:Nat),u < k→Lib.decDigits u=qfX u
 |0,u,h=>by omega
 |k+1,u,h=>by
  by_cases hu:u < 10
  ·rw [qf6 hu,Lib.decDigits_one hu]
  ·rw [qiO hu,Lib.decDigits,dif_neg hu,qgx k (u / 10) (by omega)]
theorem qTq (n:Int):qOM n=intV n:=by
 unfold qOM Lib.itoa intV qkR;by_cases h:n < 0
 ·rw [if_pos h,if_pos h,qgx (n.natAbs+1) _ (by omega)]
  congr 2
  omega
 ·rw [if_neg h,if_neg h,qgx (n.toNat+1) _ (by omega)]
theorem qV3 (M:Nat) (c:UInt8):∀ (l:qU) (a n:Nat),Lib.parseUintM M a l=.ok n→Lib.parseUintM M a (l++[c])=Lib.parseUintM M n [c]
 |[],a,n,h=>by simp [Lib.parseUintM] at h;subst h;rfl
 |d::l,a,n,h=>by
  simp only [List.cons_append,Lib.parseUintM] at h ⊢;split at h
  ·split at h
   ·cases h
   ·split at h
    ·cases h
    ·rename_i h1 h2 h3;rw [if_pos h1,if_neg h2,if_neg h3];exact qV3 M c l _ n h
  ·cases h
theorem qIH:∀ (k u:Nat),u < k→u≤18446744073709551615→Lib.parseUintM 18446744073709551615 0 (qfX u)=.ok u
 |0,u,h,_=>by omega
 |k+1,u,h,hm=>by
  by_cases hu:u < 10
  ·rw [qf6 hu];simp only [Lib.parseUintM,qtD hu];rw [if_pos (by omega),if_neg (by omega),if_neg (by omega)]
   congr 1
   omega
  ·have hd:u % 10 < 10:=Nat.mod_lt _ (by omega)
   rw [qiO hu,qV3 _ _ _ _ (u / 10) (qIH k (u / 10) (by omega) (by omega))]
   simp only [Lib.parseUintM,qtD hd];rw [if_pos (by omega),if_neg (by omega),if_neg (by omega)]
   congr 1
   omega
theorem pInt {n:Int} (h:-9223372036854775808≤n∧n≤9223372036854775807):Lib.parseIntB 64 (intV n)=.ok n:=by
 unfold intV qkR;by_cases hn:n < 0
 ·rw [if_pos hn];have hp:=qIH ((-n).toNat+1) (-n).toNat (by omega) (by omega)
  have hne:=qx5 (-n).toNat;have e:(2 ^ 64 - 1:Nat)=18446744073709551615:=by decide
  have e2:(2 ^ (64 - 1):Nat)=9223372036854775808:=by decide
  have e3:(45:UInt8).toNat=45:=rfl;simp only [Lib.parseIntB,Lib.parseUintB,e3,e,e2,or_true,if_true,if_neg hne,hp];rw [if_neg (by simp),if_neg (by simp;omega)]
  congr 1
  simp;omega
 ·rw [if_neg hn];have hp:=qIH (n.toNat+1) n.toNat (by omega) (by omega)
  obtain⟨c,t,ht,hc1,hc2⟩:=qtG n.toNat;have e:(2 ^ 64 - 1:Nat)=18446744073709551615:=by decide
  have e2:(2 ^ (64 - 1):Nat)=9223372036854775808:=by decide
  rw [ht] at hp ⊢;simp only [Lib.parseIntB,Lib.parseUintB];rw [if_neg (by omega:¬ (c.toNat=43∨c.toNat=45)),if_neg (by simp),e,hp]
  simp only [e2];rw [if_neg (by omega),if_neg (by omega),if_neg (by omega)]
  congr 1
  omega
theorem qWD {n:Int} (h:-9223372036854775808≤n∧n≤9223372036854775807):pOk (intV n)=true:=by unfold pOk;rw [pInt h]
theorem qTf {n:Int} (h:-9223372036854775808≤n∧n≤9223372036854775807):pVal (intV n)=n:=by unfold pVal;rw [pInt h]
theorem qWE {n:Int} (h:-9223372036854775808≤n∧n≤9223372036854775807):whoO (intV n)=some n:=by
 unfold intV qkR whoO;by_cases hn:n < 0
 ·rw [if_pos hn];have hl:=qrh 18 (-n).toNat (by omega)
  have hp:=qza ((-n).toNat+1) (-n).toNat (by omega)
  have hne:=qx5 (-n).toNat;simp only [List.head?_cons,if_true,List.drop_succ_cons,List.drop_zero,whoN];rw [if_neg (by rintro (h|h);exact hne h;omega),hp]
  simp only [];rw [if_neg (by simp;omega)]
  congr 1
  simp;omega
 ·rw [if_neg hn];have hl:=qrh 18 n.toNat (by omega)
  have hp:=qza (n.toNat+1) n.toNat (by omega)
  have hne:=qx5 n.toNat;obtain⟨c,t,ht,hc1,hc2⟩:=qtG n.toNat;have hh:¬ (qfX n.toNat).head?=some 45:=by
   rw [ht];simp;intro h;subst h
   revert hc1
   decide
  rw [if_neg hh];unfold whoN;rw [if_neg (by rintro (h|h);exact hne h;omega),hp]
  simp only [];rw [if_neg (by simp;omega)]
  congr 1
  simp;omega
theorem qYc (n:Int):qdP (intV n) [34]=false:=by
 unfold intV qkR qdP;by_cases hn:n < 0
 ·rw [if_pos hn];simp
 ·rw [if_neg hn];obtain⟨c,t,ht,hc1,hc2⟩:=qtG n.toNat;rw [ht];simp;intro h;subst h
  revert hc1
  decide
end Go.Pv
set_option maxHeartbeats 4000000
set_option maxRecDepth 200000
set_option linter.unusedSimpArgs false
set_option linter.unusedVariables false
namespace Go.Pv
open Go Go.Proofs Go.RowKit
def hx1 (c:UInt8):UInt8:=UInt8.ofNat (sAt hexL (iShr .u8 c.toNat 4)).toNat
def hx2 (c:UInt8):UInt8:=UInt8.ofNat (sAt hexL (iAnd .u8 c.toNat 15)).toNat
theorem qRr (c:UInt8):oneV c.toNat=if c=34∨c=92 then [92,c] else if c=10 then [92,110] else if c=9 then [92,116] else if 32≤c.toNat∧c.toNat≤126 then [c] else [92,120,hx1 c,hx2 c]:=by
 have e:∀ k:UInt8,((c.toNat:Int)=(k.toNat:Int))=(c=k):=fun k=>propext ⟨fun h=>UInt8.toNat_inj.1 (by omega),fun h=>by rw [h]⟩
 have e34:=e 34;have e92:=e 92;have e10:=e 10;have e9:=e 9;unfold oneV hx1 hx2;have r:UInt8.ofNat (c.toNat:Int).toNat=c:=by simp
 rw [r];have p1:((c.toNat:Int)=34)=(c=34):=e34;have p2:((c.toNat:Int)=92)=(c=92):=e92;have p3:((c.toNat:Int)=10)=(c=10):=e10;have p4:((c.toNat:Int)=9)=(c=9):=e9;have p5:((32:Int)≤c.toNat∧(c.toNat:Int)≤126)=(32≤c.toNat∧c.toNat≤126):=propext ⟨fun h=>⟨by omega,by omega⟩,fun h=>⟨by omega,by omega⟩⟩
 simp only [p1,p2,p3,p4,p5]
theorem zaaT:∀ n:Fin 256,digV (hx1 (UInt8.ofNat n.val)).toNat < 16∧digV (hx2 (UInt8.ofNat n.val)).toNat < 16 ∧
 (UInt8.ofNat (iOr .u8 (iShl .u8 (digV (hx1 (UInt8.ofNat n.val)).toNat) 4) (digV (hx2 (UInt8.ofNat n.val)).toNat)).toNat).toNat=n.val ∧
 0≤qcV (hx1 (UInt8.ofNat n.val)).toNat∧0≤qcV (hx2 (UInt8.ofNat n.val)).toNat∧(hexW [hx1 (UInt8.ofNat n.val),hx2 (UInt8.ofNat n.val)]).toNat=n.val:=by decide +kernel
theorem qVL (c:UInt8):digV (hx1 c).toNat < 16∧digV (hx2 c).toNat < 16∧UInt8.ofNat (iOr .u8 (iShl .u8 (digV (hx1 c).toNat) 4) (digV (hx2 c).toNat)).toNat=c ∧
  0≤qcV (hx1 c).toNat∧0≤qcV (hx2 c).toNat∧hexW [hx1 c,hx2 c]=c:=by
 have h:=zaaT ⟨c.toNat,c.toNat_lt⟩;simp only [UInt8.ofNat_toNat] at h
 exact⟨h.1,h.2.1,UInt8.toNat_inj.1 h.2.2.1,h.2.2.2.1,h.2.2.2.2.1,UInt8.toNat_inj.1 h.2.2.2.2.2⟩
theorem qlo (c:UInt8) (t:qU):decP (c::t)=if c=92 then (if escN t=0 then none else (decP (t.drop (escN t).toNat)).map (UInt8.ofNat (escB t).toNat::·)) else (decP t).map (c::·):=by rw [decP]
theorem qW3 (c:UInt8) (r:qU):decP (oneV c.toNat++r)=(decP r).map (c::·):=by
 rw [qRr];by_cases h1:c=34∨c=92
 ·rw [if_pos h1];have a:sAt (c::r) 0=c.toNat:=by simp
  have q:(c.toNat:Int)=34∨(c.toNat:Int)=92:=by rcases h1 with rfl|rfl<;>decide
  have n1:escN (c::r)=1:=by unfold escN;rw [if_neg (by simp),a,if_pos q]
  have n2:escB (c::r)=c.toNat:=by unfold escB;rw [if_neg (by simp),a,if_pos q]
  simp only [List.cons_append,List.nil_append];rw [qlo,if_pos rfl,n1,n2];simp
 ·rw [if_neg h1];by_cases h2:c=10
  ·subst h2;have a:sAt (110::r) 0=110:=by simp
   have n1:escN (110::r)=1:=by unfold escN;rw [if_neg (by simp),a];simp
   have n2:escB (110::r)=10:=by unfold escB;rw [if_neg (by simp),a];simp
   simp only [if_true,List.cons_append,List.nil_append];rw [qlo,if_pos rfl,n1,n2];simp
  ·rw [if_neg h2];by_cases h3:c=9
   ·subst h3;have a:sAt (116::r) 0=116:=by simp
    have n1:escN (116::r)=1:=by unfold escN;rw [if_neg (by simp),a];simp
    have n2:escB (116::r)=9:=by unfold escB;rw [if_neg (by simp),a];simp
    simp only [if_true,List.cons_append,List.nil_append];rw [qlo,if_pos rfl,n1,n2];simp
   ·rw [if_neg h3];by_cases h4:32≤c.toNat∧c.toNat≤126
    ·rw [if_pos h4];simp only [List.cons_append,List.nil_append];rw [qlo,if_neg (fun h=>h1 (.inr h))]
    ·rw [if_neg h4];obtain⟨g1,g2,g3,_⟩:=qVL c;have a0:sAt (120::hx1 c::hx2 c::r) 0=120:=by simp
     have a1:sAt (120::hx1 c::hx2 c::r) 1=(hx1 c).toNat:=by simp
     have a2:sAt (120::hx1 c::hx2 c::r) 2=(hx2 c).toNat:=by simp
     have q:(120:Int)=120∧3≤(120::hx1 c::hx2 c::r).length∧digV (hx1 c).toNat < 16∧digV (hx2 c).toNat < 16:=⟨rfl,by simp,g1,g2⟩
     have n1:escN (120::hx1 c::hx2 c::r)=3:=by unfold escN;rw [if_neg (by simp),a0,a1,a2,if_neg (by omega),if_neg (by omega),if_neg (by omega),if_pos q]
     have n2:escB (120::hx1 c::hx2 c::r)=iOr .u8 (iShl .u8 (digV (hx1 c).toNat) 4) (digV (hx2 c).toNat):=by unfold escB;rw [if_neg (by simp),a0,a1,a2,if_neg (by omega),if_neg (by omega),if_neg (by omega),if_pos q]
     simp only [List.cons_append,List.nil_append];rw [qlo,if_pos rfl,n1,n2,g3];simp
theorem qGR (c:UInt8) (b:qU):symB (c::b)=oneV c.toNat++symB b:=by simp [symB]
theorem qSs:∀ b:qU,decP (symB b)=some b
 |[]=>by simp [symB,decP]
 |c::b=>by rw [qGR,qW3,qSs b];rfl
theorem qXi (c:UInt8) (r:qU):rS (oneV c.toNat++r)=.one c (oneV c.toNat).length:=by
 rw [qRr];by_cases h1:c=34∨c=92
 ·rw [if_pos h1];rcases h1 with rfl|rfl<;>simp [rS]
 ·rw [if_neg h1];by_cases h2:c=10
  ·subst h2;simp [rS]
  ·rw [if_neg h2];by_cases h3:c=9
   ·subst h3;simp [rS]
   ·rw [if_neg h3];have h34:¬ c=34:=fun h=>h1 (.inl h)
    have h92:¬ c=92:=fun h=>h1 (.inr h)
    by_cases h4:32≤c.toNat∧c.toNat≤126
    ·rw [if_pos h4];simp [rS,h34,h92]
    ·rw [if_neg h4];obtain⟨_,_,_,g4,g5,g6⟩:=qVL c;have g7:hexW (hx1 c::hx2 c::r)=c:=g6;have g8:qA8 (hx1 c::hx2 c::r)=true:=by simp [qA8,g4,g5]
     simp [rS,g7,g8]
theorem qVY:∀ b:qU,rP (symB b++[34])=some (b,[34])
 |[]=>by rw [qFp]<;>simp [symB,rS]
 |c::b=>by
  have e:symB (c::b)++[34]=oneV c.toNat++(symB b++[34]):=by rw [qGR,List.append_assoc]
  rw [e,qVw (qXi c _),List.drop_left,qVY b];rfl
theorem zaan (b:qU):rsO (symV b)=(b,true):=by
 have e:(symV b).drop 1=symB b++[34]:=by simp [symV]
 unfold rsO;rw [if_neg (by simp [symV]),e,qVY b]
 rfl
theorem qWZ (b:qU):whoO (symV b)=none:=by
 have e:symV b=34::(symB b++[34]):=by simp [symV]
 rw [e];unfold whoO;rw [if_neg (by simp)]
 unfold whoN;split
 ·rfl
 ·have:numN (34::(symB b++[34])) 0=none:=by unfold numN;rw [if_neg (by decide)]
  rw [this]
end Go.Pv
set_option maxHeartbeats 4000000
set_option maxRecDepth 200000
set_option linter.unusedSimpArgs false
set_option linter.unusedVariables false
namespace Go.Pv
open Go Go.Proofs Go.RowKit
theorem qvr (k n:Int) (s:qU):qe9 k n s=qid k n s:=by unfold qe9 qid;rw [qTq]
def valid (v:Int×Int×List UInt8):Prop:=(v.1=1∧v.2.2=[]∧-9223372036854775808≤v.2.1∧v.2.1≤9223372036854775807)∨(v.1=2∧v.2.1=0∧v.2.2.length≤256)
def qBe (v:Int×Int×List UInt8):qU:=qid v.1 v.2.1 v.2.2
theorem qrq (n:Int):qbe 1 n []=0:=by simp [qbe]
theorem qtb {b:List UInt8}:qbe 2 0 b=0↔b.length≤256:=by
 unfold qbe;by_cases h:b.length≤256<;>simp [h]
theorem qx3 (n:Int):qid 1 n []=intV n:=by simp [qid,isV]
theorem qxA {b:List UInt8} (h:b.length≤256):qid 2 0 b=symV b:=by simp [qid,isV,h]
theorem qTs (s:qU):-9223372036854775808≤pVal s∧pVal s≤9223372036854775807:=by
 have h:=qRM s;simp [Lit.wf,IntKind.min,IntKind.max,IntKind.signed,IntKind.bits] at h
 omega
theorem qML {m:Bool} {t:List UInt8} {n:Int} (h:whoN m t=some n):-9223372036854775808≤n∧n≤9223372036854775807:=by
 unfold whoN at h
 split at h
 ·cases h
 ·split at h
  ·cases h
  ·rename_i x hx;split at h
   ·cases h
   ·rename_i hn;cases h
    cases m with
    |true=>simp at hn ⊢;omega
    |false=>simp at hn ⊢;omega
theorem qYM {s:List UInt8} {n:Int} (h:whoO s=some n):-9223372036854775808≤n∧n≤9223372036854775807:=by
 unfold whoO at h
 split at h
 ·exact qML h
 ·exact qML h
def rrV (s:qU):Option (Int×Int×List UInt8):=match whoO s with
 |some n=>if qbe 1 n []=0∧qid 1 n []=s then some (1,n,[]) else none
 |none=>if (rsO s).2=true∧qbe 2 0 (rsO s).1=0∧qid 2 0 (rsO s).1=s then some (2,0,(rsO s).1) else none
theorem zabc {s:List UInt8} {v:Int×Int×List UInt8} (h:rdV s=some v):valid v∧qBe v=s:=by
 unfold rdV at h
 split at h
 ·split at h
  ·split at h
   ·rename_i hc;cases h
    exact⟨.inr ⟨rfl,rfl,qtb.1 hc.1⟩,by unfold qBe;rw [← qvr];exact hc.2⟩
   ·cases h
  ·cases h
 ·split at h
  ·split at h
   ·rename_i hc;cases h
    exact⟨.inl ⟨rfl,rfl,qTs s⟩,by unfold qBe;rw [← qvr];exact hc.2⟩
   ·cases h
  ·cases h
theorem zabs {s:List UInt8} {v:Int×Int×List UInt8} (h:rrV s=some v):valid v∧qBe v=s:=by
 unfold rrV at h
 split at h
 ·rename_i n hn;split at h
  ·rename_i hc;cases h
   exact⟨.inl ⟨rfl,rfl,qYM hn⟩,hc.2⟩
  ·cases h
 ·split at h
  ·rename_i hc;cases h
   exact⟨.inr ⟨rfl,rfl,qtb.1 hc.2.1⟩,hc.2.2⟩
  ·cases h
theorem qYY {v:Int×Int×List UInt8} (h:valid v):rdV (qBe v)=some v:=by
 obtain⟨k,n,b⟩:=v;rcases h with⟨h1,h2,h3⟩|⟨h1,h2,h3⟩
 ·simp only at h1 h2 h3;subst h1 h2;simp only [qBe,qx3];unfold rdV;rw [if_neg (by rw [qYc];simp),qWD h3,qTf h3]
  simp [qrq,qvr,qx3]
 ·simp only at h1 h2 h3;subst h1 h2;simp only [qBe,qxA h3];have e:symV b=34::(symB b++[34]):=by simp [symV]
  have p1:qdP (symV b) [34]=true:=by rw [e];simp [qdP]
  have p2:qye (symV b) [34]=true:=by rw [e];simp [qye]
  have p3:2≤(symV b).length:=by rw [e];simp
  have p4:((symV b).take ((symV b).length - 1)).drop 1=symB b:=by rw [e];simp
  unfold rdV;rw [if_pos ⟨p1,p2,p3⟩,p4,qSs b];simp only [];rw [if_pos ⟨qtb.2 h3,by rw [qvr,qxA h3]⟩]
theorem qY1 {v:Int×Int×List UInt8} (h:valid v):rrV (qBe v)=some v:=by
 obtain⟨k,n,b⟩:=v;rcases h with⟨h1,h2,h3⟩|⟨h1,h2,h3⟩
 ·simp only at h1 h2 h3;subst h1 h2;simp only [qBe,qx3];unfold rrV;rw [qWE h3];simp [qrq,qx3]
 ·simp only at h1 h2 h3;subst h1 h2;simp only [qBe,qxA h3];unfold rrV;rw [qWZ,zaan];simp only [];rw [if_pos (by simp [qtb.2 h3,qxA h3])]
theorem zaaV (s:qU):rrV s=rdV s:=by
 cases h:rrV s with
 |some v =>
  obtain⟨h1,h2⟩:=zabs h;rw [← h2,qYY h1]
 |none =>
  cases h':rdV s with
  |none=>rfl
  |some v =>
   obtain⟨h1,h2⟩:=zabc h';rw [← h2,qY1 h1] at h
   cases h
theorem qPJ (gl:Gl):SimP Tryz.prog gl 147 fun args=>(qBw args).run:=by
 refine SimP.of_tree (G:=ofL [(164,.pure qJ6),(165,.pure qyN),(166,.pure qJ7)]) (L:=fun _ _ _=>.fail) qaj (qag (qRk gl) (qag (qKz gl) (qag (qSy gl) qaf))) qai Tryz.func147 rfl (by rfl) (by kernel_rfl) (qab (by kernel_rfl)) ?_
 intro args x h hr;unfold qBw at h
 split at h
 ·rename_i s;obtain⟨h1,h2⟩:=Tr.chk_some h;cases h2
  refine Tr.run_as (.ite (qoQ s) (.ite (qj6 s) (.ite (bNot (qj6 s)) (.ret (.tup [.agg [.int .i64 0,.int .i64 0,.str []],.int .i64 10])) (.ite (iNe (qbe 1 (whoV s) []) 0) (.ret (.tup [.agg [.int .i64 0,.int .i64 0,.str []],.int .i64 10])) (.ite (sNe (qid 1 (whoV s) []) s) (.ret (.tup [.agg [.int .i64 0,.int .i64 0,.str []],.int .i64 10])) (.ret (.tup [.agg [.int .i64 1,.int .i64 (whoV s),.str []],.int .i64 0]))))) (.ite (qoQ s) (.ite (bNot (okRs s)) (.ret (.tup [.agg [.int .i64 0,.int .i64 0,.str []],.int .i64 10])) (.ite (iNe (qbe 2 0 (rsV s)) 0) (.ret (.tup [.agg [.int .i64 0,.int .i64 0,.str []],.int .i64 10])) (.ite (sNe (qid 2 0 (rsV s)) s) (.ret (.tup [.agg [.int .i64 0,.int .i64 0,.str []],.int .i64 10])) (.ret (.tup [.agg [.int .i64 2,.int .i64 0,.str (rsV s)],.int .i64 0]))))) .fail)) .fail) (by kernel_rfl) ?_
  have fin:∀ o:Option (Int×Int×List UInt8),rrV s=o→PV.tup [.agg [.int .i64 (kRd s),.int .i64 (nRd s),.str (sRd s)],.int .i64 (eRd s)]=match o with|some v=>.tup [.agg [.int .i64 v.1,.int .i64 v.2.1,.str v.2.2],.int .i64 0]|none=>.tup [.agg [.int .i64 0,.int .i64 0,.str []],.int .i64 10]:=by
   intro o ho;rw [zaaV] at ho;unfold kRd nRd sRd eRd;rw [ho];cases o<;>rfl
  rw [h1];cases hw:whoO s with
  |some n =>
   have w1:qj6 s=true:=by unfold qj6;rw [hw];rfl
   have w2:whoV s=n:=by unfold whoV;rw [hw];rfl
   rw [w1,w2];by_cases hc:qbe 1 n []=0∧qid 1 n []=s
   ·rw [fin (some (1,n,[])) (by unfold rrV;rw [hw];simp only [];rw [if_pos hc])]
    simp [hc]
   ·rw [fin none (by unfold rrV;rw [hw];simp only [];rw [if_neg hc])]
    have:¬ qid 1 n []=s:=fun h=>hc ⟨qrq n,h⟩
    simp [qrq,this]
  |none =>
   have w1:qj6 s=false:=by unfold qj6;rw [hw];rfl
   have w3:okRs s=(rsO s).2:=rfl;have w4:rsV s=(rsO s).1:=rfl;rw [w1,w3,w4];by_cases hc:(rsO s).2=true∧qbe 2 0 (rsO s).1=0∧qid 2 0 (rsO s).1=s
   ·rw [fin (some (2,0,(rsO s).1)) (by unfold rrV;rw [hw];simp only [];rw [if_pos hc])]
    simp [hc]
   ·rw [fin none (by unfold rrV;rw [hw];simp only [];rw [if_neg hc])]
    by_cases c1:(rsO s).2=true
    ·by_cases c2:qbe 2 0 (rsO s).1=0
     ·have c3:¬ qid 2 0 (rsO s).1=s:=fun h=>hc ⟨c1,c2,h⟩
      simp [c1,c2,c3]
     ·simp [c1,c2]
    ·simp [c1]
 ·cases h
end Go.Pv
set_option maxHeartbeats 4000000
set_option maxRecDepth 200000
set_option linter.unusedSimpArgs false
set_option linter.unusedVariables false
namespace Go.Pv
open Go Go.Proofs
def qDg:GamT:=ofL []
theorem qOG (gl:Gl):qal Tryz.prog gl (gam qDg):=qaf
def qMB:LpsT:=fun r fr σ=>.fail
section
variable (c:Int)
def qyI:Tr PV:=.ite (iLe 48 c) (.ret (.bool (iLe c 57))) (.ret (.bool false))
theorem qUJ:(tcall tbT qDg qMB Tryz.f173 [.int .u8 c]).flat=qyI c:=by kernel_rfl
def qvW:Option PV:=(qyI c).run
def qbJ:Bool:=(qeC (gVal (qvW c)))
def qcW:Bool:=isW (qvW c) (.bool (qbJ c))
end
def qs7:List PV→Tr PV|[.int .u8 c]=>.ite (qcW c) (.ret (.bool (qbJ c))) (.fail)|_=>.fail
theorem quw (gl:Gl):SimP Tryz.prog gl 173 fun args=>(qs7 args).run:=by
 refine SimP.of_flat (G:=qDg) (L:=qMB) qaj (qOG gl ) qai  Tryz.func173 rfl (by rfl) (by kernel_rfl) (qab (by kernel_rfl)) ?_
 intro args x h;unfold qs7 at h
 split at h
 ·exact (congrArg Tr.run (qUJ _)).trans (qae h fun h=>by cases h)
 ·cases h
def quA:GamT:=ofL [(173,.pure qs7)]
theorem qGU (gl:Gl):qal Tryz.prog gl (gam quA):=(qag (quw gl) qaf)
def qBq:LpsT:=fun r fr σ=>.fail
section
variable (c:Int)
def qoB:Tr PV:=let z1:Tr PV:=.ite (iEq c 95) (.ret (.bool true)) (.ite (qcW c) (.ret (.bool (qbJ c))) .fail);let z2:Tr PV:=.ite (iLe 65 c) (.ite (iLe c 90) (.ret (.bool true)) z1) z1;.ite (iLe 97 c) (.ite (iLe c 122) (.ret (.bool true)) z2) z2
theorem qNE:(tcall tbT quA qBq Tryz.f172 [.int .u8 c]).flat=qoB c:=by kernel_rfl
def qnV:Option PV:=(qoB c).run
def qdC:Bool:=(qeC (gVal (qnV c)))
def qdB:Bool:=isW (qnV c) (.bool (qdC c))
end
def qhU:List PV→Tr PV|[.int .u8 c]=>.ite (qdB c) (.ret (.bool (qdC c))) (.fail)|_=>.fail
theorem qmc (gl:Gl):SimP Tryz.prog gl 172 fun args=>(qhU args).run:=by
 refine SimP.of_flat (G:=quA) (L:=qBq) qaj (qGU gl ) qai  Tryz.func172 rfl (by rfl) (by kernel_rfl) (qab (by kernel_rfl)) ?_
 intro args x h;unfold qhU at h
 split at h
 ·exact (congrArg Tr.run (qNE _)).trans (qae h fun h=>by cases h)
 ·cases h
def qAE:GamT:=ofL [(172,.pure qhU),(173,.pure qs7)]
theorem qLu (gl:Gl):qal Tryz.prog gl (gam qAE):=(qag (qmc gl) (qag (quw gl) qaf))
def qy6:Code:=qc2 Tryz.f175 2
def qzq:LI:=⟨20,[0,1,5],fun e=>match e with|.exit 0=>[5]|_=>[],true⟩
def qwR:LpsT:=fun r fr σ=>.fail
def qf9 (vs:List PV) (σ:Store):Option (PExit×List PV×Store):=lval (lstep tbT qAE qwR qy6 qzq) vs σ
section
variable (s:qU) (n:Int)
def qsU:Tr LR:=.ite (iLt n (sLen s)) (.ite (qaF s n) (.ite (qdB (sAt s n)) (.ite (qdC (sAt s n)) (.ret (.next [.str s,.fn 172 [],.int .i64 (iAdd .i64 n 1)] ⟨[],[],[]⟩)) (.ret (.out (.exit 0) [.int .i64 n] ⟨[],[],[]⟩))) .fail) .fail) (.ret (.out (.exit 0) [.int .i64 n] ⟨[],[],[]⟩))
theorem qXY:lstep tbT qAE qwR qy6 qzq [.str s,.fn 172 [],.int .i64 n] ⟨[],[],[]⟩=qsU s n:=by kernel_rfl
theorem qRy:qf9 [.str s,.fn 172 [],.int .i64 n] ⟨[],[],[]⟩=lnext qf9 (qsU s n).run:=by unfold qf9;rw [qaC,qXY]
def qlC:Tr LR:=.ite (iLt n (sLen s)) (.ite (qaF s n) (.ite (qcW (sAt s n)) (.ite (qbJ (sAt s n)) (.ret (.next [.str s,.fn 173 [],.int .i64 (iAdd .i64 n 1)] ⟨[],[],[]⟩)) (.ret (.out (.exit 0) [.int .i64 n] ⟨[],[],[]⟩))) .fail) .fail) (.ret (.out (.exit 0) [.int .i64 n] ⟨[],[],[]⟩))
theorem qTl:lstep tbT qAE qwR qy6 qzq [.str s,.fn 173 [],.int .i64 n] ⟨[],[],[]⟩=qlC s n:=by kernel_rfl
theorem qLZ:qf9 [.str s,.fn 173 [],.int .i64 n] ⟨[],[],[]⟩=lnext qf9 (qlC s n).run:=by unfold qf9;rw [qaC,qTl]
def qKO:Option (PExit×List PV×Store):=qf9 [.str s,.fn 172 [],.int .i64 n] ⟨[],[],[]⟩
def qFv:Int:=qkU 0 (qKO s n)
def qzY:Bool:=isW (qKO s n) ((.exit 0),[.int .i64 (qFv s n)],⟨[],[],[]⟩)
def qEC:Option (PExit×List PV×Store):=qf9 [.str s,.fn 173 [],.int .i64 n] ⟨[],[],[]⟩
def qxe:Int:=qkU 0 (qEC s n)
def qtI:Bool:=isW (qEC s n) ((.exit 0),[.int .i64 (qxe s n)],⟨[],[],[]⟩)
end
def qnb:List PV→Store→Tr (PExit×List PV×Store)|[.str s,.fn 172 [],.int .i64 n],⟨[],[],[]⟩=>.ite (qzY s n) (.ret ((.exit 0),[.int .i64 (qFv s n)],⟨[],[],[]⟩)) (.fail)|[.str s,.fn 173 [],.int .i64 n],⟨[],[],[]⟩=>.ite (qtI s n) (.ret ((.exit 0),[.int .i64 (qxe s n)],⟨[],[],[]⟩)) (.fail)|_,_=>.fail
theorem qUy:∀ vs σ r,(qnb vs σ).run=some r→qf9 vs σ=some r:=by
 intro vs σ r h;unfold qnb at h
 split at h
 ·exact qae h fun h=>by cases h
 ·exact qae h fun h=>by cases h
 ·cases h
theorem qOv (gl:Gl):∀ fr σ e fr' σ',(orc qzq qnb fr σ).run=some (e,fr',σ')→LDoes Tryz.prog gl qy6 fr σ e fr' σ':=qbw qaj (qLu gl ) qai (L:=qwR) (qab (by kernel_rfl)) (by kernel_rfl) qUy
def qMR:LpsT:=fun r fr σ=>bif Nat.beq r 2 then orc qzq qnb fr σ else .fail
section
variable (s:qU)
def qJQ:Tr PV:=.ite (qzY s 0) (.ret (.int .i64 (qFv s 0))) .fail
theorem zaag:(tcall tbT qAE qMR Tryz.f175 [.str s,.fn 172 []]).flat=qJQ s:=by kernel_rfl
def qL6:Option PV:=(qJQ s).run
def qsT:Int:=(gInt (gVal (qL6 s)))
def qw4:Bool:=isW (qL6 s) (.int .i64 (qsT s))
def qFg:Tr PV:=.ite (qtI s 0) (.ret (.int .i64 (qxe s 0))) .fail
theorem qYp:(tcall tbT qAE qMR Tryz.f175 [.str s,.fn 173 []]).flat=qFg s:=by kernel_rfl
def qFC:Option PV:=(qFg s).run
def qc1:Int:=(gInt (gVal (qFC s)))
def qlI:Bool:=isW (qFC s) (.int .i64 (qc1 s))
end
def qLw:List PV→Tr PV|[.str s,.fn 172 []]=>.ite (qw4 s) (.ret (.int .i64 (qsT s))) (.fail)|[.str s,.fn 173 []]=>.ite (qlI s) (.ret (.int .i64 (qc1 s))) (.fail)|_=>.fail
theorem qLX (gl:Gl):SimP Tryz.prog gl 175 fun args=>(qLw args).run:=by
 refine SimP.of_flat (G:=qAE) (L:=qMR) qaj (qLu gl ) qai  Tryz.func175 rfl (by rfl) (by kernel_rfl) (qav (L:=lps qMR) [(2,qy6)] (by kernel_rfl) (List.forall_mem_cons.2 ⟨fun fr σ e fr' σ' h=>qOv gl  fr σ e fr' σ' h,(List.forall_mem_nil _)⟩)) ?_
 intro args x h;unfold qLw at h
 split at h
 ·exact (congrArg Tr.run (zaag _)).trans (qae h fun h=>by cases h)
 ·exact (congrArg Tr.run (qYp _)).trans (qae h fun h=>by cases h)
 ·cases h
def qld:GamT:=ofL []
theorem qAX (gl:Gl):qal Tryz.prog gl (gam qld):=qaf
def qmD:Code:=qc2 Tryz.f176 2
def qmM:LI:=⟨21,[0,3],fun e=>match e with|.ret=>[2]|.exit 0=>[]|_=>[],true⟩
def qo2:LpsT:=fun r fr σ=>.fail
def qcr (vs:List PV) (σ:Store):Option (PExit×List PV×Store):=lval (lstep tbT qld qo2 qmD qmM) vs σ
section
variable (s:qU) (i:Int)
def qep:Tr LR:=let z1:Store:=Store.mk [] [] [];.ite (iLt i (sLen s)) (.ite (qaF s i) (.ite (iEq (sAt s i) 92) (.ret (.next [.str s,.int .i64 (iAdd .i64 (iAdd .i64 i 1) 1)] z1)) (.ite (iEq (sAt s i) 34) (.ret (.out .ret [.int .i64 (iAdd .i64 i 1)] z1)) (.ret (.next [.str s,.int .i64 (iAdd .i64 i 1)] z1)))) .fail) (.ret (.out (.exit 0) [] z1))
theorem qOn:lstep tbT qld qo2 qmD qmM [.str s,.int .i64 i] ⟨[],[],[]⟩=qep s i:=by kernel_rfl
theorem qB6:qcr [.str s,.int .i64 i] ⟨[],[],[]⟩=lnext qcr (qep s i).run:=by unfold qcr;rw [qaC,qOn]
def qiH:Option (PExit×List PV×Store):=qcr [.str s,.int .i64 i] ⟨[],[],[]⟩
def qeX:Int:=qkU 0 (qiH s i)
def qg5:Bool:=isW (qiH s i) (.ret,[.int .i64 (qeX s i)],⟨[],[],[]⟩)
def qgR:Bool:=isW (qiH s i) ((.exit 0),[],⟨[],[],[]⟩)
end
def qfk:List PV→Store→Tr (PExit×List PV×Store)|[.str s,.int .i64 i],⟨[],[],[]⟩=>.ite (qg5 s i) (.ret (.ret,[.int .i64 (qeX s i)],⟨[],[],[]⟩)) (.ite (qgR s i) (.ret ((.exit 0),[],⟨[],[],[]⟩)) (.fail))|_,_=>.fail
theorem qKU:∀ vs σ r,(qfk vs σ).run=some r→qcr vs σ=some r:=by
 intro vs σ r h;unfold qfk at h
 split at h
 ·exact qae h fun h=>qae h fun h=>by cases h
 ·cases h
theorem qF4 (gl:Gl):∀ fr σ e fr' σ',(orc qmM qfk fr σ).run=some (e,fr',σ')→LDoes Tryz.prog gl qmD fr σ e fr' σ':=qbw qaj (qAX gl ) qai (L:=qo2) (qab (by kernel_rfl)) (by kernel_rfl) qKU
def qA1:LpsT:=fun r fr σ=>bif Nat.beq r 2 then orc qmM qfk fr σ else .fail
section
variable (s:qU)
def qtZ:Tr PV:=.ite (qg5 s 1) (.ret (.int .i64 (qeX s 1))) (.ite (qgR s 1) (.ret (.int .i64 0)) .fail)
theorem qQB:(tcall tbT qld qA1 Tryz.f176 [.str s]).flat=qtZ s:=by kernel_rfl
def qs0:Option PV:=(qtZ s).run
def qgl:Int:=(gInt (gVal (qs0 s)))
def qjn:Bool:=isW (qs0 s) (.int .i64 (qgl s))
end
def qyg:List PV→Tr PV|[.str s]=>.ite (qjn s) (.ret (.int .i64 (qgl s))) (.fail)|_=>.fail
theorem qJj (gl:Gl):SimP Tryz.prog gl 176 fun args=>(qyg args).run:=by
 refine SimP.of_flat (G:=qld) (L:=qA1) qaj (qAX gl ) qai  Tryz.func176 rfl (by rfl) (by kernel_rfl) (qav (L:=lps qA1) [(2,qmD)] (by kernel_rfl) (List.forall_mem_cons.2 ⟨fun fr σ e fr' σ' h=>qF4 gl  fr σ e fr' σ' h,(List.forall_mem_nil _)⟩)) ?_
 intro args x h;unfold qyg at h
 split at h
 ·exact (congrArg Tr.run (qQB _)).trans (qae h fun h=>by cases h)
 ·cases h
def qIm:GamT:=ofL [(170,.pure qjf)]
theorem qMU (gl:Gl):qal Tryz.prog gl (gam qIm):=(qag (qqi gl) qaf)
def qC9:Code:=qc2 Tryz.f159 2
def qFs:LI:=⟨34,[0,3],fun e=>match e with|.ret=>[2]|.exit 0=>[3]|_=>[],true⟩
def qDf:LpsT:=fun r fr σ=>.fail
def qoW (vs:List PV) (σ:Store):Option (PExit×List PV×Store):=lval (lstep tbT qIm qDf qC9 qFs) vs σ
section
variable (s:qU) (at_:Int)
def qjZ:Tr LR:=let z1:=sAt s at_;let z2:Store:=Store.mk [] [] [];let z3:=idxV (sSub s (nNat at_) (nLen s)) 10;.ite (iLt at_ (sLen s)) (.ite (qaF s at_) (.ite (iEq z1 32) (.ret (.next [.str s,.int .i64 (iAdd .i64 at_ 1)] z2)) (.ite (iEq z1 9) (.ret (.next [.str s,.int .i64 (iAdd .i64 at_ 1)] z2)) (.ite (iEq z1 10) (.ret (.next [.str s,.int .i64 (iAdd .i64 at_ 1)] z2)) (.ite (iEq z1 13) (.ret (.next [.str s,.int .i64 (iAdd .i64 at_ 1)] z2)) (.ite (iEq z1 37) (.ite (qbk (qax at_) true (nNat at_) (nLen s) (nLen s)) (.ite (iLt z3 0) (.ret (.out .ret [.int .i64 (sLen s)] z2)) (.ret (.next [.str s,.int .i64 (iAdd .i64 at_ z3)] z2))) .fail) (.ret (.out .ret [.int .i64 at_] z2))))))) .fail) (.ret (.out (.exit 0) [.int .i64 at_] z2))
theorem qWu:lstep tbT qIm qDf qC9 qFs [.str s,.int .i64 at_] ⟨[],[],[]⟩=qjZ s at_:=by kernel_rfl
theorem qSq:qoW [.str s,.int .i64 at_] ⟨[],[],[]⟩=lnext qoW (qjZ s at_).run:=by unfold qoW;rw [qaC,qWu]
def qzv:Option (PExit×List PV×Store):=qoW [.str s,.int .i64 at_] ⟨[],[],[]⟩
def qrV:Int:=qkU 0 (qzv s at_)
def qAb:Bool:=isW (qzv s at_) (.ret,[.int .i64 (qrV s at_)],⟨[],[],[]⟩)
def qkH:Int:=qkU 0 (qzv s at_)
def qzN:Bool:=isW (qzv s at_) ((.exit 0),[.int .i64 (qkH s at_)],⟨[],[],[]⟩)
end
def qny:List PV→Store→Tr (PExit×List PV×Store)|[.str s,.int .i64 at_],⟨[],[],[]⟩=>.ite (qAb s at_) (.ret (.ret,[.int .i64 (qrV s at_)],⟨[],[],[]⟩)) (.ite (qzN s at_) (.ret ((.exit 0),[.int .i64 (qkH s at_)],⟨[],[],[]⟩)) (.fail))|_,_=>.fail
theorem qUx:∀ vs σ r,(qny vs σ).run=some r→qoW vs σ=some r:=by
 intro vs σ r h;unfold qny at h
 split at h
 ·exact qae h fun h=>qae h fun h=>by cases h
 ·cases h
theorem qM1 (gl:Gl):∀ fr σ e fr' σ',(orc qFs qny fr σ).run=some (e,fr',σ')→LDoes Tryz.prog gl qC9 fr σ e fr' σ':=qbw qaj (qMU gl ) qai (L:=qDf) (qab (by kernel_rfl)) (by kernel_rfl) qUx
def qSh:LpsT:=fun r fr σ=>bif Nat.beq r 2 then orc qFs qny fr σ else .fail
section
variable (s:qU)
def qLg:Tr PV:=.ite (qAb s 0) (.ret (.int .i64 (qrV s 0))) (.ite (qzN s 0) (.ret (.int .i64 (qkH s 0))) .fail)
theorem qZ4:(tcall tbT qIm qSh Tryz.f159 [.str s]).flat=qLg s:=by kernel_rfl
def qL2:Option PV:=(qLg s).run
def qlA:Int:=(gInt (gVal (qL2 s)))
def qjt:Bool:=isW (qL2 s) (.int .i64 (qlA s))
end
def qQ7:List PV→Tr PV|[.str s]=>.ite (qjt s) (.ret (.int .i64 (qlA s))) (.fail)|_=>.fail
theorem qVg (gl:Gl):SimP Tryz.prog gl 159 fun args=>(qQ7 args).run:=by
 refine SimP.of_flat (G:=qIm) (L:=qSh) qaj (qMU gl ) qai  Tryz.func159 rfl (by rfl) (by kernel_rfl) (qav (L:=lps qSh) [(2,qC9)] (by kernel_rfl) (List.forall_mem_cons.2 ⟨fun fr σ e fr' σ' h=>qM1 gl  fr σ e fr' σ' h,(List.forall_mem_nil _)⟩)) ?_
 intro args x h;unfold qQ7 at h
 split at h
 ·exact (congrArg Tr.run (qZ4 _)).trans (qae h fun h=>by cases h)
 ·cases h
def qJX:GamT:=ofL [(172,.pure qhU),(175,.pure qLw)]
theorem qPz (gl:Gl):qal Tryz.prog gl (gam qJX):=(qag (qmc gl) (qag (qLX gl) qaf))
def qP3:LpsT:=fun r fr σ=>.fail
section
variable (s:qU) (k:Int)
def qFD:Tr PV:=.ite (qw4 s) (.ite (qbk true (qax (qsT s)) 0 (nNat (qsT s)) (nLen s)) (.ret (.tup [.agg [.int .i64 k,.str (sSub s 0 (nNat (qsT s))),.int .i64 0,.int .i64 0,.str [],.int .i64 0],.bool (iLe (qsT s) 64)])) .fail) .fail
theorem qZe:(tcall tbT qJX qP3 Tryz.f171 [.str s,.int .i64 k]).flat=qFD s k:=by kernel_rfl
def qhy:Option PV:=(qFD s k).run
def qp1:Int:=(gInt (gAt (gCs (gAt (gCs (gVal (qhy s k))) 0)) 0))
def qoR:qU:=(gStr (gAt (gCs (gAt (gCs (gVal (qhy s k))) 0)) 1))
def qjz:Int:=(gInt (gAt (gCs (gAt (gCs (gVal (qhy s k))) 0)) 2))
def qjX:Int:=(gInt (gAt (gCs (gAt (gCs (gVal (qhy s k))) 0)) 3))
def qj8:qU:=(gStr (gAt (gCs (gAt (gCs (gVal (qhy s k))) 0)) 4))
def qkc:Int:=(gInt (gAt (gCs (gAt (gCs (gVal (qhy s k))) 0)) 5))
def qpI:Bool:=qB4 1 (qhy s k)
def ql3:Bool:=isW (qhy s k) (.tup [.agg [.int .i64 (qp1 s k),.str (qoR s k),.int .i64 (qjz s k),.int .i64 (qjX s k),.str (qj8 s k),.int .i64 (qkc s k)],.bool (qpI s k)])
end
def qJz:List PV→Tr PV|[.str s,.int .i64 k]=>.ite (ql3 s k) (.ret (.tup [.agg [.int .i64 (qp1 s k),.str (qoR s k),.int .i64 (qjz s k),.int .i64 (qjX s k),.str (qj8 s k),.int .i64 (qkc s k)],.bool (qpI s k)])) (.fail)|_=>.fail
theorem qRi (gl:Gl):SimP Tryz.prog gl 171 fun args=>(qJz args).run:=by
 refine SimP.of_flat (G:=qJX) (L:=qP3) qaj (qPz gl ) qai  Tryz.func171 rfl (by rfl) (by kernel_rfl) (qab (by kernel_rfl)) ?_
 intro args x h;unfold qJz at h
 split at h
 ·exact (congrArg Tr.run (qZe _ _)).trans (qae h fun h=>by cases h)
 ·cases h
def qx9:GamT:=ofL [(189,.pure qBw)]
theorem qKC (gl:Gl) (hg:GlOk gl):qal Tryz.prog gl (gam qx9):=(qag (qVp hg) qaf)
def qHq:LpsT:=fun r fr σ=>.fail
section
variable (s:qU) (k:Int)
def quk:Tr PV:=.ite (qoQ s) (.ret (.tup [.agg [.int .i64 k,.str s,.int .i64 (kRd s),.int .i64 (nRd s),.str (sRd s),.int .i64 0],.bool (iEq (eRd s) 0)])) .fail
theorem qOT:(tcall tbT qx9 qHq Tryz.f174 [.str s,.int .i64 k]).flat=quk s k:=by kernel_rfl
def qde:Option PV:=(quk s k).run
def qdO:Int:=(gInt (gAt (gCs (gAt (gCs (gVal (qde s k))) 0)) 0))
def qd0:qU:=(gStr (gAt (gCs (gAt (gCs (gVal (qde s k))) 0)) 1))
def qcT:Int:=(gInt (gAt (gCs (gAt (gCs (gVal (qde s k))) 0)) 2))
def qcP:Int:=(gInt (gAt (gCs (gAt (gCs (gVal (qde s k))) 0)) 3))
def qcN:qU:=(gStr (gAt (gCs (gAt (gCs (gVal (qde s k))) 0)) 4))
def qcK:Int:=(gInt (gAt (gCs (gAt (gCs (gVal (qde s k))) 0)) 5))
def qd1:Bool:=qB4 1 (qde s k)
def qev:Bool:=isW (qde s k) (.tup [.agg [.int .i64 (qdO s k),.str (qd0 s k),.int .i64 (qcT s k),.int .i64 (qcP s k),.str (qcN s k),.int .i64 (qcK s k)],.bool (qd1 s k)])
end
def qzH:List PV→Tr PV|[.str s,.int .i64 k]=>.ite (qev s k) (.ret (.tup [.agg [.int .i64 (qdO s k),.str (qd0 s k),.int .i64 (qcT s k),.int .i64 (qcP s k),.str (qcN s k),.int .i64 (qcK s k)],.bool (qd1 s k)])) (.fail)|_=>.fail
theorem qJo (gl:Gl) (hg:GlOk gl):SimP Tryz.prog gl 174 fun args=>(qzH args).run:=by
 refine SimP.of_flat (G:=qx9) (L:=qHq) qaj (qKC gl hg ) qai  Tryz.func174 rfl (by rfl) (by kernel_rfl) (qab (by kernel_rfl)) ?_
 intro args x h;unfold qzH at h
 split at h
 ·exact (congrArg Tr.run (qOT _ _)).trans (qae h fun h=>by cases h)
 ·cases h
def qzP:GamT:=ofL [(170,.pure qjf),(171,.pure qJz),(172,.pure qhU),(173,.pure qs7),(174,.pure qzH),(175,.pure qLw),(176,.pure qyg),(177,.pure qvA),(qKG+0,.glob qPd)]
theorem qHL (gl:Gl) (hg:GlLex gl):qal Tryz.prog gl (gam qzP):=(qag (qqi gl) (qag (qRi gl) (qag (qmc gl) (qag (quw gl) (qag (qJo gl hg.toGlOk) (qag (qLX gl) (qag (qJj gl) (qag (qCn gl) (qbN (K:=.glob qPd) (qLn hg) qaf)))))))))
def qw3:Code:=qc2 Tryz.f160 16
def qwS:LI:=⟨90,[0,2,4,74,75],fun e=>match e with|.ret=>[2,3]|.exit 1=>[0,2,4]|_=>[],true⟩
def qAh:LpsT:=fun r fr σ=>.fail
def qns (vs:List PV) (σ:Store):Option (PExit×List PV×Store):=lval (lstep tbT qzP qAh qw3 qwS) vs σ
section
variable (s:qU) (n:Int) (s2 s3 s4 s5:qU) (n2 n3:Int) (s6:qU) (n4 n5:Int) (s7:qU) (n6:Int)
def qbA:Tr LR:=let z1:Store:=Store.mk [[.int .i64 n3,.str s6,.int .i64 n4,.int .i64 n5,.str s7,.int .i64 n6]] [] [44];.ite (iLt n2 4) (.ite (iEq n2 (Int.ofNat 0)) (.ite (qdP s s2) (.ret (.out .ret [.ptr 0 0,.bool true] (Store.mk [[.int .i64 6,.str s2,.int .i64 0,.int .i64 0,.str [],.int .i64 0]] [] [44]))) (.ret (.next [.str s,.ptr 0 0,.int .u8 n,.agg [.str s2,.str s3,.str s4,.str s5],.int .i64 (iAdd .i64 n2 1)] z1))) (.ite (iEq n2 (Int.ofNat 1)) (.ite (qdP s s3) (.ret (.out .ret [.ptr 0 0,.bool true] (Store.mk [[.int .i64 6,.str s3,.int .i64 0,.int .i64 0,.str [],.int .i64 0]] [] [44]))) (.ret (.next [.str s,.ptr 0 0,.int .u8 n,.agg [.str s2,.str s3,.str s4,.str s5],.int .i64 (iAdd .i64 n2 1)] z1))) (.ite (iEq n2 (Int.ofNat 2)) (.ite (qdP s s4) (.ret (.out .ret [.ptr 0 0,.bool true] (Store.mk [[.int .i64 6,.str s4,.int .i64 0,.int .i64 0,.str [],.int .i64 0]] [] [44]))) (.ret (.next [.str s,.ptr 0 0,.int .u8 n,.agg [.str s2,.str s3,.str s4,.str s5],.int .i64 (iAdd .i64 n2 1)] z1))) (.ite (iEq n2 (Int.ofNat 3)) (.ite (qdP s s5) (.ret (.out .ret [.ptr 0 0,.bool true] (Store.mk [[.int .i64 6,.str s5,.int .i64 0,.int .i64 0,.str [],.int .i64 0]] [] [44]))) (.ret (.next [.str s,.ptr 0 0,.int .u8 n,.agg [.str s2,.str s3,.str s4,.str s5],.int .i64 (iAdd .i64 n2 1)] z1))) .fail)))) (.ret (.out (.exit 1) [.str s,.ptr 0 0,.int .u8 n] z1))
theorem qT8:lstep tbT qzP qAh qw3 qwS [.str s,.ptr 0 0,.int .u8 n,.agg [.str s2,.str s3,.str s4,.str s5],.int .i64 n2] ⟨[[.int .i64 n3,.str s6,.int .i64 n4,.int .i64 n5,.str s7,.int .i64 n6]],[],[44]⟩=qbA s n s2 s3 s4 s5 n2 n3 s6 n4 n5 s7 n6:=by kernel_rfl
theorem qrS:qns [.str s,.ptr 0 0,.int .u8 n,.agg [.str s2,.str s3,.str s4,.str s5],.int .i64 n2] ⟨[[.int .i64 n3,.str s6,.int .i64 n4,.int .i64 n5,.str s7,.int .i64 n6]],[],[44]⟩=lnext qns (qbA s n s2 s3 s4 s5 n2 n3 s6 n4 n5 s7 n6).run:=by unfold qns;rw [qaC,qT8]
def qbd:Option (PExit×List PV×Store):=qns [.str s,.ptr 0 0,.int .u8 n,.agg [.str s2,.str s3,.str s4,.str s5],.int .i64 n2] ⟨[[.int .i64 n3,.str s6,.int .i64 n4,.int .i64 n5,.str s7,.int .i64 n6]],[],[44]⟩
def qfB:Bool:=qod 1 (qbd s n s2 s3 s4 s5 n2 n3 s6 n4 n5 s7 n6)
def qfy:Int:=qbu 0 0 (qbd s n s2 s3 s4 s5 n2 n3 s6 n4 n5 s7 n6)
def qfL:qU:=qzZ 0 1 (qbd s n s2 s3 s4 s5 n2 n3 s6 n4 n5 s7 n6)
def qek:Int:=qbu 0 2 (qbd s n s2 s3 s4 s5 n2 n3 s6 n4 n5 s7 n6)
def qef:Int:=qbu 0 3 (qbd s n s2 s3 s4 s5 n2 n3 s6 n4 n5 s7 n6)
def qec:qU:=qzZ 0 4 (qbd s n s2 s3 s4 s5 n2 n3 s6 n4 n5 s7 n6)
def qej:Int:=qbu 0 5 (qbd s n s2 s3 s4 s5 n2 n3 s6 n4 n5 s7 n6)
def qdE:Bool:=isW (qbd s n s2 s3 s4 s5 n2 n3 s6 n4 n5 s7 n6) (.ret,[.ptr 0 0,.bool (qfB s n s2 s3 s4 s5 n2 n3 s6 n4 n5 s7 n6)],⟨[[.int .i64 (qfy s n s2 s3 s4 s5 n2 n3 s6 n4 n5 s7 n6),.str (qfL s n s2 s3 s4 s5 n2 n3 s6 n4 n5 s7 n6),.int .i64 (qek s n s2 s3 s4 s5 n2 n3 s6 n4 n5 s7 n6),.int .i64 (qef s n s2 s3 s4 s5 n2 n3 s6 n4 n5 s7 n6),.str (qec s n s2 s3 s4 s5 n2 n3 s6 n4 n5 s7 n6),.int .i64 (qej s n s2 s3 s4 s5 n2 n3 s6 n4 n5 s7 n6)]],[],[44]⟩)
def qdF:qU:=qYN 0 (qbd s n s2 s3 s4 s5 n2 n3 s6 n4 n5 s7 n6)
def qeh:Int:=qkU 2 (qbd s n s2 s3 s4 s5 n2 n3 s6 n4 n5 s7 n6)
def qpG:Int:=qbu 0 0 (qbd s n s2 s3 s4 s5 n2 n3 s6 n4 n5 s7 n6)
def qoH:qU:=qzZ 0 1 (qbd s n s2 s3 s4 s5 n2 n3 s6 n4 n5 s7 n6)
def qpJ:Int:=qbu 0 2 (qbd s n s2 s3 s4 s5 n2 n3 s6 n4 n5 s7 n6)
def qpC:Int:=qbu 0 3 (qbd s n s2 s3 s4 s5 n2 n3 s6 n4 n5 s7 n6)
def qoF:qU:=qzZ 0 4 (qbd s n s2 s3 s4 s5 n2 n3 s6 n4 n5 s7 n6)
def qpD:Int:=qbu 0 5 (qbd s n s2 s3 s4 s5 n2 n3 s6 n4 n5 s7 n6)
def qiQ:Bool:=isW (qbd s n s2 s3 s4 s5 n2 n3 s6 n4 n5 s7 n6) ((.exit 1),[.str (qdF s n s2 s3 s4 s5 n2 n3 s6 n4 n5 s7 n6),.ptr 0 0,.int .u8 (qeh s n s2 s3 s4 s5 n2 n3 s6 n4 n5 s7 n6)],⟨[[.int .i64 (qpG s n s2 s3 s4 s5 n2 n3 s6 n4 n5 s7 n6),.str (qoH s n s2 s3 s4 s5 n2 n3 s6 n4 n5 s7 n6),.int .i64 (qpJ s n s2 s3 s4 s5 n2 n3 s6 n4 n5 s7 n6),.int .i64 (qpC s n s2 s3 s4 s5 n2 n3 s6 n4 n5 s7 n6),.str (qoF s n s2 s3 s4 s5 n2 n3 s6 n4 n5 s7 n6),.int .i64 (qpD s n s2 s3 s4 s5 n2 n3 s6 n4 n5 s7 n6)]],[],[44]⟩)
end
def qkr:List PV→Store→Tr (PExit×List PV×Store)|[.str s,.ptr 0 0,.int .u8 n,.agg [.str s2,.str s3,.str s4,.str s5],.int .i64 n2],⟨[[.int .i64 n3,.str s6,.int .i64 n4,.int .i64 n5,.str s7,.int .i64 n6]],[],[44]⟩=>.ite (qdE s n s2 s3 s4 s5 n2 n3 s6 n4 n5 s7 n6) (.ret (.ret,[.ptr 0 0,.bool (qfB s n s2 s3 s4 s5 n2 n3 s6 n4 n5 s7 n6)],⟨[[.int .i64 (qfy s n s2 s3 s4 s5 n2 n3 s6 n4 n5 s7 n6),.str (qfL s n s2 s3 s4 s5 n2 n3 s6 n4 n5 s7 n6),.int .i64 (qek s n s2 s3 s4 s5 n2 n3 s6 n4 n5 s7 n6),.int .i64 (qef s n s2 s3 s4 s5 n2 n3 s6 n4 n5 s7 n6),.str (qec s n s2 s3 s4 s5 n2 n3 s6 n4 n5 s7 n6),.int .i64 (qej s n s2 s3 s4 s5 n2 n3 s6 n4 n5 s7 n6)]],[],[44]⟩)) (.ite (qiQ s n s2 s3 s4 s5 n2 n3 s6 n4 n5 s7 n6) (.ret ((.exit 1),[.str (qdF s n s2 s3 s4 s5 n2 n3 s6 n4 n5 s7 n6),.ptr 0 0,.int .u8 (qeh s n s2 s3 s4 s5 n2 n3 s6 n4 n5 s7 n6)],⟨[[.int .i64 (qpG s n s2 s3 s4 s5 n2 n3 s6 n4 n5 s7 n6),.str (qoH s n s2 s3 s4 s5 n2 n3 s6 n4 n5 s7 n6),.int .i64 (qpJ s n s2 s3 s4 s5 n2 n3 s6 n4 n5 s7 n6),.int .i64 (qpC s n s2 s3 s4 s5 n2 n3 s6 n4 n5 s7 n6),.str (qoF s n s2 s3 s4 s5 n2 n3 s6 n4 n5 s7 n6),.int .i64 (qpD s n s2 s3 s4 s5 n2 n3 s6 n4 n5 s7 n6)]],[],[44]⟩)) (.fail))|_,_=>.fail
theorem qQb:∀ vs σ r,(qkr vs σ).run=some r→qns vs σ=some r:=by
 intro vs σ r h;unfold qkr at h
 split at h
 ·exact qae h fun h=>qae h fun h=>by cases h
 ·cases h
theorem qKI (gl:Gl) (hg:GlLex gl):∀ fr σ e fr' σ',(orc qwS qkr fr σ).run=some (e,fr',σ')→LDoes Tryz.prog gl qw3 fr σ e fr' σ':=qbw qaj (qHL gl hg ) qai (L:=qAh) (qab (by kernel_rfl)) (by kernel_rfl) qQb
def qJm:LpsT:=fun r fr σ=>bif Nat.beq r 16 then orc qwS qkr fr σ else .fail
section
variable (v:qU)
def qfs:Tr PV:=let z1:=sAt v 0;let z2:Tr PV:=.ite (ql3 v 1) (.ret (.tup [.agg [.int .i64 (qp1 v 1),.str (qoR v 1),.int .i64 (qjz v 1),.int .i64 (qjX v 1),.str (qj8 v 1),.int .i64 (qkc v 1)],.bool (qpI v 1)])) .fail;let z3:Tr PV:=.ite (ql3 v 2) (.ret (.tup [.agg [.int .i64 (qp1 v 2),.str (qoR v 2),.int .i64 (qjz v 2),.int .i64 (qjX v 2),.str (qj8 v 2),.int .i64 (qkc v 2)],.bool (qpI v 2)])) .fail;let z4:=iAdd .i64 1 (qc1 (sSub v (nNat 1) (nLen v)));let z5:=sSub v 0 (nNat z4);let z6:Tr PV:=.ite (qbk (qax 1) true (nNat 1) (nLen v) (nLen v)) (.ite (qlI (sSub v (nNat 1) (nLen v))) (.ite (qbk true (qax z4) 0 (nNat z4) (nLen v)) (.ite (qev z5 4) (.ret (.tup [.agg [.int .i64 (qdO z5 4),.str (qd0 z5 4),.int .i64 (qcT z5 4),.int .i64 (qcP z5 4),.str (qcN z5 4),.int .i64 (qcK z5 4)],.bool (qd1 z5 4)])) .fail) .fail) .fail) .fail;let z7:=sSub v 0 (nNat (qgl v));let z8:=qdF v z1 [58,45] [60,61] [62,61] [33,61] 0 0 [] 0 0 [] 0;let z9:Tr PV:=.ite (iEq z1 34) (.ite (qjn v) (.ite (qbk true (qax (qgl v)) 0 (nNat (qgl v)) (nLen v)) (.ite (qev z7 5) (.ret (.tup [.agg [.int .i64 (qdO z7 5),.str (qd0 z7 5),.int .i64 (qcT z7 5),.int .i64 (qcP z7 5),.str (qcN z7 5),.int .i64 (qcK z7 5)],.bool (qd1 z7 5)])) .fail) .fail) .fail) (.ite (qdE v z1 [58,45] [60,61] [62,61] [33,61] 0 0 [] 0 0 [] 0) (.ret (.tup [.agg [.int .i64 (qfy v z1 [58,45] [60,61] [62,61] [33,61] 0 0 [] 0 0 [] 0),.str (qfL v z1 [58,45] [60,61] [62,61] [33,61] 0 0 [] 0 0 [] 0),.int .i64 (qek v z1 [58,45] [60,61] [62,61] [33,61] 0 0 [] 0 0 [] 0),.int .i64 (qef v z1 [58,45] [60,61] [62,61] [33,61] 0 0 [] 0 0 [] 0),.str (qec v z1 [58,45] [60,61] [62,61] [33,61] 0 0 [] 0 0 [] 0),.int .i64 (qej v z1 [58,45] [60,61] [62,61] [33,61] 0 0 [] 0 0 [] 0)],.bool (qfB v z1 [58,45] [60,61] [62,61] [33,61] 0 0 [] 0 0 [] 0)])) (.ite (qiQ v z1 [58,45] [60,61] [62,61] [33,61] 0 0 [] 0 0 [] 0) (.ite (qbk true (qax 1) 0 (nNat 1) (nLen z8)) (.ret (.tup [.agg [.int .i64 6,.str (sSub z8 0 (nNat 1)),.int .i64 0,.int .i64 0,.str [],.int .i64 0],.bool (iLe 0 (idxV [40,41,44,46,43,45,61,58,60,62] (qeh v z1 [58,45] [60,61] [62,61] [33,61] 0 0 [] 0 0 [] 0)))])) .fail) .fail));let z10:Tr PV:=.ite (iEq z1 95) (.ite (qdB (sAt v 1)) (.ret (.tup [.agg [.int .i64 3,.str [95],.int .i64 0,.int .i64 0,.str [],.int .i64 0],.bool (bNot (qdC (sAt v 1)))])) .fail) (.ite (qcW z1) (.ite (qbJ z1) z6 (.ite (iEq z1 45) (.ite (qcW (sAt v 1)) (.ite (qbJ (sAt v 1)) z6 z9) .fail) z9)) .fail);let z11:Tr PV:=.ite (iLe 65 z1) (.ite (iLe z1 90) z3 z10) z10;let z12:Tr PV:=.ite (iEq z1 95) (.ite (qdB 0) (.ret (.tup [.agg [.int .i64 3,.str [95],.int .i64 0,.int .i64 0,.str [],.int .i64 0],.bool (bNot (qdC 0))])) .fail) (.ite (qcW z1) (.ite (qbJ z1) z6 (.ite (iEq z1 45) (.ite (qcW 0) (.ite (qbJ 0) z6 z9) .fail) z9)) .fail);let z13:Tr PV:=.ite (iLe 65 z1) (.ite (iLe z1 90) z3 z12) z12;.ite (qaF v 0) (.ite (iLt 1 (sLen v)) (.ite (qaF v 1) (.ite (iLe 97 z1) (.ite (iLe z1 122) z2 z11) z11) .fail) (.ite (iLe 97 z1) (.ite (iLe z1 122) z2 z13) z13)) .fail
theorem qZs:(tcall tbT qzP qJm Tryz.f160 [.str v]).flat=qfs v:=by kernel_rfl
def qbq:Option PV:=(qfs v).run
def qf4:Int:=(gInt (gAt (gCs (gAt (gCs (gVal (qbq v))) 0)) 0))
def qeD:qU:=(gStr (gAt (gCs (gAt (gCs (gVal (qbq v))) 0)) 1))
def qdK:Int:=(gInt (gAt (gCs (gAt (gCs (gVal (qbq v))) 0)) 2))
def qdW:Int:=(gInt (gAt (gCs (gAt (gCs (gVal (qbq v))) 0)) 3))
def qdQ:qU:=(gStr (gAt (gCs (gAt (gCs (gVal (qbq v))) 0)) 4))
def qFU:Int:=(gInt (gAt (gCs (gAt (gCs (gVal (qbq v))) 0)) 5))
def qpm:Bool:=qB4 1 (qbq v)
def qlw:Bool:=isW (qbq v) (.tup [.agg [.int .i64 (qf4 v),.str (qeD v),.int .i64 (qdK v),.int .i64 (qdW v),.str (qdQ v),.int .i64 (qFU v)],.bool (qpm v)])
end
def qKA:List PV→Tr PV|[.str v]=>.ite (qlw v) (.ret (.tup [.agg [.int .i64 (qf4 v),.str (qeD v),.int .i64 (qdK v),.int .i64 (qdW v),.str (qdQ v),.int .i64 (qFU v)],.bool (qpm v)])) (.fail)|_=>.fail
theorem qSD (gl:Gl) (hg:GlLex gl):SimP Tryz.prog gl 160 fun args=>(qKA args).run:=by
 refine SimP.of_flat (G:=qzP) (L:=qJm) qaj (qHL gl hg ) qai  Tryz.func160 rfl (by rfl) (by kernel_rfl) (qav (L:=lps qJm) [(16,qw3)] (by kernel_rfl) (List.forall_mem_cons.2 ⟨fun fr σ e fr' σ' h=>qKI gl hg  fr σ e fr' σ' h,(List.forall_mem_nil _)⟩)) ?_
 intro args x h;unfold qKA at h
 split at h
 ·exact (congrArg Tr.run (qZs _)).trans (qae h fun h=>by cases h)
 ·cases h
end Go.Pv
set_option maxHeartbeats 4000000
set_option maxRecDepth 200000
set_option linter.unusedSimpArgs false
set_option linter.unusedVariables false
namespace Go.Pv
open Go Go.Proofs Go.RowKit
def qnX:Code:=rngC Tryz.f82 500007
def qDT:RI:=⟨24,[2,3,4,5,12],[2,3,4,5],[.ptr 0 0,.ptr 1 0,.ptr 2 0,.ptr 3 0],[13,14],1⟩
def qAo:Nat→List PV→Store→Tr (PV×Store):=rtree tbT (ofL []) (fun _ _ _=>.fail) qDT (rngX qnX) (rngY qnX)
end Go.Pv
set_option maxHeartbeats 4000000
set_option maxRecDepth 200000
set_option linter.unusedSimpArgs false
set_option linter.unusedVariables false
namespace Go.Pv
open Go Go.Proofs
def qOr:GamT:=ofL [(159,.pure qQ7),(160,.pure qKA),(qff,.yld 1 qAo)]
theorem qSg (gl:Gl) (hg:GlLex gl) (hy:qvm Tryz.prog gl qff (.yld 1 fun t a σ=>(qAo t a σ).run)):qal Tryz.prog gl (gam qOr):=(qag (qVg gl) (qag (qSD gl hg) (qbN (K:=.yld 1 qAo) hy qaf)))
def qG9:Code:=qc2 Tryz.f158 1
def qHU:LI:=⟨41,[0,1,3],fun e=>match e with|.ret=>[]|.exit 0=>[]|_=>[],true⟩
def qF7:LpsT:=fun r fr σ=>.fail
def qgy (vs:List PV) (σ:Store):Option (PExit×List PV×Store):=lval (lstep tbT qOr qF7 qG9 qHU) vs σ
section
variable (at_:Int) (r:qR) (n n2:Int) (r2:qR) (s:qU)
def qzo:Tr LR:=let z1:=nLen s;let z2:=sSub s (nNat at_) z1;let z3:=bNot (qpm z2);let z4:Store:=Store.mk [[.sl (qau 5 (qau 6 [])) .full],[.int .i64 at_],[.int .i64 120],[.sl (qau 5 (qau 6 r2)) .full],[.str s]] [(2,0,1)] [36,3,28,36,9];let z5:=iAdd .i64 at_ (sLen (qeD z2));let z6:=qbk (qax z5) true (nNat z5) z1 z1;let z7:=qjt (sSub s (nNat z5) z1);let z8:=xApp r2 [[.int .i64 (qf4 z2),.str (qeD z2),.int .i64 (qdK z2),.int .i64 (qdW z2),.str (qdQ z2),.int .i64 at_]];let z9:Store:=Store.mk [[.sl (qau 5 (qau 6 r)) .full],[.int .i64 n],[.int .i64 n2],[.sl (qau 5 (qau 6 z8)) (.tok 1)],[.str s]] [(0,0,1),(nXs z8,6,44)] [36,3,28,36,9];.ite (iLt at_ (sLen s)) (.ite (qbk (qax at_) true (nNat at_) z1 z1) (.ite (qlw z2) (.ite (nEq 0 0) (.ite z3 (.ite true (.ret (.out .ret [] z4)) (.ite z3 (.ret (.out .ret [] z4)) (.ite z6 (.ite z7 (.ret (.next [.yld 0,.ptr 4 0,.int .i64 (iAdd .i64 z5 (qlA (sSub s (nNat z5) z1)))] z4)) .fail) .fail))) (.ite (qas r2 [[.int .i64 (qf4 z2),.str (qeD z2),.int .i64 (qdK z2),.int .i64 (qdW z2),.str (qdQ z2),.int .i64 at_]] 64) (.ite (qap [[.int .i64 (qf4 z2),.str (qeD z2),.int .i64 (qdK z2),.int .i64 (qdW z2),.str (qdQ z2),.int .i64 at_]] 6) (.ite (qan r2 6) (.ite false (.ret (.out .ret [] z9)) (.ite z3 (.ret (.out .ret [] z9)) (.ite z6 (.ite z7 (.ret (.next [.yld 0,.ptr 4 0,.int .i64 (iAdd .i64 z5 (qlA (sSub s (nNat z5) z1)))] z9)) .fail) .fail))) .fail) .fail) .fail)) .fail) .fail) .fail) (.ret (.out (.exit 0) [] (Store.mk [[.sl r .full],[.int .i64 n],[.int .i64 n2],[.sl r2 .full],[.str s]] [(0,0,1)] [36,3,28,36,9])))
theorem zaas:lstep tbT qOr qF7 qG9 qHU [.yld 0,.ptr 4 0,.int .i64 at_] ⟨[[.sl r .full],[.int .i64 n],[.int .i64 n2],[.sl r2 .full],[.str s]],[(0,0,1)],[36,3,28,36,9]⟩=qzo at_ r n n2 r2 s:=by kernel_rfl
theorem qON:qgy [.yld 0,.ptr 4 0,.int .i64 at_] ⟨[[.sl r .full],[.int .i64 n],[.int .i64 n2],[.sl r2 .full],[.str s]],[(0,0,1)],[36,3,28,36,9]⟩=lnext qgy (qzo at_ r n n2 r2 s).run:=by unfold qgy;rw [qaC,zaas]
end
section
variable (at_:Int) (r:qR) (n n2:Int) (r2:qR) (s:qU) (k:Nat)
def qso:Tr LR:=let z1:=nLen s;let z2:=sSub s (nNat at_) z1;let z3:=bNot (qpm z2);let z4:Store:=Store.mk [[.sl (qau 5 (qau 6 [])) .full],[.int .i64 at_],[.int .i64 120],[.sl (qau 5 (qau 6 r2)) (.tok 1)],[.str s]] [(2,0,1),(k,6,44)] [36,3,28,36,9];let z5:=iAdd .i64 at_ (sLen (qeD z2));let z6:=qbk (qax z5) true (nNat z5) z1 z1;let z7:=qjt (sSub s (nNat z5) z1);let z8:=xApp r2 [[.int .i64 (qf4 z2),.str (qeD z2),.int .i64 (qdK z2),.int .i64 (qdW z2),.str (qdQ z2),.int .i64 at_]];let z9:Store:=Store.mk [[.sl (qau 5 (qau 6 r)) .full],[.int .i64 n],[.int .i64 n2],[.sl (qau 5 (qau 6 z8)) (.tok 1)],[.str s]] [(0,0,1),(nXs z8,6,44)] [36,3,28,36,9];.ite (iLt at_ (sLen s)) (.ite (qbk (qax at_) true (nNat at_) z1 z1) (.ite (qlw z2) (.ite (nEq 0 0) (.ite z3 (.ite true (.ret (.out .ret [] z4)) (.ite z3 (.ret (.out .ret [] z4)) (.ite z6 (.ite z7 (.ret (.next [.yld 0,.ptr 4 0,.int .i64 (iAdd .i64 z5 (qlA (sSub s (nNat z5) z1)))] z4)) .fail) .fail))) (.ite (qas r2 [[.int .i64 (qf4 z2),.str (qeD z2),.int .i64 (qdK z2),.int .i64 (qdW z2),.str (qdQ z2),.int .i64 at_]] 64) (.ite (qap [[.int .i64 (qf4 z2),.str (qeD z2),.int .i64 (qdK z2),.int .i64 (qdW z2),.str (qdQ z2),.int .i64 at_]] 6) (.ite (qan r2 6) (.ite (nEq k (nXs r2)) (.ite false (.ret (.out .ret [] z9)) (.ite z3 (.ret (.out .ret [] z9)) (.ite z6 (.ite z7 (.ret (.next [.yld 0,.ptr 4 0,.int .i64 (iAdd .i64 z5 (qlA (sSub s (nNat z5) z1)))] z9)) .fail) .fail))) .fail) .fail) .fail) .fail)) .fail) .fail) .fail) (.ret (.out (.exit 0) [] (Store.mk [[.sl r .full],[.int .i64 n],[.int .i64 n2],[.sl r2 (.tok 1)],[.str s]] [(0,0,1),(k,6,44)] [36,3,28,36,9])))
theorem qWd:lstep tbT qOr qF7 qG9 qHU [.yld 0,.ptr 4 0,.int .i64 at_] ⟨[[.sl r .full],[.int .i64 n],[.int .i64 n2],[.sl r2 (.tok 1)],[.str s]],[(0,0,1),(k,6,44)],[36,3,28,36,9]⟩=qso at_ r n n2 r2 s k:=by kernel_rfl
theorem qLj:qgy [.yld 0,.ptr 4 0,.int .i64 at_] ⟨[[.sl r .full],[.int .i64 n],[.int .i64 n2],[.sl r2 (.tok 1)],[.str s]],[(0,0,1),(k,6,44)],[36,3,28,36,9]⟩=lnext qgy (qso at_ r n n2 r2 s k).run:=by unfold qgy;rw [qaC,qWd]
end
section
variable (at_:Int) (r:qR) (n n2:Int) (r2:qR) (s:qU)
def qaR:Option (PExit×List PV×Store):=qgy [.yld 0,.ptr 4 0,.int .i64 at_] ⟨[[.sl r .full],[.int .i64 n],[.int .i64 n2],[.sl r2 .full],[.str s]],[(0,0,1)],[36,3,28,36,9]⟩
def qjV:qR:=qaO 0 0 (qaR at_ r n n2 r2 s)
def qkF:Int:=qbu 1 0 (qaR at_ r n n2 r2 s)
def qgu:Int:=qbu 2 0 (qaR at_ r n n2 r2 s)
def qfW:qR:=qaO 3 0 (qaR at_ r n n2 r2 s)
def qkD:qU:=qzZ 4 0 (qaR at_ r n n2 r2 s)
def qn9:Bool:=isW (qaR at_ r n n2 r2 s) (.ret,[],⟨[[.sl (qjV at_ r n n2 r2 s) .full],[.int .i64 (qkF at_ r n n2 r2 s)],[.int .i64 (qgu at_ r n n2 r2 s)],[.sl (qfW at_ r n n2 r2 s) .full],[.str (qkD at_ r n n2 r2 s)]],[(2,0,1)],[36,3,28,36,9]⟩)
def qjL:qR:=qaO 0 0 (qaR at_ r n n2 r2 s)
def qko:Int:=qbu 1 0 (qaR at_ r n n2 r2 s)
def qf5:Int:=qbu 2 0 (qaR at_ r n n2 r2 s)
def qgv:qR:=qaO 3 0 (qaR at_ r n n2 r2 s)
def qjd:qU:=qzZ 4 0 (qaR at_ r n n2 r2 s)
def qjJ:Nat:=(gTok (qaR at_ r n n2 r2 s) 1)
def qnD:Bool:=isW (qaR at_ r n n2 r2 s) (.ret,[],⟨[[.sl (qjL at_ r n n2 r2 s) .full],[.int .i64 (qko at_ r n n2 r2 s)],[.int .i64 (qf5 at_ r n n2 r2 s)],[.sl (qgv at_ r n n2 r2 s) (.tok 1)],[.str (qjd at_ r n n2 r2 s)]],[(0,0,1),((qjJ at_ r n n2 r2 s),6,44)],[36,3,28,36,9]⟩)
def qjk:qR:=qaO 0 0 (qaR at_ r n n2 r2 s)
def qjM:Int:=qbu 1 0 (qaR at_ r n n2 r2 s)
def qgD:Int:=qbu 2 0 (qaR at_ r n n2 r2 s)
def qgE:qR:=qaO 3 0 (qaR at_ r n n2 r2 s)
def qjl:qU:=qzZ 4 0 (qaR at_ r n n2 r2 s)
def qnT:Bool:=isW (qaR at_ r n n2 r2 s) ((.exit 0),[],⟨[[.sl (qjk at_ r n n2 r2 s) .full],[.int .i64 (qjM at_ r n n2 r2 s)],[.int .i64 (qgD at_ r n n2 r2 s)],[.sl (qgE at_ r n n2 r2 s) .full],[.str (qjl at_ r n n2 r2 s)]],[(0,0,1)],[36,3,28,36,9]⟩)
def qkC:qR:=qaO 0 0 (qaR at_ r n n2 r2 s)
def qjp:Int:=qbu 1 0 (qaR at_ r n n2 r2 s)
def qgI:Int:=qbu 2 0 (qaR at_ r n n2 r2 s)
def qfZ:qR:=qaO 3 0 (qaR at_ r n n2 r2 s)
def qj4:qU:=qzZ 4 0 (qaR at_ r n n2 r2 s)
def qmG:Bool:=isW (qaR at_ r n n2 r2 s) ((.exit 0),[],⟨[[.sl (qkC at_ r n n2 r2 s) .full],[.int .i64 (qjp at_ r n n2 r2 s)],[.int .i64 (qgI at_ r n n2 r2 s)],[.sl (qfZ at_ r n n2 r2 s) .full],[.str (qj4 at_ r n n2 r2 s)]],[(2,0,1)],[36,3,28,36,9]⟩)
def qks:qR:=qaO 0 0 (qaR at_ r n n2 r2 s)
def qjO:Int:=qbu 1 0 (qaR at_ r n n2 r2 s)
def qgw:Int:=qbu 2 0 (qaR at_ r n n2 r2 s)
def qgn:qR:=qaO 3 0 (qaR at_ r n n2 r2 s)
def qjh:qU:=qzZ 4 0 (qaR at_ r n n2 r2 s)
def qjw:Nat:=(gTok (qaR at_ r n n2 r2 s) 1)
def qnN:Bool:=isW (qaR at_ r n n2 r2 s) (.ret,[],⟨[[.sl (qks at_ r n n2 r2 s) .full],[.int .i64 (qjO at_ r n n2 r2 s)],[.int .i64 (qgw at_ r n n2 r2 s)],[.sl (qgn at_ r n n2 r2 s) (.tok 1)],[.str (qjh at_ r n n2 r2 s)]],[(2,0,1),((qjw at_ r n n2 r2 s),6,44)],[36,3,28,36,9]⟩)
def qjv:qR:=qaO 0 0 (qaR at_ r n n2 r2 s)
def qjj:Int:=qbu 1 0 (qaR at_ r n n2 r2 s)
def qgo:Int:=qbu 2 0 (qaR at_ r n n2 r2 s)
def qgC:qR:=qaO 3 0 (qaR at_ r n n2 r2 s)
def qj1:qU:=qzZ 4 0 (qaR at_ r n n2 r2 s)
def qjY:Nat:=(gTok (qaR at_ r n n2 r2 s) 1)
def qmo:Bool:=isW (qaR at_ r n n2 r2 s) ((.exit 0),[],⟨[[.sl (qjv at_ r n n2 r2 s) .full],[.int .i64 (qjj at_ r n n2 r2 s)],[.int .i64 (qgo at_ r n n2 r2 s)],[.sl (qgC at_ r n n2 r2 s) (.tok 1)],[.str (qj1 at_ r n n2 r2 s)]],[(0,0,1),((qjY at_ r n n2 r2 s),6,44)],[36,3,28,36,9]⟩)
def qi9:qR:=qaO 0 0 (qaR at_ r n n2 r2 s)
def qjT:Int:=qbu 1 0 (qaR at_ r n n2 r2 s)
def qfU:Int:=qbu 2 0 (qaR at_ r n n2 r2 s)
def qgA:qR:=qaO 3 0 (qaR at_ r n n2 r2 s)
def qki:qU:=qzZ 4 0 (qaR at_ r n n2 r2 s)
def qjI:Nat:=(gTok (qaR at_ r n n2 r2 s) 1)
def qnn:Bool:=isW (qaR at_ r n n2 r2 s) ((.exit 0),[],⟨[[.sl (qi9 at_ r n n2 r2 s) .full],[.int .i64 (qjT at_ r n n2 r2 s)],[.int .i64 (qfU at_ r n n2 r2 s)],[.sl (qgA at_ r n n2 r2 s) (.tok 1)],[.str (qki at_ r n n2 r2 s)]],[(2,0,1),((qjI at_ r n n2 r2 s),6,44)],[36,3,28,36,9]⟩)
end
def qqs:List PV→Store→Tr (PExit×List PV×Store)|[.yld 0,.ptr 4 0,.int .i64 at_],⟨[[.sl r .full],[.int .i64 n],[.int .i64 n2],[.sl r2 .full],[.str s]],[(0,0,1)],[36,3,28,36,9]⟩=>.ite (qn9 at_ r n n2 r2 s) (.ret (.ret,[],⟨[[.sl (qjV at_ r n n2 r2 s) .full],[.int .i64 (qkF at_ r n n2 r2 s)],[.int .i64 (qgu at_ r n n2 r2 s)],[.sl (qfW at_ r n n2 r2 s) .full],[.str (qkD at_ r n n2 r2 s)]],[(2,0,1)],[36,3,28,36,9]⟩)) (.ite (qnD at_ r n n2 r2 s) (.ret (.ret,[],⟨[[.sl (qjL at_ r n n2 r2 s) .full],[.int .i64 (qko at_ r n n2 r2 s)],[.int .i64 (qf5 at_ r n n2 r2 s)],[.sl (qgv at_ r n n2 r2 s) (.tok 1)],[.str (qjd at_ r n n2 r2 s)]],[(0,0,1),((qjJ at_ r n n2 r2 s),6,44)],[36,3,28,36,9]⟩)) (.ite (qnT at_ r n n2 r2 s) (.ret ((.exit 0),[],⟨[[.sl (qjk at_ r n n2 r2 s) .full],[.int .i64 (qjM at_ r n n2 r2 s)],[.int .i64 (qgD at_ r n n2 r2 s)],[.sl (qgE at_ r n n2 r2 s) .full],[.str (qjl at_ r n n2 r2 s)]],[(0,0,1)],[36,3,28,36,9]⟩)) (.ite (qmG at_ r n n2 r2 s) (.ret ((.exit 0),[],⟨[[.sl (qkC at_ r n n2 r2 s) .full],[.int .i64 (qjp at_ r n n2 r2 s)],[.int .i64 (qgI at_ r n n2 r2 s)],[.sl (qfZ at_ r n n2 r2 s) .full],[.str (qj4 at_ r n n2 r2 s)]],[(2,0,1)],[36,3,28,36,9]⟩)) (.ite (qnN at_ r n n2 r2 s) (.ret (.ret,[],⟨[[.sl (qks at_ r n n2 r2 s) .full],[.int .i64 (qjO at_ r n n2 r2 s)],[.int .i64 (qgw at_ r n n2 r2 s)],[.sl (qgn at_ r n n2 r2 s) (.tok 1)],[.str (qjh at_ r n n2 r2 s)]],[(2,0,1),((qjw at_ r n n2 r2 s),6,44)],[36,3,28,36,9]⟩)) (.ite (qmo at_ r n n2 r2 s) (.ret ((.exit 0),[],⟨[[.sl (qjv at_ r n n2 r2 s) .full],[.int .i64 (qjj at_ r n n2 r2 s)],[.int .i64 (qgo at_ r n n2 r2 s)],[.sl (qgC at_ r n n2 r2 s) (.tok 1)],[.str (qj1 at_ r n n2 r2 s)]],[(0,0,1),((qjY at_ r n n2 r2 s),6,44)],[36,3,28,36,9]⟩)) (.ite (qnn at_ r n n2 r2 s) (.ret ((.exit 0),[],⟨[[.sl (qi9 at_ r n n2 r2 s) .full],[.int .i64 (qjT at_ r n n2 r2 s)],[.int .i64 (qfU at_ r n n2 r2 s)],[.sl (qgA at_ r n n2 r2 s) (.tok 1)],[.str (qki at_ r n n2 r2 s)]],[(2,0,1),((qjI at_ r n n2 r2 s),6,44)],[36,3,28,36,9]⟩)) (.fail)))))))|_,_=>.fail
theorem qYF:∀ vs σ r,(qqs vs σ).run=some r→qgy vs σ=some r:=by
 intro vs σ r h;unfold qqs at h
 split at h
 ·exact qae h fun h=>qae h fun h=>qae h fun h=>qae h fun h=>qae h fun h=>qae h fun h=>qae h fun h=>by cases h
 ·cases h
theorem qRL (gl:Gl) (hg:GlLex gl) (hy:qvm Tryz.prog gl qff (.yld 1 fun t a σ=>(qAo t a σ).run)):∀ fr σ e fr' σ',(orc qHU qqs fr σ).run=some (e,fr',σ')→LDoes Tryz.prog gl qG9 fr σ e fr' σ':=qbw qaj (qSg gl hg hy ) qai (L:=qF7) (qab (by kernel_rfl)) (by kernel_rfl) qYF
def qWK:LpsT:=fun r fr σ=>bif Nat.beq r 1 then orc qHU qqs fr σ else .fail
section
variable (r:qR) (n n2:Int) (r2:qR) (s:qU)
def qRY:Tr (PV×Store):=let z1:=qlA s;.ite (qjt s) (.ite (qn9 z1 r n n2 r2 s) (.ret (.tup [],Store.mk [[.sl (qjV z1 r n n2 r2 s) .full],[.int .i64 (qkF z1 r n n2 r2 s)],[.int .i64 (qgu z1 r n n2 r2 s)],[.sl (qfW z1 r n n2 r2 s) .full],[.str (qkD z1 r n n2 r2 s)]] [(2,0,1)] [36,3,28,36,9])) (.ite (qnD z1 r n n2 r2 s) (.ret (.tup [],Store.mk [[.sl (qjL z1 r n n2 r2 s) .full],[.int .i64 (qko z1 r n n2 r2 s)],[.int .i64 (qf5 z1 r n n2 r2 s)],[.sl (qgv z1 r n n2 r2 s) (.tok 1)],[.str (qjd z1 r n n2 r2 s)]] [(0,0,1),(qjJ z1 r n n2 r2 s,6,44)] [36,3,28,36,9])) (.ite (qnT z1 r n n2 r2 s) (.ret (.tup [],Store.mk [[.sl (qjk z1 r n n2 r2 s) .full],[.int .i64 (qjM z1 r n n2 r2 s)],[.int .i64 (qgD z1 r n n2 r2 s)],[.sl (qgE z1 r n n2 r2 s) .full],[.str (qjl z1 r n n2 r2 s)]] [(0,0,1)] [36,3,28,36,9])) (.ite (qmG z1 r n n2 r2 s) (.ret (.tup [],Store.mk [[.sl (qkC z1 r n n2 r2 s) .full],[.int .i64 (qjp z1 r n n2 r2 s)],[.int .i64 (qgI z1 r n n2 r2 s)],[.sl (qfZ z1 r n n2 r2 s) .full],[.str (qj4 z1 r n n2 r2 s)]] [(2,0,1)] [36,3,28,36,9])) (.ite (qnN z1 r n n2 r2 s) (.ret (.tup [],Store.mk [[.sl (qks z1 r n n2 r2 s) .full],[.int .i64 (qjO z1 r n n2 r2 s)],[.int .i64 (qgw z1 r n n2 r2 s)],[.sl (qgn z1 r n n2 r2 s) (.tok 1)],[.str (qjh z1 r n n2 r2 s)]] [(2,0,1),(qjw z1 r n n2 r2 s,6,44)] [36,3,28,36,9])) (.ite (qmo z1 r n n2 r2 s) (.ret (.tup [],Store.mk [[.sl (qjv z1 r n n2 r2 s) .full],[.int .i64 (qjj z1 r n n2 r2 s)],[.int .i64 (qgo z1 r n n2 r2 s)],[.sl (qgC z1 r n n2 r2 s) (.tok 1)],[.str (qj1 z1 r n n2 r2 s)]] [(0,0,1),(qjY z1 r n n2 r2 s,6,44)] [36,3,28,36,9])) (.ite (qnn z1 r n n2 r2 s) (.ret (.tup [],Store.mk [[.sl (qi9 z1 r n n2 r2 s) .full],[.int .i64 (qjT z1 r n n2 r2 s)],[.int .i64 (qfU z1 r n n2 r2 s)],[.sl (qgA z1 r n n2 r2 s) (.tok 1)],[.str (qki z1 r n n2 r2 s)]] [(2,0,1),(qjI z1 r n n2 r2 s,6,44)] [36,3,28,36,9])) .fail))))))) .fail
theorem zabg:(qrw tbT qOr qWK Tryz.f158 [.yld 0,.ptr 4 0] ⟨[[.sl r .full],[.int .i64 n],[.int .i64 n2],[.sl r2 .full],[.str s]],[(0,0,1)],[36,3,28,36,9]⟩).flat=qRY r n n2 r2 s:=by kernel_rfl
def qd4:Option (PV×Store):=(qRY r n n2 r2 s).run
def qpS:qR:=(gRow (gAt (gObj (qa4 (qd4 r n n2 r2 s)) 0) 0))
def qoO:Int:=(gInt (gAt (gObj (qa4 (qd4 r n n2 r2 s)) 1) 0))
def qjc:Int:=(gInt (gAt (gObj (qa4 (qd4 r n n2 r2 s)) 2) 0))
def qmy:qR:=(gRow (gAt (gObj (qa4 (qd4 r n n2 r2 s)) 3) 0))
def qui:qU:=(gStr (gAt (gObj (qa4 (qd4 r n n2 r2 s)) 4) 0))
def quF:Bool:=isW (qd4 r n n2 r2 s) (.tup [],⟨[[.sl (qpS r n n2 r2 s) .full],[.int .i64 (qoO r n n2 r2 s)],[.int .i64 (qjc r n n2 r2 s)],[.sl (qmy r n n2 r2 s) .full],[.str (qui r n n2 r2 s)]],[(2,0,1)],[36,3,28,36,9]⟩)
def quE:qR:=(gRow (gAt (gObj (qa4 (qd4 r n n2 r2 s)) 0) 0))
def quV:Int:=(gInt (gAt (gObj (qa4 (qd4 r n n2 r2 s)) 1) 0))
def qnx:Int:=(gInt (gAt (gObj (qa4 (qd4 r n n2 r2 s)) 2) 0))
def qkx:qR:=(gRow (gAt (gObj (qa4 (qd4 r n n2 r2 s)) 3) 0))
def qtU:qU:=(gStr (gAt (gObj (qa4 (qd4 r n n2 r2 s)) 4) 0))
def qtR:Nat:=(gTok (qa4 (qd4 r n n2 r2 s)) 1)
def qt7:Bool:=isW (qd4 r n n2 r2 s) (.tup [],⟨[[.sl (quE r n n2 r2 s) .full],[.int .i64 (quV r n n2 r2 s)],[.int .i64 (qnx r n n2 r2 s)],[.sl (qkx r n n2 r2 s) (.tok 1)],[.str (qtU r n n2 r2 s)]],[(0,0,1),((qtR r n n2 r2 s),6,44)],[36,3,28,36,9]⟩)
def qur:qR:=(gRow (gAt (gObj (qa4 (qd4 r n n2 r2 s)) 0) 0))
def qtB:Int:=(gInt (gAt (gObj (qa4 (qd4 r n n2 r2 s)) 1) 0))
def qmj:Int:=(gInt (gAt (gObj (qa4 (qd4 r n n2 r2 s)) 2) 0))
def qkG:qR:=(gRow (gAt (gObj (qa4 (qd4 r n n2 r2 s)) 3) 0))
def qtC:qU:=(gStr (gAt (gObj (qa4 (qd4 r n n2 r2 s)) 4) 0))
def qtM:Bool:=isW (qd4 r n n2 r2 s) (.tup [],⟨[[.sl (qur r n n2 r2 s) .full],[.int .i64 (qtB r n n2 r2 s)],[.int .i64 (qmj r n n2 r2 s)],[.sl (qkG r n n2 r2 s) .full],[.str (qtC r n n2 r2 s)]],[(0,0,1)],[36,3,28,36,9]⟩)
def qoM:qR:=(gRow (gAt (gObj (qa4 (qd4 r n n2 r2 s)) 0) 0))
def qpH:Int:=(gInt (gAt (gObj (qa4 (qd4 r n n2 r2 s)) 1) 0))
def qjC:Int:=(gInt (gAt (gObj (qa4 (qd4 r n n2 r2 s)) 2) 0))
def qmA:qR:=(gRow (gAt (gObj (qa4 (qd4 r n n2 r2 s)) 3) 0))
def qtz:qU:=(gStr (gAt (gObj (qa4 (qd4 r n n2 r2 s)) 4) 0))
def quz:Nat:=(gTok (qa4 (qd4 r n n2 r2 s)) 1)
def qum:Bool:=isW (qd4 r n n2 r2 s) (.tup [],⟨[[.sl (qoM r n n2 r2 s) .full],[.int .i64 (qpH r n n2 r2 s)],[.int .i64 (qjC r n n2 r2 s)],[.sl (qmA r n n2 r2 s) (.tok 1)],[.str (qtz r n n2 r2 s)]],[(2,0,1),((quz r n n2 r2 s),6,44)],[36,3,28,36,9]⟩)
end
def qTw:List PV→Store→Tr (PV×Store)|[.yld 0,.ptr 4 0],⟨[[.sl r .full],[.int .i64 n],[.int .i64 n2],[.sl r2 .full],[.str s]],[(0,0,1)],[36,3,28,36,9]⟩=>.ite (quF r n n2 r2 s) (.ret (.tup [],⟨[[.sl (qpS r n n2 r2 s) .full],[.int .i64 (qoO r n n2 r2 s)],[.int .i64 (qjc r n n2 r2 s)],[.sl (qmy r n n2 r2 s) .full],[.str (qui r n n2 r2 s)]],[(2,0,1)],[36,3,28,36,9]⟩)) (.ite (qt7 r n n2 r2 s) (.ret (.tup [],⟨[[.sl (quE r n n2 r2 s) .full],[.int .i64 (quV r n n2 r2 s)],[.int .i64 (qnx r n n2 r2 s)],[.sl (qkx r n n2 r2 s) (.tok 1)],[.str (qtU r n n2 r2 s)]],[(0,0,1),((qtR r n n2 r2 s),6,44)],[36,3,28,36,9]⟩)) (.ite (qtM r n n2 r2 s) (.ret (.tup [],⟨[[.sl (qur r n n2 r2 s) .full],[.int .i64 (qtB r n n2 r2 s)],[.int .i64 (qmj r n n2 r2 s)],[.sl (qkG r n n2 r2 s) .full],[.str (qtC r n n2 r2 s)]],[(0,0,1)],[36,3,28,36,9]⟩)) (.ite (qum r n n2 r2 s) (.ret (.tup [],⟨[[.sl (qoM r n n2 r2 s) .full],[.int .i64 (qpH r n n2 r2 s)],[.int .i64 (qjC r n n2 r2 s)],[.sl (qmA r n n2 r2 s) (.tok 1)],[.str (qtz r n n2 r2 s)]],[(2,0,1),((quz r n n2 r2 s),6,44)],[36,3,28,36,9]⟩)) (.fail))))|_,_=>.fail
theorem qZh (gl:Gl) (hg:GlLex gl) (hy:qvm Tryz.prog gl qff (.yld 1 fun t a σ=>(qAo t a σ).run)):SimS Tryz.prog gl 158 fun args σ=>(qTw args σ).run:=by
 refine SimS.of_flat (G:=qOr) (L:=qWK) qaj (qSg gl hg hy ) qai Tryz.func158 rfl (by rfl) (by kernel_rfl) (qav (L:=lps qWK) [(1,qG9)] (by kernel_rfl) (List.forall_mem_cons.2 ⟨fun fr σ e fr' σ' h=>qRL gl hg hy  fr σ e fr' σ' h,(List.forall_mem_nil _)⟩)) ?_
 intro args σ x h;unfold qTw at h
 split at h
 ·exact (congrArg Tr.run (zabg _ _ _ _ _)).trans (qae h fun h=>qae h fun h=>qae h fun h=>qae h fun h=>by cases h)
 ·cases h
end Go.Pv
set_option maxHeartbeats 4000000
set_option maxRecDepth 200000
set_option linter.unusedSimpArgs false
set_option linter.unusedVariables false
namespace Go.Pv
open Go Go.Proofs Go.RowKit
theorem qLe (gl:Gl) (hg:GlLex gl):∀ fr σ e fr' σ',(rorc qDT (rngG qnX) 158 qTw fr σ).run=some (e,fr',σ')→Does Tryz.prog gl (rngO qnX) fr σ e fr' σ' :=
 qWS (G:=ofL []) (L:=fun _ _ _=>.fail) qaj (fun _ _=>qaf) qai (fun _ _=>qab (by kernel_rfl)) (fun _ _=>qab (by kernel_rfl)) (by kernel_rfl) (by kernel_rfl) (by kernel_rfl)
  ⟨Tryz.f158,Tryz.func158,by rfl,by rfl⟩ (fun gl' hv hy=>qZh gl' (hg.of_v hv) hy)
end Go.Pv
set_option maxHeartbeats 4000000
set_option maxRecDepth 200000
set_option linter.unusedSimpArgs false
set_option linter.unusedVariables false
namespace Go.Pv
open Go Go.Proofs
def qEy:GamT:=ofL []
theorem qOz (gl:Gl):qal Tryz.prog gl (gam qEy):=qaf
def qMC:LpsT:=fun r fr σ=>.fail
section
variable (s:qU)
def qzC:Tr (PV×Store):=.ret (.fn 158 [.ptr 4 0],Store.mk [[.sl [] .full],[.int .i64 0],[.int .i64 0],[.sl [] .full],[.str s]] [] [36,3,28,36,9])
theorem qUR:(qrw tbT qEy qMC Tryz.f135 [.str s] ⟨[[.sl [] .full],[.int .i64 0],[.int .i64 0],[.sl [] .full]],[],[36,3,28,36]⟩).flat=qzC s:=by kernel_rfl
def qg2:Option (PV×Store):=(qzC s).run
def qnK:qR:=(gRow (gAt (gObj (qa4 (qg2 s)) 0) 0))
def qm0:Int:=(gInt (gAt (gObj (qa4 (qg2 s)) 1) 0))
def qih:Int:=(gInt (gAt (gObj (qa4 (qg2 s)) 2) 0))
def qif:qR:=(gRow (gAt (gObj (qa4 (qg2 s)) 3) 0))
def qne:qU:=(gStr (gAt (gObj (qa4 (qg2 s)) 4) 0))
def qm9:Bool:=isW (qg2 s) (.fn 158 [.ptr 4 0],⟨[[.sl (qnK s) .full],[.int .i64 (qm0 s)],[.int .i64 (qih s)],[.sl (qif s) .full],[.str (qne s)]],[],[36,3,28,36,9]⟩)
end
def qCT:List PV→Store→Tr (PV×Store)|[.str s],⟨[[.sl [] .full],[.int .i64 0],[.int .i64 0],[.sl [] .full]],[],[36,3,28,36]⟩=>.ite (qm9 s) (.ret (.fn 158 [.ptr 4 0],⟨[[.sl (qnK s) .full],[.int .i64 (qm0 s)],[.int .i64 (qih s)],[.sl (qif s) .full],[.str (qne s)]],[],[36,3,28,36,9]⟩)) (.fail)|_,_=>.fail
theorem qNL (gl:Gl):SimS Tryz.prog gl 135 fun args σ=>(qCT args σ).run:=by
 refine SimS.of_flat (G:=qEy) (L:=qMC) qaj (qOz gl ) qai Tryz.func135 rfl (by rfl) (by kernel_rfl) (qab (by kernel_rfl)) ?_
 intro args σ x h;unfold qCT at h
 split at h
 ·exact (congrArg Tr.run (qUR _)).trans (qae h fun h=>by cases h)
 ·cases h
def qFa:GamT:=ofL [(135,.store qCT),(qKG+0,.glob qPd)]
theorem qNp (gl:Gl) (hg:GlLex gl):qal Tryz.prog gl (gam qFa):=(qdw (qNL gl) (qbN (K:=.glob qPd) (qLn hg) qaf))
def qD6:LpsT:=fun r fr σ=>if r=500007 then rorc qDT (rngG qnX) 158 qTw fr σ else .fail
section
variable (s:qU)
def qqH:Tr PV:=let z1:=qnK s;let z2:=qm0 s;let z3:=qih s;let z4:=qif s;let z5:=qne s;.ite (iLt 65536 (sLen s)) (.ret (.tup [.sl [] .non,.int .i64 0,.int .i64 2])) (.ite (qm9 s) (.ite (quF z1 z2 z3 z4 z5) (.ret (.tup [.sl (qaa (qc6 0 (qpS z1 z2 z3 z4 z5))) .non,.int .i64 (qoO z1 z2 z3 z4 z5),.int .i64 (qjc z1 z2 z3 z4 z5)])) (.ite (qt7 z1 z2 z3 z4 z5) (.ret (.tup [.sl (qaa (qc6 0 (qkx z1 z2 z3 z4 z5))) .non,.int .i64 0,.int .i64 0])) (.ite (qtM z1 z2 z3 z4 z5) (.ret (.tup [.sl (qaa (qc6 0 (qkG z1 z2 z3 z4 z5))) .non,.int .i64 0,.int .i64 0])) (.ite (qum z1 z2 z3 z4 z5) (.ret (.tup [.sl (qaa (qc6 0 (qoM z1 z2 z3 z4 z5))) .non,.int .i64 (qpH z1 z2 z3 z4 z5),.int .i64 (qjC z1 z2 z3 z4 z5)])) .fail)))) .fail)
theorem qTz:(tcall tbT qFa qD6 Tryz.f82 [.str s]).flat=qqH s:=by kernel_rfl
def qfm:Option PV:=(qqH s).run
def qmH:qR:=qZL 0 (qfm s)
def qmI:Int:=qBd 1 (qfm s)
def qiM:Int:=qBd 2 (qfm s)
def qiu:Bool:=isW (qfm s) (.tup [.sl (qmH s) .non,.int .i64 (qmI s),.int .i64 (qiM s)])
end
def qaW:List PV→Tr PV|[.str s]=>.ite (qiu s) (.ret (.tup [.sl (qmH s) .non,.int .i64 (qmI s),.int .i64 (qiM s)])) (.fail)|_=>.fail
theorem qCo (gl:Gl) (hg:GlLex gl):SimP Tryz.prog gl 82 fun args=>(qaW args).run:=by
 refine SimP.of_flat (G:=qFa) (L:=qD6) qaj (qNp gl hg ) qai  Tryz.func82 rfl (by rfl) (by kernel_rfl) (qEp (L:=lps qD6) [] [(500007,rngO qnX)] (by kernel_rfl) (by kernel_rfl) (List.forall_mem_nil _) (List.forall_mem_cons.2 ⟨fun fr σ e fr' σ' h=>qLe gl hg fr σ e fr' σ' h,(List.forall_mem_nil _)⟩)) ?_
 intro args x h;unfold qaW at h
 split at h
 ·exact (congrArg Tr.run (qTz _)).trans (qae h fun h=>by cases h)
 ·cases h
end Go.Pv
set_option linter.unusedSimpArgs false
set_option linter.unusedVariables false
namespace Go.Pv
open Go.RowKit
section
variable {P : Program} {gl : Gl} {f : FuncId}
theorem SimS.or {D1 D2 E:List PV→Store→Option (PV×Store)} (h1:SimS P gl f D1) (h2:SimS P gl f D2) (h:∀ args σ x σ',E args σ=some (x,σ')→D1 args σ=some (x,σ')∨D2 args σ=some (x,σ')):SimS P gl f E :=
 ⟨h1.ent,fun args σ x σ' hx=>(h args σ x σ' hx).elim (fun e=>h1.run args σ x σ' e) (fun e=>h2.run args σ x σ' e)⟩
theorem SimP.or {F1 F2 E:List PV→Option PV} (h1:SimP P gl f F1) (h2:SimP P gl f F2) (h:∀ args x,E args=some x→F1 args=some x∨F2 args=some x):SimP P gl f E :=
 ⟨h1.ent,fun args x hx=>(h args x hx).elim (fun e=>h1.run args x e) (fun e=>h2.run args x e)⟩
end
end Go.Pv
set_option maxHeartbeats 4000000
set_option maxRecDepth 200000
set_option linter.unusedVariables false
set_option linter.unusedSimpArgs false
namespace Go.Pv
open Go Go.Proofs
def G_ca:GamT:=ofL []
theorem qvf (gl:Gl):qal Tryz.prog gl (gam G_ca):=qaf
def c_ca:Code:=(Tryz.f84.body).getD .skip
theorem qVF (gl:Gl) (o0:List PV) (n:Int) (rc:List PV) (T0:TypeId):DefOk Tryz.prog gl 84 [.ptr 1 0,.ptr 2 0] .ret ⟨[o0,[.int .i64 n],[.int .i64 0],rc],[],[T0,3,28,138]⟩ .ret ⟨[o0,[.int .i64 n],[.int .i64 0],rc],[],[T0,3,28,138]⟩ :=
 DefOk.of_recover (i0:=0) (ops:=qaI (sq1 c_ca)) (c:=sq2 c_ca) (d0:=7) (d1:=4) (o0:=opAt (sq1 c_ca) 0) (o1:=opAt (sq1 c_ca) 1) (y:=.nili) (e:=.ret) qaj (qvf gl) Tryz.func84 (by rfl) (by kernel_rfl) (by rfl) (by kernel_rfl) (by kernel_rfl) (by kernel_rfl) (by kernel_rfl) (by kernel_rfl) (by kernel_rfl) (by kernel_rfl) (by decide) (.inl ⟨rfl,rfl⟩) (.inr rfl) (by kernel_rfl)
theorem qMQ (gl:Gl) (o0:List PV) (n at_:Int) (rc:List PV) (T0:TypeId) (hw:(Lit.int .i64 at_).wf=true):DefOk Tryz.prog gl 84 [.ptr 1 0,.ptr 2 0] (.pan (.iface 172 (.agg [.int .i64 at_]))) ⟨[o0,[.int .i64 n],[.int .i64 0],rc],[],[T0,3,28,138]⟩ .ret ⟨[o0,[.int .i64 at_],[.int .i64 130],rc,[.int .i64 at_]],[],[T0,3,28,138,172]⟩ :=
 DefOk.of_recover (i0:=0) (ops:=qaI (sq1 c_ca)) (c:=sq2 c_ca) (d0:=7) (d1:=4) (o0:=opAt (sq1 c_ca) 0) (o1:=opAt (sq1 c_ca) 1) (y:=.iface 172 (.agg [.int .i64 at_])) (e:=.normal) qaj (qvf gl) Tryz.func84 (by rfl) (by kernel_rfl) (by rfl) (by kernel_rfl) (by kernel_rfl) (by kernel_rfl) (by kernel_rfl) (by kernel_rfl) (by kernel_rfl) (by kernel_rfl) (by decide) (.inr ⟨rfl,qYZ hw⟩) (.inl rfl) (by kernel_rfl)
def qCf:Option PV→Bool
 |some (.tup [.sl _ .non,.int .i64 _,.int .i64 e])=>e != 0
 |_=>false
def qoh (z:List PV):Option (PR×Store)→Option PV
 |some (.pan (.iface 172 (.agg [.int .i64 at_])),⟨_::_,_,138::_⟩)=>match (Lit.int .i64 at_).wf with
  |true=>some (.tup [.agg z,.int .i64 at_,.int .i64 130])
  |false=>none
 |_=>none
theorem qj9 {z:List PV} {q:Option (PR×Store)} {x:PV} (h:qoh z q=some x):∃ at_ c' os tk ts,q=some (.pan (.iface 172 (.agg [.int .i64 at_])),⟨c'::os,tk,138::ts⟩)∧(Lit.int .i64 at_).wf=true∧x=.tup [.agg z,.int .i64 at_,.int .i64 130]:=by
 unfold qoh at h
 split at h
 ·split at h
  ·rename_i hw;simp only [Option.some.injEq] at h
   exact⟨_,_,_,_,_,rfl,hw,h.symm⟩
  ·cases h
 ·cases h
theorem qWC (gl:Gl) (o0:List PV) (n:Int) (rc:List PV):DefOk Tryz.prog gl 83 ([]++[.ptr 2 0,.ptr 0 0]) .ret ⟨[o0,[.int .i64 n],[.int .i64 0],rc],[],[27,3,28,138]⟩ .ret ⟨[o0,[.int .i64 n],[.int .i64 0],rc],[],[27,3,28,138]⟩ :=
 DefOk.of_quiet (e:=.normal) qaj (qvf gl) Tryz.func83 (by rfl) (by kernel_rfl) (by rfl) (.inl rfl) (by kernel_rfl)
theorem qX0 (gl:Gl) (a b c:qR) (at_:Int) (rc x:List PV):DefOk Tryz.prog gl 83 ([]++[.ptr 2 0,.ptr 0 0]) .ret ⟨[[.sl a .non,.sl b .non,.sl c .non],[.int .i64 at_],[.int .i64 130],rc,x],[],[27,3,28,138,172]⟩ .ret ⟨[[.sl [] .full,.sl [] .full,.sl [] .full],[.int .i64 at_],[.int .i64 130],rc,x,[.sl [] .full,.sl [] .full,.sl [] .full]],[],[27,3,28,138,172,27]⟩ :=
 DefOk.of_quiet (e:=.normal) qaj (qvf gl) Tryz.func83 (by rfl) (by kernel_rfl) (by rfl) (.inl rfl) (by kernel_rfl)
theorem qVc (gl:Gl) (at_:Int) (rc x:List PV):DefOk Tryz.prog gl 83 ([]++[.ptr 2 0,.ptr 0 0]) .ret ⟨[[.sl [] .full,.sl [] .full,.sl [] .full],[.int .i64 at_],[.int .i64 130],rc,x],[],[27,3,28,138,172]⟩ .ret ⟨[[.sl [] .full,.sl [] .full,.sl [] .full],[.int .i64 at_],[.int .i64 130],rc,x,[.sl [] .full,.sl [] .full,.sl [] .full]],[],[27,3,28,138,172,27]⟩ :=
 DefOk.of_quiet (e:=.normal) qaj (qvf gl) Tryz.func83 (by rfl) (by kernel_rfl) (by rfl) (.inl rfl) (by kernel_rfl)
def G_wP:GamT:=ofL [(82,.pure qaW),(34,.may (frameT qsz)),(85,.may (frameT qfo)),(qd7,.flag)]
theorem qHl (gl:Gl) (hg:GlLex gl):qal Tryz.prog gl (gam G_wP):=qag (qCo gl hg) (qah (SimM.frameT (qXS gl)) (qah (SimM.frameT (qtV gl)) (qbO qaf)))
def c_wP:Code:=(Tryz.f33.body).getD .skip
def kP2:Code:=sq2 (sq2 c_wP)
def kP3:Code:=sq2 kP2
def kP6:Code:=sq2 (sq2 kP3)
def kP8:Code:=sq2 (sq2 kP6)
theorem qZR:Tryz.f33.body=some (.seq (.region 0 (qaI (sq1 c_wP)) false) (.seq (.region 1 (qaI (sq1 (sq2 c_wP))) false) (.seq (.seq (.region 2 (qaI (sq1 (sq1 kP2))) false) (.cond (.tmp 16) (.seq (.region 3 (qaI (sq1 (sq1 (sq2 (sq1 kP2))))) true) .ret) .skip)) (.seq (sq1 kP3) (.seq (sq1 (sq2 kP3)) (.seq (sq1 kP6) (.seq (.region 7 (qaI (sq1 (sq2 kP6))) false) (.seq (.seq (.region 8 (qaI (sq1 (sq1 kP8))) false) (.cond (.tmp 36) (.region 9 (qaI (sq1 (sq2 (sq1 kP8)))) false) .skip)) (sq2 kP8))))))))):=by kernel_rfl
section
variable (s : List UInt8) (r : List (List PV)) (n e : Int)
def f0P:List PV:=[.str s,.fn 34 []]++List.replicate 38 .top
def fAP:List PV:=(((f0P s).set 4 (.ptr 0 0)).set 5 (.ptr 1 0)).set 6 (.ptr 2 0)
def owP:PV:=.tup [.sl r .non,.int .i64 n,.int .i64 e]
def fBP:List PV:=(((((((fAP s).set 10 (.str s)).set 11 (owP r n e)).set 9 (owP r n e)).set 12 (.sl r .non)).set 13 (.int .i64 n)).set 14 (.int .i64 e)).set 7 (.sl r .non)
def fCP (b:Bool):List PV:=((fBP s r n e).set 15 (.int .i64 e)).set 16 (.bool b)
def fEP (b:Bool):List PV:=(((fCP s r n e b).set 17 (.agg [.sl [] .full,.sl [] .full,.sl [] .full])).set 18 (.int .i64 n)).set 19 (.int .i64 e)
def sBP:Store:=⟨[[.sl [] .full,.sl [] .full,.sl [] .full],[.int .i64 n],[.int .i64 e]],[],[27,3,28]⟩
theorem wP_0:dexec tbT (gam G_wP) (.region 0 (qaI (sq1 c_wP)) false) (f0P s) ⟨[],[],[]⟩ []=some (.normal,fAP s,sBP 0 0,[]):=by kernel_rfl
theorem zaa1:pops tbT (gam G_wP) (qaI (sq1 c_wP)).toList (qaI (sq1 c_wP)).toList (f0P s) ⟨[],[],[]⟩=some (fAP s,sBP 0 0):=by kernel_rfl
variable (hw : (qaW [.str s]).run = some (.tup [.sl r .non, .int .i64 n, .int .i64 e]))
include hw
theorem wP_c:pop tbT (gam G_wP) ((fAP s).set 10 (.str s)) (sBP 0 0) (opAt (sq1 (sq2 c_wP)) 1)=some (owP r n e,sBP 0 0):=by
 have h:pop tbT (gam G_wP) ((fAP s).set 10 (.str s)) (sBP 0 0) (opAt (sq1 (sq2 c_wP)) 1)=(qaW [.str s]).run.map fun x=>(x,sBP 0 0):=by kernel_rfl
 rw [h,hw];rfl
theorem wP_1:dops tbT (gam G_wP) (qaI (sq1 (sq2 c_wP))).toList (qaI (sq1 (sq2 c_wP))).toList (fAP s) (sBP 0 0) []=some (.ok (fBP s r n e) (sBP n e) []):=by
 have h0:(qaI (sq1 (sq2 c_wP))).toList=opAt (sq1 (sq2 c_wP)) 0::opAt (sq1 (sq2 c_wP)) 1::(qaI (sq1 (sq2 c_wP))).toList.drop 2:=by kernel_rfl
 have h1:dop tbT (gam G_wP) ((fAP s).set 10 (.str s)) (sBP 0 0) [] (opAt (sq1 (sq2 c_wP)) 1)=dfin (gam G_wP) ((fAP s).set 10 (.str s)) (sBP 0 0) [] (opAt (sq1 (sq2 c_wP)) 1) (pop tbT (gam G_wP) ((fAP s).set 10 (.str s)) (sBP 0 0) (opAt (sq1 (sq2 c_wP)) 1)):=by kernel_rfl
 rw [wP_c s r n e hw] at h1
 conv=>lhs;arg 4;rw [h0]
 rw [qcg (fr':=(fAP s).set 10 (.str s)) (σ':=sBP 0 0) (pd':=[]) (by kernel_rfl) (by kernel_rfl),qcg (fr':=((fAP s).set 10 (.str s)).set 11 (owP r n e)) (σ':=sBP 0 0) (pd':=[]) (by kernel_rfl) (h1.trans (by kernel_rfl))]
 kernel_rfl
theorem zaa6:pops tbT (gam G_wP) (qaI (sq1 (sq2 c_wP))).toList (qaI (sq1 (sq2 c_wP))).toList (fAP s) (sBP 0 0)=some (fBP s r n e,sBP n e):=by
 have h0:(qaI (sq1 (sq2 c_wP))).toList=opAt (sq1 (sq2 c_wP)) 0::opAt (sq1 (sq2 c_wP)) 1::(qaI (sq1 (sq2 c_wP))).toList.drop 2:=by kernel_rfl
 conv=>lhs;arg 4;rw [h0]
 rw [qru (x:=.str s) (σ':=sBP 0 0) (by kernel_rfl) (by kernel_rfl)]
 refine (qru (x:=owP r n e) (σ':=sBP 0 0) (by kernel_rfl) (wP_c s r n e hw)).trans ?_
 kernel_rfl
end
section
variable (s : List UInt8) (r : List (List PV)) (n e : Int)
theorem zabb:pops tbT (gam G_wP) (qaI (sq1 (sq1 kP2))).toList (qaI (sq1 (sq1 kP2))).toList (fBP s r n e) (sBP n e)=some (fCP s r n e (e != 0),sBP n e):=by kernel_rfl
def r3P:Code:=sq1 (sq1 (sq2 (sq1 kP2)))
theorem wP_3 (b:Bool):qkT tbT (gam G_wP) (qaI r3P).toList (qaI r3P).toList 0 [] (fCP s r n e b) (sBP n e)=some (.ok (fEP s r n e b) (sBP n e)):=by
 have h0:(qaI r3P).toList=[opAt r3P 0,opAt r3P 1,opAt r3P 2,opAt r3P 3,opAt r3P 4,opAt r3P 5]:=by kernel_rfl
 conv=>lhs;arg 4;rw [h0]
 refine (qbL (x:=.agg [.sl [] .full,.sl [] .full,.sl [] .full]) (σ':=sBP n e) (by kernel_rfl) (by kernel_rfl) (fun h=>absurd h (by rw [show writes (gam G_wP) (opAt r3P 0)=false from by kernel_rfl];simp))).trans ?_
 refine (qbL (x:=.int .i64 n) (σ':=sBP n e) (by kernel_rfl) (by kernel_rfl) (fun h=>absurd h (by rw [show writes (gam G_wP) (opAt r3P 1)=false from by kernel_rfl];simp))).trans ?_
 refine (qbL (x:=.int .i64 e) (σ':=sBP n e) (by kernel_rfl) (by kernel_rfl) (fun h=>absurd h (by rw [show writes (gam G_wP) (opAt r3P 2)=false from by kernel_rfl];simp))).trans ?_
 refine (qbL (x:=.top) (σ':=sBP n e) (by kernel_rfl) (by kernel_rfl) (fun _=>?_)).trans ?_
 ·exact qiJ (l':=[(2,2),(1,1),(0,0)]) (by kernel_rfl) ⟨.inr rfl,.inr rfl,.inr rfl,trivial⟩
 refine (qbL (x:=.top) (σ':=sBP n e) (by kernel_rfl) (by kernel_rfl) (fun _=>?_)).trans ?_
 ·exact qiJ (l':=[(2,2),(1,1),(0,0)]) (by kernel_rfl) ⟨.inr rfl,.inr rfl,.inr rfl,trivial⟩
 refine (qbL (x:=.top) (σ':=sBP n e) (by kernel_rfl) (by kernel_rfl) (fun _=>?_)).trans ?_
 ·exact qiJ (l':=[(2,2),(1,1),(0,0)]) (by kernel_rfl) ⟨.inr rfl,.inr rfl,.inr rfl,trivial⟩
 kernel_rfl
theorem qTn (gl:Gl) (hg:GlLex gl) (hw:(qaW [.str s]).run=some (.tup [.sl r .non,.int .i64 n,.int .i64 e])) (he:(e != 0)=true):Does Tryz.prog gl c_wP (f0P s) ⟨[],[],[]⟩ .ret (fEP s r n e (e != 0)) (sBP n e):=by
 rw [show c_wP=_ from congrArg (·.getD .skip) qZR]
 exact Does.seqN (Does.reg qaj (qHl gl hg) (zaa1 s)) (Does.seqN (Does.reg qaj (qHl gl hg) (zaa6 s r n e hw)) (Does.seqR (Does.seqN (Does.reg qaj (qHl gl hg) (zabb s r n e)) (Does.condT (by rw [he];rfl) (Does.seqN (Does.regD qaj (qHl gl hg) qai (by kernel_rfl) (wP_3 s r n e _)) Does.ret)))))
def f4P:List PV:=(fCP s r n 0 false).set 20 (.fn 83 [.ptr 2 0,.ptr 0 0])
def d1P:List PD:=[(83,[],[.ptr 2 0,.ptr 0 0])]
def d2P:List PD:=(84,[.ptr 1 0,.ptr 2 0],[])::d1P
def f6P:List PV:=(((((((f4P s r n).set 21 (.sl r .non)).set 22 (.agg [.sl r .non])).set 23 (.str s)).set 24 (.int .i64 s.length)).set 25 (.agg [.sl r .non,.int .i64 s.length])).set 26 (.ptr 3 0)).set 8 (.ptr 3 0)
def s6P (z:List PV) (rc:List PV):Store:=⟨[z,[.int .i64 n],[.int .i64 0],rc],[],[27,3,28,138]⟩
theorem wP_2:dexec tbT (gam G_wP) (.seq (.region 2 (qaI (sq1 (sq1 kP2))) false) (.cond (.tmp 16) (.seq (.region 3 (qaI (sq1 (sq1 (sq2 (sq1 kP2))))) true) .ret) .skip)) (fBP s r n 0) (sBP n 0) []=some (.normal,fCP s r n 0 false,sBP n 0,[]):=by kernel_rfl
theorem wP_4:dexec tbT (gam G_wP) (sq1 kP3) (fCP s r n 0 false) (sBP n 0) []=some (.normal,f4P s r n,sBP n 0,d1P):=by kernel_rfl
theorem wP_5:dexec tbT (gam G_wP) (sq1 (sq2 kP3)) (f4P s r n) (sBP n 0) d1P=some (.normal,f4P s r n,sBP n 0,d2P):=by kernel_rfl
theorem wP_6:dexec tbT (gam G_wP) (sq1 kP6) (f4P s r n) (sBP n 0) d2P=some (.normal,f6P s r n,s6P n [.sl [] .full,.sl [] .full,.sl [] .full] [.sl r .non,.int .i64 s.length],d2P):=by kernel_rfl
def f7P:List PV:=((f6P s r n).set 27 (.fn 34 [])).set 28 (.ptr 3 0)
def o7P:Oper:=opAt (sq1 (sq2 kP6)) 2
theorem zaa9:(qaI (sq1 (sq2 kP6))).toList=opAt (sq1 (sq2 kP6)) 0::opAt (sq1 (sq2 kP6)) 1::o7P::(qaI (sq1 (sq2 kP6))).toList.drop 3:=by kernel_rfl
theorem zaaP:dop tbT (gam G_wP) (f7P s r n) (s6P n [.sl [] .full,.sl [] .full,.sl [] .full] [.sl r .non,.int .i64 s.length]) d2P o7P=dfin (gam G_wP) (f7P s r n) (s6P n [.sl [] .full,.sl [] .full,.sl [] .full] [.sl r .non,.int .i64 s.length]) d2P o7P (pop tbT (gam G_wP) (f7P s r n) (s6P n [.sl [] .full,.sl [] .full,.sl [] .full] [.sl r .non,.int .i64 s.length]) o7P):=by kernel_rfl
theorem qZG:pop tbT (gam G_wP) (f7P s r n) (s6P n [.sl [] .full,.sl [] .full,.sl [] .full] [.sl r .non,.int .i64 s.length]) o7P=qkS (frameT qsz [.ptr 3 0] (s6P n [.sl [] .full,.sl [] .full,.sl [] .full] [.sl r .non,.int .i64 s.length])).run:=by kernel_rfl
theorem zabm:ppan (gam G_wP) (f7P s r n) (s6P n [.sl [] .full,.sl [] .full,.sl [] .full] [.sl r .non,.int .i64 s.length]) o7P=qrf (frameT qsz [.ptr 3 0] (s6P n [.sl [] .full,.sl [] .full,.sl [] .full] [.sl r .non,.int .i64 s.length])).run:=by kernel_rfl
theorem wP_7 {y:DR} (h:dop tbT (gam G_wP) (f7P s r n) (s6P n [.sl [] .full,.sl [] .full,.sl [] .full] [.sl r .non,.int .i64 s.length]) d2P o7P=some y):dops tbT (gam G_wP) (qaI (sq1 (sq2 kP6))).toList (qaI (sq1 (sq2 kP6))).toList (f6P s r n) (s6P n [.sl [] .full,.sl [] .full,.sl [] .full] [.sl r .non,.int .i64 s.length]) d2P=match y with
  |.ok fr' σ' pd'=>dops tbT (gam G_wP) (qaI (sq1 (sq2 kP6))).toList ((qaI (sq1 (sq2 kP6))).toList.drop 3) fr' σ' pd'
  |y=>some y:=by
 conv=>lhs;arg 4;rw [zaa9]
 rw [qcg (fr':=(f6P s r n).set 27 (.fn 34 [])) (σ':=s6P n [.sl [] .full,.sl [] .full,.sl [] .full] [.sl r .non,.int .i64 s.length]) (pd':=d2P) (by kernel_rfl) (by kernel_rfl),qcg (fr':=f7P s r n) (σ':=s6P n [.sl [] .full,.sl [] .full,.sl [] .full] [.sl r .non,.int .i64 s.length]) (pd':=d2P) (by kernel_rfl) (by kernel_rfl)]
 cases y with
 |ok fr' σ' pd'=>exact qcg (by kernel_rfl) h
 |pan x fr' σ' pd'=>exact qqw (by kernel_rfl) h
theorem qVK {q:Option (PExit×List PV×Store×List PD)} (hw:(qaW [.str s]).run=some (.tup [.sl r .non,.int .i64 n,.int .i64 0]))
  (h:dexec tbT (gam G_wP) (.seq (.region 7 (qaI (sq1 (sq2 kP6))) false) (.seq (.seq (.region 8 (qaI (sq1 (sq1 kP8))) false) (.cond (.tmp 36) (.region 9 (qaI (sq1 (sq2 (sq1 kP8)))) false) .skip)) (sq2 kP8))) (f6P s r n) (s6P n [.sl [] .full,.sl [] .full,.sl [] .full] [.sl r .non,.int .i64 s.length]) d2P=q):dexec tbT (gam G_wP) c_wP (f0P s) ⟨[],[],[]⟩ []=q:=by
 rw [show c_wP=_ from congrArg (·.getD .skip) qZR]
 exact (qbb (wP_0 s)).trans ((qbb (qe2 (wP_1 s r n 0 hw))).trans ((qbb (wP_2 s r n)).trans ((qbb (wP_4 s r n)).trans ((qbb (wP_5 s r n)).trans ((qbb (wP_6 s r n)).trans h)))))
theorem zaaC (hw:(qaW [.str s]).run=some (.tup [.sl r .non,.int .i64 n,.int .i64 0])) {y:PV} {c':List PV} {os:List (List PV)} {tk:List (Nat×Nat×TypeId)} {ts:List TypeId}
  (hv:(qsz [.ptr 0 0] ⟨[[.sl (qac r) .non,.int .i64 s.length]],[],[138]⟩).run=some (.pan y,⟨c'::os,tk,138::ts⟩)) :
  dexec tbT (gam G_wP) c_wP (f0P s) ⟨[],[],[]⟩ []=some (.pan y,f7P s r n,s6P n [.sl [] .full,.sl [] .full,.sl [] .full] (qbt c'),d2P):=by
 have hf:(frameT qsz [.ptr 3 0] (s6P n [.sl [] .full,.sl [] .full,.sl [] .full] [.sl r .non,.int .i64 s.length])).run=some (.pan y,s6P n [.sl [] .full,.sl [] .full,.sl [] .full] (qbt c')):=(qh0 (D:=qsz) (args:=[.ptr 3 0]) (σ:=s6P n [.sl [] .full,.sl [] .full,.sl [] .full] [.sl r .non,.int .i64 s.length]) rfl rfl rfl hv).trans (by kernel_rfl)
 refine qVK s r n hw (qmw (qmu ?_));refine wP_7 s r n (y:=.pan y (f7P s r n) (s6P n [.sl [] .full,.sl [] .full,.sl [] .full] (qbt c')) d2P) ?_;rw [zaaP,qZG,hf];simp only [qkS,dfin,zabm,hf,qrf,Option.map_some]
theorem qVx (hw:(qaW [.str s]).run=some (.tup [.sl r .non,.int .i64 n,.int .i64 0])) {a b c:List (List PV)} {r':List (List PV)} {m:Int}
  (hv:(qsz [.ptr 0 0] ⟨[[.sl (qac r) .non,.int .i64 s.length]],[],[138]⟩).run=some (.val (.agg [.sl a .non,.sl b .non,.sl c .non]),⟨[[.sl r' .non,.int .i64 m]],[],[138]⟩)) {q:Option (PExit×List PV×Store×List PD)}
  (h:dexec tbT (gam G_wP) (.seq (.seq (.region 8 (qaI (sq1 (sq1 kP8))) false) (.cond (.tmp 36) (.region 9 (qaI (sq1 (sq2 (sq1 kP8)))) false) .skip)) (sq2 kP8)) ((f7P s r n).set 29 (.agg [.sl (qaa a) .non,.sl (qaa b) .non,.sl (qaa c) .non])) (s6P n [.sl (qaa a) .non,.sl (qaa b) .non,.sl (qaa c) .non] [.sl (qaa r') .non,.int .i64 m]) d2P=q) :
  dexec tbT (gam G_wP) c_wP (f0P s) ⟨[],[],[]⟩ []=q:=by
 have hf:(frameT qsz [.ptr 3 0] (s6P n [.sl [] .full,.sl [] .full,.sl [] .full] [.sl r .non,.int .i64 s.length])).run=some (.val (.agg [.sl (qaa a) .non,.sl (qaa b) .non,.sl (qaa c) .non]),s6P n [.sl [] .full,.sl [] .full,.sl [] .full] [.sl (qaa r') .non,.int .i64 m]):=(qh0 (D:=qsz) (args:=[.ptr 3 0]) (σ:=s6P n [.sl [] .full,.sl [] .full,.sl [] .full] [.sl r .non,.int .i64 s.length]) rfl rfl rfl hv).trans (by kernel_rfl)
 refine qVK s r n hw ((qbb (qe2 ?_)).trans h);refine (wP_7 s r n (y:=.ok ((f7P s r n).set 29 (.agg [.sl (qaa a) .non,.sl (qaa b) .non,.sl (qaa c) .non])) (s6P n [.sl [] .full,.sl [] .full,.sl [] .full] [.sl (qaa r') .non,.int .i64 m]) d2P) ?_).trans ?_
 ·rw [zaaP,qZG,hf]
  kernel_rfl
 ·kernel_rfl
def f8P (fr:List PV) (rr:qR) (b:Bool):List PV:=((((((fr.set 30 (.ptr 3 0)).set 31 (.ptr 3 0)).set 32 (.ptr 3 0)).set 33 (.ptr 3 0)).set 34 (.sl rr .non)).set 35 (.int .i64 rr.length)).set 36 (.bool b)
variable  (a b c : List (List PV)) (rr : List (List PV)) (m : Int)
theorem wP_8:dops tbT (gam G_wP) (qaI (sq1 (sq1 kP8))).toList (qaI (sq1 (sq1 kP8))).toList ((f7P s r n).set 29 (.agg [.sl (qaa a) .non,.sl (qaa b) .non,.sl (qaa c) .non])) (s6P n [.sl (qaa a) .non,.sl (qaa b) .non,.sl (qaa c) .non] [.sl rr .non,.int .i64 m]) d2P=some (.ok (f8P ((f7P s r n).set 29 (.agg [.sl (qaa a) .non,.sl (qaa b) .non,.sl (qaa c) .non])) rr (decide ((rr.length:Int) > 0))) (s6P n [.sl (qaa a) .non,.sl (qaa b) .non,.sl (qaa c) .non] [.sl rr .non,.int .i64 m]) d2P):=by kernel_rfl
theorem zaaQ:dexec tbT (gam G_wP) (.seq (.seq (.region 8 (qaI (sq1 (sq1 kP8))) false) (.cond (.tmp 36) (.region 9 (qaI (sq1 (sq2 (sq1 kP8)))) false) .skip)) (sq2 kP8)) ((f7P s r n).set 29 (.agg [.sl (qaa a) .non,.sl (qaa b) .non,.sl (qaa c) .non])) (s6P n [.sl (qaa a) .non,.sl (qaa b) .non,.sl (qaa c) .non] [.sl [] .non,.int .i64 m]) d2P=some (.ret,(f8P ((f7P s r n).set 29 (.agg [.sl (qaa a) .non,.sl (qaa b) .non,.sl (qaa c) .non])) [] false).set 39 (.agg [.sl (qaa a) .non,.sl (qaa b) .non,.sl (qaa c) .non]),s6P 0 [.sl (qaa a) .non,.sl (qaa b) .non,.sl (qaa c) .non] [.sl [] .non,.int .i64 m],d2P):=by
 refine (qbb ((qbb (qe2 (wP_8 s r n a b c [] m))).trans (qAp (by kernel_rfl)))).trans ?_
 kernel_rfl
def o9P:Oper:=opAt (sq1 (sq2 (sq1 kP8))) 1
theorem qXH (x:List PV) {y:PV} {c':List PV} {os:List (List PV)} {tk:List (Nat×Nat×TypeId)} {ts:List TypeId} (hv:(qfo [.ptr 0 0] ⟨[[.sl (qac (x::rr)) .non,.int .i64 m]],[],[138]⟩).run=some (.pan y,⟨c'::os,tk,138::ts⟩)) :
  dexec tbT (gam G_wP) (.seq (.seq (.region 8 (qaI (sq1 (sq1 kP8))) false) (.cond (.tmp 36) (.region 9 (qaI (sq1 (sq2 (sq1 kP8)))) false) .skip)) (sq2 kP8)) ((f7P s r n).set 29 (.agg [.sl (qaa a) .non,.sl (qaa b) .non,.sl (qaa c) .non])) (s6P n [.sl (qaa a) .non,.sl (qaa b) .non,.sl (qaa c) .non] [.sl (x::rr) .non,.int .i64 m]) d2P=some (.pan y,(f8P ((f7P s r n).set 29 (.agg [.sl (qaa a) .non,.sl (qaa b) .non,.sl (qaa c) .non])) (x::rr) true).set 37 (.ptr 3 0),s6P n [.sl (qaa a) .non,.sl (qaa b) .non,.sl (qaa c) .non] (qbt c'),d2P):=by
 have hb:decide ((((x::rr).length:Nat):Int) > 0)=true:=by simp only [List.length_cons,decide_eq_true_eq];omega
 have hf:(frameT qfo [.ptr 3 0] (s6P n [.sl (qaa a) .non,.sl (qaa b) .non,.sl (qaa c) .non] [.sl (x::rr) .non,.int .i64 m])).run=some (.pan y,s6P n [.sl (qaa a) .non,.sl (qaa b) .non,.sl (qaa c) .non] (qbt c')):=(qh0 (D:=qfo) (args:=[.ptr 3 0]) (σ:=s6P n [.sl (qaa a) .non,.sl (qaa b) .non,.sl (qaa c) .non] [.sl (x::rr) .non,.int .i64 m]) rfl rfl rfl hv).trans (by kernel_rfl)
 have h8:=wP_8 s r n a b c (x::rr) m;rw [hb] at h8;have ho:(qaI (sq1 (sq2 (sq1 kP8)))).toList=[opAt (sq1 (sq2 (sq1 kP8))) 0,o9P]:=by kernel_rfl
 refine qmw ((qbb (qe2 h8)).trans ((qAe (by kernel_rfl)).trans (qmu ?_)))
 conv=>lhs;arg 4;rw [ho]
 rw [qcg (fr':=(f8P ((f7P s r n).set 29 (.agg [.sl (qaa a) .non,.sl (qaa b) .non,.sl (qaa c) .non])) (x::rr) true).set 37 (.ptr 3 0)) (σ':=s6P n [.sl (qaa a) .non,.sl (qaa b) .non,.sl (qaa c) .non] [.sl (x::rr) .non,.int .i64 m]) (pd':=d2P) (by kernel_rfl) (by kernel_rfl)]
 refine qqw (by kernel_rfl) ?_
 have hd:dop tbT (gam G_wP) ((f8P ((f7P s r n).set 29 (.agg [.sl (qaa a) .non,.sl (qaa b) .non,.sl (qaa c) .non])) (x::rr) true).set 37 (.ptr 3 0)) (s6P n [.sl (qaa a) .non,.sl (qaa b) .non,.sl (qaa c) .non] [.sl (x::rr) .non,.int .i64 m]) d2P o9P=dfin (gam G_wP) ((f8P ((f7P s r n).set 29 (.agg [.sl (qaa a) .non,.sl (qaa b) .non,.sl (qaa c) .non])) (x::rr) true).set 37 (.ptr 3 0)) (s6P n [.sl (qaa a) .non,.sl (qaa b) .non,.sl (qaa c) .non] [.sl (x::rr) .non,.int .i64 m]) d2P o9P (qkS (frameT qfo [.ptr 3 0] (s6P n [.sl (qaa a) .non,.sl (qaa b) .non,.sl (qaa c) .non] [.sl (x::rr) .non,.int .i64 m])).run):=by kernel_rfl
 have hp:ppan (gam G_wP) ((f8P ((f7P s r n).set 29 (.agg [.sl (qaa a) .non,.sl (qaa b) .non,.sl (qaa c) .non])) (x::rr) true).set 37 (.ptr 3 0)) (s6P n [.sl (qaa a) .non,.sl (qaa b) .non,.sl (qaa c) .non] [.sl (x::rr) .non,.int .i64 m]) o9P=qrf (frameT qfo [.ptr 3 0] (s6P n [.sl (qaa a) .non,.sl (qaa b) .non,.sl (qaa c) .non] [.sl (x::rr) .non,.int .i64 m])).run:=by kernel_rfl
 rw [hd,hf];simp only [qkS,dfin,hp,hf,qrf,Option.map_some]
end
def finP:Option (PR×Store)→Option PV
 |some (.val (.agg [.sl a .non,.sl b .non,.sl c .non]),⟨[[.sl r' .non,.int .i64 m]],[],[138]⟩)=>match qaa r' with
  |[]=>some (.tup [.agg [.sl (qaa (qaa a)) .non,.sl (qaa (qaa b)) .non,.sl (qaa (qaa c)) .non],.int .i64 0,.int .i64 0])
  |x::rr=>qoh [.sl [] .non,.sl [] .non,.sl [] .non] (qfo [.ptr 0 0] ⟨[[.sl (qac (x::rr)) .non,.int .i64 m]],[],[138]⟩).run
 |q=>qoh [.sl [] .non,.sl [] .non,.sl [] .non] q
def outP (s:qU):Option PV:=match (qaW [.str s]).run with
 |some (.tup [.sl r .non,.int .i64 n,.int .i64 e])=>match e != 0 with
  |true=>some (.tup [.agg [.sl [] .non,.sl [] .non,.sl [] .non],.int .i64 n,.int .i64 e])
  |false=>finP (qsz [.ptr 0 0] ⟨[[.sl (qac r) .non,.int .i64 s.length]],[],[138]⟩).run
 |_=>none
def FwP:List PV→Option PV
 |[.str s,.fn 34 []]=>outP s
 |_=>none
def FwP1:List PV→Option PV
 |[.str s,.fn 34 []]=>match qCf (qaW [.str s]).run with
  |true=>outP s
  |false=>none
 |_=>none
def FwP2:List PV→Option PV
 |[.str s,.fn 34 []]=>match qCf (qaW [.str s]).run with
  |true=>none
  |false=>outP s
 |_=>none
theorem qXZ (gl:Gl) (hg:GlLex gl):SimP Tryz.prog gl 33 FwP1:=by
 refine SimP.of_does qaj Tryz.func33 (c:=c_wP) (by kernel_rfl) (by kernel_rfl) fun args x hx hrel=>?_
 clear hrel;unfold FwP1 at hx;split at hx
 ·rename_i s;split at hx
  ·rename_i hea;unfold outP at hx;split at hx
   ·rename_i r n e hw;have he:(e != 0)=true:=by rw [hw] at hea;exact hea
    rw [he] at hx;simp only [Option.some.injEq] at hx;subst hx;refine⟨.ret,fEP s r n e (e != 0),sBP n e,[.agg [.sl [] .full,.sl [] .full,.sl [] .full],.int .i64 n,.int .i64 e],.inr rfl,?_,by kernel_rfl,by kernel_rfl⟩
    rw [show [PV.str s,PV.fn 34 []]++List.replicate (Tryz.f33.ntmps - [PV.str s,PV.fn 34 []].length) PV.top=f0P s from by kernel_rfl]
    exact qTn s r n e gl hg hw he
   ·cases hx
  ·cases hx
 ·cases hx
theorem qXW (gl:Gl) (hg:GlLex gl):SimP Tryz.prog gl 33 FwP2:=by
 refine SimP.of_defer qaj (qHl gl hg) Tryz.func33 (c:=c_wP) (by kernel_rfl) (by kernel_rfl) fun args x hx=>?_
 unfold FwP2 at hx;split at hx
 ·rename_i s;split at hx
  ·cases hx
  rename_i hea;unfold outP at hx;split at hx
  ·rename_i r n e hw;have he:(e != 0)=false:=by rw [hw] at hea;exact hea
   rw [he] at hx;have he0:e=0:=by simpa using he
   subst he0;have hs:[PV.str s,PV.fn 34 []]++List.replicate (Tryz.f33.ntmps - [PV.str s,PV.fn 34 []].length) PV.top=f0P s:=by kernel_rfl
   rw [hs];simp only at hx;unfold finP at hx;split at hx
   ·rename_i a b c r' m hv;split at hx
    ·rename_i hr;simp only [Option.some.injEq] at hx;subst hx;refine⟨.ret,.ret,_,_,_,s6P 0 [.sl (qaa a) .non,.sl (qaa b) .non,.sl (qaa c) .non] [.sl [] .non,.int .i64 m],[.agg [.sl (qaa a) .non,.sl (qaa b) .non,.sl (qaa c) .non],.int .i64 0,.int .i64 0],qVx s r n hw hv (q:=some (.ret,(f8P ((f7P s r n).set 29 (.agg [.sl (qaa a) .non,.sl (qaa b) .non,.sl (qaa c) .non])) [] false).set 39 (.agg [.sl (qaa a) .non,.sl (qaa b) .non,.sl (qaa c) .non]),s6P 0 [.sl (qaa a) .non,.sl (qaa b) .non,.sl (qaa c) .non] [.sl [] .non,.int .i64 m],d2P)) (by rw [hr];exact zaaQ s r n a b c m),.inl ⟨rfl,rfl⟩,?_,by kernel_rfl,by kernel_rfl⟩
     exact .cons (qVF gl _ _ _ _) (.cons (qWC gl _ _ _) (.nil _))
    ·rename_i x rr hr;obtain⟨at_,c',os,tk,ts,hb,hwf,rfl⟩:=qj9 hx;refine⟨_,.pan (.iface 172 (.agg [.int .i64 at_])),_,_,_,⟨[[.sl [] .full,.sl [] .full,.sl [] .full],[.int .i64 at_],[.int .i64 130],qbt c',[.int .i64 at_],[.sl [] .full,.sl [] .full,.sl [] .full]],[],[27,3,28,138,172,27]⟩,[.agg [.sl [] .full,.sl [] .full,.sl [] .full],.int .i64 at_,.int .i64 130],qVx s r n hw hv (q:=some (.pan (.iface 172 (.agg [.int .i64 at_])),(f8P ((f7P s r n).set 29 (.agg [.sl (qaa a) .non,.sl (qaa b) .non,.sl (qaa c) .non])) (x::rr) true).set 37 (.ptr 3 0),s6P n [.sl (qaa a) .non,.sl (qaa b) .non,.sl (qaa c) .non] (qbt c'),d2P)) (by rw [hr];exact qXH s r n a b c rr m x hb),.inr ⟨_,rfl,rfl⟩,?_,by kernel_rfl,by kernel_rfl⟩
     exact .cons (qMQ gl _ _ _ _ _ hwf) (.cons (qX0 gl (qaa a) (qaa b) (qaa c) _ _ _) (.nil _))
   ·obtain⟨at_,c',os,tk,ts,hb,hwf,rfl⟩:=qj9 hx;refine⟨_,.pan (.iface 172 (.agg [.int .i64 at_])),_,_,_,⟨[[.sl [] .full,.sl [] .full,.sl [] .full],[.int .i64 at_],[.int .i64 130],qbt c',[.int .i64 at_],[.sl [] .full,.sl [] .full,.sl [] .full]],[],[27,3,28,138,172,27]⟩,[.agg [.sl [] .full,.sl [] .full,.sl [] .full],.int .i64 at_,.int .i64 130],zaaC s r n hw hb,.inr ⟨_,rfl,rfl⟩,?_,by kernel_rfl,by kernel_rfl⟩
    exact .cons (qMQ gl _ _ _ _ _ hwf) (.cons (qVc gl _ _ _) (.nil _))
  ·cases hx
 ·cases hx
theorem qV1 (gl:Gl) (hg:GlLex gl):SimP Tryz.prog gl 33 FwP:=by
 refine SimP.or (qXZ gl hg) (qXW gl hg) fun args x hx=>?_
 unfold FwP at hx;split at hx
 ·rename_i s;cases he:qCf (qaW [.str s]).run with
  |true=>exact .inl (by simp only [FwP1,he,hx])
  |false=>exact .inr (by simp only [FwP2,he,hx])
 ·cases hx
theorem qXh (gl:Gl) (o0:List PV) (n:Int) (rc:List PV):DefOk Tryz.prog gl 105 ([]++[.ptr 2 0,.ptr 0 0]) .ret ⟨[o0,[.int .i64 n],[.int .i64 0],rc],[],[51,3,28,138]⟩ .ret ⟨[o0,[.int .i64 n],[.int .i64 0],rc],[],[51,3,28,138]⟩ :=
 DefOk.of_quiet (e:=.normal) qaj (qvf gl) Tryz.func105 (by rfl) (by kernel_rfl) (by rfl) (.inl rfl) (by kernel_rfl)
theorem qWW (gl:Gl) (a:qU) (b c:qR) (at_:Int) (rc x:List PV):DefOk Tryz.prog gl 105 ([]++[.ptr 2 0,.ptr 0 0]) .ret ⟨[[.str a,.sl b .non,.sl c .non],[.int .i64 at_],[.int .i64 130],rc,x],[],[51,3,28,138,172]⟩ .ret ⟨[[.str [],.sl [] .full,.sl [] .full],[.int .i64 at_],[.int .i64 130],rc,x,[.str [],.sl [] .full,.sl [] .full]],[],[51,3,28,138,172,51]⟩ :=
 DefOk.of_quiet (e:=.normal) qaj (qvf gl) Tryz.func105 (by rfl) (by kernel_rfl) (by rfl) (.inl rfl) (by kernel_rfl)
theorem qTC (gl:Gl) (at_:Int) (rc x:List PV):DefOk Tryz.prog gl 105 ([]++[.ptr 2 0,.ptr 0 0]) .ret ⟨[[.str [],.sl [] .full,.sl [] .full],[.int .i64 at_],[.int .i64 130],rc,x],[],[51,3,28,138,172]⟩ .ret ⟨[[.str [],.sl [] .full,.sl [] .full],[.int .i64 at_],[.int .i64 130],rc,x,[.str [],.sl [] .full,.sl [] .full]],[],[51,3,28,138,172,51]⟩ :=
 DefOk.of_quiet (e:=.normal) qaj (qvf gl) Tryz.func105 (by rfl) (by kernel_rfl) (by rfl) (.inl rfl) (by kernel_rfl)
def G_wR:GamT:=ofL [(82,.pure qaW),(46,.may (frameT qro)),(85,.may (frameT qfo)),(qd7,.flag)]
theorem qHa (gl:Gl) (hg:GlLex gl):qal Tryz.prog gl (gam G_wR):=qag (qCo gl hg) (qah (SimM.frameT (qXq gl)) (qah (SimM.frameT (qtV gl)) (qbO qaf)))
def c_wR:Code:=(Tryz.f45.body).getD .skip
def kR2:Code:=sq2 (sq2 c_wR)
def kR3:Code:=sq2 kR2
def kR6:Code:=sq2 (sq2 kR3)
def kR8:Code:=sq2 (sq2 kR6)
theorem qZY:Tryz.f45.body=some (.seq (.region 0 (qaI (sq1 c_wR)) false) (.seq (.region 1 (qaI (sq1 (sq2 c_wR))) false) (.seq (.seq (.region 2 (qaI (sq1 (sq1 kR2))) false) (.cond (.tmp 16) (.seq (.region 3 (qaI (sq1 (sq1 (sq2 (sq1 kR2))))) true) .ret) .skip)) (.seq (sq1 kR3) (.seq (sq1 (sq2 kR3)) (.seq (sq1 kR6) (.seq (.region 7 (qaI (sq1 (sq2 kR6))) false) (.seq (.seq (.region 8 (qaI (sq1 (sq1 kR8))) false) (.cond (.tmp 36) (.region 9 (qaI (sq1 (sq2 (sq1 kR8)))) false) .skip)) (sq2 kR8))))))))):=by kernel_rfl
section
variable (s : List UInt8) (r : List (List PV)) (n e : Int)
def f0R:List PV:=[.str s,.fn 46 []]++List.replicate 38 .top
def fAR:List PV:=(((f0R s).set 4 (.ptr 0 0)).set 5 (.ptr 1 0)).set 6 (.ptr 2 0)
def owR:PV:=.tup [.sl r .non,.int .i64 n,.int .i64 e]
def fBR:List PV:=(((((((fAR s).set 10 (.str s)).set 11 (owR r n e)).set 9 (owR r n e)).set 12 (.sl r .non)).set 13 (.int .i64 n)).set 14 (.int .i64 e)).set 7 (.sl r .non)
def fCR (b:Bool):List PV:=((fBR s r n e).set 15 (.int .i64 e)).set 16 (.bool b)
def fER (b:Bool):List PV:=(((fCR s r n e b).set 17 (.agg [.str [],.sl [] .full,.sl [] .full])).set 18 (.int .i64 n)).set 19 (.int .i64 e)
def sBR:Store:=⟨[[.str [],.sl [] .full,.sl [] .full],[.int .i64 n],[.int .i64 e]],[],[51,3,28]⟩
theorem wR_0:dexec tbT (gam G_wR) (.region 0 (qaI (sq1 c_wR)) false) (f0R s) ⟨[],[],[]⟩ []=some (.normal,fAR s,sBR 0 0,[]):=by kernel_rfl
theorem zaaX:pops tbT (gam G_wR) (qaI (sq1 c_wR)).toList (qaI (sq1 c_wR)).toList (f0R s) ⟨[],[],[]⟩=some (fAR s,sBR 0 0):=by kernel_rfl
variable (hw : (qaW [.str s]).run = some (.tup [.sl r .non, .int .i64 n, .int .i64 e]))
include hw
theorem wR_c:pop tbT (gam G_wR) ((fAR s).set 10 (.str s)) (sBR 0 0) (opAt (sq1 (sq2 c_wR)) 1)=some (owR r n e,sBR 0 0):=by
 have h:pop tbT (gam G_wR) ((fAR s).set 10 (.str s)) (sBR 0 0) (opAt (sq1 (sq2 c_wR)) 1)=(qaW [.str s]).run.map fun x=>(x,sBR 0 0):=by kernel_rfl
 rw [h,hw];rfl
theorem wR_1:dops tbT (gam G_wR) (qaI (sq1 (sq2 c_wR))).toList (qaI (sq1 (sq2 c_wR))).toList (fAR s) (sBR 0 0) []=some (.ok (fBR s r n e) (sBR n e) []):=by
 have h0:(qaI (sq1 (sq2 c_wR))).toList=opAt (sq1 (sq2 c_wR)) 0::opAt (sq1 (sq2 c_wR)) 1::(qaI (sq1 (sq2 c_wR))).toList.drop 2:=by kernel_rfl
 have h1:dop tbT (gam G_wR) ((fAR s).set 10 (.str s)) (sBR 0 0) [] (opAt (sq1 (sq2 c_wR)) 1)=dfin (gam G_wR) ((fAR s).set 10 (.str s)) (sBR 0 0) [] (opAt (sq1 (sq2 c_wR)) 1) (pop tbT (gam G_wR) ((fAR s).set 10 (.str s)) (sBR 0 0) (opAt (sq1 (sq2 c_wR)) 1)):=by kernel_rfl
 rw [wR_c s r n e hw] at h1
 conv=>lhs;arg 4;rw [h0]
 rw [qcg (fr':=(fAR s).set 10 (.str s)) (σ':=sBR 0 0) (pd':=[]) (by kernel_rfl) (by kernel_rfl),qcg (fr':=((fAR s).set 10 (.str s)).set 11 (owR r n e)) (σ':=sBR 0 0) (pd':=[]) (by kernel_rfl) (h1.trans (by kernel_rfl))]
 kernel_rfl
theorem zaa3:pops tbT (gam G_wR) (qaI (sq1 (sq2 c_wR))).toList (qaI (sq1 (sq2 c_wR))).toList (fAR s) (sBR 0 0)=some (fBR s r n e,sBR n e):=by
 have h0:(qaI (sq1 (sq2 c_wR))).toList=opAt (sq1 (sq2 c_wR)) 0::opAt (sq1 (sq2 c_wR)) 1::(qaI (sq1 (sq2 c_wR))).toList.drop 2:=by kernel_rfl
 conv=>lhs;arg 4;rw [h0]
 rw [qru (x:=.str s) (σ':=sBR 0 0) (by kernel_rfl) (by kernel_rfl)]
 refine (qru (x:=owR r n e) (σ':=sBR 0 0) (by kernel_rfl) (wR_c s r n e hw)).trans ?_
 kernel_rfl
end
section
variable (s : List UInt8) (r : List (List PV)) (n e : Int)
theorem zaa4:pops tbT (gam G_wR) (qaI (sq1 (sq1 kR2))).toList (qaI (sq1 (sq1 kR2))).toList (fBR s r n e) (sBR n e)=some (fCR s r n e (e != 0),sBR n e):=by kernel_rfl
def r3R:Code:=sq1 (sq1 (sq2 (sq1 kR2)))
theorem wR_3 (b:Bool):qkT tbT (gam G_wR) (qaI r3R).toList (qaI r3R).toList 0 [] (fCR s r n e b) (sBR n e)=some (.ok (fER s r n e b) (sBR n e)):=by
 have h0:(qaI r3R).toList=[opAt r3R 0,opAt r3R 1,opAt r3R 2,opAt r3R 3,opAt r3R 4,opAt r3R 5]:=by kernel_rfl
 conv=>lhs;arg 4;rw [h0]
 refine (qbL (x:=.agg [.str [],.sl [] .full,.sl [] .full]) (σ':=sBR n e) (by kernel_rfl) (by kernel_rfl) (fun h=>absurd h (by rw [show writes (gam G_wR) (opAt r3R 0)=false from by kernel_rfl];simp))).trans ?_
 refine (qbL (x:=.int .i64 n) (σ':=sBR n e) (by kernel_rfl) (by kernel_rfl) (fun h=>absurd h (by rw [show writes (gam G_wR) (opAt r3R 1)=false from by kernel_rfl];simp))).trans ?_
 refine (qbL (x:=.int .i64 e) (σ':=sBR n e) (by kernel_rfl) (by kernel_rfl) (fun h=>absurd h (by rw [show writes (gam G_wR) (opAt r3R 2)=false from by kernel_rfl];simp))).trans ?_
 refine (qbL (x:=.top) (σ':=sBR n e) (by kernel_rfl) (by kernel_rfl) (fun _=>?_)).trans ?_
 ·exact qiJ (l':=[(2,2),(1,1),(0,0)]) (by kernel_rfl) ⟨.inr rfl,.inr rfl,.inr rfl,trivial⟩
 refine (qbL (x:=.top) (σ':=sBR n e) (by kernel_rfl) (by kernel_rfl) (fun _=>?_)).trans ?_
 ·exact qiJ (l':=[(2,2),(1,1),(0,0)]) (by kernel_rfl) ⟨.inr rfl,.inr rfl,.inr rfl,trivial⟩
 refine (qbL (x:=.top) (σ':=sBR n e) (by kernel_rfl) (by kernel_rfl) (fun _=>?_)).trans ?_
 ·exact qiJ (l':=[(2,2),(1,1),(0,0)]) (by kernel_rfl) ⟨.inr rfl,.inr rfl,.inr rfl,trivial⟩
 kernel_rfl
theorem qU0 (gl:Gl) (hg:GlLex gl) (hw:(qaW [.str s]).run=some (.tup [.sl r .non,.int .i64 n,.int .i64 e])) (he:(e != 0)=true):Does Tryz.prog gl c_wR (f0R s) ⟨[],[],[]⟩ .ret (fER s r n e (e != 0)) (sBR n e):=by
 rw [show c_wR=_ from congrArg (·.getD .skip) qZY]
 exact Does.seqN (Does.reg qaj (qHa gl hg) (zaaX s)) (Does.seqN (Does.reg qaj (qHa gl hg) (zaa3 s r n e hw)) (Does.seqR (Does.seqN (Does.reg qaj (qHa gl hg) (zaa4 s r n e)) (Does.condT (by rw [he];rfl) (Does.seqN (Does.regD qaj (qHa gl hg) qai (by kernel_rfl) (wR_3 s r n e _)) Does.ret)))))
def f4R:List PV:=(fCR s r n 0 false).set 20 (.fn 105 [.ptr 2 0,.ptr 0 0])
def d1R:List PD:=[(105,[],[.ptr 2 0,.ptr 0 0])]
def d2R:List PD:=(84,[.ptr 1 0,.ptr 2 0],[])::d1R
def f6R:List PV:=(((((((f4R s r n).set 21 (.sl r .non)).set 22 (.agg [.sl r .non])).set 23 (.str s)).set 24 (.int .i64 s.length)).set 25 (.agg [.sl r .non,.int .i64 s.length])).set 26 (.ptr 3 0)).set 8 (.ptr 3 0)
def s6R (z:List PV) (rc:List PV):Store:=⟨[z,[.int .i64 n],[.int .i64 0],rc],[],[51,3,28,138]⟩
theorem wR_2:dexec tbT (gam G_wR) (.seq (.region 2 (qaI (sq1 (sq1 kR2))) false) (.cond (.tmp 16) (.seq (.region 3 (qaI (sq1 (sq1 (sq2 (sq1 kR2))))) true) .ret) .skip)) (fBR s r n 0) (sBR n 0) []=some (.normal,fCR s r n 0 false,sBR n 0,[]):=by kernel_rfl
theorem wR_4:dexec tbT (gam G_wR) (sq1 kR3) (fCR s r n 0 false) (sBR n 0) []=some (.normal,f4R s r n,sBR n 0,d1R):=by kernel_rfl
theorem wR_5:dexec tbT (gam G_wR) (sq1 (sq2 kR3)) (f4R s r n) (sBR n 0) d1R=some (.normal,f4R s r n,sBR n 0,d2R):=by kernel_rfl
theorem wR_6:dexec tbT (gam G_wR) (sq1 kR6) (f4R s r n) (sBR n 0) d2R=some (.normal,f6R s r n,s6R n [.str [],.sl [] .full,.sl [] .full] [.sl r .non,.int .i64 s.length],d2R):=by kernel_rfl
def f7R:List PV:=((f6R s r n).set 27 (.fn 46 [])).set 28 (.ptr 3 0)
def o7R:Oper:=opAt (sq1 (sq2 kR6)) 2
theorem zabn:(qaI (sq1 (sq2 kR6))).toList=opAt (sq1 (sq2 kR6)) 0::opAt (sq1 (sq2 kR6)) 1::o7R::(qaI (sq1 (sq2 kR6))).toList.drop 3:=by kernel_rfl
theorem qZD:dop tbT (gam G_wR) (f7R s r n) (s6R n [.str [],.sl [] .full,.sl [] .full] [.sl r .non,.int .i64 s.length]) d2R o7R=dfin (gam G_wR) (f7R s r n) (s6R n [.str [],.sl [] .full,.sl [] .full] [.sl r .non,.int .i64 s.length]) d2R o7R (pop tbT (gam G_wR) (f7R s r n) (s6R n [.str [],.sl [] .full,.sl [] .full] [.sl r .non,.int .i64 s.length]) o7R):=by kernel_rfl
theorem zaaE:pop tbT (gam G_wR) (f7R s r n) (s6R n [.str [],.sl [] .full,.sl [] .full] [.sl r .non,.int .i64 s.length]) o7R=qkS (frameT qro [.ptr 3 0] (s6R n [.str [],.sl [] .full,.sl [] .full] [.sl r .non,.int .i64 s.length])).run:=by kernel_rfl
theorem zaa2:ppan (gam G_wR) (f7R s r n) (s6R n [.str [],.sl [] .full,.sl [] .full] [.sl r .non,.int .i64 s.length]) o7R=qrf (frameT qro [.ptr 3 0] (s6R n [.str [],.sl [] .full,.sl [] .full] [.sl r .non,.int .i64 s.length])).run:=by kernel_rfl
theorem wR_7 {y:DR} (h:dop tbT (gam G_wR) (f7R s r n) (s6R n [.str [],.sl [] .full,.sl [] .full] [.sl r .non,.int .i64 s.length]) d2R o7R=some y):dops tbT (gam G_wR) (qaI (sq1 (sq2 kR6))).toList (qaI (sq1 (sq2 kR6))).toList (f6R s r n) (s6R n [.str [],.sl [] .full,.sl [] .full] [.sl r .non,.int .i64 s.length]) d2R=match y with
  |.ok fr' σ' pd'=>dops tbT (gam G_wR) (qaI (sq1 (sq2 kR6))).toList ((qaI (sq1 (sq2 kR6))).toList.drop 3) fr' σ' pd'
  |y=>some y:=by
 conv=>lhs;arg 4;rw [zabn]
 rw [qcg (fr':=(f6R s r n).set 27 (.fn 46 [])) (σ':=s6R n [.str [],.sl [] .full,.sl [] .full] [.sl r .non,.int .i64 s.length]) (pd':=d2R) (by kernel_rfl) (by kernel_rfl),qcg (fr':=f7R s r n) (σ':=s6R n [.str [],.sl [] .full,.sl [] .full] [.sl r .non,.int .i64 s.length]) (pd':=d2R) (by kernel_rfl) (by kernel_rfl)]
 cases y with
 |ok fr' σ' pd'=>exact qcg (by kernel_rfl) h
 |pan x fr' σ' pd'=>exact qqw (by kernel_rfl) h
theorem qVA {q:Option (PExit×List PV×Store×List PD)} (hw:(qaW [.str s]).run=some (.tup [.sl r .non,.int .i64 n,.int .i64 0]))
  (h:dexec tbT (gam G_wR) (.seq (.region 7 (qaI (sq1 (sq2 kR6))) false) (.seq (.seq (.region 8 (qaI (sq1 (sq1 kR8))) false) (.cond (.tmp 36) (.region 9 (qaI (sq1 (sq2 (sq1 kR8)))) false) .skip)) (sq2 kR8))) (f6R s r n) (s6R n [.str [],.sl [] .full,.sl [] .full] [.sl r .non,.int .i64 s.length]) d2R=q):dexec tbT (gam G_wR) c_wR (f0R s) ⟨[],[],[]⟩ []=q:=by
 rw [show c_wR=_ from congrArg (·.getD .skip) qZY]
 exact (qbb (wR_0 s)).trans ((qbb (qe2 (wR_1 s r n 0 hw))).trans ((qbb (wR_2 s r n)).trans ((qbb (wR_4 s r n)).trans ((qbb (wR_5 s r n)).trans ((qbb (wR_6 s r n)).trans h)))))
theorem qZ8 (hw:(qaW [.str s]).run=some (.tup [.sl r .non,.int .i64 n,.int .i64 0])) {y:PV} {c':List PV} {os:List (List PV)} {tk:List (Nat×Nat×TypeId)} {ts:List TypeId}
  (hv:(qro [.ptr 0 0] ⟨[[.sl (qac r) .non,.int .i64 s.length]],[],[138]⟩).run=some (.pan y,⟨c'::os,tk,138::ts⟩)) :
  dexec tbT (gam G_wR) c_wR (f0R s) ⟨[],[],[]⟩ []=some (.pan y,f7R s r n,s6R n [.str [],.sl [] .full,.sl [] .full] (qbt c'),d2R):=by
 have hf:(frameT qro [.ptr 3 0] (s6R n [.str [],.sl [] .full,.sl [] .full] [.sl r .non,.int .i64 s.length])).run=some (.pan y,s6R n [.str [],.sl [] .full,.sl [] .full] (qbt c')):=(qh0 (D:=qro) (args:=[.ptr 3 0]) (σ:=s6R n [.str [],.sl [] .full,.sl [] .full] [.sl r .non,.int .i64 s.length]) rfl rfl rfl hv).trans (by kernel_rfl)
 refine qVA s r n hw (qmw (qmu ?_));refine wR_7 s r n (y:=.pan y (f7R s r n) (s6R n [.str [],.sl [] .full,.sl [] .full] (qbt c')) d2R) ?_;rw [qZD,zaaE,hf];simp only [qkS,dfin,zaa2,hf,qrf,Option.map_some]
theorem qVO (hw:(qaW [.str s]).run=some (.tup [.sl r .non,.int .i64 n,.int .i64 0])) {a:List UInt8}{b c:List (List PV)} {r':List (List PV)} {m:Int}
  (hv:(qro [.ptr 0 0] ⟨[[.sl (qac r) .non,.int .i64 s.length]],[],[138]⟩).run=some (.val (.agg [.str a,.sl b .non,.sl c .non]),⟨[[.sl r' .non,.int .i64 m]],[],[138]⟩)) {q:Option (PExit×List PV×Store×List PD)}
  (h:dexec tbT (gam G_wR) (.seq (.seq (.region 8 (qaI (sq1 (sq1 kR8))) false) (.cond (.tmp 36) (.region 9 (qaI (sq1 (sq2 (sq1 kR8)))) false) .skip)) (sq2 kR8)) ((f7R s r n).set 29 (.agg [.str a,.sl (qaa b) .non,.sl (qaa c) .non])) (s6R n [.str a,.sl (qaa b) .non,.sl (qaa c) .non] [.sl (qaa r') .non,.int .i64 m]) d2R=q) :
  dexec tbT (gam G_wR) c_wR (f0R s) ⟨[],[],[]⟩ []=q:=by
 have hf:(frameT qro [.ptr 3 0] (s6R n [.str [],.sl [] .full,.sl [] .full] [.sl r .non,.int .i64 s.length])).run=some (.val (.agg [.str a,.sl (qaa b) .non,.sl (qaa c) .non]),s6R n [.str [],.sl [] .full,.sl [] .full] [.sl (qaa r') .non,.int .i64 m]):=(qh0 (D:=qro) (args:=[.ptr 3 0]) (σ:=s6R n [.str [],.sl [] .full,.sl [] .full] [.sl r .non,.int .i64 s.length]) rfl rfl rfl hv).trans (by kernel_rfl)
 refine qVA s r n hw ((qbb (qe2 ?_)).trans h);refine (wR_7 s r n (y:=.ok ((f7R s r n).set 29 (.agg [.str a,.sl (qaa b) .non,.sl (qaa c) .non])) (s6R n [.str [],.sl [] .full,.sl [] .full] [.sl (qaa r') .non,.int .i64 m]) d2R) ?_).trans ?_
 ·rw [qZD,zaaE,hf]
  kernel_rfl
 ·kernel_rfl
def f8R (fr:List PV) (rr:qR) (b:Bool):List PV:=((((((fr.set 30 (.ptr 3 0)).set 31 (.ptr 3 0)).set 32 (.ptr 3 0)).set 33 (.ptr 3 0)).set 34 (.sl rr .non)).set 35 (.int .i64 rr.length)).set 36 (.bool b)
variable  (a : List UInt8) (b c : List (List PV)) (rr : List (List PV)) (m : Int)
theorem wR_8:dops tbT (gam G_wR) (qaI (sq1 (sq1 kR8))).toList (qaI (sq1 (sq1 kR8))).toList ((f7R s r n).set 29 (.agg [.str a,.sl (qaa b) .non,.sl (qaa c) .non])) (s6R n [.str a,.sl (qaa b) .non,.sl (qaa c) .non] [.sl rr .non,.int .i64 m]) d2R=some (.ok (f8R ((f7R s r n).set 29 (.agg [.str a,.sl (qaa b) .non,.sl (qaa c) .non])) rr (decide ((rr.length:Int) > 0))) (s6R n [.str a,.sl (qaa b) .non,.sl (qaa c) .non] [.sl rr .non,.int .i64 m]) d2R):=by kernel_rfl
theorem zaaH:dexec tbT (gam G_wR) (.seq (.seq (.region 8 (qaI (sq1 (sq1 kR8))) false) (.cond (.tmp 36) (.region 9 (qaI (sq1 (sq2 (sq1 kR8)))) false) .skip)) (sq2 kR8)) ((f7R s r n).set 29 (.agg [.str a,.sl (qaa b) .non,.sl (qaa c) .non])) (s6R n [.str a,.sl (qaa b) .non,.sl (qaa c) .non] [.sl [] .non,.int .i64 m]) d2R=some (.ret,(f8R ((f7R s r n).set 29 (.agg [.str a,.sl (qaa b) .non,.sl (qaa c) .non])) [] false).set 39 (.agg [.str a,.sl (qaa b) .non,.sl (qaa c) .non]),s6R 0 [.str a,.sl (qaa b) .non,.sl (qaa c) .non] [.sl [] .non,.int .i64 m],d2R):=by
 refine (qbb ((qbb (qe2 (wR_8 s r n a b c [] m))).trans (qAp (by kernel_rfl)))).trans ?_
 kernel_rfl
def o9R:Oper:=opAt (sq1 (sq2 (sq1 kR8))) 1
theorem qWh (x:List PV) {y:PV} {c':List PV} {os:List (List PV)} {tk:List (Nat×Nat×TypeId)} {ts:List TypeId} (hv:(qfo [.ptr 0 0] ⟨[[.sl (qac (x::rr)) .non,.int .i64 m]],[],[138]⟩).run=some (.pan y,⟨c'::os,tk,138::ts⟩)) :
  dexec tbT (gam G_wR) (.seq (.seq (.region 8 (qaI (sq1 (sq1 kR8))) false) (.cond (.tmp 36) (.region 9 (qaI (sq1 (sq2 (sq1 kR8)))) false) .skip)) (sq2 kR8)) ((f7R s r n).set 29 (.agg [.str a,.sl (qaa b) .non,.sl (qaa c) .non])) (s6R n [.str a,.sl (qaa b) .non,.sl (qaa c) .non] [.sl (x::rr) .non,.int .i64 m]) d2R=some (.pan y,(f8R ((f7R s r n).set 29 (.agg [.str a,.sl (qaa b) .non,.sl (qaa c) .non])) (x::rr) true).set 37 (.ptr 3 0),s6R n [.str a,.sl (qaa b) .non,.sl (qaa c) .non] (qbt c'),d2R):=by
 have hb:decide ((((x::rr).length:Nat):Int) > 0)=true:=by simp only [List.length_cons,decide_eq_true_eq];omega
 have hf:(frameT qfo [.ptr 3 0] (s6R n [.str a,.sl (qaa b) .non,.sl (qaa c) .non] [.sl (x::rr) .non,.int .i64 m])).run=some (.pan y,s6R n [.str a,.sl (qaa b) .non,.sl (qaa c) .non] (qbt c')):=(qh0 (D:=qfo) (args:=[.ptr 3 0]) (σ:=s6R n [.str a,.sl (qaa b) .non,.sl (qaa c) .non] [.sl (x::rr) .non,.int .i64 m]) rfl rfl rfl hv).trans (by kernel_rfl)
 have h8:=wR_8 s r n a b c (x::rr) m;rw [hb] at h8;have ho:(qaI (sq1 (sq2 (sq1 kR8)))).toList=[opAt (sq1 (sq2 (sq1 kR8))) 0,o9R]:=by kernel_rfl
 refine qmw ((qbb (qe2 h8)).trans ((qAe (by kernel_rfl)).trans (qmu ?_)))
 conv=>lhs;arg 4;rw [ho]
 rw [qcg (fr':=(f8R ((f7R s r n).set 29 (.agg [.str a,.sl (qaa b) .non,.sl (qaa c) .non])) (x::rr) true).set 37 (.ptr 3 0)) (σ':=s6R n [.str a,.sl (qaa b) .non,.sl (qaa c) .non] [.sl (x::rr) .non,.int .i64 m]) (pd':=d2R) (by kernel_rfl) (by kernel_rfl)]
 refine qqw (by kernel_rfl) ?_
 have hd:dop tbT (gam G_wR) ((f8R ((f7R s r n).set 29 (.agg [.str a,.sl (qaa b) .non,.sl (qaa c) .non])) (x::rr) true).set 37 (.ptr 3 0)) (s6R n [.str a,.sl (qaa b) .non,.sl (qaa c) .non] [.sl (x::rr) .non,.int .i64 m]) d2R o9R=dfin (gam G_wR) ((f8R ((f7R s r n).set 29 (.agg [.str a,.sl (qaa b) .non,.sl (qaa c) .non])) (x::rr) true).set 37 (.ptr 3 0)) (s6R n [.str a,.sl (qaa b) .non,.sl (qaa c) .non] [.sl (x::rr) .non,.int .i64 m]) d2R o9R (qkS (frameT qfo [.ptr 3 0] (s6R n [.str a,.sl (qaa b) .non,.sl (qaa c) .non] [.sl (x::rr) .non,.int .i64 m])).run):=by kernel_rfl
 have hp:ppan (gam G_wR) ((f8R ((f7R s r n).set 29 (.agg [.str a,.sl (qaa b) .non,.sl (qaa c) .non])) (x::rr) true).set 37 (.ptr 3 0)) (s6R n [.str a,.sl (qaa b) .non,.sl (qaa c) .non] [.sl (x::rr) .non,.int .i64 m]) o9R=qrf (frameT qfo [.ptr 3 0] (s6R n [.str a,.sl (qaa b) .non,.sl (qaa c) .non] [.sl (x::rr) .non,.int .i64 m])).run:=by kernel_rfl
 rw [hd,hf];simp only [qkS,dfin,hp,hf,qrf,Option.map_some]
end
def finR:Option (PR×Store)→Option PV
 |some (.val (.agg [.str a,.sl b .non,.sl c .non]),⟨[[.sl r' .non,.int .i64 m]],[],[138]⟩)=>match qaa r' with
  |[]=>some (.tup [.agg [.str a,.sl (qaa (qaa b)) .non,.sl (qaa (qaa c)) .non],.int .i64 0,.int .i64 0])
  |x::rr=>qoh [.str [],.sl [] .non,.sl [] .non] (qfo [.ptr 0 0] ⟨[[.sl (qac (x::rr)) .non,.int .i64 m]],[],[138]⟩).run
 |q=>qoh [.str [],.sl [] .non,.sl [] .non] q
def outR (s:qU):Option PV:=match (qaW [.str s]).run with
 |some (.tup [.sl r .non,.int .i64 n,.int .i64 e])=>match e != 0 with
  |true=>some (.tup [.agg [.str [],.sl [] .non,.sl [] .non],.int .i64 n,.int .i64 e])
  |false=>finR (qro [.ptr 0 0] ⟨[[.sl (qac r) .non,.int .i64 s.length]],[],[138]⟩).run
 |_=>none
def FwR:List PV→Option PV
 |[.str s,.fn 46 []]=>outR s
 |_=>none
def FwR1:List PV→Option PV
 |[.str s,.fn 46 []]=>match qCf (qaW [.str s]).run with
  |true=>outR s
  |false=>none
 |_=>none
def FwR2:List PV→Option PV
 |[.str s,.fn 46 []]=>match qCf (qaW [.str s]).run with
  |true=>none
  |false=>outR s
 |_=>none
theorem qWM (gl:Gl) (hg:GlLex gl):SimP Tryz.prog gl 45 FwR1:=by
 refine SimP.of_does qaj Tryz.func45 (c:=c_wR) (by kernel_rfl) (by kernel_rfl) fun args x hx hrel=>?_
 clear hrel;unfold FwR1 at hx;split at hx
 ·rename_i s;split at hx
  ·rename_i hea;unfold outR at hx;split at hx
   ·rename_i r n e hw;have he:(e != 0)=true:=by rw [hw] at hea;exact hea
    rw [he] at hx;simp only [Option.some.injEq] at hx;subst hx;refine⟨.ret,fER s r n e (e != 0),sBR n e,[.agg [.str [],.sl [] .full,.sl [] .full],.int .i64 n,.int .i64 e],.inr rfl,?_,by kernel_rfl,by kernel_rfl⟩
    rw [show [PV.str s,PV.fn 46 []]++List.replicate (Tryz.f45.ntmps - [PV.str s,PV.fn 46 []].length) PV.top=f0R s from by kernel_rfl]
    exact qU0 s r n e gl hg hw he
   ·cases hx
  ·cases hx
 ·cases hx
theorem qXX (gl:Gl) (hg:GlLex gl):SimP Tryz.prog gl 45 FwR2:=by
 refine SimP.of_defer qaj (qHa gl hg) Tryz.func45 (c:=c_wR) (by kernel_rfl) (by kernel_rfl) fun args x hx=>?_
 unfold FwR2 at hx;split at hx
 ·rename_i s;split at hx
  ·cases hx
  rename_i hea;unfold outR at hx;split at hx
  ·rename_i r n e hw;have he:(e != 0)=false:=by rw [hw] at hea;exact hea
   rw [he] at hx;have he0:e=0:=by simpa using he
   subst he0;have hs:[PV.str s,PV.fn 46 []]++List.replicate (Tryz.f45.ntmps - [PV.str s,PV.fn 46 []].length) PV.top=f0R s:=by kernel_rfl
   rw [hs];simp only at hx;unfold finR at hx;split at hx
   ·rename_i a b c r' m hv;split at hx
    ·rename_i hr;simp only [Option.some.injEq] at hx;subst hx;refine⟨.ret,.ret,_,_,_,s6R 0 [.str a,.sl (qaa b) .non,.sl (qaa c) .non] [.sl [] .non,.int .i64 m],[.agg [.str a,.sl (qaa b) .non,.sl (qaa c) .non],.int .i64 0,.int .i64 0],qVO s r n hw hv (q:=some (.ret,(f8R ((f7R s r n).set 29 (.agg [.str a,.sl (qaa b) .non,.sl (qaa c) .non])) [] false).set 39 (.agg [.str a,.sl (qaa b) .non,.sl (qaa c) .non]),s6R 0 [.str a,.sl (qaa b) .non,.sl (qaa c) .non] [.sl [] .non,.int .i64 m],d2R)) (by rw [hr];exact zaaH s r n a b c m),.inl ⟨rfl,rfl⟩,?_,by kernel_rfl,by kernel_rfl⟩
     exact .cons (qVF gl _ _ _ _) (.cons (qXh gl _ _ _) (.nil _))
    ·rename_i x rr hr;obtain⟨at_,c',os,tk,ts,hb,hwf,rfl⟩:=qj9 hx;refine⟨_,.pan (.iface 172 (.agg [.int .i64 at_])),_,_,_,⟨[[.str [],.sl [] .full,.sl [] .full],[.int .i64 at_],[.int .i64 130],qbt c',[.int .i64 at_],[.str [],.sl [] .full,.sl [] .full]],[],[51,3,28,138,172,51]⟩,[.agg [.str [],.sl [] .full,.sl [] .full],.int .i64 at_,.int .i64 130],qVO s r n hw hv (q:=some (.pan (.iface 172 (.agg [.int .i64 at_])),(f8R ((f7R s r n).set 29 (.agg [.str a,.sl (qaa b) .non,.sl (qaa c) .non])) (x::rr) true).set 37 (.ptr 3 0),s6R n [.str a,.sl (qaa b) .non,.sl (qaa c) .non] (qbt c'),d2R)) (by rw [hr];exact qWh s r n a b c rr m x hb),.inr ⟨_,rfl,rfl⟩,?_,by kernel_rfl,by kernel_rfl⟩
     exact .cons (qMQ gl _ _ _ _ _ hwf) (.cons (qWW gl a (qaa b) (qaa c) _ _ _) (.nil _))
   ·obtain⟨at_,c',os,tk,ts,hb,hwf,rfl⟩:=qj9 hx;refine⟨_,.pan (.iface 172 (.agg [.int .i64 at_])),_,_,_,⟨[[.str [],.sl [] .full,.sl [] .full],[.int .i64 at_],[.int .i64 130],qbt c',[.int .i64 at_],[.str [],.sl [] .full,.sl [] .full]],[],[51,3,28,138,172,51]⟩,[.agg [.str [],.sl [] .full,.sl [] .full],.int .i64 at_,.int .i64 130],qZ8 s r n hw hb,.inr ⟨_,rfl,rfl⟩,?_,by kernel_rfl,by kernel_rfl⟩
    exact .cons (qMQ gl _ _ _ _ _ hwf) (.cons (qTC gl _ _ _) (.nil _))
  ·cases hx
 ·cases hx
theorem qVP (gl:Gl) (hg:GlLex gl):SimP Tryz.prog gl 45 FwR:=by
 refine SimP.or (qWM gl hg) (qXX gl hg) fun args x hx=>?_
 unfold FwR at hx;split at hx
 ·rename_i s;cases he:qCf (qaW [.str s]).run with
  |true=>exact .inl (by simp only [FwR1,he,hx])
  |false=>exact .inr (by simp only [FwR2,he,hx])
 ·cases hx
section
variable (s : List UInt8) (r : List (List PV)) (n e : Int)
variable (hw : (qaW [.str s]).run = some (.tup [.sl r .non, .int .i64 n, .int .i64 e]))
include hw
end
section
variable (s : List UInt8) (r : List (List PV)) (n e : Int)
variable  (a : List UInt8) (b : List (List PV)) (rr : List (List PV)) (m : Int)
end
end Go.Pv
set_option maxHeartbeats 4000000
set_option maxRecDepth 200000
set_option linter.unusedVariables false
set_option linter.unusedSimpArgs false
namespace Go.Pv
open Go Go.Proofs
def qUf (s:qU):qR:=gRow (gAt (gCs (gAt (gCs (gVal (outP s))) 0)) 0)
def qU9 (s:qU):qR:=gRow (gAt (gCs (gAt (gCs (gVal (outP s))) 0)) 1)
def qTW (s:qU):qR:=gRow (gAt (gCs (gAt (gCs (gVal (outP s))) 0)) 2)
def wP_n (s:qU):Int:=gInt (gAt (gCs (gVal (outP s))) 1)
def wP_e (s:qU):Int:=gInt (gAt (gCs (gVal (outP s))) 2)
def qPh (s:qU):Bool:=isW (outP s) (.tup [.agg [.sl (qUf s) .non,.sl (qU9 s) .non,.sl (qTW s) .non],.int .i64 (wP_n s),.int .i64 (wP_e s)])
def F_wP:List PV→Tr PV
 |[.str s,.fn 34 []]=>.ite (qPh s) (.ret (.tup [.agg [.sl (qUf s) .non,.sl (qU9 s) .non,.sl (qTW s) .non],.int .i64 (wP_n s),.int .i64 (wP_e s)])) .fail
 |_=>.fail
theorem qTY (gl:Gl) (hg:GlLex gl):SimP Tryz.prog gl 33 fun args=>(F_wP args).run:=by
 refine⟨(qV1 gl hg).ent,fun args x hx=>(qV1 gl hg).run args x ?_⟩
 unfold F_wP at hx;split at hx
 ·exact qae hx fun h=>by cases h
 ·cases hx
def qTk (s:qU):qU:=gStr (gAt (gCs (gAt (gCs (gVal (outR s))) 0)) 0)
def qUr (s:qU):qR:=gRow (gAt (gCs (gAt (gCs (gVal (outR s))) 0)) 1)
def qTJ (s:qU):qR:=gRow (gAt (gCs (gAt (gCs (gVal (outR s))) 0)) 2)
def wR_n (s:qU):Int:=gInt (gAt (gCs (gVal (outR s))) 1)
def wR_e (s:qU):Int:=gInt (gAt (gCs (gVal (outR s))) 2)
def qRE (s:qU):Bool:=isW (outR s) (.tup [.agg [.str (qTk s),.sl (qUr s) .non,.sl (qTJ s) .non],.int .i64 (wR_n s),.int .i64 (wR_e s)])
def F_wR:List PV→Tr PV
 |[.str s,.fn 46 []]=>.ite (qRE s) (.ret (.tup [.agg [.str (qTk s),.sl (qUr s) .non,.sl (qTJ s) .non],.int .i64 (wR_n s),.int .i64 (wR_e s)])) .fail
 |_=>.fail
theorem qUN (gl:Gl) (hg:GlLex gl):SimP Tryz.prog gl 45 fun args=>(F_wR args).run:=by
 refine⟨(qVP gl hg).ent,fun args x hx=>(qVP gl hg).run args x ?_⟩
 unfold F_wR at hx;split at hx
 ·exact qae hx fun h=>by cases h
 ·cases hx
end Go.Pv
set_option maxHeartbeats 4000000
set_option maxRecDepth 200000
set_option linter.unusedSimpArgs false
set_option linter.unusedVariables false
namespace Go.Pv
open Go Go.Proofs
def qK0:GamT:=ofL [(33,.pure F_wP)]
theorem qSV (gl:Gl) (hg:GlLex gl):qal Tryz.prog gl (gam qK0):=(qag (qTY gl hg) qaf)
def qP0:LpsT:=fun r fr σ=>.fail
section
variable (s:qU)
def qEx:Tr PV:=.ite (qPh s) (.ret (.tup [.agg [.sl (qaa (qUf s)) .non,.sl (qaa (qU9 s)) .non,.sl (qaa (qTW s)) .non],.int .i64 (wP_n s),.int .i64 (wP_e s)])) .fail
theorem qWq:(tcall tbT qK0 qP0 Tryz.f11 [.str s]).flat=qEx s:=by kernel_rfl
def qmb:Option PV:=(qEx s).run
def qze:qR:=(gRow (gAt (gCs (gAt (gCs (gVal (qmb s))) 0)) 0))
def qsS:qR:=(gRow (gAt (gCs (gAt (gCs (gVal (qmb s))) 0)) 1))
def qsP:qR:=(gRow (gAt (gCs (gAt (gCs (gVal (qmb s))) 0)) 2))
def qAW:Int:=qBd 1 (qmb s)
def qrM:Int:=qBd 2 (qmb s)
def qp7:Bool:=isW (qmb s) (.tup [.agg [.sl (qze s) .non,.sl (qsS s) .non,.sl (qsP s) .non],.int .i64 (qAW s),.int .i64 (qrM s)])
end
def qGj:List PV→Tr PV|[.str s]=>.ite (qp7 s) (.ret (.tup [.agg [.sl (qze s) .non,.sl (qsS s) .non,.sl (qsP s) .non],.int .i64 (qAW s),.int .i64 (qrM s)])) (.fail)|_=>.fail
theorem qH7 (gl:Gl) (hg:GlLex gl):SimP Tryz.prog gl 11 fun args=>(qGj args).run:=by
 refine SimP.of_flat (G:=qK0) (L:=qP0) qaj (qSV gl hg ) qai  Tryz.func11 rfl (by rfl) (by kernel_rfl) (qab (by kernel_rfl)) ?_
 intro args x h;unfold qGj at h
 split at h
 ·exact (congrArg Tr.run (qWq _)).trans (qae h fun h=>by cases h)
 ·cases h
def qK9:GamT:=ofL [(45,.pure F_wR)]
theorem qQt (gl:Gl) (hg:GlLex gl):qal Tryz.prog gl (gam qK9):=(qag (qUN gl hg) qaf)
def qSv:LpsT:=fun r fr σ=>.fail
section
variable (s:qU)
def qEU:Tr PV:=.ite (qRE s) (.ret (.tup [.agg [.str (qTk s),.sl (qaa (qUr s)) .non,.sl (qaa (qTJ s)) .non],.int .i64 (wR_n s),.int .i64 (wR_e s)])) .fail
theorem qY4:(tcall tbT qK9 qSv Tryz.f16 [.str s]).flat=qEU s:=by kernel_rfl
def qlg:Option PV:=(qEU s).run
def qDY:qU:=(gStr (gAt (gCs (gAt (gCs (gVal (qlg s))) 0)) 0))
def qIL:qR:=(gRow (gAt (gCs (gAt (gCs (gVal (qlg s))) 0)) 1))
def qvP:qR:=(gRow (gAt (gCs (gAt (gCs (gVal (qlg s))) 0)) 2))
def qJw:Int:=qBd 1 (qlg s)
def qwf:Int:=qBd 2 (qlg s)
def qzX:Bool:=isW (qlg s) (.tup [.agg [.str (qDY s),.sl (qIL s) .non,.sl (qvP s) .non],.int .i64 (qJw s),.int .i64 (qwf s)])
end
def qJH:List PV→Tr PV|[.str s]=>.ite (qzX s) (.ret (.tup [.agg [.str (qDY s),.sl (qIL s) .non,.sl (qvP s) .non],.int .i64 (qJw s),.int .i64 (qwf s)])) (.fail)|_=>.fail
theorem qQG (gl:Gl) (hg:GlLex gl):SimP Tryz.prog gl 16 fun args=>(qJH args).run:=by
 refine SimP.of_flat (G:=qK9) (L:=qSv) qaj (qQt gl hg ) qai  Tryz.func16 rfl (by rfl) (by kernel_rfl) (qab (by kernel_rfl)) ?_
 intro args x h;unfold qJH at h
 split at h
 ·exact (congrArg Tr.run (qY4 _)).trans (qae h fun h=>by cases h)
 ·cases h
end Go.Pv
set_option linter.unusedSimpArgs false
set_option linter.unusedVariables false
namespace Go.Pv
end Go.Pv
set_option linter.unusedSimpArgs false
set_option linter.unusedVariables false
namespace Go.Pv
end Go.Pv
set_option maxHeartbeats 4000000
set_option linter.unusedSimpArgs false
set_option linter.unusedVariables false
namespace Go.Pv
open Go.RowKit
def swp (i k:Nat):Nat:=if k=i then i+1 else if k=i+1 then i else k
theorem qKK (i k:Nat):swp i (swp i k)=k:=by
 unfold swp
 repeat' split
 all_goals omega
theorem qVs {i k n:Nat} (hi:i+1 < n) (hk:k < n):swp i k < n:=by
 unfold swp
 repeat' split
 all_goals omega
theorem qBK {i k:Nat} (h1:k≠i) (h2:k≠i+1):swp i k=k:=by
 unfold swp;rw [if_neg h1,if_neg h2]
def eA (i k:Nat) (o:Oper):Oper:=if k=i+1 then { o with after:=o.after.push ⟨i,.data⟩ } else o
def opsA (i:Nat) (ops:Array Oper):Array Oper:=ops.mapIdx fun k o=>eA i k o
def eB (i k:Nat) (o:Oper):Oper:={ o with after:=(o.after.map fun e=>{ e with on:=swp i e.on })++(if k=i+1 then #[⟨i,.data⟩] else #[]) }
def opsB (i:Nat) (ops:Array Oper):Array Oper:=ops.mapIdx fun k o=>eB i k ((ops[swp i k]?).getD o)
def qo6 (i:Nat) (ops:Array Oper):Bool:=ops.toList.all fun o=>match o.guard with
 |some (g,_)=>!Nat.beq g i&&!Nat.beq g (i+1)
 |none=>true
theorem atA (i:Nat) (ops:Array Oper) (k:Nat):(opsA i ops)[k]?=(ops[k]?).map (eA i k):=by
 unfold opsA;rw [Array.getElem?_mapIdx]
theorem atB {i:Nat} {ops:Array Oper} (hi:i+1 < ops.size) {k:Nat} {o:Oper} (h:ops[k]?=some o):(opsB i ops)[swp i k]?=some (eB i (swp i k) o):=by
 have hk:k < ops.size:=by
  have:=Array.getElem?_eq_some_iff.1 h;exact this.1
 unfold opsB;rw [Array.getElem?_mapIdx,Array.getElem?_eq_getElem (qVs hi hk),qKK,h];rfl
theorem qZy (i k:Nat) (o:Oper):∃ x,eA i k o={ o with after:=x }:=by
 unfold eA;split
 ·exact⟨_,rfl⟩
 ·exact⟨o.after,rfl⟩
theorem qIR (i:Nat) (ops:Array Oper):(opsA i ops).size=ops.size:=by simp [opsA]
theorem qBn (i:Nat) (ops:Array Oper):(opsB i ops).size=ops.size:=by simp [opsB]
theorem qBG {i:Nat} {ops:Array Oper} (h:qo6 i ops=true) {k:Nat} {o:Oper} (ho:ops[k]?=some o) {g:Nat} {b:Bool} (hg:o.guard=some (g,b)):g≠i∧g≠i+1:=by
 unfold qo6 at h
 rw [List.all_eq_true] at h
 have h1:=h o (by
  rw [Array.mem_toList_iff];exact Array.mem_of_getElem? ho)
 rw [hg] at h1;simp only [Bool.and_eq_true,Bool.not_eq_true'] at h1;exact⟨Nat.ne_of_beq_eq_false h1.1,Nat.ne_of_beq_eq_false h1.2⟩
theorem qc8 {ops:Array Oper} {listed:Array Bool} (hs:listed.size=ops.size) {k:Nat}:k∈Region.ready .any ops listed↔∃ o,ops[k]?=some o∧¬ In listed k∧∀ e∈o.after.toList,Region.binds .any e=true→In listed e.on:=by
 unfold Region.ready;rw [List.mem_filter,List.mem_range];constructor
 ·rintro⟨hk,hk'⟩;have hb:k < listed.size:=by omega
  have e2:ops[k]?=some ops[k]:=Array.getElem?_eq_getElem hk;simp only [e2,Option.map_some,Option.getD_some,Bool.and_eq_true,Bool.not_eq_true'] at hk';obtain⟨hk1,hk2⟩:=hk';refine⟨_,e2,?_,?_⟩
  ·rw [Array.getD_eq_getD_getElem?,Array.getElem?_eq_getElem hb] at hk1;unfold In;rw [Array.getD_eq_getD_getElem?,Array.getElem?_eq_getElem hb];simpa using hk1
  ·intro e he hbd;have:=Array.all_eq_true'.1 hk2 e (Array.mem_toList_iff.1 he);simpa [hbd,In] using this
 ·rintro⟨o,ho,hn,he⟩;have hk:k < ops.size:=(Array.getElem?_eq_some_iff.1 ho).1;have hb:k < listed.size:=by omega
  refine⟨hk,?_⟩;simp only [ho,Option.map_some,Option.getD_some,Bool.and_eq_true,Bool.not_eq_true'];constructor
  ·unfold In at hn;rw [Array.getD_eq_getD_getElem?,Array.getElem?_eq_getElem hb] at hn ⊢;simpa using hn
  ·rw [Array.all_eq_true'];intro e hm;cases hbd:Region.binds .any e with
   |false=>rfl
   |true =>
    have:=he e (Array.mem_toList_iff.2 hm) hbd;simpa [In] using this
section
variable {F : Fence} {n : Nat} {P : Program} {Q : Exit → Act → World → Prop}
theorem qG7 {ops ops2:Array Oper} (hsz:ops2.size=ops.size) (π:Nat→Nat) (hπ:∀ k,π (π k)=k) (hlt:∀ k,k < ops.size→π k < ops.size) (j:Nat)
  (hop:∀ (K:Act→World→Prop) k a w,wpOpIn F n P ops2 Q (π k) K a w→wpOpIn F n P ops Q k K a w)
  (hr:∀ listed listed2:Array Bool,listed.size=ops.size→listed2.size=ops2.size→(∀ k,In listed2 (π k)↔In listed k)→In listed j→∀ k,(k∈Region.ready .any ops listed↔π k∈Region.ready .any ops2 listed2)) :
  ∀ (fuel:Nat) (listed listed2:Array Bool) (a:Act) (w:World),listed.size=ops.size→listed2.size=ops2.size→(∀ k,In listed2 (π k)↔In listed k)→In listed j→wpAnyIn F n P .any ops2 Q fuel listed2 a w→wpAnyIn F n P .any ops Q fuel listed a w:=by
 intro fuel
 induction fuel with
 |zero =>
  intro l l2 a w h1 h2 h3 h4 h;refine⟨List.eq_nil_iff_forall_not_mem.2 fun k hk=>?_,h.2⟩
  have:=(hr l l2 h1 h2 h3 h4 k).1 hk;rw [h.1] at this;cases this
 |succ fuel ih =>
  intro l l2 a w h1 h2 h3 h4 h;refine⟨fun hn=>h.1 (List.eq_nil_iff_forall_not_mem.2 fun k hk=>?_),fun k hk=>?_⟩
  ·have:=(hr l l2 h1 h2 h3 h4 (π k)).2 (by rw [hπ];exact hk)
   rw [hn] at this;cases this
  ·have hk2:=(hr l l2 h1 h2 h3 h4 k).1 hk;obtain⟨o,ho,_⟩:=(qc8 h1).1 hk;have hkl:k < ops.size:=(Array.getElem?_eq_some_iff.1 ho).1;refine hop _ k a w (wpOpIn_mono (fun a' w' h'=>ih _ _ a' w' (by simp [h1]) (by simp [h2]) (fun m=>?_) ?_ h') (h.2 _ hk2))
   ·rw [qbY (by have:=hlt k hkl;omega),qbY (by omega),h3]
    constructor
    ·rintro (h|h)
     ·exact .inl (by rw [← hπ m,h,hπ])
     ·exact .inr h
    ·rintro (rfl|h)
     ·exact .inl rfl
     ·exact .inr h
   ·exact (qbY (by omega)).2 (.inr h4)
theorem qTQ (i:Nat) (ops:Array Oper) (t:Array Value):yielded (opsA i ops) t=yielded ops t:=by
 funext g
 unfold yielded;rw [atA];cases h:ops[g]? with
 |none=>rfl
 |some o =>
  obtain⟨x,hx⟩:=qZy i g o;simp only [Option.map_some,Option.bind_some,hx]
theorem qTA {i:Nat} {ops:Array Oper} (hi:i+1 < ops.size) (t:Array Value) {g:Nat} (h1:g≠i) (h2:g≠i+1):yielded (opsB i ops) t g=yielded ops t g:=by
 unfold yielded;cases h:ops[g]? with
 |none =>
  have:(opsB i ops)[g]?=none:=by
   rw [Array.getElem?_eq_none_iff] at h ⊢;rw [qBn];exact h
  rw [this]
 |some o =>
  have:=atB hi h;rw [qBK h1 h2] at this;rw [this];rfl
theorem opA (i:Nat) (ops:Array Oper) (K:Act→World→Prop) (k:Nat) (a:Act) (w:World) (h:wpOpIn F n P (opsA i ops) Q k K a w):wpOpIn F n P ops Q k K a w:=by
 unfold wpOpIn at h ⊢;rw [atA,qTQ] at h
 cases ho:ops[k]? with
 |none=>rw [ho] at h;exact h
 |some o =>
  obtain⟨x,hx⟩:=qZy i k o;rw [ho] at h
  simp only [Option.map_some,hx] at h
  exact h
theorem opB {i:Nat} {ops:Array Oper} (hi:i+1 < ops.size) (hg:qo6 i ops=true) (K:Act→World→Prop) (k:Nat) (a:Act) (w:World) (h:wpOpIn F n P (opsB i ops) Q (swp i k) K a w):wpOpIn F n P ops Q k K a w:=by
 unfold wpOpIn at h ⊢;cases ho:ops[k]? with
 |none =>
  have hk:ops.size≤k:=by rwa [Array.getElem?_eq_none_iff] at ho
  have:(opsB i ops)[swp i k]?=none:=by
   rw [qBK (by omega) (by omega),Array.getElem?_eq_none_iff,qBn]
   exact hk
  rw [this] at h
  exact h
 |some o =>
  rw [atB hi ho] at h
  have hw:Region.wanted (eB i (swp i k) o) (yielded (opsB i ops) a.tmps)=Region.wanted o (yielded ops a.tmps):=by
   unfold Region.wanted;have e:(eB i (swp i k) o).guard=o.guard:=rfl;rw [e];cases hgd:o.guard with
   |none=>rfl
   |some gb =>
    obtain⟨g,b⟩:=gb;obtain⟨h1,h2⟩:=qBG hg ho hgd;simp only [qTA hi a.tmps h1 h2]
  simp only [hw] at h
  exact h
theorem simA (i:Nat) (ops:Array Oper) (fuel:Nat) (listed:Array Bool) (a:Act) (w:World) (hs:listed.size=ops.size) (hin:In listed i) (h:wpAnyIn F n P .any (opsA i ops) Q fuel listed a w):wpAnyIn F n P .any ops Q fuel listed a w:=by
 refine qG7 (qIR i ops) id (fun _=>rfl) (fun _ h=>h) i (opA i ops) ?_ fuel listed listed a w hs (by rw [qIR,hs]) (fun _=>Iff.rfl) hin h
 intro l l2 h1 h2 h3 h4 k;have h3:∀ k,In l2 k↔In l k:=h3;rw [qc8 h1,qc8 h2];show _↔∃ o,(opsA i ops)[k]?=some o∧_
 rw [atA];constructor
 ·rintro⟨o,ho,hn,he⟩;refine⟨eA i k o,by rw [ho];rfl,fun h=>hn ((h3 k).1 h),fun e he' hb=>(h3 _).2 ?_⟩
  unfold eA at he';split at he'
  ·simp only [Array.toList_push,List.mem_append,List.mem_singleton] at he';rcases he' with he'|rfl
   ·exact he e he' hb
   ·exact h4
  ·exact he e he' hb
 ·rintro⟨o2,ho2,hn,he⟩;cases ho:ops[k]? with
  |none=>rw [ho] at ho2;cases ho2
  |some o =>
   rw [ho] at ho2;simp only [Option.map_some,Option.some.injEq] at ho2;subst ho2;refine⟨o,rfl,fun h=>hn ((h3 k).2 h),fun e he' hb=>(h3 _).1 (he e ?_ hb)⟩
   unfold eA;split
   ·simp only [Array.toList_push,List.mem_append];exact .inl he'
   ·exact he'
theorem simB {i:Nat} {ops:Array Oper} (hi:i+1 < ops.size) (hg:qo6 i ops=true) (fuel:Nat) (listed listed2:Array Bool) (a:Act) (w:World) (hs:listed.size=ops.size) (hs2:listed2.size=ops.size) (hin:In listed (i+1)) (hl:∀ k,In listed2 (swp i k)↔In listed k)
  (h:wpAnyIn F n P .any (opsB i ops) Q fuel listed2 a w):wpAnyIn F n P .any ops Q fuel listed a w:=by
 refine qG7 (qBn i ops) (swp i) (qKK i) (fun _ h=>qVs hi h) (i+1) (opB hi hg) ?_ fuel listed listed2 a w hs (by rw [qBn,hs2]) hl hin h
 intro l l2 h1 h2 h3 h4 k;have h5:In l2 i:=by
  have:=(h3 (i+1)).2 h4;simpa [swp] using this
 rw [qc8 h1,qc8 h2];constructor
 ·rintro⟨o,ho,hn,he⟩;refine⟨_,atB hi ho,fun h=>hn ((h3 k).1 h),fun e he' hb=>?_⟩
  simp only [eB,Array.toList_append,Array.toList_map,List.mem_append,List.mem_map] at he';rcases he' with⟨e0,he0,rfl⟩|he'
  ·exact (h3 _).2 (he e0 he0 hb)
  ·split at he'
   ·simp at he';subst he';exact h5
   ·simp at he'
 ·rintro⟨o2,ho2,hn,he⟩;cases ho:ops[k]? with
  |none =>
   have hk:ops.size≤k:=by rwa [Array.getElem?_eq_none_iff] at ho
   have:(opsB i ops)[swp i k]?=none:=by
    rw [qBK (by omega) (by omega),Array.getElem?_eq_none_iff,qBn]
    exact hk
   rw [this] at ho2;cases ho2
  |some o =>
   rw [atB hi ho] at ho2;cases ho2
   refine⟨o,rfl,fun h=>hn ((h3 k).2 h),fun e he' hb=>(h3 _).1 (he { e with on:=swp i e.on } ?_ hb)⟩
   simp only [eB,Array.toList_append,Array.toList_map,List.mem_append,List.mem_map];exact .inl ⟨e,he',rfl⟩
end
section
variable {P : Program} {tb : Tab} {gl : Gl} {Γ : Gam} {H0 : Gh} {w0 : World} {Q : Exit → Act → World → Prop}
theorem qMn {b:Bool} {ops:List Oper} (hord:qcb b Γ ops=true) {F:Nat→List PV} {S:Nat→Store} {X:Nat→PV} (ht:Trace tb Γ ops ops F S X)
  (hfree:∀ (k i:Nat) (o:Oper),ops[k]?=some o→reads Γ o=true→qbx b Γ o=false→i≤ops.length→pop tb Γ (F k) (S k) o=some (X k,S (k+1))→pop tb Γ (F k) (S i) o=some (X k,S i))
  {listed:Array Bool} {fr:List PV} {σ:Store} (hI:Inv Γ ops F S listed fr σ) {k:Nat} {o:Oper} (hko:ops[k]?=some o) (hb:k < listed.size) (hn:¬ In listed k) (he:∀ e∈o.after.toList,Region.binds .any e=true→In listed e.on) :
  ∃ x σ',((pwanted ops fr o=some false∧x=.tup []∧σ'=σ)∨(pwanted ops fr o=some true∧pop tb Γ fr σ o=some (x,σ')))∧Inv Γ ops F S (listed.setIfInBounds k true) (pput fr o.dst x) σ':=by
 obtain⟨hsee,hsto⟩:=hI.sees hord hko hn he;have hwan:pwanted ops fr o=pwanted ops (F k) o:=by
  unfold pwanted;cases hg:o.guard with
  |none=>rfl
  |some jb =>
   obtain⟨j,b⟩:=jb;simp only [];cases hd:(ops[j]?).bind (·.dst) with
   |none=>rfl
   |some d =>
    have:fr[d]?=(F k)[d]?:=hsee d (by simp [looks,hg,hd])
    simp only [Option.bind_some,this]
 have hpop:∀ s,pop tb Γ fr s o=pop tb Γ (F k) s o:=by
  intro s;refine qRR fun x hx=>?_
  cases x with
  |tmp t =>
   have:fr[t]?=(F k)[t]?:=hsee t (by
    simp only [looks,List.mem_append,List.mem_filterMap];exact .inl ⟨_,hx,rfl⟩)
   simp only [ev,List.getD_eq_getElem?_getD,this]
  |const v=>rfl
  |global g=>rfl
  |func f=>rfl
 rcases (ht.at_ k o hko).1 with⟨hw,hx,hS⟩|⟨hw,hp⟩
 ·refine⟨.tup [],σ,.inl ⟨hwan.trans hw,rfl,rfl⟩,?_⟩;have:=hI.next hord ht hko hb hn he (σ':=σ) ⟨fun hwr=>?_,fun _=>rfl⟩
  ·rw [hx] at this;exact this
  ·rw [hS];exact hsto (by simp [qbx,hwr])
 ·cases hr:qbx b Γ o with
  |true =>
   have hs':=hsto hr;have hp':pop tb Γ fr σ o=some (X k,S (k+1)):=by rw [hpop,hs'];exact hp
   refine⟨X k,S (k+1),.inr ⟨hwan.trans hw,hp'⟩,hI.next hord ht hko hb hn he ⟨fun _=>rfl,fun hwf=>?_⟩⟩
   rw [qfY hwf hp,hs']
  |false =>
   have hwf:writes Γ o=false:=by
    cases hwr:writes Γ o with
    |false=>rfl
    |true=>simp [qbx,hwr] at hr
   have hp':pop tb Γ fr σ o=some (X k,σ):=by
    rw [hpop];cases hr0:reads Γ o with
    |false=>exact qyL hr0 hp σ
    |true =>
     obtain⟨i,hi,rfl⟩:=hI.someS hord;exact hfree k i _ hko hr0 hr hi hp
   refine⟨X k,σ,.inr ⟨hwan.trans hw,hp'⟩,hI.next hord ht hko hb hn he ⟨fun h=>?_,fun _=>rfl⟩⟩
   rw [hwf] at h
   cases h
theorem qO9 (n i:Nat):¬ In (Array.replicate n false) i:=by
 unfold In;rw [Array.getD_eq_getD_getElem?];by_cases hi:i < n
 ·simp [Array.getElem?_replicate,hi]
 ·simp [Array.getElem?_replicate,hi]
theorem inv0 {ops:List Oper} {F:Nat→List PV} {S:Nat→Store} {X:Nat→PV} (ht:Trace tb Γ ops ops F S X) (n:Nat):Inv Γ ops F S (Array.replicate n false) (F 0) (S 0) :=
 ⟨rfl,fun j o hj=>absurd hj (qO9 n j),fun t i hi hlo hhi=>by
  rw [ht.still (i:=0) (j:=i) (Nat.zero_le _) hi (fun k o _ hk ho hd=>qO9 n k (hlo k o hk ho hd))],fun i hi hlo hhi=>by
  rw [ht.stillS (i:=0) (j:=i) (Nat.zero_le _) hi (fun k o _ hk ho=>by
   cases hw:writes Γ o with
   |false=>rfl
   |true=>exact absurd (hlo k o hk ho hw) (qO9 n k))]⟩
structure Told (tb:Tab) (Γ:Gam) (ops:Array Oper) (b:Bool) (F:Nat→List PV) (S:Nat→Store) (X:Nat→PV):Prop where
 ord:qcb b Γ ops.toList=true
 tr:Trace tb Γ ops.toList ops.toList F S X
 free:∀ (k i:Nat) (o:Oper),ops.toList[k]?=some o→reads Γ o=true→qbx b Γ o=false→i≤ops.size→pop tb Γ (F k) (S k) o=some (X k,S (k+1))→pop tb Γ (F k) (S i) o=some (X k,S i)
theorem qPO {ops:Array Oper} {fr fr':List PV} {σ σ':Store} (h:pops tb Γ ops.toList ops.toList fr σ=some (fr',σ')) (hd:ordered Γ ops.toList=true∨(qcb true Γ ops.toList=true∧qfb Γ ops.toList fr' σ.objs.length=true)) :
  ∃ b F S X,Told tb Γ ops b F S X∧F 0=fr∧S 0=σ∧F ops.size=fr'∧S ops.size=σ':=by
 obtain⟨F,S,X,hF,hS,hF',hS',ht⟩:=qsv _ _ _ _ _ h;rcases hd with h1|⟨h1,h2⟩
 ·exact⟨false,F,S,X,⟨h1,ht,fun k i o hk hr hf=>by
   unfold reads at hr;rw [hf] at hr;cases hr⟩,hF,hS,by simpa using hF',by simpa using hS'⟩
 ·refine⟨true,F,S,X,⟨h1,ht,fun k i o hk hr hf hi hp=>qBO ht ?_ k i o hk hr hf (by simpa using hi) hp⟩,hF,hS,by simpa using hF',by simpa using hS'⟩
  rw [hF',hS];exact h2
theorem qRe (hT:qaY P tb) (hΓ:qal P gl Γ) {ops:Array Oper} {i:Nat} (hi:i+1 < ops.size) (hg:qo6 i ops=true)
  {bA bB:Bool} {FA FB:Nat→List PV} {SA SB:Nat→Store} {XA XB:Nat→PV} (hA:Told tb Γ (opsA i ops) bA FA SA XA) (hB:Told tb Γ (opsB i ops) bB FB SB XB)
  (hqA:∀ a' w',St gl H0 w0 (FA ops.size) (SA ops.size) a' w'→Q .normal a' w') (hqB:∀ a' w',St gl H0 w0 (FB ops.size) (SB ops.size) a' w'→Q .normal a' w') :
  ∀ (fuel:Nat) (listed:Array Bool) (fr:List PV) (σ:Store) (a:Act) (w:World),listed.size=ops.size→listed.toList.count false≤fuel→¬ In listed i→¬ In listed (i+1)→Inv Γ (opsA i ops).toList FA SA listed fr σ→Inv Γ (opsB i ops).toList FB SB listed fr σ→St gl H0 w0 fr σ a w→∀ (r:Option Nat) (n:Nat),wpAnyIn (rnd r) n P .any ops Q fuel listed a w:=by
 have dA:∀ (fuel:Nat) (listed:Array Bool) (fr:List PV) (σ:Store) (a:Act) (w:World),listed.size=ops.size→listed.toList.count false≤fuel→Inv Γ (opsA i ops).toList FA SA listed fr σ→St gl H0 w0 fr σ a w→∀ (r:Option Nat) (n:Nat),wpAnyIn (rnd r) n P .any (opsA i ops) Q fuel listed a w :=
  fun fuel listed fr σ a w hs=>qAL hT hΓ hA.ord hA.tr hA.free (by rw [qIR];exact hqA) fuel listed fr σ a w (by rw [qIR];exact hs)
 have dB:∀ (fuel:Nat) (listed:Array Bool) (fr:List PV) (σ:Store) (a:Act) (w:World),listed.size=ops.size→listed.toList.count false≤fuel→Inv Γ (opsB i ops).toList FB SB listed fr σ→St gl H0 w0 fr σ a w→∀ (r:Option Nat) (n:Nat),wpAnyIn (rnd r) n P .any (opsB i ops) Q fuel listed a w :=
  fun fuel listed fr σ a w hs=>qAL hT hΓ hB.ord hB.tr hB.free (by rw [qBn];exact hqB) fuel listed fr σ a w (by rw [qBn];exact hs)
 have hl0:∀ listed:Array Bool,¬ In listed i→¬ In listed (i+1)→∀ k,In listed (swp i k)↔In listed k:=by
  intro listed h1 h2 k;by_cases e1:k=i
  ·subst e1;simp [swp,h1,h2]
  ·by_cases e2:k=i+1
   ·subst e2;simp [swp,h1,h2]
   ·rw [qBK e1 e2]
 intro fuel
 induction fuel with
 |zero =>
  intro listed fr σ a w hs hc h1 h2 hIA hIB hst;have hb:i < listed.size:=by omega
  have h0:false∉listed.toList:=List.count_eq_zero.1 (by omega)
  unfold In at h1;rw [Array.getD_eq_getD_getElem?,Array.getElem?_eq_getElem hb] at h1;cases hl:listed[i] with
  |true=>simp [hl] at h1
  |false=>exact absurd (by rw [← hl];simp) h0
 |succ fuel ih =>
  intro listed fr σ a w hs hc h1 h2 hIA hIB hst r n;have wA:=dA (fuel+1) listed fr σ a w hs hc hIA hst r n;have wB:=dB (fuel+1) listed fr σ a w hs hc hIB hst r n;have hsub:∀ k,k∈Region.ready .any (opsA i ops) listed→k∈Region.ready .any ops listed:=by
   intro k hk;rw [qc8 (by rw [qIR];exact hs)] at hk
   obtain⟨o2,ho2,hn,he⟩:=hk;rw [atA] at ho2;cases ho:ops[k]? with
   |none=>rw [ho] at ho2;cases ho2
   |some o =>
    rw [ho] at ho2;simp only [Option.map_some,Option.some.injEq] at ho2;subst ho2;refine (qc8 hs).2 ⟨o,ho,hn,fun e he' hb=>he e ?_ hb⟩
    unfold eA;split
    ·simp only [Array.toList_push,List.mem_append];exact .inl he'
    ·exact he'
  refine⟨fun hnil=>wA.1 (List.eq_nil_iff_forall_not_mem.2 fun k hk=>?_),fun k hk=>?_⟩
  ·have:=hsub k hk;rw [hnil] at this;cases this
  obtain⟨o,ho,hn,he⟩:=(qc8 hs).1 hk;have hkl:k < ops.size:=(Array.getElem?_eq_some_iff.1 ho).1;by_cases e1:k=i
  ·subst e1;have hrA:k∈Region.ready .any (opsA k ops) listed:=by
    rw [qc8 (by rw [qIR];exact hs),atA,ho]
    refine⟨_,rfl,hn,fun e he' hb=>he e ?_ hb⟩
    unfold eA at he';rw [if_neg (by omega)] at he'
    exact he'
   exact opA k ops _ k a w (wpOpIn_mono (fun a' w' h'=>simA k ops fuel _ a' w' (by simp [hs]) ((qbY (by omega)).2 (.inl rfl)) h') (wA.2 k hrA))
  by_cases e2:k=i+1
  ·subst e2;have hat:=atB hi ho;have hsw:swp i (i+1)=i:=by simp [swp]
   rw [hsw] at hat;have hrB:i∈Region.ready .any (opsB i ops) listed:=by
    rw [qc8 (by rw [qBn];exact hs)]
    refine⟨_,hat,h1,fun e he' hb=>?_⟩
    simp only [eB,Array.toList_append,Array.toList_map,List.mem_append,List.mem_map] at he';rcases he' with⟨e0,he0,rfl⟩|he'
    ·exact (hl0 listed h1 h2 _).2 (he e0 he0 hb)
    ·rw [if_neg (by omega)] at he'
     simp at he'
   refine opB hi hg _ (i+1) a w ?_;rw [hsw];refine wpOpIn_mono (fun a' w' h'=>simB hi hg fuel _ _ a' w' (by simp [hs]) (by simp [hs]) ((qbY (by omega)).2 (.inl rfl)) (fun m=>?_) h') (wB.2 i hrB)
   rw [qbY (by omega),qbY (by omega),hl0 listed h1 h2]
   constructor
   ·rintro (h|h)
    ·exact .inl (by rw [← qKK i m,h];simp [swp])
    ·exact .inr h
   ·rintro (rfl|h)
    ·exact .inl hsw
    ·exact .inr h
  -- another one
  have hoA:(opsA i ops).toList[k]?=some o:=by
   rw [Array.getElem?_toList,atA,ho];simp only [Option.map_some,eA,if_neg e2]
  have hoB:(opsB i ops).toList[k]?=some (eB i k o):=by
   rw [Array.getElem?_toList];have:=atB hi ho
   rwa [qBK e1 e2] at this
  obtain⟨xA,σA,hcA,hIA'⟩:=qMn hA.ord hA.tr (by simpa using hA.free) hIA hoA (by omega) hn he
  obtain⟨xB,σB,hcB,hIB'⟩:=qMn hB.ord hB.tr (by simpa using hB.free) hIB hoB (by omega) hn (fun e he' hb=>by
   simp only [eB,Array.toList_append,Array.toList_map,List.mem_append,List.mem_map] at he';rcases he' with⟨e0,he0,rfl⟩|he'
   ·exact (hl0 listed h1 h2 _).2 (he e0 he0 hb)
   ·rw [if_neg e2] at he';simp at he')
  have hwA:pwanted (opsA i ops).toList fr o=pwanted ops.toList fr o:=by
   unfold pwanted;cases hgd:o.guard with
   |none=>rfl
   |some gb =>
    obtain⟨g,b⟩:=gb;simp only [];have:((opsA i ops).toList[g]?).bind (·.dst)=(ops.toList[g]?).bind (·.dst):=by
     rw [Array.getElem?_toList,Array.getElem?_toList,atA];cases ops[g]? with
     |none=>rfl
     |some y =>
      obtain⟨z,hz⟩:=qZy i g y;simp only [Option.map_some,Option.bind_some,hz]
    rw [this]
  have hwB:pwanted (opsB i ops).toList fr (eB i k o)=pwanted ops.toList fr o:=by
   unfold pwanted;have e:(eB i k o).guard=o.guard:=rfl;rw [e];cases hgd:o.guard with
   |none=>rfl
   |some gb =>
    obtain⟨g,b⟩:=gb;obtain⟨g1,g2⟩:=qBG hg ho hgd;simp only [];have:((opsB i ops).toList[g]?).bind (·.dst)=(ops.toList[g]?).bind (·.dst):=by
     rw [Array.getElem?_toList,Array.getElem?_toList];cases hx:ops[g]? with
     |none =>
      have:(opsB i ops)[g]?=none:=by
       rw [Array.getElem?_eq_none_iff] at hx ⊢;rw [qBn];exact hx
      rw [this]
     |some y =>
      have:=atB hi hx;rw [qBK g1 g2] at this;rw [this];rfl
    rw [this]
  have hpB:pop tb Γ fr σ (eB i k o)=pop tb Γ fr σ o:=rfl;have hdB:(eB i k o).dst=o.dst:=rfl;rw [hwA] at hcA;rw [hwB,hpB] at hcB;rw [hdB] at hIB';have hcount:(listed.setIfInBounds k true).toList.count false≤fuel:=by
   have hlk:listed[k]?=some false:=by
    have hb:k < listed.size:=by omega
    unfold In at hn;rw [Array.getD_eq_getD_getElem?,Array.getElem?_eq_getElem hb] at hn;rw [Array.getElem?_eq_getElem hb];simpa using hn
   have:=qyG listed.toList k (by rw [Array.getElem?_toList];exact hlk)
   simp only [Array.toList_setIfInBounds];omega
  have hsize:(listed.setIfInBounds k true).size=ops.size:=by simp [hs]
  have n1:¬ In (listed.setIfInBounds k true) i:=by
   rw [qbY (by omega)]
   rintro (h|h)
   ·exact e1 h.symm
   ·exact h1 h
  have n2:¬ In (listed.setIfInBounds k true) (i+1):=by
   rw [qbY (by omega)]
   rintro (h|h)
   ·exact e2 h.symm
   ·exact h2 h
  unfold wpOpIn;simp only [ho];rcases hcA with⟨hw,rfl,rfl⟩|⟨hw,hp⟩
  ·rcases hcB with⟨_,rfl,rfl⟩|⟨hw',_⟩
   ·have hwn:=qco hst hw;simp only [hwn];exact⟨fun _ _=>trivial,ih _ _ _ _ _ hsize hcount n1 n2 hIA' hIB' (qzI hst _) r n⟩
   ·rw [hw] at hw';cases hw'
  ·rcases hcB with⟨hw',_⟩|⟨_,hp'⟩
   ·rw [hw] at hw';cases hw'
   ·rw [hp] at hp';simp only [Option.some.injEq,Prod.mk.injEq] at hp';obtain⟨rfl,rfl⟩:=hp';have hwn:=qco hst hw;simp only [hwn,if_true];exact qoU hT hΓ hst hp (fun a' w' hst'=>ih _ _ _ _ _ hsize hcount n1 n2 hIA' hIB' hst' r n) r n
theorem qFJ (hT:qaY P tb) (hΓ:qal P gl Γ) (hm:P.follows .mixedOrders=true) {id i:Nat} {ops:Array Oper} (hi:i+1 < ops.size) (hg:qo6 i ops=true) {fr frA frB:List PV} {σ σA σB:Store} {a:Act} {w:World} (hst:St gl H0 w0 fr σ a w)
  (hA:pops tb Γ (opsA i ops).toList (opsA i ops).toList fr σ=some (frA,σA)) (hdA:ordered Γ (opsA i ops).toList=true∨(qcb true Γ (opsA i ops).toList=true∧qfb Γ (opsA i ops).toList frA σ.objs.length=true))
  (hB:pops tb Γ (opsB i ops).toList (opsB i ops).toList fr σ=some (frB,σB)) (hdB:ordered Γ (opsB i ops).toList=true∨(qcb true Γ (opsB i ops).toList=true∧qfb Γ (opsB i ops).toList frB σ.objs.length=true))
  (hqA:∀ a' w',St gl H0 w0 frA σA a' w'→Q .normal a' w') (hqB:∀ a' w',St gl H0 w0 frB σB a' w'→Q .normal a' w') (r:Option Nat) (n:Nat):(Code.region id ops true).wpIn (rnd r) n P Q a w:=by
 refine wpIn_region_any hm ?_;obtain⟨bA,FA,SA,XA,tA,hFA,hSA,hFA',hSA'⟩:=qPO hA hdA;obtain⟨bB,FB,SB,XB,tB,hFB,hSB,hFB',hSB'⟩:=qPO hB hdB;rw [qIR] at hFA' hSA';rw [qBn] at hFB' hSB';have iA:=inv0 tA.tr ops.size;have iB:=inv0 tB.tr ops.size;rw [hFA,hSA] at iA;rw [hFB,hSB] at iB;exact qRe hT hΓ hi hg tA tB (by rw [hFA',hSA'];exact hqA) (by rw [hFB',hSB'];exact hqB) ops.size _ fr σ _ _ (by simp) (Nat.le_trans List.count_le_length (by simp)) (qO9 _ _) (qO9 _ _) iA iB (qKi hst) r n
end
def hasR (id:Nat):Code→Bool
 |.region id' _ draw=>Nat.beq id' id&&draw
 |.seq x y=>hasR id x || hasR id y
 |.block _ x=>hasR id x
 |_=>false
def qcR (id i:Nat) (b:Bool):Code→Code
 |.region id' ops draw=>match Nat.beq id' id&&draw with
  |true=>.region id' (match b with|true=>opsB i ops|false=>opsA i ops) draw
  |false=>.region id' ops draw
 |.seq x y=>match hasR id x with
  |true=>.seq (qcR id i b x) y
  |false=>.seq x (qcR id i b y)
 |.block k x=>.block k (qcR id i b x)
 |c=>c
def qBC:List Oper→Bool
 |[]=>true
 |o::l=>(match o.op with
  |.panic _=>false
  |.call c=>match c.callee with
   |.value _=>false
   |_=>true
  |_=>true)&&qBC l
theorem qB8 {Γ:Gam}:∀ {l:List Oper},qBC l=true→anyP Γ l=false
 |[],_=>rfl
 |o::l,h=>by
  simp only [qBC,Bool.and_eq_true] at h
  have h2:=qB8 (Γ:=Γ) h.2;have h1:mayP Γ o=false:=by
   have h0:=h.1;unfold mayP;cases ho:o.op with
   |panic x=>simp only [ho] at h0;cases h0
   |call c =>
    simp only [ho] at h0 ⊢;cases hc:c.callee with
    |value f=>simp only [hc] at h0;cases h0
    |_=>rfl
   |_=>rfl
  simp only [anyP,h1,h2]
def qs4 (id i:Nat):Code→Bool
 |.region id' ops draw=>!(Nat.beq id' id&&draw) || (Nat.blt (i+1) ops.size&&qo6 i ops&&qBC (opsA i ops).toList&&qBC (opsB i ops).toList)
 |.seq x y=>qs4 id i x&&qs4 id i y
 |.block _ x=>qs4 id i x
 |_=>true
section
variable {P : Program} {tb : Tab} {gl : Gl} {Γ : Gam}
def DoesO (P:Program) (gl:Gl) (c:Code) (fr:List PV) (σ:Store) (O:PExit→List PV→Store→Prop):Prop :=
 ∀ (r:Option Nat) (n:Nat) (H0:Gh) (w0:World),RIn r H0→∀ (Q:Exit→Act→World→Prop) (a:Act) (w:World),St gl H0 w0 fr σ a w→(∀ e fr' σ',O e fr' σ'→∀ a' w',St gl H0 w0 fr' σ' a' w'→Q e.as a' w')→c.wpIn (rnd r) n P Q a w
theorem Does.all {c:Code} {fr:List PV} {σ:Store} {e:PExit} {fr':List PV} {σ':Store} {O:PExit→List PV→Store→Prop} (h:Does P gl c fr σ e fr' σ') (ho:O e fr' σ'):DoesO P gl c fr σ O :=
 fun r n H0 w0 hR Q a w hst hq=>h r n H0 w0 hR Q a w hst (hq _ _ _ ho)
theorem qVE {ops:Array Oper} {fr fr1:List PV} {σ σ1:Store} {id:Nat} {e:PExit} {fr':List PV} {σ':Store} (hd:qaN Γ (.region id ops true)=true) (hqt:qBC ops.toList=true) {L:Lps} (h:pexec tb Γ L (.region id ops true) fr σ=some (e,fr',σ')) :
  e=.normal∧pops tb Γ ops.toList ops.toList fr σ=some (fr',σ')∧(ordered Γ ops.toList=true∨(qcb true Γ ops.toList=true∧qfb Γ ops.toList fr' σ.objs.length=true)):=by
 have hnp:qzm Γ ops.toList true=false:=qB8 hqt;simp only [pexec,hnp] at h
 split at h
 ·rename_i fr1 σ1 hp;split at h
  ·cases h
  rename_i hna;simp only [Option.some.injEq,Prod.mk.injEq] at h
  obtain⟨rfl,rfl,rfl⟩:=h;refine⟨rfl,hp,?_⟩;simp only [qaN,hnp,Bool.not_true,Bool.false_or,Bool.or_eq_true,Bool.and_eq_true] at hd;rcases hd with hd|⟨hd1,hd2⟩
  ·exact .inl hd
  ·cases ho:ordered Γ ops.toList with
   |true=>exact .inl rfl
   |false =>
    refine .inr ⟨hd2,?_⟩;cases hal:qfb Γ ops.toList fr1 σ.objs.length with
    |true=>rfl
    |false=>simp [qRU,hd1,ho,hal] at hna
 ·cases h
theorem qm4 (hT:qaY P tb) (hΓ:qal P gl Γ) (hm:P.follows .mixedOrders=true) {L:Lps} {id i:Nat} {O:PExit→List PV→Store→Prop}:∀ (c:Code) (fr:List PV) (σ:Store) (eA:PExit) (frA:List PV) (σA:Store) (eB:PExit) (frB:List PV) (σB:Store),
  qs4 id i c=true→qbm P gl L c→qaN Γ (qcR id i false c)=true→qaN Γ (qcR id i true c)=true→pexec tb Γ L (qcR id i false c) fr σ=some (eA,frA,σA)→pexec tb Γ L (qcR id i true c) fr σ=some (eB,frB,σB)→O eA frA σA→O eB frB σB→DoesO P gl c fr σ O
 |.region id' ops draw,fr,σ,eA,frA,σA,eB,frB,σB,hp,hL,hdA,hdB,hA,hB,oA,oB=>by
  cases hid:Nat.beq id' id&&draw with
  |false =>
   simp only [qcR,hid] at hdA hA;exact (qaQ hT hΓ hm _ fr σ eA frA σA hL hdA hA).all oA
  |true =>
   have hdr:draw=true:=by
    cases draw with
    |true=>rfl
    |false=>simp at hid
   subst hdr;simp only [qcR,hid] at hdA hdB hA hB;simp only [qs4,hid,Bool.not_true,Bool.false_or,Bool.and_eq_true] at hp;obtain⟨rfl,a1,a2⟩:=qVE (fr1:=fr) (σ1:=σ) hdA hp.1.2 hA;obtain⟨rfl,b1,b2⟩:=qVE (fr1:=fr) (σ1:=σ) hdB hp.2 hB;intro r n H0 w0 hR Q a w hst hq;exact qFJ hT hΓ hm (by simpa [Nat.blt_eq] using hp.1.1.1) hp.1.1.2 hst a1 a2 b1 b2 (hq _ _ _ oA) (hq _ _ _ oB) r n
 |.seq x y,fr,σ,eA,frA,σA,eB,frB,σB,hp,hL,hdA,hdB,hA,hB,oA,oB=>by
  simp only [qs4,Bool.and_eq_true] at hp;cases hx:hasR id x with
  |true =>
   simp only [qcR,hx,qaN,Bool.and_eq_true] at hdA hdB;simp only [qcR,hx,pexec] at hA hB;intro r n H0 w0 hR Q a w hst hq;refine wpIn_seq ?_
   -- behind the first part: the second,or out
   have key:∀ (b:Bool) (eX:PExit) (frX:List PV) (σX:Store),(match pexec tb Γ L (qcR id i b x) fr σ with|some (.normal,fr',σ')=>pexec tb Γ L y fr' σ'|r=>r)=some (eX,frX,σX)→O eX frX σX →
     ∃ e1 fr1 σ1,pexec tb Γ L (qcR id i b x) fr σ=some (e1,fr1,σ1)∧∀ a1 w1,St gl H0 w0 fr1 σ1 a1 w1→(match e1.as with|.normal=>y.wpIn (rnd r) n P Q a1 w1|e=>Q e a1 w1):=by
    intro b eX frX σX h ho;split at h
    ·rename_i fr1 σ1 hx1;exact⟨.normal,fr1,σ1,hx1,fun a1 w1 hst1=>qaQ hT hΓ hm y fr1 σ1 eX frX σX hL.2 hdA.2 h r n H0 w0 hR _ _ _ hst1 (hq _ _ _ ho)⟩
    ·rename_i hne;refine⟨eX,frX,σX,h,fun a1 w1 hst1=>?_⟩
     cases eX with
     |normal=>exact absurd h (hne _ _)
     |exit id=>exact hq _ _ _ ho _ _ hst1
     |ret=>exact hq _ _ _ ho _ _ hst1
     |pan x=>exact hq _ _ _ ho _ _ hst1
   obtain⟨e1,f1,s1,p1,k1⟩:=key false _ _ _ hA oA;obtain⟨e2,f2,s2,p2,k2⟩:=key true _ _ _ hB oB;refine qm4 hT hΓ hm (O:=fun e f s=>(e,f,s)=(e1,f1,s1)∨(e,f,s)=(e2,f2,s2)) x fr σ _ _ _ _ _ _ hp.1 hL.1 hdA.1 hdB.1 p1 p2 (.inl rfl) (.inr rfl) r n H0 w0 hR _ a w hst ?_
   rintro e f s (h|h) a1 w1 hst1
   ·cases h
    have:=k1 a1 w1 hst1;cases e1<;>exact this
   ·cases h
    have:=k2 a1 w1 hst1;cases e2<;>exact this
  |false =>
   simp only [qcR,hx,qaN,Bool.and_eq_true] at hdA hdB;simp only [qcR,hx,pexec] at hA hB;intro r n H0 w0 hR Q a w hst hq;refine wpIn_seq ?_;cases hx1:pexec tb Γ L x fr σ with
   |none=>rw [hx1] at hA;cases hA
   |some t =>
    obtain⟨e1,f1,s1⟩:=t;refine qaQ hT hΓ hm x fr σ e1 f1 s1 hL.1 hdA.1 hx1 r n H0 w0 hR _ a w hst fun a1 w1 hst1=>?_
    rw [hx1] at hA hB;cases e1 with
    |normal=>exact qm4 hT hΓ hm (O:=O) y f1 s1 _ _ _ _ _ _ hp.2 hL.2 hdA.2 hdB.2 hA hB oA oB r n H0 w0 hR Q a1 w1 hst1 hq
    |exit id =>
     simp only [Option.some.injEq,Prod.mk.injEq] at hA;obtain⟨rfl,rfl,rfl⟩:=hA;exact hq _ _ _ oA _ _ hst1
    |ret =>
     simp only [Option.some.injEq,Prod.mk.injEq] at hA;obtain⟨rfl,rfl,rfl⟩:=hA;exact hq _ _ _ oA _ _ hst1
    |pan x =>
     simp only [Option.some.injEq,Prod.mk.injEq] at hA;obtain⟨rfl,rfl,rfl⟩:=hA;exact hq _ _ _ oA _ _ hst1
 |.skip,fr,σ,eA,frA,σA,eB,frB,σB,hp,hL,hdA,hdB,hA,hB,oA,oB=>(qaQ hT hΓ hm _ fr σ eA frA σA hL hdA hA).all oA
 |.label _,fr,σ,eA,frA,σA,eB,frB,σB,hp,hL,hdA,hdB,hA,hB,oA,oB=>(qaQ hT hΓ hm _ fr σ eA frA σA hL hdA hA).all oA
 |.cond _ _ _,fr,σ,eA,frA,σA,eB,frB,σB,hp,hL,hdA,hdB,hA,hB,oA,oB=>(qaQ hT hΓ hm _ fr σ eA frA σA hL hdA hA).all oA
 |.block k x,fr,σ,eA,frA,σA,eB,frB,σB,hp,hL,hdA,hdB,hA,hB,oA,oB=>by
  simp only [qcR,pexec] at hA hB;have key:∀ (b:Bool) (eX:PExit) (frX:List PV) (σX:Store),(match pexec tb Γ L (qcR id i b x) fr σ with|some (.exit j,fr',σ')=>if j=k then some (.normal,fr',σ') else some (.exit j,fr',σ')|r=>r)=some (eX,frX,σX)→O eX frX σX →
    ∃ e1,pexec tb Γ L (qcR id i b x) fr σ=some (e1,frX,σX)∧∀ (Q:Exit→Act→World→Prop) a w,Q eX.as a w→Exit.inBlock k Q e1.as a w:=by
   intro b eX frX σX h ho;split at h
   ·rename_i j fr1 σ1 hx;split at h
    ·rename_i hj;subst hj;simp only [Option.some.injEq,Prod.mk.injEq] at h
     obtain⟨rfl,rfl,rfl⟩:=h;exact⟨_,hx,fun Q a w hq=>by simp only [PExit.as,Exit.inBlock,if_true];exact hq⟩
    ·rename_i hj;simp only [Option.some.injEq,Prod.mk.injEq] at h
     obtain⟨rfl,rfl,rfl⟩:=h;exact⟨_,hx,fun Q a w hq=>by simp only [PExit.as,Exit.inBlock,if_neg hj];exact hq⟩
   ·rename_i hne;refine⟨eX,h,fun Q a w hq=>?_⟩
    cases eX with
    |normal=>exact hq
    |exit j=>exact absurd h (hne _ _ _)
    |ret=>exact hq
    |pan x=>exact hq
  obtain⟨e1,p1,k1⟩:=key false _ _ _ hA oA;obtain⟨e2,p2,k2⟩:=key true _ _ _ hB oB;intro r n H0 w0 hR Q a w hst hq;refine wpIn_block ?_;refine qm4 hT hΓ hm (O:=fun e f s=>(e,f,s)=(e1,frA,σA)∨(e,f,s)=(e2,frB,σB)) x fr σ _ _ _ _ _ _ hp hL hdA hdB p1 p2 (.inl rfl) (.inr rfl) r n H0 w0 hR _ a w hst ?_
  rintro e f s (h|h) a1 w1 hst1
  ·cases h
   exact k1 Q a1 w1 (hq _ _ _ oA _ _ hst1)
  ·cases h
   exact k2 Q a1 w1 (hq _ _ _ oB _ _ hst1)
 |.loop _,fr,σ,eA,frA,σA,eB,frB,σB,hp,hL,hdA,hdB,hA,hB,oA,oB=>(qaQ hT hΓ hm _ fr σ eA frA σA hL hdA hA).all oA
 |.scope _,fr,σ,eA,frA,σA,eB,frB,σB,hp,hL,hdA,hdB,hA,hB,oA,oB=>(qaQ hT hΓ hm _ fr σ eA frA σA hL hdA hA).all oA
 |.exit _,fr,σ,eA,frA,σA,eB,frB,σB,hp,hL,hdA,hdB,hA,hB,oA,oB=>(qaQ hT hΓ hm _ fr σ eA frA σA hL hdA hA).all oA
 |.rangeFunc _ _ _ _,fr,σ,eA,frA,σA,eB,frB,σB,hp,hL,hdA,hdB,hA,hB,oA,oB=>(qaQ hT hΓ hm _ fr σ eA frA σA hL hdA hA).all oA
 |.goto _,fr,σ,eA,frA,σA,eB,frB,σB,hp,hL,hdA,hdB,hA,hB,oA,oB=>(qaQ hT hΓ hm _ fr σ eA frA σA hL hdA hA).all oA
 |.refuse _,fr,σ,eA,frA,σA,eB,frB,σB,hp,hL,hdA,hdB,hA,hB,oA,oB=>(qaQ hT hΓ hm _ fr σ eA frA σA hL hdA hA).all oA
 |.ret,fr,σ,eA,frA,σA,eB,frB,σB,hp,hL,hdA,hdB,hA,hB,oA,oB=>(qaQ hT hΓ hm _ fr σ eA frA σA hL hdA hA).all oA
theorem DoesO.based {c:Code} {fr:List PV} {σ:Store} {O:PExit→List PV→Store→Prop} {e':PExit} {fr':List PV} {σ':Store} (h:DoesO P gl c fr σ O)
  (key:∀ (H:Gh) (w:World),Ok gl H σ w→∀ e fr1 σ1,O e fr1 σ1→e=e'∧∀ a' w',St gl H w fr1 σ1 a' w'→St gl H w fr' σ' a' w'):Does P gl c fr σ e' fr' σ':=by
 intro r n H0 w0 hR Q a w hst hq;obtain⟨H,hev,hok,hfr,hd⟩:=hst;refine h r n H w (hR.ev hev) Q a w ⟨H,Ev.refl H w,hok,hfr,hd⟩ fun e fr1 σ1 ho a' w' hst'=>?_
 obtain⟨rfl,k⟩:=key H w hok e fr1 σ1 ho;obtain⟨H',hev',hok',hfr',hd'⟩:=k a' w' hst';exact hq a' w' ⟨H',hev.trans hev',hok',hfr',hd'⟩
section
variable {H : Gh} {w w' : World} {σ σ2 : Store} {fr1 : List PV} {ss : List Nat} {a' : Act}
theorem qL8 (hok:Ok gl H σ w) (h:St gl H w fr1 σ2 a' w'):∃ fr3,fr3.length=fr1.length∧(qGx σ (rsl ss fr1) σ2).1=rsl ss fr3∧St gl H w fr3 (qGx σ (rsl ss fr1) σ2).2 a' w':=by
 unfold qGx;split
 ·exact⟨fr1,rfl,rfl,h⟩
 ·refine⟨_,qnc _ _,qCp _ _ _,qPo (by rw [hok.len];exact Nat.le_max_left _ _) (fun t T e hk=>?_) h⟩
  obtain⟨_,_,o,_,ho⟩:=hok.tok t T e (fun hh=>hh.2 hk)
  rcases ho with⟨h1,_⟩|⟨_,_,r,_,_,_,h6,_⟩
  ·exact absurd hk h1
  ·rw [hok.len] at h6;omega
theorem qLY (hok:Ok gl H σ w) (tr:Bool) (h:St gl H w fr1 σ2 a' w'):St gl H w (mk fr1.length (ss.zip (qhA tr σ (rsl ss fr1) σ2).1)) (qhA tr σ (rsl ss fr1) σ2).2 a' w':=by
 have key:∃ fr3,fr3.length=fr1.length∧(qhA tr σ (rsl ss fr1) σ2).1=rsl ss fr3∧St gl H w fr3 (qhA tr σ (rsl ss fr1) σ2).2 a' w':=by
  cases tr with
  |false=>exact⟨fr1,rfl,rfl,h⟩
  |true =>
   simp only [qhA];unfold qQK;split
   ·exact qL8 hok h
   ·rw [qCy];obtain⟨fr3,h1,h2,h3⟩:=qL8 (ss:=ss) hok (qP7 (m:=max σ.toks.length (max (qvj (rsl ss fr1)) (qva (σ2.objs.take σ.objs.length)))) (by
     have:=congrArg List.length hok.tkl;simp at this;omega) h)
    exact⟨fr3,by rw [h1,qnA],h2,h3⟩
 obtain⟨fr3,h1,h2,h3⟩:=key;rw [h2,← h1];exact qES (qjN fr3 ss) h3
end
section
variable {G : GamT}
theorem qLG (hT:qaY P tb) (hΓ:qal P gl (gam G)) (hm:P.follows .mixedOrders=true) {L:LpsT} {c:Code} (hL:qbm P gl (lps L) c) {id i:Nat} (hp:qs4 id i c=true) (hdA:qaN (gam G) (qcR id i false c)=true) (hdB:qaN (gam G) (qcR id i true c)=true)
  {nt:Nat} {fr:List PV} {σ:Store} {e:PExit} {kA kB:List Nat} {frA frB:List PV} {σA σB:Store} (hA:Tr.run (texec tb G L (qcR id i false c) [] fr σ)=some (e,kA,frA,σA)) (hB:Tr.run (texec tb G L (qcR id i true c) [] fr σ)=some (e,kB,frB,σB))
  {tr:Bool} {ss:List Nat} {vs1:List PV} {σ1:Store} (hlA:frA.length=nt) (hlB:frB.length=nt) (tA:qhA tr σ (rsl ss frA) σA=(vs1,σ1)) (tB:qhA tr σ (rsl ss frB) σB=(vs1,σ1)):Does P gl c fr σ e (mk nt (ss.zip vs1)) σ1:=by
 refine DoesO.based (O:=fun e' f s=>(e',f,s)=(e,frA,σA)∨(e',f,s)=(e,frB,σB)) (qm4 hT hΓ hm c fr σ _ _ _ _ _ _ hp hL hdA hdB (qik _ _ _ _ _ _ _ _ hA) (qik _ _ _ _ _ _ _ _ hB) (.inl rfl) (.inr rfl)) fun H w hok e' f s ho=>?_
 rcases ho with ho|ho
 ·cases ho
  refine⟨rfl,fun a' w' hst=>?_⟩
  have:=qLY (ss:=ss) hok tr hst
  rwa [tA,hlA] at this
 ·cases ho
  refine⟨rfl,fun a' w' hst=>?_⟩
  have:=qLY (ss:=ss) hok tr hst
  rwa [tB,hlB] at this
open Classical in
def qCi (tb:Tab) (G:GamT) (L:LpsT) (c:Code) (id i:Nat) (I:LI) (vs:List PV) (σ:Store):Tr LR :=
 Tr.bind (lstep tb G L (qcR id i false c) I vs σ) fun x=>Tr.bind (lstep tb G L (qcR id i true c) I vs σ) fun y=>if x=y then .ret x else .fail
theorem qCb {L:LpsT} {c:Code} {id i:Nat} {I:LI} {vs:List PV} {σ:Store} {x:LR} (h:(qCi tb G L c id i I vs σ).run=some x):(lstep tb G L (qcR id i false c) I vs σ).run=some x∧(lstep tb G L (qcR id i true c) I vs σ).run=some x:=by
 obtain⟨x1,h1,h2⟩:=Tr.bind_some h;obtain⟨y,h3,h4⟩:=Tr.bind_some h2;split at h4
 ·rename_i he;subst he;simp only [Tr.run_ret,Option.some.injEq] at h4;subst h4;exact⟨h1,h3⟩
 ·cases h4
theorem qQV {L:LpsT} {c:Code} {id i:Nat} {I:LI} {vs:List PV} {σ:Store} {t:Tr LR} (hA:lstep tb G L (qcR id i false c) I vs σ=t) (hB:lstep tb G L (qcR id i true c) I vs σ=t):(qCi tb G L c id i I vs σ).run=t.run:=by
 unfold qCi;rw [hA,hB];cases ht:t.run with
 |none=>rw [Tr.run_bind,ht];rfl
 |some x=>simp [Tr.run_bind,ht]
theorem qsX {L:LpsT} {c:Code} {I:LI} {vs:List PV} {σ:Store} {x:LR} (h:(lstep tb G L c I vs σ).run=some x):∃ e kn fr1 σ2,Tr.run (texec tb G L c [] (mk I.nt (I.ss.zip vs)) σ)=some (e,kn,fr1,σ2)∧fr1.length=I.nt∧x=match e with
  |.normal=>.next (qhA I.tr σ (rsl I.ss fr1) σ2).1 (qhA I.tr σ (rsl I.ss fr1) σ2).2
  |e=>.out e (qhA I.tr σ (rsl (I.os e) fr1) σ2).1 (qhA I.tr σ (rsl (I.os e) fr1) σ2).2:=by
 obtain⟨⟨e1,kn,fr1,σ2⟩,h1,h2⟩:=Tr.bind_some (Tr.flat_run h);simp only at h2;split at h2
 ·rename_i hn;refine⟨e1,kn,fr1,σ2,h1,hn,?_⟩;cases e1<;>(simp only [Tr.run_ret,Option.some.injEq] at h2;exact h2.symm)
 ·cases h2
theorem qKL (hT:qaY P tb) (hΓ:qal P gl (gam G)) (hm:P.follows .mixedOrders=true) {L:LpsT} {c:Code} (hL:qbm P gl (lps L) c) {id i:Nat} (hp:qs4 id i c=true) (hdA:qaN (gam G) (qcR id i false c)=true) (hdB:qaN (gam G) (qcR id i true c)=true) {I:LI} :
  ∀ (n:Nat) (vs:List PV) (σ:Store) (e:PExit) (vs':List PV) (σ':Store),lrun (qCi tb G L c id i I) n vs σ=some (e,vs',σ')→LDoes P gl c (mk I.nt (I.ss.zip vs)) σ e (mk I.nt ((I.os e).zip vs')) σ':=by
 intro n
 induction n with
 |zero=>intro vs σ e vs' σ' h;cases h
 |succ n ih =>
  intro vs σ e vs' σ' h;simp only [lrun] at h
  split at h
  ·rename_i vs1 σ1 hs;obtain⟨hA,hB⟩:=qCb hs;obtain⟨eA,kA,fA,sA,xA,lA,yA⟩:=qsX hA;obtain⟨eB,kB,fB,sB,xB,lB,yB⟩:=qsX hB;cases eA<;>simp only [LR.next.injEq,reduceCtorEq] at yA
   cases eB<;>simp only [LR.next.injEq,reduceCtorEq] at yB
   exact LDoes.next (qLG hT hΓ hm hL hp hdA hdB xA xB lA lB (Prod.ext yA.1.symm yA.2.symm) (Prod.ext yB.1.symm yB.2.symm)) (ih _ _ _ _ _ h)
  ·rename_i e1 vs1 σ1 hs;simp only [Option.some.injEq,Prod.mk.injEq] at h
   obtain⟨rfl,rfl,rfl⟩:=h;obtain⟨hA,hB⟩:=qCb hs;obtain⟨eA,kA,fA,sA,xA,lA,yA⟩:=qsX hA;obtain⟨eB,kB,fB,sB,xB,lB,yB⟩:=qsX hB;have fin:eA≠.normal→eB≠.normal→e1=eA∧e1=eB∧qhA I.tr σ (rsl (I.os e1) fA) sA=(vs1,σ1)∧qhA I.tr σ (rsl (I.os e1) fB) sB=(vs1,σ1):=by
    intro nA nB;cases eA<;>(first|exact absurd rfl nA|(simp only [LR.out.injEq] at yA;obtain⟨rfl,y1,y2⟩:=yA))
    all_goals cases eB<;>(first|exact absurd rfl nB|(simp only [LR.out.injEq,reduceCtorEq,false_and] at yB))
    all_goals
     obtain⟨y0,y3,y4⟩:=yB
     first
      |(cases y0;exact⟨rfl,rfl,Prod.ext y1.symm y2.symm,Prod.ext y3.symm y4.symm⟩)
      |exact⟨rfl,rfl,Prod.ext y1.symm y2.symm,Prod.ext y3.symm y4.symm⟩
   have nA:eA≠.normal:=fun h=>by subst h;simp only [reduceCtorEq] at yA
   have nB:eB≠.normal:=fun h=>by subst h;simp only [reduceCtorEq] at yB
   obtain⟨rfl,rfl,tA,tB⟩:=fin nA nB;exact LDoes.out (qLG hT hΓ hm hL hp hdA hdB xA xB lA lB tA tB) nA
  ·cases h
theorem qYB (hT:qaY P tb) (hΓ:qal P gl (gam G)) (hm:P.follows .mixedOrders=true) {L:LpsT} {c:Code} (hL:qbm P gl (lps L) c) (id i:Nat) (hp:qs4 id i c=true) (hdA:qaN (gam G) (qcR id i false c)=true) (hdB:qaN (gam G) (qcR id i true c)=true) {I:LI} {prop:List PV→Store→Tr (PExit×List PV×Store)}
  (h:∀ vs σ r,(prop vs σ).run=some r→lval (qCi tb G L c id i I) vs σ=some r):∀ fr σ e fr' σ',(orc I prop fr σ).run=some (e,fr',σ')→LDoes P gl c fr σ e fr' σ':=by
 intro fr σ e fr' σ' hr;unfold orc at hr;split at hr
 ·rename_i hn;obtain⟨⟨e1,vs1,σ1⟩,h1,h2⟩:=Tr.bind_some hr;simp only [Tr.run_ret,Option.some.injEq,Prod.mk.injEq] at h2;obtain⟨rfl,rfl,rfl⟩:=h2;obtain⟨n,hn'⟩:=qsE (h _ _ _ h1);have hw:=qjN fr I.ss;rw [hn] at hw;exact LDoes.into hw (qKL hT hΓ hm hL hp hdA hdB n _ _ _ _ _ hn')
 ·cases hr
end
end
end Go.Pv
set_option maxHeartbeats 4000000
set_option maxRecDepth 200000
set_option linter.unusedSimpArgs false
set_option linter.unusedVariables false
namespace Go.Pv
open Go Go.Proofs
def qqv:GamT:=ofL []
theorem qBR (gl:Gl):qal Tryz.prog gl (gam qqv):=qaf
def qqI:Code:=qc2 Tryz.f21 4
def qsd:LI:=⟨38,[2,3,5],fun e=>match e with|.ret=>[4]|.exit 0=>[]|_=>[],true⟩
def qtN:LpsT:=fun r fr σ=>.fail
def qda (vs:List PV) (σ:Store):Option (PExit×List PV×Store):=lval (lstep tbT qqv qtN qqI qsd) vs σ
section
variable (i:Int) (s:qU) (r:qR) (s2:qU) (r2:qR)
def qnC:Tr LR:=let z1:List PV:=[.int .i64 0,.str [],.int .i64 0,.int .i64 0,.str []];let z2:=nNat i;let z3:Store:=Store.mk [[.str s,.sl r .non],[.str s2,.sl r2 .non]] [] [48,48];.ite (iLt i (xLen r)) (.ite (qax i) (.ite (qbl z1 r z2) (.ite (qax i) (.ite (qbl z1 r2 z2) (.ite (bNot (bAnd (iEq (xInt r z2 0) (xInt r2 z2 0)) (bAnd (sEq (xStr r z2 1) (xStr r2 z2 1)) (bAnd (bAnd (iEq (xInt r z2 2) (xInt r2 z2 2)) (bAnd (iEq (xInt r z2 3) (xInt r2 z2 3)) (bAnd (sEq (xStr r z2 4) (xStr r2 z2 4)) true))) true)))) (.ret (.out .ret [.bool false] z3)) (.ret (.next [.ptr 0 0,.ptr 1 0,.int .i64 (iAdd .i64 i 1)] z3))) .fail) .fail) .fail) .fail) (.ret (.out (.exit 0) [] z3))
theorem qQA:lstep tbT qqv qtN qqI qsd [.ptr 0 0,.ptr 1 0,.int .i64 i] ⟨[[.str s,.sl r .non],[.str s2,.sl r2 .non]],[],[48,48]⟩=qnC i s r s2 r2:=by kernel_rfl
theorem qHJ:qda [.ptr 0 0,.ptr 1 0,.int .i64 i] ⟨[[.str s,.sl r .non],[.str s2,.sl r2 .non]],[],[48,48]⟩=lnext qda (qnC i s r s2 r2).run:=by unfold qda;rw [qaC,qQA]
def qqo:Option (PExit×List PV×Store):=qda [.ptr 0 0,.ptr 1 0,.int .i64 i] ⟨[[.str s,.sl r .non],[.str s2,.sl r2 .non]],[],[48,48]⟩
def qkj:Bool:=qod 0 (qqo i s r s2 r2)
def qpx:Bool:=isW (qqo i s r s2 r2) (.ret,[.bool (qkj i s r s2 r2)],⟨[[.str s,.sl r .non],[.str s2,.sl r2 .non]],[],[48,48]⟩)
def qoN:Bool:=isW (qqo i s r s2 r2) ((.exit 0),[],⟨[[.str s,.sl r .non],[.str s2,.sl r2 .non]],[],[48,48]⟩)
end
def qgT:List PV→Store→Tr (PExit×List PV×Store)|[.ptr 0 0,.ptr 1 0,.int .i64 i],⟨[[.str s,.sl r .non],[.str s2,.sl r2 .non]],[],[48,48]⟩=>.ite (qpx i s r s2 r2) (.ret (.ret,[.bool (qkj i s r s2 r2)],⟨[[.str s,.sl r .non],[.str s2,.sl r2 .non]],[],[48,48]⟩)) (.ite (qoN i s r s2 r2) (.ret ((.exit 0),[],⟨[[.str s,.sl r .non],[.str s2,.sl r2 .non]],[],[48,48]⟩)) (.fail))|_,_=>.fail
theorem qOb:∀ vs σ r,(qgT vs σ).run=some r→qda vs σ=some r:=by
 intro vs σ r h;unfold qgT at h
 split at h
 ·exact qae h fun h=>qae h fun h=>by cases h
 ·cases h
theorem qHH (gl:Gl):∀ fr σ e fr' σ',(orc qsd qgT fr σ).run=some (e,fr',σ')→LDoes Tryz.prog gl qqI fr σ e fr' σ':=qbw qaj (qBR gl ) qai (L:=qtN) (qab (by kernel_rfl)) (by kernel_rfl) qOb
def qEN:LpsT:=fun r fr σ=>bif Nat.beq r 4 then orc qsd qgT fr σ else .fail
section
variable (a:qU) (a2:qR) (b:qU) (b2:qR)
def qyZ:Tr PV:=.ite (sNe a b) (.ret (.bool false)) (.ite (iNe (xLen a2) (xLen b2)) (.ret (.bool false)) (.ite (qpx 0 a a2 b b2) (.ret (.bool (qkj 0 a a2 b b2))) (.ite (qoN 0 a a2 b b2) (.ret (.bool true)) .fail)))
theorem qUu:(tcall tbT qqv qEN Tryz.f21 [.agg [.str a,.sl a2 .non],.agg [.str b,.sl b2 .non]]).flat=qyZ a a2 b b2:=by kernel_rfl
def qwj:Option PV:=(qyZ a a2 b b2).run
def qna:Bool:=(qeC (gVal (qwj a a2 b b2)))
def qiY:Bool:=isW (qwj a a2 b b2) (.bool (qna a a2 b b2))
end
def qwU:List PV→Tr PV|[.agg [.str a,.sl a2 .non],.agg [.str b,.sl b2 .non]]=>.ite (qiY a a2 b b2) (.ret (.bool (qna a a2 b b2))) (.fail)|_=>.fail
theorem qCw (gl:Gl):SimP Tryz.prog gl 21 fun args=>(qwU args).run:=by
 refine SimP.of_flat (G:=qqv) (L:=qEN) qaj (qBR gl ) qai  Tryz.func21 rfl (by rfl) (by kernel_rfl) (qav (L:=lps qEN) [(4,qqI)] (by kernel_rfl) (List.forall_mem_cons.2 ⟨fun fr σ e fr' σ' h=>qHH gl  fr σ e fr' σ' h,(List.forall_mem_nil _)⟩)) ?_
 intro args x h;unfold qwU at h
 split at h
 ·exact (congrArg Tr.run (qUu _ _ _ _)).trans (qae h fun h=>by cases h)
 ·cases h
def qmW:GamT:=ofL [(21,.pure qwU)]
theorem qB7 (gl:Gl):qal Tryz.prog gl (gam qmW):=(qag (qCw gl) qaf)
def qkW:Code:=qc2 Tryz.f20 4
def qlX:LI:=⟨74,[2,3,5],fun e=>match e with|.ret=>[4]|.exit 0=>[]|_=>[],true⟩
def qni:LpsT:=fun r fr σ=>.fail
def qdb (vs:List PV) (σ:Store):Option (PExit×List PV×Store):=lval (qCi tbT qmW qni qkW 6 10 qlX) vs σ
section
variable (n:Int) (s:qU) (r r2:qR) (s2:qU) (r3 r4:qR)
def qir:Tr LR:=let z1:List PV:=[.int .i64 0,.str [],.sl [] .full,.int .i64 0,.int .i64 0,.str [],.int .i64 0,.int .i64 0,.str [],.int .i64 0,.str [],.int .i64 0,.int .i64 0,.str []];let z2:=nNat n;let z3:Store:=Store.mk [[.str s,.sl (qau 2 r) .non,.sl (qau 2 r2) .non],[.str s2,.sl (qau 2 r3) .non,.sl (qau 2 r4) .non]] [] [51,51];.ite (iLt n (xLen r2)) (.ite (qax n) (.ite (qbl z1 r2 z2) (.ite (qax n) (.ite (qbl z1 r4 z2) (.ite (iNe (xInt r2 z2 0) (xInt r4 z2 0)) (.ret (.out .ret [.bool false] z3)) (.ite (iNe (xInt r2 z2 3) (xInt r4 z2 3)) (.ret (.out .ret [.bool false] z3)) (.ite (bNot (bAnd (iEq (xInt r2 z2 4) (xInt r4 z2 4)) (bAnd (sEq (xStr r2 z2 5) (xStr r4 z2 5)) (bAnd (bAnd (iEq (xInt r2 z2 6) (xInt r4 z2 6)) (bAnd (iEq (xInt r2 z2 7) (xInt r4 z2 7)) (bAnd (sEq (xStr r2 z2 8) (xStr r4 z2 8)) true))) true)))) (.ret (.out .ret [.bool false] z3)) (.ite (bNot (bAnd (iEq (xInt r2 z2 9) (xInt r4 z2 9)) (bAnd (sEq (xStr r2 z2 10) (xStr r4 z2 10)) (bAnd (bAnd (iEq (xInt r2 z2 11) (xInt r4 z2 11)) (bAnd (iEq (xInt r2 z2 12) (xInt r4 z2 12)) (bAnd (sEq (xStr r2 z2 13) (xStr r4 z2 13)) true))) true)))) (.ret (.out .ret [.bool false] z3)) (.ite (qiY (xStr r2 z2 1) (qac (xRow r2 z2 2)) (xStr r4 z2 1) (qac (xRow r4 z2 2))) (.ite (bNot (qna (xStr r2 z2 1) (qac (xRow r2 z2 2)) (xStr r4 z2 1) (qac (xRow r4 z2 2)))) (.ret (.out .ret [.bool false] z3)) (.ret (.next [.ptr 0 0,.ptr 1 0,.int .i64 (iAdd .i64 n 1)] z3))) .fail))))) .fail) .fail) .fail) .fail) (.ret (.out (.exit 0) [] (Store.mk [[.str s,.sl r .non,.sl r2 .non],[.str s2,.sl r3 .non,.sl r4 .non]] [] [51,51])))
theorem qQ5:lstep tbT qmW qni (qcR 6 10 false qkW) qlX [.ptr 0 0,.ptr 1 0,.int .i64 n] ⟨[[.str s,.sl r .non,.sl r2 .non],[.str s2,.sl r3 .non,.sl r4 .non]],[],[51,51]⟩=qir n s r r2 s2 r3 r4:=by kernel_rfl
theorem qOy:lstep tbT qmW qni (qcR 6 10 true qkW) qlX [.ptr 0 0,.ptr 1 0,.int .i64 n] ⟨[[.str s,.sl r .non,.sl r2 .non],[.str s2,.sl r3 .non,.sl r4 .non]],[],[51,51]⟩=qir n s r r2 s2 r3 r4:=by kernel_rfl
theorem qHS:qdb [.ptr 0 0,.ptr 1 0,.int .i64 n] ⟨[[.str s,.sl r .non,.sl r2 .non],[.str s2,.sl r3 .non,.sl r4 .non]],[],[51,51]⟩=lnext qdb (qir n s r r2 s2 r3 r4).run:=by unfold qdb;rw [qaC,qQV (qQ5 n s r r2 s2 r3 r4) (qOy n s r r2 s2 r3 r4)]
def qqB:Option (PExit×List PV×Store):=qdb [.ptr 0 0,.ptr 1 0,.int .i64 n] ⟨[[.str s,.sl r .non,.sl r2 .non],[.str s2,.sl r3 .non,.sl r4 .non]],[],[51,51]⟩
def qjU:Bool:=qod 0 (qqB n s r r2 s2 r3 r4)
def qpv:Bool:=isW (qqB n s r r2 s2 r3 r4) (.ret,[.bool (qjU n s r r2 s2 r3 r4)],⟨[[.str s,.sl r .non,.sl r2 .non],[.str s2,.sl r3 .non,.sl r4 .non]],[],[51,51]⟩)
def qpp:Bool:=isW (qqB n s r r2 s2 r3 r4) ((.exit 0),[],⟨[[.str s,.sl r .non,.sl r2 .non],[.str s2,.sl r3 .non,.sl r4 .non]],[],[51,51]⟩)
end
def qhe:List PV→Store→Tr (PExit×List PV×Store)|[.ptr 0 0,.ptr 1 0,.int .i64 n],⟨[[.str s,.sl r .non,.sl r2 .non],[.str s2,.sl r3 .non,.sl r4 .non]],[],[51,51]⟩=>.ite (qpv n s r r2 s2 r3 r4) (.ret (.ret,[.bool (qjU n s r r2 s2 r3 r4)],⟨[[.str s,.sl r .non,.sl r2 .non],[.str s2,.sl r3 .non,.sl r4 .non]],[],[51,51]⟩)) (.ite (qpp n s r r2 s2 r3 r4) (.ret ((.exit 0),[],⟨[[.str s,.sl r .non,.sl r2 .non],[.str s2,.sl r3 .non,.sl r4 .non]],[],[51,51]⟩)) (.fail))|_,_=>.fail
theorem qNl:∀ vs σ r,(qhe vs σ).run=some r→qdb vs σ=some r:=by
 intro vs σ r h;unfold qhe at h
 split at h
 ·exact qae h fun h=>qae h fun h=>by cases h
 ·cases h
theorem qHs (gl:Gl):∀ fr σ e fr' σ',(orc qlX qhe fr σ).run=some (e,fr',σ')→LDoes Tryz.prog gl qkW fr σ e fr' σ':=qYB qaj (qB7 gl ) qai (L:=qni) (qab (by kernel_rfl)) 6 10 (by kernel_rfl) (by kernel_rfl) (by kernel_rfl) qNl
def qFw:LpsT:=fun r fr σ=>bif Nat.beq r 4 then orc qlX qhe fr σ else .fail
section
variable (v:qU) (v2 v3:qR) (v4:qU) (v5 v6:qR)
def qAK:Tr PV:=.ite (qiY v (qac v2) v4 (qac v5)) (.ite (bNot (qna v (qac v2) v4 (qac v5))) (.ret (.bool false)) (.ite (iNe (xLen v3) (xLen v6)) (.ret (.bool false)) (.ite (qpv 0 v v2 v3 v4 v5 v6) (.ret (.bool (qjU 0 v v2 v3 v4 v5 v6))) (.ite (qpp 0 v v2 v3 v4 v5 v6) (.ret (.bool true)) .fail)))) .fail
theorem qTh:(tcall tbT qmW qFw Tryz.f20 [.agg [.str v,.sl v2 .non,.sl v3 .non],.agg [.str v4,.sl v5 .non,.sl v6 .non]]).flat=qAK v v2 v3 v4 v5 v6:=by kernel_rfl
def qwW:Option PV:=(qAK v v2 v3 v4 v5 v6).run
def qxO:Bool:=(qeC (gVal (qwW v v2 v3 v4 v5 v6)))
def quq:Bool:=isW (qwW v v2 v3 v4 v5 v6) (.bool (qxO v v2 v3 v4 v5 v6))
end
def qFY:List PV→Tr PV|[.agg [.str v,.sl v2 .non,.sl v3 .non],.agg [.str v4,.sl v5 .non,.sl v6 .non]]=>.ite (quq v v2 v3 v4 v5 v6) (.ret (.bool (qxO v v2 v3 v4 v5 v6))) (.fail)|_=>.fail
theorem qOo (gl:Gl):SimP Tryz.prog gl 20 fun args=>(qFY args).run:=by
 refine SimP.of_flat (G:=qmW) (L:=qFw) qaj (qB7 gl ) qai  Tryz.func20 rfl (by rfl) (by kernel_rfl) (qav (L:=lps qFw) [(4,qkW)] (by kernel_rfl) (List.forall_mem_cons.2 ⟨fun fr σ e fr' σ' h=>qHs gl  fr σ e fr' σ' h,(List.forall_mem_nil _)⟩)) ?_
 intro args x h;unfold qFY at h
 split at h
 ·exact (congrArg Tr.run (qTh _ _ _ _ _ _)).trans (qae h fun h=>by cases h)
 ·cases h
def qrQ:GamT:=ofL []
theorem qBW (gl:Gl):qal Tryz.prog gl (gam qrQ):=qaf
def qsM:Code:=qc2 Tryz.f41 4
def qqK:LI:=⟨45,[2,3,5],fun e=>match e with|.ret=>[4]|.exit 0=>[]|_=>[],true⟩
def qua:LpsT:=fun r fr σ=>.fail
def qdi (vs:List PV) (σ:Store):Option (PExit×List PV×Store):=lval (lstep tbT qrQ qua qsM qqK) vs σ
section
variable (i:Int) (s:qU) (b:Bool) (r:qR) (s2:qU) (b2:Bool) (r2:qR)
def qmg:Tr LR:=let z1:Store:=Store.mk [[.str s,.bool b,.sl r .non],[.str s2,.bool b2,.sl r2 .non]] [] [80,80];.ite (iLt i (xLen r)) (.ite (qax i) (.ite (qbl [.int .i64 0] r (nNat i)) (.ite (qax i) (.ite (qbl [.int .i64 0] r2 (nNat i)) (.ite (iNe (xInt r (nNat i) 0) (xInt r2 (nNat i) 0)) (.ret (.out .ret [.bool false] z1)) (.ret (.next [.ptr 0 0,.ptr 1 0,.int .i64 (iAdd .i64 i 1)] z1))) .fail) .fail) .fail) .fail) (.ret (.out (.exit 0) [] z1))
theorem qP5:lstep tbT qrQ qua qsM qqK [.ptr 0 0,.ptr 1 0,.int .i64 i] ⟨[[.str s,.bool b,.sl r .non],[.str s2,.bool b2,.sl r2 .non]],[],[80,80]⟩=qmg i s b r s2 b2 r2:=by kernel_rfl
theorem qHI:qdi [.ptr 0 0,.ptr 1 0,.int .i64 i] ⟨[[.str s,.bool b,.sl r .non],[.str s2,.bool b2,.sl r2 .non]],[],[80,80]⟩=lnext qdi (qmg i s b r s2 b2 r2).run:=by unfold qdi;rw [qaC,qP5]
def qrj:Option (PExit×List PV×Store):=qdi [.ptr 0 0,.ptr 1 0,.int .i64 i] ⟨[[.str s,.bool b,.sl r .non],[.str s2,.bool b2,.sl r2 .non]],[],[80,80]⟩
def qjF:Bool:=qod 0 (qrj i s b r s2 b2 r2)
def qos:Bool:=isW (qrj i s b r s2 b2 r2) (.ret,[.bool (qjF i s b r s2 b2 r2)],⟨[[.str s,.bool b,.sl r .non],[.str s2,.bool b2,.sl r2 .non]],[],[80,80]⟩)
def qov:Bool:=isW (qrj i s b r s2 b2 r2) ((.exit 0),[],⟨[[.str s,.bool b,.sl r .non],[.str s2,.bool b2,.sl r2 .non]],[],[80,80]⟩)
end
def qhg:List PV→Store→Tr (PExit×List PV×Store)|[.ptr 0 0,.ptr 1 0,.int .i64 i],⟨[[.str s,.bool b,.sl r .non],[.str s2,.bool b2,.sl r2 .non]],[],[80,80]⟩=>.ite (qos i s b r s2 b2 r2) (.ret (.ret,[.bool (qjF i s b r s2 b2 r2)],⟨[[.str s,.bool b,.sl r .non],[.str s2,.bool b2,.sl r2 .non]],[],[80,80]⟩)) (.ite (qov i s b r s2 b2 r2) (.ret ((.exit 0),[],⟨[[.str s,.bool b,.sl r .non],[.str s2,.bool b2,.sl r2 .non]],[],[80,80]⟩)) (.fail))|_,_=>.fail
theorem qOe:∀ vs σ r,(qhg vs σ).run=some r→qdi vs σ=some r:=by
 intro vs σ r h;unfold qhg at h
 split at h
 ·exact qae h fun h=>qae h fun h=>by cases h
 ·cases h
theorem qHr (gl:Gl):∀ fr σ e fr' σ',(orc qqK qhg fr σ).run=some (e,fr',σ')→LDoes Tryz.prog gl qsM fr σ e fr' σ':=qbw qaj (qBW gl ) qai (L:=qua) (qab (by kernel_rfl)) (by kernel_rfl) qOe
def qDU:LpsT:=fun r fr σ=>bif Nat.beq r 4 then orc qqK qhg fr σ else .fail
section
variable (a:qU) (a2:Bool) (a3:qR) (b:qU) (b2:Bool) (b3:qR)
def qzr:Tr PV:=.ite (sNe a b) (.ret (.bool false)) (.ite (bNot (bEq a2 b2)) (.ret (.bool false)) (.ite (iNe (xLen a3) (xLen b3)) (.ret (.bool false)) (.ite (qos 0 a a2 a3 b b2 b3) (.ret (.bool (qjF 0 a a2 a3 b b2 b3))) (.ite (qov 0 a a2 a3 b b2 b3) (.ret (.bool true)) .fail))))
theorem qUa:(tcall tbT qrQ qDU Tryz.f41 [.agg [.str a,.bool a2,.sl a3 .non],.agg [.str b,.bool b2,.sl b3 .non]]).flat=qzr a a2 a3 b b2 b3:=by kernel_rfl
def qxs:Option PV:=(qzr a a2 a3 b b2 b3).run
def qvF:Bool:=(qeC (gVal (qxs a a2 a3 b b2 b3)))
def qtP:Bool:=isW (qxs a a2 a3 b b2 b3) (.bool (qvF a a2 a3 b b2 b3))
end
def qEv:List PV→Tr PV|[.agg [.str a,.bool a2,.sl a3 .non],.agg [.str b,.bool b2,.sl b3 .non]]=>.ite (qtP a a2 a3 b b2 b3) (.ret (.bool (qvF a a2 a3 b b2 b3))) (.fail)|_=>.fail
theorem qN6 (gl:Gl):SimP Tryz.prog gl 41 fun args=>(qEv args).run:=by
 refine SimP.of_flat (G:=qrQ) (L:=qDU) qaj (qBW gl ) qai  Tryz.func41 rfl (by rfl) (by kernel_rfl) (qav (L:=lps qDU) [(4,qsM)] (by kernel_rfl) (List.forall_mem_cons.2 ⟨fun fr σ e fr' σ' h=>qHr gl  fr σ e fr' σ' h,(List.forall_mem_nil _)⟩)) ?_
 intro args x h;unfold qEv at h
 split at h
 ·exact (congrArg Tr.run (qUa _ _ _ _ _ _)).trans (qae h fun h=>by cases h)
 ·cases h
def qja:GamT:=ofL [(21,.pure qwU)]
theorem quL (gl:Gl):qal Tryz.prog gl (gam qja):=(qag (qCw gl) qaf)
def qsF:Code:=qc2 Tryz.f42 4
def qrL:Code:=qc2 Tryz.f42 9
def qsa:LI:=⟨84,[2,3,5],fun e=>match e with|.ret=>[4]|.exit 0=>[2,3]|_=>[],true⟩
def qtF:LpsT:=fun r fr σ=>.fail
def qdh (vs:List PV) (σ:Store):Option (PExit×List PV×Store):=lval (lstep tbT qja qtF qsF qsa) vs σ
section
variable (n:Int) (s:qU) (r r2:qR) (s2:qU) (r3 r4:qR)
def qmS:Tr LR:=let z1:=nNat n;let z2:Store:=Store.mk [[.str s,.sl r .non,.sl r2 .non],[.str s2,.sl r3 .non,.sl r4 .non]] [] [85,85];.ite (iLt n (xLen r)) (.ite (qax n) (.ite (qbl [.str [],.int .i64 0] r z1) (.ite (qax n) (.ite (qbl [.str [],.int .i64 0] r3 z1) (.ite (bNot (bAnd (sEq (xStr r z1 0) (xStr r3 z1 0)) (bAnd (iEq (xInt r z1 1) (xInt r3 z1 1)) true))) (.ret (.out .ret [.bool false] z2)) (.ret (.next [.ptr 0 0,.ptr 1 0,.int .i64 (iAdd .i64 n 1)] z2))) .fail) .fail) .fail) .fail) (.ret (.out (.exit 0) [.ptr 0 0,.ptr 1 0] z2))
theorem qQI:lstep tbT qja qtF qsF qsa [.ptr 0 0,.ptr 1 0,.int .i64 n] ⟨[[.str s,.sl r .non,.sl r2 .non],[.str s2,.sl r3 .non,.sl r4 .non]],[],[85,85]⟩=qmS n s r r2 s2 r3 r4:=by kernel_rfl
theorem qHM:qdh [.ptr 0 0,.ptr 1 0,.int .i64 n] ⟨[[.str s,.sl r .non,.sl r2 .non],[.str s2,.sl r3 .non,.sl r4 .non]],[],[85,85]⟩=lnext qdh (qmS n s r r2 s2 r3 r4).run:=by unfold qdh;rw [qaC,qQI]
def qs2:Option (PExit×List PV×Store):=qdh [.ptr 0 0,.ptr 1 0,.int .i64 n] ⟨[[.str s,.sl r .non,.sl r2 .non],[.str s2,.sl r3 .non,.sl r4 .non]],[],[85,85]⟩
def qje:Bool:=qod 0 (qs2 n s r r2 s2 r3 r4)
def qoZ:Bool:=isW (qs2 n s r r2 s2 r3 r4) (.ret,[.bool (qje n s r r2 s2 r3 r4)],⟨[[.str s,.sl r .non,.sl r2 .non],[.str s2,.sl r3 .non,.sl r4 .non]],[],[85,85]⟩)
def qp3:Bool:=isW (qs2 n s r r2 s2 r3 r4) ((.exit 0),[.ptr 0 0,.ptr 1 0],⟨[[.str s,.sl r .non,.sl r2 .non],[.str s2,.sl r3 .non,.sl r4 .non]],[],[85,85]⟩)
end
def qg1:List PV→Store→Tr (PExit×List PV×Store)|[.ptr 0 0,.ptr 1 0,.int .i64 n],⟨[[.str s,.sl r .non,.sl r2 .non],[.str s2,.sl r3 .non,.sl r4 .non]],[],[85,85]⟩=>.ite (qoZ n s r r2 s2 r3 r4) (.ret (.ret,[.bool (qje n s r r2 s2 r3 r4)],⟨[[.str s,.sl r .non,.sl r2 .non],[.str s2,.sl r3 .non,.sl r4 .non]],[],[85,85]⟩)) (.ite (qp3 n s r r2 s2 r3 r4) (.ret ((.exit 0),[.ptr 0 0,.ptr 1 0],⟨[[.str s,.sl r .non,.sl r2 .non],[.str s2,.sl r3 .non,.sl r4 .non]],[],[85,85]⟩)) (.fail))|_,_=>.fail
theorem qN1:∀ vs σ r,(qg1 vs σ).run=some r→qdh vs σ=some r:=by
 intro vs σ r h;unfold qg1 at h
 split at h
 ·exact qae h fun h=>qae h fun h=>by cases h
 ·cases h
theorem qGS (gl:Gl):∀ fr σ e fr' σ',(orc qsa qg1 fr σ).run=some (e,fr',σ')→LDoes Tryz.prog gl qsF fr σ e fr' σ':=qbw qaj (quL gl ) qai (L:=qtF) (qab (by kernel_rfl)) (by kernel_rfl) qN1
def qsw:LI:=⟨84,[2,3,6],fun e=>match e with|.ret=>[4]|.exit 2=>[]|_=>[],true⟩
def quC:LpsT:=fun r fr σ=>.fail
def qc9 (vs:List PV) (σ:Store):Option (PExit×List PV×Store):=lval (lstep tbT qja quC qrL qsw) vs σ
section
variable (n:Int) (s:qU) (r r2:qR) (s2:qU) (r3 r4:qR)
def qmR:Tr LR:=let z1:List PV:=[.bool false,.str [],.sl [] .full];let z2:=nNat n;let z3:Store:=Store.mk [[.str s,.sl r .non,.sl r2 .non],[.str s2,.sl r3 .non,.sl r4 .non]] [] [85,85];.ite (iLt n (xLen r2)) (.ite (qax n) (.ite (qbl z1 r2 z2) (.ite (qax n) (.ite (qbl z1 r4 z2) (.ite (bNot (bEq (qvo r2 z2 0) (qvo r4 z2 0))) (.ret (.out .ret [.bool false] z3)) (.ite (qax n) (.ite (qbl z1 r2 z2) (.ite (qax n) (.ite (qbl z1 r4 z2) (.ite (qiY (xStr r2 z2 1) (qac (xRow r2 z2 2)) (xStr r4 z2 1) (qac (xRow r4 z2 2))) (.ite (bNot (qna (xStr r2 z2 1) (qac (xRow r2 z2 2)) (xStr r4 z2 1) (qac (xRow r4 z2 2)))) (.ret (.out .ret [.bool false] z3)) (.ret (.next [.ptr 0 0,.ptr 1 0,.int .i64 (iAdd .i64 n 1)] z3))) .fail) .fail) .fail) .fail) .fail)) .fail) .fail) .fail) .fail) (.ret (.out (.exit 2) [] z3))
theorem qRw:lstep tbT qja quC qrL qsw [.ptr 0 0,.ptr 1 0,.int .i64 n] ⟨[[.str s,.sl r .non,.sl r2 .non],[.str s2,.sl r3 .non,.sl r4 .non]],[],[85,85]⟩=qmR n s r r2 s2 r3 r4:=by kernel_rfl
theorem qHc:qc9 [.ptr 0 0,.ptr 1 0,.int .i64 n] ⟨[[.str s,.sl r .non,.sl r2 .non],[.str s2,.sl r3 .non,.sl r4 .non]],[],[85,85]⟩=lnext qc9 (qmR n s r r2 s2 r3 r4).run:=by unfold qc9;rw [qaC,qRw]
def qqC:Option (PExit×List PV×Store):=qc9 [.ptr 0 0,.ptr 1 0,.int .i64 n] ⟨[[.str s,.sl r .non,.sl r2 .non],[.str s2,.sl r3 .non,.sl r4 .non]],[],[85,85]⟩
def qji:Bool:=qod 0 (qqC n s r r2 s2 r3 r4)
def qpQ:Bool:=isW (qqC n s r r2 s2 r3 r4) (.ret,[.bool (qji n s r r2 s2 r3 r4)],⟨[[.str s,.sl r .non,.sl r2 .non],[.str s2,.sl r3 .non,.sl r4 .non]],[],[85,85]⟩)
def qox:Bool:=isW (qqC n s r r2 s2 r3 r4) ((.exit 2),[],⟨[[.str s,.sl r .non,.sl r2 .non],[.str s2,.sl r3 .non,.sl r4 .non]],[],[85,85]⟩)
end
def qhw:List PV→Store→Tr (PExit×List PV×Store)|[.ptr 0 0,.ptr 1 0,.int .i64 n],⟨[[.str s,.sl r .non,.sl r2 .non],[.str s2,.sl r3 .non,.sl r4 .non]],[],[85,85]⟩=>.ite (qpQ n s r r2 s2 r3 r4) (.ret (.ret,[.bool (qji n s r r2 s2 r3 r4)],⟨[[.str s,.sl r .non,.sl r2 .non],[.str s2,.sl r3 .non,.sl r4 .non]],[],[85,85]⟩)) (.ite (qox n s r r2 s2 r3 r4) (.ret ((.exit 2),[],⟨[[.str s,.sl r .non,.sl r2 .non],[.str s2,.sl r3 .non,.sl r4 .non]],[],[85,85]⟩)) (.fail))|_,_=>.fail
theorem qOE:∀ vs σ r,(qhw vs σ).run=some r→qc9 vs σ=some r:=by
 intro vs σ r h;unfold qhw at h
 split at h
 ·exact qae h fun h=>qae h fun h=>by cases h
 ·cases h
theorem qGO (gl:Gl):∀ fr σ e fr' σ',(orc qsw qhw fr σ).run=some (e,fr',σ')→LDoes Tryz.prog gl qrL fr σ e fr' σ':=qbw qaj (quL gl ) qai (L:=quC) (qab (by kernel_rfl)) (by kernel_rfl) qOE
def qGn:LpsT:=fun r fr σ=>bif Nat.beq r 4 then orc qsa qg1 fr σ else bif Nat.beq r 9 then orc qsw qhw fr σ else .fail
section
variable (v:qU) (v2 v3:qR) (v4:qU) (v5 v6:qR)
def qAC:Tr PV:=.ite (sNe v v4) (.ret (.bool false)) (.ite (iNe (xLen v2) (xLen v5)) (.ret (.bool false)) (.ite (iNe (xLen v3) (xLen v6)) (.ret (.bool false)) (.ite (qoZ 0 v v2 v3 v4 v5 v6) (.ret (.bool (qje 0 v v2 v3 v4 v5 v6))) (.ite (qp3 0 v v2 v3 v4 v5 v6) (.ite (qpQ 0 v v2 v3 v4 v5 v6) (.ret (.bool (qji 0 v v2 v3 v4 v5 v6))) (.ite (qox 0 v v2 v3 v4 v5 v6) (.ret (.bool true)) .fail)) .fail))))
theorem qT9:(tcall tbT qja qGn Tryz.f42 [.agg [.str v,.sl v2 .non,.sl v3 .non],.agg [.str v4,.sl v5 .non,.sl v6 .non]]).flat=qAC v v2 v3 v4 v5 v6:=by kernel_rfl
def qxo:Option PV:=(qAC v v2 v3 v4 v5 v6).run
def qv8:Bool:=(qeC (gVal (qxo v v2 v3 v4 v5 v6)))
def qtW:Bool:=isW (qxo v v2 v3 v4 v5 v6) (.bool (qv8 v v2 v3 v4 v5 v6))
end
def qDR:List PV→Tr PV|[.agg [.str v,.sl v2 .non,.sl v3 .non],.agg [.str v4,.sl v5 .non,.sl v6 .non]]=>.ite (qtW v v2 v3 v4 v5 v6) (.ret (.bool (qv8 v v2 v3 v4 v5 v6))) (.fail)|_=>.fail
theorem qOs (gl:Gl):SimP Tryz.prog gl 42 fun args=>(qDR args).run:=by
 refine SimP.of_flat (G:=qja) (L:=qGn) qaj (quL gl ) qai  Tryz.func42 rfl (by rfl) (by kernel_rfl) (qav (L:=lps qGn) [(4,qsF),(9,qrL)] (by kernel_rfl) (List.forall_mem_cons.2 ⟨fun fr σ e fr' σ' h=>qGS gl  fr σ e fr' σ' h,(List.forall_mem_cons.2 ⟨fun fr σ e fr' σ' h=>qGO gl  fr σ e fr' σ' h,(List.forall_mem_nil _)⟩)⟩)) ?_
 intro args x h;unfold qDR at h
 split at h
 ·exact (congrArg Tr.run (qT9 _ _ _ _ _ _)).trans (qae h fun h=>by cases h)
 ·cases h
def qj5:GamT:=ofL [(20,.pure qFY),(41,.pure qEv),(42,.pure qDR)]
theorem qsQ (gl:Gl):qal Tryz.prog gl (gam qj5):=(qag (qOo gl) (qag (qN6 gl) (qag (qOs gl) qaf)))
def qwV:Code:=qc2 Tryz.f13 4
def qwc:Code:=qc2 Tryz.f13 9
def qwx:Code:=qc2 Tryz.f13 14
def qwb:LI:=⟨90,[2,3,5],fun e=>match e with|.ret=>[4]|.exit 0=>[2,3]|_=>[],true⟩
def qAq:LpsT:=fun r fr σ=>.fail
def qeL (vs:List PV) (σ:Store):Option (PExit×List PV×Store):=lval (lstep tbT qj5 qAq qwV qwb) vs σ
section
variable (n:Int) (r r2 r3 r4 r5 r6:qR)
def qrP:Tr LR:=let z1:List PV:=[.str [],.bool false,.sl [] .full];let z2:=nNat n;let z3:Store:=Store.mk [[.sl r .non,.sl r2 .non,.sl r3 .non],[.sl r4 .non,.sl r5 .non,.sl r6 .non]] [] [27,27];.ite (iLt n (xLen r)) (.ite (qax n) (.ite (qbl z1 r z2) (.ite (qax n) (.ite (qbl z1 r4 z2) (.ite (qtP (xStr r z2 0) (qvo r z2 1) (qac (xRow r z2 2)) (xStr r4 z2 0) (qvo r4 z2 1) (qac (xRow r4 z2 2))) (.ite (bNot (qvF (xStr r z2 0) (qvo r z2 1) (qac (xRow r z2 2)) (xStr r4 z2 0) (qvo r4 z2 1) (qac (xRow r4 z2 2)))) (.ret (.out .ret [.bool false] z3)) (.ret (.next [.ptr 0 0,.ptr 1 0,.int .i64 (iAdd .i64 n 1)] z3))) .fail) .fail) .fail) .fail) .fail) (.ret (.out (.exit 0) [.ptr 0 0,.ptr 1 0] z3))
theorem qUm:lstep tbT qj5 qAq qwV qwb [.ptr 0 0,.ptr 1 0,.int .i64 n] ⟨[[.sl r .non,.sl r2 .non,.sl r3 .non],[.sl r4 .non,.sl r5 .non,.sl r6 .non]],[],[27,27]⟩=qrP n r r2 r3 r4 r5 r6:=by kernel_rfl
theorem qL0:qeL [.ptr 0 0,.ptr 1 0,.int .i64 n] ⟨[[.sl r .non,.sl r2 .non,.sl r3 .non],[.sl r4 .non,.sl r5 .non,.sl r6 .non]],[],[27,27]⟩=lnext qeL (qrP n r r2 r3 r4 r5 r6).run:=by unfold qeL;rw [qaC,qUm]
def qxF:Option (PExit×List PV×Store):=qeL [.ptr 0 0,.ptr 1 0,.int .i64 n] ⟨[[.sl r .non,.sl r2 .non,.sl r3 .non],[.sl r4 .non,.sl r5 .non,.sl r6 .non]],[],[27,27]⟩
def qmz:Bool:=qod 0 (qxF n r r2 r3 r4 r5 r6)
def qtT:Bool:=isW (qxF n r r2 r3 r4 r5 r6) (.ret,[.bool (qmz n r r2 r3 r4 r5 r6)],⟨[[.sl r .non,.sl r2 .non,.sl r3 .non],[.sl r4 .non,.sl r5 .non,.sl r6 .non]],[],[27,27]⟩)
def qt1:Bool:=isW (qxF n r r2 r3 r4 r5 r6) ((.exit 0),[.ptr 0 0,.ptr 1 0],⟨[[.sl r .non,.sl r2 .non,.sl r3 .non],[.sl r4 .non,.sl r5 .non,.sl r6 .non]],[],[27,27]⟩)
end
def qj7:List PV→Store→Tr (PExit×List PV×Store)|[.ptr 0 0,.ptr 1 0,.int .i64 n],⟨[[.sl r .non,.sl r2 .non,.sl r3 .non],[.sl r4 .non,.sl r5 .non,.sl r6 .non]],[],[27,27]⟩=>.ite (qtT n r r2 r3 r4 r5 r6) (.ret (.ret,[.bool (qmz n r r2 r3 r4 r5 r6)],⟨[[.sl r .non,.sl r2 .non,.sl r3 .non],[.sl r4 .non,.sl r5 .non,.sl r6 .non]],[],[27,27]⟩)) (.ite (qt1 n r r2 r3 r4 r5 r6) (.ret ((.exit 0),[.ptr 0 0,.ptr 1 0],⟨[[.sl r .non,.sl r2 .non,.sl r3 .non],[.sl r4 .non,.sl r5 .non,.sl r6 .non]],[],[27,27]⟩)) (.fail))|_,_=>.fail
theorem qOW:∀ vs σ r,(qj7 vs σ).run=some r→qeL vs σ=some r:=by
 intro vs σ r h;unfold qj7 at h
 split at h
 ·exact qae h fun h=>qae h fun h=>by cases h
 ·cases h
theorem qIs (gl:Gl):∀ fr σ e fr' σ',(orc qwb qj7 fr σ).run=some (e,fr',σ')→LDoes Tryz.prog gl qwV fr σ e fr' σ':=qbw qaj (qsQ gl ) qai (L:=qAq) (qab (by kernel_rfl)) (by kernel_rfl) qOW
def qvv:LI:=⟨90,[2,3,6],fun e=>match e with|.ret=>[4]|.exit 2=>[2,3]|_=>[],true⟩
def qzh:LpsT:=fun r fr σ=>.fail
def qeJ (vs:List PV) (σ:Store):Option (PExit×List PV×Store):=lval (lstep tbT qj5 qzh qwc qvv) vs σ
section
variable (n:Int) (r r2 r3 r4 r5 r6:qR)
def qsi:Tr LR:=let z1:List PV:=[.str [],.sl [] .full,.sl [] .full];let z2:=nNat n;let z3:Store:=Store.mk [[.sl r .non,.sl r2 .non,.sl r3 .non],[.sl r4 .non,.sl r5 .non,.sl r6 .non]] [] [27,27];.ite (iLt n (xLen r2)) (.ite (qax n) (.ite (qbl z1 r2 z2) (.ite (qax n) (.ite (qbl z1 r5 z2) (.ite (qtW (xStr r2 z2 0) (qac (xRow r2 z2 1)) (qac (xRow r2 z2 2)) (xStr r5 z2 0) (qac (xRow r5 z2 1)) (qac (xRow r5 z2 2))) (.ite (bNot (qv8 (xStr r2 z2 0) (qac (xRow r2 z2 1)) (qac (xRow r2 z2 2)) (xStr r5 z2 0) (qac (xRow r5 z2 1)) (qac (xRow r5 z2 2)))) (.ret (.out .ret [.bool false] z3)) (.ret (.next [.ptr 0 0,.ptr 1 0,.int .i64 (iAdd .i64 n 1)] z3))) .fail) .fail) .fail) .fail) .fail) (.ret (.out (.exit 2) [.ptr 0 0,.ptr 1 0] z3))
theorem qVb:lstep tbT qj5 qzh qwc qvv [.ptr 0 0,.ptr 1 0,.int .i64 n] ⟨[[.sl r .non,.sl r2 .non,.sl r3 .non],[.sl r4 .non,.sl r5 .non,.sl r6 .non]],[],[27,27]⟩=qsi n r r2 r3 r4 r5 r6:=by kernel_rfl
theorem qMI:qeJ [.ptr 0 0,.ptr 1 0,.int .i64 n] ⟨[[.sl r .non,.sl r2 .non,.sl r3 .non],[.sl r4 .non,.sl r5 .non,.sl r6 .non]],[],[27,27]⟩=lnext qeJ (qsi n r r2 r3 r4 r5 r6).run:=by unfold qeJ;rw [qaC,qVb]
def qwZ:Option (PExit×List PV×Store):=qeJ [.ptr 0 0,.ptr 1 0,.int .i64 n] ⟨[[.sl r .non,.sl r2 .non,.sl r3 .non],[.sl r4 .non,.sl r5 .non,.sl r6 .non]],[],[27,27]⟩
def qmi:Bool:=qod 0 (qwZ n r r2 r3 r4 r5 r6)
def qtA:Bool:=isW (qwZ n r r2 r3 r4 r5 r6) (.ret,[.bool (qmi n r r2 r3 r4 r5 r6)],⟨[[.sl r .non,.sl r2 .non,.sl r3 .non],[.sl r4 .non,.sl r5 .non,.sl r6 .non]],[],[27,27]⟩)
def qun:Bool:=isW (qwZ n r r2 r3 r4 r5 r6) ((.exit 2),[.ptr 0 0,.ptr 1 0],⟨[[.sl r .non,.sl r2 .non,.sl r3 .non],[.sl r4 .non,.sl r5 .non,.sl r6 .non]],[],[27,27]⟩)
end
def qkv:List PV→Store→Tr (PExit×List PV×Store)|[.ptr 0 0,.ptr 1 0,.int .i64 n],⟨[[.sl r .non,.sl r2 .non,.sl r3 .non],[.sl r4 .non,.sl r5 .non,.sl r6 .non]],[],[27,27]⟩=>.ite (qtA n r r2 r3 r4 r5 r6) (.ret (.ret,[.bool (qmi n r r2 r3 r4 r5 r6)],⟨[[.sl r .non,.sl r2 .non,.sl r3 .non],[.sl r4 .non,.sl r5 .non,.sl r6 .non]],[],[27,27]⟩)) (.ite (qun n r r2 r3 r4 r5 r6) (.ret ((.exit 2),[.ptr 0 0,.ptr 1 0],⟨[[.sl r .non,.sl r2 .non,.sl r3 .non],[.sl r4 .non,.sl r5 .non,.sl r6 .non]],[],[27,27]⟩)) (.fail))|_,_=>.fail
theorem qS6:∀ vs σ r,(qkv vs σ).run=some r→qeJ vs σ=some r:=by
 intro vs σ r h;unfold qkv at h
 split at h
 ·exact qae h fun h=>qae h fun h=>by cases h
 ·cases h
theorem qKu (gl:Gl):∀ fr σ e fr' σ',(orc qvv qkv fr σ).run=some (e,fr',σ')→LDoes Tryz.prog gl qwc fr σ e fr' σ':=qbw qaj (qsQ gl ) qai (L:=qzh) (qab (by kernel_rfl)) (by kernel_rfl) qS6
def qxV:LI:=⟨90,[2,3,7],fun e=>match e with|.ret=>[4]|.exit 4=>[]|_=>[],true⟩
def qz3:LpsT:=fun r fr σ=>.fail
def qeK (vs:List PV) (σ:Store):Option (PExit×List PV×Store):=lval (lstep tbT qj5 qz3 qwx qxV) vs σ
section
variable (n:Int) (r r2 r3 r4 r5 r6:qR)
def qqt:Tr LR:=let z1:List PV:=[.str [],.sl [] .full,.sl [] .full];let z2:=nNat n;let z3:Store:=Store.mk [[.sl r .non,.sl r2 .non,.sl r3 .non],[.sl r4 .non,.sl r5 .non,.sl r6 .non]] [] [27,27];.ite (iLt n (xLen r3)) (.ite (qax n) (.ite (qbl z1 r3 z2) (.ite (qax n) (.ite (qbl z1 r6 z2) (.ite (quq (xStr r3 z2 0) (qac (xRow r3 z2 1)) (qac (xRow r3 z2 2)) (xStr r6 z2 0) (qac (xRow r6 z2 1)) (qac (xRow r6 z2 2))) (.ite (bNot (qxO (xStr r3 z2 0) (qac (xRow r3 z2 1)) (qac (xRow r3 z2 2)) (xStr r6 z2 0) (qac (xRow r6 z2 1)) (qac (xRow r6 z2 2)))) (.ret (.out .ret [.bool false] z3)) (.ret (.next [.ptr 0 0,.ptr 1 0,.int .i64 (iAdd .i64 n 1)] z3))) .fail) .fail) .fail) .fail) .fail) (.ret (.out (.exit 4) [] z3))
theorem qTF:lstep tbT qj5 qz3 qwx qxV [.ptr 0 0,.ptr 1 0,.int .i64 n] ⟨[[.sl r .non,.sl r2 .non,.sl r3 .non],[.sl r4 .non,.sl r5 .non,.sl r6 .non]],[],[27,27]⟩=qqt n r r2 r3 r4 r5 r6:=by kernel_rfl
theorem qMJ:qeK [.ptr 0 0,.ptr 1 0,.int .i64 n] ⟨[[.sl r .non,.sl r2 .non,.sl r3 .non],[.sl r4 .non,.sl r5 .non,.sl r6 .non]],[],[27,27]⟩=lnext qeK (qqt n r r2 r3 r4 r5 r6).run:=by unfold qeK;rw [qaC,qTF]
def qxr:Option (PExit×List PV×Store):=qeK [.ptr 0 0,.ptr 1 0,.int .i64 n] ⟨[[.sl r .non,.sl r2 .non,.sl r3 .non],[.sl r4 .non,.sl r5 .non,.sl r6 .non]],[],[27,27]⟩
def qmp:Bool:=qod 0 (qxr n r r2 r3 r4 r5 r6)
def quS:Bool:=isW (qxr n r r2 r3 r4 r5 r6) (.ret,[.bool (qmp n r r2 r3 r4 r5 r6)],⟨[[.sl r .non,.sl r2 .non,.sl r3 .non],[.sl r4 .non,.sl r5 .non,.sl r6 .non]],[],[27,27]⟩)
def qt5:Bool:=isW (qxr n r r2 r3 r4 r5 r6) ((.exit 4),[],⟨[[.sl r .non,.sl r2 .non,.sl r3 .non],[.sl r4 .non,.sl r5 .non,.sl r6 .non]],[],[27,27]⟩)
end
def qkh:List PV→Store→Tr (PExit×List PV×Store)|[.ptr 0 0,.ptr 1 0,.int .i64 n],⟨[[.sl r .non,.sl r2 .non,.sl r3 .non],[.sl r4 .non,.sl r5 .non,.sl r6 .non]],[],[27,27]⟩=>.ite (quS n r r2 r3 r4 r5 r6) (.ret (.ret,[.bool (qmp n r r2 r3 r4 r5 r6)],⟨[[.sl r .non,.sl r2 .non,.sl r3 .non],[.sl r4 .non,.sl r5 .non,.sl r6 .non]],[],[27,27]⟩)) (.ite (qt5 n r r2 r3 r4 r5 r6) (.ret ((.exit 4),[],⟨[[.sl r .non,.sl r2 .non,.sl r3 .non],[.sl r4 .non,.sl r5 .non,.sl r6 .non]],[],[27,27]⟩)) (.fail))|_,_=>.fail
theorem qQ0:∀ vs σ r,(qkh vs σ).run=some r→qeK vs σ=some r:=by
 intro vs σ r h;unfold qkh at h
 split at h
 ·exact qae h fun h=>qae h fun h=>by cases h
 ·cases h
theorem qK1 (gl:Gl):∀ fr σ e fr' σ',(orc qxV qkh fr σ).run=some (e,fr',σ')→LDoes Tryz.prog gl qwx fr σ e fr' σ':=qbw qaj (qsQ gl ) qai (L:=qz3) (qab (by kernel_rfl)) (by kernel_rfl) qQ0
def qID:LpsT:=fun r fr σ=>bif Nat.beq r 4 then orc qwb qj7 fr σ else bif Nat.beq r 9 then orc qvv qkv fr σ else bif Nat.beq r 14 then orc qxV qkh fr σ else .fail
section
variable (v v2 v3 v4 v5 v6:qR)
def qDN:Tr PV:=.ite (iNe (xLen v) (xLen v4)) (.ret (.bool false)) (.ite (iNe (xLen v2) (xLen v5)) (.ret (.bool false)) (.ite (iNe (xLen v3) (xLen v6)) (.ret (.bool false)) (.ite (qtT 0 v v2 v3 v4 v5 v6) (.ret (.bool (qmz 0 v v2 v3 v4 v5 v6))) (.ite (qt1 0 v v2 v3 v4 v5 v6) (.ite (qtA 0 v v2 v3 v4 v5 v6) (.ret (.bool (qmi 0 v v2 v3 v4 v5 v6))) (.ite (qun 0 v v2 v3 v4 v5 v6) (.ite (quS 0 v v2 v3 v4 v5 v6) (.ret (.bool (qmp 0 v v2 v3 v4 v5 v6))) (.ite (qt5 0 v v2 v3 v4 v5 v6) (.ret (.bool true)) .fail)) .fail)) .fail))))
theorem qYa:(tcall tbT qj5 qID Tryz.f13 [.agg [.sl v .non,.sl v2 .non,.sl v3 .non],.agg [.sl v4 .non,.sl v5 .non,.sl v6 .non]]).flat=qDN v v2 v3 v4 v5 v6:=by kernel_rfl
def qEt:Option PV:=(qDN v v2 v3 v4 v5 v6).run
def qEQ:Bool:=(qeC (gVal (qEt v v2 v3 v4 v5 v6)))
def qyW:Bool:=isW (qEt v v2 v3 v4 v5 v6) (.bool (qEQ v v2 v3 v4 v5 v6))
end
def qIM:List PV→Tr PV|[.agg [.sl v .non,.sl v2 .non,.sl v3 .non],.agg [.sl v4 .non,.sl v5 .non,.sl v6 .non]]=>.ite (qyW v v2 v3 v4 v5 v6) (.ret (.bool (qEQ v v2 v3 v4 v5 v6))) (.fail)|_=>.fail
theorem qPq (gl:Gl):SimP Tryz.prog gl 13 fun args=>(qIM args).run:=by
 refine SimP.of_flat (G:=qj5) (L:=qID) qaj (qsQ gl ) qai  Tryz.func13 rfl (by rfl) (by kernel_rfl) (qav (L:=lps qID) [(4,qwV),(9,qwc),(14,qwx)] (by kernel_rfl) (List.forall_mem_cons.2 ⟨fun fr σ e fr' σ' h=>qIs gl  fr σ e fr' σ' h,(List.forall_mem_cons.2 ⟨fun fr σ e fr' σ' h=>qKu gl  fr σ e fr' σ' h,(List.forall_mem_cons.2 ⟨fun fr σ e fr' σ' h=>qK1 gl  fr σ e fr' σ' h,(List.forall_mem_nil _)⟩)⟩)⟩)) ?_
 intro args x h;unfold qIM at h
 split at h
 ·exact (congrArg Tr.run (qYa _ _ _ _ _ _)).trans (qae h fun h=>by cases h)
 ·cases h
def qEf:GamT:=ofL [(11,.pure qGj),(16,.pure qJH)]
theorem qNq (gl:Gl) (hg:GlLex gl):qal Tryz.prog gl (gam qEf):=(qag (qH7 gl hg) (qag (qQG gl hg) qaf))
def qMV:LpsT:=fun r fr σ=>.fail
def qzE:Tr PV:=let z1:=qvP [112,40,88,41,32,58,45,32,113,40,88,44,32,95,41,44,32,88,32,33,61,32,45,51,46];let z2:List PV:=[.int .i64 0,.str [],.sl [] .full,.int .i64 0,.int .i64 0,.str [],.int .i64 0,.int .i64 0,.str [],.int .i64 0,.str [],.int .i64 0,.int .i64 0,.str []];.ite (qzX [112,40,88,41,32,58,45,32,113,40,88,44,32,95,41,44,32,88,32,33,61,32,45,51,46]) (.ite (qp7 [112,40,88,41,32,58,45,32,46]) (.ite (iEq (qwf [112,40,88,41,32,58,45,32,113,40,88,44,32,95,41,44,32,88,32,33,61,32,45,51,46]) 0) (.ite (iEq (qrM [112,40,88,41,32,58,45,32,46]) 130) (.ite (iEq (qAW [112,40,88,41,32,58,45,32,46]) 8) (.ite (sEq (qDY [112,40,88,41,32,58,45,32,113,40,88,44,32,95,41,44,32,88,32,33,61,32,45,51,46]) [112]) (.ite (iEq (xLen z1) 2) (.ite (qax 0) (.ite (qbl z2 z1 (nNat 0)) (.ite (iEq (xInt z1 (nNat 0) 0) 1) (.ite (qax 0) (.ite (qbl z2 z1 (nNat 0)) (.ite (qax 1) (.ite (qbl [.int .i64 0,.str [],.int .i64 0,.int .i64 0,.str []] (xRow z1 (nNat 0) 2) (nNat 1)) (.ite (iEq (xInt (xRow z1 (nNat 0) 2) (nNat 1) 0) 3) (.ite (qax 1) (.ite (qbl z2 z1 (nNat 1)) (.ite (iEq (xInt z1 (nNat 1) 3) 2) (.ite (qax 1) (.ite (qbl z2 z1 (nNat 1)) (.ret (.bool (iEq (xInt z1 (nNat 1) 12) (-3)))) .fail) .fail) (.ret (.bool false))) .fail) .fail) (.ret (.bool false))) .fail) .fail) .fail) .fail) (.ret (.bool false))) .fail) .fail) (.ret (.bool false))) (.ret (.bool false))) (.ret (.bool false))) (.ret (.bool false))) (.ret (.bool false))) .fail) .fail
theorem qUA:(tcall tbT qEf qMV Tryz.f14 []).flat=qzE:=by kernel_rfl
def qww:Option PV:=(qzE).run
def qvG:Bool:=(qeC (gVal (qww)))
def qt6:Bool:=isW (qww) (.bool (qvG))
def qDt:List PV→Tr PV|[]=>.ite (qt6) (.ret (.bool (qvG))) (.fail)|_=>.fail
theorem qOC (gl:Gl) (hg:GlLex gl):SimP Tryz.prog gl 14 fun args=>(qDt args).run:=by
 refine SimP.of_flat (G:=qEf) (L:=qMV) qaj (qNq gl hg ) qai  Tryz.func14 rfl (by rfl) (by kernel_rfl) (qab (by kernel_rfl)) ?_
 intro args x h;unfold qDt at h
 split at h
 ·exact (congrArg Tr.run (qUA)).trans (qae h fun h=>by cases h)
 ·cases h
def qQj:GamT:=ofL []
theorem qTa (gl:Gl):qal Tryz.prog gl (gam qQj):=qaf
def qVN:LpsT:=fun r fr σ=>.fail
section
variable (s:qU)
def qyK:Tr PV:=.ite (iLt 1500 (sLen s)) (.ite (iLe (sLen s) 65536) (.ite (qbk true (qax 1500) 0 (nNat 1500) (nLen s)) (.ret (.str (sSub s 0 (nNat 1500)))) .fail) (.ret (.str s))) (.ret (.str s))
theorem qZ5:(tcall tbT qQj qVN Tryz.f10 [.str s]).flat=qyK s:=by kernel_rfl
def qBU:Option PV:=(qyK s).run
def qLW:qU:=(gStr (gVal (qBU s)))
def qEm:Bool:=isW (qBU s) (.str (qLW s))
end
def qRD:List PV→Tr PV|[.str s]=>.ite (qEm s) (.ret (.str (qLW s))) (.fail)|_=>.fail
theorem qTH (gl:Gl):SimP Tryz.prog gl 10 fun args=>(qRD args).run:=by
 refine SimP.of_flat (G:=qQj) (L:=qVN) qaj (qTa gl ) qai  Tryz.func10 rfl (by rfl) (by kernel_rfl) (qab (by kernel_rfl)) ?_
 intro args x h;unfold qRD at h
 split at h
 ·exact (congrArg Tr.run (qZ5 _)).trans (qae h fun h=>by cases h)
 ·cases h
end Go.Pv
set_option maxHeartbeats 4000000
set_option maxRecDepth 200000
set_option linter.unusedSimpArgs false
set_option linter.unusedVariables false
namespace Go.Pv
open Go Go.Proofs
def qRI:GamT:=ofL []
theorem qVl (gl:Gl):qal Tryz.prog gl (gam qRI):=qaf
def qV6:LpsT:=fun r fr σ=>.fail
section
variable (t:qU)
def qJY:Tr PV:=.ite (sEq t [98,97,115,101]) (.ret (.bool true)) (.ite (sEq t [118,105,101,119]) (.ret (.bool true)) (.ite (sEq t [111,110]) (.ret (.bool true)) (.ret (.bool (sEq t [110,111,116])))))
theorem zaaM:(tcall tbT qRI qV6 Tryz.f163 [.str t]).flat=qJY t:=by kernel_rfl
def qLQ:Option PV:=(qJY t).run
def qGK:Bool:=(qeC (gVal (qLQ t)))
def qwz:Bool:=isW (qLQ t) (.bool (qGK t))
end
def qOL:List PV→Tr PV|[.str t]=>.ite (qwz t) (.ret (.bool (qGK t))) (.fail)|_=>.fail
theorem qUY (gl:Gl):SimP Tryz.prog gl 163 fun args=>(qOL args).run:=by
 refine SimP.of_flat (G:=qRI) (L:=qV6) qaj (qVl gl ) qai  Tryz.func163 rfl (by rfl) (by kernel_rfl) (qab (by kernel_rfl)) ?_
 intro args x h;unfold qOL at h
 split at h
 ·exact (congrArg Tr.run (zaaM _)).trans (qae h fun h=>by cases h)
 ·cases h
def qJP:GamT:=ofL []
theorem qQU (gl:Gl):qal Tryz.prog gl (gam qJP):=qaf
def qRA:LpsT:=fun r fr σ=>.fail
section
variable (r:qR) (i n:Int)
def qx6:Tr PV:=.ite (iLt i (xLen r)) (.ite (qax i) (.ite (qbl [.int .i64 0,.str [],.int .i64 0,.int .i64 0,.str [],.int .i64 0] r (nNat i)) (.ret (.int .i64 (xInt r (nNat i) 5))) .fail) .fail) (.ret (.int .i64 n))
theorem qY6:(tcall tbT qJP qRA Tryz.f144 [.ref [.sl r .non,.int .i64 i,.int .i64 n,.bool false,.int .i64 0]]).flat=qx6 r i n:=by kernel_rfl
def qzf:Option PV:=(qx6 r i n).run
def qFo:Int:=(gInt (gVal (qzf r i n)))
def qzM:Bool:=isW (qzf r i n) (.int .i64 (qFo r i n))
end
def qKm:List PV→Tr PV|[.ref [.sl r .non,.int .i64 i,.int .i64 n,.bool false,.int .i64 0]]=>.ite (qzM r i n) (.ret (.int .i64 (qFo r i n))) (.fail)|_=>.fail
theorem qS5 (gl:Gl):SimP Tryz.prog gl 144 fun args=>(qKm args).run:=by
 refine SimP.of_flat (G:=qJP) (L:=qRA) qaj (qQU gl ) qai  Tryz.func144 rfl (by rfl) (by kernel_rfl) (qab (by kernel_rfl)) ?_
 intro args x h;unfold qKm at h
 split at h
 ·exact (congrArg Tr.run (qY6 _ _ _)).trans (qae h fun h=>by cases h)
 ·cases h
def qE9:GamT:=ofL []
theorem qSP (gl:Gl):qal Tryz.prog gl (gam qE9):=qaf
def qKM:LpsT:=fun r fr σ=>.fail
def qw2 (r:qR) (i n k:Int) (t:qU):Tr PV:=let z1:=qbl [.int .i64 0,.str [],.int .i64 0,.int .i64 0,.str [],.int .i64 0] r (nNat i);.ite true (.ite (iLt i (xLen r)) (.ite (qax i) (.ite z1 (.ite (iEq (xInt r (nNat i) 0) k) (.ite (sEq t []) (.ret (.bool true)) (.ite (qax i) (.ite z1 (.ret (.bool (sEq (xStr r (nNat i) 1) t))) .fail) .fail)) (.ret (.bool false))) .fail) .fail) (.ret (.bool false))) (.ret (.bool false))
section
variable (r:qR) (i n k:Int) (t:qU)
theorem qWy:(tcall tbT qE9 qKM Tryz.f37 [.ref [.sl r .non,.int .i64 i,.int .i64 n,.bool false,.int .i64 0],.int .i64 k,.str t]).flat=qw2 r i n k t:=by kernel_rfl
def qyb:Option PV:=(qw2 r i n k t).run
def qbj:Bool:=(qeC (gVal (qyb r i n k t)))
def qaL:Bool:=isW (qyb r i n k t) (.bool (qbj r i n k t))
end
def qyu (r:qR) (i n a k:Int) (t:qU):Tr PV:=let z1:=qbl [.int .i64 0,.str [],.int .i64 0,.int .i64 0,.str [],.int .i64 0] r (nNat i);.ite false (.ite (iLt i (xLen r)) (.ite (qax i) (.ite z1 (.ite (iEq (xInt r (nNat i) 0) k) (.ite (sEq t []) (.ret (.bool true)) (.ite (qax i) (.ite z1 (.ret (.bool (sEq (xStr r (nNat i) 1) t))) .fail) .fail)) (.ret (.bool false))) .fail) .fail) (.ret (.bool false))) (.ret (.bool false))
section
variable (r:qR) (i n a k:Int) (t:qU)
theorem qU7:(tcall tbT qE9 qKM Tryz.f37 [.ref [.sl r .non,.int .i64 i,.int .i64 n,.bool true,.int .i64 a],.int .i64 k,.str t]).flat=qyu r i n a k t:=by kernel_rfl
def qxg:Option PV:=(qyu r i n a k t).run
def qaA:Bool:=(qeC (gVal (qxg r i n a k t)))
def qaq:Bool:=isW (qxg r i n a k t) (.bool (qaA r i n a k t))
end
def qd3:List PV→Tr PV|[.ref [.sl r .non,.int .i64 i,.int .i64 n,.bool false,.int .i64 0],.int .i64 k,.str t]=>.ite (qaL r i n k t) (.ret (.bool (qbj r i n k t))) (.fail)|[.ref [.sl r .non,.int .i64 i,.int .i64 n,.bool true,.int .i64 a],.int .i64 k,.str t]=>.ite (qaq r i n a k t) (.ret (.bool (qaA r i n a k t))) (.fail)|_=>.fail
theorem qcj (gl:Gl):SimP Tryz.prog gl 37 fun args=>(qd3 args).run:=by
 refine SimP.of_flat (G:=qE9) (L:=qKM) qaj (qSP gl ) qai  Tryz.func37 rfl (by rfl) (by kernel_rfl) (qab (by kernel_rfl)) ?_
 intro args x h;unfold qd3 at h
 split at h
 ·exact (congrArg Tr.run (qWy _ _ _ _ _)).trans (qae h fun h=>by cases h)
 ·exact (congrArg Tr.run (qU7 _ _ _ _ _ _)).trans (qae h fun h=>by cases h)
 ·cases h
def qEG:GamT:=ofL [(37,.pure qd3),(163,.pure qOL)]
theorem qPI (gl:Gl):qal Tryz.prog gl (gam qEG):=(qag (qcj gl) (qag (qUY gl) qaf))
def qII:LpsT:=fun r fr σ=>.fail
section
variable (r:qR) (i n:Int)
def qwF:Tr PV:=.ite (qaL (qac r) i n 1 []) (.ite (qbj (qac r) i n 1 []) (.ite (qax i) (.ite (qbl [.int .i64 0,.str [],.int .i64 0,.int .i64 0,.str [],.int .i64 0] r (nNat i)) (.ite (qwz (xStr r (nNat i) 1)) (.ret (.bool (bNot (qGK (xStr r (nNat i) 1))))) .fail) .fail) .fail) (.ret (.bool false))) .fail
theorem qXg:(tcall tbT qEG qII Tryz.f143 [.ref [.sl r .non,.int .i64 i,.int .i64 n,.bool false,.int .i64 0]]).flat=qwF r i n:=by kernel_rfl
def qAd:Option PV:=(qwF r i n).run
def qzl:Bool:=(qeC (gVal (qAd r i n)))
def qqA:Bool:=isW (qAd r i n) (.bool (qzl r i n))
end
section
variable (r:qR) (i n a:Int)
def qA0:Tr PV:=.ite (qaq (qac r) i n a 1 []) (.ite (qaA (qac r) i n a 1 []) (.ite (qax i) (.ite (qbl [.int .i64 0,.str [],.int .i64 0,.int .i64 0,.str [],.int .i64 0] r (nNat i)) (.ite (qwz (xStr r (nNat i) 1)) (.ret (.bool (bNot (qGK (xStr r (nNat i) 1))))) .fail) .fail) .fail) (.ret (.bool false))) .fail
theorem qUj:(tcall tbT qEG qII Tryz.f143 [.ref [.sl r .non,.int .i64 i,.int .i64 n,.bool true,.int .i64 a]]).flat=qA0 r i n a:=by kernel_rfl
def qwi:Option PV:=(qA0 r i n a).run
def qvs:Bool:=(qeC (gVal (qwi r i n a)))
def qtm:Bool:=isW (qwi r i n a) (.bool (qvs r i n a))
end
def qE1:List PV→Tr PV|[.ref [.sl r .non,.int .i64 i,.int .i64 n,.bool false,.int .i64 0]]=>.ite (qqA r i n) (.ret (.bool (qzl r i n))) (.fail)|[.ref [.sl r .non,.int .i64 i,.int .i64 n,.bool true,.int .i64 a]]=>.ite (qtm r i n a) (.ret (.bool (qvs r i n a))) (.fail)|_=>.fail
theorem qGu (gl:Gl):SimP Tryz.prog gl 143 fun args=>(qE1 args).run:=by
 refine SimP.of_flat (G:=qEG) (L:=qII) qaj (qPI gl ) qai  Tryz.func143 rfl (by rfl) (by kernel_rfl) (qab (by kernel_rfl)) ?_
 intro args x h;unfold qE1 at h
 split at h
 ·exact (congrArg Tr.run (qXg _ _ _)).trans (qae h fun h=>by cases h)
 ·exact (congrArg Tr.run (qUj _ _ _ _)).trans (qae h fun h=>by cases h)
 ·cases h
def qxH:GamT:=ofL [(144,.pure qKm)]
theorem qNx (gl:Gl):qal Tryz.prog gl (gam qxH):=(qag (qS5 gl) qaf)
def qE6:LpsT:=fun r fr σ=>.fail
section
variable (r:qR) (i n:Int)
def qzA:Tr (PR×Store):=.ite true (.ite (qzM (qac (qac r)) i n) (.ret (PR.val (.tup []),Store.mk [[.sl (qaa (qac r)) .non,.int .i64 i,.int .i64 n,.bool true,.int .i64 (qFo (qac (qac r)) i n)]] [] [76])) .fail) (.ret (PR.val (.tup []),Store.mk [[.sl (qaa (qac r)) .non,.int .i64 i,.int .i64 n,.bool false,.int .i64 0]] [] [76]))
theorem qTB:(nrmM tbT qxH qE6 Tryz.f92 [.ptr 0 0] ⟨[[.sl r .non,.int .i64 i,.int .i64 n,.bool false,.int .i64 0]],[],[76]⟩).flat=qzA r i n:=by kernel_rfl
def qka:Option (PR×Store):=(qzA r i n).run
def qdD:Int:=qbC 0 1 (qka r i n)
def qcF:Int:=qbC 0 4 (qka r i n)
def qet:Bool:=isW (qka r i n) ((.val (.tup [])),⟨[[.sl r .non,.int .i64 (qdD r i n),.int .i64 n,.bool true,.int .i64 (qcF r i n)]],[],[76]⟩)
def qdz:Int:=qbC 0 1 (qka r i n)
def qeb:Bool:=isW (qka r i n) ((.val (.tup [])),⟨[[.sl r .non,.int .i64 (qdz r i n),.int .i64 n,.bool false,.int .i64 0]],[],[76]⟩)
end
section
variable (r:qR) (i n a:Int)
def qtl:Tr (PR×Store):=.ite false .fail (.ret (PR.val (.tup []),Store.mk [[.sl (qaa (qac r)) .non,.int .i64 i,.int .i64 n,.bool true,.int .i64 a]] [] [76]))
theorem qRX:(nrmM tbT qxH qE6 Tryz.f92 [.ptr 0 0] ⟨[[.sl r .non,.int .i64 i,.int .i64 n,.bool true,.int .i64 a]],[],[76]⟩).flat=qtl r i n a:=by kernel_rfl
def qrA:Option (PR×Store):=(qtl r i n a).run
def qcC:Int:=qbC 0 1 (qrA r i n a)
def qbT:Bool:=isW (qrA r i n a) ((.val (.tup [])),⟨[[.sl r .non,.int .i64 (qcC r i n a),.int .i64 n,.bool true,.int .i64 a]],[],[76]⟩)
end
def qkl:List PV→Store→Tr (PR×Store)|[.ptr 0 0],⟨[[.sl r .non,.int .i64 i,.int .i64 n,.bool false,.int .i64 0]],[],[76]⟩=>.ite (qet r i n) (.ret ((.val (.tup [])),⟨[[.sl r .non,.int .i64 (qdD r i n),.int .i64 n,.bool true,.int .i64 (qcF r i n)]],[],[76]⟩)) (.ite (qeb r i n) (.ret ((.val (.tup [])),⟨[[.sl r .non,.int .i64 (qdz r i n),.int .i64 n,.bool false,.int .i64 0]],[],[76]⟩)) (.fail))|[.ptr 0 0],⟨[[.sl r .non,.int .i64 i,.int .i64 n,.bool true,.int .i64 a]],[],[76]⟩=>.ite (qbT r i n a) (.ret ((.val (.tup [])),⟨[[.sl r .non,.int .i64 (qcC r i n a),.int .i64 n,.bool true,.int .i64 a]],[],[76]⟩)) (.fail)|_,_=>.fail
theorem qiX (gl:Gl):SimM Tryz.prog gl 92 fun args σ=>(qkl args σ).run:=by
 refine SimM.of_nrm (G:=qxH) (L:=qE6) qaj (qNx gl ) qai Tryz.func92 rfl (by rfl) (by kernel_rfl) (qab (by kernel_rfl)) ?_
 intro args σ x h;unfold qkl at h
 split at h
 ·exact (congrArg Tr.run (qTB _ _ _)).trans (qae h fun h=>qae h fun h=>by cases h)
 ·exact (congrArg Tr.run (qRX _ _ _ _)).trans (qae h fun h=>by cases h)
 ·cases h
def qE4:GamT:=ofL [(37,.pure qd3),(92,.may (frameT qkl))]
theorem qR0 (gl:Gl):qal Tryz.prog gl (gam qE4):=(qag (qcj gl) (qah (SimM.frameT (qiX gl)) qaf))
def qIA:LpsT:=fun r fr σ=>.fail
section
variable (k:Int) (t:qU) (r:qR) (i n:Int)
def qvt:Tr (PR×Store):=let z1:=qac r;let z2:=qac z1;let z3:List PV:=[.int .i64 0,.str [],.int .i64 0,.int .i64 0,.str [],.int .i64 0];let z4:=nNat i;.ite (qaL z2 i n k t) (.ite (bNot (qbj z2 i n k t)) (.ite (qet z2 i n) (.ret (PR.val (.agg z3),Store.mk [[.sl (qaa (qaa z2)) .non,.int .i64 (qdD z2 i n),.int .i64 n,.bool true,.int .i64 (qcF z2 i n)]] [] [76])) (.ite (qeb z2 i n) (.ret (PR.val (.agg z3),Store.mk [[.sl (qaa (qaa z2)) .non,.int .i64 (qdz z2 i n),.int .i64 n,.bool false,.int .i64 0]] [] [76])) .fail)) (.ite (qax i) (.ite (qbl z3 z1 z4) (.ret (PR.val (.agg [.int .i64 (xInt z1 z4 0),.str (xStr z1 z4 1),.int .i64 (xInt z1 z4 2),.int .i64 (xInt z1 z4 3),.str (xStr z1 z4 4),.int .i64 (xInt z1 z4 5)]),Store.mk [[.sl (qaa z1) .non,.int .i64 (iAdd .i64 i 1),.int .i64 n,.bool false,.int .i64 0]] [] [76])) .fail) .fail)) .fail
theorem qXU:(nrmM tbT qE4 qIA Tryz.f93 [.ptr 0 0,.int .i64 k,.str t] ⟨[[.sl r .non,.int .i64 i,.int .i64 n,.bool false,.int .i64 0]],[],[76]⟩).flat=qvt k t r i n:=by kernel_rfl
def qbU:Option (PR×Store):=(qvt k t r i n).run
def qyz:Int:=qbg 0 (qbU k t r i n)
def qhK:qU:=qbo 1 (qbU k t r i n)
def qh1:Int:=qbg 2 (qbU k t r i n)
def qhM:Int:=qbg 3 (qbU k t r i n)
def qhL:qU:=qbo 4 (qbU k t r i n)
def qt4:Int:=qbg 5 (qbU k t r i n)
def qb0:Int:=qbC 0 1 (qbU k t r i n)
def qb3:Int:=qbC 0 4 (qbU k t r i n)
def qdf:Bool:=isW (qbU k t r i n) ((.val (.agg [.int .i64 (qyz k t r i n),.str (qhK k t r i n),.int .i64 (qh1 k t r i n),.int .i64 (qhM k t r i n),.str (qhL k t r i n),.int .i64 (qt4 k t r i n)])),⟨[[.sl r .non,.int .i64 (qb0 k t r i n),.int .i64 n,.bool true,.int .i64 (qb3 k t r i n)]],[],[76]⟩)
def qAw:Int:=qbg 0 (qbU k t r i n)
def qgg:qU:=qbo 1 (qbU k t r i n)
def qiE:Int:=qbg 2 (qbU k t r i n)
def qhO:Int:=qbg 3 (qbU k t r i n)
def qi4:qU:=qbo 4 (qbU k t r i n)
def qtj:Int:=qbg 5 (qbU k t r i n)
def qb4:Int:=qbC 0 1 (qbU k t r i n)
def qdj:Bool:=isW (qbU k t r i n) ((.val (.agg [.int .i64 (qAw k t r i n),.str (qgg k t r i n),.int .i64 (qiE k t r i n),.int .i64 (qhO k t r i n),.str (qi4 k t r i n),.int .i64 (qtj k t r i n)])),⟨[[.sl r .non,.int .i64 (qb4 k t r i n),.int .i64 n,.bool false,.int .i64 0]],[],[76]⟩)
end
section
variable (k:Int) (t:qU) (r:qR) (i n a:Int)
def qAM:Tr (PR×Store):=let z1:=qac r;let z2:=qac z1;let z3:List PV:=[.int .i64 0,.str [],.int .i64 0,.int .i64 0,.str [],.int .i64 0];let z4:=nNat i;.ite (qaq z2 i n a k t) (.ite (bNot (qaA z2 i n a k t)) (.ite (qbT z2 i n a) (.ret (PR.val (.agg z3),Store.mk [[.sl (qaa (qaa z2)) .non,.int .i64 (qcC z2 i n a),.int .i64 n,.bool true,.int .i64 a]] [] [76])) .fail) (.ite (qax i) (.ite (qbl z3 z1 z4) (.ret (PR.val (.agg [.int .i64 (xInt z1 z4 0),.str (xStr z1 z4 1),.int .i64 (xInt z1 z4 2),.int .i64 (xInt z1 z4 3),.str (xStr z1 z4 4),.int .i64 (xInt z1 z4 5)]),Store.mk [[.sl (qaa z1) .non,.int .i64 (iAdd .i64 i 1),.int .i64 n,.bool true,.int .i64 a]] [] [76])) .fail) .fail)) .fail
theorem qU8:(nrmM tbT qE4 qIA Tryz.f93 [.ptr 0 0,.int .i64 k,.str t] ⟨[[.sl r .non,.int .i64 i,.int .i64 n,.bool true,.int .i64 a]],[],[76]⟩).flat=qAM k t r i n a:=by kernel_rfl
def qeG:Option (PR×Store):=(qAM k t r i n a).run
def qGo:Int:=qbg 0 (qeG k t r i n a)
def qn7:qU:=qbo 1 (qeG k t r i n a)
def qk3:Int:=qbg 2 (qeG k t r i n a)
def qlN:Int:=qbg 3 (qeG k t r i n a)
def qlp:qU:=qbo 4 (qeG k t r i n a)
def qAI:Int:=qbg 5 (qeG k t r i n a)
def qcD:Int:=qbC 0 1 (qeG k t r i n a)
def qct:Bool:=isW (qeG k t r i n a) ((.val (.agg [.int .i64 (qGo k t r i n a),.str (qn7 k t r i n a),.int .i64 (qk3 k t r i n a),.int .i64 (qlN k t r i n a),.str (qlp k t r i n a),.int .i64 (qAI k t r i n a)])),⟨[[.sl r .non,.int .i64 (qcD k t r i n a),.int .i64 n,.bool true,.int .i64 a]],[],[76]⟩)
end
def qp5:List PV→Store→Tr (PR×Store)|[.ptr 0 0,.int .i64 k,.str t],⟨[[.sl r .non,.int .i64 i,.int .i64 n,.bool false,.int .i64 0]],[],[76]⟩=>.ite (qdf k t r i n) (.ret ((.val (.agg [.int .i64 (qyz k t r i n),.str (qhK k t r i n),.int .i64 (qh1 k t r i n),.int .i64 (qhM k t r i n),.str (qhL k t r i n),.int .i64 (qt4 k t r i n)])),⟨[[.sl r .non,.int .i64 (qb0 k t r i n),.int .i64 n,.bool true,.int .i64 (qb3 k t r i n)]],[],[76]⟩)) (.ite (qdj k t r i n) (.ret ((.val (.agg [.int .i64 (qAw k t r i n),.str (qgg k t r i n),.int .i64 (qiE k t r i n),.int .i64 (qhO k t r i n),.str (qi4 k t r i n),.int .i64 (qtj k t r i n)])),⟨[[.sl r .non,.int .i64 (qb4 k t r i n),.int .i64 n,.bool false,.int .i64 0]],[],[76]⟩)) (.fail))|[.ptr 0 0,.int .i64 k,.str t],⟨[[.sl r .non,.int .i64 i,.int .i64 n,.bool true,.int .i64 a]],[],[76]⟩=>.ite (qct k t r i n a) (.ret ((.val (.agg [.int .i64 (qGo k t r i n a),.str (qn7 k t r i n a),.int .i64 (qk3 k t r i n a),.int .i64 (qlN k t r i n a),.str (qlp k t r i n a),.int .i64 (qAI k t r i n a)])),⟨[[.sl r .non,.int .i64 (qcD k t r i n a),.int .i64 n,.bool true,.int .i64 a]],[],[76]⟩)) (.fail)|_,_=>.fail
theorem ql2 (gl:Gl):SimM Tryz.prog gl 93 fun args σ=>(qp5 args σ).run:=by
 refine SimM.of_nrm (G:=qE4) (L:=qIA) qaj (qR0 gl ) qai Tryz.func93 rfl (by rfl) (by kernel_rfl) (qab (by kernel_rfl)) ?_
 intro args σ x h;unfold qp5 at h
 split at h
 ·exact (congrArg Tr.run (qXU _ _ _ _ _)).trans (qae h fun h=>qae h fun h=>by cases h)
 ·exact (congrArg Tr.run (qU8 _ _ _ _ _ _)).trans (qae h fun h=>by cases h)
 ·cases h
def qCU:GamT:=ofL [(93,.may (frameT qp5))]
theorem qR7 (gl:Gl):qal Tryz.prog gl (gam qCU):=(qah (SimM.frameT (ql2 gl)) qaf)
def qJL:LpsT:=fun r fr σ=>.fail
section
variable (t:qU) (r:qR) (i n:Int)
def qxf:Tr (PR×Store):=let z1:=qac (qac r);.ite (qdf 6 t z1 i n) (.ret (PR.val (.tup []),Store.mk [[.sl (qaa (qaa z1)) .non,.int .i64 (qb0 6 t z1 i n),.int .i64 n,.bool true,.int .i64 (qb3 6 t z1 i n)]] [] [76])) (.ite (qdj 6 t z1 i n) (.ret (PR.val (.tup []),Store.mk [[.sl (qaa (qaa z1)) .non,.int .i64 (qb4 6 t z1 i n),.int .i64 n,.bool false,.int .i64 0]] [] [76])) .fail)
theorem qXv:(nrmM tbT qCU qJL Tryz.f90 [.ptr 0 0,.str t] ⟨[[.sl r .non,.int .i64 i,.int .i64 n,.bool false,.int .i64 0]],[],[76]⟩).flat=qxf t r i n:=by kernel_rfl
def qla:Option (PR×Store):=(qxf t r i n).run
def qbr:Int:=qbC 0 1 (qla t r i n)
def qbi:Int:=qbC 0 4 (qla t r i n)
def qbR:Bool:=isW (qla t r i n) ((.val (.tup [])),⟨[[.sl r .non,.int .i64 (qbr t r i n),.int .i64 n,.bool true,.int .i64 (qbi t r i n)]],[],[76]⟩)
def qbB:Int:=qbC 0 1 (qla t r i n)
def qbM:Bool:=isW (qla t r i n) ((.val (.tup [])),⟨[[.sl r .non,.int .i64 (qbB t r i n),.int .i64 n,.bool false,.int .i64 0]],[],[76]⟩)
end
section
variable (t:qU) (r:qR) (i n a:Int)
def qya:Tr (PR×Store):=let z1:=qac (qac r);.ite (qct 6 t z1 i n a) (.ret (PR.val (.tup []),Store.mk [[.sl (qaa (qaa z1)) .non,.int .i64 (qcD 6 t z1 i n a),.int .i64 n,.bool true,.int .i64 a]] [] [76])) .fail
theorem qUv:(nrmM tbT qCU qJL Tryz.f90 [.ptr 0 0,.str t] ⟨[[.sl r .non,.int .i64 i,.int .i64 n,.bool true,.int .i64 a]],[],[76]⟩).flat=qya t r i n a:=by kernel_rfl
def qxx:Option (PR×Store):=(qya t r i n a).run
def qaD:Int:=qbC 0 1 (qxx t r i n a)
def qat:Bool:=isW (qxx t r i n a) ((.val (.tup [])),⟨[[.sl r .non,.int .i64 (qaD t r i n a),.int .i64 n,.bool true,.int .i64 a]],[],[76]⟩)
end
def qpZ:List PV→Store→Tr (PR×Store)|[.ptr 0 0,.str t],⟨[[.sl r .non,.int .i64 i,.int .i64 n,.bool false,.int .i64 0]],[],[76]⟩=>.ite (qbR t r i n) (.ret ((.val (.tup [])),⟨[[.sl r .non,.int .i64 (qbr t r i n),.int .i64 n,.bool true,.int .i64 (qbi t r i n)]],[],[76]⟩)) (.ite (qbM t r i n) (.ret ((.val (.tup [])),⟨[[.sl r .non,.int .i64 (qbB t r i n),.int .i64 n,.bool false,.int .i64 0]],[],[76]⟩)) (.fail))|[.ptr 0 0,.str t],⟨[[.sl r .non,.int .i64 i,.int .i64 n,.bool true,.int .i64 a]],[],[76]⟩=>.ite (qat t r i n a) (.ret ((.val (.tup [])),⟨[[.sl r .non,.int .i64 (qaD t r i n a),.int .i64 n,.bool true,.int .i64 a]],[],[76]⟩)) (.fail)|_,_=>.fail
theorem qlf (gl:Gl):SimM Tryz.prog gl 90 fun args σ=>(qpZ args σ).run:=by
 refine SimM.of_nrm (G:=qCU) (L:=qJL) qaj (qR7 gl ) qai Tryz.func90 rfl (by rfl) (by kernel_rfl) (qab (by kernel_rfl)) ?_
 intro args σ x h;unfold qpZ at h
 split at h
 ·exact (congrArg Tr.run (qXv _ _ _ _)).trans (qae h fun h=>qae h fun h=>by cases h)
 ·exact (congrArg Tr.run (qUv _ _ _ _ _)).trans (qae h fun h=>by cases h)
 ·cases h
def qxX:GamT:=ofL [(92,.may (frameT qkl)),(93,.may (frameT qp5)),(143,.pure qE1)]
theorem qOu (gl:Gl):qal Tryz.prog gl (gam qxX):=(qah (SimM.frameT (qiX gl)) (qah (SimM.frameT (ql2 gl)) (qag (qGu gl) qaf)))
def qFz:LpsT:=fun r fr σ=>.fail
section
variable (r:qR) (i n:Int)
def qqb:Tr (PR×Store):=let z1:=qac (qac r);let z2:=qaa (qaa z1);.ite (qqA z1 i n) (.ite (bNot (qzl z1 i n)) (.ite (qet z1 i n) (.ret (PR.val (.str []),Store.mk [[.sl z2 .non,.int .i64 (qdD z1 i n),.int .i64 n,.bool true,.int .i64 (qcF z1 i n)]] [] [76])) (.ite (qeb z1 i n) (.ret (PR.val (.str []),Store.mk [[.sl z2 .non,.int .i64 (qdz z1 i n),.int .i64 n,.bool false,.int .i64 0]] [] [76])) .fail)) (.ite (qdf 1 [] z1 i n) (.ret (PR.val (.str (qhK 1 [] z1 i n)),Store.mk [[.sl z2 .non,.int .i64 (qb0 1 [] z1 i n),.int .i64 n,.bool true,.int .i64 (qb3 1 [] z1 i n)]] [] [76])) (.ite (qdj 1 [] z1 i n) (.ret (PR.val (.str (qgg 1 [] z1 i n)),Store.mk [[.sl z2 .non,.int .i64 (qb4 1 [] z1 i n),.int .i64 n,.bool false,.int .i64 0]] [] [76])) .fail))) .fail
theorem qU4:(nrmM tbT qxX qFz Tryz.f89 [.ptr 0 0] ⟨[[.sl r .non,.int .i64 i,.int .i64 n,.bool false,.int .i64 0]],[],[76]⟩).flat=qqb r i n:=by kernel_rfl
def qeH:Option (PR×Store):=(qqb r i n).run
def qfG:qU:=qVa (qeH r i n)
def qcS:Int:=qbC 0 1 (qeH r i n)
def qd9:Int:=qbC 0 4 (qeH r i n)
def qhX:Bool:=isW (qeH r i n) ((.val (.str (qfG r i n))),⟨[[.sl r .non,.int .i64 (qcS r i n),.int .i64 n,.bool true,.int .i64 (qd9 r i n)]],[],[76]⟩)
def qfF:qU:=qVa (qeH r i n)
def qfE:Int:=qbC 0 1 (qeH r i n)
def qiK:Bool:=isW (qeH r i n) ((.val (.str (qfF r i n))),⟨[[.sl r .non,.int .i64 (qfE r i n),.int .i64 n,.bool false,.int .i64 0]],[],[76]⟩)
end
section
variable (r:qR) (i n a:Int)
def qtK:Tr (PR×Store):=let z1:=qac (qac r);.ite (qtm z1 i n a) (.ite (bNot (qvs z1 i n a)) (.ite (qbT z1 i n a) (.ret (PR.val (.str []),Store.mk [[.sl (qaa (qaa z1)) .non,.int .i64 (qcC z1 i n a),.int .i64 n,.bool true,.int .i64 a]] [] [76])) .fail) (.ite (qct 1 [] z1 i n a) (.ret (PR.val (.str (qn7 1 [] z1 i n a)),Store.mk [[.sl (qaa (qaa z1)) .non,.int .i64 (qcD 1 [] z1 i n a),.int .i64 n,.bool true,.int .i64 a]] [] [76])) .fail)) .fail
theorem qSk:(nrmM tbT qxX qFz Tryz.f89 [.ptr 0 0] ⟨[[.sl r .non,.int .i64 i,.int .i64 n,.bool true,.int .i64 a]],[],[76]⟩).flat=qtK r i n a:=by kernel_rfl
def qlr:Option (PR×Store):=(qtK r i n a).run
def qp8:qU:=qVa (qlr r i n a)
def qlu:Int:=qbC 0 1 (qlr r i n a)
def qpU:Bool:=isW (qlr r i n a) ((.val (.str (qp8 r i n a))),⟨[[.sl r .non,.int .i64 (qlu r i n a),.int .i64 n,.bool true,.int .i64 a]],[],[76]⟩)
end
def qqk:List PV→Store→Tr (PR×Store)|[.ptr 0 0],⟨[[.sl r .non,.int .i64 i,.int .i64 n,.bool false,.int .i64 0]],[],[76]⟩=>.ite (qhX r i n) (.ret ((.val (.str (qfG r i n))),⟨[[.sl r .non,.int .i64 (qcS r i n),.int .i64 n,.bool true,.int .i64 (qd9 r i n)]],[],[76]⟩)) (.ite (qiK r i n) (.ret ((.val (.str (qfF r i n))),⟨[[.sl r .non,.int .i64 (qfE r i n),.int .i64 n,.bool false,.int .i64 0]],[],[76]⟩)) (.fail))|[.ptr 0 0],⟨[[.sl r .non,.int .i64 i,.int .i64 n,.bool true,.int .i64 a]],[],[76]⟩=>.ite (qpU r i n a) (.ret ((.val (.str (qp8 r i n a))),⟨[[.sl r .non,.int .i64 (qlu r i n a),.int .i64 n,.bool true,.int .i64 a]],[],[76]⟩)) (.fail)|_,_=>.fail
theorem quK (gl:Gl):SimM Tryz.prog gl 89 fun args σ=>(qqk args σ).run:=by
 refine SimM.of_nrm (G:=qxX) (L:=qFz) qaj (qOu gl ) qai Tryz.func89 rfl (by rfl) (by kernel_rfl) (qab (by kernel_rfl)) ?_
 intro args σ x h;unfold qqk at h
 split at h
 ·exact (congrArg Tr.run (qU4 _ _ _)).trans (qae h fun h=>qae h fun h=>by cases h)
 ·exact (congrArg Tr.run (qSk _ _ _ _)).trans (qae h fun h=>by cases h)
 ·cases h
def qFK:GamT:=ofL [(37,.pure qd3),(93,.may (frameT qp5))]
theorem qRV (gl:Gl):qal Tryz.prog gl (gam qFK):=(qag (qcj gl) (qah (SimM.frameT (ql2 gl)) qaf))
def qIO:LpsT:=fun r fr σ=>.fail
section
variable (r:qR) (i n:Int)
def qrm:Tr (PR×Store):=let z1:=qac (qac r);.ite (qaL z1 i n 1 [105,110,116]) (.ite (qbj z1 i n 1 [105,110,116]) (.ret (PR.val (.int .i64 1),Store.mk [[.sl (qaa (qac r)) .non,.int .i64 (iAdd .i64 i 1),.int .i64 n,.bool false,.int .i64 0]] [] [76])) (.ite (qdf 1 [115,121,109] z1 i n) (.ret (PR.val (.int .i64 2),Store.mk [[.sl (qaa (qaa z1)) .non,.int .i64 (qb0 1 [115,121,109] z1 i n),.int .i64 n,.bool true,.int .i64 (qb3 1 [115,121,109] z1 i n)]] [] [76])) (.ite (qdj 1 [115,121,109] z1 i n) (.ret (PR.val (.int .i64 2),Store.mk [[.sl (qaa (qaa z1)) .non,.int .i64 (qb4 1 [115,121,109] z1 i n),.int .i64 n,.bool false,.int .i64 0]] [] [76])) .fail))) .fail
theorem qYR:(nrmM tbT qFK qIO Tryz.f91 [.ptr 0 0] ⟨[[.sl r .non,.int .i64 i,.int .i64 n,.bool false,.int .i64 0]],[],[76]⟩).flat=qrm r i n:=by kernel_rfl
def qgh:Option (PR×Store):=(qrm r i n).run
def qk2:Int:=qHd (qgh r i n)
def qiB:Int:=qbC 0 1 (qgh r i n)
def qqd:Bool:=isW (qgh r i n) ((.val (.int .i64 (qk2 r i n))),⟨[[.sl r .non,.int .i64 (qiB r i n),.int .i64 n,.bool false,.int .i64 0]],[],[76]⟩)
def qkZ:Int:=qHd (qgh r i n)
def qia:Int:=qbC 0 1 (qgh r i n)
def qin:Int:=qbC 0 4 (qgh r i n)
def qqg:Bool:=isW (qgh r i n) ((.val (.int .i64 (qkZ r i n))),⟨[[.sl r .non,.int .i64 (qia r i n),.int .i64 n,.bool true,.int .i64 (qin r i n)]],[],[76]⟩)
end
section
variable (r:qR) (i n a:Int)
def qAO:Tr (PR×Store):=let z1:=qac (qac r);.ite (qaq z1 i n a 1 [105,110,116]) (.ite (qaA z1 i n a 1 [105,110,116]) (.ret (PR.val (.int .i64 1),Store.mk [[.sl (qaa (qac r)) .non,.int .i64 (iAdd .i64 i 1),.int .i64 n,.bool true,.int .i64 a]] [] [76])) (.ite (qct 1 [115,121,109] z1 i n a) (.ret (PR.val (.int .i64 2),Store.mk [[.sl (qaa (qaa z1)) .non,.int .i64 (qcD 1 [115,121,109] z1 i n a),.int .i64 n,.bool true,.int .i64 a]] [] [76])) .fail)) .fail
theorem qUs:(nrmM tbT qFK qIO Tryz.f91 [.ptr 0 0] ⟨[[.sl r .non,.int .i64 i,.int .i64 n,.bool true,.int .i64 a]],[],[76]⟩).flat=qAO r i n a:=by kernel_rfl
def qsh:Option (PR×Store):=(qAO r i n a).run
def qmC:Int:=qHd (qsh r i n a)
def qh7:Int:=qbC 0 1 (qsh r i n a)
def qiy:Bool:=isW (qsh r i n a) ((.val (.int .i64 (qmC r i n a))),⟨[[.sl r .non,.int .i64 (qh7 r i n a),.int .i64 n,.bool true,.int .i64 a]],[],[76]⟩)
end
def qGg:List PV→Store→Tr (PR×Store)|[.ptr 0 0],⟨[[.sl r .non,.int .i64 i,.int .i64 n,.bool false,.int .i64 0]],[],[76]⟩=>.ite (qqd r i n) (.ret ((.val (.int .i64 (qk2 r i n))),⟨[[.sl r .non,.int .i64 (qiB r i n),.int .i64 n,.bool false,.int .i64 0]],[],[76]⟩)) (.ite (qqg r i n) (.ret ((.val (.int .i64 (qkZ r i n))),⟨[[.sl r .non,.int .i64 (qia r i n),.int .i64 n,.bool true,.int .i64 (qin r i n)]],[],[76]⟩)) (.fail))|[.ptr 0 0],⟨[[.sl r .non,.int .i64 i,.int .i64 n,.bool true,.int .i64 a]],[],[76]⟩=>.ite (qiy r i n a) (.ret ((.val (.int .i64 (qmC r i n a))),⟨[[.sl r .non,.int .i64 (qh7 r i n a),.int .i64 n,.bool true,.int .i64 a]],[],[76]⟩)) (.fail)|_,_=>.fail
theorem qGE (gl:Gl):SimM Tryz.prog gl 91 fun args σ=>(qGg args σ).run:=by
 refine SimM.of_nrm (G:=qFK) (L:=qIO) qaj (qRV gl ) qai Tryz.func91 rfl (by rfl) (by kernel_rfl) (qab (by kernel_rfl)) ?_
 intro args σ x h;unfold qGg at h
 split at h
 ·exact (congrArg Tr.run (qYR _ _ _)).trans (qae h fun h=>qae h fun h=>by cases h)
 ·exact (congrArg Tr.run (qUs _ _ _ _)).trans (qae h fun h=>by cases h)
 ·cases h
def qDj:GamT:=ofL [(37,.pure qd3),(93,.may (frameT qp5))]
theorem qOS (gl:Gl):qal Tryz.prog gl (gam qDj):=(qag (qcj gl) (qah (SimM.frameT (ql2 gl)) qaf))
def qJn:LpsT:=fun r fr σ=>.fail
section
variable (r:qR) (i n:Int)
def qjG:Tr (PR×Store):=let z1:=qac (qac r);let z2:=qaa (qaa z1);let z3:PV:=.agg [.int .i64 3,.str [],.int .i64 0,.int .i64 0,.str []];.ite (qaL z1 i n 2 []) (.ite (qbj z1 i n 2 []) (.ite (qdf 2 [] z1 i n) (.ret (PR.val (.agg [.int .i64 1,.str (qhK 2 [] z1 i n),.int .i64 0,.int .i64 0,.str []]),Store.mk [[.sl z2 .non,.int .i64 (qb0 2 [] z1 i n),.int .i64 n,.bool true,.int .i64 (qb3 2 [] z1 i n)]] [] [76])) (.ite (qdj 2 [] z1 i n) (.ret (PR.val (.agg [.int .i64 1,.str (qgg 2 [] z1 i n),.int .i64 0,.int .i64 0,.str []]),Store.mk [[.sl z2 .non,.int .i64 (qb4 2 [] z1 i n),.int .i64 n,.bool false,.int .i64 0]] [] [76])) .fail)) (.ite (qaL z1 i n 4 []) (.ite (qbj z1 i n 4 []) (.ite (qdf 4 [] z1 i n) (.ret (PR.val (.agg [.int .i64 2,.str [],.int .i64 (qh1 4 [] z1 i n),.int .i64 (qhM 4 [] z1 i n),.str (qhL 4 [] z1 i n)]),Store.mk [[.sl z2 .non,.int .i64 (qb0 4 [] z1 i n),.int .i64 n,.bool true,.int .i64 (qb3 4 [] z1 i n)]] [] [76])) (.ite (qdj 4 [] z1 i n) (.ret (PR.val (.agg [.int .i64 2,.str [],.int .i64 (qiE 4 [] z1 i n),.int .i64 (qhO 4 [] z1 i n),.str (qi4 4 [] z1 i n)]),Store.mk [[.sl z2 .non,.int .i64 (qb4 4 [] z1 i n),.int .i64 n,.bool false,.int .i64 0]] [] [76])) .fail)) (.ite (qaL z1 i n 5 []) (.ite (qbj z1 i n 5 []) (.ite (qdf 5 [] z1 i n) (.ret (PR.val (.agg [.int .i64 2,.str [],.int .i64 (qh1 5 [] z1 i n),.int .i64 (qhM 5 [] z1 i n),.str (qhL 5 [] z1 i n)]),Store.mk [[.sl z2 .non,.int .i64 (qb0 5 [] z1 i n),.int .i64 n,.bool true,.int .i64 (qb3 5 [] z1 i n)]] [] [76])) (.ite (qdj 5 [] z1 i n) (.ret (PR.val (.agg [.int .i64 2,.str [],.int .i64 (qiE 5 [] z1 i n),.int .i64 (qhO 5 [] z1 i n),.str (qi4 5 [] z1 i n)]),Store.mk [[.sl z2 .non,.int .i64 (qb4 5 [] z1 i n),.int .i64 n,.bool false,.int .i64 0]] [] [76])) .fail)) (.ite (qdf 3 [] z1 i n) (.ret (PR.val z3,Store.mk [[.sl z2 .non,.int .i64 (qb0 3 [] z1 i n),.int .i64 n,.bool true,.int .i64 (qb3 3 [] z1 i n)]] [] [76])) (.ite (qdj 3 [] z1 i n) (.ret (PR.val z3,Store.mk [[.sl z2 .non,.int .i64 (qb4 3 [] z1 i n),.int .i64 n,.bool false,.int .i64 0]] [] [76])) .fail))) .fail)) .fail)) .fail
theorem qWx:(nrmM tbT qDj qJn Tryz.f114 [.ptr 0 0] ⟨[[.sl r .non,.int .i64 i,.int .i64 n,.bool false,.int .i64 0]],[],[76]⟩).flat=qjG r i n:=by kernel_rfl
def qbV:Option (PR×Store):=(qjG r i n).run
def qim:Int:=qbg 0 (qbV r i n)
def qiv:qU:=qbo 1 (qbV r i n)
def qfR:Int:=qbg 2 (qbV r i n)
def qfP:Int:=qbg 3 (qbV r i n)
def qfw:qU:=qbo 4 (qbV r i n)
def qfu:Int:=qbC 0 1 (qbV r i n)
def qfM:Int:=qbC 0 4 (qbV r i n)
def qls:Bool:=isW (qbV r i n) ((.val (.agg [.int .i64 (qim r i n),.str (qiv r i n),.int .i64 (qfR r i n),.int .i64 (qfP r i n),.str (qfw r i n)])),⟨[[.sl r .non,.int .i64 (qfu r i n),.int .i64 n,.bool true,.int .i64 (qfM r i n)]],[],[76]⟩)
def qio:Int:=qbg 0 (qbV r i n)
def qhS:qU:=qbo 1 (qbV r i n)
def qfx:Int:=qbg 2 (qbV r i n)
def qfN:Int:=qbg 3 (qbV r i n)
def qfz:qU:=qbo 4 (qbV r i n)
def qfC:Int:=qbC 0 1 (qbV r i n)
def qle:Bool:=isW (qbV r i n) ((.val (.agg [.int .i64 (qio r i n),.str (qhS r i n),.int .i64 (qfx r i n),.int .i64 (qfN r i n),.str (qfz r i n)])),⟨[[.sl r .non,.int .i64 (qfC r i n),.int .i64 n,.bool false,.int .i64 0]],[],[76]⟩)
end
section
variable (r:qR) (i n a:Int)
def qyU:Tr (PR×Store):=let z1:=qac (qac r);let z2:=qaa (qaa z1);.ite (qaq z1 i n a 2 []) (.ite (qaA z1 i n a 2 []) (.ite (qct 2 [] z1 i n a) (.ret (PR.val (.agg [.int .i64 1,.str (qn7 2 [] z1 i n a),.int .i64 0,.int .i64 0,.str []]),Store.mk [[.sl z2 .non,.int .i64 (qcD 2 [] z1 i n a),.int .i64 n,.bool true,.int .i64 a]] [] [76])) .fail) (.ite (qaq z1 i n a 4 []) (.ite (qaA z1 i n a 4 []) (.ite (qct 4 [] z1 i n a) (.ret (PR.val (.agg [.int .i64 2,.str [],.int .i64 (qk3 4 [] z1 i n a),.int .i64 (qlN 4 [] z1 i n a),.str (qlp 4 [] z1 i n a)]),Store.mk [[.sl z2 .non,.int .i64 (qcD 4 [] z1 i n a),.int .i64 n,.bool true,.int .i64 a]] [] [76])) .fail) (.ite (qaq z1 i n a 5 []) (.ite (qaA z1 i n a 5 []) (.ite (qct 5 [] z1 i n a) (.ret (PR.val (.agg [.int .i64 2,.str [],.int .i64 (qk3 5 [] z1 i n a),.int .i64 (qlN 5 [] z1 i n a),.str (qlp 5 [] z1 i n a)]),Store.mk [[.sl z2 .non,.int .i64 (qcD 5 [] z1 i n a),.int .i64 n,.bool true,.int .i64 a]] [] [76])) .fail) (.ite (qct 3 [] z1 i n a) (.ret (PR.val (.agg [.int .i64 3,.str [],.int .i64 0,.int .i64 0,.str []]),Store.mk [[.sl z2 .non,.int .i64 (qcD 3 [] z1 i n a),.int .i64 n,.bool true,.int .i64 a]] [] [76])) .fail)) .fail)) .fail)) .fail
theorem qTv:(nrmM tbT qDj qJn Tryz.f114 [.ptr 0 0] ⟨[[.sl r .non,.int .i64 i,.int .i64 n,.bool true,.int .i64 a]],[],[76]⟩).flat=qyU r i n a:=by kernel_rfl
def qfq:Option (PR×Store):=(qyU r i n a).run
def qmP:Int:=qbg 0 (qfq r i n a)
def qn4:qU:=qbo 1 (qfq r i n a)
def qiS:Int:=qbg 2 (qfq r i n a)
def qiw:Int:=qbg 3 (qfq r i n a)
def qiZ:qU:=qbo 4 (qfq r i n a)
def qi0:Int:=qbC 0 1 (qfq r i n a)
def qiz:Bool:=isW (qfq r i n a) ((.val (.agg [.int .i64 (qmP r i n a),.str (qn4 r i n a),.int .i64 (qiS r i n a),.int .i64 (qiw r i n a),.str (qiZ r i n a)])),⟨[[.sl r .non,.int .i64 (qi0 r i n a),.int .i64 n,.bool true,.int .i64 a]],[],[76]⟩)
end
def qDJ:List PV→Store→Tr (PR×Store)|[.ptr 0 0],⟨[[.sl r .non,.int .i64 i,.int .i64 n,.bool false,.int .i64 0]],[],[76]⟩=>.ite (qls r i n) (.ret ((.val (.agg [.int .i64 (qim r i n),.str (qiv r i n),.int .i64 (qfR r i n),.int .i64 (qfP r i n),.str (qfw r i n)])),⟨[[.sl r .non,.int .i64 (qfu r i n),.int .i64 n,.bool true,.int .i64 (qfM r i n)]],[],[76]⟩)) (.ite (qle r i n) (.ret ((.val (.agg [.int .i64 (qio r i n),.str (qhS r i n),.int .i64 (qfx r i n),.int .i64 (qfN r i n),.str (qfz r i n)])),⟨[[.sl r .non,.int .i64 (qfC r i n),.int .i64 n,.bool false,.int .i64 0]],[],[76]⟩)) (.fail))|[.ptr 0 0],⟨[[.sl r .non,.int .i64 i,.int .i64 n,.bool true,.int .i64 a]],[],[76]⟩=>.ite (qiz r i n a) (.ret ((.val (.agg [.int .i64 (qmP r i n a),.str (qn4 r i n a),.int .i64 (qiS r i n a),.int .i64 (qiw r i n a),.str (qiZ r i n a)])),⟨[[.sl r .non,.int .i64 (qi0 r i n a),.int .i64 n,.bool true,.int .i64 a]],[],[76]⟩)) (.fail)|_,_=>.fail
theorem qH6 (gl:Gl):SimM Tryz.prog gl 114 fun args σ=>(qDJ args σ).run:=by
 refine SimM.of_nrm (G:=qDj) (L:=qJn) qaj (qOS gl ) qai Tryz.func114 rfl (by rfl) (by kernel_rfl) (qab (by kernel_rfl)) ?_
 intro args σ x h;unfold qDJ at h
 split at h
 ·exact (congrArg Tr.run (qWx _ _ _)).trans (qae h fun h=>qae h fun h=>by cases h)
 ·exact (congrArg Tr.run (qTv _ _ _ _)).trans (qae h fun h=>by cases h)
 ·cases h
end Go.Pv
set_option maxHeartbeats 4000000
set_option maxRecDepth 200000
set_option linter.unusedSimpArgs false
set_option linter.unusedVariables false
namespace Go.Pv
open Go Go.Proofs
def qpT:GamT:=ofL [(37,.pure qd3),(89,.may (frameT qqk)),(90,.may (frameT qpZ)),(114,.may (frameT qDJ)),(qom,.hint [(6,1,5,94)])]
theorem qHP (gl:Gl):qal Tryz.prog gl (gam qpT):=(qag (qcj gl) (qah (SimM.frameT (quK gl)) (qah (SimM.frameT (qlf gl)) (qah (SimM.frameT (qH6 gl)) (qbN (K:=.hint [(6,1,5,94)]) trivial qaf)))))
def qqx:Code:=qc2 Tryz.f52 6
def qqy:LI:=⟨44,[0,2,3],fun e=>match e with|.exit 0=>[0,2,3]|_=>[],false⟩
def qsp:LpsT:=fun r fr σ=>.fail
def qcc (vs:List PV) (σ:Store):Option (PExit×List PV×Store):=lval (lstep tbT qpT qsp qqx qqy) vs σ
section
variable (r:qR) (n n2 n3:Int) (s:qU) (r2:qR) (s2:qU) (r3:qR) (k:Nat)
def qyD:Tr LR:=let z1:=qac r;let z2:List PV:=[.str s2,.sl r3 (.tok 0)];let z3:qR:=[[.int .i64 (qmP z1 n n2 n3),.str (qn4 z1 n n2 n3),.int .i64 (qiS z1 n n2 n3),.int .i64 (qiw z1 n n2 n3),.str (qiZ z1 n n2 n3)]];let z4:=qi0 z1 n n2 n3;let z5:List PV:=[.ptr 0 0,.ptr 1 0,.ptr 2 0];let z6:List PV:=[.str s,.sl r2 .full];let z7:List PV:=[.str s2,.sl (xApp r3 z3) (.tok 0)];.ite false (.ite (qiz z1 n n2 n3) (.ite (qdY z2 z2) (.ite (qas r3 z3 56) (.ite (qap z3 5) (.ite (qan r3 5) (.ite (nEq k (nXs r3)) (.ite (qaq (qac (qaa z1)) z4 n2 n3 6 [44]) (.ite (bNot (qaA (qac (qaa z1)) z4 n2 n3 6 [44])) (.ret (.out (.exit 0) z5 (Store.mk [[.sl (qaa z1) .non,.int .i64 z4,.int .i64 n2,.bool true,.int .i64 n3],z6,z7] [(nXs (xApp r3 z3),5,94)] [76,48,48]))) (.ret (.next z5 (Store.mk [[.sl (qaa z1) .non,.int .i64 (iAdd .i64 z4 1),.int .i64 n2,.bool true,.int .i64 n3],z6,z7] [(nXs (xApp r3 z3),5,94)] [76,48,48])))) .fail) .fail) .fail) .fail) .fail) .fail) .fail) (.ret (.out (.exit 0) z5 (Store.mk [[.sl r .non,.int .i64 n,.int .i64 n2,.bool true,.int .i64 n3],z6,z2] [(k,5,94)] [76,48,48])))
theorem qUq:lstep tbT qpT qsp qqx qqy [.ptr 0 0,.ptr 1 0,.ptr 2 0] ⟨[[.sl r .non,.int .i64 n,.int .i64 n2,.bool true,.int .i64 n3],[.str s,.sl r2 .full],[.str s2,.sl r3 (.tok 0)]],[(k,5,94)],[76,48,48]⟩=qyD r n n2 n3 s r2 s2 r3 k:=by kernel_rfl
theorem qTo:qcc [.ptr 0 0,.ptr 1 0,.ptr 2 0] ⟨[[.sl r .non,.int .i64 n,.int .i64 n2,.bool true,.int .i64 n3],[.str s,.sl r2 .full],[.str s2,.sl r3 (.tok 0)]],[(k,5,94)],[76,48,48]⟩=lnext qcc (qyD r n n2 n3 s r2 s2 r3 k).run:=by unfold qcc;rw [qaC,qUq]
end
section
variable (r:qR) (n n2:Int) (s:qU) (r2:qR) (s2:qU) (r3:qR) (k:Nat)
def qiV:Tr LR:=let z1:=qac r;let z2:List PV:=[.str s2,.sl r3 (.tok 0)];let z3:qR:=[[.int .i64 (qim z1 n n2),.str (qiv z1 n n2),.int .i64 (qfR z1 n n2),.int .i64 (qfP z1 n n2),.str (qfw z1 n n2)]];let z4:=qaa z1;let z5:=qfu z1 n n2;let z6:=qfM z1 n n2;let z7:List PV:=[.ptr 0 0,.ptr 1 0,.ptr 2 0];let z8:List PV:=[.str s,.sl r2 .full];let z9:List PV:=[.str s2,.sl (xApp r3 z3) (.tok 0)];let z10:qR:=[[.int .i64 (qio z1 n n2),.str (qhS z1 n n2),.int .i64 (qfx z1 n n2),.int .i64 (qfN z1 n n2),.str (qfz z1 n n2)]];let z11:=qfC z1 n n2;let z12:List PV:=[.str s2,.sl (xApp r3 z10) (.tok 0)];.ite true (.ite (qls z1 n n2) (.ite (qdY z2 z2) (.ite (qas r3 z3 56) (.ite (qap z3 5) (.ite (qan r3 5) (.ite (nEq k (nXs r3)) (.ite (qaq (qac z4) z5 n2 z6 6 [44]) (.ite (bNot (qaA (qac z4) z5 n2 z6 6 [44])) (.ret (.out (.exit 0) z7 (Store.mk [[.sl z4 .non,.int .i64 z5,.int .i64 n2,.bool true,.int .i64 z6],z8,z9] [(nXs (xApp r3 z3),5,94)] [76,48,48]))) (.ret (.next z7 (Store.mk [[.sl z4 .non,.int .i64 (iAdd .i64 z5 1),.int .i64 n2,.bool true,.int .i64 z6],z8,z9] [(nXs (xApp r3 z3),5,94)] [76,48,48])))) .fail) .fail) .fail) .fail) .fail) .fail) (.ite (qle z1 n n2) (.ite (qdY z2 z2) (.ite (qas r3 z10 56) (.ite (qap z10 5) (.ite (qan r3 5) (.ite (nEq k (nXs r3)) (.ite (qaL (qac z4) z11 n2 6 [44]) (.ite (bNot (qbj (qac z4) z11 n2 6 [44])) (.ret (.out (.exit 0) z7 (Store.mk [[.sl z4 .non,.int .i64 z11,.int .i64 n2,.bool false,.int .i64 0],z8,z12] [(nXs (xApp r3 z10),5,94)] [76,48,48]))) (.ret (.next z7 (Store.mk [[.sl z4 .non,.int .i64 (iAdd .i64 z11 1),.int .i64 n2,.bool false,.int .i64 0],z8,z12] [(nXs (xApp r3 z10),5,94)] [76,48,48])))) .fail) .fail) .fail) .fail) .fail) .fail) .fail)) (.ret (.out (.exit 0) z7 (Store.mk [[.sl r .non,.int .i64 n,.int .i64 n2,.bool false,.int .i64 0],z8,z2] [(k,5,94)] [76,48,48])))
theorem qQC:lstep tbT qpT qsp qqx qqy [.ptr 0 0,.ptr 1 0,.ptr 2 0] ⟨[[.sl r .non,.int .i64 n,.int .i64 n2,.bool false,.int .i64 0],[.str s,.sl r2 .full],[.str s2,.sl r3 (.tok 0)]],[(k,5,94)],[76,48,48]⟩=qiV r n n2 s r2 s2 r3 k:=by kernel_rfl
theorem qy1:qcc [.ptr 0 0,.ptr 1 0,.ptr 2 0] ⟨[[.sl r .non,.int .i64 n,.int .i64 n2,.bool false,.int .i64 0],[.str s,.sl r2 .full],[.str s2,.sl r3 (.tok 0)]],[(k,5,94)],[76,48,48]⟩=lnext qcc (qiV r n n2 s r2 s2 r3 k).run:=by unfold qcc;rw [qaC,qQC]
end
section
variable (r:qR) (n n2 n3:Int) (s:qU) (r2:qR) (s2:qU) (r3:qR) (k:Nat)
def qkk:Option (PExit×List PV×Store):=qcc [.ptr 0 0,.ptr 1 0,.ptr 2 0] ⟨[[.sl r .non,.int .i64 n,.int .i64 n2,.bool true,.int .i64 n3],[.str s,.sl r2 .full],[.str s2,.sl r3 (.tok 0)]],[(k,5,94)],[76,48,48]⟩
def qnh:Int:=qbu 0 1 (qkk r n n2 n3 s r2 s2 r3 k)
def qh6:qR:=qaO 2 1 (qkk r n n2 n3 s r2 s2 r3 k)
def qEX:Nat:=(gTok (qkk r n n2 n3 s r2 s2 r3 k) 0)
def qiq:Bool:=isW (qkk r n n2 n3 s r2 s2 r3 k) ((.exit 0),[.ptr 0 0,.ptr 1 0,.ptr 2 0],⟨[[.sl r .non,.int .i64 (qnh r n n2 n3 s r2 s2 r3 k),.int .i64 n2,.bool true,.int .i64 n3],[.str s,.sl r2 .full],[.str s2,.sl (qh6 r n n2 n3 s r2 s2 r3 k) (.tok 0)]],[((qEX r n n2 n3 s r2 s2 r3 k),5,94)],[76,48,48]⟩)
end
section
variable (r:qR) (n n2:Int) (s:qU) (r2:qR) (s2:qU) (r3:qR) (k:Nat)
def qci:Option (PExit×List PV×Store):=qcc [.ptr 0 0,.ptr 1 0,.ptr 2 0] ⟨[[.sl r .non,.int .i64 n,.int .i64 n2,.bool false,.int .i64 0],[.str s,.sl r2 .full],[.str s2,.sl r3 (.tok 0)]],[(k,5,94)],[76,48,48]⟩
def qke:Int:=qbu 0 1 (qci r n n2 s r2 s2 r3 k)
def qhn:Int:=qbu 0 4 (qci r n n2 s r2 s2 r3 k)
def qg0:qR:=qaO 2 1 (qci r n n2 s r2 s2 r3 k)
def qoT:Nat:=(gTok (qci r n n2 s r2 s2 r3 k) 0)
def qpa:Bool:=isW (qci r n n2 s r2 s2 r3 k) ((.exit 0),[.ptr 0 0,.ptr 1 0,.ptr 2 0],⟨[[.sl r .non,.int .i64 (qke r n n2 s r2 s2 r3 k),.int .i64 n2,.bool true,.int .i64 (qhn r n n2 s r2 s2 r3 k)],[.str s,.sl r2 .full],[.str s2,.sl (qg0 r n n2 s r2 s2 r3 k) (.tok 0)]],[((qoT r n n2 s r2 s2 r3 k),5,94)],[76,48,48]⟩)
def qjD:Int:=qbu 0 1 (qci r n n2 s r2 s2 r3 k)
def qg4:qR:=qaO 2 1 (qci r n n2 s r2 s2 r3 k)
def qpf:Nat:=(gTok (qci r n n2 s r2 s2 r3 k) 0)
def qpd:Bool:=isW (qci r n n2 s r2 s2 r3 k) ((.exit 0),[.ptr 0 0,.ptr 1 0,.ptr 2 0],⟨[[.sl r .non,.int .i64 (qjD r n n2 s r2 s2 r3 k),.int .i64 n2,.bool false,.int .i64 0],[.str s,.sl r2 .full],[.str s2,.sl (qg4 r n n2 s r2 s2 r3 k) (.tok 0)]],[((qpf r n n2 s r2 s2 r3 k),5,94)],[76,48,48]⟩)
end
def qjx:List PV→Store→Tr (PExit×List PV×Store)|[.ptr 0 0,.ptr 1 0,.ptr 2 0],⟨[[.sl r .non,.int .i64 n,.int .i64 n2,.bool true,.int .i64 n3],[.str s,.sl r2 .full],[.str s2,.sl r3 (.tok 0)]],[(k,5,94)],[76,48,48]⟩=>.ite (qiq r n n2 n3 s r2 s2 r3 k) (.ret ((.exit 0),[.ptr 0 0,.ptr 1 0,.ptr 2 0],⟨[[.sl r .non,.int .i64 (qnh r n n2 n3 s r2 s2 r3 k),.int .i64 n2,.bool true,.int .i64 n3],[.str s,.sl r2 .full],[.str s2,.sl (qh6 r n n2 n3 s r2 s2 r3 k) (.tok 0)]],[((qEX r n n2 n3 s r2 s2 r3 k),5,94)],[76,48,48]⟩)) (.fail)|[.ptr 0 0,.ptr 1 0,.ptr 2 0],⟨[[.sl r .non,.int .i64 n,.int .i64 n2,.bool false,.int .i64 0],[.str s,.sl r2 .full],[.str s2,.sl r3 (.tok 0)]],[(k,5,94)],[76,48,48]⟩=>.ite (qpa r n n2 s r2 s2 r3 k) (.ret ((.exit 0),[.ptr 0 0,.ptr 1 0,.ptr 2 0],⟨[[.sl r .non,.int .i64 (qke r n n2 s r2 s2 r3 k),.int .i64 n2,.bool true,.int .i64 (qhn r n n2 s r2 s2 r3 k)],[.str s,.sl r2 .full],[.str s2,.sl (qg0 r n n2 s r2 s2 r3 k) (.tok 0)]],[((qoT r n n2 s r2 s2 r3 k),5,94)],[76,48,48]⟩)) (.ite (qpd r n n2 s r2 s2 r3 k) (.ret ((.exit 0),[.ptr 0 0,.ptr 1 0,.ptr 2 0],⟨[[.sl r .non,.int .i64 (qjD r n n2 s r2 s2 r3 k),.int .i64 n2,.bool false,.int .i64 0],[.str s,.sl r2 .full],[.str s2,.sl (qg4 r n n2 s r2 s2 r3 k) (.tok 0)]],[((qpf r n n2 s r2 s2 r3 k),5,94)],[76,48,48]⟩)) (.fail))|_,_=>.fail
theorem qR4:∀ vs σ r,(qjx vs σ).run=some r→qcc vs σ=some r:=by
 intro vs σ r h;unfold qjx at h
 split at h
 ·exact qae h fun h=>by cases h
 ·exact qae h fun h=>qae h fun h=>by cases h
 ·cases h
theorem qJA (gl:Gl):∀ fr σ e fr' σ',(orc qqy qjx fr σ).run=some (e,fr',σ')→LDoes Tryz.prog gl qqx fr σ e fr' σ':=qbw qaj (qHP gl ) qai (L:=qsp) (qab (by kernel_rfl)) (by kernel_rfl) qR4
def qDb:LpsT:=fun r fr σ=>bif Nat.beq r 6 then orc qqy qjx fr σ else .fail
section
variable (r:qR) (i n:Int)
def qhk:Tr (PR×Store):=let z1:=qac (qac r);let z2:=qac (qaa z1);let z3:=qd9 z1 i n;let z4:=qaa z2;let z5:=qac z4;let z6:=qaD [40] z2 (qcS z1 i n) n z3;let z7:=qfG z1 i n;let z8:=qnh z4 z6 n z3 [] [] z7 [] 0;let z9:=qaa (qaa z5);let z10:=qfE z1 i n;let z11:=qbr [40] z2 z10 n;let z12:=qbi [40] z2 z10 n;let z13:=qfF z1 i n;let z14:PV:=.agg [.str z13,.sl [] .non];let z15:=qnh z4 z11 n z12 [] [] z13 [] 0;let z16:=qbB [40] z2 z10 n;let z17:=qke z4 z16 n [] [] z13 [] 0;let z18:=qhn z4 z16 n [] [] z13 [] 0;let z19:=qjD z4 z16 n [] [] z13 [] 0;let z20:PV:=.agg [.str z13,.sl (qaa (qg4 z4 z16 n [] [] z13 [] 0)) .non];.ite (qhX z1 i n) (.ite (qat [40] z2 (qcS z1 i n) n z3) (.ite (qaq z5 z6 n z3 6 [41]) (.ite (qaA z5 z6 n z3 6 [41]) (.ret (PR.val (.agg [.str z7,.sl [] .non]),Store.mk [[.sl (qaa z4) .non,.int .i64 (iAdd .i64 z6 1),.int .i64 n,.bool true,.int .i64 z3]] [] [76])) (.ite (qiq z4 z6 n z3 [] [] z7 [] 0) (.ite (qat [41] z5 z8 n z3) (.ret (PR.val (.agg [.str z7,.sl (qaa (qh6 z4 z6 n z3 [] [] z7 [] 0)) .non]),Store.mk [[.sl z9 .non,.int .i64 (qaD [41] z5 z8 n z3),.int .i64 n,.bool true,.int .i64 z3]] [] [76])) .fail) .fail)) .fail) .fail) (.ite (qiK z1 i n) (.ite (qbR [40] z2 z10 n) (.ite (qaq z5 z11 n z12 6 [41]) (.ite (qaA z5 z11 n z12 6 [41]) (.ret (PR.val z14,Store.mk [[.sl (qaa z4) .non,.int .i64 (iAdd .i64 z11 1),.int .i64 n,.bool true,.int .i64 z12]] [] [76])) (.ite (qiq z4 z11 n z12 [] [] z13 [] 0) (.ite (qat [41] z5 z15 n z12) (.ret (PR.val (.agg [.str z13,.sl (qaa (qh6 z4 z11 n z12 [] [] z13 [] 0)) .non]),Store.mk [[.sl z9 .non,.int .i64 (qaD [41] z5 z15 n z12),.int .i64 n,.bool true,.int .i64 z12]] [] [76])) .fail) .fail)) .fail) (.ite (qbM [40] z2 z10 n) (.ite (qaL z5 z16 n 6 [41]) (.ite (qbj z5 z16 n 6 [41]) (.ret (PR.val z14,Store.mk [[.sl (qaa z4) .non,.int .i64 (iAdd .i64 z16 1),.int .i64 n,.bool false,.int .i64 0]] [] [76])) (.ite (qpa z4 z16 n [] [] z13 [] 0) (.ite (qat [41] z5 z17 n z18) (.ret (PR.val (.agg [.str z13,.sl (qaa (qg0 z4 z16 n [] [] z13 [] 0)) .non]),Store.mk [[.sl z9 .non,.int .i64 (qaD [41] z5 z17 n z18),.int .i64 n,.bool true,.int .i64 z18]] [] [76])) .fail) (.ite (qpd z4 z16 n [] [] z13 [] 0) (.ite (qbR [41] z5 z19 n) (.ret (PR.val z20,Store.mk [[.sl z9 .non,.int .i64 (qbr [41] z5 z19 n),.int .i64 n,.bool true,.int .i64 (qbi [41] z5 z19 n)]] [] [76])) (.ite (qbM [41] z5 z19 n) (.ret (PR.val z20,Store.mk [[.sl z9 .non,.int .i64 (qbB [41] z5 z19 n),.int .i64 n,.bool false,.int .i64 0]] [] [76])) .fail)) .fail))) .fail) .fail)) .fail)
theorem qXD:(nrmM tbT qpT qDb Tryz.f52 [.ptr 0 0] ⟨[[.sl r .non,.int .i64 i,.int .i64 n,.bool false,.int .i64 0]],[],[76]⟩).flat=qhk r i n:=by kernel_rfl
def qc3:Option (PR×Store):=(qhk r i n).run
def qe5:qU:=qbo 0 (qc3 r i n)
def qe6:qR:=qcX 1 (qc3 r i n)
def qeQ:Int:=qbC 0 1 (qc3 r i n)
def qdA:Int:=qbC 0 4 (qc3 r i n)
def qgi:Bool:=isW (qc3 r i n) ((.val (.agg [.str (qe5 r i n),.sl (qe6 r i n) .non])),⟨[[.sl r .non,.int .i64 (qeQ r i n),.int .i64 n,.bool true,.int .i64 (qdA r i n)]],[],[76]⟩)
def qeN:qU:=qbo 0 (qc3 r i n)
def qe0:qR:=qcX 1 (qc3 r i n)
def qeZ:Int:=qbC 0 1 (qc3 r i n)
def qgB:Bool:=isW (qc3 r i n) ((.val (.agg [.str (qeN r i n),.sl (qe0 r i n) .non])),⟨[[.sl r .non,.int .i64 (qeZ r i n),.int .i64 n,.bool false,.int .i64 0]],[],[76]⟩)
end
section
variable (r:qR) (i n a:Int)
def qyB:Tr (PR×Store):=let z1:=qac (qac r);let z2:=qac (qaa z1);let z3:=qaa z2;let z4:=qac z3;let z5:=qaD [40] z2 (qlu z1 i n a) n a;let z6:=qp8 z1 i n a;let z7:=qnh z3 z5 n a [] [] z6 [] 0;.ite (qpU z1 i n a) (.ite (qat [40] z2 (qlu z1 i n a) n a) (.ite (qaq z4 z5 n a 6 [41]) (.ite (qaA z4 z5 n a 6 [41]) (.ret (PR.val (.agg [.str z6,.sl [] .non]),Store.mk [[.sl (qaa z3) .non,.int .i64 (iAdd .i64 z5 1),.int .i64 n,.bool true,.int .i64 a]] [] [76])) (.ite (qiq z3 z5 n a [] [] z6 [] 0) (.ite (qat [41] z4 z7 n a) (.ret (PR.val (.agg [.str z6,.sl (qaa (qh6 z3 z5 n a [] [] z6 [] 0)) .non]),Store.mk [[.sl (qaa (qaa z4)) .non,.int .i64 (qaD [41] z4 z7 n a),.int .i64 n,.bool true,.int .i64 a]] [] [76])) .fail) .fail)) .fail) .fail) .fail
theorem qTK:(nrmM tbT qpT qDb Tryz.f52 [.ptr 0 0] ⟨[[.sl r .non,.int .i64 i,.int .i64 n,.bool true,.int .i64 a]],[],[76]⟩).flat=qyB r i n a:=by kernel_rfl
def qmh:Option (PR×Store):=(qyB r i n a).run
def qwh:qU:=qbo 0 (qmh r i n a)
def qx4:qR:=qcX 1 (qmh r i n a)
def qvN:Int:=qbC 0 1 (qmh r i n a)
def quf:Bool:=isW (qmh r i n a) ((.val (.agg [.str (qwh r i n a),.sl (qx4 r i n a) .non])),⟨[[.sl r .non,.int .i64 (qvN r i n a),.int .i64 n,.bool true,.int .i64 a]],[],[76]⟩)
end
def qzc:List PV→Store→Tr (PR×Store)|[.ptr 0 0],⟨[[.sl r .non,.int .i64 i,.int .i64 n,.bool false,.int .i64 0]],[],[76]⟩=>.ite (qgi r i n) (.ret ((.val (.agg [.str (qe5 r i n),.sl (qe6 r i n) .non])),⟨[[.sl r .non,.int .i64 (qeQ r i n),.int .i64 n,.bool true,.int .i64 (qdA r i n)]],[],[76]⟩)) (.ite (qgB r i n) (.ret ((.val (.agg [.str (qeN r i n),.sl (qe0 r i n) .non])),⟨[[.sl r .non,.int .i64 (qeZ r i n),.int .i64 n,.bool false,.int .i64 0]],[],[76]⟩)) (.fail))|[.ptr 0 0],⟨[[.sl r .non,.int .i64 i,.int .i64 n,.bool true,.int .i64 a]],[],[76]⟩=>.ite (quf r i n a) (.ret ((.val (.agg [.str (qwh r i n a),.sl (qx4 r i n a) .non])),⟨[[.sl r .non,.int .i64 (qvN r i n a),.int .i64 n,.bool true,.int .i64 a]],[],[76]⟩)) (.fail)|_,_=>.fail
theorem qyr (gl:Gl):SimM Tryz.prog gl 52 fun args σ=>(qzc args σ).run:=by
 refine SimM.of_nrm (G:=qpT) (L:=qDb) qaj (qHP gl ) qai Tryz.func52 rfl (by rfl) (by kernel_rfl) (qav (L:=lps qDb) [(6,qqx)] (by kernel_rfl) (List.forall_mem_cons.2 ⟨fun fr σ e fr' σ' h=>qJA gl  fr σ e fr' σ' h,(List.forall_mem_nil _)⟩)) ?_
 intro args σ x h;unfold qzc at h
 split at h
 ·exact (congrArg Tr.run (qXD _ _ _)).trans (qae h fun h=>qae h fun h=>by cases h)
 ·exact (congrArg Tr.run (qTK _ _ _ _)).trans (qae h fun h=>by cases h)
 ·cases h
end Go.Pv
