/- Part 4 of the proof: pure values for the machine's values, what functions compute over them, and laws of what is computed. Conditions: none beyond each theorem's own premises. -/
import Derived.Test.YtlemepahgalogaaGreatDoorPvGc3
noncomputable section
set_option maxHeartbeats 4000000
set_option maxRecDepth 200000
set_option linter.unusedSimpArgs false
set_option linter.unusedVariables false
namespace Go.Pv
open Go Go.Proofs Go.RowKit
def numN:qU→Nat→Option Nat
 |[],a=>some a
 |c::l,a=>if 48≤c.toNat∧c.toNat≤57 then numN l (a * 10+(c.toNat - 48)) else none
def qoy (s:qU):Bool:=(numN s 0).isSome
def numV (s:qU):Int:=(((numN s 0).getD 0:Nat):Int)
theorem qNV:∀ (l:qU) (a k x:Nat),numN l a=some x→a < 10 ^ k→x < 10 ^ (k+l.length)
 |[],a,k,x,h,ha=>by simp [numN] at h;subst h;simpa using ha
 |c::l,a,k,x,h,ha=>by
  unfold numN at h
  split at h
  ·have:=qNV l _ (k+1) x h (by rw [Nat.pow_succ];omega)
   simp only [List.length_cons];have e:k+(l.length+1)=k+1+l.length:=by omega
   rw [e];exact this
  ·cases h
def qFC:List PV→Store→Option (List UInt8×Bool×Int×Int×Store)
 |[.str s,.bool m,.int .u64 n,.int .i64 i],σ=>some (s,m,n,i,σ)
 |_,_=>none
def qOg:qU×Bool×Int×Int×Store→Tr (PExit×List (Nat×PV)×Store)
 |(s,m,n,i,σ)=>Tr.chk (iEq n 0) (Tr.chk (iEq i 0) (Tr.chk (iLe (sLen s) 19) (.ite (qoy s) (.ret (.exit 0,[(4,.bool m),(5,.int .u64 (numV s))],σ)) (.ret (.ret,[(2,.int .i64 0),(3,.bool false)],σ)))))
def qNS:LpsT:=fun r fr σ=>if r=8 then oracle 75 [0,4,5,6] qFC qOg fr σ else .fail
def qF3:Code:=qLg Tryz.f164 0
theorem qKb (gl : Gl) : ∀ vs σ a e out σ', qFC vs σ = some a → (qOg a).run = some (e, out, σ') → LDoes Tryz.prog gl qF3 (mk 75 ([0, 4, 5, 6].zip vs)) σ e (mk 75 out) σ' := by
  intro vs st a e out σ' hd hr
  unfold qFC at hd
  split at hd
  · rename_i s m n i
    injection hd with hd
    subst hd
    obtain ⟨h1, q1⟩ := Tr.chk_some hr
    obtain ⟨h2, q2⟩ := Tr.chk_some q1
    obtain ⟨h3, q3⟩ := Tr.chk_some q2
    clear hr q1 q2
    simp at h1 h2 h3
    subst h1 h2
    have key : ∀ (k : Nat) (i : Int) (n : Nat), 0 ≤ i → i + k = s.length → n < 10 ^ i.toNat → numN (s.drop i.toNat) n = numN s 0 →
       LDoes Tryz.prog gl qF3 (mk 75 ([0, 4, 5, 6].zip [.str s, .bool m, .int .u64 (n : Int), .int .i64 i])) st e (mk 75 out) σ' := by
      intro k
      induction k with
      | zero =>
        intro i n h0 hi hn hf
        have e1 : s.drop i.toNat = [] := by apply List.drop_eq_nil_of_le; omega
        rw [e1] at hf
        simp [numN] at hf
        simp [qoy, numV, ← hf] at q3
        obtain ⟨rfl, rfl, rfl⟩ := q3
        refine LDoes.round qaj (G := ofL []) qaf qai (L := fun _ _ _ => .fail) (qac (by kernel_rfl)) (by kernel_rfl) ?_
        refine Tr.all_as (.ite (iLt i (sLen s)) (.ite (qaz s i) (.ite (iLt (sAt s i) 48) (.ret (.ret,[3,2,39,34,27],[.str s,.top,.int .i64 0,.bool false,.bool m,.int .u64 (Int.ofNat n),.int .i64 i,.top,.top,.top,.top,.top,.top,.top,.top,.top,.top,.top,.top,.top,.top,.top,.top,.top,.int .i64 i,.str s,.int .i64 (sLen s),.bool true,.top,.top,.str s,.int .i64 i,.int .u8 (sAt s i),.bool (iLt (sAt s i) 48),.bool true,.tup [],.tup [],.tup [],.tup [],.bool true,.top,.top,.top,.top,.top,.top,.top,.top,.top,.top,.top,.top,.top,.top,.top,.top,.top,.top,.top,.top,.top,.top,.top,.top,.top,.top,.top,.top,.top,.top,.top,.top,.top,.top,.top],st)) (.ite (qaz s i) (.ite (iLt 57 (sAt s i)) (.ret (.ret,[3,2,39,34,27],[.str s,.top,.int .i64 0,.bool false,.bool m,.int .u64 (Int.ofNat n),.int .i64 i,.top,.top,.top,.top,.top,.top,.top,.top,.top,.top,.top,.top,.top,.top,.top,.top,.top,.int .i64 i,.str s,.int .i64 (sLen s),.bool true,.top,.top,.str s,.int .i64 i,.int .u8 (sAt s i),.bool (iLt (sAt s i) 48),.bool false,.str s,.int .i64 i,.int .u8 (sAt s i),.bool (iLt 57 (sAt s i)),.bool true,.top,.top,.top,.top,.top,.top,.top,.top,.top,.top,.top,.top,.top,.top,.top,.top,.top,.top,.top,.top,.top,.top,.top,.top,.top,.top,.top,.top,.top,.top,.top,.top,.top,.top,.top],st)) (.ite (qaz s i) (.ret (.normal,[39,34,27],[.str s,.top,.top,.top,.bool m,.int .u64 (iAdd .u64 (iMul .u64 (Int.ofNat n) 10) (qas .u64 (iSub .u8 (sAt s i) 48))),.int .i64 (iAdd .i64 i
          1),.top,.top,.top,.top,.top,.top,.top,.top,.top,.top,.top,.top,.top,.top,.top,.top,.top,.int .i64 i,.str s,.int .i64 (sLen s),.bool true,.int .i64 i,.int .i64 (iAdd .i64 i 1),.str s,.int .i64 i,.int .u8 (sAt s i),.bool (iLt (sAt s i) 48),.bool false,.str s,.int .i64 i,.int .u8 (sAt s i),.bool (iLt 57 (sAt s i)),.bool false,.int .u64 (Int.ofNat n),.int .u64 (iMul .u64 (Int.ofNat n) 10),.str s,.int .i64 i,.int .u8 (sAt s i),.int .u8 (iSub .u8 (sAt s i) 48),.int .u64 (qas .u64 (iSub .u8 (sAt s i) 48)),.int .u64 (iAdd .u64 (iMul .u64 (Int.ofNat n) 10) (qas .u64 (iSub .u8 (sAt s i) 48))),.top,.top,.top,.top,.top,.top,.top,.top,.top,.top,.top,.top,.top,.top,.top,.top,.top,.top,.top,.top,.top,.top,.top,.top,.top,.top,.top],st)) .fail)) .fail)) .fail) (.ret (.exit 0,[27],[.str s,.top,.top,.top,.bool m,.int .u64 (Int.ofNat n),.int .i64 i,.top,.top,.top,.top,.top,.top,.top,.top,.top,.top,.top,.top,.top,.top,.top,.top,.top,.int .i64 i,.str s,.int .i64 (sLen s),.bool false,.top,.top,.top,.top,.top,.top,.top,.top,.top,.top,.top,.top,.top,.top,.top,.top,.top,.top,.top,.top,.top,.top,.top,.top,.top,.top,.top,.top,.top,.top,.top,.top,.top,.top,.top,.top,.top,.top,.top,.top,.top,.top,.top,.top,.top,.top,.top],st))) (by kernel_rfl) ?_
        exact Tr.all_f (by simp; omega) ⟨rfl, by simp [Weak, mk, qbN, look], rfl⟩
      | succ k ih =>
        intro i n h0 hi hn hf
        obtain ⟨v, hv⟩ := qeK (l := s) (i := i.toNat) (by omega)
        rw [qaR hv, numN] at hf
        have hv8 := v.toNat_lt
        have e2 : (i + 1).toNat = i.toNat + 1 := by omega
        have hpow : 10 ^ (i.toNat + 1) ≤ 10 ^ 19 := Nat.pow_le_pow_right (by omega) (by omega)
        rw [Nat.pow_succ] at hpow
        refine LDoes.round qaj (G := ofL []) qaf qai (L := fun _ _ _ => .fail) (qac (by kernel_rfl)) (by kernel_rfl) ?_
        refine Tr.all_as (.ite (iLt i (sLen s)) (.ite (qaz s i) (.ite (iLt (sAt s i) 48) (.ret (.ret,[3,2,39,34,27],[.str s,.top,.int .i64 0,.bool false,.bool m,.int .u64 (Int.ofNat n),.int .i64 i,.top,.top,.top,.top,.top,.top,.top,.top,.top,.top,.top,.top,.top,.top,.top,.top,.top,.int .i64 i,.str s,.int .i64 (sLen s),.bool true,.top,.top,.str s,.int .i64 i,.int .u8 (sAt s i),.bool (iLt (sAt s i) 48),.bool true,.tup [],.tup [],.tup [],.tup [],.bool true,.top,.top,.top,.top,.top,.top,.top,.top,.top,.top,.top,.top,.top,.top,.top,.top,.top,.top,.top,.top,.top,.top,.top,.top,.top,.top,.top,.top,.top,.top,.top,.top,.top,.top,.top],st)) (.ite (qaz s i) (.ite (iLt 57 (sAt s i)) (.ret (.ret,[3,2,39,34,27],[.str s,.top,.int .i64 0,.bool false,.bool m,.int .u64 (Int.ofNat n),.int .i64 i,.top,.top,.top,.top,.top,.top,.top,.top,.top,.top,.top,.top,.top,.top,.top,.top,.top,.int .i64 i,.str s,.int .i64 (sLen s),.bool true,.top,.top,.str s,.int .i64 i,.int .u8 (sAt s i),.bool (iLt (sAt s i) 48),.bool false,.str s,.int .i64 i,.int .u8 (sAt s i),.bool (iLt 57 (sAt s i)),.bool true,.top,.top,.top,.top,.top,.top,.top,.top,.top,.top,.top,.top,.top,.top,.top,.top,.top,.top,.top,.top,.top,.top,.top,.top,.top,.top,.top,.top,.top,.top,.top,.top,.top,.top,.top],st)) (.ite (qaz s i) (.ret (.normal,[39,34,27],[.str s,.top,.top,.top,.bool m,.int .u64 (iAdd .u64 (iMul .u64 (Int.ofNat n) 10) (qas .u64 (iSub .u8 (sAt s i) 48))),.int .i64 (iAdd .i64 i
          1),.top,.top,.top,.top,.top,.top,.top,.top,.top,.top,.top,.top,.top,.top,.top,.top,.top,.int .i64 i,.str s,.int .i64 (sLen s),.bool true,.int .i64 i,.int .i64 (iAdd .i64 i 1),.str s,.int .i64 i,.int .u8 (sAt s i),.bool (iLt (sAt s i) 48),.bool false,.str s,.int .i64 i,.int .u8 (sAt s i),.bool (iLt 57 (sAt s i)),.bool false,.int .u64 (Int.ofNat n),.int .u64 (iMul .u64 (Int.ofNat n) 10),.str s,.int .i64 i,.int .u8 (sAt s i),.int .u8 (iSub .u8 (sAt s i) 48),.int .u64 (qas .u64 (iSub .u8 (sAt s i) 48)),.int .u64 (iAdd .u64 (iMul .u64 (Int.ofNat n) 10) (qas .u64 (iSub .u8 (sAt s i) 48))),.top,.top,.top,.top,.top,.top,.top,.top,.top,.top,.top,.top,.top,.top,.top,.top,.top,.top,.top,.top,.top,.top,.top,.top,.top,.top,.top],st)) .fail)) .fail)) .fail) (.ret (.exit 0,[27],[.str s,.top,.top,.top,.bool m,.int .u64 (Int.ofNat n),.int .i64 i,.top,.top,.top,.top,.top,.top,.top,.top,.top,.top,.top,.top,.top,.top,.top,.top,.top,.int .i64 i,.str s,.int .i64 (sLen s),.bool false,.top,.top,.top,.top,.top,.top,.top,.top,.top,.top,.top,.top,.top,.top,.top,.top,.top,.top,.top,.top,.top,.top,.top,.top,.top,.top,.top,.top,.top,.top,.top,.top,.top,.top,.top,.top,.top,.top,.top,.top,.top,.top,.top,.top,.top,.top,.top],st))) (by kernel_rfl) ?_
        rw [qfy hv]
        have hi1 := qdt h0 hv
        refine Tr.all_t (by simp; omega) <| Tr.all_t hi1 ?_
        by_cases hc : 48 ≤ v.toNat ∧ v.toNat ≤ 57
        · rw [if_pos hc] at hf
          have w1 : iSub .u8 (v.toNat : Int) 48 = v.toNat - 48 := by unfold iSub; rw [qzF (by omega)]
          have w2 : qas .u64 (v.toNat - 48 : Int) = v.toNat - 48 := qee (by omega)
          have w3 : iMul .u64 (Int.ofNat n) 10 = n * 10 := by unfold iMul; rw [qee (by simp; omega)]; rfl
          have w4 : iAdd .u64 (n * 10 : Int) (v.toNat - 48) = n * 10 + (v.toNat - 48) := by unfold iAdd; rw [qee (by omega)]
          have w5 : iAdd .i64 i 1 = i + 1 := qaI (by omega)
          have w6 : ((n * 10 + (v.toNat - 48) : Nat) : Int) = (n : Int) * 10 + (v.toNat - 48) := by omega
          refine Tr.all_f (by simp; omega) <| Tr.all_t hi1 <| Tr.all_f (by simp; omega) <| Tr.all_t hi1 ?_
          rw [w1, w2, w3, w4, w5]
          refine LDoes.into ?_ (ih (i + 1) (n * 10 + (v.toNat - 48)) (by omega) (by omega) (by rw [e2, Nat.pow_succ]; omega) (by rw [e2]; exact hf))
          rw [w6]
          simp [Weak, mk, qbN, look]
        · rw [if_neg hc] at hf
          simp [qoy, numV, ← hf] at q3
          obtain ⟨rfl, rfl, rfl⟩ := q3
          by_cases hc1 : v.toNat < 48
          · exact Tr.all_t (by simp; omega) ⟨rfl, by simp [Weak, mk, qbN, look], rfl⟩
          · refine Tr.all_f (by simp; omega) <| Tr.all_t hi1 <| Tr.all_t (by simp; omega) ⟨rfl, by simp [Weak, mk, qbN, look], rfl⟩
    exact key s.length 0 0 (by omega) (by omega) (by simp) (by simp)
  · cases hd
def whoN (m:Bool) (t:qU):Option Int :=
 if t=[]∨19 < t.length then none
 else match numN t 0 with
  |none=>none
  |some n=>if (m=true∧9223372036854775808 < n)∨(m=false∧9223372036854775807 < n) then none else some (if m then -(n:Int) else n)
def whoO (s:qU):Option Int:=if s.head?=some 45 then whoN true (s.drop 1) else whoN false s
def qiL (s:qU):Bool:=(whoO s).isSome
def whoV (s:qU):Int:=(whoO s).getD 0
def qFb:List PV→Tr PV
 |[.str s]=>Tr.chk (qm8 s) (.ret (.tup [.int .i64 (whoV s),.bool (qiL s)]))
 |_=>.fail
theorem qNG (gl:Gl):SimP Tryz.prog gl 164 fun args=>(qFb args).run:=by
 refine SimP.of_tree (G:=ofL []) (L:=qNS) qaj qaf qai Tryz.func164 rfl (by rfl) (by kernel_rfl) (qh3 (r:=8) (c1:=qF3) (by kernel_rfl) ?_) ?_
 ·intro fr σ e fr' σ' hh;simp only [lps,qNS,if_true] at hh;exact qkB (qKb gl) fr σ e fr' σ' hh
 intro args x h hr;unfold qFb at h
 split at h
 ·rename_i s;obtain⟨h1,h2⟩:=Tr.chk_some h;simp at h1;cases h2
  refine Tr.run_as (.ite (sNe s []) (.ite (qaz s 0) (.ite (iEq (sAt s 0) 45) (.ite (qbc (qay 1) true (nNat 1) (nLen s) (nLen s)) (.ite (sEq (sSub s (nNat 1) (nLen s)) []) (.ret (.tup [.int .i64 0,.bool false])) (.ite (iLt 19 (sLen (sSub s (nNat 1) (nLen s)))) (.ret (.tup [.int .i64 0,.bool false])) (.ite (iEq 0 0) (.ite (iEq 0 0) (.ite (iLe (sLen (sSub s (nNat 1) (nLen s))) 19) (.ite (qoy (sSub s (nNat 1) (nLen s))) (.ite (iEq (sAt s 0) 45) (.ite (iLt 9223372036854775808 (numV (sSub s (nNat 1) (nLen s)))) (.ret (.tup [.int .i64 0,.bool false])) (.ite (bNot (iEq (sAt s 0) 45)) (.ite (iLt 9223372036854775807 (numV (sSub s (nNat 1) (nLen s)))) (.ret (.tup [.int .i64 0,.bool false])) (.ite (iEq (sAt s 0) 45) (.ite (iLt 0 (numV (sSub s (nNat 1) (nLen s)))) (.ret (.tup [.int .i64 (iSub .i64 (iSub .i64 0 (qas .i64 (iSub .u64 (numV (sSub s (nNat 1) (nLen s))) 1))) 1),.bool true])) (.ret (.tup [.int .i64 (qas .i64 (numV (sSub s (nNat 1) (nLen s)))),.bool true]))) (.ret (.tup [.int .i64 (qas .i64 (numV (sSub s (nNat 1) (nLen s)))),.bool true])))) (.ite (iEq (sAt s 0) 45) (.ite (iLt 0 (numV (sSub s (nNat 1) (nLen s)))) (.ret (.tup [.int .i64 (iSub .i64 (iSub .i64 0 (qas .i64 (iSub .u64 (numV (sSub s (nNat 1) (nLen s))) 1))) 1),.bool true])) (.ret (.tup [.int .i64 (qas .i64 (numV (sSub s (nNat 1) (nLen s)))),.bool true]))) (.ret (.tup [.int .i64 (qas .i64 (numV (sSub s (nNat 1) (nLen s)))),.bool true]))))) (.ite (bNot (iEq (sAt s 0) 45)) (.ite (iLt 9223372036854775807 (numV (sSub s (nNat
   1) (nLen s)))) (.ret (.tup [.int .i64 0,.bool false])) (.ite (iEq (sAt s 0) 45) (.ite (iLt 0 (numV (sSub s (nNat 1) (nLen s)))) (.ret (.tup [.int .i64 (iSub .i64 (iSub .i64 0 (qas .i64 (iSub .u64 (numV (sSub s (nNat 1) (nLen s))) 1))) 1),.bool true])) (.ret (.tup [.int .i64 (qas .i64 (numV (sSub s (nNat 1) (nLen s)))),.bool true]))) (.ret (.tup [.int .i64 (qas .i64 (numV (sSub s (nNat 1) (nLen s)))),.bool true])))) (.ite (iEq (sAt s 0) 45) (.ite (iLt 0 (numV (sSub s (nNat 1) (nLen s)))) (.ret (.tup [.int .i64 (iSub .i64 (iSub .i64 0 (qas .i64 (iSub .u64 (numV (sSub s (nNat 1) (nLen s))) 1))) 1),.bool true])) (.ret (.tup [.int .i64 (qas .i64 (numV (sSub s (nNat 1) (nLen s)))),.bool true]))) (.ret (.tup [.int .i64 (qas .i64 (numV (sSub s (nNat 1) (nLen s)))),.bool true]))))) (.ret (.tup [.int .i64 0,.bool false]))) .fail) .fail) .fail))) .fail) (.ite (sEq s []) (.ret (.tup [.int .i64 0,.bool false])) (.ite (iLt 19 (sLen s)) (.ret (.tup [.int .i64 0,.bool false])) (.ite (iEq 0 0) (.ite (iEq 0 0) (.ite (iLe (sLen s) 19) (.ite (qoy s) (.ite (iEq (sAt s 0) 45) (.ite (iLt 9223372036854775808 (numV s)) (.ret (.tup [.int .i64 0,.bool false])) (.ite (bNot (iEq (sAt s 0) 45)) (.ite (iLt 9223372036854775807 (numV s)) (.ret (.tup [.int .i64 0,.bool false])) (.ite (iEq (sAt s 0) 45) (.ite (iLt 0 (numV s)) (.ret (.tup [.int .i64 (iSub .i64 (iSub .i64 0 (qas .i64 (iSub .u64 (numV s) 1))) 1),.bool true])) (.ret (.tup [.int .i64 (qas .i64 (numV s)),.bool true]))) (.ret (.tup
   [.int .i64 (qas .i64 (numV s)),.bool true])))) (.ite (iEq (sAt s 0) 45) (.ite (iLt 0 (numV s)) (.ret (.tup [.int .i64 (iSub .i64 (iSub .i64 0 (qas .i64 (iSub .u64 (numV s) 1))) 1),.bool true])) (.ret (.tup [.int .i64 (qas .i64 (numV s)),.bool true]))) (.ret (.tup [.int .i64 (qas .i64 (numV s)),.bool true]))))) (.ite (bNot (iEq (sAt s 0) 45)) (.ite (iLt 9223372036854775807 (numV s)) (.ret (.tup [.int .i64 0,.bool false])) (.ite (iEq (sAt s 0) 45) (.ite (iLt 0 (numV s)) (.ret (.tup [.int .i64 (iSub .i64 (iSub .i64 0 (qas .i64 (iSub .u64 (numV s) 1))) 1),.bool true])) (.ret (.tup [.int .i64 (qas .i64 (numV s)),.bool true]))) (.ret (.tup [.int .i64 (qas .i64 (numV s)),.bool true])))) (.ite (iEq (sAt s 0) 45) (.ite (iLt 0 (numV s)) (.ret (.tup [.int .i64 (iSub .i64 (iSub .i64 0 (qas .i64 (iSub .u64 (numV s) 1))) 1),.bool true])) (.ret (.tup [.int .i64 (qas .i64 (numV s)),.bool true]))) (.ret (.tup [.int .i64 (qas .i64 (numV s)),.bool true]))))) (.ret (.tup [.int .i64 0,.bool false]))) .fail) .fail) .fail)))) .fail) (.ite (sEq s []) (.ret (.tup [.int .i64 0,.bool false])) (.ite (iLt 19 (sLen s)) (.ret (.tup [.int .i64 0,.bool false])) (.ite (iEq 0 0) (.ite (iEq 0 0) (.ite (iLe (sLen s) 19) (.ite (qoy s) (.ite false (.ite (iLt 9223372036854775808 (numV s)) (.ret (.tup [.int .i64 0,.bool false])) (.ite true (.ite (iLt 9223372036854775807 (numV s)) (.ret (.tup [.int .i64 0,.bool false])) (.ite false (.ite (iLt 0 (numV s)) (.ret (.tup [.int .i64 (iSub .i64 (iSub
   .i64 0 (qas .i64 (iSub .u64 (numV s) 1))) 1),.bool true])) (.ret (.tup [.int .i64 (qas .i64 (numV s)),.bool true]))) (.ret (.tup [.int .i64 (qas .i64 (numV s)),.bool true])))) (.ite false (.ite (iLt 0 (numV s)) (.ret (.tup [.int .i64 (iSub .i64 (iSub .i64 0 (qas .i64 (iSub .u64 (numV s) 1))) 1),.bool true])) (.ret (.tup [.int .i64 (qas .i64 (numV s)),.bool true]))) (.ret (.tup [.int .i64 (qas .i64 (numV s)),.bool true]))))) (.ite true (.ite (iLt 9223372036854775807 (numV s)) (.ret (.tup [.int .i64 0,.bool false])) (.ite false (.ite (iLt 0 (numV s)) (.ret (.tup [.int .i64 (iSub .i64 (iSub .i64 0 (qas .i64 (iSub .u64 (numV s) 1))) 1),.bool true])) (.ret (.tup [.int .i64 (qas .i64 (numV s)),.bool true]))) (.ret (.tup [.int .i64 (qas .i64 (numV s)),.bool true])))) (.ite false (.ite (iLt 0 (numV s)) (.ret (.tup [.int .i64 (iSub .i64 (iSub .i64 0 (qas .i64 (iSub .u64 (numV s) 1))) 1),.bool true])) (.ret (.tup [.int .i64 (qas .i64 (numV s)),.bool true]))) (.ret (.tup [.int .i64 (qas .i64 (numV s)),.bool true]))))) (.ret (.tup [.int .i64 0,.bool false]))) .fail) .fail) .fail)))) (by kernel_rfl) ?_
  have hnum:∀ t:qU,t.length≤19→∀ n,numN t 0=some n→n < 10000000000000000000:=by
   intro t ht n hn;have h2:=qNV t 0 0 n hn (by simp)
   have h3:10 ^ (0+t.length)≤10 ^ 19:=Nat.pow_le_pow_right (by omega) (by omega)
   have:(10:Nat) ^ 19=10000000000000000000:=by decide
   omega
  cases s with
  |nil=>simp [qiL,whoV,whoO,whoN]
  |cons c t =>
   have e1:sSub (c::t) (nNat 1) (nLen (c::t))=t:=by simp
   have i0:qaz (c::t) 0=true:=by simp
   have i1:qbc (qay 1) true (nNat 1) (nLen (c::t)) (nLen (c::t))=true:=by simp
   have n0:sNe (c::t) []=true:=by simp
   have n1:sEq (c::t) []=false:=by simp
   have e0:sAt (c::t) 0=c.toNat:=by simp
   rw [i0,n0,n1,i1,e0,e1];by_cases hc:c=45
   ·have hb:iEq (c.toNat:Int) 45=true:=qjq (k:=45) hc;have hw:whoO (c::t)=whoN true t:=by simp [whoO,hc]
    rw [hb];by_cases ht:t=[]
    ·subst ht;simp [qiL,whoV,hw,whoN]
    ·by_cases hl:19 < t.length
     ·have l1:iLt 19 (sLen t)=true:=by simp;omega
      have l0:sEq t []=false:=by simp [ht]
      rw [l0,l1];simp [qiL,whoV,hw,whoN,ht,hl]
     ·have l1:iLt 19 (sLen t)=false:=by simp;omega
      have l0:sEq t []=false:=by simp [ht]
      have l2:iLe (sLen t) 19=true:=by simp;omega
      rw [l0,l1,l2];cases hn:numN t 0 with
      |none =>
       have k1:qoy t=false:=by simp [qoy,hn]
       rw [k1];simp [qiL,whoV,hw,whoN,ht,hl,hn]
      |some n =>
       have hb:=hnum t (by omega) n hn
       have k1:qoy t=true:=by simp [qoy,hn]
       have k2:numV t=n:=by simp [numV,hn]
       rw [k1,k2];by_cases b1:9223372036854775808 < n
       ·have b2:iLt 9223372036854775808 (n:Int)=true:=by simp;omega
        rw [b2];simp [qiL,whoV,hw,whoN,ht,hl,hn,b1]
       ·have b2:iLt 9223372036854775808 (n:Int)=false:=by simp;omega
        rw [b2];have o1:qiL (c::t)=true:=by simp [qiL,hw,whoN,ht,hl,hn,b1]
        have o2:whoV (c::t)=-(n:Int):=by simp [whoV,hw,whoN,ht,hl,hn,b1]
        by_cases b3:0 < n
        ·have b4:iLt 0 (n:Int)=true:=by simp;omega
         have w1:iSub .u64 (n:Int) 1=n - 1:=qee (by omega)
         have w2:qas .i64 ((n:Int) - 1)=n - 1:=qaI (by omega)
         have w3:iSub .i64 0 ((n:Int) - 1)=-(n - 1):=by unfold iSub;rw [qaI (by omega)];omega
         have w4:iSub .i64 (-((n:Int) - 1)) 1=-n:=by unfold iSub;rw [qaI (by omega)];omega
         rw [b4,w1,w2,w3,w4,o1,o2];simp
        ·have b4:iLt 0 (n:Int)=false:=by simp;omega
         have:n=0:=by omega
         subst this;rw [b4,o1,o2];have w5:qas .i64 ((0:Nat):Int)=0:=by decide
         rw [w5];simp
   ·have hb:iEq (c.toNat:Int) 45=false:=qdZ (k:=45) hc;have hw:whoO (c::t)=whoN false (c::t):=by simp [whoO,hc]
    rw [hb];generalize hs:c::t=s at *;have ht:s≠[]:=by rw [← hs];simp
    by_cases hl:19 < s.length
    ·have l1:iLt 19 (sLen s)=true:=by simp;omega
     rw [l1];simp [qiL,whoV,hw,whoN,ht,hl]
    ·have l1:iLt 19 (sLen s)=false:=by simp;omega
     have l2:iLe (sLen s) 19=true:=by simp;omega
     rw [l1,l2];cases hn:numN s 0 with
     |none =>
      have k1:qoy s=false:=by simp [qoy,hn]
      rw [k1];simp [qiL,whoV,hw,whoN,ht,hl,hn]
     |some n =>
      have hb:=hnum s (by omega) n hn
      have k1:qoy s=true:=by simp [qoy,hn]
      have k2:numV s=n:=by simp [numV,hn]
      rw [k1,k2];by_cases b1:9223372036854775807 < n
      ·have b2:iLt 9223372036854775807 (n:Int)=true:=by simp;omega
       rw [b2];simp [qiL,whoV,hw,whoN,ht,hl,hn,b1]
      ·have b2:iLt 9223372036854775807 (n:Int)=false:=by simp;omega
       have o1:qiL s=true:=by simp [qiL,hw,whoN,ht,hl,hn,b1]
       have o2:whoV s=(n:Int):=by simp [whoV,hw,whoN,ht,hl,hn,b1]
       have w2:qas .i64 (n:Int)=n:=qaI (by omega)
       rw [b2,w2,o1,o2];simp
 ·cases h
end Go.Pv
set_option maxHeartbeats 4000000
set_option maxRecDepth 200000
set_option linter.unusedSimpArgs false
set_option linter.unusedVariables false
namespace Go.Pv
open Go Go.Proofs
def qKj:GamT:=ofL [(178,.pure qLT),(quU,.hint [(4,0,1,5)])]
theorem qK0 (gl:Gl):qal Tryz.prog gl (gam qKj):=(qag (qPy gl) (qcj (K:=.hint [(4,0,1,5)]) trivial qaf))
def qH7:Code:=qfZ Tryz.f165 5
def qHm:LI:=⟨128,[0,4,5],fun e=>match e with|.ret=>[2,3]|.exit 0=>[0,4,5]|_=>[],true⟩
def qF9:LpsT:=fun r fr σ=>.fail
def qkk (vs:List PV) (σ:Store):Option (PExit×List PV×Store):=lval (lstep tbT qKj qF9 qH7 qHm) vs σ
section
variable (s:qU) (r:qR) (n:Int) (k:Nat)
def qu5:Tr LR:=let z1:=qao r 1;let z2:=nEq k (nXs r);let z3:=xApp r [[.int .u8 (sAt s n)]];let z4:=iAdd .i64 n 1;let z5:=qaz s z4;let z6:=iAdd .i64 n 2;let z7:=qcr (sAt s (iAdd .i64 n 3));let z8:=xApp r [[.int .u8 (qas .u8 (iAdd .i64 (iMul .i64 (qcr (sAt s z6)) 16) z7))]];let z9:=xApp r [[.int .u8 (sAt s z4)]];let z10:Tr LR:=.ite z5 (.ite (qav r [[.int .u8 (sAt s z4)]] 1) (.ite (qaq [[.int .u8 (sAt s z4)]] 1) (.ite z1 (.ite z2 (.ret (.next [.str s,.sl z9 (.tok 0),.int .i64 z6] (Store.mk [] [(nXs z9,1,5)] []))) .fail) .fail) .fail) .fail) .fail;.ite (iLt n (sLen s)) (.ite (qaz s n) (.ite (iNe (sAt s n) 34) (.ite (qaz s n) (.ite (iNe (sAt s n) 92) (.ite (qaz s n) (.ite (qav r [[.int .u8 (sAt s n)]] 1) (.ite (qaq [[.int .u8 (sAt s n)]] 1) (.ite z1 (.ite z2 (.ret (.next [.str s,.sl z3 (.tok 0),.int .i64 z4] (Store.mk [] [(nXs z3,1,5)] []))) .fail) .fail) .fail) .fail) .fail) (.ite (iLe (sLen s) z4) (.ret (.out .ret [.str [],.bool false] (Store.mk [] [(k,1,5)] []))) (.ite z5 (.ite (iEq (sAt s z4) 110) (.ite (qav r [[.int .u8 10]] 1) (.ite (qaq [[.int .u8 10]] 1) (.ite z1 (.ite z2 (.ret (.next [.str s,.sl (xApp r [[.int .u8 10]]) (.tok 0),.int .i64 z6] (Store.mk [] [(nXs (xApp r [[.int .u8 10]]),1,5)] []))) .fail) .fail) .fail) .fail) (.ite z5 (.ite (iEq (sAt s z4) 116) (.ite (qav r [[.int .u8 9]] 1) (.ite (qaq [[.int .u8 9]] 1) (.ite z1 (.ite z2 (.ret (.next [.str s,.sl (xApp r [[.int .u8 9]]) (.tok 0),.int .i64 z6] (Store.mk [] [(nXs (xApp r [[.int .u8 9]]),1,5)] []))) .fail) .fail) .fail) .fail) (.ite z5 (.ite (iEq (sAt s z4) 120) (.ite (iLt (iAdd .i64 n 3) (sLen s)) (.ite (qaz s z6) (.ite (iLe 0 (qcr (sAt s z6))) (.ite (qaz s (iAdd .i64 n 3)) (.ite (iLe 0 z7) (.ite (qaz s z6) (.ite (qaz s (iAdd .i64 n 3)) (.ite (qav r [[.int .u8 (qas .u8 (iAdd .i64 (iMul .i64 (qcr (sAt s z6)) 16) z7))]] 1) (.ite (qaq [[.int .u8 (qas .u8 (iAdd .i64 (iMul .i64 (qcr (sAt s z6)) 16) z7))]] 1) (.ite z1 (.ite z2 (.ret (.next [.str s,.sl z8 (.tok 0),.int .i64 (iAdd .i64 n 4)] (Store.mk [] [(nXs z8,1,5)] []))) .fail) .fail) .fail) .fail) .fail) .fail) z10) .fail) z10) .fail) z10) z10) .fail)) .fail)) .fail))) .fail) (.ret (.out (.exit 0) [.str s,.sl r (.tok 0),.int .i64 n] (Store.mk [] [(k,1,5)] [])))) .fail) (.ret (.out (.exit 0) [.str s,.sl r (.tok 0),.int .i64 n] (Store.mk [] [(k,1,5)] [])))
theorem qV7:lstep tbT qKj qF9 qH7 qHm [.str s,.sl r (.tok 0),.int .i64 n] ⟨[],[(k,1,5)],[]⟩=qu5 s r n k:=by kernel_rfl
theorem qQ9:qkk [.str s,.sl r (.tok 0),.int .i64 n] ⟨[],[(k,1,5)],[]⟩=lnext qkk (qu5 s r n k).run:=by unfold qkk;rw [qaQ,qV7]
def qjQ:Option (PExit×List PV×Store):=qkk [.str s,.sl r (.tok 0),.int .i64 n] ⟨[],[(k,1,5)],[]⟩
def qlO:qU:=qTP 0 (qjQ s r n k)
def qlW:Bool:=qHB 1 (qjQ s r n k)
def qBi:Nat:=(gTok (qjQ s r n k) 0)
def qpP:Bool:=isW (qjQ s r n k) (.ret,[.str (qlO s r n k),.bool (qlW s r n k)],⟨[],[((qBi s r n k),1,5)],[]⟩)
def ql2:qU:=qTP 0 (qjQ s r n k)
def qi4:qR:=qmV 1 (qjQ s r n k)
def qlX:Int:=qjR 2 (qjQ s r n k)
def qAF:Nat:=(gTok (qjQ s r n k) 0)
def qsx:Bool:=isW (qjQ s r n k) ((.exit 0),[.str (ql2 s r n k),.sl (qi4 s r n k) (.tok 0),.int .i64 (qlX s r n k)],⟨[],[((qAF s r n k),1,5)],[]⟩)
end
def qoi:List PV→Store→Tr (PExit×List PV×Store)|[.str s,.sl r (.tok 0),.int .i64 n],⟨[],[(k,1,5)],[]⟩=>.ite (qpP s r n k) (.ret (.ret,[.str (qlO s r n k),.bool (qlW s r n k)],⟨[],[((qBi s r n k),1,5)],[]⟩)) (.ite (qsx s r n k) (.ret ((.exit 0),[.str (ql2 s r n k),.sl (qi4 s r n k) (.tok 0),.int .i64 (qlX s r n k)],⟨[],[((qAF s r n k),1,5)],[]⟩)) (.fail))|_,_=>.fail
theorem qUl:∀ vs σ r,(qoi vs σ).run=some r→qkk vs σ=some r:=by
 intro vs σ r h;unfold qoi at h
 split at h
 ·exact qae h fun h=>qae h fun h=>by cases h
 ·cases h
theorem qLv (gl:Gl):∀ fr σ e fr' σ',(orc qHm qoi fr σ).run=some (e,fr',σ')→LDoes Tryz.prog gl qH7 fr σ e fr' σ':=qcB qaj (qK0 gl ) qai (L:=qF9) (qac (by kernel_rfl)) (by kernel_rfl) qUl
def qTH:LpsT:=fun r fr σ=>bif Nat.beq r 5 then orc qHm qoi fr σ else .fail
section
variable (v:qU)
def qM0:Tr PV:=.ite (iLt (sLen v) 2) (.ret (.tup [.str [],.bool false])) (.ite (qaz v 0) (.ite (iNe (sAt v 0) 34) (.ret (.tup [.str [],.bool false])) (.ite (qpP v [] 1 0) (.ret (.tup [.str (qlO v [] 1 0),.bool (qlW v [] 1 0)])) (.ite (qsx v [] 1 0) (.ite (qcH (qi4 v [] 1 0)) (.ret (.tup [.str (qbC (qi4 v [] 1 0)),.bool (iEq (qlX v [] 1 0) (iSub .i64 (sLen (ql2 v [] 1 0)) 1))])) .fail) .fail))) .fail)
theorem qWh:(tcall tbT qKj qTH Tryz.f165 [.str v]).flat=qM0 v:=by kernel_rfl
def qMT:Option PV:=(qM0 v).run
def qTu:qU:=qWw 0 (qMT v)
def qUe:Bool:=qyt 1 (qMT v)
def qLY:Bool:=isW (qMT v) (.tup [.str (qTu v),.bool (qUe v)])
end
def qS3:List PV→Tr PV|[.str v]=>.ite (qLY v) (.ret (.tup [.str (qTu v),.bool (qUe v)])) (.fail)|_=>.fail
theorem qLR (gl:Gl):SimP Tryz.prog gl 165 fun args=>(qS3 args).run:=by
 refine SimP.of_flat (G:=qKj) (L:=qTH) qaj (qK0 gl ) qai  Tryz.func165 rfl (by rfl) (by kernel_rfl) (qaD (L:=lps qTH) [(5,qH7)] (by kernel_rfl) (List.forall_mem_cons.2 ⟨fun fr σ e fr' σ' h=>qLv gl  fr σ e fr' σ' h,(List.forall_mem_nil _)⟩)) ?_
 intro args x h;unfold qS3 at h
 split at h
 ·exact (congrArg Tr.run (qWh _)).trans (qae h fun h=>by cases h)
 ·cases h
end Go.Pv
set_option maxHeartbeats 4000000
set_option maxRecDepth 200000
set_option linter.unusedSimpArgs false
set_option linter.unusedVariables false
namespace Go.Pv
open Go Go.Proofs Go.RowKit
def qxx:qU→Bool
 |h1::h2::_=>decide (0≤qcr h1.toNat)&&decide (0≤qcr h2.toNat)
 |_=>false
def hexW:qU→UInt8
 |h1::h2::_=>UInt8.ofNat (qas .u8 (qcr h1.toNat * 16+qcr h2.toNat)).toNat
 |_=>0
inductive RS where
 |stop
 |bad
 |one (x:UInt8) (k:Nat)
def rS:qU→RS
 |[]=>.stop
 |c::t=>if c=34 then .stop else if c≠92 then .one c 1 else
  match t with
  |[]=>.bad
  |e::u=>if e=110 then .one 10 2 else if e=116 then .one 9 2 else if e=120∧qxx u=true then .one (hexW u) 4 else .one e 2
theorem rS_k {r:List UInt8} {x:UInt8} {k:Nat} (h:rS r=.one x k):1≤k∧k≤r.length:=by
 unfold rS at h
 split at h
 ·cases h
 ·rename_i c t;split at h
  ·cases h
  ·split at h
   ·cases h;simp
   ·split at h
    ·cases h
    ·rename_i e u;split at h
     ·cases h;simp
     ·split at h
      ·cases h;simp
      ·split at h
       ·rename_i hx;cases h
        have:=hx.2;unfold qxx at this;split at this
        ·simp
        ·cases this
       ·cases h;simp
def rP (r:qU):Option (List UInt8×List UInt8):=match h:rS r with
 |.stop=>some ([],r)
 |.bad=>none
 |.one x k=>(rP (r.drop k)).map fun p=>(x::p.1,p.2)
 termination_by r.length
 decreasing_by have:=rS_k h;simp;omega
theorem qzm {r:List UInt8} (h:rS r=.stop):rP r=some ([],r):=by rw [rP.eq_def];split<;>simp_all
theorem qVV {r:List UInt8} (h:rS r=.bad):rP r=none:=by rw [rP.eq_def];split<;>simp_all
theorem qQU {r:List UInt8} {x:UInt8} {k:Nat} (h:rS r=.one x k):rP r=(rP (r.drop k)).map fun p=>(x::p.1,p.2):=by rw [rP.eq_def];split<;>simp_all
theorem qs4 {s r:List UInt8} {i:Nat} {c:UInt8} (h:s.drop i=c::r):s[i]?=some c∧s.drop (i+1)=r∧i+1+r.length=s.length:=by
 have h1:(s.drop i)[0]?=some c:=by rw [h];rfl
 have h2:s.drop (i+1)=r:=by
  have:(s.drop i).drop 1=r:=by rw [h];rfl
  simpa [Nat.add_comm] using this
 have h3:=congrArg List.length h;simp at h1 h3;exact⟨h1,h2,by omega⟩
theorem qHU (c:UInt8):-1≤qcr c.toNat∧qcr c.toNat≤15:=by
 have h:=c.toNat_lt;have key:∀ n:Fin 256,-1≤qcr (n.val:Int)∧qcr (n.val:Int)≤15:=by decide +kernel
 exact key ⟨c.toNat,h⟩
theorem qMk (n:Int):0≤qas .u8 n∧qas .u8 n < 256:=by
 simp [qas,IntKind.wrap,IntKind.signed,IntKind.bits];omega
theorem qmT {c k:UInt8} (h:c≠k):iNe (c.toNat:Int) (k.toNat:Int)=true:=by
 simp only [qVo,decide_eq_true_eq];intro e;exact h (UInt8.toNat_inj.1 (by omega))
theorem qmL {c k:UInt8} (h:c=k):iNe (c.toNat:Int) (k.toNat:Int)=false:=by
 subst h;simp
theorem qQz (b:qU) (x:UInt8) {n:Int} (h:(x.toNat:Int)=n):xApp (qab b) [[.int .u8 n]]=qab (b++[x]):=by
 subst h;rw [qj2 b (by have:=x.toNat_lt;omega)]
 simp
theorem qTM {h1 h2:UInt8} {u:List UInt8}:((hexW (h1::h2::u)).toNat:Int)=qas .u8 (iAdd .i64 (iMul .i64 (qcr h1.toNat) 16) (qcr h2.toNat)):=by
 have r1:=qHU h1;have r2:=qHU h2;have e1:iMul .i64 (qcr h1.toNat) 16=qcr h1.toNat * 16:=qaI (by omega)
 have e2:iAdd .i64 (qcr h1.toNat * 16) (qcr h2.toNat)=qcr h1.toNat * 16+qcr h2.toNat:=qaI (by omega)
 rw [e1,e2];have:=qMk (qcr h1.toNat * 16+qcr h2.toNat);simp [hexW];omega
theorem qD7 {s:List UInt8} (hs:s.length≤140737488355328) (b:qU) (i:Int) (r:qU) (hi:1≤i) (hr:s.drop i.toNat=r) (hil:i≤s.length) (hb:b.length+r.length≤140737488355328) :
  lnext qkk (qu5 s (qab b) i b.length).run=match rS r with
   |.stop=>some (.exit 0,[.str s,.sl (qab b) (.tok 0),.int .i64 i],⟨[],[(b.length,1,5)],[]⟩)
   |.bad=>some (.ret,[.str [],.bool false],⟨[],[(b.length,1,5)],[]⟩)
   |.one x k=>qkk [.str s,.sl (qab (b++[x])) (.tok 0),.int .i64 (i+k)] ⟨[],[((b++[x]).length,1,5)],[]⟩:=by
 cases r with
 |nil =>
  have hl:=congrArg List.length hr;simp at hl;have lt:iLt i (sLen s)=false:=by simp;omega
  unfold qu5
  try dsimp only
  simp only [lt,Tr.run_ite,Bool.false_eq_true,if_false];simp [rS]
 |cons c t =>
  obtain⟨hv,hd1,hl1⟩:=qs4 hr;have hb1:b.length+(t.length+1)≤140737488355328:=hb;have a0:sAt s i=c.toNat:=qfy hv;have k0:qaz s i=true:=qdt (by omega) hv
  have n1:(i+1).toNat=i.toNat+1:=by omega
  have n2:(i+2).toNat=i.toNat+1+1:=by omega
  have n3:(i+3).toNat=i.toNat+1+1+1:=by omega
  have w1:iAdd .i64 i 1=i+1:=qaI (by omega)
  have w2:iAdd .i64 i 2=i+2:=qaI (by omega)
  have w3:iAdd .i64 i 3=i+3:=qaI (by omega)
  have w4:iAdd .i64 i 4=i+4:=qaI (by omega)
  have lt:iLt i (sLen s)=true:=by simp;omega
  have gr:∀ n,qav (qab b) [[.int .u8 n]] 1=true:=fun n=>by simp;omega
  have nw:∀ n,qaq [[.int .u8 n]] 1=true:=fun n=>by simp [one]
  have sz:qao (qab b) 1=true:=qcd _;have ne:nEq b.length (nXs (qab b))=true:=by simp
  have put:∀ (x:UInt8) (n:Int) (k:Nat),(x.toNat:Int)=n→lnext qkk (some (LR.next [.str s,.sl (xApp (qab b) [[.int .u8 n]]) (.tok 0),.int .i64 (i+k)] ⟨[],[(nXs (xApp (qab b) [[.int .u8 n]]),1,5)],[]⟩))=qkk [.str s,.sl (qab (b++[x])) (.tok 0),.int .i64 (i+k)] ⟨[],[((b++[x]).length,1,5)],[]⟩:=fun x n k h=>by
   rw [qQz b x h,qdD];rfl
  unfold qu5
  try dsimp only
  simp only [w1,w2,w3,w4,a0,lt,k0,gr,nw,sz,ne,Tr.run_ite,Tr.run_ret,Tr.run_fail,if_true];by_cases c34:c=34
  ·have e:iNe (c.toNat:Int) 34=false:=qmL (k:=34) c34;simp only [e,Bool.false_eq_true,if_false];simp [rS,c34]
  ·have e:iNe (c.toNat:Int) 34=true:=qmT (k:=34) c34;simp only [e,if_true];by_cases c92:c=92
   ·have e:iNe (c.toNat:Int) 92=false:=qmL (k:=92) c92;simp only [e,Bool.false_eq_true,if_false];cases t with
    |nil =>
     have le:iLe (sLen s) (i+1)=true:=by simp at hl1 ⊢;omega
     simp only [le,if_true];simp [rS,c92]
    |cons e' u =>
     obtain⟨hv1,hd2,hl2⟩:=qs4 hd1;have a1:sAt s (i+1)=e'.toNat:=qfy (by rw [n1];exact hv1)
     have k1:qaz s (i+1)=true:=qdt (by omega) (by rw [n1];exact hv1)
     have le:iLe (sLen s) (i+1)=false:=by simp;omega
     simp only [a1,k1,le,Bool.false_eq_true,if_true,if_false];by_cases e110:e'=110
     ·have f:iEq (e'.toNat:Int) 110=true:=qjq (k:=110) e110;simp only [f,if_true,rS,c92,e110];exact put 10 10 2 rfl
     ·have f:iEq (e'.toNat:Int) 110=false:=qdZ (k:=110) e110;simp only [f,Bool.false_eq_true,if_false];by_cases e116:e'=116
      ·have f:iEq (e'.toNat:Int) 116=true:=qjq (k:=116) e116;simp only [f,if_true,rS,c92,e110,e116];exact put 9 9 2 rfl
      ·have f:iEq (e'.toNat:Int) 116=false:=qdZ (k:=116) e116;simp only [f,Bool.false_eq_true,if_false];have two:∀ h:¬ (e'=120∧qxx u=true),rS (c::e'::u)=.one e' 2:=fun h=>by simp [rS,c92,e110,e116];intro h1;exact Bool.eq_false_iff.2 fun h2=>h ⟨h1,h2⟩
       by_cases e120:e'=120
       ·have f:iEq (e'.toNat:Int) 120=true:=qjq (k:=120) e120;simp only [f,if_true];cases u with
        |nil =>
         have l3:iLt (i+3) (sLen s)=false:=by simp at hl2 ⊢;omega
         rw [two (by simp [qxx])]
         simp only [l3,Bool.false_eq_true,if_false];exact put e' _ 2 rfl
        |cons h1 u =>
         obtain⟨hv2,hd3,hl3⟩:=qs4 hd2;cases u with
         |nil =>
          have l3:iLt (i+3) (sLen s)=false:=by simp at hl3 ⊢;omega
          rw [two (by simp [qxx])]
          simp only [l3,Bool.false_eq_true,if_false];exact put e' _ 2 rfl
         |cons h2 u =>
          obtain⟨hv3,hd4,hl4⟩:=qs4 hd3;have a2:sAt s (i+2)=h1.toNat:=qfy (by rw [n2];exact hv2)
          have k2:qaz s (i+2)=true:=qdt (by omega) (by rw [n2];exact hv2)
          have a3:sAt s (i+3)=h2.toNat:=qfy (by rw [n3];exact hv3)
          have k3:qaz s (i+3)=true:=qdt (by omega) (by rw [n3];exact hv3)
          have l3:iLt (i+3) (sLen s)=true:=by simp;omega
          simp only [a2,k2,a3,k3,l3,if_true];by_cases g1:0≤qcr h1.toNat
          ·have f1:iLe 0 (qcr h1.toNat)=true:=by simpa using g1
           simp only [f1,if_true];by_cases g2:0≤qcr h2.toNat
           ·have f2:iLe 0 (qcr h2.toNat)=true:=by simpa using g2
            have e1:rS (c::e'::h1::h2::u)=.one (hexW (h1::h2::u)) 4:=by simp [rS,c92,e110,e116,e120,qxx,g1,g2]
            simp only [f2,if_true,e1];exact put (hexW (h1::h2::u)) _ 4 qTM
           ·have f2:iLe 0 (qcr h2.toNat)=false:=by simpa using g2
            rw [two (by simp [qxx,g2])]
            simp only [f2,Bool.false_eq_true,if_false];exact put e' _ 2 rfl
          ·have f1:iLe 0 (qcr h1.toNat)=false:=by simpa using g1
           rw [two (by simp [qxx,g1])]
           simp only [f1,Bool.false_eq_true,if_false];exact put e' _ 2 rfl
       ·have f:iEq (e'.toNat:Int) 120=false:=qdZ (k:=120) e120;rw [two (fun h=>e120 h.1)]
        simp only [f,Bool.false_eq_true,if_false];exact put e' _ 2 rfl
   ·have e:iNe (c.toNat:Int) 92=true:=qmT (k:=92) c92;have e1:rS (c::t)=.one c 1:=by simp [rS,c34,c92]
    simp only [e,if_true,e1];exact put c _ 1 rfl
theorem qQr {s:List UInt8} (hs:s.length≤140737488355328):∀ (k:Nat) (b:qU) (i:Int) (r:qU),r.length≤k→1≤i→s.drop i.toNat=r→i≤s.length→b.length+r.length≤140737488355328 →
  (∀ p,rP r=some p→qkk [.str s,.sl (qab b) (.tok 0),.int .i64 i] ⟨[],[(b.length,1,5)],[]⟩=some (.exit 0,[.str s,.sl (qab (b++p.1)) (.tok 0),.int .i64 ((s.length:Int) - p.2.length)],⟨[],[((b++p.1).length,1,5)],[]⟩)) ∧
  (rP r=none→∃ m,qkk [.str s,.sl (qab b) (.tok 0),.int .i64 i] ⟨[],[(b.length,1,5)],[]⟩=some (.ret,[.str [],.bool false],⟨[],[(m,1,5)],[]⟩)):=by
 intro k
 induction k with
 |zero =>
  intro b i r hk hi hr hil hb;have:r=[]:=by apply List.eq_nil_of_length_eq_zero;omega
  subst this;have hl:=congrArg List.length hr;simp at hl;rw [qQ9,qD7 hs b i [] hi hr hil hb];have e:i=s.length:=by omega
  refine⟨fun p hp=>?_,fun hp=>by rw [qzm rfl] at hp;cases hp⟩
  rw [qzm rfl] at hp;cases hp
  simp [rS,e]
 |succ k ih =>
  intro b i r hk hi hr hil hb;have hl:=congrArg List.length hr;simp at hl;rw [qQ9,qD7 hs b i r hi hr hil hb];cases hS:rS r with
  |stop =>
   rw [qzm hS];refine⟨fun p hp=>?_,fun hp=>by cases hp⟩
   cases hp
   have e:i=(s.length:Int) - r.length:=by omega
   simp [e]
  |bad =>
   rw [qVV hS];exact⟨fun p hp=>by (cases hp),fun _=>⟨_,rfl⟩⟩
  |one x j =>
   have hj:=rS_k hS;rw [qQU hS];obtain⟨h1,h2⟩:=ih (b++[x]) (i+j) (r.drop j) (by simp;omega) (by omega) (by rw [← hr,List.drop_drop];congr 1;omega) (by omega) (by simp;omega)
   refine⟨fun p hp=>?_,fun hp=>?_⟩
   ·obtain⟨q,hq,rfl⟩:=Option.map_eq_some_iff.1 hp;have:=h1 q hq;simpa using this
   ·exact h2 (by simpa using hp)
def rsO (s:qU):qU×Bool:=if s.length < 2∨s.head?≠some 34 then ([],false) else match rP (s.drop 1) with
 |none=>([],false)
 |some p=>(p.1,decide (p.2.length=1))
def rsV (s:qU):qU:=(rsO s).1
def okRs (s:qU):Bool:=(rsO s).2
def qwr:List PV→Tr PV
 |[.str s]=>Tr.chk (qm8 s) (.ret (.tup [.str (rsV s),.bool (okRs s)]))
 |_=>.fail
theorem qTI {s:List UInt8} (hs:s.length≤140737488355328):qMT s=some (.tup [.str (rsV s),.bool (okRs s)]):=by
 unfold qMT qM0
 try dsimp only
 by_cases hs2:s.length < 2
 ·have l1:iLt (sLen s) 2=true:=by simp;omega
  simp only [l1,Tr.run_ite,if_true];simp [rsV,okRs,rsO,hs2]
 ·have l1:iLt (sLen s) 2=false:=by simp;omega
  have l2:qaz s 0=true:=by simp;omega
  have l4:iSub .i64 (sLen s) 1=s.length - 1:=by unfold iSub;rw [qjx,qaI (by omega)]
  obtain⟨c,hc⟩:=qeK (l:=s) (i:=0) (by omega)
  have l5:sAt s 0=c.toNat:=qfy (i:=0) hc;have hh:s.head?=some c:=by rw [List.head?_eq_getElem?];exact hc
  by_cases c34:c=34
  ·have l6:iNe (c.toNat:Int) 34=false:=qmL (k:=34) c34;have e1:rsO s=match rP (s.drop 1) with|none=>([],false)|some p=>(p.1,decide (p.2.length=1)):=by
    unfold rsO;rw [if_neg];rintro (h|h)
    ·exact hs2 h
    ·exact h (by rw [hh,c34])
   obtain⟨h1,h2⟩:=qQr hs s.length [] 1 (s.drop 1) (by simp) (by omega) rfl (by omega) (by simp;omega)
   cases hp:rP (s.drop 1) with
   |none =>
    obtain⟨m,hm⟩:=h2 hp;rw [hp] at e1;have hW:qjQ s [] 1 0=some (.ret,[.str [],.bool false],⟨[],[(m,1,5)],[]⟩):=hm;have n0:qpP s [] 1 0=true:=by simp [qpP,qlO,qlW,qBi,hW]
    have r1:qlO s [] 1 0=[]:=by simp [qlO,hW]
    have r2:qlW s [] 1 0=false:=by simp [qlW,hW]
    simp only [l1,l2,l5,l6,n0,r1,r2,Tr.run_ite,Bool.false_eq_true,if_true,if_false];simp [rsV,okRs,e1]
   |some p =>
    have hW:qjQ s [] 1 0=some (.exit 0,[.str s,.sl (qab p.1) (.tok 0),.int .i64 ((s.length:Int) - p.2.length)],⟨[],[(p.1.length,1,5)],[]⟩):=by
     have:=h1 p hp;unfold qjQ;simpa using this
    rw [hp] at e1;have k4:iEq ((s.length:Int) - p.2.length) ((s.length:Int) - 1)=decide (p.2.length=1):=by
     simp only [qx9]
     congr 1
     apply propext;constructor<;>intro h<;>omega
    have n0:qpP s [] 1 0=false:=by
     rw [Bool.eq_false_iff];intro h;have:=qRb h;rw [hW] at this;simp at this
    have n1:qsx s [] 1 0=true:=by simp [qsx,ql2,qi4,qlX,qAF,hW]
    have r1:qi4 s [] 1 0=qab p.1:=by simp [qi4,hW]
    have r2:ql2 s [] 1 0=s:=by simp [ql2,hW]
    have r3:qlX s [] 1 0=(s.length:Int) - p.2.length:=by simp [qlX,hW]
    simp only [l1,l2,l5,l6,n0,n1,r1,r2,r3,l4,k4,Tr.run_ite,Bool.false_eq_true,if_true,if_false];simp [rsV,okRs,e1]
  ·have l6:iNe (c.toNat:Int) 34=true:=qmT (k:=34) c34;simp only [l1,l2,l5,l6,Tr.run_ite,Bool.false_eq_true,if_true,if_false];simp [rsV,okRs,rsO,hh,c34]
theorem qGw (gl:Gl):SimP Tryz.prog gl 165 fun args=>(qwr args).run :=
 ⟨(qLR gl).ent,fun args x h=>(qLR gl).run args x (by
  unfold qwr at h
  split at h
  ·rename_i s;obtain⟨h1,h2⟩:=Tr.chk_some h;cases h2
   have hl:s.length≤140737488355328:=by simpa using h1
   have hW:=qTI hl;simp [qS3,qLY,qTu,qUe,hW]
  ·cases h)⟩
end Go.Pv
set_option maxHeartbeats 4000000
set_option maxRecDepth 200000
set_option linter.unusedSimpArgs false
set_option linter.unusedVariables false
namespace Go.Pv
open Go Go.Proofs Go.RowKit
theorem qHb (c:UInt8):∀ (l:qU) (a:Nat),numN (l++[c]) a=(numN l a).bind fun n=>if 48≤c.toNat∧c.toNat≤57 then some (n * 10+(c.toNat - 48)) else none
 |[],a=>by simp [numN]
 |d::l,a=>by
  simp only [List.cons_append,numN];split
  ·exact qHb c l _
  ·rfl
theorem qhQ {u:Nat} (h:¬ u < 10):qfH u=qfH (u / 10)++[UInt8.ofNat (48+u % 10)]:=by
 conv=>lhs;unfold qfH
 rw [dif_neg h]
theorem qgb {u:Nat} (h:u < 10):qfH u=[UInt8.ofNat (48+u)]:=by
 unfold qfH;rw [dif_pos h]
theorem qrs {d:Nat} (h:d < 10):(UInt8.ofNat (48+d)).toNat=48+d:=by
 simp;omega
theorem qvM:∀ (k u:Nat),u < k→numN (qfH u) 0=some u
 |0,u,h=>by omega
 |k+1,u,h=>by
  by_cases hu:u < 10
  ·rw [qgb hu];simp only [numN,qrs hu];rw [if_pos (by omega)]
   simp
  ·have hd:u % 10 < 10:=Nat.mod_lt _ (by omega)
   rw [qhQ hu,qHb,qvM k (u / 10) (by omega)]
   simp only [Option.bind_some,qrs hd];rw [if_pos (by omega)]
   congr 1
   omega
theorem qDx:∀ (k u:Nat),u < k→∀ c∈qfH u,48≤c.toNat∧c.toNat≤57
 |0,u,h=>by omega
 |k+1,u,h=>by
  intro c hc;by_cases hu:u < 10
  ·rw [qgb hu] at hc;simp only [List.mem_singleton] at hc;subst hc;have:=qrs hu;omega
  ·have hd:u % 10 < 10:=Nat.mod_lt _ (by omega)
   rw [qhQ hu] at hc;rcases List.mem_append.1 hc with hc|hc
   ·exact qDx k (u / 10) (by omega) c hc
   ·simp only [List.mem_singleton] at hc;subst hc;have:=qrs hd;omega
theorem qtO (u:Nat):qfH u≠[]:=by
 by_cases hu:u < 10
 ·rw [qgb hu];simp
 ·rw [qhQ hu];simp
theorem qqN (u:Nat):∃ c t,qfH u=c::t∧48≤c.toNat∧c.toNat≤57:=by
 cases h:qfH u with
 |nil=>exact absurd h (qtO u)
 |cons c t =>
  have:=qDx (u+1) u (by omega) c (by rw [h];simp)
  exact⟨c,t,rfl,this⟩
theorem qf5:∀ (k u:Nat),u < k→Lib.decDigits u=qfH u
 |0,u,h=>by omega
 |k+1,u,h=>by
  by_cases hu:u < 10
  ·rw [qgb hu,Lib.decDigits_one hu]
  ·rw [qhQ hu,Lib.decDigits,dif_neg hu,qf5 k (u / 10) (by omega)]
theorem qQo (n:Int):qLl n=intV n:=by
 unfold qLl Lib.itoa intV qjS;by_cases h:n < 0
 ·rw [if_pos h,if_pos h,qf5 (n.natAbs+1) _ (by omega)]
  congr 2
  omega
 ·rw [if_neg h,if_neg h,qf5 (n.toNat+1) _ (by omega)]
theorem qRd (M:Nat) (c:UInt8):∀ (l:qU) (a n:Nat),Lib.parseUintM M a l=.ok n→Lib.parseUintM M a (l++[c])=Lib.parseUintM M n [c]
 |[],a,n,h=>by simp [Lib.parseUintM] at h;subst h;rfl
 |d::l,a,n,h=>by
  simp only [List.cons_append,Lib.parseUintM] at h ⊢;split at h
  ·split at h
   ·cases h
   ·split at h
    ·cases h
    ·rename_i h1 h2 h3;rw [if_pos h1,if_neg h2,if_neg h3];exact qRd M c l _ n h
  ·cases h
theorem qEF:∀ (k u:Nat),u < k→u≤18446744073709551615→Lib.parseUintM 18446744073709551615 0 (qfH u)=.ok u
 |0,u,h,_=>by omega
 |k+1,u,h,hm=>by
  by_cases hu:u < 10
  ·rw [qgb hu];simp only [Lib.parseUintM,qrs hu];rw [if_pos (by omega),if_neg (by omega),if_neg (by omega)]
   congr 1
   omega
  ·have hd:u % 10 < 10:=Nat.mod_lt _ (by omega)
   rw [qhQ hu,qRd _ _ _ _ (u / 10) (qEF k (u / 10) (by omega) (by omega))]
   simp only [Lib.parseUintM,qrs hd];rw [if_pos (by omega),if_neg (by omega),if_neg (by omega)]
   congr 1
   omega
theorem pInt {n:Int} (h:-9223372036854775808≤n∧n≤9223372036854775807):Lib.parseIntB 64 (intV n)=.ok n:=by
 unfold intV qjS;by_cases hn:n < 0
 ·rw [if_pos hn];have hp:=qEF ((-n).toNat+1) (-n).toNat (by omega) (by omega)
  have hne:=qtO (-n).toNat;have e:(2 ^ 64 - 1:Nat)=18446744073709551615:=by decide
  have e2:(2 ^ (64 - 1):Nat)=9223372036854775808:=by decide
  have e3:(45:UInt8).toNat=45:=rfl;simp only [Lib.parseIntB,Lib.parseUintB,e3,e,e2,or_true,if_true,if_neg hne,hp];rw [if_neg (by simp),if_neg (by simp;omega)]
  congr 1
  simp;omega
 ·rw [if_neg hn];have hp:=qEF (n.toNat+1) n.toNat (by omega) (by omega)
  obtain⟨c,t,ht,hc1,hc2⟩:=qqN n.toNat;have e:(2 ^ 64 - 1:Nat)=18446744073709551615:=by decide
  have e2:(2 ^ (64 - 1):Nat)=9223372036854775808:=by decide
  rw [ht] at hp ⊢;simp only [Lib.parseIntB,Lib.parseUintB];rw [if_neg (by omega:¬ (c.toNat=43∨c.toNat=45)),if_neg (by simp),e,hp]
  simp only [e2];rw [if_neg (by omega),if_neg (by omega),if_neg (by omega)]
  congr 1
  omega
theorem qT9 {n:Int} (h:-9223372036854775808≤n∧n≤9223372036854775807):pOk (intV n)=true:=by unfold pOk;rw [pInt h]
theorem qOY {n:Int} (h:-9223372036854775808≤n∧n≤9223372036854775807):pVal (intV n)=n:=by unfold pVal;rw [pInt h]
theorem qSk {n:Int} (h:-9223372036854775808≤n∧n≤9223372036854775807):whoO (intV n)=some n:=by
 unfold intV qjS whoO;by_cases hn:n < 0
 ·rw [if_pos hn];have hl:=qpZ 18 (-n).toNat (by omega)
  have hp:=qvM ((-n).toNat+1) (-n).toNat (by omega)
  have hne:=qtO (-n).toNat;simp only [List.head?_cons,if_true,List.drop_succ_cons,List.drop_zero,whoN];rw [if_neg (by rintro (h|h);exact hne h;omega),hp]
  simp only [];rw [if_neg (by simp;omega)]
  congr 1
  simp;omega
 ·rw [if_neg hn];have hl:=qpZ 18 n.toNat (by omega)
  have hp:=qvM (n.toNat+1) n.toNat (by omega)
  have hne:=qtO n.toNat;obtain⟨c,t,ht,hc1,hc2⟩:=qqN n.toNat;have hh:¬ (qfH n.toNat).head?=some 45:=by
   rw [ht];simp;intro h;subst h
   revert hc1
   decide
  rw [if_neg hh];unfold whoN;rw [if_neg (by rintro (h|h);exact hne h;omega),hp]
  simp only [];rw [if_neg (by simp;omega)]
  congr 1
  simp;omega
theorem qRB (n:Int):qdk (intV n) [34]=false:=by
 unfold intV qjS qdk;by_cases hn:n < 0
 ·rw [if_pos hn];simp
 ·rw [if_neg hn];obtain⟨c,t,ht,hc1,hc2⟩:=qqN n.toNat;rw [ht];simp;intro h;subst h
  revert hc1
  decide
end Go.Pv
set_option maxHeartbeats 4000000
set_option maxRecDepth 200000
set_option linter.unusedSimpArgs false
set_option linter.unusedVariables false
namespace Go.Pv
open Go Go.Proofs Go.RowKit
def hx1 (c:UInt8):UInt8:=UInt8.ofNat (sAt hexL (iShr .u8 c.toNat 4)).toNat
def hx2 (c:UInt8):UInt8:=UInt8.ofNat (sAt hexL (iAnd .u8 c.toNat 15)).toNat
theorem qNU (c:UInt8):oneV c.toNat=if c=34∨c=92 then [92,c] else if c=10 then [92,110] else if c=9 then [92,116] else if 32≤c.toNat∧c.toNat≤126 then [c] else [92,120,hx1 c,hx2 c]:=by
 have e:∀ k:UInt8,((c.toNat:Int)=(k.toNat:Int))=(c=k):=fun k=>propext ⟨fun h=>UInt8.toNat_inj.1 (by omega),fun h=>by rw [h]⟩
 have e34:=e 34;have e92:=e 92;have e10:=e 10;have e9:=e 9;unfold oneV hx1 hx2;have r:UInt8.ofNat (c.toNat:Int).toNat=c:=by simp
 rw [r];have p1:((c.toNat:Int)=34)=(c=34):=e34;have p2:((c.toNat:Int)=92)=(c=92):=e92;have p3:((c.toNat:Int)=10)=(c=10):=e10;have p4:((c.toNat:Int)=9)=(c=9):=e9;have p5:((32:Int)≤c.toNat∧(c.toNat:Int)≤126)=(32≤c.toNat∧c.toNat≤126):=propext ⟨fun h=>⟨by omega,by omega⟩,fun h=>⟨by omega,by omega⟩⟩
 simp only [p1,p2,p3,p4,p5]
theorem qVU:∀ n:Fin 256,digV (hx1 (UInt8.ofNat n.val)).toNat < 16∧digV (hx2 (UInt8.ofNat n.val)).toNat < 16 ∧
 (UInt8.ofNat (iOr .u8 (iShl .u8 (digV (hx1 (UInt8.ofNat n.val)).toNat) 4) (digV (hx2 (UInt8.ofNat n.val)).toNat)).toNat).toNat=n.val ∧
 0≤qcr (hx1 (UInt8.ofNat n.val)).toNat∧0≤qcr (hx2 (UInt8.ofNat n.val)).toNat∧(hexW [hx1 (UInt8.ofNat n.val),hx2 (UInt8.ofNat n.val)]).toNat=n.val:=by decide +kernel
theorem qRh (c:UInt8):digV (hx1 c).toNat < 16∧digV (hx2 c).toNat < 16∧UInt8.ofNat (iOr .u8 (iShl .u8 (digV (hx1 c).toNat) 4) (digV (hx2 c).toNat)).toNat=c ∧
  0≤qcr (hx1 c).toNat∧0≤qcr (hx2 c).toNat∧hexW [hx1 c,hx2 c]=c:=by
 have h:=qVU ⟨c.toNat,c.toNat_lt⟩;simp only [UInt8.ofNat_toNat] at h
 exact⟨h.1,h.2.1,UInt8.toNat_inj.1 h.2.2.1,h.2.2.2.1,h.2.2.2.2.1,UInt8.toNat_inj.1 h.2.2.2.2.2⟩
theorem qj5 (c:UInt8) (t:qU):decP (c::t)=if c=92 then (if escN t=0 then none else (decP (t.drop (escN t).toNat)).map (UInt8.ofNat (escB t).toNat::·)) else (decP t).map (c::·):=by rw [decP]
theorem qUm (c:UInt8) (r:qU):decP (oneV c.toNat++r)=(decP r).map (c::·):=by
 rw [qNU];by_cases h1:c=34∨c=92
 ·rw [if_pos h1];have a:sAt (c::r) 0=c.toNat:=by simp
  have q:(c.toNat:Int)=34∨(c.toNat:Int)=92:=by rcases h1 with rfl|rfl<;>decide
  have n1:escN (c::r)=1:=by unfold escN;rw [if_neg (by simp),a,if_pos q]
  have n2:escB (c::r)=c.toNat:=by unfold escB;rw [if_neg (by simp),a,if_pos q]
  simp only [List.cons_append,List.nil_append];rw [qj5,if_pos rfl,n1,n2];simp
 ·rw [if_neg h1];by_cases h2:c=10
  ·subst h2;have a:sAt (110::r) 0=110:=by simp
   have n1:escN (110::r)=1:=by unfold escN;rw [if_neg (by simp),a];simp
   have n2:escB (110::r)=10:=by unfold escB;rw [if_neg (by simp),a];simp
   simp only [if_true,List.cons_append,List.nil_append];rw [qj5,if_pos rfl,n1,n2];simp
  ·rw [if_neg h2];by_cases h3:c=9
   ·subst h3;have a:sAt (116::r) 0=116:=by simp
    have n1:escN (116::r)=1:=by unfold escN;rw [if_neg (by simp),a];simp
    have n2:escB (116::r)=9:=by unfold escB;rw [if_neg (by simp),a];simp
    simp only [if_true,List.cons_append,List.nil_append];rw [qj5,if_pos rfl,n1,n2];simp
   ·rw [if_neg h3];by_cases h4:32≤c.toNat∧c.toNat≤126
    ·rw [if_pos h4];simp only [List.cons_append,List.nil_append];rw [qj5,if_neg (fun h=>h1 (.inr h))]
    ·rw [if_neg h4];obtain⟨g1,g2,g3,_⟩:=qRh c;have a0:sAt (120::hx1 c::hx2 c::r) 0=120:=by simp
     have a1:sAt (120::hx1 c::hx2 c::r) 1=(hx1 c).toNat:=by simp
     have a2:sAt (120::hx1 c::hx2 c::r) 2=(hx2 c).toNat:=by simp
     have q:(120:Int)=120∧3≤(120::hx1 c::hx2 c::r).length∧digV (hx1 c).toNat < 16∧digV (hx2 c).toNat < 16:=⟨rfl,by simp,g1,g2⟩
     have n1:escN (120::hx1 c::hx2 c::r)=3:=by unfold escN;rw [if_neg (by simp),a0,a1,a2,if_neg (by omega),if_neg (by omega),if_neg (by omega),if_pos q]
     have n2:escB (120::hx1 c::hx2 c::r)=iOr .u8 (iShl .u8 (digV (hx1 c).toNat) 4) (digV (hx2 c).toNat):=by unfold escB;rw [if_neg (by simp),a0,a1,a2,if_neg (by omega),if_neg (by omega),if_neg (by omega),if_pos q]
     simp only [List.cons_append,List.nil_append];rw [qj5,if_pos rfl,n1,n2,g3];simp
theorem qD6 (c:UInt8) (b:qU):symB (c::b)=oneV c.toNat++symB b:=by simp [symB]
theorem qNy:∀ b:qU,decP (symB b)=some b
 |[]=>by simp [symB,decP]
 |c::b=>by rw [qD6,qUm,qNy b];rfl
theorem qTO (c:UInt8) (r:qU):rS (oneV c.toNat++r)=.one c (oneV c.toNat).length:=by
 rw [qNU];by_cases h1:c=34∨c=92
 ·rw [if_pos h1];rcases h1 with rfl|rfl<;>simp [rS]
 ·rw [if_neg h1];by_cases h2:c=10
  ·subst h2;simp [rS]
  ·rw [if_neg h2];by_cases h3:c=9
   ·subst h3;simp [rS]
   ·rw [if_neg h3];have h34:¬ c=34:=fun h=>h1 (.inl h)
    have h92:¬ c=92:=fun h=>h1 (.inr h)
    by_cases h4:32≤c.toNat∧c.toNat≤126
    ·rw [if_pos h4];simp [rS,h34,h92]
    ·rw [if_neg h4];obtain⟨_,_,_,g4,g5,g6⟩:=qRh c;have g7:hexW (hx1 c::hx2 c::r)=c:=g6;have g8:qxx (hx1 c::hx2 c::r)=true:=by simp [qxx,g4,g5]
     simp [rS,g7,g8]
theorem qRi:∀ b:qU,rP (symB b++[34])=some (b,[34])
 |[]=>by rw [qzm]<;>simp [symB,rS]
 |c::b=>by
  have e:symB (c::b)++[34]=oneV c.toNat++(symB b++[34]):=by rw [qD6,List.append_assoc]
  rw [e,qQU (qTO c _),List.drop_left,qRi b];rfl
theorem qVN (b:qU):rsO (symV b)=(b,true):=by
 have e:(symV b).drop 1=symB b++[34]:=by simp [symV]
 unfold rsO;rw [if_neg (by simp [symV]),e,qRi b]
 rfl
theorem qRU (b:qU):whoO (symV b)=none:=by
 have e:symV b=34::(symB b++[34]):=by simp [symV]
 rw [e];unfold whoO;rw [if_neg (by simp)]
 unfold whoN;split
 ·rfl
 ·have:numN (34::(symB b++[34])) 0=none:=by unfold numN;rw [if_neg (by decide)]
  rw [this]
end Go.Pv
set_option maxHeartbeats 4000000
set_option maxRecDepth 200000
set_option linter.unusedSimpArgs false
set_option linter.unusedVariables false
namespace Go.Pv
open Go Go.Proofs Go.RowKit
theorem qs7 (k n:Int) (s:qU):qeF k n s=qhz k n s:=by unfold qeF qhz;rw [qQo]
def valid (v:Int×Int×List UInt8):Prop:=(v.1=1∧v.2.2=[]∧-9223372036854775808≤v.2.1∧v.2.1≤9223372036854775807)∨(v.1=2∧v.2.1=0∧v.2.2.length≤256)
def qxB (v:Int×Int×List UInt8):qU:=qhz v.1 v.2.1 v.2.2
theorem qoh (n:Int):qa5 1 n []=0:=by simp [qa5]
theorem qpS {b:List UInt8}:qa5 2 0 b=0↔b.length≤256:=by
 unfold qa5;by_cases h:b.length≤256<;>simp [h]
theorem qtb (n:Int):qhz 1 n []=intV n:=by simp [qhz,isV]
theorem qtr {b:List UInt8} (h:b.length≤256):qhz 2 0 b=symV b:=by simp [qhz,isV,h]
theorem qO8 (s:qU):-9223372036854775808≤pVal s∧pVal s≤9223372036854775807:=by
 have h:=qK3 s;simp [Lit.wf,IntKind.min,IntKind.max,IntKind.signed,IntKind.bits] at h
 omega
theorem qIA {m:Bool} {t:List UInt8} {n:Int} (h:whoN m t=some n):-9223372036854775808≤n∧n≤9223372036854775807:=by
 unfold whoN at h
 split at h
 ·cases h
 ·split at h
  ·cases h
  ·rename_i x hx;split at h
   ·cases h
   ·rename_i hn;cases h
    cases m with
    |true=>simp at hn ⊢;omega
    |false=>simp at hn ⊢;omega
theorem qUM {s:List UInt8} {n:Int} (h:whoO s=some n):-9223372036854775808≤n∧n≤9223372036854775807:=by
 unfold whoO at h
 split at h
 ·exact qIA h
 ·exact qIA h
def rrV (s:qU):Option (Int×Int×List UInt8):=match whoO s with
 |some n=>if qa5 1 n []=0∧qhz 1 n []=s then some (1,n,[]) else none
 |none=>if (rsO s).2=true∧qa5 2 0 (rsO s).1=0∧qhz 2 0 (rsO s).1=s then some (2,0,(rsO s).1) else none
theorem qWg {s:List UInt8} {v:Int×Int×List UInt8} (h:rdV s=some v):valid v∧qxB v=s:=by
 unfold rdV at h
 split at h
 ·split at h
  ·split at h
   ·rename_i hc;cases h
    exact⟨.inr ⟨rfl,rfl,qpS.1 hc.1⟩,by unfold qxB;rw [← qs7];exact hc.2⟩
   ·cases h
  ·cases h
 ·split at h
  ·split at h
   ·rename_i hc;cases h
    exact⟨.inl ⟨rfl,rfl,qO8 s⟩,by unfold qxB;rw [← qs7];exact hc.2⟩
   ·cases h
  ·cases h
theorem qWk {s:List UInt8} {v:Int×Int×List UInt8} (h:rrV s=some v):valid v∧qxB v=s:=by
 unfold rrV at h
 split at h
 ·rename_i n hn;split at h
  ·rename_i hc;cases h
   exact⟨.inl ⟨rfl,rfl,qUM hn⟩,hc.2⟩
  ·cases h
 ·split at h
  ·rename_i hc;cases h
   exact⟨.inr ⟨rfl,rfl,qpS.1 hc.2.1⟩,hc.2.2⟩
  ·cases h
theorem qTE {v:Int×Int×List UInt8} (h:valid v):rdV (qxB v)=some v:=by
 obtain⟨k,n,b⟩:=v;rcases h with⟨h1,h2,h3⟩|⟨h1,h2,h3⟩
 ·simp only at h1 h2 h3;subst h1 h2;simp only [qxB,qtb];unfold rdV;rw [if_neg (by rw [qRB];simp),qT9 h3,qOY h3]
  simp [qoh,qs7,qtb]
 ·simp only at h1 h2 h3;subst h1 h2;simp only [qxB,qtr h3];have e:symV b=34::(symB b++[34]):=by simp [symV]
  have p1:qdk (symV b) [34]=true:=by rw [e];simp [qdk]
  have p2:qwP (symV b) [34]=true:=by rw [e];simp [qwP]
  have p3:2≤(symV b).length:=by rw [e];simp
  have p4:((symV b).take ((symV b).length - 1)).drop 1=symB b:=by rw [e];simp
  unfold rdV;rw [if_pos ⟨p1,p2,p3⟩,p4,qNy b];simp only [];rw [if_pos ⟨qpS.2 h3,by rw [qs7,qtr h3]⟩]
theorem qST {v:Int×Int×List UInt8} (h:valid v):rrV (qxB v)=some v:=by
 obtain⟨k,n,b⟩:=v;rcases h with⟨h1,h2,h3⟩|⟨h1,h2,h3⟩
 ·simp only at h1 h2 h3;subst h1 h2;simp only [qxB,qtb];unfold rrV;rw [qSk h3];simp [qoh,qtb]
 ·simp only at h1 h2 h3;subst h1 h2;simp only [qxB,qtr h3];unfold rrV;rw [qRU,qVN];simp only [];rw [if_pos (by simp [qpS.2 h3,qtr h3])]
theorem qWp (s:qU):rrV s=rdV s:=by
 cases h:rrV s with
 |some v =>
  obtain⟨h1,h2⟩:=qWk h;rw [← h2,qTE h1]
 |none =>
  cases h':rdV s with
  |none=>rfl
  |some v =>
   obtain⟨h1,h2⟩:=qWg h';rw [← h2,qST h1] at h
   cases h
theorem qMG (gl:Gl):SimP Tryz.prog gl 147 fun args=>(qyy args).run:=by
 refine SimP.of_tree (G:=ofL [(164,.pure qFb),(165,.pure qwr),(166,.pure qFJ)]) (L:=fun _ _ _=>.fail) qaj (qag (qNG gl) (qag (qGw gl) (qag (qMO gl) qaf))) qai Tryz.func147 rfl (by rfl) (by kernel_rfl) (qac (by kernel_rfl)) ?_
 intro args x h hr;unfold qyy at h
 split at h
 ·rename_i s;obtain⟨h1,h2⟩:=Tr.chk_some h;cases h2
  refine Tr.run_as (.ite (qm8 s) (.ite (qiL s) (.ite (bNot (qiL s)) (.ret (.tup [.agg [.int .i64 0,.int .i64 0,.str []],.int .i64 10])) (.ite (iNe (qa5 1 (whoV s) []) 0) (.ret (.tup [.agg [.int .i64 0,.int .i64 0,.str []],.int .i64 10])) (.ite (sNe (qhz 1 (whoV s) []) s) (.ret (.tup [.agg [.int .i64 0,.int .i64 0,.str []],.int .i64 10])) (.ret (.tup [.agg [.int .i64 1,.int .i64 (whoV s),.str []],.int .i64 0]))))) (.ite (qm8 s) (.ite (bNot (okRs s)) (.ret (.tup [.agg [.int .i64 0,.int .i64 0,.str []],.int .i64 10])) (.ite (iNe (qa5 2 0 (rsV s)) 0) (.ret (.tup [.agg [.int .i64 0,.int .i64 0,.str []],.int .i64 10])) (.ite (sNe (qhz 2 0 (rsV s)) s) (.ret (.tup [.agg [.int .i64 0,.int .i64 0,.str []],.int .i64 10])) (.ret (.tup [.agg [.int .i64 2,.int .i64 0,.str (rsV s)],.int .i64 0]))))) .fail)) .fail) (by kernel_rfl) ?_
  have fin:∀ o:Option (Int×Int×List UInt8),rrV s=o→PV.tup [.agg [.int .i64 (kRd s),.int .i64 (nRd s),.str (sRd s)],.int .i64 (eRd s)]=match o with|some v=>.tup [.agg [.int .i64 v.1,.int .i64 v.2.1,.str v.2.2],.int .i64 0]|none=>.tup [.agg [.int .i64 0,.int .i64 0,.str []],.int .i64 10]:=by
   intro o ho;rw [qWp] at ho;unfold kRd nRd sRd eRd;rw [ho];cases o<;>rfl
  rw [h1];cases hw:whoO s with
  |some n =>
   have w1:qiL s=true:=by unfold qiL;rw [hw];rfl
   have w2:whoV s=n:=by unfold whoV;rw [hw];rfl
   rw [w1,w2];by_cases hc:qa5 1 n []=0∧qhz 1 n []=s
   ·rw [fin (some (1,n,[])) (by unfold rrV;rw [hw];simp only [];rw [if_pos hc])]
    simp [hc]
   ·rw [fin none (by unfold rrV;rw [hw];simp only [];rw [if_neg hc])]
    have:¬ qhz 1 n []=s:=fun h=>hc ⟨qoh n,h⟩
    simp [qoh,this]
  |none =>
   have w1:qiL s=false:=by unfold qiL;rw [hw];rfl
   have w3:okRs s=(rsO s).2:=rfl;have w4:rsV s=(rsO s).1:=rfl;rw [w1,w3,w4];by_cases hc:(rsO s).2=true∧qa5 2 0 (rsO s).1=0∧qhz 2 0 (rsO s).1=s
   ·rw [fin (some (2,0,(rsO s).1)) (by unfold rrV;rw [hw];simp only [];rw [if_pos hc])]
    simp [hc]
   ·rw [fin none (by unfold rrV;rw [hw];simp only [];rw [if_neg hc])]
    by_cases c1:(rsO s).2=true
    ·by_cases c2:qa5 2 0 (rsO s).1=0
     ·have c3:¬ qhz 2 0 (rsO s).1=s:=fun h=>hc ⟨c1,c2,h⟩
      simp [c1,c2,c3]
     ·simp [c1,c2]
    ·simp [c1]
 ·cases h
end Go.Pv
set_option maxHeartbeats 4000000
set_option maxRecDepth 200000
set_option linter.unusedSimpArgs false
set_option linter.unusedVariables false
namespace Go.Pv
open Go Go.Proofs
def qCs:GamT:=ofL []
theorem qJI (gl:Gl):qal Tryz.prog gl (gam qCs):=qaf
def qHP:LpsT:=fun r fr σ=>.fail
section
variable (c:Int)
def qvj:Tr PV:=.ite (iLe 48 c) (.ret (.bool (iLe c 57))) (.ret (.bool false))
theorem qPF:(tcall tbT qCs qHP Tryz.f173 [.int .u8 c]).flat=qvj c:=by kernel_rfl
def qtS:Option PV:=(qvj c).run
def qbw:Bool:=(qeS (gVal (qtS c)))
def qco:Bool:=isW (qtS c) (.bool (qbw c))
end
def qob:List PV→Tr PV|[.int .u8 c]=>.ite (qco c) (.ret (.bool (qbw c))) (.fail)|_=>.fail
theorem qrW (gl:Gl):SimP Tryz.prog gl 173 fun args=>(qob args).run:=by
 refine SimP.of_flat (G:=qCs) (L:=qHP) qaj (qJI gl ) qai  Tryz.func173 rfl (by rfl) (by kernel_rfl) (qac (by kernel_rfl)) ?_
 intro args x h;unfold qob at h
 split at h
 ·exact (congrArg Tr.run (qPF _)).trans (qae h fun h=>by cases h)
 ·cases h
def qrH:GamT:=ofL [(173,.pure qob)]
theorem qEa (gl:Gl):qal Tryz.prog gl (gam qrH):=(qag (qrW gl) qaf)
def qya:LpsT:=fun r fr σ=>.fail
section
variable (c:Int)
def qn1:Tr PV:=let z1:Tr PV:=.ite (iEq c 95) (.ret (.bool true)) (.ite (qco c) (.ret (.bool (qbw c))) .fail);let z2:Tr PV:=.ite (iLe 65 c) (.ite (iLe c 90) (.ret (.bool true)) z1) z1;.ite (iLe 97 c) (.ite (iLe c 122) (.ret (.bool true)) z2) z2
theorem qJE:(tcall tbT qrH qya Tryz.f172 [.int .u8 c]).flat=qn1 c:=by kernel_rfl
def qmh:Option PV:=(qn1 c).run
def qc6:Bool:=(qeS (gVal (qmh c)))
def qc7:Bool:=isW (qmh c) (.bool (qc6 c))
end
def qhg:List PV→Tr PV|[.int .u8 c]=>.ite (qc7 c) (.ret (.bool (qc6 c))) (.fail)|_=>.fail
theorem qkl (gl:Gl):SimP Tryz.prog gl 172 fun args=>(qhg args).run:=by
 refine SimP.of_flat (G:=qrH) (L:=qya) qaj (qEa gl ) qai  Tryz.func172 rfl (by rfl) (by kernel_rfl) (qac (by kernel_rfl)) ?_
 intro args x h;unfold qhg at h
 split at h
 ·exact (congrArg Tr.run (qJE _)).trans (qae h fun h=>by cases h)
 ·cases h
def qxi:GamT:=ofL [(172,.pure qhg),(173,.pure qob)]
theorem qIt (gl:Gl):qal Tryz.prog gl (gam qxi):=(qag (qkl gl) (qag (qrW gl) qaf))
def qvv:Code:=qfZ Tryz.f175 2
def qxh:LI:=⟨20,[0,1,5],fun e=>match e with|.exit 0=>[5]|_=>[],true⟩
def quF:LpsT:=fun r fr σ=>.fail
def qfS (vs:List PV) (σ:Store):Option (PExit×List PV×Store):=lval (lstep tbT qxi quF qvv qxh) vs σ
section
variable (s:qU) (n:Int)
def qoY:Tr LR:=.ite (iLt n (sLen s)) (.ite (qaz s n) (.ite (qc7 (sAt s n)) (.ite (qc6 (sAt s n)) (.ret (.next [.str s,.fn 172 [],.int .i64 (iAdd .i64 n 1)] ⟨[],[],[]⟩)) (.ret (.out (.exit 0) [.int .i64 n] ⟨[],[],[]⟩))) .fail) .fail) (.ret (.out (.exit 0) [.int .i64 n] ⟨[],[],[]⟩))
theorem qRp:lstep tbT qxi quF qvv qxh [.str s,.fn 172 [],.int .i64 n] ⟨[],[],[]⟩=qoY s n:=by kernel_rfl
theorem qKH:qfS [.str s,.fn 172 [],.int .i64 n] ⟨[],[],[]⟩=lnext qfS (qoY s n).run:=by unfold qfS;rw [qaQ,qRp]
def qkn:Tr LR:=.ite (iLt n (sLen s)) (.ite (qaz s n) (.ite (qco (sAt s n)) (.ite (qbw (sAt s n)) (.ret (.next [.str s,.fn 173 [],.int .i64 (iAdd .i64 n 1)] ⟨[],[],[]⟩)) (.ret (.out (.exit 0) [.int .i64 n] ⟨[],[],[]⟩))) .fail) .fail) (.ret (.out (.exit 0) [.int .i64 n] ⟨[],[],[]⟩))
theorem qQt:lstep tbT qxi quF qvv qxh [.str s,.fn 173 [],.int .i64 n] ⟨[],[],[]⟩=qkn s n:=by kernel_rfl
theorem qHZ:qfS [.str s,.fn 173 [],.int .i64 n] ⟨[],[],[]⟩=lnext qfS (qkn s n).run:=by unfold qfS;rw [qaQ,qQt]
def qFV:Option (PExit×List PV×Store):=qfS [.str s,.fn 172 [],.int .i64 n] ⟨[],[],[]⟩
def qBb:Int:=qjR 0 (qFV s n)
def qvI:Bool:=isW (qFV s n) ((.exit 0),[.int .i64 (qBb s n)],⟨[],[],[]⟩)
def qz9:Option (PExit×List PV×Store):=qfS [.str s,.fn 173 [],.int .i64 n] ⟨[],[],[]⟩
def qs6:Int:=qjR 0 (qz9 s n)
def qqE:Bool:=isW (qz9 s n) ((.exit 0),[.int .i64 (qs6 s n)],⟨[],[],[]⟩)
end
def qlL:List PV→Store→Tr (PExit×List PV×Store)|[.str s,.fn 172 [],.int .i64 n],⟨[],[],[]⟩=>.ite (qvI s n) (.ret ((.exit 0),[.int .i64 (qBb s n)],⟨[],[],[]⟩)) (.fail)|[.str s,.fn 173 [],.int .i64 n],⟨[],[],[]⟩=>.ite (qqE s n) (.ret ((.exit 0),[.int .i64 (qs6 s n)],⟨[],[],[]⟩)) (.fail)|_,_=>.fail
theorem qPG:∀ vs σ r,(qlL vs σ).run=some r→qfS vs σ=some r:=by
 intro vs σ r h;unfold qlL at h
 split at h
 ·exact qae h fun h=>by cases h
 ·exact qae h fun h=>by cases h
 ·cases h
theorem qIS (gl:Gl):∀ fr σ e fr' σ',(orc qxh qlL fr σ).run=some (e,fr',σ')→LDoes Tryz.prog gl qvv fr σ e fr' σ':=qcB qaj (qIt gl ) qai (L:=quF) (qac (by kernel_rfl)) (by kernel_rfl) qPG
def qG6:LpsT:=fun r fr σ=>bif Nat.beq r 2 then orc qxh qlL fr σ else .fail
section
variable (s:qU)
def qF1:Tr PV:=.ite (qvI s 0) (.ret (.int .i64 (qBb s 0))) .fail
theorem qVe:(tcall tbT qxi qG6 Tryz.f175 [.str s,.fn 172 []]).flat=qF1 s:=by kernel_rfl
def qIx:Option PV:=(qF1 s).run
def qow:Int:=(gInt (gVal (qIx s)))
def qus:Bool:=isW (qIx s) (.int .i64 (qow s))
def qCw:Tr PV:=.ite (qqE s 0) (.ret (.int .i64 (qs6 s 0))) .fail
theorem qSd:(tcall tbT qxi qG6 Tryz.f175 [.str s,.fn 173 []]).flat=qCw s:=by kernel_rfl
def qBv:Option PV:=(qCw s).run
def qcI:Int:=(gInt (gVal (qBv s)))
def qkc:Bool:=isW (qBv s) (.int .i64 (qcI s))
end
def qHg:List PV→Tr PV|[.str s,.fn 172 []]=>.ite (qus s) (.ret (.int .i64 (qow s))) (.fail)|[.str s,.fn 173 []]=>.ite (qkc s) (.ret (.int .i64 (qcI s))) (.fail)|_=>.fail
theorem qIo (gl:Gl):SimP Tryz.prog gl 175 fun args=>(qHg args).run:=by
 refine SimP.of_flat (G:=qxi) (L:=qG6) qaj (qIt gl ) qai  Tryz.func175 rfl (by rfl) (by kernel_rfl) (qaD (L:=lps qG6) [(2,qvv)] (by kernel_rfl) (List.forall_mem_cons.2 ⟨fun fr σ e fr' σ' h=>qIS gl  fr σ e fr' σ' h,(List.forall_mem_nil _)⟩)) ?_
 intro args x h;unfold qHg at h
 split at h
 ·exact (congrArg Tr.run (qVe _)).trans (qae h fun h=>by cases h)
 ·exact (congrArg Tr.run (qSd _)).trans (qae h fun h=>by cases h)
 ·cases h
def qj6:GamT:=ofL []
theorem qxc (gl:Gl):qal Tryz.prog gl (gam qj6):=qaf
def qlZ:Code:=qfZ Tryz.f176 2
def qmk:LI:=⟨21,[0,3],fun e=>match e with|.ret=>[2]|.exit 0=>[]|_=>[],true⟩
def qn5:LpsT:=fun r fr σ=>.fail
def qb5 (vs:List PV) (σ:Store):Option (PExit×List PV×Store):=lval (lstep tbT qj6 qn5 qlZ qmk) vs σ
section
variable (s:qU) (i:Int)
def qdP:Tr LR:=let z1:Store:=Store.mk [] [] [];.ite (iLt i (sLen s)) (.ite (qaz s i) (.ite (iEq (sAt s i) 92) (.ret (.next [.str s,.int .i64 (iAdd .i64 (iAdd .i64 i 1) 1)] z1)) (.ite (iEq (sAt s i) 34) (.ret (.out .ret [.int .i64 (iAdd .i64 i 1)] z1)) (.ret (.next [.str s,.int .i64 (iAdd .i64 i 1)] z1)))) .fail) (.ret (.out (.exit 0) [] z1))
theorem qJZ:lstep tbT qj6 qn5 qlZ qmk [.str s,.int .i64 i] ⟨[],[],[]⟩=qdP s i:=by kernel_rfl
theorem qx1:qb5 [.str s,.int .i64 i] ⟨[],[],[]⟩=lnext qb5 (qdP s i).run:=by unfold qb5;rw [qaQ,qJZ]
def qhH:Option (PExit×List PV×Store):=qb5 [.str s,.int .i64 i] ⟨[],[],[]⟩
def qev:Int:=qjR 0 (qhH s i)
def qgF:Bool:=isW (qhH s i) (.ret,[.int .i64 (qev s i)],⟨[],[],[]⟩)
def qgy:Bool:=isW (qhH s i) ((.exit 0),[],⟨[],[],[]⟩)
end
def qeT:List PV→Store→Tr (PExit×List PV×Store)|[.str s,.int .i64 i],⟨[],[],[]⟩=>.ite (qgF s i) (.ret (.ret,[.int .i64 (qev s i)],⟨[],[],[]⟩)) (.ite (qgy s i) (.ret ((.exit 0),[],⟨[],[],[]⟩)) (.fail))|_,_=>.fail
theorem qET:∀ vs σ r,(qeT vs σ).run=some r→qb5 vs σ=some r:=by
 intro vs σ r h;unfold qeT at h
 split at h
 ·exact qae h fun h=>qae h fun h=>by cases h
 ·cases h
theorem qzi (gl:Gl):∀ fr σ e fr' σ',(orc qmk qeT fr σ).run=some (e,fr',σ')→LDoes Tryz.prog gl qlZ fr σ e fr' σ':=qcB qaj (qxc gl ) qai (L:=qn5) (qac (by kernel_rfl)) (by kernel_rfl) qET
def quP:LpsT:=fun r fr σ=>bif Nat.beq r 2 then orc qmk qeT fr σ else .fail
section
variable (s:qU)
def qrM:Tr PV:=.ite (qgF s 1) (.ret (.int .i64 (qev s 1))) (.ite (qgy s 1) (.ret (.int .i64 0)) .fail)
theorem qKg:(tcall tbT qj6 quP Tryz.f176 [.str s]).flat=qrM s:=by kernel_rfl
def qoe:Option PV:=(qrM s).run
def qfL:Int:=(gInt (gVal (qoe s)))
def qiM:Bool:=isW (qoe s) (.int .i64 (qfL s))
end
def qwO:List PV→Tr PV|[.str s]=>.ite (qiM s) (.ret (.int .i64 (qfL s))) (.fail)|_=>.fail
theorem qGq (gl:Gl):SimP Tryz.prog gl 176 fun args=>(qwO args).run:=by
 refine SimP.of_flat (G:=qj6) (L:=quP) qaj (qxc gl ) qai  Tryz.func176 rfl (by rfl) (by kernel_rfl) (qaD (L:=lps quP) [(2,qlZ)] (by kernel_rfl) (List.forall_mem_cons.2 ⟨fun fr σ e fr' σ' h=>qzi gl  fr σ e fr' σ' h,(List.forall_mem_nil _)⟩)) ?_
 intro args x h;unfold qwO at h
 split at h
 ·exact (congrArg Tr.run (qKg _)).trans (qae h fun h=>by cases h)
 ·cases h
def qDG:GamT:=ofL [(170,.pure qjs)]
theorem qH2 (gl:Gl):qal Tryz.prog gl (gam qDG):=(qag (qpJ gl) qaf)
def qzo:Code:=qfZ Tryz.f159 2
def qA6:LI:=⟨34,[0,3],fun e=>match e with|.ret=>[2]|.exit 0=>[3]|_=>[],true⟩
def qCy:LpsT:=fun r fr σ=>.fail
def qmK (vs:List PV) (σ:Store):Option (PExit×List PV×Store):=lval (lstep tbT qDG qCy qzo qA6) vs σ
section
variable (s:qU) (at_:Int)
def qiF:Tr LR:=let z1:=sAt s at_;let z2:Store:=Store.mk [] [] [];let z3:=idxV (sSub s (nNat at_) (nLen s)) 10;.ite (iLt at_ (sLen s)) (.ite (qaz s at_) (.ite (iEq z1 32) (.ret (.next [.str s,.int .i64 (iAdd .i64 at_ 1)] z2)) (.ite (iEq z1 9) (.ret (.next [.str s,.int .i64 (iAdd .i64 at_ 1)] z2)) (.ite (iEq z1 10) (.ret (.next [.str s,.int .i64 (iAdd .i64 at_ 1)] z2)) (.ite (iEq z1 13) (.ret (.next [.str s,.int .i64 (iAdd .i64 at_ 1)] z2)) (.ite (iEq z1 37) (.ite (qbc (qay at_) true (nNat at_) (nLen s) (nLen s)) (.ite (iLt z3 0) (.ret (.out .ret [.int .i64 (sLen s)] z2)) (.ret (.next [.str s,.int .i64 (iAdd .i64 at_ z3)] z2))) .fail) (.ret (.out .ret [.int .i64 at_] z2))))))) .fail) (.ret (.out (.exit 0) [.int .i64 at_] z2))
theorem qUE:lstep tbT qDG qCy qzo qA6 [.str s,.int .i64 at_] ⟨[],[],[]⟩=qiF s at_:=by kernel_rfl
theorem qKm:qmK [.str s,.int .i64 at_] ⟨[],[],[]⟩=lnext qmK (qiF s at_).run:=by unfold qmK;rw [qaQ,qUE]
def quS:Option (PExit×List PV×Store):=qmK [.str s,.int .i64 at_] ⟨[],[],[]⟩
def qpC:Int:=qjR 0 (quS s at_)
def qvO:Bool:=isW (quS s at_) (.ret,[.int .i64 (qpC s at_)],⟨[],[],[]⟩)
def qjd:Int:=qjR 0 (quS s at_)
def qvC:Bool:=isW (quS s at_) ((.exit 0),[.int .i64 (qjd s at_)],⟨[],[],[]⟩)
end
def qmp:List PV→Store→Tr (PExit×List PV×Store)|[.str s,.int .i64 at_],⟨[],[],[]⟩=>.ite (qvO s at_) (.ret (.ret,[.int .i64 (qpC s at_)],⟨[],[],[]⟩)) (.ite (qvC s at_) (.ret ((.exit 0),[.int .i64 (qjd s at_)],⟨[],[],[]⟩)) (.fail))|_,_=>.fail
theorem qPf:∀ vs σ r,(qmp vs σ).run=some r→qmK vs σ=some r:=by
 intro vs σ r h;unfold qmp at h
 split at h
 ·exact qae h fun h=>qae h fun h=>by cases h
 ·cases h
theorem qJ4 (gl:Gl):∀ fr σ e fr' σ',(orc qA6 qmp fr σ).run=some (e,fr',σ')→LDoes Tryz.prog gl qzo fr σ e fr' σ':=qcB qaj (qH2 gl ) qai (L:=qCy) (qac (by kernel_rfl)) (by kernel_rfl) qPf
def qN2:LpsT:=fun r fr σ=>bif Nat.beq r 2 then orc qA6 qmp fr σ else .fail
section
variable (s:qU)
def qFv:Tr PV:=.ite (qvO s 0) (.ret (.int .i64 (qpC s 0))) (.ite (qvC s 0) (.ret (.int .i64 (qjd s 0))) .fail)
theorem qVq:(tcall tbT qDG qN2 Tryz.f159 [.str s]).flat=qFv s:=by kernel_rfl
def qHx:Option PV:=(qFv s).run
def qkO:Int:=(gInt (gVal (qHx s)))
def qil:Bool:=isW (qHx s) (.int .i64 (qkO s))
end
def qK2:List PV→Tr PV|[.str s]=>.ite (qil s) (.ret (.int .i64 (qkO s))) (.fail)|_=>.fail
theorem qPk (gl:Gl):SimP Tryz.prog gl 159 fun args=>(qK2 args).run:=by
 refine SimP.of_flat (G:=qDG) (L:=qN2) qaj (qH2 gl ) qai  Tryz.func159 rfl (by rfl) (by kernel_rfl) (qaD (L:=lps qN2) [(2,qzo)] (by kernel_rfl) (List.forall_mem_cons.2 ⟨fun fr σ e fr' σ' h=>qJ4 gl  fr σ e fr' σ' h,(List.forall_mem_nil _)⟩)) ?_
 intro args x h;unfold qK2 at h
 split at h
 ·exact (congrArg Tr.run (qVq _)).trans (qae h fun h=>by cases h)
 ·cases h
def qFH:GamT:=ofL [(172,.pure qhg),(175,.pure qHg)]
theorem qNz (gl:Gl):qal Tryz.prog gl (gam qFH):=(qag (qkl gl) (qag (qIo gl) qaf))
def qOk:LpsT:=fun r fr σ=>.fail
section
variable (s:qU) (k:Int)
def qzk:Tr PV:=.ite (qus s) (.ite (qbc true (qay (qow s)) 0 (nNat (qow s)) (nLen s)) (.ret (.tup [.agg [.int .i64 k,.str (sSub s 0 (nNat (qow s))),.int .i64 0,.int .i64 0,.str [],.int .i64 0],.bool (iLe (qow s) 64)])) .fail) .fail
theorem qTB:(tcall tbT qFH qOk Tryz.f171 [.str s,.int .i64 k]).flat=qzk s k:=by kernel_rfl
def qgV:Option PV:=(qzk s k).run
def qn6:Int:=(gInt (gAt (gCs (gAt (gCs (gVal (qgV s k))) 0)) 0))
def qnL:qU:=(gStr (gAt (gCs (gAt (gCs (gVal (qgV s k))) 0)) 1))
def qiN:Int:=(gInt (gAt (gCs (gAt (gCs (gVal (qgV s k))) 0)) 2))
def qiR:Int:=(gInt (gAt (gCs (gAt (gCs (gVal (qgV s k))) 0)) 3))
def qiQ:qU:=(gStr (gAt (gCs (gAt (gCs (gVal (qgV s k))) 0)) 4))
def qiO:Int:=(gInt (gAt (gCs (gAt (gCs (gVal (qgV s k))) 0)) 5))
def qnn:Bool:=qyt 1 (qgV s k)
def qjZ:Bool:=isW (qgV s k) (.tup [.agg [.int .i64 (qn6 s k),.str (qnL s k),.int .i64 (qiN s k),.int .i64 (qiR s k),.str (qiQ s k),.int .i64 (qiO s k)],.bool (qnn s k)])
end
def qFg:List PV→Tr PV|[.str s,.int .i64 k]=>.ite (qjZ s k) (.ret (.tup [.agg [.int .i64 (qn6 s k),.str (qnL s k),.int .i64 (qiN s k),.int .i64 (qiR s k),.str (qiQ s k),.int .i64 (qiO s k)],.bool (qnn s k)])) (.fail)|_=>.fail
theorem qNR (gl:Gl):SimP Tryz.prog gl 171 fun args=>(qFg args).run:=by
 refine SimP.of_flat (G:=qFH) (L:=qOk) qaj (qNz gl ) qai  Tryz.func171 rfl (by rfl) (by kernel_rfl) (qac (by kernel_rfl)) ?_
 intro args x h;unfold qFg at h
 split at h
 ·exact (congrArg Tr.run (qTB _ _)).trans (qae h fun h=>by cases h)
 ·cases h
def qwM:GamT:=ofL [(189,.pure qyy)]
theorem qFB (gl:Gl) (hg:GlOk gl):qal Tryz.prog gl (gam qwM):=(qag (qPH hg) qaf)
def qDa:LpsT:=fun r fr σ=>.fail
section
variable (s:qU) (k:Int)
def qqQ:Tr PV:=.ite (qm8 s) (.ret (.tup [.agg [.int .i64 k,.str s,.int .i64 (kRd s),.int .i64 (nRd s),.str (sRd s),.int .i64 0],.bool (iEq (eRd s) 0)])) .fail
theorem qM2:(tcall tbT qwM qDa Tryz.f174 [.str s,.int .i64 k]).flat=qqQ s k:=by kernel_rfl
def qcP:Option PV:=(qqQ s k).run
def qdE:Int:=(gInt (gAt (gCs (gAt (gCs (gVal (qcP s k))) 0)) 0))
def qdl:qU:=(gStr (gAt (gCs (gAt (gCs (gVal (qcP s k))) 0)) 1))
def qcy:Int:=(gInt (gAt (gCs (gAt (gCs (gVal (qcP s k))) 0)) 2))
def qcs:Int:=(gInt (gAt (gCs (gAt (gCs (gVal (qcP s k))) 0)) 3))
def qcz:qU:=(gStr (gAt (gCs (gAt (gCs (gVal (qcP s k))) 0)) 4))
def qcq:Int:=(gInt (gAt (gCs (gAt (gCs (gVal (qcP s k))) 0)) 5))
def qdw:Bool:=qyt 1 (qcP s k)
def qd7:Bool:=isW (qcP s k) (.tup [.agg [.int .i64 (qdE s k),.str (qdl s k),.int .i64 (qcy s k),.int .i64 (qcs s k),.str (qcz s k),.int .i64 (qcq s k)],.bool (qdw s k)])
end
def qvU:List PV→Tr PV|[.str s,.int .i64 k]=>.ite (qd7 s k) (.ret (.tup [.agg [.int .i64 (qdE s k),.str (qdl s k),.int .i64 (qcy s k),.int .i64 (qcs s k),.str (qcz s k),.int .i64 (qcq s k)],.bool (qdw s k)])) (.fail)|_=>.fail
theorem qEG (gl:Gl) (hg:GlOk gl):SimP Tryz.prog gl 174 fun args=>(qvU args).run:=by
 refine SimP.of_flat (G:=qwM) (L:=qDa) qaj (qFB gl hg ) qai  Tryz.func174 rfl (by rfl) (by kernel_rfl) (qac (by kernel_rfl)) ?_
 intro args x h;unfold qvU at h
 split at h
 ·exact (congrArg Tr.run (qM2 _ _)).trans (qae h fun h=>by cases h)
 ·cases h
def qwl:GamT:=ofL [(170,.pure qjs),(171,.pure qFg),(172,.pure qhg),(173,.pure qob),(174,.pure qvU),(175,.pure qHg),(176,.pure qwO),(177,.pure quc),(qGp+0,.glob qK9)]
theorem qEm (gl:Gl) (hg:GlLex gl):qal Tryz.prog gl (gam qwl):=(qag (qpJ gl) (qag (qNR gl) (qag (qkl gl) (qag (qrW gl) (qag (qEG gl hg.toGlOk) (qag (qIo gl) (qag (qGq gl) (qag (qxW gl) (qcj (K:=.glob qK9) (qIw hg) qaf)))))))))
def qtw:Code:=qfZ Tryz.f160 16
def qtG:LI:=⟨90,[0,2,4,74,75],fun e=>match e with|.ret=>[2,3]|.exit 1=>[0,2,4]|_=>[],true⟩
def qve:LpsT:=fun r fr σ=>.fail
def qmg (vs:List PV) (σ:Store):Option (PExit×List PV×Store):=lval (lstep tbT qwl qve qtw qtG) vs σ
section
variable (s:qU) (n:Int) (s2 s3 s4 s5:qU) (n2 n3:Int) (s6:qU) (n4 n5:Int) (s7:qU) (n6:Int)
def qbn:Tr LR:=let z1:Store:=Store.mk [[.int .i64 n3,.str s6,.int .i64 n4,.int .i64 n5,.str s7,.int .i64 n6]] [] [44];.ite (iLt n2 4) (.ite (iEq n2 (Int.ofNat 0)) (.ite (qdk s s2) (.ret (.out .ret [.ptr 0 0,.bool true] (Store.mk [[.int .i64 6,.str s2,.int .i64 0,.int .i64 0,.str [],.int .i64 0]] [] [44]))) (.ret (.next [.str s,.ptr 0 0,.int .u8 n,.agg [.str s2,.str s3,.str s4,.str s5],.int .i64 (iAdd .i64 n2 1)] z1))) (.ite (iEq n2 (Int.ofNat 1)) (.ite (qdk s s3) (.ret (.out .ret [.ptr 0 0,.bool true] (Store.mk [[.int .i64 6,.str s3,.int .i64 0,.int .i64 0,.str [],.int .i64 0]] [] [44]))) (.ret (.next [.str s,.ptr 0 0,.int .u8 n,.agg [.str s2,.str s3,.str s4,.str s5],.int .i64 (iAdd .i64 n2 1)] z1))) (.ite (iEq n2 (Int.ofNat 2)) (.ite (qdk s s4) (.ret (.out .ret [.ptr 0 0,.bool true] (Store.mk [[.int .i64 6,.str s4,.int .i64 0,.int .i64 0,.str [],.int .i64 0]] [] [44]))) (.ret (.next [.str s,.ptr 0 0,.int .u8 n,.agg [.str s2,.str s3,.str s4,.str s5],.int .i64 (iAdd .i64 n2 1)] z1))) (.ite (iEq n2 (Int.ofNat 3)) (.ite (qdk s s5) (.ret (.out .ret [.ptr 0 0,.bool true] (Store.mk [[.int .i64 6,.str s5,.int .i64 0,.int .i64 0,.str [],.int .i64 0]] [] [44]))) (.ret (.next [.str s,.ptr 0 0,.int .u8 n,.agg [.str s2,.str s3,.str s4,.str s5],.int .i64 (iAdd .i64 n2 1)] z1))) .fail)))) (.ret (.out (.exit 1) [.str s,.ptr 0 0,.int .u8 n] z1))
theorem qO4:lstep tbT qwl qve qtw qtG [.str s,.ptr 0 0,.int .u8 n,.agg [.str s2,.str s3,.str s4,.str s5],.int .i64 n2] ⟨[[.int .i64 n3,.str s6,.int .i64 n4,.int .i64 n5,.str s7,.int .i64 n6]],[],[44]⟩=qbn s n s2 s3 s4 s5 n2 n3 s6 n4 n5 s7 n6:=by kernel_rfl
theorem qo6:qmg [.str s,.ptr 0 0,.int .u8 n,.agg [.str s2,.str s3,.str s4,.str s5],.int .i64 n2] ⟨[[.int .i64 n3,.str s6,.int .i64 n4,.int .i64 n5,.str s7,.int .i64 n6]],[],[44]⟩=lnext qmg (qbn s n s2 s3 s4 s5 n2 n3 s6 n4 n5 s7 n6).run:=by unfold qmg;rw [qaQ,qO4]
def qa3:Option (PExit×List PV×Store):=qmg [.str s,.ptr 0 0,.int .u8 n,.agg [.str s2,.str s3,.str s4,.str s5],.int .i64 n2] ⟨[[.int .i64 n3,.str s6,.int .i64 n4,.int .i64 n5,.str s7,.int .i64 n6]],[],[44]⟩
def qfl:Bool:=qHB 1 (qa3 s n s2 s3 s4 s5 n2 n3 s6 n4 n5 s7 n6)
def qe1:Int:=qcm 0 0 (qa3 s n s2 s3 s4 s5 n2 n3 s6 n4 n5 s7 n6)
def qe9:qU:=qxk 0 1 (qa3 s n s2 s3 s4 s5 n2 n3 s6 n4 n5 s7 n6)
def qd0:Int:=qcm 0 2 (qa3 s n s2 s3 s4 s5 n2 n3 s6 n4 n5 s7 n6)
def qd5:Int:=qcm 0 3 (qa3 s n s2 s3 s4 s5 n2 n3 s6 n4 n5 s7 n6)
def qd2:qU:=qxk 0 4 (qa3 s n s2 s3 s4 s5 n2 n3 s6 n4 n5 s7 n6)
def qec:Int:=qcm 0 5 (qa3 s n s2 s3 s4 s5 n2 n3 s6 n4 n5 s7 n6)
def qc9:Bool:=isW (qa3 s n s2 s3 s4 s5 n2 n3 s6 n4 n5 s7 n6) (.ret,[.ptr 0 0,.bool (qfl s n s2 s3 s4 s5 n2 n3 s6 n4 n5 s7 n6)],⟨[[.int .i64 (qe1 s n s2 s3 s4 s5 n2 n3 s6 n4 n5 s7 n6),.str (qe9 s n s2 s3 s4 s5 n2 n3 s6 n4 n5 s7 n6),.int .i64 (qd0 s n s2 s3 s4 s5 n2 n3 s6 n4 n5 s7 n6),.int .i64 (qd5 s n s2 s3 s4 s5 n2 n3 s6 n4 n5 s7 n6),.str (qd2 s n s2 s3 s4 s5 n2 n3 s6 n4 n5 s7 n6),.int .i64 (qec s n s2 s3 s4 s5 n2 n3 s6 n4 n5 s7 n6)]],[],[44]⟩)
def qdc:qU:=qTP 0 (qa3 s n s2 s3 s4 s5 n2 n3 s6 n4 n5 s7 n6)
def qdW:Int:=qjR 2 (qa3 s n s2 s3 s4 s5 n2 n3 s6 n4 n5 s7 n6)
def qm7:Int:=qcm 0 0 (qa3 s n s2 s3 s4 s5 n2 n3 s6 n4 n5 s7 n6)
def qnU:qU:=qxk 0 1 (qa3 s n s2 s3 s4 s5 n2 n3 s6 n4 n5 s7 n6)
def qnv:Int:=qcm 0 2 (qa3 s n s2 s3 s4 s5 n2 n3 s6 n4 n5 s7 n6)
def qn3:Int:=qcm 0 3 (qa3 s n s2 s3 s4 s5 n2 n3 s6 n4 n5 s7 n6)
def qn0:qU:=qxk 0 4 (qa3 s n s2 s3 s4 s5 n2 n3 s6 n4 n5 s7 n6)
def qnG:Int:=qcm 0 5 (qa3 s n s2 s3 s4 s5 n2 n3 s6 n4 n5 s7 n6)
def qhn:Bool:=isW (qa3 s n s2 s3 s4 s5 n2 n3 s6 n4 n5 s7 n6) ((.exit 1),[.str (qdc s n s2 s3 s4 s5 n2 n3 s6 n4 n5 s7 n6),.ptr 0 0,.int .u8 (qdW s n s2 s3 s4 s5 n2 n3 s6 n4 n5 s7 n6)],⟨[[.int .i64 (qm7 s n s2 s3 s4 s5 n2 n3 s6 n4 n5 s7 n6),.str (qnU s n s2 s3 s4 s5 n2 n3 s6 n4 n5 s7 n6),.int .i64 (qnv s n s2 s3 s4 s5 n2 n3 s6 n4 n5 s7 n6),.int .i64 (qn3 s n s2 s3 s4 s5 n2 n3 s6 n4 n5 s7 n6),.str (qn0 s n s2 s3 s4 s5 n2 n3 s6 n4 n5 s7 n6),.int .i64 (qnG s n s2 s3 s4 s5 n2 n3 s6 n4 n5 s7 n6)]],[],[44]⟩)
end
def qiK:List PV→Store→Tr (PExit×List PV×Store)|[.str s,.ptr 0 0,.int .u8 n,.agg [.str s2,.str s3,.str s4,.str s5],.int .i64 n2],⟨[[.int .i64 n3,.str s6,.int .i64 n4,.int .i64 n5,.str s7,.int .i64 n6]],[],[44]⟩=>.ite (qc9 s n s2 s3 s4 s5 n2 n3 s6 n4 n5 s7 n6) (.ret (.ret,[.ptr 0 0,.bool (qfl s n s2 s3 s4 s5 n2 n3 s6 n4 n5 s7 n6)],⟨[[.int .i64 (qe1 s n s2 s3 s4 s5 n2 n3 s6 n4 n5 s7 n6),.str (qe9 s n s2 s3 s4 s5 n2 n3 s6 n4 n5 s7 n6),.int .i64 (qd0 s n s2 s3 s4 s5 n2 n3 s6 n4 n5 s7 n6),.int .i64 (qd5 s n s2 s3 s4 s5 n2 n3 s6 n4 n5 s7 n6),.str (qd2 s n s2 s3 s4 s5 n2 n3 s6 n4 n5 s7 n6),.int .i64 (qec s n s2 s3 s4 s5 n2 n3 s6 n4 n5 s7 n6)]],[],[44]⟩)) (.ite (qhn s n s2 s3 s4 s5 n2 n3 s6 n4 n5 s7 n6) (.ret ((.exit 1),[.str (qdc s n s2 s3 s4 s5 n2 n3 s6 n4 n5 s7 n6),.ptr 0 0,.int .u8 (qdW s n s2 s3 s4 s5 n2 n3 s6 n4 n5 s7 n6)],⟨[[.int .i64 (qm7 s n s2 s3 s4 s5 n2 n3 s6 n4 n5 s7 n6),.str (qnU s n s2 s3 s4 s5 n2 n3 s6 n4 n5 s7 n6),.int .i64 (qnv s n s2 s3 s4 s5 n2 n3 s6 n4 n5 s7 n6),.int .i64 (qn3 s n s2 s3 s4 s5 n2 n3 s6 n4 n5 s7 n6),.str (qn0 s n s2 s3 s4 s5 n2 n3 s6 n4 n5 s7 n6),.int .i64 (qnG s n s2 s3 s4 s5 n2 n3 s6 n4 n5 s7 n6)]],[],[44]⟩)) (.fail))|_,_=>.fail
theorem qKG:∀ vs σ r,(qiK vs σ).run=some r→qmg vs σ=some r:=by
 intro vs σ r h;unfold qiK at h
 split at h
 ·exact qae h fun h=>qae h fun h=>by cases h
 ·cases h
theorem qGG (gl:Gl) (hg:GlLex gl):∀ fr σ e fr' σ',(orc qtG qiK fr σ).run=some (e,fr',σ')→LDoes Tryz.prog gl qtw fr σ e fr' σ':=qcB qaj (qEm gl hg ) qai (L:=qve) (qac (by kernel_rfl)) (by kernel_rfl) qKG
def qGm:LpsT:=fun r fr σ=>bif Nat.beq r 16 then orc qtG qiK fr σ else .fail
section
variable (v:qU)
def qeP:Tr PV:=let z1:=sAt v 0;let z2:Tr PV:=.ite (qjZ v 1) (.ret (.tup [.agg [.int .i64 (qn6 v 1),.str (qnL v 1),.int .i64 (qiN v 1),.int .i64 (qiR v 1),.str (qiQ v 1),.int .i64 (qiO v 1)],.bool (qnn v 1)])) .fail;let z3:Tr PV:=.ite (qjZ v 2) (.ret (.tup [.agg [.int .i64 (qn6 v 2),.str (qnL v 2),.int .i64 (qiN v 2),.int .i64 (qiR v 2),.str (qiQ v 2),.int .i64 (qiO v 2)],.bool (qnn v 2)])) .fail;let z4:=iAdd .i64 1 (qcI (sSub v (nNat 1) (nLen v)));let z5:=sSub v 0 (nNat z4);let z6:Tr PV:=.ite (qbc (qay 1) true (nNat 1) (nLen v) (nLen v)) (.ite (qkc (sSub v (nNat 1) (nLen v))) (.ite (qbc true (qay z4) 0 (nNat z4) (nLen v)) (.ite (qd7 z5 4) (.ret (.tup [.agg [.int .i64 (qdE z5 4),.str (qdl z5 4),.int .i64 (qcy z5 4),.int .i64 (qcs z5 4),.str (qcz z5 4),.int .i64 (qcq z5 4)],.bool (qdw z5 4)])) .fail) .fail) .fail) .fail;let z7:=sSub v 0 (nNat (qfL v));let z8:=qdc v z1 [58,45] [60,61] [62,61] [33,61] 0 0 [] 0 0 [] 0;let z9:Tr PV:=.ite (iEq z1 34) (.ite (qiM v) (.ite (qbc true (qay (qfL v)) 0 (nNat (qfL v)) (nLen v)) (.ite (qd7 z7 5) (.ret (.tup [.agg [.int .i64 (qdE z7 5),.str (qdl z7 5),.int .i64 (qcy z7 5),.int .i64 (qcs z7 5),.str (qcz z7 5),.int .i64 (qcq z7 5)],.bool (qdw z7 5)])) .fail) .fail) .fail) (.ite (qc9 v z1 [58,45] [60,61] [62,61] [33,61] 0 0 [] 0 0 [] 0) (.ret (.tup [.agg [.int .i64 (qe1 v z1 [58,45] [60,61] [62,61] [33,61] 0 0 [] 0 0 [] 0),.str (qe9 v z1 [58,45] [60,61] [62,61] [33,61] 0 0 [] 0 0 [] 0),.int .i64 (qd0 v z1 [58,45] [60,61] [62,61] [33,61] 0 0 [] 0 0 [] 0),.int .i64 (qd5 v z1 [58,45] [60,61] [62,61] [33,61] 0 0 [] 0 0 [] 0),.str (qd2 v z1 [58,45] [60,61] [62,61] [33,61] 0 0 [] 0 0 [] 0),.int .i64 (qec v z1 [58,45] [60,61] [62,61] [33,61] 0 0 [] 0 0 [] 0)],.bool (qfl v z1 [58,45] [60,61] [62,61] [33,61] 0 0 [] 0 0 [] 0)])) (.ite (qhn v z1 [58,45] [60,61] [62,61] [33,61] 0 0 [] 0 0 [] 0) (.ite (qbc true (qay 1) 0 (nNat 1) (nLen z8)) (.ret (.tup [.agg [.int .i64 6,.str (sSub z8 0 (nNat 1)),.int .i64 0,.int .i64 0,.str [],.int .i64 0],.bool (iLe 0 (idxV [40,41,44,46,43,45,61,58,60,62] (qdW v z1 [58,45] [60,61] [62,61] [33,61] 0 0 [] 0 0 [] 0)))])) .fail) .fail));let z10:Tr PV:=.ite (iEq z1 95) (.ite (qc7 (sAt v 1)) (.ret (.tup [.agg [.int .i64 3,.str [95],.int .i64 0,.int .i64 0,.str [],.int .i64 0],.bool (bNot (qc6 (sAt v 1)))])) .fail) (.ite (qco z1) (.ite (qbw z1) z6 (.ite (iEq z1 45) (.ite (qco (sAt v 1)) (.ite (qbw (sAt v 1)) z6 z9) .fail) z9)) .fail);let z11:Tr PV:=.ite (iLe 65 z1) (.ite (iLe z1 90) z3 z10) z10;let z12:Tr PV:=.ite (iEq z1 95) (.ite (qc7 0) (.ret (.tup [.agg [.int .i64 3,.str [95],.int .i64 0,.int .i64 0,.str [],.int .i64 0],.bool (bNot (qc6 0))])) .fail) (.ite (qco z1) (.ite (qbw z1) z6 (.ite (iEq z1 45) (.ite (qco 0) (.ite (qbw 0) z6 z9) .fail) z9)) .fail);let z13:Tr PV:=.ite (iLe 65 z1) (.ite (iLe z1 90) z3 z12) z12;.ite (qaz v 0) (.ite (iLt 1 (sLen v)) (.ite (qaz v 1) (.ite (iLe 97 z1) (.ite (iLe z1 122) z2 z11) z11) .fail) (.ite (iLe 97 z1) (.ite (iLe z1 122) z2 z13) z13)) .fail
theorem qUj:(tcall tbT qwl qGm Tryz.f160 [.str v]).flat=qeP v:=by kernel_rfl
def qbf:Option PV:=(qeP v).run
def qfD:Int:=(gInt (gAt (gCs (gAt (gCs (gVal (qbf v))) 0)) 0))
def qd9:qU:=(gStr (gAt (gCs (gAt (gCs (gVal (qbf v))) 0)) 1))
def qdg:Int:=(gInt (gAt (gCs (gAt (gCs (gVal (qbf v))) 0)) 2))
def qdB:Int:=(gInt (gAt (gCs (gAt (gCs (gVal (qbf v))) 0)) 3))
def qdo:qU:=(gStr (gAt (gCs (gAt (gCs (gVal (qbf v))) 0)) 4))
def qzD:Int:=(gInt (gAt (gCs (gAt (gCs (gVal (qbf v))) 0)) 5))
def qnK:Bool:=qyt 1 (qbf v)
def qkg:Bool:=isW (qbf v) (.tup [.agg [.int .i64 (qfD v),.str (qd9 v),.int .i64 (qdg v),.int .i64 (qdB v),.str (qdo v),.int .i64 (qzD v)],.bool (qnK v)])
end
def qFX:List PV→Tr PV|[.str v]=>.ite (qkg v) (.ret (.tup [.agg [.int .i64 (qfD v),.str (qd9 v),.int .i64 (qdg v),.int .i64 (qdB v),.str (qdo v),.int .i64 (qzD v)],.bool (qnK v)])) (.fail)|_=>.fail
theorem qND (gl:Gl) (hg:GlLex gl):SimP Tryz.prog gl 160 fun args=>(qFX args).run:=by
 refine SimP.of_flat (G:=qwl) (L:=qGm) qaj (qEm gl hg ) qai  Tryz.func160 rfl (by rfl) (by kernel_rfl) (qaD (L:=lps qGm) [(16,qtw)] (by kernel_rfl) (List.forall_mem_cons.2 ⟨fun fr σ e fr' σ' h=>qGG gl hg  fr σ e fr' σ' h,(List.forall_mem_nil _)⟩)) ?_
 intro args x h;unfold qFX at h
 split at h
 ·exact (congrArg Tr.run (qUj _)).trans (qae h fun h=>by cases h)
 ·cases h
end Go.Pv
set_option maxHeartbeats 4000000
set_option maxRecDepth 200000
set_option linter.unusedSimpArgs false
set_option linter.unusedVariables false
namespace Go.Pv
open Go Go.Proofs Go.RowKit
def qla:Code:=rngC Tryz.f82 500007
def qCt:RI:=⟨24,[2,3,4,5,12],[2,3,4,5],[.ptr 0 0,.ptr 1 0,.ptr 2 0,.ptr 3 0],[13,14],1⟩
def qw0:Nat→List PV→Store→Tr (PV×Store):=rtree tbT (ofL []) (fun _ _ _=>.fail) qCt (rngX qla) (rngY qla)
end Go.Pv
set_option maxHeartbeats 4000000
set_option maxRecDepth 200000
set_option linter.unusedSimpArgs false
set_option linter.unusedVariables false
namespace Go.Pv
open Go Go.Proofs
def qJp:GamT:=ofL [(159,.pure qK2),(160,.pure qFX),(qeM,.yld 1 qw0)]
theorem qNk (gl:Gl) (hg:GlLex gl) (hy:qsj Tryz.prog gl qeM (.yld 1 fun t a σ=>(qw0 t a σ).run)):qal Tryz.prog gl (gam qJp):=(qag (qPk gl) (qag (qND gl hg) (qcj (K:=.yld 1 qw0) hy qaf)))
def qD0:Code:=qfZ Tryz.f158 1
def qDk:LI:=⟨41,[0,1,3],fun e=>match e with|.ret=>[]|.exit 0=>[]|_=>[],true⟩
def qA0:LpsT:=fun r fr σ=>.fail
def qfJ (vs:List PV) (σ:Store):Option (PExit×List PV×Store):=lval (lstep tbT qJp qA0 qD0 qDk) vs σ
section
variable (at_:Int) (r:qR) (n n2:Int) (r2:qR) (s:qU)
def qv0:Tr LR:=let z1:=nLen s;let z2:=sSub s (nNat at_) z1;let z3:=bNot (qnK z2);let z4:Store:=Store.mk [[.sl (qaF 5 (qaF 6 [])) .full],[.int .i64 at_],[.int .i64 120],[.sl (qaF 5 (qaF 6 r2)) .full],[.str s]] [(2,0,1)] [36,3,28,36,9];let z5:=iAdd .i64 at_ (sLen (qd9 z2));let z6:=qbc (qay z5) true (nNat z5) z1 z1;let z7:=qil (sSub s (nNat z5) z1);let z8:=xApp r2 [[.int .i64 (qfD z2),.str (qd9 z2),.int .i64 (qdg z2),.int .i64 (qdB z2),.str (qdo z2),.int .i64 at_]];let z9:Store:=Store.mk [[.sl (qaF 5 (qaF 6 r)) .full],[.int .i64 n],[.int .i64 n2],[.sl (qaF 5 (qaF 6 z8)) (.tok 1)],[.str s]] [(0,0,1),(nXs z8,6,44)] [36,3,28,36,9];.ite (iLt at_ (sLen s)) (.ite (qbc (qay at_) true (nNat at_) z1 z1) (.ite (qkg z2) (.ite (nEq 0 0) (.ite z3 (.ite true (.ret (.out .ret [] z4)) (.ite z3 (.ret (.out .ret [] z4)) (.ite z6 (.ite z7 (.ret (.next [.yld 0,.ptr 4 0,.int .i64 (iAdd .i64 z5 (qkO (sSub s (nNat z5) z1)))] z4)) .fail) .fail))) (.ite (qav r2 [[.int .i64 (qfD z2),.str (qd9 z2),.int .i64 (qdg z2),.int .i64 (qdB z2),.str (qdo z2),.int .i64 at_]] 64) (.ite (qaq [[.int .i64 (qfD z2),.str (qd9 z2),.int .i64 (qdg z2),.int .i64 (qdB z2),.str (qdo z2),.int .i64 at_]] 6) (.ite (qao r2 6) (.ite false (.ret (.out .ret [] z9)) (.ite z3 (.ret (.out .ret [] z9)) (.ite z6 (.ite z7 (.ret (.next [.yld 0,.ptr 4 0,.int .i64 (iAdd .i64 z5 (qkO (sSub s (nNat z5) z1)))] z9)) .fail) .fail))) .fail) .fail) .fail)) .fail) .fail) .fail) (.ret (.out (.exit 0) [] (Store.mk [[.sl r .full],[.int .i64 n],[.int .i64 n2],[.sl r2 .full],[.str s]] [(0,0,1)] [36,3,28,36,9])))
theorem qVn:lstep tbT qJp qA0 qD0 qDk [.yld 0,.ptr 4 0,.int .i64 at_] ⟨[[.sl r .full],[.int .i64 n],[.int .i64 n2],[.sl r2 .full],[.str s]],[(0,0,1)],[36,3,28,36,9]⟩=qv0 at_ r n n2 r2 s:=by kernel_rfl
theorem qKY:qfJ [.yld 0,.ptr 4 0,.int .i64 at_] ⟨[[.sl r .full],[.int .i64 n],[.int .i64 n2],[.sl r2 .full],[.str s]],[(0,0,1)],[36,3,28,36,9]⟩=lnext qfJ (qv0 at_ r n n2 r2 s).run:=by unfold qfJ;rw [qaQ,qVn]
end
section
variable (at_:Int) (r:qR) (n n2:Int) (r2:qR) (s:qU) (k:Nat)
def qqd:Tr LR:=let z1:=nLen s;let z2:=sSub s (nNat at_) z1;let z3:=bNot (qnK z2);let z4:Store:=Store.mk [[.sl (qaF 5 (qaF 6 [])) .full],[.int .i64 at_],[.int .i64 120],[.sl (qaF 5 (qaF 6 r2)) (.tok 1)],[.str s]] [(2,0,1),(k,6,44)] [36,3,28,36,9];let z5:=iAdd .i64 at_ (sLen (qd9 z2));let z6:=qbc (qay z5) true (nNat z5) z1 z1;let z7:=qil (sSub s (nNat z5) z1);let z8:=xApp r2 [[.int .i64 (qfD z2),.str (qd9 z2),.int .i64 (qdg z2),.int .i64 (qdB z2),.str (qdo z2),.int .i64 at_]];let z9:Store:=Store.mk [[.sl (qaF 5 (qaF 6 r)) .full],[.int .i64 n],[.int .i64 n2],[.sl (qaF 5 (qaF 6 z8)) (.tok 1)],[.str s]] [(0,0,1),(nXs z8,6,44)] [36,3,28,36,9];.ite (iLt at_ (sLen s)) (.ite (qbc (qay at_) true (nNat at_) z1 z1) (.ite (qkg z2) (.ite (nEq 0 0) (.ite z3 (.ite true (.ret (.out .ret [] z4)) (.ite z3 (.ret (.out .ret [] z4)) (.ite z6 (.ite z7 (.ret (.next [.yld 0,.ptr 4 0,.int .i64 (iAdd .i64 z5 (qkO (sSub s (nNat z5) z1)))] z4)) .fail) .fail))) (.ite (qav r2 [[.int .i64 (qfD z2),.str (qd9 z2),.int .i64 (qdg z2),.int .i64 (qdB z2),.str (qdo z2),.int .i64 at_]] 64) (.ite (qaq [[.int .i64 (qfD z2),.str (qd9 z2),.int .i64 (qdg z2),.int .i64 (qdB z2),.str (qdo z2),.int .i64 at_]] 6) (.ite (qao r2 6) (.ite (nEq k (nXs r2)) (.ite false (.ret (.out .ret [] z9)) (.ite z3 (.ret (.out .ret [] z9)) (.ite z6 (.ite z7 (.ret (.next [.yld 0,.ptr 4 0,.int .i64 (iAdd .i64 z5 (qkO (sSub s (nNat z5) z1)))] z9)) .fail) .fail))) .fail) .fail) .fail) .fail)) .fail) .fail) .fail) (.ret (.out (.exit 0) [] (Store.mk [[.sl r .full],[.int .i64 n],[.int .i64 n2],[.sl r2 (.tok 1)],[.str s]] [(0,0,1),(k,6,44)] [36,3,28,36,9])))
theorem qS5:lstep tbT qJp qA0 qD0 qDk [.yld 0,.ptr 4 0,.int .i64 at_] ⟨[[.sl r .full],[.int .i64 n],[.int .i64 n2],[.sl r2 (.tok 1)],[.str s]],[(0,0,1),(k,6,44)],[36,3,28,36,9]⟩=qqd at_ r n n2 r2 s k:=by kernel_rfl
theorem qGC:qfJ [.yld 0,.ptr 4 0,.int .i64 at_] ⟨[[.sl r .full],[.int .i64 n],[.int .i64 n2],[.sl r2 (.tok 1)],[.str s]],[(0,0,1),(k,6,44)],[36,3,28,36,9]⟩=lnext qfJ (qqd at_ r n n2 r2 s k).run:=by unfold qfJ;rw [qaQ,qS5]
end
section
variable (at_:Int) (r:qR) (n n2:Int) (r2:qR) (s:qU)
def qaK:Option (PExit×List PV×Store):=qfJ [.yld 0,.ptr 4 0,.int .i64 at_] ⟨[[.sl r .full],[.int .i64 n],[.int .i64 n2],[.sl r2 .full],[.str s]],[(0,0,1)],[36,3,28,36,9]⟩
def qiX:qR:=qa8 0 0 (qaK at_ r n n2 r2 s)
def qjo:Int:=qcm 1 0 (qaK at_ r n n2 r2 s)
def qgh:Int:=qcm 2 0 (qaK at_ r n n2 r2 s)
def qf0:qR:=qa8 3 0 (qaK at_ r n n2 r2 s)
def qis:qU:=qxk 4 0 (qaK at_ r n n2 r2 s)
def qlJ:Bool:=isW (qaK at_ r n n2 r2 s) (.ret,[],⟨[[.sl (qiX at_ r n n2 r2 s) .full],[.int .i64 (qjo at_ r n n2 r2 s)],[.int .i64 (qgh at_ r n n2 r2 s)],[.sl (qf0 at_ r n n2 r2 s) .full],[.str (qis at_ r n n2 r2 s)]],[(2,0,1)],[36,3,28,36,9]⟩)
def qi7:qR:=qa8 0 0 (qaK at_ r n n2 r2 s)
def qiS:Int:=qcm 1 0 (qaK at_ r n n2 r2 s)
def qgg:Int:=qcm 2 0 (qaK at_ r n n2 r2 s)
def qfU:qR:=qa8 3 0 (qaK at_ r n n2 r2 s)
def qjj:qU:=qxk 4 0 (qaK at_ r n n2 r2 s)
def qiq:Nat:=(gTok (qaK at_ r n n2 r2 s) 1)
def qlU:Bool:=isW (qaK at_ r n n2 r2 s) (.ret,[],⟨[[.sl (qi7 at_ r n n2 r2 s) .full],[.int .i64 (qiS at_ r n n2 r2 s)],[.int .i64 (qgg at_ r n n2 r2 s)],[.sl (qfU at_ r n n2 r2 s) (.tok 1)],[.str (qjj at_ r n n2 r2 s)]],[(0,0,1),((qiq at_ r n n2 r2 s),6,44)],[36,3,28,36,9]⟩)
def qi5:qR:=qa8 0 0 (qaK at_ r n n2 r2 s)
def qjg:Int:=qcm 1 0 (qaK at_ r n n2 r2 s)
def qfP:Int:=qcm 2 0 (qaK at_ r n n2 r2 s)
def qfR:qR:=qa8 3 0 (qaK at_ r n n2 r2 s)
def qiT:qU:=qxk 4 0 (qaK at_ r n n2 r2 s)
def qlv:Bool:=isW (qaK at_ r n n2 r2 s) ((.exit 0),[],⟨[[.sl (qi5 at_ r n n2 r2 s) .full],[.int .i64 (qjg at_ r n n2 r2 s)],[.int .i64 (qfP at_ r n n2 r2 s)],[.sl (qfR at_ r n n2 r2 s) .full],[.str (qiT at_ r n n2 r2 s)]],[(0,0,1)],[36,3,28,36,9]⟩)
def qjB:qR:=qa8 0 0 (qaK at_ r n n2 r2 s)
def qi8:Int:=qcm 1 0 (qaK at_ r n n2 r2 s)
def qfq:Int:=qcm 2 0 (qaK at_ r n n2 r2 s)
def qfV:qR:=qa8 3 0 (qaK at_ r n n2 r2 s)
def qim:qU:=qxk 4 0 (qaK at_ r n n2 r2 s)
def ql4:Bool:=isW (qaK at_ r n n2 r2 s) ((.exit 0),[],⟨[[.sl (qjB at_ r n n2 r2 s) .full],[.int .i64 (qi8 at_ r n n2 r2 s)],[.int .i64 (qfq at_ r n n2 r2 s)],[.sl (qfV at_ r n n2 r2 s) .full],[.str (qim at_ r n n2 r2 s)]],[(2,0,1)],[36,3,28,36,9]⟩)
def qiy:qR:=qa8 0 0 (qaK at_ r n n2 r2 s)
def qiI:Int:=qcm 1 0 (qaK at_ r n n2 r2 s)
def qfn:Int:=qcm 2 0 (qaK at_ r n n2 r2 s)
def qfO:qR:=qa8 3 0 (qaK at_ r n n2 r2 s)
def qjt:qU:=qxk 4 0 (qaK at_ r n n2 r2 s)
def qiJ:Nat:=(gTok (qaK at_ r n n2 r2 s) 1)
def qlk:Bool:=isW (qaK at_ r n n2 r2 s) (.ret,[],⟨[[.sl (qiy at_ r n n2 r2 s) .full],[.int .i64 (qiI at_ r n n2 r2 s)],[.int .i64 (qfn at_ r n n2 r2 s)],[.sl (qfO at_ r n n2 r2 s) (.tok 1)],[.str (qjt at_ r n n2 r2 s)]],[(2,0,1),((qiJ at_ r n n2 r2 s),6,44)],[36,3,28,36,9]⟩)
def qiV:qR:=qa8 0 0 (qaK at_ r n n2 r2 s)
def qiB:Int:=qcm 1 0 (qaK at_ r n n2 r2 s)
def qfQ:Int:=qcm 2 0 (qaK at_ r n n2 r2 s)
def qfG:qR:=qa8 3 0 (qaK at_ r n n2 r2 s)
def qjy:qU:=qxk 4 0 (qaK at_ r n n2 r2 s)
def qjh:Nat:=(gTok (qaK at_ r n n2 r2 s) 1)
def qld:Bool:=isW (qaK at_ r n n2 r2 s) ((.exit 0),[],⟨[[.sl (qiV at_ r n n2 r2 s) .full],[.int .i64 (qiB at_ r n n2 r2 s)],[.int .i64 (qfQ at_ r n n2 r2 s)],[.sl (qfG at_ r n n2 r2 s) (.tok 1)],[.str (qjy at_ r n n2 r2 s)]],[(0,0,1),((qjh at_ r n n2 r2 s),6,44)],[36,3,28,36,9]⟩)
def qiC:qR:=qa8 0 0 (qaK at_ r n n2 r2 s)
def qik:Int:=qcm 1 0 (qaK at_ r n n2 r2 s)
def qfs:Int:=qcm 2 0 (qaK at_ r n n2 r2 s)
def qfx:qR:=qa8 3 0 (qaK at_ r n n2 r2 s)
def qjI:qU:=qxk 4 0 (qaK at_ r n n2 r2 s)
def qjn:Nat:=(gTok (qaK at_ r n n2 r2 s) 1)
def qmf:Bool:=isW (qaK at_ r n n2 r2 s) ((.exit 0),[],⟨[[.sl (qiC at_ r n n2 r2 s) .full],[.int .i64 (qik at_ r n n2 r2 s)],[.int .i64 (qfs at_ r n n2 r2 s)],[.sl (qfx at_ r n n2 r2 s) (.tok 1)],[.str (qjI at_ r n n2 r2 s)]],[(2,0,1),((qjn at_ r n n2 r2 s),6,44)],[36,3,28,36,9]⟩)
end
def qo2:List PV→Store→Tr (PExit×List PV×Store)|[.yld 0,.ptr 4 0,.int .i64 at_],⟨[[.sl r .full],[.int .i64 n],[.int .i64 n2],[.sl r2 .full],[.str s]],[(0,0,1)],[36,3,28,36,9]⟩=>.ite (qlJ at_ r n n2 r2 s) (.ret (.ret,[],⟨[[.sl (qiX at_ r n n2 r2 s) .full],[.int .i64 (qjo at_ r n n2 r2 s)],[.int .i64 (qgh at_ r n n2 r2 s)],[.sl (qf0 at_ r n n2 r2 s) .full],[.str (qis at_ r n n2 r2 s)]],[(2,0,1)],[36,3,28,36,9]⟩)) (.ite (qlU at_ r n n2 r2 s) (.ret (.ret,[],⟨[[.sl (qi7 at_ r n n2 r2 s) .full],[.int .i64 (qiS at_ r n n2 r2 s)],[.int .i64 (qgg at_ r n n2 r2 s)],[.sl (qfU at_ r n n2 r2 s) (.tok 1)],[.str (qjj at_ r n n2 r2 s)]],[(0,0,1),((qiq at_ r n n2 r2 s),6,44)],[36,3,28,36,9]⟩)) (.ite (qlv at_ r n n2 r2 s) (.ret ((.exit 0),[],⟨[[.sl (qi5 at_ r n n2 r2 s) .full],[.int .i64 (qjg at_ r n n2 r2 s)],[.int .i64 (qfP at_ r n n2 r2 s)],[.sl (qfR at_ r n n2 r2 s) .full],[.str (qiT at_ r n n2 r2 s)]],[(0,0,1)],[36,3,28,36,9]⟩)) (.ite (ql4 at_ r n n2 r2 s) (.ret ((.exit 0),[],⟨[[.sl (qjB at_ r n n2 r2 s) .full],[.int .i64 (qi8 at_ r n n2 r2 s)],[.int .i64 (qfq at_ r n n2 r2 s)],[.sl (qfV at_ r n n2 r2 s) .full],[.str (qim at_ r n n2 r2 s)]],[(2,0,1)],[36,3,28,36,9]⟩)) (.ite (qlk at_ r n n2 r2 s) (.ret (.ret,[],⟨[[.sl (qiy at_ r n n2 r2 s) .full],[.int .i64 (qiI at_ r n n2 r2 s)],[.int .i64 (qfn at_ r n n2 r2 s)],[.sl (qfO at_ r n n2 r2 s) (.tok 1)],[.str (qjt at_ r n n2 r2 s)]],[(2,0,1),((qiJ at_ r n n2 r2 s),6,44)],[36,3,28,36,9]⟩)) (.ite (qld at_ r n n2 r2 s) (.ret ((.exit 0),[],⟨[[.sl (qiV at_ r n n2 r2 s) .full],[.int .i64 (qiB at_ r n n2 r2 s)],[.int .i64 (qfQ at_ r n n2 r2 s)],[.sl (qfG at_ r n n2 r2 s) (.tok 1)],[.str (qjy at_ r n n2 r2 s)]],[(0,0,1),((qjh at_ r n n2 r2 s),6,44)],[36,3,28,36,9]⟩)) (.ite (qmf at_ r n n2 r2 s) (.ret ((.exit 0),[],⟨[[.sl (qiC at_ r n n2 r2 s) .full],[.int .i64 (qik at_ r n n2 r2 s)],[.int .i64 (qfs at_ r n n2 r2 s)],[.sl (qfx at_ r n n2 r2 s) (.tok 1)],[.str (qjI at_ r n n2 r2 s)]],[(2,0,1),((qjn at_ r n n2 r2 s),6,44)],[36,3,28,36,9]⟩)) (.fail)))))))|_,_=>.fail
theorem qUs:∀ vs σ r,(qo2 vs σ).run=some r→qfJ vs σ=some r:=by
 intro vs σ r h;unfold qo2 at h
 split at h
 ·exact qae h fun h=>qae h fun h=>qae h fun h=>qae h fun h=>qae h fun h=>qae h fun h=>qae h fun h=>by cases h
 ·cases h
theorem qOf (gl:Gl) (hg:GlLex gl) (hy:qsj Tryz.prog gl qeM (.yld 1 fun t a σ=>(qw0 t a σ).run)):∀ fr σ e fr' σ',(orc qDk qo2 fr σ).run=some (e,fr',σ')→LDoes Tryz.prog gl qD0 fr σ e fr' σ':=qcB qaj (qNk gl hg hy ) qai (L:=qA0) (qac (by kernel_rfl)) (by kernel_rfl) qUs
def qTV:LpsT:=fun r fr σ=>bif Nat.beq r 1 then orc qDk qo2 fr σ else .fail
section
variable (r:qR) (n n2:Int) (r2:qR) (s:qU)
def qKM:Tr (PV×Store):=let z1:=qkO s;.ite (qil s) (.ite (qlJ z1 r n n2 r2 s) (.ret (.tup [],Store.mk [[.sl (qiX z1 r n n2 r2 s) .full],[.int .i64 (qjo z1 r n n2 r2 s)],[.int .i64 (qgh z1 r n n2 r2 s)],[.sl (qf0 z1 r n n2 r2 s) .full],[.str (qis z1 r n n2 r2 s)]] [(2,0,1)] [36,3,28,36,9])) (.ite (qlU z1 r n n2 r2 s) (.ret (.tup [],Store.mk [[.sl (qi7 z1 r n n2 r2 s) .full],[.int .i64 (qiS z1 r n n2 r2 s)],[.int .i64 (qgg z1 r n n2 r2 s)],[.sl (qfU z1 r n n2 r2 s) (.tok 1)],[.str (qjj z1 r n n2 r2 s)]] [(0,0,1),(qiq z1 r n n2 r2 s,6,44)] [36,3,28,36,9])) (.ite (qlv z1 r n n2 r2 s) (.ret (.tup [],Store.mk [[.sl (qi5 z1 r n n2 r2 s) .full],[.int .i64 (qjg z1 r n n2 r2 s)],[.int .i64 (qfP z1 r n n2 r2 s)],[.sl (qfR z1 r n n2 r2 s) .full],[.str (qiT z1 r n n2 r2 s)]] [(0,0,1)] [36,3,28,36,9])) (.ite (ql4 z1 r n n2 r2 s) (.ret (.tup [],Store.mk [[.sl (qjB z1 r n n2 r2 s) .full],[.int .i64 (qi8 z1 r n n2 r2 s)],[.int .i64 (qfq z1 r n n2 r2 s)],[.sl (qfV z1 r n n2 r2 s) .full],[.str (qim z1 r n n2 r2 s)]] [(2,0,1)] [36,3,28,36,9])) (.ite (qlk z1 r n n2 r2 s) (.ret (.tup [],Store.mk [[.sl (qiy z1 r n n2 r2 s) .full],[.int .i64 (qiI z1 r n n2 r2 s)],[.int .i64 (qfn z1 r n n2 r2 s)],[.sl (qfO z1 r n n2 r2 s) (.tok 1)],[.str (qjt z1 r n n2 r2 s)]] [(2,0,1),(qiJ z1 r n n2 r2 s,6,44)] [36,3,28,36,9])) (.ite (qld z1 r n n2 r2 s) (.ret (.tup [],Store.mk [[.sl (qiV z1 r n n2 r2 s) .full],[.int .i64 (qiB z1 r n n2 r2 s)],[.int .i64 (qfQ z1 r n n2 r2 s)],[.sl (qfG z1 r n n2 r2 s) (.tok 1)],[.str (qjy z1 r n n2 r2 s)]] [(0,0,1),(qjh z1 r n n2 r2 s,6,44)] [36,3,28,36,9])) (.ite (qmf z1 r n n2 r2 s) (.ret (.tup [],Store.mk [[.sl (qiC z1 r n n2 r2 s) .full],[.int .i64 (qik z1 r n n2 r2 s)],[.int .i64 (qfs z1 r n n2 r2 s)],[.sl (qfx z1 r n n2 r2 s) (.tok 1)],[.str (qjI z1 r n n2 r2 s)]] [(2,0,1),(qjn z1 r n n2 r2 s,6,44)] [36,3,28,36,9])) .fail))))))) .fail
theorem qWq:(qop tbT qJp qTV Tryz.f158 [.yld 0,.ptr 4 0] ⟨[[.sl r .full],[.int .i64 n],[.int .i64 n2],[.sl r2 .full],[.str s]],[(0,0,1)],[36,3,28,36,9]⟩).flat=qKM r n n2 r2 s:=by kernel_rfl
def qdH:Option (PV×Store):=(qKM r n n2 r2 s).run
def qm3:qR:=(gRow (gAt (gObj (qaX (qdH r n n2 r2 s)) 0) 0))
def qnF:Int:=(gInt (gAt (gObj (qaX (qdH r n n2 r2 s)) 1) 0))
def qi9:Int:=(gInt (gAt (gObj (qaX (qdH r n n2 r2 s)) 2) 0))
def qk9:qR:=(gRow (gAt (gObj (qaX (qdH r n n2 r2 s)) 3) 0))
def qrm:qU:=(gStr (gAt (gObj (qaX (qdH r n n2 r2 s)) 4) 0))
def qrY:Bool:=isW (qdH r n n2 r2 s) (.tup [],⟨[[.sl (qm3 r n n2 r2 s) .full],[.int .i64 (qnF r n n2 r2 s)],[.int .i64 (qi9 r n n2 r2 s)],[.sl (qk9 r n n2 r2 s) .full],[.str (qrm r n n2 r2 s)]],[(2,0,1)],[36,3,28,36,9]⟩)
def qqS:qR:=(gRow (gAt (gObj (qaX (qdH r n n2 r2 s)) 0) 0))
def qrv:Int:=(gInt (gAt (gObj (qaX (qdH r n n2 r2 s)) 1) 0))
def qk1:Int:=(gInt (gAt (gObj (qaX (qdH r n n2 r2 s)) 2) 0))
def qiW:qR:=(gRow (gAt (gObj (qaX (qdH r n n2 r2 s)) 3) 0))
def qrF:qU:=(gStr (gAt (gObj (qaX (qdH r n n2 r2 s)) 4) 0))
def qrh:Nat:=(gTok (qaX (qdH r n n2 r2 s)) 1)
def qrB:Bool:=isW (qdH r n n2 r2 s) (.tup [],⟨[[.sl (qqS r n n2 r2 s) .full],[.int .i64 (qrv r n n2 r2 s)],[.int .i64 (qk1 r n n2 r2 s)],[.sl (qiW r n n2 r2 s) (.tok 1)],[.str (qrF r n n2 r2 s)]],[(0,0,1),((qrh r n n2 r2 s),6,44)],[36,3,28,36,9]⟩)
def qry:qR:=(gRow (gAt (gObj (qaX (qdH r n n2 r2 s)) 0) 0))
def qrA:Int:=(gInt (gAt (gObj (qaX (qdH r n n2 r2 s)) 1) 0))
def qmv:Int:=(gInt (gAt (gObj (qaX (qdH r n n2 r2 s)) 2) 0))
def qjl:qR:=(gRow (gAt (gObj (qaX (qdH r n n2 r2 s)) 3) 0))
def qq8:qU:=(gStr (gAt (gObj (qaX (qdH r n n2 r2 s)) 4) 0))
def qqP:Bool:=isW (qdH r n n2 r2 s) (.tup [],⟨[[.sl (qry r n n2 r2 s) .full],[.int .i64 (qrA r n n2 r2 s)],[.int .i64 (qmv r n n2 r2 s)],[.sl (qjl r n n2 r2 s) .full],[.str (qq8 r n n2 r2 s)]],[(0,0,1)],[36,3,28,36,9]⟩)
def qnq:qR:=(gRow (gAt (gObj (qaX (qdH r n n2 r2 s)) 0) 0))
def qnr:Int:=(gInt (gAt (gObj (qaX (qdH r n n2 r2 s)) 1) 0))
def qja:Int:=(gInt (gAt (gObj (qaX (qdH r n n2 r2 s)) 2) 0))
def qk5:qR:=(gRow (gAt (gObj (qaX (qdH r n n2 r2 s)) 3) 0))
def qrC:qU:=(gStr (gAt (gObj (qaX (qdH r n n2 r2 s)) 4) 0))
def qrQ:Nat:=(gTok (qaX (qdH r n n2 r2 s)) 1)
def qrS:Bool:=isW (qdH r n n2 r2 s) (.tup [],⟨[[.sl (qnq r n n2 r2 s) .full],[.int .i64 (qnr r n n2 r2 s)],[.int .i64 (qja r n n2 r2 s)],[.sl (qk5 r n n2 r2 s) (.tok 1)],[.str (qrC r n n2 r2 s)]],[(2,0,1),((qrQ r n n2 r2 s),6,44)],[36,3,28,36,9]⟩)
end
def qOM:List PV→Store→Tr (PV×Store)|[.yld 0,.ptr 4 0],⟨[[.sl r .full],[.int .i64 n],[.int .i64 n2],[.sl r2 .full],[.str s]],[(0,0,1)],[36,3,28,36,9]⟩=>.ite (qrY r n n2 r2 s) (.ret (.tup [],⟨[[.sl (qm3 r n n2 r2 s) .full],[.int .i64 (qnF r n n2 r2 s)],[.int .i64 (qi9 r n n2 r2 s)],[.sl (qk9 r n n2 r2 s) .full],[.str (qrm r n n2 r2 s)]],[(2,0,1)],[36,3,28,36,9]⟩)) (.ite (qrB r n n2 r2 s) (.ret (.tup [],⟨[[.sl (qqS r n n2 r2 s) .full],[.int .i64 (qrv r n n2 r2 s)],[.int .i64 (qk1 r n n2 r2 s)],[.sl (qiW r n n2 r2 s) (.tok 1)],[.str (qrF r n n2 r2 s)]],[(0,0,1),((qrh r n n2 r2 s),6,44)],[36,3,28,36,9]⟩)) (.ite (qqP r n n2 r2 s) (.ret (.tup [],⟨[[.sl (qry r n n2 r2 s) .full],[.int .i64 (qrA r n n2 r2 s)],[.int .i64 (qmv r n n2 r2 s)],[.sl (qjl r n n2 r2 s) .full],[.str (qq8 r n n2 r2 s)]],[(0,0,1)],[36,3,28,36,9]⟩)) (.ite (qrS r n n2 r2 s) (.ret (.tup [],⟨[[.sl (qnq r n n2 r2 s) .full],[.int .i64 (qnr r n n2 r2 s)],[.int .i64 (qja r n n2 r2 s)],[.sl (qk5 r n n2 r2 s) (.tok 1)],[.str (qrC r n n2 r2 s)]],[(2,0,1),((qrQ r n n2 r2 s),6,44)],[36,3,28,36,9]⟩)) (.fail))))|_,_=>.fail
theorem qR7 (gl:Gl) (hg:GlLex gl) (hy:qsj Tryz.prog gl qeM (.yld 1 fun t a σ=>(qw0 t a σ).run)):SimS Tryz.prog gl 158 fun args σ=>(qOM args σ).run:=by
 refine SimS.of_flat (G:=qJp) (L:=qTV) qaj (qNk gl hg hy ) qai Tryz.func158 rfl (by rfl) (by kernel_rfl) (qaD (L:=lps qTV) [(1,qD0)] (by kernel_rfl) (List.forall_mem_cons.2 ⟨fun fr σ e fr' σ' h=>qOf gl hg hy  fr σ e fr' σ' h,(List.forall_mem_nil _)⟩)) ?_
 intro args σ x h;unfold qOM at h
 split at h
 ·exact (congrArg Tr.run (qWq _ _ _ _ _)).trans (qae h fun h=>qae h fun h=>qae h fun h=>qae h fun h=>by cases h)
 ·cases h
end Go.Pv
set_option maxHeartbeats 4000000
set_option maxRecDepth 200000
set_option linter.unusedSimpArgs false
set_option linter.unusedVariables false
namespace Go.Pv
open Go Go.Proofs Go.RowKit
theorem qGS (gl:Gl) (hg:GlLex gl):∀ fr σ e fr' σ',(rorc qCt (rngG qla) 158 qOM fr σ).run=some (e,fr',σ')→Does Tryz.prog gl (rngO qla) fr σ e fr' σ' :=
 qR3 (G:=ofL []) (L:=fun _ _ _=>.fail) qaj (fun _ _=>qaf) qai (fun _ _=>qac (by kernel_rfl)) (fun _ _=>qac (by kernel_rfl)) (by kernel_rfl) (by kernel_rfl) (by kernel_rfl)
  ⟨Tryz.f158,Tryz.func158,by rfl,by rfl⟩ (fun gl' hv hy=>qR7 gl' (hg.of_v hv) hy)
end Go.Pv
set_option maxHeartbeats 4000000
set_option maxRecDepth 200000
set_option linter.unusedSimpArgs false
set_option linter.unusedVariables false
namespace Go.Pv
open Go Go.Proofs
def qz3:GamT:=ofL []
theorem qJd (gl:Gl):qal Tryz.prog gl (gam qz3):=qaf
def qHE:LpsT:=fun r fr σ=>.fail
section
variable (s:qU)
def qvE:Tr (PV×Store):=.ret (.fn 158 [.ptr 4 0],Store.mk [[.sl [] .full],[.int .i64 0],[.int .i64 0],[.sl [] .full],[.str s]] [] [36,3,28,36,9])
theorem qQk:(qop tbT qz3 qHE Tryz.f135 [.str s] ⟨[[.sl [] .full],[.int .i64 0],[.int .i64 0],[.sl [] .full]],[],[36,3,28,36]⟩).flat=qvE s:=by kernel_rfl
def qgv:Option (PV×Store):=(qvE s).run
def qmn:qR:=(gRow (gAt (gObj (qaX (qgv s)) 0) 0))
def qlQ:Int:=(gInt (gAt (gObj (qaX (qgv s)) 1) 0))
def qg7:Int:=(gInt (gAt (gObj (qaX (qgv s)) 2) 0))
def qhT:qR:=(gRow (gAt (gObj (qaX (qgv s)) 3) 0))
def qmo:qU:=(gStr (gAt (gObj (qaX (qgv s)) 4) 0))
def qlz:Bool:=isW (qgv s) (.fn 158 [.ptr 4 0],⟨[[.sl (qmn s) .full],[.int .i64 (qlQ s)],[.int .i64 (qg7 s)],[.sl (qhT s) .full],[.str (qmo s)]],[],[36,3,28,36,9]⟩)
end
def qAY:List PV→Store→Tr (PV×Store)|[.str s],⟨[[.sl [] .full],[.int .i64 0],[.int .i64 0],[.sl [] .full]],[],[36,3,28,36]⟩=>.ite (qlz s) (.ret (.fn 158 [.ptr 4 0],⟨[[.sl (qmn s) .full],[.int .i64 (qlQ s)],[.int .i64 (qg7 s)],[.sl (qhT s) .full],[.str (qmo s)]],[],[36,3,28,36,9]⟩)) (.fail)|_,_=>.fail
theorem qJP (gl:Gl):SimS Tryz.prog gl 135 fun args σ=>(qAY args σ).run:=by
 refine SimS.of_flat (G:=qz3) (L:=qHE) qaj (qJd gl ) qai Tryz.func135 rfl (by rfl) (by kernel_rfl) (qac (by kernel_rfl)) ?_
 intro args σ x h;unfold qAY at h
 split at h
 ·exact (congrArg Tr.run (qQk _)).trans (qae h fun h=>by cases h)
 ·cases h
def qBf:GamT:=ofL [(135,.store qAY),(qGp+0,.glob qK9)]
theorem qJm (gl:Gl) (hg:GlLex gl):qal Tryz.prog gl (gam qBf):=(qcf (qJP gl) (qcj (K:=.glob qK9) (qIw hg) qaf))
def qCk:LpsT:=fun r fr σ=>if r=500007 then rorc qCt (rngG qla) 158 qOM fr σ else .fail
section
variable (s:qU)
def qp5:Tr PV:=let z1:=qmn s;let z2:=qlQ s;let z3:=qg7 s;let z4:=qhT s;let z5:=qmo s;.ite (iLt 65536 (sLen s)) (.ret (.tup [.sl [] .non,.int .i64 0,.int .i64 2])) (.ite (qlz s) (.ite (qrY z1 z2 z3 z4 z5) (.ret (.tup [.sl (qaa (qcF 0 (qm3 z1 z2 z3 z4 z5))) .non,.int .i64 (qnF z1 z2 z3 z4 z5),.int .i64 (qi9 z1 z2 z3 z4 z5)])) (.ite (qrB z1 z2 z3 z4 z5) (.ret (.tup [.sl (qaa (qcF 0 (qiW z1 z2 z3 z4 z5))) .non,.int .i64 0,.int .i64 0])) (.ite (qqP z1 z2 z3 z4 z5) (.ret (.tup [.sl (qaa (qcF 0 (qjl z1 z2 z3 z4 z5))) .non,.int .i64 0,.int .i64 0])) (.ite (qrS z1 z2 z3 z4 z5) (.ret (.tup [.sl (qaa (qcF 0 (qnq z1 z2 z3 z4 z5))) .non,.int .i64 (qnr z1 z2 z3 z4 z5),.int .i64 (qja z1 z2 z3 z4 z5)])) .fail)))) .fail)
theorem qPS:(tcall tbT qBf qCk Tryz.f82 [.str s]).flat=qp5 s:=by kernel_rfl
def qeX:Option PV:=(qp5 s).run
def qms:qR:=qVB 0 (qeX s)
def qmb:Int:=qp6 1 (qeX s)
def qg9:Int:=qp6 2 (qeX s)
def qhx:Bool:=isW (qeX s) (.tup [.sl (qms s) .non,.int .i64 (qmb s),.int .i64 (qg9 s)])
end
def qar:List PV→Tr PV|[.str s]=>.ite (qhx s) (.ret (.tup [.sl (qms s) .non,.int .i64 (qmb s),.int .i64 (qg9 s)])) (.fail)|_=>.fail
theorem qrP (gl:Gl) (hg:GlLex gl):SimP Tryz.prog gl 82 fun args=>(qar args).run:=by
 refine SimP.of_flat (G:=qBf) (L:=qCk) qaj (qJm gl hg ) qai  Tryz.func82 rfl (by rfl) (by kernel_rfl) (qA3 (L:=lps qCk) [] [(500007,rngO qla)] (by kernel_rfl) (by kernel_rfl) (List.forall_mem_nil _) (List.forall_mem_cons.2 ⟨fun fr σ e fr' σ' h=>qGS gl hg fr σ e fr' σ' h,(List.forall_mem_nil _)⟩)) ?_
 intro args x h;unfold qar at h
 split at h
 ·exact (congrArg Tr.run (qPS _)).trans (qae h fun h=>by cases h)
 ·cases h
end Go.Pv
set_option linter.unusedSimpArgs false
set_option linter.unusedVariables false
namespace Go.Pv
open Go.RowKit
section
variable {P : Program} {gl : Gl} {f : FuncId}
theorem SimS.or {D1 D2 E:List PV→Store→Option (PV×Store)} (h1:SimS P gl f D1) (h2:SimS P gl f D2) (h:∀ args σ x σ',E args σ=some (x,σ')→D1 args σ=some (x,σ')∨D2 args σ=some (x,σ')):SimS P gl f E :=
 ⟨h1.ent,fun args σ x σ' hx=>(h args σ x σ' hx).elim (fun e=>h1.run args σ x σ' e) (fun e=>h2.run args σ x σ' e)⟩
theorem SimP.or {F1 F2 E:List PV→Option PV} (h1:SimP P gl f F1) (h2:SimP P gl f F2) (h:∀ args x,E args=some x→F1 args=some x∨F2 args=some x):SimP P gl f E :=
 ⟨h1.ent,fun args x hx=>(h args x hx).elim (fun e=>h1.run args x e) (fun e=>h2.run args x e)⟩
end
end Go.Pv
set_option maxHeartbeats 4000000
set_option maxRecDepth 200000
set_option linter.unusedVariables false
set_option linter.unusedSimpArgs false
namespace Go.Pv
open Go Go.Proofs
def G_ca:GamT:=ofL []
theorem qky (gl:Gl):qal Tryz.prog gl (gam G_ca):=qaf
def c_ca:Code:=(Tryz.f84.body).getD .skip
theorem qLd (gl:Gl) (o0:List PV) (n:Int) (rc:List PV) (T0:TypeId):DefOk Tryz.prog gl 84 [.ptr 1 0,.ptr 2 0] .ret ⟨[o0,[.int .i64 n],[.int .i64 0],rc],[],[T0,3,28,138]⟩ .ret ⟨[o0,[.int .i64 n],[.int .i64 0],rc],[],[T0,3,28,138]⟩ :=
 DefOk.of_recover (i0:=0) (ops:=qam (sq1 c_ca)) (c:=sq2 c_ca) (d0:=7) (d1:=4) (o0:=opAt (sq1 c_ca) 0) (o1:=opAt (sq1 c_ca) 1) (y:=.nili) (e:=.ret) qaj (qky gl) Tryz.func84 (by rfl) (by kernel_rfl) (by rfl) (by kernel_rfl) (by kernel_rfl) (by kernel_rfl) (by kernel_rfl) (by kernel_rfl) (by kernel_rfl) (by kernel_rfl) (by decide) (.inl ⟨rfl,rfl⟩) (.inr rfl) (by kernel_rfl)
theorem qyk (gl:Gl) (o0:List PV) (n at_:Int) (rc:List PV) (T0:TypeId) (hw:(Lit.int .i64 at_).wf=true):DefOk Tryz.prog gl 84 [.ptr 1 0,.ptr 2 0] (.pan (.iface 172 (.agg [.int .i64 at_]))) ⟨[o0,[.int .i64 n],[.int .i64 0],rc],[],[T0,3,28,138]⟩ .ret ⟨[o0,[.int .i64 at_],[.int .i64 130],rc,[.int .i64 at_]],[],[T0,3,28,138,172]⟩ :=
 DefOk.of_recover (i0:=0) (ops:=qam (sq1 c_ca)) (c:=sq2 c_ca) (d0:=7) (d1:=4) (o0:=opAt (sq1 c_ca) 0) (o1:=opAt (sq1 c_ca) 1) (y:=.iface 172 (.agg [.int .i64 at_])) (e:=.normal) qaj (qky gl) Tryz.func84 (by rfl) (by kernel_rfl) (by rfl) (by kernel_rfl) (by kernel_rfl) (by kernel_rfl) (by kernel_rfl) (by kernel_rfl) (by kernel_rfl) (by kernel_rfl) (by decide) (.inr ⟨rfl,qSz hw⟩) (.inl rfl) (by kernel_rfl)
def qpl:Option PV→Bool
 |some (.tup [.sl _ .non,.int .i64 _,.int .i64 e])=>e != 0
 |_=>false
def qgr (z:List PV):Option (PR×Store)→Option PV
 |some (.pan (.iface 172 (.agg [.int .i64 at_])),⟨_::_,_,138::_⟩)=>match (Lit.int .i64 at_).wf with
  |true=>some (.tup [.agg z,.int .i64 at_,.int .i64 130])
  |false=>none
 |_=>none
theorem qd6 {z:List PV} {q:Option (PR×Store)} {x:PV} (h:qgr z q=some x):∃ at_ c' os tk ts,q=some (.pan (.iface 172 (.agg [.int .i64 at_])),⟨c'::os,tk,138::ts⟩)∧(Lit.int .i64 at_).wf=true∧x=.tup [.agg z,.int .i64 at_,.int .i64 130]:=by
 unfold qgr at h
 split at h
 ·split at h
  ·rename_i hw;simp only [Option.some.injEq] at h
   exact⟨_,_,_,_,_,rfl,hw,h.symm⟩
  ·cases h
 ·cases h
theorem qRK (gl:Gl) (o0:List PV) (n:Int) (rc:List PV):DefOk Tryz.prog gl 83 ([]++[.ptr 2 0,.ptr 0 0]) .ret ⟨[o0,[.int .i64 n],[.int .i64 0],rc],[],[27,3,28,138]⟩ .ret ⟨[o0,[.int .i64 n],[.int .i64 0],rc],[],[27,3,28,138]⟩ :=
 DefOk.of_quiet (e:=.normal) qaj (qky gl) Tryz.func83 (by rfl) (by kernel_rfl) (by rfl) (.inl rfl) (by kernel_rfl)
theorem qTz (gl:Gl) (a b c:qR) (at_:Int) (rc x:List PV):DefOk Tryz.prog gl 83 ([]++[.ptr 2 0,.ptr 0 0]) .ret ⟨[[.sl a .non,.sl b .non,.sl c .non],[.int .i64 at_],[.int .i64 130],rc,x],[],[27,3,28,138,172]⟩ .ret ⟨[[.sl [] .full,.sl [] .full,.sl [] .full],[.int .i64 at_],[.int .i64 130],rc,x,[.sl [] .full,.sl [] .full,.sl [] .full]],[],[27,3,28,138,172,27]⟩ :=
 DefOk.of_quiet (e:=.normal) qaj (qky gl) Tryz.func83 (by rfl) (by kernel_rfl) (by rfl) (.inl rfl) (by kernel_rfl)
theorem qPc (gl:Gl) (at_:Int) (rc x:List PV):DefOk Tryz.prog gl 83 ([]++[.ptr 2 0,.ptr 0 0]) .ret ⟨[[.sl [] .full,.sl [] .full,.sl [] .full],[.int .i64 at_],[.int .i64 130],rc,x],[],[27,3,28,138,172]⟩ .ret ⟨[[.sl [] .full,.sl [] .full,.sl [] .full],[.int .i64 at_],[.int .i64 130],rc,x,[.sl [] .full,.sl [] .full,.sl [] .full]],[],[27,3,28,138,172,27]⟩ :=
 DefOk.of_quiet (e:=.normal) qaj (qky gl) Tryz.func83 (by rfl) (by kernel_rfl) (by rfl) (.inl rfl) (by kernel_rfl)
def G_wP:GamT:=ofL [(82,.pure qar),(34,.may (frameT qor)),(85,.may (frameT qcD)),(qdx,.flag)]
theorem qEe (gl:Gl) (hg:GlLex gl):qal Tryz.prog gl (gam G_wP):=qag (qrP gl hg) (qah (SimM.frameT (qRH gl)) (qah (SimM.frameT (qmW gl)) (qbt qaf)))
def c_wP:Code:=(Tryz.f33.body).getD .skip
def kP2:Code:=sq2 (sq2 c_wP)
def kP3:Code:=sq2 kP2
def kP6:Code:=sq2 (sq2 kP3)
def kP8:Code:=sq2 (sq2 kP6)
theorem qVH:Tryz.f33.body=some (.seq (.region 0 (qam (sq1 c_wP)) false) (.seq (.region 1 (qam (sq1 (sq2 c_wP))) false) (.seq (.seq (.region 2 (qam (sq1 (sq1 kP2))) false) (.cond (.tmp 16) (.seq (.region 3 (qam (sq1 (sq1 (sq2 (sq1 kP2))))) true) .ret) .skip)) (.seq (sq1 kP3) (.seq (sq1 (sq2 kP3)) (.seq (sq1 kP6) (.seq (.region 7 (qam (sq1 (sq2 kP6))) false) (.seq (.seq (.region 8 (qam (sq1 (sq1 kP8))) false) (.cond (.tmp 36) (.region 9 (qam (sq1 (sq2 (sq1 kP8)))) false) .skip)) (sq2 kP8))))))))):=by kernel_rfl
section
variable (s : List UInt8) (r : List (List PV)) (n e : Int)
def f0P:List PV:=[.str s,.fn 34 []]++List.replicate 38 .top
def fAP:List PV:=(((f0P s).set 4 (.ptr 0 0)).set 5 (.ptr 1 0)).set 6 (.ptr 2 0)
def owP:PV:=.tup [.sl r .non,.int .i64 n,.int .i64 e]
def fBP:List PV:=(((((((fAP s).set 10 (.str s)).set 11 (owP r n e)).set 9 (owP r n e)).set 12 (.sl r .non)).set 13 (.int .i64 n)).set 14 (.int .i64 e)).set 7 (.sl r .non)
def fCP (b:Bool):List PV:=((fBP s r n e).set 15 (.int .i64 e)).set 16 (.bool b)
def fEP (b:Bool):List PV:=(((fCP s r n e b).set 17 (.agg [.sl [] .full,.sl [] .full,.sl [] .full])).set 18 (.int .i64 n)).set 19 (.int .i64 e)
def sBP:Store:=⟨[[.sl [] .full,.sl [] .full,.sl [] .full],[.int .i64 n],[.int .i64 e]],[],[27,3,28]⟩
theorem wP_0:dexec tbT (gam G_wP) (.region 0 (qam (sq1 c_wP)) false) (f0P s) ⟨[],[],[]⟩ []=some (.normal,fAP s,sBP 0 0,[]):=by kernel_rfl
theorem qWs:pops tbT (gam G_wP) (qam (sq1 c_wP)).toList (qam (sq1 c_wP)).toList (f0P s) ⟨[],[],[]⟩=some (fAP s,sBP 0 0):=by kernel_rfl
variable (hw : (qar [.str s]).run = some (.tup [.sl r .non, .int .i64 n, .int .i64 e]))
include hw
theorem wP_c:pop tbT (gam G_wP) ((fAP s).set 10 (.str s)) (sBP 0 0) (opAt (sq1 (sq2 c_wP)) 1)=some (owP r n e,sBP 0 0):=by
 have h:pop tbT (gam G_wP) ((fAP s).set 10 (.str s)) (sBP 0 0) (opAt (sq1 (sq2 c_wP)) 1)=(qar [.str s]).run.map fun x=>(x,sBP 0 0):=by kernel_rfl
 rw [h,hw];rfl
theorem wP_1:dops tbT (gam G_wP) (qam (sq1 (sq2 c_wP))).toList (qam (sq1 (sq2 c_wP))).toList (fAP s) (sBP 0 0) []=some (.ok (fBP s r n e) (sBP n e) []):=by
 have h0:(qam (sq1 (sq2 c_wP))).toList=opAt (sq1 (sq2 c_wP)) 0::opAt (sq1 (sq2 c_wP)) 1::(qam (sq1 (sq2 c_wP))).toList.drop 2:=by kernel_rfl
 have h1:dop tbT (gam G_wP) ((fAP s).set 10 (.str s)) (sBP 0 0) [] (opAt (sq1 (sq2 c_wP)) 1)=dfin (gam G_wP) ((fAP s).set 10 (.str s)) (sBP 0 0) [] (opAt (sq1 (sq2 c_wP)) 1) (pop tbT (gam G_wP) ((fAP s).set 10 (.str s)) (sBP 0 0) (opAt (sq1 (sq2 c_wP)) 1)):=by kernel_rfl
 rw [wP_c s r n e hw] at h1
 conv=>lhs;arg 4;rw [h0]
 rw [qa9 (fr':=(fAP s).set 10 (.str s)) (σ':=sBP 0 0) (pd':=[]) (by kernel_rfl) (by kernel_rfl),qa9 (fr':=((fAP s).set 10 (.str s)).set 11 (owP r n e)) (σ':=sBP 0 0) (pd':=[]) (by kernel_rfl) (h1.trans (by kernel_rfl))]
 kernel_rfl
theorem qWJ:pops tbT (gam G_wP) (qam (sq1 (sq2 c_wP))).toList (qam (sq1 (sq2 c_wP))).toList (fAP s) (sBP 0 0)=some (fBP s r n e,sBP n e):=by
 have h0:(qam (sq1 (sq2 c_wP))).toList=opAt (sq1 (sq2 c_wP)) 0::opAt (sq1 (sq2 c_wP)) 1::(qam (sq1 (sq2 c_wP))).toList.drop 2:=by kernel_rfl
 conv=>lhs;arg 4;rw [h0]
 rw [qg1 (x:=.str s) (σ':=sBP 0 0) (by kernel_rfl) (by kernel_rfl)]
 refine (qg1 (x:=owP r n e) (σ':=sBP 0 0) (by kernel_rfl) (wP_c s r n e hw)).trans ?_
 kernel_rfl
end
section
variable (s : List UInt8) (r : List (List PV)) (n e : Int)
theorem qWG:pops tbT (gam G_wP) (qam (sq1 (sq1 kP2))).toList (qam (sq1 (sq1 kP2))).toList (fBP s r n e) (sBP n e)=some (fCP s r n e (e != 0),sBP n e):=by kernel_rfl
def r3P:Code:=sq1 (sq1 (sq2 (sq1 kP2)))
theorem wP_3 (b:Bool):qir tbT (gam G_wP) (qam r3P).toList (qam r3P).toList 0 [] (fCP s r n e b) (sBP n e)=some (.ok (fEP s r n e b) (sBP n e)):=by
 have h0:(qam r3P).toList=[opAt r3P 0,opAt r3P 1,opAt r3P 2,opAt r3P 3,opAt r3P 4,opAt r3P 5]:=by kernel_rfl
 conv=>lhs;arg 4;rw [h0]
 refine (qaT (x:=.agg [.sl [] .full,.sl [] .full,.sl [] .full]) (σ':=sBP n e) (by kernel_rfl) (by kernel_rfl) (fun h=>absurd h (by rw [show writes (gam G_wP) (opAt r3P 0)=false from by kernel_rfl];simp))).trans ?_
 refine (qaT (x:=.int .i64 n) (σ':=sBP n e) (by kernel_rfl) (by kernel_rfl) (fun h=>absurd h (by rw [show writes (gam G_wP) (opAt r3P 1)=false from by kernel_rfl];simp))).trans ?_
 refine (qaT (x:=.int .i64 e) (σ':=sBP n e) (by kernel_rfl) (by kernel_rfl) (fun h=>absurd h (by rw [show writes (gam G_wP) (opAt r3P 2)=false from by kernel_rfl];simp))).trans ?_
 refine (qaT (x:=.top) (σ':=sBP n e) (by kernel_rfl) (by kernel_rfl) (fun _=>?_)).trans ?_
 ·exact qdy (l':=[(2,2),(1,1),(0,0)]) (by kernel_rfl) ⟨.inr rfl,.inr rfl,.inr rfl,trivial⟩
 refine (qaT (x:=.top) (σ':=sBP n e) (by kernel_rfl) (by kernel_rfl) (fun _=>?_)).trans ?_
 ·exact qdy (l':=[(2,2),(1,1),(0,0)]) (by kernel_rfl) ⟨.inr rfl,.inr rfl,.inr rfl,trivial⟩
 refine (qaT (x:=.top) (σ':=sBP n e) (by kernel_rfl) (by kernel_rfl) (fun _=>?_)).trans ?_
 ·exact qdy (l':=[(2,2),(1,1),(0,0)]) (by kernel_rfl) ⟨.inr rfl,.inr rfl,.inr rfl,trivial⟩
 kernel_rfl
theorem qOV (gl:Gl) (hg:GlLex gl) (hw:(qar [.str s]).run=some (.tup [.sl r .non,.int .i64 n,.int .i64 e])) (he:(e != 0)=true):Does Tryz.prog gl c_wP (f0P s) ⟨[],[],[]⟩ .ret (fEP s r n e (e != 0)) (sBP n e):=by
 rw [show c_wP=_ from congrArg (·.getD .skip) qVH]
 exact Does.seqN (Does.reg qaj (qEe gl hg) (qWs s)) (Does.seqN (Does.reg qaj (qEe gl hg) (qWJ s r n e hw)) (Does.seqR (Does.seqN (Does.reg qaj (qEe gl hg) (qWG s r n e)) (Does.condT (by rw [he];rfl) (Does.seqN (Does.regD qaj (qEe gl hg) qai (by kernel_rfl) (wP_3 s r n e _)) Does.ret)))))
def f4P:List PV:=(fCP s r n 0 false).set 20 (.fn 83 [.ptr 2 0,.ptr 0 0])
def d1P:List PD:=[(83,[],[.ptr 2 0,.ptr 0 0])]
def d2P:List PD:=(84,[.ptr 1 0,.ptr 2 0],[])::d1P
def f6P:List PV:=(((((((f4P s r n).set 21 (.sl r .non)).set 22 (.agg [.sl r .non])).set 23 (.str s)).set 24 (.int .i64 s.length)).set 25 (.agg [.sl r .non,.int .i64 s.length])).set 26 (.ptr 3 0)).set 8 (.ptr 3 0)
def s6P (z:List PV) (rc:List PV):Store:=⟨[z,[.int .i64 n],[.int .i64 0],rc],[],[27,3,28,138]⟩
theorem wP_2:dexec tbT (gam G_wP) (.seq (.region 2 (qam (sq1 (sq1 kP2))) false) (.cond (.tmp 16) (.seq (.region 3 (qam (sq1 (sq1 (sq2 (sq1 kP2))))) true) .ret) .skip)) (fBP s r n 0) (sBP n 0) []=some (.normal,fCP s r n 0 false,sBP n 0,[]):=by kernel_rfl
theorem wP_4:dexec tbT (gam G_wP) (sq1 kP3) (fCP s r n 0 false) (sBP n 0) []=some (.normal,f4P s r n,sBP n 0,d1P):=by kernel_rfl
theorem wP_5:dexec tbT (gam G_wP) (sq1 (sq2 kP3)) (f4P s r n) (sBP n 0) d1P=some (.normal,f4P s r n,sBP n 0,d2P):=by kernel_rfl
theorem wP_6:dexec tbT (gam G_wP) (sq1 kP6) (f4P s r n) (sBP n 0) d2P=some (.normal,f6P s r n,s6P n [.sl [] .full,.sl [] .full,.sl [] .full] [.sl r .non,.int .i64 s.length],d2P):=by kernel_rfl
def f7P:List PV:=((f6P s r n).set 27 (.fn 34 [])).set 28 (.ptr 3 0)
def o7P:Oper:=opAt (sq1 (sq2 kP6)) 2
theorem qWv:(qam (sq1 (sq2 kP6))).toList=opAt (sq1 (sq2 kP6)) 0::opAt (sq1 (sq2 kP6)) 1::o7P::(qam (sq1 (sq2 kP6))).toList.drop 3:=by kernel_rfl
theorem qVh:dop tbT (gam G_wP) (f7P s r n) (s6P n [.sl [] .full,.sl [] .full,.sl [] .full] [.sl r .non,.int .i64 s.length]) d2P o7P=dfin (gam G_wP) (f7P s r n) (s6P n [.sl [] .full,.sl [] .full,.sl [] .full] [.sl r .non,.int .i64 s.length]) d2P o7P (pop tbT (gam G_wP) (f7P s r n) (s6P n [.sl [] .full,.sl [] .full,.sl [] .full] [.sl r .non,.int .i64 s.length]) o7P):=by kernel_rfl
theorem qU9:pop tbT (gam G_wP) (f7P s r n) (s6P n [.sl [] .full,.sl [] .full,.sl [] .full] [.sl r .non,.int .i64 s.length]) o7P=qgi (frameT qor [.ptr 3 0] (s6P n [.sl [] .full,.sl [] .full,.sl [] .full] [.sl r .non,.int .i64 s.length])).run:=by kernel_rfl
theorem qWm:ppan (gam G_wP) (f7P s r n) (s6P n [.sl [] .full,.sl [] .full,.sl [] .full] [.sl r .non,.int .i64 s.length]) o7P=qjT (frameT qor [.ptr 3 0] (s6P n [.sl [] .full,.sl [] .full,.sl [] .full] [.sl r .non,.int .i64 s.length])).run:=by kernel_rfl
theorem wP_7 {y:DR} (h:dop tbT (gam G_wP) (f7P s r n) (s6P n [.sl [] .full,.sl [] .full,.sl [] .full] [.sl r .non,.int .i64 s.length]) d2P o7P=some y):dops tbT (gam G_wP) (qam (sq1 (sq2 kP6))).toList (qam (sq1 (sq2 kP6))).toList (f6P s r n) (s6P n [.sl [] .full,.sl [] .full,.sl [] .full] [.sl r .non,.int .i64 s.length]) d2P=match y with
  |.ok fr' σ' pd'=>dops tbT (gam G_wP) (qam (sq1 (sq2 kP6))).toList ((qam (sq1 (sq2 kP6))).toList.drop 3) fr' σ' pd'
  |y=>some y:=by
 conv=>lhs;arg 4;rw [qWv]
 rw [qa9 (fr':=(f6P s r n).set 27 (.fn 34 [])) (σ':=s6P n [.sl [] .full,.sl [] .full,.sl [] .full] [.sl r .non,.int .i64 s.length]) (pd':=d2P) (by kernel_rfl) (by kernel_rfl),qa9 (fr':=f7P s r n) (σ':=s6P n [.sl [] .full,.sl [] .full,.sl [] .full] [.sl r .non,.int .i64 s.length]) (pd':=d2P) (by kernel_rfl) (by kernel_rfl)]
 cases y with
 |ok fr' σ' pd'=>exact qa9 (by kernel_rfl) h
 |pan x fr' σ' pd'=>exact qhp (by kernel_rfl) h
theorem qQI {q:Option (PExit×List PV×Store×List PD)} (hw:(qar [.str s]).run=some (.tup [.sl r .non,.int .i64 n,.int .i64 0]))
  (h:dexec tbT (gam G_wP) (.seq (.region 7 (qam (sq1 (sq2 kP6))) false) (.seq (.seq (.region 8 (qam (sq1 (sq1 kP8))) false) (.cond (.tmp 36) (.region 9 (qam (sq1 (sq2 (sq1 kP8)))) false) .skip)) (sq2 kP8))) (f6P s r n) (s6P n [.sl [] .full,.sl [] .full,.sl [] .full] [.sl r .non,.int .i64 s.length]) d2P=q):dexec tbT (gam G_wP) c_wP (f0P s) ⟨[],[],[]⟩ []=q:=by
 rw [show c_wP=_ from congrArg (·.getD .skip) qVH]
 exact (qau (wP_0 s)).trans ((qau (qb3 (wP_1 s r n 0 hw))).trans ((qau (wP_2 s r n)).trans ((qau (wP_4 s r n)).trans ((qau (wP_5 s r n)).trans ((qau (wP_6 s r n)).trans h)))))
theorem qVz (hw:(qar [.str s]).run=some (.tup [.sl r .non,.int .i64 n,.int .i64 0])) {y:PV} {c':List PV} {os:List (List PV)} {tk:List (Nat×Nat×TypeId)} {ts:List TypeId}
  (hv:(qor [.ptr 0 0] ⟨[[.sl (qad r) .non,.int .i64 s.length]],[],[138]⟩).run=some (.pan y,⟨c'::os,tk,138::ts⟩)) :
  dexec tbT (gam G_wP) c_wP (f0P s) ⟨[],[],[]⟩ []=some (.pan y,f7P s r n,s6P n [.sl [] .full,.sl [] .full,.sl [] .full] (qa4 c'),d2P):=by
 have hf:(frameT qor [.ptr 3 0] (s6P n [.sl [] .full,.sl [] .full,.sl [] .full] [.sl r .non,.int .i64 s.length])).run=some (.pan y,s6P n [.sl [] .full,.sl [] .full,.sl [] .full] (qa4 c')):=(qdF (D:=qor) (args:=[.ptr 3 0]) (σ:=s6P n [.sl [] .full,.sl [] .full,.sl [] .full] [.sl r .non,.int .i64 s.length]) rfl rfl rfl hv).trans (by kernel_rfl)
 refine qQI s r n hw (qe7 (qfj ?_));refine wP_7 s r n (y:=.pan y (f7P s r n) (s6P n [.sl [] .full,.sl [] .full,.sl [] .full] (qa4 c')) d2P) ?_;rw [qVh,qU9,hf];simp only [qgi,dfin,qWm,hf,qjT,Option.map_some]
theorem qQM (hw:(qar [.str s]).run=some (.tup [.sl r .non,.int .i64 n,.int .i64 0])) {a b c:List (List PV)} {r':List (List PV)} {m:Int}
  (hv:(qor [.ptr 0 0] ⟨[[.sl (qad r) .non,.int .i64 s.length]],[],[138]⟩).run=some (.val (.agg [.sl a .non,.sl b .non,.sl c .non]),⟨[[.sl r' .non,.int .i64 m]],[],[138]⟩)) {q:Option (PExit×List PV×Store×List PD)}
  (h:dexec tbT (gam G_wP) (.seq (.seq (.region 8 (qam (sq1 (sq1 kP8))) false) (.cond (.tmp 36) (.region 9 (qam (sq1 (sq2 (sq1 kP8)))) false) .skip)) (sq2 kP8)) ((f7P s r n).set 29 (.agg [.sl (qaa a) .non,.sl (qaa b) .non,.sl (qaa c) .non])) (s6P n [.sl (qaa a) .non,.sl (qaa b) .non,.sl (qaa c) .non] [.sl (qaa r') .non,.int .i64 m]) d2P=q) :
  dexec tbT (gam G_wP) c_wP (f0P s) ⟨[],[],[]⟩ []=q:=by
 have hf:(frameT qor [.ptr 3 0] (s6P n [.sl [] .full,.sl [] .full,.sl [] .full] [.sl r .non,.int .i64 s.length])).run=some (.val (.agg [.sl (qaa a) .non,.sl (qaa b) .non,.sl (qaa c) .non]),s6P n [.sl [] .full,.sl [] .full,.sl [] .full] [.sl (qaa r') .non,.int .i64 m]):=(qdF (D:=qor) (args:=[.ptr 3 0]) (σ:=s6P n [.sl [] .full,.sl [] .full,.sl [] .full] [.sl r .non,.int .i64 s.length]) rfl rfl rfl hv).trans (by kernel_rfl)
 refine qQI s r n hw ((qau (qb3 ?_)).trans h);refine (wP_7 s r n (y:=.ok ((f7P s r n).set 29 (.agg [.sl (qaa a) .non,.sl (qaa b) .non,.sl (qaa c) .non])) (s6P n [.sl [] .full,.sl [] .full,.sl [] .full] [.sl (qaa r') .non,.int .i64 m]) d2P) ?_).trans ?_
 ·rw [qVh,qU9,hf]
  kernel_rfl
 ·kernel_rfl
def f8P (fr:List PV) (rr:qR) (b:Bool):List PV:=((((((fr.set 30 (.ptr 3 0)).set 31 (.ptr 3 0)).set 32 (.ptr 3 0)).set 33 (.ptr 3 0)).set 34 (.sl rr .non)).set 35 (.int .i64 rr.length)).set 36 (.bool b)
variable  (a b c : List (List PV)) (rr : List (List PV)) (m : Int)
theorem wP_8:dops tbT (gam G_wP) (qam (sq1 (sq1 kP8))).toList (qam (sq1 (sq1 kP8))).toList ((f7P s r n).set 29 (.agg [.sl (qaa a) .non,.sl (qaa b) .non,.sl (qaa c) .non])) (s6P n [.sl (qaa a) .non,.sl (qaa b) .non,.sl (qaa c) .non] [.sl rr .non,.int .i64 m]) d2P=some (.ok (f8P ((f7P s r n).set 29 (.agg [.sl (qaa a) .non,.sl (qaa b) .non,.sl (qaa c) .non])) rr (decide ((rr.length:Int) > 0))) (s6P n [.sl (qaa a) .non,.sl (qaa b) .non,.sl (qaa c) .non] [.sl rr .non,.int .i64 m]) d2P):=by kernel_rfl
theorem qVJ:dexec tbT (gam G_wP) (.seq (.seq (.region 8 (qam (sq1 (sq1 kP8))) false) (.cond (.tmp 36) (.region 9 (qam (sq1 (sq2 (sq1 kP8)))) false) .skip)) (sq2 kP8)) ((f7P s r n).set 29 (.agg [.sl (qaa a) .non,.sl (qaa b) .non,.sl (qaa c) .non])) (s6P n [.sl (qaa a) .non,.sl (qaa b) .non,.sl (qaa c) .non] [.sl [] .non,.int .i64 m]) d2P=some (.ret,(f8P ((f7P s r n).set 29 (.agg [.sl (qaa a) .non,.sl (qaa b) .non,.sl (qaa c) .non])) [] false).set 39 (.agg [.sl (qaa a) .non,.sl (qaa b) .non,.sl (qaa c) .non]),s6P 0 [.sl (qaa a) .non,.sl (qaa b) .non,.sl (qaa c) .non] [.sl [] .non,.int .i64 m],d2P):=by
 refine (qau ((qau (qb3 (wP_8 s r n a b c [] m))).trans (qnQ (by kernel_rfl)))).trans ?_
 kernel_rfl
def o9P:Oper:=opAt (sq1 (sq2 (sq1 kP8))) 1
theorem qTb (x:List PV) {y:PV} {c':List PV} {os:List (List PV)} {tk:List (Nat×Nat×TypeId)} {ts:List TypeId} (hv:(qcD [.ptr 0 0] ⟨[[.sl (qad (x::rr)) .non,.int .i64 m]],[],[138]⟩).run=some (.pan y,⟨c'::os,tk,138::ts⟩)) :
  dexec tbT (gam G_wP) (.seq (.seq (.region 8 (qam (sq1 (sq1 kP8))) false) (.cond (.tmp 36) (.region 9 (qam (sq1 (sq2 (sq1 kP8)))) false) .skip)) (sq2 kP8)) ((f7P s r n).set 29 (.agg [.sl (qaa a) .non,.sl (qaa b) .non,.sl (qaa c) .non])) (s6P n [.sl (qaa a) .non,.sl (qaa b) .non,.sl (qaa c) .non] [.sl (x::rr) .non,.int .i64 m]) d2P=some (.pan y,(f8P ((f7P s r n).set 29 (.agg [.sl (qaa a) .non,.sl (qaa b) .non,.sl (qaa c) .non])) (x::rr) true).set 37 (.ptr 3 0),s6P n [.sl (qaa a) .non,.sl (qaa b) .non,.sl (qaa c) .non] (qa4 c'),d2P):=by
 have hb:decide ((((x::rr).length:Nat):Int) > 0)=true:=by simp only [List.length_cons,decide_eq_true_eq];omega
 have hf:(frameT qcD [.ptr 3 0] (s6P n [.sl (qaa a) .non,.sl (qaa b) .non,.sl (qaa c) .non] [.sl (x::rr) .non,.int .i64 m])).run=some (.pan y,s6P n [.sl (qaa a) .non,.sl (qaa b) .non,.sl (qaa c) .non] (qa4 c')):=(qdF (D:=qcD) (args:=[.ptr 3 0]) (σ:=s6P n [.sl (qaa a) .non,.sl (qaa b) .non,.sl (qaa c) .non] [.sl (x::rr) .non,.int .i64 m]) rfl rfl rfl hv).trans (by kernel_rfl)
 have h8:=wP_8 s r n a b c (x::rr) m;rw [hb] at h8;have ho:(qam (sq1 (sq2 (sq1 kP8)))).toList=[opAt (sq1 (sq2 (sq1 kP8))) 0,o9P]:=by kernel_rfl
 refine qe7 ((qau (qb3 h8)).trans ((qnf (by kernel_rfl)).trans (qfj ?_)))
 conv=>lhs;arg 4;rw [ho]
 rw [qa9 (fr':=(f8P ((f7P s r n).set 29 (.agg [.sl (qaa a) .non,.sl (qaa b) .non,.sl (qaa c) .non])) (x::rr) true).set 37 (.ptr 3 0)) (σ':=s6P n [.sl (qaa a) .non,.sl (qaa b) .non,.sl (qaa c) .non] [.sl (x::rr) .non,.int .i64 m]) (pd':=d2P) (by kernel_rfl) (by kernel_rfl)]
 refine qhp (by kernel_rfl) ?_
 have hd:dop tbT (gam G_wP) ((f8P ((f7P s r n).set 29 (.agg [.sl (qaa a) .non,.sl (qaa b) .non,.sl (qaa c) .non])) (x::rr) true).set 37 (.ptr 3 0)) (s6P n [.sl (qaa a) .non,.sl (qaa b) .non,.sl (qaa c) .non] [.sl (x::rr) .non,.int .i64 m]) d2P o9P=dfin (gam G_wP) ((f8P ((f7P s r n).set 29 (.agg [.sl (qaa a) .non,.sl (qaa b) .non,.sl (qaa c) .non])) (x::rr) true).set 37 (.ptr 3 0)) (s6P n [.sl (qaa a) .non,.sl (qaa b) .non,.sl (qaa c) .non] [.sl (x::rr) .non,.int .i64 m]) d2P o9P (qgi (frameT qcD [.ptr 3 0] (s6P n [.sl (qaa a) .non,.sl (qaa b) .non,.sl (qaa c) .non] [.sl (x::rr) .non,.int .i64 m])).run):=by kernel_rfl
 have hp:ppan (gam G_wP) ((f8P ((f7P s r n).set 29 (.agg [.sl (qaa a) .non,.sl (qaa b) .non,.sl (qaa c) .non])) (x::rr) true).set 37 (.ptr 3 0)) (s6P n [.sl (qaa a) .non,.sl (qaa b) .non,.sl (qaa c) .non] [.sl (x::rr) .non,.int .i64 m]) o9P=qjT (frameT qcD [.ptr 3 0] (s6P n [.sl (qaa a) .non,.sl (qaa b) .non,.sl (qaa c) .non] [.sl (x::rr) .non,.int .i64 m])).run:=by kernel_rfl
 rw [hd,hf];simp only [qgi,dfin,hp,hf,qjT,Option.map_some]
end
def finP:Option (PR×Store)→Option PV
 |some (.val (.agg [.sl a .non,.sl b .non,.sl c .non]),⟨[[.sl r' .non,.int .i64 m]],[],[138]⟩)=>match qaa r' with
  |[]=>some (.tup [.agg [.sl (qaa (qaa a)) .non,.sl (qaa (qaa b)) .non,.sl (qaa (qaa c)) .non],.int .i64 0,.int .i64 0])
  |x::rr=>qgr [.sl [] .non,.sl [] .non,.sl [] .non] (qcD [.ptr 0 0] ⟨[[.sl (qad (x::rr)) .non,.int .i64 m]],[],[138]⟩).run
 |q=>qgr [.sl [] .non,.sl [] .non,.sl [] .non] q
def outP (s:qU):Option PV:=match (qar [.str s]).run with
 |some (.tup [.sl r .non,.int .i64 n,.int .i64 e])=>match e != 0 with
  |true=>some (.tup [.agg [.sl [] .non,.sl [] .non,.sl [] .non],.int .i64 n,.int .i64 e])
  |false=>finP (qor [.ptr 0 0] ⟨[[.sl (qad r) .non,.int .i64 s.length]],[],[138]⟩).run
 |_=>none
def FwP:List PV→Option PV
 |[.str s,.fn 34 []]=>outP s
 |_=>none
def FwP1:List PV→Option PV
 |[.str s,.fn 34 []]=>match qpl (qar [.str s]).run with
  |true=>outP s
  |false=>none
 |_=>none
def FwP2:List PV→Option PV
 |[.str s,.fn 34 []]=>match qpl (qar [.str s]).run with
  |true=>none
  |false=>outP s
 |_=>none
theorem qTR (gl:Gl) (hg:GlLex gl):SimP Tryz.prog gl 33 FwP1:=by
 refine SimP.of_does qaj Tryz.func33 (c:=c_wP) (by kernel_rfl) (by kernel_rfl) fun args x hx hrel=>?_
 clear hrel;unfold FwP1 at hx;split at hx
 ·rename_i s;split at hx
  ·rename_i hea;unfold outP at hx;split at hx
   ·rename_i r n e hw;have he:(e != 0)=true:=by rw [hw] at hea;exact hea
    rw [he] at hx;simp only [Option.some.injEq] at hx;subst hx;refine⟨.ret,fEP s r n e (e != 0),sBP n e,[.agg [.sl [] .full,.sl [] .full,.sl [] .full],.int .i64 n,.int .i64 e],.inr rfl,?_,by kernel_rfl,by kernel_rfl⟩
    rw [show [PV.str s,PV.fn 34 []]++List.replicate (Tryz.f33.ntmps - [PV.str s,PV.fn 34 []].length) PV.top=f0P s from by kernel_rfl]
    exact qOV s r n e gl hg hw he
   ·cases hx
  ·cases hx
 ·cases hx
theorem qUG (gl:Gl) (hg:GlLex gl):SimP Tryz.prog gl 33 FwP2:=by
 refine SimP.of_defer qaj (qEe gl hg) Tryz.func33 (c:=c_wP) (by kernel_rfl) (by kernel_rfl) fun args x hx=>?_
 unfold FwP2 at hx;split at hx
 ·rename_i s;split at hx
  ·cases hx
  rename_i hea;unfold outP at hx;split at hx
  ·rename_i r n e hw;have he:(e != 0)=false:=by rw [hw] at hea;exact hea
   rw [he] at hx;have he0:e=0:=by simpa using he
   subst he0;have hs:[PV.str s,PV.fn 34 []]++List.replicate (Tryz.f33.ntmps - [PV.str s,PV.fn 34 []].length) PV.top=f0P s:=by kernel_rfl
   rw [hs];simp only at hx;unfold finP at hx;split at hx
   ·rename_i a b c r' m hv;split at hx
    ·rename_i hr;simp only [Option.some.injEq] at hx;subst hx;refine⟨.ret,.ret,_,_,_,s6P 0 [.sl (qaa a) .non,.sl (qaa b) .non,.sl (qaa c) .non] [.sl [] .non,.int .i64 m],[.agg [.sl (qaa a) .non,.sl (qaa b) .non,.sl (qaa c) .non],.int .i64 0,.int .i64 0],qQM s r n hw hv (q:=some (.ret,(f8P ((f7P s r n).set 29 (.agg [.sl (qaa a) .non,.sl (qaa b) .non,.sl (qaa c) .non])) [] false).set 39 (.agg [.sl (qaa a) .non,.sl (qaa b) .non,.sl (qaa c) .non]),s6P 0 [.sl (qaa a) .non,.sl (qaa b) .non,.sl (qaa c) .non] [.sl [] .non,.int .i64 m],d2P)) (by rw [hr];exact qVJ s r n a b c m),.inl ⟨rfl,rfl⟩,?_,by kernel_rfl,by kernel_rfl⟩
     exact .cons (qLd gl _ _ _ _) (.cons (qRK gl _ _ _) (.nil _))
    ·rename_i x rr hr;obtain⟨at_,c',os,tk,ts,hb,hwf,rfl⟩:=qd6 hx;refine⟨_,.pan (.iface 172 (.agg [.int .i64 at_])),_,_,_,⟨[[.sl [] .full,.sl [] .full,.sl [] .full],[.int .i64 at_],[.int .i64 130],qa4 c',[.int .i64 at_],[.sl [] .full,.sl [] .full,.sl [] .full]],[],[27,3,28,138,172,27]⟩,[.agg [.sl [] .full,.sl [] .full,.sl [] .full],.int .i64 at_,.int .i64 130],qQM s r n hw hv (q:=some (.pan (.iface 172 (.agg [.int .i64 at_])),(f8P ((f7P s r n).set 29 (.agg [.sl (qaa a) .non,.sl (qaa b) .non,.sl (qaa c) .non])) (x::rr) true).set 37 (.ptr 3 0),s6P n [.sl (qaa a) .non,.sl (qaa b) .non,.sl (qaa c) .non] (qa4 c'),d2P)) (by rw [hr];exact qTb s r n a b c rr m x hb),.inr ⟨_,rfl,rfl⟩,?_,by kernel_rfl,by kernel_rfl⟩
     exact .cons (qyk gl _ _ _ _ _ hwf) (.cons (qTz gl (qaa a) (qaa b) (qaa c) _ _ _) (.nil _))
   ·obtain⟨at_,c',os,tk,ts,hb,hwf,rfl⟩:=qd6 hx;refine⟨_,.pan (.iface 172 (.agg [.int .i64 at_])),_,_,_,⟨[[.sl [] .full,.sl [] .full,.sl [] .full],[.int .i64 at_],[.int .i64 130],qa4 c',[.int .i64 at_],[.sl [] .full,.sl [] .full,.sl [] .full]],[],[27,3,28,138,172,27]⟩,[.agg [.sl [] .full,.sl [] .full,.sl [] .full],.int .i64 at_,.int .i64 130],qVz s r n hw hb,.inr ⟨_,rfl,rfl⟩,?_,by kernel_rfl,by kernel_rfl⟩
    exact .cons (qyk gl _ _ _ _ _ hwf) (.cons (qPc gl _ _ _) (.nil _))
  ·cases hx
 ·cases hx
theorem qQW (gl:Gl) (hg:GlLex gl):SimP Tryz.prog gl 33 FwP:=by
 refine SimP.or (qTR gl hg) (qUG gl hg) fun args x hx=>?_
 unfold FwP at hx;split at hx
 ·rename_i s;cases he:qpl (qar [.str s]).run with
  |true=>exact .inl (by simp only [FwP1,he,hx])
  |false=>exact .inr (by simp only [FwP2,he,hx])
 ·cases hx
theorem qRZ (gl:Gl) (o0:List PV) (n:Int) (rc:List PV):DefOk Tryz.prog gl 105 ([]++[.ptr 2 0,.ptr 0 0]) .ret ⟨[o0,[.int .i64 n],[.int .i64 0],rc],[],[51,3,28,138]⟩ .ret ⟨[o0,[.int .i64 n],[.int .i64 0],rc],[],[51,3,28,138]⟩ :=
 DefOk.of_quiet (e:=.normal) qaj (qky gl) Tryz.func105 (by rfl) (by kernel_rfl) (by rfl) (.inl rfl) (by kernel_rfl)
theorem qRP (gl:Gl) (a:qU) (b c:qR) (at_:Int) (rc x:List PV):DefOk Tryz.prog gl 105 ([]++[.ptr 2 0,.ptr 0 0]) .ret ⟨[[.str a,.sl b .non,.sl c .non],[.int .i64 at_],[.int .i64 130],rc,x],[],[51,3,28,138,172]⟩ .ret ⟨[[.str [],.sl [] .full,.sl [] .full],[.int .i64 at_],[.int .i64 130],rc,x,[.str [],.sl [] .full,.sl [] .full]],[],[51,3,28,138,172,51]⟩ :=
 DefOk.of_quiet (e:=.normal) qaj (qky gl) Tryz.func105 (by rfl) (by kernel_rfl) (by rfl) (.inl rfl) (by kernel_rfl)
theorem qPx (gl:Gl) (at_:Int) (rc x:List PV):DefOk Tryz.prog gl 105 ([]++[.ptr 2 0,.ptr 0 0]) .ret ⟨[[.str [],.sl [] .full,.sl [] .full],[.int .i64 at_],[.int .i64 130],rc,x],[],[51,3,28,138,172]⟩ .ret ⟨[[.str [],.sl [] .full,.sl [] .full],[.int .i64 at_],[.int .i64 130],rc,x,[.str [],.sl [] .full,.sl [] .full]],[],[51,3,28,138,172,51]⟩ :=
 DefOk.of_quiet (e:=.normal) qaj (qky gl) Tryz.func105 (by rfl) (by kernel_rfl) (by rfl) (.inl rfl) (by kernel_rfl)
def G_wR:GamT:=ofL [(82,.pure qar),(46,.may (frameT qpo)),(85,.may (frameT qcD)),(qdx,.flag)]
theorem qDZ (gl:Gl) (hg:GlLex gl):qal Tryz.prog gl (gam G_wR):=qag (qrP gl hg) (qah (SimM.frameT (qSa gl)) (qah (SimM.frameT (qmW gl)) (qbt qaf)))
def c_wR:Code:=(Tryz.f45.body).getD .skip
def kR2:Code:=sq2 (sq2 c_wR)
def kR3:Code:=sq2 kR2
def kR6:Code:=sq2 (sq2 kR3)
def kR8:Code:=sq2 (sq2 kR6)
theorem qVA:Tryz.f45.body=some (.seq (.region 0 (qam (sq1 c_wR)) false) (.seq (.region 1 (qam (sq1 (sq2 c_wR))) false) (.seq (.seq (.region 2 (qam (sq1 (sq1 kR2))) false) (.cond (.tmp 16) (.seq (.region 3 (qam (sq1 (sq1 (sq2 (sq1 kR2))))) true) .ret) .skip)) (.seq (sq1 kR3) (.seq (sq1 (sq2 kR3)) (.seq (sq1 kR6) (.seq (.region 7 (qam (sq1 (sq2 kR6))) false) (.seq (.seq (.region 8 (qam (sq1 (sq1 kR8))) false) (.cond (.tmp 36) (.region 9 (qam (sq1 (sq2 (sq1 kR8)))) false) .skip)) (sq2 kR8))))))))):=by kernel_rfl
section
variable (s : List UInt8) (r : List (List PV)) (n e : Int)
def f0R:List PV:=[.str s,.fn 46 []]++List.replicate 38 .top
def fAR:List PV:=(((f0R s).set 4 (.ptr 0 0)).set 5 (.ptr 1 0)).set 6 (.ptr 2 0)
def owR:PV:=.tup [.sl r .non,.int .i64 n,.int .i64 e]
def fBR:List PV:=(((((((fAR s).set 10 (.str s)).set 11 (owR r n e)).set 9 (owR r n e)).set 12 (.sl r .non)).set 13 (.int .i64 n)).set 14 (.int .i64 e)).set 7 (.sl r .non)
def fCR (b:Bool):List PV:=((fBR s r n e).set 15 (.int .i64 e)).set 16 (.bool b)
def fER (b:Bool):List PV:=(((fCR s r n e b).set 17 (.agg [.str [],.sl [] .full,.sl [] .full])).set 18 (.int .i64 n)).set 19 (.int .i64 e)
def sBR:Store:=⟨[[.str [],.sl [] .full,.sl [] .full],[.int .i64 n],[.int .i64 e]],[],[51,3,28]⟩
theorem wR_0:dexec tbT (gam G_wR) (.region 0 (qam (sq1 c_wR)) false) (f0R s) ⟨[],[],[]⟩ []=some (.normal,fAR s,sBR 0 0,[]):=by kernel_rfl
theorem qWl:pops tbT (gam G_wR) (qam (sq1 c_wR)).toList (qam (sq1 c_wR)).toList (f0R s) ⟨[],[],[]⟩=some (fAR s,sBR 0 0):=by kernel_rfl
variable (hw : (qar [.str s]).run = some (.tup [.sl r .non, .int .i64 n, .int .i64 e]))
include hw
theorem wR_c:pop tbT (gam G_wR) ((fAR s).set 10 (.str s)) (sBR 0 0) (opAt (sq1 (sq2 c_wR)) 1)=some (owR r n e,sBR 0 0):=by
 have h:pop tbT (gam G_wR) ((fAR s).set 10 (.str s)) (sBR 0 0) (opAt (sq1 (sq2 c_wR)) 1)=(qar [.str s]).run.map fun x=>(x,sBR 0 0):=by kernel_rfl
 rw [h,hw];rfl
theorem wR_1:dops tbT (gam G_wR) (qam (sq1 (sq2 c_wR))).toList (qam (sq1 (sq2 c_wR))).toList (fAR s) (sBR 0 0) []=some (.ok (fBR s r n e) (sBR n e) []):=by
 have h0:(qam (sq1 (sq2 c_wR))).toList=opAt (sq1 (sq2 c_wR)) 0::opAt (sq1 (sq2 c_wR)) 1::(qam (sq1 (sq2 c_wR))).toList.drop 2:=by kernel_rfl
 have h1:dop tbT (gam G_wR) ((fAR s).set 10 (.str s)) (sBR 0 0) [] (opAt (sq1 (sq2 c_wR)) 1)=dfin (gam G_wR) ((fAR s).set 10 (.str s)) (sBR 0 0) [] (opAt (sq1 (sq2 c_wR)) 1) (pop tbT (gam G_wR) ((fAR s).set 10 (.str s)) (sBR 0 0) (opAt (sq1 (sq2 c_wR)) 1)):=by kernel_rfl
 rw [wR_c s r n e hw] at h1
 conv=>lhs;arg 4;rw [h0]
 rw [qa9 (fr':=(fAR s).set 10 (.str s)) (σ':=sBR 0 0) (pd':=[]) (by kernel_rfl) (by kernel_rfl),qa9 (fr':=((fAR s).set 10 (.str s)).set 11 (owR r n e)) (σ':=sBR 0 0) (pd':=[]) (by kernel_rfl) (h1.trans (by kernel_rfl))]
 kernel_rfl
theorem qWD:pops tbT (gam G_wR) (qam (sq1 (sq2 c_wR))).toList (qam (sq1 (sq2 c_wR))).toList (fAR s) (sBR 0 0)=some (fBR s r n e,sBR n e):=by
 have h0:(qam (sq1 (sq2 c_wR))).toList=opAt (sq1 (sq2 c_wR)) 0::opAt (sq1 (sq2 c_wR)) 1::(qam (sq1 (sq2 c_wR))).toList.drop 2:=by kernel_rfl
 conv=>lhs;arg 4;rw [h0]
 rw [qg1 (x:=.str s) (σ':=sBR 0 0) (by kernel_rfl) (by kernel_rfl)]
 refine (qg1 (x:=owR r n e) (σ':=sBR 0 0) (by kernel_rfl) (wR_c s r n e hw)).trans ?_
 kernel_rfl
end
section
variable (s : List UInt8) (r : List (List PV)) (n e : Int)
theorem qWT:pops tbT (gam G_wR) (qam (sq1 (sq1 kR2))).toList (qam (sq1 (sq1 kR2))).toList (fBR s r n e) (sBR n e)=some (fCR s r n e (e != 0),sBR n e):=by kernel_rfl
def r3R:Code:=sq1 (sq1 (sq2 (sq1 kR2)))
theorem wR_3 (b:Bool):qir tbT (gam G_wR) (qam r3R).toList (qam r3R).toList 0 [] (fCR s r n e b) (sBR n e)=some (.ok (fER s r n e b) (sBR n e)):=by
 have h0:(qam r3R).toList=[opAt r3R 0,opAt r3R 1,opAt r3R 2,opAt r3R 3,opAt r3R 4,opAt r3R 5]:=by kernel_rfl
 conv=>lhs;arg 4;rw [h0]
 refine (qaT (x:=.agg [.str [],.sl [] .full,.sl [] .full]) (σ':=sBR n e) (by kernel_rfl) (by kernel_rfl) (fun h=>absurd h (by rw [show writes (gam G_wR) (opAt r3R 0)=false from by kernel_rfl];simp))).trans ?_
 refine (qaT (x:=.int .i64 n) (σ':=sBR n e) (by kernel_rfl) (by kernel_rfl) (fun h=>absurd h (by rw [show writes (gam G_wR) (opAt r3R 1)=false from by kernel_rfl];simp))).trans ?_
 refine (qaT (x:=.int .i64 e) (σ':=sBR n e) (by kernel_rfl) (by kernel_rfl) (fun h=>absurd h (by rw [show writes (gam G_wR) (opAt r3R 2)=false from by kernel_rfl];simp))).trans ?_
 refine (qaT (x:=.top) (σ':=sBR n e) (by kernel_rfl) (by kernel_rfl) (fun _=>?_)).trans ?_
 ·exact qdy (l':=[(2,2),(1,1),(0,0)]) (by kernel_rfl) ⟨.inr rfl,.inr rfl,.inr rfl,trivial⟩
 refine (qaT (x:=.top) (σ':=sBR n e) (by kernel_rfl) (by kernel_rfl) (fun _=>?_)).trans ?_
 ·exact qdy (l':=[(2,2),(1,1),(0,0)]) (by kernel_rfl) ⟨.inr rfl,.inr rfl,.inr rfl,trivial⟩
 refine (qaT (x:=.top) (σ':=sBR n e) (by kernel_rfl) (by kernel_rfl) (fun _=>?_)).trans ?_
 ·exact qdy (l':=[(2,2),(1,1),(0,0)]) (by kernel_rfl) ⟨.inr rfl,.inr rfl,.inr rfl,trivial⟩
 kernel_rfl
theorem qQm (gl:Gl) (hg:GlLex gl) (hw:(qar [.str s]).run=some (.tup [.sl r .non,.int .i64 n,.int .i64 e])) (he:(e != 0)=true):Does Tryz.prog gl c_wR (f0R s) ⟨[],[],[]⟩ .ret (fER s r n e (e != 0)) (sBR n e):=by
 rw [show c_wR=_ from congrArg (·.getD .skip) qVA]
 exact Does.seqN (Does.reg qaj (qDZ gl hg) (qWl s)) (Does.seqN (Does.reg qaj (qDZ gl hg) (qWD s r n e hw)) (Does.seqR (Does.seqN (Does.reg qaj (qDZ gl hg) (qWT s r n e)) (Does.condT (by rw [he];rfl) (Does.seqN (Does.regD qaj (qDZ gl hg) qai (by kernel_rfl) (wR_3 s r n e _)) Does.ret)))))
def f4R:List PV:=(fCR s r n 0 false).set 20 (.fn 105 [.ptr 2 0,.ptr 0 0])
def d1R:List PD:=[(105,[],[.ptr 2 0,.ptr 0 0])]
def d2R:List PD:=(84,[.ptr 1 0,.ptr 2 0],[])::d1R
def f6R:List PV:=(((((((f4R s r n).set 21 (.sl r .non)).set 22 (.agg [.sl r .non])).set 23 (.str s)).set 24 (.int .i64 s.length)).set 25 (.agg [.sl r .non,.int .i64 s.length])).set 26 (.ptr 3 0)).set 8 (.ptr 3 0)
def s6R (z:List PV) (rc:List PV):Store:=⟨[z,[.int .i64 n],[.int .i64 0],rc],[],[51,3,28,138]⟩
theorem wR_2:dexec tbT (gam G_wR) (.seq (.region 2 (qam (sq1 (sq1 kR2))) false) (.cond (.tmp 16) (.seq (.region 3 (qam (sq1 (sq1 (sq2 (sq1 kR2))))) true) .ret) .skip)) (fBR s r n 0) (sBR n 0) []=some (.normal,fCR s r n 0 false,sBR n 0,[]):=by kernel_rfl
theorem wR_4:dexec tbT (gam G_wR) (sq1 kR3) (fCR s r n 0 false) (sBR n 0) []=some (.normal,f4R s r n,sBR n 0,d1R):=by kernel_rfl
theorem wR_5:dexec tbT (gam G_wR) (sq1 (sq2 kR3)) (f4R s r n) (sBR n 0) d1R=some (.normal,f4R s r n,sBR n 0,d2R):=by kernel_rfl
theorem wR_6:dexec tbT (gam G_wR) (sq1 kR6) (f4R s r n) (sBR n 0) d2R=some (.normal,f6R s r n,s6R n [.str [],.sl [] .full,.sl [] .full] [.sl r .non,.int .i64 s.length],d2R):=by kernel_rfl
def f7R:List PV:=((f6R s r n).set 27 (.fn 46 [])).set 28 (.ptr 3 0)
def o7R:Oper:=opAt (sq1 (sq2 kR6)) 2
theorem qWF:(qam (sq1 (sq2 kR6))).toList=opAt (sq1 (sq2 kR6)) 0::opAt (sq1 (sq2 kR6)) 1::o7R::(qam (sq1 (sq2 kR6))).toList.drop 3:=by kernel_rfl
theorem qVa:dop tbT (gam G_wR) (f7R s r n) (s6R n [.str [],.sl [] .full,.sl [] .full] [.sl r .non,.int .i64 s.length]) d2R o7R=dfin (gam G_wR) (f7R s r n) (s6R n [.str [],.sl [] .full,.sl [] .full] [.sl r .non,.int .i64 s.length]) d2R o7R (pop tbT (gam G_wR) (f7R s r n) (s6R n [.str [],.sl [] .full,.sl [] .full] [.sl r .non,.int .i64 s.length]) o7R):=by kernel_rfl
theorem qUU:pop tbT (gam G_wR) (f7R s r n) (s6R n [.str [],.sl [] .full,.sl [] .full] [.sl r .non,.int .i64 s.length]) o7R=qgi (frameT qpo [.ptr 3 0] (s6R n [.str [],.sl [] .full,.sl [] .full] [.sl r .non,.int .i64 s.length])).run:=by kernel_rfl
theorem qWP:ppan (gam G_wR) (f7R s r n) (s6R n [.str [],.sl [] .full,.sl [] .full] [.sl r .non,.int .i64 s.length]) o7R=qjT (frameT qpo [.ptr 3 0] (s6R n [.str [],.sl [] .full,.sl [] .full] [.sl r .non,.int .i64 s.length])).run:=by kernel_rfl
theorem wR_7 {y:DR} (h:dop tbT (gam G_wR) (f7R s r n) (s6R n [.str [],.sl [] .full,.sl [] .full] [.sl r .non,.int .i64 s.length]) d2R o7R=some y):dops tbT (gam G_wR) (qam (sq1 (sq2 kR6))).toList (qam (sq1 (sq2 kR6))).toList (f6R s r n) (s6R n [.str [],.sl [] .full,.sl [] .full] [.sl r .non,.int .i64 s.length]) d2R=match y with
  |.ok fr' σ' pd'=>dops tbT (gam G_wR) (qam (sq1 (sq2 kR6))).toList ((qam (sq1 (sq2 kR6))).toList.drop 3) fr' σ' pd'
  |y=>some y:=by
 conv=>lhs;arg 4;rw [qWF]
 rw [qa9 (fr':=(f6R s r n).set 27 (.fn 46 [])) (σ':=s6R n [.str [],.sl [] .full,.sl [] .full] [.sl r .non,.int .i64 s.length]) (pd':=d2R) (by kernel_rfl) (by kernel_rfl),qa9 (fr':=f7R s r n) (σ':=s6R n [.str [],.sl [] .full,.sl [] .full] [.sl r .non,.int .i64 s.length]) (pd':=d2R) (by kernel_rfl) (by kernel_rfl)]
 cases y with
 |ok fr' σ' pd'=>exact qa9 (by kernel_rfl) h
 |pan x fr' σ' pd'=>exact qhp (by kernel_rfl) h
theorem qQL {q:Option (PExit×List PV×Store×List PD)} (hw:(qar [.str s]).run=some (.tup [.sl r .non,.int .i64 n,.int .i64 0]))
  (h:dexec tbT (gam G_wR) (.seq (.region 7 (qam (sq1 (sq2 kR6))) false) (.seq (.seq (.region 8 (qam (sq1 (sq1 kR8))) false) (.cond (.tmp 36) (.region 9 (qam (sq1 (sq2 (sq1 kR8)))) false) .skip)) (sq2 kR8))) (f6R s r n) (s6R n [.str [],.sl [] .full,.sl [] .full] [.sl r .non,.int .i64 s.length]) d2R=q):dexec tbT (gam G_wR) c_wR (f0R s) ⟨[],[],[]⟩ []=q:=by
 rw [show c_wR=_ from congrArg (·.getD .skip) qVA]
 exact (qau (wR_0 s)).trans ((qau (qb3 (wR_1 s r n 0 hw))).trans ((qau (wR_2 s r n)).trans ((qau (wR_4 s r n)).trans ((qau (wR_5 s r n)).trans ((qau (wR_6 s r n)).trans h)))))
theorem qVK (hw:(qar [.str s]).run=some (.tup [.sl r .non,.int .i64 n,.int .i64 0])) {y:PV} {c':List PV} {os:List (List PV)} {tk:List (Nat×Nat×TypeId)} {ts:List TypeId}
  (hv:(qpo [.ptr 0 0] ⟨[[.sl (qad r) .non,.int .i64 s.length]],[],[138]⟩).run=some (.pan y,⟨c'::os,tk,138::ts⟩)) :
  dexec tbT (gam G_wR) c_wR (f0R s) ⟨[],[],[]⟩ []=some (.pan y,f7R s r n,s6R n [.str [],.sl [] .full,.sl [] .full] (qa4 c'),d2R):=by
 have hf:(frameT qpo [.ptr 3 0] (s6R n [.str [],.sl [] .full,.sl [] .full] [.sl r .non,.int .i64 s.length])).run=some (.pan y,s6R n [.str [],.sl [] .full,.sl [] .full] (qa4 c')):=(qdF (D:=qpo) (args:=[.ptr 3 0]) (σ:=s6R n [.str [],.sl [] .full,.sl [] .full] [.sl r .non,.int .i64 s.length]) rfl rfl rfl hv).trans (by kernel_rfl)
 refine qQL s r n hw (qe7 (qfj ?_));refine wR_7 s r n (y:=.pan y (f7R s r n) (s6R n [.str [],.sl [] .full,.sl [] .full] (qa4 c')) d2R) ?_;rw [qVa,qUU,hf];simp only [qgi,dfin,qWP,hf,qjT,Option.map_some]
theorem qQK (hw:(qar [.str s]).run=some (.tup [.sl r .non,.int .i64 n,.int .i64 0])) {a:List UInt8}{b c:List (List PV)} {r':List (List PV)} {m:Int}
  (hv:(qpo [.ptr 0 0] ⟨[[.sl (qad r) .non,.int .i64 s.length]],[],[138]⟩).run=some (.val (.agg [.str a,.sl b .non,.sl c .non]),⟨[[.sl r' .non,.int .i64 m]],[],[138]⟩)) {q:Option (PExit×List PV×Store×List PD)}
  (h:dexec tbT (gam G_wR) (.seq (.seq (.region 8 (qam (sq1 (sq1 kR8))) false) (.cond (.tmp 36) (.region 9 (qam (sq1 (sq2 (sq1 kR8)))) false) .skip)) (sq2 kR8)) ((f7R s r n).set 29 (.agg [.str a,.sl (qaa b) .non,.sl (qaa c) .non])) (s6R n [.str a,.sl (qaa b) .non,.sl (qaa c) .non] [.sl (qaa r') .non,.int .i64 m]) d2R=q) :
  dexec tbT (gam G_wR) c_wR (f0R s) ⟨[],[],[]⟩ []=q:=by
 have hf:(frameT qpo [.ptr 3 0] (s6R n [.str [],.sl [] .full,.sl [] .full] [.sl r .non,.int .i64 s.length])).run=some (.val (.agg [.str a,.sl (qaa b) .non,.sl (qaa c) .non]),s6R n [.str [],.sl [] .full,.sl [] .full] [.sl (qaa r') .non,.int .i64 m]):=(qdF (D:=qpo) (args:=[.ptr 3 0]) (σ:=s6R n [.str [],.sl [] .full,.sl [] .full] [.sl r .non,.int .i64 s.length]) rfl rfl rfl hv).trans (by kernel_rfl)
 refine qQL s r n hw ((qau (qb3 ?_)).trans h);refine (wR_7 s r n (y:=.ok ((f7R s r n).set 29 (.agg [.str a,.sl (qaa b) .non,.sl (qaa c) .non])) (s6R n [.str [],.sl [] .full,.sl [] .full] [.sl (qaa r') .non,.int .i64 m]) d2R) ?_).trans ?_
 ·rw [qVa,qUU,hf]
  kernel_rfl
 ·kernel_rfl
def f8R (fr:List PV) (rr:qR) (b:Bool):List PV:=((((((fr.set 30 (.ptr 3 0)).set 31 (.ptr 3 0)).set 32 (.ptr 3 0)).set 33 (.ptr 3 0)).set 34 (.sl rr .non)).set 35 (.int .i64 rr.length)).set 36 (.bool b)
variable  (a : List UInt8) (b c : List (List PV)) (rr : List (List PV)) (m : Int)
theorem wR_8:dops tbT (gam G_wR) (qam (sq1 (sq1 kR8))).toList (qam (sq1 (sq1 kR8))).toList ((f7R s r n).set 29 (.agg [.str a,.sl (qaa b) .non,.sl (qaa c) .non])) (s6R n [.str a,.sl (qaa b) .non,.sl (qaa c) .non] [.sl rr .non,.int .i64 m]) d2R=some (.ok (f8R ((f7R s r n).set 29 (.agg [.str a,.sl (qaa b) .non,.sl (qaa c) .non])) rr (decide ((rr.length:Int) > 0))) (s6R n [.str a,.sl (qaa b) .non,.sl (qaa c) .non] [.sl rr .non,.int .i64 m]) d2R):=by kernel_rfl
theorem qV1:dexec tbT (gam G_wR) (.seq (.seq (.region 8 (qam (sq1 (sq1 kR8))) false) (.cond (.tmp 36) (.region 9 (qam (sq1 (sq2 (sq1 kR8)))) false) .skip)) (sq2 kR8)) ((f7R s r n).set 29 (.agg [.str a,.sl (qaa b) .non,.sl (qaa c) .non])) (s6R n [.str a,.sl (qaa b) .non,.sl (qaa c) .non] [.sl [] .non,.int .i64 m]) d2R=some (.ret,(f8R ((f7R s r n).set 29 (.agg [.str a,.sl (qaa b) .non,.sl (qaa c) .non])) [] false).set 39 (.agg [.str a,.sl (qaa b) .non,.sl (qaa c) .non]),s6R 0 [.str a,.sl (qaa b) .non,.sl (qaa c) .non] [.sl [] .non,.int .i64 m],d2R):=by
 refine (qau ((qau (qb3 (wR_8 s r n a b c [] m))).trans (qnQ (by kernel_rfl)))).trans ?_
 kernel_rfl
def o9R:Oper:=opAt (sq1 (sq2 (sq1 kR8))) 1
theorem qR9 (x:List PV) {y:PV} {c':List PV} {os:List (List PV)} {tk:List (Nat×Nat×TypeId)} {ts:List TypeId} (hv:(qcD [.ptr 0 0] ⟨[[.sl (qad (x::rr)) .non,.int .i64 m]],[],[138]⟩).run=some (.pan y,⟨c'::os,tk,138::ts⟩)) :
  dexec tbT (gam G_wR) (.seq (.seq (.region 8 (qam (sq1 (sq1 kR8))) false) (.cond (.tmp 36) (.region 9 (qam (sq1 (sq2 (sq1 kR8)))) false) .skip)) (sq2 kR8)) ((f7R s r n).set 29 (.agg [.str a,.sl (qaa b) .non,.sl (qaa c) .non])) (s6R n [.str a,.sl (qaa b) .non,.sl (qaa c) .non] [.sl (x::rr) .non,.int .i64 m]) d2R=some (.pan y,(f8R ((f7R s r n).set 29 (.agg [.str a,.sl (qaa b) .non,.sl (qaa c) .non])) (x::rr) true).set 37 (.ptr 3 0),s6R n [.str a,.sl (qaa b) .non,.sl (qaa c) .non] (qa4 c'),d2R):=by
 have hb:decide ((((x::rr).length:Nat):Int) > 0)=true:=by simp only [List.length_cons,decide_eq_true_eq];omega
 have hf:(frameT qcD [.ptr 3 0] (s6R n [.str a,.sl (qaa b) .non,.sl (qaa c) .non] [.sl (x::rr) .non,.int .i64 m])).run=some (.pan y,s6R n [.str a,.sl (qaa b) .non,.sl (qaa c) .non] (qa4 c')):=(qdF (D:=qcD) (args:=[.ptr 3 0]) (σ:=s6R n [.str a,.sl (qaa b) .non,.sl (qaa c) .non] [.sl (x::rr) .non,.int .i64 m]) rfl rfl rfl hv).trans (by kernel_rfl)
 have h8:=wR_8 s r n a b c (x::rr) m;rw [hb] at h8;have ho:(qam (sq1 (sq2 (sq1 kR8)))).toList=[opAt (sq1 (sq2 (sq1 kR8))) 0,o9R]:=by kernel_rfl
 refine qe7 ((qau (qb3 h8)).trans ((qnf (by kernel_rfl)).trans (qfj ?_)))
 conv=>lhs;arg 4;rw [ho]
 rw [qa9 (fr':=(f8R ((f7R s r n).set 29 (.agg [.str a,.sl (qaa b) .non,.sl (qaa c) .non])) (x::rr) true).set 37 (.ptr 3 0)) (σ':=s6R n [.str a,.sl (qaa b) .non,.sl (qaa c) .non] [.sl (x::rr) .non,.int .i64 m]) (pd':=d2R) (by kernel_rfl) (by kernel_rfl)]
 refine qhp (by kernel_rfl) ?_
 have hd:dop tbT (gam G_wR) ((f8R ((f7R s r n).set 29 (.agg [.str a,.sl (qaa b) .non,.sl (qaa c) .non])) (x::rr) true).set 37 (.ptr 3 0)) (s6R n [.str a,.sl (qaa b) .non,.sl (qaa c) .non] [.sl (x::rr) .non,.int .i64 m]) d2R o9R=dfin (gam G_wR) ((f8R ((f7R s r n).set 29 (.agg [.str a,.sl (qaa b) .non,.sl (qaa c) .non])) (x::rr) true).set 37 (.ptr 3 0)) (s6R n [.str a,.sl (qaa b) .non,.sl (qaa c) .non] [.sl (x::rr) .non,.int .i64 m]) d2R o9R (qgi (frameT qcD [.ptr 3 0] (s6R n [.str a,.sl (qaa b) .non,.sl (qaa c) .non] [.sl (x::rr) .non,.int .i64 m])).run):=by kernel_rfl
 have hp:ppan (gam G_wR) ((f8R ((f7R s r n).set 29 (.agg [.str a,.sl (qaa b) .non,.sl (qaa c) .non])) (x::rr) true).set 37 (.ptr 3 0)) (s6R n [.str a,.sl (qaa b) .non,.sl (qaa c) .non] [.sl (x::rr) .non,.int .i64 m]) o9R=qjT (frameT qcD [.ptr 3 0] (s6R n [.str a,.sl (qaa b) .non,.sl (qaa c) .non] [.sl (x::rr) .non,.int .i64 m])).run:=by kernel_rfl
 rw [hd,hf];simp only [qgi,dfin,hp,hf,qjT,Option.map_some]
end
def finR:Option (PR×Store)→Option PV
 |some (.val (.agg [.str a,.sl b .non,.sl c .non]),⟨[[.sl r' .non,.int .i64 m]],[],[138]⟩)=>match qaa r' with
  |[]=>some (.tup [.agg [.str a,.sl (qaa (qaa b)) .non,.sl (qaa (qaa c)) .non],.int .i64 0,.int .i64 0])
  |x::rr=>qgr [.str [],.sl [] .non,.sl [] .non] (qcD [.ptr 0 0] ⟨[[.sl (qad (x::rr)) .non,.int .i64 m]],[],[138]⟩).run
 |q=>qgr [.str [],.sl [] .non,.sl [] .non] q
def outR (s:qU):Option PV:=match (qar [.str s]).run with
 |some (.tup [.sl r .non,.int .i64 n,.int .i64 e])=>match e != 0 with
  |true=>some (.tup [.agg [.str [],.sl [] .non,.sl [] .non],.int .i64 n,.int .i64 e])
  |false=>finR (qpo [.ptr 0 0] ⟨[[.sl (qad r) .non,.int .i64 s.length]],[],[138]⟩).run
 |_=>none
def FwR:List PV→Option PV
 |[.str s,.fn 46 []]=>outR s
 |_=>none
def FwR1:List PV→Option PV
 |[.str s,.fn 46 []]=>match qpl (qar [.str s]).run with
  |true=>outR s
  |false=>none
 |_=>none
def FwR2:List PV→Option PV
 |[.str s,.fn 46 []]=>match qpl (qar [.str s]).run with
  |true=>none
  |false=>outR s
 |_=>none
theorem qSA (gl:Gl) (hg:GlLex gl):SimP Tryz.prog gl 45 FwR1:=by
 refine SimP.of_does qaj Tryz.func45 (c:=c_wR) (by kernel_rfl) (by kernel_rfl) fun args x hx hrel=>?_
 clear hrel;unfold FwR1 at hx;split at hx
 ·rename_i s;split at hx
  ·rename_i hea;unfold outR at hx;split at hx
   ·rename_i r n e hw;have he:(e != 0)=true:=by rw [hw] at hea;exact hea
    rw [he] at hx;simp only [Option.some.injEq] at hx;subst hx;refine⟨.ret,fER s r n e (e != 0),sBR n e,[.agg [.str [],.sl [] .full,.sl [] .full],.int .i64 n,.int .i64 e],.inr rfl,?_,by kernel_rfl,by kernel_rfl⟩
    rw [show [PV.str s,PV.fn 46 []]++List.replicate (Tryz.f45.ntmps - [PV.str s,PV.fn 46 []].length) PV.top=f0R s from by kernel_rfl]
    exact qQm s r n e gl hg hw he
   ·cases hx
  ·cases hx
 ·cases hx
theorem qTD (gl:Gl) (hg:GlLex gl):SimP Tryz.prog gl 45 FwR2:=by
 refine SimP.of_defer qaj (qDZ gl hg) Tryz.func45 (c:=c_wR) (by kernel_rfl) (by kernel_rfl) fun args x hx=>?_
 unfold FwR2 at hx;split at hx
 ·rename_i s;split at hx
  ·cases hx
  rename_i hea;unfold outR at hx;split at hx
  ·rename_i r n e hw;have he:(e != 0)=false:=by rw [hw] at hea;exact hea
   rw [he] at hx;have he0:e=0:=by simpa using he
   subst he0;have hs:[PV.str s,PV.fn 46 []]++List.replicate (Tryz.f45.ntmps - [PV.str s,PV.fn 46 []].length) PV.top=f0R s:=by kernel_rfl
   rw [hs];simp only at hx;unfold finR at hx;split at hx
   ·rename_i a b c r' m hv;split at hx
    ·rename_i hr;simp only [Option.some.injEq] at hx;subst hx;refine⟨.ret,.ret,_,_,_,s6R 0 [.str a,.sl (qaa b) .non,.sl (qaa c) .non] [.sl [] .non,.int .i64 m],[.agg [.str a,.sl (qaa b) .non,.sl (qaa c) .non],.int .i64 0,.int .i64 0],qQK s r n hw hv (q:=some (.ret,(f8R ((f7R s r n).set 29 (.agg [.str a,.sl (qaa b) .non,.sl (qaa c) .non])) [] false).set 39 (.agg [.str a,.sl (qaa b) .non,.sl (qaa c) .non]),s6R 0 [.str a,.sl (qaa b) .non,.sl (qaa c) .non] [.sl [] .non,.int .i64 m],d2R)) (by rw [hr];exact qV1 s r n a b c m),.inl ⟨rfl,rfl⟩,?_,by kernel_rfl,by kernel_rfl⟩
     exact .cons (qLd gl _ _ _ _) (.cons (qRZ gl _ _ _) (.nil _))
    ·rename_i x rr hr;obtain⟨at_,c',os,tk,ts,hb,hwf,rfl⟩:=qd6 hx;refine⟨_,.pan (.iface 172 (.agg [.int .i64 at_])),_,_,_,⟨[[.str [],.sl [] .full,.sl [] .full],[.int .i64 at_],[.int .i64 130],qa4 c',[.int .i64 at_],[.str [],.sl [] .full,.sl [] .full]],[],[51,3,28,138,172,51]⟩,[.agg [.str [],.sl [] .full,.sl [] .full],.int .i64 at_,.int .i64 130],qQK s r n hw hv (q:=some (.pan (.iface 172 (.agg [.int .i64 at_])),(f8R ((f7R s r n).set 29 (.agg [.str a,.sl (qaa b) .non,.sl (qaa c) .non])) (x::rr) true).set 37 (.ptr 3 0),s6R n [.str a,.sl (qaa b) .non,.sl (qaa c) .non] (qa4 c'),d2R)) (by rw [hr];exact qR9 s r n a b c rr m x hb),.inr ⟨_,rfl,rfl⟩,?_,by kernel_rfl,by kernel_rfl⟩
     exact .cons (qyk gl _ _ _ _ _ hwf) (.cons (qRP gl a (qaa b) (qaa c) _ _ _) (.nil _))
   ·obtain⟨at_,c',os,tk,ts,hb,hwf,rfl⟩:=qd6 hx;refine⟨_,.pan (.iface 172 (.agg [.int .i64 at_])),_,_,_,⟨[[.str [],.sl [] .full,.sl [] .full],[.int .i64 at_],[.int .i64 130],qa4 c',[.int .i64 at_],[.str [],.sl [] .full,.sl [] .full]],[],[51,3,28,138,172,51]⟩,[.agg [.str [],.sl [] .full,.sl [] .full],.int .i64 at_,.int .i64 130],qVK s r n hw hb,.inr ⟨_,rfl,rfl⟩,?_,by kernel_rfl,by kernel_rfl⟩
    exact .cons (qyk gl _ _ _ _ _ hwf) (.cons (qPx gl _ _ _) (.nil _))
  ·cases hx
 ·cases hx
theorem qQG (gl:Gl) (hg:GlLex gl):SimP Tryz.prog gl 45 FwR:=by
 refine SimP.or (qSA gl hg) (qTD gl hg) fun args x hx=>?_
 unfold FwR at hx;split at hx
 ·rename_i s;cases he:qpl (qar [.str s]).run with
  |true=>exact .inl (by simp only [FwR1,he,hx])
  |false=>exact .inr (by simp only [FwR2,he,hx])
 ·cases hx
theorem qSN (gl:Gl) (o0:List PV) (n:Int) (rc:List PV):DefOk Tryz.prog gl 110 ([]++[.ptr 2 0,.ptr 0 0]) .ret ⟨[o0,[.int .i64 n],[.int .i64 0],rc],[],[48,3,28,138]⟩ .ret ⟨[o0,[.int .i64 n],[.int .i64 0],rc],[],[48,3,28,138]⟩ :=
 DefOk.of_quiet (e:=.normal) qaj (qky gl) Tryz.func110 (by rfl) (by kernel_rfl) (by rfl) (.inl rfl) (by kernel_rfl)
theorem qUd (gl:Gl) (a:qU) (b:qR) (at_:Int) (rc x:List PV):DefOk Tryz.prog gl 110 ([]++[.ptr 2 0,.ptr 0 0]) .ret ⟨[[.str a,.sl b .non],[.int .i64 at_],[.int .i64 130],rc,x],[],[48,3,28,138,172]⟩ .ret ⟨[[.str [],.sl [] .full],[.int .i64 at_],[.int .i64 130],rc,x,[.str [],.sl [] .full]],[],[48,3,28,138,172,48]⟩ :=
 DefOk.of_quiet (e:=.normal) qaj (qky gl) Tryz.func110 (by rfl) (by kernel_rfl) (by rfl) (.inl rfl) (by kernel_rfl)
theorem qQe (gl:Gl) (at_:Int) (rc x:List PV):DefOk Tryz.prog gl 110 ([]++[.ptr 2 0,.ptr 0 0]) .ret ⟨[[.str [],.sl [] .full],[.int .i64 at_],[.int .i64 130],rc,x],[],[48,3,28,138,172]⟩ .ret ⟨[[.str [],.sl [] .full],[.int .i64 at_],[.int .i64 130],rc,x,[.str [],.sl [] .full]],[],[48,3,28,138,172,48]⟩ :=
 DefOk.of_quiet (e:=.normal) qaj (qky gl) Tryz.func110 (by rfl) (by kernel_rfl) (by rfl) (.inl rfl) (by kernel_rfl)
def G_wA:GamT:=ofL [(82,.pure qar),(50,.may (frameT qoz)),(85,.may (frameT qcD)),(qdx,.flag)]
theorem qDu (gl:Gl) (hg:GlLex gl):qal Tryz.prog gl (gam G_wA):=qag (qrP gl hg) (qah (SimM.frameT (qUc gl)) (qah (SimM.frameT (qmW gl)) (qbt qaf)))
def c_wA:Code:=(Tryz.f49.body).getD .skip
def kA2:Code:=sq2 (sq2 c_wA)
def kA3:Code:=sq2 kA2
def kA6:Code:=sq2 (sq2 kA3)
def kA8:Code:=sq2 (sq2 kA6)
theorem qVE:Tryz.f49.body=some (.seq (.region 0 (qam (sq1 c_wA)) false) (.seq (.region 1 (qam (sq1 (sq2 c_wA))) false) (.seq (.seq (.region 2 (qam (sq1 (sq1 kA2))) false) (.cond (.tmp 16) (.seq (.region 3 (qam (sq1 (sq1 (sq2 (sq1 kA2))))) true) .ret) .skip)) (.seq (sq1 kA3) (.seq (sq1 (sq2 kA3)) (.seq (sq1 kA6) (.seq (.region 7 (qam (sq1 (sq2 kA6))) false) (.seq (.seq (.region 8 (qam (sq1 (sq1 kA8))) false) (.cond (.tmp 36) (.region 9 (qam (sq1 (sq2 (sq1 kA8)))) false) .skip)) (sq2 kA8))))))))):=by kernel_rfl
section
variable (s : List UInt8) (r : List (List PV)) (n e : Int)
def f0A:List PV:=[.str s,.fn 50 []]++List.replicate 38 .top
def fAA:List PV:=(((f0A s).set 4 (.ptr 0 0)).set 5 (.ptr 1 0)).set 6 (.ptr 2 0)
def owA:PV:=.tup [.sl r .non,.int .i64 n,.int .i64 e]
def fBA:List PV:=(((((((fAA s).set 10 (.str s)).set 11 (owA r n e)).set 9 (owA r n e)).set 12 (.sl r .non)).set 13 (.int .i64 n)).set 14 (.int .i64 e)).set 7 (.sl r .non)
def fCA (b:Bool):List PV:=((fBA s r n e).set 15 (.int .i64 e)).set 16 (.bool b)
def fEA (b:Bool):List PV:=(((fCA s r n e b).set 17 (.agg [.str [],.sl [] .full])).set 18 (.int .i64 n)).set 19 (.int .i64 e)
def sBA:Store:=⟨[[.str [],.sl [] .full],[.int .i64 n],[.int .i64 e]],[],[48,3,28]⟩
theorem wA_0:dexec tbT (gam G_wA) (.region 0 (qam (sq1 c_wA)) false) (f0A s) ⟨[],[],[]⟩ []=some (.normal,fAA s,sBA 0 0,[]):=by kernel_rfl
theorem qWO:pops tbT (gam G_wA) (qam (sq1 c_wA)).toList (qam (sq1 c_wA)).toList (f0A s) ⟨[],[],[]⟩=some (fAA s,sBA 0 0):=by kernel_rfl
variable (hw : (qar [.str s]).run = some (.tup [.sl r .non, .int .i64 n, .int .i64 e]))
include hw
theorem wA_c:pop tbT (gam G_wA) ((fAA s).set 10 (.str s)) (sBA 0 0) (opAt (sq1 (sq2 c_wA)) 1)=some (owA r n e,sBA 0 0):=by
 have h:pop tbT (gam G_wA) ((fAA s).set 10 (.str s)) (sBA 0 0) (opAt (sq1 (sq2 c_wA)) 1)=(qar [.str s]).run.map fun x=>(x,sBA 0 0):=by kernel_rfl
 rw [h,hw];rfl
theorem wA_1:dops tbT (gam G_wA) (qam (sq1 (sq2 c_wA))).toList (qam (sq1 (sq2 c_wA))).toList (fAA s) (sBA 0 0) []=some (.ok (fBA s r n e) (sBA n e) []):=by
 have h0:(qam (sq1 (sq2 c_wA))).toList=opAt (sq1 (sq2 c_wA)) 0::opAt (sq1 (sq2 c_wA)) 1::(qam (sq1 (sq2 c_wA))).toList.drop 2:=by kernel_rfl
 have h1:dop tbT (gam G_wA) ((fAA s).set 10 (.str s)) (sBA 0 0) [] (opAt (sq1 (sq2 c_wA)) 1)=dfin (gam G_wA) ((fAA s).set 10 (.str s)) (sBA 0 0) [] (opAt (sq1 (sq2 c_wA)) 1) (pop tbT (gam G_wA) ((fAA s).set 10 (.str s)) (sBA 0 0) (opAt (sq1 (sq2 c_wA)) 1)):=by kernel_rfl
 rw [wA_c s r n e hw] at h1
 conv=>lhs;arg 4;rw [h0]
 rw [qa9 (fr':=(fAA s).set 10 (.str s)) (σ':=sBA 0 0) (pd':=[]) (by kernel_rfl) (by kernel_rfl),qa9 (fr':=((fAA s).set 10 (.str s)).set 11 (owA r n e)) (σ':=sBA 0 0) (pd':=[]) (by kernel_rfl) (h1.trans (by kernel_rfl))]
 kernel_rfl
theorem qWy:pops tbT (gam G_wA) (qam (sq1 (sq2 c_wA))).toList (qam (sq1 (sq2 c_wA))).toList (fAA s) (sBA 0 0)=some (fBA s r n e,sBA n e):=by
 have h0:(qam (sq1 (sq2 c_wA))).toList=opAt (sq1 (sq2 c_wA)) 0::opAt (sq1 (sq2 c_wA)) 1::(qam (sq1 (sq2 c_wA))).toList.drop 2:=by kernel_rfl
 conv=>lhs;arg 4;rw [h0]
 rw [qg1 (x:=.str s) (σ':=sBA 0 0) (by kernel_rfl) (by kernel_rfl)]
 refine (qg1 (x:=owA r n e) (σ':=sBA 0 0) (by kernel_rfl) (wA_c s r n e hw)).trans ?_
 kernel_rfl
end
section
variable (s : List UInt8) (r : List (List PV)) (n e : Int)
theorem qWr:pops tbT (gam G_wA) (qam (sq1 (sq1 kA2))).toList (qam (sq1 (sq1 kA2))).toList (fBA s r n e) (sBA n e)=some (fCA s r n e (e != 0),sBA n e):=by kernel_rfl
def r3A:Code:=sq1 (sq1 (sq2 (sq1 kA2)))
theorem wA_3 (b:Bool):qir tbT (gam G_wA) (qam r3A).toList (qam r3A).toList 0 [] (fCA s r n e b) (sBA n e)=some (.ok (fEA s r n e b) (sBA n e)):=by
 have h0:(qam r3A).toList=[opAt r3A 0,opAt r3A 1,opAt r3A 2,opAt r3A 3,opAt r3A 4,opAt r3A 5]:=by kernel_rfl
 conv=>lhs;arg 4;rw [h0]
 refine (qaT (x:=.agg [.str [],.sl [] .full]) (σ':=sBA n e) (by kernel_rfl) (by kernel_rfl) (fun h=>absurd h (by rw [show writes (gam G_wA) (opAt r3A 0)=false from by kernel_rfl];simp))).trans ?_
 refine (qaT (x:=.int .i64 n) (σ':=sBA n e) (by kernel_rfl) (by kernel_rfl) (fun h=>absurd h (by rw [show writes (gam G_wA) (opAt r3A 1)=false from by kernel_rfl];simp))).trans ?_
 refine (qaT (x:=.int .i64 e) (σ':=sBA n e) (by kernel_rfl) (by kernel_rfl) (fun h=>absurd h (by rw [show writes (gam G_wA) (opAt r3A 2)=false from by kernel_rfl];simp))).trans ?_
 refine (qaT (x:=.top) (σ':=sBA n e) (by kernel_rfl) (by kernel_rfl) (fun _=>?_)).trans ?_
 ·exact qdy (l':=[(2,2),(1,1),(0,0)]) (by kernel_rfl) ⟨.inr rfl,.inr rfl,.inr rfl,trivial⟩
 refine (qaT (x:=.top) (σ':=sBA n e) (by kernel_rfl) (by kernel_rfl) (fun _=>?_)).trans ?_
 ·exact qdy (l':=[(2,2),(1,1),(0,0)]) (by kernel_rfl) ⟨.inr rfl,.inr rfl,.inr rfl,trivial⟩
 refine (qaT (x:=.top) (σ':=sBA n e) (by kernel_rfl) (by kernel_rfl) (fun _=>?_)).trans ?_
 ·exact qdy (l':=[(2,2),(1,1),(0,0)]) (by kernel_rfl) ⟨.inr rfl,.inr rfl,.inr rfl,trivial⟩
 kernel_rfl
theorem qQv (gl:Gl) (hg:GlLex gl) (hw:(qar [.str s]).run=some (.tup [.sl r .non,.int .i64 n,.int .i64 e])) (he:(e != 0)=true):Does Tryz.prog gl c_wA (f0A s) ⟨[],[],[]⟩ .ret (fEA s r n e (e != 0)) (sBA n e):=by
 rw [show c_wA=_ from congrArg (·.getD .skip) qVE]
 exact Does.seqN (Does.reg qaj (qDu gl hg) (qWO s)) (Does.seqN (Does.reg qaj (qDu gl hg) (qWy s r n e hw)) (Does.seqR (Does.seqN (Does.reg qaj (qDu gl hg) (qWr s r n e)) (Does.condT (by rw [he];rfl) (Does.seqN (Does.regD qaj (qDu gl hg) qai (by kernel_rfl) (wA_3 s r n e _)) Does.ret)))))
def f4A:List PV:=(fCA s r n 0 false).set 20 (.fn 110 [.ptr 2 0,.ptr 0 0])
def d1A:List PD:=[(110,[],[.ptr 2 0,.ptr 0 0])]
def d2A:List PD:=(84,[.ptr 1 0,.ptr 2 0],[])::d1A
def f6A:List PV:=(((((((f4A s r n).set 21 (.sl r .non)).set 22 (.agg [.sl r .non])).set 23 (.str s)).set 24 (.int .i64 s.length)).set 25 (.agg [.sl r .non,.int .i64 s.length])).set 26 (.ptr 3 0)).set 8 (.ptr 3 0)
def s6A (z:List PV) (rc:List PV):Store:=⟨[z,[.int .i64 n],[.int .i64 0],rc],[],[48,3,28,138]⟩
theorem wA_2:dexec tbT (gam G_wA) (.seq (.region 2 (qam (sq1 (sq1 kA2))) false) (.cond (.tmp 16) (.seq (.region 3 (qam (sq1 (sq1 (sq2 (sq1 kA2))))) true) .ret) .skip)) (fBA s r n 0) (sBA n 0) []=some (.normal,fCA s r n 0 false,sBA n 0,[]):=by kernel_rfl
theorem wA_4:dexec tbT (gam G_wA) (sq1 kA3) (fCA s r n 0 false) (sBA n 0) []=some (.normal,f4A s r n,sBA n 0,d1A):=by kernel_rfl
theorem wA_5:dexec tbT (gam G_wA) (sq1 (sq2 kA3)) (f4A s r n) (sBA n 0) d1A=some (.normal,f4A s r n,sBA n 0,d2A):=by kernel_rfl
theorem wA_6:dexec tbT (gam G_wA) (sq1 kA6) (f4A s r n) (sBA n 0) d2A=some (.normal,f6A s r n,s6A n [.str [],.sl [] .full] [.sl r .non,.int .i64 s.length],d2A):=by kernel_rfl
def f7A:List PV:=((f6A s r n).set 27 (.fn 50 [])).set 28 (.ptr 3 0)
def o7A:Oper:=opAt (sq1 (sq2 kA6)) 2
theorem qWQ:(qam (sq1 (sq2 kA6))).toList=opAt (sq1 (sq2 kA6)) 0::opAt (sq1 (sq2 kA6)) 1::o7A::(qam (sq1 (sq2 kA6))).toList.drop 3:=by kernel_rfl
theorem qVW:dop tbT (gam G_wA) (f7A s r n) (s6A n [.str [],.sl [] .full] [.sl r .non,.int .i64 s.length]) d2A o7A=dfin (gam G_wA) (f7A s r n) (s6A n [.str [],.sl [] .full] [.sl r .non,.int .i64 s.length]) d2A o7A (pop tbT (gam G_wA) (f7A s r n) (s6A n [.str [],.sl [] .full] [.sl r .non,.int .i64 s.length]) o7A):=by kernel_rfl
theorem qV2:pop tbT (gam G_wA) (f7A s r n) (s6A n [.str [],.sl [] .full] [.sl r .non,.int .i64 s.length]) o7A=qgi (frameT qoz [.ptr 3 0] (s6A n [.str [],.sl [] .full] [.sl r .non,.int .i64 s.length])).run:=by kernel_rfl
theorem qWo:ppan (gam G_wA) (f7A s r n) (s6A n [.str [],.sl [] .full] [.sl r .non,.int .i64 s.length]) o7A=qjT (frameT qoz [.ptr 3 0] (s6A n [.str [],.sl [] .full] [.sl r .non,.int .i64 s.length])).run:=by kernel_rfl
theorem wA_7 {y:DR} (h:dop tbT (gam G_wA) (f7A s r n) (s6A n [.str [],.sl [] .full] [.sl r .non,.int .i64 s.length]) d2A o7A=some y):dops tbT (gam G_wA) (qam (sq1 (sq2 kA6))).toList (qam (sq1 (sq2 kA6))).toList (f6A s r n) (s6A n [.str [],.sl [] .full] [.sl r .non,.int .i64 s.length]) d2A=match y with
  |.ok fr' σ' pd'=>dops tbT (gam G_wA) (qam (sq1 (sq2 kA6))).toList ((qam (sq1 (sq2 kA6))).toList.drop 3) fr' σ' pd'
  |y=>some y:=by
 conv=>lhs;arg 4;rw [qWQ]
 rw [qa9 (fr':=(f6A s r n).set 27 (.fn 50 [])) (σ':=s6A n [.str [],.sl [] .full] [.sl r .non,.int .i64 s.length]) (pd':=d2A) (by kernel_rfl) (by kernel_rfl),qa9 (fr':=f7A s r n) (σ':=s6A n [.str [],.sl [] .full] [.sl r .non,.int .i64 s.length]) (pd':=d2A) (by kernel_rfl) (by kernel_rfl)]
 cases y with
 |ok fr' σ' pd'=>exact qa9 (by kernel_rfl) h
 |pan x fr' σ' pd'=>exact qhp (by kernel_rfl) h
theorem qRc {q:Option (PExit×List PV×Store×List PD)} (hw:(qar [.str s]).run=some (.tup [.sl r .non,.int .i64 n,.int .i64 0]))
  (h:dexec tbT (gam G_wA) (.seq (.region 7 (qam (sq1 (sq2 kA6))) false) (.seq (.seq (.region 8 (qam (sq1 (sq1 kA8))) false) (.cond (.tmp 36) (.region 9 (qam (sq1 (sq2 (sq1 kA8)))) false) .skip)) (sq2 kA8))) (f6A s r n) (s6A n [.str [],.sl [] .full] [.sl r .non,.int .i64 s.length]) d2A=q):dexec tbT (gam G_wA) c_wA (f0A s) ⟨[],[],[]⟩ []=q:=by
 rw [show c_wA=_ from congrArg (·.getD .skip) qVE]
 exact (qau (wA_0 s)).trans ((qau (qb3 (wA_1 s r n 0 hw))).trans ((qau (wA_2 s r n)).trans ((qau (wA_4 s r n)).trans ((qau (wA_5 s r n)).trans ((qau (wA_6 s r n)).trans h)))))
theorem qUT (hw:(qar [.str s]).run=some (.tup [.sl r .non,.int .i64 n,.int .i64 0])) {y:PV} {c':List PV} {os:List (List PV)} {tk:List (Nat×Nat×TypeId)} {ts:List TypeId}
  (hv:(qoz [.ptr 0 0] ⟨[[.sl (qad r) .non,.int .i64 s.length]],[],[138]⟩).run=some (.pan y,⟨c'::os,tk,138::ts⟩)) :
  dexec tbT (gam G_wA) c_wA (f0A s) ⟨[],[],[]⟩ []=some (.pan y,f7A s r n,s6A n [.str [],.sl [] .full] (qa4 c'),d2A):=by
 have hf:(frameT qoz [.ptr 3 0] (s6A n [.str [],.sl [] .full] [.sl r .non,.int .i64 s.length])).run=some (.pan y,s6A n [.str [],.sl [] .full] (qa4 c')):=(qdF (D:=qoz) (args:=[.ptr 3 0]) (σ:=s6A n [.str [],.sl [] .full] [.sl r .non,.int .i64 s.length]) rfl rfl rfl hv).trans (by kernel_rfl)
 refine qRc s r n hw (qe7 (qfj ?_));refine wA_7 s r n (y:=.pan y (f7A s r n) (s6A n [.str [],.sl [] .full] (qa4 c')) d2A) ?_;rw [qVW,qV2,hf];simp only [qgi,dfin,qWo,hf,qjT,Option.map_some]
theorem qRf (hw:(qar [.str s]).run=some (.tup [.sl r .non,.int .i64 n,.int .i64 0])) {a:List UInt8}{b:List (List PV)} {r':List (List PV)} {m:Int}
  (hv:(qoz [.ptr 0 0] ⟨[[.sl (qad r) .non,.int .i64 s.length]],[],[138]⟩).run=some (.val (.agg [.str a,.sl b .non]),⟨[[.sl r' .non,.int .i64 m]],[],[138]⟩)) {q:Option (PExit×List PV×Store×List PD)}
  (h:dexec tbT (gam G_wA) (.seq (.seq (.region 8 (qam (sq1 (sq1 kA8))) false) (.cond (.tmp 36) (.region 9 (qam (sq1 (sq2 (sq1 kA8)))) false) .skip)) (sq2 kA8)) ((f7A s r n).set 29 (.agg [.str a,.sl (qaa b) .non])) (s6A n [.str a,.sl (qaa b) .non] [.sl (qaa r') .non,.int .i64 m]) d2A=q) :
  dexec tbT (gam G_wA) c_wA (f0A s) ⟨[],[],[]⟩ []=q:=by
 have hf:(frameT qoz [.ptr 3 0] (s6A n [.str [],.sl [] .full] [.sl r .non,.int .i64 s.length])).run=some (.val (.agg [.str a,.sl (qaa b) .non]),s6A n [.str [],.sl [] .full] [.sl (qaa r') .non,.int .i64 m]):=(qdF (D:=qoz) (args:=[.ptr 3 0]) (σ:=s6A n [.str [],.sl [] .full] [.sl r .non,.int .i64 s.length]) rfl rfl rfl hv).trans (by kernel_rfl)
 refine qRc s r n hw ((qau (qb3 ?_)).trans h);refine (wA_7 s r n (y:=.ok ((f7A s r n).set 29 (.agg [.str a,.sl (qaa b) .non])) (s6A n [.str [],.sl [] .full] [.sl (qaa r') .non,.int .i64 m]) d2A) ?_).trans ?_
 ·rw [qVW,qV2,hf]
  kernel_rfl
 ·kernel_rfl
def f8A (fr:List PV) (rr:qR) (b:Bool):List PV:=((((((fr.set 30 (.ptr 3 0)).set 31 (.ptr 3 0)).set 32 (.ptr 3 0)).set 33 (.ptr 3 0)).set 34 (.sl rr .non)).set 35 (.int .i64 rr.length)).set 36 (.bool b)
variable  (a : List UInt8) (b : List (List PV)) (rr : List (List PV)) (m : Int)
theorem wA_8:dops tbT (gam G_wA) (qam (sq1 (sq1 kA8))).toList (qam (sq1 (sq1 kA8))).toList ((f7A s r n).set 29 (.agg [.str a,.sl (qaa b) .non])) (s6A n [.str a,.sl (qaa b) .non] [.sl rr .non,.int .i64 m]) d2A=some (.ok (f8A ((f7A s r n).set 29 (.agg [.str a,.sl (qaa b) .non])) rr (decide ((rr.length:Int) > 0))) (s6A n [.str a,.sl (qaa b) .non] [.sl rr .non,.int .i64 m]) d2A):=by kernel_rfl
theorem qVT:dexec tbT (gam G_wA) (.seq (.seq (.region 8 (qam (sq1 (sq1 kA8))) false) (.cond (.tmp 36) (.region 9 (qam (sq1 (sq2 (sq1 kA8)))) false) .skip)) (sq2 kA8)) ((f7A s r n).set 29 (.agg [.str a,.sl (qaa b) .non])) (s6A n [.str a,.sl (qaa b) .non] [.sl [] .non,.int .i64 m]) d2A=some (.ret,(f8A ((f7A s r n).set 29 (.agg [.str a,.sl (qaa b) .non])) [] false).set 39 (.agg [.str a,.sl (qaa b) .non]),s6A 0 [.str a,.sl (qaa b) .non] [.sl [] .non,.int .i64 m],d2A):=by
 refine (qau ((qau (qb3 (wA_8 s r n a b [] m))).trans (qnQ (by kernel_rfl)))).trans ?_
 kernel_rfl
def o9A:Oper:=opAt (sq1 (sq2 (sq1 kA8))) 1
theorem qTY (x:List PV) {y:PV} {c':List PV} {os:List (List PV)} {tk:List (Nat×Nat×TypeId)} {ts:List TypeId} (hv:(qcD [.ptr 0 0] ⟨[[.sl (qad (x::rr)) .non,.int .i64 m]],[],[138]⟩).run=some (.pan y,⟨c'::os,tk,138::ts⟩)) :
  dexec tbT (gam G_wA) (.seq (.seq (.region 8 (qam (sq1 (sq1 kA8))) false) (.cond (.tmp 36) (.region 9 (qam (sq1 (sq2 (sq1 kA8)))) false) .skip)) (sq2 kA8)) ((f7A s r n).set 29 (.agg [.str a,.sl (qaa b) .non])) (s6A n [.str a,.sl (qaa b) .non] [.sl (x::rr) .non,.int .i64 m]) d2A=some (.pan y,(f8A ((f7A s r n).set 29 (.agg [.str a,.sl (qaa b) .non])) (x::rr) true).set 37 (.ptr 3 0),s6A n [.str a,.sl (qaa b) .non] (qa4 c'),d2A):=by
 have hb:decide ((((x::rr).length:Nat):Int) > 0)=true:=by simp only [List.length_cons,decide_eq_true_eq];omega
 have hf:(frameT qcD [.ptr 3 0] (s6A n [.str a,.sl (qaa b) .non] [.sl (x::rr) .non,.int .i64 m])).run=some (.pan y,s6A n [.str a,.sl (qaa b) .non] (qa4 c')):=(qdF (D:=qcD) (args:=[.ptr 3 0]) (σ:=s6A n [.str a,.sl (qaa b) .non] [.sl (x::rr) .non,.int .i64 m]) rfl rfl rfl hv).trans (by kernel_rfl)
 have h8:=wA_8 s r n a b (x::rr) m;rw [hb] at h8;have ho:(qam (sq1 (sq2 (sq1 kA8)))).toList=[opAt (sq1 (sq2 (sq1 kA8))) 0,o9A]:=by kernel_rfl
 refine qe7 ((qau (qb3 h8)).trans ((qnf (by kernel_rfl)).trans (qfj ?_)))
 conv=>lhs;arg 4;rw [ho]
 rw [qa9 (fr':=(f8A ((f7A s r n).set 29 (.agg [.str a,.sl (qaa b) .non])) (x::rr) true).set 37 (.ptr 3 0)) (σ':=s6A n [.str a,.sl (qaa b) .non] [.sl (x::rr) .non,.int .i64 m]) (pd':=d2A) (by kernel_rfl) (by kernel_rfl)]
 refine qhp (by kernel_rfl) ?_
 have hd:dop tbT (gam G_wA) ((f8A ((f7A s r n).set 29 (.agg [.str a,.sl (qaa b) .non])) (x::rr) true).set 37 (.ptr 3 0)) (s6A n [.str a,.sl (qaa b) .non] [.sl (x::rr) .non,.int .i64 m]) d2A o9A=dfin (gam G_wA) ((f8A ((f7A s r n).set 29 (.agg [.str a,.sl (qaa b) .non])) (x::rr) true).set 37 (.ptr 3 0)) (s6A n [.str a,.sl (qaa b) .non] [.sl (x::rr) .non,.int .i64 m]) d2A o9A (qgi (frameT qcD [.ptr 3 0] (s6A n [.str a,.sl (qaa b) .non] [.sl (x::rr) .non,.int .i64 m])).run):=by kernel_rfl
 have hp:ppan (gam G_wA) ((f8A ((f7A s r n).set 29 (.agg [.str a,.sl (qaa b) .non])) (x::rr) true).set 37 (.ptr 3 0)) (s6A n [.str a,.sl (qaa b) .non] [.sl (x::rr) .non,.int .i64 m]) o9A=qjT (frameT qcD [.ptr 3 0] (s6A n [.str a,.sl (qaa b) .non] [.sl (x::rr) .non,.int .i64 m])).run:=by kernel_rfl
 rw [hd,hf];simp only [qgi,dfin,hp,hf,qjT,Option.map_some]
end
def finA:Option (PR×Store)→Option PV
 |some (.val (.agg [.str a,.sl b .non]),⟨[[.sl r' .non,.int .i64 m]],[],[138]⟩)=>match qaa r' with
  |[]=>some (.tup [.agg [.str a,.sl (qaa (qaa b)) .non],.int .i64 0,.int .i64 0])
  |x::rr=>qgr [.str [],.sl [] .non] (qcD [.ptr 0 0] ⟨[[.sl (qad (x::rr)) .non,.int .i64 m]],[],[138]⟩).run
 |q=>qgr [.str [],.sl [] .non] q
def outA (s:qU):Option PV:=match (qar [.str s]).run with
 |some (.tup [.sl r .non,.int .i64 n,.int .i64 e])=>match e != 0 with
  |true=>some (.tup [.agg [.str [],.sl [] .non],.int .i64 n,.int .i64 e])
  |false=>finA (qoz [.ptr 0 0] ⟨[[.sl (qad r) .non,.int .i64 s.length]],[],[138]⟩).run
 |_=>none
def FwA:List PV→Option PV
 |[.str s,.fn 50 []]=>outA s
 |_=>none
def FwA1:List PV→Option PV
 |[.str s,.fn 50 []]=>match qpl (qar [.str s]).run with
  |true=>outA s
  |false=>none
 |_=>none
def FwA2:List PV→Option PV
 |[.str s,.fn 50 []]=>match qpl (qar [.str s]).run with
  |true=>none
  |false=>outA s
 |_=>none
theorem qSy (gl:Gl) (hg:GlLex gl):SimP Tryz.prog gl 49 FwA1:=by
 refine SimP.of_does qaj Tryz.func49 (c:=c_wA) (by kernel_rfl) (by kernel_rfl) fun args x hx hrel=>?_
 clear hrel;unfold FwA1 at hx;split at hx
 ·rename_i s;split at hx
  ·rename_i hea;unfold outA at hx;split at hx
   ·rename_i r n e hw;have he:(e != 0)=true:=by rw [hw] at hea;exact hea
    rw [he] at hx;simp only [Option.some.injEq] at hx;subst hx;refine⟨.ret,fEA s r n e (e != 0),sBA n e,[.agg [.str [],.sl [] .full],.int .i64 n,.int .i64 e],.inr rfl,?_,by kernel_rfl,by kernel_rfl⟩
    rw [show [PV.str s,PV.fn 50 []]++List.replicate (Tryz.f49.ntmps - [PV.str s,PV.fn 50 []].length) PV.top=f0A s from by kernel_rfl]
    exact qQv s r n e gl hg hw he
   ·cases hx
  ·cases hx
 ·cases hx
theorem qSg (gl:Gl) (hg:GlLex gl):SimP Tryz.prog gl 49 FwA2:=by
 refine SimP.of_defer qaj (qDu gl hg) Tryz.func49 (c:=c_wA) (by kernel_rfl) (by kernel_rfl) fun args x hx=>?_
 unfold FwA2 at hx;split at hx
 ·rename_i s;split at hx
  ·cases hx
  rename_i hea;unfold outA at hx;split at hx
  ·rename_i r n e hw;have he:(e != 0)=false:=by rw [hw] at hea;exact hea
   rw [he] at hx;have he0:e=0:=by simpa using he
   subst he0;have hs:[PV.str s,PV.fn 50 []]++List.replicate (Tryz.f49.ntmps - [PV.str s,PV.fn 50 []].length) PV.top=f0A s:=by kernel_rfl
   rw [hs];simp only at hx;unfold finA at hx;split at hx
   ·rename_i a b r' m hv;split at hx
    ·rename_i hr;simp only [Option.some.injEq] at hx;subst hx;refine⟨.ret,.ret,_,_,_,s6A 0 [.str a,.sl (qaa b) .non] [.sl [] .non,.int .i64 m],[.agg [.str a,.sl (qaa b) .non],.int .i64 0,.int .i64 0],qRf s r n hw hv (q:=some (.ret,(f8A ((f7A s r n).set 29 (.agg [.str a,.sl (qaa b) .non])) [] false).set 39 (.agg [.str a,.sl (qaa b) .non]),s6A 0 [.str a,.sl (qaa b) .non] [.sl [] .non,.int .i64 m],d2A)) (by rw [hr];exact qVT s r n a b m),.inl ⟨rfl,rfl⟩,?_,by kernel_rfl,by kernel_rfl⟩
     exact .cons (qLd gl _ _ _ _) (.cons (qSN gl _ _ _) (.nil _))
    ·rename_i x rr hr;obtain⟨at_,c',os,tk,ts,hb,hwf,rfl⟩:=qd6 hx;refine⟨_,.pan (.iface 172 (.agg [.int .i64 at_])),_,_,_,⟨[[.str [],.sl [] .full],[.int .i64 at_],[.int .i64 130],qa4 c',[.int .i64 at_],[.str [],.sl [] .full]],[],[48,3,28,138,172,48]⟩,[.agg [.str [],.sl [] .full],.int .i64 at_,.int .i64 130],qRf s r n hw hv (q:=some (.pan (.iface 172 (.agg [.int .i64 at_])),(f8A ((f7A s r n).set 29 (.agg [.str a,.sl (qaa b) .non])) (x::rr) true).set 37 (.ptr 3 0),s6A n [.str a,.sl (qaa b) .non] (qa4 c'),d2A)) (by rw [hr];exact qTY s r n a b rr m x hb),.inr ⟨_,rfl,rfl⟩,?_,by kernel_rfl,by kernel_rfl⟩
     exact .cons (qyk gl _ _ _ _ _ hwf) (.cons (qUd gl a (qaa b) _ _ _) (.nil _))
   ·obtain⟨at_,c',os,tk,ts,hb,hwf,rfl⟩:=qd6 hx;refine⟨_,.pan (.iface 172 (.agg [.int .i64 at_])),_,_,_,⟨[[.str [],.sl [] .full],[.int .i64 at_],[.int .i64 130],qa4 c',[.int .i64 at_],[.str [],.sl [] .full]],[],[48,3,28,138,172,48]⟩,[.agg [.str [],.sl [] .full],.int .i64 at_,.int .i64 130],qUT s r n hw hb,.inr ⟨_,rfl,rfl⟩,?_,by kernel_rfl,by kernel_rfl⟩
    exact .cons (qyk gl _ _ _ _ _ hwf) (.cons (qQe gl _ _ _) (.nil _))
  ·cases hx
 ·cases hx
theorem qRm (gl:Gl) (hg:GlLex gl):SimP Tryz.prog gl 49 FwA:=by
 refine SimP.or (qSy gl hg) (qSg gl hg) fun args x hx=>?_
 unfold FwA at hx;split at hx
 ·rename_i s;cases he:qpl (qar [.str s]).run with
  |true=>exact .inl (by simp only [FwA1,he,hx])
  |false=>exact .inr (by simp only [FwA2,he,hx])
 ·cases hx
end Go.Pv
set_option maxHeartbeats 4000000
set_option maxRecDepth 200000
set_option linter.unusedVariables false
set_option linter.unusedSimpArgs false
namespace Go.Pv
open Go Go.Proofs
def qOR (s:qU):qR:=gRow (gAt (gCs (gAt (gCs (gVal (outP s))) 0)) 0)
def qPb (s:qU):qR:=gRow (gAt (gCs (gAt (gCs (gVal (outP s))) 0)) 1)
def qQg (s:qU):qR:=gRow (gAt (gCs (gAt (gCs (gVal (outP s))) 0)) 2)
def wP_n (s:qU):Int:=gInt (gAt (gCs (gVal (outP s))) 1)
def wP_e (s:qU):Int:=gInt (gAt (gCs (gVal (outP s))) 2)
def qKp (s:qU):Bool:=isW (outP s) (.tup [.agg [.sl (qOR s) .non,.sl (qPb s) .non,.sl (qQg s) .non],.int .i64 (wP_n s),.int .i64 (wP_e s)])
def F_wP:List PV→Tr PV
 |[.str s,.fn 34 []]=>.ite (qKp s) (.ret (.tup [.agg [.sl (qOR s) .non,.sl (qPb s) .non,.sl (qQg s) .non],.int .i64 (wP_n s),.int .i64 (wP_e s)])) .fail
 |_=>.fail
theorem qOI (gl:Gl) (hg:GlLex gl):SimP Tryz.prog gl 33 fun args=>(F_wP args).run:=by
 refine⟨(qQW gl hg).ent,fun args x hx=>(qQW gl hg).run args x ?_⟩
 unfold F_wP at hx;split at hx
 ·exact qae hx fun h=>by cases h
 ·cases hx
def qPw (s:qU):qU:=gStr (gAt (gCs (gAt (gCs (gVal (outR s))) 0)) 0)
def qO1 (s:qU):qR:=gRow (gAt (gCs (gAt (gCs (gVal (outR s))) 0)) 1)
def qP4 (s:qU):qR:=gRow (gAt (gCs (gAt (gCs (gVal (outR s))) 0)) 2)
def wR_n (s:qU):Int:=gInt (gAt (gCs (gVal (outR s))) 1)
def wR_e (s:qU):Int:=gInt (gAt (gCs (gVal (outR s))) 2)
def qNQ (s:qU):Bool:=isW (outR s) (.tup [.agg [.str (qPw s),.sl (qO1 s) .non,.sl (qP4 s) .non],.int .i64 (wR_n s),.int .i64 (wR_e s)])
def F_wR:List PV→Tr PV
 |[.str s,.fn 46 []]=>.ite (qNQ s) (.ret (.tup [.agg [.str (qPw s),.sl (qO1 s) .non,.sl (qP4 s) .non],.int .i64 (wR_n s),.int .i64 (wR_e s)])) .fail
 |_=>.fail
theorem qOu (gl:Gl) (hg:GlLex gl):SimP Tryz.prog gl 45 fun args=>(F_wR args).run:=by
 refine⟨(qQG gl hg).ent,fun args x hx=>(qQG gl hg).run args x ?_⟩
 unfold F_wR at hx;split at hx
 ·exact qae hx fun h=>by cases h
 ·cases hx
def qOp (s:qU):qU:=gStr (gAt (gCs (gAt (gCs (gVal (outA s))) 0)) 0)
def qPT (s:qU):qR:=gRow (gAt (gCs (gAt (gCs (gVal (outA s))) 0)) 1)
def wA_n (s:qU):Int:=gInt (gAt (gCs (gVal (outA s))) 1)
def wA_e (s:qU):Int:=gInt (gAt (gCs (gVal (outA s))) 2)
def qNH (s:qU):Bool:=isW (outA s) (.tup [.agg [.str (qOp s),.sl (qPT s) .non],.int .i64 (wA_n s),.int .i64 (wA_e s)])
def F_wA:List PV→Tr PV
 |[.str s,.fn 50 []]=>.ite (qNH s) (.ret (.tup [.agg [.str (qOp s),.sl (qPT s) .non],.int .i64 (wA_n s),.int .i64 (wA_e s)])) .fail
 |_=>.fail
theorem qPd (gl:Gl) (hg:GlLex gl):SimP Tryz.prog gl 49 fun args=>(F_wA args).run:=by
 refine⟨(qRm gl hg).ent,fun args x hx=>(qRm gl hg).run args x ?_⟩
 unfold F_wA at hx;split at hx
 ·exact qae hx fun h=>by cases h
 ·cases hx
end Go.Pv
set_option maxHeartbeats 4000000
set_option maxRecDepth 200000
set_option linter.unusedSimpArgs false
set_option linter.unusedVariables false
namespace Go.Pv
open Go Go.Proofs
def qGl:GamT:=ofL [(33,.pure F_wP)]
theorem qOo (gl:Gl) (hg:GlLex gl):qal Tryz.prog gl (gam qGl):=(qag (qOI gl hg) qaf)
def qNf:LpsT:=fun r fr σ=>.fail
section
variable (s:qU)
def qzv:Tr PV:=.ite (qKp s) (.ret (.tup [.agg [.sl (qaa (qOR s)) .non,.sl (qaa (qPb s)) .non,.sl (qaa (qQg s)) .non],.int .i64 (wP_n s),.int .i64 (wP_e s)])) .fail
theorem qUP:(tcall tbT qGl qNf Tryz.f11 [.str s]).flat=qzv s:=by kernel_rfl
def qks:Option PV:=(qzv s).run
def qGF:qR:=(gRow (gAt (gCs (gAt (gCs (gVal (qks s))) 0)) 0))
def qzs:qR:=(gRow (gAt (gCs (gAt (gCs (gVal (qks s))) 0)) 1))
def qB5:qR:=(gRow (gAt (gCs (gAt (gCs (gVal (qks s))) 0)) 2))
def qz1:Int:=qp6 1 (qks s)
def qun:Int:=qp6 2 (qks s)
def qw1:Bool:=isW (qks s) (.tup [.agg [.sl (qGF s) .non,.sl (qzs s) .non,.sl (qB5 s) .non],.int .i64 (qz1 s),.int .i64 (qun s)])
end
def qED:List PV→Tr PV|[.str s]=>.ite (qw1 s) (.ret (.tup [.agg [.sl (qGF s) .non,.sl (qzs s) .non,.sl (qB5 s) .non],.int .i64 (qz1 s),.int .i64 (qun s)])) (.fail)|_=>.fail
theorem qMN (gl:Gl) (hg:GlLex gl):SimP Tryz.prog gl 11 fun args=>(qED args).run:=by
 refine SimP.of_flat (G:=qGl) (L:=qNf) qaj (qOo gl hg ) qai  Tryz.func11 rfl (by rfl) (by kernel_rfl) (qac (by kernel_rfl)) ?_
 intro args x h;unfold qED at h
 split at h
 ·exact (congrArg Tr.run (qUP _)).trans (qae h fun h=>by cases h)
 ·cases h
def qE0:GamT:=ofL [(45,.pure F_wR)]
theorem qNY (gl:Gl) (hg:GlLex gl):qal Tryz.prog gl (gam qE0):=(qag (qOu gl hg) qaf)
def qKx:LpsT:=fun r fr σ=>.fail
section
variable (s:qU)
def qA4:Tr PV:=.ite (qNQ s) (.ret (.tup [.agg [.str (qPw s),.sl (qaa (qO1 s)) .non,.sl (qaa (qP4 s)) .non],.int .i64 (wR_n s),.int .i64 (wR_e s)])) .fail
theorem qSF:(tcall tbT qE0 qKx Tryz.f16 [.str s]).flat=qA4 s:=by kernel_rfl
def qkb:Option PV:=(qA4 s).run
def qrN:qU:=(gStr (gAt (gCs (gAt (gCs (gVal (qkb s))) 0)) 0))
def qwb:qR:=(gRow (gAt (gCs (gAt (gCs (gVal (qkb s))) 0)) 1))
def qlN:qR:=(gRow (gAt (gCs (gAt (gCs (gVal (qkb s))) 0)) 2))
def qzY:Int:=qp6 1 (qkb s)
def qoN:Int:=qp6 2 (qkb s)
def qpL:Bool:=isW (qkb s) (.tup [.agg [.str (qrN s),.sl (qwb s) .non,.sl (qlN s) .non],.int .i64 (qzY s),.int .i64 (qoN s)])
end
def qAq:List PV→Tr PV|[.str s]=>.ite (qpL s) (.ret (.tup [.agg [.str (qrN s),.sl (qwb s) .non,.sl (qlN s) .non],.int .i64 (qzY s),.int .i64 (qoN s)])) (.fail)|_=>.fail
theorem qDR (gl:Gl) (hg:GlLex gl):SimP Tryz.prog gl 16 fun args=>(qAq args).run:=by
 refine SimP.of_flat (G:=qE0) (L:=qKx) qaj (qNY gl hg ) qai  Tryz.func16 rfl (by rfl) (by kernel_rfl) (qac (by kernel_rfl)) ?_
 intro args x h;unfold qAq at h
 split at h
 ·exact (congrArg Tr.run (qSF _)).trans (qae h fun h=>by cases h)
 ·cases h
def qGK:GamT:=ofL [(49,.pure F_wA)]
theorem qMB (gl:Gl) (hg:GlLex gl):qal Tryz.prog gl (gam qGK):=(qag (qPd gl hg) qaf)
def qMx:LpsT:=fun r fr σ=>.fail
section
variable (s:qU)
def qBW:Tr PV:=.ite (qNH s) (.ret (.tup [.agg [.str (qOp s),.sl (qaa (qPT s)) .non],.int .i64 (wA_n s),.int .i64 (wA_e s)])) .fail
theorem qUF:(tcall tbT qGK qMx Tryz.f18 [.str s]).flat=qBW s:=by kernel_rfl
def qm6:Option PV:=(qBW s).run
def qvK:qU:=(gStr (gAt (gCs (gAt (gCs (gVal (qm6 s))) 0)) 0))
def qwX:qR:=(gRow (gAt (gCs (gAt (gCs (gVal (qm6 s))) 0)) 1))
def qzz:Int:=qp6 1 (qm6 s)
def qt6:Int:=qp6 2 (qm6 s)
def qvd:Bool:=isW (qm6 s) (.tup [.agg [.str (qvK s),.sl (qwX s) .non],.int .i64 (qzz s),.int .i64 (qt6 s)])
end
def qFr:List PV→Tr PV|[.str s]=>.ite (qvd s) (.ret (.tup [.agg [.str (qvK s),.sl (qwX s) .non],.int .i64 (qzz s),.int .i64 (qt6 s)])) (.fail)|_=>.fail
theorem qMX (gl:Gl) (hg:GlLex gl):SimP Tryz.prog gl 18 fun args=>(qFr args).run:=by
 refine SimP.of_flat (G:=qGK) (L:=qMx) qaj (qMB gl hg ) qai  Tryz.func18 rfl (by rfl) (by kernel_rfl) (qac (by kernel_rfl)) ?_
 intro args x h;unfold qFr at h
 split at h
 ·exact (congrArg Tr.run (qUF _)).trans (qae h fun h=>by cases h)
 ·cases h
end Go.Pv
set_option linter.unusedSimpArgs false
set_option linter.unusedVariables false
namespace Go.Pv
end Go.Pv
set_option linter.unusedSimpArgs false
set_option linter.unusedVariables false
namespace Go.Pv
end Go.Pv
set_option maxHeartbeats 4000000
set_option linter.unusedSimpArgs false
set_option linter.unusedVariables false
namespace Go.Pv
open Go.RowKit
def swp (i k:Nat):Nat:=if k=i then i+1 else if k=i+1 then i else k
theorem qFQ (i k:Nat):swp i (swp i k)=k:=by
 unfold swp
 repeat' split
 all_goals omega
theorem qQ1 {i k n:Nat} (hi:i+1 < n) (hk:k < n):swp i k < n:=by
 unfold swp
 repeat' split
 all_goals omega
theorem qyM {i k:Nat} (h1:k≠i) (h2:k≠i+1):swp i k=k:=by
 unfold swp;rw [if_neg h1,if_neg h2]
def eA (i k:Nat) (o:Oper):Oper:=if k=i+1 then { o with after:=o.after.push ⟨i,.data⟩ } else o
def opsA (i:Nat) (ops:Array Oper):Array Oper:=ops.mapIdx fun k o=>eA i k o
def eB (i k:Nat) (o:Oper):Oper:={ o with after:=(o.after.map fun e=>{ e with on:=swp i e.on })++(if k=i+1 then #[⟨i,.data⟩] else #[]) }
def opsB (i:Nat) (ops:Array Oper):Array Oper:=ops.mapIdx fun k o=>eB i k ((ops[swp i k]?).getD o)
def qmX (i:Nat) (ops:Array Oper):Bool:=ops.toList.all fun o=>match o.guard with
 |some (g,_)=>!Nat.beq g i&&!Nat.beq g (i+1)
 |none=>true
theorem atA (i:Nat) (ops:Array Oper) (k:Nat):(opsA i ops)[k]?=(ops[k]?).map (eA i k):=by
 unfold opsA;rw [Array.getElem?_mapIdx]
theorem atB {i:Nat} {ops:Array Oper} (hi:i+1 < ops.size) {k:Nat} {o:Oper} (h:ops[k]?=some o):(opsB i ops)[swp i k]?=some (eB i (swp i k) o):=by
 have hk:k < ops.size:=by
  have:=Array.getElem?_eq_some_iff.1 h;exact this.1
 unfold opsB;rw [Array.getElem?_mapIdx,Array.getElem?_eq_getElem (qQ1 hi hk),qFQ,h];rfl
theorem qSx (i k:Nat) (o:Oper):∃ x,eA i k o={ o with after:=x }:=by
 unfold eA;split
 ·exact⟨_,rfl⟩
 ·exact⟨o.after,rfl⟩
theorem qE2 (i:Nat) (ops:Array Oper):(opsA i ops).size=ops.size:=by simp [opsA]
theorem qxv (i:Nat) (ops:Array Oper):(opsB i ops).size=ops.size:=by simp [opsB]
theorem qyn {i:Nat} {ops:Array Oper} (h:qmX i ops=true) {k:Nat} {o:Oper} (ho:ops[k]?=some o) {g:Nat} {b:Bool} (hg:o.guard=some (g,b)):g≠i∧g≠i+1:=by
 unfold qmX at h
 rw [List.all_eq_true] at h
 have h1:=h o (by
  rw [Array.mem_toList_iff];exact Array.mem_of_getElem? ho)
 rw [hg] at h1;simp only [Bool.and_eq_true,Bool.not_eq_true'] at h1;exact⟨Nat.ne_of_beq_eq_false h1.1,Nat.ne_of_beq_eq_false h1.2⟩
theorem qcL {ops:Array Oper} {listed:Array Bool} (hs:listed.size=ops.size) {k:Nat}:k∈Region.ready .any ops listed↔∃ o,ops[k]?=some o∧¬ In listed k∧∀ e∈o.after.toList,Region.binds .any e=true→In listed e.on:=by
 unfold Region.ready;rw [List.mem_filter,List.mem_range];constructor
 ·rintro⟨hk,hk'⟩;have hb:k < listed.size:=by omega
  have e2:ops[k]?=some ops[k]:=Array.getElem?_eq_getElem hk;simp only [e2,Option.map_some,Option.getD_some,Bool.and_eq_true,Bool.not_eq_true'] at hk';obtain⟨hk1,hk2⟩:=hk';refine⟨_,e2,?_,?_⟩
  ·rw [Array.getD_eq_getD_getElem?,Array.getElem?_eq_getElem hb] at hk1;unfold In;rw [Array.getD_eq_getD_getElem?,Array.getElem?_eq_getElem hb];simpa using hk1
  ·intro e he hbd;have:=Array.all_eq_true'.1 hk2 e (Array.mem_toList_iff.1 he);simpa [hbd,In] using this
 ·rintro⟨o,ho,hn,he⟩;have hk:k < ops.size:=(Array.getElem?_eq_some_iff.1 ho).1;have hb:k < listed.size:=by omega
  refine⟨hk,?_⟩;simp only [ho,Option.map_some,Option.getD_some,Bool.and_eq_true,Bool.not_eq_true'];constructor
  ·unfold In at hn;rw [Array.getD_eq_getD_getElem?,Array.getElem?_eq_getElem hb] at hn ⊢;simpa using hn
  ·rw [Array.all_eq_true'];intro e hm;cases hbd:Region.binds .any e with
   |false=>rfl
   |true =>
    have:=he e (Array.mem_toList_iff.2 hm) hbd;simpa [In] using this
section
variable {F : Fence} {n : Nat} {P : Program} {Q : Exit → Act → World → Prop}
theorem qDl {ops ops2:Array Oper} (hsz:ops2.size=ops.size) (π:Nat→Nat) (hπ:∀ k,π (π k)=k) (hlt:∀ k,k < ops.size→π k < ops.size) (j:Nat)
  (hop:∀ (K:Act→World→Prop) k a w,wpOpIn F n P ops2 Q (π k) K a w→wpOpIn F n P ops Q k K a w)
  (hr:∀ listed listed2:Array Bool,listed.size=ops.size→listed2.size=ops2.size→(∀ k,In listed2 (π k)↔In listed k)→In listed j→∀ k,(k∈Region.ready .any ops listed↔π k∈Region.ready .any ops2 listed2)) :
  ∀ (fuel:Nat) (listed listed2:Array Bool) (a:Act) (w:World),listed.size=ops.size→listed2.size=ops2.size→(∀ k,In listed2 (π k)↔In listed k)→In listed j→wpAnyIn F n P .any ops2 Q fuel listed2 a w→wpAnyIn F n P .any ops Q fuel listed a w:=by
 intro fuel
 induction fuel with
 |zero =>
  intro l l2 a w h1 h2 h3 h4 h;refine⟨List.eq_nil_iff_forall_not_mem.2 fun k hk=>?_,h.2⟩
  have:=(hr l l2 h1 h2 h3 h4 k).1 hk;rw [h.1] at this;cases this
 |succ fuel ih =>
  intro l l2 a w h1 h2 h3 h4 h;refine⟨fun hn=>h.1 (List.eq_nil_iff_forall_not_mem.2 fun k hk=>?_),fun k hk=>?_⟩
  ·have:=(hr l l2 h1 h2 h3 h4 (π k)).2 (by rw [hπ];exact hk)
   rw [hn] at this;cases this
  ·have hk2:=(hr l l2 h1 h2 h3 h4 k).1 hk;obtain⟨o,ho,_⟩:=(qcL h1).1 hk;have hkl:k < ops.size:=(Array.getElem?_eq_some_iff.1 ho).1;refine hop _ k a w (wpOpIn_mono (fun a' w' h'=>ih _ _ a' w' (by simp [h1]) (by simp [h2]) (fun m=>?_) ?_ h') (h.2 _ hk2))
   ·rw [qbG (by have:=hlt k hkl;omega),qbG (by omega),h3]
    constructor
    ·rintro (h|h)
     ·exact .inl (by rw [← hπ m,h,hπ])
     ·exact .inr h
    ·rintro (rfl|h)
     ·exact .inl rfl
     ·exact .inr h
   ·exact (qbG (by omega)).2 (.inr h4)
theorem qOt (i:Nat) (ops:Array Oper) (t:Array Value):yielded (opsA i ops) t=yielded ops t:=by
 funext g
 unfold yielded;rw [atA];cases h:ops[g]? with
 |none=>rfl
 |some o =>
  obtain⟨x,hx⟩:=qSx i g o;simp only [Option.map_some,Option.bind_some,hx]
theorem qPD {i:Nat} {ops:Array Oper} (hi:i+1 < ops.size) (t:Array Value) {g:Nat} (h1:g≠i) (h2:g≠i+1):yielded (opsB i ops) t g=yielded ops t g:=by
 unfold yielded;cases h:ops[g]? with
 |none =>
  have:(opsB i ops)[g]?=none:=by
   rw [Array.getElem?_eq_none_iff] at h ⊢;rw [qxv];exact h
  rw [this]
 |some o =>
  have:=atB hi h;rw [qyM h1 h2] at this;rw [this];rfl
theorem opA (i:Nat) (ops:Array Oper) (K:Act→World→Prop) (k:Nat) (a:Act) (w:World) (h:wpOpIn F n P (opsA i ops) Q k K a w):wpOpIn F n P ops Q k K a w:=by
 unfold wpOpIn at h ⊢;rw [atA,qOt] at h
 cases ho:ops[k]? with
 |none=>rw [ho] at h;exact h
 |some o =>
  obtain⟨x,hx⟩:=qSx i k o;rw [ho] at h
  simp only [Option.map_some,hx] at h
  exact h
theorem opB {i:Nat} {ops:Array Oper} (hi:i+1 < ops.size) (hg:qmX i ops=true) (K:Act→World→Prop) (k:Nat) (a:Act) (w:World) (h:wpOpIn F n P (opsB i ops) Q (swp i k) K a w):wpOpIn F n P ops Q k K a w:=by
 unfold wpOpIn at h ⊢;cases ho:ops[k]? with
 |none =>
  have hk:ops.size≤k:=by rwa [Array.getElem?_eq_none_iff] at ho
  have:(opsB i ops)[swp i k]?=none:=by
   rw [qyM (by omega) (by omega),Array.getElem?_eq_none_iff,qxv]
   exact hk
  rw [this] at h
  exact h
 |some o =>
  rw [atB hi ho] at h
  have hw:Region.wanted (eB i (swp i k) o) (yielded (opsB i ops) a.tmps)=Region.wanted o (yielded ops a.tmps):=by
   unfold Region.wanted;have e:(eB i (swp i k) o).guard=o.guard:=rfl;rw [e];cases hgd:o.guard with
   |none=>rfl
   |some gb =>
    obtain⟨g,b⟩:=gb;obtain⟨h1,h2⟩:=qyn hg ho hgd;simp only [qPD hi a.tmps h1 h2]
  simp only [hw] at h
  exact h
theorem simA (i:Nat) (ops:Array Oper) (fuel:Nat) (listed:Array Bool) (a:Act) (w:World) (hs:listed.size=ops.size) (hin:In listed i) (h:wpAnyIn F n P .any (opsA i ops) Q fuel listed a w):wpAnyIn F n P .any ops Q fuel listed a w:=by
 refine qDl (qE2 i ops) id (fun _=>rfl) (fun _ h=>h) i (opA i ops) ?_ fuel listed listed a w hs (by rw [qE2,hs]) (fun _=>Iff.rfl) hin h
 intro l l2 h1 h2 h3 h4 k;have h3:∀ k,In l2 k↔In l k:=h3;rw [qcL h1,qcL h2];show _↔∃ o,(opsA i ops)[k]?=some o∧_
 rw [atA];constructor
 ·rintro⟨o,ho,hn,he⟩;refine⟨eA i k o,by rw [ho];rfl,fun h=>hn ((h3 k).1 h),fun e he' hb=>(h3 _).2 ?_⟩
  unfold eA at he';split at he'
  ·simp only [Array.toList_push,List.mem_append,List.mem_singleton] at he';rcases he' with he'|rfl
   ·exact he e he' hb
   ·exact h4
  ·exact he e he' hb
 ·rintro⟨o2,ho2,hn,he⟩;cases ho:ops[k]? with
  |none=>rw [ho] at ho2;cases ho2
  |some o =>
   rw [ho] at ho2;simp only [Option.map_some,Option.some.injEq] at ho2;subst ho2;refine⟨o,rfl,fun h=>hn ((h3 k).2 h),fun e he' hb=>(h3 _).1 (he e ?_ hb)⟩
   unfold eA;split
   ·simp only [Array.toList_push,List.mem_append];exact .inl he'
   ·exact he'
theorem simB {i:Nat} {ops:Array Oper} (hi:i+1 < ops.size) (hg:qmX i ops=true) (fuel:Nat) (listed listed2:Array Bool) (a:Act) (w:World) (hs:listed.size=ops.size) (hs2:listed2.size=ops.size) (hin:In listed (i+1)) (hl:∀ k,In listed2 (swp i k)↔In listed k)
  (h:wpAnyIn F n P .any (opsB i ops) Q fuel listed2 a w):wpAnyIn F n P .any ops Q fuel listed a w:=by
 refine qDl (qxv i ops) (swp i) (qFQ i) (fun _ h=>qQ1 hi h) (i+1) (opB hi hg) ?_ fuel listed listed2 a w hs (by rw [qxv,hs2]) hl hin h
 intro l l2 h1 h2 h3 h4 k;have h5:In l2 i:=by
  have:=(h3 (i+1)).2 h4;simpa [swp] using this
 rw [qcL h1,qcL h2];constructor
 ·rintro⟨o,ho,hn,he⟩;refine⟨_,atB hi ho,fun h=>hn ((h3 k).1 h),fun e he' hb=>?_⟩
  simp only [eB,Array.toList_append,Array.toList_map,List.mem_append,List.mem_map] at he';rcases he' with⟨e0,he0,rfl⟩|he'
  ·exact (h3 _).2 (he e0 he0 hb)
  ·split at he'
   ·simp at he';subst he';exact h5
   ·simp at he'
 ·rintro⟨o2,ho2,hn,he⟩;cases ho:ops[k]? with
  |none =>
   have hk:ops.size≤k:=by rwa [Array.getElem?_eq_none_iff] at ho
   have:(opsB i ops)[swp i k]?=none:=by
    rw [qyM (by omega) (by omega),Array.getElem?_eq_none_iff,qxv]
    exact hk
   rw [this] at ho2;cases ho2
  |some o =>
   rw [atB hi ho] at ho2;cases ho2
   refine⟨o,rfl,fun h=>hn ((h3 k).2 h),fun e he' hb=>(h3 _).1 (he { e with on:=swp i e.on } ?_ hb)⟩
   simp only [eB,Array.toList_append,Array.toList_map,List.mem_append,List.mem_map];exact .inl ⟨e,he',rfl⟩
end
section
variable {P : Program} {tb : Tab} {gl : Gl} {Γ : Gam} {H0 : Gh} {w0 : World} {Q : Exit → Act → World → Prop}
theorem qH5 {b:Bool} {ops:List Oper} (hord:qbR b Γ ops=true) {F:Nat→List PV} {S:Nat→Store} {X:Nat→PV} (ht:Trace tb Γ ops ops F S X)
  (hfree:∀ (k i:Nat) (o:Oper),ops[k]?=some o→reads Γ o=true→qbk b Γ o=false→i≤ops.length→pop tb Γ (F k) (S k) o=some (X k,S (k+1))→pop tb Γ (F k) (S i) o=some (X k,S i))
  {listed:Array Bool} {fr:List PV} {σ:Store} (hI:Inv Γ ops F S listed fr σ) {k:Nat} {o:Oper} (hko:ops[k]?=some o) (hb:k < listed.size) (hn:¬ In listed k) (he:∀ e∈o.after.toList,Region.binds .any e=true→In listed e.on) :
  ∃ x σ',((pwanted ops fr o=some false∧x=.tup []∧σ'=σ)∨(pwanted ops fr o=some true∧pop tb Γ fr σ o=some (x,σ')))∧Inv Γ ops F S (listed.setIfInBounds k true) (pput fr o.dst x) σ':=by
 obtain⟨hsee,hsto⟩:=hI.sees hord hko hn he;have hwan:pwanted ops fr o=pwanted ops (F k) o:=by
  unfold pwanted;cases hg:o.guard with
  |none=>rfl
  |some jb =>
   obtain⟨j,b⟩:=jb;simp only [];cases hd:(ops[j]?).bind (·.dst) with
   |none=>rfl
   |some d =>
    have:fr[d]?=(F k)[d]?:=hsee d (by simp [looks,hg,hd])
    simp only [Option.bind_some,this]
 have hpop:∀ s,pop tb Γ fr s o=pop tb Γ (F k) s o:=by
  intro s;refine qLp fun x hx=>?_
  cases x with
  |tmp t =>
   have:fr[t]?=(F k)[t]?:=hsee t (by
    simp only [looks,List.mem_append,List.mem_filterMap];exact .inl ⟨_,hx,rfl⟩)
   simp only [ev,List.getD_eq_getElem?_getD,this]
  |const v=>rfl
  |global g=>rfl
  |func f=>rfl
 rcases (ht.at_ k o hko).1 with⟨hw,hx,hS⟩|⟨hw,hp⟩
 ·refine⟨.tup [],σ,.inl ⟨hwan.trans hw,rfl,rfl⟩,?_⟩;have:=hI.next hord ht hko hb hn he (σ':=σ) ⟨fun hwr=>?_,fun _=>rfl⟩
  ·rw [hx] at this;exact this
  ·rw [hS];exact hsto (by simp [qbk,hwr])
 ·cases hr:qbk b Γ o with
  |true =>
   have hs':=hsto hr;have hp':pop tb Γ fr σ o=some (X k,S (k+1)):=by rw [hpop,hs'];exact hp
   refine⟨X k,S (k+1),.inr ⟨hwan.trans hw,hp'⟩,hI.next hord ht hko hb hn he ⟨fun _=>rfl,fun hwf=>?_⟩⟩
   rw [qfC hwf hp,hs']
  |false =>
   have hwf:writes Γ o=false:=by
    cases hwr:writes Γ o with
    |false=>rfl
    |true=>simp [qbk,hwr] at hr
   have hp':pop tb Γ fr σ o=some (X k,σ):=by
    rw [hpop];cases hr0:reads Γ o with
    |false=>exact qv7 hr0 hp σ
    |true =>
     obtain⟨i,hi,rfl⟩:=hI.someS hord;exact hfree k i _ hko hr0 hr hi hp
   refine⟨X k,σ,.inr ⟨hwan.trans hw,hp'⟩,hI.next hord ht hko hb hn he ⟨fun h=>?_,fun _=>rfl⟩⟩
   rw [hwf] at h
   cases h
theorem qMV (n i:Nat):¬ In (Array.replicate n false) i:=by
 unfold In;rw [Array.getD_eq_getD_getElem?];by_cases hi:i < n
 ·simp [Array.getElem?_replicate,hi]
 ·simp [Array.getElem?_replicate,hi]
theorem inv0 {ops:List Oper} {F:Nat→List PV} {S:Nat→Store} {X:Nat→PV} (ht:Trace tb Γ ops ops F S X) (n:Nat):Inv Γ ops F S (Array.replicate n false) (F 0) (S 0) :=
 ⟨rfl,fun j o hj=>absurd hj (qMV n j),fun t i hi hlo hhi=>by
  rw [ht.still (i:=0) (j:=i) (Nat.zero_le _) hi (fun k o _ hk ho hd=>qMV n k (hlo k o hk ho hd))],fun i hi hlo hhi=>by
  rw [ht.stillS (i:=0) (j:=i) (Nat.zero_le _) hi (fun k o _ hk ho=>by
   cases hw:writes Γ o with
   |false=>rfl
   |true=>exact absurd (hlo k o hk ho hw) (qMV n k))]⟩
structure Told (tb:Tab) (Γ:Gam) (ops:Array Oper) (b:Bool) (F:Nat→List PV) (S:Nat→Store) (X:Nat→PV):Prop where
 ord:qbR b Γ ops.toList=true
 tr:Trace tb Γ ops.toList ops.toList F S X
 free:∀ (k i:Nat) (o:Oper),ops.toList[k]?=some o→reads Γ o=true→qbk b Γ o=false→i≤ops.size→pop tb Γ (F k) (S k) o=some (X k,S (k+1))→pop tb Γ (F k) (S i) o=some (X k,S i)
theorem qLo {ops:Array Oper} {fr fr':List PV} {σ σ':Store} (h:pops tb Γ ops.toList ops.toList fr σ=some (fr',σ')) (hd:ordered Γ ops.toList=true∨(qbR true Γ ops.toList=true∧qeB Γ ops.toList fr' σ.objs.length=true)) :
  ∃ b F S X,Told tb Γ ops b F S X∧F 0=fr∧S 0=σ∧F ops.size=fr'∧S ops.size=σ':=by
 obtain⟨F,S,X,hF,hS,hF',hS',ht⟩:=qoE _ _ _ _ _ h;rcases hd with h1|⟨h1,h2⟩
 ·exact⟨false,F,S,X,⟨h1,ht,fun k i o hk hr hf=>by
   unfold reads at hr;rw [hf] at hr;cases hr⟩,hF,hS,by simpa using hF',by simpa using hS'⟩
 ·refine⟨true,F,S,X,⟨h1,ht,fun k i o hk hr hf hi hp=>qyp ht ?_ k i o hk hr hf (by simpa using hi) hp⟩,hF,hS,by simpa using hF',by simpa using hS'⟩
  rw [hF',hS];exact h2
theorem qMa (hT:qaN P tb) (hΓ:qal P gl Γ) {ops:Array Oper} {i:Nat} (hi:i+1 < ops.size) (hg:qmX i ops=true)
  {bA bB:Bool} {FA FB:Nat→List PV} {SA SB:Nat→Store} {XA XB:Nat→PV} (hA:Told tb Γ (opsA i ops) bA FA SA XA) (hB:Told tb Γ (opsB i ops) bB FB SB XB)
  (hqA:∀ a' w',St gl H0 w0 (FA ops.size) (SA ops.size) a' w'→Q .normal a' w') (hqB:∀ a' w',St gl H0 w0 (FB ops.size) (SB ops.size) a' w'→Q .normal a' w') :
  ∀ (fuel:Nat) (listed:Array Bool) (fr:List PV) (σ:Store) (a:Act) (w:World),listed.size=ops.size→listed.toList.count false≤fuel→¬ In listed i→¬ In listed (i+1)→Inv Γ (opsA i ops).toList FA SA listed fr σ→Inv Γ (opsB i ops).toList FB SB listed fr σ→St gl H0 w0 fr σ a w→∀ (r:Option Nat) (n:Nat),wpAnyIn (rnd r) n P .any ops Q fuel listed a w:=by
 have dA:∀ (fuel:Nat) (listed:Array Bool) (fr:List PV) (σ:Store) (a:Act) (w:World),listed.size=ops.size→listed.toList.count false≤fuel→Inv Γ (opsA i ops).toList FA SA listed fr σ→St gl H0 w0 fr σ a w→∀ (r:Option Nat) (n:Nat),wpAnyIn (rnd r) n P .any (opsA i ops) Q fuel listed a w :=
  fun fuel listed fr σ a w hs=>qvL hT hΓ hA.ord hA.tr hA.free (by rw [qE2];exact hqA) fuel listed fr σ a w (by rw [qE2];exact hs)
 have dB:∀ (fuel:Nat) (listed:Array Bool) (fr:List PV) (σ:Store) (a:Act) (w:World),listed.size=ops.size→listed.toList.count false≤fuel→Inv Γ (opsB i ops).toList FB SB listed fr σ→St gl H0 w0 fr σ a w→∀ (r:Option Nat) (n:Nat),wpAnyIn (rnd r) n P .any (opsB i ops) Q fuel listed a w :=
  fun fuel listed fr σ a w hs=>qvL hT hΓ hB.ord hB.tr hB.free (by rw [qxv];exact hqB) fuel listed fr σ a w (by rw [qxv];exact hs)
 have hl0:∀ listed:Array Bool,¬ In listed i→¬ In listed (i+1)→∀ k,In listed (swp i k)↔In listed k:=by
  intro listed h1 h2 k;by_cases e1:k=i
  ·subst e1;simp [swp,h1,h2]
  ·by_cases e2:k=i+1
   ·subst e2;simp [swp,h1,h2]
   ·rw [qyM e1 e2]
 intro fuel
 induction fuel with
 |zero =>
  intro listed fr σ a w hs hc h1 h2 hIA hIB hst;have hb:i < listed.size:=by omega
  have h0:false∉listed.toList:=List.count_eq_zero.1 (by omega)
  unfold In at h1;rw [Array.getD_eq_getD_getElem?,Array.getElem?_eq_getElem hb] at h1;cases hl:listed[i] with
  |true=>simp [hl] at h1
  |false=>exact absurd (by rw [← hl];simp) h0
 |succ fuel ih =>
  intro listed fr σ a w hs hc h1 h2 hIA hIB hst r n;have wA:=dA (fuel+1) listed fr σ a w hs hc hIA hst r n;have wB:=dB (fuel+1) listed fr σ a w hs hc hIB hst r n;have hsub:∀ k,k∈Region.ready .any (opsA i ops) listed→k∈Region.ready .any ops listed:=by
   intro k hk;rw [qcL (by rw [qE2];exact hs)] at hk
   obtain⟨o2,ho2,hn,he⟩:=hk;rw [atA] at ho2;cases ho:ops[k]? with
   |none=>rw [ho] at ho2;cases ho2
   |some o =>
    rw [ho] at ho2;simp only [Option.map_some,Option.some.injEq] at ho2;subst ho2;refine (qcL hs).2 ⟨o,ho,hn,fun e he' hb=>he e ?_ hb⟩
    unfold eA;split
    ·simp only [Array.toList_push,List.mem_append];exact .inl he'
    ·exact he'
  refine⟨fun hnil=>wA.1 (List.eq_nil_iff_forall_not_mem.2 fun k hk=>?_),fun k hk=>?_⟩
  ·have:=hsub k hk;rw [hnil] at this;cases this
  obtain⟨o,ho,hn,he⟩:=(qcL hs).1 hk;have hkl:k < ops.size:=(Array.getElem?_eq_some_iff.1 ho).1;by_cases e1:k=i
  ·subst e1;have hrA:k∈Region.ready .any (opsA k ops) listed:=by
    rw [qcL (by rw [qE2];exact hs),atA,ho]
    refine⟨_,rfl,hn,fun e he' hb=>he e ?_ hb⟩
    unfold eA at he';rw [if_neg (by omega)] at he'
    exact he'
   exact opA k ops _ k a w (wpOpIn_mono (fun a' w' h'=>simA k ops fuel _ a' w' (by simp [hs]) ((qbG (by omega)).2 (.inl rfl)) h') (wA.2 k hrA))
  by_cases e2:k=i+1
  ·subst e2;have hat:=atB hi ho;have hsw:swp i (i+1)=i:=by simp [swp]
   rw [hsw] at hat;have hrB:i∈Region.ready .any (opsB i ops) listed:=by
    rw [qcL (by rw [qxv];exact hs)]
    refine⟨_,hat,h1,fun e he' hb=>?_⟩
    simp only [eB,Array.toList_append,Array.toList_map,List.mem_append,List.mem_map] at he';rcases he' with⟨e0,he0,rfl⟩|he'
    ·exact (hl0 listed h1 h2 _).2 (he e0 he0 hb)
    ·rw [if_neg (by omega)] at he'
     simp at he'
   refine opB hi hg _ (i+1) a w ?_;rw [hsw];refine wpOpIn_mono (fun a' w' h'=>simB hi hg fuel _ _ a' w' (by simp [hs]) (by simp [hs]) ((qbG (by omega)).2 (.inl rfl)) (fun m=>?_) h') (wB.2 i hrB)
   rw [qbG (by omega),qbG (by omega),hl0 listed h1 h2]
   constructor
   ·rintro (h|h)
    ·exact .inl (by rw [← qFQ i m,h];simp [swp])
    ·exact .inr h
   ·rintro (rfl|h)
    ·exact .inl hsw
    ·exact .inr h
  -- another one
  have hoA:(opsA i ops).toList[k]?=some o:=by
   rw [Array.getElem?_toList,atA,ho];simp only [Option.map_some,eA,if_neg e2]
  have hoB:(opsB i ops).toList[k]?=some (eB i k o):=by
   rw [Array.getElem?_toList];have:=atB hi ho
   rwa [qyM e1 e2] at this
  obtain⟨xA,σA,hcA,hIA'⟩:=qH5 hA.ord hA.tr (by simpa using hA.free) hIA hoA (by omega) hn he
  obtain⟨xB,σB,hcB,hIB'⟩:=qH5 hB.ord hB.tr (by simpa using hB.free) hIB hoB (by omega) hn (fun e he' hb=>by
   simp only [eB,Array.toList_append,Array.toList_map,List.mem_append,List.mem_map] at he';rcases he' with⟨e0,he0,rfl⟩|he'
   ·exact (hl0 listed h1 h2 _).2 (he e0 he0 hb)
   ·rw [if_neg e2] at he';simp at he')
  have hwA:pwanted (opsA i ops).toList fr o=pwanted ops.toList fr o:=by
   unfold pwanted;cases hgd:o.guard with
   |none=>rfl
   |some gb =>
    obtain⟨g,b⟩:=gb;simp only [];have:((opsA i ops).toList[g]?).bind (·.dst)=(ops.toList[g]?).bind (·.dst):=by
     rw [Array.getElem?_toList,Array.getElem?_toList,atA];cases ops[g]? with
     |none=>rfl
     |some y =>
      obtain⟨z,hz⟩:=qSx i g y;simp only [Option.map_some,Option.bind_some,hz]
    rw [this]
  have hwB:pwanted (opsB i ops).toList fr (eB i k o)=pwanted ops.toList fr o:=by
   unfold pwanted;have e:(eB i k o).guard=o.guard:=rfl;rw [e];cases hgd:o.guard with
   |none=>rfl
   |some gb =>
    obtain⟨g,b⟩:=gb;obtain⟨g1,g2⟩:=qyn hg ho hgd;simp only [];have:((opsB i ops).toList[g]?).bind (·.dst)=(ops.toList[g]?).bind (·.dst):=by
     rw [Array.getElem?_toList,Array.getElem?_toList];cases hx:ops[g]? with
     |none =>
      have:(opsB i ops)[g]?=none:=by
       rw [Array.getElem?_eq_none_iff] at hx ⊢;rw [qxv];exact hx
      rw [this]
     |some y =>
      have:=atB hi hx;rw [qyM g1 g2] at this;rw [this];rfl
    rw [this]
  have hpB:pop tb Γ fr σ (eB i k o)=pop tb Γ fr σ o:=rfl;have hdB:(eB i k o).dst=o.dst:=rfl;rw [hwA] at hcA;rw [hwB,hpB] at hcB;rw [hdB] at hIB';have hcount:(listed.setIfInBounds k true).toList.count false≤fuel:=by
   have hlk:listed[k]?=some false:=by
    have hb:k < listed.size:=by omega
    unfold In at hn;rw [Array.getD_eq_getD_getElem?,Array.getElem?_eq_getElem hb] at hn;rw [Array.getElem?_eq_getElem hb];simpa using hn
   have:=qv3 listed.toList k (by rw [Array.getElem?_toList];exact hlk)
   simp only [Array.toList_setIfInBounds];omega
  have hsize:(listed.setIfInBounds k true).size=ops.size:=by simp [hs]
  have n1:¬ In (listed.setIfInBounds k true) i:=by
   rw [qbG (by omega)]
   rintro (h|h)
   ·exact e1 h.symm
   ·exact h1 h
  have n2:¬ In (listed.setIfInBounds k true) (i+1):=by
   rw [qbG (by omega)]
   rintro (h|h)
   ·exact e2 h.symm
   ·exact h2 h
  unfold wpOpIn;simp only [ho];rcases hcA with⟨hw,rfl,rfl⟩|⟨hw,hp⟩
  ·rcases hcB with⟨_,rfl,rfl⟩|⟨hw',_⟩
   ·have hwn:=qbZ hst hw;simp only [hwn];exact⟨fun _ _=>trivial,ih _ _ _ _ _ hsize hcount n1 n2 hIA' hIB' (qv9 hst _) r n⟩
   ·rw [hw] at hw';cases hw'
  ·rcases hcB with⟨hw',_⟩|⟨_,hp'⟩
   ·rw [hw] at hw';cases hw'
   ·rw [hp] at hp';simp only [Option.some.injEq,Prod.mk.injEq] at hp';obtain⟨rfl,rfl⟩:=hp';have hwn:=qbZ hst hw;simp only [hwn,if_true];exact qnN hT hΓ hst hp (fun a' w' hst'=>ih _ _ _ _ _ hsize hcount n1 n2 hIA' hIB' hst' r n) r n
theorem qCK (hT:qaN P tb) (hΓ:qal P gl Γ) (hm:P.follows .mixedOrders=true) {id i:Nat} {ops:Array Oper} (hi:i+1 < ops.size) (hg:qmX i ops=true) {fr frA frB:List PV} {σ σA σB:Store} {a:Act} {w:World} (hst:St gl H0 w0 fr σ a w)
  (hA:pops tb Γ (opsA i ops).toList (opsA i ops).toList fr σ=some (frA,σA)) (hdA:ordered Γ (opsA i ops).toList=true∨(qbR true Γ (opsA i ops).toList=true∧qeB Γ (opsA i ops).toList frA σ.objs.length=true))
  (hB:pops tb Γ (opsB i ops).toList (opsB i ops).toList fr σ=some (frB,σB)) (hdB:ordered Γ (opsB i ops).toList=true∨(qbR true Γ (opsB i ops).toList=true∧qeB Γ (opsB i ops).toList frB σ.objs.length=true))
  (hqA:∀ a' w',St gl H0 w0 frA σA a' w'→Q .normal a' w') (hqB:∀ a' w',St gl H0 w0 frB σB a' w'→Q .normal a' w') (r:Option Nat) (n:Nat):(Code.region id ops true).wpIn (rnd r) n P Q a w:=by
 refine wpIn_region_any hm ?_;obtain⟨bA,FA,SA,XA,tA,hFA,hSA,hFA',hSA'⟩:=qLo hA hdA;obtain⟨bB,FB,SB,XB,tB,hFB,hSB,hFB',hSB'⟩:=qLo hB hdB;rw [qE2] at hFA' hSA';rw [qxv] at hFB' hSB';have iA:=inv0 tA.tr ops.size;have iB:=inv0 tB.tr ops.size;rw [hFA,hSA] at iA;rw [hFB,hSB] at iB;exact qMa hT hΓ hi hg tA tB (by rw [hFA',hSA'];exact hqA) (by rw [hFB',hSB'];exact hqB) ops.size _ fr σ _ _ (by simp) (Nat.le_trans List.count_le_length (by simp)) (qMV _ _) (qMV _ _) iA iB (qEY hst) r n
end
def hasR (id:Nat):Code→Bool
 |.region id' _ draw=>Nat.beq id' id&&draw
 |.seq x y=>hasR id x || hasR id y
 |.block _ x=>hasR id x
 |_=>false
def qcl (id i:Nat) (b:Bool):Code→Code
 |.region id' ops draw=>match Nat.beq id' id&&draw with
  |true=>.region id' (match b with|true=>opsB i ops|false=>opsA i ops) draw
  |false=>.region id' ops draw
 |.seq x y=>match hasR id x with
  |true=>.seq (qcl id i b x) y
  |false=>.seq x (qcl id i b y)
 |.block k x=>.block k (qcl id i b x)
 |c=>c
def qxZ:List Oper→Bool
 |[]=>true
 |o::l=>(match o.op with
  |.panic _=>false
  |.call c=>match c.callee with
   |.value _=>false
   |_=>true
  |_=>true)&&qxZ l
theorem qy2 {Γ:Gam}:∀ {l:List Oper},qxZ l=true→anyP Γ l=false
 |[],_=>rfl
 |o::l,h=>by
  simp only [qxZ,Bool.and_eq_true] at h
  have h2:=qy2 (Γ:=Γ) h.2;have h1:mayP Γ o=false:=by
   have h0:=h.1;unfold mayP;cases ho:o.op with
   |panic x=>simp only [ho] at h0;cases h0
   |call c =>
    simp only [ho] at h0 ⊢;cases hc:c.callee with
    |value f=>simp only [hc] at h0;cases h0
    |_=>rfl
   |_=>rfl
  simp only [anyP,h1,h2]
def qqf (id i:Nat):Code→Bool
 |.region id' ops draw=>!(Nat.beq id' id&&draw) || (Nat.blt (i+1) ops.size&&qmX i ops&&qxZ (opsA i ops).toList&&qxZ (opsB i ops).toList)
 |.seq x y=>qqf id i x&&qqf id i y
 |.block _ x=>qqf id i x
 |_=>true
section
variable {P : Program} {tb : Tab} {gl : Gl} {Γ : Gam}
def DoesO (P:Program) (gl:Gl) (c:Code) (fr:List PV) (σ:Store) (O:PExit→List PV→Store→Prop):Prop :=
 ∀ (r:Option Nat) (n:Nat) (H0:Gh) (w0:World),RIn r H0→∀ (Q:Exit→Act→World→Prop) (a:Act) (w:World),St gl H0 w0 fr σ a w→(∀ e fr' σ',O e fr' σ'→∀ a' w',St gl H0 w0 fr' σ' a' w'→Q e.as a' w')→c.wpIn (rnd r) n P Q a w
theorem Does.all {c:Code} {fr:List PV} {σ:Store} {e:PExit} {fr':List PV} {σ':Store} {O:PExit→List PV→Store→Prop} (h:Does P gl c fr σ e fr' σ') (ho:O e fr' σ'):DoesO P gl c fr σ O :=
 fun r n H0 w0 hR Q a w hst hq=>h r n H0 w0 hR Q a w hst (hq _ _ _ ho)
theorem qQJ {ops:Array Oper} {fr fr1:List PV} {σ σ1:Store} {id:Nat} {e:PExit} {fr':List PV} {σ':Store} (hd:qaH Γ (.region id ops true)=true) (hqt:qxZ ops.toList=true) {L:Lps} (h:pexec tb Γ L (.region id ops true) fr σ=some (e,fr',σ')) :
  e=.normal∧pops tb Γ ops.toList ops.toList fr σ=some (fr',σ')∧(ordered Γ ops.toList=true∨(qbR true Γ ops.toList=true∧qeB Γ ops.toList fr' σ.objs.length=true)):=by
 have hnp:qxs Γ ops.toList true=false:=qy2 hqt;simp only [pexec,hnp] at h
 split at h
 ·rename_i fr1 σ1 hp;split at h
  ·cases h
  rename_i hna;simp only [Option.some.injEq,Prod.mk.injEq] at h
  obtain⟨rfl,rfl,rfl⟩:=h;refine⟨rfl,hp,?_⟩;simp only [qaH,hnp,Bool.not_true,Bool.false_or,Bool.or_eq_true,Bool.and_eq_true] at hd;rcases hd with hd|⟨hd1,hd2⟩
  ·exact .inl hd
  ·cases ho:ordered Γ ops.toList with
   |true=>exact .inl rfl
   |false =>
    refine .inr ⟨hd2,?_⟩;cases hal:qeB Γ ops.toList fr1 σ.objs.length with
    |true=>rfl
    |false=>simp [qNj,hd1,ho,hal] at hna
 ·cases h
theorem qmd (hT:qaN P tb) (hΓ:qal P gl Γ) (hm:P.follows .mixedOrders=true) {L:Lps} {id i:Nat} {O:PExit→List PV→Store→Prop}:∀ (c:Code) (fr:List PV) (σ:Store) (eA:PExit) (frA:List PV) (σA:Store) (eB:PExit) (frB:List PV) (σB:Store),
  qqf id i c=true→qbe P gl L c→qaH Γ (qcl id i false c)=true→qaH Γ (qcl id i true c)=true→pexec tb Γ L (qcl id i false c) fr σ=some (eA,frA,σA)→pexec tb Γ L (qcl id i true c) fr σ=some (eB,frB,σB)→O eA frA σA→O eB frB σB→DoesO P gl c fr σ O
 |.region id' ops draw,fr,σ,eA,frA,σA,eB,frB,σB,hp,hL,hdA,hdB,hA,hB,oA,oB=>by
  cases hid:Nat.beq id' id&&draw with
  |false =>
   simp only [qcl,hid] at hdA hA;exact (qaJ hT hΓ hm _ fr σ eA frA σA hL hdA hA).all oA
  |true =>
   have hdr:draw=true:=by
    cases draw with
    |true=>rfl
    |false=>simp at hid
   subst hdr;simp only [qcl,hid] at hdA hdB hA hB;simp only [qqf,hid,Bool.not_true,Bool.false_or,Bool.and_eq_true] at hp;obtain⟨rfl,a1,a2⟩:=qQJ (fr1:=fr) (σ1:=σ) hdA hp.1.2 hA;obtain⟨rfl,b1,b2⟩:=qQJ (fr1:=fr) (σ1:=σ) hdB hp.2 hB;intro r n H0 w0 hR Q a w hst hq;exact qCK hT hΓ hm (by simpa [Nat.blt_eq] using hp.1.1.1) hp.1.1.2 hst a1 a2 b1 b2 (hq _ _ _ oA) (hq _ _ _ oB) r n
 |.seq x y,fr,σ,eA,frA,σA,eB,frB,σB,hp,hL,hdA,hdB,hA,hB,oA,oB=>by
  simp only [qqf,Bool.and_eq_true] at hp;cases hx:hasR id x with
  |true =>
   simp only [qcl,hx,qaH,Bool.and_eq_true] at hdA hdB;simp only [qcl,hx,pexec] at hA hB;intro r n H0 w0 hR Q a w hst hq;refine wpIn_seq ?_
   -- behind the first part: the second,or out
   have key:∀ (b:Bool) (eX:PExit) (frX:List PV) (σX:Store),(match pexec tb Γ L (qcl id i b x) fr σ with|some (.normal,fr',σ')=>pexec tb Γ L y fr' σ'|r=>r)=some (eX,frX,σX)→O eX frX σX →
     ∃ e1 fr1 σ1,pexec tb Γ L (qcl id i b x) fr σ=some (e1,fr1,σ1)∧∀ a1 w1,St gl H0 w0 fr1 σ1 a1 w1→(match e1.as with|.normal=>y.wpIn (rnd r) n P Q a1 w1|e=>Q e a1 w1):=by
    intro b eX frX σX h ho;split at h
    ·rename_i fr1 σ1 hx1;exact⟨.normal,fr1,σ1,hx1,fun a1 w1 hst1=>qaJ hT hΓ hm y fr1 σ1 eX frX σX hL.2 hdA.2 h r n H0 w0 hR _ _ _ hst1 (hq _ _ _ ho)⟩
    ·rename_i hne;refine⟨eX,frX,σX,h,fun a1 w1 hst1=>?_⟩
     cases eX with
     |normal=>exact absurd h (hne _ _)
     |exit id=>exact hq _ _ _ ho _ _ hst1
     |ret=>exact hq _ _ _ ho _ _ hst1
     |pan x=>exact hq _ _ _ ho _ _ hst1
   obtain⟨e1,f1,s1,p1,k1⟩:=key false _ _ _ hA oA;obtain⟨e2,f2,s2,p2,k2⟩:=key true _ _ _ hB oB;refine qmd hT hΓ hm (O:=fun e f s=>(e,f,s)=(e1,f1,s1)∨(e,f,s)=(e2,f2,s2)) x fr σ _ _ _ _ _ _ hp.1 hL.1 hdA.1 hdB.1 p1 p2 (.inl rfl) (.inr rfl) r n H0 w0 hR _ a w hst ?_
   rintro e f s (h|h) a1 w1 hst1
   ·cases h
    have:=k1 a1 w1 hst1;cases e1<;>exact this
   ·cases h
    have:=k2 a1 w1 hst1;cases e2<;>exact this
  |false =>
   simp only [qcl,hx,qaH,Bool.and_eq_true] at hdA hdB;simp only [qcl,hx,pexec] at hA hB;intro r n H0 w0 hR Q a w hst hq;refine wpIn_seq ?_;cases hx1:pexec tb Γ L x fr σ with
   |none=>rw [hx1] at hA;cases hA
   |some t =>
    obtain⟨e1,f1,s1⟩:=t;refine qaJ hT hΓ hm x fr σ e1 f1 s1 hL.1 hdA.1 hx1 r n H0 w0 hR _ a w hst fun a1 w1 hst1=>?_
    rw [hx1] at hA hB;cases e1 with
    |normal=>exact qmd hT hΓ hm (O:=O) y f1 s1 _ _ _ _ _ _ hp.2 hL.2 hdA.2 hdB.2 hA hB oA oB r n H0 w0 hR Q a1 w1 hst1 hq
    |exit id =>
     simp only [Option.some.injEq,Prod.mk.injEq] at hA;obtain⟨rfl,rfl,rfl⟩:=hA;exact hq _ _ _ oA _ _ hst1
    |ret =>
     simp only [Option.some.injEq,Prod.mk.injEq] at hA;obtain⟨rfl,rfl,rfl⟩:=hA;exact hq _ _ _ oA _ _ hst1
    |pan x =>
     simp only [Option.some.injEq,Prod.mk.injEq] at hA;obtain⟨rfl,rfl,rfl⟩:=hA;exact hq _ _ _ oA _ _ hst1
 |.skip,fr,σ,eA,frA,σA,eB,frB,σB,hp,hL,hdA,hdB,hA,hB,oA,oB=>(qaJ hT hΓ hm _ fr σ eA frA σA hL hdA hA).all oA
 |.label _,fr,σ,eA,frA,σA,eB,frB,σB,hp,hL,hdA,hdB,hA,hB,oA,oB=>(qaJ hT hΓ hm _ fr σ eA frA σA hL hdA hA).all oA
 |.cond _ _ _,fr,σ,eA,frA,σA,eB,frB,σB,hp,hL,hdA,hdB,hA,hB,oA,oB=>(qaJ hT hΓ hm _ fr σ eA frA σA hL hdA hA).all oA
 |.block k x,fr,σ,eA,frA,σA,eB,frB,σB,hp,hL,hdA,hdB,hA,hB,oA,oB=>by
  simp only [qcl,pexec] at hA hB;have key:∀ (b:Bool) (eX:PExit) (frX:List PV) (σX:Store),(match pexec tb Γ L (qcl id i b x) fr σ with|some (.exit j,fr',σ')=>if j=k then some (.normal,fr',σ') else some (.exit j,fr',σ')|r=>r)=some (eX,frX,σX)→O eX frX σX →
    ∃ e1,pexec tb Γ L (qcl id i b x) fr σ=some (e1,frX,σX)∧∀ (Q:Exit→Act→World→Prop) a w,Q eX.as a w→Exit.inBlock k Q e1.as a w:=by
   intro b eX frX σX h ho;split at h
   ·rename_i j fr1 σ1 hx;split at h
    ·rename_i hj;subst hj;simp only [Option.some.injEq,Prod.mk.injEq] at h
     obtain⟨rfl,rfl,rfl⟩:=h;exact⟨_,hx,fun Q a w hq=>by simp only [PExit.as,Exit.inBlock,if_true];exact hq⟩
    ·rename_i hj;simp only [Option.some.injEq,Prod.mk.injEq] at h
     obtain⟨rfl,rfl,rfl⟩:=h;exact⟨_,hx,fun Q a w hq=>by simp only [PExit.as,Exit.inBlock,if_neg hj];exact hq⟩
   ·rename_i hne;refine⟨eX,h,fun Q a w hq=>?_⟩
    cases eX with
    |normal=>exact hq
    |exit j=>exact absurd h (hne _ _ _)
    |ret=>exact hq
    |pan x=>exact hq
  obtain⟨e1,p1,k1⟩:=key false _ _ _ hA oA;obtain⟨e2,p2,k2⟩:=key true _ _ _ hB oB;intro r n H0 w0 hR Q a w hst hq;refine wpIn_block ?_;refine qmd hT hΓ hm (O:=fun e f s=>(e,f,s)=(e1,frA,σA)∨(e,f,s)=(e2,frB,σB)) x fr σ _ _ _ _ _ _ hp hL hdA hdB p1 p2 (.inl rfl) (.inr rfl) r n H0 w0 hR _ a w hst ?_
  rintro e f s (h|h) a1 w1 hst1
  ·cases h
   exact k1 Q a1 w1 (hq _ _ _ oA _ _ hst1)
  ·cases h
   exact k2 Q a1 w1 (hq _ _ _ oB _ _ hst1)
 |.loop _,fr,σ,eA,frA,σA,eB,frB,σB,hp,hL,hdA,hdB,hA,hB,oA,oB=>(qaJ hT hΓ hm _ fr σ eA frA σA hL hdA hA).all oA
 |.scope _,fr,σ,eA,frA,σA,eB,frB,σB,hp,hL,hdA,hdB,hA,hB,oA,oB=>(qaJ hT hΓ hm _ fr σ eA frA σA hL hdA hA).all oA
 |.exit _,fr,σ,eA,frA,σA,eB,frB,σB,hp,hL,hdA,hdB,hA,hB,oA,oB=>(qaJ hT hΓ hm _ fr σ eA frA σA hL hdA hA).all oA
 |.rangeFunc _ _ _ _,fr,σ,eA,frA,σA,eB,frB,σB,hp,hL,hdA,hdB,hA,hB,oA,oB=>(qaJ hT hΓ hm _ fr σ eA frA σA hL hdA hA).all oA
 |.goto _,fr,σ,eA,frA,σA,eB,frB,σB,hp,hL,hdA,hdB,hA,hB,oA,oB=>(qaJ hT hΓ hm _ fr σ eA frA σA hL hdA hA).all oA
 |.refuse _,fr,σ,eA,frA,σA,eB,frB,σB,hp,hL,hdA,hdB,hA,hB,oA,oB=>(qaJ hT hΓ hm _ fr σ eA frA σA hL hdA hA).all oA
 |.ret,fr,σ,eA,frA,σA,eB,frB,σB,hp,hL,hdA,hdB,hA,hB,oA,oB=>(qaJ hT hΓ hm _ fr σ eA frA σA hL hdA hA).all oA
theorem DoesO.based {c:Code} {fr:List PV} {σ:Store} {O:PExit→List PV→Store→Prop} {e':PExit} {fr':List PV} {σ':Store} (h:DoesO P gl c fr σ O)
  (key:∀ (H:Gh) (w:World),Ok gl H σ w→∀ e fr1 σ1,O e fr1 σ1→e=e'∧∀ a' w',St gl H w fr1 σ1 a' w'→St gl H w fr' σ' a' w'):Does P gl c fr σ e' fr' σ':=by
 intro r n H0 w0 hR Q a w hst hq;obtain⟨H,hev,hok,hfr,hd⟩:=hst;refine h r n H w (hR.ev hev) Q a w ⟨H,Ev.refl H w,hok,hfr,hd⟩ fun e fr1 σ1 ho a' w' hst'=>?_
 obtain⟨rfl,k⟩:=key H w hok e fr1 σ1 ho;obtain⟨H',hev',hok',hfr',hd'⟩:=k a' w' hst';exact hq a' w' ⟨H',hev.trans hev',hok',hfr',hd'⟩
section
variable {H : Gh} {w w' : World} {σ σ2 : Store} {fr1 : List PV} {ss : List Nat} {a' : Act}
theorem qIj (hok:Ok gl H σ w) (h:St gl H w fr1 σ2 a' w'):∃ fr3,fr3.length=fr1.length∧(qCQ σ (rsl ss fr1) σ2).1=rsl ss fr3∧St gl H w fr3 (qCQ σ (rsl ss fr1) σ2).2 a' w':=by
 unfold qCQ;split
 ·exact⟨fr1,rfl,rfl,h⟩
 ·refine⟨_,qmq _ _,qxS _ _ _,qMR (by rw [hok.len];exact Nat.le_max_left _ _) (fun t T e hk=>?_) h⟩
  obtain⟨_,_,o,_,ho⟩:=hok.tok t T e (fun hh=>hh.2 hk)
  rcases ho with⟨h1,_⟩|⟨_,_,r,_,_,_,h6,_⟩
  ·exact absurd hk h1
  ·rw [hok.len] at h6;omega
theorem qIy (hok:Ok gl H σ w) (tr:Bool) (h:St gl H w fr1 σ2 a' w'):St gl H w (mk fr1.length (ss.zip (qgU tr σ (rsl ss fr1) σ2).1)) (qgU tr σ (rsl ss fr1) σ2).2 a' w':=by
 have key:∃ fr3,fr3.length=fr1.length∧(qgU tr σ (rsl ss fr1) σ2).1=rsl ss fr3∧St gl H w fr3 (qgU tr σ (rsl ss fr1) σ2).2 a' w':=by
  cases tr with
  |false=>exact⟨fr1,rfl,rfl,h⟩
  |true =>
   simp only [qgU];unfold qN5;split
   ·exact qIj hok h
   ·rw [qyT];obtain⟨fr3,h1,h2,h3⟩:=qIj (ss:=ss) hok (qNW (m:=max σ.toks.length (max (qsk (rsl ss fr1)) (qsc (σ2.objs.take σ.objs.length)))) (by
     have:=congrArg List.length hok.tkl;simp at this;omega) h)
    exact⟨fr3,by rw [h1,ql1],h2,h3⟩
 obtain⟨fr3,h1,h2,h3⟩:=key;rw [h2,← h1];exact qBp (qiP fr3 ss) h3
end
section
variable {G : GamT}
theorem qHk (hT:qaN P tb) (hΓ:qal P gl (gam G)) (hm:P.follows .mixedOrders=true) {L:LpsT} {c:Code} (hL:qbe P gl (lps L) c) {id i:Nat} (hp:qqf id i c=true) (hdA:qaH (gam G) (qcl id i false c)=true) (hdB:qaH (gam G) (qcl id i true c)=true)
  {nt:Nat} {fr:List PV} {σ:Store} {e:PExit} {kA kB:List Nat} {frA frB:List PV} {σA σB:Store} (hA:Tr.run (texec tb G L (qcl id i false c) [] fr σ)=some (e,kA,frA,σA)) (hB:Tr.run (texec tb G L (qcl id i true c) [] fr σ)=some (e,kB,frB,σB))
  {tr:Bool} {ss:List Nat} {vs1:List PV} {σ1:Store} (hlA:frA.length=nt) (hlB:frB.length=nt) (tA:qgU tr σ (rsl ss frA) σA=(vs1,σ1)) (tB:qgU tr σ (rsl ss frB) σB=(vs1,σ1)):Does P gl c fr σ e (mk nt (ss.zip vs1)) σ1:=by
 refine DoesO.based (O:=fun e' f s=>(e',f,s)=(e,frA,σA)∨(e',f,s)=(e,frB,σB)) (qmd hT hΓ hm c fr σ _ _ _ _ _ _ hp hL hdA hdB (qg0 _ _ _ _ _ _ _ _ hA) (qg0 _ _ _ _ _ _ _ _ hB) (.inl rfl) (.inr rfl)) fun H w hok e' f s ho=>?_
 rcases ho with ho|ho
 ·cases ho
  refine⟨rfl,fun a' w' hst=>?_⟩
  have:=qIy (ss:=ss) hok tr hst
  rwa [tA,hlA] at this
 ·cases ho
  refine⟨rfl,fun a' w' hst=>?_⟩
  have:=qIy (ss:=ss) hok tr hst
  rwa [tB,hlB] at this
open Classical in
def qyW (tb:Tab) (G:GamT) (L:LpsT) (c:Code) (id i:Nat) (I:LI) (vs:List PV) (σ:Store):Tr LR :=
 Tr.bind (lstep tb G L (qcl id i false c) I vs σ) fun x=>Tr.bind (lstep tb G L (qcl id i true c) I vs σ) fun y=>if x=y then .ret x else .fail
theorem qx8 {L:LpsT} {c:Code} {id i:Nat} {I:LI} {vs:List PV} {σ:Store} {x:LR} (h:(qyW tb G L c id i I vs σ).run=some x):(lstep tb G L (qcl id i false c) I vs σ).run=some x∧(lstep tb G L (qcl id i true c) I vs σ).run=some x:=by
 obtain⟨x1,h1,h2⟩:=Tr.bind_some h;obtain⟨y,h3,h4⟩:=Tr.bind_some h2;split at h4
 ·rename_i he;subst he;simp only [Tr.run_ret,Option.some.injEq] at h4;subst h4;exact⟨h1,h3⟩
 ·cases h4
theorem qNb {L:LpsT} {c:Code} {id i:Nat} {I:LI} {vs:List PV} {σ:Store} {t:Tr LR} (hA:lstep tb G L (qcl id i false c) I vs σ=t) (hB:lstep tb G L (qcl id i true c) I vs σ=t):(qyW tb G L c id i I vs σ).run=t.run:=by
 unfold qyW;rw [hA,hB];cases ht:t.run with
 |none=>rw [Tr.run_bind,ht];rfl
 |some x=>simp [Tr.run_bind,ht]
theorem qp8 {L:LpsT} {c:Code} {I:LI} {vs:List PV} {σ:Store} {x:LR} (h:(lstep tb G L c I vs σ).run=some x):∃ e kn fr1 σ2,Tr.run (texec tb G L c [] (mk I.nt (I.ss.zip vs)) σ)=some (e,kn,fr1,σ2)∧fr1.length=I.nt∧x=match e with
  |.normal=>.next (qgU I.tr σ (rsl I.ss fr1) σ2).1 (qgU I.tr σ (rsl I.ss fr1) σ2).2
  |e=>.out e (qgU I.tr σ (rsl (I.os e) fr1) σ2).1 (qgU I.tr σ (rsl (I.os e) fr1) σ2).2:=by
 obtain⟨⟨e1,kn,fr1,σ2⟩,h1,h2⟩:=Tr.bind_some (Tr.flat_run h);simp only at h2;split at h2
 ·rename_i hn;refine⟨e1,kn,fr1,σ2,h1,hn,?_⟩;cases e1<;>(simp only [Tr.run_ret,Option.some.injEq] at h2;exact h2.symm)
 ·cases h2
theorem qEX (hT:qaN P tb) (hΓ:qal P gl (gam G)) (hm:P.follows .mixedOrders=true) {L:LpsT} {c:Code} (hL:qbe P gl (lps L) c) {id i:Nat} (hp:qqf id i c=true) (hdA:qaH (gam G) (qcl id i false c)=true) (hdB:qaH (gam G) (qcl id i true c)=true) {I:LI} :
  ∀ (n:Nat) (vs:List PV) (σ:Store) (e:PExit) (vs':List PV) (σ':Store),lrun (qyW tb G L c id i I) n vs σ=some (e,vs',σ')→LDoes P gl c (mk I.nt (I.ss.zip vs)) σ e (mk I.nt ((I.os e).zip vs')) σ':=by
 intro n
 induction n with
 |zero=>intro vs σ e vs' σ' h;cases h
 |succ n ih =>
  intro vs σ e vs' σ' h;simp only [lrun] at h
  split at h
  ·rename_i vs1 σ1 hs;obtain⟨hA,hB⟩:=qx8 hs;obtain⟨eA,kA,fA,sA,xA,lA,yA⟩:=qp8 hA;obtain⟨eB,kB,fB,sB,xB,lB,yB⟩:=qp8 hB;cases eA<;>simp only [LR.next.injEq,reduceCtorEq] at yA
   cases eB<;>simp only [LR.next.injEq,reduceCtorEq] at yB
   exact LDoes.next (qHk hT hΓ hm hL hp hdA hdB xA xB lA lB (Prod.ext yA.1.symm yA.2.symm) (Prod.ext yB.1.symm yB.2.symm)) (ih _ _ _ _ _ h)
  ·rename_i e1 vs1 σ1 hs;simp only [Option.some.injEq,Prod.mk.injEq] at h
   obtain⟨rfl,rfl,rfl⟩:=h;obtain⟨hA,hB⟩:=qx8 hs;obtain⟨eA,kA,fA,sA,xA,lA,yA⟩:=qp8 hA;obtain⟨eB,kB,fB,sB,xB,lB,yB⟩:=qp8 hB;have fin:eA≠.normal→eB≠.normal→e1=eA∧e1=eB∧qgU I.tr σ (rsl (I.os e1) fA) sA=(vs1,σ1)∧qgU I.tr σ (rsl (I.os e1) fB) sB=(vs1,σ1):=by
    intro nA nB;cases eA<;>(first|exact absurd rfl nA|(simp only [LR.out.injEq] at yA;obtain⟨rfl,y1,y2⟩:=yA))
    all_goals cases eB<;>(first|exact absurd rfl nB|(simp only [LR.out.injEq,reduceCtorEq,false_and] at yB))
    all_goals
     obtain⟨y0,y3,y4⟩:=yB
     first
      |(cases y0;exact⟨rfl,rfl,Prod.ext y1.symm y2.symm,Prod.ext y3.symm y4.symm⟩)
      |exact⟨rfl,rfl,Prod.ext y1.symm y2.symm,Prod.ext y3.symm y4.symm⟩
   have nA:eA≠.normal:=fun h=>by subst h;simp only [reduceCtorEq] at yA
   have nB:eB≠.normal:=fun h=>by subst h;simp only [reduceCtorEq] at yB
   obtain⟨rfl,rfl,tA,tB⟩:=fin nA nB;exact LDoes.out (qHk hT hΓ hm hL hp hdA hdB xA xB lA lB tA tB) nA
  ·cases h
theorem qTd (hT:qaN P tb) (hΓ:qal P gl (gam G)) (hm:P.follows .mixedOrders=true) {L:LpsT} {c:Code} (hL:qbe P gl (lps L) c) (id i:Nat) (hp:qqf id i c=true) (hdA:qaH (gam G) (qcl id i false c)=true) (hdB:qaH (gam G) (qcl id i true c)=true) {I:LI} {prop:List PV→Store→Tr (PExit×List PV×Store)}
  (h:∀ vs σ r,(prop vs σ).run=some r→lval (qyW tb G L c id i I) vs σ=some r):∀ fr σ e fr' σ',(orc I prop fr σ).run=some (e,fr',σ')→LDoes P gl c fr σ e fr' σ':=by
 intro fr σ e fr' σ' hr;unfold orc at hr;split at hr
 ·rename_i hn;obtain⟨⟨e1,vs1,σ1⟩,h1,h2⟩:=Tr.bind_some hr;simp only [Tr.run_ret,Option.some.injEq,Prod.mk.injEq] at h2;obtain⟨rfl,rfl,rfl⟩:=h2;obtain⟨n,hn'⟩:=qo5 (h _ _ _ h1);have hw:=qiP fr I.ss;rw [hn] at hw;exact LDoes.into hw (qEX hT hΓ hm hL hp hdA hdB n _ _ _ _ _ hn')
 ·cases hr
end
end
end Go.Pv
set_option maxHeartbeats 4000000
set_option maxRecDepth 200000
set_option linter.unusedSimpArgs false
set_option linter.unusedVariables false
namespace Go.Pv
open Go Go.Proofs
def qqB:GamT:=ofL []
theorem qxK (gl:Gl):qal Tryz.prog gl (gam qqB):=qaf
def qp7:Code:=qfZ Tryz.f21 4
def qqA:LI:=⟨38,[2,3,5],fun e=>match e with|.ret=>[4]|.exit 0=>[]|_=>[],true⟩
def qq5:LpsT:=fun r fr σ=>.fail
def qcO (vs:List PV) (σ:Store):Option (PExit×List PV×Store):=lval (lstep tbT qqB qq5 qp7 qqA) vs σ
section
variable (i:Int) (s:qU) (r:qR) (s2:qU) (r2:qR)
def ql5:Tr LR:=let z1:List PV:=[.int .i64 0,.str [],.int .i64 0,.int .i64 0,.str []];let z2:=nNat i;let z3:Store:=Store.mk [[.str s,.sl r .non],[.str s2,.sl r2 .non]] [] [48,48];.ite (iLt i (xLen r)) (.ite (qay i) (.ite (qbV z1 r z2) (.ite (qay i) (.ite (qbV z1 r2 z2) (.ite (bNot (bAnd (iEq (xInt r z2 0) (xInt r2 z2 0)) (bAnd (sEq (xStr r z2 1) (xStr r2 z2 1)) (bAnd (bAnd (iEq (xInt r z2 2) (xInt r2 z2 2)) (bAnd (iEq (xInt r z2 3) (xInt r2 z2 3)) (bAnd (sEq (xStr r z2 4) (xStr r2 z2 4)) true))) true)))) (.ret (.out .ret [.bool false] z3)) (.ret (.next [.ptr 0 0,.ptr 1 0,.int .i64 (iAdd .i64 i 1)] z3))) .fail) .fail) .fail) .fail) (.ret (.out (.exit 0) [] z3))
theorem qKi:lstep tbT qqB qq5 qp7 qqA [.ptr 0 0,.ptr 1 0,.int .i64 i] ⟨[[.str s,.sl r .non],[.str s2,.sl r2 .non]],[],[48,48]⟩=ql5 i s r s2 r2:=by kernel_rfl
theorem qDA:qcO [.ptr 0 0,.ptr 1 0,.int .i64 i] ⟨[[.str s,.sl r .non],[.str s2,.sl r2 .non]],[],[48,48]⟩=lnext qcO (ql5 i s r s2 r2).run:=by unfold qcO;rw [qaQ,qKi]
def qqs:Option (PExit×List PV×Store):=qcO [.ptr 0 0,.ptr 1 0,.int .i64 i] ⟨[[.str s,.sl r .non],[.str s2,.sl r2 .non]],[],[48,48]⟩
def qio:Bool:=qHB 0 (qqs i s r s2 r2)
def qnA:Bool:=isW (qqs i s r s2 r2) (.ret,[.bool (qio i s r s2 r2)],⟨[[.str s,.sl r .non],[.str s2,.sl r2 .non]],[],[48,48]⟩)
def qmO:Bool:=isW (qqs i s r s2 r2) ((.exit 0),[],⟨[[.str s,.sl r .non],[.str s2,.sl r2 .non]],[],[48,48]⟩)
end
def qgJ:List PV→Store→Tr (PExit×List PV×Store)|[.ptr 0 0,.ptr 1 0,.int .i64 i],⟨[[.str s,.sl r .non],[.str s2,.sl r2 .non]],[],[48,48]⟩=>.ite (qnA i s r s2 r2) (.ret (.ret,[.bool (qio i s r s2 r2)],⟨[[.str s,.sl r .non],[.str s2,.sl r2 .non]],[],[48,48]⟩)) (.ite (qmO i s r s2 r2) (.ret ((.exit 0),[],⟨[[.str s,.sl r .non],[.str s2,.sl r2 .non]],[],[48,48]⟩)) (.fail))|_,_=>.fail
theorem qJT:∀ vs σ r,(qgJ vs σ).run=some r→qcO vs σ=some r:=by
 intro vs σ r h;unfold qgJ at h
 split at h
 ·exact qae h fun h=>qae h fun h=>by cases h
 ·cases h
theorem qDv (gl:Gl):∀ fr σ e fr' σ',(orc qqA qgJ fr σ).run=some (e,fr',σ')→LDoes Tryz.prog gl qp7 fr σ e fr' σ':=qcB qaj (qxK gl ) qai (L:=qq5) (qac (by kernel_rfl)) (by kernel_rfl) qJT
def qAn:LpsT:=fun r fr σ=>bif Nat.beq r 4 then orc qqA qgJ fr σ else .fail
section
variable (a:qU) (a2:qR) (b:qU) (b2:qR)
def qwI:Tr PV:=.ite (sNe a b) (.ret (.bool false)) (.ite (iNe (xLen a2) (xLen b2)) (.ret (.bool false)) (.ite (qnA 0 a a2 b b2) (.ret (.bool (qio 0 a a2 b b2))) (.ite (qmO 0 a a2 b b2) (.ret (.bool true)) .fail)))
theorem qPE:(tcall tbT qqB qAn Tryz.f21 [.agg [.str a,.sl a2 .non],.agg [.str b,.sl b2 .non]]).flat=qwI a a2 b b2:=by kernel_rfl
def qsL:Option PV:=(qwI a a2 b b2).run
def qlp:Bool:=(qeS (gVal (qsL a a2 b b2)))
def qhk:Bool:=isW (qsL a a2 b b2) (.bool (qlp a a2 b b2))
end
def qsX:List PV→Tr PV|[.agg [.str a,.sl a2 .non],.agg [.str b,.sl b2 .non]]=>.ite (qhk a a2 b b2) (.ret (.bool (qlp a a2 b b2))) (.fail)|_=>.fail
theorem qyP (gl:Gl):SimP Tryz.prog gl 21 fun args=>(qsX args).run:=by
 refine SimP.of_flat (G:=qqB) (L:=qAn) qaj (qxK gl ) qai  Tryz.func21 rfl (by rfl) (by kernel_rfl) (qaD (L:=lps qAn) [(4,qp7)] (by kernel_rfl) (List.forall_mem_cons.2 ⟨fun fr σ e fr' σ' h=>qDv gl  fr σ e fr' σ' h,(List.forall_mem_nil _)⟩)) ?_
 intro args x h;unfold qsX at h
 split at h
 ·exact (congrArg Tr.run (qPE _ _ _ _)).trans (qae h fun h=>by cases h)
 ·cases h
def ql3:GamT:=ofL [(21,.pure qsX)]
theorem qyR (gl:Gl):qal Tryz.prog gl (gam ql3):=(qag (qyP gl) qaf)
def qkq:Code:=qfZ Tryz.f20 4
def qkS:LI:=⟨74,[2,3,5],fun e=>match e with|.ret=>[4]|.exit 0=>[]|_=>[],true⟩
def qml:LpsT:=fun r fr σ=>.fail
def qcM (vs:List PV) (σ:Store):Option (PExit×List PV×Store):=lval (qyW tbT ql3 qml qkq 6 10 qkS) vs σ
section
variable (n:Int) (s:qU) (r r2:qR) (s2:qU) (r3 r4:qR)
def qh8:Tr LR:=let z1:List PV:=[.int .i64 0,.str [],.sl [] .full,.int .i64 0,.int .i64 0,.str [],.int .i64 0,.int .i64 0,.str [],.int .i64 0,.str [],.int .i64 0,.int .i64 0,.str []];let z2:=nNat n;let z3:Store:=Store.mk [[.str s,.sl (qaF 2 r) .non,.sl (qaF 2 r2) .non],[.str s2,.sl (qaF 2 r3) .non,.sl (qaF 2 r4) .non]] [] [51,51];.ite (iLt n (xLen r2)) (.ite (qay n) (.ite (qbV z1 r2 z2) (.ite (qay n) (.ite (qbV z1 r4 z2) (.ite (iNe (xInt r2 z2 0) (xInt r4 z2 0)) (.ret (.out .ret [.bool false] z3)) (.ite (iNe (xInt r2 z2 3) (xInt r4 z2 3)) (.ret (.out .ret [.bool false] z3)) (.ite (bNot (bAnd (iEq (xInt r2 z2 4) (xInt r4 z2 4)) (bAnd (sEq (xStr r2 z2 5) (xStr r4 z2 5)) (bAnd (bAnd (iEq (xInt r2 z2 6) (xInt r4 z2 6)) (bAnd (iEq (xInt r2 z2 7) (xInt r4 z2 7)) (bAnd (sEq (xStr r2 z2 8) (xStr r4 z2 8)) true))) true)))) (.ret (.out .ret [.bool false] z3)) (.ite (bNot (bAnd (iEq (xInt r2 z2 9) (xInt r4 z2 9)) (bAnd (sEq (xStr r2 z2 10) (xStr r4 z2 10)) (bAnd (bAnd (iEq (xInt r2 z2 11) (xInt r4 z2 11)) (bAnd (iEq (xInt r2 z2 12) (xInt r4 z2 12)) (bAnd (sEq (xStr r2 z2 13) (xStr r4 z2 13)) true))) true)))) (.ret (.out .ret [.bool false] z3)) (.ite (qhk (xStr r2 z2 1) (qad (xRow r2 z2 2)) (xStr r4 z2 1) (qad (xRow r4 z2 2))) (.ite (bNot (qlp (xStr r2 z2 1) (qad (xRow r2 z2 2)) (xStr r4 z2 1) (qad (xRow r4 z2 2)))) (.ret (.out .ret [.bool false] z3)) (.ret (.next [.ptr 0 0,.ptr 1 0,.int .i64 (iAdd .i64 n 1)] z3))) .fail))))) .fail) .fail) .fail) .fail) (.ret (.out (.exit 0) [] (Store.mk [[.str s,.sl r .non,.sl r2 .non],[.str s2,.sl r3 .non,.sl r4 .non]] [] [51,51])))
theorem qM9:lstep tbT ql3 qml (qcl 6 10 false qkq) qkS [.ptr 0 0,.ptr 1 0,.int .i64 n] ⟨[[.str s,.sl r .non,.sl r2 .non],[.str s2,.sl r3 .non,.sl r4 .non]],[],[51,51]⟩=qh8 n s r r2 s2 r3 r4:=by kernel_rfl
theorem qJn:lstep tbT ql3 qml (qcl 6 10 true qkq) qkS [.ptr 0 0,.ptr 1 0,.int .i64 n] ⟨[[.str s,.sl r .non,.sl r2 .non],[.str s2,.sl r3 .non,.sl r4 .non]],[],[51,51]⟩=qh8 n s r r2 s2 r3 r4:=by kernel_rfl
theorem qDj:qcM [.ptr 0 0,.ptr 1 0,.int .i64 n] ⟨[[.str s,.sl r .non,.sl r2 .non],[.str s2,.sl r3 .non,.sl r4 .non]],[],[51,51]⟩=lnext qcM (qh8 n s r r2 s2 r3 r4).run:=by unfold qcM;rw [qaQ,qNb (qM9 n s r r2 s2 r3 r4) (qJn n s r r2 s2 r3 r4)]
def qqv:Option (PExit×List PV×Store):=qcM [.ptr 0 0,.ptr 1 0,.int .i64 n] ⟨[[.str s,.sl r .non,.sl r2 .non],[.str s2,.sl r3 .non,.sl r4 .non]],[],[51,51]⟩
def qjv:Bool:=qHB 0 (qqv n s r r2 s2 r3 r4)
def qm2:Bool:=isW (qqv n s r r2 s2 r3 r4) (.ret,[.bool (qjv n s r r2 s2 r3 r4)],⟨[[.str s,.sl r .non,.sl r2 .non],[.str s2,.sl r3 .non,.sl r4 .non]],[],[51,51]⟩)
def qnl:Bool:=isW (qqv n s r r2 s2 r3 r4) ((.exit 0),[],⟨[[.str s,.sl r .non,.sl r2 .non],[.str s2,.sl r3 .non,.sl r4 .non]],[],[51,51]⟩)
end
def qgG:List PV→Store→Tr (PExit×List PV×Store)|[.ptr 0 0,.ptr 1 0,.int .i64 n],⟨[[.str s,.sl r .non,.sl r2 .non],[.str s2,.sl r3 .non,.sl r4 .non]],[],[51,51]⟩=>.ite (qm2 n s r r2 s2 r3 r4) (.ret (.ret,[.bool (qjv n s r r2 s2 r3 r4)],⟨[[.str s,.sl r .non,.sl r2 .non],[.str s2,.sl r3 .non,.sl r4 .non]],[],[51,51]⟩)) (.ite (qnl n s r r2 s2 r3 r4) (.ret ((.exit 0),[],⟨[[.str s,.sl r .non,.sl r2 .non],[.str s2,.sl r3 .non,.sl r4 .non]],[],[51,51]⟩)) (.fail))|_,_=>.fail
theorem qIW:∀ vs σ r,(qgG vs σ).run=some r→qcM vs σ=some r:=by
 intro vs σ r h;unfold qgG at h
 split at h
 ·exact qae h fun h=>qae h fun h=>by cases h
 ·cases h
theorem qDH (gl:Gl):∀ fr σ e fr' σ',(orc qkS qgG fr σ).run=some (e,fr',σ')→LDoes Tryz.prog gl qkq fr σ e fr' σ':=qTd qaj (qyR gl ) qai (L:=qml) (qac (by kernel_rfl)) 6 10 (by kernel_rfl) (by kernel_rfl) (by kernel_rfl) qIW
def qCh:LpsT:=fun r fr σ=>bif Nat.beq r 4 then orc qkS qgG fr σ else .fail
section
variable (v:qU) (v2 v3:qR) (v4:qU) (v5 v6:qR)
def qxo:Tr PV:=.ite (qhk v (qad v2) v4 (qad v5)) (.ite (bNot (qlp v (qad v2) v4 (qad v5))) (.ret (.bool false)) (.ite (iNe (xLen v3) (xLen v6)) (.ret (.bool false)) (.ite (qm2 0 v v2 v3 v4 v5 v6) (.ret (.bool (qjv 0 v v2 v3 v4 v5 v6))) (.ite (qnl 0 v v2 v3 v4 v5 v6) (.ret (.bool true)) .fail)))) .fail
theorem qPg:(tcall tbT ql3 qCh Tryz.f20 [.agg [.str v,.sl v2 .non,.sl v3 .non],.agg [.str v4,.sl v5 .non,.sl v6 .non]]).flat=qxo v v2 v3 v4 v5 v6:=by kernel_rfl
def qsC:Option PV:=(qxo v v2 v3 v4 v5 v6).run
def qtU:Bool:=(qeS (gVal (qsC v v2 v3 v4 v5 v6)))
def qrt:Bool:=isW (qsC v v2 v3 v4 v5 v6) (.bool (qtU v v2 v3 v4 v5 v6))
end
def qzP:List PV→Tr PV|[.agg [.str v,.sl v2 .non,.sl v3 .non],.agg [.str v4,.sl v5 .non,.sl v6 .non]]=>.ite (qrt v v2 v3 v4 v5 v6) (.ret (.bool (qtU v v2 v3 v4 v5 v6))) (.fail)|_=>.fail
theorem qJQ (gl:Gl):SimP Tryz.prog gl 20 fun args=>(qzP args).run:=by
 refine SimP.of_flat (G:=ql3) (L:=qCh) qaj (qyR gl ) qai  Tryz.func20 rfl (by rfl) (by kernel_rfl) (qaD (L:=lps qCh) [(4,qkq)] (by kernel_rfl) (List.forall_mem_cons.2 ⟨fun fr σ e fr' σ' h=>qDH gl  fr σ e fr' σ' h,(List.forall_mem_nil _)⟩)) ?_
 intro args x h;unfold qzP at h
 split at h
 ·exact (congrArg Tr.run (qPg _ _ _ _ _ _)).trans (qae h fun h=>by cases h)
 ·cases h
def qzR:GamT:=ofL [(11,.pure qED),(16,.pure qAq)]
theorem qIH (gl:Gl) (hg:GlLex gl):qal Tryz.prog gl (gam qzR):=(qag (qMN gl hg) (qag (qDR gl hg) qaf))
def qHp:LpsT:=fun r fr σ=>.fail
def qvk:Tr PV:=let z1:=qlN [112,40,88,41,32,58,45,32,113,40,88,44,32,95,41,44,32,88,32,33,61,32,45,51,46];let z2:List PV:=[.int .i64 0,.str [],.sl [] .full,.int .i64 0,.int .i64 0,.str [],.int .i64 0,.int .i64 0,.str [],.int .i64 0,.str [],.int .i64 0,.int .i64 0,.str []];.ite (qpL [112,40,88,41,32,58,45,32,113,40,88,44,32,95,41,44,32,88,32,33,61,32,45,51,46]) (.ite (qw1 [112,40,88,41,32,58,45,32,46]) (.ite (iEq (qoN [112,40,88,41,32,58,45,32,113,40,88,44,32,95,41,44,32,88,32,33,61,32,45,51,46]) 0) (.ite (iEq (qun [112,40,88,41,32,58,45,32,46]) 130) (.ite (iEq (qz1 [112,40,88,41,32,58,45,32,46]) 8) (.ite (sEq (qrN [112,40,88,41,32,58,45,32,113,40,88,44,32,95,41,44,32,88,32,33,61,32,45,51,46]) [112]) (.ite (iEq (xLen z1) 2) (.ite (qay 0) (.ite (qbV z2 z1 (nNat 0)) (.ite (iEq (xInt z1 (nNat 0) 0) 1) (.ite (qay 0) (.ite (qbV z2 z1 (nNat 0)) (.ite (qay 1) (.ite (qbV [.int .i64 0,.str [],.int .i64 0,.int .i64 0,.str []] (xRow z1 (nNat 0) 2) (nNat 1)) (.ite (iEq (xInt (xRow z1 (nNat 0) 2) (nNat 1) 0) 3) (.ite (qay 1) (.ite (qbV z2 z1 (nNat 1)) (.ite (iEq (xInt z1 (nNat 1) 3) 2) (.ite (qay 1) (.ite (qbV z2 z1 (nNat 1)) (.ret (.bool (iEq (xInt z1 (nNat 1) 12) (-3)))) .fail) .fail) (.ret (.bool false))) .fail) .fail) (.ret (.bool false))) .fail) .fail) .fail) .fail) (.ret (.bool false))) .fail) .fail) (.ret (.bool false))) (.ret (.bool false))) (.ret (.bool false))) (.ret (.bool false))) (.ret (.bool false))) .fail) .fail
theorem qP6:(tcall tbT qzR qHp Tryz.f14 []).flat=qvk:=by kernel_rfl
def qt1:Option PV:=(qvk).run
def qup:Bool:=(qeS (gVal (qt1)))
def qqG:Bool:=isW (qt1) (.bool (qup))
def qAK:List PV→Tr PV|[]=>.ite (qqG) (.ret (.bool (qup))) (.fail)|_=>.fail
theorem qJj (gl:Gl) (hg:GlLex gl):SimP Tryz.prog gl 14 fun args=>(qAK args).run:=by
 refine SimP.of_flat (G:=qzR) (L:=qHp) qaj (qIH gl hg ) qai  Tryz.func14 rfl (by rfl) (by kernel_rfl) (qac (by kernel_rfl)) ?_
 intro args x h;unfold qAK at h
 split at h
 ·exact (congrArg Tr.run (qP6)).trans (qae h fun h=>by cases h)
 ·cases h
def qM3:GamT:=ofL []
theorem qOw (gl:Gl):qal Tryz.prog gl (gam qM3):=qaf
def qRn:LpsT:=fun r fr σ=>.fail
section
variable (s:qU)
def qwY:Tr PV:=.ite (iLt 1500 (sLen s)) (.ite (iLe (sLen s) 65536) (.ite (qbc true (qay 1500) 0 (nNat 1500) (nLen s)) (.ret (.str (sSub s 0 (nNat 1500)))) .fail) (.ret (.str s))) (.ret (.str s))
theorem qVu:(tcall tbT qM3 qRn Tryz.f10 [.str s]).flat=qwY s:=by kernel_rfl
def qys:Option PV:=(qwY s).run
def qHl:qU:=(gStr (gVal (qys s)))
def qzt:Bool:=isW (qys s) (.str (qHl s))
end
def qNi:List PV→Tr PV|[.str s]=>.ite (qzt s) (.ret (.str (qHl s))) (.fail)|_=>.fail
theorem qQl (gl:Gl):SimP Tryz.prog gl 10 fun args=>(qNi args).run:=by
 refine SimP.of_flat (G:=qM3) (L:=qRn) qaj (qOw gl ) qai  Tryz.func10 rfl (by rfl) (by kernel_rfl) (qac (by kernel_rfl)) ?_
 intro args x h;unfold qNi at h
 split at h
 ·exact (congrArg Tr.run (qVu _)).trans (qae h fun h=>by cases h)
 ·cases h
end Go.Pv
set_option maxHeartbeats 4000000
set_option maxRecDepth 200000
set_option linter.unusedSimpArgs false
set_option linter.unusedVariables false
namespace Go.Pv
open Go Go.Proofs
def qKR:GamT:=ofL []
theorem qQB (gl:Gl):qal Tryz.prog gl (gam qKR):=qaf
def qQ6:LpsT:=fun r fr σ=>.fail
section
variable (t:qU)
def qFW:Tr PV:=.ite (sEq t [98,97,115,101]) (.ret (.bool true)) (.ite (sEq t [118,105,101,119]) (.ret (.bool true)) (.ite (sEq t [111,110]) (.ret (.bool true)) (.ret (.bool (sEq t [110,111,116])))))
theorem qVS:(tcall tbT qKR qQ6 Tryz.f163 [.str t]).flat=qFW t:=by kernel_rfl
def qIb:Option PV:=(qFW t).run
def qDI:Bool:=(qeS (gVal (qIb t)))
def qtW:Bool:=isW (qIb t) (.bool (qDI t))
end
def qL4:List PV→Tr PV|[.str t]=>.ite (qtW t) (.ret (.bool (qDI t))) (.fail)|_=>.fail
theorem qOx (gl:Gl):SimP Tryz.prog gl 163 fun args=>(qL4 args).run:=by
 refine SimP.of_flat (G:=qKR) (L:=qQ6) qaj (qQB gl ) qai  Tryz.func163 rfl (by rfl) (by kernel_rfl) (qac (by kernel_rfl)) ?_
 intro args x h;unfold qL4 at h
 split at h
 ·exact (congrArg Tr.run (qVS _)).trans (qae h fun h=>by cases h)
 ·cases h
def qGA:GamT:=ofL []
theorem qKF (gl:Gl):qal Tryz.prog gl (gam qGA):=qaf
def qNX:LpsT:=fun r fr σ=>.fail
section
variable (r:qR) (i n:Int)
def qs8:Tr PV:=.ite (iLt i (xLen r)) (.ite (qay i) (.ite (qbV [.int .i64 0,.str [],.int .i64 0,.int .i64 0,.str [],.int .i64 0] r (nNat i)) (.ret (.int .i64 (xInt r (nNat i) 5))) .fail) .fail) (.ret (.int .i64 n))
theorem qS1:(tcall tbT qGA qNX Tryz.f144 [.ref [.sl r .non,.int .i64 i,.int .i64 n,.bool false,.int .i64 0]]).flat=qs8 r i n:=by kernel_rfl
def qxd:Option PV:=(qs8 r i n).run
def qBu:Int:=(gInt (gVal (qxd r i n)))
def qv5:Bool:=isW (qxd r i n) (.int .i64 (qBu r i n))
end
def qEy:List PV→Tr PV|[.ref [.sl r .non,.int .i64 i,.int .i64 n,.bool false,.int .i64 0]]=>.ite (qv5 r i n) (.ret (.int .i64 (qBu r i n))) (.fail)|_=>.fail
theorem qMz (gl:Gl):SimP Tryz.prog gl 144 fun args=>(qEy args).run:=by
 refine SimP.of_flat (G:=qGA) (L:=qNX) qaj (qKF gl ) qai  Tryz.func144 rfl (by rfl) (by kernel_rfl) (qac (by kernel_rfl)) ?_
 intro args x h;unfold qEy at h
 split at h
 ·exact (congrArg Tr.run (qS1 _ _ _)).trans (qae h fun h=>by cases h)
 ·cases h
def qAI:GamT:=ofL []
theorem qM1 (gl:Gl):qal Tryz.prog gl (gam qAI):=qaf
def qGy:LpsT:=fun r fr σ=>.fail
def qsZ (r:qR) (i n k:Int) (t:qU):Tr PV:=let z1:=qbV [.int .i64 0,.str [],.int .i64 0,.int .i64 0,.str [],.int .i64 0] r (nNat i);.ite true (.ite (iLt i (xLen r)) (.ite (qay i) (.ite z1 (.ite (iEq (xInt r (nNat i) 0) k) (.ite (sEq t []) (.ret (.bool true)) (.ite (qay i) (.ite z1 (.ret (.bool (sEq (xStr r (nNat i) 1) t))) .fail) .fail)) (.ret (.bool false))) .fail) .fail) (.ret (.bool false))) (.ret (.bool false))
section
variable (r:qR) (i n k:Int) (t:qU)
theorem qSM:(tcall tbT qAI qGy Tryz.f37 [.ref [.sl r .non,.int .i64 i,.int .i64 n,.bool false,.int .i64 0],.int .i64 k,.str t]).flat=qsZ r i n k t:=by kernel_rfl
def quR:Option PV:=(qsZ r i n k t).run
def qdh:Bool:=(qeS (gVal (quR r i n k t)))
def qbK:Bool:=isW (quR r i n k t) (.bool (qdh r i n k t))
end
def qwu (r:qR) (i n a k:Int) (t:qU):Tr PV:=let z1:=qbV [.int .i64 0,.str [],.int .i64 0,.int .i64 0,.str [],.int .i64 0] r (nNat i);.ite false (.ite (iLt i (xLen r)) (.ite (qay i) (.ite z1 (.ite (iEq (xInt r (nNat i) 0) k) (.ite (sEq t []) (.ret (.bool true)) (.ite (qay i) (.ite z1 (.ret (.bool (sEq (xStr r (nNat i) 1) t))) .fail) .fail)) (.ret (.bool false))) .fail) .fail) (.ret (.bool false))) (.ret (.bool false))
section
variable (r:qR) (i n a k:Int) (t:qU)
theorem qP8:(tcall tbT qAI qGy Tryz.f37 [.ref [.sl r .non,.int .i64 i,.int .i64 n,.bool true,.int .i64 a],.int .i64 k,.str t]).flat=qwu r i n a k t:=by kernel_rfl
def qtn:Option PV:=(qwu r i n a k t).run
def qbH:Bool:=(qeS (gVal (qtn r i n a k t)))
def qbb:Bool:=isW (qtn r i n a k t) (.bool (qbH r i n a k t))
end
def qiH:List PV→Tr PV|[.ref [.sl r .non,.int .i64 i,.int .i64 n,.bool false,.int .i64 0],.int .i64 k,.str t]=>.ite (qbK r i n k t) (.ret (.bool (qdh r i n k t))) (.fail)|[.ref [.sl r .non,.int .i64 i,.int .i64 n,.bool true,.int .i64 a],.int .i64 k,.str t]=>.ite (qbb r i n a k t) (.ret (.bool (qbH r i n a k t))) (.fail)|_=>.fail
theorem qfA (gl:Gl):SimP Tryz.prog gl 37 fun args=>(qiH args).run:=by
 refine SimP.of_flat (G:=qAI) (L:=qGy) qaj (qM1 gl ) qai  Tryz.func37 rfl (by rfl) (by kernel_rfl) (qac (by kernel_rfl)) ?_
 intro args x h;unfold qiH at h
 split at h
 ·exact (congrArg Tr.run (qSM _ _ _ _ _)).trans (qae h fun h=>by cases h)
 ·exact (congrArg Tr.run (qP8 _ _ _ _ _ _)).trans (qae h fun h=>by cases h)
 ·cases h
def qBR:GamT:=ofL [(37,.pure qiH),(163,.pure qL4)]
theorem qKI (gl:Gl):qal Tryz.prog gl (gam qBR):=(qag (qfA gl) (qag (qOx gl) qaf))
def qGd:LpsT:=fun r fr σ=>.fail
section
variable (r:qR) (i n:Int)
def quG:Tr PV:=.ite (qbK (qad r) i n 1 []) (.ite (qdh (qad r) i n 1 []) (.ite (qay i) (.ite (qbV [.int .i64 0,.str [],.int .i64 0,.int .i64 0,.str [],.int .i64 0] r (nNat i)) (.ite (qtW (xStr r (nNat i) 1)) (.ret (.bool (bNot (qDI (xStr r (nNat i) 1))))) .fail) .fail) .fail) (.ret (.bool false))) .fail
theorem qRS:(tcall tbT qBR qGd Tryz.f143 [.ref [.sl r .non,.int .i64 i,.int .i64 n,.bool false,.int .i64 0]]).flat=quG r i n:=by kernel_rfl
def qwV:Option PV:=(quG r i n).run
def qvA:Bool:=(qeS (gVal (qwV r i n)))
def qoO:Bool:=isW (qwV r i n) (.bool (qvA r i n))
end
section
variable (r:qR) (i n a:Int)
def qvh:Tr PV:=.ite (qbb (qad r) i n a 1 []) (.ite (qbH (qad r) i n a 1 []) (.ite (qay i) (.ite (qbV [.int .i64 0,.str [],.int .i64 0,.int .i64 0,.str [],.int .i64 0] r (nNat i)) (.ite (qtW (xStr r (nNat i) 1)) (.ret (.bool (bNot (qDI (xStr r (nNat i) 1))))) .fail) .fail) .fail) (.ret (.bool false))) .fail
theorem qO5:(tcall tbT qBR qGd Tryz.f143 [.ref [.sl r .non,.int .i64 i,.int .i64 n,.bool true,.int .i64 a]]).flat=qvh r i n a:=by kernel_rfl
def qtB:Option PV:=(qvh r i n a).run
def qtm:Bool:=(qeS (gVal (qtB r i n a)))
def qqO:Bool:=isW (qtB r i n a) (.bool (qtm r i n a))
end
def qzJ:List PV→Tr PV|[.ref [.sl r .non,.int .i64 i,.int .i64 n,.bool false,.int .i64 0]]=>.ite (qoO r i n) (.ret (.bool (qvA r i n))) (.fail)|[.ref [.sl r .non,.int .i64 i,.int .i64 n,.bool true,.int .i64 a]]=>.ite (qqO r i n a) (.ret (.bool (qtm r i n a))) (.fail)|_=>.fail
theorem qEt (gl:Gl):SimP Tryz.prog gl 143 fun args=>(qzJ args).run:=by
 refine SimP.of_flat (G:=qBR) (L:=qGd) qaj (qKI gl ) qai  Tryz.func143 rfl (by rfl) (by kernel_rfl) (qac (by kernel_rfl)) ?_
 intro args x h;unfold qzJ at h
 split at h
 ·exact (congrArg Tr.run (qRS _ _ _)).trans (qae h fun h=>by cases h)
 ·exact (congrArg Tr.run (qO5 _ _ _ _)).trans (qae h fun h=>by cases h)
 ·cases h
def quB:GamT:=ofL [(144,.pure qEy)]
theorem qJt (gl:Gl):qal Tryz.prog gl (gam quB):=(qag (qMz gl) qaf)
def qz5:LpsT:=fun r fr σ=>.fail
section
variable (r:qR) (i n:Int)
def qxr:Tr (PR×Store):=.ite true (.ite (qv5 (qad (qad r)) i n) (.ret (PR.val (.tup []),Store.mk [[.sl (qaa (qad r)) .non,.int .i64 i,.int .i64 n,.bool true,.int .i64 (qBu (qad (qad r)) i n)]] [] [76])) .fail) (.ret (PR.val (.tup []),Store.mk [[.sl (qaa (qad r)) .non,.int .i64 i,.int .i64 n,.bool false,.int .i64 0]] [] [76]))
theorem qPB:(nrmM tbT quB qz5 Tryz.f92 [.ptr 0 0] ⟨[[.sl r .non,.int .i64 i,.int .i64 n,.bool false,.int .i64 0]],[],[76]⟩).flat=qxr r i n:=by kernel_rfl
def qiG:Option (PR×Store):=(qxr r i n).run
def qeb:Int:=qbY 0 1 (qiG r i n)
def qc3:Int:=qbY 0 4 (qiG r i n)
def qe0:Bool:=isW (qiG r i n) ((.val (.tup [])),⟨[[.sl r .non,.int .i64 (qeb r i n),.int .i64 n,.bool true,.int .i64 (qc3 r i n)]],[],[76]⟩)
def qea:Int:=qbY 0 1 (qiG r i n)
def qe5:Bool:=isW (qiG r i n) ((.val (.tup [])),⟨[[.sl r .non,.int .i64 (qea r i n),.int .i64 n,.bool false,.int .i64 0]],[],[76]⟩)
end
section
variable (r:qR) (i n a:Int)
def qqY:Tr (PR×Store):=.ite false .fail (.ret (PR.val (.tup []),Store.mk [[.sl (qaa (qad r)) .non,.int .i64 i,.int .i64 n,.bool true,.int .i64 a]] [] [76]))
theorem qKQ:(nrmM tbT quB qz5 Tryz.f92 [.ptr 0 0] ⟨[[.sl r .non,.int .i64 i,.int .i64 n,.bool true,.int .i64 a]],[],[76]⟩).flat=qqY r i n a:=by kernel_rfl
def qpi:Option (PR×Store):=(qqY r i n a).run
def qf9:Int:=qbY 0 1 (qpi r i n a)
def qdM:Bool:=isW (qpi r i n a) ((.val (.tup [])),⟨[[.sl r .non,.int .i64 (qf9 r i n a),.int .i64 n,.bool true,.int .i64 a]],[],[76]⟩)
end
def ql7:List PV→Store→Tr (PR×Store)|[.ptr 0 0],⟨[[.sl r .non,.int .i64 i,.int .i64 n,.bool false,.int .i64 0]],[],[76]⟩=>.ite (qe0 r i n) (.ret ((.val (.tup [])),⟨[[.sl r .non,.int .i64 (qeb r i n),.int .i64 n,.bool true,.int .i64 (qc3 r i n)]],[],[76]⟩)) (.ite (qe5 r i n) (.ret ((.val (.tup [])),⟨[[.sl r .non,.int .i64 (qea r i n),.int .i64 n,.bool false,.int .i64 0]],[],[76]⟩)) (.fail))|[.ptr 0 0],⟨[[.sl r .non,.int .i64 i,.int .i64 n,.bool true,.int .i64 a]],[],[76]⟩=>.ite (qdM r i n a) (.ret ((.val (.tup [])),⟨[[.sl r .non,.int .i64 (qf9 r i n a),.int .i64 n,.bool true,.int .i64 a]],[],[76]⟩)) (.fail)|_,_=>.fail
theorem qmu (gl:Gl):SimM Tryz.prog gl 92 fun args σ=>(ql7 args σ).run:=by
 refine SimM.of_nrm (G:=quB) (L:=qz5) qaj (qJt gl ) qai Tryz.func92 rfl (by rfl) (by kernel_rfl) (qac (by kernel_rfl)) ?_
 intro args σ x h;unfold ql7 at h
 split at h
 ·exact (congrArg Tr.run (qPB _ _ _)).trans (qae h fun h=>qae h fun h=>by cases h)
 ·exact (congrArg Tr.run (qKQ _ _ _ _)).trans (qae h fun h=>by cases h)
 ·cases h
def qAm:GamT:=ofL [(37,.pure qiH),(92,.may (frameT ql7))]
theorem qKo (gl:Gl):qal Tryz.prog gl (gam qAm):=(qag (qfA gl) (qah (SimM.frameT (qmu gl)) qaf))
def qEx:LpsT:=fun r fr σ=>.fail
section
variable (k:Int) (t:qU) (r:qR) (i n:Int)
def quH:Tr (PR×Store):=let z1:=qad r;let z2:=qad z1;let z3:List PV:=[.int .i64 0,.str [],.int .i64 0,.int .i64 0,.str [],.int .i64 0];let z4:=nNat i;.ite (qbK z2 i n k t) (.ite (bNot (qdh z2 i n k t)) (.ite (qe0 z2 i n) (.ret (PR.val (.agg z3),Store.mk [[.sl (qaa (qaa z2)) .non,.int .i64 (qeb z2 i n),.int .i64 n,.bool true,.int .i64 (qc3 z2 i n)]] [] [76])) (.ite (qe5 z2 i n) (.ret (PR.val (.agg z3),Store.mk [[.sl (qaa (qaa z2)) .non,.int .i64 (qea z2 i n),.int .i64 n,.bool false,.int .i64 0]] [] [76])) .fail)) (.ite (qay i) (.ite (qbV z3 z1 z4) (.ret (PR.val (.agg [.int .i64 (xInt z1 z4 0),.str (xStr z1 z4 1),.int .i64 (xInt z1 z4 2),.int .i64 (xInt z1 z4 3),.str (xStr z1 z4 4),.int .i64 (xInt z1 z4 5)]),Store.mk [[.sl (qaa z1) .non,.int .i64 (iAdd .i64 i 1),.int .i64 n,.bool false,.int .i64 0]] [] [76])) .fail) .fail)) .fail
theorem qTq:(nrmM tbT qAm qEx Tryz.f93 [.ptr 0 0,.int .i64 k,.str t] ⟨[[.sl r .non,.int .i64 i,.int .i64 n,.bool false,.int .i64 0]],[],[76]⟩).flat=quH k t r i n:=by kernel_rfl
def qbE:Option (PR×Store):=(quH k t r i n).run
def qw4:Int:=qa7 0 (qbE k t r i n)
def qkP:qU:=qbx 1 (qbE k t r i n)
def qh4:Int:=qa7 2 (qbE k t r i n)
def qib:Int:=qa7 3 (qbE k t r i n)
def qhl:qU:=qbx 4 (qbE k t r i n)
def qq7:Int:=qa7 5 (qbE k t r i n)
def qcA:Int:=qbY 0 1 (qbE k t r i n)
def qcv:Int:=qbY 0 4 (qbE k t r i n)
def qem:Bool:=isW (qbE k t r i n) ((.val (.agg [.int .i64 (qw4 k t r i n),.str (qkP k t r i n),.int .i64 (qh4 k t r i n),.int .i64 (qib k t r i n),.str (qhl k t r i n),.int .i64 (qq7 k t r i n)])),⟨[[.sl r .non,.int .i64 (qcA k t r i n),.int .i64 n,.bool true,.int .i64 (qcv k t r i n)]],[],[76]⟩)
def qwx:Int:=qa7 0 (qbE k t r i n)
def qj3:qU:=qbx 1 (qbE k t r i n)
def qii:Int:=qa7 2 (qbE k t r i n)
def qhP:Int:=qa7 3 (qbE k t r i n)
def qhv:qU:=qbx 4 (qbE k t r i n)
def qrR:Int:=qa7 5 (qbE k t r i n)
def qcu:Int:=qbY 0 1 (qbE k t r i n)
def qeu:Bool:=isW (qbE k t r i n) ((.val (.agg [.int .i64 (qwx k t r i n),.str (qj3 k t r i n),.int .i64 (qii k t r i n),.int .i64 (qhP k t r i n),.str (qhv k t r i n),.int .i64 (qrR k t r i n)])),⟨[[.sl r .non,.int .i64 (qcu k t r i n),.int .i64 n,.bool false,.int .i64 0]],[],[76]⟩)
end
section
variable (k:Int) (t:qU) (r:qR) (i n a:Int)
def qvy:Tr (PR×Store):=let z1:=qad r;let z2:=qad z1;let z3:List PV:=[.int .i64 0,.str [],.int .i64 0,.int .i64 0,.str [],.int .i64 0];let z4:=nNat i;.ite (qbb z2 i n a k t) (.ite (bNot (qbH z2 i n a k t)) (.ite (qdM z2 i n a) (.ret (PR.val (.agg z3),Store.mk [[.sl (qaa (qaa z2)) .non,.int .i64 (qf9 z2 i n a),.int .i64 n,.bool true,.int .i64 a]] [] [76])) .fail) (.ite (qay i) (.ite (qbV z3 z1 z4) (.ret (PR.val (.agg [.int .i64 (xInt z1 z4 0),.str (xStr z1 z4 1),.int .i64 (xInt z1 z4 2),.int .i64 (xInt z1 z4 3),.str (xStr z1 z4 4),.int .i64 (xInt z1 z4 5)]),Store.mk [[.sl (qaa z1) .non,.int .i64 (iAdd .i64 i 1),.int .i64 n,.bool true,.int .i64 a]] [] [76])) .fail) .fail)) .fail
theorem qON:(nrmM tbT qAm qEx Tryz.f93 [.ptr 0 0,.int .i64 k,.str t] ⟨[[.sl r .non,.int .i64 i,.int .i64 n,.bool true,.int .i64 a]],[],[76]⟩).flat=qvy k t r i n a:=by kernel_rfl
def qeh:Option (PR×Store):=(qvy k t r i n a).run
def qAL:Int:=qa7 0 (qeh k t r i n a)
def qoT:qU:=qbx 1 (qeh k t r i n a)
def qkD:Int:=qa7 2 (qeh k t r i n a)
def qkT:Int:=qa7 3 (qeh k t r i n a)
def qkC:qU:=qbx 4 (qeh k t r i n a)
def qwm:Int:=qa7 5 (qeh k t r i n a)
def qdq:Int:=qbY 0 1 (qeh k t r i n a)
def qde:Bool:=isW (qeh k t r i n a) ((.val (.agg [.int .i64 (qAL k t r i n a),.str (qoT k t r i n a),.int .i64 (qkD k t r i n a),.int .i64 (qkT k t r i n a),.str (qkC k t r i n a),.int .i64 (qwm k t r i n a)])),⟨[[.sl r .non,.int .i64 (qdq k t r i n a),.int .i64 n,.bool true,.int .i64 a]],[],[76]⟩)
end
def qvw:List PV→Store→Tr (PR×Store)|[.ptr 0 0,.int .i64 k,.str t],⟨[[.sl r .non,.int .i64 i,.int .i64 n,.bool false,.int .i64 0]],[],[76]⟩=>.ite (qem k t r i n) (.ret ((.val (.agg [.int .i64 (qw4 k t r i n),.str (qkP k t r i n),.int .i64 (qh4 k t r i n),.int .i64 (qib k t r i n),.str (qhl k t r i n),.int .i64 (qq7 k t r i n)])),⟨[[.sl r .non,.int .i64 (qcA k t r i n),.int .i64 n,.bool true,.int .i64 (qcv k t r i n)]],[],[76]⟩)) (.ite (qeu k t r i n) (.ret ((.val (.agg [.int .i64 (qwx k t r i n),.str (qj3 k t r i n),.int .i64 (qii k t r i n),.int .i64 (qhP k t r i n),.str (qhv k t r i n),.int .i64 (qrR k t r i n)])),⟨[[.sl r .non,.int .i64 (qcu k t r i n),.int .i64 n,.bool false,.int .i64 0]],[],[76]⟩)) (.fail))|[.ptr 0 0,.int .i64 k,.str t],⟨[[.sl r .non,.int .i64 i,.int .i64 n,.bool true,.int .i64 a]],[],[76]⟩=>.ite (qde k t r i n a) (.ret ((.val (.agg [.int .i64 (qAL k t r i n a),.str (qoT k t r i n a),.int .i64 (qkD k t r i n a),.int .i64 (qkT k t r i n a),.str (qkC k t r i n a),.int .i64 (qwm k t r i n a)])),⟨[[.sl r .non,.int .i64 (qdq k t r i n a),.int .i64 n,.bool true,.int .i64 a]],[],[76]⟩)) (.fail)|_,_=>.fail
theorem quT (gl:Gl):SimM Tryz.prog gl 93 fun args σ=>(qvw args σ).run:=by
 refine SimM.of_nrm (G:=qAm) (L:=qEx) qaj (qKo gl ) qai Tryz.func93 rfl (by rfl) (by kernel_rfl) (qac (by kernel_rfl)) ?_
 intro args σ x h;unfold qvw at h
 split at h
 ·exact (congrArg Tr.run (qTq _ _ _ _ _)).trans (qae h fun h=>qae h fun h=>by cases h)
 ·exact (congrArg Tr.run (qON _ _ _ _ _ _)).trans (qae h fun h=>by cases h)
 ·cases h
def qzQ:GamT:=ofL [(93,.may (frameT qvw))]
theorem qK5 (gl:Gl):qal Tryz.prog gl (gam qzQ):=(qah (SimM.frameT (quT gl)) qaf)
def qGr:LpsT:=fun r fr σ=>.fail
section
variable (t:qU) (r:qR) (i n:Int)
def qtl:Tr (PR×Store):=let z1:=qad (qad r);.ite (qem 6 t z1 i n) (.ret (PR.val (.tup []),Store.mk [[.sl (qaa (qaa z1)) .non,.int .i64 (qcA 6 t z1 i n),.int .i64 n,.bool true,.int .i64 (qcv 6 t z1 i n)]] [] [76])) (.ite (qeu 6 t z1 i n) (.ret (PR.val (.tup []),Store.mk [[.sl (qaa (qaa z1)) .non,.int .i64 (qcu 6 t z1 i n),.int .i64 n,.bool false,.int .i64 0]] [] [76])) .fail)
theorem qSw:(nrmM tbT qzQ qGr Tryz.f90 [.ptr 0 0,.str t] ⟨[[.sl r .non,.int .i64 i,.int .i64 n,.bool false,.int .i64 0]],[],[76]⟩).flat=qtl t r i n:=by kernel_rfl
def qka:Option (PR×Store):=(qtl t r i n).run
def qfB:Int:=qbY 0 1 (qka t r i n)
def qd1:Int:=qbY 0 4 (qka t r i n)
def qhY:Bool:=isW (qka t r i n) ((.val (.tup [])),⟨[[.sl r .non,.int .i64 (qfB t r i n),.int .i64 n,.bool true,.int .i64 (qd1 t r i n)]],[],[76]⟩)
def qf8:Int:=qbY 0 1 (qka t r i n)
def qhI:Bool:=isW (qka t r i n) ((.val (.tup [])),⟨[[.sl r .non,.int .i64 (qf8 t r i n),.int .i64 n,.bool false,.int .i64 0]],[],[76]⟩)
end
section
variable (t:qU) (r:qR) (i n a:Int)
def qv2:Tr (PR×Store):=let z1:=qad (qad r);.ite (qde 6 t z1 i n a) (.ret (PR.val (.tup []),Store.mk [[.sl (qaa (qaa z1)) .non,.int .i64 (qdq 6 t z1 i n a),.int .i64 n,.bool true,.int .i64 a]] [] [76])) .fail
theorem qPY:(nrmM tbT qzQ qGr Tryz.f90 [.ptr 0 0,.str t] ⟨[[.sl r .non,.int .i64 i,.int .i64 n,.bool true,.int .i64 a]],[],[76]⟩).flat=qv2 t r i n a:=by kernel_rfl
def qte:Option (PR×Store):=(qv2 t r i n a).run
def qcT:Int:=qbY 0 1 (qte t r i n a)
def qbI:Bool:=isW (qte t r i n a) ((.val (.tup [])),⟨[[.sl r .non,.int .i64 (qcT t r i n a),.int .i64 n,.bool true,.int .i64 a]],[],[76]⟩)
end
def qCm:List PV→Store→Tr (PR×Store)|[.ptr 0 0,.str t],⟨[[.sl r .non,.int .i64 i,.int .i64 n,.bool false,.int .i64 0]],[],[76]⟩=>.ite (qhY t r i n) (.ret ((.val (.tup [])),⟨[[.sl r .non,.int .i64 (qfB t r i n),.int .i64 n,.bool true,.int .i64 (qd1 t r i n)]],[],[76]⟩)) (.ite (qhI t r i n) (.ret ((.val (.tup [])),⟨[[.sl r .non,.int .i64 (qf8 t r i n),.int .i64 n,.bool false,.int .i64 0]],[],[76]⟩)) (.fail))|[.ptr 0 0,.str t],⟨[[.sl r .non,.int .i64 i,.int .i64 n,.bool true,.int .i64 a]],[],[76]⟩=>.ite (qbI t r i n a) (.ret ((.val (.tup [])),⟨[[.sl r .non,.int .i64 (qcT t r i n a),.int .i64 n,.bool true,.int .i64 a]],[],[76]⟩)) (.fail)|_,_=>.fail
theorem qEj (gl:Gl):SimM Tryz.prog gl 90 fun args σ=>(qCm args σ).run:=by
 refine SimM.of_nrm (G:=qzQ) (L:=qGr) qaj (qK5 gl ) qai Tryz.func90 rfl (by rfl) (by kernel_rfl) (qac (by kernel_rfl)) ?_
 intro args σ x h;unfold qCm at h
 split at h
 ·exact (congrArg Tr.run (qSw _ _ _ _)).trans (qae h fun h=>qae h fun h=>by cases h)
 ·exact (congrArg Tr.run (qPY _ _ _ _ _)).trans (qae h fun h=>by cases h)
 ·cases h
def qs0:GamT:=ofL [(92,.may (frameT ql7)),(93,.may (frameT qvw)),(143,.pure qzJ)]
theorem qJq (gl:Gl):qal Tryz.prog gl (gam qs0):=(qah (SimM.frameT (qmu gl)) (qah (SimM.frameT (quT gl)) (qag (qEt gl) qaf)))
def qBj:LpsT:=fun r fr σ=>.fail
section
variable (r:qR) (i n:Int)
def qp1:Tr (PR×Store):=let z1:=qad (qad r);let z2:=qaa (qaa z1);.ite (qoO z1 i n) (.ite (bNot (qvA z1 i n)) (.ite (qe0 z1 i n) (.ret (PR.val (.str []),Store.mk [[.sl z2 .non,.int .i64 (qeb z1 i n),.int .i64 n,.bool true,.int .i64 (qc3 z1 i n)]] [] [76])) (.ite (qe5 z1 i n) (.ret (PR.val (.str []),Store.mk [[.sl z2 .non,.int .i64 (qea z1 i n),.int .i64 n,.bool false,.int .i64 0]] [] [76])) .fail)) (.ite (qem 1 [] z1 i n) (.ret (PR.val (.str (qkP 1 [] z1 i n)),Store.mk [[.sl z2 .non,.int .i64 (qcA 1 [] z1 i n),.int .i64 n,.bool true,.int .i64 (qcv 1 [] z1 i n)]] [] [76])) (.ite (qeu 1 [] z1 i n) (.ret (PR.val (.str (qj3 1 [] z1 i n)),Store.mk [[.sl z2 .non,.int .i64 (qcu 1 [] z1 i n),.int .i64 n,.bool false,.int .i64 0]] [] [76])) .fail))) .fail
theorem qQd:(nrmM tbT qs0 qBj Tryz.f89 [.ptr 0 0] ⟨[[.sl r .non,.int .i64 i,.int .i64 n,.bool false,.int .i64 0]],[],[76]⟩).flat=qp1 r i n:=by kernel_rfl
def qef:Option (PR×Store):=(qp1 r i n).run
def qlt:qU:=qQi (qef r i n)
def qhd:Int:=qbY 0 1 (qef r i n)
def qi0:Int:=qbY 0 4 (qef r i n)
def qqW:Bool:=isW (qef r i n) ((.val (.str (qlt r i n))),⟨[[.sl r .non,.int .i64 (qhd r i n),.int .i64 n,.bool true,.int .i64 (qi0 r i n)]],[],[76]⟩)
def qlD:qU:=qQi (qef r i n)
def qlI:Int:=qbY 0 1 (qef r i n)
def qq1:Bool:=isW (qef r i n) ((.val (.str (qlD r i n))),⟨[[.sl r .non,.int .i64 (qlI r i n),.int .i64 n,.bool false,.int .i64 0]],[],[76]⟩)
end
section
variable (r:qR) (i n a:Int)
def qqL:Tr (PR×Store):=let z1:=qad (qad r);.ite (qqO z1 i n a) (.ite (bNot (qtm z1 i n a)) (.ite (qdM z1 i n a) (.ret (PR.val (.str []),Store.mk [[.sl (qaa (qaa z1)) .non,.int .i64 (qf9 z1 i n a),.int .i64 n,.bool true,.int .i64 a]] [] [76])) .fail) (.ite (qde 1 [] z1 i n a) (.ret (PR.val (.str (qoT 1 [] z1 i n a)),Store.mk [[.sl (qaa (qaa z1)) .non,.int .i64 (qdq 1 [] z1 i n a),.int .i64 n,.bool true,.int .i64 a]] [] [76])) .fail)) .fail
theorem qLE:(nrmM tbT qs0 qBj Tryz.f89 [.ptr 0 0] ⟨[[.sl r .non,.int .i64 i,.int .i64 n,.bool true,.int .i64 a]],[],[76]⟩).flat=qqL r i n a:=by kernel_rfl
def qkr:Option (PR×Store):=(qqL r i n a).run
def qo7:qU:=qQi (qkr r i n a)
def qj1:Int:=qbY 0 1 (qkr r i n a)
def qnk:Bool:=isW (qkr r i n a) ((.val (.str (qo7 r i n a))),⟨[[.sl r .non,.int .i64 (qj1 r i n a),.int .i64 n,.bool true,.int .i64 a]],[],[76]⟩)
end
def qB6:List PV→Store→Tr (PR×Store)|[.ptr 0 0],⟨[[.sl r .non,.int .i64 i,.int .i64 n,.bool false,.int .i64 0]],[],[76]⟩=>.ite (qqW r i n) (.ret ((.val (.str (qlt r i n))),⟨[[.sl r .non,.int .i64 (qhd r i n),.int .i64 n,.bool true,.int .i64 (qi0 r i n)]],[],[76]⟩)) (.ite (qq1 r i n) (.ret ((.val (.str (qlD r i n))),⟨[[.sl r .non,.int .i64 (qlI r i n),.int .i64 n,.bool false,.int .i64 0]],[],[76]⟩)) (.fail))|[.ptr 0 0],⟨[[.sl r .non,.int .i64 i,.int .i64 n,.bool true,.int .i64 a]],[],[76]⟩=>.ite (qnk r i n a) (.ret ((.val (.str (qo7 r i n a))),⟨[[.sl r .non,.int .i64 (qj1 r i n a),.int .i64 n,.bool true,.int .i64 a]],[],[76]⟩)) (.fail)|_,_=>.fail
theorem qIL (gl:Gl):SimM Tryz.prog gl 89 fun args σ=>(qB6 args σ).run:=by
 refine SimM.of_nrm (G:=qs0) (L:=qBj) qaj (qJq gl ) qai Tryz.func89 rfl (by rfl) (by kernel_rfl) (qac (by kernel_rfl)) ?_
 intro args σ x h;unfold qB6 at h
 split at h
 ·exact (congrArg Tr.run (qQd _ _ _)).trans (qae h fun h=>qae h fun h=>by cases h)
 ·exact (congrArg Tr.run (qLE _ _ _ _)).trans (qae h fun h=>by cases h)
 ·cases h
def qzx:GamT:=ofL [(37,.pure qiH),(93,.may (frameT qvw))]
theorem qKv (gl:Gl):qal Tryz.prog gl (gam qzx):=(qag (qfA gl) (qah (SimM.frameT (quT gl)) qaf))
def qFD:LpsT:=fun r fr σ=>.fail
section
variable (r:qR) (i n:Int)
def qjz:Tr (PR×Store):=let z1:=qad (qad r);let z2:=qaa (qaa z1);let z3:PV:=.agg [.int .i64 3,.str [],.int .i64 0,.int .i64 0,.str []];.ite (qbK z1 i n 2 []) (.ite (qdh z1 i n 2 []) (.ite (qem 2 [] z1 i n) (.ret (PR.val (.agg [.int .i64 1,.str (qkP 2 [] z1 i n),.int .i64 0,.int .i64 0,.str []]),Store.mk [[.sl z2 .non,.int .i64 (qcA 2 [] z1 i n),.int .i64 n,.bool true,.int .i64 (qcv 2 [] z1 i n)]] [] [76])) (.ite (qeu 2 [] z1 i n) (.ret (PR.val (.agg [.int .i64 1,.str (qj3 2 [] z1 i n),.int .i64 0,.int .i64 0,.str []]),Store.mk [[.sl z2 .non,.int .i64 (qcu 2 [] z1 i n),.int .i64 n,.bool false,.int .i64 0]] [] [76])) .fail)) (.ite (qbK z1 i n 4 []) (.ite (qdh z1 i n 4 []) (.ite (qem 4 [] z1 i n) (.ret (PR.val (.agg [.int .i64 2,.str [],.int .i64 (qh4 4 [] z1 i n),.int .i64 (qib 4 [] z1 i n),.str (qhl 4 [] z1 i n)]),Store.mk [[.sl z2 .non,.int .i64 (qcA 4 [] z1 i n),.int .i64 n,.bool true,.int .i64 (qcv 4 [] z1 i n)]] [] [76])) (.ite (qeu 4 [] z1 i n) (.ret (PR.val (.agg [.int .i64 2,.str [],.int .i64 (qii 4 [] z1 i n),.int .i64 (qhP 4 [] z1 i n),.str (qhv 4 [] z1 i n)]),Store.mk [[.sl z2 .non,.int .i64 (qcu 4 [] z1 i n),.int .i64 n,.bool false,.int .i64 0]] [] [76])) .fail)) (.ite (qbK z1 i n 5 []) (.ite (qdh z1 i n 5 []) (.ite (qem 5 [] z1 i n) (.ret (PR.val (.agg [.int .i64 2,.str [],.int .i64 (qh4 5 [] z1 i n),.int .i64 (qib 5 [] z1 i n),.str (qhl 5 [] z1 i n)]),Store.mk [[.sl z2 .non,.int .i64 (qcA 5 [] z1 i n),.int .i64 n,.bool true,.int .i64 (qcv 5 [] z1 i n)]] [] [76])) (.ite (qeu 5 [] z1 i n) (.ret (PR.val (.agg [.int .i64 2,.str [],.int .i64 (qii 5 [] z1 i n),.int .i64 (qhP 5 [] z1 i n),.str (qhv 5 [] z1 i n)]),Store.mk [[.sl z2 .non,.int .i64 (qcu 5 [] z1 i n),.int .i64 n,.bool false,.int .i64 0]] [] [76])) .fail)) (.ite (qem 3 [] z1 i n) (.ret (PR.val z3,Store.mk [[.sl z2 .non,.int .i64 (qcA 3 [] z1 i n),.int .i64 n,.bool true,.int .i64 (qcv 3 [] z1 i n)]] [] [76])) (.ite (qeu 3 [] z1 i n) (.ret (PR.val z3,Store.mk [[.sl z2 .non,.int .i64 (qcu 3 [] z1 i n),.int .i64 n,.bool false,.int .i64 0]] [] [76])) .fail))) .fail)) .fail)) .fail
theorem qUv:(nrmM tbT qzx qFD Tryz.f114 [.ptr 0 0] ⟨[[.sl r .non,.int .i64 i,.int .i64 n,.bool false,.int .i64 0]],[],[76]⟩).flat=qjz r i n:=by kernel_rfl
def qbD:Option (PR×Store):=(qjz r i n).run
def qhc:Int:=qa7 0 (qbD r i n)
def qhJ:qU:=qbx 1 (qbD r i n)
def qfi:Int:=qa7 2 (qbD r i n)
def qe3:Int:=qa7 3 (qbD r i n)
def qfg:qU:=qbx 4 (qbD r i n)
def qfk:Int:=qbY 0 1 (qbD r i n)
def qe4:Int:=qbY 0 4 (qbD r i n)
def qkF:Bool:=isW (qbD r i n) ((.val (.agg [.int .i64 (qhc r i n),.str (qhJ r i n),.int .i64 (qfi r i n),.int .i64 (qe3 r i n),.str (qfg r i n)])),⟨[[.sl r .non,.int .i64 (qfk r i n),.int .i64 n,.bool true,.int .i64 (qe4 r i n)]],[],[76]⟩)
def qie:Int:=qa7 0 (qbD r i n)
def qha:qU:=qbx 1 (qbD r i n)
def qfe:Int:=qa7 2 (qbD r i n)
def qfh:Int:=qa7 3 (qbD r i n)
def qfa:qU:=qbx 4 (qbD r i n)
def qe6:Int:=qbY 0 1 (qbD r i n)
def qjW:Bool:=isW (qbD r i n) ((.val (.agg [.int .i64 (qie r i n),.str (qha r i n),.int .i64 (qfe r i n),.int .i64 (qfh r i n),.str (qfa r i n)])),⟨[[.sl r .non,.int .i64 (qe6 r i n),.int .i64 n,.bool false,.int .i64 0]],[],[76]⟩)
end
section
variable (r:qR) (i n a:Int)
def quQ:Tr (PR×Store):=let z1:=qad (qad r);let z2:=qaa (qaa z1);.ite (qbb z1 i n a 2 []) (.ite (qbH z1 i n a 2 []) (.ite (qde 2 [] z1 i n a) (.ret (PR.val (.agg [.int .i64 1,.str (qoT 2 [] z1 i n a),.int .i64 0,.int .i64 0,.str []]),Store.mk [[.sl z2 .non,.int .i64 (qdq 2 [] z1 i n a),.int .i64 n,.bool true,.int .i64 a]] [] [76])) .fail) (.ite (qbb z1 i n a 4 []) (.ite (qbH z1 i n a 4 []) (.ite (qde 4 [] z1 i n a) (.ret (PR.val (.agg [.int .i64 2,.str [],.int .i64 (qkD 4 [] z1 i n a),.int .i64 (qkT 4 [] z1 i n a),.str (qkC 4 [] z1 i n a)]),Store.mk [[.sl z2 .non,.int .i64 (qdq 4 [] z1 i n a),.int .i64 n,.bool true,.int .i64 a]] [] [76])) .fail) (.ite (qbb z1 i n a 5 []) (.ite (qbH z1 i n a 5 []) (.ite (qde 5 [] z1 i n a) (.ret (PR.val (.agg [.int .i64 2,.str [],.int .i64 (qkD 5 [] z1 i n a),.int .i64 (qkT 5 [] z1 i n a),.str (qkC 5 [] z1 i n a)]),Store.mk [[.sl z2 .non,.int .i64 (qdq 5 [] z1 i n a),.int .i64 n,.bool true,.int .i64 a]] [] [76])) .fail) (.ite (qde 3 [] z1 i n a) (.ret (PR.val (.agg [.int .i64 3,.str [],.int .i64 0,.int .i64 0,.str []]),Store.mk [[.sl z2 .non,.int .i64 (qdq 3 [] z1 i n a),.int .i64 n,.bool true,.int .i64 a]] [] [76])) .fail)) .fail)) .fail)) .fail
theorem qP2:(nrmM tbT qzx qFD Tryz.f114 [.ptr 0 0] ⟨[[.sl r .non,.int .i64 i,.int .i64 n,.bool true,.int .i64 a]],[],[76]⟩).flat=quQ r i n a:=by kernel_rfl
def qeW:Option (PR×Store):=(quQ r i n a).run
def qlj:Int:=qa7 0 (qeW r i n a)
def qlx:qU:=qbx 1 (qeW r i n a)
def qh6:Int:=qa7 2 (qeW r i n a)
def qhL:Int:=qa7 3 (qeW r i n a)
def qic:qU:=qbx 4 (qeW r i n a)
def qhW:Int:=qbY 0 1 (qeW r i n a)
def qh2:Bool:=isW (qeW r i n a) ((.val (.agg [.int .i64 (qlj r i n a),.str (qlx r i n a),.int .i64 (qh6 r i n a),.int .i64 (qhL r i n a),.str (qic r i n a)])),⟨[[.sl r .non,.int .i64 (qhW r i n a),.int .i64 n,.bool true,.int .i64 a]],[],[76]⟩)
end
def qA7:List PV→Store→Tr (PR×Store)|[.ptr 0 0],⟨[[.sl r .non,.int .i64 i,.int .i64 n,.bool false,.int .i64 0]],[],[76]⟩=>.ite (qkF r i n) (.ret ((.val (.agg [.int .i64 (qhc r i n),.str (qhJ r i n),.int .i64 (qfi r i n),.int .i64 (qe3 r i n),.str (qfg r i n)])),⟨[[.sl r .non,.int .i64 (qfk r i n),.int .i64 n,.bool true,.int .i64 (qe4 r i n)]],[],[76]⟩)) (.ite (qjW r i n) (.ret ((.val (.agg [.int .i64 (qie r i n),.str (qha r i n),.int .i64 (qfe r i n),.int .i64 (qfh r i n),.str (qfa r i n)])),⟨[[.sl r .non,.int .i64 (qe6 r i n),.int .i64 n,.bool false,.int .i64 0]],[],[76]⟩)) (.fail))|[.ptr 0 0],⟨[[.sl r .non,.int .i64 i,.int .i64 n,.bool true,.int .i64 a]],[],[76]⟩=>.ite (qh2 r i n a) (.ret ((.val (.agg [.int .i64 (qlj r i n a),.str (qlx r i n a),.int .i64 (qh6 r i n a),.int .i64 (qhL r i n a),.str (qic r i n a)])),⟨[[.sl r .non,.int .i64 (qhW r i n a),.int .i64 n,.bool true,.int .i64 a]],[],[76]⟩)) (.fail)|_,_=>.fail
theorem qDU (gl:Gl):SimM Tryz.prog gl 114 fun args σ=>(qA7 args σ).run:=by
 refine SimM.of_nrm (G:=qzx) (L:=qFD) qaj (qKv gl ) qai Tryz.func114 rfl (by rfl) (by kernel_rfl) (qac (by kernel_rfl)) ?_
 intro args σ x h;unfold qA7 at h
 split at h
 ·exact (congrArg Tr.run (qUv _ _ _)).trans (qae h fun h=>qae h fun h=>by cases h)
 ·exact (congrArg Tr.run (qP2 _ _ _ _)).trans (qae h fun h=>by cases h)
 ·cases h
end Go.Pv
set_option maxHeartbeats 4000000
set_option maxRecDepth 200000
set_option linter.unusedSimpArgs false
set_option linter.unusedVariables false
namespace Go.Pv
open Go Go.Proofs
def qnm:GamT:=ofL [(37,.pure qiH),(89,.may (frameT qB6)),(90,.may (frameT qCm)),(114,.may (frameT qA7)),(quU,.hint [(6,1,5,94)])]
theorem qCO (gl:Gl):qal Tryz.prog gl (gam qnm):=(qag (qfA gl) (qah (SimM.frameT (qIL gl)) (qah (SimM.frameT (qEj gl)) (qah (SimM.frameT (qDU gl)) (qcj (K:=.hint [(6,1,5,94)]) trivial qaf)))))
def qoj:Code:=qfZ Tryz.f52 6
def qpd:LI:=⟨44,[0,2,3],fun e=>match e with|.exit 0=>[0,2,3]|_=>[],false⟩
def qo0:LpsT:=fun r fr σ=>.fail
def qbT (vs:List PV) (σ:Store):Option (PExit×List PV×Store):=lval (lstep tbT qnm qo0 qoj qpd) vs σ
section
variable (r:qR) (n n2 n3:Int) (s:qU) (r2:qR) (s2:qU) (r3:qR) (k:Nat)
def qu8:Tr LR:=let z1:=qad r;let z2:List PV:=[.str s2,.sl r3 (.tok 0)];let z3:qR:=[[.int .i64 (qlj z1 n n2 n3),.str (qlx z1 n n2 n3),.int .i64 (qh6 z1 n n2 n3),.int .i64 (qhL z1 n n2 n3),.str (qic z1 n n2 n3)]];let z4:=qhW z1 n n2 n3;let z5:List PV:=[.ptr 0 0,.ptr 1 0,.ptr 2 0];let z6:List PV:=[.str s,.sl r2 .full];let z7:List PV:=[.str s2,.sl (xApp r3 z3) (.tok 0)];.ite false (.ite (qh2 z1 n n2 n3) (.ite (qg6 z2 z2) (.ite (qav r3 z3 56) (.ite (qaq z3 5) (.ite (qao r3 5) (.ite (nEq k (nXs r3)) (.ite (qbb (qad (qaa z1)) z4 n2 n3 6 [44]) (.ite (bNot (qbH (qad (qaa z1)) z4 n2 n3 6 [44])) (.ret (.out (.exit 0) z5 (Store.mk [[.sl (qaa z1) .non,.int .i64 z4,.int .i64 n2,.bool true,.int .i64 n3],z6,z7] [(nXs (xApp r3 z3),5,94)] [76,48,48]))) (.ret (.next z5 (Store.mk [[.sl (qaa z1) .non,.int .i64 (iAdd .i64 z4 1),.int .i64 n2,.bool true,.int .i64 n3],z6,z7] [(nXs (xApp r3 z3),5,94)] [76,48,48])))) .fail) .fail) .fail) .fail) .fail) .fail) .fail) (.ret (.out (.exit 0) z5 (Store.mk [[.sl r .non,.int .i64 n,.int .i64 n2,.bool true,.int .i64 n3],z6,z2] [(k,5,94)] [76,48,48])))
theorem qP0:lstep tbT qnm qo0 qoj qpd [.ptr 0 0,.ptr 1 0,.ptr 2 0] ⟨[[.sl r .non,.int .i64 n,.int .i64 n2,.bool true,.int .i64 n3],[.str s,.sl r2 .full],[.str s2,.sl r3 (.tok 0)]],[(k,5,94)],[76,48,48]⟩=qu8 r n n2 n3 s r2 s2 r3 k:=by kernel_rfl
theorem qPj:qbT [.ptr 0 0,.ptr 1 0,.ptr 2 0] ⟨[[.sl r .non,.int .i64 n,.int .i64 n2,.bool true,.int .i64 n3],[.str s,.sl r2 .full],[.str s2,.sl r3 (.tok 0)]],[(k,5,94)],[76,48,48]⟩=lnext qbT (qu8 r n n2 n3 s r2 s2 r3 k).run:=by unfold qbT;rw [qaQ,qP0]
end
section
variable (r:qR) (n n2:Int) (s:qU) (r2:qR) (s2:qU) (r3:qR) (k:Nat)
def qhF:Tr LR:=let z1:=qad r;let z2:List PV:=[.str s2,.sl r3 (.tok 0)];let z3:qR:=[[.int .i64 (qhc z1 n n2),.str (qhJ z1 n n2),.int .i64 (qfi z1 n n2),.int .i64 (qe3 z1 n n2),.str (qfg z1 n n2)]];let z4:=qaa z1;let z5:=qfk z1 n n2;let z6:=qe4 z1 n n2;let z7:List PV:=[.ptr 0 0,.ptr 1 0,.ptr 2 0];let z8:List PV:=[.str s,.sl r2 .full];let z9:List PV:=[.str s2,.sl (xApp r3 z3) (.tok 0)];let z10:qR:=[[.int .i64 (qie z1 n n2),.str (qha z1 n n2),.int .i64 (qfe z1 n n2),.int .i64 (qfh z1 n n2),.str (qfa z1 n n2)]];let z11:=qe6 z1 n n2;let z12:List PV:=[.str s2,.sl (xApp r3 z10) (.tok 0)];.ite true (.ite (qkF z1 n n2) (.ite (qg6 z2 z2) (.ite (qav r3 z3 56) (.ite (qaq z3 5) (.ite (qao r3 5) (.ite (nEq k (nXs r3)) (.ite (qbb (qad z4) z5 n2 z6 6 [44]) (.ite (bNot (qbH (qad z4) z5 n2 z6 6 [44])) (.ret (.out (.exit 0) z7 (Store.mk [[.sl z4 .non,.int .i64 z5,.int .i64 n2,.bool true,.int .i64 z6],z8,z9] [(nXs (xApp r3 z3),5,94)] [76,48,48]))) (.ret (.next z7 (Store.mk [[.sl z4 .non,.int .i64 (iAdd .i64 z5 1),.int .i64 n2,.bool true,.int .i64 z6],z8,z9] [(nXs (xApp r3 z3),5,94)] [76,48,48])))) .fail) .fail) .fail) .fail) .fail) .fail) (.ite (qjW z1 n n2) (.ite (qg6 z2 z2) (.ite (qav r3 z10 56) (.ite (qaq z10 5) (.ite (qao r3 5) (.ite (nEq k (nXs r3)) (.ite (qbK (qad z4) z11 n2 6 [44]) (.ite (bNot (qdh (qad z4) z11 n2 6 [44])) (.ret (.out (.exit 0) z7 (Store.mk [[.sl z4 .non,.int .i64 z11,.int .i64 n2,.bool false,.int .i64 0],z8,z12] [(nXs (xApp r3 z10),5,94)] [76,48,48]))) (.ret (.next z7 (Store.mk [[.sl z4 .non,.int .i64 (iAdd .i64 z11 1),.int .i64 n2,.bool false,.int .i64 0],z8,z12] [(nXs (xApp r3 z10),5,94)] [76,48,48])))) .fail) .fail) .fail) .fail) .fail) .fail) .fail)) (.ret (.out (.exit 0) z7 (Store.mk [[.sl r .non,.int .i64 n,.int .i64 n2,.bool false,.int .i64 0],z8,z2] [(k,5,94)] [76,48,48])))
theorem qMK:lstep tbT qnm qo0 qoj qpd [.ptr 0 0,.ptr 1 0,.ptr 2 0] ⟨[[.sl r .non,.int .i64 n,.int .i64 n2,.bool false,.int .i64 0],[.str s,.sl r2 .full],[.str s2,.sl r3 (.tok 0)]],[(k,5,94)],[76,48,48]⟩=qhF r n n2 s r2 s2 r3 k:=by kernel_rfl
theorem qwL:qbT [.ptr 0 0,.ptr 1 0,.ptr 2 0] ⟨[[.sl r .non,.int .i64 n,.int .i64 n2,.bool false,.int .i64 0],[.str s,.sl r2 .full],[.str s2,.sl r3 (.tok 0)]],[(k,5,94)],[76,48,48]⟩=lnext qbT (qhF r n n2 s r2 s2 r3 k).run:=by unfold qbT;rw [qaQ,qMK]
end
section
variable (r:qR) (n n2 n3:Int) (s:qU) (r2:qR) (s2:qU) (r3:qR) (k:Nat)
def qjF:Option (PExit×List PV×Store):=qbT [.ptr 0 0,.ptr 1 0,.ptr 2 0] ⟨[[.sl r .non,.int .i64 n,.int .i64 n2,.bool true,.int .i64 n3],[.str s,.sl r2 .full],[.str s2,.sl r3 (.tok 0)]],[(k,5,94)],[76,48,48]⟩
def qk6:Int:=qcm 0 1 (qjF r n n2 n3 s r2 s2 r3 k)
def qih:qR:=qa8 2 1 (qjF r n n2 n3 s r2 s2 r3 k)
def qB7:Nat:=(gTok (qjF r n n2 n3 s r2 s2 r3 k) 0)
def qg5:Bool:=isW (qjF r n n2 n3 s r2 s2 r3 k) ((.exit 0),[.ptr 0 0,.ptr 1 0,.ptr 2 0],⟨[[.sl r .non,.int .i64 (qk6 r n n2 n3 s r2 s2 r3 k),.int .i64 n2,.bool true,.int .i64 n3],[.str s,.sl r2 .full],[.str s2,.sl (qih r n n2 n3 s r2 s2 r3 k) (.tok 0)]],[((qB7 r n n2 n3 s r2 s2 r3 k),5,94)],[76,48,48]⟩)
end
section
variable (r:qR) (n n2:Int) (s:qU) (r2:qR) (s2:qU) (r3:qR) (k:Nat)
def qbW:Option (PExit×List PV×Store):=qbT [.ptr 0 0,.ptr 1 0,.ptr 2 0] ⟨[[.sl r .non,.int .i64 n,.int .i64 n2,.bool false,.int .i64 0],[.str s,.sl r2 .full],[.str s2,.sl r3 (.tok 0)]],[(k,5,94)],[76,48,48]⟩
def qjr:Int:=qcm 0 1 (qbW r n n2 s r2 s2 r3 k)
def qgp:Int:=qcm 0 4 (qbW r n n2 s r2 s2 r3 k)
def qgm:qR:=qa8 2 1 (qbW r n n2 s r2 s2 r3 k)
def qnX:Nat:=(gTok (qbW r n n2 s r2 s2 r3 k) 0)
def qn8:Bool:=isW (qbW r n n2 s r2 s2 r3 k) ((.exit 0),[.ptr 0 0,.ptr 1 0,.ptr 2 0],⟨[[.sl r .non,.int .i64 (qjr r n n2 s r2 s2 r3 k),.int .i64 n2,.bool true,.int .i64 (qgp r n n2 s r2 s2 r3 k)],[.str s,.sl r2 .full],[.str s2,.sl (qgm r n n2 s r2 s2 r3 k) (.tok 0)]],[((qnX r n n2 s r2 s2 r3 k),5,94)],[76,48,48]⟩)
def qi6:Int:=qcm 0 1 (qbW r n n2 s r2 s2 r3 k)
def qgC:qR:=qa8 2 1 (qbW r n n2 s r2 s2 r3 k)
def qnb:Nat:=(gTok (qbW r n n2 s r2 s2 r3 k) 0)
def qnd:Bool:=isW (qbW r n n2 s r2 s2 r3 k) ((.exit 0),[.ptr 0 0,.ptr 1 0,.ptr 2 0],⟨[[.sl r .non,.int .i64 (qi6 r n n2 s r2 s2 r3 k),.int .i64 n2,.bool false,.int .i64 0],[.str s,.sl r2 .full],[.str s2,.sl (qgC r n n2 s r2 s2 r3 k) (.tok 0)]],[((qnb r n n2 s r2 s2 r3 k),5,94)],[76,48,48]⟩)
end
def qjD:List PV→Store→Tr (PExit×List PV×Store)|[.ptr 0 0,.ptr 1 0,.ptr 2 0],⟨[[.sl r .non,.int .i64 n,.int .i64 n2,.bool true,.int .i64 n3],[.str s,.sl r2 .full],[.str s2,.sl r3 (.tok 0)]],[(k,5,94)],[76,48,48]⟩=>.ite (qg5 r n n2 n3 s r2 s2 r3 k) (.ret ((.exit 0),[.ptr 0 0,.ptr 1 0,.ptr 2 0],⟨[[.sl r .non,.int .i64 (qk6 r n n2 n3 s r2 s2 r3 k),.int .i64 n2,.bool true,.int .i64 n3],[.str s,.sl r2 .full],[.str s2,.sl (qih r n n2 n3 s r2 s2 r3 k) (.tok 0)]],[((qB7 r n n2 n3 s r2 s2 r3 k),5,94)],[76,48,48]⟩)) (.fail)|[.ptr 0 0,.ptr 1 0,.ptr 2 0],⟨[[.sl r .non,.int .i64 n,.int .i64 n2,.bool false,.int .i64 0],[.str s,.sl r2 .full],[.str s2,.sl r3 (.tok 0)]],[(k,5,94)],[76,48,48]⟩=>.ite (qn8 r n n2 s r2 s2 r3 k) (.ret ((.exit 0),[.ptr 0 0,.ptr 1 0,.ptr 2 0],⟨[[.sl r .non,.int .i64 (qjr r n n2 s r2 s2 r3 k),.int .i64 n2,.bool true,.int .i64 (qgp r n n2 s r2 s2 r3 k)],[.str s,.sl r2 .full],[.str s2,.sl (qgm r n n2 s r2 s2 r3 k) (.tok 0)]],[((qnX r n n2 s r2 s2 r3 k),5,94)],[76,48,48]⟩)) (.ite (qnd r n n2 s r2 s2 r3 k) (.ret ((.exit 0),[.ptr 0 0,.ptr 1 0,.ptr 2 0],⟨[[.sl r .non,.int .i64 (qi6 r n n2 s r2 s2 r3 k),.int .i64 n2,.bool false,.int .i64 0],[.str s,.sl r2 .full],[.str s2,.sl (qgC r n n2 s r2 s2 r3 k) (.tok 0)]],[((qnb r n n2 s r2 s2 r3 k),5,94)],[76,48,48]⟩)) (.fail))|_,_=>.fail
theorem qNv:∀ vs σ r,(qjD vs σ).run=some r→qbT vs σ=some r:=by
 intro vs σ r h;unfold qjD at h
 split at h
 ·exact qae h fun h=>by cases h
 ·exact qae h fun h=>qae h fun h=>by cases h
 ·cases h
theorem qEv (gl:Gl):∀ fr σ e fr' σ',(orc qpd qjD fr σ).run=some (e,fr',σ')→LDoes Tryz.prog gl qoj fr σ e fr' σ':=qcB qaj (qCO gl ) qai (L:=qo0) (qac (by kernel_rfl)) (by kernel_rfl) qNv
def qBI:LpsT:=fun r fr σ=>bif Nat.beq r 6 then orc qpd qjD fr σ else .fail
section
variable (r:qR) (i n:Int)
def qgN:Tr (PR×Store):=let z1:=qad (qad r);let z2:=qad (qaa z1);let z3:=qi0 z1 i n;let z4:=qaa z2;let z5:=qad z4;let z6:=qcT [40] z2 (qhd z1 i n) n z3;let z7:=qlt z1 i n;let z8:=qk6 z4 z6 n z3 [] [] z7 [] 0;let z9:=qaa (qaa z5);let z10:=qlI z1 i n;let z11:=qfB [40] z2 z10 n;let z12:=qd1 [40] z2 z10 n;let z13:=qlD z1 i n;let z14:PV:=.agg [.str z13,.sl [] .non];let z15:=qk6 z4 z11 n z12 [] [] z13 [] 0;let z16:=qf8 [40] z2 z10 n;let z17:=qjr z4 z16 n [] [] z13 [] 0;let z18:=qgp z4 z16 n [] [] z13 [] 0;let z19:=qi6 z4 z16 n [] [] z13 [] 0;let z20:PV:=.agg [.str z13,.sl (qaa (qgC z4 z16 n [] [] z13 [] 0)) .non];.ite (qqW z1 i n) (.ite (qbI [40] z2 (qhd z1 i n) n z3) (.ite (qbb z5 z6 n z3 6 [41]) (.ite (qbH z5 z6 n z3 6 [41]) (.ret (PR.val (.agg [.str z7,.sl [] .non]),Store.mk [[.sl (qaa z4) .non,.int .i64 (iAdd .i64 z6 1),.int .i64 n,.bool true,.int .i64 z3]] [] [76])) (.ite (qg5 z4 z6 n z3 [] [] z7 [] 0) (.ite (qbI [41] z5 z8 n z3) (.ret (PR.val (.agg [.str z7,.sl (qaa (qih z4 z6 n z3 [] [] z7 [] 0)) .non]),Store.mk [[.sl z9 .non,.int .i64 (qcT [41] z5 z8 n z3),.int .i64 n,.bool true,.int .i64 z3]] [] [76])) .fail) .fail)) .fail) .fail) (.ite (qq1 z1 i n) (.ite (qhY [40] z2 z10 n) (.ite (qbb z5 z11 n z12 6 [41]) (.ite (qbH z5 z11 n z12 6 [41]) (.ret (PR.val z14,Store.mk [[.sl (qaa z4) .non,.int .i64 (iAdd .i64 z11 1),.int .i64 n,.bool true,.int .i64 z12]] [] [76])) (.ite (qg5 z4 z11 n z12 [] [] z13 [] 0) (.ite (qbI [41] z5 z15 n z12) (.ret (PR.val (.agg [.str z13,.sl (qaa (qih z4 z11 n z12 [] [] z13 [] 0)) .non]),Store.mk [[.sl z9 .non,.int .i64 (qcT [41] z5 z15 n z12),.int .i64 n,.bool true,.int .i64 z12]] [] [76])) .fail) .fail)) .fail) (.ite (qhI [40] z2 z10 n) (.ite (qbK z5 z16 n 6 [41]) (.ite (qdh z5 z16 n 6 [41]) (.ret (PR.val z14,Store.mk [[.sl (qaa z4) .non,.int .i64 (iAdd .i64 z16 1),.int .i64 n,.bool false,.int .i64 0]] [] [76])) (.ite (qn8 z4 z16 n [] [] z13 [] 0) (.ite (qbI [41] z5 z17 n z18) (.ret (PR.val (.agg [.str z13,.sl (qaa (qgm z4 z16 n [] [] z13 [] 0)) .non]),Store.mk [[.sl z9 .non,.int .i64 (qcT [41] z5 z17 n z18),.int .i64 n,.bool true,.int .i64 z18]] [] [76])) .fail) (.ite (qnd z4 z16 n [] [] z13 [] 0) (.ite (qhY [41] z5 z19 n) (.ret (PR.val z20,Store.mk [[.sl z9 .non,.int .i64 (qfB [41] z5 z19 n),.int .i64 n,.bool true,.int .i64 (qd1 [41] z5 z19 n)]] [] [76])) (.ite (qhI [41] z5 z19 n) (.ret (PR.val z20,Store.mk [[.sl z9 .non,.int .i64 (qf8 [41] z5 z19 n),.int .i64 n,.bool false,.int .i64 0]] [] [76])) .fail)) .fail))) .fail) .fail)) .fail)
theorem qTL:(nrmM tbT qnm qBI Tryz.f52 [.ptr 0 0] ⟨[[.sl r .non,.int .i64 i,.int .i64 n,.bool false,.int .i64 0]],[],[76]⟩).flat=qgN r i n:=by kernel_rfl
def qcE:Option (PR×Store):=(qgN r i n).run
def qf6:qU:=qbx 0 (qcE r i n)
def qfM:qR:=qet 1 (qcE r i n)
def qf2:Int:=qbY 0 1 (qcE r i n)
def qc8:Int:=qbY 0 4 (qcE r i n)
def qhB:Bool:=isW (qcE r i n) ((.val (.agg [.str (qf6 r i n),.sl (qfM r i n) .non])),⟨[[.sl r .non,.int .i64 (qf2 r i n),.int .i64 n,.bool true,.int .i64 (qc8 r i n)]],[],[76]⟩)
def qei:qU:=qbx 0 (qcE r i n)
def qen:qR:=qet 1 (qcE r i n)
def qfu:Int:=qbY 0 1 (qcE r i n)
def qhK:Bool:=isW (qcE r i n) ((.val (.agg [.str (qei r i n),.sl (qen r i n) .non])),⟨[[.sl r .non,.int .i64 (qfu r i n),.int .i64 n,.bool false,.int .i64 0]],[],[76]⟩)
end
section
variable (r:qR) (i n a:Int)
def qwU:Tr (PR×Store):=let z1:=qad (qad r);let z2:=qad (qaa z1);let z3:=qaa z2;let z4:=qad z3;let z5:=qcT [40] z2 (qj1 z1 i n a) n a;let z6:=qo7 z1 i n a;let z7:=qk6 z3 z5 n a [] [] z6 [] 0;.ite (qnk z1 i n a) (.ite (qbI [40] z2 (qj1 z1 i n a) n a) (.ite (qbb z4 z5 n a 6 [41]) (.ite (qbH z4 z5 n a 6 [41]) (.ret (PR.val (.agg [.str z6,.sl [] .non]),Store.mk [[.sl (qaa z3) .non,.int .i64 (iAdd .i64 z5 1),.int .i64 n,.bool true,.int .i64 a]] [] [76])) (.ite (qg5 z3 z5 n a [] [] z6 [] 0) (.ite (qbI [41] z4 z7 n a) (.ret (PR.val (.agg [.str z6,.sl (qaa (qih z3 z5 n a [] [] z6 [] 0)) .non]),Store.mk [[.sl (qaa (qaa z4)) .non,.int .i64 (qcT [41] z4 z7 n a),.int .i64 n,.bool true,.int .i64 a]] [] [76])) .fail) .fail)) .fail) .fail) .fail
theorem qQf:(nrmM tbT qnm qBI Tryz.f52 [.ptr 0 0] ⟨[[.sl r .non,.int .i64 i,.int .i64 n,.bool true,.int .i64 a]],[],[76]⟩).flat=qwU r i n a:=by kernel_rfl
def qll:Option (PR×Store):=(qwU r i n a).run
def qAM:qU:=qbx 0 (qll r i n a)
def qAN:qR:=qet 1 (qll r i n a)
def qCi:Int:=qbY 0 1 (qll r i n a)
def qyi:Bool:=isW (qll r i n a) ((.val (.agg [.str (qAM r i n a),.sl (qAN r i n a) .non])),⟨[[.sl r .non,.int .i64 (qCi r i n a),.int .i64 n,.bool true,.int .i64 a]],[],[76]⟩)
end
def qxn:List PV→Store→Tr (PR×Store)|[.ptr 0 0],⟨[[.sl r .non,.int .i64 i,.int .i64 n,.bool false,.int .i64 0]],[],[76]⟩=>.ite (qhB r i n) (.ret ((.val (.agg [.str (qf6 r i n),.sl (qfM r i n) .non])),⟨[[.sl r .non,.int .i64 (qf2 r i n),.int .i64 n,.bool true,.int .i64 (qc8 r i n)]],[],[76]⟩)) (.ite (qhK r i n) (.ret ((.val (.agg [.str (qei r i n),.sl (qen r i n) .non])),⟨[[.sl r .non,.int .i64 (qfu r i n),.int .i64 n,.bool false,.int .i64 0]],[],[76]⟩)) (.fail))|[.ptr 0 0],⟨[[.sl r .non,.int .i64 i,.int .i64 n,.bool true,.int .i64 a]],[],[76]⟩=>.ite (qyi r i n a) (.ret ((.val (.agg [.str (qAM r i n a),.sl (qAN r i n a) .non])),⟨[[.sl r .non,.int .i64 (qCi r i n a),.int .i64 n,.bool true,.int .i64 a]],[],[76]⟩)) (.fail)|_,_=>.fail
theorem qwE (gl:Gl):SimM Tryz.prog gl 52 fun args σ=>(qxn args σ).run:=by
 refine SimM.of_nrm (G:=qnm) (L:=qBI) qaj (qCO gl ) qai Tryz.func52 rfl (by rfl) (by kernel_rfl) (qaD (L:=lps qBI) [(6,qoj)] (by kernel_rfl) (List.forall_mem_cons.2 ⟨fun fr σ e fr' σ' h=>qEv gl  fr σ e fr' σ' h,(List.forall_mem_nil _)⟩)) ?_
 intro args σ x h;unfold qxn at h
 split at h
 ·exact (congrArg Tr.run (qTL _ _ _)).trans (qae h fun h=>qae h fun h=>by cases h)
 ·exact (congrArg Tr.run (qQf _ _ _ _)).trans (qae h fun h=>by cases h)
 ·cases h
end Go.Pv
