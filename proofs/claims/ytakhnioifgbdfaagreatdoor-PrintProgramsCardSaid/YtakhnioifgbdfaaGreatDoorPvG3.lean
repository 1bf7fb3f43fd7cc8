/- Part 3 of the proof: pure values for the machine's values, what functions compute over them, and laws of what is computed. Conditions: none beyond each theorem's own premises. -/
import Derived.Test.YtakhnioifgbdfaaGreatDoorPvG2
noncomputable section
set_option maxHeartbeats 4000000
set_option maxRecDepth 200000
set_option linter.unusedSimpArgs false
set_option linter.unusedVariables false
namespace Go.Pv
open Go Go.Proofs Go.RowKit
def numN:qU→Nat→Option Nat
 |[],a=>some a
 |c::l,a=>if 48≤c.toNat∧c.toNat≤57 then numN l (a * 10+(c.toNat - 48)) else none
def qo7 (s:qU):Bool:=(numN s 0).isSome
def numV (s:qU):Int:=(((numN s 0).getD 0:Nat):Int)
theorem qIe:∀ (l:qU) (a k x:Nat),numN l a=some x→a < 10 ^ k→x < 10 ^ (k+l.length)
 |[],a,k,x,h,ha=>by simp [numN] at h;subst h;simpa using ha
 |c::l,a,k,x,h,ha=>by
  unfold numN at h
  split at h
  ·have:=qIe l _ (k+1) x h (by rw [Nat.pow_succ];omega)
   simp only [List.length_cons];have e:k+(l.length+1)=k+1+l.length:=by omega
   rw [e];exact this
  ·cases h
def qDF:List PV→Store→Option (List UInt8×Bool×Int×Int×Store)
 |[.str s,.bool m,.int .u64 n,.int .i64 i],σ=>some (s,m,n,i,σ)
 |_,_=>none
def qLr:qU×Bool×Int×Int×Store→Tr (PExit×List (Nat×PV)×Store)
 |(s,m,n,i,σ)=>Tr.chk (iEq n 0) (Tr.chk (iEq i 0) (Tr.chk (iLe (sLen s) 19) (.ite (qo7 s) (.ret (.exit 0,[(4,.bool m),(5,.int .u64 (numV s))],σ)) (.ret (.ret,[(2,.int .i64 0),(3,.bool false)],σ)))))
def qId:LpsT:=fun r fr σ=>if r=8 then oracle 75 [0,4,5,6] qDF qLr fr σ else .fail
def qBK:Code:=qHI Tryz.f143 0
theorem qGK (gl : Gl) : ∀ vs σ a e out σ', qDF vs σ = some a → (qLr a).run = some (e, out, σ') → LDoes Tryz.prog gl qBK (mk 75 ([0, 4, 5, 6].zip vs)) σ e (mk 75 out) σ' := by
  intro vs st a e out σ' hd hr
  unfold qDF at hd
  split at hd
  · rename_i s m n i
    injection hd with hd
    subst hd
    obtain ⟨h1, q1⟩ := Tr.chk_some hr
    obtain ⟨h2, q2⟩ := Tr.chk_some q1
    obtain ⟨h3, q3⟩ := Tr.chk_some q2
    clear hr q1 q2
    simp at h1 h2 h3
    subst h1 h2
    have key : ∀ (k : Nat) (i : Int) (n : Nat), 0 ≤ i → i + k = s.length → n < 10 ^ i.toNat → numN (s.drop i.toNat) n = numN s 0 →
       LDoes Tryz.prog gl qBK (mk 75 ([0, 4, 5, 6].zip [.str s, .bool m, .int .u64 (n : Int), .int .i64 i])) st e (mk 75 out) σ' := by
      intro k
      induction k with
      | zero =>
        intro i n h0 hi hn hf
        have e1 : s.drop i.toNat = [] := by apply List.drop_eq_nil_of_le; omega
        rw [e1] at hf
        simp [numN] at hf
        simp [qo7, numV, ← hf] at q3
        obtain ⟨rfl, rfl, rfl⟩ := q3
        refine LDoes.round qat (G := ofL []) qag qah (L := fun _ _ _ => .fail) (qae (by kernel_rfl)) (by kernel_rfl) ?_
        refine Tr.all_as (.ite (iLt i (sLen s)) (.ite (qaR s i) (.ite (iLt (sAt s i) 48) (.ret (.ret,[3,2,39,34,27],[.str s,.top,.int .i64 0,.bool false,.bool m,.int .u64 (Int.ofNat n),.int .i64 i,.top,.top,.top,.top,.top,.top,.top,.top,.top,.top,.top,.top,.top,.top,.top,.top,.top,.int .i64 i,.str s,.int .i64 (sLen s),.bool true,.top,.top,.str s,.int .i64 i,.int .u8 (sAt s i),.bool (iLt (sAt s i) 48),.bool true,.tup [],.tup [],.tup [],.tup [],.bool true,.top,.top,.top,.top,.top,.top,.top,.top,.top,.top,.top,.top,.top,.top,.top,.top,.top,.top,.top,.top,.top,.top,.top,.top,.top,.top,.top,.top,.top,.top,.top,.top,.top,.top,.top],st)) (.ite (qaR s i) (.ite (iLt 57 (sAt s i)) (.ret (.ret,[3,2,39,34,27],[.str s,.top,.int .i64 0,.bool false,.bool m,.int .u64 (Int.ofNat n),.int .i64 i,.top,.top,.top,.top,.top,.top,.top,.top,.top,.top,.top,.top,.top,.top,.top,.top,.top,.int .i64 i,.str s,.int .i64 (sLen s),.bool true,.top,.top,.str s,.int .i64 i,.int .u8 (sAt s i),.bool (iLt (sAt s i) 48),.bool false,.str s,.int .i64 i,.int .u8 (sAt s i),.bool (iLt 57 (sAt s i)),.bool true,.top,.top,.top,.top,.top,.top,.top,.top,.top,.top,.top,.top,.top,.top,.top,.top,.top,.top,.top,.top,.top,.top,.top,.top,.top,.top,.top,.top,.top,.top,.top,.top,.top,.top,.top],st)) (.ite (qaR s i) (.ret (.normal,[39,34,27],[.str s,.top,.top,.top,.bool m,.int .u64 (iAdd .u64 (iMul .u64 (Int.ofNat n) 10) (qa2 .u64 (iSub .u8 (sAt s i) 48))),.int .i64 (iAdd .i64 i
          1),.top,.top,.top,.top,.top,.top,.top,.top,.top,.top,.top,.top,.top,.top,.top,.top,.top,.int .i64 i,.str s,.int .i64 (sLen s),.bool true,.int .i64 i,.int .i64 (iAdd .i64 i 1),.str s,.int .i64 i,.int .u8 (sAt s i),.bool (iLt (sAt s i) 48),.bool false,.str s,.int .i64 i,.int .u8 (sAt s i),.bool (iLt 57 (sAt s i)),.bool false,.int .u64 (Int.ofNat n),.int .u64 (iMul .u64 (Int.ofNat n) 10),.str s,.int .i64 i,.int .u8 (sAt s i),.int .u8 (iSub .u8 (sAt s i) 48),.int .u64 (qa2 .u64 (iSub .u8 (sAt s i) 48)),.int .u64 (iAdd .u64 (iMul .u64 (Int.ofNat n) 10) (qa2 .u64 (iSub .u8 (sAt s i) 48))),.top,.top,.top,.top,.top,.top,.top,.top,.top,.top,.top,.top,.top,.top,.top,.top,.top,.top,.top,.top,.top,.top,.top,.top,.top,.top,.top],st)) .fail)) .fail)) .fail) (.ret (.exit 0,[27],[.str s,.top,.top,.top,.bool m,.int .u64 (Int.ofNat n),.int .i64 i,.top,.top,.top,.top,.top,.top,.top,.top,.top,.top,.top,.top,.top,.top,.top,.top,.top,.int .i64 i,.str s,.int .i64 (sLen s),.bool false,.top,.top,.top,.top,.top,.top,.top,.top,.top,.top,.top,.top,.top,.top,.top,.top,.top,.top,.top,.top,.top,.top,.top,.top,.top,.top,.top,.top,.top,.top,.top,.top,.top,.top,.top,.top,.top,.top,.top,.top,.top,.top,.top,.top,.top,.top,.top],st))) (by kernel_rfl) ?_
        exact Tr.all_f (by simp; omega) ⟨rfl, by simp [Weak, mk, qdm, look], rfl⟩
      | succ k ih =>
        intro i n h0 hi hn hf
        obtain ⟨v, hv⟩ := qgH (l := s) (i := i.toNat) (by omega)
        rw [qbP hv, numN] at hf
        have hv8 := v.toNat_lt
        have e2 : (i + 1).toNat = i.toNat + 1 := by omega
        have hpow : 10 ^ (i.toNat + 1) ≤ 10 ^ 19 := Nat.pow_le_pow_right (by omega) (by omega)
        rw [Nat.pow_succ] at hpow
        refine LDoes.round qat (G := ofL []) qag qah (L := fun _ _ _ => .fail) (qae (by kernel_rfl)) (by kernel_rfl) ?_
        refine Tr.all_as (.ite (iLt i (sLen s)) (.ite (qaR s i) (.ite (iLt (sAt s i) 48) (.ret (.ret,[3,2,39,34,27],[.str s,.top,.int .i64 0,.bool false,.bool m,.int .u64 (Int.ofNat n),.int .i64 i,.top,.top,.top,.top,.top,.top,.top,.top,.top,.top,.top,.top,.top,.top,.top,.top,.top,.int .i64 i,.str s,.int .i64 (sLen s),.bool true,.top,.top,.str s,.int .i64 i,.int .u8 (sAt s i),.bool (iLt (sAt s i) 48),.bool true,.tup [],.tup [],.tup [],.tup [],.bool true,.top,.top,.top,.top,.top,.top,.top,.top,.top,.top,.top,.top,.top,.top,.top,.top,.top,.top,.top,.top,.top,.top,.top,.top,.top,.top,.top,.top,.top,.top,.top,.top,.top,.top,.top],st)) (.ite (qaR s i) (.ite (iLt 57 (sAt s i)) (.ret (.ret,[3,2,39,34,27],[.str s,.top,.int .i64 0,.bool false,.bool m,.int .u64 (Int.ofNat n),.int .i64 i,.top,.top,.top,.top,.top,.top,.top,.top,.top,.top,.top,.top,.top,.top,.top,.top,.top,.int .i64 i,.str s,.int .i64 (sLen s),.bool true,.top,.top,.str s,.int .i64 i,.int .u8 (sAt s i),.bool (iLt (sAt s i) 48),.bool false,.str s,.int .i64 i,.int .u8 (sAt s i),.bool (iLt 57 (sAt s i)),.bool true,.top,.top,.top,.top,.top,.top,.top,.top,.top,.top,.top,.top,.top,.top,.top,.top,.top,.top,.top,.top,.top,.top,.top,.top,.top,.top,.top,.top,.top,.top,.top,.top,.top,.top,.top],st)) (.ite (qaR s i) (.ret (.normal,[39,34,27],[.str s,.top,.top,.top,.bool m,.int .u64 (iAdd .u64 (iMul .u64 (Int.ofNat n) 10) (qa2 .u64 (iSub .u8 (sAt s i) 48))),.int .i64 (iAdd .i64 i
          1),.top,.top,.top,.top,.top,.top,.top,.top,.top,.top,.top,.top,.top,.top,.top,.top,.top,.int .i64 i,.str s,.int .i64 (sLen s),.bool true,.int .i64 i,.int .i64 (iAdd .i64 i 1),.str s,.int .i64 i,.int .u8 (sAt s i),.bool (iLt (sAt s i) 48),.bool false,.str s,.int .i64 i,.int .u8 (sAt s i),.bool (iLt 57 (sAt s i)),.bool false,.int .u64 (Int.ofNat n),.int .u64 (iMul .u64 (Int.ofNat n) 10),.str s,.int .i64 i,.int .u8 (sAt s i),.int .u8 (iSub .u8 (sAt s i) 48),.int .u64 (qa2 .u64 (iSub .u8 (sAt s i) 48)),.int .u64 (iAdd .u64 (iMul .u64 (Int.ofNat n) 10) (qa2 .u64 (iSub .u8 (sAt s i) 48))),.top,.top,.top,.top,.top,.top,.top,.top,.top,.top,.top,.top,.top,.top,.top,.top,.top,.top,.top,.top,.top,.top,.top,.top,.top,.top,.top],st)) .fail)) .fail)) .fail) (.ret (.exit 0,[27],[.str s,.top,.top,.top,.bool m,.int .u64 (Int.ofNat n),.int .i64 i,.top,.top,.top,.top,.top,.top,.top,.top,.top,.top,.top,.top,.top,.top,.top,.top,.top,.int .i64 i,.str s,.int .i64 (sLen s),.bool false,.top,.top,.top,.top,.top,.top,.top,.top,.top,.top,.top,.top,.top,.top,.top,.top,.top,.top,.top,.top,.top,.top,.top,.top,.top,.top,.top,.top,.top,.top,.top,.top,.top,.top,.top,.top,.top,.top,.top,.top,.top,.top,.top,.top,.top,.top,.top],st))) (by kernel_rfl) ?_
        rw [qhR hv]
        have hi1 := qfA h0 hv
        refine Tr.all_t (by simp; omega) <| Tr.all_t hi1 ?_
        by_cases hc : 48 ≤ v.toNat ∧ v.toNat ≤ 57
        · rw [if_pos hc] at hf
          have w1 : iSub .u8 (v.toNat : Int) 48 = v.toNat - 48 := by unfold iSub; rw [qzd (by omega)]
          have w2 : qa2 .u64 (v.toNat - 48 : Int) = v.toNat - 48 := qgf (by omega)
          have w3 : iMul .u64 (Int.ofNat n) 10 = n * 10 := by unfold iMul; rw [qgf (by simp; omega)]; rfl
          have w4 : iAdd .u64 (n * 10 : Int) (v.toNat - 48) = n * 10 + (v.toNat - 48) := by unfold iAdd; rw [qgf (by omega)]
          have w5 : iAdd .i64 i 1 = i + 1 := qbD (by omega)
          have w6 : ((n * 10 + (v.toNat - 48) : Nat) : Int) = (n : Int) * 10 + (v.toNat - 48) := by omega
          refine Tr.all_f (by simp; omega) <| Tr.all_t hi1 <| Tr.all_f (by simp; omega) <| Tr.all_t hi1 ?_
          rw [w1, w2, w3, w4, w5]
          refine LDoes.into ?_ (ih (i + 1) (n * 10 + (v.toNat - 48)) (by omega) (by omega) (by rw [e2, Nat.pow_succ]; omega) (by rw [e2]; exact hf))
          rw [w6]
          simp [Weak, mk, qdm, look]
        · rw [if_neg hc] at hf
          simp [qo7, numV, ← hf] at q3
          obtain ⟨rfl, rfl, rfl⟩ := q3
          by_cases hc1 : v.toNat < 48
          · exact Tr.all_t (by simp; omega) ⟨rfl, by simp [Weak, mk, qdm, look], rfl⟩
          · refine Tr.all_f (by simp; omega) <| Tr.all_t hi1 <| Tr.all_t (by simp; omega) ⟨rfl, by simp [Weak, mk, qdm, look], rfl⟩
    exact key s.length 0 0 (by omega) (by omega) (by simp) (by simp)
  · cases hd
def whoN (m:Bool) (t:qU):Option Int :=
 if t=[]∨19 < t.length then none
 else match numN t 0 with
  |none=>none
  |some n=>if (m=true∧9223372036854775808 < n)∨(m=false∧9223372036854775807 < n) then none else some (if m then -(n:Int) else n)
def whoO (s:qU):Option Int:=if s.head?=some 45 then whoN true (s.drop 1) else whoN false s
def qjy (s:qU):Bool:=(whoO s).isSome
def whoV (s:qU):Int:=(whoO s).getD 0
def qDl:List PV→Tr PV
 |[.str s]=>Tr.chk (qnS s) (.ret (.tup [.int .i64 (whoV s),.bool (qjy s)]))
 |_=>.fail
theorem qH7 (gl:Gl):SimP Tryz.prog gl 143 fun args=>(qDl args).run:=by
 refine SimP.of_tree (G:=ofL []) (L:=qId) qat qag qah Tryz.func143 rfl (by rfl) (by kernel_rfl) (qi3 (r:=8) (c1:=qBK) (by kernel_rfl) ?_) ?_
 ·intro fr σ e fr' σ' hh;simp only [lps,qId,if_true] at hh;exact qld (qGK gl) fr σ e fr' σ' hh
 intro args x h hr;unfold qDl at h
 split at h
 ·rename_i s;obtain⟨h1,h2⟩:=Tr.chk_some h;simp at h1;cases h2
  refine Tr.run_as (.ite (sNe s []) (.ite (qaR s 0) (.ite (iEq (sAt s 0) 45) (.ite (qaQ (qav 1) true (nNat 1) (nLen s) (nLen s)) (.ite (sEq (sSub s (nNat 1) (nLen s)) []) (.ret (.tup [.int .i64 0,.bool false])) (.ite (iLt 19 (sLen (sSub s (nNat 1) (nLen s)))) (.ret (.tup [.int .i64 0,.bool false])) (.ite (iEq 0 0) (.ite (iEq 0 0) (.ite (iLe (sLen (sSub s (nNat 1) (nLen s))) 19) (.ite (qo7 (sSub s (nNat 1) (nLen s))) (.ite (iEq (sAt s 0) 45) (.ite (iLt 9223372036854775808 (numV (sSub s (nNat 1) (nLen s)))) (.ret (.tup [.int .i64 0,.bool false])) (.ite (bNot (iEq (sAt s 0) 45)) (.ite (iLt 9223372036854775807 (numV (sSub s (nNat 1) (nLen s)))) (.ret (.tup [.int .i64 0,.bool false])) (.ite (iEq (sAt s 0) 45) (.ite (iLt 0 (numV (sSub s (nNat 1) (nLen s)))) (.ret (.tup [.int .i64 (iSub .i64 (iSub .i64 0 (qa2 .i64 (iSub .u64 (numV (sSub s (nNat 1) (nLen s))) 1))) 1),.bool true])) (.ret (.tup [.int .i64 (qa2 .i64 (numV (sSub s (nNat 1) (nLen s)))),.bool true]))) (.ret (.tup [.int .i64 (qa2 .i64 (numV (sSub s (nNat 1) (nLen s)))),.bool true])))) (.ite (iEq (sAt s 0) 45) (.ite (iLt 0 (numV (sSub s (nNat 1) (nLen s)))) (.ret (.tup [.int .i64 (iSub .i64 (iSub .i64 0 (qa2 .i64 (iSub .u64 (numV (sSub s (nNat 1) (nLen s))) 1))) 1),.bool true])) (.ret (.tup [.int .i64 (qa2 .i64 (numV (sSub s (nNat 1) (nLen s)))),.bool true]))) (.ret (.tup [.int .i64 (qa2 .i64 (numV (sSub s (nNat 1) (nLen s)))),.bool true]))))) (.ite (bNot (iEq (sAt s 0) 45)) (.ite (iLt 9223372036854775807 (numV (sSub s (nNat
   1) (nLen s)))) (.ret (.tup [.int .i64 0,.bool false])) (.ite (iEq (sAt s 0) 45) (.ite (iLt 0 (numV (sSub s (nNat 1) (nLen s)))) (.ret (.tup [.int .i64 (iSub .i64 (iSub .i64 0 (qa2 .i64 (iSub .u64 (numV (sSub s (nNat 1) (nLen s))) 1))) 1),.bool true])) (.ret (.tup [.int .i64 (qa2 .i64 (numV (sSub s (nNat 1) (nLen s)))),.bool true]))) (.ret (.tup [.int .i64 (qa2 .i64 (numV (sSub s (nNat 1) (nLen s)))),.bool true])))) (.ite (iEq (sAt s 0) 45) (.ite (iLt 0 (numV (sSub s (nNat 1) (nLen s)))) (.ret (.tup [.int .i64 (iSub .i64 (iSub .i64 0 (qa2 .i64 (iSub .u64 (numV (sSub s (nNat 1) (nLen s))) 1))) 1),.bool true])) (.ret (.tup [.int .i64 (qa2 .i64 (numV (sSub s (nNat 1) (nLen s)))),.bool true]))) (.ret (.tup [.int .i64 (qa2 .i64 (numV (sSub s (nNat 1) (nLen s)))),.bool true]))))) (.ret (.tup [.int .i64 0,.bool false]))) .fail) .fail) .fail))) .fail) (.ite (sEq s []) (.ret (.tup [.int .i64 0,.bool false])) (.ite (iLt 19 (sLen s)) (.ret (.tup [.int .i64 0,.bool false])) (.ite (iEq 0 0) (.ite (iEq 0 0) (.ite (iLe (sLen s) 19) (.ite (qo7 s) (.ite (iEq (sAt s 0) 45) (.ite (iLt 9223372036854775808 (numV s)) (.ret (.tup [.int .i64 0,.bool false])) (.ite (bNot (iEq (sAt s 0) 45)) (.ite (iLt 9223372036854775807 (numV s)) (.ret (.tup [.int .i64 0,.bool false])) (.ite (iEq (sAt s 0) 45) (.ite (iLt 0 (numV s)) (.ret (.tup [.int .i64 (iSub .i64 (iSub .i64 0 (qa2 .i64 (iSub .u64 (numV s) 1))) 1),.bool true])) (.ret (.tup [.int .i64 (qa2 .i64 (numV s)),.bool true]))) (.ret (.tup
   [.int .i64 (qa2 .i64 (numV s)),.bool true])))) (.ite (iEq (sAt s 0) 45) (.ite (iLt 0 (numV s)) (.ret (.tup [.int .i64 (iSub .i64 (iSub .i64 0 (qa2 .i64 (iSub .u64 (numV s) 1))) 1),.bool true])) (.ret (.tup [.int .i64 (qa2 .i64 (numV s)),.bool true]))) (.ret (.tup [.int .i64 (qa2 .i64 (numV s)),.bool true]))))) (.ite (bNot (iEq (sAt s 0) 45)) (.ite (iLt 9223372036854775807 (numV s)) (.ret (.tup [.int .i64 0,.bool false])) (.ite (iEq (sAt s 0) 45) (.ite (iLt 0 (numV s)) (.ret (.tup [.int .i64 (iSub .i64 (iSub .i64 0 (qa2 .i64 (iSub .u64 (numV s) 1))) 1),.bool true])) (.ret (.tup [.int .i64 (qa2 .i64 (numV s)),.bool true]))) (.ret (.tup [.int .i64 (qa2 .i64 (numV s)),.bool true])))) (.ite (iEq (sAt s 0) 45) (.ite (iLt 0 (numV s)) (.ret (.tup [.int .i64 (iSub .i64 (iSub .i64 0 (qa2 .i64 (iSub .u64 (numV s) 1))) 1),.bool true])) (.ret (.tup [.int .i64 (qa2 .i64 (numV s)),.bool true]))) (.ret (.tup [.int .i64 (qa2 .i64 (numV s)),.bool true]))))) (.ret (.tup [.int .i64 0,.bool false]))) .fail) .fail) .fail)))) .fail) (.ite (sEq s []) (.ret (.tup [.int .i64 0,.bool false])) (.ite (iLt 19 (sLen s)) (.ret (.tup [.int .i64 0,.bool false])) (.ite (iEq 0 0) (.ite (iEq 0 0) (.ite (iLe (sLen s) 19) (.ite (qo7 s) (.ite false (.ite (iLt 9223372036854775808 (numV s)) (.ret (.tup [.int .i64 0,.bool false])) (.ite true (.ite (iLt 9223372036854775807 (numV s)) (.ret (.tup [.int .i64 0,.bool false])) (.ite false (.ite (iLt 0 (numV s)) (.ret (.tup [.int .i64 (iSub .i64 (iSub
   .i64 0 (qa2 .i64 (iSub .u64 (numV s) 1))) 1),.bool true])) (.ret (.tup [.int .i64 (qa2 .i64 (numV s)),.bool true]))) (.ret (.tup [.int .i64 (qa2 .i64 (numV s)),.bool true])))) (.ite false (.ite (iLt 0 (numV s)) (.ret (.tup [.int .i64 (iSub .i64 (iSub .i64 0 (qa2 .i64 (iSub .u64 (numV s) 1))) 1),.bool true])) (.ret (.tup [.int .i64 (qa2 .i64 (numV s)),.bool true]))) (.ret (.tup [.int .i64 (qa2 .i64 (numV s)),.bool true]))))) (.ite true (.ite (iLt 9223372036854775807 (numV s)) (.ret (.tup [.int .i64 0,.bool false])) (.ite false (.ite (iLt 0 (numV s)) (.ret (.tup [.int .i64 (iSub .i64 (iSub .i64 0 (qa2 .i64 (iSub .u64 (numV s) 1))) 1),.bool true])) (.ret (.tup [.int .i64 (qa2 .i64 (numV s)),.bool true]))) (.ret (.tup [.int .i64 (qa2 .i64 (numV s)),.bool true])))) (.ite false (.ite (iLt 0 (numV s)) (.ret (.tup [.int .i64 (iSub .i64 (iSub .i64 0 (qa2 .i64 (iSub .u64 (numV s) 1))) 1),.bool true])) (.ret (.tup [.int .i64 (qa2 .i64 (numV s)),.bool true]))) (.ret (.tup [.int .i64 (qa2 .i64 (numV s)),.bool true]))))) (.ret (.tup [.int .i64 0,.bool false]))) .fail) .fail) .fail)))) (by kernel_rfl) ?_
  have hnum:∀ t:qU,t.length≤19→∀ n,numN t 0=some n→n < 10000000000000000000:=by
   intro t ht n hn;have h2:=qIe t 0 0 n hn (by simp)
   have h3:10 ^ (0+t.length)≤10 ^ 19:=Nat.pow_le_pow_right (by omega) (by omega)
   have:(10:Nat) ^ 19=10000000000000000000:=by decide
   omega
  cases s with
  |nil=>simp [qjy,whoV,whoO,whoN]
  |cons c t =>
   have e1:sSub (c::t) (nNat 1) (nLen (c::t))=t:=by simp
   have i0:qaR (c::t) 0=true:=by simp
   have i1:qaQ (qav 1) true (nNat 1) (nLen (c::t)) (nLen (c::t))=true:=by simp
   have n0:sNe (c::t) []=true:=by simp
   have n1:sEq (c::t) []=false:=by simp
   have e0:sAt (c::t) 0=c.toNat:=by simp
   rw [i0,n0,n1,i1,e0,e1];by_cases hc:c=45
   ·have hb:iEq (c.toNat:Int) 45=true:=qjl (k:=45) hc;have hw:whoO (c::t)=whoN true t:=by simp [whoO,hc]
    rw [hb];by_cases ht:t=[]
    ·subst ht;simp [qjy,whoV,hw,whoN]
    ·by_cases hl:19 < t.length
     ·have l1:iLt 19 (sLen t)=true:=by simp;omega
      have l0:sEq t []=false:=by simp [ht]
      rw [l0,l1];simp [qjy,whoV,hw,whoN,ht,hl]
     ·have l1:iLt 19 (sLen t)=false:=by simp;omega
      have l0:sEq t []=false:=by simp [ht]
      have l2:iLe (sLen t) 19=true:=by simp;omega
      rw [l0,l1,l2];cases hn:numN t 0 with
      |none =>
       have k1:qo7 t=false:=by simp [qo7,hn]
       rw [k1];simp [qjy,whoV,hw,whoN,ht,hl,hn]
      |some n =>
       have hb:=hnum t (by omega) n hn
       have k1:qo7 t=true:=by simp [qo7,hn]
       have k2:numV t=n:=by simp [numV,hn]
       rw [k1,k2];by_cases b1:9223372036854775808 < n
       ·have b2:iLt 9223372036854775808 (n:Int)=true:=by simp;omega
        rw [b2];simp [qjy,whoV,hw,whoN,ht,hl,hn,b1]
       ·have b2:iLt 9223372036854775808 (n:Int)=false:=by simp;omega
        rw [b2];have o1:qjy (c::t)=true:=by simp [qjy,hw,whoN,ht,hl,hn,b1]
        have o2:whoV (c::t)=-(n:Int):=by simp [whoV,hw,whoN,ht,hl,hn,b1]
        by_cases b3:0 < n
        ·have b4:iLt 0 (n:Int)=true:=by simp;omega
         have w1:iSub .u64 (n:Int) 1=n - 1:=qgf (by omega)
         have w2:qa2 .i64 ((n:Int) - 1)=n - 1:=qbD (by omega)
         have w3:iSub .i64 0 ((n:Int) - 1)=-(n - 1):=by unfold iSub;rw [qbD (by omega)];omega
         have w4:iSub .i64 (-((n:Int) - 1)) 1=-n:=by unfold iSub;rw [qbD (by omega)];omega
         rw [b4,w1,w2,w3,w4,o1,o2];simp
        ·have b4:iLt 0 (n:Int)=false:=by simp;omega
         have:n=0:=by omega
         subst this;rw [b4,o1,o2];have w5:qa2 .i64 ((0:Nat):Int)=0:=by decide
         rw [w5];simp
   ·have hb:iEq (c.toNat:Int) 45=false:=qf8 (k:=45) hc;have hw:whoO (c::t)=whoN false (c::t):=by simp [whoO,hc]
    rw [hb];generalize hs:c::t=s at *;have ht:s≠[]:=by rw [← hs];simp
    by_cases hl:19 < s.length
    ·have l1:iLt 19 (sLen s)=true:=by simp;omega
     rw [l1];simp [qjy,whoV,hw,whoN,ht,hl]
    ·have l1:iLt 19 (sLen s)=false:=by simp;omega
     have l2:iLe (sLen s) 19=true:=by simp;omega
     rw [l1,l2];cases hn:numN s 0 with
     |none =>
      have k1:qo7 s=false:=by simp [qo7,hn]
      rw [k1];simp [qjy,whoV,hw,whoN,ht,hl,hn]
     |some n =>
      have hb:=hnum s (by omega) n hn
      have k1:qo7 s=true:=by simp [qo7,hn]
      have k2:numV s=n:=by simp [numV,hn]
      rw [k1,k2];by_cases b1:9223372036854775807 < n
      ·have b2:iLt 9223372036854775807 (n:Int)=true:=by simp;omega
       rw [b2];simp [qjy,whoV,hw,whoN,ht,hl,hn,b1]
      ·have b2:iLt 9223372036854775807 (n:Int)=false:=by simp;omega
       have o1:qjy s=true:=by simp [qjy,hw,whoN,ht,hl,hn,b1]
       have o2:whoV s=(n:Int):=by simp [whoV,hw,whoN,ht,hl,hn,b1]
       have w2:qa2 .i64 (n:Int)=n:=qbD (by omega)
       rw [b2,w2,o1,o2];simp
 ·cases h
end Go.Pv
set_option maxHeartbeats 4000000
set_option maxRecDepth 200000
set_option linter.unusedSimpArgs false
set_option linter.unusedVariables false
namespace Go.Pv
open Go Go.Proofs
def qJX:GamT:=ofL [(162,.pure qJh),(qdX,.hint [(4,0,1,5)])]
theorem qJs (gl:Gl):qaU Tryz.prog gl (gam qJX):=(qac (qMA gl) (qbv (K:=.hint [(4,0,1,5)]) trivial qag))
def qFA:Code:=qdT Tryz.f144 5
def qEn:LI:=⟨128,[0,4,5],fun e=>match e with|.ret=>[2,3]|.exit 0=>[0,4,5]|_=>[],true⟩
def qB2:LpsT:=fun r fr σ=>.fail
def qk8 (vs:List PV) (σ:Store):Option (PExit×List PV×Store):=lval (lstep tbT qJX qB2 qFA qEn) vs σ
def qu2 (s:qU) (r:qR) (n:Int) (k:Nat):Tr LR:=.ite (iLt n (sLen s)) (.ite (qaR s n) (.ite (iNe (sAt s n) 34) (.ite (qaR s n) (.ite (iNe (sAt s n) 92) (.ite (qaR s n) (.ite (qaI r [[.int .u8 (sAt s n)]] 1) (.ite (qaH [[.int .u8 (sAt s n)]] 1) (.ite (qaB r 1) (.ite (nEq k (nXs r)) (.ret (.next [.str s,.sl (xApp r [[.int .u8 (sAt s n)]]) (.tok 0),.int .i64 (iAdd .i64 n 1)] (Store.mk [] [(nXs (xApp r [[.int .u8 (sAt s n)]]),1,5)] []))) .fail) .fail) .fail) .fail) .fail) (.ite (iLe (sLen s) (iAdd .i64 n 1)) (.ret (.out .ret [.str [],.bool false] (Store.mk [] [(k,1,5)] []))) (.ite (qaR s (iAdd .i64 n 1)) (.ite (iEq (sAt s (iAdd .i64 n 1)) 110) (.ite (qaI r [[.int .u8 10]] 1) (.ite (qaH [[.int .u8 10]] 1) (.ite (qaB r 1) (.ite (nEq k (nXs r)) (.ret (.next [.str s,.sl (xApp r [[.int .u8 10]]) (.tok 0),.int .i64 (iAdd .i64 n 2)] (Store.mk [] [(nXs (xApp r [[.int .u8 10]]),1,5)] []))) .fail) .fail) .fail) .fail) (.ite (qaR s (iAdd .i64 n 1)) (.ite (iEq (sAt s (iAdd .i64 n 1)) 116) (.ite (qaI r [[.int .u8 9]] 1) (.ite (qaH [[.int .u8 9]] 1) (.ite (qaB r 1) (.ite (nEq k (nXs r)) (.ret (.next [.str s,.sl (xApp r [[.int .u8 9]]) (.tok 0),.int .i64 (iAdd .i64 n 2)] (Store.mk [] [(nXs (xApp r [[.int .u8 9]]),1,5)] []))) .fail) .fail) .fail) .fail) (.ite (qaR s (iAdd .i64 n 1)) (.ite (iEq (sAt s (iAdd .i64 n 1)) 120) (.ite (iLt (iAdd .i64 n 3) (sLen s)) (.ite (qaR s (iAdd .i64 n 2)) (.ite (iLe 0 (qdt (sAt s (iAdd .i64 n 2)))) (.ite (qaR s (iAdd .i64 n 3)) (.ite (iLe 0 (qdt (sAt s (iAdd .i64 n 3)))) (.ite (qaR s (iAdd .i64 n 2)) (.ite (qaR s (iAdd .i64 n 3)) (.ite (qaI r [[.int .u8 (qa2 .u8 (iAdd .i64 (iMul .i64 (qdt (sAt s (iAdd .i64 n 2))) 16) (qdt (sAt s (iAdd .i64 n 3)))))]] 1) (.ite (qaH [[.int .u8 (qa2 .u8 (iAdd .i64 (iMul .i64 (qdt (sAt s (iAdd .i64 n 2))) 16) (qdt (sAt s (iAdd .i64 n 3)))))]] 1) (.ite (qaB r 1) (.ite (nEq k (nXs r)) (.ret (.next [.str s,.sl
 (xApp r [[.int .u8 (qa2 .u8 (iAdd .i64 (iMul .i64 (qdt (sAt s (iAdd .i64 n 2))) 16) (qdt (sAt s (iAdd .i64 n 3)))))]]) (.tok 0),.int .i64 (iAdd .i64 n 4)] (Store.mk [] [(nXs (xApp r [[.int .u8 (qa2 .u8 (iAdd .i64 (iMul .i64 (qdt (sAt s (iAdd .i64 n 2))) 16) (qdt (sAt s (iAdd .i64 n 3)))))]]),1,5)] []))) .fail) .fail) .fail) .fail) .fail) .fail) (.ite (qaR s (iAdd .i64 n 1)) (.ite (qaI r [[.int .u8 (sAt s (iAdd .i64 n 1))]] 1) (.ite (qaH [[.int .u8 (sAt s (iAdd .i64 n 1))]] 1) (.ite (qaB r 1) (.ite (nEq k (nXs r)) (.ret (.next [.str s,.sl (xApp r [[.int .u8 (sAt s (iAdd .i64 n 1))]]) (.tok 0),.int .i64 (iAdd .i64 n 2)] (Store.mk [] [(nXs (xApp r [[.int .u8 (sAt s (iAdd .i64 n 1))]]),1,5)] []))) .fail) .fail) .fail) .fail) .fail)) .fail) (.ite (qaR s (iAdd .i64 n 1)) (.ite (qaI r [[.int .u8 (sAt s (iAdd .i64 n 1))]] 1) (.ite (qaH [[.int .u8 (sAt s (iAdd .i64 n 1))]] 1) (.ite (qaB r 1) (.ite (nEq k (nXs r)) (.ret (.next [.str s,.sl (xApp r [[.int .u8 (sAt s (iAdd .i64 n 1))]]) (.tok 0),.int .i64 (iAdd .i64 n 2)] (Store.mk [] [(nXs (xApp r [[.int .u8 (sAt s (iAdd .i64 n 1))]]),1,5)] []))) .fail) .fail) .fail) .fail) .fail)) .fail) (.ite (qaR s (iAdd .i64 n 1)) (.ite (qaI r [[.int .u8 (sAt s (iAdd .i64 n 1))]] 1) (.ite (qaH [[.int .u8 (sAt s (iAdd .i64 n 1))]] 1) (.ite (qaB r 1) (.ite (nEq k (nXs r)) (.ret (.next [.str s,.sl (xApp r [[.int .u8 (sAt s (iAdd .i64 n 1))]]) (.tok 0),.int .i64 (iAdd .i64 n 2)] (Store.mk [] [(nXs (xApp r [[.int .u8 (sAt s (iAdd .i64 n 1))]]),1,5)] []))) .fail) .fail) .fail) .fail) .fail)) (.ite (qaR s (iAdd .i64 n 1)) (.ite (qaI r [[.int .u8 (sAt s (iAdd .i64 n 1))]] 1) (.ite (qaH [[.int .u8 (sAt s (iAdd .i64 n 1))]] 1) (.ite (qaB r 1) (.ite (nEq k (nXs r)) (.ret (.next [.str s,.sl (xApp r [[.int .u8 (sAt s (iAdd .i64 n 1))]]) (.tok 0),.int .i64 (iAdd .i64 n 2)] (Store.mk [] [(nXs (xApp r [[.int .u8 (sAt s (iAdd .i64 n 1))]]),1,5)] []))) .fail) .fail) .fail) .fail) .fail)) .fail))
 .fail)) .fail))) .fail) (.ret (.out (.exit 0) [.str s,.sl r (.tok 0),.int .i64 n] (Store.mk [] [(k,1,5)] [])))) .fail) (.ret (.out (.exit 0) [.str s,.sl r (.tok 0),.int .i64 n] (Store.mk [] [(k,1,5)] [])))
theorem qTF (s:qU) (r:qR) (n:Int) (k:Nat):lstep tbT qJX qB2 qFA qEn [.str s,.sl r (.tok 0),.int .i64 n] ⟨[],[(k,1,5)],[]⟩=qu2 s r n k:=by kernel_rfl
theorem qOD (s:qU) (r:qR) (n:Int) (k:Nat):qk8 [.str s,.sl r (.tok 0),.int .i64 n] ⟨[],[(k,1,5)],[]⟩=lnext qk8 (qu2 s r n k).run:=by unfold qk8;rw [qbu,qTF]
def qkF (s:qU) (r:qR) (n:Int) (k:Nat):Option (PExit×List PV×Store):=qk8 [.str s,.sl r (.tok 0),.int .i64 n] ⟨[],[(k,1,5)],[]⟩
def qlM (s:qU) (r:qR) (n:Int) (k:Nat):List UInt8:=(gStr (gOut (qkF s r n k) 0))
def qmg (s:qU) (r:qR) (n:Int) (k:Nat):Bool:=(qcb (gOut (qkF s r n k) 1))
def qzp (s:qU) (r:qR) (n:Int) (k:Nat):Nat:=(gTok (qkF s r n k) 0)
def qon (s:qU) (r:qR) (n:Int) (k:Nat):Bool:=isW (qkF s r n k) (.ret,[.str (qlM s r n k),.bool (qmg s r n k)],⟨[],[((qzp s r n k),1,5)],[]⟩)
def qlL (s:qU) (r:qR) (n:Int) (k:Nat):List UInt8:=(gStr (gOut (qkF s r n k) 0))
def qkc (s:qU) (r:qR) (n:Int) (k:Nat):List (List PV):=(gRow (gOut (qkF s r n k) 1))
def qmi (s:qU) (r:qR) (n:Int) (k:Nat):Int:=(gInt (gOut (qkF s r n k) 2))
def qzq (s:qU) (r:qR) (n:Int) (k:Nat):Nat:=(gTok (qkF s r n k) 0)
def qrU (s:qU) (r:qR) (n:Int) (k:Nat):Bool:=isW (qkF s r n k) ((.exit 0),[.str (qlL s r n k),.sl (qkc s r n k) (.tok 0),.int .i64 (qmi s r n k)],⟨[],[((qzq s r n k),1,5)],[]⟩)
def qoB:List PV→Store→Tr (PExit×List PV×Store)|[.str s,.sl r (.tok 0),.int .i64 n],⟨[],[(k,1,5)],[]⟩=>.ite (qon s r n k) (.ret (.ret,[.str (qlM s r n k),.bool (qmg s r n k)],⟨[],[((qzp s r n k),1,5)],[]⟩)) (.ite (qrU s r n k) (.ret ((.exit 0),[.str (qlL s r n k),.sl (qkc s r n k) (.tok 0),.int .i64 (qmi s r n k)],⟨[],[((qzq s r n k),1,5)],[]⟩)) (.fail))|_,_=>.fail
theorem qQl:∀ vs σ r,(qoB vs σ).run=some r→qk8 vs σ=some r:=by
 intro vs σ r h;unfold qoB at h
 split at h
 ·exact qai h fun h=>qai h fun h=>by cases h
 ·cases h
theorem qKj (gl:Gl):∀ fr σ e fr' σ',(orc qEn qoB fr σ).run=some (e,fr',σ')→LDoes Tryz.prog gl qFA fr σ e fr' σ':=qck qat (qJs gl ) qah (L:=qB2) (qae (by kernel_rfl)) (by kernel_rfl) qQl
def qRx:LpsT:=fun r fr σ=>bif Nat.beq r 5 then orc qEn qoB fr σ else .fail
def qI2 (v:qU):Tr PV:=.ite (iLt (sLen v) 2) (.ret (.tup [.str [],.bool false])) (.ite (qaR v 0) (.ite (iNe (sAt v 0) 34) (.ret (.tup [.str [],.bool false])) (.ite (qon v [] 1 0) (.ret (.tup [.str (qlM v [] 1 0),.bool (qmg v [] 1 0)])) (.ite (qrU v [] 1 0) (.ite (qdS (qkc v [] 1 0)) (.ret (.tup [.str (qcL (qkc v [] 1 0)),.bool (iEq (qmi v [] 1 0) (iSub .i64 (sLen (qlL v [] 1 0)) 1))])) .fail) .fail))) .fail)
theorem qUb (v:qU):(tcall tbT qJX qRx Tryz.f144 [.str v]).flat=qI2 v:=by kernel_rfl
def qLe (v:qU):Option PV:=(qI2 v).run
def qQH (v:qU):List UInt8:=(gStr (gAt (gCs (gVal (qLe v))) 0))
def qQy (v:qU):Bool:=(qcb (gAt (gCs (gVal (qLe v))) 1))
def qKV (v:qU):Bool:=isW (qLe v) (.tup [.str (qQH v),.bool (qQy v)])
def qP4:List PV→Tr PV|[.str v]=>.ite (qKV v) (.ret (.tup [.str (qQH v),.bool (qQy v)])) (.fail)|_=>.fail
theorem qIl (gl:Gl):SimP Tryz.prog gl 144 fun args=>(qP4 args).run:=by
 refine SimP.of_flat (G:=qJX) (L:=qRx) qat (qJs gl ) qah  Tryz.func144 rfl (by rfl) (by kernel_rfl) (qaX (L:=lps qRx) [(5,qFA)] (by kernel_rfl) (List.forall_mem_cons.2 ⟨fun fr σ e fr' σ' h=>qKj gl  fr σ e fr' σ' h,(List.forall_mem_nil _)⟩)) ?_
 intro args x h;unfold qP4 at h
 split at h
 ·exact (congrArg Tr.run (qUb _)).trans (qai h fun h=>by cases h)
 ·cases h
end Go.Pv
set_option maxHeartbeats 4000000
set_option maxRecDepth 200000
set_option linter.unusedSimpArgs false
set_option linter.unusedVariables false
namespace Go.Pv
open Go Go.Proofs Go.RowKit
def qwc:qU→Bool
 |h1::h2::_=>decide (0≤qdt h1.toNat)&&decide (0≤qdt h2.toNat)
 |_=>false
def hexW:qU→UInt8
 |h1::h2::_=>UInt8.ofNat (qa2 .u8 (qdt h1.toNat * 16+qdt h2.toNat)).toNat
 |_=>0
inductive RS where
 |stop
 |bad
 |one (x:UInt8) (k:Nat)
def rS:qU→RS
 |[]=>.stop
 |c::t=>if c=34 then .stop else if c≠92 then .one c 1 else
  match t with
  |[]=>.bad
  |e::u=>if e=110 then .one 10 2 else if e=116 then .one 9 2 else if e=120∧qwc u=true then .one (hexW u) 4 else .one e 2
theorem rS_k {r:List UInt8} {x:UInt8} {k:Nat} (h:rS r=.one x k):1≤k∧k≤r.length:=by
 unfold rS at h
 split at h
 ·cases h
 ·rename_i c t;split at h
  ·cases h
  ·split at h
   ·cases h;simp
   ·split at h
    ·cases h
    ·rename_i e u;split at h
     ·cases h;simp
     ·split at h
      ·cases h;simp
      ·split at h
       ·rename_i hx;cases h
        have:=hx.2;unfold qwc at this;split at this
        ·simp
        ·cases this
       ·cases h;simp
def rP (r:qU):Option (List UInt8×List UInt8):=match h:rS r with
 |.stop=>some ([],r)
 |.bad=>none
 |.one x k=>(rP (r.drop k)).map fun p=>(x::p.1,p.2)
 termination_by r.length
 decreasing_by have:=rS_k h;simp;omega
theorem qzi {r:List UInt8} (h:rS r=.stop):rP r=some ([],r):=by rw [rP.eq_def];split<;>simp_all
theorem qSQ {r:List UInt8} (h:rS r=.bad):rP r=none:=by rw [rP.eq_def];split<;>simp_all
theorem qOG {r:List UInt8} {x:UInt8} {k:Nat} (h:rS r=.one x k):rP r=(rP (r.drop k)).map fun p=>(x::p.1,p.2):=by rw [rP.eq_def];split<;>simp_all
theorem qr3 {s r:List UInt8} {i:Nat} {c:UInt8} (h:s.drop i=c::r):s[i]?=some c∧s.drop (i+1)=r∧i+1+r.length=s.length:=by
 have h1:(s.drop i)[0]?=some c:=by rw [h];rfl
 have h2:s.drop (i+1)=r:=by
  have:(s.drop i).drop 1=r:=by rw [h];rfl
  simpa [Nat.add_comm] using this
 have h3:=congrArg List.length h;simp at h1 h3;exact⟨h1,h2,by omega⟩
theorem qFj (c:UInt8):-1≤qdt c.toNat∧qdt c.toNat≤15:=by
 have h:=c.toNat_lt;have key:∀ n:Fin 256,-1≤qdt (n.val:Int)∧qdt (n.val:Int)≤15:=by decide +kernel
 exact key ⟨c.toNat,h⟩
theorem qMk (n:Int):0≤qa2 .u8 n∧qa2 .u8 n < 256:=by
 simp [qa2,IntKind.wrap,IntKind.signed,IntKind.bits];omega
theorem qnN {c k:UInt8} (h:c≠k):iNe (c.toNat:Int) (k.toNat:Int)=true:=by
 simp only [qSI,decide_eq_true_eq];intro e;exact h (UInt8.toNat_inj.1 (by omega))
theorem qnY {c k:UInt8} (h:c=k):iNe (c.toNat:Int) (k.toNat:Int)=false:=by
 subst h;simp
theorem qOe (b:qU) (x:UInt8) {n:Int} (h:(x.toNat:Int)=n):xApp (qab b) [[.int .u8 n]]=qab (b++[x]):=by
 subst h;rw [qlk b (by have:=x.toNat_lt;omega)]
 simp
theorem qQm {h1 h2:UInt8} {u:List UInt8}:((hexW (h1::h2::u)).toNat:Int)=qa2 .u8 (iAdd .i64 (iMul .i64 (qdt h1.toNat) 16) (qdt h2.toNat)):=by
 have r1:=qFj h1;have r2:=qFj h2;have e1:iMul .i64 (qdt h1.toNat) 16=qdt h1.toNat * 16:=qbD (by omega)
 have e2:iAdd .i64 (qdt h1.toNat * 16) (qdt h2.toNat)=qdt h1.toNat * 16+qdt h2.toNat:=qbD (by omega)
 rw [e1,e2];have:=qMk (qdt h1.toNat * 16+qdt h2.toNat);simp [hexW];omega
theorem qAi {s:List UInt8} (hs:s.length≤140737488355328) (b:qU) (i:Int) (r:qU) (hi:1≤i) (hr:s.drop i.toNat=r) (hil:i≤s.length) (hb:b.length+r.length≤140737488355328) :
  lnext qk8 (qu2 s (qab b) i b.length).run=match rS r with
   |.stop=>some (.exit 0,[.str s,.sl (qab b) (.tok 0),.int .i64 i],⟨[],[(b.length,1,5)],[]⟩)
   |.bad=>some (.ret,[.str [],.bool false],⟨[],[(b.length,1,5)],[]⟩)
   |.one x k=>qk8 [.str s,.sl (qab (b++[x])) (.tok 0),.int .i64 (i+k)] ⟨[],[((b++[x]).length,1,5)],[]⟩:=by
 cases r with
 |nil =>
  have hl:=congrArg List.length hr;simp at hl;have lt:iLt i (sLen s)=false:=by simp;omega
  unfold qu2;simp only [lt,Tr.run_ite,Bool.false_eq_true,if_false];simp [rS]
 |cons c t =>
  obtain⟨hv,hd1,hl1⟩:=qr3 hr;have hb1:b.length+(t.length+1)≤140737488355328:=hb;have a0:sAt s i=c.toNat:=qhR hv;have k0:qaR s i=true:=qfA (by omega) hv
  have n1:(i+1).toNat=i.toNat+1:=by omega
  have n2:(i+2).toNat=i.toNat+1+1:=by omega
  have n3:(i+3).toNat=i.toNat+1+1+1:=by omega
  have w1:iAdd .i64 i 1=i+1:=qbD (by omega)
  have w2:iAdd .i64 i 2=i+2:=qbD (by omega)
  have w3:iAdd .i64 i 3=i+3:=qbD (by omega)
  have w4:iAdd .i64 i 4=i+4:=qbD (by omega)
  have lt:iLt i (sLen s)=true:=by simp;omega
  have gr:∀ n,qaI (qab b) [[.int .u8 n]] 1=true:=fun n=>by simp;omega
  have nw:∀ n,qaH [[.int .u8 n]] 1=true:=fun n=>by simp [one]
  have sz:qaB (qab b) 1=true:=qcx _;have ne:nEq b.length (nXs (qab b))=true:=by simp
  have put:∀ (x:UInt8) (n:Int) (k:Nat),(x.toNat:Int)=n→lnext qk8 (some (LR.next [.str s,.sl (xApp (qab b) [[.int .u8 n]]) (.tok 0),.int .i64 (i+k)] ⟨[],[(nXs (xApp (qab b) [[.int .u8 n]]),1,5)],[]⟩))=qk8 [.str s,.sl (qab (b++[x])) (.tok 0),.int .i64 (i+k)] ⟨[],[((b++[x]).length,1,5)],[]⟩:=fun x n k h=>by
   rw [qOe b x h,qfn];rfl
  unfold qu2;simp only [w1,w2,w3,w4,a0,lt,k0,gr,nw,sz,ne,Tr.run_ite,Tr.run_ret,Tr.run_fail,if_true];by_cases c34:c=34
  ·have e:iNe (c.toNat:Int) 34=false:=qnY (k:=34) c34;simp only [e,Bool.false_eq_true,if_false];simp [rS,c34]
  ·have e:iNe (c.toNat:Int) 34=true:=qnN (k:=34) c34;simp only [e,if_true];by_cases c92:c=92
   ·have e:iNe (c.toNat:Int) 92=false:=qnY (k:=92) c92;simp only [e,Bool.false_eq_true,if_false];cases t with
    |nil =>
     have le:iLe (sLen s) (i+1)=true:=by simp at hl1 ⊢;omega
     simp only [le,if_true];simp [rS,c92]
    |cons e' u =>
     obtain⟨hv1,hd2,hl2⟩:=qr3 hd1;have a1:sAt s (i+1)=e'.toNat:=qhR (by rw [n1];exact hv1)
     have k1:qaR s (i+1)=true:=qfA (by omega) (by rw [n1];exact hv1)
     have le:iLe (sLen s) (i+1)=false:=by simp;omega
     simp only [a1,k1,le,Bool.false_eq_true,if_true,if_false];by_cases e110:e'=110
     ·have f:iEq (e'.toNat:Int) 110=true:=qjl (k:=110) e110;simp only [f,if_true,rS,c92,e110];exact put 10 10 2 rfl
     ·have f:iEq (e'.toNat:Int) 110=false:=qf8 (k:=110) e110;simp only [f,Bool.false_eq_true,if_false];by_cases e116:e'=116
      ·have f:iEq (e'.toNat:Int) 116=true:=qjl (k:=116) e116;simp only [f,if_true,rS,c92,e110,e116];exact put 9 9 2 rfl
      ·have f:iEq (e'.toNat:Int) 116=false:=qf8 (k:=116) e116;simp only [f,Bool.false_eq_true,if_false];have two:∀ h:¬ (e'=120∧qwc u=true),rS (c::e'::u)=.one e' 2:=fun h=>by simp [rS,c92,e110,e116];intro h1;exact Bool.eq_false_iff.2 fun h2=>h ⟨h1,h2⟩
       by_cases e120:e'=120
       ·have f:iEq (e'.toNat:Int) 120=true:=qjl (k:=120) e120;simp only [f,if_true];cases u with
        |nil =>
         have l3:iLt (i+3) (sLen s)=false:=by simp at hl2 ⊢;omega
         rw [two (by simp [qwc])]
         simp only [l3,Bool.false_eq_true,if_false];exact put e' _ 2 rfl
        |cons h1 u =>
         obtain⟨hv2,hd3,hl3⟩:=qr3 hd2;cases u with
         |nil =>
          have l3:iLt (i+3) (sLen s)=false:=by simp at hl3 ⊢;omega
          rw [two (by simp [qwc])]
          simp only [l3,Bool.false_eq_true,if_false];exact put e' _ 2 rfl
         |cons h2 u =>
          obtain⟨hv3,hd4,hl4⟩:=qr3 hd3;have a2:sAt s (i+2)=h1.toNat:=qhR (by rw [n2];exact hv2)
          have k2:qaR s (i+2)=true:=qfA (by omega) (by rw [n2];exact hv2)
          have a3:sAt s (i+3)=h2.toNat:=qhR (by rw [n3];exact hv3)
          have k3:qaR s (i+3)=true:=qfA (by omega) (by rw [n3];exact hv3)
          have l3:iLt (i+3) (sLen s)=true:=by simp;omega
          simp only [a2,k2,a3,k3,l3,if_true];by_cases g1:0≤qdt h1.toNat
          ·have f1:iLe 0 (qdt h1.toNat)=true:=by simpa using g1
           simp only [f1,if_true];by_cases g2:0≤qdt h2.toNat
           ·have f2:iLe 0 (qdt h2.toNat)=true:=by simpa using g2
            have e1:rS (c::e'::h1::h2::u)=.one (hexW (h1::h2::u)) 4:=by simp [rS,c92,e110,e116,e120,qwc,g1,g2]
            simp only [f2,if_true,e1];exact put (hexW (h1::h2::u)) _ 4 qQm
           ·have f2:iLe 0 (qdt h2.toNat)=false:=by simpa using g2
            rw [two (by simp [qwc,g2])]
            simp only [f2,Bool.false_eq_true,if_false];exact put e' _ 2 rfl
          ·have f1:iLe 0 (qdt h1.toNat)=false:=by simpa using g1
           rw [two (by simp [qwc,g1])]
           simp only [f1,Bool.false_eq_true,if_false];exact put e' _ 2 rfl
       ·have f:iEq (e'.toNat:Int) 120=false:=qf8 (k:=120) e120;rw [two (fun h=>e120 h.1)]
        simp only [f,Bool.false_eq_true,if_false];exact put e' _ 2 rfl
   ·have e:iNe (c.toNat:Int) 92=true:=qnN (k:=92) c92;have e1:rS (c::t)=.one c 1:=by simp [rS,c34,c92]
    simp only [e,if_true,e1];exact put c _ 1 rfl
theorem qNQ {s:List UInt8} (hs:s.length≤140737488355328):∀ (k:Nat) (b:qU) (i:Int) (r:qU),r.length≤k→1≤i→s.drop i.toNat=r→i≤s.length→b.length+r.length≤140737488355328 →
  (∀ p,rP r=some p→qk8 [.str s,.sl (qab b) (.tok 0),.int .i64 i] ⟨[],[(b.length,1,5)],[]⟩=some (.exit 0,[.str s,.sl (qab (b++p.1)) (.tok 0),.int .i64 ((s.length:Int) - p.2.length)],⟨[],[((b++p.1).length,1,5)],[]⟩)) ∧
  (rP r=none→∃ m,qk8 [.str s,.sl (qab b) (.tok 0),.int .i64 i] ⟨[],[(b.length,1,5)],[]⟩=some (.ret,[.str [],.bool false],⟨[],[(m,1,5)],[]⟩)):=by
 intro k
 induction k with
 |zero =>
  intro b i r hk hi hr hil hb;have:r=[]:=by apply List.eq_nil_of_length_eq_zero;omega
  subst this;have hl:=congrArg List.length hr;simp at hl;rw [qOD,qAi hs b i [] hi hr hil hb];have e:i=s.length:=by omega
  refine⟨fun p hp=>?_,fun hp=>by rw [qzi rfl] at hp;cases hp⟩
  rw [qzi rfl] at hp;cases hp
  simp [rS,e]
 |succ k ih =>
  intro b i r hk hi hr hil hb;have hl:=congrArg List.length hr;simp at hl;rw [qOD,qAi hs b i r hi hr hil hb];cases hS:rS r with
  |stop =>
   rw [qzi hS];refine⟨fun p hp=>?_,fun hp=>by cases hp⟩
   cases hp
   have e:i=(s.length:Int) - r.length:=by omega
   simp [e]
  |bad =>
   rw [qSQ hS];exact⟨fun p hp=>by (cases hp),fun _=>⟨_,rfl⟩⟩
  |one x j =>
   have hj:=rS_k hS;rw [qOG hS];obtain⟨h1,h2⟩:=ih (b++[x]) (i+j) (r.drop j) (by simp;omega) (by omega) (by rw [← hr,List.drop_drop];congr 1;omega) (by omega) (by simp;omega)
   refine⟨fun p hp=>?_,fun hp=>?_⟩
   ·obtain⟨q,hq,rfl⟩:=Option.map_eq_some_iff.1 hp;have:=h1 q hq;simpa using this
   ·exact h2 (by simpa using hp)
def rsO (s:qU):List UInt8×Bool:=if s.length < 2∨s.head?≠some 34 then ([],false) else match rP (s.drop 1) with
 |none=>([],false)
 |some p=>(p.1,decide (p.2.length=1))
def rsV (s:qU):List UInt8:=(rsO s).1
def okRs (s:qU):Bool:=(rsO s).2
def quQ:List PV→Tr PV
 |[.str s]=>Tr.chk (qnS s) (.ret (.tup [.str (rsV s),.bool (okRs s)]))
 |_=>.fail
theorem qQW {s:List UInt8} (hs:s.length≤140737488355328):qLe s=some (.tup [.str (rsV s),.bool (okRs s)]):=by
 unfold qLe qI2;by_cases hs2:s.length < 2
 ·have l1:iLt (sLen s) 2=true:=by simp;omega
  simp only [l1,Tr.run_ite,if_true];simp [rsV,okRs,rsO,hs2]
 ·have l1:iLt (sLen s) 2=false:=by simp;omega
  have l2:qaR s 0=true:=by simp;omega
  have l4:iSub .i64 (sLen s) 1=s.length - 1:=by unfold iSub;rw [qji,qbD (by omega)]
  obtain⟨c,hc⟩:=qgH (l:=s) (i:=0) (by omega)
  have l5:sAt s 0=c.toNat:=qhR (i:=0) hc;have hh:s.head?=some c:=by rw [List.head?_eq_getElem?];exact hc
  by_cases c34:c=34
  ·have l6:iNe (c.toNat:Int) 34=false:=qnY (k:=34) c34;have e1:rsO s=match rP (s.drop 1) with|none=>([],false)|some p=>(p.1,decide (p.2.length=1)):=by
    unfold rsO;rw [if_neg];rintro (h|h)
    ·exact hs2 h
    ·exact h (by rw [hh,c34])
   obtain⟨h1,h2⟩:=qNQ hs s.length [] 1 (s.drop 1) (by simp) (by omega) rfl (by omega) (by simp;omega)
   cases hp:rP (s.drop 1) with
   |none =>
    obtain⟨m,hm⟩:=h2 hp;rw [hp] at e1;have hW:qkF s [] 1 0=some (.ret,[.str [],.bool false],⟨[],[(m,1,5)],[]⟩):=hm;have n0:qon s [] 1 0=true:=by simp [qon,qlM,qmg,qzp,hW]
    have r1:qlM s [] 1 0=[]:=by simp [qlM,hW]
    have r2:qmg s [] 1 0=false:=by simp [qmg,hW]
    simp only [l1,l2,l5,l6,n0,r1,r2,Tr.run_ite,Bool.false_eq_true,if_true,if_false];simp [rsV,okRs,e1]
   |some p =>
    have hW:qkF s [] 1 0=some (.exit 0,[.str s,.sl (qab p.1) (.tok 0),.int .i64 ((s.length:Int) - p.2.length)],⟨[],[(p.1.length,1,5)],[]⟩):=by
     have:=h1 p hp;unfold qkF;simpa using this
    rw [hp] at e1;have k4:iEq ((s.length:Int) - p.2.length) ((s.length:Int) - 1)=decide (p.2.length=1):=by
     simp only [quc]
     congr 1
     apply propext;constructor<;>intro h<;>omega
    have n0:qon s [] 1 0=false:=by
     rw [Bool.eq_false_iff];intro h;have:=qPf h;rw [hW] at this;simp at this
    have n1:qrU s [] 1 0=true:=by simp [qrU,qlL,qkc,qmi,qzq,hW]
    have r1:qkc s [] 1 0=qab p.1:=by simp [qkc,hW]
    have r2:qlL s [] 1 0=s:=by simp [qlL,hW]
    have r3:qmi s [] 1 0=(s.length:Int) - p.2.length:=by simp [qmi,hW]
    simp only [l1,l2,l5,l6,n0,n1,r1,r2,r3,l4,k4,Tr.run_ite,Bool.false_eq_true,if_true,if_false];simp [rsV,okRs,e1]
  ·have l6:iNe (c.toNat:Int) 34=true:=qnN (k:=34) c34;simp only [l1,l2,l5,l6,Tr.run_ite,Bool.false_eq_true,if_true,if_false];simp [rsV,okRs,rsO,hh,c34]
theorem qDG (gl:Gl):SimP Tryz.prog gl 144 fun args=>(quQ args).run :=
 ⟨(qIl gl).ent,fun args x h=>(qIl gl).run args x (by
  unfold quQ at h
  split at h
  ·rename_i s;obtain⟨h1,h2⟩:=Tr.chk_some h;cases h2
   have hl:s.length≤140737488355328:=by simpa using h1
   have hW:=qQW hl;simp [qP4,qKV,qQH,qQy,hW]
  ·cases h)⟩
end Go.Pv
set_option maxHeartbeats 4000000
set_option maxRecDepth 200000
set_option linter.unusedSimpArgs false
set_option linter.unusedVariables false
namespace Go.Pv
open Go Go.Proofs Go.RowKit
theorem qFs (c:UInt8):∀ (l:qU) (a:Nat),numN (l++[c]) a=(numN l a).bind fun n=>if 48≤c.toNat∧c.toNat≤57 then some (n * 10+(c.toNat - 48)) else none
 |[],a=>by simp [numN]
 |d::l,a=>by
  simp only [List.cons_append,numN];split
  ·exact qFs c l _
  ·rfl
theorem qiN {u:Nat} (h:¬ u < 10):qhL u=qhL (u / 10)++[UInt8.ofNat (48+u % 10)]:=by
 conv=>lhs;unfold qhL
 rw [dif_neg h]
theorem qhC {u:Nat} (h:u < 10):qhL u=[UInt8.ofNat (48+u)]:=by
 unfold qhL;rw [dif_pos h]
theorem qql {d:Nat} (h:d < 10):(UInt8.ofNat (48+d)).toNat=48+d:=by
 simp;omega
theorem qvD:∀ (k u:Nat),u < k→numN (qhL u) 0=some u
 |0,u,h=>by omega
 |k+1,u,h=>by
  by_cases hu:u < 10
  ·rw [qhC hu];simp only [numN,qql hu];rw [if_pos (by omega)]
   simp
  ·have hd:u % 10 < 10:=Nat.mod_lt _ (by omega)
   rw [qiN hu,qFs,qvD k (u / 10) (by omega)]
   simp only [Option.bind_some,qql hd];rw [if_pos (by omega)]
   congr 1
   omega
theorem qAv:∀ (k u:Nat),u < k→∀ c∈qhL u,48≤c.toNat∧c.toNat≤57
 |0,u,h=>by omega
 |k+1,u,h=>by
  intro c hc;by_cases hu:u < 10
  ·rw [qhC hu] at hc;simp only [List.mem_singleton] at hc;subst hc;have:=qql hu;omega
  ·have hd:u % 10 < 10:=Nat.mod_lt _ (by omega)
   rw [qiN hu] at hc;rcases List.mem_append.1 hc with hc|hc
   ·exact qAv k (u / 10) (by omega) c hc
   ·simp only [List.mem_singleton] at hc;subst hc;have:=qql hd;omega
theorem qsA (u:Nat):qhL u≠[]:=by
 by_cases hu:u < 10
 ·rw [qhC hu];simp
 ·rw [qiN hu];simp
theorem qqk (u:Nat):∃ c t,qhL u=c::t∧48≤c.toNat∧c.toNat≤57:=by
 cases h:qhL u with
 |nil=>exact absurd h (qsA u)
 |cons c t =>
  have:=qAv (u+1) u (by omega) c (by rw [h];simp)
  exact⟨c,t,rfl,this⟩
theorem qhS:∀ (k u:Nat),u < k→Lib.decDigits u=qhL u
 |0,u,h=>by omega
 |k+1,u,h=>by
  by_cases hu:u < 10
  ·rw [qhC hu,Lib.decDigits_one hu]
  ·rw [qiN hu,Lib.decDigits,dif_neg hu,qhS k (u / 10) (by omega)]
theorem qNf (n:Int):qJo n=intV n:=by
 unfold qJo Lib.itoa intV qjn;by_cases h:n < 0
 ·rw [if_pos h,if_pos h,qhS (n.natAbs+1) _ (by omega)]
  congr 2
  omega
 ·rw [if_neg h,if_neg h,qhS (n.toNat+1) _ (by omega)]
theorem qOT (M:Nat) (c:UInt8):∀ (l:qU) (a n:Nat),Lib.parseUintM M a l=.ok n→Lib.parseUintM M a (l++[c])=Lib.parseUintM M n [c]
 |[],a,n,h=>by simp [Lib.parseUintM] at h;subst h;rfl
 |d::l,a,n,h=>by
  simp only [List.cons_append,Lib.parseUintM] at h ⊢;split at h
  ·split at h
   ·cases h
   ·split at h
    ·cases h
    ·rename_i h1 h2 h3;rw [if_pos h1,if_neg h2,if_neg h3];exact qOT M c l _ n h
  ·cases h
theorem qBu:∀ (k u:Nat),u < k→u≤18446744073709551615→Lib.parseUintM 18446744073709551615 0 (qhL u)=.ok u
 |0,u,h,_=>by omega
 |k+1,u,h,hm=>by
  by_cases hu:u < 10
  ·rw [qhC hu];simp only [Lib.parseUintM,qql hu];rw [if_pos (by omega),if_neg (by omega),if_neg (by omega)]
   congr 1
   omega
  ·have hd:u % 10 < 10:=Nat.mod_lt _ (by omega)
   rw [qiN hu,qOT _ _ _ _ (u / 10) (qBu k (u / 10) (by omega) (by omega))]
   simp only [Lib.parseUintM,qql hd];rw [if_pos (by omega),if_neg (by omega),if_neg (by omega)]
   congr 1
   omega
theorem pInt {n:Int} (h:-9223372036854775808≤n∧n≤9223372036854775807):Lib.parseIntB 64 (intV n)=.ok n:=by
 unfold intV qjn;by_cases hn:n < 0
 ·rw [if_pos hn];have hp:=qBu ((-n).toNat+1) (-n).toNat (by omega) (by omega)
  have hne:=qsA (-n).toNat;have e:(2 ^ 64 - 1:Nat)=18446744073709551615:=by decide
  have e2:(2 ^ (64 - 1):Nat)=9223372036854775808:=by decide
  have e3:(45:UInt8).toNat=45:=rfl;simp only [Lib.parseIntB,Lib.parseUintB,e3,e,e2,or_true,if_true,if_neg hne,hp];rw [if_neg (by simp),if_neg (by simp;omega)]
  congr 1
  simp;omega
 ·rw [if_neg hn];have hp:=qBu (n.toNat+1) n.toNat (by omega) (by omega)
  obtain⟨c,t,ht,hc1,hc2⟩:=qqk n.toNat;have e:(2 ^ 64 - 1:Nat)=18446744073709551615:=by decide
  have e2:(2 ^ (64 - 1):Nat)=9223372036854775808:=by decide
  rw [ht] at hp ⊢;simp only [Lib.parseIntB,Lib.parseUintB];rw [if_neg (by omega:¬ (c.toNat=43∨c.toNat=45)),if_neg (by simp),e,hp]
  simp only [e2];rw [if_neg (by omega),if_neg (by omega),if_neg (by omega)]
  congr 1
  omega
theorem qRG {n:Int} (h:-9223372036854775808≤n∧n≤9223372036854775807):pOk (intV n)=true:=by unfold pOk;rw [pInt h]
theorem qM4 {n:Int} (h:-9223372036854775808≤n∧n≤9223372036854775807):pVal (intV n)=n:=by unfold pVal;rw [pInt h]
theorem qQd {n:Int} (h:-9223372036854775808≤n∧n≤9223372036854775807):whoO (intV n)=some n:=by
 unfold intV qjn whoO;by_cases hn:n < 0
 ·rw [if_pos hn];have hl:=qiO 18 (-n).toNat (by omega)
  have hp:=qvD ((-n).toNat+1) (-n).toNat (by omega)
  have hne:=qsA (-n).toNat;simp only [List.head?_cons,if_true,List.drop_succ_cons,List.drop_zero,whoN];rw [if_neg (by rintro (h|h);exact hne h;omega),hp]
  simp only [];rw [if_neg (by simp;omega)]
  congr 1
  simp;omega
 ·rw [if_neg hn];have hl:=qiO 18 n.toNat (by omega)
  have hp:=qvD (n.toNat+1) n.toNat (by omega)
  have hne:=qsA n.toNat;obtain⟨c,t,ht,hc1,hc2⟩:=qqk n.toNat;have hh:¬ (qhL n.toNat).head?=some 45:=by
   rw [ht];simp;intro h;subst h
   revert hc1
   decide
  rw [if_neg hh];unfold whoN;rw [if_neg (by rintro (h|h);exact hne h;omega),hp]
  simp only [];rw [if_neg (by simp;omega)]
  congr 1
  simp;omega
theorem qPY (n:Int):qft (intV n) [34]=false:=by
 unfold intV qjn qft;by_cases hn:n < 0
 ·rw [if_pos hn];simp
 ·rw [if_neg hn];obtain⟨c,t,ht,hc1,hc2⟩:=qqk n.toNat;rw [ht];simp;intro h;subst h
  revert hc1
  decide
end Go.Pv
set_option maxHeartbeats 4000000
set_option maxRecDepth 200000
set_option linter.unusedSimpArgs false
set_option linter.unusedVariables false
namespace Go.Pv
open Go Go.Proofs Go.RowKit
def hx1 (c:UInt8):UInt8:=UInt8.ofNat (sAt hexL (iShr .u8 c.toNat 4)).toNat
def hx2 (c:UInt8):UInt8:=UInt8.ofNat (sAt hexL (iAnd .u8 c.toNat 15)).toNat
theorem qDI (c:UInt8):oneV c.toNat=if c=34∨c=92 then [92,c] else if c=10 then [92,110] else if c=9 then [92,116] else if 32≤c.toNat∧c.toNat≤126 then [c] else [92,120,hx1 c,hx2 c]:=by
 have e:∀ k:UInt8,((c.toNat:Int)=(k.toNat:Int))=(c=k):=fun k=>propext ⟨fun h=>UInt8.toNat_inj.1 (by omega),fun h=>by rw [h]⟩
 have e34:=e 34;have e92:=e 92;have e10:=e 10;have e9:=e 9;unfold oneV hx1 hx2;have r:UInt8.ofNat (c.toNat:Int).toNat=c:=by simp
 rw [r];have p1:((c.toNat:Int)=34)=(c=34):=e34;have p2:((c.toNat:Int)=92)=(c=92):=e92;have p3:((c.toNat:Int)=10)=(c=10):=e10;have p4:((c.toNat:Int)=9)=(c=9):=e9;have p5:((32:Int)≤c.toNat∧(c.toNat:Int)≤126)=(32≤c.toNat∧c.toNat≤126):=propext ⟨fun h=>⟨by omega,by omega⟩,fun h=>⟨by omega,by omega⟩⟩
 simp only [p1,p2,p3,p4,p5]
theorem qTR:∀ n:Fin 256,digV (hx1 (UInt8.ofNat n.val)).toNat < 16∧digV (hx2 (UInt8.ofNat n.val)).toNat < 16 ∧
 (UInt8.ofNat (iOr .u8 (iShl .u8 (digV (hx1 (UInt8.ofNat n.val)).toNat) 4) (digV (hx2 (UInt8.ofNat n.val)).toNat)).toNat).toNat=n.val ∧
 0≤qdt (hx1 (UInt8.ofNat n.val)).toNat∧0≤qdt (hx2 (UInt8.ofNat n.val)).toNat∧(hexW [hx1 (UInt8.ofNat n.val),hx2 (UInt8.ofNat n.val)]).toNat=n.val:=by decide +kernel
theorem qOx (c:UInt8):digV (hx1 c).toNat < 16∧digV (hx2 c).toNat < 16∧UInt8.ofNat (iOr .u8 (iShl .u8 (digV (hx1 c).toNat) 4) (digV (hx2 c).toNat)).toNat=c ∧
  0≤qdt (hx1 c).toNat∧0≤qdt (hx2 c).toNat∧hexW [hx1 c,hx2 c]=c:=by
 have h:=qTR ⟨c.toNat,c.toNat_lt⟩;simp only [UInt8.ofNat_toNat] at h
 exact⟨h.1,h.2.1,UInt8.toNat_inj.1 h.2.2.1,h.2.2.2.1,h.2.2.2.2.1,UInt8.toNat_inj.1 h.2.2.2.2.2⟩
theorem qlt (c:UInt8) (t:qU):decP (c::t)=if c=92 then (if escN t=0 then none else (decP (t.drop (escN t).toNat)).map (UInt8.ofNat (escB t).toNat::·)) else (decP t).map (c::·):=by rw [decP]
theorem qSe (c:UInt8) (r:qU):decP (oneV c.toNat++r)=(decP r).map (c::·):=by
 rw [qDI];by_cases h1:c=34∨c=92
 ·rw [if_pos h1];have a:sAt (c::r) 0=c.toNat:=by simp
  have q:(c.toNat:Int)=34∨(c.toNat:Int)=92:=by rcases h1 with rfl|rfl<;>decide
  have n1:escN (c::r)=1:=by unfold escN;rw [if_neg (by simp),a,if_pos q]
  have n2:escB (c::r)=c.toNat:=by unfold escB;rw [if_neg (by simp),a,if_pos q]
  simp only [List.cons_append,List.nil_append];rw [qlt,if_pos rfl,n1,n2];simp
 ·rw [if_neg h1];by_cases h2:c=10
  ·subst h2;have a:sAt (110::r) 0=110:=by simp
   have n1:escN (110::r)=1:=by unfold escN;rw [if_neg (by simp),a];simp
   have n2:escB (110::r)=10:=by unfold escB;rw [if_neg (by simp),a];simp
   simp only [if_true,List.cons_append,List.nil_append];rw [qlt,if_pos rfl,n1,n2];simp
  ·rw [if_neg h2];by_cases h3:c=9
   ·subst h3;have a:sAt (116::r) 0=116:=by simp
    have n1:escN (116::r)=1:=by unfold escN;rw [if_neg (by simp),a];simp
    have n2:escB (116::r)=9:=by unfold escB;rw [if_neg (by simp),a];simp
    simp only [if_true,List.cons_append,List.nil_append];rw [qlt,if_pos rfl,n1,n2];simp
   ·rw [if_neg h3];by_cases h4:32≤c.toNat∧c.toNat≤126
    ·rw [if_pos h4];simp only [List.cons_append,List.nil_append];rw [qlt,if_neg (fun h=>h1 (.inr h))]
    ·rw [if_neg h4];obtain⟨g1,g2,g3,_⟩:=qOx c;have a0:sAt (120::hx1 c::hx2 c::r) 0=120:=by simp
     have a1:sAt (120::hx1 c::hx2 c::r) 1=(hx1 c).toNat:=by simp
     have a2:sAt (120::hx1 c::hx2 c::r) 2=(hx2 c).toNat:=by simp
     have q:(120:Int)=120∧3≤(120::hx1 c::hx2 c::r).length∧digV (hx1 c).toNat < 16∧digV (hx2 c).toNat < 16:=⟨rfl,by simp,g1,g2⟩
     have n1:escN (120::hx1 c::hx2 c::r)=3:=by unfold escN;rw [if_neg (by simp),a0,a1,a2,if_neg (by omega),if_neg (by omega),if_neg (by omega),if_pos q]
     have n2:escB (120::hx1 c::hx2 c::r)=iOr .u8 (iShl .u8 (digV (hx1 c).toNat) 4) (digV (hx2 c).toNat):=by unfold escB;rw [if_neg (by simp),a0,a1,a2,if_neg (by omega),if_neg (by omega),if_neg (by omega),if_pos q]
     simp only [List.cons_append,List.nil_append];rw [qlt,if_pos rfl,n1,n2,g3];simp
theorem qva (c:UInt8) (b:qU):symB (c::b)=oneV c.toNat++symB b:=by simp [symB]
theorem qLn:∀ b:qU,decP (symB b)=some b
 |[]=>by simp [symB,decP]
 |c::b=>by rw [qva,qSe,qLn b];rfl
theorem qQ6 (c:UInt8) (r:qU):rS (oneV c.toNat++r)=.one c (oneV c.toNat).length:=by
 rw [qDI];by_cases h1:c=34∨c=92
 ·rw [if_pos h1];rcases h1 with rfl|rfl<;>simp [rS]
 ·rw [if_neg h1];by_cases h2:c=10
  ·subst h2;simp [rS]
  ·rw [if_neg h2];by_cases h3:c=9
   ·subst h3;simp [rS]
   ·rw [if_neg h3];have h34:¬ c=34:=fun h=>h1 (.inl h)
    have h92:¬ c=92:=fun h=>h1 (.inr h)
    by_cases h4:32≤c.toNat∧c.toNat≤126
    ·rw [if_pos h4];simp [rS,h34,h92]
    ·rw [if_neg h4];obtain⟨_,_,_,g4,g5,g6⟩:=qOx c;have g7:hexW (hx1 c::hx2 c::r)=c:=g6;have g8:qwc (hx1 c::hx2 c::r)=true:=by simp [qwc,g4,g5]
     simp [rS,g7,g8]
theorem qO2:∀ b:qU,rP (symB b++[34])=some (b,[34])
 |[]=>by rw [qzi]<;>simp [symB,rS]
 |c::b=>by
  have e:symB (c::b)++[34]=oneV c.toNat++(symB b++[34]):=by rw [qva,List.append_assoc]
  rw [e,qOG (qQ6 c _),List.drop_left,qO2 b];rfl
theorem qSt (b:qU):rsO (symV b)=(b,true):=by
 have e:(symV b).drop 1=symB b++[34]:=by simp [symV]
 unfold rsO;rw [if_neg (by simp [symV]),e,qO2 b]
 rfl
theorem qPF (b:qU):whoO (symV b)=none:=by
 have e:symV b=34::(symB b++[34]):=by simp [symV]
 rw [e];unfold whoO;rw [if_neg (by simp)]
 unfold whoN;split
 ·rfl
 ·have:numN (34::(symB b++[34])) 0=none:=by unfold numN;rw [if_neg (by decide)]
  rw [this]
end Go.Pv
set_option maxHeartbeats 4000000
set_option maxRecDepth 200000
set_option linter.unusedSimpArgs false
set_option linter.unusedVariables false
namespace Go.Pv
open Go Go.Proofs Go.RowKit
theorem qog (k n:Int) (s:qU):qfY k n s=qgA k n s:=by unfold qfY qgA;rw [qNf]
def valid (v:Int×Int×List UInt8):Prop:=(v.1=1∧v.2.2=[]∧-9223372036854775808≤v.2.1∧v.2.1≤9223372036854775807)∨(v.1=2∧v.2.1=0∧v.2.2.length≤256)
def qwb (v:Int×Int×List UInt8):List UInt8:=qgA v.1 v.2.1 v.2.2
theorem qof (n:Int):qbU 1 n []=0:=by simp [qbU]
theorem qoO {b:List UInt8}:qbU 2 0 b=0↔b.length≤256:=by
 unfold qbU;by_cases h:b.length≤256<;>simp [h]
theorem qrr (n:Int):qgA 1 n []=intV n:=by simp [qgA,isV]
theorem qr1 {b:List UInt8} (h:b.length≤256):qgA 2 0 b=symV b:=by simp [qgA,isV,h]
theorem qOn (s:qU):-9223372036854775808≤pVal s∧pVal s≤9223372036854775807:=by
 have h:=qIM s;simp [Lit.wf,IntKind.min,IntKind.max,IntKind.signed,IntKind.bits] at h
 omega
theorem qFz {m:Bool} {t:List UInt8} {n:Int} (h:whoN m t=some n):-9223372036854775808≤n∧n≤9223372036854775807:=by
 unfold whoN at h
 split at h
 ·cases h
 ·split at h
  ·cases h
  ·rename_i x hx;split at h
   ·cases h
   ·rename_i hn;cases h
    cases m with
    |true=>simp at hn ⊢;omega
    |false=>simp at hn ⊢;omega
theorem qSh {s:List UInt8} {n:Int} (h:whoO s=some n):-9223372036854775808≤n∧n≤9223372036854775807:=by
 unfold whoO at h
 split at h
 ·exact qFz h
 ·exact qFz h
def rrV (s:qU):Option (Int×Int×List UInt8):=match whoO s with
 |some n=>if qbU 1 n []=0∧qgA 1 n []=s then some (1,n,[]) else none
 |none=>if (rsO s).2=true∧qbU 2 0 (rsO s).1=0∧qgA 2 0 (rsO s).1=s then some (2,0,(rsO s).1) else none
theorem qUA {s:List UInt8} {v:Int×Int×List UInt8} (h:rdV s=some v):valid v∧qwb v=s:=by
 unfold rdV at h
 split at h
 ·split at h
  ·split at h
   ·rename_i hc;cases h
    exact⟨.inr ⟨rfl,rfl,qoO.1 hc.1⟩,by unfold qwb;rw [← qog];exact hc.2⟩
   ·cases h
  ·cases h
 ·split at h
  ·split at h
   ·rename_i hc;cases h
    exact⟨.inl ⟨rfl,rfl,qOn s⟩,by unfold qwb;rw [← qog];exact hc.2⟩
   ·cases h
  ·cases h
theorem qT9 {s:List UInt8} {v:Int×Int×List UInt8} (h:rrV s=some v):valid v∧qwb v=s:=by
 unfold rrV at h
 split at h
 ·rename_i n hn;split at h
  ·rename_i hc;cases h
   exact⟨.inl ⟨rfl,rfl,qSh hn⟩,hc.2⟩
  ·cases h
 ·split at h
  ·rename_i hc;cases h
   exact⟨.inr ⟨rfl,rfl,qoO.1 hc.2.1⟩,hc.2.2⟩
  ·cases h
theorem qQ4 {v:Int×Int×List UInt8} (h:valid v):rdV (qwb v)=some v:=by
 obtain⟨k,n,b⟩:=v;rcases h with⟨h1,h2,h3⟩|⟨h1,h2,h3⟩
 ·simp only at h1 h2 h3;subst h1 h2;simp only [qwb,qrr];unfold rdV;rw [if_neg (by rw [qPY];simp),qRG h3,qM4 h3]
  simp [qof,qog,qrr]
 ·simp only at h1 h2 h3;subst h1 h2;simp only [qwb,qr1 h3];have e:symV b=34::(symB b++[34]):=by simp [symV]
  have p1:qft (symV b) [34]=true:=by rw [e];simp [qft]
  have p2:qsU (symV b) [34]=true:=by rw [e];simp [qsU]
  have p3:2≤(symV b).length:=by rw [e];simp
  have p4:((symV b).take ((symV b).length - 1)).drop 1=symB b:=by rw [e];simp
  unfold rdV;rw [if_pos ⟨p1,p2,p3⟩,p4,qLn b];simp only [];rw [if_pos ⟨qoO.2 h3,by rw [qog,qr1 h3]⟩]
theorem qQb {v:Int×Int×List UInt8} (h:valid v):rrV (qwb v)=some v:=by
 obtain⟨k,n,b⟩:=v;rcases h with⟨h1,h2,h3⟩|⟨h1,h2,h3⟩
 ·simp only at h1 h2 h3;subst h1 h2;simp only [qwb,qrr];unfold rrV;rw [qQd h3];simp [qof,qrr]
 ·simp only at h1 h2 h3;subst h1 h2;simp only [qwb,qr1 h3];unfold rrV;rw [qPF,qSt];simp only [];rw [if_pos (by simp [qoO.2 h3,qr1 h3])]
theorem qUn (s:qU):rrV s=rdV s:=by
 cases h:rrV s with
 |some v =>
  obtain⟨h1,h2⟩:=qT9 h;rw [← h2,qQ4 h1]
 |none =>
  cases h':rdV s with
  |none=>rfl
  |some v =>
   obtain⟨h1,h2⟩:=qUA h';rw [← h2,qQb h1] at h
   cases h
theorem qIj (gl:Gl):SimP Tryz.prog gl 123 fun args=>(qwH args).run:=by
 refine SimP.of_tree (G:=ofL [(143,.pure qDl),(144,.pure quQ),(46,.pure qzw)]) (L:=fun _ _ _=>.fail) qat (qac (qH7 gl) (qac (qDG gl) (qac (qA5 gl) qag))) qah Tryz.func123 rfl (by rfl) (by kernel_rfl) (qae (by kernel_rfl)) ?_
 intro args x h hr;unfold qwH at h
 split at h
 ·rename_i s;obtain⟨h1,h2⟩:=Tr.chk_some h;cases h2
  refine Tr.run_as (.ite (qnS s) (.ite (qjy s) (.ite (bNot (qjy s)) (.ret (.tup [.agg [.int .i64 0,.int .i64 0,.str []],.int .i64 10])) (.ite (iNe (qbU 1 (whoV s) []) 0) (.ret (.tup [.agg [.int .i64 0,.int .i64 0,.str []],.int .i64 10])) (.ite (sNe (qgA 1 (whoV s) []) s) (.ret (.tup [.agg [.int .i64 0,.int .i64 0,.str []],.int .i64 10])) (.ret (.tup [.agg [.int .i64 1,.int .i64 (whoV s),.str []],.int .i64 0]))))) (.ite (qnS s) (.ite (bNot (okRs s)) (.ret (.tup [.agg [.int .i64 0,.int .i64 0,.str []],.int .i64 10])) (.ite (iNe (qbU 2 0 (rsV s)) 0) (.ret (.tup [.agg [.int .i64 0,.int .i64 0,.str []],.int .i64 10])) (.ite (sNe (qgA 2 0 (rsV s)) s) (.ret (.tup [.agg [.int .i64 0,.int .i64 0,.str []],.int .i64 10])) (.ret (.tup [.agg [.int .i64 2,.int .i64 0,.str (rsV s)],.int .i64 0]))))) .fail)) .fail) (by kernel_rfl) ?_
  have fin:∀ o:Option (Int×Int×List UInt8),rrV s=o→PV.tup [.agg [.int .i64 (kRd s),.int .i64 (nRd s),.str (sRd s)],.int .i64 (eRd s)]=match o with|some v=>.tup [.agg [.int .i64 v.1,.int .i64 v.2.1,.str v.2.2],.int .i64 0]|none=>.tup [.agg [.int .i64 0,.int .i64 0,.str []],.int .i64 10]:=by
   intro o ho;rw [qUn] at ho;unfold kRd nRd sRd eRd;rw [ho];cases o<;>rfl
  rw [h1];cases hw:whoO s with
  |some n =>
   have w1:qjy s=true:=by unfold qjy;rw [hw];rfl
   have w2:whoV s=n:=by unfold whoV;rw [hw];rfl
   rw [w1,w2];by_cases hc:qbU 1 n []=0∧qgA 1 n []=s
   ·rw [fin (some (1,n,[])) (by unfold rrV;rw [hw];simp only [];rw [if_pos hc])]
    simp [hc]
   ·rw [fin none (by unfold rrV;rw [hw];simp only [];rw [if_neg hc])]
    have:¬ qgA 1 n []=s:=fun h=>hc ⟨qof n,h⟩
    simp [qof,this]
  |none =>
   have w1:qjy s=false:=by unfold qjy;rw [hw];rfl
   have w3:okRs s=(rsO s).2:=rfl;have w4:rsV s=(rsO s).1:=rfl;rw [w1,w3,w4];by_cases hc:(rsO s).2=true∧qbU 2 0 (rsO s).1=0∧qgA 2 0 (rsO s).1=s
   ·rw [fin (some (2,0,(rsO s).1)) (by unfold rrV;rw [hw];simp only [];rw [if_pos hc])]
    simp [hc]
   ·rw [fin none (by unfold rrV;rw [hw];simp only [];rw [if_neg hc])]
    by_cases c1:(rsO s).2=true
    ·by_cases c2:qbU 2 0 (rsO s).1=0
     ·have c3:¬ qgA 2 0 (rsO s).1=s:=fun h=>hc ⟨c1,c2,h⟩
      simp [c1,c2,c3]
     ·simp [c1,c2]
    ·simp [c1]
 ·cases h
end Go.Pv
set_option maxHeartbeats 4000000
set_option linter.unusedSimpArgs false
set_option linter.unusedVariables false
namespace Go.Pv
def qhI (b:UInt8):Bool:=decide (97≤b.toNat)&&decide (b.toNat≤122)
def qlq (b:UInt8):Bool:=decide (65≤b.toNat)&&decide (b.toNat≤90)
def qbf (b:UInt8):Bool:=decide (48≤b.toNat)&&decide (b.toNat≤57)
def innB (b:UInt8):Bool:=qhI b || qlq b || qbf b || decide (b.toNat=95)
def blB (b:UInt8):Bool:=decide (b.toNat=32) || decide (b.toNat=9) || decide (b.toNat=10) || decide (b.toNat=13)
def runL (p:UInt8→Bool):List UInt8→Nat
 |[]=>0
 |b::s=>if p b then runL p s+1 else 0
def incN (n:Nat):Nat:=if n=0 then 0 else n+1
def quoE:Bool→qU→Nat
 |_,[]=>0
 |true,_::s=>incN (quoE false s)
 |false,b::s=>if b.toNat=34 then 1 else if b.toNat=92 then incN (quoE true s) else incN (quoE false s)
def quoL (s:qU):Nat:=quoE false s
theorem qBr {n m:Nat} (h:n≤m):incN n≤m+1:=by unfold incN;split<;>omega
def gapL:Bool→qU→Nat
 |_,[]=>0
 |c,b::s=>if c || blB b || decide (b.toNat=37) then gapL (decide (b.toNat=37) || c&&decide (b.toNat≠10)) s+1 else 0
def qmR (b:UInt8):Bool:=[40,41,44,46,43,45,61,58,60,62].contains b.toNat
def twoB (a b:UInt8):Bool:=decide (a.toNat=58∧b.toNat=45) || decide (a.toNat=60∧b.toNat=61) || decide (a.toNat=62∧b.toNat=61) || decide (a.toNat=33∧b.toNat=61)
def hdIs (p:UInt8→Bool):List UInt8→Bool
 |[]=>false
 |b::_=>p b
def qfK (c:UInt8) (t:qU):Nat:=if hdIs (twoB c) t then 2 else if qmR c then 1 else 0
def valL (k:Int) (s:qU) (n:Nat):Option (Int×Nat×Vl):=match rdV (s.take n) with
 |some v=>some (k,n,v)
 |none=>none
def wdL:qU→Option (Int×Nat×Vl)
 |[]=>none
 |c::t =>
  if qhI c then (if runL innB t+1≤64 then some (1,runL innB t+1,0,0,[]) else none)
  else if qlq c then (if runL innB t+1≤64 then some (2,runL innB t+1,0,0,[]) else none)
  else if c.toNat=95 then (if hdIs innB t then none else some (3,1,0,0,[]))
  else if qbf c || (decide (c.toNat=45)&&hdIs qbf t) then valL 4 (c::t) (runL qbf t+1)
  else if c.toNat=34 then (if quoL t=0 then none else valL 5 (c::t) (quoL t+1))
  else if qfK c t=0 then none else some (6,qfK c t,0,0,[])
abbrev Wd:=Int×List UInt8×Vl×Int
def lexL:Nat→Nat→qU→List Wd×Option Nat
 |0,_,_=>([],none)
 |n+1,at_,s=>match s with
  |[]=>([],none)
  |_=>match wdL s with
   |none=>([],some at_)
   |some (k,m,v) =>
    let r:=lexL n (at_+m+gapL false (s.drop m)) (s.drop (m+gapL false (s.drop m)))
    ((k,s.take m,v,(at_:Int))::r.1,r.2)
def qhJ (s:qU):List Wd×Option Nat:=lexL (s.length+1) (gapL false s) (s.drop (gapL false s))
theorem qnJ (p:UInt8→Bool):∀ s:qU,runL p s≤s.length
 |[]=>Nat.le_refl _
 |b::s=>by
  have:=qnJ p s;unfold runL;split<;>simp only [List.length_cons]<;>omega
theorem qx5:∀ (e:Bool) (s:qU),quoE e s≤s.length
 |_,[]=>by cases ‹Bool›<;>exact Nat.le_refl _
 |true,_::s=>qBr (qx5 false s)
 |false,b::s=>by
  have h1:=qBr (qx5 true s);have h2:=qBr (qx5 false s);simp only [quoE,List.length_cons];split
  ·omega
  ·split
   ·exact h1
   ·exact h2
theorem qC9 (s:qU):quoL s≤s.length:=qx5 false s
theorem qtP:∀ (c:Bool) (s:qU),gapL c s≤s.length
 |_,[]=>Nat.le_refl _
 |c,b::s=>by
  have:=qtP (decide (b.toNat=37) || c&&decide (b.toNat≠10)) s;unfold gapL;split<;>simp only [List.length_cons]<;>omega
theorem qDB {s:List UInt8} {k:Int} {m:Nat} {v:Vl} (h:wdL s=some (k,m,v)):1≤m∧m≤s.length:=by
 cases s with
 |nil=>cases h
 |cons c t =>
  have h1:=qnJ innB t;have h2:=qnJ qbf t;have h3:=qC9 t;have h4:qfK c t≤(c::t).length:=by
   unfold qfK;cases t with
   |nil=>cases qmR c<;>simp [hdIs]
   |cons d t=>cases hdIs (twoB c) (d::t)<;>cases qmR c<;>simp
  simp only [wdL] at h
  simp only [List.length_cons] at h4 ⊢
  repeat' (split at h)
  all_goals first|(cases h;done)|skip
  all_goals first|(cases h;omega)|(unfold valL at h;split at h<;>first|(cases h;done)|(cases h;omega))
def cW:Cod Wd where
 enc t:=[.int .i64 t.1,.str t.2.1,.int .i64 t.2.2.1.1,.int .i64 t.2.2.1.2.1,.str t.2.2.1.2.2,.int .i64 t.2.2.2]
 dec c:=match c with|[.int .i64 a,.str b,.int .i64 k,.int .i64 n,.str s,.int .i64 p]=>some (a,b,(k,n,s),p)|_=>none
 k:=6
 of_dec c a h:=by
  split at h
  ·cases h;rfl
  ·cases h
 dec_of a:=rfl
 lock a:=rfl
 shut a:=rfl
 len a:=rfl
 one a:=rfl
@[simp] theorem okSize_cW (l:List Wd):qaB (rOf cW l) 6=true:=qdb cW l
@[simp] theorem okNews_cW (l:List Wd):qaH (rOf cW l) 6=true:=qdc cW l
@[simp] theorem qE9 (l:List Wd) (i:Nat):qa3 [.int .i64 0,.str [],.int .i64 0,.int .i64 0,.str [],.int .i64 0] (rOf cW l) i=decide (i < l.length):=qeg _ _ (fun _=>rfl) l i
@[simp] theorem qFL (l:List Wd) (i:Nat):xInt (rOf cW l) i 0=(l[i]?.getD (0,[],(0,0,[]),0)).1:=by unfold xInt;rw [qaY];cases l[i]?<;>rfl
@[simp] theorem qEN (l:List Wd) (i:Nat):xStr (rOf cW l) i 1=(l[i]?.getD (0,[],(0,0,[]),0)).2.1:=by unfold xStr;rw [qaY];cases l[i]?<;>rfl
@[simp] theorem xInt_cW2 (l:List Wd) (i:Nat):xInt (rOf cW l) i 2=(l[i]?.getD (0,[],(0,0,[]),0)).2.2.1.1:=by unfold xInt;rw [qaY];cases l[i]?<;>rfl
@[simp] theorem xInt_cW3 (l:List Wd) (i:Nat):xInt (rOf cW l) i 3=(l[i]?.getD (0,[],(0,0,[]),0)).2.2.1.2.1:=by unfold xInt;rw [qaY];cases l[i]?<;>rfl
@[simp] theorem xStr_cW4 (l:List Wd) (i:Nat):xStr (rOf cW l) i 4=(l[i]?.getD (0,[],(0,0,[]),0)).2.2.1.2.2:=by unfold xStr;rw [qaY];cases l[i]?<;>rfl
@[simp] theorem xInt_cW5 (l:List Wd) (i:Nat):xInt (rOf cW l) i 5=(l[i]?.getD (0,[],(0,0,[]),0)).2.2.2:=by unfold xInt;rw [qaY];cases l[i]?<;>rfl
theorem qIA (l:List Wd) (a:Int) (b:qU) (k n:Int) (s:qU) (p:Int):rOf cW l++[[.int .i64 a,.str b,.int .i64 k,.int .i64 n,.str s,.int .i64 p]]=rOf cW (l++[(a,b,(k,n,s),p)]):=by rw [qit];rfl
theorem qOR (a:Int) (b:qU) (k n:Int) (s:qU) (p:Int):([[.int .i64 a,.str b,.int .i64 k,.int .i64 n,.str s,.int .i64 p]]:List (List PV))=rOf cW [(a,b,(k,n,s),p)]:=rfl
@[simp] theorem qKb (l:List Wd) (a:Int) (b:qU) (k n:Int) (s:qU) (p:Int):[.int .i64 a,.str b,.int .i64 k,.int .i64 n,.str s,.int .i64 p]::rOf cW l=rOf cW ((a,b,(k,n,s),p)::l):=rfl
end Go.Pv
set_option maxHeartbeats 4000000
set_option maxRecDepth 200000
set_option linter.unusedSimpArgs false
set_option linter.unusedVariables false
namespace Go.Pv
open Go Go.Proofs
def qy7:GamT:=ofL []
theorem qHe (gl:Gl):qaU Tryz.prog gl (gam qy7):=qag
def qEQ:LpsT:=fun r fr σ=>.fail
def qu0 (c:Int):Tr PV:=.ite (iLe 48 c) (.ret (.bool (iLe c 57))) (.ret (.bool false))
theorem qNr (c:Int):(tcall tbT qy7 qEQ Tryz.f156 [.int .u8 c]).flat=qu0 c:=by kernel_rfl
def qsP (c:Int):Option PV:=(qu0 c).run
def qbq (c:Int):Bool:=(qcb (gVal (qsP c)))
def qbk (c:Int):Bool:=isW (qsP c) (.bool (qbq c))
def qoC:List PV→Tr PV|[.int .u8 c]=>.ite (qbk c) (.ret (.bool (qbq c))) (.fail)|_=>.fail
theorem qqs (gl:Gl):SimP Tryz.prog gl 156 fun args=>(qoC args).run:=by
 refine SimP.of_flat (G:=qy7) (L:=qEQ) qat (qHe gl ) qah  Tryz.func156 rfl (by rfl) (by kernel_rfl) (qae (by kernel_rfl)) ?_
 intro args x h;unfold qoC at h
 split at h
 ·exact (congrArg Tr.run (qNr _)).trans (qai h fun h=>by cases h)
 ·cases h
def qpZ:GamT:=ofL [(156,.pure qoC)]
theorem qzA (gl:Gl):qaU Tryz.prog gl (gam qpZ):=(qac (qqs gl) qag)
def qwY:LpsT:=fun r fr σ=>.fail
def qn0 (c:Int):Tr PV:=.ite (iLe 97 c) (.ite (iLe c 122) (.ret (.bool true)) (.ite (iLe 65 c) (.ite (iLe c 90) (.ret (.bool true)) (.ite (iEq c 95) (.ret (.bool true)) (.ite (qbk c) (.ret (.bool (qbq c))) .fail))) (.ite (iEq c 95) (.ret (.bool true)) (.ite (qbk c) (.ret (.bool (qbq c))) .fail)))) (.ite (iLe 65 c) (.ite (iLe c 90) (.ret (.bool true)) (.ite (iEq c 95) (.ret (.bool true)) (.ite (qbk c) (.ret (.bool (qbq c))) .fail))) (.ite (iEq c 95) (.ret (.bool true)) (.ite (qbk c) (.ret (.bool (qbq c))) .fail)))
theorem qHc (c:Int):(tcall tbT qpZ qwY Tryz.f155 [.int .u8 c]).flat=qn0 c:=by kernel_rfl
def qlO (c:Int):Option PV:=(qn0 c).run
def qcA (c:Int):Bool:=(qcb (gVal (qlO c)))
def qcf (c:Int):Bool:=isW (qlO c) (.bool (qcA c))
def qiF:List PV→Tr PV|[.int .u8 c]=>.ite (qcf c) (.ret (.bool (qcA c))) (.fail)|_=>.fail
theorem qkT (gl:Gl):SimP Tryz.prog gl 155 fun args=>(qiF args).run:=by
 refine SimP.of_flat (G:=qpZ) (L:=qwY) qat (qzA gl ) qah  Tryz.func155 rfl (by rfl) (by kernel_rfl) (qae (by kernel_rfl)) ?_
 intro args x h;unfold qiF at h
 split at h
 ·exact (congrArg Tr.run (qHc _)).trans (qai h fun h=>by cases h)
 ·cases h
def qvJ:GamT:=ofL [(155,.pure qiF),(156,.pure qoC)]
theorem qFQ (gl:Gl):qaU Tryz.prog gl (gam qvJ):=(qac (qkT gl) (qac (qqs gl) qag))
def qu9:Code:=qdT Tryz.f158 2
def qtV:LI:=⟨20,[0,1,5],fun e=>match e with|.exit 0=>[5]|_=>[],true⟩
def qrf:LpsT:=fun r fr σ=>.fail
def qhF (vs:List PV) (σ:Store):Option (PExit×List PV×Store):=lval (lstep tbT qvJ qrf qu9 qtV) vs σ
def qpv (s:qU) (n:Int):Tr LR:=.ite (iLt n (sLen s)) (.ite (qaR s n) (.ite (qcf (sAt s n)) (.ite (qcA (sAt s n)) (.ret (.next [.str s,.fn 155 [],.int .i64 (iAdd .i64 n 1)] ⟨[],[],[]⟩)) (.ret (.out (.exit 0) [.int .i64 n] ⟨[],[],[]⟩))) .fail) .fail) (.ret (.out (.exit 0) [.int .i64 n] ⟨[],[],[]⟩))
theorem qR1 (s:qU) (n:Int):lstep tbT qvJ qrf qu9 qtV [.str s,.fn 155 [],.int .i64 n] ⟨[],[],[]⟩=qpv s n:=by kernel_rfl
theorem qLu (s:qU) (n:Int):qhF [.str s,.fn 155 [],.int .i64 n] ⟨[],[],[]⟩=lnext qhF (qpv s n).run:=by unfold qhF;rw [qbu,qR1]
def qkN (s:qU) (n:Int):Tr LR:=.ite (iLt n (sLen s)) (.ite (qaR s n) (.ite (qbk (sAt s n)) (.ite (qbq (sAt s n)) (.ret (.next [.str s,.fn 156 [],.int .i64 (iAdd .i64 n 1)] ⟨[],[],[]⟩)) (.ret (.out (.exit 0) [.int .i64 n] ⟨[],[],[]⟩))) .fail) .fail) (.ret (.out (.exit 0) [.int .i64 n] ⟨[],[],[]⟩))
theorem qN7 (s:qU) (n:Int):lstep tbT qvJ qrf qu9 qtV [.str s,.fn 156 [],.int .i64 n] ⟨[],[],[]⟩=qkN s n:=by kernel_rfl
theorem qFc (s:qU) (n:Int):qhF [.str s,.fn 156 [],.int .i64 n] ⟨[],[],[]⟩=lnext qhF (qkN s n).run:=by unfold qhF;rw [qbu,qN7]
def qCG (s:qU) (n:Int):Option (PExit×List PV×Store):=qhF [.str s,.fn 155 [],.int .i64 n] ⟨[],[],[]⟩
def qxd (s:qU) (n:Int):Int:=(gInt (gOut (qCG s n) 0))
def qt9 (s:qU) (n:Int):Bool:=isW (qCG s n) ((.exit 0),[.int .i64 (qxd s n)],⟨[],[],[]⟩)
def qyQ (s:qU) (n:Int):Option (PExit×List PV×Store):=qhF [.str s,.fn 156 [],.int .i64 n] ⟨[],[],[]⟩
def qsQ (s:qU) (n:Int):Int:=(gInt (gOut (qyQ s n) 0))
def qqT (s:qU) (n:Int):Bool:=isW (qyQ s n) ((.exit 0),[.int .i64 (qsQ s n)],⟨[],[],[]⟩)
def qmk:List PV→Store→Tr (PExit×List PV×Store)|[.str s,.fn 155 [],.int .i64 n],⟨[],[],[]⟩=>.ite (qt9 s n) (.ret ((.exit 0),[.int .i64 (qxd s n)],⟨[],[],[]⟩)) (.fail)|[.str s,.fn 156 [],.int .i64 n],⟨[],[],[]⟩=>.ite (qqT s n) (.ret ((.exit 0),[.int .i64 (qsQ s n)],⟨[],[],[]⟩)) (.fail)|_,_=>.fail
theorem qOb:∀ vs σ r,(qmk vs σ).run=some r→qhF vs σ=some r:=by
 intro vs σ r h;unfold qmk at h
 split at h
 ·exact qai h fun h=>by cases h
 ·exact qai h fun h=>by cases h
 ·cases h
theorem qGo (gl:Gl):∀ fr σ e fr' σ',(orc qtV qmk fr σ).run=some (e,fr',σ')→LDoes Tryz.prog gl qu9 fr σ e fr' σ':=qck qat (qFQ gl ) qah (L:=qrf) (qae (by kernel_rfl)) (by kernel_rfl) qOb
def qE0:LpsT:=fun r fr σ=>bif Nat.beq r 2 then orc qtV qmk fr σ else .fail
def qCA (s:qU):Tr PV:=.ite (qt9 s 0) (.ret (.int .i64 (qxd s 0))) .fail
theorem qTW (s:qU):(tcall tbT qvJ qE0 Tryz.f158 [.str s,.fn 155 []]).flat=qCA s:=by kernel_rfl
def qEF (s:qU):Option PV:=(qCA s).run
def qoq (s:qU):Int:=(gInt (gVal (qEF s)))
def qst (s:qU):Bool:=isW (qEF s) (.int .i64 (qoq s))
def qyy (s:qU):Tr PV:=.ite (qqT s 0) (.ret (.int .i64 (qsQ s 0))) .fail
theorem qPv (s:qU):(tcall tbT qvJ qE0 Tryz.f158 [.str s,.fn 156 []]).flat=qyy s:=by kernel_rfl
def qyK (s:qU):Option PV:=(qyy s).run
def qaf (s:qU):Int:=(gInt (gVal (qyK s)))
def qbW (s:qU):Bool:=isW (qyK s) (.int .i64 (qaf s))
def qEZ:List PV→Tr PV|[.str s,.fn 155 []]=>.ite (qst s) (.ret (.int .i64 (qoq s))) (.fail)|[.str s,.fn 156 []]=>.ite (qbW s) (.ret (.int .i64 (qaf s))) (.fail)|_=>.fail
theorem qF2 (gl:Gl):SimP Tryz.prog gl 158 fun args=>(qEZ args).run:=by
 refine SimP.of_flat (G:=qvJ) (L:=qE0) qat (qFQ gl ) qah  Tryz.func158 rfl (by rfl) (by kernel_rfl) (qaX (L:=lps qE0) [(2,qu9)] (by kernel_rfl) (List.forall_mem_cons.2 ⟨fun fr σ e fr' σ' h=>qGo gl  fr σ e fr' σ' h,(List.forall_mem_nil _)⟩)) ?_
 intro args x h;unfold qEZ at h
 split at h
 ·exact (congrArg Tr.run (qTW _)).trans (qai h fun h=>by cases h)
 ·exact (congrArg Tr.run (qPv _)).trans (qai h fun h=>by cases h)
 ·cases h
def qly:GamT:=ofL []
theorem quB (gl:Gl):qaU Tryz.prog gl (gam qly):=qag
def qlK:Code:=qdT Tryz.f159 2
def ql1:LI:=⟨21,[0,3],fun e=>match e with|.ret=>[2]|.exit 0=>[]|_=>[],true⟩
def qnP:LpsT:=fun r fr σ=>.fail
def qdN (vs:List PV) (σ:Store):Option (PExit×List PV×Store):=lval (lstep tbT qly qnP qlK ql1) vs σ
def qfT (s:qU) (i:Int):Tr LR:=.ite (iLt i (sLen s)) (.ite (qaR s i) (.ite (iEq (sAt s i) 92) (.ret (.next [.str s,.int .i64 (iAdd .i64 (iAdd .i64 i 1) 1)] ⟨[],[],[]⟩)) (.ite (iEq (sAt s i) 34) (.ret (.out .ret [.int .i64 (iAdd .i64 i 1)] ⟨[],[],[]⟩)) (.ret (.next [.str s,.int .i64 (iAdd .i64 i 1)] ⟨[],[],[]⟩)))) .fail) (.ret (.out (.exit 0) [] ⟨[],[],[]⟩))
theorem qGB (s:qU) (i:Int):lstep tbT qly qnP qlK ql1 [.str s,.int .i64 i] ⟨[],[],[]⟩=qfT s i:=by kernel_rfl
theorem qw3 (s:qU) (i:Int):qdN [.str s,.int .i64 i] ⟨[],[],[]⟩=lnext qdN (qfT s i).run:=by unfold qdN;rw [qbu,qGB]
def qi8 (s:qU) (i:Int):Option (PExit×List PV×Store):=qdN [.str s,.int .i64 i] ⟨[],[],[]⟩
def qgz (s:qU) (i:Int):Int:=(gInt (gOut (qi8 s i) 0))
def qiq (s:qU) (i:Int):Bool:=isW (qi8 s i) (.ret,[.int .i64 (qgz s i)],⟨[],[],[]⟩)
def qh3 (s:qU) (i:Int):Bool:=isW (qi8 s i) ((.exit 0),[],⟨[],[],[]⟩)
def qgJ:List PV→Store→Tr (PExit×List PV×Store)|[.str s,.int .i64 i],⟨[],[],[]⟩=>.ite (qiq s i) (.ret (.ret,[.int .i64 (qgz s i)],⟨[],[],[]⟩)) (.ite (qh3 s i) (.ret ((.exit 0),[],⟨[],[],[]⟩)) (.fail))|_,_=>.fail
theorem qBl:∀ vs σ r,(qgJ vs σ).run=some r→qdN vs σ=some r:=by
 intro vs σ r h;unfold qgJ at h
 split at h
 ·exact qai h fun h=>qai h fun h=>by cases h
 ·cases h
theorem qyu (gl:Gl):∀ fr σ e fr' σ',(orc ql1 qgJ fr σ).run=some (e,fr',σ')→LDoes Tryz.prog gl qlK fr σ e fr' σ':=qck qat (quB gl ) qah (L:=qnP) (qae (by kernel_rfl)) (by kernel_rfl) qBl
def qt5:LpsT:=fun r fr σ=>bif Nat.beq r 2 then orc ql1 qgJ fr σ else .fail
def qqb (s:qU):Tr PV:=.ite (qiq s 1) (.ret (.int .i64 (qgz s 1))) (.ite (qh3 s 1) (.ret (.int .i64 0)) .fail)
theorem qIG (s:qU):(tcall tbT qly qt5 Tryz.f159 [.str s]).flat=qqb s:=by kernel_rfl
def qoP (s:qU):Option PV:=(qqb s).run
def qad (s:qU):Int:=(gInt (gVal (qoP s)))
def qbC (s:qU):Bool:=isW (qoP s) (.int .i64 (qad s))
def qtp:List PV→Tr PV|[.str s]=>.ite (qbC s) (.ret (.int .i64 (qad s))) (.fail)|_=>.fail
theorem qD4 (gl:Gl):SimP Tryz.prog gl 159 fun args=>(qtp args).run:=by
 refine SimP.of_flat (G:=qly) (L:=qt5) qat (quB gl ) qah  Tryz.func159 rfl (by rfl) (by kernel_rfl) (qaX (L:=lps qt5) [(2,qlK)] (by kernel_rfl) (List.forall_mem_cons.2 ⟨fun fr σ e fr' σ' h=>qyu gl  fr σ e fr' σ' h,(List.forall_mem_nil _)⟩)) ?_
 intro args x h;unfold qtp at h
 split at h
 ·exact (congrArg Tr.run (qIG _)).trans (qai h fun h=>by cases h)
 ·cases h
def qAJ:GamT:=ofL [(153,.pure qjF)]
theorem qFf (gl:Gl):qaU Tryz.prog gl (gam qAJ):=(qac (qo3 gl) qag)
def qxJ:Code:=qdT Tryz.f140 2
def qyC:LI:=⟨34,[0,3],fun e=>match e with|.ret=>[2]|.exit 0=>[3]|_=>[],true⟩
def qxp:LpsT:=fun r fr σ=>.fail
def qnw (vs:List PV) (σ:Store):Option (PExit×List PV×Store):=lval (lstep tbT qAJ qxp qxJ qyC) vs σ
def qkh (s:qU) (at_:Int):Tr LR:=.ite (iLt at_ (sLen s)) (.ite (qaR s at_) (.ite (iEq (sAt s at_) 32) (.ret (.next [.str s,.int .i64 (iAdd .i64 at_ 1)] ⟨[],[],[]⟩)) (.ite (iEq (sAt s at_) 9) (.ret (.next [.str s,.int .i64 (iAdd .i64 at_ 1)] ⟨[],[],[]⟩)) (.ite (iEq (sAt s at_) 10) (.ret (.next [.str s,.int .i64 (iAdd .i64 at_ 1)] ⟨[],[],[]⟩)) (.ite (iEq (sAt s at_) 13) (.ret (.next [.str s,.int .i64 (iAdd .i64 at_ 1)] ⟨[],[],[]⟩)) (.ite (iEq (sAt s at_) 37) (.ite (qaQ (qav at_) true (nNat at_) (nLen s) (nLen s)) (.ite (iLt (idxV (sSub s (nNat at_) (nLen s)) 10) 0) (.ret (.out .ret [.int .i64 (sLen s)] ⟨[],[],[]⟩)) (.ret (.next [.str s,.int .i64 (iAdd .i64 at_ (idxV (sSub s (nNat at_) (nLen s)) 10))] ⟨[],[],[]⟩))) .fail) (.ret (.out .ret [.int .i64 at_] ⟨[],[],[]⟩))))))) .fail) (.ret (.out (.exit 0) [.int .i64 at_] ⟨[],[],[]⟩))
theorem qRT (s:qU) (at_:Int):lstep tbT qAJ qxp qxJ qyC [.str s,.int .i64 at_] ⟨[],[],[]⟩=qkh s at_:=by kernel_rfl
theorem qKm (s:qU) (at_:Int):qnw [.str s,.int .i64 at_] ⟨[],[],[]⟩=lnext qnw (qkh s at_).run:=by unfold qnw;rw [qbu,qRT]
def qt4 (s:qU) (at_:Int):Option (PExit×List PV×Store):=qnw [.str s,.int .i64 at_] ⟨[],[],[]⟩
def qpD (s:qU) (at_:Int):Int:=(gInt (gOut (qt4 s at_) 0))
def qtx (s:qU) (at_:Int):Bool:=isW (qt4 s at_) (.ret,[.int .i64 (qpD s at_)],⟨[],[],[]⟩)
def qkd (s:qU) (at_:Int):Int:=(gInt (gOut (qt4 s at_) 0))
def que (s:qU) (at_:Int):Bool:=isW (qt4 s at_) ((.exit 0),[.int .i64 (qkd s at_)],⟨[],[],[]⟩)
def ql3:List PV→Store→Tr (PExit×List PV×Store)|[.str s,.int .i64 at_],⟨[],[],[]⟩=>.ite (qtx s at_) (.ret (.ret,[.int .i64 (qpD s at_)],⟨[],[],[]⟩)) (.ite (que s at_) (.ret ((.exit 0),[.int .i64 (qkd s at_)],⟨[],[],[]⟩)) (.fail))|_,_=>.fail
theorem qMS:∀ vs σ r,(ql3 vs σ).run=some r→qnw vs σ=some r:=by
 intro vs σ r h;unfold ql3 at h
 split at h
 ·exact qai h fun h=>qai h fun h=>by cases h
 ·cases h
theorem qGu (gl:Gl):∀ fr σ e fr' σ',(orc qyC ql3 fr σ).run=some (e,fr',σ')→LDoes Tryz.prog gl qxJ fr σ e fr' σ':=qck qat (qFf gl ) qah (L:=qxp) (qae (by kernel_rfl)) (by kernel_rfl) qMS
def qKR:LpsT:=fun r fr σ=>bif Nat.beq r 2 then orc qyC ql3 fr σ else .fail
def qBx (s:qU):Tr PV:=.ite (qtx s 0) (.ret (.int .i64 (qpD s 0))) (.ite (que s 0) (.ret (.int .i64 (qkd s 0))) .fail)
theorem qTN (s:qU):(tcall tbT qAJ qKR Tryz.f140 [.str s]).flat=qBx s:=by kernel_rfl
def qFR (s:qU):Option PV:=(qBx s).run
def qbn (s:qU):Int:=(gInt (gVal (qFR s)))
def qgR (s:qU):Bool:=isW (qFR s) (.int .i64 (qbn s))
def qLi:List PV→Tr PV|[.str s]=>.ite (qgR s) (.ret (.int .i64 (qbn s))) (.fail)|_=>.fail
theorem qM8 (gl:Gl):SimP Tryz.prog gl 140 fun args=>(qLi args).run:=by
 refine SimP.of_flat (G:=qAJ) (L:=qKR) qat (qFf gl ) qah  Tryz.func140 rfl (by rfl) (by kernel_rfl) (qaX (L:=lps qKR) [(2,qxJ)] (by kernel_rfl) (List.forall_mem_cons.2 ⟨fun fr σ e fr' σ' h=>qGu gl  fr σ e fr' σ' h,(List.forall_mem_nil _)⟩)) ?_
 intro args x h;unfold qLi at h
 split at h
 ·exact (congrArg Tr.run (qTN _)).trans (qai h fun h=>by cases h)
 ·cases h
def qDy:GamT:=ofL [(155,.pure qiF),(158,.pure qEZ)]
theorem qIw (gl:Gl):qaU Tryz.prog gl (gam qDy):=(qac (qkT gl) (qac (qF2 gl) qag))
def qKZ:LpsT:=fun r fr σ=>.fail
def qy6 (s:qU) (k:Int):Tr PV:=.ite (qst s) (.ite (qaQ true (qav (qoq s)) 0 (nNat (qoq s)) (nLen s)) (.ret (.tup [.agg [.int .i64 k,.str (sSub s 0 (nNat (qoq s))),.int .i64 0,.int .i64 0,.str [],.int .i64 0],.bool (iLe (qoq s) 64)])) .fail) .fail
theorem qQj (s:qU) (k:Int):(tcall tbT qDy qKZ Tryz.f154 [.str s,.int .i64 k]).flat=qy6 s k:=by kernel_rfl
def qiy (s:qU) (k:Int):Option PV:=(qy6 s k).run
def qhl (s:qU) (k:Int):Int:=(gInt (gAt (gCs (gAt (gCs (gVal (qiy s k))) 0)) 0))
def qg6 (s:qU) (k:Int):List UInt8:=(gStr (gAt (gCs (gAt (gCs (gVal (qiy s k))) 0)) 1))
def qfs (s:qU) (k:Int):Int:=(gInt (gAt (gCs (gAt (gCs (gVal (qiy s k))) 0)) 2))
def qfB (s:qU) (k:Int):Int:=(gInt (gAt (gCs (gAt (gCs (gVal (qiy s k))) 0)) 3))
def qfw (s:qU) (k:Int):List UInt8:=(gStr (gAt (gCs (gAt (gCs (gVal (qiy s k))) 0)) 4))
def qfy (s:qU) (k:Int):Int:=(gInt (gAt (gCs (gAt (gCs (gVal (qiy s k))) 0)) 5))
def qhz (s:qU) (k:Int):Bool:=(qcb (gAt (gCs (gVal (qiy s k))) 1))
def qfo (s:qU) (k:Int):Bool:=isW (qiy s k) (.tup [.agg [.int .i64 (qhl s k),.str (qg6 s k),.int .i64 (qfs s k),.int .i64 (qfB s k),.str (qfw s k),.int .i64 (qfy s k)],.bool (qhz s k)])
def qBF:List PV→Tr PV|[.str s,.int .i64 k]=>.ite (qfo s k) (.ret (.tup [.agg [.int .i64 (qhl s k),.str (qg6 s k),.int .i64 (qfs s k),.int .i64 (qfB s k),.str (qfw s k),.int .i64 (qfy s k)],.bool (qhz s k)])) (.fail)|_=>.fail
theorem qI4 (gl:Gl):SimP Tryz.prog gl 154 fun args=>(qBF args).run:=by
 refine SimP.of_flat (G:=qDy) (L:=qKZ) qat (qIw gl ) qah  Tryz.func154 rfl (by rfl) (by kernel_rfl) (qae (by kernel_rfl)) ?_
 intro args x h;unfold qBF at h
 split at h
 ·exact (congrArg Tr.run (qQj _ _)).trans (qai h fun h=>by cases h)
 ·cases h
def qtk:GamT:=ofL [(169,.pure qwH)]
theorem qBY (gl:Gl) (hg:GlOk gl):qaU Tryz.prog gl (gam qtk):=(qac (qNm hg) qag)
def qAD:LpsT:=fun r fr σ=>.fail
def qp3 (s:qU) (k:Int):Tr PV:=.ite (qnS s) (.ret (.tup [.agg [.int .i64 k,.str s,.int .i64 (kRd s),.int .i64 (nRd s),.str (sRd s),.int .i64 0],.bool (iEq (eRd s) 0)])) .fail
theorem qJV (s:qU) (k:Int):(tcall tbT qtk qAD Tryz.f157 [.str s,.int .i64 k]).flat=qp3 s k:=by kernel_rfl
def qeN (s:qU) (k:Int):Option PV:=(qp3 s k).run
def qaS (s:qU) (k:Int):Int:=(gInt (gAt (gCs (gAt (gCs (gVal (qeN s k))) 0)) 0))
def qaW (s:qU) (k:Int):List UInt8:=(gStr (gAt (gCs (gAt (gCs (gVal (qeN s k))) 0)) 1))
def qaL (s:qU) (k:Int):Int:=(gInt (gAt (gCs (gAt (gCs (gVal (qeN s k))) 0)) 2))
def qaN (s:qU) (k:Int):Int:=(gInt (gAt (gCs (gAt (gCs (gVal (qeN s k))) 0)) 3))
def qaO (s:qU) (k:Int):List UInt8:=(gStr (gAt (gCs (gAt (gCs (gVal (qeN s k))) 0)) 4))
def qaM (s:qU) (k:Int):Int:=(gInt (gAt (gCs (gAt (gCs (gVal (qeN s k))) 0)) 5))
def qaT (s:qU) (k:Int):Bool:=(qcb (gAt (gCs (gVal (qeN s k))) 1))
def qaK (s:qU) (k:Int):Bool:=isW (qeN s k) (.tup [.agg [.int .i64 (qaS s k),.str (qaW s k),.int .i64 (qaL s k),.int .i64 (qaN s k),.str (qaO s k),.int .i64 (qaM s k)],.bool (qaT s k)])
def qtN:List PV→Tr PV|[.str s,.int .i64 k]=>.ite (qaK s k) (.ret (.tup [.agg [.int .i64 (qaS s k),.str (qaW s k),.int .i64 (qaL s k),.int .i64 (qaN s k),.str (qaO s k),.int .i64 (qaM s k)],.bool (qaT s k)])) (.fail)|_=>.fail
theorem qB3 (gl:Gl) (hg:GlOk gl):SimP Tryz.prog gl 157 fun args=>(qtN args).run:=by
 refine SimP.of_flat (G:=qtk) (L:=qAD) qat (qBY gl hg ) qah  Tryz.func157 rfl (by rfl) (by kernel_rfl) (qae (by kernel_rfl)) ?_
 intro args x h;unfold qtN at h
 split at h
 ·exact (congrArg Tr.run (qJV _ _)).trans (qai h fun h=>by cases h)
 ·cases h
def qvl:GamT:=ofL [(153,.pure qjF),(154,.pure qBF),(155,.pure qiF),(156,.pure qoC),(157,.pure qtN),(158,.pure qEZ),(159,.pure qtp),(160,.pure qri),(qDa+0,.glob qIH)]
theorem qz3 (gl:Gl) (hg:GlLex gl):qaU Tryz.prog gl (gam qvl):=(qac (qo3 gl) (qac (qI4 gl) (qac (qkT gl) (qac (qqs gl) (qac (qB3 gl hg.toGlOk) (qac (qF2 gl) (qac (qD4 gl) (qac (qwg gl) (qbv (K:=.glob qIH) (qEw hg) qag)))))))))
def qsp:Code:=qdT Tryz.f141 16
def qrq:LI:=⟨90,[0,2,4,74,75],fun e=>match e with|.ret=>[2,3]|.exit 1=>[0,2,4]|_=>[],true⟩
def qu8:LpsT:=fun r fr σ=>.fail
def qmu (vs:List PV) (σ:Store):Option (PExit×List PV×Store):=lval (lstep tbT qvl qu8 qsp qrq) vs σ
def qcO (s:qU) (n:Int) (s2:qU) (s3:qU) (s4:qU) (s5:qU) (n2:Int) (n3:Int) (s6:qU) (n4:Int) (n5:Int) (s7:qU) (n6:Int):Tr LR:=.ite (iLt n2 4) (.ite (iEq n2 (Int.ofNat 0)) (.ite (qft s s2) (.ret (.out .ret [.ptr 0 0,.bool true] (Store.mk [[.int .i64 6,.str s2,.int .i64 0,.int .i64 0,.str [],.int .i64 0]] [] [120]))) (.ret (.next [.str s,.ptr 0 0,.int .u8 n,.agg [.str s2,.str s3,.str s4,.str s5],.int .i64 (iAdd .i64 n2 1)] (Store.mk [[.int .i64 n3,.str s6,.int .i64 n4,.int .i64 n5,.str s7,.int .i64 n6]] [] [120])))) (.ite (iEq n2 (Int.ofNat 1)) (.ite (qft s s3) (.ret (.out .ret [.ptr 0 0,.bool true] (Store.mk [[.int .i64 6,.str s3,.int .i64 0,.int .i64 0,.str [],.int .i64 0]] [] [120]))) (.ret (.next [.str s,.ptr 0 0,.int .u8 n,.agg [.str s2,.str s3,.str s4,.str s5],.int .i64 (iAdd .i64 n2 1)] (Store.mk [[.int .i64 n3,.str s6,.int .i64 n4,.int .i64 n5,.str s7,.int .i64 n6]] [] [120])))) (.ite (iEq n2 (Int.ofNat 2)) (.ite (qft s s4) (.ret (.out .ret [.ptr 0 0,.bool true] (Store.mk [[.int .i64 6,.str s4,.int .i64 0,.int .i64 0,.str [],.int .i64 0]] [] [120]))) (.ret (.next [.str s,.ptr 0 0,.int .u8 n,.agg [.str s2,.str s3,.str s4,.str s5],.int .i64 (iAdd .i64 n2 1)] (Store.mk [[.int .i64 n3,.str s6,.int .i64 n4,.int .i64 n5,.str s7,.int .i64 n6]] [] [120])))) (.ite (iEq n2 (Int.ofNat 3)) (.ite (qft s s5) (.ret (.out .ret [.ptr 0 0,.bool true] (Store.mk [[.int .i64 6,.str s5,.int .i64 0,.int .i64 0,.str [],.int .i64 0]] [] [120]))) (.ret (.next [.str s,.ptr 0 0,.int .u8 n,.agg [.str s2,.str s3,.str s4,.str s5],.int .i64 (iAdd .i64 n2 1)] (Store.mk [[.int .i64 n3,.str s6,.int .i64 n4,.int .i64 n5,.str s7,.int .i64 n6]] [] [120])))) .fail)))) (.ret (.out (.exit 1) [.str s,.ptr 0 0,.int .u8 n] (Store.mk [[.int .i64 n3,.str s6,.int .i64 n4,.int .i64 n5,.str s7,.int .i64 n6]] [] [120])))
theorem qNN (s:qU) (n:Int) (s2:qU) (s3:qU) (s4:qU) (s5:qU) (n2:Int) (n3:Int) (s6:qU) (n4:Int) (n5:Int) (s7:qU) (n6:Int):lstep tbT qvl qu8 qsp qrq [.str s,.ptr 0 0,.int .u8 n,.agg [.str s2,.str s3,.str s4,.str s5],.int .i64 n2] ⟨[[.int .i64 n3,.str s6,.int .i64 n4,.int .i64 n5,.str s7,.int .i64 n6]],[],[120]⟩=qcO s n s2 s3 s4 s5 n2 n3 s6 n4 n5 s7 n6:=by kernel_rfl
theorem qoD (s:qU) (n:Int) (s2:qU) (s3:qU) (s4:qU) (s5:qU) (n2:Int) (n3:Int) (s6:qU) (n4:Int) (n5:Int) (s7:qU) (n6:Int):qmu [.str s,.ptr 0 0,.int .u8 n,.agg [.str s2,.str s3,.str s4,.str s5],.int .i64 n2] ⟨[[.int .i64 n3,.str s6,.int .i64 n4,.int .i64 n5,.str s7,.int .i64 n6]],[],[120]⟩=lnext qmu (qcO s n s2 s3 s4 s5 n2 n3 s6 n4 n5 s7 n6).run:=by unfold qmu;rw [qbu,qNN]
def qb5 (s:qU) (n:Int) (s2:qU) (s3:qU) (s4:qU) (s5:qU) (n2:Int) (n3:Int) (s6:qU) (n4:Int) (n5:Int) (s7:qU) (n6:Int):Option (PExit×List PV×Store):=qmu [.str s,.ptr 0 0,.int .u8 n,.agg [.str s2,.str s3,.str s4,.str s5],.int .i64 n2] ⟨[[.int .i64 n3,.str s6,.int .i64 n4,.int .i64 n5,.str s7,.int .i64 n6]],[],[120]⟩
def qbG (s:qU) (n:Int) (s2:qU) (s3:qU) (s4:qU) (s5:qU) (n2:Int) (n3:Int) (s6:qU) (n4:Int) (n5:Int) (s7:qU) (n6:Int):Bool:=(qcb (gOut (qb5 s n s2 s3 s4 s5 n2 n3 s6 n4 n5 s7 n6) 1))
def qbF (s:qU) (n:Int) (s2:qU) (s3:qU) (s4:qU) (s5:qU) (n2:Int) (n3:Int) (s6:qU) (n4:Int) (n5:Int) (s7:qU) (n6:Int):Int:=(gInt (gAt (gObj (qb5 s n s2 s3 s4 s5 n2 n3 s6 n4 n5 s7 n6) 0) 0))
def qbE (s:qU) (n:Int) (s2:qU) (s3:qU) (s4:qU) (s5:qU) (n2:Int) (n3:Int) (s6:qU) (n4:Int) (n5:Int) (s7:qU) (n6:Int):List UInt8:=(gStr (gAt (gObj (qb5 s n s2 s3 s4 s5 n2 n3 s6 n4 n5 s7 n6) 0) 1))
def qbj (s:qU) (n:Int) (s2:qU) (s3:qU) (s4:qU) (s5:qU) (n2:Int) (n3:Int) (s6:qU) (n4:Int) (n5:Int) (s7:qU) (n6:Int):Int:=(gInt (gAt (gObj (qb5 s n s2 s3 s4 s5 n2 n3 s6 n4 n5 s7 n6) 0) 2))
def qbh (s:qU) (n:Int) (s2:qU) (s3:qU) (s4:qU) (s5:qU) (n2:Int) (n3:Int) (s6:qU) (n4:Int) (n5:Int) (s7:qU) (n6:Int):Int:=(gInt (gAt (gObj (qb5 s n s2 s3 s4 s5 n2 n3 s6 n4 n5 s7 n6) 0) 3))
def qbi (s:qU) (n:Int) (s2:qU) (s3:qU) (s4:qU) (s5:qU) (n2:Int) (n3:Int) (s6:qU) (n4:Int) (n5:Int) (s7:qU) (n6:Int):List UInt8:=(gStr (gAt (gObj (qb5 s n s2 s3 s4 s5 n2 n3 s6 n4 n5 s7 n6) 0) 4))
def qbg (s:qU) (n:Int) (s2:qU) (s3:qU) (s4:qU) (s5:qU) (n2:Int) (n3:Int) (s6:qU) (n4:Int) (n5:Int) (s7:qU) (n6:Int):Int:=(gInt (gAt (gObj (qb5 s n s2 s3 s4 s5 n2 n3 s6 n4 n5 s7 n6) 0) 5))
def qbr (s:qU) (n:Int) (s2:qU) (s3:qU) (s4:qU) (s5:qU) (n2:Int) (n3:Int) (s6:qU) (n4:Int) (n5:Int) (s7:qU) (n6:Int):Bool:=isW (qb5 s n s2 s3 s4 s5 n2 n3 s6 n4 n5 s7 n6) (.ret,[.ptr 0 0,.bool (qbG s n s2 s3 s4 s5 n2 n3 s6 n4 n5 s7 n6)],⟨[[.int .i64 (qbF s n s2 s3 s4 s5 n2 n3 s6 n4 n5 s7 n6),.str (qbE s n s2 s3 s4 s5 n2 n3 s6 n4 n5 s7 n6),.int .i64 (qbj s n s2 s3 s4 s5 n2 n3 s6 n4 n5 s7 n6),.int .i64 (qbh s n s2 s3 s4 s5 n2 n3 s6 n4 n5 s7 n6),.str (qbi s n s2 s3 s4 s5 n2 n3 s6 n4 n5 s7 n6),.int .i64 (qbg s n s2 s3 s4 s5 n2 n3 s6 n4 n5 s7 n6)]],[],[120]⟩)
def qaP (s:qU) (n:Int) (s2:qU) (s3:qU) (s4:qU) (s5:qU) (n2:Int) (n3:Int) (s6:qU) (n4:Int) (n5:Int) (s7:qU) (n6:Int):List UInt8:=(gStr (gOut (qb5 s n s2 s3 s4 s5 n2 n3 s6 n4 n5 s7 n6) 0))
def qbx (s:qU) (n:Int) (s2:qU) (s3:qU) (s4:qU) (s5:qU) (n2:Int) (n3:Int) (s6:qU) (n4:Int) (n5:Int) (s7:qU) (n6:Int):Int:=(gInt (gOut (qb5 s n s2 s3 s4 s5 n2 n3 s6 n4 n5 s7 n6) 2))
def qnX (s:qU) (n:Int) (s2:qU) (s3:qU) (s4:qU) (s5:qU) (n2:Int) (n3:Int) (s6:qU) (n4:Int) (n5:Int) (s7:qU) (n6:Int):Int:=(gInt (gAt (gObj (qb5 s n s2 s3 s4 s5 n2 n3 s6 n4 n5 s7 n6) 0) 0))
def qn5 (s:qU) (n:Int) (s2:qU) (s3:qU) (s4:qU) (s5:qU) (n2:Int) (n3:Int) (s6:qU) (n4:Int) (n5:Int) (s7:qU) (n6:Int):List UInt8:=(gStr (gAt (gObj (qb5 s n s2 s3 s4 s5 n2 n3 s6 n4 n5 s7 n6) 0) 1))
def qn4 (s:qU) (n:Int) (s2:qU) (s3:qU) (s4:qU) (s5:qU) (n2:Int) (n3:Int) (s6:qU) (n4:Int) (n5:Int) (s7:qU) (n6:Int):Int:=(gInt (gAt (gObj (qb5 s n s2 s3 s4 s5 n2 n3 s6 n4 n5 s7 n6) 0) 2))
def qnq (s:qU) (n:Int) (s2:qU) (s3:qU) (s4:qU) (s5:qU) (n2:Int) (n3:Int) (s6:qU) (n4:Int) (n5:Int) (s7:qU) (n6:Int):Int:=(gInt (gAt (gObj (qb5 s n s2 s3 s4 s5 n2 n3 s6 n4 n5 s7 n6) 0) 3))
def qnn (s:qU) (n:Int) (s2:qU) (s3:qU) (s4:qU) (s5:qU) (n2:Int) (n3:Int) (s6:qU) (n4:Int) (n5:Int) (s7:qU) (n6:Int):List UInt8:=(gStr (gAt (gObj (qb5 s n s2 s3 s4 s5 n2 n3 s6 n4 n5 s7 n6) 0) 4))
def qnZ (s:qU) (n:Int) (s2:qU) (s3:qU) (s4:qU) (s5:qU) (n2:Int) (n3:Int) (s6:qU) (n4:Int) (n5:Int) (s7:qU) (n6:Int):Int:=(gInt (gAt (gObj (qb5 s n s2 s3 s4 s5 n2 n3 s6 n4 n5 s7 n6) 0) 5))
def qbL (s:qU) (n:Int) (s2:qU) (s3:qU) (s4:qU) (s5:qU) (n2:Int) (n3:Int) (s6:qU) (n4:Int) (n5:Int) (s7:qU) (n6:Int):Bool:=isW (qb5 s n s2 s3 s4 s5 n2 n3 s6 n4 n5 s7 n6) ((.exit 1),[.str (qaP s n s2 s3 s4 s5 n2 n3 s6 n4 n5 s7 n6),.ptr 0 0,.int .u8 (qbx s n s2 s3 s4 s5 n2 n3 s6 n4 n5 s7 n6)],⟨[[.int .i64 (qnX s n s2 s3 s4 s5 n2 n3 s6 n4 n5 s7 n6),.str (qn5 s n s2 s3 s4 s5 n2 n3 s6 n4 n5 s7 n6),.int .i64 (qn4 s n s2 s3 s4 s5 n2 n3 s6 n4 n5 s7 n6),.int .i64 (qnq s n s2 s3 s4 s5 n2 n3 s6 n4 n5 s7 n6),.str (qnn s n s2 s3 s4 s5 n2 n3 s6 n4 n5 s7 n6),.int .i64 (qnZ s n s2 s3 s4 s5 n2 n3 s6 n4 n5 s7 n6)]],[],[120]⟩)
def qjM:List PV→Store→Tr (PExit×List PV×Store)|[.str s,.ptr 0 0,.int .u8 n,.agg [.str s2,.str s3,.str s4,.str s5],.int .i64 n2],⟨[[.int .i64 n3,.str s6,.int .i64 n4,.int .i64 n5,.str s7,.int .i64 n6]],[],[120]⟩=>.ite (qbr s n s2 s3 s4 s5 n2 n3 s6 n4 n5 s7 n6) (.ret (.ret,[.ptr 0 0,.bool (qbG s n s2 s3 s4 s5 n2 n3 s6 n4 n5 s7 n6)],⟨[[.int .i64 (qbF s n s2 s3 s4 s5 n2 n3 s6 n4 n5 s7 n6),.str (qbE s n s2 s3 s4 s5 n2 n3 s6 n4 n5 s7 n6),.int .i64 (qbj s n s2 s3 s4 s5 n2 n3 s6 n4 n5 s7 n6),.int .i64 (qbh s n s2 s3 s4 s5 n2 n3 s6 n4 n5 s7 n6),.str (qbi s n s2 s3 s4 s5 n2 n3 s6 n4 n5 s7 n6),.int .i64 (qbg s n s2 s3 s4 s5 n2 n3 s6 n4 n5 s7 n6)]],[],[120]⟩)) (.ite (qbL s n s2 s3 s4 s5 n2 n3 s6 n4 n5 s7 n6) (.ret ((.exit 1),[.str (qaP s n s2 s3 s4 s5 n2 n3 s6 n4 n5 s7 n6),.ptr 0 0,.int .u8 (qbx s n s2 s3 s4 s5 n2 n3 s6 n4 n5 s7 n6)],⟨[[.int .i64 (qnX s n s2 s3 s4 s5 n2 n3 s6 n4 n5 s7 n6),.str (qn5 s n s2 s3 s4 s5 n2 n3 s6 n4 n5 s7 n6),.int .i64 (qn4 s n s2 s3 s4 s5 n2 n3 s6 n4 n5 s7 n6),.int .i64 (qnq s n s2 s3 s4 s5 n2 n3 s6 n4 n5 s7 n6),.str (qnn s n s2 s3 s4 s5 n2 n3 s6 n4 n5 s7 n6),.int .i64 (qnZ s n s2 s3 s4 s5 n2 n3 s6 n4 n5 s7 n6)]],[],[120]⟩)) (.fail))|_,_=>.fail
theorem qII:∀ vs σ r,(qjM vs σ).run=some r→qmu vs σ=some r:=by
 intro vs σ r h;unfold qjM at h
 split at h
 ·exact qai h fun h=>qai h fun h=>by cases h
 ·cases h
theorem qB6 (gl:Gl) (hg:GlLex gl):∀ fr σ e fr' σ',(orc qrq qjM fr σ).run=some (e,fr',σ')→LDoes Tryz.prog gl qsp fr σ e fr' σ':=qck qat (qz3 gl hg ) qah (L:=qu8) (qae (by kernel_rfl)) (by kernel_rfl) qII
def qBf:LpsT:=fun r fr σ=>bif Nat.beq r 16 then orc qrq qjM fr σ else .fail
def qgS (v:qU):Tr PV:=.ite (qaR v 0) (.ite (iLt 1 (sLen v)) (.ite (qaR v 1) (.ite (iLe 97 (sAt v 0)) (.ite (iLe (sAt v 0) 122) (.ite (qfo v 1) (.ret (.tup [.agg [.int .i64 (qhl v 1),.str (qg6 v 1),.int .i64 (qfs v 1),.int .i64 (qfB v 1),.str (qfw v 1),.int .i64 (qfy v 1)],.bool (qhz v 1)])) .fail) (.ite (iLe 65 (sAt v 0)) (.ite (iLe (sAt v 0) 90) (.ite (qfo v 2) (.ret (.tup [.agg [.int .i64 (qhl v 2),.str (qg6 v 2),.int .i64 (qfs v 2),.int .i64 (qfB v 2),.str (qfw v 2),.int .i64 (qfy v 2)],.bool (qhz v 2)])) .fail) (.ite (iEq (sAt v 0) 95) (.ite (qcf (sAt v 1)) (.ret (.tup [.agg [.int .i64 3,.str [95],.int .i64 0,.int .i64 0,.str [],.int .i64 0],.bool (bNot (qcA (sAt v 1)))])) .fail) (.ite (qbk (sAt v 0)) (.ite (qbq (sAt v 0)) (.ite (qaQ (qav 1) true (nNat 1) (nLen v) (nLen v)) (.ite (qbW (sSub v (nNat 1) (nLen v))) (.ite (qaQ true (qav (iAdd .i64 1 (qaf (sSub v (nNat 1) (nLen v))))) 0 (nNat (iAdd .i64 1 (qaf (sSub v (nNat 1) (nLen v))))) (nLen v)) (.ite (qaK (sSub v 0 (nNat (iAdd .i64 1 (qaf (sSub v (nNat 1) (nLen v)))))) 4) (.ret (.tup [.agg [.int .i64 (qaS (sSub v 0 (nNat (iAdd .i64 1 (qaf (sSub v (nNat 1) (nLen v)))))) 4),.str (qaW (sSub v 0 (nNat (iAdd .i64 1 (qaf (sSub v (nNat 1) (nLen v)))))) 4),.int .i64 (qaL (sSub v 0 (nNat (iAdd .i64 1 (qaf (sSub v (nNat 1) (nLen v)))))) 4),.int .i64 (qaN (sSub v 0 (nNat (iAdd .i64 1 (qaf (sSub v (nNat 1) (nLen v)))))) 4),.str (qaO (sSub v 0 (nNat (iAdd .i64 1 (qaf (sSub v (nNat 1) (nLen v)))))) 4),.int .i64 (qaM (sSub v 0 (nNat (iAdd .i64 1 (qaf (sSub v (nNat 1) (nLen v)))))) 4)],.bool (qaT (sSub v 0 (nNat (iAdd .i64 1 (qaf (sSub v (nNat 1) (nLen v)))))) 4)])) .fail) .fail) .fail) .fail) (.ite (iEq (sAt v 0) 45) (.ite (qbk (sAt v 1)) (.ite (qbq (sAt v 1))
 (.ite (qaQ (qav 1) true (nNat 1) (nLen v) (nLen v)) (.ite (qbW (sSub v (nNat 1) (nLen v))) (.ite (qaQ true (qav (iAdd .i64 1 (qaf (sSub v (nNat 1) (nLen v))))) 0 (nNat (iAdd .i64 1 (qaf (sSub v (nNat 1) (nLen v))))) (nLen v)) (.ite (qaK (sSub v 0 (nNat (iAdd .i64 1 (qaf (sSub v (nNat 1) (nLen v)))))) 4) (.ret (.tup [.agg [.int .i64 (qaS (sSub v 0 (nNat (iAdd .i64 1 (qaf (sSub v (nNat 1) (nLen v)))))) 4),.str (qaW (sSub v 0 (nNat (iAdd .i64 1 (qaf (sSub v (nNat 1) (nLen v)))))) 4),.int .i64 (qaL (sSub v 0 (nNat (iAdd .i64 1 (qaf (sSub v (nNat 1) (nLen v)))))) 4),.int .i64 (qaN (sSub v 0 (nNat (iAdd .i64 1 (qaf (sSub v (nNat 1) (nLen v)))))) 4),.str (qaO (sSub v 0 (nNat (iAdd .i64 1 (qaf (sSub v (nNat 1) (nLen v)))))) 4),.int .i64 (qaM (sSub v 0 (nNat (iAdd .i64 1 (qaf (sSub v (nNat 1) (nLen v)))))) 4)],.bool (qaT (sSub v 0 (nNat (iAdd .i64 1 (qaf (sSub v (nNat 1) (nLen v)))))) 4)])) .fail) .fail) .fail) .fail) (.ite (iEq (sAt v 0) 34) (.ite (qbC v) (.ite (qaQ true (qav (qad v)) 0 (nNat (qad v)) (nLen v)) (.ite (qaK (sSub v 0 (nNat (qad v))) 5) (.ret (.tup [.agg [.int .i64 (qaS (sSub v 0 (nNat (qad v))) 5),.str (qaW (sSub v 0 (nNat (qad v))) 5),.int .i64 (qaL (sSub v 0 (nNat (qad v))) 5),.int .i64 (qaN (sSub v 0 (nNat (qad v))) 5),.str (qaO (sSub v 0 (nNat (qad v))) 5),.int .i64 (qaM (sSub v 0 (nNat (qad v))) 5)],.bool (qaT (sSub v 0 (nNat (qad v))) 5)])) .fail) .fail) .fail) (.ite (qbr v (sAt v 0) [58,45] [60,61] [62,61] [33,61] 0 0 [] 0 0 [] 0) (.ret (.tup [.agg [.int .i64 (qbF v (sAt v 0) [58,45] [60,61] [62,61] [33,61] 0 0 [] 0 0 [] 0),.str (qbE v (sAt v 0) [58,45] [60,61] [62,61] [33,61] 0 0 [] 0 0 [] 0),.int .i64 (qbj v (sAt v 0) [58,45] [60,61] [62,61] [33,61] 0 0 [] 0 0 [] 0),
 .int .i64 (qbh v (sAt v 0) [58,45] [60,61] [62,61] [33,61] 0 0 [] 0 0 [] 0),.str (qbi v (sAt v 0) [58,45] [60,61] [62,61] [33,61] 0 0 [] 0 0 [] 0),.int .i64 (qbg v (sAt v 0) [58,45] [60,61] [62,61] [33,61] 0 0 [] 0 0 [] 0)],.bool (qbG v (sAt v 0) [58,45] [60,61] [62,61] [33,61] 0 0 [] 0 0 [] 0)])) (.ite (qbL v (sAt v 0) [58,45] [60,61] [62,61] [33,61] 0 0 [] 0 0 [] 0) (.ite (qaQ true (qav 1) 0 (nNat 1) (nLen (qaP v (sAt v 0) [58,45] [60,61] [62,61] [33,61] 0 0 [] 0 0 [] 0))) (.ret (.tup [.agg [.int .i64 6,.str (sSub (qaP v (sAt v 0) [58,45] [60,61] [62,61] [33,61] 0 0 [] 0 0 [] 0) 0 (nNat 1)),.int .i64 0,.int .i64 0,.str [],.int .i64 0],.bool (iLe 0 (idxV [40,41,44,46,43,45,61,58,60,62] (qbx v (sAt v 0) [58,45] [60,61] [62,61] [33,61] 0 0 [] 0 0 [] 0)))])) .fail) .fail)))) .fail) (.ite (iEq (sAt v 0) 34) (.ite (qbC v) (.ite (qaQ true (qav (qad v)) 0 (nNat (qad v)) (nLen v)) (.ite (qaK (sSub v 0 (nNat (qad v))) 5) (.ret (.tup [.agg [.int .i64 (qaS (sSub v 0 (nNat (qad v))) 5),.str (qaW (sSub v 0 (nNat (qad v))) 5),.int .i64 (qaL (sSub v 0 (nNat (qad v))) 5),.int .i64 (qaN (sSub v 0 (nNat (qad v))) 5),.str (qaO (sSub v 0 (nNat (qad v))) 5),.int .i64 (qaM (sSub v 0 (nNat (qad v))) 5)],.bool (qaT (sSub v 0 (nNat (qad v))) 5)])) .fail) .fail) .fail) (.ite (qbr v (sAt v 0) [58,45] [60,61] [62,61] [33,61] 0 0 [] 0 0 [] 0) (.ret (.tup [.agg [.int .i64 (qbF v (sAt v 0) [58,45] [60,61] [62,61] [33,61] 0 0 [] 0 0 [] 0),.str (qbE v (sAt v 0) [58,45] [60,61] [62,61] [33,61] 0 0 [] 0 0 [] 0),.int .i64 (qbj v (sAt v 0) [58,45] [60,61] [62,61] [33,61] 0 0 [] 0 0 [] 0),.int .i64 (qbh v (sAt v 0) [58,45] [60,61] [62,61] [33,61] 0 0 [] 0 0 [] 0),.str (qbi v (sAt v 0) [58,45] [60,61] [62,61] [33,61] 0 0 [] 0 0 [] 0),
 .int .i64 (qbg v (sAt v 0) [58,45] [60,61] [62,61] [33,61] 0 0 [] 0 0 [] 0)],.bool (qbG v (sAt v 0) [58,45] [60,61] [62,61] [33,61] 0 0 [] 0 0 [] 0)])) (.ite (qbL v (sAt v 0) [58,45] [60,61] [62,61] [33,61] 0 0 [] 0 0 [] 0) (.ite (qaQ true (qav 1) 0 (nNat 1) (nLen (qaP v (sAt v 0) [58,45] [60,61] [62,61] [33,61] 0 0 [] 0 0 [] 0))) (.ret (.tup [.agg [.int .i64 6,.str (sSub (qaP v (sAt v 0) [58,45] [60,61] [62,61] [33,61] 0 0 [] 0 0 [] 0) 0 (nNat 1)),.int .i64 0,.int .i64 0,.str [],.int .i64 0],.bool (iLe 0 (idxV [40,41,44,46,43,45,61,58,60,62] (qbx v (sAt v 0) [58,45] [60,61] [62,61] [33,61] 0 0 [] 0 0 [] 0)))])) .fail) .fail))))) .fail))) (.ite (iEq (sAt v 0) 95) (.ite (qcf (sAt v 1)) (.ret (.tup [.agg [.int .i64 3,.str [95],.int .i64 0,.int .i64 0,.str [],.int .i64 0],.bool (bNot (qcA (sAt v 1)))])) .fail) (.ite (qbk (sAt v 0)) (.ite (qbq (sAt v 0)) (.ite (qaQ (qav 1) true (nNat 1) (nLen v) (nLen v)) (.ite (qbW (sSub v (nNat 1) (nLen v))) (.ite (qaQ true (qav (iAdd .i64 1 (qaf (sSub v (nNat 1) (nLen v))))) 0 (nNat (iAdd .i64 1 (qaf (sSub v (nNat 1) (nLen v))))) (nLen v)) (.ite (qaK (sSub v 0 (nNat (iAdd .i64 1 (qaf (sSub v (nNat 1) (nLen v)))))) 4) (.ret (.tup [.agg [.int .i64 (qaS (sSub v 0 (nNat (iAdd .i64 1 (qaf (sSub v (nNat 1) (nLen v)))))) 4),.str (qaW (sSub v 0 (nNat (iAdd .i64 1 (qaf (sSub v (nNat 1) (nLen v)))))) 4),.int .i64 (qaL (sSub v 0 (nNat (iAdd .i64 1 (qaf (sSub v (nNat 1) (nLen v)))))) 4),.int .i64 (qaN (sSub v 0 (nNat (iAdd .i64 1 (qaf (sSub v (nNat 1) (nLen v)))))) 4),.str (qaO (sSub v 0 (nNat (iAdd .i64 1 (qaf (sSub v (nNat 1) (nLen v)))))) 4),.int .i64 (qaM (sSub v 0 (nNat (iAdd .i64 1 (qaf (sSub v (nNat 1) (nLen v)))))) 4)],.bool (qaT (sSub v 0 (nNat (iAdd .i64 1 (qaf (sSub v (nNat 1) (nLen v)))))) 4)])) .fail) .fail) .fail) .fail)
 (.ite (iEq (sAt v 0) 45) (.ite (qbk (sAt v 1)) (.ite (qbq (sAt v 1)) (.ite (qaQ (qav 1) true (nNat 1) (nLen v) (nLen v)) (.ite (qbW (sSub v (nNat 1) (nLen v))) (.ite (qaQ true (qav (iAdd .i64 1 (qaf (sSub v (nNat 1) (nLen v))))) 0 (nNat (iAdd .i64 1 (qaf (sSub v (nNat 1) (nLen v))))) (nLen v)) (.ite (qaK (sSub v 0 (nNat (iAdd .i64 1 (qaf (sSub v (nNat 1) (nLen v)))))) 4) (.ret (.tup [.agg [.int .i64 (qaS (sSub v 0 (nNat (iAdd .i64 1 (qaf (sSub v (nNat 1) (nLen v)))))) 4),.str (qaW (sSub v 0 (nNat (iAdd .i64 1 (qaf (sSub v (nNat 1) (nLen v)))))) 4),.int .i64 (qaL (sSub v 0 (nNat (iAdd .i64 1 (qaf (sSub v (nNat 1) (nLen v)))))) 4),.int .i64 (qaN (sSub v 0 (nNat (iAdd .i64 1 (qaf (sSub v (nNat 1) (nLen v)))))) 4),.str (qaO (sSub v 0 (nNat (iAdd .i64 1 (qaf (sSub v (nNat 1) (nLen v)))))) 4),.int .i64 (qaM (sSub v 0 (nNat (iAdd .i64 1 (qaf (sSub v (nNat 1) (nLen v)))))) 4)],.bool (qaT (sSub v 0 (nNat (iAdd .i64 1 (qaf (sSub v (nNat 1) (nLen v)))))) 4)])) .fail) .fail) .fail) .fail) (.ite (iEq (sAt v 0) 34) (.ite (qbC v) (.ite (qaQ true (qav (qad v)) 0 (nNat (qad v)) (nLen v)) (.ite (qaK (sSub v 0 (nNat (qad v))) 5) (.ret (.tup [.agg [.int .i64 (qaS (sSub v 0 (nNat (qad v))) 5),.str (qaW (sSub v 0 (nNat (qad v))) 5),.int .i64 (qaL (sSub v 0 (nNat (qad v))) 5),.int .i64 (qaN (sSub v 0 (nNat (qad v))) 5),.str (qaO (sSub v 0 (nNat (qad v))) 5),.int .i64 (qaM (sSub v 0 (nNat (qad v))) 5)],.bool (qaT (sSub v 0 (nNat (qad v))) 5)])) .fail) .fail) .fail) (.ite (qbr v (sAt v 0) [58,45] [60,61] [62,61] [33,61] 0 0 [] 0 0 [] 0) (.ret (.tup [.agg [.int .i64 (qbF v (sAt v 0) [58,45] [60,61] [62,61] [33,61] 0 0 [] 0 0 [] 0),.str (qbE v (sAt v 0) [58,45] [60,61] [62,61] [33,61] 0 0 [] 0 0 [] 0),
 .int .i64 (qbj v (sAt v 0) [58,45] [60,61] [62,61] [33,61] 0 0 [] 0 0 [] 0),.int .i64 (qbh v (sAt v 0) [58,45] [60,61] [62,61] [33,61] 0 0 [] 0 0 [] 0),.str (qbi v (sAt v 0) [58,45] [60,61] [62,61] [33,61] 0 0 [] 0 0 [] 0),.int .i64 (qbg v (sAt v 0) [58,45] [60,61] [62,61] [33,61] 0 0 [] 0 0 [] 0)],.bool (qbG v (sAt v 0) [58,45] [60,61] [62,61] [33,61] 0 0 [] 0 0 [] 0)])) (.ite (qbL v (sAt v 0) [58,45] [60,61] [62,61] [33,61] 0 0 [] 0 0 [] 0) (.ite (qaQ true (qav 1) 0 (nNat 1) (nLen (qaP v (sAt v 0) [58,45] [60,61] [62,61] [33,61] 0 0 [] 0 0 [] 0))) (.ret (.tup [.agg [.int .i64 6,.str (sSub (qaP v (sAt v 0) [58,45] [60,61] [62,61] [33,61] 0 0 [] 0 0 [] 0) 0 (nNat 1)),.int .i64 0,.int .i64 0,.str [],.int .i64 0],.bool (iLe 0 (idxV [40,41,44,46,43,45,61,58,60,62] (qbx v (sAt v 0) [58,45] [60,61] [62,61] [33,61] 0 0 [] 0 0 [] 0)))])) .fail) .fail)))) .fail) (.ite (iEq (sAt v 0) 34) (.ite (qbC v) (.ite (qaQ true (qav (qad v)) 0 (nNat (qad v)) (nLen v)) (.ite (qaK (sSub v 0 (nNat (qad v))) 5) (.ret (.tup [.agg [.int .i64 (qaS (sSub v 0 (nNat (qad v))) 5),.str (qaW (sSub v 0 (nNat (qad v))) 5),.int .i64 (qaL (sSub v 0 (nNat (qad v))) 5),.int .i64 (qaN (sSub v 0 (nNat (qad v))) 5),.str (qaO (sSub v 0 (nNat (qad v))) 5),.int .i64 (qaM (sSub v 0 (nNat (qad v))) 5)],.bool (qaT (sSub v 0 (nNat (qad v))) 5)])) .fail) .fail) .fail) (.ite (qbr v (sAt v 0) [58,45] [60,61] [62,61] [33,61] 0 0 [] 0 0 [] 0) (.ret (.tup [.agg [.int .i64 (qbF v (sAt v 0) [58,45] [60,61] [62,61] [33,61] 0 0 [] 0 0 [] 0),.str (qbE v (sAt v 0) [58,45] [60,61] [62,61] [33,61] 0 0 [] 0 0 [] 0),.int .i64 (qbj v (sAt v 0) [58,45] [60,61] [62,61] [33,61] 0 0 [] 0 0 [] 0),.int .i64 (qbh v (sAt v 0) [58,45] [60,61] [62,61] [33,61] 0 0 [] 0 0 [] 0),
 .str (qbi v (sAt v 0) [58,45] [60,61] [62,61] [33,61] 0 0 [] 0 0 [] 0),.int .i64 (qbg v (sAt v 0) [58,45] [60,61] [62,61] [33,61] 0 0 [] 0 0 [] 0)],.bool (qbG v (sAt v 0) [58,45] [60,61] [62,61] [33,61] 0 0 [] 0 0 [] 0)])) (.ite (qbL v (sAt v 0) [58,45] [60,61] [62,61] [33,61] 0 0 [] 0 0 [] 0) (.ite (qaQ true (qav 1) 0 (nNat 1) (nLen (qaP v (sAt v 0) [58,45] [60,61] [62,61] [33,61] 0 0 [] 0 0 [] 0))) (.ret (.tup [.agg [.int .i64 6,.str (sSub (qaP v (sAt v 0) [58,45] [60,61] [62,61] [33,61] 0 0 [] 0 0 [] 0) 0 (nNat 1)),.int .i64 0,.int .i64 0,.str [],.int .i64 0],.bool (iLe 0 (idxV [40,41,44,46,43,45,61,58,60,62] (qbx v (sAt v 0) [58,45] [60,61] [62,61] [33,61] 0 0 [] 0 0 [] 0)))])) .fail) .fail))))) .fail)))) (.ite (iLe 65 (sAt v 0)) (.ite (iLe (sAt v 0) 90) (.ite (qfo v 2) (.ret (.tup [.agg [.int .i64 (qhl v 2),.str (qg6 v 2),.int .i64 (qfs v 2),.int .i64 (qfB v 2),.str (qfw v 2),.int .i64 (qfy v 2)],.bool (qhz v 2)])) .fail) (.ite (iEq (sAt v 0) 95) (.ite (qcf (sAt v 1)) (.ret (.tup [.agg [.int .i64 3,.str [95],.int .i64 0,.int .i64 0,.str [],.int .i64 0],.bool (bNot (qcA (sAt v 1)))])) .fail) (.ite (qbk (sAt v 0)) (.ite (qbq (sAt v 0)) (.ite (qaQ (qav 1) true (nNat 1) (nLen v) (nLen v)) (.ite (qbW (sSub v (nNat 1) (nLen v))) (.ite (qaQ true (qav (iAdd .i64 1 (qaf (sSub v (nNat 1) (nLen v))))) 0 (nNat (iAdd .i64 1 (qaf (sSub v (nNat 1) (nLen v))))) (nLen v)) (.ite (qaK (sSub v 0 (nNat (iAdd .i64 1 (qaf (sSub v (nNat 1) (nLen v)))))) 4) (.ret (.tup [.agg [.int .i64 (qaS (sSub v 0 (nNat (iAdd .i64 1 (qaf (sSub v (nNat 1) (nLen v)))))) 4),.str (qaW (sSub v 0 (nNat (iAdd .i64 1 (qaf (sSub v (nNat 1) (nLen v)))))) 4),.int .i64 (qaL (sSub v 0 (nNat (iAdd .i64 1 (qaf (sSub v (nNat 1) (nLen v)))))) 4),
 .int .i64 (qaN (sSub v 0 (nNat (iAdd .i64 1 (qaf (sSub v (nNat 1) (nLen v)))))) 4),.str (qaO (sSub v 0 (nNat (iAdd .i64 1 (qaf (sSub v (nNat 1) (nLen v)))))) 4),.int .i64 (qaM (sSub v 0 (nNat (iAdd .i64 1 (qaf (sSub v (nNat 1) (nLen v)))))) 4)],.bool (qaT (sSub v 0 (nNat (iAdd .i64 1 (qaf (sSub v (nNat 1) (nLen v)))))) 4)])) .fail) .fail) .fail) .fail) (.ite (iEq (sAt v 0) 45) (.ite (qbk (sAt v 1)) (.ite (qbq (sAt v 1)) (.ite (qaQ (qav 1) true (nNat 1) (nLen v) (nLen v)) (.ite (qbW (sSub v (nNat 1) (nLen v))) (.ite (qaQ true (qav (iAdd .i64 1 (qaf (sSub v (nNat 1) (nLen v))))) 0 (nNat (iAdd .i64 1 (qaf (sSub v (nNat 1) (nLen v))))) (nLen v)) (.ite (qaK (sSub v 0 (nNat (iAdd .i64 1 (qaf (sSub v (nNat 1) (nLen v)))))) 4) (.ret (.tup [.agg [.int .i64 (qaS (sSub v 0 (nNat (iAdd .i64 1 (qaf (sSub v (nNat 1) (nLen v)))))) 4),.str (qaW (sSub v 0 (nNat (iAdd .i64 1 (qaf (sSub v (nNat 1) (nLen v)))))) 4),.int .i64 (qaL (sSub v 0 (nNat (iAdd .i64 1 (qaf (sSub v (nNat 1) (nLen v)))))) 4),.int .i64 (qaN (sSub v 0 (nNat (iAdd .i64 1 (qaf (sSub v (nNat 1) (nLen v)))))) 4),.str (qaO (sSub v 0 (nNat (iAdd .i64 1 (qaf (sSub v (nNat 1) (nLen v)))))) 4),.int .i64 (qaM (sSub v 0 (nNat (iAdd .i64 1 (qaf (sSub v (nNat 1) (nLen v)))))) 4)],.bool (qaT (sSub v 0 (nNat (iAdd .i64 1 (qaf (sSub v (nNat 1) (nLen v)))))) 4)])) .fail) .fail) .fail) .fail) (.ite (iEq (sAt v 0) 34) (.ite (qbC v) (.ite (qaQ true (qav (qad v)) 0 (nNat (qad v)) (nLen v)) (.ite (qaK (sSub v 0 (nNat (qad v))) 5) (.ret (.tup [.agg [.int .i64 (qaS (sSub v 0 (nNat (qad v))) 5),.str (qaW (sSub v 0 (nNat (qad v))) 5),.int .i64 (qaL (sSub v 0 (nNat (qad v))) 5),.int .i64 (qaN (sSub v 0 (nNat (qad v))) 5),
 .str (qaO (sSub v 0 (nNat (qad v))) 5),.int .i64 (qaM (sSub v 0 (nNat (qad v))) 5)],.bool (qaT (sSub v 0 (nNat (qad v))) 5)])) .fail) .fail) .fail) (.ite (qbr v (sAt v 0) [58,45] [60,61] [62,61] [33,61] 0 0 [] 0 0 [] 0) (.ret (.tup [.agg [.int .i64 (qbF v (sAt v 0) [58,45] [60,61] [62,61] [33,61] 0 0 [] 0 0 [] 0),.str (qbE v (sAt v 0) [58,45] [60,61] [62,61] [33,61] 0 0 [] 0 0 [] 0),.int .i64 (qbj v (sAt v 0) [58,45] [60,61] [62,61] [33,61] 0 0 [] 0 0 [] 0),.int .i64 (qbh v (sAt v 0) [58,45] [60,61] [62,61] [33,61] 0 0 [] 0 0 [] 0),.str (qbi v (sAt v 0) [58,45] [60,61] [62,61] [33,61] 0 0 [] 0 0 [] 0),.int .i64 (qbg v (sAt v 0) [58,45] [60,61] [62,61] [33,61] 0 0 [] 0 0 [] 0)],.bool (qbG v (sAt v 0) [58,45] [60,61] [62,61] [33,61] 0 0 [] 0 0 [] 0)])) (.ite (qbL v (sAt v 0) [58,45] [60,61] [62,61] [33,61] 0 0 [] 0 0 [] 0) (.ite (qaQ true (qav 1) 0 (nNat 1) (nLen (qaP v (sAt v 0) [58,45] [60,61] [62,61] [33,61] 0 0 [] 0 0 [] 0))) (.ret (.tup [.agg [.int .i64 6,.str (sSub (qaP v (sAt v 0) [58,45] [60,61] [62,61] [33,61] 0 0 [] 0 0 [] 0) 0 (nNat 1)),.int .i64 0,.int .i64 0,.str [],.int .i64 0],.bool (iLe 0 (idxV [40,41,44,46,43,45,61,58,60,62] (qbx v (sAt v 0) [58,45] [60,61] [62,61] [33,61] 0 0 [] 0 0 [] 0)))])) .fail) .fail)))) .fail) (.ite (iEq (sAt v 0) 34) (.ite (qbC v) (.ite (qaQ true (qav (qad v)) 0 (nNat (qad v)) (nLen v)) (.ite (qaK (sSub v 0 (nNat (qad v))) 5) (.ret (.tup [.agg [.int .i64 (qaS (sSub v 0 (nNat (qad v))) 5),.str (qaW (sSub v 0 (nNat (qad v))) 5),.int .i64 (qaL (sSub v 0 (nNat (qad v))) 5),.int .i64 (qaN (sSub v 0 (nNat (qad v))) 5),.str (qaO (sSub v 0 (nNat (qad v))) 5),.int .i64 (qaM (sSub v 0 (nNat (qad v))) 5)],.bool (qaT (sSub v 0 (nNat (qad v))) 5)])) .fail) .fail) .fail)
 (.ite (qbr v (sAt v 0) [58,45] [60,61] [62,61] [33,61] 0 0 [] 0 0 [] 0) (.ret (.tup [.agg [.int .i64 (qbF v (sAt v 0) [58,45] [60,61] [62,61] [33,61] 0 0 [] 0 0 [] 0),.str (qbE v (sAt v 0) [58,45] [60,61] [62,61] [33,61] 0 0 [] 0 0 [] 0),.int .i64 (qbj v (sAt v 0) [58,45] [60,61] [62,61] [33,61] 0 0 [] 0 0 [] 0),.int .i64 (qbh v (sAt v 0) [58,45] [60,61] [62,61] [33,61] 0 0 [] 0 0 [] 0),.str (qbi v (sAt v 0) [58,45] [60,61] [62,61] [33,61] 0 0 [] 0 0 [] 0),.int .i64 (qbg v (sAt v 0) [58,45] [60,61] [62,61] [33,61] 0 0 [] 0 0 [] 0)],.bool (qbG v (sAt v 0) [58,45] [60,61] [62,61] [33,61] 0 0 [] 0 0 [] 0)])) (.ite (qbL v (sAt v 0) [58,45] [60,61] [62,61] [33,61] 0 0 [] 0 0 [] 0) (.ite (qaQ true (qav 1) 0 (nNat 1) (nLen (qaP v (sAt v 0) [58,45] [60,61] [62,61] [33,61] 0 0 [] 0 0 [] 0))) (.ret (.tup [.agg [.int .i64 6,.str (sSub (qaP v (sAt v 0) [58,45] [60,61] [62,61] [33,61] 0 0 [] 0 0 [] 0) 0 (nNat 1)),.int .i64 0,.int .i64 0,.str [],.int .i64 0],.bool (iLe 0 (idxV [40,41,44,46,43,45,61,58,60,62] (qbx v (sAt v 0) [58,45] [60,61] [62,61] [33,61] 0 0 [] 0 0 [] 0)))])) .fail) .fail))))) .fail))) (.ite (iEq (sAt v 0) 95) (.ite (qcf (sAt v 1)) (.ret (.tup [.agg [.int .i64 3,.str [95],.int .i64 0,.int .i64 0,.str [],.int .i64 0],.bool (bNot (qcA (sAt v 1)))])) .fail) (.ite (qbk (sAt v 0)) (.ite (qbq (sAt v 0)) (.ite (qaQ (qav 1) true (nNat 1) (nLen v) (nLen v)) (.ite (qbW (sSub v (nNat 1) (nLen v))) (.ite (qaQ true (qav (iAdd .i64 1 (qaf (sSub v (nNat 1) (nLen v))))) 0 (nNat (iAdd .i64 1 (qaf (sSub v (nNat 1) (nLen v))))) (nLen v)) (.ite (qaK (sSub v 0 (nNat (iAdd .i64 1 (qaf (sSub v (nNat 1) (nLen v)))))) 4) (.ret (.tup [.agg [.int .i64 (qaS (sSub v 0 (nNat (iAdd .i64 1 (qaf (sSub v (nNat 1) (nLen v)))))) 4),.str (qaW (sSub v 0 (nNat (iAdd .i64 1 (qaf (sSub v (nNat 1) (nLen v)))))) 4),
 .int .i64 (qaL (sSub v 0 (nNat (iAdd .i64 1 (qaf (sSub v (nNat 1) (nLen v)))))) 4),.int .i64 (qaN (sSub v 0 (nNat (iAdd .i64 1 (qaf (sSub v (nNat 1) (nLen v)))))) 4),.str (qaO (sSub v 0 (nNat (iAdd .i64 1 (qaf (sSub v (nNat 1) (nLen v)))))) 4),.int .i64 (qaM (sSub v 0 (nNat (iAdd .i64 1 (qaf (sSub v (nNat 1) (nLen v)))))) 4)],.bool (qaT (sSub v 0 (nNat (iAdd .i64 1 (qaf (sSub v (nNat 1) (nLen v)))))) 4)])) .fail) .fail) .fail) .fail) (.ite (iEq (sAt v 0) 45) (.ite (qbk (sAt v 1)) (.ite (qbq (sAt v 1)) (.ite (qaQ (qav 1) true (nNat 1) (nLen v) (nLen v)) (.ite (qbW (sSub v (nNat 1) (nLen v))) (.ite (qaQ true (qav (iAdd .i64 1 (qaf (sSub v (nNat 1) (nLen v))))) 0 (nNat (iAdd .i64 1 (qaf (sSub v (nNat 1) (nLen v))))) (nLen v)) (.ite (qaK (sSub v 0 (nNat (iAdd .i64 1 (qaf (sSub v (nNat 1) (nLen v)))))) 4) (.ret (.tup [.agg [.int .i64 (qaS (sSub v 0 (nNat (iAdd .i64 1 (qaf (sSub v (nNat 1) (nLen v)))))) 4),.str (qaW (sSub v 0 (nNat (iAdd .i64 1 (qaf (sSub v (nNat 1) (nLen v)))))) 4),.int .i64 (qaL (sSub v 0 (nNat (iAdd .i64 1 (qaf (sSub v (nNat 1) (nLen v)))))) 4),.int .i64 (qaN (sSub v 0 (nNat (iAdd .i64 1 (qaf (sSub v (nNat 1) (nLen v)))))) 4),.str (qaO (sSub v 0 (nNat (iAdd .i64 1 (qaf (sSub v (nNat 1) (nLen v)))))) 4),.int .i64 (qaM (sSub v 0 (nNat (iAdd .i64 1 (qaf (sSub v (nNat 1) (nLen v)))))) 4)],.bool (qaT (sSub v 0 (nNat (iAdd .i64 1 (qaf (sSub v (nNat 1) (nLen v)))))) 4)])) .fail) .fail) .fail) .fail) (.ite (iEq (sAt v 0) 34) (.ite (qbC v) (.ite (qaQ true (qav (qad v)) 0 (nNat (qad v)) (nLen v)) (.ite (qaK (sSub v 0 (nNat (qad v))) 5) (.ret (.tup [.agg [.int .i64 (qaS (sSub v 0 (nNat (qad v))) 5),.str (qaW (sSub v 0 (nNat (qad v))) 5),
 .int .i64 (qaL (sSub v 0 (nNat (qad v))) 5),.int .i64 (qaN (sSub v 0 (nNat (qad v))) 5),.str (qaO (sSub v 0 (nNat (qad v))) 5),.int .i64 (qaM (sSub v 0 (nNat (qad v))) 5)],.bool (qaT (sSub v 0 (nNat (qad v))) 5)])) .fail) .fail) .fail) (.ite (qbr v (sAt v 0) [58,45] [60,61] [62,61] [33,61] 0 0 [] 0 0 [] 0) (.ret (.tup [.agg [.int .i64 (qbF v (sAt v 0) [58,45] [60,61] [62,61] [33,61] 0 0 [] 0 0 [] 0),.str (qbE v (sAt v 0) [58,45] [60,61] [62,61] [33,61] 0 0 [] 0 0 [] 0),.int .i64 (qbj v (sAt v 0) [58,45] [60,61] [62,61] [33,61] 0 0 [] 0 0 [] 0),.int .i64 (qbh v (sAt v 0) [58,45] [60,61] [62,61] [33,61] 0 0 [] 0 0 [] 0),.str (qbi v (sAt v 0) [58,45] [60,61] [62,61] [33,61] 0 0 [] 0 0 [] 0),.int .i64 (qbg v (sAt v 0) [58,45] [60,61] [62,61] [33,61] 0 0 [] 0 0 [] 0)],.bool (qbG v (sAt v 0) [58,45] [60,61] [62,61] [33,61] 0 0 [] 0 0 [] 0)])) (.ite (qbL v (sAt v 0) [58,45] [60,61] [62,61] [33,61] 0 0 [] 0 0 [] 0) (.ite (qaQ true (qav 1) 0 (nNat 1) (nLen (qaP v (sAt v 0) [58,45] [60,61] [62,61] [33,61] 0 0 [] 0 0 [] 0))) (.ret (.tup [.agg [.int .i64 6,.str (sSub (qaP v (sAt v 0) [58,45] [60,61] [62,61] [33,61] 0 0 [] 0 0 [] 0) 0 (nNat 1)),.int .i64 0,.int .i64 0,.str [],.int .i64 0],.bool (iLe 0 (idxV [40,41,44,46,43,45,61,58,60,62] (qbx v (sAt v 0) [58,45] [60,61] [62,61] [33,61] 0 0 [] 0 0 [] 0)))])) .fail) .fail)))) .fail) (.ite (iEq (sAt v 0) 34) (.ite (qbC v) (.ite (qaQ true (qav (qad v)) 0 (nNat (qad v)) (nLen v)) (.ite (qaK (sSub v 0 (nNat (qad v))) 5) (.ret (.tup [.agg [.int .i64 (qaS (sSub v 0 (nNat (qad v))) 5),.str (qaW (sSub v 0 (nNat (qad v))) 5),.int .i64 (qaL (sSub v 0 (nNat (qad v))) 5),.int .i64 (qaN (sSub v 0 (nNat (qad v))) 5),
 .str (qaO (sSub v 0 (nNat (qad v))) 5),.int .i64 (qaM (sSub v 0 (nNat (qad v))) 5)],.bool (qaT (sSub v 0 (nNat (qad v))) 5)])) .fail) .fail) .fail) (.ite (qbr v (sAt v 0) [58,45] [60,61] [62,61] [33,61] 0 0 [] 0 0 [] 0) (.ret (.tup [.agg [.int .i64 (qbF v (sAt v 0) [58,45] [60,61] [62,61] [33,61] 0 0 [] 0 0 [] 0),.str (qbE v (sAt v 0) [58,45] [60,61] [62,61] [33,61] 0 0 [] 0 0 [] 0),.int .i64 (qbj v (sAt v 0) [58,45] [60,61] [62,61] [33,61] 0 0 [] 0 0 [] 0),.int .i64 (qbh v (sAt v 0) [58,45] [60,61] [62,61] [33,61] 0 0 [] 0 0 [] 0),.str (qbi v (sAt v 0) [58,45] [60,61] [62,61] [33,61] 0 0 [] 0 0 [] 0),.int .i64 (qbg v (sAt v 0) [58,45] [60,61] [62,61] [33,61] 0 0 [] 0 0 [] 0)],.bool (qbG v (sAt v 0) [58,45] [60,61] [62,61] [33,61] 0 0 [] 0 0 [] 0)])) (.ite (qbL v (sAt v 0) [58,45] [60,61] [62,61] [33,61] 0 0 [] 0 0 [] 0) (.ite (qaQ true (qav 1) 0 (nNat 1) (nLen (qaP v (sAt v 0) [58,45] [60,61] [62,61] [33,61] 0 0 [] 0 0 [] 0))) (.ret (.tup [.agg [.int .i64 6,.str (sSub (qaP v (sAt v 0) [58,45] [60,61] [62,61] [33,61] 0 0 [] 0 0 [] 0) 0 (nNat 1)),.int .i64 0,.int .i64 0,.str [],.int .i64 0],.bool (iLe 0 (idxV [40,41,44,46,43,45,61,58,60,62] (qbx v (sAt v 0) [58,45] [60,61] [62,61] [33,61] 0 0 [] 0 0 [] 0)))])) .fail) .fail))))) .fail)))) .fail) (.ite (iLe 97 (sAt v 0)) (.ite (iLe (sAt v 0) 122) (.ite (qfo v 1) (.ret (.tup [.agg [.int .i64 (qhl v 1),.str (qg6 v 1),.int .i64 (qfs v 1),.int .i64 (qfB v 1),.str (qfw v 1),.int .i64 (qfy v 1)],.bool (qhz v 1)])) .fail) (.ite (iLe 65 (sAt v 0)) (.ite (iLe (sAt v 0) 90) (.ite (qfo v 2) (.ret (.tup [.agg [.int .i64 (qhl v 2),.str (qg6 v 2),.int .i64 (qfs v 2),.int .i64 (qfB v 2),.str (qfw v 2),.int .i64 (qfy v 2)],.bool (qhz v 2)])) .fail) (.ite (iEq (sAt v 0) 95) (.ite (qcf 0) (.ret
 (.tup [.agg [.int .i64 3,.str [95],.int .i64 0,.int .i64 0,.str [],.int .i64 0],.bool (bNot (qcA 0))])) .fail) (.ite (qbk (sAt v 0)) (.ite (qbq (sAt v 0)) (.ite (qaQ (qav 1) true (nNat 1) (nLen v) (nLen v)) (.ite (qbW (sSub v (nNat 1) (nLen v))) (.ite (qaQ true (qav (iAdd .i64 1 (qaf (sSub v (nNat 1) (nLen v))))) 0 (nNat (iAdd .i64 1 (qaf (sSub v (nNat 1) (nLen v))))) (nLen v)) (.ite (qaK (sSub v 0 (nNat (iAdd .i64 1 (qaf (sSub v (nNat 1) (nLen v)))))) 4) (.ret (.tup [.agg [.int .i64 (qaS (sSub v 0 (nNat (iAdd .i64 1 (qaf (sSub v (nNat 1) (nLen v)))))) 4),.str (qaW (sSub v 0 (nNat (iAdd .i64 1 (qaf (sSub v (nNat 1) (nLen v)))))) 4),.int .i64 (qaL (sSub v 0 (nNat (iAdd .i64 1 (qaf (sSub v (nNat 1) (nLen v)))))) 4),.int .i64 (qaN (sSub v 0 (nNat (iAdd .i64 1 (qaf (sSub v (nNat 1) (nLen v)))))) 4),.str (qaO (sSub v 0 (nNat (iAdd .i64 1 (qaf (sSub v (nNat 1) (nLen v)))))) 4),.int .i64 (qaM (sSub v 0 (nNat (iAdd .i64 1 (qaf (sSub v (nNat 1) (nLen v)))))) 4)],.bool (qaT (sSub v 0 (nNat (iAdd .i64 1 (qaf (sSub v (nNat 1) (nLen v)))))) 4)])) .fail) .fail) .fail) .fail) (.ite (iEq (sAt v 0) 45) (.ite (qbk 0) (.ite (qbq 0) (.ite (qaQ (qav 1) true (nNat 1) (nLen v) (nLen v)) (.ite (qbW (sSub v (nNat 1) (nLen v))) (.ite (qaQ true (qav (iAdd .i64 1 (qaf (sSub v (nNat 1) (nLen v))))) 0 (nNat (iAdd .i64 1 (qaf (sSub v (nNat 1) (nLen v))))) (nLen v)) (.ite (qaK (sSub v 0 (nNat (iAdd .i64 1 (qaf (sSub v (nNat 1) (nLen v)))))) 4) (.ret (.tup [.agg [.int .i64 (qaS (sSub v 0 (nNat (iAdd .i64 1 (qaf (sSub v (nNat 1) (nLen v)))))) 4),.str (qaW (sSub v 0 (nNat (iAdd .i64 1 (qaf (sSub v (nNat 1) (nLen v)))))) 4),.int .i64 (qaL (sSub v 0 (nNat (iAdd .i64 1 (qaf (sSub v (nNat 1) (nLen v)))))) 4),
 .int .i64 (qaN (sSub v 0 (nNat (iAdd .i64 1 (qaf (sSub v (nNat 1) (nLen v)))))) 4),.str (qaO (sSub v 0 (nNat (iAdd .i64 1 (qaf (sSub v (nNat 1) (nLen v)))))) 4),.int .i64 (qaM (sSub v 0 (nNat (iAdd .i64 1 (qaf (sSub v (nNat 1) (nLen v)))))) 4)],.bool (qaT (sSub v 0 (nNat (iAdd .i64 1 (qaf (sSub v (nNat 1) (nLen v)))))) 4)])) .fail) .fail) .fail) .fail) (.ite (iEq (sAt v 0) 34) (.ite (qbC v) (.ite (qaQ true (qav (qad v)) 0 (nNat (qad v)) (nLen v)) (.ite (qaK (sSub v 0 (nNat (qad v))) 5) (.ret (.tup [.agg [.int .i64 (qaS (sSub v 0 (nNat (qad v))) 5),.str (qaW (sSub v 0 (nNat (qad v))) 5),.int .i64 (qaL (sSub v 0 (nNat (qad v))) 5),.int .i64 (qaN (sSub v 0 (nNat (qad v))) 5),.str (qaO (sSub v 0 (nNat (qad v))) 5),.int .i64 (qaM (sSub v 0 (nNat (qad v))) 5)],.bool (qaT (sSub v 0 (nNat (qad v))) 5)])) .fail) .fail) .fail) (.ite (qbr v (sAt v 0) [58,45] [60,61] [62,61] [33,61] 0 0 [] 0 0 [] 0) (.ret (.tup [.agg [.int .i64 (qbF v (sAt v 0) [58,45] [60,61] [62,61] [33,61] 0 0 [] 0 0 [] 0),.str (qbE v (sAt v 0) [58,45] [60,61] [62,61] [33,61] 0 0 [] 0 0 [] 0),.int .i64 (qbj v (sAt v 0) [58,45] [60,61] [62,61] [33,61] 0 0 [] 0 0 [] 0),.int .i64 (qbh v (sAt v 0) [58,45] [60,61] [62,61] [33,61] 0 0 [] 0 0 [] 0),.str (qbi v (sAt v 0) [58,45] [60,61] [62,61] [33,61] 0 0 [] 0 0 [] 0),.int .i64 (qbg v (sAt v 0) [58,45] [60,61] [62,61] [33,61] 0 0 [] 0 0 [] 0)],.bool (qbG v (sAt v 0) [58,45] [60,61] [62,61] [33,61] 0 0 [] 0 0 [] 0)])) (.ite (qbL v (sAt v 0) [58,45] [60,61] [62,61] [33,61] 0 0 [] 0 0 [] 0) (.ite (qaQ true (qav 1) 0 (nNat 1) (nLen (qaP v (sAt v 0) [58,45] [60,61] [62,61] [33,61] 0 0 [] 0 0 [] 0))) (.ret (.tup [.agg
 [.int .i64 6,.str (sSub (qaP v (sAt v 0) [58,45] [60,61] [62,61] [33,61] 0 0 [] 0 0 [] 0) 0 (nNat 1)),.int .i64 0,.int .i64 0,.str [],.int .i64 0],.bool (iLe 0 (idxV [40,41,44,46,43,45,61,58,60,62] (qbx v (sAt v 0) [58,45] [60,61] [62,61] [33,61] 0 0 [] 0 0 [] 0)))])) .fail) .fail)))) .fail) (.ite (iEq (sAt v 0) 34) (.ite (qbC v) (.ite (qaQ true (qav (qad v)) 0 (nNat (qad v)) (nLen v)) (.ite (qaK (sSub v 0 (nNat (qad v))) 5) (.ret (.tup [.agg [.int .i64 (qaS (sSub v 0 (nNat (qad v))) 5),.str (qaW (sSub v 0 (nNat (qad v))) 5),.int .i64 (qaL (sSub v 0 (nNat (qad v))) 5),.int .i64 (qaN (sSub v 0 (nNat (qad v))) 5),.str (qaO (sSub v 0 (nNat (qad v))) 5),.int .i64 (qaM (sSub v 0 (nNat (qad v))) 5)],.bool (qaT (sSub v 0 (nNat (qad v))) 5)])) .fail) .fail) .fail) (.ite (qbr v (sAt v 0) [58,45] [60,61] [62,61] [33,61] 0 0 [] 0 0 [] 0) (.ret (.tup [.agg [.int .i64 (qbF v (sAt v 0) [58,45] [60,61] [62,61] [33,61] 0 0 [] 0 0 [] 0),.str (qbE v (sAt v 0) [58,45] [60,61] [62,61] [33,61] 0 0 [] 0 0 [] 0),.int .i64 (qbj v (sAt v 0) [58,45] [60,61] [62,61] [33,61] 0 0 [] 0 0 [] 0),.int .i64 (qbh v (sAt v 0) [58,45] [60,61] [62,61] [33,61] 0 0 [] 0 0 [] 0),.str (qbi v (sAt v 0) [58,45] [60,61] [62,61] [33,61] 0 0 [] 0 0 [] 0),.int .i64 (qbg v (sAt v 0) [58,45] [60,61] [62,61] [33,61] 0 0 [] 0 0 [] 0)],.bool (qbG v (sAt v 0) [58,45] [60,61] [62,61] [33,61] 0 0 [] 0 0 [] 0)])) (.ite (qbL v (sAt v 0) [58,45] [60,61] [62,61] [33,61] 0 0 [] 0 0 [] 0) (.ite (qaQ true (qav 1) 0 (nNat 1) (nLen (qaP v (sAt v 0) [58,45] [60,61] [62,61] [33,61] 0 0 [] 0 0 [] 0))) (.ret (.tup [.agg [.int .i64 6,.str (sSub (qaP v (sAt v 0) [58,45] [60,61] [62,61] [33,61] 0 0 [] 0 0 [] 0) 0 (nNat 1)),.int .i64 0,.int .i64 0,.str [],.int .i64 0],
 .bool (iLe 0 (idxV [40,41,44,46,43,45,61,58,60,62] (qbx v (sAt v 0) [58,45] [60,61] [62,61] [33,61] 0 0 [] 0 0 [] 0)))])) .fail) .fail))))) .fail))) (.ite (iEq (sAt v 0) 95) (.ite (qcf 0) (.ret (.tup [.agg [.int .i64 3,.str [95],.int .i64 0,.int .i64 0,.str [],.int .i64 0],.bool (bNot (qcA 0))])) .fail) (.ite (qbk (sAt v 0)) (.ite (qbq (sAt v 0)) (.ite (qaQ (qav 1) true (nNat 1) (nLen v) (nLen v)) (.ite (qbW (sSub v (nNat 1) (nLen v))) (.ite (qaQ true (qav (iAdd .i64 1 (qaf (sSub v (nNat 1) (nLen v))))) 0 (nNat (iAdd .i64 1 (qaf (sSub v (nNat 1) (nLen v))))) (nLen v)) (.ite (qaK (sSub v 0 (nNat (iAdd .i64 1 (qaf (sSub v (nNat 1) (nLen v)))))) 4) (.ret (.tup [.agg [.int .i64 (qaS (sSub v 0 (nNat (iAdd .i64 1 (qaf (sSub v (nNat 1) (nLen v)))))) 4),.str (qaW (sSub v 0 (nNat (iAdd .i64 1 (qaf (sSub v (nNat 1) (nLen v)))))) 4),.int .i64 (qaL (sSub v 0 (nNat (iAdd .i64 1 (qaf (sSub v (nNat 1) (nLen v)))))) 4),.int .i64 (qaN (sSub v 0 (nNat (iAdd .i64 1 (qaf (sSub v (nNat 1) (nLen v)))))) 4),.str (qaO (sSub v 0 (nNat (iAdd .i64 1 (qaf (sSub v (nNat 1) (nLen v)))))) 4),.int .i64 (qaM (sSub v 0 (nNat (iAdd .i64 1 (qaf (sSub v (nNat 1) (nLen v)))))) 4)],.bool (qaT (sSub v 0 (nNat (iAdd .i64 1 (qaf (sSub v (nNat 1) (nLen v)))))) 4)])) .fail) .fail) .fail) .fail) (.ite (iEq (sAt v 0) 45) (.ite (qbk 0) (.ite (qbq 0) (.ite (qaQ (qav 1) true (nNat 1) (nLen v) (nLen v)) (.ite (qbW (sSub v (nNat 1) (nLen v))) (.ite (qaQ true (qav (iAdd .i64 1 (qaf (sSub v (nNat 1) (nLen v))))) 0 (nNat (iAdd .i64 1 (qaf (sSub v (nNat 1) (nLen v))))) (nLen v)) (.ite (qaK (sSub v 0 (nNat (iAdd .i64 1 (qaf (sSub v (nNat 1) (nLen v)))))) 4) (.ret (.tup [.agg [.int .i64 (qaS (sSub v 0 (nNat (iAdd .i64 1 (qaf (sSub v (nNat 1) (nLen v)))))) 4),
 .str (qaW (sSub v 0 (nNat (iAdd .i64 1 (qaf (sSub v (nNat 1) (nLen v)))))) 4),.int .i64 (qaL (sSub v 0 (nNat (iAdd .i64 1 (qaf (sSub v (nNat 1) (nLen v)))))) 4),.int .i64 (qaN (sSub v 0 (nNat (iAdd .i64 1 (qaf (sSub v (nNat 1) (nLen v)))))) 4),.str (qaO (sSub v 0 (nNat (iAdd .i64 1 (qaf (sSub v (nNat 1) (nLen v)))))) 4),.int .i64 (qaM (sSub v 0 (nNat (iAdd .i64 1 (qaf (sSub v (nNat 1) (nLen v)))))) 4)],.bool (qaT (sSub v 0 (nNat (iAdd .i64 1 (qaf (sSub v (nNat 1) (nLen v)))))) 4)])) .fail) .fail) .fail) .fail) (.ite (iEq (sAt v 0) 34) (.ite (qbC v) (.ite (qaQ true (qav (qad v)) 0 (nNat (qad v)) (nLen v)) (.ite (qaK (sSub v 0 (nNat (qad v))) 5) (.ret (.tup [.agg [.int .i64 (qaS (sSub v 0 (nNat (qad v))) 5),.str (qaW (sSub v 0 (nNat (qad v))) 5),.int .i64 (qaL (sSub v 0 (nNat (qad v))) 5),.int .i64 (qaN (sSub v 0 (nNat (qad v))) 5),.str (qaO (sSub v 0 (nNat (qad v))) 5),.int .i64 (qaM (sSub v 0 (nNat (qad v))) 5)],.bool (qaT (sSub v 0 (nNat (qad v))) 5)])) .fail) .fail) .fail) (.ite (qbr v (sAt v 0) [58,45] [60,61] [62,61] [33,61] 0 0 [] 0 0 [] 0) (.ret (.tup [.agg [.int .i64 (qbF v (sAt v 0) [58,45] [60,61] [62,61] [33,61] 0 0 [] 0 0 [] 0),.str (qbE v (sAt v 0) [58,45] [60,61] [62,61] [33,61] 0 0 [] 0 0 [] 0),.int .i64 (qbj v (sAt v 0) [58,45] [60,61] [62,61] [33,61] 0 0 [] 0 0 [] 0),.int .i64 (qbh v (sAt v 0) [58,45] [60,61] [62,61] [33,61] 0 0 [] 0 0 [] 0),.str (qbi v (sAt v 0) [58,45] [60,61] [62,61] [33,61] 0 0 [] 0 0 [] 0),.int .i64 (qbg v (sAt v 0) [58,45] [60,61] [62,61] [33,61] 0 0 [] 0 0 [] 0)],.bool (qbG v (sAt v 0) [58,45] [60,61] [62,61] [33,61] 0 0 [] 0 0 [] 0)])) (.ite (qbL v (sAt v 0) [58,45] [60,61] [62,61] [33,61] 0 0 [] 0 0 [] 0)
 (.ite (qaQ true (qav 1) 0 (nNat 1) (nLen (qaP v (sAt v 0) [58,45] [60,61] [62,61] [33,61] 0 0 [] 0 0 [] 0))) (.ret (.tup [.agg [.int .i64 6,.str (sSub (qaP v (sAt v 0) [58,45] [60,61] [62,61] [33,61] 0 0 [] 0 0 [] 0) 0 (nNat 1)),.int .i64 0,.int .i64 0,.str [],.int .i64 0],.bool (iLe 0 (idxV [40,41,44,46,43,45,61,58,60,62] (qbx v (sAt v 0) [58,45] [60,61] [62,61] [33,61] 0 0 [] 0 0 [] 0)))])) .fail) .fail)))) .fail) (.ite (iEq (sAt v 0) 34) (.ite (qbC v) (.ite (qaQ true (qav (qad v)) 0 (nNat (qad v)) (nLen v)) (.ite (qaK (sSub v 0 (nNat (qad v))) 5) (.ret (.tup [.agg [.int .i64 (qaS (sSub v 0 (nNat (qad v))) 5),.str (qaW (sSub v 0 (nNat (qad v))) 5),.int .i64 (qaL (sSub v 0 (nNat (qad v))) 5),.int .i64 (qaN (sSub v 0 (nNat (qad v))) 5),.str (qaO (sSub v 0 (nNat (qad v))) 5),.int .i64 (qaM (sSub v 0 (nNat (qad v))) 5)],.bool (qaT (sSub v 0 (nNat (qad v))) 5)])) .fail) .fail) .fail) (.ite (qbr v (sAt v 0) [58,45] [60,61] [62,61] [33,61] 0 0 [] 0 0 [] 0) (.ret (.tup [.agg [.int .i64 (qbF v (sAt v 0) [58,45] [60,61] [62,61] [33,61] 0 0 [] 0 0 [] 0),.str (qbE v (sAt v 0) [58,45] [60,61] [62,61] [33,61] 0 0 [] 0 0 [] 0),.int .i64 (qbj v (sAt v 0) [58,45] [60,61] [62,61] [33,61] 0 0 [] 0 0 [] 0),.int .i64 (qbh v (sAt v 0) [58,45] [60,61] [62,61] [33,61] 0 0 [] 0 0 [] 0),.str (qbi v (sAt v 0) [58,45] [60,61] [62,61] [33,61] 0 0 [] 0 0 [] 0),.int .i64 (qbg v (sAt v 0) [58,45] [60,61] [62,61] [33,61] 0 0 [] 0 0 [] 0)],.bool (qbG v (sAt v 0) [58,45] [60,61] [62,61] [33,61] 0 0 [] 0 0 [] 0)])) (.ite (qbL v (sAt v 0) [58,45] [60,61] [62,61] [33,61] 0 0 [] 0 0 [] 0) (.ite (qaQ true (qav 1) 0 (nNat 1) (nLen (qaP v (sAt v 0) [58,45] [60,61] [62,61] [33,61] 0 0 [] 0 0 [] 0))) (.ret (.tup [.agg
 [.int .i64 6,.str (sSub (qaP v (sAt v 0) [58,45] [60,61] [62,61] [33,61] 0 0 [] 0 0 [] 0) 0 (nNat 1)),.int .i64 0,.int .i64 0,.str [],.int .i64 0],.bool (iLe 0 (idxV [40,41,44,46,43,45,61,58,60,62] (qbx v (sAt v 0) [58,45] [60,61] [62,61] [33,61] 0 0 [] 0 0 [] 0)))])) .fail) .fail))))) .fail)))) (.ite (iLe 65 (sAt v 0)) (.ite (iLe (sAt v 0) 90) (.ite (qfo v 2) (.ret (.tup [.agg [.int .i64 (qhl v 2),.str (qg6 v 2),.int .i64 (qfs v 2),.int .i64 (qfB v 2),.str (qfw v 2),.int .i64 (qfy v 2)],.bool (qhz v 2)])) .fail) (.ite (iEq (sAt v 0) 95) (.ite (qcf 0) (.ret (.tup [.agg [.int .i64 3,.str [95],.int .i64 0,.int .i64 0,.str [],.int .i64 0],.bool (bNot (qcA 0))])) .fail) (.ite (qbk (sAt v 0)) (.ite (qbq (sAt v 0)) (.ite (qaQ (qav 1) true (nNat 1) (nLen v) (nLen v)) (.ite (qbW (sSub v (nNat 1) (nLen v))) (.ite (qaQ true (qav (iAdd .i64 1 (qaf (sSub v (nNat 1) (nLen v))))) 0 (nNat (iAdd .i64 1 (qaf (sSub v (nNat 1) (nLen v))))) (nLen v)) (.ite (qaK (sSub v 0 (nNat (iAdd .i64 1 (qaf (sSub v (nNat 1) (nLen v)))))) 4) (.ret (.tup [.agg [.int .i64 (qaS (sSub v 0 (nNat (iAdd .i64 1 (qaf (sSub v (nNat 1) (nLen v)))))) 4),.str (qaW (sSub v 0 (nNat (iAdd .i64 1 (qaf (sSub v (nNat 1) (nLen v)))))) 4),.int .i64 (qaL (sSub v 0 (nNat (iAdd .i64 1 (qaf (sSub v (nNat 1) (nLen v)))))) 4),.int .i64 (qaN (sSub v 0 (nNat (iAdd .i64 1 (qaf (sSub v (nNat 1) (nLen v)))))) 4),.str (qaO (sSub v 0 (nNat (iAdd .i64 1 (qaf (sSub v (nNat 1) (nLen v)))))) 4),.int .i64 (qaM (sSub v 0 (nNat (iAdd .i64 1 (qaf (sSub v (nNat 1) (nLen v)))))) 4)],.bool (qaT (sSub v 0 (nNat (iAdd .i64 1 (qaf (sSub v (nNat 1) (nLen v)))))) 4)])) .fail) .fail) .fail) .fail) (.ite (iEq (sAt v 0) 45) (.ite (qbk 0) (.ite (qbq 0) (.ite (qaQ (qav 1) true (nNat 1) (nLen v) (nLen v))
 (.ite (qbW (sSub v (nNat 1) (nLen v))) (.ite (qaQ true (qav (iAdd .i64 1 (qaf (sSub v (nNat 1) (nLen v))))) 0 (nNat (iAdd .i64 1 (qaf (sSub v (nNat 1) (nLen v))))) (nLen v)) (.ite (qaK (sSub v 0 (nNat (iAdd .i64 1 (qaf (sSub v (nNat 1) (nLen v)))))) 4) (.ret (.tup [.agg [.int .i64 (qaS (sSub v 0 (nNat (iAdd .i64 1 (qaf (sSub v (nNat 1) (nLen v)))))) 4),.str (qaW (sSub v 0 (nNat (iAdd .i64 1 (qaf (sSub v (nNat 1) (nLen v)))))) 4),.int .i64 (qaL (sSub v 0 (nNat (iAdd .i64 1 (qaf (sSub v (nNat 1) (nLen v)))))) 4),.int .i64 (qaN (sSub v 0 (nNat (iAdd .i64 1 (qaf (sSub v (nNat 1) (nLen v)))))) 4),.str (qaO (sSub v 0 (nNat (iAdd .i64 1 (qaf (sSub v (nNat 1) (nLen v)))))) 4),.int .i64 (qaM (sSub v 0 (nNat (iAdd .i64 1 (qaf (sSub v (nNat 1) (nLen v)))))) 4)],.bool (qaT (sSub v 0 (nNat (iAdd .i64 1 (qaf (sSub v (nNat 1) (nLen v)))))) 4)])) .fail) .fail) .fail) .fail) (.ite (iEq (sAt v 0) 34) (.ite (qbC v) (.ite (qaQ true (qav (qad v)) 0 (nNat (qad v)) (nLen v)) (.ite (qaK (sSub v 0 (nNat (qad v))) 5) (.ret (.tup [.agg [.int .i64 (qaS (sSub v 0 (nNat (qad v))) 5),.str (qaW (sSub v 0 (nNat (qad v))) 5),.int .i64 (qaL (sSub v 0 (nNat (qad v))) 5),.int .i64 (qaN (sSub v 0 (nNat (qad v))) 5),.str (qaO (sSub v 0 (nNat (qad v))) 5),.int .i64 (qaM (sSub v 0 (nNat (qad v))) 5)],.bool (qaT (sSub v 0 (nNat (qad v))) 5)])) .fail) .fail) .fail) (.ite (qbr v (sAt v 0) [58,45] [60,61] [62,61] [33,61] 0 0 [] 0 0 [] 0) (.ret (.tup [.agg [.int .i64 (qbF v (sAt v 0) [58,45] [60,61] [62,61] [33,61] 0 0 [] 0 0 [] 0),.str (qbE v (sAt v 0) [58,45] [60,61] [62,61] [33,61] 0 0 [] 0 0 [] 0),.int .i64 (qbj v (sAt v 0) [58,45] [60,61] [62,61] [33,61] 0 0 [] 0 0 [] 0),
 .int .i64 (qbh v (sAt v 0) [58,45] [60,61] [62,61] [33,61] 0 0 [] 0 0 [] 0),.str (qbi v (sAt v 0) [58,45] [60,61] [62,61] [33,61] 0 0 [] 0 0 [] 0),.int .i64 (qbg v (sAt v 0) [58,45] [60,61] [62,61] [33,61] 0 0 [] 0 0 [] 0)],.bool (qbG v (sAt v 0) [58,45] [60,61] [62,61] [33,61] 0 0 [] 0 0 [] 0)])) (.ite (qbL v (sAt v 0) [58,45] [60,61] [62,61] [33,61] 0 0 [] 0 0 [] 0) (.ite (qaQ true (qav 1) 0 (nNat 1) (nLen (qaP v (sAt v 0) [58,45] [60,61] [62,61] [33,61] 0 0 [] 0 0 [] 0))) (.ret (.tup [.agg [.int .i64 6,.str (sSub (qaP v (sAt v 0) [58,45] [60,61] [62,61] [33,61] 0 0 [] 0 0 [] 0) 0 (nNat 1)),.int .i64 0,.int .i64 0,.str [],.int .i64 0],.bool (iLe 0 (idxV [40,41,44,46,43,45,61,58,60,62] (qbx v (sAt v 0) [58,45] [60,61] [62,61] [33,61] 0 0 [] 0 0 [] 0)))])) .fail) .fail)))) .fail) (.ite (iEq (sAt v 0) 34) (.ite (qbC v) (.ite (qaQ true (qav (qad v)) 0 (nNat (qad v)) (nLen v)) (.ite (qaK (sSub v 0 (nNat (qad v))) 5) (.ret (.tup [.agg [.int .i64 (qaS (sSub v 0 (nNat (qad v))) 5),.str (qaW (sSub v 0 (nNat (qad v))) 5),.int .i64 (qaL (sSub v 0 (nNat (qad v))) 5),.int .i64 (qaN (sSub v 0 (nNat (qad v))) 5),.str (qaO (sSub v 0 (nNat (qad v))) 5),.int .i64 (qaM (sSub v 0 (nNat (qad v))) 5)],.bool (qaT (sSub v 0 (nNat (qad v))) 5)])) .fail) .fail) .fail) (.ite (qbr v (sAt v 0) [58,45] [60,61] [62,61] [33,61] 0 0 [] 0 0 [] 0) (.ret (.tup [.agg [.int .i64 (qbF v (sAt v 0) [58,45] [60,61] [62,61] [33,61] 0 0 [] 0 0 [] 0),.str (qbE v (sAt v 0) [58,45] [60,61] [62,61] [33,61] 0 0 [] 0 0 [] 0),.int .i64 (qbj v (sAt v 0) [58,45] [60,61] [62,61] [33,61] 0 0 [] 0 0 [] 0),.int .i64 (qbh v (sAt v 0) [58,45] [60,61] [62,61] [33,61] 0 0 [] 0 0 [] 0),.str (qbi v (sAt v 0) [58,45] [60,61] [62,61] [33,61] 0 0 [] 0 0 [] 0),
 .int .i64 (qbg v (sAt v 0) [58,45] [60,61] [62,61] [33,61] 0 0 [] 0 0 [] 0)],.bool (qbG v (sAt v 0) [58,45] [60,61] [62,61] [33,61] 0 0 [] 0 0 [] 0)])) (.ite (qbL v (sAt v 0) [58,45] [60,61] [62,61] [33,61] 0 0 [] 0 0 [] 0) (.ite (qaQ true (qav 1) 0 (nNat 1) (nLen (qaP v (sAt v 0) [58,45] [60,61] [62,61] [33,61] 0 0 [] 0 0 [] 0))) (.ret (.tup [.agg [.int .i64 6,.str (sSub (qaP v (sAt v 0) [58,45] [60,61] [62,61] [33,61] 0 0 [] 0 0 [] 0) 0 (nNat 1)),.int .i64 0,.int .i64 0,.str [],.int .i64 0],.bool (iLe 0 (idxV [40,41,44,46,43,45,61,58,60,62] (qbx v (sAt v 0) [58,45] [60,61] [62,61] [33,61] 0 0 [] 0 0 [] 0)))])) .fail) .fail))))) .fail))) (.ite (iEq (sAt v 0) 95) (.ite (qcf 0) (.ret (.tup [.agg [.int .i64 3,.str [95],.int .i64 0,.int .i64 0,.str [],.int .i64 0],.bool (bNot (qcA 0))])) .fail) (.ite (qbk (sAt v 0)) (.ite (qbq (sAt v 0)) (.ite (qaQ (qav 1) true (nNat 1) (nLen v) (nLen v)) (.ite (qbW (sSub v (nNat 1) (nLen v))) (.ite (qaQ true (qav (iAdd .i64 1 (qaf (sSub v (nNat 1) (nLen v))))) 0 (nNat (iAdd .i64 1 (qaf (sSub v (nNat 1) (nLen v))))) (nLen v)) (.ite (qaK (sSub v 0 (nNat (iAdd .i64 1 (qaf (sSub v (nNat 1) (nLen v)))))) 4) (.ret (.tup [.agg [.int .i64 (qaS (sSub v 0 (nNat (iAdd .i64 1 (qaf (sSub v (nNat 1) (nLen v)))))) 4),.str (qaW (sSub v 0 (nNat (iAdd .i64 1 (qaf (sSub v (nNat 1) (nLen v)))))) 4),.int .i64 (qaL (sSub v 0 (nNat (iAdd .i64 1 (qaf (sSub v (nNat 1) (nLen v)))))) 4),.int .i64 (qaN (sSub v 0 (nNat (iAdd .i64 1 (qaf (sSub v (nNat 1) (nLen v)))))) 4),.str (qaO (sSub v 0 (nNat (iAdd .i64 1 (qaf (sSub v (nNat 1) (nLen v)))))) 4),.int .i64 (qaM (sSub v 0 (nNat (iAdd .i64 1 (qaf (sSub v (nNat 1) (nLen v)))))) 4)],.bool (qaT (sSub v 0 (nNat (iAdd .i64 1 (qaf (sSub v (nNat 1) (nLen v)))))) 4)])) .fail) .fail) .fail) .fail) (.ite (iEq (sAt v 0) 45)
 (.ite (qbk 0) (.ite (qbq 0) (.ite (qaQ (qav 1) true (nNat 1) (nLen v) (nLen v)) (.ite (qbW (sSub v (nNat 1) (nLen v))) (.ite (qaQ true (qav (iAdd .i64 1 (qaf (sSub v (nNat 1) (nLen v))))) 0 (nNat (iAdd .i64 1 (qaf (sSub v (nNat 1) (nLen v))))) (nLen v)) (.ite (qaK (sSub v 0 (nNat (iAdd .i64 1 (qaf (sSub v (nNat 1) (nLen v)))))) 4) (.ret (.tup [.agg [.int .i64 (qaS (sSub v 0 (nNat (iAdd .i64 1 (qaf (sSub v (nNat 1) (nLen v)))))) 4),.str (qaW (sSub v 0 (nNat (iAdd .i64 1 (qaf (sSub v (nNat 1) (nLen v)))))) 4),.int .i64 (qaL (sSub v 0 (nNat (iAdd .i64 1 (qaf (sSub v (nNat 1) (nLen v)))))) 4),.int .i64 (qaN (sSub v 0 (nNat (iAdd .i64 1 (qaf (sSub v (nNat 1) (nLen v)))))) 4),.str (qaO (sSub v 0 (nNat (iAdd .i64 1 (qaf (sSub v (nNat 1) (nLen v)))))) 4),.int .i64 (qaM (sSub v 0 (nNat (iAdd .i64 1 (qaf (sSub v (nNat 1) (nLen v)))))) 4)],.bool (qaT (sSub v 0 (nNat (iAdd .i64 1 (qaf (sSub v (nNat 1) (nLen v)))))) 4)])) .fail) .fail) .fail) .fail) (.ite (iEq (sAt v 0) 34) (.ite (qbC v) (.ite (qaQ true (qav (qad v)) 0 (nNat (qad v)) (nLen v)) (.ite (qaK (sSub v 0 (nNat (qad v))) 5) (.ret (.tup [.agg [.int .i64 (qaS (sSub v 0 (nNat (qad v))) 5),.str (qaW (sSub v 0 (nNat (qad v))) 5),.int .i64 (qaL (sSub v 0 (nNat (qad v))) 5),.int .i64 (qaN (sSub v 0 (nNat (qad v))) 5),.str (qaO (sSub v 0 (nNat (qad v))) 5),.int .i64 (qaM (sSub v 0 (nNat (qad v))) 5)],.bool (qaT (sSub v 0 (nNat (qad v))) 5)])) .fail) .fail) .fail) (.ite (qbr v (sAt v 0) [58,45] [60,61] [62,61] [33,61] 0 0 [] 0 0 [] 0) (.ret (.tup [.agg [.int .i64 (qbF v (sAt v 0) [58,45] [60,61] [62,61] [33,61] 0 0 [] 0 0 [] 0),.str (qbE v (sAt v 0) [58,45] [60,61] [62,61] [33,61] 0 0 [] 0 0 [] 0),
 .int .i64 (qbj v (sAt v 0) [58,45] [60,61] [62,61] [33,61] 0 0 [] 0 0 [] 0),.int .i64 (qbh v (sAt v 0) [58,45] [60,61] [62,61] [33,61] 0 0 [] 0 0 [] 0),.str (qbi v (sAt v 0) [58,45] [60,61] [62,61] [33,61] 0 0 [] 0 0 [] 0),.int .i64 (qbg v (sAt v 0) [58,45] [60,61] [62,61] [33,61] 0 0 [] 0 0 [] 0)],.bool (qbG v (sAt v 0) [58,45] [60,61] [62,61] [33,61] 0 0 [] 0 0 [] 0)])) (.ite (qbL v (sAt v 0) [58,45] [60,61] [62,61] [33,61] 0 0 [] 0 0 [] 0) (.ite (qaQ true (qav 1) 0 (nNat 1) (nLen (qaP v (sAt v 0) [58,45] [60,61] [62,61] [33,61] 0 0 [] 0 0 [] 0))) (.ret (.tup [.agg [.int .i64 6,.str (sSub (qaP v (sAt v 0) [58,45] [60,61] [62,61] [33,61] 0 0 [] 0 0 [] 0) 0 (nNat 1)),.int .i64 0,.int .i64 0,.str [],.int .i64 0],.bool (iLe 0 (idxV [40,41,44,46,43,45,61,58,60,62] (qbx v (sAt v 0) [58,45] [60,61] [62,61] [33,61] 0 0 [] 0 0 [] 0)))])) .fail) .fail)))) .fail) (.ite (iEq (sAt v 0) 34) (.ite (qbC v) (.ite (qaQ true (qav (qad v)) 0 (nNat (qad v)) (nLen v)) (.ite (qaK (sSub v 0 (nNat (qad v))) 5) (.ret (.tup [.agg [.int .i64 (qaS (sSub v 0 (nNat (qad v))) 5),.str (qaW (sSub v 0 (nNat (qad v))) 5),.int .i64 (qaL (sSub v 0 (nNat (qad v))) 5),.int .i64 (qaN (sSub v 0 (nNat (qad v))) 5),.str (qaO (sSub v 0 (nNat (qad v))) 5),.int .i64 (qaM (sSub v 0 (nNat (qad v))) 5)],.bool (qaT (sSub v 0 (nNat (qad v))) 5)])) .fail) .fail) .fail) (.ite (qbr v (sAt v 0) [58,45] [60,61] [62,61] [33,61] 0 0 [] 0 0 [] 0) (.ret (.tup [.agg [.int .i64 (qbF v (sAt v 0) [58,45] [60,61] [62,61] [33,61] 0 0 [] 0 0 [] 0),.str (qbE v (sAt v 0) [58,45] [60,61] [62,61] [33,61] 0 0 [] 0 0 [] 0),.int .i64 (qbj v (sAt v 0) [58,45] [60,61] [62,61] [33,61] 0 0 [] 0 0 [] 0),.int .i64 (qbh v (sAt v 0) [58,45] [60,61] [62,61] [33,61] 0 0 [] 0 0 [] 0),
 .str (qbi v (sAt v 0) [58,45] [60,61] [62,61] [33,61] 0 0 [] 0 0 [] 0),.int .i64 (qbg v (sAt v 0) [58,45] [60,61] [62,61] [33,61] 0 0 [] 0 0 [] 0)],.bool (qbG v (sAt v 0) [58,45] [60,61] [62,61] [33,61] 0 0 [] 0 0 [] 0)])) (.ite (qbL v (sAt v 0) [58,45] [60,61] [62,61] [33,61] 0 0 [] 0 0 [] 0) (.ite (qaQ true (qav 1) 0 (nNat 1) (nLen (qaP v (sAt v 0) [58,45] [60,61] [62,61] [33,61] 0 0 [] 0 0 [] 0))) (.ret (.tup [.agg [.int .i64 6,.str (sSub (qaP v (sAt v 0) [58,45] [60,61] [62,61] [33,61] 0 0 [] 0 0 [] 0) 0 (nNat 1)),.int .i64 0,.int .i64 0,.str [],.int .i64 0],.bool (iLe 0 (idxV [40,41,44,46,43,45,61,58,60,62] (qbx v (sAt v 0) [58,45] [60,61] [62,61] [33,61] 0 0 [] 0 0 [] 0)))])) .fail) .fail))))) .fail))))) .fail
theorem qP5 (v:qU):(tcall tbT qvl qBf Tryz.f141 [.str v]).flat=qgS v:=by kernel_rfl
def qcG (v:qU):Option PV:=(qgS v).run
def qc2 (v:qU):Int:=(gInt (gAt (gCs (gAt (gCs (gVal (qcG v))) 0)) 0))
def qbs (v:qU):List UInt8:=(gStr (gAt (gCs (gAt (gCs (gVal (qcG v))) 0)) 1))
def qcs (v:qU):Int:=(gInt (gAt (gCs (gAt (gCs (gVal (qcG v))) 0)) 2))
def qct (v:qU):Int:=(gInt (gAt (gCs (gAt (gCs (gVal (qcG v))) 0)) 3))
def qcr (v:qU):List UInt8:=(gStr (gAt (gCs (gAt (gCs (gVal (qcG v))) 0)) 4))
def qxg (v:qU):Int:=(gInt (gAt (gCs (gAt (gCs (gVal (qcG v))) 0)) 5))
def qhE (v:qU):Bool:=(qcb (gAt (gCs (gVal (qcG v))) 1))
def qkS (v:qU):Bool:=isW (qcG v) (.tup [.agg [.int .i64 (qc2 v),.str (qbs v),.int .i64 (qcs v),.int .i64 (qct v),.str (qcr v),.int .i64 (qxg v)],.bool (qhE v)])
def qCN:List PV→Tr PV|[.str v]=>.ite (qkS v) (.ret (.tup [.agg [.int .i64 (qc2 v),.str (qbs v),.int .i64 (qcs v),.int .i64 (qct v),.str (qcr v),.int .i64 (qxg v)],.bool (qhE v)])) (.fail)|_=>.fail
theorem qMr (gl:Gl) (hg:GlLex gl):SimP Tryz.prog gl 141 fun args=>(qCN args).run:=by
 refine SimP.of_flat (G:=qvl) (L:=qBf) qat (qz3 gl hg ) qah  Tryz.func141 rfl (by rfl) (by kernel_rfl) (qaX (L:=lps qBf) [(16,qsp)] (by kernel_rfl) (List.forall_mem_cons.2 ⟨fun fr σ e fr' σ' h=>qB6 gl hg  fr σ e fr' σ' h,(List.forall_mem_nil _)⟩)) ?_
 intro args x h;unfold qCN at h
 split at h
 ·exact (congrArg Tr.run (qP5 _)).trans (qai h fun h=>by cases h)
 ·cases h
end Go.Pv
set_option maxHeartbeats 4000000
set_option maxRecDepth 200000
set_option linter.unusedSimpArgs false
set_option linter.unusedVariables false
namespace Go.Pv
open Go Go.Proofs Go.RowKit
def smI (c:Int):Bool:=decide (97≤c)&&decide (c≤122)
def grI (c:Int):Bool:=decide (65≤c)&&decide (c≤90)
def dgI (c:Int):Bool:=decide (48≤c)&&decide (c≤57)
def inI (c:Int):Bool:=smI c || grI c || dgI c || decide (c=95)
theorem qFw (b:UInt8):smI (b.toNat:Int)=qhI b:=by unfold smI qhI;congr 1<;>(apply decide_eq_decide.2;omega)
theorem qEo (b:UInt8):grI (b.toNat:Int)=qlq b:=by unfold grI qlq;congr 1<;>(apply decide_eq_decide.2;omega)
theorem qfk (b:UInt8):dgI (b.toNat:Int)=qbf b:=by unfold dgI qbf;congr 1<;>(apply decide_eq_decide.2;omega)
theorem qpw (b:UInt8):inI (b.toNat:Int)=innB b:=by
 unfold inI innB;rw [qFw,qEo,qfk]
 congr 1
 apply decide_eq_decide.2;omega
theorem qwA (c:Int):qsP c=some (.bool (dgI c)):=by
 unfold qsP qu0 dgI;by_cases h:(48:Int)≤c<;>simp [h]
@[simp] theorem qfr (c:Int):qbk c=true:=by simp [qbk,qbq,qwA]
@[simp] theorem ldigit_v (c:Int):qbq c=dgI c:=by simp [qbq,qwA]
theorem qq9 (c:Int):qlO c=some (.bool (inI c)):=by
 unfold qlO qn0 inI smI grI;by_cases h1:(97:Int)≤c<;>by_cases h2:c≤122<;>by_cases h3:(65:Int)≤c<;>by_cases h4:c≤90<;>by_cases h5:c=95<;>simp [h1,h2,h3,h4,h5]
@[simp] theorem lfollows_is (c:Int):qcf c=true:=by simp [qcf,qcA,qq9]
@[simp] theorem lfollows_v (c:Int):qcA c=inI c:=by simp [qcA,qq9]
theorem qHJ (s:qU) (hs:s.length < 9223372036854775807):∀ (m i:Nat),i+m=s.length→qhF [.str s,.fn 155 [],.int .i64 (i:Nat)] ⟨[],[],[]⟩=some (.exit 0,[.int .i64 ((i+runL innB (s.drop i):Nat):Int)],⟨[],[],[]⟩):=by
 intro m
 induction m with
 |zero =>
  intro i hi;rw [qLu,List.drop_eq_nil_of_le (by omega)]
  have:¬ (i:Int) < s.length:=by omega
  simp [qpv,runL,this]
 |succ m ih =>
  intro i hi;obtain⟨b,hb⟩:=qgH (l:=s) (i:=i) (by omega)
  have hbe:=(List.getElem?_eq_some_iff.1 hb).2;have w:=qaZ (i:=i) (by omega)
  have hlt:i < s.length:=by omega
  have h1:=ih (i+1) (by omega)
  rw [qbP hb,qLu];cases hc:innB b with
  |true =>
   have e:i+(runL innB (s.drop (i+1))+1)=i+1+runL innB (s.drop (i+1)):=by omega
   simp only [runL,hc,if_true,e];rw [← h1];simp [qpv,hlt,hbe,qpw,hc,w]
  |false=>simp [qpv,hlt,hbe,qpw,hc,runL]
theorem qHF (s:qU) (hs:s.length < 9223372036854775807):∀ (m i:Nat),i+m=s.length→qhF [.str s,.fn 156 [],.int .i64 (i:Nat)] ⟨[],[],[]⟩=some (.exit 0,[.int .i64 ((i+runL qbf (s.drop i):Nat):Int)],⟨[],[],[]⟩):=by
 intro m
 induction m with
 |zero =>
  intro i hi;rw [qFc,List.drop_eq_nil_of_le (by omega)]
  have:¬ (i:Int) < s.length:=by omega
  simp [qkN,runL,this]
 |succ m ih =>
  intro i hi;obtain⟨b,hb⟩:=qgH (l:=s) (i:=i) (by omega)
  have hbe:=(List.getElem?_eq_some_iff.1 hb).2;have w:=qaZ (i:=i) (by omega)
  have hlt:i < s.length:=by omega
  have h1:=ih (i+1) (by omega)
  rw [qbP hb,qFc];cases hc:qbf b with
  |true =>
   have e:i+(runL qbf (s.drop (i+1))+1)=i+1+runL qbf (s.drop (i+1)):=by omega
   simp only [runL,hc,if_true,e];rw [← h1];simp [qkN,hlt,hbe,qfk,hc,w]
  |false=>simp [qkN,hlt,hbe,qfk,hc,runL]
theorem qFv {s:List UInt8} (hs:s.length < 9223372036854775807):qEF s=some (.int .i64 (runL innB s:Nat)):=by
 have h:=qHJ s hs s.length 0 (by omega)
 simp at h
 unfold qEF qCA;simp [qt9,qxd,qCG,h]
theorem qPB {s:List UInt8} (hs:s.length < 9223372036854775807):qst s=true:=by simp [qst,qoq,qFv hs]
theorem qTb {s:List UInt8} (hs:s.length < 9223372036854775807):qoq s=(runL innB s:Nat):=by simp [qoq,qFv hs]
theorem qBd {s:List UInt8} (hs:s.length < 9223372036854775807):qyK s=some (.int .i64 (runL qbf s:Nat)):=by
 have h:=qHF s hs s.length 0 (by omega)
 simp at h
 unfold qyK qyy;simp [qqT,qsQ,qyQ,h]
theorem qM5 {s:List UInt8} (hs:s.length < 9223372036854775807):qbW s=true:=by simp [qbW,qaf,qBd hs]
theorem qQu {s:List UInt8} (hs:s.length < 9223372036854775807):qaf s=(runL qbf s:Nat):=by simp [qaf,qBd hs]
def qOut (i n:Nat):Option (PExit×List PV×Store):=if n=0 then some (.exit 0,[],⟨[],[],[]⟩) else some (.ret,[.int .i64 ((i+n:Nat):Int)],⟨[],[],[]⟩)
theorem qmx (i n:Nat):qOut i (incN n)=qOut (i+1) n:=by
 unfold qOut incN;by_cases h:n=0
 ·simp [h]
 ·simp [h];omega
theorem qAL (s:qU) (hs:s.length < 9223372036854775800):∀ (m i:Nat),s.length≤i+m→i≤s.length+1→qdN [.str s,.int .i64 (i:Nat)] ⟨[],[],[]⟩=qOut i (quoE false (s.drop i)):=by
 have hend:∀ i:Nat,s.length≤i→qdN [.str s,.int .i64 (i:Nat)] ⟨[],[],[]⟩=some (.exit 0,[],⟨[],[],[]⟩):=fun i hi=>by
  rw [qw3];have:¬ (i:Int) < s.length:=by omega
  simp [qfT,this]
 intro m
 induction m with
 |zero =>
  intro i hi _;rw [hend i (by omega),List.drop_eq_nil_of_le (by omega)]
  simp [quoE,qOut]
 |succ m ih =>
  intro i hi hi2;by_cases hlt:i < s.length
  ·obtain⟨b,hb⟩:=qgH (l:=s) (i:=i) hlt;have hbe:=(List.getElem?_eq_some_iff.1 hb).2;have w:=qaZ (i:=i) (by omega)
   have w2:=qaZ (i:=i+1) (by omega)
   have h1:=ih (i+1) (by omega) (by omega)
   rw [qbP hb,qw3];simp only [quoE];by_cases hq:b.toNat=34
   ·rw [if_pos hq];simp [qfT,hlt,hbe,hq,w,qOut]
   ·rw [if_neg hq];have hq':¬ ((b.toNat:Int)=34):=by omega
    by_cases hp:b.toNat=92
    ·rw [if_pos hp,qmx];have e1:qdN [.str s,.int .i64 (iAdd .i64 (iAdd .i64 (i:Int) 1) 1)] ⟨[],[],[]⟩=qOut (i+1) (quoE true (s.drop (i+1))):=by
      rw [w,w2];by_cases hl2:i+1 < s.length
      ·obtain⟨c,hc⟩:=qgH (l:=s) (i:=i+1) hl2;rw [qbP hc];simp only [quoE];rw [qmx];exact ih (i+1+1) (by omega) (by omega)
      ·rw [hend (i+1+1) (by omega),List.drop_eq_nil_of_le (by omega)]
       simp [quoE,qOut]
     rw [← e1];have t1:iLt (i:Int) (sLen s)=true:=by simp;omega
     have t2:qaR s (i:Int)=true:=by simp;omega
     have t3:sAt s (i:Int)=92:=by simp [hbe,hlt,hp]
     simp only [qfT,t1,t2,t3];simp
    ·have hp':¬ ((b.toNat:Int)=92):=by omega
     rw [if_neg hp,qmx,← h1,← w];have t1:iLt (i:Int) (sLen s)=true:=by simp;omega
     have t2:qaR s (i:Int)=true:=by simp;omega
     have t3:sAt s (i:Int)=b.toNat:=by simp [hbe,hlt]
     simp only [qfT,t1,t2,t3];simp [hq',hp']
  ·rw [hend i (by omega),List.drop_eq_nil_of_le (by omega)]
   simp [quoE,qOut]
theorem qt3 {c:UInt8} {t:List UInt8} (hs:(c::t).length < 9223372036854775800):qoP (c::t)=some (.int .i64 (if quoL t=0 then 0 else ((quoL t+1:Nat):Int))):=by
 have h:=qAL (c::t) hs t.length 1 (by simp;omega) (by simp)
 simp only [List.drop_succ_cons,List.drop_zero] at h
 unfold qoP qqb;unfold qOut at h
 rw [show quoE false t=quoL t from rfl] at h
 by_cases h0:quoL t=0
 ·rw [if_pos h0] at h ⊢;have h':qdN [.str (c::t),.int .i64 1] ⟨[],[],[]⟩=some (.exit 0,[],⟨[],[],[]⟩):=h;simp [qiq,qh3,qgz,qi8,h']
 ·rw [if_neg h0] at h ⊢;have h':qdN [.str (c::t),.int .i64 1] ⟨[],[],[]⟩=some (.ret,[.int .i64 ((1+quoL t:Nat):Int)],⟨[],[],[]⟩):=h;simp [qiq,qh3,qgz,qi8,h'];omega
theorem qIB:∀ t:qU,(Lib.indexByte t 10=-1∧gapL true t=t.length)∨∃ n:Nat,Lib.indexByte t 10=n∧n < t.length∧gapL true t=n+gapL false (t.drop n)
 |[]=>.inl ⟨rfl,rfl⟩
 |b::u=>by
  by_cases hb:b=10
  ·subst hb;refine .inr ⟨0,rfl,by simp,?_⟩
   simp [gapL,blB]
  ·have hb':(b == 10)=false:=by simpa using hb
   have hbn:b.toNat≠10:=fun h=>hb (UInt8.toNat.inj h)
   have e1:gapL true (b::u)=gapL true u+1:=by simp [gapL,hbn]
   rcases qIB u with⟨h1,h2⟩|⟨n,h1,h2,h3⟩
   ·refine .inl ⟨?_,by rw [e1,h2];rfl⟩
    simp [Lib.indexByte,hb',h1]
   ·refine .inr ⟨n+1,?_,by simpa using h2,?_⟩
    ·have:((n:Int) == -1)=false:=by simp
     simp [Lib.indexByte,hb',h1,this]
    ·rw [e1,h3];simp only [List.drop_succ_cons];omega
theorem qIo {b:UInt8} (h:blB b=true) (t:qU):gapL false (b::t)=gapL false t+1:=by
 have:b.toNat≠37:=by
  intro e;simp [blB,e] at h
 simp [gapL,h,this]
theorem qHH (s:qU) (hs:s.length < 9223372036854775800):∀ (m i:Nat),i+m=s.length→∃ e,(e=PExit.ret∨e=.exit 0)∧qnw [.str s,.int .i64 (i:Nat)] ⟨[],[],[]⟩=some (e,[.int .i64 ((i+gapL false (s.drop i):Nat):Int)],⟨[],[],[]⟩):=by
 intro m
 induction m using Nat.strongRecOn with
 |_ m ih =>
  intro i hi;by_cases hlt:i < s.length
  ·obtain⟨b,hb⟩:=qgH (l:=s) (i:=i) hlt;have hbe:=(List.getElem?_eq_some_iff.1 hb).2;have w:=qaZ (i:=i) (by omega)
   rw [qbP hb,qKm];by_cases hbl:blB b=true
   ·obtain⟨e,he,hv⟩:=ih (m - 1) (by omega) (i+1) (by omega)
    refine⟨e,he,?_⟩;rw [qIo hbl];have hv':qnw [.str s,.int .i64 (iAdd .i64 (i:Int) 1)] ⟨[],[],[]⟩=some (e,[.int .i64 ((i+(gapL false (s.drop (i+1))+1):Nat):Int)],⟨[],[],[]⟩):=by
     rw [w,hv,show i+1+gapL false (s.drop (i+1))=i+(gapL false (s.drop (i+1))+1) from by omega]
    rw [← hv'];have hbl2:b.toNat=32∨b.toNat=9∨b.toNat=10∨b.toNat=13:=by simpa [blB,or_assoc] using hbl
    rcases hbl2 with h|h|h|h<;>simp [qkh,hlt,hbe,h]
   ·have hbl2:¬ (b.toNat=32∨b.toNat=9∨b.toNat=10∨b.toNat=13):=by simpa [blB,or_assoc] using hbl
    have n1:¬ ((b.toNat:Int)=32):=by omega
    have n2:¬ ((b.toNat:Int)=9):=by omega
    have n3:¬ ((b.toNat:Int)=10):=by omega
    have n4:¬ ((b.toNat:Int)=13):=by omega
    by_cases h37:b.toNat=37
    ·have e1:gapL false (b::s.drop (i+1))=gapL true (s.drop (i+1))+1:=by simp [gapL,h37]
     have e2:sSub s (nNat (i:Int)) (nLen s)=b::s.drop (i+1):=by
      simp only [qzk,qy0,qIC,Int.toNat_natCast,List.take_length];exact qbP hb
     have hb10:(b == 10)=false:=by
      cases hq:b == 10 with
      |false=>rfl
      |true=>simp at hq;subst hq;simp at h37
     have e3:idxV (b::s.drop (i+1)) 10=if Lib.indexByte (s.drop (i+1)) 10 == -1 then -1 else Lib.indexByte (s.drop (i+1)) 10+1:=by
      show Lib.indexByte (b::s.drop (i+1)) 10=_
      simp only [Lib.indexByte,hb10,Bool.false_eq_true,if_false]
     rw [e1];rcases qIB (s.drop (i+1)) with⟨h1,h2⟩|⟨n,h1,h2,h3⟩
     ·refine⟨.ret,.inl rfl,?_⟩;have e4:idxV (b::s.drop (i+1)) 10=-1:=by rw [e3,h1];rfl
      have e5:i+(gapL true (s.drop (i+1))+1)=s.length:=by rw [h2];simp;omega
      rw [e5];have t1:iLt (i:Int) (sLen s)=true:=by simp;omega
      have t2:qaR s (i:Int)=true:=by simp;omega
      have t3:sAt s (i:Int)=37:=by simp [hbe,hlt,h37]
      have t4:qaQ (qav (i:Int)) true (nNat (i:Int)) (nLen s) (nLen s)=true:=by simp;omega
      simp only [qkh,e2,e4,t1,t2,t3,t4];simp
     ·have e4:idxV (b::s.drop (i+1)) 10=((n+1:Nat):Int):=by
       rw [e3,h1];have:((n:Int) == -1)=false:=by simp
       rw [this];simp
      have hn:n < s.length - (i+1):=by simpa using h2
      obtain⟨e,he,hv⟩:=ih (m - (n+1)) (by omega) (i+(n+1)) (by omega)
      refine⟨e,he,?_⟩;have w2:iAdd .i64 (i:Int) ((n+1:Nat):Int)=((i+(n+1):Nat):Int):=qbD (by omega)
      have e6:i+(n+1)+gapL false (s.drop (i+(n+1)))=i+(gapL true (s.drop (i+1))+1):=by
       rw [h3,List.drop_drop,show i+1+n=i+(n+1) from by omega]
       omega
      rw [e6] at hv;have hge:¬ ((n+1:Nat):Int) < 0:=by omega
      have t1:iLt (i:Int) (sLen s)=true:=by simp;omega
      have t2:qaR s (i:Int)=true:=by simp;omega
      have t3:sAt s (i:Int)=37:=by simp [hbe,hlt,h37]
      have t5:iLt ((n+1:Nat):Int) 0=false:=by simp;omega
      have t4:qaQ (qav (i:Int)) true (nNat (i:Int)) (nLen s) (nLen s)=true:=by simp;omega
      simp only [qkh,e2,e4,w2,t1,t2,t3,t4,t5];simpa using hv
    ·refine⟨.ret,.inl rfl,?_⟩;have n5:¬ ((b.toNat:Int)=37):=by omega
     have e1:gapL false (b::s.drop (i+1))=0:=by
      have:blB b=false:=by simpa using hbl
      simp [gapL,this,h37]
     rw [e1];simp [qkh,hlt,hbe,n1,n2,n3,n4,n5]
  ·refine⟨.exit 0,.inr rfl,?_⟩;rw [qKm,List.drop_eq_nil_of_le (by omega)]
   have:¬ (i:Int) < s.length:=by omega
   simp [qkh,gapL,this]
theorem qFS {s:List UInt8} (hs:s.length < 9223372036854775800):qFR s=some (.int .i64 (gapL false s:Nat)):=by
 obtain⟨e,he,h⟩:=qHH s hs s.length 0 (by omega)
 simp at h
 unfold qFR qBx;rcases he with rfl|rfl<;>simp [qtx,que,qpD,qkd,qt4,h]
theorem qLs {s:List UInt8} (hs:s.length < 9223372036854775800):qgR s=true:=by simp [qgR,qbn,qFS hs]
theorem qOv {s:List UInt8} (hs:s.length < 9223372036854775800):qbn s=(gapL false s:Nat):=by simp [qbn,qFS hs]
theorem qAw {s:List UInt8} (hs:s.length < 9223372036854775807) (k:Int):qiy s k=some (.tup [.agg [.int .i64 k,.str (s.take (runL innB s)),.int .i64 0,.int .i64 0,.str [],.int .i64 0],.bool (decide (runL innB s≤64))]):=by
 unfold qiy qy6;have h:=qnJ innB s;have e:iLe (runL innB s:Nat) 64=decide (runL innB s≤64):=by simp;omega
 rw [qTb hs,qPB hs,e];have t:qaQ true (qav ((runL innB s:Nat):Int)) 0 (nNat ((runL innB s:Nat):Int)) (nLen s)=true:=by simp;omega
 rw [t];simp
theorem qE7 {s:List UInt8} (hs:s.length < 9223372036854775807) (k:Int):qfo s k=true:=by simp [qfo,qhl,qg6,qfs,qfB,qfw,qfy,qhz,qAw hs]
def wTup (k:Int) (x:qU) (v:Vl) (p:Int) (b:Bool):PV:=.tup [.agg [.int .i64 k,.str x,.int .i64 v.1,.int .i64 v.2.1,.str v.2.2,.int .i64 p],.bool b]
theorem qLR {s:List UInt8} (hs:s.length < 9223372036854775807) (k:Int):(PV.tup [.agg [.int .i64 (qhl s k),.str (qg6 s k),.int .i64 (qfs s k),.int .i64 (qfB s k),.str (qfw s k),.int .i64 (qfy s k)],.bool (qhz s k)])=wTup k (s.take (runL innB s)) (0,0,[]) 0 (decide (runL innB s≤64)):=by
 simp [wTup,qhl,qg6,qfs,qfB,qfw,qfy,qhz,qAw hs]
theorem qus {s:List UInt8} (hs:s.length≤140737488355328) (k:Int):qeN s k=some (wTup k s (kRd s,nRd s,sRd s) 0 (decide (eRd s=0))):=by
 unfold qeN qp3 wTup;simp [hs]
theorem qqw {s:List UInt8} (hs:s.length≤140737488355328) (k:Int):qaK s k=true:=by simp [qaK,qaS,qaW,qaL,qaN,qaO,qaM,qaT,qus hs,wTup]
theorem qzO {s:List UInt8} (hs:s.length≤140737488355328) (k:Int):(PV.tup [.agg [.int .i64 (qaS s k),.str (qaW s k),.int .i64 (qaL s k),.int .i64 (qaN s k),.str (qaO s k),.int .i64 (qaM s k)],.bool (qaT s k)])=wTup k s (kRd s,nRd s,sRd s) 0 (decide (eRd s=0)):=by
 simp [wTup,qaS,qaW,qaL,qaN,qaO,qaM,qaT,qus hs]
theorem qLJ (c:UInt8) (t:qU) (a b:UInt8):qft (c::t) [a,b]=(decide (c=a)&&hdIs (fun d=>decide (d=b)) t):=by
 unfold qft;cases t with
 |nil=>simp [hdIs]
 |cons d u=>simp [hdIs,Bool.decide_and]
def wst:Store:=⟨[[.int .i64 0,.str [],.int .i64 0,.int .i64 0,.str [],.int .i64 0]],[],[120]⟩
theorem qTd (c:UInt8) (t:qU):hdIs (twoB c) t=(qft (c::t) [58,45] || qft (c::t) [60,61] || qft (c::t) [62,61] || qft (c::t) [33,61]):=by
 simp only [qLJ];cases t with
 |nil=>simp [hdIs]
 |cons d u =>
  simp only [hdIs,twoB];simp only [← UInt8.toNat_inj];simp [Bool.decide_and]
theorem qmB {s p:List UInt8} (h:qft s p=true) (hp:p.length=2):s.take 2=p:=by
 simp [qft] at h
 rw [← hp];exact h.2
theorem qBX (c:UInt8) (t:qU) (n:Int):qmu [.str (c::t),.ptr 0 0,.int .u8 n,.agg [.str [58,45],.str [60,61],.str [62,61],.str [33,61]],.int .i64 0] wst =
  if hdIs (twoB c) t then some (.ret,[.ptr 0 0,.bool true],⟨[[.int .i64 6,.str ((c::t).take 2),.int .i64 0,.int .i64 0,.str [],.int .i64 0]],[],[120]⟩)
  else some (.exit 1,[.str (c::t),.ptr 0 0,.int .u8 n],wst):=by
 have i1:iAdd .i64 0 1=1:=by decide
 have i2:iAdd .i64 1 1=2:=by decide
 have i3:iAdd .i64 2 1=3:=by decide
 have i4:iAdd .i64 3 1=4:=by decide
 unfold wst;rw [qTd];rw [qoD];cases h1:qft (c::t) [58,45] with
 |true=>have q:=qmB h1 rfl;simp [qcO,h1];simpa using q.symm
 |false =>
  have e1:(qcO (c::t) n [58,45] [60,61] [62,61] [33,61] 0 0 [] 0 0 [] 0).run=some (.next [.str (c::t),.ptr 0 0,.int .u8 n,.agg [.str [58,45],.str [60,61],.str [62,61],.str [33,61]],.int .i64 1] ⟨[[.int .i64 0,.str [],.int .i64 0,.int .i64 0,.str [],.int .i64 0]],[],[120]⟩):=by simp [qcO,h1,i1]
  rw [e1,qmz,qoD];cases h2:qft (c::t) [60,61] with
  |true=>have q:=qmB h2 rfl;simp [qcO,h2];simpa using q.symm
  |false =>
   have e2:(qcO (c::t) n [58,45] [60,61] [62,61] [33,61] 1 0 [] 0 0 [] 0).run=some (.next [.str (c::t),.ptr 0 0,.int .u8 n,.agg [.str [58,45],.str [60,61],.str [62,61],.str [33,61]],.int .i64 2] ⟨[[.int .i64 0,.str [],.int .i64 0,.int .i64 0,.str [],.int .i64 0]],[],[120]⟩):=by simp [qcO,h2,i2]
   rw [e2,qmz,qoD];cases h3:qft (c::t) [62,61] with
   |true=>have q:=qmB h3 rfl;simp [qcO,h3];simpa using q.symm
   |false =>
    have e3:(qcO (c::t) n [58,45] [60,61] [62,61] [33,61] 2 0 [] 0 0 [] 0).run=some (.next [.str (c::t),.ptr 0 0,.int .u8 n,.agg [.str [58,45],.str [60,61],.str [62,61],.str [33,61]],.int .i64 3] ⟨[[.int .i64 0,.str [],.int .i64 0,.int .i64 0,.str [],.int .i64 0]],[],[120]⟩):=by simp [qcO,h3,i3]
    rw [e3,qmz,qoD];cases h4:qft (c::t) [33,61] with
    |true=>have q:=qmB h4 rfl;simp [qcO,h4];simpa using q.symm
    |false =>
     have e4:(qcO (c::t) n [58,45] [60,61] [62,61] [33,61] 3 0 [] 0 0 [] 0).run=some (.next [.str (c::t),.ptr 0 0,.int .u8 n,.agg [.str [58,45],.str [60,61],.str [62,61],.str [33,61]],.int .i64 4] ⟨[[.int .i64 0,.str [],.int .i64 0,.int .i64 0,.str [],.int .i64 0]],[],[120]⟩):=by simp [qcO,h4,i4]
     rw [e4,qmz,qoD];simp [qcO]
theorem qHG (c:UInt8):∀ l:qU,0≤Lib.indexByte l c↔c∈l
 |[]=>by simp [Lib.indexByte]
 |b::l=>by
  have h1:=qHG c l;have h2:=Lib.indexByte_ge l c;unfold Lib.indexByte;by_cases hb:b=c
  ·subst hb;simp
  ·have hb':(b == c)=false:=by simpa using hb
   have hc:¬ c=b:=fun e=>hb e.symm
   rw [hb'];by_cases h3:Lib.indexByte l c=-1
   ·have:¬ c∈l:=fun hm=>by have:=h1.2 hm;omega
    simp [h3,hc,this]
   ·have:c∈l:=h1.1 (by omega)
    simp [h3,this];omega
theorem qMK (c:UInt8):iLe 0 (idxV [40,41,44,46,43,45,61,58,60,62] (c.toNat:Int))=qmR c:=by
 have e:idxV [40,41,44,46,43,45,61,58,60,62] (c.toNat:Int)=Lib.indexByte [40,41,44,46,43,45,61,58,60,62] c:=by
  unfold idxV
  congr 1
  simp
 rw [qIs];have h:=qHG c [40,41,44,46,43,45,61,58,60,62];have h':decide (0≤Lib.indexByte [40,41,44,46,43,45,61,58,60,62] c)=decide (c∈[40,41,44,46,43,45,61,58,60,62]):=decide_eq_decide.2 h;rw [e,h'];simp only [List.mem_cons,List.not_mem_nil,or_false,← UInt8.toNat_inj,qmR,List.contains,List.elem_eq_mem];simp
theorem qCQ {c:UInt8} {t:List UInt8} (hs:(c::t).length≤140737488355328) (h:qhI c=true):qcG (c::t)=some (wTup 1 ((c::t).take (runL innB (c::t))) (0,0,[]) 0 (decide (runL innB (c::t)≤64))):=by
 have hs':(c::t).length < 9223372036854775807:=by omega
 have h1:97≤c.toNat∧c.toNat≤122:=by simpa [qhI] using h
 have g1:(97:Int)≤c.toNat:=by omega
 have g2:(c.toNat:Int)≤122:=by omega
 rw [← qLR hs'];unfold qcG qgS;cases t<;>simp [g1,g2,qE7 hs']
theorem qBO {c:UInt8} {t:List UInt8} (hs:(c::t).length≤140737488355328) (h:qlq c=true):qcG (c::t)=some (wTup 2 ((c::t).take (runL innB (c::t))) (0,0,[]) 0 (decide (runL innB (c::t)≤64))):=by
 have hs':(c::t).length < 9223372036854775807:=by omega
 have h1:65≤c.toNat∧c.toNat≤90:=by simpa [qlq] using h
 have g1:¬ (97:Int)≤c.toNat:=by omega
 have g2:(65:Int)≤c.toNat:=by omega
 have g3:(c.toNat:Int)≤90:=by omega
 rw [← qLR hs'];unfold qcG qgS;cases t<;>simp [g1,g2,g3,qE7 hs']
theorem qJI {c:UInt8} {t:List UInt8} (hs:(c::t).length≤140737488355328) (h:c.toNat=95):qcG (c::t)=some (wTup 3 [95] (0,0,[]) 0 (!hdIs innB t)):=by
 unfold qcG qgS;cases t with
 |nil =>
  have e:inI 0=false:=by decide
  simp [h,hdIs,wTup,e]
 |cons d u =>
  have g:iLt 1 (sLen (c::d::u))=true:=by simp;omega
  rw [g];simp [h,hdIs,qpw,wTup]
def dgW (s:qU):PV:=wTup 4 (s.take (runL qbf (s.drop 1)+1)) (kRd (s.take (runL qbf (s.drop 1)+1)),nRd (s.take (runL qbf (s.drop 1)+1)),sRd (s.take (runL qbf (s.drop 1)+1))) 0 (decide (eRd (s.take (runL qbf (s.drop 1)+1))=0))
theorem qKK {c : UInt8} {t : List UInt8} (hs : (c :: t).length ≤ 140737488355328) : (Tr.ite (qaQ (qav 1) true (nNat 1) (nLen (c :: t)) (nLen (c :: t)))
          (Tr.ite (qbW (sSub (c :: t) (nNat 1) (nLen (c :: t))))
            (Tr.ite (qaQ true (qav (iAdd .i64 1 (qaf (sSub (c :: t) (nNat 1) (nLen (c :: t)))))) 0 (nNat (iAdd .i64 1 (qaf (sSub (c :: t) (nNat 1) (nLen (c :: t)))))) (nLen (c :: t)))
              (Tr.ite (qaK (sSub (c :: t) 0 (nNat (iAdd .i64 1 (qaf (sSub (c :: t) (nNat 1) (nLen (c :: t))))))) 4)
                (Tr.ret (PV.tup [PV.agg [PV.int .i64 (qaS (sSub (c :: t) 0 (nNat (iAdd .i64 1 (qaf (sSub (c :: t) (nNat 1) (nLen (c :: t))))))) 4), PV.str (qaW (sSub (c :: t) 0 (nNat (iAdd .i64 1 (qaf (sSub (c :: t) (nNat 1) (nLen (c :: t))))))) 4), PV.int .i64 (qaL (sSub (c :: t) 0 (nNat (iAdd .i64 1 (qaf (sSub (c :: t) (nNat 1) (nLen (c :: t))))))) 4), PV.int .i64 (qaN (sSub (c :: t) 0 (nNat (iAdd .i64 1 (qaf (sSub (c :: t) (nNat 1) (nLen (c :: t))))))) 4), PV.str (qaO (sSub (c :: t) 0 (nNat (iAdd .i64 1 (qaf (sSub (c :: t) (nNat 1) (nLen (c :: t))))))) 4), PV.int .i64 (qaM (sSub (c :: t) 0 (nNat (iAdd .i64 1 (qaf (sSub (c :: t) (nNat 1) (nLen (c :: t))))))) 4)], PV.bool (qaT (sSub (c :: t) 0 (nNat (iAdd .i64 1 (qaf (sSub (c :: t) (nNat 1) (nLen (c :: t))))))) 4)]))
                Tr.fail) Tr.fail) Tr.fail) Tr.fail).run = some (dgW (c :: t)) := by
  have e0 : sSub (c :: t) (nNat 1) (nLen (c :: t)) = t := by simp
  have hl : t.length + 1 ≤ 140737488355328 := by simpa using hs
  have hr := qnJ qbf t
  rw [e0, qM5 (by omega), qQu (by omega)]
  have e1 : iAdd .i64 1 ((runL qbf t : Nat) : Int) = ((runL qbf t + 1 : Nat) : Int) := by
    have : iAdd .i64 1 ((runL qbf t : Nat) : Int) = (1 : Int) + (runL qbf t : Nat) := qbD (by omega)
    rw [this]; omega
  rw [e1]
  have e2 : sSub (c :: t) 0 (nNat ((runL qbf t + 1 : Nat) : Int)) = (c :: t).take (runL qbf t + 1) := by simp [-List.take_succ_cons]
  rw [e2]
  have hl2 : ((c :: t).take (runL qbf t + 1)).length ≤ 140737488355328 := by rw [List.length_take]; omega
  have t1 : qaQ (qav 1) true (nNat 1) (nLen (c :: t)) (nLen (c :: t)) = true := by simp
  have t2 : qaQ true (qav ((runL qbf t + 1 : Nat) : Int)) 0 (nNat ((runL qbf t + 1 : Nat) : Int)) (nLen (c :: t)) = true := by simp; omega
  rw [t1, t2, qqw hl2, qzO hl2]
  rfl
theorem qNH {c:UInt8} {t:List UInt8} (hs:(c::t).length≤140737488355328) (h:qbf c=true):qcG (c::t)=some (dgW (c::t)):=by
 have h1:48≤c.toNat∧c.toNat≤57:=by simpa [qbf] using h
 have f0:qaR (c::t) 0=true:=by simp
 have f1:iLe 97 (sAt (c::t) 0)=false:=by simp;omega
 have f3:iLe 65 (sAt (c::t) 0)=false:=by simp;omega
 have f5:iEq (sAt (c::t) 0) 95=false:=by simp;omega
 have f6:qbq (sAt (c::t) 0)=true:=by simp [qfk,h]
 rw [← qKK hs];unfold qcG qgS;cases t with
 |nil =>
  have g:iLt 1 (sLen [c])=false:=by simp
  rw [f0,g,f1,f3,f5,f6,qfr];rfl
 |cons d u =>
  have g:iLt 1 (sLen (c::d::u))=true:=by simp;omega
  have g2:qaR (c::d::u) 1=true:=by simp
  rw [f0,g,g2,f1,f3,f5,f6,qfr];rfl
theorem qLM {c d:UInt8} {u:List UInt8} (hs:(c::d::u).length≤140737488355328) (h:c.toNat=45) (hd:qbf d=true):qcG (c::d::u)=some (dgW (c::d::u)):=by
 have f0:qaR (c::d::u) 0=true:=by simp
 have f1:iLe 97 (sAt (c::d::u) 0)=false:=by simp;omega
 have f3:iLe 65 (sAt (c::d::u) 0)=false:=by simp;omega
 have f5:iEq (sAt (c::d::u) 0) 95=false:=by simp;omega
 have f6:qbq (sAt (c::d::u) 0)=false:=by simp [dgI,h]
 have f7:iEq (sAt (c::d::u) 0) 45=true:=by simp;omega
 have f8:qbq (sAt (c::d::u) 1)=true:=by simp [qfk,hd]
 rw [← qKK hs];unfold qcG qgS;have g:iLt 1 (sLen (c::d::u))=true:=by simp;omega
 have g2:qaR (c::d::u) 1=true:=by simp
 rw [f0,g,g2,f1,f3,f5,f6,f7,f8,qfr,qfr];rfl
def symN (t:qU):Nat:=if quoL t=0 then 0 else quoL t+1
def syW (s:qU) (n:Nat):PV:=wTup 5 (s.take n) (kRd (s.take n),nRd (s.take n),sRd (s.take n)) 0 (decide (eRd (s.take n)=0))
theorem qJq {c:UInt8} {t:List UInt8} (hs:(c::t).length≤140737488355328) (h:c.toNat=34):qcG (c::t)=some (syW (c::t) (symN t)):=by
 have hq:qad (c::t)=((symN t:Nat):Int):=by
  simp only [qad,qt3 (c:=c) (t:=t) (by omega),qJm,qM2,symN]
  split<;>simp
 have hqi:qbC (c::t)=true:=by
  simp only [qbC,qNp,qt3 (c:=c) (t:=t) (by omega),hq,symN]
  split<;>simp
 have hle:symN t≤(c::t).length:=by
  have:=qC9 t;unfold symN;split<;>simp<;>omega
 have hl2:((c::t).take (symN t)).length≤140737488355328:=by rw [List.length_take];omega
 have f0:qaR (c::t) 0=true:=by simp
 have f1:iLe 97 (sAt (c::t) 0)=false:=by simp;omega
 have f3:iLe 65 (sAt (c::t) 0)=false:=by simp;omega
 have f5:iEq (sAt (c::t) 0) 95=false:=by simp;omega
 have f6:qbq (sAt (c::t) 0)=false:=by simp [dgI,h]
 have f7:iEq (sAt (c::t) 0) 45=false:=by simp;omega
 have f9:iEq (sAt (c::t) 0) 34=true:=by simp;omega
 have e2:sSub (c::t) 0 (nNat ((symN t:Nat):Int))=(c::t).take (symN t):=by simp
 have t2:qaQ true (qav ((symN t:Nat):Int)) 0 (nNat ((symN t:Nat):Int)) (nLen (c::t))=true:=by simp at hle ⊢;omega
 have leaf:(PV.tup [PV.agg [PV.int .i64 (qaS ((c::t).take (symN t)) 5),PV.str (qaW ((c::t).take (symN t)) 5),PV.int .i64 (qaL ((c::t).take (symN t)) 5),PV.int .i64 (qaN ((c::t).take (symN t)) 5),PV.str (qaO ((c::t).take (symN t)) 5),PV.int .i64 (qaM ((c::t).take (symN t)) 5)],PV.bool (qaT ((c::t).take (symN t)) 5)])=syW (c::t) (symN t):=by rw [qzO hl2];rfl
 rw [← leaf];unfold qcG qgS;cases t with
 |nil =>
  have g:iLt 1 (sLen [c])=false:=by simp
  rw [f0,g,f1,f3,f5,f6,f7,f9,qfr,hqi,hq,t2,e2,qqw hl2];rfl
 |cons d u =>
  have g:iLt 1 (sLen (c::d::u))=true:=by simp;omega
  have g2:qaR (c::d::u) 1=true:=by simp
  rw [f0,g,g2,f1,f3,f5,f6,f7,f9,qfr,hqi,hq,t2,e2,qqw hl2];rfl
def mkW (c:UInt8) (t:qU):PV:=if hdIs (twoB c) t then wTup 6 ((c::t).take 2) (0,0,[]) 0 true else wTup 6 [c] (0,0,[]) 0 (qmR c)
def mkT (v:qU):Tr PV:=(Tr.ite (qbr v (sAt v 0) [58,45] [60,61] [62,61] [33,61] 0 0 [] 0 0 [] 0)
 (Tr.ret (PV.tup [PV.agg [PV.int .i64 (qbF v (sAt v 0) [58,45] [60,61] [62,61] [33,61] 0 0 [] 0 0 [] 0),PV.str (qbE v (sAt v 0) [58,45] [60,61] [62,61] [33,61] 0 0 [] 0 0 [] 0),PV.int .i64 (qbj v (sAt v 0) [58,45] [60,61] [62,61] [33,61] 0 0 [] 0 0 [] 0),PV.int .i64 (qbh v (sAt v 0) [58,45] [60,61] [62,61] [33,61] 0 0 [] 0 0 [] 0),PV.str (qbi v (sAt v 0) [58,45] [60,61] [62,61] [33,61] 0 0 [] 0 0 [] 0),PV.int .i64 (qbg v (sAt v 0) [58,45] [60,61] [62,61] [33,61] 0 0 [] 0 0 [] 0)],PV.bool (qbG v (sAt v 0) [58,45] [60,61] [62,61] [33,61] 0 0 [] 0 0 [] 0)]))
 (Tr.ite (qbL v (sAt v 0) [58,45] [60,61] [62,61] [33,61] 0 0 [] 0 0 [] 0)
  (Tr.ite (qaQ true (qav 1) 0 (nNat 1) (nLen (qaP v (sAt v 0) [58,45] [60,61] [62,61] [33,61] 0 0 [] 0 0 [] 0)))
   (Tr.ret (PV.tup [PV.agg [PV.int .i64 6,PV.str (sSub (qaP v (sAt v 0) [58,45] [60,61] [62,61] [33,61] 0 0 [] 0 0 [] 0) 0 (nNat 1)),PV.int .i64 0,PV.int .i64 0,PV.str [],PV.int .i64 0],PV.bool (iLe 0 (idxV [40,41,44,46,43,45,61,58,60,62] (qbx v (sAt v 0) [58,45] [60,61] [62,61] [33,61] 0 0 [] 0 0 [] 0)))]))
   Tr.fail)
  Tr.fail))
theorem qR7 (c:UInt8) (t:qU):(mkT (c::t)).run=some (mkW c t):=by
 have hL:=qBX c t (sAt (c::t) 0);unfold wst at hL;have e2:sSub (c::t) 0 (nNat 1)=[c]:=by simp
 have t2:qaQ true (qav 1) 0 (nNat 1) (nLen (c::t))=true:=by simp
 have e3:sAt (c::t) 0=(c.toNat:Int):=by simp
 have ho:=qMK c;unfold mkT mkW;cases h:hdIs (twoB c) t with
 |true =>
  rw [h] at hL;simp only [if_true] at hL ⊢;have a1:qbr (c::t) (sAt (c::t) 0) [58,45] [60,61] [62,61] [33,61] 0 0 [] 0 0 [] 0=true:=by
   simp only [qbr,qbF,qbE,qbj,qbh,qbi,qbg,qbG,qb5,hL];simp
  rw [a1];simp only [qbF,qbE,qbj,qbh,qbi,qbg,qbG,qb5,hL];simp [wTup]
 |false =>
  rw [h] at hL;simp only [Bool.false_eq_true,if_false] at hL ⊢;have a0:qbr (c::t) (sAt (c::t) 0) [58,45] [60,61] [62,61] [33,61] 0 0 [] 0 0 [] 0=false:=by
   cases hq:qbr (c::t) (sAt (c::t) 0) [58,45] [60,61] [62,61] [33,61] 0 0 [] 0 0 [] 0 with
   |false=>rfl
   |true =>
    simp only [qbr,qb5,hL] at hq;simp at hq
  have a1:qbL (c::t) (sAt (c::t) 0) [58,45] [60,61] [62,61] [33,61] 0 0 [] 0 0 [] 0=true:=by
   simp only [qbL,qaP,qbx,qnX,qn5,qn4,qnq,qnn,qnZ,qb5,hL];simp
  have a2:qaP (c::t) (sAt (c::t) 0) [58,45] [60,61] [62,61] [33,61] 0 0 [] 0 0 [] 0=c::t:=by
   simp only [qaP,qb5,hL];simp
  have a3:qbx (c::t) (sAt (c::t) 0) [58,45] [60,61] [62,61] [33,61] 0 0 [] 0 0 [] 0=(c.toNat:Int):=by
   simp only [qbx,qb5,hL];simp
  rw [a0,a1,a2,a3,t2,e2,ho];rfl
theorem qHg {c:UInt8} {t:List UInt8} (hs:(c::t).length≤140737488355328) (h1:qhI c=false) (h2:qlq c=false) (h3:c.toNat≠95) (h4:qbf c=false) (h5:c.toNat=45→hdIs qbf t=false) (h6:c.toNat≠34):qcG (c::t)=some (mkW c t):=by
 have f0:qaR (c::t) 0=true:=by simp
 have f5:iEq (sAt (c::t) 0) 95=false:=by simp;omega
 have f6:qbq (sAt (c::t) 0)=false:=by simp [qfk,h4]
 have f9:iEq (sAt (c::t) 0) 34=false:=by simp;omega
 have g1:¬ (97≤c.toNat∧c.toNat≤122):=by simpa [qhI] using h1
 have g2:¬ (65≤c.toNat∧c.toNat≤90):=by simpa [qlq] using h2
 rw [← qR7];unfold qcG qgS;have f8:c.toNat=45→qbq (if iLt 1 (sLen (c::t))=true then sAt (c::t) 1 else 0)=false:=fun h=>by
  have:=h5 h;cases t with
  |nil=>simp [dgI]
  |cons d u =>
   have g:iLt 1 (sLen (c::d::u))=true:=by simp;omega
   rw [if_pos g];simpa [qfk,hdIs] using this
 have e97:iLe 97 (sAt (c::t) 0)=decide (97≤c.toNat):=by simp;omega
 have e122:iLe (sAt (c::t) 0) 122=decide (c.toNat≤122):=by simp;omega
 have e65:iLe 65 (sAt (c::t) 0)=decide (65≤c.toNat):=by simp;omega
 have e90:iLe (sAt (c::t) 0) 90=decide (c.toNat≤90):=by simp;omega
 have e45:iEq (sAt (c::t) 0) 45=decide (c.toNat=45):=by simp;omega
 rw [f0,e97,e122,e65,e90,e45,f5,f6,f9,qfr];have key:∀ b:Bool,iLt 1 (sLen (c::t))=b→(b=true→qaR (c::t) 1=true)→True:=fun _ _ _=>trivial
 by_cases k1:97≤c.toNat
 ·have k2:¬ c.toNat≤122:=fun h=>g1 ⟨k1,h⟩
  have k3:65≤c.toNat:=by omega
  have k4:¬ c.toNat≤90:=by omega
  have k5:¬ c.toNat=45:=by omega
  rw [decide_eq_true k1,decide_eq_false k2,decide_eq_true k3,decide_eq_false k4,decide_eq_false k5];cases t with
  |nil =>
   have g:iLt 1 (sLen [c])=false:=by simp
   rw [g];rfl
  |cons d u =>
   have g:iLt 1 (sLen (c::d::u))=true:=by simp;omega
   have g2:qaR (c::d::u) 1=true:=by simp
   rw [g,g2];rfl
 ·by_cases k3:65≤c.toNat
  ·have k4:¬ c.toNat≤90:=fun h=>g2 ⟨k3,h⟩
   have k5:¬ c.toNat=45:=by omega
   rw [decide_eq_false k1,decide_eq_true k3,decide_eq_false k4,decide_eq_false k5];cases t with
   |nil =>
    have g:iLt 1 (sLen [c])=false:=by simp
    rw [g];rfl
   |cons d u =>
    have g:iLt 1 (sLen (c::d::u))=true:=by simp;omega
    have g2:qaR (c::d::u) 1=true:=by simp
    rw [g,g2];rfl
  ·by_cases k5:c.toNat=45
   ·rw [decide_eq_false k1,decide_eq_false k3,decide_eq_true k5];cases t with
    |nil =>
     have g:iLt 1 (sLen [c])=false:=by simp
     have f8':qbq 0=false:=by simp [dgI]
     rw [g,f8',qfr 0];rfl
    |cons d u =>
     have g:iLt 1 (sLen (c::d::u))=true:=by simp;omega
     have g2:qaR (c::d::u) 1=true:=by simp
     have f8':=f8 k5;rw [if_pos g] at f8';rw [g,g2,f8',qfr (sAt (c::d::u) 1)];rfl
   ·rw [decide_eq_false k1,decide_eq_false k3,decide_eq_false k5];cases t with
    |nil =>
     have g:iLt 1 (sLen [c])=false:=by simp
     rw [g];rfl
    |cons d u =>
     have g:iLt 1 (sLen (c::d::u))=true:=by simp;omega
     have g2:qaR (c::d::u) 1=true:=by simp
     rw [g,g2];rfl
end Go.Pv
set_option maxHeartbeats 4000000
set_option maxRecDepth 200000
set_option linter.unusedSimpArgs false
set_option linter.unusedVariables false
namespace Go.Pv
open Go Go.Proofs
def qyF:GamT:=ofL []
theorem qGY (gl:Gl):qaU Tryz.prog gl (gam qyF):=qag
def qEp:LpsT:=fun r fr σ=>.fail
def qvy (c:Int):Tr PV:=.ite (iLe 97 c) (.ret (.bool (iLe c 122))) (.ret (.bool false))
theorem qNZ (c:Int):(tcall tbT qyF qEp Tryz.f93 [.int .u8 c]).flat=qvy c:=by kernel_rfl
def qrY (c:Int):Option PV:=(qvy c).run
def qke (c:Int):Bool:=(qcb (gVal (qrY c)))
def qi2 (c:Int):Bool:=isW (qrY c) (.bool (qke c))
def qr7:List PV→Tr PV|[.int .u8 c]=>.ite (qi2 c) (.ret (.bool (qke c))) (.fail)|_=>.fail
theorem qwK (gl:Gl):SimP Tryz.prog gl 93 fun args=>(qr7 args).run:=by
 refine SimP.of_flat (G:=qyF) (L:=qEp) qat (qGY gl ) qah  Tryz.func93 rfl (by rfl) (by kernel_rfl) (qae (by kernel_rfl)) ?_
 intro args x h;unfold qr7 at h
 split at h
 ·exact (congrArg Tr.run (qNZ _)).trans (qai h fun h=>by cases h)
 ·cases h
def qze:GamT:=ofL []
theorem qG5 (gl:Gl):qaU Tryz.prog gl (gam qze):=qag
def qF1:LpsT:=fun r fr σ=>.fail
def qvB (c:Int):Tr PV:=.ite (iLe 65 c) (.ret (.bool (iLe c 90))) (.ret (.bool false))
theorem qNG (c:Int):(tcall tbT qze qF1 Tryz.f94 [.int .u8 c]).flat=qvB c:=by kernel_rfl
def qrZ (c:Int):Option PV:=(qvB c).run
def qgK (c:Int):Bool:=(qcb (gVal (qrZ c)))
def qfN (c:Int):Bool:=isW (qrZ c) (.bool (qgK c))
def qrX:List PV→Tr PV|[.int .u8 c]=>.ite (qfN c) (.ret (.bool (qgK c))) (.fail)|_=>.fail
theorem qwG (gl:Gl):SimP Tryz.prog gl 94 fun args=>(qrX args).run:=by
 refine SimP.of_flat (G:=qze) (L:=qF1) qat (qG5 gl ) qah  Tryz.func94 rfl (by rfl) (by kernel_rfl) (qae (by kernel_rfl)) ?_
 intro args x h;unfold qrX at h
 split at h
 ·exact (congrArg Tr.run (qNG _)).trans (qai h fun h=>by cases h)
 ·cases h
def qxf:GamT:=ofL []
theorem qGl (gl:Gl):qaU Tryz.prog gl (gam qxf):=qag
def qFT:LpsT:=fun r fr σ=>.fail
def qu4 (c:Int):Tr PV:=.ite (iLe 48 c) (.ret (.bool (iLe c 57))) (.ret (.bool false))
theorem qOi (c:Int):(tcall tbT qxf qFT Tryz.f96 [.int .u8 c]).flat=qu4 c:=by kernel_rfl
def qrM (c:Int):Option PV:=(qu4 c).run
def qgI (c:Int):Bool:=(qcb (gVal (qrM c)))
def qf9 (c:Int):Bool:=isW (qrM c) (.bool (qgI c))
def qoJ:List PV→Tr PV|[.int .u8 c]=>.ite (qf9 c) (.ret (.bool (qgI c))) (.fail)|_=>.fail
theorem qpN (gl:Gl):SimP Tryz.prog gl 96 fun args=>(qoJ args).run:=by
 refine SimP.of_flat (G:=qxf) (L:=qFT) qat (qGl gl ) qah  Tryz.func96 rfl (by rfl) (by kernel_rfl) (qae (by kernel_rfl)) ?_
 intro args x h;unfold qoJ at h
 split at h
 ·exact (congrArg Tr.run (qOi _)).trans (qai h fun h=>by cases h)
 ·cases h
def qzh:GamT:=ofL [(93,.pure qr7),(94,.pure qrX),(96,.pure qoJ)]
theorem qGt (gl:Gl):qaU Tryz.prog gl (gam qzh):=(qac (qwK gl) (qac (qwG gl) (qac (qpN gl) qag)))
def qFY:LpsT:=fun r fr σ=>.fail
def qt0 (c:Int):Tr PV:=.ite (qi2 c) (.ite (qke c) (.ret (.bool true)) (.ite (qfN c) (.ite (qgK c) (.ret (.bool true)) (.ite (qf9 c) (.ite (qgI c) (.ret (.bool true)) (.ret (.bool (iEq c 95)))) .fail)) .fail)) .fail
theorem qM9 (c:Int):(tcall tbT qzh qFY Tryz.f122 [.int .u8 c]).flat=qt0 c:=by kernel_rfl
def qso (c:Int):Option PV:=(qt0 c).run
def qlV (c:Int):Bool:=(qcb (gVal (qso c)))
def qmy (c:Int):Bool:=isW (qso c) (.bool (qlV c))
def qyf:List PV→Tr PV|[.int .u8 c]=>.ite (qmy c) (.ret (.bool (qlV c))) (.fail)|_=>.fail
theorem qHy (gl:Gl):SimP Tryz.prog gl 122 fun args=>(qyf args).run:=by
 refine SimP.of_flat (G:=qzh) (L:=qFY) qat (qGt gl ) qah  Tryz.func122 rfl (by rfl) (by kernel_rfl) (qae (by kernel_rfl)) ?_
 intro args x h;unfold qyf at h
 split at h
 ·exact (congrArg Tr.run (qM9 _)).trans (qai h fun h=>by cases h)
 ·cases h
def qzo:GamT:=ofL []
theorem qGr (gl:Gl):qaU Tryz.prog gl (gam qzo):=qag
def qEd:LpsT:=fun r fr σ=>.fail
def qvn (c:Int):Tr PV:=.ite (iEq c 32) (.ret (.bool true)) (.ite (iEq c 9) (.ret (.bool true)) (.ite (iEq c 10) (.ret (.bool true)) (.ret (.bool (iEq c 13)))))
theorem qMM (c:Int):(tcall tbT qzo qEd Tryz.f92 [.int .u8 c]).flat=qvn c:=by kernel_rfl
def qsy (c:Int):Option PV:=(qvn c).run
def qjJ (c:Int):Bool:=(qcb (gVal (qsy c)))
def qmA (c:Int):Bool:=isW (qsy c) (.bool (qjJ c))
def qxw:List PV→Tr PV|[.int .u8 c]=>.ite (qmA c) (.ret (.bool (qjJ c))) (.fail)|_=>.fail
theorem qHf (gl:Gl):SimP Tryz.prog gl 92 fun args=>(qxw args).run:=by
 refine SimP.of_flat (G:=qzo) (L:=qEd) qat (qGr gl ) qah  Tryz.func92 rfl (by rfl) (by kernel_rfl) (qae (by kernel_rfl)) ?_
 intro args x h;unfold qxw at h
 split at h
 ·exact (congrArg Tr.run (qMM _)).trans (qai h fun h=>by cases h)
 ·cases h
def qzF:GamT:=ofL [(92,.pure qxw)]
theorem qFe (gl:Gl):qaU Tryz.prog gl (gam qzF):=(qac (qHf gl) qag)
def qyD:Code:=qdT Tryz.f67 2
def qxe:LI:=⟨41,[0,1,5],fun e=>match e with|.exit 0=>[1]|_=>[],true⟩
def qyt:LpsT:=fun r fr σ=>.fail
def qpP (vs:List PV) (σ:Store):Option (PExit×List PV×Store):=lval (lstep tbT qzF qyt qyD qxe) vs σ
def qpz (s:qU) (at_:Int) (comment:Bool):Tr LR:=.ite (iLt at_ (sLen s)) (.ite comment (.ite (qaR s at_) (.ite (iEq (sAt s at_) 37) (.ret (.next [.str s,.int .i64 (iAdd .i64 at_ 1),.bool true] ⟨[],[],[]⟩)) (.ite comment (.ite (qaR s at_) (.ret (.next [.str s,.int .i64 (iAdd .i64 at_ 1),.bool (iNe (sAt s at_) 10)] ⟨[],[],[]⟩)) .fail) (.ret (.next [.str s,.int .i64 (iAdd .i64 at_ 1),.bool false] ⟨[],[],[]⟩)))) .fail) (.ite (qaR s at_) (.ite (qmA (sAt s at_)) (.ite (qjJ (sAt s at_)) (.ite (qaR s at_) (.ite (iEq (sAt s at_) 37) (.ret (.next [.str s,.int .i64 (iAdd .i64 at_ 1),.bool true] ⟨[],[],[]⟩)) (.ite comment (.ite (qaR s at_) (.ret (.next [.str s,.int .i64 (iAdd .i64 at_ 1),.bool (iNe (sAt s at_) 10)] ⟨[],[],[]⟩)) .fail) (.ret (.next [.str s,.int .i64 (iAdd .i64 at_ 1),.bool false] ⟨[],[],[]⟩)))) .fail) (.ite (qaR s at_) (.ite (iEq (sAt s at_) 37) (.ite (qaR s at_) (.ite (iEq (sAt s at_) 37) (.ret (.next [.str s,.int .i64 (iAdd .i64 at_ 1),.bool true] ⟨[],[],[]⟩)) (.ite comment (.ite (qaR s at_) (.ret (.next [.str s,.int .i64 (iAdd .i64 at_ 1),.bool (iNe (sAt s at_) 10)] ⟨[],[],[]⟩)) .fail) (.ret (.next [.str s,.int .i64 (iAdd .i64 at_ 1),.bool false] ⟨[],[],[]⟩)))) .fail) (.ret (.out (.exit 0) [.int .i64 at_] ⟨[],[],[]⟩))) .fail)) .fail) .fail)) (.ret (.out (.exit 0) [.int .i64 at_] ⟨[],[],[]⟩))
theorem qSf (s:qU) (at_:Int) (comment:Bool):lstep tbT qzF qyt qyD qxe [.str s,.int .i64 at_,.bool comment] ⟨[],[],[]⟩=qpz s at_ comment:=by kernel_rfl
theorem qKc (s:qU) (at_:Int) (comment:Bool):qpP [.str s,.int .i64 at_,.bool comment] ⟨[],[],[]⟩=lnext qpP (qpz s at_ comment).run:=by unfold qpP;rw [qbu,qSf]
def qD2 (s:qU) (at_:Int) (comment:Bool):Option (PExit×List PV×Store):=qpP [.str s,.int .i64 at_,.bool comment] ⟨[],[],[]⟩
def qo1 (s:qU) (at_:Int) (comment:Bool):Int:=(gInt (gOut (qD2 s at_ comment) 0))
def qtv (s:qU) (at_:Int) (comment:Bool):Bool:=isW (qD2 s at_ comment) ((.exit 0),[.int .i64 (qo1 s at_ comment)],⟨[],[],[]⟩)
def qmM:List PV→Store→Tr (PExit×List PV×Store)|[.str s,.int .i64 at_,.bool comment],⟨[],[],[]⟩=>.ite (qtv s at_ comment) (.ret ((.exit 0),[.int .i64 (qo1 s at_ comment)],⟨[],[],[]⟩)) (.fail)|_,_=>.fail
theorem qOl:∀ vs σ r,(qmM vs σ).run=some r→qpP vs σ=some r:=by
 intro vs σ r h;unfold qmM at h
 split at h
 ·exact qai h fun h=>by cases h
 ·cases h
theorem qGO (gl:Gl):∀ fr σ e fr' σ',(orc qxe qmM fr σ).run=some (e,fr',σ')→LDoes Tryz.prog gl qyD fr σ e fr' σ':=qck qat (qFe gl ) qah (L:=qyt) (qae (by kernel_rfl)) (by kernel_rfl) qOl
def qIP:LpsT:=fun r fr σ=>bif Nat.beq r 2 then orc qxe qmM fr σ else .fail
def qCm (s:qU) (at_:Int):Tr PV:=.ite (qtv s at_ false) (.ret (.int .i64 (qo1 s at_ false))) .fail
theorem qS8 (s:qU) (at_:Int):(tcall tbT qzF qIP Tryz.f67 [.str s,.int .i64 at_]).flat=qCm s at_:=by kernel_rfl
def qEx (s:qU) (at_:Int):Option PV:=(qCm s at_).run
def qeK (s:qU) (at_:Int):Int:=(gInt (gVal (qEx s at_)))
def qio (s:qU) (at_:Int):Bool:=isW (qEx s at_) (.int .i64 (qeK s at_))
def qJy:List PV→Tr PV|[.str s,.int .i64 at_]=>.ite (qio s at_) (.ret (.int .i64 (qeK s at_))) (.fail)|_=>.fail
theorem qNW (gl:Gl):SimP Tryz.prog gl 67 fun args=>(qJy args).run:=by
 refine SimP.of_flat (G:=qzF) (L:=qIP) qat (qFe gl ) qah  Tryz.func67 rfl (by rfl) (by kernel_rfl) (qaX (L:=lps qIP) [(2,qyD)] (by kernel_rfl) (List.forall_mem_cons.2 ⟨fun fr σ e fr' σ' h=>qGO gl  fr σ e fr' σ' h,(List.forall_mem_nil _)⟩)) ?_
 intro args x h;unfold qJy at h
 split at h
 ·exact (congrArg Tr.run (qS8 _ _)).trans (qai h fun h=>by cases h)
 ·cases h
def qte:GamT:=ofL [(122,.pure qyf)]
theorem qAb (gl:Gl):qaU Tryz.prog gl (gam qte):=(qac (qHy gl) qag)
def qsF:Code:=qdT Tryz.f95 1
def qsv:LI:=⟨18,[0,1],fun e=>match e with|.exit 0=>[1]|_=>[],true⟩
def qvr:LpsT:=fun r fr σ=>.fail
def qlT (vs:List PV) (σ:Store):Option (PExit×List PV×Store):=lval (lstep tbT qte qvr qsF qsv) vs σ
def qkK (s:qU) (at_:Int):Tr LR:=.ite (iLt at_ (sLen s)) (.ite (qaR s at_) (.ite (qmy (sAt s at_)) (.ite (qlV (sAt s at_)) (.ret (.next [.str s,.int .i64 (iAdd .i64 at_ 1)] ⟨[],[],[]⟩)) (.ret (.out (.exit 0) [.int .i64 at_] ⟨[],[],[]⟩))) .fail) .fail) (.ret (.out (.exit 0) [.int .i64 at_] ⟨[],[],[]⟩))
theorem qNX (s:qU) (at_:Int):lstep tbT qte qvr qsF qsv [.str s,.int .i64 at_] ⟨[],[],[]⟩=qkK s at_:=by kernel_rfl
theorem qEY (s:qU) (at_:Int):qlT [.str s,.int .i64 at_] ⟨[],[],[]⟩=lnext qlT (qkK s at_).run:=by unfold qlT;rw [qbu,qNX]
def qyJ (s:qU) (at_:Int):Option (PExit×List PV×Store):=qlT [.str s,.int .i64 at_] ⟨[],[],[]⟩
def qmj (s:qU) (at_:Int):Int:=(gInt (gOut (qyJ s at_) 0))
def qqu (s:qU) (at_:Int):Bool:=isW (qyJ s at_) ((.exit 0),[.int .i64 (qmj s at_)],⟨[],[],[]⟩)
def qje:List PV→Store→Tr (PExit×List PV×Store)|[.str s,.int .i64 at_],⟨[],[],[]⟩=>.ite (qqu s at_) (.ret ((.exit 0),[.int .i64 (qmj s at_)],⟨[],[],[]⟩)) (.fail)|_,_=>.fail
theorem qKI:∀ vs σ r,(qje vs σ).run=some r→qlT vs σ=some r:=by
 intro vs σ r h;unfold qje at h
 split at h
 ·exact qai h fun h=>by cases h
 ·cases h
theorem qBo (gl:Gl):∀ fr σ e fr' σ',(orc qsv qje fr σ).run=some (e,fr',σ')→LDoes Tryz.prog gl qsF fr σ e fr' σ':=qck qat (qAb gl ) qah (L:=qvr) (qae (by kernel_rfl)) (by kernel_rfl) qKI
def qC6:LpsT:=fun r fr σ=>bif Nat.beq r 1 then orc qsv qje fr σ else .fail
def qzm (s:qU) (at_:Int):Tr PV:=.ite (qqu s at_) (.ret (.int .i64 (qmj s at_))) .fail
theorem qPl (s:qU) (at_:Int):(tcall tbT qte qC6 Tryz.f95 [.str s,.int .i64 at_]).flat=qzm s at_:=by kernel_rfl
def qxz (s:qU) (at_:Int):Option PV:=(qzm s at_).run
def qbt (s:qU) (at_:Int):Int:=(gInt (gVal (qxz s at_)))
def qjb (s:qU) (at_:Int):Bool:=isW (qxz s at_) (.int .i64 (qbt s at_))
def qCI:List PV→Tr PV|[.str s,.int .i64 at_]=>.ite (qjb s at_) (.ret (.int .i64 (qbt s at_))) (.fail)|_=>.fail
theorem qMm (gl:Gl):SimP Tryz.prog gl 95 fun args=>(qCI args).run:=by
 refine SimP.of_flat (G:=qte) (L:=qC6) qat (qAb gl ) qah  Tryz.func95 rfl (by rfl) (by kernel_rfl) (qaX (L:=lps qC6) [(1,qsF)] (by kernel_rfl) (List.forall_mem_cons.2 ⟨fun fr σ e fr' σ' h=>qBo gl  fr σ e fr' σ' h,(List.forall_mem_nil _)⟩)) ?_
 intro args x h;unfold qCI at h
 split at h
 ·exact (congrArg Tr.run (qPl _ _)).trans (qai h fun h=>by cases h)
 ·cases h
def qkM:GamT:=ofL [(96,.pure qoJ)]
theorem qve (gl:Gl):qaU Tryz.prog gl (gam qkM):=(qac (qpN gl) qag)
def qmp:Code:=qdT Tryz.f98 1
def qme:LI:=⟨18,[0,1],fun e=>match e with|.exit 0=>[1]|_=>[],true⟩
def qnM:LpsT:=fun r fr σ=>.fail
def qgV (vs:List PV) (σ:Store):Option (PExit×List PV×Store):=lval (lstep tbT qkM qnM qmp qme) vs σ
def qhu (s:qU) (at_:Int):Tr LR:=.ite (iLt at_ (sLen s)) (.ite (qaR s at_) (.ite (qf9 (sAt s at_)) (.ite (qgI (sAt s at_)) (.ret (.next [.str s,.int .i64 (iAdd .i64 at_ 1)] ⟨[],[],[]⟩)) (.ret (.out (.exit 0) [.int .i64 at_] ⟨[],[],[]⟩))) .fail) .fail) (.ret (.out (.exit 0) [.int .i64 at_] ⟨[],[],[]⟩))
theorem qHr (s:qU) (at_:Int):lstep tbT qkM qnM qmp qme [.str s,.int .i64 at_] ⟨[],[],[]⟩=qhu s at_:=by kernel_rfl
theorem qwT (s:qU) (at_:Int):qgV [.str s,.int .i64 at_] ⟨[],[],[]⟩=lnext qgV (qhu s at_).run:=by unfold qgV;rw [qbu,qHr]
def qqe (s:qU) (at_:Int):Option (PExit×List PV×Store):=qgV [.str s,.int .i64 at_] ⟨[],[],[]⟩
def qhY (s:qU) (at_:Int):Int:=(gInt (gOut (qqe s at_) 0))
def qlo (s:qU) (at_:Int):Bool:=isW (qqe s at_) ((.exit 0),[.int .i64 (qhY s at_)],⟨[],[],[]⟩)
def qgL:List PV→Store→Tr (PExit×List PV×Store)|[.str s,.int .i64 at_],⟨[],[],[]⟩=>.ite (qlo s at_) (.ret ((.exit 0),[.int .i64 (qhY s at_)],⟨[],[],[]⟩)) (.fail)|_,_=>.fail
theorem qCK:∀ vs σ r,(qgL vs σ).run=some r→qgV vs σ=some r:=by
 intro vs σ r h;unfold qgL at h
 split at h
 ·exact qai h fun h=>by cases h
 ·cases h
theorem qyS (gl:Gl):∀ fr σ e fr' σ',(orc qme qgL fr σ).run=some (e,fr',σ')→LDoes Tryz.prog gl qmp fr σ e fr' σ':=qck qat (qve gl ) qah (L:=qnM) (qae (by kernel_rfl)) (by kernel_rfl) qCK
def qvH:LpsT:=fun r fr σ=>bif Nat.beq r 1 then orc qme qgL fr σ else .fail
def qqZ (s:qU) (at_:Int):Tr PV:=.ite (qlo s at_) (.ret (.int .i64 (qhY s at_))) .fail
theorem qLb (s:qU) (at_:Int):(tcall tbT qkM qvH Tryz.f98 [.str s,.int .i64 at_]).flat=qqZ s at_:=by kernel_rfl
def qpt (s:qU) (at_:Int):Option PV:=(qqZ s at_).run
def qbw (s:qU) (at_:Int):Int:=(gInt (gVal (qpt s at_)))
def qge (s:qU) (at_:Int):Bool:=isW (qpt s at_) (.int .i64 (qbw s at_))
def qvd:List PV→Tr PV|[.str s,.int .i64 at_]=>.ite (qge s at_) (.ret (.int .i64 (qbw s at_))) (.fail)|_=>.fail
theorem qBz (gl:Gl):SimP Tryz.prog gl 98 fun args=>(qvd args).run:=by
 refine SimP.of_flat (G:=qkM) (L:=qvH) qat (qve gl ) qah  Tryz.func98 rfl (by rfl) (by kernel_rfl) (qaX (L:=lps qvH) [(1,qmp)] (by kernel_rfl) (List.forall_mem_cons.2 ⟨fun fr σ e fr' σ' h=>qyS gl  fr σ e fr' σ' h,(List.forall_mem_nil _)⟩)) ?_
 intro args x h;unfold qvd at h
 split at h
 ·exact (congrArg Tr.run (qLb _ _)).trans (qai h fun h=>by cases h)
 ·cases h
def qlf:GamT:=ofL []
theorem qvh (gl:Gl):qaU Tryz.prog gl (gam qlf):=qag
def qmC:Code:=qdT Tryz.f99 2
def qlX:LI:=⟨26,[0,5],fun e=>match e with|.ret=>[4]|.exit 0=>[]|_=>[],true⟩
def qnR:LpsT:=fun r fr σ=>.fail
def qfi (vs:List PV) (σ:Store):Option (PExit×List PV×Store):=lval (lstep tbT qlf qnR qmC qlX) vs σ
def qf1 (s:qU) (i:Int):Tr LR:=.ite (iLt i (sLen s)) (.ite (qaR s i) (.ite (iEq (sAt s i) 34) (.ret (.out .ret [.int .i64 (iAdd .i64 i 1)] ⟨[],[],[]⟩)) (.ite (qaR s i) (.ite (iEq (sAt s i) 92) (.ret (.next [.str s,.int .i64 (iAdd .i64 (iAdd .i64 i 1) 1)] ⟨[],[],[]⟩)) (.ret (.next [.str s,.int .i64 (iAdd .i64 i 1)] ⟨[],[],[]⟩))) .fail)) .fail) (.ret (.out (.exit 0) [] ⟨[],[],[]⟩))
theorem qGG (s:qU) (i:Int):lstep tbT qlf qnR qmC qlX [.str s,.int .i64 i] ⟨[],[],[]⟩=qf1 s i:=by kernel_rfl
theorem qwz (s:qU) (i:Int):qfi [.str s,.int .i64 i] ⟨[],[],[]⟩=lnext qfi (qf1 s i).run:=by unfold qfi;rw [qbu,qGG]
def qi4 (s:qU) (i:Int):Option (PExit×List PV×Store):=qfi [.str s,.int .i64 i] ⟨[],[],[]⟩
def qgs (s:qU) (i:Int):Int:=(gInt (gOut (qi4 s i) 0))
def qhU (s:qU) (i:Int):Bool:=isW (qi4 s i) (.ret,[.int .i64 (qgs s i)],⟨[],[],[]⟩)
def qh2 (s:qU) (i:Int):Bool:=isW (qi4 s i) ((.exit 0),[],⟨[],[],[]⟩)
def qgT:List PV→Store→Tr (PExit×List PV×Store)|[.str s,.int .i64 i],⟨[],[],[]⟩=>.ite (qhU s i) (.ret (.ret,[.int .i64 (qgs s i)],⟨[],[],[]⟩)) (.ite (qh2 s i) (.ret ((.exit 0),[],⟨[],[],[]⟩)) (.fail))|_,_=>.fail
theorem qCk:∀ vs σ r,(qgT vs σ).run=some r→qfi vs σ=some r:=by
 intro vs σ r h;unfold qgT at h
 split at h
 ·exact qai h fun h=>qai h fun h=>by cases h
 ·cases h
theorem qxx (gl:Gl):∀ fr σ e fr' σ',(orc qlX qgT fr σ).run=some (e,fr',σ')→LDoes Tryz.prog gl qmC fr σ e fr' σ':=qck qat (qvh gl ) qah (L:=qnR) (qae (by kernel_rfl)) (by kernel_rfl) qCk
def qvG:LpsT:=fun r fr σ=>bif Nat.beq r 2 then orc qlX qgT fr σ else .fail
def qpM (s:qU) (at_:Int):Tr PV:=.ite (qhU s (iAdd .i64 at_ 1)) (.ret (.int .i64 (qgs s (iAdd .i64 at_ 1)))) (.ite (qh2 s (iAdd .i64 at_ 1)) (.ret (.int .i64 (-1))) .fail)
theorem qL0 (s:qU) (at_:Int):(tcall tbT qlf qvG Tryz.f99 [.str s,.int .i64 at_]).flat=qpM s at_:=by kernel_rfl
def qps (s:qU) (at_:Int):Option PV:=(qpM s at_).run
def qaJ (s:qU) (at_:Int):Int:=(gInt (gVal (qps s at_)))
def qeY (s:qU) (at_:Int):Bool:=isW (qps s at_) (.int .i64 (qaJ s at_))
def qtQ:List PV→Tr PV|[.str s,.int .i64 at_]=>.ite (qeY s at_) (.ret (.int .i64 (qaJ s at_))) (.fail)|_=>.fail
theorem qBt (gl:Gl):SimP Tryz.prog gl 99 fun args=>(qtQ args).run:=by
 refine SimP.of_flat (G:=qlf) (L:=qvG) qat (qvh gl ) qah  Tryz.func99 rfl (by rfl) (by kernel_rfl) (qaX (L:=lps qvG) [(2,qmC)] (by kernel_rfl) (List.forall_mem_cons.2 ⟨fun fr σ e fr' σ' h=>qxx gl  fr σ e fr' σ' h,(List.forall_mem_nil _)⟩)) ?_
 intro args x h;unfold qtQ at h
 split at h
 ·exact (congrArg Tr.run (qL0 _ _)).trans (qai h fun h=>by cases h)
 ·cases h
def qBn:GamT:=ofL []
theorem qMa (gl:Gl):qaU Tryz.prog gl (gam qBn):=qag
def qKg:LpsT:=fun r fr σ=>.fail
def qxI (v:qU) (v2:Int):Tr PV:=.ite (iLe 2 (iSub .i64 (sLen v) v2)) (.ite (qaQ (qav v2) (qav (iAdd .i64 v2 2)) (nNat v2) (nNat (iAdd .i64 v2 2)) (nLen v)) (.ite (sEq (sSub v (nNat v2) (nNat (iAdd .i64 v2 2))) [58,45]) (.ret (.int .i64 2)) (.ite (sEq (sSub v (nNat v2) (nNat (iAdd .i64 v2 2))) [60,61]) (.ret (.int .i64 2)) (.ite (sEq (sSub v (nNat v2) (nNat (iAdd .i64 v2 2))) [62,61]) (.ret (.int .i64 2)) (.ite (sEq (sSub v (nNat v2) (nNat (iAdd .i64 v2 2))) [33,61]) (.ret (.int .i64 2)) (.ite (qaR v v2) (.ite (iEq (sAt v v2) 40) (.ret (.int .i64 1)) (.ite (qaR v v2) (.ite (iEq (sAt v v2) 41) (.ret (.int .i64 1)) (.ite (qaR v v2) (.ite (iEq (sAt v v2) 44) (.ret (.int .i64 1)) (.ite (qaR v v2) (.ite (iEq (sAt v v2) 46) (.ret (.int .i64 1)) (.ite (qaR v v2) (.ite (iEq (sAt v v2) 43) (.ret (.int .i64 1)) (.ite (qaR v v2) (.ite (iEq (sAt v v2) 45) (.ret (.int .i64 1)) (.ite (qaR v v2) (.ite (iEq (sAt v v2) 61) (.ret (.int .i64 1)) (.ite (qaR v v2) (.ite (iEq (sAt v v2) 58) (.ret (.int .i64 1)) (.ite (qaR v v2) (.ite (iEq (sAt v v2) 60) (.ret (.int .i64 1)) (.ite (qaR v v2) (.ite (iEq (sAt v v2) 62) (.ret (.int .i64 1)) (.ret (.int .i64 0))) .fail)) .fail)) .fail)) .fail)) .fail)) .fail)) .fail)) .fail)) .fail)) .fail))))) .fail) (.ite (sEq [] [58,45]) (.ret (.int .i64 2)) (.ite (sEq [] [60,61]) (.ret (.int .i64 2)) (.ite (sEq [] [62,61]) (.ret (.int .i64 2)) (.ite (sEq [] [33,61]) (.ret (.int .i64 2)) (.ite (qaR v v2) (.ite (iEq (sAt v v2) 40) (.ret (.int .i64 1)) (.ite (qaR v v2) (.ite (iEq (sAt v v2) 41) (.ret (.int .i64 1)) (.ite (qaR v v2) (.ite (iEq (sAt v v2) 44) (.ret (.int .i64 1)) (.ite (qaR v v2) (.ite (iEq (sAt v v2) 46) (.ret (.int .i64 1)) (.ite (qaR v v2) (.ite (iEq (sAt v v2) 43) (.ret (.int .i64 1)) (.ite (qaR v v2) (.ite (iEq (sAt v v2) 45) (.ret (.int .i64 1)) (.ite (qaR v v2) (.ite (iEq (sAt v v2) 61) (.ret (.int .i64 1)) (.ite (qaR v v2)
 (.ite (iEq (sAt v v2) 58) (.ret (.int .i64 1)) (.ite (qaR v v2) (.ite (iEq (sAt v v2) 60) (.ret (.int .i64 1)) (.ite (qaR v v2) (.ite (iEq (sAt v v2) 62) (.ret (.int .i64 1)) (.ret (.int .i64 0))) .fail)) .fail)) .fail)) .fail)) .fail)) .fail)) .fail)) .fail)) .fail)) .fail)))))
theorem qPy (v:qU) (v2:Int):(tcall tbT qBn qKg Tryz.f100 [.str v,.int .i64 v2]).flat=qxI v v2:=by kernel_rfl
def qyk (v:qU) (v2:Int):Option PV:=(qxI v v2).run
def qbR (v:qU) (v2:Int):Int:=(gInt (gVal (qyk v v2)))
def qhA (v:qU) (v2:Int):Bool:=isW (qyk v v2) (.int .i64 (qbR v v2))
def qBI:List PV→Tr PV|[.str v,.int .i64 v2]=>.ite (qhA v v2) (.ret (.int .i64 (qbR v v2))) (.fail)|_=>.fail
theorem qLS (gl:Gl):SimP Tryz.prog gl 100 fun args=>(qBI args).run:=by
 refine SimP.of_flat (G:=qBn) (L:=qKg) qat (qMa gl ) qah  Tryz.func100 rfl (by rfl) (by kernel_rfl) (qae (by kernel_rfl)) ?_
 intro args x h;unfold qBI at h
 split at h
 ·exact (congrArg Tr.run (qPy _ _)).trans (qai h fun h=>by cases h)
 ·cases h
def qym:GamT:=ofL [(123,.pure qwH)]
theorem qHx (gl:Gl):qaU Tryz.prog gl (gam qym):=(qac (qIj gl) qag)
def qFo:LpsT:=fun r fr σ=>.fail
def qut (k:Int) (s:qU) (at_:Int):Tr PV:=.ite (qnS s) (.ite (iNe (eRd s) 0) (.ret (.tup [.agg [.int .i64 0,.str [],.int .i64 0,.int .i64 0,.str [],.int .i64 0],.bool false])) (.ret (.tup [.agg [.int .i64 k,.str s,.int .i64 (kRd s),.int .i64 (nRd s),.str (sRd s),.int .i64 at_],.bool true]))) .fail
theorem qMN (k:Int) (s:qU) (at_:Int):(tcall tbT qym qFo Tryz.f97 [.int .i64 k,.str s,.int .i64 at_]).flat=qut k s at_:=by kernel_rfl
def qgi (k:Int) (s:qU) (at_:Int):Option PV:=(qut k s at_).run
def qfm (k:Int) (s:qU) (at_:Int):Int:=(gInt (gAt (gCs (gAt (gCs (gVal (qgi k s at_))) 0)) 0))
def qfC (k:Int) (s:qU) (at_:Int):List UInt8:=(gStr (gAt (gCs (gAt (gCs (gVal (qgi k s at_))) 0)) 1))
def qea (k:Int) (s:qU) (at_:Int):Int:=(gInt (gAt (gCs (gAt (gCs (gVal (qgi k s at_))) 0)) 2))
def qd6 (k:Int) (s:qU) (at_:Int):Int:=(gInt (gAt (gCs (gAt (gCs (gVal (qgi k s at_))) 0)) 3))
def qes (k:Int) (s:qU) (at_:Int):List UInt8:=(gStr (gAt (gCs (gAt (gCs (gVal (qgi k s at_))) 0)) 4))
def qev (k:Int) (s:qU) (at_:Int):Int:=(gInt (gAt (gCs (gAt (gCs (gVal (qgi k s at_))) 0)) 5))
def qfq (k:Int) (s:qU) (at_:Int):Bool:=(qcb (gAt (gCs (gVal (qgi k s at_))) 1))
def qeE (k:Int) (s:qU) (at_:Int):Bool:=isW (qgi k s at_) (.tup [.agg [.int .i64 (qfm k s at_),.str (qfC k s at_),.int .i64 (qea k s at_),.int .i64 (qd6 k s at_),.str (qes k s at_),.int .i64 (qev k s at_)],.bool (qfq k s at_)])
def qxj:List PV→Tr PV|[.int .i64 k,.str s,.int .i64 at_]=>.ite (qeE k s at_) (.ret (.tup [.agg [.int .i64 (qfm k s at_),.str (qfC k s at_),.int .i64 (qea k s at_),.int .i64 (qd6 k s at_),.str (qes k s at_),.int .i64 (qev k s at_)],.bool (qfq k s at_)])) (.fail)|_=>.fail
theorem qGc (gl:Gl):SimP Tryz.prog gl 97 fun args=>(qxj args).run:=by
 refine SimP.of_flat (G:=qym) (L:=qFo) qat (qHx gl ) qah  Tryz.func97 rfl (by rfl) (by kernel_rfl) (qae (by kernel_rfl)) ?_
 intro args x h;unfold qxj at h
 split at h
 ·exact (congrArg Tr.run (qMN _ _ _)).trans (qai h fun h=>by cases h)
 ·cases h
def qCY:GamT:=ofL [(93,.pure qr7),(94,.pure qrX),(95,.pure qCI),(96,.pure qoJ),(97,.pure qxj),(98,.pure qvd),(99,.pure qtQ),(100,.pure qBI)]
theorem qK4 (gl:Gl):qaU Tryz.prog gl (gam qCY):=(qac (qwK gl) (qac (qwG gl) (qac (qMm gl) (qac (qpN gl) (qac (qGc gl) (qac (qBz gl) (qac (qBt gl) (qac (qLS gl) qag))))))))
def qLY:LpsT:=fun r fr σ=>.fail
def qxZ (v:qU) (v2:Int):Tr PV:=.ite (qaR v v2) (.ite (qi2 (sAt v v2)) (.ite (qke (sAt v v2)) (.ite (qjb v v2) (.ite (qfN (sAt v v2)) (.ite (qgK (sAt v v2)) (.ite (qaQ (qav v2) (qav (qbt v v2)) (nNat v2) (nNat (qbt v v2)) (nLen v)) (.ite (iEq (qbt v v2) v2) (.ret (.tup [.agg [.int .i64 0,.str [],.int .i64 0,.int .i64 0,.str [],.int .i64 0],.bool false])) (.ite (iLt 64 (sLen (sSub v (nNat v2) (nNat (qbt v v2))))) (.ret (.tup [.agg [.int .i64 0,.str [],.int .i64 0,.int .i64 0,.str [],.int .i64 0],.bool false])) (.ite (iEq 2 3) (.ite (iNe (qbt v v2) (iAdd .i64 v2 1)) (.ret (.tup [.agg [.int .i64 0,.str [],.int .i64 0,.int .i64 0,.str [],.int .i64 0],.bool false])) (.ret (.tup [.agg [.int .i64 2,.str (sSub v (nNat v2) (nNat (qbt v v2))),.int .i64 0,.int .i64 0,.str [],.int .i64 v2],.bool true]))) (.ret (.tup [.agg [.int .i64 2,.str (sSub v (nNat v2) (nNat (qbt v v2))),.int .i64 0,.int .i64 0,.str [],.int .i64 v2],.bool true]))))) .fail) (.ite (qaQ (qav v2) (qav (qbt v v2)) (nNat v2) (nNat (qbt v v2)) (nLen v)) (.ite (iEq (qbt v v2) v2) (.ret (.tup [.agg [.int .i64 0,.str [],.int .i64 0,.int .i64 0,.str [],.int .i64 0],.bool false])) (.ite (iLt 64 (sLen (sSub v (nNat v2) (nNat (qbt v v2))))) (.ret (.tup [.agg [.int .i64 0,.str [],.int .i64 0,.int .i64 0,.str [],.int .i64 0],.bool false])) (.ite (iEq 1 3) (.ite (iNe (qbt v v2) (iAdd .i64 v2 1)) (.ret (.tup [.agg [.int .i64 0,.str [],.int .i64 0,.int .i64 0,.str [],.int .i64 0],.bool false])) (.ret (.tup [.agg [.int .i64 1,.str (sSub v (nNat v2) (nNat (qbt v v2))),.int .i64 0,.int .i64 0,.str [],.int .i64 v2],.bool true]))) (.ret (.tup [.agg [.int .i64 1,.str (sSub v (nNat v2) (nNat (qbt v v2))),.int .i64 0,.int .i64 0,.str [],.int .i64 v2],.bool true]))))) .fail)) .fail) .fail) (.ite (qfN (sAt v v2)) (.ite (qgK (sAt v v2)) (.ite (qjb v v2) (.ite (qfN (sAt v v2))
 (.ite (qgK (sAt v v2)) (.ite (qaQ (qav v2) (qav (qbt v v2)) (nNat v2) (nNat (qbt v v2)) (nLen v)) (.ite (iEq (qbt v v2) v2) (.ret (.tup [.agg [.int .i64 0,.str [],.int .i64 0,.int .i64 0,.str [],.int .i64 0],.bool false])) (.ite (iLt 64 (sLen (sSub v (nNat v2) (nNat (qbt v v2))))) (.ret (.tup [.agg [.int .i64 0,.str [],.int .i64 0,.int .i64 0,.str [],.int .i64 0],.bool false])) (.ite (iEq 2 3) (.ite (iNe (qbt v v2) (iAdd .i64 v2 1)) (.ret (.tup [.agg [.int .i64 0,.str [],.int .i64 0,.int .i64 0,.str [],.int .i64 0],.bool false])) (.ret (.tup [.agg [.int .i64 2,.str (sSub v (nNat v2) (nNat (qbt v v2))),.int .i64 0,.int .i64 0,.str [],.int .i64 v2],.bool true]))) (.ret (.tup [.agg [.int .i64 2,.str (sSub v (nNat v2) (nNat (qbt v v2))),.int .i64 0,.int .i64 0,.str [],.int .i64 v2],.bool true]))))) .fail) (.ite (qaQ (qav v2) (qav (qbt v v2)) (nNat v2) (nNat (qbt v v2)) (nLen v)) (.ite (iEq (qbt v v2) v2) (.ret (.tup [.agg [.int .i64 0,.str [],.int .i64 0,.int .i64 0,.str [],.int .i64 0],.bool false])) (.ite (iLt 64 (sLen (sSub v (nNat v2) (nNat (qbt v v2))))) (.ret (.tup [.agg [.int .i64 0,.str [],.int .i64 0,.int .i64 0,.str [],.int .i64 0],.bool false])) (.ite (iEq 1 3) (.ite (iNe (qbt v v2) (iAdd .i64 v2 1)) (.ret (.tup [.agg [.int .i64 0,.str [],.int .i64 0,.int .i64 0,.str [],.int .i64 0],.bool false])) (.ret (.tup [.agg [.int .i64 1,.str (sSub v (nNat v2) (nNat (qbt v v2))),.int .i64 0,.int .i64 0,.str [],.int .i64 v2],.bool true]))) (.ret (.tup [.agg [.int .i64 1,.str (sSub v (nNat v2) (nNat (qbt v v2))),.int .i64 0,.int .i64 0,.str [],.int .i64 v2],.bool true]))))) .fail)) .fail) .fail) (.ite (iEq (sAt v v2) 95) (.ite (qjb v v2) (.ite (qaQ (qav v2) (qav (qbt v v2)) (nNat v2) (nNat (qbt v v2)) (nLen v)) (.ite (iEq (qbt v v2) v2) (.ret (.tup [.agg [.int .i64 0,.str [],.int .i64 0,.int .i64 0,.str [],.int .i64 0],.bool false]))
 (.ite (iLt 64 (sLen (sSub v (nNat v2) (nNat (qbt v v2))))) (.ret (.tup [.agg [.int .i64 0,.str [],.int .i64 0,.int .i64 0,.str [],.int .i64 0],.bool false])) (.ite (iEq 3 3) (.ite (iNe (qbt v v2) (iAdd .i64 v2 1)) (.ret (.tup [.agg [.int .i64 0,.str [],.int .i64 0,.int .i64 0,.str [],.int .i64 0],.bool false])) (.ret (.tup [.agg [.int .i64 3,.str (sSub v (nNat v2) (nNat (qbt v v2))),.int .i64 0,.int .i64 0,.str [],.int .i64 v2],.bool true]))) (.ret (.tup [.agg [.int .i64 3,.str (sSub v (nNat v2) (nNat (qbt v v2))),.int .i64 0,.int .i64 0,.str [],.int .i64 v2],.bool true]))))) .fail) .fail) (.ite (qf9 (sAt v v2)) (.ite (qgI (sAt v v2)) (.ite (qge v (iAdd .i64 v2 1)) (.ite (qaQ (qav v2) (qav (qbw v (iAdd .i64 v2 1))) (nNat v2) (nNat (qbw v (iAdd .i64 v2 1))) (nLen v)) (.ite (qeE 4 (sSub v (nNat v2) (nNat (qbw v (iAdd .i64 v2 1)))) v2) (.ret (.tup [.agg [.int .i64 (qfm 4 (sSub v (nNat v2) (nNat (qbw v (iAdd .i64 v2 1)))) v2),.str (qfC 4 (sSub v (nNat v2) (nNat (qbw v (iAdd .i64 v2 1)))) v2),.int .i64 (qea 4 (sSub v (nNat v2) (nNat (qbw v (iAdd .i64 v2 1)))) v2),.int .i64 (qd6 4 (sSub v (nNat v2) (nNat (qbw v (iAdd .i64 v2 1)))) v2),.str (qes 4 (sSub v (nNat v2) (nNat (qbw v (iAdd .i64 v2 1)))) v2),.int .i64 (qev 4 (sSub v (nNat v2) (nNat (qbw v (iAdd .i64 v2 1)))) v2)],.bool (qfq 4 (sSub v (nNat v2) (nNat (qbw v (iAdd .i64 v2 1)))) v2)])) .fail) .fail) .fail) (.ite (iEq (sAt v v2) 45) (.ite (iLt (iAdd .i64 v2 1) (sLen v)) (.ite (qaR v (iAdd .i64 v2 1)) (.ite (qf9 (sAt v (iAdd .i64 v2 1))) (.ite (qgI (sAt v (iAdd .i64 v2 1))) (.ite (qge v (iAdd .i64 v2 1)) (.ite (qaQ (qav v2) (qav (qbw v (iAdd .i64 v2 1))) (nNat v2) (nNat (qbw v (iAdd .i64 v2 1))) (nLen v)) (.ite (qeE 4 (sSub v (nNat v2) (nNat (qbw v (iAdd .i64 v2 1)))) v2) (.ret (.tup [.agg
 [.int .i64 (qfm 4 (sSub v (nNat v2) (nNat (qbw v (iAdd .i64 v2 1)))) v2),.str (qfC 4 (sSub v (nNat v2) (nNat (qbw v (iAdd .i64 v2 1)))) v2),.int .i64 (qea 4 (sSub v (nNat v2) (nNat (qbw v (iAdd .i64 v2 1)))) v2),.int .i64 (qd6 4 (sSub v (nNat v2) (nNat (qbw v (iAdd .i64 v2 1)))) v2),.str (qes 4 (sSub v (nNat v2) (nNat (qbw v (iAdd .i64 v2 1)))) v2),.int .i64 (qev 4 (sSub v (nNat v2) (nNat (qbw v (iAdd .i64 v2 1)))) v2)],.bool (qfq 4 (sSub v (nNat v2) (nNat (qbw v (iAdd .i64 v2 1)))) v2)])) .fail) .fail) .fail) (.ite (iEq (sAt v v2) 34) (.ite (qeY v v2) (.ite (iLt (qaJ v v2) 0) (.ret (.tup [.agg [.int .i64 0,.str [],.int .i64 0,.int .i64 0,.str [],.int .i64 0],.bool false])) (.ite (qaQ (qav v2) (qav (qaJ v v2)) (nNat v2) (nNat (qaJ v v2)) (nLen v)) (.ite (qeE 5 (sSub v (nNat v2) (nNat (qaJ v v2))) v2) (.ret (.tup [.agg [.int .i64 (qfm 5 (sSub v (nNat v2) (nNat (qaJ v v2))) v2),.str (qfC 5 (sSub v (nNat v2) (nNat (qaJ v v2))) v2),.int .i64 (qea 5 (sSub v (nNat v2) (nNat (qaJ v v2))) v2),.int .i64 (qd6 5 (sSub v (nNat v2) (nNat (qaJ v v2))) v2),.str (qes 5 (sSub v (nNat v2) (nNat (qaJ v v2))) v2),.int .i64 (qev 5 (sSub v (nNat v2) (nNat (qaJ v v2))) v2)],.bool (qfq 5 (sSub v (nNat v2) (nNat (qaJ v v2))) v2)])) .fail) .fail)) .fail) (.ite (qhA v v2) (.ite (qaQ (qav v2) (qav (iAdd .i64 v2 (qbR v v2))) (nNat v2) (nNat (iAdd .i64 v2 (qbR v v2))) (nLen v)) (.ite (iEq (iAdd .i64 v2 (qbR v v2)) v2) (.ret (.tup [.agg [.int .i64 0,.str [],.int .i64 0,.int .i64 0,.str [],.int .i64 0],.bool false])) (.ite (iLt 64 (sLen (sSub v (nNat v2) (nNat (iAdd .i64 v2 (qbR v v2)))))) (.ret (.tup [.agg [.int .i64 0,.str [],.int .i64 0,.int .i64 0,.str [],.int .i64 0],.bool false])) (.ite (iEq 6 3)
 (.ite (iNe (iAdd .i64 v2 (qbR v v2)) (iAdd .i64 v2 1)) (.ret (.tup [.agg [.int .i64 0,.str [],.int .i64 0,.int .i64 0,.str [],.int .i64 0],.bool false])) (.ret (.tup [.agg [.int .i64 6,.str (sSub v (nNat v2) (nNat (iAdd .i64 v2 (qbR v v2)))),.int .i64 0,.int .i64 0,.str [],.int .i64 v2],.bool true]))) (.ret (.tup [.agg [.int .i64 6,.str (sSub v (nNat v2) (nNat (iAdd .i64 v2 (qbR v v2)))),.int .i64 0,.int .i64 0,.str [],.int .i64 v2],.bool true]))))) .fail) .fail))) .fail) .fail) (.ite (iEq (sAt v v2) 34) (.ite (qeY v v2) (.ite (iLt (qaJ v v2) 0) (.ret (.tup [.agg [.int .i64 0,.str [],.int .i64 0,.int .i64 0,.str [],.int .i64 0],.bool false])) (.ite (qaQ (qav v2) (qav (qaJ v v2)) (nNat v2) (nNat (qaJ v v2)) (nLen v)) (.ite (qeE 5 (sSub v (nNat v2) (nNat (qaJ v v2))) v2) (.ret (.tup [.agg [.int .i64 (qfm 5 (sSub v (nNat v2) (nNat (qaJ v v2))) v2),.str (qfC 5 (sSub v (nNat v2) (nNat (qaJ v v2))) v2),.int .i64 (qea 5 (sSub v (nNat v2) (nNat (qaJ v v2))) v2),.int .i64 (qd6 5 (sSub v (nNat v2) (nNat (qaJ v v2))) v2),.str (qes 5 (sSub v (nNat v2) (nNat (qaJ v v2))) v2),.int .i64 (qev 5 (sSub v (nNat v2) (nNat (qaJ v v2))) v2)],.bool (qfq 5 (sSub v (nNat v2) (nNat (qaJ v v2))) v2)])) .fail) .fail)) .fail) (.ite (qhA v v2) (.ite (qaQ (qav v2) (qav (iAdd .i64 v2 (qbR v v2))) (nNat v2) (nNat (iAdd .i64 v2 (qbR v v2))) (nLen v)) (.ite (iEq (iAdd .i64 v2 (qbR v v2)) v2) (.ret (.tup [.agg [.int .i64 0,.str [],.int .i64 0,.int .i64 0,.str [],.int .i64 0],.bool false])) (.ite (iLt 64 (sLen (sSub v (nNat v2) (nNat (iAdd .i64 v2 (qbR v v2)))))) (.ret (.tup [.agg [.int .i64 0,.str [],.int .i64 0,.int .i64 0,.str [],.int .i64 0],.bool false])) (.ite (iEq 6 3) (.ite (iNe (iAdd .i64 v2 (qbR v v2)) (iAdd .i64 v2 1)) (.ret
 (.tup [.agg [.int .i64 0,.str [],.int .i64 0,.int .i64 0,.str [],.int .i64 0],.bool false])) (.ret (.tup [.agg [.int .i64 6,.str (sSub v (nNat v2) (nNat (iAdd .i64 v2 (qbR v v2)))),.int .i64 0,.int .i64 0,.str [],.int .i64 v2],.bool true]))) (.ret (.tup [.agg [.int .i64 6,.str (sSub v (nNat v2) (nNat (iAdd .i64 v2 (qbR v v2)))),.int .i64 0,.int .i64 0,.str [],.int .i64 v2],.bool true]))))) .fail) .fail))) (.ite (iEq (sAt v v2) 34) (.ite (qeY v v2) (.ite (iLt (qaJ v v2) 0) (.ret (.tup [.agg [.int .i64 0,.str [],.int .i64 0,.int .i64 0,.str [],.int .i64 0],.bool false])) (.ite (qaQ (qav v2) (qav (qaJ v v2)) (nNat v2) (nNat (qaJ v v2)) (nLen v)) (.ite (qeE 5 (sSub v (nNat v2) (nNat (qaJ v v2))) v2) (.ret (.tup [.agg [.int .i64 (qfm 5 (sSub v (nNat v2) (nNat (qaJ v v2))) v2),.str (qfC 5 (sSub v (nNat v2) (nNat (qaJ v v2))) v2),.int .i64 (qea 5 (sSub v (nNat v2) (nNat (qaJ v v2))) v2),.int .i64 (qd6 5 (sSub v (nNat v2) (nNat (qaJ v v2))) v2),.str (qes 5 (sSub v (nNat v2) (nNat (qaJ v v2))) v2),.int .i64 (qev 5 (sSub v (nNat v2) (nNat (qaJ v v2))) v2)],.bool (qfq 5 (sSub v (nNat v2) (nNat (qaJ v v2))) v2)])) .fail) .fail)) .fail) (.ite (qhA v v2) (.ite (qaQ (qav v2) (qav (iAdd .i64 v2 (qbR v v2))) (nNat v2) (nNat (iAdd .i64 v2 (qbR v v2))) (nLen v)) (.ite (iEq (iAdd .i64 v2 (qbR v v2)) v2) (.ret (.tup [.agg [.int .i64 0,.str [],.int .i64 0,.int .i64 0,.str [],.int .i64 0],.bool false])) (.ite (iLt 64 (sLen (sSub v (nNat v2) (nNat (iAdd .i64 v2 (qbR v v2)))))) (.ret (.tup [.agg [.int .i64 0,.str [],.int .i64 0,.int .i64 0,.str [],.int .i64 0],.bool false])) (.ite (iEq 6 3) (.ite (iNe (iAdd .i64 v2 (qbR v v2)) (iAdd .i64 v2 1)) (.ret (.tup [.agg [.int .i64 0,.str [],.int .i64 0,.int .i64 0,.str [],.int .i64 0],.bool false])) (.ret (.tup [.agg
 [.int .i64 6,.str (sSub v (nNat v2) (nNat (iAdd .i64 v2 (qbR v v2)))),.int .i64 0,.int .i64 0,.str [],.int .i64 v2],.bool true]))) (.ret (.tup [.agg [.int .i64 6,.str (sSub v (nNat v2) (nNat (iAdd .i64 v2 (qbR v v2)))),.int .i64 0,.int .i64 0,.str [],.int .i64 v2],.bool true]))))) .fail) .fail)))) .fail))) .fail)) .fail) .fail
theorem qP9 (v:qU) (v2:Int):(tcall tbT qCY qLY Tryz.f68 [.str v,.int .i64 v2]).flat=qxZ v v2:=by kernel_rfl
def qix (v:qU) (v2:Int):Option PV:=(qxZ v v2).run
def qfz (v:qU) (v2:Int):Int:=(gInt (gAt (gCs (gAt (gCs (gVal (qix v v2))) 0)) 0))
def qdQ (v:qU) (v2:Int):List UInt8:=(gStr (gAt (gCs (gAt (gCs (gVal (qix v v2))) 0)) 1))
def qdU (v:qU) (v2:Int):Int:=(gInt (gAt (gCs (gAt (gCs (gVal (qix v v2))) 0)) 2))
def qdW (v:qU) (v2:Int):Int:=(gInt (gAt (gCs (gAt (gCs (gVal (qix v v2))) 0)) 3))
def qdY (v:qU) (v2:Int):List UInt8:=(gStr (gAt (gCs (gAt (gCs (gVal (qix v v2))) 0)) 4))
def qdV (v:qU) (v2:Int):Int:=(gInt (gAt (gCs (gAt (gCs (gVal (qix v v2))) 0)) 5))
def qiz (v:qU) (v2:Int):Bool:=(qcb (gAt (gCs (gVal (qix v v2))) 1))
def qg8 (v:qU) (v2:Int):Bool:=isW (qix v v2) (.tup [.agg [.int .i64 (qfz v v2),.str (qdQ v v2),.int .i64 (qdU v v2),.int .i64 (qdW v v2),.str (qdY v v2),.int .i64 (qdV v v2)],.bool (qiz v v2)])
def qC7:List PV→Tr PV|[.str v,.int .i64 v2]=>.ite (qg8 v v2) (.ret (.tup [.agg [.int .i64 (qfz v v2),.str (qdQ v v2),.int .i64 (qdU v v2),.int .i64 (qdW v v2),.str (qdY v v2),.int .i64 (qdV v v2)],.bool (qiz v v2)])) (.fail)|_=>.fail
theorem qLC (gl:Gl):SimP Tryz.prog gl 68 fun args=>(qC7 args).run:=by
 refine SimP.of_flat (G:=qCY) (L:=qLY) qat (qK4 gl ) qah  Tryz.func68 rfl (by rfl) (by kernel_rfl) (qae (by kernel_rfl)) ?_
 intro args x h;unfold qC7 at h
 split at h
 ·exact (congrArg Tr.run (qP9 _ _)).trans (qai h fun h=>by cases h)
 ·cases h
def ql5:GamT:=ofL [(67,.pure qJy),(68,.pure qC7)]
theorem qwB (gl:Gl):qaU Tryz.prog gl (gam ql5):=(qac (qNW gl) (qac (qLC gl) qag))
def qll:Code:=qdT Tryz.f38 5
def qlb:LI:=⟨39,[0,5,6],fun e=>match e with|.ret=>[2,3,4]|.exit 0=>[5]|_=>[],true⟩
def qmE:LpsT:=fun r fr σ=>.fail
def qcK (vs:List PV) (σ:Store):Option (PExit×List PV×Store):=lval (lstep tbT ql5 qmE qll qlb) vs σ
def qiS (s:qU) (out:qR) (at_:Int):Tr LR:=.ite (iLt at_ (sLen s)) (.ite (qg8 s at_) (.ite (bNot (qiz s at_)) (.ret (.out .ret [.sl (qaD 0 []) .full,.int .i64 at_,.int .i64 120] ⟨[],[],[]⟩)) (.ite (qaI out [[.int .i64 (qfz s at_),.str (qdQ s at_),.int .i64 (qdU s at_),.int .i64 (qdW s at_),.str (qdY s at_),.int .i64 (qdV s at_)]] 64) (.ite (qaH [[.int .i64 (qfz s at_),.str (qdQ s at_),.int .i64 (qdU s at_),.int .i64 (qdW s at_),.str (qdY s at_),.int .i64 (qdV s at_)]] 6) (.ite (qaB out 6) (.ite (qio s (iAdd .i64 at_ (sLen (qdQ s at_)))) (.ret (.next [.str s,.sl (qaD 0 (xApp out [[.int .i64 (qfz s at_),.str (qdQ s at_),.int .i64 (qdU s at_),.int .i64 (qdW s at_),.str (qdY s at_),.int .i64 (qdV s at_)]])) (.tok 0),.int .i64 (qeK s (iAdd .i64 at_ (sLen (qdQ s at_))))] (Store.mk [] [(nXs (xApp out [[.int .i64 (qfz s at_),.str (qdQ s at_),.int .i64 (qdU s at_),.int .i64 (qdW s at_),.str (qdY s at_),.int .i64 (qdV s at_)]]),6,120)] []))) .fail) .fail) .fail) .fail)) .fail) (.ret (.out (.exit 0) [.sl out .full] ⟨[],[],[]⟩))
theorem qLf (s:qU) (out:qR) (at_:Int):lstep tbT ql5 qmE qll qlb [.str s,.sl out .full,.int .i64 at_] ⟨[],[],[]⟩=qiS s out at_:=by kernel_rfl
theorem qvE (s:qU) (out:qR) (at_:Int):qcK [.str s,.sl out .full,.int .i64 at_] ⟨[],[],[]⟩=lnext qcK (qiS s out at_).run:=by unfold qcK;rw [qbu,qLf]
def qhg (s:qU) (out:qR) (at_:Int) (k:Nat):Tr LR:=.ite (iLt at_ (sLen s)) (.ite (qg8 s at_) (.ite (bNot (qiz s at_)) (.ret (.out .ret [.sl (qaD 0 []) .full,.int .i64 at_,.int .i64 120] (Store.mk [] [(k,6,120)] []))) (.ite (qaI out [[.int .i64 (qfz s at_),.str (qdQ s at_),.int .i64 (qdU s at_),.int .i64 (qdW s at_),.str (qdY s at_),.int .i64 (qdV s at_)]] 64) (.ite (qaH [[.int .i64 (qfz s at_),.str (qdQ s at_),.int .i64 (qdU s at_),.int .i64 (qdW s at_),.str (qdY s at_),.int .i64 (qdV s at_)]] 6) (.ite (qaB out 6) (.ite (nEq k (nXs out)) (.ite (qio s (iAdd .i64 at_ (sLen (qdQ s at_)))) (.ret (.next [.str s,.sl (qaD 0 (xApp out [[.int .i64 (qfz s at_),.str (qdQ s at_),.int .i64 (qdU s at_),.int .i64 (qdW s at_),.str (qdY s at_),.int .i64 (qdV s at_)]])) (.tok 0),.int .i64 (qeK s (iAdd .i64 at_ (sLen (qdQ s at_))))] (Store.mk [] [(nXs (xApp out [[.int .i64 (qfz s at_),.str (qdQ s at_),.int .i64 (qdU s at_),.int .i64 (qdW s at_),.str (qdY s at_),.int .i64 (qdV s at_)]]),6,120)] []))) .fail) .fail) .fail) .fail) .fail)) .fail) (.ret (.out (.exit 0) [.sl out (.tok 0)] (Store.mk [] [(k,6,120)] [])))
theorem qGb (s:qU) (out:qR) (at_:Int) (k:Nat):lstep tbT ql5 qmE qll qlb [.str s,.sl out (.tok 0),.int .i64 at_] ⟨[],[(k,6,120)],[]⟩=qhg s out at_ k:=by kernel_rfl
theorem qpV (s:qU) (out:qR) (at_:Int) (k:Nat):qcK [.str s,.sl out (.tok 0),.int .i64 at_] ⟨[],[(k,6,120)],[]⟩=lnext qcK (qhg s out at_ k).run:=by unfold qcK;rw [qbu,qGb]
def qcl (s:qU) (out:qR) (at_:Int):Option (PExit×List PV×Store):=qcK [.str s,.sl out .full,.int .i64 at_] ⟨[],[],[]⟩
def qe4 (s:qU) (out:qR) (at_:Int):List (List PV):=(gRow (gOut (qcl s out at_) 0))
def qeU (s:qU) (out:qR) (at_:Int):Int:=(gInt (gOut (qcl s out at_) 1))
def qd5 (s:qU) (out:qR) (at_:Int):Int:=(gInt (gOut (qcl s out at_) 2))
def qf0 (s:qU) (out:qR) (at_:Int):Bool:=isW (qcl s out at_) (.ret,[.sl (qe4 s out at_) .full,.int .i64 (qeU s out at_),.int .i64 (qd5 s out at_)],⟨[],[],[]⟩)
def qdr (s:qU) (out:qR) (at_:Int):List (List PV):=(gRow (gOut (qcl s out at_) 0))
def qf3 (s:qU) (out:qR) (at_:Int):Bool:=isW (qcl s out at_) ((.exit 0),[.sl (qdr s out at_) .full],⟨[],[],[]⟩)
def qe1 (s:qU) (out:qR) (at_:Int):List (List PV):=(gRow (gOut (qcl s out at_) 0))
def qeX (s:qU) (out:qR) (at_:Int):Int:=(gInt (gOut (qcl s out at_) 1))
def qel (s:qU) (out:qR) (at_:Int):Int:=(gInt (gOut (qcl s out at_) 2))
def qf5 (s:qU) (out:qR) (at_:Int):Nat:=(gTok (qcl s out at_) 0)
def qf7 (s:qU) (out:qR) (at_:Int):Bool:=isW (qcl s out at_) (.ret,[.sl (qe1 s out at_) .full,.int .i64 (qeX s out at_),.int .i64 (qel s out at_)],⟨[],[((qf5 s out at_),6,120)],[]⟩)
def qdp (s:qU) (out:qR) (at_:Int):List (List PV):=(gRow (gOut (qcl s out at_) 0))
def qfS (s:qU) (out:qR) (at_:Int):Nat:=(gTok (qcl s out at_) 0)
def qfL (s:qU) (out:qR) (at_:Int):Bool:=isW (qcl s out at_) ((.exit 0),[.sl (qdp s out at_) (.tok 0)],⟨[],[((qfS s out at_),6,120)],[]⟩)
def qid:List PV→Store→Tr (PExit×List PV×Store)|[.str s,.sl out .full,.int .i64 at_],⟨[],[],[]⟩=>.ite (qf0 s out at_) (.ret (.ret,[.sl (qe4 s out at_) .full,.int .i64 (qeU s out at_),.int .i64 (qd5 s out at_)],⟨[],[],[]⟩)) (.ite (qf3 s out at_) (.ret ((.exit 0),[.sl (qdr s out at_) .full],⟨[],[],[]⟩)) (.ite (qf7 s out at_) (.ret (.ret,[.sl (qe1 s out at_) .full,.int .i64 (qeX s out at_),.int .i64 (qel s out at_)],⟨[],[((qf5 s out at_),6,120)],[]⟩)) (.ite (qfL s out at_) (.ret ((.exit 0),[.sl (qdp s out at_) (.tok 0)],⟨[],[((qfS s out at_),6,120)],[]⟩)) (.fail))))|_,_=>.fail
theorem qGU:∀ vs σ r,(qid vs σ).run=some r→qcK vs σ=some r:=by
 intro vs σ r h;unfold qid at h
 split at h
 ·exact qai h fun h=>qai h fun h=>qai h fun h=>qai h fun h=>by cases h
 ·cases h
theorem qAE (gl:Gl):∀ fr σ e fr' σ',(orc qlb qid fr σ).run=some (e,fr',σ')→LDoes Tryz.prog gl qll fr σ e fr' σ':=qck qat (qwB gl ) qah (L:=qmE) (qae (by kernel_rfl)) (by kernel_rfl) qGU
def qxM:LpsT:=fun r fr σ=>bif Nat.beq r 5 then orc qlb qid fr σ else .fail
def qtu (s:qU):Tr PV:=.ite (iLt 65536 (sLen s)) (.ret (.tup [.sl [] .non,.int .i64 0,.int .i64 2])) (.ite (qio s 0) (.ite (qf0 s [] (qeK s 0)) (.ret (.tup [.sl (qcq (qe4 s [] (qeK s 0))) .non,.int .i64 (qeU s [] (qeK s 0)),.int .i64 (qd5 s [] (qeK s 0))])) (.ite (qf3 s [] (qeK s 0)) (.ret (.tup [.sl (qcq (qdr s [] (qeK s 0))) .non,.int .i64 0,.int .i64 0])) (.ite (qf7 s [] (qeK s 0)) (.ret (.tup [.sl (qcq (qe1 s [] (qeK s 0))) .non,.int .i64 (qeX s [] (qeK s 0)),.int .i64 (qel s [] (qeK s 0))])) (.ite (qfL s [] (qeK s 0)) (.ret (.tup [.sl (qcq (qdp s [] (qeK s 0))) .non,.int .i64 0,.int .i64 0])) .fail)))) .fail)
theorem qNl (s:qU):(tcall tbT ql5 qxM Tryz.f38 [.str s]).flat=qtu s:=by kernel_rfl
def qjN (s:qU):Option PV:=(qtu s).run
def qgM (s:qU):List (List PV):=(gRow (gAt (gCs (gVal (qjN s))) 0))
def qr9 (s:qU):Int:=(gInt (gAt (gCs (gVal (qjN s))) 1))
def qlm (s:qU):Int:=(gInt (gAt (gCs (gVal (qjN s))) 2))
def qmI (s:qU):Bool:=isW (qjN s) (.tup [.sl (qgM s) .non,.int .i64 (qr9 s),.int .i64 (qlm s)])
def qyM:List PV→Tr PV|[.str s]=>.ite (qmI s) (.ret (.tup [.sl (qgM s) .non,.int .i64 (qr9 s),.int .i64 (qlm s)])) (.fail)|_=>.fail
theorem qHA (gl:Gl):SimP Tryz.prog gl 38 fun args=>(qyM args).run:=by
 refine SimP.of_flat (G:=ql5) (L:=qxM) qat (qwB gl ) qah  Tryz.func38 rfl (by rfl) (by kernel_rfl) (qaX (L:=lps qxM) [(5,qll)] (by kernel_rfl) (List.forall_mem_cons.2 ⟨fun fr σ e fr' σ' h=>qAE gl  fr σ e fr' σ' h,(List.forall_mem_nil _)⟩)) ?_
 intro args x h;unfold qyM at h
 split at h
 ·exact (congrArg Tr.run (qNl _)).trans (qai h fun h=>by cases h)
 ·cases h
end Go.Pv
set_option maxHeartbeats 8000000
set_option maxRecDepth 200000
set_option linter.unusedSimpArgs false
set_option linter.unusedVariables false
namespace Go.Pv
open Go Go.Proofs Go.RowKit
theorem qwn (c:Int):qrY c=some (.bool (smI c)):=by
 unfold qrY qvy smI;by_cases h:(97:Int)≤c<;>simp [h]
@[simp] theorem qk3 (c:Int):qi2 c=true:=by simp [qi2,qke,qwn]
@[simp] theorem qoF (c:Int):qke c=smI c:=by simp [qke,qwn]
theorem qwm (c:Int):qrZ c=some (.bool (grI c)):=by
 unfold qrZ qvB grI;by_cases h:(65:Int)≤c<;>simp [h]
@[simp] theorem qlv (c:Int):qfN c=true:=by simp [qfN,qgK,qwm]
@[simp] theorem qoG (c:Int):qgK c=grI c:=by simp [qgK,qwm]
theorem qwq (c:Int):qrM c=some (.bool (dgI c)):=by
 unfold qrM qu4 dgI;by_cases h:(48:Int)≤c<;>simp [h]
@[simp] theorem qAG (c:Int):qf9 c=true:=by simp [qf9,qgI,qwq]
@[simp] theorem qFH (c:Int):qgI c=dgI c:=by simp [qgI,qwq]
theorem qw4 (c:Int):qso c=some (.bool (inI c)):=by
 unfold qso qt0 inI;cases h1:smI c<;>cases h2:grI c<;>cases h3:dgI c<;>simp [h1,h2,h3]
@[simp] theorem rinner_is (c:Int):qmy c=true:=by simp [qmy,qlV,qw4]
@[simp] theorem rinner_v (c:Int):qlV c=inI c:=by simp [qlV,qw4]
def blI (c:Int):Bool:=decide (c=32) || decide (c=9) || decide (c=10) || decide (c=13)
theorem qNq (b:UInt8):blI (b.toNat:Int)=blB b:=by
 unfold blI blB
 congr 1
 ·congr 1
  ·congr 1<;>(apply decide_eq_decide.2;omega)
  ·apply decide_eq_decide.2;omega
 ·apply decide_eq_decide.2;omega
theorem qwO (c:Int):qsy c=some (.bool (blI c)):=by
 unfold qsy qvn blI;by_cases h1:c=32<;>by_cases h2:c=9<;>by_cases h3:c=10<;>simp [h1,h2,h3]
@[simp] theorem qz4 (c:Int):qmA c=true:=by simp [qmA,qjJ,qwO]
@[simp] theorem rblank_v (c:Int):qjJ c=blI c:=by simp [qjJ,qwO]
theorem qGF (s:qU) (hs:s.length < 9223372036854775807):∀ (m i:Nat),i+m=s.length→qlT [.str s,.int .i64 (i:Nat)] ⟨[],[],[]⟩=some (.exit 0,[.int .i64 ((i+runL innB (s.drop i):Nat):Int)],⟨[],[],[]⟩):=by
 intro m
 induction m with
 |zero =>
  intro i hi;rw [qEY,List.drop_eq_nil_of_le (by omega)]
  have:¬ (i:Int) < s.length:=by omega
  simp [qkK,runL,this]
 |succ m ih =>
  intro i hi;obtain⟨b,hb⟩:=qgH (l:=s) (i:=i) (by omega)
  have hbe:=(List.getElem?_eq_some_iff.1 hb).2;have w:=qaZ (i:=i) (by omega)
  have hlt:i < s.length:=by omega
  have h1:=ih (i+1) (by omega)
  rw [qbP hb,qEY];cases hc:innB b with
  |true =>
   have e:i+(runL innB (s.drop (i+1))+1)=i+1+runL innB (s.drop (i+1)):=by omega
   simp only [runL,hc,if_true,e];rw [← h1];simp [qkK,hlt,hbe,qpw,hc,w]
  |false=>simp [qkK,hlt,hbe,qpw,hc,runL]
theorem qBc {s:List UInt8} (hs:s.length < 9223372036854775807) {i:Nat} (hi:i≤s.length):qxz s (i:Nat)=some (.int .i64 ((i+runL innB (s.drop i):Nat):Int)):=by
 have h:=qGF s hs (s.length - i) i (by omega)
 unfold qxz qzm;simp only [qqu,qmj,qyJ,h];simp
theorem qN3 {s:List UInt8} (hs:s.length < 9223372036854775807) {i:Nat} (hi:i≤s.length):qjb s (i:Nat)=true:=by simp only [qjb,qbt,qBc hs hi];simp
theorem qRE {s:List UInt8} (hs:s.length < 9223372036854775807) {i:Nat} (hi:i≤s.length):qbt s (i:Nat)=((i+runL innB (s.drop i):Nat):Int):=by simp only [qbt,qBc hs hi];simp
theorem qzN (s:qU) (hs:s.length < 9223372036854775807):∀ (m i:Nat),i+m=s.length→qgV [.str s,.int .i64 (i:Nat)] ⟨[],[],[]⟩=some (.exit 0,[.int .i64 ((i+runL qbf (s.drop i):Nat):Int)],⟨[],[],[]⟩):=by
 intro m
 induction m with
 |zero =>
  intro i hi;rw [qwT,List.drop_eq_nil_of_le (by omega)]
  have:¬ (i:Int) < s.length:=by omega
  simp [qhu,runL,this]
 |succ m ih =>
  intro i hi;obtain⟨b,hb⟩:=qgH (l:=s) (i:=i) (by omega)
  have hbe:=(List.getElem?_eq_some_iff.1 hb).2;have w:=qaZ (i:=i) (by omega)
  have hlt:i < s.length:=by omega
  have h1:=ih (i+1) (by omega)
  rw [qbP hb,qwT];cases hc:qbf b with
  |true =>
   have e:i+(runL qbf (s.drop (i+1))+1)=i+1+runL qbf (s.drop (i+1)):=by omega
   simp only [runL,hc,if_true,e];rw [← h1];simp [qhu,hlt,hbe,qfk,hc,w]
  |false=>simp [qhu,hlt,hbe,qfk,hc,runL]
theorem qvx {s:List UInt8} (hs:s.length < 9223372036854775807) {i:Nat} (hi:i≤s.length):qpt s (i:Nat)=some (.int .i64 ((i+runL qbf (s.drop i):Nat):Int)):=by
 have h:=qzN s hs (s.length - i) i (by omega)
 unfold qpt qqZ;simp only [qlo,qhY,qqe,h];simp
theorem qG1 {s:List UInt8} (hs:s.length < 9223372036854775807) {i:Nat} (hi:i≤s.length):qge s (i:Nat)=true:=by simp only [qge,qbw,qvx hs hi];simp
theorem qJL {s:List UInt8} (hs:s.length < 9223372036854775807) {i:Nat} (hi:i≤s.length):qbw s (i:Nat)=((i+runL qbf (s.drop i):Nat):Int):=by simp only [qbw,qvx hs hi];simp
theorem qLB (s:qU) (hs:s.length < 9223372036854775807):∀ (m i:Nat) (c:Bool),i+m=s.length→qpP [.str s,.int .i64 (i:Nat),.bool c] ⟨[],[],[]⟩=some (.exit 0,[.int .i64 ((i+gapL c (s.drop i):Nat):Int)],⟨[],[],[]⟩):=by
 intro m
 induction m with
 |zero =>
  intro i c hi;rw [qKc,List.drop_eq_nil_of_le (by omega)]
  have:¬ (i:Int) < s.length:=by omega
  simp [qpz,gapL,this]
 |succ m ih =>
  intro i c hi;obtain⟨b,hb⟩:=qgH (l:=s) (i:=i) (by omega)
  have hbe:=(List.getElem?_eq_some_iff.1 hb).2;have w:=qaZ (i:=i) (by omega)
  have hlt:i < s.length:=by omega
  rw [qbP hb,qKc];have q1:iEq (sAt s (i:Int)) 37=decide (b.toNat=37):=by simp [hlt,hbe];omega
  have q2:iNe (sAt s (i:Int)) 10=decide (b.toNat≠10):=by simp [hlt,hbe];omega
  have q3:qjJ (sAt s (i:Int))=blB b:=by simp [hlt,hbe,qNq]
  have q4:qaR s (i:Int)=true:=by simp;omega
  have q5:iLt (i:Int) (sLen s)=true:=by simp;omega
  have h1:=ih (i+1) (decide (b.toNat=37) || c&&decide (b.toNat≠10)) (by omega)
  cases hg:(c || blB b || decide (b.toNat=37)) with
  |true =>
   have e:gapL c (b::s.drop (i+1))=gapL (decide (b.toNat=37) || c&&decide (b.toNat≠10)) (s.drop (i+1))+1:=by
    simp only [gapL,hg,if_true]
   rw [e,show i+(gapL (decide (b.toNat=37) || c&&decide (b.toNat≠10)) (s.drop (i+1))+1)=i+1+gapL (decide (b.toNat=37) || c&&decide (b.toNat≠10)) (s.drop (i+1)) from by omega,← h1]
   simp only [qpz,q1,q2,q3,q4,q5,qz4,w];cases c<;>cases hb2:blB b<;>by_cases h37:b.toNat=37<;>simp [hb2,h37] at hg ⊢
  |false =>
   have e:gapL c (b::s.drop (i+1))=0:=by
    simp only [gapL,hg,Bool.false_eq_true,if_false]
   rw [e];simp only [Bool.or_eq_false_iff,decide_eq_false_iff_not] at hg;obtain⟨⟨rfl,hb2⟩,h37⟩:=hg;simp only [qpz,q1,q2,q3,q4,q5,qz4,w,hb2];simp [h37]
theorem qET {s:List UInt8} (hs:s.length < 9223372036854775807) {i:Nat} (hi:i≤s.length):qEx s (i:Nat)=some (.int .i64 ((i+gapL false (s.drop i):Nat):Int)):=by
 have h:=qLB s hs (s.length - i) i false (by omega)
 unfold qEx qCm;simp only [qtv,qo1,qD2,h];simp
theorem qMq {s:List UInt8} (hs:s.length < 9223372036854775807) {i:Nat} (hi:i≤s.length):qio s (i:Nat)=true:=by simp only [qio,qeK,qET hs hi];simp
theorem qOJ {s:List UInt8} (hs:s.length < 9223372036854775807) {i:Nat} (hi:i≤s.length):qeK s (i:Nat)=((i+gapL false (s.drop i):Nat):Int):=by simp only [qeK,qET hs hi];simp
theorem qAX (s:qU) (hs:s.length < 9223372036854775800):∀ (m i:Nat),s.length≤i+m→i≤s.length+1→qfi [.str s,.int .i64 (i:Nat)] ⟨[],[],[]⟩=qOut i (quoE false (s.drop i)):=by
 have hend:∀ i:Nat,s.length≤i→qfi [.str s,.int .i64 (i:Nat)] ⟨[],[],[]⟩=some (.exit 0,[],⟨[],[],[]⟩):=fun i hi=>by
  rw [qwz];have:¬ (i:Int) < s.length:=by omega
  simp [qf1,this]
 intro m
 induction m with
 |zero =>
  intro i hi _;rw [hend i (by omega),List.drop_eq_nil_of_le (by omega)]
  simp [quoE,qOut]
 |succ m ih =>
  intro i hi hi2;by_cases hlt:i < s.length
  ·obtain⟨b,hb⟩:=qgH (l:=s) (i:=i) hlt;have hbe:=(List.getElem?_eq_some_iff.1 hb).2;have w:=qaZ (i:=i) (by omega)
   have w2:=qaZ (i:=i+1) (by omega)
   have h1:=ih (i+1) (by omega) (by omega)
   rw [qbP hb,qwz];simp only [quoE];have t1:iLt (i:Int) (sLen s)=true:=by simp;omega
   have t2:qaR s (i:Int)=true:=by simp;omega
   have t3:sAt s (i:Int)=b.toNat:=by simp [hbe,hlt]
   by_cases hq:b.toNat=34
   ·rw [if_pos hq];simp only [qf1,t1,t2,t3];simp [hq,w,qOut]
   ·rw [if_neg hq];have hq':¬ ((b.toNat:Int)=34):=by omega
    by_cases hp:b.toNat=92
    ·rw [if_pos hp,qmx];have e1:qfi [.str s,.int .i64 (iAdd .i64 (iAdd .i64 (i:Int) 1) 1)] ⟨[],[],[]⟩=qOut (i+1) (quoE true (s.drop (i+1))):=by
      rw [w,w2];by_cases hl2:i+1 < s.length
      ·obtain⟨c,hc⟩:=qgH (l:=s) (i:=i+1) hl2;rw [qbP hc];simp only [quoE];rw [qmx];exact ih (i+1+1) (by omega) (by omega)
      ·rw [hend (i+1+1) (by omega),List.drop_eq_nil_of_le (by omega)]
       simp [quoE,qOut]
     rw [← e1];simp only [qf1,t1,t2,t3];simp [hp]
    ·have hp':¬ ((b.toNat:Int)=92):=by omega
     rw [if_neg hp,qmx,← h1,← w];simp only [qf1,t1,t2,t3];simp [hq',hp']
  ·rw [hend i (by omega),List.drop_eq_nil_of_le (by omega)]
   simp [quoE,qOut]
theorem quv {s:List UInt8} (hs:s.length < 9223372036854775800) {i:Nat} (hi:i < s.length):qps s (i:Nat)=some (.int .i64 (if quoL (s.drop (i+1))=0 then -1 else ((i+1+quoL (s.drop (i+1)):Nat):Int))):=by
 have h:=qAX s hs (s.length - (i+1)) (i+1) (by omega) (by omega)
 have w:=qaZ (i:=i) (by omega)
 unfold qps qpM;rw [w];unfold qOut at h
 rw [show quoE false (s.drop (i+1))=quoL (s.drop (i+1)) from rfl] at h
 by_cases h0:quoL (s.drop (i+1))=0
 ·rw [if_pos h0] at h ⊢;simp only [qhU,qh2,qgs,qi4,h];simp
 ·rw [if_neg h0] at h ⊢;simp only [qhU,qh2,qgs,qi4,h];simp
theorem qHz {s:List UInt8} (hs:s.length < 9223372036854775800) {i:Nat} (hi:i < s.length):qeY s (i:Nat)=true:=by simp only [qeY,qaJ,quv hs hi];simp
theorem qID {s:List UInt8} (hs:s.length < 9223372036854775800) {i:Nat} (hi:i < s.length):qaJ s (i:Nat)=(if quoL (s.drop (i+1))=0 then -1 else ((i+1+quoL (s.drop (i+1)):Nat):Int)):=by simp only [qaJ,quv hs hi];simp
theorem qw6 {s:List UInt8} (hs:s.length≤140737488355328) (k at_:Int):qgi k s at_=some (if eRd s=0 then wTup k s (kRd s,nRd s,sRd s) at_ true else wTup 0 [] (0,0,[]) 0 false):=by
 unfold qgi qut wTup;by_cases h:eRd s=0<;>simp [hs,h]
theorem qsX {s:List UInt8} (hs:s.length≤140737488355328) (k at_:Int):qeE k s at_=true:=by
 simp only [qeE,qfm,qfC,qea,qd6,qes,qev,qfq,qw6 hs];by_cases h:eRd s=0<;>simp [h,wTup]
theorem qzj {s:List UInt8} (hs:s.length≤140737488355328) (k at_:Int):(PV.tup [.agg [.int .i64 (qfm k s at_),.str (qfC k s at_),.int .i64 (qea k s at_),.int .i64 (qd6 k s at_),.str (qes k s at_),.int .i64 (qev k s at_)],.bool (qfq k s at_)])=if eRd s=0 then wTup k s (kRd s,nRd s,sRd s) at_ true else wTup 0 [] (0,0,[]) 0 false:=by
 simp only [qfm,qfC,qea,qd6,qes,qev,qfq,qw6 hs];by_cases h:eRd s=0<;>simp [h,wTup]
theorem qAZ {v:List UInt8} (hs:v.length < 9223372036854775800) {i:Nat} {c:UInt8} {t:List UInt8} (hv:v.drop i=c::t):qyk v (i:Nat)=some (.int .i64 (qfK c t:Nat)):=by
 have hl:v.length=i+(t.length+1):=by
  have:=congrArg List.length hv;simp at this;omega
 have hc:v[i]?=some c:=by
  have:(v.drop i)[0]?=some c:=by rw [hv];rfl
  simpa using this
 have hbe:=(List.getElem?_eq_some_iff.1 hc).2;have e3:sAt v (i:Int)=(c.toNat:Int):=by
  have:i < v.length:=by omega
  simp [this,hbe]
 have q:qaR v (i:Int)=true:=by simp;omega
 have k40:iEq (sAt v (i:Int)) 40=decide (c.toNat=40):=by rw [e3];simp;omega
 have k41:iEq (sAt v (i:Int)) 41=decide (c.toNat=41):=by rw [e3];simp;omega
 have k44:iEq (sAt v (i:Int)) 44=decide (c.toNat=44):=by rw [e3];simp;omega
 have k46:iEq (sAt v (i:Int)) 46=decide (c.toNat=46):=by rw [e3];simp;omega
 have k43:iEq (sAt v (i:Int)) 43=decide (c.toNat=43):=by rw [e3];simp;omega
 have k45:iEq (sAt v (i:Int)) 45=decide (c.toNat=45):=by rw [e3];simp;omega
 have k61:iEq (sAt v (i:Int)) 61=decide (c.toNat=61):=by rw [e3];simp;omega
 have k58:iEq (sAt v (i:Int)) 58=decide (c.toNat=58):=by rw [e3];simp;omega
 have k60:iEq (sAt v (i:Int)) 60=decide (c.toNat=60):=by rw [e3];simp;omega
 have k62:iEq (sAt v (i:Int)) 62=decide (c.toNat=62):=by rw [e3];simp;omega
 have w2:iAdd .i64 (i:Int) 2=((i+2:Nat):Int):=qbD (by omega)
 have w3:iSub .i64 (sLen v) (i:Int)=((t.length+1:Nat):Int):=by
  rw [qji];unfold iSub;rw [qbD (by omega)]
  omega
 have ones:∀ T:Option PV,T=(if c.toNat=40 then some (.int .i64 1) else if c.toNat=41 then some (.int .i64 1) else if c.toNat=44 then some (.int .i64 1) else if c.toNat=46 then some (.int .i64 1) else if c.toNat=43 then some (.int .i64 1) else if c.toNat=45 then some (.int .i64 1) else if c.toNat=61 then some (.int .i64 1) else if c.toNat=58 then some (.int .i64 1) else if c.toNat=60 then some (.int .i64 1) else if c.toNat=62 then some (.int .i64 1) else some (.int .i64 0))→T=some (.int .i64 ((if qmR c then 1 else 0:Nat):Int)):=fun T hT=>by
  rw [hT];cases ho:qmR c with
  |true =>
   simp [qmR] at ho;simp only [if_true]
   repeat' split
   all_goals first|rfl|(exfalso;omega)
  |false =>
   simp [qmR] at ho;simp only [Bool.false_eq_true,if_false]
   repeat' split
   all_goals first|rfl|(exfalso;omega)
 unfold qyk qxI qfK;rw [w3,w2];cases t with
 |nil =>
  have g:iLe 2 (([]:List UInt8).length+1:Nat)=false:=by decide
  rw [g];simp only [hdIs,Bool.false_eq_true,if_false];refine ones _ ?_;simp only [k40,k41,k44,k46,k43,k45,k61,k58,k60,k62,q];simp
 |cons d u =>
  have g:iLe 2 (((d::u).length+1:Nat):Int)=true:=by simp;omega
  have g2:qaQ (qav (i:Int)) (qav ((i+2:Nat):Int)) (nNat (i:Int)) (nNat ((i+2:Nat):Int)) (nLen v)=true:=by simp at hl ⊢;omega
  have g3:sSub v (nNat (i:Int)) (nNat ((i+2:Nat):Int))=[c,d]:=by
   simp only [qzk,qy0,Int.toNat_natCast];rw [List.drop_take,hv,show i+2 - i=2 from by omega]
   rfl
  rw [g,g2,g3];have two:∀ a b:UInt8,sEq [c,d] [a,b]=decide (c.toNat=a.toNat∧d.toNat=b.toNat):=fun a b=>by
   simp [← UInt8.toNat_inj]
  rw [two,two,two,two];have ht:hdIs (twoB c) (d::u)=(decide (c.toNat=58∧d.toNat=45) || decide (c.toNat=60∧d.toNat=61) || decide (c.toNat=62∧d.toNat=61) || decide (c.toNat=33∧d.toNat=61)):=rfl;rw [ht];by_cases z1:c.toNat=58∧d.toNat=45
  ·simp [z1]
  ·by_cases z2:c.toNat=60∧d.toNat=61
   ·simp [z2]
   ·by_cases z3:c.toNat=62∧d.toNat=61
    ·simp [z3]
    ·by_cases z4:c.toNat=33∧d.toNat=61
     ·simp [z4]
     ·have y1:decide (c.toNat=(58:UInt8).toNat∧d.toNat=(45:UInt8).toNat)=false:=decide_eq_false z1;have y2:decide (c.toNat=(60:UInt8).toNat∧d.toNat=(61:UInt8).toNat)=false:=decide_eq_false z2;have y3:decide (c.toNat=(62:UInt8).toNat∧d.toNat=(61:UInt8).toNat)=false:=decide_eq_false z3;have y4:decide (c.toNat=(33:UInt8).toNat∧d.toNat=(61:UInt8).toNat)=false:=decide_eq_false z4;rw [y1,y2,y3,y4,decide_eq_false z1,decide_eq_false z2,decide_eq_false z3,decide_eq_false z4];simp only [Bool.or_false,Bool.false_eq_true,if_false];refine ones _ ?_;simp only [k40,k41,k44,k46,k43,k45,k61,k58,k60,k62,q];simp
theorem qNv {v:List UInt8} (hs:v.length < 9223372036854775800) {i:Nat} {c:UInt8} {t:List UInt8} (hv:v.drop i=c::t):qhA v (i:Nat)=true:=by simp only [qhA,qbR,qAZ hs hv];simp
theorem qQ1 {v:List UInt8} (hs:v.length < 9223372036854775800) {i:Nat} {c:UInt8} {t:List UInt8} (hv:v.drop i=c::t):qbR v (i:Nat)=(qfK c t:Nat):=by simp only [qbR,qAZ hs hv];simp
def rOut (v:qU) (i:Nat):Option (Int×Nat×Vl)→PV
 |some (k,m,x)=>wTup k ((v.drop i).take m) x (i:Nat) true
 |none=>wTup 0 [] (0,0,[]) 0 false
theorem qCa (k:Int) (s:qU) (n:Nat) (v:qU) (i:Nat) (hv:v.drop i=s):rOut v i (valL k s n)=if eRd (s.take n)=0 then wTup k (s.take n) (kRd (s.take n),nRd (s.take n),sRd (s.take n)) (i:Nat) true else wTup 0 [] (0,0,[]) 0 false:=by
 unfold valL eRd kRd nRd sRd rOut;rw [hv];cases h:rdV (s.take n)<;>simp
theorem qK2 {v:List UInt8} (hs:v.length≤140737488355328) {i:Nat} {c:UInt8} {t:List UInt8} (hv:v.drop i=c::t):qix v (i:Nat)=some (rOut v i (wdL (c::t))):=by
 have hs1:v.length < 9223372036854775807:=by omega
 have hs2:v.length < 9223372036854775800:=by omega
 have hl:v.length=i+(t.length+1):=by
  have:=congrArg List.length hv;simp at this;omega
 have hc:v[i]?=some c:=by
  have:(v.drop i)[0]?=some c:=by rw [hv];rfl
  simpa using this
 have ht:v.drop (i+1)=t:=by rw [← List.drop_drop,hv];rfl
 have hbe:=(List.getElem?_eq_some_iff.1 hc).2;have hlt:i < v.length:=by omega
 have e3:sAt v (i:Int)=(c.toNat:Int):=by simp [hlt,hbe]
 have w:=qaZ (i:=i) (by omega)
 -- parts of the text from i
 have hsub:∀ n:Nat,sSub v (nNat (i:Int)) (nNat ((i+n:Nat):Int))=(c::t).take n:=fun n=>by
  simp only [qzk,qy0,Int.toNat_natCast];rw [List.drop_take,hv,show i+n - i=n from by omega]
 have hok:∀ n:Nat,n≤t.length+1→qaQ (qav (i:Int)) (qav ((i+n:Nat):Int)) (nNat (i:Int)) (nNat ((i+n:Nat):Int)) (nLen v)=true:=fun n hn=>by simp;omega
 have hne:∀ n:Nat,n≠0→iEq ((i+n:Nat):Int) (i:Int)=false:=fun n hn=>by simp;omega
 have hln:∀ n:Nat,n≤t.length+1→iLt 64 (sLen ((c::t).take n))=decide (64 < n):=fun n hn=>by
  simp only [qji,qFt,List.length_take,List.length_cons];apply decide_eq_decide.2;omega
 have q0:qaR v (i:Int)=true:=by simp;omega
 have q1:smI (sAt v (i:Int))=qhI c:=by rw [e3,qFw]
 have q2:grI (sAt v (i:Int))=qlq c:=by rw [e3,qEo]
 have q3:iEq (sAt v (i:Int)) 95=decide (c.toNat=95):=by rw [e3];simp;omega
 have q4:dgI (sAt v (i:Int))=qbf c:=by rw [e3,qfk]
 have q5:iEq (sAt v (i:Int)) 45=decide (c.toNat=45):=by rw [e3];simp;omega
 have q6:iEq (sAt v (i:Int)) 34=decide (c.toNat=34):=by rw [e3];simp;omega
 have n1:=qN3 hs1 (i:=i) (by omega)
 have n2:=qRE hs1 (i:=i) (by omega)
 rw [hv] at n2;have z23:iEq 2 3=false:=by decide
 have z13:iEq 1 3=false:=by decide
 have z33:iEq 3 3=true:=by decide
 have z63:iEq 6 3=false:=by decide
 have hr1:=qnJ innB t;unfold qix qxZ;by_cases h1:qhI c=true
 ·have e:runL innB (c::t)=runL innB t+1:=by simp [runL,innB,h1]
  rw [e] at n2;have g:qlq c=false:=by
   simp [qhI] at h1;simp [qlq];omega
  simp only [q0,qk3,qoF,qlv,qoG,q1,q2,h1,g,n1,n2,hok (runL innB t+1) (by omega),hne (runL innB t+1) (by omega),hsub,hln (runL innB t+1) (by omega),z13,wdL,if_true]
  by_cases h64:runL innB t+1≤64
  ·have:¬ 64 < runL innB t+1:=by omega
   simp [this,h64,rOut,wTup,hv]
  ·have:64 < runL innB t+1:=by omega
   simp [this,h64,rOut,wTup]
 ·have h1':qhI c=false:=by simpa using h1
  by_cases h2:qlq c=true
  ·have e:runL innB (c::t)=runL innB t+1:=by simp [runL,innB,h2]
   rw [e] at n2;simp only [q0,qk3,qoF,qlv,qoG,q1,q2,h1',h2,n1,n2,hok (runL innB t+1) (by omega),hne (runL innB t+1) (by omega),hsub,hln (runL innB t+1) (by omega),z23,wdL,if_true,Bool.false_eq_true,if_false]
   by_cases h64:runL innB t+1≤64
   ·have:¬ 64 < runL innB t+1:=by omega
    simp [this,h64,rOut,wTup,hv]
   ·have:64 < runL innB t+1:=by omega
    simp [this,h64,rOut,wTup]
  ·have h2':qlq c=false:=by simpa using h2
   by_cases h3:c.toNat=95
   ·have e:runL innB (c::t)=runL innB t+1:=by simp [runL,innB,h3]
    rw [e] at n2;have ee:wdL (c::t)=if hdIs innB t then none else some (3,1,0,0,[]):=by
     show (if qhI c=true then _ else _)=_
     rw [if_neg h1,if_neg h2,if_pos h3]
    have nn:iNe ((i+(runL innB t+1):Nat):Int) (iAdd .i64 (i:Int) 1)=hdIs innB t:=by
     rw [w];cases t with
     |nil=>simp [runL,hdIs]
     |cons d u =>
      simp only [runL,hdIs];cases innB d<;>simp<;>omega
    rw [ee];simp only [q0,qk3,qoF,qlv,qoG,q1,q2,h1',h2',q3,h3,decide_true,n1,n2,hok (runL innB t+1) (by omega),hne (runL innB t+1) (by omega),hsub,hln (runL innB t+1) (by omega),z33,nn]
    cases hh:hdIs innB t with
    |true =>
     by_cases h64:64 < runL innB t+1<;>simp [h64,rOut,wTup]
    |false =>
     have r0:runL innB t=0:=by
      cases t with
      |nil=>rfl
      |cons d u=>simp [hdIs] at hh;simp [runL,hh]
     rw [r0];simp [rOut,wTup,hv]
   ·have val:∀ (k:Int) (n:Nat),n≤t.length+1→((c::t).take n).length≤140737488355328:=fun k n hn=>by rw [List.length_take];simp;omega
    have hr2:=qnJ qbf t;have d1:qge v ((i+1:Nat):Int)=true:=qG1 hs1 (by omega)
    have d2:qbw v ((i+1:Nat):Int)=((i+(runL qbf t+1):Nat):Int):=by
     rw [qJL hs1 (by omega),ht]
     congr 1
     omega
    by_cases h4:qbf c=true
    ·have ee:wdL (c::t)=valL 4 (c::t) (runL qbf t+1):=by
      show (if qhI c=true then _ else _)=_
      rw [if_neg h1,if_neg h2,if_neg h3,if_pos (by simp [h4])]
     rw [ee,qCa 4 (c::t) _ v i hv];simp only [q0,qk3,qoF,qlv,qoG,q1,q2,h1',h2',q3,decide_eq_false h3,qAG,qFH,q4,h4,w,d1,d2,hok (runL qbf t+1) (by omega),hsub,qsX (val 4 (runL qbf t+1) (by omega)),qzj (val 4 (runL qbf t+1) (by omega))]
     rfl
    ·have h4':qbf c=false:=by simpa using h4
     -- a symbol,or a mark
     have rest:∀ T:Tr PV,(c.toNat=45→hdIs qbf t=false)→T.run=(Tr.ite (iEq (sAt v (i:Int)) 34)
       (Tr.ite (qeY v (i:Int))
        (Tr.ite (iLt (qaJ v (i:Int)) 0)
         (Tr.ret (PV.tup [PV.agg [PV.int .i64 0,PV.str [],PV.int .i64 0,PV.int .i64 0,PV.str [],PV.int .i64 0],PV.bool false]))
         (Tr.ite (qaQ (qav (i:Int)) (qav (qaJ v (i:Int))) (nNat (i:Int)) (nNat (qaJ v (i:Int))) (nLen v))
          (Tr.ite (qeE 5 (sSub v (nNat (i:Int)) (nNat (qaJ v (i:Int)))) (i:Int))
           (Tr.ret (PV.tup [PV.agg [PV.int .i64 (qfm 5 (sSub v (nNat (i:Int)) (nNat (qaJ v (i:Int)))) (i:Int)),PV.str (qfC 5 (sSub v (nNat (i:Int)) (nNat (qaJ v (i:Int)))) (i:Int)),PV.int .i64 (qea 5 (sSub v (nNat (i:Int)) (nNat (qaJ v (i:Int)))) (i:Int)),PV.int .i64 (qd6 5 (sSub v (nNat (i:Int)) (nNat (qaJ v (i:Int)))) (i:Int)),PV.str (qes 5 (sSub v (nNat (i:Int)) (nNat (qaJ v (i:Int)))) (i:Int)),PV.int .i64 (qev 5 (sSub v (nNat (i:Int)) (nNat (qaJ v (i:Int)))) (i:Int))],PV.bool (qfq 5 (sSub v (nNat (i:Int)) (nNat (qaJ v (i:Int)))) (i:Int))]))
           Tr.fail)
          Tr.fail))
        Tr.fail)
       (Tr.ite (qhA v (i:Int))
        (Tr.ite (qaQ (qav (i:Int)) (qav (iAdd .i64 (i:Int) (qbR v (i:Int)))) (nNat (i:Int)) (nNat (iAdd .i64 (i:Int) (qbR v (i:Int)))) (nLen v))
         (Tr.ite (iEq (iAdd .i64 (i:Int) (qbR v (i:Int))) (i:Int))
          (Tr.ret (PV.tup [PV.agg [PV.int .i64 0,PV.str [],PV.int .i64 0,PV.int .i64 0,PV.str [],PV.int .i64 0],PV.bool false]))
          (Tr.ite (iLt 64 (sLen (sSub v (nNat (i:Int)) (nNat (iAdd .i64 (i:Int) (qbR v (i:Int)))))))
           (Tr.ret (PV.tup [PV.agg [PV.int .i64 0,PV.str [],PV.int .i64 0,PV.int .i64 0,PV.str [],PV.int .i64 0],PV.bool false]))
           (Tr.ite (iEq 6 3)
            (Tr.ite (iNe (iAdd .i64 (i:Int) (qbR v (i:Int))) (iAdd .i64 (i:Int) 1))
             (Tr.ret (PV.tup [PV.agg [PV.int .i64 0,PV.str [],PV.int .i64 0,PV.int .i64 0,PV.str [],PV.int .i64 0],PV.bool false]))
             (Tr.ret (PV.tup [PV.agg [PV.int .i64 6,PV.str (sSub v (nNat (i:Int)) (nNat (iAdd .i64 (i:Int) (qbR v (i:Int))))),PV.int .i64 0,PV.int .i64 0,PV.str [],PV.int .i64 (i:Int)],PV.bool true])))
            (Tr.ret (PV.tup [PV.agg [PV.int .i64 6,PV.str (sSub v (nNat (i:Int)) (nNat (iAdd .i64 (i:Int) (qbR v (i:Int))))),PV.int .i64 0,PV.int .i64 0,PV.str [],PV.int .i64 (i:Int)],PV.bool true])))))
         Tr.fail)
        Tr.fail)).run→T.run=some (rOut v i (wdL (c::t))):=by
      intro T h45 hT;rw [hT,q6];have hd:¬ (qbf c || (decide (c.toNat=45)&&hdIs qbf t))=true:=by
       rw [h4'];by_cases hc45:c.toNat=45
       ·simp [hc45,h45 hc45]
       ·simp [hc45]
      by_cases h6:c.toNat=34
      ·have ee:wdL (c::t)=if quoL t=0 then none else valL 5 (c::t) (quoL t+1):=by
        show (if qhI c=true then _ else _)=_
        rw [if_neg h1,if_neg h2,if_neg h3,if_neg hd,if_pos h6]
       rw [ee,decide_eq_true h6,qHz hs2 hlt,qID hs2 hlt,ht];have hq:=qC9 t;by_cases h0:quoL t=0
       ·rw [if_pos h0,if_pos h0];rfl
       ·rw [if_neg h0,if_neg h0,qCa 5 (c::t) _ v i hv];have e5:((i+1+quoL t:Nat):Int)=((i+(quoL t+1):Nat):Int):=by omega
        have e6:iLt ((i+(quoL t+1):Nat):Int) 0=false:=by simp;omega
        rw [e5,e6,hok (quoL t+1) (by omega),hsub,qsX (val 5 (quoL t+1) (by omega)),qzj (val 5 (quoL t+1) (by omega))]
        rfl
      ·have ee:wdL (c::t)=if qfK c t=0 then none else some (6,qfK c t,0,0,[]):=by
        show (if qhI c=true then _ else _)=_
        rw [if_neg h1,if_neg h2,if_neg h3,if_neg hd,if_neg h6]
       have hm:qfK c t≤t.length+1∧qfK c t≤2:=by
        unfold qfK;cases t with
        |nil=>cases qmR c<;>simp [hdIs]
        |cons d u=>cases hdIs (twoB c) (d::u)<;>cases qmR c<;>simp
       have wm:iAdd .i64 (i:Int) ((qfK c t:Nat):Int)=((i+qfK c t:Nat):Int):=qbD (by omega)
       rw [ee,decide_eq_false h6,qNv hs2 hv,qQ1 hs2 hv,wm,hok (qfK c t) hm.1,hsub,hln (qfK c t) hm.1,z63];by_cases h0:qfK c t=0
       ·rw [if_pos h0,h0];have:iEq ((i+0:Nat):Int) (i:Int)=true:=by simp
        rw [this];rfl
       ·have:decide (64 < qfK c t)=false:=decide_eq_false (by omega)
        rw [if_neg h0,hne _ h0,this];simp [rOut,wTup,hv]
     simp only [q0,qk3,qoF,qlv,qoG,q1,q2,h1',h2',q3,decide_eq_false h3,qAG,qFH,q4,h4',q5,w];by_cases h45:c.toNat=45
     ·rw [decide_eq_true h45];cases t with
      |nil =>
       have g:iLt ((i+1:Nat):Int) (sLen v)=false:=by simp at hl ⊢;omega
       rw [g];refine rest _ (fun _=>rfl) ?_
       rw [w];rfl
      |cons d u =>
       have g:iLt ((i+1:Nat):Int) (sLen v)=true:=by simp at hl ⊢;omega
       have g2:qaR v ((i+1:Nat):Int)=true:=by simp at hl ⊢;omega
       have hd1:v[i+1]?=some d:=by
        have:(v.drop (i+1))[0]?=some d:=by rw [ht];rfl
        simpa using this
       have g3:dgI (sAt v ((i+1:Nat):Int))=qbf d:=by
        rw [← qfk];have h5:=(List.getElem?_eq_some_iff.1 hd1);obtain⟨h5a,h5b⟩:=h5
        congr 1
        simp only [qOS,Int.toNat_natCast,List.getD_eq_getElem?_getD,hd1,Option.getD_some]
       rw [g,g2,g3];cases hdd:qbf d with
       |true =>
        have ee:wdL (c::d::u)=valL 4 (c::d::u) (runL qbf (d::u)+1):=by
         show (if qhI c=true then _ else _)=_
         rw [if_neg h1,if_neg h2,if_neg h3,if_pos (by simp [h45,hdIs,hdd])]
        rw [ee,qCa 4 (c::d::u) _ v i hv];simp only [d1,d2,hok (runL qbf (d::u)+1) (by omega),hsub,qsX (val 4 (runL qbf (d::u)+1) (by omega)),qzj (val 4 (runL qbf (d::u)+1) (by omega))]
        rfl
       |false =>
        refine rest _ (fun _=>by simp [hdIs,hdd]) ?_
        rw [w];rfl
     ·rw [decide_eq_false h45];refine rest _ (fun h=>absurd h h45) ?_
      rw [w];rfl
end Go.Pv
set_option maxHeartbeats 4000000
set_option maxRecDepth 200000
set_option linter.unusedSimpArgs false
set_option linter.unusedVariables false
namespace Go.Pv
open Go Go.Proofs Go.RowKit
def qmG:Code:=rngC Tryz.f80 500007
def qx6:RI:=⟨24,[2,3,4,5,12],[2,3,4,5],[.ptr 0 0,.ptr 1 0,.ptr 2 0,.ptr 3 0],[13,14],1⟩
def qtg:Nat→List PV→Store→Tr (PV×Store):=rtree tbT (ofL []) (fun _ _ _=>.fail) qx6 (rngX qmG) (rngY qmG)
end Go.Pv
set_option maxHeartbeats 4000000
set_option maxRecDepth 200000
set_option linter.unusedSimpArgs false
set_option linter.unusedVariables false
namespace Go.Pv
open Go Go.Proofs
def qGg:GamT:=ofL [(140,.pure qLi),(141,.pure qCN),(qgF,.yld 1 qtg)]
theorem qLL (gl:Gl) (hg:GlLex gl) (hy:qrb Tryz.prog gl qgF (.yld 1 fun t a σ=>(qtg t a σ).run)):qaU Tryz.prog gl (gam qGg):=(qac (qM8 gl) (qac (qMr gl hg) (qbv (K:=.yld 1 qtg) hy qag)))
def qz7:Code:=qdT Tryz.f139 1
def qA6:LI:=⟨41,[0,1,3],fun e=>match e with|.ret=>[]|.exit 0=>[]|_=>[],true⟩
def qx8:LpsT:=fun r fr σ=>.fail
def qhs (vs:List PV) (σ:Store):Option (PExit×List PV×Store):=lval (lstep tbT qGg qx8 qz7 qA6) vs σ
def qtb (at_:Int) (r:qR) (n:Int) (n2:Int) (r2:qR) (s:qU):Tr LR:=.ite (iLt at_ (sLen s)) (.ite (qaQ (qav at_) true (nNat at_) (nLen s) (nLen s)) (.ite (qkS (sSub s (nNat at_) (nLen s))) (.ite (nEq 0 0) (.ite (bNot (qhE (sSub s (nNat at_) (nLen s)))) (.ite true (.ret (.out .ret [] (Store.mk [[.sl (qaD 5 (qaD 6 [])) .full],[.int .i64 at_],[.int .i64 120],[.sl (qaD 5 (qaD 6 r2)) .full],[.str s]] [(2,0,1)] [75,3,38,75,9]))) (.ite (bNot (qhE (sSub s (nNat at_) (nLen s)))) (.ret (.out .ret [] (Store.mk [[.sl (qaD 5 (qaD 6 [])) .full],[.int .i64 at_],[.int .i64 120],[.sl (qaD 5 (qaD 6 r2)) .full],[.str s]] [(2,0,1)] [75,3,38,75,9]))) (.ite (qaQ (qav (iAdd .i64 at_ (sLen (qbs (sSub s (nNat at_) (nLen s)))))) true (nNat (iAdd .i64 at_ (sLen (qbs (sSub s (nNat at_) (nLen s)))))) (nLen s) (nLen s)) (.ite (qgR (sSub s (nNat (iAdd .i64 at_ (sLen (qbs (sSub s (nNat at_) (nLen s)))))) (nLen s))) (.ret (.next [.yld 0,.ptr 4 0,.int .i64 (iAdd .i64 (iAdd .i64 at_ (sLen (qbs (sSub s (nNat at_) (nLen s))))) (qbn (sSub s (nNat (iAdd .i64 at_ (sLen (qbs (sSub s (nNat at_) (nLen s)))))) (nLen s))))] (Store.mk [[.sl (qaD 5 (qaD 6 [])) .full],[.int .i64 at_],[.int .i64 120],[.sl (qaD 5 (qaD 6 r2)) .full],[.str s]] [(2,0,1)] [75,3,38,75,9]))) .fail) .fail))) (.ite (qaI r2 [[.int .i64 (qc2 (sSub s (nNat at_) (nLen s))),.str (qbs (sSub s (nNat at_) (nLen s))),.int .i64 (qcs (sSub s (nNat at_) (nLen s))),.int .i64 (qct (sSub s (nNat at_) (nLen s))),.str (qcr (sSub s (nNat at_) (nLen s))),.int .i64 at_]] 64) (.ite (qaH [[.int .i64 (qc2 (sSub s (nNat at_) (nLen s))),.str (qbs (sSub s (nNat at_) (nLen s))),.int .i64 (qcs (sSub s (nNat at_) (nLen s))),.int .i64 (qct (sSub s (nNat at_) (nLen s))),.str (qcr (sSub s (nNat at_) (nLen s))),.int .i64 at_]] 6) (.ite (qaB r2 6)
 (.ite false (.ret (.out .ret [] (Store.mk [[.sl (qaD 5 (qaD 6 r)) .full],[.int .i64 n],[.int .i64 n2],[.sl (qaD 5 (qaD 6 (xApp r2 [[.int .i64 (qc2 (sSub s (nNat at_) (nLen s))),.str (qbs (sSub s (nNat at_) (nLen s))),.int .i64 (qcs (sSub s (nNat at_) (nLen s))),.int .i64 (qct (sSub s (nNat at_) (nLen s))),.str (qcr (sSub s (nNat at_) (nLen s))),.int .i64 at_]]))) (.tok 1)],[.str s]] [(0,0,1),(nXs (xApp r2 [[.int .i64 (qc2 (sSub s (nNat at_) (nLen s))),.str (qbs (sSub s (nNat at_) (nLen s))),.int .i64 (qcs (sSub s (nNat at_) (nLen s))),.int .i64 (qct (sSub s (nNat at_) (nLen s))),.str (qcr (sSub s (nNat at_) (nLen s))),.int .i64 at_]]),6,120)] [75,3,38,75,9]))) (.ite (bNot (qhE (sSub s (nNat at_) (nLen s)))) (.ret (.out .ret [] (Store.mk [[.sl (qaD 5 (qaD 6 r)) .full],[.int .i64 n],[.int .i64 n2],[.sl (qaD 5 (qaD 6 (xApp r2 [[.int .i64 (qc2 (sSub s (nNat at_) (nLen s))),.str (qbs (sSub s (nNat at_) (nLen s))),.int .i64 (qcs (sSub s (nNat at_) (nLen s))),.int .i64 (qct (sSub s (nNat at_) (nLen s))),.str (qcr (sSub s (nNat at_) (nLen s))),.int .i64 at_]]))) (.tok 1)],[.str s]] [(0,0,1),(nXs (xApp r2 [[.int .i64 (qc2 (sSub s (nNat at_) (nLen s))),.str (qbs (sSub s (nNat at_) (nLen s))),.int .i64 (qcs (sSub s (nNat at_) (nLen s))),.int .i64 (qct (sSub s (nNat at_) (nLen s))),.str (qcr (sSub s (nNat at_) (nLen s))),.int .i64 at_]]),6,120)] [75,3,38,75,9]))) (.ite (qaQ (qav (iAdd .i64 at_ (sLen (qbs (sSub s (nNat at_) (nLen s)))))) true (nNat (iAdd .i64 at_ (sLen (qbs (sSub s (nNat at_) (nLen s)))))) (nLen s) (nLen s)) (.ite (qgR (sSub s (nNat (iAdd .i64 at_ (sLen (qbs (sSub s (nNat at_) (nLen s)))))) (nLen s))) (.ret (.next [.yld 0,.ptr 4 0,.int .i64 (iAdd .i64 (iAdd .i64 at_ (sLen (qbs (sSub s (nNat at_) (nLen s)))))
 (qbn (sSub s (nNat (iAdd .i64 at_ (sLen (qbs (sSub s (nNat at_) (nLen s)))))) (nLen s))))] (Store.mk [[.sl (qaD 5 (qaD 6 r)) .full],[.int .i64 n],[.int .i64 n2],[.sl (qaD 5 (qaD 6 (xApp r2 [[.int .i64 (qc2 (sSub s (nNat at_) (nLen s))),.str (qbs (sSub s (nNat at_) (nLen s))),.int .i64 (qcs (sSub s (nNat at_) (nLen s))),.int .i64 (qct (sSub s (nNat at_) (nLen s))),.str (qcr (sSub s (nNat at_) (nLen s))),.int .i64 at_]]))) (.tok 1)],[.str s]] [(0,0,1),(nXs (xApp r2 [[.int .i64 (qc2 (sSub s (nNat at_) (nLen s))),.str (qbs (sSub s (nNat at_) (nLen s))),.int .i64 (qcs (sSub s (nNat at_) (nLen s))),.int .i64 (qct (sSub s (nNat at_) (nLen s))),.str (qcr (sSub s (nNat at_) (nLen s))),.int .i64 at_]]),6,120)] [75,3,38,75,9]))) .fail) .fail))) .fail) .fail) .fail)) .fail) .fail) .fail) (.ret (.out (.exit 0) [] (Store.mk [[.sl r .full],[.int .i64 n],[.int .i64 n2],[.sl r2 .full],[.str s]] [(0,0,1)] [75,3,38,75,9])))
theorem qTj (at_:Int) (r:qR) (n:Int) (n2:Int) (r2:qR) (s:qU):lstep tbT qGg qx8 qz7 qA6 [.yld 0,.ptr 4 0,.int .i64 at_] ⟨[[.sl r .full],[.int .i64 n],[.int .i64 n2],[.sl r2 .full],[.str s]],[(0,0,1)],[75,3,38,75,9]⟩=qtb at_ r n n2 r2 s:=by kernel_rfl
theorem qJA (at_:Int) (r:qR) (n:Int) (n2:Int) (r2:qR) (s:qU):qhs [.yld 0,.ptr 4 0,.int .i64 at_] ⟨[[.sl r .full],[.int .i64 n],[.int .i64 n2],[.sl r2 .full],[.str s]],[(0,0,1)],[75,3,38,75,9]⟩=lnext qhs (qtb at_ r n n2 r2 s).run:=by unfold qhs;rw [qbu,qTj]
def qo6 (at_:Int) (r:qR) (n:Int) (n2:Int) (r2:qR) (s:qU) (k:Nat):Tr LR:=.ite (iLt at_ (sLen s)) (.ite (qaQ (qav at_) true (nNat at_) (nLen s) (nLen s)) (.ite (qkS (sSub s (nNat at_) (nLen s))) (.ite (nEq 0 0) (.ite (bNot (qhE (sSub s (nNat at_) (nLen s)))) (.ite true (.ret (.out .ret [] (Store.mk [[.sl (qaD 5 (qaD 6 [])) .full],[.int .i64 at_],[.int .i64 120],[.sl (qaD 5 (qaD 6 r2)) (.tok 1)],[.str s]] [(2,0,1),(k,6,120)] [75,3,38,75,9]))) (.ite (bNot (qhE (sSub s (nNat at_) (nLen s)))) (.ret (.out .ret [] (Store.mk [[.sl (qaD 5 (qaD 6 [])) .full],[.int .i64 at_],[.int .i64 120],[.sl (qaD 5 (qaD 6 r2)) (.tok 1)],[.str s]] [(2,0,1),(k,6,120)] [75,3,38,75,9]))) (.ite (qaQ (qav (iAdd .i64 at_ (sLen (qbs (sSub s (nNat at_) (nLen s)))))) true (nNat (iAdd .i64 at_ (sLen (qbs (sSub s (nNat at_) (nLen s)))))) (nLen s) (nLen s)) (.ite (qgR (sSub s (nNat (iAdd .i64 at_ (sLen (qbs (sSub s (nNat at_) (nLen s)))))) (nLen s))) (.ret (.next [.yld 0,.ptr 4 0,.int .i64 (iAdd .i64 (iAdd .i64 at_ (sLen (qbs (sSub s (nNat at_) (nLen s))))) (qbn (sSub s (nNat (iAdd .i64 at_ (sLen (qbs (sSub s (nNat at_) (nLen s)))))) (nLen s))))] (Store.mk [[.sl (qaD 5 (qaD 6 [])) .full],[.int .i64 at_],[.int .i64 120],[.sl (qaD 5 (qaD 6 r2)) (.tok 1)],[.str s]] [(2,0,1),(k,6,120)] [75,3,38,75,9]))) .fail) .fail))) (.ite (qaI r2 [[.int .i64 (qc2 (sSub s (nNat at_) (nLen s))),.str (qbs (sSub s (nNat at_) (nLen s))),.int .i64 (qcs (sSub s (nNat at_) (nLen s))),.int .i64 (qct (sSub s (nNat at_) (nLen s))),.str (qcr (sSub s (nNat at_) (nLen s))),.int .i64 at_]] 64) (.ite (qaH [[.int .i64 (qc2 (sSub s (nNat at_) (nLen s))),.str (qbs (sSub s (nNat at_) (nLen s))),.int .i64 (qcs (sSub s (nNat at_) (nLen s))),.int .i64 (qct (sSub s (nNat at_) (nLen s))),
 .str (qcr (sSub s (nNat at_) (nLen s))),.int .i64 at_]] 6) (.ite (qaB r2 6) (.ite (nEq k (nXs r2)) (.ite false (.ret (.out .ret [] (Store.mk [[.sl (qaD 5 (qaD 6 r)) .full],[.int .i64 n],[.int .i64 n2],[.sl (qaD 5 (qaD 6 (xApp r2 [[.int .i64 (qc2 (sSub s (nNat at_) (nLen s))),.str (qbs (sSub s (nNat at_) (nLen s))),.int .i64 (qcs (sSub s (nNat at_) (nLen s))),.int .i64 (qct (sSub s (nNat at_) (nLen s))),.str (qcr (sSub s (nNat at_) (nLen s))),.int .i64 at_]]))) (.tok 1)],[.str s]] [(0,0,1),(nXs (xApp r2 [[.int .i64 (qc2 (sSub s (nNat at_) (nLen s))),.str (qbs (sSub s (nNat at_) (nLen s))),.int .i64 (qcs (sSub s (nNat at_) (nLen s))),.int .i64 (qct (sSub s (nNat at_) (nLen s))),.str (qcr (sSub s (nNat at_) (nLen s))),.int .i64 at_]]),6,120)] [75,3,38,75,9]))) (.ite (bNot (qhE (sSub s (nNat at_) (nLen s)))) (.ret (.out .ret [] (Store.mk [[.sl (qaD 5 (qaD 6 r)) .full],[.int .i64 n],[.int .i64 n2],[.sl (qaD 5 (qaD 6 (xApp r2 [[.int .i64 (qc2 (sSub s (nNat at_) (nLen s))),.str (qbs (sSub s (nNat at_) (nLen s))),.int .i64 (qcs (sSub s (nNat at_) (nLen s))),.int .i64 (qct (sSub s (nNat at_) (nLen s))),.str (qcr (sSub s (nNat at_) (nLen s))),.int .i64 at_]]))) (.tok 1)],[.str s]] [(0,0,1),(nXs (xApp r2 [[.int .i64 (qc2 (sSub s (nNat at_) (nLen s))),.str (qbs (sSub s (nNat at_) (nLen s))),.int .i64 (qcs (sSub s (nNat at_) (nLen s))),.int .i64 (qct (sSub s (nNat at_) (nLen s))),.str (qcr (sSub s (nNat at_) (nLen s))),.int .i64 at_]]),6,120)] [75,3,38,75,9]))) (.ite (qaQ (qav (iAdd .i64 at_ (sLen (qbs (sSub s (nNat at_) (nLen s)))))) true (nNat (iAdd .i64 at_ (sLen (qbs (sSub s (nNat at_) (nLen s)))))) (nLen s) (nLen s)) (.ite (qgR (sSub s (nNat (iAdd .i64 at_ (sLen (qbs (sSub s (nNat at_) (nLen s)))))) (nLen s))) (.ret (.next [.yld 0,.ptr 4 0,.int .i64
 (iAdd .i64 (iAdd .i64 at_ (sLen (qbs (sSub s (nNat at_) (nLen s))))) (qbn (sSub s (nNat (iAdd .i64 at_ (sLen (qbs (sSub s (nNat at_) (nLen s)))))) (nLen s))))] (Store.mk [[.sl (qaD 5 (qaD 6 r)) .full],[.int .i64 n],[.int .i64 n2],[.sl (qaD 5 (qaD 6 (xApp r2 [[.int .i64 (qc2 (sSub s (nNat at_) (nLen s))),.str (qbs (sSub s (nNat at_) (nLen s))),.int .i64 (qcs (sSub s (nNat at_) (nLen s))),.int .i64 (qct (sSub s (nNat at_) (nLen s))),.str (qcr (sSub s (nNat at_) (nLen s))),.int .i64 at_]]))) (.tok 1)],[.str s]] [(0,0,1),(nXs (xApp r2 [[.int .i64 (qc2 (sSub s (nNat at_) (nLen s))),.str (qbs (sSub s (nNat at_) (nLen s))),.int .i64 (qcs (sSub s (nNat at_) (nLen s))),.int .i64 (qct (sSub s (nNat at_) (nLen s))),.str (qcr (sSub s (nNat at_) (nLen s))),.int .i64 at_]]),6,120)] [75,3,38,75,9]))) .fail) .fail))) .fail) .fail) .fail) .fail)) .fail) .fail) .fail) (.ret (.out (.exit 0) [] (Store.mk [[.sl r .full],[.int .i64 n],[.int .i64 n2],[.sl r2 (.tok 1)],[.str s]] [(0,0,1),(k,6,120)] [75,3,38,75,9])))
theorem qR4 (at_:Int) (r:qR) (n:Int) (n2:Int) (r2:qR) (s:qU) (k:Nat):lstep tbT qGg qx8 qz7 qA6 [.yld 0,.ptr 4 0,.int .i64 at_] ⟨[[.sl r .full],[.int .i64 n],[.int .i64 n2],[.sl r2 (.tok 1)],[.str s]],[(0,0,1),(k,6,120)],[75,3,38,75,9]⟩=qo6 at_ r n n2 r2 s k:=by kernel_rfl
theorem qBQ (at_:Int) (r:qR) (n:Int) (n2:Int) (r2:qR) (s:qU) (k:Nat):qhs [.yld 0,.ptr 4 0,.int .i64 at_] ⟨[[.sl r .full],[.int .i64 n],[.int .i64 n2],[.sl r2 (.tok 1)],[.str s]],[(0,0,1),(k,6,120)],[75,3,38,75,9]⟩=lnext qhs (qo6 at_ r n n2 r2 s k).run:=by unfold qhs;rw [qbu,qR4]
def qbH (at_:Int) (r:qR) (n:Int) (n2:Int) (r2:qR) (s:qU):Option (PExit×List PV×Store):=qhs [.yld 0,.ptr 4 0,.int .i64 at_] ⟨[[.sl r .full],[.int .i64 n],[.int .i64 n2],[.sl r2 .full],[.str s]],[(0,0,1)],[75,3,38,75,9]⟩
def qjG (at_:Int) (r:qR) (n:Int) (n2:Int) (r2:qR) (s:qU):List (List PV):=(gRow (gAt (gObj (qbH at_ r n n2 r2 s) 0) 0))
def qjd (at_:Int) (r:qR) (n:Int) (n2:Int) (r2:qR) (s:qU):Int:=(gInt (gAt (gObj (qbH at_ r n n2 r2 s) 1) 0))
def qhP (at_:Int) (r:qR) (n:Int) (n2:Int) (r2:qR) (s:qU):Int:=(gInt (gAt (gObj (qbH at_ r n n2 r2 s) 2) 0))
def qhK (at_:Int) (r:qR) (n:Int) (n2:Int) (r2:qR) (s:qU):List (List PV):=(gRow (gAt (gObj (qbH at_ r n n2 r2 s) 3) 0))
def qjY (at_:Int) (r:qR) (n:Int) (n2:Int) (r2:qR) (s:qU):List UInt8:=(gStr (gAt (gObj (qbH at_ r n n2 r2 s) 4) 0))
def ql9 (at_:Int) (r:qR) (n:Int) (n2:Int) (r2:qR) (s:qU):Bool:=isW (qbH at_ r n n2 r2 s) (.ret,[],⟨[[.sl (qjG at_ r n n2 r2 s) .full],[.int .i64 (qjd at_ r n n2 r2 s)],[.int .i64 (qhP at_ r n n2 r2 s)],[.sl (qhK at_ r n n2 r2 s) .full],[.str (qjY at_ r n n2 r2 s)]],[(2,0,1)],[75,3,38,75,9]⟩)
def qkC (at_:Int) (r:qR) (n:Int) (n2:Int) (r2:qR) (s:qU):List (List PV):=(gRow (gAt (gObj (qbH at_ r n n2 r2 s) 0) 0))
def qjI (at_:Int) (r:qR) (n:Int) (n2:Int) (r2:qR) (s:qU):Int:=(gInt (gAt (gObj (qbH at_ r n n2 r2 s) 1) 0))
def qhG (at_:Int) (r:qR) (n:Int) (n2:Int) (r2:qR) (s:qU):Int:=(gInt (gAt (gObj (qbH at_ r n n2 r2 s) 2) 0))
def qhw (at_:Int) (r:qR) (n:Int) (n2:Int) (r2:qR) (s:qU):List (List PV):=(gRow (gAt (gObj (qbH at_ r n n2 r2 s) 3) 0))
def qjp (at_:Int) (r:qR) (n:Int) (n2:Int) (r2:qR) (s:qU):List UInt8:=(gStr (gAt (gObj (qbH at_ r n n2 r2 s) 4) 0))
def qjL (at_:Int) (r:qR) (n:Int) (n2:Int) (r2:qR) (s:qU):Nat:=(gTok (qbH at_ r n n2 r2 s) 1)
def qmQ (at_:Int) (r:qR) (n:Int) (n2:Int) (r2:qR) (s:qU):Bool:=isW (qbH at_ r n n2 r2 s) (.ret,[],⟨[[.sl (qkC at_ r n n2 r2 s) .full],[.int .i64 (qjI at_ r n n2 r2 s)],[.int .i64 (qhG at_ r n n2 r2 s)],[.sl (qhw at_ r n n2 r2 s) (.tok 1)],[.str (qjp at_ r n n2 r2 s)]],[(0,0,1),((qjL at_ r n n2 r2 s),6,120)],[75,3,38,75,9]⟩)
def qkA (at_:Int) (r:qR) (n:Int) (n2:Int) (r2:qR) (s:qU):List (List PV):=(gRow (gAt (gObj (qbH at_ r n n2 r2 s) 0) 0))
def qjz (at_:Int) (r:qR) (n:Int) (n2:Int) (r2:qR) (s:qU):Int:=(gInt (gAt (gObj (qbH at_ r n n2 r2 s) 1) 0))
def qhp (at_:Int) (r:qR) (n:Int) (n2:Int) (r2:qR) (s:qU):Int:=(gInt (gAt (gObj (qbH at_ r n n2 r2 s) 2) 0))
def qhx (at_:Int) (r:qR) (n:Int) (n2:Int) (r2:qR) (s:qU):List (List PV):=(gRow (gAt (gObj (qbH at_ r n n2 r2 s) 3) 0))
def qjv (at_:Int) (r:qR) (n:Int) (n2:Int) (r2:qR) (s:qU):List UInt8:=(gStr (gAt (gObj (qbH at_ r n n2 r2 s) 4) 0))
def qmF (at_:Int) (r:qR) (n:Int) (n2:Int) (r2:qR) (s:qU):Bool:=isW (qbH at_ r n n2 r2 s) ((.exit 0),[],⟨[[.sl (qkA at_ r n n2 r2 s) .full],[.int .i64 (qjz at_ r n n2 r2 s)],[.int .i64 (qhp at_ r n n2 r2 s)],[.sl (qhx at_ r n n2 r2 s) .full],[.str (qjv at_ r n n2 r2 s)]],[(0,0,1)],[75,3,38,75,9]⟩)
def qjX (at_:Int) (r:qR) (n:Int) (n2:Int) (r2:qR) (s:qU):List (List PV):=(gRow (gAt (gObj (qbH at_ r n n2 r2 s) 0) 0))
def qjt (at_:Int) (r:qR) (n:Int) (n2:Int) (r2:qR) (s:qU):Int:=(gInt (gAt (gObj (qbH at_ r n n2 r2 s) 1) 0))
def qhD (at_:Int) (r:qR) (n:Int) (n2:Int) (r2:qR) (s:qU):Int:=(gInt (gAt (gObj (qbH at_ r n n2 r2 s) 2) 0))
def qhr (at_:Int) (r:qR) (n:Int) (n2:Int) (r2:qR) (s:qU):List (List PV):=(gRow (gAt (gObj (qbH at_ r n n2 r2 s) 3) 0))
def qkB (at_:Int) (r:qR) (n:Int) (n2:Int) (r2:qR) (s:qU):List UInt8:=(gStr (gAt (gObj (qbH at_ r n n2 r2 s) 4) 0))
def qmO (at_:Int) (r:qR) (n:Int) (n2:Int) (r2:qR) (s:qU):Bool:=isW (qbH at_ r n n2 r2 s) ((.exit 0),[],⟨[[.sl (qjX at_ r n n2 r2 s) .full],[.int .i64 (qjt at_ r n n2 r2 s)],[.int .i64 (qhD at_ r n n2 r2 s)],[.sl (qhr at_ r n n2 r2 s) .full],[.str (qkB at_ r n n2 r2 s)]],[(2,0,1)],[75,3,38,75,9]⟩)
def qjQ (at_:Int) (r:qR) (n:Int) (n2:Int) (r2:qR) (s:qU):List (List PV):=(gRow (gAt (gObj (qbH at_ r n n2 r2 s) 0) 0))
def qjE (at_:Int) (r:qR) (n:Int) (n2:Int) (r2:qR) (s:qU):Int:=(gInt (gAt (gObj (qbH at_ r n n2 r2 s) 1) 0))
def qho (at_:Int) (r:qR) (n:Int) (n2:Int) (r2:qR) (s:qU):Int:=(gInt (gAt (gObj (qbH at_ r n n2 r2 s) 2) 0))
def qg9 (at_:Int) (r:qR) (n:Int) (n2:Int) (r2:qR) (s:qU):List (List PV):=(gRow (gAt (gObj (qbH at_ r n n2 r2 s) 3) 0))
def qkn (at_:Int) (r:qR) (n:Int) (n2:Int) (r2:qR) (s:qU):List UInt8:=(gStr (gAt (gObj (qbH at_ r n n2 r2 s) 4) 0))
def qks (at_:Int) (r:qR) (n:Int) (n2:Int) (r2:qR) (s:qU):Nat:=(gTok (qbH at_ r n n2 r2 s) 1)
def qmN (at_:Int) (r:qR) (n:Int) (n2:Int) (r2:qR) (s:qU):Bool:=isW (qbH at_ r n n2 r2 s) (.ret,[],⟨[[.sl (qjQ at_ r n n2 r2 s) .full],[.int .i64 (qjE at_ r n n2 r2 s)],[.int .i64 (qho at_ r n n2 r2 s)],[.sl (qg9 at_ r n n2 r2 s) (.tok 1)],[.str (qkn at_ r n n2 r2 s)]],[(2,0,1),((qks at_ r n n2 r2 s),6,120)],[75,3,38,75,9]⟩)
def qjf (at_:Int) (r:qR) (n:Int) (n2:Int) (r2:qR) (s:qU):List (List PV):=(gRow (gAt (gObj (qbH at_ r n n2 r2 s) 0) 0))
def qjR (at_:Int) (r:qR) (n:Int) (n2:Int) (r2:qR) (s:qU):Int:=(gInt (gAt (gObj (qbH at_ r n n2 r2 s) 1) 0))
def qhq (at_:Int) (r:qR) (n:Int) (n2:Int) (r2:qR) (s:qU):Int:=(gInt (gAt (gObj (qbH at_ r n n2 r2 s) 2) 0))
def qhe (at_:Int) (r:qR) (n:Int) (n2:Int) (r2:qR) (s:qU):List (List PV):=(gRow (gAt (gObj (qbH at_ r n n2 r2 s) 3) 0))
def qjs (at_:Int) (r:qR) (n:Int) (n2:Int) (r2:qR) (s:qU):List UInt8:=(gStr (gAt (gObj (qbH at_ r n n2 r2 s) 4) 0))
def qkq (at_:Int) (r:qR) (n:Int) (n2:Int) (r2:qR) (s:qU):Nat:=(gTok (qbH at_ r n n2 r2 s) 1)
def qma (at_:Int) (r:qR) (n:Int) (n2:Int) (r2:qR) (s:qU):Bool:=isW (qbH at_ r n n2 r2 s) ((.exit 0),[],⟨[[.sl (qjf at_ r n n2 r2 s) .full],[.int .i64 (qjR at_ r n n2 r2 s)],[.int .i64 (qhq at_ r n n2 r2 s)],[.sl (qhe at_ r n n2 r2 s) (.tok 1)],[.str (qjs at_ r n n2 r2 s)]],[(0,0,1),((qkq at_ r n n2 r2 s),6,120)],[75,3,38,75,9]⟩)
def qkw (at_:Int) (r:qR) (n:Int) (n2:Int) (r2:qR) (s:qU):List (List PV):=(gRow (gAt (gObj (qbH at_ r n n2 r2 s) 0) 0))
def qjx (at_:Int) (r:qR) (n:Int) (n2:Int) (r2:qR) (s:qU):Int:=(gInt (gAt (gObj (qbH at_ r n n2 r2 s) 1) 0))
def qhB (at_:Int) (r:qR) (n:Int) (n2:Int) (r2:qR) (s:qU):Int:=(gInt (gAt (gObj (qbH at_ r n n2 r2 s) 2) 0))
def qhd (at_:Int) (r:qR) (n:Int) (n2:Int) (r2:qR) (s:qU):List (List PV):=(gRow (gAt (gObj (qbH at_ r n n2 r2 s) 3) 0))
def qjU (at_:Int) (r:qR) (n:Int) (n2:Int) (r2:qR) (s:qU):List UInt8:=(gStr (gAt (gObj (qbH at_ r n n2 r2 s) 4) 0))
def qj9 (at_:Int) (r:qR) (n:Int) (n2:Int) (r2:qR) (s:qU):Nat:=(gTok (qbH at_ r n n2 r2 s) 1)
def qmo (at_:Int) (r:qR) (n:Int) (n2:Int) (r2:qR) (s:qU):Bool:=isW (qbH at_ r n n2 r2 s) ((.exit 0),[],⟨[[.sl (qkw at_ r n n2 r2 s) .full],[.int .i64 (qjx at_ r n n2 r2 s)],[.int .i64 (qhB at_ r n n2 r2 s)],[.sl (qhd at_ r n n2 r2 s) (.tok 1)],[.str (qjU at_ r n n2 r2 s)]],[(2,0,1),((qj9 at_ r n n2 r2 s),6,120)],[75,3,38,75,9]⟩)
def qoa:List PV→Store→Tr (PExit×List PV×Store)|[.yld 0,.ptr 4 0,.int .i64 at_],⟨[[.sl r .full],[.int .i64 n],[.int .i64 n2],[.sl r2 .full],[.str s]],[(0,0,1)],[75,3,38,75,9]⟩=>.ite (ql9 at_ r n n2 r2 s) (.ret (.ret,[],⟨[[.sl (qjG at_ r n n2 r2 s) .full],[.int .i64 (qjd at_ r n n2 r2 s)],[.int .i64 (qhP at_ r n n2 r2 s)],[.sl (qhK at_ r n n2 r2 s) .full],[.str (qjY at_ r n n2 r2 s)]],[(2,0,1)],[75,3,38,75,9]⟩)) (.ite (qmQ at_ r n n2 r2 s) (.ret (.ret,[],⟨[[.sl (qkC at_ r n n2 r2 s) .full],[.int .i64 (qjI at_ r n n2 r2 s)],[.int .i64 (qhG at_ r n n2 r2 s)],[.sl (qhw at_ r n n2 r2 s) (.tok 1)],[.str (qjp at_ r n n2 r2 s)]],[(0,0,1),((qjL at_ r n n2 r2 s),6,120)],[75,3,38,75,9]⟩)) (.ite (qmF at_ r n n2 r2 s) (.ret ((.exit 0),[],⟨[[.sl (qkA at_ r n n2 r2 s) .full],[.int .i64 (qjz at_ r n n2 r2 s)],[.int .i64 (qhp at_ r n n2 r2 s)],[.sl (qhx at_ r n n2 r2 s) .full],[.str (qjv at_ r n n2 r2 s)]],[(0,0,1)],[75,3,38,75,9]⟩)) (.ite (qmO at_ r n n2 r2 s) (.ret ((.exit 0),[],⟨[[.sl (qjX at_ r n n2 r2 s) .full],[.int .i64 (qjt at_ r n n2 r2 s)],[.int .i64 (qhD at_ r n n2 r2 s)],[.sl (qhr at_ r n n2 r2 s) .full],[.str (qkB at_ r n n2 r2 s)]],[(2,0,1)],[75,3,38,75,9]⟩)) (.ite (qmN at_ r n n2 r2 s) (.ret (.ret,[],⟨[[.sl (qjQ at_ r n n2 r2 s) .full],[.int .i64 (qjE at_ r n n2 r2 s)],[.int .i64 (qho at_ r n n2 r2 s)],[.sl (qg9 at_ r n n2 r2 s) (.tok 1)],[.str (qkn at_ r n n2 r2 s)]],[(2,0,1),((qks at_ r n n2 r2 s),6,120)],[75,3,38,75,9]⟩)) (.ite (qma at_ r n n2 r2 s) (.ret ((.exit 0),[],⟨[[.sl (qjf at_ r n n2 r2 s) .full],[.int .i64 (qjR at_ r n n2 r2 s)],[.int .i64 (qhq at_ r n n2 r2 s)],[.sl (qhe at_ r n n2 r2 s) (.tok 1)],[.str (qjs at_ r n n2 r2 s)]],[(0,0,1),((qkq at_ r n n2 r2 s),6,120)],[75,3,38,75,9]⟩)) (.ite (qmo at_ r n n2 r2 s) (.ret ((.exit 0),[],⟨[[.sl (qkw at_ r n n2 r2 s) .full],[.int .i64 (qjx at_ r n n2 r2 s)],[.int .i64 (qhB at_ r n n2 r2 s)],[.sl (qhd at_ r n n2 r2 s) (.tok 1)],[.str (qjU at_ r n n2 r2 s)]],[(2,0,1),((qj9 at_ r n n2 r2 s),6,120)],[75,3,38,75,9]⟩)) (.fail)))))))|_,_=>.fail
theorem qQt:∀ vs σ r,(qoa vs σ).run=some r→qhs vs σ=some r:=by
 intro vs σ r h;unfold qoa at h
 split at h
 ·exact qai h fun h=>qai h fun h=>qai h fun h=>qai h fun h=>qai h fun h=>qai h fun h=>qai h fun h=>by cases h
 ·cases h
theorem qLa (gl:Gl) (hg:GlLex gl) (hy:qrb Tryz.prog gl qgF (.yld 1 fun t a σ=>(qtg t a σ).run)):∀ fr σ e fr' σ',(orc qA6 qoa fr σ).run=some (e,fr',σ')→LDoes Tryz.prog gl qz7 fr σ e fr' σ':=qck qat (qLL gl hg hy ) qah (L:=qx8) (qae (by kernel_rfl)) (by kernel_rfl) qQt
def qRW:LpsT:=fun r fr σ=>bif Nat.beq r 1 then orc qA6 qoa fr σ else .fail
def qKl (r:qR) (n:Int) (n2:Int) (r2:qR) (s:qU):Tr (PV×Store):=.ite (qgR s) (.ite (ql9 (qbn s) r n n2 r2 s) (.ret (.tup [],Store.mk [[.sl (qjG (qbn s) r n n2 r2 s) .full],[.int .i64 (qjd (qbn s) r n n2 r2 s)],[.int .i64 (qhP (qbn s) r n n2 r2 s)],[.sl (qhK (qbn s) r n n2 r2 s) .full],[.str (qjY (qbn s) r n n2 r2 s)]] [(2,0,1)] [75,3,38,75,9])) (.ite (qmQ (qbn s) r n n2 r2 s) (.ret (.tup [],Store.mk [[.sl (qkC (qbn s) r n n2 r2 s) .full],[.int .i64 (qjI (qbn s) r n n2 r2 s)],[.int .i64 (qhG (qbn s) r n n2 r2 s)],[.sl (qhw (qbn s) r n n2 r2 s) (.tok 1)],[.str (qjp (qbn s) r n n2 r2 s)]] [(0,0,1),(qjL (qbn s) r n n2 r2 s,6,120)] [75,3,38,75,9])) (.ite (qmF (qbn s) r n n2 r2 s) (.ret (.tup [],Store.mk [[.sl (qkA (qbn s) r n n2 r2 s) .full],[.int .i64 (qjz (qbn s) r n n2 r2 s)],[.int .i64 (qhp (qbn s) r n n2 r2 s)],[.sl (qhx (qbn s) r n n2 r2 s) .full],[.str (qjv (qbn s) r n n2 r2 s)]] [(0,0,1)] [75,3,38,75,9])) (.ite (qmO (qbn s) r n n2 r2 s) (.ret (.tup [],Store.mk [[.sl (qjX (qbn s) r n n2 r2 s) .full],[.int .i64 (qjt (qbn s) r n n2 r2 s)],[.int .i64 (qhD (qbn s) r n n2 r2 s)],[.sl (qhr (qbn s) r n n2 r2 s) .full],[.str (qkB (qbn s) r n n2 r2 s)]] [(2,0,1)] [75,3,38,75,9])) (.ite (qmN (qbn s) r n n2 r2 s) (.ret (.tup [],Store.mk [[.sl (qjQ (qbn s) r n n2 r2 s) .full],[.int .i64 (qjE (qbn s) r n n2 r2 s)],[.int .i64 (qho (qbn s) r n n2 r2 s)],[.sl (qg9 (qbn s) r n n2 r2 s) (.tok 1)],[.str (qkn (qbn s) r n n2 r2 s)]] [(2,0,1),(qks (qbn s) r n n2 r2 s,6,120)] [75,3,38,75,9])) (.ite (qma (qbn s) r n n2 r2 s) (.ret (.tup [],Store.mk [[.sl (qjf (qbn s) r n n2 r2 s) .full],[.int .i64 (qjR (qbn s) r n n2 r2 s)],
 [.int .i64 (qhq (qbn s) r n n2 r2 s)],[.sl (qhe (qbn s) r n n2 r2 s) (.tok 1)],[.str (qjs (qbn s) r n n2 r2 s)]] [(0,0,1),(qkq (qbn s) r n n2 r2 s,6,120)] [75,3,38,75,9])) (.ite (qmo (qbn s) r n n2 r2 s) (.ret (.tup [],Store.mk [[.sl (qkw (qbn s) r n n2 r2 s) .full],[.int .i64 (qjx (qbn s) r n n2 r2 s)],[.int .i64 (qhB (qbn s) r n n2 r2 s)],[.sl (qhd (qbn s) r n n2 r2 s) (.tok 1)],[.str (qjU (qbn s) r n n2 r2 s)]] [(2,0,1),(qj9 (qbn s) r n n2 r2 s,6,120)] [75,3,38,75,9])) .fail))))))) .fail
theorem qUf (r:qR) (n:Int) (n2:Int) (r2:qR) (s:qU):(qpx tbT qGg qRW Tryz.f139 [.yld 0,.ptr 4 0] ⟨[[.sl r .full],[.int .i64 n],[.int .i64 n2],[.sl r2 .full],[.str s]],[(0,0,1)],[75,3,38,75,9]⟩).flat=qKl r n n2 r2 s:=by kernel_rfl
def qfH (r:qR) (n:Int) (n2:Int) (r2:qR) (s:qU):Option (PV×Store):=(qKl r n n2 r2 s).run
def qno (r:qR) (n:Int) (n2:Int) (r2:qR) (s:qU):List (List PV):=(gRow (gAt (gObj (qfG (qfH r n n2 r2 s)) 0) 0))
def qnQ (r:qR) (n:Int) (n2:Int) (r2:qR) (s:qU):Int:=(gInt (gAt (gObj (qfG (qfH r n n2 r2 s)) 1) 0))
def qjh (r:qR) (n:Int) (n2:Int) (r2:qR) (s:qU):Int:=(gInt (gAt (gObj (qfG (qfH r n n2 r2 s)) 2) 0))
def qlJ (r:qR) (n:Int) (n2:Int) (r2:qR) (s:qU):List (List PV):=(gRow (gAt (gObj (qfG (qfH r n n2 r2 s)) 3) 0))
def qqV (r:qR) (n:Int) (n2:Int) (r2:qR) (s:qU):List UInt8:=(gStr (gAt (gObj (qfG (qfH r n n2 r2 s)) 4) 0))
def qp4 (r:qR) (n:Int) (n2:Int) (r2:qR) (s:qU):Bool:=isW (qfH r n n2 r2 s) (.tup [],⟨[[.sl (qno r n n2 r2 s) .full],[.int .i64 (qnQ r n n2 r2 s)],[.int .i64 (qjh r n n2 r2 s)],[.sl (qlJ r n n2 r2 s) .full],[.str (qqV r n n2 r2 s)]],[(2,0,1)],[75,3,38,75,9]⟩)
def qqx (r:qR) (n:Int) (n2:Int) (r2:qR) (s:qU):List (List PV):=(gRow (gAt (gObj (qfG (qfH r n n2 r2 s)) 0) 0))
def qqY (r:qR) (n:Int) (n2:Int) (r2:qR) (s:qU):Int:=(gInt (gAt (gObj (qfG (qfH r n n2 r2 s)) 1) 0))
def ql0 (r:qR) (n:Int) (n2:Int) (r2:qR) (s:qU):Int:=(gInt (gAt (gObj (qfG (qfH r n n2 r2 s)) 2) 0))
def qj3 (r:qR) (n:Int) (n2:Int) (r2:qR) (s:qU):List (List PV):=(gRow (gAt (gObj (qfG (qfH r n n2 r2 s)) 3) 0))
def qqq (r:qR) (n:Int) (n2:Int) (r2:qR) (s:qU):List UInt8:=(gStr (gAt (gObj (qfG (qfH r n n2 r2 s)) 4) 0))
def qpL (r:qR) (n:Int) (n2:Int) (r2:qR) (s:qU):Nat:=(gTok (qfG (qfH r n n2 r2 s)) 1)
def qqv (r:qR) (n:Int) (n2:Int) (r2:qR) (s:qU):Bool:=isW (qfH r n n2 r2 s) (.tup [],⟨[[.sl (qqx r n n2 r2 s) .full],[.int .i64 (qqY r n n2 r2 s)],[.int .i64 (ql0 r n n2 r2 s)],[.sl (qj3 r n n2 r2 s) (.tok 1)],[.str (qqq r n n2 r2 s)]],[(0,0,1),((qpL r n n2 r2 s),6,120)],[75,3,38,75,9]⟩)
def qqf (r:qR) (n:Int) (n2:Int) (r2:qR) (s:qU):List (List PV):=(gRow (gAt (gObj (qfG (qfH r n n2 r2 s)) 0) 0))
def qpQ (r:qR) (n:Int) (n2:Int) (r2:qR) (s:qU):Int:=(gInt (gAt (gObj (qfG (qfH r n n2 r2 s)) 1) 0))
def qmd (r:qR) (n:Int) (n2:Int) (r2:qR) (s:qU):Int:=(gInt (gAt (gObj (qfG (qfH r n n2 r2 s)) 2) 0))
def qkt (r:qR) (n:Int) (n2:Int) (r2:qR) (s:qU):List (List PV):=(gRow (gAt (gObj (qfG (qfH r n n2 r2 s)) 3) 0))
def qqF (r:qR) (n:Int) (n2:Int) (r2:qR) (s:qU):List UInt8:=(gStr (gAt (gObj (qfG (qfH r n n2 r2 s)) 4) 0))
def qq2 (r:qR) (n:Int) (n2:Int) (r2:qR) (s:qU):Bool:=isW (qfH r n n2 r2 s) (.tup [],⟨[[.sl (qqf r n n2 r2 s) .full],[.int .i64 (qpQ r n n2 r2 s)],[.int .i64 (qmd r n n2 r2 s)],[.sl (qkt r n n2 r2 s) .full],[.str (qqF r n n2 r2 s)]],[(0,0,1)],[75,3,38,75,9]⟩)
def qn6 (r:qR) (n:Int) (n2:Int) (r2:qR) (s:qU):List (List PV):=(gRow (gAt (gObj (qfG (qfH r n n2 r2 s)) 0) 0))
def qnz (r:qR) (n:Int) (n2:Int) (r2:qR) (s:qU):Int:=(gInt (gAt (gObj (qfG (qfH r n n2 r2 s)) 1) 0))
def qj6 (r:qR) (n:Int) (n2:Int) (r2:qR) (s:qU):Int:=(gInt (gAt (gObj (qfG (qfH r n n2 r2 s)) 2) 0))
def ql2 (r:qR) (n:Int) (n2:Int) (r2:qR) (s:qU):List (List PV):=(gRow (gAt (gObj (qfG (qfH r n n2 r2 s)) 3) 0))
def qp2 (r:qR) (n:Int) (n2:Int) (r2:qR) (s:qU):List UInt8:=(gStr (gAt (gObj (qfG (qfH r n n2 r2 s)) 4) 0))
def qp7 (r:qR) (n:Int) (n2:Int) (r2:qR) (s:qU):Nat:=(gTok (qfG (qfH r n n2 r2 s)) 1)
def qqW (r:qR) (n:Int) (n2:Int) (r2:qR) (s:qU):Bool:=isW (qfH r n n2 r2 s) (.tup [],⟨[[.sl (qn6 r n n2 r2 s) .full],[.int .i64 (qnz r n n2 r2 s)],[.int .i64 (qj6 r n n2 r2 s)],[.sl (ql2 r n n2 r2 s) (.tok 1)],[.str (qp2 r n n2 r2 s)]],[(2,0,1),((qp7 r n n2 r2 s),6,120)],[75,3,38,75,9]⟩)
def qN8:List PV→Store→Tr (PV×Store)|[.yld 0,.ptr 4 0],⟨[[.sl r .full],[.int .i64 n],[.int .i64 n2],[.sl r2 .full],[.str s]],[(0,0,1)],[75,3,38,75,9]⟩=>.ite (qp4 r n n2 r2 s) (.ret (.tup [],⟨[[.sl (qno r n n2 r2 s) .full],[.int .i64 (qnQ r n n2 r2 s)],[.int .i64 (qjh r n n2 r2 s)],[.sl (qlJ r n n2 r2 s) .full],[.str (qqV r n n2 r2 s)]],[(2,0,1)],[75,3,38,75,9]⟩)) (.ite (qqv r n n2 r2 s) (.ret (.tup [],⟨[[.sl (qqx r n n2 r2 s) .full],[.int .i64 (qqY r n n2 r2 s)],[.int .i64 (ql0 r n n2 r2 s)],[.sl (qj3 r n n2 r2 s) (.tok 1)],[.str (qqq r n n2 r2 s)]],[(0,0,1),((qpL r n n2 r2 s),6,120)],[75,3,38,75,9]⟩)) (.ite (qq2 r n n2 r2 s) (.ret (.tup [],⟨[[.sl (qqf r n n2 r2 s) .full],[.int .i64 (qpQ r n n2 r2 s)],[.int .i64 (qmd r n n2 r2 s)],[.sl (qkt r n n2 r2 s) .full],[.str (qqF r n n2 r2 s)]],[(0,0,1)],[75,3,38,75,9]⟩)) (.ite (qqW r n n2 r2 s) (.ret (.tup [],⟨[[.sl (qn6 r n n2 r2 s) .full],[.int .i64 (qnz r n n2 r2 s)],[.int .i64 (qj6 r n n2 r2 s)],[.sl (ql2 r n n2 r2 s) (.tok 1)],[.str (qp2 r n n2 r2 s)]],[(2,0,1),((qp7 r n n2 r2 s),6,120)],[75,3,38,75,9]⟩)) (.fail))))|_,_=>.fail
theorem qQs (gl:Gl) (hg:GlLex gl) (hy:qrb Tryz.prog gl qgF (.yld 1 fun t a σ=>(qtg t a σ).run)):SimS Tryz.prog gl 139 fun args σ=>(qN8 args σ).run:=by
 refine SimS.of_flat (G:=qGg) (L:=qRW) qat (qLL gl hg hy ) qah Tryz.func139 rfl (by rfl) (by kernel_rfl) (qaX (L:=lps qRW) [(1,qz7)] (by kernel_rfl) (List.forall_mem_cons.2 ⟨fun fr σ e fr' σ' h=>qLa gl hg hy  fr σ e fr' σ' h,(List.forall_mem_nil _)⟩)) ?_
 intro args σ x h;unfold qN8 at h
 split at h
 ·exact (congrArg Tr.run (qUf _ _ _ _ _)).trans (qai h fun h=>qai h fun h=>qai h fun h=>qai h fun h=>by cases h)
 ·cases h
end Go.Pv
set_option maxHeartbeats 4000000
set_option maxRecDepth 200000
set_option linter.unusedSimpArgs false
set_option linter.unusedVariables false
namespace Go.Pv
open Go Go.Proofs Go.RowKit
theorem qBA (gl:Gl) (hg:GlLex gl):∀ fr σ e fr' σ',(rorc qx6 (rngG qmG) 139 qN8 fr σ).run=some (e,fr',σ')→Does Tryz.prog gl (rngO qmG) fr σ e fr' σ' :=
 qQa (G:=ofL []) (L:=fun _ _ _=>.fail) qat (fun _ _=>qag) qah (fun _ _=>qae (by kernel_rfl)) (fun _ _=>qae (by kernel_rfl)) (by kernel_rfl) (by kernel_rfl) (by kernel_rfl)
  ⟨Tryz.f139,Tryz.func139,by rfl,by rfl⟩ (fun gl' hv hy=>qQs gl' (hg.of_v hv) hy)
end Go.Pv
set_option maxHeartbeats 4000000
set_option maxRecDepth 200000
set_option linter.unusedSimpArgs false
set_option linter.unusedVariables false
namespace Go.Pv
open Go Go.Proofs
def qxr:GamT:=ofL []
theorem qGI (gl:Gl):qaU Tryz.prog gl (gam qxr):=qag
def qEC:LpsT:=fun r fr σ=>.fail
def qua (s:qU):Tr (PV×Store):=.ret (.fn 139 [.ptr 4 0],Store.mk [[.sl [] .full],[.int .i64 0],[.int .i64 0],[.sl [] .full],[.str s]] [] [75,3,38,75,9])
theorem qNV (s:qU):(qpx tbT qxr qEC Tryz.f120 [.str s] ⟨[[.sl [] .full],[.int .i64 0],[.int .i64 0],[.sl [] .full]],[],[75,3,38,75]⟩).flat=qua s:=by kernel_rfl
def qil (s:qU):Option (PV×Store):=(qua s).run
def qcU (s:qU):List (List PV):=(gRow (gAt (gObj (qfG (qil s)) 0) 0))
def qcX (s:qU):Int:=(gInt (gAt (gObj (qfG (qil s)) 1) 0))
def qcv (s:qU):Int:=(gInt (gAt (gObj (qfG (qil s)) 2) 0))
def qcw (s:qU):List (List PV):=(gRow (gAt (gObj (qfG (qil s)) 3) 0))
def qcT (s:qU):List UInt8:=(gStr (gAt (gObj (qfG (qil s)) 4) 0))
def qlH (s:qU):Bool:=isW (qil s) (.fn 139 [.ptr 4 0],⟨[[.sl (qcU s) .full],[.int .i64 (qcX s)],[.int .i64 (qcv s)],[.sl (qcw s) .full],[.str (qcT s)]],[],[75,3,38,75,9]⟩)
def qxB:List PV→Store→Tr (PV×Store)|[.str s],⟨[[.sl [] .full],[.int .i64 0],[.int .i64 0],[.sl [] .full]],[],[75,3,38,75]⟩=>.ite (qlH s) (.ret (.fn 139 [.ptr 4 0],⟨[[.sl (qcU s) .full],[.int .i64 (qcX s)],[.int .i64 (qcv s)],[.sl (qcw s) .full],[.str (qcT s)]],[],[75,3,38,75,9]⟩)) (.fail)|_,_=>.fail
theorem qGx (gl:Gl):SimS Tryz.prog gl 120 fun args σ=>(qxB args σ).run:=by
 refine SimS.of_flat (G:=qxr) (L:=qEC) qat (qGI gl ) qah Tryz.func120 rfl (by rfl) (by kernel_rfl) (qae (by kernel_rfl)) ?_
 intro args σ x h;unfold qxB at h
 split at h
 ·exact (congrArg Tr.run (qNV _)).trans (qai h fun h=>by cases h)
 ·cases h
def qx0:GamT:=ofL [(120,.store qxB),(qDa+0,.glob qIH)]
theorem qGQ (gl:Gl) (hg:GlLex gl):qaU Tryz.prog gl (gam qx0):=(qgb (qGx gl) (qbv (K:=.glob qIH) (qEw hg) qag))
def qyW:LpsT:=fun r fr σ=>if r=500007 then rorc qx6 (rngG qmG) 139 qN8 fr σ else .fail
def qtX (s:qU):Tr PV:=.ite (iLt 65536 (sLen s)) (.ret (.tup [.sl [] .non,.int .i64 0,.int .i64 2])) (.ite (qlH s) (.ite (qp4 (qcU s) (qcX s) (qcv s) (qcw s) (qcT s)) (.ret (.tup [.sl (qcq (qeI 0 (qno (qcU s) (qcX s) (qcv s) (qcw s) (qcT s)))) .non,.int .i64 (qnQ (qcU s) (qcX s) (qcv s) (qcw s) (qcT s)),.int .i64 (qjh (qcU s) (qcX s) (qcv s) (qcw s) (qcT s))])) (.ite (qqv (qcU s) (qcX s) (qcv s) (qcw s) (qcT s)) (.ret (.tup [.sl (qcq (qeI 0 (qj3 (qcU s) (qcX s) (qcv s) (qcw s) (qcT s)))) .non,.int .i64 0,.int .i64 0])) (.ite (qq2 (qcU s) (qcX s) (qcv s) (qcw s) (qcT s)) (.ret (.tup [.sl (qcq (qeI 0 (qkt (qcU s) (qcX s) (qcv s) (qcw s) (qcT s)))) .non,.int .i64 0,.int .i64 0])) (.ite (qqW (qcU s) (qcX s) (qcv s) (qcw s) (qcT s)) (.ret (.tup [.sl (qcq (qeI 0 (qn6 (qcU s) (qcX s) (qcv s) (qcw s) (qcT s)))) .non,.int .i64 (qnz (qcU s) (qcX s) (qcv s) (qcw s) (qcT s)),.int .i64 (qj6 (qcU s) (qcX s) (qcv s) (qcw s) (qcT s))])) .fail)))) .fail)
theorem qMG (s:qU):(tcall tbT qx0 qyW Tryz.f80 [.str s]).flat=qtX s:=by kernel_rfl
def qjZ (s:qU):Option PV:=(qtX s).run
def qgP (s:qU):List (List PV):=(gRow (gAt (gCs (gVal (qjZ s))) 0))
def qsS (s:qU):Int:=(gInt (gAt (gCs (gVal (qjZ s))) 1))
def qkY (s:qU):Int:=(gInt (gAt (gCs (gVal (qjZ s))) 2))
def qmr (s:qU):Bool:=isW (qjZ s) (.tup [.sl (qgP s) .non,.int .i64 (qsS s),.int .i64 (qkY s)])
def qyB:List PV→Tr PV|[.str s]=>.ite (qmr s) (.ret (.tup [.sl (qgP s) .non,.int .i64 (qsS s),.int .i64 (qkY s)])) (.fail)|_=>.fail
theorem qHD (gl:Gl) (hg:GlLex gl):SimP Tryz.prog gl 80 fun args=>(qyB args).run:=by
 refine SimP.of_flat (G:=qx0) (L:=qyW) qat (qGQ gl hg ) qah  Tryz.func80 rfl (by rfl) (by kernel_rfl) (qxH (L:=lps qyW) [] [(500007,rngO qmG)] (by kernel_rfl) (by kernel_rfl) (List.forall_mem_nil _) (List.forall_mem_cons.2 ⟨fun fr σ e fr' σ' h=>qBA gl hg fr σ e fr' σ' h,(List.forall_mem_nil _)⟩)) ?_
 intro args x h;unfold qyB at h
 split at h
 ·exact (congrArg Tr.run (qMG _)).trans (qai h fun h=>by cases h)
 ·cases h
end Go.Pv
set_option maxHeartbeats 8000000
set_option maxRecDepth 200000
set_option linter.unusedSimpArgs false
set_option linter.unusedVariables false
namespace Go.Pv
open Go Go.Proofs Go.RowKit
theorem qHW {s:List UInt8} (hs:s.length≤140737488355328) (hne:s≠[]):∃ k x v,qcG s=some (wTup k x v 0 (wdL s).isSome)∧∀ k' m v',wdL s=some (k',m,v')→k'=k∧x=s.take m∧v'=v:=by
 obtain⟨c,t,rfl⟩:=List.exists_cons_of_ne_nil hne;have val:∀ (k:Int) (n:Nat),(valL k (c::t) n).isSome=decide (eRd ((c::t).take n)=0)∧∀ k' m v',valL k (c::t) n=some (k',m,v')→k'=k∧(c::t).take n=(c::t).take m∧v'=(kRd ((c::t).take n),nRd ((c::t).take n),sRd ((c::t).take n)):=fun k n=>by
  unfold valL eRd kRd nRd sRd;cases h:rdV ((c::t).take n) with
  |none=>simp
  |some v =>
   refine⟨by simp,fun k' m v' he=>?_⟩
   cases he
   exact⟨rfl,rfl,rfl⟩
 by_cases h1:qhI c=true
 ·have e:runL innB (c::t)=runL innB t+1:=by simp [runL,innB,h1]
  refine⟨1,(c::t).take (runL innB t+1),(0,0,[]),?_,fun k' m v' he=>?_⟩
  ·rw [qCQ hs h1,e]
   congr 2
   simp only [wdL,h1,if_true];by_cases hl:runL innB t+1≤64<;>simp [hl]
  ·simp only [wdL,h1,if_true] at he;split at he
   ·cases he;exact⟨rfl,rfl,rfl⟩
   ·cases he
 ·have h1':qhI c=false:=by simpa using h1
  by_cases h2:qlq c=true
  ·have e:runL innB (c::t)=runL innB t+1:=by simp [runL,innB,h2]
   refine⟨2,(c::t).take (runL innB t+1),(0,0,[]),?_,fun k' m v' he=>?_⟩
   ·rw [qBO hs h2,e]
    congr 2
    simp only [wdL,h1',h2,if_true,Bool.false_eq_true,if_false];by_cases hl:runL innB t+1≤64<;>simp [hl]
   ·simp only [wdL,h1',h2,if_true,Bool.false_eq_true,if_false] at he;split at he
    ·cases he;exact⟨rfl,rfl,rfl⟩
    ·cases he
  ·have h2':qlq c=false:=by simpa using h2
   by_cases h3:c.toNat=95
   ·have hc:c=95:=UInt8.toNat_inj.1 h3;refine⟨3,[95],(0,0,[]),?_,fun k' m v' he=>?_⟩
    ·rw [qJI hs h3]
     congr 2
     simp only [wdL,h1',h2',h3,if_true,Bool.false_eq_true,if_false];cases hdIs innB t<;>simp
    ·simp only [wdL,h1',h2',h3,if_true,Bool.false_eq_true,if_false] at he;split at he
     ·cases he
     ·cases he;exact⟨rfl,by rw [hc];simp,rfl⟩
   ·have dg:qcG (c::t)=some (dgW (c::t))→(qbf c || (decide (c.toNat=45)&&hdIs qbf t))=true→∃ k x v,qcG (c::t)=some (wTup k x v 0 (wdL (c::t)).isSome)∧∀ k' m v',wdL (c::t)=some (k',m,v')→k'=k∧x=(c::t).take m∧v'=v:=fun hw hd=>by
     have e:wdL (c::t)=valL 4 (c::t) (runL qbf t+1):=by simp only [wdL,h1',h2',h3,hd,if_true,Bool.false_eq_true,if_false]
     obtain⟨v1,v2⟩:=val 4 (runL qbf t+1);refine⟨4,(c::t).take (runL qbf t+1),(kRd ((c::t).take (runL qbf t+1)),nRd ((c::t).take (runL qbf t+1)),sRd ((c::t).take (runL qbf t+1))),?_,fun k' m v' he=>v2 k' m v' (by rw [← e];exact he)⟩
     rw [hw,e,v1];rfl
    by_cases h4:qbf c=true
    ·exact dg (qNH hs h4) (by simp [h4])
    ·have h4':qbf c=false:=by simpa using h4
     by_cases h5:c.toNat=45∧hdIs qbf t=true
     ·cases t with
      |nil=>simp [hdIs] at h5
      |cons d u=>exact dg (qLM hs h5.1 h5.2) (by simp [h5.1,h5.2])
     ·have h5':(qbf c || (decide (c.toNat=45)&&hdIs qbf t))=false:=by
       rw [h4'];by_cases hc:c.toNat=45
       ·have:hdIs qbf t=false:=by
         cases hh:hdIs qbf t with
         |false=>rfl
         |true=>exact absurd ⟨hc,hh⟩ h5
        simp [this]
       ·simp [hc]
      by_cases h6:c.toNat=34
      ·have e:wdL (c::t)=if quoL t=0 then none else valL 5 (c::t) (quoL t+1):=by
        show (if qhI c=true then _ else _)=_
        rw [if_neg h1,if_neg h2,if_neg h3,if_neg (by rw [h5'];simp),if_pos h6]
       obtain⟨v1,v2⟩:=val 5 (symN t);refine⟨5,(c::t).take (symN t),(kRd ((c::t).take (symN t)),nRd ((c::t).take (symN t)),sRd ((c::t).take (symN t))),?_,fun k' m v' he=>?_⟩
       ·rw [qJq hs h6,e];by_cases hq:quoL t=0
        ·rw [if_pos hq];unfold syW symN;rw [if_pos hq];have:eRd []=10:=by decide
         simp [this,wTup]
        ·rw [if_neg hq];unfold symN at v1 ⊢;rw [if_neg hq] at v1 ⊢;rw [v1];rfl
       ·rw [e] at he;by_cases hq:quoL t=0
        ·rw [if_pos hq] at he;cases he
        ·rw [if_neg hq] at he;refine v2 k' m v' ?_;unfold symN;rw [if_neg hq];exact he
      ·have e:wdL (c::t)=if qfK c t=0 then none else some (6,qfK c t,0,0,[]):=by
        show (if qhI c=true then _ else _)=_
        rw [if_neg h1,if_neg h2,if_neg h3,if_neg (by rw [h5'];simp),if_neg h6]
       have hm:=qHg hs h1' h2' h3 h4' (fun hc=>by
        cases hh:hdIs qbf t with
        |false=>rfl
        |true=>exact absurd ⟨hc,hh⟩ h5) h6
       unfold mkW at hm;cases ht:hdIs (twoB c) t with
       |true =>
        rw [ht,if_pos rfl] at hm;have em:qfK c t=2:=by simp [qfK,ht]
        refine⟨6,(c::t).take 2,(0,0,[]),?_,fun k' m v' he=>?_⟩
        ·rw [hm,e,em];rfl
        ·rw [e,em] at he;cases he
         exact⟨rfl,rfl,rfl⟩
       |false =>
        rw [ht,if_neg (by simp)] at hm
        refine⟨6,[c],(0,0,[]),?_,fun k' m v' he=>?_⟩
        ·rw [hm,e]
         congr 2
         unfold qfK;rw [ht];cases qmR c<;>simp
        ·rw [e] at he;split at he
         ·cases he
         ·rename_i hn;have em:qfK c t=1:=by
           unfold qfK at hn ⊢;rw [ht] at hn ⊢;cases ho:qmR c with
           |true=>simp
           |false=>simp [ho] at hn
          rw [em] at he;cases he
          exact⟨rfl,by simp,rfl⟩
def wdT:List TypeId:=[75,3,38,75,9]
def lst (s:qU) (st:Nat) (n n2:Int):List Wd→Store
 |[]=>⟨[[.sl [] .full],[.int .i64 n],[.int .i64 n2],[.sl [] .full],[.str s]],[(st,0,1)],wdT⟩
 |a::l=>⟨[[.sl [] .full],[.int .i64 n],[.int .i64 n2],[.sl (rOf cW (a::l)) (.tok 1)],[.str s]],[(st,0,1),((a::l).length,6,120)],wdT⟩
theorem qNt (s:qU) (st:Nat) (n n2:Int) (l:List Wd) (a:Wd):lst s st n n2 (l++[a])=⟨[[.sl [] .full],[.int .i64 n],[.int .i64 n2],[.sl (rOf cW (l++[a])) (.tok 1)],[.str s]],[(st,0,1),((l++[a]).length,6,120)],wdT⟩:=by
 cases l<;>rfl
def wEnd (s:qU) (acc:List Wd):List Wd×Option Nat→Option (PExit×List PV×Store)
 |(l,none)=>some (.exit 0,[],lst s 0 0 0 (acc++l))
 |(l,some p)=>some (.ret,[],lst s 2 (p:Nat) 120 (acc++l))
theorem qEA (f i:Nat):lexL f i []=([],none):=by cases f<;>rfl
theorem qRZ (s:qU) (hs:s.length≤70000):∀ (f i:Nat) (acc:List Wd),i≤s.length→s.length < i+f→acc.length≤i→qhs [.yld 0,.ptr 4 0,.int .i64 (i:Nat)] (lst s 0 0 0 acc)=wEnd s acc (lexL f i (s.drop i)):=by
 intro f
 induction f with
 |zero=>intro i acc h1 h2 _;omega
 |succ f ih =>
  intro i acc h1 h2 h3;by_cases hlt:i < s.length
  ·have hS:sSub s (nNat (i:Int)) (nLen s)=s.drop i:=by simp
   have hne:s.drop i≠[]:=by
    intro h;have:=congrArg List.length h;simp at this;omega
   have hSl:(s.drop i).length≤140737488355328:=by simp;omega
   obtain⟨k,x,v,hw,hw2⟩:=qHW hSl hne;have a0:qkS (s.drop i)=true:=by simp [qkS,qc2,qbs,qcs,qct,qcr,qxg,qhE,hw,wTup]
   have a1:qc2 (s.drop i)=k:=by simp [qc2,hw,wTup]
   have a2:qbs (s.drop i)=x:=by simp [qbs,hw,wTup]
   have a3:qcs (s.drop i)=v.1:=by simp [qcs,hw,wTup]
   have a4:qct (s.drop i)=v.2.1:=by simp [qct,hw,wTup]
   have a5:qcr (s.drop i)=v.2.2:=by simp [qcr,hw,wTup]
   have a6:qhE (s.drop i)=(wdL (s.drop i)).isSome:=by simp [qhE,hw,wTup]
   have t1:iLt (i:Int) (sLen s)=true:=by simp;omega
   have t2:qaQ (qav (i:Int)) true (nNat (i:Int)) (nLen s) (nLen s)=true:=by simp;omega
   have eL:lexL (f+1) i (s.drop i)=match wdL (s.drop i) with
     |none=>([],some i)
     |some (k,m,v) =>
      ((k,(s.drop i).take m,v,(i:Int))::(lexL f (i+m+gapL false ((s.drop i).drop m)) ((s.drop i).drop (m+gapL false ((s.drop i).drop m)))).1,(lexL f (i+m+gapL false ((s.drop i).drop m)) ((s.drop i).drop (m+gapL false ((s.drop i).drop m)))).2):=by
    obtain⟨c,t,hct⟩:=List.exists_cons_of_ne_nil hne;rw [hct];rfl
   rw [eL];cases hwd:wdL (s.drop i) with
   |none =>
    rw [hwd] at a6;cases acc with
    |nil =>
     show qhs _ ⟨_,_,_⟩=_
     simp only [wdT];rw [qJA];simp only [qtb,hS,a0,a1,a2,a3,a4,a5,a6,t1,t2];simp [wEnd,lst,wdT]
    |cons a l =>
     show qhs _ ⟨_,_,_⟩=_
     simp only [wdT];rw [qBQ];simp only [qo6,hS,a0,a1,a2,a3,a4,a5,a6,t1,t2];simp [wEnd,lst,wdT]
   |some r =>
    obtain⟨k',m,v'⟩:=r;obtain⟨rfl,rfl,rfl⟩:=hw2 k' m v' hwd;rw [hwd] at a6;obtain⟨m1,m2⟩:=qDB hwd;have hx:((s.drop i).take m).length=m:=by rw [List.length_take];omega
    have m3:i+m≤s.length:=by simp at m2;omega
    have e1:iAdd .i64 (i:Int) (sLen ((s.drop i).take m))=((i+m:Nat):Int):=by
     rw [qji,hx];exact qbD (by omega)
    have hS2:sSub s (nNat ((i+m:Nat):Int)) (nLen s)=s.drop (i+m):=by simp only [qzk,qy0,qIC,Int.toNat_natCast,List.take_length]
    have t3:qaQ (qav ((i+m:Nat):Int)) true (nNat ((i+m:Nat):Int)) (nLen s) (nLen s)=true:=by simp;omega
    have g1:qgR (s.drop (i+m))=true:=qLs (by simp;omega)
    have g2:qbn (s.drop (i+m))=(gapL false (s.drop (i+m)):Nat):=qOv (by simp;omega)
    have g3:=qtP false (s.drop (i+m));have e2:iAdd .i64 ((i+m:Nat):Int) ((gapL false (s.drop (i+m)):Nat):Int)=((i+m+gapL false (s.drop (i+m)):Nat):Int):=qbD (by simp at g3;omega)
    have hd1:(s.drop i).drop m=s.drop (i+m):=by rw [List.drop_drop]
    have hd2:(s.drop i).drop (m+gapL false (s.drop (i+m)))=s.drop (i+m+gapL false (s.drop (i+m))):=by rw [List.drop_drop];congr 1;omega
    simp only [hd1,hd2];have hih:=ih (i+m+gapL false (s.drop (i+m))) (acc++[(k',(s.drop i).take m,v',(i:Int))]) (by simp at g3;omega) (by omega) (by simp;omega)
    have hfin:wEnd s (acc++[(k',(s.drop i).take m,v',(i:Int))]) (lexL f (i+m+gapL false (s.drop (i+m))) (s.drop (i+m+gapL false (s.drop (i+m)))))=wEnd s acc ((k',(s.drop i).take m,v',(i:Int))::(lexL f (i+m+gapL false (s.drop (i+m))) (s.drop (i+m+gapL false (s.drop (i+m))))).1,(lexL f (i+m+gapL false (s.drop (i+m))) (s.drop (i+m+gapL false (s.drop (i+m))))).2):=by
     cases hr:lexL f (i+m+gapL false (s.drop (i+m))) (s.drop (i+m+gapL false (s.drop (i+m)))) with
     |mk l o=>cases o<;>simp [wEnd]
    rw [← hfin,← hih,qNt];cases acc with
    |nil =>
     show qhs _ ⟨_,_,_⟩=_
     simp only [wdT];rw [qJA];have o1:qaI [] [[PV.int .i64 k',.str ((s.drop i).take m),.int .i64 v'.1,.int .i64 v'.2.1,.str v'.2.2,.int .i64 (i:Int)]] 64=true:=by simp
     have o2:qaH [[PV.int .i64 k',.str ((s.drop i).take m),.int .i64 v'.1,.int .i64 v'.2.1,.str v'.2.2,.int .i64 (i:Int)]] 6=true:=by simp [one]
     simp only [qtb,hS,a0,a1,a2,a3,a4,a5,a6,t1,t2,e1,hS2,t3,g1,g2,e2,o1,o2];simp [qOR,qKb]
    |cons a l =>
     show qhs _ ⟨_,_,_⟩=_
     simp only [wdT];rw [qBQ];have o1:qaI (rOf cW (a::l)) [[PV.int .i64 k',.str ((s.drop i).take m),.int .i64 v'.1,.int .i64 v'.2.1,.str v'.2.2,.int .i64 (i:Int)]] 64=true:=by
      simp only [List.length_cons] at h3;simp;omega
     have o2:qaH [[PV.int .i64 k',.str ((s.drop i).take m),.int .i64 v'.1,.int .i64 v'.2.1,.str v'.2.2,.int .i64 (i:Int)]] 6=true:=by simp [one]
     simp only [qo6,hS,a0,a1,a2,a3,a4,a5,a6,t1,t2,e1,hS2,t3,g1,g2,e2,o1,o2];simp [qIA]
  ·have:i=s.length:=by omega
   subst this;rw [List.drop_eq_nil_of_le (Nat.le_refl _),qEA];have t1:iLt (s.length:Int) (sLen s)=false:=by simp
   cases acc with
   |nil =>
    show qhs _ ⟨_,_,_⟩=_
    simp only [wdT];rw [qJA];simp only [qtb,t1];simp [wEnd,lst,wdT]
   |cons a l =>
    show qhs _ ⟨_,_,_⟩=_
    simp only [wdT];rw [qBQ];simp only [qo6,t1];simp [wEnd,lst,wdT]
def qyH (s:qU):List Wd×Option Nat→Option (PV×Store)
 |(l,none)=>some (.tup [],lst s 0 0 0 l)
 |(l,some p)=>some (.tup [],lst s 2 (p:Nat) 120 l)
theorem qPV {s:List UInt8} (hs:s.length≤70000):qfH [] 0 0 [] s=qyH s (qhJ s):=by
 have hg:=qtP false s;have h:=qRZ s hs (s.length+1) (gapL false s) [] hg (by omega) (by simp)
 rw [show lexL (s.length+1) (gapL false s) (s.drop (gapL false s))=qhJ s from rfl] at h
 unfold qfH qKl;rw [qLs (by omega),qOv (by omega)]
 generalize qhJ s=r at h ⊢;simp only [lst,wdT] at h
 generalize ((gapL false s:Nat):Int)=g at h ⊢;obtain⟨l,o⟩:=r;cases o with
 |none =>
  cases l with
  |nil =>
   simp only [wEnd,lst,wdT,List.append_nil,List.nil_append] at h
   simp only [ql9,qmQ,qmF,qmO,qmN,qma,qmo,qjL,qks,qkq,qj9,qhP,qhG,qhp,qhD,qho,qhq,qhB,qjd,qjI,qjz,qjt,qjE,qjR,qjx,qhK,qhw,qhx,qhr,qg9,qhe,qhd,qjG,qkC,qkA,qjX,qjQ,qjf,qkw,qjY,qjp,qjv,qkB,qkn,qjs,qjU,qbH,h];simp [-qhj,qyH,lst,wdT]
  |cons a l =>
   simp only [wEnd,lst,wdT,List.nil_append] at h
   simp only [ql9,qmQ,qmF,qmO,qmN,qma,qmo,qjL,qks,qkq,qj9,qhP,qhG,qhp,qhD,qho,qhq,qhB,qjd,qjI,qjz,qjt,qjE,qjR,qjx,qhK,qhw,qhx,qhr,qg9,qhe,qhd,qjG,qkC,qkA,qjX,qjQ,qjf,qkw,qjY,qjp,qjv,qkB,qkn,qjs,qjU,qbH,h];simp [-qhj,qyH,lst,wdT]
 |some p =>
  cases l with
  |nil =>
   simp only [wEnd,lst,wdT,List.append_nil,List.nil_append] at h
   simp only [ql9,qmQ,qmF,qmO,qmN,qma,qmo,qjL,qks,qkq,qj9,qhP,qhG,qhp,qhD,qho,qhq,qhB,qjd,qjI,qjz,qjt,qjE,qjR,qjx,qhK,qhw,qhx,qhr,qg9,qhe,qhd,qjG,qkC,qkA,qjX,qjQ,qjf,qkw,qjY,qjp,qjv,qkB,qkn,qjs,qjU,qbH,h];simp [-qhj,qyH,lst,wdT]
  |cons a l =>
   simp only [wEnd,lst,wdT,List.nil_append] at h
   simp only [ql9,qmQ,qmF,qmO,qmN,qma,qmo,qjL,qks,qkq,qj9,qhP,qhG,qhp,qhD,qho,qhq,qhB,qjd,qjI,qjz,qjt,qjE,qjR,qjx,qhK,qhw,qhx,qhr,qg9,qhe,qhd,qjG,qkC,qkA,qjX,qjQ,qjf,qkw,qjY,qjp,qjv,qkB,qkn,qjs,qjU,qbH,h];simp [-qhj,qyH,lst,wdT]
def wOut:List Wd×Option Nat→PV
 |(l,none)=>.tup [.sl (rOf cW l) .non,.int .i64 0,.int .i64 0]
 |(_,some p)=>.tup [.sl [] .non,.int .i64 (p:Nat),.int .i64 120]
theorem qG0 {s:List UInt8} (hs:s.length≤70000):qjZ s=some (if 65536 < s.length then .tup [.sl [] .non,.int .i64 0,.int .i64 2] else wOut (qhJ s)):=by
 have h:=qPV hs;unfold qjZ qtX;have b:qil s=some (.fn 139 [.ptr 4 0],⟨[[.sl [] .full],[.int .i64 0],[.int .i64 0],[.sl [] .full],[.str s]],[],wdT⟩):=by simp [-qhj,qil,qua,wdT]
 have b0:qlH s=true:=by
  simp only [qlH,qcX,qcv,qcU,qcw,qcT,b,wdT];simp [-qhj]
 have b1:qcX s=0:=by simp only [qcX,b];simp [-qhj]
 have b2:qcv s=0:=by simp only [qcv,b];simp [-qhj]
 have b3:qcU s=[]:=by simp only [qcU,b];simp [-qhj]
 have b4:qcw s=[]:=by simp only [qcw,b];simp [-qhj]
 have b5:qcT s=s:=by simp only [qcT,b];simp [-qhj]
 rw [b0,b1,b2,b3,b4,b5];by_cases hl:65536 < s.length
 ·have:iLt 65536 (sLen s)=true:=by simp;omega
  rw [this,if_pos hl];rfl
 ·have:iLt 65536 (sLen s)=false:=by simp;omega
  rw [this,if_neg hl];generalize qhJ s=r at h ⊢;obtain⟨l,o⟩:=r;cases o with
  |none =>
   cases l with
   |nil =>
    simp only [qyH,lst,wdT] at h
    simp only [qp4,qqv,qq2,qqW,qpL,qp7,qjh,ql0,qmd,qj6,qnQ,qqY,qpQ,qnz,qlJ,qj3,qkt,ql2,qno,qqx,qqf,qn6,qqV,qqq,qqF,qp2,h];simp [-qhj,wOut]
   |cons a l =>
    simp only [qyH,lst,wdT] at h
    simp only [qp4,qqv,qq2,qqW,qpL,qp7,qjh,ql0,qmd,qj6,qnQ,qqY,qpQ,qnz,qlJ,qj3,qkt,ql2,qno,qqx,qqf,qn6,qqV,qqq,qqF,qp2,h];simp [-qhj,wOut]
  |some p =>
   cases l with
   |nil =>
    simp only [qyH,lst,wdT] at h
    simp only [qp4,qqv,qq2,qqW,qpL,qp7,qjh,ql0,qmd,qj6,qnQ,qqY,qpQ,qnz,qlJ,qj3,qkt,ql2,qno,qqx,qqf,qn6,qqV,qqq,qqF,qp2,h];simp [-qhj,wOut]
   |cons a l =>
    simp only [qyH,lst,wdT] at h
    simp only [qp4,qqv,qq2,qqW,qpL,qp7,qjh,ql0,qmd,qj6,qnQ,qqY,qpQ,qnz,qlJ,qj3,qkt,ql2,qno,qqx,qqf,qn6,qqV,qqq,qqF,qp2,h];simp [-qhj,wOut]
end Go.Pv
