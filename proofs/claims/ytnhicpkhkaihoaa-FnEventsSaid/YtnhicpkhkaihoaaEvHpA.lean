/- A part of the proof. -/
import Derived.Test.YtnhicpkhkaihoaaEvLawHp
namespace Go.Proofs.Ytnhicpkhkaihoaa.P
open Go Go.Proofs.Ytnhicpkhkaihoaa Go.Proofs.Ytnhicpkhkaihoaa.Eng
set_option maxHeartbeats 4000000
set_option linter.unusedVariables false
set_option linter.unusedSimpArgs false
attribute [local irreducible] prP gP gE gF AI ixW ldc ldg ldl stc stg scW mkW apW BG cl2 BZ EZ DS
variable {w0:World}
def pick {α:Type} (f:Nat→List α):Nat→List α
 | 0=>[]
 | n+1=>pick f n++f n
theorem NA {α:Type} {f:Nat→List α} (h: ∀i,(f i).length≤1): ∀n,(pick f n).length≤n
 | 0=>Nat.le_refl _
 | n+1=>by have:=NA h n;have:=h n;simp only [pick,List.length_append];omega
theorem XX {α:Type} {f:Nat→List α} {m:Nat} (h: ∀i,m≤i→f i=[]): ∀n,m≤n→pick f n=pick f m
 | 0,hn=>by rw [Nat.le_zero.1 hn]
 | n+1,hn=>by
   rcases Nat.lt_or_ge n m with h1 | h1
   ·rw [show n+1=m by omega]
   ·rw [pick,h n h1,List.append_nil,XX h n h1]
theorem nM {α:Type} {f:Nat→List α} {n:Nat} {l:List α} (h:f n=l):pick f n++l=pick f (n+1):=by rw [pick,h]
theorem kC {α:Type} {f:Nat→List α} {n:Nat} (h:f n=[]):pick f n=pick f (n+1):=by rw [pick,h,List.append_nil]
def CU (s g:Int):Int:=if (0≤s∧s≤7)∧1≤g∧g≤999 then s+8*g else -1
def AB (l:List AX) (id:Int):Int:=if id<8∨l.length≠8 then -1 else if (ob l (id % 8).toNat).live=true∧(ob l (id % 8).toNat).gen=id/8 then id % 8 else -1
theorem DO {n lo hi:Int} {K:J2} (h:K [.bool (decide (lo≤n∧n≤hi))] []):cl2 ⟨Try.prog,w0⟩ 154 BE.sg [I n,I lo,I hi] [] K:=by
 refine BE.cl2 ?_
 unfold BE.txt
 repeat' (first | refine BP ?_ | refine EY (by first | with_reducible assumption | omega) rfl ?_ | refine FV (by first | with_reducible assumption | omega) rfl ?_ | refine G7 ?_ | refine LJ (fun _=> ?_) (fun _=> ?_))
 ·have e:decide (lo≤n∧n≤hi)=decide (n≤hi):=by rw [decide_eq_decide];omega
  rw [e] at h;exact h
 ·have e:decide (lo≤n∧n≤hi)=false:=decide_eq_false (by omega)
  rw [e] at h;exact h
theorem IV {s g:Int} {K:J2} (h:K [I (CU s g)] []):cl2 ⟨Try.prog,w0⟩ 79 DN.sg [I s,I g] [] K:=by
 refine DN.cl2 ?_
 unfold DN.txt
 repeat' (first | refine DO ?_ | refine KQ ⟨by omega,by omega⟩ ?_ | refine BP ?_ | refine SG (by first | with_reducible assumption | omega) ?_ | refine I5 (by first | with_reducible assumption | omega) ?_ | refine EY (by first | with_reducible assumption | omega) rfl ?_ | refine FV (by first | with_reducible assumption | omega) rfl ?_ | refine CQ ?_ | refine HH ?_ | refine CV ⟨by omega,by omega⟩ ?_ | refine AH (fun _=> ?_) (fun _=> ?_) | refine L9 (fun _=> ?_) (fun _=> ?_))
 ·rw [CU,if_neg (by omega)] at h;exact h
 ·rw [CU,if_pos (by omega)] at h;exact h
 ·rw [CU,if_neg (by omega)] at h;exact h
theorem S4 {l:List AX} {id:Int} (h:id<8∨l.length≠8):AB l id= -1:=if_pos h
theorem QY {l:List AX} {id:Int} (h1:8≤id) (h2:l.length=8) (hl:(id % 8).toNat<l.length) (h3:(ob l (id % 8).toNat).live=true) (h4:(ob l (id % 8).toNat).gen=id/8):AB l id=id % 8:=by
 rw [AB,if_neg (by omega),if_pos ⟨h3,h4⟩]
theorem WL {l:List AX} {id:Int} (hl:(id % 8).toNat<l.length) (h:(ob l (id % 8).toNat).live=false∨(ob l (id % 8).toNat).gen≠id/8):AB l id= -1:=by
 rw [AB]
 split
 ·rfl
 ·rw [if_neg]
  rintro ⟨h1,h2⟩
  rcases h with h | h
  ·rw [h] at h1;cases h1
  ·exact h h2
theorem CF {a:List AX} {b c d:List T} {id:Int} {K:J2} (hid:F64 id) (hl:(a.length:Int)<2^62) (h:K [I (AB a id)] []):cl2 ⟨Try.prog,w0⟩ 91 BM.sg [I id] [tR tO a,b,c,d] K:=by
 obtain ⟨i1,i2⟩:=hid
 refine BM.cl2 ?_
 unfold BM.txt
 simp only [AJ,AQ,AL,AR,AO,AE,AG,AU,AN,AS,AV,AP,AM,AT,BN,BS,BV,BT,BW,BU,BO,A9,A6,A4,A7,A8,A5]
 repeat' (first | refine BP ?_ | refine VN (by with_reducible assumption) ?_ | refine pA (by with_reducible assumption) ?_ | refine vV (by with_reducible assumption) rfl ?_ | refine wI (by with_reducible assumption) rfl ?_ | refine EY (by first | with_reducible assumption | omega) rfl ?_ | refine FV (by first | with_reducible assumption | omega) rfl ?_ | refine CQ ?_ | refine A1 ?_ | refine DR ?_ | refine NU (by omega) (by omega) ?_ | refine gQ (by omega) ⟨by omega,by omega⟩ (by omega) ?_ | refine TH (by omega) (by omega) ?_ | refine NY (by omega) (by decide) rfl ?_ | refine LY (by omega) rfl ?_ | refine AH (fun _=> ?_) (fun _=> ?_) | refine L9 (fun _=> ?_) (fun _=> ?_) | refine qS (fun _=> ?_) (fun _=> ?_) | refine B6 ?_)
 ·rw [S4 (by omega)] at h;exact h
 ·rw [WL (by omega) (.inr (by assumption))] at h;exact h
 ·rename_i e1 e2
  rw [QY (by omega) (by omega) (by omega) (by simpa using e1) (by simpa using e2)] at h;exact h
 ·rename_i e1
  rw [WL (by omega) (.inl (by simpa using e1))] at h;exact h
 ·rw [S4 (by omega)] at h;exact h
end Go.Proofs.Ytnhicpkhkaihoaa.P
