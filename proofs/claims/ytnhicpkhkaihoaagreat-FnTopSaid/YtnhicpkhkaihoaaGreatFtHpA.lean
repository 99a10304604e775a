/- A part of the proof. -/
import Derived.Test.YtnhicpkhkaihoaaGreatFtLawHp
namespace Go.Proofs.YtnhicpkhkaihoaaGreat.P
open Go Go.Proofs.YtnhicpkhkaihoaaGreat Go.Proofs.YtnhicpkhkaihoaaGreat.Eng
set_option maxHeartbeats 4000000
set_option linter.unusedVariables false
set_option linter.unusedSimpArgs false
attribute [local irreducible] prP gP gE gF AV ixW ldc ldg ldl stc stg scW mkW apW BC cl2 BW F6 C2
variable {w0:World}
def pick {α:Type} (f:Nat→List α):Nat→List α
 | 0=>[]
 | n+1=>pick f n++f n
theorem LV {α:Type} {f:Nat→List α} (h: ∀i,(f i).length≤1): ∀n,(pick f n).length≤n
 | 0=>Nat.le_refl _
 | n+1=>by have:=LV h n;have:=h n;simp only [pick,List.length_append];omega
theorem dN {α:Type} {f:Nat→List α} {m:Nat} (h: ∀i,m≤i→f i=[]): ∀n,m≤n→pick f n=pick f m
 | 0,hn=>by rw [Nat.le_zero.1 hn]
 | n+1,hn=>by
   rcases Nat.lt_or_ge n m with h1 | h1
   ·rw [show n+1=m by omega]
   ·rw [pick,h n h1,List.append_nil,dN h n h1]
theorem uS {α:Type} {f:Nat→List α} {n:Nat} {l:List α} (h:f n=l):pick f n++l=pick f (n+1):=by rw [pick,h]
theorem pZ {α:Type} {f:Nat→List α} {n:Nat} (h:f n=[]):pick f n=pick f (n+1):=by rw [pick,h,List.append_nil]
def CU (s g:Int):Int:=if (0≤s∧s≤7)∧1≤g∧g≤999 then s+8*g else -1
def AB (l:List A7) (id:Int):Int:=if id<8∨l.length≠8 then -1 else if (ob l (id % 8).toNat).live=true∧(ob l (id % 8).toNat).gen=id/8 then id % 8 else -1
theorem F8 {n lo hi:Int} {K:J2} (h:K [.bool (decide (lo≤n∧n≤hi))] []):cl2 ⟨Tryz.prog,w0⟩ 94 B6.sg [I n,I lo,I hi] [] K:=by
 refine B6.cl2 ?_
 unfold B6.txt
 repeat' (first | refine BM ?_ | refine CL (by first | with_reducible assumption | omega) rfl ?_ | refine CJ (by first | with_reducible assumption | omega) rfl ?_ | refine EA ?_ | refine IQ (fun _=> ?_) (fun _=> ?_))
 ·have e:decide (lo≤n∧n≤hi)=decide (n≤hi):=by rw [decide_eq_decide];omega
  rw [e] at h;exact h
 ·have e:decide (lo≤n∧n≤hi)=false:=decide_eq_false (by omega)
  rw [e] at h;exact h
theorem DO {n lo hi:Int} {K:J2} (h:K [.bool (decide (lo≤n∧n≤hi))] []):cl2 ⟨Tryz.prog,w0⟩ 54 BO.sg [I n,I lo,I hi] [] K:=by
 refine BO.cl2 ?_
 unfold BO.txt
 repeat' (first | refine BM ?_ | refine CL (by first | with_reducible assumption | omega) rfl ?_ | refine CJ (by first | with_reducible assumption | omega) rfl ?_ | refine EA ?_ | refine IQ (fun _=> ?_) (fun _=> ?_))
 ·have e:decide (lo≤n∧n≤hi)=decide (n≤hi):=by rw [decide_eq_decide];omega
  rw [e] at h;exact h
 ·have e:decide (lo≤n∧n≤hi)=false:=decide_eq_false (by omega)
  rw [e] at h;exact h
theorem NF {s g:Int} {K:J2} (h:K [I (CU s g)] []):cl2 ⟨Tryz.prog,w0⟩ 168 F7.sg [I s,I g] [] K:=by
 refine F7.cl2 ?_
 unfold F7.txt
 repeat' (first | refine F8 ?_ | refine K4 ⟨by omega,by omega⟩ ?_ | refine BM ?_ | refine JZ (by first | with_reducible assumption | omega) ?_ | refine GA (by first | with_reducible assumption | omega) ?_ | refine CL (by first | with_reducible assumption | omega) rfl ?_ | refine CJ (by first | with_reducible assumption | omega) rfl ?_ | refine BQ ?_ | refine CP ?_ | refine CW ⟨by omega,by omega⟩ ?_ | refine AT (fun _=> ?_) (fun _=> ?_) | refine IN (fun _=> ?_) (fun _=> ?_))
 ·rw [CU,if_neg (by omega)] at h;exact h
 ·rw [CU,if_pos (by omega)] at h;exact h
 ·rw [CU,if_neg (by omega)] at h;exact h
theorem LM {s g:Int} {K:J2} (h:K [I (CU s g)] []):cl2 ⟨Tryz.prog,w0⟩ 58 EY.sg [I s,I g] [] K:=by
 refine EY.cl2 ?_
 unfold EY.txt
 repeat' (first | refine DO ?_ | refine K4 ⟨by omega,by omega⟩ ?_ | refine BM ?_ | refine JZ (by first | with_reducible assumption | omega) ?_ | refine GA (by first | with_reducible assumption | omega) ?_ | refine CL (by first | with_reducible assumption | omega) rfl ?_ | refine CJ (by first | with_reducible assumption | omega) rfl ?_ | refine BQ ?_ | refine CP ?_ | refine CW ⟨by omega,by omega⟩ ?_ | refine AT (fun _=> ?_) (fun _=> ?_) | refine IN (fun _=> ?_) (fun _=> ?_))
 ·rw [CU,if_neg (by omega)] at h;exact h
 ·rw [CU,if_pos (by omega)] at h;exact h
 ·rw [CU,if_neg (by omega)] at h;exact h
theorem MJ {l:List A7} {id:Int} (h:id<8∨l.length≠8):AB l id= -1:=if_pos h
theorem OQ {l:List A7} {id:Int} (h1:8≤id) (h2:l.length=8) (hl:(id % 8).toNat<l.length) (h3:(ob l (id % 8).toNat).live=true) (h4:(ob l (id % 8).toNat).gen=id/8):AB l id=id % 8:=by
 rw [AB,if_neg (by omega),if_pos ⟨h3,h4⟩]
theorem J5 {l:List A7} {id:Int} (hl:(id % 8).toNat<l.length) (h:(ob l (id % 8).toNat).live=false∨(ob l (id % 8).toNat).gen≠id/8):AB l id= -1:=by
 rw [AB]
 split
 ·rfl
 ·rw [if_neg]
  rintro ⟨h1,h2⟩
  rcases h with h | h
  ·rw [h] at h1;cases h1
  ·exact h h2
theorem C5 {a:List A7} {b c d:List T} {id:Int} {K:J2} (hid:F64 id) (hl:(a.length:Int)<2^62) (h:K [I (AB a id)] []):cl2 ⟨Tryz.prog,w0⟩ 147 BZ.sg [I id] [tR tO a,b,c,d] K:=by
 obtain ⟨i1,i2⟩:=hid
 refine BZ.cl2 ?_
 unfold BZ.txt
 simp only [AI,AL,AH,AJ,AM,AE,AG,AR,AP,AN,AQ,AO,AS,AK,BD,BF,BI,BJ,BH,BG,BE,A1,AZ,AY,AX,A4,A5]
 repeat' (first | refine BM ?_ | refine SG (by with_reducible assumption) ?_ | refine e7 (by with_reducible assumption) ?_ | refine qO (by with_reducible assumption) rfl ?_ | refine vX (by with_reducible assumption) rfl ?_ | refine CL (by first | with_reducible assumption | omega) rfl ?_ | refine CJ (by first | with_reducible assumption | omega) rfl ?_ | refine BQ ?_ | refine AW ?_ | refine CB ?_ | refine L7 (by omega) (by omega) ?_ | refine OX (by omega) ⟨by omega,by omega⟩ (by omega) ?_ | refine Q3 (by omega) (by omega) ?_ | refine OJ (by omega) ?_ | refine AT (fun _=> ?_) (fun _=> ?_) | refine IN (fun _=> ?_) (fun _=> ?_) | refine pJ (fun _=> ?_) (fun _=> ?_) | refine BP ?_)
 ·rw [MJ (by omega)] at h;exact h
 ·rw [J5 (by omega) (.inr (by assumption))] at h;exact h
 ·rename_i e1 e2
  rw [OQ (by omega) (by omega) (by omega) (by simpa using e1) (by simpa using e2)] at h;exact h
 ·rename_i e1
  rw [J5 (by omega) (.inl (by simpa using e1))] at h;exact h
 ·rw [MJ (by omega)] at h;exact h
theorem C6 {a:List A7} {b c d:List T} {id:Int} {K:J2} (hid:F64 id) (hl:(a.length:Int)<2^62) (h:K [I (AB a id)] []):cl2 ⟨Tryz.prog,w0⟩ 55 B4.sg [I id] [tR tO a,b,c,d] K:=by
 obtain ⟨i1,i2⟩:=hid
 refine B4.cl2 ?_
 unfold B4.txt
 simp only [AI,AL,AH,AJ,AM,AE,AG,AR,AP,AN,AQ,AO,AS,AK,BD,BF,BI,BJ,BH,BG,BE,A1,AZ,AY,AX,A4,A5]
 repeat' (first | refine BM ?_ | refine SG (by with_reducible assumption) ?_ | refine e7 (by with_reducible assumption) ?_ | refine qO (by with_reducible assumption) rfl ?_ | refine vX (by with_reducible assumption) rfl ?_ | refine CL (by first | with_reducible assumption | omega) rfl ?_ | refine CJ (by first | with_reducible assumption | omega) rfl ?_ | refine BQ ?_ | refine AW ?_ | refine CB ?_ | refine L7 (by omega) (by omega) ?_ | refine OX (by omega) ⟨by omega,by omega⟩ (by omega) ?_ | refine Q3 (by omega) (by omega) ?_ | refine JT (by omega) (by decide) rfl ?_ | refine MU (by omega) rfl ?_ | refine AT (fun _=> ?_) (fun _=> ?_) | refine IN (fun _=> ?_) (fun _=> ?_) | refine pJ (fun _=> ?_) (fun _=> ?_) | refine BP ?_)
 ·rw [MJ (by omega)] at h;exact h
 ·rw [J5 (by omega) (.inr (by assumption))] at h;exact h
 ·rename_i e1 e2
  rw [OQ (by omega) (by omega) (by omega) (by simpa using e1) (by simpa using e2)] at h;exact h
 ·rename_i e1
  rw [J5 (by omega) (.inl (by simpa using e1))] at h;exact h
 ·rw [MJ (by omega)] at h;exact h
end Go.Proofs.YtnhicpkhkaihoaaGreat.P
