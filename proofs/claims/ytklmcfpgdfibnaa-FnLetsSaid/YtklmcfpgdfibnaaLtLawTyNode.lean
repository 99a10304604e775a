/- A part of the proof. -/
import Derived.Test.YtklmcfpgdfibnaaLtLawHp
import Derived.Test.YtklmcfpgdfibnaaLtLawTyWeak
namespace Go.Proofs.Ytklmcfpgdfibnaa.P
open Go Go.Proofs.Ytklmcfpgdfibnaa Go.Proofs.Ytklmcfpgdfibnaa.Eng
set_option maxHeartbeats 4000000
set_option linter.unusedVariables false
set_option linter.unusedSimpArgs false
attribute [local irreducible] prP gP gE gF AX ixW ldc ldg ldl stc stg scW mkW apW BL cl2 BS EB B8
variable {w0:World}
def pick {α:Type} (f:Nat→List α):Nat→List α
 | 0=>[]
 | n+1=>pick f n++f n
theorem JG {α:Type} {f:Nat→List α} (h: ∀i,(f i).length≤1): ∀n,(pick f n).length≤n
 | 0=>Nat.le_refl _
 | n+1=>by have:=JG h n;have:=h n;simp only [pick,List.length_append];omega
theorem X2 {α:Type} {f:Nat→List α} {m:Nat} (h: ∀i,m≤i→f i=[]): ∀n,m≤n→pick f n=pick f m
 | 0,hn=>by rw [Nat.le_zero.1 hn]
 | n+1,hn=>by
   rcases Nat.lt_or_ge n m with h1 | h1
   ·rw [show n+1=m by omega]
   ·rw [pick,h n h1,List.append_nil,X2 h n h1]
theorem aD {α:Type} {f:Nat→List α} {n:Nat} {l:List α} (h:f n=l):pick f n++l=pick f (n+1):=by rw [pick,h]
theorem SS {α:Type} {f:Nat→List α} {n:Nat} (h:f n=[]):pick f n=pick f (n+1):=by rw [pick,h,List.append_nil]
def CL (s g:Int):Int:=if (0≤s∧s≤7)∧1≤g∧g≤999 then s+8*g else -1
def AB (l:List AV) (id:Int):Int:=if id<8∨l.length≠8 then -1 else if (ob l (id % 8).toNat).live=true∧(ob l (id % 8).toNat).gen=id/8 then id % 8 else -1
theorem GF {n lo hi:Int} {K:J2} (h:K [.bool (decide (lo≤n∧n≤hi))] []):cl2 ⟨Try.prog,w0⟩ 131 C1.sg [I n,I lo,I hi] [] K:=by
 refine C1.cl2 ?_
 unfold C1.txt
 repeat' (first | refine BM ?_ | refine CX (by first | with_reducible assumption | omega) rfl ?_ | refine C4 (by first | with_reducible assumption | omega) rfl ?_ | refine GA ?_ | refine JB (fun _=> ?_) (fun _=> ?_))
 ·have e:decide (lo≤n∧n≤hi)=decide (n≤hi):=by rw [decide_eq_decide];omega
  rw [e] at h;exact h
 ·have e:decide (lo≤n∧n≤hi)=false:=decide_eq_false (by omega)
  rw [e] at h;exact h
theorem DS {n lo hi:Int} {K:J2} (h:K [.bool (decide (lo≤n∧n≤hi))] []):cl2 ⟨Try.prog,w0⟩ 87 CA.sg [I n,I lo,I hi] [] K:=by
 refine CA.cl2 ?_
 unfold CA.txt
 repeat' (first | refine BM ?_ | refine CX (by first | with_reducible assumption | omega) rfl ?_ | refine C4 (by first | with_reducible assumption | omega) rfl ?_ | refine GA ?_ | refine JB (fun _=> ?_) (fun _=> ?_))
 ·have e:decide (lo≤n∧n≤hi)=decide (n≤hi):=by rw [decide_eq_decide];omega
  rw [e] at h;exact h
 ·have e:decide (lo≤n∧n≤hi)=false:=decide_eq_false (by omega)
  rw [e] at h;exact h
theorem JA {s g:Int} {K:J2} (h:K [I (CL s g)] []):cl2 ⟨Try.prog,w0⟩ 98 DX.sg [I s,I g] [] K:=by
 refine DX.cl2 ?_
 unfold DX.txt
 repeat' (first | refine GF ?_ | refine Q8 ⟨by omega,by omega⟩ ?_ | refine BM ?_ | refine H7 (by first | with_reducible assumption | omega) ?_ | refine F9 (by first | with_reducible assumption | omega) ?_ | refine CX (by first | with_reducible assumption | omega) rfl ?_ | refine C4 (by first | with_reducible assumption | omega) rfl ?_ | refine BZ ?_ | refine DH ?_ | refine ED ⟨by omega,by omega⟩ ?_ | refine AW (fun _=> ?_) (fun _=> ?_) | refine JV (fun _=> ?_) (fun _=> ?_))
 ·rw [CL,if_neg (by omega)] at h;exact h
 ·rw [CL,if_pos (by omega)] at h;exact h
 ·rw [CL,if_neg (by omega)] at h;exact h
theorem I8 {s g:Int} {K:J2} (h:K [I (CL s g)] []):cl2 ⟨Try.prog,w0⟩ 61 DV.sg [I s,I g] [] K:=by
 refine DV.cl2 ?_
 unfold DV.txt
 repeat' (first | refine DS ?_ | refine Q8 ⟨by omega,by omega⟩ ?_ | refine BM ?_ | refine H7 (by first | with_reducible assumption | omega) ?_ | refine F9 (by first | with_reducible assumption | omega) ?_ | refine CX (by first | with_reducible assumption | omega) rfl ?_ | refine C4 (by first | with_reducible assumption | omega) rfl ?_ | refine BZ ?_ | refine DH ?_ | refine ED ⟨by omega,by omega⟩ ?_ | refine AW (fun _=> ?_) (fun _=> ?_) | refine JV (fun _=> ?_) (fun _=> ?_))
 ·rw [CL,if_neg (by omega)] at h;exact h
 ·rw [CL,if_pos (by omega)] at h;exact h
 ·rw [CL,if_neg (by omega)] at h;exact h
theorem G8 {l:List AV} {id:Int} (h:id<8∨l.length≠8):AB l id= -1:=if_pos h
theorem IA {l:List AV} {id:Int} (h1:8≤id) (h2:l.length=8) (hl:(id % 8).toNat<l.length) (h3:(ob l (id % 8).toNat).live=true) (h4:(ob l (id % 8).toNat).gen=id/8):AB l id=id % 8:=by
 rw [AB,if_neg (by omega),if_pos ⟨h3,h4⟩]
theorem HZ {l:List AV} {id:Int} (hl:(id % 8).toNat<l.length) (h:(ob l (id % 8).toNat).live=false∨(ob l (id % 8).toNat).gen≠id/8):AB l id= -1:=by
 rw [AB]
 split
 ·rfl
 ·rw [if_neg]
  rintro ⟨h1,h2⟩
  rcases h with h | h
  ·rw [h] at h1;cases h1
  ·exact h h2
theorem CT {a:List AV} {b c d:List T} {id:Int} {K:J2} (hid:F64 id) (hl:(a.length:Int)<2^62) (h:K [I (AB a id)] []):cl2 ⟨Try.prog,w0⟩ 81 BW.sg [I id] [tR tO a,b,c,d] K:=by
 obtain ⟨i1,i2⟩:=hid
 refine BW.cl2 ?_
 unfold BW.txt
 simp only [AG,AQ,AP,AN,AI,AD,AE,AL,AO,AK,AM,AJ,AR,AH,BC,BI,BF,BH,BJ,BG,BD,AZ,A4,A6,A8,A7,A5]
 repeat' (first | refine BM ?_ | refine OU (by with_reducible assumption) ?_ | refine ZR (by with_reducible assumption) ?_ | refine jA (by with_reducible assumption) rfl ?_ | refine lZ (by with_reducible assumption) rfl ?_ | refine CX (by first | with_reducible assumption | omega) rfl ?_ | refine C4 (by first | with_reducible assumption | omega) rfl ?_ | refine BZ ?_ | refine AY ?_ | refine CI ?_ | refine UA (by omega) (by omega) ?_ | refine gA (by omega) ⟨by omega,by omega⟩ (by omega) ?_ | refine O5 (by omega) (by omega) ?_ | refine MH (by omega) ?_ | refine AW (fun _=> ?_) (fun _=> ?_) | refine JV (fun _=> ?_) (fun _=> ?_) | refine gO (fun _=> ?_) (fun _=> ?_) | refine B5 ?_)
 ·rw [G8 (by omega)] at h;exact h
 ·rw [HZ (by omega) (.inr (by assumption))] at h;exact h
 ·rename_i e1 e2
  rw [IA (by omega) (by omega) (by omega) (by simpa using e1) (by simpa using e2)] at h;exact h
 ·rename_i e1
  rw [HZ (by omega) (.inl (by simpa using e1))] at h;exact h
 ·rw [G8 (by omega)] at h;exact h
theorem CF {a:List AV} {b c d:List T} {id:Int} {K:J2} (hid:F64 id) (hl:(a.length:Int)<2^62) (h:K [I (AB a id)] []):cl2 ⟨Try.prog,w0⟩ 24 BV.sg [I id] [tR tO a,b,c,d] K:=by
 obtain ⟨i1,i2⟩:=hid
 refine BV.cl2 ?_
 unfold BV.txt
 simp only [AG,AQ,AP,AN,AI,AD,AE,AL,AO,AK,AM,AJ,AR,AH,BC,BI,BF,BH,BJ,BG,BD,AZ,A4,A6,A8,A7,A5]
 repeat' (first | refine BM ?_ | refine OU (by with_reducible assumption) ?_ | refine ZR (by with_reducible assumption) ?_ | refine jA (by with_reducible assumption) rfl ?_ | refine lZ (by with_reducible assumption) rfl ?_ | refine CX (by first | with_reducible assumption | omega) rfl ?_ | refine C4 (by first | with_reducible assumption | omega) rfl ?_ | refine BZ ?_ | refine AY ?_ | refine CI ?_ | refine UA (by omega) (by omega) ?_ | refine gA (by omega) ⟨by omega,by omega⟩ (by omega) ?_ | refine O5 (by omega) (by omega) ?_ | refine GU (by omega) (by decide) rfl ?_ | refine KC (by omega) rfl ?_ | refine AW (fun _=> ?_) (fun _=> ?_) | refine JV (fun _=> ?_) (fun _=> ?_) | refine gO (fun _=> ?_) (fun _=> ?_) | refine B5 ?_)
 ·rw [G8 (by omega)] at h;exact h
 ·rw [HZ (by omega) (.inr (by assumption))] at h;exact h
 ·rename_i e1 e2
  rw [IA (by omega) (by omega) (by omega) (by simpa using e1) (by simpa using e2)] at h;exact h
 ·rename_i e1
  rw [HZ (by omega) (.inl (by simpa using e1))] at h;exact h
 ·rw [G8 (by omega)] at h;exact h
end Go.Proofs.Ytklmcfpgdfibnaa.P
namespace Go.Proofs.Ytklmcfpgdfibnaa.P
open Go Go.Proofs.Ytklmcfpgdfibnaa Go.Proofs.Ytklmcfpgdfibnaa.Eng
set_option maxHeartbeats 4000000
set_option linter.unusedVariables false
set_option linter.unusedSimpArgs false
attribute [local irreducible] prP gP gE gF AX ixW ldc ldg ldl stc stg scW mkW apW BL cl2 BS EB B8
variable {w0:World}
end Go.Proofs.Ytklmcfpgdfibnaa.P
namespace Go.Proofs.Ytklmcfpgdfibnaa.P
open Go Go.Proofs.Ytklmcfpgdfibnaa Go.Proofs.Ytklmcfpgdfibnaa.Eng
set_option maxHeartbeats 4000000
set_option linter.unusedVariables false
set_option linter.unusedSimpArgs false
attribute [local irreducible] prP gP gE gF AX ixW ldc ldg ldl stc stg scW mkW apW BL cl2 BS EB B8
variable {w0:World}
end Go.Proofs.Ytklmcfpgdfibnaa.P
namespace Go.Proofs.Ytklmcfpgdfibnaa.P
open Go Go.Proofs.Ytklmcfpgdfibnaa Go.Proofs.Ytklmcfpgdfibnaa.Eng
set_option maxHeartbeats 4000000
set_option linter.unusedVariables false
set_option linter.unusedSimpArgs false
attribute [local irreducible] prP gP gE gF AX ixW ldc ldg ldl stc stg scW mkW apW BL cl2 BS EB B8
variable {w0:World}
def dR (o:Nd):Int:=5+(o.field.length:Int)
theorem mH (o:Nd):0≤dR o:=by unfold dR;omega
end Go.Proofs.Ytklmcfpgdfibnaa.P
