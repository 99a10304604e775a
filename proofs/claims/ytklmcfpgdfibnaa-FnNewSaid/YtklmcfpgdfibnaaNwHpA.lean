/- A part of the proof. -/
import Derived.Test.YtklmcfpgdfibnaaNwLawHp
namespace Go.Proofs.Ytklmcfpgdfibnaa.P
open Go Go.Proofs.Ytklmcfpgdfibnaa Go.Proofs.Ytklmcfpgdfibnaa.Eng
set_option maxHeartbeats 4000000
set_option linter.unusedVariables false
set_option linter.unusedSimpArgs false
attribute [local irreducible] prP gP gE gF AV ixW ldc ldg ldl stc stg scW mkW apW BL cl2 BS EC CX
variable {w0:World}
def pick {α:Type} (f:Nat→List α):Nat→List α
 | 0=>[]
 | n+1=>pick f n++f n
theorem LM {α:Type} {f:Nat→List α} (h: ∀i,(f i).length≤1): ∀n,(pick f n).length≤n
 | 0=>Nat.le_refl _
 | n+1=>by have:=LM h n;have:=h n;simp only [pick,List.length_append];omega
theorem WT {α:Type} {f:Nat→List α} {m:Nat} (h: ∀i,m≤i→f i=[]): ∀n,m≤n→pick f n=pick f m
 | 0,hn=>by rw [Nat.le_zero.1 hn]
 | n+1,hn=>by
   rcases Nat.lt_or_ge n m with h1 | h1
   ·rw [show n+1=m by omega]
   ·rw [pick,h n h1,List.append_nil,WT h n h1]
theorem kE {α:Type} {f:Nat→List α} {n:Nat} {l:List α} (h:f n=l):pick f n++l=pick f (n+1):=by rw [pick,h]
theorem iX {α:Type} {f:Nat→List α} {n:Nat} (h:f n=[]):pick f n=pick f (n+1):=by rw [pick,h,List.append_nil]
def CM (s g:Int):Int:=if (0≤s∧s≤7)∧1≤g∧g≤999 then s+8*g else -1
def AB (l:List AU) (id:Int):Int:=if id<8∨l.length≠8 then -1 else if (ob l (id % 8).toNat).live=true∧(ob l (id % 8).toNat).gen=id/8 then id % 8 else -1
theorem IT {n lo hi:Int} {K:J2} (h:K [.bool (decide (lo≤n∧n≤hi))] []):cl2 ⟨Try.prog,w0⟩ 131 FG.sg [I n,I lo,I hi] [] K:=by
 refine FG.cl2 ?_
 unfold FG.txt
 repeat' (first | refine BW ?_ | refine DX (by first | with_reducible assumption | omega) rfl ?_ | refine DW (by first | with_reducible assumption | omega) rfl ?_ | refine G8 ?_ | refine KI (fun _=> ?_) (fun _=> ?_))
 ·have e:decide (lo≤n∧n≤hi)=decide (n≤hi):=by rw [decide_eq_decide];omega
  rw [e] at h;exact h
 ·have e:decide (lo≤n∧n≤hi)=false:=decide_eq_false (by omega)
  rw [e] at h;exact h
theorem DS {n lo hi:Int} {K:J2} (h:K [.bool (decide (lo≤n∧n≤hi))] []):cl2 ⟨Try.prog,w0⟩ 87 B9.sg [I n,I lo,I hi] [] K:=by
 refine B9.cl2 ?_
 unfold B9.txt
 repeat' (first | refine BW ?_ | refine DX (by first | with_reducible assumption | omega) rfl ?_ | refine DW (by first | with_reducible assumption | omega) rfl ?_ | refine G8 ?_ | refine KI (fun _=> ?_) (fun _=> ?_))
 ·have e:decide (lo≤n∧n≤hi)=decide (n≤hi):=by rw [decide_eq_decide];omega
  rw [e] at h;exact h
 ·have e:decide (lo≤n∧n≤hi)=false:=decide_eq_false (by omega)
  rw [e] at h;exact h
theorem L4 {s g:Int} {K:J2} (h:K [I (CM s g)] []):cl2 ⟨Try.prog,w0⟩ 98 FY.sg [I s,I g] [] K:=by
 refine FY.cl2 ?_
 unfold FY.txt
 repeat' (first | refine IT ?_ | refine RX ⟨by omega,by omega⟩ ?_ | refine BW ?_ | refine NU (by first | with_reducible assumption | omega) ?_ | refine F8 (by first | with_reducible assumption | omega) ?_ | refine DX (by first | with_reducible assumption | omega) rfl ?_ | refine DW (by first | with_reducible assumption | omega) rfl ?_ | refine B6 ?_ | refine D7 ?_ | refine ET ⟨by omega,by omega⟩ ?_ | refine AW (fun _=> ?_) (fun _=> ?_) | refine LP (fun _=> ?_) (fun _=> ?_))
 ·rw [CM,if_neg (by omega)] at h;exact h
 ·rw [CM,if_pos (by omega)] at h;exact h
 ·rw [CM,if_neg (by omega)] at h;exact h
theorem IW {s g:Int} {K:J2} (h:K [I (CM s g)] []):cl2 ⟨Try.prog,w0⟩ 61 DT.sg [I s,I g] [] K:=by
 refine DT.cl2 ?_
 unfold DT.txt
 repeat' (first | refine DS ?_ | refine RX ⟨by omega,by omega⟩ ?_ | refine BW ?_ | refine NU (by first | with_reducible assumption | omega) ?_ | refine F8 (by first | with_reducible assumption | omega) ?_ | refine DX (by first | with_reducible assumption | omega) rfl ?_ | refine DW (by first | with_reducible assumption | omega) rfl ?_ | refine B6 ?_ | refine D7 ?_ | refine ET ⟨by omega,by omega⟩ ?_ | refine AW (fun _=> ?_) (fun _=> ?_) | refine LP (fun _=> ?_) (fun _=> ?_))
 ·rw [CM,if_neg (by omega)] at h;exact h
 ·rw [CM,if_pos (by omega)] at h;exact h
 ·rw [CM,if_neg (by omega)] at h;exact h
theorem HF {l:List AU} {id:Int} (h:id<8∨l.length≠8):AB l id= -1:=if_pos h
theorem JQ {l:List AU} {id:Int} (h1:8≤id) (h2:l.length=8) (hl:(id % 8).toNat<l.length) (h3:(ob l (id % 8).toNat).live=true) (h4:(ob l (id % 8).toNat).gen=id/8):AB l id=id % 8:=by
 rw [AB,if_neg (by omega),if_pos ⟨h3,h4⟩]
theorem HS {l:List AU} {id:Int} (hl:(id % 8).toNat<l.length) (h:(ob l (id % 8).toNat).live=false∨(ob l (id % 8).toNat).gen≠id/8):AB l id= -1:=by
 rw [AB]
 split
 ·rfl
 ·rw [if_neg]
  rintro ⟨h1,h2⟩
  rcases h with h | h
  ·rw [h] at h1;cases h1
  ·exact h h2
theorem C6 {a:List AU} {b c d:List T} {id:Int} {K:J2} (hid:F64 id) (hl:(a.length:Int)<2^62) (h:K [I (AB a id)] []):cl2 ⟨Try.prog,w0⟩ 81 BZ.sg [I id] [tR tO a,b,c,d] K:=by
 obtain ⟨i1,i2⟩:=hid
 refine BZ.cl2 ?_
 unfold BZ.txt
 simp only [AG,AK,AN,AM,AI,AD,AE,AP,AO,AJ,AQ,AR,AL,AH,BE,BJ,BH,BG,BK,BI,BF,A4,A8,A7,A6,A5,AZ]
 repeat' (first | refine BW ?_ | refine RY (by with_reducible assumption) ?_ | refine fM (by with_reducible assumption) ?_ | refine qV (by with_reducible assumption) rfl ?_ | refine sY (by with_reducible assumption) rfl ?_ | refine DX (by first | with_reducible assumption | omega) rfl ?_ | refine DW (by first | with_reducible assumption | omega) rfl ?_ | refine B6 ?_ | refine AX ?_ | refine CN ?_ | refine QX (by omega) (by omega) ?_ | refine gL (by omega) ⟨by omega,by omega⟩ (by omega) ?_ | refine O5 (by omega) (by omega) ?_ | refine MB (by omega) ?_ | refine AW (fun _=> ?_) (fun _=> ?_) | refine LP (fun _=> ?_) (fun _=> ?_) | refine mE (fun _=> ?_) (fun _=> ?_) | refine CT ?_)
 ·rw [HF (by omega)] at h;exact h
 ·rw [HS (by omega) (.inr (by assumption))] at h;exact h
 ·rename_i e1 e2
  rw [JQ (by omega) (by omega) (by omega) (by simpa using e1) (by simpa using e2)] at h;exact h
 ·rename_i e1
  rw [HS (by omega) (.inl (by simpa using e1))] at h;exact h
 ·rw [HF (by omega)] at h;exact h
theorem CO {a:List AU} {b c d:List T} {id:Int} {K:J2} (hid:F64 id) (hl:(a.length:Int)<2^62) (h:K [I (AB a id)] []):cl2 ⟨Try.prog,w0⟩ 24 BU.sg [I id] [tR tO a,b,c,d] K:=by
 obtain ⟨i1,i2⟩:=hid
 refine BU.cl2 ?_
 unfold BU.txt
 simp only [AG,AK,AN,AM,AI,AD,AE,AP,AO,AJ,AQ,AR,AL,AH,BE,BJ,BH,BG,BK,BI,BF,A4,A8,A7,A6,A5,AZ]
 repeat' (first | refine BW ?_ | refine RY (by with_reducible assumption) ?_ | refine fM (by with_reducible assumption) ?_ | refine qV (by with_reducible assumption) rfl ?_ | refine sY (by with_reducible assumption) rfl ?_ | refine DX (by first | with_reducible assumption | omega) rfl ?_ | refine DW (by first | with_reducible assumption | omega) rfl ?_ | refine B6 ?_ | refine AX ?_ | refine CN ?_ | refine QX (by omega) (by omega) ?_ | refine gL (by omega) ⟨by omega,by omega⟩ (by omega) ?_ | refine O5 (by omega) (by omega) ?_ | refine HJ (by omega) (by decide) rfl ?_ | refine J1 (by omega) rfl ?_ | refine AW (fun _=> ?_) (fun _=> ?_) | refine LP (fun _=> ?_) (fun _=> ?_) | refine mE (fun _=> ?_) (fun _=> ?_) | refine CT ?_)
 ·rw [HF (by omega)] at h;exact h
 ·rw [HS (by omega) (.inr (by assumption))] at h;exact h
 ·rename_i e1 e2
  rw [JQ (by omega) (by omega) (by omega) (by simpa using e1) (by simpa using e2)] at h;exact h
 ·rename_i e1
  rw [HS (by omega) (.inl (by simpa using e1))] at h;exact h
 ·rw [HF (by omega)] at h;exact h
end Go.Proofs.Ytklmcfpgdfibnaa.P
