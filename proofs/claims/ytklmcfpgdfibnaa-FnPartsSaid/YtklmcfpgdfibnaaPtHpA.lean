/- A part of the proof. -/
import Derived.Test.YtklmcfpgdfibnaaPtLawHp
namespace Go.Proofs.Ytklmcfpgdfibnaa.P
open Go Go.Proofs.Ytklmcfpgdfibnaa Go.Proofs.Ytklmcfpgdfibnaa.Eng
set_option maxHeartbeats 4000000
set_option linter.unusedVariables false
set_option linter.unusedSimpArgs false
attribute [local irreducible] prP gP gE gF AW ixW ldc ldg ldl stc stg scW mkW apW BK cl2 BW EI CM
variable {w0:World}
def pick {α:Type} (f:Nat→List α):Nat→List α
 | 0=>[]
 | n+1=>pick f n++f n
theorem JI {α:Type} {f:Nat→List α} (h: ∀i,(f i).length≤1): ∀n,(pick f n).length≤n
 | 0=>Nat.le_refl _
 | n+1=>by have:=JI h n;have:=h n;simp only [pick,List.length_append];omega
theorem XQ {α:Type} {f:Nat→List α} {m:Nat} (h: ∀i,m≤i→f i=[]): ∀n,m≤n→pick f n=pick f m
 | 0,hn=>by rw [Nat.le_zero.1 hn]
 | n+1,hn=>by
   rcases Nat.lt_or_ge n m with h1 | h1
   ·rw [show n+1=m by omega]
   ·rw [pick,h n h1,List.append_nil,XQ h n h1]
theorem lG {α:Type} {f:Nat→List α} {n:Nat} {l:List α} (h:f n=l):pick f n++l=pick f (n+1):=by rw [pick,h]
theorem iW {α:Type} {f:Nat→List α} {n:Nat} (h:f n=[]):pick f n=pick f (n+1):=by rw [pick,h,List.append_nil]
def CH (s g:Int):Int:=if (0≤s∧s≤7)∧1≤g∧g≤999 then s+8*g else -1
def AB (l:List AU) (id:Int):Int:=if id<8∨l.length≠8 then -1 else if (ob l (id % 8).toNat).live=true∧(ob l (id % 8).toNat).gen=id/8 then id % 8 else -1
theorem GI {n lo hi:Int} {K:J2} (h:K [.bool (decide (lo≤n∧n≤hi))] []):cl2 ⟨Try.prog,w0⟩ 131 C3.sg [I n,I lo,I hi] [] K:=by
 refine C3.cl2 ?_
 unfold C3.txt
 repeat' (first | refine BO ?_ | refine C4 (by first | with_reducible assumption | omega) rfl ?_ | refine C5 (by first | with_reducible assumption | omega) rfl ?_ | refine GQ ?_ | refine I1 (fun _=> ?_) (fun _=> ?_))
 ·have e:decide (lo≤n∧n≤hi)=decide (n≤hi):=by rw [decide_eq_decide];omega
  rw [e] at h;exact h
 ·have e:decide (lo≤n∧n≤hi)=false:=decide_eq_false (by omega)
  rw [e] at h;exact h
theorem DX {n lo hi:Int} {K:J2} (h:K [.bool (decide (lo≤n∧n≤hi))] []):cl2 ⟨Try.prog,w0⟩ 87 B9.sg [I n,I lo,I hi] [] K:=by
 refine B9.cl2 ?_
 unfold B9.txt
 repeat' (first | refine BO ?_ | refine C4 (by first | with_reducible assumption | omega) rfl ?_ | refine C5 (by first | with_reducible assumption | omega) rfl ?_ | refine GQ ?_ | refine I1 (fun _=> ?_) (fun _=> ?_))
 ·have e:decide (lo≤n∧n≤hi)=decide (n≤hi):=by rw [decide_eq_decide];omega
  rw [e] at h;exact h
 ·have e:decide (lo≤n∧n≤hi)=false:=decide_eq_false (by omega)
  rw [e] at h;exact h
theorem KH {s g:Int} {K:J2} (h:K [I (CH s g)] []):cl2 ⟨Try.prog,w0⟩ 98 EJ.sg [I s,I g] [] K:=by
 refine EJ.cl2 ?_
 unfold EJ.txt
 repeat' (first | refine GI ?_ | refine NW ⟨by omega,by omega⟩ ?_ | refine BO ?_ | refine KG (by first | with_reducible assumption | omega) ?_ | refine F5 (by first | with_reducible assumption | omega) ?_ | refine C4 (by first | with_reducible assumption | omega) rfl ?_ | refine C5 (by first | with_reducible assumption | omega) rfl ?_ | refine BX ?_ | refine DI ?_ | refine D4 ⟨by omega,by omega⟩ ?_ | refine AV (fun _=> ?_) (fun _=> ?_) | refine JF (fun _=> ?_) (fun _=> ?_))
 ·rw [CH,if_neg (by omega)] at h;exact h
 ·rw [CH,if_pos (by omega)] at h;exact h
 ·rw [CH,if_neg (by omega)] at h;exact h
theorem I6 {s g:Int} {K:J2} (h:K [I (CH s g)] []):cl2 ⟨Try.prog,w0⟩ 61 DZ.sg [I s,I g] [] K:=by
 refine DZ.cl2 ?_
 unfold DZ.txt
 repeat' (first | refine DX ?_ | refine NW ⟨by omega,by omega⟩ ?_ | refine BO ?_ | refine KG (by first | with_reducible assumption | omega) ?_ | refine F5 (by first | with_reducible assumption | omega) ?_ | refine C4 (by first | with_reducible assumption | omega) rfl ?_ | refine C5 (by first | with_reducible assumption | omega) rfl ?_ | refine BX ?_ | refine DI ?_ | refine D4 ⟨by omega,by omega⟩ ?_ | refine AV (fun _=> ?_) (fun _=> ?_) | refine JF (fun _=> ?_) (fun _=> ?_))
 ·rw [CH,if_neg (by omega)] at h;exact h
 ·rw [CH,if_pos (by omega)] at h;exact h
 ·rw [CH,if_neg (by omega)] at h;exact h
theorem HS {l:List AU} {id:Int} (h:id<8∨l.length≠8):AB l id= -1:=if_pos h
theorem K7 {l:List AU} {id:Int} (h1:8≤id) (h2:l.length=8) (hl:(id % 8).toNat<l.length) (h3:(ob l (id % 8).toNat).live=true) (h4:(ob l (id % 8).toNat).gen=id/8):AB l id=id % 8:=by
 rw [AB,if_neg (by omega),if_pos ⟨h3,h4⟩]
theorem HL {l:List AU} {id:Int} (hl:(id % 8).toNat<l.length) (h:(ob l (id % 8).toNat).live=false∨(ob l (id % 8).toNat).gen≠id/8):AB l id= -1:=by
 rw [AB]
 split
 ·rfl
 ·rw [if_neg]
  rintro ⟨h1,h2⟩
  rcases h with h | h
  ·rw [h] at h1;cases h1
  ·exact h h2
theorem CQ {a:List AU} {b c d:List T} {id:Int} {K:J2} (hid:F64 id) (hl:(a.length:Int)<2^62) (h:K [I (AB a id)] []):cl2 ⟨Try.prog,w0⟩ 81 BT.sg [I id] [tR tO a,b,c,d] K:=by
 obtain ⟨i1,i2⟩:=hid
 refine BT.cl2 ?_
 unfold BT.txt
 simp only [AG,AM,AK,AP,AI,AD,AE,AR,AQ,AO,AL,AJ,AN,AH,BC,BF,BJ,BG,BH,BI,BE,A6,A7,A1,A4,A5,AZ]
 repeat' (first | refine BO ?_ | refine O8 (by with_reducible assumption) ?_ | refine Z3 (by with_reducible assumption) ?_ | refine j8 (by with_reducible assumption) rfl ?_ | refine lJ (by with_reducible assumption) rfl ?_ | refine C4 (by first | with_reducible assumption | omega) rfl ?_ | refine C5 (by first | with_reducible assumption | omega) rfl ?_ | refine BX ?_ | refine AX ?_ | refine B8 ?_ | refine P4 (by omega) (by omega) ?_ | refine gW (by omega) ⟨by omega,by omega⟩ (by omega) ?_ | refine PB (by omega) (by omega) ?_ | refine K9 (by omega) ?_ | refine AV (fun _=> ?_) (fun _=> ?_) | refine JF (fun _=> ?_) (fun _=> ?_) | refine hC (fun _=> ?_) (fun _=> ?_) | refine B1 ?_)
 ·rw [HS (by omega)] at h;exact h
 ·rw [HL (by omega) (.inr (by assumption))] at h;exact h
 ·rename_i e1 e2
  rw [K7 (by omega) (by omega) (by omega) (by simpa using e1) (by simpa using e2)] at h;exact h
 ·rename_i e1
  rw [HL (by omega) (.inl (by simpa using e1))] at h;exact h
 ·rw [HS (by omega)] at h;exact h
theorem CP {a:List AU} {b c d:List T} {id:Int} {K:J2} (hid:F64 id) (hl:(a.length:Int)<2^62) (h:K [I (AB a id)] []):cl2 ⟨Try.prog,w0⟩ 24 BY.sg [I id] [tR tO a,b,c,d] K:=by
 obtain ⟨i1,i2⟩:=hid
 refine BY.cl2 ?_
 unfold BY.txt
 simp only [AG,AM,AK,AP,AI,AD,AE,AR,AQ,AO,AL,AJ,AN,AH,BC,BF,BJ,BG,BH,BI,BE,A6,A7,A1,A4,A5,AZ]
 repeat' (first | refine BO ?_ | refine O8 (by with_reducible assumption) ?_ | refine Z3 (by with_reducible assumption) ?_ | refine j8 (by with_reducible assumption) rfl ?_ | refine lJ (by with_reducible assumption) rfl ?_ | refine C4 (by first | with_reducible assumption | omega) rfl ?_ | refine C5 (by first | with_reducible assumption | omega) rfl ?_ | refine BX ?_ | refine AX ?_ | refine B8 ?_ | refine P4 (by omega) (by omega) ?_ | refine gW (by omega) ⟨by omega,by omega⟩ (by omega) ?_ | refine PB (by omega) (by omega) ?_ | refine HX (by omega) (by decide) rfl ?_ | refine KB (by omega) rfl ?_ | refine AV (fun _=> ?_) (fun _=> ?_) | refine JF (fun _=> ?_) (fun _=> ?_) | refine hC (fun _=> ?_) (fun _=> ?_) | refine B1 ?_)
 ·rw [HS (by omega)] at h;exact h
 ·rw [HL (by omega) (.inr (by assumption))] at h;exact h
 ·rename_i e1 e2
  rw [K7 (by omega) (by omega) (by omega) (by simpa using e1) (by simpa using e2)] at h;exact h
 ·rename_i e1
  rw [HL (by omega) (.inl (by simpa using e1))] at h;exact h
 ·rw [HS (by omega)] at h;exact h
end Go.Proofs.Ytklmcfpgdfibnaa.P
