/- A part of the proof. -/
import Derived.Test.YtklmcfpgdfibnaaTrLawHp
import Derived.Test.YtklmcfpgdfibnaaTrLawTyWeak
namespace Go.Proofs.Ytklmcfpgdfibnaa.P
open Go Go.Proofs.Ytklmcfpgdfibnaa Go.Proofs.Ytklmcfpgdfibnaa.Eng
set_option maxHeartbeats 4000000
set_option linter.unusedVariables false
set_option linter.unusedSimpArgs false
attribute [local irreducible] prP gP gE gF AX ixW ldc ldg ldl stc stg scW mkW apW BF cl2 BS DK CW
variable {w0:World}
def pick {α:Type} (f:Nat→List α):Nat→List α
 | 0=>[]
 | n+1=>pick f n++f n
theorem HY {α:Type} {f:Nat→List α} (h: ∀i,(f i).length≤1): ∀n,(pick f n).length≤n
 | 0=>Nat.le_refl _
 | n+1=>by have:=HY h n;have:=h n;simp only [pick,List.length_append];omega
theorem OQ {α:Type} {f:Nat→List α} {m:Nat} (h: ∀i,m≤i→f i=[]): ∀n,m≤n→pick f n=pick f m
 | 0,hn=>by rw [Nat.le_zero.1 hn]
 | n+1,hn=>by
   rcases Nat.lt_or_ge n m with h1 | h1
   ·rw [show n+1=m by omega]
   ·rw [pick,h n h1,List.append_nil,OQ h n h1]
theorem aB {α:Type} {f:Nat→List α} {n:Nat} {l:List α} (h:f n=l):pick f n++l=pick f (n+1):=by rw [pick,h]
theorem W6 {α:Type} {f:Nat→List α} {n:Nat} (h:f n=[]):pick f n=pick f (n+1):=by rw [pick,h,List.append_nil]
def CC (s g:Int):Int:=if (0≤s∧s≤7)∧1≤g∧g≤999 then s+8*g else -1
def AA (l:List AG) (id:Int):Int:=if id<8∨l.length≠8 then -1 else if (ob l (id % 8).toNat).live=true∧(ob l (id % 8).toNat).gen=id/8 then id % 8 else -1
theorem WN {n lo hi:Int} {K:J2} (h:K [.bool (decide (lo≤n∧n≤hi))] []):cl2 ⟨Try.prog,w0⟩ 131 KC.sg [I n,I lo,I hi] [] K:=by
 refine KC.cl2 ?_
 unfold KC.txt
 repeat' (first | refine BX ?_ | refine FG (by first | with_reducible assumption | omega) rfl ?_ | refine FM (by first | with_reducible assumption | omega) rfl ?_ | refine JJ ?_ | refine LD (fun _=> ?_) (fun _=> ?_))
 ·have e:decide (lo≤n∧n≤hi)=decide (n≤hi):=by rw [decide_eq_decide];omega
  rw [e] at h;exact h
 ·have e:decide (lo≤n∧n≤hi)=false:=decide_eq_false (by omega)
  rw [e] at h;exact h
theorem DD {n lo hi:Int} {K:J2} (h:K [.bool (decide (lo≤n∧n≤hi))] []):cl2 ⟨Try.prog,w0⟩ 87 B6.sg [I n,I lo,I hi] [] K:=by
 refine B6.cl2 ?_
 unfold B6.txt
 repeat' (first | refine BX ?_ | refine FG (by first | with_reducible assumption | omega) rfl ?_ | refine FM (by first | with_reducible assumption | omega) rfl ?_ | refine JJ ?_ | refine LD (fun _=> ?_) (fun _=> ?_))
 ·have e:decide (lo≤n∧n≤hi)=decide (n≤hi):=by rw [decide_eq_decide];omega
  rw [e] at h;exact h
 ·have e:decide (lo≤n∧n≤hi)=false:=decide_eq_false (by omega)
  rw [e] at h;exact h
theorem FE {s g:Int} {K:J2} (h:K [I (CC s g)] []):cl2 ⟨Try.prog,w0⟩ 61 B9.sg [I s,I g] [] K:=by
 refine B9.cl2 ?_
 unfold B9.txt
 repeat' (first | refine DD ?_ | refine TI ⟨by omega,by omega⟩ ?_ | refine BX ?_ | refine SM (by first | with_reducible assumption | omega) ?_ | refine IZ (by first | with_reducible assumption | omega) ?_ | refine FG (by first | with_reducible assumption | omega) rfl ?_ | refine FM (by first | with_reducible assumption | omega) rfl ?_ | refine CQ ?_ | refine F8 ?_ | refine FY ⟨by omega,by omega⟩ ?_ | refine AW (fun _=> ?_) (fun _=> ?_) | refine NC (fun _=> ?_) (fun _=> ?_))
 ·rw [CC,if_neg (by omega)] at h;exact h
 ·rw [CC,if_pos (by omega)] at h;exact h
 ·rw [CC,if_neg (by omega)] at h;exact h
theorem EN {l:List AG} {id:Int} (h:id<8∨l.length≠8):AA l id= -1:=if_pos h
theorem G5 {l:List AG} {id:Int} (h1:8≤id) (h2:l.length=8) (hl:(id % 8).toNat<l.length) (h3:(ob l (id % 8).toNat).live=true) (h4:(ob l (id % 8).toNat).gen=id/8):AA l id=id % 8:=by
 rw [AA,if_neg (by omega),if_pos ⟨h3,h4⟩]
theorem GZ {l:List AG} {id:Int} (hl:(id % 8).toNat<l.length) (h:(ob l (id % 8).toNat).live=false∨(ob l (id % 8).toNat).gen≠id/8):AA l id= -1:=by
 rw [AA]
 split
 ·rfl
 ·rw [if_neg]
  rintro ⟨h1,h2⟩
  rcases h with h | h
  ·rw [h] at h1;cases h1
  ·exact h h2
theorem WG {a:List AG} {b c d:List T} {id:Int} {K:J2} (hid:F64 id) (hl:(a.length:Int)<2^62) (h:K [I (AA a id)] []):cl2 ⟨Try.prog,w0⟩ 81 F5.sg [I id] [tR tO a,b,c,d] K:=by
 obtain ⟨i1,i2⟩:=hid
 refine F5.cl2 ?_
 unfold F5.txt
 simp only [AJ,AT,AL,AR,AS,AE,AI,AU,AK,AN,AO,AQ,AM,AP,BJ,BO,BL,BM,BN,BP,BK,A9,A4,A6,A7,A8,A5]
 repeat' (first | refine BX ?_ | refine Q5 (by with_reducible assumption) ?_ | refine eD (by with_reducible assumption) ?_ | refine rS (by with_reducible assumption) rfl ?_ | refine rC (by with_reducible assumption) rfl ?_ | refine FG (by first | with_reducible assumption | omega) rfl ?_ | refine FM (by first | with_reducible assumption | omega) rfl ?_ | refine CQ ?_ | refine BA ?_ | refine CI ?_ | refine TP (by omega) (by omega) ?_ | refine gH (by omega) ⟨by omega,by omega⟩ (by omega) ?_ | refine SF (by omega) (by omega) ?_ | refine UZ (by omega) ?_ | refine AW (fun _=> ?_) (fun _=> ?_) | refine NC (fun _=> ?_) (fun _=> ?_) | refine lU (fun _=> ?_) (fun _=> ?_) | refine CT ?_)
 ·rw [EN (by omega)] at h;exact h
 ·rw [GZ (by omega) (.inr (by assumption))] at h;exact h
 ·rename_i e1 e2
  rw [G5 (by omega) (by omega) (by omega) (by simpa using e1) (by simpa using e2)] at h;exact h
 ·rename_i e1
  rw [GZ (by omega) (.inl (by simpa using e1))] at h;exact h
 ·rw [EN (by omega)] at h;exact h
theorem B2 {a:List AG} {b c d:List T} {id:Int} {K:J2} (hid:F64 id) (hl:(a.length:Int)<2^62) (h:K [I (AA a id)] []):cl2 ⟨Try.prog,w0⟩ 24 BH.sg [I id] [tR tO a,b,c,d] K:=by
 obtain ⟨i1,i2⟩:=hid
 refine BH.cl2 ?_
 unfold BH.txt
 simp only [AJ,AT,AL,AR,AS,AE,AI,AU,AK,AN,AO,AQ,AM,AP,BJ,BO,BL,BM,BN,BP,BK,A9,A4,A6,A7,A8,A5]
 repeat' (first | refine BX ?_ | refine Q5 (by with_reducible assumption) ?_ | refine eD (by with_reducible assumption) ?_ | refine rS (by with_reducible assumption) rfl ?_ | refine rC (by with_reducible assumption) rfl ?_ | refine FG (by first | with_reducible assumption | omega) rfl ?_ | refine FM (by first | with_reducible assumption | omega) rfl ?_ | refine CQ ?_ | refine BA ?_ | refine CI ?_ | refine TP (by omega) (by omega) ?_ | refine gH (by omega) ⟨by omega,by omega⟩ (by omega) ?_ | refine SF (by omega) (by omega) ?_ | refine HO (by omega) (by decide) rfl ?_ | refine HZ (by omega) rfl ?_ | refine AW (fun _=> ?_) (fun _=> ?_) | refine NC (fun _=> ?_) (fun _=> ?_) | refine lU (fun _=> ?_) (fun _=> ?_) | refine CT ?_)
 ·rw [EN (by omega)] at h;exact h
 ·rw [GZ (by omega) (.inr (by assumption))] at h;exact h
 ·rename_i e1 e2
  rw [G5 (by omega) (by omega) (by omega) (by simpa using e1) (by simpa using e2)] at h;exact h
 ·rename_i e1
  rw [GZ (by omega) (.inl (by simpa using e1))] at h;exact h
 ·rw [EN (by omega)] at h;exact h
def R8 (l:List AG) (i:Nat):List Int:=if (i:Int)<8∧(ob l i).live=true∧w64 ((ob l i).holds+(ob l i).roots)>0 then [CC i (ob l i).gen] else []
def exts (l:List AG):List Int:=pick (R8 l) l.length
theorem bS (l:List AG) (i:Nat):(R8 l i).length≤1:=by unfold R8;split <;> simp
theorem RM {a:List AG} {b c d:List T} {K:J2} (hl:(a.length:Int)≤1048576) (h:K [] [tI (exts a)]):cl2 ⟨Try.prog,w0⟩ 33 DT.sg [] [tR tO a,b,c,d] K:=by
 refine DT.cl2 ?_
 unfold DT.txt
 refine BG (fun i=>[iv i]) (fun i=>[tI (pick (R8 a) i)]) a.length (fun _=>True) rfl rfl trivial (fun R i hi hP hR=> ?_)
 have hp:=HY (bS a) i
 have hs: ∀i,8≤i→R8 a i=[]:=fun i hi=>by rw [R8,if_neg (by omega)]
 simp only [AJ,AT,AL,AR,AS,AE,AI,AU,AK,AN,AO,AQ,AM,AP,BJ,BO,BL,BM,BN,BP,BK,A9,A4,A6,A7,A8,A5]
 repeat' (first | refine BT ?_ | refine FE ?_ | refine BX ?_ | refine Q5 (by with_reducible assumption) ?_ | refine oY (by with_reducible assumption) ?_ | refine rS (by with_reducible assumption) rfl ?_ | refine rC (by with_reducible assumption) rfl ?_ | refine FG (by first | with_reducible assumption | omega) rfl ?_ | refine FM (by first | with_reducible assumption | omega) rfl ?_ | refine CB ?_ | refine BA ?_ | refine BB (by omega) ?_ | refine G3 ?_ | refine AH (by omega) ?_ | refine HO (by omega) (by decide) rfl ?_ | refine HZ (by omega) rfl ?_ | refine EH (by first | exact LH _ | exact dZ _ | exact eI _ | exact oW _ | rfl) (by omega) ?_ | refine AW (fun _=> ?_) (fun _=> ?_) | refine LD (fun _=> ?_) (fun _=> ?_) | refine pG (fun _=> ?_) (fun _=> ?_) | simp only [AJ,AT,AL,AR,AS,AE,AI,AU,AK,AN,AO,AQ,AM,AP,BJ,BO,BL,BM,BN,BP,BK,A9,A4,A6,A7,A8,A5])
 all_goals first
  | (rw [DJ,aB (f:=R8 a) (by simp [R8, *])];exact hR (by omega) trivial)
  | (rw [W6 (f:=R8 a) (by simp [R8, *])];exact hR (by omega) trivial)
  | (rw [exts,OQ hs a.length (by omega), ←OQ hs i (by omega)] at h;exact h)
  | (have:i=a.length:=by omega
     subst this;exact h)
end Go.Proofs.Ytklmcfpgdfibnaa.P
namespace Go.Proofs.Ytklmcfpgdfibnaa.P
open Go Go.Proofs.Ytklmcfpgdfibnaa Go.Proofs.Ytklmcfpgdfibnaa.Eng
set_option maxHeartbeats 4000000
set_option linter.unusedVariables false
set_option linter.unusedSimpArgs false
attribute [local irreducible] prP gP gE gF AX ixW ldc ldg ldl stc stg scW mkW apW BF cl2 BS DK CW
variable {w0:World}
end Go.Proofs.Ytklmcfpgdfibnaa.P
namespace Go.Proofs.Ytklmcfpgdfibnaa.P
open Go Go.Proofs.Ytklmcfpgdfibnaa Go.Proofs.Ytklmcfpgdfibnaa.Eng
set_option maxHeartbeats 4000000
set_option linter.unusedVariables false
set_option linter.unusedSimpArgs false
attribute [local irreducible] prP gP gE gF AX ixW ldc ldg ldl stc stg scW mkW apW BF cl2 BS DK CW
variable {w0:World}
end Go.Proofs.Ytklmcfpgdfibnaa.P
namespace Go.Proofs.Ytklmcfpgdfibnaa.P
open Go Go.Proofs.Ytklmcfpgdfibnaa Go.Proofs.Ytklmcfpgdfibnaa.Eng
set_option maxHeartbeats 4000000
set_option linter.unusedVariables false
set_option linter.unusedSimpArgs false
attribute [local irreducible] prP gP gE gF AX ixW ldc ldg ldl stc stg scW mkW apW BF cl2 BS DK CW
variable {w0:World}
def cL (o:Nd):Int:=5+(o.field.length:Int)
theorem lE (o:Nd):0≤cL o:=by unfold cL;omega
end Go.Proofs.Ytklmcfpgdfibnaa.P
