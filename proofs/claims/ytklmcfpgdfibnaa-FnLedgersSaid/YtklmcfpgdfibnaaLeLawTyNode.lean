/- A part of the proof. -/
import Derived.Test.YtklmcfpgdfibnaaLeLawHp
import Derived.Test.YtklmcfpgdfibnaaLeLawTyWeak
namespace Go.Proofs.Ytklmcfpgdfibnaa.P
open Go Go.Proofs.Ytklmcfpgdfibnaa Go.Proofs.Ytklmcfpgdfibnaa.Eng
set_option maxHeartbeats 4000000
set_option linter.unusedVariables false
set_option linter.unusedSimpArgs false
attribute [local irreducible] prP gP gE gF AJ ixW ldc ldg ldl stc stg scW mkW apW A6 cl2 BF CM CB
variable {w0:World}
def pick {α:Type} (f:Nat→List α):Nat→List α
 | 0=>[]
 | n+1=>pick f n++f n
theorem MQ {α:Type} {f:Nat→List α} (h: ∀i,(f i).length≤1): ∀n,(pick f n).length≤n
 | 0=>Nat.le_refl _
 | n+1=>by have:=MQ h n;have:=h n;simp only [pick,List.length_append];omega
theorem YH {α:Type} {f:Nat→List α} {m:Nat} (h: ∀i,m≤i→f i=[]): ∀n,m≤n→pick f n=pick f m
 | 0,hn=>by rw [Nat.le_zero.1 hn]
 | n+1,hn=>by
   rcases Nat.lt_or_ge n m with h1 | h1
   ·rw [show n+1=m by omega]
   ·rw [pick,h n h1,List.append_nil,YH h n h1]
theorem qO {α:Type} {f:Nat→List α} {n:Nat} {l:List α} (h:f n=l):pick f n++l=pick f (n+1):=by rw [pick,h]
theorem lB {α:Type} {f:Nat→List α} {n:Nat} (h:f n=[]):pick f n=pick f (n+1):=by rw [pick,h,List.append_nil]
def B2 (s g:Int):Int:=if (0≤s∧s≤7)∧1≤g∧g≤999 then s+8*g else -1
def AA (l:List AE) (id:Int):Int:=if id<8∨l.length≠8 then -1 else if (ob l (id % 8).toNat).live=true∧(ob l (id % 8).toNat).gen=id/8 then id % 8 else -1
theorem DB {n lo hi:Int} {K:J2} (h:K [.bool (decide (lo≤n∧n≤hi))] []):cl2 ⟨Try.prog,w0⟩ 87 B9.sg [I n,I lo,I hi] [] K:=by
 refine B9.cl2 ?_
 unfold B9.txt
 repeat' (first | refine BH ?_ | refine GC (by first | with_reducible assumption | omega) rfl ?_ | refine F7 (by first | with_reducible assumption | omega) rfl ?_ | refine KO ?_ | refine NV (fun _=> ?_) (fun _=> ?_))
 ·have e:decide (lo≤n∧n≤hi)=decide (n≤hi):=by rw [decide_eq_decide];omega
  rw [e] at h;exact h
 ·have e:decide (lo≤n∧n≤hi)=false:=decide_eq_false (by omega)
  rw [e] at h;exact h
theorem IP {s g:Int} {K:J2} (h:K [I (B2 s g)] []):cl2 ⟨Try.prog,w0⟩ 61 DF.sg [I s,I g] [] K:=by
 refine DF.cl2 ?_
 unfold DF.txt
 repeat' (first | refine DB ?_ | refine UI ⟨by omega,by omega⟩ ?_ | refine BH ?_ | refine TD (by first | with_reducible assumption | omega) ?_ | refine G6 (by first | with_reducible assumption | omega) ?_ | refine GC (by first | with_reducible assumption | omega) rfl ?_ | refine F7 (by first | with_reducible assumption | omega) rfl ?_ | refine CU ?_ | refine G5 ?_ | refine EB ⟨by omega,by omega⟩ ?_ | refine AY (fun _=> ?_) (fun _=> ?_) | refine OK (fun _=> ?_) (fun _=> ?_))
 ·rw [B2,if_neg (by omega)] at h;exact h
 ·rw [B2,if_pos (by omega)] at h;exact h
 ·rw [B2,if_neg (by omega)] at h;exact h
theorem G8 {l:List AE} {id:Int} (h:id<8∨l.length≠8):AA l id= -1:=if_pos h
theorem IJ {l:List AE} {id:Int} (h1:8≤id) (h2:l.length=8) (hl:(id % 8).toNat<l.length) (h3:(ob l (id % 8).toNat).live=true) (h4:(ob l (id % 8).toNat).gen=id/8):AA l id=id % 8:=by
 rw [AA,if_neg (by omega),if_pos ⟨h3,h4⟩]
theorem IG {l:List AE} {id:Int} (hl:(id % 8).toNat<l.length) (h:(ob l (id % 8).toNat).live=false∨(ob l (id % 8).toNat).gen≠id/8):AA l id= -1:=by
 rw [AA]
 split
 ·rfl
 ·rw [if_neg]
  rintro ⟨h1,h2⟩
  rcases h with h | h
  ·rw [h] at h1;cases h1
  ·exact h h2
theorem CL {a:List AE} {b c d:List T} {id:Int} {K:J2} (hid:F64 id) (hl:(a.length:Int)<2^62) (h:K [I (AA a id)] []):cl2 ⟨Try.prog,w0⟩ 24 BP.sg [I id] [tR tO a,b,c,d] K:=by
 obtain ⟨i1,i2⟩:=hid
 refine BP.cl2 ?_
 unfold BP.txt
 simp only [AN,AV,AK,AM,AU,AH,AL,AW,AO,AR,AS,AQ,AT,AP,BQ,BU,BY,BX,BZ,BW,BT,A7,BA,BB,A9,BC,A8]
 repeat' (first | refine BH ?_ | refine WL (by with_reducible assumption) ?_ | refine tL (by with_reducible assumption) ?_ | refine Aw (by with_reducible assumption) rfl ?_ | refine Aq (by with_reducible assumption) rfl ?_ | refine GC (by first | with_reducible assumption | omega) rfl ?_ | refine F7 (by first | with_reducible assumption | omega) rfl ?_ | refine CU ?_ | refine A4 ?_ | refine C0 ?_ | refine ZN (by omega) (by omega) ?_ | refine sE (by omega) ⟨by omega,by omega⟩ (by omega) ?_ | refine V3 (by omega) (by omega) ?_ | refine KC (by omega) (by decide) rfl ?_ | refine KL (by omega) rfl ?_ | refine AY (fun _=> ?_) (fun _=> ?_) | refine OK (fun _=> ?_) (fun _=> ?_) | refine vD (fun _=> ?_) (fun _=> ?_) | refine EJ ?_)
 ·rw [G8 (by omega)] at h;exact h
 ·rw [IG (by omega) (.inr (by assumption))] at h;exact h
 ·rename_i e1 e2
  rw [IJ (by omega) (by omega) (by omega) (by simpa using e1) (by simpa using e2)] at h;exact h
 ·rename_i e1
  rw [IG (by omega) (.inl (by simpa using e1))] at h;exact h
 ·rw [G8 (by omega)] at h;exact h
def mE (l:List AE) (i:Nat):List Int:=if (i:Int)<8∧(ob l i).live=true∧w64 ((ob l i).holds+(ob l i).roots)>0 then [B2 i (ob l i).gen] else []
def exts (l:List AE):List Int:=pick (mE l) l.length
end Go.Proofs.Ytklmcfpgdfibnaa.P
namespace Go.Proofs.Ytklmcfpgdfibnaa.P
open Go Go.Proofs.Ytklmcfpgdfibnaa Go.Proofs.Ytklmcfpgdfibnaa.Eng
set_option maxHeartbeats 4000000
set_option linter.unusedVariables false
set_option linter.unusedSimpArgs false
attribute [local irreducible] prP gP gE gF AJ ixW ldc ldg ldl stc stg scW mkW apW A6 cl2 BF CM CB
variable {w0:World}
end Go.Proofs.Ytklmcfpgdfibnaa.P
namespace Go.Proofs.Ytklmcfpgdfibnaa.P
open Go Go.Proofs.Ytklmcfpgdfibnaa Go.Proofs.Ytklmcfpgdfibnaa.Eng
set_option maxHeartbeats 4000000
set_option linter.unusedVariables false
set_option linter.unusedSimpArgs false
attribute [local irreducible] prP gP gE gF AJ ixW ldc ldg ldl stc stg scW mkW apW A6 cl2 BF CM CB
variable {w0:World}
end Go.Proofs.Ytklmcfpgdfibnaa.P
namespace Go.Proofs.Ytklmcfpgdfibnaa.P
open Go Go.Proofs.Ytklmcfpgdfibnaa Go.Proofs.Ytklmcfpgdfibnaa.Eng
set_option maxHeartbeats 4000000
set_option linter.unusedVariables false
set_option linter.unusedSimpArgs false
attribute [local irreducible] prP gP gE gF AJ ixW ldc ldg ldl stc stg scW mkW apW A6 cl2 BF CM CB
variable {w0:World}
def eV (o:Nd):Int:=5+(o.field.length:Int)
theorem o6 (o:Nd):0≤eV o:=by unfold eV;omega
end Go.Proofs.Ytklmcfpgdfibnaa.P
