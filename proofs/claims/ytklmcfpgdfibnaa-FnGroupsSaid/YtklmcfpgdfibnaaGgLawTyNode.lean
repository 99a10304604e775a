/- A part of the proof. -/
import Derived.Test.YtklmcfpgdfibnaaGgLawHp
import Derived.Test.YtklmcfpgdfibnaaGgLawTyWeak
namespace Go.Proofs.Ytklmcfpgdfibnaa.P
open Go Go.Proofs.Ytklmcfpgdfibnaa Go.Proofs.Ytklmcfpgdfibnaa.Eng
set_option maxHeartbeats 4000000
set_option linter.unusedVariables false
set_option linter.unusedSimpArgs false
attribute [local irreducible] prP gP gE gF AV ixW ldc ldg ldl stc stg scW mkW apW BC cl2 BS CU B1
variable {w0:World}
def pick {α:Type} (f:Nat→List α):Nat→List α
 | 0=>[]
 | n+1=>pick f n++f n
theorem KY {α:Type} {f:Nat→List α} (h: ∀i,(f i).length≤1): ∀n,(pick f n).length≤n
 | 0=>Nat.le_refl _
 | n+1=>by have:=KY h n;have:=h n;simp only [pick,List.length_append];omega
theorem YF {α:Type} {f:Nat→List α} {m:Nat} (h: ∀i,m≤i→f i=[]): ∀n,m≤n→pick f n=pick f m
 | 0,hn=>by rw [Nat.le_zero.1 hn]
 | n+1,hn=>by
   rcases Nat.lt_or_ge n m with h1 | h1
   ·rw [show n+1=m by omega]
   ·rw [pick,h n h1,List.append_nil,YF h n h1]
theorem b9 {α:Type} {f:Nat→List α} {n:Nat} {l:List α} (h:f n=l):pick f n++l=pick f (n+1):=by rw [pick,h]
theorem S8 {α:Type} {f:Nat→List α} {n:Nat} (h:f n=[]):pick f n=pick f (n+1):=by rw [pick,h,List.append_nil]
def CA (s g:Int):Int:=if (0≤s∧s≤7)∧1≤g∧g≤999 then s+8*g else -1
def AA (l:List AG) (id:Int):Int:=if id<8∨l.length≠8 then -1 else if (ob l (id % 8).toNat).live=true∧(ob l (id % 8).toNat).gen=id/8 then id % 8 else -1
theorem jV {n lo hi:Int} {K:J2} (h:K [.bool (decide (lo≤n∧n≤hi))] []):cl2 ⟨Try.prog,w0⟩ 131 J4.sg [I n,I lo,I hi] [] K:=by
 refine J4.cl2 ?_
 unfold J4.txt
 repeat' (first | refine BD ?_ | refine ER (by first | with_reducible assumption | omega) rfl ?_ | refine EW (by first | with_reducible assumption | omega) rfl ?_ | refine J3 ?_ | refine MU (fun _=> ?_) (fun _=> ?_))
 ·have e:decide (lo≤n∧n≤hi)=decide (n≤hi):=by rw [decide_eq_decide];omega
  rw [e] at h;exact h
 ·have e:decide (lo≤n∧n≤hi)=false:=decide_eq_false (by omega)
  rw [e] at h;exact h
theorem DL {n lo hi:Int} {K:J2} (h:K [.bool (decide (lo≤n∧n≤hi))] []):cl2 ⟨Try.prog,w0⟩ 87 B9.sg [I n,I lo,I hi] [] K:=by
 refine B9.cl2 ?_
 unfold B9.txt
 repeat' (first | refine BD ?_ | refine ER (by first | with_reducible assumption | omega) rfl ?_ | refine EW (by first | with_reducible assumption | omega) rfl ?_ | refine J3 ?_ | refine MU (fun _=> ?_) (fun _=> ?_))
 ·have e:decide (lo≤n∧n≤hi)=decide (n≤hi):=by rw [decide_eq_decide];omega
  rw [e] at h;exact h
 ·have e:decide (lo≤n∧n≤hi)=false:=decide_eq_false (by omega)
  rw [e] at h;exact h
theorem TB {s g:Int} {K:J2} (h:K [I (CA s g)] []):cl2 ⟨Try.prog,w0⟩ 98 GF.sg [I s,I g] [] K:=by
 refine GF.cl2 ?_
 unfold GF.txt
 repeat' (first | refine jV ?_ | refine RU ⟨by omega,by omega⟩ ?_ | refine BD ?_ | refine G9 (by first | with_reducible assumption | omega) ?_ | refine EN (by first | with_reducible assumption | omega) ?_ | refine ER (by first | with_reducible assumption | omega) rfl ?_ | refine EW (by first | with_reducible assumption | omega) rfl ?_ | refine CG ?_ | refine GI ?_ | refine FY ⟨by omega,by omega⟩ ?_ | refine A9 (fun _=> ?_) (fun _=> ?_) | refine NC (fun _=> ?_) (fun _=> ?_))
 ·rw [CA,if_neg (by omega)] at h;exact h
 ·rw [CA,if_pos (by omega)] at h;exact h
 ·rw [CA,if_neg (by omega)] at h;exact h
theorem HN {s g:Int} {K:J2} (h:K [I (CA s g)] []):cl2 ⟨Try.prog,w0⟩ 61 C5.sg [I s,I g] [] K:=by
 refine C5.cl2 ?_
 unfold C5.txt
 repeat' (first | refine DL ?_ | refine RU ⟨by omega,by omega⟩ ?_ | refine BD ?_ | refine G9 (by first | with_reducible assumption | omega) ?_ | refine EN (by first | with_reducible assumption | omega) ?_ | refine ER (by first | with_reducible assumption | omega) rfl ?_ | refine EW (by first | with_reducible assumption | omega) rfl ?_ | refine CG ?_ | refine GI ?_ | refine FY ⟨by omega,by omega⟩ ?_ | refine A9 (fun _=> ?_) (fun _=> ?_) | refine NC (fun _=> ?_) (fun _=> ?_))
 ·rw [CA,if_neg (by omega)] at h;exact h
 ·rw [CA,if_pos (by omega)] at h;exact h
 ·rw [CA,if_neg (by omega)] at h;exact h
theorem ET {l:List AG} {id:Int} (h:id<8∨l.length≠8):AA l id= -1:=if_pos h
theorem HK {l:List AG} {id:Int} (h1:8≤id) (h2:l.length=8) (hl:(id % 8).toNat<l.length) (h3:(ob l (id % 8).toNat).live=true) (h4:(ob l (id % 8).toNat).gen=id/8):AA l id=id % 8:=by
 rw [AA,if_neg (by omega),if_pos ⟨h3,h4⟩]
theorem HJ {l:List AG} {id:Int} (hl:(id % 8).toNat<l.length) (h:(ob l (id % 8).toNat).live=false∨(ob l (id % 8).toNat).gen≠id/8):AA l id= -1:=by
 rw [AA]
 split
 ·rfl
 ·rw [if_neg]
  rintro ⟨h1,h2⟩
  rcases h with h | h
  ·rw [h] at h1;cases h1
  ·exact h h2
theorem JX {a:List AG} {b c d:List T} {id:Int} {K:J2} (hid:F64 id) (hl:(a.length:Int)<2^62) (h:K [I (AA a id)] []):cl2 ⟨Try.prog,w0⟩ 81 C8.sg [I id] [tR tO a,b,c,d] K:=by
 obtain ⟨i1,i2⟩:=hid
 refine C8.cl2 ?_
 unfold C8.txt
 simp only [AK,AO,AL,AM,AT,AE,AJ,AI,AR,AQ,AN,AU,AP,AS,BG,BO,BL,BN,BM,BP,BK,A5,A6,A8,AZ,A7,A4]
 repeat' (first | refine BD ?_ | refine TT (by with_reducible assumption) ?_ | refine gY (by with_reducible assumption) ?_ | refine xW (by with_reducible assumption) rfl ?_ | refine wX (by with_reducible assumption) rfl ?_ | refine ER (by first | with_reducible assumption | omega) rfl ?_ | refine EW (by first | with_reducible assumption | omega) rfl ?_ | refine CG ?_ | refine BA ?_ | refine CY ?_ | refine UP (by omega) (by omega) ?_ | refine iB (by omega) ⟨by omega,by omega⟩ (by omega) ?_ | refine TL (by omega) (by omega) ?_ | refine WE (by omega) ?_ | refine A9 (fun _=> ?_) (fun _=> ?_) | refine NC (fun _=> ?_) (fun _=> ?_) | refine oC (fun _=> ?_) (fun _=> ?_) | refine CX ?_)
 ·rw [ET (by omega)] at h;exact h
 ·rw [HJ (by omega) (.inr (by assumption))] at h;exact h
 ·rename_i e1 e2
  rw [HK (by omega) (by omega) (by omega) (by simpa using e1) (by simpa using e2)] at h;exact h
 ·rename_i e1
  rw [HJ (by omega) (.inl (by simpa using e1))] at h;exact h
 ·rw [ET (by omega)] at h;exact h
theorem B3 {a:List AG} {b c d:List T} {id:Int} {K:J2} (hid:F64 id) (hl:(a.length:Int)<2^62) (h:K [I (AA a id)] []):cl2 ⟨Try.prog,w0⟩ 24 BQ.sg [I id] [tR tO a,b,c,d] K:=by
 obtain ⟨i1,i2⟩:=hid
 refine BQ.cl2 ?_
 unfold BQ.txt
 simp only [AK,AO,AL,AM,AT,AE,AJ,AI,AR,AQ,AN,AU,AP,AS,BG,BO,BL,BN,BM,BP,BK,A5,A6,A8,AZ,A7,A4]
 repeat' (first | refine BD ?_ | refine TT (by with_reducible assumption) ?_ | refine gY (by with_reducible assumption) ?_ | refine xW (by with_reducible assumption) rfl ?_ | refine wX (by with_reducible assumption) rfl ?_ | refine ER (by first | with_reducible assumption | omega) rfl ?_ | refine EW (by first | with_reducible assumption | omega) rfl ?_ | refine CG ?_ | refine BA ?_ | refine CY ?_ | refine UP (by omega) (by omega) ?_ | refine iB (by omega) ⟨by omega,by omega⟩ (by omega) ?_ | refine TL (by omega) (by omega) ?_ | refine KJ (by omega) (by decide) rfl ?_ | refine LY (by omega) rfl ?_ | refine A9 (fun _=> ?_) (fun _=> ?_) | refine NC (fun _=> ?_) (fun _=> ?_) | refine oC (fun _=> ?_) (fun _=> ?_) | refine CX ?_)
 ·rw [ET (by omega)] at h;exact h
 ·rw [HJ (by omega) (.inr (by assumption))] at h;exact h
 ·rename_i e1 e2
  rw [HK (by omega) (by omega) (by omega) (by simpa using e1) (by simpa using e2)] at h;exact h
 ·rename_i e1
  rw [HJ (by omega) (.inl (by simpa using e1))] at h;exact h
 ·rw [ET (by omega)] at h;exact h
def uB (l:List AG) (i:Nat):List Int:=if (i:Int)<8∧(ob l i).live=true∧w64 ((ob l i).holds+(ob l i).roots)>0 then [CA i (ob l i).gen] else []
def exts (l:List AG):List Int:=pick (uB l) l.length
end Go.Proofs.Ytklmcfpgdfibnaa.P
namespace Go.Proofs.Ytklmcfpgdfibnaa.P
open Go Go.Proofs.Ytklmcfpgdfibnaa Go.Proofs.Ytklmcfpgdfibnaa.Eng
set_option maxHeartbeats 4000000
set_option linter.unusedVariables false
set_option linter.unusedSimpArgs false
attribute [local irreducible] prP gP gE gF AV ixW ldc ldg ldl stc stg scW mkW apW BC cl2 BS CU B1
variable {w0:World}
end Go.Proofs.Ytklmcfpgdfibnaa.P
namespace Go.Proofs.Ytklmcfpgdfibnaa.P
open Go Go.Proofs.Ytklmcfpgdfibnaa Go.Proofs.Ytklmcfpgdfibnaa.Eng
set_option maxHeartbeats 4000000
set_option linter.unusedVariables false
set_option linter.unusedSimpArgs false
attribute [local irreducible] prP gP gE gF AV ixW ldc ldg ldl stc stg scW mkW apW BC cl2 BS CU B1
variable {w0:World}
end Go.Proofs.Ytklmcfpgdfibnaa.P
namespace Go.Proofs.Ytklmcfpgdfibnaa.P
open Go Go.Proofs.Ytklmcfpgdfibnaa Go.Proofs.Ytklmcfpgdfibnaa.Eng
set_option maxHeartbeats 4000000
set_option linter.unusedVariables false
set_option linter.unusedSimpArgs false
attribute [local irreducible] prP gP gE gF AV ixW ldc ldg ldl stc stg scW mkW apW BC cl2 BS CU B1
variable {w0:World}
def eL (o:Nd):Int:=5+(o.field.length:Int)
theorem lT (o:Nd):0≤eL o:=by unfold eL;omega
end Go.Proofs.Ytklmcfpgdfibnaa.P
