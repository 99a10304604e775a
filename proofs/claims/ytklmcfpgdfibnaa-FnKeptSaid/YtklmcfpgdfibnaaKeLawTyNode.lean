/- A part of the proof. -/
import Derived.Test.YtklmcfpgdfibnaaKeLawHp
import Derived.Test.YtklmcfpgdfibnaaKeLawTyWeak
namespace Go.Proofs.Ytklmcfpgdfibnaa.P
open Go Go.Proofs.Ytklmcfpgdfibnaa Go.Proofs.Ytklmcfpgdfibnaa.Eng
set_option maxHeartbeats 4000000
set_option linter.unusedVariables false
set_option linter.unusedSimpArgs false
attribute [local irreducible] prP gP gE gF AX ixW ldc ldg ldl stc stg scW mkW apW BE cl2 BS DF CB
variable {w0:World}
def pick {α:Type} (f:Nat→List α):Nat→List α
 | 0=>[]
 | n+1=>pick f n++f n
theorem JQ {α:Type} {f:Nat→List α} (h: ∀i,(f i).length≤1): ∀n,(pick f n).length≤n
 | 0=>Nat.le_refl _
 | n+1=>by have:=JQ h n;have:=h n;simp only [pick,List.length_append];omega
theorem ZX {α:Type} {f:Nat→List α} {m:Nat} (h: ∀i,m≤i→f i=[]): ∀n,m≤n→pick f n=pick f m
 | 0,hn=>by rw [Nat.le_zero.1 hn]
 | n+1,hn=>by
   rcases Nat.lt_or_ge n m with h1 | h1
   ·rw [show n+1=m by omega]
   ·rw [pick,h n h1,List.append_nil,ZX h n h1]
theorem rR {α:Type} {f:Nat→List α} {n:Nat} {l:List α} (h:f n=l):pick f n++l=pick f (n+1):=by rw [pick,h]
theorem nF {α:Type} {f:Nat→List α} {n:Nat} (h:f n=[]):pick f n=pick f (n+1):=by rw [pick,h,List.append_nil]
def B9 (s g:Int):Int:=if (0≤s∧s≤7)∧1≤g∧g≤999 then s+8*g else -1
def AB (l:List AU) (id:Int):Int:=if id<8∨l.length≠8 then -1 else if (ob l (id % 8).toNat).live=true∧(ob l (id % 8).toNat).gen=id/8 then id % 8 else -1
theorem HH {n lo hi:Int} {K:J2} (h:K [.bool (decide (lo≤n∧n≤hi))] []):cl2 ⟨Try.prog,w0⟩ 131 DJ.sg [I n,I lo,I hi] [] K:=by
 refine DJ.cl2 ?_
 unfold DJ.txt
 repeat' (first | refine BC ?_ | refine C4 (by first | with_reducible assumption | omega) rfl ?_ | refine CZ (by first | with_reducible assumption | omega) rfl ?_ | refine HR ?_ | refine J1 (fun _=> ?_) (fun _=> ?_))
 ·have e:decide (lo≤n∧n≤hi)=decide (n≤hi):=by rw [decide_eq_decide];omega
  rw [e] at h;exact h
 ·have e:decide (lo≤n∧n≤hi)=false:=decide_eq_false (by omega)
  rw [e] at h;exact h
theorem CN {n lo hi:Int} {K:J2} (h:K [.bool (decide (lo≤n∧n≤hi))] []):cl2 ⟨Try.prog,w0⟩ 87 BZ.sg [I n,I lo,I hi] [] K:=by
 refine BZ.cl2 ?_
 unfold BZ.txt
 repeat' (first | refine BC ?_ | refine C4 (by first | with_reducible assumption | omega) rfl ?_ | refine CZ (by first | with_reducible assumption | omega) rfl ?_ | refine HR ?_ | refine J1 (fun _=> ?_) (fun _=> ?_))
 ·have e:decide (lo≤n∧n≤hi)=decide (n≤hi):=by rw [decide_eq_decide];omega
  rw [e] at h;exact h
 ·have e:decide (lo≤n∧n≤hi)=false:=decide_eq_false (by omega)
  rw [e] at h;exact h
theorem MC {s g:Int} {K:J2} (h:K [I (B9 s g)] []):cl2 ⟨Try.prog,w0⟩ 98 FM.sg [I s,I g] [] K:=by
 refine FM.cl2 ?_
 unfold FM.txt
 repeat' (first | refine HH ?_ | refine UJ ⟨by omega,by omega⟩ ?_ | refine BC ?_ | refine J3 (by first | with_reducible assumption | omega) ?_ | refine EC (by first | with_reducible assumption | omega) ?_ | refine C4 (by first | with_reducible assumption | omega) rfl ?_ | refine CZ (by first | with_reducible assumption | omega) rfl ?_ | refine BV ?_ | refine CQ ?_ | refine DN ⟨by omega,by omega⟩ ?_ | refine AW (fun _=> ?_) (fun _=> ?_) | refine KM (fun _=> ?_) (fun _=> ?_))
 ·rw [B9,if_neg (by omega)] at h;exact h
 ·rw [B9,if_pos (by omega)] at h;exact h
 ·rw [B9,if_neg (by omega)] at h;exact h
theorem FD {s g:Int} {K:J2} (h:K [I (B9 s g)] []):cl2 ⟨Try.prog,w0⟩ 61 CE.sg [I s,I g] [] K:=by
 refine CE.cl2 ?_
 unfold CE.txt
 repeat' (first | refine CN ?_ | refine UJ ⟨by omega,by omega⟩ ?_ | refine BC ?_ | refine J3 (by first | with_reducible assumption | omega) ?_ | refine EC (by first | with_reducible assumption | omega) ?_ | refine C4 (by first | with_reducible assumption | omega) rfl ?_ | refine CZ (by first | with_reducible assumption | omega) rfl ?_ | refine BV ?_ | refine CQ ?_ | refine DN ⟨by omega,by omega⟩ ?_ | refine AW (fun _=> ?_) (fun _=> ?_) | refine KM (fun _=> ?_) (fun _=> ?_))
 ·rw [B9,if_neg (by omega)] at h;exact h
 ·rw [B9,if_pos (by omega)] at h;exact h
 ·rw [B9,if_neg (by omega)] at h;exact h
theorem FB {l:List AU} {id:Int} (h:id<8∨l.length≠8):AB l id= -1:=if_pos h
theorem IK {l:List AU} {id:Int} (h1:8≤id) (h2:l.length=8) (hl:(id % 8).toNat<l.length) (h3:(ob l (id % 8).toNat).live=true) (h4:(ob l (id % 8).toNat).gen=id/8):AB l id=id % 8:=by
 rw [AB,if_neg (by omega),if_pos ⟨h3,h4⟩]
theorem G9 {l:List AU} {id:Int} (hl:(id % 8).toNat<l.length) (h:(ob l (id % 8).toNat).live=false∨(ob l (id % 8).toNat).gen≠id/8):AB l id= -1:=by
 rw [AB]
 split
 ·rfl
 ·rw [if_neg]
  rintro ⟨h1,h2⟩
  rcases h with h | h
  ·rw [h] at h1;cases h1
  ·exact h h2
theorem C5 {a:List AU} {b c d:List T} {id:Int} {K:J2} (hid:F64 id) (hl:(a.length:Int)<2^62) (h:K [I (AB a id)] []):cl2 ⟨Try.prog,w0⟩ 81 B5.sg [I id] [tR tO a,b,c,d] K:=by
 obtain ⟨i1,i2⟩:=hid
 refine B5.cl2 ?_
 unfold B5.txt
 simp only [AI,AO,AM,AS,AH,AE,AG,AK,AN,AP,AR,AT,AQ,AL,BD,BJ,BL,BK,BM,BN,BG,A4,AZ,A6,A8,A5,A7]
 repeat' (first | refine BC ?_ | refine QL (by with_reducible assumption) ?_ | refine cJ (by with_reducible assumption) ?_ | refine oF (by with_reducible assumption) rfl ?_ | refine sY (by with_reducible assumption) rfl ?_ | refine C4 (by first | with_reducible assumption | omega) rfl ?_ | refine CZ (by first | with_reducible assumption | omega) rfl ?_ | refine BV ?_ | refine AY ?_ | refine CM ?_ | refine UK (by omega) (by omega) ?_ | refine cH (by omega) ⟨by omega,by omega⟩ (by omega) ?_ | refine Q8 (by omega) (by omega) ?_ | refine OC (by omega) ?_ | refine AW (fun _=> ?_) (fun _=> ?_) | refine KM (fun _=> ?_) (fun _=> ?_) | refine lG (fun _=> ?_) (fun _=> ?_) | refine B2 ?_)
 ·rw [FB (by omega)] at h;exact h
 ·rw [G9 (by omega) (.inr (by assumption))] at h;exact h
 ·rename_i e1 e2
  rw [IK (by omega) (by omega) (by omega) (by simpa using e1) (by simpa using e2)] at h;exact h
 ·rename_i e1
  rw [G9 (by omega) (.inl (by simpa using e1))] at h;exact h
 ·rw [FB (by omega)] at h;exact h
theorem CW {a:List AU} {b c d:List T} {id:Int} {K:J2} (hid:F64 id) (hl:(a.length:Int)<2^62) (h:K [I (AB a id)] []):cl2 ⟨Try.prog,w0⟩ 24 B4.sg [I id] [tR tO a,b,c,d] K:=by
 obtain ⟨i1,i2⟩:=hid
 refine B4.cl2 ?_
 unfold B4.txt
 simp only [AI,AO,AM,AS,AH,AE,AG,AK,AN,AP,AR,AT,AQ,AL,BD,BJ,BL,BK,BM,BN,BG,A4,AZ,A6,A8,A5,A7]
 repeat' (first | refine BC ?_ | refine QL (by with_reducible assumption) ?_ | refine cJ (by with_reducible assumption) ?_ | refine oF (by with_reducible assumption) rfl ?_ | refine sY (by with_reducible assumption) rfl ?_ | refine C4 (by first | with_reducible assumption | omega) rfl ?_ | refine CZ (by first | with_reducible assumption | omega) rfl ?_ | refine BV ?_ | refine AY ?_ | refine CM ?_ | refine UK (by omega) (by omega) ?_ | refine cH (by omega) ⟨by omega,by omega⟩ (by omega) ?_ | refine Q8 (by omega) (by omega) ?_ | refine H0 (by omega) (by decide) rfl ?_ | refine LU (by omega) rfl ?_ | refine AW (fun _=> ?_) (fun _=> ?_) | refine KM (fun _=> ?_) (fun _=> ?_) | refine lG (fun _=> ?_) (fun _=> ?_) | refine B2 ?_)
 ·rw [FB (by omega)] at h;exact h
 ·rw [G9 (by omega) (.inr (by assumption))] at h;exact h
 ·rename_i e1 e2
  rw [IK (by omega) (by omega) (by omega) (by simpa using e1) (by simpa using e2)] at h;exact h
 ·rename_i e1
  rw [G9 (by omega) (.inl (by simpa using e1))] at h;exact h
 ·rw [FB (by omega)] at h;exact h
def ZI (l:List AU) (i:Nat):List Int:=if (i:Int)<8∧(ob l i).live=true∧w64 ((ob l i).holds+(ob l i).roots)>0 then [B9 i (ob l i).gen] else []
def exts (l:List AU):List Int:=pick (ZI l) l.length
end Go.Proofs.Ytklmcfpgdfibnaa.P
namespace Go.Proofs.Ytklmcfpgdfibnaa.P
open Go Go.Proofs.Ytklmcfpgdfibnaa Go.Proofs.Ytklmcfpgdfibnaa.Eng
set_option maxHeartbeats 4000000
set_option linter.unusedVariables false
set_option linter.unusedSimpArgs false
attribute [local irreducible] prP gP gE gF AX ixW ldc ldg ldl stc stg scW mkW apW BE cl2 BS DF CB
variable {w0:World}
end Go.Proofs.Ytklmcfpgdfibnaa.P
namespace Go.Proofs.Ytklmcfpgdfibnaa.P
open Go Go.Proofs.Ytklmcfpgdfibnaa Go.Proofs.Ytklmcfpgdfibnaa.Eng
set_option maxHeartbeats 4000000
set_option linter.unusedVariables false
set_option linter.unusedSimpArgs false
attribute [local irreducible] prP gP gE gF AX ixW ldc ldg ldl stc stg scW mkW apW BE cl2 BS DF CB
variable {w0:World}
end Go.Proofs.Ytklmcfpgdfibnaa.P
namespace Go.Proofs.Ytklmcfpgdfibnaa.P
open Go Go.Proofs.Ytklmcfpgdfibnaa Go.Proofs.Ytklmcfpgdfibnaa.Eng
set_option maxHeartbeats 4000000
set_option linter.unusedVariables false
set_option linter.unusedSimpArgs false
attribute [local irreducible] prP gP gE gF AX ixW ldc ldg ldl stc stg scW mkW apW BE cl2 BS DF CB
variable {w0:World}
def jV (o:Nd):Int:=5+(o.field.length:Int)
theorem pC (o:Nd):0≤jV o:=by unfold jV;omega
end Go.Proofs.Ytklmcfpgdfibnaa.P
