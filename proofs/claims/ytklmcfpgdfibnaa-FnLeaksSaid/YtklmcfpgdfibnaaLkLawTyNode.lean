/- A part of the proof. -/
import Derived.Test.YtklmcfpgdfibnaaLkLawHp
import Derived.Test.YtklmcfpgdfibnaaLkLawTyWeak
namespace Go.Proofs.Ytklmcfpgdfibnaa.P
open Go Go.Proofs.Ytklmcfpgdfibnaa Go.Proofs.Ytklmcfpgdfibnaa.Eng
set_option maxHeartbeats 4000000
set_option linter.unusedVariables false
set_option linter.unusedSimpArgs false
attribute [local irreducible] prP gP gE gF A6 ixW ldc ldg ldl stc stg scW mkW apW BD cl2 BP C3 B9
variable {w0:World}
def pick {α:Type} (f:Nat→List α):Nat→List α
 | 0=>[]
 | n+1=>pick f n++f n
theorem HY {α:Type} {f:Nat→List α} (h: ∀i,(f i).length≤1): ∀n,(pick f n).length≤n
 | 0=>Nat.le_refl _
 | n+1=>by have:=HY h n;have:=h n;simp only [pick,List.length_append];omega
theorem QL {α:Type} {f:Nat→List α} {m:Nat} (h: ∀i,m≤i→f i=[]): ∀n,m≤n→pick f n=pick f m
 | 0,hn=>by rw [Nat.le_zero.1 hn]
 | n+1,hn=>by
   rcases Nat.lt_or_ge n m with h1 | h1
   ·rw [show n+1=m by omega]
   ·rw [pick,h n h1,List.append_nil,QL h n h1]
theorem SZ {α:Type} {f:Nat→List α} {n:Nat} {l:List α} (h:f n=l):pick f n++l=pick f (n+1):=by rw [pick,h]
theorem N0 {α:Type} {f:Nat→List α} {n:Nat} (h:f n=[]):pick f n=pick f (n+1):=by rw [pick,h,List.append_nil]
def B6 (s g:Int):Int:=if (0≤s∧s≤7)∧1≤g∧g≤999 then s+8*g else -1
def AB (l:List AG) (id:Int):Int:=if id<8∨l.length≠8 then -1 else if (ob l (id % 8).toNat).live=true∧(ob l (id % 8).toNat).gen=id/8 then id % 8 else -1
theorem kT {n lo hi:Int} {K:J2} (h:K [.bool (decide (lo≤n∧n≤hi))] []):cl2 ⟨Try.prog,w0⟩ 131 KO.sg [I n,I lo,I hi] [] K:=by
 refine KO.cl2 ?_
 unfold KO.txt
 repeat' (first | refine BG ?_ | refine FH (by first | with_reducible assumption | omega) rfl ?_ | refine ER (by first | with_reducible assumption | omega) rfl ?_ | refine KN ?_ | refine ME (fun _=> ?_) (fun _=> ?_))
 ·have e:decide (lo≤n∧n≤hi)=decide (n≤hi):=by rw [decide_eq_decide];omega
  rw [e] at h;exact h
 ·have e:decide (lo≤n∧n≤hi)=false:=decide_eq_false (by omega)
  rw [e] at h;exact h
theorem DR {n lo hi:Int} {K:J2} (h:K [.bool (decide (lo≤n∧n≤hi))] []):cl2 ⟨Try.prog,w0⟩ 87 CD.sg [I n,I lo,I hi] [] K:=by
 refine CD.cl2 ?_
 unfold CD.txt
 repeat' (first | refine BG ?_ | refine FH (by first | with_reducible assumption | omega) rfl ?_ | refine ER (by first | with_reducible assumption | omega) rfl ?_ | refine KN ?_ | refine ME (fun _=> ?_) (fun _=> ?_))
 ·have e:decide (lo≤n∧n≤hi)=decide (n≤hi):=by rw [decide_eq_decide];omega
  rw [e] at h;exact h
 ·have e:decide (lo≤n∧n≤hi)=false:=decide_eq_false (by omega)
  rw [e] at h;exact h
theorem MU {s g:Int} {K:J2} (h:K [I (B6 s g)] []):cl2 ⟨Try.prog,w0⟩ 98 EM.sg [I s,I g] [] K:=by
 refine EM.cl2 ?_
 unfold EM.txt
 repeat' (first | refine kT ?_ | refine QM ⟨by omega,by omega⟩ ?_ | refine BG ?_ | refine HI (by first | with_reducible assumption | omega) ?_ | refine C7 (by first | with_reducible assumption | omega) ?_ | refine FH (by first | with_reducible assumption | omega) rfl ?_ | refine ER (by first | with_reducible assumption | omega) rfl ?_ | refine CE ?_ | refine F4 ?_ | refine EC ⟨by omega,by omega⟩ ?_ | refine A7 (fun _=> ?_) (fun _=> ?_) | refine NM (fun _=> ?_) (fun _=> ?_))
 ·rw [B6,if_neg (by omega)] at h;exact h
 ·rw [B6,if_pos (by omega)] at h;exact h
 ·rw [B6,if_neg (by omega)] at h;exact h
theorem G5 {s g:Int} {K:J2} (h:K [I (B6 s g)] []):cl2 ⟨Try.prog,w0⟩ 61 CZ.sg [I s,I g] [] K:=by
 refine CZ.cl2 ?_
 unfold CZ.txt
 repeat' (first | refine DR ?_ | refine QM ⟨by omega,by omega⟩ ?_ | refine BG ?_ | refine HI (by first | with_reducible assumption | omega) ?_ | refine C7 (by first | with_reducible assumption | omega) ?_ | refine FH (by first | with_reducible assumption | omega) rfl ?_ | refine ER (by first | with_reducible assumption | omega) rfl ?_ | refine CE ?_ | refine F4 ?_ | refine EC ⟨by omega,by omega⟩ ?_ | refine A7 (fun _=> ?_) (fun _=> ?_) | refine NM (fun _=> ?_) (fun _=> ?_))
 ·rw [B6,if_neg (by omega)] at h;exact h
 ·rw [B6,if_pos (by omega)] at h;exact h
 ·rw [B6,if_neg (by omega)] at h;exact h
theorem FG {l:List AG} {id:Int} (h:id<8∨l.length≠8):AB l id= -1:=if_pos h
theorem H6 {l:List AG} {id:Int} (h1:8≤id) (h2:l.length=8) (hl:(id % 8).toNat<l.length) (h3:(ob l (id % 8).toNat).live=true) (h4:(ob l (id % 8).toNat).gen=id/8):AB l id=id % 8:=by
 rw [AB,if_neg (by omega),if_pos ⟨h3,h4⟩]
theorem H5 {l:List AG} {id:Int} (hl:(id % 8).toNat<l.length) (h:(ob l (id % 8).toNat).live=false∨(ob l (id % 8).toNat).gen≠id/8):AB l id= -1:=by
 rw [AB]
 split
 ·rfl
 ·rw [if_neg]
  rintro ⟨h1,h2⟩
  rcases h with h | h
  ·rw [h] at h1;cases h1
  ·exact h h2
theorem IN {a:List AG} {b c d:List T} {id:Int} {K:J2} (hid:F64 id) (hl:(a.length:Int)<2^62) (h:K [I (AB a id)] []):cl2 ⟨Try.prog,w0⟩ 81 C1.sg [I id] [tR tO a,b,c,d] K:=by
 obtain ⟨i1,i2⟩:=hid
 refine C1.cl2 ?_
 unfold C1.txt
 simp only [AI,AP,AN,AS,AK,AE,AJ,AH,AM,AT,AL,AR,AO,AQ,BC,BE,BF,BJ,BL,BK,BH,AW,A5,AZ,A4,AY,AX]
 repeat' (first | refine BG ?_ | refine Q7 (by with_reducible assumption) ?_ | refine iS (by with_reducible assumption) ?_ | refine rA (by with_reducible assumption) rfl ?_ | refine sG (by with_reducible assumption) rfl ?_ | refine FH (by first | with_reducible assumption | omega) rfl ?_ | refine ER (by first | with_reducible assumption | omega) rfl ?_ | refine CE ?_ | refine A9 ?_ | refine CT ?_ | refine SK (by omega) (by omega) ?_ | refine iU (by omega) ⟨by omega,by omega⟩ (by omega) ?_ | refine UQ (by omega) (by omega) ?_ | refine UA (by omega) ?_ | refine A7 (fun _=> ?_) (fun _=> ?_) | refine NM (fun _=> ?_) (fun _=> ?_) | refine pE (fun _=> ?_) (fun _=> ?_) | refine CY ?_)
 ·rw [FG (by omega)] at h;exact h
 ·rw [H5 (by omega) (.inr (by assumption))] at h;exact h
 ·rename_i e1 e2
  rw [H6 (by omega) (by omega) (by omega) (by simpa using e1) (by simpa using e2)] at h;exact h
 ·rename_i e1
  rw [H5 (by omega) (.inl (by simpa using e1))] at h;exact h
 ·rw [FG (by omega)] at h;exact h
theorem B1 {a:List AG} {b c d:List T} {id:Int} {K:J2} (hid:F64 id) (hl:(a.length:Int)<2^62) (h:K [I (AB a id)] []):cl2 ⟨Try.prog,w0⟩ 24 BS.sg [I id] [tR tO a,b,c,d] K:=by
 obtain ⟨i1,i2⟩:=hid
 refine BS.cl2 ?_
 unfold BS.txt
 simp only [AI,AP,AN,AS,AK,AE,AJ,AH,AM,AT,AL,AR,AO,AQ,BC,BE,BF,BJ,BL,BK,BH,AW,A5,AZ,A4,AY,AX]
 repeat' (first | refine BG ?_ | refine Q7 (by with_reducible assumption) ?_ | refine iS (by with_reducible assumption) ?_ | refine rA (by with_reducible assumption) rfl ?_ | refine sG (by with_reducible assumption) rfl ?_ | refine FH (by first | with_reducible assumption | omega) rfl ?_ | refine ER (by first | with_reducible assumption | omega) rfl ?_ | refine CE ?_ | refine A9 ?_ | refine CT ?_ | refine SK (by omega) (by omega) ?_ | refine iU (by omega) ⟨by omega,by omega⟩ (by omega) ?_ | refine UQ (by omega) (by omega) ?_ | refine HQ (by omega) (by decide) rfl ?_ | refine LD (by omega) rfl ?_ | refine A7 (fun _=> ?_) (fun _=> ?_) | refine NM (fun _=> ?_) (fun _=> ?_) | refine pE (fun _=> ?_) (fun _=> ?_) | refine CY ?_)
 ·rw [FG (by omega)] at h;exact h
 ·rw [H5 (by omega) (.inr (by assumption))] at h;exact h
 ·rename_i e1 e2
  rw [H6 (by omega) (by omega) (by omega) (by simpa using e1) (by simpa using e2)] at h;exact h
 ·rename_i e1
  rw [H5 (by omega) (.inl (by simpa using e1))] at h;exact h
 ·rw [FG (by omega)] at h;exact h
def NF (l:List AG) (i:Nat):List Int:=if (i:Int)<8∧(ob l i).live=true∧w64 ((ob l i).holds+(ob l i).roots)>0 then [B6 i (ob l i).gen] else []
def exts (l:List AG):List Int:=pick (NF l) l.length
theorem X6 (l:List AG) (i:Nat):(NF l i).length≤1:=by unfold NF;split <;> simp
theorem TN {a:List AG} {b c d:List T} {K:J2} (hl:(a.length:Int)≤1048576) (h:K [] [tI (exts a)]):cl2 ⟨Try.prog,w0⟩ 35 D7.sg [] [tR tO a,b,c,d] K:=by
 refine D7.cl2 ?_
 unfold D7.txt
 refine BM (fun i=>[iv a.length,iv i]) (fun i=>[tI (pick (NF a) i)]) a.length (fun _=>True) (by rw [AI];rfl) rfl trivial (fun R i hi hP hR=> ?_)
 have hp:=HY (X6 a) i
 simp only [AI,AP,AN,AS,AK,AE,AJ,AH,AM,AT,AL,AR,AO,AQ,BC,BE,BF,BJ,BL,BK,BH,AW,A5,AZ,A4,AY,AX]
 refine A9 (A7 (fun hlt=> ?_) fun hge=> ?_)
 ·have hlt:i<a.length:=by omega
  replace hR:=hR hlt trivial
  refine BW ?_
  repeat' (first | refine MU ?_ | refine BG ?_ | refine HJ ?_ | refine Q7 (by with_reducible assumption) ?_ | refine jB (by with_reducible assumption) ?_ | refine rA (by with_reducible assumption) rfl ?_ | refine sG (by with_reducible assumption) rfl ?_ | refine R1 rfl ?_ | refine B5 ?_ | refine A9 ?_ | refine A8 (by omega) ?_ | refine H4 ?_ | refine AU (by omega) ?_ | refine UA (by omega) ?_ | refine DG (by first | exact KH _ | exact ZZ _ | exact aW _ | exact jA _ | rfl) (by omega) ?_ | refine A7 (fun _=> ?_) (fun _=> ?_) | refine oW rfl rfl (fun _=> ?_) (fun _=> ?_) | refine oD (fun _=> ?_) (fun _=> ?_) | simp only [AI,AP,AN,AS,AK,AE,AJ,AH,AM,AT,AL,AR,AO,AQ,BC,BE,BF,BJ,BL,BK,BH,AW,A5,AZ,A4,AY,AX])
  all_goals first
   | (rw [C4,SZ (f:=NF a) (by simp [NF, *])];exact hR)
   | (rw [N0 (f:=NF a) (by simp [NF, *])];exact hR)
 ·have:i=a.length:=by omega
  subst this;exact h
theorem T6 {a:List AG} {b c d:List T} {K:J2} (hl:(a.length:Int)≤1048576) (h:K [] [tI (exts a)]):cl2 ⟨Try.prog,w0⟩ 33 EB.sg [] [tR tO a,b,c,d] K:=by
 refine EB.cl2 ?_
 unfold EB.txt
 refine BM (fun i=>[iv i]) (fun i=>[tI (pick (NF a) i)]) a.length (fun _=>True) rfl rfl trivial (fun R i hi hP hR=> ?_)
 have hp:=HY (X6 a) i
 have hs: ∀i,8≤i→NF a i=[]:=fun i hi=>by rw [NF,if_neg (by omega)]
 simp only [AI,AP,AN,AS,AK,AE,AJ,AH,AM,AT,AL,AR,AO,AQ,BC,BE,BF,BJ,BL,BK,BH,AW,A5,AZ,A4,AY,AX]
 repeat' (first | refine BW ?_ | refine G5 ?_ | refine BG ?_ | refine Q7 (by with_reducible assumption) ?_ | refine jB (by with_reducible assumption) ?_ | refine rA (by with_reducible assumption) rfl ?_ | refine sG (by with_reducible assumption) rfl ?_ | refine FH (by first | with_reducible assumption | omega) rfl ?_ | refine ER (by first | with_reducible assumption | omega) rfl ?_ | refine B5 ?_ | refine A9 ?_ | refine A8 (by omega) ?_ | refine H4 ?_ | refine AU (by omega) ?_ | refine HQ (by omega) (by decide) rfl ?_ | refine LD (by omega) rfl ?_ | refine DG (by first | exact KH _ | exact ZZ _ | exact aW _ | exact jA _ | rfl) (by omega) ?_ | refine A7 (fun _=> ?_) (fun _=> ?_) | refine ME (fun _=> ?_) (fun _=> ?_) | refine oD (fun _=> ?_) (fun _=> ?_) | simp only [AI,AP,AN,AS,AK,AE,AJ,AH,AM,AT,AL,AR,AO,AQ,BC,BE,BF,BJ,BL,BK,BH,AW,A5,AZ,A4,AY,AX])
 all_goals first
  | (rw [C4,SZ (f:=NF a) (by simp [NF, *])];exact hR (by omega) trivial)
  | (rw [N0 (f:=NF a) (by simp [NF, *])];exact hR (by omega) trivial)
  | (rw [exts,QL hs a.length (by omega), ←QL hs i (by omega)] at h;exact h)
  | (have:i=a.length:=by omega
     subst this;exact h)
end Go.Proofs.Ytklmcfpgdfibnaa.P
namespace Go.Proofs.Ytklmcfpgdfibnaa.P
open Go Go.Proofs.Ytklmcfpgdfibnaa Go.Proofs.Ytklmcfpgdfibnaa.Eng
set_option maxHeartbeats 4000000
set_option linter.unusedVariables false
set_option linter.unusedSimpArgs false
attribute [local irreducible] prP gP gE gF A6 ixW ldc ldg ldl stc stg scW mkW apW BD cl2 BP C3 B9
variable {w0:World}
end Go.Proofs.Ytklmcfpgdfibnaa.P
namespace Go.Proofs.Ytklmcfpgdfibnaa.P
open Go Go.Proofs.Ytklmcfpgdfibnaa Go.Proofs.Ytklmcfpgdfibnaa.Eng
set_option maxHeartbeats 4000000
set_option linter.unusedVariables false
set_option linter.unusedSimpArgs false
attribute [local irreducible] prP gP gE gF A6 ixW ldc ldg ldl stc stg scW mkW apW BD cl2 BP C3 B9
variable {w0:World}
end Go.Proofs.Ytklmcfpgdfibnaa.P
namespace Go.Proofs.Ytklmcfpgdfibnaa.P
open Go Go.Proofs.Ytklmcfpgdfibnaa Go.Proofs.Ytklmcfpgdfibnaa.Eng
set_option maxHeartbeats 4000000
set_option linter.unusedVariables false
set_option linter.unusedSimpArgs false
attribute [local irreducible] prP gP gE gF A6 ixW ldc ldg ldl stc stg scW mkW apW BD cl2 BP C3 B9
variable {w0:World}
def eU (o:Nd):Int:=5+(o.field.length:Int)
theorem nR (o:Nd):0≤eU o:=by unfold eU;omega
end Go.Proofs.Ytklmcfpgdfibnaa.P
