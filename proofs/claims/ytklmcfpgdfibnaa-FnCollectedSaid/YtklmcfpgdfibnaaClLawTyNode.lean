/- A part of the proof. -/
import Derived.Test.YtklmcfpgdfibnaaClLawHp
import Derived.Test.YtklmcfpgdfibnaaClLawTyWeak
namespace Go.Proofs.Ytklmcfpgdfibnaa.P
open Go Go.Proofs.Ytklmcfpgdfibnaa Go.Proofs.Ytklmcfpgdfibnaa.Eng
set_option maxHeartbeats 4000000
set_option linter.unusedVariables false
set_option linter.unusedSimpArgs false
attribute [local irreducible] prP gP gE gF A7 ixW ldc ldg ldl stc stg scW mkW apW BD cl2 BP DT C0
variable {w0:World}
def pick {α:Type} (f:Nat→List α):Nat→List α
 | 0=>[]
 | n+1=>pick f n++f n
theorem GX {α:Type} {f:Nat→List α} (h: ∀i,(f i).length≤1): ∀n,(pick f n).length≤n
 | 0=>Nat.le_refl _
 | n+1=>by have:=GX h n;have:=h n;simp only [pick,List.length_append];omega
theorem P7 {α:Type} {f:Nat→List α} {m:Nat} (h: ∀i,m≤i→f i=[]): ∀n,m≤n→pick f n=pick f m
 | 0,hn=>by rw [Nat.le_zero.1 hn]
 | n+1,hn=>by
   rcases Nat.lt_or_ge n m with h1 | h1
   ·rw [show n+1=m by omega]
   ·rw [pick,h n h1,List.append_nil,P7 h n h1]
theorem S0 {α:Type} {f:Nat→List α} {n:Nat} {l:List α} (h:f n=l):pick f n++l=pick f (n+1):=by rw [pick,h]
theorem NO {α:Type} {f:Nat→List α} {n:Nat} (h:f n=[]):pick f n=pick f (n+1):=by rw [pick,h,List.append_nil]
def CA (s g:Int):Int:=if (0≤s∧s≤7)∧1≤g∧g≤999 then s+8*g else -1
def AA (l:List AT) (id:Int):Int:=if id<8∨l.length≠8 then -1 else if (ob l (id % 8).toNat).live=true∧(ob l (id % 8).toNat).gen=id/8 then id % 8 else -1
theorem P3 {n lo hi:Int} {K:J2} (h:K [.bool (decide (lo≤n∧n≤hi))] []):cl2 ⟨Try.prog,w0⟩ 131 HS.sg [I n,I lo,I hi] [] K:=by
 refine HS.cl2 ?_
 unfold HS.txt
 repeat' (first | refine BU ?_ | refine FI (by first | with_reducible assumption | omega) rfl ?_ | refine FL (by first | with_reducible assumption | omega) rfl ?_ | refine KE ?_ | refine MH (fun _=> ?_) (fun _=> ?_))
 ·have e:decide (lo≤n∧n≤hi)=decide (n≤hi):=by rw [decide_eq_decide];omega
  rw [e] at h;exact h
 ·have e:decide (lo≤n∧n≤hi)=false:=decide_eq_false (by omega)
  rw [e] at h;exact h
theorem DY {n lo hi:Int} {K:J2} (h:K [.bool (decide (lo≤n∧n≤hi))] []):cl2 ⟨Try.prog,w0⟩ 87 B8.sg [I n,I lo,I hi] [] K:=by
 refine B8.cl2 ?_
 unfold B8.txt
 repeat' (first | refine BU ?_ | refine FI (by first | with_reducible assumption | omega) rfl ?_ | refine FL (by first | with_reducible assumption | omega) rfl ?_ | refine KE ?_ | refine MH (fun _=> ?_) (fun _=> ?_))
 ·have e:decide (lo≤n∧n≤hi)=decide (n≤hi):=by rw [decide_eq_decide];omega
  rw [e] at h;exact h
 ·have e:decide (lo≤n∧n≤hi)=false:=decide_eq_false (by omega)
  rw [e] at h;exact h
theorem KO {s g:Int} {K:J2} (h:K [I (CA s g)] []):cl2 ⟨Try.prog,w0⟩ 98 DV.sg [I s,I g] [] K:=by
 refine DV.cl2 ?_
 unfold DV.txt
 repeat' (first | refine P3 ?_ | refine S6 ⟨by omega,by omega⟩ ?_ | refine BU ?_ | refine OR (by first | with_reducible assumption | omega) ?_ | refine I2 (by first | with_reducible assumption | omega) ?_ | refine FI (by first | with_reducible assumption | omega) rfl ?_ | refine FL (by first | with_reducible assumption | omega) rfl ?_ | refine CM ?_ | refine FD ?_ | refine FT ⟨by omega,by omega⟩ ?_ | refine AW (fun _=> ?_) (fun _=> ?_) | refine MS (fun _=> ?_) (fun _=> ?_))
 ·rw [CA,if_neg (by omega)] at h;exact h
 ·rw [CA,if_pos (by omega)] at h;exact h
 ·rw [CA,if_neg (by omega)] at h;exact h
theorem G7 {s g:Int} {K:J2} (h:K [I (CA s g)] []):cl2 ⟨Try.prog,w0⟩ 61 CX.sg [I s,I g] [] K:=by
 refine CX.cl2 ?_
 unfold CX.txt
 repeat' (first | refine DY ?_ | refine S6 ⟨by omega,by omega⟩ ?_ | refine BU ?_ | refine OR (by first | with_reducible assumption | omega) ?_ | refine I2 (by first | with_reducible assumption | omega) ?_ | refine FI (by first | with_reducible assumption | omega) rfl ?_ | refine FL (by first | with_reducible assumption | omega) rfl ?_ | refine CM ?_ | refine FD ?_ | refine FT ⟨by omega,by omega⟩ ?_ | refine AW (fun _=> ?_) (fun _=> ?_) | refine MS (fun _=> ?_) (fun _=> ?_))
 ·rw [CA,if_neg (by omega)] at h;exact h
 ·rw [CA,if_pos (by omega)] at h;exact h
 ·rw [CA,if_neg (by omega)] at h;exact h
theorem FK {l:List AT} {id:Int} (h:id<8∨l.length≠8):AA l id= -1:=if_pos h
theorem H8 {l:List AT} {id:Int} (h1:8≤id) (h2:l.length=8) (hl:(id % 8).toNat<l.length) (h3:(ob l (id % 8).toNat).live=true) (h4:(ob l (id % 8).toNat).gen=id/8):AA l id=id % 8:=by
 rw [AA,if_neg (by omega),if_pos ⟨h3,h4⟩]
theorem HT {l:List AT} {id:Int} (hl:(id % 8).toNat<l.length) (h:(ob l (id % 8).toNat).live=false∨(ob l (id % 8).toNat).gen≠id/8):AA l id= -1:=by
 rw [AA]
 split
 ·rfl
 ·rw [if_neg]
  rintro ⟨h1,h2⟩
  rcases h with h | h
  ·rw [h] at h1;cases h1
  ·exact h h2
theorem KC {a:List AT} {b c d:List T} {id:Int} {K:J2} (hid:F64 id) (hl:(a.length:Int)<2^62) (h:K [I (AA a id)] []):cl2 ⟨Try.prog,w0⟩ 81 DK.sg [I id] [tR tO a,b,c,d] K:=by
 obtain ⟨i1,i2⟩:=hid
 refine DK.cl2 ?_
 unfold DK.txt
 simp only [AG,AR,AL,AJ,AK,AE,AH,AO,AI,AS,AN,AM,AP,AQ,BE,BM,BJ,BL,BH,BK,BF,A5,AX,AY,A4,A6,AZ]
 repeat' (first | refine BU ?_ | refine O7 (by with_reducible assumption) ?_ | refine j0 (by with_reducible assumption) ?_ | refine o7 (by with_reducible assumption) rfl ?_ | refine q9 (by with_reducible assumption) rfl ?_ | refine FI (by first | with_reducible assumption | omega) rfl ?_ | refine FL (by first | with_reducible assumption | omega) rfl ?_ | refine CM ?_ | refine A8 ?_ | refine CP ?_ | refine U5 (by omega) (by omega) ?_ | refine hC (by omega) ⟨by omega,by omega⟩ (by omega) ?_ | refine S8 (by omega) (by omega) ?_ | refine L7 (by omega) ?_ | refine AW (fun _=> ?_) (fun _=> ?_) | refine MS (fun _=> ?_) (fun _=> ?_) | refine o5 (fun _=> ?_) (fun _=> ?_) | refine C3 ?_)
 ·rw [FK (by omega)] at h;exact h
 ·rw [HT (by omega) (.inr (by assumption))] at h;exact h
 ·rename_i e1 e2
  rw [H8 (by omega) (by omega) (by omega) (by simpa using e1) (by simpa using e2)] at h;exact h
 ·rename_i e1
  rw [HT (by omega) (.inl (by simpa using e1))] at h;exact h
 ·rw [FK (by omega)] at h;exact h
theorem B6 {a:List AT} {b c d:List T} {id:Int} {K:J2} (hid:F64 id) (hl:(a.length:Int)<2^62) (h:K [I (AA a id)] []):cl2 ⟨Try.prog,w0⟩ 24 BS.sg [I id] [tR tO a,b,c,d] K:=by
 obtain ⟨i1,i2⟩:=hid
 refine BS.cl2 ?_
 unfold BS.txt
 simp only [AG,AR,AL,AJ,AK,AE,AH,AO,AI,AS,AN,AM,AP,AQ,BE,BM,BJ,BL,BH,BK,BF,A5,AX,AY,A4,A6,AZ]
 repeat' (first | refine BU ?_ | refine O7 (by with_reducible assumption) ?_ | refine j0 (by with_reducible assumption) ?_ | refine o7 (by with_reducible assumption) rfl ?_ | refine q9 (by with_reducible assumption) rfl ?_ | refine FI (by first | with_reducible assumption | omega) rfl ?_ | refine FL (by first | with_reducible assumption | omega) rfl ?_ | refine CM ?_ | refine A8 ?_ | refine CP ?_ | refine U5 (by omega) (by omega) ?_ | refine hC (by omega) ⟨by omega,by omega⟩ (by omega) ?_ | refine S8 (by omega) (by omega) ?_ | refine II (by omega) (by decide) rfl ?_ | refine JJ (by omega) rfl ?_ | refine AW (fun _=> ?_) (fun _=> ?_) | refine MS (fun _=> ?_) (fun _=> ?_) | refine o5 (fun _=> ?_) (fun _=> ?_) | refine C3 ?_)
 ·rw [FK (by omega)] at h;exact h
 ·rw [HT (by omega) (.inr (by assumption))] at h;exact h
 ·rename_i e1 e2
  rw [H8 (by omega) (by omega) (by omega) (by simpa using e1) (by simpa using e2)] at h;exact h
 ·rename_i e1
  rw [HT (by omega) (.inl (by simpa using e1))] at h;exact h
 ·rw [FK (by omega)] at h;exact h
def OV (l:List AT) (i:Nat):List Int:=if (i:Int)<8∧(ob l i).live=true∧w64 ((ob l i).holds+(ob l i).roots)>0 then [CA i (ob l i).gen] else []
def exts (l:List AT):List Int:=pick (OV l) l.length
theorem VQ (l:List AT) (i:Nat):(OV l i).length≤1:=by unfold OV;split <;> simp
theorem NB {a:List AT} {b c d:List T} {K:J2} (hl:(a.length:Int)≤1048576) (h:K [] [tI (exts a)]):cl2 ⟨Try.prog,w0⟩ 35 C5.sg [] [tR tO a,b,c,d] K:=by
 refine C5.cl2 ?_
 unfold C5.txt
 refine BC (fun i=>[iv a.length,iv i]) (fun i=>[tI (pick (OV a) i)]) a.length (fun _=>True) (by rw [AG];rfl) rfl trivial (fun R i hi hP hR=> ?_)
 have hp:=GX (VQ a) i
 simp only [AG,AR,AL,AJ,AK,AE,AH,AO,AI,AS,AN,AM,AP,AQ,BE,BM,BJ,BL,BH,BK,BF,A5,AX,AY,A4,A6,AZ]
 refine A8 (AW (fun hlt=> ?_) fun hge=> ?_)
 ·have hlt:i<a.length:=by omega
  replace hR:=hR hlt trivial
  refine BQ ?_
  repeat' (first | refine KO ?_ | refine BU ?_ | refine JW ?_ | refine O7 (by with_reducible assumption) ?_ | refine jE (by with_reducible assumption) ?_ | refine o7 (by with_reducible assumption) rfl ?_ | refine q9 (by with_reducible assumption) rfl ?_ | refine ZI rfl ?_ | refine B7 ?_ | refine A8 ?_ | refine A9 (by omega) ?_ | refine GK ?_ | refine AU (by omega) ?_ | refine L7 (by omega) ?_ | refine DQ (by first | exact K6 _ | exact U2 _ | exact VA _ | exact iB _ | rfl) (by omega) ?_ | refine AW (fun _=> ?_) (fun _=> ?_) | refine lZ rfl rfl (fun _=> ?_) (fun _=> ?_) | refine mU (fun _=> ?_) (fun _=> ?_) | simp only [AG,AR,AL,AJ,AK,AE,AH,AO,AI,AS,AN,AM,AP,AQ,BE,BM,BJ,BL,BH,BK,BF,A5,AX,AY,A4,A6,AZ])
  all_goals first
   | (rw [C1,S0 (f:=OV a) (by simp [OV, *])];exact hR)
   | (rw [NO (f:=OV a) (by simp [OV, *])];exact hR)
 ·have:i=a.length:=by omega
  subst this;exact h
theorem NH {a:List AT} {b c d:List T} {K:J2} (hl:(a.length:Int)≤1048576) (h:K [] [tI (exts a)]):cl2 ⟨Try.prog,w0⟩ 33 C4.sg [] [tR tO a,b,c,d] K:=by
 refine C4.cl2 ?_
 unfold C4.txt
 refine BC (fun i=>[iv i]) (fun i=>[tI (pick (OV a) i)]) a.length (fun _=>True) rfl rfl trivial (fun R i hi hP hR=> ?_)
 have hp:=GX (VQ a) i
 have hs: ∀i,8≤i→OV a i=[]:=fun i hi=>by rw [OV,if_neg (by omega)]
 simp only [AG,AR,AL,AJ,AK,AE,AH,AO,AI,AS,AN,AM,AP,AQ,BE,BM,BJ,BL,BH,BK,BF,A5,AX,AY,A4,A6,AZ]
 repeat' (first | refine BQ ?_ | refine G7 ?_ | refine BU ?_ | refine O7 (by with_reducible assumption) ?_ | refine jE (by with_reducible assumption) ?_ | refine o7 (by with_reducible assumption) rfl ?_ | refine q9 (by with_reducible assumption) rfl ?_ | refine FI (by first | with_reducible assumption | omega) rfl ?_ | refine FL (by first | with_reducible assumption | omega) rfl ?_ | refine B7 ?_ | refine A8 ?_ | refine A9 (by omega) ?_ | refine GK ?_ | refine AU (by omega) ?_ | refine II (by omega) (by decide) rfl ?_ | refine JJ (by omega) rfl ?_ | refine DQ (by first | exact K6 _ | exact U2 _ | exact VA _ | exact iB _ | rfl) (by omega) ?_ | refine AW (fun _=> ?_) (fun _=> ?_) | refine MH (fun _=> ?_) (fun _=> ?_) | refine mU (fun _=> ?_) (fun _=> ?_) | simp only [AG,AR,AL,AJ,AK,AE,AH,AO,AI,AS,AN,AM,AP,AQ,BE,BM,BJ,BL,BH,BK,BF,A5,AX,AY,A4,A6,AZ])
 all_goals first
  | (rw [C1,S0 (f:=OV a) (by simp [OV, *])];exact hR (by omega) trivial)
  | (rw [NO (f:=OV a) (by simp [OV, *])];exact hR (by omega) trivial)
  | (rw [exts,P7 hs a.length (by omega), ←P7 hs i (by omega)] at h;exact h)
  | (have:i=a.length:=by omega
     subst this;exact h)
end Go.Proofs.Ytklmcfpgdfibnaa.P
namespace Go.Proofs.Ytklmcfpgdfibnaa.P
open Go Go.Proofs.Ytklmcfpgdfibnaa Go.Proofs.Ytklmcfpgdfibnaa.Eng
set_option maxHeartbeats 4000000
set_option linter.unusedVariables false
set_option linter.unusedSimpArgs false
attribute [local irreducible] prP gP gE gF A7 ixW ldc ldg ldl stc stg scW mkW apW BD cl2 BP DT C0
variable {w0:World}
end Go.Proofs.Ytklmcfpgdfibnaa.P
namespace Go.Proofs.Ytklmcfpgdfibnaa.P
open Go Go.Proofs.Ytklmcfpgdfibnaa Go.Proofs.Ytklmcfpgdfibnaa.Eng
set_option maxHeartbeats 4000000
set_option linter.unusedVariables false
set_option linter.unusedSimpArgs false
attribute [local irreducible] prP gP gE gF A7 ixW ldc ldg ldl stc stg scW mkW apW BD cl2 BP DT C0
variable {w0:World}
end Go.Proofs.Ytklmcfpgdfibnaa.P
namespace Go.Proofs.Ytklmcfpgdfibnaa.P
open Go Go.Proofs.Ytklmcfpgdfibnaa Go.Proofs.Ytklmcfpgdfibnaa.Eng
set_option maxHeartbeats 4000000
set_option linter.unusedVariables false
set_option linter.unusedSimpArgs false
attribute [local irreducible] prP gP gE gF A7 ixW ldc ldg ldl stc stg scW mkW apW BD cl2 BP DT C0
variable {w0:World}
def fT (o:Nd):Int:=5+(o.field.length:Int)
theorem m3 (o:Nd):0≤fT o:=by unfold fT;omega
end Go.Proofs.Ytklmcfpgdfibnaa.P
