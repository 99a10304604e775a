/- A part of the proof. -/
import Derived.Test.YtklmcfpgdfibnaaReLawHp
import Derived.Test.YtklmcfpgdfibnaaReLawTyWeak
namespace Go.Proofs.Ytklmcfpgdfibnaa.P
open Go Go.Proofs.Ytklmcfpgdfibnaa Go.Proofs.Ytklmcfpgdfibnaa.Eng
set_option maxHeartbeats 4000000
set_option linter.unusedVariables false
set_option linter.unusedSimpArgs false
attribute [local irreducible] prP gP gE gF AY ixW ldc ldg ldl stc stg scW mkW apW BD cl2 BQ CZ B9
variable {w0:World}
def pick {α:Type} (f:Nat→List α):Nat→List α
 | 0=>[]
 | n+1=>pick f n++f n
theorem FU {α:Type} {f:Nat→List α} (h: ∀i,(f i).length≤1): ∀n,(pick f n).length≤n
 | 0=>Nat.le_refl _
 | n+1=>by have:=FU h n;have:=h n;simp only [pick,List.length_append];omega
theorem NO {α:Type} {f:Nat→List α} {m:Nat} (h: ∀i,m≤i→f i=[]): ∀n,m≤n→pick f n=pick f m
 | 0,hn=>by rw [Nat.le_zero.1 hn]
 | n+1,hn=>by
   rcases Nat.lt_or_ge n m with h1 | h1
   ·rw [show n+1=m by omega]
   ·rw [pick,h n h1,List.append_nil,NO h n h1]
theorem WE {α:Type} {f:Nat→List α} {n:Nat} {l:List α} (h:f n=l):pick f n++l=pick f (n+1):=by rw [pick,h]
theorem TE {α:Type} {f:Nat→List α} {n:Nat} (h:f n=[]):pick f n=pick f (n+1):=by rw [pick,h,List.append_nil]
def B7 (s g:Int):Int:=if (0≤s∧s≤7)∧1≤g∧g≤999 then s+8*g else -1
def AB (l:List AG) (id:Int):Int:=if id<8∨l.length≠8 then -1 else if (ob l (id % 8).toNat).live=true∧(ob l (id % 8).toNat).gen=id/8 then id % 8 else -1
theorem kO {n lo hi:Int} {K:J2} (h:K [.bool (decide (lo≤n∧n≤hi))] []):cl2 ⟨Try.prog,w0⟩ 131 J7.sg [I n,I lo,I hi] [] K:=by
 refine J7.cl2 ?_
 unfold J7.txt
 repeat' (first | refine BC ?_ | refine DX (by first | with_reducible assumption | omega) rfl ?_ | refine EH (by first | with_reducible assumption | omega) rfl ?_ | refine J5 ?_ | refine LZ (fun _=> ?_) (fun _=> ?_))
 ·have e:decide (lo≤n∧n≤hi)=decide (n≤hi):=by rw [decide_eq_decide];omega
  rw [e] at h;exact h
 ·have e:decide (lo≤n∧n≤hi)=false:=decide_eq_false (by omega)
  rw [e] at h;exact h
theorem DQ {n lo hi:Int} {K:J2} (h:K [.bool (decide (lo≤n∧n≤hi))] []):cl2 ⟨Try.prog,w0⟩ 87 B8.sg [I n,I lo,I hi] [] K:=by
 refine B8.cl2 ?_
 unfold B8.txt
 repeat' (first | refine BC ?_ | refine DX (by first | with_reducible assumption | omega) rfl ?_ | refine EH (by first | with_reducible assumption | omega) rfl ?_ | refine J5 ?_ | refine LZ (fun _=> ?_) (fun _=> ?_))
 ·have e:decide (lo≤n∧n≤hi)=decide (n≤hi):=by rw [decide_eq_decide];omega
  rw [e] at h;exact h
 ·have e:decide (lo≤n∧n≤hi)=false:=decide_eq_false (by omega)
  rw [e] at h;exact h
theorem UA {s g:Int} {K:J2} (h:K [I (B7 s g)] []):cl2 ⟨Try.prog,w0⟩ 98 GN.sg [I s,I g] [] K:=by
 refine GN.cl2 ?_
 unfold GN.txt
 repeat' (first | refine kO ?_ | refine S4 ⟨by omega,by omega⟩ ?_ | refine BC ?_ | refine JF (by first | with_reducible assumption | omega) ?_ | refine HH (by first | with_reducible assumption | omega) ?_ | refine DX (by first | with_reducible assumption | omega) rfl ?_ | refine EH (by first | with_reducible assumption | omega) rfl ?_ | refine CG ?_ | refine FQ ?_ | refine FW ⟨by omega,by omega⟩ ?_ | refine AW (fun _=> ?_) (fun _=> ?_) | refine M9 (fun _=> ?_) (fun _=> ?_))
 ·rw [B7,if_neg (by omega)] at h;exact h
 ·rw [B7,if_pos (by omega)] at h;exact h
 ·rw [B7,if_neg (by omega)] at h;exact h
theorem GZ {s g:Int} {K:J2} (h:K [I (B7 s g)] []):cl2 ⟨Try.prog,w0⟩ 61 CV.sg [I s,I g] [] K:=by
 refine CV.cl2 ?_
 unfold CV.txt
 repeat' (first | refine DQ ?_ | refine S4 ⟨by omega,by omega⟩ ?_ | refine BC ?_ | refine JF (by first | with_reducible assumption | omega) ?_ | refine HH (by first | with_reducible assumption | omega) ?_ | refine DX (by first | with_reducible assumption | omega) rfl ?_ | refine EH (by first | with_reducible assumption | omega) rfl ?_ | refine CG ?_ | refine FQ ?_ | refine FW ⟨by omega,by omega⟩ ?_ | refine AW (fun _=> ?_) (fun _=> ?_) | refine M9 (fun _=> ?_) (fun _=> ?_))
 ·rw [B7,if_neg (by omega)] at h;exact h
 ·rw [B7,if_pos (by omega)] at h;exact h
 ·rw [B7,if_neg (by omega)] at h;exact h
theorem DE {l:List AG} {id:Int} (h:id<8∨l.length≠8):AB l id= -1:=if_pos h
theorem GG {l:List AG} {id:Int} (h1:8≤id) (h2:l.length=8) (hl:(id % 8).toNat<l.length) (h3:(ob l (id % 8).toNat).live=true) (h4:(ob l (id % 8).toNat).gen=id/8):AB l id=id % 8:=by
 rw [AB,if_neg (by omega),if_pos ⟨h3,h4⟩]
theorem FA {l:List AG} {id:Int} (hl:(id % 8).toNat<l.length) (h:(ob l (id % 8).toNat).live=false∨(ob l (id % 8).toNat).gen≠id/8):AB l id= -1:=by
 rw [AB]
 split
 ·rfl
 ·rw [if_neg]
  rintro ⟨h1,h2⟩
  rcases h with h | h
  ·rw [h] at h1;cases h1
  ·exact h h2
theorem MS {a:List AG} {b c d:List T} {id:Int} {K:J2} (hid:F64 id) (hl:(a.length:Int)<2^62) (h:K [I (AB a id)] []):cl2 ⟨Try.prog,w0⟩ 81 DT.sg [I id] [tR tO a,b,c,d] K:=by
 obtain ⟨i1,i2⟩:=hid
 refine DT.cl2 ?_
 unfold DT.txt
 simp only [AJ,AN,AQ,AR,AK,AE,AL,AI,AS,AP,AU,AT,AM,AO,BJ,BP,BM,BN,BO,BS,BL,A4,A5,A9,A8,BA,A7]
 repeat' (first | refine BC ?_ | refine QX (by with_reducible assumption) ?_ | refine j8 (by with_reducible assumption) ?_ | refine s7 (by with_reducible assumption) rfl ?_ | refine sV (by with_reducible assumption) rfl ?_ | refine DX (by first | with_reducible assumption | omega) rfl ?_ | refine EH (by first | with_reducible assumption | omega) rfl ?_ | refine CG ?_ | refine A6 ?_ | refine C0 ?_ | refine PT (by omega) (by omega) ?_ | refine U4 (by omega) ⟨by omega,by omega⟩ (by omega) ?_ | refine TY (by omega) (by omega) ?_ | refine TL (by omega) ?_ | refine AW (fun _=> ?_) (fun _=> ?_) | refine M9 (fun _=> ?_) (fun _=> ?_) | refine qA (fun _=> ?_) (fun _=> ?_) | refine CC ?_)
 ·rw [DE (by omega)] at h;exact h
 ·rw [FA (by omega) (.inr (by assumption))] at h;exact h
 ·rename_i e1 e2
  rw [GG (by omega) (by omega) (by omega) (by simpa using e1) (by simpa using e2)] at h;exact h
 ·rename_i e1
  rw [FA (by omega) (.inl (by simpa using e1))] at h;exact h
 ·rw [DE (by omega)] at h;exact h
theorem BY {a:List AG} {b c d:List T} {id:Int} {K:J2} (hid:F64 id) (hl:(a.length:Int)<2^62) (h:K [I (AB a id)] []):cl2 ⟨Try.prog,w0⟩ 24 BG.sg [I id] [tR tO a,b,c,d] K:=by
 obtain ⟨i1,i2⟩:=hid
 refine BG.cl2 ?_
 unfold BG.txt
 simp only [AJ,AN,AQ,AR,AK,AE,AL,AI,AS,AP,AU,AT,AM,AO,BJ,BP,BM,BN,BO,BS,BL,A4,A5,A9,A8,BA,A7]
 repeat' (first | refine BC ?_ | refine QX (by with_reducible assumption) ?_ | refine j8 (by with_reducible assumption) ?_ | refine s7 (by with_reducible assumption) rfl ?_ | refine sV (by with_reducible assumption) rfl ?_ | refine DX (by first | with_reducible assumption | omega) rfl ?_ | refine EH (by first | with_reducible assumption | omega) rfl ?_ | refine CG ?_ | refine A6 ?_ | refine C0 ?_ | refine PT (by omega) (by omega) ?_ | refine U4 (by omega) ⟨by omega,by omega⟩ (by omega) ?_ | refine TY (by omega) (by omega) ?_ | refine JR (by omega) (by decide) rfl ?_ | refine KT (by omega) rfl ?_ | refine AW (fun _=> ?_) (fun _=> ?_) | refine M9 (fun _=> ?_) (fun _=> ?_) | refine qA (fun _=> ?_) (fun _=> ?_) | refine CC ?_)
 ·rw [DE (by omega)] at h;exact h
 ·rw [FA (by omega) (.inr (by assumption))] at h;exact h
 ·rename_i e1 e2
  rw [GG (by omega) (by omega) (by omega) (by simpa using e1) (by simpa using e2)] at h;exact h
 ·rename_i e1
  rw [FA (by omega) (.inl (by simpa using e1))] at h;exact h
 ·rw [DE (by omega)] at h;exact h
def KY (l:List AG) (i:Nat):List Int:=if (i:Int)<8∧(ob l i).live=true∧w64 ((ob l i).holds+(ob l i).roots)>0 then [B7 i (ob l i).gen] else []
def exts (l:List AG):List Int:=pick (KY l) l.length
theorem SY (l:List AG) (i:Nat):(KY l i).length≤1:=by unfold KY;split <;> simp
theorem NP {a:List AG} {b c d:List T} {K:J2} (hl:(a.length:Int)≤1048576) (h:K [] [tI (exts a)]):cl2 ⟨Try.prog,w0⟩ 35 DG.sg [] [tR tO a,b,c,d] K:=by
 refine DG.cl2 ?_
 unfold DG.txt
 refine BF (fun i=>[iv a.length,iv i]) (fun i=>[tI (pick (KY a) i)]) a.length (fun _=>True) (by rw [AJ];rfl) rfl trivial (fun R i hi hP hR=> ?_)
 have hp:=FU (SY a) i
 simp only [AJ,AN,AQ,AR,AK,AE,AL,AI,AS,AP,AU,AT,AM,AO,BJ,BP,BM,BN,BO,BS,BL,A4,A5,A9,A8,BA,A7]
 refine A6 (AW (fun hlt=> ?_) fun hge=> ?_)
 ·have hlt:i<a.length:=by omega
  replace hR:=hR hlt trivial
  refine BT ?_
  repeat' (first | refine UA ?_ | refine BC ?_ | refine FY ?_ | refine QX (by with_reducible assumption) ?_ | refine iA (by with_reducible assumption) ?_ | refine s7 (by with_reducible assumption) rfl ?_ | refine sV (by with_reducible assumption) rfl ?_ | refine SP rfl ?_ | refine B6 ?_ | refine A6 ?_ | refine BB (by omega) ?_ | refine GS ?_ | refine AH (by omega) ?_ | refine TL (by omega) ?_ | refine DH (by first | exact KW _ | exact UY _ | exact UZ _ | exact kA _ | rfl) (by omega) ?_ | refine AW (fun _=> ?_) (fun _=> ?_) | refine pV rfl rfl (fun _=> ?_) (fun _=> ?_) | refine mP (fun _=> ?_) (fun _=> ?_) | simp only [AJ,AN,AQ,AR,AK,AE,AL,AI,AS,AP,AU,AT,AM,AO,BJ,BP,BM,BN,BO,BS,BL,A4,A5,A9,A8,BA,A7])
  all_goals first
   | (rw [CU,WE (f:=KY a) (by simp [KY, *])];exact hR)
   | (rw [TE (f:=KY a) (by simp [KY, *])];exact hR)
 ·have:i=a.length:=by omega
  subst this;exact h
theorem JX {a:List AG} {b c d:List T} {K:J2} (hl:(a.length:Int)≤1048576) (h:K [] [tI (exts a)]):cl2 ⟨Try.prog,w0⟩ 33 CT.sg [] [tR tO a,b,c,d] K:=by
 refine CT.cl2 ?_
 unfold CT.txt
 refine BF (fun i=>[iv i]) (fun i=>[tI (pick (KY a) i)]) a.length (fun _=>True) rfl rfl trivial (fun R i hi hP hR=> ?_)
 have hp:=FU (SY a) i
 have hs: ∀i,8≤i→KY a i=[]:=fun i hi=>by rw [KY,if_neg (by omega)]
 simp only [AJ,AN,AQ,AR,AK,AE,AL,AI,AS,AP,AU,AT,AM,AO,BJ,BP,BM,BN,BO,BS,BL,A4,A5,A9,A8,BA,A7]
 repeat' (first | refine BT ?_ | refine GZ ?_ | refine BC ?_ | refine QX (by with_reducible assumption) ?_ | refine iA (by with_reducible assumption) ?_ | refine s7 (by with_reducible assumption) rfl ?_ | refine sV (by with_reducible assumption) rfl ?_ | refine DX (by first | with_reducible assumption | omega) rfl ?_ | refine EH (by first | with_reducible assumption | omega) rfl ?_ | refine B6 ?_ | refine A6 ?_ | refine BB (by omega) ?_ | refine GS ?_ | refine AH (by omega) ?_ | refine JR (by omega) (by decide) rfl ?_ | refine KT (by omega) rfl ?_ | refine DH (by first | exact KW _ | exact UY _ | exact UZ _ | exact kA _ | rfl) (by omega) ?_ | refine AW (fun _=> ?_) (fun _=> ?_) | refine LZ (fun _=> ?_) (fun _=> ?_) | refine mP (fun _=> ?_) (fun _=> ?_) | simp only [AJ,AN,AQ,AR,AK,AE,AL,AI,AS,AP,AU,AT,AM,AO,BJ,BP,BM,BN,BO,BS,BL,A4,A5,A9,A8,BA,A7])
 all_goals first
  | (rw [CU,WE (f:=KY a) (by simp [KY, *])];exact hR (by omega) trivial)
  | (rw [TE (f:=KY a) (by simp [KY, *])];exact hR (by omega) trivial)
  | (rw [exts,NO hs a.length (by omega), ←NO hs i (by omega)] at h;exact h)
  | (have:i=a.length:=by omega
     subst this;exact h)
end Go.Proofs.Ytklmcfpgdfibnaa.P
namespace Go.Proofs.Ytklmcfpgdfibnaa.P
open Go Go.Proofs.Ytklmcfpgdfibnaa Go.Proofs.Ytklmcfpgdfibnaa.Eng
set_option maxHeartbeats 4000000
set_option linter.unusedVariables false
set_option linter.unusedSimpArgs false
attribute [local irreducible] prP gP gE gF AY ixW ldc ldg ldl stc stg scW mkW apW BD cl2 BQ CZ B9
variable {w0:World}
end Go.Proofs.Ytklmcfpgdfibnaa.P
namespace Go.Proofs.Ytklmcfpgdfibnaa.P
open Go Go.Proofs.Ytklmcfpgdfibnaa Go.Proofs.Ytklmcfpgdfibnaa.Eng
set_option maxHeartbeats 4000000
set_option linter.unusedVariables false
set_option linter.unusedSimpArgs false
attribute [local irreducible] prP gP gE gF AY ixW ldc ldg ldl stc stg scW mkW apW BD cl2 BQ CZ B9
variable {w0:World}
end Go.Proofs.Ytklmcfpgdfibnaa.P
namespace Go.Proofs.Ytklmcfpgdfibnaa.P
open Go Go.Proofs.Ytklmcfpgdfibnaa Go.Proofs.Ytklmcfpgdfibnaa.Eng
set_option maxHeartbeats 4000000
set_option linter.unusedVariables false
set_option linter.unusedSimpArgs false
attribute [local irreducible] prP gP gE gF AY ixW ldc ldg ldl stc stg scW mkW apW BD cl2 BQ CZ B9
variable {w0:World}
def fA (o:Nd):Int:=5+(o.field.length:Int)
theorem pC (o:Nd):0≤fA o:=by unfold fA;omega
end Go.Proofs.Ytklmcfpgdfibnaa.P
