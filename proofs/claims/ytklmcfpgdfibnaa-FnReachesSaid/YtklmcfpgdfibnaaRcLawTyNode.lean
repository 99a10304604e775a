/- A part of the proof. -/
import Derived.Test.YtklmcfpgdfibnaaRcLawHp
import Derived.Test.YtklmcfpgdfibnaaRcLawTyWeak
namespace Go.Proofs.Ytklmcfpgdfibnaa.P
open Go Go.Proofs.Ytklmcfpgdfibnaa Go.Proofs.Ytklmcfpgdfibnaa.Eng
set_option maxHeartbeats 4000000
set_option linter.unusedVariables false
set_option linter.unusedSimpArgs false
attribute [local irreducible] prP gP gE gF AW ixW ldc ldg ldl stc stg scW mkW apW BE cl2 BS C6 CO
variable {w0:World}
def pick {α:Type} (f:Nat→List α):Nat→List α
 | 0=>[]
 | n+1=>pick f n++f n
theorem HC {α:Type} {f:Nat→List α} (h: ∀i,(f i).length≤1): ∀n,(pick f n).length≤n
 | 0=>Nat.le_refl _
 | n+1=>by have:=HC h n;have:=h n;simp only [pick,List.length_append];omega
theorem O6 {α:Type} {f:Nat→List α} {m:Nat} (h: ∀i,m≤i→f i=[]): ∀n,m≤n→pick f n=pick f m
 | 0,hn=>by rw [Nat.le_zero.1 hn]
 | n+1,hn=>by
   rcases Nat.lt_or_ge n m with h1 | h1
   ·rw [show n+1=m by omega]
   ·rw [pick,h n h1,List.append_nil,O6 h n h1]
theorem RU {α:Type} {f:Nat→List α} {n:Nat} {l:List α} (h:f n=l):pick f n++l=pick f (n+1):=by rw [pick,h]
theorem MG {α:Type} {f:Nat→List α} {n:Nat} (h:f n=[]):pick f n=pick f (n+1):=by rw [pick,h,List.append_nil]
def B8 (s g:Int):Int:=if (0≤s∧s≤7)∧1≤g∧g≤999 then s+8*g else -1
def AA (l:List AG) (id:Int):Int:=if id<8∨l.length≠8 then -1 else if (ob l (id % 8).toNat).live=true∧(ob l (id % 8).toNat).gen=id/8 then id % 8 else -1
theorem jF {n lo hi:Int} {K:J2} (h:K [.bool (decide (lo≤n∧n≤hi))] []):cl2 ⟨Try.prog,w0⟩ 131 JP.sg [I n,I lo,I hi] [] K:=by
 refine JP.cl2 ?_
 unfold JP.txt
 repeat' (first | refine BT ?_ | refine EI (by first | with_reducible assumption | omega) rfl ?_ | refine EJ (by first | with_reducible assumption | omega) rfl ?_ | refine JN ?_ | refine LI (fun _=> ?_) (fun _=> ?_))
 ·have e:decide (lo≤n∧n≤hi)=decide (n≤hi):=by rw [decide_eq_decide];omega
  rw [e] at h;exact h
 ·have e:decide (lo≤n∧n≤hi)=false:=decide_eq_false (by omega)
  rw [e] at h;exact h
theorem DD {n lo hi:Int} {K:J2} (h:K [.bool (decide (lo≤n∧n≤hi))] []):cl2 ⟨Try.prog,w0⟩ 87 B6.sg [I n,I lo,I hi] [] K:=by
 refine B6.cl2 ?_
 unfold B6.txt
 repeat' (first | refine BT ?_ | refine EI (by first | with_reducible assumption | omega) rfl ?_ | refine EJ (by first | with_reducible assumption | omega) rfl ?_ | refine JN ?_ | refine LI (fun _=> ?_) (fun _=> ?_))
 ·have e:decide (lo≤n∧n≤hi)=decide (n≤hi):=by rw [decide_eq_decide];omega
  rw [e] at h;exact h
 ·have e:decide (lo≤n∧n≤hi)=false:=decide_eq_false (by omega)
  rw [e] at h;exact h
theorem OS {s g:Int} {K:J2} (h:K [I (B8 s g)] []):cl2 ⟨Try.prog,w0⟩ 98 FB.sg [I s,I g] [] K:=by
 refine FB.cl2 ?_
 unfold FB.txt
 repeat' (first | refine jF ?_ | refine QM ⟨by omega,by omega⟩ ?_ | refine BT ?_ | refine NO (by first | with_reducible assumption | omega) ?_ | refine GY (by first | with_reducible assumption | omega) ?_ | refine EI (by first | with_reducible assumption | omega) rfl ?_ | refine EJ (by first | with_reducible assumption | omega) rfl ?_ | refine CT ?_ | refine FR ?_ | refine FI ⟨by omega,by omega⟩ ?_ | refine AX (fun _=> ?_) (fun _=> ?_) | refine MO (fun _=> ?_) (fun _=> ?_))
 ·rw [B8,if_neg (by omega)] at h;exact h
 ·rw [B8,if_pos (by omega)] at h;exact h
 ·rw [B8,if_neg (by omega)] at h;exact h
theorem GH {s g:Int} {K:J2} (h:K [I (B8 s g)] []):cl2 ⟨Try.prog,w0⟩ 61 CP.sg [I s,I g] [] K:=by
 refine CP.cl2 ?_
 unfold CP.txt
 repeat' (first | refine DD ?_ | refine QM ⟨by omega,by omega⟩ ?_ | refine BT ?_ | refine NO (by first | with_reducible assumption | omega) ?_ | refine GY (by first | with_reducible assumption | omega) ?_ | refine EI (by first | with_reducible assumption | omega) rfl ?_ | refine EJ (by first | with_reducible assumption | omega) rfl ?_ | refine CT ?_ | refine FR ?_ | refine FI ⟨by omega,by omega⟩ ?_ | refine AX (fun _=> ?_) (fun _=> ?_) | refine MO (fun _=> ?_) (fun _=> ?_))
 ·rw [B8,if_neg (by omega)] at h;exact h
 ·rw [B8,if_pos (by omega)] at h;exact h
 ·rw [B8,if_neg (by omega)] at h;exact h
theorem EG {l:List AG} {id:Int} (h:id<8∨l.length≠8):AA l id= -1:=if_pos h
theorem HA {l:List AG} {id:Int} (h1:8≤id) (h2:l.length=8) (hl:(id % 8).toNat<l.length) (h3:(ob l (id % 8).toNat).live=true) (h4:(ob l (id % 8).toNat).gen=id/8):AA l id=id % 8:=by
 rw [AA,if_neg (by omega),if_pos ⟨h3,h4⟩]
theorem G6 {l:List AG} {id:Int} (hl:(id % 8).toNat<l.length) (h:(ob l (id % 8).toNat).live=false∨(ob l (id % 8).toNat).gen≠id/8):AA l id= -1:=by
 rw [AA]
 split
 ·rfl
 ·rw [if_neg]
  rintro ⟨h1,h2⟩
  rcases h with h | h
  ·rw [h] at h1;cases h1
  ·exact h h2
theorem PQ {a:List AG} {b c d:List T} {id:Int} {K:J2} (hid:F64 id) (hl:(a.length:Int)<2^62) (h:K [I (AA a id)] []):cl2 ⟨Try.prog,w0⟩ 81 D9.sg [I id] [tR tO a,b,c,d] K:=by
 obtain ⟨i1,i2⟩:=hid
 refine D9.cl2 ?_
 unfold D9.txt
 simp only [AH,AP,AK,AM,AO,AE,AI,AR,AN,AL,AS,AJ,AT,AQ,BH,BL,BM,BN,BP,BO,BK,A5,A8,A4,A9,A6,A7]
 repeat' (first | refine BT ?_ | refine PS (by with_reducible assumption) ?_ | refine fC (by with_reducible assumption) ?_ | refine o5 (by with_reducible assumption) rfl ?_ | refine oX (by with_reducible assumption) rfl ?_ | refine EI (by first | with_reducible assumption | omega) rfl ?_ | refine EJ (by first | with_reducible assumption | omega) rfl ?_ | refine CT ?_ | refine BA ?_ | refine DK ?_ | refine T1 (by omega) (by omega) ?_ | refine fA (by omega) ⟨by omega,by omega⟩ (by omega) ?_ | refine SZ (by omega) (by omega) ?_ | refine RZ (by omega) ?_ | refine AX (fun _=> ?_) (fun _=> ?_) | refine MO (fun _=> ?_) (fun _=> ?_) | refine mV (fun _=> ?_) (fun _=> ?_) | refine CV ?_)
 ·rw [EG (by omega)] at h;exact h
 ·rw [G6 (by omega) (.inr (by assumption))] at h;exact h
 ·rename_i e1 e2
  rw [HA (by omega) (by omega) (by omega) (by simpa using e1) (by simpa using e2)] at h;exact h
 ·rename_i e1
  rw [G6 (by omega) (.inl (by simpa using e1))] at h;exact h
 ·rw [EG (by omega)] at h;exact h
theorem BX {a:List AG} {b c d:List T} {id:Int} {K:J2} (hid:F64 id) (hl:(a.length:Int)<2^62) (h:K [I (AA a id)] []):cl2 ⟨Try.prog,w0⟩ 24 BD.sg [I id] [tR tO a,b,c,d] K:=by
 obtain ⟨i1,i2⟩:=hid
 refine BD.cl2 ?_
 unfold BD.txt
 simp only [AH,AP,AK,AM,AO,AE,AI,AR,AN,AL,AS,AJ,AT,AQ,BH,BL,BM,BN,BP,BO,BK,A5,A8,A4,A9,A6,A7]
 repeat' (first | refine BT ?_ | refine PS (by with_reducible assumption) ?_ | refine fC (by with_reducible assumption) ?_ | refine o5 (by with_reducible assumption) rfl ?_ | refine oX (by with_reducible assumption) rfl ?_ | refine EI (by first | with_reducible assumption | omega) rfl ?_ | refine EJ (by first | with_reducible assumption | omega) rfl ?_ | refine CT ?_ | refine BA ?_ | refine DK ?_ | refine T1 (by omega) (by omega) ?_ | refine fA (by omega) ⟨by omega,by omega⟩ (by omega) ?_ | refine SZ (by omega) (by omega) ?_ | refine I4 (by omega) (by decide) rfl ?_ | refine KA (by omega) rfl ?_ | refine AX (fun _=> ?_) (fun _=> ?_) | refine MO (fun _=> ?_) (fun _=> ?_) | refine mV (fun _=> ?_) (fun _=> ?_) | refine CV ?_)
 ·rw [EG (by omega)] at h;exact h
 ·rw [G6 (by omega) (.inr (by assumption))] at h;exact h
 ·rename_i e1 e2
  rw [HA (by omega) (by omega) (by omega) (by simpa using e1) (by simpa using e2)] at h;exact h
 ·rename_i e1
  rw [G6 (by omega) (.inl (by simpa using e1))] at h;exact h
 ·rw [EG (by omega)] at h;exact h
def PE (l:List AG) (i:Nat):List Int:=if (i:Int)<8∧(ob l i).live=true∧w64 ((ob l i).holds+(ob l i).roots)>0 then [B8 i (ob l i).gen] else []
def exts (l:List AG):List Int:=pick (PE l) l.length
theorem VI (l:List AG) (i:Nat):(PE l i).length≤1:=by unfold PE;split <;> simp
theorem MQ {a:List AG} {b c d:List T} {K:J2} (hl:(a.length:Int)≤1048576) (h:K [] [tI (exts a)]):cl2 ⟨Try.prog,w0⟩ 35 C0.sg [] [tR tO a,b,c,d] K:=by
 refine C0.cl2 ?_
 unfold C0.txt
 refine BG (fun i=>[iv a.length,iv i]) (fun i=>[tI (pick (PE a) i)]) a.length (fun _=>True) (by rw [AH];rfl) rfl trivial (fun R i hi hP hR=> ?_)
 have hp:=HC (VI a) i
 simp only [AH,AP,AK,AM,AO,AE,AI,AR,AN,AL,AS,AJ,AT,AQ,BH,BL,BM,BN,BP,BO,BK,A5,A8,A4,A9,A6,A7]
 refine BA (AX (fun hlt=> ?_) fun hge=> ?_)
 ·have hlt:i<a.length:=by omega
  replace hR:=hR hlt trivial
  refine BZ ?_
  repeat' (first | refine OS ?_ | refine BT ?_ | refine JZ ?_ | refine PS (by with_reducible assumption) ?_ | refine fE (by with_reducible assumption) ?_ | refine o5 (by with_reducible assumption) rfl ?_ | refine oX (by with_reducible assumption) rfl ?_ | refine bK rfl ?_ | refine B7 ?_ | refine BA ?_ | refine BB (by omega) ?_ | refine G7 ?_ | refine AU (by omega) ?_ | refine RZ (by omega) ?_ | refine EH (by first | exact LH _ | exact X5 _ | exact YH _ | exact eK _ | rfl) (by omega) ?_ | refine AX (fun _=> ?_) (fun _=> ?_) | refine m4 rfl rfl (fun _=> ?_) (fun _=> ?_) | refine lE (fun _=> ?_) (fun _=> ?_) | simp only [AH,AP,AK,AM,AO,AE,AI,AR,AN,AL,AS,AJ,AT,AQ,BH,BL,BM,BN,BP,BO,BK,A5,A8,A4,A9,A6,A7])
  all_goals first
   | (rw [DJ,RU (f:=PE a) (by simp [PE, *])];exact hR)
   | (rw [MG (f:=PE a) (by simp [PE, *])];exact hR)
 ·have:i=a.length:=by omega
  subst this;exact h
theorem SD {a:List AG} {b c d:List T} {K:J2} (hl:(a.length:Int)≤1048576) (h:K [] [tI (exts a)]):cl2 ⟨Try.prog,w0⟩ 33 DN.sg [] [tR tO a,b,c,d] K:=by
 refine DN.cl2 ?_
 unfold DN.txt
 refine BG (fun i=>[iv i]) (fun i=>[tI (pick (PE a) i)]) a.length (fun _=>True) rfl rfl trivial (fun R i hi hP hR=> ?_)
 have hp:=HC (VI a) i
 have hs: ∀i,8≤i→PE a i=[]:=fun i hi=>by rw [PE,if_neg (by omega)]
 simp only [AH,AP,AK,AM,AO,AE,AI,AR,AN,AL,AS,AJ,AT,AQ,BH,BL,BM,BN,BP,BO,BK,A5,A8,A4,A9,A6,A7]
 repeat' (first | refine BZ ?_ | refine GH ?_ | refine BT ?_ | refine PS (by with_reducible assumption) ?_ | refine fE (by with_reducible assumption) ?_ | refine o5 (by with_reducible assumption) rfl ?_ | refine oX (by with_reducible assumption) rfl ?_ | refine EI (by first | with_reducible assumption | omega) rfl ?_ | refine EJ (by first | with_reducible assumption | omega) rfl ?_ | refine B7 ?_ | refine BA ?_ | refine BB (by omega) ?_ | refine G7 ?_ | refine AU (by omega) ?_ | refine I4 (by omega) (by decide) rfl ?_ | refine KA (by omega) rfl ?_ | refine EH (by first | exact LH _ | exact X5 _ | exact YH _ | exact eK _ | rfl) (by omega) ?_ | refine AX (fun _=> ?_) (fun _=> ?_) | refine LI (fun _=> ?_) (fun _=> ?_) | refine lE (fun _=> ?_) (fun _=> ?_) | simp only [AH,AP,AK,AM,AO,AE,AI,AR,AN,AL,AS,AJ,AT,AQ,BH,BL,BM,BN,BP,BO,BK,A5,A8,A4,A9,A6,A7])
 all_goals first
  | (rw [DJ,RU (f:=PE a) (by simp [PE, *])];exact hR (by omega) trivial)
  | (rw [MG (f:=PE a) (by simp [PE, *])];exact hR (by omega) trivial)
  | (rw [exts,O6 hs a.length (by omega), ←O6 hs i (by omega)] at h;exact h)
  | (have:i=a.length:=by omega
     subst this;exact h)
end Go.Proofs.Ytklmcfpgdfibnaa.P
namespace Go.Proofs.Ytklmcfpgdfibnaa.P
open Go Go.Proofs.Ytklmcfpgdfibnaa Go.Proofs.Ytklmcfpgdfibnaa.Eng
set_option maxHeartbeats 4000000
set_option linter.unusedVariables false
set_option linter.unusedSimpArgs false
attribute [local irreducible] prP gP gE gF AW ixW ldc ldg ldl stc stg scW mkW apW BE cl2 BS C6 CO
variable {w0:World}
end Go.Proofs.Ytklmcfpgdfibnaa.P
namespace Go.Proofs.Ytklmcfpgdfibnaa.P
open Go Go.Proofs.Ytklmcfpgdfibnaa Go.Proofs.Ytklmcfpgdfibnaa.Eng
set_option maxHeartbeats 4000000
set_option linter.unusedVariables false
set_option linter.unusedSimpArgs false
attribute [local irreducible] prP gP gE gF AW ixW ldc ldg ldl stc stg scW mkW apW BE cl2 BS C6 CO
variable {w0:World}
end Go.Proofs.Ytklmcfpgdfibnaa.P
namespace Go.Proofs.Ytklmcfpgdfibnaa.P
open Go Go.Proofs.Ytklmcfpgdfibnaa Go.Proofs.Ytklmcfpgdfibnaa.Eng
set_option maxHeartbeats 4000000
set_option linter.unusedVariables false
set_option linter.unusedSimpArgs false
attribute [local irreducible] prP gP gE gF AW ixW ldc ldg ldl stc stg scW mkW apW BE cl2 BS C6 CO
variable {w0:World}
def dG (o:Nd):Int:=5+(o.field.length:Int)
theorem mB (o:Nd):0≤dG o:=by unfold dG;omega
end Go.Proofs.Ytklmcfpgdfibnaa.P
