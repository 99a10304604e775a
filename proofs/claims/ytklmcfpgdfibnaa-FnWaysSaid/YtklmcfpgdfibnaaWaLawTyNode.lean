/- A part of the proof. -/
import Derived.Test.YtklmcfpgdfibnaaWaLawHp
import Derived.Test.YtklmcfpgdfibnaaWaLawTyWeak
namespace Go.Proofs.Ytklmcfpgdfibnaa.P
open Go Go.Proofs.Ytklmcfpgdfibnaa Go.Proofs.Ytklmcfpgdfibnaa.Eng
set_option maxHeartbeats 4000000
set_option linter.unusedVariables false
set_option linter.unusedSimpArgs false
attribute [local irreducible] prP gP gE gF AX ixW ldc ldg ldl stc stg scW mkW apW BE cl2 BK C2 CI
variable {w0:World}
def pick {α:Type} (f:Nat→List α):Nat→List α
 | 0=>[]
 | n+1=>pick f n++f n
theorem HU {α:Type} {f:Nat→List α} (h: ∀i,(f i).length≤1): ∀n,(pick f n).length≤n
 | 0=>Nat.le_refl _
 | n+1=>by have:=HU h n;have:=h n;simp only [pick,List.length_append];omega
theorem MN {α:Type} {f:Nat→List α} {m:Nat} (h: ∀i,m≤i→f i=[]): ∀n,m≤n→pick f n=pick f m
 | 0,hn=>by rw [Nat.le_zero.1 hn]
 | n+1,hn=>by
   rcases Nat.lt_or_ge n m with h1 | h1
   ·rw [show n+1=m by omega]
   ·rw [pick,h n h1,List.append_nil,MN h n h1]
theorem U2 {α:Type} {f:Nat→List α} {n:Nat} {l:List α} (h:f n=l):pick f n++l=pick f (n+1):=by rw [pick,h]
theorem SX {α:Type} {f:Nat→List α} {n:Nat} (h:f n=[]):pick f n=pick f (n+1):=by rw [pick,h,List.append_nil]
def B6 (s g:Int):Int:=if (0≤s∧s≤7)∧1≤g∧g≤999 then s+8*g else -1
def AA (l:List AE) (id:Int):Int:=if id<8∨l.length≠8 then -1 else if (ob l (id % 8).toNat).live=true∧(ob l (id % 8).toNat).gen=id/8 then id % 8 else -1
theorem jZ {n lo hi:Int} {K:J2} (h:K [.bool (decide (lo≤n∧n≤hi))] []):cl2 ⟨Try.prog,w0⟩ 131 JV.sg [I n,I lo,I hi] [] K:=by
 refine JV.cl2 ?_
 unfold JV.txt
 repeat' (first | refine BO ?_ | refine D9 (by first | with_reducible assumption | omega) rfl ?_ | refine EC (by first | with_reducible assumption | omega) rfl ?_ | refine IJ ?_ | refine LP (fun _=> ?_) (fun _=> ?_))
 ·have e:decide (lo≤n∧n≤hi)=decide (n≤hi):=by rw [decide_eq_decide];omega
  rw [e] at h;exact h
 ·have e:decide (lo≤n∧n≤hi)=false:=decide_eq_false (by omega)
  rw [e] at h;exact h
theorem DI {n lo hi:Int} {K:J2} (h:K [.bool (decide (lo≤n∧n≤hi))] []):cl2 ⟨Try.prog,w0⟩ 87 B7.sg [I n,I lo,I hi] [] K:=by
 refine B7.cl2 ?_
 unfold B7.txt
 repeat' (first | refine BO ?_ | refine D9 (by first | with_reducible assumption | omega) rfl ?_ | refine EC (by first | with_reducible assumption | omega) rfl ?_ | refine IJ ?_ | refine LP (fun _=> ?_) (fun _=> ?_))
 ·have e:decide (lo≤n∧n≤hi)=decide (n≤hi):=by rw [decide_eq_decide];omega
  rw [e] at h;exact h
 ·have e:decide (lo≤n∧n≤hi)=false:=decide_eq_false (by omega)
  rw [e] at h;exact h
theorem S4 {s g:Int} {K:J2} (h:K [I (B6 s g)] []):cl2 ⟨Try.prog,w0⟩ 98 F8.sg [I s,I g] [] K:=by
 refine F8.cl2 ?_
 unfold F8.txt
 repeat' (first | refine jZ ?_ | refine RZ ⟨by omega,by omega⟩ ?_ | refine BO ?_ | refine IK (by first | with_reducible assumption | omega) ?_ | refine DU (by first | with_reducible assumption | omega) ?_ | refine D9 (by first | with_reducible assumption | omega) rfl ?_ | refine EC (by first | with_reducible assumption | omega) rfl ?_ | refine CL ?_ | refine FW ?_ | refine FR ⟨by omega,by omega⟩ ?_ | refine AZ (fun _=> ?_) (fun _=> ?_) | refine MP (fun _=> ?_) (fun _=> ?_))
 ·rw [B6,if_neg (by omega)] at h;exact h
 ·rw [B6,if_pos (by omega)] at h;exact h
 ·rw [B6,if_neg (by omega)] at h;exact h
theorem GK {s g:Int} {K:J2} (h:K [I (B6 s g)] []):cl2 ⟨Try.prog,w0⟩ 61 CU.sg [I s,I g] [] K:=by
 refine CU.cl2 ?_
 unfold CU.txt
 repeat' (first | refine DI ?_ | refine RZ ⟨by omega,by omega⟩ ?_ | refine BO ?_ | refine IK (by first | with_reducible assumption | omega) ?_ | refine DU (by first | with_reducible assumption | omega) ?_ | refine D9 (by first | with_reducible assumption | omega) rfl ?_ | refine EC (by first | with_reducible assumption | omega) rfl ?_ | refine CL ?_ | refine FW ?_ | refine FR ⟨by omega,by omega⟩ ?_ | refine AZ (fun _=> ?_) (fun _=> ?_) | refine MP (fun _=> ?_) (fun _=> ?_))
 ·rw [B6,if_neg (by omega)] at h;exact h
 ·rw [B6,if_pos (by omega)] at h;exact h
 ·rw [B6,if_neg (by omega)] at h;exact h
theorem EH {l:List AE} {id:Int} (h:id<8∨l.length≠8):AA l id= -1:=if_pos h
theorem HC {l:List AE} {id:Int} (h1:8≤id) (h2:l.length=8) (hl:(id % 8).toNat<l.length) (h3:(ob l (id % 8).toNat).live=true) (h4:(ob l (id % 8).toNat).gen=id/8):AA l id=id % 8:=by
 rw [AA,if_neg (by omega),if_pos ⟨h3,h4⟩]
theorem HE {l:List AE} {id:Int} (hl:(id % 8).toNat<l.length) (h:(ob l (id % 8).toNat).live=false∨(ob l (id % 8).toNat).gen≠id/8):AA l id= -1:=by
 rw [AA]
 split
 ·rfl
 ·rw [if_neg]
  rintro ⟨h1,h2⟩
  rcases h with h | h
  ·rw [h] at h1;cases h1
  ·exact h h2
theorem L6 {a:List AE} {b c d:List T} {id:Int} {K:J2} (hid:F64 id) (hl:(a.length:Int)<2^62) (h:K [I (AA a id)] []):cl2 ⟨Try.prog,w0⟩ 81 DK.sg [I id] [tR tO a,b,c,d] K:=by
 obtain ⟨i1,i2⟩:=hid
 refine DK.cl2 ?_
 unfold DK.txt
 simp only [AI,AU,AL,AR,AQ,AG,AJ,AK,AO,AP,AN,AT,AS,AM,BH,BP,BS,BM,BQ,BN,BL,A6,A5,A4,A7,A8,A9]
 repeat' (first | refine BO ?_ | refine PV (by with_reducible assumption) ?_ | refine hD (by with_reducible assumption) ?_ | refine pR (by with_reducible assumption) rfl ?_ | refine pU (by with_reducible assumption) rfl ?_ | refine D9 (by first | with_reducible assumption | omega) rfl ?_ | refine EC (by first | with_reducible assumption | omega) rfl ?_ | refine CL ?_ | refine BA ?_ | refine C8 ?_ | refine TW (by omega) (by omega) ?_ | refine fW (by omega) ⟨by omega,by omega⟩ (by omega) ?_ | refine S8 (by omega) (by omega) ?_ | refine V9 (by omega) ?_ | refine AZ (fun _=> ?_) (fun _=> ?_) | refine MP (fun _=> ?_) (fun _=> ?_) | refine nK (fun _=> ?_) (fun _=> ?_) | refine CN ?_)
 ·rw [EH (by omega)] at h;exact h
 ·rw [HE (by omega) (.inr (by assumption))] at h;exact h
 ·rename_i e1 e2
  rw [HC (by omega) (by omega) (by omega) (by simpa using e1) (by simpa using e2)] at h;exact h
 ·rename_i e1
  rw [HE (by omega) (.inl (by simpa using e1))] at h;exact h
 ·rw [EH (by omega)] at h;exact h
theorem BX {a:List AE} {b c d:List T} {id:Int} {K:J2} (hid:F64 id) (hl:(a.length:Int)<2^62) (h:K [I (AA a id)] []):cl2 ⟨Try.prog,w0⟩ 24 BD.sg [I id] [tR tO a,b,c,d] K:=by
 obtain ⟨i1,i2⟩:=hid
 refine BD.cl2 ?_
 unfold BD.txt
 simp only [AI,AU,AL,AR,AQ,AG,AJ,AK,AO,AP,AN,AT,AS,AM,BH,BP,BS,BM,BQ,BN,BL,A6,A5,A4,A7,A8,A9]
 repeat' (first | refine BO ?_ | refine PV (by with_reducible assumption) ?_ | refine hD (by with_reducible assumption) ?_ | refine pR (by with_reducible assumption) rfl ?_ | refine pU (by with_reducible assumption) rfl ?_ | refine D9 (by first | with_reducible assumption | omega) rfl ?_ | refine EC (by first | with_reducible assumption | omega) rfl ?_ | refine CL ?_ | refine BA ?_ | refine C8 ?_ | refine TW (by omega) (by omega) ?_ | refine fW (by omega) ⟨by omega,by omega⟩ (by omega) ?_ | refine S8 (by omega) (by omega) ?_ | refine JG (by omega) (by decide) rfl ?_ | refine KJ (by omega) rfl ?_ | refine AZ (fun _=> ?_) (fun _=> ?_) | refine MP (fun _=> ?_) (fun _=> ?_) | refine nK (fun _=> ?_) (fun _=> ?_) | refine CN ?_)
 ·rw [EH (by omega)] at h;exact h
 ·rw [HE (by omega) (.inr (by assumption))] at h;exact h
 ·rename_i e1 e2
  rw [HC (by omega) (by omega) (by omega) (by simpa using e1) (by simpa using e2)] at h;exact h
 ·rename_i e1
  rw [HE (by omega) (.inl (by simpa using e1))] at h;exact h
 ·rw [EH (by omega)] at h;exact h
def J9 (l:List AE) (i:Nat):List Int:=if (i:Int)<8∧(ob l i).live=true∧w64 ((ob l i).holds+(ob l i).roots)>0 then [B6 i (ob l i).gen] else []
def exts (l:List AE):List Int:=pick (J9 l) l.length
theorem RA (l:List AE) (i:Nat):(J9 l i).length≤1:=by unfold J9;split <;> simp
theorem SO {a:List AE} {b c d:List T} {K:J2} (hl:(a.length:Int)≤1048576) (h:K [] [tI (exts a)]):cl2 ⟨Try.prog,w0⟩ 35 DM.sg [] [tR tO a,b,c,d] K:=by
 refine DM.cl2 ?_
 unfold DM.txt
 refine BJ (fun i=>[iv a.length,iv i]) (fun i=>[tI (pick (J9 a) i)]) a.length (fun _=>True) (by rw [AI];rfl) rfl trivial (fun R i hi hP hR=> ?_)
 have hp:=HU (RA a) i
 simp only [AI,AU,AL,AR,AQ,AG,AJ,AK,AO,AP,AN,AT,AS,AM,BH,BP,BS,BM,BQ,BN,BL,A6,A5,A4,A7,A8,A9]
 refine BA (AZ (fun hlt=> ?_) fun hge=> ?_)
 ·have hlt:i<a.length:=by omega
  replace hR:=hR hlt trivial
  refine BY ?_
  repeat' (first | refine S4 ?_ | refine BO ?_ | refine JW ?_ | refine PV (by with_reducible assumption) ?_ | refine fH (by with_reducible assumption) ?_ | refine pR (by with_reducible assumption) rfl ?_ | refine pU (by with_reducible assumption) rfl ?_ | refine WW rfl ?_ | refine CE ?_ | refine BA ?_ | refine BB (by omega) ?_ | refine HG ?_ | refine AH (by omega) ?_ | refine V9 (by omega) ?_ | refine DW (by first | exact JT _ | exact ZP _ | exact YY _ | exact hH _ | rfl) (by omega) ?_ | refine AZ (fun _=> ?_) (fun _=> ?_) | refine lY rfl rfl (fun _=> ?_) (fun _=> ?_) | refine nS (fun _=> ?_) (fun _=> ?_) | simp only [AI,AU,AL,AR,AQ,AG,AJ,AK,AO,AP,AN,AT,AS,AM,BH,BP,BS,BM,BQ,BN,BL,A6,A5,A4,A7,A8,A9])
  all_goals first
   | (rw [C9,U2 (f:=J9 a) (by simp [J9, *])];exact hR)
   | (rw [SX (f:=J9 a) (by simp [J9, *])];exact hR)
 ·have:i=a.length:=by omega
  subst this;exact h
theorem I9 {a:List AE} {b c d:List T} {K:J2} (hl:(a.length:Int)≤1048576) (h:K [] [tI (exts a)]):cl2 ⟨Try.prog,w0⟩ 33 CF.sg [] [tR tO a,b,c,d] K:=by
 refine CF.cl2 ?_
 unfold CF.txt
 refine BJ (fun i=>[iv i]) (fun i=>[tI (pick (J9 a) i)]) a.length (fun _=>True) rfl rfl trivial (fun R i hi hP hR=> ?_)
 have hp:=HU (RA a) i
 have hs: ∀i,8≤i→J9 a i=[]:=fun i hi=>by rw [J9,if_neg (by omega)]
 simp only [AI,AU,AL,AR,AQ,AG,AJ,AK,AO,AP,AN,AT,AS,AM,BH,BP,BS,BM,BQ,BN,BL,A6,A5,A4,A7,A8,A9]
 repeat' (first | refine BY ?_ | refine GK ?_ | refine BO ?_ | refine PV (by with_reducible assumption) ?_ | refine fH (by with_reducible assumption) ?_ | refine pR (by with_reducible assumption) rfl ?_ | refine pU (by with_reducible assumption) rfl ?_ | refine D9 (by first | with_reducible assumption | omega) rfl ?_ | refine EC (by first | with_reducible assumption | omega) rfl ?_ | refine CE ?_ | refine BA ?_ | refine BB (by omega) ?_ | refine HG ?_ | refine AH (by omega) ?_ | refine JG (by omega) (by decide) rfl ?_ | refine KJ (by omega) rfl ?_ | refine DW (by first | exact JT _ | exact ZP _ | exact YY _ | exact hH _ | rfl) (by omega) ?_ | refine AZ (fun _=> ?_) (fun _=> ?_) | refine LP (fun _=> ?_) (fun _=> ?_) | refine nS (fun _=> ?_) (fun _=> ?_) | simp only [AI,AU,AL,AR,AQ,AG,AJ,AK,AO,AP,AN,AT,AS,AM,BH,BP,BS,BM,BQ,BN,BL,A6,A5,A4,A7,A8,A9])
 all_goals first
  | (rw [C9,U2 (f:=J9 a) (by simp [J9, *])];exact hR (by omega) trivial)
  | (rw [SX (f:=J9 a) (by simp [J9, *])];exact hR (by omega) trivial)
  | (rw [exts,MN hs a.length (by omega), ←MN hs i (by omega)] at h;exact h)
  | (have:i=a.length:=by omega
     subst this;exact h)
end Go.Proofs.Ytklmcfpgdfibnaa.P
namespace Go.Proofs.Ytklmcfpgdfibnaa.P
open Go Go.Proofs.Ytklmcfpgdfibnaa Go.Proofs.Ytklmcfpgdfibnaa.Eng
set_option maxHeartbeats 4000000
set_option linter.unusedVariables false
set_option linter.unusedSimpArgs false
attribute [local irreducible] prP gP gE gF AX ixW ldc ldg ldl stc stg scW mkW apW BE cl2 BK C2 CI
variable {w0:World}
end Go.Proofs.Ytklmcfpgdfibnaa.P
namespace Go.Proofs.Ytklmcfpgdfibnaa.P
open Go Go.Proofs.Ytklmcfpgdfibnaa Go.Proofs.Ytklmcfpgdfibnaa.Eng
set_option maxHeartbeats 4000000
set_option linter.unusedVariables false
set_option linter.unusedSimpArgs false
attribute [local irreducible] prP gP gE gF AX ixW ldc ldg ldl stc stg scW mkW apW BE cl2 BK C2 CI
variable {w0:World}
end Go.Proofs.Ytklmcfpgdfibnaa.P
namespace Go.Proofs.Ytklmcfpgdfibnaa.P
open Go Go.Proofs.Ytklmcfpgdfibnaa Go.Proofs.Ytklmcfpgdfibnaa.Eng
set_option maxHeartbeats 4000000
set_option linter.unusedVariables false
set_option linter.unusedSimpArgs false
attribute [local irreducible] prP gP gE gF AX ixW ldc ldg ldl stc stg scW mkW apW BE cl2 BK C2 CI
variable {w0:World}
def dP (o:Nd):Int:=5+(o.field.length:Int)
theorem nC (o:Nd):0≤dP o:=by unfold dP;omega
end Go.Proofs.Ytklmcfpgdfibnaa.P
