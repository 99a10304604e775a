/- A part of the proof. -/
import Derived.Test.YtklmcfpgdfibnaaRtLawHp
import Derived.Test.YtklmcfpgdfibnaaRtLawTyWeak
namespace Go.Proofs.Ytklmcfpgdfibnaa.P
open Go Go.Proofs.Ytklmcfpgdfibnaa Go.Proofs.Ytklmcfpgdfibnaa.Eng
set_option maxHeartbeats 4000000
set_option linter.unusedVariables false
set_option linter.unusedSimpArgs false
attribute [local irreducible] prP gP gE gF AX ixW ldc ldg ldl stc stg scW mkW apW BN cl2 BV EN CJ
variable {w0:World}
def pick {α:Type} (f:Nat→List α):Nat→List α
 | 0=>[]
 | n+1=>pick f n++f n
theorem JY {α:Type} {f:Nat→List α} (h: ∀i,(f i).length≤1): ∀n,(pick f n).length≤n
 | 0=>Nat.le_refl _
 | n+1=>by have:=JY h n;have:=h n;simp only [pick,List.length_append];omega
theorem XY {α:Type} {f:Nat→List α} {m:Nat} (h: ∀i,m≤i→f i=[]): ∀n,m≤n→pick f n=pick f m
 | 0,hn=>by rw [Nat.le_zero.1 hn]
 | n+1,hn=>by
   rcases Nat.lt_or_ge n m with h1 | h1
   ·rw [show n+1=m by omega]
   ·rw [pick,h n h1,List.append_nil,XY h n h1]
theorem cV {α:Type} {f:Nat→List α} {n:Nat} {l:List α} (h:f n=l):pick f n++l=pick f (n+1):=by rw [pick,h]
theorem TS {α:Type} {f:Nat→List α} {n:Nat} (h:f n=[]):pick f n=pick f (n+1):=by rw [pick,h,List.append_nil]
def CE (s g:Int):Int:=if (0≤s∧s≤7)∧1≤g∧g≤999 then s+8*g else -1
def AB (l:List AV) (id:Int):Int:=if id<8∨l.length≠8 then -1 else if (ob l (id % 8).toNat).live=true∧(ob l (id % 8).toNat).gen=id/8 then id % 8 else -1
theorem GR {n lo hi:Int} {K:J2} (h:K [.bool (decide (lo≤n∧n≤hi))] []):cl2 ⟨Try.prog,w0⟩ 131 C4.sg [I n,I lo,I hi] [] K:=by
 refine C4.cl2 ?_
 unfold C4.txt
 repeat' (first | refine BK ?_ | refine C6 (by first | with_reducible assumption | omega) rfl ?_ | refine C2 (by first | with_reducible assumption | omega) rfl ?_ | refine GY ?_ | refine I4 (fun _=> ?_) (fun _=> ?_))
 ·have e:decide (lo≤n∧n≤hi)=decide (n≤hi):=by rw [decide_eq_decide];omega
  rw [e] at h;exact h
 ·have e:decide (lo≤n∧n≤hi)=false:=decide_eq_false (by omega)
  rw [e] at h;exact h
theorem D9 {n lo hi:Int} {K:J2} (h:K [.bool (decide (lo≤n∧n≤hi))] []):cl2 ⟨Try.prog,w0⟩ 87 CC.sg [I n,I lo,I hi] [] K:=by
 refine CC.cl2 ?_
 unfold CC.txt
 repeat' (first | refine BK ?_ | refine C6 (by first | with_reducible assumption | omega) rfl ?_ | refine C2 (by first | with_reducible assumption | omega) rfl ?_ | refine GY ?_ | refine I4 (fun _=> ?_) (fun _=> ?_))
 ·have e:decide (lo≤n∧n≤hi)=decide (n≤hi):=by rw [decide_eq_decide];omega
  rw [e] at h;exact h
 ·have e:decide (lo≤n∧n≤hi)=false:=decide_eq_false (by omega)
  rw [e] at h;exact h
theorem JD {s g:Int} {K:J2} (h:K [I (CE s g)] []):cl2 ⟨Try.prog,w0⟩ 98 DY.sg [I s,I g] [] K:=by
 refine DY.cl2 ?_
 unfold DY.txt
 repeat' (first | refine GR ?_ | refine SO ⟨by omega,by omega⟩ ?_ | refine BK ?_ | refine KY (by first | with_reducible assumption | omega) ?_ | refine EY (by first | with_reducible assumption | omega) ?_ | refine C6 (by first | with_reducible assumption | omega) rfl ?_ | refine C2 (by first | with_reducible assumption | omega) rfl ?_ | refine B2 ?_ | refine DK ?_ | refine DT ⟨by omega,by omega⟩ ?_ | refine AW (fun _=> ?_) (fun _=> ?_) | refine J3 (fun _=> ?_) (fun _=> ?_))
 ·rw [CE,if_neg (by omega)] at h;exact h
 ·rw [CE,if_pos (by omega)] at h;exact h
 ·rw [CE,if_neg (by omega)] at h;exact h
theorem IC {s g:Int} {K:J2} (h:K [I (CE s g)] []):cl2 ⟨Try.prog,w0⟩ 61 DI.sg [I s,I g] [] K:=by
 refine DI.cl2 ?_
 unfold DI.txt
 repeat' (first | refine D9 ?_ | refine SO ⟨by omega,by omega⟩ ?_ | refine BK ?_ | refine KY (by first | with_reducible assumption | omega) ?_ | refine EY (by first | with_reducible assumption | omega) ?_ | refine C6 (by first | with_reducible assumption | omega) rfl ?_ | refine C2 (by first | with_reducible assumption | omega) rfl ?_ | refine B2 ?_ | refine DK ?_ | refine DT ⟨by omega,by omega⟩ ?_ | refine AW (fun _=> ?_) (fun _=> ?_) | refine J3 (fun _=> ?_) (fun _=> ?_))
 ·rw [CE,if_neg (by omega)] at h;exact h
 ·rw [CE,if_pos (by omega)] at h;exact h
 ·rw [CE,if_neg (by omega)] at h;exact h
theorem GI {l:List AV} {id:Int} (h:id<8∨l.length≠8):AB l id= -1:=if_pos h
theorem IH {l:List AV} {id:Int} (h1:8≤id) (h2:l.length=8) (hl:(id % 8).toNat<l.length) (h3:(ob l (id % 8).toNat).live=true) (h4:(ob l (id % 8).toNat).gen=id/8):AB l id=id % 8:=by
 rw [AB,if_neg (by omega),if_pos ⟨h3,h4⟩]
theorem HQ {l:List AV} {id:Int} (hl:(id % 8).toNat<l.length) (h:(ob l (id % 8).toNat).live=false∨(ob l (id % 8).toNat).gen≠id/8):AB l id= -1:=by
 rw [AB]
 split
 ·rfl
 ·rw [if_neg]
  rintro ⟨h1,h2⟩
  rcases h with h | h
  ·rw [h] at h1;cases h1
  ·exact h h2
theorem CM {a:List AV} {b c d:List T} {id:Int} {K:J2} (hid:F64 id) (hl:(a.length:Int)<2^62) (h:K [I (AB a id)] []):cl2 ⟨Try.prog,w0⟩ 81 BS.sg [I id] [tR tO a,b,c,d] K:=by
 obtain ⟨i1,i2⟩:=hid
 refine BS.cl2 ?_
 unfold BS.txt
 simp only [AH,AR,AN,AS,AJ,AD,AG,AP,AO,AK,AM,AL,AI,AQ,BD,BI,BH,BJ,BG,BF,BE,A5,AZ,A4,A6,A7,AY]
 repeat' (first | refine BK ?_ | refine PB (by with_reducible assumption) ?_ | refine Z1 (by with_reducible assumption) ?_ | refine kK (by with_reducible assumption) rfl ?_ | refine lB (by with_reducible assumption) rfl ?_ | refine C6 (by first | with_reducible assumption | omega) rfl ?_ | refine C2 (by first | with_reducible assumption | omega) rfl ?_ | refine B2 ?_ | refine A8 ?_ | refine CA ?_ | refine U1 (by omega) (by omega) ?_ | refine iF (by omega) ⟨by omega,by omega⟩ (by omega) ?_ | refine O7 (by omega) (by omega) ?_ | refine KN (by omega) ?_ | refine AW (fun _=> ?_) (fun _=> ?_) | refine J3 (fun _=> ?_) (fun _=> ?_) | refine fO (fun _=> ?_) (fun _=> ?_) | refine B4 ?_)
 ·rw [GI (by omega)] at h;exact h
 ·rw [HQ (by omega) (.inr (by assumption))] at h;exact h
 ·rename_i e1 e2
  rw [IH (by omega) (by omega) (by omega) (by simpa using e1) (by simpa using e2)] at h;exact h
 ·rename_i e1
  rw [HQ (by omega) (.inl (by simpa using e1))] at h;exact h
 ·rw [GI (by omega)] at h;exact h
theorem CL {a:List AV} {b c d:List T} {id:Int} {K:J2} (hid:F64 id) (hl:(a.length:Int)<2^62) (h:K [I (AB a id)] []):cl2 ⟨Try.prog,w0⟩ 24 BX.sg [I id] [tR tO a,b,c,d] K:=by
 obtain ⟨i1,i2⟩:=hid
 refine BX.cl2 ?_
 unfold BX.txt
 simp only [AH,AR,AN,AS,AJ,AD,AG,AP,AO,AK,AM,AL,AI,AQ,BD,BI,BH,BJ,BG,BF,BE,A5,AZ,A4,A6,A7,AY]
 repeat' (first | refine BK ?_ | refine PB (by with_reducible assumption) ?_ | refine Z1 (by with_reducible assumption) ?_ | refine kK (by with_reducible assumption) rfl ?_ | refine lB (by with_reducible assumption) rfl ?_ | refine C6 (by first | with_reducible assumption | omega) rfl ?_ | refine C2 (by first | with_reducible assumption | omega) rfl ?_ | refine B2 ?_ | refine A8 ?_ | refine CA ?_ | refine U1 (by omega) (by omega) ?_ | refine iF (by omega) ⟨by omega,by omega⟩ (by omega) ?_ | refine O7 (by omega) (by omega) ?_ | refine HA (by omega) (by decide) rfl ?_ | refine KR (by omega) rfl ?_ | refine AW (fun _=> ?_) (fun _=> ?_) | refine J3 (fun _=> ?_) (fun _=> ?_) | refine fO (fun _=> ?_) (fun _=> ?_) | refine B4 ?_)
 ·rw [GI (by omega)] at h;exact h
 ·rw [HQ (by omega) (.inr (by assumption))] at h;exact h
 ·rename_i e1 e2
  rw [IH (by omega) (by omega) (by omega) (by simpa using e1) (by simpa using e2)] at h;exact h
 ·rename_i e1
  rw [HQ (by omega) (.inl (by simpa using e1))] at h;exact h
 ·rw [GI (by omega)] at h;exact h
end Go.Proofs.Ytklmcfpgdfibnaa.P
namespace Go.Proofs.Ytklmcfpgdfibnaa.P
open Go Go.Proofs.Ytklmcfpgdfibnaa Go.Proofs.Ytklmcfpgdfibnaa.Eng
set_option maxHeartbeats 4000000
set_option linter.unusedVariables false
set_option linter.unusedSimpArgs false
attribute [local irreducible] prP gP gE gF AX ixW ldc ldg ldl stc stg scW mkW apW BN cl2 BV EN CJ
variable {w0:World}
end Go.Proofs.Ytklmcfpgdfibnaa.P
namespace Go.Proofs.Ytklmcfpgdfibnaa.P
open Go Go.Proofs.Ytklmcfpgdfibnaa Go.Proofs.Ytklmcfpgdfibnaa.Eng
set_option maxHeartbeats 4000000
set_option linter.unusedVariables false
set_option linter.unusedSimpArgs false
attribute [local irreducible] prP gP gE gF AX ixW ldc ldg ldl stc stg scW mkW apW BN cl2 BV EN CJ
variable {w0:World}
end Go.Proofs.Ytklmcfpgdfibnaa.P
namespace Go.Proofs.Ytklmcfpgdfibnaa.P
open Go Go.Proofs.Ytklmcfpgdfibnaa Go.Proofs.Ytklmcfpgdfibnaa.Eng
set_option maxHeartbeats 4000000
set_option linter.unusedVariables false
set_option linter.unusedSimpArgs false
attribute [local irreducible] prP gP gE gF AX ixW ldc ldg ldl stc stg scW mkW apW BN cl2 BV EN CJ
variable {w0:World}
def dM (o:Nd):Int:=5+(o.field.length:Int)
theorem mP (o:Nd):0≤dM o:=by unfold dM;omega
end Go.Proofs.Ytklmcfpgdfibnaa.P
