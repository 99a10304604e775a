/- A part of the proof. -/
import Derived.Test.YtklmcfpgdfibnaaRiLawHp
import Derived.Test.YtklmcfpgdfibnaaRiLawTyWeak
namespace Go.Proofs.Ytklmcfpgdfibnaa.P
open Go Go.Proofs.Ytklmcfpgdfibnaa Go.Proofs.Ytklmcfpgdfibnaa.Eng
set_option maxHeartbeats 4000000
set_option linter.unusedVariables false
set_option linter.unusedSimpArgs false
attribute [local irreducible] prP gP gE gF AW ixW ldc ldg ldl stc stg scW mkW apW AZ cl2 BJ CH B2
variable {w0:World}
def pick {α:Type} (f:Nat→List α):Nat→List α
 | 0=>[]
 | n+1=>pick f n++f n
theorem JV {α:Type} {f:Nat→List α} (h: ∀i,(f i).length≤1): ∀n,(pick f n).length≤n
 | 0=>Nat.le_refl _
 | n+1=>by have:=JV h n;have:=h n;simp only [pick,List.length_append];omega
theorem aF {α:Type} {f:Nat→List α} {n:Nat} {l:List α} (h:f n=l):pick f n++l=pick f (n+1):=by rw [pick,h]
theorem RP {α:Type} {f:Nat→List α} {n:Nat} (h:f n=[]):pick f n=pick f (n+1):=by rw [pick,h,List.append_nil]
def B6 (s g:Int):Int:=if (0≤s∧s≤7)∧1≤g∧g≤999 then s+8*g else -1
def AA (l:List AE) (id:Int):Int:=if id<8∨l.length≠8 then -1 else if (ob l (id % 8).toNat).live=true∧(ob l (id % 8).toNat).gen=id/8 then id % 8 else -1
theorem FG {n lo hi:Int} {K:J2} (h:K [.bool (decide (lo≤n∧n≤hi))] []):cl2 ⟨Try.prog,w0⟩ 131 CW.sg [I n,I lo,I hi] [] K:=by
 refine CW.cl2 ?_
 unfold CW.txt
 repeat' (first | refine B9 ?_ | refine HR (by first | with_reducible assumption | omega) rfl ?_ | refine F8 (by first | with_reducible assumption | omega) rfl ?_ | refine IU ?_ | refine QW (fun _=> ?_) (fun _=> ?_))
 ·have e:decide (lo≤n∧n≤hi)=decide (n≤hi):=by rw [decide_eq_decide];omega
  rw [e] at h;exact h
 ·have e:decide (lo≤n∧n≤hi)=false:=decide_eq_false (by omega)
  rw [e] at h;exact h
theorem FO {s g:Int} {K:J2} (h:K [I (B6 s g)] []):cl2 ⟨Try.prog,w0⟩ 98 CJ.sg [I s,I g] [] K:=by
 refine CJ.cl2 ?_
 unfold CJ.txt
 repeat' (first | refine FG ?_ | refine Y7 ⟨by omega,by omega⟩ ?_ | refine B9 ?_ | refine J6 (by first | with_reducible assumption | omega) ?_ | refine D9 (by first | with_reducible assumption | omega) ?_ | refine HR (by first | with_reducible assumption | omega) rfl ?_ | refine F8 (by first | with_reducible assumption | omega) rfl ?_ | refine CV ?_ | refine HZ ?_ | refine FZ ⟨by omega,by omega⟩ ?_ | refine BB (fun _=> ?_) (fun _=> ?_) | refine S3 (fun _=> ?_) (fun _=> ?_))
 ·rw [B6,if_neg (by omega)] at h;exact h
 ·rw [B6,if_pos (by omega)] at h;exact h
 ·rw [B6,if_neg (by omega)] at h;exact h
theorem HJ {l:List AE} {id:Int} (h:id<8∨l.length≠8):AA l id= -1:=if_pos h
theorem HF {l:List AE} {id:Int} (h1:8≤id) (h2:l.length=8) (hl:(id % 8).toNat<l.length) (h3:(ob l (id % 8).toNat).live=true) (h4:(ob l (id % 8).toNat).gen=id/8):AA l id=id % 8:=by
 rw [AA,if_neg (by omega),if_pos ⟨h3,h4⟩]
theorem JG {l:List AE} {id:Int} (hl:(id % 8).toNat<l.length) (h:(ob l (id % 8).toNat).live=false∨(ob l (id % 8).toNat).gen≠id/8):AA l id= -1:=by
 rw [AA]
 split
 ·rfl
 ·rw [if_neg]
  rintro ⟨h1,h2⟩
  rcases h with h | h
  ·rw [h] at h1;cases h1
  ·exact h h2
theorem B5 {a:List AE} {b c d:List T} {id:Int} {K:J2} (hid:F64 id) (hl:(a.length:Int)<2^62) (h:K [I (AA a id)] []):cl2 ⟨Try.prog,w0⟩ 81 BD.sg [I id] [tR tO a,b,c,d] K:=by
 obtain ⟨i1,i2⟩:=hid
 refine BD.cl2 ?_
 unfold BD.txt
 simp only [AJ,AO,AS,AN,AQ,AG,AK,AI,AR,AT,AU,AM,AL,AP,BP,BU,BW,BT,BV,BS,BQ,AY,A6,A7,A4,A5,A8]
 repeat' (first | refine B9 ?_ | refine NX (by with_reducible assumption) ?_ | refine fQ (by with_reducible assumption) ?_ | refine kJ (by with_reducible assumption) rfl ?_ | refine nI (by with_reducible assumption) rfl ?_ | refine HR (by first | with_reducible assumption | omega) rfl ?_ | refine F8 (by first | with_reducible assumption | omega) rfl ?_ | refine CV ?_ | refine BE ?_ | refine DN ?_ | refine O7 (by omega) (by omega) ?_ | refine qU (by omega) ⟨by omega,by omega⟩ (by omega) ?_ | refine gK (by omega) (by omega) ?_ | refine OT (by omega) ?_ | refine BB (fun _=> ?_) (fun _=> ?_) | refine S3 (fun _=> ?_) (fun _=> ?_) | refine o9 (fun _=> ?_) (fun _=> ?_) | refine DR ?_)
 ·rw [HJ (by omega)] at h;exact h
 ·rw [JG (by omega) (.inr (by assumption))] at h;exact h
 ·rename_i e1 e2
  rw [HF (by omega) (by omega) (by omega) (by simpa using e1) (by simpa using e2)] at h;exact h
 ·rename_i e1
  rw [JG (by omega) (.inl (by simpa using e1))] at h;exact h
 ·rw [HJ (by omega)] at h;exact h
def QX (l:List AE) (i:Nat):List Int:=if (i:Int)<8∧(ob l i).live=true∧w64 ((ob l i).holds+(ob l i).roots)>0 then [B6 i (ob l i).gen] else []
def exts (l:List AE):List Int:=pick (QX l) l.length
theorem aV (l:List AE) (i:Nat):(QX l i).length≤1:=by unfold QX;split <;> simp
theorem RR {a:List AE} {b c d:List T} {K:J2} (hl:(a.length:Int)≤1048576) (h:K [] [tI (exts a)]):cl2 ⟨Try.prog,w0⟩ 35 DV.sg [] [tR tO a,b,c,d] K:=by
 refine DV.cl2 ?_
 unfold DV.txt
 refine BL (fun i=>[iv a.length,iv i]) (fun i=>[tI (pick (QX a) i)]) a.length (fun _=>True) (by rw [AJ];rfl) rfl trivial (fun R i hi hP hR=> ?_)
 have hp:=JV (aV a) i
 simp only [AJ,AO,AS,AN,AQ,AG,AK,AI,AR,AT,AU,AM,AL,AP,BP,BU,BW,BT,BV,BS,BQ,AY,A6,A7,A4,A5,A8]
 refine BE (BB (fun hlt=> ?_) fun hge=> ?_)
 ·have hlt:i<a.length:=by omega
  replace hR:=hR hlt trivial
  refine DB ?_
  repeat' (first | refine FO ?_ | refine B9 ?_ | refine VZ ?_ | refine NX (by with_reducible assumption) ?_ | refine iX (by with_reducible assumption) ?_ | refine kJ (by with_reducible assumption) rfl ?_ | refine nI (by with_reducible assumption) rfl ?_ | refine X8 rfl ?_ | refine C7 ?_ | refine BE ?_ | refine A9 (by omega) ?_ | refine KM ?_ | refine BF (by omega) ?_ | refine OT (by omega) ?_ | refine GH (by first | exact TT _ | exact X1 _ | exact ZG _ | exact fZ _ | rfl) (by omega) ?_ | refine BB (fun _=> ?_) (fun _=> ?_) | refine xO rfl rfl (fun _=> ?_) (fun _=> ?_) | refine gH (fun _=> ?_) (fun _=> ?_) | simp only [AJ,AO,AS,AN,AQ,AG,AK,AI,AR,AT,AU,AM,AL,AP,BP,BU,BW,BT,BV,BS,BQ,AY,A6,A7,A4,A5,A8])
  all_goals first
   | (rw [F4,aF (f:=QX a) (by simp [QX, *])];exact hR)
   | (rw [RP (f:=QX a) (by simp [QX, *])];exact hR)
 ·have:i=a.length:=by omega
  subst this;exact h
end Go.Proofs.Ytklmcfpgdfibnaa.P
namespace Go.Proofs.Ytklmcfpgdfibnaa.P
open Go Go.Proofs.Ytklmcfpgdfibnaa Go.Proofs.Ytklmcfpgdfibnaa.Eng
set_option maxHeartbeats 4000000
set_option linter.unusedVariables false
set_option linter.unusedSimpArgs false
attribute [local irreducible] prP gP gE gF AW ixW ldc ldg ldl stc stg scW mkW apW AZ cl2 BJ CH B2
variable {w0:World}
end Go.Proofs.Ytklmcfpgdfibnaa.P
namespace Go.Proofs.Ytklmcfpgdfibnaa.P
open Go Go.Proofs.Ytklmcfpgdfibnaa Go.Proofs.Ytklmcfpgdfibnaa.Eng
set_option maxHeartbeats 4000000
set_option linter.unusedVariables false
set_option linter.unusedSimpArgs false
attribute [local irreducible] prP gP gE gF AW ixW ldc ldg ldl stc stg scW mkW apW AZ cl2 BJ CH B2
variable {w0:World}
end Go.Proofs.Ytklmcfpgdfibnaa.P
namespace Go.Proofs.Ytklmcfpgdfibnaa.P
open Go Go.Proofs.Ytklmcfpgdfibnaa Go.Proofs.Ytklmcfpgdfibnaa.Eng
set_option maxHeartbeats 4000000
set_option linter.unusedVariables false
set_option linter.unusedSimpArgs false
attribute [local irreducible] prP gP gE gF AW ixW ldc ldg ldl stc stg scW mkW apW AZ cl2 BJ CH B2
variable {w0:World}
def eC (o:Nd):Int:=5+(o.field.length:Int)
theorem mL (o:Nd):0≤eC o:=by unfold eC;omega
end Go.Proofs.Ytklmcfpgdfibnaa.P
