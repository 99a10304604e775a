/- A part of the proof. -/
import Derived.Test.YthapfcoajahegaaDoorReLawHp
import Derived.Test.YthapfcoajahegaaDoorReLawTyWeak
namespace Go.Proofs.YthapfcoajahegaaDoor.P
open Go Go.Proofs.YthapfcoajahegaaDoor Go.Proofs.YthapfcoajahegaaDoor.Eng
set_option maxHeartbeats 4000000
set_option linter.unusedVariables false
set_option linter.unusedSimpArgs false
attribute [local irreducible] prP gP gE gF AY ixW ldc ldg ldl stc stg scW mkW apW A6 cl2 BL C5 BX
variable {w0:World}
def pick {α:Type} (f:Nat→List α):Nat→List α
 | 0=>[]
 | n+1=>pick f n++f n
theorem UI {α:Type} {f:Nat→List α} (h: ∀i,(f i).length≤1): ∀n,(pick f n).length≤n
 | 0=>Nat.le_refl _
 | n+1=>by have:=UI h n;have:=h n;simp only [pick,List.length_append];omega
def CV (s g:Int):Int:=if (0≤s∧s≤7)∧1≤g∧g≤999 then s+8*g else -1
def AA (l:List AD) (id:Int):Int:=if id<8∨l.length≠8 then -1 else if (ob l (id % 8).toNat).live=true∧(ob l (id % 8).toNat).gen=id/8 then id % 8 else -1
theorem JZ {n lo hi:Int} {K:J2} (h:K [.bool (decide (lo≤n∧n≤hi))] []):cl2 ⟨Tryd.prog,w0⟩ 11 GL.sg [I n,I lo,I hi] [] K:=by
 refine GL.cl2 ?_
 unfold GL.txt
 repeat' (first | refine IQ ?_ | refine KN ?_ | refine JK ?_ | refine H0 ?_ | refine H4 ?_ | refine HZ ?_ | refine FZ ?_ | refine FV ?_ | refine FO ?_ | refine FN ?_ | refine HK (by first | with_reducible assumption | omega) ?_ | refine HI (by first | with_reducible assumption | omega) ?_ | refine FD (by first | with_reducible assumption | omega) ?_ | refine FC (by first | with_reducible assumption | omega) ?_ | refine HC (by with_reducible assumption) ?_ | refine HB (by with_reducible assumption) ?_ | refine EW (by with_reducible assumption) ?_ | refine FF (by with_reducible assumption) ?_ | refine HV ?_ | refine H3 ?_ | refine HW ?_ | refine HG ?_ | refine HA (by first | with_reducible assumption | omega) ?_ | refine HN (by first | with_reducible assumption | omega) ?_ | refine HY (by first | with_reducible assumption | omega) ?_ | refine GV (by first | with_reducible assumption | omega) ?_ | refine GD (by with_reducible assumption) ?_ | refine DO (by with_reducible assumption) ?_ | refine DM (by with_reducible assumption) ?_ | refine J8 (by with_reducible assumption) rfl ?_ | refine KI (by with_reducible assumption) rfl ?_ | refine JT (by first | with_reducible assumption | omega) rfl ?_ | refine JJ (by first | with_reducible assumption | omega) rfl ?_ | refine KO rfl ?_ | refine KH rfl ?_ | refine EC ?_ | refine DI ?_ | refine BW (by first | with_reducible assumption | omega) ?_ | refine CW (by first | with_reducible assumption | omega) ?_ | refine DG (by with_reducible assumption) ?_ | refine B5 (by with_reducible assumption) ?_ | refine A4 ?_ | refine CZ ?_ | refine CX ?_ | refine C0 ?_ | refine B8 ?_ | refine CB ?_ | refine BU ?_ | refine BY ?_ | refine DH ?_ | refine AZ (by omega) ?_ | refine CC ⟨by omega,by omega⟩ ?_ | refine C8 ⟨by omega,by omega⟩ ?_ | refine BV ?_ | refine B6 ?_ | refine C2 (by omega) (by omega) ?_ | refine DP (by omega) ⟨by omega,by omega⟩ (by omega) ?_ | refine B7 ?_ | refine CE ?_ | refine CD (by first | omega | (simp only [ByteArray.size_append];omega)) ?_ | refine DN ?_ | refine DR ?_ | refine A5 (by omega) ?_ | refine H2 (by omega) (by omega) ?_ | refine ldI (by omega) ?_ | refine ldS (by omega) ?_ | refine EG (by omega) ?_ | refine EY (by omega) ?_ | refine FB (by omega) ?_ | refine FL (by omega) ?_ | refine FT (by omega) ?_ | refine EP (by omega) (by decide) rfl ?_ | refine C9 (by omega) rfl ?_ | refine F4 (by omega) (by decide) rfl ?_ | refine C4 (by omega) rfl ?_ | refine FY (by omega) (by decide) rfl ?_ | refine DL (by omega) rfl ?_ | refine FP (by omega) (by decide) rfl ?_ | refine DD (by omega) rfl ?_ | refine FU (by omega) (by decide) rfl ?_ | refine DK (by omega) rfl ?_ | refine EE (by omega) (by omega) ?_ | refine FW (by omega) ?_ | refine F5 (by omega) (by omega) ?_ | refine FR (by omega) ?_ | refine FJ (by omega) (by omega) ?_ | refine FK (by omega) ?_ | refine EB (by omega) rfl rfl ?_ | refine EF (by omega) ?_ | refine ER (by omega) ?_ | refine DV (by omega) (by decide) rfl ?_ | refine CI (by omega) rfl ?_ | refine D5 (by first | exact DB _ | exact DC _ | exact DA _ | exact DQ _ | rfl) (by omega) ?_ | refine G4 (by omega) ?_ | refine A8 (fun _=> ?_) (fun _=> ?_) | refine HU rfl rfl (fun _=> ?_) (fun _=> ?_) | refine HT rfl rfl (fun _=> ?_) (fun _=> ?_) | refine FM (fun _=> ?_) (fun _=> ?_) | refine FI (fun _=> ?_) (fun _=> ?_) | refine G5 (fun _=> ?_) (fun _=> ?_) | refine HS (fun _=> ?_) (fun _=> ?_) | refine ES (fun _=> ?_) (fun _=> ?_) | refine HF (fun _=> ?_) (fun _=> ?_) | refine HM (fun _=> ?_) (fun _=> ?_) | refine CJ ?_ | simp only [AM,AS,AW,AU,AO,AI,AJ,AQ,AK,AP,AN,AR,AL,AV,CF,CQ,CO,CT,CL,CN,CP,BD,BE,BG,BH,BJ,BF])
 ·have e:decide (lo≤n∧n≤hi)=decide (n≤hi):=by rw [decide_eq_decide];omega
  rw [e] at h;exact h
 ·have e:decide (lo≤n∧n≤hi)=false:=decide_eq_false (by omega)
  rw [e] at h;exact h
theorem MW {s g:Int} {K:J2} (h:K [I (CV s g)] []):cl2 ⟨Tryd.prog,w0⟩ 24 GX.sg [I s,I g] [] K:=by
 refine GX.cl2 ?_
 unfold GX.txt
 repeat' (first | refine JZ ?_ | refine Y2 ⟨by omega,by omega⟩ ?_ | refine IQ ?_ | refine KN ?_ | refine JK ?_ | refine H0 ?_ | refine H4 ?_ | refine HZ ?_ | refine FZ ?_ | refine FV ?_ | refine FO ?_ | refine FN ?_ | refine HK (by first | with_reducible assumption | omega) ?_ | refine HI (by first | with_reducible assumption | omega) ?_ | refine FD (by first | with_reducible assumption | omega) ?_ | refine FC (by first | with_reducible assumption | omega) ?_ | refine HC (by with_reducible assumption) ?_ | refine HB (by with_reducible assumption) ?_ | refine EW (by with_reducible assumption) ?_ | refine FF (by with_reducible assumption) ?_ | refine HV ?_ | refine H3 ?_ | refine HW ?_ | refine HG ?_ | refine HA (by first | with_reducible assumption | omega) ?_ | refine HN (by first | with_reducible assumption | omega) ?_ | refine HY (by first | with_reducible assumption | omega) ?_ | refine GV (by first | with_reducible assumption | omega) ?_ | refine GD (by with_reducible assumption) ?_ | refine DO (by with_reducible assumption) ?_ | refine DM (by with_reducible assumption) ?_ | refine J8 (by with_reducible assumption) rfl ?_ | refine KI (by with_reducible assumption) rfl ?_ | refine JT (by first | with_reducible assumption | omega) rfl ?_ | refine JJ (by first | with_reducible assumption | omega) rfl ?_ | refine KO rfl ?_ | refine KH rfl ?_ | refine EC ?_ | refine DI ?_ | refine BW (by first | with_reducible assumption | omega) ?_ | refine CW (by first | with_reducible assumption | omega) ?_ | refine DG (by with_reducible assumption) ?_ | refine B5 (by with_reducible assumption) ?_ | refine A4 ?_ | refine CZ ?_ | refine CX ?_ | refine C0 ?_ | refine B8 ?_ | refine CB ?_ | refine BU ?_ | refine BY ?_ | refine DH ?_ | refine AZ (by omega) ?_ | refine CC ⟨by omega,by omega⟩ ?_ | refine C8 ⟨by omega,by omega⟩ ?_ | refine BV ?_ | refine B6 ?_ | refine C2 (by omega) (by omega) ?_ | refine DP (by omega) ⟨by omega,by omega⟩ (by omega) ?_ | refine B7 ?_ | refine CE ?_ | refine CD (by first | omega | (simp only [ByteArray.size_append];omega)) ?_ | refine DN ?_ | refine DR ?_ | refine A5 (by omega) ?_ | refine H2 (by omega) (by omega) ?_ | refine ldI (by omega) ?_ | refine ldS (by omega) ?_ | refine EG (by omega) ?_ | refine EY (by omega) ?_ | refine FB (by omega) ?_ | refine FL (by omega) ?_ | refine FT (by omega) ?_ | refine EP (by omega) (by decide) rfl ?_ | refine C9 (by omega) rfl ?_ | refine F4 (by omega) (by decide) rfl ?_ | refine C4 (by omega) rfl ?_ | refine FY (by omega) (by decide) rfl ?_ | refine DL (by omega) rfl ?_ | refine FP (by omega) (by decide) rfl ?_ | refine DD (by omega) rfl ?_ | refine FU (by omega) (by decide) rfl ?_ | refine DK (by omega) rfl ?_ | refine EE (by omega) (by omega) ?_ | refine FW (by omega) ?_ | refine F5 (by omega) (by omega) ?_ | refine FR (by omega) ?_ | refine FJ (by omega) (by omega) ?_ | refine FK (by omega) ?_ | refine EB (by omega) rfl rfl ?_ | refine EF (by omega) ?_ | refine ER (by omega) ?_ | refine DV (by omega) (by decide) rfl ?_ | refine CI (by omega) rfl ?_ | refine D5 (by first | exact DB _ | exact DC _ | exact DA _ | exact DQ _ | rfl) (by omega) ?_ | refine G4 (by omega) ?_ | refine A8 (fun _=> ?_) (fun _=> ?_) | refine HU rfl rfl (fun _=> ?_) (fun _=> ?_) | refine HT rfl rfl (fun _=> ?_) (fun _=> ?_) | refine FM (fun _=> ?_) (fun _=> ?_) | refine FI (fun _=> ?_) (fun _=> ?_) | refine G5 (fun _=> ?_) (fun _=> ?_) | refine HS (fun _=> ?_) (fun _=> ?_) | refine ES (fun _=> ?_) (fun _=> ?_) | refine HF (fun _=> ?_) (fun _=> ?_) | refine HM (fun _=> ?_) (fun _=> ?_) | refine CJ ?_ | simp only [AM,AS,AW,AU,AO,AI,AJ,AQ,AK,AP,AN,AR,AL,AV,CF,CQ,CO,CT,CL,CN,CP,BD,BE,BG,BH,BJ,BF])
 ·rw [CV,if_neg (by omega)] at h;exact h
 ·rw [CV,if_pos (by omega)] at h;exact h
 ·rw [CV,if_neg (by omega)] at h;exact h
theorem J0 {l:List AD} {id:Int} (h:id<8∨l.length≠8):AA l id= -1:=if_pos h
theorem I1 {l:List AD} {id:Int} (h1:8≤id) (h2:l.length=8) (hl:(id % 8).toNat<l.length) (h3:(ob l (id % 8).toNat).live=true) (h4:(ob l (id % 8).toNat).gen=id/8):AA l id=id % 8:=by
 rw [AA,if_neg (by omega),if_pos ⟨h3,h4⟩]
theorem K2 {l:List AD} {id:Int} (hl:(id % 8).toNat<l.length) (h:(ob l (id % 8).toNat).live=false∨(ob l (id % 8).toNat).gen≠id/8):AA l id= -1:=by
 rw [AA]
 split
 ·rfl
 ·rw [if_neg]
  rintro ⟨h1,h2⟩
  rcases h with h | h
  ·rw [h] at h1;cases h1
  ·exact h h2
theorem C6 {a:List AD} {b c d:List T} {id:Int} {K:J2} (hid:F64 id) (hl:(a.length:Int)<2^62) (h:K [I (AA a id)] []):cl2 ⟨Tryd.prog,w0⟩ 25 BM.sg [I id] [tR tO a,b,c,d] K:=by
 obtain ⟨i1,i2⟩:=hid
 refine BM.cl2 ?_
 unfold BM.txt
 simp only [AM,AS,AW,AU,AO,AI,AJ,AQ,AK,AP,AN,AR,AL,AV,CF,CQ,CO,CT,CL,CN,CP,BD,BE,BG,BH,BJ,BF]
 repeat' (first | refine IQ ?_ | refine KN ?_ | refine JK ?_ | refine H0 ?_ | refine H4 ?_ | refine HZ ?_ | refine FZ ?_ | refine FV ?_ | refine FO ?_ | refine FN ?_ | refine HK (by first | with_reducible assumption | omega) ?_ | refine HI (by first | with_reducible assumption | omega) ?_ | refine FD (by first | with_reducible assumption | omega) ?_ | refine FC (by first | with_reducible assumption | omega) ?_ | refine HC (by with_reducible assumption) ?_ | refine HB (by with_reducible assumption) ?_ | refine EW (by with_reducible assumption) ?_ | refine FF (by with_reducible assumption) ?_ | refine HV ?_ | refine H3 ?_ | refine HW ?_ | refine HG ?_ | refine HA (by first | with_reducible assumption | omega) ?_ | refine HN (by first | with_reducible assumption | omega) ?_ | refine HY (by first | with_reducible assumption | omega) ?_ | refine GV (by first | with_reducible assumption | omega) ?_ | refine GD (by with_reducible assumption) ?_ | refine DO (by with_reducible assumption) ?_ | refine DM (by with_reducible assumption) ?_ | refine J8 (by with_reducible assumption) rfl ?_ | refine KI (by with_reducible assumption) rfl ?_ | refine JT (by first | with_reducible assumption | omega) rfl ?_ | refine JJ (by first | with_reducible assumption | omega) rfl ?_ | refine KO rfl ?_ | refine KH rfl ?_ | refine EC ?_ | refine DI ?_ | refine BW (by first | with_reducible assumption | omega) ?_ | refine CW (by first | with_reducible assumption | omega) ?_ | refine DG (by with_reducible assumption) ?_ | refine B5 (by with_reducible assumption) ?_ | refine A4 ?_ | refine CZ ?_ | refine CX ?_ | refine C0 ?_ | refine B8 ?_ | refine CB ?_ | refine BU ?_ | refine BY ?_ | refine DH ?_ | refine AZ (by omega) ?_ | refine CC ⟨by omega,by omega⟩ ?_ | refine C8 ⟨by omega,by omega⟩ ?_ | refine BV ?_ | refine B6 ?_ | refine C2 (by omega) (by omega) ?_ | refine DP (by omega) ⟨by omega,by omega⟩ (by omega) ?_ | refine B7 ?_ | refine CE ?_ | refine CD (by first | omega | (simp only [ByteArray.size_append];omega)) ?_ | refine DN ?_ | refine DR ?_ | refine A5 (by omega) ?_ | refine H2 (by omega) (by omega) ?_ | refine ldI (by omega) ?_ | refine ldS (by omega) ?_ | refine EG (by omega) ?_ | refine EY (by omega) ?_ | refine FB (by omega) ?_ | refine FL (by omega) ?_ | refine FT (by omega) ?_ | refine EP (by omega) (by decide) rfl ?_ | refine C9 (by omega) rfl ?_ | refine F4 (by omega) (by decide) rfl ?_ | refine C4 (by omega) rfl ?_ | refine FY (by omega) (by decide) rfl ?_ | refine DL (by omega) rfl ?_ | refine FP (by omega) (by decide) rfl ?_ | refine DD (by omega) rfl ?_ | refine FU (by omega) (by decide) rfl ?_ | refine DK (by omega) rfl ?_ | refine EE (by omega) (by omega) ?_ | refine FW (by omega) ?_ | refine F5 (by omega) (by omega) ?_ | refine FR (by omega) ?_ | refine FJ (by omega) (by omega) ?_ | refine FK (by omega) ?_ | refine EB (by omega) rfl rfl ?_ | refine EF (by omega) ?_ | refine ER (by omega) ?_ | refine DV (by omega) (by decide) rfl ?_ | refine CI (by omega) rfl ?_ | refine D5 (by first | exact DB _ | exact DC _ | exact DA _ | exact DQ _ | rfl) (by omega) ?_ | refine G4 (by omega) ?_ | refine A8 (fun _=> ?_) (fun _=> ?_) | refine HU rfl rfl (fun _=> ?_) (fun _=> ?_) | refine HT rfl rfl (fun _=> ?_) (fun _=> ?_) | refine FM (fun _=> ?_) (fun _=> ?_) | refine FI (fun _=> ?_) (fun _=> ?_) | refine G5 (fun _=> ?_) (fun _=> ?_) | refine HS (fun _=> ?_) (fun _=> ?_) | refine ES (fun _=> ?_) (fun _=> ?_) | refine HF (fun _=> ?_) (fun _=> ?_) | refine HM (fun _=> ?_) (fun _=> ?_) | refine CJ ?_ | simp only [AM,AS,AW,AU,AO,AI,AJ,AQ,AK,AP,AN,AR,AL,AV,CF,CQ,CO,CT,CL,CN,CP,BD,BE,BG,BH,BJ,BF])
 ·rw [J0 (by omega)] at h;exact h
 ·rw [K2 (by omega) (.inr (by assumption))] at h;exact h
 ·rename_i e1 e2
  rw [I1 (by omega) (by omega) (by omega) (by simpa using e1) (by simpa using e2)] at h;exact h
 ·rename_i e1
  rw [K2 (by omega) (.inl (by simpa using e1))] at h;exact h
 ·rw [J0 (by omega)] at h;exact h
def nA (l:List AD) (i:Nat):List Int:=if (i:Int)<8∧(ob l i).live=true∧w64 ((ob l i).holds+(ob l i).roots)>0 then [CV i (ob l i).gen] else []
def exts (l:List AD):List Int:=pick (nA l) l.length
end Go.Proofs.YthapfcoajahegaaDoor.P
namespace Go.Proofs.YthapfcoajahegaaDoor.P
open Go Go.Proofs.YthapfcoajahegaaDoor Go.Proofs.YthapfcoajahegaaDoor.Eng
set_option maxHeartbeats 4000000
set_option linter.unusedVariables false
set_option linter.unusedSimpArgs false
attribute [local irreducible] prP gP gE gF AY ixW ldc ldg ldl stc stg scW mkW apW A6 cl2 BL C5 BX
variable {w0:World}
end Go.Proofs.YthapfcoajahegaaDoor.P
namespace Go.Proofs.YthapfcoajahegaaDoor.P
open Go Go.Proofs.YthapfcoajahegaaDoor Go.Proofs.YthapfcoajahegaaDoor.Eng
set_option maxHeartbeats 4000000
set_option linter.unusedVariables false
set_option linter.unusedSimpArgs false
attribute [local irreducible] prP gP gE gF AY ixW ldc ldg ldl stc stg scW mkW apW A6 cl2 BL C5 BX
variable {w0:World}
end Go.Proofs.YthapfcoajahegaaDoor.P
namespace Go.Proofs.YthapfcoajahegaaDoor.P
open Go Go.Proofs.YthapfcoajahegaaDoor Go.Proofs.YthapfcoajahegaaDoor.Eng
set_option maxHeartbeats 4000000
set_option linter.unusedVariables false
set_option linter.unusedSimpArgs false
attribute [local irreducible] prP gP gE gF AY ixW ldc ldg ldl stc stg scW mkW apW A6 cl2 BL C5 BX
variable {w0:World}
def bV (o:Nd):Int:=5+(o.field.length:Int)
theorem lL (o:Nd):0≤bV o:=by unfold bV;omega
end Go.Proofs.YthapfcoajahegaaDoor.P
