/- A part of the proof. -/
import Derived.Test.YthapfcoajahegaaDoorReHpJ
namespace Go.Proofs.YthapfcoajahegaaDoor.P
open Go Go.Proofs.YthapfcoajahegaaDoor Go.Proofs.YthapfcoajahegaaDoor.Eng
set_option linter.unusedVariables false
set_option maxHeartbeats 4000000
set_option linter.unusedVariables false
set_option linter.unusedSimpArgs false
attribute [local irreducible] prP gP gE gF AY ixW ldc ldg ldl stc stg scW mkW apW A6 cl2 BL C5 BX
variable {w0:World}
def IT (os:List AD) (buf:List Int) (a b c:Int):List AD×List Int×An:=
 if AA os a<0∨(c≠ -1∧AA os c<0) then (os,buf,⟨1,0,[]⟩) else
 if ¬(0≤b∧b≤2) then (os,buf,⟨2,0,[]⟩) else
 if gI (ob os (AA os a).toNat).field b.toNat= -1 then
  ((GN os c).set (AA os a).toNat {ob (GN os c) (AA os a).toNat with field:=(ob os (AA os a).toNat).field.set b.toNat c},buf,⟨0,0,[]⟩)
 else OS (H8 ((GN os c).set (AA os a).toNat {ob (GN os c) (AA os a).toNat with field:=(ob os (AA os a).toNat).field.set b.toNat c}) buf [gI (ob os (AA os a).toNat).field b.toNat])
theorem D9 {l:List AD} {i k:Nat} {o:AD} (hk:k<l.length):ob (l.set k o) i=if i=k then o else ob l i:=by
 unfold ob
 by_cases h:i=k
 ·subst h
  rw [if_pos rfl,List.getD_eq_getElem?_getD,List.getElem?_set_self hk];rfl
 ·rw [if_neg h,List.getD_eq_getElem?_getD,List.getElem?_set_ne (Ne.symm h),List.getD_eq_getElem?_getD]
theorem PM {os:List AD} {id:Int} {i:Nat}:(ob (GN os id) i).live=(ob os i).live∧(ob (GN os id) i).gen=(ob os i).gen∧(ob (GN os id) i).site=(ob os i).site∧(ob (GN os id) i).holds=(ob os i).holds∧(ob (GN os id) i).roots=(ob os i).roots∧(ob (GN os id) i).field=(ob os i).field∧(ob (GN os id) i).purple=(ob os i).purple:=by
 unfold GN
 split
 ·exact ⟨rfl,rfl,rfl,rfl,rfl,rfl,rfl⟩
 ·have hk:=A7 (l:=os) (id:=id) (by omega)
  rw [D9 (by omega)]
  split
  ·rename_i h;subst h;exact ⟨rfl,rfl,rfl,rfl,rfl,rfl,rfl⟩
  ·exact ⟨rfl,rfl,rfl,rfl,rfl,rfl,rfl⟩
theorem stF {os:List AD} {k j:Nat} {v:Int} {K:List T→Prop} (hk:k<os.length) (hj:j<(ob os k).field.length) (h:K (tR tO (os.set k {ob os k with field:=(ob os k).field.set j v}))):stc (tR tO os) [AB (iv k)*8+6] (AB (iv j)*1) (I v) K:=by
 rw [←FH hk] at h hj;exact gR hk hj h
theorem OF.put {o:AD} {m:List Int} (h:OF o) (hl:m.length=3) (hf: ∀x∈m,F64 x):OF {o with field:=m}:=⟨h.gen,hl,hf⟩
theorem X6 {os:List AD} {buf:List Int} {b d:List T} {a0 a1 a2 a3:Int} {s:ByteArray} {K:J2} (hol:os.length=8) (hof: ∀o∈os,OF o) (hb:buf.length≤100) (h1:F64 a1) (h3:F64 a3) (h:K [I (IT os buf a1 a2 a3).2.2.code,I (IT os buf a1 a2 a3).2.2.val] [tI (IT os buf a1 a2 a3).2.2.freed,tR tO (IT os buf a1 a2 a3).1,tI (IT os buf a1 a2 a3).2.1]):cl2 ⟨Tryd.prog,w0⟩ 16 EJ.sg [I a0,I a1,I a2,I a3, .string s] [tR tO os,b,tI buf,d] K:=by
 refine EJ.cl2 ?_
 unfold EJ.txt
 unfold IT at h
 refine C6 h1 (by omega) ?_
 by_cases hs:AA os a1<0
 ·rw [if_pos (.inl hs)] at h
  repeat' (first | refine C6 h3 (by omega) ?_ | exact BT h | refine IQ ?_ | refine KN ?_ | refine JK ?_ | refine H0 ?_ | refine H4 ?_ | refine HZ ?_ | refine FZ ?_ | refine FV ?_ | refine FO ?_ | refine FN ?_ | refine HK (by first | with_reducible assumption | omega) ?_ | refine HI (by first | with_reducible assumption | omega) ?_ | refine FD (by first | with_reducible assumption | omega) ?_ | refine FC (by first | with_reducible assumption | omega) ?_ | refine HC (by with_reducible assumption) ?_ | refine HB (by with_reducible assumption) ?_ | refine EW (by with_reducible assumption) ?_ | refine FF (by with_reducible assumption) ?_ | refine HV ?_ | refine H3 ?_ | refine HW ?_ | refine HG ?_ | refine HA (by first | with_reducible assumption | omega) ?_ | refine HN (by first | with_reducible assumption | omega) ?_ | refine HY (by first | with_reducible assumption | omega) ?_ | refine GV (by first | with_reducible assumption | omega) ?_ | refine GD (by with_reducible assumption) ?_ | refine DO (by with_reducible assumption) ?_ | refine DM (by with_reducible assumption) ?_ | refine J8 (by with_reducible assumption) rfl ?_ | refine KI (by with_reducible assumption) rfl ?_ | refine JT (by first | with_reducible assumption | omega) rfl ?_ | refine JJ (by first | with_reducible assumption | omega) rfl ?_ | refine KO rfl ?_ | refine KH rfl ?_ | refine EC ?_ | refine DI ?_ | refine BW (by first | with_reducible assumption | omega) ?_ | refine CW (by first | with_reducible assumption | omega) ?_ | refine DG (by with_reducible assumption) ?_ | refine B5 (by with_reducible assumption) ?_ | refine A4 ?_ | refine CZ ?_ | refine CX ?_ | refine C0 ?_ | refine B8 ?_ | refine CB ?_ | refine BU ?_ | refine BY ?_ | refine DH ?_ | refine AZ (by omega) ?_ | refine CC ⟨by omega,by omega⟩ ?_ | refine C8 ⟨by omega,by omega⟩ ?_ | refine BV ?_ | refine B6 ?_ | refine C2 (by omega) (by omega) ?_ | refine DP (by omega) ⟨by omega,by omega⟩ (by omega) ?_ | refine B7 ?_ | refine CE ?_ | refine CD (by first | omega | (simp only [ByteArray.size_append];omega)) ?_ | refine DN ?_ | refine DR ?_ | refine A5 (by omega) ?_ | refine H2 (by omega) (by omega) ?_ | refine ldI (by omega) ?_ | refine ldS (by omega) ?_ | refine EG (by omega) ?_ | refine EY (by omega) ?_ | refine FB (by omega) ?_ | refine FL (by omega) ?_ | refine FT (by omega) ?_ | refine EP (by omega) (by decide) rfl ?_ | refine C9 (by omega) rfl ?_ | refine F4 (by omega) (by decide) rfl ?_ | refine C4 (by omega) rfl ?_ | refine FY (by omega) (by decide) rfl ?_ | refine DL (by omega) rfl ?_ | refine FP (by omega) (by decide) rfl ?_ | refine DD (by omega) rfl ?_ | refine FU (by omega) (by decide) rfl ?_ | refine DK (by omega) rfl ?_ | refine EE (by omega) (by omega) ?_ | refine FW (by omega) ?_ | refine F5 (by omega) (by omega) ?_ | refine FR (by omega) ?_ | refine FJ (by omega) (by omega) ?_ | refine FK (by omega) ?_ | refine EB (by omega) rfl rfl ?_ | refine EF (by omega) ?_ | refine ER (by omega) ?_ | refine DV (by omega) (by decide) rfl ?_ | refine CI (by omega) rfl ?_ | refine D5 (by first | exact DB _ | exact DC _ | exact DA _ | exact DQ _ | rfl) (by omega) ?_ | refine G4 (by omega) ?_ | refine A8 (fun _=> ?_) (fun _=> ?_) | refine HU rfl rfl (fun _=> ?_) (fun _=> ?_) | refine HT rfl rfl (fun _=> ?_) (fun _=> ?_) | refine FM (fun _=> ?_) (fun _=> ?_) | refine FI (fun _=> ?_) (fun _=> ?_) | refine G5 (fun _=> ?_) (fun _=> ?_) | refine HS (fun _=> ?_) (fun _=> ?_) | refine ES (fun _=> ?_) (fun _=> ?_) | refine HF (fun _=> ?_) (fun _=> ?_) | refine HM (fun _=> ?_) (fun _=> ?_) | refine CJ ?_ | simp only [AM,AS,AW,AU,AO,AI,AJ,AQ,AK,AP,AN,AR,AL,AV,CF,CQ,CO,CT,CL,CN,CP,BD,BE,BG,BH,BJ,BF])
 have hkb:=A7 (l:=os) (id:=a1) (by omega)
 by_cases hc:a3≠ -1∧AA os a3<0
 ·obtain ⟨hc1,hc2⟩:=hc
  rw [if_pos (.inr ⟨hc1,hc2⟩)] at h
  repeat' (first | refine C6 h3 (by omega) ?_ | exact BT h | refine IQ ?_ | refine KN ?_ | refine JK ?_ | refine H0 ?_ | refine H4 ?_ | refine HZ ?_ | refine FZ ?_ | refine FV ?_ | refine FO ?_ | refine FN ?_ | refine HK (by first | with_reducible assumption | omega) ?_ | refine HI (by first | with_reducible assumption | omega) ?_ | refine FD (by first | with_reducible assumption | omega) ?_ | refine FC (by first | with_reducible assumption | omega) ?_ | refine HC (by with_reducible assumption) ?_ | refine HB (by with_reducible assumption) ?_ | refine EW (by with_reducible assumption) ?_ | refine FF (by with_reducible assumption) ?_ | refine HV ?_ | refine H3 ?_ | refine HW ?_ | refine HG ?_ | refine HA (by first | with_reducible assumption | omega) ?_ | refine HN (by first | with_reducible assumption | omega) ?_ | refine HY (by first | with_reducible assumption | omega) ?_ | refine GV (by first | with_reducible assumption | omega) ?_ | refine GD (by with_reducible assumption) ?_ | refine DO (by with_reducible assumption) ?_ | refine DM (by with_reducible assumption) ?_ | refine J8 (by with_reducible assumption) rfl ?_ | refine KI (by with_reducible assumption) rfl ?_ | refine JT (by first | with_reducible assumption | omega) rfl ?_ | refine JJ (by first | with_reducible assumption | omega) rfl ?_ | refine KO rfl ?_ | refine KH rfl ?_ | refine EC ?_ | refine DI ?_ | refine BW (by first | with_reducible assumption | omega) ?_ | refine CW (by first | with_reducible assumption | omega) ?_ | refine DG (by with_reducible assumption) ?_ | refine B5 (by with_reducible assumption) ?_ | refine A4 ?_ | refine CZ ?_ | refine CX ?_ | refine C0 ?_ | refine B8 ?_ | refine CB ?_ | refine BU ?_ | refine BY ?_ | refine DH ?_ | refine AZ (by omega) ?_ | refine CC ⟨by omega,by omega⟩ ?_ | refine C8 ⟨by omega,by omega⟩ ?_ | refine BV ?_ | refine B6 ?_ | refine C2 (by omega) (by omega) ?_ | refine DP (by omega) ⟨by omega,by omega⟩ (by omega) ?_ | refine B7 ?_ | refine CE ?_ | refine CD (by first | omega | (simp only [ByteArray.size_append];omega)) ?_ | refine DN ?_ | refine DR ?_ | refine A5 (by omega) ?_ | refine H2 (by omega) (by omega) ?_ | refine ldI (by omega) ?_ | refine ldS (by omega) ?_ | refine EG (by omega) ?_ | refine EY (by omega) ?_ | refine FB (by omega) ?_ | refine FL (by omega) ?_ | refine FT (by omega) ?_ | refine EP (by omega) (by decide) rfl ?_ | refine C9 (by omega) rfl ?_ | refine F4 (by omega) (by decide) rfl ?_ | refine C4 (by omega) rfl ?_ | refine FY (by omega) (by decide) rfl ?_ | refine DL (by omega) rfl ?_ | refine FP (by omega) (by decide) rfl ?_ | refine DD (by omega) rfl ?_ | refine FU (by omega) (by decide) rfl ?_ | refine DK (by omega) rfl ?_ | refine EE (by omega) (by omega) ?_ | refine FW (by omega) ?_ | refine F5 (by omega) (by omega) ?_ | refine FR (by omega) ?_ | refine FJ (by omega) (by omega) ?_ | refine FK (by omega) ?_ | refine EB (by omega) rfl rfl ?_ | refine EF (by omega) ?_ | refine ER (by omega) ?_ | refine DV (by omega) (by decide) rfl ?_ | refine CI (by omega) rfl ?_ | refine D5 (by first | exact DB _ | exact DC _ | exact DA _ | exact DQ _ | rfl) (by omega) ?_ | refine G4 (by omega) ?_ | refine A8 (fun _=> ?_) (fun _=> ?_) | refine HU rfl rfl (fun _=> ?_) (fun _=> ?_) | refine HT rfl rfl (fun _=> ?_) (fun _=> ?_) | refine FM (fun _=> ?_) (fun _=> ?_) | refine FI (fun _=> ?_) (fun _=> ?_) | refine G5 (fun _=> ?_) (fun _=> ?_) | refine HS (fun _=> ?_) (fun _=> ?_) | refine ES (fun _=> ?_) (fun _=> ?_) | refine HF (fun _=> ?_) (fun _=> ?_) | refine HM (fun _=> ?_) (fun _=> ?_) | refine CJ ?_ | simp only [AM,AS,AW,AU,AO,AI,AJ,AQ,AK,AP,AN,AR,AL,AV,CF,CQ,CO,CT,CL,CN,CP,BD,BE,BG,BH,BJ,BF])
 rw [if_neg (by omega)] at h
 by_cases hb2: ¬(0≤a2∧a2≤2)
 ·rw [if_pos hb2] at h
  repeat' (first | refine C6 h3 (by omega) ?_ | refine JZ ?_ | exact BT h | refine IQ ?_ | refine KN ?_ | refine JK ?_ | refine H0 ?_ | refine H4 ?_ | refine HZ ?_ | refine FZ ?_ | refine FV ?_ | refine FO ?_ | refine FN ?_ | refine HK (by first | with_reducible assumption | omega) ?_ | refine HI (by first | with_reducible assumption | omega) ?_ | refine FD (by first | with_reducible assumption | omega) ?_ | refine FC (by first | with_reducible assumption | omega) ?_ | refine HC (by with_reducible assumption) ?_ | refine HB (by with_reducible assumption) ?_ | refine EW (by with_reducible assumption) ?_ | refine FF (by with_reducible assumption) ?_ | refine HV ?_ | refine H3 ?_ | refine HW ?_ | refine HG ?_ | refine HA (by first | with_reducible assumption | omega) ?_ | refine HN (by first | with_reducible assumption | omega) ?_ | refine HY (by first | with_reducible assumption | omega) ?_ | refine GV (by first | with_reducible assumption | omega) ?_ | refine GD (by with_reducible assumption) ?_ | refine DO (by with_reducible assumption) ?_ | refine DM (by with_reducible assumption) ?_ | refine J8 (by with_reducible assumption) rfl ?_ | refine KI (by with_reducible assumption) rfl ?_ | refine JT (by first | with_reducible assumption | omega) rfl ?_ | refine JJ (by first | with_reducible assumption | omega) rfl ?_ | refine KO rfl ?_ | refine KH rfl ?_ | refine EC ?_ | refine DI ?_ | refine BW (by first | with_reducible assumption | omega) ?_ | refine CW (by first | with_reducible assumption | omega) ?_ | refine DG (by with_reducible assumption) ?_ | refine B5 (by with_reducible assumption) ?_ | refine A4 ?_ | refine CZ ?_ | refine CX ?_ | refine C0 ?_ | refine B8 ?_ | refine CB ?_ | refine BU ?_ | refine BY ?_ | refine DH ?_ | refine AZ (by omega) ?_ | refine CC ⟨by omega,by omega⟩ ?_ | refine C8 ⟨by omega,by omega⟩ ?_ | refine BV ?_ | refine B6 ?_ | refine C2 (by omega) (by omega) ?_ | refine DP (by omega) ⟨by omega,by omega⟩ (by omega) ?_ | refine B7 ?_ | refine CE ?_ | refine CD (by first | omega | (simp only [ByteArray.size_append];omega)) ?_ | refine DN ?_ | refine DR ?_ | refine A5 (by omega) ?_ | refine H2 (by omega) (by omega) ?_ | refine ldI (by omega) ?_ | refine ldS (by omega) ?_ | refine EG (by omega) ?_ | refine EY (by omega) ?_ | refine FB (by omega) ?_ | refine FL (by omega) ?_ | refine FT (by omega) ?_ | refine EP (by omega) (by decide) rfl ?_ | refine C9 (by omega) rfl ?_ | refine F4 (by omega) (by decide) rfl ?_ | refine C4 (by omega) rfl ?_ | refine FY (by omega) (by decide) rfl ?_ | refine DL (by omega) rfl ?_ | refine FP (by omega) (by decide) rfl ?_ | refine DD (by omega) rfl ?_ | refine FU (by omega) (by decide) rfl ?_ | refine DK (by omega) rfl ?_ | refine EE (by omega) (by omega) ?_ | refine FW (by omega) ?_ | refine F5 (by omega) (by omega) ?_ | refine FR (by omega) ?_ | refine FJ (by omega) (by omega) ?_ | refine FK (by omega) ?_ | refine EB (by omega) rfl rfl ?_ | refine EF (by omega) ?_ | refine ER (by omega) ?_ | refine DV (by omega) (by decide) rfl ?_ | refine CI (by omega) rfl ?_ | refine D5 (by first | exact DB _ | exact DC _ | exact DA _ | exact DQ _ | rfl) (by omega) ?_ | refine G4 (by omega) ?_ | refine A8 (fun _=> ?_) (fun _=> ?_) | refine HU rfl rfl (fun _=> ?_) (fun _=> ?_) | refine HT rfl rfl (fun _=> ?_) (fun _=> ?_) | refine FM (fun _=> ?_) (fun _=> ?_) | refine FI (fun _=> ?_) (fun _=> ?_) | refine G5 (fun _=> ?_) (fun _=> ?_) | refine HS (fun _=> ?_) (fun _=> ?_) | refine ES (fun _=> ?_) (fun _=> ?_) | refine HF (fun _=> ?_) (fun _=> ?_) | refine HM (fun _=> ?_) (fun _=> ?_) | refine CJ ?_ | simp only [AM,AS,AW,AU,AO,AI,AJ,AQ,AK,AP,AN,AR,AL,AV,CF,CQ,CO,CT,CL,CN,CP,BD,BE,BG,BH,BJ,BF])
 rw [if_neg hb2] at h
 obtain ⟨k,hkk⟩: ∃k,(AA os a1).toNat=k:=⟨_,rfl⟩
 have hkI:AA os a1=(k:Int):=by omega
 rw [hkk] at h hkb
 obtain ⟨j,rfl⟩: ∃j:Nat,a2=j:=⟨a2.toNat,by omega⟩
 rw [Int.toNat_natCast] at h
 have hkl:k<os.length:=by omega
 have ho:=hof _ (LO (l:=os) (i:=k) (by omega))
 obtain ⟨_,_,_,_,_,gf,_⟩:=PM (os:=os) (id:=a3) (i:=k)
 have gl:=XE os a3
 have gof:=jP (id:=a3) hof
 have jl:j<(ob os k).field.length:=by rw [ho.len];omega
 rw [hkI]
 repeat' (first | refine C6 h3 (by omega) ?_ | refine JZ ?_ | refine O1 h3 hol ?_ | refine IQ ?_ | refine KN ?_ | refine JK ?_ | refine H0 ?_ | refine H4 ?_ | refine HZ ?_ | refine FZ ?_ | refine FV ?_ | refine FO ?_ | refine FN ?_ | refine HK (by first | with_reducible assumption | omega) ?_ | refine HI (by first | with_reducible assumption | omega) ?_ | refine FD (by first | with_reducible assumption | omega) ?_ | refine FC (by first | with_reducible assumption | omega) ?_ | refine HC (by with_reducible assumption) ?_ | refine HB (by with_reducible assumption) ?_ | refine EW (by with_reducible assumption) ?_ | refine FF (by with_reducible assumption) ?_ | refine HV ?_ | refine H3 ?_ | refine HW ?_ | refine HG ?_ | refine HA (by first | with_reducible assumption | omega) ?_ | refine HN (by first | with_reducible assumption | omega) ?_ | refine HY (by first | with_reducible assumption | omega) ?_ | refine GV (by first | with_reducible assumption | omega) ?_ | refine GD (by with_reducible assumption) ?_ | refine DO (by with_reducible assumption) ?_ | refine DM (by with_reducible assumption) ?_ | refine J8 (by with_reducible assumption) rfl ?_ | refine KI (by with_reducible assumption) rfl ?_ | refine JT (by first | with_reducible assumption | omega) rfl ?_ | refine JJ (by first | with_reducible assumption | omega) rfl ?_ | refine KO rfl ?_ | refine KH rfl ?_ | refine EC ?_ | refine DI ?_ | refine BW (by first | with_reducible assumption | omega) ?_ | refine CW (by first | with_reducible assumption | omega) ?_ | refine DG (by with_reducible assumption) ?_ | refine B5 (by with_reducible assumption) ?_ | refine A4 ?_ | refine CZ ?_ | refine CX ?_ | refine C0 ?_ | refine B8 ?_ | refine CB ?_ | refine BU ?_ | refine BY ?_ | refine DH ?_ | refine AZ (by omega) ?_ | refine CC ⟨by omega,by omega⟩ ?_ | refine C8 ⟨by omega,by omega⟩ ?_ | refine BV ?_ | refine B6 ?_ | refine C2 (by omega) (by omega) ?_ | refine DP (by omega) ⟨by omega,by omega⟩ (by omega) ?_ | refine B7 ?_ | refine CE ?_ | refine CD (by first | omega | (simp only [ByteArray.size_append];omega)) ?_ | refine DN ?_ | refine DR ?_ | refine A5 (by omega) ?_ | refine H2 (by omega) (by omega) ?_ | refine ldI (by omega) ?_ | refine ldS (by omega) ?_ | refine EG (by omega) ?_ | refine EY (by omega) ?_ | refine FB (by omega) ?_ | refine FL (by omega) ?_ | refine FT (by omega) ?_ | refine EP (by omega) (by decide) rfl ?_ | refine C9 (by omega) rfl ?_ | refine F4 (by omega) (by decide) rfl ?_ | refine C4 (by omega) rfl ?_ | refine FY (by omega) (by decide) rfl ?_ | refine DL (by omega) rfl ?_ | refine FP (by omega) (by decide) rfl ?_ | refine DD (by omega) rfl ?_ | refine FU (by omega) (by decide) rfl ?_ | refine DK (by omega) rfl ?_ | refine EE (by omega) (by omega) ?_ | refine FW (by omega) ?_ | refine F5 (by omega) (by omega) ?_ | refine FR (by omega) ?_ | refine FJ (by omega) (by omega) ?_ | refine FK (by omega) ?_ | refine EB (by omega) rfl rfl ?_ | refine EF (by omega) ?_ | refine ER (by omega) ?_ | refine DV (by omega) (by decide) rfl ?_ | refine CI (by omega) rfl ?_ | refine D5 (by first | exact DB _ | exact DC _ | exact DA _ | exact DQ _ | rfl) (by omega) ?_ | refine G4 (by omega) ?_ | refine A8 (fun _=> ?_) (fun _=> ?_) | refine HU rfl rfl (fun _=> ?_) (fun _=> ?_) | refine HT rfl rfl (fun _=> ?_) (fun _=> ?_) | refine FM (fun _=> ?_) (fun _=> ?_) | refine FI (fun _=> ?_) (fun _=> ?_) | refine G5 (fun _=> ?_) (fun _=> ?_) | refine HS (fun _=> ?_) (fun _=> ?_) | refine ES (fun _=> ?_) (fun _=> ?_) | refine HF (fun _=> ?_) (fun _=> ?_) | refine HM (fun _=> ?_) (fun _=> ?_) | refine CJ ?_ | simp only [AM,AS,AW,AU,AO,AI,AJ,AQ,AK,AP,AN,AR,AL,AV,CF,CQ,CO,CT,CL,CN,CP,BD,BE,BG,BH,BJ,BF])
 all_goals
  refine A5 (by rw [Q9 (by omega),AI,gf];exact jl) (EE (by omega) (by rw [gf];exact jl) (A5 (by omega) ?_))
  rw [gf]
  refine SQ (f:=tO) (i:=k) (by omega) (by decide) rfl ?_
  refine A5 (by rw [Q9 (by omega),AI,gf];exact jl) (stF (by omega) (by rw [gf];exact jl) ?_)
  rw [gf]
  refine B8 (A8 (fun he=> ?_) fun he=> ?_)
  ·rw [if_pos he] at h;exact h
  ·rw [if_neg he] at h
   exact PC (buf:=buf) (ids:=[gI (ob os k).field j]) (by simpa using gl.trans hol) (Q6 gof (OF.put (gof _ (LO (by omega))) (by rw [List.length_set];exact ho.len) fun x hx=>(List.mem_or_eq_of_mem_set hx).elim (ho.fld x) fun he=>he ▸ h3)) (by omega) (by simp) (by simpa using ho.fld _ (JH jl)) h
def PD (os:List AD) (ws:List Wk) (id:Int):List Wk×An:=
 if AA os id<0 then (ws,⟨1,0,[]⟩) else if KC ws<0 then (ws,⟨3,0,[]⟩) else (ws.set (KC ws).toNat ⟨true,id⟩,⟨0,KC ws,[]⟩)
def JA (os:List AD) (ws:List Wk) (kind k:Int):List Wk×An:=
 if ¬(0≤k∧k≤(ws.length:Int)-1) then (ws,⟨2,0,[]⟩) else
 if (wk ws k.toNat).used=false then (ws,⟨2,0,[]⟩) else
 if kind=9 then (ws.set k.toNat ⟨false,0⟩,⟨0,0,[]⟩) else
 if AA os (wk ws k.toNat).target<0 then (ws,⟨0, -1,[]⟩) else (ws,⟨0,(wk ws k.toNat).target,[]⟩)
theorem XB {ws:List Wk} (h: ¬KC ws<0):(KC ws).toNat<ws.length∧KC ws=((KC ws).toNat:Int)∧(wk ws (KC ws).toNat).used=false:=by
 rcases RS ws.length (fun i=> !(wk ws i).used) with ⟨h1,_⟩ | ⟨i,h1,h2,h3,_⟩
 ·unfold KC at h;omega
 ·have e:KC ws=i:=h2
  have e2:(KC ws).toNat=i:=by omega
  rw [e2];exact ⟨h1,e,by simpa using h3⟩
theorem aL {os:List AD} {ws:List Wk} {c d:List T} {id:Int} {K:J2} (hol:os.length=8) (hwl:ws.length=8) (hid:F64 id) (h:K [I (PD os ws id).2.code,I (PD os ws id).2.val] [tI (PD os ws id).2.freed,tR tW (PD os ws id).1]):cl2 ⟨Tryd.prog,w0⟩ 17 FA.sg [I id] [tR tO os,tR tW ws,c,d] K:=by
 refine FA.cl2 ?_
 unfold FA.txt
 unfold PD at h
 simp only [AM,AS,AW,AU,AO,AI,AJ,AQ,AK,AP,AN,AR,AL,AV,CF,CQ,CO,CT,CL,CN,CP,BD,BE,BG,BH,BJ,BF]
 refine TI hwl (C6 hid (by omega) (A4 (A8 (fun hs=> ?_) fun hs=> ?_)))
 ·rw [if_pos hs] at h;exact BT h
 rw [if_neg hs] at h
 refine A4 (A8 (fun hf=> ?_) fun hf=> ?_)
 ·rw [if_pos hf] at h;exact BT h
 rw [if_neg hf] at h
 obtain ⟨f1,f2,f3⟩:=XB hf
 simp only [AM,AS,AW,AU,AO,AI,AJ,AQ,AK,AP,AN,AR,AL,AV,CF,CQ,CO,CT,CL,CN,CP,BD,BE,BG,BH,BJ,BF]
 rw [f2] at h ⊢
 rw [Int.toNat_natCast] at h
 exact A5 f1 (SP (f:=tW) f1 (y:=⟨true,id⟩) rfl h)
theorem WA {os:List AD} {ws:List Wk} {c d:List T} {kind k:Int} {K:J2} (hol:os.length=8) (hwl:ws.length=8) (hk:F64 k) (hwf: ∀w∈ws,F64 w.target) (h:K [I (JA os ws kind k).2.code,I (JA os ws kind k).2.val] [tI (JA os ws kind k).2.freed,tR tW (JA os ws kind k).1]):cl2 ⟨Tryd.prog,w0⟩ 18 D7.sg [I kind,I k] [tR tO os,tR tW ws,c,d] K:=by
 refine D7.cl2 ?_
 unfold D7.txt
 unfold JA at h
 simp only [AM,AS,AW,AU,AO,AI,AJ,AQ,AK,AP,AN,AR,AL,AV,CF,CQ,CO,CT,CL,CN,CP,BD,BE,BG,BH,BJ,BF]
 refine C8 ⟨by omega,by omega⟩ (JZ (BY ?_))
 by_cases hb: ¬(0≤k∧k≤(ws.length:Int)-1)
 ·rw [if_pos hb] at h
  repeat' (first | exact BT h | refine IQ ?_ | refine KN ?_ | refine JK ?_ | refine H0 ?_ | refine H4 ?_ | refine HZ ?_ | refine FZ ?_ | refine FV ?_ | refine FO ?_ | refine FN ?_ | refine HK (by first | with_reducible assumption | omega) ?_ | refine HI (by first | with_reducible assumption | omega) ?_ | refine FD (by first | with_reducible assumption | omega) ?_ | refine FC (by first | with_reducible assumption | omega) ?_ | refine HC (by with_reducible assumption) ?_ | refine HB (by with_reducible assumption) ?_ | refine EW (by with_reducible assumption) ?_ | refine FF (by with_reducible assumption) ?_ | refine HV ?_ | refine H3 ?_ | refine HW ?_ | refine HG ?_ | refine HA (by first | with_reducible assumption | omega) ?_ | refine HN (by first | with_reducible assumption | omega) ?_ | refine HY (by first | with_reducible assumption | omega) ?_ | refine GV (by first | with_reducible assumption | omega) ?_ | refine GD (by with_reducible assumption) ?_ | refine DO (by with_reducible assumption) ?_ | refine DM (by with_reducible assumption) ?_ | refine J8 (by with_reducible assumption) rfl ?_ | refine KI (by with_reducible assumption) rfl ?_ | refine JT (by first | with_reducible assumption | omega) rfl ?_ | refine JJ (by first | with_reducible assumption | omega) rfl ?_ | refine KO rfl ?_ | refine KH rfl ?_ | refine EC ?_ | refine DI ?_ | refine BW (by first | with_reducible assumption | omega) ?_ | refine CW (by first | with_reducible assumption | omega) ?_ | refine DG (by with_reducible assumption) ?_ | refine B5 (by with_reducible assumption) ?_ | refine A4 ?_ | refine CZ ?_ | refine CX ?_ | refine C0 ?_ | refine B8 ?_ | refine CB ?_ | refine BU ?_ | refine BY ?_ | refine DH ?_ | refine AZ (by omega) ?_ | refine CC ⟨by omega,by omega⟩ ?_ | refine C8 ⟨by omega,by omega⟩ ?_ | refine BV ?_ | refine B6 ?_ | refine C2 (by omega) (by omega) ?_ | refine DP (by omega) ⟨by omega,by omega⟩ (by omega) ?_ | refine B7 ?_ | refine CE ?_ | refine CD (by first | omega | (simp only [ByteArray.size_append];omega)) ?_ | refine DN ?_ | refine DR ?_ | refine A5 (by omega) ?_ | refine H2 (by omega) (by omega) ?_ | refine ldI (by omega) ?_ | refine ldS (by omega) ?_ | refine EG (by omega) ?_ | refine EY (by omega) ?_ | refine FB (by omega) ?_ | refine FL (by omega) ?_ | refine FT (by omega) ?_ | refine EP (by omega) (by decide) rfl ?_ | refine C9 (by omega) rfl ?_ | refine F4 (by omega) (by decide) rfl ?_ | refine C4 (by omega) rfl ?_ | refine FY (by omega) (by decide) rfl ?_ | refine DL (by omega) rfl ?_ | refine FP (by omega) (by decide) rfl ?_ | refine DD (by omega) rfl ?_ | refine FU (by omega) (by decide) rfl ?_ | refine DK (by omega) rfl ?_ | refine EE (by omega) (by omega) ?_ | refine FW (by omega) ?_ | refine F5 (by omega) (by omega) ?_ | refine FR (by omega) ?_ | refine FJ (by omega) (by omega) ?_ | refine FK (by omega) ?_ | refine EB (by omega) rfl rfl ?_ | refine EF (by omega) ?_ | refine ER (by omega) ?_ | refine DV (by omega) (by decide) rfl ?_ | refine CI (by omega) rfl ?_ | refine D5 (by first | exact DB _ | exact DC _ | exact DA _ | exact DQ _ | rfl) (by omega) ?_ | refine G4 (by omega) ?_ | refine A8 (fun _=> ?_) (fun _=> ?_) | refine HU rfl rfl (fun _=> ?_) (fun _=> ?_) | refine HT rfl rfl (fun _=> ?_) (fun _=> ?_) | refine FM (fun _=> ?_) (fun _=> ?_) | refine FI (fun _=> ?_) (fun _=> ?_) | refine G5 (fun _=> ?_) (fun _=> ?_) | refine HS (fun _=> ?_) (fun _=> ?_) | refine ES (fun _=> ?_) (fun _=> ?_) | refine HF (fun _=> ?_) (fun _=> ?_) | refine HM (fun _=> ?_) (fun _=> ?_) | refine CJ ?_ | simp only [AM,AS,AW,AU,AO,AI,AJ,AQ,AK,AP,AN,AR,AL,AV,CF,CQ,CO,CT,CL,CN,CP,BD,BE,BG,BH,BJ,BF])
 rw [if_neg hb] at h
 obtain ⟨j,rfl⟩: ∃j:Nat,k=j:=⟨k.toNat,by omega⟩
 rw [Int.toNat_natCast] at h
 have jl:j<ws.length:=by omega
 have hw:=hwf _ (List.getElem_mem jl)
 rw [aT jl] at hw
 cases hu:(wk ws j).used with
 | false=>
   rw [if_pos hu] at h
   repeat' (first | refine C4 (v:= .bool false) jl (by simp [tW,hu]) ?_ | exact BT h | refine IQ ?_ | refine KN ?_ | refine JK ?_ | refine H0 ?_ | refine H4 ?_ | refine HZ ?_ | refine FZ ?_ | refine FV ?_ | refine FO ?_ | refine FN ?_ | refine HK (by first | with_reducible assumption | omega) ?_ | refine HI (by first | with_reducible assumption | omega) ?_ | refine FD (by first | with_reducible assumption | omega) ?_ | refine FC (by first | with_reducible assumption | omega) ?_ | refine HC (by with_reducible assumption) ?_ | refine HB (by with_reducible assumption) ?_ | refine EW (by with_reducible assumption) ?_ | refine FF (by with_reducible assumption) ?_ | refine HV ?_ | refine H3 ?_ | refine HW ?_ | refine HG ?_ | refine HA (by first | with_reducible assumption | omega) ?_ | refine HN (by first | with_reducible assumption | omega) ?_ | refine HY (by first | with_reducible assumption | omega) ?_ | refine GV (by first | with_reducible assumption | omega) ?_ | refine GD (by with_reducible assumption) ?_ | refine DO (by with_reducible assumption) ?_ | refine DM (by with_reducible assumption) ?_ | refine J8 (by with_reducible assumption) rfl ?_ | refine KI (by with_reducible assumption) rfl ?_ | refine JT (by first | with_reducible assumption | omega) rfl ?_ | refine JJ (by first | with_reducible assumption | omega) rfl ?_ | refine KO rfl ?_ | refine KH rfl ?_ | refine EC ?_ | refine DI ?_ | refine BW (by first | with_reducible assumption | omega) ?_ | refine CW (by first | with_reducible assumption | omega) ?_ | refine DG (by with_reducible assumption) ?_ | refine B5 (by with_reducible assumption) ?_ | refine A4 ?_ | refine CZ ?_ | refine CX ?_ | refine C0 ?_ | refine B8 ?_ | refine CB ?_ | refine BU ?_ | refine BY ?_ | refine DH ?_ | refine AZ (by omega) ?_ | refine CC ⟨by omega,by omega⟩ ?_ | refine C8 ⟨by omega,by omega⟩ ?_ | refine BV ?_ | refine B6 ?_ | refine C2 (by omega) (by omega) ?_ | refine DP (by omega) ⟨by omega,by omega⟩ (by omega) ?_ | refine B7 ?_ | refine CE ?_ | refine CD (by first | omega | (simp only [ByteArray.size_append];omega)) ?_ | refine DN ?_ | refine DR ?_ | refine A5 (by omega) ?_ | refine H2 (by omega) (by omega) ?_ | refine ldI (by omega) ?_ | refine ldS (by omega) ?_ | refine EG (by omega) ?_ | refine EY (by omega) ?_ | refine FB (by omega) ?_ | refine FL (by omega) ?_ | refine FT (by omega) ?_ | refine EP (by omega) (by decide) rfl ?_ | refine C9 (by omega) rfl ?_ | refine F4 (by omega) (by decide) rfl ?_ | refine C4 (by omega) rfl ?_ | refine FY (by omega) (by decide) rfl ?_ | refine DL (by omega) rfl ?_ | refine FP (by omega) (by decide) rfl ?_ | refine DD (by omega) rfl ?_ | refine FU (by omega) (by decide) rfl ?_ | refine DK (by omega) rfl ?_ | refine EE (by omega) (by omega) ?_ | refine FW (by omega) ?_ | refine F5 (by omega) (by omega) ?_ | refine FR (by omega) ?_ | refine FJ (by omega) (by omega) ?_ | refine FK (by omega) ?_ | refine EB (by omega) rfl rfl ?_ | refine EF (by omega) ?_ | refine ER (by omega) ?_ | refine DV (by omega) (by decide) rfl ?_ | refine CI (by omega) rfl ?_ | refine D5 (by first | exact DB _ | exact DC _ | exact DA _ | exact DQ _ | rfl) (by omega) ?_ | refine G4 (by omega) ?_ | refine A8 (fun _=> ?_) (fun _=> ?_) | refine HU rfl rfl (fun _=> ?_) (fun _=> ?_) | refine HT rfl rfl (fun _=> ?_) (fun _=> ?_) | refine FM (fun _=> ?_) (fun _=> ?_) | refine FI (fun _=> ?_) (fun _=> ?_) | refine G5 (fun _=> ?_) (fun _=> ?_) | refine HS (fun _=> ?_) (fun _=> ?_) | refine ES (fun _=> ?_) (fun _=> ?_) | refine HF (fun _=> ?_) (fun _=> ?_) | refine HM (fun _=> ?_) (fun _=> ?_) | refine CJ ?_ | simp only [AM,AS,AW,AU,AO,AI,AJ,AQ,AK,AP,AN,AR,AL,AV,CF,CQ,CO,CT,CL,CN,CP,BD,BE,BG,BH,BJ,BF])
 | true=>
   rw [if_neg (by rw [hu];decide)] at h
   repeat' (first | refine C4 (v:= .bool true) jl (by simp [tW,hu]) ?_ | refine C6 hw (by omega) ?_ | refine IQ ?_ | refine KN ?_ | refine JK ?_ | refine H0 ?_ | refine H4 ?_ | refine HZ ?_ | refine FZ ?_ | refine FV ?_ | refine FO ?_ | refine FN ?_ | refine HK (by first | with_reducible assumption | omega) ?_ | refine HI (by first | with_reducible assumption | omega) ?_ | refine FD (by first | with_reducible assumption | omega) ?_ | refine FC (by first | with_reducible assumption | omega) ?_ | refine HC (by with_reducible assumption) ?_ | refine HB (by with_reducible assumption) ?_ | refine EW (by with_reducible assumption) ?_ | refine FF (by with_reducible assumption) ?_ | refine HV ?_ | refine H3 ?_ | refine HW ?_ | refine HG ?_ | refine HA (by first | with_reducible assumption | omega) ?_ | refine HN (by first | with_reducible assumption | omega) ?_ | refine HY (by first | with_reducible assumption | omega) ?_ | refine GV (by first | with_reducible assumption | omega) ?_ | refine GD (by with_reducible assumption) ?_ | refine DO (by with_reducible assumption) ?_ | refine DM (by with_reducible assumption) ?_ | refine J8 (by with_reducible assumption) rfl ?_ | refine KI (by with_reducible assumption) rfl ?_ | refine JT (by first | with_reducible assumption | omega) rfl ?_ | refine JJ (by first | with_reducible assumption | omega) rfl ?_ | refine KO rfl ?_ | refine KH rfl ?_ | refine EC ?_ | refine DI ?_ | refine BW (by first | with_reducible assumption | omega) ?_ | refine CW (by first | with_reducible assumption | omega) ?_ | refine DG (by with_reducible assumption) ?_ | refine B5 (by with_reducible assumption) ?_ | refine A4 ?_ | refine CZ ?_ | refine CX ?_ | refine C0 ?_ | refine B8 ?_ | refine CB ?_ | refine BU ?_ | refine BY ?_ | refine DH ?_ | refine AZ (by omega) ?_ | refine CC ⟨by omega,by omega⟩ ?_ | refine C8 ⟨by omega,by omega⟩ ?_ | refine BV ?_ | refine B6 ?_ | refine C2 (by omega) (by omega) ?_ | refine DP (by omega) ⟨by omega,by omega⟩ (by omega) ?_ | refine B7 ?_ | refine CE ?_ | refine CD (by first | omega | (simp only [ByteArray.size_append];omega)) ?_ | refine DN ?_ | refine DR ?_ | refine A5 (by omega) ?_ | refine H2 (by omega) (by omega) ?_ | refine ldI (by omega) ?_ | refine ldS (by omega) ?_ | refine EG (by omega) ?_ | refine EY (by omega) ?_ | refine FB (by omega) ?_ | refine FL (by omega) ?_ | refine FT (by omega) ?_ | refine EP (by omega) (by decide) rfl ?_ | refine C9 (by omega) rfl ?_ | refine F4 (by omega) (by decide) rfl ?_ | refine C4 (by omega) rfl ?_ | refine FY (by omega) (by decide) rfl ?_ | refine DL (by omega) rfl ?_ | refine FP (by omega) (by decide) rfl ?_ | refine DD (by omega) rfl ?_ | refine FU (by omega) (by decide) rfl ?_ | refine DK (by omega) rfl ?_ | refine EE (by omega) (by omega) ?_ | refine FW (by omega) ?_ | refine F5 (by omega) (by omega) ?_ | refine FR (by omega) ?_ | refine FJ (by omega) (by omega) ?_ | refine FK (by omega) ?_ | refine EB (by omega) rfl rfl ?_ | refine EF (by omega) ?_ | refine ER (by omega) ?_ | refine DV (by omega) (by decide) rfl ?_ | refine CI (by omega) rfl ?_ | refine D5 (by first | exact DB _ | exact DC _ | exact DA _ | exact DQ _ | rfl) (by omega) ?_ | refine G4 (by omega) ?_ | refine A8 (fun _=> ?_) (fun _=> ?_) | refine HU rfl rfl (fun _=> ?_) (fun _=> ?_) | refine HT rfl rfl (fun _=> ?_) (fun _=> ?_) | refine FM (fun _=> ?_) (fun _=> ?_) | refine FI (fun _=> ?_) (fun _=> ?_) | refine G5 (fun _=> ?_) (fun _=> ?_) | refine HS (fun _=> ?_) (fun _=> ?_) | refine ES (fun _=> ?_) (fun _=> ?_) | refine HF (fun _=> ?_) (fun _=> ?_) | refine HM (fun _=> ?_) (fun _=> ?_) | refine CJ ?_ | simp only [AM,AS,AW,AU,AO,AI,AJ,AQ,AK,AP,AN,AR,AL,AV,CF,CQ,CO,CT,CL,CN,CP,BD,BE,BG,BH,BJ,BF])
   ·rename_i hh
    rw [if_pos hh] at h
    exact SP (f:=tW) jl (y:=⟨false,0⟩) rfl h
   ·rename_i hh hs
    rw [if_neg hh,if_pos hs] at h
    exact h
   ·rename_i hh hs
    rw [if_neg hh,if_neg hs] at h
    exact h
end Go.Proofs.YthapfcoajahegaaDoor.P
namespace Go.Proofs.YthapfcoajahegaaDoor.P
open Go Go.Proofs.YthapfcoajahegaaDoor Go.Proofs.YthapfcoajahegaaDoor.Eng
set_option linter.unusedVariables false
theorem mL (n:Int):w64 n=(n+9223372036854775808) % 18446744073709551616-9223372036854775808:=by
 simp only [w64,IntKind.wrap,IntKind.bits,IntKind.signed]
 simp
 split <;> omega
theorem M6 (a b:Int):w64 (w64 a+b)=w64 (a+b):=by simp only [mL];omega
theorem iM (a:Int):F64 (w64 a):=by rw [mL];exact ⟨by omega,by omega⟩
def HD:Nat→(Nat→Int)→Int
 | 0,_=>0
 | n+1,f=>HD n f+f n
theorem LI {n:Nat} {f g:Nat→Int} (h: ∀k,k<n→f k=g k):HD n f=HD n g:=by
 induction n with
 | zero=>rfl
 | succ n ih=>simp only [HD];rw [ih fun k hk=>h k (by omega),h n (by omega)]
theorem SG {n k0:Nat} {f g:Nat→Int} (hk:k0<n) (h: ∀k,k<n→k≠k0→f k=g k):HD n g=HD n f+(g k0-f k0):=by
 induction n with
 | zero=>omega
 | succ n ih=>
   simp only [HD]
   by_cases he:k0=n
   ·subst he
    rw [LI (g:=g) fun k hk=>h k (by omega) (by omega)];omega
   ·rw [ih (by omega) fun k hk hne=>h k (by omega) hne,h n (by omega) (by omega)];omega
theorem hH {n:Nat} {f g:Nat→Int}:HD n (fun k=>f k+g k)=HD n f+HD n g:=by
 induction n with
 | zero=>rfl
 | succ n ih=>simp only [HD,ih];omega
theorem JX {n:Nat} {f:Nat→Int} (h: ∀k,k<n→f k=0):HD n f=0:=by
 induction n with
 | zero=>rfl
 | succ n ih=>simp only [HD];rw [ih fun k hk=>h k (by omega),h n (by omega)];rfl
theorem LG {n:Nat} {f g:Nat→Int} (h: ∀k,k<n→f k≤g k):HD n f≤HD n g:=by
 induction n with
 | zero=>exact Int.le_refl _
 | succ n ih=>simp only [HD];have:=ih fun k hk=>h k (by omega);have:=h n (by omega);omega
theorem GM {l:List Int} {i k:Nat} {v:Int} (hk:k<l.length):gI (l.set k v) i=if i=k then v else gI l i:=by
 unfold gI
 by_cases h:i=k
 ·subst h
  rw [if_pos rfl,List.getD_eq_getElem?_getD,List.getElem?_set_self hk];rfl
 ·rw [if_neg h,List.getD_eq_getElem?_getD,List.getElem?_set_ne (Ne.symm h),List.getD_eq_getElem?_getD]
def BA (os:List AD) (k:Nat):List Int:=((ob os k).field.map (AA os)).filter fun x=>decide (0≤x)
def E (os:List AD) (k i:Nat):Int:=((BA os k).count (i:Int):Nat)
theorem B2 {os:List AD} {k:Nat} {x:Int} (h:x∈BA os k):0≤x∧x.toNat<8∧x=(x.toNat:Int)∧os.length=8∧(ob os x.toNat).live=true:=by
 obtain ⟨h1,h2⟩:=List.mem_filter.1 h
 obtain ⟨f,_,rfl⟩:=List.mem_map.1 h1
 have h2:0≤AA os f:=by simpa using h2
 have:=A7 h2
 exact ⟨h2,this.2.2.2.1,by omega,this.1,this.2.2.2.2.1⟩
theorem T8 {os:List AD} (hof: ∀o∈os,OF o) {k:Nat} (hk:k<os.length):(BA os k).length≤3:=by
 have:=List.length_filter_le (fun x=>decide (0≤x)) ((ob os k).field.map (AA os))
 rw [List.length_map,(hof _ (LO hk)).len] at this
 exact this
theorem PB (os:List AD) (k i:Nat):0≤E os k i:=Int.natCast_nonneg _
theorem pZ {os:List AD} {k i:Nat} (h:(i:Int)∉BA os k):E os k i=0:=by
 unfold E;rw [List.count_eq_zero.2 h];rfl
inductive Reach (os:List AD) (s:Nat):Nat→Prop
 | refl:Reach os s s
 | step {k:Nat} {j:Int}:Reach os s k→j∈BA os k→Reach os s j.toNat
theorem Reach.trans {os:List AD} {a b c:Nat} (h:Reach os a b) (g:Reach os b c):Reach os a c:=by
 induction g with
 | refl=>exact h
 | step _ hj ih=>exact .step ih hj
theorem Reach.closed {os:List AD} {P:Nat→Prop} {s k:Nat} (h:Reach os s k) (hs:P s) (hc: ∀k,P k→ ∀j∈BA os k,P j.toNat):P k:=by
 induction h with
 | refl=>exact hs
 | step _ hj ih=>exact hc _ ih _ hj
theorem Reach.lt {os:List AD} {s k:Nat} (h:Reach os s k) (hs:s<8):k<8:=h.closed (P:=fun k=>k<8) hs fun _ _ _ hj=>(B2 hj).2.1
def S (os:List AD) (P:Nat→Bool) (i:Nat):Int:=HD 8 fun k=>if P k then E os k i else 0
theorem eR {os:List AD} {P Q:Nat→Bool} {i:Nat} (h: ∀k,k<8→P k=Q k):S os P i=S os Q i:=LI fun k hk=>by rw [h k hk]
theorem jE {os:List AD} {P Q:Nat→Bool} {i k0:Nat} (hk:k0<8) (h0:P k0=false) (h1:Q k0=true) (h: ∀k,k<8→k≠k0→P k=Q k):S os Q i=S os P i+E os k0 i:=by
 unfold S
 rw [SG (n:=8) (f:=fun k=>if P k then E os k i else 0) (g:=fun k=>if Q k then E os k i else 0) hk fun k hk hne=>by rw [h k hk hne]]
 simp only [h0,h1];simp
theorem YX {os:List AD} {P:Nat→Bool} {i:Nat}:S os P i+S os (fun k=> !P k) i=S os (fun _=>true) i:=by
 unfold S
 rw [←hH]
 refine LI fun k hk=> ?_
 cases h:P k <;> simp [h]
def isC (col:List Int) (c:Int) (k:Nat):Bool:=decide (gI col k=c)
theorem P4 {col:List Int} {c:Int} {k s:Nat} (hs:s<col.length):isC (col.set s c) c k=(decide (k=s)||isC col c k):=by
 unfold isC
 rw [GM hs]
 by_cases h:k=s
 ·simp [h]
 ·simp [h]
def NC (col:List Int) (c:Int):Nat:=(HD 8 fun k=>if isC col c k then 0 else 1).toNat
theorem nQ {a b:List Int} {c:Int} (h: ∀k,k<8→gI a k=c→gI b k=c):NC b c≤NC a c:=by
 have:HD 8 (fun k=>if isC b c k then 0 else 1)≤HD 8 (fun k=>if isC a c k then 0 else 1):=LG fun k hk=>by
  by_cases h1:gI a k=c
  ·simp [isC,h1,h k hk h1]
  ·by_cases h3:gI b k=c <;> simp [isC,h1,h3]
 unfold NC;omega
theorem OD {a b:List Int} {c:Int} {s:Nat} (hs:s<8) (h0:gI a s≠c) (h1:gI b s=c) (h: ∀k,k<8→gI a k=c→gI b k=c):NC b c<NC a c:=by
 have hle:HD 8 (fun k=>if isC b c k then 0 else 1)≤HD 8 (fun k=>if isC a c k∨k=s then 0 else 1):=LG fun k hk=>by
  by_cases h2:gI a k=c
  ·simp [isC,h2,h k hk h2]
  ·by_cases hks:k=s
   ·subst hks;simp [isC,h1]
   ·by_cases h3:gI b k=c <;> simp [isC,h2,h3,hks]
 have hu:=SG (n:=8) (k0:=s) (f:=fun k=>if isC a c k∨k=s then (0:Int) else 1) (g:=fun k=>if isC a c k then (0:Int) else 1) hs fun k hk hne=>by simp [hne]
 have e1:isC a c s=false:=by simp [isC,h0]
 simp only [e1,or_true,if_true] at hu
 have h3:0≤HD 8 (fun k=>if isC b c k then (0:Int) else 1):=by
  have:=LG (n:=8) (f:=fun _=>0) (g:=fun k=>if isC b c k then (0:Int) else 1) fun k hk=>by split <;> simp
  rw [JX (fun _ _=>rfl)] at this;exact this
 simp only [Bool.false_eq_true,if_false] at hu
 unfold NC;omega
theorem SE (col:List Int) (c:Int):NC col c≤8:=by
 have:HD 8 (fun k=>if isC col c k then (0:Int) else 1)≤HD 8 (fun _=>1):=LG fun k hk=>by split <;> simp
 have e:HD 8 (fun _=>(1:Int))=8:=rfl
 unfold NC;omega
structure L8 (os:List AD) (c m:Int) (cs col cs' col':List Int) (s:Nat):Prop where
 len:cs'.length=8∧col'.length=8
 f: ∀i,i<8→F64 (gI cs' i)
 KL: ∀k,k<8→gI col k=c→gI col' k=c
 only: ∀k,k<8→gI col' k≠c→gI col' k=gI col k
 got:gI col' s=c
 clo: ∀k,k<8→gI col' k=c→gI col k≠c→Reach os s k∧ ∀j∈BA os k,gI col' j.toNat=c
 cnt: ∀i,i<8→gI cs' i=w64 (gI cs i+m*(S os (isC col' c) i-S os (isC col c) i))
theorem L8.refl {os:List AD} {c m:Int} {cs col:List Int} {s:Nat} (h1:cs.length=8) (h2:col.length=8) (hf: ∀i,i<8→F64 (gI cs i)) (hs:gI col s=c):L8 os c m cs col cs col s:=
 ⟨⟨h1,h2⟩,hf,fun _ _ h=>h,fun _ _ _=>rfl,hs,fun _ _ h1 h2=>absurd h1 h2,fun i hi=>by rw [Int.sub_self,Int.mul_zero,Int.add_zero,JU (hf i hi)]⟩
end Go.Proofs.YthapfcoajahegaaDoor.P
namespace Go.Proofs.YthapfcoajahegaaDoor.P
open Go Go.Proofs.YthapfcoajahegaaDoor Go.Proofs.YthapfcoajahegaaDoor.Eng
set_option linter.unusedVariables false
set_option maxHeartbeats 4000000
set_option linter.unusedVariables false
set_option linter.unusedSimpArgs false
attribute [local irreducible] prP gP gE gF AY ixW ldc ldg ldl stc stg scW mkW apW A6 cl2 BL C5 BX
variable {w0:World}
theorem fV {os:List AD} {l:List Int} {i:Nat} (hi:i<l.length):((l.take (i+1)).map (AA os)).filter (fun x=>decide (0≤x))=((l.take i).map (AA os)).filter (fun x=>decide (0≤x))++(if 0≤AA os (gI l i) then [AA os (gI l i)] else []):=by
 rw [List.take_succ_eq_append_getElem hi,List.map_append,List.filter_append,G3 hi]
 congr 1
 by_cases h:0≤AA os (gI l i) <;> simp [h]
theorem PF {os:List AD} {b c d:List T} {k:Nat} {K:J2} (hol:os.length=8) (hof: ∀o∈os,OF o) (hk:k<8) (h:K [] [tI (BA os k)]):cl2 ⟨Tryd.prog,w0⟩ 49 EZ.sg [I k] [tR tO os,b,c,d] K:=by
 have hkl:k<os.length:=by omega
 have ho:=hof _ (LO hkl)
 refine EZ.cl2 ?_
 unfold EZ.txt
 simp only [AM,AS,AW,AU,AO,AI,AJ,AQ,AK,AP,AN,AR,AL,AV,CF,CQ,CO,CT,CL,CN,CP,BD,BE,BG,BH,BJ,BF]
 refine A5 hkl (SQ (f:=tO) (i:=k) hkl (by decide) rfl ?_)
 rw [Q9 hkl,AI,ho.len]
 refine DZ (fun i=>[iv (AB (iv k)*8+6),iv 3,iv i]) (fun i=>[tI ((((ob os k).field.take i).map (AA os)).filter fun x=>decide (0≤x))]) 3 (fun _=>True) rfl rfl trivial (fun R i hi hP hR=> ?_)
 have hln:=List.length_filter_le (fun x=>decide (0≤x)) (((ob os k).field.take i).map (AA os))
 have hl2:(((ob os k).field.take i).map (AA os)).length≤i:=by simp;omega
 simp only [AM,AS,AW,AU,AO,AI,AJ,AQ,AK,AP,AN,AR,AL,AV,CF,CQ,CO,CT,CL,CN,CP,BD,BE,BG,BH,BJ,BF]
 rw [BB (AB (iv k)*8+6),Q9 hkl,AI]
 refine A4 (A8 (fun hlt=> ?_) fun hge=> ?_)
 ·have hlt:i<(ob os k).field.length:=by have:=ho.len;omega
  replace hR:=hR (by omega) trivial
  rw [fV hlt] at hR
  refine HH (A5 hlt (EE hkl hlt (C6 (ho.fld _ (JH hlt)) (by omega) (C0 (A8 (fun hs=> ?_) fun hs=> ?_)))))
  ·rw [if_pos hs, ←KJ] at hR
   refine D5 rfl (by omega) (AZ (by omega) ?_)
   exact hR
  ·rw [if_neg hs,List.append_nil] at hR
   exact AZ (by omega) hR
 ·have:i=3:=by omega
  subst this
  have e:(ob os k).field.take 3=(ob os k).field:=List.take_of_length_le (by rw [ho.len];omega)
  rw [e];exact h
theorem qW {l:List Int} {i:Nat} {v:Int} {K:List T→Prop} (hi:i<l.length) (h:K (tI (l.set i v))):stc (tI l) [] (AB (iv i)*1) (I v) K:=rB hi h
structure ME (os:List AD) (c m:Int) (cs col:List Int) (s:Nat) (q:Nat×List Int×List Int):Prop where
 j:q.1≤(BA os s).length
 len:q.2.1.length=8∧q.2.2.length=8
 f: ∀i,i<8→F64 (gI q.2.1 i)
 KL: ∀k,k<8→gI col k=c∨k=s→gI q.2.2 k=c
 only: ∀k,k<8→gI q.2.2 k≠c→gI q.2.2 k=gI col k
 clo: ∀k,k<8→k≠s→gI q.2.2 k=c→gI col k≠c→Reach os s k∧ ∀j∈BA os k,gI q.2.2 j.toNat=c
 done: ∀x∈(BA os s).take q.1,gI q.2.2 x.toNat=c
 cnt: ∀i,i<8→gI q.2.1 i=w64 (gI cs i+m*(S os (isC q.2.2 c) i-S os (isC col c) i-(((BA os s).drop q.1).count (i:Int):Nat)))
theorem ME.start {os:List AD} {c m:Int} {cs col:List Int} {s:Nat} (hs:s<8) (h1:cs.length=8) (h2:col.length=8) (hf: ∀i,i<8→F64 (gI cs i)) (h0:gI col s≠c):ME os c m cs col s (0,cs,col.set s c):=by
 refine ⟨Nat.zero_le _,⟨h1,by simpa using h2⟩,hf,fun k hk h=> ?_,fun k hk h=> ?_,fun k hk hne h3 h4=> ?_,fun x hx=>by simp at hx,fun i hi=> ?_⟩
 ·simp only;rw [GM (by omega)];split
  ·rfl
  ·rename_i hh;exact h.resolve_right hh
 ·simp only at h ⊢;rw [GM (by omega)] at h ⊢;split
  ·rename_i hh;rw [if_pos hh] at h;exact absurd rfl h
  ·rfl
 ·simp only at h3;rw [GM (by omega),if_neg hne] at h3;exact absurd h3 h4
 ·simp only
  have e:=jE (os:=os) (P:=isC col c) (Q:=isC (col.set s c) c) (i:=i) hs (by simp [isC,h0]) (by rw [P4 (by omega)];simp) fun k hk hne=>by rw [P4 (by omega)];simp [hne]
  rw [e,List.drop_zero]
  have:(((BA os s).count (i:Int):Nat):Int)=E os s i:=rfl
  rw [this]
  have e2:S os (isC col c) i+E os s i-S os (isC col c) i-E os s i=0:=by omega
  rw [e2,Int.mul_zero,Int.add_zero,JU (hf i hi)]
theorem ME.step {os:List AD} {c m:Int} {cs col:List Int} {s:Nat} {j:Nat} {cs1 col1 cs2 col2:List Int} (hs:s<8) (h:ME os c m cs col s (j,cs1,col1)) (hj:j<(BA os s).length) (p:L8 os c m (cs1.set (gI (BA os s) j).toNat (w64 (gI cs1 (gI (BA os s) j).toNat+m))) col1 cs2 col2 (gI (BA os s) j).toNat):ME os c m cs col s (j+1,cs2,col2):=by
 have hx:=B2 (JH hj)
 have l1:=h.len
 refine ⟨by simp only;omega,p.len,p.f,fun k hk hh=>p.KL k hk (h.KL k hk hh),fun k hk hne=> ?_,fun k hk hne h3 h4=> ?_,fun x hx=> ?_,fun i hi=> ?_⟩
 ·have e:=p.only k hk hne
  simp only at hne ⊢
  rw [e]
  exact h.only k hk (by simp only;rw [←e];exact hne)
 ·by_cases h5:gI col1 k=c
  ·obtain ⟨g1,g2⟩:=h.clo k hk hne h5 h4
   exact ⟨g1,fun y hy=>p.KL _ (B2 hy).2.1 (g2 y hy)⟩
  ·obtain ⟨g1,g2⟩:=p.clo k hk h3 h5
   exact ⟨Reach.trans (.step .refl (JH hj)) g1,g2⟩
 ·simp only at hx ⊢
  rw [List.take_succ_eq_append_getElem hj,List.mem_append,List.mem_singleton] at hx
  rcases hx with hx | rfl
  ·exact p.KL _ (B2 (List.mem_of_mem_take hx)).2.1 (h.done x hx)
  ·rw [G3 hj];exact p.got
 ·have e1:=p.cnt i hi
  have e2:=h.cnt i hi
  simp only at e1 e2 ⊢
  rw [GM (by have:=h.len.1;simp only at this;omega)] at e1
  have e3:(((BA os s).drop j).count (i:Int):Int)=(if i=(gI (BA os s) j).toNat then 1 else 0)+(((BA os s).drop (j+1)).count (i:Int):Int):=by
   rw [drop_cons hj,List.count_cons]
   by_cases hh:i=(gI (BA os s) j).toNat
   ·have:(gI (BA os s) j==(i:Int))=true:=by simp;omega
    rw [if_pos hh,this];simp;omega
   ·have:(gI (BA os s) j==(i:Int))=false:=by simp;omega
    rw [if_neg hh,this];simp
  rw [e1]
  by_cases hh:i=(gI (BA os s) j).toNat
  ·rw [if_pos hh, ←hh,e2,M6,Int.add_assoc,M6]
   rw [if_pos hh] at e3
   congr 1
   rw [e3]
   generalize S os (isC col2 c) i=a
   generalize S os (isC col1 c) i=b
   generalize S os (isC col c) i=d
   generalize ((List.drop (j+1) (BA os s)).count (i:Int):Int)=e
   simp only [Int.mul_sub,Int.mul_add,Int.mul_one];omega
  ·rw [if_neg hh,e2,M6]
   rw [if_neg hh] at e3
   congr 1
   rw [e3]
   generalize S os (isC col2 c) i=a
   generalize S os (isC col1 c) i=b
   generalize S os (isC col c) i=d
   generalize ((List.drop (j+1) (BA os s)).count (i:Int):Int)=e
   simp only [Int.mul_sub,Int.mul_add,Int.mul_zero];omega
theorem ME.stop {os:List AD} {c m:Int} {cs col:List Int} {s:Nat} {cs1 col1:List Int} (hs:s<8) (h:ME os c m cs col s ((BA os s).length,cs1,col1)):L8 os c m cs col cs1 col1 s:=by
 refine ⟨h.len,h.f,fun k hk hh=>h.KL k hk (.inl hh),h.only,h.KL s hs (.inr rfl),fun k hk h3 h4=> ?_,fun i hi=> ?_⟩
 ·by_cases hks:k=s
  ·subst hks
   exact ⟨.refl,fun y hy=>h.done y (by simp only;rw [List.take_length];exact hy)⟩
  ·exact h.clo k hk hks h3 h4
 ·have:=h.cnt i hi
  simp only [List.drop_length,List.count_nil] at this
  rw [this];simp
theorem RO {os:List AD} {b c' d:List T} {c m:Int} (hol:os.length=8) (hof: ∀o∈os,OF o) (hc:F64 c) (hm:F64 m): ∀(n:Nat) {cs col:List Int} {s:Nat} {K:J2},NC col c≤n→s<8→cs.length=8→col.length=8→(∀i,i<8→F64 (gI cs i))→(∀cs' col',L8 os c m cs col cs' col' s→K [] [tI cs',tI col'])→cl2 ⟨Tryd.prog,w0⟩ 43 BN.sg [I s,I c,I m] [tI cs,tI col,tR tO os,b,c',d] K:=by
 intro n
 induction n with
 | zero=>
   intro cs col s K hn hs h1 h2 hf h
   refine BN.cl2 ?_
   unfold BN.txt
   simp only [AM,AS,AW,AU,AO,AI,AJ,AQ,AK,AP,AN,AR,AL,AV,CF,CQ,CO,CT,CL,CN,CP,BD,BE,BG,BH,BJ,BF]
   refine A5 (by omega) (ldI (by omega) (B8 (A8 (fun he=>h _ _ (L8.refl h1 h2 hf he)) fun he=> ?_)))
   have:=OD (a:=col) (b:=col.set s c) (c:=c) hs he (by rw [GM (by omega)];simp) fun k hk hh=>by rw [GM (by omega)];split <;> first | rfl | exact hh
   exact absurd this (by omega)
 | succ n ih=>
   intro cs col s K hn hs h1 h2 hf h
   refine BN.cl2 ?_
   unfold BN.txt
   simp only [AM,AS,AW,AU,AO,AI,AJ,AQ,AK,AP,AN,AR,AL,AV,CF,CQ,CO,CT,CL,CN,CP,BD,BE,BG,BH,BJ,BF]
   refine A5 (by omega) (ldI (by omega) (B8 (A8 (fun he=>h _ _ (L8.refl h1 h2 hf he)) fun he=> ?_)))
   refine A5 (by omega) (qW (by omega) (PF hol hof hs ?_))
   simp only [AM,AS,AW,AU,AO,AI,AJ,AQ,AK,AP,AN,AR,AL,AV,CF,CQ,CO,CT,CL,CN,CP,BD,BE,BG,BH,BJ,BF]
   have hkl:=T8 hof (k:=s) (by omega)
   refine NI (α:=Nat×List Int×List Int) (fun q=>[I c,I m,iv (BA os s).length,iv q.1]) (fun q=>[tI (BA os s),tI q.2.1,tI q.2.2]) (fun q=>(BA os s).length-q.1) (ME os c m cs col s) (0,cs,col.set s c) rfl rfl (ME.start hs h1 h2 hf he) (fun R q hq hR=> ?_)
   obtain ⟨j,cs1,col1⟩:=q
   have hj:=hq.j
   have hl:=hq.len
   simp only at hj hl
   simp only [AM,AS,AW,AU,AO,AI,AJ,AQ,AK,AP,AN,AR,AL,AV,CF,CQ,CO,CT,CL,CN,CP,BD,BE,BG,BH,BJ,BF]
   refine A4 (A8 (fun hlt=> ?_) fun hge=> ?_)
   ·have hlt:j<(BA os s).length:=by omega
    obtain ⟨x1,x2,x3,_⟩:=B2 (JH hlt)
    have hmiss:NC col1 c≤n:=by
     have:=OD (a:=col) (b:=col1) (c:=c) hs he (hq.KL s hs (.inr rfl)) fun k hk hh=>hq.KL k hk (.inl hh)
     omega
    have stp:=fun cs2 col2=>ME.step (cs2:=cs2) (col2:=col2) hs hq hlt
    obtain ⟨x,hx⟩: ∃x,(gI (BA os s) j).toNat=x:=⟨_,rfl⟩
    rw [hx] at x2 x3 stp
    refine A5 hlt (ldI hlt ?_)
    rw [x3]
    refine A5 (by omega) (ldI (by omega) (BV (A5 (by omega) (qW (by omega) ?_))))
    refine ih hmiss x2 (by simpa using hl.1) hl.2 (fun i hi=> ?_) fun cs2 col2 p=> ?_
    ·rw [GM (by omega)];split
     ·exact iM _
     ·exact hq.f i hi
    ·exact AZ (by omega) (hR (j+1,cs2,col2) (stp _ _ p) (by simp only;omega))
   ·have:j=(BA os s).length:=by omega
    subst this
    exact h _ _ (ME.stop hs hq)
end Go.Proofs.YthapfcoajahegaaDoor.P
