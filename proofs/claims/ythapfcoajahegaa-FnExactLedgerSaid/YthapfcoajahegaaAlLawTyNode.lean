/- A part of the proof. -/
import Derived.Test.YthapfcoajahegaaAlLawHp
import Derived.Test.YthapfcoajahegaaAlLawTyWeak
namespace Go.Proofs.Ythapfcoajahegaa.P
open Go Go.Proofs.Ythapfcoajahegaa Go.Proofs.Ythapfcoajahegaa.Eng
set_option maxHeartbeats 4000000
set_option linter.unusedVariables false
set_option linter.unusedSimpArgs false
attribute [local irreducible] prP gP gE gF AH ixW ldc ldg ldl stc stg scW mkW apW AP cl2 AX C9 BW
variable {w0:World}
def pick {α:Type} (f:Nat→List α):Nat→List α
 | 0=>[]
 | n+1=>pick f n++f n
def DA (s g:Int):Int:=if (0≤s∧s≤7)∧1≤g∧g≤999 then s+8*g else -1
def AA (l:List AE) (id:Int):Int:=if id<8∨l.length≠8 then -1 else if (ob l (id % 8).toNat).live=true∧(ob l (id % 8).toNat).gen=id/8 then id % 8 else -1
theorem MJ {l:List AE} {id:Int} (h:id<8∨l.length≠8):AA l id= -1:=if_pos h
theorem P4 {l:List AE} {id:Int} (h1:8≤id) (h2:l.length=8) (hl:(id % 8).toNat<l.length) (h3:(ob l (id % 8).toNat).live=true) (h4:(ob l (id % 8).toNat).gen=id/8):AA l id=id % 8:=by
 rw [AA,if_neg (by omega),if_pos ⟨h3,h4⟩]
theorem NF {l:List AE} {id:Int} (hl:(id % 8).toNat<l.length) (h:(ob l (id % 8).toNat).live=false∨(ob l (id % 8).toNat).gen≠id/8):AA l id= -1:=by
 rw [AA]
 split
 ·rfl
 ·rw [if_neg]
  rintro ⟨h1,h2⟩
  rcases h with h | h
  ·rw [h] at h1;cases h1
  ·exact h h2
end Go.Proofs.Ythapfcoajahegaa.P
namespace Go.Proofs.Ythapfcoajahegaa.P
open Go Go.Proofs.Ythapfcoajahegaa Go.Proofs.Ythapfcoajahegaa.Eng
set_option maxHeartbeats 4000000
set_option linter.unusedVariables false
set_option linter.unusedSimpArgs false
attribute [local irreducible] prP gP gE gF AH ixW ldc ldg ldl stc stg scW mkW apW AP cl2 AX C9 BW
variable {w0:World}
def TP (k:Int) (o:Op5):Op5:=⟨k,k+1,k+1+1,k+1+1+1,mt (k+1+1+1+1)⟩
def JQ (o:Op5):Int:=5
theorem RW (o:Op5):0≤JQ o:=by unfold JQ;omega
theorem YV {cur:List Op5} {i:Nat} {y:Op5} {v:Int} {K:List T→Prop} (hi:i<cur.length) (h:K (tR tP (cur.set i {y with kind:=v}))):stc (tR tP (cur.set i y)) [] (AB (iv i)*5) (I v) K:=T3 hi rfl rfl h
theorem hD {cur:List Op5} {i:Nat} {y:Op5} {v:Int} {K:List T→Prop} (hi:i<cur.length) (h:K (tR tP (cur.set i {y with a:=v}))):stc (tR tP (cur.set i y)) [] (AB (iv i)*5+1) (I v) K:=IX hi (by decide) rfl rfl h
theorem gR {cur:List Op5} {i:Nat} {y:Op5} {v:Int} {K:List T→Prop} (hi:i<cur.length) (h:K (tR tP (cur.set i {y with b:=v}))):stc (tR tP (cur.set i y)) [] (AB (iv i)*5+2) (I v) K:=IX hi (by decide) rfl rfl h
theorem iM {cur:List Op5} {i:Nat} {y:Op5} {v:Int} {K:List T→Prop} (hi:i<cur.length) (h:K (tR tP (cur.set i {y with c:=v}))):stc (tR tP (cur.set i y)) [] (AB (iv i)*5+3) (I v) K:=IX hi (by decide) rfl rfl h
theorem XP {cur:List Op5} {i:Nat} {y:Op5} {v:ByteArray} {K:List T→Prop} (hi:i<cur.length) (h:K (tR tP (cur.set i {y with site:=v}))):stc (tR tP (cur.set i y)) [] (AB (iv i)*5+4) (.string v) K:=IX hi (by decide) rfl rfl h
theorem aS {o:Op5} {K:J2} (h:K [.bool true] []):cl2 ⟨Try.prog,w0⟩ 25 H0.sg [I o.kind,I o.a,I o.b,I o.c, .string o.site,I o.kind,I o.a,I o.b,I o.c, .string o.site] [] K:=by
 refine H0.cl2 ?_
 unfold H0.txt
 repeat' (first | refine BL (fun h=>h rfl) ?_ | refine CH ?_ | refine LZ ?_ | refine KK ?_ | refine IF ?_ | refine IU ?_ | refine IS ?_ | refine GB ?_ | refine GL ?_ | refine GI ?_ | refine GN ?_ | refine H5 (by first | with_reducible assumption | omega) ?_ | refine H7 (by first | with_reducible assumption | omega) ?_ | refine FT (by first | with_reducible assumption | omega) ?_ | refine FM (by first | with_reducible assumption | omega) ?_ | refine H8 (by with_reducible assumption) ?_ | refine H4 (by with_reducible assumption) ?_ | refine FP (by with_reducible assumption) ?_ | refine FU (by with_reducible assumption) ?_ | refine EY ?_ | refine IL ?_ | refine IE ?_ | refine EE ?_ | refine IM (by first | with_reducible assumption | omega) ?_ | refine IJ (by first | with_reducible assumption | omega) ?_ | refine IV (by first | with_reducible assumption | omega) ?_ | refine IG (by first | with_reducible assumption | omega) ?_ | refine GX (by with_reducible assumption) ?_ | refine EB (by with_reducible assumption) ?_ | refine DS (by with_reducible assumption) ?_ | refine LL (by with_reducible assumption) rfl ?_ | refine LJ (by with_reducible assumption) rfl ?_ | refine LH (by first | with_reducible assumption | omega) rfl ?_ | refine LK (by first | with_reducible assumption | omega) rfl ?_ | refine JM rfl ?_ | refine JL rfl ?_ | refine EO ?_ | refine CT ?_ | refine B4 (by first | with_reducible assumption | omega) ?_ | refine BL (by first | with_reducible assumption | omega) ?_ | refine DN (by with_reducible assumption) ?_ | refine CJ (by with_reducible assumption) ?_ | refine AN ?_ | refine DM ?_ | refine DK ?_ | refine DL ?_ | refine AU ?_ | refine CG ?_ | refine BX ?_ | refine CV ?_ | refine DX ?_ | refine AT (by omega) ?_ | refine CN ⟨by omega,by omega⟩ ?_ | refine DE ⟨by omega,by omega⟩ ?_ | refine CQ ?_ | refine CP ?_ | refine D6 (by omega) (by omega) ?_ | refine D7 (by omega) ⟨by omega,by omega⟩ (by omega) ?_ | refine B7 ?_ | refine CU ?_ | refine B3 (by first | omega | (simp only [ByteArray.size_append];omega)) ?_ | refine D9 ?_ | refine DR ?_ | refine AO (by omega) ?_ | refine IW (by omega) (by omega) ?_ | refine ldI (by omega) ?_ | refine ldS (by omega) ?_ | refine GM (by omega) ?_ | refine F8 (by omega) ?_ | refine FC (by omega) ?_ | refine FF (by omega) ?_ | refine GO (by omega) ?_ | refine GF (by omega) (by decide) rfl ?_ | refine D8 (by omega) rfl ?_ | refine F9 (by omega) (by decide) rfl ?_ | refine DZ (by omega) rfl ?_ | refine ER (by omega) (by decide) rfl ?_ | refine C5 (by omega) rfl ?_ | refine FO (by omega) (by decide) rfl ?_ | refine C4 (by omega) rfl ?_ | refine GH (by omega) (by decide) rfl ?_ | refine DU (by omega) rfl ?_ | refine F6 (by omega) (by omega) ?_ | refine GJ (by omega) ?_ | refine GK (by omega) (by omega) ?_ | refine F7 (by omega) ?_ | refine FN (by omega) (by omega) ?_ | refine FE (by omega) ?_ | refine CI (by omega) rfl rfl ?_ | refine DI (by omega) ?_ | refine FQ (by omega) ?_ | refine C1 (by omega) (by decide) rfl ?_ | refine BV (by omega) rfl ?_ | refine HN (by first | exact EA _ | exact DT _ | exact DV _ | exact EC _ | rfl) (by omega) ?_ | refine IH (by omega) ?_ | refine AM (fun _=> ?_) (fun _=> ?_) | refine IT rfl rfl (fun _=> ?_) (fun _=> ?_) | refine II rfl rfl (fun _=> ?_) (fun _=> ?_) | refine GD (fun _=> ?_) (fun _=> ?_) | refine GG (fun _=> ?_) (fun _=> ?_) | refine IK (fun _=> ?_) (fun _=> ?_) | refine IN (fun _=> ?_) (fun _=> ?_) | refine ET (fun _=> ?_) (fun _=> ?_) | refine H9 (fun _=> ?_) (fun _=> ?_) | refine H6 (fun _=> ?_) (fun _=> ?_) | refine C6 ?_ | simp only [A4,BA,AV,AW,AY,AQ,A9,A7,AZ,A8,A5,BD,A6,BB,EK,EP,FI,FK,FJ,FH,FG,B2,CB,CE,CC,CA,B9])
 exact h
theorem YH {l:List Op5} {K:J2} (hl:(l.length:Int)<2^62) (h:K [.bool true] []):cl2 ⟨Try.prog,w0⟩ 11 HA.sg [] [tR tP l,tR tP l] K:=by
 refine HA.cl2 ?_
 unfold HA.txt
 simp only [A4,BA,AV,AW,AY,AQ,A9,A7,AZ,A8,A5,BD,A6,BB,EK,EP,FI,FK,FJ,FH,FG,B2,CB,CE,CC,CA,B9]
 refine CG (BL (fun h=>h rfl) ?_)
 refine BZ (fun i=>[iv i]) (fun _=>[]) l.length (fun _=>True) rfl rfl trivial (fun R i hi hP hR=> ?_)
 refine AN (AM (fun hlt=> ?_) fun hge=> ?_)
 ·have hlt:i<l.length:=by omega
  refine AO hlt (CI hlt rfl rfl (AO hlt (CI hlt rfl rfl ?_)))
  refine aS ?_
  repeat' (first | refine CH ?_ | refine LZ ?_ | refine KK ?_ | refine IF ?_ | refine IU ?_ | refine IS ?_ | refine GB ?_ | refine GL ?_ | refine GI ?_ | refine GN ?_ | refine H5 (by first | with_reducible assumption | omega) ?_ | refine H7 (by first | with_reducible assumption | omega) ?_ | refine FT (by first | with_reducible assumption | omega) ?_ | refine FM (by first | with_reducible assumption | omega) ?_ | refine H8 (by with_reducible assumption) ?_ | refine H4 (by with_reducible assumption) ?_ | refine FP (by with_reducible assumption) ?_ | refine FU (by with_reducible assumption) ?_ | refine EY ?_ | refine IL ?_ | refine IE ?_ | refine EE ?_ | refine IM (by first | with_reducible assumption | omega) ?_ | refine IJ (by first | with_reducible assumption | omega) ?_ | refine IV (by first | with_reducible assumption | omega) ?_ | refine IG (by first | with_reducible assumption | omega) ?_ | refine GX (by with_reducible assumption) ?_ | refine EB (by with_reducible assumption) ?_ | refine DS (by with_reducible assumption) ?_ | refine LL (by with_reducible assumption) rfl ?_ | refine LJ (by with_reducible assumption) rfl ?_ | refine LH (by first | with_reducible assumption | omega) rfl ?_ | refine LK (by first | with_reducible assumption | omega) rfl ?_ | refine JM rfl ?_ | refine JL rfl ?_ | refine EO ?_ | refine CT ?_ | refine B4 (by first | with_reducible assumption | omega) ?_ | refine BL (by first | with_reducible assumption | omega) ?_ | refine DN (by with_reducible assumption) ?_ | refine CJ (by with_reducible assumption) ?_ | refine AN ?_ | refine DM ?_ | refine DK ?_ | refine DL ?_ | refine AU ?_ | refine CG ?_ | refine BX ?_ | refine CV ?_ | refine DX ?_ | refine AT (by omega) ?_ | refine CN ⟨by omega,by omega⟩ ?_ | refine DE ⟨by omega,by omega⟩ ?_ | refine CQ ?_ | refine CP ?_ | refine D6 (by omega) (by omega) ?_ | refine D7 (by omega) ⟨by omega,by omega⟩ (by omega) ?_ | refine B7 ?_ | refine CU ?_ | refine B3 (by first | omega | (simp only [ByteArray.size_append];omega)) ?_ | refine D9 ?_ | refine DR ?_ | refine AO (by omega) ?_ | refine IW (by omega) (by omega) ?_ | refine ldI (by omega) ?_ | refine ldS (by omega) ?_ | refine GM (by omega) ?_ | refine F8 (by omega) ?_ | refine FC (by omega) ?_ | refine FF (by omega) ?_ | refine GO (by omega) ?_ | refine GF (by omega) (by decide) rfl ?_ | refine D8 (by omega) rfl ?_ | refine F9 (by omega) (by decide) rfl ?_ | refine DZ (by omega) rfl ?_ | refine ER (by omega) (by decide) rfl ?_ | refine C5 (by omega) rfl ?_ | refine FO (by omega) (by decide) rfl ?_ | refine C4 (by omega) rfl ?_ | refine GH (by omega) (by decide) rfl ?_ | refine DU (by omega) rfl ?_ | refine F6 (by omega) (by omega) ?_ | refine GJ (by omega) ?_ | refine GK (by omega) (by omega) ?_ | refine F7 (by omega) ?_ | refine FN (by omega) (by omega) ?_ | refine FE (by omega) ?_ | refine CI (by omega) rfl rfl ?_ | refine DI (by omega) ?_ | refine FQ (by omega) ?_ | refine C1 (by omega) (by decide) rfl ?_ | refine BV (by omega) rfl ?_ | refine HN (by first | exact EA _ | exact DT _ | exact DV _ | exact EC _ | rfl) (by omega) ?_ | refine IH (by omega) ?_ | refine AM (fun _=> ?_) (fun _=> ?_) | refine IT rfl rfl (fun _=> ?_) (fun _=> ?_) | refine II rfl rfl (fun _=> ?_) (fun _=> ?_) | refine GD (fun _=> ?_) (fun _=> ?_) | refine GG (fun _=> ?_) (fun _=> ?_) | refine IK (fun _=> ?_) (fun _=> ?_) | refine IN (fun _=> ?_) (fun _=> ?_) | refine ET (fun _=> ?_) (fun _=> ?_) | refine H9 (fun _=> ?_) (fun _=> ?_) | refine H6 (fun _=> ?_) (fun _=> ?_) | refine C6 ?_ | simp only [A4,BA,AV,AW,AY,AQ,A9,A7,AZ,A8,A5,BD,A6,BB,EK,EP,FI,FK,FJ,FH,FG,B2,CB,CE,CC,CA,B9])
  exact hR hlt trivial
 ·exact h
theorem Z9 {o:Op5} {K:J2} (h:K [I o.kind,I o.a,I o.b,I o.c, .string o.site] []):cl2 ⟨Try.prog,w0⟩ 21 JA.sg [I o.kind,I o.a,I o.b,I o.c, .string o.site] [] K:=
 JA.cl2 h
theorem QI {l:List Op5} {K:J2} (hl:(l.length:Int)<2^40) (h:K [] [tR tP l]):cl2 ⟨Try.prog,w0⟩ 7 EN.sg [] [tR tP l] K:=by
 refine EN.cl2 ?_
 unfold EN.txt
 simp only [A4,BA,AV,AW,AY,AQ,A9,A7,AZ,A8,A5,BD,A6,BB,EK,EP,FI,FK,FJ,FH,FG,B2,CB,CE,CC,CA,B9]
 refine oX (by omega) ?_
 refine BZ (fun i=>[iv i]) (fun i=>[tR tP (l.take i++List.replicate (l.length-i) (⟨0,0,0,0,⟨#[]⟩⟩:Op5))]) l.length (fun _=>True) rfl ?_ trivial (fun R i hi hP hR=> ?_)
 ·rw [BF];exact congrArg (fun x=>[x]) ((dZ (f:=tP) l.length (⟨0,0,0,0,⟨#[]⟩⟩:Op5)).trans (by simp))
 have hln:(l.take i++List.replicate (l.length-i) (⟨0,0,0,0,⟨#[]⟩⟩:Op5)).length=l.length:=by simp;omega
 simp only [A4,BA,AV,AW,AY,AQ,A9,A7,AZ,A8,A5,BD,A6,BB,EK,EP,FI,FK,FJ,FH,FG,B2,CB,CE,CC,CA,B9]
 refine AN (AM (fun hlt=> ?_) fun hge=> ?_)
 ·have hlt:i<l.length:=by omega
  replace hR:=hR hlt trivial
  rw [V1 hlt] at hR
  refine AO hlt (CI hlt rfl rfl ?_)
  refine Z9 (o:=l[i]) ?_
  rw [hln]
  refine AO hlt (iV (by rw [hln];exact hlt) (y:=l[i]) rfl (AT (by omega) ?_))
  exact hR
 ·have:i=l.length:=by omega
  subst this
  simpa using h
theorem UU {k:Int} {l:List Op5} {K:J2} (hl:(l.length:Int)<2^60) (hk:0≤k) (hb:k+szL JQ l<2^60) (h:K [I (k+szL JQ l)] [tR tP (mkL TP JQ k l)]):cl2 ⟨Try.prog,w0⟩ 13 EW.sg [I k] [tR tP l] K:=by
 refine EW.cl2 ?_
 unfold EW.txt
 refine BZ (fun i=>[I (k+szL JQ (l.take i)),iv i]) (fun i=>[tR tP (mid TP JQ k l i)]) l.length (fun _=>True) (by simp [szL,bG]) (by rw [mH]) trivial (fun R i hi hP hR=> ?_)
 simp only [A4,BA,AV,AW,AY,AQ,A9,A7,AZ,A8,A5,BD,A6,BB,EK,EP,FI,FK,FJ,FH,FG,B2,CB,CE,CC,CA,B9]
 rw [O1 hi]
 refine AN (AM (fun hlt=> ?_) fun hge=> ?_)
 ·have hlt:i<l.length:=by omega
  have hs:=YE RW hlt
  have h0:=HU RW (l.take i)
  replace hR:=hR hlt trivial
  rw [OM hlt, ←X4 hlt] at hR
  have hln:=O1 (mk:=TP) (sz:=JQ) (k:=k) hi
  have hg:=Y8 (mk:=TP) (sz:=JQ) (k:=k) hlt (by omega)
  have hsm:=XB (f:=tP) (cur:=mid TP JQ k l i) (i:=i) (by omega)
  rw [hg] at hsm
  rw [hsm]
  clear hg hsm
  generalize mid TP JQ k l i=cur at hln hR ⊢
  generalize hx:l[i]=o at hR hs ⊢
  generalize szL JQ (l.take i)=q at hR hs h0 ⊢
  have hzz:k+(q+JQ o)=k+q+1+1+1+1+1:=by unfold JQ;omega
  have hz0:JQ o=5:=rfl
  rw [hzz] at hR
  repeat' (first | simp only [YN] | refine YV (by omega) ?_ | refine hD (by omega) ?_ | refine gR (by omega) ?_ | refine iM (by omega) ?_ | refine XP (by omega) ?_ | refine BK.cl2 (KI (by omega) ?_) | refine BL (fun h=>h rfl) ?_ | refine CH ?_ | refine LZ ?_ | refine KK ?_ | refine IF ?_ | refine IU ?_ | refine IS ?_ | refine GB ?_ | refine GL ?_ | refine GI ?_ | refine GN ?_ | refine H5 (by first | with_reducible assumption | omega) ?_ | refine H7 (by first | with_reducible assumption | omega) ?_ | refine FT (by first | with_reducible assumption | omega) ?_ | refine FM (by first | with_reducible assumption | omega) ?_ | refine H8 (by with_reducible assumption) ?_ | refine H4 (by with_reducible assumption) ?_ | refine FP (by with_reducible assumption) ?_ | refine FU (by with_reducible assumption) ?_ | refine EY ?_ | refine IL ?_ | refine IE ?_ | refine EE ?_ | refine IM (by first | with_reducible assumption | omega) ?_ | refine IJ (by first | with_reducible assumption | omega) ?_ | refine IV (by first | with_reducible assumption | omega) ?_ | refine IG (by first | with_reducible assumption | omega) ?_ | refine GX (by with_reducible assumption) ?_ | refine EB (by with_reducible assumption) ?_ | refine DS (by with_reducible assumption) ?_ | refine LL (by with_reducible assumption) rfl ?_ | refine LJ (by with_reducible assumption) rfl ?_ | refine LH (by first | with_reducible assumption | omega) rfl ?_ | refine LK (by first | with_reducible assumption | omega) rfl ?_ | refine JM rfl ?_ | refine JL rfl ?_ | refine EO ?_ | refine CT ?_ | refine B4 (by first | with_reducible assumption | omega) ?_ | refine BL (by first | with_reducible assumption | omega) ?_ | refine DN (by with_reducible assumption) ?_ | refine CJ (by with_reducible assumption) ?_ | refine AN ?_ | refine DM ?_ | refine DK ?_ | refine DL ?_ | refine AU ?_ | refine CG ?_ | refine BX ?_ | refine CV ?_ | refine DX ?_ | refine AT (by omega) ?_ | refine CN ⟨by omega,by omega⟩ ?_ | refine DE ⟨by omega,by omega⟩ ?_ | refine CQ ?_ | refine CP ?_ | refine D6 (by omega) (by omega) ?_ | refine D7 (by omega) ⟨by omega,by omega⟩ (by omega) ?_ | refine B7 ?_ | refine CU ?_ | refine B3 (by first | omega | (simp only [ByteArray.size_append];omega)) ?_ | refine D9 ?_ | refine DR ?_ | refine AO (by omega) ?_ | refine IW (by omega) (by omega) ?_ | refine ldI (by omega) ?_ | refine ldS (by omega) ?_ | refine GM (by omega) ?_ | refine F8 (by omega) ?_ | refine FC (by omega) ?_ | refine FF (by omega) ?_ | refine GO (by omega) ?_ | refine GF (by omega) (by decide) rfl ?_ | refine D8 (by omega) rfl ?_ | refine F9 (by omega) (by decide) rfl ?_ | refine DZ (by omega) rfl ?_ | refine ER (by omega) (by decide) rfl ?_ | refine C5 (by omega) rfl ?_ | refine FO (by omega) (by decide) rfl ?_ | refine C4 (by omega) rfl ?_ | refine GH (by omega) (by decide) rfl ?_ | refine DU (by omega) rfl ?_ | refine F6 (by omega) (by omega) ?_ | refine GJ (by omega) ?_ | refine GK (by omega) (by omega) ?_ | refine F7 (by omega) ?_ | refine FN (by omega) (by omega) ?_ | refine FE (by omega) ?_ | refine CI (by omega) rfl rfl ?_ | refine DI (by omega) ?_ | refine FQ (by omega) ?_ | refine C1 (by omega) (by decide) rfl ?_ | refine BV (by omega) rfl ?_ | refine HN (by first | exact EA _ | exact DT _ | exact DV _ | exact EC _ | rfl) (by omega) ?_ | refine IH (by omega) ?_ | refine AM (fun _=> ?_) (fun _=> ?_) | refine IT rfl rfl (fun _=> ?_) (fun _=> ?_) | refine II rfl rfl (fun _=> ?_) (fun _=> ?_) | refine GD (fun _=> ?_) (fun _=> ?_) | refine GG (fun _=> ?_) (fun _=> ?_) | refine IK (fun _=> ?_) (fun _=> ?_) | refine IN (fun _=> ?_) (fun _=> ?_) | refine ET (fun _=> ?_) (fun _=> ?_) | refine H9 (fun _=> ?_) (fun _=> ?_) | refine H6 (fun _=> ?_) (fun _=> ?_) | refine C6 ?_ | simp only [A4,BA,AV,AW,AY,AQ,A9,A7,AZ,A8,A5,BD,A6,BB,EK,EP,FI,FK,FJ,FH,FG,B2,CB,CE,CC,CA,B9])
  exact hR
 ·have:i=l.length:=by omega
  subst this
  rw [List.take_length,W7];exact h
end Go.Proofs.Ythapfcoajahegaa.P
namespace Go.Proofs.Ythapfcoajahegaa.P
open Go Go.Proofs.Ythapfcoajahegaa Go.Proofs.Ythapfcoajahegaa.Eng
set_option maxHeartbeats 4000000
set_option linter.unusedVariables false
set_option linter.unusedSimpArgs false
attribute [local irreducible] prP gP gE gF AH ixW ldc ldg ldl stc stg scW mkW apW AP cl2 AX C9 BW
variable {w0:World}
def cN (k:Int) (o:An):An:=⟨k,k+1,marks (k+1+1) o.freed.length⟩
def NZ (o:An):Int:=2+(o.freed.length:Int)
theorem UB (o:An):0≤NZ o:=by unfold NZ;omega
theorem bE {cur:List An} {i:Nat} {y:An} {v:Int} {K:List T→Prop} (hi:i<cur.length) (h:K (tR tA (cur.set i {y with code:=v}))):stc (tR tA (cur.set i y)) [] (AB (iv i)*3) (I v) K:=T3 hi rfl rfl h
theorem c7 {cur:List An} {i:Nat} {y:An} {v:Int} {K:List T→Prop} (hi:i<cur.length) (h:K (tR tA (cur.set i {y with val:=v}))):stc (tR tA (cur.set i y)) [] (AB (iv i)*3+1) (I v) K:=IX hi (by decide) rfl rfl h
theorem X0 {cur:List An} {i:Nat} {y:An} {m:List Int} (hi:i<cur.length):GU (tR tA (cur.set i y)) [AB (iv i)*3+2] (tI m)=tR tA (cur.set i {y with freed:=m}):=iX hi (by decide) rfl rfl
theorem XW {cur:List An} {i:Nat} {y:An} (hi:i<cur.length):LM (tR tA (cur.set i y)) [AB (iv i)*3+2]=tI y.freed:=mK hi (by decide) rfl
theorem SO {l:List An} {i:Nat} (hi:i<l.length):LM (tR tA l) [AB (iv i)*3+2]=tI l[i].freed:=Y6 hi (by decide) rfl
theorem SS {o:An} {K:J2} (h_freed:(o.freed.length:Int)<2^62) (h:K [.bool true] []):cl2 ⟨Try.prog,w0⟩ 26 DW.sg [I o.code,I o.val,I o.code,I o.val] [tI o.freed,tI o.freed] K:=by
 refine DW.cl2 ?_
 unfold DW.txt
 repeat' (first | refine VV h_freed ?_ | refine BL (fun h=>h rfl) ?_ | refine CH ?_ | refine LZ ?_ | refine KK ?_ | refine IF ?_ | refine IU ?_ | refine IS ?_ | refine GB ?_ | refine GL ?_ | refine GI ?_ | refine GN ?_ | refine H5 (by first | with_reducible assumption | omega) ?_ | refine H7 (by first | with_reducible assumption | omega) ?_ | refine FT (by first | with_reducible assumption | omega) ?_ | refine FM (by first | with_reducible assumption | omega) ?_ | refine H8 (by with_reducible assumption) ?_ | refine H4 (by with_reducible assumption) ?_ | refine FP (by with_reducible assumption) ?_ | refine FU (by with_reducible assumption) ?_ | refine EY ?_ | refine IL ?_ | refine IE ?_ | refine EE ?_ | refine IM (by first | with_reducible assumption | omega) ?_ | refine IJ (by first | with_reducible assumption | omega) ?_ | refine IV (by first | with_reducible assumption | omega) ?_ | refine IG (by first | with_reducible assumption | omega) ?_ | refine GX (by with_reducible assumption) ?_ | refine EB (by with_reducible assumption) ?_ | refine DS (by with_reducible assumption) ?_ | refine LL (by with_reducible assumption) rfl ?_ | refine LJ (by with_reducible assumption) rfl ?_ | refine LH (by first | with_reducible assumption | omega) rfl ?_ | refine LK (by first | with_reducible assumption | omega) rfl ?_ | refine JM rfl ?_ | refine JL rfl ?_ | refine EO ?_ | refine CT ?_ | refine B4 (by first | with_reducible assumption | omega) ?_ | refine BL (by first | with_reducible assumption | omega) ?_ | refine DN (by with_reducible assumption) ?_ | refine CJ (by with_reducible assumption) ?_ | refine AN ?_ | refine DM ?_ | refine DK ?_ | refine DL ?_ | refine AU ?_ | refine CG ?_ | refine BX ?_ | refine CV ?_ | refine DX ?_ | refine AT (by omega) ?_ | refine CN ⟨by omega,by omega⟩ ?_ | refine DE ⟨by omega,by omega⟩ ?_ | refine CQ ?_ | refine CP ?_ | refine D6 (by omega) (by omega) ?_ | refine D7 (by omega) ⟨by omega,by omega⟩ (by omega) ?_ | refine B7 ?_ | refine CU ?_ | refine B3 (by first | omega | (simp only [ByteArray.size_append];omega)) ?_ | refine D9 ?_ | refine DR ?_ | refine AO (by omega) ?_ | refine IW (by omega) (by omega) ?_ | refine ldI (by omega) ?_ | refine ldS (by omega) ?_ | refine GM (by omega) ?_ | refine F8 (by omega) ?_ | refine FC (by omega) ?_ | refine FF (by omega) ?_ | refine GO (by omega) ?_ | refine GF (by omega) (by decide) rfl ?_ | refine D8 (by omega) rfl ?_ | refine F9 (by omega) (by decide) rfl ?_ | refine DZ (by omega) rfl ?_ | refine ER (by omega) (by decide) rfl ?_ | refine C5 (by omega) rfl ?_ | refine FO (by omega) (by decide) rfl ?_ | refine C4 (by omega) rfl ?_ | refine GH (by omega) (by decide) rfl ?_ | refine DU (by omega) rfl ?_ | refine F6 (by omega) (by omega) ?_ | refine GJ (by omega) ?_ | refine GK (by omega) (by omega) ?_ | refine F7 (by omega) ?_ | refine FN (by omega) (by omega) ?_ | refine FE (by omega) ?_ | refine CI (by omega) rfl rfl ?_ | refine DI (by omega) ?_ | refine FQ (by omega) ?_ | refine C1 (by omega) (by decide) rfl ?_ | refine BV (by omega) rfl ?_ | refine HN (by first | exact EA _ | exact DT _ | exact DV _ | exact EC _ | rfl) (by omega) ?_ | refine IH (by omega) ?_ | refine AM (fun _=> ?_) (fun _=> ?_) | refine IT rfl rfl (fun _=> ?_) (fun _=> ?_) | refine II rfl rfl (fun _=> ?_) (fun _=> ?_) | refine GD (fun _=> ?_) (fun _=> ?_) | refine GG (fun _=> ?_) (fun _=> ?_) | refine IK (fun _=> ?_) (fun _=> ?_) | refine IN (fun _=> ?_) (fun _=> ?_) | refine ET (fun _=> ?_) (fun _=> ?_) | refine H9 (fun _=> ?_) (fun _=> ?_) | refine H6 (fun _=> ?_) (fun _=> ?_) | refine C6 ?_ | simp only [A4,BA,AV,AW,AY,AQ,A9,A7,AZ,A8,A5,BD,A6,BB,EK,EP,FI,FK,FJ,FH,FG,B2,CB,CE,CC,CA,B9])
 exact h
theorem RM {l:List An} {K:J2} (hl:(l.length:Int)<2^62) (hs: ∀o∈l,(o.freed.length:Int)<2^62) (h:K [.bool true] []):cl2 ⟨Try.prog,w0⟩ 12 DC.sg [] [tR tA l,tR tA l] K:=by
 refine DC.cl2 ?_
 unfold DC.txt
 simp only [A4,BA,AV,AW,AY,AQ,A9,A7,AZ,A8,A5,BD,A6,BB,EK,EP,FI,FK,FJ,FH,FG,B2,CB,CE,CC,CA,B9]
 refine CG (BL (fun h=>h rfl) ?_)
 refine BZ (fun i=>[iv i]) (fun _=>[]) l.length (fun _=>True) rfl rfl trivial (fun R i hi hP hR=> ?_)
 refine AN (AM (fun hlt=> ?_) fun hge=> ?_)
 ·have hlt:i<l.length:=by omega
  refine AO hlt (CI hlt rfl rfl (AO hlt (CI hlt rfl rfl ?_)))
  rw [SO hlt]
  refine SS (hs _ (List.getElem_mem hlt)) ?_
  repeat' (first | refine CH ?_ | refine LZ ?_ | refine KK ?_ | refine IF ?_ | refine IU ?_ | refine IS ?_ | refine GB ?_ | refine GL ?_ | refine GI ?_ | refine GN ?_ | refine H5 (by first | with_reducible assumption | omega) ?_ | refine H7 (by first | with_reducible assumption | omega) ?_ | refine FT (by first | with_reducible assumption | omega) ?_ | refine FM (by first | with_reducible assumption | omega) ?_ | refine H8 (by with_reducible assumption) ?_ | refine H4 (by with_reducible assumption) ?_ | refine FP (by with_reducible assumption) ?_ | refine FU (by with_reducible assumption) ?_ | refine EY ?_ | refine IL ?_ | refine IE ?_ | refine EE ?_ | refine IM (by first | with_reducible assumption | omega) ?_ | refine IJ (by first | with_reducible assumption | omega) ?_ | refine IV (by first | with_reducible assumption | omega) ?_ | refine IG (by first | with_reducible assumption | omega) ?_ | refine GX (by with_reducible assumption) ?_ | refine EB (by with_reducible assumption) ?_ | refine DS (by with_reducible assumption) ?_ | refine LL (by with_reducible assumption) rfl ?_ | refine LJ (by with_reducible assumption) rfl ?_ | refine LH (by first | with_reducible assumption | omega) rfl ?_ | refine LK (by first | with_reducible assumption | omega) rfl ?_ | refine JM rfl ?_ | refine JL rfl ?_ | refine EO ?_ | refine CT ?_ | refine B4 (by first | with_reducible assumption | omega) ?_ | refine BL (by first | with_reducible assumption | omega) ?_ | refine DN (by with_reducible assumption) ?_ | refine CJ (by with_reducible assumption) ?_ | refine AN ?_ | refine DM ?_ | refine DK ?_ | refine DL ?_ | refine AU ?_ | refine CG ?_ | refine BX ?_ | refine CV ?_ | refine DX ?_ | refine AT (by omega) ?_ | refine CN ⟨by omega,by omega⟩ ?_ | refine DE ⟨by omega,by omega⟩ ?_ | refine CQ ?_ | refine CP ?_ | refine D6 (by omega) (by omega) ?_ | refine D7 (by omega) ⟨by omega,by omega⟩ (by omega) ?_ | refine B7 ?_ | refine CU ?_ | refine B3 (by first | omega | (simp only [ByteArray.size_append];omega)) ?_ | refine D9 ?_ | refine DR ?_ | refine AO (by omega) ?_ | refine IW (by omega) (by omega) ?_ | refine ldI (by omega) ?_ | refine ldS (by omega) ?_ | refine GM (by omega) ?_ | refine F8 (by omega) ?_ | refine FC (by omega) ?_ | refine FF (by omega) ?_ | refine GO (by omega) ?_ | refine GF (by omega) (by decide) rfl ?_ | refine D8 (by omega) rfl ?_ | refine F9 (by omega) (by decide) rfl ?_ | refine DZ (by omega) rfl ?_ | refine ER (by omega) (by decide) rfl ?_ | refine C5 (by omega) rfl ?_ | refine FO (by omega) (by decide) rfl ?_ | refine C4 (by omega) rfl ?_ | refine GH (by omega) (by decide) rfl ?_ | refine DU (by omega) rfl ?_ | refine F6 (by omega) (by omega) ?_ | refine GJ (by omega) ?_ | refine GK (by omega) (by omega) ?_ | refine F7 (by omega) ?_ | refine FN (by omega) (by omega) ?_ | refine FE (by omega) ?_ | refine CI (by omega) rfl rfl ?_ | refine DI (by omega) ?_ | refine FQ (by omega) ?_ | refine C1 (by omega) (by decide) rfl ?_ | refine BV (by omega) rfl ?_ | refine HN (by first | exact EA _ | exact DT _ | exact DV _ | exact EC _ | rfl) (by omega) ?_ | refine IH (by omega) ?_ | refine AM (fun _=> ?_) (fun _=> ?_) | refine IT rfl rfl (fun _=> ?_) (fun _=> ?_) | refine II rfl rfl (fun _=> ?_) (fun _=> ?_) | refine GD (fun _=> ?_) (fun _=> ?_) | refine GG (fun _=> ?_) (fun _=> ?_) | refine IK (fun _=> ?_) (fun _=> ?_) | refine IN (fun _=> ?_) (fun _=> ?_) | refine ET (fun _=> ?_) (fun _=> ?_) | refine H9 (fun _=> ?_) (fun _=> ?_) | refine H6 (fun _=> ?_) (fun _=> ?_) | refine C6 ?_ | simp only [A4,BA,AV,AW,AY,AQ,A9,A7,AZ,A8,A5,BD,A6,BB,EK,EP,FI,FK,FJ,FH,FG,B2,CB,CE,CC,CA,B9])
  exact hR hlt trivial
 ·exact h
theorem SY {o:An} {K:J2} (h_freed:(o.freed.length:Int)<2^40) (h:K [I o.code,I o.val] [tI o.freed]):cl2 ⟨Try.prog,w0⟩ 22 EZ.sg [I o.code,I o.val] [tI o.freed] K:=
 EZ.cl2 (VP h_freed h)
theorem MQ {l:List An} {K:J2} (hl:(l.length:Int)<2^40) (hs: ∀o∈l,(o.freed.length:Int)<2^40) (h:K [] [tR tA l]):cl2 ⟨Try.prog,w0⟩ 8 BT.sg [] [tR tA l] K:=by
 refine BT.cl2 ?_
 unfold BT.txt
 simp only [A4,BA,AV,AW,AY,AQ,A9,A7,AZ,A8,A5,BD,A6,BB,EK,EP,FI,FK,FJ,FH,FG,B2,CB,CE,CC,CA,B9]
 refine oX (by omega) ?_
 refine BZ (fun i=>[iv i]) (fun i=>[tR tA (l.take i++List.replicate (l.length-i) (⟨0,0,[]⟩:An))]) l.length (fun _=>True) rfl ?_ trivial (fun R i hi hP hR=> ?_)
 ·rw [BF];exact congrArg (fun x=>[x]) ((dZ (f:=tA) l.length (⟨0,0,[]⟩:An)).trans (by simp))
 have hln:(l.take i++List.replicate (l.length-i) (⟨0,0,[]⟩:An)).length=l.length:=by simp;omega
 simp only [A4,BA,AV,AW,AY,AQ,A9,A7,AZ,A8,A5,BD,A6,BB,EK,EP,FI,FK,FJ,FH,FG,B2,CB,CE,CC,CA,B9]
 refine AN (AM (fun hlt=> ?_) fun hge=> ?_)
 ·have hlt:i<l.length:=by omega
  replace hR:=hR hlt trivial
  rw [V1 hlt] at hR
  refine AO hlt (CI hlt rfl rfl ?_)
  rw [SO hlt]
  refine SY (o:=l[i]) (hs _ (List.getElem_mem hlt)) ?_
  rw [hln]
  refine AO hlt (iV (by rw [hln];exact hlt) (y:=l[i]) rfl (AT (by omega) ?_))
  exact hR
 ·have:i=l.length:=by omega
  subst this
  simpa using h
theorem QE {k:Int} {l:List An} {K:J2} (hl:(l.length:Int)<2^60) (hk:0≤k) (hb:k+szL NZ l<2^60) (h:K [I (k+szL NZ l)] [tR tA (mkL cN NZ k l)]):cl2 ⟨Try.prog,w0⟩ 14 CF.sg [I k] [tR tA l] K:=by
 refine CF.cl2 ?_
 unfold CF.txt
 refine BZ (fun i=>[I (k+szL NZ (l.take i)),iv i]) (fun i=>[tR tA (mid cN NZ k l i)]) l.length (fun _=>True) (by simp [szL,bG]) (by rw [mH]) trivial (fun R i hi hP hR=> ?_)
 simp only [A4,BA,AV,AW,AY,AQ,A9,A7,AZ,A8,A5,BD,A6,BB,EK,EP,FI,FK,FJ,FH,FG,B2,CB,CE,CC,CA,B9]
 rw [O1 hi]
 refine AN (AM (fun hlt=> ?_) fun hge=> ?_)
 ·have hlt:i<l.length:=by omega
  have hs:=YE UB hlt
  have h0:=HU UB (l.take i)
  replace hR:=hR hlt trivial
  rw [OM hlt, ←X4 hlt] at hR
  have hln:=O1 (mk:=cN) (sz:=NZ) (k:=k) hi
  have hg:=Y8 (mk:=cN) (sz:=NZ) (k:=k) hlt (by omega)
  have hsm:=XB (f:=tA) (cur:=mid cN NZ k l i) (i:=i) (by omega)
  rw [hg] at hsm
  rw [hsm]
  clear hg hsm
  generalize mid cN NZ k l i=cur at hln hR ⊢
  generalize hx:l[i]=o at hR hs ⊢
  generalize szL NZ (l.take i)=q at hR hs h0 ⊢
  have hzz:k+(q+NZ o)=k+q+1+1+o.freed.length:=by unfold NZ;omega
  have hz0:NZ o=2+(o.freed.length:Int):=rfl
  rw [hzz] at hR
  repeat' (first | simp only [YN] | refine bE (by omega) ?_ | refine c7 (by omega) ?_ | refine nW (by omega) (by decide) rfl ?_ | refine SP (by omega) ⟨by omega,by omega⟩ ?_ | simp only [XW (cur:=cur) (i:=i) (by omega),X0 (cur:=cur) (i:=i) (by omega)] | refine BL (fun h=>h rfl) ?_ | refine CH ?_ | refine LZ ?_ | refine KK ?_ | refine IF ?_ | refine IU ?_ | refine IS ?_ | refine GB ?_ | refine GL ?_ | refine GI ?_ | refine GN ?_ | refine H5 (by first | with_reducible assumption | omega) ?_ | refine H7 (by first | with_reducible assumption | omega) ?_ | refine FT (by first | with_reducible assumption | omega) ?_ | refine FM (by first | with_reducible assumption | omega) ?_ | refine H8 (by with_reducible assumption) ?_ | refine H4 (by with_reducible assumption) ?_ | refine FP (by with_reducible assumption) ?_ | refine FU (by with_reducible assumption) ?_ | refine EY ?_ | refine IL ?_ | refine IE ?_ | refine EE ?_ | refine IM (by first | with_reducible assumption | omega) ?_ | refine IJ (by first | with_reducible assumption | omega) ?_ | refine IV (by first | with_reducible assumption | omega) ?_ | refine IG (by first | with_reducible assumption | omega) ?_ | refine GX (by with_reducible assumption) ?_ | refine EB (by with_reducible assumption) ?_ | refine DS (by with_reducible assumption) ?_ | refine LL (by with_reducible assumption) rfl ?_ | refine LJ (by with_reducible assumption) rfl ?_ | refine LH (by first | with_reducible assumption | omega) rfl ?_ | refine LK (by first | with_reducible assumption | omega) rfl ?_ | refine JM rfl ?_ | refine JL rfl ?_ | refine EO ?_ | refine CT ?_ | refine B4 (by first | with_reducible assumption | omega) ?_ | refine BL (by first | with_reducible assumption | omega) ?_ | refine DN (by with_reducible assumption) ?_ | refine CJ (by with_reducible assumption) ?_ | refine AN ?_ | refine DM ?_ | refine DK ?_ | refine DL ?_ | refine AU ?_ | refine CG ?_ | refine BX ?_ | refine CV ?_ | refine DX ?_ | refine AT (by omega) ?_ | refine CN ⟨by omega,by omega⟩ ?_ | refine DE ⟨by omega,by omega⟩ ?_ | refine CQ ?_ | refine CP ?_ | refine D6 (by omega) (by omega) ?_ | refine D7 (by omega) ⟨by omega,by omega⟩ (by omega) ?_ | refine B7 ?_ | refine CU ?_ | refine B3 (by first | omega | (simp only [ByteArray.size_append];omega)) ?_ | refine D9 ?_ | refine DR ?_ | refine AO (by omega) ?_ | refine IW (by omega) (by omega) ?_ | refine ldI (by omega) ?_ | refine ldS (by omega) ?_ | refine GM (by omega) ?_ | refine F8 (by omega) ?_ | refine FC (by omega) ?_ | refine FF (by omega) ?_ | refine GO (by omega) ?_ | refine GF (by omega) (by decide) rfl ?_ | refine D8 (by omega) rfl ?_ | refine F9 (by omega) (by decide) rfl ?_ | refine DZ (by omega) rfl ?_ | refine ER (by omega) (by decide) rfl ?_ | refine C5 (by omega) rfl ?_ | refine FO (by omega) (by decide) rfl ?_ | refine C4 (by omega) rfl ?_ | refine GH (by omega) (by decide) rfl ?_ | refine DU (by omega) rfl ?_ | refine F6 (by omega) (by omega) ?_ | refine GJ (by omega) ?_ | refine GK (by omega) (by omega) ?_ | refine F7 (by omega) ?_ | refine FN (by omega) (by omega) ?_ | refine FE (by omega) ?_ | refine CI (by omega) rfl rfl ?_ | refine DI (by omega) ?_ | refine FQ (by omega) ?_ | refine C1 (by omega) (by decide) rfl ?_ | refine BV (by omega) rfl ?_ | refine HN (by first | exact EA _ | exact DT _ | exact DV _ | exact EC _ | rfl) (by omega) ?_ | refine IH (by omega) ?_ | refine AM (fun _=> ?_) (fun _=> ?_) | refine IT rfl rfl (fun _=> ?_) (fun _=> ?_) | refine II rfl rfl (fun _=> ?_) (fun _=> ?_) | refine GD (fun _=> ?_) (fun _=> ?_) | refine GG (fun _=> ?_) (fun _=> ?_) | refine IK (fun _=> ?_) (fun _=> ?_) | refine IN (fun _=> ?_) (fun _=> ?_) | refine ET (fun _=> ?_) (fun _=> ?_) | refine H9 (fun _=> ?_) (fun _=> ?_) | refine H6 (fun _=> ?_) (fun _=> ?_) | refine C6 ?_ | simp only [A4,BA,AV,AW,AY,AQ,A9,A7,AZ,A8,A5,BD,A6,BB,EK,EP,FI,FK,FJ,FH,FG,B2,CB,CE,CC,CA,B9])
  exact hR
 ·have:i=l.length:=by omega
  subst this
  rw [List.take_length,W7];exact h
end Go.Proofs.Ythapfcoajahegaa.P
namespace Go.Proofs.Ythapfcoajahegaa.P
open Go Go.Proofs.Ythapfcoajahegaa Go.Proofs.Ythapfcoajahegaa.Eng
set_option maxHeartbeats 4000000
set_option linter.unusedVariables false
set_option linter.unusedSimpArgs false
attribute [local irreducible] prP gP gE gF AH ixW ldc ldg ldl stc stg scW mkW apW AP cl2 AX C9 BW
variable {w0:World}
def bZ (o:Nd):Int:=5+(o.field.length:Int)
theorem lP (o:Nd):0≤bZ o:=by unfold bZ;omega
end Go.Proofs.Ythapfcoajahegaa.P
