/- A part of the proof. -/
import Derived.Test.YtnhicpkhkaihoaaGreatRpLawTyWeak
namespace Go.Proofs.YtnhicpkhkaihoaaGreat.P
open Go Go.Proofs.YtnhicpkhkaihoaaGreat Go.Proofs.YtnhicpkhkaihoaaGreat.Eng
set_option maxHeartbeats 4000000
set_option linter.unusedVariables false
set_option linter.unusedSimpArgs false
attribute [local irreducible] prP gP gE gF AG ixW ldc ldg ldl stc stg scW mkW apW BA cl2 B6 G8 C3
variable {w0:World}
def SF (k:Int) (o:Op5):Op5:=⟨k,k+1,k+1+1,k+1+1+1,mt (k+1+1+1+1)⟩
def GZ (o:Op5):Int:=5
theorem QO (o:Op5):0≤GZ o:=by unfold GZ;omega
theorem fR {cur:List Op5} {i:Nat} {y:Op5} {v:Int} {K:List T→Prop} (hi:i<cur.length) (h:K (tR tP (cur.set i {y with kind:=v}))):stc (tR tP (cur.set i y)) [] (AA (iv i)*5) (I v) K:=VU hi rfl rfl h
theorem sF {cur:List Op5} {i:Nat} {y:Op5} {v:Int} {K:List T→Prop} (hi:i<cur.length) (h:K (tR tP (cur.set i {y with a:=v}))):stc (tR tP (cur.set i y)) [] (AA (iv i)*5+1) (I v) K:=KZ hi (by decide) rfl rfl h
theorem rG {cur:List Op5} {i:Nat} {y:Op5} {v:Int} {K:List T→Prop} (hi:i<cur.length) (h:K (tR tP (cur.set i {y with b:=v}))):stc (tR tP (cur.set i y)) [] (AA (iv i)*5+2) (I v) K:=KZ hi (by decide) rfl rfl h
theorem rL {cur:List Op5} {i:Nat} {y:Op5} {v:Int} {K:List T→Prop} (hi:i<cur.length) (h:K (tR tP (cur.set i {y with c:=v}))):stc (tR tP (cur.set i y)) [] (AA (iv i)*5+3) (I v) K:=KZ hi (by decide) rfl rfl h
theorem jB {cur:List Op5} {i:Nat} {y:Op5} {v:ByteArray} {K:List T→Prop} (hi:i<cur.length) (h:K (tR tP (cur.set i {y with site:=v}))):stc (tR tP (cur.set i y)) [] (AA (iv i)*5+4) (.string v) K:=KZ hi (by decide) rfl rfl h
theorem lZ {o:Op5} {K:J2} (h:K [.bool true] []):cl2 ⟨Tryz.prog,w0⟩ 63 K5.sg [I o.kind,I o.a,I o.b,I o.c, .string o.site,I o.kind,I o.a,I o.b,I o.c, .string o.site] [] K:=by
 refine K5.cl2 ?_
 unfold K5.txt
 repeat' (first | refine BV (fun h=>h rfl) ?_ | refine B2 ?_ | refine MH ?_)
 exact h
theorem jH {l:List Op5} {K:J2} (hl:(l.length:Int)<2^62) (h:K [.bool true] []):cl2 ⟨Tryz.prog,w0⟩ 25 JY.sg [] [tR tP l,tR tP l] K:=by
 refine JY.cl2 ?_
 unfold JY.txt
 simp only [AM,AT,AL,AK,AN,AE,AI,AV,AU,AS,AP,AQ,AO,AR,BD,BE,BH,BG,BJ,BL,BF,AZ,A6,A1,AY,A5,A4]
 refine B2 (BV (fun h=>h rfl) ?_)
 refine A7 (fun i=>[iv i]) (fun _=>[]) l.length (fun _=>True) rfl rfl trivial (fun R i hi hP hR=> ?_)
 refine AJ (AH (fun hlt=> ?_) fun hge=> ?_)
 ·have hlt:i<l.length:=by omega
  refine AW hlt (NU hlt rfl rfl (AW hlt (NU hlt rfl rfl ?_)))
  refine lZ ?_
  repeat' (first | refine BQ ?_ | refine AX (by omega) ?_ | refine BN ?_)
  exact hR hlt trivial
 ·exact h
theorem aU {k:Int} {l:List Op5} {K:J2} (hl:(l.length:Int)<2^60) (hk:0≤k) (hb:k+szL GZ l<2^60) (h:K [I (k+szL GZ l)] [tR tP (mkL SF GZ k l)]):cl2 ⟨Tryz.prog,w0⟩ 26 HT.sg [I k] [tR tP l] K:=by
 refine HT.cl2 ?_
 unfold HT.txt
 refine A7 (fun i=>[I (k+szL GZ (l.take i)),iv i]) (fun i=>[tR tP (mid SF GZ k l i)]) l.length (fun _=>True) (by simp [szL,RV]) (by rw [qE]) trivial (fun R i hi hP hR=> ?_)
 simp only [AM,AT,AL,AK,AN,AE,AI,AV,AU,AS,AP,AQ,AO,AR,BD,BE,BH,BG,BJ,BL,BF,AZ,A6,A1,AY,A5,A4]
 rw [PT hi]
 refine AJ (AH (fun hlt=> ?_) fun hge=> ?_)
 ·have hlt:i<l.length:=by omega
  have hs:=S8 QO hlt
  have h0:=JF QO (l.take i)
  replace hR:=hR hlt trivial
  rw [MI hlt, ←ZG hlt] at hR
  have hln:=PT (mk:=SF) (sz:=GZ) (k:=k) hi
  have hg:=ZK (mk:=SF) (sz:=GZ) (k:=k) hlt (by omega)
  have hsm:=WA (f:=tP) (cur:=mid SF GZ k l i) (i:=i) (by omega)
  rw [hg] at hsm
  rw [hsm]
  clear hg hsm
  generalize mid SF GZ k l i=cur at hln hR ⊢
  generalize hx:l[i]=o at hR hs ⊢
  generalize szL GZ (l.take i)=q at hR hs h0 ⊢
  have hzz:k+(q+GZ o)=k+q+1+1+1+1+1:=by unfold GZ;omega
  have hz0:GZ o=5:=rfl
  rw [hzz] at hR
  repeat' (first | simp only [Y8] | refine fR (by omega) ?_ | refine sF (by omega) ?_ | refine rG (by omega) ?_ | refine rL (by omega) ?_ | refine jB (by omega) ?_ | refine CD.cl2 (LK (by omega) ?_) | refine AX (by omega) ?_ | refine BX ⟨by omega,by omega⟩ ?_ | refine AW (by omega) ?_)
  exact hR
 ·have:i=l.length:=by omega
  subst this
  rw [List.take_length,ZC];exact h
theorem ZY {k:Int} {l:List Op5} {K:J2} (hl:(l.length:Int)<2^60) (hk:0≤k) (hb:k+szL GZ l<2^60) (h:K [I (k+szL GZ l)] []):cl2 ⟨Tryz.prog,w0⟩ 69 HS.sg [I k] [tR tP (mkL SF GZ k l)] K:=by
 refine HS.cl2 ?_
 unfold HS.txt
 simp only [AM,AT,AL,AK,AN,AE,AI,AV,AU,AS,AP,AQ,AO,AR,BD,BE,BH,BG,BJ,BL,BF,AZ,A6,A1,AY,A5,A4]
 rw [K4]
 refine A7 (fun i=>[I (k+szL GZ (l.take i)),iv i]) (fun _=>[]) l.length (fun _=>True) (by simp [szL,RV]) rfl trivial (fun R i hi hP hR=> ?_)
 refine AJ (AH (fun hlt=> ?_) fun hge=> ?_)
 ·have hlt:i<l.length:=by omega
  have hs:=S8 QO hlt
  have h0:=JF QO (l.take i)
  replace hR:=hR hlt trivial
  rw [MI hlt] at hR
  have hln:=K4 (mk:=SF) (sz:=GZ) l k
  have hM:=ZE (mk:=SF) (sz:=GZ) (k:=k) hlt (by omega)
  generalize hx:l[i]=o at hR hs hM ⊢
  generalize szL GZ (l.take i)=q at hR hs h0 hM ⊢
  have hzz:k+(q+GZ o)=k+q+1+1+1+1+1:=by unfold GZ;omega
  have hz0:GZ o=5:=rfl
  rw [hzz] at hR
  repeat' (first | refine CD.cl2 (LK (by omega) ?_) | refine PQ (by omega) (by rw [hM];rfl) ?_ | refine P2 (by omega) (by decide) (by rw [hM];rfl) ?_ | refine BV (fun h=>h rfl) ?_ | refine B2 ?_ | refine AX (by omega) ?_ | refine BX ⟨by omega,by omega⟩ ?_ | refine MH ?_ | refine AW (by omega) ?_)
  exact hR
 ·have:i=l.length:=by omega
  subst this
  rw [List.take_length];exact h
end Go.Proofs.YtnhicpkhkaihoaaGreat.P
