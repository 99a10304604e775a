/- A part of the proof. -/
import Derived.Test.YtnhicpkhkaihoaaGreatRcLawTyWeak
namespace Go.Proofs.YtnhicpkhkaihoaaGreat.P
open Go Go.Proofs.YtnhicpkhkaihoaaGreat Go.Proofs.YtnhicpkhkaihoaaGreat.Eng
set_option maxHeartbeats 4000000
set_option linter.unusedVariables false
set_option linter.unusedSimpArgs false
attribute [local irreducible] prP gP gE gF AG ixW ldc ldg ldl stc stg scW mkW apW BB cl2 BY FT DG
variable {w0:World}
def bS (k:Int) (o:Op5):Op5:=⟨k,k+1,k+1+1,k+1+1+1,mt (k+1+1+1+1)⟩
def K7 (o:Op5):Int:=5
theorem VY (o:Op5):0≤K7 o:=by unfold K7;omega
theorem fV {cur:List Op5} {i:Nat} {y:Op5} {v:Int} {K:List T→Prop} (hi:i<cur.length) (h:K (tR tP (cur.set i {y with kind:=v}))):stc (tR tP (cur.set i y)) [] (AA (iv i)*5) (I v) K:=UL hi rfl rfl h
theorem oM {cur:List Op5} {i:Nat} {y:Op5} {v:Int} {K:List T→Prop} (hi:i<cur.length) (h:K (tR tP (cur.set i {y with a:=v}))):stc (tR tP (cur.set i y)) [] (AA (iv i)*5+1) (I v) K:=J3 hi (by decide) rfl rfl h
theorem pC {cur:List Op5} {i:Nat} {y:Op5} {v:Int} {K:List T→Prop} (hi:i<cur.length) (h:K (tR tP (cur.set i {y with b:=v}))):stc (tR tP (cur.set i y)) [] (AA (iv i)*5+2) (I v) K:=J3 hi (by decide) rfl rfl h
theorem oP {cur:List Op5} {i:Nat} {y:Op5} {v:Int} {K:List T→Prop} (hi:i<cur.length) (h:K (tR tP (cur.set i {y with c:=v}))):stc (tR tP (cur.set i y)) [] (AA (iv i)*5+3) (I v) K:=J3 hi (by decide) rfl rfl h
theorem fI {cur:List Op5} {i:Nat} {y:Op5} {v:ByteArray} {K:List T→Prop} (hi:i<cur.length) (h:K (tR tP (cur.set i {y with site:=v}))):stc (tR tP (cur.set i y)) [] (AA (iv i)*5+4) (.string v) K:=J3 hi (by decide) rfl rfl h
theorem iH {o:Op5} {K:J2} (h:K [.bool true] []):cl2 ⟨Tryz.prog,w0⟩ 63 J0.sg [I o.kind,I o.a,I o.b,I o.c, .string o.site,I o.kind,I o.a,I o.b,I o.c, .string o.site] [] K:=by
 refine J0.cl2 ?_
 unfold J0.txt
 repeat' (first | refine BZ (fun h=>h rfl) ?_ | refine B5 ?_ | refine jX ?_)
 exact h
theorem fW {l:List Op5} {K:J2} (hl:(l.length:Int)<2^62) (h:K [.bool true] []):cl2 ⟨Tryz.prog,w0⟩ 25 IP.sg [] [tR tP l,tR tP l] K:=by
 refine IP.cl2 ?_
 unfold IP.txt
 simp only [AK,AQ,AN,AP,AS,AE,AI,AU,AL,AV,AT,AM,AR,AO,BF,BM,BL,BI,BK,BJ,BG,A7,A4,A5,A8,A6,A9]
 refine B5 (BZ (fun h=>h rfl) ?_)
 refine AY (fun i=>[iv i]) (fun _=>[]) l.length (fun _=>True) rfl rfl trivial (fun R i hi hP hR=> ?_)
 refine AJ (AW (fun hlt=> ?_) fun hge=> ?_)
 ·have hlt:i<l.length:=by omega
  refine AH hlt (LS hlt rfl rfl (AH hlt (LS hlt rfl rfl ?_)))
  refine iH ?_
  repeat' (first | refine BO ?_ | refine AX (by omega) ?_ | refine BP ?_)
  exact hR hlt trivial
 ·exact h
theorem iD {o:Op5} {K:J2} (h:K [I o.kind,I o.a,I o.b,I o.c, .string o.site] []):cl2 ⟨Tryz.prog,w0⟩ 60 KN.sg [I o.kind,I o.a,I o.b,I o.c, .string o.site] [] K:=
 KN.cl2 h
theorem UI {l:List Op5} {K:J2} (hl:(l.length:Int)<2^40) (h:K [] [tR tP l]):cl2 ⟨Tryz.prog,w0⟩ 23 GI.sg [] [tR tP l] K:=by
 refine GI.cl2 ?_
 unfold GI.txt
 simp only [AK,AQ,AN,AP,AS,AE,AI,AU,AL,AV,AT,AM,AR,AO,BF,BM,BL,BI,BK,BJ,BG,A7,A4,A5,A8,A6,A9]
 refine xB (by omega) ?_
 refine AY (fun i=>[iv i]) (fun i=>[tR tP (l.take i++List.replicate (l.length-i) (⟨0,0,0,0,⟨#[]⟩⟩:Op5))]) l.length (fun _=>True) rfl ?_ trivial (fun R i hi hP hR=> ?_)
 ·rw [A1];exact congrArg (fun x=>[x]) ((XK (f:=tP) l.length (⟨0,0,0,0,⟨#[]⟩⟩:Op5)).trans (by simp))
 have hln:(l.take i++List.replicate (l.length-i) (⟨0,0,0,0,⟨#[]⟩⟩:Op5)).length=l.length:=by simp;omega
 simp only [AK,AQ,AN,AP,AS,AE,AI,AU,AL,AV,AT,AM,AR,AO,BF,BM,BL,BI,BK,BJ,BG,A7,A4,A5,A8,A6,A9]
 refine AJ (AW (fun hlt=> ?_) fun hge=> ?_)
 ·have hlt:i<l.length:=by omega
  replace hR:=hR hlt trivial
  rw [o6 hlt] at hR
  refine AH hlt (LS hlt rfl rfl ?_)
  refine iD (o:=l[i]) ?_
  rw [hln]
  refine AH hlt (MN (by rw [hln];exact hlt) (y:=l[i]) rfl (AX (by omega) ?_))
  exact hR
 ·have:i=l.length:=by omega
  subst this
  simpa using h
theorem YW {k:Int} {l:List Op5} {K:J2} (hl:(l.length:Int)<2^60) (hk:0≤k) (hb:k+szL K7 l<2^60) (h:K [I (k+szL K7 l)] [tR tP (mkL bS K7 k l)]):cl2 ⟨Tryz.prog,w0⟩ 26 GX.sg [I k] [tR tP l] K:=by
 refine GX.cl2 ?_
 unfold GX.txt
 refine AY (fun i=>[I (k+szL K7 (l.take i)),iv i]) (fun i=>[tR tP (mid bS K7 k l i)]) l.length (fun _=>True) (by simp [szL,QY]) (by rw [nY]) trivial (fun R i hi hP hR=> ?_)
 simp only [AK,AQ,AN,AP,AS,AE,AI,AU,AL,AV,AT,AM,AR,AO,BF,BM,BL,BI,BK,BJ,BG,A7,A4,A5,A8,A6,A9]
 rw [N9 hi]
 refine AJ (AW (fun hlt=> ?_) fun hge=> ?_)
 ·have hlt:i<l.length:=by omega
  have hs:=TO VY hlt
  have h0:=I1 VY (l.take i)
  replace hR:=hR hlt trivial
  rw [L6 hlt, ←XN hlt] at hR
  have hln:=N9 (mk:=bS) (sz:=K7) (k:=k) hi
  have hg:=XQ (mk:=bS) (sz:=K7) (k:=k) hlt (by omega)
  have hsm:=UU (f:=tP) (cur:=mid bS K7 k l i) (i:=i) (by omega)
  rw [hg] at hsm
  rw [hsm]
  clear hg hsm
  generalize mid bS K7 k l i=cur at hln hR ⊢
  generalize hx:l[i]=o at hR hs ⊢
  generalize szL K7 (l.take i)=q at hR hs h0 ⊢
  have hzz:k+(q+K7 o)=k+q+1+1+1+1+1:=by unfold K7;omega
  have hz0:K7 o=5:=rfl
  rw [hzz] at hR
  repeat' (first | simp only [XV] | refine fV (by omega) ?_ | refine oM (by omega) ?_ | refine pC (by omega) ?_ | refine oP (by omega) ?_ | refine fI (by omega) ?_ | refine CH.cl2 (MI (by omega) ?_) | refine AX (by omega) ?_ | refine CC ⟨by omega,by omega⟩ ?_ | refine AH (by omega) ?_)
  exact hR
 ·have:i=l.length:=by omega
  subst this
  rw [List.take_length,XW];exact h
end Go.Proofs.YtnhicpkhkaihoaaGreat.P
