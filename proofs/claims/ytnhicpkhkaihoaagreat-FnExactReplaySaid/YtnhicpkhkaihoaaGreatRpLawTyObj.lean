/- A part of the proof. -/
import Derived.Test.YtnhicpkhkaihoaaGreatRpLawGen0
namespace Go.Proofs.YtnhicpkhkaihoaaGreat.P
open Go Go.Proofs.YtnhicpkhkaihoaaGreat Go.Proofs.YtnhicpkhkaihoaaGreat.Eng
set_option maxHeartbeats 4000000
set_option linter.unusedVariables false
set_option linter.unusedSimpArgs false
attribute [local irreducible] prP gP gE gF AG ixW ldc ldg ldl stc stg scW mkW apW BA cl2 B6 G8 C3
variable {w0:World}
def NR (k:Int) (o:A8):A8:=⟨decide ((k) % 3=0),k+1,k+1+1,k+1+1+1,k+1+1+1+1,k+1+1+1+1+1,marks (k+1+1+1+1+1+1) o.field.length,decide ((k+1+1+1+1+1+1+o.field.length) % 3=0)⟩
def C9 (o:A8):Int:=7+(o.field.length:Int)
theorem OD (o:A8):0≤C9 o:=by unfold C9;omega
theorem dE {cur:List A8} {i:Nat} {y:A8} {v:Bool} {K:List T→Prop} (hi:i<cur.length) (h:K (tR tO (cur.set i {y with live:=v}))):stc (tR tO (cur.set i y)) [] (AA (iv i)*8) (.bool v) K:=VU hi rfl rfl h
theorem iQ {cur:List A8} {i:Nat} {y:A8} {v:Int} {K:List T→Prop} (hi:i<cur.length) (h:K (tR tO (cur.set i {y with gen:=v}))):stc (tR tO (cur.set i y)) [] (AA (iv i)*8+1) (I v) K:=KZ hi (by decide) rfl rfl h
theorem dB {cur:List A8} {i:Nat} {y:A8} {v:Int} {K:List T→Prop} (hi:i<cur.length) (h:K (tR tO (cur.set i {y with site:=v}))):stc (tR tO (cur.set i y)) [] (AA (iv i)*8+2) (I v) K:=KZ hi (by decide) rfl rfl h
theorem bD {cur:List A8} {i:Nat} {y:A8} {v:Int} {K:List T→Prop} (hi:i<cur.length) (h:K (tR tO (cur.set i {y with holds:=v}))):stc (tR tO (cur.set i y)) [] (AA (iv i)*8+3) (I v) K:=KZ hi (by decide) rfl rfl h
theorem ZP {cur:List A8} {i:Nat} {y:A8} {v:Int} {K:List T→Prop} (hi:i<cur.length) (h:K (tR tO (cur.set i {y with roots:=v}))):stc (tR tO (cur.set i y)) [] (AA (iv i)*8+4) (I v) K:=KZ hi (by decide) rfl rfl h
theorem IA {cur:List A8} {i:Nat} {y:A8} {v:Int} {K:List T→Prop} (hi:i<cur.length) (h:K (tR tO (cur.set i {y with count:=v}))):stc (tR tO (cur.set i y)) [] (AA (iv i)*8+5) (I v) K:=KZ hi (by decide) rfl rfl h
theorem cL {cur:List A8} {i:Nat} {y:A8} {m:List Int} (hi:i<cur.length):JT (tR tO (cur.set i y)) [AA (iv i)*8+6] (tI m)=tR tO (cur.set i {y with field:=m}):=lA hi (by decide) rfl rfl
theorem O6 {cur:List A8} {i:Nat} {y:A8} (hi:i<cur.length):F4 (tR tO (cur.set i y)) [AA (iv i)*8+6]=tI y.field:=kO hi (by decide) rfl
theorem UA {l:List A8} {i:Nat} (hi:i<l.length):F4 (tR tO l) [AA (iv i)*8+6]=tI l[i].field:=V3 hi (by decide) rfl
theorem NN {cur:List A8} {i:Nat} {y:A8} {v:Bool} {K:List T→Prop} (hi:i<cur.length) (h:K (tR tO (cur.set i {y with purple:=v}))):stc (tR tO (cur.set i y)) [] (AA (iv i)*8+7) (.bool v) K:=KZ hi (by decide) rfl rfl h
theorem iT {o:A8} {K:J2} (h_field:(o.field.length:Int)<2^62) (h:K [.bool true] []):cl2 ⟨Tryz.prog,w0⟩ 164 KA.sg [.bool o.live,I o.gen,I o.site,I o.holds,I o.roots,I o.count, .bool o.purple, .bool o.live,I o.gen,I o.site,I o.holds,I o.roots,I o.count, .bool o.purple] [tI o.field,tI o.field] K:=by
 refine KA.cl2 ?_
 unfold KA.txt
 repeat' (first | refine P7 h_field ?_ | refine BV (fun h=>h rfl) ?_ | refine BQ ?_ | refine B2 ?_ | refine CF ?_ | refine BN ?_)
 exact h
theorem dZ {l:List A8} {K:J2} (hl:(l.length:Int)<2^62) (hs: ∀o∈l,(o.field.length:Int)<2^62) (h:K [.bool true] []):cl2 ⟨Tryz.prog,w0⟩ 109 IS.sg [] [tR tO l,tR tO l] K:=by
 refine IS.cl2 ?_
 unfold IS.txt
 simp only [AM,AT,AL,AK,AN,AE,AI,AV,AU,AS,AP,AQ,AO,AR,BD,BE,BH,BG,BJ,BL,BF,AZ,A6,A1,AY,A5,A4]
 refine B2 (BV (fun h=>h rfl) ?_)
 refine A7 (fun i=>[iv i]) (fun _=>[]) l.length (fun _=>True) rfl rfl trivial (fun R i hi hP hR=> ?_)
 refine AJ (AH (fun hlt=> ?_) fun hge=> ?_)
 ·have hlt:i<l.length:=by omega
  refine AW hlt (NU hlt rfl rfl (AW hlt (NU hlt rfl rfl ?_)))
  rw [UA hlt]
  refine iT (hs _ (List.getElem_mem hlt)) ?_
  repeat' (first | refine BQ ?_ | refine AX (by omega) ?_ | refine BN ?_)
  exact hR hlt trivial
 ·exact h
theorem YY {k:Int} {l:List A8} {K:J2} (hl:(l.length:Int)<2^60) (hk:0≤k) (hb:k+szL C9 l<2^60) (h:K [I (k+szL C9 l)] [tR tO (mkL NR C9 k l)]):cl2 ⟨Tryz.prog,w0⟩ 114 GF.sg [I k] [tR tO l] K:=by
 refine GF.cl2 ?_
 unfold GF.txt
 refine A7 (fun i=>[I (k+szL C9 (l.take i)),iv i]) (fun i=>[tR tO (mid NR C9 k l i)]) l.length (fun _=>True) (by simp [szL,RV]) (by rw [qE]) trivial (fun R i hi hP hR=> ?_)
 simp only [AM,AT,AL,AK,AN,AE,AI,AV,AU,AS,AP,AQ,AO,AR,BD,BE,BH,BG,BJ,BL,BF,AZ,A6,A1,AY,A5,A4]
 rw [PT hi]
 refine AJ (AH (fun hlt=> ?_) fun hge=> ?_)
 ·have hlt:i<l.length:=by omega
  have hs:=S8 OD hlt
  have h0:=JF OD (l.take i)
  replace hR:=hR hlt trivial
  rw [MI hlt, ←ZG hlt] at hR
  have hln:=PT (mk:=NR) (sz:=C9) (k:=k) hi
  have hg:=ZK (mk:=NR) (sz:=C9) (k:=k) hlt (by omega)
  have hsm:=WA (f:=tO) (cur:=mid NR C9 k l i) (i:=i) (by omega)
  rw [hg] at hsm
  rw [hsm]
  clear hg hsm
  generalize mid NR C9 k l i=cur at hln hR ⊢
  generalize hx:l[i]=o at hR hs ⊢
  generalize szL C9 (l.take i)=q at hR hs h0 ⊢
  have hzz:k+(q+C9 o)=k+q+1+1+1+1+1+1+o.field.length+1:=by unfold C9;omega
  have hz0:C9 o=7+(o.field.length:Int):=rfl
  rw [hzz] at hR
  repeat' (first | simp only [Y8] | refine dE (by omega) ?_ | refine iQ (by omega) ?_ | refine dB (by omega) ?_ | refine bD (by omega) ?_ | refine ZP (by omega) ?_ | refine IA (by omega) ?_ | refine NN (by omega) ?_ | refine TW (by omega) (by decide) rfl ?_ | refine NP (by omega) ⟨by omega,by omega⟩ ?_ | simp only [O6 (cur:=cur) (i:=i) (by omega),cL (cur:=cur) (i:=i) (by omega)] | refine BI ?_ | refine AX (by omega) ?_ | refine BX ⟨by omega,by omega⟩ ?_ | refine J7 (by omega) (by omega) ?_ | refine AW (by omega) ?_ | simp only [AM,AT,AL,AK,AN,AE,AI,AV,AU,AS,AP,AQ,AO,AR,BD,BE,BH,BG,BJ,BL,BF,AZ,A6,A1,AY,A5,A4])
  exact hR
 ·have:i=l.length:=by omega
  subst this
  rw [List.take_length,ZC];exact h
theorem YG {k:Int} {l:List A8} {K:J2} (hl:(l.length:Int)<2^60) (hk:0≤k) (hb:k+szL C9 l<2^60) (h:K [I (k+szL C9 l)] []):cl2 ⟨Tryz.prog,w0⟩ 118 GL.sg [I k] [tR tO (mkL NR C9 k l)] K:=by
 refine GL.cl2 ?_
 unfold GL.txt
 simp only [AM,AT,AL,AK,AN,AE,AI,AV,AU,AS,AP,AQ,AO,AR,BD,BE,BH,BG,BJ,BL,BF,AZ,A6,A1,AY,A5,A4]
 rw [K4]
 refine A7 (fun i=>[I (k+szL C9 (l.take i)),iv i]) (fun _=>[]) l.length (fun _=>True) (by simp [szL,RV]) rfl trivial (fun R i hi hP hR=> ?_)
 refine AJ (AH (fun hlt=> ?_) fun hge=> ?_)
 ·have hlt:i<l.length:=by omega
  have hs:=S8 OD hlt
  have h0:=JF OD (l.take i)
  replace hR:=hR hlt trivial
  rw [MI hlt] at hR
  have hln:=K4 (mk:=NR) (sz:=C9) l k
  have hM:=ZE (mk:=NR) (sz:=C9) (k:=k) hlt (by omega)
  have hf:=UA (l:=mkL NR C9 k l) (i:=i) (by omega)
  rw [hM] at hf
  rw [show (NR (k+szL C9 (l.take i)) l[i]).field=marks (k+szL C9 (l.take i)+1+1+1+1+1+1) l[i].field.length from rfl] at hf
  generalize hx:l[i]=o at hR hs hM hf ⊢
  generalize szL C9 (l.take i)=q at hR hs h0 hM hf ⊢
  have hzz:k+(q+C9 o)=k+q+1+1+1+1+1+1+o.field.length+1:=by unfold C9;omega
  have hz0:C9 o=7+(o.field.length:Int):=rfl
  rw [hzz] at hR
  repeat' (first | rw [hf] | refine P4 (by omega) (by decide) (by rw [hM];rfl) ?_ | refine NO (by omega) ⟨by omega,by omega⟩ ?_ | refine PQ (by omega) (by rw [hM];rfl) ?_ | refine P2 (by omega) (by decide) (by rw [hM];rfl) ?_ | refine BV (fun h=>h rfl) ?_ | refine BV (by first | with_reducible assumption | omega) ?_ | refine AJ ?_ | refine BI ?_ | refine B2 ?_ | refine CF ?_ | refine AX (by omega) ?_ | refine BX ⟨by omega,by omega⟩ ?_ | refine J7 (by omega) (by omega) ?_ | refine AW (by omega) ?_)
  exact hR
 ·have:i=l.length:=by omega
  subst this
  rw [List.take_length];exact h
end Go.Proofs.YtnhicpkhkaihoaaGreat.P
