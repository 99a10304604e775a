/- A part of the proof. -/
import Derived.Test.YtnhicpkhkaihoaaGreatRcLawGen0
namespace Go.Proofs.YtnhicpkhkaihoaaGreat.P
open Go Go.Proofs.YtnhicpkhkaihoaaGreat Go.Proofs.YtnhicpkhkaihoaaGreat.Eng
set_option maxHeartbeats 4000000
set_option linter.unusedVariables false
set_option linter.unusedSimpArgs false
attribute [local irreducible] prP gP gE gF AG ixW ldc ldg ldl stc stg scW mkW apW BB cl2 BY FT DG
variable {w0:World}
def MJ (k:Int) (o:AZ):AZ:=⟨decide ((k) % 3=0),k+1,k+1+1,k+1+1+1,k+1+1+1+1,k+1+1+1+1+1,marks (k+1+1+1+1+1+1) o.field.length,decide ((k+1+1+1+1+1+1+o.field.length) % 3=0)⟩
def CU (o:AZ):Int:=7+(o.field.length:Int)
theorem NU (o:AZ):0≤CU o:=by unfold CU;omega
theorem aW {cur:List AZ} {i:Nat} {y:AZ} {v:Bool} {K:List T→Prop} (hi:i<cur.length) (h:K (tR tO (cur.set i {y with live:=v}))):stc (tR tO (cur.set i y)) [] (AA (iv i)*8) (.bool v) K:=UL hi rfl rfl h
theorem dJ {cur:List AZ} {i:Nat} {y:AZ} {v:Int} {K:List T→Prop} (hi:i<cur.length) (h:K (tR tO (cur.set i {y with gen:=v}))):stc (tR tO (cur.set i y)) [] (AA (iv i)*8+1) (I v) K:=J3 hi (by decide) rfl rfl h
theorem aX {cur:List AZ} {i:Nat} {y:AZ} {v:Int} {K:List T→Prop} (hi:i<cur.length) (h:K (tR tO (cur.set i {y with site:=v}))):stc (tR tO (cur.set i y)) [] (AA (iv i)*8+2) (I v) K:=J3 hi (by decide) rfl rfl h
theorem ZN {cur:List AZ} {i:Nat} {y:AZ} {v:Int} {K:List T→Prop} (hi:i<cur.length) (h:K (tR tO (cur.set i {y with holds:=v}))):stc (tR tO (cur.set i y)) [] (AA (iv i)*8+3) (I v) K:=J3 hi (by decide) rfl rfl h
theorem YC {cur:List AZ} {i:Nat} {y:AZ} {v:Int} {K:List T→Prop} (hi:i<cur.length) (h:K (tR tO (cur.set i {y with roots:=v}))):stc (tR tO (cur.set i y)) [] (AA (iv i)*8+4) (I v) K:=J3 hi (by decide) rfl rfl h
theorem HD {cur:List AZ} {i:Nat} {y:AZ} {v:Int} {K:List T→Prop} (hi:i<cur.length) (h:K (tR tO (cur.set i {y with count:=v}))):stc (tR tO (cur.set i y)) [] (AA (iv i)*8+5) (I v) K:=J3 hi (by decide) rfl rfl h
theorem ZJ {cur:List AZ} {i:Nat} {y:AZ} {m:List Int} (hi:i<cur.length):IJ (tR tO (cur.set i y)) [AA (iv i)*8+6] (tI m)=tR tO (cur.set i {y with field:=m}):=gX hi (by decide) rfl rfl
theorem NV {cur:List AZ} {i:Nat} {y:AZ} (hi:i<cur.length):FE (tR tO (cur.set i y)) [AA (iv i)*8+6]=tI y.field:=jU hi (by decide) rfl
theorem S1 {l:List AZ} {i:Nat} (hi:i<l.length):FE (tR tO l) [AA (iv i)*8+6]=tI l[i].field:=T8 hi (by decide) rfl
theorem MR {cur:List AZ} {i:Nat} {y:AZ} {v:Bool} {K:List T→Prop} (hi:i<cur.length) (h:K (tR tO (cur.set i {y with purple:=v}))):stc (tR tO (cur.set i y)) [] (AA (iv i)*8+7) (.bool v) K:=J3 hi (by decide) rfl rfl h
theorem dW {o:AZ} {K:J2} (h_field:(o.field.length:Int)<2^62) (h:K [.bool true] []):cl2 ⟨Tryz.prog,w0⟩ 164 IY.sg [.bool o.live,I o.gen,I o.site,I o.holds,I o.roots,I o.count, .bool o.purple, .bool o.live,I o.gen,I o.site,I o.holds,I o.roots,I o.count, .bool o.purple] [tI o.field,tI o.field] K:=by
 refine IY.cl2 ?_
 unfold IY.txt
 repeat' (first | refine O0 h_field ?_ | refine BZ (fun h=>h rfl) ?_ | refine BO ?_ | refine B5 ?_ | refine CM ?_ | refine BP ?_)
 exact h
theorem bE {l:List AZ} {K:J2} (hl:(l.length:Int)<2^62) (hs: ∀o∈l,(o.field.length:Int)<2^62) (h:K [.bool true] []):cl2 ⟨Tryz.prog,w0⟩ 109 HT.sg [] [tR tO l,tR tO l] K:=by
 refine HT.cl2 ?_
 unfold HT.txt
 simp only [AK,AQ,AN,AP,AS,AE,AI,AU,AL,AV,AT,AM,AR,AO,BF,BM,BL,BI,BK,BJ,BG,A7,A4,A5,A8,A6,A9]
 refine B5 (BZ (fun h=>h rfl) ?_)
 refine AY (fun i=>[iv i]) (fun _=>[]) l.length (fun _=>True) rfl rfl trivial (fun R i hi hP hR=> ?_)
 refine AJ (AW (fun hlt=> ?_) fun hge=> ?_)
 ·have hlt:i<l.length:=by omega
  refine AH hlt (LS hlt rfl rfl (AH hlt (LS hlt rfl rfl ?_)))
  rw [S1 hlt]
  refine dW (hs _ (List.getElem_mem hlt)) ?_
  repeat' (first | refine BO ?_ | refine AX (by omega) ?_ | refine BP ?_)
  exact hR hlt trivial
 ·exact h
theorem W9 {k:Int} {l:List AZ} {K:J2} (hl:(l.length:Int)<2^60) (hk:0≤k) (hb:k+szL CU l<2^60) (h:K [I (k+szL CU l)] [tR tO (mkL MJ CU k l)]):cl2 ⟨Tryz.prog,w0⟩ 114 FO.sg [I k] [tR tO l] K:=by
 refine FO.cl2 ?_
 unfold FO.txt
 refine AY (fun i=>[I (k+szL CU (l.take i)),iv i]) (fun i=>[tR tO (mid MJ CU k l i)]) l.length (fun _=>True) (by simp [szL,QY]) (by rw [nY]) trivial (fun R i hi hP hR=> ?_)
 simp only [AK,AQ,AN,AP,AS,AE,AI,AU,AL,AV,AT,AM,AR,AO,BF,BM,BL,BI,BK,BJ,BG,A7,A4,A5,A8,A6,A9]
 rw [N9 hi]
 refine AJ (AW (fun hlt=> ?_) fun hge=> ?_)
 ·have hlt:i<l.length:=by omega
  have hs:=TO NU hlt
  have h0:=I1 NU (l.take i)
  replace hR:=hR hlt trivial
  rw [L6 hlt, ←XN hlt] at hR
  have hln:=N9 (mk:=MJ) (sz:=CU) (k:=k) hi
  have hg:=XQ (mk:=MJ) (sz:=CU) (k:=k) hlt (by omega)
  have hsm:=UU (f:=tO) (cur:=mid MJ CU k l i) (i:=i) (by omega)
  rw [hg] at hsm
  rw [hsm]
  clear hg hsm
  generalize mid MJ CU k l i=cur at hln hR ⊢
  generalize hx:l[i]=o at hR hs ⊢
  generalize szL CU (l.take i)=q at hR hs h0 ⊢
  have hzz:k+(q+CU o)=k+q+1+1+1+1+1+1+o.field.length+1:=by unfold CU;omega
  have hz0:CU o=7+(o.field.length:Int):=rfl
  rw [hzz] at hR
  repeat' (first | simp only [XV] | refine aW (by omega) ?_ | refine dJ (by omega) ?_ | refine aX (by omega) ?_ | refine ZN (by omega) ?_ | refine YC (by omega) ?_ | refine HD (by omega) ?_ | refine MR (by omega) ?_ | refine R9 (by omega) (by decide) rfl ?_ | refine MP (by omega) ⟨by omega,by omega⟩ ?_ | simp only [NV (cur:=cur) (i:=i) (by omega),ZJ (cur:=cur) (i:=i) (by omega)] | refine BW ?_ | refine AX (by omega) ?_ | refine CC ⟨by omega,by omega⟩ ?_ | refine LF (by omega) (by omega) ?_ | refine AH (by omega) ?_ | simp only [AK,AQ,AN,AP,AS,AE,AI,AU,AL,AV,AT,AM,AR,AO,BF,BM,BL,BI,BK,BJ,BG,A7,A4,A5,A8,A6,A9])
  exact hR
 ·have:i=l.length:=by omega
  subst this
  rw [List.take_length,XW];exact h
theorem XE {k:Int} {l:List AZ} {K:J2} (hl:(l.length:Int)<2^60) (hk:0≤k) (hb:k+szL CU l<2^60) (h:K [I (k+szL CU l)] []):cl2 ⟨Tryz.prog,w0⟩ 118 FQ.sg [I k] [tR tO (mkL MJ CU k l)] K:=by
 refine FQ.cl2 ?_
 unfold FQ.txt
 simp only [AK,AQ,AN,AP,AS,AE,AI,AU,AL,AV,AT,AM,AR,AO,BF,BM,BL,BI,BK,BJ,BG,A7,A4,A5,A8,A6,A9]
 rw [LB]
 refine AY (fun i=>[I (k+szL CU (l.take i)),iv i]) (fun _=>[]) l.length (fun _=>True) (by simp [szL,QY]) rfl trivial (fun R i hi hP hR=> ?_)
 refine AJ (AW (fun hlt=> ?_) fun hge=> ?_)
 ·have hlt:i<l.length:=by omega
  have hs:=TO NU hlt
  have h0:=I1 NU (l.take i)
  replace hR:=hR hlt trivial
  rw [L6 hlt] at hR
  have hln:=LB (mk:=MJ) (sz:=CU) l k
  have hM:=fD (mk:=MJ) (sz:=CU) (k:=k) hlt (by omega)
  have hf:=S1 (l:=mkL MJ CU k l) (i:=i) (by omega)
  rw [hM] at hf
  rw [show (MJ (k+szL CU (l.take i)) l[i]).field=marks (k+szL CU (l.take i)+1+1+1+1+1+1) l[i].field.length from rfl] at hf
  generalize hx:l[i]=o at hR hs hM hf ⊢
  generalize szL CU (l.take i)=q at hR hs h0 hM hf ⊢
  have hzz:k+(q+CU o)=k+q+1+1+1+1+1+1+o.field.length+1:=by unfold CU;omega
  have hz0:CU o=7+(o.field.length:Int):=rfl
  rw [hzz] at hR
  repeat' (first | rw [hf] | refine OW (by omega) (by decide) (by rw [hM];rfl) ?_ | refine MQ (by omega) ⟨by omega,by omega⟩ ?_ | refine QC (by omega) (by rw [hM];rfl) ?_ | refine QD (by omega) (by decide) (by rw [hM];rfl) ?_ | refine BZ (fun h=>h rfl) ?_ | refine BZ (by first | with_reducible assumption | omega) ?_ | refine AJ ?_ | refine BW ?_ | refine B5 ?_ | refine CM ?_ | refine AX (by omega) ?_ | refine CC ⟨by omega,by omega⟩ ?_ | refine LF (by omega) (by omega) ?_ | refine AH (by omega) ?_)
  exact hR
 ·have:i=l.length:=by omega
  subst this
  rw [List.take_length];exact h
end Go.Proofs.YtnhicpkhkaihoaaGreat.P
