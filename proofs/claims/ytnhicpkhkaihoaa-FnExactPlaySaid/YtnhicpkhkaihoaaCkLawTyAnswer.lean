/- A part of the proof. -/
import Derived.Test.YtnhicpkhkaihoaaCkLawTyOp
namespace Go.Proofs.Ytnhicpkhkaihoaa.P
open Go Go.Proofs.Ytnhicpkhkaihoaa Go.Proofs.Ytnhicpkhkaihoaa.Eng
set_option maxHeartbeats 4000000
set_option linter.unusedVariables false
set_option linter.unusedSimpArgs false
attribute [local irreducible] prP gP gE gF AU ixW ldc ldg ldl stc stg scW mkW apW BD cl2 BW FR DK
variable {w0:World}
def WB (k:Int) (o:An):An:=⟨k,k+1,marks (k+1+1) o.freed.length⟩
def JD (o:An):Int:=2+(o.freed.length:Int)
theorem PN (o:An):0≤JD o:=by unfold JD;omega
theorem dY {cur:List An} {i:Nat} {y:An} {v:Int} {K:List T→Prop} (hi:i<cur.length) (h:K (tR tA (cur.set i {y with code:=v}))):stc (tR tA (cur.set i y)) [] (AA (iv i)*3) (I v) K:=SR hi rfl rfl h
theorem gJ {cur:List An} {i:Nat} {y:An} {v:Int} {K:List T→Prop} (hi:i<cur.length) (h:K (tR tA (cur.set i {y with val:=v}))):stc (tR tA (cur.set i y)) [] (AA (iv i)*3+1) (I v) K:=IH hi (by decide) rfl rfl h
theorem bO {cur:List An} {i:Nat} {y:An} {m:List Int} (hi:i<cur.length):HE (tR tA (cur.set i y)) [AA (iv i)*3+2] (tI m)=tR tA (cur.set i {y with freed:=m}):=cP hi (by decide) rfl rfl
theorem bB {cur:List An} {i:Nat} {y:An} (hi:i<cur.length):FI (tR tA (cur.set i y)) [AA (iv i)*3+2]=tI y.freed:=cO hi (by decide) rfl
theorem TY {l:List An} {i:Nat} (hi:i<l.length):FI (tR tA l) [AA (iv i)*3+2]=tI l[i].freed:=UU hi (by decide) rfl
theorem UN {o:An} {K:J2} (h_freed:(o.freed.length:Int)<2^62) (h:K [.bool true] []):cl2 ⟨Try.prog,w0⟩ 37 EN.sg [I o.code,I o.val,I o.code,I o.val] [tI o.freed,tI o.freed] K:=by
 refine EN.cl2 ?_
 unfold EN.txt
 repeat' (first | refine M6 h_freed ?_ | refine B2 (fun h=>h rfl) ?_ | refine BN ?_ | refine B6 ?_ | refine BY ?_)
 exact h
theorem SX {l:List An} {K:J2} (hl:(l.length:Int)<2^62) (hs: ∀o∈l,(o.freed.length:Int)<2^62) (h:K [.bool true] []):cl2 ⟨Try.prog,w0⟩ 31 C9.sg [] [tR tA l,tR tA l] K:=by
 refine C9.cl2 ?_
 unfold C9.txt
 simp only [AI,AM,AP,AR,AT,AD,AH,AL,AK,AO,AQ,AJ,AS,AN,BE,BJ,BH,BK,BI,BG,BF,A1,AZ,A5,A7,A6,A4]
 refine B6 (B2 (fun h=>h rfl) ?_)
 refine BA (fun i=>[iv i]) (fun _=>[]) l.length (fun _=>True) rfl rfl trivial (fun R i hi hP hR=> ?_)
 refine AV (AW (fun hlt=> ?_) fun hge=> ?_)
 ·have hlt:i<l.length:=by omega
  refine AG hlt (KR hlt rfl rfl (AG hlt (KR hlt rfl rfl ?_)))
  rw [TY hlt]
  refine UN (hs _ (List.getElem_mem hlt)) ?_
  repeat' (first | refine BN ?_ | refine A8 (by omega) ?_ | refine BY ?_)
  exact hR hlt trivial
 ·exact h
theorem Q1 {k:Int} {l:List An} {K:J2} (hl:(l.length:Int)<2^60) (hk:0≤k) (hb:k+szL JD l<2^60) (h:K [I (k+szL JD l)] [tR tA (mkL WB JD k l)]):cl2 ⟨Try.prog,w0⟩ 46 DC.sg [I k] [tR tA l] K:=by
 refine DC.cl2 ?_
 unfold DC.txt
 refine BA (fun i=>[I (k+szL JD (l.take i)),iv i]) (fun i=>[tR tA (mid WB JD k l i)]) l.length (fun _=>True) (by simp [szL,O1]) (by rw [gY]) trivial (fun R i hi hP hR=> ?_)
 simp only [AI,AM,AP,AR,AT,AD,AH,AL,AK,AO,AQ,AJ,AS,AN,BE,BJ,BH,BK,BI,BG,BF,A1,AZ,A5,A7,A6,A4]
 rw [MQ hi]
 refine AV (AW (fun hlt=> ?_) fun hge=> ?_)
 ·have hlt:i<l.length:=by omega
  have hs:=RK PN hlt
  have h0:=HH PN (l.take i)
  replace hR:=hR hlt trivial
  rw [KH hlt, ←U7 hlt] at hR
  have hln:=MQ (mk:=WB) (sz:=JD) (k:=k) hi
  have hg:=UT (mk:=WB) (sz:=JD) (k:=k) hlt (by omega)
  have hsm:=RW (f:=tA) (cur:=mid WB JD k l i) (i:=i) (by omega)
  rw [hg] at hsm
  rw [hsm]
  clear hg hsm
  generalize mid WB JD k l i=cur at hln hR ⊢
  generalize hx:l[i]=o at hR hs ⊢
  generalize szL JD (l.take i)=q at hR hs h0 ⊢
  have hzz:k+(q+JD o)=k+q+1+1+o.freed.length:=by unfold JD;omega
  have hz0:JD o=2+(o.freed.length:Int):=rfl
  rw [hzz] at hR
  repeat' (first | simp only [U2] | refine dY (by omega) ?_ | refine gJ (by omega) ?_ | refine P0 (by omega) (by decide) rfl ?_ | refine KU (by omega) ⟨by omega,by omega⟩ ?_ | simp only [bB (cur:=cur) (i:=i) (by omega),bO (cur:=cur) (i:=i) (by omega)] | refine A8 (by omega) ?_ | refine C1 ⟨by omega,by omega⟩ ?_ | refine AG (by omega) ?_ | simp only [AI,AM,AP,AR,AT,AD,AH,AL,AK,AO,AQ,AJ,AS,AN,BE,BJ,BH,BK,BI,BG,BF,A1,AZ,A5,A7,A6,A4])
  exact hR
 ·have:i=l.length:=by omega
  subst this
  rw [List.take_length,U8];exact h
theorem RH {k:Int} {l:List An} {K:J2} (hl:(l.length:Int)<2^60) (hk:0≤k) (hb:k+szL JD l<2^60) (h:K [I (k+szL JD l)] []):cl2 ⟨Try.prog,w0⟩ 48 CX.sg [I k] [tR tA (mkL WB JD k l)] K:=by
 refine CX.cl2 ?_
 unfold CX.txt
 simp only [AI,AM,AP,AR,AT,AD,AH,AL,AK,AO,AQ,AJ,AS,AN,BE,BJ,BH,BK,BI,BG,BF,A1,AZ,A5,A7,A6,A4]
 rw [JJ]
 refine BA (fun i=>[I (k+szL JD (l.take i)),iv i]) (fun _=>[]) l.length (fun _=>True) (by simp [szL,O1]) rfl trivial (fun R i hi hP hR=> ?_)
 refine AV (AW (fun hlt=> ?_) fun hge=> ?_)
 ·have hlt:i<l.length:=by omega
  have hs:=RK PN hlt
  have h0:=HH PN (l.take i)
  replace hR:=hR hlt trivial
  rw [KH hlt] at hR
  have hln:=JJ (mk:=WB) (sz:=JD) l k
  have hM:=Z0 (mk:=WB) (sz:=JD) (k:=k) hlt (by omega)
  have hf:=TY (l:=mkL WB JD k l) (i:=i) (by omega)
  rw [hM] at hf
  rw [show (WB (k+szL JD (l.take i)) l[i]).freed=marks (k+szL JD (l.take i)+1+1) l[i].freed.length from rfl] at hf
  generalize hx:l[i]=o at hR hs hM hf ⊢
  generalize szL JD (l.take i)=q at hR hs h0 hM hf ⊢
  have hzz:k+(q+JD o)=k+q+1+1+o.freed.length:=by unfold JD;omega
  have hz0:JD o=2+(o.freed.length:Int):=rfl
  rw [hzz] at hR
  repeat' (first | rw [hf] | refine M8 (by omega) (by decide) (by rw [hM];rfl) ?_ | refine KT (by omega) ⟨by omega,by omega⟩ ?_ | refine N4 (by omega) (by rw [hM];rfl) ?_ | refine N0 (by omega) (by decide) (by rw [hM];rfl) ?_ | refine B2 (fun h=>h rfl) ?_ | refine B2 (by first | with_reducible assumption | omega) ?_ | refine AV ?_ | refine B6 ?_ | refine A8 (by omega) ?_ | refine C1 ⟨by omega,by omega⟩ ?_ | refine AG (by omega) ?_ | simp only [AI,AM,AP,AR,AT,AD,AH,AL,AK,AO,AQ,AJ,AS,AN,BE,BJ,BH,BK,BI,BG,BF,A1,AZ,A5,A7,A6,A4])
  exact hR
 ·have:i=l.length:=by omega
  subst this
  rw [List.take_length];exact h
end Go.Proofs.Ytnhicpkhkaihoaa.P
