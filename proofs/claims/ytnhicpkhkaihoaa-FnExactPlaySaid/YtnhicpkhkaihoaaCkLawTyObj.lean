/- A part of the proof. -/
import Derived.Test.YtnhicpkhkaihoaaCkLawGen0
namespace Go.Proofs.Ytnhicpkhkaihoaa.P
open Go Go.Proofs.Ytnhicpkhkaihoaa Go.Proofs.Ytnhicpkhkaihoaa.Eng
set_option maxHeartbeats 4000000
set_option linter.unusedVariables false
set_option linter.unusedSimpArgs false
attribute [local irreducible] prP gP gE gF AU ixW ldc ldg ldl stc stg scW mkW apW BD cl2 BW FR DK
variable {w0:World}
def KO (k:Int) (o:AX):AX:=⟨decide ((k) % 3=0),k+1,k+1+1,k+1+1+1,k+1+1+1+1,k+1+1+1+1+1,marks (k+1+1+1+1+1+1) o.field.length,decide ((k+1+1+1+1+1+1+o.field.length) % 3=0)⟩
def CN (o:AX):Int:=7+(o.field.length:Int)
theorem K9 (o:AX):0≤CN o:=by unfold CN;omega
theorem YB {cur:List AX} {i:Nat} {y:AX} {v:Bool} {K:List T→Prop} (hi:i<cur.length) (h:K (tR tO (cur.set i {y with live:=v}))):stc (tR tO (cur.set i y)) [] (AA (iv i)*8) (.bool v) K:=SR hi rfl rfl h
theorem Z5 {cur:List AX} {i:Nat} {y:AX} {v:Int} {K:List T→Prop} (hi:i<cur.length) (h:K (tR tO (cur.set i {y with gen:=v}))):stc (tR tO (cur.set i y)) [] (AA (iv i)*8+1) (I v) K:=IH hi (by decide) rfl rfl h
theorem XT {cur:List AX} {i:Nat} {y:AX} {v:Int} {K:List T→Prop} (hi:i<cur.length) (h:K (tR tO (cur.set i {y with site:=v}))):stc (tR tO (cur.set i y)) [] (AA (iv i)*8+2) (I v) K:=IH hi (by decide) rfl rfl h
theorem VB {cur:List AX} {i:Nat} {y:AX} {v:Int} {K:List T→Prop} (hi:i<cur.length) (h:K (tR tO (cur.set i {y with holds:=v}))):stc (tR tO (cur.set i y)) [] (AA (iv i)*8+3) (I v) K:=IH hi (by decide) rfl rfl h
theorem VQ {cur:List AX} {i:Nat} {y:AX} {v:Int} {K:List T→Prop} (hi:i<cur.length) (h:K (tR tO (cur.set i {y with roots:=v}))):stc (tR tO (cur.set i y)) [] (AA (iv i)*8+4) (I v) K:=IH hi (by decide) rfl rfl h
theorem GF {cur:List AX} {i:Nat} {y:AX} {v:Int} {K:List T→Prop} (hi:i<cur.length) (h:K (tR tO (cur.set i {y with count:=v}))):stc (tR tO (cur.set i y)) [] (AA (iv i)*8+5) (I v) K:=IH hi (by decide) rfl rfl h
theorem VX {cur:List AX} {i:Nat} {y:AX} {m:List Int} (hi:i<cur.length):HE (tR tO (cur.set i y)) [AA (iv i)*8+6] (tI m)=tR tO (cur.set i {y with field:=m}):=cP hi (by decide) rfl rfl
theorem LC {cur:List AX} {i:Nat} {y:AX} (hi:i<cur.length):FI (tR tO (cur.set i y)) [AA (iv i)*8+6]=tI y.field:=cO hi (by decide) rfl
theorem QO {l:List AX} {i:Nat} (hi:i<l.length):FI (tR tO l) [AA (iv i)*8+6]=tI l[i].field:=UU hi (by decide) rfl
theorem KP {cur:List AX} {i:Nat} {y:AX} {v:Bool} {K:List T→Prop} (hi:i<cur.length) (h:K (tR tO (cur.set i {y with purple:=v}))):stc (tR tO (cur.set i y)) [] (AA (iv i)*8+7) (.bool v) K:=IH hi (by decide) rfl rfl h
theorem ZX {o:AX} {K:J2} (h_field:(o.field.length:Int)<2^62) (h:K [.bool true] []):cl2 ⟨Try.prog,w0⟩ 158 HG.sg [.bool o.live,I o.gen,I o.site,I o.holds,I o.roots,I o.count, .bool o.purple, .bool o.live,I o.gen,I o.site,I o.holds,I o.roots,I o.count, .bool o.purple] [tI o.field,tI o.field] K:=by
 refine HG.cl2 ?_
 unfold HG.txt
 repeat' (first | refine M6 h_field ?_ | refine B2 (fun h=>h rfl) ?_ | refine BN ?_ | refine B6 ?_ | refine DE ?_ | refine BY ?_)
 exact h
theorem X6 {l:List AX} {K:J2} (hl:(l.length:Int)<2^62) (hs: ∀o∈l,(o.field.length:Int)<2^62) (h:K [.bool true] []):cl2 ⟨Try.prog,w0⟩ 85 GX.sg [] [tR tO l,tR tO l] K:=by
 refine GX.cl2 ?_
 unfold GX.txt
 simp only [AI,AM,AP,AR,AT,AD,AH,AL,AK,AO,AQ,AJ,AS,AN,BE,BJ,BH,BK,BI,BG,BF,A1,AZ,A5,A7,A6,A4]
 refine B6 (B2 (fun h=>h rfl) ?_)
 refine BA (fun i=>[iv i]) (fun _=>[]) l.length (fun _=>True) rfl rfl trivial (fun R i hi hP hR=> ?_)
 refine AV (AW (fun hlt=> ?_) fun hge=> ?_)
 ·have hlt:i<l.length:=by omega
  refine AG hlt (KR hlt rfl rfl (AG hlt (KR hlt rfl rfl ?_)))
  rw [QO hlt]
  refine ZX (hs _ (List.getElem_mem hlt)) ?_
  repeat' (first | refine BN ?_ | refine A8 (by omega) ?_ | refine BY ?_)
  exact hR hlt trivial
 ·exact h
theorem UA {k:Int} {l:List AX} {K:J2} (hl:(l.length:Int)<2^60) (hk:0≤k) (hb:k+szL CN l<2^60) (h:K [I (k+szL CN l)] [tR tO (mkL KO CN k l)]):cl2 ⟨Try.prog,w0⟩ 88 ER.sg [I k] [tR tO l] K:=by
 refine ER.cl2 ?_
 unfold ER.txt
 refine BA (fun i=>[I (k+szL CN (l.take i)),iv i]) (fun i=>[tR tO (mid KO CN k l i)]) l.length (fun _=>True) (by simp [szL,O1]) (by rw [gY]) trivial (fun R i hi hP hR=> ?_)
 simp only [AI,AM,AP,AR,AT,AD,AH,AL,AK,AO,AQ,AJ,AS,AN,BE,BJ,BH,BK,BI,BG,BF,A1,AZ,A5,A7,A6,A4]
 rw [MQ hi]
 refine AV (AW (fun hlt=> ?_) fun hge=> ?_)
 ·have hlt:i<l.length:=by omega
  have hs:=RK K9 hlt
  have h0:=HH K9 (l.take i)
  replace hR:=hR hlt trivial
  rw [KH hlt, ←U7 hlt] at hR
  have hln:=MQ (mk:=KO) (sz:=CN) (k:=k) hi
  have hg:=UT (mk:=KO) (sz:=CN) (k:=k) hlt (by omega)
  have hsm:=RW (f:=tO) (cur:=mid KO CN k l i) (i:=i) (by omega)
  rw [hg] at hsm
  rw [hsm]
  clear hg hsm
  generalize mid KO CN k l i=cur at hln hR ⊢
  generalize hx:l[i]=o at hR hs ⊢
  generalize szL CN (l.take i)=q at hR hs h0 ⊢
  have hzz:k+(q+CN o)=k+q+1+1+1+1+1+1+o.field.length+1:=by unfold CN;omega
  have hz0:CN o=7+(o.field.length:Int):=rfl
  rw [hzz] at hR
  repeat' (first | simp only [U2] | refine YB (by omega) ?_ | refine Z5 (by omega) ?_ | refine XT (by omega) ?_ | refine VB (by omega) ?_ | refine VQ (by omega) ?_ | refine GF (by omega) ?_ | refine KP (by omega) ?_ | refine P0 (by omega) (by decide) rfl ?_ | refine KU (by omega) ⟨by omega,by omega⟩ ?_ | simp only [LC (cur:=cur) (i:=i) (by omega),VX (cur:=cur) (i:=i) (by omega)] | refine BT ?_ | refine A8 (by omega) ?_ | refine C1 ⟨by omega,by omega⟩ ?_ | refine PW (by omega) (by omega) ?_ | refine AG (by omega) ?_ | simp only [AI,AM,AP,AR,AT,AD,AH,AL,AK,AO,AQ,AJ,AS,AN,BE,BJ,BH,BK,BI,BG,BF,A1,AZ,A5,A7,A6,A4])
  exact hR
 ·have:i=l.length:=by omega
  subst this
  rw [List.take_length,U8];exact h
theorem UF {k:Int} {l:List AX} {K:J2} (hl:(l.length:Int)<2^60) (hk:0≤k) (hb:k+szL CN l<2^60) (h:K [I (k+szL CN l)] []):cl2 ⟨Try.prog,w0⟩ 132 FB.sg [I k] [tR tO (mkL KO CN k l)] K:=by
 refine FB.cl2 ?_
 unfold FB.txt
 simp only [AI,AM,AP,AR,AT,AD,AH,AL,AK,AO,AQ,AJ,AS,AN,BE,BJ,BH,BK,BI,BG,BF,A1,AZ,A5,A7,A6,A4]
 rw [JJ]
 refine BA (fun i=>[I (k+szL CN (l.take i)),iv i]) (fun _=>[]) l.length (fun _=>True) (by simp [szL,O1]) rfl trivial (fun R i hi hP hR=> ?_)
 refine AV (AW (fun hlt=> ?_) fun hge=> ?_)
 ·have hlt:i<l.length:=by omega
  have hs:=RK K9 hlt
  have h0:=HH K9 (l.take i)
  replace hR:=hR hlt trivial
  rw [KH hlt] at hR
  have hln:=JJ (mk:=KO) (sz:=CN) l k
  have hM:=Z0 (mk:=KO) (sz:=CN) (k:=k) hlt (by omega)
  have hf:=QO (l:=mkL KO CN k l) (i:=i) (by omega)
  rw [hM] at hf
  rw [show (KO (k+szL CN (l.take i)) l[i]).field=marks (k+szL CN (l.take i)+1+1+1+1+1+1) l[i].field.length from rfl] at hf
  generalize hx:l[i]=o at hR hs hM hf ⊢
  generalize szL CN (l.take i)=q at hR hs h0 hM hf ⊢
  have hzz:k+(q+CN o)=k+q+1+1+1+1+1+1+o.field.length+1:=by unfold CN;omega
  have hz0:CN o=7+(o.field.length:Int):=rfl
  rw [hzz] at hR
  repeat' (first | rw [hf] | refine M8 (by omega) (by decide) (by rw [hM];rfl) ?_ | refine KT (by omega) ⟨by omega,by omega⟩ ?_ | refine N4 (by omega) (by rw [hM];rfl) ?_ | refine N0 (by omega) (by decide) (by rw [hM];rfl) ?_ | refine B2 (fun h=>h rfl) ?_ | refine B2 (by first | with_reducible assumption | omega) ?_ | refine AV ?_ | refine BT ?_ | refine B6 ?_ | refine DE ?_ | refine A8 (by omega) ?_ | refine C1 ⟨by omega,by omega⟩ ?_ | refine PW (by omega) (by omega) ?_ | refine AG (by omega) ?_)
  exact hR
 ·have:i=l.length:=by omega
  subst this
  rw [List.take_length];exact h
end Go.Proofs.Ytnhicpkhkaihoaa.P
