/- A part of the proof. -/
import Derived.Test.YtnhicpkhkaihoaaGreatRpLawTyOp
namespace Go.Proofs.YtnhicpkhkaihoaaGreat.P
open Go Go.Proofs.YtnhicpkhkaihoaaGreat Go.Proofs.YtnhicpkhkaihoaaGreat.Eng
set_option maxHeartbeats 4000000
set_option linter.unusedVariables false
set_option linter.unusedSimpArgs false
attribute [local irreducible] prP gP gE gF AG ixW ldc ldg ldl stc stg scW mkW apW BA cl2 B6 G8 C3
variable {w0:World}
def WR (k:Int) (o:An):An:=⟨k,k+1,marks (k+1+1) o.freed.length⟩
def KI (o:An):Int:=2+(o.freed.length:Int)
theorem S0 (o:An):0≤KI o:=by unfold KI;omega
theorem jR {cur:List An} {i:Nat} {y:An} {v:Int} {K:List T→Prop} (hi:i<cur.length) (h:K (tR tA (cur.set i {y with code:=v}))):stc (tR tA (cur.set i y)) [] (AA (iv i)*3) (I v) K:=VU hi rfl rfl h
theorem nE {cur:List An} {i:Nat} {y:An} {v:Int} {K:List T→Prop} (hi:i<cur.length) (h:K (tR tA (cur.set i {y with val:=v}))):stc (tR tA (cur.set i y)) [] (AA (iv i)*3+1) (I v) K:=KZ hi (by decide) rfl rfl h
theorem hC {cur:List An} {i:Nat} {y:An} {m:List Int} (hi:i<cur.length):JT (tR tA (cur.set i y)) [AA (iv i)*3+2] (tI m)=tR tA (cur.set i {y with freed:=m}):=lA hi (by decide) rfl rfl
theorem hS {cur:List An} {i:Nat} {y:An} (hi:i<cur.length):F4 (tR tA (cur.set i y)) [AA (iv i)*3+2]=tI y.freed:=kO hi (by decide) rfl
theorem X3 {l:List An} {i:Nat} (hi:i<l.length):F4 (tR tA l) [AA (iv i)*3+2]=tI l[i].freed:=V3 hi (by decide) rfl
theorem YW {o:An} {K:J2} (h_freed:(o.freed.length:Int)<2^62) (h:K [.bool true] []):cl2 ⟨Tryz.prog,w0⟩ 113 GG.sg [I o.code,I o.val,I o.code,I o.val] [tI o.freed,tI o.freed] K:=by
 refine GG.cl2 ?_
 unfold GG.txt
 repeat' (first | refine P7 h_freed ?_ | refine BV (fun h=>h rfl) ?_ | refine BQ ?_ | refine B2 ?_ | refine BN ?_)
 exact h
theorem WY {l:List An} {K:J2} (hl:(l.length:Int)<2^62) (hs: ∀o∈l,(o.freed.length:Int)<2^62) (h:K [.bool true] []):cl2 ⟨Tryz.prog,w0⟩ 62 FF.sg [] [tR tA l,tR tA l] K:=by
 refine FF.cl2 ?_
 unfold FF.txt
 simp only [AM,AT,AL,AK,AN,AE,AI,AV,AU,AS,AP,AQ,AO,AR,BD,BE,BH,BG,BJ,BL,BF,AZ,A6,A1,AY,A5,A4]
 refine B2 (BV (fun h=>h rfl) ?_)
 refine A7 (fun i=>[iv i]) (fun _=>[]) l.length (fun _=>True) rfl rfl trivial (fun R i hi hP hR=> ?_)
 refine AJ (AH (fun hlt=> ?_) fun hge=> ?_)
 ·have hlt:i<l.length:=by omega
  refine AW hlt (NU hlt rfl rfl (AW hlt (NU hlt rfl rfl ?_)))
  rw [X3 hlt]
  refine YW (hs _ (List.getElem_mem hlt)) ?_
  repeat' (first | refine BQ ?_ | refine AX (by omega) ?_ | refine BN ?_)
  exact hR hlt trivial
 ·exact h
theorem UL {k:Int} {l:List An} {K:J2} (hl:(l.length:Int)<2^60) (hk:0≤k) (hb:k+szL KI l<2^60) (h:K [I (k+szL KI l)] [tR tA (mkL WR KI k l)]):cl2 ⟨Tryz.prog,w0⟩ 66 DX.sg [I k] [tR tA l] K:=by
 refine DX.cl2 ?_
 unfold DX.txt
 refine A7 (fun i=>[I (k+szL KI (l.take i)),iv i]) (fun i=>[tR tA (mid WR KI k l i)]) l.length (fun _=>True) (by simp [szL,RV]) (by rw [qE]) trivial (fun R i hi hP hR=> ?_)
 simp only [AM,AT,AL,AK,AN,AE,AI,AV,AU,AS,AP,AQ,AO,AR,BD,BE,BH,BG,BJ,BL,BF,AZ,A6,A1,AY,A5,A4]
 rw [PT hi]
 refine AJ (AH (fun hlt=> ?_) fun hge=> ?_)
 ·have hlt:i<l.length:=by omega
  have hs:=S8 S0 hlt
  have h0:=JF S0 (l.take i)
  replace hR:=hR hlt trivial
  rw [MI hlt, ←ZG hlt] at hR
  have hln:=PT (mk:=WR) (sz:=KI) (k:=k) hi
  have hg:=ZK (mk:=WR) (sz:=KI) (k:=k) hlt (by omega)
  have hsm:=WA (f:=tA) (cur:=mid WR KI k l i) (i:=i) (by omega)
  rw [hg] at hsm
  rw [hsm]
  clear hg hsm
  generalize mid WR KI k l i=cur at hln hR ⊢
  generalize hx:l[i]=o at hR hs ⊢
  generalize szL KI (l.take i)=q at hR hs h0 ⊢
  have hzz:k+(q+KI o)=k+q+1+1+o.freed.length:=by unfold KI;omega
  have hz0:KI o=2+(o.freed.length:Int):=rfl
  rw [hzz] at hR
  repeat' (first | simp only [Y8] | refine jR (by omega) ?_ | refine nE (by omega) ?_ | refine TW (by omega) (by decide) rfl ?_ | refine NP (by omega) ⟨by omega,by omega⟩ ?_ | simp only [hS (cur:=cur) (i:=i) (by omega),hC (cur:=cur) (i:=i) (by omega)] | refine AX (by omega) ?_ | refine BX ⟨by omega,by omega⟩ ?_ | refine AW (by omega) ?_ | simp only [AM,AT,AL,AK,AN,AE,AI,AV,AU,AS,AP,AQ,AO,AR,BD,BE,BH,BG,BJ,BL,BF,AZ,A6,A1,AY,A5,A4])
  exact hR
 ·have:i=l.length:=by omega
  subst this
  rw [List.take_length,ZC];exact h
theorem U3 {k:Int} {l:List An} {K:J2} (hl:(l.length:Int)<2^60) (hk:0≤k) (hb:k+szL KI l<2^60) (h:K [I (k+szL KI l)] []):cl2 ⟨Tryz.prog,w0⟩ 68 DW.sg [I k] [tR tA (mkL WR KI k l)] K:=by
 refine DW.cl2 ?_
 unfold DW.txt
 simp only [AM,AT,AL,AK,AN,AE,AI,AV,AU,AS,AP,AQ,AO,AR,BD,BE,BH,BG,BJ,BL,BF,AZ,A6,A1,AY,A5,A4]
 rw [K4]
 refine A7 (fun i=>[I (k+szL KI (l.take i)),iv i]) (fun _=>[]) l.length (fun _=>True) (by simp [szL,RV]) rfl trivial (fun R i hi hP hR=> ?_)
 refine AJ (AH (fun hlt=> ?_) fun hge=> ?_)
 ·have hlt:i<l.length:=by omega
  have hs:=S8 S0 hlt
  have h0:=JF S0 (l.take i)
  replace hR:=hR hlt trivial
  rw [MI hlt] at hR
  have hln:=K4 (mk:=WR) (sz:=KI) l k
  have hM:=ZE (mk:=WR) (sz:=KI) (k:=k) hlt (by omega)
  have hf:=X3 (l:=mkL WR KI k l) (i:=i) (by omega)
  rw [hM] at hf
  rw [show (WR (k+szL KI (l.take i)) l[i]).freed=marks (k+szL KI (l.take i)+1+1) l[i].freed.length from rfl] at hf
  generalize hx:l[i]=o at hR hs hM hf ⊢
  generalize szL KI (l.take i)=q at hR hs h0 hM hf ⊢
  have hzz:k+(q+KI o)=k+q+1+1+o.freed.length:=by unfold KI;omega
  have hz0:KI o=2+(o.freed.length:Int):=rfl
  rw [hzz] at hR
  repeat' (first | rw [hf] | refine P4 (by omega) (by decide) (by rw [hM];rfl) ?_ | refine NO (by omega) ⟨by omega,by omega⟩ ?_ | refine PQ (by omega) (by rw [hM];rfl) ?_ | refine P2 (by omega) (by decide) (by rw [hM];rfl) ?_ | refine BV (fun h=>h rfl) ?_ | refine BV (by first | with_reducible assumption | omega) ?_ | refine AJ ?_ | refine B2 ?_ | refine AX (by omega) ?_ | refine BX ⟨by omega,by omega⟩ ?_ | refine AW (by omega) ?_ | simp only [AM,AT,AL,AK,AN,AE,AI,AV,AU,AS,AP,AQ,AO,AR,BD,BE,BH,BG,BJ,BL,BF,AZ,A6,A1,AY,A5,A4])
  exact hR
 ·have:i=l.length:=by omega
  subst this
  rw [List.take_length];exact h
end Go.Proofs.YtnhicpkhkaihoaaGreat.P
