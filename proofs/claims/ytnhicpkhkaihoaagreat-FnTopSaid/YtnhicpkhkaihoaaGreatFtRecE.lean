/- A part of the proof. -/
import Derived.Test.YtnhicpkhkaihoaaGreatFtRecD
import Derived.Test.YtnhicpkhkaihoaaGreatFtDrC
namespace Go.Proofs.YtnhicpkhkaihoaaGreat.P
open Go Go.Proofs.YtnhicpkhkaihoaaGreat Go.Proofs.YtnhicpkhkaihoaaGreat.Eng
set_option linter.unusedVariables false
set_option maxHeartbeats 4000000
set_option linter.unusedVariables false
set_option linter.unusedSimpArgs false
attribute [local irreducible] prP gP gE gF AV ixW ldc ldg ldl stc stg scW mkW apW BC cl2 BW F6 C2
variable {w0:World}
theorem Q2 {h:Hp} {K:J2} (hf:Fits h) (hk:K [.bool true] []):cl2 ⟨Tryz.prog,w0⟩ 11 FD.sg [] (trees h++trees h) K:=by
 obtain ⟨f1,f2,f3,f4,f5,_⟩:=hf
 refine FD.cl2 ?_
 unfold FD.txt
 simp only [AI,AL,AH,AJ,AM,AE,AG,AR,AP,AN,AQ,AO,AS,AK,BD,BF,BI,BJ,BH,BG,BE,A1,AZ,AY,AX,A4,A5]
 repeat' (first | refine PL (by omega) ?_ | refine BM ?_ | refine M7 ?_ | refine GA (by first | with_reducible assumption | omega) ?_ | refine CJ (by first | with_reducible assumption | omega) rfl ?_ | refine UH rfl ?_ | refine C7 (by first | with_reducible assumption | omega) ?_ | refine CB ?_ | refine BP ?_)
 refine A8 (fun i=>[iv i]) (fun _=>[]) h.BA.length (fun _=>True) rfl rfl trivial (fun R i hi _ hR=> ?_)
 simp only [AI,AL,AH,AJ,AM,AE,AG,AR,AP,AN,AQ,AO,AS,AK,BD,BF,BI,BJ,BH,BG,BE,A1,AZ,AY,AX,A4,A5]
 refine AW (AT (fun hlt=> ?_) fun _=> ?_)
 ·have hlt:i<h.BA.length:=by omega
  have hR:=hR hlt trivial
  have hfl:=f2 _ (List.getElem_mem hlt)
  rw [D6 hlt] at hfl
  refine AU hlt (OJ hlt (AU hlt (OJ hlt ?_)))
  simp only [nZ,oV,s9,wG,uX,oN,sF]
  rw [IK hlt]
  have nb: ∀b:Bool, ¬b≠b:=fun b hh=>hh rfl
  repeat' (first | refine PL (by omega) ?_ | refine GA (nb _) ?_ | refine CJ (nb _) rfl ?_ | refine BM ?_ | refine GA (by first | with_reducible assumption | omega) ?_ | refine CJ (by first | with_reducible assumption | omega) rfl ?_ | refine BT ?_ | refine CB ?_ | refine CP ?_ | refine A6 (by omega) ?_ | refine BP ?_)
  exact hR
 ·refine A8 (fun i=>[iv i]) (fun _=>[]) h.B7.length (fun _=>True) rfl rfl trivial (fun R i hi _ hR=> ?_)
  simp only [AI,AL,AH,AJ,AM,AE,AG,AR,AP,AN,AQ,AO,AS,AK,BD,BF,BI,BJ,BH,BG,BE,A1,AZ,AY,AX,A4,A5]
  refine AW (AT (fun hlt=> ?_) fun _=> ?_)
  ·have hlt:i<h.B7.length:=by omega
   have hR:=hR hlt trivial
   refine AU hlt (Z1 hlt (AU hlt (Z1 hlt ?_)))
   simp only [uE,zM]
   exact uI (C7 (fun hh=>hh rfl) (A6 (by omega) hR))
  ·refine A8 (fun i=>[iv i]) (fun _=>[]) h.sites.length (fun _=>True) rfl rfl trivial (fun R i hi _ hR=> ?_)
   simp only [AI,AL,AH,AJ,AM,AE,AG,AR,AP,AN,AQ,AO,AS,AK,BD,BF,BI,BJ,BH,BG,BE,A1,AZ,AY,AX,A4,A5]
   refine AW (AT (fun hlt=> ?_) fun _=>hk)
   have hlt:i<h.sites.length:=by omega
   exact AU hlt (ldS hlt (AU hlt (ldS hlt (RD (C7 (fun hh=>hh rfl) (A6 (by omega) (hR hlt trivial)))))))
theorem OT {l:List An} {K:J2} (hl:(l.length:Int)<2^62) (hx: ∀o∈l,(o.freed.length:Int)<2^62) (hk:K [.bool true] []):cl2 ⟨Tryz.prog,w0⟩ 12 DF.sg [] [tR tA l,tR tA l] K:=by
 refine DF.cl2 ?_
 unfold DF.txt
 simp only [AI,AL,AH,AJ,AM,AE,AG,AR,AP,AN,AQ,AO,AS,AK,BD,BF,BI,BJ,BH,BG,BE,A1,AZ,AY,AX,A4,A5]
 refine CB (C7 (fun hh=>hh rfl) (A8 (fun i=>[iv i]) (fun _=>[]) l.length (fun _=>True) rfl rfl trivial (fun R i hi _ hR=> ?_)))
 simp only [AI,AL,AH,AJ,AM,AE,AG,AR,AP,AN,AQ,AO,AS,AK,BD,BF,BI,BJ,BH,BG,BE,A1,AZ,AY,AX,A4,A5]
 refine AW (AT (fun hlt=> ?_) fun _=>hk)
 have hlt:i<l.length:=by omega
 have hfl:=hx _ (List.getElem_mem hlt)
 rw [pY hlt] at hfl
 refine AU hlt (aK hlt (AU hlt (aK hlt ?_)))
 simp only [zX,zO]
 rw [fX hlt]
 exact VO hfl (BP (BT (A6 (by omega) (hR hlt trivial))))
theorem Y7 {l:List Op5} {K:J2} (hl:(l.length:Int)<2^62) (hk:K [.bool true] []):cl2 ⟨Tryz.prog,w0⟩ 16 GD.sg [] [tR tP l,tR tP l] K:=by
 refine GD.cl2 ?_
 unfold GD.txt
 simp only [AI,AL,AH,AJ,AM,AE,AG,AR,AP,AN,AQ,AO,AS,AK,BD,BF,BI,BJ,BH,BG,BE,A1,AZ,AY,AX,A4,A5]
 refine CB (C7 (fun hh=>hh rfl) (A8 (fun i=>[iv i]) (fun _=>[]) l.length (fun _=>True) rfl rfl trivial (fun R i hi _ hR=> ?_)))
 simp only [AI,AL,AH,AJ,AM,AE,AG,AR,AP,AN,AQ,AO,AS,AK,BD,BF,BI,BJ,BH,BG,BE,A1,AZ,AY,AX,A4,A5]
 refine AW (AT (fun hlt=> ?_) fun _=>hk)
 have hlt:i<l.length:=by omega
 refine AU hlt (RY hlt (AU hlt (RY hlt ?_)))
 simp only [jM,hU,hS,gV,iO]
 exact uA (C7 (fun hh=>hh rfl) (A6 (by omega) (hR hlt trivial)))
theorem bP {l:List Op5} {K:J2} (hl:(l.length:Int)<2^62) (h1:(∀k,k<l.length→spk (po l k)=true)→l.length<400→K [.bool true] []) (h2: ¬((∀k,k<l.length→spk (po l k)=true)∧l.length<400)→K [.bool false] []):cl2 ⟨Tryz.prog,w0⟩ 13 IH.sg [] [tR tP l] K:=by
 refine IH.cl2 ?_
 unfold IH.txt
 simp only [AI,AL,AH,AJ,AM,AE,AG,AR,AP,AN,AQ,AO,AS,AK,BD,BF,BI,BJ,BH,BG,BE,A1,AZ,AY,AX,A4,A5]
 refine A8 (fun i=>[iv i]) (fun _=>[]) l.length (fun i=> ∀k,k<i→spk (po l k)=true) rfl rfl (fun k hk=>by omega) (fun R i hi hP hR=> ?_)
 simp only [AI,AL,AH,AJ,AM,AE,AG,AR,AP,AN,AQ,AO,AS,AK,BD,BF,BI,BJ,BH,BG,BE,A1,AZ,AY,AX,A4,A5]
 refine AW (AT (fun hlt=> ?_) fun hge=> ?_)
 ·have hlt:i<l.length:=by omega
  refine AU hlt (RY hlt ?_)
  simp only [jM,hU,hS,gV,iO]
  refine PS ?_
  cases hs:spk (po l i) with
  | true=>
    rw [show RT (po l i).kind (po l i).a (po l i).b (po l i).c (po l i).site=true from hs]
    refine BP (BT (A6 (by omega) (hR hlt fun k hk=> ?_)))
    rcases Nat.lt_or_ge k i with h | h
    ·exact hP k h
    ·have:k=i:=by omega
     subst this;exact hs
  | false=>
    rw [show RT (po l i).kind (po l i).a (po l i).b (po l i).c (po l i).site=false from hs]
    refine BP (BQ (h2 fun hh=> ?_))
    rw [hh.1 i hlt] at hs;cases hs
 ·have:i=l.length:=by omega
  subst this
  refine AW ?_
  by_cases h4:l.length<400
  ·rw [decide_eq_true (by omega)];exact h1 hP h4
  ·rw [decide_eq_false (by omega)];exact h2 fun hh=>h4 hh.2
theorem UZ {L:List Int} {K:J2} (hb:WN L) (h: ∀l:List Op5,l.length≤51→(∀o∈l,OpF o)→K [] [tR tP l]):cl2 ⟨Tryz.prog,w0⟩ 8 FW.sg [] [tY L] K:=by
 refine FW.cl2 (fE hb fun z=>eK (m:=50) hb (Nat.zero_le _) (by omega) fun l i1 z1 hl ho h1=>BS (PC hb h1 fun b i2 z2 h2=>JI (fun _=> ?_) fun _=>h l (by omega) fun o hx=>(ho o hx).f))
 simp only [AI,AL,AH,AJ,AM,AE,AG,AR,AP,AN,AQ,AO,AS,AK,BD,BF,BI,BJ,BH,BG,BE,A1,AZ,AY,AX,A4,A5]
 refine EB rfl (by first | omega | (simp only [AI,AL,AH,AJ,AM,AE,AG,AR,AP,AN,AQ,AO,AS,AK,BD,BF,BI,BJ,BH,BG,BE,A1,AZ,AY,AX,A4,A5];omega)) ?_
 have e:=YI l ⟨5,9223372036854775807,0,0,⟨#[]⟩⟩
 have:=h (l++[⟨5,9223372036854775807,0,0,⟨#[]⟩⟩]) (by simp;omega) fun o hx=>by
  rcases List.mem_append.1 hx with hx | hx
  ·exact (ho o hx).f
  ·rw [List.mem_singleton.1 hx]
   have:(⟨#[]⟩:ByteArray).size=0:=rfl
   exact ⟨⟨by simp,by simp⟩,⟨by simp,by simp⟩,⟨by simp,by simp⟩,⟨by simp,by simp⟩,by simp only;omega⟩
 rw [←e] at this
 exact this
end Go.Proofs.YtnhicpkhkaihoaaGreat.P
