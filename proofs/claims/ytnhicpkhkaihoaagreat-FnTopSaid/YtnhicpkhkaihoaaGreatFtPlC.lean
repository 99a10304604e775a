/- A part of the proof. -/
import Derived.Test.YtnhicpkhkaihoaaGreatFtPlB
namespace Go.Proofs.YtnhicpkhkaihoaaGreat.P
open Go Go.Proofs.YtnhicpkhkaihoaaGreat Go.Proofs.YtnhicpkhkaihoaaGreat.Eng
set_option linter.unusedVariables false
set_option maxHeartbeats 4000000
set_option linter.unusedVariables false
set_option linter.unusedSimpArgs false
attribute [local irreducible] prP gP gE gF AV ixW ldc ldg ldl stc stg scW mkW apW BC cl2 BW F6 C2
variable {w0:World}
theorem jM (o:Op5):tv (nxT (tP o) 0)=I o.kind:=rfl
theorem hU (o:Op5):tv (nxT (tP o) 1)=I o.a:=rfl
theorem hS (o:Op5):tv (nxT (tP o) 2)=I o.b:=rfl
theorem gV (o:Op5):tv (nxT (tP o) 3)=I o.c:=rfl
theorem iO (o:Op5):tv (nxT (tP o) 4)= .string o.site:=rfl
theorem R9 {K:J2} (h:K [] (trees hp0)):cl2 ⟨Tryz.prog,w0⟩ 43 FM.sg [] [] K:=by
 refine FM.cl2 ?_
 unfold FM.txt
 refine lU (n:=8) (by omega) ?_
 have e0:T8 (AA (iv 8)) [T.c (.bool false),T.c (.int .i64 0)]=tR tW (List.replicate 8 ⟨false,0⟩):=by
  rw [A9];exact eW (f:=tW) 8 ⟨false,0⟩
 rw [e0]
 refine A8 (fun i=>[iv i]) (fun i=>[tR tO (List.replicate i (CI 0)),tR tW (List.replicate 8 ⟨false,0⟩)]) 8 (fun _=>True) rfl rfl trivial (fun R i hi hP hR=> ?_)
 have hln:(List.replicate i (CI 0)).length=i:=List.length_replicate
 simp only [AI,AL,AH,AJ,AM,AE,AG,AR,AP,AN,AQ,AO,AS,AK,BD,BF,BI,BJ,BH,BG,BE,A1,AZ,AY,AX,A4,A5]
 refine AW (AT (fun hlt=> ?_) fun hge=> ?_)
 ·have hlt:i<8:=by omega
  replace hR:=hR hlt trivial
  rw [List.replicate_succ', ←oR] at hR
  exact RM (Y8 (by rw [hln];omega) (A6 (by omega) hR))
 ·have:i=8:=by omega
  subst this
  exact h
theorem iP {l:List Op5} {K:J2} (hl:(l.length:Int)≤2^40) (ho: ∀o∈l,OpF o) (h:K [] (trees (CD l (min l.length 400)).1++[tR tA (CD l (min l.length 400)).2])):cl2 ⟨Tryz.prog,w0⟩ 35 KH.sg [] [tR tP l] K:=by
 refine KH.cl2 ?_
 unfold KH.txt
 refine R9 ?_
 simp only [AI,AL,AH,AJ,AM,AE,AG,AR,AP,AN,AQ,AO,AS,AK,BD,BF,BI,BJ,BH,BG,BE,A1,AZ,AY,AX,A4,A5]
 refine Y3 ?_
 simp only [A9]
 refine A8 (fun i=>[iv (min l.length 400),iv 0,iv (min l.length 400),iv i]) (fun i=>[tR tA (CD l i).2,tR tO (CD l i).1.BA,tR tW (CD l i).1.B7,tI (CD l i).1.buffer,tS (CD l i).1.sites]) (min l.length 400) (fun _=>True) rfl rfl trivial (fun R i hi hP hR=> ?_)
 obtain ⟨ok,pl⟩:=JL l i
 simp only [AI,AL,AH,AJ,AM,AE,AG,AR,AP,AN,AQ,AO,AS,AK,BD,BF,BI,BJ,BH,BG,BE,A1,AZ,AY,AX,A4,A5]
 simp only [A9]
 refine AW (AT (fun hlt=> ?_) fun hge=> ?_)
 ·have hlt:i<min l.length 400:=by omega
  have hll:i<l.length:=by omega
  replace hR:=hR hlt trivial
  have hof:OpF (po l i):=by rw [←dL hll];exact ho _ (List.getElem_mem hll)
  simp only [CD] at hR
  refine AU hlt ?_
  rw [Nat.zero_add]
  refine RY hll ?_
  simp only [jM,hU,hS,gV,iO]
  refine VY ok ok.m4 hof.a hof.c (Y8 (by rw [pl];omega) (A6 (by omega) ?_))
  rw [←YK] at hR
  exact hR
 ·have:i=min l.length 400:=by omega
  subst this
  exact h
theorem RA {K:J2} (h:K [] (trees hp0)):cl2 ⟨Tryz.prog,w0⟩ 52 FO.sg [] [] K:=by
 refine FO.cl2 ?_
 unfold FO.txt
 refine lU (n:=8) (by omega) (lU (n:=8) (by omega) ?_)
 have e0:T8 (AA (iv 8)) [T.c (.bool false),T.c (.int .i64 0)]=tR tW (List.replicate 8 ⟨false,0⟩):=by
  rw [A9];exact eW (f:=tW) 8 ⟨false,0⟩
 have e1:T8 (AA (iv 8)) [T.c (.bool false),T.c (.int .i64 0),T.c (.int .i64 0),T.c (.int .i64 0),T.c (.int .i64 0),T.c (.int .i64 0),T.l 1 [],T.c (.bool false)]=tR tO (List.replicate 8 ⟨false,0,0,0,0,0,[],false⟩):=by
  rw [A9];exact eW (f:=tO) 8 ⟨false,0,0,0,0,0,[],false⟩
 rw [e0,e1]
 have s0:List.replicate 8 (⟨false,0,0,0,0,0,[],false⟩:A7)=mk8 fun i=>if i<0 then CI 0 else ⟨false,0,0,0,0,0,[],false⟩:=rfl
 rw [s0]
 refine A8 (fun i=>[iv i]) (fun i=>[tR tO (mk8 fun k=>if k<i then CI 0 else ⟨false,0,0,0,0,0,[],false⟩),tR tW (List.replicate 8 ⟨false,0⟩)]) 8 (fun _=>True) rfl rfl trivial (fun R i hi hP hR=> ?_)
 simp only [AI,AL,AH,AJ,AM,AE,AG,AR,AP,AN,AQ,AO,AS,AK,BD,BF,BI,BJ,BH,BG,BE,A1,AZ,AY,AX,A4,A5]
 simp only [CQ]
 refine AW (AT (fun hlt=> ?_) fun hge=> ?_)
 ·have hlt:i<8:=by omega
  replace hR:=hR hlt trivial
  refine KY (AU hlt ?_)
  have hml:i<(mk8 fun k=>if k<i then CI 0 else ⟨false,0,0,0,0,0,[],false⟩).length:=by rw [CQ];exact hlt
  have hoi:(mk8 fun k=>if k<i then CI 0 else ⟨false,0,0,0,0,0,[],false⟩)[i]=⟨false,0,0,0,0,0,[],false⟩:=by rw [D6 hml,JR hlt,if_neg (by omega)]
  refine tU (f:=tO) (c:=6) (y:=CI 0) hml (by decide) (by rw [hoi];rfl) ?_
  rw [QN hlt,LK (g:=fun k=>if k<i+1 then CI 0 else ⟨false,0,0,0,0,0,[],false⟩) fun k hk=>by
   by_cases h1:k=i
   ·rw [if_pos h1,if_pos (by omega)]
   ·rw [if_neg h1]
    by_cases h2:k<i
    ·rw [if_pos h2,if_pos (by omega)]
    ·rw [if_neg h2,if_neg (by omega)]]
  exact A6 (by omega) hR
 ·have:i=8:=by omega
  subst this
  exact h
theorem iL {l:List Op5} {K:J2} (hl:(l.length:Int)≤2^40) (ho: ∀o∈l,OpF o) (h:K [] (trees (CD l (min l.length 400)).1++[tR tA (CD l (min l.length 400)).2])):cl2 ⟨Tryz.prog,w0⟩ 36 KL.sg [] [tR tP l] K:=by
 refine KL.cl2 ?_
 unfold KL.txt
 refine RA ?_
 simp only [AI,AL,AH,AJ,AM,AE,AG,AR,AP,AN,AQ,AO,AS,AK,BD,BF,BI,BJ,BH,BG,BE,A1,AZ,AY,AX,A4,A5]
 refine A8 (fun i=>[iv i]) (fun i=>[tR tA (CD l i).2,tR tO (CD l i).1.BA,tR tW (CD l i).1.B7,tI (CD l i).1.buffer,tS (CD l i).1.sites]) (min l.length 400) (fun _=>True) rfl rfl trivial (fun R i hi hP hR=> ?_)
 obtain ⟨ok,pl⟩:=JL l i
 simp only [AI,AL,AH,AJ,AM,AE,AG,AR,AP,AN,AQ,AO,AS,AK,BD,BF,BI,BJ,BH,BG,BE,A1,AZ,AY,AX,A4,A5]
 refine AW (BM (IQ (fun hlt=> ?_) fun hge=> ?_))
 rotate_left
 ·refine CJ hge rfl (BT ?_)
  have:i=min l.length 400:=by omega
  subst this
  exact h
 refine AW (CL hlt rfl (AT (fun h4=> ?_) fun h4=> ?_))
 ·have hll:i<l.length:=by omega
  replace hR:=hR (by omega) trivial
  have hof:OpF (po l i):=by rw [←dL hll];exact ho _ (List.getElem_mem hll)
  simp only [CD] at hR
  refine AU hll (RY hll ?_)
  simp only [jM,hU,hS,gV,iO]
  refine VV ok.fits ok.m4 hof.a hof.c ?_
  rw [RP ok]
  refine Y8 (by rw [pl];omega) (A6 (by omega) ?_)
  rw [←YK] at hR
  exact hR
 ·have:i=min l.length 400:=by omega
  subst this
  exact h
end Go.Proofs.YtnhicpkhkaihoaaGreat.P
