/- A part of the proof. -/
import Derived.Test.YtklmcfpgdfibnaaPtPlB
namespace Go.Proofs.Ytklmcfpgdfibnaa.P
open Go Go.Proofs.Ytklmcfpgdfibnaa Go.Proofs.Ytklmcfpgdfibnaa.Eng
set_option linter.unusedVariables false
set_option maxHeartbeats 4000000
set_option linter.unusedVariables false
set_option linter.unusedSimpArgs false
attribute [local irreducible] prP gP gE gF AW ixW ldc ldg ldl stc stg scW mkW apW BK cl2 BW EI CM
variable {w0:World}
theorem rA (o:Op5):tv (nxT (tP o) 0)=I o.kind:=rfl
theorem q9 (o:Op5):tv (nxT (tP o) 1)=I o.a:=rfl
theorem qX (o:Op5):tv (nxT (tP o) 2)=I o.b:=rfl
theorem rC (o:Op5):tv (nxT (tP o) 3)=I o.c:=rfl
theorem qY (o:Op5):tv (nxT (tP o) 4)= .string o.site:=rfl
theorem V4 {K:J2} (h:K [] (trees hp0)):cl2 ⟨Try.prog,w0⟩ 77 FO.sg [] [] K:=by
 refine FO.cl2 ?_
 unfold FO.txt
 refine eW (n:=8) (by omega) ?_
 have e0:QW (AA (iv 8)) [T.c (.bool false),T.c (.int .i64 0)]=tR tW (List.replicate 8 ⟨false,0⟩):=by
  rw [AY];exact ZC (f:=tW) 8 ⟨false,0⟩
 rw [e0]
 refine BB (fun i=>[iv i]) (fun i=>[tR tO (List.replicate i (B6 0)),tR tW (List.replicate 8 ⟨false,0⟩)]) 8 (fun _=>True) rfl rfl trivial (fun R i hi hP hR=> ?_)
 have hln:(List.replicate i (B6 0)).length=i:=List.length_replicate
 simp only [AG,AM,AK,AP,AI,AD,AE,AR,AQ,AO,AL,AJ,AN,AH,BC,BF,BJ,BG,BH,BI,BE,A6,A7,A1,A4,A5,AZ]
 refine AX (AV (fun hlt=> ?_) fun hge=> ?_)
 ·have hlt:i<8:=by omega
  replace hR:=hR hlt trivial
  rw [List.replicate_succ', ←iJ] at hR
  exact OM (fD (by rw [hln];omega) (BA (by omega) hR))
 ·have:i=8:=by omega
  subst this
  exact h
theorem TF {l:List Op5} {K:J2} (hl:(l.length:Int)≤2^40) (ho: ∀o∈l,OpF o) (h:K [] (trees (C2 l (min l.length 400)).1++[tR tA (C2 l (min l.length 400)).2])):cl2 ⟨Try.prog,w0⟩ 39 HT.sg [] [tR tP l] K:=by
 refine HT.cl2 ?_
 unfold HT.txt
 refine V4 ?_
 simp only [AG,AM,AK,AP,AI,AD,AE,AR,AQ,AO,AL,AJ,AN,AH,BC,BF,BJ,BG,BH,BI,BE,A6,A7,A1,A4,A5,AZ]
 refine VO ?_
 simp only [AY]
 refine BB (fun i=>[iv (min l.length 400),iv 0,iv (min l.length 400),iv i]) (fun i=>[tR tA (C2 l i).2,tR tO (C2 l i).1.A8,tR tW (C2 l i).1.B2,tI (C2 l i).1.buffer,tS (C2 l i).1.sites]) (min l.length 400) (fun _=>True) rfl rfl trivial (fun R i hi hP hR=> ?_)
 obtain ⟨ok,pl⟩:=H9 l i
 simp only [AG,AM,AK,AP,AI,AD,AE,AR,AQ,AO,AL,AJ,AN,AH,BC,BF,BJ,BG,BH,BI,BE,A6,A7,A1,A4,A5,AZ]
 simp only [AY]
 refine AX (AV (fun hlt=> ?_) fun hge=> ?_)
 ·have hlt:i<min l.length 400:=by omega
  have hll:i<l.length:=by omega
  replace hR:=hR hlt trivial
  have hof:OpF (po l i):=by rw [←gB hll];exact ho _ (List.getElem_mem hll)
  simp only [C2] at hR
  refine AT hlt ?_
  rw [Nat.zero_add]
  refine lI hll ?_
  simp only [rA,q9,qX,rC,qY]
  refine RT ok ok.kG hof.a hof.c (fD (by rw [pl];omega) (BA (by omega) ?_))
  rw [←pC] at hR
  exact hR
 ·have:i=min l.length 400:=by omega
  subst this
  exact h
theorem WK {K:J2} (h:K [] (trees hp0)):cl2 ⟨Try.prog,w0⟩ 74 FQ.sg [] [] K:=by
 refine FQ.cl2 ?_
 unfold FQ.txt
 refine eW (n:=8) (by omega) (eW (n:=8) (by omega) ?_)
 have e0:QW (AA (iv 8)) [T.c (.bool false),T.c (.int .i64 0)]=tR tW (List.replicate 8 ⟨false,0⟩):=by
  rw [AY];exact ZC (f:=tW) 8 ⟨false,0⟩
 have e1:QW (AA (iv 8)) [T.c (.bool false),T.c (.int .i64 0),T.c (.int .i64 0),T.c (.int .i64 0),T.c (.int .i64 0),T.c (.int .i64 0),T.l 1 [],T.c (.bool false)]=tR tO (List.replicate 8 ⟨false,0,0,0,0,0,[],false⟩):=by
  rw [AY];exact ZC (f:=tO) 8 ⟨false,0,0,0,0,0,[],false⟩
 rw [e0,e1]
 have s0:List.replicate 8 (⟨false,0,0,0,0,0,[],false⟩:AU)=mk8 fun i=>if i<0 then B6 0 else ⟨false,0,0,0,0,0,[],false⟩:=rfl
 rw [s0]
 refine BB (fun i=>[iv i]) (fun i=>[tR tO (mk8 fun k=>if k<i then B6 0 else ⟨false,0,0,0,0,0,[],false⟩),tR tW (List.replicate 8 ⟨false,0⟩)]) 8 (fun _=>True) rfl rfl trivial (fun R i hi hP hR=> ?_)
 simp only [AG,AM,AK,AP,AI,AD,AE,AR,AQ,AO,AL,AJ,AN,AH,BC,BF,BJ,BG,BH,BI,BE,A6,A7,A1,A4,A5,AZ]
 simp only [CG]
 refine AX (AV (fun hlt=> ?_) fun hge=> ?_)
 ·have hlt:i<8:=by omega
  replace hR:=hR hlt trivial
  refine IV (AT hlt ?_)
  have hml:i<(mk8 fun k=>if k<i then B6 0 else ⟨false,0,0,0,0,0,[],false⟩).length:=by rw [CG];exact hlt
  have hoi:(mk8 fun k=>if k<i then B6 0 else ⟨false,0,0,0,0,0,[],false⟩)[i]=⟨false,0,0,0,0,0,[],false⟩:=by rw [DN hml,HV hlt,if_neg (by omega)]
  refine kC (f:=tO) (c:=6) (y:=B6 0) hml (by decide) (by rw [hoi];rfl) ?_
  rw [NX hlt,I2 (g:=fun k=>if k<i+1 then B6 0 else ⟨false,0,0,0,0,0,[],false⟩) fun k hk=>by
   by_cases h1:k=i
   ·rw [if_pos h1,if_pos (by omega)]
   ·rw [if_neg h1]
    by_cases h2:k<i
    ·rw [if_pos h2,if_pos (by omega)]
    ·rw [if_neg h2,if_neg (by omega)]]
  exact BA (by omega) hR
 ·have:i=8:=by omega
  subst this
  exact h
end Go.Proofs.Ytklmcfpgdfibnaa.P
