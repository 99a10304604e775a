/- A part of the proof. -/
import Derived.Test.YtklmcfpgdfibnaaNwPlB
namespace Go.Proofs.Ytklmcfpgdfibnaa.P
open Go Go.Proofs.Ytklmcfpgdfibnaa Go.Proofs.Ytklmcfpgdfibnaa.Eng
set_option linter.unusedVariables false
set_option maxHeartbeats 4000000
set_option linter.unusedVariables false
set_option linter.unusedSimpArgs false
attribute [local irreducible] prP gP gE gF AV ixW ldc ldg ldl stc stg scW mkW apW BL cl2 BS EC CX
variable {w0:World}
theorem pP (o:Op5):tv (nxT (tP o) 0)=I o.kind:=rfl
theorem p6 (o:Op5):tv (nxT (tP o) 1)=I o.a:=rfl
theorem pV (o:Op5):tv (nxT (tP o) 2)=I o.b:=rfl
theorem pO (o:Op5):tv (nxT (tP o) 3)=I o.c:=rfl
theorem pN (o:Op5):tv (nxT (tP o) 4)= .string o.site:=rfl
theorem KT {K:J2} (h:K [] (trees hp0)):cl2 ⟨Try.prog,w0⟩ 77 DK.sg [] [] K:=by
 refine DK.cl2 ?_
 unfold DK.txt
 refine dI (n:=8) (by omega) ?_
 have e0:QN (AA (iv 8)) [T.c (.bool false),T.c (.int .i64 0)]=tR tW (List.replicate 8 ⟨false,0⟩):=by
  rw [AY];exact YY (f:=tW) 8 ⟨false,0⟩
 rw [e0]
 refine BD (fun i=>[iv i]) (fun i=>[tR tO (List.replicate i (B4 0)),tR tW (List.replicate 8 ⟨false,0⟩)]) 8 (fun _=>True) rfl rfl trivial (fun R i hi hP hR=> ?_)
 have hln:(List.replicate i (B4 0)).length=i:=List.length_replicate
 simp only [AG,AK,AN,AM,AI,AD,AE,AP,AO,AJ,AQ,AR,AL,AH,BE,BJ,BH,BG,BK,BI,BF,A4,A8,A7,A6,A5,AZ]
 refine AX (AW (fun hlt=> ?_) fun hge=> ?_)
 ·have hlt:i<8:=by omega
  replace hR:=hR hlt trivial
  rw [List.replicate_succ', ←hI] at hR
  exact OR (fW (by rw [hln];omega) (BA (by omega) hR))
 ·have:i=8:=by omega
  subst this
  exact h
theorem a8 {l:List Op5} {K:J2} (hl:(l.length:Int)≤2^40) (ho: ∀o∈l,OpF o) (h:K [] (trees (C8 l (min l.length 400)).1++[tR tA (C8 l (min l.length 400)).2])):cl2 ⟨Try.prog,w0⟩ 39 H0.sg [] [tR tP l] K:=by
 refine H0.cl2 ?_
 unfold H0.txt
 refine KT ?_
 simp only [AG,AK,AN,AM,AI,AD,AE,AP,AO,AJ,AQ,AR,AL,AH,BE,BJ,BH,BG,BK,BI,BF,A4,A8,A7,A6,A5,AZ]
 refine UM ?_
 simp only [AY]
 refine BD (fun i=>[iv (min l.length 400),iv 0,iv (min l.length 400),iv i]) (fun i=>[tR tA (C8 l i).2,tR tO (C8 l i).1.BB,tR tW (C8 l i).1.CA,tI (C8 l i).1.buffer,tS (C8 l i).1.sites]) (min l.length 400) (fun _=>True) rfl rfl trivial (fun R i hi hP hR=> ?_)
 obtain ⟨ok,pl⟩:=LK l i
 simp only [AG,AK,AN,AM,AI,AD,AE,AP,AO,AJ,AQ,AR,AL,AH,BE,BJ,BH,BG,BK,BI,BF,A4,A8,A7,A6,A5,AZ]
 simp only [AY]
 refine AX (AW (fun hlt=> ?_) fun hge=> ?_)
 ·have hlt:i<min l.length 400:=by omega
  have hll:i<l.length:=by omega
  replace hR:=hR hlt trivial
  have hof:OpF (po l i):=by rw [←gY hll];exact ho _ (List.getElem_mem hll)
  simp only [C8] at hR
  refine AS hlt ?_
  rw [Nat.zero_add]
  refine kQ hll ?_
  simp only [pP,p6,pV,pO,pN]
  refine X0 ok ok.l5 hof.a hof.c (fW (by rw [pl];omega) (BA (by omega) ?_))
  rw [←oI] at hR
  exact hR
 ·have:i=min l.length 400:=by omega
  subst this
  exact h
theorem LC {K:J2} (h:K [] (trees hp0)):cl2 ⟨Try.prog,w0⟩ 74 DM.sg [] [] K:=by
 refine DM.cl2 ?_
 unfold DM.txt
 refine dI (n:=8) (by omega) (dI (n:=8) (by omega) ?_)
 have e0:QN (AA (iv 8)) [T.c (.bool false),T.c (.int .i64 0)]=tR tW (List.replicate 8 ⟨false,0⟩):=by
  rw [AY];exact YY (f:=tW) 8 ⟨false,0⟩
 have e1:QN (AA (iv 8)) [T.c (.bool false),T.c (.int .i64 0),T.c (.int .i64 0),T.c (.int .i64 0),T.c (.int .i64 0),T.c (.int .i64 0),T.l 1 [],T.c (.bool false)]=tR tO (List.replicate 8 ⟨false,0,0,0,0,0,[],false⟩):=by
  rw [AY];exact YY (f:=tO) 8 ⟨false,0,0,0,0,0,[],false⟩
 rw [e0,e1]
 have s0:List.replicate 8 (⟨false,0,0,0,0,0,[],false⟩:AU)=mk8 fun i=>if i<0 then B4 0 else ⟨false,0,0,0,0,0,[],false⟩:=rfl
 rw [s0]
 refine BD (fun i=>[iv i]) (fun i=>[tR tO (mk8 fun k=>if k<i then B4 0 else ⟨false,0,0,0,0,0,[],false⟩),tR tW (List.replicate 8 ⟨false,0⟩)]) 8 (fun _=>True) rfl rfl trivial (fun R i hi hP hR=> ?_)
 simp only [AG,AK,AN,AM,AI,AD,AE,AP,AO,AJ,AQ,AR,AL,AH,BE,BJ,BH,BG,BK,BI,BF,A4,A8,A7,A6,A5,AZ]
 simp only [CH]
 refine AX (AW (fun hlt=> ?_) fun hge=> ?_)
 ·have hlt:i<8:=by omega
  replace hR:=hR hlt trivial
  refine IH (AS hlt ?_)
  have hml:i<(mk8 fun k=>if k<i then B4 0 else ⟨false,0,0,0,0,0,[],false⟩).length:=by rw [CH];exact hlt
  have hoi:(mk8 fun k=>if k<i then B4 0 else ⟨false,0,0,0,0,0,[],false⟩)[i]=⟨false,0,0,0,0,0,[],false⟩:=by rw [DH hml,HI hlt,if_neg (by omega)]
  refine jM (f:=tO) (c:=6) (y:=B4 0) hml (by decide) (by rw [hoi];rfl) ?_
  rw [NM hlt,IU (g:=fun k=>if k<i+1 then B4 0 else ⟨false,0,0,0,0,0,[],false⟩) fun k hk=>by
   by_cases h1:k=i
   ·rw [if_pos h1,if_pos (by omega)]
   ·rw [if_neg h1]
    by_cases h2:k<i
    ·rw [if_pos h2,if_pos (by omega)]
    ·rw [if_neg h2,if_neg (by omega)]]
  exact BA (by omega) hR
 ·have:i=8:=by omega
  subst this
  exact h
end Go.Proofs.Ytklmcfpgdfibnaa.P
