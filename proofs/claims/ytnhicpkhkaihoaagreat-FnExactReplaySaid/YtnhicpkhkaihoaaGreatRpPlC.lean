/- A part of the proof. -/
import Derived.Test.YtnhicpkhkaihoaaGreatRpPlB
namespace Go.Proofs.YtnhicpkhkaihoaaGreat.P
open Go Go.Proofs.YtnhicpkhkaihoaaGreat Go.Proofs.YtnhicpkhkaihoaaGreat.Eng
set_option linter.unusedVariables false
set_option maxHeartbeats 4000000
set_option linter.unusedVariables false
set_option linter.unusedSimpArgs false
attribute [local irreducible] prP gP gE gF AG ixW ldc ldg ldl stc stg scW mkW apW BA cl2 B6 G8 C3
variable {w0:World}
theorem uN (o:Op5):tv (nxT (tP o) 0)=I o.kind:=rfl
theorem wM (o:Op5):tv (nxT (tP o) 1)=I o.a:=rfl
theorem wG (o:Op5):tv (nxT (tP o) 2)=I o.b:=rfl
theorem wC (o:Op5):tv (nxT (tP o) 3)=I o.c:=rfl
theorem vI (o:Op5):tv (nxT (tP o) 4)= .string o.site:=rfl
theorem aN {K:J2} (h:K [] (trees hp0)):cl2 ⟨Tryz.prog,w0⟩ 43 HQ.sg [] [] K:=by
 refine HQ.cl2 ?_
 unfold HQ.txt
 refine fW (n:=8) (by omega) ?_
 have e0:RX (AA (iv 8)) [T.c (.bool false),T.c (.int .i64 0)]=tR tW (List.replicate 8 ⟨false,0⟩):=by
  rw [A9];exact iA (f:=tW) 8 ⟨false,0⟩
 rw [e0]
 refine A7 (fun i=>[iv i]) (fun i=>[tR tO (List.replicate i (DC 0)),tR tW (List.replicate 8 ⟨false,0⟩)]) 8 (fun _=>True) rfl rfl trivial (fun R i hi hP hR=> ?_)
 have hln:(List.replicate i (DC 0)).length=i:=List.length_replicate
 simp only [AM,AT,AL,AK,AN,AE,AI,AV,AU,AS,AP,AQ,AO,AR,BD,BE,BH,BG,BJ,BL,BF,AZ,A6,A1,AY,A5,A4]
 refine AJ (AH (fun hlt=> ?_) fun hge=> ?_)
 ·have hlt:i<8:=by omega
  replace hR:=hR hlt trivial
  rw [List.replicate_succ', ←oX] at hR
  exact S1 (bI (by rw [hln];omega) (AX (by omega) hR))
 ·have:i=8:=by omega
  subst this
  exact h
theorem aO {K:J2} (h:K [] (trees hp0)):cl2 ⟨Tryz.prog,w0⟩ 52 HZ.sg [] [] K:=by
 refine HZ.cl2 ?_
 unfold HZ.txt
 refine fW (n:=8) (by omega) (fW (n:=8) (by omega) ?_)
 have e0:RX (AA (iv 8)) [T.c (.bool false),T.c (.int .i64 0)]=tR tW (List.replicate 8 ⟨false,0⟩):=by
  rw [A9];exact iA (f:=tW) 8 ⟨false,0⟩
 have e1:RX (AA (iv 8)) [T.c (.bool false),T.c (.int .i64 0),T.c (.int .i64 0),T.c (.int .i64 0),T.c (.int .i64 0),T.c (.int .i64 0),T.l 1 [],T.c (.bool false)]=tR tO (List.replicate 8 ⟨false,0,0,0,0,0,[],false⟩):=by
  rw [A9];exact iA (f:=tO) 8 ⟨false,0,0,0,0,0,[],false⟩
 rw [e0,e1]
 have s0:List.replicate 8 (⟨false,0,0,0,0,0,[],false⟩:A8)=mk8 fun i=>if i<0 then DC 0 else ⟨false,0,0,0,0,0,[],false⟩:=rfl
 rw [s0]
 refine A7 (fun i=>[iv i]) (fun i=>[tR tO (mk8 fun k=>if k<i then DC 0 else ⟨false,0,0,0,0,0,[],false⟩),tR tW (List.replicate 8 ⟨false,0⟩)]) 8 (fun _=>True) rfl rfl trivial (fun R i hi hP hR=> ?_)
 simp only [AM,AT,AL,AK,AN,AE,AI,AV,AU,AS,AP,AQ,AO,AR,BD,BE,BH,BG,BJ,BL,BF,AZ,A6,A1,AY,A5,A4]
 simp only [CW]
 refine AJ (AH (fun hlt=> ?_) fun hge=> ?_)
 ·have hlt:i<8:=by omega
  replace hR:=hR hlt trivial
  refine LI (AW hlt ?_)
  have hml:i<(mk8 fun k=>if k<i then DC 0 else ⟨false,0,0,0,0,0,[],false⟩).length:=by rw [CW];exact hlt
  have hoi:(mk8 fun k=>if k<i then DC 0 else ⟨false,0,0,0,0,0,[],false⟩)[i]=⟨false,0,0,0,0,0,[],false⟩:=by rw [EW hml,KX hlt,if_neg (by omega)]
  refine wS (f:=tO) (c:=6) (y:=DC 0) hml (by decide) (by rw [hoi];rfl) ?_
  rw [Q9 hlt,LZ (g:=fun k=>if k<i+1 then DC 0 else ⟨false,0,0,0,0,0,[],false⟩) fun k hk=>by
   by_cases h1:k=i
   ·rw [if_pos h1,if_pos (by omega)]
   ·rw [if_neg h1]
    by_cases h2:k<i
    ·rw [if_pos h2,if_pos (by omega)]
    ·rw [if_neg h2,if_neg (by omega)]]
  exact AX (by omega) hR
 ·have:i=8:=by omega
  subst this
  exact h
end Go.Proofs.YtnhicpkhkaihoaaGreat.P
