/- A part of the proof. -/
import Derived.Test.YtnhicpkhkaihoaaGreatRcPlB
namespace Go.Proofs.YtnhicpkhkaihoaaGreat.P
open Go Go.Proofs.YtnhicpkhkaihoaaGreat Go.Proofs.YtnhicpkhkaihoaaGreat.Eng
set_option linter.unusedVariables false
set_option maxHeartbeats 4000000
set_option linter.unusedVariables false
set_option linter.unusedSimpArgs false
attribute [local irreducible] prP gP gE gF AG ixW ldc ldg ldl stc stg scW mkW apW BB cl2 BY FT DG
variable {w0:World}
theorem wR (o:Op5):tv (nxT (tP o) 0)=I o.kind:=rfl
theorem wP (o:Op5):tv (nxT (tP o) 1)=I o.a:=rfl
theorem wI (o:Op5):tv (nxT (tP o) 2)=I o.b:=rfl
theorem wW (o:Op5):tv (nxT (tP o) 3)=I o.c:=rfl
theorem wH (o:Op5):tv (nxT (tP o) 4)= .string o.site:=rfl
theorem Y0 {K:J2} (h:K [] (trees hp0)):cl2 ⟨Tryz.prog,w0⟩ 43 GU.sg [] [] K:=by
 refine GU.cl2 ?_
 unfold GU.txt
 refine l7 (n:=8) (by omega) ?_
 have e0:SK (AA (iv 8)) [T.c (.bool false),T.c (.int .i64 0)]=tR tW (List.replicate 8 ⟨false,0⟩):=by
  rw [A1];exact XK (f:=tW) 8 ⟨false,0⟩
 rw [e0]
 refine AY (fun i=>[iv i]) (fun i=>[tR tO (List.replicate i (CV 0)),tR tW (List.replicate 8 ⟨false,0⟩)]) 8 (fun _=>True) rfl rfl trivial (fun R i hi hP hR=> ?_)
 have hln:(List.replicate i (CV 0)).length=i:=List.length_replicate
 simp only [AK,AQ,AN,AP,AS,AE,AI,AU,AL,AV,AT,AM,AR,AO,BF,BM,BL,BI,BK,BJ,BG,A7,A4,A5,A8,A6,A9]
 refine AJ (AW (fun hlt=> ?_) fun hge=> ?_)
 ·have hlt:i<8:=by omega
  replace hR:=hR hlt trivial
  rw [List.replicate_succ', ←mK] at hR
  exact QV (iF (by rw [hln];omega) (AX (by omega) hR))
 ·have:i=8:=by omega
  subst this
  exact h
theorem iA {l:List Op5} {K:J2} (hl:(l.length:Int)≤2^40) (ho: ∀o∈l,OpF o) (h:K [] (trees (FH l (min l.length 400)).1++[tR tA (FH l (min l.length 400)).2])):cl2 ⟨Tryz.prog,w0⟩ 35 J1.sg [] [tR tP l] K:=by
 refine J1.cl2 ?_
 unfold J1.txt
 refine Y0 ?_
 simp only [AK,AQ,AN,AP,AS,AE,AI,AU,AL,AV,AT,AM,AR,AO,BF,BM,BL,BI,BK,BJ,BG,A7,A4,A5,A8,A6,A9]
 refine ZQ ?_
 simp only [A1]
 refine AY (fun i=>[iv (min l.length 400),iv 0,iv (min l.length 400),iv i]) (fun i=>[tR tA (FH l i).2,tR tO (FH l i).1.BC,tR tW (FH l i).1.B9,tI (FH l i).1.buffer,tS (FH l i).1.sites]) (min l.length 400) (fun _=>True) rfl rfl trivial (fun R i hi hP hR=> ?_)
 obtain ⟨ok,pl⟩:=K6 l i
 simp only [AK,AQ,AN,AP,AS,AE,AI,AU,AL,AV,AT,AM,AR,AO,BF,BM,BL,BI,BK,BJ,BG,A7,A4,A5,A8,A6,A9]
 simp only [A1]
 refine AJ (AW (fun hlt=> ?_) fun hge=> ?_)
 ·have hlt:i<min l.length 400:=by omega
  have hll:i<l.length:=by omega
  replace hR:=hR hlt trivial
  have hof:OpF (po l i):=by rw [←gC hll];exact ho _ (List.getElem_mem hll)
  simp only [FH] at hR
  refine AH hlt ?_
  rw [Nat.zero_add]
  refine X7 hll ?_
  simp only [wR,wP,wI,wW,wH]
  refine fT ok ok.vG hof.a hof.c (iF (by rw [pl];omega) (AX (by omega) ?_))
  rw [←m0] at hR
  exact hR
 ·have:i=min l.length 400:=by omega
  subst this
  exact h
theorem aG {K:J2} (h:K [] (trees hp0)):cl2 ⟨Tryz.prog,w0⟩ 52 GV.sg [] [] K:=by
 refine GV.cl2 ?_
 unfold GV.txt
 refine l7 (n:=8) (by omega) (l7 (n:=8) (by omega) ?_)
 have e0:SK (AA (iv 8)) [T.c (.bool false),T.c (.int .i64 0)]=tR tW (List.replicate 8 ⟨false,0⟩):=by
  rw [A1];exact XK (f:=tW) 8 ⟨false,0⟩
 have e1:SK (AA (iv 8)) [T.c (.bool false),T.c (.int .i64 0),T.c (.int .i64 0),T.c (.int .i64 0),T.c (.int .i64 0),T.c (.int .i64 0),T.l 1 [],T.c (.bool false)]=tR tO (List.replicate 8 ⟨false,0,0,0,0,0,[],false⟩):=by
  rw [A1];exact XK (f:=tO) 8 ⟨false,0,0,0,0,0,[],false⟩
 rw [e0,e1]
 have s0:List.replicate 8 (⟨false,0,0,0,0,0,[],false⟩:AZ)=mk8 fun i=>if i<0 then CV 0 else ⟨false,0,0,0,0,0,[],false⟩:=rfl
 rw [s0]
 refine AY (fun i=>[iv i]) (fun i=>[tR tO (mk8 fun k=>if k<i then CV 0 else ⟨false,0,0,0,0,0,[],false⟩),tR tW (List.replicate 8 ⟨false,0⟩)]) 8 (fun _=>True) rfl rfl trivial (fun R i hi hP hR=> ?_)
 simp only [AK,AQ,AN,AP,AS,AE,AI,AU,AL,AV,AT,AM,AR,AO,BF,BM,BL,BI,BK,BJ,BG,A7,A4,A5,A8,A6,A9]
 simp only [CJ]
 refine AJ (AW (fun hlt=> ?_) fun hge=> ?_)
 ·have hlt:i<8:=by omega
  replace hR:=hR hlt trivial
  refine KE (AH hlt ?_)
  have hml:i<(mk8 fun k=>if k<i then CV 0 else ⟨false,0,0,0,0,0,[],false⟩).length:=by rw [CJ];exact hlt
  have hoi:(mk8 fun k=>if k<i then CV 0 else ⟨false,0,0,0,0,0,[],false⟩)[i]=⟨false,0,0,0,0,0,[],false⟩:=by rw [D9 hml,JK hlt,if_neg (by omega)]
  refine qR (f:=tO) (c:=6) (y:=CV 0) hml (by decide) (by rw [hoi];rfl) ?_
  rw [QG hlt,KI (g:=fun k=>if k<i+1 then CV 0 else ⟨false,0,0,0,0,0,[],false⟩) fun k hk=>by
   by_cases h1:k=i
   ·rw [if_pos h1,if_pos (by omega)]
   ·rw [if_neg h1]
    by_cases h2:k<i
    ·rw [if_pos h2,if_pos (by omega)]
    ·rw [if_neg h2,if_neg (by omega)]]
  exact AX (by omega) hR
 ·have:i=8:=by omega
  subst this
  exact h
theorem jE {l:List Op5} {K:J2} (hl:(l.length:Int)≤2^40) (ho: ∀o∈l,OpF o) (h:K [] (trees (FH l (min l.length 400)).1++[tR tA (FH l (min l.length 400)).2])):cl2 ⟨Tryz.prog,w0⟩ 36 JU.sg [] [tR tP l] K:=by
 refine JU.cl2 ?_
 unfold JU.txt
 refine aG ?_
 simp only [AK,AQ,AN,AP,AS,AE,AI,AU,AL,AV,AT,AM,AR,AO,BF,BM,BL,BI,BK,BJ,BG,A7,A4,A5,A8,A6,A9]
 refine AY (fun i=>[iv i]) (fun i=>[tR tA (FH l i).2,tR tO (FH l i).1.BC,tR tW (FH l i).1.B9,tI (FH l i).1.buffer,tS (FH l i).1.sites]) (min l.length 400) (fun _=>True) rfl rfl trivial (fun R i hi hP hR=> ?_)
 obtain ⟨ok,pl⟩:=K6 l i
 simp only [AK,AQ,AN,AP,AS,AE,AI,AU,AL,AV,AT,AM,AR,AO,BF,BM,BL,BI,BK,BJ,BG,A7,A4,A5,A8,A6,A9]
 refine AJ (B2 (NT (fun hlt=> ?_) fun hge=> ?_))
 rotate_left
 ·refine EJ hge rfl (BO ?_)
  have:i=min l.length 400:=by omega
  subst this
  exact h
 refine AJ (EE hlt rfl (AW (fun h4=> ?_) fun h4=> ?_))
 ·have hll:i<l.length:=by omega
  replace hR:=hR (by omega) trivial
  have hof:OpF (po l i):=by rw [←gC hll];exact ho _ (List.getElem_mem hll)
  simp only [FH] at hR
  refine AH hll (X7 hll ?_)
  simp only [wR,wP,wI,wW,wH]
  refine fA ok.fits ok.vG hof.a hof.c ?_
  rw [jI ok]
  refine iF (by rw [pl];omega) (AX (by omega) ?_)
  rw [←m0] at hR
  exact hR
 ·have:i=min l.length 400:=by omega
  subst this
  exact h
end Go.Proofs.YtnhicpkhkaihoaaGreat.P
