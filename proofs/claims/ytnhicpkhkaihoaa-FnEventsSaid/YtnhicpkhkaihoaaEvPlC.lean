/- A part of the proof. -/
import Derived.Test.YtnhicpkhkaihoaaEvPlB
namespace Go.Proofs.Ytnhicpkhkaihoaa.P
open Go Go.Proofs.Ytnhicpkhkaihoaa Go.Proofs.Ytnhicpkhkaihoaa.Eng
set_option linter.unusedVariables false
set_option maxHeartbeats 4000000
set_option linter.unusedVariables false
set_option linter.unusedSimpArgs false
attribute [local irreducible] prP gP gE gF AI ixW ldc ldg ldl stc stg scW mkW apW BG cl2 BZ EZ DS
variable {w0:World}
theorem uQ (o:Op5):tv (nxT (tP o) 0)=I o.kind:=rfl
theorem vK (o:Op5):tv (nxT (tP o) 1)=I o.a:=rfl
theorem u5 (o:Op5):tv (nxT (tP o) 2)=I o.b:=rfl
theorem uE (o:Op5):tv (nxT (tP o) 3)=I o.c:=rfl
theorem uM (o:Op5):tv (nxT (tP o) 4)= .string o.site:=rfl
theorem PD {K:J2} (h:K [] (trees hp0)):cl2 ⟨Try.prog,w0⟩ 128 DZ.sg [] [] K:=by
 refine DZ.cl2 ?_
 unfold DZ.txt
 refine cZ (n:=8) (by omega) (cZ (n:=8) (by omega) ?_)
 have e0:QJ (AA (iv 8)) [T.c (.bool false),T.c (.int .i64 0)]=tR tW (List.replicate 8 ⟨false,0⟩):=by
  rw [AY];exact Z2 (f:=tW) 8 ⟨false,0⟩
 have e1:QJ (AA (iv 8)) [T.c (.bool false),T.c (.int .i64 0),T.c (.int .i64 0),T.c (.int .i64 0),T.c (.int .i64 0),T.c (.int .i64 0),T.l 1 [],T.c (.bool false)]=tR tO (List.replicate 8 ⟨false,0,0,0,0,0,[],false⟩):=by
  rw [AY];exact Z2 (f:=tO) 8 ⟨false,0,0,0,0,0,[],false⟩
 rw [e0,e1]
 have s0:List.replicate 8 (⟨false,0,0,0,0,0,[],false⟩:AX)=mk8 fun i=>if i<0 then DT 0 else ⟨false,0,0,0,0,0,[],false⟩:=rfl
 rw [s0]
 refine BF (fun i=>[iv i]) (fun i=>[tR tO (mk8 fun k=>if k<i then DT 0 else ⟨false,0,0,0,0,0,[],false⟩),tR tW (List.replicate 8 ⟨false,0⟩)]) 8 (fun _=>True) rfl rfl trivial (fun R i hi hP hR=> ?_)
 simp only [AJ,AQ,AL,AR,AO,AE,AG,AU,AN,AS,AV,AP,AM,AT,BN,BS,BV,BT,BW,BU,BO,A9,A6,A4,A7,A8,A5]
 simp only [DB]
 refine A1 (AH (fun hlt=> ?_) fun hge=> ?_)
 ·have hlt:i<8:=by omega
  replace hR:=hR hlt trivial
  refine IL (AK hlt ?_)
  have hml:i<(mk8 fun k=>if k<i then DT 0 else ⟨false,0,0,0,0,0,[],false⟩).length:=by rw [DB];exact hlt
  have hoi:(mk8 fun k=>if k<i then DT 0 else ⟨false,0,0,0,0,0,[],false⟩)[i]=⟨false,0,0,0,0,0,[],false⟩:=by rw [DY hml,I9 hlt,if_neg (by omega)]
  refine m0 (f:=tO) (c:=6) (y:=DT 0) hml (by decide) (by rw [hoi];rfl) ?_
  rw [ZX hlt,M8 (g:=fun k=>if k<i+1 then DT 0 else ⟨false,0,0,0,0,0,[],false⟩) fun k hk=>by
   by_cases h1:k=i
   ·rw [if_pos h1,if_pos (by omega)]
   ·rw [if_neg h1]
    by_cases h2:k<i
    ·rw [if_pos h2,if_pos (by omega)]
    ·rw [if_neg h2,if_neg (by omega)]]
  exact BD (by omega) hR
 ·have:i=8:=by omega
  subst this
  exact h
theorem cB {l:List Op5} {K:J2} (hl:(l.length:Int)≤2^40) (ho: ∀o∈l,OpF o) (h:K [] (trees (L4 l (min l.length 400)).1++[tR tA (L4 l (min l.length 400)).2])):cl2 ⟨Try.prog,w0⟩ 58 H5.sg [] [tR tP l] K:=by
 refine H5.cl2 ?_
 unfold H5.txt
 refine PD ?_
 simp only [AJ,AQ,AL,AR,AO,AE,AG,AU,AN,AS,AV,AP,AM,AT,BN,BS,BV,BT,BW,BU,BO,A9,A6,A4,A7,A8,A5]
 refine BF (fun i=>[iv i]) (fun i=>[tR tA (L4 l i).2,tR tO (L4 l i).1.BB,tR tW (L4 l i).1.B9,tI (L4 l i).1.buffer,tS (L4 l i).1.sites]) (min l.length 400) (fun _=>True) rfl rfl trivial (fun R i hi hP hR=> ?_)
 obtain ⟨ok,pl⟩:=RQ l i
 simp only [AJ,AQ,AL,AR,AO,AE,AG,AU,AN,AS,AV,AP,AM,AT,BN,BS,BV,BT,BW,BU,BO,A9,A6,A4,A7,A8,A5]
 refine A1 (BP (LJ (fun hlt=> ?_) fun hge=> ?_))
 rotate_left
 ·refine FV hge rfl (CD ?_)
  have:i=min l.length 400:=by omega
  subst this
  exact h
 refine A1 (EY hlt rfl (AH (fun h4=> ?_) fun h4=> ?_))
 ·have hll:i<l.length:=by omega
  replace hR:=hR (by omega) trivial
  have hof:OpF (po l i):=by rw [←p7 hll];exact ho _ (List.getElem_mem hll)
  simp only [L4] at hR
  refine AK hll (rO hll ?_)
  simp only [uQ,vK,u5,uE,uM]
  refine N6 ok.fits ok.nL hof.a hof.c ?_
  rw [SL ok]
  refine qO (by rw [pl];omega) (BD (by omega) ?_)
  rw [←oP] at hR
  exact hR
 ·have:i=min l.length 400:=by omega
  subst this
  exact h
end Go.Proofs.Ytnhicpkhkaihoaa.P
