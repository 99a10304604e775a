/- A part of the proof. -/
import Derived.Test.YtnhicpkhkaihoaaCkPlB
namespace Go.Proofs.Ytnhicpkhkaihoaa.P
open Go Go.Proofs.Ytnhicpkhkaihoaa Go.Proofs.Ytnhicpkhkaihoaa.Eng
set_option linter.unusedVariables false
set_option maxHeartbeats 4000000
set_option linter.unusedVariables false
set_option linter.unusedSimpArgs false
attribute [local irreducible] prP gP gE gF AU ixW ldc ldg ldl stc stg scW mkW apW BD cl2 BW FR DK
variable {w0:World}
theorem q9 (o:Op5):tv (nxT (tP o) 0)=I o.kind:=rfl
theorem rA (o:Op5):tv (nxT (tP o) 1)=I o.a:=rfl
theorem rT (o:Op5):tv (nxT (tP o) 2)=I o.b:=rfl
theorem rM (o:Op5):tv (nxT (tP o) 3)=I o.c:=rfl
theorem rQ (o:Op5):tv (nxT (tP o) 4)= .string o.site:=rfl
theorem WK {K:J2} (h:K [] (trees hp0)):cl2 ⟨Try.prog,w0⟩ 129 FW.sg [] [] K:=by
 refine FW.cl2 ?_
 unfold FW.txt
 refine gU (n:=8) (by omega) ?_
 have e0:QM (AA (iv 8)) [T.c (.bool false),T.c (.int .i64 0)]=tR tW (List.replicate 8 ⟨false,0⟩):=by
  rw [AY];exact U9 (f:=tW) 8 ⟨false,0⟩
 rw [e0]
 refine BA (fun i=>[iv i]) (fun i=>[tR tO (List.replicate i (CO 0)),tR tW (List.replicate 8 ⟨false,0⟩)]) 8 (fun _=>True) rfl rfl trivial (fun R i hi hP hR=> ?_)
 have hln:(List.replicate i (CO 0)).length=i:=List.length_replicate
 simp only [AI,AM,AP,AR,AT,AD,AH,AL,AK,AO,AQ,AJ,AS,AN,BE,BJ,BH,BK,BI,BG,BF,A1,AZ,A5,A7,A6,A4]
 refine AV (AW (fun hlt=> ?_) fun hge=> ?_)
 ·have hlt:i<8:=by omega
  replace hR:=hR hlt trivial
  rw [List.replicate_succ', ←jL] at hR
  exact PE (eM (by rw [hln];omega) (A8 (by omega) hR))
 ·have:i=8:=by omega
  subst this
  exact h
theorem eN {l:List Op5} {K:J2} (hl:(l.length:Int)≤2^40) (ho: ∀o∈l,OpF o) (h:K [] (trees (G7 l (min l.length 400)).1++[tR tA (G7 l (min l.length 400)).2])):cl2 ⟨Try.prog,w0⟩ 59 HT.sg [] [tR tP l] K:=by
 refine HT.cl2 ?_
 unfold HT.txt
 refine WK ?_
 simp only [AI,AM,AP,AR,AT,AD,AH,AL,AK,AO,AQ,AJ,AS,AN,BE,BJ,BH,BK,BI,BG,BF,A1,AZ,A5,A7,A6,A4]
 refine VC ?_
 simp only [AY]
 refine BA (fun i=>[iv (min l.length 400),iv 0,iv (min l.length 400),iv i]) (fun i=>[tR tA (G7 l i).2,tR tO (G7 l i).1.BB,tR tW (G7 l i).1.B5,tI (G7 l i).1.buffer,tS (G7 l i).1.sites]) (min l.length 400) (fun _=>True) rfl rfl trivial (fun R i hi hP hR=> ?_)
 obtain ⟨ok,pl⟩:=L5 l i
 simp only [AI,AM,AP,AR,AT,AD,AH,AL,AK,AO,AQ,AJ,AS,AN,BE,BJ,BH,BK,BI,BG,BF,A1,AZ,A5,A7,A6,A4]
 simp only [AY]
 refine AV (AW (fun hlt=> ?_) fun hge=> ?_)
 ·have hlt:i<min l.length 400:=by omega
  have hll:i<l.length:=by omega
  replace hR:=hR hlt trivial
  have hof:OpF (po l i):=by rw [←dZ hll];exact ho _ (List.getElem_mem hll)
  simp only [G7] at hR
  refine AG hlt ?_
  rw [Nat.zero_add]
  refine eZ hll ?_
  simp only [q9,rA,rT,rM,rQ]
  refine ZT ok ok.qG hof.a hof.c (eM (by rw [pl];omega) (A8 (by omega) ?_))
  rw [←jQ] at hR
  exact hR
 ·have:i=min l.length 400:=by omega
  subst this
  exact h
theorem WH {K:J2} (h:K [] (trees hp0)):cl2 ⟨Try.prog,w0⟩ 128 FY.sg [] [] K:=by
 refine FY.cl2 ?_
 unfold FY.txt
 refine gU (n:=8) (by omega) (gU (n:=8) (by omega) ?_)
 have e0:QM (AA (iv 8)) [T.c (.bool false),T.c (.int .i64 0)]=tR tW (List.replicate 8 ⟨false,0⟩):=by
  rw [AY];exact U9 (f:=tW) 8 ⟨false,0⟩
 have e1:QM (AA (iv 8)) [T.c (.bool false),T.c (.int .i64 0),T.c (.int .i64 0),T.c (.int .i64 0),T.c (.int .i64 0),T.c (.int .i64 0),T.l 1 [],T.c (.bool false)]=tR tO (List.replicate 8 ⟨false,0,0,0,0,0,[],false⟩):=by
  rw [AY];exact U9 (f:=tO) 8 ⟨false,0,0,0,0,0,[],false⟩
 rw [e0,e1]
 have s0:List.replicate 8 (⟨false,0,0,0,0,0,[],false⟩:AX)=mk8 fun i=>if i<0 then CO 0 else ⟨false,0,0,0,0,0,[],false⟩:=rfl
 rw [s0]
 refine BA (fun i=>[iv i]) (fun i=>[tR tO (mk8 fun k=>if k<i then CO 0 else ⟨false,0,0,0,0,0,[],false⟩),tR tW (List.replicate 8 ⟨false,0⟩)]) 8 (fun _=>True) rfl rfl trivial (fun R i hi hP hR=> ?_)
 simp only [AI,AM,AP,AR,AT,AD,AH,AL,AK,AO,AQ,AJ,AS,AN,BE,BJ,BH,BK,BI,BG,BF,A1,AZ,A5,A7,A6,A4]
 simp only [CF]
 refine AV (AW (fun hlt=> ?_) fun hge=> ?_)
 ·have hlt:i<8:=by omega
  replace hR:=hR hlt trivial
  refine IV (AG hlt ?_)
  have hml:i<(mk8 fun k=>if k<i then CO 0 else ⟨false,0,0,0,0,0,[],false⟩).length:=by rw [CF];exact hlt
  have hoi:(mk8 fun k=>if k<i then CO 0 else ⟨false,0,0,0,0,0,[],false⟩)[i]=⟨false,0,0,0,0,0,[],false⟩:=by rw [DU hml,H4 hlt,if_neg (by omega)]
  refine m9 (f:=tO) (c:=6) (y:=CO 0) hml (by decide) (by rw [hoi];rfl) ?_
  rw [N6 hlt,I9 (g:=fun k=>if k<i+1 then CO 0 else ⟨false,0,0,0,0,0,[],false⟩) fun k hk=>by
   by_cases h1:k=i
   ·rw [if_pos h1,if_pos (by omega)]
   ·rw [if_neg h1]
    by_cases h2:k<i
    ·rw [if_pos h2,if_pos (by omega)]
    ·rw [if_neg h2,if_neg (by omega)]]
  exact A8 (by omega) hR
 ·have:i=8:=by omega
  subst this
  exact h
theorem dC {l:List Op5} {K:J2} (hl:(l.length:Int)≤2^40) (ho: ∀o∈l,OpF o) (h:K [] (trees (G7 l (min l.length 400)).1++[tR tA (G7 l (min l.length 400)).2])):cl2 ⟨Try.prog,w0⟩ 58 IC.sg [] [tR tP l] K:=by
 refine IC.cl2 ?_
 unfold IC.txt
 refine WH ?_
 simp only [AI,AM,AP,AR,AT,AD,AH,AL,AK,AO,AQ,AJ,AS,AN,BE,BJ,BH,BK,BI,BG,BF,A1,AZ,A5,A7,A6,A4]
 refine BA (fun i=>[iv i]) (fun i=>[tR tA (G7 l i).2,tR tO (G7 l i).1.BB,tR tW (G7 l i).1.B5,tI (G7 l i).1.buffer,tS (G7 l i).1.sites]) (min l.length 400) (fun _=>True) rfl rfl trivial (fun R i hi hP hR=> ?_)
 obtain ⟨ok,pl⟩:=L5 l i
 simp only [AI,AM,AP,AR,AT,AD,AH,AL,AK,AO,AQ,AJ,AS,AN,BE,BJ,BH,BK,BI,BG,BF,A1,AZ,A5,A7,A6,A4]
 refine AV (BZ (LY (fun hlt=> ?_) fun hge=> ?_))
 rotate_left
 ·refine E9 hge rfl (BN ?_)
  have:i=min l.length 400:=by omega
  subst this
  exact h
 refine AV (EF hlt rfl (AW (fun h4=> ?_) fun h4=> ?_))
 ·have hll:i<l.length:=by omega
  replace hR:=hR (by omega) trivial
  have hof:OpF (po l i):=by rw [←dZ hll];exact ho _ (List.getElem_mem hll)
  simp only [G7] at hR
  refine AG hll (eZ hll ?_)
  simp only [q9,rA,rT,rM,rQ]
  refine aT ok.fits ok.qG hof.a hof.c ?_
  rw [cJ ok]
  refine eM (by rw [pl];omega) (A8 (by omega) ?_)
  rw [←jQ] at hR
  exact hR
 ·have:i=min l.length 400:=by omega
  subst this
  exact h
end Go.Proofs.Ytnhicpkhkaihoaa.P
