/- A part of the proof. -/
import Derived.Test.YtnhicpkhkaihoaaGreatFaPlB
namespace Go.Proofs.YtnhicpkhkaihoaaGreat.P
open Go Go.Proofs.YtnhicpkhkaihoaaGreat Go.Proofs.YtnhicpkhkaihoaaGreat.Eng
set_option linter.unusedVariables false
set_option maxHeartbeats 4000000
set_option linter.unusedVariables false
set_option linter.unusedSimpArgs false
attribute [local irreducible] prP gP gE gF AU ixW ldc ldg ldl stc stg scW mkW apW BG cl2 BX GP CZ
variable {w0:World}
theorem pB (o:Op5):tv (nxT (tP o) 0)=I o.kind:=rfl
theorem qW (o:Op5):tv (nxT (tP o) 1)=I o.a:=rfl
theorem qX (o:Op5):tv (nxT (tP o) 2)=I o.b:=rfl
theorem qV (o:Op5):tv (nxT (tP o) 3)=I o.c:=rfl
theorem oD (o:Op5):tv (nxT (tP o) 4)= .string o.site:=rfl
theorem bY {K:J2} (h:K [] (trees hp0)):cl2 ⟨Tryz.prog,w0⟩ 43 HW.sg [] [] K:=by
 refine HW.cl2 ?_
 unfold HW.txt
 refine gX (n:=8) (by omega) ?_
 have e0:RU (AA (iv 8)) [T.c (.bool false),T.c (.int .i64 0)]=tR tW (List.replicate 8 ⟨false,0⟩):=by
  rw [A8];exact hS (f:=tW) 8 ⟨false,0⟩
 rw [e0]
 refine A9 (fun i=>[iv i]) (fun i=>[tR tO (List.replicate i (CT 0)),tR tW (List.replicate 8 ⟨false,0⟩)]) 8 (fun _=>True) rfl rfl trivial (fun R i hi hP hR=> ?_)
 have hln:(List.replicate i (CT 0)).length=i:=List.length_replicate
 simp only [AK,AS,AJ,AI,AM,AE,AH,AN,AO,AP,AL,AR,AT,AQ,BB,BE,BI,BH,BK,BJ,BF,AX,A4,AY,A1,AZ,A5]
 refine AV (AG (fun hlt=> ?_) fun hge=> ?_)
 ·have hlt:i<8:=by omega
  replace hR:=hR hlt trivial
  rw [List.replicate_succ', ←p9] at hR
  exact SU (X2 (by rw [hln];omega) (A6 (by omega) hR))
 ·have:i=8:=by omega
  subst this
  exact h
theorem OT {K:J2} (h:K [] (trees hp0)):cl2 ⟨Tryz.prog,w0⟩ 52 EC.sg [] [] K:=by
 refine EC.cl2 ?_
 unfold EC.txt
 refine gX (n:=8) (by omega) (gX (n:=8) (by omega) ?_)
 have e0:RU (AA (iv 8)) [T.c (.bool false),T.c (.int .i64 0)]=tR tW (List.replicate 8 ⟨false,0⟩):=by
  rw [A8];exact hS (f:=tW) 8 ⟨false,0⟩
 have e1:RU (AA (iv 8)) [T.c (.bool false),T.c (.int .i64 0),T.c (.int .i64 0),T.c (.int .i64 0),T.c (.int .i64 0),T.c (.int .i64 0),T.l 1 [],T.c (.bool false)]=tR tO (List.replicate 8 ⟨false,0,0,0,0,0,[],false⟩):=by
  rw [A8];exact hS (f:=tO) 8 ⟨false,0,0,0,0,0,[],false⟩
 rw [e0,e1]
 have s0:List.replicate 8 (⟨false,0,0,0,0,0,[],false⟩:A7)=mk8 fun i=>if i<0 then CT 0 else ⟨false,0,0,0,0,0,[],false⟩:=rfl
 rw [s0]
 refine A9 (fun i=>[iv i]) (fun i=>[tR tO (mk8 fun k=>if k<i then CT 0 else ⟨false,0,0,0,0,0,[],false⟩),tR tW (List.replicate 8 ⟨false,0⟩)]) 8 (fun _=>True) rfl rfl trivial (fun R i hi hP hR=> ?_)
 simp only [AK,AS,AJ,AI,AM,AE,AH,AN,AO,AP,AL,AR,AT,AQ,BB,BE,BI,BH,BK,BJ,BF,AX,A4,AY,A1,AZ,A5]
 simp only [C1]
 refine AV (AG (fun hlt=> ?_) fun hge=> ?_)
 ·have hlt:i<8:=by omega
  replace hR:=hR hlt trivial
  refine LA (AW hlt ?_)
  have hml:i<(mk8 fun k=>if k<i then CT 0 else ⟨false,0,0,0,0,0,[],false⟩).length:=by rw [C1];exact hlt
  have hoi:(mk8 fun k=>if k<i then CT 0 else ⟨false,0,0,0,0,0,[],false⟩)[i]=⟨false,0,0,0,0,0,[],false⟩:=by rw [EG hml,KG hlt,if_neg (by omega)]
  refine wQ (f:=tO) (c:=6) (y:=CT 0) hml (by decide) (by rw [hoi];rfl) ?_
  rw [RA hlt,LL (g:=fun k=>if k<i+1 then CT 0 else ⟨false,0,0,0,0,0,[],false⟩) fun k hk=>by
   by_cases h1:k=i
   ·rw [if_pos h1,if_pos (by omega)]
   ·rw [if_neg h1]
    by_cases h2:k<i
    ·rw [if_pos h2,if_pos (by omega)]
    ·rw [if_neg h2,if_neg (by omega)]]
  exact A6 (by omega) hR
 ·have:i=8:=by omega
  subst this
  exact h
theorem lT {l:List Op5} {K:J2} (hl:(l.length:Int)≤2^40) (ho: ∀o∈l,OpF o) (h:K [] (trees (DG l (min l.length 400)).1++[tR tA (DG l (min l.length 400)).2])):cl2 ⟨Tryz.prog,w0⟩ 36 KZ.sg [] [tR tP l] K:=by
 refine KZ.cl2 ?_
 unfold KZ.txt
 refine OT ?_
 simp only [AK,AS,AJ,AI,AM,AE,AH,AN,AO,AP,AL,AR,AT,AQ,BB,BE,BI,BH,BK,BJ,BF,AX,A4,AY,A1,AZ,A5]
 refine A9 (fun i=>[iv i]) (fun i=>[tR tA (DG l i).2,tR tO (DG l i).1.BD,tR tW (DG l i).1.B8,tI (DG l i).1.buffer,tS (DG l i).1.sites]) (min l.length 400) (fun _=>True) rfl rfl trivial (fun R i hi hP hR=> ?_)
 obtain ⟨ok,pl⟩:=ND l i
 simp only [AK,AS,AJ,AI,AM,AE,AH,AN,AO,AP,AL,AR,AT,AQ,BB,BE,BI,BH,BK,BJ,BF,AX,A4,AY,A1,AZ,A5]
 refine AV (BM (IG (fun hlt=> ?_) fun hge=> ?_))
 rotate_left
 ·refine CD hge rfl (BT ?_)
  have:i=min l.length 400:=by omega
  subst this
  exact h
 refine AV (CI hlt rfl (AG (fun h4=> ?_) fun h4=> ?_))
 ·have hll:i<l.length:=by omega
  replace hR:=hR (by omega) trivial
  have hof:OpF (po l i):=by rw [←dO hll];exact ho _ (List.getElem_mem hll)
  simp only [DG] at hR
  refine AW hll (WW hll ?_)
  simp only [pB,qW,qX,qV,oD]
  refine Q1 ok.fits ok.iJ hof.a hof.c ?_
  rw [QC ok]
  refine X2 (by rw [pl];omega) (A6 (by omega) ?_)
  rw [←VQ] at hR
  exact hR
 ·have:i=min l.length 400:=by omega
  subst this
  exact h
end Go.Proofs.YtnhicpkhkaihoaaGreat.P
