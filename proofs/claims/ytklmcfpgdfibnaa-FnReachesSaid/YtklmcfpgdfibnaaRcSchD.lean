/- A part of the proof. -/
import Derived.Test.YtklmcfpgdfibnaaRcSchC
namespace Go.Proofs.Ytklmcfpgdfibnaa.P
open Go Go.Proofs.Ytklmcfpgdfibnaa Go.Proofs.Ytklmcfpgdfibnaa.Eng
set_option linter.unusedVariables false
set_option maxHeartbeats 4000000
set_option linter.unusedVariables false
set_option linter.unusedSimpArgs false
attribute [local irreducible] prP gP gE gF AW ixW ldc ldg ldl stc stg scW mkW apW BE cl2 BS C6 CO
variable {w0:World}
def J6 (os:List AG) (q:Que) (i:Nat):List Int:=if (i:Int)∈slQ q then [B8 i (ob os i).gen] else []
theorem QH {x:Hp} {but:Int} {q:Que} {K:J2} (hq:QI x.AD but q) (hol:0<q.length→x.AD.length=8) (h:K (bxV but q) [tI (pick (J6 x.AD q) 8)]):cl2 ⟨Try.prog,w0⟩ 103 C3.sg (bxV but q) (tI (slQ q)::trees x) K:=by
 have ql:=hq.len
 have sl:(slQ q).length=q.length:=by simp
 refine C3.cl2 ?_
 unfold C3.txt
 refine BG (fun i=>iv i::bxV but q) (fun i=>[tI (pick (J6 x.AD q) i)]) 8 (fun _=>True) rfl rfl trivial (fun R i hi _ hR=> ?_)
 have pl:(pick (J6 x.AD q) i).length≤i:=HC (fun i=>by unfold J6;split <;> simp) i
 try simp only [trees]
 simp only [AH,AP,AK,AM,AO,AE,AI,AR,AN,AL,AS,AJ,AT,AQ,BH,BL,BM,BN,BP,BO,BK,A5,A8,A4,A9,A6,A7]
 refine BA (AX (fun hlt=>BZ ?_) fun hge=> ?_)
 ·have hlt:i<8:=by omega
  have hR:=hR hlt trivial
  rw [pick] at hR
  refine PX (x:=(i:Int)) (by omega) (AX (fun hm=> ?_) fun hm=> ?_)
  ·have e:J6 x.AD q i=[B8 i (ob x.AD i).gen]:=by unfold J6;rw [if_pos hm]
   rw [e, ←DJ] at hR
   have ol:=hol (by rw [←sl];exact List.length_pos_of_mem hm)
   have il:i<x.AD.length:=by omega
   exact AU il (I4 il (by decide) rfl (OS (EH rfl (by first | omega | (simp only [AH,AP,AK,AM,AO,AE,AI,AR,AN,AL,AS,AJ,AT,AQ,BH,BL,BM,BN,BP,BO,BK,A5,A8,A4,A9,A6,A7];omega)) (BB (by omega) hR))))
  ·have e:J6 x.AD q i=[]:=by unfold J6;rw [if_neg hm]
   rw [e,List.append_nil] at hR
   exact BB (by omega) hR
 ·have:i=8:=by omega
  subst this
  exact h
theorem bL {x:Hp} (hk:BW x) (ids:List Int):pick (J6 x.AD (H6 x.AD (-1) ids)) 8=DV x.AD ids:=by
 unfold DV
 have e:GF x.AD=pick (F5 x.AD) 8:=by unfold GF;rw [hk.ol]
 rw [e,SR]
 refine cO fun i i8=> ?_
 obtain ⟨h1,h2⟩:=TY x.AD (-1) ids
 cases hv:(ob x.AD i).live with
 | false=>
   have a:J6 x.AD (H6 x.AD (-1) ids) i=[]:=by
    unfold J6
    rw [if_neg]
    intro hm
    obtain ⟨k,e1,_,kv,_⟩:=h1.lv _ hm
    have:i=k:=by omega
    subst this
    rw [hv] at kv;cases kv
   have b:F5 x.AD i=[]:=by
    unfold F5
    rw [if_neg]
    rintro ⟨_,h⟩
    rw [hv] at h;cases h
   rw [a,b];rfl
 | true=>
   have b:F5 x.AD i=[B8 i (ob x.AD i).gen]:=by
    unfold F5
    rw [if_pos ⟨by omega,hv⟩]
   rw [b]
   unfold J6
   have hi:(i:Int)∈slQ (H6 x.AD (-1) ids)↔B8 i (ob x.AD i).gen∈HJ x.AD (H6 x.AD (-1) ids):=by
    have hp:=hk.hp.obj i i8
    have hs:=EW hk.ol i8 hv (hp.lv hv).1 hp.gen.2
    rw [QW h1 (by omega),hs];exact Iff.rfl
   by_cases hm:(i:Int)∈slQ (H6 x.AD (-1) ids)
   ·rw [if_pos hm]
    simp only [List.filter_cons,List.filter_nil]
    rw [if_pos (by simpa using hi.1 hm)]
   ·rw [if_neg hm]
    simp only [List.filter_cons,List.filter_nil]
    rw [if_neg (by simpa using fun hh=>hm (hi.2 hh))]
theorem HG {x:Hp} {ids:List Int} {K:J2} (hk:BW x) (hids: ∀v∈ids,F64 v) (hl:ids.length≤1000) (h:K [] [tI (DV x.AD ids)]):cl2 ⟨Try.prog,w0⟩ 34 CG.sg [] (trees x++[tI ids]) K:=by
 have hof:=(hk.st hk.KH).of
 refine CG.cl2 ?_
 unfold CG.txt
 refine WA (x:=x) (but:= -1) hk.fits hof hids hl (by omega) ?_
 refine QH (x:=x) (but:= -1) (q:=H6 x.AD (-1) ids) (TY _ _ _).1 (fun _=>hk.ol) ?_
 rw [bL hk]
 exact h
theorem WE {x:Hp} {K:J2} (hk:BW x) (h:K [] [tI (PW x.AD)]):cl2 ⟨Try.prog,w0⟩ 27 FO.sg [] (trees x) K:=by
 have ol:=hk.ol
 have fits:=hk.fits
 refine FO.cl2 ?_
 unfold FO.txt
 try simp only [trees]
 try simp only [AH,AP,AK,AM,AO,AE,AI,AR,AN,AL,AS,AJ,AT,AQ,BH,BL,BM,BN,BP,BO,BK,A5,A8,A4,A9,A6,A7]
 have el:=aX x.AD
 refine DK (FU (by omega) (MQ fits.ol (HG (x:=x) hk (fun v hv=>B9 (by have:=e7 _ v hv;omega)) (by omega) (VK fits.ol ?_))))
 unfold PW at h
 obtain ⟨m,hm⟩: ∃m,GF x.AD=m:=⟨_,rfl⟩
 obtain ⟨r,hr⟩: ∃r,DV x.AD (exts x.AD)=r:=⟨_,rfl⟩
 have ml:m.length≤8:=by have:=SO x.AD;rw [hm] at this;omega
 have rl:r.length≤8:=by rw [←hr];unfold DV;rw [hm];exact Nat.le_trans (List.length_filter_le _ _) ml
 rw [hm,hr] at h ⊢
 simp only [AH,AP,AK,AM,AO,AE,AI,AR,AN,AL,AS,AJ,AT,AQ,BH,BL,BM,BN,BP,BO,BK,A5,A8,A4,A9,A6,A7]
 refine BG (fun i=>[iv m.length,iv i]) (fun i=>[tI r,tI ((m.take i).filter fun v=>decide (v∉r)),tI m]) m.length (fun _=>True) rfl rfl trivial (fun R i hi _ hR=> ?_)
 have fl:((m.take i).filter fun v=>decide (v∉r)).length≤m.length:=Nat.le_trans (List.length_filter_le _ _) (List.length_take_le' _ _)
 simp only [AH,AP,AK,AM,AO,AE,AI,AR,AN,AL,AS,AJ,AT,AQ,BH,BL,BM,BN,BP,BO,BK,A5,A8,A4,A9,A6,A7]
 refine BA (AX (fun hlt=>BZ ?_) fun hge=> ?_)
 ·have hlt:i<m.length:=by omega
  have hR:=hR hlt trivial
  rw [List.take_succ_eq_append_getElem hlt,List.filter_append,DM hlt] at hR
  refine AU hlt (ldI hlt (PX (by omega) (FR (AX (fun hm=> ?_) fun hm=> ?_))))
  ·have e:[gI m i].filter (fun v=>decide (v∉r))=[gI m i]:=by simp [hm]
   rw [e, ←DJ] at hR
   exact EH rfl (by omega) (BB (by omega) hR)
  ·have e:[gI m i].filter (fun v=>decide (v∉r))=[]:=by simpa using hm
   rw [e,List.append_nil] at hR
   exact BB (by omega) hR
 ·have:i=m.length:=by omega
  subst this
  rw [List.take_length]
  exact h
end Go.Proofs.Ytklmcfpgdfibnaa.P
