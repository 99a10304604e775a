/- A part of the proof. -/
import Derived.Test.YtklmcfpgdfibnaaReRchA
namespace Go.Proofs.Ytklmcfpgdfibnaa.P
open Go Go.Proofs.Ytklmcfpgdfibnaa Go.Proofs.Ytklmcfpgdfibnaa.Eng
set_option linter.unusedVariables false
set_option maxHeartbeats 4000000
set_option linter.unusedVariables false
set_option linter.unusedSimpArgs false
attribute [local irreducible] prP gP gE gF AY ixW ldc ldg ldl stc stg scW mkW apW BD cl2 BQ CZ B9
variable {w0:World}
theorem Y2 (os:List AG):(exts os).length≤8:=by
 rcases Nat.le_total os.length 8 with h | h
 ·have:=cL os;omega
 ·have e:exts os=pick (KY os) 8:=NO (m:=8) (fun i hi=>by unfold KY;rw [if_neg];omega) _ h
  rw [e];exact FU (SY os) 8
theorem jC {os:List AG} {but:Int} {ids:List Int} (h:0<(GK os but ids).length):os.length=8:=by
 obtain ⟨h1,h2⟩:=HO os but ids
 have hin:=OZ h
 obtain ⟨k,ek,_⟩:=h1.lv _ hin
 rw [ek] at hin
 obtain ⟨v,_,s,hs,_⟩:=(h2 k).1 hin
 exact (BH (l:=os) (id:=v) (by omega)).1
theorem TC (os:List AG) (q:Que):(pick (DV os q) 8).length≤8:=FU (fun i=>by unfold DV;split <;> simp) 8
def SJ (os:List AG) (but:Int):List Int:=(pick (DV os (GK os (-1) (exts os))) 8).filter fun v=>decide (v∉pick (DV os (GK os but (exts os))) 8)
theorem TG {x:Hp} {ids:List Int} {K:J2} (hx:Fits x) (hof: ∀o∈x.AD,OF o) (hids: ∀v∈ids,F64 v) (hl:ids.length≤1000) (h:K [] [tI (pick (DV x.AD (GK x.AD (-1) ids)) 8)]):cl2 ⟨Try.prog,w0⟩ 34 D8.sg [] (trees x++[tI ids]) K:=by
 refine D8.cl2 ?_
 unfold D8.txt
 refine Q3 (x:=x) (but:= -1) hx hof hids hl (by omega) ?_
 exact LH (x:=x) (but:= -1) (q:=GK x.AD (-1) ids) (HO _ _ _).1 jC h
theorem UN {x:Hp} {id:Int} {K:J2} (hx:Fits x) (hof: ∀o∈x.AD,OF o) (fid:F64 id) (h0:AB x.AD id<0→K [] [[]]) (h1:0≤AB x.AD id→K [] [tI (SJ x.AD (AB x.AD id))]):cl2 ⟨Try.prog,w0⟩ 70 DW.sg [I id] (trees x) K:=by
 have ol:=hx.ol
 refine DW.cl2 ?_
 unfold DW.txt
 try simp only [trees]
 try simp only [AJ,AN,AQ,AR,AK,AE,AL,AI,AS,AP,AU,AT,AM,AO,BJ,BP,BM,BN,BO,BS,BL,A4,A5,A9,A8,BA,A7]
 refine MS fid (by omega) (A6 (AW (fun hs=>h0 hs) fun hs=> ?_))
 have h1:=h1 (by omega)
 have sb:=(BH (l:=x.AD) (id:=id) (by omega)).2.2.2.1
 have el:=Y2 x.AD
 have eF: ∀v∈exts x.AD,F64 v:=fun v hv=>CE (by have:=aY _ v hv;omega)
 refine NP ol (Q3 (x:=x) (but:=AB x.AD id) hx hof eF (by omega) (by omega) ?_)
 refine LH (x:=x) (but:=AB x.AD id) (q:=GK x.AD (AB x.AD id) (exts x.AD)) (HO _ _ _).1 jC ?_
 refine NP ol (TG (x:=x) hx hof eF (by omega) ?_)
 unfold SJ at h1
 have l1:=TC x.AD (GK x.AD (AB x.AD id) (exts x.AD))
 have l2:=TC x.AD (GK x.AD (-1) (exts x.AD))
 obtain ⟨r,hr⟩: ∃r,pick (DV x.AD (GK x.AD (AB x.AD id) (exts x.AD))) 8=r:=⟨_,rfl⟩
 obtain ⟨m,hm⟩: ∃m,pick (DV x.AD (GK x.AD (-1) (exts x.AD))) 8=m:=⟨_,rfl⟩
 rw [hr,hm] at h1
 rw [hr] at l1 ⊢
 rw [hm] at l2 ⊢
 simp only [AJ,AN,AQ,AR,AK,AE,AL,AI,AS,AP,AU,AT,AM,AO,BJ,BP,BM,BN,BO,BS,BL,A4,A5,A9,A8,BA,A7]
 refine BF (fun i=>[iv m.length,iv i]) (fun i=>[tI r,tI ((m.take i).filter fun v=>decide (v∉r)),tI m]) m.length (fun _=>True) rfl rfl trivial (fun R i hi _ hR=> ?_)
 have fl:((m.take i).filter fun v=>decide (v∉r)).length≤m.length:=Nat.le_trans (List.length_filter_le _ _) (List.length_take_le' _ _)
 simp only [AJ,AN,AQ,AR,AK,AE,AL,AI,AS,AP,AU,AT,AM,AO,BJ,BP,BM,BN,BO,BS,BL,A4,A5,A9,A8,BA,A7]
 refine A6 (AW (fun hlt=>BT ?_) fun hge=> ?_)
 ·have hlt:i<m.length:=by omega
  have hR:=hR hlt trivial
  rw [List.take_succ_eq_append_getElem hlt,List.filter_append,DB hlt] at hR
  refine AH hlt (ldI hlt (QW (by omega) (FQ (AW (fun hm=> ?_) fun hm=> ?_))))
  ·have e:[gI m i].filter (fun v=>decide (v∉r))=[gI m i]:=by simp [hm]
   rw [e, ←CU] at hR
   exact DH rfl (by omega) (BB (by omega) hR)
  ·have e:[gI m i].filter (fun v=>decide (v∉r))=[]:=by simpa using hm
   rw [e,List.append_nil] at hR
   exact BB (by omega) hR
 ·have:i=m.length:=by omega
  subst this
  rw [List.take_length]
  exact h1
end Go.Proofs.Ytklmcfpgdfibnaa.P
