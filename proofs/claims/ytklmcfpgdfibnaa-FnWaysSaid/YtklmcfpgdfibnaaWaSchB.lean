/- A part of the proof. -/
import Derived.Test.YtklmcfpgdfibnaaWaSchA
import Derived.Test.YtklmcfpgdfibnaaWaLetA
namespace Go.Proofs.Ytklmcfpgdfibnaa.P
open Go Go.Proofs.Ytklmcfpgdfibnaa Go.Proofs.Ytklmcfpgdfibnaa.Eng
set_option linter.unusedVariables false
set_option maxHeartbeats 4000000
set_option linter.unusedVariables false
set_option linter.unusedSimpArgs false
attribute [local irreducible] prP gP gE gF AX ixW ldc ldg ldl stc stg scW mkW apW BE cl2 BK C2 CI
variable {w0:World}
theorem V4 {a:List AE} {b c d:List T} {l:List Int} {K:J2} (hl:(a.length:Int)≤1048576) (hl2:l.length≤1000) (h:K [] [tI ((IN a).filter fun v=>decide (v∈l))]):cl2 ⟨Try.prog,w0⟩ 101 EO.sg [] [tR tO a,b,c,d,tI l] K:=by
 refine EO.cl2 ?_
 unfold EO.txt
 refine IX hl ?_
 obtain ⟨m,hm⟩: ∃m,IN a=m:=⟨_,rfl⟩
 have ml:(m.length:Int)≤1048576:=by have:=SB a;rw [hm] at this;omega
 rw [hm] at h ⊢
 simp only [AI,AU,AL,AR,AQ,AG,AJ,AK,AO,AP,AN,AT,AS,AM,BH,BP,BS,BM,BQ,BN,BL,A6,A5,A4,A7,A8,A9]
 refine BJ (fun i=>[iv i]) (fun i=>[tI ((m.take i).filter fun v=>decide (v∈l)),tI m]) m.length (fun _=>True) rfl rfl trivial (fun R i hi _ hR=> ?_)
 have fl:((m.take i).filter fun v=>decide (v∈l)).length≤m.length:=Nat.le_trans (List.length_filter_le _ _) (List.length_take_le' _ _)
 simp only [AI,AU,AL,AR,AQ,AG,AJ,AK,AO,AP,AN,AT,AS,AM,BH,BP,BS,BM,BQ,BN,BL,A6,A5,A4,A7,A8,A9]
 refine BA (AZ (fun hlt=>BY ?_) fun hge=> ?_)
 ·have hlt:i<m.length:=by omega
  have hR:=hR hlt trivial
  rw [List.take_succ_eq_append_getElem hlt,List.filter_append,DB hlt] at hR
  refine AH hlt (ldI hlt (GN (by omega) (AZ (fun hm=> ?_) fun hm=> ?_)))
  ·have e:[gI m i].filter (fun v=>decide (v∈l))=[gI m i]:=by simp [hm]
   rw [e, ←C9] at hR
   exact AH hlt (ldI hlt (DW rfl (by omega) (BB (by omega) hR)))
  ·have e:[gI m i].filter (fun v=>decide (v∈l))=[]:=by simp [hm]
   rw [e,List.append_nil] at hR
   exact BB (by omega) hR
 ·have:i=m.length:=by omega
  subst this
  rw [List.take_length]
  exact h
def SD (os:List AE) (ids:List Int):List Int:=(IN os).filter fun v=>decide (v∈HA os (HI os (-1) ids))
theorem O9 (os:List AE):AA os (-1)= -1:=EH (.inl (by omega))
theorem BW.w6 {x:Hp} (hk:BW x): ∀i,i<8→ -1000000≤(ob x.AB i).gen∧(ob x.AB i).gen≤1000000:=fun i hi=>by
 have:=(hk.obj i hi).gen
 omega
theorem SE {x:Hp} {ids:List Int} {K:J2} (hk:BW x) (hids: ∀v∈ids,F64 v) (hl:ids.length≤1000) (h:K [] [tI (SD x.AB ids)]):cl2 ⟨Try.prog,w0⟩ 32 DO.sg [] (trees x++[tI ids]) K:=by
 have ol:=hk.ol
 have fits:=hk.fits
 refine DO.cl2 ?_
 unfold DO.txt
 try simp only [trees,List.cons_append,List.nil_append]
 try simp only [AI,AU,AL,AR,AQ,AG,AJ,AK,AO,AP,AN,AT,AS,AM,BH,BP,BS,BM,BQ,BN,BL,A6,A5,A4,A7,A8,A9]
 refine C8 (FM (by omega) (TK (x:=x) (b:= -1) fits hk.IH hk.w6 hids hl ?_))
 rw [O9]
 have ql:=(T8 x.AB (-1) ids).1.len
 have il:=J7 x.AB (HI x.AB (-1) ids)
 exact V4 fits.ol (by omega) h
theorem aA (os:List AE):(exts os).length≤os.length:=HU (RA os) _
theorem YX (os:List AE): ∀v∈exts os, -1≤v∧v≤7999:=VC (fun i x hx=>by
 unfold J9 at hx;split at hx
 ·rw [List.mem_singleton.1 hx];exact ZA _ _
 ·cases hx) _
theorem XD {x:Hp} (hk:BW x) {ids:List Int} {k:Nat} (k8:k<8) (kv:(ob x.AB k).live=true):B6 k (ob x.AB k).gen∈HA x.AB (HI x.AB (-1) ids)↔RB x.AB ids k:=by
 have hp:=hk.hp.obj k k8
 have hs:=EZ hk.ol k8 kv (hp.lv kv).1 hp.gen.2
 obtain ⟨h1,h2⟩:=T8 x.AB (-1) ids
 rw [N0 h1 (by omega),hs,h2]
 unfold cW RB
 constructor
 ·rintro ⟨v,hv,s,e,_,hr⟩;exact ⟨v,hv,s,e,PI.1 hr⟩
 ·rintro ⟨v,hv,s,e,hr⟩;exact ⟨v,hv,s,e,by omega,PI.2 hr⟩
def bQ (os:List AE):List Int:=(IN os).filter fun v=>decide (v∉SD os (exts os))
theorem WV {x:Hp} {K:J2} (hk:BW x) (h:K [] [tI (bQ x.AB)]):cl2 ⟨Try.prog,w0⟩ 22 FO.sg [] (trees x) K:=by
 have ol:=hk.ol
 have fits:=hk.fits
 refine FO.cl2 ?_
 unfold FO.txt
 try simp only [trees]
 try simp only [AI,AU,AL,AR,AQ,AG,AJ,AK,AO,AP,AN,AT,AS,AM,BH,BP,BS,BM,BQ,BN,BL,A6,A5,A4,A7,A8,A9]
 have el:=aA x.AB
 refine C8 (FM (by omega) (I9 fits.ol (SE (x:=x) hk (fun v hv=>CB (by have:=YX _ v hv;omega)) (by omega) (IX fits.ol ?_))))
 unfold bQ at h
 obtain ⟨m,hm⟩: ∃m,IN x.AB=m:=⟨_,rfl⟩
 obtain ⟨r,hr⟩: ∃r,SD x.AB (exts x.AB)=r:=⟨_,rfl⟩
 have ml:m.length≤8:=by have:=SB x.AB;rw [hm] at this;omega
 have rl:r.length≤8:=by rw [←hr];unfold SD;rw [hm];exact Nat.le_trans (List.length_filter_le _ _) ml
 rw [hm,hr] at h ⊢
 simp only [AI,AU,AL,AR,AQ,AG,AJ,AK,AO,AP,AN,AT,AS,AM,BH,BP,BS,BM,BQ,BN,BL,A6,A5,A4,A7,A8,A9]
 refine BJ (fun i=>[iv i]) (fun i=>[tI ((m.take i).filter fun v=>decide (v∉r)),tI r,tI m]) m.length (fun _=>True) rfl rfl trivial (fun R i hi _ hR=> ?_)
 have fl:((m.take i).filter fun v=>decide (v∉r)).length≤m.length:=Nat.le_trans (List.length_filter_le _ _) (List.length_take_le' _ _)
 simp only [AI,AU,AL,AR,AQ,AG,AJ,AK,AO,AP,AN,AT,AS,AM,BH,BP,BS,BM,BQ,BN,BL,A6,A5,A4,A7,A8,A9]
 refine BA (AZ (fun hlt=>BY ?_) fun hge=> ?_)
 ·have hlt:i<m.length:=by omega
  have hR:=hR hlt trivial
  rw [List.take_succ_eq_append_getElem hlt,List.filter_append,DB hlt] at hR
  refine AH hlt (ldI hlt (GN (by omega) (FW (AZ (fun hm=> ?_) fun hm=> ?_))))
  ·have e:[gI m i].filter (fun v=>decide (v∉r))=[gI m i]:=by simp [hm]
   rw [e, ←C9] at hR
   exact AH hlt (ldI hlt (DW rfl (by omega) (BB (by omega) hR)))
  ·have e:[gI m i].filter (fun v=>decide (v∉r))=[]:=by simpa using hm
   rw [e,List.append_nil] at hR
   exact BB (by omega) hR
 ·have:i=m.length:=by omega
  subst this
  rw [List.take_length]
  exact h
end Go.Proofs.Ytklmcfpgdfibnaa.P
