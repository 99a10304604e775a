/- A part of the proof. -/
import Derived.Test.YtklmcfpgdfibnaaReSchA
import Derived.Test.YtklmcfpgdfibnaaReLetA
namespace Go.Proofs.Ytklmcfpgdfibnaa.P
open Go Go.Proofs.Ytklmcfpgdfibnaa Go.Proofs.Ytklmcfpgdfibnaa.Eng
set_option linter.unusedVariables false
set_option maxHeartbeats 4000000
set_option linter.unusedVariables false
set_option linter.unusedSimpArgs false
attribute [local irreducible] prP gP gE gF AY ixW ldc ldg ldl stc stg scW mkW apW BD cl2 BQ CZ B9
variable {w0:World}
theorem PI {α:Type} (p:α→Bool) {f:Nat→List α}: ∀n,(pick f n).filter p=pick (fun i=>(f i).filter p) n
 | 0=>rfl
 | n+1=>by rw [pick,List.filter_append,PI p n];rfl
theorem XN {a:List AG} {b c d:List T} {l:List Int} {K:J2} (hl:(a.length:Int)≤1048576) (hl2:l.length≤1000) (h:K [] [tI ((IB a).filter fun v=>decide (v∈l))]):cl2 ⟨Try.prog,w0⟩ 101 FH.sg [] [tR tO a,b,c,d,tI l] K:=by
 refine FH.cl2 ?_
 unfold FH.txt
 refine LK hl ?_
 obtain ⟨m,hm⟩: ∃m,IB a=m:=⟨_,rfl⟩
 have ml:(m.length:Int)≤1048576:=by have:=P9 a;rw [hm] at this;omega
 rw [hm] at h ⊢
 simp only [AJ,AN,AQ,AR,AK,AE,AL,AI,AS,AP,AU,AT,AM,AO,BJ,BP,BM,BN,BO,BS,BL,A4,A5,A9,A8,BA,A7]
 refine BF (fun i=>[iv i]) (fun i=>[tI ((m.take i).filter fun v=>decide (v∈l)),tI m]) m.length (fun _=>True) rfl rfl trivial (fun R i hi _ hR=> ?_)
 have fl:((m.take i).filter fun v=>decide (v∈l)).length≤m.length:=Nat.le_trans (List.length_filter_le _ _) (List.length_take_le' _ _)
 simp only [AJ,AN,AQ,AR,AK,AE,AL,AI,AS,AP,AU,AT,AM,AO,BJ,BP,BM,BN,BO,BS,BL,A4,A5,A9,A8,BA,A7]
 refine A6 (AW (fun hlt=>BT ?_) fun hge=> ?_)
 ·have hlt:i<m.length:=by omega
  have hR:=hR hlt trivial
  rw [List.take_succ_eq_append_getElem hlt,List.filter_append,DB hlt] at hR
  refine AH hlt (ldI hlt (HB (by omega) (AW (fun hm=> ?_) fun hm=> ?_)))
  ·have e:[gI m i].filter (fun v=>decide (v∈l))=[gI m i]:=by simp [hm]
   rw [e, ←CU] at hR
   exact AH hlt (ldI hlt (DH rfl (by omega) (BB (by omega) hR)))
  ·have e:[gI m i].filter (fun v=>decide (v∈l))=[]:=by simp [hm]
   rw [e,List.append_nil] at hR
   exact BB (by omega) hR
 ·have:i=m.length:=by omega
  subst this
  rw [List.take_length]
  exact h
def KJ (os:List AG) (ids:List Int):List Int:=(IB os).filter fun v=>decide (v∈KI os (GK os (-1) ids))
theorem U3 (os:List AG):AB os (-1)= -1:=DE (.inl (by omega))
theorem BW.yR {x:Hp} (hk:BW x): ∀i,i<8→ -1000000≤(ob x.AD i).gen∧(ob x.AD i).gen≤1000000:=fun i hi=>by
 have:=(hk.obj i hi).gen
 omega
theorem NI {x:Hp} {ids:List Int} {K:J2} (hk:BW x) (hids: ∀v∈ids,F64 v) (hl:ids.length≤1000) (h:K [] [tI (KJ x.AD ids)]):cl2 ⟨Try.prog,w0⟩ 32 C1.sg [] (trees x++[tI ids]) K:=by
 have ol:=hk.ol
 have fits:=hk.fits
 refine C1.cl2 ?_
 unfold C1.txt
 try simp only [trees,List.cons_append,List.nil_append]
 try simp only [AJ,AN,AQ,AR,AK,AE,AL,AI,AS,AP,AU,AT,AM,AO,BJ,BP,BM,BN,BO,BS,BL,A4,A5,A9,A8,BA,A7]
 refine C0 (G6 (by omega) (OI (x:=x) (b:= -1) fits hk.IP hk.yR hids hl ?_))
 rw [U3]
 have ql:=(HO x.AD (-1) ids).1.len
 have il:=NB x.AD (GK x.AD (-1) ids)
 exact XN fits.ol (by omega) h
theorem cL (os:List AG):(exts os).length≤os.length:=FU (SY os) _
theorem aY (os:List AG): ∀v∈exts os, -1≤v∧v≤7999:=WD (fun i x hx=>by
 unfold KY at hx;split at hx
 ·rw [List.mem_singleton.1 hx];exact aC _ _
 ·cases hx) _
theorem TM {x:Hp} (hk:BW x) {ids:List Int} {k:Nat} (k8:k<8) (kv:(ob x.AD k).live=true):B7 k (ob x.AD k).gen∈KI x.AD (GK x.AD (-1) ids)↔RB x.AD ids k:=by
 have hp:=hk.hp.obj k k8
 have hs:=EO hk.ol k8 kv (hp.lv kv).1 hp.gen.2
 obtain ⟨h1,h2⟩:=HO x.AD (-1) ids
 rw [SF h1 (by omega),hs,h2]
 unfold RG RB
 constructor
 ·rintro ⟨v,hv,s,e,_,hr⟩;exact ⟨v,hv,s,e,KZ.1 hr⟩
 ·rintro ⟨v,hv,s,e,hr⟩;exact ⟨v,hv,s,e,by omega,KZ.2 hr⟩
def bM (os:List AG):List Int:=(IB os).filter fun v=>decide (v∉KJ os (exts os))
theorem XV {x:Hp} {K:J2} (hk:BW x) (h:K [] [tI (bM x.AD)]):cl2 ⟨Try.prog,w0⟩ 22 GB.sg [] (trees x) K:=by
 have ol:=hk.ol
 have fits:=hk.fits
 refine GB.cl2 ?_
 unfold GB.txt
 try simp only [trees]
 try simp only [AJ,AN,AQ,AR,AK,AE,AL,AI,AS,AP,AU,AT,AM,AO,BJ,BP,BM,BN,BO,BS,BL,A4,A5,A9,A8,BA,A7]
 have el:=cL x.AD
 refine C0 (G6 (by omega) (JX fits.ol (NI (x:=x) hk (fun v hv=>CE (by have:=aY _ v hv;omega)) (by omega) (LK fits.ol ?_))))
 unfold bM at h
 obtain ⟨m,hm⟩: ∃m,IB x.AD=m:=⟨_,rfl⟩
 obtain ⟨r,hr⟩: ∃r,KJ x.AD (exts x.AD)=r:=⟨_,rfl⟩
 have ml:m.length≤8:=by have:=P9 x.AD;rw [hm] at this;omega
 have rl:r.length≤8:=by rw [←hr];unfold KJ;rw [hm];exact Nat.le_trans (List.length_filter_le _ _) ml
 rw [hm,hr] at h ⊢
 simp only [AJ,AN,AQ,AR,AK,AE,AL,AI,AS,AP,AU,AT,AM,AO,BJ,BP,BM,BN,BO,BS,BL,A4,A5,A9,A8,BA,A7]
 refine BF (fun i=>[iv i]) (fun i=>[tI ((m.take i).filter fun v=>decide (v∉r)),tI r,tI m]) m.length (fun _=>True) rfl rfl trivial (fun R i hi _ hR=> ?_)
 have fl:((m.take i).filter fun v=>decide (v∉r)).length≤m.length:=Nat.le_trans (List.length_filter_le _ _) (List.length_take_le' _ _)
 simp only [AJ,AN,AQ,AR,AK,AE,AL,AI,AS,AP,AU,AT,AM,AO,BJ,BP,BM,BN,BO,BS,BL,A4,A5,A9,A8,BA,A7]
 refine A6 (AW (fun hlt=>BT ?_) fun hge=> ?_)
 ·have hlt:i<m.length:=by omega
  have hR:=hR hlt trivial
  rw [List.take_succ_eq_append_getElem hlt,List.filter_append,DB hlt] at hR
  refine AH hlt (ldI hlt (HB (by omega) (FQ (AW (fun hm=> ?_) fun hm=> ?_))))
  ·have e:[gI m i].filter (fun v=>decide (v∉r))=[gI m i]:=by simp [hm]
   rw [e, ←CU] at hR
   exact AH hlt (ldI hlt (DH rfl (by omega) (BB (by omega) hR)))
  ·have e:[gI m i].filter (fun v=>decide (v∉r))=[]:=by simpa using hm
   rw [e,List.append_nil] at hR
   exact BB (by omega) hR
 ·have:i=m.length:=by omega
  subst this
  rw [List.take_length]
  exact h
end Go.Proofs.Ytklmcfpgdfibnaa.P
