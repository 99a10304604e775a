/- A part of the proof. -/
import Derived.Test.YtklmcfpgdfibnaaClSchA
import Derived.Test.YtklmcfpgdfibnaaClLetA
namespace Go.Proofs.Ytklmcfpgdfibnaa.P
open Go Go.Proofs.Ytklmcfpgdfibnaa Go.Proofs.Ytklmcfpgdfibnaa.Eng
set_option linter.unusedVariables false
set_option maxHeartbeats 4000000
set_option linter.unusedVariables false
set_option linter.unusedSimpArgs false
attribute [local irreducible] prP gP gE gF A7 ixW ldc ldg ldl stc stg scW mkW apW BD cl2 BP DT C0
variable {w0:World}
theorem MJ {α:Type} (p:α→Bool) {f:Nat→List α}: ∀n,(pick f n).filter p=pick (fun i=>(f i).filter p) n
 | 0=>rfl
 | n+1=>by rw [pick,List.filter_append,MJ p n];rfl
theorem VH {a:List AT} {b c d:List T} {l:List Int} {K:J2} (hl:(a.length:Int)≤1048576) (hl2:l.length≤1000) (h:K [] [tI ((FZ a).filter fun v=>decide (v∈l))]):cl2 ⟨Try.prog,w0⟩ 101 FQ.sg [] [tR tO a,b,c,d,tI l] K:=by
 refine FQ.cl2 ?_
 unfold FQ.txt
 refine H7 hl ?_
 obtain ⟨m,hm⟩: ∃m,FZ a=m:=⟨_,rfl⟩
 have ml:(m.length:Int)≤1048576:=by have:=NU a;rw [hm] at this;omega
 rw [hm] at h ⊢
 simp only [AG,AR,AL,AJ,AK,AE,AH,AO,AI,AS,AN,AM,AP,AQ,BE,BM,BJ,BL,BH,BK,BF,A5,AX,AY,A4,A6,AZ]
 refine BC (fun i=>[iv i]) (fun i=>[tI ((m.take i).filter fun v=>decide (v∈l)),tI m]) m.length (fun _=>True) rfl rfl trivial (fun R i hi _ hR=> ?_)
 have fl:((m.take i).filter fun v=>decide (v∈l)).length≤m.length:=Nat.le_trans (List.length_filter_le _ _) (List.length_take_le' _ _)
 simp only [AG,AR,AL,AJ,AK,AE,AH,AO,AI,AS,AN,AM,AP,AQ,BE,BM,BJ,BL,BH,BK,BF,A5,AX,AY,A4,A6,AZ]
 refine A8 (AW (fun hlt=>BQ ?_) fun hge=> ?_)
 ·have hlt:i<m.length:=by omega
  have hR:=hR hlt trivial
  rw [List.take_succ_eq_append_getElem hlt,List.filter_append,DP hlt] at hR
  refine AU hlt (ldI hlt (IE (by omega) (AW (fun hm=> ?_) fun hm=> ?_)))
  ·have e:[gI m i].filter (fun v=>decide (v∈l))=[gI m i]:=by simp [hm]
   rw [e, ←C1] at hR
   exact AU hlt (ldI hlt (DQ rfl (by omega) (A9 (by omega) hR)))
  ·have e:[gI m i].filter (fun v=>decide (v∈l))=[]:=by simp [hm]
   rw [e,List.append_nil] at hR
   exact A9 (by omega) hR
 ·have:i=m.length:=by omega
  subst this
  rw [List.take_length]
  exact h
def HN (os:List AT) (ids:List Int):List Int:=(FZ os).filter fun v=>decide (v∈KM os (LK os (-1) ids))
theorem qO (os:List AT):AA os (-1)= -1:=FK (.inl (by omega))
theorem BX.yC {x:Hp} (hk:BX x): ∀i,i<8→ -1000000≤(ob x.AD i).gen∧(ob x.AD i).gen≤1000000:=fun i hi=>by
 have:=(hk.obj i hi).gen
 omega
theorem NY {x:Hp} {ids:List Int} {K:J2} (hk:BX x) (hids: ∀v∈ids,F64 v) (hl:ids.length≤1000) (h:K [] [tI (HN x.AD ids)]):cl2 ⟨Try.prog,w0⟩ 32 C6.sg [] (trees x++[tI ids]) K:=by
 have ol:=hk.ol
 have fits:=hk.fits
 refine C6.cl2 ?_
 unfold C6.txt
 try simp only [trees,List.cons_append,List.nil_append]
 try simp only [AG,AR,AL,AJ,AK,AE,AH,AO,AI,AS,AN,AM,AP,AQ,BE,BM,BJ,BL,BH,BK,BF,A5,AX,AY,A4,A6,AZ]
 refine CP (D9 (by omega) (UT (x:=x) (b:= -1) fits hk.KP hk.yC hids hl ?_))
 rw [qO]
 have ql:=(VE x.AD (-1) ids).1.len
 have il:=PU x.AD (LK x.AD (-1) ids)
 exact VH fits.ol (by omega) h
theorem S5 (os:List AT):(exts os).length≤os.length:=GX (VQ os) _
theorem UZ (os:List AT): ∀v∈exts os, -1≤v∧v≤7999:=WU (fun i x hx=>by
 unfold OV at hx;split at hx
 ·rw [List.mem_singleton.1 hx];exact ZL _ _
 ·cases hx) _
theorem TV {x:Hp} (hk:BX x) {ids:List Int} {k:Nat} (k8:k<8) (kv:(ob x.AD k).live=true):CA k (ob x.AD k).gen∈KM x.AD (LK x.AD (-1) ids)↔RB x.AD ids k:=by
 have hp:=hk.hp.obj k k8
 have hs:=EZ hk.ol k8 kv (hp.lv kv).1 hp.gen.2
 obtain ⟨h1,h2⟩:=VE x.AD (-1) ids
 rw [R0 h1 (by omega),hs,h2]
 unfold u7 RB
 constructor
 ·rintro ⟨v,hv,s,e,_,hr⟩;exact ⟨v,hv,s,e,X7.1 hr⟩
 ·rintro ⟨v,hv,s,e,hr⟩;exact ⟨v,hv,s,e,by omega,X7.2 hr⟩
theorem aJ {x:Hp} (hk:BX x) {k:Nat}:RB x.AD (exts x.AD) k↔Rch x.AD k:=by
 constructor
 ·rintro ⟨v,hv,s,hs,hr⟩
  obtain ⟨i,hi,hx⟩:=NQ.1 hv
  unfold OV at hx
  split at hx
  ·rename_i hc
   rw [List.mem_singleton.1 hx] at hs
   have i8:i<8:=by omega
   have hp:=hk.hp.obj i i8
   have l:=hp.lv hc.2.1
   rw [EZ hk.ol i8 hc.2.1 l.1 hp.gen.2] at hs
   have:i=s:=by omega
   subst this
   have e:=hc.2.2
   rw [HW ⟨by omega,by omega⟩] at e
   exact ⟨i,⟨i8,hc.2.1,e⟩,hr⟩
  ·cases hx
 ·rintro ⟨e,he,hr⟩
  have hp:=hk.hp.obj e he.lt
  have l:=hp.lv he.lv
  refine ⟨CA e (ob x.AD e).gen,NQ.2 ⟨e,by rw [hk.ol];exact he.lt, ?_⟩,e,EZ hk.ol he.lt he.lv l.1 hp.gen.2,hr⟩
  unfold OV
  rw [if_pos ⟨by have:=he.lt;omega,he.lv,by rw [HW ⟨by omega,by omega⟩];exact he.pos⟩]
  simp
def NL (os:List AT):List Int:=(FZ os).filter fun v=>decide (v∉HN os (exts os))
theorem X0 {x:Hp} {K:J2} (hk:BX x) (h:K [] [tI (NL x.AD)]):cl2 ⟨Try.prog,w0⟩ 22 GS.sg [] (trees x) K:=by
 have ol:=hk.ol
 have fits:=hk.fits
 refine GS.cl2 ?_
 unfold GS.txt
 try simp only [trees]
 try simp only [AG,AR,AL,AJ,AK,AE,AH,AO,AI,AS,AN,AM,AP,AQ,BE,BM,BJ,BL,BH,BK,BF,A5,AX,AY,A4,A6,AZ]
 have el:=S5 x.AD
 refine CP (D9 (by omega) (NH fits.ol (NY (x:=x) hk (fun v hv=>CE (by have:=UZ _ v hv;omega)) (by omega) (H7 fits.ol ?_))))
 unfold NL at h
 obtain ⟨m,hm⟩: ∃m,FZ x.AD=m:=⟨_,rfl⟩
 obtain ⟨r,hr⟩: ∃r,HN x.AD (exts x.AD)=r:=⟨_,rfl⟩
 have ml:m.length≤8:=by have:=NU x.AD;rw [hm] at this;omega
 have rl:r.length≤8:=by rw [←hr];unfold HN;rw [hm];exact Nat.le_trans (List.length_filter_le _ _) ml
 rw [hm,hr] at h ⊢
 simp only [AG,AR,AL,AJ,AK,AE,AH,AO,AI,AS,AN,AM,AP,AQ,BE,BM,BJ,BL,BH,BK,BF,A5,AX,AY,A4,A6,AZ]
 refine BC (fun i=>[iv i]) (fun i=>[tI ((m.take i).filter fun v=>decide (v∉r)),tI r,tI m]) m.length (fun _=>True) rfl rfl trivial (fun R i hi _ hR=> ?_)
 have fl:((m.take i).filter fun v=>decide (v∉r)).length≤m.length:=Nat.le_trans (List.length_filter_le _ _) (List.length_take_le' _ _)
 simp only [AG,AR,AL,AJ,AK,AE,AH,AO,AI,AS,AN,AM,AP,AQ,BE,BM,BJ,BL,BH,BK,BF,A5,AX,AY,A4,A6,AZ]
 refine A8 (AW (fun hlt=>BQ ?_) fun hge=> ?_)
 ·have hlt:i<m.length:=by omega
  have hR:=hR hlt trivial
  rw [List.take_succ_eq_append_getElem hlt,List.filter_append,DP hlt] at hR
  refine AU hlt (ldI hlt (IE (by omega) (FD (AW (fun hm=> ?_) fun hm=> ?_))))
  ·have e:[gI m i].filter (fun v=>decide (v∉r))=[gI m i]:=by simp [hm]
   rw [e, ←C1] at hR
   exact AU hlt (ldI hlt (DQ rfl (by omega) (A9 (by omega) hR)))
  ·have e:[gI m i].filter (fun v=>decide (v∉r))=[]:=by simpa using hm
   rw [e,List.append_nil] at hR
   exact A9 (by omega) hR
 ·have:i=m.length:=by omega
  subst this
  rw [List.take_length]
  exact h
theorem eT {x:Hp} (hk:BX x) (g:Gd x.AD x.buffer):NL x.AD=HY x.AD (GJ x.AD (fun i=>(ob x.AD i).count) x.buffer) 8:=by
 have wi: ∀k,k<8→(ob x.AD k).live=true→(GJ x.AD (fun i=>(ob x.AD i).count) x.buffer k=true↔ ¬Rch x.AD k):=fun k k8 kv=>YD hk.hp g k8 kv
 have wl: ∀k,GJ x.AD (fun i=>(ob x.AD i).count) x.buffer k=true→(ob x.AD k).live=true:=fun k hw=>(H3.1 hw).1.live
 generalize GJ x.AD (fun i=>(ob x.AD i).count) x.buffer=W at wi wl
 unfold NL HY
 have e:FZ x.AD=pick (D6 x.AD) 8:=by unfold FZ;rw [hk.ol]
 rw [e,MJ]
 refine N8 fun i i8=> ?_
 unfold D6
 cases hv:(ob x.AD i).live with
 | false=>
   rw [if_neg (by simp)]
   have: ¬W i=true:=fun hw=>by rw [wl i hw] at hv;cases hv
   rw [if_neg this];rfl
 | true=>
   rw [if_pos ⟨by omega,rfl⟩]
   have hin:CA i (ob x.AD i).gen∈HN x.AD (exts x.AD)↔Rch x.AD i:=by
    unfold HN
    rw [List.mem_filter,decide_eq_true_eq,TV hk i8 hv,aJ hk]
    exact ⟨fun hh=>hh.2,fun hh=>⟨YJ hk.ol i8 hv,hh⟩⟩
   by_cases hw:W i=true
   ·rw [if_pos hw]
    have:=(wi i i8 hv).1 hw
    simp only [List.filter_cons,List.filter_nil]
    rw [if_pos (by simpa using fun hh=>this (hin.1 hh))]
   ·rw [if_neg hw]
    have:Rch x.AD i:=Classical.byContradiction fun hn=>hw ((wi i i8 hv).2 hn)
    simp only [List.filter_cons,List.filter_nil]
    rw [if_neg (by simpa using hin.2 this)]
end Go.Proofs.Ytklmcfpgdfibnaa.P
