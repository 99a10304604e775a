/- A part of the proof. -/
import Derived.Test.YtklmcfpgdfibnaaClSchC
namespace Go.Proofs.Ytklmcfpgdfibnaa.P
open Go Go.Proofs.Ytklmcfpgdfibnaa Go.Proofs.Ytklmcfpgdfibnaa.Eng
set_option linter.unusedVariables false
set_option maxHeartbeats 4000000
set_option linter.unusedVariables false
set_option linter.unusedSimpArgs false
attribute [local irreducible] prP gP gE gF A7 ixW ldc ldg ldl stc stg scW mkW apW BD cl2 BP DT C0
variable {w0:World}
def K3 (os:List AT) (q:Que) (i:Nat):List Int:=if (i:Int)∈slQ q then [CA i (ob os i).gen] else []
theorem RX {x:Hp} {but:Int} {q:Que} {K:J2} (hq:QI x.AD but q) (hol:0<q.length→x.AD.length=8) (h:K (bxV but q) [tI (pick (K3 x.AD q) 8)]):cl2 ⟨Try.prog,w0⟩ 103 DH.sg (bxV but q) (tI (slQ q)::trees x) K:=by
 have ql:=hq.len
 have sl:(slQ q).length=q.length:=by simp
 refine DH.cl2 ?_
 unfold DH.txt
 refine BC (fun i=>iv i::bxV but q) (fun i=>[tI (pick (K3 x.AD q) i)]) 8 (fun _=>True) rfl rfl trivial (fun R i hi _ hR=> ?_)
 have pl:(pick (K3 x.AD q) i).length≤i:=GX (fun i=>by unfold K3;split <;> simp) i
 try simp only [trees]
 simp only [AG,AR,AL,AJ,AK,AE,AH,AO,AI,AS,AN,AM,AP,AQ,BE,BM,BJ,BL,BH,BK,BF,A5,AX,AY,A4,A6,AZ]
 refine A8 (AW (fun hlt=>BQ ?_) fun hge=> ?_)
 ·have hlt:i<8:=by omega
  have hR:=hR hlt trivial
  rw [pick] at hR
  refine Q8 (x:=(i:Int)) (by omega) (AW (fun hm=> ?_) fun hm=> ?_)
  ·have e:K3 x.AD q i=[CA i (ob x.AD i).gen]:=by unfold K3;rw [if_pos hm]
   rw [e, ←C1] at hR
   have ol:=hol (by rw [←sl];exact List.length_pos_of_mem hm)
   have il:i<x.AD.length:=by omega
   exact AU il (II il (by decide) rfl (KO (DQ rfl (by first | omega | (simp only [AG,AR,AL,AJ,AK,AE,AH,AO,AI,AS,AN,AM,AP,AQ,BE,BM,BJ,BL,BH,BK,BF,A5,AX,AY,A4,A6,AZ];omega)) (A9 (by omega) hR))))
  ·have e:K3 x.AD q i=[]:=by unfold K3;rw [if_neg hm]
   rw [e,List.append_nil] at hR
   exact A9 (by omega) hR
 ·have:i=8:=by omega
  subst this
  exact h
theorem c8 {x:Hp} (hk:BX x) (ids:List Int):pick (K3 x.AD (LK x.AD (-1) ids)) 8=HN x.AD ids:=by
 unfold HN
 have e:FZ x.AD=pick (D6 x.AD) 8:=by unfold FZ;rw [hk.ol]
 rw [e,MJ]
 refine N8 fun i i8=> ?_
 obtain ⟨h1,h2⟩:=VE x.AD (-1) ids
 cases hv:(ob x.AD i).live with
 | false=>
   have a:K3 x.AD (LK x.AD (-1) ids) i=[]:=by
    unfold K3
    rw [if_neg]
    intro hm
    obtain ⟨k,e1,_,kv,_⟩:=h1.lv _ hm
    have:i=k:=by omega
    subst this
    rw [hv] at kv;cases kv
   have b:D6 x.AD i=[]:=by
    unfold D6
    rw [if_neg]
    rintro ⟨_,h⟩
    rw [hv] at h;cases h
   rw [a,b];rfl
 | true=>
   have b:D6 x.AD i=[CA i (ob x.AD i).gen]:=by
    unfold D6
    rw [if_pos ⟨by omega,hv⟩]
   rw [b]
   unfold K3
   have hi:(i:Int)∈slQ (LK x.AD (-1) ids)↔CA i (ob x.AD i).gen∈KM x.AD (LK x.AD (-1) ids):=by
    have hp:=hk.hp.obj i i8
    have hs:=EZ hk.ol i8 hv (hp.lv hv).1 hp.gen.2
    rw [R0 h1 (by omega),hs];exact Iff.rfl
   by_cases hm:(i:Int)∈slQ (LK x.AD (-1) ids)
   ·rw [if_pos hm]
    simp only [List.filter_cons,List.filter_nil]
    rw [if_pos (by simpa using hi.1 hm)]
   ·rw [if_neg hm]
    simp only [List.filter_cons,List.filter_nil]
    rw [if_neg (by simpa using fun hh=>hm (hi.2 hh))]
theorem NA {x:Hp} {ids:List Int} {K:J2} (hk:BX x) (hids: ∀v∈ids,F64 v) (hl:ids.length≤1000) (h:K [] [tI (HN x.AD ids)]):cl2 ⟨Try.prog,w0⟩ 34 C7.sg [] (trees x++[tI ids]) K:=by
 have hof:=(hk.st hk.KP).of
 refine C7.cl2 ?_
 unfold C7.txt
 refine XQ (x:=x) (but:= -1) hk.fits hof hids hl (by omega) ?_
 refine RX (x:=x) (but:= -1) (q:=LK x.AD (-1) ids) (VE _ _ _).1 (fun _=>hk.ol) ?_
 rw [c8 hk]
 exact h
theorem Q7 {x:Hp} {K:J2} (hk:BX x) (h:K [] [tI (NL x.AD)]):cl2 ⟨Try.prog,w0⟩ 27 FE.sg [] (trees x) K:=by
 have ol:=hk.ol
 have fits:=hk.fits
 refine FE.cl2 ?_
 unfold FE.txt
 try simp only [trees]
 try simp only [AG,AR,AL,AJ,AK,AE,AH,AO,AI,AS,AN,AM,AP,AQ,BE,BM,BJ,BL,BH,BK,BF,A5,AX,AY,A4,A6,AZ]
 have el:=S5 x.AD
 refine CP (D9 (by omega) (NB fits.ol (NA (x:=x) hk (fun v hv=>CE (by have:=UZ _ v hv;omega)) (by omega) (V4 fits.ol ?_))))
 unfold NL at h
 obtain ⟨m,hm⟩: ∃m,FZ x.AD=m:=⟨_,rfl⟩
 obtain ⟨r,hr⟩: ∃r,HN x.AD (exts x.AD)=r:=⟨_,rfl⟩
 have ml:m.length≤8:=by have:=NU x.AD;rw [hm] at this;omega
 have rl:r.length≤8:=by rw [←hr];unfold HN;rw [hm];exact Nat.le_trans (List.length_filter_le _ _) ml
 rw [hm,hr] at h ⊢
 simp only [AG,AR,AL,AJ,AK,AE,AH,AO,AI,AS,AN,AM,AP,AQ,BE,BM,BJ,BL,BH,BK,BF,A5,AX,AY,A4,A6,AZ]
 refine BC (fun i=>[iv m.length,iv i]) (fun i=>[tI r,tI ((m.take i).filter fun v=>decide (v∉r)),tI m]) m.length (fun _=>True) rfl rfl trivial (fun R i hi _ hR=> ?_)
 have fl:((m.take i).filter fun v=>decide (v∉r)).length≤m.length:=Nat.le_trans (List.length_filter_le _ _) (List.length_take_le' _ _)
 simp only [AG,AR,AL,AJ,AK,AE,AH,AO,AI,AS,AN,AM,AP,AQ,BE,BM,BJ,BL,BH,BK,BF,A5,AX,AY,A4,A6,AZ]
 refine A8 (AW (fun hlt=>BQ ?_) fun hge=> ?_)
 ·have hlt:i<m.length:=by omega
  have hR:=hR hlt trivial
  rw [List.take_succ_eq_append_getElem hlt,List.filter_append,DP hlt] at hR
  refine AU hlt (ldI hlt (Q8 (by omega) (FD (AW (fun hm=> ?_) fun hm=> ?_))))
  ·have e:[gI m i].filter (fun v=>decide (v∉r))=[gI m i]:=by simp [hm]
   rw [e, ←C1] at hR
   exact DQ rfl (by omega) (A9 (by omega) hR)
  ·have e:[gI m i].filter (fun v=>decide (v∉r))=[]:=by simpa using hm
   rw [e,List.append_nil] at hR
   exact A9 (by omega) hR
 ·have:i=m.length:=by omega
  subst this
  rw [List.take_length]
  exact h
theorem XP {x:Hp} {K:J2} (hk:BX x) (h:K [iv (NL x.AD).length] []):cl2 ⟨Try.prog,w0⟩ 37 GU.sg [] (trees x) K:=by
 refine GU.cl2 ?_
 unfold GU.txt
 refine Q7 hk ?_
 try simp only [AG,AR,AL,AJ,AK,AE,AH,AO,AI,AS,AN,AM,AP,AQ,BE,BM,BJ,BL,BH,BK,BF,A5,AX,AY,A4,A6,AZ]
 exact h
end Go.Proofs.Ytklmcfpgdfibnaa.P
