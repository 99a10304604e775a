/- A part of the proof. -/
import Derived.Test.YtklmcfpgdfibnaaReSchC
namespace Go.Proofs.Ytklmcfpgdfibnaa.P
open Go Go.Proofs.Ytklmcfpgdfibnaa Go.Proofs.Ytklmcfpgdfibnaa.Eng
set_option linter.unusedVariables false
set_option maxHeartbeats 4000000
set_option linter.unusedVariables false
set_option linter.unusedSimpArgs false
attribute [local irreducible] prP gP gE gF AY ixW ldc ldg ldl stc stg scW mkW apW BD cl2 BQ CZ B9
variable {w0:World}
def DV (os:List AG) (q:Que) (i:Nat):List Int:=if (i:Int)∈slQ q then [B7 i (ob os i).gen] else []
theorem LH {x:Hp} {but:Int} {q:Que} {K:J2} (hq:QI x.AD but q) (hol:0<q.length→x.AD.length=8) (h:K (bxV but q) [tI (pick (DV x.AD q) 8)]):cl2 ⟨Try.prog,w0⟩ 103 CJ.sg (bxV but q) (tI (slQ q)::trees x) K:=by
 have ql:=hq.len
 have sl:(slQ q).length=q.length:=by simp
 refine CJ.cl2 ?_
 unfold CJ.txt
 refine BF (fun i=>iv i::bxV but q) (fun i=>[tI (pick (DV x.AD q) i)]) 8 (fun _=>True) rfl rfl trivial (fun R i hi _ hR=> ?_)
 have pl:(pick (DV x.AD q) i).length≤i:=FU (fun i=>by unfold DV;split <;> simp) i
 try simp only [trees]
 simp only [AJ,AN,AQ,AR,AK,AE,AL,AI,AS,AP,AU,AT,AM,AO,BJ,BP,BM,BN,BO,BS,BL,A4,A5,A9,A8,BA,A7]
 refine A6 (AW (fun hlt=>BT ?_) fun hge=> ?_)
 ·have hlt:i<8:=by omega
  have hR:=hR hlt trivial
  rw [pick] at hR
  refine QW (x:=(i:Int)) (by omega) (AW (fun hm=> ?_) fun hm=> ?_)
  ·have e:DV x.AD q i=[B7 i (ob x.AD i).gen]:=by unfold DV;rw [if_pos hm]
   rw [e, ←CU] at hR
   have ol:=hol (by rw [←sl];exact List.length_pos_of_mem hm)
   have il:i<x.AD.length:=by omega
   exact AH il (JR il (by decide) rfl (UA (DH rfl (by first | omega | (simp only [AJ,AN,AQ,AR,AK,AE,AL,AI,AS,AP,AU,AT,AM,AO,BJ,BP,BM,BN,BO,BS,BL,A4,A5,A9,A8,BA,A7];omega)) (BB (by omega) hR))))
  ·have e:DV x.AD q i=[]:=by unfold DV;rw [if_neg hm]
   rw [e,List.append_nil] at hR
   exact BB (by omega) hR
 ·have:i=8:=by omega
  subst this
  exact h
theorem cF {x:Hp} (hk:BW x) (ids:List Int):pick (DV x.AD (GK x.AD (-1) ids)) 8=KJ x.AD ids:=by
 unfold KJ
 have e:IB x.AD=pick (IC x.AD) 8:=by unfold IB;rw [hk.ol]
 rw [e,PI]
 refine fW fun i i8=> ?_
 obtain ⟨h1,h2⟩:=HO x.AD (-1) ids
 cases hv:(ob x.AD i).live with
 | false=>
   have a:DV x.AD (GK x.AD (-1) ids) i=[]:=by
    unfold DV
    rw [if_neg]
    intro hm
    obtain ⟨k,e1,_,kv,_⟩:=h1.lv _ hm
    have:i=k:=by omega
    subst this
    rw [hv] at kv;cases kv
   have b:IC x.AD i=[]:=by
    unfold IC
    rw [if_neg]
    rintro ⟨_,h⟩
    rw [hv] at h;cases h
   rw [a,b];rfl
 | true=>
   have b:IC x.AD i=[B7 i (ob x.AD i).gen]:=by
    unfold IC
    rw [if_pos ⟨by omega,hv⟩]
   rw [b]
   unfold DV
   have hi:(i:Int)∈slQ (GK x.AD (-1) ids)↔B7 i (ob x.AD i).gen∈KI x.AD (GK x.AD (-1) ids):=by
    have hp:=hk.hp.obj i i8
    have hs:=EO hk.ol i8 hv (hp.lv hv).1 hp.gen.2
    rw [SF h1 (by omega),hs];exact Iff.rfl
   by_cases hm:(i:Int)∈slQ (GK x.AD (-1) ids)
   ·rw [if_pos hm]
    simp only [List.filter_cons,List.filter_nil]
    rw [if_pos (by simpa using hi.1 hm)]
   ·rw [if_neg hm]
    simp only [List.filter_cons,List.filter_nil]
    rw [if_neg (by simpa using fun hh=>hm (hi.2 hh))]
end Go.Proofs.Ytklmcfpgdfibnaa.P
