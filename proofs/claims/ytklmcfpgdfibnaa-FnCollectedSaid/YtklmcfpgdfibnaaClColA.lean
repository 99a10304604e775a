/- A part of the proof. -/
import Derived.Test.YtklmcfpgdfibnaaClSchB
import Derived.Test.YtklmcfpgdfibnaaClSchD
namespace Go.Proofs.Ytklmcfpgdfibnaa.P
open Go Go.Proofs.Ytklmcfpgdfibnaa Go.Proofs.Ytklmcfpgdfibnaa.Eng
set_option linter.unusedVariables false
set_option maxHeartbeats 4000000
set_option linter.unusedVariables false
set_option linter.unusedSimpArgs false
attribute [local irreducible] prP gP gE gF A7 ixW ldc ldg ldl stc stg scW mkW apW BD cl2 BP DT C0
variable {w0:World}
theorem K5 {l:List Int} {K:J2} (hl:(l.length:Int)<2^62) (h:K [.bool true] []):cl2 ⟨Try.prog,w0⟩ 31 DM.sg [] [tI l,tI l] K:=by
 refine DM.cl2 ?_
 unfold DM.txt
 simp only [AG,AR,AL,AJ,AK,AE,AH,AO,AI,AS,AN,AM,AP,AQ,BE,BM,BJ,BL,BH,BK,BF,A5,AX,AY,A4,A6,AZ]
 refine CP (D9 (fun hh=>hh rfl) (BC (fun i=>[iv i]) (fun _=>[]) l.length (fun _=>True) rfl rfl trivial (fun R i hi _ hR=> ?_)))
 simp only [AG,AR,AL,AJ,AK,AE,AH,AO,AI,AS,AN,AM,AP,AQ,BE,BM,BJ,BL,BH,BK,BF,A5,AX,AY,A4,A6,AZ]
 refine A8 (AW (fun hlt=> ?_) fun _=>h)
 have hlt:i<l.length:=by omega
 exact AU hlt (ldI hlt (AU hlt (ldI hlt (CP (D9 (fun hh=>hh rfl) (A9 (by omega) (hR hlt trivial)))))))
end Go.Proofs.Ytklmcfpgdfibnaa.P
namespace Go.Proofs.Ytklmcfpgdfibnaa.P
open Go Go.Proofs.Ytklmcfpgdfibnaa Go.Proofs.Ytklmcfpgdfibnaa.Eng
set_option linter.unusedVariables false
set_option maxHeartbeats 4000000
set_option linter.unusedVariables false
set_option linter.unusedSimpArgs false
attribute [local irreducible] prP gP gE gF A7 ixW ldc ldg ldl stc stg scW mkW apW BD cl2 BP DT C0
variable {w0:World}
theorem vI {os:List AT} {k:Nat}: ¬RB os [] k:=fun ⟨_,h,_⟩=>by simp at h
theorem V1 {os:List AT} {ct:Nat→Int} {k:Nat}:GJ os ct [] k=false:=by
 cases h:GJ os ct [] k with
 | false=>rfl
 | true=>exact absurd (H3.1 h).1 vI
theorem oV {x:Hp} (hk:BX x) (hb:x.buffer=[]):FF x.AD []=(x.AD,[]):=by
 have hol:=hk.ol
 have e: ∀i,i<8→C2 x.AD (GJ x.AD (fun i=>(ob x.AD i).count) []) i=ob x.AD i:=fun i i8=>by
  unfold C2
  rw [if_neg (by rw [V1];decide)]
  have ho:=hk.obj i i8
  have hpu:(ob x.AD i).purple=false:=by
   cases hv:(ob x.AD i).live with
   | false=>exact (ho.dead hv).2.2.2.2
   | true=>
     have:=(ho.lv hv).2.2.2.2.2.2
     rw [hb] at this
     simpa using this
  rw [←hpu]
 have em:mk8 (C2 x.AD (GJ x.AD (fun i=>(ob x.AD i).count) []))=x.AD:=by rw [HK e];exact (O6 hol).symm
 have ef: ∀i,i<8→EH x.AD (GJ x.AD (fun i=>(ob x.AD i).count) []) i=ob x.AD i:=fun i i8=>by
  unfold EH
  rw [em,e i i8]
  split
  ·rename_i hv
   have ho:=(hk.obj i i8).lv hv
   have ib:=mO hk.fits.ol hk.fits.of i
   rw [HW (n:=(ob x.AD i).holds+(ob x.AD i).roots) ⟨by omega,by omega⟩,HW ⟨by omega,by omega⟩, ←ho.2.2.2.2.1]
  ·rfl
 unfold FF
 rw [HK ef, ←O6 hol]
 have:HY x.AD (GJ x.AD (fun i=>(ob x.AD i).count) []) 8=[]:=List.eq_nil_iff_forall_not_mem.2 fun v hv=>by
  obtain ⟨i,_,hw,_⟩:=eG.1 hv
  rw [V1] at hw;cases hw
 rw [this]
theorem bG {l:List Int} {p:Int→Bool} (h: ∀v∈l,p v=true):l.filter p=l:=List.filter_eq_self.2 h
theorem X6 {x:Hp} (hk:BX x) (g:Gd x.AD []):HN x.AD (exts x.AD)=FZ x.AD:=by
 refine bG fun v hv=> ?_
 obtain ⟨i,hi,hx⟩:=NQ.1 hv
 unfold D6 at hx
 split at hx
 ·rename_i hc
  have i8:i<8:=by omega
  rw [List.mem_singleton.1 hx,decide_eq_true_eq,TV hk i8 hc.2,aJ hk]
  rcases g i i8 hc.2 with hh | ⟨_,hm,_⟩
  ·exact hh
  ·simp at hm
 ·cases hx
theorem lM {x:Hp} (hk:BX x) (g:Gd x.AD []):NL x.AD=[]:=by
 unfold NL
 rw [X6 hk g]
 refine List.eq_nil_iff_forall_not_mem.2 fun v hv=> ?_
 rw [List.mem_filter,decide_eq_true_eq] at hv
 exact hv.2 hv.1
theorem lC {x:Hp} (hk:BX x) (g:Gd x.AD x.buffer):FZ (FF x.AD x.buffer).1=HN x.AD (exts x.AD):=by
 have R:=fF hk.hp g
 unfold HN
 have e:FZ x.AD=pick (D6 x.AD) 8:=by unfold FZ;rw [hk.ol]
 have e2:FZ (FF x.AD x.buffer).1=pick (D6 (FF x.AD x.buffer).1) 8:=by unfold FZ;rw [R.len]
 rw [e,e2,MJ]
 refine N8 fun i i8=> ?_
 have lv:=R.lv i i8
 have gn:=R.gn i i8
 cases hv:(ob x.AD i).live with
 | false=>
   have a:D6 x.AD i=[]:=by unfold D6;rw [if_neg];rintro ⟨_,h⟩;rw [hv] at h;cases h
   have b:D6 (FF x.AD x.buffer).1 i=[]:=by
    unfold D6;rw [if_neg];rintro ⟨_,h⟩
    have:=(lv.1 h).live.2
    rw [hv] at this;cases this
   rw [a,b];rfl
 | true=>
   have a:D6 x.AD i=[CA i (ob x.AD i).gen]:=by unfold D6;rw [if_pos ⟨by omega,hv⟩]
   have f:=TV hk (ids:=exts x.AD) i8 hv
   rw [aJ hk] at f
   rw [a]
   simp only [List.filter_cons,List.filter_nil]
   by_cases hr:Rch x.AD i
   ·rw [if_pos (by simpa using f.2 hr)]
    unfold D6;rw [if_pos ⟨by omega,lv.2 hr⟩,gn]
   ·rw [if_neg (by simpa using fun hh=>hr (f.1 hh))]
    unfold D6;rw [if_neg];rintro ⟨_,h⟩;exact hr (lv.1 h)
theorem eU {l:List Int} {p q:Int→Bool} (h: ∀v∈l,q v= !p v):(l.filter p).length+(l.filter q).length=l.length:=by
 induction l with
 | nil=>rfl
 | cons a l ih=>
   have ih:=ih fun v hv=>h v (by simp [hv])
   have ha:=h a (by simp)
   simp only [List.filter_cons,ha]
   cases p a <;> simp <;> omega
theorem pT (os:List AT) (ids:List Int):(HN os ids).length+((FZ os).filter fun v=>decide (v∉HN os ids)).length=(FZ os).length:=by
 refine eU fun v hv=> ?_
 have:v∈HN os ids↔v∈KM os (LK os (-1) ids):=by
  unfold HN
  rw [List.mem_filter,decide_eq_true_eq]
  exact ⟨fun h=>h.2,fun h=>⟨hv,h⟩⟩
 simp only [this]
 by_cases hm:v∈KM os (LK os (-1) ids) <;> simp [hm]
theorem XO {L:List Int} (g:VY L) {K:J2} (done:K [.bool true] []):DU.txt ⟨Try.prog,w0⟩ (tY L) K:=by
 unfold DU.txt
 refine eC (AW (fun _=>done) fun hsz=> ?_)
 have hb:=g.f hsz
 refine RT hb fun h hx=>MX hx.fits hx.KP (fun ok=> ?_) fun _=>C3 (CM done)
 have gd:=hx.gd ok
 refine C3 (B7 ?_)
 have okx:BX ⟨(FF h.AD h.buffer).1,h.B1,[],h.sites⟩:=by
  have:=ok.step (o:=⟨10,0,0,0,⟨#[]⟩⟩)
  rw [Y9] at this;exact this
 have gdx:Gd (FF h.AD h.buffer).1 []:=gL ok.hp gd
 have e4:(FF h.AD h.buffer).2=NL h.AD:=(eT ok gd).symm
 have e3:=lC ok gd
 have e2:=X6 okx gdx
 have e5:=lM okx gdx
 have e7:=oV okx rfl
 have e10:=pT h.AD (exts h.AD)
 have cc: ∀{y:Hp},BX y→ ∀o∈y.AD,F64 o.count:=fun hy o ho=>(hy.KP.obj o ho).2.2.2.2.1
 refine PL (ok.st ok.KP) (cc ok) ?_
 refine PL (h:=⟨(FF h.AD h.buffer).1,h.B1,[],h.sites⟩) (okx.st okx.KP) (cc okx) ?_
 simp only at e2 e3 e5 e7
 rw [e7]
 obtain ⟨os',eo⟩: ∃os',(FF h.AD h.buffer).1=os':=⟨_,rfl⟩
 rw [eo] at okx gdx e2 e3 e5 ⊢
 rw [e4]
 have ol:=okx.ol
 have ol0:=ok.ol
 have ll:=NU os'
 have ll0:=NU h.AD
 have lk:(NL h.AD).length≤(FZ h.AD).length:=List.length_filter_le _ _
 have xb:=UZ os'
 have xl:=S5 os'
 have xb0:=UZ h.AD
 have xl0:=S5 h.AD
 simp only at ol
 refine H7 okx.fits.ol (MX (h:=⟨os',h.B1,[],h.sites⟩) okx.fits okx.KP (fun _=> ?_) fun hh=>absurd okx hh)
 refine BU (BU (BU (VI (NH okx.fits.ol (VI (NY (x:=⟨os',h.B1,[],h.sites⟩) okx (fun v hv=>CE (by have:=xb v hv;omega)) (by omega) ?_))))))
 rw [e2]
 refine HG (K5 (by omega) (OA rfl ?_))
 refine BU (BU (BU (VI (NB ok.fits.ol (VI (NA (x:=h) ok (fun v hv=>CE (by have:=xb0 v hv;omega)) (by omega) ?_))))))
 rw [←e3]
 refine HG (K5 (by omega) (OA rfl ?_))
 refine BU (BU (VI (X0 (x:=h) ok (HG (K5 (by omega) (OA rfl ?_))))))
 refine BU (VI (Q7 (x:=⟨os',h.B1,[],h.sites⟩) okx ?_))
 rw [e5]
 have z:((([]:List Int).length:Nat):Int)=0:=rfl
 refine BU (HG (BV (a:=((([]:List Int).length:Nat):Int)) (OA rfl ?_)))
 rw [decide_eq_true z]
 refine BU (BU (BU (HG (BV (a:=((([]:List Int).length:Nat):Int)) (OA rfl ?_)))))
 rw [decide_eq_true z]
 refine BU (BU (HG (BV (a:=((([]:List Int).length:Nat):Int)) (OA rfl ?_))))
 rw [decide_eq_true z]
 refine BU (BU (HG (UO (h:=⟨os',h.B1,[],h.sites⟩) okx.fits (OA rfl (BU (HG (XP (x:=h) ok ?_)))))))
 try simp only [AG,AR,AL,AJ,AK,AE,AH,AO,AI,AS,AN,AM,AP,AQ,BE,BM,BJ,BL,BH,BK,BF,A5,AX,AY,A4,A6,AZ]
 refine BU (BU (HG (BV (OA rfl ?_))))
 rw [decide_eq_true rfl]
 refine BU (BU (BU (BU (HG (FT ⟨by omega,by omega⟩ (BU (VI (H7 ok.fits.ol ?_))))))))
 try simp only [AG,AR,AL,AJ,AK,AE,AH,AO,AI,AS,AN,AM,AP,AQ,BE,BM,BJ,BL,BH,BK,BF,A5,AX,AY,A4,A6,AZ]
 refine BU (HG (BV (OA rfl ?_)))
 have e11:((FZ os').length:Int)+((NL h.AD).length:Int)=((FZ h.AD).length:Int):=by
  rw [e3];unfold NL;omega
 rw [decide_eq_true e11]
 exact done
end Go.Proofs.Ytklmcfpgdfibnaa.P
