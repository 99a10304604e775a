/- A part of the proof. -/
import Derived.Test.YtklmcfpgdfibnaaRcRchA
namespace Go.Proofs.Ytklmcfpgdfibnaa.P
open Go Go.Proofs.Ytklmcfpgdfibnaa Go.Proofs.Ytklmcfpgdfibnaa.Eng
set_option linter.unusedVariables false
set_option maxHeartbeats 4000000
set_option linter.unusedVariables false
set_option linter.unusedSimpArgs false
attribute [local irreducible] prP gP gE gF AW ixW ldc ldg ldl stc stg scW mkW apW BE cl2 BS C6 CO
variable {w0:World}
theorem l9 {a b:Bool} (h:a=b) {K:Value→Prop} (hk:K (.bool false)):prP (bnB .neq (.bool a) (.bool b)) K:=by
 subst h
 exact lM (v:= .bool false) (by cases a <;> rfl) rfl hk
theorem aT {L:List Int} (g:VP L) {K:J2} (done:K [.bool true] []):EA.txt ⟨Try.prog,w0⟩ (tY L) K:=by
 unfold EA.txt
 refine dO (AX (fun _=>done) fun hsz=> ?_)
 have hb:=g.f hsz
 refine OT hb fun h fr hx hfl hfb=>PT hx.fits hx.KH (fun ok=> ?_) fun _=>CV (CT done)
 refine CV (B7 ?_)
 have hol:=ok.ol
 have frF: ∀v∈fr,F64 v:=fun v hv=>B9 (by have:=hfb v hv;omega)
 refine HG (x:=h) ok frF (by omega) ?_
 have rl:=WQ ok fr
 obtain ⟨r,er⟩: ∃r,DV h.AD fr=r:=⟨_,rfl⟩
 have rb: ∀v∈r,8≤v∧v≤7999∧ ∃k:Nat,k<8∧(ob h.AD k).live=true∧AA h.AD v=(k:Int)∧v=B8 k (ob h.AD k).gen∧RB h.AD fr k:=fun v hv=>by
  rw [←er] at hv
  obtain ⟨k,k8,kv,e,hr⟩:=(H7 ok).1 hv
  have hs:AA h.AD v=(k:Int):=by rw [e];exact RS ok k8 kv
  have:=ok.VD (x:=v) (by omega)
  exact ⟨this.1,this.2,k,k8,kv,hs,e,hr⟩
 rw [er] at rl ⊢
 simp only [trees,List.cons_append,List.nil_append]
 simp only [AH,AP,AK,AM,AO,AE,AI,AR,AN,AL,AS,AJ,AT,AQ,BH,BL,BM,BN,BP,BO,BK,A5,A8,A4,A9,A6,A7]
 refine BG (fun i=>[iv i]) (fun _=>[tI fr,tI r,tR tO h.AD,tR tW h.B1,tI h.buffer,tS h.sites]) fr.length (fun _=>True) rfl rfl trivial (fun R i hi _ hR=> ?_)
 simp only [AH,AP,AK,AM,AO,AE,AI,AR,AN,AL,AS,AJ,AT,AQ,BH,BL,BM,BN,BP,BO,BK,A5,A8,A4,A9,A6,A7]
 refine BA (AX (fun hlt=> ?_) fun hge=> ?_)
 ·have hlt:i<fr.length:=by omega
  have hR:=hR hlt trivial
  have hm:=C7 hlt
  have e:decide (AA h.AD (gI fr i)≥0)=decide (gI fr i∈r):=by
   refine decide_eq_decide.2 ?_
   rw [←er]
   exact lF ok hm
  refine AU hlt (ldI hlt (BX (frF _ hm) (by omega) (IM (AU hlt (ldI hlt (KX (by omega) (l9 e (B7 (BB (by omega) hR)))))))))
 clear hR R
 refine BG (fun i=>[iv i]) (fun _=>[tI fr,tI r,tR tO h.AD,tR tW h.B1,tI h.buffer,tS h.sites]) r.length (fun _=>True) rfl rfl trivial (fun R i hi _ hR=> ?_)
 simp only [AH,AP,AK,AM,AO,AE,AI,AR,AN,AL,AS,AJ,AT,AQ,BH,BL,BM,BN,BP,BO,BK,A5,A8,A4,A9,A6,A7]
 refine BA (AX (fun hlt=> ?_) fun hge=> ?_)
 ·have hlt:i<r.length:=by omega
  have hR:=hR hlt trivial
  have hm:=C7 hlt
  obtain ⟨v8,v9,k,k8,kv,hs,ev,hr⟩:=rb _ hm
  have kl:k<h.AD.length:=by omega
  have fv:F64 (gI r i):=B9 (by omega)
  refine AU hlt (ldI hlt (BX fv (by omega) (BA (FU (by omega) (AU hlt (ldI hlt (KX (by omega) ?_)))))))
  rw [hs]
  refine FG (α:=Nat×Bool) (fun q=>[iv i,iv k, .bool q.2,iv q.1]) (fun _=>[tI fr,tI r,tR tO h.AD,tR tW h.B1,tI h.buffer,tS h.sites]) (fun q=>r.length-q.1) (fun q=>q.1≤r.length∧(gI r i∈fr→q.2=true)∧ ∀j,j<q.1→ ∀y:Nat,AA h.AD (gI r j)=(y:Int)→gI r i∈HJ h.AD (H6 h.AD (-1) (ob h.AD y).field)→q.2=true) (0,decide (gI r i∈fr)) rfl rfl ⟨Nat.zero_le _,fun hh=>decide_eq_true hh,fun j hj=>by simp only at hj;omega⟩ (fun R2 q hq hR2=> ?_)
  obtain ⟨j,b⟩:=q
  obtain ⟨hj,hb1,hb2⟩:=hq
  simp only at hj hb1 hb2
  simp only [AH,AP,AK,AM,AO,AE,AI,AR,AN,AL,AS,AJ,AT,AQ,BH,BL,BM,BN,BP,BO,BK,A5,A8,A4,A9,A6,A7]
  refine BA (AX (fun hlj=> ?_) fun hgj=> ?_)
  ·have hlj:j<r.length:=by omega
   obtain ⟨u8,u9,y,y8,yv,ys,ey,yr⟩:=rb _ (C7 hlj)
   have fu:F64 (gI r j):=B9 (by omega)
   cases b with
   | true=>
     exact BT (BT (BT (N9 (N9 (BT (BT (N9 (N9 (N9 (TJ rfl (BB (by omega) (hR2 (j+1,true) ⟨by simp only;omega,fun _=>rfl,fun _ _ _ _ _=>rfl⟩ (by simp only;omega)))))))))))))
   | false=>
     refine BT (BT (BT (PJ (AU hlj (PJ (ldI hlj (BT (BT (PJ (AU hlt (PJ (ldI hlt (PJ (X8 (x:=h) ok fu fv ys hs (bK rfl (BB (by omega) ?_))))))))))))))))
     refine hR2 (j+1,decide (gI r i∈HJ h.AD (H6 h.AD (-1) (ob h.AD y).field))) ⟨by simp only;omega,fun hh=>(by have:=hb1 hh;cases this),fun j' hj' y' hy' hh=> ?_⟩ (by simp only;omega)
     simp only at hj' ⊢
     rcases Nat.lt_or_ge j' j with hlt' | hge'
     ·have:=hb2 j' hlt' y' hy' hh;cases this
     ·have:j'=j:=by omega
      subst this
      have:y'=y:=by omega
      subst this
      exact decide_eq_true hh
  have ejl:j=r.length:=by omega
  have hbt:b=true:=by
   by_cases hin:gI r i∈fr
   ·exact hb1 hin
   ·have hmm:gI r i∈DV h.AD fr:=by rw [er];exact hm
    obtain ⟨y,y8,yv,yr,hh⟩:=b6 ok hmm hin
    rw [er] at yr
    obtain ⟨j',hj',ej'⟩:=List.getElem_of_mem yr
    rw [DM hj'] at ej'
    exact hb2 j' (by omega) y (by rw [ej'];exact RS ok y8 yv) hh
  subst hbt
  clear hb1 hb2 hR2 R2
  have len:=(ok.hp.obj k k8).len
  refine BG (fun j=>[iv i,iv k, .bool true,iv j]) (fun _=>[tI fr,tI r,tR tO h.AD,tR tW h.B1,tI h.buffer,tS h.sites]) 3 (fun _=>True) rfl rfl trivial (fun R2 j hj3 _ hR2=> ?_)
  simp only [AH,AP,AK,AM,AO,AE,AI,AR,AN,AL,AS,AJ,AT,AQ,BH,BL,BM,BN,BP,BO,BK,A5,A8,A4,A9,A6,A7]
  refine BA (AX (fun hlj=> ?_) fun hgj=> ?_)
  ·have hR2:=hR2 (by omega) trivial
   have hlj:j<(ob h.AD k).field.length:=by omega
   refine AU kl (OJ kl ?_)
   rw [GW kl,AE]
   refine AU hlj (J8 kl hlj (IM ?_))
   by_cases f0:gI (ob h.AD k).field j≥0
   ·have hf:gI (ob h.AD k).field j∈r:=by rw [←er];exact hX ok k8 hr (C7 hlj) f0
    refine BT (BT (BT (BT (HQ f0 (AU kl (BT (HQ f0 (OJ kl (BT ?_)))))))))
    rw [GW kl,AE]
    refine HQ f0 (AU hlj (HQ f0 (J8 kl hlj (HQ f0 (KX (by omega) (HQ f0 ?_))))))
    simp only [BH]
    rw [decide_eq_true hf]
    exact CV (EI f0 rfl (B7 (BB (by omega) hR2)))
   ·refine BT (BT (BT (BT (J1 f0 (BT (J1 f0 (BT ?_)))))))
    exact J1 f0 (J1 f0 (J1 f0 (J1 f0 (EJ f0 rfl (B7 (BB (by omega) hR2))))))
  ·exact CV (B7 (BB (by omega) hR))
 clear hR R
 have xb:=e7 h.AD
 have xl:=aX h.AD
 have xF: ∀v∈exts h.AD,F64 v:=fun v hv=>B9 (by have:=xb v hv;omega)
 refine MQ hx.fits.ol (HG (x:=h) ok xF (by omega) (WE (x:=h) ok ?_))
 have al:=WQ ok (exts h.AD)
 have ll:=SO h.AD
 have lk:(PW h.AD).length≤(GF h.AD).length:=List.length_filter_le _ _
 have e10:=oM h.AD (exts h.AD)
 simp only [AH,AP,AK,AM,AO,AE,AI,AR,AN,AL,AS,AJ,AT,AQ,BH,BL,BM,BN,BP,BO,BK,A5,A8,A4,A9,A6,A7]
 refine BG (fun i=>[iv i]) (fun _=>[tI r,tI (exts h.AD),tI (DV h.AD (exts h.AD)),tI (PW h.AD),tR tO h.AD,tR tW h.B1,tI h.buffer,tS h.sites]) (PW h.AD).length (fun _=>True) rfl rfl trivial (fun R i hi _ hR=> ?_)
 simp only [AH,AP,AK,AM,AO,AE,AI,AR,AN,AL,AS,AJ,AT,AQ,BH,BL,BM,BN,BP,BO,BK,A5,A8,A4,A9,A6,A7]
 refine BA (AX (fun hlt=> ?_) fun hge=> ?_)
 ·have hlt:i<(PW h.AD).length:=by omega
  have hR:=hR hlt trivial
  have hm:=C7 hlt
  have hm2:gI (PW h.AD) i∈GF h.AD∧gI (PW h.AD) i∉DV h.AD (exts h.AD):=by
   have:=List.mem_filter.1 hm
   exact ⟨this.1,of_decide_eq_true this.2⟩
  refine AU hlt (ldI hlt (KX (by omega) (BT (uK hm2.2 (K2 hx.fits.ol (BT (BT (GY hm2.2 (AU hlt (GY hm2.2 (ldI hlt (GY hm2.2 (KX (by omega) (GY hm2.2 ?_))))))))))))))
  simp only [BH]
  rw [decide_eq_true hm2.1]
  exact CV (EJ hm2.2 rfl (B7 (BB (by omega) hR)))
 clear hR R
 refine FI ⟨by omega,by omega⟩ (K2 hx.fits.ol ?_)
 simp only [AH,AP,AK,AM,AO,AE,AI,AR,AN,AL,AS,AJ,AT,AQ,BH,BL,BM,BN,BP,BO,BK,A5,A8,A4,A9,A6,A7]
 have e11:((DV h.AD (exts h.AD)).length:Int)+((PW h.AD).length:Int)=((GF h.AD).length:Int):=by unfold PW;omega
 refine B2 (BT (BT (uY e11 (SD hx.fits.ol (HQ e11 (NL (by omega) (EI e11 rfl ?_)))))))
 refine BT (BT (vH (HG (x:=h) ok (fun v hv=>B9 (by have:=rb v hv;omega)) (by omega) (BT (KT ?_)))))
 have e12:=aA ok fr
 rw [er] at e12
 rw [e12]
 exact NL (by omega) (TJ rfl done)
end Go.Proofs.Ytklmcfpgdfibnaa.P
