/- A part of the proof. -/
import Derived.Test.YtklmcfpgdfibnaaRtLetA
namespace Go.Proofs.Ytklmcfpgdfibnaa.P
open Go Go.Proofs.Ytklmcfpgdfibnaa Go.Proofs.Ytklmcfpgdfibnaa.Eng
set_option linter.unusedVariables false
set_option maxHeartbeats 4000000
set_option linter.unusedVariables false
set_option linter.unusedSimpArgs false
attribute [local irreducible] prP gP gE gF AX ixW ldc ldg ldl stc stg scW mkW apW BN cl2 BV EN CJ
variable {w0:World}
theorem VW {x:Hp} {K:J2} (hk:B5 x) (h:K [.bool true] []):cl2 ⟨Try.prog,w0⟩ 83 FY.sg [] (trees x) K:=by
 have fits:=hk.fits
 have hol:=hk.ol
 refine FY.cl2 ?_
 unfold FY.txt
 simp only [AH,AR,AN,AS,AJ,AD,AG,AP,AO,AK,AM,AL,AI,AQ,BD,BI,BH,BJ,BG,BF,BE,A5,AZ,A4,A6,A7,AY]
 refine BC (fun i=>[iv x.AE.length,iv i]) (fun _=>[]) x.AE.length (fun _=>True) rfl rfl trivial (fun R i hi _ hR=> ?_)
 simp only [AH,AR,AN,AS,AJ,AD,AG,AP,AO,AK,AM,AL,AI,AQ,BD,BI,BH,BJ,BG,BF,BE,A5,AZ,A4,A6,A7,AY]
 refine A8 (AW (fun hlt=> ?_) fun _=>h)
 have hlt:i<x.AE.length:=by omega
 have hR:=hR hlt trivial
 have i8:i<8:=by omega
 refine AT hlt (KN hlt ?_)
 simp only [X6,YX,fW,gD,fV,bC]
 cases hv:(ob x.AE i).live with
 | false=>exact BK (BK (BK (BK (BK (BK (JZ (BK (BK (JZ (JZ (JZ (TJ rfl (BU (BA (by omega) hR))))))))))))))
 | true=>
   obtain ⟨a1,a2,a3,a4,a5,a6,a7⟩:=(hk.obj i i8).lv hv
   have ib:=eO fits.ol fits.of i
   refine BK (BK (BK (BK (BK (BK (IZ (DT ⟨by omega,by omega⟩ (BK (BK (IZ (MD (s:=(i:Int)) ⟨by omega,by omega⟩ fits.ol fits.of (IZ (DT ⟨by omega,by omega⟩ (IZ (CA (PX rfl (DM (fun hh=>hh a5) (BA (by omega) hR))))))))))))))))))
theorem wC {a b c d e f g h:List T} {l:List (List T)}:nxc (a::b::c::d::e::f::g::h::l) 7=h:=rfl
theorem wU {a b c d e f g h i:List T} {l:List (List T)}:nxc (a::b::c::d::e::f::g::h::i::l) 8=i:=rfl
theorem lW {l:List Int} (h:l.Nodup) {i:Nat} (hi:i<l.length):l[i]∉l.take i:=fun hm=>by
 obtain ⟨j,hj,e⟩:=List.mem_take_iff_getElem.1 hm
 have:=(List.pairwise_iff_getElem.1 h) j i (by omega) hi (by omega)
 exact this e
theorem jE {l:List AV} {x:Int} (h:AB l x<0):AB l x= -1:=by
 unfold AB at h ⊢
 split
 ·rfl
 ·rename_i h1
  rw [if_neg h1] at h
  split at h
  ·omega
  ·rename_i h2;rw [if_neg h2]
theorem eQ {x:Hp} {o:Op5}:(KD x o).2.freed.length≤8:=by
 by_cases hk:B5 x
 ·rw [NQ hk];exact hk.rG.len
 ·rw [SE hk];simp
attribute [local irreducible] D8
theorem jR {L:List Int} (g:WM L) {K:J2} (done:K [.bool true] []):G4.txt ⟨Try.prog,w0⟩ (tY L) K:=by
 unfold G4.txt
 refine dK (AW (fun _=>done) fun hsz=> ?_)
 have hb:=g.f hsz
 refine TG hb fun h o hx ho=>Z2 hx.fits hx.L5 ho.a ho.c (OC hx.fits hx.L5 ho.a ho.c ?_)
 have al:=eQ (x:=h) (o:=o)
 by_cases hk:B5 h
 ·have f:=hk.rG (o:=o)
  have ok':=hk.step (o:=o)
  rw [NQ hk] at al ⊢
  obtain ⟨z,ez⟩: ∃z,D8 h o=z:=⟨_,rfl⟩
  rw [ez] at f ok' al ⊢
  simp only [trees,List.cons_append,List.nil_append]
  simp only [AH,AR,AN,AS,AJ,AD,AG,AP,AO,AK,AM,AL,AI,AQ,BD,BI,BH,BJ,BG,BF,BE,A5,AZ,A4,A6,A7,AY]
  refine MN (a:=z.2) (by omega) (B4 (BU (CA (AW (fun hne=> ?_) fun heq=> ?_))))
  ·obtain ⟨e1,e2⟩:=f.ref hne
   rw [e1,e2]
   refine OR hk.fits (BK (BK (BK (IZ ?_))))
   simp only [AH,AR,AN,AS,AJ,AD,AG,AP,AO,AK,AM,AL,AI,AQ,BD,BI,BH,BJ,BG,BF,BE,A5,AZ,A4,A6,A7,AY]
   have e0:((([]:List Int).length:Nat):Int)=0:=rfl
   refine BM (PX rfl ?_)
   rw [decide_eq_true e0]
   exact done
  ·refine BC (fun i=>[iv i,I z.2.code,I z.2.val]) (fun _=>[tR tO h.AE,tR tW h.B1,tI h.buffer,tS h.sites,tR tO z.1.AE,tR tW z.1.B1,tI z.1.buffer,tS z.1.sites,tI z.2.freed]) z.2.freed.length (fun _=>True) rfl rfl trivial (fun R i hi _ hR=> ?_)
   have zl:=ok'.ol
   have hl:=hk.ol
   simp only [gR,wC,wU]
   simp only [AH,AR,AN,AS,AJ,AD,AG,AP,AO,AK,AM,AL,AI,AQ,BD,BI,BH,BJ,BG,BF,BE,A5,AZ,A4,A6,A7,AY]
   refine A8 (AW (fun hlt=> ?_) fun hge=> ?_)
   ·have hlt:i<z.2.freed.length:=by omega
    have hR:=hR hlt trivial
    obtain ⟨s1,s2⟩:=f.fr _ (List.getElem_mem hlt)
    rw [D4 hlt] at s1 s2
    have fid:F64 (gI z.2.freed i):=C0 (by have:=hk.VO s1;omega)
    have q1: ¬AB z.1.AE (gI z.2.freed i)≠ -1:=fun hh=>hh (jE s2)
    have q2: ¬AB h.AE (gI z.2.freed i)<0:=by omega
    have q3:gI z.2.freed i∉z.2.freed.take i:=by
     rw [←D4 hlt]
     exact lW f.nd hlt
    refine AT hlt (ldI hlt (CM fid (by omega) (CA (BK (BK (BK (BK (EY q1 (AT hlt (EY q1 (ldI hlt (EY q1 (CL fid (by omega) (EY q1 (A8 (C2 q1 rfl ?_))))))))))))))))
    refine BK (BK (BK (EY q2 (XH (by omega) (BK (BK (BK (EY q2 (AT hlt (EY q2 (ldI hlt ?_)))))))))))
    have e2:GM (tI z.2.freed) [] (AA (SQ (two (iv 0) (iv i)))*1) (AA (RY (two (iv 0) (iv i)))*1)=tI (z.2.freed.take i):=by
     have h1:AA (SQ (two (iv 0) (iv i)))=0:=rfl
     have h2:AA (RY (two (iv 0) (iv i)))=i:=A9 i
     rw [h1,h2,qY,List.drop_zero]
    rw [e2]
    exact EY q2 (eR (by have:=List.length_take_le i z.2.freed;omega) (C2 q2 rfl (DM q3 (BA (by omega) hR))))
   ·refine Q7 ok'.fits ok'.L5 (fun _=> ?_) fun hh=>absurd ok' hh
    refine BK (IZ (QW ok'.fits ok'.L5 (fun _=> ?_) fun hh=>absurd ok' hh))
    refine PX rfl (BK (IZ (VW ok' (PX rfl (BK (rO (VZ (by omega) (BK (BK (rO (PU (by omega) (BK (IZ ?_)))))))))))))
    simp only [AH,AR,AN,AS,AJ,AD,AG,AP,AO,AK,AM,AL,AI,AQ,BD,BI,BH,BJ,BG,BF,BE,A5,AZ,A4,A6,A7,AY]
    refine BM (PX rfl ?_)
    rw [decide_eq_true rfl]
    exact done
 ·rw [SE hk]
  simp only [trees,List.cons_append,List.nil_append]
  simp only [AH,AR,AN,AS,AJ,AD,AG,AP,AO,AK,AM,AL,AI,AQ,BD,BI,BH,BJ,BG,BF,BE,A5,AZ,A4,A6,A7,AY]
  refine MN (a:=⟨2,0,[]⟩) (by simp) (B4 (BU (CA (C3 (by simp) ?_))))
  refine OR hx.fits (BK (BK (BK (IZ ?_))))
  simp only [AH,AR,AN,AS,AJ,AD,AG,AP,AO,AK,AM,AL,AI,AQ,BD,BI,BH,BJ,BG,BF,BE,A5,AZ,A4,A6,A7,AY]
  have e0:((([]:List Int).length:Nat):Int)=0:=rfl
  refine BM (PX rfl ?_)
  rw [decide_eq_true e0]
  exact done
end Go.Proofs.Ytklmcfpgdfibnaa.P
