/- A part of the proof. -/
import Derived.Test.YtklmcfpgdfibnaaNwHpG
namespace Go.Proofs.Ytklmcfpgdfibnaa.P
open Go Go.Proofs.Ytklmcfpgdfibnaa Go.Proofs.Ytklmcfpgdfibnaa.Eng
set_option maxHeartbeats 4000000
set_option linter.unusedVariables false
set_option linter.unusedSimpArgs false
attribute [local irreducible] prP gP gE gF AV ixW ldc ldg ldl stc stg scW mkW apW BL cl2 BS EC CX
variable {w0:World}
theorem rO (a b c d e f g h:Value) (l:List Value):nx (a::b::c::d::e::f::g::h::l) 7=h:=rfl
theorem qU (a b c d e f g h i:Value) (l:List Value):nx (a::b::c::d::e::f::g::h::i::l) 8=i:=rfl
theorem rC (a b c d e f g h i j:Value) (l:List Value):nx (a::b::c::d::e::f::g::h::i::j::l) 9=j:=rfl
theorem jP (o:Wk):tv (nxT (tW o) 0)= .bool o.used:=rfl
theorem p9 (o:Wk):tv (nxT (tW o) 1)=I o.target:=rfl
theorem fS (o:AU):tv (nxT (tO o) 0)= .bool o.live:=rfl
theorem fQ (o:AU):tv (nxT (tO o) 1)=I o.gen:=rfl
theorem kR (o:AU):tv (nxT (tO o) 2)=I o.site:=rfl
theorem kH (o:AU):tv (nxT (tO o) 3)=I o.holds:=rfl
theorem jO (o:AU):tv (nxT (tO o) 4)=I o.roots:=rfl
theorem eG (o:AU):tv (nxT (tO o) 5)=I o.count:=rfl
theorem mF (o:AU):tv (nxT (tO o) 7)= .bool o.purple:=rfl
theorem P6 {h:Hp} {K:J2} (hf:Fits h) (hn:T7 h) (h1:DB h→K [.bool true] []) (h2: ¬DB h→K [.bool false] []):cl2 ⟨Try.prog,w0⟩ 19 FD.sg [] (trees h) K:=by
 have g1:=hf.ol;have g2:=hf.wl;have g3:=hf.sl;have g4:=hf.bl
 refine FD.cl2 ?_
 unfold FD.txt
 simp only [AG,AK,AN,AM,AI,AD,AE,AP,AO,AJ,AQ,AR,AL,AH,BE,BJ,BH,BG,BK,BI,BF,A4,A8,A7,A6,A5,AZ]
 refine CN (BW (BW (BW (LP (fun ho=> ?_) fun ho=> ?_))))
 rotate_left
 ·refine DX ho rfl (BW (BW (BW (SV (VF rfl (B6 (h2 fun hk=>ho (by have:=hk.ol;omega))))))))
 refine CN (DW ho rfl (BW (BW (BW (LP (fun hw=> ?_) fun hw=> ?_)))))
 rotate_left
 ·exact DX hw rfl (B6 (h2 fun hk=>hw (by have:=hk.wl;omega)))
 refine IJ (DW hw rfl (AW (fun h6=>h2 fun hk=>(by have:=hk.sites.len;omega)) fun h6=> ?_))
 have o8:h.BB.length=8:=by omega
 have w8:h.CA.length=8:=by omega
 refine BD (fun i=>[iv i]) (fun _=>[]) h.BB.length (fun i=> ∀k,k<i→SW h k) rfl rfl (fun k hk=>by omega) (fun R i hi hP hR=> ?_)
 simp only [AG,AK,AN,AM,AI,AD,AE,AP,AO,AJ,AQ,AR,AL,AH,BE,BJ,BH,BG,BK,BI,BF,A4,A8,A7,A6,A5,AZ]
 refine AX (AW (fun hlt=> ?_) fun hge=> ?_)
 ·have hi:i<h.BB.length:=by omega
  refine BO ?_
  have stepR:SW h i→R [iv (i+1)] []:=fun hk=>hR hi fun k hki=>(Nat.lt_succ_iff_lt_or_eq.1 hki).elim (hP k) fun he=>he ▸ hk
  have no: ¬SW h i→K [.bool false] []:=fun hk=>h2 fun hh=>hk (hh.obj i (by omega))
  clear hR h1 h2
  have hfo:=cR hf.of i
  have hnum:=hn.ob i
  obtain ⟨⟨n1,n2⟩,⟨n3,n4⟩,⟨n7,n8⟩,⟨n9,n10⟩,⟨n5,n6⟩,_⟩:=hnum
  have hib:=qD hf.ol hf.of i
  refine AS hi (MB hi ?_)
  rw [G3 hi,AD]
  refine DS (D7 (BW (BW (BW (LP (fun hg=> ?_) fun hg=> ?_)))))
  rotate_left
  ·exact DX hg rfl (B6 (no fun hk=>hg hk.gen))
  refine CN (DW hg rfl (AW (fun h3=>no fun hk=>by have:=hk.len;omega) fun h3=> ?_))
  have hl3:(ob h.BB i).field.length=3:=by omega
  have hg:0≤(ob h.BB i).gen∧(ob h.BB i).gen≤999:=Decidable.not_not.1 hg
  simp only [fS,fQ,kR,kH,jO,eG,mF]
  cases hv:(ob h.BB i).live with
  | false=>
    have dd:SW h i→(ob h.BB i).site=0∧(ob h.BB i).holds=0∧(ob h.BB i).roots=0∧(ob h.BB i).count=0∧(ob h.BB i).purple=false:=fun hk=>hk.dead hv
    refine CT (B6 ?_)
    cases hpu:(ob h.BB i).purple
    ·repeat' (first | refine BW ?_ | refine SV ?_ | refine DX (by first | with_reducible assumption | omega) rfl ?_ | refine DW (by first | with_reducible assumption | omega) rfl ?_ | refine VF rfl ?_ | refine B6 ?_ | refine BY ?_ | refine CN ?_ | refine pQ rfl rfl (fun _=> ?_) (fun _=> ?_) | refine LP (fun _=> ?_) (fun _=> ?_) | simp only [AG,AK,AN,AM,AI,AD,AE,AP,AO,AJ,AQ,AR,AL,AH,BE,BJ,BH,BG,BK,BI,BF,A4,A8,A7,A6,A5,AZ])
     all_goals try exact no fun hk=>by have:=dd hk;omega
     have mk:(∀j,j<3→gI (ob h.BB i).field j= -1)→SW h i:=fun ha=>⟨hg,hl3,fun j hj hne=>absurd (ha j hj) hne,fun _=>⟨by omega,by omega,by omega,by omega,hpu⟩,fun hh=>by rw [hv] at hh;cases hh⟩
     refine BD (fun j=>[iv i,iv j, .bool false,I (ob h.BB i).gen,I (ob h.BB i).site,I (ob h.BB i).holds,I (ob h.BB i).roots,I (ob h.BB i).count,iv (AA (iv i)*8+6), .bool false]) (fun _=>[]) 3 (fun j=> ∀k,k<j→gI (ob h.BB i).field k= -1) rfl rfl (fun k hk=>by omega) (fun R2 j hj hP2 hR2=> ?_)
     simp only [AG,AK,AN,AM,AI,AD,AE,AP,AO,AJ,AQ,AR,AL,AH,BE,BJ,BH,BG,BK,BI,BF,A4,A8,A7,A6,A5,AZ]
     simp only [BF,rO,qU,rC]
     rw [AY (AA (iv i)*8+6),G3 hi,AD,hl3]
     refine AX (AW (fun hlt=> ?_) fun hge=> ?_)
     ·have hlt:j<3:=by omega
      refine AS hlt (MJ hi (by omega) (CN (AW (fun hne=> ?_) fun hne=> ?_)))
      ·exact no fun hk=>by have:=(hk.lead j hlt hne).1;rw [hv] at this;cases this
      ·refine BA (by omega) (hR2 hlt fun k hk=> ?_)
       rcases Nat.lt_succ_iff_lt_or_eq.1 hk with h4 | rfl
       ·exact hP2 k h4
       ·omega
     ·have hj3:j=3:=by omega
      subst hj3
      exact BA (by omega) (stepR (mk hP2))
    ·repeat' (first | refine BW ?_ | refine SV ?_ | refine DX (by first | with_reducible assumption | omega) rfl ?_ | refine DW (by first | with_reducible assumption | omega) rfl ?_ | refine VF rfl ?_ | refine B6 ?_ | refine CN ?_ | refine pQ rfl rfl (fun _=> ?_) (fun _=> ?_) | refine LP (fun _=> ?_) (fun _=> ?_))
     all_goals exact no fun hk=>by have:=(dd hk).2.2.2.2;rw [hpu] at this;cases this
  | true=>
    have ll:=fun hk:SW h i=>hk.lv hv
    refine CT (BY ?_)
    by_cases hz:1≤(ob h.BB i).gen∧(0≤(ob h.BB i).site∧(ob h.BB i).site≤(h.sites.length:Int)-1)∧(0≤(ob h.BB i).holds∧(ob h.BB i).holds≤20)∧(0≤(ob h.BB i).roots∧(ob h.BB i).roots≤20)
    ·obtain ⟨z1,z2,z3,z4⟩:=hz
     repeat' (first | refine DS ?_ | refine BW ?_ | refine F8 (by first | with_reducible assumption | omega) ?_ | refine DW (by first | with_reducible assumption | omega) rfl ?_ | refine DE (by first | with_reducible assumption | omega) ?_ | refine AX ?_ | refine D7 ?_ | refine H8 ⟨by omega,by omega⟩ ?_ | simp only [AG,AK,AN,AM,AI,AD,AE,AP,AO,AJ,AQ,AR,AL,AH,BE,BJ,BH,BG,BK,BI,BF,A4,A8,A7,A6,A5,AZ])
     all_goals try (exfalso;omega)
     refine BD (fun j=>[iv i,iv j, .bool true,I (ob h.BB i).gen,I (ob h.BB i).site,I (ob h.BB i).holds,I (ob h.BB i).roots,I (ob h.BB i).count,iv (AA (iv i)*8+6), .bool (ob h.BB i).purple]) (fun _=>[]) 3 (fun j=> ∀k,k<j→gI (ob h.BB i).field k≠ -1→(ob h.BB i).live=true∧0≤AB h.BB (gI (ob h.BB i).field k)) rfl rfl (fun k hk=>by omega) (fun R2 j hj hP2 hR2=> ?_)
     simp only [AG,AK,AN,AM,AI,AD,AE,AP,AO,AJ,AQ,AR,AL,AH,BE,BJ,BH,BG,BK,BI,BF,A4,A8,A7,A6,A5,AZ]
     simp only [BF,rO,qU,rC]
     rw [AY (AA (iv i)*8+6),G3 hi,AD,hl3]
     refine AX (AW (fun hlt=> ?_) fun hge=> ?_)
     ·have hlt:j<3:=by omega
      refine AS hlt (MJ hi (by omega) ?_)
      repeat' (first | refine CO (hn.fld i j) (by omega) ?_ | refine BW ?_ | refine HV (by first | with_reducible assumption | omega) ?_ | refine LA (by first | with_reducible assumption | omega) ?_ | refine DX (by first | with_reducible assumption | omega) rfl ?_ | refine DW (by first | with_reducible assumption | omega) rfl ?_ | refine BY ?_ | refine AX ?_ | refine CN ?_ | refine BA (by omega) ?_ | refine AS (by omega) ?_ | refine MJ (by omega) (by omega) ?_ | refine AW (fun _=> ?_) (fun _=> ?_) | refine KI (fun _=> ?_) (fun _=> ?_))
      all_goals first
       | (refine hR2 hlt fun k hk hne=> ?_
          rcases Nat.lt_succ_iff_lt_or_eq.1 hk with h4 | rfl
          ·exact hP2 k h4 hne
          ·first
           | exact absurd hne (by assumption)
           | exact ⟨hv,by omega⟩)
       | (refine no fun hk=> ?_
          have h4:=hk.lead j hlt (by assumption)
          omega)
     ·have hj3:j=3:=by omega
      subst hj3
      have fin:(ob h.BB i).count=(ob h.BB i).holds+(ob h.BB i).roots+inE h.BB i→1≤(ob h.BB i).count→(ob h.BB i).purple=decide (CM i (ob h.BB i).gen∈h.buffer)→SW h i:=fun e f hp=>⟨hg,hl3,hP2,fun hh=>(by rw [hv] at hh;cases hh),fun _=>⟨z1,z2,z3,z4,e,f,hp⟩⟩
      refine ET ⟨by omega,by omega⟩ (N8 ⟨by omega,by omega⟩ (by omega) hf.of (ET ⟨by omega,by omega⟩ ?_))
      repeat' (first | refine IW ?_ | refine NH (by omega) ?_ | refine BW ?_ | refine SV ?_ | refine NU (by first | with_reducible assumption | omega) ?_ | refine F8 (by first | with_reducible assumption | omega) ?_ | refine DX (by first | with_reducible assumption | omega) rfl ?_ | refine DW (by first | with_reducible assumption | omega) rfl ?_ | refine VF rfl ?_ | refine B6 ?_ | refine AX ?_ | refine CN ?_ | refine D7 ?_ | refine BA (by omega) ?_ | refine AW (fun _=> ?_) (fun _=> ?_) | refine LP (fun _=> ?_) (fun _=> ?_))
      all_goals first
       | (refine no fun hk=> ?_
          have h4:=ll hk
          omega)
       | exact stepR (fin (by omega) (by omega) (Decidable.not_not.1 (by assumption)))
       | exact no fun hk=>absurd (ll hk).2.2.2.2.2.2 (by assumption)
    ·repeat' (first | refine DS ?_ | refine BW ?_ | refine SV ?_ | refine NU (by first | with_reducible assumption | omega) ?_ | refine F8 (by first | with_reducible assumption | omega) ?_ | refine DX (by first | with_reducible assumption | omega) rfl ?_ | refine DW (by first | with_reducible assumption | omega) rfl ?_ | refine VF rfl ?_ | refine B6 ?_ | refine DC (by first | with_reducible assumption | omega) ?_ | refine AX ?_ | refine D7 ?_ | refine H8 ⟨by omega,by omega⟩ ?_ | refine LP (fun _=> ?_) (fun _=> ?_))
     all_goals first
      | (refine no fun hk=>hz ?_
         have:=ll hk
         exact ⟨this.1,this.2.1,this.2.2.1,this.2.2.2.1⟩)
      | (exfalso;omega)
 have hi8:i=8:=by omega
 subst hi8
 refine BD (fun i=>[iv i]) (fun _=>[]) h.CA.length (fun i=> ∀k,k<i→((wk h.CA k).used=false→(wk h.CA k).target=0)∧((wk h.CA k).used=true→8≤(wk h.CA k).target∧(wk h.CA k).target≤7999)) rfl rfl (fun k hk=>by omega) (fun R2 i hi hP2 hR2=> ?_)
 simp only [AG,AK,AN,AM,AI,AD,AE,AP,AO,AJ,AQ,AR,AL,AH,BE,BJ,BH,BG,BK,BI,BF,A4,A8,A7,A6,A5,AZ]
 refine AX (AW (fun hlt=> ?_) fun hge=> ?_)
 ·have hlt:i<h.CA.length:=by omega
  refine AS hlt (X2 hlt ?_)
  have stepR:=fun hk=>hR2 hlt fun k hki=>(Nat.lt_succ_iff_lt_or_eq.1 hki).elim (hP2 k) fun he=>he ▸ hk
  simp only [jP,p9]
  cases hu:(wk h.CA i).used with
  | false=>
    refine CT ?_
    repeat' (first | refine BW ?_ | refine S7 ?_ | refine R9 (by first | with_reducible assumption | omega) ?_ | refine YP (by first | with_reducible assumption | omega) ?_ | refine MM ?_ | refine NY ?_ | refine NU (by first | with_reducible assumption | omega) ?_ | refine F8 (by first | with_reducible assumption | omega) ?_ | refine DX (by first | with_reducible assumption | omega) rfl ?_ | refine DW (by first | with_reducible assumption | omega) rfl ?_ | refine VF rfl ?_ | refine cF rfl ?_ | refine B6 ?_ | refine BY ?_ | refine CN ?_ | refine BA (by omega) ?_ | refine rM (fun _=> ?_) (fun _=> ?_))
    all_goals first
     | (refine stepR ⟨fun _=> ?_,fun hh=>(by rw [hu] at hh;cases hh)⟩
        first
         | omega
         | (simp_all;done))
     | (refine h2 fun hk=> ?_
        have h4:=(hk.weak i (by omega)).1 hu
        first
         | omega
         | (simp_all;done))
  | true=>
    refine CT ?_
    repeat' (first | refine DS ?_ | refine BW ?_ | refine S7 ?_ | refine dW ?_ | refine MM ?_ | refine OZ ?_ | refine NY ?_ | refine VF rfl ?_ | refine cF rfl ?_ | refine D7 ?_ | refine BA (by omega) ?_ | refine AW (fun _=> ?_) (fun _=> ?_))
    all_goals first
     | (refine stepR ⟨fun hh=>(by rw [hu] at hh;cases hh),fun _=> ?_⟩
        first
         | omega
         | (simp_all;done))
     | (refine h2 fun hk=> ?_
        have h4:=(hk.weak i (by omega)).2 hu
        first
         | omega
         | (simp_all;done))
 have hi8:i=8:=by omega
 subst hi8
 refine BD (fun i=>[iv i]) (fun _=>[]) h.buffer.length (fun i=> ∀k,k<i→0≤AB h.BB (gI h.buffer k)∧gI h.buffer k∉h.buffer.take k) rfl rfl (fun k hk=>by omega) (fun R3 i hi hP3 hR3=> ?_)
 simp only [AG,AK,AN,AM,AI,AD,AE,AP,AO,AJ,AQ,AR,AL,AH,BE,BJ,BH,BG,BK,BI,BF,A4,A8,A7,A6,A5,AZ]
 refine AX (AW (fun hlt=> ?_) fun hge=> ?_)
 ·have hlt:i<h.buffer.length:=by omega
  have e:IA (tI h.buffer) [] (AA (lY (two (iv 0) (iv i)))*1) (AA (mL (two (iv 0) (iv i)))*1)=tI (h.buffer.take i):=by
   have h1:AA (lY (two (iv 0) (iv i)))=0:=rfl
   have h2:AA (mL (two (iv 0) (iv i)))=i:=AY i
   rw [h1,h2];simp [IA,node,tI,List.map_take]
  refine AS hlt (ldI hlt (CO (hn.bf i) (by omega) (AX (BW (BW (BW (LP (fun hb=> ?_) fun hb=> ?_)))))))
  ·refine l9 (by omega) (BW (BW (BW (F8 hb (AS hlt (F8 hb (ldI hlt (F8 hb ?_))))))))
   rw [e]
   refine NH (by simp;omega) (DW hb rfl (AW (fun hm=>h2 fun hk=>(hk.buf i hlt).2 hm) fun hm=> ?_))
   refine BA (by omega) (hR3 hlt fun k hk=> ?_)
   rcases Nat.lt_succ_iff_lt_or_eq.1 hk with h3 | rfl
   ·exact hP3 k h3
   ·exact ⟨by omega,hm⟩
  ·repeat' (first | refine BW ?_ | refine NU (by first | with_reducible assumption | omega) ?_ | refine DX (by first | with_reducible assumption | omega) rfl ?_ | refine B6 ?_)
   all_goals exact h2 fun hk=>by have:=(hk.buf i hlt).1;omega
 have hib:i=h.buffer.length:=by omega
 subst hib
 refine BD (fun i=>[iv i]) (fun _=>[]) h.sites.length (fun i=> ∀k,k<i→(1≤((gS h.sites k).size:Int)∧((gS h.sites k).size:Int)≤8)∧gS h.sites k∉h.sites.take k) rfl rfl (fun k hk=>by omega) (fun R4 i hi hP4 hR4=> ?_)
 simp only [AG,AK,AN,AM,AI,AD,AE,AP,AO,AJ,AQ,AR,AL,AH,BE,BJ,BH,BG,BK,BI,BF,A4,A8,A7,A6,A5,AZ]
 refine AX (AW (fun hlt=> ?_) fun hge=> ?_)
 ·have hlt:i<h.sites.length:=by omega
  refine AS hlt (ldS hlt (Y9 (DS (D7 (AW (fun hb=>h2 fun hk=>hb (hk.sites.sz i hlt)) fun hb=> ?_)))))
  refine BD (fun j=>[iv i,iv j]) (fun _=>[]) i (fun j=>gS h.sites i∉h.sites.take j) rfl rfl (by simp) (fun R5 j hj hP5 hR5=> ?_)
  simp only [AG,AK,AN,AM,AI,AD,AE,AP,AO,AJ,AQ,AR,AL,AH,BE,BJ,BH,BG,BK,BI,BF,A4,A8,A7,A6,A5,AZ]
  refine AX (AW (fun hlj=> ?_) fun hgj=> ?_)
  ·have hlj:j<i:=by omega
   refine AS (by omega) (ldS (by omega) (AS hlt (ldS hlt (aD (AW (fun he=>h2 fun hk=>hk.sites.one i hlt ?_) fun he=> ?_)))))
   ·rw [←he, ←Q3 (by omega)]
    exact List.mem_take_iff_getElem.2 ⟨j,by omega,rfl⟩
   ·exact BA (by omega) (hR5 hlj (dP (by omega) hP5 he))
  ·have:j=i:=by omega
   subst this
   refine BA (by omega) (hR4 hlt fun k hk=> ?_)
   rcases Nat.lt_succ_iff_lt_or_eq.1 hk with h3 | rfl
   ·exact hP4 k h3
   ·exact ⟨Decidable.not_not.1 hb,hP5⟩
 ·have:i=h.sites.length:=by omega
  subst this
  exact h1 ⟨o8,w8,⟨by omega,fun i hi=>(hP4 i hi).1,fun i hi=>(hP4 i hi).2⟩,fun i hi=>hP i hi,fun i hi=>hP2 i hi,fun i hi=>hP3 i hi⟩
end Go.Proofs.Ytklmcfpgdfibnaa.P
namespace Go.Proofs.Ytklmcfpgdfibnaa.P
open Go Go.Proofs.Ytklmcfpgdfibnaa Go.Proofs.Ytklmcfpgdfibnaa.Eng
set_option linter.unusedVariables false
set_option maxHeartbeats 4000000
set_option linter.unusedVariables false
set_option linter.unusedSimpArgs false
attribute [local irreducible] prP gP gE gF AV ixW ldc ldg ldl stc stg scW mkW apW BL cl2 BS EC CX
variable {w0:World}
theorem IH {K:J2} (h:K [] [tI N9]):cl2 ⟨Try.prog,w0⟩ 121 C1.sg [] [] K:=by
 refine C1.cl2 ?_
 unfold C1.txt
 refine BD (fun i=>[iv i]) (fun i=>[tI (List.replicate i (-1))]) 3 (fun _=>True) rfl rfl trivial (fun R i hi hP hR=> ?_)
 simp only [AG,AK,AN,AM,AI,AD,AE,AP,AO,AJ,AQ,AR,AL,AH,BE,BJ,BH,BG,BK,BI,BF,A4,A8,A7,A6,A5,AZ]
 refine AX (AW (fun hlt=> ?_) fun hge=> ?_)
 ·have hlt:i<3:=by omega
  refine EH rfl (by simp;omega) (BA (by omega) ?_)
  have:=hR hlt trivial
  rw [List.replicate_succ', ←D6] at this
  exact this
 ·have:i=3:=by omega
  subst this
  exact h
structure St (h:Hp):Prop where
 ol:h.BB.length=8
 wl:h.CA.length=8
 sl:h.sites.length≤6
 bl:h.buffer.length≤100
 of: ∀o∈h.BB,OF o
 ss: ∀s∈h.sites,(s.size:Int)≤1048576
 wf: ∀w∈h.CA,F64 w.target
 bf: ∀x∈h.buffer,F64 x
theorem St.fits {h:Hp} (s:St h):Fits h:=⟨by have:=s.ol;omega,fun o ho=>by have:=(s.of o ho).len;omega,by have:=s.wl;omega,by have:=s.bl;omega,by have:=s.sl;omega,s.ss⟩
def ED (os:List AU) (id:Int):List AU:=if AB os id<0 then os else os.set (AB os id).toNat {ob os (AB os id).toNat with count:=w64 ((ob os (AB os id).toNat).count+1)}
theorem SK (os:List AU) (id:Int):(ED os id).length=os.length:=by unfold ED;split <;> simp
theorem bJ {os:List AU} {id:Int} (h: ∀o∈os,OF o): ∀o∈ED os id,OF o:=by
 unfold ED
 split
 ·exact h
 ·have hk:=BN (l:=os) (id:=id) (by omega)
  have ho:=h _ (HR (l:=os) (i:=(AB os id).toNat) (by omega))
  exact JP h ⟨ho.gen,ho.len,ho.fld⟩
theorem OM {os:List AU} {b c d:List T} {id:Int} {K:J2} (hid:F64 id) (hol:os.length=8) (h:K [] [tR tO (ED os id)]):cl2 ⟨Try.prog,w0⟩ 163 C0.sg [I id] [tR tO os,b,c,d] K:=by
 refine C0.cl2 ?_
 unfold C0.txt
 simp only [AG,AK,AN,AM,AI,AD,AE,AP,AO,AJ,AQ,AR,AL,AH,BE,BJ,BH,BG,BK,BI,BF,A4,A8,A7,A6,A5,AZ]
 refine C6 hid (by omega) ?_
 simp only [AG,AK,AN,AM,AI,AD,AE,AP,AO,AJ,AQ,AR,AL,AH,BE,BJ,BH,BG,BK,BI,BF,A4,A8,A7,A6,A5,AZ]
 unfold ED at h
 refine LO (AW (fun hs=> ?_) fun hs=> ?_)
 ·have hk:=BN (l:=os) (id:=id) (by omega)
  rw [if_neg (by omega)] at h
  obtain ⟨k,hkk⟩: ∃k,(AB os id).toNat=k:=⟨_,rfl⟩
  have hkI:AB os id=(k:Int):=by omega
  rw [hkk] at h
  rw [hkI]
  have hkl:k<os.length:=by omega
  rw [gD hkl]
  exact AS (by omega) (HM (i:=k) hkl (by decide) rfl (F7 (AS (by omega) (GR hkl h))))
 ·rw [if_pos (by omega)] at h;exact h
theorem SZ {h:Hp} {id:Int} {K:J2} (st:St h) (hid:F64 id) (hk:K [] (trees {h with BB:=ED h.BB id})):cl2 ⟨Try.prog,w0⟩ 153 FH.sg [I id] (trees h) K:=by
 refine FH.cl2 ?_
 unfold FH.txt
 refine J3 st.fits ?_
 obtain ⟨os,ws,bf,ss⟩:=h
 have hol:os.length=8:=st.ol
 simp only [trees] at hk ⊢
 refine CO hid (by omega) ?_
 simp only [AG,AK,AN,AM,AI,AD,AE,AP,AO,AJ,AQ,AR,AL,AH,BE,BJ,BH,BG,BK,BI,BF,A4,A8,A7,A6,A5,AZ]
 unfold ED at hk
 refine BO (LO (AW (fun hs=> ?_) fun hs=> ?_))
 ·have hkk:=BN (l:=os) (id:=id) (by omega)
  rw [if_neg (by omega)] at hk
  obtain ⟨k,hkk⟩: ∃k,(AB os id).toNat=k:=⟨_,rfl⟩
  have hkI:AB os id=(k:Int):=by omega
  rw [hkk] at hk
  rw [hkI]
  have hkl:k<os.length:=by omega
  rw [gD hkl]
  exact AS (by omega) (HM (i:=k) hkl (by decide) rfl (F7 (AS (by omega) (GR hkl hk))))
 ·rw [if_pos (by omega)] at hk;exact hk
theorem S4 {h:Hp} {ids:List Int} {K:J2} (st:St h) (hi:ids.length≤100) (hid: ∀x∈ids,F64 x) (hK:K [] [tR tO (HD h.BB h.buffer ids).1,tR tW h.CA,tI (HD h.BB h.buffer ids).2.1,tS h.sites,tI (HD h.BB h.buffer ids).2.2]):cl2 ⟨Try.prog,w0⟩ 154 FZ.sg [] [tR tO h.BB,tR tW h.CA,tI h.buffer,tS h.sites,tI ids] K:=by
 refine FZ.cl2 ?_
 unfold FZ.txt
 refine J3 st.fits ?_
 obtain ⟨os,ws,buf,ss⟩:=h
 have hol:os.length=8:=st.ol
 have hof: ∀o∈os,OF o:=st.of
 have hb:buf.length≤100:=st.bl
 simp only [trees] at hK ⊢
 rw [List.nil_append]
 simp only [AG,AK,AN,AM,AI,AD,AE,AP,AO,AJ,AQ,AR,AL,AH,BE,BJ,BH,BG,BK,BI,BF,A4,A8,A7,A6,A5,AZ]
 refine EH (LZ _) (by first | omega | (simp only [cnt,List.length_nil];omega)) ?_
 obtain ⟨R,hR0⟩: ∃R,HD os buf ids=R:=⟨_,rfl⟩
 have st:=LsI.start (buf:=buf) hol hof hid
 rw [hR0] at st hK
 refine EI (α:=List AU×List Int×List Int×List Int×Nat) (fun q=>[iv (q.2.2.2.1.length-q.2.2.2.2),iv q.2.2.2.2]) (fun q=>[tI q.2.2.1,tI q.2.2.2.1,tR tO q.1,tR tW ws,tI q.2.1,tS ss]) (fun q=>mu q.2.2.1 (q.2.2.2.1.drop q.2.2.2.2)) (LsI R (buf.length+ids.length+36)) (os,buf,[],ids,0) rfl rfl st (fun Rr q hq hR=> ?_)
 obtain ⟨os,bf,freed,row,off⟩:=q
 have hq':LsI R (buf.length+ids.length+36) (os,bf,freed,row,off):=hq
 obtain ⟨ol,of,fr,ofl,td,sz,_⟩:=id hq'
 simp only at ol of fr ofl td sz
 have hmz:mu freed (row.drop off)=(row.length-off)+4*(9-freed.length):=by simp [mu]
 simp only [AG,AK,AN,AM,AI,AD,AE,AP,AO,AJ,AQ,AR,AL,AH,BE,BJ,BH,BG,BK,BI,BF,A4,A8,A7,A6,A5,AZ]
 simp only [AY]
 refine IJ (BW (BW (KI (fun hlt=> ?_) fun hge=> ?_)))
 rotate_left
 ·refine DW hge rfl (BY ?_)
  have:=hq'.stop (.inl (by
   have: ¬(((row.length-off:Nat):Int)>0):=hge
   omega))
  rw [this] at hK;exact hK
 have hlt':off<row.length:=by
  have:((row.length-off:Nat):Int)>0:=hlt
  omega
 refine G8 (DX hlt rfl (AW (fun h8=> ?_) fun h8=> ?_))
 rotate_left
 ·have:=hq'.stop (.inr (by omega))
  rw [this] at hK;exact hK
 have h8':freed.length≤8:=by omega
 obtain ⟨hidf,_⟩:=hq'.step hlt' h8'
 refine AS (j:=0) (by omega) (lP hlt' (p8 (by omega) (CO hidf (by omega) ?_)))
 have e1:off+AA (iv 1)*1=off+1:=by rw [AY]
 have e2:row.length-off-1=row.length-(off+1):=by omega
 simp only [AY,e2,Nat.mul_one,BE]
 have mu1:mu freed (row.drop (off+1))<mu freed (row.drop off):=by rw [drop_cons hlt',ZM];omega
 refine AX (AW (fun hs=>hR (os,bf,freed,row,off+1) (hq'.skip hlt' h8' hs) mu1) fun hs=> ?_)
 have hs':0≤AB os (gI row off):=by omega
 have hk:=BN hs'
 have n1:=hq'.IL hlt' h8' hs'
 have n2:=hq'.put hlt' h8' hs'
 have n3:=fun hc row' off'=>hq'.free hlt' h8' hs' hc (row':=row') (off':=off')
 have hobf:=of _ (HR (l:=os) (i:=(AB os (gI row off)).toNat) (by omega))
 generalize hgid:gI row off=id at*
 obtain ⟨k,hkk⟩: ∃k,(AB os id).toNat=k:=⟨_,rfl⟩
 have hkI:AB os id=(k:Int):=by omega
 rw [hkk] at hk n1 n2 n3 hobf
 rw [hkI]
 have hkl:k<os.length:=by omega
 rw [gD hkl]
 generalize ho:ob os k=o at*
 refine AS (by omega) (HM (i:=k) hkl (by decide) rfl (VH (AS (by omega) (GR hkl ?_))))
 generalize hcc:w64 (o.count-1)=c at*
 simp only [AG,AK,AN,AM,AI,AD,AE,AP,AO,AJ,AQ,AR,AL,AH,BE,BJ,BH,BG,BK,BI,BF,A4,A8,A7,A6,A5,AZ]
 have hl8:(os.set k {o with count:=c}).length=os.length:=List.length_set
 simp only [List.length_set]
 refine AS (by omega) (HM (v:=I c) (i:=k) hkl (by decide) rfl ?_)
 refine IJ (AW (fun hc=> ?_) fun hc=> ?_)
 ·refine BO (AS (by omega) (HM (v:= .bool o.purple) (i:=k) hkl (by decide) rfl (CT ?_)))
  cases hp:o.purple with
  | false=>
    refine B6 (AS (by omega) (N5 hkl (EH rfl (by omega) ?_)))
    have:=hR _ (n2 hc hp) (by simp only;exact mu1)
    simp only at this
    rw [←D6] at this
    simp only [AG,AK,AN,AM,AI,AD,AE,AP,AO,AJ,AQ,AR,AL,AH,BE,BJ,BH,BG,BK,BI,BF,A4,A8,A7,A6,A5,AZ]
    simp only [AY]
    exact this
  | true=>
    have:=hR _ (n1 hc hp) (by simp only;exact mu1)
    simp only [hp] at this
    refine BY ?_
    simp only [AG,AK,AN,AM,AI,AD,AE,AP,AO,AJ,AQ,AR,AL,AH,BE,BJ,BH,BG,BK,BI,BF,A4,A8,A7,A6,A5,AZ]
    simp only [AY]
    exact this
 ·refine EH rfl (by omega) ?_
  have hfl:o.field.length=3:=hobf.len
  refine EI (α:=Nat×List Int×Nat) (fun q=>[iv (q.2.1.length-q.2.2),iv q.2.2,I id,iv k,iv q.1]) (fun q=>[tI (freed++[id]),tI q.2.1,tR tO (os.set k {o with count:=c}),tR tW ws,tI bf,tS ss]) (fun q=>3-q.1) (fun q=>q.1≤3∧q.2.2≤q.2.1.length∧q.2.1.drop q.2.2=row.drop (off+1)++(o.field.take q.1).filter fun x=>decide (0≤x)) (0,row,off+1) rfl ?_ ⟨by omega,hlt',by simp⟩ (fun R2 q hq2 hR2=> ?_)
  ·simp only [D6]
  obtain ⟨i,rw',of'⟩:=q
  obtain ⟨hi3,hof',hdr⟩:=hq2
  simp only at hi3 hof' hdr
  have hrl:rw'.length-of'≤row.length-(off+1)+3:=by
   have e:=congrArg List.length hdr
   have:=List.length_filter_le (fun x=>decide (0≤x)) (o.field.take i)
   simp only [List.length_drop,List.length_append,List.length_take] at e this
   omega
  simp only [AG,AK,AN,AM,AI,AD,AE,AP,AO,AJ,AQ,AR,AL,AH,BE,BJ,BH,BG,BK,BI,BF,A4,A8,A7,A6,A5,AZ]
  simp only [List.length_set]
  refine AS (by omega) (T6 (i:=k) hkl (by decide) rfl ?_)
  simp only [AY,gV hkl,AD]
  refine AX (AW (fun hlt=> ?_) fun hge=> ?_)
  ·have hlt:i<o.field.length:=by omega
   have hfx:=hobf.fld _ (DV hlt)
   refine BO (AS (by omega) (T6 (i:=k) hkl (by decide) rfl ?_))
   have ed:(rw'.drop of').take (rw'.length-of')=rw'.drop of':=by rw [←List.length_drop,List.take_length]
   have ea:tI (rw'.drop of')++[T.c (I (gI o.field i))]=tI (rw'.drop of'++[gI o.field i]):=D6 _ _
   simp only [AY,gV hkl,AD,ON,Nat.mul_one,ed]
   refine AS hlt (lU hkl hlt ?_)
   simp only [AY]
   refine LO (AW (fun hp=> ?_) fun hp=> ?_)
   ·refine AS (by omega) (T6 (i:=k) hkl (by decide) rfl ?_)
    simp only [AY,gV hkl,AD]
    refine AS hlt (lU hkl hlt ?_)
    simp only [AY]
    refine EH rfl (by omega) ?_
    have:=hR2 (i+1,rw'.drop of'++[gI o.field i],0) ⟨by simp only;omega,by simp only;omega,by simp only [List.drop_zero];rw [hdr,List.take_succ_eq_append_getElem hlt,List.filter_append, ←List.append_assoc,EE hlt];congr 1;simp [hp]⟩ (by simp only;omega)
    refine BA (by omega) ?_
    rw [ea]
    simp only [AG,AK,AN,AM,AI,AD,AE,AP,AO,AJ,AQ,AR,AL,AH,BE,BJ,BH,BG,BK,BI,BF,A4,A8,A7,A6,A5,AZ]
    simp only [AY]
    exact this
   ·have:=hR2 (i+1,rw',of') ⟨by simp only;omega,hof',by simp only;rw [hdr,List.take_succ_eq_append_getElem hlt,List.filter_append, ←List.append_assoc,EE hlt];simp;omega⟩ (by simp only;omega)
    refine BA (by omega) ?_
    simp only [AG,AK,AN,AM,AI,AD,AE,AP,AO,AJ,AQ,AR,AL,AH,BE,BJ,BH,BG,BK,BI,BF,A4,A8,A7,A6,A5,AZ]
    simp only [AY]
    exact this
  ·have:i=o.field.length:=by omega
   subst this
   rw [List.take_length] at hdr
   refine SL (by omega) ?_
   try simp only [AG,List.length_set]
   refine AS (by omega) ?_
   simp only [AY]
   refine pX hkl (IH ?_)
   refine AS (by omega) ?_
   simp only [AY]
   refine qA hkl (z:=B4 o.gen) rfl ?_
   exact hR _ (n3 hc _ _ hdr hof') (by simp only;rw [hdr];simp only [mu,List.length_append,List.length_singleton] at mu1 ⊢;have:=List.length_filter_le (fun x=>decide (0≤x)) o.field;omega)
end Go.Proofs.Ytklmcfpgdfibnaa.P
