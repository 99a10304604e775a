/- A part of the proof. -/
import Derived.Test.YtnhicpkhkaihoaaCkHpG
namespace Go.Proofs.Ytnhicpkhkaihoaa.P
open Go Go.Proofs.Ytnhicpkhkaihoaa Go.Proofs.Ytnhicpkhkaihoaa.Eng
set_option maxHeartbeats 4000000
set_option linter.unusedVariables false
set_option linter.unusedSimpArgs false
attribute [local irreducible] prP gP gE gF AU ixW ldc ldg ldl stc stg scW mkW apW BD cl2 BW FR DK
variable {w0:World}
theorem tU (a b c d e f g h:Value) (l:List Value):nx (a::b::c::d::e::f::g::h::l) 7=h:=rfl
theorem s7 (a b c d e f g h i:Value) (l:List Value):nx (a::b::c::d::e::f::g::h::i::l) 8=i:=rfl
theorem tL (a b c d e f g h i j:Value) (l:List Value):nx (a::b::c::d::e::f::g::h::i::j::l) 9=j:=rfl
theorem rW (o:Wk):tv (nxT (tW o) 0)= .bool o.used:=rfl
theorem uN (o:Wk):tv (nxT (tW o) 1)=I o.target:=rfl
theorem mQ (o:AX):tv (nxT (tO o) 0)= .bool o.live:=rfl
theorem oO (o:AX):tv (nxT (tO o) 1)=I o.gen:=rfl
theorem rP (o:AX):tv (nxT (tO o) 2)=I o.site:=rfl
theorem rN (o:AX):tv (nxT (tO o) 3)=I o.holds:=rfl
theorem qW (o:AX):tv (nxT (tO o) 4)=I o.roots:=rfl
theorem lV (o:AX):tv (nxT (tO o) 5)=I o.count:=rfl
theorem rO (o:AX):tv (nxT (tO o) 7)= .bool o.purple:=rfl
theorem X3 {h:Hp} {K:J2} (hf:Fits h) (hn:XJ h) (h1:DO h→K [.bool true] []) (h2: ¬DO h→K [.bool false] []):cl2 ⟨Try.prog,w0⟩ 135 GU.sg [] (trees h) K:=by
 have g1:=hf.ol;have g2:=hf.wl;have g3:=hf.sl;have g4:=hf.bl
 refine GU.cl2 ?_
 unfold GU.txt
 simp only [AI,AM,AP,AR,AT,AD,AH,AL,AK,AO,AQ,AJ,AS,AN,BE,BJ,BH,BK,BI,BG,BF,A1,AZ,A5,A7,A6,A4]
 refine B6 (BZ (BZ (BZ (MP (fun ho=> ?_) fun ho=> ?_))))
 rotate_left
 ·refine EF ho rfl (BZ (BZ (BZ (TQ (YD rfl (B4 (h2 fun hk=>ho (by have:=hk.ol;omega))))))))
 refine B6 (E9 ho rfl (BZ (BZ (BZ (MP (fun hw=> ?_) fun hw=> ?_)))))
 rotate_left
 ·exact EF hw rfl (B4 (h2 fun hk=>hw (by have:=hk.wl;omega)))
 refine JK (E9 hw rfl (AW (fun h6=>h2 fun hk=>(by have:=hk.sites.len;omega)) fun h6=> ?_))
 have o8:h.BB.length=8:=by omega
 have w8:h.B5.length=8:=by omega
 refine BA (fun i=>[iv i]) (fun _=>[]) h.BB.length (fun i=> ∀k,k<i→T2 h k) rfl rfl (fun k hk=>by omega) (fun R i hi hP hR=> ?_)
 simp only [AI,AM,AP,AR,AT,AD,AH,AL,AK,AO,AQ,AJ,AS,AN,BE,BJ,BH,BK,BI,BG,BF,A1,AZ,A5,A7,A6,A4]
 refine AV (AW (fun hlt=> ?_) fun hge=> ?_)
 ·have hi:i<h.BB.length:=by omega
  refine BU ?_
  have stepR:T2 h i→R [iv (i+1)] []:=fun hk=>hR hi fun k hki=>(Nat.lt_succ_iff_lt_or_eq.1 hki).elim (hP k) fun he=>he ▸ hk
  have no: ¬T2 h i→K [.bool false] []:=fun hk=>h2 fun hh=>hk (hh.obj i (by omega))
  clear hR h1 h2
  have hfo:=gV hf.of i
  have hnum:=hn.ob i
  obtain ⟨⟨n1,n2⟩,⟨n3,n4⟩,⟨n7,n8⟩,⟨n9,n10⟩,⟨n5,n6⟩,_⟩:=hnum
  have hib:=sA hf.ol hf.of i
  refine AG hi (OZ hi ?_)
  rw [HU hi,AD]
  refine DW (DE (BZ (BZ (BZ (MP (fun hg=> ?_) fun hg=> ?_)))))
  rotate_left
  ·exact EF hg rfl (B4 (no fun hk=>hg hk.gen))
  refine B6 (E9 hg rfl (AW (fun h3=>no fun hk=>by have:=hk.len;omega) fun h3=> ?_))
  have hl3:(ob h.BB i).field.length=3:=by omega
  have hg:0≤(ob h.BB i).gen∧(ob h.BB i).gen≤999:=Decidable.not_not.1 hg
  simp only [mQ,oO,rP,rN,qW,lV,rO]
  cases hv:(ob h.BB i).live with
  | false=>
    have dd:T2 h i→(ob h.BB i).site=0∧(ob h.BB i).holds=0∧(ob h.BB i).roots=0∧(ob h.BB i).count=0∧(ob h.BB i).purple=false:=fun hk=>hk.dead hv
    refine BY (B4 ?_)
    cases hpu:(ob h.BB i).purple
    ·repeat' (first | refine BZ ?_ | refine TQ ?_ | refine EF (by first | with_reducible assumption | omega) rfl ?_ | refine E9 (by first | with_reducible assumption | omega) rfl ?_ | refine YD rfl ?_ | refine B4 ?_ | refine BN ?_ | refine B6 ?_ | refine rL rfl rfl (fun _=> ?_) (fun _=> ?_) | refine MP (fun _=> ?_) (fun _=> ?_) | simp only [AI,AM,AP,AR,AT,AD,AH,AL,AK,AO,AQ,AJ,AS,AN,BE,BJ,BH,BK,BI,BG,BF,A1,AZ,A5,A7,A6,A4])
     all_goals try exact no fun hk=>by have:=dd hk;omega
     have mk:(∀j,j<3→gI (ob h.BB i).field j= -1)→T2 h i:=fun ha=>⟨hg,hl3,fun j hj hne=>absurd (ha j hj) hne,fun _=>⟨by omega,by omega,by omega,by omega,hpu⟩,fun hh=>by rw [hv] at hh;cases hh⟩
     refine BA (fun j=>[iv i,iv j, .bool false,I (ob h.BB i).gen,I (ob h.BB i).site,I (ob h.BB i).holds,I (ob h.BB i).roots,I (ob h.BB i).count,iv (AA (iv i)*8+6), .bool false]) (fun _=>[]) 3 (fun j=> ∀k,k<j→gI (ob h.BB i).field k= -1) rfl rfl (fun k hk=>by omega) (fun R2 j hj hP2 hR2=> ?_)
     simp only [AI,AM,AP,AR,AT,AD,AH,AL,AK,AO,AQ,AJ,AS,AN,BE,BJ,BH,BK,BI,BG,BF,A1,AZ,A5,A7,A6,A4]
     simp only [BF,tU,s7,tL]
     rw [AY (AA (iv i)*8+6),HU hi,AD,hl3]
     refine AV (AW (fun hlt=> ?_) fun hge=> ?_)
     ·have hlt:j<3:=by omega
      refine AG hlt (NB hi (by omega) (B6 (AW (fun hne=> ?_) fun hne=> ?_)))
      ·exact no fun hk=>by have:=(hk.lead j hlt hne).1;rw [hv] at this;cases this
      ·refine A8 (by omega) (hR2 hlt fun k hk=> ?_)
       rcases Nat.lt_succ_iff_lt_or_eq.1 hk with h4 | rfl
       ·exact hP2 k h4
       ·omega
     ·have hj3:j=3:=by omega
      subst hj3
      exact A8 (by omega) (stepR (mk hP2))
    ·repeat' (first | refine BZ ?_ | refine TQ ?_ | refine EF (by first | with_reducible assumption | omega) rfl ?_ | refine E9 (by first | with_reducible assumption | omega) rfl ?_ | refine YD rfl ?_ | refine B4 ?_ | refine B6 ?_ | refine rL rfl rfl (fun _=> ?_) (fun _=> ?_) | refine MP (fun _=> ?_) (fun _=> ?_))
     all_goals exact no fun hk=>by have:=(dd hk).2.2.2.2;rw [hpu] at this;cases this
  | true=>
    have ll:=fun hk:T2 h i=>hk.lv hv
    refine BY (BN ?_)
    by_cases hz:1≤(ob h.BB i).gen∧(0≤(ob h.BB i).site∧(ob h.BB i).site≤(h.sites.length:Int)-1)∧(0≤(ob h.BB i).holds∧(ob h.BB i).holds≤20)∧(0≤(ob h.BB i).roots∧(ob h.BB i).roots≤20)
    ·obtain ⟨z1,z2,z3,z4⟩:=hz
     repeat' (first | refine DW ?_ | refine BZ ?_ | refine JB (by first | with_reducible assumption | omega) ?_ | refine E9 (by first | with_reducible assumption | omega) rfl ?_ | refine B2 (by first | with_reducible assumption | omega) ?_ | refine AV ?_ | refine DE ?_ | refine IW ⟨by omega,by omega⟩ ?_ | simp only [AI,AM,AP,AR,AT,AD,AH,AL,AK,AO,AQ,AJ,AS,AN,BE,BJ,BH,BK,BI,BG,BF,A1,AZ,A5,A7,A6,A4])
     all_goals try (exfalso;omega)
     refine BA (fun j=>[iv i,iv j, .bool true,I (ob h.BB i).gen,I (ob h.BB i).site,I (ob h.BB i).holds,I (ob h.BB i).roots,I (ob h.BB i).count,iv (AA (iv i)*8+6), .bool (ob h.BB i).purple]) (fun _=>[]) 3 (fun j=> ∀k,k<j→gI (ob h.BB i).field k≠ -1→(ob h.BB i).live=true∧0≤AB h.BB (gI (ob h.BB i).field k)) rfl rfl (fun k hk=>by omega) (fun R2 j hj hP2 hR2=> ?_)
     simp only [AI,AM,AP,AR,AT,AD,AH,AL,AK,AO,AQ,AJ,AS,AN,BE,BJ,BH,BK,BI,BG,BF,A1,AZ,A5,A7,A6,A4]
     simp only [BF,tU,s7,tL]
     rw [AY (AA (iv i)*8+6),HU hi,AD,hl3]
     refine AV (AW (fun hlt=> ?_) fun hge=> ?_)
     ·have hlt:j<3:=by omega
      refine AG hlt (NB hi (by omega) ?_)
      repeat' (first | refine CJ (hn.fld i j) (by omega) ?_ | refine BZ ?_ | refine I5 (by first | with_reducible assumption | omega) ?_ | refine OO (by first | with_reducible assumption | omega) ?_ | refine EF (by first | with_reducible assumption | omega) rfl ?_ | refine E9 (by first | with_reducible assumption | omega) rfl ?_ | refine BN ?_ | refine AV ?_ | refine B6 ?_ | refine A8 (by omega) ?_ | refine AG (by omega) ?_ | refine NB (by omega) (by omega) ?_ | refine AW (fun _=> ?_) (fun _=> ?_) | refine LY (fun _=> ?_) (fun _=> ?_))
      all_goals first
       | (refine hR2 hlt fun k hk hne=> ?_
          rcases Nat.lt_succ_iff_lt_or_eq.1 hk with h4 | rfl
          ·exact hP2 k h4 hne
          ·first
           | exact absurd hne (by assumption)
           | exact ⟨hv,by omega⟩)
       | (refine no fun hk=> ?_
          have h4:=hk.lead j hlt (by assumption)
          omega)
     ·have hj3:j=3:=by omega
      subst hj3
      have fin:(ob h.BB i).count=(ob h.BB i).holds+(ob h.BB i).roots+inE h.BB i→1≤(ob h.BB i).count→(ob h.BB i).purple=decide (CQ i (ob h.BB i).gen∈h.buffer)→T2 h i:=fun e f hp=>⟨hg,hl3,hP2,fun hh=>(by rw [hv] at hh;cases hh),fun _=>⟨z1,z2,z3,z4,e,f,hp⟩⟩
      refine C1 ⟨by omega,by omega⟩ (PT ⟨by omega,by omega⟩ (by omega) hf.of (C1 ⟨by omega,by omega⟩ ?_))
      repeat' (first | refine KF ?_ | refine OG (by omega) ?_ | refine BZ ?_ | refine TQ ?_ | refine OS (by first | with_reducible assumption | omega) ?_ | refine JB (by first | with_reducible assumption | omega) ?_ | refine EF (by first | with_reducible assumption | omega) rfl ?_ | refine E9 (by first | with_reducible assumption | omega) rfl ?_ | refine YD rfl ?_ | refine B4 ?_ | refine AV ?_ | refine B6 ?_ | refine DE ?_ | refine A8 (by omega) ?_ | refine AW (fun _=> ?_) (fun _=> ?_) | refine MP (fun _=> ?_) (fun _=> ?_))
      all_goals first
       | (refine no fun hk=> ?_
          have h4:=ll hk
          omega)
       | exact stepR (fin (by omega) (by omega) (Decidable.not_not.1 (by assumption)))
       | exact no fun hk=>absurd (ll hk).2.2.2.2.2.2 (by assumption)
    ·repeat' (first | refine DW ?_ | refine BZ ?_ | refine TQ ?_ | refine OS (by first | with_reducible assumption | omega) ?_ | refine JB (by first | with_reducible assumption | omega) ?_ | refine EF (by first | with_reducible assumption | omega) rfl ?_ | refine E9 (by first | with_reducible assumption | omega) rfl ?_ | refine YD rfl ?_ | refine B4 ?_ | refine DN (by first | with_reducible assumption | omega) ?_ | refine AV ?_ | refine DE ?_ | refine IW ⟨by omega,by omega⟩ ?_ | refine MP (fun _=> ?_) (fun _=> ?_))
     all_goals first
      | (refine no fun hk=>hz ?_
         have:=ll hk
         exact ⟨this.1,this.2.1,this.2.2.1,this.2.2.2.1⟩)
      | (exfalso;omega)
 have hi8:i=8:=by omega
 subst hi8
 refine BA (fun i=>[iv i]) (fun _=>[]) h.B5.length (fun i=> ∀k,k<i→((wk h.B5 k).used=false→(wk h.B5 k).target=0)∧((wk h.B5 k).used=true→8≤(wk h.B5 k).target∧(wk h.B5 k).target≤7999)) rfl rfl (fun k hk=>by omega) (fun R2 i hi hP2 hR2=> ?_)
 simp only [AI,AM,AP,AR,AT,AD,AH,AL,AK,AO,AQ,AJ,AS,AN,BE,BJ,BH,BK,BI,BG,BF,A1,AZ,A5,A7,A6,A4]
 refine AV (AW (fun hlt=> ?_) fun hge=> ?_)
 ·have hlt:i<h.B5.length:=by omega
  refine AG hlt (oX hlt ?_)
  have stepR:=fun hk=>hR2 hlt fun k hki=>(Nat.lt_succ_iff_lt_or_eq.1 hki).elim (hP2 k) fun he=>he ▸ hk
  simp only [rW,uN]
  cases hu:(wk h.B5 i).used with
  | false=>
    refine BY ?_
    repeat' (first | refine BZ ?_ | refine TT ?_ | refine S1 (by first | with_reducible assumption | omega) ?_ | refine aK (by first | with_reducible assumption | omega) ?_ | refine OL ?_ | refine OM ?_ | refine OS (by first | with_reducible assumption | omega) ?_ | refine JB (by first | with_reducible assumption | omega) ?_ | refine EF (by first | with_reducible assumption | omega) rfl ?_ | refine E9 (by first | with_reducible assumption | omega) rfl ?_ | refine YD rfl ?_ | refine lJ rfl ?_ | refine B4 ?_ | refine BN ?_ | refine B6 ?_ | refine A8 (by omega) ?_ | refine rY (fun _=> ?_) (fun _=> ?_))
    all_goals first
     | (refine stepR ⟨fun _=> ?_,fun hh=>(by rw [hu] at hh;cases hh)⟩
        first
         | omega
         | (simp_all;done))
     | (refine h2 fun hk=> ?_
        have h4:=(hk.weak i (by omega)).1 hu
        first
         | omega
         | (simp_all;done))
  | true=>
    refine BY ?_
    repeat' (first | refine DW ?_ | refine BZ ?_ | refine TT ?_ | refine fN ?_ | refine OL ?_ | refine PG ?_ | refine OM ?_ | refine YD rfl ?_ | refine lJ rfl ?_ | refine DE ?_ | refine A8 (by omega) ?_ | refine AW (fun _=> ?_) (fun _=> ?_))
    all_goals first
     | (refine stepR ⟨fun hh=>(by rw [hu] at hh;cases hh),fun _=> ?_⟩
        first
         | omega
         | (simp_all;done))
     | (refine h2 fun hk=> ?_
        have h4:=(hk.weak i (by omega)).2 hu
        first
         | omega
         | (simp_all;done))
 have hi8:i=8:=by omega
 subst hi8
 refine BA (fun i=>[iv i]) (fun _=>[]) h.buffer.length (fun i=> ∀k,k<i→0≤AB h.BB (gI h.buffer k)∧gI h.buffer k∉h.buffer.take k) rfl rfl (fun k hk=>by omega) (fun R3 i hi hP3 hR3=> ?_)
 simp only [AI,AM,AP,AR,AT,AD,AH,AL,AK,AO,AQ,AJ,AS,AN,BE,BJ,BH,BK,BI,BG,BF,A1,AZ,A5,A7,A6,A4]
 refine AV (AW (fun hlt=> ?_) fun hge=> ?_)
 ·have hlt:i<h.buffer.length:=by omega
  have e:IT (tI h.buffer) [] (AA (mI (two (iv 0) (iv i)))*1) (AA (oR (two (iv 0) (iv i)))*1)=tI (h.buffer.take i):=by
   have h1:AA (mI (two (iv 0) (iv i)))=0:=rfl
   have h2:AA (oR (two (iv 0) (iv i)))=i:=AY i
   rw [h1,h2];simp [IT,node,tI,List.map_take]
  refine AG hlt (ldI hlt (CJ (hn.bf i) (by omega) (AV (BZ (BZ (BZ (MP (fun hb=> ?_) fun hb=> ?_)))))))
  ·refine nH (by omega) (BZ (BZ (BZ (JB hb (AG hlt (JB hb (ldI hlt (JB hb ?_))))))))
   rw [e]
   refine OG (by simp;omega) (E9 hb rfl (AW (fun hm=>h2 fun hk=>(hk.buf i hlt).2 hm) fun hm=> ?_))
   refine A8 (by omega) (hR3 hlt fun k hk=> ?_)
   rcases Nat.lt_succ_iff_lt_or_eq.1 hk with h3 | rfl
   ·exact hP3 k h3
   ·exact ⟨by omega,hm⟩
  ·repeat' (first | refine BZ ?_ | refine OS (by first | with_reducible assumption | omega) ?_ | refine EF (by first | with_reducible assumption | omega) rfl ?_ | refine B4 ?_)
   all_goals exact h2 fun hk=>by have:=(hk.buf i hlt).1;omega
 have hib:i=h.buffer.length:=by omega
 subst hib
 refine BA (fun i=>[iv i]) (fun _=>[]) h.sites.length (fun i=> ∀k,k<i→(1≤((gS h.sites k).size:Int)∧((gS h.sites k).size:Int)≤8)∧gS h.sites k∉h.sites.take k) rfl rfl (fun k hk=>by omega) (fun R4 i hi hP4 hR4=> ?_)
 simp only [AI,AM,AP,AR,AT,AD,AH,AL,AK,AO,AQ,AJ,AS,AN,BE,BJ,BH,BK,BI,BG,BF,A1,AZ,A5,A7,A6,A4]
 refine AV (AW (fun hlt=> ?_) fun hge=> ?_)
 ·have hlt:i<h.sites.length:=by omega
  refine AG hlt (ldS hlt (UY (DW (DE (AW (fun hb=>h2 fun hk=>hb (hk.sites.sz i hlt)) fun hb=> ?_)))))
  refine BA (fun j=>[iv i,iv j]) (fun _=>[]) i (fun j=>gS h.sites i∉h.sites.take j) rfl rfl (by simp) (fun R5 j hj hP5 hR5=> ?_)
  simp only [AI,AM,AP,AR,AT,AD,AH,AL,AK,AO,AQ,AJ,AS,AN,BE,BJ,BH,BK,BI,BG,BF,A1,AZ,A5,A7,A6,A4]
  refine AV (AW (fun hlj=> ?_) fun hgj=> ?_)
  ·have hlj:j<i:=by omega
   refine AG (by omega) (ldS (by omega) (AG hlt (ldS hlt (cE (AW (fun he=>h2 fun hk=>hk.sites.one i hlt ?_) fun he=> ?_)))))
   ·rw [←he, ←TO (by omega)]
    exact List.mem_take_iff_getElem.2 ⟨j,by omega,rfl⟩
   ·exact A8 (by omega) (hR5 hlj (fF (by omega) hP5 he))
  ·have:j=i:=by omega
   subst this
   refine A8 (by omega) (hR4 hlt fun k hk=> ?_)
   rcases Nat.lt_succ_iff_lt_or_eq.1 hk with h3 | rfl
   ·exact hP4 k h3
   ·exact ⟨Decidable.not_not.1 hb,hP5⟩
 ·have:i=h.sites.length:=by omega
  subst this
  exact h1 ⟨o8,w8,⟨by omega,fun i hi=>(hP4 i hi).1,fun i hi=>(hP4 i hi).2⟩,fun i hi=>hP i hi,fun i hi=>hP2 i hi,fun i hi=>hP3 i hi⟩
end Go.Proofs.Ytnhicpkhkaihoaa.P
namespace Go.Proofs.Ytnhicpkhkaihoaa.P
open Go Go.Proofs.Ytnhicpkhkaihoaa Go.Proofs.Ytnhicpkhkaihoaa.Eng
set_option linter.unusedVariables false
set_option maxHeartbeats 4000000
set_option linter.unusedVariables false
set_option linter.unusedSimpArgs false
attribute [local irreducible] prP gP gE gF AU ixW ldc ldg ldl stc stg scW mkW apW BD cl2 BW FR DK
variable {w0:World}
theorem IV {K:J2} (h:K [] [tI ON]):cl2 ⟨Try.prog,w0⟩ 181 C5.sg [] [] K:=by
 refine C5.cl2 ?_
 unfold C5.txt
 refine BA (fun i=>[iv i]) (fun i=>[tI (List.replicate i (-1))]) 3 (fun _=>True) rfl rfl trivial (fun R i hi hP hR=> ?_)
 simp only [AI,AM,AP,AR,AT,AD,AH,AL,AK,AO,AQ,AJ,AS,AN,BE,BJ,BH,BK,BI,BG,BF,A1,AZ,A5,A7,A6,A4]
 refine AV (AW (fun hlt=> ?_) fun hge=> ?_)
 ·have hlt:i<3:=by omega
  refine FM rfl (by simp;omega) (A8 (by omega) ?_)
  have:=hR hlt trivial
  rw [List.replicate_succ', ←EZ] at this
  exact this
 ·have:i=3:=by omega
  subst this
  exact h
structure St (h:Hp):Prop where
 ol:h.BB.length=8
 wl:h.B5.length=8
 sl:h.sites.length≤6
 bl:h.buffer.length≤100
 of: ∀o∈h.BB,OF o
 ss: ∀s∈h.sites,(s.size:Int)≤1048576
 wf: ∀w∈h.B5,F64 w.target
 bf: ∀x∈h.buffer,F64 x
theorem St.fits {h:Hp} (s:St h):Fits h:=⟨by have:=s.ol;omega,fun o ho=>by have:=(s.of o ho).len;omega,by have:=s.wl;omega,by have:=s.bl;omega,by have:=s.sl;omega,s.ss⟩
def DF (os:List AX) (id:Int):List AX:=if AB os id<0 then os else os.set (AB os id).toNat {ob os (AB os id).toNat with count:=w64 ((ob os (AB os id).toNat).count+1)}
theorem NH (os:List AX) (id:Int):(DF os id).length=os.length:=by unfold DF;split <;> simp
theorem SJ {os:List AX} {id:Int} (h: ∀o∈os,OF o): ∀o∈DF os id,OF o:=by
 unfold DF
 split
 ·exact h
 ·have hk:=BL (l:=os) (id:=id) (by omega)
  have ho:=h _ (GK (l:=os) (i:=(AB os id).toNat) (by omega))
  exact HA h ⟨ho.gen,ho.len,ho.fld⟩
theorem O9 {os:List AX} {b c d:List T} {id:Int} {K:J2} (hid:F64 id) (hol:os.length=8) (h:K [] [tR tO (DF os id)]):cl2 ⟨Try.prog,w0⟩ 216 C2.sg [I id] [tR tO os,b,c,d] K:=by
 refine C2.cl2 ?_
 unfold C2.txt
 simp only [AI,AM,AP,AR,AT,AD,AH,AL,AK,AO,AQ,AJ,AS,AN,BE,BJ,BH,BK,BI,BG,BF,A1,AZ,A5,A7,A6,A4]
 refine DA hid (by omega) ?_
 simp only [AI,AM,AP,AR,AT,AD,AH,AL,AK,AO,AQ,AJ,AS,AN,BE,BJ,BH,BK,BI,BG,BF,A1,AZ,A5,A7,A6,A4]
 unfold DF at h
 refine MJ (AW (fun hs=> ?_) fun hs=> ?_)
 ·have hk:=BL (l:=os) (id:=id) (by omega)
  rw [if_neg (by omega)] at h
  obtain ⟨k,hkk⟩: ∃k,(AB os id).toNat=k:=⟨_,rfl⟩
  have hkI:AB os id=(k:Int):=by omega
  rw [hkk] at h
  rw [hkI]
  have hkl:k<os.length:=by omega
  rw [iU hkl]
  exact AG (by omega) (HX (i:=k) hkl (by decide) rfl (HS (AG (by omega) (GF hkl h))))
 ·rw [if_pos (by omega)] at h;exact h
theorem TN {h:Hp} {id:Int} {K:J2} (st:St h) (hid:F64 id) (hk:K [] (trees {h with BB:=DF h.BB id})):cl2 ⟨Try.prog,w0⟩ 192 FL.sg [I id] (trees h) K:=by
 refine FL.cl2 ?_
 unfold FL.txt
 refine KA st.fits ?_
 obtain ⟨os,ws,bf,ss⟩:=h
 have hol:os.length=8:=st.ol
 simp only [trees] at hk ⊢
 refine CJ hid (by omega) ?_
 simp only [AI,AM,AP,AR,AT,AD,AH,AL,AK,AO,AQ,AJ,AS,AN,BE,BJ,BH,BK,BI,BG,BF,A1,AZ,A5,A7,A6,A4]
 unfold DF at hk
 refine BU (MJ (AW (fun hs=> ?_) fun hs=> ?_))
 ·have hkk:=BL (l:=os) (id:=id) (by omega)
  rw [if_neg (by omega)] at hk
  obtain ⟨k,hkk⟩: ∃k,(AB os id).toNat=k:=⟨_,rfl⟩
  have hkI:AB os id=(k:Int):=by omega
  rw [hkk] at hk
  rw [hkI]
  have hkl:k<os.length:=by omega
  rw [iU hkl]
  exact AG (by omega) (HX (i:=k) hkl (by decide) rfl (HS (AG (by omega) (GF hkl hk))))
 ·rw [if_pos (by omega)] at hk;exact hk
theorem TX {h:Hp} {ids:List Int} {K:J2} (st:St h) (hi:ids.length≤100) (hid: ∀x∈ids,F64 x) (hK:K [] [tR tO (G6 h.BB h.buffer ids).1,tR tW h.B5,tI (G6 h.BB h.buffer ids).2.1,tS h.sites,tI (G6 h.BB h.buffer ids).2.2]):cl2 ⟨Try.prog,w0⟩ 193 GB.sg [] [tR tO h.BB,tR tW h.B5,tI h.buffer,tS h.sites,tI ids] K:=by
 refine GB.cl2 ?_
 unfold GB.txt
 refine KA st.fits ?_
 obtain ⟨os,ws,buf,ss⟩:=h
 have hol:os.length=8:=st.ol
 have hof: ∀o∈os,OF o:=st.of
 have hb:buf.length≤100:=st.bl
 simp only [trees] at hK ⊢
 rw [List.nil_append]
 simp only [AI,AM,AP,AR,AT,AD,AH,AL,AK,AO,AQ,AJ,AS,AN,BE,BJ,BH,BK,BI,BG,BF,A1,AZ,A5,A7,A6,A4]
 refine FM (MD _) (by first | omega | (simp only [cnt,List.length_nil];omega)) ?_
 obtain ⟨R,hR0⟩: ∃R,G6 os buf ids=R:=⟨_,rfl⟩
 have st:=LsI.start (buf:=buf) hol hof hid
 rw [hR0] at st hK
 refine FF (α:=List AX×List Int×List Int×List Int×Nat) (fun q=>[iv (q.2.2.2.1.length-q.2.2.2.2),iv q.2.2.2.2]) (fun q=>[tI q.2.2.1,tI q.2.2.2.1,tR tO q.1,tR tW ws,tI q.2.1,tS ss]) (fun q=>mu q.2.2.1 (q.2.2.2.1.drop q.2.2.2.2)) (LsI R (buf.length+ids.length+36)) (os,buf,[],ids,0) rfl rfl st (fun Rr q hq hR=> ?_)
 obtain ⟨os,bf,freed,row,off⟩:=q
 have hq':LsI R (buf.length+ids.length+36) (os,bf,freed,row,off):=hq
 obtain ⟨ol,of,fr,ofl,td,sz,_⟩:=id hq'
 simp only at ol of fr ofl td sz
 have hmz:mu freed (row.drop off)=(row.length-off)+4*(9-freed.length):=by simp [mu]
 simp only [AI,AM,AP,AR,AT,AD,AH,AL,AK,AO,AQ,AJ,AS,AN,BE,BJ,BH,BK,BI,BG,BF,A1,AZ,A5,A7,A6,A4]
 simp only [AY]
 refine JK (BZ (BZ (LY (fun hlt=> ?_) fun hge=> ?_)))
 rotate_left
 ·refine E9 hge rfl (BN ?_)
  have:=hq'.stop (.inl (by
   have: ¬(((row.length-off:Nat):Int)>0):=hge
   omega))
  rw [this] at hK;exact hK
 have hlt':off<row.length:=by
  have:((row.length-off:Nat):Int)>0:=hlt
  omega
 refine HY (EF hlt rfl (AW (fun h8=> ?_) fun h8=> ?_))
 rotate_left
 ·have:=hq'.stop (.inr (by omega))
  rw [this] at hK;exact hK
 have h8':freed.length≤8:=by omega
 obtain ⟨hidf,_⟩:=hq'.step hlt' h8'
 refine AG (j:=0) (by omega) (oG hlt' (rB (by omega) (CJ hidf (by omega) ?_)))
 have e1:off+AA (iv 1)*1=off+1:=by rw [AY]
 have e2:row.length-off-1=row.length-(off+1):=by omega
 simp only [AY,e2,Nat.mul_one,BE]
 have mu1:mu freed (row.drop (off+1))<mu freed (row.drop off):=by rw [drop_cons hlt',bR];omega
 refine AV (AW (fun hs=>hR (os,bf,freed,row,off+1) (hq'.skip hlt' h8' hs) mu1) fun hs=> ?_)
 have hs':0≤AB os (gI row off):=by omega
 have hk:=BL hs'
 have n1:=hq'.LX hlt' h8' hs'
 have n2:=hq'.put hlt' h8' hs'
 have n3:=fun hc row' off'=>hq'.free hlt' h8' hs' hc (row':=row') (off':=off')
 have hobf:=of _ (GK (l:=os) (i:=(AB os (gI row off)).toNat) (by omega))
 generalize hgid:gI row off=id at*
 obtain ⟨k,hkk⟩: ∃k,(AB os id).toNat=k:=⟨_,rfl⟩
 have hkI:AB os id=(k:Int):=by omega
 rw [hkk] at hk n1 n2 n3 hobf
 rw [hkI]
 have hkl:k<os.length:=by omega
 rw [iU hkl]
 generalize ho:ob os k=o at*
 refine AG (by omega) (HX (i:=k) hkl (by decide) rfl (XC (AG (by omega) (GF hkl ?_))))
 generalize hcc:w64 (o.count-1)=c at*
 simp only [AI,AM,AP,AR,AT,AD,AH,AL,AK,AO,AQ,AJ,AS,AN,BE,BJ,BH,BK,BI,BG,BF,A1,AZ,A5,A7,A6,A4]
 have hl8:(os.set k {o with count:=c}).length=os.length:=List.length_set
 simp only [List.length_set]
 refine AG (by omega) (HX (v:=I c) (i:=k) hkl (by decide) rfl ?_)
 refine JK (AW (fun hc=> ?_) fun hc=> ?_)
 ·refine BU (AG (by omega) (HX (v:= .bool o.purple) (i:=k) hkl (by decide) rfl (BY ?_)))
  cases hp:o.purple with
  | false=>
    refine B4 (AG (by omega) (KP hkl (FM rfl (by omega) ?_)))
    have:=hR _ (n2 hc hp) (by simp only;exact mu1)
    simp only at this
    rw [←EZ] at this
    simp only [AI,AM,AP,AR,AT,AD,AH,AL,AK,AO,AQ,AJ,AS,AN,BE,BJ,BH,BK,BI,BG,BF,A1,AZ,A5,A7,A6,A4]
    simp only [AY]
    exact this
  | true=>
    have:=hR _ (n1 hc hp) (by simp only;exact mu1)
    simp only [hp] at this
    refine BN ?_
    simp only [AI,AM,AP,AR,AT,AD,AH,AL,AK,AO,AQ,AJ,AS,AN,BE,BJ,BH,BK,BI,BG,BF,A1,AZ,A5,A7,A6,A4]
    simp only [AY]
    exact this
 ·refine FM rfl (by omega) ?_
  have hfl:o.field.length=3:=hobf.len
  refine FF (α:=Nat×List Int×Nat) (fun q=>[iv (q.2.1.length-q.2.2),iv q.2.2,I id,iv k,iv q.1]) (fun q=>[tI (freed++[id]),tI q.2.1,tR tO (os.set k {o with count:=c}),tR tW ws,tI bf,tS ss]) (fun q=>3-q.1) (fun q=>q.1≤3∧q.2.2≤q.2.1.length∧q.2.1.drop q.2.2=row.drop (off+1)++(o.field.take q.1).filter fun x=>decide (0≤x)) (0,row,off+1) rfl ?_ ⟨by omega,hlt',by simp⟩ (fun R2 q hq2 hR2=> ?_)
  ·simp only [EZ]
  obtain ⟨i,rw',of'⟩:=q
  obtain ⟨hi3,hof',hdr⟩:=hq2
  simp only at hi3 hof' hdr
  have hrl:rw'.length-of'≤row.length-(off+1)+3:=by
   have e:=congrArg List.length hdr
   have:=List.length_filter_le (fun x=>decide (0≤x)) (o.field.take i)
   simp only [List.length_drop,List.length_append,List.length_take] at e this
   omega
  simp only [AI,AM,AP,AR,AT,AD,AH,AL,AK,AO,AQ,AJ,AS,AN,BE,BJ,BH,BK,BI,BG,BF,A1,AZ,A5,A7,A6,A4]
  simp only [List.length_set]
  refine AG (by omega) (P0 (i:=k) hkl (by decide) rfl ?_)
  simp only [AY,iN hkl,AD]
  refine AV (AW (fun hlt=> ?_) fun hge=> ?_)
  ·have hlt:i<o.field.length:=by omega
   have hfx:=hobf.fld _ (EG hlt)
   refine BU (AG (by omega) (P0 (i:=k) hkl (by decide) rfl ?_))
   have ed:(rw'.drop of').take (rw'.length-of')=rw'.drop of':=by rw [←List.length_drop,List.take_length]
   have ea:tI (rw'.drop of')++[T.c (I (gI o.field i))]=tI (rw'.drop of'++[gI o.field i]):=EZ _ _
   simp only [AY,iN hkl,AD,PS,Nat.mul_one,ed]
   refine AG hlt (nP hkl hlt ?_)
   simp only [AY]
   refine MJ (AW (fun hp=> ?_) fun hp=> ?_)
   ·refine AG (by omega) (P0 (i:=k) hkl (by decide) rfl ?_)
    simp only [AY,iN hkl,AD]
    refine AG hlt (nP hkl hlt ?_)
    simp only [AY]
    refine FM rfl (by omega) ?_
    have:=hR2 (i+1,rw'.drop of'++[gI o.field i],0) ⟨by simp only;omega,by simp only;omega,by simp only [List.drop_zero];rw [hdr,List.take_succ_eq_append_getElem hlt,List.filter_append, ←List.append_assoc,FQ hlt];congr 1;simp [hp]⟩ (by simp only;omega)
    refine A8 (by omega) ?_
    rw [ea]
    simp only [AI,AM,AP,AR,AT,AD,AH,AL,AK,AO,AQ,AJ,AS,AN,BE,BJ,BH,BK,BI,BG,BF,A1,AZ,A5,A7,A6,A4]
    simp only [AY]
    exact this
   ·have:=hR2 (i+1,rw',of') ⟨by simp only;omega,hof',by simp only;rw [hdr,List.take_succ_eq_append_getElem hlt,List.filter_append, ←List.append_assoc,FQ hlt];simp;omega⟩ (by simp only;omega)
    refine A8 (by omega) ?_
    simp only [AI,AM,AP,AR,AT,AD,AH,AL,AK,AO,AQ,AJ,AS,AN,BE,BJ,BH,BK,BI,BG,BF,A1,AZ,A5,A7,A6,A4]
    simp only [AY]
    exact this
  ·have:i=o.field.length:=by omega
   subst this
   rw [List.take_length] at hdr
   refine S6 (by omega) ?_
   try simp only [AI,List.length_set]
   refine AG (by omega) ?_
   simp only [AY]
   refine rV hkl (IV ?_)
   refine AG (by omega) ?_
   simp only [AY]
   refine rG hkl (z:=CO o.gen) rfl ?_
   exact hR _ (n3 hc _ _ hdr hof') (by simp only;rw [hdr];simp only [mu,List.length_append,List.length_singleton] at mu1 ⊢;have:=List.length_filter_le (fun x=>decide (0≤x)) o.field;omega)
end Go.Proofs.Ytnhicpkhkaihoaa.P
