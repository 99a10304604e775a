/- A part of the proof. -/
import Derived.Test.YtnhicpkhkaihoaaEvHpG
namespace Go.Proofs.Ytnhicpkhkaihoaa.P
open Go Go.Proofs.Ytnhicpkhkaihoaa Go.Proofs.Ytnhicpkhkaihoaa.Eng
set_option maxHeartbeats 4000000
set_option linter.unusedVariables false
set_option linter.unusedSimpArgs false
attribute [local irreducible] prP gP gE gF AI ixW ldc ldg ldl stc stg scW mkW apW BG cl2 BZ EZ DS
variable {w0:World}
theorem qZ (a b c d e f g h:Value) (l:List Value):nx (a::b::c::d::e::f::g::h::l) 7=h:=rfl
theorem rX (a b c d e f g h i:Value) (l:List Value):nx (a::b::c::d::e::f::g::h::i::l) 8=i:=rfl
theorem s7 (a b c d e f g h i j:Value) (l:List Value):nx (a::b::c::d::e::f::g::h::i::j::l) 9=j:=rfl
theorem uW (o:Wk):tv (nxT (tW o) 0)= .bool o.used:=rfl
theorem uL (o:Wk):tv (nxT (tW o) 1)=I o.target:=rfl
theorem p8 (o:AX):tv (nxT (tO o) 0)= .bool o.live:=rfl
theorem qL (o:AX):tv (nxT (tO o) 1)=I o.gen:=rfl
theorem qT (o:AX):tv (nxT (tO o) 2)=I o.site:=rfl
theorem qI (o:AX):tv (nxT (tO o) 3)=I o.holds:=rfl
theorem qJ (o:AX):tv (nxT (tO o) 4)=I o.roots:=rfl
theorem qK (o:AX):tv (nxT (tO o) 5)=I o.count:=rfl
theorem p9 (o:AX):tv (nxT (tO o) 7)= .bool o.purple:=rfl
theorem XC {h:Hp} {K:J2} (hf:Fits h) (hn:VO h) (h1:C7 h→K [.bool true] []) (h2: ¬C7 h→K [.bool false] []):cl2 ⟨Try.prog,w0⟩ 135 GC.sg [] (trees h) K:=by
 have g1:=hf.ol;have g2:=hf.wl;have g3:=hf.sl;have g4:=hf.bl
 refine GC.cl2 ?_
 unfold GC.txt
 simp only [AJ,AQ,AL,AR,AO,AE,AG,AU,AN,AS,AV,AP,AM,AT,BN,BS,BV,BT,BW,BU,BO,A9,A6,A4,A7,A8,A5]
 refine DR (BP (BP (BP (L9 (fun ho=> ?_) fun ho=> ?_))))
 rotate_left
 ·refine EY ho rfl (BP (BP (BP (RJ (TZ rfl (CQ (h2 fun hk=>ho (by have:=hk.ol;omega))))))))
 refine DR (FV ho rfl (BP (BP (BP (L9 (fun hw=> ?_) fun hw=> ?_)))))
 rotate_left
 ·exact EY hw rfl (CQ (h2 fun hk=>hw (by have:=hk.wl;omega)))
 refine GR (FV hw rfl (AH (fun h6=>h2 fun hk=>(by have:=hk.sites.len;omega)) fun h6=> ?_))
 have o8:h.BB.length=8:=by omega
 have w8:h.B9.length=8:=by omega
 refine BF (fun i=>[iv i]) (fun _=>[]) h.BB.length (fun i=> ∀k,k<i→TL h k) rfl rfl (fun k hk=>by omega) (fun R i hi hP hR=> ?_)
 simp only [AJ,AQ,AL,AR,AO,AE,AG,AU,AN,AS,AV,AP,AM,AT,BN,BS,BV,BT,BW,BU,BO,A9,A6,A4,A7,A8,A5]
 refine A1 (AH (fun hlt=> ?_) fun hge=> ?_)
 ·have hi:i<h.BB.length:=by omega
  refine BX ?_
  have stepR:TL h i→R [iv (i+1)] []:=fun hk=>hR hi fun k hki=>(Nat.lt_succ_iff_lt_or_eq.1 hki).elim (hP k) fun he=>he ▸ hk
  have no: ¬TL h i→K [.bool false] []:=fun hk=>h2 fun hh=>hk (hh.obj i (by omega))
  clear hR h1 h2
  have hfo:=mO hf.of i
  have hnum:=hn.ob i
  obtain ⟨⟨n1,n2⟩,⟨n3,n4⟩,⟨n7,n8⟩,⟨n9,n10⟩,⟨n5,n6⟩,_⟩:=hnum
  have hib:=rJ hf.ol hf.of i
  refine AK hi (dM hi ?_)
  rw [LG hi,AE]
  refine DO (HH (BP (BP (BP (L9 (fun hg=> ?_) fun hg=> ?_)))))
  rotate_left
  ·exact EY hg rfl (CQ (no fun hk=>hg hk.gen))
  refine DR (FV hg rfl (AH (fun h3=>no fun hk=>by have:=hk.len;omega) fun h3=> ?_))
  have hl3:(ob h.BB i).field.length=3:=by omega
  have hg:0≤(ob h.BB i).gen∧(ob h.BB i).gen≤999:=Decidable.not_not.1 hg
  simp only [p8,qL,qT,qI,qJ,qK,p9]
  cases hv:(ob h.BB i).live with
  | false=>
    have dd:TL h i→(ob h.BB i).site=0∧(ob h.BB i).holds=0∧(ob h.BB i).roots=0∧(ob h.BB i).count=0∧(ob h.BB i).purple=false:=fun hk=>hk.dead hv
    refine B6 (CQ ?_)
    cases hpu:(ob h.BB i).purple
    ·repeat' (first | refine BP ?_ | refine RJ ?_ | refine EY (by first | with_reducible assumption | omega) rfl ?_ | refine FV (by first | with_reducible assumption | omega) rfl ?_ | refine TZ rfl ?_ | refine CQ ?_ | refine CD ?_ | refine DR ?_ | refine qA rfl rfl (fun _=> ?_) (fun _=> ?_) | refine L9 (fun _=> ?_) (fun _=> ?_) | simp only [AJ,AQ,AL,AR,AO,AE,AG,AU,AN,AS,AV,AP,AM,AT,BN,BS,BV,BT,BW,BU,BO,A9,A6,A4,A7,A8,A5])
     all_goals try exact no fun hk=>by have:=dd hk;omega
     have mk:(∀j,j<3→gI (ob h.BB i).field j= -1)→TL h i:=fun ha=>⟨hg,hl3,fun j hj hne=>absurd (ha j hj) hne,fun _=>⟨by omega,by omega,by omega,by omega,hpu⟩,fun hh=>by rw [hv] at hh;cases hh⟩
     refine BF (fun j=>[iv i,iv j, .bool false,I (ob h.BB i).gen,I (ob h.BB i).site,I (ob h.BB i).holds,I (ob h.BB i).roots,I (ob h.BB i).count,iv (AA (iv i)*8+6), .bool false]) (fun _=>[]) 3 (fun j=> ∀k,k<j→gI (ob h.BB i).field k= -1) rfl rfl (fun k hk=>by omega) (fun R2 j hj hP2 hR2=> ?_)
     simp only [AJ,AQ,AL,AR,AO,AE,AG,AU,AN,AS,AV,AP,AM,AT,BN,BS,BV,BT,BW,BU,BO,A9,A6,A4,A7,A8,A5]
     simp only [BO,qZ,rX,s7]
     rw [AY (AA (iv i)*8+6),LG hi,AE,hl3]
     refine A1 (AH (fun hlt=> ?_) fun hge=> ?_)
     ·have hlt:j<3:=by omega
      refine AK hlt (QX hi (by omega) (DR (AH (fun hne=> ?_) fun hne=> ?_)))
      ·exact no fun hk=>by have:=(hk.lead j hlt hne).1;rw [hv] at this;cases this
      ·refine BD (by omega) (hR2 hlt fun k hk=> ?_)
       rcases Nat.lt_succ_iff_lt_or_eq.1 hk with h4 | rfl
       ·exact hP2 k h4
       ·omega
     ·have hj3:j=3:=by omega
      subst hj3
      exact BD (by omega) (stepR (mk hP2))
    ·repeat' (first | refine BP ?_ | refine RJ ?_ | refine EY (by first | with_reducible assumption | omega) rfl ?_ | refine FV (by first | with_reducible assumption | omega) rfl ?_ | refine TZ rfl ?_ | refine CQ ?_ | refine DR ?_ | refine qA rfl rfl (fun _=> ?_) (fun _=> ?_) | refine L9 (fun _=> ?_) (fun _=> ?_))
     all_goals exact no fun hk=>by have:=(dd hk).2.2.2.2;rw [hpu] at this;cases this
  | true=>
    have ll:=fun hk:TL h i=>hk.lv hv
    refine B6 (CD ?_)
    by_cases hz:1≤(ob h.BB i).gen∧(0≤(ob h.BB i).site∧(ob h.BB i).site≤(h.sites.length:Int)-1)∧(0≤(ob h.BB i).holds∧(ob h.BB i).holds≤20)∧(0≤(ob h.BB i).roots∧(ob h.BB i).roots≤20)
    ·obtain ⟨z1,z2,z3,z4⟩:=hz
     repeat' (first | refine DO ?_ | refine BP ?_ | refine I5 (by first | with_reducible assumption | omega) ?_ | refine FV (by first | with_reducible assumption | omega) rfl ?_ | refine FF (by first | with_reducible assumption | omega) ?_ | refine A1 ?_ | refine HH ?_ | refine DW ⟨by omega,by omega⟩ ?_ | simp only [AJ,AQ,AL,AR,AO,AE,AG,AU,AN,AS,AV,AP,AM,AT,BN,BS,BV,BT,BW,BU,BO,A9,A6,A4,A7,A8,A5])
     all_goals try (exfalso;omega)
     refine BF (fun j=>[iv i,iv j, .bool true,I (ob h.BB i).gen,I (ob h.BB i).site,I (ob h.BB i).holds,I (ob h.BB i).roots,I (ob h.BB i).count,iv (AA (iv i)*8+6), .bool (ob h.BB i).purple]) (fun _=>[]) 3 (fun j=> ∀k,k<j→gI (ob h.BB i).field k≠ -1→(ob h.BB i).live=true∧0≤AB h.BB (gI (ob h.BB i).field k)) rfl rfl (fun k hk=>by omega) (fun R2 j hj hP2 hR2=> ?_)
     simp only [AJ,AQ,AL,AR,AO,AE,AG,AU,AN,AS,AV,AP,AM,AT,BN,BS,BV,BT,BW,BU,BO,A9,A6,A4,A7,A8,A5]
     simp only [BO,qZ,rX,s7]
     rw [AY (AA (iv i)*8+6),LG hi,AE,hl3]
     refine A1 (AH (fun hlt=> ?_) fun hge=> ?_)
     ·have hlt:j<3:=by omega
      refine AK hlt (QX hi (by omega) ?_)
      repeat' (first | refine CF (hn.fld i j) (by omega) ?_ | refine BP ?_ | refine MC (by first | with_reducible assumption | omega) ?_ | refine TG (by first | with_reducible assumption | omega) ?_ | refine EY (by first | with_reducible assumption | omega) rfl ?_ | refine FV (by first | with_reducible assumption | omega) rfl ?_ | refine CD ?_ | refine A1 ?_ | refine DR ?_ | refine BD (by omega) ?_ | refine AK (by omega) ?_ | refine QX (by omega) (by omega) ?_ | refine AH (fun _=> ?_) (fun _=> ?_) | refine LJ (fun _=> ?_) (fun _=> ?_))
      all_goals first
       | (refine hR2 hlt fun k hk hne=> ?_
          rcases Nat.lt_succ_iff_lt_or_eq.1 hk with h4 | rfl
          ·exact hP2 k h4 hne
          ·first
           | exact absurd hne (by assumption)
           | exact ⟨hv,by omega⟩)
       | (refine no fun hk=> ?_
          have h4:=hk.lead j hlt (by assumption)
          omega)
     ·have hj3:j=3:=by omega
      subst hj3
      have fin:(ob h.BB i).count=(ob h.BB i).holds+(ob h.BB i).roots+inE h.BB i→1≤(ob h.BB i).count→(ob h.BB i).purple=decide (CU i (ob h.BB i).gen∈h.buffer)→TL h i:=fun e f hp=>⟨hg,hl3,hP2,fun hh=>(by rw [hv] at hh;cases hh),fun _=>⟨z1,z2,z3,z4,e,f,hp⟩⟩
      refine CV ⟨by omega,by omega⟩ (PC ⟨by omega,by omega⟩ (by omega) hf.of (CV ⟨by omega,by omega⟩ ?_))
      repeat' (first | refine IV ?_ | refine NT (by omega) ?_ | refine BP ?_ | refine RJ ?_ | refine SG (by first | with_reducible assumption | omega) ?_ | refine I5 (by first | with_reducible assumption | omega) ?_ | refine EY (by first | with_reducible assumption | omega) rfl ?_ | refine FV (by first | with_reducible assumption | omega) rfl ?_ | refine TZ rfl ?_ | refine CQ ?_ | refine A1 ?_ | refine DR ?_ | refine HH ?_ | refine BD (by omega) ?_ | refine AH (fun _=> ?_) (fun _=> ?_) | refine L9 (fun _=> ?_) (fun _=> ?_))
      all_goals first
       | (refine no fun hk=> ?_
          have h4:=ll hk
          omega)
       | exact stepR (fin (by omega) (by omega) (Decidable.not_not.1 (by assumption)))
       | exact no fun hk=>absurd (ll hk).2.2.2.2.2.2 (by assumption)
    ·repeat' (first | refine DO ?_ | refine BP ?_ | refine RJ ?_ | refine SG (by first | with_reducible assumption | omega) ?_ | refine I5 (by first | with_reducible assumption | omega) ?_ | refine EY (by first | with_reducible assumption | omega) rfl ?_ | refine FV (by first | with_reducible assumption | omega) rfl ?_ | refine TZ rfl ?_ | refine CQ ?_ | refine GF (by first | with_reducible assumption | omega) ?_ | refine A1 ?_ | refine HH ?_ | refine DW ⟨by omega,by omega⟩ ?_ | refine L9 (fun _=> ?_) (fun _=> ?_))
     all_goals first
      | (refine no fun hk=>hz ?_
         have:=ll hk
         exact ⟨this.1,this.2.1,this.2.2.1,this.2.2.2.1⟩)
      | (exfalso;omega)
 have hi8:i=8:=by omega
 subst hi8
 refine BF (fun i=>[iv i]) (fun _=>[]) h.B9.length (fun i=> ∀k,k<i→((wk h.B9 k).used=false→(wk h.B9 k).target=0)∧((wk h.B9 k).used=true→8≤(wk h.B9 k).target∧(wk h.B9 k).target≤7999)) rfl rfl (fun k hk=>by omega) (fun R2 i hi hP2 hR2=> ?_)
 simp only [AJ,AQ,AL,AR,AO,AE,AG,AU,AN,AS,AV,AP,AM,AT,BN,BS,BV,BT,BW,BU,BO,A9,A6,A4,A7,A8,A5]
 refine A1 (AH (fun hlt=> ?_) fun hge=> ?_)
 ·have hlt:i<h.B9.length:=by omega
  refine AK hlt (rA hlt ?_)
  have stepR:=fun hk=>hR2 hlt fun k hki=>(Nat.lt_succ_iff_lt_or_eq.1 hki).elim (hP2 k) fun he=>he ▸ hk
  simp only [uW,uL]
  cases hu:(wk h.B9 i).used with
  | false=>
    refine B6 ?_
    repeat' (first | refine BP ?_ | refine cR ?_ | refine ZU (by first | with_reducible assumption | omega) ?_ | refine dB (by first | with_reducible assumption | omega) ?_ | refine OP ?_ | refine QG ?_ | refine SG (by first | with_reducible assumption | omega) ?_ | refine I5 (by first | with_reducible assumption | omega) ?_ | refine EY (by first | with_reducible assumption | omega) rfl ?_ | refine FV (by first | with_reducible assumption | omega) rfl ?_ | refine TZ rfl ?_ | refine ZW rfl ?_ | refine CQ ?_ | refine CD ?_ | refine DR ?_ | refine BD (by omega) ?_ | refine sL (fun _=> ?_) (fun _=> ?_))
    all_goals first
     | (refine stepR ⟨fun _=> ?_,fun hh=>(by rw [hu] at hh;cases hh)⟩
        first
         | omega
         | (simp_all;done))
     | (refine h2 fun hk=> ?_
        have h4:=(hk.weak i (by omega)).1 hu
        first
         | omega
         | (simp_all;done))
  | true=>
    refine B6 ?_
    repeat' (first | refine DO ?_ | refine BP ?_ | refine cR ?_ | refine mB ?_ | refine OP ?_ | refine O2 ?_ | refine QG ?_ | refine TZ rfl ?_ | refine ZW rfl ?_ | refine HH ?_ | refine BD (by omega) ?_ | refine AH (fun _=> ?_) (fun _=> ?_))
    all_goals first
     | (refine stepR ⟨fun hh=>(by rw [hu] at hh;cases hh),fun _=> ?_⟩
        first
         | omega
         | (simp_all;done))
     | (refine h2 fun hk=> ?_
        have h4:=(hk.weak i (by omega)).2 hu
        first
         | omega
         | (simp_all;done))
 have hi8:i=8:=by omega
 subst hi8
 refine BF (fun i=>[iv i]) (fun _=>[]) h.buffer.length (fun i=> ∀k,k<i→0≤AB h.BB (gI h.buffer k)∧gI h.buffer k∉h.buffer.take k) rfl rfl (fun k hk=>by omega) (fun R3 i hi hP3 hR3=> ?_)
 simp only [AJ,AQ,AL,AR,AO,AE,AG,AU,AN,AS,AV,AP,AM,AT,BN,BS,BV,BT,BW,BU,BO,A9,A6,A4,A7,A8,A5]
 refine A1 (AH (fun hlt=> ?_) fun hge=> ?_)
 ·have hlt:i<h.buffer.length:=by omega
  have e:H4 (tI h.buffer) [] (AA (bI (two (iv 0) (iv i)))*1) (AA (a9 (two (iv 0) (iv i)))*1)=tI (h.buffer.take i):=by
   have h1:AA (bI (two (iv 0) (iv i)))=0:=rfl
   have h2:AA (a9 (two (iv 0) (iv i)))=i:=AY i
   rw [h1,h2];simp [H4,node,tI,List.map_take]
  refine AK hlt (ldI hlt (CF (hn.bf i) (by omega) (A1 (BP (BP (BP (L9 (fun hb=> ?_) fun hb=> ?_)))))))
  ·refine dL (by omega) (BP (BP (BP (I5 hb (AK hlt (I5 hb (ldI hlt (I5 hb ?_))))))))
   rw [e]
   refine NT (by simp;omega) (FV hb rfl (AH (fun hm=>h2 fun hk=>(hk.buf i hlt).2 hm) fun hm=> ?_))
   refine BD (by omega) (hR3 hlt fun k hk=> ?_)
   rcases Nat.lt_succ_iff_lt_or_eq.1 hk with h3 | rfl
   ·exact hP3 k h3
   ·exact ⟨by omega,hm⟩
  ·repeat' (first | refine BP ?_ | refine SG (by first | with_reducible assumption | omega) ?_ | refine EY (by first | with_reducible assumption | omega) rfl ?_ | refine CQ ?_)
   all_goals exact h2 fun hk=>by have:=(hk.buf i hlt).1;omega
 have hib:i=h.buffer.length:=by omega
 subst hib
 refine BF (fun i=>[iv i]) (fun _=>[]) h.sites.length (fun i=> ∀k,k<i→(1≤((gS h.sites k).size:Int)∧((gS h.sites k).size:Int)≤8)∧gS h.sites k∉h.sites.take k) rfl rfl (fun k hk=>by omega) (fun R4 i hi hP4 hR4=> ?_)
 simp only [AJ,AQ,AL,AR,AO,AE,AG,AU,AN,AS,AV,AP,AM,AT,BN,BS,BV,BT,BW,BU,BO,A9,A6,A4,A7,A8,A5]
 refine A1 (AH (fun hlt=> ?_) fun hge=> ?_)
 ·have hlt:i<h.sites.length:=by omega
  refine AK hlt (ldS hlt (G8 (DO (HH (AH (fun hb=>h2 fun hk=>hb (hk.sites.sz i hlt)) fun hb=> ?_)))))
  refine BF (fun j=>[iv i,iv j]) (fun _=>[]) i (fun j=>gS h.sites i∉h.sites.take j) rfl rfl (by simp) (fun R5 j hj hP5 hR5=> ?_)
  simp only [AJ,AQ,AL,AR,AO,AE,AG,AU,AN,AS,AV,AP,AM,AT,BN,BS,BV,BT,BW,BU,BO,A9,A6,A4,A7,A8,A5]
  refine A1 (AH (fun hlj=> ?_) fun hgj=> ?_)
  ·have hlj:j<i:=by omega
   refine AK (by omega) (ldS (by omega) (AK hlt (ldS hlt (OK (AH (fun he=>h2 fun hk=>hk.sites.one i hlt ?_) fun he=> ?_)))))
   ·rw [←he, ←P4 (by omega)]
    exact List.mem_take_iff_getElem.2 ⟨j,by omega,rfl⟩
   ·exact BD (by omega) (hR5 hlj (dU (by omega) hP5 he))
  ·have:j=i:=by omega
   subst this
   refine BD (by omega) (hR4 hlt fun k hk=> ?_)
   rcases Nat.lt_succ_iff_lt_or_eq.1 hk with h3 | rfl
   ·exact hP4 k h3
   ·exact ⟨Decidable.not_not.1 hb,hP5⟩
 ·have:i=h.sites.length:=by omega
  subst this
  exact h1 ⟨o8,w8,⟨by omega,fun i hi=>(hP4 i hi).1,fun i hi=>(hP4 i hi).2⟩,fun i hi=>hP i hi,fun i hi=>hP2 i hi,fun i hi=>hP3 i hi⟩
end Go.Proofs.Ytnhicpkhkaihoaa.P
namespace Go.Proofs.Ytnhicpkhkaihoaa.P
open Go Go.Proofs.Ytnhicpkhkaihoaa Go.Proofs.Ytnhicpkhkaihoaa.Eng
set_option linter.unusedVariables false
set_option maxHeartbeats 4000000
set_option linter.unusedVariables false
set_option linter.unusedSimpArgs false
attribute [local irreducible] prP gP gE gF AI ixW ldc ldg ldl stc stg scW mkW apW BG cl2 BZ EZ DS
variable {w0:World}
theorem IL {K:J2} (h:K [] [tI O9]):cl2 ⟨Try.prog,w0⟩ 181 CX.sg [] [] K:=by
 refine CX.cl2 ?_
 unfold CX.txt
 refine BF (fun i=>[iv i]) (fun i=>[tI (List.replicate i (-1))]) 3 (fun _=>True) rfl rfl trivial (fun R i hi hP hR=> ?_)
 simp only [AJ,AQ,AL,AR,AO,AE,AG,AU,AN,AS,AV,AP,AM,AT,BN,BS,BV,BT,BW,BU,BO,A9,A6,A4,A7,A8,A5]
 refine A1 (AH (fun hlt=> ?_) fun hge=> ?_)
 ·have hlt:i<3:=by omega
  refine GW rfl (by simp;omega) (BD (by omega) ?_)
  have:=hR hlt trivial
  rw [List.replicate_succ', ←HL] at this
  exact this
 ·have:i=3:=by omega
  subst this
  exact h
structure St (h:Hp):Prop where
 ol:h.BB.length=8
 wl:h.B9.length=8
 sl:h.sites.length≤6
 bl:h.buffer.length≤100
 of: ∀o∈h.BB,OF o
 ss: ∀s∈h.sites,(s.size:Int)≤1048576
 wf: ∀w∈h.B9,F64 w.target
 bf: ∀x∈h.buffer,F64 x
theorem St.fits {h:Hp} (s:St h):Fits h:=⟨by have:=s.ol;omega,fun o ho=>by have:=(s.of o ho).len;omega,by have:=s.wl;omega,by have:=s.bl;omega,by have:=s.sl;omega,s.ss⟩
def DG (os:List AX) (id:Int):List AX:=if AB os id<0 then os else os.set (AB os id).toNat {ob os (AB os id).toNat with count:=w64 ((ob os (AB os id).toNat).count+1)}
theorem PH (os:List AX) (id:Int):(DG os id).length=os.length:=by unfold DG;split <;> simp
theorem WK {os:List AX} {id:Int} (h: ∀o∈os,OF o): ∀o∈DG os id,OF o:=by
 unfold DG
 split
 ·exact h
 ·have hk:=BQ (l:=os) (id:=id) (by omega)
  have ho:=h _ (HX (l:=os) (i:=(AB os id).toNat) (by omega))
  exact H0 h ⟨ho.gen,ho.len,ho.fld⟩
theorem TM {h:Hp} {id:Int} {K:J2} (st:St h) (hid:F64 id) (hk:K [] (trees {h with BB:=DG h.BB id})):cl2 ⟨Try.prog,w0⟩ 192 EU.sg [I id] (trees h) K:=by
 refine EU.cl2 ?_
 unfold EU.txt
 refine J4 st.fits ?_
 obtain ⟨os,ws,bf,ss⟩:=h
 have hol:os.length=8:=st.ol
 simp only [trees] at hk ⊢
 refine CF hid (by omega) ?_
 simp only [AJ,AQ,AL,AR,AO,AE,AG,AU,AN,AS,AV,AP,AM,AT,BN,BS,BV,BT,BW,BU,BO,A9,A6,A4,A7,A8,A5]
 unfold DG at hk
 refine BX (JI (AH (fun hs=> ?_) fun hs=> ?_))
 ·have hkk:=BQ (l:=os) (id:=id) (by omega)
  rw [if_neg (by omega)] at hk
  obtain ⟨k,hkk⟩: ∃k,(AB os id).toNat=k:=⟨_,rfl⟩
  have hkI:AB os id=(k:Int):=by omega
  rw [hkk] at hk
  rw [hkI]
  have hkl:k<os.length:=by omega
  rw [qQ hkl]
  exact AK (by omega) (RU (i:=k) hkl (by decide) rfl (GS (AK (by omega) (LN hkl hk))))
 ·rw [if_pos (by omega)] at hk;exact hk
theorem TS {h:Hp} {ids:List Int} {K:J2} (st:St h) (hi:ids.length≤100) (hid: ∀x∈ids,F64 x) (hK:K [] [tR tO (HM h.BB h.buffer ids).1,tR tW h.B9,tI (HM h.BB h.buffer ids).2.1,tS h.sites,tI (HM h.BB h.buffer ids).2.2]):cl2 ⟨Try.prog,w0⟩ 193 FW.sg [] [tR tO h.BB,tR tW h.B9,tI h.buffer,tS h.sites,tI ids] K:=by
 refine FW.cl2 ?_
 unfold FW.txt
 refine J4 st.fits ?_
 obtain ⟨os,ws,buf,ss⟩:=h
 have hol:os.length=8:=st.ol
 have hof: ∀o∈os,OF o:=st.of
 have hb:buf.length≤100:=st.bl
 simp only [trees] at hK ⊢
 rw [List.nil_append]
 simp only [AJ,AQ,AL,AR,AO,AE,AG,AU,AN,AS,AV,AP,AM,AT,BN,BS,BV,BT,BW,BU,BO,A9,A6,A4,A7,A8,A5]
 refine GW (PW _) (by first | omega | (simp only [cnt,List.length_nil];omega)) ?_
 obtain ⟨R,hR0⟩: ∃R,HM os buf ids=R:=⟨_,rfl⟩
 have st:=LsI.start (buf:=buf) hol hof hid
 rw [hR0] at st hK
 refine FA (α:=List AX×List Int×List Int×List Int×Nat) (fun q=>[iv (q.2.2.2.1.length-q.2.2.2.2),iv q.2.2.2.2]) (fun q=>[tI q.2.2.1,tI q.2.2.2.1,tR tO q.1,tR tW ws,tI q.2.1,tS ss]) (fun q=>mu q.2.2.1 (q.2.2.2.1.drop q.2.2.2.2)) (LsI R (buf.length+ids.length+36)) (os,buf,[],ids,0) rfl rfl st (fun Rr q hq hR=> ?_)
 obtain ⟨os,bf,freed,row,off⟩:=q
 have hq':LsI R (buf.length+ids.length+36) (os,bf,freed,row,off):=hq
 obtain ⟨ol,of,fr,ofl,td,sz,_⟩:=id hq'
 simp only at ol of fr ofl td sz
 have hmz:mu freed (row.drop off)=(row.length-off)+4*(9-freed.length):=by simp [mu]
 simp only [AJ,AQ,AL,AR,AO,AE,AG,AU,AN,AS,AV,AP,AM,AT,BN,BS,BV,BT,BW,BU,BO,A9,A6,A4,A7,A8,A5]
 simp only [AY]
 refine GR (BP (BP (LJ (fun hlt=> ?_) fun hge=> ?_)))
 rotate_left
 ·refine FV hge rfl (CD ?_)
  have:=hq'.stop (.inl (by
   have: ¬(((row.length-off:Nat):Int)>0):=hge
   omega))
  rw [this] at hK;exact hK
 have hlt':off<row.length:=by
  have:((row.length-off:Nat):Int)>0:=hlt
  omega
 refine G7 (EY hlt rfl (AH (fun h8=> ?_) fun h8=> ?_))
 rotate_left
 ·have:=hq'.stop (.inr (by omega))
  rw [this] at hK;exact hK
 have h8':freed.length≤8:=by omega
 obtain ⟨hidf,_⟩:=hq'.step hlt' h8'
 refine AK (j:=0) (by omega) (sF hlt' (vE (by omega) (CF hidf (by omega) ?_)))
 have e1:off+AA (iv 1)*1=off+1:=by rw [AY]
 have e2:row.length-off-1=row.length-(off+1):=by omega
 simp only [AY,e2,Nat.mul_one,BN]
 have mu1:mu freed (row.drop (off+1))<mu freed (row.drop off):=by rw [drop_cons hlt',gR];omega
 refine A1 (AH (fun hs=>hR (os,bf,freed,row,off+1) (hq'.skip hlt' h8' hs) mu1) fun hs=> ?_)
 have hs':0≤AB os (gI row off):=by omega
 have hk:=BQ hs'
 have n1:=hq'.M5 hlt' h8' hs'
 have n2:=hq'.put hlt' h8' hs'
 have n3:=fun hc row' off'=>hq'.free hlt' h8' hs' hc (row':=row') (off':=off')
 have hobf:=of _ (HX (l:=os) (i:=(AB os (gI row off)).toNat) (by omega))
 generalize hgid:gI row off=id at*
 obtain ⟨k,hkk⟩: ∃k,(AB os id).toNat=k:=⟨_,rfl⟩
 have hkI:AB os id=(k:Int):=by omega
 rw [hkk] at hk n1 n2 n3 hobf
 rw [hkI]
 have hkl:k<os.length:=by omega
 rw [qQ hkl]
 generalize ho:ob os k=o at*
 refine AK (by omega) (RU (i:=k) hkl (by decide) rfl (aL (AK (by omega) (LN hkl ?_))))
 generalize hcc:w64 (o.count-1)=c at*
 simp only [AJ,AQ,AL,AR,AO,AE,AG,AU,AN,AS,AV,AP,AM,AT,BN,BS,BV,BT,BW,BU,BO,A9,A6,A4,A7,A8,A5]
 have hl8:(os.set k {o with count:=c}).length=os.length:=List.length_set
 simp only [List.length_set]
 refine AK (by omega) (RU (v:=I c) (i:=k) hkl (by decide) rfl ?_)
 refine GR (AH (fun hc=> ?_) fun hc=> ?_)
 ·refine BX (AK (by omega) (RU (v:= .bool o.purple) (i:=k) hkl (by decide) rfl (B6 ?_)))
  cases hp:o.purple with
  | false=>
    refine CQ (AK (by omega) (T5 hkl (GW rfl (by omega) ?_)))
    have:=hR _ (n2 hc hp) (by simp only;exact mu1)
    simp only at this
    rw [←HL] at this
    simp only [AJ,AQ,AL,AR,AO,AE,AG,AU,AN,AS,AV,AP,AM,AT,BN,BS,BV,BT,BW,BU,BO,A9,A6,A4,A7,A8,A5]
    simp only [AY]
    exact this
  | true=>
    have:=hR _ (n1 hc hp) (by simp only;exact mu1)
    simp only [hp] at this
    refine CD ?_
    simp only [AJ,AQ,AL,AR,AO,AE,AG,AU,AN,AS,AV,AP,AM,AT,BN,BS,BV,BT,BW,BU,BO,A9,A6,A4,A7,A8,A5]
    simp only [AY]
    exact this
 ·refine GW rfl (by omega) ?_
  have hfl:o.field.length=3:=hobf.len
  refine FA (α:=Nat×List Int×Nat) (fun q=>[iv (q.2.1.length-q.2.2),iv q.2.2,I id,iv k,iv q.1]) (fun q=>[tI (freed++[id]),tI q.2.1,tR tO (os.set k {o with count:=c}),tR tW ws,tI bf,tS ss]) (fun q=>3-q.1) (fun q=>q.1≤3∧q.2.2≤q.2.1.length∧q.2.1.drop q.2.2=row.drop (off+1)++(o.field.take q.1).filter fun x=>decide (0≤x)) (0,row,off+1) rfl ?_ ⟨by omega,hlt',by simp⟩ (fun R2 q hq2 hR2=> ?_)
  ·simp only [HL]
  obtain ⟨i,rw',of'⟩:=q
  obtain ⟨hi3,hof',hdr⟩:=hq2
  simp only at hi3 hof' hdr
  have hrl:rw'.length-of'≤row.length-(off+1)+3:=by
   have e:=congrArg List.length hdr
   have:=List.length_filter_le (fun x=>decide (0≤x)) (o.field.take i)
   simp only [List.length_drop,List.length_append,List.length_take] at e this
   omega
  simp only [AJ,AQ,AL,AR,AO,AE,AG,AU,AN,AS,AV,AP,AM,AT,BN,BS,BV,BT,BW,BU,BO,A9,A6,A4,A7,A8,A5]
  simp only [List.length_set]
  refine AK (by omega) (Y8 (i:=k) hkl (by decide) rfl ?_)
  simp only [AY,mQ hkl,AE]
  refine A1 (AH (fun hlt=> ?_) fun hge=> ?_)
  ·have hlt:i<o.field.length:=by omega
   have hfx:=hobf.fld _ (F6 hlt)
   refine BX (AK (by omega) (Y8 (i:=k) hkl (by decide) rfl ?_))
   have ed:(rw'.drop of').take (rw'.length-of')=rw'.drop of':=by rw [←List.length_drop,List.take_length]
   have ea:tI (rw'.drop of')++[T.c (I (gI o.field i))]=tI (rw'.drop of'++[gI o.field i]):=HL _ _
   simp only [AY,mQ hkl,AE,RN,Nat.mul_one,ed]
   refine AK hlt (p5 hkl hlt ?_)
   simp only [AY]
   refine JI (AH (fun hp=> ?_) fun hp=> ?_)
   ·refine AK (by omega) (Y8 (i:=k) hkl (by decide) rfl ?_)
    simp only [AY,mQ hkl,AE]
    refine AK hlt (p5 hkl hlt ?_)
    simp only [AY]
    refine GW rfl (by omega) ?_
    have:=hR2 (i+1,rw'.drop of'++[gI o.field i],0) ⟨by simp only;omega,by simp only;omega,by simp only [List.drop_zero];rw [hdr,List.take_succ_eq_append_getElem hlt,List.filter_append, ←List.append_assoc,GQ hlt];congr 1;simp [hp]⟩ (by simp only;omega)
    refine BD (by omega) ?_
    rw [ea]
    simp only [AJ,AQ,AL,AR,AO,AE,AG,AU,AN,AS,AV,AP,AM,AT,BN,BS,BV,BT,BW,BU,BO,A9,A6,A4,A7,A8,A5]
    simp only [AY]
    exact this
   ·have:=hR2 (i+1,rw',of') ⟨by simp only;omega,hof',by simp only;rw [hdr,List.take_succ_eq_append_getElem hlt,List.filter_append, ←List.append_assoc,GQ hlt];simp;omega⟩ (by simp only;omega)
    refine BD (by omega) ?_
    simp only [AJ,AQ,AL,AR,AO,AE,AG,AU,AN,AS,AV,AP,AM,AT,BN,BS,BV,BT,BW,BU,BO,A9,A6,A4,A7,A8,A5]
    simp only [AY]
    exact this
  ·have:i=o.field.length:=by omega
   subst this
   rw [List.take_length] at hdr
   refine SX (by omega) ?_
   try simp only [AJ,List.length_set]
   refine AK (by omega) ?_
   simp only [AY]
   refine uA hkl (IL ?_)
   refine AK (by omega) ?_
   simp only [AY]
   refine uX hkl (z:=DT o.gen) rfl ?_
   exact hR _ (n3 hc _ _ hdr hof') (by simp only;rw [hdr];simp only [mu,List.length_append,List.length_singleton] at mu1 ⊢;have:=List.length_filter_le (fun x=>decide (0≤x)) o.field;omega)
end Go.Proofs.Ytnhicpkhkaihoaa.P
