/- A part of the proof. -/
import Derived.Test.YtklmcfpgdfibnaaPtHpG
namespace Go.Proofs.Ytklmcfpgdfibnaa.P
open Go Go.Proofs.Ytklmcfpgdfibnaa Go.Proofs.Ytklmcfpgdfibnaa.Eng
set_option maxHeartbeats 4000000
set_option linter.unusedVariables false
set_option linter.unusedSimpArgs false
attribute [local irreducible] prP gP gE gF AW ixW ldc ldg ldl stc stg scW mkW apW BK cl2 BW EI CM
variable {w0:World}
theorem rY (a b c d e f g h:Value) (l:List Value):nx (a::b::c::d::e::f::g::h::l) 7=h:=rfl
theorem rN (a b c d e f g h i:Value) (l:List Value):nx (a::b::c::d::e::f::g::h::i::l) 8=i:=rfl
theorem rO (a b c d e f g h i j:Value) (l:List Value):nx (a::b::c::d::e::f::g::h::i::j::l) 9=j:=rfl
theorem mA (o:Wk):tv (nxT (tW o) 0)= .bool o.used:=rfl
theorem qT (o:Wk):tv (nxT (tW o) 1)=I o.target:=rfl
theorem gX (o:AU):tv (nxT (tO o) 0)= .bool o.live:=rfl
theorem iF (o:AU):tv (nxT (tO o) 1)=I o.gen:=rfl
theorem lX (o:AU):tv (nxT (tO o) 2)=I o.site:=rfl
theorem mN (o:AU):tv (nxT (tO o) 3)=I o.holds:=rfl
theorem lY (o:AU):tv (nxT (tO o) 4)=I o.roots:=rfl
theorem iL (o:AU):tv (nxT (tO o) 5)=I o.count:=rfl
theorem nO (o:AU):tv (nxT (tO o) 7)= .bool o.purple:=rfl
theorem XB {h:Hp} {K:J2} (hf:Fits h) (hn:SL h) (h1:C0 h→K [.bool true] []) (h2: ¬C0 h→K [.bool false] []):cl2 ⟨Try.prog,w0⟩ 19 GP.sg [] (trees h) K:=by
 have g1:=hf.ol;have g2:=hf.wl;have g3:=hf.sl;have g4:=hf.bl
 refine GP.cl2 ?_
 unfold GP.txt
 simp only [AG,AM,AK,AP,AI,AD,AE,AR,AQ,AO,AL,AJ,AN,AH,BC,BF,BJ,BG,BH,BI,BE,A6,A7,A1,A4,A5,AZ]
 refine B8 (BO (BO (BO (JF (fun ho=> ?_) fun ho=> ?_))))
 rotate_left
 ·refine C4 ho rfl (BO (BO (BO (QP (V3 rfl (BX (h2 fun hk=>ho (by have:=hk.ol;omega))))))))
 refine B8 (C5 ho rfl (BO (BO (BO (JF (fun hw=> ?_) fun hw=> ?_)))))
 rotate_left
 ·exact C4 hw rfl (BX (h2 fun hk=>hw (by have:=hk.wl;omega)))
 refine IF (C5 hw rfl (AV (fun h6=>h2 fun hk=>(by have:=hk.sites.len;omega)) fun h6=> ?_))
 have o8:h.A8.length=8:=by omega
 have w8:h.B2.length=8:=by omega
 refine BB (fun i=>[iv i]) (fun _=>[]) h.A8.length (fun i=> ∀k,k<i→NC h k) rfl rfl (fun k hk=>by omega) (fun R i hi hP hR=> ?_)
 simp only [AG,AM,AK,AP,AI,AD,AE,AR,AQ,AO,AL,AJ,AN,AH,BC,BF,BJ,BG,BH,BI,BE,A6,A7,A1,A4,A5,AZ]
 refine AX (AV (fun hlt=> ?_) fun hge=> ?_)
 ·have hi:i<h.A8.length:=by omega
  refine BP ?_
  have stepR:NC h i→R [iv (i+1)] []:=fun hk=>hR hi fun k hki=>(Nat.lt_succ_iff_lt_or_eq.1 hki).elim (hP k) fun he=>he ▸ hk
  have no: ¬NC h i→K [.bool false] []:=fun hk=>h2 fun hh=>hk (hh.obj i (by omega))
  clear hR h1 h2
  have hfo:=Z5 hf.of i
  have hnum:=hn.ob i
  obtain ⟨⟨n1,n2⟩,⟨n3,n4⟩,⟨n7,n8⟩,⟨n9,n10⟩,⟨n5,n6⟩,_⟩:=hnum
  have hib:=nH hf.ol hf.of i
  refine AT hi (K9 hi ?_)
  rw [GZ hi,AD]
  refine DX (DI (BO (BO (BO (JF (fun hg=> ?_) fun hg=> ?_)))))
  rotate_left
  ·exact C4 hg rfl (BX (no fun hk=>hg hk.gen))
  refine B8 (C5 hg rfl (AV (fun h3=>no fun hk=>by have:=hk.len;omega) fun h3=> ?_))
  have hl3:(ob h.A8 i).field.length=3:=by omega
  have hg:0≤(ob h.A8 i).gen∧(ob h.A8 i).gen≤999:=Decidable.not_not.1 hg
  simp only [gX,iF,lX,mN,lY,iL,nO]
  cases hv:(ob h.A8 i).live with
  | false=>
    have dd:NC h i→(ob h.A8 i).site=0∧(ob h.A8 i).holds=0∧(ob h.A8 i).roots=0∧(ob h.A8 i).count=0∧(ob h.A8 i).purple=false:=fun hk=>hk.dead hv
    refine B1 (BX ?_)
    cases hpu:(ob h.A8 i).purple
    ·repeat' (first | refine BO ?_ | refine QP ?_ | refine C4 (by first | with_reducible assumption | omega) rfl ?_ | refine C5 (by first | with_reducible assumption | omega) rfl ?_ | refine V3 rfl ?_ | refine BX ?_ | refine BU ?_ | refine B8 ?_ | refine qU rfl rfl (fun _=> ?_) (fun _=> ?_) | refine JF (fun _=> ?_) (fun _=> ?_) | simp only [AG,AM,AK,AP,AI,AD,AE,AR,AQ,AO,AL,AJ,AN,AH,BC,BF,BJ,BG,BH,BI,BE,A6,A7,A1,A4,A5,AZ])
     all_goals try exact no fun hk=>by have:=dd hk;omega
     have mk:(∀j,j<3→gI (ob h.A8 i).field j= -1)→NC h i:=fun ha=>⟨hg,hl3,fun j hj hne=>absurd (ha j hj) hne,fun _=>⟨by omega,by omega,by omega,by omega,hpu⟩,fun hh=>by rw [hv] at hh;cases hh⟩
     refine BB (fun j=>[iv i,iv j, .bool false,I (ob h.A8 i).gen,I (ob h.A8 i).site,I (ob h.A8 i).holds,I (ob h.A8 i).roots,I (ob h.A8 i).count,iv (AA (iv i)*8+6), .bool false]) (fun _=>[]) 3 (fun j=> ∀k,k<j→gI (ob h.A8 i).field k= -1) rfl rfl (fun k hk=>by omega) (fun R2 j hj hP2 hR2=> ?_)
     simp only [AG,AM,AK,AP,AI,AD,AE,AR,AQ,AO,AL,AJ,AN,AH,BC,BF,BJ,BG,BH,BI,BE,A6,A7,A1,A4,A5,AZ]
     simp only [BE,rY,rN,rO]
     rw [AY (AA (iv i)*8+6),GZ hi,AD,hl3]
     refine AX (AV (fun hlt=> ?_) fun hge=> ?_)
     ·have hlt:j<3:=by omega
      refine AT hlt (L4 hi (by omega) (B8 (AV (fun hne=> ?_) fun hne=> ?_)))
      ·exact no fun hk=>by have:=(hk.lead j hlt hne).1;rw [hv] at this;cases this
      ·refine BA (by omega) (hR2 hlt fun k hk=> ?_)
       rcases Nat.lt_succ_iff_lt_or_eq.1 hk with h4 | rfl
       ·exact hP2 k h4
       ·omega
     ·have hj3:j=3:=by omega
      subst hj3
      exact BA (by omega) (stepR (mk hP2))
    ·repeat' (first | refine BO ?_ | refine QP ?_ | refine C4 (by first | with_reducible assumption | omega) rfl ?_ | refine C5 (by first | with_reducible assumption | omega) rfl ?_ | refine V3 rfl ?_ | refine BX ?_ | refine B8 ?_ | refine qU rfl rfl (fun _=> ?_) (fun _=> ?_) | refine JF (fun _=> ?_) (fun _=> ?_))
     all_goals exact no fun hk=>by have:=(dd hk).2.2.2.2;rw [hpu] at this;cases this
  | true=>
    have ll:=fun hk:NC h i=>hk.lv hv
    refine B1 (BU ?_)
    by_cases hz:1≤(ob h.A8 i).gen∧(0≤(ob h.A8 i).site∧(ob h.A8 i).site≤(h.sites.length:Int)-1)∧(0≤(ob h.A8 i).holds∧(ob h.A8 i).holds≤20)∧(0≤(ob h.A8 i).roots∧(ob h.A8 i).roots≤20)
    ·obtain ⟨z1,z2,z3,z4⟩:=hz
     repeat' (first | refine DX ?_ | refine BO ?_ | refine F5 (by first | with_reducible assumption | omega) ?_ | refine C5 (by first | with_reducible assumption | omega) rfl ?_ | refine DQ (by first | with_reducible assumption | omega) ?_ | refine AX ?_ | refine DI ?_ | refine H2 ⟨by omega,by omega⟩ ?_ | simp only [AG,AM,AK,AP,AI,AD,AE,AR,AQ,AO,AL,AJ,AN,AH,BC,BF,BJ,BG,BH,BI,BE,A6,A7,A1,A4,A5,AZ])
     all_goals try (exfalso;omega)
     refine BB (fun j=>[iv i,iv j, .bool true,I (ob h.A8 i).gen,I (ob h.A8 i).site,I (ob h.A8 i).holds,I (ob h.A8 i).roots,I (ob h.A8 i).count,iv (AA (iv i)*8+6), .bool (ob h.A8 i).purple]) (fun _=>[]) 3 (fun j=> ∀k,k<j→gI (ob h.A8 i).field k≠ -1→(ob h.A8 i).live=true∧0≤AB h.A8 (gI (ob h.A8 i).field k)) rfl rfl (fun k hk=>by omega) (fun R2 j hj hP2 hR2=> ?_)
     simp only [AG,AM,AK,AP,AI,AD,AE,AR,AQ,AO,AL,AJ,AN,AH,BC,BF,BJ,BG,BH,BI,BE,A6,A7,A1,A4,A5,AZ]
     simp only [BE,rY,rN,rO]
     rw [AY (AA (iv i)*8+6),GZ hi,AD,hl3]
     refine AX (AV (fun hlt=> ?_) fun hge=> ?_)
     ·have hlt:j<3:=by omega
      refine AT hlt (L4 hi (by omega) ?_)
      repeat' (first | refine CP (hn.fld i j) (by omega) ?_ | refine BO ?_ | refine H4 (by first | with_reducible assumption | omega) ?_ | refine ML (by first | with_reducible assumption | omega) ?_ | refine C4 (by first | with_reducible assumption | omega) rfl ?_ | refine C5 (by first | with_reducible assumption | omega) rfl ?_ | refine BU ?_ | refine AX ?_ | refine B8 ?_ | refine BA (by omega) ?_ | refine AT (by omega) ?_ | refine L4 (by omega) (by omega) ?_ | refine AV (fun _=> ?_) (fun _=> ?_) | refine I1 (fun _=> ?_) (fun _=> ?_))
      all_goals first
       | (refine hR2 hlt fun k hk hne=> ?_
          rcases Nat.lt_succ_iff_lt_or_eq.1 hk with h4 | rfl
          ·exact hP2 k h4 hne
          ·first
           | exact absurd hne (by assumption)
           | exact ⟨hv,by omega⟩)
       | (refine no fun hk=> ?_
          have h4:=hk.lead j hlt (by assumption)
          omega)
     ·have hj3:j=3:=by omega
      subst hj3
      have fin:(ob h.A8 i).count=(ob h.A8 i).holds+(ob h.A8 i).roots+inE h.A8 i→1≤(ob h.A8 i).count→(ob h.A8 i).purple=decide (CH i (ob h.A8 i).gen∈h.buffer)→NC h i:=fun e f hp=>⟨hg,hl3,hP2,fun hh=>(by rw [hv] at hh;cases hh),fun _=>⟨z1,z2,z3,z4,e,f,hp⟩⟩
      refine D4 ⟨by omega,by omega⟩ (O4 ⟨by omega,by omega⟩ (by omega) hf.of (D4 ⟨by omega,by omega⟩ ?_))
      repeat' (first | refine I6 ?_ | refine N5 (by omega) ?_ | refine BO ?_ | refine QP ?_ | refine KG (by first | with_reducible assumption | omega) ?_ | refine F5 (by first | with_reducible assumption | omega) ?_ | refine C4 (by first | with_reducible assumption | omega) rfl ?_ | refine C5 (by first | with_reducible assumption | omega) rfl ?_ | refine V3 rfl ?_ | refine BX ?_ | refine AX ?_ | refine B8 ?_ | refine DI ?_ | refine BA (by omega) ?_ | refine AV (fun _=> ?_) (fun _=> ?_) | refine JF (fun _=> ?_) (fun _=> ?_))
      all_goals first
       | (refine no fun hk=> ?_
          have h4:=ll hk
          omega)
       | exact stepR (fin (by omega) (by omega) (Decidable.not_not.1 (by assumption)))
       | exact no fun hk=>absurd (ll hk).2.2.2.2.2.2 (by assumption)
    ·repeat' (first | refine DX ?_ | refine BO ?_ | refine QP ?_ | refine KG (by first | with_reducible assumption | omega) ?_ | refine F5 (by first | with_reducible assumption | omega) ?_ | refine C4 (by first | with_reducible assumption | omega) rfl ?_ | refine C5 (by first | with_reducible assumption | omega) rfl ?_ | refine V3 rfl ?_ | refine BX ?_ | refine DA (by first | with_reducible assumption | omega) ?_ | refine AX ?_ | refine DI ?_ | refine H2 ⟨by omega,by omega⟩ ?_ | refine JF (fun _=> ?_) (fun _=> ?_))
     all_goals first
      | (refine no fun hk=>hz ?_
         have:=ll hk
         exact ⟨this.1,this.2.1,this.2.2.1,this.2.2.2.1⟩)
      | (exfalso;omega)
 have hi8:i=8:=by omega
 subst hi8
 refine BB (fun i=>[iv i]) (fun _=>[]) h.B2.length (fun i=> ∀k,k<i→((wk h.B2 k).used=false→(wk h.B2 k).target=0)∧((wk h.B2 k).used=true→8≤(wk h.B2 k).target∧(wk h.B2 k).target≤7999)) rfl rfl (fun k hk=>by omega) (fun R2 i hi hP2 hR2=> ?_)
 simp only [AG,AM,AK,AP,AI,AD,AE,AR,AQ,AO,AL,AJ,AN,AH,BC,BF,BJ,BG,BH,BI,BE,A6,A7,A1,A4,A5,AZ]
 refine AX (AV (fun hlt=> ?_) fun hge=> ?_)
 ·have hlt:i<h.B2.length:=by omega
  refine AT hlt (VU hlt ?_)
  have stepR:=fun hk=>hR2 hlt fun k hki=>(Nat.lt_succ_iff_lt_or_eq.1 hki).elim (hP2 k) fun he=>he ▸ hk
  simp only [mA,qT]
  cases hu:(wk h.B2 i).used with
  | false=>
    refine B1 ?_
    repeat' (first | refine BO ?_ | refine PD ?_ | refine PG (by first | with_reducible assumption | omega) ?_ | refine TA (by first | with_reducible assumption | omega) ?_ | refine N7 ?_ | refine K8 ?_ | refine KG (by first | with_reducible assumption | omega) ?_ | refine F5 (by first | with_reducible assumption | omega) ?_ | refine C4 (by first | with_reducible assumption | omega) rfl ?_ | refine C5 (by first | with_reducible assumption | omega) rfl ?_ | refine V3 rfl ?_ | refine TU rfl ?_ | refine BX ?_ | refine BU ?_ | refine B8 ?_ | refine BA (by omega) ?_ | refine eG (fun _=> ?_) (fun _=> ?_))
    all_goals first
     | (refine stepR ⟨fun _=> ?_,fun hh=>(by rw [hu] at hh;cases hh)⟩
        first
         | omega
         | (simp_all;done))
     | (refine h2 fun hk=> ?_
        have h4:=(hk.weak i (by omega)).1 hu
        first
         | omega
         | (simp_all;done))
  | true=>
    refine B1 ?_
    repeat' (first | refine DX ?_ | refine BO ?_ | refine PD ?_ | refine VK ?_ | refine N7 ?_ | refine NB ?_ | refine K8 ?_ | refine V3 rfl ?_ | refine TU rfl ?_ | refine DI ?_ | refine BA (by omega) ?_ | refine AV (fun _=> ?_) (fun _=> ?_))
    all_goals first
     | (refine stepR ⟨fun hh=>(by rw [hu] at hh;cases hh),fun _=> ?_⟩
        first
         | omega
         | (simp_all;done))
     | (refine h2 fun hk=> ?_
        have h4:=(hk.weak i (by omega)).2 hu
        first
         | omega
         | (simp_all;done))
 have hi8:i=8:=by omega
 subst hi8
 refine BB (fun i=>[iv i]) (fun _=>[]) h.buffer.length (fun i=> ∀k,k<i→0≤AB h.A8 (gI h.buffer k)∧gI h.buffer k∉h.buffer.take k) rfl rfl (fun k hk=>by omega) (fun R3 i hi hP3 hR3=> ?_)
 simp only [AG,AM,AK,AP,AI,AD,AE,AR,AQ,AO,AL,AJ,AN,AH,BC,BF,BJ,BG,BH,BI,BE,A6,A7,A1,A4,A5,AZ]
 refine AX (AV (fun hlt=> ?_) fun hge=> ?_)
 ·have hlt:i<h.buffer.length:=by omega
  have e:GD (tI h.buffer) [] (AA (Q9 (two (iv 0) (iv i)))*1) (AA (RV (two (iv 0) (iv i)))*1)=tI (h.buffer.take i):=by
   have h1:AA (Q9 (two (iv 0) (iv i)))=0:=rfl
   have h2:AA (RV (two (iv 0) (iv i)))=i:=AY i
   rw [h1,h2];simp [GD,node,tI,List.map_take]
  refine AT hlt (ldI hlt (CP (hn.bf i) (by omega) (AX (BO (BO (BO (JF (fun hb=> ?_) fun hb=> ?_)))))))
  ·refine Z9 (by omega) (BO (BO (BO (F5 hb (AT hlt (F5 hb (ldI hlt (F5 hb ?_))))))))
   rw [e]
   refine N5 (by simp;omega) (C5 hb rfl (AV (fun hm=>h2 fun hk=>(hk.buf i hlt).2 hm) fun hm=> ?_))
   refine BA (by omega) (hR3 hlt fun k hk=> ?_)
   rcases Nat.lt_succ_iff_lt_or_eq.1 hk with h3 | rfl
   ·exact hP3 k h3
   ·exact ⟨by omega,hm⟩
  ·repeat' (first | refine BO ?_ | refine KG (by first | with_reducible assumption | omega) ?_ | refine C4 (by first | with_reducible assumption | omega) rfl ?_ | refine BX ?_)
   all_goals exact h2 fun hk=>by have:=(hk.buf i hlt).1;omega
 have hib:i=h.buffer.length:=by omega
 subst hib
 refine BB (fun i=>[iv i]) (fun _=>[]) h.sites.length (fun i=> ∀k,k<i→(1≤((gS h.sites k).size:Int)∧((gS h.sites k).size:Int)≤8)∧gS h.sites k∉h.sites.take k) rfl rfl (fun k hk=>by omega) (fun R4 i hi hP4 hR4=> ?_)
 simp only [AG,AM,AK,AP,AI,AD,AE,AR,AQ,AO,AL,AJ,AN,AH,BC,BF,BJ,BG,BH,BI,BE,A6,A7,A1,A4,A5,AZ]
 refine AX (AV (fun hlt=> ?_) fun hge=> ?_)
 ·have hlt:i<h.sites.length:=by omega
  refine AT hlt (ldS hlt (UK (DX (DI (AV (fun hb=>h2 fun hk=>hb (hk.sites.sz i hlt)) fun hb=> ?_)))))
  refine BB (fun j=>[iv i,iv j]) (fun _=>[]) i (fun j=>gS h.sites i∉h.sites.take j) rfl rfl (by simp) (fun R5 j hj hP5 hR5=> ?_)
  simp only [AG,AM,AK,AP,AI,AD,AE,AR,AQ,AO,AL,AJ,AN,AH,BC,BF,BJ,BG,BH,BI,BE,A6,A7,A1,A4,A5,AZ]
  refine AX (AV (fun hlj=> ?_) fun hgj=> ?_)
  ·have hlj:j<i:=by omega
   refine AT (by omega) (ldS (by omega) (AT hlt (ldS hlt (bO (AV (fun he=>h2 fun hk=>hk.sites.one i hlt ?_) fun he=> ?_)))))
   ·rw [←he, ←SD (by omega)]
    exact List.mem_take_iff_getElem.2 ⟨j,by omega,rfl⟩
   ·exact BA (by omega) (hR5 hlj (eK (by omega) hP5 he))
  ·have:j=i:=by omega
   subst this
   refine BA (by omega) (hR4 hlt fun k hk=> ?_)
   rcases Nat.lt_succ_iff_lt_or_eq.1 hk with h3 | rfl
   ·exact hP4 k h3
   ·exact ⟨Decidable.not_not.1 hb,hP5⟩
 ·have:i=h.sites.length:=by omega
  subst this
  exact h1 ⟨o8,w8,⟨by omega,fun i hi=>(hP4 i hi).1,fun i hi=>(hP4 i hi).2⟩,fun i hi=>hP i hi,fun i hi=>hP2 i hi,fun i hi=>hP3 i hi⟩
end Go.Proofs.Ytklmcfpgdfibnaa.P
namespace Go.Proofs.Ytklmcfpgdfibnaa.P
open Go Go.Proofs.Ytklmcfpgdfibnaa Go.Proofs.Ytklmcfpgdfibnaa.Eng
set_option linter.unusedVariables false
set_option maxHeartbeats 4000000
set_option linter.unusedVariables false
set_option linter.unusedSimpArgs false
attribute [local irreducible] prP gP gE gF AW ixW ldc ldg ldl stc stg scW mkW apW BK cl2 BW EI CM
variable {w0:World}
theorem IV {K:J2} (h:K [] [tI OD]):cl2 ⟨Try.prog,w0⟩ 121 C9.sg [] [] K:=by
 refine C9.cl2 ?_
 unfold C9.txt
 refine BB (fun i=>[iv i]) (fun i=>[tI (List.replicate i (-1))]) 3 (fun _=>True) rfl rfl trivial (fun R i hi hP hR=> ?_)
 simp only [AG,AM,AK,AP,AI,AD,AE,AR,AQ,AO,AL,AJ,AN,AH,BC,BF,BJ,BG,BH,BI,BE,A6,A7,A1,A4,A5,AZ]
 refine AX (AV (fun hlt=> ?_) fun hge=> ?_)
 ·have hlt:i<3:=by omega
  refine EM rfl (by simp;omega) (BA (by omega) ?_)
  have:=hR hlt trivial
  rw [List.replicate_succ', ←EG] at this
  exact this
 ·have:i=3:=by omega
  subst this
  exact h
structure St (h:Hp):Prop where
 ol:h.A8.length=8
 wl:h.B2.length=8
 sl:h.sites.length≤6
 bl:h.buffer.length≤100
 of: ∀o∈h.A8,OF o
 ss: ∀s∈h.sites,(s.size:Int)≤1048576
 wf: ∀w∈h.B2,F64 w.target
 bf: ∀x∈h.buffer,F64 x
theorem St.fits {h:Hp} (s:St h):Fits h:=⟨by have:=s.ol;omega,fun o ho=>by have:=(s.of o ho).len;omega,by have:=s.wl;omega,by have:=s.bl;omega,by have:=s.sl;omega,s.ss⟩
def DJ (os:List AU) (id:Int):List AU:=if AB os id<0 then os else os.set (AB os id).toNat {ob os (AB os id).toNat with count:=w64 ((ob os (AB os id).toNat).count+1)}
theorem NN (os:List AU) (id:Int):(DJ os id).length=os.length:=by unfold DJ;split <;> simp
theorem RH {os:List AU} {id:Int} (h: ∀o∈os,OF o): ∀o∈DJ os id,OF o:=by
 unfold DJ
 split
 ·exact h
 ·have hk:=BL (l:=os) (id:=id) (by omega)
  have ho:=h _ (GG (l:=os) (i:=(AB os id).toNat) (by omega))
  exact G6 h ⟨ho.gen,ho.len,ho.fld⟩
theorem PK {os:List AU} {b c d:List T} {id:Int} {K:J2} (hid:F64 id) (hol:os.length=8) (h:K [] [tR tO (DJ os id)]):cl2 ⟨Try.prog,w0⟩ 163 DD.sg [I id] [tR tO os,b,c,d] K:=by
 refine DD.cl2 ?_
 unfold DD.txt
 simp only [AG,AM,AK,AP,AI,AD,AE,AR,AQ,AO,AL,AJ,AN,AH,BC,BF,BJ,BG,BH,BI,BE,A6,A7,A1,A4,A5,AZ]
 refine CQ hid (by omega) ?_
 simp only [AG,AM,AK,AP,AI,AD,AE,AR,AQ,AO,AL,AJ,AN,AH,BC,BF,BJ,BG,BH,BI,BE,A6,A7,A1,A4,A5,AZ]
 unfold DJ at h
 refine K3 (AV (fun hs=> ?_) fun hs=> ?_)
 ·have hk:=BL (l:=os) (id:=id) (by omega)
  rw [if_neg (by omega)] at h
  obtain ⟨k,hkk⟩: ∃k,(AB os id).toNat=k:=⟨_,rfl⟩
  have hkI:AB os id=(k:Int):=by omega
  rw [hkk] at h
  rw [hkI]
  have hkl:k<os.length:=by omega
  rw [gT hkl]
  exact AT (by omega) (H0 (i:=k) hkl (by decide) rfl (GA (AT (by omega) (G8 hkl h))))
 ·rw [if_pos (by omega)] at h;exact h
theorem TI {h:Hp} {id:Int} {K:J2} (st:St h) (hid:F64 id) (hk:K [] (trees {h with A8:=DJ h.A8 id})):cl2 ⟨Try.prog,w0⟩ 153 FJ.sg [I id] (trees h) K:=by
 refine FJ.cl2 ?_
 unfold FJ.txt
 refine KA st.fits ?_
 obtain ⟨os,ws,bf,ss⟩:=h
 have hol:os.length=8:=st.ol
 simp only [trees] at hk ⊢
 refine CP hid (by omega) ?_
 simp only [AG,AM,AK,AP,AI,AD,AE,AR,AQ,AO,AL,AJ,AN,AH,BC,BF,BJ,BG,BH,BI,BE,A6,A7,A1,A4,A5,AZ]
 unfold DJ at hk
 refine BP (K3 (AV (fun hs=> ?_) fun hs=> ?_))
 ·have hkk:=BL (l:=os) (id:=id) (by omega)
  rw [if_neg (by omega)] at hk
  obtain ⟨k,hkk⟩: ∃k,(AB os id).toNat=k:=⟨_,rfl⟩
  have hkI:AB os id=(k:Int):=by omega
  rw [hkk] at hk
  rw [hkI]
  have hkl:k<os.length:=by omega
  rw [gT hkl]
  exact AT (by omega) (H0 (i:=k) hkl (by decide) rfl (GA (AT (by omega) (G8 hkl hk))))
 ·rw [if_pos (by omega)] at hk;exact hk
theorem TQ {h:Hp} {ids:List Int} {K:J2} (st:St h) (hi:ids.length≤100) (hid: ∀x∈ids,F64 x) (hK:K [] [tR tO (GR h.A8 h.buffer ids).1,tR tW h.B2,tI (GR h.A8 h.buffer ids).2.1,tS h.sites,tI (GR h.A8 h.buffer ids).2.2]):cl2 ⟨Try.prog,w0⟩ 154 F7.sg [] [tR tO h.A8,tR tW h.B2,tI h.buffer,tS h.sites,tI ids] K:=by
 refine F7.cl2 ?_
 unfold F7.txt
 refine KA st.fits ?_
 obtain ⟨os,ws,buf,ss⟩:=h
 have hol:os.length=8:=st.ol
 have hof: ∀o∈os,OF o:=st.of
 have hb:buf.length≤100:=st.bl
 simp only [trees] at hK ⊢
 rw [List.nil_append]
 simp only [AG,AM,AK,AP,AI,AD,AE,AR,AQ,AO,AL,AJ,AN,AH,BC,BF,BJ,BG,BH,BI,BE,A6,A7,A1,A4,A5,AZ]
 refine EM (MG _) (by first | omega | (simp only [cnt,List.length_nil];omega)) ?_
 obtain ⟨R,hR0⟩: ∃R,GR os buf ids=R:=⟨_,rfl⟩
 have st:=LsI.start (buf:=buf) hol hof hid
 rw [hR0] at st hK
 refine FD (α:=List AU×List Int×List Int×List Int×Nat) (fun q=>[iv (q.2.2.2.1.length-q.2.2.2.2),iv q.2.2.2.2]) (fun q=>[tI q.2.2.1,tI q.2.2.2.1,tR tO q.1,tR tW ws,tI q.2.1,tS ss]) (fun q=>mu q.2.2.1 (q.2.2.2.1.drop q.2.2.2.2)) (LsI R (buf.length+ids.length+36)) (os,buf,[],ids,0) rfl rfl st (fun Rr q hq hR=> ?_)
 obtain ⟨os,bf,freed,row,off⟩:=q
 have hq':LsI R (buf.length+ids.length+36) (os,bf,freed,row,off):=hq
 obtain ⟨ol,of,fr,ofl,td,sz,_⟩:=id hq'
 simp only at ol of fr ofl td sz
 have hmz:mu freed (row.drop off)=(row.length-off)+4*(9-freed.length):=by simp [mu]
 simp only [AG,AM,AK,AP,AI,AD,AE,AR,AQ,AO,AL,AJ,AN,AH,BC,BF,BJ,BG,BH,BI,BE,A6,A7,A1,A4,A5,AZ]
 simp only [AY]
 refine IF (BO (BO (I1 (fun hlt=> ?_) fun hge=> ?_)))
 rotate_left
 ·refine C5 hge rfl (BU ?_)
  have:=hq'.stop (.inl (by
   have: ¬(((row.length-off:Nat):Int)>0):=hge
   omega))
  rw [this] at hK;exact hK
 have hlt':off<row.length:=by
  have:((row.length-off:Nat):Int)>0:=hlt
  omega
 refine GQ (C4 hlt rfl (AV (fun h8=> ?_) fun h8=> ?_))
 rotate_left
 ·have:=hq'.stop (.inr (by omega))
  rw [this] at hK;exact hK
 have h8':freed.length≤8:=by omega
 obtain ⟨hidf,_⟩:=hq'.step hlt' h8'
 refine AT (j:=0) (by omega) (lL hlt' (qV (by omega) (CP hidf (by omega) ?_)))
 have e1:off+AA (iv 1)*1=off+1:=by rw [AY]
 have e2:row.length-off-1=row.length-(off+1):=by omega
 simp only [AY,e2,Nat.mul_one,BC]
 have mu1:mu freed (row.drop (off+1))<mu freed (row.drop off):=by rw [drop_cons hlt',YV];omega
 refine AX (AV (fun hs=>hR (os,bf,freed,row,off+1) (hq'.skip hlt' h8' hs) mu1) fun hs=> ?_)
 have hs':0≤AB os (gI row off):=by omega
 have hk:=BL hs'
 have n1:=hq'.KK hlt' h8' hs'
 have n2:=hq'.put hlt' h8' hs'
 have n3:=fun hc row' off'=>hq'.free hlt' h8' hs' hc (row':=row') (off':=off')
 have hobf:=of _ (GG (l:=os) (i:=(AB os (gI row off)).toNat) (by omega))
 generalize hgid:gI row off=id at*
 obtain ⟨k,hkk⟩: ∃k,(AB os id).toNat=k:=⟨_,rfl⟩
 have hkI:AB os id=(k:Int):=by omega
 rw [hkk] at hk n1 n2 n3 hobf
 rw [hkI]
 have hkl:k<os.length:=by omega
 rw [gT hkl]
 generalize ho:ob os k=o at*
 refine AT (by omega) (H0 (i:=k) hkl (by decide) rfl (V5 (AT (by omega) (G8 hkl ?_))))
 generalize hcc:w64 (o.count-1)=c at*
 simp only [AG,AM,AK,AP,AI,AD,AE,AR,AQ,AO,AL,AJ,AN,AH,BC,BF,BJ,BG,BH,BI,BE,A6,A7,A1,A4,A5,AZ]
 have hl8:(os.set k {o with count:=c}).length=os.length:=List.length_set
 simp only [List.length_set]
 refine AT (by omega) (H0 (v:=I c) (i:=k) hkl (by decide) rfl ?_)
 refine IF (AV (fun hc=> ?_) fun hc=> ?_)
 ·refine BP (AT (by omega) (H0 (v:= .bool o.purple) (i:=k) hkl (by decide) rfl (B1 ?_)))
  cases hp:o.purple with
  | false=>
    refine BX (AT (by omega) (OE hkl (EM rfl (by omega) ?_)))
    have:=hR _ (n2 hc hp) (by simp only;exact mu1)
    simp only at this
    rw [←EG] at this
    simp only [AG,AM,AK,AP,AI,AD,AE,AR,AQ,AO,AL,AJ,AN,AH,BC,BF,BJ,BG,BH,BI,BE,A6,A7,A1,A4,A5,AZ]
    simp only [AY]
    exact this
  | true=>
    have:=hR _ (n1 hc hp) (by simp only;exact mu1)
    simp only [hp] at this
    refine BU ?_
    simp only [AG,AM,AK,AP,AI,AD,AE,AR,AQ,AO,AL,AJ,AN,AH,BC,BF,BJ,BG,BH,BI,BE,A6,A7,A1,A4,A5,AZ]
    simp only [AY]
    exact this
 ·refine EM rfl (by omega) ?_
  have hfl:o.field.length=3:=hobf.len
  refine FD (α:=Nat×List Int×Nat) (fun q=>[iv (q.2.1.length-q.2.2),iv q.2.2,I id,iv k,iv q.1]) (fun q=>[tI (freed++[id]),tI q.2.1,tR tO (os.set k {o with count:=c}),tR tW ws,tI bf,tS ss]) (fun q=>3-q.1) (fun q=>q.1≤3∧q.2.2≤q.2.1.length∧q.2.1.drop q.2.2=row.drop (off+1)++(o.field.take q.1).filter fun x=>decide (0≤x)) (0,row,off+1) rfl ?_ ⟨by omega,hlt',by simp⟩ (fun R2 q hq2 hR2=> ?_)
  ·simp only [EG]
  obtain ⟨i,rw',of'⟩:=q
  obtain ⟨hi3,hof',hdr⟩:=hq2
  simp only at hi3 hof' hdr
  have hrl:rw'.length-of'≤row.length-(off+1)+3:=by
   have e:=congrArg List.length hdr
   have:=List.length_filter_le (fun x=>decide (0≤x)) (o.field.take i)
   simp only [List.length_drop,List.length_append,List.length_take] at e this
   omega
  simp only [AG,AM,AK,AP,AI,AD,AE,AR,AQ,AO,AL,AJ,AN,AH,BC,BF,BJ,BG,BH,BI,BE,A6,A7,A1,A4,A5,AZ]
  simp only [List.length_set]
  refine AT (by omega) (UB (i:=k) hkl (by decide) rfl ?_)
  simp only [AY,fY hkl,AD]
  refine AX (AV (fun hlt=> ?_) fun hge=> ?_)
  ·have hlt:i<o.field.length:=by omega
   have hfx:=hobf.fld _ (DT hlt)
   refine BP (AT (by omega) (UB (i:=k) hkl (by decide) rfl ?_))
   have ed:(rw'.drop of').take (rw'.length-of')=rw'.drop of':=by rw [←List.length_drop,List.take_length]
   have ea:tI (rw'.drop of')++[T.c (I (gI o.field i))]=tI (rw'.drop of'++[gI o.field i]):=EG _ _
   simp only [AY,fY hkl,AD,OU,Nat.mul_one,ed]
   refine AT hlt (l5 hkl hlt ?_)
   simp only [AY]
   refine K3 (AV (fun hp=> ?_) fun hp=> ?_)
   ·refine AT (by omega) (UB (i:=k) hkl (by decide) rfl ?_)
    simp only [AY,fY hkl,AD]
    refine AT hlt (l5 hkl hlt ?_)
    simp only [AY]
    refine EM rfl (by omega) ?_
    have:=hR2 (i+1,rw'.drop of'++[gI o.field i],0) ⟨by simp only;omega,by simp only;omega,by simp only [List.drop_zero];rw [hdr,List.take_succ_eq_append_getElem hlt,List.filter_append, ←List.append_assoc,EN hlt];congr 1;simp [hp]⟩ (by simp only;omega)
    refine BA (by omega) ?_
    rw [ea]
    simp only [AG,AM,AK,AP,AI,AD,AE,AR,AQ,AO,AL,AJ,AN,AH,BC,BF,BJ,BG,BH,BI,BE,A6,A7,A1,A4,A5,AZ]
    simp only [AY]
    exact this
   ·have:=hR2 (i+1,rw',of') ⟨by simp only;omega,hof',by simp only;rw [hdr,List.take_succ_eq_append_getElem hlt,List.filter_append, ←List.append_assoc,EN hlt];simp;omega⟩ (by simp only;omega)
    refine BA (by omega) ?_
    simp only [AG,AM,AK,AP,AI,AD,AE,AR,AQ,AO,AL,AJ,AN,AH,BC,BF,BJ,BG,BH,BI,BE,A6,A7,A1,A4,A5,AZ]
    simp only [AY]
    exact this
  ·have:i=o.field.length:=by omega
   subst this
   rw [List.take_length] at hdr
   refine SS (by omega) ?_
   try simp only [AG,List.length_set]
   refine AT (by omega) ?_
   simp only [AY]
   refine qO hkl (IV ?_)
   refine AT (by omega) ?_
   simp only [AY]
   refine qS hkl (z:=B6 o.gen) rfl ?_
   exact hR _ (n3 hc _ _ hdr hof') (by simp only;rw [hdr];simp only [mu,List.length_append,List.length_singleton] at mu1 ⊢;have:=List.length_filter_le (fun x=>decide (0≤x)) o.field;omega)
end Go.Proofs.Ytklmcfpgdfibnaa.P
