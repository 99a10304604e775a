/- A part of the proof. -/
import Derived.Test.YtnhicpkhkaihoaaGreatRcHpG
namespace Go.Proofs.YtnhicpkhkaihoaaGreat.P
open Go Go.Proofs.YtnhicpkhkaihoaaGreat Go.Proofs.YtnhicpkhkaihoaaGreat.Eng
set_option maxHeartbeats 4000000
set_option linter.unusedVariables false
set_option linter.unusedSimpArgs false
attribute [local irreducible] prP gP gE gF AG ixW ldc ldg ldl stc stg scW mkW apW BB cl2 BY FT DG
variable {w0:World}
theorem yO (a b c d e f g h:Value) (l:List Value):nx (a::b::c::d::e::f::g::h::l) 7=h:=rfl
theorem yD (a b c d e f g h i:Value) (l:List Value):nx (a::b::c::d::e::f::g::h::i::l) 8=i:=rfl
theorem yF (a b c d e f g h i j:Value) (l:List Value):nx (a::b::c::d::e::f::g::h::i::j::l) 9=j:=rfl
theorem wQ (o:Wk):tv (nxT (tW o) 0)= .bool o.used:=rfl
theorem y6 (o:Wk):tv (nxT (tW o) 1)=I o.target:=rfl
theorem pX (o:AZ):tv (nxT (tO o) 0)= .bool o.live:=rfl
theorem p9 (o:AZ):tv (nxT (tO o) 1)=I o.gen:=rfl
theorem wY (o:AZ):tv (nxT (tO o) 2)=I o.site:=rfl
theorem wL (o:AZ):tv (nxT (tO o) 3)=I o.holds:=rfl
theorem wT (o:AZ):tv (nxT (tO o) 4)=I o.roots:=rfl
theorem rI (o:AZ):tv (nxT (tO o) 5)=I o.count:=rfl
theorem wG (o:AZ):tv (nxT (tO o) 7)= .bool o.purple:=rfl
theorem bB {h:Hp} {K:J2} (hf:Fits h) (hn:Z3 h) (h1:DZ h→K [.bool true] []) (h2: ¬DZ h→K [.bool false] []):cl2 ⟨Tryz.prog,w0⟩ 21 HV.sg [] (trees h) K:=by
 have g1:=hf.ol;have g2:=hf.wl;have g3:=hf.sl;have g4:=hf.bl
 refine HV.cl2 ?_
 unfold HV.txt
 simp only [AK,AQ,AN,AP,AS,AE,AI,AU,AL,AV,AT,AM,AR,AO,BF,BM,BL,BI,BK,BJ,BG,A7,A4,A5,A8,A6,A9]
 refine B5 (B2 (B2 (B2 (LD (fun ho=> ?_) fun ho=> ?_))))
 rotate_left
 ·refine EE ho rfl (B2 (B2 (B2 (WI (aP rfl (B3 (h2 fun hk=>ho (by have:=hk.ol;omega))))))))
 refine B5 (EJ ho rfl (B2 (B2 (B2 (LD (fun hw=> ?_) fun hw=> ?_)))))
 rotate_left
 ·exact EE hw rfl (B3 (h2 fun hk=>hw (by have:=hk.wl;omega)))
 refine GD (EJ hw rfl (AW (fun h6=>h2 fun hk=>(by have:=hk.sites.len;omega)) fun h6=> ?_))
 have o8:h.BC.length=8:=by omega
 have w8:h.B9.length=8:=by omega
 refine AY (fun i=>[iv i]) (fun _=>[]) h.BC.length (fun i=> ∀k,k<i→WO h k) rfl rfl (fun k hk=>by omega) (fun R i hi hP hR=> ?_)
 simp only [AK,AQ,AN,AP,AS,AE,AI,AU,AL,AV,AT,AM,AR,AO,BF,BM,BL,BI,BK,BJ,BG,A7,A4,A5,A8,A6,A9]
 refine AJ (AW (fun hlt=> ?_) fun hge=> ?_)
 ·have hi:i<h.BC.length:=by omega
  refine BV ?_
  have stepR:WO h i→R [iv (i+1)] []:=fun hk=>hR hi fun k hki=>(Nat.lt_succ_iff_lt_or_eq.1 hki).elim (hP k) fun he=>he ▸ hk
  have no: ¬WO h i→K [.bool false] []:=fun hk=>h2 fun hh=>hk (hh.obj i (by omega))
  clear hR h1 h2
  have hfo:=kZ hf.of i
  have hnum:=hn.ob i
  obtain ⟨⟨n1,n2⟩,⟨n3,n4⟩,⟨n7,n8⟩,⟨n9,n10⟩,⟨n5,n6⟩,_⟩:=hnum
  have hib:=yB hf.ol hf.of i
  refine AH hi (RF hi ?_)
  rw [I8 hi,AE]
  refine DA (CM (B2 (B2 (B2 (LD (fun hg=> ?_) fun hg=> ?_)))))
  rotate_left
  ·exact EE hg rfl (B3 (no fun hk=>hg hk.gen))
  refine B5 (EJ hg rfl (AW (fun h3=>no fun hk=>by have:=hk.len;omega) fun h3=> ?_))
  have hl3:(ob h.BC i).field.length=3:=by omega
  have hg:0≤(ob h.BC i).gen∧(ob h.BC i).gen≤999:=Decidable.not_not.1 hg
  simp only [pX,p9,wY,wL,wT,rI,wG]
  cases hv:(ob h.BC i).live with
  | false=>
    have dd:WO h i→(ob h.BC i).site=0∧(ob h.BC i).holds=0∧(ob h.BC i).roots=0∧(ob h.BC i).count=0∧(ob h.BC i).purple=false:=fun hk=>hk.dead hv
    refine BP (B3 ?_)
    cases hpu:(ob h.BC i).purple
    ·repeat' (first | refine B2 ?_ | refine WI ?_ | refine EE (by first | with_reducible assumption | omega) rfl ?_ | refine EJ (by first | with_reducible assumption | omega) rfl ?_ | refine aP rfl ?_ | refine B3 ?_ | refine BO ?_ | refine B5 ?_ | refine wM rfl rfl (fun _=> ?_) (fun _=> ?_) | refine LD (fun _=> ?_) (fun _=> ?_) | simp only [AK,AQ,AN,AP,AS,AE,AI,AU,AL,AV,AT,AM,AR,AO,BF,BM,BL,BI,BK,BJ,BG,A7,A4,A5,A8,A6,A9])
     all_goals try exact no fun hk=>by have:=dd hk;omega
     have mk:(∀j,j<3→gI (ob h.BC i).field j= -1)→WO h i:=fun ha=>⟨hg,hl3,fun j hj hne=>absurd (ha j hj) hne,fun _=>⟨by omega,by omega,by omega,by omega,hpu⟩,fun hh=>by rw [hv] at hh;cases hh⟩
     refine AY (fun j=>[iv i,iv j, .bool false,I (ob h.BC i).gen,I (ob h.BC i).site,I (ob h.BC i).holds,I (ob h.BC i).roots,I (ob h.BC i).count,iv (AA (iv i)*8+6), .bool false]) (fun _=>[]) 3 (fun j=> ∀k,k<j→gI (ob h.BC i).field k= -1) rfl rfl (fun k hk=>by omega) (fun R2 j hj hP2 hR2=> ?_)
     simp only [AK,AQ,AN,AP,AS,AE,AI,AU,AL,AV,AT,AM,AR,AO,BF,BM,BL,BI,BK,BJ,BG,A7,A4,A5,A8,A6,A9]
     simp only [BG,yO,yD,yF]
     rw [A1 (AA (iv i)*8+6),I8 hi,AE,hl3]
     refine AJ (AW (fun hlt=> ?_) fun hge=> ?_)
     ·have hlt:j<3:=by omega
      refine AH hlt (OY hi (by omega) (B5 (AW (fun hne=> ?_) fun hne=> ?_)))
      ·exact no fun hk=>by have:=(hk.lead j hlt hne).1;rw [hv] at this;cases this
      ·refine AX (by omega) (hR2 hlt fun k hk=> ?_)
       rcases Nat.lt_succ_iff_lt_or_eq.1 hk with h4 | rfl
       ·exact hP2 k h4
       ·omega
     ·have hj3:j=3:=by omega
      subst hj3
      exact AX (by omega) (stepR (mk hP2))
    ·repeat' (first | refine B2 ?_ | refine WI ?_ | refine EE (by first | with_reducible assumption | omega) rfl ?_ | refine EJ (by first | with_reducible assumption | omega) rfl ?_ | refine aP rfl ?_ | refine B3 ?_ | refine B5 ?_ | refine wM rfl rfl (fun _=> ?_) (fun _=> ?_) | refine LD (fun _=> ?_) (fun _=> ?_))
     all_goals exact no fun hk=>by have:=(dd hk).2.2.2.2;rw [hpu] at this;cases this
  | true=>
    have ll:=fun hk:WO h i=>hk.lv hv
    refine BP (BO ?_)
    by_cases hz:1≤(ob h.BC i).gen∧(0≤(ob h.BC i).site∧(ob h.BC i).site≤(h.sites.length:Int)-1)∧(0≤(ob h.BC i).holds∧(ob h.BC i).holds≤20)∧(0≤(ob h.BC i).roots∧(ob h.BC i).roots≤20)
    ·obtain ⟨z1,z2,z3,z4⟩:=hz
     repeat' (first | refine DA ?_ | refine B2 ?_ | refine JG (by first | with_reducible assumption | omega) ?_ | refine EJ (by first | with_reducible assumption | omega) rfl ?_ | refine BZ (by first | with_reducible assumption | omega) ?_ | refine AJ ?_ | refine CM ?_ | refine EI ⟨by omega,by omega⟩ ?_ | simp only [AK,AQ,AN,AP,AS,AE,AI,AU,AL,AV,AT,AM,AR,AO,BF,BM,BL,BI,BK,BJ,BG,A7,A4,A5,A8,A6,A9])
     all_goals try (exfalso;omega)
     refine AY (fun j=>[iv i,iv j, .bool true,I (ob h.BC i).gen,I (ob h.BC i).site,I (ob h.BC i).holds,I (ob h.BC i).roots,I (ob h.BC i).count,iv (AA (iv i)*8+6), .bool (ob h.BC i).purple]) (fun _=>[]) 3 (fun j=> ∀k,k<j→gI (ob h.BC i).field k≠ -1→(ob h.BC i).live=true∧0≤AB h.BC (gI (ob h.BC i).field k)) rfl rfl (fun k hk=>by omega) (fun R2 j hj hP2 hR2=> ?_)
     simp only [AK,AQ,AN,AP,AS,AE,AI,AU,AL,AV,AT,AM,AR,AO,BF,BM,BL,BI,BK,BJ,BG,A7,A4,A5,A8,A6,A9]
     simp only [BG,yO,yD,yF]
     rw [A1 (AA (iv i)*8+6),I8 hi,AE,hl3]
     refine AJ (AW (fun hlt=> ?_) fun hge=> ?_)
     ·have hlt:j<3:=by omega
      refine AH hlt (OY hi (by omega) ?_)
      repeat' (first | refine CP (hn.fld i j) (by omega) ?_ | refine B2 ?_ | refine KQ (by first | with_reducible assumption | omega) ?_ | refine QJ (by first | with_reducible assumption | omega) ?_ | refine EE (by first | with_reducible assumption | omega) rfl ?_ | refine EJ (by first | with_reducible assumption | omega) rfl ?_ | refine BO ?_ | refine AJ ?_ | refine B5 ?_ | refine AX (by omega) ?_ | refine AH (by omega) ?_ | refine OY (by omega) (by omega) ?_ | refine AW (fun _=> ?_) (fun _=> ?_) | refine NT (fun _=> ?_) (fun _=> ?_))
      all_goals first
       | (refine hR2 hlt fun k hk hne=> ?_
          rcases Nat.lt_succ_iff_lt_or_eq.1 hk with h4 | rfl
          ·exact hP2 k h4 hne
          ·first
           | exact absurd hne (by assumption)
           | exact ⟨hv,by omega⟩)
       | (refine no fun hk=> ?_
          have h4:=hk.lead j hlt (by assumption)
          omega)
     ·have hj3:j=3:=by omega
      subst hj3
      have fin:(ob h.BC i).count=(ob h.BC i).holds+(ob h.BC i).roots+inE h.BC i→1≤(ob h.BC i).count→(ob h.BC i).purple=decide (C0 i (ob h.BC i).gen∈h.buffer)→WO h i:=fun e f hp=>⟨hg,hl3,hP2,fun hh=>(by rw [hv] at hh;cases hh),fun _=>⟨z1,z2,z3,z4,e,f,hp⟩⟩
      refine CC ⟨by omega,by omega⟩ (Q1 ⟨by omega,by omega⟩ (by omega) hf.of (CC ⟨by omega,by omega⟩ ?_))
      repeat' (first | refine MG ?_ | refine PX (by omega) ?_ | refine B2 ?_ | refine WI ?_ | refine NJ (by first | with_reducible assumption | omega) ?_ | refine JG (by first | with_reducible assumption | omega) ?_ | refine EE (by first | with_reducible assumption | omega) rfl ?_ | refine EJ (by first | with_reducible assumption | omega) rfl ?_ | refine aP rfl ?_ | refine B3 ?_ | refine AJ ?_ | refine B5 ?_ | refine CM ?_ | refine AX (by omega) ?_ | refine AW (fun _=> ?_) (fun _=> ?_) | refine LD (fun _=> ?_) (fun _=> ?_))
      all_goals first
       | (refine no fun hk=> ?_
          have h4:=ll hk
          omega)
       | exact stepR (fin (by omega) (by omega) (Decidable.not_not.1 (by assumption)))
       | exact no fun hk=>absurd (ll hk).2.2.2.2.2.2 (by assumption)
    ·repeat' (first | refine DA ?_ | refine B2 ?_ | refine WI ?_ | refine NJ (by first | with_reducible assumption | omega) ?_ | refine JG (by first | with_reducible assumption | omega) ?_ | refine EE (by first | with_reducible assumption | omega) rfl ?_ | refine EJ (by first | with_reducible assumption | omega) rfl ?_ | refine aP rfl ?_ | refine B3 ?_ | refine CZ (by first | with_reducible assumption | omega) ?_ | refine AJ ?_ | refine CM ?_ | refine EI ⟨by omega,by omega⟩ ?_ | refine LD (fun _=> ?_) (fun _=> ?_))
     all_goals first
      | (refine no fun hk=>hz ?_
         have:=ll hk
         exact ⟨this.1,this.2.1,this.2.2.1,this.2.2.2.1⟩)
      | (exfalso;omega)
 have hi8:i=8:=by omega
 subst hi8
 refine AY (fun i=>[iv i]) (fun _=>[]) h.B9.length (fun i=> ∀k,k<i→((wk h.B9 k).used=false→(wk h.B9 k).target=0)∧((wk h.B9 k).used=true→8≤(wk h.B9 k).target∧(wk h.B9 k).target≤7999)) rfl rfl (fun k hk=>by omega) (fun R2 i hi hP2 hR2=> ?_)
 simp only [AK,AQ,AN,AP,AS,AE,AI,AU,AL,AV,AT,AM,AR,AO,BF,BM,BL,BI,BK,BJ,BG,A7,A4,A5,A8,A6,A9]
 refine AJ (AW (fun hlt=> ?_) fun hge=> ?_)
 ·have hlt:i<h.B9.length:=by omega
  refine AH hlt (qN hlt ?_)
  have stepR:=fun hk=>hR2 hlt fun k hki=>(Nat.lt_succ_iff_lt_or_eq.1 hki).elim (hP2 k) fun he=>he ▸ hk
  simp only [wQ,y6]
  cases hu:(wk h.B9 i).used with
  | false=>
    refine BP ?_
    repeat' (first | refine B2 ?_ | refine V7 ?_ | refine V6 (by first | with_reducible assumption | omega) ?_ | refine dP (by first | with_reducible assumption | omega) ?_ | refine QM ?_ | refine QO ?_ | refine NJ (by first | with_reducible assumption | omega) ?_ | refine JG (by first | with_reducible assumption | omega) ?_ | refine EE (by first | with_reducible assumption | omega) rfl ?_ | refine EJ (by first | with_reducible assumption | omega) rfl ?_ | refine aP rfl ?_ | refine oI rfl ?_ | refine B3 ?_ | refine BO ?_ | refine B5 ?_ | refine AX (by omega) ?_ | refine y1 (fun _=> ?_) (fun _=> ?_))
    all_goals first
     | (refine stepR ⟨fun _=> ?_,fun hh=>(by rw [hu] at hh;cases hh)⟩
        first
         | omega
         | (simp_all;done))
     | (refine h2 fun hk=> ?_
        have h4:=(hk.weak i (by omega)).1 hu
        first
         | omega
         | (simp_all;done))
  | true=>
    refine BP ?_
    repeat' (first | refine DA ?_ | refine B2 ?_ | refine V7 ?_ | refine lE ?_ | refine QM ?_ | refine QI ?_ | refine QO ?_ | refine aP rfl ?_ | refine oI rfl ?_ | refine CM ?_ | refine AX (by omega) ?_ | refine AW (fun _=> ?_) (fun _=> ?_))
    all_goals first
     | (refine stepR ⟨fun hh=>(by rw [hu] at hh;cases hh),fun _=> ?_⟩
        first
         | omega
         | (simp_all;done))
     | (refine h2 fun hk=> ?_
        have h4:=(hk.weak i (by omega)).2 hu
        first
         | omega
         | (simp_all;done))
 have hi8:i=8:=by omega
 subst hi8
 refine AY (fun i=>[iv i]) (fun _=>[]) h.buffer.length (fun i=> ∀k,k<i→0≤AB h.BC (gI h.buffer k)∧gI h.buffer k∉h.buffer.take k) rfl rfl (fun k hk=>by omega) (fun R3 i hi hP3 hR3=> ?_)
 simp only [AK,AQ,AN,AP,AS,AE,AI,AU,AL,AV,AT,AM,AR,AO,BF,BM,BL,BI,BK,BJ,BG,A7,A4,A5,A8,A6,A9]
 refine AJ (AW (fun hlt=> ?_) fun hge=> ?_)
 ·have hlt:i<h.buffer.length:=by omega
  have e:JE (tI h.buffer) [] (AA (jC (two (iv 0) (iv i)))*1) (AA (iB (two (iv 0) (iv i)))*1)=tI (h.buffer.take i):=by
   have h1:AA (jC (two (iv 0) (iv i)))=0:=rfl
   have h2:AA (iB (two (iv 0) (iv i)))=i:=A1 i
   rw [h1,h2];simp [JE,node,tI,List.map_take]
  refine AH hlt (ldI hlt (CP (hn.bf i) (by omega) (AJ (B2 (B2 (B2 (LD (fun hb=> ?_) fun hb=> ?_)))))))
  ·refine lL (by omega) (B2 (B2 (B2 (JG hb (AH hlt (JG hb (ldI hlt (JG hb ?_))))))))
   rw [e]
   refine PX (by simp;omega) (EJ hb rfl (AW (fun hm=>h2 fun hk=>(hk.buf i hlt).2 hm) fun hm=> ?_))
   refine AX (by omega) (hR3 hlt fun k hk=> ?_)
   rcases Nat.lt_succ_iff_lt_or_eq.1 hk with h3 | rfl
   ·exact hP3 k h3
   ·exact ⟨by omega,hm⟩
  ·repeat' (first | refine B2 ?_ | refine NJ (by first | with_reducible assumption | omega) ?_ | refine EE (by first | with_reducible assumption | omega) rfl ?_ | refine B3 ?_)
   all_goals exact h2 fun hk=>by have:=(hk.buf i hlt).1;omega
 have hib:i=h.buffer.length:=by omega
 subst hib
 refine AY (fun i=>[iv i]) (fun _=>[]) h.sites.length (fun i=> ∀k,k<i→(1≤((gS h.sites k).size:Int)∧((gS h.sites k).size:Int)≤8)∧gS h.sites k∉h.sites.take k) rfl rfl (fun k hk=>by omega) (fun R4 i hi hP4 hR4=> ?_)
 simp only [AK,AQ,AN,AP,AS,AE,AI,AU,AL,AV,AT,AM,AR,AO,BF,BM,BL,BI,BK,BJ,BG,A7,A4,A5,A8,A6,A9]
 refine AJ (AW (fun hlt=> ?_) fun hge=> ?_)
 ·have hlt:i<h.sites.length:=by omega
  refine AH hlt (ldS hlt (HE (DA (CM (AW (fun hb=>h2 fun hk=>hb (hk.sites.sz i hlt)) fun hb=> ?_)))))
  refine AY (fun j=>[iv i,iv j]) (fun _=>[]) i (fun j=>gS h.sites i∉h.sites.take j) rfl rfl (by simp) (fun R5 j hj hP5 hR5=> ?_)
  simp only [AK,AQ,AN,AP,AS,AE,AI,AU,AL,AV,AT,AM,AR,AO,BF,BM,BL,BI,BK,BJ,BG,A7,A4,A5,A8,A6,A9]
  refine AJ (AW (fun hlj=> ?_) fun hgj=> ?_)
  ·have hlj:j<i:=by omega
   refine AH (by omega) (ldS (by omega) (AH hlt (ldS hlt (Q2 (AW (fun he=>h2 fun hk=>hk.sites.one i hlt ?_) fun he=> ?_)))))
   ·rw [←he, ←S7 (by omega)]
    exact List.mem_take_iff_getElem.2 ⟨j,by omega,rfl⟩
   ·exact AX (by omega) (hR5 hlj (lR (by omega) hP5 he))
  ·have:j=i:=by omega
   subst this
   refine AX (by omega) (hR4 hlt fun k hk=> ?_)
   rcases Nat.lt_succ_iff_lt_or_eq.1 hk with h3 | rfl
   ·exact hP4 k h3
   ·exact ⟨Decidable.not_not.1 hb,hP5⟩
 ·have:i=h.sites.length:=by omega
  subst this
  exact h1 ⟨o8,w8,⟨by omega,fun i hi=>(hP4 i hi).1,fun i hi=>(hP4 i hi).2⟩,fun i hi=>hP i hi,fun i hi=>hP2 i hi,fun i hi=>hP3 i hi⟩
end Go.Proofs.YtnhicpkhkaihoaaGreat.P
namespace Go.Proofs.YtnhicpkhkaihoaaGreat.P
open Go Go.Proofs.YtnhicpkhkaihoaaGreat Go.Proofs.YtnhicpkhkaihoaaGreat.Eng
set_option linter.unusedVariables false
set_option maxHeartbeats 4000000
set_option linter.unusedVariables false
set_option linter.unusedSimpArgs false
attribute [local irreducible] prP gP gE gF AG ixW ldc ldg ldl stc stg scW mkW apW BB cl2 BY FT DG
variable {w0:World}
theorem KE {K:J2} (h:K [] [tI QK]):cl2 ⟨Tryz.prog,w0⟩ 102 DC.sg [] [] K:=by
 refine DC.cl2 ?_
 unfold DC.txt
 refine AY (fun i=>[iv i]) (fun i=>[tI (List.replicate i (-1))]) 3 (fun _=>True) rfl rfl trivial (fun R i hi hP hR=> ?_)
 simp only [AK,AQ,AN,AP,AS,AE,AI,AU,AL,AV,AT,AM,AR,AO,BF,BM,BL,BI,BK,BJ,BG,A7,A4,A5,A8,A6,A9]
 refine AJ (AW (fun hlt=> ?_) fun hge=> ?_)
 ·have hlt:i<3:=by omega
  refine FC rfl (by simp;omega) (AX (by omega) ?_)
  have:=hR hlt trivial
  rw [List.replicate_succ', ←FW] at this
  exact this
 ·have:i=3:=by omega
  subst this
  exact h
structure St (h:Hp):Prop where
 ol:h.BC.length=8
 wl:h.B9.length=8
 sl:h.sites.length≤6
 bl:h.buffer.length≤100
 of: ∀o∈h.BC,OF o
 ss: ∀s∈h.sites,(s.size:Int)≤1048576
 wf: ∀w∈h.B9,F64 w.target
 bf: ∀x∈h.buffer,F64 x
theorem St.fits {h:Hp} (s:St h):Fits h:=⟨by have:=s.ol;omega,fun o ho=>by have:=(s.of o ho).len;omega,by have:=s.wl;omega,by have:=s.bl;omega,by have:=s.sl;omega,s.ss⟩
def DQ (os:List AZ) (id:Int):List AZ:=if AB os id<0 then os else os.set (AB os id).toNat {ob os (AB os id).toNat with count:=w64 ((ob os (AB os id).toNat).count+1)}
theorem PG (os:List AZ) (id:Int):(DQ os id).length=os.length:=by unfold DQ;split <;> simp
theorem UJ {os:List AZ} {id:Int} (h: ∀o∈os,OF o): ∀o∈DQ os id,OF o:=by
 unfold DQ
 split
 ·exact h
 ·have hk:=BN (l:=os) (id:=id) (by omega)
  have ho:=h _ (HK (l:=os) (i:=(AB os id).toNat) (by omega))
  exact IG h ⟨ho.gen,ho.len,ho.fld⟩
theorem RI {os:List AZ} {b c d:List T} {id:Int} {K:J2} (hid:F64 id) (hol:os.length=8) (h:K [] [tR tO (DQ os id)]):cl2 ⟨Tryz.prog,w0⟩ 169 DE.sg [I id] [tR tO os,b,c,d] K:=by
 refine DE.cl2 ?_
 unfold DE.txt
 simp only [AK,AQ,AN,AP,AS,AE,AI,AU,AL,AV,AT,AM,AR,AO,BF,BM,BL,BI,BK,BJ,BG,A7,A4,A5,A8,A6,A9]
 refine DF hid (by omega) ?_
 simp only [AK,AQ,AN,AP,AS,AE,AI,AU,AL,AV,AT,AM,AR,AO,BF,BM,BL,BI,BK,BJ,BG,A7,A4,A5,A8,A6,A9]
 unfold DQ at h
 refine JT (AW (fun hs=> ?_) fun hs=> ?_)
 ·have hk:=BN (l:=os) (id:=id) (by omega)
  rw [if_neg (by omega)] at h
  obtain ⟨k,hkk⟩: ∃k,(AB os id).toNat=k:=⟨_,rfl⟩
  have hkI:AB os id=(k:Int):=by omega
  rw [hkk] at h
  rw [hkI]
  have hkl:k<os.length:=by omega
  rw [nL hkl]
  exact AH (by omega) (JA (i:=k) hkl (by decide) rfl (I5 (AH (by omega) (HD hkl h))))
 ·rw [if_pos (by omega)] at h;exact h
theorem WD {h:Hp} {id:Int} {K:J2} (st:St h) (hid:F64 id) (hk:K [] (trees {h with BC:=DQ h.BC id})):cl2 ⟨Tryz.prog,w0⟩ 158 GF.sg [I id] (trees h) K:=by
 refine GF.cl2 ?_
 unfold GF.txt
 refine LY st.fits ?_
 obtain ⟨os,ws,bf,ss⟩:=h
 have hol:os.length=8:=st.ol
 simp only [trees] at hk ⊢
 refine CP hid (by omega) ?_
 simp only [AK,AQ,AN,AP,AS,AE,AI,AU,AL,AV,AT,AM,AR,AO,BF,BM,BL,BI,BK,BJ,BG,A7,A4,A5,A8,A6,A9]
 unfold DQ at hk
 refine BV (JT (AW (fun hs=> ?_) fun hs=> ?_))
 ·have hkk:=BN (l:=os) (id:=id) (by omega)
  rw [if_neg (by omega)] at hk
  obtain ⟨k,hkk⟩: ∃k,(AB os id).toNat=k:=⟨_,rfl⟩
  have hkI:AB os id=(k:Int):=by omega
  rw [hkk] at hk
  rw [hkI]
  have hkl:k<os.length:=by omega
  rw [nL hkl]
  exact AH (by omega) (JA (i:=k) hkl (by decide) rfl (I5 (AH (by omega) (HD hkl hk))))
 ·rw [if_pos (by omega)] at hk;exact hk
theorem WC {h:Hp} {ids:List Int} {K:J2} (st:St h) (hi:ids.length≤100) (hid: ∀x∈ids,F64 x) (hK:K [] [tR tO (IA h.BC h.buffer ids).1,tR tW h.B9,tI (IA h.BC h.buffer ids).2.1,tS h.sites,tI (IA h.BC h.buffer ids).2.2]):cl2 ⟨Tryz.prog,w0⟩ 159 G9.sg [] [tR tO h.BC,tR tW h.B9,tI h.buffer,tS h.sites,tI ids] K:=by
 refine G9.cl2 ?_
 unfold G9.txt
 refine LY st.fits ?_
 obtain ⟨os,ws,buf,ss⟩:=h
 have hol:os.length=8:=st.ol
 have hof: ∀o∈os,OF o:=st.of
 have hb:buf.length≤100:=st.bl
 simp only [trees] at hK ⊢
 rw [List.nil_append]
 simp only [AK,AQ,AN,AP,AS,AE,AI,AU,AL,AV,AT,AM,AR,AO,BF,BM,BL,BI,BK,BJ,BG,A7,A4,A5,A8,A6,A9]
 refine FC (ON _) (by first | omega | (simp only [cnt,List.length_nil];omega)) ?_
 obtain ⟨R,hR0⟩: ∃R,IA os buf ids=R:=⟨_,rfl⟩
 have st:=LsI.start (buf:=buf) hol hof hid
 rw [hR0] at st hK
 refine DX (α:=List AZ×List Int×List Int×List Int×Nat) (fun q=>[iv (q.2.2.2.1.length-q.2.2.2.2),iv q.2.2.2.2]) (fun q=>[tI q.2.2.1,tI q.2.2.2.1,tR tO q.1,tR tW ws,tI q.2.1,tS ss]) (fun q=>mu q.2.2.1 (q.2.2.2.1.drop q.2.2.2.2)) (LsI R (buf.length+ids.length+36)) (os,buf,[],ids,0) rfl rfl st (fun Rr q hq hR=> ?_)
 obtain ⟨os,bf,freed,row,off⟩:=q
 have hq':LsI R (buf.length+ids.length+36) (os,bf,freed,row,off):=hq
 obtain ⟨ol,of,fr,ofl,td,sz,_⟩:=id hq'
 simp only at ol of fr ofl td sz
 have hmz:mu freed (row.drop off)=(row.length-off)+4*(9-freed.length):=by simp [mu]
 simp only [AK,AQ,AN,AP,AS,AE,AI,AU,AL,AV,AT,AM,AR,AO,BF,BM,BL,BI,BK,BJ,BG,A7,A4,A5,A8,A6,A9]
 simp only [A1]
 refine GD (B2 (B2 (NT (fun hlt=> ?_) fun hge=> ?_)))
 rotate_left
 ·refine EJ hge rfl (BO ?_)
  have:=hq'.stop (.inl (by
   have: ¬(((row.length-off:Nat):Int)>0):=hge
   omega))
  rw [this] at hK;exact hK
 have hlt':off<row.length:=by
  have:((row.length-off:Nat):Int)>0:=hlt
  omega
 refine FB (EE hlt rfl (AW (fun h8=> ?_) fun h8=> ?_))
 rotate_left
 ·have:=hq'.stop (.inr (by omega))
  rw [this] at hK;exact hK
 have h8':freed.length≤8:=by omega
 obtain ⟨hidf,_⟩:=hq'.step hlt' h8'
 refine AH (j:=0) (by omega) (qO hlt' (wV (by omega) (CP hidf (by omega) ?_)))
 have e1:off+AA (iv 1)*1=off+1:=by rw [A1]
 have e2:row.length-off-1=row.length-(off+1):=by omega
 simp only [A1,e2,Nat.mul_one,BF]
 have mu1:mu freed (row.drop (off+1))<mu freed (row.drop off):=by rw [drop_cons hlt',fO];omega
 refine AJ (AW (fun hs=>hR (os,bf,freed,row,off+1) (hq'.skip hlt' h8' hs) mu1) fun hs=> ?_)
 have hs':0≤AB os (gI row off):=by omega
 have hk:=BN hs'
 have n1:=hq'.NW hlt' h8' hs'
 have n2:=hq'.put hlt' h8' hs'
 have n3:=fun hc row' off'=>hq'.free hlt' h8' hs' hc (row':=row') (off':=off')
 have hobf:=of _ (HK (l:=os) (i:=(AB os (gI row off)).toNat) (by omega))
 generalize hgid:gI row off=id at*
 obtain ⟨k,hkk⟩: ∃k,(AB os id).toNat=k:=⟨_,rfl⟩
 have hkI:AB os id=(k:Int):=by omega
 rw [hkk] at hk n1 n2 n3 hobf
 rw [hkI]
 have hkl:k<os.length:=by omega
 rw [nL hkl]
 generalize ho:ob os k=o at*
 refine AH (by omega) (JA (i:=k) hkl (by decide) rfl (YH (AH (by omega) (HD hkl ?_))))
 generalize hcc:w64 (o.count-1)=c at*
 simp only [AK,AQ,AN,AP,AS,AE,AI,AU,AL,AV,AT,AM,AR,AO,BF,BM,BL,BI,BK,BJ,BG,A7,A4,A5,A8,A6,A9]
 have hl8:(os.set k {o with count:=c}).length=os.length:=List.length_set
 simp only [List.length_set]
 refine AH (by omega) (JA (v:=I c) (i:=k) hkl (by decide) rfl ?_)
 refine GD (AW (fun hc=> ?_) fun hc=> ?_)
 ·refine BV (AH (by omega) (JA (v:= .bool o.purple) (i:=k) hkl (by decide) rfl (BP ?_)))
  cases hp:o.purple with
  | false=>
    refine B3 (AH (by omega) (MR hkl (FC rfl (by omega) ?_)))
    have:=hR _ (n2 hc hp) (by simp only;exact mu1)
    simp only at this
    rw [←FW] at this
    simp only [AK,AQ,AN,AP,AS,AE,AI,AU,AL,AV,AT,AM,AR,AO,BF,BM,BL,BI,BK,BJ,BG,A7,A4,A5,A8,A6,A9]
    simp only [A1]
    exact this
  | true=>
    have:=hR _ (n1 hc hp) (by simp only;exact mu1)
    simp only [hp] at this
    refine BO ?_
    simp only [AK,AQ,AN,AP,AS,AE,AI,AU,AL,AV,AT,AM,AR,AO,BF,BM,BL,BI,BK,BJ,BG,A7,A4,A5,A8,A6,A9]
    simp only [A1]
    exact this
 ·refine FC rfl (by omega) ?_
  have hfl:o.field.length=3:=hobf.len
  refine DX (α:=Nat×List Int×Nat) (fun q=>[iv (q.2.1.length-q.2.2),iv q.2.2,I id,iv k,iv q.1]) (fun q=>[tI (freed++[id]),tI q.2.1,tR tO (os.set k {o with count:=c}),tR tW ws,tI bf,tS ss]) (fun q=>3-q.1) (fun q=>q.1≤3∧q.2.2≤q.2.1.length∧q.2.1.drop q.2.2=row.drop (off+1)++(o.field.take q.1).filter fun x=>decide (0≤x)) (0,row,off+1) rfl ?_ ⟨by omega,hlt',by simp⟩ (fun R2 q hq2 hR2=> ?_)
  ·simp only [FW]
  obtain ⟨i,rw',of'⟩:=q
  obtain ⟨hi3,hof',hdr⟩:=hq2
  simp only at hi3 hof' hdr
  have hrl:rw'.length-of'≤row.length-(off+1)+3:=by
   have e:=congrArg List.length hdr
   have:=List.length_filter_le (fun x=>decide (0≤x)) (o.field.take i)
   simp only [List.length_drop,List.length_append,List.length_take] at e this
   omega
  simp only [AK,AQ,AN,AP,AS,AE,AI,AU,AL,AV,AT,AM,AR,AO,BF,BM,BL,BI,BK,BJ,BG,A7,A4,A5,A8,A6,A9]
  simp only [List.length_set]
  refine AH (by omega) (R9 (i:=k) hkl (by decide) rfl ?_)
  simp only [A1,mV hkl,AE]
  refine AJ (AW (fun hlt=> ?_) fun hge=> ?_)
  ·have hlt:i<o.field.length:=by omega
   have hfx:=hobf.fld _ (EZ hlt)
   refine BV (AH (by omega) (R9 (i:=k) hkl (by decide) rfl ?_))
   have ed:(rw'.drop of').take (rw'.length-of')=rw'.drop of':=by rw [←List.length_drop,List.take_length]
   have ea:tI (rw'.drop of')++[T.c (I (gI o.field i))]=tI (rw'.drop of'++[gI o.field i]):=FW _ _
   simp only [A1,mV hkl,AE,QZ,Nat.mul_one,ed]
   refine AH hlt (rM hkl hlt ?_)
   simp only [A1]
   refine JT (AW (fun hp=> ?_) fun hp=> ?_)
   ·refine AH (by omega) (R9 (i:=k) hkl (by decide) rfl ?_)
    simp only [A1,mV hkl,AE]
    refine AH hlt (rM hkl hlt ?_)
    simp only [A1]
    refine FC rfl (by omega) ?_
    have:=hR2 (i+1,rw'.drop of'++[gI o.field i],0) ⟨by simp only;omega,by simp only;omega,by simp only [List.drop_zero];rw [hdr,List.take_succ_eq_append_getElem hlt,List.filter_append, ←List.append_assoc,GG hlt];congr 1;simp [hp]⟩ (by simp only;omega)
    refine AX (by omega) ?_
    rw [ea]
    simp only [AK,AQ,AN,AP,AS,AE,AI,AU,AL,AV,AT,AM,AR,AO,BF,BM,BL,BI,BK,BJ,BG,A7,A4,A5,A8,A6,A9]
    simp only [A1]
    exact this
   ·have:=hR2 (i+1,rw',of') ⟨by simp only;omega,hof',by simp only;rw [hdr,List.take_succ_eq_append_getElem hlt,List.filter_append, ←List.append_assoc,GG hlt];simp;omega⟩ (by simp only;omega)
    refine AX (by omega) ?_
    simp only [AK,AQ,AN,AP,AS,AE,AI,AU,AL,AV,AT,AM,AR,AO,BF,BM,BL,BI,BK,BJ,BG,A7,A4,A5,A8,A6,A9]
    simp only [A1]
    exact this
  ·have:i=o.field.length:=by omega
   subst this
   rw [List.take_length] at hdr
   refine V3 (by omega) ?_
   try simp only [AK,List.length_set]
   refine AH (by omega) ?_
   simp only [A1]
   refine wO hkl (KE ?_)
   refine AH (by omega) ?_
   simp only [A1]
   refine wN hkl (z:=CV o.gen) rfl ?_
   exact hR _ (n3 hc _ _ hdr hof') (by simp only;rw [hdr];simp only [mu,List.length_append,List.length_singleton] at mu1 ⊢;have:=List.length_filter_le (fun x=>decide (0≤x)) o.field;omega)
end Go.Proofs.YtnhicpkhkaihoaaGreat.P
