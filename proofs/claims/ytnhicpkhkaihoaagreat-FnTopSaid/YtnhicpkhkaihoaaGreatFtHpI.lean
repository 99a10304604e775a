/- A part of the proof. -/
import Derived.Test.YtnhicpkhkaihoaaGreatFtHpG
namespace Go.Proofs.YtnhicpkhkaihoaaGreat.P
open Go Go.Proofs.YtnhicpkhkaihoaaGreat Go.Proofs.YtnhicpkhkaihoaaGreat.Eng
set_option maxHeartbeats 4000000
set_option linter.unusedVariables false
set_option linter.unusedSimpArgs false
attribute [local irreducible] prP gP gE gF AV ixW ldc ldg ldl stc stg scW mkW apW BC cl2 BW F6 C2
variable {w0:World}
theorem Aq (a b c d e f g h:Value) (l:List Value):nx (a::b::c::d::e::f::g::h::l) 7=h:=rfl
theorem Bz (a b c d e f g h i:Value) (l:List Value):nx (a::b::c::d::e::f::g::h::i::l) 8=i:=rfl
theorem Cb (a b c d e f g h i j:Value) (l:List Value):nx (a::b::c::d::e::f::g::h::i::j::l) 9=j:=rfl
theorem uE (o:Wk):tv (nxT (tW o) 0)= .bool o.used:=rfl
theorem zM (o:Wk):tv (nxT (tW o) 1)=I o.target:=rfl
theorem nZ (o:A7):tv (nxT (tO o) 0)= .bool o.live:=rfl
theorem oV (o:A7):tv (nxT (tO o) 1)=I o.gen:=rfl
theorem s9 (o:A7):tv (nxT (tO o) 2)=I o.site:=rfl
theorem wG (o:A7):tv (nxT (tO o) 3)=I o.holds:=rfl
theorem uX (o:A7):tv (nxT (tO o) 4)=I o.roots:=rfl
theorem oN (o:A7):tv (nxT (tO o) 5)=I o.count:=rfl
theorem sF (o:A7):tv (nxT (tO o) 7)= .bool o.purple:=rfl
theorem bO {h:Hp} {K:J2} (hf:Fits h) (hn:VT h) (h1:DH h→K [.bool true] []) (h2: ¬DH h→K [.bool false] []):cl2 ⟨Tryz.prog,w0⟩ 21 IE.sg [] (trees h) K:=by
 have g1:=hf.ol;have g2:=hf.wl;have g3:=hf.sl;have g4:=hf.bl
 refine IE.cl2 ?_
 unfold IE.txt
 simp only [AI,AL,AH,AJ,AM,AE,AG,AR,AP,AN,AQ,AO,AS,AK,BD,BF,BI,BJ,BH,BG,BE,A1,AZ,AY,AX,A4,A5]
 refine CB (BM (BM (BM (IN (fun ho=> ?_) fun ho=> ?_))))
 rotate_left
 ·refine CL ho rfl (BM (BM (BM (O7 (TL rfl (BQ (h2 fun hk=>ho (by have:=hk.ol;omega))))))))
 refine CB (CJ ho rfl (BM (BM (BM (IN (fun hw=> ?_) fun hw=> ?_)))))
 rotate_left
 ·exact CL hw rfl (BQ (h2 fun hk=>hw (by have:=hk.wl;omega)))
 refine GN (CJ hw rfl (AT (fun h6=>h2 fun hk=>(by have:=hk.sites.len;omega)) fun h6=> ?_))
 have o8:h.BA.length=8:=by omega
 have w8:h.B7.length=8:=by omega
 refine A8 (fun i=>[iv i]) (fun _=>[]) h.BA.length (fun i=> ∀k,k<i→P6 h k) rfl rfl (fun k hk=>by omega) (fun R i hi hP hR=> ?_)
 simp only [AI,AL,AH,AJ,AM,AE,AG,AR,AP,AN,AQ,AO,AS,AK,BD,BF,BI,BJ,BH,BG,BE,A1,AZ,AY,AX,A4,A5]
 refine AW (AT (fun hlt=> ?_) fun hge=> ?_)
 ·have hi:i<h.BA.length:=by omega
  refine BS ?_
  have stepR:P6 h i→R [iv (i+1)] []:=fun hk=>hR hi fun k hki=>(Nat.lt_succ_iff_lt_or_eq.1 hki).elim (hP k) fun he=>he ▸ hk
  have no: ¬P6 h i→K [.bool false] []:=fun hk=>h2 fun hh=>hk (hh.obj i (by omega))
  clear hR h1 h2
  have hfo:=gK hf.of i
  have hnum:=hn.ob i
  obtain ⟨⟨n1,n2⟩,⟨n3,n4⟩,⟨n7,n8⟩,⟨n9,n10⟩,⟨n5,n6⟩,_⟩:=hnum
  have hib:=sU hf.ol hf.of i
  refine AU hi (OJ hi ?_)
  rw [IK hi,AE]
  refine DO (CP (BM (BM (BM (IN (fun hg=> ?_) fun hg=> ?_)))))
  rotate_left
  ·exact CL hg rfl (BQ (no fun hk=>hg hk.gen))
  refine CB (CJ hg rfl (AT (fun h3=>no fun hk=>by have:=hk.len;omega) fun h3=> ?_))
  have hl3:(ob h.BA i).field.length=3:=by omega
  have hg:0≤(ob h.BA i).gen∧(ob h.BA i).gen≤999:=Decidable.not_not.1 hg
  simp only [nZ,oV,s9,wG,uX,oN,sF]
  cases hv:(ob h.BA i).live with
  | false=>
    have dd:P6 h i→(ob h.BA i).site=0∧(ob h.BA i).holds=0∧(ob h.BA i).roots=0∧(ob h.BA i).count=0∧(ob h.BA i).purple=false:=fun hk=>hk.dead hv
    refine BP (BQ ?_)
    cases hpu:(ob h.BA i).purple
    ·repeat' (first | refine BM ?_ | refine O7 ?_ | refine CL (by first | with_reducible assumption | omega) rfl ?_ | refine CJ (by first | with_reducible assumption | omega) rfl ?_ | refine TL rfl ?_ | refine BQ ?_ | refine BT ?_ | refine CB ?_ | refine zH rfl rfl (fun _=> ?_) (fun _=> ?_) | refine IN (fun _=> ?_) (fun _=> ?_) | simp only [AI,AL,AH,AJ,AM,AE,AG,AR,AP,AN,AQ,AO,AS,AK,BD,BF,BI,BJ,BH,BG,BE,A1,AZ,AY,AX,A4,A5])
     all_goals try exact no fun hk=>by have:=dd hk;omega
     have mk:(∀j,j<3→gI (ob h.BA i).field j= -1)→P6 h i:=fun ha=>⟨hg,hl3,fun j hj hne=>absurd (ha j hj) hne,fun _=>⟨by omega,by omega,by omega,by omega,hpu⟩,fun hh=>by rw [hv] at hh;cases hh⟩
     refine A8 (fun j=>[iv i,iv j, .bool false,I (ob h.BA i).gen,I (ob h.BA i).site,I (ob h.BA i).holds,I (ob h.BA i).roots,I (ob h.BA i).count,iv (AA (iv i)*8+6), .bool false]) (fun _=>[]) 3 (fun j=> ∀k,k<j→gI (ob h.BA i).field k= -1) rfl rfl (fun k hk=>by omega) (fun R2 j hj hP2 hR2=> ?_)
     simp only [AI,AL,AH,AJ,AM,AE,AG,AR,AP,AN,AQ,AO,AS,AK,BD,BF,BI,BJ,BH,BG,BE,A1,AZ,AY,AX,A4,A5]
     simp only [BE,Aq,Bz,Cb]
     rw [A9 (AA (iv i)*8+6),IK hi,AE,hl3]
     refine AW (AT (fun hlt=> ?_) fun hge=> ?_)
     ·have hlt:j<3:=by omega
      refine AU hlt (N8 hi (by omega) (CB (AT (fun hne=> ?_) fun hne=> ?_)))
      ·exact no fun hk=>by have:=(hk.lead j hlt hne).1;rw [hv] at this;cases this
      ·refine A6 (by omega) (hR2 hlt fun k hk=> ?_)
       rcases Nat.lt_succ_iff_lt_or_eq.1 hk with h4 | rfl
       ·exact hP2 k h4
       ·omega
     ·have hj3:j=3:=by omega
      subst hj3
      exact A6 (by omega) (stepR (mk hP2))
    ·repeat' (first | refine BM ?_ | refine O7 ?_ | refine CL (by first | with_reducible assumption | omega) rfl ?_ | refine CJ (by first | with_reducible assumption | omega) rfl ?_ | refine TL rfl ?_ | refine BQ ?_ | refine CB ?_ | refine zH rfl rfl (fun _=> ?_) (fun _=> ?_) | refine IN (fun _=> ?_) (fun _=> ?_))
     all_goals exact no fun hk=>by have:=(dd hk).2.2.2.2;rw [hpu] at this;cases this
  | true=>
    have ll:=fun hk:P6 h i=>hk.lv hv
    refine BP (BT ?_)
    by_cases hz:1≤(ob h.BA i).gen∧(0≤(ob h.BA i).site∧(ob h.BA i).site≤(h.sites.length:Int)-1)∧(0≤(ob h.BA i).holds∧(ob h.BA i).holds≤20)∧(0≤(ob h.BA i).roots∧(ob h.BA i).roots≤20)
    ·obtain ⟨z1,z2,z3,z4⟩:=hz
     repeat' (first | refine DO ?_ | refine BM ?_ | refine GA (by first | with_reducible assumption | omega) ?_ | refine CJ (by first | with_reducible assumption | omega) rfl ?_ | refine C7 (by first | with_reducible assumption | omega) ?_ | refine AW ?_ | refine CP ?_ | refine DZ ⟨by omega,by omega⟩ ?_ | simp only [AI,AL,AH,AJ,AM,AE,AG,AR,AP,AN,AQ,AO,AS,AK,BD,BF,BI,BJ,BH,BG,BE,A1,AZ,AY,AX,A4,A5])
     all_goals try (exfalso;omega)
     refine A8 (fun j=>[iv i,iv j, .bool true,I (ob h.BA i).gen,I (ob h.BA i).site,I (ob h.BA i).holds,I (ob h.BA i).roots,I (ob h.BA i).count,iv (AA (iv i)*8+6), .bool (ob h.BA i).purple]) (fun _=>[]) 3 (fun j=> ∀k,k<j→gI (ob h.BA i).field k≠ -1→(ob h.BA i).live=true∧0≤AB h.BA (gI (ob h.BA i).field k)) rfl rfl (fun k hk=>by omega) (fun R2 j hj hP2 hR2=> ?_)
     simp only [AI,AL,AH,AJ,AM,AE,AG,AR,AP,AN,AQ,AO,AS,AK,BD,BF,BI,BJ,BH,BG,BE,A1,AZ,AY,AX,A4,A5]
     simp only [BE,Aq,Bz,Cb]
     rw [A9 (AA (iv i)*8+6),IK hi,AE,hl3]
     refine AW (AT (fun hlt=> ?_) fun hge=> ?_)
     ·have hlt:j<3:=by omega
      refine AU hlt (N8 hi (by omega) ?_)
      repeat' (first | refine C6 (hn.fld i j) (by omega) ?_ | refine BM ?_ | refine HV (by first | with_reducible assumption | omega) ?_ | refine ME (by first | with_reducible assumption | omega) ?_ | refine CL (by first | with_reducible assumption | omega) rfl ?_ | refine CJ (by first | with_reducible assumption | omega) rfl ?_ | refine BT ?_ | refine AW ?_ | refine CB ?_ | refine A6 (by omega) ?_ | refine AU (by omega) ?_ | refine N8 (by omega) (by omega) ?_ | refine AT (fun _=> ?_) (fun _=> ?_) | refine IQ (fun _=> ?_) (fun _=> ?_))
      all_goals first
       | (refine hR2 hlt fun k hk hne=> ?_
          rcases Nat.lt_succ_iff_lt_or_eq.1 hk with h4 | rfl
          ·exact hP2 k h4 hne
          ·first
           | exact absurd hne (by assumption)
           | exact ⟨hv,by omega⟩)
       | (refine no fun hk=> ?_
          have h4:=hk.lead j hlt (by assumption)
          omega)
     ·have hj3:j=3:=by omega
      subst hj3
      have fin:(ob h.BA i).count=(ob h.BA i).holds+(ob h.BA i).roots+inE h.BA i→1≤(ob h.BA i).count→(ob h.BA i).purple=decide (CU i (ob h.BA i).gen∈h.buffer)→P6 h i:=fun e f hp=>⟨hg,hl3,hP2,fun hh=>(by rw [hv] at hh;cases hh),fun _=>⟨z1,z2,z3,z4,e,f,hp⟩⟩
      refine CW ⟨by omega,by omega⟩ (RJ ⟨by omega,by omega⟩ (by omega) hf.of (CW ⟨by omega,by omega⟩ ?_))
      repeat' (first | refine LM ?_ | refine QP (by omega) ?_ | refine BM ?_ | refine O7 ?_ | refine JZ (by first | with_reducible assumption | omega) ?_ | refine GA (by first | with_reducible assumption | omega) ?_ | refine CL (by first | with_reducible assumption | omega) rfl ?_ | refine CJ (by first | with_reducible assumption | omega) rfl ?_ | refine TL rfl ?_ | refine BQ ?_ | refine AW ?_ | refine CB ?_ | refine CP ?_ | refine A6 (by omega) ?_ | refine AT (fun _=> ?_) (fun _=> ?_) | refine IN (fun _=> ?_) (fun _=> ?_))
      all_goals first
       | (refine no fun hk=> ?_
          have h4:=ll hk
          omega)
       | exact stepR (fin (by omega) (by omega) (Decidable.not_not.1 (by assumption)))
       | exact no fun hk=>absurd (ll hk).2.2.2.2.2.2 (by assumption)
    ·repeat' (first | refine DO ?_ | refine BM ?_ | refine O7 ?_ | refine JZ (by first | with_reducible assumption | omega) ?_ | refine GA (by first | with_reducible assumption | omega) ?_ | refine CL (by first | with_reducible assumption | omega) rfl ?_ | refine CJ (by first | with_reducible assumption | omega) rfl ?_ | refine TL rfl ?_ | refine BQ ?_ | refine CX (by first | with_reducible assumption | omega) ?_ | refine AW ?_ | refine CP ?_ | refine DZ ⟨by omega,by omega⟩ ?_ | refine IN (fun _=> ?_) (fun _=> ?_))
     all_goals first
      | (refine no fun hk=>hz ?_
         have:=ll hk
         exact ⟨this.1,this.2.1,this.2.2.1,this.2.2.2.1⟩)
      | (exfalso;omega)
 have hi8:i=8:=by omega
 subst hi8
 refine A8 (fun i=>[iv i]) (fun _=>[]) h.B7.length (fun i=> ∀k,k<i→((wk h.B7 k).used=false→(wk h.B7 k).target=0)∧((wk h.B7 k).used=true→8≤(wk h.B7 k).target∧(wk h.B7 k).target≤7999)) rfl rfl (fun k hk=>by omega) (fun R2 i hi hP2 hR2=> ?_)
 simp only [AI,AL,AH,AJ,AM,AE,AG,AR,AP,AN,AQ,AO,AS,AK,BD,BF,BI,BJ,BH,BG,BE,A1,AZ,AY,AX,A4,A5]
 refine AW (AT (fun hlt=> ?_) fun hge=> ?_)
 ·have hlt:i<h.B7.length:=by omega
  refine AU hlt (Z1 hlt ?_)
  have stepR:=fun hk=>hR2 hlt fun k hki=>(Nat.lt_succ_iff_lt_or_eq.1 hki).elim (hP2 k) fun he=>he ▸ hk
  simp only [uE,zM]
  cases hu:(wk h.B7 i).used with
  | false=>
    refine BP ?_
    repeat' (first | refine BM ?_ | refine RS ?_ | refine RZ (by first | with_reducible assumption | omega) ?_ | refine WK (by first | with_reducible assumption | omega) ?_ | refine QC ?_ | refine NM ?_ | refine JZ (by first | with_reducible assumption | omega) ?_ | refine GA (by first | with_reducible assumption | omega) ?_ | refine CL (by first | with_reducible assumption | omega) rfl ?_ | refine CJ (by first | with_reducible assumption | omega) rfl ?_ | refine TL rfl ?_ | refine UH rfl ?_ | refine BQ ?_ | refine BT ?_ | refine CB ?_ | refine A6 (by omega) ?_ | refine lZ (fun _=> ?_) (fun _=> ?_))
    all_goals first
     | (refine stepR ⟨fun _=> ?_,fun hh=>(by rw [hu] at hh;cases hh)⟩
        first
         | omega
         | (simp_all;done))
     | (refine h2 fun hk=> ?_
        have h4:=(hk.weak i (by omega)).1 hu
        first
         | omega
         | (simp_all;done))
  | true=>
    refine BP ?_
    repeat' (first | refine DO ?_ | refine BM ?_ | refine RS ?_ | refine YZ ?_ | refine QC ?_ | refine M7 ?_ | refine NM ?_ | refine TL rfl ?_ | refine UH rfl ?_ | refine CP ?_ | refine A6 (by omega) ?_ | refine AT (fun _=> ?_) (fun _=> ?_))
    all_goals first
     | (refine stepR ⟨fun hh=>(by rw [hu] at hh;cases hh),fun _=> ?_⟩
        first
         | omega
         | (simp_all;done))
     | (refine h2 fun hk=> ?_
        have h4:=(hk.weak i (by omega)).2 hu
        first
         | omega
         | (simp_all;done))
 have hi8:i=8:=by omega
 subst hi8
 refine A8 (fun i=>[iv i]) (fun _=>[]) h.buffer.length (fun i=> ∀k,k<i→0≤AB h.BA (gI h.buffer k)∧gI h.buffer k∉h.buffer.take k) rfl rfl (fun k hk=>by omega) (fun R3 i hi hP3 hR3=> ?_)
 simp only [AI,AL,AH,AJ,AM,AE,AG,AR,AP,AN,AQ,AO,AS,AK,BD,BF,BI,BJ,BH,BG,BE,A1,AZ,AY,AX,A4,A5]
 refine AW (AT (fun hlt=> ?_) fun hge=> ?_)
 ·have hlt:i<h.buffer.length:=by omega
  have e:IP (tI h.buffer) [] (AA (UT (two (iv 0) (iv i)))*1) (AA (VM (two (iv 0) (iv i)))*1)=tI (h.buffer.take i):=by
   have h1:AA (UT (two (iv 0) (iv i)))=0:=rfl
   have h2:AA (VM (two (iv 0) (iv i)))=i:=A9 i
   rw [h1,h2];simp [IP,node,tI,List.map_take]
  refine AU hlt (ldI hlt (C6 (hn.bf i) (by omega) (AW (BM (BM (BM (IN (fun hb=> ?_) fun hb=> ?_)))))))
  ·refine aU (by omega) (BM (BM (BM (GA hb (AU hlt (GA hb (ldI hlt (GA hb ?_))))))))
   rw [e]
   refine QP (by simp;omega) (CJ hb rfl (AT (fun hm=>h2 fun hk=>(hk.buf i hlt).2 hm) fun hm=> ?_))
   refine A6 (by omega) (hR3 hlt fun k hk=> ?_)
   rcases Nat.lt_succ_iff_lt_or_eq.1 hk with h3 | rfl
   ·exact hP3 k h3
   ·exact ⟨by omega,hm⟩
  ·repeat' (first | refine BM ?_ | refine JZ (by first | with_reducible assumption | omega) ?_ | refine CL (by first | with_reducible assumption | omega) rfl ?_ | refine BQ ?_)
   all_goals exact h2 fun hk=>by have:=(hk.buf i hlt).1;omega
 have hib:i=h.buffer.length:=by omega
 subst hib
 refine A8 (fun i=>[iv i]) (fun _=>[]) h.sites.length (fun i=> ∀k,k<i→(1≤((gS h.sites k).size:Int)∧((gS h.sites k).size:Int)≤8)∧gS h.sites k∉h.sites.take k) rfl rfl (fun k hk=>by omega) (fun R4 i hi hP4 hR4=> ?_)
 simp only [AI,AL,AH,AJ,AM,AE,AG,AR,AP,AN,AQ,AO,AS,AK,BD,BF,BI,BJ,BH,BG,BE,A1,AZ,AY,AX,A4,A5]
 refine AW (AT (fun hlt=> ?_) fun hge=> ?_)
 ·have hlt:i<h.sites.length:=by omega
  refine AU hlt (ldS hlt (DX (DO (CP (AT (fun hb=>h2 fun hk=>hb (hk.sites.sz i hlt)) fun hb=> ?_)))))
  refine A8 (fun j=>[iv i,iv j]) (fun _=>[]) i (fun j=>gS h.sites i∉h.sites.take j) rfl rfl (by simp) (fun R5 j hj hP5 hR5=> ?_)
  simp only [AI,AL,AH,AJ,AM,AE,AG,AR,AP,AN,AQ,AO,AS,AK,BD,BF,BI,BJ,BH,BG,BE,A1,AZ,AY,AX,A4,A5]
  refine AW (AT (fun hlj=> ?_) fun hgj=> ?_)
  ·have hlj:j<i:=by omega
   refine AU (by omega) (ldS (by omega) (AU hlt (ldS hlt (IS (AT (fun he=>h2 fun hk=>hk.sites.one i hlt ?_) fun he=> ?_)))))
   ·rw [←he, ←PT (by omega)]
    exact List.mem_take_iff_getElem.2 ⟨j,by omega,rfl⟩
   ·exact A6 (by omega) (hR5 hlj (mI (by omega) hP5 he))
  ·have:j=i:=by omega
   subst this
   refine A6 (by omega) (hR4 hlt fun k hk=> ?_)
   rcases Nat.lt_succ_iff_lt_or_eq.1 hk with h3 | rfl
   ·exact hP4 k h3
   ·exact ⟨Decidable.not_not.1 hb,hP5⟩
 ·have:i=h.sites.length:=by omega
  subst this
  exact h1 ⟨o8,w8,⟨by omega,fun i hi=>(hP4 i hi).1,fun i hi=>(hP4 i hi).2⟩,fun i hi=>hP i hi,fun i hi=>hP2 i hi,fun i hi=>hP3 i hi⟩
end Go.Proofs.YtnhicpkhkaihoaaGreat.P
namespace Go.Proofs.YtnhicpkhkaihoaaGreat.P
open Go Go.Proofs.YtnhicpkhkaihoaaGreat Go.Proofs.YtnhicpkhkaihoaaGreat.Eng
set_option linter.unusedVariables false
set_option maxHeartbeats 4000000
set_option linter.unusedVariables false
set_option linter.unusedSimpArgs false
attribute [local irreducible] prP gP gE gF AV ixW ldc ldg ldl stc stg scW mkW apW BC cl2 BW F6 C2
variable {w0:World}
theorem KY {K:J2} (h:K [] [tI Q4]):cl2 ⟨Tryz.prog,w0⟩ 102 DP.sg [] [] K:=by
 refine DP.cl2 ?_
 unfold DP.txt
 refine A8 (fun i=>[iv i]) (fun i=>[tI (List.replicate i (-1))]) 3 (fun _=>True) rfl rfl trivial (fun R i hi hP hR=> ?_)
 simp only [AI,AL,AH,AJ,AM,AE,AG,AR,AP,AN,AQ,AO,AS,AK,BD,BF,BI,BJ,BH,BG,BE,A1,AZ,AY,AX,A4,A5]
 refine AW (AT (fun hlt=> ?_) fun hge=> ?_)
 ·have hlt:i<3:=by omega
  refine EB rfl (by simp;omega) (A6 (by omega) ?_)
  have:=hR hlt trivial
  rw [List.replicate_succ', ←FE] at this
  exact this
 ·have:i=3:=by omega
  subst this
  exact h
structure St (h:Hp):Prop where
 ol:h.BA.length=8
 wl:h.B7.length=8
 sl:h.sites.length≤6
 bl:h.buffer.length≤100
 of: ∀o∈h.BA,OF o
 ss: ∀s∈h.sites,(s.size:Int)≤1048576
 wf: ∀w∈h.B7,F64 w.target
 bf: ∀x∈h.buffer,F64 x
theorem St.fits {h:Hp} (s:St h):Fits h:=⟨by have:=s.ol;omega,fun o ho=>by have:=(s.of o ho).len;omega,by have:=s.wl;omega,by have:=s.bl;omega,by have:=s.sl;omega,s.ss⟩
def D8 (os:List A7) (id:Int):List A7:=if AB os id<0 then os else os.set (AB os id).toNat {ob os (AB os id).toNat with count:=w64 ((ob os (AB os id).toNat).count+1)}
theorem QE (os:List A7) (id:Int):(D8 os id).length=os.length:=by unfold D8;split <;> simp
theorem VZ {os:List A7} {id:Int} (h: ∀o∈os,OF o): ∀o∈D8 os id,OF o:=by
 unfold D8
 split
 ·exact h
 ·have hk:=BU (l:=os) (id:=id) (by omega)
  have ho:=h _ (HY (l:=os) (i:=(AB os id).toNat) (by omega))
  exact IT h ⟨ho.gen,ho.len,ho.fld⟩
theorem RV {os:List A7} {b c d:List T} {id:Int} {K:J2} (hid:F64 id) (hol:os.length=8) (h:K [] [tR tO (D8 os id)]):cl2 ⟨Tryz.prog,w0⟩ 169 DR.sg [I id] [tR tO os,b,c,d] K:=by
 refine DR.cl2 ?_
 unfold DR.txt
 simp only [AI,AL,AH,AJ,AM,AE,AG,AR,AP,AN,AQ,AO,AS,AK,BD,BF,BI,BJ,BH,BG,BE,A1,AZ,AY,AX,A4,A5]
 refine C5 hid (by omega) ?_
 simp only [AI,AL,AH,AJ,AM,AE,AG,AR,AP,AN,AQ,AO,AS,AK,BD,BF,BI,BJ,BH,BG,BE,A1,AZ,AY,AX,A4,A5]
 unfold D8 at h
 refine I4 (AT (fun hs=> ?_) fun hs=> ?_)
 ·have hk:=BU (l:=os) (id:=id) (by omega)
  rw [if_neg (by omega)] at h
  obtain ⟨k,hkk⟩: ∃k,(AB os id).toNat=k:=⟨_,rfl⟩
  have hkI:AB os id=(k:Int):=by omega
  rw [hkk] at h
  rw [hkI]
  have hkl:k<os.length:=by omega
  rw [oY hkl]
  exact AU (by omega) (JX (i:=k) hkl (by decide) rfl (FU (AU (by omega) (IY hkl h))))
 ·rw [if_pos (by omega)] at h;exact h
theorem XG {h:Hp} {id:Int} {K:J2} (st:St h) (hid:F64 id) (hk:K [] (trees {h with BA:=D8 h.BA id})):cl2 ⟨Tryz.prog,w0⟩ 158 G6.sg [I id] (trees h) K:=by
 refine G6.cl2 ?_
 unfold G6.txt
 refine MT st.fits ?_
 obtain ⟨os,ws,bf,ss⟩:=h
 have hol:os.length=8:=st.ol
 simp only [trees] at hk ⊢
 refine C6 hid (by omega) ?_
 simp only [AI,AL,AH,AJ,AM,AE,AG,AR,AP,AN,AQ,AO,AS,AK,BD,BF,BI,BJ,BH,BG,BE,A1,AZ,AY,AX,A4,A5]
 unfold D8 at hk
 refine BS (I4 (AT (fun hs=> ?_) fun hs=> ?_))
 ·have hkk:=BU (l:=os) (id:=id) (by omega)
  rw [if_neg (by omega)] at hk
  obtain ⟨k,hkk⟩: ∃k,(AB os id).toNat=k:=⟨_,rfl⟩
  have hkI:AB os id=(k:Int):=by omega
  rw [hkk] at hk
  rw [hkI]
  have hkl:k<os.length:=by omega
  rw [oY hkl]
  exact AU (by omega) (JX (i:=k) hkl (by decide) rfl (FU (AU (by omega) (IY hkl hk))))
 ·rw [if_pos (by omega)] at hk;exact hk
theorem XB {h:Hp} {ids:List Int} {K:J2} (st:St h) (hi:ids.length≤100) (hid: ∀x∈ids,F64 x) (hK:K [] [tR tO (H5 h.BA h.buffer ids).1,tR tW h.B7,tI (H5 h.BA h.buffer ids).2.1,tS h.sites,tI (H5 h.BA h.buffer ids).2.2]):cl2 ⟨Tryz.prog,w0⟩ 159 HT.sg [] [tR tO h.BA,tR tW h.B7,tI h.buffer,tS h.sites,tI ids] K:=by
 refine HT.cl2 ?_
 unfold HT.txt
 refine MT st.fits ?_
 obtain ⟨os,ws,buf,ss⟩:=h
 have hol:os.length=8:=st.ol
 have hof: ∀o∈os,OF o:=st.of
 have hb:buf.length≤100:=st.bl
 simp only [trees] at hK ⊢
 rw [List.nil_append]
 simp only [AI,AL,AH,AJ,AM,AE,AG,AR,AP,AN,AQ,AO,AS,AK,BD,BF,BI,BJ,BH,BG,BE,A1,AZ,AY,AX,A4,A5]
 refine EB (O1 _) (by first | omega | (simp only [cnt,List.length_nil];omega)) ?_
 obtain ⟨R,hR0⟩: ∃R,H5 os buf ids=R:=⟨_,rfl⟩
 have st:=LsI.start (buf:=buf) hol hof hid
 rw [hR0] at st hK
 refine DK (α:=List A7×List Int×List Int×List Int×Nat) (fun q=>[iv (q.2.2.2.1.length-q.2.2.2.2),iv q.2.2.2.2]) (fun q=>[tI q.2.2.1,tI q.2.2.2.1,tR tO q.1,tR tW ws,tI q.2.1,tS ss]) (fun q=>mu q.2.2.1 (q.2.2.2.1.drop q.2.2.2.2)) (LsI R (buf.length+ids.length+36)) (os,buf,[],ids,0) rfl rfl st (fun Rr q hq hR=> ?_)
 obtain ⟨os,bf,freed,row,off⟩:=q
 have hq':LsI R (buf.length+ids.length+36) (os,bf,freed,row,off):=hq
 obtain ⟨ol,of,fr,ofl,td,sz,_⟩:=id hq'
 simp only at ol of fr ofl td sz
 have hmz:mu freed (row.drop off)=(row.length-off)+4*(9-freed.length):=by simp [mu]
 simp only [AI,AL,AH,AJ,AM,AE,AG,AR,AP,AN,AQ,AO,AS,AK,BD,BF,BI,BJ,BH,BG,BE,A1,AZ,AY,AX,A4,A5]
 simp only [A9]
 refine GN (BM (BM (IQ (fun hlt=> ?_) fun hge=> ?_)))
 rotate_left
 ·refine CJ hge rfl (BT ?_)
  have:=hq'.stop (.inl (by
   have: ¬(((row.length-off:Nat):Int)>0):=hge
   omega))
  rw [this] at hK;exact hK
 have hlt':off<row.length:=by
  have:((row.length-off:Nat):Int)>0:=hlt
  omega
 refine EA (CL hlt rfl (AT (fun h8=> ?_) fun h8=> ?_))
 rotate_left
 ·have:=hq'.stop (.inr (by omega))
  rw [this] at hK;exact hK
 have h8':freed.length≤8:=by omega
 obtain ⟨hidf,_⟩:=hq'.step hlt' h8'
 refine AU (j:=0) (by omega) (uH hlt' (zQ (by omega) (C6 hidf (by omega) ?_)))
 have e1:off+AA (iv 1)*1=off+1:=by rw [A9]
 have e2:row.length-off-1=row.length-(off+1):=by omega
 simp only [A9,e2,Nat.mul_one,BD]
 have mu1:mu freed (row.drop (off+1))<mu freed (row.drop off):=by rw [drop_cons hlt',dU];omega
 refine AW (AT (fun hs=>hR (os,bf,freed,row,off+1) (hq'.skip hlt' h8' hs) mu1) fun hs=> ?_)
 have hs':0≤AB os (gI row off):=by omega
 have hk:=BU hs'
 have n1:=hq'.OH hlt' h8' hs'
 have n2:=hq'.put hlt' h8' hs'
 have n3:=fun hc row' off'=>hq'.free hlt' h8' hs' hc (row':=row') (off':=off')
 have hobf:=of _ (HY (l:=os) (i:=(AB os (gI row off)).toNat) (by omega))
 generalize hgid:gI row off=id at*
 obtain ⟨k,hkk⟩: ∃k,(AB os id).toNat=k:=⟨_,rfl⟩
 have hkI:AB os id=(k:Int):=by omega
 rw [hkk] at hk n1 n2 n3 hobf
 rw [hkI]
 have hkl:k<os.length:=by omega
 rw [oY hkl]
 generalize ho:ob os k=o at*
 refine AU (by omega) (JX (i:=k) hkl (by decide) rfl (Z6 (AU (by omega) (IY hkl ?_))))
 generalize hcc:w64 (o.count-1)=c at*
 simp only [AI,AL,AH,AJ,AM,AE,AG,AR,AP,AN,AQ,AO,AS,AK,BD,BF,BI,BJ,BH,BG,BE,A1,AZ,AY,AX,A4,A5]
 have hl8:(os.set k {o with count:=c}).length=os.length:=List.length_set
 simp only [List.length_set]
 refine AU (by omega) (JX (v:=I c) (i:=k) hkl (by decide) rfl ?_)
 refine GN (AT (fun hc=> ?_) fun hc=> ?_)
 ·refine BS (AU (by omega) (JX (v:= .bool o.purple) (i:=k) hkl (by decide) rfl (BP ?_)))
  cases hp:o.purple with
  | false=>
    refine BQ (AU (by omega) (Q1 hkl (EB rfl (by omega) ?_)))
    have:=hR _ (n2 hc hp) (by simp only;exact mu1)
    simp only at this
    rw [←FE] at this
    simp only [AI,AL,AH,AJ,AM,AE,AG,AR,AP,AN,AQ,AO,AS,AK,BD,BF,BI,BJ,BH,BG,BE,A1,AZ,AY,AX,A4,A5]
    simp only [A9]
    exact this
  | true=>
    have:=hR _ (n1 hc hp) (by simp only;exact mu1)
    simp only [hp] at this
    refine BT ?_
    simp only [AI,AL,AH,AJ,AM,AE,AG,AR,AP,AN,AQ,AO,AS,AK,BD,BF,BI,BJ,BH,BG,BE,A1,AZ,AY,AX,A4,A5]
    simp only [A9]
    exact this
 ·refine EB rfl (by omega) ?_
  have hfl:o.field.length=3:=hobf.len
  refine DK (α:=Nat×List Int×Nat) (fun q=>[iv (q.2.1.length-q.2.2),iv q.2.2,I id,iv k,iv q.1]) (fun q=>[tI (freed++[id]),tI q.2.1,tR tO (os.set k {o with count:=c}),tR tW ws,tI bf,tS ss]) (fun q=>3-q.1) (fun q=>q.1≤3∧q.2.2≤q.2.1.length∧q.2.1.drop q.2.2=row.drop (off+1)++(o.field.take q.1).filter fun x=>decide (0≤x)) (0,row,off+1) rfl ?_ ⟨by omega,hlt',by simp⟩ (fun R2 q hq2 hR2=> ?_)
  ·simp only [FE]
  obtain ⟨i,rw',of'⟩:=q
  obtain ⟨hi3,hof',hdr⟩:=hq2
  simp only at hi3 hof' hdr
  have hrl:rw'.length-of'≤row.length-(off+1)+3:=by
   have e:=congrArg List.length hdr
   have:=List.length_filter_le (fun x=>decide (0≤x)) (o.field.take i)
   simp only [List.length_drop,List.length_append,List.length_take] at e this
   omega
  simp only [AI,AL,AH,AJ,AM,AE,AG,AR,AP,AN,AQ,AO,AS,AK,BD,BF,BI,BJ,BH,BG,BE,A1,AZ,AY,AX,A4,A5]
  simp only [List.length_set]
  refine AU (by omega) (YJ (i:=k) hkl (by decide) rfl ?_)
  simp only [A9,nF hkl,AE]
  refine AW (AT (fun hlt=> ?_) fun hge=> ?_)
  ·have hlt:i<o.field.length:=by omega
   have hfx:=hobf.fld _ (ER hlt)
   refine BS (AU (by omega) (YJ (i:=k) hkl (by decide) rfl ?_))
   have ed:(rw'.drop of').take (rw'.length-of')=rw'.drop of':=by rw [←List.length_drop,List.take_length]
   have ea:tI (rw'.drop of')++[T.c (I (gI o.field i))]=tI (rw'.drop of'++[gI o.field i]):=FE _ _
   simp only [A9,nF hkl,AE,SP,Nat.mul_one,ed]
   refine AU hlt (wN hkl hlt ?_)
   simp only [A9]
   refine I4 (AT (fun hp=> ?_) fun hp=> ?_)
   ·refine AU (by omega) (YJ (i:=k) hkl (by decide) rfl ?_)
    simp only [A9,nF hkl,AE]
    refine AU hlt (wN hkl hlt ?_)
    simp only [A9]
    refine EB rfl (by omega) ?_
    have:=hR2 (i+1,rw'.drop of'++[gI o.field i],0) ⟨by simp only;omega,by simp only;omega,by simp only [List.drop_zero];rw [hdr,List.take_succ_eq_append_getElem hlt,List.filter_append, ←List.append_assoc,G3 hlt];congr 1;simp [hp]⟩ (by simp only;omega)
    refine A6 (by omega) ?_
    rw [ea]
    simp only [AI,AL,AH,AJ,AM,AE,AG,AR,AP,AN,AQ,AO,AS,AK,BD,BF,BI,BJ,BH,BG,BE,A1,AZ,AY,AX,A4,A5]
    simp only [A9]
    exact this
   ·have:=hR2 (i+1,rw',of') ⟨by simp only;omega,hof',by simp only;rw [hdr,List.take_succ_eq_append_getElem hlt,List.filter_append, ←List.append_assoc,G3 hlt];simp;omega⟩ (by simp only;omega)
    refine A6 (by omega) ?_
    simp only [AI,AL,AH,AJ,AM,AE,AG,AR,AP,AN,AQ,AO,AS,AK,BD,BF,BI,BJ,BH,BG,BE,A1,AZ,AY,AX,A4,A5]
    simp only [A9]
    exact this
  ·have:i=o.field.length:=by omega
   subst this
   rw [List.take_length] at hdr
   refine WM (by omega) ?_
   try simp only [AI,List.length_set]
   refine AU (by omega) ?_
   simp only [A9]
   refine zJ hkl (KY ?_)
   refine AU (by omega) ?_
   simp only [A9]
   refine zP hkl (z:=CI o.gen) rfl ?_
   exact hR _ (n3 hc _ _ hdr hof') (by simp only;rw [hdr];simp only [mu,List.length_append,List.length_singleton] at mu1 ⊢;have:=List.length_filter_le (fun x=>decide (0≤x)) o.field;omega)
end Go.Proofs.YtnhicpkhkaihoaaGreat.P
