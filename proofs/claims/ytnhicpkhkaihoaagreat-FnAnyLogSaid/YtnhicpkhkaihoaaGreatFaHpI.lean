/- A part of the proof. -/
import Derived.Test.YtnhicpkhkaihoaaGreatFaHpG
namespace Go.Proofs.YtnhicpkhkaihoaaGreat.P
open Go Go.Proofs.YtnhicpkhkaihoaaGreat Go.Proofs.YtnhicpkhkaihoaaGreat.Eng
set_option maxHeartbeats 4000000
set_option linter.unusedVariables false
set_option linter.unusedSimpArgs false
attribute [local irreducible] prP gP gE gF AU ixW ldc ldg ldl stc stg scW mkW apW BG cl2 BX GP CZ
variable {w0:World}
theorem Cf (a b c d e f g h:Value) (l:List Value):nx (a::b::c::d::e::f::g::h::l) 7=h:=rfl
theorem Bn (a b c d e f g h i:Value) (l:List Value):nx (a::b::c::d::e::f::g::h::i::l) 8=i:=rfl
theorem Dc (a b c d e f g h i j:Value) (l:List Value):nx (a::b::c::d::e::f::g::h::i::j::l) 9=j:=rfl
theorem sT (o:Wk):tv (nxT (tW o) 0)= .bool o.used:=rfl
theorem Am (o:Wk):tv (nxT (tW o) 1)=I o.target:=rfl
theorem o7 (o:A7):tv (nxT (tO o) 0)= .bool o.live:=rfl
theorem qT (o:A7):tv (nxT (tO o) 1)=I o.gen:=rfl
theorem wY (o:A7):tv (nxT (tO o) 2)=I o.site:=rfl
theorem uK (o:A7):tv (nxT (tO o) 3)=I o.holds:=rfl
theorem uS (o:A7):tv (nxT (tO o) 4)=I o.roots:=rfl
theorem oA (o:A7):tv (nxT (tO o) 5)=I o.count:=rfl
theorem uP (o:A7):tv (nxT (tO o) 7)= .bool o.purple:=rfl
theorem UM {h:Hp} {K:J2} (hf:Fits h) (hn:VN h) (h1:DU h→K [.bool true] []) (h2: ¬DU h→K [.bool false] []):cl2 ⟨Tryz.prog,w0⟩ 21 GY.sg [] (trees h) K:=by
 have g1:=hf.ol;have g2:=hf.wl;have g3:=hf.sl;have g4:=hf.bl
 refine GY.cl2 ?_
 unfold GY.txt
 simp only [AK,AS,AJ,AI,AM,AE,AH,AN,AO,AP,AL,AR,AT,AQ,BB,BE,BI,BH,BK,BJ,BF,AX,A4,AY,A1,AZ,A5]
 refine B9 (BM (BM (BM (F5 (fun ho=> ?_) fun ho=> ?_))))
 rotate_left
 ·refine CI ho rfl (BM (BM (BM (NH (RF rfl (BP (h2 fun hk=>ho (by have:=hk.ol;omega))))))))
 refine B9 (CD ho rfl (BM (BM (BM (F5 (fun hw=> ?_) fun hw=> ?_)))))
 rotate_left
 ·exact CI hw rfl (BP (h2 fun hk=>hw (by have:=hk.wl;omega)))
 refine FJ (CD hw rfl (AG (fun h6=>h2 fun hk=>(by have:=hk.sites.len;omega)) fun h6=> ?_))
 have o8:h.BD.length=8:=by omega
 have w8:h.B8.length=8:=by omega
 refine A9 (fun i=>[iv i]) (fun _=>[]) h.BD.length (fun i=> ∀k,k<i→QR h k) rfl rfl (fun k hk=>by omega) (fun R i hi hP hR=> ?_)
 simp only [AK,AS,AJ,AI,AM,AE,AH,AN,AO,AP,AL,AR,AT,AQ,BB,BE,BI,BH,BK,BJ,BF,AX,A4,AY,A1,AZ,A5]
 refine AV (AG (fun hlt=> ?_) fun hge=> ?_)
 ·have hi:i<h.BD.length:=by omega
  refine BS ?_
  have stepR:QR h i→R [iv (i+1)] []:=fun hk=>hR hi fun k hki=>(Nat.lt_succ_iff_lt_or_eq.1 hki).elim (hP k) fun he=>he ▸ hk
  have no: ¬QR h i→K [.bool false] []:=fun hk=>h2 fun hh=>hk (hh.obj i (by omega))
  clear hR h1 h2
  have hfo:=iF hf.of i
  have hnum:=hn.ob i
  obtain ⟨⟨n1,n2⟩,⟨n3,n4⟩,⟨n7,n8⟩,⟨n9,n10⟩,⟨n5,n6⟩,_⟩:=hnum
  have hib:=w6 hf.ol hf.of i
  refine AW hi (OM hi ?_)
  rw [I5 hi,AE]
  refine D6 (CP (BM (BM (BM (F5 (fun hg=> ?_) fun hg=> ?_)))))
  rotate_left
  ·exact CI hg rfl (BP (no fun hk=>hg hk.gen))
  refine B9 (CD hg rfl (AG (fun h3=>no fun hk=>by have:=hk.len;omega) fun h3=> ?_))
  have hl3:(ob h.BD i).field.length=3:=by omega
  have hg:0≤(ob h.BD i).gen∧(ob h.BD i).gen≤999:=Decidable.not_not.1 hg
  simp only [o7,qT,wY,uK,uS,oA,uP]
  cases hv:(ob h.BD i).live with
  | false=>
    have dd:QR h i→(ob h.BD i).site=0∧(ob h.BD i).holds=0∧(ob h.BD i).roots=0∧(ob h.BD i).count=0∧(ob h.BD i).purple=false:=fun hk=>hk.dead hv
    refine BU (BP ?_)
    cases hpu:(ob h.BD i).purple
    ·repeat' (first | refine BM ?_ | refine NH ?_ | refine CI (by first | with_reducible assumption | omega) rfl ?_ | refine CD (by first | with_reducible assumption | omega) rfl ?_ | refine RF rfl ?_ | refine BP ?_ | refine BT ?_ | refine B9 ?_ | refine Aw rfl rfl (fun _=> ?_) (fun _=> ?_) | refine F5 (fun _=> ?_) (fun _=> ?_) | simp only [AK,AS,AJ,AI,AM,AE,AH,AN,AO,AP,AL,AR,AT,AQ,BB,BE,BI,BH,BK,BJ,BF,AX,A4,AY,A1,AZ,A5])
     all_goals try exact no fun hk=>by have:=dd hk;omega
     have mk:(∀j,j<3→gI (ob h.BD i).field j= -1)→QR h i:=fun ha=>⟨hg,hl3,fun j hj hne=>absurd (ha j hj) hne,fun _=>⟨by omega,by omega,by omega,by omega,hpu⟩,fun hh=>by rw [hv] at hh;cases hh⟩
     refine A9 (fun j=>[iv i,iv j, .bool false,I (ob h.BD i).gen,I (ob h.BD i).site,I (ob h.BD i).holds,I (ob h.BD i).roots,I (ob h.BD i).count,iv (AA (iv i)*8+6), .bool false]) (fun _=>[]) 3 (fun j=> ∀k,k<j→gI (ob h.BD i).field k= -1) rfl rfl (fun k hk=>by omega) (fun R2 j hj hP2 hR2=> ?_)
     simp only [AK,AS,AJ,AI,AM,AE,AH,AN,AO,AP,AL,AR,AT,AQ,BB,BE,BI,BH,BK,BJ,BF,AX,A4,AY,A1,AZ,A5]
     simp only [BF,Cf,Bn,Dc]
     rw [A8 (AA (iv i)*8+6),I5 hi,AE,hl3]
     refine AV (AG (fun hlt=> ?_) fun hge=> ?_)
     ·have hlt:j<3:=by omega
      refine AW hlt (OL hi (by omega) (B9 (AG (fun hne=> ?_) fun hne=> ?_)))
      ·exact no fun hk=>by have:=(hk.lead j hlt hne).1;rw [hv] at this;cases this
      ·refine A6 (by omega) (hR2 hlt fun k hk=> ?_)
       rcases Nat.lt_succ_iff_lt_or_eq.1 hk with h4 | rfl
       ·exact hP2 k h4
       ·omega
     ·have hj3:j=3:=by omega
      subst hj3
      exact A6 (by omega) (stepR (mk hP2))
    ·repeat' (first | refine BM ?_ | refine NH ?_ | refine CI (by first | with_reducible assumption | omega) rfl ?_ | refine CD (by first | with_reducible assumption | omega) rfl ?_ | refine RF rfl ?_ | refine BP ?_ | refine B9 ?_ | refine Aw rfl rfl (fun _=> ?_) (fun _=> ?_) | refine F5 (fun _=> ?_) (fun _=> ?_))
     all_goals exact no fun hk=>by have:=(dd hk).2.2.2.2;rw [hpu] at this;cases this
  | true=>
    have ll:=fun hk:QR h i=>hk.lv hv
    refine BU (BT ?_)
    by_cases hz:1≤(ob h.BD i).gen∧(0≤(ob h.BD i).site∧(ob h.BD i).site≤(h.sites.length:Int)-1)∧(0≤(ob h.BD i).holds∧(ob h.BD i).holds≤20)∧(0≤(ob h.BD i).roots∧(ob h.BD i).roots≤20)
    ·obtain ⟨z1,z2,z3,z4⟩:=hz
     repeat' (first | refine D6 ?_ | refine BM ?_ | refine EP (by first | with_reducible assumption | omega) ?_ | refine CD (by first | with_reducible assumption | omega) rfl ?_ | refine C3 (by first | with_reducible assumption | omega) ?_ | refine AV ?_ | refine CP ?_ | refine DO ⟨by omega,by omega⟩ ?_ | simp only [AK,AS,AJ,AI,AM,AE,AH,AN,AO,AP,AL,AR,AT,AQ,BB,BE,BI,BH,BK,BJ,BF,AX,A4,AY,A1,AZ,A5])
     all_goals try (exfalso;omega)
     refine A9 (fun j=>[iv i,iv j, .bool true,I (ob h.BD i).gen,I (ob h.BD i).site,I (ob h.BD i).holds,I (ob h.BD i).roots,I (ob h.BD i).count,iv (AA (iv i)*8+6), .bool (ob h.BD i).purple]) (fun _=>[]) 3 (fun j=> ∀k,k<j→gI (ob h.BD i).field k≠ -1→(ob h.BD i).live=true∧0≤AD h.BD (gI (ob h.BD i).field k)) rfl rfl (fun k hk=>by omega) (fun R2 j hj hP2 hR2=> ?_)
     simp only [AK,AS,AJ,AI,AM,AE,AH,AN,AO,AP,AL,AR,AT,AQ,BB,BE,BI,BH,BK,BJ,BF,AX,A4,AY,A1,AZ,A5]
     simp only [BF,Cf,Bn,Dc]
     rw [A8 (AA (iv i)*8+6),I5 hi,AE,hl3]
     refine AV (AG (fun hlt=> ?_) fun hge=> ?_)
     ·have hlt:j<3:=by omega
      refine AW hlt (OL hi (by omega) ?_)
      repeat' (first | refine DB (hn.fld i j) (by omega) ?_ | refine BM ?_ | refine IF (by first | with_reducible assumption | omega) ?_ | refine LP (by first | with_reducible assumption | omega) ?_ | refine CI (by first | with_reducible assumption | omega) rfl ?_ | refine CD (by first | with_reducible assumption | omega) rfl ?_ | refine BT ?_ | refine AV ?_ | refine B9 ?_ | refine A6 (by omega) ?_ | refine AW (by omega) ?_ | refine OL (by omega) (by omega) ?_ | refine AG (fun _=> ?_) (fun _=> ?_) | refine IG (fun _=> ?_) (fun _=> ?_))
      all_goals first
       | (refine hR2 hlt fun k hk hne=> ?_
          rcases Nat.lt_succ_iff_lt_or_eq.1 hk with h4 | rfl
          ·exact hP2 k h4 hne
          ·first
           | exact absurd hne (by assumption)
           | exact ⟨hv,by omega⟩)
       | (refine no fun hk=> ?_
          have h4:=hk.lead j hlt (by assumption)
          omega)
     ·have hj3:j=3:=by omega
      subst hj3
      have fin:(ob h.BD i).count=(ob h.BD i).holds+(ob h.BD i).roots+inE h.BD i→1≤(ob h.BD i).count→(ob h.BD i).purple=decide (C8 i (ob h.BD i).gen∈h.buffer)→QR h i:=fun e f hp=>⟨hg,hl3,hP2,fun hh=>(by rw [hv] at hh;cases hh),fun _=>⟨z1,z2,z3,z4,e,f,hp⟩⟩
      refine B3 ⟨by omega,by omega⟩ (S1 ⟨by omega,by omega⟩ (by omega) hf.of (B3 ⟨by omega,by omega⟩ ?_))
      repeat' (first | refine LH ?_ | refine RD (by omega) ?_ | refine BM ?_ | refine NH ?_ | refine I8 (by first | with_reducible assumption | omega) ?_ | refine EP (by first | with_reducible assumption | omega) ?_ | refine CI (by first | with_reducible assumption | omega) rfl ?_ | refine CD (by first | with_reducible assumption | omega) rfl ?_ | refine RF rfl ?_ | refine BP ?_ | refine AV ?_ | refine B9 ?_ | refine CP ?_ | refine A6 (by omega) ?_ | refine AG (fun _=> ?_) (fun _=> ?_) | refine F5 (fun _=> ?_) (fun _=> ?_))
      all_goals first
       | (refine no fun hk=> ?_
          have h4:=ll hk
          omega)
       | exact stepR (fin (by omega) (by omega) (Decidable.not_not.1 (by assumption)))
       | exact no fun hk=>absurd (ll hk).2.2.2.2.2.2 (by assumption)
    ·repeat' (first | refine D6 ?_ | refine BM ?_ | refine NH ?_ | refine I8 (by first | with_reducible assumption | omega) ?_ | refine EP (by first | with_reducible assumption | omega) ?_ | refine CI (by first | with_reducible assumption | omega) rfl ?_ | refine CD (by first | with_reducible assumption | omega) rfl ?_ | refine RF rfl ?_ | refine BP ?_ | refine CM (by first | with_reducible assumption | omega) ?_ | refine AV ?_ | refine CP ?_ | refine DO ⟨by omega,by omega⟩ ?_ | refine F5 (fun _=> ?_) (fun _=> ?_))
     all_goals first
      | (refine no fun hk=>hz ?_
         have:=ll hk
         exact ⟨this.1,this.2.1,this.2.2.1,this.2.2.2.1⟩)
      | (exfalso;omega)
 have hi8:i=8:=by omega
 subst hi8
 refine A9 (fun i=>[iv i]) (fun _=>[]) h.B8.length (fun i=> ∀k,k<i→((wk h.B8 k).used=false→(wk h.B8 k).target=0)∧((wk h.B8 k).used=true→8≤(wk h.B8 k).target∧(wk h.B8 k).target≤7999)) rfl rfl (fun k hk=>by omega) (fun R2 i hi hP2 hR2=> ?_)
 simp only [AK,AS,AJ,AI,AM,AE,AH,AN,AO,AP,AL,AR,AT,AQ,BB,BE,BI,BH,BK,BJ,BF,AX,A4,AY,A1,AZ,A5]
 refine AV (AG (fun hlt=> ?_) fun hge=> ?_)
 ·have hlt:i<h.B8.length:=by omega
  refine AW hlt (ZO hlt ?_)
  have stepR:=fun hk=>hR2 hlt fun k hki=>(Nat.lt_succ_iff_lt_or_eq.1 hki).elim (hP2 k) fun he=>he ▸ hk
  simp only [sT,Am]
  cases hu:(wk h.B8 i).used with
  | false=>
    refine BU ?_
    repeat' (first | refine BM ?_ | refine RT ?_ | refine S9 (by first | with_reducible assumption | omega) ?_ | refine XH (by first | with_reducible assumption | omega) ?_ | refine QK ?_ | refine NF ?_ | refine I8 (by first | with_reducible assumption | omega) ?_ | refine EP (by first | with_reducible assumption | omega) ?_ | refine CI (by first | with_reducible assumption | omega) rfl ?_ | refine CD (by first | with_reducible assumption | omega) rfl ?_ | refine RF rfl ?_ | refine VA rfl ?_ | refine BP ?_ | refine BT ?_ | refine B9 ?_ | refine A6 (by omega) ?_ | refine mF (fun _=> ?_) (fun _=> ?_))
    all_goals first
     | (refine stepR ⟨fun _=> ?_,fun hh=>(by rw [hu] at hh;cases hh)⟩
        first
         | omega
         | (simp_all;done))
     | (refine h2 fun hk=> ?_
        have h4:=(hk.weak i (by omega)).1 hu
        first
         | omega
         | (simp_all;done))
  | true=>
    refine BU ?_
    repeat' (first | refine D6 ?_ | refine BM ?_ | refine RT ?_ | refine bE ?_ | refine QK ?_ | refine NV ?_ | refine NF ?_ | refine RF rfl ?_ | refine VA rfl ?_ | refine CP ?_ | refine A6 (by omega) ?_ | refine AG (fun _=> ?_) (fun _=> ?_))
    all_goals first
     | (refine stepR ⟨fun hh=>(by rw [hu] at hh;cases hh),fun _=> ?_⟩
        first
         | omega
         | (simp_all;done))
     | (refine h2 fun hk=> ?_
        have h4:=(hk.weak i (by omega)).2 hu
        first
         | omega
         | (simp_all;done))
 have hi8:i=8:=by omega
 subst hi8
 refine A9 (fun i=>[iv i]) (fun _=>[]) h.buffer.length (fun i=> ∀k,k<i→0≤AD h.BD (gI h.buffer k)∧gI h.buffer k∉h.buffer.take k) rfl rfl (fun k hk=>by omega) (fun R3 i hi hP3 hR3=> ?_)
 simp only [AK,AS,AJ,AI,AM,AE,AH,AN,AO,AP,AL,AR,AT,AQ,BB,BE,BI,BH,BK,BJ,BF,AX,A4,AY,A1,AZ,A5]
 refine AV (AG (fun hlt=> ?_) fun hge=> ?_)
 ·have hlt:i<h.buffer.length:=by omega
  have e:I9 (tI h.buffer) [] (AA (VD (two (iv 0) (iv i)))*1) (AA (V9 (two (iv 0) (iv i)))*1)=tI (h.buffer.take i):=by
   have h1:AA (VD (two (iv 0) (iv i)))=0:=rfl
   have h2:AA (V9 (two (iv 0) (iv i)))=i:=A8 i
   rw [h1,h2];simp [I9,node,tI,List.map_take]
  refine AW hlt (ldI hlt (DB (hn.bf i) (by omega) (AV (BM (BM (BM (F5 (fun hb=> ?_) fun hb=> ?_)))))))
  ·refine bQ (by omega) (BM (BM (BM (EP hb (AW hlt (EP hb (ldI hlt (EP hb ?_))))))))
   rw [e]
   refine RD (by simp;omega) (CD hb rfl (AG (fun hm=>h2 fun hk=>(hk.buf i hlt).2 hm) fun hm=> ?_))
   refine A6 (by omega) (hR3 hlt fun k hk=> ?_)
   rcases Nat.lt_succ_iff_lt_or_eq.1 hk with h3 | rfl
   ·exact hP3 k h3
   ·exact ⟨by omega,hm⟩
  ·repeat' (first | refine BM ?_ | refine I8 (by first | with_reducible assumption | omega) ?_ | refine CI (by first | with_reducible assumption | omega) rfl ?_ | refine BP ?_)
   all_goals exact h2 fun hk=>by have:=(hk.buf i hlt).1;omega
 have hib:i=h.buffer.length:=by omega
 subst hib
 refine A9 (fun i=>[iv i]) (fun _=>[]) h.sites.length (fun i=> ∀k,k<i→(1≤((gS h.sites k).size:Int)∧((gS h.sites k).size:Int)≤8)∧gS h.sites k∉h.sites.take k) rfl rfl (fun k hk=>by omega) (fun R4 i hi hP4 hR4=> ?_)
 simp only [AK,AS,AJ,AI,AM,AE,AH,AN,AO,AP,AL,AR,AT,AQ,BB,BE,BI,BH,BK,BJ,BF,AX,A4,AY,A1,AZ,A5]
 refine AV (AG (fun hlt=> ?_) fun hge=> ?_)
 ·have hlt:i<h.sites.length:=by omega
  refine AW hlt (ldS hlt (CJ (D6 (CP (AG (fun hb=>h2 fun hk=>hb (hk.sites.sz i hlt)) fun hb=> ?_)))))
  refine A9 (fun j=>[iv i,iv j]) (fun _=>[]) i (fun j=>gS h.sites i∉h.sites.take j) rfl rfl (by simp) (fun R5 j hj hP5 hR5=> ?_)
  simp only [AK,AS,AJ,AI,AM,AE,AH,AN,AO,AP,AL,AR,AT,AQ,BB,BE,BI,BH,BK,BJ,BF,AX,A4,AY,A1,AZ,A5]
  refine AV (AG (fun hlj=> ?_) fun hgj=> ?_)
  ·have hlj:j<i:=by omega
   refine AW (by omega) (ldS (by omega) (AW hlt (ldS hlt (IE (AG (fun he=>h2 fun hk=>hk.sites.one i hlt ?_) fun he=> ?_)))))
   ·rw [←he, ←O0 (by omega)]
    exact List.mem_take_iff_getElem.2 ⟨j,by omega,rfl⟩
   ·exact A6 (by omega) (hR5 hlj (nD (by omega) hP5 he))
  ·have:j=i:=by omega
   subst this
   refine A6 (by omega) (hR4 hlt fun k hk=> ?_)
   rcases Nat.lt_succ_iff_lt_or_eq.1 hk with h3 | rfl
   ·exact hP4 k h3
   ·exact ⟨Decidable.not_not.1 hb,hP5⟩
 ·have:i=h.sites.length:=by omega
  subst this
  exact h1 ⟨o8,w8,⟨by omega,fun i hi=>(hP4 i hi).1,fun i hi=>(hP4 i hi).2⟩,fun i hi=>hP i hi,fun i hi=>hP2 i hi,fun i hi=>hP3 i hi⟩
end Go.Proofs.YtnhicpkhkaihoaaGreat.P
namespace Go.Proofs.YtnhicpkhkaihoaaGreat.P
open Go Go.Proofs.YtnhicpkhkaihoaaGreat Go.Proofs.YtnhicpkhkaihoaaGreat.Eng
set_option linter.unusedVariables false
set_option maxHeartbeats 4000000
set_option linter.unusedVariables false
set_option linter.unusedSimpArgs false
attribute [local irreducible] prP gP gE gF AU ixW ldc ldg ldl stc stg scW mkW apW BG cl2 BX GP CZ
variable {w0:World}
theorem LA {K:J2} (h:K [] [tI RN]):cl2 ⟨Tryz.prog,w0⟩ 102 DZ.sg [] [] K:=by
 refine DZ.cl2 ?_
 unfold DZ.txt
 refine A9 (fun i=>[iv i]) (fun i=>[tI (List.replicate i (-1))]) 3 (fun _=>True) rfl rfl trivial (fun R i hi hP hR=> ?_)
 simp only [AK,AS,AJ,AI,AM,AE,AH,AN,AO,AP,AL,AR,AT,AQ,BB,BE,BI,BH,BK,BJ,BF,AX,A4,AY,A1,AZ,A5]
 refine AV (AG (fun hlt=> ?_) fun hge=> ?_)
 ·have hlt:i<3:=by omega
  refine DP rfl (by simp;omega) (A6 (by omega) ?_)
  have:=hR hlt trivial
  rw [List.replicate_succ', ←E9] at this
  exact this
 ·have:i=3:=by omega
  subst this
  exact h
structure St (h:Hp):Prop where
 ol:h.BD.length=8
 wl:h.B8.length=8
 sl:h.sites.length≤6
 bl:h.buffer.length≤100
 of: ∀o∈h.BD,OF o
 ss: ∀s∈h.sites,(s.size:Int)≤1048576
 wf: ∀w∈h.B8,F64 w.target
 bf: ∀x∈h.buffer,F64 x
theorem St.fits {h:Hp} (s:St h):Fits h:=⟨by have:=s.ol;omega,fun o ho=>by have:=(s.of o ho).len;omega,by have:=s.wl;omega,by have:=s.bl;omega,by have:=s.sl;omega,s.ss⟩
def EE (os:List A7) (id:Int):List A7:=if AD os id<0 then os else os.set (AD os id).toNat {ob os (AD os id).toNat with count:=w64 ((ob os (AD os id).toNat).count+1)}
theorem QS (os:List A7) (id:Int):(EE os id).length=os.length:=by unfold EE;split <;> simp
theorem V5 {os:List A7} {id:Int} (h: ∀o∈os,OF o): ∀o∈EE os id,OF o:=by
 unfold EE
 split
 ·exact h
 ·have hk:=BV (l:=os) (id:=id) (by omega)
  have ho:=h _ (IM (l:=os) (i:=(AD os id).toNat) (by omega))
  exact JF h ⟨ho.gen,ho.len,ho.fld⟩
theorem SO {os:List A7} {b c d:List T} {id:Int} {K:J2} (hid:F64 id) (hol:os.length=8) (h:K [] [tR tO (EE os id)]):cl2 ⟨Tryz.prog,w0⟩ 169 D5.sg [I id] [tR tO os,b,c,d] K:=by
 refine D5.cl2 ?_
 unfold D5.txt
 simp only [AK,AS,AJ,AI,AM,AE,AH,AN,AO,AP,AL,AR,AT,AQ,BB,BE,BI,BH,BK,BJ,BF,AX,A4,AY,A1,AZ,A5]
 refine DC hid (by omega) ?_
 simp only [AK,AS,AJ,AI,AM,AE,AH,AN,AO,AP,AL,AR,AT,AQ,BB,BE,BI,BH,BK,BJ,BF,AX,A4,AY,A1,AZ,A5]
 unfold EE at h
 refine JA (AG (fun hs=> ?_) fun hs=> ?_)
 ·have hk:=BV (l:=os) (id:=id) (by omega)
  rw [if_neg (by omega)] at h
  obtain ⟨k,hkk⟩: ∃k,(AD os id).toNat=k:=⟨_,rfl⟩
  have hkI:AD os id=(k:Int):=by omega
  rw [hkk] at h
  rw [hkI]
  have hkl:k<os.length:=by omega
  rw [oO hkl]
  exact AW (by omega) (J9 (i:=k) hkl (by decide) rfl (DT (AW (by omega) (JE hkl h))))
 ·rw [if_pos (by omega)] at h;exact h
theorem XS {h:Hp} {id:Int} {K:J2} (st:St h) (hid:F64 id) (hk:K [] (trees {h with BD:=EE h.BD id})):cl2 ⟨Tryz.prog,w0⟩ 158 HD.sg [I id] (trees h) K:=by
 refine HD.cl2 ?_
 unfold HD.txt
 refine M4 st.fits ?_
 obtain ⟨os,ws,bf,ss⟩:=h
 have hol:os.length=8:=st.ol
 simp only [trees] at hk ⊢
 refine DB hid (by omega) ?_
 simp only [AK,AS,AJ,AI,AM,AE,AH,AN,AO,AP,AL,AR,AT,AQ,BB,BE,BI,BH,BK,BJ,BF,AX,A4,AY,A1,AZ,A5]
 unfold EE at hk
 refine BS (JA (AG (fun hs=> ?_) fun hs=> ?_))
 ·have hkk:=BV (l:=os) (id:=id) (by omega)
  rw [if_neg (by omega)] at hk
  obtain ⟨k,hkk⟩: ∃k,(AD os id).toNat=k:=⟨_,rfl⟩
  have hkI:AD os id=(k:Int):=by omega
  rw [hkk] at hk
  rw [hkI]
  have hkl:k<os.length:=by omega
  rw [oO hkl]
  exact AW (by omega) (J9 (i:=k) hkl (by decide) rfl (DT (AW (by omega) (JE hkl hk))))
 ·rw [if_pos (by omega)] at hk;exact hk
theorem XW {h:Hp} {ids:List Int} {K:J2} (st:St h) (hi:ids.length≤100) (hid: ∀x∈ids,F64 x) (hK:K [] [tR tO (IQ h.BD h.buffer ids).1,tR tW h.B8,tI (IQ h.BD h.buffer ids).2.1,tS h.sites,tI (IQ h.BD h.buffer ids).2.2]):cl2 ⟨Tryz.prog,w0⟩ 159 IA.sg [] [tR tO h.BD,tR tW h.B8,tI h.buffer,tS h.sites,tI ids] K:=by
 refine IA.cl2 ?_
 unfold IA.txt
 refine M4 st.fits ?_
 obtain ⟨os,ws,buf,ss⟩:=h
 have hol:os.length=8:=st.ol
 have hof: ∀o∈os,OF o:=st.of
 have hb:buf.length≤100:=st.bl
 simp only [trees] at hK ⊢
 rw [List.nil_append]
 simp only [AK,AS,AJ,AI,AM,AE,AH,AN,AO,AP,AL,AR,AT,AQ,BB,BE,BI,BH,BK,BJ,BF,AX,A4,AY,A1,AZ,A5]
 refine DP (PQ _) (by first | omega | (simp only [cnt,List.length_nil];omega)) ?_
 obtain ⟨R,hR0⟩: ∃R,IQ os buf ids=R:=⟨_,rfl⟩
 have st:=LsI.start (buf:=buf) hol hof hid
 rw [hR0] at st hK
 refine CQ (α:=List A7×List Int×List Int×List Int×Nat) (fun q=>[iv (q.2.2.2.1.length-q.2.2.2.2),iv q.2.2.2.2]) (fun q=>[tI q.2.2.1,tI q.2.2.2.1,tR tO q.1,tR tW ws,tI q.2.1,tS ss]) (fun q=>mu q.2.2.1 (q.2.2.2.1.drop q.2.2.2.2)) (LsI R (buf.length+ids.length+36)) (os,buf,[],ids,0) rfl rfl st (fun Rr q hq hR=> ?_)
 obtain ⟨os,bf,freed,row,off⟩:=q
 have hq':LsI R (buf.length+ids.length+36) (os,bf,freed,row,off):=hq
 obtain ⟨ol,of,fr,ofl,td,sz,_⟩:=id hq'
 simp only at ol of fr ofl td sz
 have hmz:mu freed (row.drop off)=(row.length-off)+4*(9-freed.length):=by simp [mu]
 simp only [AK,AS,AJ,AI,AM,AE,AH,AN,AO,AP,AL,AR,AT,AQ,BB,BE,BI,BH,BK,BJ,BF,AX,A4,AY,A1,AZ,A5]
 simp only [A8]
 refine FJ (BM (BM (IG (fun hlt=> ?_) fun hge=> ?_)))
 rotate_left
 ·refine CD hge rfl (BT ?_)
  have:=hq'.stop (.inl (by
   have: ¬(((row.length-off:Nat):Int)>0):=hge
   omega))
  rw [this] at hK;exact hK
 have hlt':off<row.length:=by
  have:((row.length-off:Nat):Int)>0:=hlt
  omega
 refine DV (CI hlt rfl (AG (fun h8=> ?_) fun h8=> ?_))
 rotate_left
 ·have:=hq'.stop (.inr (by omega))
  rw [this] at hK;exact hK
 have h8':freed.length≤8:=by omega
 obtain ⟨hidf,_⟩:=hq'.step hlt' h8'
 refine AW (j:=0) (by omega) (vO hlt' (Ak (by omega) (DB hidf (by omega) ?_)))
 have e1:off+AA (iv 1)*1=off+1:=by rw [A8]
 have e2:row.length-off-1=row.length-(off+1):=by omega
 simp only [A8,e2,Nat.mul_one,BB]
 have mu1:mu freed (row.drop (off+1))<mu freed (row.drop off):=by rw [drop_cons hlt',gC];omega
 refine AV (AG (fun hs=>hR (os,bf,freed,row,off+1) (hq'.skip hlt' h8' hs) mu1) fun hs=> ?_)
 have hs':0≤AD os (gI row off):=by omega
 have hk:=BV hs'
 have n1:=hq'.OH hlt' h8' hs'
 have n2:=hq'.put hlt' h8' hs'
 have n3:=fun hc row' off'=>hq'.free hlt' h8' hs' hc (row':=row') (off':=off')
 have hobf:=of _ (IM (l:=os) (i:=(AD os (gI row off)).toNat) (by omega))
 generalize hgid:gI row off=id at*
 obtain ⟨k,hkk⟩: ∃k,(AD os id).toNat=k:=⟨_,rfl⟩
 have hkI:AD os id=(k:Int):=by omega
 rw [hkk] at hk n1 n2 n3 hobf
 rw [hkI]
 have hkl:k<os.length:=by omega
 rw [oO hkl]
 generalize ho:ob os k=o at*
 refine AW (by omega) (J9 (i:=k) hkl (by decide) rfl (bH (AW (by omega) (JE hkl ?_))))
 generalize hcc:w64 (o.count-1)=c at*
 simp only [AK,AS,AJ,AI,AM,AE,AH,AN,AO,AP,AL,AR,AT,AQ,BB,BE,BI,BH,BK,BJ,BF,AX,A4,AY,A1,AZ,A5]
 have hl8:(os.set k {o with count:=c}).length=os.length:=List.length_set
 simp only [List.length_set]
 refine AW (by omega) (J9 (v:=I c) (i:=k) hkl (by decide) rfl ?_)
 refine FJ (AG (fun hc=> ?_) fun hc=> ?_)
 ·refine BS (AW (by omega) (J9 (v:= .bool o.purple) (i:=k) hkl (by decide) rfl (BU ?_)))
  cases hp:o.purple with
  | false=>
    refine BP (AW (by omega) (RO hkl (DP rfl (by omega) ?_)))
    have:=hR _ (n2 hc hp) (by simp only;exact mu1)
    simp only at this
    rw [←E9] at this
    simp only [AK,AS,AJ,AI,AM,AE,AH,AN,AO,AP,AL,AR,AT,AQ,BB,BE,BI,BH,BK,BJ,BF,AX,A4,AY,A1,AZ,A5]
    simp only [A8]
    exact this
  | true=>
    have:=hR _ (n1 hc hp) (by simp only;exact mu1)
    simp only [hp] at this
    refine BT ?_
    simp only [AK,AS,AJ,AI,AM,AE,AH,AN,AO,AP,AL,AR,AT,AQ,BB,BE,BI,BH,BK,BJ,BF,AX,A4,AY,A1,AZ,A5]
    simp only [A8]
    exact this
 ·refine DP rfl (by omega) ?_
  have hfl:o.field.length=3:=hobf.len
  refine CQ (α:=Nat×List Int×Nat) (fun q=>[iv (q.2.1.length-q.2.2),iv q.2.2,I id,iv k,iv q.1]) (fun q=>[tI (freed++[id]),tI q.2.1,tR tO (os.set k {o with count:=c}),tR tW ws,tI bf,tS ss]) (fun q=>3-q.1) (fun q=>q.1≤3∧q.2.2≤q.2.1.length∧q.2.1.drop q.2.2=row.drop (off+1)++(o.field.take q.1).filter fun x=>decide (0≤x)) (0,row,off+1) rfl ?_ ⟨by omega,hlt',by simp⟩ (fun R2 q hq2 hR2=> ?_)
  ·simp only [E9]
  obtain ⟨i,rw',of'⟩:=q
  obtain ⟨hi3,hof',hdr⟩:=hq2
  simp only at hi3 hof' hdr
  have hrl:rw'.length-of'≤row.length-(off+1)+3:=by
   have e:=congrArg List.length hdr
   have:=List.length_filter_le (fun x=>decide (0≤x)) (o.field.take i)
   simp only [List.length_drop,List.length_append,List.length_take] at e this
   omega
  simp only [AK,AS,AJ,AI,AM,AE,AH,AN,AO,AP,AL,AR,AT,AQ,BB,BE,BI,BH,BK,BJ,BF,AX,A4,AY,A1,AZ,A5]
  simp only [List.length_set]
  refine AW (by omega) (YU (i:=k) hkl (by decide) rfl ?_)
  simp only [A8,qU hkl,AE]
  refine AV (AG (fun hlt=> ?_) fun hge=> ?_)
  ·have hlt:i<o.field.length:=by omega
   have hfx:=hobf.fld _ (FD hlt)
   refine BS (AW (by omega) (YU (i:=k) hkl (by decide) rfl ?_))
   have ed:(rw'.drop of').take (rw'.length-of')=rw'.drop of':=by rw [←List.length_drop,List.take_length]
   have ea:tI (rw'.drop of')++[T.c (I (gI o.field i))]=tI (rw'.drop of'++[gI o.field i]):=E9 _ _
   simp only [A8,qU hkl,AE,SJ,Nat.mul_one,ed]
   refine AW hlt (vX hkl hlt ?_)
   simp only [A8]
   refine JA (AG (fun hp=> ?_) fun hp=> ?_)
   ·refine AW (by omega) (YU (i:=k) hkl (by decide) rfl ?_)
    simp only [A8,qU hkl,AE]
    refine AW hlt (vX hkl hlt ?_)
    simp only [A8]
    refine DP rfl (by omega) ?_
    have:=hR2 (i+1,rw'.drop of'++[gI o.field i],0) ⟨by simp only;omega,by simp only;omega,by simp only [List.drop_zero];rw [hdr,List.take_succ_eq_append_getElem hlt,List.filter_append, ←List.append_assoc,GD hlt];congr 1;simp [hp]⟩ (by simp only;omega)
    refine A6 (by omega) ?_
    rw [ea]
    simp only [AK,AS,AJ,AI,AM,AE,AH,AN,AO,AP,AL,AR,AT,AQ,BB,BE,BI,BH,BK,BJ,BF,AX,A4,AY,A1,AZ,A5]
    simp only [A8]
    exact this
   ·have:=hR2 (i+1,rw',of') ⟨by simp only;omega,hof',by simp only;rw [hdr,List.take_succ_eq_append_getElem hlt,List.filter_append, ←List.append_assoc,GD hlt];simp;omega⟩ (by simp only;omega)
    refine A6 (by omega) ?_
    simp only [AK,AS,AJ,AI,AM,AE,AH,AN,AO,AP,AL,AR,AT,AQ,BB,BE,BI,BH,BK,BJ,BF,AX,A4,AY,A1,AZ,A5]
    simp only [A8]
    exact this
  ·have:i=o.field.length:=by omega
   subst this
   rw [List.take_length] at hdr
   refine XM (by omega) ?_
   try simp only [AK,List.length_set]
   refine AW (by omega) ?_
   simp only [A8]
   refine Ai hkl (LA ?_)
   refine AW (by omega) ?_
   simp only [A8]
   refine Aj hkl (z:=CT o.gen) rfl ?_
   exact hR _ (n3 hc _ _ hdr hof') (by simp only;rw [hdr];simp only [mu,List.length_append,List.length_singleton] at mu1 ⊢;have:=List.length_filter_le (fun x=>decide (0≤x)) o.field;omega)
end Go.Proofs.YtnhicpkhkaihoaaGreat.P
