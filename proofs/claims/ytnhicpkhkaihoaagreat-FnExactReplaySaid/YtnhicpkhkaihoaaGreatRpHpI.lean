/- A part of the proof. -/
import Derived.Test.YtnhicpkhkaihoaaGreatRpHpG
namespace Go.Proofs.YtnhicpkhkaihoaaGreat.P
open Go Go.Proofs.YtnhicpkhkaihoaaGreat Go.Proofs.YtnhicpkhkaihoaaGreat.Eng
set_option maxHeartbeats 4000000
set_option linter.unusedVariables false
set_option linter.unusedSimpArgs false
attribute [local irreducible] prP gP gE gF AG ixW ldc ldg ldl stc stg scW mkW apW BA cl2 B6 G8 C3
variable {w0:World}
theorem Ae (a b c d e f g h:Value) (l:List Value):nx (a::b::c::d::e::f::g::h::l) 7=h:=rfl
theorem Ad (a b c d e f g h i:Value) (l:List Value):nx (a::b::c::d::e::f::g::h::i::l) 8=i:=rfl
theorem Au (a b c d e f g h i j:Value) (l:List Value):nx (a::b::c::d::e::f::g::h::i::j::l) 9=j:=rfl
theorem y7 (o:Wk):tv (nxT (tW o) 0)= .bool o.used:=rfl
theorem Cz (o:Wk):tv (nxT (tW o) 1)=I o.target:=rfl
theorem sO (o:A8):tv (nxT (tO o) 0)= .bool o.live:=rfl
theorem uA (o:A8):tv (nxT (tO o) 1)=I o.gen:=rfl
theorem zK (o:A8):tv (nxT (tO o) 2)=I o.site:=rfl
theorem zN (o:A8):tv (nxT (tO o) 3)=I o.holds:=rfl
theorem zB (o:A8):tv (nxT (tO o) 4)=I o.roots:=rfl
theorem wL (o:A8):tv (nxT (tO o) 5)=I o.count:=rfl
theorem y6 (o:A8):tv (nxT (tO o) 7)= .bool o.purple:=rfl
theorem dI {h:Hp} {K:J2} (hf:Fits h) (hn:WG h) (h1:DZ h→K [.bool true] []) (h2: ¬DZ h→K [.bool false] []):cl2 ⟨Tryz.prog,w0⟩ 21 IY.sg [] (trees h) K:=by
 have g1:=hf.ol;have g2:=hf.wl;have g3:=hf.sl;have g4:=hf.bl
 refine IY.cl2 ?_
 unfold IY.txt
 simp only [AM,AT,AL,AK,AN,AE,AI,AV,AU,AS,AP,AQ,AO,AR,BD,BE,BH,BG,BJ,BL,BF,AZ,A6,A1,AY,A5,A4]
 refine B2 (BM (BM (BM (HC (fun ho=> ?_) fun ho=> ?_))))
 rotate_left
 ·refine CL ho rfl (BM (BM (BM (NB (RW rfl (BS (h2 fun hk=>ho (by have:=hk.ol;omega))))))))
 refine B2 (CJ ho rfl (BM (BM (BM (HC (fun hw=> ?_) fun hw=> ?_)))))
 rotate_left
 ·exact CL hw rfl (BS (h2 fun hk=>hw (by have:=hk.wl;omega)))
 refine G9 (CJ hw rfl (AH (fun h6=>h2 fun hk=>(by have:=hk.sites.len;omega)) fun h6=> ?_))
 have o8:h.BC.length=8:=by omega
 have w8:h.B8.length=8:=by omega
 refine A7 (fun i=>[iv i]) (fun _=>[]) h.BC.length (fun i=> ∀k,k<i→QW h k) rfl rfl (fun k hk=>by omega) (fun R i hi hP hR=> ?_)
 simp only [AM,AT,AL,AK,AN,AE,AI,AV,AU,AS,AP,AQ,AO,AR,BD,BE,BH,BG,BJ,BL,BF,AZ,A6,A1,AY,A5,A4]
 refine AJ (AH (fun hlt=> ?_) fun hge=> ?_)
 ·have hi:i<h.BC.length:=by omega
  refine B4 ?_
  have stepR:QW h i→R [iv (i+1)] []:=fun hk=>hR hi fun k hki=>(Nat.lt_succ_iff_lt_or_eq.1 hki).elim (hP k) fun he=>he ▸ hk
  have no: ¬QW h i→K [.bool false] []:=fun hk=>h2 fun hh=>hk (hh.obj i (by omega))
  clear hR h1 h2
  have hfo:=jO hf.of i
  have hnum:=hn.ob i
  obtain ⟨⟨n1,n2⟩,⟨n3,n4⟩,⟨n7,n8⟩,⟨n9,n10⟩,⟨n5,n6⟩,_⟩:=hnum
  have hib:=vS hf.ol hf.of i
  refine AW hi (RI hi ?_)
  rw [JJ hi,AE]
  refine DU (CF (BM (BM (BM (HC (fun hg=> ?_) fun hg=> ?_)))))
  rotate_left
  ·exact CL hg rfl (BS (no fun hk=>hg hk.gen))
  refine B2 (CJ hg rfl (AH (fun h3=>no fun hk=>by have:=hk.len;omega) fun h3=> ?_))
  have hl3:(ob h.BC i).field.length=3:=by omega
  have hg:0≤(ob h.BC i).gen∧(ob h.BC i).gen≤999:=Decidable.not_not.1 hg
  simp only [sO,uA,zK,zN,zB,wL,y6]
  cases hv:(ob h.BC i).live with
  | false=>
    have dd:QW h i→(ob h.BC i).site=0∧(ob h.BC i).holds=0∧(ob h.BC i).roots=0∧(ob h.BC i).count=0∧(ob h.BC i).purple=false:=fun hk=>hk.dead hv
    refine BN (BS ?_)
    cases hpu:(ob h.BC i).purple
    ·repeat' (first | refine BM ?_ | refine NB ?_ | refine CL (by first | with_reducible assumption | omega) rfl ?_ | refine CJ (by first | with_reducible assumption | omega) rfl ?_ | refine RW rfl ?_ | refine BS ?_ | refine BQ ?_ | refine B2 ?_ | refine yY rfl rfl (fun _=> ?_) (fun _=> ?_) | refine HC (fun _=> ?_) (fun _=> ?_) | simp only [AM,AT,AL,AK,AN,AE,AI,AV,AU,AS,AP,AQ,AO,AR,BD,BE,BH,BG,BJ,BL,BF,AZ,A6,A1,AY,A5,A4])
     all_goals try exact no fun hk=>by have:=dd hk;omega
     have mk:(∀j,j<3→gI (ob h.BC i).field j= -1)→QW h i:=fun ha=>⟨hg,hl3,fun j hj hne=>absurd (ha j hj) hne,fun _=>⟨by omega,by omega,by omega,by omega,hpu⟩,fun hh=>by rw [hv] at hh;cases hh⟩
     refine A7 (fun j=>[iv i,iv j, .bool false,I (ob h.BC i).gen,I (ob h.BC i).site,I (ob h.BC i).holds,I (ob h.BC i).roots,I (ob h.BC i).count,iv (AA (iv i)*8+6), .bool false]) (fun _=>[]) 3 (fun j=> ∀k,k<j→gI (ob h.BC i).field k= -1) rfl rfl (fun k hk=>by omega) (fun R2 j hj hP2 hR2=> ?_)
     simp only [AM,AT,AL,AK,AN,AE,AI,AV,AU,AS,AP,AQ,AO,AR,BD,BE,BH,BG,BJ,BL,BF,AZ,A6,A1,AY,A5,A4]
     simp only [BF,Ae,Ad,Au]
     rw [A9 (AA (iv i)*8+6),JJ hi,AE,hl3]
     refine AJ (AH (fun hlt=> ?_) fun hge=> ?_)
     ·have hlt:j<3:=by omega
      refine AW hlt (ON hi (by omega) (B2 (AH (fun hne=> ?_) fun hne=> ?_)))
      ·exact no fun hk=>by have:=(hk.lead j hlt hne).1;rw [hv] at this;cases this
      ·refine AX (by omega) (hR2 hlt fun k hk=> ?_)
       rcases Nat.lt_succ_iff_lt_or_eq.1 hk with h4 | rfl
       ·exact hP2 k h4
       ·omega
     ·have hj3:j=3:=by omega
      subst hj3
      exact AX (by omega) (stepR (mk hP2))
    ·repeat' (first | refine BM ?_ | refine NB ?_ | refine CL (by first | with_reducible assumption | omega) rfl ?_ | refine CJ (by first | with_reducible assumption | omega) rfl ?_ | refine RW rfl ?_ | refine BS ?_ | refine B2 ?_ | refine yY rfl rfl (fun _=> ?_) (fun _=> ?_) | refine HC (fun _=> ?_) (fun _=> ?_))
     all_goals exact no fun hk=>by have:=(dd hk).2.2.2.2;rw [hpu] at this;cases this
  | true=>
    have ll:=fun hk:QW h i=>hk.lv hv
    refine BN (BQ ?_)
    by_cases hz:1≤(ob h.BC i).gen∧(0≤(ob h.BC i).site∧(ob h.BC i).site≤(h.sites.length:Int)-1)∧(0≤(ob h.BC i).holds∧(ob h.BC i).holds≤20)∧(0≤(ob h.BC i).roots∧(ob h.BC i).roots≤20)
    ·obtain ⟨z1,z2,z3,z4⟩:=hz
     repeat' (first | refine DU ?_ | refine BM ?_ | refine F8 (by first | with_reducible assumption | omega) ?_ | refine CJ (by first | with_reducible assumption | omega) rfl ?_ | refine BV (by first | with_reducible assumption | omega) ?_ | refine AJ ?_ | refine CF ?_ | refine DM ⟨by omega,by omega⟩ ?_ | simp only [AM,AT,AL,AK,AN,AE,AI,AV,AU,AS,AP,AQ,AO,AR,BD,BE,BH,BG,BJ,BL,BF,AZ,A6,A1,AY,A5,A4])
     all_goals try (exfalso;omega)
     refine A7 (fun j=>[iv i,iv j, .bool true,I (ob h.BC i).gen,I (ob h.BC i).site,I (ob h.BC i).holds,I (ob h.BC i).roots,I (ob h.BC i).count,iv (AA (iv i)*8+6), .bool (ob h.BC i).purple]) (fun _=>[]) 3 (fun j=> ∀k,k<j→gI (ob h.BC i).field k≠ -1→(ob h.BC i).live=true∧0≤AD h.BC (gI (ob h.BC i).field k)) rfl rfl (fun k hk=>by omega) (fun R2 j hj hP2 hR2=> ?_)
     simp only [AM,AT,AL,AK,AN,AE,AI,AV,AU,AS,AP,AQ,AO,AR,BD,BE,BH,BG,BJ,BL,BF,AZ,A6,A1,AY,A5,A4]
     simp only [BF,Ae,Ad,Au]
     rw [A9 (AA (iv i)*8+6),JJ hi,AE,hl3]
     refine AJ (AH (fun hlt=> ?_) fun hge=> ?_)
     ·have hlt:j<3:=by omega
      refine AW hlt (ON hi (by omega) ?_)
      repeat' (first | refine C4 (hn.fld i j) (by omega) ?_ | refine BM ?_ | refine JA (by first | with_reducible assumption | omega) ?_ | refine L5 (by first | with_reducible assumption | omega) ?_ | refine CL (by first | with_reducible assumption | omega) rfl ?_ | refine CJ (by first | with_reducible assumption | omega) rfl ?_ | refine BQ ?_ | refine AJ ?_ | refine B2 ?_ | refine AX (by omega) ?_ | refine AW (by omega) ?_ | refine ON (by omega) (by omega) ?_ | refine AH (fun _=> ?_) (fun _=> ?_) | refine JR (fun _=> ?_) (fun _=> ?_))
      all_goals first
       | (refine hR2 hlt fun k hk hne=> ?_
          rcases Nat.lt_succ_iff_lt_or_eq.1 hk with h4 | rfl
          ·exact hP2 k h4 hne
          ·first
           | exact absurd hne (by assumption)
           | exact ⟨hv,by omega⟩)
       | (refine no fun hk=> ?_
          have h4:=hk.lead j hlt (by assumption)
          omega)
     ·have hj3:j=3:=by omega
      subst hj3
      have fin:(ob h.BC i).count=(ob h.BC i).holds+(ob h.BC i).roots+inE h.BC i→1≤(ob h.BC i).count→(ob h.BC i).purple=decide (DB i (ob h.BC i).gen∈h.buffer)→QW h i:=fun e f hp=>⟨hg,hl3,hP2,fun hh=>(by rw [hv] at hh;cases hh),fun _=>⟨z1,z2,z3,z4,e,f,hp⟩⟩
      refine BX ⟨by omega,by omega⟩ (SB ⟨by omega,by omega⟩ (by omega) hf.of (BX ⟨by omega,by omega⟩ ?_))
      repeat' (first | refine NC ?_ | refine Q7 (by omega) ?_ | refine BM ?_ | refine NB ?_ | refine JL (by first | with_reducible assumption | omega) ?_ | refine F8 (by first | with_reducible assumption | omega) ?_ | refine CL (by first | with_reducible assumption | omega) rfl ?_ | refine CJ (by first | with_reducible assumption | omega) rfl ?_ | refine RW rfl ?_ | refine BS ?_ | refine AJ ?_ | refine B2 ?_ | refine CF ?_ | refine AX (by omega) ?_ | refine AH (fun _=> ?_) (fun _=> ?_) | refine HC (fun _=> ?_) (fun _=> ?_))
      all_goals first
       | (refine no fun hk=> ?_
          have h4:=ll hk
          omega)
       | exact stepR (fin (by omega) (by omega) (Decidable.not_not.1 (by assumption)))
       | exact no fun hk=>absurd (ll hk).2.2.2.2.2.2 (by assumption)
    ·repeat' (first | refine DU ?_ | refine BM ?_ | refine NB ?_ | refine JL (by first | with_reducible assumption | omega) ?_ | refine F8 (by first | with_reducible assumption | omega) ?_ | refine CL (by first | with_reducible assumption | omega) rfl ?_ | refine CJ (by first | with_reducible assumption | omega) rfl ?_ | refine RW rfl ?_ | refine BS ?_ | refine CT (by first | with_reducible assumption | omega) ?_ | refine AJ ?_ | refine CF ?_ | refine DM ⟨by omega,by omega⟩ ?_ | refine HC (fun _=> ?_) (fun _=> ?_))
     all_goals first
      | (refine no fun hk=>hz ?_
         have:=ll hk
         exact ⟨this.1,this.2.1,this.2.2.1,this.2.2.2.1⟩)
      | (exfalso;omega)
 have hi8:i=8:=by omega
 subst hi8
 refine A7 (fun i=>[iv i]) (fun _=>[]) h.B8.length (fun i=> ∀k,k<i→((wk h.B8 k).used=false→(wk h.B8 k).target=0)∧((wk h.B8 k).used=true→8≤(wk h.B8 k).target∧(wk h.B8 k).target≤7999)) rfl rfl (fun k hk=>by omega) (fun R2 i hi hP2 hR2=> ?_)
 simp only [AM,AT,AL,AK,AN,AE,AI,AV,AU,AS,AP,AQ,AO,AR,BD,BE,BH,BG,BJ,BL,BF,AZ,A6,A1,AY,A5,A4]
 refine AJ (AH (fun hlt=> ?_) fun hge=> ?_)
 ·have hlt:i<h.B8.length:=by omega
  refine AW hlt (nD hlt ?_)
  have stepR:=fun hk=>hR2 hlt fun k hki=>(Nat.lt_succ_iff_lt_or_eq.1 hki).elim (hP2 k) fun he=>he ▸ hk
  simp only [y7,Cz]
  cases hu:(wk h.B8 i).used with
  | false=>
    refine BN ?_
    repeat' (first | refine BM ?_ | refine SL ?_ | refine SW (by first | with_reducible assumption | omega) ?_ | refine WS (by first | with_reducible assumption | omega) ?_ | refine RP ?_ | refine M9 ?_ | refine JL (by first | with_reducible assumption | omega) ?_ | refine F8 (by first | with_reducible assumption | omega) ?_ | refine CL (by first | with_reducible assumption | omega) rfl ?_ | refine CJ (by first | with_reducible assumption | omega) rfl ?_ | refine RW rfl ?_ | refine WB rfl ?_ | refine BS ?_ | refine BQ ?_ | refine B2 ?_ | refine AX (by omega) ?_ | refine nF (fun _=> ?_) (fun _=> ?_))
    all_goals first
     | (refine stepR ⟨fun _=> ?_,fun hh=>(by rw [hu] at hh;cases hh)⟩
        first
         | omega
         | (simp_all;done))
     | (refine h2 fun hk=> ?_
        have h4:=(hk.weak i (by omega)).1 hu
        first
         | omega
         | (simp_all;done))
  | true=>
    refine BN ?_
    repeat' (first | refine DU ?_ | refine BM ?_ | refine SL ?_ | refine bZ ?_ | refine RP ?_ | refine OW ?_ | refine M9 ?_ | refine RW rfl ?_ | refine WB rfl ?_ | refine CF ?_ | refine AX (by omega) ?_ | refine AH (fun _=> ?_) (fun _=> ?_))
    all_goals first
     | (refine stepR ⟨fun hh=>(by rw [hu] at hh;cases hh),fun _=> ?_⟩
        first
         | omega
         | (simp_all;done))
     | (refine h2 fun hk=> ?_
        have h4:=(hk.weak i (by omega)).2 hu
        first
         | omega
         | (simp_all;done))
 have hi8:i=8:=by omega
 subst hi8
 refine A7 (fun i=>[iv i]) (fun _=>[]) h.buffer.length (fun i=> ∀k,k<i→0≤AD h.BC (gI h.buffer k)∧gI h.buffer k∉h.buffer.take k) rfl rfl (fun k hk=>by omega) (fun R3 i hi hP3 hR3=> ?_)
 simp only [AM,AT,AL,AK,AN,AE,AI,AV,AU,AS,AP,AQ,AO,AR,BD,BE,BH,BG,BJ,BL,BF,AZ,A6,A1,AY,A5,A4]
 refine AJ (AH (fun hlt=> ?_) fun hge=> ?_)
 ·have hlt:i<h.buffer.length:=by omega
  have e:JB (tI h.buffer) [] (AA (V9 (two (iv 0) (iv i)))*1) (AA (VN (two (iv 0) (iv i)))*1)=tI (h.buffer.take i):=by
   have h1:AA (V9 (two (iv 0) (iv i)))=0:=rfl
   have h2:AA (VN (two (iv 0) (iv i)))=i:=A9 i
   rw [h1,h2];simp [JB,node,tI,List.map_take]
  refine AW hlt (ldI hlt (C4 (hn.bf i) (by omega) (AJ (BM (BM (BM (HC (fun hb=> ?_) fun hb=> ?_)))))))
  ·refine ZX (by omega) (BM (BM (BM (F8 hb (AW hlt (F8 hb (ldI hlt (F8 hb ?_))))))))
   rw [e]
   refine Q7 (by simp;omega) (CJ hb rfl (AH (fun hm=>h2 fun hk=>(hk.buf i hlt).2 hm) fun hm=> ?_))
   refine AX (by omega) (hR3 hlt fun k hk=> ?_)
   rcases Nat.lt_succ_iff_lt_or_eq.1 hk with h3 | rfl
   ·exact hP3 k h3
   ·exact ⟨by omega,hm⟩
  ·repeat' (first | refine BM ?_ | refine JL (by first | with_reducible assumption | omega) ?_ | refine CL (by first | with_reducible assumption | omega) rfl ?_ | refine BS ?_)
   all_goals exact h2 fun hk=>by have:=(hk.buf i hlt).1;omega
 have hib:i=h.buffer.length:=by omega
 subst hib
 refine A7 (fun i=>[iv i]) (fun _=>[]) h.sites.length (fun i=> ∀k,k<i→(1≤((gS h.sites k).size:Int)∧((gS h.sites k).size:Int)≤8)∧gS h.sites k∉h.sites.take k) rfl rfl (fun k hk=>by omega) (fun R4 i hi hP4 hR4=> ?_)
 simp only [AM,AT,AL,AK,AN,AE,AI,AV,AU,AS,AP,AQ,AO,AR,BD,BE,BH,BG,BJ,BL,BF,AZ,A6,A1,AY,A5,A4]
 refine AJ (AH (fun hlt=> ?_) fun hge=> ?_)
 ·have hlt:i<h.sites.length:=by omega
  refine AW hlt (ldS hlt (CM (DU (CF (AH (fun hb=>h2 fun hk=>hb (hk.sites.sz i hlt)) fun hb=> ?_)))))
  refine A7 (fun j=>[iv i,iv j]) (fun _=>[]) i (fun j=>gS h.sites i∉h.sites.take j) rfl rfl (by simp) (fun R5 j hj hP5 hR5=> ?_)
  simp only [AM,AT,AL,AK,AN,AE,AI,AV,AU,AS,AP,AQ,AO,AR,BD,BE,BH,BG,BJ,BL,BF,AZ,A6,A1,AY,A5,A4]
  refine AJ (AH (fun hlj=> ?_) fun hgj=> ?_)
  ·have hlj:j<i:=by omega
   refine AW (by omega) (ldS (by omega) (AW hlt (ldS hlt (KN (AH (fun he=>h2 fun hk=>hk.sites.one i hlt ?_) fun he=> ?_)))))
   ·rw [←he, ←U7 (by omega)]
    exact List.mem_take_iff_getElem.2 ⟨j,by omega,rfl⟩
   ·exact AX (by omega) (hR5 hlj (mL (by omega) hP5 he))
  ·have:j=i:=by omega
   subst this
   refine AX (by omega) (hR4 hlt fun k hk=> ?_)
   rcases Nat.lt_succ_iff_lt_or_eq.1 hk with h3 | rfl
   ·exact hP4 k h3
   ·exact ⟨Decidable.not_not.1 hb,hP5⟩
 ·have:i=h.sites.length:=by omega
  subst this
  exact h1 ⟨o8,w8,⟨by omega,fun i hi=>(hP4 i hi).1,fun i hi=>(hP4 i hi).2⟩,fun i hi=>hP i hi,fun i hi=>hP2 i hi,fun i hi=>hP3 i hi⟩
end Go.Proofs.YtnhicpkhkaihoaaGreat.P
namespace Go.Proofs.YtnhicpkhkaihoaaGreat.P
open Go Go.Proofs.YtnhicpkhkaihoaaGreat Go.Proofs.YtnhicpkhkaihoaaGreat.Eng
set_option linter.unusedVariables false
set_option maxHeartbeats 4000000
set_option linter.unusedVariables false
set_option linter.unusedSimpArgs false
attribute [local irreducible] prP gP gE gF AG ixW ldc ldg ldl stc stg scW mkW apW BA cl2 B6 G8 C3
variable {w0:World}
theorem LI {K:J2} (h:K [] [tI RT]):cl2 ⟨Tryz.prog,w0⟩ 102 DN.sg [] [] K:=by
 refine DN.cl2 ?_
 unfold DN.txt
 refine A7 (fun i=>[iv i]) (fun i=>[tI (List.replicate i (-1))]) 3 (fun _=>True) rfl rfl trivial (fun R i hi hP hR=> ?_)
 simp only [AM,AT,AL,AK,AN,AE,AI,AV,AU,AS,AP,AQ,AO,AR,BD,BE,BH,BG,BJ,BL,BF,AZ,A6,A1,AY,A5,A4]
 refine AJ (AH (fun hlt=> ?_) fun hge=> ?_)
 ·have hlt:i<3:=by omega
  refine D8 rfl (by simp;omega) (AX (by omega) ?_)
  have:=hR hlt trivial
  rw [List.replicate_succ', ←FD] at this
  exact this
 ·have:i=3:=by omega
  subst this
  exact h
structure St (h:Hp):Prop where
 ol:h.BC.length=8
 wl:h.B8.length=8
 sl:h.sites.length≤6
 bl:h.buffer.length≤100
 of: ∀o∈h.BC,OF o
 ss: ∀s∈h.sites,(s.size:Int)≤1048576
 wf: ∀w∈h.B8,F64 w.target
 bf: ∀x∈h.buffer,F64 x
theorem St.fits {h:Hp} (s:St h):Fits h:=⟨by have:=s.ol;omega,fun o ho=>by have:=(s.of o ho).len;omega,by have:=s.wl;omega,by have:=s.bl;omega,by have:=s.sl;omega,s.ss⟩
def EA (os:List A8) (id:Int):List A8:=if AD os id<0 then os else os.set (AD os id).toNat {ob os (AD os id).toNat with count:=w64 ((ob os (AD os id).toNat).count+1)}
theorem QQ (os:List A8) (id:Int):(EA os id).length=os.length:=by unfold EA;split <;> simp
theorem U5 {os:List A8} {id:Int} (h: ∀o∈os,OF o): ∀o∈EA os id,OF o:=by
 unfold EA
 split
 ·exact h
 ·have hk:=BT (l:=os) (id:=id) (by omega)
  have ho:=h _ (IH (l:=os) (i:=(AD os id).toNat) (by omega))
  exact JK h ⟨ho.gen,ho.len,ho.fld⟩
theorem R0 {os:List A8} {b c d:List T} {id:Int} {K:J2} (hid:F64 id) (hol:os.length=8) (h:K [] [tR tO (EA os id)]):cl2 ⟨Tryz.prog,w0⟩ 169 DP.sg [I id] [tR tO os,b,c,d] K:=by
 refine DP.cl2 ?_
 unfold DP.txt
 simp only [AM,AT,AL,AK,AN,AE,AI,AV,AU,AS,AP,AQ,AO,AR,BD,BE,BH,BG,BJ,BL,BF,AZ,A6,A1,AY,A5,A4]
 refine C6 hid (by omega) ?_
 simp only [AM,AT,AL,AK,AN,AE,AI,AV,AU,AS,AP,AQ,AO,AR,BD,BE,BH,BG,BJ,BL,BF,AZ,A6,A1,AY,A5,A4]
 unfold EA at h
 refine JD (AH (fun hs=> ?_) fun hs=> ?_)
 ·have hk:=BT (l:=os) (id:=id) (by omega)
  rw [if_neg (by omega)] at h
  obtain ⟨k,hkk⟩: ∃k,(AD os id).toNat=k:=⟨_,rfl⟩
  have hkI:AD os id=(k:Int):=by omega
  rw [hkk] at h
  rw [hkI]
  have hkl:k<os.length:=by omega
  rw [o4 hkl]
  exact AW (by omega) (KG (i:=k) hkl (by decide) rfl (E9 (AW (by omega) (IA hkl h))))
 ·rw [if_pos (by omega)] at h;exact h
theorem X5 {h:Hp} {id:Int} {K:J2} (st:St h) (hid:F64 id) (hk:K [] (trees {h with BC:=EA h.BC id})):cl2 ⟨Tryz.prog,w0⟩ 158 HA.sg [I id] (trees h) K:=by
 refine HA.cl2 ?_
 unfold HA.txt
 refine M8 st.fits ?_
 obtain ⟨os,ws,bf,ss⟩:=h
 have hol:os.length=8:=st.ol
 simp only [trees] at hk ⊢
 refine C4 hid (by omega) ?_
 simp only [AM,AT,AL,AK,AN,AE,AI,AV,AU,AS,AP,AQ,AO,AR,BD,BE,BH,BG,BJ,BL,BF,AZ,A6,A1,AY,A5,A4]
 unfold EA at hk
 refine B4 (JD (AH (fun hs=> ?_) fun hs=> ?_))
 ·have hkk:=BT (l:=os) (id:=id) (by omega)
  rw [if_neg (by omega)] at hk
  obtain ⟨k,hkk⟩: ∃k,(AD os id).toNat=k:=⟨_,rfl⟩
  have hkI:AD os id=(k:Int):=by omega
  rw [hkk] at hk
  rw [hkI]
  have hkl:k<os.length:=by omega
  rw [o4 hkl]
  exact AW (by omega) (KG (i:=k) hkl (by decide) rfl (E9 (AW (by omega) (IA hkl hk))))
 ·rw [if_pos (by omega)] at hk;exact hk
theorem X9 {h:Hp} {ids:List Int} {K:J2} (st:St h) (hi:ids.length≤100) (hid: ∀x∈ids,F64 x) (hK:K [] [tR tO (I9 h.BC h.buffer ids).1,tR tW h.B8,tI (I9 h.BC h.buffer ids).2.1,tS h.sites,tI (I9 h.BC h.buffer ids).2.2]):cl2 ⟨Tryz.prog,w0⟩ 159 H8.sg [] [tR tO h.BC,tR tW h.B8,tI h.buffer,tS h.sites,tI ids] K:=by
 refine H8.cl2 ?_
 unfold H8.txt
 refine M8 st.fits ?_
 obtain ⟨os,ws,buf,ss⟩:=h
 have hol:os.length=8:=st.ol
 have hof: ∀o∈os,OF o:=st.of
 have hb:buf.length≤100:=st.bl
 simp only [trees] at hK ⊢
 rw [List.nil_append]
 simp only [AM,AT,AL,AK,AN,AE,AI,AV,AU,AS,AP,AQ,AO,AR,BD,BE,BH,BG,BJ,BL,BF,AZ,A6,A1,AY,A5,A4]
 refine D8 (PK _) (by first | omega | (simp only [cnt,List.length_nil];omega)) ?_
 obtain ⟨R,hR0⟩: ∃R,I9 os buf ids=R:=⟨_,rfl⟩
 have st:=LsI.start (buf:=buf) hol hof hid
 rw [hR0] at st hK
 refine C8 (α:=List A8×List Int×List Int×List Int×Nat) (fun q=>[iv (q.2.2.2.1.length-q.2.2.2.2),iv q.2.2.2.2]) (fun q=>[tI q.2.2.1,tI q.2.2.2.1,tR tO q.1,tR tW ws,tI q.2.1,tS ss]) (fun q=>mu q.2.2.1 (q.2.2.2.1.drop q.2.2.2.2)) (LsI R (buf.length+ids.length+36)) (os,buf,[],ids,0) rfl rfl st (fun Rr q hq hR=> ?_)
 obtain ⟨os,bf,freed,row,off⟩:=q
 have hq':LsI R (buf.length+ids.length+36) (os,bf,freed,row,off):=hq
 obtain ⟨ol,of,fr,ofl,td,sz,_⟩:=id hq'
 simp only at ol of fr ofl td sz
 have hmz:mu freed (row.drop off)=(row.length-off)+4*(9-freed.length):=by simp [mu]
 simp only [AM,AT,AL,AK,AN,AE,AI,AV,AU,AS,AP,AQ,AO,AR,BD,BE,BH,BG,BJ,BL,BF,AZ,A6,A1,AY,A5,A4]
 simp only [A9]
 refine G9 (BM (BM (JR (fun hlt=> ?_) fun hge=> ?_)))
 rotate_left
 ·refine CJ hge rfl (BQ ?_)
  have:=hq'.stop (.inl (by
   have: ¬(((row.length-off:Nat):Int)>0):=hge
   omega))
  rw [this] at hK;exact hK
 have hlt':off<row.length:=by
  have:((row.length-off:Nat):Int)>0:=hlt
  omega
 refine FE (CL hlt rfl (AH (fun h8=> ?_) fun h8=> ?_))
 rotate_left
 ·have:=hq'.stop (.inr (by omega))
  rw [this] at hK;exact hK
 have h8':freed.length≤8:=by omega
 obtain ⟨hidf,_⟩:=hq'.step hlt' h8'
 refine AW (j:=0) (by omega) (vZ hlt' (y8 (by omega) (C4 hidf (by omega) ?_)))
 have e1:off+AA (iv 1)*1=off+1:=by rw [A9]
 have e2:row.length-off-1=row.length-(off+1):=by omega
 simp only [A9,e2,Nat.mul_one,BD]
 have mu1:mu freed (row.drop (off+1))<mu freed (row.drop off):=by rw [drop_cons hlt',iV];omega
 refine AJ (AH (fun hs=>hR (os,bf,freed,row,off+1) (hq'.skip hlt' h8' hs) mu1) fun hs=> ?_)
 have hs':0≤AD os (gI row off):=by omega
 have hk:=BT hs'
 have n1:=hq'.O2 hlt' h8' hs'
 have n2:=hq'.put hlt' h8' hs'
 have n3:=fun hc row' off'=>hq'.free hlt' h8' hs' hc (row':=row') (off':=off')
 have hobf:=of _ (IH (l:=os) (i:=(AD os (gI row off)).toNat) (by omega))
 generalize hgid:gI row off=id at*
 obtain ⟨k,hkk⟩: ∃k,(AD os id).toNat=k:=⟨_,rfl⟩
 have hkI:AD os id=(k:Int):=by omega
 rw [hkk] at hk n1 n2 n3 hobf
 rw [hkI]
 have hkl:k<os.length:=by omega
 rw [o4 hkl]
 generalize ho:ob os k=o at*
 refine AW (by omega) (KG (i:=k) hkl (by decide) rfl (Z1 (AW (by omega) (IA hkl ?_))))
 generalize hcc:w64 (o.count-1)=c at*
 simp only [AM,AT,AL,AK,AN,AE,AI,AV,AU,AS,AP,AQ,AO,AR,BD,BE,BH,BG,BJ,BL,BF,AZ,A6,A1,AY,A5,A4]
 have hl8:(os.set k {o with count:=c}).length=os.length:=List.length_set
 simp only [List.length_set]
 refine AW (by omega) (KG (v:=I c) (i:=k) hkl (by decide) rfl ?_)
 refine G9 (AH (fun hc=> ?_) fun hc=> ?_)
 ·refine B4 (AW (by omega) (KG (v:= .bool o.purple) (i:=k) hkl (by decide) rfl (BN ?_)))
  cases hp:o.purple with
  | false=>
    refine BS (AW (by omega) (NN hkl (D8 rfl (by omega) ?_)))
    have:=hR _ (n2 hc hp) (by simp only;exact mu1)
    simp only at this
    rw [←FD] at this
    simp only [AM,AT,AL,AK,AN,AE,AI,AV,AU,AS,AP,AQ,AO,AR,BD,BE,BH,BG,BJ,BL,BF,AZ,A6,A1,AY,A5,A4]
    simp only [A9]
    exact this
  | true=>
    have:=hR _ (n1 hc hp) (by simp only;exact mu1)
    simp only [hp] at this
    refine BQ ?_
    simp only [AM,AT,AL,AK,AN,AE,AI,AV,AU,AS,AP,AQ,AO,AR,BD,BE,BH,BG,BJ,BL,BF,AZ,A6,A1,AY,A5,A4]
    simp only [A9]
    exact this
 ·refine D8 rfl (by omega) ?_
  have hfl:o.field.length=3:=hobf.len
  refine C8 (α:=Nat×List Int×Nat) (fun q=>[iv (q.2.1.length-q.2.2),iv q.2.2,I id,iv k,iv q.1]) (fun q=>[tI (freed++[id]),tI q.2.1,tR tO (os.set k {o with count:=c}),tR tW ws,tI bf,tS ss]) (fun q=>3-q.1) (fun q=>q.1≤3∧q.2.2≤q.2.1.length∧q.2.1.drop q.2.2=row.drop (off+1)++(o.field.take q.1).filter fun x=>decide (0≤x)) (0,row,off+1) rfl ?_ ⟨by omega,hlt',by simp⟩ (fun R2 q hq2 hR2=> ?_)
  ·simp only [FD]
  obtain ⟨i,rw',of'⟩:=q
  obtain ⟨hi3,hof',hdr⟩:=hq2
  simp only at hi3 hof' hdr
  have hrl:rw'.length-of'≤row.length-(off+1)+3:=by
   have e:=congrArg List.length hdr
   have:=List.length_filter_le (fun x=>decide (0≤x)) (o.field.take i)
   simp only [List.length_drop,List.length_append,List.length_take] at e this
   omega
  simp only [AM,AT,AL,AK,AN,AE,AI,AV,AU,AS,AP,AQ,AO,AR,BD,BE,BH,BG,BJ,BL,BF,AZ,A6,A1,AY,A5,A4]
  simp only [List.length_set]
  refine AW (by omega) (TW (i:=k) hkl (by decide) rfl ?_)
  simp only [A9,qQ hkl,AE]
  refine AJ (AH (fun hlt=> ?_) fun hge=> ?_)
  ·have hlt:i<o.field.length:=by omega
   have hfx:=hobf.fld _ (FZ hlt)
   refine B4 (AW (by omega) (TW (i:=k) hkl (by decide) rfl ?_))
   have ed:(rw'.drop of').take (rw'.length-of')=rw'.drop of':=by rw [←List.length_drop,List.take_length]
   have ea:tI (rw'.drop of')++[T.c (I (gI o.field i))]=tI (rw'.drop of'++[gI o.field i]):=FD _ _
   simp only [A9,qQ hkl,AE,SY,Nat.mul_one,ed]
   refine AW hlt (uO hkl hlt ?_)
   simp only [A9]
   refine JD (AH (fun hp=> ?_) fun hp=> ?_)
   ·refine AW (by omega) (TW (i:=k) hkl (by decide) rfl ?_)
    simp only [A9,qQ hkl,AE]
    refine AW hlt (uO hkl hlt ?_)
    simp only [A9]
    refine D8 rfl (by omega) ?_
    have:=hR2 (i+1,rw'.drop of'++[gI o.field i],0) ⟨by simp only;omega,by simp only;omega,by simp only [List.drop_zero];rw [hdr,List.take_succ_eq_append_getElem hlt,List.filter_append, ←List.append_assoc,G7 hlt];congr 1;simp [hp]⟩ (by simp only;omega)
    refine AX (by omega) ?_
    rw [ea]
    simp only [AM,AT,AL,AK,AN,AE,AI,AV,AU,AS,AP,AQ,AO,AR,BD,BE,BH,BG,BJ,BL,BF,AZ,A6,A1,AY,A5,A4]
    simp only [A9]
    exact this
   ·have:=hR2 (i+1,rw',of') ⟨by simp only;omega,hof',by simp only;rw [hdr,List.take_succ_eq_append_getElem hlt,List.filter_append, ←List.append_assoc,G7 hlt];simp;omega⟩ (by simp only;omega)
    refine AX (by omega) ?_
    simp only [AM,AT,AL,AK,AN,AE,AI,AV,AU,AS,AP,AQ,AO,AR,BD,BE,BH,BG,BJ,BL,BF,AZ,A6,A1,AY,A5,A4]
    simp only [A9]
    exact this
  ·have:i=o.field.length:=by omega
   subst this
   rw [List.take_length] at hdr
   refine XV (by omega) ?_
   try simp only [AM,List.length_set]
   refine AW (by omega) ?_
   simp only [A9]
   refine zL hkl (LI ?_)
   refine AW (by omega) ?_
   simp only [A9]
   refine zO hkl (z:=DC o.gen) rfl ?_
   exact hR _ (n3 hc _ _ hdr hof') (by simp only;rw [hdr];simp only [mu,List.length_append,List.length_singleton] at mu1 ⊢;have:=List.length_filter_le (fun x=>decide (0≤x)) o.field;omega)
end Go.Proofs.YtnhicpkhkaihoaaGreat.P
