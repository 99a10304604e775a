/- A part of the proof. -/
import Derived.Test.YthapfcoajahegaaAlHpY
import Derived.Test.YthapfcoajahegaaChecked
import Derived.Test.YthapfcoajahegaaAlEngM2
import Derived.KernelRfl
namespace Go.Proofs.Ythapfcoajahegaa.P
open Go Go.Proofs.Ythapfcoajahegaa Go.Proofs.Ythapfcoajahegaa.Eng
set_option linter.unusedVariables false
theorem gZ {g:Nat→AE} {id:Int}:(BU (mk8 g) id:Int)=HM 8 fun k=>(OK id (g k):Int):=by
 simp only [BU,mk8,List.map_map]
 simp [List.range_succ,HM]
 omega
section
variable {os:List AE} {ns:Nat} {buf:List Int} {i j k:Nat}
theorem HP.tC (h:HP os ns buf []) (hk:k<8) (hj:j<8) (hv:(ob os j).live=true):E os k j=OK (DA j (ob os j).gen) (ob os k):=by
 have hoj:=h.obj j hj
 have g1:=(hoj.lv hv).1
 have e1:(BE os k).count (j:Int)=(ob os k).field.count (DA j (ob os j).gen):=by
  unfold BE
  rw [List.count_filter (by simp),List.count_eq_countP,List.countP_map,List.count_eq_countP]
  refine List.countP_congr fun f hf=> ?_
  simp only [Function.comp,beq_iff_eq]
  constructor
  ·intro he;exact MG he g1 hoj.gen.2
  ·intro he;rw [he];exact I3 h.ol hj hv g1 hoj.gen.2
 unfold E
 rw [e1]
 cases hd:(ob os k).live with
 | true=>rw [JB hd]
 | false=>
   rw [PD hd,List.count_eq_zero.2 fun hm=> ?_]
   have hne:DA j (ob os j).gen≠ -1:=by rw [HY hj g1 hoj.gen.2];omega
   have:=((h.obj k hk).lead _ hm hne).1
   rw [hd] at this;cases this
theorem HP.dR (h:HP os ns buf []) (hj:j<8) (hv:(ob os j).live=true):(BU os (DA j (ob os j).gen):Int)=S os (fun _=>true) j:=by
 have e:BU os (DA j (ob os j).gen)=BU (mk8 (ob os)) (DA j (ob os j).gen):=by rw [←mE h.ol]
 rw [e,gZ]
 exact OT fun k hk=>by rw [if_pos rfl,h.tC hk hj hv]
theorem RB.live (h:RB os buf k):(ob os k).live=true:=by
 obtain ⟨b,_,s,hs,hr⟩:=h
 have hb:=BH (l:=os) (id:=b) (by omega)
 have e:(AA os b).toNat=s:=by omega
 rw [e] at hb
 exact hr.closed (P:=fun k=>(ob os k).live=true) hb.2.2.2.2.1 fun _ _ _ hj=>(EM hj).2.2.2.2
theorem sG {P:Nat→Bool} (hk:k<8) (hp:P k=true):E os k j≤S os P j:=by
 have:=RP (n:=8) (k0:=k) (f:=fun x=>if x=k then 0 else if P x then E os x j else 0) (g:=fun x=>if P x then E os x j else 0) hk fun x hx hne=>by simp [hne]
 have h0:0≤HM 8 fun x=>if x=k then 0 else if P x then E os x j else 0:=by
  have:=OE (n:=8) (f:=fun _=>0) (g:=fun x=>if x=k then 0 else if P x then E os x j else 0) fun x hx=>by
   split
   ·exact Int.le_refl _
   ·split
    ·exact QP _ _ _
    ·exact Int.le_refl _
  rw [KY (fun _ _=>rfl)] at this;exact this
 simp only [hp,if_true] at this
 unfold S;omega
theorem HP.ext (h:HP os ns buf []) (hj:j<8) (hv:(ob os j).live=true):EX os (fun i=>(ob os i).count) (QH os buf) j↔0<(ob os j).holds+(ob os j).roots+S os (fun k=> !QH os buf k) j:=by
 have hcl:=h.TL (I3 h.ol hj hv ((h.obj j hj).lv hv).1 (h.obj j hj).gen.2)
 have e1:=h.dR hj hv
 have e2:=nN (os:=os) (P:=QH os buf) (i:=j)
 have n1:0≤S os (QH os buf) j:=by
  have:=OE (n:=8) (f:=fun _=>0) (g:=fun x=>if QH os buf x then E os x j else 0) fun x hx=>by
   split
   ·exact QP _ _ _
   ·exact Int.le_refl _
  rw [KY (fun _ _=>rfl)] at this;exact this
 have n2:0≤S os (fun k=> !QH os buf k) j:=by
  have:=OE (n:=8) (f:=fun _=>0) (g:=fun x=>if (!QH os buf x) then E os x j else 0) fun x hx=>by
   split
   ·exact QP _ _ _
   ·exact Int.le_refl _
  rw [KY (fun _ _=>rfl)] at this;exact this
 unfold EX
 simp only
 rw [ON ⟨by omega,by omega⟩]
 omega
theorem o5 {P:Nat→Bool} (h:0<S os P j): ∃k,k<8∧P k=true∧0<E os k j:=by
 refine Classical.byContradiction fun hn=> ?_
 have:S os P j=0:=KY fun k hk=>by
  cases hp:P k with
  | false=>simp
  | true=>
    have:=QP os k j
    have: ¬0<E os k j:=fun hh=>hn ⟨k,hk,hp,hh⟩
    simp;omega
 omega
theorem kP (h:0<E os k j):(j:Int)∈BE os k:=by
 unfold E at h;exact List.count_pos_iff.1 (by omega)
theorem p8 (h:HP os ns buf []) (hk:k<8) {f:Int} (hf:f∈(ob os k).field) (hj:AA os f=(j:Int)):(j:Int)∈BE os k:=by
 unfold BE
 exact List.mem_filter.2 ⟨List.mem_map.2 ⟨f,hf,hj⟩,by simp⟩
theorem jC (h:HP os ns buf []) {W:Nat→Bool} (hW:W=PZ os (fun i=>(ob os i).count) buf) (hk:k<8) (hw:W k=false) (hj:j<8) (hm:(j:Int)∈BE os k):W j=false:=by
 cases hwj:W j with
 | false=>rfl
 | true=>
   exfalso
   have hjl:(ob os j).live=true:=by have:=(EM hm).2.2.2.2;rwa [Int.toNat_natCast] at this
   rw [hW,MI] at hwj
   obtain ⟨hr,hn⟩:=hwj
   by_cases hrk:RB os buf k
   ·have hex: ∃x,Out os (fun i=>(ob os i).count) buf x∧Reach os x k:=Classical.byContradiction fun hh=>by
     have:=MI.2 (⟨hrk,hh⟩:RB os buf k∧ ¬ ∃x,Out os (fun i=>(ob os i).count) buf x∧Reach os x k)
     rw [←hW,hw] at this;cases this
    obtain ⟨x,hx,hxk⟩:=hex
    exact hn ⟨x,hx,by have:=Reach.step hxk hm;rwa [Int.toNat_natCast] at this⟩
   ·refine hn ⟨j,⟨hj,hr,(h.ext hj hjl).2 ?_⟩, .refl⟩
    have e:=sG (os:=os) (P:=fun k=> !QH os buf k) (j:=j) hk (by simp [jE.2 hrk])
    have hE:0<E os k j:=by unfold E;have:=List.count_pos_iff.2 hm;omega
    have hcl:=h.TL (I3 h.ol hj hjl ((h.obj j hj).lv hjl).1 (h.obj j hj).gen.2)
    omega
theorem gB (h:HP os ns buf []) {W:Nat→Bool} (hW:W=PZ os (fun i=>(ob os i).count) buf) (hi:i<8) (hv:(ob os i).live=true) (hw:W i=false) (h0:(ob os i).holds+(ob os i).roots=0): ∃p,p<8∧(ob os p).live=true∧W p=false∧DA i (ob os i).gen∈(ob os p).field:=by
 have hoi:=h.obj i hi
 have g1:=(hoi.lv hv).1
 have back: ∀p,p<8→(i:Int)∈BE os p→(ob os p).live=true∧DA i (ob os i).gen∈(ob os p).field:=fun p hp hm=>by
  unfold BE at hm
  obtain ⟨h1,_⟩:=List.mem_filter.1 hm
  obtain ⟨f,hf,he⟩:=List.mem_map.1 h1
  have hid:=MG he g1 hoi.gen.2
  rw [hid] at hf
  have hne:DA i (ob os i).gen≠ -1:=by rw [HY hi g1 hoi.gen.2];omega
  exact ⟨((h.obj p hp).lead _ hf hne).1,hf⟩
 have hcl:=h.TL (I3 h.ol hi hv g1 hoi.gen.2)
 have hes:=h.dR hi hv
 have notRB: ∀p, ¬RB os buf p→W p=false:=fun p hp=>by
  cases hwp:W p with
  | false=>rfl
  | true=>rw [hW,MI] at hwp;exact absurd hwp.1 hp
 by_cases hri:RB os buf i
 ·have hex: ∃x,Out os (fun i=>(ob os i).count) buf x∧Reach os x i:=Classical.byContradiction fun hh=>by
   have:=MI.2 (⟨hri,hh⟩:RB os buf i∧ ¬ ∃x,Out os (fun i=>(ob os i).count) buf x∧Reach os x i)
   rw [←hW,hw] at this;cases this
  obtain ⟨y,hy,hyi⟩:=hex
  generalize hii:i=i' at hyi
  cases hyi with
  | refl=>
    subst hii
    have:=(h.ext hi hv).1 hy.2.2
    obtain ⟨p,hp,hpp,hE⟩:=o5 (os:=os) (P:=fun k=> !QH os buf k) (j:=i) (by omega)
    have hpn: ¬RB os buf p:=by simp only [Bool.not_eq_true'] at hpp;exact jE.1 hpp
    obtain ⟨b1,b2⟩:=back p hp (kP hE)
    exact ⟨p,hp,b1,notRB p hpn,b2⟩
  | step hyp hj=>
    rename_i p jj
    have hjb:=EM hj
    have hji:jj=(i:Int):=by omega
    rw [hji] at hj
    have hp8:p<8:=hyp.lt hy.1
    obtain ⟨b1,b2⟩:=back p hp8 hj
    refine ⟨p,hp8,b1, ?_,by rw [←hii];exact b2⟩
    cases hwp:W p with
    | false=>rfl
    | true=>rw [hW,MI] at hwp;exact absurd ⟨y,hy,hyp⟩ hwp.2
 ·obtain ⟨p,hp,_,hE⟩:=o5 (os:=os) (P:=fun _=>true) (j:=i) (by omega)
  obtain ⟨b1,b2⟩:=back p hp (kP hE)
  refine ⟨p,hp,b1,notRB p fun hr=>hri ?_,b2⟩
  have:=hr.next (kP hE)
  rwa [Int.toNat_natCast] at this
theorem HP.tB (h:HP os ns buf []):HP (fN os buf).1 ns [] []:=by
 unfold fN
 obtain ⟨W,hW⟩: ∃W,W=PZ os (fun i=>(ob os i).count) buf:=⟨_,rfl⟩
 rw [←hW]
 simp only
 have hol:=h.ol
 have wl: ∀k,W k=true→(ob os k).live=true:=fun k hk=>by rw [hW,MI] at hk;exact RB.live hk.1
 have mo: ∀i,i<8→W i=false→J0 os W i={ob os i with purple:=false}:=fun i hi hw=>by unfold J0;rw [if_neg (by rw [hw];decide)]
 have mw: ∀i,W i=true→J0 os W i=CM (ob os i).gen:=fun i hw=>by unfold J0;rw [if_pos hw]
 have fo: ∀i,i<8→ob (mk8 (OP os W)) i=OP os W i:=fun i hi=>P0 hi
 have fs:=fun i=>lX os W i
 have live: ∀i,i<8→(ob (mk8 (OP os W)) i).live=true→(ob os i).live=true∧W i=false:=fun i hi hv=>by
  rw [fo i hi,(fs i).1] at hv
  cases hw:W i with
  | true=>rw [mw i hw] at hv;cases hv
  | false=>rw [mo i hi hw] at hv;exact ⟨hv,rfl⟩
 have sl: ∀f, ∀j:Nat,AA os f=(j:Int)→W j=false→AA (mk8 (OP os W)) f=(j:Int):=fun f j hj hw=>by
  have hb:=BH (l:=os) (id:=f) (by omega)
  have e:(AA os f).toNat=j:=by omega
  rw [e] at hb
  have hmj:(f % 8).toNat=j:=by omega
  rw [P4 hb.2.1 (JG _) (by rw [JG];omega) (by rw [hmj,fo j hb.2.2.2.1,(fs j).1,mo j hb.2.2.2.1 hw];exact hb.2.2.2.2.1) (by rw [hmj,fo j hb.2.2.2.1,(fs j).2.1,mo j hb.2.2.2.1 hw];exact hb.2.2.2.2.2)]
  omega
 have edm: ∀x,BU (mk8 (OP os W)) x=BU (mk8 (J0 os W)) x:=fun x=>Q0 (by rw [JG,JG]) fun i hi=>by
  rw [JG] at hi
  rw [P0 hi,P0 hi];exact ⟨(fs i).1,(fs i).2.2⟩
 have edl: ∀x,BU (mk8 (J0 os W)) x≤24:=fun x=>by
  have:=UD (l:=mk8 (J0 os W)) (id:=x) (b:=3) fun o ho=>by
   obtain ⟨i,hi,rfl⟩:=nU ho
   cases hw:W i with
   | true=>rw [mw i hw];simp [CM,SG]
   | false=>rw [mo i hi hw];have:=(h.obj i hi).len;simp only;omega
  rw [JG] at this;exact this
 refine ⟨JG _,fun i hi=> ?_,List.nodup_nil,by simp,by simp⟩
 have ho:=h.obj i hi
 cases hw:W i with
 | true=>
   have e:ob (mk8 (OP os W)) i=CM (ob os i).gen:=by
    rw [fo i hi];unfold OP;rw [mw i hw,if_neg (by simp [CM])]
   refine ⟨by rw [e];exact ho.gen,by rw [e];rfl,by rw [e];simp [CM],fun f hf hne=> ?_,fun _=>by rw [e];exact ⟨rfl,rfl,rfl,rfl,rfl⟩,fun hv=>by rw [e] at hv;cases hv⟩
   rw [e] at hf;simp [CM,SG] at hf;exact absurd hf hne
 | false=>
   have lead: ∀f∈(ob os i).field,f≠ -1→(ob os i).live=true∧0≤AA (mk8 (OP os W)) f:=fun f hf hne=>by
    have hl:=ho.lead f hf hne
    obtain ⟨j,hj⟩: ∃j:Nat,AA os f=(j:Int):=⟨(AA os f).toNat,by omega⟩
    have hb:=BH (l:=os) (id:=f) (by omega)
    have hwj:=jC h hW hi hw (by omega) (p8 h hi hf hj)
    rw [sl f j hj hwj]
    exact ⟨hl.1,by omega⟩
   cases hv:(ob os i).live with
   | false=>
     have e:ob (mk8 (OP os W)) i={ob os i with purple:=false}:=by
      rw [fo i hi];unfold OP;rw [mo i hi hw,if_neg (by simp only;rw [hv];decide)]
     have hd:=ho.dead hv
     refine ⟨by rw [e];exact ho.gen,by rw [e];exact ho.len,by rw [e];exact ho.cb,fun f hf hne=> ?_,fun _=>by rw [e];exact ⟨hd.1,hd.2.1,hd.2.2.1,hd.2.2.2.1,rfl⟩,fun hh=> ?_⟩
     ·rw [e] at hf ⊢;exact lead f hf hne
     ·rw [e] at hh;simp only at hh;rw [hv] at hh;cases hh
   | true=>
     obtain ⟨g1,g2,g3,g4,g5,g6,g7⟩:=ho.lv hv
     have hin:inE (mk8 (J0 os W)) i=BU (mk8 (J0 os W)) (DA i (ob os i).gen):=by
      have:=QK (os:=mk8 (J0 os W)) (JG _) hi (by rw [P0 hi,mo i hi hw];exact hv)
      rw [P0 hi,mo i hi hw] at this;exact this
     have hed:=edl (DA i (ob os i).gen)
     have ew:w64 (w64 ((ob os i).holds+(ob os i).roots)+BU (mk8 (J0 os W)) (DA i (ob os i).gen))=(ob os i).holds+(ob os i).roots+BU (mk8 (J0 os W)) (DA i (ob os i).gen):=by
      rw [NB];exact ON ⟨by omega,by omega⟩
     have e:ob (mk8 (OP os W)) i={ob os i with purple:=false,count:=(ob os i).holds+(ob os i).roots+BU (mk8 (J0 os W)) (DA i (ob os i).gen)}:=by
      rw [fo i hi];unfold OP;rw [mo i hi hw,if_pos (by exact hv),hin]
      simp only
      rw [ew]
     have hpos:1≤(ob os i).holds+(ob os i).roots+BU (mk8 (J0 os W)) (DA i (ob os i).gen):=by
      by_cases h0:(ob os i).holds+(ob os i).roots=0
      ·obtain ⟨p,hp,pl,pw,pm⟩:=gB h hW hi hv hw h0
       have h1:OK (DA i (ob os i).gen) (J0 os W p)≤BU (mk8 (J0 os W)) (DA i (ob os i).gen):=by
        unfold BU
        exact mO (List.mem_map.2 ⟨J0 os W p,by rw [←P0 (f:=J0 os W) hp, ←ID (by rw [JG];exact hp)];exact List.getElem_mem _,rfl⟩)
       rw [mo p hp pw,JB (by exact pl)] at h1
       have:=List.count_pos_iff.2 pm
       simp only at h1
       omega
      ·omega
     refine ⟨by rw [e];exact ho.gen,by rw [e];exact ho.len,by rw [e];simp only;omega,fun f hf hne=> ?_,fun hd=> ?_,fun _=> ?_⟩
     ·rw [e] at hf ⊢;exact lead f hf hne
     ·rw [e] at hd;simp only at hd;rw [hv] at hd;cases hd
     ·rw [e,edm]
      exact ⟨g1,g2,g3,g4,by simp,hpos,by simp⟩
end
end Go.Proofs.Ythapfcoajahegaa.P
namespace Go.Proofs.Ythapfcoajahegaa.P
open Go Go.Proofs.Ythapfcoajahegaa Go.Proofs.Ythapfcoajahegaa.Eng
set_option linter.unusedVariables false
set_option maxHeartbeats 4000000
set_option linter.unusedVariables false
set_option linter.unusedSimpArgs false
attribute [local irreducible] prP gP gE gF AH ixW ldc ldg ldl stc stg scW mkW apW AP cl2 AX C9 BW
variable {w0:World}
abbrev rS (ws:List Wk):Prop:= ∀i,i<8→((wk ws i).used=false→(wk ws i).target=0)∧((wk ws i).used=true→8≤(wk ws i).target∧(wk ws i).target≤7999)
theorem lH {l:List Wk} {i k:Nat} {o:Wk} (hk:k<l.length):wk (l.set k o) i=if i=k then o else wk l i:=by
 unfold wk
 by_cases h:i=k
 ·subst h
  rw [if_pos rfl,List.getD_eq_getElem?_getD,List.getElem?_set_self hk];rfl
 ·rw [if_neg h,List.getD_eq_getElem?_getD,List.getElem?_set_ne (Ne.symm h),List.getD_eq_getElem?_getD]
theorem FV.step {h:Hp} {o:Op5} (hk:FV h):FV (R9 h o).1:=by
 have hp:=hk.hp
 have hw:rS h.DO:=hk.weak
 have hwl:=hk.wl
 unfold R9
 split
 ·obtain ⟨a,b⟩:=kU (s:=o.site) hp hk.sites
  exact HP.ok a hk.wl b hw
 ·split
  ·exact HP.ok (hp.hold (kd:=o.kind) (id:=o.a)) hk.wl hk.sites hw
  ·split
   ·exact HP.ok (hp.store (a:=o.a) (b:=o.b) (c:=o.c)) hk.wl hk.sites hw
   ·split
    ·refine HP.ok hp (jH.1.trans hk.wl) hk.sites ?_
     unfold WK
     split
     ·exact hw
     ·rename_i hs
      split
      ·exact hw
      ·rename_i hf
       obtain ⟨f1,f2,f3⟩:=gO hf
       intro i hi
       rw [lH f1]
       split
       ·have hb:=BH (l:=h.BC) (id:=o.a) (by omega)
        have:=(hk.obj (AA h.BC o.a).toNat hb.2.2.2.1).gen
        exact ⟨fun hh=>(by cases hh),fun _=>⟨hb.2.1,by simp only;omega⟩⟩
       ·exact hw i hi
    ·split
     ·refine HP.ok hp (cX.1.trans hk.wl) hk.sites ?_
      unfold PB
      split
      ·exact hw
      ·rename_i hb
       split
       ·exact hw
       ·split
        ·intro i hi
         rw [lH (by omega)]
         split
         ·exact ⟨fun _=>rfl,fun hh=>(by cases hh)⟩
         ·exact hw i hi
        ·split
         ·exact hw
         ·exact hw
     ·split
      ·exact HP.ok hp.tB hk.wl hk.sites hw
      ·exact hk
theorem DQ {x:Int} (h: -1000000≤x∧x≤1000000):F64 x:=⟨by omega,by omega⟩
theorem FV.ZN {h:Hp} (hk:FV h) {x:Int} (hx:0≤AA h.BC x):8≤x∧x≤7999:=by
 have hb:=BH hx
 have:=(hk.obj (AA h.BC x).toNat hb.2.2.2.1).gen
 exact ⟨hb.2.1,by omega⟩
theorem FV.sX {h:Hp} (hk:FV h):Z6 h:=by
 have hp:=hk.hp
 refine ⟨fun o ho=> ?_,fun w hw=> ?_,fun b hb=>DQ (by have:=hk.ZN (hk.UZ hb);omega)⟩
 ·obtain ⟨i,hi,rfl⟩:=List.getElem_of_mem ho
  have hi8:i<8:=by have:=hk.ol;omega
  rw [ID hi]
  have hoi:=hp.obj i hi8
  have hg:=hoi.gen
  have hcb:=hoi.cb
  have hsl:=hk.sites.len
  have hr:=hk.hr i
  have hfd: ∀f∈(ob h.BC i).field,F64 f:=fun f hf=>by
   by_cases h1:f= -1
   ·subst h1;exact DQ (by omega)
   ·exact DQ (by have:=hk.ZN (hoi.lead f hf h1).2;omega)
  cases hv:(ob h.BC i).live with
  | false=>
    have:=hoi.dead hv
    exact ⟨DQ (by omega),DQ (by omega),DQ (by omega),DQ (by omega),DQ (by omega),hfd⟩
  | true=>
    have:=hoi.lv hv
    exact ⟨DQ (by omega),DQ (by omega),DQ (by omega),DQ (by omega),DQ (by omega),hfd⟩
 ·obtain ⟨i,hi,rfl⟩:=List.getElem_of_mem hw
  rw [fV hi]
  have:=hk.weak i (by have:=hk.wl;omega)
  cases hu:(wk h.DO i).used with
  | false=>have:=this.1 hu;exact DQ (by omega)
  | true=>have:=this.2 hu;exact DQ (by omega)
theorem FV.fits {h:Hp} (hk:FV h):Fits h:=(hk.st hk.sX).fits
def hp0:Hp:=⟨List.replicate 8 (CM 0),List.replicate 8 ⟨false,0⟩,[],[]⟩
noncomputable def Z1 (l:List Op5):Nat→Hp×List An
 | 0=>(hp0,[])
 | i+1=>((R9 (Z1 l i).1 (po l i)).1,(Z1 l i).2++[(R9 (Z1 l i).1 (po l i)).2])
end Go.Proofs.Ythapfcoajahegaa.P
namespace Go.Proofs.Ythapfcoajahegaa.P
open Go Go.Proofs.Ythapfcoajahegaa Go.Proofs.Ythapfcoajahegaa.Eng
set_option linter.unusedVariables false
set_option maxRecDepth 100000
end Go.Proofs.Ythapfcoajahegaa.P
namespace Go.Proofs.Ythapfcoajahegaa.P
open Go Go.Proofs.Ythapfcoajahegaa Go.Proofs.Ythapfcoajahegaa.Eng
set_option linter.unusedVariables false
set_option maxHeartbeats 4000000
set_option linter.unusedVariables false
set_option linter.unusedSimpArgs false
attribute [local irreducible] prP gP gE gF AH ixW ldc ldg ldl stc stg scW mkW apW AP cl2 AX C9 BW
variable {w0:World}
theorem sA (o:Op5):tv (nxT (tP o) 0)=I o.kind:=rfl
theorem rK (o:Op5):tv (nxT (tP o) 1)=I o.a:=rfl
theorem r9 (o:Op5):tv (nxT (tP o) 2)=I o.b:=rfl
theorem rQ (o:Op5):tv (nxT (tP o) 3)=I o.c:=rfl
theorem q9 (o:Op5):tv (nxT (tP o) 4)= .string o.site:=rfl
end Go.Proofs.Ythapfcoajahegaa.P
namespace Go.Proofs.Ythapfcoajahegaa.P
open Go Go.Proofs.Ythapfcoajahegaa Go.Proofs.Ythapfcoajahegaa.Eng
set_option linter.unusedVariables false
structure NQ (os0 os:List AE) (freed:List Int):Prop where
 l0:os0.length=8
 len:os.length=8
 gn: ∀i,i<8→(ob os i).gen=(ob os0 i).gen
 sm: ∀i,i<8→(ob os i).live=true→(ob os0 i).live=true∧(ob os i).site=(ob os0 i).site∧(ob os i).holds=(ob os0 i).holds∧(ob os i).roots=(ob os0 i).roots∧(ob os i).field=(ob os0 i).field
 dd: ∀i,i<8→(ob os i).live=false→(ob os0 i).live=true→ob os i=CM (ob os0 i).gen
 d0: ∀i,i<8→(ob os0 i).live=false→ob os i=ob os0 i
 fr: ∀x,x∈freed↔0≤AA os0 x∧AA os x<0
 nd:freed.Nodup
 ct:lvs os+freed.length=lvs os0
theorem NQ.refl {os:List AE} (h:os.length=8):NQ os os []:=⟨h,h,fun _ _=>rfl,fun i _ hv=>⟨hv,rfl,rfl,rfl,rfl⟩,fun i _ h1 h2=>(by rw [h1] at h2;cases h2),fun _ _ _=>rfl,fun x=>⟨fun hx=>(by simp at hx),fun ⟨a,b⟩=>by omega⟩,List.nodup_nil,by simp⟩
theorem NQ.dec {os0 os:List AE} {freed:List Int} {k:Nat} {v:AE} (h:NQ os0 os freed) (hk:k<8) (kv:(ob os k).live=true) (v1:v.live=true) (v2:v.gen=(ob os k).gen) (v3:v.site=(ob os k).site) (v4:v.holds=(ob os k).holds) (v5:v.roots=(ob os k).roots) (v6:v.field=(ob os k).field):NQ os0 (os.set k v) freed:=by
 have hl:=h.len
 have eo: ∀i,ob (os.set k v) i=if i=k then v else ob os i:=fun i=>GA (by omega)
 have sl: ∀x,AA (os.set k v) x=AA os x:=fun x=>FZ (by simp) fun i _=>by
  rw [eo];split
  ·rename_i he;subst he;exact ⟨by rw [v1,kv],v2⟩
  ·exact ⟨rfl,rfl⟩
 refine ⟨h.l0,by simp [hl],fun i hi=> ?_,fun i hi hv=> ?_,fun i hi hv=> ?_,fun i hi hv=> ?_,fun x=>by rw [sl];exact h.fr x,h.nd, ?_⟩
 ·rw [eo];split
  ·rename_i he;subst he;rw [v2];exact h.gn i hi
  ·exact h.gn i hi
 ·rw [eo] at hv ⊢
  by_cases he:i=k
  ·subst he
   rw [if_pos rfl,v3,v4,v5,v6]
   exact h.sm i hi kv
  ·rw [if_neg he] at hv ⊢;exact h.sm i hi hv
 ·rw [eo] at hv ⊢
  by_cases he:i=k
  ·rw [if_pos he,v1] at hv;cases hv
  ·rw [if_neg he] at hv ⊢;exact h.dd i hi hv
 ·rw [eo]
  by_cases he:i=k
  ·subst he
   have:=(h.sm i hi kv).1
   rw [hv] at this;cases this
  ·rw [if_neg he];exact h.d0 i hi hv
 ·have:=S1 (os:=os) (k:=k) (by omega) kv v
  rw [v1,if_pos rfl] at this
  have:=h.ct;omega
theorem NQ.free {os0 os:List AE} {freed:List Int} {k:Nat} {id:Int} (h:NQ os0 os freed) (hk:AA os id=(k:Int)):NQ os0 (os.set k (CM (ob os k).gen)) (freed++[id]):=by
 have hl:=h.len
 have hb:=BH (l:=os) (id:=id) (by omega)
 have ek:(AA os id).toNat=k:=by omega
 rw [ek] at hb
 obtain ⟨_,b1,b2,k8,kv,kg⟩:=hb
 have eo: ∀i,ob (os.set k (CM (ob os k).gen)) i=if i=k then CM (ob os k).gen else ob os i:=fun i=>GA (by omega)
 have s0:AA os0 id=(k:Int):=by
  have e:(id % 8).toNat=k:=by omega
  rw [P4 (by omega) h.l0 (by have:=h.l0;omega) (by rw [e];exact (h.sm k k8 kv).1) (by rw [e, ←h.gn k k8];exact kg)]
  omega
 have sx: ∀x,AA (os.set k (CM (ob os k).gen)) x=if x=id then -1 else AA os x:=fun x=>by
  by_cases hx:x=id
  ·subst hx
   rw [if_pos rfl]
   have e:(x % 8).toNat=k:=by omega
   exact NF (by simp only [List.length_set];omega) (.inl (by rw [e,eo,if_pos rfl];rfl))
  ·rw [if_neg hx]
   by_cases h8:x<8∨os.length≠8
   ·rw [MJ h8,MJ (by simpa using h8)]
   ·have hln:(x % 8).toNat<os.length:=by omega
    by_cases he:(x % 8).toNat=k
    ·have hg:(ob os (x % 8).toNat).gen≠x/8:=fun hg=>hx (by rw [he,kg] at hg;omega)
     rw [NF hln (.inr hg),NF (by simpa using hln) (.inl (by rw [he,eo,if_pos rfl];rfl))]
    ·unfold AA
     rw [if_neg h8,if_neg (by simpa using h8),eo,if_neg he]
 refine ⟨h.l0,by simp [hl],fun i hi=> ?_,fun i hi hv=> ?_,fun i hi hv h0=> ?_,fun i hi hv=> ?_,fun x=> ?_, ?_, ?_⟩
 ·rw [eo];split
  ·rename_i he;subst he;exact h.gn i hi
  ·exact h.gn i hi
 ·rw [eo] at hv ⊢
  by_cases he:i=k
  ·rw [if_pos he] at hv;cases hv
  ·rw [if_neg he] at hv ⊢;exact h.sm i hi hv
 ·rw [eo] at hv ⊢
  by_cases he:i=k
  ·subst he;rw [if_pos rfl,h.gn i hi]
  ·rw [if_neg he] at hv ⊢;exact h.dd i hi hv h0
 ·rw [eo]
  by_cases he:i=k
  ·subst he
   have:=(h.sm i hi kv).1
   rw [hv] at this;cases this
  ·rw [if_neg he];exact h.d0 i hi hv
 ·rw [List.mem_append,List.mem_singleton,h.fr,sx]
  by_cases hx:x=id
  ·subst hx
   rw [if_pos rfl]
   exact ⟨fun _=>⟨by omega,by omega⟩,fun _=> .inr rfl⟩
  ·rw [if_neg hx]
   exact ⟨fun hh=>hh.resolve_right hx, .inl⟩
 ·refine List.nodup_append.2 ⟨h.nd,by simp,fun a ha b hb'=> ?_⟩
  rw [List.mem_singleton.1 hb']
  rintro rfl
  have:=((h.fr a).1 ha).2
  omega
 ·have:=S1 (os:=os) (k:=k) (by omega) kv (CM (ob os k).gen)
  rw [if_neg (by simp [CM])] at this
  have:=h.ct
  rw [List.length_append,List.length_singleton];omega
theorem nX {ns:Nat} {os0:List AE}: ∀(f:Nat) {os:List AE} {buf todo freed:List Int},HP os ns buf todo→freed.length+lvs os≤8→todo.length+4*lvs os<f→NQ os0 os freed→NQ os0 (KD f os buf freed todo).1 (KD f os buf freed todo).2.2:=by
 intro f
 induction f with
 | zero=>intro os buf todo freed _ _ h;omega
 | succ f ih=>
   intro os buf todo freed h h8 hf hR
   cases todo with
   | nil=>exact hR
   | cons id pd=>
     have hs:=h.pd id (by simp)
     obtain ⟨k,hk⟩: ∃k:Nat,AA os id=(k:Int):=⟨(AA os id).toNat,by omega⟩
     obtain ⟨k8,kv,kid,kg1,kg2,kid8,kc,kc1,kF⟩:=h.at hk
     have hkl:k<os.length:=by have:=h.ol;omega
     simp only [KD,hk,Int.toNat_natCast]
     rw [if_neg (by omega),if_neg (by omega)]
     have ew:w64 ((ob os k).count-1)=(ob os k).count-1:=ON ⟨by omega,by have:=kF.2;omega⟩
     rw [ew]
     have lset:=S1 hkl kv
     have lvd: ∀v:AE,v.live=true→lvs (os.set k v)=lvs os:=fun v hv=>by
      have:=lset v
      rw [if_pos hv] at this;omega
     simp only [List.length_cons] at hf
     by_cases hc:(ob os k).count-1>0
     ·rw [if_pos hc]
      have hpk:=((h.obj k k8).lv kv).2.2.2.2.2.2
      rw [←kid] at hpk
      by_cases hp:(ob os k).purple=true
      ·rw [if_pos hp]
       exact ih (h.dec hk rfl rfl rfl rfl rfl rfl rfl (by simp only;omega) (fun x _=>Iff.rfl) hpk h.bnd) (by rw [lvd] <;> first | omega | exact kv) (by rw [lvd] <;> first | omega | exact kv) (hR.dec k8 kv kv rfl rfl rfl rfl rfl)
      ·rw [if_neg hp]
       have hni:id∉buf:=fun hm=>hp (hpk.2 hm)
       exact ih (h.dec hk rfl rfl rfl rfl rfl rfl rfl (by simp only;omega) (fun x hx=>by simp [hx]) (by simp) (List.nodup_append.2 ⟨h.bnd,by simp,fun a ha b hb=>by
        have hb:b=id:=by simpa using hb
        subst hb;intro he;exact hni (he ▸ ha)⟩)) (by rw [lvd] <;> first | omega | exact kv) (by rw [lvd] <;> first | omega | exact kv) (hR.dec k8 kv kv rfl rfl rfl rfl rfl)
     ·rw [if_neg hc]
      have hl:=lset (CM (ob os k).gen)
      rw [if_neg (by simp [CM])] at hl
      have hfl:=List.length_filter_le (fun x=>decide (0≤x)) (ob os k).field
      rw [(h.obj k k8).len] at hfl
      exact ih (h.free hk (by omega)) (by rw [List.length_append,List.length_singleton];omega) (by rw [List.length_append];omega) (hR.free hk)
theorem oE {ns:Nat} {os:List AE} {buf:List Int} {x:Int} (h:HP os ns buf [x]):NQ os (OB os buf [x]).1 (OB os buf [x]).2.2:=by
 have hol:=h.ol
 have:=b9 hol
 exact nX _ h (by simp only [List.length_nil];omega) (by simp only [List.length_singleton];omega) (NQ.refl hol)
end Go.Proofs.Ythapfcoajahegaa.P
namespace Go.Proofs.Ythapfcoajahegaa.P
open Go Go.Proofs.Ythapfcoajahegaa Go.Proofs.Ythapfcoajahegaa.Eng
set_option linter.unusedVariables false
structure aQ (h:Hp) (r:Hp×An):Prop where
 code:0≤r.2.code∧r.2.code≤6
 val: -1≤r.2.val∧r.2.val≤7999
 ref:r.2.code≠0→r.1=h∧r.2.freed=[]
 fr: ∀x∈r.2.freed,0≤AA h.BC x∧AA r.1.BC x<0
 nd:r.2.freed.Nodup
 len:r.2.freed.length≤8
theorem aQ.plain {h h':Hp} {c v:Int} (hc:0≤c∧c≤6) (hv: -1≤v∧v≤7999) (hr:c≠0→h'=h):aQ h (h',⟨c,v,[]⟩):=⟨hc,hv,fun hh=>⟨hr hh,rfl⟩,by simp,List.nodup_nil,by simp⟩
theorem MO.slot {a b:List AE} (h:MO a b) (x:Int):AA b x=AA a x:=FZ h.1 fun i _=>⟨(h.2 i).1,(h.2 i).2.1⟩
theorem Mid.step {h:Hp} {r:List AE×List Int×An} (m:Mid h.BC h.sites.length h.buffer r):aQ h (⟨r.1,h.DO,r.2.1,h.sites⟩,r.2.2):=by
 rcases m with ⟨c,hc,rfl⟩ | ⟨os1,h1,_,_,rfl⟩ | ⟨os1,x,h1,hs,_,rfl⟩
 ·exact aQ.plain ⟨by omega,by omega⟩ (by omega) fun _=>rfl
 ·exact aQ.plain (by decide) (by omega) fun hh=>absurd rfl hh
 ·have R:=oE h1
  have h8:=b9 h1.ol
  have hct:=R.ct
  refine ⟨⟨by simp [PW],by simp [PW]⟩,⟨by simp [PW],by simp [PW]⟩,fun hh=>absurd rfl hh,fun x hx=> ?_,R.nd,by simp only [PW];omega⟩
  obtain ⟨a,b⟩:=(R.fr x).1 hx
  rw [hs.slot] at a
  exact ⟨a,b⟩
end Go.Proofs.Ythapfcoajahegaa.P
namespace Go.Proofs.Ythapfcoajahegaa.P
open Go Go.Proofs.Ythapfcoajahegaa Go.Proofs.Ythapfcoajahegaa.Eng
set_option linter.unusedVariables false
set_option maxHeartbeats 4000000
set_option linter.unusedVariables false
set_option linter.unusedSimpArgs false
attribute [local irreducible] prP gP gE gF AH ixW ldc ldg ldl stc stg scW mkW apW AP cl2 AX C9 BW
variable {w0:World}
structure pX (l:List Int):Prop where
 len:(l.length:Int)<2^62
 all: ∀x∈l,0≤x∧x≤255
theorem pX.at {l:List Int} (h:pX l) {i:Nat} (hi:i<l.length):0≤gI l i∧gI l i≤255:=by rw [←I6 hi];exact h.all _ (List.getElem_mem hi)
structure OpD (o:Op5):Prop where
 k:0≤o.kind∧o.kind≤11
 a: -1≤o.a∧o.a≤7999
 b: -1≤o.b∧o.b≤3
 c: -1≤o.c∧o.c≤7999
 s:o.site.size≤12
theorem OpD.f {o:Op5} (h:OpD o):OpF o:=⟨by have:=h.k;exact ⟨by omega,by omega⟩,by have:=h.a;exact ⟨by omega,by omega⟩,by have:=h.b;exact ⟨by omega,by omega⟩,by have:=h.c;exact ⟨by omega,by omega⟩,by have:=h.s;omega⟩
end Go.Proofs.Ythapfcoajahegaa.P
