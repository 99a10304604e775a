/- A part of the proof. -/
import Derived.Test.YtnhicpkhkaihoaaCkHpR
import Derived.Test.YtnhicpkhkaihoaaCkHpG
namespace Go.Proofs.Ytnhicpkhkaihoaa.P
open Go Go.Proofs.Ytnhicpkhkaihoaa Go.Proofs.Ytnhicpkhkaihoaa.Eng
set_option linter.unusedVariables false
set_option maxHeartbeats 4000000
set_option linter.unusedVariables false
set_option linter.unusedSimpArgs false
attribute [local irreducible] prP gP gE gF AU ixW ldc ldg ldl stc stg scW mkW apW BD cl2 BW FR DK
variable {w0:World}
theorem YJ {os:List AX} {i:Nat} (hi:i<os.length):(os.take (i+1)).map (·.count)=(os.take i).map (·.count)++[(ob os i).count]:=by
 rw [List.take_succ_eq_append_getElem hi,List.map_append,DU hi];rfl
theorem UK {os:List AX} {b c d:List T} {K:J2} (hol:os.length=8) (h:K [] [tI (os.map (·.count)),tI (List.replicate 8 0)]):cl2 ⟨Try.prog,w0⟩ 219 EP.sg [] [tR tO os,b,c,d] K:=by
 refine EP.cl2 ?_
 unfold EP.txt
 simp only [AI,AM,AP,AR,AT,AD,AH,AL,AK,AO,AQ,AJ,AS,AN,BE,BJ,BH,BK,BI,BG,BF,A1,AZ,A5,A7,A6,A4]
 refine BA (fun i=>[iv os.length,iv i]) (fun i=>[tI ((os.take i).map (·.count)),tI (List.replicate i 0)]) os.length (fun _=>True) rfl rfl trivial (fun R i hi hP hR=> ?_)
 have hln:((os.take i).map (·.count)).length=i:=by simp;omega
 have hl2:(List.replicate i (0:Int)).length=i:=List.length_replicate
 simp only [AI,AM,AP,AR,AT,AD,AH,AL,AK,AO,AQ,AJ,AS,AN,BE,BJ,BH,BK,BI,BG,BF,A1,AZ,A5,A7,A6,A4]
 refine AV (AW (fun hlt=> ?_) fun hge=> ?_)
 ·have hlt:i<os.length:=by omega
  replace hR:=hR hlt trivial
  rw [YJ hlt, ←EZ,List.replicate_succ', ←EZ] at hR
  refine BU (AG hlt (OZ hlt ?_))
  simp only [lV]
  exact AV (DN (by omega) (FM rfl (by omega) (FM rfl (by omega) (A8 (by omega) hR))))
 ·have:i=os.length:=by omega
  subst this
  rw [List.take_length,hol];exact h
theorem UL {os:List AX} {b c d:List T} {K:J2} (hol:os.length=8) (h:K [] [tI (os.map (·.count)),tI (List.replicate 8 0)]):cl2 ⟨Try.prog,w0⟩ 194 EU.sg [] [tR tO os,b,c,d] K:=by
 refine EU.cl2 ?_
 unfold EU.txt
 simp only [AI,AM,AP,AR,AT,AD,AH,AL,AK,AO,AQ,AJ,AS,AN,BE,BJ,BH,BK,BI,BG,BF,A1,AZ,A5,A7,A6,A4]
 refine BA (fun i=>[iv i]) (fun i=>[tI ((os.take i).map (·.count)),tI (List.replicate i 0)]) os.length (fun _=>True) rfl rfl trivial (fun R i hi hP hR=> ?_)
 have hln:((os.take i).map (·.count)).length=i:=by simp;omega
 have hl2:(List.replicate i (0:Int)).length=i:=List.length_replicate
 simp only [AI,AM,AP,AR,AT,AD,AH,AL,AK,AO,AQ,AJ,AS,AN,BE,BJ,BH,BK,BI,BG,BF,A1,AZ,A5,A7,A6,A4]
 refine AV (BZ (LY (fun hlt=> ?_) fun hge=> ?_))
 ·have hlt':i<os.length:=by omega
  replace hR:=hR hlt' trivial
  rw [YJ hlt', ←EZ,List.replicate_succ', ←EZ] at hR
  refine AV (EF hlt rfl (DN (by omega) ?_))
  exact AG hlt' (H0 (v:=I (ob os i).count) hlt' (by decide) rfl (FM rfl (by omega) (FM rfl (by omega) (A8 (by omega) hR))))
 ·have:i=os.length:=by omega
  subst this
  refine E9 hge rfl (BN ?_)
  rw [List.take_length,hol];exact h
theorem XW {cs col:List Int} {W:Nat→Bool} {K:J2} (hl:col.length=8) (hw: ∀k,k<8→(gI col k=2↔W k=true)) (h:K [] [tI (CI W 8)]):cl2 ⟨Try.prog,w0⟩ 222 GP.sg [] [tI cs,tI col] K:=by
 refine GP.cl2 ?_
 unfold GP.txt
 simp only [AI,AM,AP,AR,AT,AD,AH,AL,AK,AO,AQ,AJ,AS,AN,BE,BJ,BH,BK,BI,BG,BF,A1,AZ,A5,A7,A6,A4]
 refine BA (fun i=>[iv col.length,iv i]) (fun i=>[tI (CI W i)]) col.length (fun _=>True) rfl rfl trivial (fun R i hi hP hR=> ?_)
 have hln:(CI W i).length≤i:=LD (fun i=>by split <;> simp) i
 simp only [AI,AM,AP,AR,AT,AD,AH,AL,AK,AO,AQ,AJ,AS,AN,BE,BJ,BH,BK,BI,BG,BF,A1,AZ,A5,A7,A6,A4]
 refine AV (AW (fun hlt=> ?_) fun hge=> ?_)
 ·have hlt:i<col.length:=by omega
  replace hR:=hR hlt trivial
  have hwi:=hw i (by omega)
  refine BU (AG hlt (ldI hlt (BT (AW (fun h2=> ?_) fun h2=> ?_))))
  ·have e:CI W (i+1)=CI W i++[(i:Int)]:=by show CI W i++(if W i=true then [(i:Int)] else [])=_;rw [if_pos (hwi.1 h2)]
   rw [e, ←EZ] at hR
   exact FM rfl (by omega) (A8 (by omega) hR)
  ·have e:CI W (i+1)=CI W i:=by show CI W i++(if W i=true then [(i:Int)] else [])=_;rw [if_neg (fun hh=>h2 (hwi.2 hh)),List.append_nil]
   rw [e] at hR
   exact A8 (by omega) hR
 ·have:i=col.length:=by omega
  subst this
  rw [hl];exact h
theorem XP {cs col:List Int} {W:Nat→Bool} {K:J2} (hl:col.length=8) (hw: ∀k,k<8→(gI col k=2↔W k=true)) (h:K [] [tI (CI W 8)]):cl2 ⟨Try.prog,w0⟩ 197 GV.sg [] [tI cs,tI col] K:=by
 refine GV.cl2 ?_
 unfold GV.txt
 simp only [AI,AM,AP,AR,AT,AD,AH,AL,AK,AO,AQ,AJ,AS,AN,BE,BJ,BH,BK,BI,BG,BF,A1,AZ,A5,A7,A6,A4]
 refine BA (fun i=>[iv i]) (fun i=>[tI (CI W i)]) col.length (fun _=>True) rfl rfl trivial (fun R i hi hP hR=> ?_)
 have hln:(CI W i).length≤i:=LD (fun i=>by split <;> simp) i
 simp only [AI,AM,AP,AR,AT,AD,AH,AL,AK,AO,AQ,AJ,AS,AN,BE,BJ,BH,BK,BI,BG,BF,A1,AZ,A5,A7,A6,A4]
 refine AV (AW (fun hlt=> ?_) fun hge=> ?_)
 ·have hlt:i<col.length:=by omega
  replace hR:=hR hlt trivial
  have hwi:=hw i (by omega)
  refine BU (AG hlt (ldI hlt (BT (AW (fun h2=> ?_) fun h2=> ?_))))
  ·have e:CI W (i+1)=CI W i++[(i:Int)]:=by show CI W i++(if W i=true then [(i:Int)] else [])=_;rw [if_pos (hwi.1 h2)]
   rw [e, ←EZ] at hR
   exact FM rfl (by omega) (A8 (by omega) hR)
  ·have e:CI W (i+1)=CI W i:=by show CI W i++(if W i=true then [(i:Int)] else [])=_;rw [if_neg (fun hh=>h2 (hwi.2 hh)),List.append_nil]
   rw [e] at hR
   exact A8 (by omega) hR
 ·have:i=col.length:=by omega
  subst this
  rw [hl];exact h
theorem MK.start {os:List AX} (hol:os.length=8) (hc: ∀o∈os,F64 o.count):MK os (fun i=>(ob os i).count) [] (os.map (·.count)) (List.replicate 8 0):=by
 have hz: ∀k,k<8→gI (List.replicate 8 (0:Int)) k=0:=fun k hk=>by unfold gI;rw [List.getD_eq_getElem?_getD,List.getElem?_replicate,if_pos hk];rfl
 have hcs: ∀i,i<8→gI (os.map (·.count)) i=(ob os i).count:=fun i hi=>by
  rw [←FQ (by simp;omega),List.getElem_map,DU (by omega)]
 have hF: ∀i,i<8→F64 (ob os i).count:=fun i hi=>hc _ (GK (by omega))
 refine ⟨⟨by simp [hol],by simp⟩,fun i hi=>by rw [hcs i hi];exact hF i hi,fun k hk h1=> ?_,fun k hk h1=>⟨hz k hk, ?_⟩,fun i hi=> ?_⟩
 ·rw [hz k hk] at h1;omega
 ·rintro ⟨b,hb,_⟩;simp at hb
 ·have:S os (isC (List.replicate 8 0) 1) i=0:=JZ fun k hk=>by unfold isC;rw [hz k hk];rfl
  rw [hcs i hi,this,Int.sub_zero,M4 (hF i hi)]
theorem vO {os:List AX} {W:Nat→Bool} {j:Nat} (hj:j<(CI W 8).length) {x:Nat} (hx:gI (CI W 8) j=(x:Int)):(fun i:Nat=>if ((i:Nat):Int)∈(CI W 8).take (j+1) then CO (ob os i).gen else ob os i)=fun i=>if i=x then CO (ob os x).gen else (if ((i:Nat):Int)∈(CI W 8).take j then CO (ob os i).gen else ob os i):=by
 funext i
 rw [List.take_succ_eq_append_getElem hj,FQ hj,hx]
 simp only [List.mem_append,List.mem_singleton]
 by_cases hi:i=x
 ·subst hi;simp
 ·have: ¬(i:Int)=(x:Int):=by omega
  simp [hi,this]
def QI (os:List AX) (W:Nat→Bool) (i:Nat):AX:=if W i=true then CO (ob os i).gen else ob os i
theorem iJ (os:List AX) (W:Nat→Bool) (i:Nat):{QI os W i with purple:=false}=DH os W i:=by
 unfold QI DH
 split <;> rfl
theorem PI (os:List AX) (W:Nat→Bool) (i:Nat):(GS os W i).live=(DH os W i).live∧(GS os W i).gen=(DH os W i).gen∧(GS os W i).field=(DH os W i).field:=by
 unfold GS;split <;> exact ⟨rfl,rfl,rfl⟩
theorem dL (os:List AX) (W:Nat→Bool) (i:Nat):(QI os W i).live=(DH os W i).live∧(QI os W i).gen=(DH os W i).gen∧(QI os W i).field=(DH os W i).field:=by
 rw [←iJ];exact ⟨rfl,rfl,rfl⟩
theorem cX {os:List AX} (hof: ∀o∈os,OF o) (hol:os.length=8) (W:Nat→Bool) {i:Nat} (hi:i<8):(DH os W i).field.length=3:=by
 unfold DH
 split
 ·rfl
 ·exact (hof _ (GK (by omega))).len
theorem W4 {h:Hp} {K:J2} (st:St h) (hc: ∀o∈h.BB,F64 o.count) (hK:K [] [tR tO (MR h.BB h.buffer).1,tR tW h.B5,[],tS h.sites,tI (MR h.BB h.buffer).2]):cl2 ⟨Try.prog,w0⟩ 188 FU.sg [] (trees h) K:=by
 refine FU.cl2 ?_
 unfold FU.txt
 refine UB st.fits ?_
 obtain ⟨os,ws,buf,ss⟩:=h
 have hol:os.length=8:=st.ol
 have hof: ∀o∈os,OF o:=st.of
 have hb:buf.length≤100:=st.bl
 have hbf: ∀x∈buf,F64 x:=st.bf
 simp only at hc hK
 simp only [trees]
 obtain ⟨ct,hct⟩: ∃ct:Nat→Int,ct=fun i=>(ob os i).count:=⟨_,rfl⟩
 obtain ⟨W,hW⟩: ∃W,W=LJ os ct buf:=⟨_,rfl⟩
 unfold MR at hK
 rw [←hct, ←hW] at hK
 simp only [AI,AM,AP,AR,AT,AD,AH,AL,AK,AO,AQ,AJ,AS,AN,BE,BJ,BH,BK,BI,BG,BF,A1,AZ,A5,A7,A6,A4]
 refine B6 (B2 (by omega) (UK hol ?_))
 refine FF (α:=Nat×List Int×List Int) (fun q=>[iv buf.length,iv q.1]) (fun q=>[tR tO os,tR tW ws,tI buf,tS ss,tI q.2.1,tI q.2.2]) (fun q=>buf.length-q.1) (fun q=>q.1≤buf.length∧MK os ct (buf.take q.1) q.2.1 q.2.2) (0,os.map (·.count),List.replicate 8 0) rfl rfl ⟨Nat.zero_le _,by rw [hct];exact MK.start hol hc⟩ (fun R q hq hR=> ?_)
 obtain ⟨i,cs,col⟩:=q
 obtain ⟨hi,mk⟩:=hq
 simp only at hi mk
 simp only [AI,AM,AP,AR,AT,AD,AH,AL,AK,AO,AQ,AJ,AS,AN,BE,BJ,BH,BK,BI,BG,BF,A1,AZ,A5,A7,A6,A4]
 refine AV (AW (fun hlt=> ?_) fun hge=> ?_)
 ·have hlt:i<buf.length:=by omega
  have hx:=hbf _ (EG hlt)
  have nx:=fun cs' col' (m:MK os ct (buf.take i++[gI buf i]) cs' col')=>hR (i+1,cs',col') ⟨by simp only;omega,by simp only;rw [List.take_succ_eq_append_getElem hlt,FQ hlt];exact m⟩ (by simp only;omega)
  refine AG hlt (ldI hlt (DA hx (by omega) (UJ hol hof mk.len.1 mk.len.2 mk.f (fun hn=> ?_) fun s hs s8 cs' col' p=> ?_)))
  ·exact A8 (by omega) (nx _ _ (mk.none hn))
  ·exact A8 (by omega) (nx _ _ (mk.some hs s8 p))
 have:i=buf.length:=by omega
 subst this
 rw [List.take_length] at mk
 refine FF (α:=Nat×List Int×List Int) (fun q=>[iv buf.length,iv q.1]) (fun q=>[tR tO os,tR tW ws,tI buf,tS ss,tI q.2.1,tI q.2.2]) (fun q=>buf.length-q.1) (fun q=>q.1≤buf.length∧SC os ct buf (buf.take q.1) q.2.1 q.2.2) (0,cs,col) rfl rfl ⟨Nat.zero_le _,SC.start mk⟩ (fun R q hq hR=> ?_)
 obtain ⟨i,cs,col⟩:=q
 obtain ⟨hi,sc⟩:=hq
 simp only at hi sc
 simp only [AI,AM,AP,AR,AT,AD,AH,AL,AK,AO,AQ,AJ,AS,AN,BE,BJ,BH,BK,BI,BG,BF,A1,AZ,A5,A7,A6,A4]
 refine AV (AW (fun hlt=> ?_) fun hge=> ?_)
 ·have hlt:i<buf.length:=by omega
  have hx:=hbf _ (EG hlt)
  have nx:=fun cs' col' (m:SC os ct buf (buf.take i++[gI buf i]) cs' col')=>hR (i+1,cs',col') ⟨by simp only;omega,by simp only;rw [List.take_succ_eq_append_getElem hlt,FQ hlt];exact m⟩ (by simp only;omega)
  refine AG hlt (ldI hlt (DA hx (by omega) (UM hol hof sc.si (fun hn=> ?_) fun s hs s8 cs' col' p=> ?_)))
  ·exact A8 (by omega) (nx _ _ (sc.none hn))
  ·exact A8 (by omega) (nx _ _ (sc.some hs s8 p))
 have:i=buf.length:=by omega
 subst this
 rw [List.take_length] at sc
 have wh:=sc.stop
 rw [←hW] at wh
 refine XW sc.si.len.2 wh ?_
 clear hR sc mk
 have hwn:(CI W 8).length≤8:=LD (fun i=>by split <;> simp) 8
 refine BA (fun j=>[iv (CI W 8).length,iv j]) (fun j=>[tI (((CI W 8).take j).map fun x=>CQ x (ob os x.toNat).gen),tI (CI W 8),tR tO (mk8 fun i=>if ((i:Nat):Int)∈(CI W 8).take j then CO (ob os i).gen else ob os i),tR tW ws,tI buf,tS ss]) (CI W 8).length (fun _=>True) (by simp only [AI,AM,AP,AR,AT,AD,AH,AL,AK,AO,AQ,AJ,AS,AN,BE,BJ,BH,BK,BI,BG,BF,A1,AZ,A5,A7,A6,A4];rfl) ?_ trivial (fun R j hj hP hR=> ?_)
 ·simp only [List.take_zero,List.map_nil,List.not_mem_nil,if_false]
  rw [←W3 hol];rfl
 have hln:(((CI W 8).take j).map fun x=>CQ x (ob os x.toNat).gen).length=j:=by simp;omega
 simp only [AI,AM,AP,AR,AT,AD,AH,AL,AK,AO,AQ,AJ,AS,AN,BE,BJ,BH,BK,BI,BG,BF,A1,AZ,A5,A7,A6,A4]
 simp only [CF]
 refine AV (AW (fun hlt=> ?_) fun hge=> ?_)
 ·have hlt:j<(CI W 8).length:=by omega
  replace hR:=hR hlt trivial
  obtain ⟨x,x8,hx,hwx⟩:=LB.1 (EG hlt)
  have xl:x<os.length:=by omega
  rw [vO hlt hx,List.take_succ_eq_append_getElem hlt,List.map_append,FQ hlt,hx, ←N6 x8] at hR
  refine AG hlt (ldI hlt ?_)
  rw [hx]
  refine AG xl (H0 (v:=I (ob os x).gen) xl (by decide) rfl (MI (FM rfl (by omega) (AG xl (H0 (v:=I (ob os x).gen) xl (by decide) rfl (PE (AG (by omega) ?_)))))))
  refine KQ (f:=tO) (by rw [CF];exact x8) (y:=CO (ob os x).gen) rfl (A8 (by omega) ?_)
  simp only [List.map_cons,List.map_nil,Int.toNat_natCast] at hR
  rw [←EZ] at hR
  exact hR
 have:j=(CI W 8).length:=by omega
 subst this
 have e1:(fun i:Nat=>if ((i:Nat):Int)∈(CI W 8).take (CI W 8).length then CO (ob os i).gen else ob os i)=fun i=>if ((i:Nat):Int)∈CI W 8 then CO (ob os i).gen else ob os i:=by rw [List.take_length]
 have e2:mk8 (fun i=>if ((i:Nat):Int)∈CI W 8 then CO (ob os i).gen else ob os i)=mk8 (QI os W):=I9 fun i hi=>by
  unfold QI
  by_cases hw:W i=true
  ·rw [if_pos hw,if_pos (LB.2 ⟨i,hi,rfl,hw⟩)]
  ·rw [if_neg hw,if_neg fun hm=>hw (by obtain ⟨k,_,h2,h3⟩:=LB.1 hm;have:k=i:=by omega
                                       subst this;exact h3)]
 rw [e1,e2,List.take_length,bM]
 clear hR e1 e2
 refine BA (fun i=>[iv 8,iv i]) (fun i=>[tI (JV os W 8),tR tO (mk8 fun k=>if k<i then GS os W k else QI os W k),tR tW ws,tI buf,tS ss]) 8 (fun _=>True) rfl rfl trivial (fun R i hi hP hR=> ?_)
 simp only [AI,AM,AP,AR,AT,AD,AH,AL,AK,AO,AQ,AJ,AS,AN,BE,BJ,BH,BK,BI,BG,BF,A1,AZ,A5,A7,A6,A4]
 simp only [CF]
 refine AV (AW (fun hlt=> ?_) fun hge=> ?_)
 ·have hlt:i<8:=by omega
  replace hR:=hR hlt trivial
  have hml:i<(mk8 fun k=>if k<i then GS os W k else QI os W k).length:=by rw [CF];exact hlt
  have hoi:(mk8 fun k=>if k<i then GS os W k else QI os W k)[i]=QI os W i:=by rw [DU hml,H4 hlt,if_neg (by omega)]
  have hset: ∀v,v=GS os W i→(mk8 fun k=>if k<i then GS os W k else QI os W k).set i v=mk8 fun k=>if k<i+1 then GS os W k else QI os W k:=fun v hv=>by
   rw [N6 hlt]
   refine I9 fun k hk=> ?_
   by_cases h1:k=i
   ·subst h1;rw [if_pos rfl,if_pos (by omega),hv]
   ·rw [if_neg h1]
    by_cases h2:k<i
    ·rw [if_pos h2,if_pos (by omega)]
    ·rw [if_neg h2,if_neg (by omega)]
  have hin: ∀v,v=DH os W i→inE ((mk8 fun k=>if k<i then GS os W k else QI os W k).set i v) i=inE (mk8 (DH os W)) i:=fun v hv=>by
   rw [N6 hlt]
   refine mN (by rw [CF,CF]) fun k hk=> ?_
   rw [CF] at hk
   rw [H4 hk,H4 hk]
   by_cases h1:k=i
   ·subst h1;rw [if_pos rfl,hv];exact ⟨rfl,rfl,rfl⟩
   ·rw [if_neg h1]
    by_cases h2:k<i
    ·rw [if_pos h2];exact PI os W k
    ·rw [if_neg h2];exact dL os W k
  have hlen3: ∀o∈(mk8 fun k=>if k<i then GS os W k else QI os W k).set i (DH os W i),(o.field.length:Int)≤1048576:=fun o ho=>by
   rw [N6 hlt] at ho
   obtain ⟨k,hk,rfl⟩:=U1 ho
   have hm:=cX hof hol W hk
   by_cases h1:k=i
   ·subst h1;rw [if_pos rfl];omega
   ·rw [if_neg h1]
    by_cases h2:k<i
    ·rw [if_pos h2,(PI os W k).2.2];omega
    ·rw [if_neg h2,(dL os W k).2.2];omega
  generalize (mk8 fun k=>if k<i then GS os W k else QI os W k)=M at hml hoi hset hin hlen3 ⊢
  have hM8:M.length=8:=by have:=congrArg List.length (hset (GS os W i) rfl);rw [List.length_set,CF] at this;exact this
  refine BU (AG hlt ?_)
  refine TK (f:=tO) (c:=7) (y:={M[i] with purple:=false}) hml (by decide) rfl rfl ?_
  rw [hoi,iJ]
  refine mZ (v:= .bool (DH os W i).live) hml rfl ?_
  cases hv:(DH os W i).live with
  | true=>
    refine B4 (HX (v:=I (DH os W i).holds) hml (by decide) rfl (HX (v:=I (DH os W i).roots) hml (by decide) rfl (HS ?_)))
    refine WY ⟨by omega,by omega⟩ (by rw [List.length_set,hM8];decide) hlen3 ?_
    rw [hin _ rfl]
    refine HS (GF hml ?_)
    rw [hset _ (by unfold GS;rw [if_pos hv])]
    exact A8 (by omega) hR
  | false=>
    refine BN ?_
    rw [hset _ (by unfold GS;rw [if_neg (by rw [hv];decide)])]
    exact A8 (by omega) hR
 ·have:i=8:=by omega
  subst this
  rw [I9 (g:=GS os W) fun k hk=>if_pos hk]
  exact hK
theorem mW {a b c d e f g:List T} {l:List (List T)}:nxc (a::b::c::d::e::f::g::l) 6=g:=rfl
theorem XE {h:Hp} {K:J2} (st:St h) (hc: ∀o∈h.BB,F64 o.count) (hK:K [] [tR tO (MR h.BB h.buffer).1,tR tW h.B5,[],tS h.sites,tI (MR h.BB h.buffer).2]):cl2 ⟨Try.prog,w0⟩ 140 FV.sg [] (trees h) K:=by
 refine FV.cl2 ?_
 unfold FV.txt
 refine KA st.fits ?_
 obtain ⟨os,ws,buf,ss⟩:=h
 have hol:os.length=8:=st.ol
 have hof: ∀o∈os,OF o:=st.of
 have hb:buf.length≤100:=st.bl
 have hbf: ∀x∈buf,F64 x:=st.bf
 simp only at hc hK
 simp only [trees]
 obtain ⟨ct,hct⟩: ∃ct:Nat→Int,ct=fun i=>(ob os i).count:=⟨_,rfl⟩
 obtain ⟨W,hW⟩: ∃W,W=LJ os ct buf:=⟨_,rfl⟩
 unfold MR at hK
 rw [←hct, ←hW] at hK
 simp only [AI,AM,AP,AR,AT,AD,AH,AL,AK,AO,AQ,AJ,AS,AN,BE,BJ,BH,BK,BI,BG,BF,A1,AZ,A5,A7,A6,A4]
 refine B6 (B2 (by omega) (UL hol ?_))
 refine FF (α:=Nat×List Int×List Int) (fun q=>[iv q.1]) (fun q=>[[],tR tO os,tR tW ws,tI buf,tS ss,tI q.2.1,tI q.2.2]) (fun q=>buf.length-q.1) (fun q=>q.1≤buf.length∧MK os ct (buf.take q.1) q.2.1 q.2.2) (0,os.map (·.count),List.replicate 8 0) rfl rfl ⟨Nat.zero_le _,by rw [hct];exact MK.start hol hc⟩ (fun R q hq hR=> ?_)
 obtain ⟨i,cs,col⟩:=q
 obtain ⟨hi,mk⟩:=hq
 simp only at hi mk
 simp only [AI,AM,AP,AR,AT,AD,AH,AL,AK,AO,AQ,AJ,AS,AN,BE,BJ,BH,BK,BI,BG,BF,A1,AZ,A5,A7,A6,A4]
 simp only [mW]
 refine AV (AW (fun hlt=> ?_) fun hge=> ?_)
 ·have hlt:i<buf.length:=by omega
  have hx:=hbf _ (EG hlt)
  have nx:=fun cs' col' (m:MK os ct (buf.take i++[gI buf i]) cs' col')=>hR (i+1,cs',col') ⟨by simp only;omega,by simp only;rw [List.take_succ_eq_append_getElem hlt,FQ hlt];exact m⟩ (by simp only;omega)
  refine AG hlt (ldI hlt (CJ hx (by omega) (UD hol hof mk.len.1 mk.len.2 mk.f (fun hn=> ?_) fun s hs s8 cs' col' p=> ?_)))
  ·exact A8 (by omega) (nx _ _ (mk.none hn))
  ·exact A8 (by omega) (nx _ _ (mk.some hs s8 p))
 have:i=buf.length:=by omega
 subst this
 rw [List.take_length] at mk
 refine FF (α:=Nat×List Int×List Int) (fun q=>[iv q.1]) (fun q=>[[],tR tO os,tR tW ws,tI buf,tS ss,tI q.2.1,tI q.2.2]) (fun q=>buf.length-q.1) (fun q=>q.1≤buf.length∧SC os ct buf (buf.take q.1) q.2.1 q.2.2) (0,cs,col) rfl rfl ⟨Nat.zero_le _,SC.start mk⟩ (fun R q hq hR=> ?_)
 obtain ⟨i,cs,col⟩:=q
 obtain ⟨hi,sc⟩:=hq
 simp only at hi sc
 simp only [AI,AM,AP,AR,AT,AD,AH,AL,AK,AO,AQ,AJ,AS,AN,BE,BJ,BH,BK,BI,BG,BF,A1,AZ,A5,A7,A6,A4]
 simp only [mW]
 refine AV (AW (fun hlt=> ?_) fun hge=> ?_)
 ·have hlt:i<buf.length:=by omega
  have hx:=hbf _ (EG hlt)
  have nx:=fun cs' col' (m:SC os ct buf (buf.take i++[gI buf i]) cs' col')=>hR (i+1,cs',col') ⟨by simp only;omega,by simp only;rw [List.take_succ_eq_append_getElem hlt,FQ hlt];exact m⟩ (by simp only;omega)
  refine AG hlt (ldI hlt (CJ hx (by omega) (UC hol hof sc.si (fun hn=> ?_) fun s hs s8 cs' col' p=> ?_)))
  ·exact A8 (by omega) (nx _ _ (sc.none hn))
  ·exact A8 (by omega) (nx _ _ (sc.some hs s8 p))
 have:i=buf.length:=by omega
 subst this
 rw [List.take_length] at sc
 have wh:=sc.stop
 rw [←hW] at wh
 refine XP sc.si.len.2 wh ?_
 clear hR sc mk
 have hwn:(CI W 8).length≤8:=LD (fun i=>by split <;> simp) 8
 refine BA (fun i=>[iv i]) (fun i=>[tI (JV os W i),tI (CI W 8),tR tO (mk8 fun k=>if k<i then DH os W k else ob os k),tR tW ws,tI buf,tS ss]) 8 (fun _=>True) rfl ?_ trivial (fun R i hi hP hR=> ?_)
 ·simp only [Nat.not_lt_zero,if_false]
  rw [←W3 hol];rfl
 have hln:(JV os W i).length≤i:=LD (fun i=>by split <;> simp) i
 simp only [AI,AM,AP,AR,AT,AD,AH,AL,AK,AO,AQ,AJ,AS,AN,BE,BJ,BH,BK,BI,BG,BF,A1,AZ,A5,A7,A6,A4]
 simp only [mW,CF]
 refine AV (AW (fun hlt=> ?_) fun hge=> ?_)
 ·have hlt:i<8:=by omega
  replace hR:=hR hlt trivial
  have hml:i<(mk8 fun k=>if k<i then DH os W k else ob os k).length:=by rw [CF];exact hlt
  have hoi:(mk8 fun k=>if k<i then DH os W k else ob os k)[i]=ob os i:=by rw [DU hml,H4 hlt,if_neg (by omega)]
  have hset: ∀v,v=DH os W i→(mk8 fun k=>if k<i then DH os W k else ob os k).set i v=mk8 fun k=>if k<i+1 then DH os W k else ob os k:=fun v hv=>by
   rw [N6 hlt]
   refine I9 fun k hk=> ?_
   by_cases h1:k=i
   ·subst h1;rw [if_pos rfl,if_pos (by omega),hv]
   ·rw [if_neg h1]
    by_cases h2:k<i
    ·rw [if_pos h2,if_pos (by omega)]
    ·rw [if_neg h2,if_neg (by omega)]
  generalize (mk8 fun k=>if k<i then DH os W k else ob os k)=M at hml hoi hset ⊢
  have hM8:M.length=8:=by have:=congrArg List.length (hset (DH os W i) rfl);rw [List.length_set,CF] at this;exact this
  have io:i<os.length:=by omega
  refine BU (AG hlt ?_)
  refine TK (f:=tO) (c:=7) (y:={M[i] with purple:=false}) hml (by decide) rfl rfl ?_
  rw [hoi]
  refine OG (by omega) (AW (fun hm=> ?_) fun hm=> ?_)
  ·have hw:W i=true:=by
    obtain ⟨k,_,h2,h3⟩:=LB.1 hm
    have:k=i:=by omega
    subst this;exact h3
   have ef:JV os W (i+1)=JV os W i++[CQ i (ob os i).gen]:=by show JV os W i++(if W i=true then [CQ i (ob os i).gen] else [])=_;rw [if_pos hw]
   rw [ef, ←EZ, ←hset (CO (ob os i).gen) (by unfold DH;rw [if_pos hw])] at hR
   refine AG io (H0 (v:=I (ob os i).gen) io (by decide) rfl (KF (FM rfl (by omega) (AG io (H0 (v:=I (ob os i).gen) io (by decide) rfl (IV ?_))))))
   simp only [AI,AM,AP,AR,AT,AD,AH,AL,AK,AO,AQ,AJ,AS,AN,BE,BJ,BH,BK,BI,BG,BF,A1,AZ,A5,A7,A6,A4]
   simp only [List.length_set,hM8]
   refine AG hlt (KQ (f:=tO) (by rw [List.length_set];exact hml) (y:=CO (ob os i).gen) rfl ?_)
   rw [List.set_set]
   exact A8 (by omega) hR
  ·have hw: ¬W i=true:=fun hw=>hm (LB.2 ⟨i,hlt,rfl,hw⟩)
   have ef:JV os W (i+1)=JV os W i:=by show JV os W i++(if W i=true then [CQ i (ob os i).gen] else [])=_;rw [if_neg hw,List.append_nil]
   rw [ef, ←hset {ob os i with purple:=false} (by unfold DH;rw [if_neg hw])] at hR
   exact A8 (by omega) hR
 have:i=8:=by omega
 subst this
 rw [I9 (g:=DH os W) fun k hk=>if_pos hk]
 clear hR
 refine BA (fun i=>[iv i]) (fun i=>[tI (JV os W 8),tR tO (mk8 fun k=>if k<i then GS os W k else DH os W k),tR tW ws,tI buf,tS ss]) 8 (fun _=>True) rfl rfl trivial (fun R i hi hP hR=> ?_)
 simp only [AI,AM,AP,AR,AT,AD,AH,AL,AK,AO,AQ,AJ,AS,AN,BE,BJ,BH,BK,BI,BG,BF,A1,AZ,A5,A7,A6,A4]
 simp only [CF]
 refine AV (AW (fun hlt=> ?_) fun hge=> ?_)
 ·have hlt:i<8:=by omega
  replace hR:=hR hlt trivial
  have hml:i<(mk8 fun k=>if k<i then GS os W k else DH os W k).length:=by rw [CF];exact hlt
  have hoi:(mk8 fun k=>if k<i then GS os W k else DH os W k)[i]=DH os W i:=by rw [DU hml,H4 hlt,if_neg (by omega)]
  have hset: ∀v,v=GS os W i→(mk8 fun k=>if k<i then GS os W k else DH os W k).set i v=mk8 fun k=>if k<i+1 then GS os W k else DH os W k:=fun v hv=>by
   rw [N6 hlt]
   refine I9 fun k hk=> ?_
   by_cases h1:k=i
   ·subst h1;rw [if_pos rfl,if_pos (by omega),hv]
   ·rw [if_neg h1]
    by_cases h2:k<i
    ·rw [if_pos h2,if_pos (by omega)]
    ·rw [if_neg h2,if_neg (by omega)]
  have hin:inE (mk8 fun k=>if k<i then GS os W k else DH os W k) i=inE (mk8 (DH os W)) i:=by
   refine mN (by rw [CF,CF]) fun k hk=> ?_
   rw [CF] at hk
   rw [H4 hk,H4 hk]
   by_cases h2:k<i
   ·rw [if_pos h2];exact PI os W k
   ·rw [if_neg h2];exact ⟨rfl,rfl,rfl⟩
  have hlen3: ∀o∈(mk8 fun k=>if k<i then GS os W k else DH os W k),(o.field.length:Int)≤1048576:=fun o ho=>by
   obtain ⟨k,hk,rfl⟩:=U1 ho
   have hm:=cX hof hol W hk
   by_cases h2:k<i
   ·rw [if_pos h2,(PI os W k).2.2];omega
   ·rw [if_neg h2];omega
  generalize (mk8 fun k=>if k<i then GS os W k else DH os W k)=M at hml hoi hset hin hlen3 ⊢
  have hM8:M.length=8:=by have:=congrArg List.length (hset (GS os W i) rfl);rw [List.length_set,CF] at this;exact this
  have hMs:M=M.set i (DH os W i):=by rw [←hoi,List.set_getElem_self]
  refine BU (AG hlt ?_)
  cases hv:(DH os W i).live with
  | true=>
    refine N4 (f:=tO) (v:= .bool true) hml (by rw [hoi];simp [tO,hv]) (B4 (AG hlt ?_))
    refine N0 (f:=tO) (v:=I (DH os W i).holds) hml (by decide) (by rw [hoi];rfl) (AG hlt ?_)
    refine N0 (f:=tO) (v:=I (DH os W i).roots) hml (by decide) (by rw [hoi];rfl) (HS ?_)
    refine PT ⟨by omega,by omega⟩ (by rw [hM8];decide) hlen3 ?_
    rw [hin]
    refine HS (AG hlt ?_)
    rw [hMs]
    refine GF hml ?_
    rw [hset _ (by unfold GS;rw [if_pos hv])]
    exact A8 (by omega) hR
  | false=>
    refine N4 (f:=tO) (v:= .bool false) hml (by rw [hoi];simp [tO,hv]) (BN ?_)
    rw [hMs,hset _ (by unfold GS;rw [if_neg (by rw [hv];decide)])]
    exact A8 (by omega) hR
 ·have:i=8:=by omega
  subst this
  rw [I9 (g:=GS os W) fun k hk=>if_pos hk]
  exact hK
end Go.Proofs.Ytnhicpkhkaihoaa.P
namespace Go.Proofs.Ytnhicpkhkaihoaa.P
open Go Go.Proofs.Ytnhicpkhkaihoaa Go.Proofs.Ytnhicpkhkaihoaa.Eng
set_option linter.unusedVariables false
set_option maxHeartbeats 4000000
set_option linter.unusedVariables false
set_option linter.unusedSimpArgs false
attribute [local irreducible] prP gP gE gF AU ixW ldc ldg ldl stc stg scW mkW apW BD cl2 BW FR DK
variable {w0:World}
noncomputable def JG (h:Hp) (o:Op5):Hp×An:=
 if o.kind=1 then (⟨(FN h.BB h.sites o.site).1,h.B5,h.buffer,(FN h.BB h.sites o.site).2.1⟩,(FN h.BB h.sites o.site).2.2) else
 if o.kind=2∨o.kind=3∨o.kind=5∨o.kind=6 then (⟨(H8 h.BB h.buffer o.kind o.a).1,h.B5,(H8 h.BB h.buffer o.kind o.a).2.1,h.sites⟩,(H8 h.BB h.buffer o.kind o.a).2.2) else
 if o.kind=4 then (⟨(GG h.BB h.buffer o.a o.b o.c).1,h.B5,(GG h.BB h.buffer o.a o.b o.c).2.1,h.sites⟩,(GG h.BB h.buffer o.a o.b o.c).2.2) else
 if o.kind=7 then (⟨h.BB,(KV h.BB h.B5 o.a).1,h.buffer,h.sites⟩,(KV h.BB h.B5 o.a).2) else
 if o.kind=8∨o.kind=9 then (⟨h.BB,(G8 h.BB h.B5 o.kind o.a).1,h.buffer,h.sites⟩,(G8 h.BB h.B5 o.kind o.a).2) else
 if o.kind=10 then (⟨(MR h.BB h.buffer).1,h.B5,[],h.sites⟩,⟨0,0,(MR h.BB h.buffer).2⟩) else (h,⟨2,0,[]⟩)
theorem gA {α:Type} [Inhabited α] {l:List α} (h: ∀i (hi:i<l.length),l[i]∉l.take i):l.Nodup:=by
 refine List.pairwise_iff_getElem.2 fun i j hi hj hij he=>h j hj ?_
 rw [←he]
 exact List.mem_take_iff_getElem.2 ⟨i,by omega,rfl⟩
theorem few {n:Nat}: ∀{l:List Int} (g:Int→Nat),l.Nodup→(∀x∈l,g x<n)→(∀x∈l, ∀y∈l,g x=g y→x=y)→l.length≤n:=by
 induction n with
 | zero=>
   intro l g _ h _
   cases l with
   | nil=>simp
   | cons x l=>exact absurd (h x (by simp)) (by omega)
 | succ n ih=>
   intro l g hn h hi
   by_cases hx: ∃x∈l,g x=n
   ·obtain ⟨x,hx,hg⟩:=hx
    have:=ih (l:=l.erase x) g (hn.erase x) (fun y hy=>by
     have hy':=List.mem_of_mem_erase hy
     have:=h y hy'
     have hne:g y≠n:=fun he=>by
      have:y=x:=hi y hy' x hx (by omega)
      subst this
      exact (List.Nodup.not_mem_erase hn) hy
     omega) fun y hy z hz=>hi y (List.mem_of_mem_erase hy) z (List.mem_of_mem_erase hz)
    rw [List.length_erase_of_mem hx] at this
    omega
   ·have:=ih g hn (fun y hy=>by
     have:=h y hy
     have:g y≠n:=fun he=>hx ⟨y,hy,he⟩
     omega) hi
    omega
theorem DO.bnd {h:Hp} (hk:DO h):h.buffer.Nodup:=gA fun i hi=>by rw [FQ hi];exact (hk.buf i hi).2
theorem DO.VL {h:Hp} (hk:DO h) {x:Int} (hx:x∈h.buffer):0≤AB h.BB x:=by
 obtain ⟨i,hi,rfl⟩:=List.getElem_of_mem hx
 rw [FQ hi];exact (hk.buf i hi).1
theorem eT {l:List AX} {x y:Int} (hx:0≤AB l x) (hy:0≤AB l y) (h:AB l x=AB l y):x=y:=by
 have a:=BL hx;have b:=BL hy
 have e1:=a.2.2.2.2.2;have e2:=b.2.2.2.2.2
 rw [h] at e1
 omega
theorem DO.vV {h:Hp} (hk:DO h):h.buffer.length≤8:=
 few (fun x=>(AB h.BB x).toNat) hk.bnd (fun x hx=>(BL (hk.VL hx)).2.2.2.1) fun x hx y hy he=>eT (hk.VL hx) (hk.VL hy) (by have:=hk.VL hx;have:=hk.VL hy;omega)
theorem DO.st {h:Hp} (hk:DO h) (hn:XJ h):St h:=by
 refine ⟨hk.ol,hk.wl,hk.sites.len,by have:=hk.vV;omega,fun o ho=> ?_,fun s hs=> ?_,hn.weak,hn.buf⟩
 ·obtain ⟨i,hi,rfl⟩:=List.getElem_of_mem ho
  have hi8:i<8:=by have:=hk.ol;omega
  have:=hn.obj _ ho
  rw [DU hi] at this ⊢
  exact ⟨this.1,(hk.obj i hi8).len,this.2.2.2.2.2⟩
 ·obtain ⟨i,hi,rfl⟩:=List.getElem_of_mem hs
  have:=(hk.sites.sz i hi).2
  rw [TO hi];omega
theorem DO.hr {h:Hp} (hk:DO h) (i:Nat):(0≤(ob h.BB i).holds∧(ob h.BB i).holds≤20)∧(0≤(ob h.BB i).roots∧(ob h.BB i).roots≤20):=by
 by_cases hi:i<8
 ·cases hv:(ob h.BB i).live with
  | true=>exact ⟨((hk.obj i hi).lv hv).2.2.1,((hk.obj i hi).lv hv).2.2.2.1⟩
  | false=>have:=(hk.obj i hi).dead hv;omega
 ·have:ob h.BB i=⟨false,0,0,0,0,0,[],false⟩:=by unfold ob;rw [List.getD_eq_getElem?_getD,List.getElem?_eq_none (by have:=hk.ol;omega)];rfl
  rw [this];simp
theorem DO.fd {h:Hp} (hk:DO h) (i:Nat): ∀f∈(ob h.BB i).field,f= -1∨0≤f:=by
 intro f hf
 by_cases hi:i<8
 ·obtain ⟨j,hj,rfl⟩:=List.getElem_of_mem hf
  have ho:=hk.obj i hi
  by_cases h1:gI (ob h.BB i).field j= -1
  ·left;rw [FQ hj];exact h1
  ·right
   have:=BL (ho.lead j (by have:=ho.len;omega) h1).2
   rw [FQ hj];omega
 ·have:ob h.BB i=⟨false,0,0,0,0,0,[],false⟩:=by unfold ob;rw [List.getD_eq_getElem?_getD,List.getElem?_eq_none (by have:=hk.ol;omega)];rfl
  rw [this] at hf;simp at hf
theorem kinds (k:Int):k=1∨(k=2∨k=3∨k=5∨k=6)∨k=4∨k=7∨(k=8∨k=9)∨k=10∨ ¬(k=1∨k=2∨k=3∨k=4∨k=5∨k=6∨k=7∨k=8∨k=9∨k=10):=by omega
theorem ZT {h:Hp} {o:Op5} {K:J2} (hk:DO h) (hn:XJ h) (ha:F64 o.a) (hc:F64 o.c) (hK:K [I (JG h o).2.code,I (JG h o).2.val] (tI (JG h o).2.freed::trees (JG h o).1)):cl2 ⟨Try.prog,w0⟩ 131 DS.sg [I o.kind,I o.a,I o.b,I o.c, .string o.site] (trees h) K:=by
 have st:=hk.st hn
 have hr:=hk.hr
 refine DS.cl2 ?_
 unfold DS.txt
 obtain ⟨os,ws,buf,ss⟩:=h
 obtain ⟨kd,a,b,c,s⟩:=o
 have hol:os.length=8:=st.ol
 have hof: ∀o∈os,OF o:=st.of
 have hb:buf.length≤100:=st.bl
 simp only at ha hc hr
 simp only [trees]
 unfold JG at hK
 simp only at hK
 rcases kinds kd with rfl | hkd | rfl | rfl | hkd | rfl | hkd
 ·rw [if_pos rfl] at hK
  exact BT (DN rfl (bJ hol st.sl hK))
 ·rw [if_neg (by omega),if_pos hkd] at hK
  have cc:=fun {K:J2}=>XH (w0:=w0) (os:=os) (buf:=buf) (b:=tR tW ws) (d:=tS ss) (kind:=kd) (id:=a) (K:=K) hol hof hb ha hkd hr
  rcases hkd with rfl | rfl | rfl | rfl
  all_goals
   repeat' (first | refine BU ?_ | refine B4 ?_ | refine BN ?_ | refine BT ?_ | simp only [AI,AM,AP,AR,AT,AD,AH,AL,AK,AO,AQ,AJ,AS,AN,BE,BJ,BH,BK,BI,BG,BF,A1,AZ,A5,A7,A6,A4])
   exact cc hK
 ·simp only [if_neg (show ¬(4:Int)=1 by decide),if_neg (show ¬((4:Int)=2∨(4:Int)=3∨(4:Int)=5∨(4:Int)=6) by decide),if_true] at hK
  repeat' (first | refine BU ?_ | refine B4 ?_ | refine BN ?_ | refine BT ?_ | simp only [AI,AM,AP,AR,AT,AD,AH,AL,AK,AO,AQ,AJ,AS,AN,BE,BJ,BH,BK,BI,BG,BF,A1,AZ,A5,A7,A6,A4])
  exact bK hol hof hb ha hc hK
 ·simp only [if_neg (show ¬(7:Int)=1 by decide),if_neg (show ¬((7:Int)=2∨(7:Int)=3∨(7:Int)=5∨(7:Int)=6) by decide),if_neg (show ¬(7:Int)=4 by decide),if_true] at hK
  repeat' (first | refine BU ?_ | refine B4 ?_ | refine BN ?_ | refine BT ?_ | simp only [AI,AM,AP,AR,AT,AD,AH,AL,AK,AO,AQ,AJ,AS,AN,BE,BJ,BH,BK,BI,BG,BF,A1,AZ,A5,A7,A6,A4])
  exact cG hol st.wl ha hK
 ·rw [if_neg (by omega),if_neg (by omega),if_neg (by omega),if_neg (by omega),if_pos hkd] at hK
  rcases hkd with rfl | rfl
  all_goals
   repeat' (first | refine BU ?_ | refine B4 ?_ | refine BN ?_ | refine BT ?_ | simp only [AI,AM,AP,AR,AT,AD,AH,AL,AK,AO,AQ,AJ,AS,AN,BE,BJ,BH,BK,BI,BG,BF,A1,AZ,A5,A7,A6,A4])
   exact X2 hol st.wl ha st.wf hK
 ·simp only [if_neg (show ¬(10:Int)=1 by decide),if_neg (show ¬((10:Int)=2∨(10:Int)=3∨(10:Int)=5∨(10:Int)=6) by decide),if_neg (show ¬(10:Int)=4 by decide),if_neg (show ¬(10:Int)=7 by decide),if_neg (show ¬((10:Int)=8∨(10:Int)=9) by decide),if_true] at hK
  repeat' (first | refine BU ?_ | refine B4 ?_ | refine BN ?_ | refine BT ?_ | simp only [AI,AM,AP,AR,AT,AD,AH,AL,AK,AO,AQ,AJ,AS,AN,BE,BJ,BH,BK,BI,BG,BF,A1,AZ,A5,A7,A6,A4])
  exact W4 st (fun o ho=>(hn.obj o ho).2.2.2.2.1) hK
 ·rw [if_neg (by omega),if_neg (by omega),if_neg (by omega),if_neg (by omega),if_neg (by omega),if_neg (by omega)] at hK
  repeat' (first | refine BU ?_ | refine B2 (by first | with_reducible assumption | omega) ?_ | refine BT ?_ | simp only [AI,AM,AP,AR,AT,AD,AH,AL,AK,AO,AQ,AJ,AS,AN,BE,BJ,BH,BK,BI,BG,BF,A1,AZ,A5,A7,A6,A4])
  all_goals first | exact B3 hK | (exfalso;omega)
end Go.Proofs.Ytnhicpkhkaihoaa.P
namespace Go.Proofs.Ytnhicpkhkaihoaa.P
open Go Go.Proofs.Ytnhicpkhkaihoaa Go.Proofs.Ytnhicpkhkaihoaa.Eng
set_option linter.unusedVariables false
set_option maxHeartbeats 4000000
set_option linter.unusedVariables false
set_option linter.unusedSimpArgs false
attribute [local irreducible] prP gP gE gF AU ixW ldc ldg ldl stc stg scW mkW apW BD cl2 BW FR DK
variable {w0:World}
open Classical in
noncomputable def OY (h:Hp) (o:Op5):Hp×An:=if DO h then JG h o else (h,⟨2,0,[]⟩)
theorem cJ {h:Hp} {o:Op5} (hk:DO h):OY h o=JG h o:=by unfold OY;rw [if_pos hk]
theorem m0 {h:Hp} {o:Op5} (hk: ¬DO h):OY h o=(h,⟨2,0,[]⟩):=by unfold OY;rw [if_neg hk]
theorem aT {h:Hp} {o:Op5} {K:J2} (hf:Fits h) (hn:XJ h) (ha:F64 o.a) (hc:F64 o.c) (hK:K [I (OY h o).2.code,I (OY h o).2.val] (trees (OY h o).1++[tI (OY h o).2.freed])):cl2 ⟨Try.prog,w0⟩ 62 HI.sg [I o.kind,I o.a,I o.b,I o.c, .string o.site] (trees h) K:=by
 refine HI.cl2 ?_
 unfold HI.txt
 refine KA hf (X3 hf hn (fun hk=>BY (BN ?_)) fun hk=>BY (B4 ?_))
 rotate_left
 ·rw [m0 hk] at hK
  exact hK
 rw [cJ hk] at hK
 have st:=hk.st hn
 have hr:=hk.hr
 have hfd:=hk.fd
 have hss:=hk.sites
 have hcn: ∀o∈h.BB,F64 o.count:=fun o ho=>(hn.obj o ho).2.2.2.2.1
 clear hf hk
 obtain ⟨kd,a,b,c,s⟩:=o
 have hol:h.BB.length=8:=st.ol
 simp only at ha hc hr
 unfold JG at hK
 simp only at hK
 have hold:=fun {K:J2} (hkd:kd=2∨kd=3∨kd=5∨kd=6)=>XS (w0:=w0) (h:=h) (kind:=kd) (id:=a) (b:=b) (c:=c) (s:=s) (K:=K) st ha hkd hr
 have store:=fun {K:J2}=>WD (w0:=w0) (h:=h) (a0:=kd) (a1:=a) (a2:=b) (a3:=c) (s:=s) (K:=K) st ha hc hfd
 have pL:=fun {K:J2}=>XE (w0:=w0) (h:=h) (K:=K) st hcn
 have weak:=fun {K:J2}=>X0 (w0:=w0) (os:=h.BB) (ws:=h.B5) (cc:=tI h.buffer) (d:=tS h.sites) (kind:=kd) (k:=a) (b:=b) (c:=c) (s:=s) (K:=K) hol st.wl ha st.wf
 simp only [trees] at hold store pL ⊢
 rcases kinds kd with rfl | hkd | rfl | rfl | hkd | rfl | hkd
 ·rw [if_pos rfl] at hK
  exact BT (DN rfl (WZ hol hss hK))
 ·rw [if_neg (by omega),if_pos hkd] at hK
  replace hold:=fun {K:J2}=>hold (K:=K) hkd
  rcases hkd with rfl | rfl | rfl | rfl
  all_goals
   repeat' (first | refine BU ?_ | refine B4 ?_ | refine BN ?_ | refine BT ?_ | simp only [AI,AM,AP,AR,AT,AD,AH,AL,AK,AO,AQ,AJ,AS,AN,BE,BJ,BH,BK,BI,BG,BF,A1,AZ,A5,A7,A6,A4])
   exact hold hK
 ·simp only [if_neg (show ¬(4:Int)=1 by decide),if_neg (show ¬((4:Int)=2∨(4:Int)=3∨(4:Int)=5∨(4:Int)=6) by decide),if_true] at hK
  repeat' (first | refine BU ?_ | refine B4 ?_ | refine BN ?_ | refine BT ?_ | simp only [AI,AM,AP,AR,AT,AD,AH,AL,AK,AO,AQ,AJ,AS,AN,BE,BJ,BH,BK,BI,BG,BF,A1,AZ,A5,A7,A6,A4])
  exact store hK
 ·simp only [if_neg (show ¬(7:Int)=1 by decide),if_neg (show ¬((7:Int)=2∨(7:Int)=3∨(7:Int)=5∨(7:Int)=6) by decide),if_neg (show ¬(7:Int)=4 by decide),if_true] at hK
  repeat' (first | refine BU ?_ | refine B4 ?_ | refine BN ?_ | refine BT ?_ | simp only [AI,AM,AP,AR,AT,AD,AH,AL,AK,AO,AQ,AJ,AS,AN,BE,BJ,BH,BK,BI,BG,BF,A1,AZ,A5,A7,A6,A4])
  exact weak (fun _=>hK) (fun hh=>absurd rfl hh)
 ·rw [if_neg (by omega),if_neg (by omega),if_neg (by omega),if_neg (by omega),if_pos hkd] at hK
  rcases hkd with rfl | rfl
  all_goals
   repeat' (first | refine BU ?_ | refine B4 ?_ | refine BN ?_ | refine BT ?_ | simp only [AI,AM,AP,AR,AT,AD,AH,AL,AK,AO,AQ,AJ,AS,AN,BE,BJ,BH,BK,BI,BG,BF,A1,AZ,A5,A7,A6,A4])
   exact weak (fun hh=>absurd hh (by decide)) (fun _=>hK)
 ·simp only [if_neg (show ¬(10:Int)=1 by decide),if_neg (show ¬((10:Int)=2∨(10:Int)=3∨(10:Int)=5∨(10:Int)=6) by decide),if_neg (show ¬(10:Int)=4 by decide),if_neg (show ¬(10:Int)=7 by decide),if_neg (show ¬((10:Int)=8∨(10:Int)=9) by decide),if_true] at hK
  repeat' (first | refine BU ?_ | refine B4 ?_ | refine BN ?_ | refine BT ?_ | simp only [AI,AM,AP,AR,AT,AD,AH,AL,AK,AO,AQ,AJ,AS,AN,BE,BJ,BH,BK,BI,BG,BF,A1,AZ,A5,A7,A6,A4])
  exact pL hK
 ·rw [if_neg (by omega),if_neg (by omega),if_neg (by omega),if_neg (by omega),if_neg (by omega),if_neg (by omega)] at hK
  repeat' (first | refine BU ?_ | refine B2 (by first | with_reducible assumption | omega) ?_ | refine BT ?_ | simp only [AI,AM,AP,AR,AT,AD,AH,AL,AK,AO,AQ,AJ,AS,AN,BE,BJ,BH,BK,BI,BG,BF,A1,AZ,A5,A7,A6,A4])
  all_goals first | exact hK | (exfalso;omega)
end Go.Proofs.Ytnhicpkhkaihoaa.P
namespace Go.Proofs.Ytnhicpkhkaihoaa.P
open Go Go.Proofs.Ytnhicpkhkaihoaa Go.Proofs.Ytnhicpkhkaihoaa.Eng
set_option linter.unusedVariables false
def okE (n:Int) (l:List ByteArray) (a b c d:Int) (s:ByteArray) (k v:Int) (xs:List Int):Bool:=(sP a b c d s&&vD k v xs)&&vK n l
def Fx (q:ByteArray×Int) (x:Int):ByteArray×Int:=(q.1++SI (x-q.2),x)
def base (n:Int) (l:List ByteArray) (a b c d:Int) (s:ByteArray) (k v:Int) (m:Nat):ByteArray:=((((((SI a++SI (b-n))++SI c)++SI (d-b))++mE l s)++V k)++SI (v-b))++V m
def stE (p:ByteArray×Int) (xs:List Int) (i:Nat):ByteArray×Int:=(xs.take i).foldl Fx p
theorem nL {p:ByteArray×Int} {xs:List Int} {i:Nat} (hi:i<xs.length):stE p xs (i+1)=Fx (stE p xs i) xs[i]:=by
 rw [stE,List.take_succ_eq_append_getElem hi,List.foldl_append];rfl
theorem mC {p:ByteArray×Int} {xs:List Int} (hp:PC p.2=true) (hx:xs.all PC=true): ∀i,i≤xs.length→PC (stE p xs i).2=true∧(stE p xs i).1.size≤p.1.size+7*i
 | 0,_=>⟨hp,Nat.le_refl _⟩
 | i+1,hi=>by
   obtain ⟨h1,h2⟩:=mC hp hx i (by omega)
   rw [nL (by omega)]
   refine ⟨List.all_eq_true.1 hx _ (List.getElem_mem _), ?_⟩
   have:=Q2 (zg (xs[i]-(stE p xs i).2))
   simp only [Fx,ByteArray.size_append,SI];omega
theorem eY (l:List ByteArray) (s:ByteArray):(mE l s).size≤22:=by
 unfold mE;split
 ·have:=Q2 (at_ l s+1);omega
 ·have h1:=Q2 0
  have h2:=qU s
  rw [ByteArray.size_append];omega
theorem R9 (n:Int):(SI n).size≤7:=Q2 _
def hD (n:Int) (l:List ByteArray) (a b c d:Int) (s:ByteArray) (k v:Int) (xs:List Int):ByteArray×Int×List ByteArray:=
 if okE n l a b c d s k v xs then ((stE (base n l a b c d s k v xs.length,b) xs xs.length).1,b,uK l s) else (⟨#[]⟩,n,l)
theorem eO {n:Int} {l:List ByteArray} {a b c d:Int} {s:ByteArray} {k v:Int} {xs:List Int} (h:okE n l a b c d s k v xs=true):PC a=true∧PC b=true∧PC c=true∧PC d=true∧PC v=true∧PC n=true∧xs.all PC=true∧xs.length≤8∧(0≤k∧k≤6)∧l.length≤400:=by
 simp only [okE,sP,vD,vK,Bool.and_eq_true,decide_eq_true_eq] at h
 exact ⟨h.1.1.1.1.1.1,h.1.1.1.1.1.2,h.1.1.1.1.2,h.1.1.1.2,h.1.2.1.1.2,h.2.1.1,h.1.2.2,h.1.2.1.2,iQ.1 h.1.2.1.1.1,h.2.1.2⟩
theorem kL (n:Int) (l:List ByteArray) (a b c d:Int) (s:ByteArray) (k v:Int) (m:Nat):(base n l a b c d s k v m).size≤71:=by
 have h1:=R9 a;have h2:=R9 (b-n);have h3:=R9 c;have h4:=R9 (d-b);have h5:=eY l s;have h6:=Q2 k;have h7:=R9 (v-b);have h8:=Q2 m
 simp only [base,ByteArray.size_append];omega
end Go.Proofs.Ytnhicpkhkaihoaa.P
namespace Go.Proofs.Ytnhicpkhkaihoaa.P
open Go Go.Proofs.Ytnhicpkhkaihoaa Go.Proofs.Ytnhicpkhkaihoaa.Eng
set_option linter.unusedVariables false
end Go.Proofs.Ytnhicpkhkaihoaa.P
