/- A part of the proof. -/
import Derived.Test.YtnhicpkhkaihoaaGreatFtHpR
import Derived.Test.YtnhicpkhkaihoaaGreatFtHpG
namespace Go.Proofs.YtnhicpkhkaihoaaGreat.P
open Go Go.Proofs.YtnhicpkhkaihoaaGreat Go.Proofs.YtnhicpkhkaihoaaGreat.Eng
set_option linter.unusedVariables false
set_option maxHeartbeats 4000000
set_option linter.unusedVariables false
set_option linter.unusedSimpArgs false
attribute [local irreducible] prP gP gE gF AV ixW ldc ldg ldl stc stg scW mkW apW BC cl2 BW F6 C2
variable {w0:World}
theorem dO {os:List A7} {i:Nat} (hi:i<os.length):(os.take (i+1)).map (·.count)=(os.take i).map (·.count)++[(ob os i).count]:=by
 rw [List.take_succ_eq_append_getElem hi,List.map_append,D6 hi];rfl
theorem XN {os:List A7} {b c d:List T} {K:J2} (hol:os.length=8) (h:K [] [tI (os.map (·.count)),tI (List.replicate 8 0)]):cl2 ⟨Tryz.prog,w0⟩ 172 GH.sg [] [tR tO os,b,c,d] K:=by
 refine GH.cl2 ?_
 unfold GH.txt
 simp only [AI,AL,AH,AJ,AM,AE,AG,AR,AP,AN,AQ,AO,AS,AK,BD,BF,BI,BJ,BH,BG,BE,A1,AZ,AY,AX,A4,A5]
 refine A8 (fun i=>[iv os.length,iv i]) (fun i=>[tI ((os.take i).map (·.count)),tI (List.replicate i 0)]) os.length (fun _=>True) rfl rfl trivial (fun R i hi hP hR=> ?_)
 have hln:((os.take i).map (·.count)).length=i:=by simp;omega
 have hl2:(List.replicate i (0:Int)).length=i:=List.length_replicate
 simp only [AI,AL,AH,AJ,AM,AE,AG,AR,AP,AN,AQ,AO,AS,AK,BD,BF,BI,BJ,BH,BG,BE,A1,AZ,AY,AX,A4,A5]
 refine AW (AT (fun hlt=> ?_) fun hge=> ?_)
 ·have hlt:i<os.length:=by omega
  replace hR:=hR hlt trivial
  rw [dO hlt, ←FE,List.replicate_succ', ←FE] at hR
  refine BS (AU hlt (OJ hlt ?_))
  simp only [oN]
  exact AW (CX (by omega) (EB rfl (by omega) (EB rfl (by omega) (A6 (by omega) hR))))
 ·have:i=os.length:=by omega
  subst this
  rw [List.take_length,hol];exact h
theorem XQ {os:List A7} {b c d:List T} {K:J2} (hol:os.length=8) (h:K [] [tI (os.map (·.count)),tI (List.replicate 8 0)]):cl2 ⟨Tryz.prog,w0⟩ 160 GF.sg [] [tR tO os,b,c,d] K:=by
 refine GF.cl2 ?_
 unfold GF.txt
 simp only [AI,AL,AH,AJ,AM,AE,AG,AR,AP,AN,AQ,AO,AS,AK,BD,BF,BI,BJ,BH,BG,BE,A1,AZ,AY,AX,A4,A5]
 refine A8 (fun i=>[iv i]) (fun i=>[tI ((os.take i).map (·.count)),tI (List.replicate i 0)]) os.length (fun _=>True) rfl rfl trivial (fun R i hi hP hR=> ?_)
 have hln:((os.take i).map (·.count)).length=i:=by simp;omega
 have hl2:(List.replicate i (0:Int)).length=i:=List.length_replicate
 simp only [AI,AL,AH,AJ,AM,AE,AG,AR,AP,AN,AQ,AO,AS,AK,BD,BF,BI,BJ,BH,BG,BE,A1,AZ,AY,AX,A4,A5]
 refine AW (BM (IQ (fun hlt=> ?_) fun hge=> ?_))
 ·have hlt':i<os.length:=by omega
  replace hR:=hR hlt' trivial
  rw [dO hlt', ←FE,List.replicate_succ', ←FE] at hR
  refine AW (CL hlt rfl (CX (by omega) ?_))
  exact AU hlt' (JT (v:=I (ob os i).count) hlt' (by decide) rfl (EB rfl (by omega) (EB rfl (by omega) (A6 (by omega) hR))))
 ·have:i=os.length:=by omega
  subst this
  refine CJ hge rfl (BT ?_)
  rw [List.take_length,hol];exact h
theorem bX {cs col:List Int} {W:Nat→Bool} {K:J2} (hl:col.length=8) (hw: ∀k,k<8→(gI col k=2↔W k=true)) (h:K [] [tI (C4 W 8)]):cl2 ⟨Tryz.prog,w0⟩ 175 IG.sg [] [tI cs,tI col] K:=by
 refine IG.cl2 ?_
 unfold IG.txt
 simp only [AI,AL,AH,AJ,AM,AE,AG,AR,AP,AN,AQ,AO,AS,AK,BD,BF,BI,BJ,BH,BG,BE,A1,AZ,AY,AX,A4,A5]
 refine A8 (fun i=>[iv col.length,iv i]) (fun i=>[tI (C4 W i)]) col.length (fun _=>True) rfl rfl trivial (fun R i hi hP hR=> ?_)
 have hln:(C4 W i).length≤i:=LV (fun i=>by split <;> simp) i
 simp only [AI,AL,AH,AJ,AM,AE,AG,AR,AP,AN,AQ,AO,AS,AK,BD,BF,BI,BJ,BH,BG,BE,A1,AZ,AY,AX,A4,A5]
 refine AW (AT (fun hlt=> ?_) fun hge=> ?_)
 ·have hlt:i<col.length:=by omega
  replace hR:=hR hlt trivial
  have hwi:=hw i (by omega)
  refine BS (AU hlt (ldI hlt (BL (AT (fun h2=> ?_) fun h2=> ?_))))
  ·have e:C4 W (i+1)=C4 W i++[(i:Int)]:=by show C4 W i++(if W i=true then [(i:Int)] else [])=_;rw [if_pos (hwi.1 h2)]
   rw [e, ←FE] at hR
   exact EB rfl (by omega) (A6 (by omega) hR)
  ·have e:C4 W (i+1)=C4 W i:=by show C4 W i++(if W i=true then [(i:Int)] else [])=_;rw [if_neg (fun hh=>h2 (hwi.2 hh)),List.append_nil]
   rw [e] at hR
   exact A6 (by omega) hR
 ·have:i=col.length:=by omega
  subst this
  rw [hl];exact h
theorem bL {cs col:List Int} {W:Nat→Bool} {K:J2} (hl:col.length=8) (hw: ∀k,k<8→(gI col k=2↔W k=true)) (h:K [] [tI (C4 W 8)]):cl2 ⟨Tryz.prog,w0⟩ 163 IC.sg [] [tI cs,tI col] K:=by
 refine IC.cl2 ?_
 unfold IC.txt
 simp only [AI,AL,AH,AJ,AM,AE,AG,AR,AP,AN,AQ,AO,AS,AK,BD,BF,BI,BJ,BH,BG,BE,A1,AZ,AY,AX,A4,A5]
 refine A8 (fun i=>[iv i]) (fun i=>[tI (C4 W i)]) col.length (fun _=>True) rfl rfl trivial (fun R i hi hP hR=> ?_)
 have hln:(C4 W i).length≤i:=LV (fun i=>by split <;> simp) i
 simp only [AI,AL,AH,AJ,AM,AE,AG,AR,AP,AN,AQ,AO,AS,AK,BD,BF,BI,BJ,BH,BG,BE,A1,AZ,AY,AX,A4,A5]
 refine AW (AT (fun hlt=> ?_) fun hge=> ?_)
 ·have hlt:i<col.length:=by omega
  replace hR:=hR hlt trivial
  have hwi:=hw i (by omega)
  refine BS (AU hlt (ldI hlt (BL (AT (fun h2=> ?_) fun h2=> ?_))))
  ·have e:C4 W (i+1)=C4 W i++[(i:Int)]:=by show C4 W i++(if W i=true then [(i:Int)] else [])=_;rw [if_pos (hwi.1 h2)]
   rw [e, ←FE] at hR
   exact EB rfl (by omega) (A6 (by omega) hR)
  ·have e:C4 W (i+1)=C4 W i:=by show C4 W i++(if W i=true then [(i:Int)] else [])=_;rw [if_neg (fun hh=>h2 (hwi.2 hh)),List.append_nil]
   rw [e] at hR
   exact A6 (by omega) hR
 ·have:i=col.length:=by omega
  subst this
  rw [hl];exact h
theorem MK.start {os:List A7} (hol:os.length=8) (hc: ∀o∈os,F64 o.count):MK os (fun i=>(ob os i).count) [] (os.map (·.count)) (List.replicate 8 0):=by
 have hz: ∀k,k<8→gI (List.replicate 8 (0:Int)) k=0:=fun k hk=>by unfold gI;rw [List.getD_eq_getElem?_getD,List.getElem?_replicate,if_pos hk];rfl
 have hcs: ∀i,i<8→gI (os.map (·.count)) i=(ob os i).count:=fun i hi=>by
  rw [←G3 (by simp;omega),List.getElem_map,D6 (by omega)]
 have hF: ∀i,i<8→F64 (ob os i).count:=fun i hi=>hc _ (HY (by omega))
 refine ⟨⟨by simp [hol],by simp⟩,fun i hi=>by rw [hcs i hi];exact hF i hi,fun k hk h1=> ?_,fun k hk h1=>⟨hz k hk, ?_⟩,fun i hi=> ?_⟩
 ·rw [hz k hk] at h1;omega
 ·rintro ⟨b,hb,_⟩;simp at hb
 ·have:S os (isC (List.replicate 8 0) 1) i=0:=MH fun k hk=>by unfold isC;rw [hz k hk];rfl
  rw [hcs i hi,this,Int.sub_zero,K9 (hF i hi)]
theorem Cu {os:List A7} {W:Nat→Bool} {j:Nat} (hj:j<(C4 W 8).length) {x:Nat} (hx:gI (C4 W 8) j=(x:Int)):(fun i:Nat=>if ((i:Nat):Int)∈(C4 W 8).take (j+1) then CI (ob os i).gen else ob os i)=fun i=>if i=x then CI (ob os x).gen else (if ((i:Nat):Int)∈(C4 W 8).take j then CI (ob os i).gen else ob os i):=by
 funext i
 rw [List.take_succ_eq_append_getElem hj,G3 hj,hx]
 simp only [List.mem_append,List.mem_singleton]
 by_cases hi:i=x
 ·subst hi;simp
 ·have: ¬(i:Int)=(x:Int):=by omega
  simp [hi,this]
def TJ (os:List A7) (W:Nat→Bool) (i:Nat):A7:=if W i=true then CI (ob os i).gen else ob os i
theorem pT (os:List A7) (W:Nat→Bool) (i:Nat):{TJ os W i with purple:=false}=DU os W i:=by
 unfold TJ DU
 split <;> rfl
theorem RO (os:List A7) (W:Nat→Bool) (i:Nat):(H3 os W i).live=(DU os W i).live∧(H3 os W i).gen=(DU os W i).gen∧(H3 os W i).field=(DU os W i).field:=by
 unfold H3;split <;> exact ⟨rfl,rfl,rfl⟩
theorem jT (os:List A7) (W:Nat→Bool) (i:Nat):(TJ os W i).live=(DU os W i).live∧(TJ os W i).gen=(DU os W i).gen∧(TJ os W i).field=(DU os W i).field:=by
 rw [←pT];exact ⟨rfl,rfl,rfl⟩
theorem iU {os:List A7} (hof: ∀o∈os,OF o) (hol:os.length=8) (W:Nat→Bool) {i:Nat} (hi:i<8):(DU os W i).field.length=3:=by
 unfold DU
 split
 ·rfl
 ·exact (hof _ (HY (by omega))).len
theorem Y1 {h:Hp} {K:J2} (st:St h) (hc: ∀o∈h.BA,F64 o.count) (hK:K [] [tR tO (NY h.BA h.buffer).1,tR tW h.B7,[],tS h.sites,tI (NY h.BA h.buffer).2]):cl2 ⟨Tryz.prog,w0⟩ 131 HH.sg [] (trees h) K:=by
 refine HH.cl2 ?_
 unfold HH.txt
 refine QZ st.fits ?_
 obtain ⟨os,ws,buf,ss⟩:=h
 have hol:os.length=8:=st.ol
 have hof: ∀o∈os,OF o:=st.of
 have hb:buf.length≤100:=st.bl
 have hbf: ∀x∈buf,F64 x:=st.bf
 simp only at hc hK
 simp only [trees]
 obtain ⟨ct,hct⟩: ∃ct:Nat→Int,ct=fun i=>(ob os i).count:=⟨_,rfl⟩
 obtain ⟨W,hW⟩: ∃W,W=LU os ct buf:=⟨_,rfl⟩
 unfold NY at hK
 rw [←hct, ←hW] at hK
 simp only [AI,AL,AH,AJ,AM,AE,AG,AR,AP,AN,AQ,AO,AS,AK,BD,BF,BI,BJ,BH,BG,BE,A1,AZ,AY,AX,A4,A5]
 refine CB (C7 (by omega) (XN hol ?_))
 refine DK (α:=Nat×List Int×List Int) (fun q=>[iv buf.length,iv q.1]) (fun q=>[tR tO os,tR tW ws,tI buf,tS ss,tI q.2.1,tI q.2.2]) (fun q=>buf.length-q.1) (fun q=>q.1≤buf.length∧MK os ct (buf.take q.1) q.2.1 q.2.2) (0,os.map (·.count),List.replicate 8 0) rfl rfl ⟨Nat.zero_le _,by rw [hct];exact MK.start hol hc⟩ (fun R q hq hR=> ?_)
 obtain ⟨i,cs,col⟩:=q
 obtain ⟨hi,mk⟩:=hq
 simp only at hi mk
 simp only [AI,AL,AH,AJ,AM,AE,AG,AR,AP,AN,AQ,AO,AS,AK,BD,BF,BI,BJ,BH,BG,BE,A1,AZ,AY,AX,A4,A5]
 refine AW (AT (fun hlt=> ?_) fun hge=> ?_)
 ·have hlt:i<buf.length:=by omega
  have hx:=hbf _ (ER hlt)
  have nx:=fun cs' col' (m:MK os ct (buf.take i++[gI buf i]) cs' col')=>hR (i+1,cs',col') ⟨by simp only;omega,by simp only;rw [List.take_succ_eq_append_getElem hlt,G3 hlt];exact m⟩ (by simp only;omega)
  refine AU hlt (ldI hlt (C5 hx (by omega) (X1 hol hof mk.len.1 mk.len.2 mk.f (fun hn=> ?_) fun s hs s8 cs' col' p=> ?_)))
  ·exact A6 (by omega) (nx _ _ (mk.none hn))
  ·exact A6 (by omega) (nx _ _ (mk.some hs s8 p))
 have:i=buf.length:=by omega
 subst this
 rw [List.take_length] at mk
 refine DK (α:=Nat×List Int×List Int) (fun q=>[iv buf.length,iv q.1]) (fun q=>[tR tO os,tR tW ws,tI buf,tS ss,tI q.2.1,tI q.2.2]) (fun q=>buf.length-q.1) (fun q=>q.1≤buf.length∧SC os ct buf (buf.take q.1) q.2.1 q.2.2) (0,cs,col) rfl rfl ⟨Nat.zero_le _,SC.start mk⟩ (fun R q hq hR=> ?_)
 obtain ⟨i,cs,col⟩:=q
 obtain ⟨hi,sc⟩:=hq
 simp only at hi sc
 simp only [AI,AL,AH,AJ,AM,AE,AG,AR,AP,AN,AQ,AO,AS,AK,BD,BF,BI,BJ,BH,BG,BE,A1,AZ,AY,AX,A4,A5]
 refine AW (AT (fun hlt=> ?_) fun hge=> ?_)
 ·have hlt:i<buf.length:=by omega
  have hx:=hbf _ (ER hlt)
  have nx:=fun cs' col' (m:SC os ct buf (buf.take i++[gI buf i]) cs' col')=>hR (i+1,cs',col') ⟨by simp only;omega,by simp only;rw [List.take_succ_eq_append_getElem hlt,G3 hlt];exact m⟩ (by simp only;omega)
  refine AU hlt (ldI hlt (C5 hx (by omega) (XU hol hof sc.si (fun hn=> ?_) fun s hs s8 cs' col' p=> ?_)))
  ·exact A6 (by omega) (nx _ _ (sc.none hn))
  ·exact A6 (by omega) (nx _ _ (sc.some hs s8 p))
 have:i=buf.length:=by omega
 subst this
 rw [List.take_length] at sc
 have wh:=sc.stop
 rw [←hW] at wh
 refine bX sc.si.len.2 wh ?_
 clear hR sc mk
 have hwn:(C4 W 8).length≤8:=LV (fun i=>by split <;> simp) 8
 refine A8 (fun j=>[iv (C4 W 8).length,iv j]) (fun j=>[tI (((C4 W 8).take j).map fun x=>CU x (ob os x.toNat).gen),tI (C4 W 8),tR tO (mk8 fun i=>if ((i:Nat):Int)∈(C4 W 8).take j then CI (ob os i).gen else ob os i),tR tW ws,tI buf,tS ss]) (C4 W 8).length (fun _=>True) (by simp only [AI,AL,AH,AJ,AM,AE,AG,AR,AP,AN,AQ,AO,AS,AK,BD,BF,BI,BJ,BH,BG,BE,A1,AZ,AY,AX,A4,A5];rfl) ?_ trivial (fun R j hj hP hR=> ?_)
 ·simp only [List.take_zero,List.map_nil,List.not_mem_nil,if_false]
  rw [←Z8 hol];rfl
 have hln:(((C4 W 8).take j).map fun x=>CU x (ob os x.toNat).gen).length=j:=by simp;omega
 simp only [AI,AL,AH,AJ,AM,AE,AG,AR,AP,AN,AQ,AO,AS,AK,BD,BF,BI,BJ,BH,BG,BE,A1,AZ,AY,AX,A4,A5]
 simp only [CQ]
 refine AW (AT (fun hlt=> ?_) fun hge=> ?_)
 ·have hlt:j<(C4 W 8).length:=by omega
  replace hR:=hR hlt trivial
  obtain ⟨x,x8,hx,hwx⟩:=MI.1 (ER hlt)
  have xl:x<os.length:=by omega
  rw [Cu hlt hx,List.take_succ_eq_append_getElem hlt,List.map_append,G3 hlt,hx, ←QN x8] at hR
  refine AU hlt (ldI hlt ?_)
  rw [hx]
  refine AU xl (JT (v:=I (ob os x).gen) xl (by decide) rfl (NF (EB rfl (by omega) (AU xl (JT (v:=I (ob os x).gen) xl (by decide) rfl (RM (AU (by omega) ?_)))))))
  refine OA (f:=tO) (by rw [CQ];exact x8) (y:=CI (ob os x).gen) rfl (A6 (by omega) ?_)
  simp only [List.map_cons,List.map_nil,Int.toNat_natCast] at hR
  rw [←FE] at hR
  exact hR
 have:j=(C4 W 8).length:=by omega
 subst this
 have e1:(fun i:Nat=>if ((i:Nat):Int)∈(C4 W 8).take (C4 W 8).length then CI (ob os i).gen else ob os i)=fun i=>if ((i:Nat):Int)∈C4 W 8 then CI (ob os i).gen else ob os i:=by rw [List.take_length]
 have e2:mk8 (fun i=>if ((i:Nat):Int)∈C4 W 8 then CI (ob os i).gen else ob os i)=mk8 (TJ os W):=LK fun i hi=>by
  unfold TJ
  by_cases hw:W i=true
  ·rw [if_pos hw,if_pos (MI.2 ⟨i,hi,rfl,hw⟩)]
  ·rw [if_neg hw,if_neg fun hm=>hw (by obtain ⟨k,_,h2,h3⟩:=MI.1 hm;have:k=i:=by omega
                                       subst this;exact h3)]
 rw [e1,e2,List.take_length,VP]
 clear hR e1 e2
 refine A8 (fun i=>[iv 8,iv i]) (fun i=>[tI (KO os W 8),tR tO (mk8 fun k=>if k<i then H3 os W k else TJ os W k),tR tW ws,tI buf,tS ss]) 8 (fun _=>True) rfl rfl trivial (fun R i hi hP hR=> ?_)
 simp only [AI,AL,AH,AJ,AM,AE,AG,AR,AP,AN,AQ,AO,AS,AK,BD,BF,BI,BJ,BH,BG,BE,A1,AZ,AY,AX,A4,A5]
 simp only [CQ]
 refine AW (AT (fun hlt=> ?_) fun hge=> ?_)
 ·have hlt:i<8:=by omega
  replace hR:=hR hlt trivial
  have hml:i<(mk8 fun k=>if k<i then H3 os W k else TJ os W k).length:=by rw [CQ];exact hlt
  have hoi:(mk8 fun k=>if k<i then H3 os W k else TJ os W k)[i]=TJ os W i:=by rw [D6 hml,JR hlt,if_neg (by omega)]
  have hset: ∀v,v=H3 os W i→(mk8 fun k=>if k<i then H3 os W k else TJ os W k).set i v=mk8 fun k=>if k<i+1 then H3 os W k else TJ os W k:=fun v hv=>by
   rw [QN hlt]
   refine LK fun k hk=> ?_
   by_cases h1:k=i
   ·subst h1;rw [if_pos rfl,if_pos (by omega),hv]
   ·rw [if_neg h1]
    by_cases h2:k<i
    ·rw [if_pos h2,if_pos (by omega)]
    ·rw [if_neg h2,if_neg (by omega)]
  have hin: ∀v,v=DU os W i→inE ((mk8 fun k=>if k<i then H3 os W k else TJ os W k).set i v) i=inE (mk8 (DU os W)) i:=fun v hv=>by
   rw [QN hlt]
   refine sC (by rw [CQ,CQ]) fun k hk=> ?_
   rw [CQ] at hk
   rw [JR hk,JR hk]
   by_cases h1:k=i
   ·subst h1;rw [if_pos rfl,hv];exact ⟨rfl,rfl,rfl⟩
   ·rw [if_neg h1]
    by_cases h2:k<i
    ·rw [if_pos h2];exact RO os W k
    ·rw [if_neg h2];exact jT os W k
  have hlen3: ∀o∈(mk8 fun k=>if k<i then H3 os W k else TJ os W k).set i (DU os W i),(o.field.length:Int)≤1048576:=fun o ho=>by
   rw [QN hlt] at ho
   obtain ⟨k,hk,rfl⟩:=YL ho
   have hm:=iU hof hol W hk
   by_cases h1:k=i
   ·subst h1;rw [if_pos rfl];omega
   ·rw [if_neg h1]
    by_cases h2:k<i
    ·rw [if_pos h2,(RO os W k).2.2];omega
    ·rw [if_neg h2,(jT os W k).2.2];omega
  generalize (mk8 fun k=>if k<i then H3 os W k else TJ os W k)=M at hml hoi hset hin hlen3 ⊢
  have hM8:M.length=8:=by have:=congrArg List.length (hset (H3 os W i) rfl);rw [List.length_set,CQ] at this;exact this
  refine BS (AU hlt ?_)
  refine WG (f:=tO) (c:=7) (y:={M[i] with purple:=false}) hml (by decide) rfl rfl ?_
  rw [hoi,pT]
  refine uW (v:= .bool (DU os W i).live) hml rfl ?_
  cases hv:(DU os W i).live with
  | true=>
    refine BQ (JX (v:=I (DU os W i).holds) hml (by decide) rfl (JX (v:=I (DU os W i).roots) hml (by decide) rfl (FU ?_)))
    refine R1 ⟨by omega,by omega⟩ (by rw [List.length_set,hM8];decide) hlen3 ?_
    rw [hin _ rfl]
    refine FU (IY hml ?_)
    rw [hset _ (by unfold H3;rw [if_pos hv])]
    exact A6 (by omega) hR
  | false=>
    refine BT ?_
    rw [hset _ (by unfold H3;rw [if_neg (by rw [hv];decide)])]
    exact A6 (by omega) hR
 ·have:i=8:=by omega
  subst this
  rw [LK (g:=H3 os W) fun k hk=>if_pos hk]
  exact hK
theorem sY {a b c d e f g:List T} {l:List (List T)}:nxc (a::b::c::d::e::f::g::l) 6=g:=rfl
theorem bG {h:Hp} {K:J2} (st:St h) (hc: ∀o∈h.BA,F64 o.count) (hK:K [] [tR tO (NY h.BA h.buffer).1,tR tW h.B7,[],tS h.sites,tI (NY h.BA h.buffer).2]):cl2 ⟨Tryz.prog,w0⟩ 108 HB.sg [] (trees h) K:=by
 refine HB.cl2 ?_
 unfold HB.txt
 refine MT st.fits ?_
 obtain ⟨os,ws,buf,ss⟩:=h
 have hol:os.length=8:=st.ol
 have hof: ∀o∈os,OF o:=st.of
 have hb:buf.length≤100:=st.bl
 have hbf: ∀x∈buf,F64 x:=st.bf
 simp only at hc hK
 simp only [trees]
 obtain ⟨ct,hct⟩: ∃ct:Nat→Int,ct=fun i=>(ob os i).count:=⟨_,rfl⟩
 obtain ⟨W,hW⟩: ∃W,W=LU os ct buf:=⟨_,rfl⟩
 unfold NY at hK
 rw [←hct, ←hW] at hK
 simp only [AI,AL,AH,AJ,AM,AE,AG,AR,AP,AN,AQ,AO,AS,AK,BD,BF,BI,BJ,BH,BG,BE,A1,AZ,AY,AX,A4,A5]
 refine CB (C7 (by omega) (XQ hol ?_))
 refine DK (α:=Nat×List Int×List Int) (fun q=>[iv q.1]) (fun q=>[[],tR tO os,tR tW ws,tI buf,tS ss,tI q.2.1,tI q.2.2]) (fun q=>buf.length-q.1) (fun q=>q.1≤buf.length∧MK os ct (buf.take q.1) q.2.1 q.2.2) (0,os.map (·.count),List.replicate 8 0) rfl rfl ⟨Nat.zero_le _,by rw [hct];exact MK.start hol hc⟩ (fun R q hq hR=> ?_)
 obtain ⟨i,cs,col⟩:=q
 obtain ⟨hi,mk⟩:=hq
 simp only at hi mk
 simp only [AI,AL,AH,AJ,AM,AE,AG,AR,AP,AN,AQ,AO,AS,AK,BD,BF,BI,BJ,BH,BG,BE,A1,AZ,AY,AX,A4,A5]
 simp only [sY]
 refine AW (AT (fun hlt=> ?_) fun hge=> ?_)
 ·have hlt:i<buf.length:=by omega
  have hx:=hbf _ (ER hlt)
  have nx:=fun cs' col' (m:MK os ct (buf.take i++[gI buf i]) cs' col')=>hR (i+1,cs',col') ⟨by simp only;omega,by simp only;rw [List.take_succ_eq_append_getElem hlt,G3 hlt];exact m⟩ (by simp only;omega)
  refine AU hlt (ldI hlt (C6 hx (by omega) (X0 hol hof mk.len.1 mk.len.2 mk.f (fun hn=> ?_) fun s hs s8 cs' col' p=> ?_)))
  ·exact A6 (by omega) (nx _ _ (mk.none hn))
  ·exact A6 (by omega) (nx _ _ (mk.some hs s8 p))
 have:i=buf.length:=by omega
 subst this
 rw [List.take_length] at mk
 refine DK (α:=Nat×List Int×List Int) (fun q=>[iv q.1]) (fun q=>[[],tR tO os,tR tW ws,tI buf,tS ss,tI q.2.1,tI q.2.2]) (fun q=>buf.length-q.1) (fun q=>q.1≤buf.length∧SC os ct buf (buf.take q.1) q.2.1 q.2.2) (0,cs,col) rfl rfl ⟨Nat.zero_le _,SC.start mk⟩ (fun R q hq hR=> ?_)
 obtain ⟨i,cs,col⟩:=q
 obtain ⟨hi,sc⟩:=hq
 simp only at hi sc
 simp only [AI,AL,AH,AJ,AM,AE,AG,AR,AP,AN,AQ,AO,AS,AK,BD,BF,BI,BJ,BH,BG,BE,A1,AZ,AY,AX,A4,A5]
 simp only [sY]
 refine AW (AT (fun hlt=> ?_) fun hge=> ?_)
 ·have hlt:i<buf.length:=by omega
  have hx:=hbf _ (ER hlt)
  have nx:=fun cs' col' (m:SC os ct buf (buf.take i++[gI buf i]) cs' col')=>hR (i+1,cs',col') ⟨by simp only;omega,by simp only;rw [List.take_succ_eq_append_getElem hlt,G3 hlt];exact m⟩ (by simp only;omega)
  refine AU hlt (ldI hlt (C6 hx (by omega) (XO hol hof sc.si (fun hn=> ?_) fun s hs s8 cs' col' p=> ?_)))
  ·exact A6 (by omega) (nx _ _ (sc.none hn))
  ·exact A6 (by omega) (nx _ _ (sc.some hs s8 p))
 have:i=buf.length:=by omega
 subst this
 rw [List.take_length] at sc
 have wh:=sc.stop
 rw [←hW] at wh
 refine bL sc.si.len.2 wh ?_
 clear hR sc mk
 have hwn:(C4 W 8).length≤8:=LV (fun i=>by split <;> simp) 8
 refine A8 (fun i=>[iv i]) (fun i=>[tI (KO os W i),tI (C4 W 8),tR tO (mk8 fun k=>if k<i then DU os W k else ob os k),tR tW ws,tI buf,tS ss]) 8 (fun _=>True) rfl ?_ trivial (fun R i hi hP hR=> ?_)
 ·simp only [Nat.not_lt_zero,if_false]
  rw [←Z8 hol];rfl
 have hln:(KO os W i).length≤i:=LV (fun i=>by split <;> simp) i
 simp only [AI,AL,AH,AJ,AM,AE,AG,AR,AP,AN,AQ,AO,AS,AK,BD,BF,BI,BJ,BH,BG,BE,A1,AZ,AY,AX,A4,A5]
 simp only [sY,CQ]
 refine AW (AT (fun hlt=> ?_) fun hge=> ?_)
 ·have hlt:i<8:=by omega
  replace hR:=hR hlt trivial
  have hml:i<(mk8 fun k=>if k<i then DU os W k else ob os k).length:=by rw [CQ];exact hlt
  have hoi:(mk8 fun k=>if k<i then DU os W k else ob os k)[i]=ob os i:=by rw [D6 hml,JR hlt,if_neg (by omega)]
  have hset: ∀v,v=DU os W i→(mk8 fun k=>if k<i then DU os W k else ob os k).set i v=mk8 fun k=>if k<i+1 then DU os W k else ob os k:=fun v hv=>by
   rw [QN hlt]
   refine LK fun k hk=> ?_
   by_cases h1:k=i
   ·subst h1;rw [if_pos rfl,if_pos (by omega),hv]
   ·rw [if_neg h1]
    by_cases h2:k<i
    ·rw [if_pos h2,if_pos (by omega)]
    ·rw [if_neg h2,if_neg (by omega)]
  generalize (mk8 fun k=>if k<i then DU os W k else ob os k)=M at hml hoi hset ⊢
  have hM8:M.length=8:=by have:=congrArg List.length (hset (DU os W i) rfl);rw [List.length_set,CQ] at this;exact this
  have io:i<os.length:=by omega
  refine BS (AU hlt ?_)
  refine WG (f:=tO) (c:=7) (y:={M[i] with purple:=false}) hml (by decide) rfl rfl ?_
  rw [hoi]
  refine QP (by omega) (AT (fun hm=> ?_) fun hm=> ?_)
  ·have hw:W i=true:=by
    obtain ⟨k,_,h2,h3⟩:=MI.1 hm
    have:k=i:=by omega
    subst this;exact h3
   have ef:KO os W (i+1)=KO os W i++[CU i (ob os i).gen]:=by show KO os W i++(if W i=true then [CU i (ob os i).gen] else [])=_;rw [if_pos hw]
   rw [ef, ←FE, ←hset (CI (ob os i).gen) (by unfold DU;rw [if_pos hw])] at hR
   refine AU io (JT (v:=I (ob os i).gen) io (by decide) rfl (LM (EB rfl (by omega) (AU io (JT (v:=I (ob os i).gen) io (by decide) rfl (KY ?_))))))
   simp only [AI,AL,AH,AJ,AM,AE,AG,AR,AP,AN,AQ,AO,AS,AK,BD,BF,BI,BJ,BH,BG,BE,A1,AZ,AY,AX,A4,A5]
   simp only [List.length_set,hM8]
   refine AU hlt (OA (f:=tO) (by rw [List.length_set];exact hml) (y:=CI (ob os i).gen) rfl ?_)
   rw [List.set_set]
   exact A6 (by omega) hR
  ·have hw: ¬W i=true:=fun hw=>hm (MI.2 ⟨i,hlt,rfl,hw⟩)
   have ef:KO os W (i+1)=KO os W i:=by show KO os W i++(if W i=true then [CU i (ob os i).gen] else [])=_;rw [if_neg hw,List.append_nil]
   rw [ef, ←hset {ob os i with purple:=false} (by unfold DU;rw [if_neg hw])] at hR
   exact A6 (by omega) hR
 have:i=8:=by omega
 subst this
 rw [LK (g:=DU os W) fun k hk=>if_pos hk]
 clear hR
 refine A8 (fun i=>[iv i]) (fun i=>[tI (KO os W 8),tR tO (mk8 fun k=>if k<i then H3 os W k else DU os W k),tR tW ws,tI buf,tS ss]) 8 (fun _=>True) rfl rfl trivial (fun R i hi hP hR=> ?_)
 simp only [AI,AL,AH,AJ,AM,AE,AG,AR,AP,AN,AQ,AO,AS,AK,BD,BF,BI,BJ,BH,BG,BE,A1,AZ,AY,AX,A4,A5]
 simp only [CQ]
 refine AW (AT (fun hlt=> ?_) fun hge=> ?_)
 ·have hlt:i<8:=by omega
  replace hR:=hR hlt trivial
  have hml:i<(mk8 fun k=>if k<i then H3 os W k else DU os W k).length:=by rw [CQ];exact hlt
  have hoi:(mk8 fun k=>if k<i then H3 os W k else DU os W k)[i]=DU os W i:=by rw [D6 hml,JR hlt,if_neg (by omega)]
  have hset: ∀v,v=H3 os W i→(mk8 fun k=>if k<i then H3 os W k else DU os W k).set i v=mk8 fun k=>if k<i+1 then H3 os W k else DU os W k:=fun v hv=>by
   rw [QN hlt]
   refine LK fun k hk=> ?_
   by_cases h1:k=i
   ·subst h1;rw [if_pos rfl,if_pos (by omega),hv]
   ·rw [if_neg h1]
    by_cases h2:k<i
    ·rw [if_pos h2,if_pos (by omega)]
    ·rw [if_neg h2,if_neg (by omega)]
  have hin:inE (mk8 fun k=>if k<i then H3 os W k else DU os W k) i=inE (mk8 (DU os W)) i:=by
   refine sC (by rw [CQ,CQ]) fun k hk=> ?_
   rw [CQ] at hk
   rw [JR hk,JR hk]
   by_cases h2:k<i
   ·rw [if_pos h2];exact RO os W k
   ·rw [if_neg h2];exact ⟨rfl,rfl,rfl⟩
  have hlen3: ∀o∈(mk8 fun k=>if k<i then H3 os W k else DU os W k),(o.field.length:Int)≤1048576:=fun o ho=>by
   obtain ⟨k,hk,rfl⟩:=YL ho
   have hm:=iU hof hol W hk
   by_cases h2:k<i
   ·rw [if_pos h2,(RO os W k).2.2];omega
   ·rw [if_neg h2];omega
  generalize (mk8 fun k=>if k<i then H3 os W k else DU os W k)=M at hml hoi hset hin hlen3 ⊢
  have hM8:M.length=8:=by have:=congrArg List.length (hset (H3 os W i) rfl);rw [List.length_set,CQ] at this;exact this
  have hMs:M=M.set i (DU os W i):=by rw [←hoi,List.set_getElem_self]
  refine BS (AU hlt ?_)
  cases hv:(DU os W i).live with
  | true=>
    refine YD (f:=tO) (v:= .bool true) hml (by rw [hoi];simp [tO,hv]) (BQ (AU hlt ?_))
    refine WS (f:=tO) (v:=I (DU os W i).holds) hml (by decide) (by rw [hoi];rfl) (AU hlt ?_)
    refine WS (f:=tO) (v:=I (DU os W i).roots) hml (by decide) (by rw [hoi];rfl) (FU ?_)
    refine RJ ⟨by omega,by omega⟩ (by rw [hM8];decide) hlen3 ?_
    rw [hin]
    refine FU (AU hlt ?_)
    rw [hMs]
    refine IY hml ?_
    rw [hset _ (by unfold H3;rw [if_pos hv])]
    exact A6 (by omega) hR
  | false=>
    refine YD (f:=tO) (v:= .bool false) hml (by rw [hoi];simp [tO,hv]) (BT ?_)
    rw [hMs,hset _ (by unfold H3;rw [if_neg (by rw [hv];decide)])]
    exact A6 (by omega) hR
 ·have:i=8:=by omega
  subst this
  rw [LK (g:=H3 os W) fun k hk=>if_pos hk]
  exact hK
end Go.Proofs.YtnhicpkhkaihoaaGreat.P
namespace Go.Proofs.YtnhicpkhkaihoaaGreat.P
open Go Go.Proofs.YtnhicpkhkaihoaaGreat Go.Proofs.YtnhicpkhkaihoaaGreat.Eng
set_option linter.unusedVariables false
set_option maxHeartbeats 4000000
set_option linter.unusedVariables false
set_option linter.unusedSimpArgs false
attribute [local irreducible] prP gP gE gF AV ixW ldc ldg ldl stc stg scW mkW apW BC cl2 BW F6 C2
variable {w0:World}
noncomputable def H6 (h:Hp) (o:Op5):Hp×An:=
 if o.kind=1 then (⟨(GX h.BA h.sites o.site).1,h.B7,h.buffer,(GX h.BA h.sites o.site).2.1⟩,(GX h.BA h.sites o.site).2.2) else
 if o.kind=2∨o.kind=3∨o.kind=5∨o.kind=6 then (⟨(JV h.BA h.buffer o.kind o.a).1,h.B7,(JV h.BA h.buffer o.kind o.a).2.1,h.sites⟩,(JV h.BA h.buffer o.kind o.a).2.2) else
 if o.kind=4 then (⟨(HI h.BA h.buffer o.a o.b o.c).1,h.B7,(HI h.BA h.buffer o.a o.b o.c).2.1,h.sites⟩,(HI h.BA h.buffer o.a o.b o.c).2.2) else
 if o.kind=7 then (⟨h.BA,(NA h.BA h.B7 o.a).1,h.buffer,h.sites⟩,(NA h.BA h.B7 o.a).2) else
 if o.kind=8∨o.kind=9 then (⟨h.BA,(IJ h.BA h.B7 o.kind o.a).1,h.buffer,h.sites⟩,(IJ h.BA h.B7 o.kind o.a).2) else
 if o.kind=10 then (⟨(NY h.BA h.buffer).1,h.B7,[],h.sites⟩,⟨0,0,(NY h.BA h.buffer).2⟩) else (h,⟨2,0,[]⟩)
theorem mN {α:Type} [Inhabited α] {l:List α} (h: ∀i (hi:i<l.length),l[i]∉l.take i):l.Nodup:=by
 refine List.pairwise_iff_getElem.2 fun i j hi hj hij he=>h j hj ?_
 rw [←he]
 exact List.mem_take_iff_getElem.2 ⟨i,by omega,rfl⟩
theorem few {n:Nat}: ∀{l:List Int} (g:Int→Nat),l.Nodup→(∀x∈l,g x<n)→(∀x∈l, ∀y∈l,g x=g y→x=y)→l.length≤n:=by
 induction n with
 | zero=>
   intro l g _ h _
   cases l with
   | nil=>simp
   | cons x l=>exact absurd (h x (by simp)) (by omega)
 | succ n ih=>
   intro l g hn h hi
   by_cases hx: ∃x∈l,g x=n
   ·obtain ⟨x,hx,hg⟩:=hx
    have:=ih (l:=l.erase x) g (hn.erase x) (fun y hy=>by
     have hy':=List.mem_of_mem_erase hy
     have:=h y hy'
     have hne:g y≠n:=fun he=>by
      have:y=x:=hi y hy' x hx (by omega)
      subst this
      exact (List.Nodup.not_mem_erase hn) hy
     omega) fun y hy z hz=>hi y (List.mem_of_mem_erase hy) z (List.mem_of_mem_erase hz)
    rw [List.length_erase_of_mem hx] at this
    omega
   ·have:=ih g hn (fun y hy=>by
     have:=h y hy
     have:g y≠n:=fun he=>hx ⟨y,hy,he⟩
     omega) hi
    omega
theorem DH.bnd {h:Hp} (hk:DH h):h.buffer.Nodup:=mN fun i hi=>by rw [G3 hi];exact (hk.buf i hi).2
theorem DH.ZO {h:Hp} (hk:DH h) {x:Int} (hx:x∈h.buffer):0≤AB h.BA x:=by
 obtain ⟨i,hi,rfl⟩:=List.getElem_of_mem hx
 rw [G3 hi];exact (hk.buf i hi).1
theorem lT {l:List A7} {x y:Int} (hx:0≤AB l x) (hy:0≤AB l y) (h:AB l x=AB l y):x=y:=by
 have a:=BU hx;have b:=BU hy
 have e1:=a.2.2.2.2.2;have e2:=b.2.2.2.2.2
 rw [h] at e1
 omega
theorem DH.Es {h:Hp} (hk:DH h):h.buffer.length≤8:=
 few (fun x=>(AB h.BA x).toNat) hk.bnd (fun x hx=>(BU (hk.ZO hx)).2.2.2.1) fun x hx y hy he=>lT (hk.ZO hx) (hk.ZO hy) (by have:=hk.ZO hx;have:=hk.ZO hy;omega)
theorem DH.st {h:Hp} (hk:DH h) (hn:VT h):St h:=by
 refine ⟨hk.ol,hk.wl,hk.sites.len,by have:=hk.Es;omega,fun o ho=> ?_,fun s hs=> ?_,hn.weak,hn.buf⟩
 ·obtain ⟨i,hi,rfl⟩:=List.getElem_of_mem ho
  have hi8:i<8:=by have:=hk.ol;omega
  have:=hn.obj _ ho
  rw [D6 hi] at this ⊢
  exact ⟨this.1,(hk.obj i hi8).len,this.2.2.2.2.2⟩
 ·obtain ⟨i,hi,rfl⟩:=List.getElem_of_mem hs
  have:=(hk.sites.sz i hi).2
  rw [PT hi];omega
theorem DH.hr {h:Hp} (hk:DH h) (i:Nat):(0≤(ob h.BA i).holds∧(ob h.BA i).holds≤20)∧(0≤(ob h.BA i).roots∧(ob h.BA i).roots≤20):=by
 by_cases hi:i<8
 ·cases hv:(ob h.BA i).live with
  | true=>exact ⟨((hk.obj i hi).lv hv).2.2.1,((hk.obj i hi).lv hv).2.2.2.1⟩
  | false=>have:=(hk.obj i hi).dead hv;omega
 ·have:ob h.BA i=⟨false,0,0,0,0,0,[],false⟩:=by unfold ob;rw [List.getD_eq_getElem?_getD,List.getElem?_eq_none (by have:=hk.ol;omega)];rfl
  rw [this];simp
theorem DH.fd {h:Hp} (hk:DH h) (i:Nat): ∀f∈(ob h.BA i).field,f= -1∨0≤f:=by
 intro f hf
 by_cases hi:i<8
 ·obtain ⟨j,hj,rfl⟩:=List.getElem_of_mem hf
  have ho:=hk.obj i hi
  by_cases h1:gI (ob h.BA i).field j= -1
  ·left;rw [G3 hj];exact h1
  ·right
   have:=BU (ho.lead j (by have:=ho.len;omega) h1).2
   rw [G3 hj];omega
 ·have:ob h.BA i=⟨false,0,0,0,0,0,[],false⟩:=by unfold ob;rw [List.getD_eq_getElem?_getD,List.getElem?_eq_none (by have:=hk.ol;omega)];rfl
  rw [this] at hf;simp at hf
theorem kinds (k:Int):k=1∨(k=2∨k=3∨k=5∨k=6)∨k=4∨k=7∨(k=8∨k=9)∨k=10∨ ¬(k=1∨k=2∨k=3∨k=4∨k=5∨k=6∨k=7∨k=8∨k=9∨k=10):=by omega
theorem VY {h:Hp} {o:Op5} {K:J2} (hk:DH h) (hn:VT h) (ha:F64 o.a) (hc:F64 o.c) (hK:K [I (H6 h o).2.code,I (H6 h o).2.val] (tI (H6 h o).2.freed::trees (H6 h o).1)):cl2 ⟨Tryz.prog,w0⟩ 73 DB.sg [I o.kind,I o.a,I o.b,I o.c, .string o.site] (trees h) K:=by
 have st:=hk.st hn
 have hr:=hk.hr
 refine DB.cl2 ?_
 unfold DB.txt
 obtain ⟨os,ws,buf,ss⟩:=h
 obtain ⟨kd,a,b,c,s⟩:=o
 have hol:os.length=8:=st.ol
 have hof: ∀o∈os,OF o:=st.of
 have hb:buf.length≤100:=st.bl
 simp only at ha hc hr
 simp only [trees]
 unfold H6 at hK
 simp only at hK
 rcases kinds kd with rfl | hkd | rfl | rfl | hkd | rfl | hkd
 ·rw [if_pos rfl] at hK
  exact BL (CX rfl (e6 hol st.sl hK))
 ·rw [if_neg (by omega),if_pos hkd] at hK
  have cc:=fun {K:J2}=>ZN (w0:=w0) (os:=os) (buf:=buf) (b:=tR tW ws) (d:=tS ss) (kind:=kd) (id:=a) (K:=K) hol hof hb ha hkd hr
  rcases hkd with rfl | rfl | rfl | rfl
  all_goals
   repeat' (first | refine BS ?_ | refine BQ ?_ | refine BT ?_ | refine BL ?_ | simp only [AI,AL,AH,AJ,AM,AE,AG,AR,AP,AN,AQ,AO,AS,AK,BD,BF,BI,BJ,BH,BG,BE,A1,AZ,AY,AX,A4,A5])
   exact cc hK
 ·simp only [if_neg (show ¬(4:Int)=1 by decide),if_neg (show ¬((4:Int)=2∨(4:Int)=3∨(4:Int)=5∨(4:Int)=6) by decide),if_true] at hK
  repeat' (first | refine BS ?_ | refine BQ ?_ | refine BT ?_ | refine BL ?_ | simp only [AI,AL,AH,AJ,AM,AE,AG,AR,AP,AN,AQ,AO,AS,AK,BD,BF,BI,BJ,BH,BG,BE,A1,AZ,AY,AX,A4,A5])
  exact gH hol hof hb ha hc hK
 ·simp only [if_neg (show ¬(7:Int)=1 by decide),if_neg (show ¬((7:Int)=2∨(7:Int)=3∨(7:Int)=5∨(7:Int)=6) by decide),if_neg (show ¬(7:Int)=4 by decide),if_true] at hK
  repeat' (first | refine BS ?_ | refine BQ ?_ | refine BT ?_ | refine BL ?_ | simp only [AI,AL,AH,AJ,AM,AE,AG,AR,AP,AN,AQ,AO,AS,AK,BD,BF,BI,BJ,BH,BG,BE,A1,AZ,AY,AX,A4,A5])
  exact jZ hol st.wl ha hK
 ·rw [if_neg (by omega),if_neg (by omega),if_neg (by omega),if_neg (by omega),if_pos hkd] at hK
  rcases hkd with rfl | rfl
  all_goals
   repeat' (first | refine BS ?_ | refine BQ ?_ | refine BT ?_ | refine BL ?_ | simp only [AI,AL,AH,AJ,AM,AE,AG,AR,AP,AN,AQ,AO,AS,AK,BD,BF,BI,BJ,BH,BG,BE,A1,AZ,AY,AX,A4,A5])
   exact bH hol st.wl ha st.wf hK
 ·simp only [if_neg (show ¬(10:Int)=1 by decide),if_neg (show ¬((10:Int)=2∨(10:Int)=3∨(10:Int)=5∨(10:Int)=6) by decide),if_neg (show ¬(10:Int)=4 by decide),if_neg (show ¬(10:Int)=7 by decide),if_neg (show ¬((10:Int)=8∨(10:Int)=9) by decide),if_true] at hK
  repeat' (first | refine BS ?_ | refine BQ ?_ | refine BT ?_ | refine BL ?_ | simp only [AI,AL,AH,AJ,AM,AE,AG,AR,AP,AN,AQ,AO,AS,AK,BD,BF,BI,BJ,BH,BG,BE,A1,AZ,AY,AX,A4,A5])
  exact Y1 st (fun o ho=>(hn.obj o ho).2.2.2.2.1) hK
 ·rw [if_neg (by omega),if_neg (by omega),if_neg (by omega),if_neg (by omega),if_neg (by omega),if_neg (by omega)] at hK
  repeat' (first | refine BS ?_ | refine C7 (by first | with_reducible assumption | omega) ?_ | refine BL ?_ | simp only [AI,AL,AH,AJ,AM,AE,AG,AR,AP,AN,AQ,AO,AS,AK,BD,BF,BI,BJ,BH,BG,BE,A1,AZ,AY,AX,A4,A5])
  all_goals first | exact B9 hK | (exfalso;omega)
end Go.Proofs.YtnhicpkhkaihoaaGreat.P
namespace Go.Proofs.YtnhicpkhkaihoaaGreat.P
open Go Go.Proofs.YtnhicpkhkaihoaaGreat Go.Proofs.YtnhicpkhkaihoaaGreat.Eng
set_option linter.unusedVariables false
set_option maxHeartbeats 4000000
set_option linter.unusedVariables false
set_option linter.unusedSimpArgs false
attribute [local irreducible] prP gP gE gF AV ixW ldc ldg ldl stc stg scW mkW apW BC cl2 BW F6 C2
variable {w0:World}
open Classical in
noncomputable def NJ (h:Hp) (o:Op5):Hp×An:=if DH h then H6 h o else (h,⟨2,0,[]⟩)
theorem RP {h:Hp} {o:Op5} (hk:DH h):NJ h o=H6 h o:=by unfold NJ;rw [if_pos hk]
theorem jG {h:Hp} {o:Op5} (hk: ¬DH h):NJ h o=(h,⟨2,0,[]⟩):=by unfold NJ;rw [if_neg hk]
theorem dV {h:Hp} {o:Op5} {K:J2} (hf:Fits h) (hn:VT h) (ha:F64 o.a) (hc:F64 o.c) (hK:K [I (NJ h o).2.code,I (NJ h o).2.val] (trees (NJ h o).1++[tI (NJ h o).2.freed])):cl2 ⟨Tryz.prog,w0⟩ 44 JG.sg [I o.kind,I o.a,I o.b,I o.c, .string o.site] (trees h) K:=by
 refine JG.cl2 ?_
 unfold JG.txt
 refine QZ hf (bS hf hn (fun hk=>BP (BT ?_)) fun hk=>BP (BQ ?_))
 ·rw [RP hk] at hK
  exact VY hk hn ha hc hK
 ·rw [jG hk] at hK
  exact B9 hK
theorem VV {h:Hp} {o:Op5} {K:J2} (hf:Fits h) (hn:VT h) (ha:F64 o.a) (hc:F64 o.c) (hK:K [I (NJ h o).2.code,I (NJ h o).2.val] (trees (NJ h o).1++[tI (NJ h o).2.freed])):cl2 ⟨Tryz.prog,w0⟩ 53 HU.sg [I o.kind,I o.a,I o.b,I o.c, .string o.site] (trees h) K:=by
 refine HU.cl2 ?_
 unfold HU.txt
 refine MT hf (bO hf hn (fun hk=>BP (BT ?_)) fun hk=>BP (BQ ?_))
 rotate_left
 ·rw [jG hk] at hK
  exact hK
 rw [RP hk] at hK
 have st:=hk.st hn
 have hr:=hk.hr
 have hfd:=hk.fd
 have hss:=hk.sites
 have hcn: ∀o∈h.BA,F64 o.count:=fun o ho=>(hn.obj o ho).2.2.2.2.1
 clear hf hk
 obtain ⟨kd,a,b,c,s⟩:=o
 have hol:h.BA.length=8:=st.ol
 simp only at ha hc hr
 unfold H6 at hK
 simp only at hK
 have hold:=fun {K:J2} (hkd:kd=2∨kd=3∨kd=5∨kd=6)=>bJ (w0:=w0) (h:=h) (kind:=kd) (id:=a) (b:=b) (c:=c) (s:=s) (K:=K) st ha hkd hr
 have store:=fun {K:J2}=>ZU (w0:=w0) (h:=h) (a0:=kd) (a1:=a) (a2:=b) (a3:=c) (s:=s) (K:=K) st ha hc hfd
 have yJ:=fun {K:J2}=>bG (w0:=w0) (h:=h) (K:=K) st hcn
 have weak:=fun {K:J2}=>bN (w0:=w0) (os:=h.BA) (ws:=h.B7) (cc:=tI h.buffer) (d:=tS h.sites) (kind:=kd) (k:=a) (b:=b) (c:=c) (s:=s) (K:=K) hol st.wl ha st.wf
 simp only [trees] at hold store yJ ⊢
 rcases kinds kd with rfl | hkd | rfl | rfl | hkd | rfl | hkd
 ·rw [if_pos rfl] at hK
  exact BL (CX rfl (bC hol hss hK))
 ·rw [if_neg (by omega),if_pos hkd] at hK
  replace hold:=fun {K:J2}=>hold (K:=K) hkd
  rcases hkd with rfl | rfl | rfl | rfl
  all_goals
   repeat' (first | refine BS ?_ | refine BQ ?_ | refine BT ?_ | refine BL ?_ | simp only [AI,AL,AH,AJ,AM,AE,AG,AR,AP,AN,AQ,AO,AS,AK,BD,BF,BI,BJ,BH,BG,BE,A1,AZ,AY,AX,A4,A5])
   exact hold hK
 ·simp only [if_neg (show ¬(4:Int)=1 by decide),if_neg (show ¬((4:Int)=2∨(4:Int)=3∨(4:Int)=5∨(4:Int)=6) by decide),if_true] at hK
  repeat' (first | refine BS ?_ | refine BQ ?_ | refine BT ?_ | refine BL ?_ | simp only [AI,AL,AH,AJ,AM,AE,AG,AR,AP,AN,AQ,AO,AS,AK,BD,BF,BI,BJ,BH,BG,BE,A1,AZ,AY,AX,A4,A5])
  exact store hK
 ·simp only [if_neg (show ¬(7:Int)=1 by decide),if_neg (show ¬((7:Int)=2∨(7:Int)=3∨(7:Int)=5∨(7:Int)=6) by decide),if_neg (show ¬(7:Int)=4 by decide),if_true] at hK
  repeat' (first | refine BS ?_ | refine BQ ?_ | refine BT ?_ | refine BL ?_ | simp only [AI,AL,AH,AJ,AM,AE,AG,AR,AP,AN,AQ,AO,AS,AK,BD,BF,BI,BJ,BH,BG,BE,A1,AZ,AY,AX,A4,A5])
  exact weak (fun _=>hK) (fun hh=>absurd rfl hh)
 ·rw [if_neg (by omega),if_neg (by omega),if_neg (by omega),if_neg (by omega),if_pos hkd] at hK
  rcases hkd with rfl | rfl
  all_goals
   repeat' (first | refine BS ?_ | refine BQ ?_ | refine BT ?_ | refine BL ?_ | simp only [AI,AL,AH,AJ,AM,AE,AG,AR,AP,AN,AQ,AO,AS,AK,BD,BF,BI,BJ,BH,BG,BE,A1,AZ,AY,AX,A4,A5])
   exact weak (fun hh=>absurd hh (by decide)) (fun _=>hK)
 ·simp only [if_neg (show ¬(10:Int)=1 by decide),if_neg (show ¬((10:Int)=2∨(10:Int)=3∨(10:Int)=5∨(10:Int)=6) by decide),if_neg (show ¬(10:Int)=4 by decide),if_neg (show ¬(10:Int)=7 by decide),if_neg (show ¬((10:Int)=8∨(10:Int)=9) by decide),if_true] at hK
  repeat' (first | refine BS ?_ | refine BQ ?_ | refine BT ?_ | refine BL ?_ | simp only [AI,AL,AH,AJ,AM,AE,AG,AR,AP,AN,AQ,AO,AS,AK,BD,BF,BI,BJ,BH,BG,BE,A1,AZ,AY,AX,A4,A5])
  exact yJ hK
 ·rw [if_neg (by omega),if_neg (by omega),if_neg (by omega),if_neg (by omega),if_neg (by omega),if_neg (by omega)] at hK
  repeat' (first | refine BS ?_ | refine C7 (by first | with_reducible assumption | omega) ?_ | refine BL ?_ | simp only [AI,AL,AH,AJ,AM,AE,AG,AR,AP,AN,AQ,AO,AS,AK,BD,BF,BI,BJ,BH,BG,BE,A1,AZ,AY,AX,A4,A5])
  all_goals first | exact hK | (exfalso;omega)
end Go.Proofs.YtnhicpkhkaihoaaGreat.P
namespace Go.Proofs.YtnhicpkhkaihoaaGreat.P
open Go Go.Proofs.YtnhicpkhkaihoaaGreat Go.Proofs.YtnhicpkhkaihoaaGreat.Eng
set_option linter.unusedVariables false
def okE (n:Int) (l:List ByteArray) (a b c d:Int) (s:ByteArray) (k v:Int) (xs:List Int):Bool:=(RT a b c d s&&SL k v xs)&&TI n l
def Fx (q:ByteArray×Int) (x:Int):ByteArray×Int:=(q.1++SI (x-q.2),x)
def base (n:Int) (l:List ByteArray) (a b c d:Int) (s:ByteArray) (k v:Int) (m:Nat):ByteArray:=((((((SI a++SI (b-n))++SI c)++SI (d-b))++Q0 l s)++V k)++SI (v-b))++V m
def stE (p:ByteArray×Int) (xs:List Int) (i:Nat):ByteArray×Int:=(xs.take i).foldl Fx p
theorem aM {p:ByteArray×Int} {xs:List Int} {i:Nat} (hi:i<xs.length):stE p xs (i+1)=Fx (stE p xs i) xs[i]:=by
 rw [stE,List.take_succ_eq_append_getElem hi,List.foldl_append];rfl
theorem dX {p:ByteArray×Int} {xs:List Int} (hp:KW p.2=true) (hx:xs.all KW=true): ∀i,i≤xs.length→KW (stE p xs i).2=true∧(stE p xs i).1.size≤p.1.size+7*i
 | 0,_=>⟨hp,Nat.le_refl _⟩
 | i+1,hi=>by
   obtain ⟨h1,h2⟩:=dX hp hx i (by omega)
   rw [aM (by omega)]
   refine ⟨List.all_eq_true.1 hx _ (List.getElem_mem _), ?_⟩
   have:=H0 (zg (xs[i]-(stE p xs i).2))
   simp only [Fx,ByteArray.size_append,SI];omega
theorem UI (l:List ByteArray) (s:ByteArray):(Q0 l s).size≤22:=by
 unfold Q0;split
 ·have:=H0 (at_ l s+1);omega
 ·have h1:=H0 0
  have h2:=fF s
  rw [ByteArray.size_append];omega
theorem II (n:Int):(SI n).size≤7:=H0 _
theorem FH {n:Int} (h:KW n=true): -1000000000≤n∧n≤1000000000:=K5.1 h
def LI (n:Int) (l:List ByteArray) (a b c d:Int) (s:ByteArray) (k v:Int) (xs:List Int):ByteArray×Int×List ByteArray:=
 if okE n l a b c d s k v xs then ((stE (base n l a b c d s k v xs.length,b) xs xs.length).1,b,UM l s) else (⟨#[]⟩,n,l)
theorem N7 {n:Int} {l:List ByteArray} {a b c d:Int} {s:ByteArray} {k v:Int} {xs:List Int} (h:okE n l a b c d s k v xs=true):KW a=true∧KW b=true∧KW c=true∧KW d=true∧KW v=true∧KW n=true∧xs.all KW=true∧xs.length≤8∧(0≤k∧k≤6)∧l.length≤400:=by
 simp only [okE,RT,SL,TI,Bool.and_eq_true,decide_eq_true_eq] at h
 exact ⟨h.1.1.1.1.1.1,h.1.1.1.1.1.2,h.1.1.1.1.2,h.1.1.1.2,h.1.2.1.1.2,h.2.1.1,h.1.2.2,h.1.2.1.2,K5.1 h.1.2.1.1.1,h.2.1.2⟩
theorem WW (n:Int) (l:List ByteArray) (a b c d:Int) (s:ByteArray) (k v:Int) (m:Nat):(base n l a b c d s k v m).size≤71:=by
 have h1:=II a;have h2:=II (b-n);have h3:=II c;have h4:=II (d-b);have h5:=UI l s;have h6:=H0 k;have h7:=II (v-b);have h8:=H0 m
 simp only [base,ByteArray.size_append];omega
theorem WO {w0:World} {n:Int} {l:List ByteArray} {a b c d:Int} {s:ByteArray} {k v:Int} {xs:List Int} {K:J2} (hl:l.length<2^40) (hx:(xs.length:Int)<2^62)
  (h:K [.string (LI n l a b c d s k v xs).1,I (LI n l a b c d s k v xs).2.1] [tS (LI n l a b c d s k v xs).2.2]):cl2 ⟨Tryz.prog,w0⟩ 74 FI.sg [I n,I a,I b,I c,I d, .string s,I k,I v] [tS l,tI xs] K:=by
 refine FI.cl2 ?_
 unfold FI.txt
 simp only [AG,AE]
 refine PS (BP (HX (Y0 (fun _ K hk=>UN hx hk) (HX (Y0 (fun _ K hk=>XR (by omega) hk) (JI (fun hb=> ?_) fun hb=> ?_))))))
 ·have hno:okE n l a b c d s k v xs=false:=by
   revert hb;unfold okE
   cases RT a b c d s <;> cases SL k v xs <;> cases TI n l <;> simp
  rw [LI,hno] at h
  refine U4 (S8 l) (by simp [cnt];omega) ?_
  rw [List.nil_append];exact h
 ·have hok:okE n l a b c d s k v xs=true:=by
   revert hb;unfold okE
   cases RT a b c d s <;> cases SL k v xs <;> cases TI n l <;> simp
  rw [LI,if_pos hok] at h
  obtain ⟨ha,hb,hc,hd,hv,hn,hxs,hxl,hk,hll⟩:=N7 hok
  have a1:=FH ha;have b1:=FH hb;have c1:=FH hc;have d1:=FH hd;have v1:=FH hv;have n1:=FH hn
  have h1:=II a;have h2:=II (b-n);have h3:=II c;have h4:=II (d-b);have h5:=UI l s;have h6:=H0 k;have h7:=II (v-b);have h8:=H0 xs.length
  refine ZV hl (IZ (DZ ⟨by omega,by omega⟩ (IZ (CH (by omega) (IZ (CH (by simp only [ByteArray.size_append];omega) (DZ ⟨by omega,by omega⟩ (IZ (CH (by simp only [ByteArray.size_append];omega) (CH (by simp only [ByteArray.size_append];omega) (K6 ⟨by omega,by omega⟩ (CH (by simp only [ByteArray.size_append];omega) (DZ ⟨by omega,by omega⟩ (IZ (CH (by simp only [ByteArray.size_append];omega) (K6 (n:=Int.ofNat xs.length) ⟨by simp only [Int.ofNat_eq_natCast];omega,by simp only [Int.ofNat_eq_natCast];omega⟩ (CH (by simp only [Int.ofNat_eq_natCast,ByteArray.size_append];omega) ?_)))))))))))))))))
  have hbs:=WW n l a b c d s k v xs.length
  refine A8 (fun i=>[.string (stE (base n l a b c d s k v xs.length,b) xs i).1,I (stE (base n l a b c d s k v xs.length,b) xs i).2,iv i,I a,I b,I c,I d, .string s,I k,I v, .int .i64 0,I n]) (fun _=>[tS (UM l s)]) xs.length (fun _=>True) rfl rfl trivial (fun R i hi _ hR=> ?_)
  refine MX (AT (fun hlt=> ?_) fun hge=> ?_)
  ·obtain ⟨q1,q2⟩:=dX (p:=(base n l a b c d s k v xs.length,b)) hb hxs i hi
   have q3:=FH q1
   have q4:=FH (List.all_eq_true.1 hxs _ (List.getElem_mem hlt))
   simp only at q2
   have q5:=II (xs[i]-(stE (base n l a b c d s k v xs.length,b) xs i).2)
   have:=hR hlt trivial
   rw [aM hlt] at this
   exact AU hlt (QI hlt (DZ ⟨by omega,by omega⟩ (IZ (CH (by omega) (AU hlt (QI hlt (A6 (by omega) this)))))))
  ·have:i=xs.length:=by omega
   subst this
   exact h
end Go.Proofs.YtnhicpkhkaihoaaGreat.P
namespace Go.Proofs.YtnhicpkhkaihoaaGreat.P
open Go Go.Proofs.YtnhicpkhkaihoaaGreat Go.Proofs.YtnhicpkhkaihoaaGreat.Eng
set_option linter.unusedVariables false
theorem pW {f:J2} {g:J2→Prop} (P:List Value→List (List T)→Prop) (h1: ∀xs cs,P xs cs→f xs cs) (h2: ∀j:J2,(∀xs cs,P xs cs→j xs cs)→g j):BW f g:=h2 f h1
theorem P3 {w0:World} {n:Int} {l:List ByteArray} {a b c d:Int} {s:ByteArray} {k v:Int} {xs:List Int} {K:J2} (hl:l.length<2^40) (hx:(xs.length:Int)<2^62)
  (h:K [.string (LI n l a b c d s k v xs).1,I (LI n l a b c d s k v xs).2.1] [tS (LI n l a b c d s k v xs).2.2]):cl2 ⟨Tryz.prog,w0⟩ 46 DE.sg [I n,I a,I b,I c,I d, .string s,I k,I v] [tS l,tI xs] K:=by
 refine DE.cl2 ?_
 unfold DE.txt
 simp only [AG,AE]
 refine RK (by omega) (WV (BP (HX (Y0 (fun _ K hk=>U8 hx hk) (HX (Y0 (fun _ K hk=>gL (by omega) hk) (JI (fun hb=> ?_) fun hb=> ?_)))))))
 ·have hno:okE n l a b c d s k v xs=false:=by
   revert hb;unfold okE
   cases RT a b c d s <;> cases SL k v xs <;> cases TI n l <;> simp
  rw [LI,hno] at h
  exact h
 ·have hok:okE n l a b c d s k v xs=true:=by
   revert hb;unfold okE
   cases RT a b c d s <;> cases SL k v xs <;> cases TI n l <;> simp
  rw [LI,if_pos hok] at h
  obtain ⟨ha,hb,hc,hd,hv,hn,hxs,hxl,hk,hll⟩:=N7 hok
  have a1:=FH ha;have b1:=FH hb;have c1:=FH hc;have d1:=FH hd;have v1:=FH hv;have n1:=FH hn
  have h1:=II a;have h2:=II (b-n);have h3:=II c;have h4:=II (d-b);have h5:=UI l s;have h6:=H0 k;have h7:=II (v-b);have h8:=H0 xs.length
  refine I0 (DZ ⟨by omega,by omega⟩ (I0 (CH (by omega) (I0 (CH (by simp only [ByteArray.size_append];omega) (DZ ⟨by omega,by omega⟩ (I0 (CH (by simp only [ByteArray.size_append];omega) ?_))))))))
  refine pW (fun ys cs=>ys=[.string (((((SI a++SI (b-n))++SI c)++SI (d-b)))++Q0 l s),I a,I b,I c,I d, .string s,I k,I v, .int .i64 0,I b]∧cs=[tS (UM l s)]) (fun ys cs hp=> ?_) fun j hj=> ?_
  ·obtain ⟨rfl,rfl⟩:=hp
   refine K8 ⟨by omega,by omega⟩ (DZ ⟨by omega,by omega⟩ (I0 (CH (by omega) (K8 (n:=Int.ofNat xs.length) ⟨by simp only [Int.ofNat_eq_natCast];omega,by simp only [Int.ofNat_eq_natCast];omega⟩ (CH (by simp only [Int.ofNat_eq_natCast,ByteArray.size_append];omega) (CH (by simp only [Int.ofNat_eq_natCast,ByteArray.size_append];omega) ?_))))))
   have hbs:=WW n l a b c d s k v xs.length
   refine A8 (fun i=>[.string (stE (base n l a b c d s k v xs.length,b) xs i).1,I (stE (base n l a b c d s k v xs.length,b) xs i).2,iv xs.length,iv i, .int .i64 0,I b]) (fun _=>[tS (UM l s)]) xs.length (fun _=>True) ?_ rfl trivial (fun R i hi _ hR=> ?_)
   ·have e:(stE (base n l a b c d s k v xs.length,b) xs 0)=(base n l a b c d s k v xs.length,b):=rfl
    rw [e]
    simp only [base,ByteArray.append_assoc,Int.ofNat_eq_natCast]
    rfl
   refine MX (AT (fun hlt=> ?_) fun hge=> ?_)
   ·obtain ⟨q1,q2⟩:=dX (p:=(base n l a b c d s k v xs.length,b)) hb hxs i hi
    have q3:=FH q1
    have q4:=FH (List.all_eq_true.1 hxs _ (List.getElem_mem hlt))
    simp only at q2
    have q5:=II (xs[i]-(stE (base n l a b c d s k v xs.length,b) xs i).2)
    have:=hR hlt trivial
    rw [aM hlt] at this
    exact AU hlt (QI hlt (DZ ⟨by omega,by omega⟩ (I0 (CH (by omega) (A6 (by omega) this)))))
   ·have:i=xs.length:=by omega
    subst this
    exact h
  ·refine PG (by omega) (I4 (b:=0) (AT (fun hge=> ?_) fun hlt=> ?_))
   ·have hm:s∈l:=by
     by_cases hm:s∈l
     ·exact hm
     ·rw [at_,if_neg hm] at hge;omega
    have hat:at_ l s≤l.length:=by rw [at_,if_pos hm];have:=List.idxOf_lt_length_of_mem hm;omega
    have hv:=H0 (at_ l s+1)
    refine CW (b:=1) ⟨by omega,by omega⟩ (K8 ⟨by omega,by omega⟩ (CH (by simp only [ByteArray.size_append];omega) (hj _ _ ⟨?_, ?_⟩)))
    ·rw [Q0,if_pos hm]
    ·rw [UM,if_pos hm];rfl
   ·have hm:s∉l:=by
     intro hm
     rw [at_,if_pos hm] at hlt;omega
    have hv:=H0 0
    have hs:=fF s
    refine K8 ⟨by omega,by omega⟩ (XY (CH (by omega) (CH (by simp only [ByteArray.size_append];omega) (U4 rfl ?_ (hj _ _ ⟨?_, ?_⟩)))))
    ·have hc:cnt 1 (nxc [tS l] 0)=l.length:=AG l
     rw [hc];simp [cnt];omega
    ·rw [Q0,if_neg hm]
    ·rw [UM,if_neg hm];simp [tS,nxc]
end Go.Proofs.YtnhicpkhkaihoaaGreat.P
