/- A part of the proof. -/
import Derived.Test.YtklmcfpgdfibnaaPtHpR
import Derived.Test.YtklmcfpgdfibnaaPtHpG
namespace Go.Proofs.Ytklmcfpgdfibnaa.P
open Go Go.Proofs.Ytklmcfpgdfibnaa Go.Proofs.Ytklmcfpgdfibnaa.Eng
set_option linter.unusedVariables false
set_option maxHeartbeats 4000000
set_option linter.unusedVariables false
set_option linter.unusedSimpArgs false
attribute [local irreducible] prP gP gE gF AW ixW ldc ldg ldl stc stg scW mkW apW BK cl2 BW EI CM
variable {w0:World}
theorem X5 {os:List AU} {i:Nat} (hi:i<os.length):(os.take (i+1)).map (·.count)=(os.take i).map (·.count)++[(ob os i).count]:=by
 rw [List.take_succ_eq_append_getElem hi,List.map_append,DN hi];rfl
theorem TV {os:List AU} {b c d:List T} {K:J2} (hol:os.length=8) (h:K [] [tI (os.map (·.count)),tI (List.replicate 8 0)]):cl2 ⟨Try.prog,w0⟩ 56 EO.sg [] [tR tO os,b,c,d] K:=by
 refine EO.cl2 ?_
 unfold EO.txt
 simp only [AG,AM,AK,AP,AI,AD,AE,AR,AQ,AO,AL,AJ,AN,AH,BC,BF,BJ,BG,BH,BI,BE,A6,A7,A1,A4,A5,AZ]
 refine BB (fun i=>[iv os.length,iv i]) (fun i=>[tI ((os.take i).map (·.count)),tI (List.replicate i 0)]) os.length (fun _=>True) rfl rfl trivial (fun R i hi hP hR=> ?_)
 have hln:((os.take i).map (·.count)).length=i:=by simp;omega
 have hl2:(List.replicate i (0:Int)).length=i:=List.length_replicate
 simp only [AG,AM,AK,AP,AI,AD,AE,AR,AQ,AO,AL,AJ,AN,AH,BC,BF,BJ,BG,BH,BI,BE,A6,A7,A1,A4,A5,AZ]
 refine AX (AV (fun hlt=> ?_) fun hge=> ?_)
 ·have hlt:i<os.length:=by omega
  replace hR:=hR hlt trivial
  rw [X5 hlt, ←EG,List.replicate_succ', ←EG] at hR
  refine BP (AT hlt (K9 hlt ?_))
  simp only [iL]
  exact AX (DA (by omega) (EM rfl (by omega) (EM rfl (by omega) (BA (by omega) hR))))
 ·have:i=os.length:=by omega
  subst this
  rw [List.take_length,hol];exact h
theorem T5 {os:List AU} {b c d:List T} {K:J2} (hol:os.length=8) (h:K [] [tI (os.map (·.count)),tI (List.replicate 8 0)]):cl2 ⟨Try.prog,w0⟩ 155 E9.sg [] [tR tO os,b,c,d] K:=by
 refine E9.cl2 ?_
 unfold E9.txt
 simp only [AG,AM,AK,AP,AI,AD,AE,AR,AQ,AO,AL,AJ,AN,AH,BC,BF,BJ,BG,BH,BI,BE,A6,A7,A1,A4,A5,AZ]
 refine BB (fun i=>[iv i]) (fun i=>[tI ((os.take i).map (·.count)),tI (List.replicate i 0)]) os.length (fun _=>True) rfl rfl trivial (fun R i hi hP hR=> ?_)
 have hln:((os.take i).map (·.count)).length=i:=by simp;omega
 have hl2:(List.replicate i (0:Int)).length=i:=List.length_replicate
 simp only [AG,AM,AK,AP,AI,AD,AE,AR,AQ,AO,AL,AJ,AN,AH,BC,BF,BJ,BG,BH,BI,BE,A6,A7,A1,A4,A5,AZ]
 refine AX (BO (I1 (fun hlt=> ?_) fun hge=> ?_))
 ·have hlt':i<os.length:=by omega
  replace hR:=hR hlt' trivial
  rw [X5 hlt', ←EG,List.replicate_succ', ←EG] at hR
  refine AX (C4 hlt rfl (DA (by omega) ?_))
  exact AT hlt' (HX (v:=I (ob os i).count) hlt' (by decide) rfl (EM rfl (by omega) (EM rfl (by omega) (BA (by omega) hR))))
 ·have:i=os.length:=by omega
  subst this
  refine C5 hge rfl (BU ?_)
  rw [List.take_length,hol];exact h
theorem W8 {cs col:List Int} {W:Nat→Bool} {K:J2} (hl:col.length=8) (hw: ∀k,k<8→(gI col k=2↔W k=true)) (h:K [] [tI (CO W 8)]):cl2 ⟨Try.prog,w0⟩ 60 GW.sg [] [tI cs,tI col] K:=by
 refine GW.cl2 ?_
 unfold GW.txt
 simp only [AG,AM,AK,AP,AI,AD,AE,AR,AQ,AO,AL,AJ,AN,AH,BC,BF,BJ,BG,BH,BI,BE,A6,A7,A1,A4,A5,AZ]
 refine BB (fun i=>[iv col.length,iv i]) (fun i=>[tI (CO W i)]) col.length (fun _=>True) rfl rfl trivial (fun R i hi hP hR=> ?_)
 have hln:(CO W i).length≤i:=JI (fun i=>by split <;> simp) i
 simp only [AG,AM,AK,AP,AI,AD,AE,AR,AQ,AO,AL,AJ,AN,AH,BC,BF,BJ,BG,BH,BI,BE,A6,A7,A1,A4,A5,AZ]
 refine AX (AV (fun hlt=> ?_) fun hge=> ?_)
 ·have hlt:i<col.length:=by omega
  replace hR:=hR hlt trivial
  have hwi:=hw i (by omega)
  refine BP (AT hlt (ldI hlt (BM (AV (fun h2=> ?_) fun h2=> ?_))))
  ·have e:CO W (i+1)=CO W i++[(i:Int)]:=by show CO W i++(if W i=true then [(i:Int)] else [])=_;rw [if_pos (hwi.1 h2)]
   rw [e, ←EG] at hR
   exact EM rfl (by omega) (BA (by omega) hR)
  ·have e:CO W (i+1)=CO W i:=by show CO W i++(if W i=true then [(i:Int)] else [])=_;rw [if_neg (fun hh=>h2 (hwi.2 hh)),List.append_nil]
   rw [e] at hR
   exact BA (by omega) hR
 ·have:i=col.length:=by omega
  subst this
  rw [hl];exact h
theorem XK {cs col:List Int} {W:Nat→Bool} {K:J2} (hl:col.length=8) (hw: ∀k,k<8→(gI col k=2↔W k=true)) (h:K [] [tI (CO W 8)]):cl2 ⟨Try.prog,w0⟩ 158 GL.sg [] [tI cs,tI col] K:=by
 refine GL.cl2 ?_
 unfold GL.txt
 simp only [AG,AM,AK,AP,AI,AD,AE,AR,AQ,AO,AL,AJ,AN,AH,BC,BF,BJ,BG,BH,BI,BE,A6,A7,A1,A4,A5,AZ]
 refine BB (fun i=>[iv i]) (fun i=>[tI (CO W i)]) col.length (fun _=>True) rfl rfl trivial (fun R i hi hP hR=> ?_)
 have hln:(CO W i).length≤i:=JI (fun i=>by split <;> simp) i
 simp only [AG,AM,AK,AP,AI,AD,AE,AR,AQ,AO,AL,AJ,AN,AH,BC,BF,BJ,BG,BH,BI,BE,A6,A7,A1,A4,A5,AZ]
 refine AX (AV (fun hlt=> ?_) fun hge=> ?_)
 ·have hlt:i<col.length:=by omega
  replace hR:=hR hlt trivial
  have hwi:=hw i (by omega)
  refine BP (AT hlt (ldI hlt (BM (AV (fun h2=> ?_) fun h2=> ?_))))
  ·have e:CO W (i+1)=CO W i++[(i:Int)]:=by show CO W i++(if W i=true then [(i:Int)] else [])=_;rw [if_pos (hwi.1 h2)]
   rw [e, ←EG] at hR
   exact EM rfl (by omega) (BA (by omega) hR)
  ·have e:CO W (i+1)=CO W i:=by show CO W i++(if W i=true then [(i:Int)] else [])=_;rw [if_neg (fun hh=>h2 (hwi.2 hh)),List.append_nil]
   rw [e] at hR
   exact BA (by omega) hR
 ·have:i=col.length:=by omega
  subst this
  rw [hl];exact h
theorem MK.start {os:List AU} (hol:os.length=8) (hc: ∀o∈os,F64 o.count):MK os (fun i=>(ob os i).count) [] (os.map (·.count)) (List.replicate 8 0):=by
 have hz: ∀k,k<8→gI (List.replicate 8 (0:Int)) k=0:=fun k hk=>by unfold gI;rw [List.getD_eq_getElem?_getD,List.getElem?_replicate,if_pos hk];rfl
 have hcs: ∀i,i<8→gI (os.map (·.count)) i=(ob os i).count:=fun i hi=>by
  rw [←EN (by simp;omega),List.getElem_map,DN (by omega)]
 have hF: ∀i,i<8→F64 (ob os i).count:=fun i hi=>hc _ (GG (by omega))
 refine ⟨⟨by simp [hol],by simp⟩,fun i hi=>by rw [hcs i hi];exact hF i hi,fun k hk h1=> ?_,fun k hk h1=>⟨hz k hk, ?_⟩,fun i hi=> ?_⟩
 ·rw [hz k hk] at h1;omega
 ·rintro ⟨b,hb,_⟩;simp at hb
 ·have:S os (isC (List.replicate 8 0) 1) i=0:=JZ fun k hk=>by unfold isC;rw [hz k hk];rfl
  rw [hcs i hi,this,Int.sub_zero,LO (hF i hi)]
theorem uA {os:List AU} {W:Nat→Bool} {j:Nat} (hj:j<(CO W 8).length) {x:Nat} (hx:gI (CO W 8) j=(x:Int)):(fun i:Nat=>if ((i:Nat):Int)∈(CO W 8).take (j+1) then B6 (ob os i).gen else ob os i)=fun i=>if i=x then B6 (ob os x).gen else (if ((i:Nat):Int)∈(CO W 8).take j then B6 (ob os i).gen else ob os i):=by
 funext i
 rw [List.take_succ_eq_append_getElem hj,EN hj,hx]
 simp only [List.mem_append,List.mem_singleton]
 by_cases hi:i=x
 ·subst hi;simp
 ·have: ¬(i:Int)=(x:Int):=by omega
  simp [hi,this]
def P7 (os:List AU) (W:Nat→Bool) (i:Nat):AU:=if W i=true then B6 (ob os i).gen else ob os i
theorem fC (os:List AU) (W:Nat→Bool) (i:Nat):{P7 os W i with purple:=false}=DE os W i:=by
 unfold P7 DE
 split <;> rfl
theorem OZ (os:List AU) (W:Nat→Bool) (i:Nat):(GF os W i).live=(DE os W i).live∧(GF os W i).gen=(DE os W i).gen∧(GF os W i).field=(DE os W i).field:=by
 unfold GF;split <;> exact ⟨rfl,rfl,rfl⟩
theorem bP (os:List AU) (W:Nat→Bool) (i:Nat):(P7 os W i).live=(DE os W i).live∧(P7 os W i).gen=(DE os W i).gen∧(P7 os W i).field=(DE os W i).field:=by
 rw [←fC];exact ⟨rfl,rfl,rfl⟩
theorem bQ {os:List AU} (hof: ∀o∈os,OF o) (hol:os.length=8) (W:Nat→Bool) {i:Nat} (hi:i<8):(DE os W i).field.length=3:=by
 unfold DE
 split
 ·rfl
 ·exact (hof _ (GG (by omega))).len
theorem U3 {h:Hp} {K:J2} (st:St h) (hc: ∀o∈h.A8,F64 o.count) (hK:K [] [tR tO (LJ h.A8 h.buffer).1,tR tW h.B2,[],tS h.sites,tI (LJ h.A8 h.buffer).2]):cl2 ⟨Try.prog,w0⟩ 29 FW.sg [] (trees h) K:=by
 refine FW.cl2 ?_
 unfold FW.txt
 refine N9 st.fits ?_
 obtain ⟨os,ws,buf,ss⟩:=h
 have hol:os.length=8:=st.ol
 have hof: ∀o∈os,OF o:=st.of
 have hb:buf.length≤100:=st.bl
 have hbf: ∀x∈buf,F64 x:=st.bf
 simp only at hc hK
 simp only [trees]
 obtain ⟨ct,hct⟩: ∃ct:Nat→Int,ct=fun i=>(ob os i).count:=⟨_,rfl⟩
 obtain ⟨W,hW⟩: ∃W,W=JR os ct buf:=⟨_,rfl⟩
 unfold LJ at hK
 rw [←hct, ←hW] at hK
 simp only [AG,AM,AK,AP,AI,AD,AE,AR,AQ,AO,AL,AJ,AN,AH,BC,BF,BJ,BG,BH,BI,BE,A6,A7,A1,A4,A5,AZ]
 refine B8 (DQ (by omega) (TV hol ?_))
 refine FD (α:=Nat×List Int×List Int) (fun q=>[iv buf.length,iv q.1]) (fun q=>[tR tO os,tR tW ws,tI buf,tS ss,tI q.2.1,tI q.2.2]) (fun q=>buf.length-q.1) (fun q=>q.1≤buf.length∧MK os ct (buf.take q.1) q.2.1 q.2.2) (0,os.map (·.count),List.replicate 8 0) rfl rfl ⟨Nat.zero_le _,by rw [hct];exact MK.start hol hc⟩ (fun R q hq hR=> ?_)
 obtain ⟨i,cs,col⟩:=q
 obtain ⟨hi,mk⟩:=hq
 simp only at hi mk
 simp only [AG,AM,AK,AP,AI,AD,AE,AR,AQ,AO,AL,AJ,AN,AH,BC,BF,BJ,BG,BH,BI,BE,A6,A7,A1,A4,A5,AZ]
 refine AX (AV (fun hlt=> ?_) fun hge=> ?_)
 ·have hlt:i<buf.length:=by omega
  have hx:=hbf _ (DT hlt)
  have nx:=fun cs' col' (m:MK os ct (buf.take i++[gI buf i]) cs' col')=>hR (i+1,cs',col') ⟨by simp only;omega,by simp only;rw [List.take_succ_eq_append_getElem hlt,EN hlt];exact m⟩ (by simp only;omega)
  refine AT hlt (ldI hlt (CQ hx (by omega) (TX hol hof mk.len.1 mk.len.2 mk.f (fun hn=> ?_) fun s hs s8 cs' col' p=> ?_)))
  ·exact BA (by omega) (nx _ _ (mk.none hn))
  ·exact BA (by omega) (nx _ _ (mk.some hs s8 p))
 have:i=buf.length:=by omega
 subst this
 rw [List.take_length] at mk
 refine FD (α:=Nat×List Int×List Int) (fun q=>[iv buf.length,iv q.1]) (fun q=>[tR tO os,tR tW ws,tI buf,tS ss,tI q.2.1,tI q.2.2]) (fun q=>buf.length-q.1) (fun q=>q.1≤buf.length∧SC os ct buf (buf.take q.1) q.2.1 q.2.2) (0,cs,col) rfl rfl ⟨Nat.zero_le _,SC.start mk⟩ (fun R q hq hR=> ?_)
 obtain ⟨i,cs,col⟩:=q
 obtain ⟨hi,sc⟩:=hq
 simp only at hi sc
 simp only [AG,AM,AK,AP,AI,AD,AE,AR,AQ,AO,AL,AJ,AN,AH,BC,BF,BJ,BG,BH,BI,BE,A6,A7,A1,A4,A5,AZ]
 refine AX (AV (fun hlt=> ?_) fun hge=> ?_)
 ·have hlt:i<buf.length:=by omega
  have hx:=hbf _ (DT hlt)
  have nx:=fun cs' col' (m:SC os ct buf (buf.take i++[gI buf i]) cs' col')=>hR (i+1,cs',col') ⟨by simp only;omega,by simp only;rw [List.take_succ_eq_append_getElem hlt,EN hlt];exact m⟩ (by simp only;omega)
  refine AT hlt (ldI hlt (CQ hx (by omega) (TS hol hof sc.si (fun hn=> ?_) fun s hs s8 cs' col' p=> ?_)))
  ·exact BA (by omega) (nx _ _ (sc.none hn))
  ·exact BA (by omega) (nx _ _ (sc.some hs s8 p))
 have:i=buf.length:=by omega
 subst this
 rw [List.take_length] at sc
 have wh:=sc.stop
 rw [←hW] at wh
 refine W8 sc.si.len.2 wh ?_
 clear hR sc mk
 have hwn:(CO W 8).length≤8:=JI (fun i=>by split <;> simp) 8
 refine BB (fun j=>[iv (CO W 8).length,iv j]) (fun j=>[tI (((CO W 8).take j).map fun x=>CH x (ob os x.toNat).gen),tI (CO W 8),tR tO (mk8 fun i=>if ((i:Nat):Int)∈(CO W 8).take j then B6 (ob os i).gen else ob os i),tR tW ws,tI buf,tS ss]) (CO W 8).length (fun _=>True) (by simp only [AG,AM,AK,AP,AI,AD,AE,AR,AQ,AO,AL,AJ,AN,AH,BC,BF,BJ,BG,BH,BI,BE,A6,A7,A1,A4,A5,AZ];rfl) ?_ trivial (fun R j hj hP hR=> ?_)
 ·simp only [List.take_zero,List.map_nil,List.not_mem_nil,if_false]
  rw [←UR hol];rfl
 have hln:(((CO W 8).take j).map fun x=>CH x (ob os x.toNat).gen).length=j:=by simp;omega
 simp only [AG,AM,AK,AP,AI,AD,AE,AR,AQ,AO,AL,AJ,AN,AH,BC,BF,BJ,BG,BH,BI,BE,A6,A7,A1,A4,A5,AZ]
 simp only [CG]
 refine AX (AV (fun hlt=> ?_) fun hge=> ?_)
 ·have hlt:j<(CO W 8).length:=by omega
  replace hR:=hR hlt trivial
  obtain ⟨x,x8,hx,hwx⟩:=J1.1 (DT hlt)
  have xl:x<os.length:=by omega
  rw [uA hlt hx,List.take_succ_eq_append_getElem hlt,List.map_append,EN hlt,hx, ←NX x8] at hR
  refine AT hlt (ldI hlt ?_)
  rw [hx]
  refine AT xl (HX (v:=I (ob os x).gen) xl (by decide) rfl (KH (EM rfl (by omega) (AT xl (HX (v:=I (ob os x).gen) xl (by decide) rfl (OM (AT (by omega) ?_)))))))
  refine LZ (f:=tO) (by rw [CG];exact x8) (y:=B6 (ob os x).gen) rfl (BA (by omega) ?_)
  simp only [List.map_cons,List.map_nil,Int.toNat_natCast] at hR
  rw [←EG] at hR
  exact hR
 have:j=(CO W 8).length:=by omega
 subst this
 have e1:(fun i:Nat=>if ((i:Nat):Int)∈(CO W 8).take (CO W 8).length then B6 (ob os i).gen else ob os i)=fun i=>if ((i:Nat):Int)∈CO W 8 then B6 (ob os i).gen else ob os i:=by rw [List.take_length]
 have e2:mk8 (fun i=>if ((i:Nat):Int)∈CO W 8 then B6 (ob os i).gen else ob os i)=mk8 (P7 os W):=I2 fun i hi=>by
  unfold P7
  by_cases hw:W i=true
  ·rw [if_pos hw,if_pos (J1.2 ⟨i,hi,rfl,hw⟩)]
  ·rw [if_neg hw,if_neg fun hm=>hw (by obtain ⟨k,_,h2,h3⟩:=J1.1 hm;have:k=i:=by omega
                                       subst this;exact h3)]
 rw [e1,e2,List.take_length,RJ]
 clear hR e1 e2
 refine BB (fun i=>[iv 8,iv i]) (fun i=>[tI (IS os W 8),tR tO (mk8 fun k=>if k<i then GF os W k else P7 os W k),tR tW ws,tI buf,tS ss]) 8 (fun _=>True) rfl rfl trivial (fun R i hi hP hR=> ?_)
 simp only [AG,AM,AK,AP,AI,AD,AE,AR,AQ,AO,AL,AJ,AN,AH,BC,BF,BJ,BG,BH,BI,BE,A6,A7,A1,A4,A5,AZ]
 simp only [CG]
 refine AX (AV (fun hlt=> ?_) fun hge=> ?_)
 ·have hlt:i<8:=by omega
  replace hR:=hR hlt trivial
  have hml:i<(mk8 fun k=>if k<i then GF os W k else P7 os W k).length:=by rw [CG];exact hlt
  have hoi:(mk8 fun k=>if k<i then GF os W k else P7 os W k)[i]=P7 os W i:=by rw [DN hml,HV hlt,if_neg (by omega)]
  have hset: ∀v,v=GF os W i→(mk8 fun k=>if k<i then GF os W k else P7 os W k).set i v=mk8 fun k=>if k<i+1 then GF os W k else P7 os W k:=fun v hv=>by
   rw [NX hlt]
   refine I2 fun k hk=> ?_
   by_cases h1:k=i
   ·subst h1;rw [if_pos rfl,if_pos (by omega),hv]
   ·rw [if_neg h1]
    by_cases h2:k<i
    ·rw [if_pos h2,if_pos (by omega)]
    ·rw [if_neg h2,if_neg (by omega)]
  have hin: ∀v,v=DE os W i→inE ((mk8 fun k=>if k<i then GF os W k else P7 os W k).set i v) i=inE (mk8 (DE os W)) i:=fun v hv=>by
   rw [NX hlt]
   refine nE (by rw [CG,CG]) fun k hk=> ?_
   rw [CG] at hk
   rw [HV hk,HV hk]
   by_cases h1:k=i
   ·subst h1;rw [if_pos rfl,hv];exact ⟨rfl,rfl,rfl⟩
   ·rw [if_neg h1]
    by_cases h2:k<i
    ·rw [if_pos h2];exact OZ os W k
    ·rw [if_neg h2];exact bP os W k
  have hlen3: ∀o∈(mk8 fun k=>if k<i then GF os W k else P7 os W k).set i (DE os W i),(o.field.length:Int)≤1048576:=fun o ho=>by
   rw [NX hlt] at ho
   obtain ⟨k,hk,rfl⟩:=T9 ho
   have hm:=bQ hof hol W hk
   by_cases h1:k=i
   ·subst h1;rw [if_pos rfl];omega
   ·rw [if_neg h1]
    by_cases h2:k<i
    ·rw [if_pos h2,(OZ os W k).2.2];omega
    ·rw [if_neg h2,(bP os W k).2.2];omega
  generalize (mk8 fun k=>if k<i then GF os W k else P7 os W k)=M at hml hoi hset hin hlen3 ⊢
  have hM8:M.length=8:=by have:=congrArg List.length (hset (GF os W i) rfl);rw [List.length_set,CG] at this;exact this
  refine BP (AT hlt ?_)
  refine S5 (f:=tO) (c:=7) (y:={M[i] with purple:=false}) hml (by decide) rfl rfl ?_
  rw [hoi,fC]
  refine mF (v:= .bool (DE os W i).live) hml rfl ?_
  cases hv:(DE os W i).live with
  | true=>
    refine BX (H0 (v:=I (DE os W i).holds) hml (by decide) rfl (H0 (v:=I (DE os W i).roots) hml (by decide) rfl (GA ?_)))
    refine OJ ⟨by omega,by omega⟩ (by rw [List.length_set,hM8];decide) hlen3 ?_
    rw [hin _ rfl]
    refine GA (G8 hml ?_)
    rw [hset _ (by unfold GF;rw [if_pos hv])]
    exact BA (by omega) hR
  | false=>
    refine BU ?_
    rw [hset _ (by unfold GF;rw [if_neg (by rw [hv];decide)])]
    exact BA (by omega) hR
 ·have:i=8:=by omega
  subst this
  rw [I2 (g:=GF os W) fun k hk=>if_pos hk]
  exact hK
theorem oA {a b c d e f g:List T} {l:List (List T)}:nxc (a::b::c::d::e::f::g::l) 6=g:=rfl
theorem UQ {h:Hp} {K:J2} (st:St h) (hc: ∀o∈h.A8,F64 o.count) (hK:K [] [tR tO (LJ h.A8 h.buffer).1,tR tW h.B2,[],tS h.sites,tI (LJ h.A8 h.buffer).2]):cl2 ⟨Try.prog,w0⟩ 127 FT.sg [] (trees h) K:=by
 refine FT.cl2 ?_
 unfold FT.txt
 refine KA st.fits ?_
 obtain ⟨os,ws,buf,ss⟩:=h
 have hol:os.length=8:=st.ol
 have hof: ∀o∈os,OF o:=st.of
 have hb:buf.length≤100:=st.bl
 have hbf: ∀x∈buf,F64 x:=st.bf
 simp only at hc hK
 simp only [trees]
 obtain ⟨ct,hct⟩: ∃ct:Nat→Int,ct=fun i=>(ob os i).count:=⟨_,rfl⟩
 obtain ⟨W,hW⟩: ∃W,W=JR os ct buf:=⟨_,rfl⟩
 unfold LJ at hK
 rw [←hct, ←hW] at hK
 simp only [AG,AM,AK,AP,AI,AD,AE,AR,AQ,AO,AL,AJ,AN,AH,BC,BF,BJ,BG,BH,BI,BE,A6,A7,A1,A4,A5,AZ]
 refine B8 (DQ (by omega) (T5 hol ?_))
 refine FD (α:=Nat×List Int×List Int) (fun q=>[iv q.1]) (fun q=>[[],tR tO os,tR tW ws,tI buf,tS ss,tI q.2.1,tI q.2.2]) (fun q=>buf.length-q.1) (fun q=>q.1≤buf.length∧MK os ct (buf.take q.1) q.2.1 q.2.2) (0,os.map (·.count),List.replicate 8 0) rfl rfl ⟨Nat.zero_le _,by rw [hct];exact MK.start hol hc⟩ (fun R q hq hR=> ?_)
 obtain ⟨i,cs,col⟩:=q
 obtain ⟨hi,mk⟩:=hq
 simp only at hi mk
 simp only [AG,AM,AK,AP,AI,AD,AE,AR,AQ,AO,AL,AJ,AN,AH,BC,BF,BJ,BG,BH,BI,BE,A6,A7,A1,A4,A5,AZ]
 simp only [oA]
 refine AX (AV (fun hlt=> ?_) fun hge=> ?_)
 ·have hlt:i<buf.length:=by omega
  have hx:=hbf _ (DT hlt)
  have nx:=fun cs' col' (m:MK os ct (buf.take i++[gI buf i]) cs' col')=>hR (i+1,cs',col') ⟨by simp only;omega,by simp only;rw [List.take_succ_eq_append_getElem hlt,EN hlt];exact m⟩ (by simp only;omega)
  refine AT hlt (ldI hlt (CP hx (by omega) (TT hol hof mk.len.1 mk.len.2 mk.f (fun hn=> ?_) fun s hs s8 cs' col' p=> ?_)))
  ·exact BA (by omega) (nx _ _ (mk.none hn))
  ·exact BA (by omega) (nx _ _ (mk.some hs s8 p))
 have:i=buf.length:=by omega
 subst this
 rw [List.take_length] at mk
 refine FD (α:=Nat×List Int×List Int) (fun q=>[iv q.1]) (fun q=>[[],tR tO os,tR tW ws,tI buf,tS ss,tI q.2.1,tI q.2.2]) (fun q=>buf.length-q.1) (fun q=>q.1≤buf.length∧SC os ct buf (buf.take q.1) q.2.1 q.2.2) (0,cs,col) rfl rfl ⟨Nat.zero_le _,SC.start mk⟩ (fun R q hq hR=> ?_)
 obtain ⟨i,cs,col⟩:=q
 obtain ⟨hi,sc⟩:=hq
 simp only at hi sc
 simp only [AG,AM,AK,AP,AI,AD,AE,AR,AQ,AO,AL,AJ,AN,AH,BC,BF,BJ,BG,BH,BI,BE,A6,A7,A1,A4,A5,AZ]
 simp only [oA]
 refine AX (AV (fun hlt=> ?_) fun hge=> ?_)
 ·have hlt:i<buf.length:=by omega
  have hx:=hbf _ (DT hlt)
  have nx:=fun cs' col' (m:SC os ct buf (buf.take i++[gI buf i]) cs' col')=>hR (i+1,cs',col') ⟨by simp only;omega,by simp only;rw [List.take_succ_eq_append_getElem hlt,EN hlt];exact m⟩ (by simp only;omega)
  refine AT hlt (ldI hlt (CP hx (by omega) (T6 hol hof sc.si (fun hn=> ?_) fun s hs s8 cs' col' p=> ?_)))
  ·exact BA (by omega) (nx _ _ (sc.none hn))
  ·exact BA (by omega) (nx _ _ (sc.some hs s8 p))
 have:i=buf.length:=by omega
 subst this
 rw [List.take_length] at sc
 have wh:=sc.stop
 rw [←hW] at wh
 refine XK sc.si.len.2 wh ?_
 clear hR sc mk
 have hwn:(CO W 8).length≤8:=JI (fun i=>by split <;> simp) 8
 refine BB (fun i=>[iv i]) (fun i=>[tI (IS os W i),tI (CO W 8),tR tO (mk8 fun k=>if k<i then DE os W k else ob os k),tR tW ws,tI buf,tS ss]) 8 (fun _=>True) rfl ?_ trivial (fun R i hi hP hR=> ?_)
 ·simp only [Nat.not_lt_zero,if_false]
  rw [←UR hol];rfl
 have hln:(IS os W i).length≤i:=JI (fun i=>by split <;> simp) i
 simp only [AG,AM,AK,AP,AI,AD,AE,AR,AQ,AO,AL,AJ,AN,AH,BC,BF,BJ,BG,BH,BI,BE,A6,A7,A1,A4,A5,AZ]
 simp only [oA,CG]
 refine AX (AV (fun hlt=> ?_) fun hge=> ?_)
 ·have hlt:i<8:=by omega
  replace hR:=hR hlt trivial
  have hml:i<(mk8 fun k=>if k<i then DE os W k else ob os k).length:=by rw [CG];exact hlt
  have hoi:(mk8 fun k=>if k<i then DE os W k else ob os k)[i]=ob os i:=by rw [DN hml,HV hlt,if_neg (by omega)]
  have hset: ∀v,v=DE os W i→(mk8 fun k=>if k<i then DE os W k else ob os k).set i v=mk8 fun k=>if k<i+1 then DE os W k else ob os k:=fun v hv=>by
   rw [NX hlt]
   refine I2 fun k hk=> ?_
   by_cases h1:k=i
   ·subst h1;rw [if_pos rfl,if_pos (by omega),hv]
   ·rw [if_neg h1]
    by_cases h2:k<i
    ·rw [if_pos h2,if_pos (by omega)]
    ·rw [if_neg h2,if_neg (by omega)]
  generalize (mk8 fun k=>if k<i then DE os W k else ob os k)=M at hml hoi hset ⊢
  have hM8:M.length=8:=by have:=congrArg List.length (hset (DE os W i) rfl);rw [List.length_set,CG] at this;exact this
  have io:i<os.length:=by omega
  refine BP (AT hlt ?_)
  refine S5 (f:=tO) (c:=7) (y:={M[i] with purple:=false}) hml (by decide) rfl rfl ?_
  rw [hoi]
  refine N5 (by omega) (AV (fun hm=> ?_) fun hm=> ?_)
  ·have hw:W i=true:=by
    obtain ⟨k,_,h2,h3⟩:=J1.1 hm
    have:k=i:=by omega
    subst this;exact h3
   have ef:IS os W (i+1)=IS os W i++[CH i (ob os i).gen]:=by show IS os W i++(if W i=true then [CH i (ob os i).gen] else [])=_;rw [if_pos hw]
   rw [ef, ←EG, ←hset (B6 (ob os i).gen) (by unfold DE;rw [if_pos hw])] at hR
   refine AT io (HX (v:=I (ob os i).gen) io (by decide) rfl (I6 (EM rfl (by omega) (AT io (HX (v:=I (ob os i).gen) io (by decide) rfl (IV ?_))))))
   simp only [AG,AM,AK,AP,AI,AD,AE,AR,AQ,AO,AL,AJ,AN,AH,BC,BF,BJ,BG,BH,BI,BE,A6,A7,A1,A4,A5,AZ]
   simp only [List.length_set,hM8]
   refine AT hlt (LZ (f:=tO) (by rw [List.length_set];exact hml) (y:=B6 (ob os i).gen) rfl ?_)
   rw [List.set_set]
   exact BA (by omega) hR
  ·have hw: ¬W i=true:=fun hw=>hm (J1.2 ⟨i,hlt,rfl,hw⟩)
   have ef:IS os W (i+1)=IS os W i:=by show IS os W i++(if W i=true then [CH i (ob os i).gen] else [])=_;rw [if_neg hw,List.append_nil]
   rw [ef, ←hset {ob os i with purple:=false} (by unfold DE;rw [if_neg hw])] at hR
   exact BA (by omega) hR
 have:i=8:=by omega
 subst this
 rw [I2 (g:=DE os W) fun k hk=>if_pos hk]
 clear hR
 refine BB (fun i=>[iv i]) (fun i=>[tI (IS os W 8),tR tO (mk8 fun k=>if k<i then GF os W k else DE os W k),tR tW ws,tI buf,tS ss]) 8 (fun _=>True) rfl rfl trivial (fun R i hi hP hR=> ?_)
 simp only [AG,AM,AK,AP,AI,AD,AE,AR,AQ,AO,AL,AJ,AN,AH,BC,BF,BJ,BG,BH,BI,BE,A6,A7,A1,A4,A5,AZ]
 simp only [CG]
 refine AX (AV (fun hlt=> ?_) fun hge=> ?_)
 ·have hlt:i<8:=by omega
  replace hR:=hR hlt trivial
  have hml:i<(mk8 fun k=>if k<i then GF os W k else DE os W k).length:=by rw [CG];exact hlt
  have hoi:(mk8 fun k=>if k<i then GF os W k else DE os W k)[i]=DE os W i:=by rw [DN hml,HV hlt,if_neg (by omega)]
  have hset: ∀v,v=GF os W i→(mk8 fun k=>if k<i then GF os W k else DE os W k).set i v=mk8 fun k=>if k<i+1 then GF os W k else DE os W k:=fun v hv=>by
   rw [NX hlt]
   refine I2 fun k hk=> ?_
   by_cases h1:k=i
   ·subst h1;rw [if_pos rfl,if_pos (by omega),hv]
   ·rw [if_neg h1]
    by_cases h2:k<i
    ·rw [if_pos h2,if_pos (by omega)]
    ·rw [if_neg h2,if_neg (by omega)]
  have hin:inE (mk8 fun k=>if k<i then GF os W k else DE os W k) i=inE (mk8 (DE os W)) i:=by
   refine nE (by rw [CG,CG]) fun k hk=> ?_
   rw [CG] at hk
   rw [HV hk,HV hk]
   by_cases h2:k<i
   ·rw [if_pos h2];exact OZ os W k
   ·rw [if_neg h2];exact ⟨rfl,rfl,rfl⟩
  have hlen3: ∀o∈(mk8 fun k=>if k<i then GF os W k else DE os W k),(o.field.length:Int)≤1048576:=fun o ho=>by
   obtain ⟨k,hk,rfl⟩:=T9 ho
   have hm:=bQ hof hol W hk
   by_cases h2:k<i
   ·rw [if_pos h2,(OZ os W k).2.2];omega
   ·rw [if_neg h2];omega
  generalize (mk8 fun k=>if k<i then GF os W k else DE os W k)=M at hml hoi hset hin hlen3 ⊢
  have hM8:M.length=8:=by have:=congrArg List.length (hset (GF os W i) rfl);rw [List.length_set,CG] at this;exact this
  have hMs:M=M.set i (DE os W i):=by rw [←hoi,List.set_getElem_self]
  refine BP (AT hlt ?_)
  cases hv:(DE os W i).live with
  | true=>
    refine UH (f:=tO) (v:= .bool true) hml (by rw [hoi];simp [tO,hv]) (BX (AT hlt ?_))
    refine SU (f:=tO) (v:=I (DE os W i).holds) hml (by decide) (by rw [hoi];rfl) (AT hlt ?_)
    refine SU (f:=tO) (v:=I (DE os W i).roots) hml (by decide) (by rw [hoi];rfl) (GA ?_)
    refine O4 ⟨by omega,by omega⟩ (by rw [hM8];decide) hlen3 ?_
    rw [hin]
    refine GA (AT hlt ?_)
    rw [hMs]
    refine G8 hml ?_
    rw [hset _ (by unfold GF;rw [if_pos hv])]
    exact BA (by omega) hR
  | false=>
    refine UH (f:=tO) (v:= .bool false) hml (by rw [hoi];simp [tO,hv]) (BU ?_)
    rw [hMs,hset _ (by unfold GF;rw [if_neg (by rw [hv];decide)])]
    exact BA (by omega) hR
 ·have:i=8:=by omega
  subst this
  rw [I2 (g:=GF os W) fun k hk=>if_pos hk]
  exact hK
end Go.Proofs.Ytklmcfpgdfibnaa.P
namespace Go.Proofs.Ytklmcfpgdfibnaa.P
open Go Go.Proofs.Ytklmcfpgdfibnaa Go.Proofs.Ytklmcfpgdfibnaa.Eng
set_option linter.unusedVariables false
set_option maxHeartbeats 4000000
set_option linter.unusedVariables false
set_option linter.unusedSimpArgs false
attribute [local irreducible] prP gP gE gF AW ixW ldc ldg ldl stc stg scW mkW apW BK cl2 BW EI CM
variable {w0:World}
noncomputable def HC (h:Hp) (o:Op5):Hp×An:=
 if o.kind=1 then (⟨(FF h.A8 h.sites o.site).1,h.B2,h.buffer,(FF h.A8 h.sites o.site).2.1⟩,(FF h.A8 h.sites o.site).2.2) else
 if o.kind=2∨o.kind=3∨o.kind=5∨o.kind=6 then (⟨(HZ h.A8 h.buffer o.kind o.a).1,h.B2,(HZ h.A8 h.buffer o.kind o.a).2.1,h.sites⟩,(HZ h.A8 h.buffer o.kind o.a).2.2) else
 if o.kind=4 then (⟨(FP h.A8 h.buffer o.a o.b o.c).1,h.B2,(FP h.A8 h.buffer o.a o.b o.c).2.1,h.sites⟩,(FP h.A8 h.buffer o.a o.b o.c).2.2) else
 if o.kind=7 then (⟨h.A8,(KJ h.A8 h.B2 o.a).1,h.buffer,h.sites⟩,(KJ h.A8 h.B2 o.a).2) else
 if o.kind=8∨o.kind=9 then (⟨h.A8,(GK h.A8 h.B2 o.kind o.a).1,h.buffer,h.sites⟩,(GK h.A8 h.B2 o.kind o.a).2) else
 if o.kind=10 then (⟨(LJ h.A8 h.buffer).1,h.B2,[],h.sites⟩,⟨0,0,(LJ h.A8 h.buffer).2⟩) else (h,⟨2,0,[]⟩)
theorem dN {α:Type} [Inhabited α] {l:List α} (h: ∀i (hi:i<l.length),l[i]∉l.take i):l.Nodup:=by
 refine List.pairwise_iff_getElem.2 fun i j hi hj hij he=>h j hj ?_
 rw [←he]
 exact List.mem_take_iff_getElem.2 ⟨i,by omega,rfl⟩
theorem few {n:Nat}: ∀{l:List Int} (g:Int→Nat),l.Nodup→(∀x∈l,g x<n)→(∀x∈l, ∀y∈l,g x=g y→x=y)→l.length≤n:=by
 induction n with
 | zero=>
   intro l g _ h _
   cases l with
   | nil=>simp
   | cons x l=>exact absurd (h x (by simp)) (by omega)
 | succ n ih=>
   intro l g hn h hi
   by_cases hx: ∃x∈l,g x=n
   ·obtain ⟨x,hx,hg⟩:=hx
    have:=ih (l:=l.erase x) g (hn.erase x) (fun y hy=>by
     have hy':=List.mem_of_mem_erase hy
     have:=h y hy'
     have hne:g y≠n:=fun he=>by
      have:y=x:=hi y hy' x hx (by omega)
      subst this
      exact (List.Nodup.not_mem_erase hn) hy
     omega) fun y hy z hz=>hi y (List.mem_of_mem_erase hy) z (List.mem_of_mem_erase hz)
    rw [List.length_erase_of_mem hx] at this
    omega
   ·have:=ih g hn (fun y hy=>by
     have:=h y hy
     have:g y≠n:=fun he=>hx ⟨y,hy,he⟩
     omega) hi
    omega
theorem C0.bnd {h:Hp} (hk:C0 h):h.buffer.Nodup:=dN fun i hi=>by rw [EN hi];exact (hk.buf i hi).2
theorem C0.VJ {h:Hp} (hk:C0 h) {x:Int} (hx:x∈h.buffer):0≤AB h.A8 x:=by
 obtain ⟨i,hi,rfl⟩:=List.getElem_of_mem hx
 rw [EN hi];exact (hk.buf i hi).1
theorem dO {l:List AU} {x y:Int} (hx:0≤AB l x) (hy:0≤AB l y) (h:AB l x=AB l y):x=y:=by
 have a:=BL hx;have b:=BL hy
 have e1:=a.2.2.2.2.2;have e2:=b.2.2.2.2.2
 rw [h] at e1
 omega
theorem C0.wA {h:Hp} (hk:C0 h):h.buffer.length≤8:=
 few (fun x=>(AB h.A8 x).toNat) hk.bnd (fun x hx=>(BL (hk.VJ hx)).2.2.2.1) fun x hx y hy he=>dO (hk.VJ hx) (hk.VJ hy) (by have:=hk.VJ hx;have:=hk.VJ hy;omega)
theorem C0.st {h:Hp} (hk:C0 h) (hn:SL h):St h:=by
 refine ⟨hk.ol,hk.wl,hk.sites.len,by have:=hk.wA;omega,fun o ho=> ?_,fun s hs=> ?_,hn.weak,hn.buf⟩
 ·obtain ⟨i,hi,rfl⟩:=List.getElem_of_mem ho
  have hi8:i<8:=by have:=hk.ol;omega
  have:=hn.obj _ ho
  rw [DN hi] at this ⊢
  exact ⟨this.1,(hk.obj i hi8).len,this.2.2.2.2.2⟩
 ·obtain ⟨i,hi,rfl⟩:=List.getElem_of_mem hs
  have:=(hk.sites.sz i hi).2
  rw [SD hi];omega
theorem C0.hr {h:Hp} (hk:C0 h) (i:Nat):(0≤(ob h.A8 i).holds∧(ob h.A8 i).holds≤20)∧(0≤(ob h.A8 i).roots∧(ob h.A8 i).roots≤20):=by
 by_cases hi:i<8
 ·cases hv:(ob h.A8 i).live with
  | true=>exact ⟨((hk.obj i hi).lv hv).2.2.1,((hk.obj i hi).lv hv).2.2.2.1⟩
  | false=>have:=(hk.obj i hi).dead hv;omega
 ·have:ob h.A8 i=⟨false,0,0,0,0,0,[],false⟩:=by unfold ob;rw [List.getD_eq_getElem?_getD,List.getElem?_eq_none (by have:=hk.ol;omega)];rfl
  rw [this];simp
theorem C0.fd {h:Hp} (hk:C0 h) (i:Nat): ∀f∈(ob h.A8 i).field,f= -1∨0≤f:=by
 intro f hf
 by_cases hi:i<8
 ·obtain ⟨j,hj,rfl⟩:=List.getElem_of_mem hf
  have ho:=hk.obj i hi
  by_cases h1:gI (ob h.A8 i).field j= -1
  ·left;rw [EN hj];exact h1
  ·right
   have:=BL (ho.lead j (by have:=ho.len;omega) h1).2
   rw [EN hj];omega
 ·have:ob h.A8 i=⟨false,0,0,0,0,0,[],false⟩:=by unfold ob;rw [List.getD_eq_getElem?_getD,List.getElem?_eq_none (by have:=hk.ol;omega)];rfl
  rw [this] at hf;simp at hf
theorem kinds (k:Int):k=1∨(k=2∨k=3∨k=5∨k=6)∨k=4∨k=7∨(k=8∨k=9)∨k=10∨ ¬(k=1∨k=2∨k=3∨k=4∨k=5∨k=6∨k=7∨k=8∨k=9∨k=10):=by omega
theorem RT {h:Hp} {o:Op5} {K:J2} (hk:C0 h) (hn:SL h) (ha:F64 o.a) (hc:F64 o.c) (hK:K [I (HC h o).2.code,I (HC h o).2.val] (tI (HC h o).2.freed::trees (HC h o).1)):cl2 ⟨Try.prog,w0⟩ 106 CV.sg [I o.kind,I o.a,I o.b,I o.c, .string o.site] (trees h) K:=by
 have st:=hk.st hn
 have hr:=hk.hr
 refine CV.cl2 ?_
 unfold CV.txt
 obtain ⟨os,ws,buf,ss⟩:=h
 obtain ⟨kd,a,b,c,s⟩:=o
 have hol:os.length=8:=st.ol
 have hof: ∀o∈os,OF o:=st.of
 have hb:buf.length≤100:=st.bl
 simp only at ha hc hr
 simp only [trees]
 unfold HC at hK
 simp only at hK
 rcases kinds kd with rfl | hkd | rfl | rfl | hkd | rfl | hkd
 ·rw [if_pos rfl] at hK
  exact BM (DA rfl (Y7 hol st.sl hK))
 ·rw [if_neg (by omega),if_pos hkd] at hK
  have cc:=fun {K:J2}=>WB (w0:=w0) (os:=os) (buf:=buf) (b:=tR tW ws) (d:=tS ss) (kind:=kd) (id:=a) (K:=K) hol hof hb ha hkd hr
  rcases hkd with rfl | rfl | rfl | rfl
  all_goals
   repeat' (first | refine BP ?_ | refine BX ?_ | refine BU ?_ | refine BM ?_ | simp only [AG,AM,AK,AP,AI,AD,AE,AR,AQ,AO,AL,AJ,AN,AH,BC,BF,BJ,BG,BH,BI,BE,A6,A7,A1,A4,A5,AZ])
   exact cc hK
 ·simp only [if_neg (show ¬(4:Int)=1 by decide),if_neg (show ¬((4:Int)=2∨(4:Int)=3∨(4:Int)=5∨(4:Int)=6) by decide),if_true] at hK
  repeat' (first | refine BP ?_ | refine BX ?_ | refine BU ?_ | refine BM ?_ | simp only [AG,AM,AK,AP,AI,AD,AE,AR,AQ,AO,AL,AJ,AN,AH,BC,BF,BJ,BG,BH,BI,BE,A6,A7,A1,A4,A5,AZ])
  exact ZZ hol hof hb ha hc hK
 ·simp only [if_neg (show ¬(7:Int)=1 by decide),if_neg (show ¬((7:Int)=2∨(7:Int)=3∨(7:Int)=5∨(7:Int)=6) by decide),if_neg (show ¬(7:Int)=4 by decide),if_true] at hK
  repeat' (first | refine BP ?_ | refine BX ?_ | refine BU ?_ | refine BM ?_ | simp only [AG,AM,AK,AP,AI,AD,AE,AR,AQ,AO,AL,AJ,AN,AH,BC,BF,BJ,BG,BH,BI,BE,A6,A7,A1,A4,A5,AZ])
  exact a7 hol st.wl ha hK
 ·rw [if_neg (by omega),if_neg (by omega),if_neg (by omega),if_neg (by omega),if_pos hkd] at hK
  rcases hkd with rfl | rfl
  all_goals
   repeat' (first | refine BP ?_ | refine BX ?_ | refine BU ?_ | refine BM ?_ | simp only [AG,AM,AK,AP,AI,AD,AE,AR,AQ,AO,AL,AJ,AN,AH,BC,BF,BJ,BG,BH,BI,BE,A6,A7,A1,A4,A5,AZ])
   exact XE hol st.wl ha st.wf hK
 ·simp only [if_neg (show ¬(10:Int)=1 by decide),if_neg (show ¬((10:Int)=2∨(10:Int)=3∨(10:Int)=5∨(10:Int)=6) by decide),if_neg (show ¬(10:Int)=4 by decide),if_neg (show ¬(10:Int)=7 by decide),if_neg (show ¬((10:Int)=8∨(10:Int)=9) by decide),if_true] at hK
  repeat' (first | refine BP ?_ | refine BX ?_ | refine BU ?_ | refine BM ?_ | simp only [AG,AM,AK,AP,AI,AD,AE,AR,AQ,AO,AL,AJ,AN,AH,BC,BF,BJ,BG,BH,BI,BE,A6,A7,A1,A4,A5,AZ])
  exact U3 st (fun o ho=>(hn.obj o ho).2.2.2.2.1) hK
 ·rw [if_neg (by omega),if_neg (by omega),if_neg (by omega),if_neg (by omega),if_neg (by omega),if_neg (by omega)] at hK
  repeat' (first | refine BP ?_ | refine DQ (by first | with_reducible assumption | omega) ?_ | refine BM ?_ | simp only [AG,AM,AK,AP,AI,AD,AE,AR,AQ,AO,AL,AJ,AN,AH,BC,BF,BJ,BG,BH,BI,BE,A6,A7,A1,A4,A5,AZ])
  all_goals first | exact B4 hK | (exfalso;omega)
end Go.Proofs.Ytklmcfpgdfibnaa.P
namespace Go.Proofs.Ytklmcfpgdfibnaa.P
open Go Go.Proofs.Ytklmcfpgdfibnaa Go.Proofs.Ytklmcfpgdfibnaa.Eng
set_option linter.unusedVariables false
set_option maxHeartbeats 4000000
set_option linter.unusedVariables false
set_option linter.unusedSimpArgs false
attribute [local irreducible] prP gP gE gF AW ixW ldc ldg ldl stc stg scW mkW apW BK cl2 BW EI CM
variable {w0:World}
open Classical in
noncomputable def KO (h:Hp) (o:Op5):Hp×An:=if C0 h then HC h o else (h,⟨2,0,[]⟩)
theorem RO {h:Hp} {o:Op5} (hk:C0 h):KO h o=HC h o:=by unfold KO;rw [if_pos hk]
theorem aM {h:Hp} {o:Op5} (hk: ¬C0 h):KO h o=(h,⟨2,0,[]⟩):=by unfold KO;rw [if_neg hk]
theorem ZR {h:Hp} {o:Op5} {K:J2} (hf:Fits h) (hn:SL h) (ha:F64 o.a) (hc:F64 o.c) (hK:K [I (KO h o).2.code,I (KO h o).2.val] (trees (KO h o).1++[tI (KO h o).2.freed])):cl2 ⟨Try.prog,w0⟩ 42 HK.sg [I o.kind,I o.a,I o.b,I o.c, .string o.site] (trees h) K:=by
 refine HK.cl2 ?_
 unfold HK.txt
 refine N9 hf (XC hf hn (fun hk=>B1 (BU ?_)) fun hk=>B1 (BX ?_))
 ·rw [RO hk] at hK
  exact RT hk hn ha hc hK
 ·rw [aM hk] at hK
  exact B4 hK
theorem aA {h:Hp} {o:Op5} {K:J2} (hf:Fits h) (hn:SL h) (ha:F64 o.a) (hc:F64 o.c) (hK:K [I (KO h o).2.code,I (KO h o).2.val] (trees (KO h o).1++[tI (KO h o).2.freed])):cl2 ⟨Try.prog,w0⟩ 76 HI.sg [I o.kind,I o.a,I o.b,I o.c, .string o.site] (trees h) K:=by
 refine HI.cl2 ?_
 unfold HI.txt
 refine KA hf (XB hf hn (fun hk=>B1 (BU ?_)) fun hk=>B1 (BX ?_))
 rotate_left
 ·rw [aM hk] at hK
  exact hK
 rw [RO hk] at hK
 have st:=hk.st hn
 have hr:=hk.hr
 have hfd:=hk.fd
 have hss:=hk.sites
 have hcn: ∀o∈h.A8,F64 o.count:=fun o ho=>(hn.obj o ho).2.2.2.2.1
 clear hf hk
 obtain ⟨kd,a,b,c,s⟩:=o
 have hol:h.A8.length=8:=st.ol
 simp only at ha hc hr
 unfold HC at hK
 simp only at hK
 have hold:=fun {K:J2} (hkd:kd=2∨kd=3∨kd=5∨kd=6)=>XJ (w0:=w0) (h:=h) (kind:=kd) (id:=a) (b:=b) (c:=c) (s:=s) (K:=K) st ha hkd hr
 have store:=fun {K:J2}=>VN (w0:=w0) (h:=h) (a0:=kd) (a1:=a) (a2:=b) (a3:=c) (s:=s) (K:=K) st ha hc hfd
 have oO:=fun {K:J2}=>UQ (w0:=w0) (h:=h) (K:=K) st hcn
 have weak:=fun {K:J2}=>W9 (w0:=w0) (os:=h.A8) (ws:=h.B2) (cc:=tI h.buffer) (d:=tS h.sites) (kind:=kd) (k:=a) (b:=b) (c:=c) (s:=s) (K:=K) hol st.wl ha st.wf
 simp only [trees] at hold store oO ⊢
 rcases kinds kd with rfl | hkd | rfl | rfl | hkd | rfl | hkd
 ·rw [if_pos rfl] at hK
  exact BM (DA rfl (WX hol hss hK))
 ·rw [if_neg (by omega),if_pos hkd] at hK
  replace hold:=fun {K:J2}=>hold (K:=K) hkd
  rcases hkd with rfl | rfl | rfl | rfl
  all_goals
   repeat' (first | refine BP ?_ | refine BX ?_ | refine BU ?_ | refine BM ?_ | simp only [AG,AM,AK,AP,AI,AD,AE,AR,AQ,AO,AL,AJ,AN,AH,BC,BF,BJ,BG,BH,BI,BE,A6,A7,A1,A4,A5,AZ])
   exact hold hK
 ·simp only [if_neg (show ¬(4:Int)=1 by decide),if_neg (show ¬((4:Int)=2∨(4:Int)=3∨(4:Int)=5∨(4:Int)=6) by decide),if_true] at hK
  repeat' (first | refine BP ?_ | refine BX ?_ | refine BU ?_ | refine BM ?_ | simp only [AG,AM,AK,AP,AI,AD,AE,AR,AQ,AO,AL,AJ,AN,AH,BC,BF,BJ,BG,BH,BI,BE,A6,A7,A1,A4,A5,AZ])
  exact store hK
 ·simp only [if_neg (show ¬(7:Int)=1 by decide),if_neg (show ¬((7:Int)=2∨(7:Int)=3∨(7:Int)=5∨(7:Int)=6) by decide),if_neg (show ¬(7:Int)=4 by decide),if_true] at hK
  repeat' (first | refine BP ?_ | refine BX ?_ | refine BU ?_ | refine BM ?_ | simp only [AG,AM,AK,AP,AI,AD,AE,AR,AQ,AO,AL,AJ,AN,AH,BC,BF,BJ,BG,BH,BI,BE,A6,A7,A1,A4,A5,AZ])
  exact weak (fun _=>hK) (fun hh=>absurd rfl hh)
 ·rw [if_neg (by omega),if_neg (by omega),if_neg (by omega),if_neg (by omega),if_pos hkd] at hK
  rcases hkd with rfl | rfl
  all_goals
   repeat' (first | refine BP ?_ | refine BX ?_ | refine BU ?_ | refine BM ?_ | simp only [AG,AM,AK,AP,AI,AD,AE,AR,AQ,AO,AL,AJ,AN,AH,BC,BF,BJ,BG,BH,BI,BE,A6,A7,A1,A4,A5,AZ])
   exact weak (fun hh=>absurd hh (by decide)) (fun _=>hK)
 ·simp only [if_neg (show ¬(10:Int)=1 by decide),if_neg (show ¬((10:Int)=2∨(10:Int)=3∨(10:Int)=5∨(10:Int)=6) by decide),if_neg (show ¬(10:Int)=4 by decide),if_neg (show ¬(10:Int)=7 by decide),if_neg (show ¬((10:Int)=8∨(10:Int)=9) by decide),if_true] at hK
  repeat' (first | refine BP ?_ | refine BX ?_ | refine BU ?_ | refine BM ?_ | simp only [AG,AM,AK,AP,AI,AD,AE,AR,AQ,AO,AL,AJ,AN,AH,BC,BF,BJ,BG,BH,BI,BE,A6,A7,A1,A4,A5,AZ])
  exact oO hK
 ·rw [if_neg (by omega),if_neg (by omega),if_neg (by omega),if_neg (by omega),if_neg (by omega),if_neg (by omega)] at hK
  repeat' (first | refine BP ?_ | refine DQ (by first | with_reducible assumption | omega) ?_ | refine BM ?_ | simp only [AG,AM,AK,AP,AI,AD,AE,AR,AQ,AO,AL,AJ,AN,AH,BC,BF,BJ,BG,BH,BI,BE,A6,A7,A1,A4,A5,AZ])
  all_goals first | exact hK | (exfalso;omega)
end Go.Proofs.Ytklmcfpgdfibnaa.P
namespace Go.Proofs.Ytklmcfpgdfibnaa.P
open Go Go.Proofs.Ytklmcfpgdfibnaa Go.Proofs.Ytklmcfpgdfibnaa.Eng
set_option linter.unusedVariables false
def okE (n:Int) (l:List ByteArray) (a b c d:Int) (s:ByteArray) (k v:Int) (xs:List Int):Bool:=(sD a b c d s&&u7 k v xs)&&uZ n l
def Fx (q:ByteArray×Int) (x:Int):ByteArray×Int:=(q.1++SI (x-q.2),x)
def base (n:Int) (l:List ByteArray) (a b c d:Int) (s:ByteArray) (k v:Int) (m:Nat):ByteArray:=((((((SI a++SI (b-n))++SI c)++SI (d-b))++kR l s)++V k)++SI (v-b))++V m
def stE (p:ByteArray×Int) (xs:List Int) (i:Nat):ByteArray×Int:=(xs.take i).foldl Fx p
theorem kJ {p:ByteArray×Int} {xs:List Int} {i:Nat} (hi:i<xs.length):stE p xs (i+1)=Fx (stE p xs i) xs[i]:=by
 rw [stE,List.take_succ_eq_append_getElem hi,List.foldl_append];rfl
theorem lB {p:ByteArray×Int} {xs:List Int} (hp:PH p.2=true) (hx:xs.all PH=true): ∀i,i≤xs.length→PH (stE p xs i).2=true∧(stE p xs i).1.size≤p.1.size+7*i
 | 0,_=>⟨hp,Nat.le_refl _⟩
 | i+1,hi=>by
   obtain ⟨h1,h2⟩:=lB hp hx i (by omega)
   rw [kJ (by omega)]
   refine ⟨List.all_eq_true.1 hx _ (List.getElem_mem _), ?_⟩
   have:=QX (zg (xs[i]-(stE p xs i).2))
   simp only [Fx,ByteArray.size_append,SI];omega
theorem eD (l:List ByteArray) (s:ByteArray):(kR l s).size≤22:=by
 unfold kR;split
 ·have:=QX (at_ l s+1);omega
 ·have h1:=QX 0
  have h2:=oP s
  rw [ByteArray.size_append];omega
theorem RW (n:Int):(SI n).size≤7:=QX _
def hH (n:Int) (l:List ByteArray) (a b c d:Int) (s:ByteArray) (k v:Int) (xs:List Int):ByteArray×Int×List ByteArray:=
 if okE n l a b c d s k v xs then ((stE (base n l a b c d s k v xs.length,b) xs xs.length).1,b,uK l s) else (⟨#[]⟩,n,l)
theorem bH {n:Int} {l:List ByteArray} {a b c d:Int} {s:ByteArray} {k v:Int} {xs:List Int} (h:okE n l a b c d s k v xs=true):PH a=true∧PH b=true∧PH c=true∧PH d=true∧PH v=true∧PH n=true∧xs.all PH=true∧xs.length≤8∧(0≤k∧k≤6)∧l.length≤400:=by
 simp only [okE,sD,u7,uZ,Bool.and_eq_true,decide_eq_true_eq] at h
 exact ⟨h.1.1.1.1.1.1,h.1.1.1.1.1.2,h.1.1.1.1.2,h.1.1.1.2,h.1.2.1.1.2,h.2.1.1,h.1.2.2,h.1.2.1.2,iH.1 h.1.2.1.1.1,h.2.1.2⟩
theorem jJ (n:Int) (l:List ByteArray) (a b c d:Int) (s:ByteArray) (k v:Int) (m:Nat):(base n l a b c d s k v m).size≤71:=by
 have h1:=RW a;have h2:=RW (b-n);have h3:=RW c;have h4:=RW (d-b);have h5:=eD l s;have h6:=QX k;have h7:=RW (v-b);have h8:=QX m
 simp only [base,ByteArray.size_append];omega
end Go.Proofs.Ytklmcfpgdfibnaa.P
namespace Go.Proofs.Ytklmcfpgdfibnaa.P
open Go Go.Proofs.Ytklmcfpgdfibnaa Go.Proofs.Ytklmcfpgdfibnaa.Eng
set_option linter.unusedVariables false
theorem oX {f:J2} {g:J2→Prop} (P:List Value→List (List T)→Prop) (h1: ∀xs cs,P xs cs→f xs cs) (h2: ∀j:J2,(∀xs cs,P xs cs→j xs cs)→g j):BW f g:=h2 f h1
end Go.Proofs.Ytklmcfpgdfibnaa.P
