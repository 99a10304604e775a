/- A part of the proof. -/
import Derived.Test.YtklmcfpgdfibnaaNwHpR
import Derived.Test.YtklmcfpgdfibnaaNwHpG
namespace Go.Proofs.Ytklmcfpgdfibnaa.P
open Go Go.Proofs.Ytklmcfpgdfibnaa Go.Proofs.Ytklmcfpgdfibnaa.Eng
set_option linter.unusedVariables false
set_option maxHeartbeats 4000000
set_option linter.unusedVariables false
set_option linter.unusedSimpArgs false
attribute [local irreducible] prP gP gE gF AV ixW ldc ldg ldl stc stg scW mkW apW BL cl2 BS EC CX
variable {w0:World}
theorem XI {os:List AU} {i:Nat} (hi:i<os.length):(os.take (i+1)).map (·.count)=(os.take i).map (·.count)++[(ob os i).count]:=by
 rw [List.take_succ_eq_append_getElem hi,List.map_append,DH hi];rfl
theorem TD {os:List AU} {b c d:List T} {K:J2} (hol:os.length=8) (h:K [] [tI (os.map (·.count)),tI (List.replicate 8 0)]):cl2 ⟨Try.prog,w0⟩ 56 EO.sg [] [tR tO os,b,c,d] K:=by
 refine EO.cl2 ?_
 unfold EO.txt
 simp only [AG,AK,AN,AM,AI,AD,AE,AP,AO,AJ,AQ,AR,AL,AH,BE,BJ,BH,BG,BK,BI,BF,A4,A8,A7,A6,A5,AZ]
 refine BD (fun i=>[iv os.length,iv i]) (fun i=>[tI ((os.take i).map (·.count)),tI (List.replicate i 0)]) os.length (fun _=>True) rfl rfl trivial (fun R i hi hP hR=> ?_)
 have hln:((os.take i).map (·.count)).length=i:=by simp;omega
 have hl2:(List.replicate i (0:Int)).length=i:=List.length_replicate
 simp only [AG,AK,AN,AM,AI,AD,AE,AP,AO,AJ,AQ,AR,AL,AH,BE,BJ,BH,BG,BK,BI,BF,A4,A8,A7,A6,A5,AZ]
 refine AX (AW (fun hlt=> ?_) fun hge=> ?_)
 ·have hlt:i<os.length:=by omega
  replace hR:=hR hlt trivial
  rw [XI hlt, ←D6,List.replicate_succ', ←D6] at hR
  refine BO (AS hlt (MB hlt ?_))
  simp only [eG]
  exact AX (DC (by omega) (EH rfl (by omega) (EH rfl (by omega) (BA (by omega) hR))))
 ·have:i=os.length:=by omega
  subst this
  rw [List.take_length,hol];exact h
theorem TE {os:List AU} {b c d:List T} {K:J2} (hol:os.length=8) (h:K [] [tI (os.map (·.count)),tI (List.replicate 8 0)]):cl2 ⟨Try.prog,w0⟩ 155 ER.sg [] [tR tO os,b,c,d] K:=by
 refine ER.cl2 ?_
 unfold ER.txt
 simp only [AG,AK,AN,AM,AI,AD,AE,AP,AO,AJ,AQ,AR,AL,AH,BE,BJ,BH,BG,BK,BI,BF,A4,A8,A7,A6,A5,AZ]
 refine BD (fun i=>[iv i]) (fun i=>[tI ((os.take i).map (·.count)),tI (List.replicate i 0)]) os.length (fun _=>True) rfl rfl trivial (fun R i hi hP hR=> ?_)
 have hln:((os.take i).map (·.count)).length=i:=by simp;omega
 have hl2:(List.replicate i (0:Int)).length=i:=List.length_replicate
 simp only [AG,AK,AN,AM,AI,AD,AE,AP,AO,AJ,AQ,AR,AL,AH,BE,BJ,BH,BG,BK,BI,BF,A4,A8,A7,A6,A5,AZ]
 refine AX (BW (KI (fun hlt=> ?_) fun hge=> ?_))
 ·have hlt':i<os.length:=by omega
  replace hR:=hR hlt' trivial
  rw [XI hlt', ←D6,List.replicate_succ', ←D6] at hR
  refine AX (DX hlt rfl (DC (by omega) ?_))
  exact AS hlt' (HJ (v:=I (ob os i).count) hlt' (by decide) rfl (EH rfl (by omega) (EH rfl (by omega) (BA (by omega) hR))))
 ·have:i=os.length:=by omega
  subst this
  refine DW hge rfl (BY ?_)
  rw [List.take_length,hol];exact h
theorem WM {cs col:List Int} {W:Nat→Bool} {K:J2} (hl:col.length=8) (hw: ∀k,k<8→(gI col k=2↔W k=true)) (h:K [] [tI (CJ W 8)]):cl2 ⟨Try.prog,w0⟩ 60 GH.sg [] [tI cs,tI col] K:=by
 refine GH.cl2 ?_
 unfold GH.txt
 simp only [AG,AK,AN,AM,AI,AD,AE,AP,AO,AJ,AQ,AR,AL,AH,BE,BJ,BH,BG,BK,BI,BF,A4,A8,A7,A6,A5,AZ]
 refine BD (fun i=>[iv col.length,iv i]) (fun i=>[tI (CJ W i)]) col.length (fun _=>True) rfl rfl trivial (fun R i hi hP hR=> ?_)
 have hln:(CJ W i).length≤i:=LM (fun i=>by split <;> simp) i
 simp only [AG,AK,AN,AM,AI,AD,AE,AP,AO,AJ,AQ,AR,AL,AH,BE,BJ,BH,BG,BK,BI,BF,A4,A8,A7,A6,A5,AZ]
 refine AX (AW (fun hlt=> ?_) fun hge=> ?_)
 ·have hlt:i<col.length:=by omega
  replace hR:=hR hlt trivial
  have hwi:=hw i (by omega)
  refine BO (AS hlt (ldI hlt (BP (AW (fun h2=> ?_) fun h2=> ?_))))
  ·have e:CJ W (i+1)=CJ W i++[(i:Int)]:=by show CJ W i++(if W i=true then [(i:Int)] else [])=_;rw [if_pos (hwi.1 h2)]
   rw [e, ←D6] at hR
   exact EH rfl (by omega) (BA (by omega) hR)
  ·have e:CJ W (i+1)=CJ W i:=by show CJ W i++(if W i=true then [(i:Int)] else [])=_;rw [if_neg (fun hh=>h2 (hwi.2 hh)),List.append_nil]
   rw [e] at hR
   exact BA (by omega) hR
 ·have:i=col.length:=by omega
  subst this
  rw [hl];exact h
theorem WN {cs col:List Int} {W:Nat→Bool} {K:J2} (hl:col.length=8) (hw: ∀k,k<8→(gI col k=2↔W k=true)) (h:K [] [tI (CJ W 8)]):cl2 ⟨Try.prog,w0⟩ 158 GK.sg [] [tI cs,tI col] K:=by
 refine GK.cl2 ?_
 unfold GK.txt
 simp only [AG,AK,AN,AM,AI,AD,AE,AP,AO,AJ,AQ,AR,AL,AH,BE,BJ,BH,BG,BK,BI,BF,A4,A8,A7,A6,A5,AZ]
 refine BD (fun i=>[iv i]) (fun i=>[tI (CJ W i)]) col.length (fun _=>True) rfl rfl trivial (fun R i hi hP hR=> ?_)
 have hln:(CJ W i).length≤i:=LM (fun i=>by split <;> simp) i
 simp only [AG,AK,AN,AM,AI,AD,AE,AP,AO,AJ,AQ,AR,AL,AH,BE,BJ,BH,BG,BK,BI,BF,A4,A8,A7,A6,A5,AZ]
 refine AX (AW (fun hlt=> ?_) fun hge=> ?_)
 ·have hlt:i<col.length:=by omega
  replace hR:=hR hlt trivial
  have hwi:=hw i (by omega)
  refine BO (AS hlt (ldI hlt (BP (AW (fun h2=> ?_) fun h2=> ?_))))
  ·have e:CJ W (i+1)=CJ W i++[(i:Int)]:=by show CJ W i++(if W i=true then [(i:Int)] else [])=_;rw [if_pos (hwi.1 h2)]
   rw [e, ←D6] at hR
   exact EH rfl (by omega) (BA (by omega) hR)
  ·have e:CJ W (i+1)=CJ W i:=by show CJ W i++(if W i=true then [(i:Int)] else [])=_;rw [if_neg (fun hh=>h2 (hwi.2 hh)),List.append_nil]
   rw [e] at hR
   exact BA (by omega) hR
 ·have:i=col.length:=by omega
  subst this
  rw [hl];exact h
theorem MK.start {os:List AU} (hol:os.length=8) (hc: ∀o∈os,F64 o.count):MK os (fun i=>(ob os i).count) [] (os.map (·.count)) (List.replicate 8 0):=by
 have hz: ∀k,k<8→gI (List.replicate 8 (0:Int)) k=0:=fun k hk=>by unfold gI;rw [List.getD_eq_getElem?_getD,List.getElem?_replicate,if_pos hk];rfl
 have hcs: ∀i,i<8→gI (os.map (·.count)) i=(ob os i).count:=fun i hi=>by
  rw [←EE (by simp;omega),List.getElem_map,DH (by omega)]
 have hF: ∀i,i<8→F64 (ob os i).count:=fun i hi=>hc _ (HR (by omega))
 refine ⟨⟨by simp [hol],by simp⟩,fun i hi=>by rw [hcs i hi];exact hF i hi,fun k hk h1=> ?_,fun k hk h1=>⟨hz k hk, ?_⟩,fun i hi=> ?_⟩
 ·rw [hz k hk] at h1;omega
 ·rintro ⟨b,hb,_⟩;simp at hb
 ·have:S os (isC (List.replicate 8 0) 1) i=0:=JK fun k hk=>by unfold isC;rw [hz k hk];rfl
  rw [hcs i hi,this,Int.sub_zero,KF (hF i hi)]
theorem tD {os:List AU} {W:Nat→Bool} {j:Nat} (hj:j<(CJ W 8).length) {x:Nat} (hx:gI (CJ W 8) j=(x:Int)):(fun i:Nat=>if ((i:Nat):Int)∈(CJ W 8).take (j+1) then B4 (ob os i).gen else ob os i)=fun i=>if i=x then B4 (ob os x).gen else (if ((i:Nat):Int)∈(CJ W 8).take j then B4 (ob os i).gen else ob os i):=by
 funext i
 rw [List.take_succ_eq_append_getElem hj,EE hj,hx]
 simp only [List.mem_append,List.mem_singleton]
 by_cases hi:i=x
 ·subst hi;simp
 ·have: ¬(i:Int)=(x:Int):=by omega
  simp [hi,this]
def PV (os:List AU) (W:Nat→Bool) (i:Nat):AU:=if W i=true then B4 (ob os i).gen else ob os i
theorem gO (os:List AU) (W:Nat→Bool) (i:Nat):{PV os W i with purple:=false}=C7 os W i:=by
 unfold PV C7
 split <;> rfl
theorem OU (os:List AU) (W:Nat→Bool) (i:Nat):(FF os W i).live=(C7 os W i).live∧(FF os W i).gen=(C7 os W i).gen∧(FF os W i).field=(C7 os W i).field:=by
 unfold FF;split <;> exact ⟨rfl,rfl,rfl⟩
theorem aV (os:List AU) (W:Nat→Bool) (i:Nat):(PV os W i).live=(C7 os W i).live∧(PV os W i).gen=(C7 os W i).gen∧(PV os W i).field=(C7 os W i).field:=by
 rw [←gO];exact ⟨rfl,rfl,rfl⟩
theorem bP {os:List AU} (hof: ∀o∈os,OF o) (hol:os.length=8) (W:Nat→Bool) {i:Nat} (hi:i<8):(C7 os W i).field.length=3:=by
 unfold C7
 split
 ·rfl
 ·exact (hof _ (HR (by omega))).len
theorem UG {h:Hp} {K:J2} (st:St h) (hc: ∀o∈h.BB,F64 o.count) (hK:K [] [tR tO (N4 h.BB h.buffer).1,tR tW h.CA,[],tS h.sites,tI (N4 h.BB h.buffer).2]):cl2 ⟨Try.prog,w0⟩ 29 FP.sg [] (trees h) K:=by
 refine FP.cl2 ?_
 unfold FP.txt
 refine TK st.fits ?_
 obtain ⟨os,ws,buf,ss⟩:=h
 have hol:os.length=8:=st.ol
 have hof: ∀o∈os,OF o:=st.of
 have hb:buf.length≤100:=st.bl
 have hbf: ∀x∈buf,F64 x:=st.bf
 simp only at hc hK
 simp only [trees]
 obtain ⟨ct,hct⟩: ∃ct:Nat→Int,ct=fun i=>(ob os i).count:=⟨_,rfl⟩
 obtain ⟨W,hW⟩: ∃W,W=KX os ct buf:=⟨_,rfl⟩
 unfold N4 at hK
 rw [←hct, ←hW] at hK
 simp only [AG,AK,AN,AM,AI,AD,AE,AP,AO,AJ,AQ,AR,AL,AH,BE,BJ,BH,BG,BK,BI,BF,A4,A8,A7,A6,A5,AZ]
 refine CN (DE (by omega) (TD hol ?_))
 refine EI (α:=Nat×List Int×List Int) (fun q=>[iv buf.length,iv q.1]) (fun q=>[tR tO os,tR tW ws,tI buf,tS ss,tI q.2.1,tI q.2.2]) (fun q=>buf.length-q.1) (fun q=>q.1≤buf.length∧MK os ct (buf.take q.1) q.2.1 q.2.2) (0,os.map (·.count),List.replicate 8 0) rfl rfl ⟨Nat.zero_le _,by rw [hct];exact MK.start hol hc⟩ (fun R q hq hR=> ?_)
 obtain ⟨i,cs,col⟩:=q
 obtain ⟨hi,mk⟩:=hq
 simp only at hi mk
 simp only [AG,AK,AN,AM,AI,AD,AE,AP,AO,AJ,AQ,AR,AL,AH,BE,BJ,BH,BG,BK,BI,BF,A4,A8,A7,A6,A5,AZ]
 refine AX (AW (fun hlt=> ?_) fun hge=> ?_)
 ·have hlt:i<buf.length:=by omega
  have hx:=hbf _ (DV hlt)
  have nx:=fun cs' col' (m:MK os ct (buf.take i++[gI buf i]) cs' col')=>hR (i+1,cs',col') ⟨by simp only;omega,by simp only;rw [List.take_succ_eq_append_getElem hlt,EE hlt];exact m⟩ (by simp only;omega)
  refine AS hlt (ldI hlt (C6 hx (by omega) (TO hol hof mk.len.1 mk.len.2 mk.f (fun hn=> ?_) fun s hs s8 cs' col' p=> ?_)))
  ·exact BA (by omega) (nx _ _ (mk.none hn))
  ·exact BA (by omega) (nx _ _ (mk.some hs s8 p))
 have:i=buf.length:=by omega
 subst this
 rw [List.take_length] at mk
 refine EI (α:=Nat×List Int×List Int) (fun q=>[iv buf.length,iv q.1]) (fun q=>[tR tO os,tR tW ws,tI buf,tS ss,tI q.2.1,tI q.2.2]) (fun q=>buf.length-q.1) (fun q=>q.1≤buf.length∧SC os ct buf (buf.take q.1) q.2.1 q.2.2) (0,cs,col) rfl rfl ⟨Nat.zero_le _,SC.start mk⟩ (fun R q hq hR=> ?_)
 obtain ⟨i,cs,col⟩:=q
 obtain ⟨hi,sc⟩:=hq
 simp only at hi sc
 simp only [AG,AK,AN,AM,AI,AD,AE,AP,AO,AJ,AQ,AR,AL,AH,BE,BJ,BH,BG,BK,BI,BF,A4,A8,A7,A6,A5,AZ]
 refine AX (AW (fun hlt=> ?_) fun hge=> ?_)
 ·have hlt:i<buf.length:=by omega
  have hx:=hbf _ (DV hlt)
  have nx:=fun cs' col' (m:SC os ct buf (buf.take i++[gI buf i]) cs' col')=>hR (i+1,cs',col') ⟨by simp only;omega,by simp only;rw [List.take_succ_eq_append_getElem hlt,EE hlt];exact m⟩ (by simp only;omega)
  refine AS hlt (ldI hlt (C6 hx (by omega) (TP hol hof sc.si (fun hn=> ?_) fun s hs s8 cs' col' p=> ?_)))
  ·exact BA (by omega) (nx _ _ (sc.none hn))
  ·exact BA (by omega) (nx _ _ (sc.some hs s8 p))
 have:i=buf.length:=by omega
 subst this
 rw [List.take_length] at sc
 have wh:=sc.stop
 rw [←hW] at wh
 refine WM sc.si.len.2 wh ?_
 clear hR sc mk
 have hwn:(CJ W 8).length≤8:=LM (fun i=>by split <;> simp) 8
 refine BD (fun j=>[iv (CJ W 8).length,iv j]) (fun j=>[tI (((CJ W 8).take j).map fun x=>CM x (ob os x.toNat).gen),tI (CJ W 8),tR tO (mk8 fun i=>if ((i:Nat):Int)∈(CJ W 8).take j then B4 (ob os i).gen else ob os i),tR tW ws,tI buf,tS ss]) (CJ W 8).length (fun _=>True) (by simp only [AG,AK,AN,AM,AI,AD,AE,AP,AO,AJ,AQ,AR,AL,AH,BE,BJ,BH,BG,BK,BI,BF,A4,A8,A7,A6,A5,AZ];rfl) ?_ trivial (fun R j hj hP hR=> ?_)
 ·simp only [List.take_zero,List.map_nil,List.not_mem_nil,if_false]
  rw [←U8 hol];rfl
 have hln:(((CJ W 8).take j).map fun x=>CM x (ob os x.toNat).gen).length=j:=by simp;omega
 simp only [AG,AK,AN,AM,AI,AD,AE,AP,AO,AJ,AQ,AR,AL,AH,BE,BJ,BH,BG,BK,BI,BF,A4,A8,A7,A6,A5,AZ]
 simp only [CH]
 refine AX (AW (fun hlt=> ?_) fun hge=> ?_)
 ·have hlt:j<(CJ W 8).length:=by omega
  replace hR:=hR hlt trivial
  obtain ⟨x,x8,hx,hwx⟩:=LG.1 (DV hlt)
  have xl:x<os.length:=by omega
  rw [tD hlt hx,List.take_succ_eq_append_getElem hlt,List.map_append,EE hlt,hx, ←NM x8] at hR
  refine AS hlt (ldI hlt ?_)
  rw [hx]
  refine AS xl (HJ (v:=I (ob os x).gen) xl (by decide) rfl (L4 (EH rfl (by omega) (AS xl (HJ (v:=I (ob os x).gen) xl (by decide) rfl (OR (AS (by omega) ?_)))))))
  refine K3 (f:=tO) (by rw [CH];exact x8) (y:=B4 (ob os x).gen) rfl (BA (by omega) ?_)
  simp only [List.map_cons,List.map_nil,Int.toNat_natCast] at hR
  rw [←D6] at hR
  exact hR
 have:j=(CJ W 8).length:=by omega
 subst this
 have e1:(fun i:Nat=>if ((i:Nat):Int)∈(CJ W 8).take (CJ W 8).length then B4 (ob os i).gen else ob os i)=fun i=>if ((i:Nat):Int)∈CJ W 8 then B4 (ob os i).gen else ob os i:=by rw [List.take_length]
 have e2:mk8 (fun i=>if ((i:Nat):Int)∈CJ W 8 then B4 (ob os i).gen else ob os i)=mk8 (PV os W):=IU fun i hi=>by
  unfold PV
  by_cases hw:W i=true
  ·rw [if_pos hw,if_pos (LG.2 ⟨i,hi,rfl,hw⟩)]
  ·rw [if_neg hw,if_neg fun hm=>hw (by obtain ⟨k,_,h2,h3⟩:=LG.1 hm;have:k=i:=by omega
                                       subst this;exact h3)]
 rw [e1,e2,List.take_length,YN]
 clear hR e1 e2
 refine BD (fun i=>[iv 8,iv i]) (fun i=>[tI (JX os W 8),tR tO (mk8 fun k=>if k<i then FF os W k else PV os W k),tR tW ws,tI buf,tS ss]) 8 (fun _=>True) rfl rfl trivial (fun R i hi hP hR=> ?_)
 simp only [AG,AK,AN,AM,AI,AD,AE,AP,AO,AJ,AQ,AR,AL,AH,BE,BJ,BH,BG,BK,BI,BF,A4,A8,A7,A6,A5,AZ]
 simp only [CH]
 refine AX (AW (fun hlt=> ?_) fun hge=> ?_)
 ·have hlt:i<8:=by omega
  replace hR:=hR hlt trivial
  have hml:i<(mk8 fun k=>if k<i then FF os W k else PV os W k).length:=by rw [CH];exact hlt
  have hoi:(mk8 fun k=>if k<i then FF os W k else PV os W k)[i]=PV os W i:=by rw [DH hml,HI hlt,if_neg (by omega)]
  have hset: ∀v,v=FF os W i→(mk8 fun k=>if k<i then FF os W k else PV os W k).set i v=mk8 fun k=>if k<i+1 then FF os W k else PV os W k:=fun v hv=>by
   rw [NM hlt]
   refine IU fun k hk=> ?_
   by_cases h1:k=i
   ·subst h1;rw [if_pos rfl,if_pos (by omega),hv]
   ·rw [if_neg h1]
    by_cases h2:k<i
    ·rw [if_pos h2,if_pos (by omega)]
    ·rw [if_neg h2,if_neg (by omega)]
  have hin: ∀v,v=C7 os W i→inE ((mk8 fun k=>if k<i then FF os W k else PV os W k).set i v) i=inE (mk8 (C7 os W)) i:=fun v hv=>by
   rw [NM hlt]
   refine kU (by rw [CH,CH]) fun k hk=> ?_
   rw [CH] at hk
   rw [HI hk,HI hk]
   by_cases h1:k=i
   ·subst h1;rw [if_pos rfl,hv];exact ⟨rfl,rfl,rfl⟩
   ·rw [if_neg h1]
    by_cases h2:k<i
    ·rw [if_pos h2];exact OU os W k
    ·rw [if_neg h2];exact aV os W k
  have hlen3: ∀o∈(mk8 fun k=>if k<i then FF os W k else PV os W k).set i (C7 os W i),(o.field.length:Int)≤1048576:=fun o ho=>by
   rw [NM hlt] at ho
   obtain ⟨k,hk,rfl⟩:=ZI ho
   have hm:=bP hof hol W hk
   by_cases h1:k=i
   ·subst h1;rw [if_pos rfl];omega
   ·rw [if_neg h1]
    by_cases h2:k<i
    ·rw [if_pos h2,(OU os W k).2.2];omega
    ·rw [if_neg h2,(aV os W k).2.2];omega
  generalize (mk8 fun k=>if k<i then FF os W k else PV os W k)=M at hml hoi hset hin hlen3 ⊢
  have hM8:M.length=8:=by have:=congrArg List.length (hset (FF os W i) rfl);rw [List.length_set,CH] at this;exact this
  refine BO (AS hlt ?_)
  refine SF (f:=tO) (c:=7) (y:={M[i] with purple:=false}) hml (by decide) rfl rfl ?_
  rw [hoi,gO]
  refine kI (v:= .bool (C7 os W i).live) hml rfl ?_
  cases hv:(C7 os W i).live with
  | true=>
    refine B6 (HM (v:=I (C7 os W i).holds) hml (by decide) rfl (HM (v:=I (C7 os W i).roots) hml (by decide) rfl (F7 ?_)))
    refine VT ⟨by omega,by omega⟩ (by rw [List.length_set,hM8];decide) hlen3 ?_
    rw [hin _ rfl]
    refine F7 (GR hml ?_)
    rw [hset _ (by unfold FF;rw [if_pos hv])]
    exact BA (by omega) hR
  | false=>
    refine BY ?_
    rw [hset _ (by unfold FF;rw [if_neg (by rw [hv];decide)])]
    exact BA (by omega) hR
 ·have:i=8:=by omega
  subst this
  rw [IU (g:=FF os W) fun k hk=>if_pos hk]
  exact hK
theorem mG {a b c d e f g:List T} {l:List (List T)}:nxc (a::b::c::d::e::f::g::l) 6=g:=rfl
theorem UZ {h:Hp} {K:J2} (st:St h) (hc: ∀o∈h.BB,F64 o.count) (hK:K [] [tR tO (N4 h.BB h.buffer).1,tR tW h.CA,[],tS h.sites,tI (N4 h.BB h.buffer).2]):cl2 ⟨Try.prog,w0⟩ 127 FL.sg [] (trees h) K:=by
 refine FL.cl2 ?_
 unfold FL.txt
 refine J3 st.fits ?_
 obtain ⟨os,ws,buf,ss⟩:=h
 have hol:os.length=8:=st.ol
 have hof: ∀o∈os,OF o:=st.of
 have hb:buf.length≤100:=st.bl
 have hbf: ∀x∈buf,F64 x:=st.bf
 simp only at hc hK
 simp only [trees]
 obtain ⟨ct,hct⟩: ∃ct:Nat→Int,ct=fun i=>(ob os i).count:=⟨_,rfl⟩
 obtain ⟨W,hW⟩: ∃W,W=KX os ct buf:=⟨_,rfl⟩
 unfold N4 at hK
 rw [←hct, ←hW] at hK
 simp only [AG,AK,AN,AM,AI,AD,AE,AP,AO,AJ,AQ,AR,AL,AH,BE,BJ,BH,BG,BK,BI,BF,A4,A8,A7,A6,A5,AZ]
 refine CN (DE (by omega) (TE hol ?_))
 refine EI (α:=Nat×List Int×List Int) (fun q=>[iv q.1]) (fun q=>[[],tR tO os,tR tW ws,tI buf,tS ss,tI q.2.1,tI q.2.2]) (fun q=>buf.length-q.1) (fun q=>q.1≤buf.length∧MK os ct (buf.take q.1) q.2.1 q.2.2) (0,os.map (·.count),List.replicate 8 0) rfl rfl ⟨Nat.zero_le _,by rw [hct];exact MK.start hol hc⟩ (fun R q hq hR=> ?_)
 obtain ⟨i,cs,col⟩:=q
 obtain ⟨hi,mk⟩:=hq
 simp only at hi mk
 simp only [AG,AK,AN,AM,AI,AD,AE,AP,AO,AJ,AQ,AR,AL,AH,BE,BJ,BH,BG,BK,BI,BF,A4,A8,A7,A6,A5,AZ]
 simp only [mG]
 refine AX (AW (fun hlt=> ?_) fun hge=> ?_)
 ·have hlt:i<buf.length:=by omega
  have hx:=hbf _ (DV hlt)
  have nx:=fun cs' col' (m:MK os ct (buf.take i++[gI buf i]) cs' col')=>hR (i+1,cs',col') ⟨by simp only;omega,by simp only;rw [List.take_succ_eq_append_getElem hlt,EE hlt];exact m⟩ (by simp only;omega)
  refine AS hlt (ldI hlt (CO hx (by omega) (TG hol hof mk.len.1 mk.len.2 mk.f (fun hn=> ?_) fun s hs s8 cs' col' p=> ?_)))
  ·exact BA (by omega) (nx _ _ (mk.none hn))
  ·exact BA (by omega) (nx _ _ (mk.some hs s8 p))
 have:i=buf.length:=by omega
 subst this
 rw [List.take_length] at mk
 refine EI (α:=Nat×List Int×List Int) (fun q=>[iv q.1]) (fun q=>[[],tR tO os,tR tW ws,tI buf,tS ss,tI q.2.1,tI q.2.2]) (fun q=>buf.length-q.1) (fun q=>q.1≤buf.length∧SC os ct buf (buf.take q.1) q.2.1 q.2.2) (0,cs,col) rfl rfl ⟨Nat.zero_le _,SC.start mk⟩ (fun R q hq hR=> ?_)
 obtain ⟨i,cs,col⟩:=q
 obtain ⟨hi,sc⟩:=hq
 simp only at hi sc
 simp only [AG,AK,AN,AM,AI,AD,AE,AP,AO,AJ,AQ,AR,AL,AH,BE,BJ,BH,BG,BK,BI,BF,A4,A8,A7,A6,A5,AZ]
 simp only [mG]
 refine AX (AW (fun hlt=> ?_) fun hge=> ?_)
 ·have hlt:i<buf.length:=by omega
  have hx:=hbf _ (DV hlt)
  have nx:=fun cs' col' (m:SC os ct buf (buf.take i++[gI buf i]) cs' col')=>hR (i+1,cs',col') ⟨by simp only;omega,by simp only;rw [List.take_succ_eq_append_getElem hlt,EE hlt];exact m⟩ (by simp only;omega)
  refine AS hlt (ldI hlt (CO hx (by omega) (TC hol hof sc.si (fun hn=> ?_) fun s hs s8 cs' col' p=> ?_)))
  ·exact BA (by omega) (nx _ _ (sc.none hn))
  ·exact BA (by omega) (nx _ _ (sc.some hs s8 p))
 have:i=buf.length:=by omega
 subst this
 rw [List.take_length] at sc
 have wh:=sc.stop
 rw [←hW] at wh
 refine WN sc.si.len.2 wh ?_
 clear hR sc mk
 have hwn:(CJ W 8).length≤8:=LM (fun i=>by split <;> simp) 8
 refine BD (fun i=>[iv i]) (fun i=>[tI (JX os W i),tI (CJ W 8),tR tO (mk8 fun k=>if k<i then C7 os W k else ob os k),tR tW ws,tI buf,tS ss]) 8 (fun _=>True) rfl ?_ trivial (fun R i hi hP hR=> ?_)
 ·simp only [Nat.not_lt_zero,if_false]
  rw [←U8 hol];rfl
 have hln:(JX os W i).length≤i:=LM (fun i=>by split <;> simp) i
 simp only [AG,AK,AN,AM,AI,AD,AE,AP,AO,AJ,AQ,AR,AL,AH,BE,BJ,BH,BG,BK,BI,BF,A4,A8,A7,A6,A5,AZ]
 simp only [mG,CH]
 refine AX (AW (fun hlt=> ?_) fun hge=> ?_)
 ·have hlt:i<8:=by omega
  replace hR:=hR hlt trivial
  have hml:i<(mk8 fun k=>if k<i then C7 os W k else ob os k).length:=by rw [CH];exact hlt
  have hoi:(mk8 fun k=>if k<i then C7 os W k else ob os k)[i]=ob os i:=by rw [DH hml,HI hlt,if_neg (by omega)]
  have hset: ∀v,v=C7 os W i→(mk8 fun k=>if k<i then C7 os W k else ob os k).set i v=mk8 fun k=>if k<i+1 then C7 os W k else ob os k:=fun v hv=>by
   rw [NM hlt]
   refine IU fun k hk=> ?_
   by_cases h1:k=i
   ·subst h1;rw [if_pos rfl,if_pos (by omega),hv]
   ·rw [if_neg h1]
    by_cases h2:k<i
    ·rw [if_pos h2,if_pos (by omega)]
    ·rw [if_neg h2,if_neg (by omega)]
  generalize (mk8 fun k=>if k<i then C7 os W k else ob os k)=M at hml hoi hset ⊢
  have hM8:M.length=8:=by have:=congrArg List.length (hset (C7 os W i) rfl);rw [List.length_set,CH] at this;exact this
  have io:i<os.length:=by omega
  refine BO (AS hlt ?_)
  refine SF (f:=tO) (c:=7) (y:={M[i] with purple:=false}) hml (by decide) rfl rfl ?_
  rw [hoi]
  refine NH (by omega) (AW (fun hm=> ?_) fun hm=> ?_)
  ·have hw:W i=true:=by
    obtain ⟨k,_,h2,h3⟩:=LG.1 hm
    have:k=i:=by omega
    subst this;exact h3
   have ef:JX os W (i+1)=JX os W i++[CM i (ob os i).gen]:=by show JX os W i++(if W i=true then [CM i (ob os i).gen] else [])=_;rw [if_pos hw]
   rw [ef, ←D6, ←hset (B4 (ob os i).gen) (by unfold C7;rw [if_pos hw])] at hR
   refine AS io (HJ (v:=I (ob os i).gen) io (by decide) rfl (IW (EH rfl (by omega) (AS io (HJ (v:=I (ob os i).gen) io (by decide) rfl (IH ?_))))))
   simp only [AG,AK,AN,AM,AI,AD,AE,AP,AO,AJ,AQ,AR,AL,AH,BE,BJ,BH,BG,BK,BI,BF,A4,A8,A7,A6,A5,AZ]
   simp only [List.length_set,hM8]
   refine AS hlt (K3 (f:=tO) (by rw [List.length_set];exact hml) (y:=B4 (ob os i).gen) rfl ?_)
   rw [List.set_set]
   exact BA (by omega) hR
  ·have hw: ¬W i=true:=fun hw=>hm (LG.2 ⟨i,hlt,rfl,hw⟩)
   have ef:JX os W (i+1)=JX os W i:=by show JX os W i++(if W i=true then [CM i (ob os i).gen] else [])=_;rw [if_neg hw,List.append_nil]
   rw [ef, ←hset {ob os i with purple:=false} (by unfold C7;rw [if_neg hw])] at hR
   exact BA (by omega) hR
 have:i=8:=by omega
 subst this
 rw [IU (g:=C7 os W) fun k hk=>if_pos hk]
 clear hR
 refine BD (fun i=>[iv i]) (fun i=>[tI (JX os W 8),tR tO (mk8 fun k=>if k<i then FF os W k else C7 os W k),tR tW ws,tI buf,tS ss]) 8 (fun _=>True) rfl rfl trivial (fun R i hi hP hR=> ?_)
 simp only [AG,AK,AN,AM,AI,AD,AE,AP,AO,AJ,AQ,AR,AL,AH,BE,BJ,BH,BG,BK,BI,BF,A4,A8,A7,A6,A5,AZ]
 simp only [CH]
 refine AX (AW (fun hlt=> ?_) fun hge=> ?_)
 ·have hlt:i<8:=by omega
  replace hR:=hR hlt trivial
  have hml:i<(mk8 fun k=>if k<i then FF os W k else C7 os W k).length:=by rw [CH];exact hlt
  have hoi:(mk8 fun k=>if k<i then FF os W k else C7 os W k)[i]=C7 os W i:=by rw [DH hml,HI hlt,if_neg (by omega)]
  have hset: ∀v,v=FF os W i→(mk8 fun k=>if k<i then FF os W k else C7 os W k).set i v=mk8 fun k=>if k<i+1 then FF os W k else C7 os W k:=fun v hv=>by
   rw [NM hlt]
   refine IU fun k hk=> ?_
   by_cases h1:k=i
   ·subst h1;rw [if_pos rfl,if_pos (by omega),hv]
   ·rw [if_neg h1]
    by_cases h2:k<i
    ·rw [if_pos h2,if_pos (by omega)]
    ·rw [if_neg h2,if_neg (by omega)]
  have hin:inE (mk8 fun k=>if k<i then FF os W k else C7 os W k) i=inE (mk8 (C7 os W)) i:=by
   refine kU (by rw [CH,CH]) fun k hk=> ?_
   rw [CH] at hk
   rw [HI hk,HI hk]
   by_cases h2:k<i
   ·rw [if_pos h2];exact OU os W k
   ·rw [if_neg h2];exact ⟨rfl,rfl,rfl⟩
  have hlen3: ∀o∈(mk8 fun k=>if k<i then FF os W k else C7 os W k),(o.field.length:Int)≤1048576:=fun o ho=>by
   obtain ⟨k,hk,rfl⟩:=ZI ho
   have hm:=bP hof hol W hk
   by_cases h2:k<i
   ·rw [if_pos h2,(OU os W k).2.2];omega
   ·rw [if_neg h2];omega
  generalize (mk8 fun k=>if k<i then FF os W k else C7 os W k)=M at hml hoi hset hin hlen3 ⊢
  have hM8:M.length=8:=by have:=congrArg List.length (hset (FF os W i) rfl);rw [List.length_set,CH] at this;exact this
  have hMs:M=M.set i (C7 os W i):=by rw [←hoi,List.set_getElem_self]
  refine BO (AS hlt ?_)
  cases hv:(C7 os W i).live with
  | true=>
    refine PE (f:=tO) (v:= .bool true) hml (by rw [hoi];simp [tO,hv]) (B6 (AS hlt ?_))
    refine QV (f:=tO) (v:=I (C7 os W i).holds) hml (by decide) (by rw [hoi];rfl) (AS hlt ?_)
    refine QV (f:=tO) (v:=I (C7 os W i).roots) hml (by decide) (by rw [hoi];rfl) (F7 ?_)
    refine N8 ⟨by omega,by omega⟩ (by rw [hM8];decide) hlen3 ?_
    rw [hin]
    refine F7 (AS hlt ?_)
    rw [hMs]
    refine GR hml ?_
    rw [hset _ (by unfold FF;rw [if_pos hv])]
    exact BA (by omega) hR
  | false=>
    refine PE (f:=tO) (v:= .bool false) hml (by rw [hoi];simp [tO,hv]) (BY ?_)
    rw [hMs,hset _ (by unfold FF;rw [if_neg (by rw [hv];decide)])]
    exact BA (by omega) hR
 ·have:i=8:=by omega
  subst this
  rw [IU (g:=FF os W) fun k hk=>if_pos hk]
  exact hK
end Go.Proofs.Ytklmcfpgdfibnaa.P
namespace Go.Proofs.Ytklmcfpgdfibnaa.P
open Go Go.Proofs.Ytklmcfpgdfibnaa Go.Proofs.Ytklmcfpgdfibnaa.Eng
set_option linter.unusedVariables false
set_option maxHeartbeats 4000000
set_option linter.unusedVariables false
set_option linter.unusedSimpArgs false
attribute [local irreducible] prP gP gE gF AV ixW ldc ldg ldl stc stg scW mkW apW BL cl2 BS EC CX
variable {w0:World}
noncomputable def GX (h:Hp) (o:Op5):Hp×An:=
 if o.kind=1 then (⟨(GS h.BB h.sites o.site).1,h.CA,h.buffer,(GS h.BB h.sites o.site).2.1⟩,(GS h.BB h.sites o.site).2.2) else
 if o.kind=2∨o.kind=3∨o.kind=5∨o.kind=6 then (⟨(JG h.BB h.buffer o.kind o.a).1,h.CA,(JG h.BB h.buffer o.kind o.a).2.1,h.sites⟩,(JG h.BB h.buffer o.kind o.a).2.2) else
 if o.kind=4 then (⟨(G4 h.BB h.buffer o.a o.b o.c).1,h.CA,(G4 h.BB h.buffer o.a o.b o.c).2.1,h.sites⟩,(G4 h.BB h.buffer o.a o.b o.c).2.2) else
 if o.kind=7 then (⟨h.BB,(KJ h.BB h.CA o.a).1,h.buffer,h.sites⟩,(KJ h.BB h.CA o.a).2) else
 if o.kind=8∨o.kind=9 then (⟨h.BB,(GO h.BB h.CA o.kind o.a).1,h.buffer,h.sites⟩,(GO h.BB h.CA o.kind o.a).2) else
 if o.kind=10 then (⟨(N4 h.BB h.buffer).1,h.CA,[],h.sites⟩,⟨0,0,(N4 h.BB h.buffer).2⟩) else (h,⟨2,0,[]⟩)
theorem dL {α:Type} [Inhabited α] {l:List α} (h: ∀i (hi:i<l.length),l[i]∉l.take i):l.Nodup:=by
 refine List.pairwise_iff_getElem.2 fun i j hi hj hij he=>h j hj ?_
 rw [←he]
 exact List.mem_take_iff_getElem.2 ⟨i,by omega,rfl⟩
theorem few {n:Nat}: ∀{l:List Int} (g:Int→Nat),l.Nodup→(∀x∈l,g x<n)→(∀x∈l, ∀y∈l,g x=g y→x=y)→l.length≤n:=by
 induction n with
 | zero=>
   intro l g _ h _
   cases l with
   | nil=>simp
   | cons x l=>exact absurd (h x (by simp)) (by omega)
 | succ n ih=>
   intro l g hn h hi
   by_cases hx: ∃x∈l,g x=n
   ·obtain ⟨x,hx,hg⟩:=hx
    have:=ih (l:=l.erase x) g (hn.erase x) (fun y hy=>by
     have hy':=List.mem_of_mem_erase hy
     have:=h y hy'
     have hne:g y≠n:=fun he=>by
      have:y=x:=hi y hy' x hx (by omega)
      subst this
      exact (List.Nodup.not_mem_erase hn) hy
     omega) fun y hy z hz=>hi y (List.mem_of_mem_erase hy) z (List.mem_of_mem_erase hz)
    rw [List.length_erase_of_mem hx] at this
    omega
   ·have:=ih g hn (fun y hy=>by
     have:=h y hy
     have:g y≠n:=fun he=>hx ⟨y,hy,he⟩
     omega) hi
    omega
theorem DB.bnd {h:Hp} (hk:DB h):h.buffer.Nodup:=dL fun i hi=>by rw [EE hi];exact (hk.buf i hi).2
theorem DB.VQ {h:Hp} (hk:DB h) {x:Int} (hx:x∈h.buffer):0≤AB h.BB x:=by
 obtain ⟨i,hi,rfl⟩:=List.getElem_of_mem hx
 rw [EE hi];exact (hk.buf i hi).1
theorem cJ {l:List AU} {x y:Int} (hx:0≤AB l x) (hy:0≤AB l y) (h:AB l x=AB l y):x=y:=by
 have a:=BN hx;have b:=BN hy
 have e1:=a.2.2.2.2.2;have e2:=b.2.2.2.2.2
 rw [h] at e1
 omega
theorem DB.uN {h:Hp} (hk:DB h):h.buffer.length≤8:=
 few (fun x=>(AB h.BB x).toNat) hk.bnd (fun x hx=>(BN (hk.VQ hx)).2.2.2.1) fun x hx y hy he=>cJ (hk.VQ hx) (hk.VQ hy) (by have:=hk.VQ hx;have:=hk.VQ hy;omega)
theorem DB.st {h:Hp} (hk:DB h) (hn:T7 h):St h:=by
 refine ⟨hk.ol,hk.wl,hk.sites.len,by have:=hk.uN;omega,fun o ho=> ?_,fun s hs=> ?_,hn.weak,hn.buf⟩
 ·obtain ⟨i,hi,rfl⟩:=List.getElem_of_mem ho
  have hi8:i<8:=by have:=hk.ol;omega
  have:=hn.obj _ ho
  rw [DH hi] at this ⊢
  exact ⟨this.1,(hk.obj i hi8).len,this.2.2.2.2.2⟩
 ·obtain ⟨i,hi,rfl⟩:=List.getElem_of_mem hs
  have:=(hk.sites.sz i hi).2
  rw [Q3 hi];omega
theorem DB.hr {h:Hp} (hk:DB h) (i:Nat):(0≤(ob h.BB i).holds∧(ob h.BB i).holds≤20)∧(0≤(ob h.BB i).roots∧(ob h.BB i).roots≤20):=by
 by_cases hi:i<8
 ·cases hv:(ob h.BB i).live with
  | true=>exact ⟨((hk.obj i hi).lv hv).2.2.1,((hk.obj i hi).lv hv).2.2.2.1⟩
  | false=>have:=(hk.obj i hi).dead hv;omega
 ·have:ob h.BB i=⟨false,0,0,0,0,0,[],false⟩:=by unfold ob;rw [List.getD_eq_getElem?_getD,List.getElem?_eq_none (by have:=hk.ol;omega)];rfl
  rw [this];simp
theorem DB.fd {h:Hp} (hk:DB h) (i:Nat): ∀f∈(ob h.BB i).field,f= -1∨0≤f:=by
 intro f hf
 by_cases hi:i<8
 ·obtain ⟨j,hj,rfl⟩:=List.getElem_of_mem hf
  have ho:=hk.obj i hi
  by_cases h1:gI (ob h.BB i).field j= -1
  ·left;rw [EE hj];exact h1
  ·right
   have:=BN (ho.lead j (by have:=ho.len;omega) h1).2
   rw [EE hj];omega
 ·have:ob h.BB i=⟨false,0,0,0,0,0,[],false⟩:=by unfold ob;rw [List.getD_eq_getElem?_getD,List.getElem?_eq_none (by have:=hk.ol;omega)];rfl
  rw [this] at hf;simp at hf
theorem kinds (k:Int):k=1∨(k=2∨k=3∨k=5∨k=6)∨k=4∨k=7∨(k=8∨k=9)∨k=10∨ ¬(k=1∨k=2∨k=3∨k=4∨k=5∨k=6∨k=7∨k=8∨k=9∨k=10):=by omega
theorem X0 {h:Hp} {o:Op5} {K:J2} (hk:DB h) (hn:T7 h) (ha:F64 o.a) (hc:F64 o.c) (hK:K [I (GX h o).2.code,I (GX h o).2.val] (tI (GX h o).2.freed::trees (GX h o).1)):cl2 ⟨Try.prog,w0⟩ 106 DL.sg [I o.kind,I o.a,I o.b,I o.c, .string o.site] (trees h) K:=by
 have st:=hk.st hn
 have hr:=hk.hr
 refine DL.cl2 ?_
 unfold DL.txt
 obtain ⟨os,ws,buf,ss⟩:=h
 obtain ⟨kd,a,b,c,s⟩:=o
 have hol:os.length=8:=st.ol
 have hof: ∀o∈os,OF o:=st.of
 have hb:buf.length≤100:=st.bl
 simp only at ha hc hr
 simp only [trees]
 unfold GX at hK
 simp only at hK
 rcases kinds kd with rfl | hkd | rfl | rfl | hkd | rfl | hkd
 ·rw [if_pos rfl] at hK
  exact BP (DC rfl (X7 hol st.sl hK))
 ·rw [if_neg (by omega),if_pos hkd] at hK
  have cc:=fun {K:J2}=>VX (w0:=w0) (os:=os) (buf:=buf) (b:=tR tW ws) (d:=tS ss) (kind:=kd) (id:=a) (K:=K) hol hof hb ha hkd hr
  rcases hkd with rfl | rfl | rfl | rfl
  all_goals
   repeat' (first | refine BO ?_ | refine B6 ?_ | refine BY ?_ | refine BP ?_ | simp only [AG,AK,AN,AM,AI,AD,AE,AP,AO,AJ,AQ,AR,AL,AH,BE,BJ,BH,BG,BK,BI,BF,A4,A8,A7,A6,A5,AZ])
   exact cc hK
 ·simp only [if_neg (show ¬(4:Int)=1 by decide),if_neg (show ¬((4:Int)=2∨(4:Int)=3∨(4:Int)=5∨(4:Int)=6) by decide),if_true] at hK
  repeat' (first | refine BO ?_ | refine B6 ?_ | refine BY ?_ | refine BP ?_ | simp only [AG,AK,AN,AM,AI,AD,AE,AP,AO,AJ,AQ,AR,AL,AH,BE,BJ,BH,BG,BK,BI,BF,A4,A8,A7,A6,A5,AZ])
  exact Y0 hol hof hb ha hc hK
 ·simp only [if_neg (show ¬(7:Int)=1 by decide),if_neg (show ¬((7:Int)=2∨(7:Int)=3∨(7:Int)=5∨(7:Int)=6) by decide),if_neg (show ¬(7:Int)=4 by decide),if_true] at hK
  repeat' (first | refine BO ?_ | refine B6 ?_ | refine BY ?_ | refine BP ?_ | simp only [AG,AK,AN,AM,AI,AD,AE,AP,AO,AJ,AQ,AR,AL,AH,BE,BJ,BH,BG,BK,BI,BF,A4,A8,A7,A6,A5,AZ])
  exact bO hol st.wl ha hK
 ·rw [if_neg (by omega),if_neg (by omega),if_neg (by omega),if_neg (by omega),if_pos hkd] at hK
  rcases hkd with rfl | rfl
  all_goals
   repeat' (first | refine BO ?_ | refine B6 ?_ | refine BY ?_ | refine BP ?_ | simp only [AG,AK,AN,AM,AI,AD,AE,AP,AO,AJ,AQ,AR,AL,AH,BE,BJ,BH,BG,BK,BI,BF,A4,A8,A7,A6,A5,AZ])
   exact WI hol st.wl ha st.wf hK
 ·simp only [if_neg (show ¬(10:Int)=1 by decide),if_neg (show ¬((10:Int)=2∨(10:Int)=3∨(10:Int)=5∨(10:Int)=6) by decide),if_neg (show ¬(10:Int)=4 by decide),if_neg (show ¬(10:Int)=7 by decide),if_neg (show ¬((10:Int)=8∨(10:Int)=9) by decide),if_true] at hK
  repeat' (first | refine BO ?_ | refine B6 ?_ | refine BY ?_ | refine BP ?_ | simp only [AG,AK,AN,AM,AI,AD,AE,AP,AO,AJ,AQ,AR,AL,AH,BE,BJ,BH,BG,BK,BI,BF,A4,A8,A7,A6,A5,AZ])
  exact UG st (fun o ho=>(hn.obj o ho).2.2.2.2.1) hK
 ·rw [if_neg (by omega),if_neg (by omega),if_neg (by omega),if_neg (by omega),if_neg (by omega),if_neg (by omega)] at hK
  repeat' (first | refine BO ?_ | refine DE (by first | with_reducible assumption | omega) ?_ | refine BP ?_ | simp only [AG,AK,AN,AM,AI,AD,AE,AP,AO,AJ,AQ,AR,AL,AH,BE,BJ,BH,BG,BK,BI,BF,A4,A8,A7,A6,A5,AZ])
  all_goals first | exact B7 hK | (exfalso;omega)
end Go.Proofs.Ytklmcfpgdfibnaa.P
namespace Go.Proofs.Ytklmcfpgdfibnaa.P
open Go Go.Proofs.Ytklmcfpgdfibnaa Go.Proofs.Ytklmcfpgdfibnaa.Eng
set_option linter.unusedVariables false
set_option maxHeartbeats 4000000
set_option linter.unusedVariables false
set_option linter.unusedSimpArgs false
attribute [local irreducible] prP gP gE gF AV ixW ldc ldg ldl stc stg scW mkW apW BL cl2 BS EC CX
variable {w0:World}
open Classical in
noncomputable def OD (h:Hp) (o:Op5):Hp×An:=if DB h then GX h o else (h,⟨2,0,[]⟩)
theorem VJ {h:Hp} {o:Op5} (hk:DB h):OD h o=GX h o:=by unfold OD;rw [if_pos hk]
theorem kO {h:Hp} {o:Op5} (hk: ¬DB h):OD h o=(h,⟨2,0,[]⟩):=by unfold OD;rw [if_neg hk]
theorem RJ {h:Hp} {o:Op5} {K:J2} (hf:Fits h) (hn:T7 h) (ha:F64 o.a) (hc:F64 o.c) (hK:K [I (OD h o).2.code,I (OD h o).2.val] (trees (OD h o).1++[tI (OD h o).2.freed])):cl2 ⟨Try.prog,w0⟩ 76 F5.sg [I o.kind,I o.a,I o.b,I o.c, .string o.site] (trees h) K:=by
 refine F5.cl2 ?_
 unfold F5.txt
 refine J3 hf (P6 hf hn (fun hk=>CT (BY ?_)) fun hk=>CT (B6 ?_))
 rotate_left
 ·rw [kO hk] at hK
  exact hK
 rw [VJ hk] at hK
 have st:=hk.st hn
 have hr:=hk.hr
 have hfd:=hk.fd
 have hss:=hk.sites
 have hcn: ∀o∈h.BB,F64 o.count:=fun o ho=>(hn.obj o ho).2.2.2.2.1
 clear hf hk
 obtain ⟨kd,a,b,c,s⟩:=o
 have hol:h.BB.length=8:=st.ol
 simp only at ha hc hr
 unfold GX at hK
 simp only at hK
 have hold:=fun {K:J2} (hkd:kd=2∨kd=3∨kd=5∨kd=6)=>WE (w0:=w0) (h:=h) (kind:=kd) (id:=a) (b:=b) (c:=c) (s:=s) (K:=K) st ha hkd hr
 have store:=fun {K:J2}=>UJ (w0:=w0) (h:=h) (a0:=kd) (a1:=a) (a2:=b) (a3:=c) (s:=s) (K:=K) st ha hc hfd
 have oD:=fun {K:J2}=>UZ (w0:=w0) (h:=h) (K:=K) st hcn
 have weak:=fun {K:J2}=>WD (w0:=w0) (os:=h.BB) (ws:=h.CA) (cc:=tI h.buffer) (d:=tS h.sites) (kind:=kd) (k:=a) (b:=b) (c:=c) (s:=s) (K:=K) hol st.wl ha st.wf
 simp only [trees] at hold store oD ⊢
 rcases kinds kd with rfl | hkd | rfl | rfl | hkd | rfl | hkd
 ·rw [if_pos rfl] at hK
  exact BP (DC rfl (UF hol hss hK))
 ·rw [if_neg (by omega),if_pos hkd] at hK
  replace hold:=fun {K:J2}=>hold (K:=K) hkd
  rcases hkd with rfl | rfl | rfl | rfl
  all_goals
   repeat' (first | refine BO ?_ | refine B6 ?_ | refine BY ?_ | refine BP ?_ | simp only [AG,AK,AN,AM,AI,AD,AE,AP,AO,AJ,AQ,AR,AL,AH,BE,BJ,BH,BG,BK,BI,BF,A4,A8,A7,A6,A5,AZ])
   exact hold hK
 ·simp only [if_neg (show ¬(4:Int)=1 by decide),if_neg (show ¬((4:Int)=2∨(4:Int)=3∨(4:Int)=5∨(4:Int)=6) by decide),if_true] at hK
  repeat' (first | refine BO ?_ | refine B6 ?_ | refine BY ?_ | refine BP ?_ | simp only [AG,AK,AN,AM,AI,AD,AE,AP,AO,AJ,AQ,AR,AL,AH,BE,BJ,BH,BG,BK,BI,BF,A4,A8,A7,A6,A5,AZ])
  exact store hK
 ·simp only [if_neg (show ¬(7:Int)=1 by decide),if_neg (show ¬((7:Int)=2∨(7:Int)=3∨(7:Int)=5∨(7:Int)=6) by decide),if_neg (show ¬(7:Int)=4 by decide),if_true] at hK
  repeat' (first | refine BO ?_ | refine B6 ?_ | refine BY ?_ | refine BP ?_ | simp only [AG,AK,AN,AM,AI,AD,AE,AP,AO,AJ,AQ,AR,AL,AH,BE,BJ,BH,BG,BK,BI,BF,A4,A8,A7,A6,A5,AZ])
  exact weak (fun _=>hK) (fun hh=>absurd rfl hh)
 ·rw [if_neg (by omega),if_neg (by omega),if_neg (by omega),if_neg (by omega),if_pos hkd] at hK
  rcases hkd with rfl | rfl
  all_goals
   repeat' (first | refine BO ?_ | refine B6 ?_ | refine BY ?_ | refine BP ?_ | simp only [AG,AK,AN,AM,AI,AD,AE,AP,AO,AJ,AQ,AR,AL,AH,BE,BJ,BH,BG,BK,BI,BF,A4,A8,A7,A6,A5,AZ])
   exact weak (fun hh=>absurd hh (by decide)) (fun _=>hK)
 ·simp only [if_neg (show ¬(10:Int)=1 by decide),if_neg (show ¬((10:Int)=2∨(10:Int)=3∨(10:Int)=5∨(10:Int)=6) by decide),if_neg (show ¬(10:Int)=4 by decide),if_neg (show ¬(10:Int)=7 by decide),if_neg (show ¬((10:Int)=8∨(10:Int)=9) by decide),if_true] at hK
  repeat' (first | refine BO ?_ | refine B6 ?_ | refine BY ?_ | refine BP ?_ | simp only [AG,AK,AN,AM,AI,AD,AE,AP,AO,AJ,AQ,AR,AL,AH,BE,BJ,BH,BG,BK,BI,BF,A4,A8,A7,A6,A5,AZ])
  exact oD hK
 ·rw [if_neg (by omega),if_neg (by omega),if_neg (by omega),if_neg (by omega),if_neg (by omega),if_neg (by omega)] at hK
  repeat' (first | refine BO ?_ | refine DE (by first | with_reducible assumption | omega) ?_ | refine BP ?_ | simp only [AG,AK,AN,AM,AI,AD,AE,AP,AO,AJ,AQ,AR,AL,AH,BE,BJ,BH,BG,BK,BI,BF,A4,A8,A7,A6,A5,AZ])
  all_goals first | exact hK | (exfalso;omega)
end Go.Proofs.Ytklmcfpgdfibnaa.P
namespace Go.Proofs.Ytklmcfpgdfibnaa.P
open Go Go.Proofs.Ytklmcfpgdfibnaa Go.Proofs.Ytklmcfpgdfibnaa.Eng
set_option linter.unusedVariables false
def okE (n:Int) (l:List ByteArray) (a b c d:Int) (s:ByteArray) (k v:Int) (xs:List Int):Bool:=(rV a b c d s&&uI k v xs)&&tX n l
def Fx (q:ByteArray×Int) (x:Int):ByteArray×Int:=(q.1++SI (x-q.2),x)
def base (n:Int) (l:List ByteArray) (a b c d:Int) (s:ByteArray) (k v:Int) (m:Nat):ByteArray:=((((((SI a++SI (b-n))++SI c)++SI (d-b))++mZ l s)++V k)++SI (v-b))++V m
def stE (p:ByteArray×Int) (xs:List Int) (i:Nat):ByteArray×Int:=(xs.take i).foldl Fx p
theorem kS {p:ByteArray×Int} {xs:List Int} {i:Nat} (hi:i<xs.length):stE p xs (i+1)=Fx (stE p xs i) xs[i]:=by
 rw [stE,List.take_succ_eq_append_getElem hi,List.foldl_append];rfl
theorem lA {p:ByteArray×Int} {xs:List Int} (hp:OY p.2=true) (hx:xs.all OY=true): ∀i,i≤xs.length→OY (stE p xs i).2=true∧(stE p xs i).1.size≤p.1.size+7*i
 | 0,_=>⟨hp,Nat.le_refl _⟩
 | i+1,hi=>by
   obtain ⟨h1,h2⟩:=lA hp hx i (by omega)
   rw [kS (by omega)]
   refine ⟨List.all_eq_true.1 hx _ (List.getElem_mem _), ?_⟩
   have:=QS (zg (xs[i]-(stE p xs i).2))
   simp only [Fx,ByteArray.size_append,SI];omega
theorem cC (l:List ByteArray) (s:ByteArray):(mZ l s).size≤22:=by
 unfold mZ;split
 ·have:=QS (at_ l s+1);omega
 ·have h1:=QS 0
  have h2:=oK s
  rw [ByteArray.size_append];omega
theorem RA (n:Int):(SI n).size≤7:=QS _
def eV (n:Int) (l:List ByteArray) (a b c d:Int) (s:ByteArray) (k v:Int) (xs:List Int):ByteArray×Int×List ByteArray:=
 if okE n l a b c d s k v xs then ((stE (base n l a b c d s k v xs.length,b) xs xs.length).1,b,sZ l s) else (⟨#[]⟩,n,l)
theorem Z4 {n:Int} {l:List ByteArray} {a b c d:Int} {s:ByteArray} {k v:Int} {xs:List Int} (h:okE n l a b c d s k v xs=true):OY a=true∧OY b=true∧OY c=true∧OY d=true∧OY v=true∧OY n=true∧xs.all OY=true∧xs.length≤8∧(0≤k∧k≤6)∧l.length≤400:=by
 simp only [okE,rV,uI,tX,Bool.and_eq_true,decide_eq_true_eq] at h
 exact ⟨h.1.1.1.1.1.1,h.1.1.1.1.1.2,h.1.1.1.1.2,h.1.1.1.2,h.1.2.1.1.2,h.2.1.1,h.1.2.2,h.1.2.1.2,fH.1 h.1.2.1.1.1,h.2.1.2⟩
theorem iK (n:Int) (l:List ByteArray) (a b c d:Int) (s:ByteArray) (k v:Int) (m:Nat):(base n l a b c d s k v m).size≤71:=by
 have h1:=RA a;have h2:=RA (b-n);have h3:=RA c;have h4:=RA (d-b);have h5:=cC l s;have h6:=QS k;have h7:=RA (v-b);have h8:=QS m
 simp only [base,ByteArray.size_append];omega
end Go.Proofs.Ytklmcfpgdfibnaa.P
namespace Go.Proofs.Ytklmcfpgdfibnaa.P
open Go Go.Proofs.Ytklmcfpgdfibnaa Go.Proofs.Ytklmcfpgdfibnaa.Eng
set_option linter.unusedVariables false
theorem oV {f:J2} {g:J2→Prop} (P:List Value→List (List T)→Prop) (h1: ∀xs cs,P xs cs→f xs cs) (h2: ∀j:J2,(∀xs cs,P xs cs→j xs cs)→g j):BS f g:=h2 f h1
end Go.Proofs.Ytklmcfpgdfibnaa.P
