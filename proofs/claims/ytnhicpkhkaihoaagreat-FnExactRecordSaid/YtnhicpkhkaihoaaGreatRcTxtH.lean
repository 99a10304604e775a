/- A part of the proof. -/
import Derived.Test.YtnhicpkhkaihoaaGreatRcHpR
import Derived.Test.YtnhicpkhkaihoaaGreatRcHpG
namespace Go.Proofs.YtnhicpkhkaihoaaGreat.P
open Go Go.Proofs.YtnhicpkhkaihoaaGreat Go.Proofs.YtnhicpkhkaihoaaGreat.Eng
set_option linter.unusedVariables false
set_option maxHeartbeats 4000000
set_option linter.unusedVariables false
set_option linter.unusedSimpArgs false
attribute [local irreducible] prP gP gE gF AG ixW ldc ldg ldl stc stg scW mkW apW BB cl2 BY FT DG
variable {w0:World}
theorem cH {os:List AZ} {i:Nat} (hi:i<os.length):(os.take (i+1)).map (·.count)=(os.take i).map (·.count)++[(ob os i).count]:=by
 rw [List.take_succ_eq_append_getElem hi,List.map_append,D9 hi];rfl
theorem WY {os:List AZ} {b c d:List T} {K:J2} (hol:os.length=8) (h:K [] [tI (os.map (·.count)),tI (List.replicate 8 0)]):cl2 ⟨Tryz.prog,w0⟩ 172 FP.sg [] [tR tO os,b,c,d] K:=by
 refine FP.cl2 ?_
 unfold FP.txt
 simp only [AK,AQ,AN,AP,AS,AE,AI,AU,AL,AV,AT,AM,AR,AO,BF,BM,BL,BI,BK,BJ,BG,A7,A4,A5,A8,A6,A9]
 refine AY (fun i=>[iv os.length,iv i]) (fun i=>[tI ((os.take i).map (·.count)),tI (List.replicate i 0)]) os.length (fun _=>True) rfl rfl trivial (fun R i hi hP hR=> ?_)
 have hln:((os.take i).map (·.count)).length=i:=by simp;omega
 have hl2:(List.replicate i (0:Int)).length=i:=List.length_replicate
 simp only [AK,AQ,AN,AP,AS,AE,AI,AU,AL,AV,AT,AM,AR,AO,BF,BM,BL,BI,BK,BJ,BG,A7,A4,A5,A8,A6,A9]
 refine AJ (AW (fun hlt=> ?_) fun hge=> ?_)
 ·have hlt:i<os.length:=by omega
  replace hR:=hR hlt trivial
  rw [cH hlt, ←FW,List.replicate_succ', ←FW] at hR
  refine BV (AH hlt (RF hlt ?_))
  simp only [rI]
  exact AJ (CZ (by omega) (FC rfl (by omega) (FC rfl (by omega) (AX (by omega) hR))))
 ·have:i=os.length:=by omega
  subst this
  rw [List.take_length,hol];exact h
theorem WR {os:List AZ} {b c d:List T} {K:J2} (hol:os.length=8) (h:K [] [tI (os.map (·.count)),tI (List.replicate 8 0)]):cl2 ⟨Tryz.prog,w0⟩ 160 F4.sg [] [tR tO os,b,c,d] K:=by
 refine F4.cl2 ?_
 unfold F4.txt
 simp only [AK,AQ,AN,AP,AS,AE,AI,AU,AL,AV,AT,AM,AR,AO,BF,BM,BL,BI,BK,BJ,BG,A7,A4,A5,A8,A6,A9]
 refine AY (fun i=>[iv i]) (fun i=>[tI ((os.take i).map (·.count)),tI (List.replicate i 0)]) os.length (fun _=>True) rfl rfl trivial (fun R i hi hP hR=> ?_)
 have hln:((os.take i).map (·.count)).length=i:=by simp;omega
 have hl2:(List.replicate i (0:Int)).length=i:=List.length_replicate
 simp only [AK,AQ,AN,AP,AS,AE,AI,AU,AL,AV,AT,AM,AR,AO,BF,BM,BL,BI,BK,BJ,BG,A7,A4,A5,A8,A6,A9]
 refine AJ (B2 (NT (fun hlt=> ?_) fun hge=> ?_))
 ·have hlt':i<os.length:=by omega
  replace hR:=hR hlt' trivial
  rw [cH hlt', ←FW,List.replicate_succ', ←FW] at hR
  refine AJ (EE hlt rfl (CZ (by omega) ?_))
  exact AH hlt' (JF (v:=I (ob os i).count) hlt' (by decide) rfl (FC rfl (by omega) (FC rfl (by omega) (AX (by omega) hR))))
 ·have:i=os.length:=by omega
  subst this
  refine EJ hge rfl (BO ?_)
  rw [List.take_length,hol];exact h
theorem aV {cs col:List Int} {W:Nat→Bool} {K:J2} (hl:col.length=8) (hw: ∀k,k<8→(gI col k=2↔W k=true)) (h:K [] [tI (CN W 8)]):cl2 ⟨Tryz.prog,w0⟩ 175 H0.sg [] [tI cs,tI col] K:=by
 refine H0.cl2 ?_
 unfold H0.txt
 simp only [AK,AQ,AN,AP,AS,AE,AI,AU,AL,AV,AT,AM,AR,AO,BF,BM,BL,BI,BK,BJ,BG,A7,A4,A5,A8,A6,A9]
 refine AY (fun i=>[iv col.length,iv i]) (fun i=>[tI (CN W i)]) col.length (fun _=>True) rfl rfl trivial (fun R i hi hP hR=> ?_)
 have hln:(CN W i).length≤i:=NH (fun i=>by split <;> simp) i
 simp only [AK,AQ,AN,AP,AS,AE,AI,AU,AL,AV,AT,AM,AR,AO,BF,BM,BL,BI,BK,BJ,BG,A7,A4,A5,A8,A6,A9]
 refine AJ (AW (fun hlt=> ?_) fun hge=> ?_)
 ·have hlt:i<col.length:=by omega
  replace hR:=hR hlt trivial
  have hwi:=hw i (by omega)
  refine BV (AH hlt (ldI hlt (BW (AW (fun h2=> ?_) fun h2=> ?_))))
  ·have e:CN W (i+1)=CN W i++[(i:Int)]:=by show CN W i++(if W i=true then [(i:Int)] else [])=_;rw [if_pos (hwi.1 h2)]
   rw [e, ←FW] at hR
   exact FC rfl (by omega) (AX (by omega) hR)
  ·have e:CN W (i+1)=CN W i:=by show CN W i++(if W i=true then [(i:Int)] else [])=_;rw [if_neg (fun hh=>h2 (hwi.2 hh)),List.append_nil]
   rw [e] at hR
   exact AX (by omega) hR
 ·have:i=col.length:=by omega
  subst this
  rw [hl];exact h
theorem aY {cs col:List Int} {W:Nat→Bool} {K:J2} (hl:col.length=8) (hw: ∀k,k<8→(gI col k=2↔W k=true)) (h:K [] [tI (CN W 8)]):cl2 ⟨Tryz.prog,w0⟩ 163 HN.sg [] [tI cs,tI col] K:=by
 refine HN.cl2 ?_
 unfold HN.txt
 simp only [AK,AQ,AN,AP,AS,AE,AI,AU,AL,AV,AT,AM,AR,AO,BF,BM,BL,BI,BK,BJ,BG,A7,A4,A5,A8,A6,A9]
 refine AY (fun i=>[iv i]) (fun i=>[tI (CN W i)]) col.length (fun _=>True) rfl rfl trivial (fun R i hi hP hR=> ?_)
 have hln:(CN W i).length≤i:=NH (fun i=>by split <;> simp) i
 simp only [AK,AQ,AN,AP,AS,AE,AI,AU,AL,AV,AT,AM,AR,AO,BF,BM,BL,BI,BK,BJ,BG,A7,A4,A5,A8,A6,A9]
 refine AJ (AW (fun hlt=> ?_) fun hge=> ?_)
 ·have hlt:i<col.length:=by omega
  replace hR:=hR hlt trivial
  have hwi:=hw i (by omega)
  refine BV (AH hlt (ldI hlt (BW (AW (fun h2=> ?_) fun h2=> ?_))))
  ·have e:CN W (i+1)=CN W i++[(i:Int)]:=by show CN W i++(if W i=true then [(i:Int)] else [])=_;rw [if_pos (hwi.1 h2)]
   rw [e, ←FW] at hR
   exact FC rfl (by omega) (AX (by omega) hR)
  ·have e:CN W (i+1)=CN W i:=by show CN W i++(if W i=true then [(i:Int)] else [])=_;rw [if_neg (fun hh=>h2 (hwi.2 hh)),List.append_nil]
   rw [e] at hR
   exact AX (by omega) hR
 ·have:i=col.length:=by omega
  subst this
  rw [hl];exact h
theorem MK.start {os:List AZ} (hol:os.length=8) (hc: ∀o∈os,F64 o.count):MK os (fun i=>(ob os i).count) [] (os.map (·.count)) (List.replicate 8 0):=by
 have hz: ∀k,k<8→gI (List.replicate 8 (0:Int)) k=0:=fun k hk=>by unfold gI;rw [List.getD_eq_getElem?_getD,List.getElem?_replicate,if_pos hk];rfl
 have hcs: ∀i,i<8→gI (os.map (·.count)) i=(ob os i).count:=fun i hi=>by
  rw [←GG (by simp;omega),List.getElem_map,D9 (by omega)]
 have hF: ∀i,i<8→F64 (ob os i).count:=fun i hi=>hc _ (HK (by omega))
 refine ⟨⟨by simp [hol],by simp⟩,fun i hi=>by rw [hcs i hi];exact hF i hi,fun k hk h1=> ?_,fun k hk h1=>⟨hz k hk, ?_⟩,fun i hi=> ?_⟩
 ·rw [hz k hk] at h1;omega
 ·rintro ⟨b,hb,_⟩;simp at hb
 ·have:S os (isC (List.replicate 8 0) 1) i=0:=LO fun k hk=>by unfold isC;rw [hz k hk];rfl
  rw [hcs i hi,this,Int.sub_zero,OT (hF i hi)]
theorem zT {os:List AZ} {W:Nat→Bool} {j:Nat} (hj:j<(CN W 8).length) {x:Nat} (hx:gI (CN W 8) j=(x:Int)):(fun i:Nat=>if ((i:Nat):Int)∈(CN W 8).take (j+1) then CV (ob os i).gen else ob os i)=fun i=>if i=x then CV (ob os x).gen else (if ((i:Nat):Int)∈(CN W 8).take j then CV (ob os i).gen else ob os i):=by
 funext i
 rw [List.take_succ_eq_append_getElem hj,GG hj,hx]
 simp only [List.mem_append,List.mem_singleton]
 by_cases hi:i=x
 ·subst hi;simp
 ·have: ¬(i:Int)=(x:Int):=by omega
  simp [hi,this]
def SP (os:List AZ) (W:Nat→Bool) (i:Nat):AZ:=if W i=true then CV (ob os i).gen else ob os i
theorem m3 (os:List AZ) (W:Nat→Bool) (i:Nat):{SP os W i with purple:=false}=DO os W i:=by
 unfold SP DO
 split <;> rfl
theorem QT (os:List AZ) (W:Nat→Bool) (i:Nat):(H5 os W i).live=(DO os W i).live∧(H5 os W i).gen=(DO os W i).gen∧(H5 os W i).field=(DO os W i).field:=by
 unfold H5;split <;> exact ⟨rfl,rfl,rfl⟩
theorem iN (os:List AZ) (W:Nat→Bool) (i:Nat):(SP os W i).live=(DO os W i).live∧(SP os W i).gen=(DO os W i).gen∧(SP os W i).field=(DO os W i).field:=by
 rw [←m3];exact ⟨rfl,rfl,rfl⟩
theorem iX {os:List AZ} (hof: ∀o∈os,OF o) (hol:os.length=8) (W:Nat→Bool) {i:Nat} (hi:i<8):(DO os W i).field.length=3:=by
 unfold DO
 split
 ·rfl
 ·exact (hof _ (HK (by omega))).len
theorem Z4 {h:Hp} {K:J2} (st:St h) (hc: ∀o∈h.BC,F64 o.count) (hK:K [] [tR tO (OJ h.BC h.buffer).1,tR tW h.B9,[],tS h.sites,tI (OJ h.BC h.buffer).2]):cl2 ⟨Tryz.prog,w0⟩ 131 GR.sg [] (trees h) K:=by
 refine GR.cl2 ?_
 unfold GR.txt
 refine W5 st.fits ?_
 obtain ⟨os,ws,buf,ss⟩:=h
 have hol:os.length=8:=st.ol
 have hof: ∀o∈os,OF o:=st.of
 have hb:buf.length≤100:=st.bl
 have hbf: ∀x∈buf,F64 x:=st.bf
 simp only at hc hK
 simp only [trees]
 obtain ⟨ct,hct⟩: ∃ct:Nat→Int,ct=fun i=>(ob os i).count:=⟨_,rfl⟩
 obtain ⟨W,hW⟩: ∃W,W=NI os ct buf:=⟨_,rfl⟩
 unfold OJ at hK
 rw [←hct, ←hW] at hK
 simp only [AK,AQ,AN,AP,AS,AE,AI,AU,AL,AV,AT,AM,AR,AO,BF,BM,BL,BI,BK,BJ,BG,A7,A4,A5,A8,A6,A9]
 refine B5 (BZ (by omega) (WY hol ?_))
 refine DX (α:=Nat×List Int×List Int) (fun q=>[iv buf.length,iv q.1]) (fun q=>[tR tO os,tR tW ws,tI buf,tS ss,tI q.2.1,tI q.2.2]) (fun q=>buf.length-q.1) (fun q=>q.1≤buf.length∧MK os ct (buf.take q.1) q.2.1 q.2.2) (0,os.map (·.count),List.replicate 8 0) rfl rfl ⟨Nat.zero_le _,by rw [hct];exact MK.start hol hc⟩ (fun R q hq hR=> ?_)
 obtain ⟨i,cs,col⟩:=q
 obtain ⟨hi,mk⟩:=hq
 simp only at hi mk
 simp only [AK,AQ,AN,AP,AS,AE,AI,AU,AL,AV,AT,AM,AR,AO,BF,BM,BL,BI,BK,BJ,BG,A7,A4,A5,A8,A6,A9]
 refine AJ (AW (fun hlt=> ?_) fun hge=> ?_)
 ·have hlt:i<buf.length:=by omega
  have hx:=hbf _ (EZ hlt)
  have nx:=fun cs' col' (m:MK os ct (buf.take i++[gI buf i]) cs' col')=>hR (i+1,cs',col') ⟨by simp only;omega,by simp only;rw [List.take_succ_eq_append_getElem hlt,GG hlt];exact m⟩ (by simp only;omega)
  refine AH hlt (ldI hlt (DF hx (by omega) (WX hol hof mk.len.1 mk.len.2 mk.f (fun hn=> ?_) fun s hs s8 cs' col' p=> ?_)))
  ·exact AX (by omega) (nx _ _ (mk.none hn))
  ·exact AX (by omega) (nx _ _ (mk.some hs s8 p))
 have:i=buf.length:=by omega
 subst this
 rw [List.take_length] at mk
 refine DX (α:=Nat×List Int×List Int) (fun q=>[iv buf.length,iv q.1]) (fun q=>[tR tO os,tR tW ws,tI buf,tS ss,tI q.2.1,tI q.2.2]) (fun q=>buf.length-q.1) (fun q=>q.1≤buf.length∧SC os ct buf (buf.take q.1) q.2.1 q.2.2) (0,cs,col) rfl rfl ⟨Nat.zero_le _,SC.start mk⟩ (fun R q hq hR=> ?_)
 obtain ⟨i,cs,col⟩:=q
 obtain ⟨hi,sc⟩:=hq
 simp only at hi sc
 simp only [AK,AQ,AN,AP,AS,AE,AI,AU,AL,AV,AT,AM,AR,AO,BF,BM,BL,BI,BK,BJ,BG,A7,A4,A5,A8,A6,A9]
 refine AJ (AW (fun hlt=> ?_) fun hge=> ?_)
 ·have hlt:i<buf.length:=by omega
  have hx:=hbf _ (EZ hlt)
  have nx:=fun cs' col' (m:SC os ct buf (buf.take i++[gI buf i]) cs' col')=>hR (i+1,cs',col') ⟨by simp only;omega,by simp only;rw [List.take_succ_eq_append_getElem hlt,GG hlt];exact m⟩ (by simp only;omega)
  refine AH hlt (ldI hlt (DF hx (by omega) (WQ hol hof sc.si (fun hn=> ?_) fun s hs s8 cs' col' p=> ?_)))
  ·exact AX (by omega) (nx _ _ (sc.none hn))
  ·exact AX (by omega) (nx _ _ (sc.some hs s8 p))
 have:i=buf.length:=by omega
 subst this
 rw [List.take_length] at sc
 have wh:=sc.stop
 rw [←hW] at wh
 refine aV sc.si.len.2 wh ?_
 clear hR sc mk
 have hwn:(CN W 8).length≤8:=NH (fun i=>by split <;> simp) 8
 refine AY (fun j=>[iv (CN W 8).length,iv j]) (fun j=>[tI (((CN W 8).take j).map fun x=>C0 x (ob os x.toNat).gen),tI (CN W 8),tR tO (mk8 fun i=>if ((i:Nat):Int)∈(CN W 8).take j then CV (ob os i).gen else ob os i),tR tW ws,tI buf,tS ss]) (CN W 8).length (fun _=>True) (by simp only [AK,AQ,AN,AP,AS,AE,AI,AU,AL,AV,AT,AM,AR,AO,BF,BM,BL,BI,BK,BJ,BG,A7,A4,A5,A8,A6,A9];rfl) ?_ trivial (fun R j hj hP hR=> ?_)
 ·simp only [List.take_zero,List.map_nil,List.not_mem_nil,if_false]
  rw [←YQ hol];rfl
 have hln:(((CN W 8).take j).map fun x=>C0 x (ob os x.toNat).gen).length=j:=by simp;omega
 simp only [AK,AQ,AN,AP,AS,AE,AI,AU,AL,AV,AT,AM,AR,AO,BF,BM,BL,BI,BK,BJ,BG,A7,A4,A5,A8,A6,A9]
 simp only [CJ]
 refine AJ (AW (fun hlt=> ?_) fun hge=> ?_)
 ·have hlt:j<(CN W 8).length:=by omega
  replace hR:=hR hlt trivial
  obtain ⟨x,x8,hx,hwx⟩:=NR.1 (EZ hlt)
  have xl:x<os.length:=by omega
  rw [zT hlt hx,List.take_succ_eq_append_getElem hlt,List.map_append,GG hlt,hx, ←QG x8] at hR
  refine AH hlt (ldI hlt ?_)
  rw [hx]
  refine AH xl (JF (v:=I (ob os x).gen) xl (by decide) rfl (OC (FC rfl (by omega) (AH xl (JF (v:=I (ob os x).gen) xl (by decide) rfl (QV (AH (by omega) ?_)))))))
  refine MN (f:=tO) (by rw [CJ];exact x8) (y:=CV (ob os x).gen) rfl (AX (by omega) ?_)
  simp only [List.map_cons,List.map_nil,Int.toNat_natCast] at hR
  rw [←FW] at hR
  exact hR
 have:j=(CN W 8).length:=by omega
 subst this
 have e1:(fun i:Nat=>if ((i:Nat):Int)∈(CN W 8).take (CN W 8).length then CV (ob os i).gen else ob os i)=fun i=>if ((i:Nat):Int)∈CN W 8 then CV (ob os i).gen else ob os i:=by rw [List.take_length]
 have e2:mk8 (fun i=>if ((i:Nat):Int)∈CN W 8 then CV (ob os i).gen else ob os i)=mk8 (SP os W):=KI fun i hi=>by
  unfold SP
  by_cases hw:W i=true
  ·rw [if_pos hw,if_pos (NR.2 ⟨i,hi,rfl,hw⟩)]
  ·rw [if_neg hw,if_neg fun hm=>hw (by obtain ⟨k,_,h2,h3⟩:=NR.1 hm;have:k=i:=by omega
                                       subst this;exact h3)]
 rw [e1,e2,List.take_length,fP]
 clear hR e1 e2
 refine AY (fun i=>[iv 8,iv i]) (fun i=>[tI (LP os W 8),tR tO (mk8 fun k=>if k<i then H5 os W k else SP os W k),tR tW ws,tI buf,tS ss]) 8 (fun _=>True) rfl rfl trivial (fun R i hi hP hR=> ?_)
 simp only [AK,AQ,AN,AP,AS,AE,AI,AU,AL,AV,AT,AM,AR,AO,BF,BM,BL,BI,BK,BJ,BG,A7,A4,A5,A8,A6,A9]
 simp only [CJ]
 refine AJ (AW (fun hlt=> ?_) fun hge=> ?_)
 ·have hlt:i<8:=by omega
  replace hR:=hR hlt trivial
  have hml:i<(mk8 fun k=>if k<i then H5 os W k else SP os W k).length:=by rw [CJ];exact hlt
  have hoi:(mk8 fun k=>if k<i then H5 os W k else SP os W k)[i]=SP os W i:=by rw [D9 hml,JK hlt,if_neg (by omega)]
  have hset: ∀v,v=H5 os W i→(mk8 fun k=>if k<i then H5 os W k else SP os W k).set i v=mk8 fun k=>if k<i+1 then H5 os W k else SP os W k:=fun v hv=>by
   rw [QG hlt]
   refine KI fun k hk=> ?_
   by_cases h1:k=i
   ·subst h1;rw [if_pos rfl,if_pos (by omega),hv]
   ·rw [if_neg h1]
    by_cases h2:k<i
    ·rw [if_pos h2,if_pos (by omega)]
    ·rw [if_neg h2,if_neg (by omega)]
  have hin: ∀v,v=DO os W i→inE ((mk8 fun k=>if k<i then H5 os W k else SP os W k).set i v) i=inE (mk8 (DO os W)) i:=fun v hv=>by
   rw [QG hlt]
   refine qA (by rw [CJ,CJ]) fun k hk=> ?_
   rw [CJ] at hk
   rw [JK hk,JK hk]
   by_cases h1:k=i
   ·subst h1;rw [if_pos rfl,hv];exact ⟨rfl,rfl,rfl⟩
   ·rw [if_neg h1]
    by_cases h2:k<i
    ·rw [if_pos h2];exact QT os W k
    ·rw [if_neg h2];exact iN os W k
  have hlen3: ∀o∈(mk8 fun k=>if k<i then H5 os W k else SP os W k).set i (DO os W i),(o.field.length:Int)≤1048576:=fun o ho=>by
   rw [QG hlt] at ho
   obtain ⟨k,hk,rfl⟩:=XS ho
   have hm:=iX hof hol W hk
   by_cases h1:k=i
   ·subst h1;rw [if_pos rfl];omega
   ·rw [if_neg h1]
    by_cases h2:k<i
    ·rw [if_pos h2,(QT os W k).2.2];omega
    ·rw [if_neg h2,(iN os W k).2.2];omega
  generalize (mk8 fun k=>if k<i then H5 os W k else SP os W k)=M at hml hoi hset hin hlen3 ⊢
  have hM8:M.length=8:=by have:=congrArg List.length (hset (H5 os W i) rfl);rw [List.length_set,CJ] at this;exact this
  refine BV (AH hlt ?_)
  refine VU (f:=tO) (c:=7) (y:={M[i] with purple:=false}) hml (by decide) rfl rfl ?_
  rw [hoi,m3]
  refine s5 (v:= .bool (DO os W i).live) hml rfl ?_
  cases hv:(DO os W i).live with
  | true=>
    refine B3 (JA (v:=I (DO os W i).holds) hml (by decide) rfl (JA (v:=I (DO os W i).roots) hml (by decide) rfl (I5 ?_)))
    refine X6 ⟨by omega,by omega⟩ (by rw [List.length_set,hM8];decide) hlen3 ?_
    rw [hin _ rfl]
    refine I5 (HD hml ?_)
    rw [hset _ (by unfold H5;rw [if_pos hv])]
    exact AX (by omega) hR
  | false=>
    refine BO ?_
    rw [hset _ (by unfold H5;rw [if_neg (by rw [hv];decide)])]
    exact AX (by omega) hR
 ·have:i=8:=by omega
  subst this
  rw [KI (g:=H5 os W) fun k hk=>if_pos hk]
  exact hK
theorem sG {a b c d e f g:List T} {l:List (List T)}:nxc (a::b::c::d::e::f::g::l) 6=g:=rfl
theorem Y8 {h:Hp} {K:J2} (st:St h) (hc: ∀o∈h.BC,F64 o.count) (hK:K [] [tR tO (OJ h.BC h.buffer).1,tR tW h.B9,[],tS h.sites,tI (OJ h.BC h.buffer).2]):cl2 ⟨Tryz.prog,w0⟩ 108 GW.sg [] (trees h) K:=by
 refine GW.cl2 ?_
 unfold GW.txt
 refine LY st.fits ?_
 obtain ⟨os,ws,buf,ss⟩:=h
 have hol:os.length=8:=st.ol
 have hof: ∀o∈os,OF o:=st.of
 have hb:buf.length≤100:=st.bl
 have hbf: ∀x∈buf,F64 x:=st.bf
 simp only at hc hK
 simp only [trees]
 obtain ⟨ct,hct⟩: ∃ct:Nat→Int,ct=fun i=>(ob os i).count:=⟨_,rfl⟩
 obtain ⟨W,hW⟩: ∃W,W=NI os ct buf:=⟨_,rfl⟩
 unfold OJ at hK
 rw [←hct, ←hW] at hK
 simp only [AK,AQ,AN,AP,AS,AE,AI,AU,AL,AV,AT,AM,AR,AO,BF,BM,BL,BI,BK,BJ,BG,A7,A4,A5,A8,A6,A9]
 refine B5 (BZ (by omega) (WR hol ?_))
 refine DX (α:=Nat×List Int×List Int) (fun q=>[iv q.1]) (fun q=>[[],tR tO os,tR tW ws,tI buf,tS ss,tI q.2.1,tI q.2.2]) (fun q=>buf.length-q.1) (fun q=>q.1≤buf.length∧MK os ct (buf.take q.1) q.2.1 q.2.2) (0,os.map (·.count),List.replicate 8 0) rfl rfl ⟨Nat.zero_le _,by rw [hct];exact MK.start hol hc⟩ (fun R q hq hR=> ?_)
 obtain ⟨i,cs,col⟩:=q
 obtain ⟨hi,mk⟩:=hq
 simp only at hi mk
 simp only [AK,AQ,AN,AP,AS,AE,AI,AU,AL,AV,AT,AM,AR,AO,BF,BM,BL,BI,BK,BJ,BG,A7,A4,A5,A8,A6,A9]
 simp only [sG]
 refine AJ (AW (fun hlt=> ?_) fun hge=> ?_)
 ·have hlt:i<buf.length:=by omega
  have hx:=hbf _ (EZ hlt)
  have nx:=fun cs' col' (m:MK os ct (buf.take i++[gI buf i]) cs' col')=>hR (i+1,cs',col') ⟨by simp only;omega,by simp only;rw [List.take_succ_eq_append_getElem hlt,GG hlt];exact m⟩ (by simp only;omega)
  refine AH hlt (ldI hlt (CP hx (by omega) (XD hol hof mk.len.1 mk.len.2 mk.f (fun hn=> ?_) fun s hs s8 cs' col' p=> ?_)))
  ·exact AX (by omega) (nx _ _ (mk.none hn))
  ·exact AX (by omega) (nx _ _ (mk.some hs s8 p))
 have:i=buf.length:=by omega
 subst this
 rw [List.take_length] at mk
 refine DX (α:=Nat×List Int×List Int) (fun q=>[iv q.1]) (fun q=>[[],tR tO os,tR tW ws,tI buf,tS ss,tI q.2.1,tI q.2.2]) (fun q=>buf.length-q.1) (fun q=>q.1≤buf.length∧SC os ct buf (buf.take q.1) q.2.1 q.2.2) (0,cs,col) rfl rfl ⟨Nat.zero_le _,SC.start mk⟩ (fun R q hq hR=> ?_)
 obtain ⟨i,cs,col⟩:=q
 obtain ⟨hi,sc⟩:=hq
 simp only at hi sc
 simp only [AK,AQ,AN,AP,AS,AE,AI,AU,AL,AV,AT,AM,AR,AO,BF,BM,BL,BI,BK,BJ,BG,A7,A4,A5,A8,A6,A9]
 simp only [sG]
 refine AJ (AW (fun hlt=> ?_) fun hge=> ?_)
 ·have hlt:i<buf.length:=by omega
  have hx:=hbf _ (EZ hlt)
  have nx:=fun cs' col' (m:SC os ct buf (buf.take i++[gI buf i]) cs' col')=>hR (i+1,cs',col') ⟨by simp only;omega,by simp only;rw [List.take_succ_eq_append_getElem hlt,GG hlt];exact m⟩ (by simp only;omega)
  refine AH hlt (ldI hlt (CP hx (by omega) (WS hol hof sc.si (fun hn=> ?_) fun s hs s8 cs' col' p=> ?_)))
  ·exact AX (by omega) (nx _ _ (sc.none hn))
  ·exact AX (by omega) (nx _ _ (sc.some hs s8 p))
 have:i=buf.length:=by omega
 subst this
 rw [List.take_length] at sc
 have wh:=sc.stop
 rw [←hW] at wh
 refine aY sc.si.len.2 wh ?_
 clear hR sc mk
 have hwn:(CN W 8).length≤8:=NH (fun i=>by split <;> simp) 8
 refine AY (fun i=>[iv i]) (fun i=>[tI (LP os W i),tI (CN W 8),tR tO (mk8 fun k=>if k<i then DO os W k else ob os k),tR tW ws,tI buf,tS ss]) 8 (fun _=>True) rfl ?_ trivial (fun R i hi hP hR=> ?_)
 ·simp only [Nat.not_lt_zero,if_false]
  rw [←YQ hol];rfl
 have hln:(LP os W i).length≤i:=NH (fun i=>by split <;> simp) i
 simp only [AK,AQ,AN,AP,AS,AE,AI,AU,AL,AV,AT,AM,AR,AO,BF,BM,BL,BI,BK,BJ,BG,A7,A4,A5,A8,A6,A9]
 simp only [sG,CJ]
 refine AJ (AW (fun hlt=> ?_) fun hge=> ?_)
 ·have hlt:i<8:=by omega
  replace hR:=hR hlt trivial
  have hml:i<(mk8 fun k=>if k<i then DO os W k else ob os k).length:=by rw [CJ];exact hlt
  have hoi:(mk8 fun k=>if k<i then DO os W k else ob os k)[i]=ob os i:=by rw [D9 hml,JK hlt,if_neg (by omega)]
  have hset: ∀v,v=DO os W i→(mk8 fun k=>if k<i then DO os W k else ob os k).set i v=mk8 fun k=>if k<i+1 then DO os W k else ob os k:=fun v hv=>by
   rw [QG hlt]
   refine KI fun k hk=> ?_
   by_cases h1:k=i
   ·subst h1;rw [if_pos rfl,if_pos (by omega),hv]
   ·rw [if_neg h1]
    by_cases h2:k<i
    ·rw [if_pos h2,if_pos (by omega)]
    ·rw [if_neg h2,if_neg (by omega)]
  generalize (mk8 fun k=>if k<i then DO os W k else ob os k)=M at hml hoi hset ⊢
  have hM8:M.length=8:=by have:=congrArg List.length (hset (DO os W i) rfl);rw [List.length_set,CJ] at this;exact this
  have io:i<os.length:=by omega
  refine BV (AH hlt ?_)
  refine VU (f:=tO) (c:=7) (y:={M[i] with purple:=false}) hml (by decide) rfl rfl ?_
  rw [hoi]
  refine PX (by omega) (AW (fun hm=> ?_) fun hm=> ?_)
  ·have hw:W i=true:=by
    obtain ⟨k,_,h2,h3⟩:=NR.1 hm
    have:k=i:=by omega
    subst this;exact h3
   have ef:LP os W (i+1)=LP os W i++[C0 i (ob os i).gen]:=by show LP os W i++(if W i=true then [C0 i (ob os i).gen] else [])=_;rw [if_pos hw]
   rw [ef, ←FW, ←hset (CV (ob os i).gen) (by unfold DO;rw [if_pos hw])] at hR
   refine AH io (JF (v:=I (ob os i).gen) io (by decide) rfl (MG (FC rfl (by omega) (AH io (JF (v:=I (ob os i).gen) io (by decide) rfl (KE ?_))))))
   simp only [AK,AQ,AN,AP,AS,AE,AI,AU,AL,AV,AT,AM,AR,AO,BF,BM,BL,BI,BK,BJ,BG,A7,A4,A5,A8,A6,A9]
   simp only [List.length_set,hM8]
   refine AH hlt (MN (f:=tO) (by rw [List.length_set];exact hml) (y:=CV (ob os i).gen) rfl ?_)
   rw [List.set_set]
   exact AX (by omega) hR
  ·have hw: ¬W i=true:=fun hw=>hm (NR.2 ⟨i,hlt,rfl,hw⟩)
   have ef:LP os W (i+1)=LP os W i:=by show LP os W i++(if W i=true then [C0 i (ob os i).gen] else [])=_;rw [if_neg hw,List.append_nil]
   rw [ef, ←hset {ob os i with purple:=false} (by unfold DO;rw [if_neg hw])] at hR
   exact AX (by omega) hR
 have:i=8:=by omega
 subst this
 rw [KI (g:=DO os W) fun k hk=>if_pos hk]
 clear hR
 refine AY (fun i=>[iv i]) (fun i=>[tI (LP os W 8),tR tO (mk8 fun k=>if k<i then H5 os W k else DO os W k),tR tW ws,tI buf,tS ss]) 8 (fun _=>True) rfl rfl trivial (fun R i hi hP hR=> ?_)
 simp only [AK,AQ,AN,AP,AS,AE,AI,AU,AL,AV,AT,AM,AR,AO,BF,BM,BL,BI,BK,BJ,BG,A7,A4,A5,A8,A6,A9]
 simp only [CJ]
 refine AJ (AW (fun hlt=> ?_) fun hge=> ?_)
 ·have hlt:i<8:=by omega
  replace hR:=hR hlt trivial
  have hml:i<(mk8 fun k=>if k<i then H5 os W k else DO os W k).length:=by rw [CJ];exact hlt
  have hoi:(mk8 fun k=>if k<i then H5 os W k else DO os W k)[i]=DO os W i:=by rw [D9 hml,JK hlt,if_neg (by omega)]
  have hset: ∀v,v=H5 os W i→(mk8 fun k=>if k<i then H5 os W k else DO os W k).set i v=mk8 fun k=>if k<i+1 then H5 os W k else DO os W k:=fun v hv=>by
   rw [QG hlt]
   refine KI fun k hk=> ?_
   by_cases h1:k=i
   ·subst h1;rw [if_pos rfl,if_pos (by omega),hv]
   ·rw [if_neg h1]
    by_cases h2:k<i
    ·rw [if_pos h2,if_pos (by omega)]
    ·rw [if_neg h2,if_neg (by omega)]
  have hin:inE (mk8 fun k=>if k<i then H5 os W k else DO os W k) i=inE (mk8 (DO os W)) i:=by
   refine qA (by rw [CJ,CJ]) fun k hk=> ?_
   rw [CJ] at hk
   rw [JK hk,JK hk]
   by_cases h2:k<i
   ·rw [if_pos h2];exact QT os W k
   ·rw [if_neg h2];exact ⟨rfl,rfl,rfl⟩
  have hlen3: ∀o∈(mk8 fun k=>if k<i then H5 os W k else DO os W k),(o.field.length:Int)≤1048576:=fun o ho=>by
   obtain ⟨k,hk,rfl⟩:=XS ho
   have hm:=iX hof hol W hk
   by_cases h2:k<i
   ·rw [if_pos h2,(QT os W k).2.2];omega
   ·rw [if_neg h2];omega
  generalize (mk8 fun k=>if k<i then H5 os W k else DO os W k)=M at hml hoi hset hin hlen3 ⊢
  have hM8:M.length=8:=by have:=congrArg List.length (hset (H5 os W i) rfl);rw [List.length_set,CJ] at this;exact this
  have hMs:M=M.set i (DO os W i):=by rw [←hoi,List.set_getElem_self]
  refine BV (AH hlt ?_)
  cases hv:(DO os W i).live with
  | true=>
    refine QC (f:=tO) (v:= .bool true) hml (by rw [hoi];simp [tO,hv]) (B3 (AH hlt ?_))
    refine QD (f:=tO) (v:=I (DO os W i).holds) hml (by decide) (by rw [hoi];rfl) (AH hlt ?_)
    refine QD (f:=tO) (v:=I (DO os W i).roots) hml (by decide) (by rw [hoi];rfl) (I5 ?_)
    refine Q1 ⟨by omega,by omega⟩ (by rw [hM8];decide) hlen3 ?_
    rw [hin]
    refine I5 (AH hlt ?_)
    rw [hMs]
    refine HD hml ?_
    rw [hset _ (by unfold H5;rw [if_pos hv])]
    exact AX (by omega) hR
  | false=>
    refine QC (f:=tO) (v:= .bool false) hml (by rw [hoi];simp [tO,hv]) (BO ?_)
    rw [hMs,hset _ (by unfold H5;rw [if_neg (by rw [hv];decide)])]
    exact AX (by omega) hR
 ·have:i=8:=by omega
  subst this
  rw [KI (g:=H5 os W) fun k hk=>if_pos hk]
  exact hK
end Go.Proofs.YtnhicpkhkaihoaaGreat.P
namespace Go.Proofs.YtnhicpkhkaihoaaGreat.P
open Go Go.Proofs.YtnhicpkhkaihoaaGreat Go.Proofs.YtnhicpkhkaihoaaGreat.Eng
set_option linter.unusedVariables false
set_option maxHeartbeats 4000000
set_option linter.unusedVariables false
set_option linter.unusedSimpArgs false
attribute [local irreducible] prP gP gE gF AG ixW ldc ldg ldl stc stg scW mkW apW BB cl2 BY FT DG
variable {w0:World}
noncomputable def KJ (h:Hp) (o:Op5):Hp×An:=
 if o.kind=1 then (⟨(GJ h.BC h.sites o.site).1,h.B9,h.buffer,(GJ h.BC h.sites o.site).2.1⟩,(GJ h.BC h.sites o.site).2.2) else
 if o.kind=2∨o.kind=3∨o.kind=5∨o.kind=6 then (⟨(JQ h.BC h.buffer o.kind o.a).1,h.B9,(JQ h.BC h.buffer o.kind o.a).2.1,h.sites⟩,(JQ h.BC h.buffer o.kind o.a).2.2) else
 if o.kind=4 then (⟨(HC h.BC h.buffer o.a o.b o.c).1,h.B9,(HC h.BC h.buffer o.a o.b o.c).2.1,h.sites⟩,(HC h.BC h.buffer o.a o.b o.c).2.2) else
 if o.kind=7 then (⟨h.BC,(MS h.BC h.B9 o.a).1,h.buffer,h.sites⟩,(MS h.BC h.B9 o.a).2) else
 if o.kind=8∨o.kind=9 then (⟨h.BC,(IB h.BC h.B9 o.kind o.a).1,h.buffer,h.sites⟩,(IB h.BC h.B9 o.kind o.a).2) else
 if o.kind=10 then (⟨(OJ h.BC h.buffer).1,h.B9,[],h.sites⟩,⟨0,0,(OJ h.BC h.buffer).2⟩) else (h,⟨2,0,[]⟩)
theorem lO {α:Type} [Inhabited α] {l:List α} (h: ∀i (hi:i<l.length),l[i]∉l.take i):l.Nodup:=by
 refine List.pairwise_iff_getElem.2 fun i j hi hj hij he=>h j hj ?_
 rw [←he]
 exact List.mem_take_iff_getElem.2 ⟨i,by omega,rfl⟩
theorem few {n:Nat}: ∀{l:List Int} (g:Int→Nat),l.Nodup→(∀x∈l,g x<n)→(∀x∈l, ∀y∈l,g x=g y→x=y)→l.length≤n:=by
 induction n with
 | zero=>
   intro l g _ h _
   cases l with
   | nil=>simp
   | cons x l=>exact absurd (h x (by simp)) (by omega)
 | succ n ih=>
   intro l g hn h hi
   by_cases hx: ∃x∈l,g x=n
   ·obtain ⟨x,hx,hg⟩:=hx
    have:=ih (l:=l.erase x) g (hn.erase x) (fun y hy=>by
     have hy':=List.mem_of_mem_erase hy
     have:=h y hy'
     have hne:g y≠n:=fun he=>by
      have:y=x:=hi y hy' x hx (by omega)
      subst this
      exact (List.Nodup.not_mem_erase hn) hy
     omega) fun y hy z hz=>hi y (List.mem_of_mem_erase hy) z (List.mem_of_mem_erase hz)
    rw [List.length_erase_of_mem hx] at this
    omega
   ·have:=ih g hn (fun y hy=>by
     have:=h y hy
     have:g y≠n:=fun he=>hx ⟨y,hy,he⟩
     omega) hi
    omega
theorem DZ.bnd {h:Hp} (hk:DZ h):h.buffer.Nodup:=lO fun i hi=>by rw [GG hi];exact (hk.buf i hi).2
theorem DZ.X4 {h:Hp} (hk:DZ h) {x:Int} (hx:x∈h.buffer):0≤AB h.BC x:=by
 obtain ⟨i,hi,rfl⟩:=List.getElem_of_mem hx
 rw [GG hi];exact (hk.buf i hi).1
theorem l6 {l:List AZ} {x y:Int} (hx:0≤AB l x) (hy:0≤AB l y) (h:AB l x=AB l y):x=y:=by
 have a:=BN hx;have b:=BN hy
 have e1:=a.2.2.2.2.2;have e2:=b.2.2.2.2.2
 rw [h] at e1
 omega
theorem DZ.Am {h:Hp} (hk:DZ h):h.buffer.length≤8:=
 few (fun x=>(AB h.BC x).toNat) hk.bnd (fun x hx=>(BN (hk.X4 hx)).2.2.2.1) fun x hx y hy he=>l6 (hk.X4 hx) (hk.X4 hy) (by have:=hk.X4 hx;have:=hk.X4 hy;omega)
theorem DZ.st {h:Hp} (hk:DZ h) (hn:Z3 h):St h:=by
 refine ⟨hk.ol,hk.wl,hk.sites.len,by have:=hk.Am;omega,fun o ho=> ?_,fun s hs=> ?_,hn.weak,hn.buf⟩
 ·obtain ⟨i,hi,rfl⟩:=List.getElem_of_mem ho
  have hi8:i<8:=by have:=hk.ol;omega
  have:=hn.obj _ ho
  rw [D9 hi] at this ⊢
  exact ⟨this.1,(hk.obj i hi8).len,this.2.2.2.2.2⟩
 ·obtain ⟨i,hi,rfl⟩:=List.getElem_of_mem hs
  have:=(hk.sites.sz i hi).2
  rw [S7 hi];omega
theorem DZ.hr {h:Hp} (hk:DZ h) (i:Nat):(0≤(ob h.BC i).holds∧(ob h.BC i).holds≤20)∧(0≤(ob h.BC i).roots∧(ob h.BC i).roots≤20):=by
 by_cases hi:i<8
 ·cases hv:(ob h.BC i).live with
  | true=>exact ⟨((hk.obj i hi).lv hv).2.2.1,((hk.obj i hi).lv hv).2.2.2.1⟩
  | false=>have:=(hk.obj i hi).dead hv;omega
 ·have:ob h.BC i=⟨false,0,0,0,0,0,[],false⟩:=by unfold ob;rw [List.getD_eq_getElem?_getD,List.getElem?_eq_none (by have:=hk.ol;omega)];rfl
  rw [this];simp
theorem DZ.fd {h:Hp} (hk:DZ h) (i:Nat): ∀f∈(ob h.BC i).field,f= -1∨0≤f:=by
 intro f hf
 by_cases hi:i<8
 ·obtain ⟨j,hj,rfl⟩:=List.getElem_of_mem hf
  have ho:=hk.obj i hi
  by_cases h1:gI (ob h.BC i).field j= -1
  ·left;rw [GG hj];exact h1
  ·right
   have:=BN (ho.lead j (by have:=ho.len;omega) h1).2
   rw [GG hj];omega
 ·have:ob h.BC i=⟨false,0,0,0,0,0,[],false⟩:=by unfold ob;rw [List.getD_eq_getElem?_getD,List.getElem?_eq_none (by have:=hk.ol;omega)];rfl
  rw [this] at hf;simp at hf
theorem kinds (k:Int):k=1∨(k=2∨k=3∨k=5∨k=6)∨k=4∨k=7∨(k=8∨k=9)∨k=10∨ ¬(k=1∨k=2∨k=3∨k=4∨k=5∨k=6∨k=7∨k=8∨k=9∨k=10):=by omega
theorem fT {h:Hp} {o:Op5} {K:J2} (hk:DZ h) (hn:Z3 h) (ha:F64 o.a) (hc:F64 o.c) (hK:K [I (KJ h o).2.code,I (KJ h o).2.val] (tI (KJ h o).2.freed::trees (KJ h o).1)):cl2 ⟨Tryz.prog,w0⟩ 73 D4.sg [I o.kind,I o.a,I o.b,I o.c, .string o.site] (trees h) K:=by
 have st:=hk.st hn
 have hr:=hk.hr
 refine D4.cl2 ?_
 unfold D4.txt
 obtain ⟨os,ws,buf,ss⟩:=h
 obtain ⟨kd,a,b,c,s⟩:=o
 have hol:os.length=8:=st.ol
 have hof: ∀o∈os,OF o:=st.of
 have hb:buf.length≤100:=st.bl
 simp only at ha hc hr
 simp only [trees]
 unfold KJ at hK
 simp only at hK
 rcases kinds kd with rfl | hkd | rfl | rfl | hkd | rfl | hkd
 ·rw [if_pos rfl] at hK
  exact BW (CZ rfl (eB hol st.sl hK))
 ·rw [if_neg (by omega),if_pos hkd] at hK
  have cc:=fun {K:J2}=>YI (w0:=w0) (os:=os) (buf:=buf) (b:=tR tW ws) (d:=tS ss) (kind:=kd) (id:=a) (K:=K) hol hof hb ha hkd hr
  rcases hkd with rfl | rfl | rfl | rfl
  all_goals
   repeat' (first | refine BV ?_ | refine B3 ?_ | refine BO ?_ | refine BW ?_ | simp only [AK,AQ,AN,AP,AS,AE,AI,AU,AL,AV,AT,AM,AR,AO,BF,BM,BL,BI,BK,BJ,BG,A7,A4,A5,A8,A6,A9])
   exact cc hK
 ·simp only [if_neg (show ¬(4:Int)=1 by decide),if_neg (show ¬((4:Int)=2∨(4:Int)=3∨(4:Int)=5∨(4:Int)=6) by decide),if_true] at hK
  repeat' (first | refine BV ?_ | refine B3 ?_ | refine BO ?_ | refine BW ?_ | simp only [AK,AQ,AN,AP,AS,AE,AI,AU,AL,AV,AT,AM,AR,AO,BF,BM,BL,BI,BK,BJ,BG,A7,A4,A5,A8,A6,A9])
  exact eG hol hof hb ha hc hK
 ·simp only [if_neg (show ¬(7:Int)=1 by decide),if_neg (show ¬((7:Int)=2∨(7:Int)=3∨(7:Int)=5∨(7:Int)=6) by decide),if_neg (show ¬(7:Int)=4 by decide),if_true] at hK
  repeat' (first | refine BV ?_ | refine B3 ?_ | refine BO ?_ | refine BW ?_ | simp only [AK,AQ,AN,AP,AS,AE,AI,AU,AL,AV,AT,AM,AR,AO,BF,BM,BL,BI,BK,BJ,BG,A7,A4,A5,A8,A6,A9])
  exact gH hol st.wl ha hK
 ·rw [if_neg (by omega),if_neg (by omega),if_neg (by omega),if_neg (by omega),if_pos hkd] at hK
  rcases hkd with rfl | rfl
  all_goals
   repeat' (first | refine BV ?_ | refine B3 ?_ | refine BO ?_ | refine BW ?_ | simp only [AK,AQ,AN,AP,AS,AE,AI,AU,AL,AV,AT,AM,AR,AO,BF,BM,BL,BI,BK,BJ,BG,A7,A4,A5,A8,A6,A9])
   exact aT hol st.wl ha st.wf hK
 ·simp only [if_neg (show ¬(10:Int)=1 by decide),if_neg (show ¬((10:Int)=2∨(10:Int)=3∨(10:Int)=5∨(10:Int)=6) by decide),if_neg (show ¬(10:Int)=4 by decide),if_neg (show ¬(10:Int)=7 by decide),if_neg (show ¬((10:Int)=8∨(10:Int)=9) by decide),if_true] at hK
  repeat' (first | refine BV ?_ | refine B3 ?_ | refine BO ?_ | refine BW ?_ | simp only [AK,AQ,AN,AP,AS,AE,AI,AU,AL,AV,AT,AM,AR,AO,BF,BM,BL,BI,BK,BJ,BG,A7,A4,A5,A8,A6,A9])
  exact Z4 st (fun o ho=>(hn.obj o ho).2.2.2.2.1) hK
 ·rw [if_neg (by omega),if_neg (by omega),if_neg (by omega),if_neg (by omega),if_neg (by omega),if_neg (by omega)] at hK
  repeat' (first | refine BV ?_ | refine BZ (by first | with_reducible assumption | omega) ?_ | refine BW ?_ | simp only [AK,AQ,AN,AP,AS,AE,AI,AU,AL,AV,AT,AM,AR,AO,BF,BM,BL,BI,BK,BJ,BG,A7,A4,A5,A8,A6,A9])
  all_goals first | exact B7 hK | (exfalso;omega)
end Go.Proofs.YtnhicpkhkaihoaaGreat.P
namespace Go.Proofs.YtnhicpkhkaihoaaGreat.P
open Go Go.Proofs.YtnhicpkhkaihoaaGreat Go.Proofs.YtnhicpkhkaihoaaGreat.Eng
set_option linter.unusedVariables false
set_option maxHeartbeats 4000000
set_option linter.unusedVariables false
set_option linter.unusedSimpArgs false
attribute [local irreducible] prP gP gE gF AG ixW ldc ldg ldl stc stg scW mkW apW BB cl2 BY FT DG
variable {w0:World}
open Classical in
noncomputable def RO (h:Hp) (o:Op5):Hp×An:=if DZ h then KJ h o else (h,⟨2,0,[]⟩)
theorem jI {h:Hp} {o:Op5} (hk:DZ h):RO h o=KJ h o:=by unfold RO;rw [if_pos hk]
theorem s6 {h:Hp} {o:Op5} (hk: ¬DZ h):RO h o=(h,⟨2,0,[]⟩):=by unfold RO;rw [if_neg hk]
theorem fA {h:Hp} {o:Op5} {K:J2} (hf:Fits h) (hn:Z3 h) (ha:F64 o.a) (hc:F64 o.c) (hK:K [I (RO h o).2.code,I (RO h o).2.val] (trees (RO h o).1++[tI (RO h o).2.freed])):cl2 ⟨Tryz.prog,w0⟩ 53 IX.sg [I o.kind,I o.a,I o.b,I o.c, .string o.site] (trees h) K:=by
 refine IX.cl2 ?_
 unfold IX.txt
 refine LY hf (bB hf hn (fun hk=>BP (BO ?_)) fun hk=>BP (B3 ?_))
 rotate_left
 ·rw [s6 hk] at hK
  exact hK
 rw [jI hk] at hK
 have st:=hk.st hn
 have hr:=hk.hr
 have hfd:=hk.fd
 have hss:=hk.sites
 have hcn: ∀o∈h.BC,F64 o.count:=fun o ho=>(hn.obj o ho).2.2.2.2.1
 clear hf hk
 obtain ⟨kd,a,b,c,s⟩:=o
 have hol:h.BC.length=8:=st.ol
 simp only at ha hc hr
 unfold KJ at hK
 simp only at hK
 have hold:=fun {K:J2} (hkd:kd=2∨kd=3∨kd=5∨kd=6)=>aU (w0:=w0) (h:=h) (kind:=kd) (id:=a) (b:=b) (c:=c) (s:=s) (K:=K) st ha hkd hr
 have store:=fun {K:J2}=>Z6 (w0:=w0) (h:=h) (a0:=kd) (a1:=a) (a2:=b) (a3:=c) (s:=s) (K:=K) st ha hc hfd
 have uU:=fun {K:J2}=>Y8 (w0:=w0) (h:=h) (K:=K) st hcn
 have weak:=fun {K:J2}=>bH (w0:=w0) (os:=h.BC) (ws:=h.B9) (cc:=tI h.buffer) (d:=tS h.sites) (kind:=kd) (k:=a) (b:=b) (c:=c) (s:=s) (K:=K) hol st.wl ha st.wf
 simp only [trees] at hold store uU ⊢
 rcases kinds kd with rfl | hkd | rfl | rfl | hkd | rfl | hkd
 ·rw [if_pos rfl] at hK
  exact BW (CZ rfl (YA hol hss hK))
 ·rw [if_neg (by omega),if_pos hkd] at hK
  replace hold:=fun {K:J2}=>hold (K:=K) hkd
  rcases hkd with rfl | rfl | rfl | rfl
  all_goals
   repeat' (first | refine BV ?_ | refine B3 ?_ | refine BO ?_ | refine BW ?_ | simp only [AK,AQ,AN,AP,AS,AE,AI,AU,AL,AV,AT,AM,AR,AO,BF,BM,BL,BI,BK,BJ,BG,A7,A4,A5,A8,A6,A9])
   exact hold hK
 ·simp only [if_neg (show ¬(4:Int)=1 by decide),if_neg (show ¬((4:Int)=2∨(4:Int)=3∨(4:Int)=5∨(4:Int)=6) by decide),if_true] at hK
  repeat' (first | refine BV ?_ | refine B3 ?_ | refine BO ?_ | refine BW ?_ | simp only [AK,AQ,AN,AP,AS,AE,AI,AU,AL,AV,AT,AM,AR,AO,BF,BM,BL,BI,BK,BJ,BG,A7,A4,A5,A8,A6,A9])
  exact store hK
 ·simp only [if_neg (show ¬(7:Int)=1 by decide),if_neg (show ¬((7:Int)=2∨(7:Int)=3∨(7:Int)=5∨(7:Int)=6) by decide),if_neg (show ¬(7:Int)=4 by decide),if_true] at hK
  repeat' (first | refine BV ?_ | refine B3 ?_ | refine BO ?_ | refine BW ?_ | simp only [AK,AQ,AN,AP,AS,AE,AI,AU,AL,AV,AT,AM,AR,AO,BF,BM,BL,BI,BK,BJ,BG,A7,A4,A5,A8,A6,A9])
  exact weak (fun _=>hK) (fun hh=>absurd rfl hh)
 ·rw [if_neg (by omega),if_neg (by omega),if_neg (by omega),if_neg (by omega),if_pos hkd] at hK
  rcases hkd with rfl | rfl
  all_goals
   repeat' (first | refine BV ?_ | refine B3 ?_ | refine BO ?_ | refine BW ?_ | simp only [AK,AQ,AN,AP,AS,AE,AI,AU,AL,AV,AT,AM,AR,AO,BF,BM,BL,BI,BK,BJ,BG,A7,A4,A5,A8,A6,A9])
   exact weak (fun hh=>absurd hh (by decide)) (fun _=>hK)
 ·simp only [if_neg (show ¬(10:Int)=1 by decide),if_neg (show ¬((10:Int)=2∨(10:Int)=3∨(10:Int)=5∨(10:Int)=6) by decide),if_neg (show ¬(10:Int)=4 by decide),if_neg (show ¬(10:Int)=7 by decide),if_neg (show ¬((10:Int)=8∨(10:Int)=9) by decide),if_true] at hK
  repeat' (first | refine BV ?_ | refine B3 ?_ | refine BO ?_ | refine BW ?_ | simp only [AK,AQ,AN,AP,AS,AE,AI,AU,AL,AV,AT,AM,AR,AO,BF,BM,BL,BI,BK,BJ,BG,A7,A4,A5,A8,A6,A9])
  exact uU hK
 ·rw [if_neg (by omega),if_neg (by omega),if_neg (by omega),if_neg (by omega),if_neg (by omega),if_neg (by omega)] at hK
  repeat' (first | refine BV ?_ | refine BZ (by first | with_reducible assumption | omega) ?_ | refine BW ?_ | simp only [AK,AQ,AN,AP,AS,AE,AI,AU,AL,AV,AT,AM,AR,AO,BF,BM,BL,BI,BK,BJ,BG,A7,A4,A5,A8,A6,A9])
  all_goals first | exact hK | (exfalso;omega)
end Go.Proofs.YtnhicpkhkaihoaaGreat.P
namespace Go.Proofs.YtnhicpkhkaihoaaGreat.P
open Go Go.Proofs.YtnhicpkhkaihoaaGreat Go.Proofs.YtnhicpkhkaihoaaGreat.Eng
set_option linter.unusedVariables false
def okE (n:Int) (l:List ByteArray) (a b c d:Int) (s:ByteArray) (k v:Int) (xs:List Int):Bool:=(eS a b c d s&&UO k v xs)&&VH n l
def Fx (q:ByteArray×Int) (x:Int):ByteArray×Int:=(q.1++SI (x-q.2),x)
def base (n:Int) (l:List ByteArray) (a b c d:Int) (s:ByteArray) (k v:Int) (m:Nat):ByteArray:=((((((SI a++SI (b-n))++SI c)++SI (d-b))++U7 l s)++V k)++SI (v-b))++V m
def stE (p:ByteArray×Int) (xs:List Int) (i:Nat):ByteArray×Int:=(xs.take i).foldl Fx p
theorem YX {p:ByteArray×Int} {xs:List Int} {i:Nat} (hi:i<xs.length):stE p xs (i+1)=Fx (stE p xs i) xs[i]:=by
 rw [stE,List.take_succ_eq_append_getElem hi,List.foldl_append];rfl
theorem eO {p:ByteArray×Int} {xs:List Int} (hp:LG p.2=true) (hx:xs.all LG=true): ∀i,i≤xs.length→LG (stE p xs i).2=true∧(stE p xs i).1.size≤p.1.size+7*i
 | 0,_=>⟨hp,Nat.le_refl _⟩
 | i+1,hi=>by
   obtain ⟨h1,h2⟩:=eO hp hx i (by omega)
   rw [YX (by omega)]
   refine ⟨List.all_eq_true.1 hx _ (List.getElem_mem _), ?_⟩
   have:=HI (zg (xs[i]-(stE p xs i).2))
   simp only [Fx,ByteArray.size_append,SI];omega
theorem TF (l:List ByteArray) (s:ByteArray):(U7 l s).size≤22:=by
 unfold U7;split
 ·have:=HI (at_ l s+1);omega
 ·have h1:=HI 0
  have h2:=fU s
  rw [ByteArray.size_append];omega
theorem HQ (n:Int):(SI n).size≤7:=HI _
theorem KB {n:Int} (h:LG n=true): -1000000000≤n∧n≤1000000000:=P6.1 h
def OP (n:Int) (l:List ByteArray) (a b c d:Int) (s:ByteArray) (k v:Int) (xs:List Int):ByteArray×Int×List ByteArray:=
 if okE n l a b c d s k v xs then ((stE (base n l a b c d s k v xs.length,b) xs xs.length).1,b,bC l s) else (⟨#[]⟩,n,l)
theorem UE {n:Int} {l:List ByteArray} {a b c d:Int} {s:ByteArray} {k v:Int} {xs:List Int} (h:okE n l a b c d s k v xs=true):LG a=true∧LG b=true∧LG c=true∧LG d=true∧LG v=true∧LG n=true∧xs.all LG=true∧xs.length≤8∧(0≤k∧k≤6)∧l.length≤400:=by
 simp only [okE,eS,UO,VH,Bool.and_eq_true,decide_eq_true_eq] at h
 exact ⟨h.1.1.1.1.1.1,h.1.1.1.1.1.2,h.1.1.1.1.2,h.1.1.1.2,h.1.2.1.1.2,h.2.1.1,h.1.2.2,h.1.2.1.2,P6.1 h.1.2.1.1.1,h.2.1.2⟩
theorem VG (n:Int) (l:List ByteArray) (a b c d:Int) (s:ByteArray) (k v:Int) (m:Nat):(base n l a b c d s k v m).size≤71:=by
 have h1:=HQ a;have h2:=HQ (b-n);have h3:=HQ c;have h4:=HQ (d-b);have h5:=TF l s;have h6:=HI k;have h7:=HQ (v-b);have h8:=HI m
 simp only [base,ByteArray.size_append];omega
theorem VB {w0:World} {n:Int} {l:List ByteArray} {a b c d:Int} {s:ByteArray} {k v:Int} {xs:List Int} {K:J2} (hl:l.length<2^40) (hx:(xs.length:Int)<2^62)
  (h:K [.string (OP n l a b c d s k v xs).1,I (OP n l a b c d s k v xs).2.1] [tS (OP n l a b c d s k v xs).2.2]):cl2 ⟨Tryz.prog,w0⟩ 74 EY.sg [I n,I a,I b,I c,I d, .string s,I k,I v] [tS l,tI xs] K:=by
 refine EY.cl2 ?_
 unfold EY.txt
 simp only [AI,AE]
 refine V1 (BP (HL (Y5 (fun _ K hk=>S9 hx hk) (HL (Y5 (fun _ K hk=>W7 (by omega) hk) (JJ (fun hb=> ?_) fun hb=> ?_))))))
 ·have hno:okE n l a b c d s k v xs=false:=by
   revert hb;unfold okE
   cases eS a b c d s <;> cases UO k v xs <;> cases VH n l <;> simp
  rw [OP,hno] at h
  refine UX (RZ l) (by simp [cnt];omega) ?_
  rw [List.nil_append];exact h
 ·have hok:okE n l a b c d s k v xs=true:=by
   revert hb;unfold okE
   cases eS a b c d s <;> cases UO k v xs <;> cases VH n l <;> simp
  rw [OP,if_pos hok] at h
  obtain ⟨ha,hb,hc,hd,hv,hn,hxs,hxl,hk,hll⟩:=UE hok
  have a1:=KB ha;have b1:=KB hb;have c1:=KB hc;have d1:=KB hd;have v1:=KB hv;have n1:=KB hn
  have h1:=HQ a;have h2:=HQ (b-n);have h3:=HQ c;have h4:=HQ (d-b);have h5:=TF l s;have h6:=HI k;have h7:=HQ (v-b);have h8:=HI xs.length
  refine Y1 hl (II (EI ⟨by omega,by omega⟩ (II (B8 (by omega) (II (B8 (by simp only [ByteArray.size_append];omega) (EI ⟨by omega,by omega⟩ (II (B8 (by simp only [ByteArray.size_append];omega) (B8 (by simp only [ByteArray.size_append];omega) (KF ⟨by omega,by omega⟩ (B8 (by simp only [ByteArray.size_append];omega) (EI ⟨by omega,by omega⟩ (II (B8 (by simp only [ByteArray.size_append];omega) (KF (n:=Int.ofNat xs.length) ⟨by simp only [Int.ofNat_eq_natCast];omega,by simp only [Int.ofNat_eq_natCast];omega⟩ (B8 (by simp only [Int.ofNat_eq_natCast,ByteArray.size_append];omega) ?_)))))))))))))))))
  have hbs:=VG n l a b c d s k v xs.length
  refine AY (fun i=>[.string (stE (base n l a b c d s k v xs.length,b) xs i).1,I (stE (base n l a b c d s k v xs.length,b) xs i).2,iv i,I a,I b,I c,I d, .string s,I k,I v, .int .i64 0,I n]) (fun _=>[tS (bC l s)]) xs.length (fun _=>True) rfl rfl trivial (fun R i hi _ hR=> ?_)
  refine IS (AW (fun hlt=> ?_) fun hge=> ?_)
  ·obtain ⟨q1,q2⟩:=eO (p:=(base n l a b c d s k v xs.length,b)) hb hxs i hi
   have q3:=KB q1
   have q4:=KB (List.all_eq_true.1 hxs _ (List.getElem_mem hlt))
   simp only at q2
   have q5:=HQ (xs[i]-(stE (base n l a b c d s k v xs.length,b) xs i).2)
   have:=hR hlt trivial
   rw [YX hlt] at this
   exact AH hlt (O3 hlt (EI ⟨by omega,by omega⟩ (II (B8 (by omega) (AH hlt (O3 hlt (AX (by omega) this)))))))
  ·have:i=xs.length:=by omega
   subst this
   exact h
end Go.Proofs.YtnhicpkhkaihoaaGreat.P
namespace Go.Proofs.YtnhicpkhkaihoaaGreat.P
open Go Go.Proofs.YtnhicpkhkaihoaaGreat Go.Proofs.YtnhicpkhkaihoaaGreat.Eng
set_option linter.unusedVariables false
theorem vJ {f:J2} {g:J2→Prop} (P:List Value→List (List T)→Prop) (h1: ∀xs cs,P xs cs→f xs cs) (h2: ∀j:J2,(∀xs cs,P xs cs→j xs cs)→g j):BY f g:=h2 f h1
theorem VC {w0:World} {n:Int} {l:List ByteArray} {a b c d:Int} {s:ByteArray} {k v:Int} {xs:List Int} {K:J2} (hl:l.length<2^40) (hx:(xs.length:Int)<2^62)
  (h:K [.string (OP n l a b c d s k v xs).1,I (OP n l a b c d s k v xs).2.1] [tS (OP n l a b c d s k v xs).2.2]):cl2 ⟨Tryz.prog,w0⟩ 46 EN.sg [I n,I a,I b,I c,I d, .string s,I k,I v] [tS l,tI xs] K:=by
 refine EN.cl2 ?_
 unfold EN.txt
 simp only [AI,AE]
 refine ZI (by omega) (VO (BP (HL (Y5 (fun _ K hk=>TY hx hk) (HL (Y5 (fun _ K hk=>eE (by omega) hk) (JJ (fun hb=> ?_) fun hb=> ?_)))))))
 ·have hno:okE n l a b c d s k v xs=false:=by
   revert hb;unfold okE
   cases eS a b c d s <;> cases UO k v xs <;> cases VH n l <;> simp
  rw [OP,hno] at h
  exact h
 ·have hok:okE n l a b c d s k v xs=true:=by
   revert hb;unfold okE
   cases eS a b c d s <;> cases UO k v xs <;> cases VH n l <;> simp
  rw [OP,if_pos hok] at h
  obtain ⟨ha,hb,hc,hd,hv,hn,hxs,hxl,hk,hll⟩:=UE hok
  have a1:=KB ha;have b1:=KB hb;have c1:=KB hc;have d1:=KB hd;have v1:=KB hv;have n1:=KB hn
  have h1:=HQ a;have h2:=HQ (b-n);have h3:=HQ c;have h4:=HQ (d-b);have h5:=TF l s;have h6:=HI k;have h7:=HQ (v-b);have h8:=HI xs.length
  refine IE (EI ⟨by omega,by omega⟩ (IE (B8 (by omega) (IE (B8 (by simp only [ByteArray.size_append];omega) (EI ⟨by omega,by omega⟩ (IE (B8 (by simp only [ByteArray.size_append];omega) ?_))))))))
  refine vJ (fun ys cs=>ys=[.string (((((SI a++SI (b-n))++SI c)++SI (d-b)))++U7 l s),I a,I b,I c,I d, .string s,I k,I v, .int .i64 0,I b]∧cs=[tS (bC l s)]) (fun ys cs hp=> ?_) fun j hj=> ?_
  ·obtain ⟨rfl,rfl⟩:=hp
   refine KG ⟨by omega,by omega⟩ (EI ⟨by omega,by omega⟩ (IE (B8 (by omega) (KG (n:=Int.ofNat xs.length) ⟨by simp only [Int.ofNat_eq_natCast];omega,by simp only [Int.ofNat_eq_natCast];omega⟩ (B8 (by simp only [Int.ofNat_eq_natCast,ByteArray.size_append];omega) (B8 (by simp only [Int.ofNat_eq_natCast,ByteArray.size_append];omega) ?_))))))
   have hbs:=VG n l a b c d s k v xs.length
   refine AY (fun i=>[.string (stE (base n l a b c d s k v xs.length,b) xs i).1,I (stE (base n l a b c d s k v xs.length,b) xs i).2,iv xs.length,iv i, .int .i64 0,I b]) (fun _=>[tS (bC l s)]) xs.length (fun _=>True) ?_ rfl trivial (fun R i hi _ hR=> ?_)
   ·have e:(stE (base n l a b c d s k v xs.length,b) xs 0)=(base n l a b c d s k v xs.length,b):=rfl
    rw [e]
    simp only [base,ByteArray.append_assoc,Int.ofNat_eq_natCast]
    rfl
   refine IS (AW (fun hlt=> ?_) fun hge=> ?_)
   ·obtain ⟨q1,q2⟩:=eO (p:=(base n l a b c d s k v xs.length,b)) hb hxs i hi
    have q3:=KB q1
    have q4:=KB (List.all_eq_true.1 hxs _ (List.getElem_mem hlt))
    simp only at q2
    have q5:=HQ (xs[i]-(stE (base n l a b c d s k v xs.length,b) xs i).2)
    have:=hR hlt trivial
    rw [YX hlt] at this
    exact AH hlt (O3 hlt (EI ⟨by omega,by omega⟩ (IE (B8 (by omega) (AX (by omega) this)))))
   ·have:i=xs.length:=by omega
    subst this
    exact h
  ·refine OS (by omega) (JT (b:=0) (AW (fun hge=> ?_) fun hlt=> ?_))
   ·have hm:s∈l:=by
     by_cases hm:s∈l
     ·exact hm
     ·rw [at_,if_neg hm] at hge;omega
    have hat:at_ l s≤l.length:=by rw [at_,if_pos hm];have:=List.idxOf_lt_length_of_mem hm;omega
    have hv:=HI (at_ l s+1)
    refine CC (b:=1) ⟨by omega,by omega⟩ (KG ⟨by omega,by omega⟩ (B8 (by simp only [ByteArray.size_append];omega) (hj _ _ ⟨?_, ?_⟩)))
    ·rw [U7,if_pos hm]
    ·rw [bC,if_pos hm];rfl
   ·have hm:s∉l:=by
     intro hm
     rw [at_,if_pos hm] at hlt;omega
    have hv:=HI 0
    have hs:=fU s
    refine KG ⟨by omega,by omega⟩ (XF (B8 (by omega) (B8 (by simp only [ByteArray.size_append];omega) (UX rfl ?_ (hj _ _ ⟨?_, ?_⟩)))))
    ·have hc:cnt 1 (nxc [tS l] 0)=l.length:=AI l
     rw [hc];simp [cnt];omega
    ·rw [U7,if_neg hm]
    ·rw [bC,if_neg hm];simp [tS,nxc]
end Go.Proofs.YtnhicpkhkaihoaaGreat.P
