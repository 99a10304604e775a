/- A part of the proof. -/
import Derived.Test.YtnhicpkhkaihoaaGreatFaHpR
import Derived.Test.YtnhicpkhkaihoaaGreatFaHpG
namespace Go.Proofs.YtnhicpkhkaihoaaGreat.P
open Go Go.Proofs.YtnhicpkhkaihoaaGreat Go.Proofs.YtnhicpkhkaihoaaGreat.Eng
set_option linter.unusedVariables false
set_option maxHeartbeats 4000000
set_option linter.unusedVariables false
set_option linter.unusedSimpArgs false
attribute [local irreducible] prP gP gE gF AU ixW ldc ldg ldl stc stg scW mkW apW BG cl2 BX GP CZ
variable {w0:World}
theorem c9 {os:List A7} {i:Nat} (hi:i<os.length):(os.take (i+1)).map (·.count)=(os.take i).map (·.count)++[(ob os i).count]:=by
 rw [List.take_succ_eq_append_getElem hi,List.map_append,EG hi];rfl
theorem X6 {os:List A7} {b c d:List T} {K:J2} (hol:os.length=8) (h:K [] [tI (os.map (·.count)),tI (List.replicate 8 0)]):cl2 ⟨Tryz.prog,w0⟩ 172 GK.sg [] [tR tO os,b,c,d] K:=by
 refine GK.cl2 ?_
 unfold GK.txt
 simp only [AK,AS,AJ,AI,AM,AE,AH,AN,AO,AP,AL,AR,AT,AQ,BB,BE,BI,BH,BK,BJ,BF,AX,A4,AY,A1,AZ,A5]
 refine A9 (fun i=>[iv os.length,iv i]) (fun i=>[tI ((os.take i).map (·.count)),tI (List.replicate i 0)]) os.length (fun _=>True) rfl rfl trivial (fun R i hi hP hR=> ?_)
 have hln:((os.take i).map (·.count)).length=i:=by simp;omega
 have hl2:(List.replicate i (0:Int)).length=i:=List.length_replicate
 simp only [AK,AS,AJ,AI,AM,AE,AH,AN,AO,AP,AL,AR,AT,AQ,BB,BE,BI,BH,BK,BJ,BF,AX,A4,AY,A1,AZ,A5]
 refine AV (AG (fun hlt=> ?_) fun hge=> ?_)
 ·have hlt:i<os.length:=by omega
  replace hR:=hR hlt trivial
  rw [c9 hlt, ←E9,List.replicate_succ', ←E9] at hR
  refine BS (AW hlt (OM hlt ?_))
  simp only [oA]
  exact AV (CM (by omega) (DP rfl (by omega) (DP rfl (by omega) (A6 (by omega) hR))))
 ·have:i=os.length:=by omega
  subst this
  rw [List.take_length,hol];exact h
theorem X4 {os:List A7} {b c d:List T} {K:J2} (hol:os.length=8) (h:K [] [tI (os.map (·.count)),tI (List.replicate 8 0)]):cl2 ⟨Tryz.prog,w0⟩ 160 GF.sg [] [tR tO os,b,c,d] K:=by
 refine GF.cl2 ?_
 unfold GF.txt
 simp only [AK,AS,AJ,AI,AM,AE,AH,AN,AO,AP,AL,AR,AT,AQ,BB,BE,BI,BH,BK,BJ,BF,AX,A4,AY,A1,AZ,A5]
 refine A9 (fun i=>[iv i]) (fun i=>[tI ((os.take i).map (·.count)),tI (List.replicate i 0)]) os.length (fun _=>True) rfl rfl trivial (fun R i hi hP hR=> ?_)
 have hln:((os.take i).map (·.count)).length=i:=by simp;omega
 have hl2:(List.replicate i (0:Int)).length=i:=List.length_replicate
 simp only [AK,AS,AJ,AI,AM,AE,AH,AN,AO,AP,AL,AR,AT,AQ,BB,BE,BI,BH,BK,BJ,BF,AX,A4,AY,A1,AZ,A5]
 refine AV (BM (IG (fun hlt=> ?_) fun hge=> ?_))
 ·have hlt':i<os.length:=by omega
  replace hR:=hR hlt' trivial
  rw [c9 hlt', ←E9,List.replicate_succ', ←E9] at hR
  refine AV (CI hlt rfl (CM (by omega) ?_))
  exact AW hlt' (J8 (v:=I (ob os i).count) hlt' (by decide) rfl (DP rfl (by omega) (DP rfl (by omega) (A6 (by omega) hR))))
 ·have:i=os.length:=by omega
  subst this
  refine CD hge rfl (BT ?_)
  rw [List.take_length,hol];exact h
theorem cX {cs col:List Int} {W:Nat→Bool} {K:J2} (hl:col.length=8) (hw: ∀k,k<8→(gI col k=2↔W k=true)) (h:K [] [tI (DA W 8)]):cl2 ⟨Tryz.prog,w0⟩ 175 IP.sg [] [tI cs,tI col] K:=by
 refine IP.cl2 ?_
 unfold IP.txt
 simp only [AK,AS,AJ,AI,AM,AE,AH,AN,AO,AP,AL,AR,AT,AQ,BB,BE,BI,BH,BK,BJ,BF,AX,A4,AY,A1,AZ,A5]
 refine A9 (fun i=>[iv col.length,iv i]) (fun i=>[tI (DA W i)]) col.length (fun _=>True) rfl rfl trivial (fun R i hi hP hR=> ?_)
 have hln:(DA W i).length≤i:=NG (fun i=>by split <;> simp) i
 simp only [AK,AS,AJ,AI,AM,AE,AH,AN,AO,AP,AL,AR,AT,AQ,BB,BE,BI,BH,BK,BJ,BF,AX,A4,AY,A1,AZ,A5]
 refine AV (AG (fun hlt=> ?_) fun hge=> ?_)
 ·have hlt:i<col.length:=by omega
  replace hR:=hR hlt trivial
  have hwi:=hw i (by omega)
  refine BS (AW hlt (ldI hlt (BA (AG (fun h2=> ?_) fun h2=> ?_))))
  ·have e:DA W (i+1)=DA W i++[(i:Int)]:=by show DA W i++(if W i=true then [(i:Int)] else [])=_;rw [if_pos (hwi.1 h2)]
   rw [e, ←E9] at hR
   exact DP rfl (by omega) (A6 (by omega) hR)
  ·have e:DA W (i+1)=DA W i:=by show DA W i++(if W i=true then [(i:Int)] else [])=_;rw [if_neg (fun hh=>h2 (hwi.2 hh)),List.append_nil]
   rw [e] at hR
   exact A6 (by omega) hR
 ·have:i=col.length:=by omega
  subst this
  rw [hl];exact h
theorem cF {cs col:List Int} {W:Nat→Bool} {K:J2} (hl:col.length=8) (hw: ∀k,k<8→(gI col k=2↔W k=true)) (h:K [] [tI (DA W 8)]):cl2 ⟨Tryz.prog,w0⟩ 163 IX.sg [] [tI cs,tI col] K:=by
 refine IX.cl2 ?_
 unfold IX.txt
 simp only [AK,AS,AJ,AI,AM,AE,AH,AN,AO,AP,AL,AR,AT,AQ,BB,BE,BI,BH,BK,BJ,BF,AX,A4,AY,A1,AZ,A5]
 refine A9 (fun i=>[iv i]) (fun i=>[tI (DA W i)]) col.length (fun _=>True) rfl rfl trivial (fun R i hi hP hR=> ?_)
 have hln:(DA W i).length≤i:=NG (fun i=>by split <;> simp) i
 simp only [AK,AS,AJ,AI,AM,AE,AH,AN,AO,AP,AL,AR,AT,AQ,BB,BE,BI,BH,BK,BJ,BF,AX,A4,AY,A1,AZ,A5]
 refine AV (AG (fun hlt=> ?_) fun hge=> ?_)
 ·have hlt:i<col.length:=by omega
  replace hR:=hR hlt trivial
  have hwi:=hw i (by omega)
  refine BS (AW hlt (ldI hlt (BA (AG (fun h2=> ?_) fun h2=> ?_))))
  ·have e:DA W (i+1)=DA W i++[(i:Int)]:=by show DA W i++(if W i=true then [(i:Int)] else [])=_;rw [if_pos (hwi.1 h2)]
   rw [e, ←E9] at hR
   exact DP rfl (by omega) (A6 (by omega) hR)
  ·have e:DA W (i+1)=DA W i:=by show DA W i++(if W i=true then [(i:Int)] else [])=_;rw [if_neg (fun hh=>h2 (hwi.2 hh)),List.append_nil]
   rw [e] at hR
   exact A6 (by omega) hR
 ·have:i=col.length:=by omega
  subst this
  rw [hl];exact h
theorem MK.start {os:List A7} (hol:os.length=8) (hc: ∀o∈os,F64 o.count):MK os (fun i=>(ob os i).count) [] (os.map (·.count)) (List.replicate 8 0):=by
 have hz: ∀k,k<8→gI (List.replicate 8 (0:Int)) k=0:=fun k hk=>by unfold gI;rw [List.getD_eq_getElem?_getD,List.getElem?_replicate,if_pos hk];rfl
 have hcs: ∀i,i<8→gI (os.map (·.count)) i=(ob os i).count:=fun i hi=>by
  rw [←GD (by simp;omega),List.getElem_map,EG (by omega)]
 have hF: ∀i,i<8→F64 (ob os i).count:=fun i hi=>hc _ (IM (by omega))
 refine ⟨⟨by simp [hol],by simp⟩,fun i hi=>by rw [hcs i hi];exact hF i hi,fun k hk h1=> ?_,fun k hk h1=>⟨hz k hk, ?_⟩,fun i hi=> ?_⟩
 ·rw [hz k hk] at h1;omega
 ·rintro ⟨b,hb,_⟩;simp at hb
 ·have:S os (isC (List.replicate 8 0) 1) i=0:=MS fun k hk=>by unfold isC;rw [hz k hk];rfl
  rw [hcs i hi,this,Int.sub_zero,OG (hF i hi)]
theorem Ea {os:List A7} {W:Nat→Bool} {j:Nat} (hj:j<(DA W 8).length) {x:Nat} (hx:gI (DA W 8) j=(x:Int)):(fun i:Nat=>if ((i:Nat):Int)∈(DA W 8).take (j+1) then CT (ob os i).gen else ob os i)=fun i=>if i=x then CT (ob os x).gen else (if ((i:Nat):Int)∈(DA W 8).take j then CT (ob os i).gen else ob os i):=by
 funext i
 rw [List.take_succ_eq_append_getElem hj,GD hj,hx]
 simp only [List.mem_append,List.mem_singleton]
 by_cases hi:i=x
 ·subst hi;simp
 ·have: ¬(i:Int)=(x:Int):=by omega
  simp [hi,this]
def T6 (os:List A7) (W:Nat→Bool) (i:Nat):A7:=if W i=true then CT (ob os i).gen else ob os i
theorem pU (os:List A7) (W:Nat→Bool) (i:Nat):{T6 os W i with purple:=false}=EF os W i:=by
 unfold T6 EF
 split <;> rfl
theorem TA (os:List A7) (W:Nat→Bool) (i:Nat):(I3 os W i).live=(EF os W i).live∧(I3 os W i).gen=(EF os W i).gen∧(I3 os W i).field=(EF os W i).field:=by
 unfold I3;split <;> exact ⟨rfl,rfl,rfl⟩
theorem jC (os:List A7) (W:Nat→Bool) (i:Nat):(T6 os W i).live=(EF os W i).live∧(T6 os W i).gen=(EF os W i).gen∧(T6 os W i).field=(EF os W i).field:=by
 rw [←pU];exact ⟨rfl,rfl,rfl⟩
theorem lL {os:List A7} (hof: ∀o∈os,OF o) (hol:os.length=8) (W:Nat→Bool) {i:Nat} (hi:i<8):(EF os W i).field.length=3:=by
 unfold EF
 split
 ·rfl
 ·exact (hof _ (IM (by omega))).len
theorem bG {h:Hp} {K:J2} (st:St h) (hc: ∀o∈h.BD,F64 o.count) (hK:K [] [tR tO (PL h.BD h.buffer).1,tR tW h.B8,[],tS h.sites,tI (PL h.BD h.buffer).2]):cl2 ⟨Tryz.prog,w0⟩ 131 HL.sg [] (trees h) K:=by
 refine HL.cl2 ?_
 unfold HL.txt
 refine RL st.fits ?_
 obtain ⟨os,ws,buf,ss⟩:=h
 have hol:os.length=8:=st.ol
 have hof: ∀o∈os,OF o:=st.of
 have hb:buf.length≤100:=st.bl
 have hbf: ∀x∈buf,F64 x:=st.bf
 simp only at hc hK
 simp only [trees]
 obtain ⟨ct,hct⟩: ∃ct:Nat→Int,ct=fun i=>(ob os i).count:=⟨_,rfl⟩
 obtain ⟨W,hW⟩: ∃W,W=PC os ct buf:=⟨_,rfl⟩
 unfold PL at hK
 rw [←hct, ←hW] at hK
 simp only [AK,AS,AJ,AI,AM,AE,AH,AN,AO,AP,AL,AR,AT,AQ,BB,BE,BI,BH,BK,BJ,BF,AX,A4,AY,A1,AZ,A5]
 refine B9 (C3 (by omega) (X6 hol ?_))
 refine CQ (α:=Nat×List Int×List Int) (fun q=>[iv buf.length,iv q.1]) (fun q=>[tR tO os,tR tW ws,tI buf,tS ss,tI q.2.1,tI q.2.2]) (fun q=>buf.length-q.1) (fun q=>q.1≤buf.length∧MK os ct (buf.take q.1) q.2.1 q.2.2) (0,os.map (·.count),List.replicate 8 0) rfl rfl ⟨Nat.zero_le _,by rw [hct];exact MK.start hol hc⟩ (fun R q hq hR=> ?_)
 obtain ⟨i,cs,col⟩:=q
 obtain ⟨hi,mk⟩:=hq
 simp only at hi mk
 simp only [AK,AS,AJ,AI,AM,AE,AH,AN,AO,AP,AL,AR,AT,AQ,BB,BE,BI,BH,BK,BJ,BF,AX,A4,AY,A1,AZ,A5]
 refine AV (AG (fun hlt=> ?_) fun hge=> ?_)
 ·have hlt:i<buf.length:=by omega
  have hx:=hbf _ (FD hlt)
  have nx:=fun cs' col' (m:MK os ct (buf.take i++[gI buf i]) cs' col')=>hR (i+1,cs',col') ⟨by simp only;omega,by simp only;rw [List.take_succ_eq_append_getElem hlt,GD hlt];exact m⟩ (by simp only;omega)
  refine AW hlt (ldI hlt (DC hx (by omega) (YJ hol hof mk.len.1 mk.len.2 mk.f (fun hn=> ?_) fun s hs s8 cs' col' p=> ?_)))
  ·exact A6 (by omega) (nx _ _ (mk.none hn))
  ·exact A6 (by omega) (nx _ _ (mk.some hs s8 p))
 have:i=buf.length:=by omega
 subst this
 rw [List.take_length] at mk
 refine CQ (α:=Nat×List Int×List Int) (fun q=>[iv buf.length,iv q.1]) (fun q=>[tR tO os,tR tW ws,tI buf,tS ss,tI q.2.1,tI q.2.2]) (fun q=>buf.length-q.1) (fun q=>q.1≤buf.length∧SC os ct buf (buf.take q.1) q.2.1 q.2.2) (0,cs,col) rfl rfl ⟨Nat.zero_le _,SC.start mk⟩ (fun R q hq hR=> ?_)
 obtain ⟨i,cs,col⟩:=q
 obtain ⟨hi,sc⟩:=hq
 simp only at hi sc
 simp only [AK,AS,AJ,AI,AM,AE,AH,AN,AO,AP,AL,AR,AT,AQ,BB,BE,BI,BH,BK,BJ,BF,AX,A4,AY,A1,AZ,A5]
 refine AV (AG (fun hlt=> ?_) fun hge=> ?_)
 ·have hlt:i<buf.length:=by omega
  have hx:=hbf _ (FD hlt)
  have nx:=fun cs' col' (m:SC os ct buf (buf.take i++[gI buf i]) cs' col')=>hR (i+1,cs',col') ⟨by simp only;omega,by simp only;rw [List.take_succ_eq_append_getElem hlt,GD hlt];exact m⟩ (by simp only;omega)
  refine AW hlt (ldI hlt (DC hx (by omega) (YF hol hof sc.si (fun hn=> ?_) fun s hs s8 cs' col' p=> ?_)))
  ·exact A6 (by omega) (nx _ _ (sc.none hn))
  ·exact A6 (by omega) (nx _ _ (sc.some hs s8 p))
 have:i=buf.length:=by omega
 subst this
 rw [List.take_length] at sc
 have wh:=sc.stop
 rw [←hW] at wh
 refine cX sc.si.len.2 wh ?_
 clear hR sc mk
 have hwn:(DA W 8).length≤8:=NG (fun i=>by split <;> simp) 8
 refine A9 (fun j=>[iv (DA W 8).length,iv j]) (fun j=>[tI (((DA W 8).take j).map fun x=>C8 x (ob os x.toNat).gen),tI (DA W 8),tR tO (mk8 fun i=>if ((i:Nat):Int)∈(DA W 8).take j then CT (ob os i).gen else ob os i),tR tW ws,tI buf,tS ss]) (DA W 8).length (fun _=>True) (by simp only [AK,AS,AJ,AI,AM,AE,AH,AN,AO,AP,AL,AR,AT,AQ,BB,BE,BI,BH,BK,BJ,BF,AX,A4,AY,A1,AZ,A5];rfl) ?_ trivial (fun R j hj hP hR=> ?_)
 ·simp only [List.take_zero,List.map_nil,List.not_mem_nil,if_false]
  rw [←bU hol];rfl
 have hln:(((DA W 8).take j).map fun x=>C8 x (ob os x.toNat).gen).length=j:=by simp;omega
 simp only [AK,AS,AJ,AI,AM,AE,AH,AN,AO,AP,AL,AR,AT,AQ,BB,BE,BI,BH,BK,BJ,BF,AX,A4,AY,A1,AZ,A5]
 simp only [C1]
 refine AV (AG (fun hlt=> ?_) fun hge=> ?_)
 ·have hlt:j<(DA W 8).length:=by omega
  replace hR:=hR hlt trivial
  obtain ⟨x,x8,hx,hwx⟩:=OO.1 (FD hlt)
  have xl:x<os.length:=by omega
  rw [Ea hlt hx,List.take_succ_eq_append_getElem hlt,List.map_append,GD hlt,hx, ←RA x8] at hR
  refine AW hlt (ldI hlt ?_)
  rw [hx]
  refine AW xl (J8 (v:=I (ob os x).gen) xl (by decide) rfl (NI (DP rfl (by omega) (AW xl (J8 (v:=I (ob os x).gen) xl (by decide) rfl (SU (AW (by omega) ?_)))))))
  refine OD (f:=tO) (by rw [C1];exact x8) (y:=CT (ob os x).gen) rfl (A6 (by omega) ?_)
  simp only [List.map_cons,List.map_nil,Int.toNat_natCast] at hR
  rw [←E9] at hR
  exact hR
 have:j=(DA W 8).length:=by omega
 subst this
 have e1:(fun i:Nat=>if ((i:Nat):Int)∈(DA W 8).take (DA W 8).length then CT (ob os i).gen else ob os i)=fun i=>if ((i:Nat):Int)∈DA W 8 then CT (ob os i).gen else ob os i:=by rw [List.take_length]
 have e2:mk8 (fun i=>if ((i:Nat):Int)∈DA W 8 then CT (ob os i).gen else ob os i)=mk8 (T6 os W):=LL fun i hi=>by
  unfold T6
  by_cases hw:W i=true
  ·rw [if_pos hw,if_pos (OO.2 ⟨i,hi,rfl,hw⟩)]
  ·rw [if_neg hw,if_neg fun hm=>hw (by obtain ⟨k,_,h2,h3⟩:=OO.1 hm;have:k=i:=by omega
                                       subst this;exact h3)]
 rw [e1,e2,List.take_length,gY]
 clear hR e1 e2
 refine A9 (fun i=>[iv 8,iv i]) (fun i=>[tI (MT os W 8),tR tO (mk8 fun k=>if k<i then I3 os W k else T6 os W k),tR tW ws,tI buf,tS ss]) 8 (fun _=>True) rfl rfl trivial (fun R i hi hP hR=> ?_)
 simp only [AK,AS,AJ,AI,AM,AE,AH,AN,AO,AP,AL,AR,AT,AQ,BB,BE,BI,BH,BK,BJ,BF,AX,A4,AY,A1,AZ,A5]
 simp only [C1]
 refine AV (AG (fun hlt=> ?_) fun hge=> ?_)
 ·have hlt:i<8:=by omega
  replace hR:=hR hlt trivial
  have hml:i<(mk8 fun k=>if k<i then I3 os W k else T6 os W k).length:=by rw [C1];exact hlt
  have hoi:(mk8 fun k=>if k<i then I3 os W k else T6 os W k)[i]=T6 os W i:=by rw [EG hml,KG hlt,if_neg (by omega)]
  have hset: ∀v,v=I3 os W i→(mk8 fun k=>if k<i then I3 os W k else T6 os W k).set i v=mk8 fun k=>if k<i+1 then I3 os W k else T6 os W k:=fun v hv=>by
   rw [RA hlt]
   refine LL fun k hk=> ?_
   by_cases h1:k=i
   ·subst h1;rw [if_pos rfl,if_pos (by omega),hv]
   ·rw [if_neg h1]
    by_cases h2:k<i
    ·rw [if_pos h2,if_pos (by omega)]
    ·rw [if_neg h2,if_neg (by omega)]
  have hin: ∀v,v=EF os W i→inE ((mk8 fun k=>if k<i then I3 os W k else T6 os W k).set i v) i=inE (mk8 (EF os W)) i:=fun v hv=>by
   rw [RA hlt]
   refine tD (by rw [C1,C1]) fun k hk=> ?_
   rw [C1] at hk
   rw [KG hk,KG hk]
   by_cases h1:k=i
   ·subst h1;rw [if_pos rfl,hv];exact ⟨rfl,rfl,rfl⟩
   ·rw [if_neg h1]
    by_cases h2:k<i
    ·rw [if_pos h2];exact TA os W k
    ·rw [if_neg h2];exact jC os W k
  have hlen3: ∀o∈(mk8 fun k=>if k<i then I3 os W k else T6 os W k).set i (EF os W i),(o.field.length:Int)≤1048576:=fun o ho=>by
   rw [RA hlt] at ho
   obtain ⟨k,hk,rfl⟩:=Y3 ho
   have hm:=lL hof hol W hk
   by_cases h1:k=i
   ·subst h1;rw [if_pos rfl];omega
   ·rw [if_neg h1]
    by_cases h2:k<i
    ·rw [if_pos h2,(TA os W k).2.2];omega
    ·rw [if_neg h2,(jC os W k).2.2];omega
  generalize (mk8 fun k=>if k<i then I3 os W k else T6 os W k)=M at hml hoi hset hin hlen3 ⊢
  have hM8:M.length=8:=by have:=congrArg List.length (hset (I3 os W i) rfl);rw [List.length_set,C1] at this;exact this
  refine BS (AW hlt ?_)
  refine U9 (f:=tO) (c:=7) (y:={M[i] with purple:=false}) hml (by decide) rfl rfl ?_
  rw [hoi,pU]
  refine u5 (v:= .bool (EF os W i).live) hml rfl ?_
  cases hv:(EF os W i).live with
  | true=>
    refine BP (J9 (v:=I (EF os W i).holds) hml (by decide) rfl (J9 (v:=I (EF os W i).roots) hml (by decide) rfl (DT ?_)))
    refine SS ⟨by omega,by omega⟩ (by rw [List.length_set,hM8];decide) hlen3 ?_
    rw [hin _ rfl]
    refine DT (JE hml ?_)
    rw [hset _ (by unfold I3;rw [if_pos hv])]
    exact A6 (by omega) hR
  | false=>
    refine BT ?_
    rw [hset _ (by unfold I3;rw [if_neg (by rw [hv];decide)])]
    exact A6 (by omega) hR
 ·have:i=8:=by omega
  subst this
  rw [LL (g:=I3 os W) fun k hk=>if_pos hk]
  exact hK
theorem uA {a b c d e f g:List T} {l:List (List T)}:nxc (a::b::c::d::e::f::g::l) 6=g:=rfl
theorem aE {h:Hp} {K:J2} (st:St h) (hc: ∀o∈h.BD,F64 o.count) (hK:K [] [tR tO (PL h.BD h.buffer).1,tR tW h.B8,[],tS h.sites,tI (PL h.BD h.buffer).2]):cl2 ⟨Tryz.prog,w0⟩ 108 HJ.sg [] (trees h) K:=by
 refine HJ.cl2 ?_
 unfold HJ.txt
 refine M4 st.fits ?_
 obtain ⟨os,ws,buf,ss⟩:=h
 have hol:os.length=8:=st.ol
 have hof: ∀o∈os,OF o:=st.of
 have hb:buf.length≤100:=st.bl
 have hbf: ∀x∈buf,F64 x:=st.bf
 simp only at hc hK
 simp only [trees]
 obtain ⟨ct,hct⟩: ∃ct:Nat→Int,ct=fun i=>(ob os i).count:=⟨_,rfl⟩
 obtain ⟨W,hW⟩: ∃W,W=PC os ct buf:=⟨_,rfl⟩
 unfold PL at hK
 rw [←hct, ←hW] at hK
 simp only [AK,AS,AJ,AI,AM,AE,AH,AN,AO,AP,AL,AR,AT,AQ,BB,BE,BI,BH,BK,BJ,BF,AX,A4,AY,A1,AZ,A5]
 refine B9 (C3 (by omega) (X4 hol ?_))
 refine CQ (α:=Nat×List Int×List Int) (fun q=>[iv q.1]) (fun q=>[[],tR tO os,tR tW ws,tI buf,tS ss,tI q.2.1,tI q.2.2]) (fun q=>buf.length-q.1) (fun q=>q.1≤buf.length∧MK os ct (buf.take q.1) q.2.1 q.2.2) (0,os.map (·.count),List.replicate 8 0) rfl rfl ⟨Nat.zero_le _,by rw [hct];exact MK.start hol hc⟩ (fun R q hq hR=> ?_)
 obtain ⟨i,cs,col⟩:=q
 obtain ⟨hi,mk⟩:=hq
 simp only at hi mk
 simp only [AK,AS,AJ,AI,AM,AE,AH,AN,AO,AP,AL,AR,AT,AQ,BB,BE,BI,BH,BK,BJ,BF,AX,A4,AY,A1,AZ,A5]
 simp only [uA]
 refine AV (AG (fun hlt=> ?_) fun hge=> ?_)
 ·have hlt:i<buf.length:=by omega
  have hx:=hbf _ (FD hlt)
  have nx:=fun cs' col' (m:MK os ct (buf.take i++[gI buf i]) cs' col')=>hR (i+1,cs',col') ⟨by simp only;omega,by simp only;rw [List.take_succ_eq_append_getElem hlt,GD hlt];exact m⟩ (by simp only;omega)
  refine AW hlt (ldI hlt (DB hx (by omega) (YB hol hof mk.len.1 mk.len.2 mk.f (fun hn=> ?_) fun s hs s8 cs' col' p=> ?_)))
  ·exact A6 (by omega) (nx _ _ (mk.none hn))
  ·exact A6 (by omega) (nx _ _ (mk.some hs s8 p))
 have:i=buf.length:=by omega
 subst this
 rw [List.take_length] at mk
 refine CQ (α:=Nat×List Int×List Int) (fun q=>[iv q.1]) (fun q=>[[],tR tO os,tR tW ws,tI buf,tS ss,tI q.2.1,tI q.2.2]) (fun q=>buf.length-q.1) (fun q=>q.1≤buf.length∧SC os ct buf (buf.take q.1) q.2.1 q.2.2) (0,cs,col) rfl rfl ⟨Nat.zero_le _,SC.start mk⟩ (fun R q hq hR=> ?_)
 obtain ⟨i,cs,col⟩:=q
 obtain ⟨hi,sc⟩:=hq
 simp only at hi sc
 simp only [AK,AS,AJ,AI,AM,AE,AH,AN,AO,AP,AL,AR,AT,AQ,BB,BE,BI,BH,BK,BJ,BF,AX,A4,AY,A1,AZ,A5]
 simp only [uA]
 refine AV (AG (fun hlt=> ?_) fun hge=> ?_)
 ·have hlt:i<buf.length:=by omega
  have hx:=hbf _ (FD hlt)
  have nx:=fun cs' col' (m:SC os ct buf (buf.take i++[gI buf i]) cs' col')=>hR (i+1,cs',col') ⟨by simp only;omega,by simp only;rw [List.take_succ_eq_append_getElem hlt,GD hlt];exact m⟩ (by simp only;omega)
  refine AW hlt (ldI hlt (DB hx (by omega) (YG hol hof sc.si (fun hn=> ?_) fun s hs s8 cs' col' p=> ?_)))
  ·exact A6 (by omega) (nx _ _ (sc.none hn))
  ·exact A6 (by omega) (nx _ _ (sc.some hs s8 p))
 have:i=buf.length:=by omega
 subst this
 rw [List.take_length] at sc
 have wh:=sc.stop
 rw [←hW] at wh
 refine cF sc.si.len.2 wh ?_
 clear hR sc mk
 have hwn:(DA W 8).length≤8:=NG (fun i=>by split <;> simp) 8
 refine A9 (fun i=>[iv i]) (fun i=>[tI (MT os W i),tI (DA W 8),tR tO (mk8 fun k=>if k<i then EF os W k else ob os k),tR tW ws,tI buf,tS ss]) 8 (fun _=>True) rfl ?_ trivial (fun R i hi hP hR=> ?_)
 ·simp only [Nat.not_lt_zero,if_false]
  rw [←bU hol];rfl
 have hln:(MT os W i).length≤i:=NG (fun i=>by split <;> simp) i
 simp only [AK,AS,AJ,AI,AM,AE,AH,AN,AO,AP,AL,AR,AT,AQ,BB,BE,BI,BH,BK,BJ,BF,AX,A4,AY,A1,AZ,A5]
 simp only [uA,C1]
 refine AV (AG (fun hlt=> ?_) fun hge=> ?_)
 ·have hlt:i<8:=by omega
  replace hR:=hR hlt trivial
  have hml:i<(mk8 fun k=>if k<i then EF os W k else ob os k).length:=by rw [C1];exact hlt
  have hoi:(mk8 fun k=>if k<i then EF os W k else ob os k)[i]=ob os i:=by rw [EG hml,KG hlt,if_neg (by omega)]
  have hset: ∀v,v=EF os W i→(mk8 fun k=>if k<i then EF os W k else ob os k).set i v=mk8 fun k=>if k<i+1 then EF os W k else ob os k:=fun v hv=>by
   rw [RA hlt]
   refine LL fun k hk=> ?_
   by_cases h1:k=i
   ·subst h1;rw [if_pos rfl,if_pos (by omega),hv]
   ·rw [if_neg h1]
    by_cases h2:k<i
    ·rw [if_pos h2,if_pos (by omega)]
    ·rw [if_neg h2,if_neg (by omega)]
  generalize (mk8 fun k=>if k<i then EF os W k else ob os k)=M at hml hoi hset ⊢
  have hM8:M.length=8:=by have:=congrArg List.length (hset (EF os W i) rfl);rw [List.length_set,C1] at this;exact this
  have io:i<os.length:=by omega
  refine BS (AW hlt ?_)
  refine U9 (f:=tO) (c:=7) (y:={M[i] with purple:=false}) hml (by decide) rfl rfl ?_
  rw [hoi]
  refine RD (by omega) (AG (fun hm=> ?_) fun hm=> ?_)
  ·have hw:W i=true:=by
    obtain ⟨k,_,h2,h3⟩:=OO.1 hm
    have:k=i:=by omega
    subst this;exact h3
   have ef:MT os W (i+1)=MT os W i++[C8 i (ob os i).gen]:=by show MT os W i++(if W i=true then [C8 i (ob os i).gen] else [])=_;rw [if_pos hw]
   rw [ef, ←E9, ←hset (CT (ob os i).gen) (by unfold EF;rw [if_pos hw])] at hR
   refine AW io (J8 (v:=I (ob os i).gen) io (by decide) rfl (LH (DP rfl (by omega) (AW io (J8 (v:=I (ob os i).gen) io (by decide) rfl (LA ?_))))))
   simp only [AK,AS,AJ,AI,AM,AE,AH,AN,AO,AP,AL,AR,AT,AQ,BB,BE,BI,BH,BK,BJ,BF,AX,A4,AY,A1,AZ,A5]
   simp only [List.length_set,hM8]
   refine AW hlt (OD (f:=tO) (by rw [List.length_set];exact hml) (y:=CT (ob os i).gen) rfl ?_)
   rw [List.set_set]
   exact A6 (by omega) hR
  ·have hw: ¬W i=true:=fun hw=>hm (OO.2 ⟨i,hlt,rfl,hw⟩)
   have ef:MT os W (i+1)=MT os W i:=by show MT os W i++(if W i=true then [C8 i (ob os i).gen] else [])=_;rw [if_neg hw,List.append_nil]
   rw [ef, ←hset {ob os i with purple:=false} (by unfold EF;rw [if_neg hw])] at hR
   exact A6 (by omega) hR
 have:i=8:=by omega
 subst this
 rw [LL (g:=EF os W) fun k hk=>if_pos hk]
 clear hR
 refine A9 (fun i=>[iv i]) (fun i=>[tI (MT os W 8),tR tO (mk8 fun k=>if k<i then I3 os W k else EF os W k),tR tW ws,tI buf,tS ss]) 8 (fun _=>True) rfl rfl trivial (fun R i hi hP hR=> ?_)
 simp only [AK,AS,AJ,AI,AM,AE,AH,AN,AO,AP,AL,AR,AT,AQ,BB,BE,BI,BH,BK,BJ,BF,AX,A4,AY,A1,AZ,A5]
 simp only [C1]
 refine AV (AG (fun hlt=> ?_) fun hge=> ?_)
 ·have hlt:i<8:=by omega
  replace hR:=hR hlt trivial
  have hml:i<(mk8 fun k=>if k<i then I3 os W k else EF os W k).length:=by rw [C1];exact hlt
  have hoi:(mk8 fun k=>if k<i then I3 os W k else EF os W k)[i]=EF os W i:=by rw [EG hml,KG hlt,if_neg (by omega)]
  have hset: ∀v,v=I3 os W i→(mk8 fun k=>if k<i then I3 os W k else EF os W k).set i v=mk8 fun k=>if k<i+1 then I3 os W k else EF os W k:=fun v hv=>by
   rw [RA hlt]
   refine LL fun k hk=> ?_
   by_cases h1:k=i
   ·subst h1;rw [if_pos rfl,if_pos (by omega),hv]
   ·rw [if_neg h1]
    by_cases h2:k<i
    ·rw [if_pos h2,if_pos (by omega)]
    ·rw [if_neg h2,if_neg (by omega)]
  have hin:inE (mk8 fun k=>if k<i then I3 os W k else EF os W k) i=inE (mk8 (EF os W)) i:=by
   refine tD (by rw [C1,C1]) fun k hk=> ?_
   rw [C1] at hk
   rw [KG hk,KG hk]
   by_cases h2:k<i
   ·rw [if_pos h2];exact TA os W k
   ·rw [if_neg h2];exact ⟨rfl,rfl,rfl⟩
  have hlen3: ∀o∈(mk8 fun k=>if k<i then I3 os W k else EF os W k),(o.field.length:Int)≤1048576:=fun o ho=>by
   obtain ⟨k,hk,rfl⟩:=Y3 ho
   have hm:=lL hof hol W hk
   by_cases h2:k<i
   ·rw [if_pos h2,(TA os W k).2.2];omega
   ·rw [if_neg h2];omega
  generalize (mk8 fun k=>if k<i then I3 os W k else EF os W k)=M at hml hoi hset hin hlen3 ⊢
  have hM8:M.length=8:=by have:=congrArg List.length (hset (I3 os W i) rfl);rw [List.length_set,C1] at this;exact this
  have hMs:M=M.set i (EF os W i):=by rw [←hoi,List.set_getElem_self]
  refine BS (AW hlt ?_)
  cases hv:(EF os W i).live with
  | true=>
    refine YO (f:=tO) (v:= .bool true) hml (by rw [hoi];simp [tO,hv]) (BP (AW hlt ?_))
    refine UT (f:=tO) (v:=I (EF os W i).holds) hml (by decide) (by rw [hoi];rfl) (AW hlt ?_)
    refine UT (f:=tO) (v:=I (EF os W i).roots) hml (by decide) (by rw [hoi];rfl) (DT ?_)
    refine S1 ⟨by omega,by omega⟩ (by rw [hM8];decide) hlen3 ?_
    rw [hin]
    refine DT (AW hlt ?_)
    rw [hMs]
    refine JE hml ?_
    rw [hset _ (by unfold I3;rw [if_pos hv])]
    exact A6 (by omega) hR
  | false=>
    refine YO (f:=tO) (v:= .bool false) hml (by rw [hoi];simp [tO,hv]) (BT ?_)
    rw [hMs,hset _ (by unfold I3;rw [if_neg (by rw [hv];decide)])]
    exact A6 (by omega) hR
 ·have:i=8:=by omega
  subst this
  rw [LL (g:=I3 os W) fun k hk=>if_pos hk]
  exact hK
end Go.Proofs.YtnhicpkhkaihoaaGreat.P
namespace Go.Proofs.YtnhicpkhkaihoaaGreat.P
open Go Go.Proofs.YtnhicpkhkaihoaaGreat Go.Proofs.YtnhicpkhkaihoaaGreat.Eng
set_option linter.unusedVariables false
set_option maxHeartbeats 4000000
set_option linter.unusedVariables false
set_option linter.unusedSimpArgs false
attribute [local irreducible] prP gP gE gF AU ixW ldc ldg ldl stc stg scW mkW apW BG cl2 BX GP CZ
variable {w0:World}
noncomputable def JL (h:Hp) (o:Op5):Hp×An:=
 if o.kind=1 then (⟨(HG h.BD h.sites o.site).1,h.B8,h.buffer,(HG h.BD h.sites o.site).2.1⟩,(HG h.BD h.sites o.site).2.2) else
 if o.kind=2∨o.kind=3∨o.kind=5∨o.kind=6 then (⟨(KA h.BD h.buffer o.kind o.a).1,h.B8,(KA h.BD h.buffer o.kind o.a).2.1,h.sites⟩,(KA h.BD h.buffer o.kind o.a).2.2) else
 if o.kind=4 then (⟨(HZ h.BD h.buffer o.a o.b o.c).1,h.B8,(HZ h.BD h.buffer o.a o.b o.c).2.1,h.sites⟩,(HZ h.BD h.buffer o.a o.b o.c).2.2) else
 if o.kind=7 then (⟨h.BD,(NX h.BD h.B8 o.a).1,h.buffer,h.sites⟩,(NX h.BD h.B8 o.a).2) else
 if o.kind=8∨o.kind=9 then (⟨h.BD,(JB h.BD h.B8 o.kind o.a).1,h.buffer,h.sites⟩,(JB h.BD h.B8 o.kind o.a).2) else
 if o.kind=10 then (⟨(PL h.BD h.buffer).1,h.B8,[],h.sites⟩,⟨0,0,(PL h.BD h.buffer).2⟩) else (h,⟨2,0,[]⟩)
theorem lY {α:Type} [Inhabited α] {l:List α} (h: ∀i (hi:i<l.length),l[i]∉l.take i):l.Nodup:=by
 refine List.pairwise_iff_getElem.2 fun i j hi hj hij he=>h j hj ?_
 rw [←he]
 exact List.mem_take_iff_getElem.2 ⟨i,by omega,rfl⟩
theorem few {n:Nat}: ∀{l:List Int} (g:Int→Nat),l.Nodup→(∀x∈l,g x<n)→(∀x∈l, ∀y∈l,g x=g y→x=y)→l.length≤n:=by
 induction n with
 | zero=>
   intro l g _ h _
   cases l with
   | nil=>simp
   | cons x l=>exact absurd (h x (by simp)) (by omega)
 | succ n ih=>
   intro l g hn h hi
   by_cases hx: ∃x∈l,g x=n
   ·obtain ⟨x,hx,hg⟩:=hx
    have:=ih (l:=l.erase x) g (hn.erase x) (fun y hy=>by
     have hy':=List.mem_of_mem_erase hy
     have:=h y hy'
     have hne:g y≠n:=fun he=>by
      have:y=x:=hi y hy' x hx (by omega)
      subst this
      exact (List.Nodup.not_mem_erase hn) hy
     omega) fun y hy z hz=>hi y (List.mem_of_mem_erase hy) z (List.mem_of_mem_erase hz)
    rw [List.length_erase_of_mem hx] at this
    omega
   ·have:=ih g hn (fun y hy=>by
     have:=h y hy
     have:g y≠n:=fun he=>hx ⟨y,hy,he⟩
     omega) hi
    omega
theorem DU.bnd {h:Hp} (hk:DU h):h.buffer.Nodup:=lY fun i hi=>by rw [GD hi];exact (hk.buf i hi).2
theorem DU.bF {h:Hp} (hk:DU h) {x:Int} (hx:x∈h.buffer):0≤AD h.BD x:=by
 obtain ⟨i,hi,rfl⟩:=List.getElem_of_mem hx
 rw [GD hi];exact (hk.buf i hi).1
theorem mE {l:List A7} {x y:Int} (hx:0≤AD l x) (hy:0≤AD l y) (h:AD l x=AD l y):x=y:=by
 have a:=BV hx;have b:=BV hy
 have e1:=a.2.2.2.2.2;have e2:=b.2.2.2.2.2
 rw [h] at e1
 omega
theorem DU.Ga {h:Hp} (hk:DU h):h.buffer.length≤8:=
 few (fun x=>(AD h.BD x).toNat) hk.bnd (fun x hx=>(BV (hk.bF hx)).2.2.2.1) fun x hx y hy he=>mE (hk.bF hx) (hk.bF hy) (by have:=hk.bF hx;have:=hk.bF hy;omega)
theorem DU.st {h:Hp} (hk:DU h) (hn:VN h):St h:=by
 refine ⟨hk.ol,hk.wl,hk.sites.len,by have:=hk.Ga;omega,fun o ho=> ?_,fun s hs=> ?_,hn.weak,hn.buf⟩
 ·obtain ⟨i,hi,rfl⟩:=List.getElem_of_mem ho
  have hi8:i<8:=by have:=hk.ol;omega
  have:=hn.obj _ ho
  rw [EG hi] at this ⊢
  exact ⟨this.1,(hk.obj i hi8).len,this.2.2.2.2.2⟩
 ·obtain ⟨i,hi,rfl⟩:=List.getElem_of_mem hs
  have:=(hk.sites.sz i hi).2
  rw [O0 hi];omega
theorem DU.hr {h:Hp} (hk:DU h) (i:Nat):(0≤(ob h.BD i).holds∧(ob h.BD i).holds≤20)∧(0≤(ob h.BD i).roots∧(ob h.BD i).roots≤20):=by
 by_cases hi:i<8
 ·cases hv:(ob h.BD i).live with
  | true=>exact ⟨((hk.obj i hi).lv hv).2.2.1,((hk.obj i hi).lv hv).2.2.2.1⟩
  | false=>have:=(hk.obj i hi).dead hv;omega
 ·have:ob h.BD i=⟨false,0,0,0,0,0,[],false⟩:=by unfold ob;rw [List.getD_eq_getElem?_getD,List.getElem?_eq_none (by have:=hk.ol;omega)];rfl
  rw [this];simp
theorem DU.fd {h:Hp} (hk:DU h) (i:Nat): ∀f∈(ob h.BD i).field,f= -1∨0≤f:=by
 intro f hf
 by_cases hi:i<8
 ·obtain ⟨j,hj,rfl⟩:=List.getElem_of_mem hf
  have ho:=hk.obj i hi
  by_cases h1:gI (ob h.BD i).field j= -1
  ·left;rw [GD hj];exact h1
  ·right
   have:=BV (ho.lead j (by have:=ho.len;omega) h1).2
   rw [GD hj];omega
 ·have:ob h.BD i=⟨false,0,0,0,0,0,[],false⟩:=by unfold ob;rw [List.getD_eq_getElem?_getD,List.getElem?_eq_none (by have:=hk.ol;omega)];rfl
  rw [this] at hf;simp at hf
theorem kinds (k:Int):k=1∨(k=2∨k=3∨k=5∨k=6)∨k=4∨k=7∨(k=8∨k=9)∨k=10∨ ¬(k=1∨k=2∨k=3∨k=4∨k=5∨k=6∨k=7∨k=8∨k=9∨k=10):=by omega
theorem fT {h:Hp} {o:Op5} {K:J2} (hk:DU h) (hn:VN h) (ha:F64 o.a) (hc:F64 o.c) (hK:K [I (JL h o).2.code,I (JL h o).2.val] (tI (JL h o).2.freed::trees (JL h o).1)):cl2 ⟨Tryz.prog,w0⟩ 73 EW.sg [I o.kind,I o.a,I o.b,I o.c, .string o.site] (trees h) K:=by
 have st:=hk.st hn
 have hr:=hk.hr
 refine EW.cl2 ?_
 unfold EW.txt
 obtain ⟨os,ws,buf,ss⟩:=h
 obtain ⟨kd,a,b,c,s⟩:=o
 have hol:os.length=8:=st.ol
 have hof: ∀o∈os,OF o:=st.of
 have hb:buf.length≤100:=st.bl
 simp only at ha hc hr
 simp only [trees]
 unfold JL at hK
 simp only at hK
 rcases kinds kd with rfl | hkd | rfl | rfl | hkd | rfl | hkd
 ·rw [if_pos rfl] at hK
  exact BA (CM rfl (iK hol st.sl hK))
 ·rw [if_neg (by omega),if_pos hkd] at hK
  have cc:=fun {K:J2}=>bN (w0:=w0) (os:=os) (buf:=buf) (b:=tR tW ws) (d:=tS ss) (kind:=kd) (id:=a) (K:=K) hol hof hb ha hkd hr
  rcases hkd with rfl | rfl | rfl | rfl
  all_goals
   repeat' (first | refine BS ?_ | refine BP ?_ | refine BT ?_ | refine BA ?_ | simp only [AK,AS,AJ,AI,AM,AE,AH,AN,AO,AP,AL,AR,AT,AQ,BB,BE,BI,BH,BK,BJ,BF,AX,A4,AY,A1,AZ,A5])
   exact cc hK
 ·simp only [if_neg (show ¬(4:Int)=1 by decide),if_neg (show ¬((4:Int)=2∨(4:Int)=3∨(4:Int)=5∨(4:Int)=6) by decide),if_true] at hK
  repeat' (first | refine BS ?_ | refine BP ?_ | refine BT ?_ | refine BA ?_ | simp only [AK,AS,AJ,AI,AM,AE,AH,AN,AO,AP,AL,AR,AT,AQ,BB,BE,BI,BH,BK,BJ,BF,AX,A4,AY,A1,AZ,A5])
  exact iG hol hof hb ha hc hK
 ·simp only [if_neg (show ¬(7:Int)=1 by decide),if_neg (show ¬((7:Int)=2∨(7:Int)=3∨(7:Int)=5∨(7:Int)=6) by decide),if_neg (show ¬(7:Int)=4 by decide),if_true] at hK
  repeat' (first | refine BS ?_ | refine BP ?_ | refine BT ?_ | refine BA ?_ | simp only [AK,AS,AJ,AI,AM,AE,AH,AN,AO,AP,AL,AR,AT,AQ,BB,BE,BI,BH,BK,BJ,BF,AX,A4,AY,A1,AZ,A5])
  exact kE hol st.wl ha hK
 ·rw [if_neg (by omega),if_neg (by omega),if_neg (by omega),if_neg (by omega),if_pos hkd] at hK
  rcases hkd with rfl | rfl
  all_goals
   repeat' (first | refine BS ?_ | refine BP ?_ | refine BT ?_ | refine BA ?_ | simp only [AK,AS,AJ,AI,AM,AE,AH,AN,AO,AP,AL,AR,AT,AQ,BB,BE,BI,BH,BK,BJ,BF,AX,A4,AY,A1,AZ,A5])
   exact cM hol st.wl ha st.wf hK
 ·simp only [if_neg (show ¬(10:Int)=1 by decide),if_neg (show ¬((10:Int)=2∨(10:Int)=3∨(10:Int)=5∨(10:Int)=6) by decide),if_neg (show ¬(10:Int)=4 by decide),if_neg (show ¬(10:Int)=7 by decide),if_neg (show ¬((10:Int)=8∨(10:Int)=9) by decide),if_true] at hK
  repeat' (first | refine BS ?_ | refine BP ?_ | refine BT ?_ | refine BA ?_ | simp only [AK,AS,AJ,AI,AM,AE,AH,AN,AO,AP,AL,AR,AT,AQ,BB,BE,BI,BH,BK,BJ,BF,AX,A4,AY,A1,AZ,A5])
  exact bG st (fun o ho=>(hn.obj o ho).2.2.2.2.1) hK
 ·rw [if_neg (by omega),if_neg (by omega),if_neg (by omega),if_neg (by omega),if_neg (by omega),if_neg (by omega)] at hK
  repeat' (first | refine BS ?_ | refine C3 (by first | with_reducible assumption | omega) ?_ | refine BA ?_ | simp only [AK,AS,AJ,AI,AM,AE,AH,AN,AO,AP,AL,AR,AT,AQ,BB,BE,BI,BH,BK,BJ,BF,AX,A4,AY,A1,AZ,A5])
  all_goals first | exact CG hK | (exfalso;omega)
end Go.Proofs.YtnhicpkhkaihoaaGreat.P
namespace Go.Proofs.YtnhicpkhkaihoaaGreat.P
open Go Go.Proofs.YtnhicpkhkaihoaaGreat Go.Proofs.YtnhicpkhkaihoaaGreat.Eng
set_option linter.unusedVariables false
set_option maxHeartbeats 4000000
set_option linter.unusedVariables false
set_option linter.unusedSimpArgs false
attribute [local irreducible] prP gP gE gF AU ixW ldc ldg ldl stc stg scW mkW apW BG cl2 BX GP CZ
variable {w0:World}
open Classical in
noncomputable def NU (h:Hp) (o:Op5):Hp×An:=if DU h then JL h o else (h,⟨2,0,[]⟩)
theorem QC {h:Hp} {o:Op5} (hk:DU h):NU h o=JL h o:=by unfold NU;rw [if_pos hk]
theorem jO {h:Hp} {o:Op5} (hk: ¬DU h):NU h o=(h,⟨2,0,[]⟩):=by unfold NU;rw [if_neg hk]
theorem fA {h:Hp} {o:Op5} {K:J2} (hf:Fits h) (hn:VN h) (ha:F64 o.a) (hc:F64 o.c) (hK:K [I (NU h o).2.code,I (NU h o).2.val] (trees (NU h o).1++[tI (NU h o).2.freed])):cl2 ⟨Tryz.prog,w0⟩ 44 JU.sg [I o.kind,I o.a,I o.b,I o.c, .string o.site] (trees h) K:=by
 refine JU.cl2 ?_
 unfold JU.txt
 refine RL hf (cI hf hn (fun hk=>BU (BT ?_)) fun hk=>BU (BP ?_))
 ·rw [QC hk] at hK
  exact fT hk hn ha hc hK
 ·rw [jO hk] at hK
  exact CG hK
theorem Q1 {h:Hp} {o:Op5} {K:J2} (hf:Fits h) (hn:VN h) (ha:F64 o.a) (hc:F64 o.c) (hK:K [I (NU h o).2.code,I (NU h o).2.val] (trees (NU h o).1++[tI (NU h o).2.freed])):cl2 ⟨Tryz.prog,w0⟩ 53 GC.sg [I o.kind,I o.a,I o.b,I o.c, .string o.site] (trees h) K:=by
 refine GC.cl2 ?_
 unfold GC.txt
 refine M4 hf (UM hf hn (fun hk=>BU (BT ?_)) fun hk=>BU (BP ?_))
 rotate_left
 ·rw [jO hk] at hK
  exact hK
 rw [QC hk] at hK
 have st:=hk.st hn
 have hr:=hk.hr
 have hfd:=hk.fd
 have hss:=hk.sites
 have hcn: ∀o∈h.BD,F64 o.count:=fun o ho=>(hn.obj o ho).2.2.2.2.1
 clear hf hk
 obtain ⟨kd,a,b,c,s⟩:=o
 have hol:h.BD.length=8:=st.ol
 simp only at ha hc hr
 unfold JL at hK
 simp only at hK
 have hold:=fun {K:J2} (hkd:kd=2∨kd=3∨kd=5∨kd=6)=>cN (w0:=w0) (h:=h) (kind:=kd) (id:=a) (b:=b) (c:=c) (s:=s) (K:=K) st ha hkd hr
 have store:=fun {K:J2}=>bV (w0:=w0) (h:=h) (a0:=kd) (a1:=a) (a2:=b) (a3:=c) (s:=s) (K:=K) st ha hc hfd
 have xF:=fun {K:J2}=>aE (w0:=w0) (h:=h) (K:=K) st hcn
 have weak:=fun {K:J2}=>cK (w0:=w0) (os:=h.BD) (ws:=h.B8) (cc:=tI h.buffer) (d:=tS h.sites) (kind:=kd) (k:=a) (b:=b) (c:=c) (s:=s) (K:=K) hol st.wl ha st.wf
 simp only [trees] at hold store xF ⊢
 rcases kinds kd with rfl | hkd | rfl | rfl | hkd | rfl | hkd
 ·rw [if_pos rfl] at hK
  exact BA (CM rfl (bO hol hss hK))
 ·rw [if_neg (by omega),if_pos hkd] at hK
  replace hold:=fun {K:J2}=>hold (K:=K) hkd
  rcases hkd with rfl | rfl | rfl | rfl
  all_goals
   repeat' (first | refine BS ?_ | refine BP ?_ | refine BT ?_ | refine BA ?_ | simp only [AK,AS,AJ,AI,AM,AE,AH,AN,AO,AP,AL,AR,AT,AQ,BB,BE,BI,BH,BK,BJ,BF,AX,A4,AY,A1,AZ,A5])
   exact hold hK
 ·simp only [if_neg (show ¬(4:Int)=1 by decide),if_neg (show ¬((4:Int)=2∨(4:Int)=3∨(4:Int)=5∨(4:Int)=6) by decide),if_true] at hK
  repeat' (first | refine BS ?_ | refine BP ?_ | refine BT ?_ | refine BA ?_ | simp only [AK,AS,AJ,AI,AM,AE,AH,AN,AO,AP,AL,AR,AT,AQ,BB,BE,BI,BH,BK,BJ,BF,AX,A4,AY,A1,AZ,A5])
  exact store hK
 ·simp only [if_neg (show ¬(7:Int)=1 by decide),if_neg (show ¬((7:Int)=2∨(7:Int)=3∨(7:Int)=5∨(7:Int)=6) by decide),if_neg (show ¬(7:Int)=4 by decide),if_true] at hK
  repeat' (first | refine BS ?_ | refine BP ?_ | refine BT ?_ | refine BA ?_ | simp only [AK,AS,AJ,AI,AM,AE,AH,AN,AO,AP,AL,AR,AT,AQ,BB,BE,BI,BH,BK,BJ,BF,AX,A4,AY,A1,AZ,A5])
  exact weak (fun _=>hK) (fun hh=>absurd rfl hh)
 ·rw [if_neg (by omega),if_neg (by omega),if_neg (by omega),if_neg (by omega),if_pos hkd] at hK
  rcases hkd with rfl | rfl
  all_goals
   repeat' (first | refine BS ?_ | refine BP ?_ | refine BT ?_ | refine BA ?_ | simp only [AK,AS,AJ,AI,AM,AE,AH,AN,AO,AP,AL,AR,AT,AQ,BB,BE,BI,BH,BK,BJ,BF,AX,A4,AY,A1,AZ,A5])
   exact weak (fun hh=>absurd hh (by decide)) (fun _=>hK)
 ·simp only [if_neg (show ¬(10:Int)=1 by decide),if_neg (show ¬((10:Int)=2∨(10:Int)=3∨(10:Int)=5∨(10:Int)=6) by decide),if_neg (show ¬(10:Int)=4 by decide),if_neg (show ¬(10:Int)=7 by decide),if_neg (show ¬((10:Int)=8∨(10:Int)=9) by decide),if_true] at hK
  repeat' (first | refine BS ?_ | refine BP ?_ | refine BT ?_ | refine BA ?_ | simp only [AK,AS,AJ,AI,AM,AE,AH,AN,AO,AP,AL,AR,AT,AQ,BB,BE,BI,BH,BK,BJ,BF,AX,A4,AY,A1,AZ,A5])
  exact xF hK
 ·rw [if_neg (by omega),if_neg (by omega),if_neg (by omega),if_neg (by omega),if_neg (by omega),if_neg (by omega)] at hK
  repeat' (first | refine BS ?_ | refine C3 (by first | with_reducible assumption | omega) ?_ | refine BA ?_ | simp only [AK,AS,AJ,AI,AM,AE,AH,AN,AO,AP,AL,AR,AT,AQ,BB,BE,BI,BH,BK,BJ,BF,AX,A4,AY,A1,AZ,A5])
  all_goals first | exact hK | (exfalso;omega)
end Go.Proofs.YtnhicpkhkaihoaaGreat.P
namespace Go.Proofs.YtnhicpkhkaihoaaGreat.P
open Go Go.Proofs.YtnhicpkhkaihoaaGreat Go.Proofs.YtnhicpkhkaihoaaGreat.Eng
set_option linter.unusedVariables false
def okE (n:Int) (l:List ByteArray) (a b c d:Int) (s:ByteArray) (k v:Int) (xs:List Int):Bool:=(cY a b c d s&&WI k v xs)&&W9 n l
def Fx (q:ByteArray×Int) (x:Int):ByteArray×Int:=(q.1++SI (x-q.2),x)
def base (n:Int) (l:List ByteArray) (a b c d:Int) (s:ByteArray) (k v:Int) (m:Nat):ByteArray:=((((((SI a++SI (b-n))++SI c)++SI (d-b))++SD l s)++V k)++SI (v-b))++V m
def stE (p:ByteArray×Int) (xs:List Int) (i:Nat):ByteArray×Int:=(xs.take i).foldl Fx p
theorem ZI {p:ByteArray×Int} {xs:List Int} {i:Nat} (hi:i<xs.length):stE p xs (i+1)=Fx (stE p xs i) xs[i]:=by
 rw [stE,List.take_succ_eq_append_getElem hi,List.foldl_append];rfl
theorem fP {p:ByteArray×Int} {xs:List Int} (hp:MH p.2=true) (hx:xs.all MH=true): ∀i,i≤xs.length→MH (stE p xs i).2=true∧(stE p xs i).1.size≤p.1.size+7*i
 | 0,_=>⟨hp,Nat.le_refl _⟩
 | i+1,hi=>by
   obtain ⟨h1,h2⟩:=fP hp hx i (by omega)
   rw [ZI (by omega)]
   refine ⟨List.all_eq_true.1 hx _ (List.getElem_mem _), ?_⟩
   have:=IK (zg (xs[i]-(stE p xs i).2))
   simp only [Fx,ByteArray.size_append,SI];omega
theorem UZ (l:List ByteArray) (s:ByteArray):(SD l s).size≤22:=by
 unfold SD;split
 ·have:=IK (at_ l s+1);omega
 ·have h1:=IK 0
  have h2:=fN s
  rw [ByteArray.size_append];omega
theorem IS (n:Int):(SI n).size≤7:=IK _
theorem GZ {n:Int} (h:MH n=true): -1000000000≤n∧n≤1000000000:=KR.1 h
def MI (n:Int) (l:List ByteArray) (a b c d:Int) (s:ByteArray) (k v:Int) (xs:List Int):ByteArray×Int×List ByteArray:=
 if okE n l a b c d s k v xs then ((stE (base n l a b c d s k v xs.length,b) xs xs.length).1,b,cJ l s) else (⟨#[]⟩,n,l)
theorem QM {n:Int} {l:List ByteArray} {a b c d:Int} {s:ByteArray} {k v:Int} {xs:List Int} (h:okE n l a b c d s k v xs=true):MH a=true∧MH b=true∧MH c=true∧MH d=true∧MH v=true∧MH n=true∧xs.all MH=true∧xs.length≤8∧(0≤k∧k≤6)∧l.length≤400:=by
 simp only [okE,cY,WI,W9,Bool.and_eq_true,decide_eq_true_eq] at h
 exact ⟨h.1.1.1.1.1.1,h.1.1.1.1.1.2,h.1.1.1.1.2,h.1.1.1.2,h.1.2.1.1.2,h.2.1.1,h.1.2.2,h.1.2.1.2,KR.1 h.1.2.1.1.1,h.2.1.2⟩
theorem XN (n:Int) (l:List ByteArray) (a b c d:Int) (s:ByteArray) (k v:Int) (m:Nat):(base n l a b c d s k v m).size≤71:=by
 have h1:=IS a;have h2:=IS (b-n);have h3:=IS c;have h4:=IS (d-b);have h5:=UZ l s;have h6:=IK k;have h7:=IS (v-b);have h8:=IK m
 simp only [base,ByteArray.size_append];omega
theorem QP {w0:World} {n:Int} {l:List ByteArray} {a b c d:Int} {s:ByteArray} {k v:Int} {xs:List Int} {K:J2} (hl:l.length<2^40) (hx:(xs.length:Int)<2^62)
  (h:K [.string (MI n l a b c d s k v xs).1,I (MI n l a b c d s k v xs).2.1] [tS (MI n l a b c d s k v xs).2.2]):cl2 ⟨Tryz.prog,w0⟩ 74 DN.sg [I n,I a,I b,I c,I d, .string s,I k,I v] [tS l,tI xs] K:=by
 refine DN.cl2 ?_
 unfold DN.txt
 simp only [AH,AE]
 refine WV (BU (IJ (Z6 (fun _ K hk=>U6 hx hk) (IJ (Z6 (fun _ K hk=>YL (by omega) hk) (JJ (fun hb=> ?_) fun hb=> ?_))))))
 ·have hno:okE n l a b c d s k v xs=false:=by
   revert hb;unfold okE
   cases cY a b c d s <;> cases WI k v xs <;> cases W9 n l <;> simp
  rw [MI,hno] at h
  refine VO (RG l) (by simp [cnt];omega) ?_
  rw [List.nil_append];exact h
 ·have hok:okE n l a b c d s k v xs=true:=by
   revert hb;unfold okE
   cases cY a b c d s <;> cases WI k v xs <;> cases W9 n l <;> simp
  rw [MI,if_pos hok] at h
  obtain ⟨ha,hb,hc,hd,hv,hn,hxs,hxl,hk,hll⟩:=QM hok
  have a1:=GZ ha;have b1:=GZ hb;have c1:=GZ hc;have d1:=GZ hd;have v1:=GZ hv;have n1:=GZ hn
  have h1:=IS a;have h2:=IS (b-n);have h3:=IS c;have h4:=IS (d-b);have h5:=UZ l s;have h6:=IK k;have h7:=IS (v-b);have h8:=IK xs.length
  refine aG hl (IC (DO ⟨by omega,by omega⟩ (IC (CB (by omega) (IC (CB (by simp only [ByteArray.size_append];omega) (DO ⟨by omega,by omega⟩ (IC (CB (by simp only [ByteArray.size_append];omega) (CB (by simp only [ByteArray.size_append];omega) (KF ⟨by omega,by omega⟩ (CB (by simp only [ByteArray.size_append];omega) (DO ⟨by omega,by omega⟩ (IC (CB (by simp only [ByteArray.size_append];omega) (KF (n:=Int.ofNat xs.length) ⟨by simp only [Int.ofNat_eq_natCast];omega,by simp only [Int.ofNat_eq_natCast];omega⟩ (CB (by simp only [Int.ofNat_eq_natCast,ByteArray.size_append];omega) ?_)))))))))))))))))
  have hbs:=XN n l a b c d s k v xs.length
  refine A9 (fun i=>[.string (stE (base n l a b c d s k v xs.length,b) xs i).1,I (stE (base n l a b c d s k v xs.length,b) xs i).2,iv i,I a,I b,I c,I d, .string s,I k,I v, .int .i64 0,I n]) (fun _=>[tS (cJ l s)]) xs.length (fun _=>True) rfl rfl trivial (fun R i hi _ hR=> ?_)
  refine L6 (AG (fun hlt=> ?_) fun hge=> ?_)
  ·obtain ⟨q1,q2⟩:=fP (p:=(base n l a b c d s k v xs.length,b)) hb hxs i hi
   have q3:=GZ q1
   have q4:=GZ (List.all_eq_true.1 hxs _ (List.getElem_mem hlt))
   simp only at q2
   have q5:=IS (xs[i]-(stE (base n l a b c d s k v xs.length,b) xs i).2)
   have:=hR hlt trivial
   rw [ZI hlt] at this
   exact AW hlt (OP hlt (DO ⟨by omega,by omega⟩ (IC (CB (by omega) (AW hlt (OP hlt (A6 (by omega) this)))))))
  ·have:i=xs.length:=by omega
   subst this
   exact h
end Go.Proofs.YtnhicpkhkaihoaaGreat.P
namespace Go.Proofs.YtnhicpkhkaihoaaGreat.P
open Go Go.Proofs.YtnhicpkhkaihoaaGreat Go.Proofs.YtnhicpkhkaihoaaGreat.Eng
set_option linter.unusedVariables false
theorem qF {f:J2} {g:J2→Prop} (P:List Value→List (List T)→Prop) (h1: ∀xs cs,P xs cs→f xs cs) (h2: ∀j:J2,(∀xs cs,P xs cs→j xs cs)→g j):BX f g:=h2 f h1
theorem QF {w0:World} {n:Int} {l:List ByteArray} {a b c d:Int} {s:ByteArray} {k v:Int} {xs:List Int} {K:J2} (hl:l.length<2^40) (hx:(xs.length:Int)<2^62)
  (h:K [.string (MI n l a b c d s k v xs).1,I (MI n l a b c d s k v xs).2.1] [tS (MI n l a b c d s k v xs).2.2]):cl2 ⟨Tryz.prog,w0⟩ 46 DI.sg [I n,I a,I b,I c,I d, .string s,I k,I v] [tS l,tI xs] K:=by
 refine DI.cl2 ?_
 unfold DI.txt
 simp only [AH,AE]
 refine S5 (by omega) (WZ (BU (IJ (Z6 (fun _ K hk=>VT hx hk) (IJ (Z6 (fun _ K hk=>hC (by omega) hk) (JJ (fun hb=> ?_) fun hb=> ?_)))))))
 ·have hno:okE n l a b c d s k v xs=false:=by
   revert hb;unfold okE
   cases cY a b c d s <;> cases WI k v xs <;> cases W9 n l <;> simp
  rw [MI,hno] at h
  exact h
 ·have hok:okE n l a b c d s k v xs=true:=by
   revert hb;unfold okE
   cases cY a b c d s <;> cases WI k v xs <;> cases W9 n l <;> simp
  rw [MI,if_pos hok] at h
  obtain ⟨ha,hb,hc,hd,hv,hn,hxs,hxl,hk,hll⟩:=QM hok
  have a1:=GZ ha;have b1:=GZ hb;have c1:=GZ hc;have d1:=GZ hd;have v1:=GZ hv;have n1:=GZ hn
  have h1:=IS a;have h2:=IS (b-n);have h3:=IS c;have h4:=IS (d-b);have h5:=UZ l s;have h6:=IK k;have h7:=IS (v-b);have h8:=IK xs.length
  refine JI (DO ⟨by omega,by omega⟩ (JI (CB (by omega) (JI (CB (by simp only [ByteArray.size_append];omega) (DO ⟨by omega,by omega⟩ (JI (CB (by simp only [ByteArray.size_append];omega) ?_))))))))
  refine qF (fun ys cs=>ys=[.string (((((SI a++SI (b-n))++SI c)++SI (d-b)))++SD l s),I a,I b,I c,I d, .string s,I k,I v, .int .i64 0,I b]∧cs=[tS (cJ l s)]) (fun ys cs hp=> ?_) fun j hj=> ?_
  ·obtain ⟨rfl,rfl⟩:=hp
   refine LG ⟨by omega,by omega⟩ (DO ⟨by omega,by omega⟩ (JI (CB (by omega) (LG (n:=Int.ofNat xs.length) ⟨by simp only [Int.ofNat_eq_natCast];omega,by simp only [Int.ofNat_eq_natCast];omega⟩ (CB (by simp only [Int.ofNat_eq_natCast,ByteArray.size_append];omega) (CB (by simp only [Int.ofNat_eq_natCast,ByteArray.size_append];omega) ?_))))))
   have hbs:=XN n l a b c d s k v xs.length
   refine A9 (fun i=>[.string (stE (base n l a b c d s k v xs.length,b) xs i).1,I (stE (base n l a b c d s k v xs.length,b) xs i).2,iv xs.length,iv i, .int .i64 0,I b]) (fun _=>[tS (cJ l s)]) xs.length (fun _=>True) ?_ rfl trivial (fun R i hi _ hR=> ?_)
   ·have e:(stE (base n l a b c d s k v xs.length,b) xs 0)=(base n l a b c d s k v xs.length,b):=rfl
    rw [e]
    simp only [base,ByteArray.append_assoc,Int.ofNat_eq_natCast]
    rfl
   refine L6 (AG (fun hlt=> ?_) fun hge=> ?_)
   ·obtain ⟨q1,q2⟩:=fP (p:=(base n l a b c d s k v xs.length,b)) hb hxs i hi
    have q3:=GZ q1
    have q4:=GZ (List.all_eq_true.1 hxs _ (List.getElem_mem hlt))
    simp only at q2
    have q5:=IS (xs[i]-(stE (base n l a b c d s k v xs.length,b) xs i).2)
    have:=hR hlt trivial
    rw [ZI hlt] at this
    exact AW hlt (OP hlt (DO ⟨by omega,by omega⟩ (JI (CB (by omega) (A6 (by omega) this)))))
   ·have:i=xs.length:=by omega
    subst this
    exact h
  ·refine PZ (by omega) (JA (b:=0) (AG (fun hge=> ?_) fun hlt=> ?_))
   ·have hm:s∈l:=by
     by_cases hm:s∈l
     ·exact hm
     ·rw [at_,if_neg hm] at hge;omega
    have hat:at_ l s≤l.length:=by rw [at_,if_pos hm];have:=List.idxOf_lt_length_of_mem hm;omega
    have hv:=IK (at_ l s+1)
    refine B3 (b:=1) ⟨by omega,by omega⟩ (LG ⟨by omega,by omega⟩ (CB (by simp only [ByteArray.size_append];omega) (hj _ _ ⟨?_, ?_⟩)))
    ·rw [SD,if_pos hm]
    ·rw [cJ,if_pos hm];rfl
   ·have hm:s∉l:=by
     intro hm
     rw [at_,if_pos hm] at hlt;omega
    have hv:=IK 0
    have hs:=fN s
    refine LG ⟨by omega,by omega⟩ (YH (CB (by omega) (CB (by simp only [ByteArray.size_append];omega) (VO rfl ?_ (hj _ _ ⟨?_, ?_⟩)))))
    ·have hc:cnt 1 (nxc [tS l] 0)=l.length:=AH l
     rw [hc];simp [cnt];omega
    ·rw [SD,if_neg hm]
    ·rw [cJ,if_neg hm];simp [tS,nxc]
end Go.Proofs.YtnhicpkhkaihoaaGreat.P
