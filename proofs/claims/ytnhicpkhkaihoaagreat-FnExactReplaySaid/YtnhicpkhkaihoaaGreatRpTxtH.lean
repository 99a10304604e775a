/- A part of the proof. -/
import Derived.Test.YtnhicpkhkaihoaaGreatRpHpR
import Derived.Test.YtnhicpkhkaihoaaGreatRpHpG
namespace Go.Proofs.YtnhicpkhkaihoaaGreat.P
open Go Go.Proofs.YtnhicpkhkaihoaaGreat Go.Proofs.YtnhicpkhkaihoaaGreat.Eng
set_option linter.unusedVariables false
set_option maxHeartbeats 4000000
set_option linter.unusedVariables false
set_option linter.unusedSimpArgs false
attribute [local irreducible] prP gP gE gF AG ixW ldc ldg ldl stc stg scW mkW apW BA cl2 B6 G8 C3
variable {w0:World}
theorem e7 {os:List A8} {i:Nat} (hi:i<os.length):(os.take (i+1)).map (·.count)=(os.take i).map (·.count)++[(ob os i).count]:=by
 rw [List.take_succ_eq_append_getElem hi,List.map_append,EW hi];rfl
theorem YJ {os:List A8} {b c d:List T} {K:J2} (hol:os.length=8) (h:K [] [tI (os.map (·.count)),tI (List.replicate 8 0)]):cl2 ⟨Tryz.prog,w0⟩ 172 GX.sg [] [tR tO os,b,c,d] K:=by
 refine GX.cl2 ?_
 unfold GX.txt
 simp only [AM,AT,AL,AK,AN,AE,AI,AV,AU,AS,AP,AQ,AO,AR,BD,BE,BH,BG,BJ,BL,BF,AZ,A6,A1,AY,A5,A4]
 refine A7 (fun i=>[iv os.length,iv i]) (fun i=>[tI ((os.take i).map (·.count)),tI (List.replicate i 0)]) os.length (fun _=>True) rfl rfl trivial (fun R i hi hP hR=> ?_)
 have hln:((os.take i).map (·.count)).length=i:=by simp;omega
 have hl2:(List.replicate i (0:Int)).length=i:=List.length_replicate
 simp only [AM,AT,AL,AK,AN,AE,AI,AV,AU,AS,AP,AQ,AO,AR,BD,BE,BH,BG,BJ,BL,BF,AZ,A6,A1,AY,A5,A4]
 refine AJ (AH (fun hlt=> ?_) fun hge=> ?_)
 ·have hlt:i<os.length:=by omega
  replace hR:=hR hlt trivial
  rw [e7 hlt, ←FD,List.replicate_succ', ←FD] at hR
  refine B4 (AW hlt (RI hlt ?_))
  simp only [wL]
  exact AJ (CT (by omega) (D8 rfl (by omega) (D8 rfl (by omega) (AX (by omega) hR))))
 ·have:i=os.length:=by omega
  subst this
  rw [List.take_length,hol];exact h
theorem YF {os:List A8} {b c d:List T} {K:J2} (hol:os.length=8) (h:K [] [tI (os.map (·.count)),tI (List.replicate 8 0)]):cl2 ⟨Tryz.prog,w0⟩ 160 GK.sg [] [tR tO os,b,c,d] K:=by
 refine GK.cl2 ?_
 unfold GK.txt
 simp only [AM,AT,AL,AK,AN,AE,AI,AV,AU,AS,AP,AQ,AO,AR,BD,BE,BH,BG,BJ,BL,BF,AZ,A6,A1,AY,A5,A4]
 refine A7 (fun i=>[iv i]) (fun i=>[tI ((os.take i).map (·.count)),tI (List.replicate i 0)]) os.length (fun _=>True) rfl rfl trivial (fun R i hi hP hR=> ?_)
 have hln:((os.take i).map (·.count)).length=i:=by simp;omega
 have hl2:(List.replicate i (0:Int)).length=i:=List.length_replicate
 simp only [AM,AT,AL,AK,AN,AE,AI,AV,AU,AS,AP,AQ,AO,AR,BD,BE,BH,BG,BJ,BL,BF,AZ,A6,A1,AY,A5,A4]
 refine AJ (BM (JR (fun hlt=> ?_) fun hge=> ?_))
 ·have hlt':i<os.length:=by omega
  replace hR:=hR hlt' trivial
  rw [e7 hlt', ←FD,List.replicate_succ', ←FD] at hR
  refine AJ (CL hlt rfl (CT (by omega) ?_))
  exact AW hlt' (KM (v:=I (ob os i).count) hlt' (by decide) rfl (D8 rfl (by omega) (D8 rfl (by omega) (AX (by omega) hR))))
 ·have:i=os.length:=by omega
  subst this
  refine CJ hge rfl (BQ ?_)
  rw [List.take_length,hol];exact h
theorem dP {cs col:List Int} {W:Nat→Bool} {K:J2} (hl:col.length=8) (hw: ∀k,k<8→(gI col k=2↔W k=true)) (h:K [] [tI (C2 W 8)]):cl2 ⟨Tryz.prog,w0⟩ 175 I1.sg [] [tI cs,tI col] K:=by
 refine I1.cl2 ?_
 unfold I1.txt
 simp only [AM,AT,AL,AK,AN,AE,AI,AV,AU,AS,AP,AQ,AO,AR,BD,BE,BH,BG,BJ,BL,BF,AZ,A6,A1,AY,A5,A4]
 refine A7 (fun i=>[iv col.length,iv i]) (fun i=>[tI (C2 W i)]) col.length (fun _=>True) rfl rfl trivial (fun R i hi hP hR=> ?_)
 have hln:(C2 W i).length≤i:=OJ (fun i=>by split <;> simp) i
 simp only [AM,AT,AL,AK,AN,AE,AI,AV,AU,AS,AP,AQ,AO,AR,BD,BE,BH,BG,BJ,BL,BF,AZ,A6,A1,AY,A5,A4]
 refine AJ (AH (fun hlt=> ?_) fun hge=> ?_)
 ·have hlt:i<col.length:=by omega
  replace hR:=hR hlt trivial
  have hwi:=hw i (by omega)
  refine B4 (AW hlt (ldI hlt (BI (AH (fun h2=> ?_) fun h2=> ?_))))
  ·have e:C2 W (i+1)=C2 W i++[(i:Int)]:=by show C2 W i++(if W i=true then [(i:Int)] else [])=_;rw [if_pos (hwi.1 h2)]
   rw [e, ←FD] at hR
   exact D8 rfl (by omega) (AX (by omega) hR)
  ·have e:C2 W (i+1)=C2 W i:=by show C2 W i++(if W i=true then [(i:Int)] else [])=_;rw [if_neg (fun hh=>h2 (hwi.2 hh)),List.append_nil]
   rw [e] at hR
   exact AX (by omega) hR
 ·have:i=col.length:=by omega
  subst this
  rw [hl];exact h
theorem dU {cs col:List Int} {W:Nat→Bool} {K:J2} (hl:col.length=8) (hw: ∀k,k<8→(gI col k=2↔W k=true)) (h:K [] [tI (C2 W 8)]):cl2 ⟨Tryz.prog,w0⟩ 163 IQ.sg [] [tI cs,tI col] K:=by
 refine IQ.cl2 ?_
 unfold IQ.txt
 simp only [AM,AT,AL,AK,AN,AE,AI,AV,AU,AS,AP,AQ,AO,AR,BD,BE,BH,BG,BJ,BL,BF,AZ,A6,A1,AY,A5,A4]
 refine A7 (fun i=>[iv i]) (fun i=>[tI (C2 W i)]) col.length (fun _=>True) rfl rfl trivial (fun R i hi hP hR=> ?_)
 have hln:(C2 W i).length≤i:=OJ (fun i=>by split <;> simp) i
 simp only [AM,AT,AL,AK,AN,AE,AI,AV,AU,AS,AP,AQ,AO,AR,BD,BE,BH,BG,BJ,BL,BF,AZ,A6,A1,AY,A5,A4]
 refine AJ (AH (fun hlt=> ?_) fun hge=> ?_)
 ·have hlt:i<col.length:=by omega
  replace hR:=hR hlt trivial
  have hwi:=hw i (by omega)
  refine B4 (AW hlt (ldI hlt (BI (AH (fun h2=> ?_) fun h2=> ?_))))
  ·have e:C2 W (i+1)=C2 W i++[(i:Int)]:=by show C2 W i++(if W i=true then [(i:Int)] else [])=_;rw [if_pos (hwi.1 h2)]
   rw [e, ←FD] at hR
   exact D8 rfl (by omega) (AX (by omega) hR)
  ·have e:C2 W (i+1)=C2 W i:=by show C2 W i++(if W i=true then [(i:Int)] else [])=_;rw [if_neg (fun hh=>h2 (hwi.2 hh)),List.append_nil]
   rw [e] at hR
   exact AX (by omega) hR
 ·have:i=col.length:=by omega
  subst this
  rw [hl];exact h
theorem MK.start {os:List A8} (hol:os.length=8) (hc: ∀o∈os,F64 o.count):MK os (fun i=>(ob os i).count) [] (os.map (·.count)) (List.replicate 8 0):=by
 have hz: ∀k,k<8→gI (List.replicate 8 (0:Int)) k=0:=fun k hk=>by unfold gI;rw [List.getD_eq_getElem?_getD,List.getElem?_replicate,if_pos hk];rfl
 have hcs: ∀i,i<8→gI (os.map (·.count)) i=(ob os i).count:=fun i hi=>by
  rw [←G7 (by simp;omega),List.getElem_map,EW (by omega)]
 have hF: ∀i,i<8→F64 (ob os i).count:=fun i hi=>hc _ (IH (by omega))
 refine ⟨⟨by simp [hol],by simp⟩,fun i hi=>by rw [hcs i hi];exact hF i hi,fun k hk h1=> ?_,fun k hk h1=>⟨hz k hk, ?_⟩,fun i hi=> ?_⟩
 ·rw [hz k hk] at h1;omega
 ·rintro ⟨b,hb,_⟩;simp at hb
 ·have:S os (isC (List.replicate 8 0) 1) i=0:=MY fun k hk=>by unfold isC;rw [hz k hk];rfl
  rw [hcs i hi,this,Int.sub_zero,P1 (hF i hi)]
theorem Cl {os:List A8} {W:Nat→Bool} {j:Nat} (hj:j<(C2 W 8).length) {x:Nat} (hx:gI (C2 W 8) j=(x:Int)):(fun i:Nat=>if ((i:Nat):Int)∈(C2 W 8).take (j+1) then DC (ob os i).gen else ob os i)=fun i=>if i=x then DC (ob os x).gen else (if ((i:Nat):Int)∈(C2 W 8).take j then DC (ob os i).gen else ob os i):=by
 funext i
 rw [List.take_succ_eq_append_getElem hj,G7 hj,hx]
 simp only [List.mem_append,List.mem_singleton]
 by_cases hi:i=x
 ·subst hi;simp
 ·have: ¬(i:Int)=(x:Int):=by omega
  simp [hi,this]
def T1 (os:List A8) (W:Nat→Bool) (i:Nat):A8:=if W i=true then DC (ob os i).gen else ob os i
theorem qJ (os:List A8) (W:Nat→Bool) (i:Nat):{T1 os W i with purple:=false}=EB os W i:=by
 unfold T1 EB
 split <;> rfl
theorem SU (os:List A8) (W:Nat→Bool) (i:Nat):(IZ os W i).live=(EB os W i).live∧(IZ os W i).gen=(EB os W i).gen∧(IZ os W i).field=(EB os W i).field:=by
 unfold IZ;split <;> exact ⟨rfl,rfl,rfl⟩
theorem lN (os:List A8) (W:Nat→Bool) (i:Nat):(T1 os W i).live=(EB os W i).live∧(T1 os W i).gen=(EB os W i).gen∧(T1 os W i).field=(EB os W i).field:=by
 rw [←qJ];exact ⟨rfl,rfl,rfl⟩
theorem lP {os:List A8} (hof: ∀o∈os,OF o) (hol:os.length=8) (W:Nat→Bool) {i:Nat} (hi:i<8):(EB os W i).field.length=3:=by
 unfold EB
 split
 ·rfl
 ·exact (hof _ (IH (by omega))).len
theorem cI {h:Hp} {K:J2} (st:St h) (hc: ∀o∈h.BC,F64 o.count) (hK:K [] [tR tO (PG h.BC h.buffer).1,tR tW h.B8,[],tS h.sites,tI (PG h.BC h.buffer).2]):cl2 ⟨Tryz.prog,w0⟩ 131 HH.sg [] (trees h) K:=by
 refine HH.cl2 ?_
 unfold HH.txt
 refine RQ st.fits ?_
 obtain ⟨os,ws,buf,ss⟩:=h
 have hol:os.length=8:=st.ol
 have hof: ∀o∈os,OF o:=st.of
 have hb:buf.length≤100:=st.bl
 have hbf: ∀x∈buf,F64 x:=st.bf
 simp only at hc hK
 simp only [trees]
 obtain ⟨ct,hct⟩: ∃ct:Nat→Int,ct=fun i=>(ob os i).count:=⟨_,rfl⟩
 obtain ⟨W,hW⟩: ∃W,W=O9 os ct buf:=⟨_,rfl⟩
 unfold PG at hK
 rw [←hct, ←hW] at hK
 simp only [AM,AT,AL,AK,AN,AE,AI,AV,AU,AS,AP,AQ,AO,AR,BD,BE,BH,BG,BJ,BL,BF,AZ,A6,A1,AY,A5,A4]
 refine B2 (BV (by omega) (YJ hol ?_))
 refine C8 (α:=Nat×List Int×List Int) (fun q=>[iv buf.length,iv q.1]) (fun q=>[tR tO os,tR tW ws,tI buf,tS ss,tI q.2.1,tI q.2.2]) (fun q=>buf.length-q.1) (fun q=>q.1≤buf.length∧MK os ct (buf.take q.1) q.2.1 q.2.2) (0,os.map (·.count),List.replicate 8 0) rfl rfl ⟨Nat.zero_le _,by rw [hct];exact MK.start hol hc⟩ (fun R q hq hR=> ?_)
 obtain ⟨i,cs,col⟩:=q
 obtain ⟨hi,mk⟩:=hq
 simp only at hi mk
 simp only [AM,AT,AL,AK,AN,AE,AI,AV,AU,AS,AP,AQ,AO,AR,BD,BE,BH,BG,BJ,BL,BF,AZ,A6,A1,AY,A5,A4]
 refine AJ (AH (fun hlt=> ?_) fun hge=> ?_)
 ·have hlt:i<buf.length:=by omega
  have hx:=hbf _ (FZ hlt)
  have nx:=fun cs' col' (m:MK os ct (buf.take i++[gI buf i]) cs' col')=>hR (i+1,cs',col') ⟨by simp only;omega,by simp only;rw [List.take_succ_eq_append_getElem hlt,G7 hlt];exact m⟩ (by simp only;omega)
  refine AW hlt (ldI hlt (C6 hx (by omega) (YE hol hof mk.len.1 mk.len.2 mk.f (fun hn=> ?_) fun s hs s8 cs' col' p=> ?_)))
  ·exact AX (by omega) (nx _ _ (mk.none hn))
  ·exact AX (by omega) (nx _ _ (mk.some hs s8 p))
 have:i=buf.length:=by omega
 subst this
 rw [List.take_length] at mk
 refine C8 (α:=Nat×List Int×List Int) (fun q=>[iv buf.length,iv q.1]) (fun q=>[tR tO os,tR tW ws,tI buf,tS ss,tI q.2.1,tI q.2.2]) (fun q=>buf.length-q.1) (fun q=>q.1≤buf.length∧SC os ct buf (buf.take q.1) q.2.1 q.2.2) (0,cs,col) rfl rfl ⟨Nat.zero_le _,SC.start mk⟩ (fun R q hq hR=> ?_)
 obtain ⟨i,cs,col⟩:=q
 obtain ⟨hi,sc⟩:=hq
 simp only at hi sc
 simp only [AM,AT,AL,AK,AN,AE,AI,AV,AU,AS,AP,AQ,AO,AR,BD,BE,BH,BG,BJ,BL,BF,AZ,A6,A1,AY,A5,A4]
 refine AJ (AH (fun hlt=> ?_) fun hge=> ?_)
 ·have hlt:i<buf.length:=by omega
  have hx:=hbf _ (FZ hlt)
  have nx:=fun cs' col' (m:SC os ct buf (buf.take i++[gI buf i]) cs' col')=>hR (i+1,cs',col') ⟨by simp only;omega,by simp only;rw [List.take_succ_eq_append_getElem hlt,G7 hlt];exact m⟩ (by simp only;omega)
  refine AW hlt (ldI hlt (C6 hx (by omega) (YX hol hof sc.si (fun hn=> ?_) fun s hs s8 cs' col' p=> ?_)))
  ·exact AX (by omega) (nx _ _ (sc.none hn))
  ·exact AX (by omega) (nx _ _ (sc.some hs s8 p))
 have:i=buf.length:=by omega
 subst this
 rw [List.take_length] at sc
 have wh:=sc.stop
 rw [←hW] at wh
 refine dP sc.si.len.2 wh ?_
 clear hR sc mk
 have hwn:(C2 W 8).length≤8:=OJ (fun i=>by split <;> simp) 8
 refine A7 (fun j=>[iv (C2 W 8).length,iv j]) (fun j=>[tI (((C2 W 8).take j).map fun x=>DB x (ob os x.toNat).gen),tI (C2 W 8),tR tO (mk8 fun i=>if ((i:Nat):Int)∈(C2 W 8).take j then DC (ob os i).gen else ob os i),tR tW ws,tI buf,tS ss]) (C2 W 8).length (fun _=>True) (by simp only [AM,AT,AL,AK,AN,AE,AI,AV,AU,AS,AP,AQ,AO,AR,BD,BE,BH,BG,BJ,BL,BF,AZ,A6,A1,AY,A5,A4];rfl) ?_ trivial (fun R j hj hP hR=> ?_)
 ·simp only [List.take_zero,List.map_nil,List.not_mem_nil,if_false]
  rw [←cG hol];rfl
 have hln:(((C2 W 8).take j).map fun x=>DB x (ob os x.toNat).gen).length=j:=by simp;omega
 simp only [AM,AT,AL,AK,AN,AE,AI,AV,AU,AS,AP,AQ,AO,AR,BD,BE,BH,BG,BJ,BL,BF,AZ,A6,A1,AY,A5,A4]
 simp only [CW]
 refine AJ (AH (fun hlt=> ?_) fun hge=> ?_)
 ·have hlt:j<(C2 W 8).length:=by omega
  replace hR:=hR hlt trivial
  obtain ⟨x,x8,hx,hwx⟩:=O3.1 (FZ hlt)
  have xl:x<os.length:=by omega
  rw [Cl hlt hx,List.take_succ_eq_append_getElem hlt,List.map_append,G7 hlt,hx, ←Q9 x8] at hR
  refine AW hlt (ldI hlt ?_)
  rw [hx]
  refine AW xl (KM (v:=I (ob os x).gen) xl (by decide) rfl (NJ (D8 rfl (by omega) (AW xl (KM (v:=I (ob os x).gen) xl (by decide) rfl (S1 (AW (by omega) ?_)))))))
  refine OM (f:=tO) (by rw [CW];exact x8) (y:=DC (ob os x).gen) rfl (AX (by omega) ?_)
  simp only [List.map_cons,List.map_nil,Int.toNat_natCast] at hR
  rw [←FD] at hR
  exact hR
 have:j=(C2 W 8).length:=by omega
 subst this
 have e1:(fun i:Nat=>if ((i:Nat):Int)∈(C2 W 8).take (C2 W 8).length then DC (ob os i).gen else ob os i)=fun i=>if ((i:Nat):Int)∈C2 W 8 then DC (ob os i).gen else ob os i:=by rw [List.take_length]
 have e2:mk8 (fun i=>if ((i:Nat):Int)∈C2 W 8 then DC (ob os i).gen else ob os i)=mk8 (T1 os W):=LZ fun i hi=>by
  unfold T1
  by_cases hw:W i=true
  ·rw [if_pos hw,if_pos (O3.2 ⟨i,hi,rfl,hw⟩)]
  ·rw [if_neg hw,if_neg fun hm=>hw (by obtain ⟨k,_,h2,h3⟩:=O3.1 hm;have:k=i:=by omega
                                       subst this;exact h3)]
 rw [e1,e2,List.take_length,iC]
 clear hR e1 e2
 refine A7 (fun i=>[iv 8,iv i]) (fun i=>[tI (MO os W 8),tR tO (mk8 fun k=>if k<i then IZ os W k else T1 os W k),tR tW ws,tI buf,tS ss]) 8 (fun _=>True) rfl rfl trivial (fun R i hi hP hR=> ?_)
 simp only [AM,AT,AL,AK,AN,AE,AI,AV,AU,AS,AP,AQ,AO,AR,BD,BE,BH,BG,BJ,BL,BF,AZ,A6,A1,AY,A5,A4]
 simp only [CW]
 refine AJ (AH (fun hlt=> ?_) fun hge=> ?_)
 ·have hlt:i<8:=by omega
  replace hR:=hR hlt trivial
  have hml:i<(mk8 fun k=>if k<i then IZ os W k else T1 os W k).length:=by rw [CW];exact hlt
  have hoi:(mk8 fun k=>if k<i then IZ os W k else T1 os W k)[i]=T1 os W i:=by rw [EW hml,KX hlt,if_neg (by omega)]
  have hset: ∀v,v=IZ os W i→(mk8 fun k=>if k<i then IZ os W k else T1 os W k).set i v=mk8 fun k=>if k<i+1 then IZ os W k else T1 os W k:=fun v hv=>by
   rw [Q9 hlt]
   refine LZ fun k hk=> ?_
   by_cases h1:k=i
   ·subst h1;rw [if_pos rfl,if_pos (by omega),hv]
   ·rw [if_neg h1]
    by_cases h2:k<i
    ·rw [if_pos h2,if_pos (by omega)]
    ·rw [if_neg h2,if_neg (by omega)]
  have hin: ∀v,v=EB os W i→inE ((mk8 fun k=>if k<i then IZ os W k else T1 os W k).set i v) i=inE (mk8 (EB os W)) i:=fun v hv=>by
   rw [Q9 hlt]
   refine uV (by rw [CW,CW]) fun k hk=> ?_
   rw [CW] at hk
   rw [KX hk,KX hk]
   by_cases h1:k=i
   ·subst h1;rw [if_pos rfl,hv];exact ⟨rfl,rfl,rfl⟩
   ·rw [if_neg h1]
    by_cases h2:k<i
    ·rw [if_pos h2];exact SU os W k
    ·rw [if_neg h2];exact lN os W k
  have hlen3: ∀o∈(mk8 fun k=>if k<i then IZ os W k else T1 os W k).set i (EB os W i),(o.field.length:Int)≤1048576:=fun o ho=>by
   rw [Q9 hlt] at ho
   obtain ⟨k,hk,rfl⟩:=ZF ho
   have hm:=lP hof hol W hk
   by_cases h1:k=i
   ·subst h1;rw [if_pos rfl];omega
   ·rw [if_neg h1]
    by_cases h2:k<i
    ·rw [if_pos h2,(SU os W k).2.2];omega
    ·rw [if_neg h2,(lN os W k).2.2];omega
  generalize (mk8 fun k=>if k<i then IZ os W k else T1 os W k)=M at hml hoi hset hin hlen3 ⊢
  have hM8:M.length=8:=by have:=congrArg List.length (hset (IZ os W i) rfl);rw [List.length_set,CW] at this;exact this
  refine B4 (AW hlt ?_)
  refine XP (f:=tO) (c:=7) (y:={M[i] with purple:=false}) hml (by decide) rfl rfl ?_
  rw [hoi,qJ]
  refine tD (v:= .bool (EB os W i).live) hml rfl ?_
  cases hv:(EB os W i).live with
  | true=>
    refine BS (KG (v:=I (EB os W i).holds) hml (by decide) rfl (KG (v:=I (EB os W i).roots) hml (by decide) rfl (E9 ?_)))
    refine SX ⟨by omega,by omega⟩ (by rw [List.length_set,hM8];decide) hlen3 ?_
    rw [hin _ rfl]
    refine E9 (IA hml ?_)
    rw [hset _ (by unfold IZ;rw [if_pos hv])]
    exact AX (by omega) hR
  | false=>
    refine BQ ?_
    rw [hset _ (by unfold IZ;rw [if_neg (by rw [hv];decide)])]
    exact AX (by omega) hR
 ·have:i=8:=by omega
  subst this
  rw [LZ (g:=IZ os W) fun k hk=>if_pos hk]
  exact hK
theorem uJ {a b c d e f g:List T} {l:List (List T)}:nxc (a::b::c::d::e::f::g::l) 6=g:=rfl
theorem bQ {h:Hp} {K:J2} (st:St h) (hc: ∀o∈h.BC,F64 o.count) (hK:K [] [tR tO (PG h.BC h.buffer).1,tR tW h.B8,[],tS h.sites,tI (PG h.BC h.buffer).2]):cl2 ⟨Tryz.prog,w0⟩ 108 HY.sg [] (trees h) K:=by
 refine HY.cl2 ?_
 unfold HY.txt
 refine M8 st.fits ?_
 obtain ⟨os,ws,buf,ss⟩:=h
 have hol:os.length=8:=st.ol
 have hof: ∀o∈os,OF o:=st.of
 have hb:buf.length≤100:=st.bl
 have hbf: ∀x∈buf,F64 x:=st.bf
 simp only at hc hK
 simp only [trees]
 obtain ⟨ct,hct⟩: ∃ct:Nat→Int,ct=fun i=>(ob os i).count:=⟨_,rfl⟩
 obtain ⟨W,hW⟩: ∃W,W=O9 os ct buf:=⟨_,rfl⟩
 unfold PG at hK
 rw [←hct, ←hW] at hK
 simp only [AM,AT,AL,AK,AN,AE,AI,AV,AU,AS,AP,AQ,AO,AR,BD,BE,BH,BG,BJ,BL,BF,AZ,A6,A1,AY,A5,A4]
 refine B2 (BV (by omega) (YF hol ?_))
 refine C8 (α:=Nat×List Int×List Int) (fun q=>[iv q.1]) (fun q=>[[],tR tO os,tR tW ws,tI buf,tS ss,tI q.2.1,tI q.2.2]) (fun q=>buf.length-q.1) (fun q=>q.1≤buf.length∧MK os ct (buf.take q.1) q.2.1 q.2.2) (0,os.map (·.count),List.replicate 8 0) rfl rfl ⟨Nat.zero_le _,by rw [hct];exact MK.start hol hc⟩ (fun R q hq hR=> ?_)
 obtain ⟨i,cs,col⟩:=q
 obtain ⟨hi,mk⟩:=hq
 simp only at hi mk
 simp only [AM,AT,AL,AK,AN,AE,AI,AV,AU,AS,AP,AQ,AO,AR,BD,BE,BH,BG,BJ,BL,BF,AZ,A6,A1,AY,A5,A4]
 simp only [uJ]
 refine AJ (AH (fun hlt=> ?_) fun hge=> ?_)
 ·have hlt:i<buf.length:=by omega
  have hx:=hbf _ (FZ hlt)
  have nx:=fun cs' col' (m:MK os ct (buf.take i++[gI buf i]) cs' col')=>hR (i+1,cs',col') ⟨by simp only;omega,by simp only;rw [List.take_succ_eq_append_getElem hlt,G7 hlt];exact m⟩ (by simp only;omega)
  refine AW hlt (ldI hlt (C4 hx (by omega) (Y2 hol hof mk.len.1 mk.len.2 mk.f (fun hn=> ?_) fun s hs s8 cs' col' p=> ?_)))
  ·exact AX (by omega) (nx _ _ (mk.none hn))
  ·exact AX (by omega) (nx _ _ (mk.some hs s8 p))
 have:i=buf.length:=by omega
 subst this
 rw [List.take_length] at mk
 refine C8 (α:=Nat×List Int×List Int) (fun q=>[iv q.1]) (fun q=>[[],tR tO os,tR tW ws,tI buf,tS ss,tI q.2.1,tI q.2.2]) (fun q=>buf.length-q.1) (fun q=>q.1≤buf.length∧SC os ct buf (buf.take q.1) q.2.1 q.2.2) (0,cs,col) rfl rfl ⟨Nat.zero_le _,SC.start mk⟩ (fun R q hq hR=> ?_)
 obtain ⟨i,cs,col⟩:=q
 obtain ⟨hi,sc⟩:=hq
 simp only at hi sc
 simp only [AM,AT,AL,AK,AN,AE,AI,AV,AU,AS,AP,AQ,AO,AR,BD,BE,BH,BG,BJ,BL,BF,AZ,A6,A1,AY,A5,A4]
 simp only [uJ]
 refine AJ (AH (fun hlt=> ?_) fun hge=> ?_)
 ·have hlt:i<buf.length:=by omega
  have hx:=hbf _ (FZ hlt)
  have nx:=fun cs' col' (m:SC os ct buf (buf.take i++[gI buf i]) cs' col')=>hR (i+1,cs',col') ⟨by simp only;omega,by simp only;rw [List.take_succ_eq_append_getElem hlt,G7 hlt];exact m⟩ (by simp only;omega)
  refine AW hlt (ldI hlt (C4 hx (by omega) (YN hol hof sc.si (fun hn=> ?_) fun s hs s8 cs' col' p=> ?_)))
  ·exact AX (by omega) (nx _ _ (sc.none hn))
  ·exact AX (by omega) (nx _ _ (sc.some hs s8 p))
 have:i=buf.length:=by omega
 subst this
 rw [List.take_length] at sc
 have wh:=sc.stop
 rw [←hW] at wh
 refine dU sc.si.len.2 wh ?_
 clear hR sc mk
 have hwn:(C2 W 8).length≤8:=OJ (fun i=>by split <;> simp) 8
 refine A7 (fun i=>[iv i]) (fun i=>[tI (MO os W i),tI (C2 W 8),tR tO (mk8 fun k=>if k<i then EB os W k else ob os k),tR tW ws,tI buf,tS ss]) 8 (fun _=>True) rfl ?_ trivial (fun R i hi hP hR=> ?_)
 ·simp only [Nat.not_lt_zero,if_false]
  rw [←cG hol];rfl
 have hln:(MO os W i).length≤i:=OJ (fun i=>by split <;> simp) i
 simp only [AM,AT,AL,AK,AN,AE,AI,AV,AU,AS,AP,AQ,AO,AR,BD,BE,BH,BG,BJ,BL,BF,AZ,A6,A1,AY,A5,A4]
 simp only [uJ,CW]
 refine AJ (AH (fun hlt=> ?_) fun hge=> ?_)
 ·have hlt:i<8:=by omega
  replace hR:=hR hlt trivial
  have hml:i<(mk8 fun k=>if k<i then EB os W k else ob os k).length:=by rw [CW];exact hlt
  have hoi:(mk8 fun k=>if k<i then EB os W k else ob os k)[i]=ob os i:=by rw [EW hml,KX hlt,if_neg (by omega)]
  have hset: ∀v,v=EB os W i→(mk8 fun k=>if k<i then EB os W k else ob os k).set i v=mk8 fun k=>if k<i+1 then EB os W k else ob os k:=fun v hv=>by
   rw [Q9 hlt]
   refine LZ fun k hk=> ?_
   by_cases h1:k=i
   ·subst h1;rw [if_pos rfl,if_pos (by omega),hv]
   ·rw [if_neg h1]
    by_cases h2:k<i
    ·rw [if_pos h2,if_pos (by omega)]
    ·rw [if_neg h2,if_neg (by omega)]
  generalize (mk8 fun k=>if k<i then EB os W k else ob os k)=M at hml hoi hset ⊢
  have hM8:M.length=8:=by have:=congrArg List.length (hset (EB os W i) rfl);rw [List.length_set,CW] at this;exact this
  have io:i<os.length:=by omega
  refine B4 (AW hlt ?_)
  refine XP (f:=tO) (c:=7) (y:={M[i] with purple:=false}) hml (by decide) rfl rfl ?_
  rw [hoi]
  refine Q7 (by omega) (AH (fun hm=> ?_) fun hm=> ?_)
  ·have hw:W i=true:=by
    obtain ⟨k,_,h2,h3⟩:=O3.1 hm
    have:k=i:=by omega
    subst this;exact h3
   have ef:MO os W (i+1)=MO os W i++[DB i (ob os i).gen]:=by show MO os W i++(if W i=true then [DB i (ob os i).gen] else [])=_;rw [if_pos hw]
   rw [ef, ←FD, ←hset (DC (ob os i).gen) (by unfold EB;rw [if_pos hw])] at hR
   refine AW io (KM (v:=I (ob os i).gen) io (by decide) rfl (NC (D8 rfl (by omega) (AW io (KM (v:=I (ob os i).gen) io (by decide) rfl (LI ?_))))))
   simp only [AM,AT,AL,AK,AN,AE,AI,AV,AU,AS,AP,AQ,AO,AR,BD,BE,BH,BG,BJ,BL,BF,AZ,A6,A1,AY,A5,A4]
   simp only [List.length_set,hM8]
   refine AW hlt (OM (f:=tO) (by rw [List.length_set];exact hml) (y:=DC (ob os i).gen) rfl ?_)
   rw [List.set_set]
   exact AX (by omega) hR
  ·have hw: ¬W i=true:=fun hw=>hm (O3.2 ⟨i,hlt,rfl,hw⟩)
   have ef:MO os W (i+1)=MO os W i:=by show MO os W i++(if W i=true then [DB i (ob os i).gen] else [])=_;rw [if_neg hw,List.append_nil]
   rw [ef, ←hset {ob os i with purple:=false} (by unfold EB;rw [if_neg hw])] at hR
   exact AX (by omega) hR
 have:i=8:=by omega
 subst this
 rw [LZ (g:=EB os W) fun k hk=>if_pos hk]
 clear hR
 refine A7 (fun i=>[iv i]) (fun i=>[tI (MO os W 8),tR tO (mk8 fun k=>if k<i then IZ os W k else EB os W k),tR tW ws,tI buf,tS ss]) 8 (fun _=>True) rfl rfl trivial (fun R i hi hP hR=> ?_)
 simp only [AM,AT,AL,AK,AN,AE,AI,AV,AU,AS,AP,AQ,AO,AR,BD,BE,BH,BG,BJ,BL,BF,AZ,A6,A1,AY,A5,A4]
 simp only [CW]
 refine AJ (AH (fun hlt=> ?_) fun hge=> ?_)
 ·have hlt:i<8:=by omega
  replace hR:=hR hlt trivial
  have hml:i<(mk8 fun k=>if k<i then IZ os W k else EB os W k).length:=by rw [CW];exact hlt
  have hoi:(mk8 fun k=>if k<i then IZ os W k else EB os W k)[i]=EB os W i:=by rw [EW hml,KX hlt,if_neg (by omega)]
  have hset: ∀v,v=IZ os W i→(mk8 fun k=>if k<i then IZ os W k else EB os W k).set i v=mk8 fun k=>if k<i+1 then IZ os W k else EB os W k:=fun v hv=>by
   rw [Q9 hlt]
   refine LZ fun k hk=> ?_
   by_cases h1:k=i
   ·subst h1;rw [if_pos rfl,if_pos (by omega),hv]
   ·rw [if_neg h1]
    by_cases h2:k<i
    ·rw [if_pos h2,if_pos (by omega)]
    ·rw [if_neg h2,if_neg (by omega)]
  have hin:inE (mk8 fun k=>if k<i then IZ os W k else EB os W k) i=inE (mk8 (EB os W)) i:=by
   refine uV (by rw [CW,CW]) fun k hk=> ?_
   rw [CW] at hk
   rw [KX hk,KX hk]
   by_cases h2:k<i
   ·rw [if_pos h2];exact SU os W k
   ·rw [if_neg h2];exact ⟨rfl,rfl,rfl⟩
  have hlen3: ∀o∈(mk8 fun k=>if k<i then IZ os W k else EB os W k),(o.field.length:Int)≤1048576:=fun o ho=>by
   obtain ⟨k,hk,rfl⟩:=ZF ho
   have hm:=lP hof hol W hk
   by_cases h2:k<i
   ·rw [if_pos h2,(SU os W k).2.2];omega
   ·rw [if_neg h2];omega
  generalize (mk8 fun k=>if k<i then IZ os W k else EB os W k)=M at hml hoi hset hin hlen3 ⊢
  have hM8:M.length=8:=by have:=congrArg List.length (hset (IZ os W i) rfl);rw [List.length_set,CW] at this;exact this
  have hMs:M=M.set i (EB os W i):=by rw [←hoi,List.set_getElem_self]
  refine B4 (AW hlt ?_)
  cases hv:(EB os W i).live with
  | true=>
    refine PQ (f:=tO) (v:= .bool true) hml (by rw [hoi];simp [tO,hv]) (BS (AW hlt ?_))
    refine P2 (f:=tO) (v:=I (EB os W i).holds) hml (by decide) (by rw [hoi];rfl) (AW hlt ?_)
    refine P2 (f:=tO) (v:=I (EB os W i).roots) hml (by decide) (by rw [hoi];rfl) (E9 ?_)
    refine SB ⟨by omega,by omega⟩ (by rw [hM8];decide) hlen3 ?_
    rw [hin]
    refine E9 (AW hlt ?_)
    rw [hMs]
    refine IA hml ?_
    rw [hset _ (by unfold IZ;rw [if_pos hv])]
    exact AX (by omega) hR
  | false=>
    refine PQ (f:=tO) (v:= .bool false) hml (by rw [hoi];simp [tO,hv]) (BQ ?_)
    rw [hMs,hset _ (by unfold IZ;rw [if_neg (by rw [hv];decide)])]
    exact AX (by omega) hR
 ·have:i=8:=by omega
  subst this
  rw [LZ (g:=IZ os W) fun k hk=>if_pos hk]
  exact hK
end Go.Proofs.YtnhicpkhkaihoaaGreat.P
namespace Go.Proofs.YtnhicpkhkaihoaaGreat.P
open Go Go.Proofs.YtnhicpkhkaihoaaGreat Go.Proofs.YtnhicpkhkaihoaaGreat.Eng
set_option linter.unusedVariables false
set_option maxHeartbeats 4000000
set_option linter.unusedVariables false
set_option linter.unusedSimpArgs false
attribute [local irreducible] prP gP gE gF AG ixW ldc ldg ldl stc stg scW mkW apW BA cl2 B6 G8 C3
variable {w0:World}
noncomputable def KD (h:Hp) (o:Op5):Hp×An:=
 if o.kind=1 then (⟨(HE h.BC h.sites o.site).1,h.B8,h.buffer,(HE h.BC h.sites o.site).2.1⟩,(HE h.BC h.sites o.site).2.2) else
 if o.kind=2∨o.kind=3∨o.kind=5∨o.kind=6 then (⟨(KP h.BC h.buffer o.kind o.a).1,h.B8,(KP h.BC h.buffer o.kind o.a).2.1,h.sites⟩,(KP h.BC h.buffer o.kind o.a).2.2) else
 if o.kind=4 then (⟨(H9 h.BC h.buffer o.a o.b o.c).1,h.B8,(H9 h.BC h.buffer o.a o.b o.c).2.1,h.sites⟩,(H9 h.BC h.buffer o.a o.b o.c).2.2) else
 if o.kind=7 then (⟨h.BC,(NX h.BC h.B8 o.a).1,h.buffer,h.sites⟩,(NX h.BC h.B8 o.a).2) else
 if o.kind=8∨o.kind=9 then (⟨h.BC,(JE h.BC h.B8 o.kind o.a).1,h.buffer,h.sites⟩,(JE h.BC h.B8 o.kind o.a).2) else
 if o.kind=10 then (⟨(PG h.BC h.buffer).1,h.B8,[],h.sites⟩,⟨0,0,(PG h.BC h.buffer).2⟩) else (h,⟨2,0,[]⟩)
theorem mS {α:Type} [Inhabited α] {l:List α} (h: ∀i (hi:i<l.length),l[i]∉l.take i):l.Nodup:=by
 refine List.pairwise_iff_getElem.2 fun i j hi hj hij he=>h j hj ?_
 rw [←he]
 exact List.mem_take_iff_getElem.2 ⟨i,by omega,rfl⟩
theorem few {n:Nat}: ∀{l:List Int} (g:Int→Nat),l.Nodup→(∀x∈l,g x<n)→(∀x∈l, ∀y∈l,g x=g y→x=y)→l.length≤n:=by
 induction n with
 | zero=>
   intro l g _ h _
   cases l with
   | nil=>simp
   | cons x l=>exact absurd (h x (by simp)) (by omega)
 | succ n ih=>
   intro l g hn h hi
   by_cases hx: ∃x∈l,g x=n
   ·obtain ⟨x,hx,hg⟩:=hx
    have:=ih (l:=l.erase x) g (hn.erase x) (fun y hy=>by
     have hy':=List.mem_of_mem_erase hy
     have:=h y hy'
     have hne:g y≠n:=fun he=>by
      have:y=x:=hi y hy' x hx (by omega)
      subst this
      exact (List.Nodup.not_mem_erase hn) hy
     omega) fun y hy z hz=>hi y (List.mem_of_mem_erase hy) z (List.mem_of_mem_erase hz)
    rw [List.length_erase_of_mem hx] at this
    omega
   ·have:=ih g hn (fun y hy=>by
     have:=h y hy
     have:g y≠n:=fun he=>hx ⟨y,hy,he⟩
     omega) hi
    omega
theorem DZ.bnd {h:Hp} (hk:DZ h):h.buffer.Nodup:=mS fun i hi=>by rw [G7 hi];exact (hk.buf i hi).2
theorem DZ.aI {h:Hp} (hk:DZ h) {x:Int} (hx:x∈h.buffer):0≤AD h.BC x:=by
 obtain ⟨i,hi,rfl⟩:=List.getElem_of_mem hx
 rw [G7 hi];exact (hk.buf i hi).1
theorem m9 {l:List A8} {x y:Int} (hx:0≤AD l x) (hy:0≤AD l y) (h:AD l x=AD l y):x=y:=by
 have a:=BT hx;have b:=BT hy
 have e1:=a.2.2.2.2.2;have e2:=b.2.2.2.2.2
 rw [h] at e1
 omega
theorem DZ.Dl {h:Hp} (hk:DZ h):h.buffer.length≤8:=
 few (fun x=>(AD h.BC x).toNat) hk.bnd (fun x hx=>(BT (hk.aI hx)).2.2.2.1) fun x hx y hy he=>m9 (hk.aI hx) (hk.aI hy) (by have:=hk.aI hx;have:=hk.aI hy;omega)
theorem DZ.st {h:Hp} (hk:DZ h) (hn:WG h):St h:=by
 refine ⟨hk.ol,hk.wl,hk.sites.len,by have:=hk.Dl;omega,fun o ho=> ?_,fun s hs=> ?_,hn.weak,hn.buf⟩
 ·obtain ⟨i,hi,rfl⟩:=List.getElem_of_mem ho
  have hi8:i<8:=by have:=hk.ol;omega
  have:=hn.obj _ ho
  rw [EW hi] at this ⊢
  exact ⟨this.1,(hk.obj i hi8).len,this.2.2.2.2.2⟩
 ·obtain ⟨i,hi,rfl⟩:=List.getElem_of_mem hs
  have:=(hk.sites.sz i hi).2
  rw [U7 hi];omega
theorem DZ.hr {h:Hp} (hk:DZ h) (i:Nat):(0≤(ob h.BC i).holds∧(ob h.BC i).holds≤20)∧(0≤(ob h.BC i).roots∧(ob h.BC i).roots≤20):=by
 by_cases hi:i<8
 ·cases hv:(ob h.BC i).live with
  | true=>exact ⟨((hk.obj i hi).lv hv).2.2.1,((hk.obj i hi).lv hv).2.2.2.1⟩
  | false=>have:=(hk.obj i hi).dead hv;omega
 ·have:ob h.BC i=⟨false,0,0,0,0,0,[],false⟩:=by unfold ob;rw [List.getD_eq_getElem?_getD,List.getElem?_eq_none (by have:=hk.ol;omega)];rfl
  rw [this];simp
theorem DZ.fd {h:Hp} (hk:DZ h) (i:Nat): ∀f∈(ob h.BC i).field,f= -1∨0≤f:=by
 intro f hf
 by_cases hi:i<8
 ·obtain ⟨j,hj,rfl⟩:=List.getElem_of_mem hf
  have ho:=hk.obj i hi
  by_cases h1:gI (ob h.BC i).field j= -1
  ·left;rw [G7 hj];exact h1
  ·right
   have:=BT (ho.lead j (by have:=ho.len;omega) h1).2
   rw [G7 hj];omega
 ·have:ob h.BC i=⟨false,0,0,0,0,0,[],false⟩:=by unfold ob;rw [List.getD_eq_getElem?_getD,List.getElem?_eq_none (by have:=hk.ol;omega)];rfl
  rw [this] at hf;simp at hf
theorem kinds (k:Int):k=1∨(k=2∨k=3∨k=5∨k=6)∨k=4∨k=7∨(k=8∨k=9)∨k=10∨ ¬(k=1∨k=2∨k=3∨k=4∨k=5∨k=6∨k=7∨k=8∨k=9∨k=10):=by omega
theorem gG {h:Hp} {o:Op5} {K:J2} (hk:DZ h) (hn:WG h) (ha:F64 o.a) (hc:F64 o.c) (hK:K [I (KD h o).2.code,I (KD h o).2.val] (tI (KD h o).2.freed::trees (KD h o).1)):cl2 ⟨Tryz.prog,w0⟩ 73 ER.sg [I o.kind,I o.a,I o.b,I o.c, .string o.site] (trees h) K:=by
 have st:=hk.st hn
 have hr:=hk.hr
 refine ER.cl2 ?_
 unfold ER.txt
 obtain ⟨os,ws,buf,ss⟩:=h
 obtain ⟨kd,a,b,c,s⟩:=o
 have hol:os.length=8:=st.ol
 have hof: ∀o∈os,OF o:=st.of
 have hb:buf.length≤100:=st.bl
 simp only at ha hc hr
 simp only [trees]
 unfold KD at hK
 simp only at hK
 rcases kinds kd with rfl | hkd | rfl | rfl | hkd | rfl | hkd
 ·rw [if_pos rfl] at hK
  exact BI (CT rfl (gW hol st.sl hK))
 ·rw [if_neg (by omega),if_pos hkd] at hK
  have cc:=fun {K:J2}=>cS (w0:=w0) (os:=os) (buf:=buf) (b:=tR tW ws) (d:=tS ss) (kind:=kd) (id:=a) (K:=K) hol hof hb ha hkd hr
  rcases hkd with rfl | rfl | rfl | rfl
  all_goals
   repeat' (first | refine B4 ?_ | refine BS ?_ | refine BQ ?_ | refine BI ?_ | simp only [AM,AT,AL,AK,AN,AE,AI,AV,AU,AS,AP,AQ,AO,AR,BD,BE,BH,BG,BJ,BL,BF,AZ,A6,A1,AY,A5,A4])
   exact cc hK
 ·simp only [if_neg (show ¬(4:Int)=1 by decide),if_neg (show ¬((4:Int)=2∨(4:Int)=3∨(4:Int)=5∨(4:Int)=6) by decide),if_true] at hK
  repeat' (first | refine B4 ?_ | refine BS ?_ | refine BQ ?_ | refine BI ?_ | simp only [AM,AT,AL,AK,AN,AE,AI,AV,AU,AS,AP,AQ,AO,AR,BD,BE,BH,BG,BJ,BL,BF,AZ,A6,A1,AY,A5,A4])
  exact gT hol hof hb ha hc hK
 ·simp only [if_neg (show ¬(7:Int)=1 by decide),if_neg (show ¬((7:Int)=2∨(7:Int)=3∨(7:Int)=5∨(7:Int)=6) by decide),if_neg (show ¬(7:Int)=4 by decide),if_true] at hK
  repeat' (first | refine B4 ?_ | refine BS ?_ | refine BQ ?_ | refine BI ?_ | simp only [AM,AT,AL,AK,AN,AE,AI,AV,AU,AS,AP,AQ,AO,AR,BD,BE,BH,BG,BJ,BL,BF,AZ,A6,A1,AY,A5,A4])
  exact l7 hol st.wl ha hK
 ·rw [if_neg (by omega),if_neg (by omega),if_neg (by omega),if_neg (by omega),if_pos hkd] at hK
  rcases hkd with rfl | rfl
  all_goals
   repeat' (first | refine B4 ?_ | refine BS ?_ | refine BQ ?_ | refine BI ?_ | simp only [AM,AT,AL,AK,AN,AE,AI,AV,AU,AS,AP,AQ,AO,AR,BD,BE,BH,BG,BJ,BL,BF,AZ,A6,A1,AY,A5,A4])
   exact dX hol st.wl ha st.wf hK
 ·simp only [if_neg (show ¬(10:Int)=1 by decide),if_neg (show ¬((10:Int)=2∨(10:Int)=3∨(10:Int)=5∨(10:Int)=6) by decide),if_neg (show ¬(10:Int)=4 by decide),if_neg (show ¬(10:Int)=7 by decide),if_neg (show ¬((10:Int)=8∨(10:Int)=9) by decide),if_true] at hK
  repeat' (first | refine B4 ?_ | refine BS ?_ | refine BQ ?_ | refine BI ?_ | simp only [AM,AT,AL,AK,AN,AE,AI,AV,AU,AS,AP,AQ,AO,AR,BD,BE,BH,BG,BJ,BL,BF,AZ,A6,A1,AY,A5,A4])
  exact cI st (fun o ho=>(hn.obj o ho).2.2.2.2.1) hK
 ·rw [if_neg (by omega),if_neg (by omega),if_neg (by omega),if_neg (by omega),if_neg (by omega),if_neg (by omega)] at hK
  repeat' (first | refine B4 ?_ | refine BV (by first | with_reducible assumption | omega) ?_ | refine BI ?_ | simp only [AM,AT,AL,AK,AN,AE,AI,AV,AU,AS,AP,AQ,AO,AR,BD,BE,BH,BG,BJ,BL,BF,AZ,A6,A1,AY,A5,A4])
  all_goals first | exact CB hK | (exfalso;omega)
end Go.Proofs.YtnhicpkhkaihoaaGreat.P
namespace Go.Proofs.YtnhicpkhkaihoaaGreat.P
open Go Go.Proofs.YtnhicpkhkaihoaaGreat Go.Proofs.YtnhicpkhkaihoaaGreat.Eng
set_option linter.unusedVariables false
set_option maxHeartbeats 4000000
set_option linter.unusedVariables false
set_option linter.unusedSimpArgs false
attribute [local irreducible] prP gP gE gF AG ixW ldc ldg ldl stc stg scW mkW apW BA cl2 B6 G8 C3
variable {w0:World}
open Classical in
noncomputable def NS (h:Hp) (o:Op5):Hp×An:=if DZ h then KD h o else (h,⟨2,0,[]⟩)
theorem U8 {h:Hp} {o:Op5} (hk:DZ h):NS h o=KD h o:=by unfold NS;rw [if_pos hk]
theorem mE {h:Hp} {o:Op5} (hk: ¬DZ h):NS h o=(h,⟨2,0,[]⟩):=by unfold NS;rw [if_neg hk]
theorem jF {h:Hp} {o:Op5} {K:J2} (hf:Fits h) (hn:WG h) (ha:F64 o.a) (hc:F64 o.c) (hK:K [I (NS h o).2.code,I (NS h o).2.val] (trees (NS h o).1++[tI (NS h o).2.freed])):cl2 ⟨Tryz.prog,w0⟩ 44 J4.sg [I o.kind,I o.a,I o.b,I o.c, .string o.site] (trees h) K:=by
 refine J4.cl2 ?_
 unfold J4.txt
 refine RQ hf (cY hf hn (fun hk=>BN (BQ ?_)) fun hk=>BN (BS ?_))
 ·rw [U8 hk] at hK
  exact gG hk hn ha hc hK
 ·rw [mE hk] at hK
  exact CB hK
theorem iH {h:Hp} {o:Op5} {K:J2} (hf:Fits h) (hn:WG h) (ha:F64 o.a) (hc:F64 o.c) (hK:K [I (NS h o).2.code,I (NS h o).2.val] (trees (NS h o).1++[tI (NS h o).2.freed])):cl2 ⟨Tryz.prog,w0⟩ 53 J8.sg [I o.kind,I o.a,I o.b,I o.c, .string o.site] (trees h) K:=by
 refine J8.cl2 ?_
 unfold J8.txt
 refine M8 hf (dI hf hn (fun hk=>BN (BQ ?_)) fun hk=>BN (BS ?_))
 rotate_left
 ·rw [mE hk] at hK
  exact hK
 rw [U8 hk] at hK
 have st:=hk.st hn
 have hr:=hk.hr
 have hfd:=hk.fd
 have hss:=hk.sites
 have hcn: ∀o∈h.BC,F64 o.count:=fun o ho=>(hn.obj o ho).2.2.2.2.1
 clear hf hk
 obtain ⟨kd,a,b,c,s⟩:=o
 have hol:h.BC.length=8:=st.ol
 simp only at ha hc hr
 unfold KD at hK
 simp only at hK
 have hold:=fun {K:J2} (hkd:kd=2∨kd=3∨kd=5∨kd=6)=>dM (w0:=w0) (h:=h) (kind:=kd) (id:=a) (b:=b) (c:=c) (s:=s) (K:=K) st ha hkd hr
 have store:=fun {K:J2}=>aA (w0:=w0) (h:=h) (a0:=kd) (a1:=a) (a2:=b) (a3:=c) (s:=s) (K:=K) st ha hc hfd
 have xP:=fun {K:J2}=>bQ (w0:=w0) (h:=h) (K:=K) st hcn
 have weak:=fun {K:J2}=>dC (w0:=w0) (os:=h.BC) (ws:=h.B8) (cc:=tI h.buffer) (d:=tS h.sites) (kind:=kd) (k:=a) (b:=b) (c:=c) (s:=s) (K:=K) hol st.wl ha st.wf
 simp only [trees] at hold store xP ⊢
 rcases kinds kd with rfl | hkd | rfl | rfl | hkd | rfl | hkd
 ·rw [if_pos rfl] at hK
  exact BI (CT rfl (bT hol hss hK))
 ·rw [if_neg (by omega),if_pos hkd] at hK
  replace hold:=fun {K:J2}=>hold (K:=K) hkd
  rcases hkd with rfl | rfl | rfl | rfl
  all_goals
   repeat' (first | refine B4 ?_ | refine BS ?_ | refine BQ ?_ | refine BI ?_ | simp only [AM,AT,AL,AK,AN,AE,AI,AV,AU,AS,AP,AQ,AO,AR,BD,BE,BH,BG,BJ,BL,BF,AZ,A6,A1,AY,A5,A4])
   exact hold hK
 ·simp only [if_neg (show ¬(4:Int)=1 by decide),if_neg (show ¬((4:Int)=2∨(4:Int)=3∨(4:Int)=5∨(4:Int)=6) by decide),if_true] at hK
  repeat' (first | refine B4 ?_ | refine BS ?_ | refine BQ ?_ | refine BI ?_ | simp only [AM,AT,AL,AK,AN,AE,AI,AV,AU,AS,AP,AQ,AO,AR,BD,BE,BH,BG,BJ,BL,BF,AZ,A6,A1,AY,A5,A4])
  exact store hK
 ·simp only [if_neg (show ¬(7:Int)=1 by decide),if_neg (show ¬((7:Int)=2∨(7:Int)=3∨(7:Int)=5∨(7:Int)=6) by decide),if_neg (show ¬(7:Int)=4 by decide),if_true] at hK
  repeat' (first | refine B4 ?_ | refine BS ?_ | refine BQ ?_ | refine BI ?_ | simp only [AM,AT,AL,AK,AN,AE,AI,AV,AU,AS,AP,AQ,AO,AR,BD,BE,BH,BG,BJ,BL,BF,AZ,A6,A1,AY,A5,A4])
  exact weak (fun _=>hK) (fun hh=>absurd rfl hh)
 ·rw [if_neg (by omega),if_neg (by omega),if_neg (by omega),if_neg (by omega),if_pos hkd] at hK
  rcases hkd with rfl | rfl
  all_goals
   repeat' (first | refine B4 ?_ | refine BS ?_ | refine BQ ?_ | refine BI ?_ | simp only [AM,AT,AL,AK,AN,AE,AI,AV,AU,AS,AP,AQ,AO,AR,BD,BE,BH,BG,BJ,BL,BF,AZ,A6,A1,AY,A5,A4])
   exact weak (fun hh=>absurd hh (by decide)) (fun _=>hK)
 ·simp only [if_neg (show ¬(10:Int)=1 by decide),if_neg (show ¬((10:Int)=2∨(10:Int)=3∨(10:Int)=5∨(10:Int)=6) by decide),if_neg (show ¬(10:Int)=4 by decide),if_neg (show ¬(10:Int)=7 by decide),if_neg (show ¬((10:Int)=8∨(10:Int)=9) by decide),if_true] at hK
  repeat' (first | refine B4 ?_ | refine BS ?_ | refine BQ ?_ | refine BI ?_ | simp only [AM,AT,AL,AK,AN,AE,AI,AV,AU,AS,AP,AQ,AO,AR,BD,BE,BH,BG,BJ,BL,BF,AZ,A6,A1,AY,A5,A4])
  exact xP hK
 ·rw [if_neg (by omega),if_neg (by omega),if_neg (by omega),if_neg (by omega),if_neg (by omega),if_neg (by omega)] at hK
  repeat' (first | refine B4 ?_ | refine BV (by first | with_reducible assumption | omega) ?_ | refine BI ?_ | simp only [AM,AT,AL,AK,AN,AE,AI,AV,AU,AS,AP,AQ,AO,AR,BD,BE,BH,BG,BJ,BL,BF,AZ,A6,A1,AY,A5,A4])
  all_goals first | exact hK | (exfalso;omega)
end Go.Proofs.YtnhicpkhkaihoaaGreat.P
namespace Go.Proofs.YtnhicpkhkaihoaaGreat.P
open Go Go.Proofs.YtnhicpkhkaihoaaGreat Go.Proofs.YtnhicpkhkaihoaaGreat.Eng
set_option linter.unusedVariables false
def okE (n:Int) (l:List ByteArray) (a b c d:Int) (s:ByteArray) (k v:Int) (xs:List Int):Bool:=(dJ a b c d s&&U6 k v xs)&&XL n l
def Fx (q:ByteArray×Int) (x:Int):ByteArray×Int:=(q.1++SI (x-q.2),x)
def base (n:Int) (l:List ByteArray) (a b c d:Int) (s:ByteArray) (k v:Int) (m:Nat):ByteArray:=((((((SI a++SI (b-n))++SI c)++SI (d-b))++V1 l s)++V k)++SI (v-b))++V m
def stE (p:ByteArray×Int) (xs:List Int) (i:Nat):ByteArray×Int:=(xs.take i).foldl Fx p
theorem aB {p:ByteArray×Int} {xs:List Int} {i:Nat} (hi:i<xs.length):stE p xs (i+1)=Fx (stE p xs i) xs[i]:=by
 rw [stE,List.take_succ_eq_append_getElem hi,List.foldl_append];rfl
theorem iJ {p:ByteArray×Int} {xs:List Int} (hp:ML p.2=true) (hx:xs.all ML=true): ∀i,i≤xs.length→ML (stE p xs i).2=true∧(stE p xs i).1.size≤p.1.size+7*i
 | 0,_=>⟨hp,Nat.le_refl _⟩
 | i+1,hi=>by
   obtain ⟨h1,h2⟩:=iJ hp hx i (by omega)
   rw [aB (by omega)]
   refine ⟨List.all_eq_true.1 hx _ (List.getElem_mem _), ?_⟩
   have:=JI (zg (xs[i]-(stE p xs i).2))
   simp only [Fx,ByteArray.size_append,SI];omega
theorem UX (l:List ByteArray) (s:ByteArray):(V1 l s).size≤22:=by
 unfold V1;split
 ·have:=JI (at_ l s+1);omega
 ·have h1:=JI 0
  have h2:=hU s
  rw [ByteArray.size_append];omega
theorem IN (n:Int):(SI n).size≤7:=JI _
theorem JP {n:Int} (h:ML n=true): -1000000000≤n∧n≤1000000000:=LL.1 h
def NM (n:Int) (l:List ByteArray) (a b c d:Int) (s:ByteArray) (k v:Int) (xs:List Int):ByteArray×Int×List ByteArray:=
 if okE n l a b c d s k v xs then ((stE (base n l a b c d s k v xs.length,b) xs xs.length).1,b,eA l s) else (⟨#[]⟩,n,l)
theorem S4 {n:Int} {l:List ByteArray} {a b c d:Int} {s:ByteArray} {k v:Int} {xs:List Int} (h:okE n l a b c d s k v xs=true):ML a=true∧ML b=true∧ML c=true∧ML d=true∧ML v=true∧ML n=true∧xs.all ML=true∧xs.length≤8∧(0≤k∧k≤6)∧l.length≤400:=by
 simp only [okE,dJ,U6,XL,Bool.and_eq_true,decide_eq_true_eq] at h
 exact ⟨h.1.1.1.1.1.1,h.1.1.1.1.1.2,h.1.1.1.1.2,h.1.1.1.2,h.1.2.1.1.2,h.2.1.1,h.1.2.2,h.1.2.1.2,LL.1 h.1.2.1.1.1,h.2.1.2⟩
theorem XQ (n:Int) (l:List ByteArray) (a b c d:Int) (s:ByteArray) (k v:Int) (m:Nat):(base n l a b c d s k v m).size≤71:=by
 have h1:=IN a;have h2:=IN (b-n);have h3:=IN c;have h4:=IN (d-b);have h5:=UX l s;have h6:=JI k;have h7:=IN (v-b);have h8:=JI m
 simp only [base,ByteArray.size_append];omega
theorem XO {w0:World} {n:Int} {l:List ByteArray} {a b c d:Int} {s:ByteArray} {k v:Int} {xs:List Int} {K:J2} (hl:l.length<2^40) (hx:(xs.length:Int)<2^62)
  (h:K [.string (NM n l a b c d s k v xs).1,I (NM n l a b c d s k v xs).2.1] [tS (NM n l a b c d s k v xs).2.2]):cl2 ⟨Tryz.prog,w0⟩ 74 EH.sg [I n,I a,I b,I c,I d, .string s,I k,I v] [tS l,tI xs] K:=by
 refine EH.cl2 ?_
 unfold EH.txt
 simp only [AI,AE]
 refine W0 (BN (II (aH (fun _ K hk=>UY hx hk) (II (aH (fun _ K hk=>YS (by omega) hk) (KO (fun hb=> ?_) fun hb=> ?_))))))
 ·have hno:okE n l a b c d s k v xs=false:=by
   revert hb;unfold okE
   cases dJ a b c d s <;> cases U6 k v xs <;> cases XL n l <;> simp
  rw [NM,hno] at h
  refine V4 (RM l) (by simp [cnt];omega) ?_
  rw [List.nil_append];exact h
 ·have hok:okE n l a b c d s k v xs=true:=by
   revert hb;unfold okE
   cases dJ a b c d s <;> cases U6 k v xs <;> cases XL n l <;> simp
  rw [NM,if_pos hok] at h
  obtain ⟨ha,hb,hc,hd,hv,hn,hxs,hxl,hk,hll⟩:=S4 hok
  have a1:=JP ha;have b1:=JP hb;have c1:=JP hc;have d1:=JP hd;have v1:=JP hv;have n1:=JP hn
  have h1:=IN a;have h2:=IN (b-n);have h3:=IN c;have h4:=IN (d-b);have h5:=UX l s;have h6:=JI k;have h7:=IN (v-b);have h8:=JI xs.length
  refine bB hl (IC (DM ⟨by omega,by omega⟩ (IC (CQ (by omega) (IC (CQ (by simp only [ByteArray.size_append];omega) (DM ⟨by omega,by omega⟩ (IC (CQ (by simp only [ByteArray.size_append];omega) (CQ (by simp only [ByteArray.size_append];omega) (KR ⟨by omega,by omega⟩ (CQ (by simp only [ByteArray.size_append];omega) (DM ⟨by omega,by omega⟩ (IC (CQ (by simp only [ByteArray.size_append];omega) (KR (n:=Int.ofNat xs.length) ⟨by simp only [Int.ofNat_eq_natCast];omega,by simp only [Int.ofNat_eq_natCast];omega⟩ (CQ (by simp only [Int.ofNat_eq_natCast,ByteArray.size_append];omega) ?_)))))))))))))))))
  have hbs:=XQ n l a b c d s k v xs.length
  refine A7 (fun i=>[.string (stE (base n l a b c d s k v xs.length,b) xs i).1,I (stE (base n l a b c d s k v xs.length,b) xs i).2,iv i,I a,I b,I c,I d, .string s,I k,I v, .int .i64 0,I n]) (fun _=>[tS (eA l s)]) xs.length (fun _=>True) rfl rfl trivial (fun R i hi _ hR=> ?_)
  refine IV (AH (fun hlt=> ?_) fun hge=> ?_)
  ·obtain ⟨q1,q2⟩:=iJ (p:=(base n l a b c d s k v xs.length,b)) hb hxs i hi
   have q3:=JP q1
   have q4:=JP (List.all_eq_true.1 hxs _ (List.getElem_mem hlt))
   simp only at q2
   have q5:=IN (xs[i]-(stE (base n l a b c d s k v xs.length,b) xs i).2)
   have:=hR hlt trivial
   rw [aB hlt] at this
   exact AW hlt (L6 hlt (DM ⟨by omega,by omega⟩ (IC (CQ (by omega) (AW hlt (L6 hlt (AX (by omega) this)))))))
  ·have:i=xs.length:=by omega
   subst this
   exact h
end Go.Proofs.YtnhicpkhkaihoaaGreat.P
namespace Go.Proofs.YtnhicpkhkaihoaaGreat.P
open Go Go.Proofs.YtnhicpkhkaihoaaGreat Go.Proofs.YtnhicpkhkaihoaaGreat.Eng
set_option linter.unusedVariables false
theorem qN {f:J2} {g:J2→Prop} (P:List Value→List (List T)→Prop) (h1: ∀xs cs,P xs cs→f xs cs) (h2: ∀j:J2,(∀xs cs,P xs cs→j xs cs)→g j):B6 f g:=h2 f h1
theorem WT {w0:World} {n:Int} {l:List ByteArray} {a b c d:Int} {s:ByteArray} {k v:Int} {xs:List Int} {K:J2} (hl:l.length<2^40) (hx:(xs.length:Int)<2^62)
  (h:K [.string (NM n l a b c d s k v xs).1,I (NM n l a b c d s k v xs).2.1] [tS (NM n l a b c d s k v xs).2.2]):cl2 ⟨Tryz.prog,w0⟩ 46 EJ.sg [I n,I a,I b,I c,I d, .string s,I k,I v] [tS l,tI xs] K:=by
 refine EJ.cl2 ?_
 unfold EJ.txt
 simp only [AI,AE]
 refine S3 (by omega) (XU (BN (II (aH (fun _ K hk=>VT hx hk) (II (aH (fun _ K hk=>gA (by omega) hk) (KO (fun hb=> ?_) fun hb=> ?_)))))))
 ·have hno:okE n l a b c d s k v xs=false:=by
   revert hb;unfold okE
   cases dJ a b c d s <;> cases U6 k v xs <;> cases XL n l <;> simp
  rw [NM,hno] at h
  exact h
 ·have hok:okE n l a b c d s k v xs=true:=by
   revert hb;unfold okE
   cases dJ a b c d s <;> cases U6 k v xs <;> cases XL n l <;> simp
  rw [NM,if_pos hok] at h
  obtain ⟨ha,hb,hc,hd,hv,hn,hxs,hxl,hk,hll⟩:=S4 hok
  have a1:=JP ha;have b1:=JP hb;have c1:=JP hc;have d1:=JP hd;have v1:=JP hv;have n1:=JP hn
  have h1:=IN a;have h2:=IN (b-n);have h3:=IN c;have h4:=IN (d-b);have h5:=UX l s;have h6:=JI k;have h7:=IN (v-b);have h8:=JI xs.length
  refine JN (DM ⟨by omega,by omega⟩ (JN (CQ (by omega) (JN (CQ (by simp only [ByteArray.size_append];omega) (DM ⟨by omega,by omega⟩ (JN (CQ (by simp only [ByteArray.size_append];omega) ?_))))))))
  refine qN (fun ys cs=>ys=[.string (((((SI a++SI (b-n))++SI c)++SI (d-b)))++V1 l s),I a,I b,I c,I d, .string s,I k,I v, .int .i64 0,I b]∧cs=[tS (eA l s)]) (fun ys cs hp=> ?_) fun j hj=> ?_
  ·obtain ⟨rfl,rfl⟩:=hp
   refine LM ⟨by omega,by omega⟩ (DM ⟨by omega,by omega⟩ (JN (CQ (by omega) (LM (n:=Int.ofNat xs.length) ⟨by simp only [Int.ofNat_eq_natCast];omega,by simp only [Int.ofNat_eq_natCast];omega⟩ (CQ (by simp only [Int.ofNat_eq_natCast,ByteArray.size_append];omega) (CQ (by simp only [Int.ofNat_eq_natCast,ByteArray.size_append];omega) ?_))))))
   have hbs:=XQ n l a b c d s k v xs.length
   refine A7 (fun i=>[.string (stE (base n l a b c d s k v xs.length,b) xs i).1,I (stE (base n l a b c d s k v xs.length,b) xs i).2,iv xs.length,iv i, .int .i64 0,I b]) (fun _=>[tS (eA l s)]) xs.length (fun _=>True) ?_ rfl trivial (fun R i hi _ hR=> ?_)
   ·have e:(stE (base n l a b c d s k v xs.length,b) xs 0)=(base n l a b c d s k v xs.length,b):=rfl
    rw [e]
    simp only [base,ByteArray.append_assoc,Int.ofNat_eq_natCast]
    rfl
   refine IV (AH (fun hlt=> ?_) fun hge=> ?_)
   ·obtain ⟨q1,q2⟩:=iJ (p:=(base n l a b c d s k v xs.length,b)) hb hxs i hi
    have q3:=JP q1
    have q4:=JP (List.all_eq_true.1 hxs _ (List.getElem_mem hlt))
    simp only at q2
    have q5:=IN (xs[i]-(stE (base n l a b c d s k v xs.length,b) xs i).2)
    have:=hR hlt trivial
    rw [aB hlt] at this
    exact AW hlt (L6 hlt (DM ⟨by omega,by omega⟩ (JN (CQ (by omega) (AX (by omega) this)))))
   ·have:i=xs.length:=by omega
    subst this
    exact h
  ·refine P0 (by omega) (JD (b:=0) (AH (fun hge=> ?_) fun hlt=> ?_))
   ·have hm:s∈l:=by
     by_cases hm:s∈l
     ·exact hm
     ·rw [at_,if_neg hm] at hge;omega
    have hat:at_ l s≤l.length:=by rw [at_,if_pos hm];have:=List.idxOf_lt_length_of_mem hm;omega
    have hv:=JI (at_ l s+1)
    refine BX (b:=1) ⟨by omega,by omega⟩ (LM ⟨by omega,by omega⟩ (CQ (by simp only [ByteArray.size_append];omega) (hj _ _ ⟨?_, ?_⟩)))
    ·rw [V1,if_pos hm]
    ·rw [eA,if_pos hm];rfl
   ·have hm:s∉l:=by
     intro hm
     rw [at_,if_pos hm] at hlt;omega
    have hv:=JI 0
    have hs:=hU s
    refine LM ⟨by omega,by omega⟩ (YZ (CQ (by omega) (CQ (by simp only [ByteArray.size_append];omega) (V4 rfl ?_ (hj _ _ ⟨?_, ?_⟩)))))
    ·have hc:cnt 1 (nxc [tS l] 0)=l.length:=AI l
     rw [hc];simp [cnt];omega
    ·rw [V1,if_neg hm]
    ·rw [eA,if_neg hm];simp [tS,nxc]
end Go.Proofs.YtnhicpkhkaihoaaGreat.P
