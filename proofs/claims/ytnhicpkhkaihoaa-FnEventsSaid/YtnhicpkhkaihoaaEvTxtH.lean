/- A part of the proof. -/
import Derived.Test.YtnhicpkhkaihoaaEvHpR
import Derived.Test.YtnhicpkhkaihoaaEvHpG
namespace Go.Proofs.Ytnhicpkhkaihoaa.P
open Go Go.Proofs.Ytnhicpkhkaihoaa Go.Proofs.Ytnhicpkhkaihoaa.Eng
set_option linter.unusedVariables false
set_option maxHeartbeats 4000000
set_option linter.unusedVariables false
set_option linter.unusedSimpArgs false
attribute [local irreducible] prP gP gE gF AI ixW ldc ldg ldl stc stg scW mkW apW BG cl2 BZ EZ DS
variable {w0:World}
theorem iR {os:List AX} {i:Nat} (hi:i<os.length):(os.take (i+1)).map (·.count)=(os.take i).map (·.count)++[(ob os i).count]:=by
 rw [List.take_succ_eq_append_getElem hi,List.map_append,DY hi];rfl
theorem T4 {os:List AX} {b c d:List T} {K:J2} (hol:os.length=8) (h:K [] [tI (os.map (·.count)),tI (List.replicate 8 0)]):cl2 ⟨Try.prog,w0⟩ 194 EG.sg [] [tR tO os,b,c,d] K:=by
 refine EG.cl2 ?_
 unfold EG.txt
 simp only [AJ,AQ,AL,AR,AO,AE,AG,AU,AN,AS,AV,AP,AM,AT,BN,BS,BV,BT,BW,BU,BO,A9,A6,A4,A7,A8,A5]
 refine BF (fun i=>[iv i]) (fun i=>[tI ((os.take i).map (·.count)),tI (List.replicate i 0)]) os.length (fun _=>True) rfl rfl trivial (fun R i hi hP hR=> ?_)
 have hln:((os.take i).map (·.count)).length=i:=by simp;omega
 have hl2:(List.replicate i (0:Int)).length=i:=List.length_replicate
 simp only [AJ,AQ,AL,AR,AO,AE,AG,AU,AN,AS,AV,AP,AM,AT,BN,BS,BV,BT,BW,BU,BO,A9,A6,A4,A7,A8,A5]
 refine A1 (BP (LJ (fun hlt=> ?_) fun hge=> ?_))
 ·have hlt':i<os.length:=by omega
  replace hR:=hR hlt' trivial
  rw [iR hlt', ←HL,List.replicate_succ', ←HL] at hR
  refine A1 (EY hlt rfl (GF (by omega) ?_))
  exact AK hlt' (NY (v:=I (ob os i).count) hlt' (by decide) rfl (GW rfl (by omega) (GW rfl (by omega) (BD (by omega) hR))))
 ·have:i=os.length:=by omega
  subst this
  refine FV hge rfl (CD ?_)
  rw [List.take_length,hol];exact h
theorem XF {cs col:List Int} {W:Nat→Bool} {K:J2} (hl:col.length=8) (hw: ∀k,k<8→(gI col k=2↔W k=true)) (h:K [] [tI (JR W 8)]):cl2 ⟨Try.prog,w0⟩ 197 GI.sg [] [tI cs,tI col] K:=by
 refine GI.cl2 ?_
 unfold GI.txt
 simp only [AJ,AQ,AL,AR,AO,AE,AG,AU,AN,AS,AV,AP,AM,AT,BN,BS,BV,BT,BW,BU,BO,A9,A6,A4,A7,A8,A5]
 refine BF (fun i=>[iv i]) (fun i=>[tI (JR W i)]) col.length (fun _=>True) rfl rfl trivial (fun R i hi hP hR=> ?_)
 have hln:(JR W i).length≤i:=NA (fun i=>by split <;> simp) i
 simp only [AJ,AQ,AL,AR,AO,AE,AG,AU,AN,AS,AV,AP,AM,AT,BN,BS,BV,BT,BW,BU,BO,A9,A6,A4,A7,A8,A5]
 refine A1 (AH (fun hlt=> ?_) fun hge=> ?_)
 ·have hlt:i<col.length:=by omega
  replace hR:=hR hlt trivial
  have hwi:=hw i (by omega)
  refine BX (AK hlt (ldI hlt (BI (AH (fun h2=> ?_) fun h2=> ?_))))
  ·have e:JR W (i+1)=JR W i++[(i:Int)]:=by show JR W i++(if W i=true then [(i:Int)] else [])=_;rw [if_pos (hwi.1 h2)]
   rw [e, ←HL] at hR
   exact GW rfl (by omega) (BD (by omega) hR)
  ·have e:JR W (i+1)=JR W i:=by show JR W i++(if W i=true then [(i:Int)] else [])=_;rw [if_neg (fun hh=>h2 (hwi.2 hh)),List.append_nil]
   rw [e] at hR
   exact BD (by omega) hR
 ·have:i=col.length:=by omega
  subst this
  rw [hl];exact h
theorem MK.start {os:List AX} (hol:os.length=8) (hc: ∀o∈os,F64 o.count):MK os (fun i=>(ob os i).count) [] (os.map (·.count)) (List.replicate 8 0):=by
 have hz: ∀k,k<8→gI (List.replicate 8 (0:Int)) k=0:=fun k hk=>by unfold gI;rw [List.getD_eq_getElem?_getD,List.getElem?_replicate,if_pos hk];rfl
 have hcs: ∀i,i<8→gI (os.map (·.count)) i=(ob os i).count:=fun i hi=>by
  rw [←GQ (by simp;omega),List.getElem_map,DY (by omega)]
 have hF: ∀i,i<8→F64 (ob os i).count:=fun i hi=>hc _ (HX (by omega))
 refine ⟨⟨by simp [hol],by simp⟩,fun i hi=>by rw [hcs i hi];exact hF i hi,fun k hk h1=> ?_,fun k hk h1=>⟨hz k hk, ?_⟩,fun i hi=> ?_⟩
 ·rw [hz k hk] at h1;omega
 ·rintro ⟨b,hb,_⟩;simp at hb
 ·have:S os (isC (List.replicate 8 0) 1) i=0:=JU fun k hk=>by unfold isC;rw [hz k hk];rfl
  rw [hcs i hi,this,Int.sub_zero,JK (hF i hi)]
theorem WN (os:List AX) (W:Nat→Bool) (i:Nat):(IQ os W i).live=(D9 os W i).live∧(IQ os W i).gen=(D9 os W i).gen∧(IQ os W i).field=(D9 os W i).field:=by
 unfold IQ;split <;> exact ⟨rfl,rfl,rfl⟩
theorem lS {os:List AX} (hof: ∀o∈os,OF o) (hol:os.length=8) (W:Nat→Bool) {i:Nat} (hi:i<8):(D9 os W i).field.length=3:=by
 unfold D9
 split
 ·rfl
 ·exact (hof _ (HX (by omega))).len
theorem nC {a b c d e f g:List T} {l:List (List T)}:nxc (a::b::c::d::e::f::g::l) 6=g:=rfl
theorem V0 {h:Hp} {K:J2} (st:St h) (hc: ∀o∈h.BB,F64 o.count) (hK:K [] [tR tO (OV h.BB h.buffer).1,tR tW h.B9,[],tS h.sites,tI (OV h.BB h.buffer).2]):cl2 ⟨Try.prog,w0⟩ 140 FE.sg [] (trees h) K:=by
 refine FE.cl2 ?_
 unfold FE.txt
 refine J4 st.fits ?_
 obtain ⟨os,ws,buf,ss⟩:=h
 have hol:os.length=8:=st.ol
 have hof: ∀o∈os,OF o:=st.of
 have hb:buf.length≤100:=st.bl
 have hbf: ∀x∈buf,F64 x:=st.bf
 simp only at hc hK
 simp only [trees]
 obtain ⟨ct,hct⟩: ∃ct:Nat→Int,ct=fun i=>(ob os i).count:=⟨_,rfl⟩
 obtain ⟨W,hW⟩: ∃W,W=MN os ct buf:=⟨_,rfl⟩
 unfold OV at hK
 rw [←hct, ←hW] at hK
 simp only [AJ,AQ,AL,AR,AO,AE,AG,AU,AN,AS,AV,AP,AM,AT,BN,BS,BV,BT,BW,BU,BO,A9,A6,A4,A7,A8,A5]
 refine DR (FF (by omega) (T4 hol ?_))
 refine FA (α:=Nat×List Int×List Int) (fun q=>[iv q.1]) (fun q=>[[],tR tO os,tR tW ws,tI buf,tS ss,tI q.2.1,tI q.2.2]) (fun q=>buf.length-q.1) (fun q=>q.1≤buf.length∧MK os ct (buf.take q.1) q.2.1 q.2.2) (0,os.map (·.count),List.replicate 8 0) rfl rfl ⟨Nat.zero_le _,by rw [hct];exact MK.start hol hc⟩ (fun R q hq hR=> ?_)
 obtain ⟨i,cs,col⟩:=q
 obtain ⟨hi,mk⟩:=hq
 simp only at hi mk
 simp only [AJ,AQ,AL,AR,AO,AE,AG,AU,AN,AS,AV,AP,AM,AT,BN,BS,BV,BT,BW,BU,BO,A9,A6,A4,A7,A8,A5]
 simp only [nC]
 refine A1 (AH (fun hlt=> ?_) fun hge=> ?_)
 ·have hlt:i<buf.length:=by omega
  have hx:=hbf _ (F6 hlt)
  have nx:=fun cs' col' (m:MK os ct (buf.take i++[gI buf i]) cs' col')=>hR (i+1,cs',col') ⟨by simp only;omega,by simp only;rw [List.take_succ_eq_append_getElem hlt,GQ hlt];exact m⟩ (by simp only;omega)
  refine AK hlt (ldI hlt (CF hx (by omega) (T7 hol hof mk.len.1 mk.len.2 mk.f (fun hn=> ?_) fun s hs s8 cs' col' p=> ?_)))
  ·exact BD (by omega) (nx _ _ (mk.none hn))
  ·exact BD (by omega) (nx _ _ (mk.some hs s8 p))
 have:i=buf.length:=by omega
 subst this
 rw [List.take_length] at mk
 refine FA (α:=Nat×List Int×List Int) (fun q=>[iv q.1]) (fun q=>[[],tR tO os,tR tW ws,tI buf,tS ss,tI q.2.1,tI q.2.2]) (fun q=>buf.length-q.1) (fun q=>q.1≤buf.length∧SC os ct buf (buf.take q.1) q.2.1 q.2.2) (0,cs,col) rfl rfl ⟨Nat.zero_le _,SC.start mk⟩ (fun R q hq hR=> ?_)
 obtain ⟨i,cs,col⟩:=q
 obtain ⟨hi,sc⟩:=hq
 simp only at hi sc
 simp only [AJ,AQ,AL,AR,AO,AE,AG,AU,AN,AS,AV,AP,AM,AT,BN,BS,BV,BT,BW,BU,BO,A9,A6,A4,A7,A8,A5]
 simp only [nC]
 refine A1 (AH (fun hlt=> ?_) fun hge=> ?_)
 ·have hlt:i<buf.length:=by omega
  have hx:=hbf _ (F6 hlt)
  have nx:=fun cs' col' (m:SC os ct buf (buf.take i++[gI buf i]) cs' col')=>hR (i+1,cs',col') ⟨by simp only;omega,by simp only;rw [List.take_succ_eq_append_getElem hlt,GQ hlt];exact m⟩ (by simp only;omega)
  refine AK hlt (ldI hlt (CF hx (by omega) (UC hol hof sc.si (fun hn=> ?_) fun s hs s8 cs' col' p=> ?_)))
  ·exact BD (by omega) (nx _ _ (sc.none hn))
  ·exact BD (by omega) (nx _ _ (sc.some hs s8 p))
 have:i=buf.length:=by omega
 subst this
 rw [List.take_length] at sc
 have wh:=sc.stop
 rw [←hW] at wh
 refine XF sc.si.len.2 wh ?_
 clear hR sc mk
 have hwn:(JR W 8).length≤8:=NA (fun i=>by split <;> simp) 8
 refine BF (fun i=>[iv i]) (fun i=>[tI (MW os W i),tI (JR W 8),tR tO (mk8 fun k=>if k<i then D9 os W k else ob os k),tR tW ws,tI buf,tS ss]) 8 (fun _=>True) rfl ?_ trivial (fun R i hi hP hR=> ?_)
 ·simp only [Nat.not_lt_zero,if_false]
  rw [←bZ hol];rfl
 have hln:(MW os W i).length≤i:=NA (fun i=>by split <;> simp) i
 simp only [AJ,AQ,AL,AR,AO,AE,AG,AU,AN,AS,AV,AP,AM,AT,BN,BS,BV,BT,BW,BU,BO,A9,A6,A4,A7,A8,A5]
 simp only [nC,DB]
 refine A1 (AH (fun hlt=> ?_) fun hge=> ?_)
 ·have hlt:i<8:=by omega
  replace hR:=hR hlt trivial
  have hml:i<(mk8 fun k=>if k<i then D9 os W k else ob os k).length:=by rw [DB];exact hlt
  have hoi:(mk8 fun k=>if k<i then D9 os W k else ob os k)[i]=ob os i:=by rw [DY hml,I9 hlt,if_neg (by omega)]
  have hset: ∀v,v=D9 os W i→(mk8 fun k=>if k<i then D9 os W k else ob os k).set i v=mk8 fun k=>if k<i+1 then D9 os W k else ob os k:=fun v hv=>by
   rw [ZX hlt]
   refine M8 fun k hk=> ?_
   by_cases h1:k=i
   ·subst h1;rw [if_pos rfl,if_pos (by omega),hv]
   ·rw [if_neg h1]
    by_cases h2:k<i
    ·rw [if_pos h2,if_pos (by omega)]
    ·rw [if_neg h2,if_neg (by omega)]
  generalize (mk8 fun k=>if k<i then D9 os W k else ob os k)=M at hml hoi hset ⊢
  have hM8:M.length=8:=by have:=congrArg List.length (hset (D9 os W i) rfl);rw [List.length_set,DB] at this;exact this
  have io:i<os.length:=by omega
  refine BX (AK hlt ?_)
  refine ZO (f:=tO) (c:=7) (y:={M[i] with purple:=false}) hml (by decide) rfl rfl ?_
  rw [hoi]
  refine NT (by omega) (AH (fun hm=> ?_) fun hm=> ?_)
  ·have hw:W i=true:=by
    obtain ⟨k,_,h2,h3⟩:=UZ.1 hm
    have:k=i:=by omega
    subst this;exact h3
   have ef:MW os W (i+1)=MW os W i++[CU i (ob os i).gen]:=by show MW os W i++(if W i=true then [CU i (ob os i).gen] else [])=_;rw [if_pos hw]
   rw [ef, ←HL, ←hset (DT (ob os i).gen) (by unfold D9;rw [if_pos hw])] at hR
   refine AK io (NY (v:=I (ob os i).gen) io (by decide) rfl (IV (GW rfl (by omega) (AK io (NY (v:=I (ob os i).gen) io (by decide) rfl (IL ?_))))))
   simp only [AJ,AQ,AL,AR,AO,AE,AG,AU,AN,AS,AV,AP,AM,AT,BN,BS,BV,BT,BW,BU,BO,A9,A6,A4,A7,A8,A5]
   simp only [List.length_set,hM8]
   refine AK hlt (TA (f:=tO) (by rw [List.length_set];exact hml) (y:=DT (ob os i).gen) rfl ?_)
   rw [List.set_set]
   exact BD (by omega) hR
  ·have hw: ¬W i=true:=fun hw=>hm (UZ.2 ⟨i,hlt,rfl,hw⟩)
   have ef:MW os W (i+1)=MW os W i:=by show MW os W i++(if W i=true then [CU i (ob os i).gen] else [])=_;rw [if_neg hw,List.append_nil]
   rw [ef, ←hset {ob os i with purple:=false} (by unfold D9;rw [if_neg hw])] at hR
   exact BD (by omega) hR
 have:i=8:=by omega
 subst this
 rw [M8 (g:=D9 os W) fun k hk=>if_pos hk]
 clear hR
 refine BF (fun i=>[iv i]) (fun i=>[tI (MW os W 8),tR tO (mk8 fun k=>if k<i then IQ os W k else D9 os W k),tR tW ws,tI buf,tS ss]) 8 (fun _=>True) rfl rfl trivial (fun R i hi hP hR=> ?_)
 simp only [AJ,AQ,AL,AR,AO,AE,AG,AU,AN,AS,AV,AP,AM,AT,BN,BS,BV,BT,BW,BU,BO,A9,A6,A4,A7,A8,A5]
 simp only [DB]
 refine A1 (AH (fun hlt=> ?_) fun hge=> ?_)
 ·have hlt:i<8:=by omega
  replace hR:=hR hlt trivial
  have hml:i<(mk8 fun k=>if k<i then IQ os W k else D9 os W k).length:=by rw [DB];exact hlt
  have hoi:(mk8 fun k=>if k<i then IQ os W k else D9 os W k)[i]=D9 os W i:=by rw [DY hml,I9 hlt,if_neg (by omega)]
  have hset: ∀v,v=IQ os W i→(mk8 fun k=>if k<i then IQ os W k else D9 os W k).set i v=mk8 fun k=>if k<i+1 then IQ os W k else D9 os W k:=fun v hv=>by
   rw [ZX hlt]
   refine M8 fun k hk=> ?_
   by_cases h1:k=i
   ·subst h1;rw [if_pos rfl,if_pos (by omega),hv]
   ·rw [if_neg h1]
    by_cases h2:k<i
    ·rw [if_pos h2,if_pos (by omega)]
    ·rw [if_neg h2,if_neg (by omega)]
  have hin:inE (mk8 fun k=>if k<i then IQ os W k else D9 os W k) i=inE (mk8 (D9 os W)) i:=by
   refine rB (by rw [DB,DB]) fun k hk=> ?_
   rw [DB] at hk
   rw [I9 hk,I9 hk]
   by_cases h2:k<i
   ·rw [if_pos h2];exact WN os W k
   ·rw [if_neg h2];exact ⟨rfl,rfl,rfl⟩
  have hlen3: ∀o∈(mk8 fun k=>if k<i then IQ os W k else D9 os W k),(o.field.length:Int)≤1048576:=fun o ho=>by
   obtain ⟨k,hk,rfl⟩:=YW ho
   have hm:=lS hof hol W hk
   by_cases h2:k<i
   ·rw [if_pos h2,(WN os W k).2.2];omega
   ·rw [if_neg h2];omega
  generalize (mk8 fun k=>if k<i then IQ os W k else D9 os W k)=M at hml hoi hset hin hlen3 ⊢
  have hM8:M.length=8:=by have:=congrArg List.length (hset (IQ os W i) rfl);rw [List.length_set,DB] at this;exact this
  have hMs:M=M.set i (D9 os W i):=by rw [←hoi,List.set_getElem_self]
  refine BX (AK hlt ?_)
  cases hv:(D9 os W i).live with
  | true=>
    refine UO (f:=tO) (v:= .bool true) hml (by rw [hoi];simp [tO,hv]) (CQ (AK hlt ?_))
    refine S3 (f:=tO) (v:=I (D9 os W i).holds) hml (by decide) (by rw [hoi];rfl) (AK hlt ?_)
    refine S3 (f:=tO) (v:=I (D9 os W i).roots) hml (by decide) (by rw [hoi];rfl) (GS ?_)
    refine PC ⟨by omega,by omega⟩ (by rw [hM8];decide) hlen3 ?_
    rw [hin]
    refine GS (AK hlt ?_)
    rw [hMs]
    refine LN hml ?_
    rw [hset _ (by unfold IQ;rw [if_pos hv])]
    exact BD (by omega) hR
  | false=>
    refine UO (f:=tO) (v:= .bool false) hml (by rw [hoi];simp [tO,hv]) (CD ?_)
    rw [hMs,hset _ (by unfold IQ;rw [if_neg (by rw [hv];decide)])]
    exact BD (by omega) hR
 ·have:i=8:=by omega
  subst this
  rw [M8 (g:=IQ os W) fun k hk=>if_pos hk]
  exact hK
end Go.Proofs.Ytnhicpkhkaihoaa.P
namespace Go.Proofs.Ytnhicpkhkaihoaa.P
open Go Go.Proofs.Ytnhicpkhkaihoaa Go.Proofs.Ytnhicpkhkaihoaa.Eng
set_option linter.unusedVariables false
set_option maxHeartbeats 4000000
set_option linter.unusedVariables false
set_option linter.unusedSimpArgs false
attribute [local irreducible] prP gP gE gF AI ixW ldc ldg ldl stc stg scW mkW apW BG cl2 BZ EZ DS
variable {w0:World}
noncomputable def L5 (h:Hp) (o:Op5):Hp×An:=
 if o.kind=1 then (⟨(HA h.BB h.sites o.site).1,h.B9,h.buffer,(HA h.BB h.sites o.site).2.1⟩,(HA h.BB h.sites o.site).2.2) else
 if o.kind=2∨o.kind=3∨o.kind=5∨o.kind=6 then (⟨(KH h.BB h.buffer o.kind o.a).1,h.B9,(KH h.BB h.buffer o.kind o.a).2.1,h.sites⟩,(KH h.BB h.buffer o.kind o.a).2.2) else
 if o.kind=4 then (⟨(H2 h.BB h.buffer o.a o.b o.c).1,h.B9,(H2 h.BB h.buffer o.a o.b o.c).2.1,h.sites⟩,(H2 h.BB h.buffer o.a o.b o.c).2.2) else
 if o.kind=7 then (⟨h.BB,(OL h.BB h.B9 o.a).1,h.buffer,h.sites⟩,(OL h.BB h.B9 o.a).2) else
 if o.kind=8∨o.kind=9 then (⟨h.BB,(JA h.BB h.B9 o.kind o.a).1,h.buffer,h.sites⟩,(JA h.BB h.B9 o.kind o.a).2) else
 if o.kind=10 then (⟨(OV h.BB h.buffer).1,h.B9,[],h.sites⟩,⟨0,0,(OV h.BB h.buffer).2⟩) else (h,⟨2,0,[]⟩)
theorem dR {α:Type} [Inhabited α] {l:List α} (h: ∀i (hi:i<l.length),l[i]∉l.take i):l.Nodup:=by
 refine List.pairwise_iff_getElem.2 fun i j hi hj hij he=>h j hj ?_
 rw [←he]
 exact List.mem_take_iff_getElem.2 ⟨i,by omega,rfl⟩
theorem few {n:Nat}: ∀{l:List Int} (g:Int→Nat),l.Nodup→(∀x∈l,g x<n)→(∀x∈l, ∀y∈l,g x=g y→x=y)→l.length≤n:=by
 induction n with
 | zero=>
   intro l g _ h _
   cases l with
   | nil=>simp
   | cons x l=>exact absurd (h x (by simp)) (by omega)
 | succ n ih=>
   intro l g hn h hi
   by_cases hx: ∃x∈l,g x=n
   ·obtain ⟨x,hx,hg⟩:=hx
    have:=ih (l:=l.erase x) g (hn.erase x) (fun y hy=>by
     have hy':=List.mem_of_mem_erase hy
     have:=h y hy'
     have hne:g y≠n:=fun he=>by
      have:y=x:=hi y hy' x hx (by omega)
      subst this
      exact (List.Nodup.not_mem_erase hn) hy
     omega) fun y hy z hz=>hi y (List.mem_of_mem_erase hy) z (List.mem_of_mem_erase hz)
    rw [List.length_erase_of_mem hx] at this
    omega
   ·have:=ih g hn (fun y hy=>by
     have:=h y hy
     have:g y≠n:=fun he=>hx ⟨y,hy,he⟩
     omega) hi
    omega
theorem C7.bnd {h:Hp} (hk:C7 h):h.buffer.Nodup:=dR fun i hi=>by rw [GQ hi];exact (hk.buf i hi).2
theorem C7.V3 {h:Hp} (hk:C7 h) {x:Int} (hx:x∈h.buffer):0≤AB h.BB x:=by
 obtain ⟨i,hi,rfl⟩:=List.getElem_of_mem hx
 rw [GQ hi];exact (hk.buf i hi).1
theorem eJ {l:List AX} {x y:Int} (hx:0≤AB l x) (hy:0≤AB l y) (h:AB l x=AB l y):x=y:=by
 have a:=BQ hx;have b:=BQ hy
 have e1:=a.2.2.2.2.2;have e2:=b.2.2.2.2.2
 rw [h] at e1
 omega
theorem C7.wB {h:Hp} (hk:C7 h):h.buffer.length≤8:=
 few (fun x=>(AB h.BB x).toNat) hk.bnd (fun x hx=>(BQ (hk.V3 hx)).2.2.2.1) fun x hx y hy he=>eJ (hk.V3 hx) (hk.V3 hy) (by have:=hk.V3 hx;have:=hk.V3 hy;omega)
theorem C7.st {h:Hp} (hk:C7 h) (hn:VO h):St h:=by
 refine ⟨hk.ol,hk.wl,hk.sites.len,by have:=hk.wB;omega,fun o ho=> ?_,fun s hs=> ?_,hn.weak,hn.buf⟩
 ·obtain ⟨i,hi,rfl⟩:=List.getElem_of_mem ho
  have hi8:i<8:=by have:=hk.ol;omega
  have:=hn.obj _ ho
  rw [DY hi] at this ⊢
  exact ⟨this.1,(hk.obj i hi8).len,this.2.2.2.2.2⟩
 ·obtain ⟨i,hi,rfl⟩:=List.getElem_of_mem hs
  have:=(hk.sites.sz i hi).2
  rw [P4 hi];omega
theorem C7.hr {h:Hp} (hk:C7 h) (i:Nat):(0≤(ob h.BB i).holds∧(ob h.BB i).holds≤20)∧(0≤(ob h.BB i).roots∧(ob h.BB i).roots≤20):=by
 by_cases hi:i<8
 ·cases hv:(ob h.BB i).live with
  | true=>exact ⟨((hk.obj i hi).lv hv).2.2.1,((hk.obj i hi).lv hv).2.2.2.1⟩
  | false=>have:=(hk.obj i hi).dead hv;omega
 ·have:ob h.BB i=⟨false,0,0,0,0,0,[],false⟩:=by unfold ob;rw [List.getD_eq_getElem?_getD,List.getElem?_eq_none (by have:=hk.ol;omega)];rfl
  rw [this];simp
theorem C7.fd {h:Hp} (hk:C7 h) (i:Nat): ∀f∈(ob h.BB i).field,f= -1∨0≤f:=by
 intro f hf
 by_cases hi:i<8
 ·obtain ⟨j,hj,rfl⟩:=List.getElem_of_mem hf
  have ho:=hk.obj i hi
  by_cases h1:gI (ob h.BB i).field j= -1
  ·left;rw [GQ hj];exact h1
  ·right
   have:=BQ (ho.lead j (by have:=ho.len;omega) h1).2
   rw [GQ hj];omega
 ·have:ob h.BB i=⟨false,0,0,0,0,0,[],false⟩:=by unfold ob;rw [List.getD_eq_getElem?_getD,List.getElem?_eq_none (by have:=hk.ol;omega)];rfl
  rw [this] at hf;simp at hf
theorem kinds (k:Int):k=1∨(k=2∨k=3∨k=5∨k=6)∨k=4∨k=7∨(k=8∨k=9)∨k=10∨ ¬(k=1∨k=2∨k=3∨k=4∨k=5∨k=6∨k=7∨k=8∨k=9∨k=10):=by omega
end Go.Proofs.Ytnhicpkhkaihoaa.P
namespace Go.Proofs.Ytnhicpkhkaihoaa.P
open Go Go.Proofs.Ytnhicpkhkaihoaa Go.Proofs.Ytnhicpkhkaihoaa.Eng
set_option linter.unusedVariables false
set_option maxHeartbeats 4000000
set_option linter.unusedVariables false
set_option linter.unusedSimpArgs false
attribute [local irreducible] prP gP gE gF AI ixW ldc ldg ldl stc stg scW mkW apW BG cl2 BZ EZ DS
variable {w0:World}
open Classical in
noncomputable def LO (h:Hp) (o:Op5):Hp×An:=if C7 h then L5 h o else (h,⟨2,0,[]⟩)
theorem SL {h:Hp} {o:Op5} (hk:C7 h):LO h o=L5 h o:=by unfold LO;rw [if_pos hk]
theorem aU {h:Hp} {o:Op5} (hk: ¬C7 h):LO h o=(h,⟨2,0,[]⟩):=by unfold LO;rw [if_neg hk]
theorem N6 {h:Hp} {o:Op5} {K:J2} (hf:Fits h) (hn:VO h) (ha:F64 o.a) (hc:F64 o.c) (hK:K [I (LO h o).2.code,I (LO h o).2.val] (trees (LO h o).1++[tI (LO h o).2.freed])):cl2 ⟨Try.prog,w0⟩ 62 EB.sg [I o.kind,I o.a,I o.b,I o.c, .string o.site] (trees h) K:=by
 refine EB.cl2 ?_
 unfold EB.txt
 refine J4 hf (XC hf hn (fun hk=>B6 (CD ?_)) fun hk=>B6 (CQ ?_))
 rotate_left
 ·rw [aU hk] at hK
  exact hK
 rw [SL hk] at hK
 have st:=hk.st hn
 have hr:=hk.hr
 have hfd:=hk.fd
 have hss:=hk.sites
 have hcn: ∀o∈h.BB,F64 o.count:=fun o ho=>(hn.obj o ho).2.2.2.2.1
 clear hf hk
 obtain ⟨kd,a,b,c,s⟩:=o
 have hol:h.BB.length=8:=st.ol
 simp only at ha hc hr
 unfold L5 at hK
 simp only at hK
 have hold:=fun {K:J2} (hkd:kd=2∨kd=3∨kd=5∨kd=6)=>XA (w0:=w0) (h:=h) (kind:=kd) (id:=a) (b:=b) (c:=c) (s:=s) (K:=K) st ha hkd hr
 have store:=fun {K:J2}=>W4 (w0:=w0) (h:=h) (a0:=kd) (a1:=a) (a2:=b) (a3:=c) (s:=s) (K:=K) st ha hc hfd
 have pS:=fun {K:J2}=>V0 (w0:=w0) (h:=h) (K:=K) st hcn
 have weak:=fun {K:J2}=>XD (w0:=w0) (os:=h.BB) (ws:=h.B9) (cc:=tI h.buffer) (d:=tS h.sites) (kind:=kd) (k:=a) (b:=b) (c:=c) (s:=s) (K:=K) hol st.wl ha st.wf
 simp only [trees] at hold store pS ⊢
 rcases kinds kd with rfl | hkd | rfl | rfl | hkd | rfl | hkd
 ·rw [if_pos rfl] at hK
  exact BI (GF rfl (VX hol hss hK))
 ·rw [if_neg (by omega),if_pos hkd] at hK
  replace hold:=fun {K:J2}=>hold (K:=K) hkd
  rcases hkd with rfl | rfl | rfl | rfl
  all_goals
   repeat' (first | refine BX ?_ | refine CQ ?_ | refine CD ?_ | refine BI ?_ | simp only [AJ,AQ,AL,AR,AO,AE,AG,AU,AN,AS,AV,AP,AM,AT,BN,BS,BV,BT,BW,BU,BO,A9,A6,A4,A7,A8,A5])
   exact hold hK
 ·simp only [if_neg (show ¬(4:Int)=1 by decide),if_neg (show ¬((4:Int)=2∨(4:Int)=3∨(4:Int)=5∨(4:Int)=6) by decide),if_true] at hK
  repeat' (first | refine BX ?_ | refine CQ ?_ | refine CD ?_ | refine BI ?_ | simp only [AJ,AQ,AL,AR,AO,AE,AG,AU,AN,AS,AV,AP,AM,AT,BN,BS,BV,BT,BW,BU,BO,A9,A6,A4,A7,A8,A5])
  exact store hK
 ·simp only [if_neg (show ¬(7:Int)=1 by decide),if_neg (show ¬((7:Int)=2∨(7:Int)=3∨(7:Int)=5∨(7:Int)=6) by decide),if_neg (show ¬(7:Int)=4 by decide),if_true] at hK
  repeat' (first | refine BX ?_ | refine CQ ?_ | refine CD ?_ | refine BI ?_ | simp only [AJ,AQ,AL,AR,AO,AE,AG,AU,AN,AS,AV,AP,AM,AT,BN,BS,BV,BT,BW,BU,BO,A9,A6,A4,A7,A8,A5])
  exact weak (fun _=>hK) (fun hh=>absurd rfl hh)
 ·rw [if_neg (by omega),if_neg (by omega),if_neg (by omega),if_neg (by omega),if_pos hkd] at hK
  rcases hkd with rfl | rfl
  all_goals
   repeat' (first | refine BX ?_ | refine CQ ?_ | refine CD ?_ | refine BI ?_ | simp only [AJ,AQ,AL,AR,AO,AE,AG,AU,AN,AS,AV,AP,AM,AT,BN,BS,BV,BT,BW,BU,BO,A9,A6,A4,A7,A8,A5])
   exact weak (fun hh=>absurd hh (by decide)) (fun _=>hK)
 ·simp only [if_neg (show ¬(10:Int)=1 by decide),if_neg (show ¬((10:Int)=2∨(10:Int)=3∨(10:Int)=5∨(10:Int)=6) by decide),if_neg (show ¬(10:Int)=4 by decide),if_neg (show ¬(10:Int)=7 by decide),if_neg (show ¬((10:Int)=8∨(10:Int)=9) by decide),if_true] at hK
  repeat' (first | refine BX ?_ | refine CQ ?_ | refine CD ?_ | refine BI ?_ | simp only [AJ,AQ,AL,AR,AO,AE,AG,AU,AN,AS,AV,AP,AM,AT,BN,BS,BV,BT,BW,BU,BO,A9,A6,A4,A7,A8,A5])
  exact pS hK
 ·rw [if_neg (by omega),if_neg (by omega),if_neg (by omega),if_neg (by omega),if_neg (by omega),if_neg (by omega)] at hK
  repeat' (first | refine BX ?_ | refine FF (by first | with_reducible assumption | omega) ?_ | refine BI ?_ | simp only [AJ,AQ,AL,AR,AO,AE,AG,AU,AN,AS,AV,AP,AM,AT,BN,BS,BV,BT,BW,BU,BO,A9,A6,A4,A7,A8,A5])
  all_goals first | exact hK | (exfalso;omega)
end Go.Proofs.Ytnhicpkhkaihoaa.P
namespace Go.Proofs.Ytnhicpkhkaihoaa.P
open Go Go.Proofs.Ytnhicpkhkaihoaa Go.Proofs.Ytnhicpkhkaihoaa.Eng
set_option linter.unusedVariables false
def okE (n:Int) (l:List ByteArray) (a b c d:Int) (s:ByteArray) (k v:Int) (xs:List Int):Bool:=(UR a b c d s&&R1 k v xs)&&SY n l
def Fx (q:ByteArray×Int) (x:Int):ByteArray×Int:=(q.1++SI (x-q.2),x)
def base (n:Int) (l:List ByteArray) (a b c d:Int) (s:ByteArray) (k v:Int) (m:Nat):ByteArray:=((((((SI a++SI (b-n))++SI c)++SI (d-b))++OE l s)++V k)++SI (v-b))++V m
def stE (p:ByteArray×Int) (xs:List Int) (i:Nat):ByteArray×Int:=(xs.take i).foldl Fx p
theorem VI {p:ByteArray×Int} {xs:List Int} {i:Nat} (hi:i<xs.length):stE p xs (i+1)=Fx (stE p xs i) xs[i]:=by
 rw [stE,List.take_succ_eq_append_getElem hi,List.foldl_append];rfl
theorem ZC {p:ByteArray×Int} {xs:List Int} (hp:I2 p.2=true) (hx:xs.all I2=true): ∀i,i≤xs.length→I2 (stE p xs i).2=true∧(stE p xs i).1.size≤p.1.size+7*i
 | 0,_=>⟨hp,Nat.le_refl _⟩
 | i+1,hi=>by
   obtain ⟨h1,h2⟩:=ZC hp hx i (by omega)
   rw [VI (by omega)]
   refine ⟨List.all_eq_true.1 hx _ (List.getElem_mem _), ?_⟩
   have:=IE (zg (xs[i]-(stE p xs i).2))
   simp only [Fx,ByteArray.size_append,SI];omega
theorem QI (l:List ByteArray) (s:ByteArray):(OE l s).size≤22:=by
 unfold OE;split
 ·have:=IE (at_ l s+1);omega
 ·have h1:=IE 0
  have h2:=ZJ s
  rw [ByteArray.size_append];omega
theorem GM (n:Int):(SI n).size≤7:=IE _
theorem ES {n:Int} (h:I2 n=true): -1000000000≤n∧n≤1000000000:=KO.1 h
def HQ (n:Int) (l:List ByteArray) (a b c d:Int) (s:ByteArray) (k v:Int) (xs:List Int):ByteArray×Int×List ByteArray:=
 if okE n l a b c d s k v xs then ((stE (base n l a b c d s k v xs.length,b) xs xs.length).1,b,XG l s) else (⟨#[]⟩,n,l)
theorem LQ {n:Int} {l:List ByteArray} {a b c d:Int} {s:ByteArray} {k v:Int} {xs:List Int} (h:okE n l a b c d s k v xs=true):I2 a=true∧I2 b=true∧I2 c=true∧I2 d=true∧I2 v=true∧I2 n=true∧xs.all I2=true∧xs.length≤8∧(0≤k∧k≤6)∧l.length≤400:=by
 simp only [okE,UR,R1,SY,Bool.and_eq_true,decide_eq_true_eq] at h
 exact ⟨h.1.1.1.1.1.1,h.1.1.1.1.1.2,h.1.1.1.1.2,h.1.1.1.2,h.1.2.1.1.2,h.2.1.1,h.1.2.2,h.1.2.1.2,KO.1 h.1.2.1.1.1,h.2.1.2⟩
theorem TD (n:Int) (l:List ByteArray) (a b c d:Int) (s:ByteArray) (k v:Int) (m:Nat):(base n l a b c d s k v m).size≤71:=by
 have h1:=GM a;have h2:=GM (b-n);have h3:=GM c;have h4:=GM (d-b);have h5:=QI l s;have h6:=IE k;have h7:=GM (v-b);have h8:=IE m
 simp only [base,ByteArray.size_append];omega
theorem JP {w0:World} {n:Int} {l:List ByteArray} {a b c d:Int} {s:ByteArray} {k v:Int} {xs:List Int} {K:J2} (hl:l.length<2^40) (hx:(xs.length:Int)<2^62)
  (h:K [.string (HQ n l a b c d s k v xs).1,I (HQ n l a b c d s k v xs).2.1] [tS (HQ n l a b c d s k v xs).2.2]):cl2 ⟨Try.prog,w0⟩ 52 CN.sg [I n,I a,I b,I c,I d, .string s,I k,I v] [tS l,tI xs] K:=by
 refine CN.cl2 ?_
 unfold CN.txt
 simp only [AG,AE]
 refine S7 (B6 (F7 (US (fun _ K hk=>QK hx hk) (F7 (US (fun _ K hk=>T6 (by omega) hk) (IF (fun hb=> ?_) fun hb=> ?_))))))
 ·have hno:okE n l a b c d s k v xs=false:=by
   revert hb;unfold okE
   cases UR a b c d s <;> cases R1 k v xs <;> cases SY n l <;> simp
  rw [HQ,hno] at h
  refine RZ (Q8 l) (by simp [cnt];omega) ?_
  rw [List.nil_append];exact h
 ·have hok:okE n l a b c d s k v xs=true:=by
   revert hb;unfold okE
   cases UR a b c d s <;> cases R1 k v xs <;> cases SY n l <;> simp
  rw [HQ,if_pos hok] at h
  obtain ⟨ha,hb,hc,hd,hv,hn,hxs,hxl,hk,hll⟩:=LQ hok
  have a1:=ES ha;have b1:=ES hb;have c1:=ES hc;have d1:=ES hd;have v1:=ES hv;have n1:=ES hn
  have h1:=GM a;have h2:=GM (b-n);have h3:=GM c;have h4:=GM (d-b);have h5:=QI l s;have h6:=IE k;have h7:=GM (v-b);have h8:=IE xs.length
  refine UY hl (G4 (DW ⟨by omega,by omega⟩ (G4 (CI (by omega) (G4 (CI (by simp only [ByteArray.size_append];omega) (DW ⟨by omega,by omega⟩ (G4 (CI (by simp only [ByteArray.size_append];omega) (CI (by simp only [ByteArray.size_append];omega) (J1 ⟨by omega,by omega⟩ (CI (by simp only [ByteArray.size_append];omega) (DW ⟨by omega,by omega⟩ (G4 (CI (by simp only [ByteArray.size_append];omega) (J1 (n:=Int.ofNat xs.length) ⟨by simp only [Int.ofNat_eq_natCast];omega,by simp only [Int.ofNat_eq_natCast];omega⟩ (CI (by simp only [Int.ofNat_eq_natCast,ByteArray.size_append];omega) ?_)))))))))))))))))
  have hbs:=TD n l a b c d s k v xs.length
  refine BF (fun i=>[.string (stE (base n l a b c d s k v xs.length,b) xs i).1,I (stE (base n l a b c d s k v xs.length,b) xs i).2,iv i,I a,I b,I c,I d, .string s,I k,I v, .int .i64 0,I n]) (fun _=>[tS (XG l s)]) xs.length (fun _=>True) rfl rfl trivial (fun R i hi _ hR=> ?_)
  refine KR (AH (fun hlt=> ?_) fun hge=> ?_)
  ·obtain ⟨q1,q2⟩:=ZC (p:=(base n l a b c d s k v xs.length,b)) hb hxs i hi
   have q3:=ES q1
   have q4:=ES (List.all_eq_true.1 hxs _ (List.getElem_mem hlt))
   simp only at q2
   have q5:=GM (xs[i]-(stE (base n l a b c d s k v xs.length,b) xs i).2)
   have:=hR hlt trivial
   rw [VI hlt] at this
   exact AK hlt (Q1 hlt (DW ⟨by omega,by omega⟩ (G4 (CI (by omega) (AK hlt (Q1 hlt (BD (by omega) this)))))))
  ·have:i=xs.length:=by omega
   subst this
   exact h
end Go.Proofs.Ytnhicpkhkaihoaa.P
namespace Go.Proofs.Ytnhicpkhkaihoaa.P
open Go Go.Proofs.Ytnhicpkhkaihoaa Go.Proofs.Ytnhicpkhkaihoaa.Eng
set_option linter.unusedVariables false
theorem gA {f:J2} {g:J2→Prop} (P:List Value→List (List T)→Prop) (h1: ∀xs cs,P xs cs→f xs cs) (h2: ∀j:J2,(∀xs cs,P xs cs→j xs cs)→g j):BZ f g:=h2 f h1
theorem NB {w0:World} {n:Int} {l:List ByteArray} {a b c d:Int} {s:ByteArray} {k v:Int} {xs:List Int} {K:J2} (hl:l.length<2^40) (hx:(xs.length:Int)<2^62)
  (h:K [.string (HQ n l a b c d s k v xs).1,I (HQ n l a b c d s k v xs).2.1] [tS (HQ n l a b c d s k v xs).2.2]):cl2 ⟨Try.prog,w0⟩ 51 CM.sg [I n,I a,I b,I c,I d, .string s,I k,I v] [tS l,tI xs] K:=by
 refine CM.cl2 ?_
 unfold CM.txt
 simp only [AG,AE]
 refine PA (by omega) (M9 (B6 (F7 (US (fun _ K hk=>R0 hx hk) (F7 (US (fun _ K hk=>Y9 (by omega) hk) (IF (fun hb=> ?_) fun hb=> ?_)))))))
 ·have hno:okE n l a b c d s k v xs=false:=by
   revert hb;unfold okE
   cases UR a b c d s <;> cases R1 k v xs <;> cases SY n l <;> simp
  rw [HQ,hno] at h
  exact h
 ·have hok:okE n l a b c d s k v xs=true:=by
   revert hb;unfold okE
   cases UR a b c d s <;> cases R1 k v xs <;> cases SY n l <;> simp
  rw [HQ,if_pos hok] at h
  obtain ⟨ha,hb,hc,hd,hv,hn,hxs,hxl,hk,hll⟩:=LQ hok
  have a1:=ES ha;have b1:=ES hb;have c1:=ES hc;have d1:=ES hd;have v1:=ES hv;have n1:=ES hn
  have h1:=GM a;have h2:=GM (b-n);have h3:=GM c;have h4:=GM (d-b);have h5:=QI l s;have h6:=IE k;have h7:=GM (v-b);have h8:=IE xs.length
  refine GY (DW ⟨by omega,by omega⟩ (GY (CI (by omega) (GY (CI (by simp only [ByteArray.size_append];omega) (DW ⟨by omega,by omega⟩ (GY (CI (by simp only [ByteArray.size_append];omega) ?_))))))))
  refine gA (fun ys cs=>ys=[.string (((((SI a++SI (b-n))++SI c)++SI (d-b)))++OE l s),I a,I b,I c,I d, .string s,I k,I v, .int .i64 0,I b]∧cs=[tS (XG l s)]) (fun ys cs hp=> ?_) fun j hj=> ?_
  ·obtain ⟨rfl,rfl⟩:=hp
   refine JX ⟨by omega,by omega⟩ (DW ⟨by omega,by omega⟩ (GY (CI (by omega) (JX (n:=Int.ofNat xs.length) ⟨by simp only [Int.ofNat_eq_natCast];omega,by simp only [Int.ofNat_eq_natCast];omega⟩ (CI (by simp only [Int.ofNat_eq_natCast,ByteArray.size_append];omega) (CI (by simp only [Int.ofNat_eq_natCast,ByteArray.size_append];omega) ?_))))))
   have hbs:=TD n l a b c d s k v xs.length
   refine BF (fun i=>[.string (stE (base n l a b c d s k v xs.length,b) xs i).1,I (stE (base n l a b c d s k v xs.length,b) xs i).2,iv xs.length,iv i, .int .i64 0,I b]) (fun _=>[tS (XG l s)]) xs.length (fun _=>True) ?_ rfl trivial (fun R i hi _ hR=> ?_)
   ·have e:(stE (base n l a b c d s k v xs.length,b) xs 0)=(base n l a b c d s k v xs.length,b):=rfl
    rw [e]
    simp only [base,ByteArray.append_assoc,Int.ofNat_eq_natCast]
    rfl
   refine KR (AH (fun hlt=> ?_) fun hge=> ?_)
   ·obtain ⟨q1,q2⟩:=ZC (p:=(base n l a b c d s k v xs.length,b)) hb hxs i hi
    have q3:=ES q1
    have q4:=ES (List.all_eq_true.1 hxs _ (List.getElem_mem hlt))
    simp only at q2
    have q5:=GM (xs[i]-(stE (base n l a b c d s k v xs.length,b) xs i).2)
    have:=hR hlt trivial
    rw [VI hlt] at this
    exact AK hlt (Q1 hlt (DW ⟨by omega,by omega⟩ (GY (CI (by omega) (BD (by omega) this)))))
   ·have:i=xs.length:=by omega
    subst this
    exact h
  ·refine P9 (by omega) (JI (b:=0) (AH (fun hge=> ?_) fun hlt=> ?_))
   ·have hm:s∈l:=by
     by_cases hm:s∈l
     ·exact hm
     ·rw [at_,if_neg hm] at hge;omega
    have hat:at_ l s≤l.length:=by rw [at_,if_pos hm];have:=List.idxOf_lt_length_of_mem hm;omega
    have hv:=IE (at_ l s+1)
    refine CV (b:=1) ⟨by omega,by omega⟩ (JX ⟨by omega,by omega⟩ (CI (by simp only [ByteArray.size_append];omega) (hj _ _ ⟨?_, ?_⟩)))
    ·rw [OE,if_pos hm]
    ·rw [XG,if_pos hm];rfl
   ·have hm:s∉l:=by
     intro hm
     rw [at_,if_pos hm] at hlt;omega
    have hv:=IE 0
    have hs:=ZJ s
    refine JX ⟨by omega,by omega⟩ (T3 (CI (by omega) (CI (by simp only [ByteArray.size_append];omega) (RZ rfl ?_ (hj _ _ ⟨?_, ?_⟩)))))
    ·have hc:cnt 1 (nxc [tS l] 0)=l.length:=AG l
     rw [hc];simp [cnt];omega
    ·rw [OE,if_neg hm]
    ·rw [XG,if_neg hm];simp [tS,nxc]
end Go.Proofs.Ytnhicpkhkaihoaa.P
