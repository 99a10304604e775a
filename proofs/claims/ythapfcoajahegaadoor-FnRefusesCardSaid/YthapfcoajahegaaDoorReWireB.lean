/- A part of the proof. -/
import Derived.Test.YthapfcoajahegaaDoorReHpR
import Derived.Test.YthapfcoajahegaaDoorReHpE
import Derived.Test.YthapfcoajahegaaDoorReLawTyNode
namespace Go.Proofs.YthapfcoajahegaaDoor.P
open Go Go.Proofs.YthapfcoajahegaaDoor Go.Proofs.YthapfcoajahegaaDoor.Eng
set_option linter.unusedVariables false
set_option maxHeartbeats 4000000
set_option linter.unusedVariables false
set_option linter.unusedSimpArgs false
attribute [local irreducible] prP gP gE gF AY ixW ldc ldg ldl stc stg scW mkW apW A6 cl2 BL C5 BX
variable {w0:World}
theorem hU {os:List AD} {i:Nat} (hi:i<os.length):(os.take (i+1)).map (·.count)=(os.take i).map (·.count)++[(ob os i).count]:=by
 rw [List.take_succ_eq_append_getElem hi,List.map_append,FH hi];rfl
theorem TH {os:List AD} {b c d:List T} {K:J2} (hol:os.length=8) (h:K [] [tI (os.map (·.count)),tI (List.replicate 8 0)]):cl2 ⟨Tryd.prog,w0⟩ 30 F9.sg [] [tR tO os,b,c,d] K:=by
 refine F9.cl2 ?_
 unfold F9.txt
 simp only [AM,AS,AW,AU,AO,AI,AJ,AQ,AK,AP,AN,AR,AL,AV,CF,CQ,CO,CT,CL,CN,CP,BD,BE,BG,BH,BJ,BF]
 refine DZ (fun i=>[iv os.length,iv i]) (fun i=>[tI ((os.take i).map (·.count)),tI (List.replicate i 0)]) os.length (fun _=>True) rfl rfl trivial (fun R i hi hP hR=> ?_)
 have hln:((os.take i).map (·.count)).length=i:=by simp;omega
 have hl2:(List.replicate i (0:Int)).length=i:=List.length_replicate
 simp only [AM,AS,AW,AU,AO,AI,AJ,AQ,AK,AP,AN,AR,AL,AV,CF,CQ,CO,CT,CL,CN,CP,BD,BE,BG,BH,BJ,BF]
 refine A4 (A8 (fun hlt=> ?_) fun hge=> ?_)
 ·have hlt:i<os.length:=by omega
  replace hR:=hR hlt trivial
  rw [hU hlt, ←KJ,List.replicate_succ', ←KJ] at hR
  refine HH (A5 hlt (EG hlt ?_))
  simp only [tQ]
  exact A4 (BW (by omega) (D5 rfl (by omega) (D5 rfl (by omega) (AZ (by omega) hR))))
 ·have:i=os.length:=by omega
  subst this
  rw [List.take_length,hol];exact h
theorem V6 {cs col:List Int} {W:Nat→Bool} {K:J2} (hl:col.length=8) (hw: ∀k,k<8→(gI col k=2↔W k=true)) (h:K [] [tI (ET W 8)]):cl2 ⟨Tryd.prog,w0⟩ 33 HL.sg [] [tI cs,tI col] K:=by
 refine HL.cl2 ?_
 unfold HL.txt
 simp only [AM,AS,AW,AU,AO,AI,AJ,AQ,AK,AP,AN,AR,AL,AV,CF,CQ,CO,CT,CL,CN,CP,BD,BE,BG,BH,BJ,BF]
 refine DZ (fun i=>[iv col.length,iv i]) (fun i=>[tI (ET W i)]) col.length (fun _=>True) rfl rfl trivial (fun R i hi hP hR=> ?_)
 have hln:(ET W i).length≤i:=UI (fun i=>by split <;> simp) i
 simp only [AM,AS,AW,AU,AO,AI,AJ,AQ,AK,AP,AN,AR,AL,AV,CF,CQ,CO,CT,CL,CN,CP,BD,BE,BG,BH,BJ,BF]
 refine A4 (A8 (fun hlt=> ?_) fun hge=> ?_)
 ·have hlt:i<col.length:=by omega
  replace hR:=hR hlt trivial
  have hwi:=hw i (by omega)
  refine HH (A5 hlt (ldI hlt (B8 (A8 (fun h2=> ?_) fun h2=> ?_))))
  ·have e:ET W (i+1)=ET W i++[(i:Int)]:=by show ET W i++(if W i=true then [(i:Int)] else [])=_;rw [if_pos (hwi.1 h2)]
   rw [e, ←KJ] at hR
   exact D5 rfl (by omega) (AZ (by omega) hR)
  ·have e:ET W (i+1)=ET W i:=by show ET W i++(if W i=true then [(i:Int)] else [])=_;rw [if_neg (fun hh=>h2 (hwi.2 hh)),List.append_nil]
   rw [e] at hR
   exact AZ (by omega) hR
 ·have:i=col.length:=by omega
  subst this
  rw [hl];exact h
theorem MK.start {os:List AD} (hol:os.length=8) (hc: ∀o∈os,F64 o.count):MK os (fun i=>(ob os i).count) [] (os.map (·.count)) (List.replicate 8 0):=by
 have hz: ∀k,k<8→gI (List.replicate 8 (0:Int)) k=0:=fun k hk=>by unfold gI;rw [List.getD_eq_getElem?_getD,List.getElem?_replicate,if_pos hk];rfl
 have hcs: ∀i,i<8→gI (os.map (·.count)) i=(ob os i).count:=fun i hi=>by
  rw [←G3 (by simp;omega),List.getElem_map,FH (by omega)]
 have hF: ∀i,i<8→F64 (ob os i).count:=fun i hi=>hc _ (LO (by omega))
 refine ⟨⟨by simp [hol],by simp⟩,fun i hi=>by rw [hcs i hi];exact hF i hi,fun k hk h1=> ?_,fun k hk h1=>⟨hz k hk, ?_⟩,fun i hi=> ?_⟩
 ·rw [hz k hk] at h1;omega
 ·rintro ⟨b,hb,_⟩;simp at hb
 ·have:S os (isC (List.replicate 8 0) 1) i=0:=JX fun k hk=>by unfold isC;rw [hz k hk];rfl
  rw [hcs i hi,this,Int.sub_zero,JU (hF i hi)]
theorem sV {os:List AD} {W:Nat→Bool} {j:Nat} (hj:j<(ET W 8).length) {x:Nat} (hx:gI (ET W 8) j=(x:Int)):(fun i:Nat=>if ((i:Nat):Int)∈(ET W 8).take (j+1) then BS (ob os i).gen else ob os i)=fun i=>if i=x then BS (ob os x).gen else (if ((i:Nat):Int)∈(ET W 8).take j then BS (ob os i).gen else ob os i):=by
 funext i
 rw [List.take_succ_eq_append_getElem hj,G3 hj,hx]
 simp only [List.mem_append,List.mem_singleton]
 by_cases hi:i=x
 ·subst hi;simp
 ·have: ¬(i:Int)=(x:Int):=by omega
  simp [hi,this]
def QH (os:List AD) (W:Nat→Bool) (i:Nat):AD:=if W i=true then BS (ob os i).gen else ob os i
theorem dM (os:List AD) (W:Nat→Bool) (i:Nat):{QH os W i with purple:=false}=G8 os W i:=by
 unfold QH G8
 split <;> rfl
theorem U6 (os:List AD) (W:Nat→Bool) (i:Nat):(IC os W i).live=(G8 os W i).live∧(IC os W i).gen=(G8 os W i).gen∧(IC os W i).field=(G8 os W i).field:=by
 unfold IC;split <;> exact ⟨rfl,rfl,rfl⟩
theorem Z8 (os:List AD) (W:Nat→Bool) (i:Nat):(QH os W i).live=(G8 os W i).live∧(QH os W i).gen=(G8 os W i).gen∧(QH os W i).field=(G8 os W i).field:=by
 rw [←dM];exact ⟨rfl,rfl,rfl⟩
theorem jM {os:List AD} (hof: ∀o∈os,OF o) (hol:os.length=8) (W:Nat→Bool) {i:Nat} (hi:i<8):(G8 os W i).field.length=3:=by
 unfold G8
 split
 ·rfl
 ·exact (hof _ (LO (by omega))).len
theorem UE {h:Hp} {K:J2} (st:St h) (hc: ∀o∈h.AG,F64 o.count) (hK:K [] [tR tO (JM h.AG h.buffer).1,tR tW h.CY,[],tS h.sites,tI (JM h.AG h.buffer).2]):cl2 ⟨Tryd.prog,w0⟩ 19 GQ.sg [] (trees h) K:=by
 refine GQ.cl2 ?_
 unfold GQ.txt
 refine TO st.fits ?_
 obtain ⟨os,ws,buf,ss⟩:=h
 have hol:os.length=8:=st.ol
 have hof: ∀o∈os,OF o:=st.of
 have hb:buf.length≤100:=st.bl
 have hbf: ∀x∈buf,F64 x:=st.bf
 simp only at hc hK
 simp only [trees]
 obtain ⟨ct,hct⟩: ∃ct:Nat→Int,ct=fun i=>(ob os i).count:=⟨_,rfl⟩
 obtain ⟨W,hW⟩: ∃W,W=ML os ct buf:=⟨_,rfl⟩
 unfold JM at hK
 rw [←hct, ←hW] at hK
 simp only [AM,AS,AW,AU,AO,AI,AJ,AQ,AK,AP,AN,AR,AL,AV,CF,CQ,CO,CT,CL,CN,CP,BD,BE,BG,BH,BJ,BF]
 refine CB (CW (by omega) (TH hol ?_))
 refine NI (α:=Nat×List Int×List Int) (fun q=>[iv buf.length,iv q.1]) (fun q=>[tR tO os,tR tW ws,tI buf,tS ss,tI q.2.1,tI q.2.2]) (fun q=>buf.length-q.1) (fun q=>q.1≤buf.length∧MK os ct (buf.take q.1) q.2.1 q.2.2) (0,os.map (·.count),List.replicate 8 0) rfl rfl ⟨Nat.zero_le _,by rw [hct];exact MK.start hol hc⟩ (fun R q hq hR=> ?_)
 obtain ⟨i,cs,col⟩:=q
 obtain ⟨hi,mk⟩:=hq
 simp only at hi mk
 simp only [AM,AS,AW,AU,AO,AI,AJ,AQ,AK,AP,AN,AR,AL,AV,CF,CQ,CO,CT,CL,CN,CP,BD,BE,BG,BH,BJ,BF]
 refine A4 (A8 (fun hlt=> ?_) fun hge=> ?_)
 ·have hlt:i<buf.length:=by omega
  have hx:=hbf _ (JH hlt)
  have nx:=fun cs' col' (m:MK os ct (buf.take i++[gI buf i]) cs' col')=>hR (i+1,cs',col') ⟨by simp only;omega,by simp only;rw [List.take_succ_eq_append_getElem hlt,G3 hlt];exact m⟩ (by simp only;omega)
  refine A5 hlt (ldI hlt (C6 hx (by omega) (TE hol hof mk.len.1 mk.len.2 mk.f (fun hn=> ?_) fun s hs s8 cs' col' p=> ?_)))
  ·exact AZ (by omega) (nx _ _ (mk.none hn))
  ·exact AZ (by omega) (nx _ _ (mk.some hs s8 p))
 have:i=buf.length:=by omega
 subst this
 rw [List.take_length] at mk
 refine NI (α:=Nat×List Int×List Int) (fun q=>[iv buf.length,iv q.1]) (fun q=>[tR tO os,tR tW ws,tI buf,tS ss,tI q.2.1,tI q.2.2]) (fun q=>buf.length-q.1) (fun q=>q.1≤buf.length∧SC os ct buf (buf.take q.1) q.2.1 q.2.2) (0,cs,col) rfl rfl ⟨Nat.zero_le _,SC.start mk⟩ (fun R q hq hR=> ?_)
 obtain ⟨i,cs,col⟩:=q
 obtain ⟨hi,sc⟩:=hq
 simp only at hi sc
 simp only [AM,AS,AW,AU,AO,AI,AJ,AQ,AK,AP,AN,AR,AL,AV,CF,CQ,CO,CT,CL,CN,CP,BD,BE,BG,BH,BJ,BF]
 refine A4 (A8 (fun hlt=> ?_) fun hge=> ?_)
 ·have hlt:i<buf.length:=by omega
  have hx:=hbf _ (JH hlt)
  have nx:=fun cs' col' (m:SC os ct buf (buf.take i++[gI buf i]) cs' col')=>hR (i+1,cs',col') ⟨by simp only;omega,by simp only;rw [List.take_succ_eq_append_getElem hlt,G3 hlt];exact m⟩ (by simp only;omega)
  refine A5 hlt (ldI hlt (C6 hx (by omega) (TF hol hof sc.si (fun hn=> ?_) fun s hs s8 cs' col' p=> ?_)))
  ·exact AZ (by omega) (nx _ _ (sc.none hn))
  ·exact AZ (by omega) (nx _ _ (sc.some hs s8 p))
 have:i=buf.length:=by omega
 subst this
 rw [List.take_length] at sc
 have wh:=sc.stop
 rw [←hW] at wh
 refine V6 sc.si.len.2 wh ?_
 clear hR sc mk
 have hwn:(ET W 8).length≤8:=UI (fun i=>by split <;> simp) 8
 refine DZ (fun j=>[iv (ET W 8).length,iv j]) (fun j=>[tI (((ET W 8).take j).map fun x=>CV x (ob os x.toNat).gen),tI (ET W 8),tR tO (mk8 fun i=>if ((i:Nat):Int)∈(ET W 8).take j then BS (ob os i).gen else ob os i),tR tW ws,tI buf,tS ss]) (ET W 8).length (fun _=>True) (by simp only [AM,AS,AW,AU,AO,AI,AJ,AQ,AK,AP,AN,AR,AL,AV,CF,CQ,CO,CT,CL,CN,CP,BD,BE,BG,BH,BJ,BF];rfl) ?_ trivial (fun R j hj hP hR=> ?_)
 ·simp only [List.take_zero,List.map_nil,List.not_mem_nil,if_false]
  rw [←bF hol];rfl
 have hln:(((ET W 8).take j).map fun x=>CV x (ob os x.toNat).gen).length=j:=by simp;omega
 simp only [AM,AS,AW,AU,AO,AI,AJ,AQ,AK,AP,AN,AR,AL,AV,CF,CQ,CO,CT,CL,CN,CP,BD,BE,BG,BH,BJ,BF]
 simp only [FE]
 refine A4 (A8 (fun hlt=> ?_) fun hge=> ?_)
 ·have hlt:j<(ET W 8).length:=by omega
  replace hR:=hR hlt trivial
  obtain ⟨x,x8,hx,hwx⟩:=QU.1 (JH hlt)
  have xl:x<os.length:=by omega
  rw [sV hlt hx,List.take_succ_eq_append_getElem hlt,List.map_append,G3 hlt,hx, ←TS x8] at hR
  refine A5 hlt (ldI hlt ?_)
  rw [hx]
  refine A5 xl (EP (v:=I (ob os x).gen) xl (by decide) rfl (MW (D5 rfl (by omega) (A5 xl (EP (v:=I (ob os x).gen) xl (by decide) rfl (PA (A5 (by omega) ?_)))))))
  refine SP (f:=tO) (by rw [FE];exact x8) (y:=BS (ob os x).gen) rfl (AZ (by omega) ?_)
  simp only [List.map_cons,List.map_nil,Int.toNat_natCast] at hR
  rw [←KJ] at hR
  exact hR
 have:j=(ET W 8).length:=by omega
 subst this
 have e1:(fun i:Nat=>if ((i:Nat):Int)∈(ET W 8).take (ET W 8).length then BS (ob os i).gen else ob os i)=fun i=>if ((i:Nat):Int)∈ET W 8 then BS (ob os i).gen else ob os i:=by rw [List.take_length]
 have e2:mk8 (fun i=>if ((i:Nat):Int)∈ET W 8 then BS (ob os i).gen else ob os i)=mk8 (QH os W):=SD fun i hi=>by
  unfold QH
  by_cases hw:W i=true
  ·rw [if_pos hw,if_pos (QU.2 ⟨i,hi,rfl,hw⟩)]
  ·rw [if_neg hw,if_neg fun hm=>hw (by obtain ⟨k,_,h2,h3⟩:=QU.1 hm;have:k=i:=by omega
                                       subst this;exact h3)]
 rw [e1,e2,List.take_length,X4]
 clear hR e1 e2
 refine DZ (fun i=>[iv 8,iv i]) (fun i=>[tI (XO os W 8),tR tO (mk8 fun k=>if k<i then IC os W k else QH os W k),tR tW ws,tI buf,tS ss]) 8 (fun _=>True) rfl rfl trivial (fun R i hi hP hR=> ?_)
 simp only [AM,AS,AW,AU,AO,AI,AJ,AQ,AK,AP,AN,AR,AL,AV,CF,CQ,CO,CT,CL,CN,CP,BD,BE,BG,BH,BJ,BF]
 simp only [FE]
 refine A4 (A8 (fun hlt=> ?_) fun hge=> ?_)
 ·have hlt:i<8:=by omega
  replace hR:=hR hlt trivial
  have hml:i<(mk8 fun k=>if k<i then IC os W k else QH os W k).length:=by rw [FE];exact hlt
  have hoi:(mk8 fun k=>if k<i then IC os W k else QH os W k)[i]=QH os W i:=by rw [FH hml,KX hlt,if_neg (by omega)]
  have hset: ∀v,v=IC os W i→(mk8 fun k=>if k<i then IC os W k else QH os W k).set i v=mk8 fun k=>if k<i+1 then IC os W k else QH os W k:=fun v hv=>by
   rw [TS hlt]
   refine SD fun k hk=> ?_
   by_cases h1:k=i
   ·subst h1;rw [if_pos rfl,if_pos (by omega),hv]
   ·rw [if_neg h1]
    by_cases h2:k<i
    ·rw [if_pos h2,if_pos (by omega)]
    ·rw [if_neg h2,if_neg (by omega)]
  have hin: ∀v,v=G8 os W i→inE ((mk8 fun k=>if k<i then IC os W k else QH os W k).set i v) i=inE (mk8 (G8 os W)) i:=fun v hv=>by
   rw [TS hlt]
   refine rT (by rw [FE,FE]) fun k hk=> ?_
   rw [FE] at hk
   rw [KX hk,KX hk]
   by_cases h1:k=i
   ·subst h1;rw [if_pos rfl,hv];exact ⟨rfl,rfl,rfl⟩
   ·rw [if_neg h1]
    by_cases h2:k<i
    ·rw [if_pos h2];exact U6 os W k
    ·rw [if_neg h2];exact Z8 os W k
  have hlen3: ∀o∈(mk8 fun k=>if k<i then IC os W k else QH os W k).set i (G8 os W i),(o.field.length:Int)≤1048576:=fun o ho=>by
   rw [TS hlt] at ho
   obtain ⟨k,hk,rfl⟩:=fC ho
   have hm:=jM hof hol W hk
   by_cases h1:k=i
   ·subst h1;rw [if_pos rfl];omega
   ·rw [if_neg h1]
    by_cases h2:k<i
    ·rw [if_pos h2,(U6 os W k).2.2];omega
    ·rw [if_neg h2,(Z8 os W k).2.2];omega
  generalize (mk8 fun k=>if k<i then IC os W k else QH os W k)=M at hml hoi hset hin hlen3 ⊢
  have hM8:M.length=8:=by have:=congrArg List.length (hset (IC os W i) rfl);rw [List.length_set,FE] at this;exact this
  refine HH (A5 hlt ?_)
  refine Y1 (f:=tO) (c:=7) (y:={M[i] with purple:=false}) hml (by decide) rfl rfl ?_
  rw [hoi,dM]
  refine iK (v:= .bool (G8 os W i).live) hml rfl ?_
  cases hv:(G8 os W i).live with
  | true=>
    refine EC (K6 (v:=I (G8 os W i).holds) hml (by decide) rfl (K6 (v:=I (G8 os W i).roots) hml (by decide) rfl (BV ?_)))
    refine VY ⟨by omega,by omega⟩ (by rw [List.length_set,hM8];decide) hlen3 ?_
    rw [hin _ rfl]
    refine BV (L6 hml ?_)
    rw [hset _ (by unfold IC;rw [if_pos hv])]
    exact AZ (by omega) hR
  | false=>
    refine DI ?_
    rw [hset _ (by unfold IC;rw [if_neg (by rw [hv];decide)])]
    exact AZ (by omega) hR
 ·have:i=8:=by omega
  subst this
  rw [SD (g:=IC os W) fun k hk=>if_pos hk]
  exact hK
end Go.Proofs.YthapfcoajahegaaDoor.P
namespace Go.Proofs.YthapfcoajahegaaDoor.P
open Go Go.Proofs.YthapfcoajahegaaDoor Go.Proofs.YthapfcoajahegaaDoor.Eng
set_option linter.unusedVariables false
set_option maxHeartbeats 4000000
set_option linter.unusedVariables false
set_option linter.unusedSimpArgs false
attribute [local irreducible] prP gP gE gF AY ixW ldc ldg ldl stc stg scW mkW apW A6 cl2 BL C5 BX
variable {w0:World}
noncomputable def BO (h:Hp) (o:Op5):Hp×An:=
 if o.kind=1 then (⟨(GY h.AG h.sites o.site).1,h.CY,h.buffer,(GY h.AG h.sites o.site).2.1⟩,(GY h.AG h.sites o.site).2.2) else
 if o.kind=2∨o.kind=3∨o.kind=5∨o.kind=6 then (⟨(EU h.AG h.buffer o.kind o.a).1,h.CY,(EU h.AG h.buffer o.kind o.a).2.1,h.sites⟩,(EU h.AG h.buffer o.kind o.a).2.2) else
 if o.kind=4 then (⟨(IT h.AG h.buffer o.a o.b o.c).1,h.CY,(IT h.AG h.buffer o.a o.b o.c).2.1,h.sites⟩,(IT h.AG h.buffer o.a o.b o.c).2.2) else
 if o.kind=7 then (⟨h.AG,(PD h.AG h.CY o.a).1,h.buffer,h.sites⟩,(PD h.AG h.CY o.a).2) else
 if o.kind=8∨o.kind=9 then (⟨h.AG,(JA h.AG h.CY o.kind o.a).1,h.buffer,h.sites⟩,(JA h.AG h.CY o.kind o.a).2) else
 if o.kind=10 then (⟨(JM h.AG h.buffer).1,h.CY,[],h.sites⟩,⟨0,0,(JM h.AG h.buffer).2⟩) else (h,⟨2,0,[]⟩)
theorem b6 {α:Type} [Inhabited α] {l:List α} (h: ∀i (hi:i<l.length),l[i]∉l.take i):l.Nodup:=by
 refine List.pairwise_iff_getElem.2 fun i j hi hj hij he=>h j hj ?_
 rw [←he]
 exact List.mem_take_iff_getElem.2 ⟨i,by omega,rfl⟩
theorem few {n:Nat}: ∀{l:List Int} (g:Int→Nat),l.Nodup→(∀x∈l,g x<n)→(∀x∈l, ∀y∈l,g x=g y→x=y)→l.length≤n:=by
 induction n with
 | zero=>
   intro l g _ h _
   cases l with
   | nil=>simp
   | cons x l=>exact absurd (h x (by simp)) (by omega)
 | succ n ih=>
   intro l g hn h hi
   by_cases hx: ∃x∈l,g x=n
   ·obtain ⟨x,hx,hg⟩:=hx
    have:=ih (l:=l.erase x) g (hn.erase x) (fun y hy=>by
     have hy':=List.mem_of_mem_erase hy
     have:=h y hy'
     have hne:g y≠n:=fun he=>by
      have:y=x:=hi y hy' x hx (by omega)
      subst this
      exact (List.Nodup.not_mem_erase hn) hy
     omega) fun y hy z hz=>hi y (List.mem_of_mem_erase hy) z (List.mem_of_mem_erase hz)
    rw [List.length_erase_of_mem hx] at this
    omega
   ·have:=ih g hn (fun y hy=>by
     have:=h y hy
     have:g y≠n:=fun he=>hx ⟨y,hy,he⟩
     omega) hi
    omega
theorem DX.bnd {h:Hp} (hk:DX h):h.buffer.Nodup:=b6 fun i hi=>by rw [G3 hi];exact (hk.buf i hi).2
theorem DX.UM {h:Hp} (hk:DX h) {x:Int} (hx:x∈h.buffer):0≤AA h.AG x:=by
 obtain ⟨i,hi,rfl⟩:=List.getElem_of_mem hx
 rw [G3 hi];exact (hk.buf i hi).1
theorem bL {l:List AD} {x y:Int} (hx:0≤AA l x) (hy:0≤AA l y) (h:AA l x=AA l y):x=y:=by
 have a:=A7 hx;have b:=A7 hy
 have e1:=a.2.2.2.2.2;have e2:=b.2.2.2.2.2
 rw [h] at e1
 omega
theorem DX.vF {h:Hp} (hk:DX h):h.buffer.length≤8:=
 few (fun x=>(AA h.AG x).toNat) hk.bnd (fun x hx=>(A7 (hk.UM hx)).2.2.2.1) fun x hx y hy he=>bL (hk.UM hx) (hk.UM hy) (by have:=hk.UM hx;have:=hk.UM hy;omega)
theorem DX.st {h:Hp} (hk:DX h) (hn:V4 h):St h:=by
 refine ⟨hk.ol,hk.wl,hk.sites.len,by have:=hk.vF;omega,fun o ho=> ?_,fun s hs=> ?_,hn.weak,hn.buf⟩
 ·obtain ⟨i,hi,rfl⟩:=List.getElem_of_mem ho
  have hi8:i<8:=by have:=hk.ol;omega
  have:=hn.obj _ ho
  rw [FH hi] at this ⊢
  exact ⟨this.1,(hk.obj i hi8).len,this.2.2.2.2.2⟩
 ·obtain ⟨i,hi,rfl⟩:=List.getElem_of_mem hs
  have:=(hk.sites.sz i hi).2
  rw [bE hi];omega
theorem DX.hr {h:Hp} (hk:DX h) (i:Nat):(0≤(ob h.AG i).holds∧(ob h.AG i).holds≤20)∧(0≤(ob h.AG i).roots∧(ob h.AG i).roots≤20):=by
 by_cases hi:i<8
 ·cases hv:(ob h.AG i).live with
  | true=>exact ⟨((hk.obj i hi).lv hv).2.2.1,((hk.obj i hi).lv hv).2.2.2.1⟩
  | false=>have:=(hk.obj i hi).dead hv;omega
 ·have:ob h.AG i=⟨false,0,0,0,0,0,[],false⟩:=by unfold ob;rw [List.getD_eq_getElem?_getD,List.getElem?_eq_none (by have:=hk.ol;omega)];rfl
  rw [this];simp
theorem kinds (k:Int):k=1∨(k=2∨k=3∨k=5∨k=6)∨k=4∨k=7∨(k=8∨k=9)∨k=10∨ ¬(k=1∨k=2∨k=3∨k=4∨k=5∨k=6∨k=7∨k=8∨k=9∨k=10):=by omega
theorem X1 {h:Hp} {o:Op5} {K:J2} (hk:DX h) (hn:V4 h) (ha:F64 o.a) (hc:F64 o.c) (hK:K [I (BO h o).2.code,I (BO h o).2.val] (tI (BO h o).2.freed::trees (BO h o).1)):cl2 ⟨Tryd.prog,w0⟩ 10 EI.sg [I o.kind,I o.a,I o.b,I o.c, .string o.site] (trees h) K:=by
 have st:=hk.st hn
 have hr:=hk.hr
 refine EI.cl2 ?_
 unfold EI.txt
 obtain ⟨os,ws,buf,ss⟩:=h
 obtain ⟨kd,a,b,c,s⟩:=o
 have hol:os.length=8:=st.ol
 have hof: ∀o∈os,OF o:=st.of
 have hb:buf.length≤100:=st.bl
 simp only at ha hc hr
 simp only [trees]
 unfold BO at hK
 simp only at hK
 rcases kinds kd with rfl | hkd | rfl | rfl | hkd | rfl | hkd
 ·rw [if_pos rfl] at hK
  exact B8 (BW rfl (YV hol st.sl hK))
 ·rw [if_neg (by omega),if_pos hkd] at hK
  have cc:=fun {K:J2}=>VK (w0:=w0) (os:=os) (buf:=buf) (b:=tR tW ws) (d:=tS ss) (kind:=kd) (id:=a) (K:=K) hol hof hb ha hkd hr
  rcases hkd with rfl | rfl | rfl | rfl
  all_goals
   repeat' (first | refine HH ?_ | refine IQ ?_ | refine KN ?_ | refine JK ?_ | refine H0 ?_ | refine H4 ?_ | refine HZ ?_ | refine FZ ?_ | refine FV ?_ | refine FO ?_ | refine FN ?_ | refine HK (by first | with_reducible assumption | omega) ?_ | refine HI (by first | with_reducible assumption | omega) ?_ | refine FD (by first | with_reducible assumption | omega) ?_ | refine FC (by first | with_reducible assumption | omega) ?_ | refine HC (by with_reducible assumption) ?_ | refine HB (by with_reducible assumption) ?_ | refine EW (by with_reducible assumption) ?_ | refine FF (by with_reducible assumption) ?_ | refine HV ?_ | refine H3 ?_ | refine HW ?_ | refine HG ?_ | refine HA (by first | with_reducible assumption | omega) ?_ | refine HN (by first | with_reducible assumption | omega) ?_ | refine HY (by first | with_reducible assumption | omega) ?_ | refine GV (by first | with_reducible assumption | omega) ?_ | refine GD (by with_reducible assumption) ?_ | refine DO (by with_reducible assumption) ?_ | refine DM (by with_reducible assumption) ?_ | refine J8 (by with_reducible assumption) rfl ?_ | refine KI (by with_reducible assumption) rfl ?_ | refine JT (by first | with_reducible assumption | omega) rfl ?_ | refine JJ (by first | with_reducible assumption | omega) rfl ?_ | refine KO rfl ?_ | refine KH rfl ?_ | refine EC ?_ | refine DI ?_ | refine BW (by first | with_reducible assumption | omega) ?_ | refine CW (by first | with_reducible assumption | omega) ?_ | refine DG (by with_reducible assumption) ?_ | refine B5 (by with_reducible assumption) ?_ | refine A4 ?_ | refine CZ ?_ | refine CX ?_ | refine C0 ?_ | refine B8 ?_ | refine CB ?_ | refine BU ?_ | refine BY ?_ | refine DH ?_ | refine AZ (by omega) ?_ | refine CC ⟨by omega,by omega⟩ ?_ | refine C8 ⟨by omega,by omega⟩ ?_ | refine BV ?_ | refine B6 ?_ | refine C2 (by omega) (by omega) ?_ | refine DP (by omega) ⟨by omega,by omega⟩ (by omega) ?_ | refine B7 ?_ | refine CE ?_ | refine CD (by first | omega | (simp only [ByteArray.size_append];omega)) ?_ | refine DN ?_ | refine DR ?_ | refine A5 (by omega) ?_ | refine H2 (by omega) (by omega) ?_ | refine ldI (by omega) ?_ | refine ldS (by omega) ?_ | refine EG (by omega) ?_ | refine EY (by omega) ?_ | refine FB (by omega) ?_ | refine FL (by omega) ?_ | refine FT (by omega) ?_ | refine EP (by omega) (by decide) rfl ?_ | refine C9 (by omega) rfl ?_ | refine F4 (by omega) (by decide) rfl ?_ | refine C4 (by omega) rfl ?_ | refine FY (by omega) (by decide) rfl ?_ | refine DL (by omega) rfl ?_ | refine FP (by omega) (by decide) rfl ?_ | refine DD (by omega) rfl ?_ | refine FU (by omega) (by decide) rfl ?_ | refine DK (by omega) rfl ?_ | refine EE (by omega) (by omega) ?_ | refine FW (by omega) ?_ | refine F5 (by omega) (by omega) ?_ | refine FR (by omega) ?_ | refine FJ (by omega) (by omega) ?_ | refine FK (by omega) ?_ | refine EB (by omega) rfl rfl ?_ | refine EF (by omega) ?_ | refine ER (by omega) ?_ | refine DV (by omega) (by decide) rfl ?_ | refine CI (by omega) rfl ?_ | refine D5 (by first | exact DB _ | exact DC _ | exact DA _ | exact DQ _ | rfl) (by omega) ?_ | refine G4 (by omega) ?_ | refine A8 (fun _=> ?_) (fun _=> ?_) | refine HU rfl rfl (fun _=> ?_) (fun _=> ?_) | refine HT rfl rfl (fun _=> ?_) (fun _=> ?_) | refine FM (fun _=> ?_) (fun _=> ?_) | refine FI (fun _=> ?_) (fun _=> ?_) | refine G5 (fun _=> ?_) (fun _=> ?_) | refine HS (fun _=> ?_) (fun _=> ?_) | refine ES (fun _=> ?_) (fun _=> ?_) | refine HF (fun _=> ?_) (fun _=> ?_) | refine HM (fun _=> ?_) (fun _=> ?_) | refine CJ ?_ | simp only [AM,AS,AW,AU,AO,AI,AJ,AQ,AK,AP,AN,AR,AL,AV,CF,CQ,CO,CT,CL,CN,CP,BD,BE,BG,BH,BJ,BF])
   exact cc hK
 ·simp only [if_neg (show ¬(4:Int)=1 by decide),if_neg (show ¬((4:Int)=2∨(4:Int)=3∨(4:Int)=5∨(4:Int)=6) by decide),if_true] at hK
  repeat' (first | refine HH ?_ | refine IQ ?_ | refine KN ?_ | refine JK ?_ | refine H0 ?_ | refine H4 ?_ | refine HZ ?_ | refine FZ ?_ | refine FV ?_ | refine FO ?_ | refine FN ?_ | refine HK (by first | with_reducible assumption | omega) ?_ | refine HI (by first | with_reducible assumption | omega) ?_ | refine FD (by first | with_reducible assumption | omega) ?_ | refine FC (by first | with_reducible assumption | omega) ?_ | refine HC (by with_reducible assumption) ?_ | refine HB (by with_reducible assumption) ?_ | refine EW (by with_reducible assumption) ?_ | refine FF (by with_reducible assumption) ?_ | refine HV ?_ | refine H3 ?_ | refine HW ?_ | refine HG ?_ | refine HA (by first | with_reducible assumption | omega) ?_ | refine HN (by first | with_reducible assumption | omega) ?_ | refine HY (by first | with_reducible assumption | omega) ?_ | refine GV (by first | with_reducible assumption | omega) ?_ | refine GD (by with_reducible assumption) ?_ | refine DO (by with_reducible assumption) ?_ | refine DM (by with_reducible assumption) ?_ | refine J8 (by with_reducible assumption) rfl ?_ | refine KI (by with_reducible assumption) rfl ?_ | refine JT (by first | with_reducible assumption | omega) rfl ?_ | refine JJ (by first | with_reducible assumption | omega) rfl ?_ | refine KO rfl ?_ | refine KH rfl ?_ | refine EC ?_ | refine DI ?_ | refine BW (by first | with_reducible assumption | omega) ?_ | refine CW (by first | with_reducible assumption | omega) ?_ | refine DG (by with_reducible assumption) ?_ | refine B5 (by with_reducible assumption) ?_ | refine A4 ?_ | refine CZ ?_ | refine CX ?_ | refine C0 ?_ | refine B8 ?_ | refine CB ?_ | refine BU ?_ | refine BY ?_ | refine DH ?_ | refine AZ (by omega) ?_ | refine CC ⟨by omega,by omega⟩ ?_ | refine C8 ⟨by omega,by omega⟩ ?_ | refine BV ?_ | refine B6 ?_ | refine C2 (by omega) (by omega) ?_ | refine DP (by omega) ⟨by omega,by omega⟩ (by omega) ?_ | refine B7 ?_ | refine CE ?_ | refine CD (by first | omega | (simp only [ByteArray.size_append];omega)) ?_ | refine DN ?_ | refine DR ?_ | refine A5 (by omega) ?_ | refine H2 (by omega) (by omega) ?_ | refine ldI (by omega) ?_ | refine ldS (by omega) ?_ | refine EG (by omega) ?_ | refine EY (by omega) ?_ | refine FB (by omega) ?_ | refine FL (by omega) ?_ | refine FT (by omega) ?_ | refine EP (by omega) (by decide) rfl ?_ | refine C9 (by omega) rfl ?_ | refine F4 (by omega) (by decide) rfl ?_ | refine C4 (by omega) rfl ?_ | refine FY (by omega) (by decide) rfl ?_ | refine DL (by omega) rfl ?_ | refine FP (by omega) (by decide) rfl ?_ | refine DD (by omega) rfl ?_ | refine FU (by omega) (by decide) rfl ?_ | refine DK (by omega) rfl ?_ | refine EE (by omega) (by omega) ?_ | refine FW (by omega) ?_ | refine F5 (by omega) (by omega) ?_ | refine FR (by omega) ?_ | refine FJ (by omega) (by omega) ?_ | refine FK (by omega) ?_ | refine EB (by omega) rfl rfl ?_ | refine EF (by omega) ?_ | refine ER (by omega) ?_ | refine DV (by omega) (by decide) rfl ?_ | refine CI (by omega) rfl ?_ | refine D5 (by first | exact DB _ | exact DC _ | exact DA _ | exact DQ _ | rfl) (by omega) ?_ | refine G4 (by omega) ?_ | refine A8 (fun _=> ?_) (fun _=> ?_) | refine HU rfl rfl (fun _=> ?_) (fun _=> ?_) | refine HT rfl rfl (fun _=> ?_) (fun _=> ?_) | refine FM (fun _=> ?_) (fun _=> ?_) | refine FI (fun _=> ?_) (fun _=> ?_) | refine G5 (fun _=> ?_) (fun _=> ?_) | refine HS (fun _=> ?_) (fun _=> ?_) | refine ES (fun _=> ?_) (fun _=> ?_) | refine HF (fun _=> ?_) (fun _=> ?_) | refine HM (fun _=> ?_) (fun _=> ?_) | refine CJ ?_ | simp only [AM,AS,AW,AU,AO,AI,AJ,AQ,AK,AP,AN,AR,AL,AV,CF,CQ,CO,CT,CL,CN,CP,BD,BE,BG,BH,BJ,BF])
  exact X6 hol hof hb ha hc hK
 ·simp only [if_neg (show ¬(7:Int)=1 by decide),if_neg (show ¬((7:Int)=2∨(7:Int)=3∨(7:Int)=5∨(7:Int)=6) by decide),if_neg (show ¬(7:Int)=4 by decide),if_true] at hK
  repeat' (first | refine HH ?_ | refine IQ ?_ | refine KN ?_ | refine JK ?_ | refine H0 ?_ | refine H4 ?_ | refine HZ ?_ | refine FZ ?_ | refine FV ?_ | refine FO ?_ | refine FN ?_ | refine HK (by first | with_reducible assumption | omega) ?_ | refine HI (by first | with_reducible assumption | omega) ?_ | refine FD (by first | with_reducible assumption | omega) ?_ | refine FC (by first | with_reducible assumption | omega) ?_ | refine HC (by with_reducible assumption) ?_ | refine HB (by with_reducible assumption) ?_ | refine EW (by with_reducible assumption) ?_ | refine FF (by with_reducible assumption) ?_ | refine HV ?_ | refine H3 ?_ | refine HW ?_ | refine HG ?_ | refine HA (by first | with_reducible assumption | omega) ?_ | refine HN (by first | with_reducible assumption | omega) ?_ | refine HY (by first | with_reducible assumption | omega) ?_ | refine GV (by first | with_reducible assumption | omega) ?_ | refine GD (by with_reducible assumption) ?_ | refine DO (by with_reducible assumption) ?_ | refine DM (by with_reducible assumption) ?_ | refine J8 (by with_reducible assumption) rfl ?_ | refine KI (by with_reducible assumption) rfl ?_ | refine JT (by first | with_reducible assumption | omega) rfl ?_ | refine JJ (by first | with_reducible assumption | omega) rfl ?_ | refine KO rfl ?_ | refine KH rfl ?_ | refine EC ?_ | refine DI ?_ | refine BW (by first | with_reducible assumption | omega) ?_ | refine CW (by first | with_reducible assumption | omega) ?_ | refine DG (by with_reducible assumption) ?_ | refine B5 (by with_reducible assumption) ?_ | refine A4 ?_ | refine CZ ?_ | refine CX ?_ | refine C0 ?_ | refine B8 ?_ | refine CB ?_ | refine BU ?_ | refine BY ?_ | refine DH ?_ | refine AZ (by omega) ?_ | refine CC ⟨by omega,by omega⟩ ?_ | refine C8 ⟨by omega,by omega⟩ ?_ | refine BV ?_ | refine B6 ?_ | refine C2 (by omega) (by omega) ?_ | refine DP (by omega) ⟨by omega,by omega⟩ (by omega) ?_ | refine B7 ?_ | refine CE ?_ | refine CD (by first | omega | (simp only [ByteArray.size_append];omega)) ?_ | refine DN ?_ | refine DR ?_ | refine A5 (by omega) ?_ | refine H2 (by omega) (by omega) ?_ | refine ldI (by omega) ?_ | refine ldS (by omega) ?_ | refine EG (by omega) ?_ | refine EY (by omega) ?_ | refine FB (by omega) ?_ | refine FL (by omega) ?_ | refine FT (by omega) ?_ | refine EP (by omega) (by decide) rfl ?_ | refine C9 (by omega) rfl ?_ | refine F4 (by omega) (by decide) rfl ?_ | refine C4 (by omega) rfl ?_ | refine FY (by omega) (by decide) rfl ?_ | refine DL (by omega) rfl ?_ | refine FP (by omega) (by decide) rfl ?_ | refine DD (by omega) rfl ?_ | refine FU (by omega) (by decide) rfl ?_ | refine DK (by omega) rfl ?_ | refine EE (by omega) (by omega) ?_ | refine FW (by omega) ?_ | refine F5 (by omega) (by omega) ?_ | refine FR (by omega) ?_ | refine FJ (by omega) (by omega) ?_ | refine FK (by omega) ?_ | refine EB (by omega) rfl rfl ?_ | refine EF (by omega) ?_ | refine ER (by omega) ?_ | refine DV (by omega) (by decide) rfl ?_ | refine CI (by omega) rfl ?_ | refine D5 (by first | exact DB _ | exact DC _ | exact DA _ | exact DQ _ | rfl) (by omega) ?_ | refine G4 (by omega) ?_ | refine A8 (fun _=> ?_) (fun _=> ?_) | refine HU rfl rfl (fun _=> ?_) (fun _=> ?_) | refine HT rfl rfl (fun _=> ?_) (fun _=> ?_) | refine FM (fun _=> ?_) (fun _=> ?_) | refine FI (fun _=> ?_) (fun _=> ?_) | refine G5 (fun _=> ?_) (fun _=> ?_) | refine HS (fun _=> ?_) (fun _=> ?_) | refine ES (fun _=> ?_) (fun _=> ?_) | refine HF (fun _=> ?_) (fun _=> ?_) | refine HM (fun _=> ?_) (fun _=> ?_) | refine CJ ?_ | simp only [AM,AS,AW,AU,AO,AI,AJ,AQ,AK,AP,AN,AR,AL,AV,CF,CQ,CO,CT,CL,CN,CP,BD,BE,BG,BH,BJ,BF])
  exact aL hol st.wl ha hK
 ·rw [if_neg (by omega),if_neg (by omega),if_neg (by omega),if_neg (by omega),if_pos hkd] at hK
  rcases hkd with rfl | rfl
  all_goals
   repeat' (first | refine HH ?_ | refine IQ ?_ | refine KN ?_ | refine JK ?_ | refine H0 ?_ | refine H4 ?_ | refine HZ ?_ | refine FZ ?_ | refine FV ?_ | refine FO ?_ | refine FN ?_ | refine HK (by first | with_reducible assumption | omega) ?_ | refine HI (by first | with_reducible assumption | omega) ?_ | refine FD (by first | with_reducible assumption | omega) ?_ | refine FC (by first | with_reducible assumption | omega) ?_ | refine HC (by with_reducible assumption) ?_ | refine HB (by with_reducible assumption) ?_ | refine EW (by with_reducible assumption) ?_ | refine FF (by with_reducible assumption) ?_ | refine HV ?_ | refine H3 ?_ | refine HW ?_ | refine HG ?_ | refine HA (by first | with_reducible assumption | omega) ?_ | refine HN (by first | with_reducible assumption | omega) ?_ | refine HY (by first | with_reducible assumption | omega) ?_ | refine GV (by first | with_reducible assumption | omega) ?_ | refine GD (by with_reducible assumption) ?_ | refine DO (by with_reducible assumption) ?_ | refine DM (by with_reducible assumption) ?_ | refine J8 (by with_reducible assumption) rfl ?_ | refine KI (by with_reducible assumption) rfl ?_ | refine JT (by first | with_reducible assumption | omega) rfl ?_ | refine JJ (by first | with_reducible assumption | omega) rfl ?_ | refine KO rfl ?_ | refine KH rfl ?_ | refine EC ?_ | refine DI ?_ | refine BW (by first | with_reducible assumption | omega) ?_ | refine CW (by first | with_reducible assumption | omega) ?_ | refine DG (by with_reducible assumption) ?_ | refine B5 (by with_reducible assumption) ?_ | refine A4 ?_ | refine CZ ?_ | refine CX ?_ | refine C0 ?_ | refine B8 ?_ | refine CB ?_ | refine BU ?_ | refine BY ?_ | refine DH ?_ | refine AZ (by omega) ?_ | refine CC ⟨by omega,by omega⟩ ?_ | refine C8 ⟨by omega,by omega⟩ ?_ | refine BV ?_ | refine B6 ?_ | refine C2 (by omega) (by omega) ?_ | refine DP (by omega) ⟨by omega,by omega⟩ (by omega) ?_ | refine B7 ?_ | refine CE ?_ | refine CD (by first | omega | (simp only [ByteArray.size_append];omega)) ?_ | refine DN ?_ | refine DR ?_ | refine A5 (by omega) ?_ | refine H2 (by omega) (by omega) ?_ | refine ldI (by omega) ?_ | refine ldS (by omega) ?_ | refine EG (by omega) ?_ | refine EY (by omega) ?_ | refine FB (by omega) ?_ | refine FL (by omega) ?_ | refine FT (by omega) ?_ | refine EP (by omega) (by decide) rfl ?_ | refine C9 (by omega) rfl ?_ | refine F4 (by omega) (by decide) rfl ?_ | refine C4 (by omega) rfl ?_ | refine FY (by omega) (by decide) rfl ?_ | refine DL (by omega) rfl ?_ | refine FP (by omega) (by decide) rfl ?_ | refine DD (by omega) rfl ?_ | refine FU (by omega) (by decide) rfl ?_ | refine DK (by omega) rfl ?_ | refine EE (by omega) (by omega) ?_ | refine FW (by omega) ?_ | refine F5 (by omega) (by omega) ?_ | refine FR (by omega) ?_ | refine FJ (by omega) (by omega) ?_ | refine FK (by omega) ?_ | refine EB (by omega) rfl rfl ?_ | refine EF (by omega) ?_ | refine ER (by omega) ?_ | refine DV (by omega) (by decide) rfl ?_ | refine CI (by omega) rfl ?_ | refine D5 (by first | exact DB _ | exact DC _ | exact DA _ | exact DQ _ | rfl) (by omega) ?_ | refine G4 (by omega) ?_ | refine A8 (fun _=> ?_) (fun _=> ?_) | refine HU rfl rfl (fun _=> ?_) (fun _=> ?_) | refine HT rfl rfl (fun _=> ?_) (fun _=> ?_) | refine FM (fun _=> ?_) (fun _=> ?_) | refine FI (fun _=> ?_) (fun _=> ?_) | refine G5 (fun _=> ?_) (fun _=> ?_) | refine HS (fun _=> ?_) (fun _=> ?_) | refine ES (fun _=> ?_) (fun _=> ?_) | refine HF (fun _=> ?_) (fun _=> ?_) | refine HM (fun _=> ?_) (fun _=> ?_) | refine CJ ?_ | simp only [AM,AS,AW,AU,AO,AI,AJ,AQ,AK,AP,AN,AR,AL,AV,CF,CQ,CO,CT,CL,CN,CP,BD,BE,BG,BH,BJ,BF])
   exact WA hol st.wl ha st.wf hK
 ·simp only [if_neg (show ¬(10:Int)=1 by decide),if_neg (show ¬((10:Int)=2∨(10:Int)=3∨(10:Int)=5∨(10:Int)=6) by decide),if_neg (show ¬(10:Int)=4 by decide),if_neg (show ¬(10:Int)=7 by decide),if_neg (show ¬((10:Int)=8∨(10:Int)=9) by decide),if_true] at hK
  repeat' (first | refine HH ?_ | refine IQ ?_ | refine KN ?_ | refine JK ?_ | refine H0 ?_ | refine H4 ?_ | refine HZ ?_ | refine FZ ?_ | refine FV ?_ | refine FO ?_ | refine FN ?_ | refine HK (by first | with_reducible assumption | omega) ?_ | refine HI (by first | with_reducible assumption | omega) ?_ | refine FD (by first | with_reducible assumption | omega) ?_ | refine FC (by first | with_reducible assumption | omega) ?_ | refine HC (by with_reducible assumption) ?_ | refine HB (by with_reducible assumption) ?_ | refine EW (by with_reducible assumption) ?_ | refine FF (by with_reducible assumption) ?_ | refine HV ?_ | refine H3 ?_ | refine HW ?_ | refine HG ?_ | refine HA (by first | with_reducible assumption | omega) ?_ | refine HN (by first | with_reducible assumption | omega) ?_ | refine HY (by first | with_reducible assumption | omega) ?_ | refine GV (by first | with_reducible assumption | omega) ?_ | refine GD (by with_reducible assumption) ?_ | refine DO (by with_reducible assumption) ?_ | refine DM (by with_reducible assumption) ?_ | refine J8 (by with_reducible assumption) rfl ?_ | refine KI (by with_reducible assumption) rfl ?_ | refine JT (by first | with_reducible assumption | omega) rfl ?_ | refine JJ (by first | with_reducible assumption | omega) rfl ?_ | refine KO rfl ?_ | refine KH rfl ?_ | refine EC ?_ | refine DI ?_ | refine BW (by first | with_reducible assumption | omega) ?_ | refine CW (by first | with_reducible assumption | omega) ?_ | refine DG (by with_reducible assumption) ?_ | refine B5 (by with_reducible assumption) ?_ | refine A4 ?_ | refine CZ ?_ | refine CX ?_ | refine C0 ?_ | refine B8 ?_ | refine CB ?_ | refine BU ?_ | refine BY ?_ | refine DH ?_ | refine AZ (by omega) ?_ | refine CC ⟨by omega,by omega⟩ ?_ | refine C8 ⟨by omega,by omega⟩ ?_ | refine BV ?_ | refine B6 ?_ | refine C2 (by omega) (by omega) ?_ | refine DP (by omega) ⟨by omega,by omega⟩ (by omega) ?_ | refine B7 ?_ | refine CE ?_ | refine CD (by first | omega | (simp only [ByteArray.size_append];omega)) ?_ | refine DN ?_ | refine DR ?_ | refine A5 (by omega) ?_ | refine H2 (by omega) (by omega) ?_ | refine ldI (by omega) ?_ | refine ldS (by omega) ?_ | refine EG (by omega) ?_ | refine EY (by omega) ?_ | refine FB (by omega) ?_ | refine FL (by omega) ?_ | refine FT (by omega) ?_ | refine EP (by omega) (by decide) rfl ?_ | refine C9 (by omega) rfl ?_ | refine F4 (by omega) (by decide) rfl ?_ | refine C4 (by omega) rfl ?_ | refine FY (by omega) (by decide) rfl ?_ | refine DL (by omega) rfl ?_ | refine FP (by omega) (by decide) rfl ?_ | refine DD (by omega) rfl ?_ | refine FU (by omega) (by decide) rfl ?_ | refine DK (by omega) rfl ?_ | refine EE (by omega) (by omega) ?_ | refine FW (by omega) ?_ | refine F5 (by omega) (by omega) ?_ | refine FR (by omega) ?_ | refine FJ (by omega) (by omega) ?_ | refine FK (by omega) ?_ | refine EB (by omega) rfl rfl ?_ | refine EF (by omega) ?_ | refine ER (by omega) ?_ | refine DV (by omega) (by decide) rfl ?_ | refine CI (by omega) rfl ?_ | refine D5 (by first | exact DB _ | exact DC _ | exact DA _ | exact DQ _ | rfl) (by omega) ?_ | refine G4 (by omega) ?_ | refine A8 (fun _=> ?_) (fun _=> ?_) | refine HU rfl rfl (fun _=> ?_) (fun _=> ?_) | refine HT rfl rfl (fun _=> ?_) (fun _=> ?_) | refine FM (fun _=> ?_) (fun _=> ?_) | refine FI (fun _=> ?_) (fun _=> ?_) | refine G5 (fun _=> ?_) (fun _=> ?_) | refine HS (fun _=> ?_) (fun _=> ?_) | refine ES (fun _=> ?_) (fun _=> ?_) | refine HF (fun _=> ?_) (fun _=> ?_) | refine HM (fun _=> ?_) (fun _=> ?_) | refine CJ ?_ | simp only [AM,AS,AW,AU,AO,AI,AJ,AQ,AK,AP,AN,AR,AL,AV,CF,CQ,CO,CT,CL,CN,CP,BD,BE,BG,BH,BJ,BF])
  exact UE st (fun o ho=>(hn.obj o ho).2.2.2.2.1) hK
 ·rw [if_neg (by omega),if_neg (by omega),if_neg (by omega),if_neg (by omega),if_neg (by omega),if_neg (by omega)] at hK
  repeat' (first | refine HH ?_ | refine IQ ?_ | refine KN ?_ | refine JK ?_ | refine H0 ?_ | refine H4 ?_ | refine HZ ?_ | refine FZ ?_ | refine FV ?_ | refine FO ?_ | refine FN ?_ | refine HK (by first | with_reducible assumption | omega) ?_ | refine HI (by first | with_reducible assumption | omega) ?_ | refine FD (by first | with_reducible assumption | omega) ?_ | refine FC (by first | with_reducible assumption | omega) ?_ | refine HC (by with_reducible assumption) ?_ | refine HB (by with_reducible assumption) ?_ | refine EW (by with_reducible assumption) ?_ | refine FF (by with_reducible assumption) ?_ | refine HV ?_ | refine H3 ?_ | refine HW ?_ | refine HG ?_ | refine HA (by first | with_reducible assumption | omega) ?_ | refine HN (by first | with_reducible assumption | omega) ?_ | refine HY (by first | with_reducible assumption | omega) ?_ | refine GV (by first | with_reducible assumption | omega) ?_ | refine GD (by with_reducible assumption) ?_ | refine DO (by with_reducible assumption) ?_ | refine DM (by with_reducible assumption) ?_ | refine J8 (by with_reducible assumption) rfl ?_ | refine KI (by with_reducible assumption) rfl ?_ | refine JT (by first | with_reducible assumption | omega) rfl ?_ | refine JJ (by first | with_reducible assumption | omega) rfl ?_ | refine KO rfl ?_ | refine KH rfl ?_ | refine EC ?_ | refine DI ?_ | refine BW (by first | with_reducible assumption | omega) ?_ | refine CW (by first | with_reducible assumption | omega) ?_ | refine DG (by with_reducible assumption) ?_ | refine B5 (by with_reducible assumption) ?_ | refine A4 ?_ | refine CZ ?_ | refine CX ?_ | refine C0 ?_ | refine B8 ?_ | refine CB ?_ | refine BU ?_ | refine BY ?_ | refine DH ?_ | refine AZ (by omega) ?_ | refine CC ⟨by omega,by omega⟩ ?_ | refine C8 ⟨by omega,by omega⟩ ?_ | refine BV ?_ | refine B6 ?_ | refine C2 (by omega) (by omega) ?_ | refine DP (by omega) ⟨by omega,by omega⟩ (by omega) ?_ | refine B7 ?_ | refine CE ?_ | refine CD (by first | omega | (simp only [ByteArray.size_append];omega)) ?_ | refine DN ?_ | refine DR ?_ | refine A5 (by omega) ?_ | refine H2 (by omega) (by omega) ?_ | refine ldI (by omega) ?_ | refine ldS (by omega) ?_ | refine EG (by omega) ?_ | refine EY (by omega) ?_ | refine FB (by omega) ?_ | refine FL (by omega) ?_ | refine FT (by omega) ?_ | refine EP (by omega) (by decide) rfl ?_ | refine C9 (by omega) rfl ?_ | refine F4 (by omega) (by decide) rfl ?_ | refine C4 (by omega) rfl ?_ | refine FY (by omega) (by decide) rfl ?_ | refine DL (by omega) rfl ?_ | refine FP (by omega) (by decide) rfl ?_ | refine DD (by omega) rfl ?_ | refine FU (by omega) (by decide) rfl ?_ | refine DK (by omega) rfl ?_ | refine EE (by omega) (by omega) ?_ | refine FW (by omega) ?_ | refine F5 (by omega) (by omega) ?_ | refine FR (by omega) ?_ | refine FJ (by omega) (by omega) ?_ | refine FK (by omega) ?_ | refine EB (by omega) rfl rfl ?_ | refine EF (by omega) ?_ | refine ER (by omega) ?_ | refine DV (by omega) (by decide) rfl ?_ | refine CI (by omega) rfl ?_ | refine D5 (by first | exact DB _ | exact DC _ | exact DA _ | exact DQ _ | rfl) (by omega) ?_ | refine G4 (by omega) ?_ | refine A8 (fun _=> ?_) (fun _=> ?_) | refine HU rfl rfl (fun _=> ?_) (fun _=> ?_) | refine HT rfl rfl (fun _=> ?_) (fun _=> ?_) | refine FM (fun _=> ?_) (fun _=> ?_) | refine FI (fun _=> ?_) (fun _=> ?_) | refine G5 (fun _=> ?_) (fun _=> ?_) | refine HS (fun _=> ?_) (fun _=> ?_) | refine ES (fun _=> ?_) (fun _=> ?_) | refine HF (fun _=> ?_) (fun _=> ?_) | refine HM (fun _=> ?_) (fun _=> ?_) | refine CJ ?_ | simp only [AM,AS,AW,AU,AO,AI,AJ,AQ,AK,AP,AN,AR,AL,AV,CF,CQ,CO,CT,CL,CN,CP,BD,BE,BG,BH,BJ,BF])
  all_goals first | exact BT hK | (exfalso;omega)
end Go.Proofs.YthapfcoajahegaaDoor.P
namespace Go.Proofs.YthapfcoajahegaaDoor.P
open Go Go.Proofs.YthapfcoajahegaaDoor Go.Proofs.YthapfcoajahegaaDoor.Eng
set_option linter.unusedVariables false
set_option maxHeartbeats 4000000
set_option linter.unusedVariables false
set_option linter.unusedSimpArgs false
attribute [local irreducible] prP gP gE gF AY ixW ldc ldg ldl stc stg scW mkW apW A6 cl2 BL C5 BX
variable {w0:World}
end Go.Proofs.YthapfcoajahegaaDoor.P
namespace Go.Proofs.YthapfcoajahegaaDoor.P
open Go Go.Proofs.YthapfcoajahegaaDoor Go.Proofs.YthapfcoajahegaaDoor.Eng
set_option linter.unusedVariables false
def okE (n:Int) (l:List ByteArray) (a b c d:Int) (s:ByteArray) (k v:Int) (xs:List Int):Bool:=(qI a b c d s&&tC k v xs)&&sM n l
def Fx (q:ByteArray×Int) (x:Int):ByteArray×Int:=(q.1++SI (x-q.2),x)
def base (n:Int) (l:List ByteArray) (a b c d:Int) (s:ByteArray) (k v:Int) (m:Nat):ByteArray:=((((((SI a++SI (b-n))++SI c)++SI (d-b))++lF l s)++V k)++SI (v-b))++V m
def stE (p:ByteArray×Int) (xs:List Int) (i:Nat):ByteArray×Int:=(xs.take i).foldl Fx p
theorem jJ {p:ByteArray×Int} {xs:List Int} {i:Nat} (hi:i<xs.length):stE p xs (i+1)=Fx (stE p xs i) xs[i]:=by
 rw [stE,List.take_succ_eq_append_getElem hi,List.foldl_append];rfl
theorem kW {p:ByteArray×Int} {xs:List Int} (hp:O2 p.2=true) (hx:xs.all O2=true): ∀i,i≤xs.length→O2 (stE p xs i).2=true∧(stE p xs i).1.size≤p.1.size+7*i
 | 0,_=>⟨hp,Nat.le_refl _⟩
 | i+1,hi=>by
   obtain ⟨h1,h2⟩:=kW hp hx i (by omega)
   rw [jJ (by omega)]
   refine ⟨List.all_eq_true.1 hx _ (List.getElem_mem _), ?_⟩
   have:=QV (zg (xs[i]-(stE p xs i).2))
   simp only [Fx,ByteArray.size_append,SI];omega
theorem dB (l:List ByteArray) (s:ByteArray):(lF l s).size≤22:=by
 unfold lF;split
 ·have:=QV (at_ l s+1);omega
 ·have h1:=QV 0
  have h2:=pK s
  rw [ByteArray.size_append];omega
theorem R6 (n:Int):(SI n).size≤7:=QV _
def eA (n:Int) (l:List ByteArray) (a b c d:Int) (s:ByteArray) (k v:Int) (xs:List Int):ByteArray×Int×List ByteArray:=
 if okE n l a b c d s k v xs then ((stE (base n l a b c d s k v xs.length,b) xs xs.length).1,b,tT l s) else (⟨#[]⟩,n,l)
theorem bD {n:Int} {l:List ByteArray} {a b c d:Int} {s:ByteArray} {k v:Int} {xs:List Int} (h:okE n l a b c d s k v xs=true):O2 a=true∧O2 b=true∧O2 c=true∧O2 d=true∧O2 v=true∧O2 n=true∧xs.all O2=true∧xs.length≤8∧(0≤k∧k≤6)∧l.length≤400:=by
 simp only [okE,qI,tC,sM,Bool.and_eq_true,decide_eq_true_eq] at h
 exact ⟨h.1.1.1.1.1.1,h.1.1.1.1.1.2,h.1.1.1.1.2,h.1.1.1.2,h.1.2.1.1.2,h.2.1.1,h.1.2.2,h.1.2.1.2,eT.1 h.1.2.1.1.1,h.2.1.2⟩
theorem gK (n:Int) (l:List ByteArray) (a b c d:Int) (s:ByteArray) (k v:Int) (m:Nat):(base n l a b c d s k v m).size≤71:=by
 have h1:=R6 a;have h2:=R6 (b-n);have h3:=R6 c;have h4:=R6 (d-b);have h5:=dB l s;have h6:=QV k;have h7:=R6 (v-b);have h8:=QV m
 simp only [base,ByteArray.size_append];omega
end Go.Proofs.YthapfcoajahegaaDoor.P
namespace Go.Proofs.YthapfcoajahegaaDoor.P
open Go Go.Proofs.YthapfcoajahegaaDoor Go.Proofs.YthapfcoajahegaaDoor.Eng
set_option linter.unusedVariables false
end Go.Proofs.YthapfcoajahegaaDoor.P
namespace Go.Proofs.YthapfcoajahegaaDoor.P
open Go Go.Proofs.YthapfcoajahegaaDoor Go.Proofs.YthapfcoajahegaaDoor.Eng
set_option linter.unusedVariables false
set_option maxHeartbeats 4000000
set_option linter.unusedVariables false
set_option linter.unusedSimpArgs false
attribute [local irreducible] prP gP gE gF AY ixW ldc ldg ldl stc stg scW mkW apW A6 cl2 BL C5 BX
variable {w0:World}
abbrev U (n:Int):Value:= .int .u32 n
theorem iW {k:IntKind} {n:Int} {K:Value→Prop} (hf:F64 n) (h:K (I n)):prP (cvI .i64 (.int k n)) K:=
 DF (v:= .int .i64 (IntKind.i64.wrap n)) rfl (by rw [PZ hf];exact h)
def by_ (s:ByteArray) (i:Nat):Nat:=(s.data.getD i 0).toNat
theorem uH (s:ByteArray) (i:Nat):by_ s i<256:=UInt8.toNat_lt _
def vB (c:Nat):Nat:=if c % 2=1 then (c/2)^^^2197175160 else c/2
def uL:Nat→Nat→Nat
 | 0,c=>c
 | k+1,c=>vB (uL k c)
def uU (s:ByteArray):Nat→Nat
 | 0=>4294967295
 | i+1=>uL 8 (uU s i^^^by_ s i)
def crc (s:ByteArray):Nat:=4294967295-uU s s.size
def fxL (n:Nat):List Nat:=[n/16777216 % 256,n/65536 % 256,n/256 % 256,n % 256]
def FX (n:Nat):ByteArray:=NH (fxL n)
def frm (n:Int) (p:ByteArray):ByteArray:=if (0≤n∧n≤400)∧p.size≤200 then ((V n++V p.size)++p)++FX (crc ((V n++V p.size)++p)) else ⟨#[]⟩
def tX:ByteArray:=⟨#[72,76,79,71,1]⟩
attribute [irreducible] frm crc FX
def vE (p:ByteArray):Prop:=1≤(p.size:Int)∧(p.size:Int)≤200
instance (p:ByteArray):Decidable (vE p):=inferInstanceAs (Decidable (_∧_))
end Go.Proofs.YthapfcoajahegaaDoor.P
namespace Go.Proofs.YthapfcoajahegaaDoor.P
open Go Go.Proofs.YthapfcoajahegaaDoor Go.Proofs.YthapfcoajahegaaDoor.Eng
set_option maxHeartbeats 4000000
set_option linter.unusedVariables false
set_option linter.unusedSimpArgs false
attribute [local irreducible] prP gP gE gF AY ixW ldc ldg ldl stc stg scW mkW apW A6 cl2 BL C5 BX
variable {w0:World}
def LF (n:Int) (l:List ByteArray) (o:Op5) (a:An):ByteArray×Int×List ByteArray:=eA n l o.kind o.a o.b o.c o.site a.code a.val a.freed
theorem UP (n:Int) (l:List ByteArray) (o:Op5) (a:An):(LF n l o a).1.size≤127∧(LF n l o a).2.2.length≤l.length+1:=by
 unfold LF eA
 split
 ·rename_i h
  obtain ⟨_,hb,_,_,_,_,hx,hl,_⟩:=bD h
  have h1:=gK n l o.kind o.a o.b o.c o.site a.code a.val a.freed.length
  have h2:=(kW (p:=(base n l o.kind o.a o.b o.c o.site a.code a.val a.freed.length,o.a)) hb hx a.freed.length (Nat.le_refl _)).2
  refine ⟨by simp only at h2 ⊢;omega, ?_⟩
  simp only [tT]
  split
  ·omega
  ·simp
 ·exact ⟨Nat.zero_le _,Nat.le_succ _⟩
def enc (ops:List Op5) (ans:List An):Nat→Option (List ByteArray×Int×List ByteArray)
 | 0=>some ([],0,[])
 | i+1=>match enc ops ans i with
   | none=>none
   | some p=>if (LF p.2.1 p.2.2 (po ops i) (an ans i)).1=⟨#[]⟩ then none else some (p.1++[(LF p.2.1 p.2.2 (po ops i) (an ans i)).1],(LF p.2.1 p.2.2 (po ops i) (an ans i)).2)
structure rV (ops:List Op5) (ans:List An) (q:Nat×List ByteArray×Int×List ByteArray):Prop where
 eq:enc ops ans q.1=some q.2
 le:q.1≤ops.length
 al:q.2.1.length=q.1
 sl:q.2.2.2.length≤q.1
 sz: ∀i,(gS q.2.1 i).size≤127
theorem nE {l:List ByteArray} {s:ByteArray} {b:Nat} (h: ∀i,(gS l i).size≤b) (hs:s.size≤b) (i:Nat):(gS (l++[s]) i).size≤b:=by
 unfold gS at h ⊢
 rcases Nat.lt_trichotomy i l.length with h1 | h1 | h1
 ·have:=h i
  rw [List.getD_eq_getElem?_getD] at this ⊢
  rw [List.getElem?_append_left h1];exact this
 ·subst h1
  rw [List.getD_eq_getElem?_getD,List.getElem?_append_right (Nat.le_refl _)]
  simpa using hs
 ·rw [List.getD_eq_getElem?_getD,List.getElem?_eq_none (by simp;omega)];exact Nat.zero_le _
theorem rV.next {ops:List Op5} {ans:List An} {q:Nat×List ByteArray×Int×List ByteArray} (h:rV ops ans q) (hlt:q.1<ops.length) (hne:(LF q.2.2.1 q.2.2.2 (po ops q.1) (an ans q.1)).1≠⟨#[]⟩):
  rV ops ans (q.1+1,q.2.1++[(LF q.2.2.1 q.2.2.2 (po ops q.1) (an ans q.1)).1],(LF q.2.2.1 q.2.2.2 (po ops q.1) (an ans q.1)).2):=by
 obtain ⟨h1,h2,h3,h4,h5⟩:=h
 have hz:=UP q.2.2.1 q.2.2.2 (po ops q.1) (an ans q.1)
 refine ⟨by rw [enc,h1];exact if_neg hne,hlt,by simp [h3], ?_,nE h5 hz.1⟩
 have:=hz.2
 simp only at this ⊢;omega
attribute [irreducible] LF
end Go.Proofs.YthapfcoajahegaaDoor.P
