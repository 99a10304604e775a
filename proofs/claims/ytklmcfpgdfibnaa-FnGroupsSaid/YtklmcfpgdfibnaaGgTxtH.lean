/- A part of the proof. -/
import Derived.Test.YtklmcfpgdfibnaaGgHpQ
import Derived.Test.YtklmcfpgdfibnaaGgHpE
namespace Go.Proofs.Ytklmcfpgdfibnaa.P
open Go Go.Proofs.Ytklmcfpgdfibnaa Go.Proofs.Ytklmcfpgdfibnaa.Eng
set_option linter.unusedVariables false
def RB (os:List AG) (ids:List Int) (k:Nat):Prop:= ∃b∈ids, ∃s:Nat,AA os b=(s:Int)∧Reach os s k
theorem RB.next {os:List AG} {ids:List Int} {k:Nat} {j:Int} (h:RB os ids k) (hj:j∈BH os k):RB os ids j.toNat:=by
 obtain ⟨b,hb,s,hs,hr⟩:=h
 exact ⟨b,hb,s,hs, .step hr hj⟩
theorem RB.lt {os:List AG} {ids:List Int} {k:Nat} (h:RB os ids k):k<8:=by
 obtain ⟨b,_,s,hs,hr⟩:=h
 have:=BJ (l:=os) (id:=b) (by omega)
 exact hr.lt (by omega)
theorem RB.snoc {os:List AG} {ids:List Int} {b:Int} {k:Nat}:RB os (ids++[b]) k↔RB os ids k∨ ∃s:Nat,AA os b=(s:Int)∧Reach os s k:=by
 constructor
 ·rintro ⟨x,hx,h⟩
  rcases List.mem_append.1 hx with hx | hx
  ·exact .inl ⟨x,hx,h⟩
  ·have hx:x=b:=by simpa using hx
   subst hx;exact .inr h
 ·rintro (⟨x,hx,h⟩ | h)
  ·exact ⟨x,List.mem_append_left _ hx,h⟩
  ·exact ⟨b,by simp,h⟩
structure MK (os:List AG) (ct:Nat→Int) (ids:List Int) (cs col:List Int):Prop where
 len:cs.length=8∧col.length=8
 f: ∀i,i<8→F64 (gI cs i)
 one: ∀k,k<8→gI col k=1→RB os ids k
 zero: ∀k,k<8→gI col k≠1→gI col k=0∧ ¬RB os ids k
 cnt: ∀i,i<8→gI cs i=w64 (ct i-S os (isC col 1) i)
section
variable {os:List AG} {ct:Nat→Int} {ids:List Int} {cs col cs' col':List Int} {b:Int} {s:Nat}
theorem MK.none (h:MK os ct ids cs col) (hb:AA os b<0):MK os ct (ids++[b]) cs col:=by
 refine ⟨h.len,h.f,fun k hk h1=>RB.snoc.2 (.inl (h.one k hk h1)),fun k hk h1=>⟨(h.zero k hk h1).1,fun hr=> ?_⟩,h.cnt⟩
 rcases RB.snoc.1 hr with hr | ⟨s,hs,_⟩
 ·exact (h.zero k hk h1).2 hr
 ·omega
theorem MK.some (h:MK os ct ids cs col) (hb:AA os b=(s:Int)) (hs:s<8) (p:MH os 1 (-1) cs col cs' col' s):MK os ct (ids++[b]) cs' col':=by
 have cl: ∀k,Reach os s k→k<8∧gI col' k=1:=fun k hr=>hr.closed (P:=fun k=>k<8∧gI col' k=1) ⟨hs,p.got⟩ fun x hx j hj=>by
  refine ⟨(B5 hj).2.1, ?_⟩
  by_cases h1:gI col x=1
  ·refine p.JR _ (B5 hj).2.1 (Decidable.byContradiction fun hn=> ?_)
   exact (h.zero _ (B5 hj).2.1 hn).2 ((h.one x hx.1 h1).next hj)
  ·exact (p.clo x hx.1 hx.2 h1).2 j hj
 refine ⟨p.len,p.f,fun k hk h1=>RB.snoc.2 ?_,fun k hk h1=> ?_,fun i hi=> ?_⟩
 ·by_cases h0:gI col k=1
  ·exact .inl (h.one k hk h0)
  ·exact .inr ⟨s,hb,(p.clo k hk h1 h0).1⟩
 ·have e:=p.only k hk h1
  have h2:gI col k≠1:=by rw [←e];exact h1
  obtain ⟨z1,z2⟩:=h.zero k hk h2
  refine ⟨by rw [e];exact z1,fun hr=> ?_⟩
  rcases RB.snoc.1 hr with hr | ⟨s',hs',hr⟩
  ·exact z2 hr
  ·have:s'=s:=by omega
   subst this
   exact h1 (cl k hr).2
 ·rw [p.cnt i hi,h.cnt i hi,LO]
  congr 1
  omega
end
open Classical in
noncomputable def NO (os:List AG) (buf:List Int) (k:Nat):Bool:=decide (RB os buf k)
def Out (os:List AG) (ct:Nat→Int) (buf:List Int) (x:Nat):Prop:=x<8∧RB os buf x∧EX os ct (NO os buf) x
open Classical in
noncomputable def KZ (os:List AG) (ct:Nat→Int) (buf:List Int) (k:Nat):Bool:=decide (RB os buf k∧ ¬ ∃x,Out os ct buf x∧Reach os x k)
theorem V8 {os:List AG} {buf:List Int} {k:Nat}:NO os buf k=true↔RB os buf k:=by unfold NO;simp
theorem S3 {os:List AG} {buf:List Int} {k:Nat}:NO os buf k=false↔ ¬RB os buf k:=by unfold NO;simp
theorem I3 {os:List AG} {ct:Nat→Int} {buf:List Int} {k:Nat}:KZ os ct buf k=true↔RB os buf k∧ ¬ ∃x,Out os ct buf x∧Reach os x k:=by unfold KZ;simp
structure SC (os:List AG) (ct:Nat→Int) (buf:List Int) (ids:List Int) (cs col:List Int):Prop where
 si:SN os ct (NO os buf) cs col
 got: ∀b∈ids, ∀s:Nat,AA os b=(s:Int)→gI col s≠1
 wk: ∀k,k<8→gI col k=2→ ∀j∈BH os k,gI col j.toNat≠1
section
variable {os:List AG} {ct:Nat→Int} {buf ids:List Int} {cs col cs' col':List Int} {b:Int} {s:Nat}
theorem SC.start (h:MK os ct buf cs col):SC os ct buf [] cs col:=by
 refine ⟨⟨h.len,h.f,fun k hk=> ?_,fun k hk hc=> ?_,fun i hi=> ?_,fun k hk hc h0=> ?_,fun k hk h2=> ?_⟩,fun b hb=>by simp at hb,fun k hk h2=> ?_⟩
 ·by_cases h1:gI col k=1
  ·exact .inr (.inl h1)
  ·exact .inl (h.zero k hk h1).1
 ·exact (h.zero k hk fun h1=>S3.1 hc (h.one k hk h1)).1
 ·rw [h.cnt i hi]
  congr 2
  refine iC fun k hk=> ?_
  by_cases h1:gI col k=1
  ·simp [isC,h1]
  ·simp [isC,(h.zero k hk h1).1]
 ·exact absurd (V8.1 hc) (h.zero k hk (by omega)).2
 ·have:=(h.zero k hk (by omega)).1;omega
 ·have:=(h.zero k hk (by omega)).1;omega
theorem SC.none (h:SC os ct buf ids cs col) (hb:AA os b<0):SC os ct buf (ids++[b]) cs col:=
 ⟨h.si,fun x hx s hs=>by
   rcases List.mem_append.1 hx with hx | hx
   ·exact h.got x hx s hs
   ·have hx:x=b:=by simpa using hx
    subst hx;omega,h.wk⟩
theorem SC.some (h:SC os ct buf ids cs col) (hb:AA os b=(s:Int)) (hs:s<8) (p:TK os ct (NO os buf) col cs' col' s):SC os ct buf (ids++[b]) cs' col':=by
 refine ⟨p.si,fun x hx t ht=> ?_,fun k hk h2=> ?_⟩
 ·rcases List.mem_append.1 hx with hx | hx
  ·have:=BJ (l:=os) (id:=x) (by omega)
   exact p.ng t (by omega) (h.got x hx t ht)
  ·have hx:x=b:=by simpa using hx
   subst hx
   have:t=s:=by omega
   subst this;exact p.got
 ·rcases p.wk k hk h2 with h3 | h3
  ·exact fun j hj=>p.ng _ (B5 hj).2.1 (h.wk k hk h3 j hj)
  ·exact h3
theorem SC.stop (h:SC os ct buf buf cs col): ∀k,k<8→(gI col k=2↔KZ os ct buf k=true):=by
 have ng: ∀k,RB os buf k→gI col k≠1:=fun k hr=>by
  obtain ⟨b,hb,s,hs,hr⟩:=hr
  have hb8:=BJ (l:=os) (id:=b) (by omega)
  have:=hr.closed (P:=fun k=>(k<8∧RB os buf k)∧gI col k≠1) ⟨⟨by omega,b,hb,s,hs, .refl⟩,h.got b hb s hs⟩ fun x hx j hj=>by
   refine ⟨⟨(B5 hj).2.1,hx.1.2.next hj⟩, ?_⟩
   rcases h.si.rng x hx.1.1 with h0 | h1 | h2
   ·have:=(h.si.blk x hx.1.1 (V8.2 hx.1.2) h0).2 j hj;omega
   ·exact absurd h1 hx.2
   ·exact h.wk x hx.1.1 h2 j hj
  exact this.2
 intro k hk
 rw [I3]
 constructor
 ·intro h2
  have hr:RB os buf k:=Classical.byContradiction fun hn=>by
   have:=h.si.out k hk (S3.2 hn);omega
  refine ⟨hr, ?_⟩
  rintro ⟨x,⟨hx8,hx,he⟩,hxk⟩
  have:=hxk.closed (P:=fun k=>(k<8∧RB os buf k)∧gI col k=0) ⟨⟨hx8,hx⟩,by
   rcases h.si.rng x hx8 with h0 | h1 | h2
   ·exact h0
   ·exact absurd h1 (ng x hx)
   ·exact absurd he (h.si.wht x hx8 h2)⟩ fun y hy j hj=>⟨⟨(B5 hj).2.1,hy.1.2.next hj⟩,(h.si.blk y hy.1.1 (V8.2 hy.1.2) hy.2).2 j hj⟩
  omega
 ·rintro ⟨hr,hn⟩
  rcases h.si.rng k hk with h0 | h1 | h2
  ·obtain ⟨x,x8,xc,xe,xr⟩:=(h.si.blk k hk (V8.2 hr) h0).1
   exact absurd ⟨x,⟨x8,V8.1 xc,xe⟩,xr⟩ hn
  ·exact absurd h1 (ng k hr)
  ·exact h2
end
def mk8 (f:Nat→AG):List AG:=(List.range 8).map f
theorem C9 (f:Nat→AG):(mk8 f).length=8:=by simp [mk8]
theorem IJ {f:Nat→AG} {i:Nat} (h:i<8):ob (mk8 f) i=f i:=by
 rw [←DB (by rw [C9];exact h)];simp [mk8]
theorem M6 {f g:Nat→AG} (h: ∀i,i<8→f i=g i):mk8 f=mk8 g:=List.map_congr_left fun i hi=>h i (List.mem_range.1 hi)
theorem c8 {os:List AG} (h:os.length=8):os=mk8 (ob os):=by
 apply List.ext_getElem (by rw [C9,h])
 intro i h1 h2
 rw [DB h1,DB h2,IJ (by omega)]
theorem Y4 {f:Nat→AG} {k:Nat} {v:AG} (hk:k<8):(mk8 f).set k v=mk8 fun i=>if i=k then v else f i:=by
 apply List.ext_getElem (by simp [C9])
 intro i h1 h2
 have hi:i<8:=by rw [C9] at h2;exact h2
 rw [DB h1,DB h2,DO (by rw [C9];exact hk),IJ hi,IJ hi]
theorem gJ {f:Nat→AG} {o:AG} (h:o∈mk8 f): ∃i,i<8∧o=f i:=by
 obtain ⟨i,hi,rfl⟩:=List.mem_map.1 h
 exact ⟨i,List.mem_range.1 hi,rfl⟩
theorem OW {a b:List AG} {id:Int} (hl:a.length=b.length) (h: ∀i,i<a.length→(ob a i).live=(ob b i).live∧(ob a i).field=(ob b i).field):CE a id=CE b id:=by
 unfold CE
 congr 1
 apply List.ext_getElem (by simp [hl])
 intro i h1 h2
 simp only [List.length_map] at h1 h2
 rw [List.getElem_map,List.getElem_map,DB h1,DB h2]
 unfold KV
 rw [(h i h1).1,(h i h1).2]
theorem uQ {a b:List AG} {s:Int} (hl:a.length=b.length) (h: ∀i,i<a.length→(ob a i).live=(ob b i).live∧(ob a i).gen=(ob b i).gen∧(ob a i).field=(ob b i).field):inE a s=inE b s:=by
 unfold inE
 by_cases hs:0≤s∧s≤(a.length:Int)-1
 ·have hi:=h s.toNat (by omega)
  rw [hi.1,hi.2.1,OW hl fun i hi=>⟨(h i hi).1,(h i hi).2.2⟩,hl]
 ·rw [if_neg (fun hh=>hs hh.1),if_neg (fun hh=>hs (by rw [hl];exact hh.1))]
def DW (os:List AG) (W:Nat→Bool) (i:Nat):AG:=if W i=true then CB (ob os i).gen else {ob os i with purple:=false}
def GP (os:List AG) (W:Nat→Bool) (i:Nat):AG:=if (DW os W i).live=true then {DW os W i with count:=w64 (w64 ((DW os W i).holds+(DW os W i).roots)+inE (mk8 (DW os W)) i)} else DW os W i
def JI (W:Nat→Bool):Nat→List Int:=pick fun i=>if W i=true then [(i:Int)] else []
def MQ (os:List AG) (W:Nat→Bool):Nat→List Int:=pick fun i=>if W i=true then [CA i (ob os i).gen] else []
theorem U8 {W:Nat→Bool} {n:Nat} {x:Int}:x∈JI W n↔ ∃i:Nat,i<n∧x=i∧W i=true:=by
 unfold JI
 induction n with
 | zero=>simp [pick]
 | succ n ih=>
   simp only [pick,List.mem_append,ih]
   constructor
   ·rintro (⟨i,h1,h2,h3⟩ | h)
    ·exact ⟨i,by omega,h2,h3⟩
    ·split at h
     ·rename_i hw;exact ⟨n,by omega,by simpa using h,hw⟩
     ·simp at h
   ·rintro ⟨i,h1,h2,h3⟩
    by_cases hi:i=n
    ·subst hi;right;rw [if_pos h3];simp [h2]
    ·exact .inl ⟨i,by omega,h2,h3⟩
noncomputable def ID (os:List AG) (buf:List Int):List AG×List Int:=
 (mk8 (GP os (KZ os (fun i=>(ob os i).count) buf)),MQ os (KZ os (fun i=>(ob os i).count) buf) 8)
end Go.Proofs.Ytklmcfpgdfibnaa.P
namespace Go.Proofs.Ytklmcfpgdfibnaa.P
open Go Go.Proofs.Ytklmcfpgdfibnaa Go.Proofs.Ytklmcfpgdfibnaa.Eng
set_option linter.unusedVariables false
set_option maxHeartbeats 4000000
set_option linter.unusedVariables false
set_option linter.unusedSimpArgs false
attribute [local irreducible] prP gP gE gF AV ixW ldc ldg ldl stc stg scW mkW apW BC cl2 BS CU B1
variable {w0:World}
theorem kP {os:List AG} {i:Nat} (hi:i<os.length):(os.take (i+1)).map (·.count)=(os.take i).map (·.count)++[(ob os i).count]:=by
 rw [List.take_succ_eq_append_getElem hi,List.map_append,DB hi];rfl
theorem T1 {os:List AG} {b c d:List T} {K:J2} (hol:os.length=8) (h:K [] [tI (os.map (·.count)),tI (List.replicate 8 0)]):cl2 ⟨Try.prog,w0⟩ 155 EB.sg [] [tR tO os,b,c,d] K:=by
 refine EB.cl2 ?_
 unfold EB.txt
 simp only [AK,AO,AL,AM,AT,AE,AJ,AI,AR,AQ,AN,AU,AP,AS,BG,BO,BL,BN,BM,BP,BK,A5,A6,A8,AZ,A7,A4]
 refine BF (fun i=>[iv i]) (fun i=>[tI ((os.take i).map (·.count)),tI (List.replicate i 0)]) os.length (fun _=>True) rfl rfl trivial (fun R i hi hP hR=> ?_)
 have hln:((os.take i).map (·.count)).length=i:=by simp;omega
 have hl2:(List.replicate i (0:Int)).length=i:=List.length_replicate
 simp only [AK,AO,AL,AM,AT,AE,AJ,AI,AR,AQ,AN,AU,AP,AS,BG,BO,BL,BN,BM,BP,BK,A5,A6,A8,AZ,A7,A4]
 refine BA (BD (MU (fun hlt=> ?_) fun hge=> ?_))
 ·have hlt':i<os.length:=by omega
  replace hR:=hR hlt' trivial
  rw [kP hlt', ←DS,List.replicate_succ', ←DS] at hR
  refine BA (ER hlt rfl (FT (by omega) ?_))
  exact AH hlt' (KJ (v:=I (ob os i).count) hlt' (by decide) rfl (D9 rfl (by omega) (D9 rfl (by omega) (BB (by omega) hR))))
 ·have:i=os.length:=by omega
  subst this
  refine EW hge rfl (B4 ?_)
  rw [List.take_length,hol];exact h
theorem XE {cs col:List Int} {W:Nat→Bool} {K:J2} (hl:col.length=8) (hw: ∀k,k<8→(gI col k=2↔W k=true)) (h:K [] [tI (JI W 8)]):cl2 ⟨Try.prog,w0⟩ 158 FQ.sg [] [tI cs,tI col] K:=by
 refine FQ.cl2 ?_
 unfold FQ.txt
 simp only [AK,AO,AL,AM,AT,AE,AJ,AI,AR,AQ,AN,AU,AP,AS,BG,BO,BL,BN,BM,BP,BK,A5,A6,A8,AZ,A7,A4]
 refine BF (fun i=>[iv i]) (fun i=>[tI (JI W i)]) col.length (fun _=>True) rfl rfl trivial (fun R i hi hP hR=> ?_)
 have hln:(JI W i).length≤i:=KY (fun i=>by split <;> simp) i
 simp only [AK,AO,AL,AM,AT,AE,AJ,AI,AR,AQ,AN,AU,AP,AS,BG,BO,BL,BN,BM,BP,BK,A5,A6,A8,AZ,A7,A4]
 refine BA (A9 (fun hlt=> ?_) fun hge=> ?_)
 ·have hlt:i<col.length:=by omega
  replace hR:=hR hlt trivial
  have hwi:=hw i (by omega)
  refine BX (AH hlt (ldI hlt (BZ (A9 (fun h2=> ?_) fun h2=> ?_))))
  ·have e:JI W (i+1)=JI W i++[(i:Int)]:=by show JI W i++(if W i=true then [(i:Int)] else [])=_;rw [if_pos (hwi.1 h2)]
   rw [e, ←DS] at hR
   exact D9 rfl (by omega) (BB (by omega) hR)
  ·have e:JI W (i+1)=JI W i:=by show JI W i++(if W i=true then [(i:Int)] else [])=_;rw [if_neg (fun hh=>h2 (hwi.2 hh)),List.append_nil]
   rw [e] at hR
   exact BB (by omega) hR
 ·have:i=col.length:=by omega
  subst this
  rw [hl];exact h
theorem MK.start {os:List AG} (hol:os.length=8) (hc: ∀o∈os,F64 o.count):MK os (fun i=>(ob os i).count) [] (os.map (·.count)) (List.replicate 8 0):=by
 have hz: ∀k,k<8→gI (List.replicate 8 (0:Int)) k=0:=fun k hk=>by unfold gI;rw [List.getD_eq_getElem?_getD,List.getElem?_replicate,if_pos hk];rfl
 have hcs: ∀i,i<8→gI (os.map (·.count)) i=(ob os i).count:=fun i hi=>by
  rw [←CN (by simp;omega),List.getElem_map,DB (by omega)]
 have hF: ∀i,i<8→F64 (ob os i).count:=fun i hi=>hc _ (I2 (by omega))
 refine ⟨⟨by simp [hol],by simp⟩,fun i hi=>by rw [hcs i hi];exact hF i hi,fun k hk h1=> ?_,fun k hk h1=>⟨hz k hk, ?_⟩,fun i hi=> ?_⟩
 ·rw [hz k hk] at h1;omega
 ·rintro ⟨b,hb,_⟩;simp at hb
 ·have:S os (isC (List.replicate 8 0) 1) i=0:=IM fun k hk=>by unfold isC;rw [hz k hk];rfl
  rw [hcs i hi,this,Int.sub_zero,JJ (hF i hi)]
theorem VG (os:List AG) (W:Nat→Bool) (i:Nat):(GP os W i).live=(DW os W i).live∧(GP os W i).gen=(DW os W i).gen∧(GP os W i).field=(DW os W i).field:=by
 unfold GP;split <;> exact ⟨rfl,rfl,rfl⟩
theorem mI {os:List AG} (hof: ∀o∈os,OF o) (hol:os.length=8) (W:Nat→Bool) {i:Nat} (hi:i<8):(DW os W i).field.length=3:=by
 unfold DW
 split
 ·rfl
 ·exact (hof _ (I2 (by omega))).len
theorem iJ {a b c d e f g:List T} {l:List (List T)}:nxc (a::b::c::d::e::f::g::l) 6=g:=rfl
theorem U9 {h:Hp} {K:J2} (st:St h) (hc: ∀o∈h.AD,F64 o.count) (hK:K [] [tR tO (ID h.AD h.buffer).1,tR tW h.B2,[],tS h.sites,tI (ID h.AD h.buffer).2]):cl2 ⟨Try.prog,w0⟩ 127 FA.sg [] (trees h) K:=by
 refine FA.cl2 ?_
 unfold FA.txt
 refine JY st.fits ?_
 obtain ⟨os,ws,buf,ss⟩:=h
 have hol:os.length=8:=st.ol
 have hof: ∀o∈os,OF o:=st.of
 have hb:buf.length≤100:=st.bl
 have hbf: ∀x∈buf,F64 x:=st.bf
 simp only at hc hK
 simp only [trees]
 obtain ⟨ct,hct⟩: ∃ct:Nat→Int,ct=fun i=>(ob os i).count:=⟨_,rfl⟩
 obtain ⟨W,hW⟩: ∃W,W=KZ os ct buf:=⟨_,rfl⟩
 unfold ID at hK
 rw [←hct, ←hW] at hK
 simp only [AK,AO,AL,AM,AT,AE,AJ,AI,AR,AQ,AN,AU,AP,AS,BG,BO,BL,BN,BM,BP,BK,A5,A6,A8,AZ,A7,A4]
 refine CY (DP (by omega) (T1 hol ?_))
 refine EY (α:=Nat×List Int×List Int) (fun q=>[iv q.1]) (fun q=>[[],tR tO os,tR tW ws,tI buf,tS ss,tI q.2.1,tI q.2.2]) (fun q=>buf.length-q.1) (fun q=>q.1≤buf.length∧MK os ct (buf.take q.1) q.2.1 q.2.2) (0,os.map (·.count),List.replicate 8 0) rfl rfl ⟨Nat.zero_le _,by rw [hct];exact MK.start hol hc⟩ (fun R q hq hR=> ?_)
 obtain ⟨i,cs,col⟩:=q
 obtain ⟨hi,mk⟩:=hq
 simp only at hi mk
 simp only [AK,AO,AL,AM,AT,AE,AJ,AI,AR,AQ,AN,AU,AP,AS,BG,BO,BL,BN,BM,BP,BK,A5,A6,A8,AZ,A7,A4]
 simp only [iJ]
 refine BA (A9 (fun hlt=> ?_) fun hge=> ?_)
 ·have hlt:i<buf.length:=by omega
  have hx:=hbf _ (CH hlt)
  have nx:=fun cs' col' (m:MK os ct (buf.take i++[gI buf i]) cs' col')=>hR (i+1,cs',col') ⟨by simp only;omega,by simp only;rw [List.take_succ_eq_append_getElem hlt,CN hlt];exact m⟩ (by simp only;omega)
  refine AH hlt (ldI hlt (B3 hx (by omega) (TZ hol hof mk.len.1 mk.len.2 mk.f (fun hn=> ?_) fun s hs s8 cs' col' p=> ?_)))
  ·exact BB (by omega) (nx _ _ (mk.none hn))
  ·exact BB (by omega) (nx _ _ (mk.some hs s8 p))
 have:i=buf.length:=by omega
 subst this
 rw [List.take_length] at mk
 refine EY (α:=Nat×List Int×List Int) (fun q=>[iv q.1]) (fun q=>[[],tR tO os,tR tW ws,tI buf,tS ss,tI q.2.1,tI q.2.2]) (fun q=>buf.length-q.1) (fun q=>q.1≤buf.length∧SC os ct buf (buf.take q.1) q.2.1 q.2.2) (0,cs,col) rfl rfl ⟨Nat.zero_le _,SC.start mk⟩ (fun R q hq hR=> ?_)
 obtain ⟨i,cs,col⟩:=q
 obtain ⟨hi,sc⟩:=hq
 simp only at hi sc
 simp only [AK,AO,AL,AM,AT,AE,AJ,AI,AR,AQ,AN,AU,AP,AS,BG,BO,BL,BN,BM,BP,BK,A5,A6,A8,AZ,A7,A4]
 simp only [iJ]
 refine BA (A9 (fun hlt=> ?_) fun hge=> ?_)
 ·have hlt:i<buf.length:=by omega
  have hx:=hbf _ (CH hlt)
  have nx:=fun cs' col' (m:SC os ct buf (buf.take i++[gI buf i]) cs' col')=>hR (i+1,cs',col') ⟨by simp only;omega,by simp only;rw [List.take_succ_eq_append_getElem hlt,CN hlt];exact m⟩ (by simp only;omega)
  refine AH hlt (ldI hlt (B3 hx (by omega) (T3 hol hof sc.si (fun hn=> ?_) fun s hs s8 cs' col' p=> ?_)))
  ·exact BB (by omega) (nx _ _ (sc.none hn))
  ·exact BB (by omega) (nx _ _ (sc.some hs s8 p))
 have:i=buf.length:=by omega
 subst this
 rw [List.take_length] at sc
 have wh:=sc.stop
 rw [←hW] at wh
 refine XE sc.si.len.2 wh ?_
 clear hR sc mk
 have hwn:(JI W 8).length≤8:=KY (fun i=>by split <;> simp) 8
 refine BF (fun i=>[iv i]) (fun i=>[tI (MQ os W i),tI (JI W 8),tR tO (mk8 fun k=>if k<i then DW os W k else ob os k),tR tW ws,tI buf,tS ss]) 8 (fun _=>True) rfl ?_ trivial (fun R i hi hP hR=> ?_)
 ·simp only [Nat.not_lt_zero,if_false]
  rw [←c8 hol];rfl
 have hln:(MQ os W i).length≤i:=KY (fun i=>by split <;> simp) i
 simp only [AK,AO,AL,AM,AT,AE,AJ,AI,AR,AQ,AN,AU,AP,AS,BG,BO,BL,BN,BM,BP,BK,A5,A6,A8,AZ,A7,A4]
 simp only [iJ,C9]
 refine BA (A9 (fun hlt=> ?_) fun hge=> ?_)
 ·have hlt:i<8:=by omega
  replace hR:=hR hlt trivial
  have hml:i<(mk8 fun k=>if k<i then DW os W k else ob os k).length:=by rw [C9];exact hlt
  have hoi:(mk8 fun k=>if k<i then DW os W k else ob os k)[i]=ob os i:=by rw [DB hml,IJ hlt,if_neg (by omega)]
  have hset: ∀v,v=DW os W i→(mk8 fun k=>if k<i then DW os W k else ob os k).set i v=mk8 fun k=>if k<i+1 then DW os W k else ob os k:=fun v hv=>by
   rw [Y4 hlt]
   refine M6 fun k hk=> ?_
   by_cases h1:k=i
   ·subst h1;rw [if_pos rfl,if_pos (by omega),hv]
   ·rw [if_neg h1]
    by_cases h2:k<i
    ·rw [if_pos h2,if_pos (by omega)]
    ·rw [if_neg h2,if_neg (by omega)]
  generalize (mk8 fun k=>if k<i then DW os W k else ob os k)=M at hml hoi hset ⊢
  have hM8:M.length=8:=by have:=congrArg List.length (hset (DW os W i) rfl);rw [List.length_set,C9] at this;exact this
  have io:i<os.length:=by omega
  refine BX (AH hlt ?_)
  refine S7 (f:=tO) (c:=7) (y:={M[i] with purple:=false}) hml (by decide) rfl rfl ?_
  rw [hoi]
  refine HY (by omega) (A9 (fun hm=> ?_) fun hm=> ?_)
  ·have hw:W i=true:=by
    obtain ⟨k,_,h2,h3⟩:=U8.1 hm
    have:k=i:=by omega
    subst this;exact h3
   have ef:MQ os W (i+1)=MQ os W i++[CA i (ob os i).gen]:=by show MQ os W i++(if W i=true then [CA i (ob os i).gen] else [])=_;rw [if_pos hw]
   rw [ef, ←DS, ←hset (CB (ob os i).gen) (by unfold DW;rw [if_pos hw])] at hR
   refine AH io (KJ (v:=I (ob os i).gen) io (by decide) rfl (HN (D9 rfl (by omega) (AH io (KJ (v:=I (ob os i).gen) io (by decide) rfl (IB ?_))))))
   simp only [AK,AO,AL,AM,AT,AE,AJ,AI,AR,AQ,AN,AU,AP,AS,BG,BO,BL,BN,BM,BP,BK,A5,A6,A8,AZ,A7,A4]
   simp only [List.length_set,hM8]
   refine AH hlt (QW (f:=tO) (by rw [List.length_set];exact hml) (y:=CB (ob os i).gen) rfl ?_)
   rw [List.set_set]
   exact BB (by omega) hR
  ·have hw: ¬W i=true:=fun hw=>hm (U8.2 ⟨i,hlt,rfl,hw⟩)
   have ef:MQ os W (i+1)=MQ os W i:=by show MQ os W i++(if W i=true then [CA i (ob os i).gen] else [])=_;rw [if_neg hw,List.append_nil]
   rw [ef, ←hset {ob os i with purple:=false} (by unfold DW;rw [if_neg hw])] at hR
   exact BB (by omega) hR
 have:i=8:=by omega
 subst this
 rw [M6 (g:=DW os W) fun k hk=>if_pos hk]
 clear hR
 refine BF (fun i=>[iv i]) (fun i=>[tI (MQ os W 8),tR tO (mk8 fun k=>if k<i then GP os W k else DW os W k),tR tW ws,tI buf,tS ss]) 8 (fun _=>True) rfl rfl trivial (fun R i hi hP hR=> ?_)
 simp only [AK,AO,AL,AM,AT,AE,AJ,AI,AR,AQ,AN,AU,AP,AS,BG,BO,BL,BN,BM,BP,BK,A5,A6,A8,AZ,A7,A4]
 simp only [C9]
 refine BA (A9 (fun hlt=> ?_) fun hge=> ?_)
 ·have hlt:i<8:=by omega
  replace hR:=hR hlt trivial
  have hml:i<(mk8 fun k=>if k<i then GP os W k else DW os W k).length:=by rw [C9];exact hlt
  have hoi:(mk8 fun k=>if k<i then GP os W k else DW os W k)[i]=DW os W i:=by rw [DB hml,IJ hlt,if_neg (by omega)]
  have hset: ∀v,v=GP os W i→(mk8 fun k=>if k<i then GP os W k else DW os W k).set i v=mk8 fun k=>if k<i+1 then GP os W k else DW os W k:=fun v hv=>by
   rw [Y4 hlt]
   refine M6 fun k hk=> ?_
   by_cases h1:k=i
   ·subst h1;rw [if_pos rfl,if_pos (by omega),hv]
   ·rw [if_neg h1]
    by_cases h2:k<i
    ·rw [if_pos h2,if_pos (by omega)]
    ·rw [if_neg h2,if_neg (by omega)]
  have hin:inE (mk8 fun k=>if k<i then GP os W k else DW os W k) i=inE (mk8 (DW os W)) i:=by
   refine uQ (by rw [C9,C9]) fun k hk=> ?_
   rw [C9] at hk
   rw [IJ hk,IJ hk]
   by_cases h2:k<i
   ·rw [if_pos h2];exact VG os W k
   ·rw [if_neg h2];exact ⟨rfl,rfl,rfl⟩
  have hlen3: ∀o∈(mk8 fun k=>if k<i then GP os W k else DW os W k),(o.field.length:Int)≤1048576:=fun o ho=>by
   obtain ⟨k,hk,rfl⟩:=gJ ho
   have hm:=mI hof hol W hk
   by_cases h2:k<i
   ·rw [if_pos h2,(VG os W k).2.2];omega
   ·rw [if_neg h2];omega
  generalize (mk8 fun k=>if k<i then GP os W k else DW os W k)=M at hml hoi hset hin hlen3 ⊢
  have hM8:M.length=8:=by have:=congrArg List.length (hset (GP os W i) rfl);rw [List.length_set,C9] at this;exact this
  have hMs:M=M.set i (DW os W i):=by rw [←hoi,List.set_getElem_self]
  refine BX (AH hlt ?_)
  cases hv:(DW os W i).live with
  | true=>
    refine UF (f:=tO) (v:= .bool true) hml (by rw [hoi];simp [tO,hv]) (CG (AH hlt ?_))
    refine SR (f:=tO) (v:=I (DW os W i).holds) hml (by decide) (by rw [hoi];rfl) (AH hlt ?_)
    refine SR (f:=tO) (v:=I (DW os W i).roots) hml (by decide) (by rw [hoi];rfl) (JB ?_)
    refine OU ⟨by omega,by omega⟩ (by rw [hM8];decide) hlen3 ?_
    rw [hin]
    refine JB (AH hlt ?_)
    rw [hMs]
    refine K2 hml ?_
    rw [hset _ (by unfold GP;rw [if_pos hv])]
    exact BB (by omega) hR
  | false=>
    refine UF (f:=tO) (v:= .bool false) hml (by rw [hoi];simp [tO,hv]) (B4 ?_)
    rw [hMs,hset _ (by unfold GP;rw [if_neg (by rw [hv];decide)])]
    exact BB (by omega) hR
 ·have:i=8:=by omega
  subst this
  rw [M6 (g:=GP os W) fun k hk=>if_pos hk]
  exact hK
end Go.Proofs.Ytklmcfpgdfibnaa.P
namespace Go.Proofs.Ytklmcfpgdfibnaa.P
open Go Go.Proofs.Ytklmcfpgdfibnaa Go.Proofs.Ytklmcfpgdfibnaa.Eng
set_option linter.unusedVariables false
set_option maxHeartbeats 4000000
set_option linter.unusedVariables false
set_option linter.unusedSimpArgs false
attribute [local irreducible] prP gP gE gF AV ixW ldc ldg ldl stc stg scW mkW apW BC cl2 BS CU B1
variable {w0:World}
noncomputable def FE (h:Hp) (o:Op5):Hp×An:=
 if o.kind=1 then (⟨(IH h.AD h.sites o.site).1,h.B2,h.buffer,(IH h.AD h.sites o.site).2.1⟩,(IH h.AD h.sites o.site).2.2) else
 if o.kind=2∨o.kind=3∨o.kind=5∨o.kind=6 then (⟨(HD h.AD h.buffer o.kind o.a).1,h.B2,(HD h.AD h.buffer o.kind o.a).2.1,h.sites⟩,(HD h.AD h.buffer o.kind o.a).2.2) else
 if o.kind=4 then (⟨(I9 h.AD h.buffer o.a o.b o.c).1,h.B2,(I9 h.AD h.buffer o.a o.b o.c).2.1,h.sites⟩,(I9 h.AD h.buffer o.a o.b o.c).2.2) else
 if o.kind=7 then (⟨h.AD,(OB h.AD h.B2 o.a).1,h.buffer,h.sites⟩,(OB h.AD h.B2 o.a).2) else
 if o.kind=8∨o.kind=9 then (⟨h.AD,(IX h.AD h.B2 o.kind o.a).1,h.buffer,h.sites⟩,(IX h.AD h.B2 o.kind o.a).2) else
 if o.kind=10 then (⟨(ID h.AD h.buffer).1,h.B2,[],h.sites⟩,⟨0,0,(ID h.AD h.buffer).2⟩) else (h,⟨2,0,[]⟩)
theorem dL {α:Type} [Inhabited α] {l:List α} (h: ∀i (hi:i<l.length),l[i]∉l.take i):l.Nodup:=by
 refine List.pairwise_iff_getElem.2 fun i j hi hj hij he=>h j hj ?_
 rw [←he]
 exact List.mem_take_iff_getElem.2 ⟨i,by omega,rfl⟩
theorem few {n:Nat}: ∀{l:List Int} (g:Int→Nat),l.Nodup→(∀x∈l,g x<n)→(∀x∈l, ∀y∈l,g x=g y→x=y)→l.length≤n:=by
 induction n with
 | zero=>
   intro l g _ h _
   cases l with
   | nil=>simp
   | cons x l=>exact absurd (h x (by simp)) (by omega)
 | succ n ih=>
   intro l g hn h hi
   by_cases hx: ∃x∈l,g x=n
   ·obtain ⟨x,hx,hg⟩:=hx
    have:=ih (l:=l.erase x) g (hn.erase x) (fun y hy=>by
     have hy':=List.mem_of_mem_erase hy
     have:=h y hy'
     have hne:g y≠n:=fun he=>by
      have:y=x:=hi y hy' x hx (by omega)
      subst this
      exact (List.Nodup.not_mem_erase hn) hy
     omega) fun y hy z hz=>hi y (List.mem_of_mem_erase hy) z (List.mem_of_mem_erase hz)
    rw [List.length_erase_of_mem hx] at this
    omega
   ·have:=ih g hn (fun y hy=>by
     have:=h y hy
     have:g y≠n:=fun he=>hx ⟨y,hy,he⟩
     omega) hi
    omega
theorem BT.bnd {h:Hp} (hk:BT h):h.buffer.Nodup:=dL fun i hi=>by rw [CN hi];exact (hk.buf i hi).2
theorem BT.UX {h:Hp} (hk:BT h) {x:Int} (hx:x∈h.buffer):0≤AA h.AD x:=by
 obtain ⟨i,hi,rfl⟩:=List.getElem_of_mem hx
 rw [CN hi];exact (hk.buf i hi).1
theorem V5 {l:List AG} {x y:Int} (hx:0≤AA l x) (hy:0≤AA l y) (h:AA l x=AA l y):x=y:=by
 have a:=BJ hx;have b:=BJ hy
 have e1:=a.2.2.2.2.2;have e2:=b.2.2.2.2.2
 rw [h] at e1
 omega
theorem BT.wA {h:Hp} (hk:BT h):h.buffer.length≤8:=
 few (fun x=>(AA h.AD x).toNat) hk.bnd (fun x hx=>(BJ (hk.UX hx)).2.2.2.1) fun x hx y hy he=>V5 (hk.UX hx) (hk.UX hy) (by have:=hk.UX hx;have:=hk.UX hy;omega)
theorem BT.st {h:Hp} (hk:BT h) (hn:T4 h):St h:=by
 refine ⟨hk.ol,hk.wl,hk.sites.len,by have:=hk.wA;omega,fun o ho=> ?_,fun s hs=> ?_,hn.weak,hn.buf⟩
 ·obtain ⟨i,hi,rfl⟩:=List.getElem_of_mem ho
  have hi8:i<8:=by have:=hk.ol;omega
  have:=hn.obj _ ho
  rw [DB hi] at this ⊢
  exact ⟨this.1,(hk.obj i hi8).len,this.2.2.2.2.2⟩
 ·obtain ⟨i,hi,rfl⟩:=List.getElem_of_mem hs
  have:=(hk.sites.sz i hi).2
  rw [RQ hi];omega
theorem BT.hr {h:Hp} (hk:BT h) (i:Nat):(0≤(ob h.AD i).holds∧(ob h.AD i).holds≤20)∧(0≤(ob h.AD i).roots∧(ob h.AD i).roots≤20):=by
 by_cases hi:i<8
 ·cases hv:(ob h.AD i).live with
  | true=>exact ⟨((hk.obj i hi).lv hv).2.2.1,((hk.obj i hi).lv hv).2.2.2.1⟩
  | false=>have:=(hk.obj i hi).dead hv;omega
 ·have:ob h.AD i=⟨false,0,0,0,0,0,[],false⟩:=by unfold ob;rw [List.getD_eq_getElem?_getD,List.getElem?_eq_none (by have:=hk.ol;omega)];rfl
  rw [this];simp
theorem BT.fd {h:Hp} (hk:BT h) (i:Nat): ∀f∈(ob h.AD i).field,f= -1∨0≤f:=by
 intro f hf
 by_cases hi:i<8
 ·obtain ⟨j,hj,rfl⟩:=List.getElem_of_mem hf
  have ho:=hk.obj i hi
  by_cases h1:gI (ob h.AD i).field j= -1
  ·left;rw [CN hj];exact h1
  ·right
   have:=BJ (ho.lead j (by have:=ho.len;omega) h1).2
   rw [CN hj];omega
 ·have:ob h.AD i=⟨false,0,0,0,0,0,[],false⟩:=by unfold ob;rw [List.getD_eq_getElem?_getD,List.getElem?_eq_none (by have:=hk.ol;omega)];rfl
  rw [this] at hf;simp at hf
theorem kinds (k:Int):k=1∨(k=2∨k=3∨k=5∨k=6)∨k=4∨k=7∨(k=8∨k=9)∨k=10∨ ¬(k=1∨k=2∨k=3∨k=4∨k=5∨k=6∨k=7∨k=8∨k=9∨k=10):=by omega
end Go.Proofs.Ytklmcfpgdfibnaa.P
namespace Go.Proofs.Ytklmcfpgdfibnaa.P
open Go Go.Proofs.Ytklmcfpgdfibnaa Go.Proofs.Ytklmcfpgdfibnaa.Eng
set_option linter.unusedVariables false
set_option maxHeartbeats 4000000
set_option linter.unusedVariables false
set_option linter.unusedSimpArgs false
attribute [local irreducible] prP gP gE gF AV ixW ldc ldg ldl stc stg scW mkW apW BC cl2 BS CU B1
variable {w0:World}
open Classical in
noncomputable def OQ (h:Hp) (o:Op5):Hp×An:=if BT h then FE h o else (h,⟨2,0,[]⟩)
theorem WX {h:Hp} {o:Op5} (hk:BT h):OQ h o=FE h o:=by unfold OQ;rw [if_pos hk]
theorem o9 {h:Hp} {o:Op5} (hk: ¬BT h):OQ h o=(h,⟨2,0,[]⟩):=by unfold OQ;rw [if_neg hk]
theorem R9 {h:Hp} {o:Op5} {K:J2} (hf:Fits h) (hn:T4 h) (ha:F64 o.a) (hc:F64 o.c) (hK:K [I (OQ h o).2.code,I (OQ h o).2.val] (trees (OQ h o).1++[tI (OQ h o).2.freed])):cl2 ⟨Try.prog,w0⟩ 76 FL.sg [I o.kind,I o.a,I o.b,I o.c, .string o.site] (trees h) K:=by
 refine FL.cl2 ?_
 unfold FL.txt
 refine JY hf (P3 hf hn (fun hk=>CX (B4 ?_)) fun hk=>CX (CG ?_))
 rotate_left
 ·rw [o9 hk] at hK
  exact hK
 rw [WX hk] at hK
 have st:=hk.st hn
 have hr:=hk.hr
 have hfd:=hk.fd
 have hss:=hk.sites
 have hcn: ∀o∈h.AD,F64 o.count:=fun o ho=>(hn.obj o ho).2.2.2.2.1
 clear hf hk
 obtain ⟨kd,a,b,c,s⟩:=o
 have hol:h.AD.length=8:=st.ol
 simp only at ha hc hr
 unfold FE at hK
 simp only at hK
 have hold:=fun {K:J2} (hkd:kd=2∨kd=3∨kd=5∨kd=6)=>W3 (w0:=w0) (h:=h) (kind:=kd) (id:=a) (b:=b) (c:=c) (s:=s) (K:=K) st ha hkd hr
 have store:=fun {K:J2}=>VT (w0:=w0) (h:=h) (a0:=kd) (a1:=a) (a2:=b) (a3:=c) (s:=s) (K:=K) st ha hc hfd
 have qP:=fun {K:J2}=>U9 (w0:=w0) (h:=h) (K:=K) st hcn
 have weak:=fun {K:J2}=>W9 (w0:=w0) (os:=h.AD) (ws:=h.B2) (cc:=tI h.buffer) (d:=tS h.sites) (kind:=kd) (k:=a) (b:=b) (c:=c) (s:=s) (K:=K) hol st.wl ha st.wf
 simp only [trees] at hold store qP ⊢
 rcases kinds kd with rfl | hkd | rfl | rfl | hkd | rfl | hkd
 ·rw [if_pos rfl] at hK
  exact BZ (FT rfl (WR hol hss hK))
 ·rw [if_neg (by omega),if_pos hkd] at hK
  replace hold:=fun {K:J2}=>hold (K:=K) hkd
  rcases hkd with rfl | rfl | rfl | rfl
  all_goals
   repeat' (first | refine BX ?_ | refine CG ?_ | refine B4 ?_ | refine BZ ?_ | simp only [AK,AO,AL,AM,AT,AE,AJ,AI,AR,AQ,AN,AU,AP,AS,BG,BO,BL,BN,BM,BP,BK,A5,A6,A8,AZ,A7,A4])
   exact hold hK
 ·simp only [if_neg (show ¬(4:Int)=1 by decide),if_neg (show ¬((4:Int)=2∨(4:Int)=3∨(4:Int)=5∨(4:Int)=6) by decide),if_true] at hK
  repeat' (first | refine BX ?_ | refine CG ?_ | refine B4 ?_ | refine BZ ?_ | simp only [AK,AO,AL,AM,AT,AE,AJ,AI,AR,AQ,AN,AU,AP,AS,BG,BO,BL,BN,BM,BP,BK,A5,A6,A8,AZ,A7,A4])
  exact store hK
 ·simp only [if_neg (show ¬(7:Int)=1 by decide),if_neg (show ¬((7:Int)=2∨(7:Int)=3∨(7:Int)=5∨(7:Int)=6) by decide),if_neg (show ¬(7:Int)=4 by decide),if_true] at hK
  repeat' (first | refine BX ?_ | refine CG ?_ | refine B4 ?_ | refine BZ ?_ | simp only [AK,AO,AL,AM,AT,AE,AJ,AI,AR,AQ,AN,AU,AP,AS,BG,BO,BL,BN,BM,BP,BK,A5,A6,A8,AZ,A7,A4])
  exact weak (fun _=>hK) (fun hh=>absurd rfl hh)
 ·rw [if_neg (by omega),if_neg (by omega),if_neg (by omega),if_neg (by omega),if_pos hkd] at hK
  rcases hkd with rfl | rfl
  all_goals
   repeat' (first | refine BX ?_ | refine CG ?_ | refine B4 ?_ | refine BZ ?_ | simp only [AK,AO,AL,AM,AT,AE,AJ,AI,AR,AQ,AN,AU,AP,AS,BG,BO,BL,BN,BM,BP,BK,A5,A6,A8,AZ,A7,A4])
   exact weak (fun hh=>absurd hh (by decide)) (fun _=>hK)
 ·simp only [if_neg (show ¬(10:Int)=1 by decide),if_neg (show ¬((10:Int)=2∨(10:Int)=3∨(10:Int)=5∨(10:Int)=6) by decide),if_neg (show ¬(10:Int)=4 by decide),if_neg (show ¬(10:Int)=7 by decide),if_neg (show ¬((10:Int)=8∨(10:Int)=9) by decide),if_true] at hK
  repeat' (first | refine BX ?_ | refine CG ?_ | refine B4 ?_ | refine BZ ?_ | simp only [AK,AO,AL,AM,AT,AE,AJ,AI,AR,AQ,AN,AU,AP,AS,BG,BO,BL,BN,BM,BP,BK,A5,A6,A8,AZ,A7,A4])
  exact qP hK
 ·rw [if_neg (by omega),if_neg (by omega),if_neg (by omega),if_neg (by omega),if_neg (by omega),if_neg (by omega)] at hK
  repeat' (first | refine BX ?_ | refine DP (by first | with_reducible assumption | omega) ?_ | refine BZ ?_ | simp only [AK,AO,AL,AM,AT,AE,AJ,AI,AR,AQ,AN,AU,AP,AS,BG,BO,BL,BN,BM,BP,BK,A5,A6,A8,AZ,A7,A4])
  all_goals first | exact hK | (exfalso;omega)
end Go.Proofs.Ytklmcfpgdfibnaa.P
namespace Go.Proofs.Ytklmcfpgdfibnaa.P
open Go Go.Proofs.Ytklmcfpgdfibnaa Go.Proofs.Ytklmcfpgdfibnaa.Eng
set_option linter.unusedVariables false
def okE (n:Int) (l:List ByteArray) (a b c d:Int) (s:ByteArray) (k v:Int) (xs:List Int):Bool:=(uJ a b c d s&&xP k v xs)&&w9 n l
def Fx (q:ByteArray×Int) (x:Int):ByteArray×Int:=(q.1++SI (x-q.2),x)
def base (n:Int) (l:List ByteArray) (a b c d:Int) (s:ByteArray) (k v:Int) (m:Nat):ByteArray:=((((((SI a++SI (b-n))++SI c)++SI (d-b))++mY l s)++V k)++SI (v-b))++V m
def stE (p:ByteArray×Int) (xs:List Int) (i:Nat):ByteArray×Int:=(xs.take i).foldl Fx p
theorem nX {p:ByteArray×Int} {xs:List Int} {i:Nat} (hi:i<xs.length):stE p xs (i+1)=Fx (stE p xs i) xs[i]:=by
 rw [stE,List.take_succ_eq_append_getElem hi,List.foldl_append];rfl
theorem lZ {p:ByteArray×Int} {xs:List Int} (hp:OR p.2=true) (hx:xs.all OR=true): ∀i,i≤xs.length→OR (stE p xs i).2=true∧(stE p xs i).1.size≤p.1.size+7*i
 | 0,_=>⟨hp,Nat.le_refl _⟩
 | i+1,hi=>by
   obtain ⟨h1,h2⟩:=lZ hp hx i (by omega)
   rw [nX (by omega)]
   refine ⟨List.all_eq_true.1 hx _ (List.getElem_mem _), ?_⟩
   have:=QY (zg (xs[i]-(stE p xs i).2))
   simp only [Fx,ByteArray.size_append,SI];omega
theorem eN (l:List ByteArray) (s:ByteArray):(mY l s).size≤22:=by
 unfold mY;split
 ·have:=QY (at_ l s+1);omega
 ·have h1:=QY 0
  have h2:=p5 s
  rw [ByteArray.size_append];omega
theorem R6 (n:Int):(SI n).size≤7:=QY _
def hX (n:Int) (l:List ByteArray) (a b c d:Int) (s:ByteArray) (k v:Int) (xs:List Int):ByteArray×Int×List ByteArray:=
 if okE n l a b c d s k v xs then ((stE (base n l a b c d s k v xs.length,b) xs xs.length).1,b,wI l s) else (⟨#[]⟩,n,l)
theorem bJ {n:Int} {l:List ByteArray} {a b c d:Int} {s:ByteArray} {k v:Int} {xs:List Int} (h:okE n l a b c d s k v xs=true):OR a=true∧OR b=true∧OR c=true∧OR d=true∧OR v=true∧OR n=true∧xs.all OR=true∧xs.length≤8∧(0≤k∧k≤6)∧l.length≤400:=by
 simp only [okE,uJ,xP,w9,Bool.and_eq_true,decide_eq_true_eq] at h
 exact ⟨h.1.1.1.1.1.1,h.1.1.1.1.1.2,h.1.1.1.1.2,h.1.1.1.2,h.1.2.1.1.2,h.2.1.1,h.1.2.2,h.1.2.1.2,iZ.1 h.1.2.1.1.1,h.2.1.2⟩
theorem kG (n:Int) (l:List ByteArray) (a b c d:Int) (s:ByteArray) (k v:Int) (m:Nat):(base n l a b c d s k v m).size≤71:=by
 have h1:=R6 a;have h2:=R6 (b-n);have h3:=R6 c;have h4:=R6 (d-b);have h5:=eN l s;have h6:=QY k;have h7:=R6 (v-b);have h8:=QY m
 simp only [base,ByteArray.size_append];omega
end Go.Proofs.Ytklmcfpgdfibnaa.P
namespace Go.Proofs.Ytklmcfpgdfibnaa.P
open Go Go.Proofs.Ytklmcfpgdfibnaa Go.Proofs.Ytklmcfpgdfibnaa.Eng
set_option linter.unusedVariables false
theorem rV {f:J2} {g:J2→Prop} (P:List Value→List (List T)→Prop) (h1: ∀xs cs,P xs cs→f xs cs) (h2: ∀j:J2,(∀xs cs,P xs cs→j xs cs)→g j):BS f g:=h2 f h1
end Go.Proofs.Ytklmcfpgdfibnaa.P
