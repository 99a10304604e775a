/- A part of the proof. -/
import Derived.Test.YtklmcfpgdfibnaaRcHpQ
import Derived.Test.YtklmcfpgdfibnaaRcHpE
namespace Go.Proofs.Ytklmcfpgdfibnaa.P
open Go Go.Proofs.Ytklmcfpgdfibnaa Go.Proofs.Ytklmcfpgdfibnaa.Eng
set_option linter.unusedVariables false
def RB (os:List AG) (ids:List Int) (k:Nat):Prop:= ∃b∈ids, ∃s:Nat,AA os b=(s:Int)∧Reach os s k
theorem RB.next {os:List AG} {ids:List Int} {k:Nat} {j:Int} (h:RB os ids k) (hj:j∈BJ os k):RB os ids j.toNat:=by
 obtain ⟨b,hb,s,hs,hr⟩:=h
 exact ⟨b,hb,s,hs, .step hr hj⟩
theorem RB.reach {os:List AG} {ids:List Int} {a b:Nat} (h:RB os ids a) (hr:Reach os a b):RB os ids b:=hr.closed h fun _ h _ hj=>h.next hj
theorem RB.lt {os:List AG} {ids:List Int} {k:Nat} (h:RB os ids k):k<8:=by
 obtain ⟨b,_,s,hs,hr⟩:=h
 have:=BF (l:=os) (id:=b) (by omega)
 exact hr.lt (by omega)
theorem RB.snoc {os:List AG} {ids:List Int} {b:Int} {k:Nat}:RB os (ids++[b]) k↔RB os ids k∨ ∃s:Nat,AA os b=(s:Int)∧Reach os s k:=by
 constructor
 ·rintro ⟨x,hx,h⟩
  rcases List.mem_append.1 hx with hx | hx
  ·exact .inl ⟨x,hx,h⟩
  ·have hx:x=b:=by simpa using hx
   subst hx;exact .inr h
 ·rintro (⟨x,hx,h⟩ | h)
  ·exact ⟨x,List.mem_append_left _ hx,h⟩
  ·exact ⟨b,by simp,h⟩
structure MK (os:List AG) (ct:Nat→Int) (ids:List Int) (cs col:List Int):Prop where
 len:cs.length=8∧col.length=8
 f: ∀i,i<8→F64 (gI cs i)
 one: ∀k,k<8→gI col k=1→RB os ids k
 zero: ∀k,k<8→gI col k≠1→gI col k=0∧ ¬RB os ids k
 cnt: ∀i,i<8→gI cs i=w64 (ct i-S os (isC col 1) i)
section
variable {os:List AG} {ct:Nat→Int} {ids:List Int} {cs col cs' col':List Int} {b:Int} {s:Nat}
theorem MK.none (h:MK os ct ids cs col) (hb:AA os b<0):MK os ct (ids++[b]) cs col:=by
 refine ⟨h.len,h.f,fun k hk h1=>RB.snoc.2 (.inl (h.one k hk h1)),fun k hk h1=>⟨(h.zero k hk h1).1,fun hr=> ?_⟩,h.cnt⟩
 rcases RB.snoc.1 hr with hr | ⟨s,hs,_⟩
 ·exact (h.zero k hk h1).2 hr
 ·omega
theorem MK.some (h:MK os ct ids cs col) (hb:AA os b=(s:Int)) (hs:s<8) (p:LY os 1 (-1) cs col cs' col' s):MK os ct (ids++[b]) cs' col':=by
 have cl: ∀k,Reach os s k→k<8∧gI col' k=1:=fun k hr=>hr.closed (P:=fun k=>k<8∧gI col' k=1) ⟨hs,p.got⟩ fun x hx j hj=>by
  refine ⟨(B4 hj).2.1, ?_⟩
  by_cases h1:gI col x=1
  ·refine p.I7 _ (B4 hj).2.1 (Decidable.byContradiction fun hn=> ?_)
   exact (h.zero _ (B4 hj).2.1 hn).2 ((h.one x hx.1 h1).next hj)
  ·exact (p.clo x hx.1 hx.2 h1).2 j hj
 refine ⟨p.len,p.f,fun k hk h1=>RB.snoc.2 ?_,fun k hk h1=> ?_,fun i hi=> ?_⟩
 ·by_cases h0:gI col k=1
  ·exact .inl (h.one k hk h0)
  ·exact .inr ⟨s,hb,(p.clo k hk h1 h0).1⟩
 ·have e:=p.only k hk h1
  have h2:gI col k≠1:=by rw [←e];exact h1
  obtain ⟨z1,z2⟩:=h.zero k hk h2
  refine ⟨by rw [e];exact z1,fun hr=> ?_⟩
  rcases RB.snoc.1 hr with hr | ⟨s',hs',hr⟩
  ·exact z2 hr
  ·have:s'=s:=by omega
   subst this
   exact h1 (cl k hr).2
 ·rw [p.cnt i hi,h.cnt i hi,LD]
  congr 1
  omega
end
open Classical in
noncomputable def ND (os:List AG) (buf:List Int) (k:Nat):Bool:=decide (RB os buf k)
def Out (os:List AG) (ct:Nat→Int) (buf:List Int) (x:Nat):Prop:=x<8∧RB os buf x∧EX os ct (ND os buf) x
open Classical in
noncomputable def KL (os:List AG) (ct:Nat→Int) (buf:List Int) (k:Nat):Bool:=decide (RB os buf k∧ ¬ ∃x,Out os ct buf x∧Reach os x k)
theorem V3 {os:List AG} {buf:List Int} {k:Nat}:ND os buf k=true↔RB os buf k:=by unfold ND;simp
theorem SB {os:List AG} {buf:List Int} {k:Nat}:ND os buf k=false↔ ¬RB os buf k:=by unfold ND;simp
theorem IS {os:List AG} {ct:Nat→Int} {buf:List Int} {k:Nat}:KL os ct buf k=true↔RB os buf k∧ ¬ ∃x,Out os ct buf x∧Reach os x k:=by unfold KL;simp
structure SC (os:List AG) (ct:Nat→Int) (buf:List Int) (ids:List Int) (cs col:List Int):Prop where
 si:SN os ct (ND os buf) cs col
 got: ∀b∈ids, ∀s:Nat,AA os b=(s:Int)→gI col s≠1
 wk: ∀k,k<8→gI col k=2→ ∀j∈BJ os k,gI col j.toNat≠1
section
variable {os:List AG} {ct:Nat→Int} {buf ids:List Int} {cs col cs' col':List Int} {b:Int} {s:Nat}
theorem SC.start (h:MK os ct buf cs col):SC os ct buf [] cs col:=by
 refine ⟨⟨h.len,h.f,fun k hk=> ?_,fun k hk hc=> ?_,fun i hi=> ?_,fun k hk hc h0=> ?_,fun k hk h2=> ?_⟩,fun b hb=>by simp at hb,fun k hk h2=> ?_⟩
 ·by_cases h1:gI col k=1
  ·exact .inr (.inl h1)
  ·exact .inl (h.zero k hk h1).1
 ·exact (h.zero k hk fun h1=>SB.1 hc (h.one k hk h1)).1
 ·rw [h.cnt i hi]
  congr 2
  refine eE fun k hk=> ?_
  by_cases h1:gI col k=1
  ·simp [isC,h1]
  ·simp [isC,(h.zero k hk h1).1]
 ·exact absurd (V3.1 hc) (h.zero k hk (by omega)).2
 ·have:=(h.zero k hk (by omega)).1;omega
 ·have:=(h.zero k hk (by omega)).1;omega
theorem SC.none (h:SC os ct buf ids cs col) (hb:AA os b<0):SC os ct buf (ids++[b]) cs col:=
 ⟨h.si,fun x hx s hs=>by
   rcases List.mem_append.1 hx with hx | hx
   ·exact h.got x hx s hs
   ·have hx:x=b:=by simpa using hx
    subst hx;omega,h.wk⟩
theorem SC.some (h:SC os ct buf ids cs col) (hb:AA os b=(s:Int)) (hs:s<8) (p:SS os ct (ND os buf) col cs' col' s):SC os ct buf (ids++[b]) cs' col':=by
 refine ⟨p.si,fun x hx t ht=> ?_,fun k hk h2=> ?_⟩
 ·rcases List.mem_append.1 hx with hx | hx
  ·have:=BF (l:=os) (id:=x) (by omega)
   exact p.ng t (by omega) (h.got x hx t ht)
  ·have hx:x=b:=by simpa using hx
   subst hx
   have:t=s:=by omega
   subst this;exact p.got
 ·rcases p.wk k hk h2 with h3 | h3
  ·exact fun j hj=>p.ng _ (B4 hj).2.1 (h.wk k hk h3 j hj)
  ·exact h3
theorem SC.stop (h:SC os ct buf buf cs col): ∀k,k<8→(gI col k=2↔KL os ct buf k=true):=by
 have ng: ∀k,RB os buf k→gI col k≠1:=fun k hr=>by
  obtain ⟨b,hb,s,hs,hr⟩:=hr
  have hb8:=BF (l:=os) (id:=b) (by omega)
  have:=hr.closed (P:=fun k=>(k<8∧RB os buf k)∧gI col k≠1) ⟨⟨by omega,b,hb,s,hs, .refl⟩,h.got b hb s hs⟩ fun x hx j hj=>by
   refine ⟨⟨(B4 hj).2.1,hx.1.2.next hj⟩, ?_⟩
   rcases h.si.rng x hx.1.1 with h0 | h1 | h2
   ·have:=(h.si.blk x hx.1.1 (V3.2 hx.1.2) h0).2 j hj;omega
   ·exact absurd h1 hx.2
   ·exact h.wk x hx.1.1 h2 j hj
  exact this.2
 intro k hk
 rw [IS]
 constructor
 ·intro h2
  have hr:RB os buf k:=Classical.byContradiction fun hn=>by
   have:=h.si.out k hk (SB.2 hn);omega
  refine ⟨hr, ?_⟩
  rintro ⟨x,⟨hx8,hx,he⟩,hxk⟩
  have:=hxk.closed (P:=fun k=>(k<8∧RB os buf k)∧gI col k=0) ⟨⟨hx8,hx⟩,by
   rcases h.si.rng x hx8 with h0 | h1 | h2
   ·exact h0
   ·exact absurd h1 (ng x hx)
   ·exact absurd he (h.si.wht x hx8 h2)⟩ fun y hy j hj=>⟨⟨(B4 hj).2.1,hy.1.2.next hj⟩,(h.si.blk y hy.1.1 (V3.2 hy.1.2) hy.2).2 j hj⟩
  omega
 ·rintro ⟨hr,hn⟩
  rcases h.si.rng k hk with h0 | h1 | h2
  ·obtain ⟨x,x8,xc,xe,xr⟩:=(h.si.blk k hk (V3.2 hr) h0).1
   exact absurd ⟨x,⟨x8,V3.1 xc,xe⟩,xr⟩ hn
  ·exact absurd h1 (ng k hr)
  ·exact h2
end
def mk8 (f:Nat→AG):List AG:=(List.range 8).map f
theorem C5 (f:Nat→AG):(mk8 f).length=8:=by simp [mk8]
theorem H3 {f:Nat→AG} {i:Nat} (h:i<8):ob (mk8 f) i=f i:=by
 rw [←DA (by rw [C5];exact h)];simp [mk8]
theorem L9 {f g:Nat→AG} (h: ∀i,i<8→f i=g i):mk8 f=mk8 g:=List.map_congr_left fun i hi=>h i (List.mem_range.1 hi)
theorem ZI {os:List AG} (h:os.length=8):os=mk8 (ob os):=by
 apply List.ext_getElem (by rw [C5,h])
 intro i h1 h2
 rw [DA h1,DA h2,H3 (by omega)]
theorem YD {f:Nat→AG} {k:Nat} {v:AG} (hk:k<8):(mk8 f).set k v=mk8 fun i=>if i=k then v else f i:=by
 apply List.ext_getElem (by simp [C5])
 intro i h1 h2
 have hi:i<8:=by rw [C5] at h2;exact h2
 rw [DA h1,DA h2,DX (by rw [C5];exact hk),H3 hi,H3 hi]
theorem fM {f:Nat→AG} {o:AG} (h:o∈mk8 f): ∃i,i<8∧o=f i:=by
 obtain ⟨i,hi,rfl⟩:=List.mem_map.1 h
 exact ⟨i,List.mem_range.1 hi,rfl⟩
theorem OH {a b:List AG} {id:Int} (hl:a.length=b.length) (h: ∀i,i<a.length→(ob a i).live=(ob b i).live∧(ob a i).field=(ob b i).field):CC a id=CC b id:=by
 unfold CC
 congr 1
 apply List.ext_getElem (by simp [hl])
 intro i h1 h2
 simp only [List.length_map] at h1 h2
 rw [List.getElem_map,List.getElem_map,DA h1,DA h2]
 unfold K5
 rw [(h i h1).1,(h i h1).2]
theorem sA {a b:List AG} {s:Int} (hl:a.length=b.length) (h: ∀i,i<a.length→(ob a i).live=(ob b i).live∧(ob a i).gen=(ob b i).gen∧(ob a i).field=(ob b i).field):inE a s=inE b s:=by
 unfold inE
 by_cases hs:0≤s∧s≤(a.length:Int)-1
 ·have hi:=h s.toNat (by omega)
  rw [hi.1,hi.2.1,OH hl fun i hi=>⟨(h i hi).1,(h i hi).2.2⟩,hl]
 ·rw [if_neg (fun hh=>hs hh.1),if_neg (fun hh=>hs (by rw [hl];exact hh.1))]
def DS (os:List AG) (W:Nat→Bool) (i:Nat):AG:=if W i=true then CA (ob os i).gen else {ob os i with purple:=false}
def GB (os:List AG) (W:Nat→Bool) (i:Nat):AG:=if (DS os W i).live=true then {DS os W i with count:=w64 (w64 ((DS os W i).holds+(DS os W i).roots)+inE (mk8 (DS os W)) i)} else DS os W i
def JE (W:Nat→Bool):Nat→List Int:=pick fun i=>if W i=true then [(i:Int)] else []
def LQ (os:List AG) (W:Nat→Bool):Nat→List Int:=pick fun i=>if W i=true then [B8 i (ob os i).gen] else []
theorem cO {α:Type} {f g:Nat→List α} {n:Nat} (h: ∀i,i<n→f i=g i):pick f n=pick g n:=by
 induction n with
 | zero=>rfl
 | succ n ih=>simp only [pick];rw [ih fun i hi=>h i (by omega),h n (by omega)]
theorem VN {W:Nat→Bool} {n:Nat} {x:Int}:x∈JE W n↔ ∃i:Nat,i<n∧x=i∧W i=true:=by
 unfold JE
 induction n with
 | zero=>simp [pick]
 | succ n ih=>
   simp only [pick,List.mem_append,ih]
   constructor
   ·rintro (⟨i,h1,h2,h3⟩ | h)
    ·exact ⟨i,by omega,h2,h3⟩
    ·split at h
     ·rename_i hw;exact ⟨n,by omega,by simpa using h,hw⟩
     ·simp at h
   ·rintro ⟨i,h1,h2,h3⟩
    by_cases hi:i=n
    ·subst hi;right;rw [if_pos h3];simp [h2]
    ·exact .inl ⟨i,by omega,h2,h3⟩
noncomputable def HY (os:List AG) (buf:List Int):List AG×List Int:=
 (mk8 (GB os (KL os (fun i=>(ob os i).count) buf)),LQ os (KL os (fun i=>(ob os i).count) buf) 8)
end Go.Proofs.Ytklmcfpgdfibnaa.P
namespace Go.Proofs.Ytklmcfpgdfibnaa.P
open Go Go.Proofs.Ytklmcfpgdfibnaa Go.Proofs.Ytklmcfpgdfibnaa.Eng
set_option linter.unusedVariables false
set_option maxHeartbeats 4000000
set_option linter.unusedVariables false
set_option linter.unusedSimpArgs false
attribute [local irreducible] prP gP gE gF AW ixW ldc ldg ldl stc stg scW mkW apW BE cl2 BS C6 CO
variable {w0:World}
theorem iD {os:List AG} {i:Nat} (hi:i<os.length):(os.take (i+1)).map (·.count)=(os.take i).map (·.count)++[(ob os i).count]:=by
 rw [List.take_succ_eq_append_getElem hi,List.map_append,DA hi];rfl
theorem TF {os:List AG} {b c d:List T} {K:J2} (hol:os.length=8) (h:K [] [tI (os.map (·.count)),tI (List.replicate 8 0)]):cl2 ⟨Try.prog,w0⟩ 155 D7.sg [] [tR tO os,b,c,d] K:=by
 refine D7.cl2 ?_
 unfold D7.txt
 simp only [AH,AP,AK,AM,AO,AE,AI,AR,AN,AL,AS,AJ,AT,AQ,BH,BL,BM,BN,BP,BO,BK,A5,A8,A4,A9,A6,A7]
 refine BG (fun i=>[iv i]) (fun i=>[tI ((os.take i).map (·.count)),tI (List.replicate i 0)]) os.length (fun _=>True) rfl rfl trivial (fun R i hi hP hR=> ?_)
 have hln:((os.take i).map (·.count)).length=i:=by simp;omega
 have hl2:(List.replicate i (0:Int)).length=i:=List.length_replicate
 simp only [AH,AP,AK,AM,AO,AE,AI,AR,AN,AL,AS,AJ,AT,AQ,BH,BL,BM,BN,BP,BO,BK,A5,A8,A4,A9,A6,A7]
 refine BA (BT (LI (fun hlt=> ?_) fun hge=> ?_))
 ·have hlt':i<os.length:=by omega
  replace hR:=hR hlt' trivial
  rw [iD hlt', ←DJ,List.replicate_succ', ←DJ] at hR
  refine BA (EI hlt rfl (FM (by omega) ?_))
  exact AU hlt' (I4 (v:=I (ob os i).count) hlt' (by decide) rfl (EH rfl (by omega) (EH rfl (by omega) (BB (by omega) hR))))
 ·have:i=os.length:=by omega
  subst this
  refine EJ hge rfl (B7 ?_)
  rw [List.take_length,hol];exact h
theorem WD {cs col:List Int} {W:Nat→Bool} {K:J2} (hl:col.length=8) (hw: ∀k,k<8→(gI col k=2↔W k=true)) (h:K [] [tI (JE W 8)]):cl2 ⟨Try.prog,w0⟩ 158 FT.sg [] [tI cs,tI col] K:=by
 refine FT.cl2 ?_
 unfold FT.txt
 simp only [AH,AP,AK,AM,AO,AE,AI,AR,AN,AL,AS,AJ,AT,AQ,BH,BL,BM,BN,BP,BO,BK,A5,A8,A4,A9,A6,A7]
 refine BG (fun i=>[iv i]) (fun i=>[tI (JE W i)]) col.length (fun _=>True) rfl rfl trivial (fun R i hi hP hR=> ?_)
 have hln:(JE W i).length≤i:=HC (fun i=>by split <;> simp) i
 simp only [AH,AP,AK,AM,AO,AE,AI,AR,AN,AL,AS,AJ,AT,AQ,BH,BL,BM,BN,BP,BO,BK,A5,A8,A4,A9,A6,A7]
 refine BA (AX (fun hlt=> ?_) fun hge=> ?_)
 ·have hlt:i<col.length:=by omega
  replace hR:=hR hlt trivial
  have hwi:=hw i (by omega)
  refine BZ (AU hlt (ldI hlt (B2 (AX (fun h2=> ?_) fun h2=> ?_))))
  ·have e:JE W (i+1)=JE W i++[(i:Int)]:=by show JE W i++(if W i=true then [(i:Int)] else [])=_;rw [if_pos (hwi.1 h2)]
   rw [e, ←DJ] at hR
   exact EH rfl (by omega) (BB (by omega) hR)
  ·have e:JE W (i+1)=JE W i:=by show JE W i++(if W i=true then [(i:Int)] else [])=_;rw [if_neg (fun hh=>h2 (hwi.2 hh)),List.append_nil]
   rw [e] at hR
   exact BB (by omega) hR
 ·have:i=col.length:=by omega
  subst this
  rw [hl];exact h
theorem MK.start {os:List AG} (hol:os.length=8) (hc: ∀o∈os,F64 o.count):MK os (fun i=>(ob os i).count) [] (os.map (·.count)) (List.replicate 8 0):=by
 have hz: ∀k,k<8→gI (List.replicate 8 (0:Int)) k=0:=fun k hk=>by unfold gI;rw [List.getD_eq_getElem?_getD,List.getElem?_replicate,if_pos hk];rfl
 have hcs: ∀i,i<8→gI (os.map (·.count)) i=(ob os i).count:=fun i hi=>by
  rw [←DM (by simp;omega),List.getElem_map,DA (by omega)]
 have hF: ∀i,i<8→F64 (ob os i).count:=fun i hi=>hc _ (IH (by omega))
 refine ⟨⟨by simp [hol],by simp⟩,fun i hi=>by rw [hcs i hi];exact hF i hi,fun k hk h1=> ?_,fun k hk h1=>⟨hz k hk, ?_⟩,fun i hi=> ?_⟩
 ·rw [hz k hk] at h1;omega
 ·rintro ⟨b,hb,_⟩;simp at hb
 ·have:S os (isC (List.replicate 8 0) 1) i=0:=H5 fun k hk=>by unfold isC;rw [hz k hk];rfl
  rw [hcs i hi,this,Int.sub_zero,JB (hF i hi)]
theorem T6 (os:List AG) (W:Nat→Bool) (i:Nat):(GB os W i).live=(DS os W i).live∧(GB os W i).gen=(DS os W i).gen∧(GB os W i).field=(DS os W i).field:=by
 unfold GB;split <;> exact ⟨rfl,rfl,rfl⟩
theorem m6 {os:List AG} (hof: ∀o∈os,OF o) (hol:os.length=8) (W:Nat→Bool) {i:Nat} (hi:i<8):(DS os W i).field.length=3:=by
 unfold DS
 split
 ·rfl
 ·exact (hof _ (IH (by omega))).len
theorem jL {a b c d e f g:List T} {l:List (List T)}:nxc (a::b::c::d::e::f::g::l) 6=g:=rfl
theorem T4 {h:Hp} {K:J2} (st:St h) (hc: ∀o∈h.AD,F64 o.count) (hK:K [] [tR tO (HY h.AD h.buffer).1,tR tW h.B1,[],tS h.sites,tI (HY h.AD h.buffer).2]):cl2 ⟨Try.prog,w0⟩ 127 EK.sg [] (trees h) K:=by
 refine EK.cl2 ?_
 unfold EK.txt
 refine JK st.fits ?_
 obtain ⟨os,ws,buf,ss⟩:=h
 have hol:os.length=8:=st.ol
 have hof: ∀o∈os,OF o:=st.of
 have hb:buf.length≤100:=st.bl
 have hbf: ∀x∈buf,F64 x:=st.bf
 simp only at hc hK
 simp only [trees]
 obtain ⟨ct,hct⟩: ∃ct:Nat→Int,ct=fun i=>(ob os i).count:=⟨_,rfl⟩
 obtain ⟨W,hW⟩: ∃W,W=KL os ct buf:=⟨_,rfl⟩
 unfold HY at hK
 rw [←hct, ←hW] at hK
 simp only [AH,AP,AK,AM,AO,AE,AI,AR,AN,AL,AS,AJ,AT,AQ,BH,BL,BM,BN,BP,BO,BK,A5,A8,A4,A9,A6,A7]
 refine DK (FU (by omega) (TF hol ?_))
 refine FG (α:=Nat×List Int×List Int) (fun q=>[iv q.1]) (fun q=>[[],tR tO os,tR tW ws,tI buf,tS ss,tI q.2.1,tI q.2.2]) (fun q=>buf.length-q.1) (fun q=>q.1≤buf.length∧MK os ct (buf.take q.1) q.2.1 q.2.2) (0,os.map (·.count),List.replicate 8 0) rfl rfl ⟨Nat.zero_le _,by rw [hct];exact MK.start hol hc⟩ (fun R q hq hR=> ?_)
 obtain ⟨i,cs,col⟩:=q
 obtain ⟨hi,mk⟩:=hq
 simp only at hi mk
 simp only [AH,AP,AK,AM,AO,AE,AI,AR,AN,AL,AS,AJ,AT,AQ,BH,BL,BM,BN,BP,BO,BK,A5,A8,A4,A9,A6,A7]
 simp only [jL]
 refine BA (AX (fun hlt=> ?_) fun hge=> ?_)
 ·have hlt:i<buf.length:=by omega
  have hx:=hbf _ (C7 hlt)
  have nx:=fun cs' col' (m:MK os ct (buf.take i++[gI buf i]) cs' col')=>hR (i+1,cs',col') ⟨by simp only;omega,by simp only;rw [List.take_succ_eq_append_getElem hlt,DM hlt];exact m⟩ (by simp only;omega)
  refine AU hlt (ldI hlt (BX hx (by omega) (TA hol hof mk.len.1 mk.len.2 mk.f (fun hn=> ?_) fun s hs s8 cs' col' p=> ?_)))
  ·exact BB (by omega) (nx _ _ (mk.none hn))
  ·exact BB (by omega) (nx _ _ (mk.some hs s8 p))
 have:i=buf.length:=by omega
 subst this
 rw [List.take_length] at mk
 refine FG (α:=Nat×List Int×List Int) (fun q=>[iv q.1]) (fun q=>[[],tR tO os,tR tW ws,tI buf,tS ss,tI q.2.1,tI q.2.2]) (fun q=>buf.length-q.1) (fun q=>q.1≤buf.length∧SC os ct buf (buf.take q.1) q.2.1 q.2.2) (0,cs,col) rfl rfl ⟨Nat.zero_le _,SC.start mk⟩ (fun R q hq hR=> ?_)
 obtain ⟨i,cs,col⟩:=q
 obtain ⟨hi,sc⟩:=hq
 simp only at hi sc
 simp only [AH,AP,AK,AM,AO,AE,AI,AR,AN,AL,AS,AJ,AT,AQ,BH,BL,BM,BN,BP,BO,BK,A5,A8,A4,A9,A6,A7]
 simp only [jL]
 refine BA (AX (fun hlt=> ?_) fun hge=> ?_)
 ·have hlt:i<buf.length:=by omega
  have hx:=hbf _ (C7 hlt)
  have nx:=fun cs' col' (m:SC os ct buf (buf.take i++[gI buf i]) cs' col')=>hR (i+1,cs',col') ⟨by simp only;omega,by simp only;rw [List.take_succ_eq_append_getElem hlt,DM hlt];exact m⟩ (by simp only;omega)
  refine AU hlt (ldI hlt (BX hx (by omega) (TE hol hof sc.si (fun hn=> ?_) fun s hs s8 cs' col' p=> ?_)))
  ·exact BB (by omega) (nx _ _ (sc.none hn))
  ·exact BB (by omega) (nx _ _ (sc.some hs s8 p))
 have:i=buf.length:=by omega
 subst this
 rw [List.take_length] at sc
 have wh:=sc.stop
 rw [←hW] at wh
 refine WD sc.si.len.2 wh ?_
 clear hR sc mk
 have hwn:(JE W 8).length≤8:=HC (fun i=>by split <;> simp) 8
 refine BG (fun i=>[iv i]) (fun i=>[tI (LQ os W i),tI (JE W 8),tR tO (mk8 fun k=>if k<i then DS os W k else ob os k),tR tW ws,tI buf,tS ss]) 8 (fun _=>True) rfl ?_ trivial (fun R i hi hP hR=> ?_)
 ·simp only [Nat.not_lt_zero,if_false]
  rw [←ZI hol];rfl
 have hln:(LQ os W i).length≤i:=HC (fun i=>by split <;> simp) i
 simp only [AH,AP,AK,AM,AO,AE,AI,AR,AN,AL,AS,AJ,AT,AQ,BH,BL,BM,BN,BP,BO,BK,A5,A8,A4,A9,A6,A7]
 simp only [jL,C5]
 refine BA (AX (fun hlt=> ?_) fun hge=> ?_)
 ·have hlt:i<8:=by omega
  replace hR:=hR hlt trivial
  have hml:i<(mk8 fun k=>if k<i then DS os W k else ob os k).length:=by rw [C5];exact hlt
  have hoi:(mk8 fun k=>if k<i then DS os W k else ob os k)[i]=ob os i:=by rw [DA hml,H3 hlt,if_neg (by omega)]
  have hset: ∀v,v=DS os W i→(mk8 fun k=>if k<i then DS os W k else ob os k).set i v=mk8 fun k=>if k<i+1 then DS os W k else ob os k:=fun v hv=>by
   rw [YD hlt]
   refine L9 fun k hk=> ?_
   by_cases h1:k=i
   ·subst h1;rw [if_pos rfl,if_pos (by omega),hv]
   ·rw [if_neg h1]
    by_cases h2:k<i
    ·rw [if_pos h2,if_pos (by omega)]
    ·rw [if_neg h2,if_neg (by omega)]
  generalize (mk8 fun k=>if k<i then DS os W k else ob os k)=M at hml hoi hset ⊢
  have hM8:M.length=8:=by have:=congrArg List.length (hset (DS os W i) rfl);rw [List.length_set,C5] at this;exact this
  have io:i<os.length:=by omega
  refine BZ (AU hlt ?_)
  refine SK (f:=tO) (c:=7) (y:={M[i] with purple:=false}) hml (by decide) rfl rfl ?_
  rw [hoi]
  refine II (by omega) (AX (fun hm=> ?_) fun hm=> ?_)
  ·have hw:W i=true:=by
    obtain ⟨k,_,h2,h3⟩:=VN.1 hm
    have:k=i:=by omega
    subst this;exact h3
   have ef:LQ os W (i+1)=LQ os W i++[B8 i (ob os i).gen]:=by show LQ os W i++(if W i=true then [B8 i (ob os i).gen] else [])=_;rw [if_pos hw]
   rw [ef, ←DJ, ←hset (CA (ob os i).gen) (by unfold DS;rw [if_pos hw])] at hR
   refine AU io (I4 (v:=I (ob os i).gen) io (by decide) rfl (GH (EH rfl (by omega) (AU io (I4 (v:=I (ob os i).gen) io (by decide) rfl (HZ ?_))))))
   simp only [AH,AP,AK,AM,AO,AE,AI,AR,AN,AL,AS,AJ,AT,AQ,BH,BL,BM,BN,BP,BO,BK,A5,A8,A4,A9,A6,A7]
   simp only [List.length_set,hM8]
   refine AU hlt (P9 (f:=tO) (by rw [List.length_set];exact hml) (y:=CA (ob os i).gen) rfl ?_)
   rw [List.set_set]
   exact BB (by omega) hR
  ·have hw: ¬W i=true:=fun hw=>hm (VN.2 ⟨i,hlt,rfl,hw⟩)
   have ef:LQ os W (i+1)=LQ os W i:=by show LQ os W i++(if W i=true then [B8 i (ob os i).gen] else [])=_;rw [if_neg hw,List.append_nil]
   rw [ef, ←hset {ob os i with purple:=false} (by unfold DS;rw [if_neg hw])] at hR
   exact BB (by omega) hR
 have:i=8:=by omega
 subst this
 rw [L9 (g:=DS os W) fun k hk=>if_pos hk]
 clear hR
 refine BG (fun i=>[iv i]) (fun i=>[tI (LQ os W 8),tR tO (mk8 fun k=>if k<i then GB os W k else DS os W k),tR tW ws,tI buf,tS ss]) 8 (fun _=>True) rfl rfl trivial (fun R i hi hP hR=> ?_)
 simp only [AH,AP,AK,AM,AO,AE,AI,AR,AN,AL,AS,AJ,AT,AQ,BH,BL,BM,BN,BP,BO,BK,A5,A8,A4,A9,A6,A7]
 simp only [C5]
 refine BA (AX (fun hlt=> ?_) fun hge=> ?_)
 ·have hlt:i<8:=by omega
  replace hR:=hR hlt trivial
  have hml:i<(mk8 fun k=>if k<i then GB os W k else DS os W k).length:=by rw [C5];exact hlt
  have hoi:(mk8 fun k=>if k<i then GB os W k else DS os W k)[i]=DS os W i:=by rw [DA hml,H3 hlt,if_neg (by omega)]
  have hset: ∀v,v=GB os W i→(mk8 fun k=>if k<i then GB os W k else DS os W k).set i v=mk8 fun k=>if k<i+1 then GB os W k else DS os W k:=fun v hv=>by
   rw [YD hlt]
   refine L9 fun k hk=> ?_
   by_cases h1:k=i
   ·subst h1;rw [if_pos rfl,if_pos (by omega),hv]
   ·rw [if_neg h1]
    by_cases h2:k<i
    ·rw [if_pos h2,if_pos (by omega)]
    ·rw [if_neg h2,if_neg (by omega)]
  have hin:inE (mk8 fun k=>if k<i then GB os W k else DS os W k) i=inE (mk8 (DS os W)) i:=by
   refine sA (by rw [C5,C5]) fun k hk=> ?_
   rw [C5] at hk
   rw [H3 hk,H3 hk]
   by_cases h2:k<i
   ·rw [if_pos h2];exact T6 os W k
   ·rw [if_neg h2];exact ⟨rfl,rfl,rfl⟩
  have hlen3: ∀o∈(mk8 fun k=>if k<i then GB os W k else DS os W k),(o.field.length:Int)≤1048576:=fun o ho=>by
   obtain ⟨k,hk,rfl⟩:=fM ho
   have hm:=m6 hof hol W hk
   by_cases h2:k<i
   ·rw [if_pos h2,(T6 os W k).2.2];omega
   ·rw [if_neg h2];omega
  generalize (mk8 fun k=>if k<i then GB os W k else DS os W k)=M at hml hoi hset hin hlen3 ⊢
  have hM8:M.length=8:=by have:=congrArg List.length (hset (GB os W i) rfl);rw [List.length_set,C5] at this;exact this
  have hMs:M=M.set i (DS os W i):=by rw [←hoi,List.set_getElem_self]
  refine BZ (AU hlt ?_)
  cases hv:(DS os W i).live with
  | true=>
    refine TU (f:=tO) (v:= .bool true) hml (by rw [hoi];simp [tO,hv]) (CT (AU hlt ?_))
    refine SL (f:=tO) (v:=I (DS os W i).holds) hml (by decide) (by rw [hoi];rfl) (AU hlt ?_)
    refine SL (f:=tO) (v:=I (DS os W i).roots) hml (by decide) (by rw [hoi];rfl) (G7 ?_)
    refine NV ⟨by omega,by omega⟩ (by rw [hM8];decide) hlen3 ?_
    rw [hin]
    refine G7 (AU hlt ?_)
    rw [hMs]
    refine KR hml ?_
    rw [hset _ (by unfold GB;rw [if_pos hv])]
    exact BB (by omega) hR
  | false=>
    refine TU (f:=tO) (v:= .bool false) hml (by rw [hoi];simp [tO,hv]) (B7 ?_)
    rw [hMs,hset _ (by unfold GB;rw [if_neg (by rw [hv];decide)])]
    exact BB (by omega) hR
 ·have:i=8:=by omega
  subst this
  rw [L9 (g:=GB os W) fun k hk=>if_pos hk]
  exact hK
end Go.Proofs.Ytklmcfpgdfibnaa.P
namespace Go.Proofs.Ytklmcfpgdfibnaa.P
open Go Go.Proofs.Ytklmcfpgdfibnaa Go.Proofs.Ytklmcfpgdfibnaa.Eng
set_option linter.unusedVariables false
set_option maxHeartbeats 4000000
set_option linter.unusedVariables false
set_option linter.unusedSimpArgs false
attribute [local irreducible] prP gP gE gF AW ixW ldc ldg ldl stc stg scW mkW apW BE cl2 BS C6 CO
variable {w0:World}
noncomputable def EU (h:Hp) (o:Op5):Hp×An:=
 if o.kind=1 then (⟨(H4 h.AD h.sites o.site).1,h.B1,h.buffer,(H4 h.AD h.sites o.site).2.1⟩,(H4 h.AD h.sites o.site).2.2) else
 if o.kind=2∨o.kind=3∨o.kind=5∨o.kind=6 then (⟨(G4 h.AD h.buffer o.kind o.a).1,h.B1,(G4 h.AD h.buffer o.kind o.a).2.1,h.sites⟩,(G4 h.AD h.buffer o.kind o.a).2.2) else
 if o.kind=4 then (⟨(I5 h.AD h.buffer o.a o.b o.c).1,h.B1,(I5 h.AD h.buffer o.a o.b o.c).2.1,h.sites⟩,(I5 h.AD h.buffer o.a o.b o.c).2.2) else
 if o.kind=7 then (⟨h.AD,(OP h.AD h.B1 o.a).1,h.buffer,h.sites⟩,(OP h.AD h.B1 o.a).2) else
 if o.kind=8∨o.kind=9 then (⟨h.AD,(IV h.AD h.B1 o.kind o.a).1,h.buffer,h.sites⟩,(IV h.AD h.B1 o.kind o.a).2) else
 if o.kind=10 then (⟨(HY h.AD h.buffer).1,h.B1,[],h.sites⟩,⟨0,0,(HY h.AD h.buffer).2⟩) else (h,⟨2,0,[]⟩)
theorem dH {α:Type} [Inhabited α] {l:List α} (h: ∀i (hi:i<l.length),l[i]∉l.take i):l.Nodup:=by
 refine List.pairwise_iff_getElem.2 fun i j hi hj hij he=>h j hj ?_
 rw [←he]
 exact List.mem_take_iff_getElem.2 ⟨i,by omega,rfl⟩
theorem few {n:Nat}: ∀{l:List Int} (g:Int→Nat),l.Nodup→(∀x∈l,g x<n)→(∀x∈l, ∀y∈l,g x=g y→x=y)→l.length≤n:=by
 induction n with
 | zero=>
   intro l g _ h _
   cases l with
   | nil=>simp
   | cons x l=>exact absurd (h x (by simp)) (by omega)
 | succ n ih=>
   intro l g hn h hi
   by_cases hx: ∃x∈l,g x=n
   ·obtain ⟨x,hx,hg⟩:=hx
    have:=ih (l:=l.erase x) g (hn.erase x) (fun y hy=>by
     have hy':=List.mem_of_mem_erase hy
     have:=h y hy'
     have hne:g y≠n:=fun he=>by
      have:y=x:=hi y hy' x hx (by omega)
      subst this
      exact (List.Nodup.not_mem_erase hn) hy
     omega) fun y hy z hz=>hi y (List.mem_of_mem_erase hy) z (List.mem_of_mem_erase hz)
    rw [List.length_erase_of_mem hx] at this
    omega
   ·have:=ih g hn (fun y hy=>by
     have:=h y hy
     have:g y≠n:=fun he=>hx ⟨y,hy,he⟩
     omega) hi
    omega
theorem BW.bnd {h:Hp} (hk:BW h):h.buffer.Nodup:=dH fun i hi=>by rw [DM hi];exact (hk.buf i hi).2
theorem BW.UT {h:Hp} (hk:BW h) {x:Int} (hx:x∈h.buffer):0≤AA h.AD x:=by
 obtain ⟨i,hi,rfl⟩:=List.getElem_of_mem hx
 rw [DM hi];exact (hk.buf i hi).1
theorem c8 {l:List AG} {x y:Int} (hx:0≤AA l x) (hy:0≤AA l y) (h:AA l x=AA l y):x=y:=by
 have a:=BF hx;have b:=BF hy
 have e1:=a.2.2.2.2.2;have e2:=b.2.2.2.2.2
 rw [h] at e1
 omega
theorem BW.vG {h:Hp} (hk:BW h):h.buffer.length≤8:=
 few (fun x=>(AA h.AD x).toNat) hk.bnd (fun x hx=>(BF (hk.UT hx)).2.2.2.1) fun x hx y hy he=>c8 (hk.UT hx) (hk.UT hy) (by have:=hk.UT hx;have:=hk.UT hy;omega)
theorem BW.st {h:Hp} (hk:BW h) (hn:TB h):St h:=by
 refine ⟨hk.ol,hk.wl,hk.sites.len,by have:=hk.vG;omega,fun o ho=> ?_,fun s hs=> ?_,hn.weak,hn.buf⟩
 ·obtain ⟨i,hi,rfl⟩:=List.getElem_of_mem ho
  have hi8:i<8:=by have:=hk.ol;omega
  have:=hn.obj _ ho
  rw [DA hi] at this ⊢
  exact ⟨this.1,(hk.obj i hi8).len,this.2.2.2.2.2⟩
 ·obtain ⟨i,hi,rfl⟩:=List.getElem_of_mem hs
  have:=(hk.sites.sz i hi).2
  rw [RG hi];omega
theorem BW.hr {h:Hp} (hk:BW h) (i:Nat):(0≤(ob h.AD i).holds∧(ob h.AD i).holds≤20)∧(0≤(ob h.AD i).roots∧(ob h.AD i).roots≤20):=by
 by_cases hi:i<8
 ·cases hv:(ob h.AD i).live with
  | true=>exact ⟨((hk.obj i hi).lv hv).2.2.1,((hk.obj i hi).lv hv).2.2.2.1⟩
  | false=>have:=(hk.obj i hi).dead hv;omega
 ·have:ob h.AD i=⟨false,0,0,0,0,0,[],false⟩:=by unfold ob;rw [List.getD_eq_getElem?_getD,List.getElem?_eq_none (by have:=hk.ol;omega)];rfl
  rw [this];simp
theorem BW.fd {h:Hp} (hk:BW h) (i:Nat): ∀f∈(ob h.AD i).field,f= -1∨0≤f:=by
 intro f hf
 by_cases hi:i<8
 ·obtain ⟨j,hj,rfl⟩:=List.getElem_of_mem hf
  have ho:=hk.obj i hi
  by_cases h1:gI (ob h.AD i).field j= -1
  ·left;rw [DM hj];exact h1
  ·right
   have:=BF (ho.lead j (by have:=ho.len;omega) h1).2
   rw [DM hj];omega
 ·have:ob h.AD i=⟨false,0,0,0,0,0,[],false⟩:=by unfold ob;rw [List.getD_eq_getElem?_getD,List.getElem?_eq_none (by have:=hk.ol;omega)];rfl
  rw [this] at hf;simp at hf
theorem kinds (k:Int):k=1∨(k=2∨k=3∨k=5∨k=6)∨k=4∨k=7∨(k=8∨k=9)∨k=10∨ ¬(k=1∨k=2∨k=3∨k=4∨k=5∨k=6∨k=7∨k=8∨k=9∨k=10):=by omega
end Go.Proofs.Ytklmcfpgdfibnaa.P
namespace Go.Proofs.Ytklmcfpgdfibnaa.P
open Go Go.Proofs.Ytklmcfpgdfibnaa Go.Proofs.Ytklmcfpgdfibnaa.Eng
set_option linter.unusedVariables false
set_option maxHeartbeats 4000000
set_option linter.unusedVariables false
set_option linter.unusedSimpArgs false
attribute [local irreducible] prP gP gE gF AW ixW ldc ldg ldl stc stg scW mkW apW BE cl2 BS C6 CO
variable {w0:World}
open Classical in
noncomputable def OL (h:Hp) (o:Op5):Hp×An:=if BW h then EU h o else (h,⟨2,0,[]⟩)
theorem UE {h:Hp} {o:Op5} (hk:BW h):OL h o=EU h o:=by unfold OL;rw [if_pos hk]
theorem mS {h:Hp} {o:Op5} (hk: ¬BW h):OL h o=(h,⟨2,0,[]⟩):=by unfold OL;rw [if_neg hk]
theorem RN {h:Hp} {o:Op5} {K:J2} (hf:Fits h) (hn:TB h) (ha:F64 o.a) (hc:F64 o.c) (hK:K [I (OL h o).2.code,I (OL h o).2.val] (trees (OL h o).1++[tI (OL h o).2.freed])):cl2 ⟨Try.prog,w0⟩ 76 FH.sg [I o.kind,I o.a,I o.b,I o.c, .string o.site] (trees h) K:=by
 refine FH.cl2 ?_
 unfold FH.txt
 refine JK hf (PT hf hn (fun hk=>CV (B7 ?_)) fun hk=>CV (CT ?_))
 rotate_left
 ·rw [mS hk] at hK
  exact hK
 rw [UE hk] at hK
 have st:=hk.st hn
 have hr:=hk.hr
 have hfd:=hk.fd
 have hss:=hk.sites
 have hcn: ∀o∈h.AD,F64 o.count:=fun o ho=>(hn.obj o ho).2.2.2.2.1
 clear hf hk
 obtain ⟨kd,a,b,c,s⟩:=o
 have hol:h.AD.length=8:=st.ol
 simp only at ha hc hr
 unfold EU at hK
 simp only at hK
 have hold:=fun {K:J2} (hkd:kd=2∨kd=3∨kd=5∨kd=6)=>WC (w0:=w0) (h:=h) (kind:=kd) (id:=a) (b:=b) (c:=c) (s:=s) (K:=K) st ha hkd hr
 have store:=fun {K:J2}=>UK (w0:=w0) (h:=h) (a0:=kd) (a1:=a) (a2:=b) (a3:=c) (s:=s) (K:=K) st ha hc hfd
 have pP:=fun {K:J2}=>T4 (w0:=w0) (h:=h) (K:=K) st hcn
 have weak:=fun {K:J2}=>V8 (w0:=w0) (os:=h.AD) (ws:=h.B1) (cc:=tI h.buffer) (d:=tS h.sites) (kind:=kd) (k:=a) (b:=b) (c:=c) (s:=s) (K:=K) hol st.wl ha st.wf
 simp only [trees] at hold store pP ⊢
 rcases kinds kd with rfl | hkd | rfl | rfl | hkd | rfl | hkd
 ·rw [if_pos rfl] at hK
  exact B2 (FM rfl (T5 hol hss hK))
 ·rw [if_neg (by omega),if_pos hkd] at hK
  replace hold:=fun {K:J2}=>hold (K:=K) hkd
  rcases hkd with rfl | rfl | rfl | rfl
  all_goals
   repeat' (first | refine BZ ?_ | refine CT ?_ | refine B7 ?_ | refine B2 ?_ | simp only [AH,AP,AK,AM,AO,AE,AI,AR,AN,AL,AS,AJ,AT,AQ,BH,BL,BM,BN,BP,BO,BK,A5,A8,A4,A9,A6,A7])
   exact hold hK
 ·simp only [if_neg (show ¬(4:Int)=1 by decide),if_neg (show ¬((4:Int)=2∨(4:Int)=3∨(4:Int)=5∨(4:Int)=6) by decide),if_true] at hK
  repeat' (first | refine BZ ?_ | refine CT ?_ | refine B7 ?_ | refine B2 ?_ | simp only [AH,AP,AK,AM,AO,AE,AI,AR,AN,AL,AS,AJ,AT,AQ,BH,BL,BM,BN,BP,BO,BK,A5,A8,A4,A9,A6,A7])
  exact store hK
 ·simp only [if_neg (show ¬(7:Int)=1 by decide),if_neg (show ¬((7:Int)=2∨(7:Int)=3∨(7:Int)=5∨(7:Int)=6) by decide),if_neg (show ¬(7:Int)=4 by decide),if_true] at hK
  repeat' (first | refine BZ ?_ | refine CT ?_ | refine B7 ?_ | refine B2 ?_ | simp only [AH,AP,AK,AM,AO,AE,AI,AR,AN,AL,AS,AJ,AT,AQ,BH,BL,BM,BN,BP,BO,BK,A5,A8,A4,A9,A6,A7])
  exact weak (fun _=>hK) (fun hh=>absurd rfl hh)
 ·rw [if_neg (by omega),if_neg (by omega),if_neg (by omega),if_neg (by omega),if_pos hkd] at hK
  rcases hkd with rfl | rfl
  all_goals
   repeat' (first | refine BZ ?_ | refine CT ?_ | refine B7 ?_ | refine B2 ?_ | simp only [AH,AP,AK,AM,AO,AE,AI,AR,AN,AL,AS,AJ,AT,AQ,BH,BL,BM,BN,BP,BO,BK,A5,A8,A4,A9,A6,A7])
   exact weak (fun hh=>absurd hh (by decide)) (fun _=>hK)
 ·simp only [if_neg (show ¬(10:Int)=1 by decide),if_neg (show ¬((10:Int)=2∨(10:Int)=3∨(10:Int)=5∨(10:Int)=6) by decide),if_neg (show ¬(10:Int)=4 by decide),if_neg (show ¬(10:Int)=7 by decide),if_neg (show ¬((10:Int)=8∨(10:Int)=9) by decide),if_true] at hK
  repeat' (first | refine BZ ?_ | refine CT ?_ | refine B7 ?_ | refine B2 ?_ | simp only [AH,AP,AK,AM,AO,AE,AI,AR,AN,AL,AS,AJ,AT,AQ,BH,BL,BM,BN,BP,BO,BK,A5,A8,A4,A9,A6,A7])
  exact pP hK
 ·rw [if_neg (by omega),if_neg (by omega),if_neg (by omega),if_neg (by omega),if_neg (by omega),if_neg (by omega)] at hK
  repeat' (first | refine BZ ?_ | refine FU (by first | with_reducible assumption | omega) ?_ | refine B2 ?_ | simp only [AH,AP,AK,AM,AO,AE,AI,AR,AN,AL,AS,AJ,AT,AQ,BH,BL,BM,BN,BP,BO,BK,A5,A8,A4,A9,A6,A7])
  all_goals first | exact hK | (exfalso;omega)
end Go.Proofs.Ytklmcfpgdfibnaa.P
namespace Go.Proofs.Ytklmcfpgdfibnaa.P
open Go Go.Proofs.Ytklmcfpgdfibnaa Go.Proofs.Ytklmcfpgdfibnaa.Eng
set_option linter.unusedVariables false
def okE (n:Int) (l:List ByteArray) (a b c d:Int) (s:ByteArray) (k v:Int) (xs:List Int):Bool:=(sB a b c d s&&uJ k v xs)&&uO n l
def Fx (q:ByteArray×Int) (x:Int):ByteArray×Int:=(q.1++SI (x-q.2),x)
def base (n:Int) (l:List ByteArray) (a b c d:Int) (s:ByteArray) (k v:Int) (m:Nat):ByteArray:=((((((SI a++SI (b-n))++SI c)++SI (d-b))++jO l s)++V k)++SI (v-b))++V m
def stE (p:ByteArray×Int) (xs:List Int) (i:Nat):ByteArray×Int:=(xs.take i).foldl Fx p
theorem kM {p:ByteArray×Int} {xs:List Int} {i:Nat} (hi:i<xs.length):stE p xs (i+1)=Fx (stE p xs i) xs[i]:=by
 rw [stE,List.take_succ_eq_append_getElem hi,List.foldl_append];rfl
theorem kC {p:ByteArray×Int} {xs:List Int} (hp:NX p.2=true) (hx:xs.all NX=true): ∀i,i≤xs.length→NX (stE p xs i).2=true∧(stE p xs i).1.size≤p.1.size+7*i
 | 0,_=>⟨hp,Nat.le_refl _⟩
 | i+1,hi=>by
   obtain ⟨h1,h2⟩:=kC hp hx i (by omega)
   rw [kM (by omega)]
   refine ⟨List.all_eq_true.1 hx _ (List.getElem_mem _), ?_⟩
   have:=P5 (zg (xs[i]-(stE p xs i).2))
   simp only [Fx,ByteArray.size_append,SI];omega
theorem dE (l:List ByteArray) (s:ByteArray):(jO l s).size≤22:=by
 unfold jO;split
 ·have:=P5 (at_ l s+1);omega
 ·have h1:=P5 0
  have h2:=pB s
  rw [ByteArray.size_append];omega
theorem Q4 (n:Int):(SI n).size≤7:=P5 _
def fU (n:Int) (l:List ByteArray) (a b c d:Int) (s:ByteArray) (k v:Int) (xs:List Int):ByteArray×Int×List ByteArray:=
 if okE n l a b c d s k v xs then ((stE (base n l a b c d s k v xs.length,b) xs xs.length).1,b,u6 l s) else (⟨#[]⟩,n,l)
theorem bF {n:Int} {l:List ByteArray} {a b c d:Int} {s:ByteArray} {k v:Int} {xs:List Int} (h:okE n l a b c d s k v xs=true):NX a=true∧NX b=true∧NX c=true∧NX d=true∧NX v=true∧NX n=true∧xs.all NX=true∧xs.length≤8∧(0≤k∧k≤6)∧l.length≤400:=by
 simp only [okE,sB,uJ,uO,Bool.and_eq_true,decide_eq_true_eq] at h
 exact ⟨h.1.1.1.1.1.1,h.1.1.1.1.1.2,h.1.1.1.1.2,h.1.1.1.2,h.1.2.1.1.2,h.2.1.1,h.1.2.2,h.1.2.1.2,gX.1 h.1.2.1.1.1,h.2.1.2⟩
theorem hH (n:Int) (l:List ByteArray) (a b c d:Int) (s:ByteArray) (k v:Int) (m:Nat):(base n l a b c d s k v m).size≤71:=by
 have h1:=Q4 a;have h2:=Q4 (b-n);have h3:=Q4 c;have h4:=Q4 (d-b);have h5:=dE l s;have h6:=P5 k;have h7:=Q4 (v-b);have h8:=P5 m
 simp only [base,ByteArray.size_append];omega
end Go.Proofs.Ytklmcfpgdfibnaa.P
namespace Go.Proofs.Ytklmcfpgdfibnaa.P
open Go Go.Proofs.Ytklmcfpgdfibnaa Go.Proofs.Ytklmcfpgdfibnaa.Eng
set_option linter.unusedVariables false
theorem oZ {f:J2} {g:J2→Prop} (P:List Value→List (List T)→Prop) (h1: ∀xs cs,P xs cs→f xs cs) (h2: ∀j:J2,(∀xs cs,P xs cs→j xs cs)→g j):BS f g:=h2 f h1
end Go.Proofs.Ytklmcfpgdfibnaa.P
