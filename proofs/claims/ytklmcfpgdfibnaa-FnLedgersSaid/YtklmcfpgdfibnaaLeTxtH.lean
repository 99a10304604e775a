/- A part of the proof. -/
import Derived.Test.YtklmcfpgdfibnaaLeHpQ
import Derived.Test.YtklmcfpgdfibnaaLeHpE
namespace Go.Proofs.Ytklmcfpgdfibnaa.P
open Go Go.Proofs.Ytklmcfpgdfibnaa Go.Proofs.Ytklmcfpgdfibnaa.Eng
set_option linter.unusedVariables false
def RB (os:List AE) (ids:List Int) (k:Nat):Prop:= ∃b∈ids, ∃s:Nat,AA os b=(s:Int)∧Reach os s k
theorem RB.next {os:List AE} {ids:List Int} {k:Nat} {j:Int} (h:RB os ids k) (hj:j∈BE os k):RB os ids j.toNat:=by
 obtain ⟨b,hb,s,hs,hr⟩:=h
 exact ⟨b,hb,s,hs, .step hr hj⟩
theorem RB.lt {os:List AE} {ids:List Int} {k:Nat} (h:RB os ids k):k<8:=by
 obtain ⟨b,_,s,hs,hr⟩:=h
 have:=BG (l:=os) (id:=b) (by omega)
 exact hr.lt (by omega)
theorem RB.snoc {os:List AE} {ids:List Int} {b:Int} {k:Nat}:RB os (ids++[b]) k↔RB os ids k∨ ∃s:Nat,AA os b=(s:Int)∧Reach os s k:=by
 constructor
 ·rintro ⟨x,hx,h⟩
  rcases List.mem_append.1 hx with hx | hx
  ·exact .inl ⟨x,hx,h⟩
  ·have hx:x=b:=by simpa using hx
   subst hx;exact .inr h
 ·rintro (⟨x,hx,h⟩ | h)
  ·exact ⟨x,List.mem_append_left _ hx,h⟩
  ·exact ⟨b,by simp,h⟩
structure MK (os:List AE) (ct:Nat→Int) (ids:List Int) (cs col:List Int):Prop where
 len:cs.length=8∧col.length=8
 f: ∀i,i<8→F64 (gI cs i)
 one: ∀k,k<8→gI col k=1→RB os ids k
 zero: ∀k,k<8→gI col k≠1→gI col k=0∧ ¬RB os ids k
 cnt: ∀i,i<8→gI cs i=w64 (ct i-S os (isC col 1) i)
section
variable {os:List AE} {ct:Nat→Int} {ids:List Int} {cs col cs' col':List Int} {b:Int} {s:Nat}
theorem MK.none (h:MK os ct ids cs col) (hb:AA os b<0):MK os ct (ids++[b]) cs col:=by
 refine ⟨h.len,h.f,fun k hk h1=>RB.snoc.2 (.inl (h.one k hk h1)),fun k hk h1=>⟨(h.zero k hk h1).1,fun hr=> ?_⟩,h.cnt⟩
 rcases RB.snoc.1 hr with hr | ⟨s,hs,_⟩
 ·exact (h.zero k hk h1).2 hr
 ·omega
theorem MK.some (h:MK os ct ids cs col) (hb:AA os b=(s:Int)) (hs:s<8) (p:LZ os 1 (-1) cs col cs' col' s):MK os ct (ids++[b]) cs' col':=by
 have cl: ∀k,Reach os s k→k<8∧gI col' k=1:=fun k hr=>hr.closed (P:=fun k=>k<8∧gI col' k=1) ⟨hs,p.got⟩ fun x hx j hj=>by
  refine ⟨(B5 hj).2.1, ?_⟩
  by_cases h1:gI col x=1
  ·refine p.IX _ (B5 hj).2.1 (Decidable.byContradiction fun hn=> ?_)
   exact (h.zero _ (B5 hj).2.1 hn).2 ((h.one x hx.1 h1).next hj)
  ·exact (p.clo x hx.1 hx.2 h1).2 j hj
 refine ⟨p.len,p.f,fun k hk h1=>RB.snoc.2 ?_,fun k hk h1=> ?_,fun i hi=> ?_⟩
 ·by_cases h0:gI col k=1
  ·exact .inl (h.one k hk h0)
  ·exact .inr ⟨s,hb,(p.clo k hk h1 h0).1⟩
 ·have e:=p.only k hk h1
  have h2:gI col k≠1:=by rw [←e];exact h1
  obtain ⟨z1,z2⟩:=h.zero k hk h2
  refine ⟨by rw [e];exact z1,fun hr=> ?_⟩
  rcases RB.snoc.1 hr with hr | ⟨s',hs',hr⟩
  ·exact z2 hr
  ·have:s'=s:=by omega
   subst this
   exact h1 (cl k hr).2
 ·rw [p.cnt i hi,h.cnt i hi,LP]
  congr 1
  omega
end
open Classical in
noncomputable def NP (os:List AE) (buf:List Int) (k:Nat):Bool:=decide (RB os buf k)
def Out (os:List AE) (ct:Nat→Int) (buf:List Int) (x:Nat):Prop:=x<8∧RB os buf x∧EX os ct (NP os buf) x
open Classical in
noncomputable def HB (os:List AE) (ct:Nat→Int) (buf:List Int) (k:Nat):Bool:=decide (RB os buf k∧ ¬ ∃x,Out os ct buf x∧Reach os x k)
theorem UW {os:List AE} {buf:List Int} {k:Nat}:NP os buf k=true↔RB os buf k:=by unfold NP;simp
theorem SY {os:List AE} {buf:List Int} {k:Nat}:NP os buf k=false↔ ¬RB os buf k:=by unfold NP;simp
theorem HQ {os:List AE} {ct:Nat→Int} {buf:List Int} {k:Nat}:HB os ct buf k=true↔RB os buf k∧ ¬ ∃x,Out os ct buf x∧Reach os x k:=by unfold HB;simp
structure SC (os:List AE) (ct:Nat→Int) (buf:List Int) (ids:List Int) (cs col:List Int):Prop where
 si:SN os ct (NP os buf) cs col
 got: ∀b∈ids, ∀s:Nat,AA os b=(s:Int)→gI col s≠1
 wk: ∀k,k<8→gI col k=2→ ∀j∈BE os k,gI col j.toNat≠1
section
variable {os:List AE} {ct:Nat→Int} {buf ids:List Int} {cs col cs' col':List Int} {b:Int} {s:Nat}
theorem SC.start (h:MK os ct buf cs col):SC os ct buf [] cs col:=by
 refine ⟨⟨h.len,h.f,fun k hk=> ?_,fun k hk hc=> ?_,fun i hi=> ?_,fun k hk hc h0=> ?_,fun k hk h2=> ?_⟩,fun b hb=>by simp at hb,fun k hk h2=> ?_⟩
 ·by_cases h1:gI col k=1
  ·exact .inr (.inl h1)
  ·exact .inl (h.zero k hk h1).1
 ·exact (h.zero k hk fun h1=>SY.1 hc (h.one k hk h1)).1
 ·rw [h.cnt i hi]
  congr 2
  refine jU fun k hk=> ?_
  by_cases h1:gI col k=1
  ·simp [isC,h1]
  ·simp [isC,(h.zero k hk h1).1]
 ·exact absurd (UW.1 hc) (h.zero k hk (by omega)).2
 ·have:=(h.zero k hk (by omega)).1;omega
 ·have:=(h.zero k hk (by omega)).1;omega
theorem SC.none (h:SC os ct buf ids cs col) (hb:AA os b<0):SC os ct buf (ids++[b]) cs col:=
 ⟨h.si,fun x hx s hs=>by
   rcases List.mem_append.1 hx with hx | hx
   ·exact h.got x hx s hs
   ·have hx:x=b:=by simpa using hx
    subst hx;omega,h.wk⟩
theorem SC.some (h:SC os ct buf ids cs col) (hb:AA os b=(s:Int)) (hs:s<8) (p:TA os ct (NP os buf) col cs' col' s):SC os ct buf (ids++[b]) cs' col':=by
 refine ⟨p.si,fun x hx t ht=> ?_,fun k hk h2=> ?_⟩
 ·rcases List.mem_append.1 hx with hx | hx
  ·have:=BG (l:=os) (id:=x) (by omega)
   exact p.ng t (by omega) (h.got x hx t ht)
  ·have hx:x=b:=by simpa using hx
   subst hx
   have:t=s:=by omega
   subst this;exact p.got
 ·rcases p.wk k hk h2 with h3 | h3
  ·exact fun j hj=>p.ng _ (B5 hj).2.1 (h.wk k hk h3 j hj)
  ·exact h3
theorem SC.stop (h:SC os ct buf buf cs col): ∀k,k<8→(gI col k=2↔HB os ct buf k=true):=by
 have ng: ∀k,RB os buf k→gI col k≠1:=fun k hr=>by
  obtain ⟨b,hb,s,hs,hr⟩:=hr
  have hb8:=BG (l:=os) (id:=b) (by omega)
  have:=hr.closed (P:=fun k=>(k<8∧RB os buf k)∧gI col k≠1) ⟨⟨by omega,b,hb,s,hs, .refl⟩,h.got b hb s hs⟩ fun x hx j hj=>by
   refine ⟨⟨(B5 hj).2.1,hx.1.2.next hj⟩, ?_⟩
   rcases h.si.rng x hx.1.1 with h0 | h1 | h2
   ·have:=(h.si.blk x hx.1.1 (UW.2 hx.1.2) h0).2 j hj;omega
   ·exact absurd h1 hx.2
   ·exact h.wk x hx.1.1 h2 j hj
  exact this.2
 intro k hk
 rw [HQ]
 constructor
 ·intro h2
  have hr:RB os buf k:=Classical.byContradiction fun hn=>by
   have:=h.si.out k hk (SY.2 hn);omega
  refine ⟨hr, ?_⟩
  rintro ⟨x,⟨hx8,hx,he⟩,hxk⟩
  have:=hxk.closed (P:=fun k=>(k<8∧RB os buf k)∧gI col k=0) ⟨⟨hx8,hx⟩,by
   rcases h.si.rng x hx8 with h0 | h1 | h2
   ·exact h0
   ·exact absurd h1 (ng x hx)
   ·exact absurd he (h.si.wht x hx8 h2)⟩ fun y hy j hj=>⟨⟨(B5 hj).2.1,hy.1.2.next hj⟩,(h.si.blk y hy.1.1 (UW.2 hy.1.2) hy.2).2 j hj⟩
  omega
 ·rintro ⟨hr,hn⟩
  rcases h.si.rng k hk with h0 | h1 | h2
  ·obtain ⟨x,x8,xc,xe,xr⟩:=(h.si.blk k hk (UW.2 hr) h0).1
   exact absurd ⟨x,⟨x8,UW.1 xc,xe⟩,xr⟩ hn
  ·exact absurd h1 (ng k hr)
  ·exact h2
end
def mk8 (f:Nat→AE):List AE:=(List.range 8).map f
theorem C1 (f:Nat→AE):(mk8 f).length=8:=by simp [mk8]
theorem H5 {f:Nat→AE} {i:Nat} (h:i<8):ob (mk8 f) i=f i:=by
 rw [←DG (by rw [C1];exact h)];simp [mk8]
theorem MG {f g:Nat→AE} (h: ∀i,i<8→f i=g i):mk8 f=mk8 g:=List.map_congr_left fun i hi=>h i (List.mem_range.1 hi)
theorem bV {os:List AE} (h:os.length=8):os=mk8 (ob os):=by
 apply List.ext_getElem (by rw [C1,h])
 intro i h1 h2
 rw [DG h1,DG h2,H5 (by omega)]
theorem ZH {f:Nat→AE} {k:Nat} {v:AE} (hk:k<8):(mk8 f).set k v=mk8 fun i=>if i=k then v else f i:=by
 apply List.ext_getElem (by simp [C1])
 intro i h1 h2
 have hi:i<8:=by rw [C1] at h2;exact h2
 rw [DG h1,DG h2,DS (by rw [C1];exact hk),H5 hi,H5 hi]
theorem jQ {f:Nat→AE} {o:AE} (h:o∈mk8 f): ∃i,i<8∧o=f i:=by
 obtain ⟨i,hi,rfl⟩:=List.mem_map.1 h
 exact ⟨i,List.mem_range.1 hi,rfl⟩
theorem OP {a b:List AE} {id:Int} (hl:a.length=b.length) (h: ∀i,i<a.length→(ob a i).live=(ob b i).live∧(ob a i).field=(ob b i).field):CD a id=CD b id:=by
 unfold CD
 congr 1
 apply List.ext_getElem (by simp [hl])
 intro i h1 h2
 simp only [List.length_map] at h1 h2
 rw [List.getElem_map,List.getElem_map,DG h1,DG h2]
 unfold NF
 rw [(h i h1).1,(h i h1).2]
theorem vT {a b:List AE} {s:Int} (hl:a.length=b.length) (h: ∀i,i<a.length→(ob a i).live=(ob b i).live∧(ob a i).gen=(ob b i).gen∧(ob a i).field=(ob b i).field):inE a s=inE b s:=by
 unfold inE
 by_cases hs:0≤s∧s≤(a.length:Int)-1
 ·have hi:=h s.toNat (by omega)
  rw [hi.1,hi.2.1,OP hl fun i hi=>⟨(h i hi).1,(h i hi).2.2⟩,hl]
 ·rw [if_neg (fun hh=>hs hh.1),if_neg (fun hh=>hs (by rw [hl];exact hh.1))]
def DH (os:List AE) (W:Nat→Bool) (i:Nat):AE:=if W i=true then CA (ob os i).gen else {ob os i with purple:=false}
def GG (os:List AE) (W:Nat→Bool) (i:Nat):AE:=if (DH os W i).live=true then {DH os W i with count:=w64 (w64 ((DH os W i).holds+(DH os W i).roots)+inE (mk8 (DH os W)) i)} else DH os W i
def IH (W:Nat→Bool):Nat→List Int:=pick fun i=>if W i=true then [(i:Int)] else []
def HK (os:List AE) (W:Nat→Bool):Nat→List Int:=pick fun i=>if W i=true then [B2 i (ob os i).gen] else []
theorem qS {α β:Type} {f:Nat→List α} {h:α→β} (n:Nat):(pick f n).map h=pick (fun i=>(f i).map h) n:=by
 induction n with
 | zero=>rfl
 | succ n ih=>simp only [pick,List.map_append,ih]
theorem P5 {α:Type} {f g:Nat→List α} {n:Nat} (h: ∀i,i<n→f i=g i):pick f n=pick g n:=by
 induction n with
 | zero=>rfl
 | succ n ih=>simp only [pick];rw [ih fun i hi=>h i (by omega),h n (by omega)]
theorem aG (os:List AE) (W:Nat→Bool) (n:Nat):(IH W n).map (fun x=>B2 x (ob os x.toNat).gen)=HK os W n:=by
 unfold IH HK
 rw [qS]
 refine P5 fun i hi=> ?_
 split <;> simp
theorem QE {W:Nat→Bool} {n:Nat} {x:Int}:x∈IH W n↔ ∃i:Nat,i<n∧x=i∧W i=true:=by
 unfold IH
 induction n with
 | zero=>simp [pick]
 | succ n ih=>
   simp only [pick,List.mem_append,ih]
   constructor
   ·rintro (⟨i,h1,h2,h3⟩ | h)
    ·exact ⟨i,by omega,h2,h3⟩
    ·split at h
     ·rename_i hw;exact ⟨n,by omega,by simpa using h,hw⟩
     ·simp at h
   ·rintro ⟨i,h1,h2,h3⟩
    by_cases hi:i=n
    ·subst hi;right;rw [if_pos h3];simp [h2]
    ·exact .inl ⟨i,by omega,h2,h3⟩
noncomputable def F4 (os:List AE) (buf:List Int):List AE×List Int:=
 (mk8 (GG os (HB os (fun i=>(ob os i).count) buf)),HK os (HB os (fun i=>(ob os i).count) buf) 8)
end Go.Proofs.Ytklmcfpgdfibnaa.P
namespace Go.Proofs.Ytklmcfpgdfibnaa.P
open Go Go.Proofs.Ytklmcfpgdfibnaa Go.Proofs.Ytklmcfpgdfibnaa.Eng
set_option linter.unusedVariables false
set_option maxHeartbeats 4000000
set_option linter.unusedVariables false
set_option linter.unusedSimpArgs false
attribute [local irreducible] prP gP gE gF AJ ixW ldc ldg ldl stc stg scW mkW apW A6 cl2 BF CM CB
variable {w0:World}
theorem lI {os:List AE} {i:Nat} (hi:i<os.length):(os.take (i+1)).map (·.count)=(os.take i).map (·.count)++[(ob os i).count]:=by
 rw [List.take_succ_eq_append_getElem hi,List.map_append,DG hi];rfl
theorem TN {os:List AE} {b c d:List T} {K:J2} (hol:os.length=8) (h:K [] [tI (os.map (·.count)),tI (List.replicate 8 0)]):cl2 ⟨Try.prog,w0⟩ 155 D6.sg [] [tR tO os,b,c,d] K:=by
 refine D6.cl2 ?_
 unfold D6.txt
 simp only [AN,AV,AK,AM,AU,AH,AL,AW,AO,AR,AS,AQ,AT,AP,BQ,BU,BY,BX,BZ,BW,BT,A7,BA,BB,A9,BC,A8]
 refine BK (fun i=>[iv i]) (fun i=>[tI ((os.take i).map (·.count)),tI (List.replicate i 0)]) os.length (fun _=>True) rfl rfl trivial (fun R i hi hP hR=> ?_)
 have hln:((os.take i).map (·.count)).length=i:=by simp;omega
 have hl2:(List.replicate i (0:Int)).length=i:=List.length_replicate
 simp only [AN,AV,AK,AM,AU,AH,AL,AW,AO,AR,AS,AQ,AT,AP,BQ,BU,BY,BX,BZ,BW,BT,A7,BA,BB,A9,BC,A8]
 refine A4 (BH (NV (fun hlt=> ?_) fun hge=> ?_))
 ·have hlt':i<os.length:=by omega
  replace hR:=hR hlt' trivial
  rw [lI hlt', ←HV,List.replicate_succ', ←HV] at hR
  refine A4 (GC hlt rfl (FQ (by omega) ?_))
  exact AG hlt' (KC (v:=I (ob os i).count) hlt' (by decide) rfl (GN rfl (by omega) (GN rfl (by omega) (BD (by omega) hR))))
 ·have:i=os.length:=by omega
  subst this
  refine F7 hge rfl (B7 ?_)
  rw [List.take_length,hol];exact h
theorem XE {cs col:List Int} {W:Nat→Bool} {K:J2} (hl:col.length=8) (hw: ∀k,k<8→(gI col k=2↔W k=true)) (h:K [] [tI (IH W 8)]):cl2 ⟨Try.prog,w0⟩ 158 FK.sg [] [tI cs,tI col] K:=by
 refine FK.cl2 ?_
 unfold FK.txt
 simp only [AN,AV,AK,AM,AU,AH,AL,AW,AO,AR,AS,AQ,AT,AP,BQ,BU,BY,BX,BZ,BW,BT,A7,BA,BB,A9,BC,A8]
 refine BK (fun i=>[iv i]) (fun i=>[tI (IH W i)]) col.length (fun _=>True) rfl rfl trivial (fun R i hi hP hR=> ?_)
 have hln:(IH W i).length≤i:=MQ (fun i=>by split <;> simp) i
 simp only [AN,AV,AK,AM,AU,AH,AL,AW,AO,AR,AS,AQ,AT,AP,BQ,BU,BY,BX,BZ,BW,BT,A7,BA,BB,A9,BC,A8]
 refine A4 (AY (fun hlt=> ?_) fun hge=> ?_)
 ·have hlt:i<col.length:=by omega
  replace hR:=hR hlt trivial
  have hwi:=hw i (by omega)
  refine BV (AG hlt (ldI hlt (BM (AY (fun h2=> ?_) fun h2=> ?_))))
  ·have e:IH W (i+1)=IH W i++[(i:Int)]:=by show IH W i++(if W i=true then [(i:Int)] else [])=_;rw [if_pos (hwi.1 h2)]
   rw [e, ←HV] at hR
   exact GN rfl (by omega) (BD (by omega) hR)
  ·have e:IH W (i+1)=IH W i:=by show IH W i++(if W i=true then [(i:Int)] else [])=_;rw [if_neg (fun hh=>h2 (hwi.2 hh)),List.append_nil]
   rw [e] at hR
   exact BD (by omega) hR
 ·have:i=col.length:=by omega
  subst this
  rw [hl];exact h
theorem MK.start {os:List AE} (hol:os.length=8) (hc: ∀o∈os,F64 o.count):MK os (fun i=>(ob os i).count) [] (os.map (·.count)) (List.replicate 8 0):=by
 have hz: ∀k,k<8→gI (List.replicate 8 (0:Int)) k=0:=fun k hk=>by unfold gI;rw [List.getD_eq_getElem?_getD,List.getElem?_replicate,if_pos hk];rfl
 have hcs: ∀i,i<8→gI (os.map (·.count)) i=(ob os i).count:=fun i hi=>by
  rw [←EN (by simp;omega),List.getElem_map,DG (by omega)]
 have hF: ∀i,i<8→F64 (ob os i).count:=fun i hi=>hc _ (KF (by omega))
 refine ⟨⟨by simp [hol],by simp⟩,fun i hi=>by rw [hcs i hi];exact hF i hi,fun k hk h1=> ?_,fun k hk h1=>⟨hz k hk, ?_⟩,fun i hi=> ?_⟩
 ·rw [hz k hk] at h1;omega
 ·rintro ⟨b,hb,_⟩;simp at hb
 ·have:S os (isC (List.replicate 8 0) 1) i=0:=IK fun k hk=>by unfold isC;rw [hz k hk];rfl
  rw [hcs i hi,this,Int.sub_zero,H4 (hF i hi)]
theorem WK (os:List AE) (W:Nat→Bool) (i:Nat):(GG os W i).live=(DH os W i).live∧(GG os W i).gen=(DH os W i).gen∧(GG os W i).field=(DH os W i).field:=by
 unfold GG;split <;> exact ⟨rfl,rfl,rfl⟩
theorem pM {os:List AE} (hof: ∀o∈os,OF o) (hol:os.length=8) (W:Nat→Bool) {i:Nat} (hi:i<8):(DH os W i).field.length=3:=by
 unfold DH
 split
 ·rfl
 ·exact (hof _ (KF (by omega))).len
theorem nD {a b c d e f g:List T} {l:List (List T)}:nxc (a::b::c::d::e::f::g::l) 6=g:=rfl
theorem WZ {h:Hp} {K:J2} (st:St h) (hc: ∀o∈h.AD,F64 o.count) (hK:K [] [tR tO (F4 h.AD h.buffer).1,tR tW h.B6,[],tS h.sites,tI (F4 h.AD h.buffer).2]):cl2 ⟨Try.prog,w0⟩ 127 EW.sg [] (trees h) K:=by
 refine EW.cl2 ?_
 unfold EW.txt
 refine JX st.fits ?_
 obtain ⟨os,ws,buf,ss⟩:=h
 have hol:os.length=8:=st.ol
 have hof: ∀o∈os,OF o:=st.of
 have hb:buf.length≤100:=st.bl
 have hbf: ∀x∈buf,F64 x:=st.bf
 simp only at hc hK
 simp only [trees]
 obtain ⟨ct,hct⟩: ∃ct:Nat→Int,ct=fun i=>(ob os i).count:=⟨_,rfl⟩
 obtain ⟨W,hW⟩: ∃W,W=HB os ct buf:=⟨_,rfl⟩
 unfold F4 at hK
 rw [←hct, ←hW] at hK
 simp only [AN,AV,AK,AM,AU,AH,AL,AW,AO,AR,AS,AQ,AT,AP,BQ,BU,BY,BX,BZ,BW,BT,A7,BA,BB,A9,BC,A8]
 refine C0 (F9 (by omega) (TN hol ?_))
 refine G7 (α:=Nat×List Int×List Int) (fun q=>[iv q.1]) (fun q=>[[],tR tO os,tR tW ws,tI buf,tS ss,tI q.2.1,tI q.2.2]) (fun q=>buf.length-q.1) (fun q=>q.1≤buf.length∧MK os ct (buf.take q.1) q.2.1 q.2.2) (0,os.map (·.count),List.replicate 8 0) rfl rfl ⟨Nat.zero_le _,by rw [hct];exact MK.start hol hc⟩ (fun R q hq hR=> ?_)
 obtain ⟨i,cs,col⟩:=q
 obtain ⟨hi,mk⟩:=hq
 simp only at hi mk
 simp only [AN,AV,AK,AM,AU,AH,AL,AW,AO,AR,AS,AQ,AT,AP,BQ,BU,BY,BX,BZ,BW,BT,A7,BA,BB,A9,BC,A8]
 simp only [nD]
 refine A4 (AY (fun hlt=> ?_) fun hge=> ?_)
 ·have hlt:i<buf.length:=by omega
  have hx:=hbf _ (ER hlt)
  have nx:=fun cs' col' (m:MK os ct (buf.take i++[gI buf i]) cs' col')=>hR (i+1,cs',col') ⟨by simp only;omega,by simp only;rw [List.take_succ_eq_append_getElem hlt,EN hlt];exact m⟩ (by simp only;omega)
  refine AG hlt (ldI hlt (CL hx (by omega) (TQ hol hof mk.len.1 mk.len.2 mk.f (fun hn=> ?_) fun s hs s8 cs' col' p=> ?_)))
  ·exact BD (by omega) (nx _ _ (mk.none hn))
  ·exact BD (by omega) (nx _ _ (mk.some hs s8 p))
 have:i=buf.length:=by omega
 subst this
 rw [List.take_length] at mk
 refine G7 (α:=Nat×List Int×List Int) (fun q=>[iv q.1]) (fun q=>[[],tR tO os,tR tW ws,tI buf,tS ss,tI q.2.1,tI q.2.2]) (fun q=>buf.length-q.1) (fun q=>q.1≤buf.length∧SC os ct buf (buf.take q.1) q.2.1 q.2.2) (0,cs,col) rfl rfl ⟨Nat.zero_le _,SC.start mk⟩ (fun R q hq hR=> ?_)
 obtain ⟨i,cs,col⟩:=q
 obtain ⟨hi,sc⟩:=hq
 simp only at hi sc
 simp only [AN,AV,AK,AM,AU,AH,AL,AW,AO,AR,AS,AQ,AT,AP,BQ,BU,BY,BX,BZ,BW,BT,A7,BA,BB,A9,BC,A8]
 simp only [nD]
 refine A4 (AY (fun hlt=> ?_) fun hge=> ?_)
 ·have hlt:i<buf.length:=by omega
  have hx:=hbf _ (ER hlt)
  have nx:=fun cs' col' (m:SC os ct buf (buf.take i++[gI buf i]) cs' col')=>hR (i+1,cs',col') ⟨by simp only;omega,by simp only;rw [List.take_succ_eq_append_getElem hlt,EN hlt];exact m⟩ (by simp only;omega)
  refine AG hlt (ldI hlt (CL hx (by omega) (TW hol hof sc.si (fun hn=> ?_) fun s hs s8 cs' col' p=> ?_)))
  ·exact BD (by omega) (nx _ _ (sc.none hn))
  ·exact BD (by omega) (nx _ _ (sc.some hs s8 p))
 have:i=buf.length:=by omega
 subst this
 rw [List.take_length] at sc
 have wh:=sc.stop
 rw [←hW] at wh
 refine XE sc.si.len.2 wh ?_
 clear hR sc mk
 have hwn:(IH W 8).length≤8:=MQ (fun i=>by split <;> simp) 8
 refine BK (fun i=>[iv i]) (fun i=>[tI (HK os W i),tI (IH W 8),tR tO (mk8 fun k=>if k<i then DH os W k else ob os k),tR tW ws,tI buf,tS ss]) 8 (fun _=>True) rfl ?_ trivial (fun R i hi hP hR=> ?_)
 ·simp only [Nat.not_lt_zero,if_false]
  rw [←bV hol];rfl
 have hln:(HK os W i).length≤i:=MQ (fun i=>by split <;> simp) i
 simp only [AN,AV,AK,AM,AU,AH,AL,AW,AO,AR,AS,AQ,AT,AP,BQ,BU,BY,BX,BZ,BW,BT,A7,BA,BB,A9,BC,A8]
 simp only [nD,C1]
 refine A4 (AY (fun hlt=> ?_) fun hge=> ?_)
 ·have hlt:i<8:=by omega
  replace hR:=hR hlt trivial
  have hml:i<(mk8 fun k=>if k<i then DH os W k else ob os k).length:=by rw [C1];exact hlt
  have hoi:(mk8 fun k=>if k<i then DH os W k else ob os k)[i]=ob os i:=by rw [DG hml,H5 hlt,if_neg (by omega)]
  have hset: ∀v,v=DH os W i→(mk8 fun k=>if k<i then DH os W k else ob os k).set i v=mk8 fun k=>if k<i+1 then DH os W k else ob os k:=fun v hv=>by
   rw [ZH hlt]
   refine MG fun k hk=> ?_
   by_cases h1:k=i
   ·subst h1;rw [if_pos rfl,if_pos (by omega),hv]
   ·rw [if_neg h1]
    by_cases h2:k<i
    ·rw [if_pos h2,if_pos (by omega)]
    ·rw [if_neg h2,if_neg (by omega)]
  generalize (mk8 fun k=>if k<i then DH os W k else ob os k)=M at hml hoi hset ⊢
  have hM8:M.length=8:=by have:=congrArg List.length (hset (DH os W i) rfl);rw [List.length_set,C1] at this;exact this
  have io:i<os.length:=by omega
  refine BV (AG hlt ?_)
  refine SJ (f:=tO) (c:=7) (y:={M[i] with purple:=false}) hml (by decide) rfl rfl ?_
  rw [hoi]
  refine M7 (by omega) (AY (fun hm=> ?_) fun hm=> ?_)
  ·have hw:W i=true:=by
    obtain ⟨k,_,h2,h3⟩:=QE.1 hm
    have:k=i:=by omega
    subst this;exact h3
   have ef:HK os W (i+1)=HK os W i++[B2 i (ob os i).gen]:=by show HK os W i++(if W i=true then [B2 i (ob os i).gen] else [])=_;rw [if_pos hw]
   rw [ef, ←HV, ←hset (CA (ob os i).gen) (by unfold DH;rw [if_pos hw])] at hR
   refine AG io (KC (v:=I (ob os i).gen) io (by decide) rfl (IP (GN rfl (by omega) (AG io (KC (v:=I (ob os i).gen) io (by decide) rfl (IB ?_))))))
   simp only [AN,AV,AK,AM,AU,AH,AL,AW,AO,AR,AS,AQ,AT,AP,BQ,BU,BY,BX,BZ,BW,BT,A7,BA,BB,A9,BC,A8]
   simp only [List.length_set,hM8]
   refine AG hlt (S0 (f:=tO) (by rw [List.length_set];exact hml) (y:=CA (ob os i).gen) rfl ?_)
   rw [List.set_set]
   exact BD (by omega) hR
  ·have hw: ¬W i=true:=fun hw=>hm (QE.2 ⟨i,hlt,rfl,hw⟩)
   have ef:HK os W (i+1)=HK os W i:=by show HK os W i++(if W i=true then [B2 i (ob os i).gen] else [])=_;rw [if_neg hw,List.append_nil]
   rw [ef, ←hset {ob os i with purple:=false} (by unfold DH;rw [if_neg hw])] at hR
   exact BD (by omega) hR
 have:i=8:=by omega
 subst this
 rw [MG (g:=DH os W) fun k hk=>if_pos hk]
 clear hR
 refine BK (fun i=>[iv i]) (fun i=>[tI (HK os W 8),tR tO (mk8 fun k=>if k<i then GG os W k else DH os W k),tR tW ws,tI buf,tS ss]) 8 (fun _=>True) rfl rfl trivial (fun R i hi hP hR=> ?_)
 simp only [AN,AV,AK,AM,AU,AH,AL,AW,AO,AR,AS,AQ,AT,AP,BQ,BU,BY,BX,BZ,BW,BT,A7,BA,BB,A9,BC,A8]
 simp only [C1]
 refine A4 (AY (fun hlt=> ?_) fun hge=> ?_)
 ·have hlt:i<8:=by omega
  replace hR:=hR hlt trivial
  have hml:i<(mk8 fun k=>if k<i then GG os W k else DH os W k).length:=by rw [C1];exact hlt
  have hoi:(mk8 fun k=>if k<i then GG os W k else DH os W k)[i]=DH os W i:=by rw [DG hml,H5 hlt,if_neg (by omega)]
  have hset: ∀v,v=GG os W i→(mk8 fun k=>if k<i then GG os W k else DH os W k).set i v=mk8 fun k=>if k<i+1 then GG os W k else DH os W k:=fun v hv=>by
   rw [ZH hlt]
   refine MG fun k hk=> ?_
   by_cases h1:k=i
   ·subst h1;rw [if_pos rfl,if_pos (by omega),hv]
   ·rw [if_neg h1]
    by_cases h2:k<i
    ·rw [if_pos h2,if_pos (by omega)]
    ·rw [if_neg h2,if_neg (by omega)]
  have hin:inE (mk8 fun k=>if k<i then GG os W k else DH os W k) i=inE (mk8 (DH os W)) i:=by
   refine vT (by rw [C1,C1]) fun k hk=> ?_
   rw [C1] at hk
   rw [H5 hk,H5 hk]
   by_cases h2:k<i
   ·rw [if_pos h2];exact WK os W k
   ·rw [if_neg h2];exact ⟨rfl,rfl,rfl⟩
  have hlen3: ∀o∈(mk8 fun k=>if k<i then GG os W k else DH os W k),(o.field.length:Int)≤1048576:=fun o ho=>by
   obtain ⟨k,hk,rfl⟩:=jQ ho
   have hm:=pM hof hol W hk
   by_cases h2:k<i
   ·rw [if_pos h2,(WK os W k).2.2];omega
   ·rw [if_neg h2];omega
  generalize (mk8 fun k=>if k<i then GG os W k else DH os W k)=M at hml hoi hset hin hlen3 ⊢
  have hM8:M.length=8:=by have:=congrArg List.length (hset (GG os W i) rfl);rw [List.length_set,C1] at this;exact this
  have hMs:M=M.set i (DH os W i):=by rw [←hoi,List.set_getElem_self]
  refine BV (AG hlt ?_)
  cases hv:(DH os W i).live with
  | true=>
    refine JT (f:=tO) (v:= .bool true) hml (by rw [hoi];simp [tO,hv]) (CU (AG hlt ?_))
    refine LB (f:=tO) (v:=I (DH os W i).holds) hml (by decide) (by rw [hoi];rfl) (AG hlt ?_)
    refine LB (f:=tO) (v:=I (DH os W i).roots) hml (by decide) (by rw [hoi];rfl) (I4 ?_)
    refine OE ⟨by omega,by omega⟩ (by rw [hM8];decide) hlen3 ?_
    rw [hin]
    refine I4 (AG hlt ?_)
    rw [hMs]
    refine K4 hml ?_
    rw [hset _ (by unfold GG;rw [if_pos hv])]
    exact BD (by omega) hR
  | false=>
    refine JT (f:=tO) (v:= .bool false) hml (by rw [hoi];simp [tO,hv]) (B7 ?_)
    rw [hMs,hset _ (by unfold GG;rw [if_neg (by rw [hv];decide)])]
    exact BD (by omega) hR
 ·have:i=8:=by omega
  subst this
  rw [MG (g:=GG os W) fun k hk=>if_pos hk]
  exact hK
end Go.Proofs.Ytklmcfpgdfibnaa.P
namespace Go.Proofs.Ytklmcfpgdfibnaa.P
open Go Go.Proofs.Ytklmcfpgdfibnaa Go.Proofs.Ytklmcfpgdfibnaa.Eng
set_option linter.unusedVariables false
set_option maxHeartbeats 4000000
set_option linter.unusedVariables false
set_option linter.unusedSimpArgs false
attribute [local irreducible] prP gP gE gF AJ ixW ldc ldg ldl stc stg scW mkW apW A6 cl2 BF CM CB
variable {w0:World}
noncomputable def CG (h:Hp) (o:Op5):Hp×An:=
 if o.kind=1 then (⟨(GH h.AD h.sites o.site).1,h.B6,h.buffer,(GH h.AD h.sites o.site).2.1⟩,(GH h.AD h.sites o.site).2.2) else
 if o.kind=2∨o.kind=3∨o.kind=5∨o.kind=6 then (⟨(FH h.AD h.buffer o.kind o.a).1,h.B6,(FH h.AD h.buffer o.kind o.a).2.1,h.sites⟩,(FH h.AD h.buffer o.kind o.a).2.2) else
 if o.kind=4 then (⟨(HJ h.AD h.buffer o.a o.b o.c).1,h.B6,(HJ h.AD h.buffer o.a o.b o.c).2.1,h.sites⟩,(HJ h.AD h.buffer o.a o.b o.c).2.2) else
 if o.kind=7 then (⟨h.AD,(MR h.AD h.B6 o.a).1,h.buffer,h.sites⟩,(MR h.AD h.B6 o.a).2) else
 if o.kind=8∨o.kind=9 then (⟨h.AD,(HW h.AD h.B6 o.kind o.a).1,h.buffer,h.sites⟩,(HW h.AD h.B6 o.kind o.a).2) else
 if o.kind=10 then (⟨(F4 h.AD h.buffer).1,h.B6,[],h.sites⟩,⟨0,0,(F4 h.AD h.buffer).2⟩) else (h,⟨2,0,[]⟩)
theorem V6 {α:Type} [Inhabited α] {l:List α} (h: ∀i (hi:i<l.length),l[i]∉l.take i):l.Nodup:=by
 refine List.pairwise_iff_getElem.2 fun i j hi hj hij he=>h j hj ?_
 rw [←he]
 exact List.mem_take_iff_getElem.2 ⟨i,by omega,rfl⟩
theorem few {n:Nat}: ∀{l:List Int} (g:Int→Nat),l.Nodup→(∀x∈l,g x<n)→(∀x∈l, ∀y∈l,g x=g y→x=y)→l.length≤n:=by
 induction n with
 | zero=>
   intro l g _ h _
   cases l with
   | nil=>simp
   | cons x l=>exact absurd (h x (by simp)) (by omega)
 | succ n ih=>
   intro l g hn h hi
   by_cases hx: ∃x∈l,g x=n
   ·obtain ⟨x,hx,hg⟩:=hx
    have:=ih (l:=l.erase x) g (hn.erase x) (fun y hy=>by
     have hy':=List.mem_of_mem_erase hy
     have:=h y hy'
     have hne:g y≠n:=fun he=>by
      have:y=x:=hi y hy' x hx (by omega)
      subst this
      exact (List.Nodup.not_mem_erase hn) hy
     omega) fun y hy z hz=>hi y (List.mem_of_mem_erase hy) z (List.mem_of_mem_erase hz)
    rw [List.length_erase_of_mem hx] at this
    omega
   ·have:=ih g hn (fun y hy=>by
     have:=h y hy
     have:g y≠n:=fun he=>hx ⟨y,hy,he⟩
     omega) hi
    omega
theorem BO.bnd {h:Hp} (hk:BO h):h.buffer.Nodup:=V6 fun i hi=>by rw [EN hi];exact (hk.buf i hi).2
theorem BO.VD {h:Hp} (hk:BO h) {x:Int} (hx:x∈h.buffer):0≤AA h.AD x:=by
 obtain ⟨i,hi,rfl⟩:=List.getElem_of_mem hx
 rw [EN hi];exact (hk.buf i hi).1
theorem UU {l:List AE} {x y:Int} (hx:0≤AA l x) (hy:0≤AA l y) (h:AA l x=AA l y):x=y:=by
 have a:=BG hx;have b:=BG hy
 have e1:=a.2.2.2.2.2;have e2:=b.2.2.2.2.2
 rw [h] at e1
 omega
theorem BO.Bu {h:Hp} (hk:BO h):h.buffer.length≤8:=
 few (fun x=>(AA h.AD x).toNat) hk.bnd (fun x hx=>(BG (hk.VD hx)).2.2.2.1) fun x hx y hy he=>UU (hk.VD hx) (hk.VD hy) (by have:=hk.VD hx;have:=hk.VD hy;omega)
theorem BO.st {h:Hp} (hk:BO h) (hn:V5 h):St h:=by
 refine ⟨hk.ol,hk.wl,hk.sites.len,by have:=hk.Bu;omega,fun o ho=> ?_,fun s hs=> ?_,hn.weak,hn.buf⟩
 ·obtain ⟨i,hi,rfl⟩:=List.getElem_of_mem ho
  have hi8:i<8:=by have:=hk.ol;omega
  have:=hn.obj _ ho
  rw [DG hi] at this ⊢
  exact ⟨this.1,(hk.obj i hi8).len,this.2.2.2.2.2⟩
 ·obtain ⟨i,hi,rfl⟩:=List.getElem_of_mem hs
  have:=(hk.sites.sz i hi).2
  rw [PV hi];omega
theorem BO.hr {h:Hp} (hk:BO h) (i:Nat):(0≤(ob h.AD i).holds∧(ob h.AD i).holds≤20)∧(0≤(ob h.AD i).roots∧(ob h.AD i).roots≤20):=by
 by_cases hi:i<8
 ·cases hv:(ob h.AD i).live with
  | true=>exact ⟨((hk.obj i hi).lv hv).2.2.1,((hk.obj i hi).lv hv).2.2.2.1⟩
  | false=>have:=(hk.obj i hi).dead hv;omega
 ·have:ob h.AD i=⟨false,0,0,0,0,0,[],false⟩:=by unfold ob;rw [List.getD_eq_getElem?_getD,List.getElem?_eq_none (by have:=hk.ol;omega)];rfl
  rw [this];simp
theorem BO.fd {h:Hp} (hk:BO h) (i:Nat): ∀f∈(ob h.AD i).field,f= -1∨0≤f:=by
 intro f hf
 by_cases hi:i<8
 ·obtain ⟨j,hj,rfl⟩:=List.getElem_of_mem hf
  have ho:=hk.obj i hi
  by_cases h1:gI (ob h.AD i).field j= -1
  ·left;rw [EN hj];exact h1
  ·right
   have:=BG (ho.lead j (by have:=ho.len;omega) h1).2
   rw [EN hj];omega
 ·have:ob h.AD i=⟨false,0,0,0,0,0,[],false⟩:=by unfold ob;rw [List.getD_eq_getElem?_getD,List.getElem?_eq_none (by have:=hk.ol;omega)];rfl
  rw [this] at hf;simp at hf
theorem kinds (k:Int):k=1∨(k=2∨k=3∨k=5∨k=6)∨k=4∨k=7∨(k=8∨k=9)∨k=10∨ ¬(k=1∨k=2∨k=3∨k=4∨k=5∨k=6∨k=7∨k=8∨k=9∨k=10):=by omega
end Go.Proofs.Ytklmcfpgdfibnaa.P
namespace Go.Proofs.Ytklmcfpgdfibnaa.P
open Go Go.Proofs.Ytklmcfpgdfibnaa Go.Proofs.Ytklmcfpgdfibnaa.Eng
set_option linter.unusedVariables false
set_option maxHeartbeats 4000000
set_option linter.unusedVariables false
set_option linter.unusedSimpArgs false
attribute [local irreducible] prP gP gE gF AJ ixW ldc ldg ldl stc stg scW mkW apW A6 cl2 BF CM CB
variable {w0:World}
open Classical in
noncomputable def NK (h:Hp) (o:Op5):Hp×An:=if BO h then CG h o else (h,⟨2,0,[]⟩)
theorem ON {h:Hp} {o:Op5} (hk:BO h):NK h o=CG h o:=by unfold NK;rw [if_pos hk]
theorem dI {h:Hp} {o:Op5} (hk: ¬BO h):NK h o=(h,⟨2,0,[]⟩):=by unfold NK;rw [if_neg hk]
theorem RX {h:Hp} {o:Op5} {K:J2} (hf:Fits h) (hn:V5 h) (ha:F64 o.a) (hc:F64 o.c) (hK:K [I (NK h o).2.code,I (NK h o).2.val] (trees (NK h o).1++[tI (NK h o).2.freed])):cl2 ⟨Try.prog,w0⟩ 76 FC.sg [I o.kind,I o.a,I o.b,I o.c, .string o.site] (trees h) K:=by
 refine FC.cl2 ?_
 unfold FC.txt
 refine JX hf (XD hf hn (fun hk=>EJ (B7 ?_)) fun hk=>EJ (CU ?_))
 rotate_left
 ·rw [dI hk] at hK
  exact hK
 rw [ON hk] at hK
 have st:=hk.st hn
 have hr:=hk.hr
 have hfd:=hk.fd
 have hss:=hk.sites
 have hcn: ∀o∈h.AD,F64 o.count:=fun o ho=>(hn.obj o ho).2.2.2.2.1
 clear hf hk
 obtain ⟨kd,a,b,c,s⟩:=o
 have hol:h.AD.length=8:=st.ol
 simp only at ha hc hr
 unfold CG at hK
 simp only at hK
 have hold:=fun {K:J2} (hkd:kd=2∨kd=3∨kd=5∨kd=6)=>XB (w0:=w0) (h:=h) (kind:=kd) (id:=a) (b:=b) (c:=c) (s:=s) (K:=K) st ha hkd hr
 have store:=fun {K:J2}=>V1 (w0:=w0) (h:=h) (a0:=kd) (a1:=a) (a2:=b) (a3:=c) (s:=s) (K:=K) st ha hc hfd
 have lE:=fun {K:J2}=>WZ (w0:=w0) (h:=h) (K:=K) st hcn
 have weak:=fun {K:J2}=>XF (w0:=w0) (os:=h.AD) (ws:=h.B6) (cc:=tI h.buffer) (d:=tS h.sites) (kind:=kd) (k:=a) (b:=b) (c:=c) (s:=s) (K:=K) hol st.wl ha st.wf
 simp only [trees] at hold store lE ⊢
 rcases kinds kd with rfl | hkd | rfl | rfl | hkd | rfl | hkd
 ·rw [if_pos rfl] at hK
  exact BM (FQ rfl (VU hol hss hK))
 ·rw [if_neg (by omega),if_pos hkd] at hK
  replace hold:=fun {K:J2}=>hold (K:=K) hkd
  rcases hkd with rfl | rfl | rfl | rfl
  all_goals
   repeat' (first | refine BV ?_ | refine CU ?_ | refine B7 ?_ | refine BM ?_ | simp only [AN,AV,AK,AM,AU,AH,AL,AW,AO,AR,AS,AQ,AT,AP,BQ,BU,BY,BX,BZ,BW,BT,A7,BA,BB,A9,BC,A8])
   exact hold hK
 ·simp only [if_neg (show ¬(4:Int)=1 by decide),if_neg (show ¬((4:Int)=2∨(4:Int)=3∨(4:Int)=5∨(4:Int)=6) by decide),if_true] at hK
  repeat' (first | refine BV ?_ | refine CU ?_ | refine B7 ?_ | refine BM ?_ | simp only [AN,AV,AK,AM,AU,AH,AL,AW,AO,AR,AS,AQ,AT,AP,BQ,BU,BY,BX,BZ,BW,BT,A7,BA,BB,A9,BC,A8])
  exact store hK
 ·simp only [if_neg (show ¬(7:Int)=1 by decide),if_neg (show ¬((7:Int)=2∨(7:Int)=3∨(7:Int)=5∨(7:Int)=6) by decide),if_neg (show ¬(7:Int)=4 by decide),if_true] at hK
  repeat' (first | refine BV ?_ | refine CU ?_ | refine B7 ?_ | refine BM ?_ | simp only [AN,AV,AK,AM,AU,AH,AL,AW,AO,AR,AS,AQ,AT,AP,BQ,BU,BY,BX,BZ,BW,BT,A7,BA,BB,A9,BC,A8])
  exact weak (fun _=>hK) (fun hh=>absurd rfl hh)
 ·rw [if_neg (by omega),if_neg (by omega),if_neg (by omega),if_neg (by omega),if_pos hkd] at hK
  rcases hkd with rfl | rfl
  all_goals
   repeat' (first | refine BV ?_ | refine CU ?_ | refine B7 ?_ | refine BM ?_ | simp only [AN,AV,AK,AM,AU,AH,AL,AW,AO,AR,AS,AQ,AT,AP,BQ,BU,BY,BX,BZ,BW,BT,A7,BA,BB,A9,BC,A8])
   exact weak (fun hh=>absurd hh (by decide)) (fun _=>hK)
 ·simp only [if_neg (show ¬(10:Int)=1 by decide),if_neg (show ¬((10:Int)=2∨(10:Int)=3∨(10:Int)=5∨(10:Int)=6) by decide),if_neg (show ¬(10:Int)=4 by decide),if_neg (show ¬(10:Int)=7 by decide),if_neg (show ¬((10:Int)=8∨(10:Int)=9) by decide),if_true] at hK
  repeat' (first | refine BV ?_ | refine CU ?_ | refine B7 ?_ | refine BM ?_ | simp only [AN,AV,AK,AM,AU,AH,AL,AW,AO,AR,AS,AQ,AT,AP,BQ,BU,BY,BX,BZ,BW,BT,A7,BA,BB,A9,BC,A8])
  exact lE hK
 ·rw [if_neg (by omega),if_neg (by omega),if_neg (by omega),if_neg (by omega),if_neg (by omega),if_neg (by omega)] at hK
  repeat' (first | refine BV ?_ | refine F9 (by first | with_reducible assumption | omega) ?_ | refine BM ?_ | simp only [AN,AV,AK,AM,AU,AH,AL,AW,AO,AR,AS,AQ,AT,AP,BQ,BU,BY,BX,BZ,BW,BT,A7,BA,BB,A9,BC,A8])
  all_goals first | exact hK | (exfalso;omega)
end Go.Proofs.Ytklmcfpgdfibnaa.P
namespace Go.Proofs.Ytklmcfpgdfibnaa.P
open Go Go.Proofs.Ytklmcfpgdfibnaa Go.Proofs.Ytklmcfpgdfibnaa.Eng
set_option linter.unusedVariables false
def okE (n:Int) (l:List ByteArray) (a b c d:Int) (s:ByteArray) (k v:Int) (xs:List Int):Bool:=(xD a b c d s&&zV k v xs)&&xZ n l
def Fx (q:ByteArray×Int) (x:Int):ByteArray×Int:=(q.1++SI (x-q.2),x)
def base (n:Int) (l:List ByteArray) (a b c d:Int) (s:ByteArray) (k v:Int) (m:Nat):ByteArray:=((((((SI a++SI (b-n))++SI c)++SI (d-b))++nZ l s)++V k)++SI (v-b))++V m
def stE (p:ByteArray×Int) (xs:List Int) (i:Nat):ByteArray×Int:=(xs.take i).foldl Fx p
theorem qL {p:ByteArray×Int} {xs:List Int} {i:Nat} (hi:i<xs.length):stE p xs (i+1)=Fx (stE p xs i) xs[i]:=by
 rw [stE,List.take_succ_eq_append_getElem hi,List.foldl_append];rfl
theorem oO {p:ByteArray×Int} {xs:List Int} (hp:OG p.2=true) (hx:xs.all OG=true): ∀i,i≤xs.length→OG (stE p xs i).2=true∧(stE p xs i).1.size≤p.1.size+7*i
 | 0,_=>⟨hp,Nat.le_refl _⟩
 | i+1,hi=>by
   obtain ⟨h1,h2⟩:=oO hp hx i (by omega)
   rw [qL (by omega)]
   refine ⟨List.all_eq_true.1 hx _ (List.getElem_mem _), ?_⟩
   have:=P6 (zg (xs[i]-(stE p xs i).2))
   simp only [Fx,ByteArray.size_append,SI];omega
theorem gB (l:List ByteArray) (s:ByteArray):(nZ l s).size≤22:=by
 unfold nZ;split
 ·have:=P6 (at_ l s+1);omega
 ·have h1:=P6 0
  have h2:=tB s
  rw [ByteArray.size_append];omega
theorem RQ (n:Int):(SI n).size≤7:=P6 _
def iJ (n:Int) (l:List ByteArray) (a b c d:Int) (s:ByteArray) (k v:Int) (xs:List Int):ByteArray×Int×List ByteArray:=
 if okE n l a b c d s k v xs then ((stE (base n l a b c d s k v xs.length,b) xs xs.length).1,b,Ac l s) else (⟨#[]⟩,n,l)
theorem dB {n:Int} {l:List ByteArray} {a b c d:Int} {s:ByteArray} {k v:Int} {xs:List Int} (h:okE n l a b c d s k v xs=true):OG a=true∧OG b=true∧OG c=true∧OG d=true∧OG v=true∧OG n=true∧xs.all OG=true∧xs.length≤8∧(0≤k∧k≤6)∧l.length≤400:=by
 simp only [okE,xD,zV,xZ,Bool.and_eq_true,decide_eq_true_eq] at h
 exact ⟨h.1.1.1.1.1.1,h.1.1.1.1.1.2,h.1.1.1.1.2,h.1.1.1.2,h.1.2.1.1.2,h.2.1.1,h.1.2.2,h.1.2.1.2,hZ.1 h.1.2.1.1.1,h.2.1.2⟩
theorem kK (n:Int) (l:List ByteArray) (a b c d:Int) (s:ByteArray) (k v:Int) (m:Nat):(base n l a b c d s k v m).size≤71:=by
 have h1:=RQ a;have h2:=RQ (b-n);have h3:=RQ c;have h4:=RQ (d-b);have h5:=gB l s;have h6:=P6 k;have h7:=RQ (v-b);have h8:=P6 m
 simp only [base,ByteArray.size_append];omega
end Go.Proofs.Ytklmcfpgdfibnaa.P
namespace Go.Proofs.Ytklmcfpgdfibnaa.P
open Go Go.Proofs.Ytklmcfpgdfibnaa Go.Proofs.Ytklmcfpgdfibnaa.Eng
set_option linter.unusedVariables false
theorem R8 {f:J2} {g:J2→Prop} (P:List Value→List (List T)→Prop) (h1: ∀xs cs,P xs cs→f xs cs) (h2: ∀j:J2,(∀xs cs,P xs cs→j xs cs)→g j):BF f g:=h2 f h1
end Go.Proofs.Ytklmcfpgdfibnaa.P
