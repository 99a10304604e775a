/- A part of the proof. -/
import Derived.Test.YtklmcfpgdfibnaaTrHpQ
import Derived.Test.YtklmcfpgdfibnaaTrHpE
namespace Go.Proofs.Ytklmcfpgdfibnaa.P
open Go Go.Proofs.Ytklmcfpgdfibnaa Go.Proofs.Ytklmcfpgdfibnaa.Eng
set_option linter.unusedVariables false
def RB (os:List AG) (ids:List Int) (k:Nat):Prop:= ∃b∈ids, ∃s:Nat,AA os b=(s:Int)∧Reach os s k
theorem RB.next {os:List AG} {ids:List Int} {k:Nat} {j:Int} (h:RB os ids k) (hj:j∈BE os k):RB os ids j.toNat:=by
 obtain ⟨b,hb,s,hs,hr⟩:=h
 exact ⟨b,hb,s,hs, .step hr hj⟩
theorem RB.lt {os:List AG} {ids:List Int} {k:Nat} (h:RB os ids k):k<8:=by
 obtain ⟨b,_,s,hs,hr⟩:=h
 have:=BD (l:=os) (id:=b) (by omega)
 exact hr.lt (by omega)
theorem RB.snoc {os:List AG} {ids:List Int} {b:Int} {k:Nat}:RB os (ids++[b]) k↔RB os ids k∨ ∃s:Nat,AA os b=(s:Int)∧Reach os s k:=by
 constructor
 ·rintro ⟨x,hx,h⟩
  rcases List.mem_append.1 hx with hx | hx
  ·exact .inl ⟨x,hx,h⟩
  ·have hx:x=b:=by simpa using hx
   subst hx;exact .inr h
 ·rintro (⟨x,hx,h⟩ | h)
  ·exact ⟨x,List.mem_append_left _ hx,h⟩
  ·exact ⟨b,by simp,h⟩
structure MK (os:List AG) (ct:Nat→Int) (ids:List Int) (cs col:List Int):Prop where
 len:cs.length=8∧col.length=8
 f: ∀i,i<8→F64 (gI cs i)
 one: ∀k,k<8→gI col k=1→RB os ids k
 zero: ∀k,k<8→gI col k≠1→gI col k=0∧ ¬RB os ids k
 cnt: ∀i,i<8→gI cs i=w64 (ct i-S os (isC col 1) i)
section
variable {os:List AG} {ct:Nat→Int} {ids:List Int} {cs col cs' col':List Int} {b:Int} {s:Nat}
theorem MK.none (h:MK os ct ids cs col) (hb:AA os b<0):MK os ct (ids++[b]) cs col:=by
 refine ⟨h.len,h.f,fun k hk h1=>RB.snoc.2 (.inl (h.one k hk h1)),fun k hk h1=>⟨(h.zero k hk h1).1,fun hr=> ?_⟩,h.cnt⟩
 rcases RB.snoc.1 hr with hr | ⟨s,hs,_⟩
 ·exact (h.zero k hk h1).2 hr
 ·omega
theorem MK.some (h:MK os ct ids cs col) (hb:AA os b=(s:Int)) (hs:s<8) (p:IT os 1 (-1) cs col cs' col' s):MK os ct (ids++[b]) cs' col':=by
 have cl: ∀k,Reach os s k→k<8∧gI col' k=1:=fun k hr=>hr.closed (P:=fun k=>k<8∧gI col' k=1) ⟨hs,p.got⟩ fun x hx j hj=>by
  refine ⟨(B5 hj).2.1, ?_⟩
  by_cases h1:gI col x=1
  ·refine p.II _ (B5 hj).2.1 (Decidable.byContradiction fun hn=> ?_)
   exact (h.zero _ (B5 hj).2.1 hn).2 ((h.one x hx.1 h1).next hj)
  ·exact (p.clo x hx.1 hx.2 h1).2 j hj
 refine ⟨p.len,p.f,fun k hk h1=>RB.snoc.2 ?_,fun k hk h1=> ?_,fun i hi=> ?_⟩
 ·by_cases h0:gI col k=1
  ·exact .inl (h.one k hk h0)
  ·exact .inr ⟨s,hb,(p.clo k hk h1 h0).1⟩
 ·have e:=p.only k hk h1
  have h2:gI col k≠1:=by rw [←e];exact h1
  obtain ⟨z1,z2⟩:=h.zero k hk h2
  refine ⟨by rw [e];exact z1,fun hr=> ?_⟩
  rcases RB.snoc.1 hr with hr | ⟨s',hs',hr⟩
  ·exact z2 hr
  ·have:s'=s:=by omega
   subst this
   exact h1 (cl k hr).2
 ·rw [p.cnt i hi,h.cnt i hi,LL]
  congr 1
  omega
end
open Classical in
noncomputable def MY (os:List AG) (buf:List Int) (k:Nat):Bool:=decide (RB os buf k)
def Out (os:List AG) (ct:Nat→Int) (buf:List Int) (x:Nat):Prop:=x<8∧RB os buf x∧EX os ct (MY os buf) x
open Classical in
noncomputable def HN (os:List AG) (ct:Nat→Int) (buf:List Int) (k:Nat):Bool:=decide (RB os buf k∧ ¬ ∃x,Out os ct buf x∧Reach os x k)
theorem R7 {os:List AG} {buf:List Int} {k:Nat}:MY os buf k=true↔RB os buf k:=by unfold MY;simp
theorem QC {os:List AG} {buf:List Int} {k:Nat}:MY os buf k=false↔ ¬RB os buf k:=by unfold MY;simp
theorem HS {os:List AG} {ct:Nat→Int} {buf:List Int} {k:Nat}:HN os ct buf k=true↔RB os buf k∧ ¬ ∃x,Out os ct buf x∧Reach os x k:=by unfold HN;simp
structure SC (os:List AG) (ct:Nat→Int) (buf:List Int) (ids:List Int) (cs col:List Int):Prop where
 si:SN os ct (MY os buf) cs col
 got: ∀b∈ids, ∀s:Nat,AA os b=(s:Int)→gI col s≠1
 wk: ∀k,k<8→gI col k=2→ ∀j∈BE os k,gI col j.toNat≠1
section
variable {os:List AG} {ct:Nat→Int} {buf ids:List Int} {cs col cs' col':List Int} {b:Int} {s:Nat}
theorem SC.start (h:MK os ct buf cs col):SC os ct buf [] cs col:=by
 refine ⟨⟨h.len,h.f,fun k hk=> ?_,fun k hk hc=> ?_,fun i hi=> ?_,fun k hk hc h0=> ?_,fun k hk h2=> ?_⟩,fun b hb=>by simp at hb,fun k hk h2=> ?_⟩
 ·by_cases h1:gI col k=1
  ·exact .inr (.inl h1)
  ·exact .inl (h.zero k hk h1).1
 ·exact (h.zero k hk fun h1=>QC.1 hc (h.one k hk h1)).1
 ·rw [h.cnt i hi]
  congr 2
  refine ZE fun k hk=> ?_
  by_cases h1:gI col k=1
  ·simp [isC,h1]
  ·simp [isC,(h.zero k hk h1).1]
 ·exact absurd (R7.1 hc) (h.zero k hk (by omega)).2
 ·have:=(h.zero k hk (by omega)).1;omega
 ·have:=(h.zero k hk (by omega)).1;omega
theorem SC.none (h:SC os ct buf ids cs col) (hb:AA os b<0):SC os ct buf (ids++[b]) cs col:=
 ⟨h.si,fun x hx s hs=>by
   rcases List.mem_append.1 hx with hx | hx
   ·exact h.got x hx s hs
   ·have hx:x=b:=by simpa using hx
    subst hx;omega,h.wk⟩
theorem SC.some (h:SC os ct buf ids cs col) (hb:AA os b=(s:Int)) (hs:s<8) (p:PO os ct (MY os buf) col cs' col' s):SC os ct buf (ids++[b]) cs' col':=by
 refine ⟨p.si,fun x hx t ht=> ?_,fun k hk h2=> ?_⟩
 ·rcases List.mem_append.1 hx with hx | hx
  ·have:=BD (l:=os) (id:=x) (by omega)
   exact p.ng t (by omega) (h.got x hx t ht)
  ·have hx:x=b:=by simpa using hx
   subst hx
   have:t=s:=by omega
   subst this;exact p.got
 ·rcases p.wk k hk h2 with h3 | h3
  ·exact fun j hj=>p.ng _ (B5 hj).2.1 (h.wk k hk h3 j hj)
  ·exact h3
theorem SC.stop (h:SC os ct buf buf cs col): ∀k,k<8→(gI col k=2↔HN os ct buf k=true):=by
 have ng: ∀k,RB os buf k→gI col k≠1:=fun k hr=>by
  obtain ⟨b,hb,s,hs,hr⟩:=hr
  have hb8:=BD (l:=os) (id:=b) (by omega)
  have:=hr.closed (P:=fun k=>(k<8∧RB os buf k)∧gI col k≠1) ⟨⟨by omega,b,hb,s,hs, .refl⟩,h.got b hb s hs⟩ fun x hx j hj=>by
   refine ⟨⟨(B5 hj).2.1,hx.1.2.next hj⟩, ?_⟩
   rcases h.si.rng x hx.1.1 with h0 | h1 | h2
   ·have:=(h.si.blk x hx.1.1 (R7.2 hx.1.2) h0).2 j hj;omega
   ·exact absurd h1 hx.2
   ·exact h.wk x hx.1.1 h2 j hj
  exact this.2
 intro k hk
 rw [HS]
 constructor
 ·intro h2
  have hr:RB os buf k:=Classical.byContradiction fun hn=>by
   have:=h.si.out k hk (QC.2 hn);omega
  refine ⟨hr, ?_⟩
  rintro ⟨x,⟨hx8,hx,he⟩,hxk⟩
  have:=hxk.closed (P:=fun k=>(k<8∧RB os buf k)∧gI col k=0) ⟨⟨hx8,hx⟩,by
   rcases h.si.rng x hx8 with h0 | h1 | h2
   ·exact h0
   ·exact absurd h1 (ng x hx)
   ·exact absurd he (h.si.wht x hx8 h2)⟩ fun y hy j hj=>⟨⟨(B5 hj).2.1,hy.1.2.next hj⟩,(h.si.blk y hy.1.1 (R7.2 hy.1.2) hy.2).2 j hj⟩
  omega
 ·rintro ⟨hr,hn⟩
  rcases h.si.rng k hk with h0 | h1 | h2
  ·obtain ⟨x,x8,xc,xe,xr⟩:=(h.si.blk k hk (R7.2 hr) h0).1
   exact absurd ⟨x,⟨x8,R7.1 xc,xe⟩,xr⟩ hn
  ·exact absurd h1 (ng k hr)
  ·exact h2
end
def mk8 (f:Nat→AG):List AG:=(List.range 8).map f
theorem C7 (f:Nat→AG):(mk8 f).length=8:=by simp [mk8]
theorem H3 {f:Nat→AG} {i:Nat} (h:i<8):ob (mk8 f) i=f i:=by
 rw [←DB (by rw [C7];exact h)];simp [mk8]
theorem MJ {f g:Nat→AG} (h: ∀i,i<8→f i=g i):mk8 f=mk8 g:=List.map_congr_left fun i hi=>h i (List.mem_range.1 hi)
theorem aE {os:List AG} (h:os.length=8):os=mk8 (ob os):=by
 apply List.ext_getElem (by rw [C7,h])
 intro i h1 h2
 rw [DB h1,DB h2,H3 (by omega)]
theorem YB {f:Nat→AG} {k:Nat} {v:AG} (hk:k<8):(mk8 f).set k v=mk8 fun i=>if i=k then v else f i:=by
 apply List.ext_getElem (by simp [C7])
 intro i h1 h2
 have hi:i<8:=by rw [C7] at h2;exact h2
 rw [DB h1,DB h2,D4 (by rw [C7];exact hk),H3 hi,H3 hi]
theorem eB {f:Nat→AG} {o:AG} (h:o∈mk8 f): ∃i,i<8∧o=f i:=by
 obtain ⟨i,hi,rfl⟩:=List.mem_map.1 h
 exact ⟨i,List.mem_range.1 hi,rfl⟩
theorem ON {a b:List AG} {id:Int} (hl:a.length=b.length) (h: ∀i,i<a.length→(ob a i).live=(ob b i).live∧(ob a i).field=(ob b i).field):CE a id=CE b id:=by
 unfold CE
 congr 1
 apply List.ext_getElem (by simp [hl])
 intro i h1 h2
 simp only [List.length_map] at h1 h2
 rw [List.getElem_map,List.getElem_map,DB h1,DB h2]
 unfold KF
 rw [(h i h1).1,(h i h1).2]
theorem rG {a b:List AG} {s:Int} (hl:a.length=b.length) (h: ∀i,i<a.length→(ob a i).live=(ob b i).live∧(ob a i).gen=(ob b i).gen∧(ob a i).field=(ob b i).field):inE a s=inE b s:=by
 unfold inE
 by_cases hs:0≤s∧s≤(a.length:Int)-1
 ·have hi:=h s.toNat (by omega)
  rw [hi.1,hi.2.1,ON hl fun i hi=>⟨(h i hi).1,(h i hi).2.2⟩,hl]
 ·rw [if_neg (fun hh=>hs hh.1),if_neg (fun hh=>hs (by rw [hl];exact hh.1))]
def DV (os:List AG) (W:Nat→Bool) (i:Nat):AG:=if W i=true then B8 (ob os i).gen else {ob os i with purple:=false}
def GF (os:List AG) (W:Nat→Bool) (i:Nat):AG:=if (DV os W i).live=true then {DV os W i with count:=w64 (w64 ((DV os W i).holds+(DV os W i).roots)+inE (mk8 (DV os W)) i)} else DV os W i
def DX (W:Nat→Bool):Nat→List Int:=pick fun i=>if W i=true then [(i:Int)] else []
def IH (os:List AG) (W:Nat→Bool):Nat→List Int:=pick fun i=>if W i=true then [CC i (ob os i).gen] else []
theorem kV {α β:Type} {f:Nat→List α} {h:α→β} (n:Nat):(pick f n).map h=pick (fun i=>(f i).map h) n:=by
 induction n with
 | zero=>rfl
 | succ n ih=>simp only [pick,List.map_append,ih]
theorem VJ {α:Type} {f g:Nat→List α} {n:Nat} (h: ∀i,i<n→f i=g i):pick f n=pick g n:=by
 induction n with
 | zero=>rfl
 | succ n ih=>simp only [pick];rw [ih fun i hi=>h i (by omega),h n (by omega)]
theorem YQ (os:List AG) (W:Nat→Bool) (n:Nat):(DX W n).map (fun x=>CC x (ob os x.toNat).gen)=IH os W n:=by
 unfold DX IH
 rw [kV]
 refine VJ fun i hi=> ?_
 split <;> simp
theorem M5 {W:Nat→Bool} {n:Nat} {x:Int}:x∈DX W n↔ ∃i:Nat,i<n∧x=i∧W i=true:=by
 unfold DX
 induction n with
 | zero=>simp [pick]
 | succ n ih=>
   simp only [pick,List.mem_append,ih]
   constructor
   ·rintro (⟨i,h1,h2,h3⟩ | h)
    ·exact ⟨i,by omega,h2,h3⟩
    ·split at h
     ·rename_i hw;exact ⟨n,by omega,by simpa using h,hw⟩
     ·simp at h
   ·rintro ⟨i,h1,h2,h3⟩
    by_cases hi:i=n
    ·subst hi;right;rw [if_pos h3];simp [h2]
    ·exact .inl ⟨i,by omega,h2,h3⟩
noncomputable def HU (os:List AG) (buf:List Int):List AG×List Int:=
 (mk8 (GF os (HN os (fun i=>(ob os i).count) buf)),IH os (HN os (fun i=>(ob os i).count) buf) 8)
end Go.Proofs.Ytklmcfpgdfibnaa.P
namespace Go.Proofs.Ytklmcfpgdfibnaa.P
open Go Go.Proofs.Ytklmcfpgdfibnaa Go.Proofs.Ytklmcfpgdfibnaa.Eng
set_option linter.unusedVariables false
set_option maxHeartbeats 4000000
set_option linter.unusedVariables false
set_option linter.unusedSimpArgs false
attribute [local irreducible] prP gP gE gF AX ixW ldc ldg ldl stc stg scW mkW apW BF cl2 BS DK CW
variable {w0:World}
theorem WS {os:List AG} {i:Nat} (hi:i<os.length):(os.take (i+1)).map (·.count)=(os.take i).map (·.count)++[(ob os i).count]:=by
 rw [List.take_succ_eq_append_getElem hi,List.map_append,DB hi];rfl
theorem S3 {os:List AG} {b c d:List T} {K:J2} (hol:os.length=8) (h:K [] [tI (os.map (·.count)),tI (List.replicate 8 0)]):cl2 ⟨Try.prog,w0⟩ 56 EB.sg [] [tR tO os,b,c,d] K:=by
 refine EB.cl2 ?_
 unfold EB.txt
 simp only [AJ,AT,AL,AR,AS,AE,AI,AU,AK,AN,AO,AQ,AM,AP,BJ,BO,BL,BM,BN,BP,BK,A9,A4,A6,A7,A8,A5]
 refine BG (fun i=>[iv os.length,iv i]) (fun i=>[tI ((os.take i).map (·.count)),tI (List.replicate i 0)]) os.length (fun _=>True) rfl rfl trivial (fun R i hi hP hR=> ?_)
 have hln:((os.take i).map (·.count)).length=i:=by simp;omega
 have hl2:(List.replicate i (0:Int)).length=i:=List.length_replicate
 simp only [AJ,AT,AL,AR,AS,AE,AI,AU,AK,AN,AO,AQ,AM,AP,BJ,BO,BL,BM,BN,BP,BK,A9,A4,A6,A7,A8,A5]
 refine BA (AW (fun hlt=> ?_) fun hge=> ?_)
 ·have hlt:i<os.length:=by omega
  replace hR:=hR hlt trivial
  rw [WS hlt, ←DJ,List.replicate_succ', ←DJ] at hR
  refine BT (AH hlt (UZ hlt ?_))
  simp only [jN]
  exact BA (EP (by omega) (EH rfl (by omega) (EH rfl (by omega) (BB (by omega) hR))))
 ·have:i=os.length:=by omega
  subst this
  rw [List.take_length,hol];exact h
theorem S0 {os:List AG} {b c d:List T} {K:J2} (hol:os.length=8) (h:K [] [tI (os.map (·.count)),tI (List.replicate 8 0)]):cl2 ⟨Try.prog,w0⟩ 155 ED.sg [] [tR tO os,b,c,d] K:=by
 refine ED.cl2 ?_
 unfold ED.txt
 simp only [AJ,AT,AL,AR,AS,AE,AI,AU,AK,AN,AO,AQ,AM,AP,BJ,BO,BL,BM,BN,BP,BK,A9,A4,A6,A7,A8,A5]
 refine BG (fun i=>[iv i]) (fun i=>[tI ((os.take i).map (·.count)),tI (List.replicate i 0)]) os.length (fun _=>True) rfl rfl trivial (fun R i hi hP hR=> ?_)
 have hln:((os.take i).map (·.count)).length=i:=by simp;omega
 have hl2:(List.replicate i (0:Int)).length=i:=List.length_replicate
 simp only [AJ,AT,AL,AR,AS,AE,AI,AU,AK,AN,AO,AQ,AM,AP,BJ,BO,BL,BM,BN,BP,BK,A9,A4,A6,A7,A8,A5]
 refine BA (BX (LD (fun hlt=> ?_) fun hge=> ?_))
 ·have hlt':i<os.length:=by omega
  replace hR:=hR hlt' trivial
  rw [WS hlt', ←DJ,List.replicate_succ', ←DJ] at hR
  refine BA (FG hlt rfl (EP (by omega) ?_))
  exact AH hlt' (HO (v:=I (ob os i).count) hlt' (by decide) rfl (EH rfl (by omega) (EH rfl (by omega) (BB (by omega) hR))))
 ·have:i=os.length:=by omega
  subst this
  refine FM hge rfl (CB ?_)
  rw [List.take_length,hol];exact h
theorem V8 {cs col:List Int} {W:Nat→Bool} {K:J2} (hl:col.length=8) (hw: ∀k,k<8→(gI col k=2↔W k=true)) (h:K [] [tI (DX W 8)]):cl2 ⟨Try.prog,w0⟩ 60 FW.sg [] [tI cs,tI col] K:=by
 refine FW.cl2 ?_
 unfold FW.txt
 simp only [AJ,AT,AL,AR,AS,AE,AI,AU,AK,AN,AO,AQ,AM,AP,BJ,BO,BL,BM,BN,BP,BK,A9,A4,A6,A7,A8,A5]
 refine BG (fun i=>[iv col.length,iv i]) (fun i=>[tI (DX W i)]) col.length (fun _=>True) rfl rfl trivial (fun R i hi hP hR=> ?_)
 have hln:(DX W i).length≤i:=HY (fun i=>by split <;> simp) i
 simp only [AJ,AT,AL,AR,AS,AE,AI,AU,AK,AN,AO,AQ,AM,AP,BJ,BO,BL,BM,BN,BP,BK,A9,A4,A6,A7,A8,A5]
 refine BA (AW (fun hlt=> ?_) fun hge=> ?_)
 ·have hlt:i<col.length:=by omega
  replace hR:=hR hlt trivial
  have hwi:=hw i (by omega)
  refine BT (AH hlt (ldI hlt (BW (AW (fun h2=> ?_) fun h2=> ?_))))
  ·have e:DX W (i+1)=DX W i++[(i:Int)]:=by show DX W i++(if W i=true then [(i:Int)] else [])=_;rw [if_pos (hwi.1 h2)]
   rw [e, ←DJ] at hR
   exact EH rfl (by omega) (BB (by omega) hR)
  ·have e:DX W (i+1)=DX W i:=by show DX W i++(if W i=true then [(i:Int)] else [])=_;rw [if_neg (fun hh=>h2 (hwi.2 hh)),List.append_nil]
   rw [e] at hR
   exact BB (by omega) hR
 ·have:i=col.length:=by omega
  subst this
  rw [hl];exact h
theorem V9 {cs col:List Int} {W:Nat→Bool} {K:J2} (hl:col.length=8) (hw: ∀k,k<8→(gI col k=2↔W k=true)) (h:K [] [tI (DX W 8)]):cl2 ⟨Try.prog,w0⟩ 158 FT.sg [] [tI cs,tI col] K:=by
 refine FT.cl2 ?_
 unfold FT.txt
 simp only [AJ,AT,AL,AR,AS,AE,AI,AU,AK,AN,AO,AQ,AM,AP,BJ,BO,BL,BM,BN,BP,BK,A9,A4,A6,A7,A8,A5]
 refine BG (fun i=>[iv i]) (fun i=>[tI (DX W i)]) col.length (fun _=>True) rfl rfl trivial (fun R i hi hP hR=> ?_)
 have hln:(DX W i).length≤i:=HY (fun i=>by split <;> simp) i
 simp only [AJ,AT,AL,AR,AS,AE,AI,AU,AK,AN,AO,AQ,AM,AP,BJ,BO,BL,BM,BN,BP,BK,A9,A4,A6,A7,A8,A5]
 refine BA (AW (fun hlt=> ?_) fun hge=> ?_)
 ·have hlt:i<col.length:=by omega
  replace hR:=hR hlt trivial
  have hwi:=hw i (by omega)
  refine BT (AH hlt (ldI hlt (BW (AW (fun h2=> ?_) fun h2=> ?_))))
  ·have e:DX W (i+1)=DX W i++[(i:Int)]:=by show DX W i++(if W i=true then [(i:Int)] else [])=_;rw [if_pos (hwi.1 h2)]
   rw [e, ←DJ] at hR
   exact EH rfl (by omega) (BB (by omega) hR)
  ·have e:DX W (i+1)=DX W i:=by show DX W i++(if W i=true then [(i:Int)] else [])=_;rw [if_neg (fun hh=>h2 (hwi.2 hh)),List.append_nil]
   rw [e] at hR
   exact BB (by omega) hR
 ·have:i=col.length:=by omega
  subst this
  rw [hl];exact h
theorem MK.start {os:List AG} (hol:os.length=8) (hc: ∀o∈os,F64 o.count):MK os (fun i=>(ob os i).count) [] (os.map (·.count)) (List.replicate 8 0):=by
 have hz: ∀k,k<8→gI (List.replicate 8 (0:Int)) k=0:=fun k hk=>by unfold gI;rw [List.getD_eq_getElem?_getD,List.getElem?_replicate,if_pos hk];rfl
 have hcs: ∀i,i<8→gI (os.map (·.count)) i=(ob os i).count:=fun i hi=>by
  rw [←DA (by simp;omega),List.getElem_map,DB (by omega)]
 have hF: ∀i,i<8→F64 (ob os i).count:=fun i hi=>hc _ (IS (by omega))
 refine ⟨⟨by simp [hol],by simp⟩,fun i hi=>by rw [hcs i hi];exact hF i hi,fun k hk h1=> ?_,fun k hk h1=>⟨hz k hk, ?_⟩,fun i hi=> ?_⟩
 ·rw [hz k hk] at h1;omega
 ·rintro ⟨b,hb,_⟩;simp at hb
 ·have:S os (isC (List.replicate 8 0) 1) i=0:=H4 fun k hk=>by unfold isC;rw [hz k hk];rfl
  rw [hcs i hi,this,Int.sub_zero,G8 (hF i hi)]
theorem U8 (os:List AG) (W:Nat→Bool) (i:Nat):(GF os W i).live=(DV os W i).live∧(GF os W i).gen=(DV os W i).gen∧(GF os W i).field=(DV os W i).field:=by
 unfold GF;split <;> exact ⟨rfl,rfl,rfl⟩
theorem kY {os:List AG} (hof: ∀o∈os,OF o) (hol:os.length=8) (W:Nat→Bool) {i:Nat} (hi:i<8):(DV os W i).field.length=3:=by
 unfold DV
 split
 ·rfl
 ·exact (hof _ (IS (by omega))).len
theorem aH {a b c d e f g:List T} {l:List (List T)}:nxc (a::b::c::d::e::f::g::l) 6=g:=rfl
theorem T2 {h:Hp} {K:J2} (st:St h) (hc: ∀o∈h.AD,F64 o.count) (hK:K [] [tR tO (HU h.AD h.buffer).1,tR tW h.B3,[],tS h.sites,tI (HU h.AD h.buffer).2]):cl2 ⟨Try.prog,w0⟩ 127 EY.sg [] (trees h) K:=by
 refine EY.cl2 ?_
 unfold EY.txt
 refine JH st.fits ?_
 obtain ⟨os,ws,buf,ss⟩:=h
 have hol:os.length=8:=st.ol
 have hof: ∀o∈os,OF o:=st.of
 have hb:buf.length≤100:=st.bl
 have hbf: ∀x∈buf,F64 x:=st.bf
 simp only at hc hK
 simp only [trees]
 obtain ⟨ct,hct⟩: ∃ct:Nat→Int,ct=fun i=>(ob os i).count:=⟨_,rfl⟩
 obtain ⟨W,hW⟩: ∃W,W=HN os ct buf:=⟨_,rfl⟩
 unfold HU at hK
 rw [←hct, ←hW] at hK
 simp only [AJ,AT,AL,AR,AS,AE,AI,AU,AK,AN,AO,AQ,AM,AP,BJ,BO,BL,BM,BN,BP,BK,A9,A4,A6,A7,A8,A5]
 refine CI (D8 (by omega) (S0 hol ?_))
 refine ER (α:=Nat×List Int×List Int) (fun q=>[iv q.1]) (fun q=>[[],tR tO os,tR tW ws,tI buf,tS ss,tI q.2.1,tI q.2.2]) (fun q=>buf.length-q.1) (fun q=>q.1≤buf.length∧MK os ct (buf.take q.1) q.2.1 q.2.2) (0,os.map (·.count),List.replicate 8 0) rfl rfl ⟨Nat.zero_le _,by rw [hct];exact MK.start hol hc⟩ (fun R q hq hR=> ?_)
 obtain ⟨i,cs,col⟩:=q
 obtain ⟨hi,mk⟩:=hq
 simp only at hi mk
 simp only [AJ,AT,AL,AR,AS,AE,AI,AU,AK,AN,AO,AQ,AM,AP,BJ,BO,BL,BM,BN,BP,BK,A9,A4,A6,A7,A8,A5]
 simp only [aH]
 refine BA (AW (fun hlt=> ?_) fun hge=> ?_)
 ·have hlt:i<buf.length:=by omega
  have hx:=hbf _ (DU hlt)
  have nx:=fun cs' col' (m:MK os ct (buf.take i++[gI buf i]) cs' col')=>hR (i+1,cs',col') ⟨by simp only;omega,by simp only;rw [List.take_succ_eq_append_getElem hlt,DA hlt];exact m⟩ (by simp only;omega)
  refine AH hlt (ldI hlt (B2 hx (by omega) (SZ hol hof mk.len.1 mk.len.2 mk.f (fun hn=> ?_) fun s hs s8 cs' col' p=> ?_)))
  ·exact BB (by omega) (nx _ _ (mk.none hn))
  ·exact BB (by omega) (nx _ _ (mk.some hs s8 p))
 have:i=buf.length:=by omega
 subst this
 rw [List.take_length] at mk
 refine ER (α:=Nat×List Int×List Int) (fun q=>[iv q.1]) (fun q=>[[],tR tO os,tR tW ws,tI buf,tS ss,tI q.2.1,tI q.2.2]) (fun q=>buf.length-q.1) (fun q=>q.1≤buf.length∧SC os ct buf (buf.take q.1) q.2.1 q.2.2) (0,cs,col) rfl rfl ⟨Nat.zero_le _,SC.start mk⟩ (fun R q hq hR=> ?_)
 obtain ⟨i,cs,col⟩:=q
 obtain ⟨hi,sc⟩:=hq
 simp only at hi sc
 simp only [AJ,AT,AL,AR,AS,AE,AI,AU,AK,AN,AO,AQ,AM,AP,BJ,BO,BL,BM,BN,BP,BK,A9,A4,A6,A7,A8,A5]
 simp only [aH]
 refine BA (AW (fun hlt=> ?_) fun hge=> ?_)
 ·have hlt:i<buf.length:=by omega
  have hx:=hbf _ (DU hlt)
  have nx:=fun cs' col' (m:SC os ct buf (buf.take i++[gI buf i]) cs' col')=>hR (i+1,cs',col') ⟨by simp only;omega,by simp only;rw [List.take_succ_eq_append_getElem hlt,DA hlt];exact m⟩ (by simp only;omega)
  refine AH hlt (ldI hlt (B2 hx (by omega) (TC hol hof sc.si (fun hn=> ?_) fun s hs s8 cs' col' p=> ?_)))
  ·exact BB (by omega) (nx _ _ (sc.none hn))
  ·exact BB (by omega) (nx _ _ (sc.some hs s8 p))
 have:i=buf.length:=by omega
 subst this
 rw [List.take_length] at sc
 have wh:=sc.stop
 rw [←hW] at wh
 refine V9 sc.si.len.2 wh ?_
 clear hR sc mk
 have hwn:(DX W 8).length≤8:=HY (fun i=>by split <;> simp) 8
 refine BG (fun i=>[iv i]) (fun i=>[tI (IH os W i),tI (DX W 8),tR tO (mk8 fun k=>if k<i then DV os W k else ob os k),tR tW ws,tI buf,tS ss]) 8 (fun _=>True) rfl ?_ trivial (fun R i hi hP hR=> ?_)
 ·simp only [Nat.not_lt_zero,if_false]
  rw [←aE hol];rfl
 have hln:(IH os W i).length≤i:=HY (fun i=>by split <;> simp) i
 simp only [AJ,AT,AL,AR,AS,AE,AI,AU,AK,AN,AO,AQ,AM,AP,BJ,BO,BL,BM,BN,BP,BK,A9,A4,A6,A7,A8,A5]
 simp only [aH,C7]
 refine BA (AW (fun hlt=> ?_) fun hge=> ?_)
 ·have hlt:i<8:=by omega
  replace hR:=hR hlt trivial
  have hml:i<(mk8 fun k=>if k<i then DV os W k else ob os k).length:=by rw [C7];exact hlt
  have hoi:(mk8 fun k=>if k<i then DV os W k else ob os k)[i]=ob os i:=by rw [DB hml,H3 hlt,if_neg (by omega)]
  have hset: ∀v,v=DV os W i→(mk8 fun k=>if k<i then DV os W k else ob os k).set i v=mk8 fun k=>if k<i+1 then DV os W k else ob os k:=fun v hv=>by
   rw [YB hlt]
   refine MJ fun k hk=> ?_
   by_cases h1:k=i
   ·subst h1;rw [if_pos rfl,if_pos (by omega),hv]
   ·rw [if_neg h1]
    by_cases h2:k<i
    ·rw [if_pos h2,if_pos (by omega)]
    ·rw [if_neg h2,if_neg (by omega)]
  generalize (mk8 fun k=>if k<i then DV os W k else ob os k)=M at hml hoi hset ⊢
  have hM8:M.length=8:=by have:=congrArg List.length (hset (DV os W i) rfl);rw [List.length_set,C7] at this;exact this
  have io:i<os.length:=by omega
  refine BT (AH hlt ?_)
  refine RT (f:=tO) (c:=7) (y:={M[i] with purple:=false}) hml (by decide) rfl rfl ?_
  rw [hoi]
  refine HK (by omega) (AW (fun hm=> ?_) fun hm=> ?_)
  ·have hw:W i=true:=by
    obtain ⟨k,_,h2,h3⟩:=M5.1 hm
    have:k=i:=by omega
    subst this;exact h3
   have ef:IH os W (i+1)=IH os W i++[CC i (ob os i).gen]:=by show IH os W i++(if W i=true then [CC i (ob os i).gen] else [])=_;rw [if_pos hw]
   rw [ef, ←DJ, ←hset (B8 (ob os i).gen) (by unfold DV;rw [if_pos hw])] at hR
   refine AH io (HO (v:=I (ob os i).gen) io (by decide) rfl (FE (EH rfl (by omega) (AH io (HO (v:=I (ob os i).gen) io (by decide) rfl (HW ?_))))))
   simp only [AJ,AT,AL,AR,AS,AE,AI,AU,AK,AN,AO,AQ,AM,AP,BJ,BO,BL,BM,BN,BP,BK,A9,A4,A6,A7,A8,A5]
   simp only [List.length_set,hM8]
   refine AH hlt (PZ (f:=tO) (by rw [List.length_set];exact hml) (y:=B8 (ob os i).gen) rfl ?_)
   rw [List.set_set]
   exact BB (by omega) hR
  ·have hw: ¬W i=true:=fun hw=>hm (M5.2 ⟨i,hlt,rfl,hw⟩)
   have ef:IH os W (i+1)=IH os W i:=by show IH os W i++(if W i=true then [CC i (ob os i).gen] else [])=_;rw [if_neg hw,List.append_nil]
   rw [ef, ←hset {ob os i with purple:=false} (by unfold DV;rw [if_neg hw])] at hR
   exact BB (by omega) hR
 have:i=8:=by omega
 subst this
 rw [MJ (g:=DV os W) fun k hk=>if_pos hk]
 clear hR
 refine BG (fun i=>[iv i]) (fun i=>[tI (IH os W 8),tR tO (mk8 fun k=>if k<i then GF os W k else DV os W k),tR tW ws,tI buf,tS ss]) 8 (fun _=>True) rfl rfl trivial (fun R i hi hP hR=> ?_)
 simp only [AJ,AT,AL,AR,AS,AE,AI,AU,AK,AN,AO,AQ,AM,AP,BJ,BO,BL,BM,BN,BP,BK,A9,A4,A6,A7,A8,A5]
 simp only [C7]
 refine BA (AW (fun hlt=> ?_) fun hge=> ?_)
 ·have hlt:i<8:=by omega
  replace hR:=hR hlt trivial
  have hml:i<(mk8 fun k=>if k<i then GF os W k else DV os W k).length:=by rw [C7];exact hlt
  have hoi:(mk8 fun k=>if k<i then GF os W k else DV os W k)[i]=DV os W i:=by rw [DB hml,H3 hlt,if_neg (by omega)]
  have hset: ∀v,v=GF os W i→(mk8 fun k=>if k<i then GF os W k else DV os W k).set i v=mk8 fun k=>if k<i+1 then GF os W k else DV os W k:=fun v hv=>by
   rw [YB hlt]
   refine MJ fun k hk=> ?_
   by_cases h1:k=i
   ·subst h1;rw [if_pos rfl,if_pos (by omega),hv]
   ·rw [if_neg h1]
    by_cases h2:k<i
    ·rw [if_pos h2,if_pos (by omega)]
    ·rw [if_neg h2,if_neg (by omega)]
  have hin:inE (mk8 fun k=>if k<i then GF os W k else DV os W k) i=inE (mk8 (DV os W)) i:=by
   refine rG (by rw [C7,C7]) fun k hk=> ?_
   rw [C7] at hk
   rw [H3 hk,H3 hk]
   by_cases h2:k<i
   ·rw [if_pos h2];exact U8 os W k
   ·rw [if_neg h2];exact ⟨rfl,rfl,rfl⟩
  have hlen3: ∀o∈(mk8 fun k=>if k<i then GF os W k else DV os W k),(o.field.length:Int)≤1048576:=fun o ho=>by
   obtain ⟨k,hk,rfl⟩:=eB ho
   have hm:=kY hof hol W hk
   by_cases h2:k<i
   ·rw [if_pos h2,(U8 os W k).2.2];omega
   ·rw [if_neg h2];omega
  generalize (mk8 fun k=>if k<i then GF os W k else DV os W k)=M at hml hoi hset hin hlen3 ⊢
  have hM8:M.length=8:=by have:=congrArg List.length (hset (GF os W i) rfl);rw [List.length_set,C7] at this;exact this
  have hMs:M=M.set i (DV os W i):=by rw [←hoi,List.set_getElem_self]
  refine BT (AH hlt ?_)
  cases hv:(DV os W i).live with
  | true=>
    refine TV (f:=tO) (v:= .bool true) hml (by rw [hoi];simp [tO,hv]) (CQ (AH hlt ?_))
    refine RX (f:=tO) (v:=I (DV os W i).holds) hml (by decide) (by rw [hoi];rfl) (AH hlt ?_)
    refine RX (f:=tO) (v:=I (DV os W i).roots) hml (by decide) (by rw [hoi];rfl) (G3 ?_)
    refine N5 ⟨by omega,by omega⟩ (by rw [hM8];decide) hlen3 ?_
    rw [hin]
    refine G3 (AH hlt ?_)
    rw [hMs]
    refine KV hml ?_
    rw [hset _ (by unfold GF;rw [if_pos hv])]
    exact BB (by omega) hR
  | false=>
    refine TV (f:=tO) (v:= .bool false) hml (by rw [hoi];simp [tO,hv]) (CB ?_)
    rw [hMs,hset _ (by unfold GF;rw [if_neg (by rw [hv];decide)])]
    exact BB (by omega) hR
 ·have:i=8:=by omega
  subst this
  rw [MJ (g:=GF os W) fun k hk=>if_pos hk]
  exact hK
end Go.Proofs.Ytklmcfpgdfibnaa.P
namespace Go.Proofs.Ytklmcfpgdfibnaa.P
open Go Go.Proofs.Ytklmcfpgdfibnaa Go.Proofs.Ytklmcfpgdfibnaa.Eng
set_option linter.unusedVariables false
set_option maxHeartbeats 4000000
set_option linter.unusedVariables false
set_option linter.unusedSimpArgs false
attribute [local irreducible] prP gP gE gF AX ixW ldc ldg ldl stc stg scW mkW apW BF cl2 BS DK CW
variable {w0:World}
noncomputable def E9 (h:Hp) (o:Op5):Hp×An:=
 if o.kind=1 then (⟨(H5 h.AD h.sites o.site).1,h.B3,h.buffer,(H5 h.AD h.sites o.site).2.1⟩,(H5 h.AD h.sites o.site).2.2) else
 if o.kind=2∨o.kind=3∨o.kind=5∨o.kind=6 then (⟨(G4 h.AD h.buffer o.kind o.a).1,h.B3,(G4 h.AD h.buffer o.kind o.a).2.1,h.sites⟩,(G4 h.AD h.buffer o.kind o.a).2.2) else
 if o.kind=4 then (⟨(I9 h.AD h.buffer o.a o.b o.c).1,h.B3,(I9 h.AD h.buffer o.a o.b o.c).2.1,h.sites⟩,(I9 h.AD h.buffer o.a o.b o.c).2.2) else
 if o.kind=7 then (⟨h.AD,(OC h.AD h.B3 o.a).1,h.buffer,h.sites⟩,(OC h.AD h.B3 o.a).2) else
 if o.kind=8∨o.kind=9 then (⟨h.AD,(IP h.AD h.B3 o.kind o.a).1,h.buffer,h.sites⟩,(IP h.AD h.B3 o.kind o.a).2) else
 if o.kind=10 then (⟨(HU h.AD h.buffer).1,h.B3,[],h.sites⟩,⟨0,0,(HU h.AD h.buffer).2⟩) else (h,⟨2,0,[]⟩)
theorem cO {α:Type} [Inhabited α] {l:List α} (h: ∀i (hi:i<l.length),l[i]∉l.take i):l.Nodup:=by
 refine List.pairwise_iff_getElem.2 fun i j hi hj hij he=>h j hj ?_
 rw [←he]
 exact List.mem_take_iff_getElem.2 ⟨i,by omega,rfl⟩
theorem few {n:Nat}: ∀{l:List Int} (g:Int→Nat),l.Nodup→(∀x∈l,g x<n)→(∀x∈l, ∀y∈l,g x=g y→x=y)→l.length≤n:=by
 induction n with
 | zero=>
   intro l g _ h _
   cases l with
   | nil=>simp
   | cons x l=>exact absurd (h x (by simp)) (by omega)
 | succ n ih=>
   intro l g hn h hi
   by_cases hx: ∃x∈l,g x=n
   ·obtain ⟨x,hx,hg⟩:=hx
    have:=ih (l:=l.erase x) g (hn.erase x) (fun y hy=>by
     have hy':=List.mem_of_mem_erase hy
     have:=h y hy'
     have hne:g y≠n:=fun he=>by
      have:y=x:=hi y hy' x hx (by omega)
      subst this
      exact (List.Nodup.not_mem_erase hn) hy
     omega) fun y hy z hz=>hi y (List.mem_of_mem_erase hy) z (List.mem_of_mem_erase hz)
    rw [List.length_erase_of_mem hx] at this
    omega
   ·have:=ih g hn (fun y hy=>by
     have:=h y hy
     have:g y≠n:=fun he=>hx ⟨y,hy,he⟩
     omega) hi
    omega
theorem BZ.bnd {h:Hp} (hk:BZ h):h.buffer.Nodup:=cO fun i hi=>by rw [DA hi];exact (hk.buf i hi).2
theorem BZ.UT {h:Hp} (hk:BZ h) {x:Int} (hx:x∈h.buffer):0≤AA h.AD x:=by
 obtain ⟨i,hi,rfl⟩:=List.getElem_of_mem hx
 rw [DA hi];exact (hk.buf i hi).1
theorem cY {l:List AG} {x y:Int} (hx:0≤AA l x) (hy:0≤AA l y) (h:AA l x=AA l y):x=y:=by
 have a:=BD hx;have b:=BD hy
 have e1:=a.2.2.2.2.2;have e2:=b.2.2.2.2.2
 rw [h] at e1
 omega
theorem BZ.tV {h:Hp} (hk:BZ h):h.buffer.length≤8:=
 few (fun x=>(AA h.AD x).toNat) hk.bnd (fun x hx=>(BD (hk.UT hx)).2.2.2.1) fun x hx y hy he=>cY (hk.UT hx) (hk.UT hy) (by have:=hk.UT hx;have:=hk.UT hy;omega)
theorem BZ.st {h:Hp} (hk:BZ h) (hn:S9 h):St h:=by
 refine ⟨hk.ol,hk.wl,hk.sites.len,by have:=hk.tV;omega,fun o ho=> ?_,fun s hs=> ?_,hn.weak,hn.buf⟩
 ·obtain ⟨i,hi,rfl⟩:=List.getElem_of_mem ho
  have hi8:i<8:=by have:=hk.ol;omega
  have:=hn.obj _ ho
  rw [DB hi] at this ⊢
  exact ⟨this.1,(hk.obj i hi8).len,this.2.2.2.2.2⟩
 ·obtain ⟨i,hi,rfl⟩:=List.getElem_of_mem hs
  have:=(hk.sites.sz i hi).2
  rw [RF hi];omega
theorem BZ.hr {h:Hp} (hk:BZ h) (i:Nat):(0≤(ob h.AD i).holds∧(ob h.AD i).holds≤20)∧(0≤(ob h.AD i).roots∧(ob h.AD i).roots≤20):=by
 by_cases hi:i<8
 ·cases hv:(ob h.AD i).live with
  | true=>exact ⟨((hk.obj i hi).lv hv).2.2.1,((hk.obj i hi).lv hv).2.2.2.1⟩
  | false=>have:=(hk.obj i hi).dead hv;omega
 ·have:ob h.AD i=⟨false,0,0,0,0,0,[],false⟩:=by unfold ob;rw [List.getD_eq_getElem?_getD,List.getElem?_eq_none (by have:=hk.ol;omega)];rfl
  rw [this];simp
theorem BZ.fd {h:Hp} (hk:BZ h) (i:Nat): ∀f∈(ob h.AD i).field,f= -1∨0≤f:=by
 intro f hf
 by_cases hi:i<8
 ·obtain ⟨j,hj,rfl⟩:=List.getElem_of_mem hf
  have ho:=hk.obj i hi
  by_cases h1:gI (ob h.AD i).field j= -1
  ·left;rw [DA hj];exact h1
  ·right
   have:=BD (ho.lead j (by have:=ho.len;omega) h1).2
   rw [DA hj];omega
 ·have:ob h.AD i=⟨false,0,0,0,0,0,[],false⟩:=by unfold ob;rw [List.getD_eq_getElem?_getD,List.getElem?_eq_none (by have:=hk.ol;omega)];rfl
  rw [this] at hf;simp at hf
theorem kinds (k:Int):k=1∨(k=2∨k=3∨k=5∨k=6)∨k=4∨k=7∨(k=8∨k=9)∨k=10∨ ¬(k=1∨k=2∨k=3∨k=4∨k=5∨k=6∨k=7∨k=8∨k=9∨k=10):=by omega
end Go.Proofs.Ytklmcfpgdfibnaa.P
namespace Go.Proofs.Ytklmcfpgdfibnaa.P
open Go Go.Proofs.Ytklmcfpgdfibnaa Go.Proofs.Ytklmcfpgdfibnaa.Eng
set_option linter.unusedVariables false
set_option maxHeartbeats 4000000
set_option linter.unusedVariables false
set_option linter.unusedSimpArgs false
attribute [local irreducible] prP gP gE gF AX ixW ldc ldg ldl stc stg scW mkW apW BF cl2 BS DK CW
variable {w0:World}
open Classical in
noncomputable def NN (h:Hp) (o:Op5):Hp×An:=if BZ h then E9 h o else (h,⟨2,0,[]⟩)
theorem VQ {h:Hp} {o:Op5} (hk:BZ h):NN h o=E9 h o:=by unfold NN;rw [if_pos hk]
theorem mW {h:Hp} {o:Op5} (hk: ¬BZ h):NN h o=(h,⟨2,0,[]⟩):=by unfold NN;rw [if_neg hk]
theorem QE {h:Hp} {o:Op5} {K:J2} (hf:Fits h) (hn:S9 h) (ha:F64 o.a) (hc:F64 o.c) (hK:K [I (NN h o).2.code,I (NN h o).2.val] (trees (NN h o).1++[tI (NN h o).2.freed])):cl2 ⟨Try.prog,w0⟩ 76 FK.sg [I o.kind,I o.a,I o.b,I o.c, .string o.site] (trees h) K:=by
 refine FK.cl2 ?_
 unfold FK.txt
 refine JH hf (PI hf hn (fun hk=>CT (CB ?_)) fun hk=>CT (CQ ?_))
 rotate_left
 ·rw [mW hk] at hK
  exact hK
 rw [VQ hk] at hK
 have st:=hk.st hn
 have hr:=hk.hr
 have hfd:=hk.fd
 have hss:=hk.sites
 have hcn: ∀o∈h.AD,F64 o.count:=fun o ho=>(hn.obj o ho).2.2.2.2.1
 clear hf hk
 obtain ⟨kd,a,b,c,s⟩:=o
 have hol:h.AD.length=8:=st.ol
 simp only at ha hc hr
 unfold E9 at hK
 simp only at hK
 have hold:=fun {K:J2} (hkd:kd=2∨kd=3∨kd=5∨kd=6)=>WH (w0:=w0) (h:=h) (kind:=kd) (id:=a) (b:=b) (c:=c) (s:=s) (K:=K) st ha hkd hr
 have store:=fun {K:J2}=>TX (w0:=w0) (h:=h) (a0:=kd) (a1:=a) (a2:=b) (a3:=c) (s:=s) (K:=K) st ha hc hfd
 have oF:=fun {K:J2}=>T2 (w0:=w0) (h:=h) (K:=K) st hcn
 have weak:=fun {K:J2}=>V5 (w0:=w0) (os:=h.AD) (ws:=h.B3) (cc:=tI h.buffer) (d:=tS h.sites) (kind:=kd) (k:=a) (b:=b) (c:=c) (s:=s) (K:=K) hol st.wl ha st.wf
 simp only [trees] at hold store oF ⊢
 rcases kinds kd with rfl | hkd | rfl | rfl | hkd | rfl | hkd
 ·rw [if_pos rfl] at hK
  exact BW (EP rfl (UF hol hss hK))
 ·rw [if_neg (by omega),if_pos hkd] at hK
  replace hold:=fun {K:J2}=>hold (K:=K) hkd
  rcases hkd with rfl | rfl | rfl | rfl
  all_goals
   repeat' (first | refine BT ?_ | refine CQ ?_ | refine CB ?_ | refine BW ?_ | simp only [AJ,AT,AL,AR,AS,AE,AI,AU,AK,AN,AO,AQ,AM,AP,BJ,BO,BL,BM,BN,BP,BK,A9,A4,A6,A7,A8,A5])
   exact hold hK
 ·simp only [if_neg (show ¬(4:Int)=1 by decide),if_neg (show ¬((4:Int)=2∨(4:Int)=3∨(4:Int)=5∨(4:Int)=6) by decide),if_true] at hK
  repeat' (first | refine BT ?_ | refine CQ ?_ | refine CB ?_ | refine BW ?_ | simp only [AJ,AT,AL,AR,AS,AE,AI,AU,AK,AN,AO,AQ,AM,AP,BJ,BO,BL,BM,BN,BP,BK,A9,A4,A6,A7,A8,A5])
  exact store hK
 ·simp only [if_neg (show ¬(7:Int)=1 by decide),if_neg (show ¬((7:Int)=2∨(7:Int)=3∨(7:Int)=5∨(7:Int)=6) by decide),if_neg (show ¬(7:Int)=4 by decide),if_true] at hK
  repeat' (first | refine BT ?_ | refine CQ ?_ | refine CB ?_ | refine BW ?_ | simp only [AJ,AT,AL,AR,AS,AE,AI,AU,AK,AN,AO,AQ,AM,AP,BJ,BO,BL,BM,BN,BP,BK,A9,A4,A6,A7,A8,A5])
  exact weak (fun _=>hK) (fun hh=>absurd rfl hh)
 ·rw [if_neg (by omega),if_neg (by omega),if_neg (by omega),if_neg (by omega),if_pos hkd] at hK
  rcases hkd with rfl | rfl
  all_goals
   repeat' (first | refine BT ?_ | refine CQ ?_ | refine CB ?_ | refine BW ?_ | simp only [AJ,AT,AL,AR,AS,AE,AI,AU,AK,AN,AO,AQ,AM,AP,BJ,BO,BL,BM,BN,BP,BK,A9,A4,A6,A7,A8,A5])
   exact weak (fun hh=>absurd hh (by decide)) (fun _=>hK)
 ·simp only [if_neg (show ¬(10:Int)=1 by decide),if_neg (show ¬((10:Int)=2∨(10:Int)=3∨(10:Int)=5∨(10:Int)=6) by decide),if_neg (show ¬(10:Int)=4 by decide),if_neg (show ¬(10:Int)=7 by decide),if_neg (show ¬((10:Int)=8∨(10:Int)=9) by decide),if_true] at hK
  repeat' (first | refine BT ?_ | refine CQ ?_ | refine CB ?_ | refine BW ?_ | simp only [AJ,AT,AL,AR,AS,AE,AI,AU,AK,AN,AO,AQ,AM,AP,BJ,BO,BL,BM,BN,BP,BK,A9,A4,A6,A7,A8,A5])
  exact oF hK
 ·rw [if_neg (by omega),if_neg (by omega),if_neg (by omega),if_neg (by omega),if_neg (by omega),if_neg (by omega)] at hK
  repeat' (first | refine BT ?_ | refine D8 (by first | with_reducible assumption | omega) ?_ | refine BW ?_ | simp only [AJ,AT,AL,AR,AS,AE,AI,AU,AK,AN,AO,AQ,AM,AP,BJ,BO,BL,BM,BN,BP,BK,A9,A4,A6,A7,A8,A5])
  all_goals first | exact hK | (exfalso;omega)
end Go.Proofs.Ytklmcfpgdfibnaa.P
namespace Go.Proofs.Ytklmcfpgdfibnaa.P
open Go Go.Proofs.Ytklmcfpgdfibnaa Go.Proofs.Ytklmcfpgdfibnaa.Eng
set_option linter.unusedVariables false
def okE (n:Int) (l:List ByteArray) (a b c d:Int) (s:ByteArray) (k v:Int) (xs:List Int):Bool:=(sD a b c d s&&tF k v xs)&&uU n l
def Fx (q:ByteArray×Int) (x:Int):ByteArray×Int:=(q.1++SI (x-q.2),x)
def base (n:Int) (l:List ByteArray) (a b c d:Int) (s:ByteArray) (k v:Int) (m:Nat):ByteArray:=((((((SI a++SI (b-n))++SI c)++SI (d-b))++lO l s)++V k)++SI (v-b))++V m
def stE (p:ByteArray×Int) (xs:List Int) (i:Nat):ByteArray×Int:=(xs.take i).foldl Fx p
theorem mG {p:ByteArray×Int} {xs:List Int} {i:Nat} (hi:i<xs.length):stE p xs (i+1)=Fx (stE p xs i) xs[i]:=by
 rw [stE,List.take_succ_eq_append_getElem hi,List.foldl_append];rfl
theorem kO {p:ByteArray×Int} {xs:List Int} (hp:OO p.2=true) (hx:xs.all OO=true): ∀i,i≤xs.length→OO (stE p xs i).2=true∧(stE p xs i).1.size≤p.1.size+7*i
 | 0,_=>⟨hp,Nat.le_refl _⟩
 | i+1,hi=>by
   obtain ⟨h1,h2⟩:=kO hp hx i (by omega)
   rw [mG (by omega)]
   refine ⟨List.all_eq_true.1 hx _ (List.getElem_mem _), ?_⟩
   have:=P5 (zg (xs[i]-(stE p xs i).2))
   simp only [Fx,ByteArray.size_append,SI];omega
theorem cH (l:List ByteArray) (s:ByteArray):(lO l s).size≤22:=by
 unfold lO;split
 ·have:=P5 (at_ l s+1);omega
 ·have h1:=P5 0
  have h2:=o7 s
  rw [ByteArray.size_append];omega
theorem QD (n:Int):(SI n).size≤7:=P5 _
def fA (n:Int) (l:List ByteArray) (a b c d:Int) (s:ByteArray) (k v:Int) (xs:List Int):ByteArray×Int×List ByteArray:=
 if okE n l a b c d s k v xs then ((stE (base n l a b c d s k v xs.length,b) xs xs.length).1,b,s5 l s) else (⟨#[]⟩,n,l)
theorem aC {n:Int} {l:List ByteArray} {a b c d:Int} {s:ByteArray} {k v:Int} {xs:List Int} (h:okE n l a b c d s k v xs=true):OO a=true∧OO b=true∧OO c=true∧OO d=true∧OO v=true∧OO n=true∧xs.all OO=true∧xs.length≤8∧(0≤k∧k≤6)∧l.length≤400:=by
 simp only [okE,sD,tF,uU,Bool.and_eq_true,decide_eq_true_eq] at h
 exact ⟨h.1.1.1.1.1.1,h.1.1.1.1.1.2,h.1.1.1.1.2,h.1.1.1.2,h.1.2.1.1.2,h.2.1.1,h.1.2.2,h.1.2.1.2,gB.1 h.1.2.1.1.1,h.2.1.2⟩
theorem gR (n:Int) (l:List ByteArray) (a b c d:Int) (s:ByteArray) (k v:Int) (m:Nat):(base n l a b c d s k v m).size≤71:=by
 have h1:=QD a;have h2:=QD (b-n);have h3:=QD c;have h4:=QD (d-b);have h5:=cH l s;have h6:=P5 k;have h7:=QD (v-b);have h8:=P5 m
 simp only [base,ByteArray.size_append];omega
end Go.Proofs.Ytklmcfpgdfibnaa.P
namespace Go.Proofs.Ytklmcfpgdfibnaa.P
open Go Go.Proofs.Ytklmcfpgdfibnaa Go.Proofs.Ytklmcfpgdfibnaa.Eng
set_option linter.unusedVariables false
end Go.Proofs.Ytklmcfpgdfibnaa.P
