/- A part of the proof. -/
import Derived.Test.YtklmcfpgdfibnaaRtHpQ
import Derived.Test.YtklmcfpgdfibnaaRtHpE
namespace Go.Proofs.Ytklmcfpgdfibnaa.P
open Go Go.Proofs.Ytklmcfpgdfibnaa Go.Proofs.Ytklmcfpgdfibnaa.Eng
set_option linter.unusedVariables false
def RB (os:List AV) (ids:List Int) (k:Nat):Prop:= ∃b∈ids, ∃s:Nat,AB os b=(s:Int)∧Reach os s k
theorem RB.next {os:List AV} {ids:List Int} {k:Nat} {j:Int} (h:RB os ids k) (hj:j∈BP os k):RB os ids j.toNat:=by
 obtain ⟨b,hb,s,hs,hr⟩:=h
 exact ⟨b,hb,s,hs, .step hr hj⟩
theorem RB.lt {os:List AV} {ids:List Int} {k:Nat} (h:RB os ids k):k<8:=by
 obtain ⟨b,_,s,hs,hr⟩:=h
 have:=BO (l:=os) (id:=b) (by omega)
 exact hr.lt (by omega)
theorem RB.snoc {os:List AV} {ids:List Int} {b:Int} {k:Nat}:RB os (ids++[b]) k↔RB os ids k∨ ∃s:Nat,AB os b=(s:Int)∧Reach os s k:=by
 constructor
 ·rintro ⟨x,hx,h⟩
  rcases List.mem_append.1 hx with hx | hx
  ·exact .inl ⟨x,hx,h⟩
  ·have hx:x=b:=by simpa using hx
   subst hx;exact .inr h
 ·rintro (⟨x,hx,h⟩ | h)
  ·exact ⟨x,List.mem_append_left _ hx,h⟩
  ·exact ⟨b,by simp,h⟩
structure MK (os:List AV) (ct:Nat→Int) (ids:List Int) (cs col:List Int):Prop where
 len:cs.length=8∧col.length=8
 f: ∀i,i<8→F64 (gI cs i)
 one: ∀k,k<8→gI col k=1→RB os ids k
 zero: ∀k,k<8→gI col k≠1→gI col k=0∧ ¬RB os ids k
 cnt: ∀i,i<8→gI cs i=w64 (ct i-S os (isC col 1) i)
section
variable {os:List AV} {ct:Nat→Int} {ids:List Int} {cs col cs' col':List Int} {b:Int} {s:Nat}
theorem MK.none (h:MK os ct ids cs col) (hb:AB os b<0):MK os ct (ids++[b]) cs col:=by
 refine ⟨h.len,h.f,fun k hk h1=>RB.snoc.2 (.inl (h.one k hk h1)),fun k hk h1=>⟨(h.zero k hk h1).1,fun hr=> ?_⟩,h.cnt⟩
 rcases RB.snoc.1 hr with hr | ⟨s,hs,_⟩
 ·exact (h.zero k hk h1).2 hr
 ·omega
theorem MK.some (h:MK os ct ids cs col) (hb:AB os b=(s:Int)) (hs:s<8) (p:JT os 1 (-1) cs col cs' col' s):MK os ct (ids++[b]) cs' col':=by
 have cl: ∀k,Reach os s k→k<8∧gI col' k=1:=fun k hr=>hr.closed (P:=fun k=>k<8∧gI col' k=1) ⟨hs,p.got⟩ fun x hx j hj=>by
  refine ⟨(CO hj).2.1, ?_⟩
  by_cases h1:gI col x=1
  ·refine p.JN _ (CO hj).2.1 (Decidable.byContradiction fun hn=> ?_)
   exact (h.zero _ (CO hj).2.1 hn).2 ((h.one x hx.1 h1).next hj)
  ·exact (p.clo x hx.1 hx.2 h1).2 j hj
 refine ⟨p.len,p.f,fun k hk h1=>RB.snoc.2 ?_,fun k hk h1=> ?_,fun i hi=> ?_⟩
 ·by_cases h0:gI col k=1
  ·exact .inl (h.one k hk h0)
  ·exact .inr ⟨s,hb,(p.clo k hk h1 h0).1⟩
 ·have e:=p.only k hk h1
  have h2:gI col k≠1:=by rw [←e];exact h1
  obtain ⟨z1,z2⟩:=h.zero k hk h2
  refine ⟨by rw [e];exact z1,fun hr=> ?_⟩
  rcases RB.snoc.1 hr with hr | ⟨s',hs',hr⟩
  ·exact z2 hr
  ·have:s'=s:=by omega
   subst this
   exact h1 (cl k hr).2
 ·rw [p.cnt i hi,h.cnt i hi,MM]
  congr 1
  omega
end
open Classical in
noncomputable def OA (os:List AV) (buf:List Int) (k:Nat):Bool:=decide (RB os buf k)
def Out (os:List AV) (ct:Nat→Int) (buf:List Int) (x:Nat):Prop:=x<8∧RB os buf x∧EX os ct (OA os buf) x
open Classical in
noncomputable def JA (os:List AV) (ct:Nat→Int) (buf:List Int) (k:Nat):Bool:=decide (RB os buf k∧ ¬ ∃x,Out os ct buf x∧Reach os x k)
theorem VK {os:List AV} {buf:List Int} {k:Nat}:OA os buf k=true↔RB os buf k:=by unfold OA;simp
theorem S8 {os:List AV} {buf:List Int} {k:Nat}:OA os buf k=false↔ ¬RB os buf k:=by unfold OA;simp
theorem I3 {os:List AV} {ct:Nat→Int} {buf:List Int} {k:Nat}:JA os ct buf k=true↔RB os buf k∧ ¬ ∃x,Out os ct buf x∧Reach os x k:=by unfold JA;simp
structure SC (os:List AV) (ct:Nat→Int) (buf:List Int) (ids:List Int) (cs col:List Int):Prop where
 si:SN os ct (OA os buf) cs col
 got: ∀b∈ids, ∀s:Nat,AB os b=(s:Int)→gI col s≠1
 wk: ∀k,k<8→gI col k=2→ ∀j∈BP os k,gI col j.toNat≠1
section
variable {os:List AV} {ct:Nat→Int} {buf ids:List Int} {cs col cs' col':List Int} {b:Int} {s:Nat}
theorem SC.start (h:MK os ct buf cs col):SC os ct buf [] cs col:=by
 refine ⟨⟨h.len,h.f,fun k hk=> ?_,fun k hk hc=> ?_,fun i hi=> ?_,fun k hk hc h0=> ?_,fun k hk h2=> ?_⟩,fun b hb=>by simp at hb,fun k hk h2=> ?_⟩
 ·by_cases h1:gI col k=1
  ·exact .inr (.inl h1)
  ·exact .inl (h.zero k hk h1).1
 ·exact (h.zero k hk fun h1=>S8.1 hc (h.one k hk h1)).1
 ·rw [h.cnt i hi]
  congr 2
  refine fP fun k hk=> ?_
  by_cases h1:gI col k=1
  ·simp [isC,h1]
  ·simp [isC,(h.zero k hk h1).1]
 ·exact absurd (VK.1 hc) (h.zero k hk (by omega)).2
 ·have:=(h.zero k hk (by omega)).1;omega
 ·have:=(h.zero k hk (by omega)).1;omega
theorem SC.none (h:SC os ct buf ids cs col) (hb:AB os b<0):SC os ct buf (ids++[b]) cs col:=
 ⟨h.si,fun x hx s hs=>by
   rcases List.mem_append.1 hx with hx | hx
   ·exact h.got x hx s hs
   ·have hx:x=b:=by simpa using hx
    subst hx;omega,h.wk⟩
theorem SC.some (h:SC os ct buf ids cs col) (hb:AB os b=(s:Int)) (hs:s<8) (p:QU os ct (OA os buf) col cs' col' s):SC os ct buf (ids++[b]) cs' col':=by
 refine ⟨p.si,fun x hx t ht=> ?_,fun k hk h2=> ?_⟩
 ·rcases List.mem_append.1 hx with hx | hx
  ·have:=BO (l:=os) (id:=x) (by omega)
   exact p.ng t (by omega) (h.got x hx t ht)
  ·have hx:x=b:=by simpa using hx
   subst hx
   have:t=s:=by omega
   subst this;exact p.got
 ·rcases p.wk k hk h2 with h3 | h3
  ·exact fun j hj=>p.ng _ (CO hj).2.1 (h.wk k hk h3 j hj)
  ·exact h3
theorem SC.stop (h:SC os ct buf buf cs col): ∀k,k<8→(gI col k=2↔JA os ct buf k=true):=by
 have ng: ∀k,RB os buf k→gI col k≠1:=fun k hr=>by
  obtain ⟨b,hb,s,hs,hr⟩:=hr
  have hb8:=BO (l:=os) (id:=b) (by omega)
  have:=hr.closed (P:=fun k=>(k<8∧RB os buf k)∧gI col k≠1) ⟨⟨by omega,b,hb,s,hs, .refl⟩,h.got b hb s hs⟩ fun x hx j hj=>by
   refine ⟨⟨(CO hj).2.1,hx.1.2.next hj⟩, ?_⟩
   rcases h.si.rng x hx.1.1 with h0 | h1 | h2
   ·have:=(h.si.blk x hx.1.1 (VK.2 hx.1.2) h0).2 j hj;omega
   ·exact absurd h1 hx.2
   ·exact h.wk x hx.1.1 h2 j hj
  exact this.2
 intro k hk
 rw [I3]
 constructor
 ·intro h2
  have hr:RB os buf k:=Classical.byContradiction fun hn=>by
   have:=h.si.out k hk (S8.2 hn);omega
  refine ⟨hr, ?_⟩
  rintro ⟨x,⟨hx8,hx,he⟩,hxk⟩
  have:=hxk.closed (P:=fun k=>(k<8∧RB os buf k)∧gI col k=0) ⟨⟨hx8,hx⟩,by
   rcases h.si.rng x hx8 with h0 | h1 | h2
   ·exact h0
   ·exact absurd h1 (ng x hx)
   ·exact absurd he (h.si.wht x hx8 h2)⟩ fun y hy j hj=>⟨⟨(CO hj).2.1,hy.1.2.next hj⟩,(h.si.blk y hy.1.1 (VK.2 hy.1.2) hy.2).2 j hj⟩
  omega
 ·rintro ⟨hr,hn⟩
  rcases h.si.rng k hk with h0 | h1 | h2
  ·obtain ⟨x,x8,xc,xe,xr⟩:=(h.si.blk k hk (VK.2 hr) h0).1
   exact absurd ⟨x,⟨x8,VK.1 xc,xe⟩,xr⟩ hn
  ·exact absurd h1 (ng k hr)
  ·exact h2
end
def mk8 (f:Nat→AV):List AV:=(List.range 8).map f
theorem CG (f:Nat→AV):(mk8 f).length=8:=by simp [mk8]
theorem HK {f:Nat→AV} {i:Nat} (h:i<8):ob (mk8 f) i=f i:=by
 rw [←DF (by rw [CG];exact h)];simp [mk8]
theorem JJ {f g:Nat→AV} (h: ∀i,i<8→f i=g i):mk8 f=mk8 g:=List.map_congr_left fun i hi=>h i (List.mem_range.1 hi)
theorem XI {os:List AV} (h:os.length=8):os=mk8 (ob os):=by
 apply List.ext_getElem (by rw [CG,h])
 intro i h1 h2
 rw [DF h1,DF h2,HK (by omega)]
theorem OB {f:Nat→AV} {k:Nat} {v:AV} (hk:k<8):(mk8 f).set k v=mk8 fun i=>if i=k then v else f i:=by
 apply List.ext_getElem (by simp [CG])
 intro i h1 h2
 have hi:i<8:=by rw [CG] at h2;exact h2
 rw [DF h1,DF h2,EW (by rw [CG];exact hk),HK hi,HK hi]
theorem Z4 {f:Nat→AV} {o:AV} (h:o∈mk8 f): ∃i,i<8∧o=f i:=by
 obtain ⟨i,hi,rfl⟩:=List.mem_map.1 h
 exact ⟨i,List.mem_range.1 hi,rfl⟩
theorem O2 {a b:List AV} {id:Int} (hl:a.length=b.length) (h: ∀i,i<a.length→(ob a i).live=(ob b i).live∧(ob a i).field=(ob b i).field):CI a id=CI b id:=by
 unfold CI
 congr 1
 apply List.ext_getElem (by simp [hl])
 intro i h1 h2
 simp only [List.length_map] at h1 h2
 rw [List.getElem_map,List.getElem_map,DF h1,DF h2]
 unfold LN
 rw [(h i h1).1,(h i h1).2]
theorem mR {a b:List AV} {s:Int} (hl:a.length=b.length) (h: ∀i,i<a.length→(ob a i).live=(ob b i).live∧(ob a i).gen=(ob b i).gen∧(ob a i).field=(ob b i).field):inE a s=inE b s:=by
 unfold inE
 by_cases hs:0≤s∧s≤(a.length:Int)-1
 ·have hi:=h s.toNat (by omega)
  rw [hi.1,hi.2.1,O2 hl fun i hi=>⟨(h i hi).1,(h i hi).2.2⟩,hl]
 ·rw [if_neg (fun hh=>hs hh.1),if_neg (fun hh=>hs (by rw [hl];exact hh.1))]
def C7 (os:List AV) (W:Nat→Bool) (i:Nat):AV:=if W i=true then B7 (ob os i).gen else {ob os i with purple:=false}
def FI (os:List AV) (W:Nat→Bool) (i:Nat):AV:=if (C7 os W i).live=true then {C7 os W i with count:=w64 (w64 ((C7 os W i).holds+(C7 os W i).roots)+inE (mk8 (C7 os W)) i)} else C7 os W i
def CV (W:Nat→Bool):Nat→List Int:=pick fun i=>if W i=true then [(i:Int)] else []
def IX (os:List AV) (W:Nat→Bool):Nat→List Int:=pick fun i=>if W i=true then [CE i (ob os i).gen] else []
theorem lV {α β:Type} {f:Nat→List α} {h:α→β} (n:Nat):(pick f n).map h=pick (fun i=>(f i).map h) n:=by
 induction n with
 | zero=>rfl
 | succ n ih=>simp only [pick,List.map_append,ih]
theorem eL {α:Type} {f g:Nat→List α} {n:Nat} (h: ∀i,i<n→f i=g i):pick f n=pick g n:=by
 induction n with
 | zero=>rfl
 | succ n ih=>simp only [pick];rw [ih fun i hi=>h i (by omega),h n (by omega)]
theorem SW (os:List AV) (W:Nat→Bool) (n:Nat):(CV W n).map (fun x=>CE x (ob os x.toNat).gen)=IX os W n:=by
 unfold CV IX
 rw [lV]
 refine eL fun i hi=> ?_
 split <;> simp
theorem KE {W:Nat→Bool} {n:Nat} {x:Int}:x∈CV W n↔ ∃i:Nat,i<n∧x=i∧W i=true:=by
 unfold CV
 induction n with
 | zero=>simp [pick]
 | succ n ih=>
   simp only [pick,List.mem_append,ih]
   constructor
   ·rintro (⟨i,h1,h2,h3⟩ | h)
    ·exact ⟨i,by omega,h2,h3⟩
    ·split at h
     ·rename_i hw;exact ⟨n,by omega,by simpa using h,hw⟩
     ·simp at h
   ·rintro ⟨i,h1,h2,h3⟩
    by_cases hi:i=n
    ·subst hi;right;rw [if_pos h3];simp [h2]
    ·exact .inl ⟨i,by omega,h2,h3⟩
noncomputable def H0 (os:List AV) (buf:List Int):List AV×List Int:=
 (mk8 (FI os (JA os (fun i=>(ob os i).count) buf)),IX os (JA os (fun i=>(ob os i).count) buf) 8)
end Go.Proofs.Ytklmcfpgdfibnaa.P
namespace Go.Proofs.Ytklmcfpgdfibnaa.P
open Go Go.Proofs.Ytklmcfpgdfibnaa Go.Proofs.Ytklmcfpgdfibnaa.Eng
set_option linter.unusedVariables false
set_option maxHeartbeats 4000000
set_option linter.unusedVariables false
set_option linter.unusedSimpArgs false
attribute [local irreducible] prP gP gE gF AX ixW ldc ldg ldl stc stg scW mkW apW BN cl2 BV EN CJ
variable {w0:World}
theorem YG {os:List AV} {i:Nat} (hi:i<os.length):(os.take (i+1)).map (·.count)=(os.take i).map (·.count)++[(ob os i).count]:=by
 rw [List.take_succ_eq_append_getElem hi,List.map_append,DF hi];rfl
theorem UN {os:List AV} {b c d:List T} {K:J2} (hol:os.length=8) (h:K [] [tI (os.map (·.count)),tI (List.replicate 8 0)]):cl2 ⟨Try.prog,w0⟩ 56 FA.sg [] [tR tO os,b,c,d] K:=by
 refine FA.cl2 ?_
 unfold FA.txt
 simp only [AH,AR,AN,AS,AJ,AD,AG,AP,AO,AK,AM,AL,AI,AQ,BD,BI,BH,BJ,BG,BF,BE,A5,AZ,A4,A6,A7,AY]
 refine BC (fun i=>[iv os.length,iv i]) (fun i=>[tI ((os.take i).map (·.count)),tI (List.replicate i 0)]) os.length (fun _=>True) rfl rfl trivial (fun R i hi hP hR=> ?_)
 have hln:((os.take i).map (·.count)).length=i:=by simp;omega
 have hl2:(List.replicate i (0:Int)).length=i:=List.length_replicate
 simp only [AH,AR,AN,AS,AJ,AD,AG,AP,AO,AK,AM,AL,AI,AQ,BD,BI,BH,BJ,BG,BF,BE,A5,AZ,A4,A6,A7,AY]
 refine A8 (AW (fun hlt=> ?_) fun hge=> ?_)
 ·have hlt:i<os.length:=by omega
  replace hR:=hR hlt trivial
  rw [YG hlt, ←EB,List.replicate_succ', ←EB] at hR
  refine BQ (AT hlt (KN hlt ?_))
  simp only [bC]
  exact A8 (C3 (by omega) (EJ rfl (by omega) (EJ rfl (by omega) (BA (by omega) hR))))
 ·have:i=os.length:=by omega
  subst this
  rw [List.take_length,hol];exact h
theorem UL {os:List AV} {b c d:List T} {K:J2} (hol:os.length=8) (h:K [] [tI (os.map (·.count)),tI (List.replicate 8 0)]):cl2 ⟨Try.prog,w0⟩ 155 FH.sg [] [tR tO os,b,c,d] K:=by
 refine FH.cl2 ?_
 unfold FH.txt
 simp only [AH,AR,AN,AS,AJ,AD,AG,AP,AO,AK,AM,AL,AI,AQ,BD,BI,BH,BJ,BG,BF,BE,A5,AZ,A4,A6,A7,AY]
 refine BC (fun i=>[iv i]) (fun i=>[tI ((os.take i).map (·.count)),tI (List.replicate i 0)]) os.length (fun _=>True) rfl rfl trivial (fun R i hi hP hR=> ?_)
 have hln:((os.take i).map (·.count)).length=i:=by simp;omega
 have hl2:(List.replicate i (0:Int)).length=i:=List.length_replicate
 simp only [AH,AR,AN,AS,AJ,AD,AG,AP,AO,AK,AM,AL,AI,AQ,BD,BI,BH,BJ,BG,BF,BE,A5,AZ,A4,A6,A7,AY]
 refine A8 (BK (I4 (fun hlt=> ?_) fun hge=> ?_))
 ·have hlt':i<os.length:=by omega
  replace hR:=hR hlt' trivial
  rw [YG hlt', ←EB,List.replicate_succ', ←EB] at hR
  refine A8 (C6 hlt rfl (C3 (by omega) ?_))
  exact AT hlt' (HA (v:=I (ob os i).count) hlt' (by decide) rfl (EJ rfl (by omega) (EJ rfl (by omega) (BA (by omega) hR))))
 ·have:i=os.length:=by omega
  subst this
  refine C2 hge rfl (BU ?_)
  rw [List.take_length,hol];exact h
theorem XM {cs col:List Int} {W:Nat→Bool} {K:J2} (hl:col.length=8) (hw: ∀k,k<8→(gI col k=2↔W k=true)) (h:K [] [tI (CV W 8)]):cl2 ⟨Try.prog,w0⟩ 60 GV.sg [] [tI cs,tI col] K:=by
 refine GV.cl2 ?_
 unfold GV.txt
 simp only [AH,AR,AN,AS,AJ,AD,AG,AP,AO,AK,AM,AL,AI,AQ,BD,BI,BH,BJ,BG,BF,BE,A5,AZ,A4,A6,A7,AY]
 refine BC (fun i=>[iv col.length,iv i]) (fun i=>[tI (CV W i)]) col.length (fun _=>True) rfl rfl trivial (fun R i hi hP hR=> ?_)
 have hln:(CV W i).length≤i:=JY (fun i=>by split <;> simp) i
 simp only [AH,AR,AN,AS,AJ,AD,AG,AP,AO,AK,AM,AL,AI,AQ,BD,BI,BH,BJ,BG,BF,BE,A5,AZ,A4,A6,A7,AY]
 refine A8 (AW (fun hlt=> ?_) fun hge=> ?_)
 ·have hlt:i<col.length:=by omega
  replace hR:=hR hlt trivial
  have hwi:=hw i (by omega)
  refine BQ (AT hlt (ldI hlt (BM (AW (fun h2=> ?_) fun h2=> ?_))))
  ·have e:CV W (i+1)=CV W i++[(i:Int)]:=by show CV W i++(if W i=true then [(i:Int)] else [])=_;rw [if_pos (hwi.1 h2)]
   rw [e, ←EB] at hR
   exact EJ rfl (by omega) (BA (by omega) hR)
  ·have e:CV W (i+1)=CV W i:=by show CV W i++(if W i=true then [(i:Int)] else [])=_;rw [if_neg (fun hh=>h2 (hwi.2 hh)),List.append_nil]
   rw [e] at hR
   exact BA (by omega) hR
 ·have:i=col.length:=by omega
  subst this
  rw [hl];exact h
theorem XR {cs col:List Int} {W:Nat→Bool} {K:J2} (hl:col.length=8) (hw: ∀k,k<8→(gI col k=2↔W k=true)) (h:K [] [tI (CV W 8)]):cl2 ⟨Try.prog,w0⟩ 158 GX.sg [] [tI cs,tI col] K:=by
 refine GX.cl2 ?_
 unfold GX.txt
 simp only [AH,AR,AN,AS,AJ,AD,AG,AP,AO,AK,AM,AL,AI,AQ,BD,BI,BH,BJ,BG,BF,BE,A5,AZ,A4,A6,A7,AY]
 refine BC (fun i=>[iv i]) (fun i=>[tI (CV W i)]) col.length (fun _=>True) rfl rfl trivial (fun R i hi hP hR=> ?_)
 have hln:(CV W i).length≤i:=JY (fun i=>by split <;> simp) i
 simp only [AH,AR,AN,AS,AJ,AD,AG,AP,AO,AK,AM,AL,AI,AQ,BD,BI,BH,BJ,BG,BF,BE,A5,AZ,A4,A6,A7,AY]
 refine A8 (AW (fun hlt=> ?_) fun hge=> ?_)
 ·have hlt:i<col.length:=by omega
  replace hR:=hR hlt trivial
  have hwi:=hw i (by omega)
  refine BQ (AT hlt (ldI hlt (BM (AW (fun h2=> ?_) fun h2=> ?_))))
  ·have e:CV W (i+1)=CV W i++[(i:Int)]:=by show CV W i++(if W i=true then [(i:Int)] else [])=_;rw [if_pos (hwi.1 h2)]
   rw [e, ←EB] at hR
   exact EJ rfl (by omega) (BA (by omega) hR)
  ·have e:CV W (i+1)=CV W i:=by show CV W i++(if W i=true then [(i:Int)] else [])=_;rw [if_neg (fun hh=>h2 (hwi.2 hh)),List.append_nil]
   rw [e] at hR
   exact BA (by omega) hR
 ·have:i=col.length:=by omega
  subst this
  rw [hl];exact h
theorem MK.start {os:List AV} (hol:os.length=8) (hc: ∀o∈os,F64 o.count):MK os (fun i=>(ob os i).count) [] (os.map (·.count)) (List.replicate 8 0):=by
 have hz: ∀k,k<8→gI (List.replicate 8 (0:Int)) k=0:=fun k hk=>by unfold gI;rw [List.getD_eq_getElem?_getD,List.getElem?_replicate,if_pos hk];rfl
 have hcs: ∀i,i<8→gI (os.map (·.count)) i=(ob os i).count:=fun i hi=>by
  rw [←D4 (by simp;omega),List.getElem_map,DF (by omega)]
 have hF: ∀i,i<8→F64 (ob os i).count:=fun i hi=>hc _ (H9 (by omega))
 refine ⟨⟨by simp [hol],by simp⟩,fun i hi=>by rw [hcs i hi];exact hF i hi,fun k hk h1=> ?_,fun k hk h1=>⟨hz k hk, ?_⟩,fun i hi=> ?_⟩
 ·rw [hz k hk] at h1;omega
 ·rintro ⟨b,hb,_⟩;simp at hb
 ·have:S os (isC (List.replicate 8 0) 1) i=0:=I9 fun k hk=>by unfold isC;rw [hz k hk];rfl
  rw [hcs i hi,this,Int.sub_zero,KC (hF i hi)]
theorem uP {os:List AV} {W:Nat→Bool} {j:Nat} (hj:j<(CV W 8).length) {x:Nat} (hx:gI (CV W 8) j=(x:Int)):(fun i:Nat=>if ((i:Nat):Int)∈(CV W 8).take (j+1) then B7 (ob os i).gen else ob os i)=fun i=>if i=x then B7 (ob os x).gen else (if ((i:Nat):Int)∈(CV W 8).take j then B7 (ob os i).gen else ob os i):=by
 funext i
 rw [List.take_succ_eq_append_getElem hj,D4 hj,hx]
 simp only [List.mem_append,List.mem_singleton]
 by_cases hi:i=x
 ·subst hi;simp
 ·have: ¬(i:Int)=(x:Int):=by omega
  simp [hi,this]
def QQ (os:List AV) (W:Nat→Bool) (i:Nat):AV:=if W i=true then B7 (ob os i).gen else ob os i
theorem h9 (os:List AV) (W:Nat→Bool) (i:Nat):{QQ os W i with purple:=false}=C7 os W i:=by
 unfold QQ C7
 split <;> rfl
theorem PL (os:List AV) (W:Nat→Bool) (i:Nat):(FI os W i).live=(C7 os W i).live∧(FI os W i).gen=(C7 os W i).gen∧(FI os W i).field=(C7 os W i).field:=by
 unfold FI;split <;> exact ⟨rfl,rfl,rfl⟩
theorem bP (os:List AV) (W:Nat→Bool) (i:Nat):(QQ os W i).live=(C7 os W i).live∧(QQ os W i).gen=(C7 os W i).gen∧(QQ os W i).field=(C7 os W i).field:=by
 rw [←h9];exact ⟨rfl,rfl,rfl⟩
theorem bZ {os:List AV} (hof: ∀o∈os,OF o) (hol:os.length=8) (W:Nat→Bool) {i:Nat} (hi:i<8):(C7 os W i).field.length=3:=by
 unfold C7
 split
 ·rfl
 ·exact (hof _ (H9 (by omega))).len
theorem VH {h:Hp} {K:J2} (st:St h) (hc: ∀o∈h.AE,F64 o.count) (hK:K [] [tR tO (H0 h.AE h.buffer).1,tR tW h.B1,[],tS h.sites,tI (H0 h.AE h.buffer).2]):cl2 ⟨Try.prog,w0⟩ 29 F5.sg [] (trees h) K:=by
 refine F5.cl2 ?_
 unfold F5.txt
 refine ON st.fits ?_
 obtain ⟨os,ws,buf,ss⟩:=h
 have hol:os.length=8:=st.ol
 have hof: ∀o∈os,OF o:=st.of
 have hb:buf.length≤100:=st.bl
 have hbf: ∀x∈buf,F64 x:=st.bf
 simp only at hc hK
 simp only [trees]
 obtain ⟨ct,hct⟩: ∃ct:Nat→Int,ct=fun i=>(ob os i).count:=⟨_,rfl⟩
 obtain ⟨W,hW⟩: ∃W,W=JA os ct buf:=⟨_,rfl⟩
 unfold H0 at hK
 rw [←hct, ←hW] at hK
 simp only [AH,AR,AN,AS,AJ,AD,AG,AP,AO,AK,AM,AL,AI,AQ,BD,BI,BH,BJ,BG,BF,BE,A5,AZ,A4,A6,A7,AY]
 refine CA (DM (by omega) (UN hol ?_))
 refine FP (α:=Nat×List Int×List Int) (fun q=>[iv buf.length,iv q.1]) (fun q=>[tR tO os,tR tW ws,tI buf,tS ss,tI q.2.1,tI q.2.2]) (fun q=>buf.length-q.1) (fun q=>q.1≤buf.length∧MK os ct (buf.take q.1) q.2.1 q.2.2) (0,os.map (·.count),List.replicate 8 0) rfl rfl ⟨Nat.zero_le _,by rw [hct];exact MK.start hol hc⟩ (fun R q hq hR=> ?_)
 obtain ⟨i,cs,col⟩:=q
 obtain ⟨hi,mk⟩:=hq
 simp only at hi mk
 simp only [AH,AR,AN,AS,AJ,AD,AG,AP,AO,AK,AM,AL,AI,AQ,BD,BI,BH,BJ,BG,BF,BE,A5,AZ,A4,A6,A7,AY]
 refine A8 (AW (fun hlt=> ?_) fun hge=> ?_)
 ·have hlt:i<buf.length:=by omega
  have hx:=hbf _ (DW hlt)
  have nx:=fun cs' col' (m:MK os ct (buf.take i++[gI buf i]) cs' col')=>hR (i+1,cs',col') ⟨by simp only;omega,by simp only;rw [List.take_succ_eq_append_getElem hlt,D4 hlt];exact m⟩ (by simp only;omega)
  refine AT hlt (ldI hlt (CM hx (by omega) (UM hol hof mk.len.1 mk.len.2 mk.f (fun hn=> ?_) fun s hs s8 cs' col' p=> ?_)))
  ·exact BA (by omega) (nx _ _ (mk.none hn))
  ·exact BA (by omega) (nx _ _ (mk.some hs s8 p))
 have:i=buf.length:=by omega
 subst this
 rw [List.take_length] at mk
 refine FP (α:=Nat×List Int×List Int) (fun q=>[iv buf.length,iv q.1]) (fun q=>[tR tO os,tR tW ws,tI buf,tS ss,tI q.2.1,tI q.2.2]) (fun q=>buf.length-q.1) (fun q=>q.1≤buf.length∧SC os ct buf (buf.take q.1) q.2.1 q.2.2) (0,cs,col) rfl rfl ⟨Nat.zero_le _,SC.start mk⟩ (fun R q hq hR=> ?_)
 obtain ⟨i,cs,col⟩:=q
 obtain ⟨hi,sc⟩:=hq
 simp only at hi sc
 simp only [AH,AR,AN,AS,AJ,AD,AG,AP,AO,AK,AM,AL,AI,AQ,BD,BI,BH,BJ,BG,BF,BE,A5,AZ,A4,A6,A7,AY]
 refine A8 (AW (fun hlt=> ?_) fun hge=> ?_)
 ·have hlt:i<buf.length:=by omega
  have hx:=hbf _ (DW hlt)
  have nx:=fun cs' col' (m:SC os ct buf (buf.take i++[gI buf i]) cs' col')=>hR (i+1,cs',col') ⟨by simp only;omega,by simp only;rw [List.take_succ_eq_append_getElem hlt,D4 hlt];exact m⟩ (by simp only;omega)
  refine AT hlt (ldI hlt (CM hx (by omega) (UO hol hof sc.si (fun hn=> ?_) fun s hs s8 cs' col' p=> ?_)))
  ·exact BA (by omega) (nx _ _ (sc.none hn))
  ·exact BA (by omega) (nx _ _ (sc.some hs s8 p))
 have:i=buf.length:=by omega
 subst this
 rw [List.take_length] at sc
 have wh:=sc.stop
 rw [←hW] at wh
 refine XM sc.si.len.2 wh ?_
 clear hR sc mk
 have hwn:(CV W 8).length≤8:=JY (fun i=>by split <;> simp) 8
 refine BC (fun j=>[iv (CV W 8).length,iv j]) (fun j=>[tI (((CV W 8).take j).map fun x=>CE x (ob os x.toNat).gen),tI (CV W 8),tR tO (mk8 fun i=>if ((i:Nat):Int)∈(CV W 8).take j then B7 (ob os i).gen else ob os i),tR tW ws,tI buf,tS ss]) (CV W 8).length (fun _=>True) (by simp only [AH,AR,AN,AS,AJ,AD,AG,AP,AO,AK,AM,AL,AI,AQ,BD,BI,BH,BJ,BG,BF,BE,A5,AZ,A4,A6,A7,AY];rfl) ?_ trivial (fun R j hj hP hR=> ?_)
 ·simp only [List.take_zero,List.map_nil,List.not_mem_nil,if_false]
  rw [←XI hol];rfl
 have hln:(((CV W 8).take j).map fun x=>CE x (ob os x.toNat).gen).length=j:=by simp;omega
 simp only [AH,AR,AN,AS,AJ,AD,AG,AP,AO,AK,AM,AL,AI,AQ,BD,BI,BH,BJ,BG,BF,BE,A5,AZ,A4,A6,A7,AY]
 simp only [CG]
 refine A8 (AW (fun hlt=> ?_) fun hge=> ?_)
 ·have hlt:j<(CV W 8).length:=by omega
  replace hR:=hR hlt trivial
  obtain ⟨x,x8,hx,hwx⟩:=KE.1 (DW hlt)
  have xl:x<os.length:=by omega
  rw [uP hlt hx,List.take_succ_eq_append_getElem hlt,List.map_append,D4 hlt,hx, ←OB x8] at hR
  refine AT hlt (ldI hlt ?_)
  rw [hx]
  refine AT xl (HA (v:=I (ob os x).gen) xl (by decide) rfl (JD (EJ rfl (by omega) (AT xl (HA (v:=I (ob os x).gen) xl (by decide) rfl (T1 (AT (by omega) ?_)))))))
  refine LD (f:=tO) (by rw [CG];exact x8) (y:=B7 (ob os x).gen) rfl (BA (by omega) ?_)
  simp only [List.map_cons,List.map_nil,Int.toNat_natCast] at hR
  rw [←EB] at hR
  exact hR
 have:j=(CV W 8).length:=by omega
 subst this
 have e1:(fun i:Nat=>if ((i:Nat):Int)∈(CV W 8).take (CV W 8).length then B7 (ob os i).gen else ob os i)=fun i=>if ((i:Nat):Int)∈CV W 8 then B7 (ob os i).gen else ob os i:=by rw [List.take_length]
 have e2:mk8 (fun i=>if ((i:Nat):Int)∈CV W 8 then B7 (ob os i).gen else ob os i)=mk8 (QQ os W):=JJ fun i hi=>by
  unfold QQ
  by_cases hw:W i=true
  ·rw [if_pos hw,if_pos (KE.2 ⟨i,hi,rfl,hw⟩)]
  ·rw [if_neg hw,if_neg fun hm=>hw (by obtain ⟨k,_,h2,h3⟩:=KE.1 hm;have:k=i:=by omega
                                       subst this;exact h3)]
 rw [e1,e2,List.take_length,SW]
 clear hR e1 e2
 refine BC (fun i=>[iv 8,iv i]) (fun i=>[tI (IX os W 8),tR tO (mk8 fun k=>if k<i then FI os W k else QQ os W k),tR tW ws,tI buf,tS ss]) 8 (fun _=>True) rfl rfl trivial (fun R i hi hP hR=> ?_)
 simp only [AH,AR,AN,AS,AJ,AD,AG,AP,AO,AK,AM,AL,AI,AQ,BD,BI,BH,BJ,BG,BF,BE,A5,AZ,A4,A6,A7,AY]
 simp only [CG]
 refine A8 (AW (fun hlt=> ?_) fun hge=> ?_)
 ·have hlt:i<8:=by omega
  replace hR:=hR hlt trivial
  have hml:i<(mk8 fun k=>if k<i then FI os W k else QQ os W k).length:=by rw [CG];exact hlt
  have hoi:(mk8 fun k=>if k<i then FI os W k else QQ os W k)[i]=QQ os W i:=by rw [DF hml,HK hlt,if_neg (by omega)]
  have hset: ∀v,v=FI os W i→(mk8 fun k=>if k<i then FI os W k else QQ os W k).set i v=mk8 fun k=>if k<i+1 then FI os W k else QQ os W k:=fun v hv=>by
   rw [OB hlt]
   refine JJ fun k hk=> ?_
   by_cases h1:k=i
   ·subst h1;rw [if_pos rfl,if_pos (by omega),hv]
   ·rw [if_neg h1]
    by_cases h2:k<i
    ·rw [if_pos h2,if_pos (by omega)]
    ·rw [if_neg h2,if_neg (by omega)]
  have hin: ∀v,v=C7 os W i→inE ((mk8 fun k=>if k<i then FI os W k else QQ os W k).set i v) i=inE (mk8 (C7 os W)) i:=fun v hv=>by
   rw [OB hlt]
   refine mR (by rw [CG,CG]) fun k hk=> ?_
   rw [CG] at hk
   rw [HK hk,HK hk]
   by_cases h1:k=i
   ·subst h1;rw [if_pos rfl,hv];exact ⟨rfl,rfl,rfl⟩
   ·rw [if_neg h1]
    by_cases h2:k<i
    ·rw [if_pos h2];exact PL os W k
    ·rw [if_neg h2];exact bP os W k
  have hlen3: ∀o∈(mk8 fun k=>if k<i then FI os W k else QQ os W k).set i (C7 os W i),(o.field.length:Int)≤1048576:=fun o ho=>by
   rw [OB hlt] at ho
   obtain ⟨k,hk,rfl⟩:=Z4 ho
   have hm:=bZ hof hol W hk
   by_cases h1:k=i
   ·subst h1;rw [if_pos rfl];omega
   ·rw [if_neg h1]
    by_cases h2:k<i
    ·rw [if_pos h2,(PL os W k).2.2];omega
    ·rw [if_neg h2,(bP os W k).2.2];omega
  generalize (mk8 fun k=>if k<i then FI os W k else QQ os W k)=M at hml hoi hset hin hlen3 ⊢
  have hM8:M.length=8:=by have:=congrArg List.length (hset (FI os W i) rfl);rw [List.length_set,CG] at this;exact this
  refine BQ (AT hlt ?_)
  refine O0 (f:=tO) (c:=7) (y:={M[i] with purple:=false}) hml (by decide) rfl rfl ?_
  rw [hoi,h9]
  refine lG (v:= .bool (C7 os W i).live) hml rfl ?_
  cases hv:(C7 os W i).live with
  | true=>
    refine B2 (H7 (v:=I (C7 os W i).holds) hml (by decide) rfl (H7 (v:=I (C7 os W i).roots) hml (by decide) rfl (GJ ?_)))
    refine MD ⟨by omega,by omega⟩ (by rw [List.length_set,hM8];decide) hlen3 ?_
    rw [hin _ rfl]
    refine GJ (HD hml ?_)
    rw [hset _ (by unfold FI;rw [if_pos hv])]
    exact BA (by omega) hR
  | false=>
    refine BU ?_
    rw [hset _ (by unfold FI;rw [if_neg (by rw [hv];decide)])]
    exact BA (by omega) hR
 ·have:i=8:=by omega
  subst this
  rw [JJ (g:=FI os W) fun k hk=>if_pos hk]
  exact hK
theorem gR {a b c d e f g:List T} {l:List (List T)}:nxc (a::b::c::d::e::f::g::l) 6=g:=rfl
theorem XE {h:Hp} {K:J2} (st:St h) (hc: ∀o∈h.AE,F64 o.count) (hK:K [] [tR tO (H0 h.AE h.buffer).1,tR tW h.B1,[],tS h.sites,tI (H0 h.AE h.buffer).2]):cl2 ⟨Try.prog,w0⟩ 127 GA.sg [] (trees h) K:=by
 refine GA.cl2 ?_
 unfold GA.txt
 refine KW st.fits ?_
 obtain ⟨os,ws,buf,ss⟩:=h
 have hol:os.length=8:=st.ol
 have hof: ∀o∈os,OF o:=st.of
 have hb:buf.length≤100:=st.bl
 have hbf: ∀x∈buf,F64 x:=st.bf
 simp only at hc hK
 simp only [trees]
 obtain ⟨ct,hct⟩: ∃ct:Nat→Int,ct=fun i=>(ob os i).count:=⟨_,rfl⟩
 obtain ⟨W,hW⟩: ∃W,W=JA os ct buf:=⟨_,rfl⟩
 unfold H0 at hK
 rw [←hct, ←hW] at hK
 simp only [AH,AR,AN,AS,AJ,AD,AG,AP,AO,AK,AM,AL,AI,AQ,BD,BI,BH,BJ,BG,BF,BE,A5,AZ,A4,A6,A7,AY]
 refine CA (DM (by omega) (UL hol ?_))
 refine FP (α:=Nat×List Int×List Int) (fun q=>[iv q.1]) (fun q=>[[],tR tO os,tR tW ws,tI buf,tS ss,tI q.2.1,tI q.2.2]) (fun q=>buf.length-q.1) (fun q=>q.1≤buf.length∧MK os ct (buf.take q.1) q.2.1 q.2.2) (0,os.map (·.count),List.replicate 8 0) rfl rfl ⟨Nat.zero_le _,by rw [hct];exact MK.start hol hc⟩ (fun R q hq hR=> ?_)
 obtain ⟨i,cs,col⟩:=q
 obtain ⟨hi,mk⟩:=hq
 simp only at hi mk
 simp only [AH,AR,AN,AS,AJ,AD,AG,AP,AO,AK,AM,AL,AI,AQ,BD,BI,BH,BJ,BG,BF,BE,A5,AZ,A4,A6,A7,AY]
 simp only [gR]
 refine A8 (AW (fun hlt=> ?_) fun hge=> ?_)
 ·have hlt:i<buf.length:=by omega
  have hx:=hbf _ (DW hlt)
  have nx:=fun cs' col' (m:MK os ct (buf.take i++[gI buf i]) cs' col')=>hR (i+1,cs',col') ⟨by simp only;omega,by simp only;rw [List.take_succ_eq_append_getElem hlt,D4 hlt];exact m⟩ (by simp only;omega)
  refine AT hlt (ldI hlt (CL hx (by omega) (UI hol hof mk.len.1 mk.len.2 mk.f (fun hn=> ?_) fun s hs s8 cs' col' p=> ?_)))
  ·exact BA (by omega) (nx _ _ (mk.none hn))
  ·exact BA (by omega) (nx _ _ (mk.some hs s8 p))
 have:i=buf.length:=by omega
 subst this
 rw [List.take_length] at mk
 refine FP (α:=Nat×List Int×List Int) (fun q=>[iv q.1]) (fun q=>[[],tR tO os,tR tW ws,tI buf,tS ss,tI q.2.1,tI q.2.2]) (fun q=>buf.length-q.1) (fun q=>q.1≤buf.length∧SC os ct buf (buf.take q.1) q.2.1 q.2.2) (0,cs,col) rfl rfl ⟨Nat.zero_le _,SC.start mk⟩ (fun R q hq hR=> ?_)
 obtain ⟨i,cs,col⟩:=q
 obtain ⟨hi,sc⟩:=hq
 simp only at hi sc
 simp only [AH,AR,AN,AS,AJ,AD,AG,AP,AO,AK,AM,AL,AI,AQ,BD,BI,BH,BJ,BG,BF,BE,A5,AZ,A4,A6,A7,AY]
 simp only [gR]
 refine A8 (AW (fun hlt=> ?_) fun hge=> ?_)
 ·have hlt:i<buf.length:=by omega
  have hx:=hbf _ (DW hlt)
  have nx:=fun cs' col' (m:SC os ct buf (buf.take i++[gI buf i]) cs' col')=>hR (i+1,cs',col') ⟨by simp only;omega,by simp only;rw [List.take_succ_eq_append_getElem hlt,D4 hlt];exact m⟩ (by simp only;omega)
  refine AT hlt (ldI hlt (CL hx (by omega) (UJ hol hof sc.si (fun hn=> ?_) fun s hs s8 cs' col' p=> ?_)))
  ·exact BA (by omega) (nx _ _ (sc.none hn))
  ·exact BA (by omega) (nx _ _ (sc.some hs s8 p))
 have:i=buf.length:=by omega
 subst this
 rw [List.take_length] at sc
 have wh:=sc.stop
 rw [←hW] at wh
 refine XR sc.si.len.2 wh ?_
 clear hR sc mk
 have hwn:(CV W 8).length≤8:=JY (fun i=>by split <;> simp) 8
 refine BC (fun i=>[iv i]) (fun i=>[tI (IX os W i),tI (CV W 8),tR tO (mk8 fun k=>if k<i then C7 os W k else ob os k),tR tW ws,tI buf,tS ss]) 8 (fun _=>True) rfl ?_ trivial (fun R i hi hP hR=> ?_)
 ·simp only [Nat.not_lt_zero,if_false]
  rw [←XI hol];rfl
 have hln:(IX os W i).length≤i:=JY (fun i=>by split <;> simp) i
 simp only [AH,AR,AN,AS,AJ,AD,AG,AP,AO,AK,AM,AL,AI,AQ,BD,BI,BH,BJ,BG,BF,BE,A5,AZ,A4,A6,A7,AY]
 simp only [gR,CG]
 refine A8 (AW (fun hlt=> ?_) fun hge=> ?_)
 ·have hlt:i<8:=by omega
  replace hR:=hR hlt trivial
  have hml:i<(mk8 fun k=>if k<i then C7 os W k else ob os k).length:=by rw [CG];exact hlt
  have hoi:(mk8 fun k=>if k<i then C7 os W k else ob os k)[i]=ob os i:=by rw [DF hml,HK hlt,if_neg (by omega)]
  have hset: ∀v,v=C7 os W i→(mk8 fun k=>if k<i then C7 os W k else ob os k).set i v=mk8 fun k=>if k<i+1 then C7 os W k else ob os k:=fun v hv=>by
   rw [OB hlt]
   refine JJ fun k hk=> ?_
   by_cases h1:k=i
   ·subst h1;rw [if_pos rfl,if_pos (by omega),hv]
   ·rw [if_neg h1]
    by_cases h2:k<i
    ·rw [if_pos h2,if_pos (by omega)]
    ·rw [if_neg h2,if_neg (by omega)]
  generalize (mk8 fun k=>if k<i then C7 os W k else ob os k)=M at hml hoi hset ⊢
  have hM8:M.length=8:=by have:=congrArg List.length (hset (C7 os W i) rfl);rw [List.length_set,CG] at this;exact this
  have io:i<os.length:=by omega
  refine BQ (AT hlt ?_)
  refine O0 (f:=tO) (c:=7) (y:={M[i] with purple:=false}) hml (by decide) rfl rfl ?_
  rw [hoi]
  refine OG (by omega) (AW (fun hm=> ?_) fun hm=> ?_)
  ·have hw:W i=true:=by
    obtain ⟨k,_,h2,h3⟩:=KE.1 hm
    have:k=i:=by omega
    subst this;exact h3
   have ef:IX os W (i+1)=IX os W i++[CE i (ob os i).gen]:=by show IX os W i++(if W i=true then [CE i (ob os i).gen] else [])=_;rw [if_pos hw]
   rw [ef, ←EB, ←hset (B7 (ob os i).gen) (by unfold C7;rw [if_pos hw])] at hR
   refine AT io (HA (v:=I (ob os i).gen) io (by decide) rfl (IC (EJ rfl (by omega) (AT io (HA (v:=I (ob os i).gen) io (by decide) rfl (I5 ?_))))))
   simp only [AH,AR,AN,AS,AJ,AD,AG,AP,AO,AK,AM,AL,AI,AQ,BD,BI,BH,BJ,BG,BF,BE,A5,AZ,A4,A6,A7,AY]
   simp only [List.length_set,hM8]
   refine AT hlt (LD (f:=tO) (by rw [List.length_set];exact hml) (y:=B7 (ob os i).gen) rfl ?_)
   rw [List.set_set]
   exact BA (by omega) hR
  ·have hw: ¬W i=true:=fun hw=>hm (KE.2 ⟨i,hlt,rfl,hw⟩)
   have ef:IX os W (i+1)=IX os W i:=by show IX os W i++(if W i=true then [CE i (ob os i).gen] else [])=_;rw [if_neg hw,List.append_nil]
   rw [ef, ←hset {ob os i with purple:=false} (by unfold C7;rw [if_neg hw])] at hR
   exact BA (by omega) hR
 have:i=8:=by omega
 subst this
 rw [JJ (g:=C7 os W) fun k hk=>if_pos hk]
 clear hR
 refine BC (fun i=>[iv i]) (fun i=>[tI (IX os W 8),tR tO (mk8 fun k=>if k<i then FI os W k else C7 os W k),tR tW ws,tI buf,tS ss]) 8 (fun _=>True) rfl rfl trivial (fun R i hi hP hR=> ?_)
 simp only [AH,AR,AN,AS,AJ,AD,AG,AP,AO,AK,AM,AL,AI,AQ,BD,BI,BH,BJ,BG,BF,BE,A5,AZ,A4,A6,A7,AY]
 simp only [CG]
 refine A8 (AW (fun hlt=> ?_) fun hge=> ?_)
 ·have hlt:i<8:=by omega
  replace hR:=hR hlt trivial
  have hml:i<(mk8 fun k=>if k<i then FI os W k else C7 os W k).length:=by rw [CG];exact hlt
  have hoi:(mk8 fun k=>if k<i then FI os W k else C7 os W k)[i]=C7 os W i:=by rw [DF hml,HK hlt,if_neg (by omega)]
  have hset: ∀v,v=FI os W i→(mk8 fun k=>if k<i then FI os W k else C7 os W k).set i v=mk8 fun k=>if k<i+1 then FI os W k else C7 os W k:=fun v hv=>by
   rw [OB hlt]
   refine JJ fun k hk=> ?_
   by_cases h1:k=i
   ·subst h1;rw [if_pos rfl,if_pos (by omega),hv]
   ·rw [if_neg h1]
    by_cases h2:k<i
    ·rw [if_pos h2,if_pos (by omega)]
    ·rw [if_neg h2,if_neg (by omega)]
  have hin:inE (mk8 fun k=>if k<i then FI os W k else C7 os W k) i=inE (mk8 (C7 os W)) i:=by
   refine mR (by rw [CG,CG]) fun k hk=> ?_
   rw [CG] at hk
   rw [HK hk,HK hk]
   by_cases h2:k<i
   ·rw [if_pos h2];exact PL os W k
   ·rw [if_neg h2];exact ⟨rfl,rfl,rfl⟩
  have hlen3: ∀o∈(mk8 fun k=>if k<i then FI os W k else C7 os W k),(o.field.length:Int)≤1048576:=fun o ho=>by
   obtain ⟨k,hk,rfl⟩:=Z4 ho
   have hm:=bZ hof hol W hk
   by_cases h2:k<i
   ·rw [if_pos h2,(PL os W k).2.2];omega
   ·rw [if_neg h2];omega
  generalize (mk8 fun k=>if k<i then FI os W k else C7 os W k)=M at hml hoi hset hin hlen3 ⊢
  have hM8:M.length=8:=by have:=congrArg List.length (hset (FI os W i) rfl);rw [List.length_set,CG] at this;exact this
  have hMs:M=M.set i (C7 os W i):=by rw [←hoi,List.set_getElem_self]
  refine BQ (AT hlt ?_)
  cases hv:(C7 os W i).live with
  | true=>
    refine UW (f:=tO) (v:= .bool true) hml (by rw [hoi];simp [tO,hv]) (B2 (AT hlt ?_))
    refine TF (f:=tO) (v:=I (C7 os W i).holds) hml (by decide) (by rw [hoi];rfl) (AT hlt ?_)
    refine TF (f:=tO) (v:=I (C7 os W i).roots) hml (by decide) (by rw [hoi];rfl) (GJ ?_)
    refine PG ⟨by omega,by omega⟩ (by rw [hM8];decide) hlen3 ?_
    rw [hin]
    refine GJ (AT hlt ?_)
    rw [hMs]
    refine HD hml ?_
    rw [hset _ (by unfold FI;rw [if_pos hv])]
    exact BA (by omega) hR
  | false=>
    refine UW (f:=tO) (v:= .bool false) hml (by rw [hoi];simp [tO,hv]) (BU ?_)
    rw [hMs,hset _ (by unfold FI;rw [if_neg (by rw [hv];decide)])]
    exact BA (by omega) hR
 ·have:i=8:=by omega
  subst this
  rw [JJ (g:=FI os W) fun k hk=>if_pos hk]
  exact hK
end Go.Proofs.Ytklmcfpgdfibnaa.P
namespace Go.Proofs.Ytklmcfpgdfibnaa.P
open Go Go.Proofs.Ytklmcfpgdfibnaa Go.Proofs.Ytklmcfpgdfibnaa.Eng
set_option linter.unusedVariables false
set_option maxHeartbeats 4000000
set_option linter.unusedVariables false
set_option linter.unusedSimpArgs false
attribute [local irreducible] prP gP gE gF AX ixW ldc ldg ldl stc stg scW mkW apW BN cl2 BV EN CJ
variable {w0:World}
noncomputable def D8 (h:Hp) (o:Op5):Hp×An:=
 if o.kind=1 then (⟨(GQ h.AE h.sites o.site).1,h.B1,h.buffer,(GQ h.AE h.sites o.site).2.1⟩,(GQ h.AE h.sites o.site).2.2) else
 if o.kind=2∨o.kind=3∨o.kind=5∨o.kind=6 then (⟨(GZ h.AE h.buffer o.kind o.a).1,h.B1,(GZ h.AE h.buffer o.kind o.a).2.1,h.sites⟩,(GZ h.AE h.buffer o.kind o.a).2.2) else
 if o.kind=4 then (⟨(HN h.AE h.buffer o.a o.b o.c).1,h.B1,(HN h.AE h.buffer o.a o.b o.c).2.1,h.sites⟩,(HN h.AE h.buffer o.a o.b o.c).2.2) else
 if o.kind=7 then (⟨h.AE,(KZ h.AE h.B1 o.a).1,h.buffer,h.sites⟩,(KZ h.AE h.B1 o.a).2) else
 if o.kind=8∨o.kind=9 then (⟨h.AE,(GU h.AE h.B1 o.kind o.a).1,h.buffer,h.sites⟩,(GU h.AE h.B1 o.kind o.a).2) else
 if o.kind=10 then (⟨(H0 h.AE h.buffer).1,h.B1,[],h.sites⟩,⟨0,0,(H0 h.AE h.buffer).2⟩) else (h,⟨2,0,[]⟩)
theorem eH {α:Type} [Inhabited α] {l:List α} (h: ∀i (hi:i<l.length),l[i]∉l.take i):l.Nodup:=by
 refine List.pairwise_iff_getElem.2 fun i j hi hj hij he=>h j hj ?_
 rw [←he]
 exact List.mem_take_iff_getElem.2 ⟨i,by omega,rfl⟩
theorem few {n:Nat}: ∀{l:List Int} (g:Int→Nat),l.Nodup→(∀x∈l,g x<n)→(∀x∈l, ∀y∈l,g x=g y→x=y)→l.length≤n:=by
 induction n with
 | zero=>
   intro l g _ h _
   cases l with
   | nil=>simp
   | cons x l=>exact absurd (h x (by simp)) (by omega)
 | succ n ih=>
   intro l g hn h hi
   by_cases hx: ∃x∈l,g x=n
   ·obtain ⟨x,hx,hg⟩:=hx
    have:=ih (l:=l.erase x) g (hn.erase x) (fun y hy=>by
     have hy':=List.mem_of_mem_erase hy
     have:=h y hy'
     have hne:g y≠n:=fun he=>by
      have:y=x:=hi y hy' x hx (by omega)
      subst this
      exact (List.Nodup.not_mem_erase hn) hy
     omega) fun y hy z hz=>hi y (List.mem_of_mem_erase hy) z (List.mem_of_mem_erase hz)
    rw [List.length_erase_of_mem hx] at this
    omega
   ·have:=ih g hn (fun y hy=>by
     have:=h y hy
     have:g y≠n:=fun he=>hx ⟨y,hy,he⟩
     omega) hi
    omega
theorem B5.bnd {h:Hp} (hk:B5 h):h.buffer.Nodup:=eH fun i hi=>by rw [D4 hi];exact (hk.buf i hi).2
theorem B5.XJ {h:Hp} (hk:B5 h) {x:Int} (hx:x∈h.buffer):0≤AB h.AE x:=by
 obtain ⟨i,hi,rfl⟩:=List.getElem_of_mem hx
 rw [D4 hi];exact (hk.buf i hi).1
theorem eD {l:List AV} {x y:Int} (hx:0≤AB l x) (hy:0≤AB l y) (h:AB l x=AB l y):x=y:=by
 have a:=BO hx;have b:=BO hy
 have e1:=a.2.2.2.2.2;have e2:=b.2.2.2.2.2
 rw [h] at e1
 omega
theorem B5.uI {h:Hp} (hk:B5 h):h.buffer.length≤8:=
 few (fun x=>(AB h.AE x).toNat) hk.bnd (fun x hx=>(BO (hk.XJ hx)).2.2.2.1) fun x hx y hy he=>eD (hk.XJ hx) (hk.XJ hy) (by have:=hk.XJ hx;have:=hk.XJ hy;omega)
theorem B5.st {h:Hp} (hk:B5 h) (hn:RK h):St h:=by
 refine ⟨hk.ol,hk.wl,hk.sites.len,by have:=hk.uI;omega,fun o ho=> ?_,fun s hs=> ?_,hn.weak,hn.buf⟩
 ·obtain ⟨i,hi,rfl⟩:=List.getElem_of_mem ho
  have hi8:i<8:=by have:=hk.ol;omega
  have:=hn.obj _ ho
  rw [DF hi] at this ⊢
  exact ⟨this.1,(hk.obj i hi8).len,this.2.2.2.2.2⟩
 ·obtain ⟨i,hi,rfl⟩:=List.getElem_of_mem hs
  have:=(hk.sites.sz i hi).2
  rw [R8 hi];omega
theorem B5.hr {h:Hp} (hk:B5 h) (i:Nat):(0≤(ob h.AE i).holds∧(ob h.AE i).holds≤20)∧(0≤(ob h.AE i).roots∧(ob h.AE i).roots≤20):=by
 by_cases hi:i<8
 ·cases hv:(ob h.AE i).live with
  | true=>exact ⟨((hk.obj i hi).lv hv).2.2.1,((hk.obj i hi).lv hv).2.2.2.1⟩
  | false=>have:=(hk.obj i hi).dead hv;omega
 ·have:ob h.AE i=⟨false,0,0,0,0,0,[],false⟩:=by unfold ob;rw [List.getD_eq_getElem?_getD,List.getElem?_eq_none (by have:=hk.ol;omega)];rfl
  rw [this];simp
theorem B5.fd {h:Hp} (hk:B5 h) (i:Nat): ∀f∈(ob h.AE i).field,f= -1∨0≤f:=by
 intro f hf
 by_cases hi:i<8
 ·obtain ⟨j,hj,rfl⟩:=List.getElem_of_mem hf
  have ho:=hk.obj i hi
  by_cases h1:gI (ob h.AE i).field j= -1
  ·left;rw [D4 hj];exact h1
  ·right
   have:=BO (ho.lead j (by have:=ho.len;omega) h1).2
   rw [D4 hj];omega
 ·have:ob h.AE i=⟨false,0,0,0,0,0,[],false⟩:=by unfold ob;rw [List.getD_eq_getElem?_getD,List.getElem?_eq_none (by have:=hk.ol;omega)];rfl
  rw [this] at hf;simp at hf
theorem kinds (k:Int):k=1∨(k=2∨k=3∨k=5∨k=6)∨k=4∨k=7∨(k=8∨k=9)∨k=10∨ ¬(k=1∨k=2∨k=3∨k=4∨k=5∨k=6∨k=7∨k=8∨k=9∨k=10):=by omega
theorem aA {h:Hp} {o:Op5} {K:J2} (hk:B5 h) (hn:RK h) (ha:F64 o.a) (hc:F64 o.c) (hK:K [I (D8 h o).2.code,I (D8 h o).2.val] (tI (D8 h o).2.freed::trees (D8 h o).1)):cl2 ⟨Try.prog,w0⟩ 106 DS.sg [I o.kind,I o.a,I o.b,I o.c, .string o.site] (trees h) K:=by
 have st:=hk.st hn
 have hr:=hk.hr
 refine DS.cl2 ?_
 unfold DS.txt
 obtain ⟨os,ws,buf,ss⟩:=h
 obtain ⟨kd,a,b,c,s⟩:=o
 have hol:os.length=8:=st.ol
 have hof: ∀o∈os,OF o:=st.of
 have hb:buf.length≤100:=st.bl
 simp only at ha hc hr
 simp only [trees]
 unfold D8 at hK
 simp only at hK
 rcases kinds kd with rfl | hkd | rfl | rfl | hkd | rfl | hkd
 ·rw [if_pos rfl] at hK
  exact BM (C3 rfl (aE hol st.sl hK))
 ·rw [if_neg (by omega),if_pos hkd] at hK
  have cc:=fun {K:J2}=>VF (w0:=w0) (os:=os) (buf:=buf) (b:=tR tW ws) (d:=tS ss) (kind:=kd) (id:=a) (K:=K) hol hof hb ha hkd hr
  rcases hkd with rfl | rfl | rfl | rfl
  all_goals
   repeat' (first | refine BQ ?_ | refine B2 ?_ | refine BU ?_ | refine BM ?_ | simp only [AH,AR,AN,AS,AJ,AD,AG,AP,AO,AK,AM,AL,AI,AQ,BD,BI,BH,BJ,BG,BF,BE,A5,AZ,A4,A6,A7,AY])
   exact cc hK
 ·simp only [if_neg (show ¬(4:Int)=1 by decide),if_neg (show ¬((4:Int)=2∨(4:Int)=3∨(4:Int)=5∨(4:Int)=6) by decide),if_true] at hK
  repeat' (first | refine BQ ?_ | refine B2 ?_ | refine BU ?_ | refine BM ?_ | simp only [AH,AR,AN,AS,AJ,AD,AG,AP,AO,AK,AM,AL,AI,AQ,BD,BI,BH,BJ,BG,BF,BE,A5,AZ,A4,A6,A7,AY])
  exact aC hol hof hb ha hc hK
 ·simp only [if_neg (show ¬(7:Int)=1 by decide),if_neg (show ¬((7:Int)=2∨(7:Int)=3∨(7:Int)=5∨(7:Int)=6) by decide),if_neg (show ¬(7:Int)=4 by decide),if_true] at hK
  repeat' (first | refine BQ ?_ | refine B2 ?_ | refine BU ?_ | refine BM ?_ | simp only [AH,AR,AN,AS,AJ,AD,AG,AP,AO,AK,AM,AL,AI,AQ,BD,BI,BH,BJ,BG,BF,BE,A5,AZ,A4,A6,A7,AY])
  exact cH hol st.wl ha hK
 ·rw [if_neg (by omega),if_neg (by omega),if_neg (by omega),if_neg (by omega),if_pos hkd] at hK
  rcases hkd with rfl | rfl
  all_goals
   repeat' (first | refine BQ ?_ | refine B2 ?_ | refine BU ?_ | refine BM ?_ | simp only [AH,AR,AN,AS,AJ,AD,AG,AP,AO,AK,AM,AL,AI,AQ,BD,BI,BH,BJ,BG,BF,BE,A5,AZ,A4,A6,A7,AY])
   exact XS hol st.wl ha st.wf hK
 ·simp only [if_neg (show ¬(10:Int)=1 by decide),if_neg (show ¬((10:Int)=2∨(10:Int)=3∨(10:Int)=5∨(10:Int)=6) by decide),if_neg (show ¬(10:Int)=4 by decide),if_neg (show ¬(10:Int)=7 by decide),if_neg (show ¬((10:Int)=8∨(10:Int)=9) by decide),if_true] at hK
  repeat' (first | refine BQ ?_ | refine B2 ?_ | refine BU ?_ | refine BM ?_ | simp only [AH,AR,AN,AS,AJ,AD,AG,AP,AO,AK,AM,AL,AI,AQ,BD,BI,BH,BJ,BG,BF,BE,A5,AZ,A4,A6,A7,AY])
  exact VH st (fun o ho=>(hn.obj o ho).2.2.2.2.1) hK
 ·rw [if_neg (by omega),if_neg (by omega),if_neg (by omega),if_neg (by omega),if_neg (by omega),if_neg (by omega)] at hK
  repeat' (first | refine BQ ?_ | refine DM (by first | with_reducible assumption | omega) ?_ | refine BM ?_ | simp only [AH,AR,AN,AS,AJ,AD,AG,AP,AO,AK,AM,AL,AI,AQ,BD,BI,BH,BJ,BG,BF,BE,A5,AZ,A4,A6,A7,AY])
  all_goals first | exact B8 hK | (exfalso;omega)
end Go.Proofs.Ytklmcfpgdfibnaa.P
namespace Go.Proofs.Ytklmcfpgdfibnaa.P
open Go Go.Proofs.Ytklmcfpgdfibnaa Go.Proofs.Ytklmcfpgdfibnaa.Eng
set_option linter.unusedVariables false
set_option maxHeartbeats 4000000
set_option linter.unusedVariables false
set_option linter.unusedSimpArgs false
attribute [local irreducible] prP gP gE gF AX ixW ldc ldg ldl stc stg scW mkW apW BN cl2 BV EN CJ
variable {w0:World}
open Classical in
noncomputable def KD (h:Hp) (o:Op5):Hp×An:=if B5 h then D8 h o else (h,⟨2,0,[]⟩)
theorem NQ {h:Hp} {o:Op5} (hk:B5 h):KD h o=D8 h o:=by unfold KD;rw [if_pos hk]
theorem SE {h:Hp} {o:Op5} (hk: ¬B5 h):KD h o=(h,⟨2,0,[]⟩):=by unfold KD;rw [if_neg hk]
theorem Z2 {h:Hp} {o:Op5} {K:J2} (hf:Fits h) (hn:RK h) (ha:F64 o.a) (hc:F64 o.c) (hK:K [I (KD h o).2.code,I (KD h o).2.val] (trees (KD h o).1++[tI (KD h o).2.freed])):cl2 ⟨Try.prog,w0⟩ 42 HU.sg [I o.kind,I o.a,I o.b,I o.c, .string o.site] (trees h) K:=by
 refine HU.cl2 ?_
 unfold HU.txt
 refine ON hf (QW hf hn (fun hk=>B4 (BU ?_)) fun hk=>B4 (B2 ?_))
 ·rw [NQ hk] at hK
  exact aA hk hn ha hc hK
 ·rw [SE hk] at hK
  exact B8 hK
theorem OC {h:Hp} {o:Op5} {K:J2} (hf:Fits h) (hn:RK h) (ha:F64 o.a) (hc:F64 o.c) (hK:K [I (KD h o).2.code,I (KD h o).2.val] (trees (KD h o).1++[tI (KD h o).2.freed])):cl2 ⟨Try.prog,w0⟩ 76 EU.sg [I o.kind,I o.a,I o.b,I o.c, .string o.site] (trees h) K:=by
 refine EU.cl2 ?_
 unfold EU.txt
 refine KW hf (Q7 hf hn (fun hk=>B4 (BU ?_)) fun hk=>B4 (B2 ?_))
 rotate_left
 ·rw [SE hk] at hK
  exact hK
 rw [NQ hk] at hK
 have st:=hk.st hn
 have hr:=hk.hr
 have hfd:=hk.fd
 have hss:=hk.sites
 have hcn: ∀o∈h.AE,F64 o.count:=fun o ho=>(hn.obj o ho).2.2.2.2.1
 clear hf hk
 obtain ⟨kd,a,b,c,s⟩:=o
 have hol:h.AE.length=8:=st.ol
 simp only at ha hc hr
 unfold D8 at hK
 simp only at hK
 have hold:=fun {K:J2} (hkd:kd=2∨kd=3∨kd=5∨kd=6)=>XP (w0:=w0) (h:=h) (kind:=kd) (id:=a) (b:=b) (c:=c) (s:=s) (K:=K) st ha hkd hr
 have store:=fun {K:J2}=>WU (w0:=w0) (h:=h) (a0:=kd) (a1:=a) (a2:=b) (a3:=c) (s:=s) (K:=K) st ha hc hfd
 have qN:=fun {K:J2}=>XE (w0:=w0) (h:=h) (K:=K) st hcn
 have weak:=fun {K:J2}=>XN (w0:=w0) (os:=h.AE) (ws:=h.B1) (cc:=tI h.buffer) (d:=tS h.sites) (kind:=kd) (k:=a) (b:=b) (c:=c) (s:=s) (K:=K) hol st.wl ha st.wf
 simp only [trees] at hold store qN ⊢
 rcases kinds kd with rfl | hkd | rfl | rfl | hkd | rfl | hkd
 ·rw [if_pos rfl] at hK
  exact BM (C3 rfl (VN hol hss hK))
 ·rw [if_neg (by omega),if_pos hkd] at hK
  replace hold:=fun {K:J2}=>hold (K:=K) hkd
  rcases hkd with rfl | rfl | rfl | rfl
  all_goals
   repeat' (first | refine BQ ?_ | refine B2 ?_ | refine BU ?_ | refine BM ?_ | simp only [AH,AR,AN,AS,AJ,AD,AG,AP,AO,AK,AM,AL,AI,AQ,BD,BI,BH,BJ,BG,BF,BE,A5,AZ,A4,A6,A7,AY])
   exact hold hK
 ·simp only [if_neg (show ¬(4:Int)=1 by decide),if_neg (show ¬((4:Int)=2∨(4:Int)=3∨(4:Int)=5∨(4:Int)=6) by decide),if_true] at hK
  repeat' (first | refine BQ ?_ | refine B2 ?_ | refine BU ?_ | refine BM ?_ | simp only [AH,AR,AN,AS,AJ,AD,AG,AP,AO,AK,AM,AL,AI,AQ,BD,BI,BH,BJ,BG,BF,BE,A5,AZ,A4,A6,A7,AY])
  exact store hK
 ·simp only [if_neg (show ¬(7:Int)=1 by decide),if_neg (show ¬((7:Int)=2∨(7:Int)=3∨(7:Int)=5∨(7:Int)=6) by decide),if_neg (show ¬(7:Int)=4 by decide),if_true] at hK
  repeat' (first | refine BQ ?_ | refine B2 ?_ | refine BU ?_ | refine BM ?_ | simp only [AH,AR,AN,AS,AJ,AD,AG,AP,AO,AK,AM,AL,AI,AQ,BD,BI,BH,BJ,BG,BF,BE,A5,AZ,A4,A6,A7,AY])
  exact weak (fun _=>hK) (fun hh=>absurd rfl hh)
 ·rw [if_neg (by omega),if_neg (by omega),if_neg (by omega),if_neg (by omega),if_pos hkd] at hK
  rcases hkd with rfl | rfl
  all_goals
   repeat' (first | refine BQ ?_ | refine B2 ?_ | refine BU ?_ | refine BM ?_ | simp only [AH,AR,AN,AS,AJ,AD,AG,AP,AO,AK,AM,AL,AI,AQ,BD,BI,BH,BJ,BG,BF,BE,A5,AZ,A4,A6,A7,AY])
   exact weak (fun hh=>absurd hh (by decide)) (fun _=>hK)
 ·simp only [if_neg (show ¬(10:Int)=1 by decide),if_neg (show ¬((10:Int)=2∨(10:Int)=3∨(10:Int)=5∨(10:Int)=6) by decide),if_neg (show ¬(10:Int)=4 by decide),if_neg (show ¬(10:Int)=7 by decide),if_neg (show ¬((10:Int)=8∨(10:Int)=9) by decide),if_true] at hK
  repeat' (first | refine BQ ?_ | refine B2 ?_ | refine BU ?_ | refine BM ?_ | simp only [AH,AR,AN,AS,AJ,AD,AG,AP,AO,AK,AM,AL,AI,AQ,BD,BI,BH,BJ,BG,BF,BE,A5,AZ,A4,A6,A7,AY])
  exact qN hK
 ·rw [if_neg (by omega),if_neg (by omega),if_neg (by omega),if_neg (by omega),if_neg (by omega),if_neg (by omega)] at hK
  repeat' (first | refine BQ ?_ | refine DM (by first | with_reducible assumption | omega) ?_ | refine BM ?_ | simp only [AH,AR,AN,AS,AJ,AD,AG,AP,AO,AK,AM,AL,AI,AQ,BD,BI,BH,BJ,BG,BF,BE,A5,AZ,A4,A6,A7,AY])
  all_goals first | exact hK | (exfalso;omega)
end Go.Proofs.Ytklmcfpgdfibnaa.P
namespace Go.Proofs.Ytklmcfpgdfibnaa.P
open Go Go.Proofs.Ytklmcfpgdfibnaa Go.Proofs.Ytklmcfpgdfibnaa.Eng
set_option linter.unusedVariables false
def okE (n:Int) (l:List ByteArray) (a b c d:Int) (s:ByteArray) (k v:Int) (xs:List Int):Bool:=(sJ a b c d s&&vT k v xs)&&uB n l
def Fx (q:ByteArray×Int) (x:Int):ByteArray×Int:=(q.1++SI (x-q.2),x)
def base (n:Int) (l:List ByteArray) (a b c d:Int) (s:ByteArray) (k v:Int) (m:Nat):ByteArray:=((((((SI a++SI (b-n))++SI c)++SI (d-b))++m4 l s)++V k)++SI (v-b))++V m
def stE (p:ByteArray×Int) (xs:List Int) (i:Nat):ByteArray×Int:=(xs.take i).foldl Fx p
theorem lC {p:ByteArray×Int} {xs:List Int} {i:Nat} (hi:i<xs.length):stE p xs (i+1)=Fx (stE p xs i) xs[i]:=by
 rw [stE,List.take_succ_eq_append_getElem hi,List.foldl_append];rfl
theorem mZ {p:ByteArray×Int} {xs:List Int} (hp:O1 p.2=true) (hx:xs.all O1=true): ∀i,i≤xs.length→O1 (stE p xs i).2=true∧(stE p xs i).1.size≤p.1.size+7*i
 | 0,_=>⟨hp,Nat.le_refl _⟩
 | i+1,hi=>by
   obtain ⟨h1,h2⟩:=mZ hp hx i (by omega)
   rw [lC (by omega)]
   refine ⟨List.all_eq_true.1 hx _ (List.getElem_mem _), ?_⟩
   have:=RT (zg (xs[i]-(stE p xs i).2))
   simp only [Fx,ByteArray.size_append,SI];omega
theorem dT (l:List ByteArray) (s:ByteArray):(m4 l s).size≤22:=by
 unfold m4;split
 ·have:=RT (at_ l s+1);omega
 ·have h1:=RT 0
  have h2:=qE s
  rw [ByteArray.size_append];omega
theorem SP (n:Int):(SI n).size≤7:=RT _
def iL (n:Int) (l:List ByteArray) (a b c d:Int) (s:ByteArray) (k v:Int) (xs:List Int):ByteArray×Int×List ByteArray:=
 if okE n l a b c d s k v xs then ((stE (base n l a b c d s k v xs.length,b) xs xs.length).1,b,vY l s) else (⟨#[]⟩,n,l)
theorem a8 {n:Int} {l:List ByteArray} {a b c d:Int} {s:ByteArray} {k v:Int} {xs:List Int} (h:okE n l a b c d s k v xs=true):O1 a=true∧O1 b=true∧O1 c=true∧O1 d=true∧O1 v=true∧O1 n=true∧xs.all O1=true∧xs.length≤8∧(0≤k∧k≤6)∧l.length≤400:=by
 simp only [okE,sJ,vT,uB,Bool.and_eq_true,decide_eq_true_eq] at h
 exact ⟨h.1.1.1.1.1.1,h.1.1.1.1.1.2,h.1.1.1.1.2,h.1.1.1.2,h.1.2.1.1.2,h.2.1.1,h.1.2.2,h.1.2.1.2,iM.1 h.1.2.1.1.1,h.2.1.2⟩
theorem jH (n:Int) (l:List ByteArray) (a b c d:Int) (s:ByteArray) (k v:Int) (m:Nat):(base n l a b c d s k v m).size≤71:=by
 have h1:=SP a;have h2:=SP (b-n);have h3:=SP c;have h4:=SP (d-b);have h5:=dT l s;have h6:=RT k;have h7:=SP (v-b);have h8:=RT m
 simp only [base,ByteArray.size_append];omega
end Go.Proofs.Ytklmcfpgdfibnaa.P
namespace Go.Proofs.Ytklmcfpgdfibnaa.P
open Go Go.Proofs.Ytklmcfpgdfibnaa Go.Proofs.Ytklmcfpgdfibnaa.Eng
set_option linter.unusedVariables false
theorem p5 {f:J2} {g:J2→Prop} (P:List Value→List (List T)→Prop) (h1: ∀xs cs,P xs cs→f xs cs) (h2: ∀j:J2,(∀xs cs,P xs cs→j xs cs)→g j):BV f g:=h2 f h1
end Go.Proofs.Ytklmcfpgdfibnaa.P
