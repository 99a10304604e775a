/- A part of the proof. -/
import Derived.Test.YtklmcfpgdfibnaaRiHpQ
import Derived.Test.YtklmcfpgdfibnaaRiHpE
namespace Go.Proofs.Ytklmcfpgdfibnaa.P
open Go Go.Proofs.Ytklmcfpgdfibnaa Go.Proofs.Ytklmcfpgdfibnaa.Eng
set_option linter.unusedVariables false
def RB (os:List AE) (ids:List Int) (k:Nat):Prop:= ∃b∈ids, ∃s:Nat,AA os b=(s:Int)∧Reach os s k
theorem RB.next {os:List AE} {ids:List Int} {k:Nat} {j:Int} (h:RB os ids k) (hj:j∈BC os k):RB os ids j.toNat:=by
 obtain ⟨b,hb,s,hs,hr⟩:=h
 exact ⟨b,hb,s,hs, .step hr hj⟩
theorem RB.reach {os:List AE} {ids:List Int} {a b:Nat} (h:RB os ids a) (hr:Reach os a b):RB os ids b:=hr.closed h fun _ h _ hj=>h.next hj
theorem RB.lt {os:List AE} {ids:List Int} {k:Nat} (h:RB os ids k):k<8:=by
 obtain ⟨b,_,s,hs,hr⟩:=h
 have:=BH (l:=os) (id:=b) (by omega)
 exact hr.lt (by omega)
theorem RB.snoc {os:List AE} {ids:List Int} {b:Int} {k:Nat}:RB os (ids++[b]) k↔RB os ids k∨ ∃s:Nat,AA os b=(s:Int)∧Reach os s k:=by
 constructor
 ·rintro ⟨x,hx,h⟩
  rcases List.mem_append.1 hx with hx | hx
  ·exact .inl ⟨x,hx,h⟩
  ·have hx:x=b:=by simpa using hx
   subst hx;exact .inr h
 ·rintro (⟨x,hx,h⟩ | h)
  ·exact ⟨x,List.mem_append_left _ hx,h⟩
  ·exact ⟨b,by simp,h⟩
structure MK (os:List AE) (ct:Nat→Int) (ids:List Int) (cs col:List Int):Prop where
 len:cs.length=8∧col.length=8
 f: ∀i,i<8→F64 (gI cs i)
 one: ∀k,k<8→gI col k=1→RB os ids k
 zero: ∀k,k<8→gI col k≠1→gI col k=0∧ ¬RB os ids k
 cnt: ∀i,i<8→gI cs i=w64 (ct i-S os (isC col 1) i)
section
variable {os:List AE} {ct:Nat→Int} {ids:List Int} {cs col cs' col':List Int} {b:Int} {s:Nat}
theorem MK.none (h:MK os ct ids cs col) (hb:AA os b<0):MK os ct (ids++[b]) cs col:=by
 refine ⟨h.len,h.f,fun k hk h1=>RB.snoc.2 (.inl (h.one k hk h1)),fun k hk h1=>⟨(h.zero k hk h1).1,fun hr=> ?_⟩,h.cnt⟩
 rcases RB.snoc.1 hr with hr | ⟨s,hs,_⟩
 ·exact (h.zero k hk h1).2 hr
 ·omega
theorem MK.some (h:MK os ct ids cs col) (hb:AA os b=(s:Int)) (hs:s<8) (p:KH os 1 (-1) cs col cs' col' s):MK os ct (ids++[b]) cs' col':=by
 have cl: ∀k,Reach os s k→k<8∧gI col' k=1:=fun k hr=>hr.closed (P:=fun k=>k<8∧gI col' k=1) ⟨hs,p.got⟩ fun x hx j hj=>by
  refine ⟨(BZ hj).2.1, ?_⟩
  by_cases h1:gI col x=1
  ·refine p.II _ (BZ hj).2.1 (Decidable.byContradiction fun hn=> ?_)
   exact (h.zero _ (BZ hj).2.1 hn).2 ((h.one x hx.1 h1).next hj)
  ·exact (p.clo x hx.1 hx.2 h1).2 j hj
 refine ⟨p.len,p.f,fun k hk h1=>RB.snoc.2 ?_,fun k hk h1=> ?_,fun i hi=> ?_⟩
 ·by_cases h0:gI col k=1
  ·exact .inl (h.one k hk h0)
  ·exact .inr ⟨s,hb,(p.clo k hk h1 h0).1⟩
 ·have e:=p.only k hk h1
  have h2:gI col k≠1:=by rw [←e];exact h1
  obtain ⟨z1,z2⟩:=h.zero k hk h2
  refine ⟨by rw [e];exact z1,fun hr=> ?_⟩
  rcases RB.snoc.1 hr with hr | ⟨s',hs',hr⟩
  ·exact z2 hr
  ·have:s'=s:=by omega
   subst this
   exact h1 (cl k hr).2
 ·rw [p.cnt i hi,h.cnt i hi,LC]
  congr 1
  omega
end
open Classical in
noncomputable def MY (os:List AE) (buf:List Int) (k:Nat):Bool:=decide (RB os buf k)
def Out (os:List AE) (ct:Nat→Int) (buf:List Int) (x:Nat):Prop:=x<8∧RB os buf x∧EX os ct (MY os buf) x
open Classical in
noncomputable def H7 (os:List AE) (ct:Nat→Int) (buf:List Int) (k:Nat):Bool:=decide (RB os buf k∧ ¬ ∃x,Out os ct buf x∧Reach os x k)
theorem UJ {os:List AE} {buf:List Int} {k:Nat}:MY os buf k=true↔RB os buf k:=by unfold MY;simp
theorem SE {os:List AE} {buf:List Int} {k:Nat}:MY os buf k=false↔ ¬RB os buf k:=by unfold MY;simp
theorem H0 {os:List AE} {ct:Nat→Int} {buf:List Int} {k:Nat}:H7 os ct buf k=true↔RB os buf k∧ ¬ ∃x,Out os ct buf x∧Reach os x k:=by unfold H7;simp
structure SC (os:List AE) (ct:Nat→Int) (buf:List Int) (ids:List Int) (cs col:List Int):Prop where
 si:SN os ct (MY os buf) cs col
 got: ∀b∈ids, ∀s:Nat,AA os b=(s:Int)→gI col s≠1
 wk: ∀k,k<8→gI col k=2→ ∀j∈BC os k,gI col j.toNat≠1
section
variable {os:List AE} {ct:Nat→Int} {buf ids:List Int} {cs col cs' col':List Int} {b:Int} {s:Nat}
theorem SC.start (h:MK os ct buf cs col):SC os ct buf [] cs col:=by
 refine ⟨⟨h.len,h.f,fun k hk=> ?_,fun k hk hc=> ?_,fun i hi=> ?_,fun k hk hc h0=> ?_,fun k hk h2=> ?_⟩,fun b hb=>by simp at hb,fun k hk h2=> ?_⟩
 ·by_cases h1:gI col k=1
  ·exact .inr (.inl h1)
  ·exact .inl (h.zero k hk h1).1
 ·exact (h.zero k hk fun h1=>SE.1 hc (h.one k hk h1)).1
 ·rw [h.cnt i hi]
  congr 2
  refine fS fun k hk=> ?_
  by_cases h1:gI col k=1
  ·simp [isC,h1]
  ·simp [isC,(h.zero k hk h1).1]
 ·exact absurd (UJ.1 hc) (h.zero k hk (by omega)).2
 ·have:=(h.zero k hk (by omega)).1;omega
 ·have:=(h.zero k hk (by omega)).1;omega
theorem SC.none (h:SC os ct buf ids cs col) (hb:AA os b<0):SC os ct buf (ids++[b]) cs col:=
 ⟨h.si,fun x hx s hs=>by
   rcases List.mem_append.1 hx with hx | hx
   ·exact h.got x hx s hs
   ·have hx:x=b:=by simpa using hx
    subst hx;omega,h.wk⟩
theorem SC.some (h:SC os ct buf ids cs col) (hb:AA os b=(s:Int)) (hs:s<8) (p:Q6 os ct (MY os buf) col cs' col' s):SC os ct buf (ids++[b]) cs' col':=by
 refine ⟨p.si,fun x hx t ht=> ?_,fun k hk h2=> ?_⟩
 ·rcases List.mem_append.1 hx with hx | hx
  ·have:=BH (l:=os) (id:=x) (by omega)
   exact p.ng t (by omega) (h.got x hx t ht)
  ·have hx:x=b:=by simpa using hx
   subst hx
   have:t=s:=by omega
   subst this;exact p.got
 ·rcases p.wk k hk h2 with h3 | h3
  ·exact fun j hj=>p.ng _ (BZ hj).2.1 (h.wk k hk h3 j hj)
  ·exact h3
theorem SC.stop (h:SC os ct buf buf cs col): ∀k,k<8→(gI col k=2↔H7 os ct buf k=true):=by
 have ng: ∀k,RB os buf k→gI col k≠1:=fun k hr=>by
  obtain ⟨b,hb,s,hs,hr⟩:=hr
  have hb8:=BH (l:=os) (id:=b) (by omega)
  have:=hr.closed (P:=fun k=>(k<8∧RB os buf k)∧gI col k≠1) ⟨⟨by omega,b,hb,s,hs, .refl⟩,h.got b hb s hs⟩ fun x hx j hj=>by
   refine ⟨⟨(BZ hj).2.1,hx.1.2.next hj⟩, ?_⟩
   rcases h.si.rng x hx.1.1 with h0 | h1 | h2
   ·have:=(h.si.blk x hx.1.1 (UJ.2 hx.1.2) h0).2 j hj;omega
   ·exact absurd h1 hx.2
   ·exact h.wk x hx.1.1 h2 j hj
  exact this.2
 intro k hk
 rw [H0]
 constructor
 ·intro h2
  have hr:RB os buf k:=Classical.byContradiction fun hn=>by
   have:=h.si.out k hk (SE.2 hn);omega
  refine ⟨hr, ?_⟩
  rintro ⟨x,⟨hx8,hx,he⟩,hxk⟩
  have:=hxk.closed (P:=fun k=>(k<8∧RB os buf k)∧gI col k=0) ⟨⟨hx8,hx⟩,by
   rcases h.si.rng x hx8 with h0 | h1 | h2
   ·exact h0
   ·exact absurd h1 (ng x hx)
   ·exact absurd he (h.si.wht x hx8 h2)⟩ fun y hy j hj=>⟨⟨(BZ hj).2.1,hy.1.2.next hj⟩,(h.si.blk y hy.1.1 (UJ.2 hy.1.2) hy.2).2 j hj⟩
  omega
 ·rintro ⟨hr,hn⟩
  rcases h.si.rng k hk with h0 | h1 | h2
  ·obtain ⟨x,x8,xc,xe,xr⟩:=(h.si.blk k hk (UJ.2 hr) h0).1
   exact absurd ⟨x,⟨x8,UJ.1 xc,xe⟩,xr⟩ hn
  ·exact absurd h1 (ng k hr)
  ·exact h2
end
def mk8 (f:Nat→AE):List AE:=(List.range 8).map f
theorem DS (f:Nat→AE):(mk8 f).length=8:=by simp [mk8]
theorem JF {f:Nat→AE} {i:Nat} (h:i<8):ob (mk8 f) i=f i:=by
 rw [←DQ (by rw [DS];exact h)];simp [mk8]
theorem SL {f g:Nat→AE} (h: ∀i,i<8→f i=g i):mk8 f=mk8 g:=List.map_congr_left fun i hi=>h i (List.mem_range.1 hi)
theorem Z3 {os:List AE} (h:os.length=8):os=mk8 (ob os):=by
 apply List.ext_getElem (by rw [DS,h])
 intro i h1 h2
 rw [DQ h1,DQ h2,JF (by omega)]
theorem TG {f:Nat→AE} {k:Nat} {v:AE} (hk:k<8):(mk8 f).set k v=mk8 fun i=>if i=k then v else f i:=by
 apply List.ext_getElem (by simp [DS])
 intro i h1 h2
 have hi:i<8:=by rw [DS] at h2;exact h2
 rw [DQ h1,DQ h2,DP (by rw [DS];exact hk),JF hi,JF hi]
theorem gV {f:Nat→AE} {o:AE} (h:o∈mk8 f): ∃i,i<8∧o=f i:=by
 obtain ⟨i,hi,rfl⟩:=List.mem_map.1 h
 exact ⟨i,List.mem_range.1 hi,rfl⟩
theorem NP {a b:List AE} {id:Int} (hl:a.length=b.length) (h: ∀i,i<a.length→(ob a i).live=(ob b i).live∧(ob a i).field=(ob b i).field):CD a id=CD b id:=by
 unfold CD
 congr 1
 apply List.ext_getElem (by simp [hl])
 intro i h1 h2
 simp only [List.length_map] at h1 h2
 rw [List.getElem_map,List.getElem_map,DQ h1,DQ h2]
 unfold NA
 rw [(h i h1).1,(h i h1).2]
theorem vE {a b:List AE} {s:Int} (hl:a.length=b.length) (h: ∀i,i<a.length→(ob a i).live=(ob b i).live∧(ob a i).gen=(ob b i).gen∧(ob a i).field=(ob b i).field):inE a s=inE b s:=by
 unfold inE
 by_cases hs:0≤s∧s≤(a.length:Int)-1
 ·have hi:=h s.toNat (by omega)
  rw [hi.1,hi.2.1,NP hl fun i hi=>⟨(h i hi).1,(h i hi).2.2⟩,hl]
 ·rw [if_neg (fun hh=>hs hh.1),if_neg (fun hh=>hs (by rw [hl];exact hh.1))]
def FF (os:List AE) (W:Nat→Bool) (i:Nat):AE:=if W i=true then B7 (ob os i).gen else {ob os i with purple:=false}
def GC (os:List AE) (W:Nat→Bool) (i:Nat):AE:=if (FF os W i).live=true then {FF os W i with count:=w64 (w64 ((FF os W i).holds+(FF os W i).roots)+inE (mk8 (FF os W)) i)} else FF os W i
def DO (W:Nat→Bool):Nat→List Int:=pick fun i=>if W i=true then [(i:Int)] else []
def SA (os:List AE) (W:Nat→Bool):Nat→List Int:=pick fun i=>if W i=true then [B6 i (ob os i).gen] else []
theorem l6 {α β:Type} {f:Nat→List α} {h:α→β} (n:Nat):(pick f n).map h=pick (fun i=>(f i).map h) n:=by
 induction n with
 | zero=>rfl
 | succ n ih=>simp only [pick,List.map_append,ih]
theorem MU {α:Type} {f g:Nat→List α} {n:Nat} (h: ∀i,i<n→f i=g i):pick f n=pick g n:=by
 induction n with
 | zero=>rfl
 | succ n ih=>simp only [pick];rw [ih fun i hi=>h i (by omega),h n (by omega)]
theorem ZT (os:List AE) (W:Nat→Bool) (n:Nat):(DO W n).map (fun x=>B6 x (ob os x.toNat).gen)=SA os W n:=by
 unfold DO SA
 rw [l6]
 refine MU fun i hi=> ?_
 split <;> simp
theorem QA {W:Nat→Bool} {n:Nat} {x:Int}:x∈DO W n↔ ∃i:Nat,i<n∧x=i∧W i=true:=by
 unfold DO
 induction n with
 | zero=>simp [pick]
 | succ n ih=>
   simp only [pick,List.mem_append,ih]
   constructor
   ·rintro (⟨i,h1,h2,h3⟩ | h)
    ·exact ⟨i,by omega,h2,h3⟩
    ·split at h
     ·rename_i hw;exact ⟨n,by omega,by simpa using h,hw⟩
     ·simp at h
   ·rintro ⟨i,h1,h2,h3⟩
    by_cases hi:i=n
    ·subst hi;right;rw [if_pos h3];simp [h2]
    ·exact .inl ⟨i,by omega,h2,h3⟩
noncomputable def F9 (os:List AE) (buf:List Int):List AE×List Int:=
 (mk8 (GC os (H7 os (fun i=>(ob os i).count) buf)),SA os (H7 os (fun i=>(ob os i).count) buf) 8)
end Go.Proofs.Ytklmcfpgdfibnaa.P
namespace Go.Proofs.Ytklmcfpgdfibnaa.P
open Go Go.Proofs.Ytklmcfpgdfibnaa Go.Proofs.Ytklmcfpgdfibnaa.Eng
set_option linter.unusedVariables false
set_option maxHeartbeats 4000000
set_option linter.unusedVariables false
set_option linter.unusedSimpArgs false
attribute [local irreducible] prP gP gE gF AW ixW ldc ldg ldl stc stg scW mkW apW AZ cl2 BJ CH B2
variable {w0:World}
theorem jZ {os:List AE} {i:Nat} (hi:i<os.length):(os.take (i+1)).map (·.count)=(os.take i).map (·.count)++[(ob os i).count]:=by
 rw [List.take_succ_eq_append_getElem hi,List.map_append,DQ hi];rfl
theorem TD {os:List AE} {b c d:List T} {K:J2} (hol:os.length=8) (h:K [] [tI (os.map (·.count)),tI (List.replicate 8 0)]):cl2 ⟨Try.prog,w0⟩ 56 EB.sg [] [tR tO os,b,c,d] K:=by
 refine EB.cl2 ?_
 unfold EB.txt
 simp only [AJ,AO,AS,AN,AQ,AG,AK,AI,AR,AT,AU,AM,AL,AP,BP,BU,BW,BT,BV,BS,BQ,AY,A6,A7,A4,A5,A8]
 refine BL (fun i=>[iv os.length,iv i]) (fun i=>[tI ((os.take i).map (·.count)),tI (List.replicate i 0)]) os.length (fun _=>True) rfl rfl trivial (fun R i hi hP hR=> ?_)
 have hln:((os.take i).map (·.count)).length=i:=by simp;omega
 have hl2:(List.replicate i (0:Int)).length=i:=List.length_replicate
 simp only [AJ,AO,AS,AN,AQ,AG,AK,AI,AR,AT,AU,AM,AL,AP,BP,BU,BW,BT,BV,BS,BQ,AY,A6,A7,A4,A5,A8]
 refine BE (BB (fun hlt=> ?_) fun hge=> ?_)
 ·have hlt:i<os.length:=by omega
  replace hR:=hR hlt trivial
  rw [jZ hlt, ←F4,List.replicate_succ', ←F4] at hR
  refine DB (BF hlt (OT hlt ?_))
  simp only [xR]
  exact BE (IY (by omega) (GH rfl (by omega) (GH rfl (by omega) (A9 (by omega) hR))))
 ·have:i=os.length:=by omega
  subst this
  rw [List.take_length,hol];exact h
theorem WC {cs col:List Int} {W:Nat→Bool} {K:J2} (hl:col.length=8) (hw: ∀k,k<8→(gI col k=2↔W k=true)) (h:K [] [tI (DO W 8)]):cl2 ⟨Try.prog,w0⟩ 60 FI.sg [] [tI cs,tI col] K:=by
 refine FI.cl2 ?_
 unfold FI.txt
 simp only [AJ,AO,AS,AN,AQ,AG,AK,AI,AR,AT,AU,AM,AL,AP,BP,BU,BW,BT,BV,BS,BQ,AY,A6,A7,A4,A5,A8]
 refine BL (fun i=>[iv col.length,iv i]) (fun i=>[tI (DO W i)]) col.length (fun _=>True) rfl rfl trivial (fun R i hi hP hR=> ?_)
 have hln:(DO W i).length≤i:=JV (fun i=>by split <;> simp) i
 simp only [AJ,AO,AS,AN,AQ,AG,AK,AI,AR,AT,AU,AM,AL,AP,BP,BU,BW,BT,BV,BS,BQ,AY,A6,A7,A4,A5,A8]
 refine BE (BB (fun hlt=> ?_) fun hge=> ?_)
 ·have hlt:i<col.length:=by omega
  replace hR:=hR hlt trivial
  have hwi:=hw i (by omega)
  refine DB (BF hlt (ldI hlt (CT (BB (fun h2=> ?_) fun h2=> ?_))))
  ·have e:DO W (i+1)=DO W i++[(i:Int)]:=by show DO W i++(if W i=true then [(i:Int)] else [])=_;rw [if_pos (hwi.1 h2)]
   rw [e, ←F4] at hR
   exact GH rfl (by omega) (A9 (by omega) hR)
  ·have e:DO W (i+1)=DO W i:=by show DO W i++(if W i=true then [(i:Int)] else [])=_;rw [if_neg (fun hh=>h2 (hwi.2 hh)),List.append_nil]
   rw [e] at hR
   exact A9 (by omega) hR
 ·have:i=col.length:=by omega
  subst this
  rw [hl];exact h
theorem MK.start {os:List AE} (hol:os.length=8) (hc: ∀o∈os,F64 o.count):MK os (fun i=>(ob os i).count) [] (os.map (·.count)) (List.replicate 8 0):=by
 have hz: ∀k,k<8→gI (List.replicate 8 (0:Int)) k=0:=fun k hk=>by unfold gI;rw [List.getD_eq_getElem?_getD,List.getElem?_replicate,if_pos hk];rfl
 have hcs: ∀i,i<8→gI (os.map (·.count)) i=(ob os i).count:=fun i hi=>by
  rw [←DE (by simp;omega),List.getElem_map,DQ (by omega)]
 have hF: ∀i,i<8→F64 (ob os i).count:=fun i hi=>hc _ (JY (by omega))
 refine ⟨⟨by simp [hol],by simp⟩,fun i hi=>by rw [hcs i hi];exact hF i hi,fun k hk h1=> ?_,fun k hk h1=>⟨hz k hk, ?_⟩,fun i hi=> ?_⟩
 ·rw [hz k hk] at h1;omega
 ·rintro ⟨b,hb,_⟩;simp at hb
 ·have:S os (isC (List.replicate 8 0) 1) i=0:=H8 fun k hk=>by unfold isC;rw [hz k hk];rfl
  rw [hcs i hi,this,Int.sub_zero,G9 (hF i hi)]
theorem xH {os:List AE} {W:Nat→Bool} {j:Nat} (hj:j<(DO W 8).length) {x:Nat} (hx:gI (DO W 8) j=(x:Int)):(fun i:Nat=>if ((i:Nat):Int)∈(DO W 8).take (j+1) then B7 (ob os i).gen else ob os i)=fun i=>if i=x then B7 (ob os x).gen else (if ((i:Nat):Int)∈(DO W 8).take j then B7 (ob os i).gen else ob os i):=by
 funext i
 rw [List.take_succ_eq_append_getElem hj,DE hj,hx]
 simp only [List.mem_append,List.mem_singleton]
 by_cases hi:i=x
 ·subst hi;simp
 ·have: ¬(i:Int)=(x:Int):=by omega
  simp [hi,this]
def PJ (os:List AE) (W:Nat→Bool) (i:Nat):AE:=if W i=true then B7 (ob os i).gen else ob os i
theorem iC (os:List AE) (W:Nat→Bool) (i:Nat):{PJ os W i with purple:=false}=FF os W i:=by
 unfold PJ FF
 split <;> rfl
theorem UI (os:List AE) (W:Nat→Bool) (i:Nat):(GC os W i).live=(FF os W i).live∧(GC os W i).gen=(FF os W i).gen∧(GC os W i).field=(FF os W i).field:=by
 unfold GC;split <;> exact ⟨rfl,rfl,rfl⟩
theorem bK (os:List AE) (W:Nat→Bool) (i:Nat):(PJ os W i).live=(FF os W i).live∧(PJ os W i).gen=(FF os W i).gen∧(PJ os W i).field=(FF os W i).field:=by
 rw [←iC];exact ⟨rfl,rfl,rfl⟩
theorem oB {os:List AE} (hof: ∀o∈os,OF o) (hol:os.length=8) (W:Nat→Bool) {i:Nat} (hi:i<8):(FF os W i).field.length=3:=by
 unfold FF
 split
 ·rfl
 ·exact (hof _ (JY (by omega))).len
theorem VI {h:Hp} {K:J2} (st:St h) (hc: ∀o∈h.AB,F64 o.count) (hK:K [] [tR tO (F9 h.AB h.buffer).1,tR tW h.CB,[],tS h.sites,tI (F9 h.AB h.buffer).2]):cl2 ⟨Try.prog,w0⟩ 29 ER.sg [] (trees h) K:=by
 refine ER.cl2 ?_
 unfold ER.txt
 refine NL st.fits ?_
 obtain ⟨os,ws,buf,ss⟩:=h
 have hol:os.length=8:=st.ol
 have hof: ∀o∈os,OF o:=st.of
 have hb:buf.length≤100:=st.bl
 have hbf: ∀x∈buf,F64 x:=st.bf
 simp only at hc hK
 simp only [trees]
 obtain ⟨ct,hct⟩: ∃ct:Nat→Int,ct=fun i=>(ob os i).count:=⟨_,rfl⟩
 obtain ⟨W,hW⟩: ∃W,W=H7 os ct buf:=⟨_,rfl⟩
 unfold F9 at hK
 rw [←hct, ←hW] at hK
 simp only [AJ,AO,AS,AN,AQ,AG,AK,AI,AR,AT,AU,AM,AL,AP,BP,BU,BW,BT,BV,BS,BQ,AY,A6,A7,A4,A5,A8]
 refine DN (HI (by omega) (TD hol ?_))
 refine IX (α:=Nat×List Int×List Int) (fun q=>[iv buf.length,iv q.1]) (fun q=>[tR tO os,tR tW ws,tI buf,tS ss,tI q.2.1,tI q.2.2]) (fun q=>buf.length-q.1) (fun q=>q.1≤buf.length∧MK os ct (buf.take q.1) q.2.1 q.2.2) (0,os.map (·.count),List.replicate 8 0) rfl rfl ⟨Nat.zero_le _,by rw [hct];exact MK.start hol hc⟩ (fun R q hq hR=> ?_)
 obtain ⟨i,cs,col⟩:=q
 obtain ⟨hi,mk⟩:=hq
 simp only at hi mk
 simp only [AJ,AO,AS,AN,AQ,AG,AK,AI,AR,AT,AU,AM,AL,AP,BP,BU,BW,BT,BV,BS,BQ,AY,A6,A7,A4,A5,A8]
 refine BE (BB (fun hlt=> ?_) fun hge=> ?_)
 ·have hlt:i<buf.length:=by omega
  have hx:=hbf _ (D6 hlt)
  have nx:=fun cs' col' (m:MK os ct (buf.take i++[gI buf i]) cs' col')=>hR (i+1,cs',col') ⟨by simp only;omega,by simp only;rw [List.take_succ_eq_append_getElem hlt,DE hlt];exact m⟩ (by simp only;omega)
  refine BF hlt (ldI hlt (B5 hx (by omega) (TC hol hof mk.len.1 mk.len.2 mk.f (fun hn=> ?_) fun s hs s8 cs' col' p=> ?_)))
  ·exact A9 (by omega) (nx _ _ (mk.none hn))
  ·exact A9 (by omega) (nx _ _ (mk.some hs s8 p))
 have:i=buf.length:=by omega
 subst this
 rw [List.take_length] at mk
 refine IX (α:=Nat×List Int×List Int) (fun q=>[iv buf.length,iv q.1]) (fun q=>[tR tO os,tR tW ws,tI buf,tS ss,tI q.2.1,tI q.2.2]) (fun q=>buf.length-q.1) (fun q=>q.1≤buf.length∧SC os ct buf (buf.take q.1) q.2.1 q.2.2) (0,cs,col) rfl rfl ⟨Nat.zero_le _,SC.start mk⟩ (fun R q hq hR=> ?_)
 obtain ⟨i,cs,col⟩:=q
 obtain ⟨hi,sc⟩:=hq
 simp only at hi sc
 simp only [AJ,AO,AS,AN,AQ,AG,AK,AI,AR,AT,AU,AM,AL,AP,BP,BU,BW,BT,BV,BS,BQ,AY,A6,A7,A4,A5,A8]
 refine BE (BB (fun hlt=> ?_) fun hge=> ?_)
 ·have hlt:i<buf.length:=by omega
  have hx:=hbf _ (D6 hlt)
  have nx:=fun cs' col' (m:SC os ct buf (buf.take i++[gI buf i]) cs' col')=>hR (i+1,cs',col') ⟨by simp only;omega,by simp only;rw [List.take_succ_eq_append_getElem hlt,DE hlt];exact m⟩ (by simp only;omega)
  refine BF hlt (ldI hlt (B5 hx (by omega) (S5 hol hof sc.si (fun hn=> ?_) fun s hs s8 cs' col' p=> ?_)))
  ·exact A9 (by omega) (nx _ _ (sc.none hn))
  ·exact A9 (by omega) (nx _ _ (sc.some hs s8 p))
 have:i=buf.length:=by omega
 subst this
 rw [List.take_length] at sc
 have wh:=sc.stop
 rw [←hW] at wh
 refine WC sc.si.len.2 wh ?_
 clear hR sc mk
 have hwn:(DO W 8).length≤8:=JV (fun i=>by split <;> simp) 8
 refine BL (fun j=>[iv (DO W 8).length,iv j]) (fun j=>[tI (((DO W 8).take j).map fun x=>B6 x (ob os x.toNat).gen),tI (DO W 8),tR tO (mk8 fun i=>if ((i:Nat):Int)∈(DO W 8).take j then B7 (ob os i).gen else ob os i),tR tW ws,tI buf,tS ss]) (DO W 8).length (fun _=>True) (by simp only [AJ,AO,AS,AN,AQ,AG,AK,AI,AR,AT,AU,AM,AL,AP,BP,BU,BW,BT,BV,BS,BQ,AY,A6,A7,A4,A5,A8];rfl) ?_ trivial (fun R j hj hP hR=> ?_)
 ·simp only [List.take_zero,List.map_nil,List.not_mem_nil,if_false]
  rw [←Z3 hol];rfl
 have hln:(((DO W 8).take j).map fun x=>B6 x (ob os x.toNat).gen).length=j:=by simp;omega
 simp only [AJ,AO,AS,AN,AQ,AG,AK,AI,AR,AT,AU,AM,AL,AP,BP,BU,BW,BT,BV,BS,BQ,AY,A6,A7,A4,A5,A8]
 simp only [DS]
 refine BE (BB (fun hlt=> ?_) fun hge=> ?_)
 ·have hlt:j<(DO W 8).length:=by omega
  replace hR:=hR hlt trivial
  obtain ⟨x,x8,hx,hwx⟩:=QA.1 (D6 hlt)
  have xl:x<os.length:=by omega
  rw [xH hlt hx,List.take_succ_eq_append_getElem hlt,List.map_append,DE hlt,hx, ←TG x8] at hR
  refine BF hlt (ldI hlt ?_)
  rw [hx]
  refine BF xl (JX (v:=I (ob os x).gen) xl (by decide) rfl (FO (GH rfl (by omega) (BF xl (JX (v:=I (ob os x).gen) xl (by decide) rfl (OK (BF (by omega) ?_)))))))
  refine R9 (f:=tO) (by rw [DS];exact x8) (y:=B7 (ob os x).gen) rfl (A9 (by omega) ?_)
  simp only [List.map_cons,List.map_nil,Int.toNat_natCast] at hR
  rw [←F4] at hR
  exact hR
 have:j=(DO W 8).length:=by omega
 subst this
 have e1:(fun i:Nat=>if ((i:Nat):Int)∈(DO W 8).take (DO W 8).length then B7 (ob os i).gen else ob os i)=fun i=>if ((i:Nat):Int)∈DO W 8 then B7 (ob os i).gen else ob os i:=by rw [List.take_length]
 have e2:mk8 (fun i=>if ((i:Nat):Int)∈DO W 8 then B7 (ob os i).gen else ob os i)=mk8 (PJ os W):=SL fun i hi=>by
  unfold PJ
  by_cases hw:W i=true
  ·rw [if_pos hw,if_pos (QA.2 ⟨i,hi,rfl,hw⟩)]
  ·rw [if_neg hw,if_neg fun hm=>hw (by obtain ⟨k,_,h2,h3⟩:=QA.1 hm;have:k=i:=by omega
                                       subst this;exact h3)]
 rw [e1,e2,List.take_length,ZT]
 clear hR e1 e2
 refine BL (fun i=>[iv 8,iv i]) (fun i=>[tI (SA os W 8),tR tO (mk8 fun k=>if k<i then GC os W k else PJ os W k),tR tW ws,tI buf,tS ss]) 8 (fun _=>True) rfl rfl trivial (fun R i hi hP hR=> ?_)
 simp only [AJ,AO,AS,AN,AQ,AG,AK,AI,AR,AT,AU,AM,AL,AP,BP,BU,BW,BT,BV,BS,BQ,AY,A6,A7,A4,A5,A8]
 simp only [DS]
 refine BE (BB (fun hlt=> ?_) fun hge=> ?_)
 ·have hlt:i<8:=by omega
  replace hR:=hR hlt trivial
  have hml:i<(mk8 fun k=>if k<i then GC os W k else PJ os W k).length:=by rw [DS];exact hlt
  have hoi:(mk8 fun k=>if k<i then GC os W k else PJ os W k)[i]=PJ os W i:=by rw [DQ hml,JF hlt,if_neg (by omega)]
  have hset: ∀v,v=GC os W i→(mk8 fun k=>if k<i then GC os W k else PJ os W k).set i v=mk8 fun k=>if k<i+1 then GC os W k else PJ os W k:=fun v hv=>by
   rw [TG hlt]
   refine SL fun k hk=> ?_
   by_cases h1:k=i
   ·subst h1;rw [if_pos rfl,if_pos (by omega),hv]
   ·rw [if_neg h1]
    by_cases h2:k<i
    ·rw [if_pos h2,if_pos (by omega)]
    ·rw [if_neg h2,if_neg (by omega)]
  have hin: ∀v,v=FF os W i→inE ((mk8 fun k=>if k<i then GC os W k else PJ os W k).set i v) i=inE (mk8 (FF os W)) i:=fun v hv=>by
   rw [TG hlt]
   refine vE (by rw [DS,DS]) fun k hk=> ?_
   rw [DS] at hk
   rw [JF hk,JF hk]
   by_cases h1:k=i
   ·subst h1;rw [if_pos rfl,hv];exact ⟨rfl,rfl,rfl⟩
   ·rw [if_neg h1]
    by_cases h2:k<i
    ·rw [if_pos h2];exact UI os W k
    ·rw [if_neg h2];exact bK os W k
  have hlen3: ∀o∈(mk8 fun k=>if k<i then GC os W k else PJ os W k).set i (FF os W i),(o.field.length:Int)≤1048576:=fun o ho=>by
   rw [TG hlt] at ho
   obtain ⟨k,hk,rfl⟩:=gV ho
   have hm:=oB hof hol W hk
   by_cases h1:k=i
   ·subst h1;rw [if_pos rfl];omega
   ·rw [if_neg h1]
    by_cases h2:k<i
    ·rw [if_pos h2,(UI os W k).2.2];omega
    ·rw [if_neg h2,(bK os W k).2.2];omega
  generalize (mk8 fun k=>if k<i then GC os W k else PJ os W k)=M at hml hoi hset hin hlen3 ⊢
  have hM8:M.length=8:=by have:=congrArg List.length (hset (GC os W i) rfl);rw [List.length_set,DS] at this;exact this
  refine DB (BF hlt ?_)
  refine YG (f:=tO) (c:=7) (y:={M[i] with purple:=false}) hml (by decide) rfl rfl ?_
  rw [hoi,iC]
  refine nM (v:= .bool (FF os W i).live) hml rfl ?_
  cases hv:(FF os W i).live with
  | true=>
    refine CV (JJ (v:=I (FF os W i).holds) hml (by decide) rfl (JJ (v:=I (FF os W i).roots) hml (by decide) rfl (KM ?_)))
    refine NT ⟨by omega,by omega⟩ (by rw [List.length_set,hM8];decide) hlen3 ?_
    rw [hin _ rfl]
    refine KM (KR hml ?_)
    rw [hset _ (by unfold GC;rw [if_pos hv])]
    exact A9 (by omega) hR
  | false=>
    refine C7 ?_
    rw [hset _ (by unfold GC;rw [if_neg (by rw [hv];decide)])]
    exact A9 (by omega) hR
 ·have:i=8:=by omega
  subst this
  rw [SL (g:=GC os W) fun k hk=>if_pos hk]
  exact hK
end Go.Proofs.Ytklmcfpgdfibnaa.P
namespace Go.Proofs.Ytklmcfpgdfibnaa.P
open Go Go.Proofs.Ytklmcfpgdfibnaa Go.Proofs.Ytklmcfpgdfibnaa.Eng
set_option linter.unusedVariables false
set_option maxHeartbeats 4000000
set_option linter.unusedVariables false
set_option linter.unusedSimpArgs false
attribute [local irreducible] prP gP gE gF AW ixW ldc ldg ldl stc stg scW mkW apW AZ cl2 BJ CH B2
variable {w0:World}
noncomputable def CA (h:Hp) (o:Op5):Hp×An:=
 if o.kind=1 then (⟨(HE h.AB h.sites o.site).1,h.CB,h.buffer,(HE h.AB h.sites o.site).2.1⟩,(HE h.AB h.sites o.site).2.2) else
 if o.kind=2∨o.kind=3∨o.kind=5∨o.kind=6 then (⟨(FT h.AB h.buffer o.kind o.a).1,h.CB,(FT h.AB h.buffer o.kind o.a).2.1,h.sites⟩,(FT h.AB h.buffer o.kind o.a).2.2) else
 if o.kind=4 then (⟨(GP h.AB h.buffer o.a o.b o.c).1,h.CB,(GP h.AB h.buffer o.a o.b o.c).2.1,h.sites⟩,(GP h.AB h.buffer o.a o.b o.c).2.2) else
 if o.kind=7 then (⟨h.AB,(OC h.AB h.CB o.a).1,h.buffer,h.sites⟩,(OC h.AB h.CB o.a).2) else
 if o.kind=8∨o.kind=9 then (⟨h.AB,(IZ h.AB h.CB o.kind o.a).1,h.buffer,h.sites⟩,(IZ h.AB h.CB o.kind o.a).2) else
 if o.kind=10 then (⟨(F9 h.AB h.buffer).1,h.CB,[],h.sites⟩,⟨0,0,(F9 h.AB h.buffer).2⟩) else (h,⟨2,0,[]⟩)
theorem dV {α:Type} [Inhabited α] {l:List α} (h: ∀i (hi:i<l.length),l[i]∉l.take i):l.Nodup:=by
 refine List.pairwise_iff_getElem.2 fun i j hi hj hij he=>h j hj ?_
 rw [←he]
 exact List.mem_take_iff_getElem.2 ⟨i,by omega,rfl⟩
theorem few {n:Nat}: ∀{l:List Int} (g:Int→Nat),l.Nodup→(∀x∈l,g x<n)→(∀x∈l, ∀y∈l,g x=g y→x=y)→l.length≤n:=by
 induction n with
 | zero=>
   intro l g _ h _
   cases l with
   | nil=>simp
   | cons x l=>exact absurd (h x (by simp)) (by omega)
 | succ n ih=>
   intro l g hn h hi
   by_cases hx: ∃x∈l,g x=n
   ·obtain ⟨x,hx,hg⟩:=hx
    have:=ih (l:=l.erase x) g (hn.erase x) (fun y hy=>by
     have hy':=List.mem_of_mem_erase hy
     have:=h y hy'
     have hne:g y≠n:=fun he=>by
      have:y=x:=hi y hy' x hx (by omega)
      subst this
      exact (List.Nodup.not_mem_erase hn) hy
     omega) fun y hy z hz=>hi y (List.mem_of_mem_erase hy) z (List.mem_of_mem_erase hz)
    rw [List.length_erase_of_mem hx] at this
    omega
   ·have:=ih g hn (fun y hy=>by
     have:=h y hy
     have:g y≠n:=fun he=>hx ⟨y,hy,he⟩
     omega) hi
    omega
theorem BG.bnd {h:Hp} (hk:BG h):h.buffer.Nodup:=dV fun i hi=>by rw [DE hi];exact (hk.buf i hi).2
theorem BG.UZ {h:Hp} (hk:BG h) {x:Int} (hx:x∈h.buffer):0≤AA h.AB x:=by
 obtain ⟨i,hi,rfl⟩:=List.getElem_of_mem hx
 rw [DE hi];exact (hk.buf i hi).1
theorem TZ {l:List AE} {x y:Int} (hx:0≤AA l x) (hy:0≤AA l y) (h:AA l x=AA l y):x=y:=by
 have a:=BH hx;have b:=BH hy
 have e1:=a.2.2.2.2.2;have e2:=b.2.2.2.2.2
 rw [h] at e1
 omega
theorem BG.yX {h:Hp} (hk:BG h):h.buffer.length≤8:=
 few (fun x=>(AA h.AB x).toNat) hk.bnd (fun x hx=>(BH (hk.UZ hx)).2.2.2.1) fun x hx y hy he=>TZ (hk.UZ hx) (hk.UZ hy) (by have:=hk.UZ hx;have:=hk.UZ hy;omega)
theorem BG.st {h:Hp} (hk:BG h) (hn:QR h):St h:=by
 refine ⟨hk.ol,hk.wl,hk.sites.len,by have:=hk.yX;omega,fun o ho=> ?_,fun s hs=> ?_,hn.weak,hn.buf⟩
 ·obtain ⟨i,hi,rfl⟩:=List.getElem_of_mem ho
  have hi8:i<8:=by have:=hk.ol;omega
  have:=hn.obj _ ho
  rw [DQ hi] at this ⊢
  exact ⟨this.1,(hk.obj i hi8).len,this.2.2.2.2.2⟩
 ·obtain ⟨i,hi,rfl⟩:=List.getElem_of_mem hs
  have:=(hk.sites.sz i hi).2
  rw [bJ hi];omega
theorem BG.hr {h:Hp} (hk:BG h) (i:Nat):(0≤(ob h.AB i).holds∧(ob h.AB i).holds≤20)∧(0≤(ob h.AB i).roots∧(ob h.AB i).roots≤20):=by
 by_cases hi:i<8
 ·cases hv:(ob h.AB i).live with
  | true=>exact ⟨((hk.obj i hi).lv hv).2.2.1,((hk.obj i hi).lv hv).2.2.2.1⟩
  | false=>have:=(hk.obj i hi).dead hv;omega
 ·have:ob h.AB i=⟨false,0,0,0,0,0,[],false⟩:=by unfold ob;rw [List.getD_eq_getElem?_getD,List.getElem?_eq_none (by have:=hk.ol;omega)];rfl
  rw [this];simp
theorem kinds (k:Int):k=1∨(k=2∨k=3∨k=5∨k=6)∨k=4∨k=7∨(k=8∨k=9)∨k=10∨ ¬(k=1∨k=2∨k=3∨k=4∨k=5∨k=6∨k=7∨k=8∨k=9∨k=10):=by omega
theorem QM {h:Hp} {o:Op5} {K:J2} (hk:BG h) (hn:QR h) (ha:F64 o.a) (hc:F64 o.c) (hK:K [I (CA h o).2.code,I (CA h o).2.val] (tI (CA h o).2.freed::trees (CA h o).1)):cl2 ⟨Try.prog,w0⟩ 106 CP.sg [I o.kind,I o.a,I o.b,I o.c, .string o.site] (trees h) K:=by
 have st:=hk.st hn
 have hr:=hk.hr
 refine CP.cl2 ?_
 unfold CP.txt
 obtain ⟨os,ws,buf,ss⟩:=h
 obtain ⟨kd,a,b,c,s⟩:=o
 have hol:os.length=8:=st.ol
 have hof: ∀o∈os,OF o:=st.of
 have hb:buf.length≤100:=st.bl
 simp only at ha hc hr
 simp only [trees]
 unfold CA at hK
 simp only at hK
 rcases kinds kd with rfl | hkd | rfl | rfl | hkd | rfl | hkd
 ·rw [if_pos rfl] at hK
  exact CT (IY rfl (ZK hol st.sl hK))
 ·rw [if_neg (by omega),if_pos hkd] at hK
  have cc:=fun {K:J2}=>T7 (w0:=w0) (os:=os) (buf:=buf) (b:=tR tW ws) (d:=tS ss) (kind:=kd) (id:=a) (K:=K) hol hof hb ha hkd hr
  rcases hkd with rfl | rfl | rfl | rfl
  all_goals
   repeat' (first | refine DB ?_ | refine CV ?_ | refine C7 ?_ | refine CT ?_ | simp only [AJ,AO,AS,AN,AQ,AG,AK,AI,AR,AT,AU,AM,AL,AP,BP,BU,BW,BT,BV,BS,BQ,AY,A6,A7,A4,A5,A8])
   exact cc hK
 ·simp only [if_neg (show ¬(4:Int)=1 by decide),if_neg (show ¬((4:Int)=2∨(4:Int)=3∨(4:Int)=5∨(4:Int)=6) by decide),if_true] at hK
  repeat' (first | refine DB ?_ | refine CV ?_ | refine C7 ?_ | refine CT ?_ | simp only [AJ,AO,AS,AN,AQ,AG,AK,AI,AR,AT,AU,AM,AL,AP,BP,BU,BW,BT,BV,BS,BQ,AY,A6,A7,A4,A5,A8])
  exact Y3 hol hof hb ha hc hK
 ·simp only [if_neg (show ¬(7:Int)=1 by decide),if_neg (show ¬((7:Int)=2∨(7:Int)=3∨(7:Int)=5∨(7:Int)=6) by decide),if_neg (show ¬(7:Int)=4 by decide),if_true] at hK
  repeat' (first | refine DB ?_ | refine CV ?_ | refine C7 ?_ | refine CT ?_ | simp only [AJ,AO,AS,AN,AQ,AG,AK,AI,AR,AT,AU,AM,AL,AP,BP,BU,BW,BT,BV,BS,BQ,AY,A6,A7,A4,A5,A8])
  exact ZY hol st.wl ha hK
 ·rw [if_neg (by omega),if_neg (by omega),if_neg (by omega),if_neg (by omega),if_pos hkd] at hK
  rcases hkd with rfl | rfl
  all_goals
   repeat' (first | refine DB ?_ | refine CV ?_ | refine C7 ?_ | refine CT ?_ | simp only [AJ,AO,AS,AN,AQ,AG,AK,AI,AR,AT,AU,AM,AL,AP,BP,BU,BW,BT,BV,BS,BQ,AY,A6,A7,A4,A5,A8])
   exact WA hol st.wl ha st.wf hK
 ·simp only [if_neg (show ¬(10:Int)=1 by decide),if_neg (show ¬((10:Int)=2∨(10:Int)=3∨(10:Int)=5∨(10:Int)=6) by decide),if_neg (show ¬(10:Int)=4 by decide),if_neg (show ¬(10:Int)=7 by decide),if_neg (show ¬((10:Int)=8∨(10:Int)=9) by decide),if_true] at hK
  repeat' (first | refine DB ?_ | refine CV ?_ | refine C7 ?_ | refine CT ?_ | simp only [AJ,AO,AS,AN,AQ,AG,AK,AI,AR,AT,AU,AM,AL,AP,BP,BU,BW,BT,BV,BS,BQ,AY,A6,A7,A4,A5,A8])
  exact VI st (fun o ho=>(hn.obj o ho).2.2.2.2.1) hK
 ·rw [if_neg (by omega),if_neg (by omega),if_neg (by omega),if_neg (by omega),if_neg (by omega),if_neg (by omega)] at hK
  repeat' (first | refine DB ?_ | refine HI (by first | with_reducible assumption | omega) ?_ | refine CT ?_ | simp only [AJ,AO,AS,AN,AQ,AG,AK,AI,AR,AT,AU,AM,AL,AP,BP,BU,BW,BT,BV,BS,BQ,AY,A6,A7,A4,A5,A8])
  all_goals first | exact BY hK | (exfalso;omega)
end Go.Proofs.Ytklmcfpgdfibnaa.P
namespace Go.Proofs.Ytklmcfpgdfibnaa.P
open Go Go.Proofs.Ytklmcfpgdfibnaa Go.Proofs.Ytklmcfpgdfibnaa.Eng
set_option linter.unusedVariables false
set_option maxHeartbeats 4000000
set_option linter.unusedVariables false
set_option linter.unusedSimpArgs false
attribute [local irreducible] prP gP gE gF AW ixW ldc ldg ldl stc stg scW mkW apW AZ cl2 BJ CH B2
variable {w0:World}
open Classical in
noncomputable def N5 (h:Hp) (o:Op5):Hp×An:=if BG h then CA h o else (h,⟨2,0,[]⟩)
theorem aQ {h:Hp} {o:Op5} (hk:BG h):N5 h o=CA h o:=by unfold N5;rw [if_pos hk]
theorem nV {h:Hp} {o:Op5} (hk: ¬BG h):N5 h o=(h,⟨2,0,[]⟩):=by unfold N5;rw [if_neg hk]
theorem Y2 {h:Hp} {o:Op5} {K:J2} (hf:Fits h) (hn:QR h) (ha:F64 o.a) (hc:F64 o.c) (hK:K [I (N5 h o).2.code,I (N5 h o).2.val] (trees (N5 h o).1++[tI (N5 h o).2.freed])):cl2 ⟨Try.prog,w0⟩ 42 GJ.sg [I o.kind,I o.a,I o.b,I o.c, .string o.site] (trees h) K:=by
 refine GJ.cl2 ?_
 unfold GJ.txt
 refine NL hf (V9 hf hn (fun hk=>DR (C7 ?_)) fun hk=>DR (CV ?_))
 ·rw [aQ hk] at hK
  exact QM hk hn ha hc hK
 ·rw [nV hk] at hK
  exact BY hK
end Go.Proofs.Ytklmcfpgdfibnaa.P
namespace Go.Proofs.Ytklmcfpgdfibnaa.P
open Go Go.Proofs.Ytklmcfpgdfibnaa Go.Proofs.Ytklmcfpgdfibnaa.Eng
set_option linter.unusedVariables false
def okE (n:Int) (l:List ByteArray) (a b c d:Int) (s:ByteArray) (k v:Int) (xs:List Int):Bool:=(vF a b c d s&&wD k v xs)&&wK n l
def Fx (q:ByteArray×Int) (x:Int):ByteArray×Int:=(q.1++SI (x-q.2),x)
def base (n:Int) (l:List ByteArray) (a b c d:Int) (s:ByteArray) (k v:Int) (m:Nat):ByteArray:=((((((SI a++SI (b-n))++SI c)++SI (d-b))++lH l s)++V k)++SI (v-b))++V m
def stE (p:ByteArray×Int) (xs:List Int) (i:Nat):ByteArray×Int:=(xs.take i).foldl Fx p
theorem lA {p:ByteArray×Int} {xs:List Int} {i:Nat} (hi:i<xs.length):stE p xs (i+1)=Fx (stE p xs i) xs[i]:=by
 rw [stE,List.take_succ_eq_append_getElem hi,List.foldl_append];rfl
theorem lW {p:ByteArray×Int} {xs:List Int} (hp:NS p.2=true) (hx:xs.all NS=true): ∀i,i≤xs.length→NS (stE p xs i).2=true∧(stE p xs i).1.size≤p.1.size+7*i
 | 0,_=>⟨hp,Nat.le_refl _⟩
 | i+1,hi=>by
   obtain ⟨h1,h2⟩:=lW hp hx i (by omega)
   rw [lA (by omega)]
   refine ⟨List.all_eq_true.1 hx _ (List.getElem_mem _), ?_⟩
   have:=P0 (zg (xs[i]-(stE p xs i).2))
   simp only [Fx,ByteArray.size_append,SI];omega
theorem cX (l:List ByteArray) (s:ByteArray):(lH l s).size≤22:=by
 unfold lH;split
 ·have:=P0 (at_ l s+1);omega
 ·have h1:=P0 0
  have h2:=qW s
  rw [ByteArray.size_append];omega
theorem RO (n:Int):(SI n).size≤7:=P0 _
def fN (n:Int) (l:List ByteArray) (a b c d:Int) (s:ByteArray) (k v:Int) (xs:List Int):ByteArray×Int×List ByteArray:=
 if okE n l a b c d s k v xs then ((stE (base n l a b c d s k v xs.length,b) xs xs.length).1,b,wT l s) else (⟨#[]⟩,n,l)
theorem aJ {n:Int} {l:List ByteArray} {a b c d:Int} {s:ByteArray} {k v:Int} {xs:List Int} (h:okE n l a b c d s k v xs=true):NS a=true∧NS b=true∧NS c=true∧NS d=true∧NS v=true∧NS n=true∧xs.all NS=true∧xs.length≤8∧(0≤k∧k≤6)∧l.length≤400:=by
 simp only [okE,vF,wD,wK,Bool.and_eq_true,decide_eq_true_eq] at h
 exact ⟨h.1.1.1.1.1.1,h.1.1.1.1.1.2,h.1.1.1.1.2,h.1.1.1.2,h.1.2.1.1.2,h.2.1.1,h.1.2.2,h.1.2.1.2,iU.1 h.1.2.1.1.1,h.2.1.2⟩
theorem kB (n:Int) (l:List ByteArray) (a b c d:Int) (s:ByteArray) (k v:Int) (m:Nat):(base n l a b c d s k v m).size≤71:=by
 have h1:=RO a;have h2:=RO (b-n);have h3:=RO c;have h4:=RO (d-b);have h5:=cX l s;have h6:=P0 k;have h7:=RO (v-b);have h8:=P0 m
 simp only [base,ByteArray.size_append];omega
end Go.Proofs.Ytklmcfpgdfibnaa.P
namespace Go.Proofs.Ytklmcfpgdfibnaa.P
open Go Go.Proofs.Ytklmcfpgdfibnaa Go.Proofs.Ytklmcfpgdfibnaa.Eng
set_option linter.unusedVariables false
theorem iD {f:J2} {g:J2→Prop} (P:List Value→List (List T)→Prop) (h1: ∀xs cs,P xs cs→f xs cs) (h2: ∀j:J2,(∀xs cs,P xs cs→j xs cs)→g j):BJ f g:=h2 f h1
end Go.Proofs.Ytklmcfpgdfibnaa.P
