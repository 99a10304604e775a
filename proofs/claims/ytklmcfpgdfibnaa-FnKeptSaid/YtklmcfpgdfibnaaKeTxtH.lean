/- A part of the proof. -/
import Derived.Test.YtklmcfpgdfibnaaKeHpQ
import Derived.Test.YtklmcfpgdfibnaaKeHpE
namespace Go.Proofs.Ytklmcfpgdfibnaa.P
open Go Go.Proofs.Ytklmcfpgdfibnaa Go.Proofs.Ytklmcfpgdfibnaa.Eng
set_option linter.unusedVariables false
def RB (os:List AU) (ids:List Int) (k:Nat):Prop:= ∃b∈ids, ∃s:Nat,AB os b=(s:Int)∧Reach os s k
theorem RB.next {os:List AU} {ids:List Int} {k:Nat} {j:Int} (h:RB os ids k) (hj:j∈BO os k):RB os ids j.toNat:=by
 obtain ⟨b,hb,s,hs,hr⟩:=h
 exact ⟨b,hb,s,hs, .step hr hj⟩
theorem RB.reach {os:List AU} {ids:List Int} {a b:Nat} (h:RB os ids a) (hr:Reach os a b):RB os ids b:=hr.closed h fun _ h _ hj=>h.next hj
theorem RB.lt {os:List AU} {ids:List Int} {k:Nat} (h:RB os ids k):k<8:=by
 obtain ⟨b,_,s,hs,hr⟩:=h
 have:=BT (l:=os) (id:=b) (by omega)
 exact hr.lt (by omega)
theorem RB.snoc {os:List AU} {ids:List Int} {b:Int} {k:Nat}:RB os (ids++[b]) k↔RB os ids k∨ ∃s:Nat,AB os b=(s:Int)∧Reach os s k:=by
 constructor
 ·rintro ⟨x,hx,h⟩
  rcases List.mem_append.1 hx with hx | hx
  ·exact .inl ⟨x,hx,h⟩
  ·have hx:x=b:=by simpa using hx
   subst hx;exact .inr h
 ·rintro (⟨x,hx,h⟩ | h)
  ·exact ⟨x,List.mem_append_left _ hx,h⟩
  ·exact ⟨b,by simp,h⟩
structure MK (os:List AU) (ct:Nat→Int) (ids:List Int) (cs col:List Int):Prop where
 len:cs.length=8∧col.length=8
 f: ∀i,i<8→F64 (gI cs i)
 one: ∀k,k<8→gI col k=1→RB os ids k
 zero: ∀k,k<8→gI col k≠1→gI col k=0∧ ¬RB os ids k
 cnt: ∀i,i<8→gI cs i=w64 (ct i-S os (isC col 1) i)
section
variable {os:List AU} {ct:Nat→Int} {ids:List Int} {cs col cs' col':List Int} {b:Int} {s:Nat}
theorem MK.none (h:MK os ct ids cs col) (hb:AB os b<0):MK os ct (ids++[b]) cs col:=by
 refine ⟨h.len,h.f,fun k hk h1=>RB.snoc.2 (.inl (h.one k hk h1)),fun k hk h1=>⟨(h.zero k hk h1).1,fun hr=> ?_⟩,h.cnt⟩
 rcases RB.snoc.1 hr with hr | ⟨s,hs,_⟩
 ·exact (h.zero k hk h1).2 hr
 ·omega
theorem MK.some (h:MK os ct ids cs col) (hb:AB os b=(s:Int)) (hs:s<8) (p:KY os 1 (-1) cs col cs' col' s):MK os ct (ids++[b]) cs' col':=by
 have cl: ∀k,Reach os s k→k<8∧gI col' k=1:=fun k hr=>hr.closed (P:=fun k=>k<8∧gI col' k=1) ⟨hs,p.got⟩ fun x hx j hj=>by
  refine ⟨(CG hj).2.1, ?_⟩
  by_cases h1:gI col x=1
  ·refine p.IT _ (CG hj).2.1 (Decidable.byContradiction fun hn=> ?_)
   exact (h.zero _ (CG hj).2.1 hn).2 ((h.one x hx.1 h1).next hj)
  ·exact (p.clo x hx.1 hx.2 h1).2 j hj
 refine ⟨p.len,p.f,fun k hk h1=>RB.snoc.2 ?_,fun k hk h1=> ?_,fun i hi=> ?_⟩
 ·by_cases h0:gI col k=1
  ·exact .inl (h.one k hk h0)
  ·exact .inr ⟨s,hb,(p.clo k hk h1 h0).1⟩
 ·have e:=p.only k hk h1
  have h2:gI col k≠1:=by rw [←e];exact h1
  obtain ⟨z1,z2⟩:=h.zero k hk h2
  refine ⟨by rw [e];exact z1,fun hr=> ?_⟩
  rcases RB.snoc.1 hr with hr | ⟨s',hs',hr⟩
  ·exact z2 hr
  ·have:s'=s:=by omega
   subst this
   exact h1 (cl k hr).2
 ·rw [p.cnt i hi,h.cnt i hi,NT]
  congr 1
  omega
end
open Classical in
noncomputable def PG (os:List AU) (buf:List Int) (k:Nat):Bool:=decide (RB os buf k)
def Out (os:List AU) (ct:Nat→Int) (buf:List Int) (x:Nat):Prop:=x<8∧RB os buf x∧EX os ct (PG os buf) x
open Classical in
noncomputable def I7 (os:List AU) (ct:Nat→Int) (buf:List Int) (k:Nat):Bool:=decide (RB os buf k∧ ¬ ∃x,Out os ct buf x∧Reach os x k)
theorem Y5 {os:List AU} {buf:List Int} {k:Nat}:PG os buf k=true↔RB os buf k:=by unfold PG;simp
theorem U2 {os:List AU} {buf:List Int} {k:Nat}:PG os buf k=false↔ ¬RB os buf k:=by unfold PG;simp
theorem JF {os:List AU} {ct:Nat→Int} {buf:List Int} {k:Nat}:I7 os ct buf k=true↔RB os buf k∧ ¬ ∃x,Out os ct buf x∧Reach os x k:=by unfold I7;simp
structure SC (os:List AU) (ct:Nat→Int) (buf:List Int) (ids:List Int) (cs col:List Int):Prop where
 si:SN os ct (PG os buf) cs col
 got: ∀b∈ids, ∀s:Nat,AB os b=(s:Int)→gI col s≠1
 wk: ∀k,k<8→gI col k=2→ ∀j∈BO os k,gI col j.toNat≠1
section
variable {os:List AU} {ct:Nat→Int} {buf ids:List Int} {cs col cs' col':List Int} {b:Int} {s:Nat}
theorem SC.start (h:MK os ct buf cs col):SC os ct buf [] cs col:=by
 refine ⟨⟨h.len,h.f,fun k hk=> ?_,fun k hk hc=> ?_,fun i hi=> ?_,fun k hk hc h0=> ?_,fun k hk h2=> ?_⟩,fun b hb=>by simp at hb,fun k hk h2=> ?_⟩
 ·by_cases h1:gI col k=1
  ·exact .inr (.inl h1)
  ·exact .inl (h.zero k hk h1).1
 ·exact (h.zero k hk fun h1=>U2.1 hc (h.one k hk h1)).1
 ·rw [h.cnt i hi]
  congr 2
  refine kP fun k hk=> ?_
  by_cases h1:gI col k=1
  ·simp [isC,h1]
  ·simp [isC,(h.zero k hk h1).1]
 ·exact absurd (Y5.1 hc) (h.zero k hk (by omega)).2
 ·have:=(h.zero k hk (by omega)).1;omega
 ·have:=(h.zero k hk (by omega)).1;omega
theorem SC.none (h:SC os ct buf ids cs col) (hb:AB os b<0):SC os ct buf (ids++[b]) cs col:=
 ⟨h.si,fun x hx s hs=>by
   rcases List.mem_append.1 hx with hx | hx
   ·exact h.got x hx s hs
   ·have hx:x=b:=by simpa using hx
    subst hx;omega,h.wk⟩
theorem SC.some (h:SC os ct buf ids cs col) (hb:AB os b=(s:Int)) (hs:s<8) (p:SO os ct (PG os buf) col cs' col' s):SC os ct buf (ids++[b]) cs' col':=by
 refine ⟨p.si,fun x hx t ht=> ?_,fun k hk h2=> ?_⟩
 ·rcases List.mem_append.1 hx with hx | hx
  ·have:=BT (l:=os) (id:=x) (by omega)
   exact p.ng t (by omega) (h.got x hx t ht)
  ·have hx:x=b:=by simpa using hx
   subst hx
   have:t=s:=by omega
   subst this;exact p.got
 ·rcases p.wk k hk h2 with h3 | h3
  ·exact fun j hj=>p.ng _ (CG hj).2.1 (h.wk k hk h3 j hj)
  ·exact h3
theorem SC.stop (h:SC os ct buf buf cs col): ∀k,k<8→(gI col k=2↔I7 os ct buf k=true):=by
 have ng: ∀k,RB os buf k→gI col k≠1:=fun k hr=>by
  obtain ⟨b,hb,s,hs,hr⟩:=hr
  have hb8:=BT (l:=os) (id:=b) (by omega)
  have:=hr.closed (P:=fun k=>(k<8∧RB os buf k)∧gI col k≠1) ⟨⟨by omega,b,hb,s,hs, .refl⟩,h.got b hb s hs⟩ fun x hx j hj=>by
   refine ⟨⟨(CG hj).2.1,hx.1.2.next hj⟩, ?_⟩
   rcases h.si.rng x hx.1.1 with h0 | h1 | h2
   ·have:=(h.si.blk x hx.1.1 (Y5.2 hx.1.2) h0).2 j hj;omega
   ·exact absurd h1 hx.2
   ·exact h.wk x hx.1.1 h2 j hj
  exact this.2
 intro k hk
 rw [JF]
 constructor
 ·intro h2
  have hr:RB os buf k:=Classical.byContradiction fun hn=>by
   have:=h.si.out k hk (U2.2 hn);omega
  refine ⟨hr, ?_⟩
  rintro ⟨x,⟨hx8,hx,he⟩,hxk⟩
  have:=hxk.closed (P:=fun k=>(k<8∧RB os buf k)∧gI col k=0) ⟨⟨hx8,hx⟩,by
   rcases h.si.rng x hx8 with h0 | h1 | h2
   ·exact h0
   ·exact absurd h1 (ng x hx)
   ·exact absurd he (h.si.wht x hx8 h2)⟩ fun y hy j hj=>⟨⟨(CG hj).2.1,hy.1.2.next hj⟩,(h.si.blk y hy.1.1 (Y5.2 hy.1.2) hy.2).2 j hj⟩
  omega
 ·rintro ⟨hr,hn⟩
  rcases h.si.rng k hk with h0 | h1 | h2
  ·obtain ⟨x,x8,xc,xe,xr⟩:=(h.si.blk k hk (Y5.2 hr) h0).1
   exact absurd ⟨x,⟨x8,Y5.1 xc,xe⟩,xr⟩ hn
  ·exact absurd h1 (ng k hr)
  ·exact h2
end
def mk8 (f:Nat→AU):List AU:=(List.range 8).map f
theorem CT (f:Nat→AU):(mk8 f).length=8:=by simp [mk8]
theorem IP {f:Nat→AU} {i:Nat} (h:i<8):ob (mk8 f) i=f i:=by
 rw [←DH (by rw [CT];exact h)];simp [mk8]
theorem KJ {f g:Nat→AU} (h: ∀i,i<8→f i=g i):mk8 f=mk8 g:=List.map_congr_left fun i hi=>h i (List.mem_range.1 hi)
theorem YZ {os:List AU} (h:os.length=8):os=mk8 (ob os):=by
 apply List.ext_getElem (by rw [CT,h])
 intro i h1 h2
 rw [DH h1,DH h2,IP (by omega)]
theorem PF {f:Nat→AU} {k:Nat} {v:AU} (hk:k<8):(mk8 f).set k v=mk8 fun i=>if i=k then v else f i:=by
 apply List.ext_getElem (by simp [CT])
 intro i h1 h2
 have hi:i<8:=by rw [CT] at h2;exact h2
 rw [DH h1,DH h2,DZ (by rw [CT];exact hk),IP hi,IP hi]
theorem dF {f:Nat→AU} {o:AU} (h:o∈mk8 f): ∃i,i<8∧o=f i:=by
 obtain ⟨i,hi,rfl⟩:=List.mem_map.1 h
 exact ⟨i,List.mem_range.1 hi,rfl⟩
theorem QV {a b:List AU} {id:Int} (hl:a.length=b.length) (h: ∀i,i<a.length→(ob a i).live=(ob b i).live∧(ob a i).field=(ob b i).field):CJ a id=CJ b id:=by
 unfold CJ
 congr 1
 apply List.ext_getElem (by simp [hl])
 intro i h1 h2
 simp only [List.length_map] at h1 h2
 rw [List.getElem_map,List.getElem_map,DH h1,DH h2]
 unfold MG
 rw [(h i h1).1,(h i h1).2]
theorem rL {a b:List AU} {s:Int} (hl:a.length=b.length) (h: ∀i,i<a.length→(ob a i).live=(ob b i).live∧(ob a i).gen=(ob b i).gen∧(ob a i).field=(ob b i).field):inE a s=inE b s:=by
 unfold inE
 by_cases hs:0≤s∧s≤(a.length:Int)-1
 ·have hi:=h s.toNat (by omega)
  rw [hi.1,hi.2.1,QV hl fun i hi=>⟨(h i hi).1,(h i hi).2.2⟩,hl]
 ·rw [if_neg (fun hh=>hs hh.1),if_neg (fun hh=>hs (by rw [hl];exact hh.1))]
def DM (os:List AU) (W:Nat→Bool) (i:Nat):AU:=if W i=true then CA (ob os i).gen else {ob os i with purple:=false}
def FN (os:List AU) (W:Nat→Bool) (i:Nat):AU:=if (DM os W i).live=true then {DM os W i with count:=w64 (w64 ((DM os W i).holds+(DM os W i).roots)+inE (mk8 (DM os W)) i)} else DM os W i
def C1 (W:Nat→Bool):Nat→List Int:=pick fun i=>if W i=true then [(i:Int)] else []
def JP (os:List AU) (W:Nat→Bool):Nat→List Int:=pick fun i=>if W i=true then [B9 i (ob os i).gen] else []
theorem rO {α β:Type} {f:Nat→List α} {h:α→β} (n:Nat):(pick f n).map h=pick (fun i=>(f i).map h) n:=by
 induction n with
 | zero=>rfl
 | succ n ih=>simp only [pick,List.map_append,ih]
theorem S8 {α:Type} {f g:Nat→List α} {n:Nat} (h: ∀i,i<n→f i=g i):pick f n=pick g n:=by
 induction n with
 | zero=>rfl
 | succ n ih=>simp only [pick];rw [ih fun i hi=>h i (by omega),h n (by omega)]
theorem TQ (os:List AU) (W:Nat→Bool) (n:Nat):(C1 W n).map (fun x=>B9 x (ob os x.toNat).gen)=JP os W n:=by
 unfold C1 JP
 rw [rO]
 refine S8 fun i hi=> ?_
 split <;> simp
theorem LG {W:Nat→Bool} {n:Nat} {x:Int}:x∈C1 W n↔ ∃i:Nat,i<n∧x=i∧W i=true:=by
 unfold C1
 induction n with
 | zero=>simp [pick]
 | succ n ih=>
   simp only [pick,List.mem_append,ih]
   constructor
   ·rintro (⟨i,h1,h2,h3⟩ | h)
    ·exact ⟨i,by omega,h2,h3⟩
    ·split at h
     ·rename_i hw;exact ⟨n,by omega,by simpa using h,hw⟩
     ·simp at h
   ·rintro ⟨i,h1,h2,h3⟩
    by_cases hi:i=n
    ·subst hi;right;rw [if_pos h3];simp [h2]
    ·exact .inl ⟨i,by omega,h2,h3⟩
noncomputable def GZ (os:List AU) (buf:List Int):List AU×List Int:=
 (mk8 (FN os (I7 os (fun i=>(ob os i).count) buf)),JP os (I7 os (fun i=>(ob os i).count) buf) 8)
end Go.Proofs.Ytklmcfpgdfibnaa.P
namespace Go.Proofs.Ytklmcfpgdfibnaa.P
open Go Go.Proofs.Ytklmcfpgdfibnaa Go.Proofs.Ytklmcfpgdfibnaa.Eng
set_option linter.unusedVariables false
set_option maxHeartbeats 4000000
set_option linter.unusedVariables false
set_option linter.unusedSimpArgs false
attribute [local irreducible] prP gP gE gF AX ixW ldc ldg ldl stc stg scW mkW apW BE cl2 BS DF CB
variable {w0:World}
theorem Z4 {os:List AU} {i:Nat} (hi:i<os.length):(os.take (i+1)).map (·.count)=(os.take i).map (·.count)++[(ob os i).count]:=by
 rw [List.take_succ_eq_append_getElem hi,List.map_append,DH hi];rfl
theorem V6 {os:List AU} {b c d:List T} {K:J2} (hol:os.length=8) (h:K [] [tI (os.map (·.count)),tI (List.replicate 8 0)]):cl2 ⟨Try.prog,w0⟩ 56 FY.sg [] [tR tO os,b,c,d] K:=by
 refine FY.cl2 ?_
 unfold FY.txt
 simp only [AI,AO,AM,AS,AH,AE,AG,AK,AN,AP,AR,AT,AQ,AL,BD,BJ,BL,BK,BM,BN,BG,A4,AZ,A6,A8,A5,A7]
 refine BH (fun i=>[iv os.length,iv i]) (fun i=>[tI ((os.take i).map (·.count)),tI (List.replicate i 0)]) os.length (fun _=>True) rfl rfl trivial (fun R i hi hP hR=> ?_)
 have hln:((os.take i).map (·.count)).length=i:=by simp;omega
 have hl2:(List.replicate i (0:Int)).length=i:=List.length_replicate
 simp only [AI,AO,AM,AS,AH,AE,AG,AK,AN,AP,AR,AT,AQ,AL,BD,BJ,BL,BK,BM,BN,BG,A4,AZ,A6,A8,A5,A7]
 refine AY (AW (fun hlt=> ?_) fun hge=> ?_)
 ·have hlt:i<os.length:=by omega
  replace hR:=hR hlt trivial
  rw [Z4 hlt, ←DO,List.replicate_succ', ←DO] at hR
  refine BP (AJ hlt (OC hlt ?_))
  simp only [qI]
  exact AY (CY (by omega) (DC rfl (by omega) (DC rfl (by omega) (BA (by omega) hR))))
 ·have:i=os.length:=by omega
  subst this
  rw [List.take_length,hol];exact h
theorem VW {os:List AU} {b c d:List T} {K:J2} (hol:os.length=8) (h:K [] [tI (os.map (·.count)),tI (List.replicate 8 0)]):cl2 ⟨Try.prog,w0⟩ 155 FR.sg [] [tR tO os,b,c,d] K:=by
 refine FR.cl2 ?_
 unfold FR.txt
 simp only [AI,AO,AM,AS,AH,AE,AG,AK,AN,AP,AR,AT,AQ,AL,BD,BJ,BL,BK,BM,BN,BG,A4,AZ,A6,A8,A5,A7]
 refine BH (fun i=>[iv i]) (fun i=>[tI ((os.take i).map (·.count)),tI (List.replicate i 0)]) os.length (fun _=>True) rfl rfl trivial (fun R i hi hP hR=> ?_)
 have hln:((os.take i).map (·.count)).length=i:=by simp;omega
 have hl2:(List.replicate i (0:Int)).length=i:=List.length_replicate
 simp only [AI,AO,AM,AS,AH,AE,AG,AK,AN,AP,AR,AT,AQ,AL,BD,BJ,BL,BK,BM,BN,BG,A4,AZ,A6,A8,A5,A7]
 refine AY (BC (J1 (fun hlt=> ?_) fun hge=> ?_))
 ·have hlt':i<os.length:=by omega
  replace hR:=hR hlt' trivial
  rw [Z4 hlt', ←DO,List.replicate_succ', ←DO] at hR
  refine AY (C4 hlt rfl (CY (by omega) ?_))
  exact AJ hlt' (H0 (v:=I (ob os i).count) hlt' (by decide) rfl (DC rfl (by omega) (DC rfl (by omega) (BA (by omega) hR))))
 ·have:i=os.length:=by omega
  subst this
  refine CZ hge rfl (BU ?_)
  rw [List.take_length,hol];exact h
theorem ZF {cs col:List Int} {W:Nat→Bool} {K:J2} (hl:col.length=8) (hw: ∀k,k<8→(gI col k=2↔W k=true)) (h:K [] [tI (C1 W 8)]):cl2 ⟨Try.prog,w0⟩ 60 HK.sg [] [tI cs,tI col] K:=by
 refine HK.cl2 ?_
 unfold HK.txt
 simp only [AI,AO,AM,AS,AH,AE,AG,AK,AN,AP,AR,AT,AQ,AL,BD,BJ,BL,BK,BM,BN,BG,A4,AZ,A6,A8,A5,A7]
 refine BH (fun i=>[iv col.length,iv i]) (fun i=>[tI (C1 W i)]) col.length (fun _=>True) rfl rfl trivial (fun R i hi hP hR=> ?_)
 have hln:(C1 W i).length≤i:=JQ (fun i=>by split <;> simp) i
 simp only [AI,AO,AM,AS,AH,AE,AG,AK,AN,AP,AR,AT,AQ,AL,BD,BJ,BL,BK,BM,BN,BG,A4,AZ,A6,A8,A5,A7]
 refine AY (AW (fun hlt=> ?_) fun hge=> ?_)
 ·have hlt:i<col.length:=by omega
  replace hR:=hR hlt trivial
  have hwi:=hw i (by omega)
  refine BP (AJ hlt (ldI hlt (BF (AW (fun h2=> ?_) fun h2=> ?_))))
  ·have e:C1 W (i+1)=C1 W i++[(i:Int)]:=by show C1 W i++(if W i=true then [(i:Int)] else [])=_;rw [if_pos (hwi.1 h2)]
   rw [e, ←DO] at hR
   exact DC rfl (by omega) (BA (by omega) hR)
  ·have e:C1 W (i+1)=C1 W i:=by show C1 W i++(if W i=true then [(i:Int)] else [])=_;rw [if_neg (fun hh=>h2 (hwi.2 hh)),List.append_nil]
   rw [e] at hR
   exact BA (by omega) hR
 ·have:i=col.length:=by omega
  subst this
  rw [hl];exact h
theorem ZG {cs col:List Int} {W:Nat→Bool} {K:J2} (hl:col.length=8) (hw: ∀k,k<8→(gI col k=2↔W k=true)) (h:K [] [tI (C1 W 8)]):cl2 ⟨Try.prog,w0⟩ 158 HI.sg [] [tI cs,tI col] K:=by
 refine HI.cl2 ?_
 unfold HI.txt
 simp only [AI,AO,AM,AS,AH,AE,AG,AK,AN,AP,AR,AT,AQ,AL,BD,BJ,BL,BK,BM,BN,BG,A4,AZ,A6,A8,A5,A7]
 refine BH (fun i=>[iv i]) (fun i=>[tI (C1 W i)]) col.length (fun _=>True) rfl rfl trivial (fun R i hi hP hR=> ?_)
 have hln:(C1 W i).length≤i:=JQ (fun i=>by split <;> simp) i
 simp only [AI,AO,AM,AS,AH,AE,AG,AK,AN,AP,AR,AT,AQ,AL,BD,BJ,BL,BK,BM,BN,BG,A4,AZ,A6,A8,A5,A7]
 refine AY (AW (fun hlt=> ?_) fun hge=> ?_)
 ·have hlt:i<col.length:=by omega
  replace hR:=hR hlt trivial
  have hwi:=hw i (by omega)
  refine BP (AJ hlt (ldI hlt (BF (AW (fun h2=> ?_) fun h2=> ?_))))
  ·have e:C1 W (i+1)=C1 W i++[(i:Int)]:=by show C1 W i++(if W i=true then [(i:Int)] else [])=_;rw [if_pos (hwi.1 h2)]
   rw [e, ←DO] at hR
   exact DC rfl (by omega) (BA (by omega) hR)
  ·have e:C1 W (i+1)=C1 W i:=by show C1 W i++(if W i=true then [(i:Int)] else [])=_;rw [if_neg (fun hh=>h2 (hwi.2 hh)),List.append_nil]
   rw [e] at hR
   exact BA (by omega) hR
 ·have:i=col.length:=by omega
  subst this
  rw [hl];exact h
theorem MK.start {os:List AU} (hol:os.length=8) (hc: ∀o∈os,F64 o.count):MK os (fun i=>(ob os i).count) [] (os.map (·.count)) (List.replicate 8 0):=by
 have hz: ∀k,k<8→gI (List.replicate 8 (0:Int)) k=0:=fun k hk=>by unfold gI;rw [List.getD_eq_getElem?_getD,List.getElem?_replicate,if_pos hk];rfl
 have hcs: ∀i,i<8→gI (os.map (·.count)) i=(ob os i).count:=fun i hi=>by
  rw [←DL (by simp;omega),List.getElem_map,DH (by omega)]
 have hF: ∀i,i<8→F64 (ob os i).count:=fun i hi=>hc _ (JJ (by omega))
 refine ⟨⟨by simp [hol],by simp⟩,fun i hi=>by rw [hcs i hi];exact hF i hi,fun k hk h1=> ?_,fun k hk h1=>⟨hz k hk, ?_⟩,fun i hi=> ?_⟩
 ·rw [hz k hk] at h1;omega
 ·rintro ⟨b,hb,_⟩;simp at hb
 ·have:S os (isC (List.replicate 8 0) 1) i=0:=KG fun k hk=>by unfold isC;rw [hz k hk];rfl
  rw [hcs i hi,this,Int.sub_zero,JK (hF i hi)]
theorem Bq {os:List AU} {W:Nat→Bool} {j:Nat} (hj:j<(C1 W 8).length) {x:Nat} (hx:gI (C1 W 8) j=(x:Int)):(fun i:Nat=>if ((i:Nat):Int)∈(C1 W 8).take (j+1) then CA (ob os i).gen else ob os i)=fun i=>if i=x then CA (ob os x).gen else (if ((i:Nat):Int)∈(C1 W 8).take j then CA (ob os i).gen else ob os i):=by
 funext i
 rw [List.take_succ_eq_append_getElem hj,DL hj,hx]
 simp only [List.mem_append,List.mem_singleton]
 by_cases hi:i=x
 ·subst hi;simp
 ·have: ¬(i:Int)=(x:Int):=by omega
  simp [hi,this]
def RX (os:List AU) (W:Nat→Bool) (i:Nat):AU:=if W i=true then CA (ob os i).gen else ob os i
theorem j0 (os:List AU) (W:Nat→Bool) (i:Nat):{RX os W i with purple:=false}=DM os W i:=by
 unfold RX DM
 split <;> rfl
theorem Q0 (os:List AU) (W:Nat→Bool) (i:Nat):(FN os W i).live=(DM os W i).live∧(FN os W i).gen=(DM os W i).gen∧(FN os W i).field=(DM os W i).field:=by
 unfold FN;split <;> exact ⟨rfl,rfl,rfl⟩
theorem fM (os:List AU) (W:Nat→Bool) (i:Nat):(RX os W i).live=(DM os W i).live∧(RX os W i).gen=(DM os W i).gen∧(RX os W i).field=(DM os W i).field:=by
 rw [←j0];exact ⟨rfl,rfl,rfl⟩
theorem fT {os:List AU} (hof: ∀o∈os,OF o) (hol:os.length=8) (W:Nat→Bool) {i:Nat} (hi:i<8):(DM os W i).field.length=3:=by
 unfold DM
 split
 ·rfl
 ·exact (hof _ (JJ (by omega))).len
theorem ZA {h:Hp} {K:J2} (st:St h) (hc: ∀o∈h.AD,F64 o.count) (hK:K [] [tR tO (GZ h.AD h.buffer).1,tR tW h.BW,[],tS h.sites,tI (GZ h.AD h.buffer).2]):cl2 ⟨Try.prog,w0⟩ 29 GK.sg [] (trees h) K:=by
 refine GK.cl2 ?_
 unfold GK.txt
 refine PZ st.fits ?_
 obtain ⟨os,ws,buf,ss⟩:=h
 have hol:os.length=8:=st.ol
 have hof: ∀o∈os,OF o:=st.of
 have hb:buf.length≤100:=st.bl
 have hbf: ∀x∈buf,F64 x:=st.bf
 simp only at hc hK
 simp only [trees]
 obtain ⟨ct,hct⟩: ∃ct:Nat→Int,ct=fun i=>(ob os i).count:=⟨_,rfl⟩
 obtain ⟨W,hW⟩: ∃W,W=I7 os ct buf:=⟨_,rfl⟩
 unfold GZ at hK
 rw [←hct, ←hW] at hK
 simp only [AI,AO,AM,AS,AH,AE,AG,AK,AN,AP,AR,AT,AQ,AL,BD,BJ,BL,BK,BM,BN,BG,A4,AZ,A6,A8,A5,A7]
 refine CM (C0 (by omega) (V6 hol ?_))
 refine DI (α:=Nat×List Int×List Int) (fun q=>[iv buf.length,iv q.1]) (fun q=>[tR tO os,tR tW ws,tI buf,tS ss,tI q.2.1,tI q.2.2]) (fun q=>buf.length-q.1) (fun q=>q.1≤buf.length∧MK os ct (buf.take q.1) q.2.1 q.2.2) (0,os.map (·.count),List.replicate 8 0) rfl rfl ⟨Nat.zero_le _,by rw [hct];exact MK.start hol hc⟩ (fun R q hq hR=> ?_)
 obtain ⟨i,cs,col⟩:=q
 obtain ⟨hi,mk⟩:=hq
 simp only at hi mk
 simp only [AI,AO,AM,AS,AH,AE,AG,AK,AN,AP,AR,AT,AQ,AL,BD,BJ,BL,BK,BM,BN,BG,A4,AZ,A6,A8,A5,A7]
 refine AY (AW (fun hlt=> ?_) fun hge=> ?_)
 ·have hlt:i<buf.length:=by omega
  have hx:=hbf _ (DS hlt)
  have nx:=fun cs' col' (m:MK os ct (buf.take i++[gI buf i]) cs' col')=>hR (i+1,cs',col') ⟨by simp only;omega,by simp only;rw [List.take_succ_eq_append_getElem hlt,DL hlt];exact m⟩ (by simp only;omega)
  refine AJ hlt (ldI hlt (C5 hx (by omega) (V9 hol hof mk.len.1 mk.len.2 mk.f (fun hn=> ?_) fun s hs s8 cs' col' p=> ?_)))
  ·exact BA (by omega) (nx _ _ (mk.none hn))
  ·exact BA (by omega) (nx _ _ (mk.some hs s8 p))
 have:i=buf.length:=by omega
 subst this
 rw [List.take_length] at mk
 refine DI (α:=Nat×List Int×List Int) (fun q=>[iv buf.length,iv q.1]) (fun q=>[tR tO os,tR tW ws,tI buf,tS ss,tI q.2.1,tI q.2.2]) (fun q=>buf.length-q.1) (fun q=>q.1≤buf.length∧SC os ct buf (buf.take q.1) q.2.1 q.2.2) (0,cs,col) rfl rfl ⟨Nat.zero_le _,SC.start mk⟩ (fun R q hq hR=> ?_)
 obtain ⟨i,cs,col⟩:=q
 obtain ⟨hi,sc⟩:=hq
 simp only at hi sc
 simp only [AI,AO,AM,AS,AH,AE,AG,AK,AN,AP,AR,AT,AQ,AL,BD,BJ,BL,BK,BM,BN,BG,A4,AZ,A6,A8,A5,A7]
 refine AY (AW (fun hlt=> ?_) fun hge=> ?_)
 ·have hlt:i<buf.length:=by omega
  have hx:=hbf _ (DS hlt)
  have nx:=fun cs' col' (m:SC os ct buf (buf.take i++[gI buf i]) cs' col')=>hR (i+1,cs',col') ⟨by simp only;omega,by simp only;rw [List.take_succ_eq_append_getElem hlt,DL hlt];exact m⟩ (by simp only;omega)
  refine AJ hlt (ldI hlt (C5 hx (by omega) (V3 hol hof sc.si (fun hn=> ?_) fun s hs s8 cs' col' p=> ?_)))
  ·exact BA (by omega) (nx _ _ (sc.none hn))
  ·exact BA (by omega) (nx _ _ (sc.some hs s8 p))
 have:i=buf.length:=by omega
 subst this
 rw [List.take_length] at sc
 have wh:=sc.stop
 rw [←hW] at wh
 refine ZF sc.si.len.2 wh ?_
 clear hR sc mk
 have hwn:(C1 W 8).length≤8:=JQ (fun i=>by split <;> simp) 8
 refine BH (fun j=>[iv (C1 W 8).length,iv j]) (fun j=>[tI (((C1 W 8).take j).map fun x=>B9 x (ob os x.toNat).gen),tI (C1 W 8),tR tO (mk8 fun i=>if ((i:Nat):Int)∈(C1 W 8).take j then CA (ob os i).gen else ob os i),tR tW ws,tI buf,tS ss]) (C1 W 8).length (fun _=>True) (by simp only [AI,AO,AM,AS,AH,AE,AG,AK,AN,AP,AR,AT,AQ,AL,BD,BJ,BL,BK,BM,BN,BG,A4,AZ,A6,A8,A5,A7];rfl) ?_ trivial (fun R j hj hP hR=> ?_)
 ·simp only [List.take_zero,List.map_nil,List.not_mem_nil,if_false]
  rw [←YZ hol];rfl
 have hln:(((C1 W 8).take j).map fun x=>B9 x (ob os x.toNat).gen).length=j:=by simp;omega
 simp only [AI,AO,AM,AS,AH,AE,AG,AK,AN,AP,AR,AT,AQ,AL,BD,BJ,BL,BK,BM,BN,BG,A4,AZ,A6,A8,A5,A7]
 simp only [CT]
 refine AY (AW (fun hlt=> ?_) fun hge=> ?_)
 ·have hlt:j<(C1 W 8).length:=by omega
  replace hR:=hR hlt trivial
  obtain ⟨x,x8,hx,hwx⟩:=LG.1 (DS hlt)
  have xl:x<os.length:=by omega
  rw [Bq hlt hx,List.take_succ_eq_append_getElem hlt,List.map_append,DL hlt,hx, ←PF x8] at hR
  refine AJ hlt (ldI hlt ?_)
  rw [hx]
  refine AJ xl (H0 (v:=I (ob os x).gen) xl (by decide) rfl (MC (DC rfl (by omega) (AJ xl (H0 (v:=I (ob os x).gen) xl (by decide) rfl (VU (AJ (by omega) ?_)))))))
  refine KF (f:=tO) (by rw [CT];exact x8) (y:=CA (ob os x).gen) rfl (BA (by omega) ?_)
  simp only [List.map_cons,List.map_nil,Int.toNat_natCast] at hR
  rw [←DO] at hR
  exact hR
 have:j=(C1 W 8).length:=by omega
 subst this
 have e1:(fun i:Nat=>if ((i:Nat):Int)∈(C1 W 8).take (C1 W 8).length then CA (ob os i).gen else ob os i)=fun i=>if ((i:Nat):Int)∈C1 W 8 then CA (ob os i).gen else ob os i:=by rw [List.take_length]
 have e2:mk8 (fun i=>if ((i:Nat):Int)∈C1 W 8 then CA (ob os i).gen else ob os i)=mk8 (RX os W):=KJ fun i hi=>by
  unfold RX
  by_cases hw:W i=true
  ·rw [if_pos hw,if_pos (LG.2 ⟨i,hi,rfl,hw⟩)]
  ·rw [if_neg hw,if_neg fun hm=>hw (by obtain ⟨k,_,h2,h3⟩:=LG.1 hm;have:k=i:=by omega
                                       subst this;exact h3)]
 rw [e1,e2,List.take_length,TQ]
 clear hR e1 e2
 refine BH (fun i=>[iv 8,iv i]) (fun i=>[tI (JP os W 8),tR tO (mk8 fun k=>if k<i then FN os W k else RX os W k),tR tW ws,tI buf,tS ss]) 8 (fun _=>True) rfl rfl trivial (fun R i hi hP hR=> ?_)
 simp only [AI,AO,AM,AS,AH,AE,AG,AK,AN,AP,AR,AT,AQ,AL,BD,BJ,BL,BK,BM,BN,BG,A4,AZ,A6,A8,A5,A7]
 simp only [CT]
 refine AY (AW (fun hlt=> ?_) fun hge=> ?_)
 ·have hlt:i<8:=by omega
  replace hR:=hR hlt trivial
  have hml:i<(mk8 fun k=>if k<i then FN os W k else RX os W k).length:=by rw [CT];exact hlt
  have hoi:(mk8 fun k=>if k<i then FN os W k else RX os W k)[i]=RX os W i:=by rw [DH hml,IP hlt,if_neg (by omega)]
  have hset: ∀v,v=FN os W i→(mk8 fun k=>if k<i then FN os W k else RX os W k).set i v=mk8 fun k=>if k<i+1 then FN os W k else RX os W k:=fun v hv=>by
   rw [PF hlt]
   refine KJ fun k hk=> ?_
   by_cases h1:k=i
   ·subst h1;rw [if_pos rfl,if_pos (by omega),hv]
   ·rw [if_neg h1]
    by_cases h2:k<i
    ·rw [if_pos h2,if_pos (by omega)]
    ·rw [if_neg h2,if_neg (by omega)]
  have hin: ∀v,v=DM os W i→inE ((mk8 fun k=>if k<i then FN os W k else RX os W k).set i v) i=inE (mk8 (DM os W)) i:=fun v hv=>by
   rw [PF hlt]
   refine rL (by rw [CT,CT]) fun k hk=> ?_
   rw [CT] at hk
   rw [IP hk,IP hk]
   by_cases h1:k=i
   ·subst h1;rw [if_pos rfl,hv];exact ⟨rfl,rfl,rfl⟩
   ·rw [if_neg h1]
    by_cases h2:k<i
    ·rw [if_pos h2];exact Q0 os W k
    ·rw [if_neg h2];exact fM os W k
  have hlen3: ∀o∈(mk8 fun k=>if k<i then FN os W k else RX os W k).set i (DM os W i),(o.field.length:Int)≤1048576:=fun o ho=>by
   rw [PF hlt] at ho
   obtain ⟨k,hk,rfl⟩:=dF ho
   have hm:=fT hof hol W hk
   by_cases h1:k=i
   ·subst h1;rw [if_pos rfl];omega
   ·rw [if_neg h1]
    by_cases h2:k<i
    ·rw [if_pos h2,(Q0 os W k).2.2];omega
    ·rw [if_neg h2,(fM os W k).2.2];omega
  generalize (mk8 fun k=>if k<i then FN os W k else RX os W k)=M at hml hoi hset hin hlen3 ⊢
  have hM8:M.length=8:=by have:=congrArg List.length (hset (FN os W i) rfl);rw [List.length_set,CT] at this;exact this
  refine BP (AJ hlt ?_)
  refine OB (f:=tO) (c:=7) (y:={M[i] with purple:=false}) hml (by decide) rfl rfl ?_
  rw [hoi,j0]
  refine s9 (v:= .bool (DM os W i).live) hml rfl ?_
  cases hv:(DM os W i).live with
  | true=>
    refine BV (JA (v:=I (DM os W i).holds) hml (by decide) rfl (JA (v:=I (DM os W i).roots) hml (by decide) rfl (GH ?_)))
    refine QM ⟨by omega,by omega⟩ (by rw [List.length_set,hM8];decide) hlen3 ?_
    rw [hin _ rfl]
    refine GH (H8 hml ?_)
    rw [hset _ (by unfold FN;rw [if_pos hv])]
    exact BA (by omega) hR
  | false=>
    refine BU ?_
    rw [hset _ (by unfold FN;rw [if_neg (by rw [hv];decide)])]
    exact BA (by omega) hR
 ·have:i=8:=by omega
  subst this
  rw [KJ (g:=FN os W) fun k hk=>if_pos hk]
  exact hK
theorem sW {a b c d e f g:List T} {l:List (List T)}:nxc (a::b::c::d::e::f::g::l) 6=g:=rfl
theorem W7 {h:Hp} {K:J2} (st:St h) (hc: ∀o∈h.AD,F64 o.count) (hK:K [] [tR tO (GZ h.AD h.buffer).1,tR tW h.BW,[],tS h.sites,tI (GZ h.AD h.buffer).2]):cl2 ⟨Try.prog,w0⟩ 127 GP.sg [] (trees h) K:=by
 refine GP.cl2 ?_
 unfold GP.txt
 refine LQ st.fits ?_
 obtain ⟨os,ws,buf,ss⟩:=h
 have hol:os.length=8:=st.ol
 have hof: ∀o∈os,OF o:=st.of
 have hb:buf.length≤100:=st.bl
 have hbf: ∀x∈buf,F64 x:=st.bf
 simp only at hc hK
 simp only [trees]
 obtain ⟨ct,hct⟩: ∃ct:Nat→Int,ct=fun i=>(ob os i).count:=⟨_,rfl⟩
 obtain ⟨W,hW⟩: ∃W,W=I7 os ct buf:=⟨_,rfl⟩
 unfold GZ at hK
 rw [←hct, ←hW] at hK
 simp only [AI,AO,AM,AS,AH,AE,AG,AK,AN,AP,AR,AT,AQ,AL,BD,BJ,BL,BK,BM,BN,BG,A4,AZ,A6,A8,A5,A7]
 refine CM (C0 (by omega) (VW hol ?_))
 refine DI (α:=Nat×List Int×List Int) (fun q=>[iv q.1]) (fun q=>[[],tR tO os,tR tW ws,tI buf,tS ss,tI q.2.1,tI q.2.2]) (fun q=>buf.length-q.1) (fun q=>q.1≤buf.length∧MK os ct (buf.take q.1) q.2.1 q.2.2) (0,os.map (·.count),List.replicate 8 0) rfl rfl ⟨Nat.zero_le _,by rw [hct];exact MK.start hol hc⟩ (fun R q hq hR=> ?_)
 obtain ⟨i,cs,col⟩:=q
 obtain ⟨hi,mk⟩:=hq
 simp only at hi mk
 simp only [AI,AO,AM,AS,AH,AE,AG,AK,AN,AP,AR,AT,AQ,AL,BD,BJ,BL,BK,BM,BN,BG,A4,AZ,A6,A8,A5,A7]
 simp only [sW]
 refine AY (AW (fun hlt=> ?_) fun hge=> ?_)
 ·have hlt:i<buf.length:=by omega
  have hx:=hbf _ (DS hlt)
  have nx:=fun cs' col' (m:MK os ct (buf.take i++[gI buf i]) cs' col')=>hR (i+1,cs',col') ⟨by simp only;omega,by simp only;rw [List.take_succ_eq_append_getElem hlt,DL hlt];exact m⟩ (by simp only;omega)
  refine AJ hlt (ldI hlt (CW hx (by omega) (V4 hol hof mk.len.1 mk.len.2 mk.f (fun hn=> ?_) fun s hs s8 cs' col' p=> ?_)))
  ·exact BA (by omega) (nx _ _ (mk.none hn))
  ·exact BA (by omega) (nx _ _ (mk.some hs s8 p))
 have:i=buf.length:=by omega
 subst this
 rw [List.take_length] at mk
 refine DI (α:=Nat×List Int×List Int) (fun q=>[iv q.1]) (fun q=>[[],tR tO os,tR tW ws,tI buf,tS ss,tI q.2.1,tI q.2.2]) (fun q=>buf.length-q.1) (fun q=>q.1≤buf.length∧SC os ct buf (buf.take q.1) q.2.1 q.2.2) (0,cs,col) rfl rfl ⟨Nat.zero_le _,SC.start mk⟩ (fun R q hq hR=> ?_)
 obtain ⟨i,cs,col⟩:=q
 obtain ⟨hi,sc⟩:=hq
 simp only at hi sc
 simp only [AI,AO,AM,AS,AH,AE,AG,AK,AN,AP,AR,AT,AQ,AL,BD,BJ,BL,BK,BM,BN,BG,A4,AZ,A6,A8,A5,A7]
 simp only [sW]
 refine AY (AW (fun hlt=> ?_) fun hge=> ?_)
 ·have hlt:i<buf.length:=by omega
  have hx:=hbf _ (DS hlt)
  have nx:=fun cs' col' (m:SC os ct buf (buf.take i++[gI buf i]) cs' col')=>hR (i+1,cs',col') ⟨by simp only;omega,by simp only;rw [List.take_succ_eq_append_getElem hlt,DL hlt];exact m⟩ (by simp only;omega)
  refine AJ hlt (ldI hlt (CW hx (by omega) (V7 hol hof sc.si (fun hn=> ?_) fun s hs s8 cs' col' p=> ?_)))
  ·exact BA (by omega) (nx _ _ (sc.none hn))
  ·exact BA (by omega) (nx _ _ (sc.some hs s8 p))
 have:i=buf.length:=by omega
 subst this
 rw [List.take_length] at sc
 have wh:=sc.stop
 rw [←hW] at wh
 refine ZG sc.si.len.2 wh ?_
 clear hR sc mk
 have hwn:(C1 W 8).length≤8:=JQ (fun i=>by split <;> simp) 8
 refine BH (fun i=>[iv i]) (fun i=>[tI (JP os W i),tI (C1 W 8),tR tO (mk8 fun k=>if k<i then DM os W k else ob os k),tR tW ws,tI buf,tS ss]) 8 (fun _=>True) rfl ?_ trivial (fun R i hi hP hR=> ?_)
 ·simp only [Nat.not_lt_zero,if_false]
  rw [←YZ hol];rfl
 have hln:(JP os W i).length≤i:=JQ (fun i=>by split <;> simp) i
 simp only [AI,AO,AM,AS,AH,AE,AG,AK,AN,AP,AR,AT,AQ,AL,BD,BJ,BL,BK,BM,BN,BG,A4,AZ,A6,A8,A5,A7]
 simp only [sW,CT]
 refine AY (AW (fun hlt=> ?_) fun hge=> ?_)
 ·have hlt:i<8:=by omega
  replace hR:=hR hlt trivial
  have hml:i<(mk8 fun k=>if k<i then DM os W k else ob os k).length:=by rw [CT];exact hlt
  have hoi:(mk8 fun k=>if k<i then DM os W k else ob os k)[i]=ob os i:=by rw [DH hml,IP hlt,if_neg (by omega)]
  have hset: ∀v,v=DM os W i→(mk8 fun k=>if k<i then DM os W k else ob os k).set i v=mk8 fun k=>if k<i+1 then DM os W k else ob os k:=fun v hv=>by
   rw [PF hlt]
   refine KJ fun k hk=> ?_
   by_cases h1:k=i
   ·subst h1;rw [if_pos rfl,if_pos (by omega),hv]
   ·rw [if_neg h1]
    by_cases h2:k<i
    ·rw [if_pos h2,if_pos (by omega)]
    ·rw [if_neg h2,if_neg (by omega)]
  generalize (mk8 fun k=>if k<i then DM os W k else ob os k)=M at hml hoi hset ⊢
  have hM8:M.length=8:=by have:=congrArg List.length (hset (DM os W i) rfl);rw [List.length_set,CT] at this;exact this
  have io:i<os.length:=by omega
  refine BP (AJ hlt ?_)
  refine OB (f:=tO) (c:=7) (y:={M[i] with purple:=false}) hml (by decide) rfl rfl ?_
  rw [hoi]
  refine MS (by omega) (AW (fun hm=> ?_) fun hm=> ?_)
  ·have hw:W i=true:=by
    obtain ⟨k,_,h2,h3⟩:=LG.1 hm
    have:k=i:=by omega
    subst this;exact h3
   have ef:JP os W (i+1)=JP os W i++[B9 i (ob os i).gen]:=by show JP os W i++(if W i=true then [B9 i (ob os i).gen] else [])=_;rw [if_pos hw]
   rw [ef, ←DO, ←hset (CA (ob os i).gen) (by unfold DM;rw [if_pos hw])] at hR
   refine AJ io (H0 (v:=I (ob os i).gen) io (by decide) rfl (FD (DC rfl (by omega) (AJ io (H0 (v:=I (ob os i).gen) io (by decide) rfl (GX ?_))))))
   simp only [AI,AO,AM,AS,AH,AE,AG,AK,AN,AP,AR,AT,AQ,AL,BD,BJ,BL,BK,BM,BN,BG,A4,AZ,A6,A8,A5,A7]
   simp only [List.length_set,hM8]
   refine AJ hlt (KF (f:=tO) (by rw [List.length_set];exact hml) (y:=CA (ob os i).gen) rfl ?_)
   rw [List.set_set]
   exact BA (by omega) hR
  ·have hw: ¬W i=true:=fun hw=>hm (LG.2 ⟨i,hlt,rfl,hw⟩)
   have ef:JP os W (i+1)=JP os W i:=by show JP os W i++(if W i=true then [B9 i (ob os i).gen] else [])=_;rw [if_neg hw,List.append_nil]
   rw [ef, ←hset {ob os i with purple:=false} (by unfold DM;rw [if_neg hw])] at hR
   exact BA (by omega) hR
 have:i=8:=by omega
 subst this
 rw [KJ (g:=DM os W) fun k hk=>if_pos hk]
 clear hR
 refine BH (fun i=>[iv i]) (fun i=>[tI (JP os W 8),tR tO (mk8 fun k=>if k<i then FN os W k else DM os W k),tR tW ws,tI buf,tS ss]) 8 (fun _=>True) rfl rfl trivial (fun R i hi hP hR=> ?_)
 simp only [AI,AO,AM,AS,AH,AE,AG,AK,AN,AP,AR,AT,AQ,AL,BD,BJ,BL,BK,BM,BN,BG,A4,AZ,A6,A8,A5,A7]
 simp only [CT]
 refine AY (AW (fun hlt=> ?_) fun hge=> ?_)
 ·have hlt:i<8:=by omega
  replace hR:=hR hlt trivial
  have hml:i<(mk8 fun k=>if k<i then FN os W k else DM os W k).length:=by rw [CT];exact hlt
  have hoi:(mk8 fun k=>if k<i then FN os W k else DM os W k)[i]=DM os W i:=by rw [DH hml,IP hlt,if_neg (by omega)]
  have hset: ∀v,v=FN os W i→(mk8 fun k=>if k<i then FN os W k else DM os W k).set i v=mk8 fun k=>if k<i+1 then FN os W k else DM os W k:=fun v hv=>by
   rw [PF hlt]
   refine KJ fun k hk=> ?_
   by_cases h1:k=i
   ·subst h1;rw [if_pos rfl,if_pos (by omega),hv]
   ·rw [if_neg h1]
    by_cases h2:k<i
    ·rw [if_pos h2,if_pos (by omega)]
    ·rw [if_neg h2,if_neg (by omega)]
  have hin:inE (mk8 fun k=>if k<i then FN os W k else DM os W k) i=inE (mk8 (DM os W)) i:=by
   refine rL (by rw [CT,CT]) fun k hk=> ?_
   rw [CT] at hk
   rw [IP hk,IP hk]
   by_cases h2:k<i
   ·rw [if_pos h2];exact Q0 os W k
   ·rw [if_neg h2];exact ⟨rfl,rfl,rfl⟩
  have hlen3: ∀o∈(mk8 fun k=>if k<i then FN os W k else DM os W k),(o.field.length:Int)≤1048576:=fun o ho=>by
   obtain ⟨k,hk,rfl⟩:=dF ho
   have hm:=fT hof hol W hk
   by_cases h2:k<i
   ·rw [if_pos h2,(Q0 os W k).2.2];omega
   ·rw [if_neg h2];omega
  generalize (mk8 fun k=>if k<i then FN os W k else DM os W k)=M at hml hoi hset hin hlen3 ⊢
  have hM8:M.length=8:=by have:=congrArg List.length (hset (FN os W i) rfl);rw [List.length_set,CT] at this;exact this
  have hMs:M=M.set i (DM os W i):=by rw [←hoi,List.set_getElem_self]
  refine BP (AJ hlt ?_)
  cases hv:(DM os W i).live with
  | true=>
    refine T6 (f:=tO) (v:= .bool true) hml (by rw [hoi];simp [tO,hv]) (BV (AJ hlt ?_))
    refine TF (f:=tO) (v:=I (DM os W i).holds) hml (by decide) (by rw [hoi];rfl) (AJ hlt ?_)
    refine TF (f:=tO) (v:=I (DM os W i).roots) hml (by decide) (by rw [hoi];rfl) (GH ?_)
    refine Q1 ⟨by omega,by omega⟩ (by rw [hM8];decide) hlen3 ?_
    rw [hin]
    refine GH (AJ hlt ?_)
    rw [hMs]
    refine H8 hml ?_
    rw [hset _ (by unfold FN;rw [if_pos hv])]
    exact BA (by omega) hR
  | false=>
    refine T6 (f:=tO) (v:= .bool false) hml (by rw [hoi];simp [tO,hv]) (BU ?_)
    rw [hMs,hset _ (by unfold FN;rw [if_neg (by rw [hv];decide)])]
    exact BA (by omega) hR
 ·have:i=8:=by omega
  subst this
  rw [KJ (g:=FN os W) fun k hk=>if_pos hk]
  exact hK
end Go.Proofs.Ytklmcfpgdfibnaa.P
namespace Go.Proofs.Ytklmcfpgdfibnaa.P
open Go Go.Proofs.Ytklmcfpgdfibnaa Go.Proofs.Ytklmcfpgdfibnaa.Eng
set_option linter.unusedVariables false
set_option maxHeartbeats 4000000
set_option linter.unusedVariables false
set_option linter.unusedSimpArgs false
attribute [local irreducible] prP gP gE gF AX ixW ldc ldg ldl stc stg scW mkW apW BE cl2 BS DF CB
variable {w0:World}
noncomputable def CD (h:Hp) (o:Op5):Hp×An:=
 if o.kind=1 then (⟨(DD h.AD h.sites o.site).1,h.BW,h.buffer,(DD h.AD h.sites o.site).2.1⟩,(DD h.AD h.sites o.site).2.2) else
 if o.kind=2∨o.kind=3∨o.kind=5∨o.kind=6 then (⟨(FG h.AD h.buffer o.kind o.a).1,h.BW,(FG h.AD h.buffer o.kind o.a).2.1,h.sites⟩,(FG h.AD h.buffer o.kind o.a).2.2) else
 if o.kind=4 then (⟨(EO h.AD h.buffer o.a o.b o.c).1,h.BW,(EO h.AD h.buffer o.a o.b o.c).2.1,h.sites⟩,(EO h.AD h.buffer o.a o.b o.c).2.2) else
 if o.kind=7 then (⟨h.AD,(HO h.AD h.BW o.a).1,h.buffer,h.sites⟩,(HO h.AD h.BW o.a).2) else
 if o.kind=8∨o.kind=9 then (⟨h.AD,(CX h.AD h.BW o.kind o.a).1,h.buffer,h.sites⟩,(CX h.AD h.BW o.kind o.a).2) else
 if o.kind=10 then (⟨(GZ h.AD h.buffer).1,h.BW,[],h.sites⟩,⟨0,0,(GZ h.AD h.buffer).2⟩) else (h,⟨2,0,[]⟩)
theorem jO {α:Type} [Inhabited α] {l:List α} (h: ∀i (hi:i<l.length),l[i]∉l.take i):l.Nodup:=by
 refine List.pairwise_iff_getElem.2 fun i j hi hj hij he=>h j hj ?_
 rw [←he]
 exact List.mem_take_iff_getElem.2 ⟨i,by omega,rfl⟩
theorem few {n:Nat}: ∀{l:List Int} (g:Int→Nat),l.Nodup→(∀x∈l,g x<n)→(∀x∈l, ∀y∈l,g x=g y→x=y)→l.length≤n:=by
 induction n with
 | zero=>
   intro l g _ h _
   cases l with
   | nil=>simp
   | cons x l=>exact absurd (h x (by simp)) (by omega)
 | succ n ih=>
   intro l g hn h hi
   by_cases hx: ∃x∈l,g x=n
   ·obtain ⟨x,hx,hg⟩:=hx
    have:=ih (l:=l.erase x) g (hn.erase x) (fun y hy=>by
     have hy':=List.mem_of_mem_erase hy
     have:=h y hy'
     have hne:g y≠n:=fun he=>by
      have:y=x:=hi y hy' x hx (by omega)
      subst this
      exact (List.Nodup.not_mem_erase hn) hy
     omega) fun y hy z hz=>hi y (List.mem_of_mem_erase hy) z (List.mem_of_mem_erase hz)
    rw [List.length_erase_of_mem hx] at this
    omega
   ·have:=ih g hn (fun y hy=>by
     have:=h y hy
     have:g y≠n:=fun he=>hx ⟨y,hy,he⟩
     omega) hi
    omega
theorem B1.bnd {h:Hp} (hk:B1 h):h.buffer.Nodup:=jO fun i hi=>by rw [DL hi];exact (hk.buf i hi).2
theorem B1.W4 {h:Hp} (hk:B1 h) {x:Int} (hx:x∈h.buffer):0≤AB h.AD x:=by
 obtain ⟨i,hi,rfl⟩:=List.getElem_of_mem hx
 rw [DL hi];exact (hk.buf i hi).1
theorem XN {l:List AU} {x y:Int} (hx:0≤AB l x) (hy:0≤AB l y) (h:AB l x=AB l y):x=y:=by
 have a:=BT hx;have b:=BT hy
 have e1:=a.2.2.2.2.2;have e2:=b.2.2.2.2.2
 rw [h] at e1
 omega
theorem B1.Aw {h:Hp} (hk:B1 h):h.buffer.length≤8:=
 few (fun x=>(AB h.AD x).toNat) hk.bnd (fun x hx=>(BT (hk.W4 hx)).2.2.2.1) fun x hx y hy he=>XN (hk.W4 hx) (hk.W4 hy) (by have:=hk.W4 hx;have:=hk.W4 hy;omega)
theorem B1.st {h:Hp} (hk:B1 h) (hn:RY h):St h:=by
 refine ⟨hk.ol,hk.wl,hk.sites.len,by have:=hk.Aw;omega,fun o ho=> ?_,fun s hs=> ?_,hn.weak,hn.buf⟩
 ·obtain ⟨i,hi,rfl⟩:=List.getElem_of_mem ho
  have hi8:i<8:=by have:=hk.ol;omega
  have:=hn.obj _ ho
  rw [DH hi] at this ⊢
  exact ⟨this.1,(hk.obj i hi8).len,this.2.2.2.2.2⟩
 ·obtain ⟨i,hi,rfl⟩:=List.getElem_of_mem hs
  have:=(hk.sites.sz i hi).2
  rw [QK hi];omega
theorem B1.hr {h:Hp} (hk:B1 h) (i:Nat):(0≤(ob h.AD i).holds∧(ob h.AD i).holds≤20)∧(0≤(ob h.AD i).roots∧(ob h.AD i).roots≤20):=by
 by_cases hi:i<8
 ·cases hv:(ob h.AD i).live with
  | true=>exact ⟨((hk.obj i hi).lv hv).2.2.1,((hk.obj i hi).lv hv).2.2.2.1⟩
  | false=>have:=(hk.obj i hi).dead hv;omega
 ·have:ob h.AD i=⟨false,0,0,0,0,0,[],false⟩:=by unfold ob;rw [List.getD_eq_getElem?_getD,List.getElem?_eq_none (by have:=hk.ol;omega)];rfl
  rw [this];simp
theorem B1.fd {h:Hp} (hk:B1 h) (i:Nat): ∀f∈(ob h.AD i).field,f= -1∨0≤f:=by
 intro f hf
 by_cases hi:i<8
 ·obtain ⟨j,hj,rfl⟩:=List.getElem_of_mem hf
  have ho:=hk.obj i hi
  by_cases h1:gI (ob h.AD i).field j= -1
  ·left;rw [DL hj];exact h1
  ·right
   have:=BT (ho.lead j (by have:=ho.len;omega) h1).2
   rw [DL hj];omega
 ·have:ob h.AD i=⟨false,0,0,0,0,0,[],false⟩:=by unfold ob;rw [List.getD_eq_getElem?_getD,List.getElem?_eq_none (by have:=hk.ol;omega)];rfl
  rw [this] at hf;simp at hf
theorem kinds (k:Int):k=1∨(k=2∨k=3∨k=5∨k=6)∨k=4∨k=7∨(k=8∨k=9)∨k=10∨ ¬(k=1∨k=2∨k=3∨k=4∨k=5∨k=6∨k=7∨k=8∨k=9∨k=10):=by omega
theorem cL {h:Hp} {o:Op5} {K:J2} (hk:B1 h) (hn:RY h) (ha:F64 o.a) (hc:F64 o.c) (hK:K [I (CD h o).2.code,I (CD h o).2.val] (tI (CD h o).2.freed::trees (CD h o).1)):cl2 ⟨Try.prog,w0⟩ 106 D9.sg [I o.kind,I o.a,I o.b,I o.c, .string o.site] (trees h) K:=by
 have st:=hk.st hn
 have hr:=hk.hr
 refine D9.cl2 ?_
 unfold D9.txt
 obtain ⟨os,ws,buf,ss⟩:=h
 obtain ⟨kd,a,b,c,s⟩:=o
 have hol:os.length=8:=st.ol
 have hof: ∀o∈os,OF o:=st.of
 have hb:buf.length≤100:=st.bl
 simp only at ha hc hr
 simp only [trees]
 unfold CD at hK
 simp only at hK
 rcases kinds kd with rfl | hkd | rfl | rfl | hkd | rfl | hkd
 ·rw [if_pos rfl] at hK
  exact BF (CY rfl (bJ hol st.sl hK))
 ·rw [if_neg (by omega),if_pos hkd] at hK
  have cc:=fun {K:J2}=>WY (w0:=w0) (os:=os) (buf:=buf) (b:=tR tW ws) (d:=tS ss) (kind:=kd) (id:=a) (K:=K) hol hof hb ha hkd hr
  rcases hkd with rfl | rfl | rfl | rfl
  all_goals
   repeat' (first | refine BP ?_ | refine BV ?_ | refine BU ?_ | refine BF ?_ | simp only [AI,AO,AM,AS,AH,AE,AG,AK,AN,AP,AR,AT,AQ,AL,BD,BJ,BL,BK,BM,BN,BG,A4,AZ,A6,A8,A5,A7])
   exact cc hK
 ·simp only [if_neg (show ¬(4:Int)=1 by decide),if_neg (show ¬((4:Int)=2∨(4:Int)=3∨(4:Int)=5∨(4:Int)=6) by decide),if_true] at hK
  repeat' (first | refine BP ?_ | refine BV ?_ | refine BU ?_ | refine BF ?_ | simp only [AI,AO,AM,AS,AH,AE,AG,AK,AN,AP,AR,AT,AQ,AL,BD,BJ,BL,BK,BM,BN,BG,A4,AZ,A6,A8,A5,A7])
  exact bX hol hof hb ha hc hK
 ·simp only [if_neg (show ¬(7:Int)=1 by decide),if_neg (show ¬((7:Int)=2∨(7:Int)=3∨(7:Int)=5∨(7:Int)=6) by decide),if_neg (show ¬(7:Int)=4 by decide),if_true] at hK
  repeat' (first | refine BP ?_ | refine BV ?_ | refine BU ?_ | refine BF ?_ | simp only [AI,AO,AM,AS,AH,AE,AG,AK,AN,AP,AR,AT,AQ,AL,BD,BJ,BL,BK,BM,BN,BG,A4,AZ,A6,A8,A5,A7])
  exact gG hol st.wl ha hK
 ·rw [if_neg (by omega),if_neg (by omega),if_neg (by omega),if_neg (by omega),if_pos hkd] at hK
  rcases hkd with rfl | rfl
  all_goals
   repeat' (first | refine BP ?_ | refine BV ?_ | refine BU ?_ | refine BF ?_ | simp only [AI,AO,AM,AS,AH,AE,AG,AK,AN,AP,AR,AT,AQ,AL,BD,BJ,BL,BK,BM,BN,BG,A4,AZ,A6,A8,A5,A7])
   exact ZS hol st.wl ha st.wf hK
 ·simp only [if_neg (show ¬(10:Int)=1 by decide),if_neg (show ¬((10:Int)=2∨(10:Int)=3∨(10:Int)=5∨(10:Int)=6) by decide),if_neg (show ¬(10:Int)=4 by decide),if_neg (show ¬(10:Int)=7 by decide),if_neg (show ¬((10:Int)=8∨(10:Int)=9) by decide),if_true] at hK
  repeat' (first | refine BP ?_ | refine BV ?_ | refine BU ?_ | refine BF ?_ | simp only [AI,AO,AM,AS,AH,AE,AG,AK,AN,AP,AR,AT,AQ,AL,BD,BJ,BL,BK,BM,BN,BG,A4,AZ,A6,A8,A5,A7])
  exact ZA st (fun o ho=>(hn.obj o ho).2.2.2.2.1) hK
 ·rw [if_neg (by omega),if_neg (by omega),if_neg (by omega),if_neg (by omega),if_neg (by omega),if_neg (by omega)] at hK
  repeat' (first | refine BP ?_ | refine C0 (by first | with_reducible assumption | omega) ?_ | refine BF ?_ | simp only [AI,AO,AM,AS,AH,AE,AG,AK,AN,AP,AR,AT,AQ,AL,BD,BJ,BL,BK,BM,BN,BG,A4,AZ,A6,A8,A5,A7])
  all_goals first | exact CF hK | (exfalso;omega)
end Go.Proofs.Ytklmcfpgdfibnaa.P
namespace Go.Proofs.Ytklmcfpgdfibnaa.P
open Go Go.Proofs.Ytklmcfpgdfibnaa Go.Proofs.Ytklmcfpgdfibnaa.Eng
set_option linter.unusedVariables false
set_option maxHeartbeats 4000000
set_option linter.unusedVariables false
set_option linter.unusedSimpArgs false
attribute [local irreducible] prP gP gE gF AX ixW ldc ldg ldl stc stg scW mkW apW BE cl2 BS DF CB
variable {w0:World}
open Classical in
noncomputable def ML (h:Hp) (o:Op5):Hp×An:=if B1 h then CD h o else (h,⟨2,0,[]⟩)
theorem Q6 {h:Hp} {o:Op5} (hk:B1 h):ML h o=CD h o:=by unfold ML;rw [if_pos hk]
theorem dS {h:Hp} {o:Op5} (hk: ¬B1 h):ML h o=(h,⟨2,0,[]⟩):=by unfold ML;rw [if_neg hk]
theorem cV {h:Hp} {o:Op5} {K:J2} (hf:Fits h) (hn:RY h) (ha:F64 o.a) (hc:F64 o.c) (hK:K [I (ML h o).2.code,I (ML h o).2.val] (trees (ML h o).1++[tI (ML h o).2.freed])):cl2 ⟨Try.prog,w0⟩ 42 IW.sg [I o.kind,I o.a,I o.b,I o.c, .string o.site] (trees h) K:=by
 refine IW.cl2 ?_
 unfold IW.txt
 refine PZ hf (ZH hf hn (fun hk=>B2 (BU ?_)) fun hk=>B2 (BV ?_))
 ·rw [Q6 hk] at hK
  exact cL hk hn ha hc hK
 ·rw [dS hk] at hK
  exact CF hK
theorem UI {h:Hp} {o:Op5} {K:J2} (hf:Fits h) (hn:RY h) (ha:F64 o.a) (hc:F64 o.c) (hK:K [I (ML h o).2.code,I (ML h o).2.val] (trees (ML h o).1++[tI (ML h o).2.freed])):cl2 ⟨Try.prog,w0⟩ 76 G8.sg [I o.kind,I o.a,I o.b,I o.c, .string o.site] (trees h) K:=by
 refine G8.cl2 ?_
 unfold G8.txt
 refine LQ hf (SY hf hn (fun hk=>B2 (BU ?_)) fun hk=>B2 (BV ?_))
 rotate_left
 ·rw [dS hk] at hK
  exact hK
 rw [Q6 hk] at hK
 have st:=hk.st hn
 have hr:=hk.hr
 have hfd:=hk.fd
 have hss:=hk.sites
 have hcn: ∀o∈h.AD,F64 o.count:=fun o ho=>(hn.obj o ho).2.2.2.2.1
 clear hf hk
 obtain ⟨kd,a,b,c,s⟩:=o
 have hol:h.AD.length=8:=st.ol
 simp only at ha hc hr
 unfold CD at hK
 simp only at hK
 have hold:=fun {K:J2} (hkd:kd=2∨kd=3∨kd=5∨kd=6)=>ZR (w0:=w0) (h:=h) (kind:=kd) (id:=a) (b:=b) (c:=c) (s:=s) (K:=K) st ha hkd hr
 have store:=fun {K:J2}=>W8 (w0:=w0) (h:=h) (a0:=kd) (a1:=a) (a2:=b) (a3:=c) (s:=s) (K:=K) st ha hc hfd
 have vP:=fun {K:J2}=>W7 (w0:=w0) (h:=h) (K:=K) st hcn
 have weak:=fun {K:J2}=>ZK (w0:=w0) (os:=h.AD) (ws:=h.BW) (cc:=tI h.buffer) (d:=tS h.sites) (kind:=kd) (k:=a) (b:=b) (c:=c) (s:=s) (K:=K) hol st.wl ha st.wf
 simp only [trees] at hold store vP ⊢
 rcases kinds kd with rfl | hkd | rfl | rfl | hkd | rfl | hkd
 ·rw [if_pos rfl] at hK
  exact BF (CY rfl (YA hol hss hK))
 ·rw [if_neg (by omega),if_pos hkd] at hK
  replace hold:=fun {K:J2}=>hold (K:=K) hkd
  rcases hkd with rfl | rfl | rfl | rfl
  all_goals
   repeat' (first | refine BP ?_ | refine BV ?_ | refine BU ?_ | refine BF ?_ | simp only [AI,AO,AM,AS,AH,AE,AG,AK,AN,AP,AR,AT,AQ,AL,BD,BJ,BL,BK,BM,BN,BG,A4,AZ,A6,A8,A5,A7])
   exact hold hK
 ·simp only [if_neg (show ¬(4:Int)=1 by decide),if_neg (show ¬((4:Int)=2∨(4:Int)=3∨(4:Int)=5∨(4:Int)=6) by decide),if_true] at hK
  repeat' (first | refine BP ?_ | refine BV ?_ | refine BU ?_ | refine BF ?_ | simp only [AI,AO,AM,AS,AH,AE,AG,AK,AN,AP,AR,AT,AQ,AL,BD,BJ,BL,BK,BM,BN,BG,A4,AZ,A6,A8,A5,A7])
  exact store hK
 ·simp only [if_neg (show ¬(7:Int)=1 by decide),if_neg (show ¬((7:Int)=2∨(7:Int)=3∨(7:Int)=5∨(7:Int)=6) by decide),if_neg (show ¬(7:Int)=4 by decide),if_true] at hK
  repeat' (first | refine BP ?_ | refine BV ?_ | refine BU ?_ | refine BF ?_ | simp only [AI,AO,AM,AS,AH,AE,AG,AK,AN,AP,AR,AT,AQ,AL,BD,BJ,BL,BK,BM,BN,BG,A4,AZ,A6,A8,A5,A7])
  exact weak (fun _=>hK) (fun hh=>absurd rfl hh)
 ·rw [if_neg (by omega),if_neg (by omega),if_neg (by omega),if_neg (by omega),if_pos hkd] at hK
  rcases hkd with rfl | rfl
  all_goals
   repeat' (first | refine BP ?_ | refine BV ?_ | refine BU ?_ | refine BF ?_ | simp only [AI,AO,AM,AS,AH,AE,AG,AK,AN,AP,AR,AT,AQ,AL,BD,BJ,BL,BK,BM,BN,BG,A4,AZ,A6,A8,A5,A7])
   exact weak (fun hh=>absurd hh (by decide)) (fun _=>hK)
 ·simp only [if_neg (show ¬(10:Int)=1 by decide),if_neg (show ¬((10:Int)=2∨(10:Int)=3∨(10:Int)=5∨(10:Int)=6) by decide),if_neg (show ¬(10:Int)=4 by decide),if_neg (show ¬(10:Int)=7 by decide),if_neg (show ¬((10:Int)=8∨(10:Int)=9) by decide),if_true] at hK
  repeat' (first | refine BP ?_ | refine BV ?_ | refine BU ?_ | refine BF ?_ | simp only [AI,AO,AM,AS,AH,AE,AG,AK,AN,AP,AR,AT,AQ,AL,BD,BJ,BL,BK,BM,BN,BG,A4,AZ,A6,A8,A5,A7])
  exact vP hK
 ·rw [if_neg (by omega),if_neg (by omega),if_neg (by omega),if_neg (by omega),if_neg (by omega),if_neg (by omega)] at hK
  repeat' (first | refine BP ?_ | refine C0 (by first | with_reducible assumption | omega) ?_ | refine BF ?_ | simp only [AI,AO,AM,AS,AH,AE,AG,AK,AN,AP,AR,AT,AQ,AL,BD,BJ,BL,BK,BM,BN,BG,A4,AZ,A6,A8,A5,A7])
  all_goals first | exact hK | (exfalso;omega)
end Go.Proofs.Ytklmcfpgdfibnaa.P
namespace Go.Proofs.Ytklmcfpgdfibnaa.P
open Go Go.Proofs.Ytklmcfpgdfibnaa Go.Proofs.Ytklmcfpgdfibnaa.Eng
set_option linter.unusedVariables false
def okE (n:Int) (l:List ByteArray) (a b c d:Int) (s:ByteArray) (k v:Int) (xs:List Int):Bool:=(zT a b c d s&&Ac k v xs)&&Bn n l
def Fx (q:ByteArray×Int) (x:Int):ByteArray×Int:=(q.1++SI (x-q.2),x)
def base (n:Int) (l:List ByteArray) (a b c d:Int) (s:ByteArray) (k v:Int) (m:Nat):ByteArray:=((((((SI a++SI (b-n))++SI c)++SI (d-b))++rN l s)++V k)++SI (v-b))++V m
def stE (p:ByteArray×Int) (xs:List Int) (i:Nat):ByteArray×Int:=(xs.take i).foldl Fx p
theorem rT {p:ByteArray×Int} {xs:List Int} {i:Nat} (hi:i<xs.length):stE p xs (i+1)=Fx (stE p xs i) xs[i]:=by
 rw [stE,List.take_succ_eq_append_getElem hi,List.foldl_append];rfl
theorem pE {p:ByteArray×Int} {xs:List Int} (hp:P6 p.2=true) (hx:xs.all P6=true): ∀i,i≤xs.length→P6 (stE p xs i).2=true∧(stE p xs i).1.size≤p.1.size+7*i
 | 0,_=>⟨hp,Nat.le_refl _⟩
 | i+1,hi=>by
   obtain ⟨h1,h2⟩:=pE hp hx i (by omega)
   rw [rT (by omega)]
   refine ⟨List.all_eq_true.1 hx _ (List.getElem_mem _), ?_⟩
   have:=TB (zg (xs[i]-(stE p xs i).2))
   simp only [Fx,ByteArray.size_append,SI];omega
theorem iZ (l:List ByteArray) (s:ByteArray):(rN l s).size≤22:=by
 unfold rN;split
 ·have:=TB (at_ l s+1);omega
 ·have h1:=TB 0
  have h2:=wE s
  rw [ByteArray.size_append];omega
theorem T3 (n:Int):(SI n).size≤7:=TB _
def lN (n:Int) (l:List ByteArray) (a b c d:Int) (s:ByteArray) (k v:Int) (xs:List Int):ByteArray×Int×List ByteArray:=
 if okE n l a b c d s k v xs then ((stE (base n l a b c d s k v xs.length,b) xs xs.length).1,b,Ca l s) else (⟨#[]⟩,n,l)
theorem gR {n:Int} {l:List ByteArray} {a b c d:Int} {s:ByteArray} {k v:Int} {xs:List Int} (h:okE n l a b c d s k v xs=true):P6 a=true∧P6 b=true∧P6 c=true∧P6 d=true∧P6 v=true∧P6 n=true∧xs.all P6=true∧xs.length≤8∧(0≤k∧k≤6)∧l.length≤400:=by
 simp only [okE,zT,Ac,Bn,Bool.and_eq_true,decide_eq_true_eq] at h
 exact ⟨h.1.1.1.1.1.1,h.1.1.1.1.1.2,h.1.1.1.1.2,h.1.1.1.2,h.1.2.1.1.2,h.2.1.1,h.1.2.2,h.1.2.1.2,kG.1 h.1.2.1.1.1,h.2.1.2⟩
theorem nJ (n:Int) (l:List ByteArray) (a b c d:Int) (s:ByteArray) (k v:Int) (m:Nat):(base n l a b c d s k v m).size≤71:=by
 have h1:=T3 a;have h2:=T3 (b-n);have h3:=T3 c;have h4:=T3 (d-b);have h5:=iZ l s;have h6:=TB k;have h7:=T3 (v-b);have h8:=TB m
 simp only [base,ByteArray.size_append];omega
end Go.Proofs.Ytklmcfpgdfibnaa.P
namespace Go.Proofs.Ytklmcfpgdfibnaa.P
open Go Go.Proofs.Ytklmcfpgdfibnaa Go.Proofs.Ytklmcfpgdfibnaa.Eng
set_option linter.unusedVariables false
theorem jZ {f:J2} {g:J2→Prop} (P:List Value→List (List T)→Prop) (h1: ∀xs cs,P xs cs→f xs cs) (h2: ∀j:J2,(∀xs cs,P xs cs→j xs cs)→g j):BS f g:=h2 f h1
end Go.Proofs.Ytklmcfpgdfibnaa.P
