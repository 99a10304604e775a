/- A part of the proof. -/
import Derived.Test.YtklmcfpgdfibnaaReHpQ
import Derived.Test.YtklmcfpgdfibnaaReHpE
namespace Go.Proofs.Ytklmcfpgdfibnaa.P
open Go Go.Proofs.Ytklmcfpgdfibnaa Go.Proofs.Ytklmcfpgdfibnaa.Eng
set_option linter.unusedVariables false
def RB (os:List AG) (ids:List Int) (k:Nat):Prop:= ∃b∈ids, ∃s:Nat,AB os b=(s:Int)∧Reach os s k
theorem RB.next {os:List AG} {ids:List Int} {k:Nat} {j:Int} (h:RB os ids k) (hj:j∈BK os k):RB os ids j.toNat:=by
 obtain ⟨b,hb,s,hs,hr⟩:=h
 exact ⟨b,hb,s,hs, .step hr hj⟩
theorem RB.lt {os:List AG} {ids:List Int} {k:Nat} (h:RB os ids k):k<8:=by
 obtain ⟨b,_,s,hs,hr⟩:=h
 have:=BH (l:=os) (id:=b) (by omega)
 exact hr.lt (by omega)
theorem RB.snoc {os:List AG} {ids:List Int} {b:Int} {k:Nat}:RB os (ids++[b]) k↔RB os ids k∨ ∃s:Nat,AB os b=(s:Int)∧Reach os s k:=by
 constructor
 ·rintro ⟨x,hx,h⟩
  rcases List.mem_append.1 hx with hx | hx
  ·exact .inl ⟨x,hx,h⟩
  ·have hx:x=b:=by simpa using hx
   subst hx;exact .inr h
 ·rintro (⟨x,hx,h⟩ | h)
  ·exact ⟨x,List.mem_append_left _ hx,h⟩
  ·exact ⟨b,by simp,h⟩
structure MK (os:List AG) (ct:Nat→Int) (ids:List Int) (cs col:List Int):Prop where
 len:cs.length=8∧col.length=8
 f: ∀i,i<8→F64 (gI cs i)
 one: ∀k,k<8→gI col k=1→RB os ids k
 zero: ∀k,k<8→gI col k≠1→gI col k=0∧ ¬RB os ids k
 cnt: ∀i,i<8→gI cs i=w64 (ct i-S os (isC col 1) i)
section
variable {os:List AG} {ct:Nat→Int} {ids:List Int} {cs col cs' col':List Int} {b:Int} {s:Nat}
theorem MK.none (h:MK os ct ids cs col) (hb:AB os b<0):MK os ct (ids++[b]) cs col:=by
 refine ⟨h.len,h.f,fun k hk h1=>RB.snoc.2 (.inl (h.one k hk h1)),fun k hk h1=>⟨(h.zero k hk h1).1,fun hr=> ?_⟩,h.cnt⟩
 rcases RB.snoc.1 hr with hr | ⟨s,hs,_⟩
 ·exact (h.zero k hk h1).2 hr
 ·omega
theorem MK.some (h:MK os ct ids cs col) (hb:AB os b=(s:Int)) (hs:s<8) (p:MT os 1 (-1) cs col cs' col' s):MK os ct (ids++[b]) cs' col':=by
 have cl: ∀k,Reach os s k→k<8∧gI col' k=1:=fun k hr=>hr.closed (P:=fun k=>k<8∧gI col' k=1) ⟨hs,p.got⟩ fun x hx j hj=>by
  refine ⟨(B3 hj).2.1, ?_⟩
  by_cases h1:gI col x=1
  ·refine p.JU _ (B3 hj).2.1 (Decidable.byContradiction fun hn=> ?_)
   exact (h.zero _ (B3 hj).2.1 hn).2 ((h.one x hx.1 h1).next hj)
  ·exact (p.clo x hx.1 hx.2 h1).2 j hj
 refine ⟨p.len,p.f,fun k hk h1=>RB.snoc.2 ?_,fun k hk h1=> ?_,fun i hi=> ?_⟩
 ·by_cases h0:gI col k=1
  ·exact .inl (h.one k hk h0)
  ·exact .inr ⟨s,hb,(p.clo k hk h1 h0).1⟩
 ·have e:=p.only k hk h1
  have h2:gI col k≠1:=by rw [←e];exact h1
  obtain ⟨z1,z2⟩:=h.zero k hk h2
  refine ⟨by rw [e];exact z1,fun hr=> ?_⟩
  rcases RB.snoc.1 hr with hr | ⟨s',hs',hr⟩
  ·exact z2 hr
  ·have:s'=s:=by omega
   subst this
   exact h1 (cl k hr).2
 ·rw [p.cnt i hi,h.cnt i hi,MG]
  congr 1
  omega
end
open Classical in
noncomputable def N5 (os:List AG) (buf:List Int) (k:Nat):Bool:=decide (RB os buf k)
def Out (os:List AG) (ct:Nat→Int) (buf:List Int) (x:Nat):Prop:=x<8∧RB os buf x∧EX os ct (N5 os buf) x
open Classical in
noncomputable def LL (os:List AG) (ct:Nat→Int) (buf:List Int) (k:Nat):Bool:=decide (RB os buf k∧ ¬ ∃x,Out os ct buf x∧Reach os x k)
theorem VL {os:List AG} {buf:List Int} {k:Nat}:N5 os buf k=true↔RB os buf k:=by unfold N5;simp
theorem TQ {os:List AG} {buf:List Int} {k:Nat}:N5 os buf k=false↔ ¬RB os buf k:=by unfold N5;simp
theorem I1 {os:List AG} {ct:Nat→Int} {buf:List Int} {k:Nat}:LL os ct buf k=true↔RB os buf k∧ ¬ ∃x,Out os ct buf x∧Reach os x k:=by unfold LL;simp
structure SC (os:List AG) (ct:Nat→Int) (buf:List Int) (ids:List Int) (cs col:List Int):Prop where
 si:SN os ct (N5 os buf) cs col
 got: ∀b∈ids, ∀s:Nat,AB os b=(s:Int)→gI col s≠1
 wk: ∀k,k<8→gI col k=2→ ∀j∈BK os k,gI col j.toNat≠1
section
variable {os:List AG} {ct:Nat→Int} {buf ids:List Int} {cs col cs' col':List Int} {b:Int} {s:Nat}
theorem SC.start (h:MK os ct buf cs col):SC os ct buf [] cs col:=by
 refine ⟨⟨h.len,h.f,fun k hk=> ?_,fun k hk hc=> ?_,fun i hi=> ?_,fun k hk hc h0=> ?_,fun k hk h2=> ?_⟩,fun b hb=>by simp at hb,fun k hk h2=> ?_⟩
 ·by_cases h1:gI col k=1
  ·exact .inr (.inl h1)
  ·exact .inl (h.zero k hk h1).1
 ·exact (h.zero k hk fun h1=>TQ.1 hc (h.one k hk h1)).1
 ·rw [h.cnt i hi]
  congr 2
  refine iH fun k hk=> ?_
  by_cases h1:gI col k=1
  ·simp [isC,h1]
  ·simp [isC,(h.zero k hk h1).1]
 ·exact absurd (VL.1 hc) (h.zero k hk (by omega)).2
 ·have:=(h.zero k hk (by omega)).1;omega
 ·have:=(h.zero k hk (by omega)).1;omega
theorem SC.none (h:SC os ct buf ids cs col) (hb:AB os b<0):SC os ct buf (ids++[b]) cs col:=
 ⟨h.si,fun x hx s hs=>by
   rcases List.mem_append.1 hx with hx | hx
   ·exact h.got x hx s hs
   ·have hx:x=b:=by simpa using hx
    subst hx;omega,h.wk⟩
theorem SC.some (h:SC os ct buf ids cs col) (hb:AB os b=(s:Int)) (hs:s<8) (p:TX os ct (N5 os buf) col cs' col' s):SC os ct buf (ids++[b]) cs' col':=by
 refine ⟨p.si,fun x hx t ht=> ?_,fun k hk h2=> ?_⟩
 ·rcases List.mem_append.1 hx with hx | hx
  ·have:=BH (l:=os) (id:=x) (by omega)
   exact p.ng t (by omega) (h.got x hx t ht)
  ·have hx:x=b:=by simpa using hx
   subst hx
   have:t=s:=by omega
   subst this;exact p.got
 ·rcases p.wk k hk h2 with h3 | h3
  ·exact fun j hj=>p.ng _ (B3 hj).2.1 (h.wk k hk h3 j hj)
  ·exact h3
theorem SC.stop (h:SC os ct buf buf cs col): ∀k,k<8→(gI col k=2↔LL os ct buf k=true):=by
 have ng: ∀k,RB os buf k→gI col k≠1:=fun k hr=>by
  obtain ⟨b,hb,s,hs,hr⟩:=hr
  have hb8:=BH (l:=os) (id:=b) (by omega)
  have:=hr.closed (P:=fun k=>(k<8∧RB os buf k)∧gI col k≠1) ⟨⟨by omega,b,hb,s,hs, .refl⟩,h.got b hb s hs⟩ fun x hx j hj=>by
   refine ⟨⟨(B3 hj).2.1,hx.1.2.next hj⟩, ?_⟩
   rcases h.si.rng x hx.1.1 with h0 | h1 | h2
   ·have:=(h.si.blk x hx.1.1 (VL.2 hx.1.2) h0).2 j hj;omega
   ·exact absurd h1 hx.2
   ·exact h.wk x hx.1.1 h2 j hj
  exact this.2
 intro k hk
 rw [I1]
 constructor
 ·intro h2
  have hr:RB os buf k:=Classical.byContradiction fun hn=>by
   have:=h.si.out k hk (TQ.2 hn);omega
  refine ⟨hr, ?_⟩
  rintro ⟨x,⟨hx8,hx,he⟩,hxk⟩
  have:=hxk.closed (P:=fun k=>(k<8∧RB os buf k)∧gI col k=0) ⟨⟨hx8,hx⟩,by
   rcases h.si.rng x hx8 with h0 | h1 | h2
   ·exact h0
   ·exact absurd h1 (ng x hx)
   ·exact absurd he (h.si.wht x hx8 h2)⟩ fun y hy j hj=>⟨⟨(B3 hj).2.1,hy.1.2.next hj⟩,(h.si.blk y hy.1.1 (VL.2 hy.1.2) hy.2).2 j hj⟩
  omega
 ·rintro ⟨hr,hn⟩
  rcases h.si.rng k hk with h0 | h1 | h2
  ·obtain ⟨x,x8,xc,xe,xr⟩:=(h.si.blk k hk (VL.2 hr) h0).1
   exact absurd ⟨x,⟨x8,VL.1 xc,xe⟩,xr⟩ hn
  ·exact absurd h1 (ng k hr)
  ·exact h2
end
def mk8 (f:Nat→AG):List AG:=(List.range 8).map f
theorem DD (f:Nat→AG):(mk8 f).length=8:=by simp [mk8]
theorem IM {f:Nat→AG} {i:Nat} (h:i<8):ob (mk8 f) i=f i:=by
 rw [←DA (by rw [DD];exact h)];simp [mk8]
theorem NQ {f g:Nat→AG} (h: ∀i,i<8→f i=g i):mk8 f=mk8 g:=List.map_congr_left fun i hi=>h i (List.mem_range.1 hi)
theorem cI {os:List AG} (h:os.length=8):os=mk8 (ob os):=by
 apply List.ext_getElem (by rw [DD,h])
 intro i h1 h2
 rw [DA h1,DA h2,IM (by omega)]
theorem ZW {f:Nat→AG} {k:Nat} {v:AG} (hk:k<8):(mk8 f).set k v=mk8 fun i=>if i=k then v else f i:=by
 apply List.ext_getElem (by simp [DD])
 intro i h1 h2
 have hi:i<8:=by rw [DD] at h2;exact h2
 rw [DA h1,DA h2,EE (by rw [DD];exact hk),IM hi,IM hi]
theorem j0 {f:Nat→AG} {o:AG} (h:o∈mk8 f): ∃i,i<8∧o=f i:=by
 obtain ⟨i,hi,rfl⟩:=List.mem_map.1 h
 exact ⟨i,List.mem_range.1 hi,rfl⟩
theorem O0 {a b:List AG} {id:Int} (hl:a.length=b.length) (h: ∀i,i<a.length→(ob a i).live=(ob b i).live∧(ob a i).field=(ob b i).field):CH a id=CH b id:=by
 unfold CH
 congr 1
 apply List.ext_getElem (by simp [hl])
 intro i h1 h2
 simp only [List.length_map] at h1 h2
 rw [List.getElem_map,List.getElem_map,DA h1,DA h2]
 unfold K4
 rw [(h i h1).1,(h i h1).2]
theorem vI {a b:List AG} {s:Int} (hl:a.length=b.length) (h: ∀i,i<a.length→(ob a i).live=(ob b i).live∧(ob a i).gen=(ob b i).gen∧(ob a i).field=(ob b i).field):inE a s=inE b s:=by
 unfold inE
 by_cases hs:0≤s∧s≤(a.length:Int)-1
 ·have hi:=h s.toNat (by omega)
  rw [hi.1,hi.2.1,O0 hl fun i hi=>⟨(h i hi).1,(h i hi).2.2⟩,hl]
 ·rw [if_neg (fun hh=>hs hh.1),if_neg (fun hh=>hs (by rw [hl];exact hh.1))]
def D9 (os:List AG) (W:Nat→Bool) (i:Nat):AG:=if W i=true then CA (ob os i).gen else {ob os i with purple:=false}
def GV (os:List AG) (W:Nat→Bool) (i:Nat):AG:=if (D9 os W i).live=true then {D9 os W i with count:=w64 (w64 ((D9 os W i).holds+(D9 os W i).roots)+inE (mk8 (D9 os W)) i)} else D9 os W i
def JL (W:Nat→Bool):Nat→List Int:=pick fun i=>if W i=true then [(i:Int)] else []
def MX (os:List AG) (W:Nat→Bool):Nat→List Int:=pick fun i=>if W i=true then [B7 i (ob os i).gen] else []
theorem fW {α:Type} {f g:Nat→List α} {n:Nat} (h: ∀i,i<n→f i=g i):pick f n=pick g n:=by
 induction n with
 | zero=>rfl
 | succ n ih=>simp only [pick];rw [ih fun i hi=>h i (by omega),h n (by omega)]
theorem WS {W:Nat→Bool} {n:Nat} {x:Int}:x∈JL W n↔ ∃i:Nat,i<n∧x=i∧W i=true:=by
 unfold JL
 induction n with
 | zero=>simp [pick]
 | succ n ih=>
   simp only [pick,List.mem_append,ih]
   constructor
   ·rintro (⟨i,h1,h2,h3⟩ | h)
    ·exact ⟨i,by omega,h2,h3⟩
    ·split at h
     ·rename_i hw;exact ⟨n,by omega,by simpa using h,hw⟩
     ·simp at h
   ·rintro ⟨i,h1,h2,h3⟩
    by_cases hi:i=n
    ·subst hi;right;rw [if_pos h3];simp [h2]
    ·exact .inl ⟨i,by omega,h2,h3⟩
noncomputable def IE (os:List AG) (buf:List Int):List AG×List Int:=
 (mk8 (GV os (LL os (fun i=>(ob os i).count) buf)),MX os (LL os (fun i=>(ob os i).count) buf) 8)
end Go.Proofs.Ytklmcfpgdfibnaa.P
namespace Go.Proofs.Ytklmcfpgdfibnaa.P
open Go Go.Proofs.Ytklmcfpgdfibnaa Go.Proofs.Ytklmcfpgdfibnaa.Eng
set_option linter.unusedVariables false
set_option maxHeartbeats 4000000
set_option linter.unusedVariables false
set_option linter.unusedSimpArgs false
attribute [local irreducible] prP gP gE gF AY ixW ldc ldg ldl stc stg scW mkW apW BD cl2 BQ CZ B9
variable {w0:World}
theorem lY {os:List AG} {i:Nat} (hi:i<os.length):(os.take (i+1)).map (·.count)=(os.take i).map (·.count)++[(ob os i).count]:=by
 rw [List.take_succ_eq_append_getElem hi,List.map_append,DA hi];rfl
theorem UH {os:List AG} {b c d:List T} {K:J2} (hol:os.length=8) (h:K [] [tI (os.map (·.count)),tI (List.replicate 8 0)]):cl2 ⟨Try.prog,w0⟩ 155 EI.sg [] [tR tO os,b,c,d] K:=by
 refine EI.cl2 ?_
 unfold EI.txt
 simp only [AJ,AN,AQ,AR,AK,AE,AL,AI,AS,AP,AU,AT,AM,AO,BJ,BP,BM,BN,BO,BS,BL,A4,A5,A9,A8,BA,A7]
 refine BF (fun i=>[iv i]) (fun i=>[tI ((os.take i).map (·.count)),tI (List.replicate i 0)]) os.length (fun _=>True) rfl rfl trivial (fun R i hi hP hR=> ?_)
 have hln:((os.take i).map (·.count)).length=i:=by simp;omega
 have hl2:(List.replicate i (0:Int)).length=i:=List.length_replicate
 simp only [AJ,AN,AQ,AR,AK,AE,AL,AI,AS,AP,AU,AT,AM,AO,BJ,BP,BM,BN,BO,BS,BL,A4,A5,A9,A8,BA,A7]
 refine A6 (BC (LZ (fun hlt=> ?_) fun hge=> ?_))
 ·have hlt':i<os.length:=by omega
  replace hR:=hR hlt' trivial
  rw [lY hlt', ←CU,List.replicate_succ', ←CU] at hR
  refine A6 (DX hlt rfl (FR (by omega) ?_))
  exact AH hlt' (JR (v:=I (ob os i).count) hlt' (by decide) rfl (DH rfl (by omega) (DH rfl (by omega) (BB (by omega) hR))))
 ·have:i=os.length:=by omega
  subst this
  refine EH hge rfl (B6 ?_)
  rw [List.take_length,hol];exact h
theorem XQ {cs col:List Int} {W:Nat→Bool} {K:J2} (hl:col.length=8) (hw: ∀k,k<8→(gI col k=2↔W k=true)) (h:K [] [tI (JL W 8)]):cl2 ⟨Try.prog,w0⟩ 158 F9.sg [] [tI cs,tI col] K:=by
 refine F9.cl2 ?_
 unfold F9.txt
 simp only [AJ,AN,AQ,AR,AK,AE,AL,AI,AS,AP,AU,AT,AM,AO,BJ,BP,BM,BN,BO,BS,BL,A4,A5,A9,A8,BA,A7]
 refine BF (fun i=>[iv i]) (fun i=>[tI (JL W i)]) col.length (fun _=>True) rfl rfl trivial (fun R i hi hP hR=> ?_)
 have hln:(JL W i).length≤i:=FU (fun i=>by split <;> simp) i
 simp only [AJ,AN,AQ,AR,AK,AE,AL,AI,AS,AP,AU,AT,AM,AO,BJ,BP,BM,BN,BO,BS,BL,A4,A5,A9,A8,BA,A7]
 refine A6 (AW (fun hlt=> ?_) fun hge=> ?_)
 ·have hlt:i<col.length:=by omega
  replace hR:=hR hlt trivial
  have hwi:=hw i (by omega)
  refine BT (AH hlt (ldI hlt (B1 (AW (fun h2=> ?_) fun h2=> ?_))))
  ·have e:JL W (i+1)=JL W i++[(i:Int)]:=by show JL W i++(if W i=true then [(i:Int)] else [])=_;rw [if_pos (hwi.1 h2)]
   rw [e, ←CU] at hR
   exact DH rfl (by omega) (BB (by omega) hR)
  ·have e:JL W (i+1)=JL W i:=by show JL W i++(if W i=true then [(i:Int)] else [])=_;rw [if_neg (fun hh=>h2 (hwi.2 hh)),List.append_nil]
   rw [e] at hR
   exact BB (by omega) hR
 ·have:i=col.length:=by omega
  subst this
  rw [hl];exact h
theorem MK.start {os:List AG} (hol:os.length=8) (hc: ∀o∈os,F64 o.count):MK os (fun i=>(ob os i).count) [] (os.map (·.count)) (List.replicate 8 0):=by
 have hz: ∀k,k<8→gI (List.replicate 8 (0:Int)) k=0:=fun k hk=>by unfold gI;rw [List.getD_eq_getElem?_getD,List.getElem?_replicate,if_pos hk];rfl
 have hcs: ∀i,i<8→gI (os.map (·.count)) i=(ob os i).count:=fun i hi=>by
  rw [←DB (by simp;omega),List.getElem_map,DA (by omega)]
 have hF: ∀i,i<8→F64 (ob os i).count:=fun i hi=>hc _ (I4 (by omega))
 refine ⟨⟨by simp [hol],by simp⟩,fun i hi=>by rw [hcs i hi];exact hF i hi,fun k hk h1=> ?_,fun k hk h1=>⟨hz k hk, ?_⟩,fun i hi=> ?_⟩
 ·rw [hz k hk] at h1;omega
 ·rintro ⟨b,hb,_⟩;simp at hb
 ·have:S os (isC (List.replicate 8 0) 1) i=0:=IL fun k hk=>by unfold isC;rw [hz k hk];rfl
  rw [hcs i hi,this,Int.sub_zero,JM (hF i hi)]
theorem WU (os:List AG) (W:Nat→Bool) (i:Nat):(GV os W i).live=(D9 os W i).live∧(GV os W i).gen=(D9 os W i).gen∧(GV os W i).field=(D9 os W i).field:=by
 unfold GV;split <;> exact ⟨rfl,rfl,rfl⟩
theorem mU {os:List AG} (hof: ∀o∈os,OF o) (hol:os.length=8) (W:Nat→Bool) {i:Nat} (hi:i<8):(D9 os W i).field.length=3:=by
 unfold D9
 split
 ·rfl
 ·exact (hof _ (I4 (by omega))).len
theorem mZ {a b c d e f g:List T} {l:List (List T)}:nxc (a::b::c::d::e::f::g::l) 6=g:=rfl
theorem VJ {h:Hp} {K:J2} (st:St h) (hc: ∀o∈h.AD,F64 o.count) (hK:K [] [tR tO (IE h.AD h.buffer).1,tR tW h.B2,[],tS h.sites,tI (IE h.AD h.buffer).2]):cl2 ⟨Try.prog,w0⟩ 127 FC.sg [] (trees h) K:=by
 refine FC.cl2 ?_
 unfold FC.txt
 refine J4 st.fits ?_
 obtain ⟨os,ws,buf,ss⟩:=h
 have hol:os.length=8:=st.ol
 have hof: ∀o∈os,OF o:=st.of
 have hb:buf.length≤100:=st.bl
 have hbf: ∀x∈buf,F64 x:=st.bf
 simp only at hc hK
 simp only [trees]
 obtain ⟨ct,hct⟩: ∃ct:Nat→Int,ct=fun i=>(ob os i).count:=⟨_,rfl⟩
 obtain ⟨W,hW⟩: ∃W,W=LL os ct buf:=⟨_,rfl⟩
 unfold IE at hK
 rw [←hct, ←hW] at hK
 simp only [AJ,AN,AQ,AR,AK,AE,AL,AI,AS,AP,AU,AT,AM,AO,BJ,BP,BM,BN,BO,BS,BL,A4,A5,A9,A8,BA,A7]
 refine C0 (G6 (by omega) (UH hol ?_))
 refine D6 (α:=Nat×List Int×List Int) (fun q=>[iv q.1]) (fun q=>[[],tR tO os,tR tW ws,tI buf,tS ss,tI q.2.1,tI q.2.2]) (fun q=>buf.length-q.1) (fun q=>q.1≤buf.length∧MK os ct (buf.take q.1) q.2.1 q.2.2) (0,os.map (·.count),List.replicate 8 0) rfl rfl ⟨Nat.zero_le _,by rw [hct];exact MK.start hol hc⟩ (fun R q hq hR=> ?_)
 obtain ⟨i,cs,col⟩:=q
 obtain ⟨hi,mk⟩:=hq
 simp only at hi mk
 simp only [AJ,AN,AQ,AR,AK,AE,AL,AI,AS,AP,AU,AT,AM,AO,BJ,BP,BM,BN,BO,BS,BL,A4,A5,A9,A8,BA,A7]
 simp only [mZ]
 refine A6 (AW (fun hlt=> ?_) fun hge=> ?_)
 ·have hlt:i<buf.length:=by omega
  have hx:=hbf _ (DJ hlt)
  have nx:=fun cs' col' (m:MK os ct (buf.take i++[gI buf i]) cs' col')=>hR (i+1,cs',col') ⟨by simp only;omega,by simp only;rw [List.take_succ_eq_append_getElem hlt,DB hlt];exact m⟩ (by simp only;omega)
  refine AH hlt (ldI hlt (BY hx (by omega) (UK hol hof mk.len.1 mk.len.2 mk.f (fun hn=> ?_) fun s hs s8 cs' col' p=> ?_)))
  ·exact BB (by omega) (nx _ _ (mk.none hn))
  ·exact BB (by omega) (nx _ _ (mk.some hs s8 p))
 have:i=buf.length:=by omega
 subst this
 rw [List.take_length] at mk
 refine D6 (α:=Nat×List Int×List Int) (fun q=>[iv q.1]) (fun q=>[[],tR tO os,tR tW ws,tI buf,tS ss,tI q.2.1,tI q.2.2]) (fun q=>buf.length-q.1) (fun q=>q.1≤buf.length∧SC os ct buf (buf.take q.1) q.2.1 q.2.2) (0,cs,col) rfl rfl ⟨Nat.zero_le _,SC.start mk⟩ (fun R q hq hR=> ?_)
 obtain ⟨i,cs,col⟩:=q
 obtain ⟨hi,sc⟩:=hq
 simp only at hi sc
 simp only [AJ,AN,AQ,AR,AK,AE,AL,AI,AS,AP,AU,AT,AM,AO,BJ,BP,BM,BN,BO,BS,BL,A4,A5,A9,A8,BA,A7]
 simp only [mZ]
 refine A6 (AW (fun hlt=> ?_) fun hge=> ?_)
 ·have hlt:i<buf.length:=by omega
  have hx:=hbf _ (DJ hlt)
  have nx:=fun cs' col' (m:SC os ct buf (buf.take i++[gI buf i]) cs' col')=>hR (i+1,cs',col') ⟨by simp only;omega,by simp only;rw [List.take_succ_eq_append_getElem hlt,DB hlt];exact m⟩ (by simp only;omega)
  refine AH hlt (ldI hlt (BY hx (by omega) (UI hol hof sc.si (fun hn=> ?_) fun s hs s8 cs' col' p=> ?_)))
  ·exact BB (by omega) (nx _ _ (sc.none hn))
  ·exact BB (by omega) (nx _ _ (sc.some hs s8 p))
 have:i=buf.length:=by omega
 subst this
 rw [List.take_length] at sc
 have wh:=sc.stop
 rw [←hW] at wh
 refine XQ sc.si.len.2 wh ?_
 clear hR sc mk
 have hwn:(JL W 8).length≤8:=FU (fun i=>by split <;> simp) 8
 refine BF (fun i=>[iv i]) (fun i=>[tI (MX os W i),tI (JL W 8),tR tO (mk8 fun k=>if k<i then D9 os W k else ob os k),tR tW ws,tI buf,tS ss]) 8 (fun _=>True) rfl ?_ trivial (fun R i hi hP hR=> ?_)
 ·simp only [Nat.not_lt_zero,if_false]
  rw [←cI hol];rfl
 have hln:(MX os W i).length≤i:=FU (fun i=>by split <;> simp) i
 simp only [AJ,AN,AQ,AR,AK,AE,AL,AI,AS,AP,AU,AT,AM,AO,BJ,BP,BM,BN,BO,BS,BL,A4,A5,A9,A8,BA,A7]
 simp only [mZ,DD]
 refine A6 (AW (fun hlt=> ?_) fun hge=> ?_)
 ·have hlt:i<8:=by omega
  replace hR:=hR hlt trivial
  have hml:i<(mk8 fun k=>if k<i then D9 os W k else ob os k).length:=by rw [DD];exact hlt
  have hoi:(mk8 fun k=>if k<i then D9 os W k else ob os k)[i]=ob os i:=by rw [DA hml,IM hlt,if_neg (by omega)]
  have hset: ∀v,v=D9 os W i→(mk8 fun k=>if k<i then D9 os W k else ob os k).set i v=mk8 fun k=>if k<i+1 then D9 os W k else ob os k:=fun v hv=>by
   rw [ZW hlt]
   refine NQ fun k hk=> ?_
   by_cases h1:k=i
   ·subst h1;rw [if_pos rfl,if_pos (by omega),hv]
   ·rw [if_neg h1]
    by_cases h2:k<i
    ·rw [if_pos h2,if_pos (by omega)]
    ·rw [if_neg h2,if_neg (by omega)]
  generalize (mk8 fun k=>if k<i then D9 os W k else ob os k)=M at hml hoi hset ⊢
  have hM8:M.length=8:=by have:=congrArg List.length (hset (D9 os W i) rfl);rw [List.length_set,DD] at this;exact this
  have io:i<os.length:=by omega
  refine BT (AH hlt ?_)
  refine PO (f:=tO) (c:=7) (y:={M[i] with purple:=false}) hml (by decide) rfl rfl ?_
  rw [hoi]
  refine HB (by omega) (AW (fun hm=> ?_) fun hm=> ?_)
  ·have hw:W i=true:=by
    obtain ⟨k,_,h2,h3⟩:=WS.1 hm
    have:k=i:=by omega
    subst this;exact h3
   have ef:MX os W (i+1)=MX os W i++[B7 i (ob os i).gen]:=by show MX os W i++(if W i=true then [B7 i (ob os i).gen] else [])=_;rw [if_pos hw]
   rw [ef, ←CU, ←hset (CA (ob os i).gen) (by unfold D9;rw [if_pos hw])] at hR
   refine AH io (JR (v:=I (ob os i).gen) io (by decide) rfl (GZ (DH rfl (by omega) (AH io (JR (v:=I (ob os i).gen) io (by decide) rfl (IH ?_))))))
   simp only [AJ,AN,AQ,AR,AK,AE,AL,AI,AS,AP,AU,AT,AM,AO,BJ,BP,BM,BN,BO,BS,BL,A4,A5,A9,A8,BA,A7]
   simp only [List.length_set,hM8]
   refine AH hlt (RK (f:=tO) (by rw [List.length_set];exact hml) (y:=CA (ob os i).gen) rfl ?_)
   rw [List.set_set]
   exact BB (by omega) hR
  ·have hw: ¬W i=true:=fun hw=>hm (WS.2 ⟨i,hlt,rfl,hw⟩)
   have ef:MX os W (i+1)=MX os W i:=by show MX os W i++(if W i=true then [B7 i (ob os i).gen] else [])=_;rw [if_neg hw,List.append_nil]
   rw [ef, ←hset {ob os i with purple:=false} (by unfold D9;rw [if_neg hw])] at hR
   exact BB (by omega) hR
 have:i=8:=by omega
 subst this
 rw [NQ (g:=D9 os W) fun k hk=>if_pos hk]
 clear hR
 refine BF (fun i=>[iv i]) (fun i=>[tI (MX os W 8),tR tO (mk8 fun k=>if k<i then GV os W k else D9 os W k),tR tW ws,tI buf,tS ss]) 8 (fun _=>True) rfl rfl trivial (fun R i hi hP hR=> ?_)
 simp only [AJ,AN,AQ,AR,AK,AE,AL,AI,AS,AP,AU,AT,AM,AO,BJ,BP,BM,BN,BO,BS,BL,A4,A5,A9,A8,BA,A7]
 simp only [DD]
 refine A6 (AW (fun hlt=> ?_) fun hge=> ?_)
 ·have hlt:i<8:=by omega
  replace hR:=hR hlt trivial
  have hml:i<(mk8 fun k=>if k<i then GV os W k else D9 os W k).length:=by rw [DD];exact hlt
  have hoi:(mk8 fun k=>if k<i then GV os W k else D9 os W k)[i]=D9 os W i:=by rw [DA hml,IM hlt,if_neg (by omega)]
  have hset: ∀v,v=GV os W i→(mk8 fun k=>if k<i then GV os W k else D9 os W k).set i v=mk8 fun k=>if k<i+1 then GV os W k else D9 os W k:=fun v hv=>by
   rw [ZW hlt]
   refine NQ fun k hk=> ?_
   by_cases h1:k=i
   ·subst h1;rw [if_pos rfl,if_pos (by omega),hv]
   ·rw [if_neg h1]
    by_cases h2:k<i
    ·rw [if_pos h2,if_pos (by omega)]
    ·rw [if_neg h2,if_neg (by omega)]
  have hin:inE (mk8 fun k=>if k<i then GV os W k else D9 os W k) i=inE (mk8 (D9 os W)) i:=by
   refine vI (by rw [DD,DD]) fun k hk=> ?_
   rw [DD] at hk
   rw [IM hk,IM hk]
   by_cases h2:k<i
   ·rw [if_pos h2];exact WU os W k
   ·rw [if_neg h2];exact ⟨rfl,rfl,rfl⟩
  have hlen3: ∀o∈(mk8 fun k=>if k<i then GV os W k else D9 os W k),(o.field.length:Int)≤1048576:=fun o ho=>by
   obtain ⟨k,hk,rfl⟩:=j0 ho
   have hm:=mU hof hol W hk
   by_cases h2:k<i
   ·rw [if_pos h2,(WU os W k).2.2];omega
   ·rw [if_neg h2];omega
  generalize (mk8 fun k=>if k<i then GV os W k else D9 os W k)=M at hml hoi hset hin hlen3 ⊢
  have hM8:M.length=8:=by have:=congrArg List.length (hset (GV os W i) rfl);rw [List.length_set,DD] at this;exact this
  have hMs:M=M.set i (D9 os W i):=by rw [←hoi,List.set_getElem_self]
  refine BT (AH hlt ?_)
  cases hv:(D9 os W i).live with
  | true=>
    refine S3 (f:=tO) (v:= .bool true) hml (by rw [hoi];simp [tO,hv]) (CG (AH hlt ?_))
    refine RO (f:=tO) (v:=I (D9 os W i).holds) hml (by decide) (by rw [hoi];rfl) (AH hlt ?_)
    refine RO (f:=tO) (v:=I (D9 os W i).roots) hml (by decide) (by rw [hoi];rfl) (GS ?_)
    refine PM ⟨by omega,by omega⟩ (by rw [hM8];decide) hlen3 ?_
    rw [hin]
    refine GS (AH hlt ?_)
    rw [hMs]
    refine LS hml ?_
    rw [hset _ (by unfold GV;rw [if_pos hv])]
    exact BB (by omega) hR
  | false=>
    refine S3 (f:=tO) (v:= .bool false) hml (by rw [hoi];simp [tO,hv]) (B6 ?_)
    rw [hMs,hset _ (by unfold GV;rw [if_neg (by rw [hv];decide)])]
    exact BB (by omega) hR
 ·have:i=8:=by omega
  subst this
  rw [NQ (g:=GV os W) fun k hk=>if_pos hk]
  exact hK
end Go.Proofs.Ytklmcfpgdfibnaa.P
namespace Go.Proofs.Ytklmcfpgdfibnaa.P
open Go Go.Proofs.Ytklmcfpgdfibnaa Go.Proofs.Ytklmcfpgdfibnaa.Eng
set_option linter.unusedVariables false
set_option maxHeartbeats 4000000
set_option linter.unusedVariables false
set_option linter.unusedSimpArgs false
attribute [local irreducible] prP gP gE gF AY ixW ldc ldg ldl stc stg scW mkW apW BD cl2 BQ CZ B9
variable {w0:World}
noncomputable def FL (h:Hp) (o:Op5):Hp×An:=
 if o.kind=1 then (⟨(IN h.AD h.sites o.site).1,h.B2,h.buffer,(IN h.AD h.sites o.site).2.1⟩,(IN h.AD h.sites o.site).2.2) else
 if o.kind=2∨o.kind=3∨o.kind=5∨o.kind=6 then (⟨(HX h.AD h.buffer o.kind o.a).1,h.B2,(HX h.AD h.buffer o.kind o.a).2.1,h.sites⟩,(HX h.AD h.buffer o.kind o.a).2.2) else
 if o.kind=4 then (⟨(J0 h.AD h.buffer o.a o.b o.c).1,h.B2,(J0 h.AD h.buffer o.a o.b o.c).2.1,h.sites⟩,(J0 h.AD h.buffer o.a o.b o.c).2.2) else
 if o.kind=7 then (⟨h.AD,(O2 h.AD h.B2 o.a).1,h.buffer,h.sites⟩,(O2 h.AD h.B2 o.a).2) else
 if o.kind=8∨o.kind=9 then (⟨h.AD,(I3 h.AD h.B2 o.kind o.a).1,h.buffer,h.sites⟩,(I3 h.AD h.B2 o.kind o.a).2) else
 if o.kind=10 then (⟨(IE h.AD h.buffer).1,h.B2,[],h.sites⟩,⟨0,0,(IE h.AD h.buffer).2⟩) else (h,⟨2,0,[]⟩)
theorem fV {α:Type} [Inhabited α] {l:List α} (h: ∀i (hi:i<l.length),l[i]∉l.take i):l.Nodup:=by
 refine List.pairwise_iff_getElem.2 fun i j hi hj hij he=>h j hj ?_
 rw [←he]
 exact List.mem_take_iff_getElem.2 ⟨i,by omega,rfl⟩
theorem few {n:Nat}: ∀{l:List Int} (g:Int→Nat),l.Nodup→(∀x∈l,g x<n)→(∀x∈l, ∀y∈l,g x=g y→x=y)→l.length≤n:=by
 induction n with
 | zero=>
   intro l g _ h _
   cases l with
   | nil=>simp
   | cons x l=>exact absurd (h x (by simp)) (by omega)
 | succ n ih=>
   intro l g hn h hi
   by_cases hx: ∃x∈l,g x=n
   ·obtain ⟨x,hx,hg⟩:=hx
    have:=ih (l:=l.erase x) g (hn.erase x) (fun y hy=>by
     have hy':=List.mem_of_mem_erase hy
     have:=h y hy'
     have hne:g y≠n:=fun he=>by
      have:y=x:=hi y hy' x hx (by omega)
      subst this
      exact (List.Nodup.not_mem_erase hn) hy
     omega) fun y hy z hz=>hi y (List.mem_of_mem_erase hy) z (List.mem_of_mem_erase hz)
    rw [List.length_erase_of_mem hx] at this
    omega
   ·have:=ih g hn (fun y hy=>by
     have:=h y hy
     have:g y≠n:=fun he=>hx ⟨y,hy,he⟩
     omega) hi
    omega
theorem BW.bnd {h:Hp} (hk:BW h):h.buffer.Nodup:=fV fun i hi=>by rw [DB hi];exact (hk.buf i hi).2
theorem BW.V9 {h:Hp} (hk:BW h) {x:Int} (hx:x∈h.buffer):0≤AB h.AD x:=by
 obtain ⟨i,hi,rfl⟩:=List.getElem_of_mem hx
 rw [DB hi];exact (hk.buf i hi).1
theorem WZ {l:List AG} {x y:Int} (hx:0≤AB l x) (hy:0≤AB l y) (h:AB l x=AB l y):x=y:=by
 have a:=BH hx;have b:=BH hy
 have e1:=a.2.2.2.2.2;have e2:=b.2.2.2.2.2
 rw [h] at e1
 omega
theorem BW.yH {h:Hp} (hk:BW h):h.buffer.length≤8:=
 few (fun x=>(AB h.AD x).toNat) hk.bnd (fun x hx=>(BH (hk.V9 hx)).2.2.2.1) fun x hx y hy he=>WZ (hk.V9 hx) (hk.V9 hy) (by have:=hk.V9 hx;have:=hk.V9 hy;omega)
theorem BW.st {h:Hp} (hk:BW h) (hn:UP h):St h:=by
 refine ⟨hk.ol,hk.wl,hk.sites.len,by have:=hk.yH;omega,fun o ho=> ?_,fun s hs=> ?_,hn.weak,hn.buf⟩
 ·obtain ⟨i,hi,rfl⟩:=List.getElem_of_mem ho
  have hi8:i<8:=by have:=hk.ol;omega
  have:=hn.obj _ ho
  rw [DA hi] at this ⊢
  exact ⟨this.1,(hk.obj i hi8).len,this.2.2.2.2.2⟩
 ·obtain ⟨i,hi,rfl⟩:=List.getElem_of_mem hs
  have:=(hk.sites.sz i hi).2
  rw [S1 hi];omega
theorem BW.hr {h:Hp} (hk:BW h) (i:Nat):(0≤(ob h.AD i).holds∧(ob h.AD i).holds≤20)∧(0≤(ob h.AD i).roots∧(ob h.AD i).roots≤20):=by
 by_cases hi:i<8
 ·cases hv:(ob h.AD i).live with
  | true=>exact ⟨((hk.obj i hi).lv hv).2.2.1,((hk.obj i hi).lv hv).2.2.2.1⟩
  | false=>have:=(hk.obj i hi).dead hv;omega
 ·have:ob h.AD i=⟨false,0,0,0,0,0,[],false⟩:=by unfold ob;rw [List.getD_eq_getElem?_getD,List.getElem?_eq_none (by have:=hk.ol;omega)];rfl
  rw [this];simp
theorem BW.fd {h:Hp} (hk:BW h) (i:Nat): ∀f∈(ob h.AD i).field,f= -1∨0≤f:=by
 intro f hf
 by_cases hi:i<8
 ·obtain ⟨j,hj,rfl⟩:=List.getElem_of_mem hf
  have ho:=hk.obj i hi
  by_cases h1:gI (ob h.AD i).field j= -1
  ·left;rw [DB hj];exact h1
  ·right
   have:=BH (ho.lead j (by have:=ho.len;omega) h1).2
   rw [DB hj];omega
 ·have:ob h.AD i=⟨false,0,0,0,0,0,[],false⟩:=by unfold ob;rw [List.getD_eq_getElem?_getD,List.getElem?_eq_none (by have:=hk.ol;omega)];rfl
  rw [this] at hf;simp at hf
theorem kinds (k:Int):k=1∨(k=2∨k=3∨k=5∨k=6)∨k=4∨k=7∨(k=8∨k=9)∨k=10∨ ¬(k=1∨k=2∨k=3∨k=4∨k=5∨k=6∨k=7∨k=8∨k=9∨k=10):=by omega
end Go.Proofs.Ytklmcfpgdfibnaa.P
namespace Go.Proofs.Ytklmcfpgdfibnaa.P
open Go Go.Proofs.Ytklmcfpgdfibnaa Go.Proofs.Ytklmcfpgdfibnaa.Eng
set_option linter.unusedVariables false
set_option maxHeartbeats 4000000
set_option linter.unusedVariables false
set_option linter.unusedSimpArgs false
attribute [local irreducible] prP gP gE gF AY ixW ldc ldg ldl stc stg scW mkW apW BD cl2 BQ CZ B9
variable {w0:World}
open Classical in
noncomputable def O9 (h:Hp) (o:Op5):Hp×An:=if BW h then FL h o else (h,⟨2,0,[]⟩)
theorem XH {h:Hp} {o:Op5} (hk:BW h):O9 h o=FL h o:=by unfold O9;rw [if_pos hk]
theorem o4 {h:Hp} {o:Op5} (hk: ¬BW h):O9 h o=(h,⟨2,0,[]⟩):=by unfold O9;rw [if_neg hk]
theorem RV {h:Hp} {o:Op5} {K:J2} (hf:Fits h) (hn:UP h) (ha:F64 o.a) (hc:F64 o.c) (hK:K [I (O9 h o).2.code,I (O9 h o).2.val] (trees (O9 h o).1++[tI (O9 h o).2.freed])):cl2 ⟨Try.prog,w0⟩ 76 FT.sg [I o.kind,I o.a,I o.b,I o.c, .string o.site] (trees h) K:=by
 refine FT.cl2 ?_
 unfold FT.txt
 refine J4 hf (MP hf hn (fun hk=>CC (B6 ?_)) fun hk=>CC (CG ?_))
 rotate_left
 ·rw [o4 hk] at hK
  exact hK
 rw [XH hk] at hK
 have st:=hk.st hn
 have hr:=hk.hr
 have hfd:=hk.fd
 have hss:=hk.sites
 have hcn: ∀o∈h.AD,F64 o.count:=fun o ho=>(hn.obj o ho).2.2.2.2.1
 clear hf hk
 obtain ⟨kd,a,b,c,s⟩:=o
 have hol:h.AD.length=8:=st.ol
 simp only at ha hc hr
 unfold FL at hK
 simp only at hK
 have hold:=fun {K:J2} (hkd:kd=2∨kd=3∨kd=5∨kd=6)=>XZ (w0:=w0) (h:=h) (kind:=kd) (id:=a) (b:=b) (c:=c) (s:=s) (K:=K) st ha hkd hr
 have store:=fun {K:J2}=>V4 (w0:=w0) (h:=h) (a0:=kd) (a1:=a) (a2:=b) (a3:=c) (s:=s) (K:=K) st ha hc hfd
 have qQ:=fun {K:J2}=>VJ (w0:=w0) (h:=h) (K:=K) st hcn
 have weak:=fun {K:J2}=>XY (w0:=w0) (os:=h.AD) (ws:=h.B2) (cc:=tI h.buffer) (d:=tS h.sites) (kind:=kd) (k:=a) (b:=b) (c:=c) (s:=s) (K:=K) hol st.wl ha st.wf
 simp only [trees] at hold store qQ ⊢
 rcases kinds kd with rfl | hkd | rfl | rfl | hkd | rfl | hkd
 ·rw [if_pos rfl] at hK
  exact B1 (FR rfl (W0 hol hss hK))
 ·rw [if_neg (by omega),if_pos hkd] at hK
  replace hold:=fun {K:J2}=>hold (K:=K) hkd
  rcases hkd with rfl | rfl | rfl | rfl
  all_goals
   repeat' (first | refine BT ?_ | refine CG ?_ | refine B6 ?_ | refine B1 ?_ | simp only [AJ,AN,AQ,AR,AK,AE,AL,AI,AS,AP,AU,AT,AM,AO,BJ,BP,BM,BN,BO,BS,BL,A4,A5,A9,A8,BA,A7])
   exact hold hK
 ·simp only [if_neg (show ¬(4:Int)=1 by decide),if_neg (show ¬((4:Int)=2∨(4:Int)=3∨(4:Int)=5∨(4:Int)=6) by decide),if_true] at hK
  repeat' (first | refine BT ?_ | refine CG ?_ | refine B6 ?_ | refine B1 ?_ | simp only [AJ,AN,AQ,AR,AK,AE,AL,AI,AS,AP,AU,AT,AM,AO,BJ,BP,BM,BN,BO,BS,BL,A4,A5,A9,A8,BA,A7])
  exact store hK
 ·simp only [if_neg (show ¬(7:Int)=1 by decide),if_neg (show ¬((7:Int)=2∨(7:Int)=3∨(7:Int)=5∨(7:Int)=6) by decide),if_neg (show ¬(7:Int)=4 by decide),if_true] at hK
  repeat' (first | refine BT ?_ | refine CG ?_ | refine B6 ?_ | refine B1 ?_ | simp only [AJ,AN,AQ,AR,AK,AE,AL,AI,AS,AP,AU,AT,AM,AO,BJ,BP,BM,BN,BO,BS,BL,A4,A5,A9,A8,BA,A7])
  exact weak (fun _=>hK) (fun hh=>absurd rfl hh)
 ·rw [if_neg (by omega),if_neg (by omega),if_neg (by omega),if_neg (by omega),if_pos hkd] at hK
  rcases hkd with rfl | rfl
  all_goals
   repeat' (first | refine BT ?_ | refine CG ?_ | refine B6 ?_ | refine B1 ?_ | simp only [AJ,AN,AQ,AR,AK,AE,AL,AI,AS,AP,AU,AT,AM,AO,BJ,BP,BM,BN,BO,BS,BL,A4,A5,A9,A8,BA,A7])
   exact weak (fun hh=>absurd hh (by decide)) (fun _=>hK)
 ·simp only [if_neg (show ¬(10:Int)=1 by decide),if_neg (show ¬((10:Int)=2∨(10:Int)=3∨(10:Int)=5∨(10:Int)=6) by decide),if_neg (show ¬(10:Int)=4 by decide),if_neg (show ¬(10:Int)=7 by decide),if_neg (show ¬((10:Int)=8∨(10:Int)=9) by decide),if_true] at hK
  repeat' (first | refine BT ?_ | refine CG ?_ | refine B6 ?_ | refine B1 ?_ | simp only [AJ,AN,AQ,AR,AK,AE,AL,AI,AS,AP,AU,AT,AM,AO,BJ,BP,BM,BN,BO,BS,BL,A4,A5,A9,A8,BA,A7])
  exact qQ hK
 ·rw [if_neg (by omega),if_neg (by omega),if_neg (by omega),if_neg (by omega),if_neg (by omega),if_neg (by omega)] at hK
  repeat' (first | refine BT ?_ | refine G6 (by first | with_reducible assumption | omega) ?_ | refine B1 ?_ | simp only [AJ,AN,AQ,AR,AK,AE,AL,AI,AS,AP,AU,AT,AM,AO,BJ,BP,BM,BN,BO,BS,BL,A4,A5,A9,A8,BA,A7])
  all_goals first | exact hK | (exfalso;omega)
end Go.Proofs.Ytklmcfpgdfibnaa.P
namespace Go.Proofs.Ytklmcfpgdfibnaa.P
open Go Go.Proofs.Ytklmcfpgdfibnaa Go.Proofs.Ytklmcfpgdfibnaa.Eng
set_option linter.unusedVariables false
def okE (n:Int) (l:List ByteArray) (a b c d:Int) (s:ByteArray) (k v:Int) (xs:List Int):Bool:=(wG a b c d s&&yF k v xs)&&w9 n l
def Fx (q:ByteArray×Int) (x:Int):ByteArray×Int:=(q.1++SI (x-q.2),x)
def base (n:Int) (l:List ByteArray) (a b c d:Int) (s:ByteArray) (k v:Int) (m:Nat):ByteArray:=((((((SI a++SI (b-n))++SI c)++SI (d-b))++pF l s)++V k)++SI (v-b))++V m
def stE (p:ByteArray×Int) (xs:List Int) (i:Nat):ByteArray×Int:=(xs.take i).foldl Fx p
theorem oO {p:ByteArray×Int} {xs:List Int} {i:Nat} (hi:i<xs.length):stE p xs (i+1)=Fx (stE p xs i) xs[i]:=by
 rw [stE,List.take_succ_eq_append_getElem hi,List.foldl_append];rfl
theorem nW {p:ByteArray×Int} {xs:List Int} (hp:O1 p.2=true) (hx:xs.all O1=true): ∀i,i≤xs.length→O1 (stE p xs i).2=true∧(stE p xs i).1.size≤p.1.size+7*i
 | 0,_=>⟨hp,Nat.le_refl _⟩
 | i+1,hi=>by
   obtain ⟨h1,h2⟩:=nW hp hx i (by omega)
   rw [oO (by omega)]
   refine ⟨List.all_eq_true.1 hx _ (List.getElem_mem _), ?_⟩
   have:=RQ (zg (xs[i]-(stE p xs i).2))
   simp only [Fx,ByteArray.size_append,SI];omega
theorem fH (l:List ByteArray) (s:ByteArray):(pF l s).size≤22:=by
 unfold pF;split
 ·have:=RQ (at_ l s+1);omega
 ·have h1:=RQ 0
  have h2:=sI s
  rw [ByteArray.size_append];omega
theorem SO (n:Int):(SI n).size≤7:=RQ _
def gU (n:Int) (l:List ByteArray) (a b c d:Int) (s:ByteArray) (k v:Int) (xs:List Int):ByteArray×Int×List ByteArray:=
 if okE n l a b c d s k v xs then ((stE (base n l a b c d s k v xs.length,b) xs xs.length).1,b,w7 l s) else (⟨#[]⟩,n,l)
theorem dU {n:Int} {l:List ByteArray} {a b c d:Int} {s:ByteArray} {k v:Int} {xs:List Int} (h:okE n l a b c d s k v xs=true):O1 a=true∧O1 b=true∧O1 c=true∧O1 d=true∧O1 v=true∧O1 n=true∧xs.all O1=true∧xs.length≤8∧(0≤k∧k≤6)∧l.length≤400:=by
 simp only [okE,wG,yF,w9,Bool.and_eq_true,decide_eq_true_eq] at h
 exact ⟨h.1.1.1.1.1.1,h.1.1.1.1.1.2,h.1.1.1.1.2,h.1.1.1.2,h.1.2.1.1.2,h.2.1.1,h.1.2.2,h.1.2.1.2,j7.1 h.1.2.1.1.1,h.2.1.2⟩
theorem kX (n:Int) (l:List ByteArray) (a b c d:Int) (s:ByteArray) (k v:Int) (m:Nat):(base n l a b c d s k v m).size≤71:=by
 have h1:=SO a;have h2:=SO (b-n);have h3:=SO c;have h4:=SO (d-b);have h5:=fH l s;have h6:=RQ k;have h7:=SO (v-b);have h8:=RQ m
 simp only [base,ByteArray.size_append];omega
end Go.Proofs.Ytklmcfpgdfibnaa.P
namespace Go.Proofs.Ytklmcfpgdfibnaa.P
open Go Go.Proofs.Ytklmcfpgdfibnaa Go.Proofs.Ytklmcfpgdfibnaa.Eng
set_option linter.unusedVariables false
theorem rX {f:J2} {g:J2→Prop} (P:List Value→List (List T)→Prop) (h1: ∀xs cs,P xs cs→f xs cs) (h2: ∀j:J2,(∀xs cs,P xs cs→j xs cs)→g j):BQ f g:=h2 f h1
end Go.Proofs.Ytklmcfpgdfibnaa.P
