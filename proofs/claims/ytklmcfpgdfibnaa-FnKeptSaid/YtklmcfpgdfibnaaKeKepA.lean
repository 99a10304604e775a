/- A part of the proof. -/
import Derived.Test.YtklmcfpgdfibnaaKeTriA
namespace Go.Proofs.Ytklmcfpgdfibnaa.P
open Go Go.Proofs.Ytklmcfpgdfibnaa Go.Proofs.Ytklmcfpgdfibnaa.Eng
set_option linter.unusedVariables false
set_option maxHeartbeats 4000000
set_option linter.unusedVariables false
set_option linter.unusedSimpArgs false
attribute [local irreducible] prP gP gE gF AX ixW ldc ldg ldl stc stg scW mkW apW BE cl2 BS DF CB
variable {w0:World}
end Go.Proofs.Ytklmcfpgdfibnaa.P
namespace Go.Proofs.Ytklmcfpgdfibnaa.P
open Go Go.Proofs.Ytklmcfpgdfibnaa Go.Proofs.Ytklmcfpgdfibnaa.Eng
set_option linter.unusedVariables false
set_option maxHeartbeats 4000000
set_option linter.unusedVariables false
set_option linter.unusedSimpArgs false
attribute [local irreducible] prP gP gE gF AX ixW ldc ldg ldl stc stg scW mkW apW BE cl2 BS DF CB
variable {w0:World}
theorem wB {x:Hp} (hk:B1 x) {k:Nat} (k8:k<8) (kv:(ob x.AD k).live=true):AB x.AD (B9 k (ob x.AD k).gen)=(k:Int):=
 EM hk.ol k8 kv ((hk.hp.obj k k8).lv kv).1 (hk.hp.obj k k8).gen.2
end Go.Proofs.Ytklmcfpgdfibnaa.P
namespace Go.Proofs.Ytklmcfpgdfibnaa.P
open Go Go.Proofs.Ytklmcfpgdfibnaa Go.Proofs.Ytklmcfpgdfibnaa.Eng
set_option linter.unusedVariables false
set_option maxHeartbeats 4000000
set_option linter.unusedVariables false
set_option linter.unusedSimpArgs false
attribute [local irreducible] prP gP gE gF AX ixW ldc ldg ldl stc stg scW mkW apW BE cl2 BS DF CB
variable {w0:World}
end Go.Proofs.Ytklmcfpgdfibnaa.P
namespace Go.Proofs.Ytklmcfpgdfibnaa.P
open Go Go.Proofs.Ytklmcfpgdfibnaa Go.Proofs.Ytklmcfpgdfibnaa.Eng
set_option linter.unusedVariables false
set_option maxHeartbeats 4000000
set_option linter.unusedVariables false
set_option linter.unusedSimpArgs false
attribute [local irreducible] prP gP gE gF AX ixW ldc ldg ldl stc stg scW mkW apW BE cl2 BS DF CB
variable {w0:World}
end Go.Proofs.Ytklmcfpgdfibnaa.P
namespace Go.Proofs.Ytklmcfpgdfibnaa.P
open Go Go.Proofs.Ytklmcfpgdfibnaa Go.Proofs.Ytklmcfpgdfibnaa.Eng
set_option linter.unusedVariables false
set_option maxHeartbeats 4000000
set_option linter.unusedVariables false
set_option linter.unusedSimpArgs false
attribute [local irreducible] prP gP gE gF AX ixW ldc ldg ldl stc stg scW mkW apW BE cl2 BS DF CB
variable {w0:World}
def toO (n:Nd):AU:=⟨n.live,n.gen,n.site,n.holds,n.roots,0,n.field,false⟩
abbrev osN (l:List Nd):List AU:=l.map toO
theorem cZ {l:List Nd} {i:Nat} (hi:i<l.length):ob (osN l) i=toO (nd l i):=by
 have h2:i<(osN l).length:=by simpa using hi
 rw [←DH h2, ←QD hi]
 simp [osN]
theorem I2 {a:List Nd} {b c:List T} {id:Int} {K:J2} (hid:F64 id) (hl:(a.length:Int)<2^62) (h:K [I (AB (osN a) id)] []):cl2 ⟨Try.prog,w0⟩ 119 C7.sg [I id] [tR tN a,b,c] K:=by
 obtain ⟨i1,i2⟩:=hid
 have ll:(osN a).length=a.length:=by simp
 refine C7.cl2 ?_
 unfold C7.txt
 simp only [AI,AO,AM,AS,AH,AE,AG,AK,AN,AP,AR,AT,AQ,AL,BD,BJ,BL,BK,BM,BN,BG,A4,AZ,A6,A8,A5,A7]
 by_cases h1:id<8
 ·rw [FB (.inl h1)] at h
  exact AY (BC (BC (BC (J3 h1 (C4 h1 rfl (BV h))))))
 ·refine AY (BC (BC (BC (EC h1 (CM (CZ h1 rfl (AW (fun h2=> ?_) fun h2=> ?_)))))))
  ·rw [FB (.inr (by omega))] at h;exact h
  ·have hlt:(id % 8).toNat<a.length:=by omega
   have eo:=cZ (l:=a) hlt
   refine UK (by omega) (by omega) ?_
   have er:(I (id % 8):Value)=iv (id % 8).toNat:=by
    show I (id % 8)=I (((id % 8).toNat:Nat):Int)
    rw [Int.toNat_of_nonneg (by omega)]
   rw [er]
   refine AJ hlt (K2 hlt rfl ?_)
   cases hv:(nd a (id % 8).toNat).live with
   | false=>
     rw [G9 (by omega) (.inl (by rw [eo];exact hv))] at h
     exact B2 (BC (BC (BC (L5 (BC (L5 (BC (L5 (L5 (P9 rfl (BV h)))))))))))
   | true=>
     refine B2 (BC (BC (BC (K7 (AJ hlt (BC (K7 (KI (c:=1) hlt (by decide) rfl (BC (K7 (cH (by omega) ⟨by omega,by omega⟩ (by omega) (K7 (CM (P5 rfl ?_))))))))))))))
     refine AW (fun h3=> ?_) fun h3=> ?_
     ·rw [G9 (by omega) (.inr (by rw [eo];exact h3))] at h;exact h
     ·rw [IK (by omega) (by omega) (by omega) (by rw [eo];exact hv) (by rw [eo];exact Classical.not_not.1 h3)] at h
      rw [←er];exact h
def O6 (os:List AU):Nat→Que:=pick fun i=>if (ob os i).live=true∧w64 ((ob os i).holds+(ob os i).roots)>0 then [((i:Int),(-1:Int))] else []
theorem mK {os:List AU} {n:Nat} {s:Int} (h:inQ (O6 os n) s):0≤s∧s<n:=by
 obtain ⟨e,he,rfl⟩:=List.mem_map.1 h
 obtain ⟨i,hi,hx⟩:=KU.1 he
 split at hx
 ·rw [List.mem_singleton.1 hx];simp only;omega
 ·cases hx
theorem aY {os:List AU} (hol:os.length=8) (hg: ∀i,i<8→(ob os i).live=true→1≤(ob os i).gen∧(ob os i).gen≤999): ∀n,n≤8→JL os (-1) (pick (ZI os) n)=O6 os n
 | 0,_=>rfl
 | n+1,hn=>by
   have ih:=aY hol hg n (by omega)
   show (pick (ZI os) n++ZI os n).foldl _ []=O6 os n++_
   rw [List.foldl_append]
   unfold JL at ih
   rw [ih]
   unfold ZI
   simp only
   by_cases hc:(ob os n).live=true∧w64 ((ob os n).holds+(ob os n).roots)>0
   ·rw [if_pos ⟨by omega,hc⟩,if_pos hc]
    simp only [List.foldl_cons,List.foldl_nil]
    rw [EM hol (by omega) hc.1 (hg n (by omega) hc.1).1 (hg n (by omega) hc.1).2]
    unfold J7
    rw [if_neg]
    simp only [not_or]
    refine ⟨by omega,by omega,fun hi=> ?_⟩
    have:=mK hi
    omega
   ·rw [if_neg (fun hh=>hc hh.2),if_neg hc]
    simp
end Go.Proofs.Ytklmcfpgdfibnaa.P
namespace Go.Proofs.Ytklmcfpgdfibnaa.P
open Go Go.Proofs.Ytklmcfpgdfibnaa Go.Proofs.Ytklmcfpgdfibnaa.Eng
set_option linter.unusedVariables false
theorem q9 {os:List AU} {x:Int}:x∈exts os↔ ∃i:Nat,i<os.length∧i<8∧(ob os i).live=true∧w64 ((ob os i).holds+(ob os i).roots)>0∧x=B9 i (ob os i).gen:=by
 unfold exts
 rw [KU]
 constructor
 ·rintro ⟨i,hi,h⟩
  unfold ZI at h
  split at h
  ·rename_i hc;exact ⟨i,hi,by omega,hc.2.1,hc.2.2,List.mem_singleton.1 h⟩
  ·cases h
 ·rintro ⟨i,hi,h8,hv,hw,rfl⟩
  refine ⟨i,hi, ?_⟩
  unfold ZI
  rw [if_pos ⟨by omega,hv,hw⟩];simp
theorem S5.ne {os:List AU} {but:Int} {s k:Nat} (h:S5 os but s k) (hs:(s:Int)≠but):(k:Int)≠but:=by
 cases h with
 | refl=>exact hs
 | step _ hj hb=>rwa [←(CG hj).2.2.1]
theorem e6.ne {os:List AU} {but:Int} {ids:List Int} {k:Nat} (h:e6 os but ids k):(k:Int)≠but:=by
 obtain ⟨x,_,s,_,hs,hr⟩:=h
 exact hr.ne hs
theorem e6.rb {os:List AU} {but:Int} {ids:List Int} {k:Nat} (h:e6 os but ids k):RB os ids k:=by
 obtain ⟨x,hx,s,hs,_,hr⟩:=h
 refine ⟨x,hx,s,hs, ?_⟩
 induction hr with
 | refl=>exact .refl
 | step _ hj _ ih=>exact .step ih hj
def xU (id f:Int):Int:=if f=id then -1 else f
structure m7 (os os':List AU) (b:Nat) (id:Int):Prop where
 len:os'.length=os.length
 live: ∀i,(ob os' i).live=(ob os i).live
 gen: ∀i,(ob os' i).gen=(ob os i).gen
 field: ∀i,(ob os' i).field=(ob os i).field.map (xU id)
 holds: ∀i,w64 ((ob os' i).holds+(ob os' i).roots)=if i=b then 0 else w64 ((ob os i).holds+(ob os i).roots)
theorem m7.slot {os os':List AU} {b:Nat} {id:Int} (h:m7 os os' b id) (v:Int):AB os' v=AB os v:=EI h.len fun i _=>⟨h.live i,h.gen i⟩
theorem m7.kids {os os':List AU} {b:Nat} {id:Int} (h:m7 os os' b id) (hs:AB os id=(b:Int)) {k:Nat} {j:Int}:j∈BO os' k↔j∈BO os k∧j≠(b:Int):=by
 rw [HZ,HZ,h.field]
 constructor
 ·rintro ⟨h0,f,hf,e⟩
  obtain ⟨f',hf',rfl⟩:=List.mem_map.1 hf
  rw [h.slot] at e
  unfold xU at e
  split at e
  ·rw [mA] at e;omega
  ·rename_i hne
   refine ⟨⟨h0,f',hf',e⟩,fun hb=>hne ?_⟩
   exact XN (l:=os) (by omega) (by omega) (by omega)
 ·rintro ⟨⟨h0,f,hf,e⟩,hb⟩
  refine ⟨h0,f,List.mem_map.2 ⟨f,hf, ?_⟩,by rw [h.slot];exact e⟩
  unfold xU
  rw [if_neg]
  rintro rfl
  exact hb (by omega)
theorem m7.ext {os os':List AU} {b:Nat} {id:Int} (h:m7 os os' b id) {x:Int}:x∈exts os'↔ ∃i:Nat,i≠b∧i<os.length∧i<8∧(ob os i).live=true∧w64 ((ob os i).holds+(ob os i).roots)>0∧x=B9 i (ob os i).gen:=by
 rw [q9]
 constructor
 ·rintro ⟨i,hi,h8,hv,hw,rfl⟩
  rw [h.holds] at hw
  split at hw
  ·omega
  ·rename_i hne
   exact ⟨i,hne,by rw [←h.len];exact hi,h8,by rw [←h.live];exact hv,hw,by rw [h.gen]⟩
 ·rintro ⟨i,hne,hi,h8,hv,hw,rfl⟩
  exact ⟨i,by rw [h.len];exact hi,h8,by rw [h.live];exact hv,by rw [h.holds,if_neg hne];exact hw,by rw [h.gen]⟩
def SR (q:Que):List Int:=pick (fun i=>if inQ q (i:Int) then [(i:Int)] else []) 8
theorem Z0 (q:Que):(SR q).length≤8:=JQ (fun i=>by split <;> simp) 8
theorem vW {os:List AU} {ids:List Int} {k:Nat}:e6 os (-1) ids k↔RB os ids k:=by
 unfold e6 RB
 constructor
 ·rintro ⟨v,hv,s,e,_,hr⟩;exact ⟨v,hv,s,e,aR.1 hr⟩
 ·rintro ⟨v,hv,s,e,hr⟩;exact ⟨v,hv,s,e,by omega,aR.2 hr⟩
end Go.Proofs.Ytklmcfpgdfibnaa.P
namespace Go.Proofs.Ytklmcfpgdfibnaa.P
open Go Go.Proofs.Ytklmcfpgdfibnaa Go.Proofs.Ytklmcfpgdfibnaa.Eng
set_option linter.unusedVariables false
inductive Z7 (os:List AU):Nat→Prop
 | mk {k:Nat}:k<8→(ob os k).live=true→(ob os k).holds+(ob os k).roots=0→(∀j,j<8→(ob os j).live=true→B9 k (ob os k).gen∈(ob os j).field→Z7 os j)→Z7 os k
def JN (os0 os:List AU):Prop:= ∀i,i<8→(ob os0 i).live=true→(ob os i).live=false→Z7 os0 i
def PT (os:List AU) (i:Nat):Prop:=0<(ob os i).holds+(ob os i).roots∨ ∃j,j<8∧(ob os j).live=true∧B9 i (ob os i).gen∈(ob os j).field
theorem JN.refl (os:List AU):JN os os:=fun i _ h1 h2=>by rw [h1] at h2;cases h2
theorem eV {os0 os:List AU} {freed:List Int} (R:HX os0 os freed) (D:JN os0 os) (E: ∀i,i<8→(ob os i).live=true→PT os i) {i:Nat} (hi:i<8):(ob os i).live=true↔(ob os0 i).live=true∧ ¬Z7 os0 i:=by
 constructor
 ·intro hv
  refine ⟨(R.sm i hi hv).1,fun hd=> ?_⟩
  induction hd with
  | mk k8 kv k0 hj ih=>
    obtain ⟨_,_,s3,s4,s5⟩:=R.sm _ k8 hv
    rcases E _ k8 hv with h | ⟨j,j8,jv,jm⟩
    ·omega
    ·obtain ⟨t1,_,_,_,t5⟩:=R.sm j j8 jv
     rw [R.gn _ k8,t5] at jm
     exact ih j j8 t1 jm j8 jv
 ·rintro ⟨h0,hn⟩
  cases hv:(ob os i).live with
  | true=>rfl
  | false=>exact absurd (D i hi h0 hv) hn
def LB (a b:List AU):Prop:= ∀i,i<8→(ob a i).live=(ob b i).live∧(ob a i).gen=(ob b i).gen∧(ob a i).holds=(ob b i).holds∧(ob a i).roots=(ob b i).roots∧(ob a i).field=(ob b i).field
theorem LB.symm {a b:List AU} (h:LB a b):LB b a:=fun i hi=>let ⟨h1,h2,h3,h4,h5⟩:=h i hi;⟨h1.symm,h2.symm,h3.symm,h4.symm,h5.symm⟩
theorem LB.dead {a b:List AU} (h:LB a b) {k:Nat} (hd:Z7 a k):Z7 b k:=by
 induction hd with
 | mk k8 kv k0 hj ih=>
   obtain ⟨h1,h2,h3,h4,h5⟩:=h _ k8
   refine .mk k8 (by rw [←h1];exact kv) (by omega) fun j j8 jv jm=> ?_
   obtain ⟨g1,g2,g3,g4,g5⟩:=h j j8
   exact ih j j8 (by rw [g1];exact jv) (by rw [h2,g5];exact jm)
theorem LB.slot {a b:List AU} (h:LB a b) (ha:a.length=8) (hb:b.length=8) (x:Int):AB a x=AB b x:=EI (by omega) fun i hi=>⟨(h i (by omega)).1,(h i (by omega)).2.1⟩
theorem mT {a b a' b':List AU} {fa fb:List Int} (h:LB a b) (Ra:HX a a' fa) (Rb:HX b b' fb) (Da:JN a a') (Db:JN b b') (Ea: ∀i,i<8→(ob a' i).live=true→PT a' i) (Eb: ∀i,i<8→(ob b' i).live=true→PT b' i):
  (∀i,i<8→(ob a' i).live=(ob b' i).live∧(ob a' i).gen=(ob b' i).gen)∧fa.Perm fb:=by
 have hl: ∀i,i<8→(ob a' i).live=(ob b' i).live∧(ob a' i).gen=(ob b' i).gen:=fun i hi=>by
  obtain ⟨h1,h2,_⟩:=h i hi
  refine ⟨?_,by rw [Ra.gn i hi,Rb.gn i hi,h2]⟩
  rw [Bool.eq_iff_iff,eV Ra Da Ea hi,eV Rb Db Eb hi,h1]
  exact ⟨fun ⟨x,y⟩=>⟨x,fun hd=>y (h.symm.dead hd)⟩,fun ⟨x,y⟩=>⟨x,fun hd=>y (h.dead hd)⟩⟩
 refine ⟨hl,(List.perm_ext_iff_of_nodup Ra.nd Rb.nd).2 fun x=> ?_⟩
 rw [Ra.fr,Rb.fr,h.slot Ra.l0 Rb.l0,EI (a:=a') (b:=b') (by rw [Ra.len,Rb.len]) fun i hi=>hl i (by have:=Ra.len;omega)]
theorem uR {l:List Nat} (h:0<l.sum): ∃x∈l,0<x:=by
 induction l with
 | nil=>simp at h
 | cons a l ih=>
   rw [List.sum_cons] at h
   by_cases ha:0<a
   ·exact ⟨a,by simp,ha⟩
   ·obtain ⟨x,hx,h0⟩:=ih (by omega)
    exact ⟨x,by simp [hx],h0⟩
theorem aD {os:List AU} {id:Int} (h:0<CJ os id): ∃j,j<os.length∧(ob os j).live=true∧id∈(ob os j).field:=by
 unfold CJ at h
 obtain ⟨x,hx,h0⟩:=uR h
 obtain ⟨o,ho,rfl⟩:=List.mem_map.1 hx
 obtain ⟨j,hj,rfl⟩:=List.getElem_of_mem ho
 rw [DH hj] at h0
 cases hv:(ob os j).live with
 | false=>rw [OV hv] at h0;omega
 | true=>
   rw [JR hv] at h0
   exact ⟨j,hj,hv,List.count_pos_iff.1 h0⟩
theorem HP.held {os:List AU} {ns:Nat} {buf:List Int} (h:HP os ns buf []) {i:Nat} (hi:i<8) (hv:(ob os i).live=true):PT os i:=by
 obtain ⟨_,_,a,b,c,d,_⟩:=(h.obj i hi).lv hv
 rw [List.count_nil] at c
 by_cases h0:0<(ob os i).holds+(ob os i).roots
 ·exact .inl h0
 ·obtain ⟨j,hj,jv,jm⟩:=aD (os:=os) (id:=B9 i (ob os i).gen) (by omega)
  exact .inr ⟨j,by have:=h.ol;omega,jv,jm⟩
theorem JN.dec {os0 os:List AU} {k:Nat} {v:AU} (h:JN os0 os) (hk:k<os.length) (v1:v.live=true):JN os0 (os.set k v):=fun i hi h0 hv=>by
 rw [DZ hk] at hv
 split at hv
 ·rw [v1] at hv;cases hv
 ·exact h i hi h0 hv
theorem JN.free {os0 os:List AU} {freed:List Int} {k:Nat} {v:AU} (R:HX os0 os freed) (h:JN os0 os) (k8:k<8) (kv:(ob os k).live=true) (k0:(ob os k).holds+(ob os k).roots=0) (ke: ∀j,j<8→(ob os j).live=true→B9 k (ob os k).gen∉(ob os j).field):JN os0 (os.set k v):=fun i hi h0 hv=>by
 rw [DZ (by have:=R.len;omega)] at hv
 by_cases e:i=k
 ·subst e
  obtain ⟨_,_,s3,s4,_⟩:=R.sm i hi kv
  refine .mk hi h0 (by omega) fun j j8 jv jm=> ?_
  cases hv':(ob os j).live with
  | false=>exact h j j8 jv hv'
  | true=>
    obtain ⟨_,_,_,_,t5⟩:=R.sm j j8 hv'
    rw [←R.gn i hi, ←t5] at jm
    exact absurd jm (ke j j8 hv')
 ·rw [if_neg e] at hv
  exact h i hi h0 hv
theorem uQ {ns:Nat} {os0:List AU}: ∀(f:Nat) {os:List AU} {buf todo freed:List Int},HP os ns buf todo→freed.length+lvs os≤8→todo.length+4*lvs os<f→HX os0 os freed→JN os0 os→JN os0 (JM f os buf freed todo).1:=by
 intro f
 induction f with
 | zero=>intro os buf todo freed _ _ h;omega
 | succ f ih=>
   intro os buf todo freed h h8 hf hR hD
   cases todo with
   | nil=>exact hD
   | cons id pd=>
     have hs:=h.pd id (by simp)
     obtain ⟨k,hk⟩: ∃k:Nat,AB os id=(k:Int):=⟨(AB os id).toNat,by omega⟩
     obtain ⟨k8,kv,kid,kg1,kg2,kid8,kc,kc1,kF⟩:=h.at hk
     have hkl:k<os.length:=by have:=h.ol;omega
     simp only [JM,hk,Int.toNat_natCast]
     rw [if_neg (by omega),if_neg (by omega)]
     have ew:w64 ((ob os k).count-1)=(ob os k).count-1:=JK ⟨by omega,by have:=kF.2;omega⟩
     rw [ew]
     have lset:=PJ hkl kv
     have lvd: ∀v:AU,v.live=true→lvs (os.set k v)=lvs os:=fun v hv=>by
      have:=lset v
      rw [if_pos hv] at this;omega
     simp only [List.length_cons] at hf
     by_cases hc:(ob os k).count-1>0
     ·rw [if_pos hc]
      have hpk:=((h.obj k k8).lv kv).2.2.2.2.2.2
      rw [←kid] at hpk
      by_cases hp:(ob os k).purple=true
      ·rw [if_pos hp]
       exact ih (h.dec hk rfl rfl rfl rfl rfl rfl rfl (by simp only;omega) (fun x _=>Iff.rfl) hpk h.bnd) (by rw [lvd] <;> first | omega | exact kv) (by rw [lvd] <;> first | omega | exact kv) (hR.dec k8 kv kv rfl rfl rfl rfl rfl) (hD.dec hkl kv)
      ·rw [if_neg hp]
       have hni:id∉buf:=fun hm=>hp (hpk.2 hm)
       exact ih (h.dec hk rfl rfl rfl rfl rfl rfl rfl (by simp only;omega) (fun x hx=>by simp [hx]) (by simp) (List.nodup_append.2 ⟨h.bnd,by simp,fun a ha b hb=>by
        have hb:b=id:=by simpa using hb
        subst hb;intro he;exact hni (he ▸ ha)⟩)) (by rw [lvd] <;> first | omega | exact kv) (by rw [lvd] <;> first | omega | exact kv) (hR.dec k8 kv kv rfl rfl rfl rfl rfl) (hD.dec hkl kv)
     ·rw [if_neg hc]
      have hl:=lset (CA (ob os k).gen)
      rw [if_neg (by simp [CA])] at hl
      have hfl:=List.length_filter_le (fun x=>decide (0≤x)) (ob os k).field
      rw [(h.obj k k8).len] at hfl
      obtain ⟨_,_,a,b,_⟩:=(h.obj k k8).lv kv
      have e0:CJ os id=0:=by omega
      exact ih (h.free hk (by omega)) (by rw [List.length_append,List.length_singleton];omega) (by rw [List.length_append];omega) (hR.free hk) (hD.free hR k8 kv (by omega) fun j j8 jv=>by rw [←kid];exact PL e0 (by have:=h.ol;omega) jv)
theorem vO {ns:Nat} {os:List AU} {buf:List Int} {x:Int} (h:HP os ns buf [x]):JN os (FK os buf [x]).1:=by
 have hol:=h.ol
 have:=US hol
 exact uQ _ h (by simp only [List.length_nil];omega) (by simp only [List.length_singleton];omega) (HX.refl hol) (JN.refl os)
theorem oO {a b:List Int} (h:a.Perm b) (ha:a.Pairwise (· ≤ ·)) (hb:b.Pairwise (· ≤ ·)):a=b:=by
 induction a generalizing b with
 | nil=>exact h.nil_eq
 | cons x a ih=>
   cases b with
   | nil=>exact absurd h.length_eq (by simp)
   | cons y b=>
     have hx:=List.pairwise_cons.1 ha
     have hy:=List.pairwise_cons.1 hb
     have e:x=y:=by
      have h1:x∈y::b:=h.subset (by simp)
      have h2:y∈x::a:=h.symm.subset (by simp)
      rcases List.mem_cons.1 h1 with h1 | h1
      ·exact h1
      ·rcases List.mem_cons.1 h2 with h2 | h2
       ·exact h2.symm
       ·have:=hx.1 y h2;have:=hy.1 x h1;omega
     subst e
     rw [ih ((List.perm_cons x).1 h) hx.2 hy.2]
structure cN (l:List Int) (i k:Nat) (q:List Int):Prop where
 pm:q.Perm l
 ki:k≤i
 so: ∀a b,a<b→b≤i→b<q.length→a≠k→b≠k→gI q a≤gI q b
 hd: ∀b,k<b→b≤i→b<q.length→gI q k≤gI q b
def upI (i:Nat) (q:List Int):Prop:= ∀a b,a<b→b<i→b<q.length→gI q a≤gI q b
def swp (q:List Int) (k:Nat):List Int:=(q.set k (gI q (k-1))).set (k-1) (gI q k)
theorem kY (q:List Int) (k:Nat):(swp q k).length=q.length:=by simp [swp]
theorem bV {q:List Int} {k i:Nat} (hk:k<q.length) (h1:1≤k):gI (swp q k) i=if i=k-1 then gI q k else if i=k then gI q (k-1) else gI q i:=by
 unfold swp
 rw [EE (by simp;omega),EE hk]
theorem pH {q:List Int} {k:Nat} (hk:k<q.length) (h1:1≤k):(swp q k).Perm q:=by
 have e:q=q.take (k-1)++(gI q (k-1)::gI q k::q.drop (k+1)):=by
  have a1:q.drop (k-1)=gI q (k-1)::q.drop k:=by
   rw [List.drop_eq_getElem_cons (by omega),DL (by omega),show k-1+1=k from by omega]
  have a2:q.drop k=gI q k::q.drop (k+1):=by rw [List.drop_eq_getElem_cons hk,DL hk]
  rw [←a2, ←a1,List.take_append_drop]
 have e2:swp q k=q.take (k-1)++(gI q k::gI q (k-1)::q.drop (k+1)):=by
  refine List.ext_getElem? fun i=> ?_
  have lt:(q.take (k-1)).length=k-1:=by rw [List.length_take];omega
  unfold swp
  by_cases h3:i<k-1
  ·rw [List.getElem?_set_ne (by omega),List.getElem?_set_ne (by omega),List.getElem?_append_left (by omega),List.getElem?_take_of_lt h3]
  ·rw [List.getElem?_append_right (by omega),lt]
   by_cases h4:i=k-1
   ·subst h4;rw [List.getElem?_set_self (by simp;omega)];simp
   ·rw [List.getElem?_set_ne (by omega)]
    by_cases h5:i=k
    ·subst h5;rw [List.getElem?_set_self hk,show i-(i-1)=1 from by omega];simp
    ·rw [List.getElem?_set_ne (by omega),show i-(k-1)=(i-(k+1))+2 from by omega]
     simp only [List.getElem?_cons_succ,List.getElem?_drop]
     congr 1;omega
 rw [e2]
 conv=>rhs;rw [e]
 exact List.Perm.append_left _ (List.Perm.swap _ _ _)
theorem cN.swap {l q:List Int} {i k:Nat} (h:cN l i k q) (hi:i<q.length) (h1:1≤k) (hlt:gI q k<gI q (k-1)):cN l i (k-1) (swp q k):=by
 have hk:k<q.length:=by have:=h.ki;omega
 refine ⟨(pH hk h1).trans h.pm,by have:=h.ki;omega,fun a b hab hb hl ha hb'=> ?_,fun b hb hbi hl=> ?_⟩
 ·rw [kY] at hl
  rw [bV hk h1,bV hk h1,if_neg ha,if_neg hb']
  by_cases e1:a=k
  ·rw [if_pos e1,if_neg (by omega)]
   exact h.so (k-1) b (by omega) hb hl (by omega) (by omega)
  ·rw [if_neg e1]
   by_cases e2:b=k
   ·rw [if_pos e2]
    exact h.so a (k-1) (by omega) (by omega) (by omega) e1 (by omega)
   ·rw [if_neg e2]
    exact h.so a b hab hb hl e1 e2
 ·rw [kY] at hl
  rw [bV hk h1,bV hk h1,if_pos rfl,if_neg (by omega)]
  by_cases e2:b=k
  ·rw [if_pos e2];omega
  ·rw [if_neg e2];exact h.hd b (by omega) hbi hl
theorem cN.done {l q:List Int} {i k:Nat} (h:cN l i k q) (he:k=0∨gI q (k-1)≤gI q k):upI (i+1) q:=fun a b hab hb hl=>by
 by_cases e1:a=k
 ·subst e1;exact h.hd b hab (by omega) hl
 ·by_cases e2:b=k
  ·subst e2
   rcases he with he | he
   ·omega
   ·by_cases e3:a=b-1
    ·rw [e3];exact he
    ·have:=h.so a (b-1) (by omega) (by omega) (by omega) e1 (by omega);omega
  ·exact h.so a b hab (by omega) hl e1 e2
theorem cN.start {l q:List Int} {i:Nat} (hp:q.Perm l) (hu:upI i q):cN l i i q:=⟨hp,Nat.le_refl _,fun a b hab hb hl _ hb'=>hu a b hab (by omega) hl,fun b hb hbi _=>by omega⟩
theorem mY {q:List Int} (h:upI q.length q):q.Pairwise (· ≤ ·):=by
 refine List.pairwise_iff_getElem.2 fun a b ha hb hab=> ?_
 rw [DL ha,DL hb]
 exact h a b hab hb hb
end Go.Proofs.Ytklmcfpgdfibnaa.P
