/- A part of the proof. -/
import Derived.Test.YtklmcfpgdfibnaaLeRetA
namespace Go.Proofs.Ytklmcfpgdfibnaa.P
open Go Go.Proofs.Ytklmcfpgdfibnaa Go.Proofs.Ytklmcfpgdfibnaa.Eng
set_option linter.unusedVariables false
set_option maxHeartbeats 4000000
set_option linter.unusedVariables false
set_option linter.unusedSimpArgs false
attribute [local irreducible] prP gP gE gF AJ ixW ldc ldg ldl stc stg scW mkW apW A6 cl2 BF CM CB
variable {w0:World}
theorem MX {x:Hp} (hk:BO x) {k m:Nat} (k8:k<8) (kv:(ob x.AD k).live=true) (m8:m<8) (mv:(ob x.AD m).live=true) (h:B2 k (ob x.AD k).gen=B2 m (ob x.AD m).gen):k=m:=by
 have a:=UA hk k8 kv
 rw [h,UA hk m8 mv] at a
 omega
end Go.Proofs.Ytklmcfpgdfibnaa.P
namespace Go.Proofs.Ytklmcfpgdfibnaa.P
open Go Go.Proofs.Ytklmcfpgdfibnaa Go.Proofs.Ytklmcfpgdfibnaa.Eng
set_option linter.unusedVariables false
set_option maxHeartbeats 4000000
set_option linter.unusedVariables false
set_option linter.unusedSimpArgs false
attribute [local irreducible] prP gP gE gF AJ ixW ldc ldg ldl stc stg scW mkW apW A6 cl2 BF CM CB
variable {w0:World}
def toO (n:Nd):AE:=⟨n.live,n.gen,n.site,n.holds,n.roots,0,n.field,false⟩
abbrev osN (l:List Nd):List AE:=l.map toO
def Az (os:List AE):Nat→Que:=pick fun i=>if (ob os i).live=true∧w64 ((ob os i).holds+(ob os i).roots)>0 then [((i:Int),(-1:Int))] else []
end Go.Proofs.Ytklmcfpgdfibnaa.P
namespace Go.Proofs.Ytklmcfpgdfibnaa.P
open Go Go.Proofs.Ytklmcfpgdfibnaa Go.Proofs.Ytklmcfpgdfibnaa.Eng
set_option linter.unusedVariables false
theorem pD {os:List AE} {x:Int}:x∈exts os↔ ∃i:Nat,i<os.length∧i<8∧(ob os i).live=true∧w64 ((ob os i).holds+(ob os i).roots)>0∧x=B2 i (ob os i).gen:=by
 unfold exts
 rw [J9]
 constructor
 ·rintro ⟨i,hi,h⟩
  unfold mE at h
  split at h
  ·rename_i hc;exact ⟨i,hi,by omega,hc.2.1,hc.2.2,List.mem_singleton.1 h⟩
  ·cases h
 ·rintro ⟨i,hi,h8,hv,hw,rfl⟩
  refine ⟨i,hi, ?_⟩
  unfold mE
  rw [if_pos ⟨by omega,hv,hw⟩];simp
theorem QF.ne {os:List AE} {but:Int} {s k:Nat} (h:QF os but s k) (hs:(s:Int)≠but):(k:Int)≠but:=by
 cases h with
 | refl=>exact hs
 | step _ hj hb=>rwa [←(B5 hj).2.2.1]
theorem o5.ne {os:List AE} {but:Int} {ids:List Int} {k:Nat} (h:o5 os but ids k):(k:Int)≠but:=by
 obtain ⟨x,_,s,_,hs,hr⟩:=h
 exact hr.ne hs
def xI (id f:Int):Int:=if f=id then -1 else f
structure lM (os os':List AE) (b:Nat) (id:Int):Prop where
 len:os'.length=os.length
 live: ∀i,(ob os' i).live=(ob os i).live
 gen: ∀i,(ob os' i).gen=(ob os i).gen
 field: ∀i,(ob os' i).field=(ob os i).field.map (xI id)
 holds: ∀i,w64 ((ob os' i).holds+(ob os' i).roots)=if i=b then 0 else w64 ((ob os i).holds+(ob os i).roots)
theorem lM.slot {os os':List AE} {b:Nat} {id:Int} (h:lM os os' b id) (v:Int):AA os' v=AA os v:=DP h.len fun i _=>⟨h.live i,h.gen i⟩
theorem lM.kids {os os':List AE} {b:Nat} {id:Int} (h:lM os os' b id) (hs:AA os id=(b:Int)) {k:Nat} {j:Int}:j∈BE os' k↔j∈BE os k∧j≠(b:Int):=by
 rw [FD,FD,h.field]
 constructor
 ·rintro ⟨h0,f,hf,e⟩
  obtain ⟨f',hf',rfl⟩:=List.mem_map.1 hf
  rw [h.slot] at e
  unfold xI at e
  split at e
  ·rw [jA] at e;omega
  ·rename_i hne
   refine ⟨⟨h0,f',hf',e⟩,fun hb=>hne ?_⟩
   exact UU (l:=os) (by omega) (by omega) (by omega)
 ·rintro ⟨⟨h0,f,hf,e⟩,hb⟩
  refine ⟨h0,f,List.mem_map.2 ⟨f,hf, ?_⟩,by rw [h.slot];exact e⟩
  unfold xI
  rw [if_neg]
  rintro rfl
  exact hb (by omega)
theorem lM.ext {os os':List AE} {b:Nat} {id:Int} (h:lM os os' b id) {x:Int}:x∈exts os'↔ ∃i:Nat,i≠b∧i<os.length∧i<8∧(ob os i).live=true∧w64 ((ob os i).holds+(ob os i).roots)>0∧x=B2 i (ob os i).gen:=by
 rw [pD]
 constructor
 ·rintro ⟨i,hi,h8,hv,hw,rfl⟩
  rw [h.holds] at hw
  split at hw
  ·omega
  ·rename_i hne
   exact ⟨i,hne,by rw [←h.len];exact hi,h8,by rw [←h.live];exact hv,hw,by rw [h.gen]⟩
 ·rintro ⟨i,hne,hi,h8,hv,hw,rfl⟩
  exact ⟨i,by rw [h.len];exact hi,h8,by rw [h.live];exact hv,by rw [h.holds,if_neg hne];exact hw,by rw [h.gen]⟩
def yW (q:Que):List Int:=pick (fun i=>if inQ q (i:Int) then [(i:Int)] else []) 8
end Go.Proofs.Ytklmcfpgdfibnaa.P
namespace Go.Proofs.Ytklmcfpgdfibnaa.P
open Go Go.Proofs.Ytklmcfpgdfibnaa Go.Proofs.Ytklmcfpgdfibnaa.Eng
set_option linter.unusedVariables false
inductive cS (os:List AE):Nat→Prop
 | mk {k:Nat}:k<8→(ob os k).live=true→(ob os k).holds+(ob os k).roots=0→(∀j,j<8→(ob os j).live=true→B2 k (ob os k).gen∈(ob os j).field→cS os j)→cS os k
def KG (os0 os:List AE):Prop:= ∀i,i<8→(ob os0 i).live=true→(ob os i).live=false→cS os0 i
def uZ (os:List AE) (i:Nat):Prop:=0<(ob os i).holds+(ob os i).roots∨ ∃j,j<8∧(ob os j).live=true∧B2 i (ob os i).gen∈(ob os j).field
theorem KG.refl (os:List AE):KG os os:=fun i _ h1 h2=>by rw [h1] at h2;cases h2
def N0 (a b:List AE):Prop:= ∀i,i<8→(ob a i).live=(ob b i).live∧(ob a i).gen=(ob b i).gen∧(ob a i).holds=(ob b i).holds∧(ob a i).roots=(ob b i).roots∧(ob a i).field=(ob b i).field
theorem N0.symm {a b:List AE} (h:N0 a b):N0 b a:=fun i hi=>let ⟨h1,h2,h3,h4,h5⟩:=h i hi;⟨h1.symm,h2.symm,h3.symm,h4.symm,h5.symm⟩
theorem N0.dead {a b:List AE} (h:N0 a b) {k:Nat} (hd:cS a k):cS b k:=by
 induction hd with
 | mk k8 kv k0 hj ih=>
   obtain ⟨h1,h2,h3,h4,h5⟩:=h _ k8
   refine .mk k8 (by rw [←h1];exact kv) (by omega) fun j j8 jv jm=> ?_
   obtain ⟨g1,g2,g3,g4,g5⟩:=h j j8
   exact ih j j8 (by rw [g1];exact jv) (by rw [h2,g5];exact jm)
theorem N0.slot {a b:List AE} (h:N0 a b) (ha:a.length=8) (hb:b.length=8) (x:Int):AA a x=AA b x:=DP (by omega) fun i hi=>⟨(h i (by omega)).1,(h i (by omega)).2.1⟩
theorem s9 {l:List Nat} (h:0<l.sum): ∃x∈l,0<x:=by
 induction l with
 | nil=>simp at h
 | cons a l ih=>
   rw [List.sum_cons] at h
   by_cases ha:0<a
   ·exact ⟨a,by simp,ha⟩
   ·obtain ⟨x,hx,h0⟩:=ih (by omega)
    exact ⟨x,by simp [hx],h0⟩
theorem lL {os:List AE} {id:Int} (h:0<CD os id): ∃j,j<os.length∧(ob os j).live=true∧id∈(ob os j).field:=by
 unfold CD at h
 obtain ⟨x,hx,h0⟩:=s9 h
 obtain ⟨o,ho,rfl⟩:=List.mem_map.1 hx
 obtain ⟨j,hj,rfl⟩:=List.getElem_of_mem ho
 rw [DG hj] at h0
 cases hv:(ob os j).live with
 | false=>rw [MH hv] at h0;omega
 | true=>
   rw [HT hv] at h0
   exact ⟨j,hj,hv,List.count_pos_iff.1 h0⟩
theorem HP.held {os:List AE} {ns:Nat} {buf:List Int} (h:HP os ns buf []) {i:Nat} (hi:i<8) (hv:(ob os i).live=true):uZ os i:=by
 obtain ⟨_,_,a,b,c,d,_⟩:=(h.obj i hi).lv hv
 rw [List.count_nil] at c
 by_cases h0:0<(ob os i).holds+(ob os i).roots
 ·exact .inl h0
 ·obtain ⟨j,hj,jv,jm⟩:=lL (os:=os) (id:=B2 i (ob os i).gen) (by omega)
  exact .inr ⟨j,by have:=h.ol;omega,jv,jm⟩
theorem KG.dec {os0 os:List AE} {k:Nat} {v:AE} (h:KG os0 os) (hk:k<os.length) (v1:v.live=true):KG os0 (os.set k v):=fun i hi h0 hv=>by
 rw [DS hk] at hv
 split at hv
 ·rw [v1] at hv;cases hv
 ·exact h i hi h0 hv
theorem KG.free {os0 os:List AE} {freed:List Int} {k:Nat} {v:AE} (R:IN os0 os freed) (h:KG os0 os) (k8:k<8) (kv:(ob os k).live=true) (k0:(ob os k).holds+(ob os k).roots=0) (ke: ∀j,j<8→(ob os j).live=true→B2 k (ob os k).gen∉(ob os j).field):KG os0 (os.set k v):=fun i hi h0 hv=>by
 rw [DS (by have:=R.len;omega)] at hv
 by_cases e:i=k
 ·subst e
  obtain ⟨_,_,s3,s4,_⟩:=R.sm i hi kv
  refine .mk hi h0 (by omega) fun j j8 jv jm=> ?_
  cases hv':(ob os j).live with
  | false=>exact h j j8 jv hv'
  | true=>
    obtain ⟨_,_,_,_,t5⟩:=R.sm j j8 hv'
    rw [←R.gn i hi, ←t5] at jm
    exact absurd jm (ke j j8 hv')
 ·rw [if_neg e] at hv
  exact h i hi h0 hv
theorem tX {ns:Nat} {os0:List AE}: ∀(f:Nat) {os:List AE} {buf todo freed:List Int},HP os ns buf todo→freed.length+lvs os≤8→todo.length+4*lvs os<f→IN os0 os freed→KG os0 os→KG os0 (HN f os buf freed todo).1:=by
 intro f
 induction f with
 | zero=>intro os buf todo freed _ _ h;omega
 | succ f ih=>
   intro os buf todo freed h h8 hf hR hD
   cases todo with
   | nil=>exact hD
   | cons id pd=>
     have hs:=h.pd id (by simp)
     obtain ⟨k,hk⟩: ∃k:Nat,AA os id=(k:Int):=⟨(AA os id).toNat,by omega⟩
     obtain ⟨k8,kv,kid,kg1,kg2,kid8,kc,kc1,kF⟩:=h.at hk
     have hkl:k<os.length:=by have:=h.ol;omega
     simp only [HN,hk,Int.toNat_natCast]
     rw [if_neg (by omega),if_neg (by omega)]
     have ew:w64 ((ob os k).count-1)=(ob os k).count-1:=H4 ⟨by omega,by have:=kF.2;omega⟩
     rw [ew]
     have lset:=O2 hkl kv
     have lvd: ∀v:AE,v.live=true→lvs (os.set k v)=lvs os:=fun v hv=>by
      have:=lset v
      rw [if_pos hv] at this;omega
     simp only [List.length_cons] at hf
     by_cases hc:(ob os k).count-1>0
     ·rw [if_pos hc]
      have hpk:=((h.obj k k8).lv kv).2.2.2.2.2.2
      rw [←kid] at hpk
      by_cases hp:(ob os k).purple=true
      ·rw [if_pos hp]
       exact ih (h.dec hk rfl rfl rfl rfl rfl rfl rfl (by simp only;omega) (fun x _=>Iff.rfl) hpk h.bnd) (by rw [lvd] <;> first | omega | exact kv) (by rw [lvd] <;> first | omega | exact kv) (hR.dec k8 kv kv rfl rfl rfl rfl rfl) (hD.dec hkl kv)
      ·rw [if_neg hp]
       have hni:id∉buf:=fun hm=>hp (hpk.2 hm)
       exact ih (h.dec hk rfl rfl rfl rfl rfl rfl rfl (by simp only;omega) (fun x hx=>by simp [hx]) (by simp) (List.nodup_append.2 ⟨h.bnd,by simp,fun a ha b hb=>by
        have hb:b=id:=by simpa using hb
        subst hb;intro he;exact hni (he ▸ ha)⟩)) (by rw [lvd] <;> first | omega | exact kv) (by rw [lvd] <;> first | omega | exact kv) (hR.dec k8 kv kv rfl rfl rfl rfl rfl) (hD.dec hkl kv)
     ·rw [if_neg hc]
      have hl:=lset (CA (ob os k).gen)
      rw [if_neg (by simp [CA])] at hl
      have hfl:=List.length_filter_le (fun x=>decide (0≤x)) (ob os k).field
      rw [(h.obj k k8).len] at hfl
      obtain ⟨_,_,a,b,_⟩:=(h.obj k k8).lv kv
      have e0:CD os id=0:=by omega
      exact ih (h.free hk (by omega)) (by rw [List.length_append,List.length_singleton];omega) (by rw [List.length_append];omega) (hR.free hk) (hD.free hR k8 kv (by omega) fun j j8 jv=>by rw [←kid];exact P9 e0 (by have:=h.ol;omega) jv)
theorem sV {ns:Nat} {os:List AE} {buf:List Int} {x:Int} (h:HP os ns buf [x]):KG os (EZ os buf [x]).1:=by
 have hol:=h.ol
 have:=W4 hol
 exact tX _ h (by simp only [List.length_nil];omega) (by simp only [List.length_singleton];omega) (IN.refl hol) (KG.refl os)
structure sQ (l:List Int) (i k:Nat) (q:List Int):Prop where
 pm:q.Perm l
 ki:k≤i
 so: ∀a b,a<b→b≤i→b<q.length→a≠k→b≠k→gI q a≤gI q b
 hd: ∀b,k<b→b≤i→b<q.length→gI q k≤gI q b
def upI (i:Nat) (q:List Int):Prop:= ∀a b,a<b→b<i→b<q.length→gI q a≤gI q b
theorem sQ.done {l q:List Int} {i k:Nat} (h:sQ l i k q) (he:k=0∨gI q (k-1)≤gI q k):upI (i+1) q:=fun a b hab hb hl=>by
 by_cases e1:a=k
 ·subst e1;exact h.hd b hab (by omega) hl
 ·by_cases e2:b=k
  ·subst e2
   rcases he with he | he
   ·omega
   ·by_cases e3:a=b-1
    ·rw [e3];exact he
    ·have:=h.so a (b-1) (by omega) (by omega) (by omega) e1 (by omega);omega
  ·exact h.so a b hab (by omega) hl e1 e2
theorem sQ.start {l q:List Int} {i:Nat} (hp:q.Perm l) (hu:upI i q):sQ l i i q:=⟨hp,Nat.le_refl _,fun a b hab hb hl _ hb'=>hu a b hab (by omega) hl,fun b hb hbi _=>by omega⟩
end Go.Proofs.Ytklmcfpgdfibnaa.P
namespace Go.Proofs.Ytklmcfpgdfibnaa.P
open Go Go.Proofs.Ytklmcfpgdfibnaa Go.Proofs.Ytklmcfpgdfibnaa.Eng
set_option linter.unusedVariables false
theorem wY {l:List Nd} {i k:Nat} {v:Nd} (hk:k<l.length):nd (l.set k v) i=if i=k then v else nd l i:=by
 unfold nd
 by_cases h:i=k
 ·subst h
  rw [if_pos rfl,List.getD_eq_getElem?_getD,List.getElem?_set_self hk];rfl
 ·rw [if_neg h,List.getD_eq_getElem?_getD,List.getElem?_set_ne (Ne.symm h),List.getD_eq_getElem?_getD]
def grQ (a:List Nd):Que:=U6 (osN a) (-1) 9 0 (Az (osN a) 8)
set_option maxHeartbeats 4000000
set_option linter.unusedVariables false
set_option linter.unusedSimpArgs false
attribute [local irreducible] prP gP gE gF AJ ixW ldc ldg ldl stc stg scW mkW apW A6 cl2 BF CM CB
variable {w0:World}
end Go.Proofs.Ytklmcfpgdfibnaa.P
namespace Go.Proofs.Ytklmcfpgdfibnaa.P
open Go Go.Proofs.Ytklmcfpgdfibnaa Go.Proofs.Ytklmcfpgdfibnaa.Eng
set_option linter.unusedVariables false
set_option maxHeartbeats 4000000
set_option linter.unusedVariables false
set_option linter.unusedSimpArgs false
attribute [local irreducible] prP gP gE gF AJ ixW ldc ldg ldl stc stg scW mkW apW A6 cl2 BF CM CB
variable {w0:World}
end Go.Proofs.Ytklmcfpgdfibnaa.P
