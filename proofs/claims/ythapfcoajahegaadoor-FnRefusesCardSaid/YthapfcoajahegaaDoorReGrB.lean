/- A part of the proof. -/
import Derived.Test.YthapfcoajahegaaDoorReColA
namespace Go.Proofs.YthapfcoajahegaaDoor.P
open Go Go.Proofs.YthapfcoajahegaaDoor Go.Proofs.YthapfcoajahegaaDoor.Eng
set_option linter.unusedVariables false
set_option maxHeartbeats 4000000
set_option linter.unusedVariables false
set_option linter.unusedSimpArgs false
attribute [local irreducible] prP gP gE gF AY ixW ldc ldg ldl stc stg scW mkW apW A6 cl2 BL C5 BX
variable {w0:World}
theorem pE {x:Hp} (hk:DX x) {v:Int} {k:Nat} (h:AA x.AG v=(k:Int)):k<8∧(ob x.AG k).live=true∧v=CV k (ob x.AG k).gen:=by
 have l:=LY h
 have g:=(hk.hp.obj k l.1).lv l.2
 have e:=aF (os:=x.AG) (x:=v) (by omega)
 rw [h] at e
 refine ⟨l.1,l.2, ?_⟩
 rw [e,II l.1 g.1 (hk.hp.obj k l.1).gen.2]
 unfold nU
 rw [Int.toNat_natCast]
end Go.Proofs.YthapfcoajahegaaDoor.P
namespace Go.Proofs.YthapfcoajahegaaDoor.P
open Go Go.Proofs.YthapfcoajahegaaDoor Go.Proofs.YthapfcoajahegaaDoor.Eng
set_option linter.unusedVariables false
set_option maxHeartbeats 4000000
set_option linter.unusedVariables false
set_option linter.unusedSimpArgs false
attribute [local irreducible] prP gP gE gF AY ixW ldc ldg ldl stc stg scW mkW apW A6 cl2 BL C5 BX
variable {w0:World}
end Go.Proofs.YthapfcoajahegaaDoor.P
namespace Go.Proofs.YthapfcoajahegaaDoor.P
open Go Go.Proofs.YthapfcoajahegaaDoor Go.Proofs.YthapfcoajahegaaDoor.Eng
set_option linter.unusedVariables false
set_option maxHeartbeats 4000000
set_option linter.unusedVariables false
set_option linter.unusedSimpArgs false
attribute [local irreducible] prP gP gE gF AY ixW ldc ldg ldl stc stg scW mkW apW A6 cl2 BL C5 BX
variable {w0:World}
end Go.Proofs.YthapfcoajahegaaDoor.P
namespace Go.Proofs.YthapfcoajahegaaDoor.P
open Go Go.Proofs.YthapfcoajahegaaDoor Go.Proofs.YthapfcoajahegaaDoor.Eng
set_option linter.unusedVariables false
set_option maxHeartbeats 4000000
set_option linter.unusedVariables false
set_option linter.unusedSimpArgs false
attribute [local irreducible] prP gP gE gF AY ixW ldc ldg ldl stc stg scW mkW apW A6 cl2 BL C5 BX
variable {w0:World}
def toO (n:Nd):AD:=⟨n.live,n.gen,n.site,n.holds,n.roots,0,n.field,false⟩
abbrev osN (l:List Nd):List AD:=l.map toO
def vG (os:List AD):Nat→Que:=pick fun i=>if (ob os i).live=true∧w64 ((ob os i).holds+(ob os i).roots)>0 then [((i:Int),(-1:Int))] else []
end Go.Proofs.YthapfcoajahegaaDoor.P
namespace Go.Proofs.YthapfcoajahegaaDoor.P
open Go Go.Proofs.YthapfcoajahegaaDoor Go.Proofs.YthapfcoajahegaaDoor.Eng
set_option linter.unusedVariables false
theorem jQ {os:List AD} {x:Int}:x∈exts os↔ ∃i:Nat,i<os.length∧i<8∧(ob os i).live=true∧w64 ((ob os i).holds+(ob os i).roots)>0∧x=CV i (ob os i).gen:=by
 unfold exts
 rw [R7]
 constructor
 ·rintro ⟨i,hi,h⟩
  unfold nA at h
  split at h
  ·rename_i hc;exact ⟨i,hi,by omega,hc.2.1,hc.2.2,List.mem_singleton.1 h⟩
  ·cases h
 ·rintro ⟨i,hi,h8,hv,hw,rfl⟩
  refine ⟨i,hi, ?_⟩
  unfold nA
  rw [if_pos ⟨by omega,hv,hw⟩];simp
theorem SR.ne {os:List AD} {but:Int} {s k:Nat} (h:SR os but s k) (hs:(s:Int)≠but):(k:Int)≠but:=by
 cases h with
 | refl=>exact hs
 | step _ hj hb=>rwa [←(B2 hj).2.2.1]
theorem qB.ne {os:List AD} {but:Int} {ids:List Int} {k:Nat} (h:qB os but ids k):(k:Int)≠but:=by
 obtain ⟨x,_,s,_,hs,hr⟩:=h
 exact hr.ne hs
def vR (id f:Int):Int:=if f=id then -1 else f
structure pJ (os os':List AD) (b:Nat) (id:Int):Prop where
 len:os'.length=os.length
 live: ∀i,(ob os' i).live=(ob os i).live
 gen: ∀i,(ob os' i).gen=(ob os i).gen
 field: ∀i,(ob os' i).field=(ob os i).field.map (vR id)
 holds: ∀i,w64 ((ob os' i).holds+(ob os' i).roots)=if i=b then 0 else w64 ((ob os i).holds+(ob os i).roots)
theorem pJ.slot {os os':List AD} {b:Nat} {id:Int} (h:pJ os os' b id) (v:Int):AA os' v=AA os v:=GG h.len fun i _=>⟨h.live i,h.gen i⟩
theorem pJ.ext {os os':List AD} {b:Nat} {id:Int} (h:pJ os os' b id) {x:Int}:x∈exts os'↔ ∃i:Nat,i≠b∧i<os.length∧i<8∧(ob os i).live=true∧w64 ((ob os i).holds+(ob os i).roots)>0∧x=CV i (ob os i).gen:=by
 rw [jQ]
 constructor
 ·rintro ⟨i,hi,h8,hv,hw,rfl⟩
  rw [h.holds] at hw
  split at hw
  ·omega
  ·rename_i hne
   exact ⟨i,hne,by rw [←h.len];exact hi,h8,by rw [←h.live];exact hv,hw,by rw [h.gen]⟩
 ·rintro ⟨i,hne,hi,h8,hv,hw,rfl⟩
  exact ⟨i,by rw [h.len];exact hi,h8,by rw [h.live];exact hv,by rw [h.holds,if_neg hne];exact hw,by rw [h.gen]⟩
def uE (q:Que):List Int:=pick (fun i=>if inQ q (i:Int) then [(i:Int)] else []) 8
end Go.Proofs.YthapfcoajahegaaDoor.P
namespace Go.Proofs.YthapfcoajahegaaDoor.P
open Go Go.Proofs.YthapfcoajahegaaDoor Go.Proofs.YthapfcoajahegaaDoor.Eng
set_option linter.unusedVariables false
inductive TC (os:List AD):Nat→Prop
 | mk {k:Nat}:k<8→(ob os k).live=true→(ob os k).holds+(ob os k).roots=0→(∀j,j<8→(ob os j).live=true→CV k (ob os k).gen∈(ob os j).field→TC os j)→TC os k
def LP (os0 os:List AD):Prop:= ∀i,i<8→(ob os0 i).live=true→(ob os i).live=false→TC os0 i
def ZK (os:List AD) (i:Nat):Prop:=0<(ob os i).holds+(ob os i).roots∨ ∃j,j<8∧(ob os j).live=true∧CV i (ob os i).gen∈(ob os j).field
theorem LP.refl (os:List AD):LP os os:=fun i _ h1 h2=>by rw [h1] at h2;cases h2
theorem lH {os0 os:List AD} {freed:List Int} (R:J3 os0 os freed) (D:LP os0 os) (E: ∀i,i<8→(ob os i).live=true→ZK os i) {i:Nat} (hi:i<8):(ob os i).live=true↔(ob os0 i).live=true∧ ¬TC os0 i:=by
 constructor
 ·intro hv
  refine ⟨(R.sm i hi hv).1,fun hd=> ?_⟩
  induction hd with
  | mk k8 kv k0 hj ih=>
    obtain ⟨_,_,s3,s4,s5⟩:=R.sm _ k8 hv
    rcases E _ k8 hv with h | ⟨j,j8,jv,jm⟩
    ·omega
    ·obtain ⟨t1,_,_,_,t5⟩:=R.sm j j8 jv
     rw [R.gn _ k8,t5] at jm
     exact ih j j8 t1 jm j8 jv
 ·rintro ⟨h0,hn⟩
  cases hv:(ob os i).live with
  | true=>rfl
  | false=>exact absurd (D i hi h0 hv) hn
def RX (a b:List AD):Prop:= ∀i,i<8→(ob a i).live=(ob b i).live∧(ob a i).gen=(ob b i).gen∧(ob a i).holds=(ob b i).holds∧(ob a i).roots=(ob b i).roots∧(ob a i).field=(ob b i).field
theorem RX.symm {a b:List AD} (h:RX a b):RX b a:=fun i hi=>let ⟨h1,h2,h3,h4,h5⟩:=h i hi;⟨h1.symm,h2.symm,h3.symm,h4.symm,h5.symm⟩
theorem RX.dead {a b:List AD} (h:RX a b) {k:Nat} (hd:TC a k):TC b k:=by
 induction hd with
 | mk k8 kv k0 hj ih=>
   obtain ⟨h1,h2,h3,h4,h5⟩:=h _ k8
   refine .mk k8 (by rw [←h1];exact kv) (by omega) fun j j8 jv jm=> ?_
   obtain ⟨g1,g2,g3,g4,g5⟩:=h j j8
   exact ih j j8 (by rw [g1];exact jv) (by rw [h2,g5];exact jm)
theorem RX.slot {a b:List AD} (h:RX a b) (ha:a.length=8) (hb:b.length=8) (x:Int):AA a x=AA b x:=GG (by omega) fun i hi=>⟨(h i (by omega)).1,(h i (by omega)).2.1⟩
theorem n5 {l:List Nat} (h:0<l.sum): ∃x∈l,0<x:=by
 induction l with
 | nil=>simp at h
 | cons a l ih=>
   rw [List.sum_cons] at h
   by_cases ha:0<a
   ·exact ⟨a,by simp,ha⟩
   ·obtain ⟨x,hx,h0⟩:=ih (by omega)
    exact ⟨x,by simp [hx],h0⟩
theorem gT {os:List AD} {id:Int} (h:0<B3 os id): ∃j,j<os.length∧(ob os j).live=true∧id∈(ob os j).field:=by
 unfold B3 at h
 obtain ⟨x,hx,h0⟩:=n5 h
 obtain ⟨o,ho,rfl⟩:=List.mem_map.1 hx
 obtain ⟨j,hj,rfl⟩:=List.getElem_of_mem ho
 rw [FH hj] at h0
 cases hv:(ob os j).live with
 | false=>rw [NP hv] at h0;omega
 | true=>
   rw [I9 hv] at h0
   exact ⟨j,hj,hv,List.count_pos_iff.1 h0⟩
theorem HP.held {os:List AD} {ns:Nat} {buf:List Int} (h:HP os ns buf []) {i:Nat} (hi:i<8) (hv:(ob os i).live=true):ZK os i:=by
 obtain ⟨_,_,a,b,c,d,_⟩:=(h.obj i hi).lv hv
 rw [List.count_nil] at c
 by_cases h0:0<(ob os i).holds+(ob os i).roots
 ·exact .inl h0
 ·obtain ⟨j,hj,jv,jm⟩:=gT (os:=os) (id:=CV i (ob os i).gen) (by omega)
  exact .inr ⟨j,by have:=h.ol;omega,jv,jm⟩
theorem LP.dec {os0 os:List AD} {k:Nat} {v:AD} (h:LP os0 os) (hk:k<os.length) (v1:v.live=true):LP os0 (os.set k v):=fun i hi h0 hv=>by
 rw [D9 hk] at hv
 split at hv
 ·rw [v1] at hv;cases hv
 ·exact h i hi h0 hv
theorem LP.free {os0 os:List AD} {freed:List Int} {k:Nat} {v:AD} (R:J3 os0 os freed) (h:LP os0 os) (k8:k<8) (kv:(ob os k).live=true) (k0:(ob os k).holds+(ob os k).roots=0) (ke: ∀j,j<8→(ob os j).live=true→CV k (ob os k).gen∉(ob os j).field):LP os0 (os.set k v):=fun i hi h0 hv=>by
 rw [D9 (by have:=R.len;omega)] at hv
 by_cases e:i=k
 ·subst e
  obtain ⟨_,_,s3,s4,_⟩:=R.sm i hi kv
  refine .mk hi h0 (by omega) fun j j8 jv jm=> ?_
  cases hv':(ob os j).live with
  | false=>exact h j j8 jv hv'
  | true=>
    obtain ⟨_,_,_,_,t5⟩:=R.sm j j8 hv'
    rw [←R.gn i hi, ←t5] at jm
    exact absurd jm (ke j j8 hv')
 ·rw [if_neg e] at hv
  exact h i hi h0 hv
theorem pF {ns:Nat} {os0:List AD}: ∀(f:Nat) {os:List AD} {buf todo freed:List Int},HP os ns buf todo→freed.length+lvs os≤8→todo.length+4*lvs os<f→J3 os0 os freed→LP os0 os→LP os0 (IY f os buf freed todo).1:=by
 intro f
 induction f with
 | zero=>intro os buf todo freed _ _ h;omega
 | succ f ih=>
   intro os buf todo freed h h8 hf hR hD
   cases todo with
   | nil=>exact hD
   | cons id pd=>
     have hs:=h.pd id (by simp)
     obtain ⟨k,hk⟩: ∃k:Nat,AA os id=(k:Int):=⟨(AA os id).toNat,by omega⟩
     obtain ⟨k8,kv,kid,kg1,kg2,kid8,kc,kc1,kF⟩:=h.at hk
     have hkl:k<os.length:=by have:=h.ol;omega
     simp only [IY,hk,Int.toNat_natCast]
     rw [if_neg (by omega),if_neg (by omega)]
     have ew:w64 ((ob os k).count-1)=(ob os k).count-1:=JU ⟨by omega,by have:=kF.2;omega⟩
     rw [ew]
     have lset:=PX hkl kv
     have lvd: ∀v:AD,v.live=true→lvs (os.set k v)=lvs os:=fun v hv=>by
      have:=lset v
      rw [if_pos hv] at this;omega
     simp only [List.length_cons] at hf
     by_cases hc:(ob os k).count-1>0
     ·rw [if_pos hc]
      have hpk:=((h.obj k k8).lv kv).2.2.2.2.2.2
      rw [←kid] at hpk
      by_cases hp:(ob os k).purple=true
      ·rw [if_pos hp]
       exact ih (h.dec hk rfl rfl rfl rfl rfl rfl rfl (by simp only;omega) (fun x _=>Iff.rfl) hpk h.bnd) (by rw [lvd] <;> first | omega | exact kv) (by rw [lvd] <;> first | omega | exact kv) (hR.dec k8 kv kv rfl rfl rfl rfl rfl) (hD.dec hkl kv)
      ·rw [if_neg hp]
       have hni:id∉buf:=fun hm=>hp (hpk.2 hm)
       exact ih (h.dec hk rfl rfl rfl rfl rfl rfl rfl (by simp only;omega) (fun x hx=>by simp [hx]) (by simp) (List.nodup_append.2 ⟨h.bnd,by simp,fun a ha b hb=>by
        have hb:b=id:=by simpa using hb
        subst hb;intro he;exact hni (he ▸ ha)⟩)) (by rw [lvd] <;> first | omega | exact kv) (by rw [lvd] <;> first | omega | exact kv) (hR.dec k8 kv kv rfl rfl rfl rfl rfl) (hD.dec hkl kv)
     ·rw [if_neg hc]
      have hl:=lset (BS (ob os k).gen)
      rw [if_neg (by simp [BS])] at hl
      have hfl:=List.length_filter_le (fun x=>decide (0≤x)) (ob os k).field
      rw [(h.obj k k8).len] at hfl
      obtain ⟨_,_,a,b,_⟩:=(h.obj k k8).lv kv
      have e0:B3 os id=0:=by omega
      exact ih (h.free hk (by omega)) (by rw [List.length_append,List.length_singleton];omega) (by rw [List.length_append];omega) (hR.free hk) (hD.free hR k8 kv (by omega) fun j j8 jv=>by rw [←kid];exact RD e0 (by have:=h.ol;omega) jv)
theorem nW {ns:Nat} {os:List AD} {buf:List Int} {x:Int} (h:HP os ns buf [x]):LP os (H8 os buf [x]).1:=by
 have hol:=h.ol
 have:=VA hol
 exact pF _ h (by simp only [List.length_nil];omega) (by simp only [List.length_singleton];omega) (J3.refl hol) (LP.refl os)
structure mZ (l:List Int) (i k:Nat) (q:List Int):Prop where
 pm:q.Perm l
 ki:k≤i
 so: ∀a b,a<b→b≤i→b<q.length→a≠k→b≠k→gI q a≤gI q b
 hd: ∀b,k<b→b≤i→b<q.length→gI q k≤gI q b
def upI (i:Nat) (q:List Int):Prop:= ∀a b,a<b→b<i→b<q.length→gI q a≤gI q b
theorem mZ.done {l q:List Int} {i k:Nat} (h:mZ l i k q) (he:k=0∨gI q (k-1)≤gI q k):upI (i+1) q:=fun a b hab hb hl=>by
 by_cases e1:a=k
 ·subst e1;exact h.hd b hab (by omega) hl
 ·by_cases e2:b=k
  ·subst e2
   rcases he with he | he
   ·omega
   ·by_cases e3:a=b-1
    ·rw [e3];exact he
    ·have:=h.so a (b-1) (by omega) (by omega) (by omega) e1 (by omega);omega
  ·exact h.so a b hab (by omega) hl e1 e2
theorem mZ.start {l q:List Int} {i:Nat} (hp:q.Perm l) (hu:upI i q):mZ l i i q:=⟨hp,Nat.le_refl _,fun a b hab hb hl _ hb'=>hu a b hab (by omega) hl,fun b hb hbi _=>by omega⟩
end Go.Proofs.YthapfcoajahegaaDoor.P
namespace Go.Proofs.YthapfcoajahegaaDoor.P
open Go Go.Proofs.YthapfcoajahegaaDoor Go.Proofs.YthapfcoajahegaaDoor.Eng
set_option linter.unusedVariables false
theorem sE {l:List Nd} {i k:Nat} {v:Nd} (hk:k<l.length):nd (l.set k v) i=if i=k then v else nd l i:=by
 unfold nd
 by_cases h:i=k
 ·subst h
  rw [if_pos rfl,List.getD_eq_getElem?_getD,List.getElem?_set_self hk];rfl
 ·rw [if_neg h,List.getD_eq_getElem?_getD,List.getElem?_set_ne (Ne.symm h),List.getD_eq_getElem?_getD]
def grQ (a:List Nd):Que:=bX (osN a) (-1) 9 0 (vG (osN a) 8)
set_option maxHeartbeats 4000000
set_option linter.unusedVariables false
set_option linter.unusedSimpArgs false
attribute [local irreducible] prP gP gE gF AY ixW ldc ldg ldl stc stg scW mkW apW A6 cl2 BL C5 BX
variable {w0:World}
end Go.Proofs.YthapfcoajahegaaDoor.P
