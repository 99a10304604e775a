/- A part of the proof. -/
import Derived.Test.YtklmcfpgdfibnaaRiWayA
namespace Go.Proofs.Ytklmcfpgdfibnaa.P
open Go Go.Proofs.Ytklmcfpgdfibnaa Go.Proofs.Ytklmcfpgdfibnaa.Eng
set_option linter.unusedVariables false
set_option maxHeartbeats 4000000
set_option linter.unusedVariables false
set_option linter.unusedSimpArgs false
attribute [local irreducible] prP gP gE gF AW ixW ldc ldg ldl stc stg scW mkW apW AZ cl2 BJ CH B2
variable {w0:World}
theorem KP.snoc {os:List AE} {ids:List Int} {q:Que} {j:Nat} {l:List Nat} (h:KP os ids q j l): ∃p,l=p++[j]:=by
 cases h with
 | one a b c=>exact ⟨[],rfl⟩
 | more h a b c d=>exact ⟨_,rfl⟩
theorem KP.inv {os:List AE} {ids:List Int} {q:Que} {j:Nat} {p:List Nat} (h:KP os ids q j (p++[j])):(p=[]∧pQ q j= -1)∨ ∃i p',p=p'++[i]∧KP os ids q i (p'++[i])∧i<j∧pQ q j=gQ q i:=by
 generalize hl:p++[j]=l at h
 cases h with
 | one a b c=>
   cases p with
   | nil=>exact .inl ⟨rfl,b⟩
   | cons x p=>simp at hl
 | more h a b c d=>
   rename_i i l
   obtain ⟨e,_⟩:=List.append_inj' hl rfl
   subst e
   obtain ⟨p',rfl⟩:=h.snoc
   exact .inr ⟨i,p',rfl,h,a,c⟩
theorem KP.len {os:List AE} {ids:List Int} {q:Que} {j:Nat} {l:List Nat} (h:KP os ids q j l):l.length≤j+1:=by
 induction h with
 | one a b c=>simp
 | more h a b c d ih=>simp;omega
def idO (os:List AE) (s:Int):Int:=B6 s (ob os s.toNat).gen
def nX (q:Que) (F:List Int):Prop:=F.length=q.length∧ ∀j,j<q.length→(gI F j=0∧pQ q j= -1)∨ ∃m,m<j∧gI F j=(m:Int)+1∧pQ q j=gQ q m
theorem pL {l:List Int} {x:Int} {i:Nat}:gI (l++[x]) i=if i<l.length then gI l i else if i=l.length then x else 0:=by
 unfold gI
 split
 ·rename_i h;rw [List.getD_eq_getElem?_getD,List.getElem?_append_left h,List.getD_eq_getElem?_getD]
 ·rename_i h
  split
  ·rename_i h2;subst h2;simp
  ·rw [List.getD_eq_getElem?_getD,List.getElem?_eq_none (by simp;omega)];rfl
theorem nX.snoc {q:Que} {F:List Int} {m:Nat} {s:Int} (h:nX q F) (hm:m<q.length):nX (q++[(s,gQ q m)]) (F++[(m:Int)+1]):=by
 obtain ⟨h1,h2⟩:=h
 refine ⟨by simp [h1],fun j hj=> ?_⟩
 rw [List.length_append,List.length_singleton] at hj
 rw [pL]
 rcases Nat.lt_or_ge j q.length with hl | hl
 ·rw [if_pos (by omega),nS hl]
  rcases h2 j hl with h | ⟨i,a,b,c⟩
  ·exact .inl h
  ·exact .inr ⟨i,a,b,by rw [NO (by omega)];exact c⟩
 ·have:j=q.length:=by omega
  subst this
  rw [if_neg (by omega),if_pos h1.symm,fE]
  exact .inr ⟨m,hm,rfl,by rw [NO hm]⟩
theorem QB.start (os:List AE) (ids:List Int):QB os (-1) (FB os (-1) ids):=by
 have:=VS (os:=os) (b:= -1) (ids:=ids) ids.length (Nat.le_refl _)
 rwa [List.take_length,YS] at this
end Go.Proofs.Ytklmcfpgdfibnaa.P
namespace Go.Proofs.Ytklmcfpgdfibnaa.P
open Go Go.Proofs.Ytklmcfpgdfibnaa Go.Proofs.Ytklmcfpgdfibnaa.Eng
set_option linter.unusedVariables false
set_option maxHeartbeats 4000000
set_option linter.unusedVariables false
set_option linter.unusedSimpArgs false
attribute [local irreducible] prP gP gE gF AW ixW ldc ldg ldl stc stg scW mkW apW AZ cl2 BJ CH B2
variable {w0:World}
end Go.Proofs.Ytklmcfpgdfibnaa.P
namespace Go.Proofs.Ytklmcfpgdfibnaa.P
open Go Go.Proofs.Ytklmcfpgdfibnaa Go.Proofs.Ytklmcfpgdfibnaa.Eng
set_option linter.unusedVariables false
set_option maxHeartbeats 4000000
set_option linter.unusedVariables false
set_option linter.unusedSimpArgs false
attribute [local irreducible] prP gP gE gF AW ixW ldc ldg ldl stc stg scW mkW apW AZ cl2 BJ CH B2
variable {w0:World}
theorem jA {α:Type} [DecidableEq α] {a b:List α} (hn:a.Nodup) (hs: ∀x∈a,x∈b):a.length≤b.length:=by
 induction a generalizing b with
 | nil=>simp
 | cons x a ih=>
   have h1:=List.nodup_cons.1 hn
   have hx:=hs x (by simp)
   have:=ih (b:=b.erase x) h1.2 fun y hy=>(List.mem_erase_of_ne (fun he=>by subst he;exact h1.1 hy)).2 (hs y (by simp [hy]))
   rw [List.length_erase_of_mem hx] at this
   have:=List.length_pos_of_mem hx
   simp only [List.length_cons]
   omega
structure zG (os:List AE) (id:Int) (w:List Int):Prop where
 pos:0<w.length
 le:w.length≤8
 last:gI w (w.length-1)=id
 first:gI w 0∈exts os
 next: ∀i,i+1<w.length→ ∃k:Nat,k<8∧AA os (gI w i)=(k:Int)∧gI w (i+1)∈(ob os k).field
 nd: ∀i,i<w.length→gI w i∉w.take i
 live:w.length≤(B1 os).length
 sm: ∀v∈w,8≤v∧v≤7999
end Go.Proofs.Ytklmcfpgdfibnaa.P
namespace Go.Proofs.Ytklmcfpgdfibnaa.P
open Go Go.Proofs.Ytklmcfpgdfibnaa Go.Proofs.Ytklmcfpgdfibnaa.Eng
set_option linter.unusedVariables false
inductive SM (os:List AE):Nat→Prop
 | mk {k:Nat}:k<8→(ob os k).live=true→(ob os k).holds+(ob os k).roots=0→(∀j,j<8→(ob os j).live=true→B6 k (ob os k).gen∈(ob os j).field→SM os j)→SM os k
def IS (os0 os:List AE):Prop:= ∀i,i<8→(ob os0 i).live=true→(ob os i).live=false→SM os0 i
def Q9 (os:List AE) (i:Nat):Prop:=0<(ob os i).holds+(ob os i).roots∨ ∃j,j<8∧(ob os j).live=true∧B6 i (ob os i).gen∈(ob os j).field
theorem IS.refl (os:List AE):IS os os:=fun i _ h1 h2=>by rw [h1] at h2;cases h2
theorem UY {os0 os:List AE} {freed:List Int} (R:HB os0 os freed) (D:IS os0 os) (E: ∀i,i<8→(ob os i).live=true→Q9 os i) {i:Nat} (hi:i<8):(ob os i).live=true↔(ob os0 i).live=true∧ ¬SM os0 i:=by
 constructor
 ·intro hv
  refine ⟨(R.sm i hi hv).1,fun hd=> ?_⟩
  induction hd with
  | mk k8 kv k0 hj ih=>
    obtain ⟨_,_,s3,s4,s5⟩:=R.sm _ k8 hv
    rcases E _ k8 hv with h | ⟨j,j8,jv,jm⟩
    ·omega
    ·obtain ⟨t1,_,_,_,t5⟩:=R.sm j j8 jv
     rw [R.gn _ k8,t5] at jm
     exact ih j j8 t1 jm j8 jv
 ·rintro ⟨h0,hn⟩
  cases hv:(ob os i).live with
  | true=>rfl
  | false=>exact absurd (D i hi h0 hv) hn
def KY (a b:List AE):Prop:= ∀i,i<8→(ob a i).live=(ob b i).live∧(ob a i).gen=(ob b i).gen∧(ob a i).holds=(ob b i).holds∧(ob a i).roots=(ob b i).roots∧(ob a i).field=(ob b i).field
theorem KY.symm {a b:List AE} (h:KY a b):KY b a:=fun i hi=>let ⟨h1,h2,h3,h4,h5⟩:=h i hi;⟨h1.symm,h2.symm,h3.symm,h4.symm,h5.symm⟩
theorem KY.dead {a b:List AE} (h:KY a b) {k:Nat} (hd:SM a k):SM b k:=by
 induction hd with
 | mk k8 kv k0 hj ih=>
   obtain ⟨h1,h2,h3,h4,h5⟩:=h _ k8
   refine .mk k8 (by rw [←h1];exact kv) (by omega) fun j j8 jv jm=> ?_
   obtain ⟨g1,g2,g3,g4,g5⟩:=h j j8
   exact ih j j8 (by rw [g1];exact jv) (by rw [h2,g5];exact jm)
theorem KY.slot {a b:List AE} (h:KY a b) (ha:a.length=8) (hb:b.length=8) (x:Int):AA a x=AA b x:=D5 (by omega) fun i hi=>⟨(h i (by omega)).1,(h i (by omega)).2.1⟩
theorem jK {a b a' b':List AE} {fa fb:List Int} (h:KY a b) (Ra:HB a a' fa) (Rb:HB b b' fb) (Da:IS a a') (Db:IS b b') (Ea: ∀i,i<8→(ob a' i).live=true→Q9 a' i) (Eb: ∀i,i<8→(ob b' i).live=true→Q9 b' i):
  (∀i,i<8→(ob a' i).live=(ob b' i).live∧(ob a' i).gen=(ob b' i).gen)∧fa.Perm fb:=by
 have hl: ∀i,i<8→(ob a' i).live=(ob b' i).live∧(ob a' i).gen=(ob b' i).gen:=fun i hi=>by
  obtain ⟨h1,h2,_⟩:=h i hi
  refine ⟨?_,by rw [Ra.gn i hi,Rb.gn i hi,h2]⟩
  rw [Bool.eq_iff_iff,UY Ra Da Ea hi,UY Rb Db Eb hi,h1]
  exact ⟨fun ⟨x,y⟩=>⟨x,fun hd=>y (h.symm.dead hd)⟩,fun ⟨x,y⟩=>⟨x,fun hd=>y (h.dead hd)⟩⟩
 refine ⟨hl,(List.perm_ext_iff_of_nodup Ra.nd Rb.nd).2 fun x=> ?_⟩
 rw [Ra.fr,Rb.fr,h.slot Ra.l0 Rb.l0,D5 (a:=a') (b:=b') (by rw [Ra.len,Rb.len]) fun i hi=>hl i (by have:=Ra.len;omega)]
theorem pP {l:List Nat} (h:0<l.sum): ∃x∈l,0<x:=by
 induction l with
 | nil=>simp at h
 | cons a l ih=>
   rw [List.sum_cons] at h
   by_cases ha:0<a
   ·exact ⟨a,by simp,ha⟩
   ·obtain ⟨x,hx,h0⟩:=ih (by omega)
    exact ⟨x,by simp [hx],h0⟩
theorem j0 {os:List AE} {id:Int} (h:0<CD os id): ∃j,j<os.length∧(ob os j).live=true∧id∈(ob os j).field:=by
 unfold CD at h
 obtain ⟨x,hx,h0⟩:=pP h
 obtain ⟨o,ho,rfl⟩:=List.mem_map.1 hx
 obtain ⟨j,hj,rfl⟩:=List.getElem_of_mem ho
 rw [DQ hj] at h0
 cases hv:(ob os j).live with
 | false=>rw [L9 hv] at h0;omega
 | true=>
   rw [HN hv] at h0
   exact ⟨j,hj,hv,List.count_pos_iff.1 h0⟩
theorem HP.held {os:List AE} {ns:Nat} {buf:List Int} (h:HP os ns buf []) {i:Nat} (hi:i<8) (hv:(ob os i).live=true):Q9 os i:=by
 obtain ⟨_,_,a,b,c,d,_⟩:=(h.obj i hi).lv hv
 rw [List.count_nil] at c
 by_cases h0:0<(ob os i).holds+(ob os i).roots
 ·exact .inl h0
 ·obtain ⟨j,hj,jv,jm⟩:=j0 (os:=os) (id:=B6 i (ob os i).gen) (by omega)
  exact .inr ⟨j,by have:=h.ol;omega,jv,jm⟩
theorem IS.dec {os0 os:List AE} {k:Nat} {v:AE} (h:IS os0 os) (hk:k<os.length) (v1:v.live=true):IS os0 (os.set k v):=fun i hi h0 hv=>by
 rw [DP hk] at hv
 split at hv
 ·rw [v1] at hv;cases hv
 ·exact h i hi h0 hv
theorem IS.free {os0 os:List AE} {freed:List Int} {k:Nat} {v:AE} (R:HB os0 os freed) (h:IS os0 os) (k8:k<8) (kv:(ob os k).live=true) (k0:(ob os k).holds+(ob os k).roots=0) (ke: ∀j,j<8→(ob os j).live=true→B6 k (ob os k).gen∉(ob os j).field):IS os0 (os.set k v):=fun i hi h0 hv=>by
 rw [DP (by have:=R.len;omega)] at hv
 by_cases e:i=k
 ·subst e
  obtain ⟨_,_,s3,s4,_⟩:=R.sm i hi kv
  refine .mk hi h0 (by omega) fun j j8 jv jm=> ?_
  cases hv':(ob os j).live with
  | false=>exact h j j8 jv hv'
  | true=>
    obtain ⟨_,_,_,_,t5⟩:=R.sm j j8 hv'
    rw [←R.gn i hi, ←t5] at jm
    exact absurd jm (ke j j8 hv')
 ·rw [if_neg e] at hv
  exact h i hi h0 hv
theorem rF {ns:Nat} {os0:List AE}: ∀(f:Nat) {os:List AE} {buf todo freed:List Int},HP os ns buf todo→freed.length+lvs os≤8→todo.length+4*lvs os<f→HB os0 os freed→IS os0 os→IS os0 (HC f os buf freed todo).1:=by
 intro f
 induction f with
 | zero=>intro os buf todo freed _ _ h;omega
 | succ f ih=>
   intro os buf todo freed h h8 hf hR hD
   cases todo with
   | nil=>exact hD
   | cons id pd=>
     have hs:=h.pd id (by simp)
     obtain ⟨k,hk⟩: ∃k:Nat,AA os id=(k:Int):=⟨(AA os id).toNat,by omega⟩
     obtain ⟨k8,kv,kid,kg1,kg2,kid8,kc,kc1,kF⟩:=h.at hk
     have hkl:k<os.length:=by have:=h.ol;omega
     simp only [HC,hk,Int.toNat_natCast]
     rw [if_neg (by omega),if_neg (by omega)]
     have ew:w64 ((ob os k).count-1)=(ob os k).count-1:=G9 ⟨by omega,by have:=kF.2;omega⟩
     rw [ew]
     have lset:=OW hkl kv
     have lvd: ∀v:AE,v.live=true→lvs (os.set k v)=lvs os:=fun v hv=>by
      have:=lset v
      rw [if_pos hv] at this;omega
     simp only [List.length_cons] at hf
     by_cases hc:(ob os k).count-1>0
     ·rw [if_pos hc]
      have hpk:=((h.obj k k8).lv kv).2.2.2.2.2.2
      rw [←kid] at hpk
      by_cases hp:(ob os k).purple=true
      ·rw [if_pos hp]
       exact ih (h.dec hk rfl rfl rfl rfl rfl rfl rfl (by simp only;omega) (fun x _=>Iff.rfl) hpk h.bnd) (by rw [lvd] <;> first | omega | exact kv) (by rw [lvd] <;> first | omega | exact kv) (hR.dec k8 kv kv rfl rfl rfl rfl rfl) (hD.dec hkl kv)
      ·rw [if_neg hp]
       have hni:id∉buf:=fun hm=>hp (hpk.2 hm)
       exact ih (h.dec hk rfl rfl rfl rfl rfl rfl rfl (by simp only;omega) (fun x hx=>by simp [hx]) (by simp) (List.nodup_append.2 ⟨h.bnd,by simp,fun a ha b hb=>by
        have hb:b=id:=by simpa using hb
        subst hb;intro he;exact hni (he ▸ ha)⟩)) (by rw [lvd] <;> first | omega | exact kv) (by rw [lvd] <;> first | omega | exact kv) (hR.dec k8 kv kv rfl rfl rfl rfl rfl) (hD.dec hkl kv)
     ·rw [if_neg hc]
      have hl:=lset (B7 (ob os k).gen)
      rw [if_neg (by simp [B7])] at hl
      have hfl:=List.length_filter_le (fun x=>decide (0≤x)) (ob os k).field
      rw [(h.obj k k8).len] at hfl
      obtain ⟨_,_,a,b,_⟩:=(h.obj k k8).lv kv
      have e0:CD os id=0:=by omega
      exact ih (h.free hk (by omega)) (by rw [List.length_append,List.length_singleton];omega) (by rw [List.length_append];omega) (hR.free hk) (hD.free hR k8 kv (by omega) fun j j8 jv=>by rw [←kid];exact QC e0 (by have:=h.ol;omega) jv)
theorem pU {ns:Nat} {os:List AE} {buf:List Int} {x:Int} (h:HP os ns buf [x]):IS os (GA os buf [x]).1:=by
 have hol:=h.ol
 have:=UP hol
 exact rF _ h (by simp only [List.length_nil];omega) (by simp only [List.length_singleton];omega) (HB.refl hol) (IS.refl os)
structure rB (l:List Int) (i k:Nat) (q:List Int):Prop where
 pm:q.Perm l
 ki:k≤i
 so: ∀a b,a<b→b≤i→b<q.length→a≠k→b≠k→gI q a≤gI q b
 hd: ∀b,k<b→b≤i→b<q.length→gI q k≤gI q b
def upI (i:Nat) (q:List Int):Prop:= ∀a b,a<b→b<i→b<q.length→gI q a≤gI q b
theorem rB.done {l q:List Int} {i k:Nat} (h:rB l i k q) (he:k=0∨gI q (k-1)≤gI q k):upI (i+1) q:=fun a b hab hb hl=>by
 by_cases e1:a=k
 ·subst e1;exact h.hd b hab (by omega) hl
 ·by_cases e2:b=k
  ·subst e2
   rcases he with he | he
   ·omega
   ·by_cases e3:a=b-1
    ·rw [e3];exact he
    ·have:=h.so a (b-1) (by omega) (by omega) (by omega) e1 (by omega);omega
  ·exact h.so a b hab (by omega) hl e1 e2
theorem rB.start {l q:List Int} {i:Nat} (hp:q.Perm l) (hu:upI i q):rB l i i q:=⟨hp,Nat.le_refl _,fun a b hab hb hl _ hb'=>hu a b hab (by omega) hl,fun b hb hbi _=>by omega⟩
end Go.Proofs.Ytklmcfpgdfibnaa.P
