/- A part of the proof. -/
import Derived.Test.YthapfcoajahegaaDoorReBfsA
import Derived.Test.YthapfcoajahegaaDoorReHpFb
namespace Go.Proofs.YthapfcoajahegaaDoor.P
open Go Go.Proofs.YthapfcoajahegaaDoor Go.Proofs.YthapfcoajahegaaDoor.Eng
set_option linter.unusedVariables false
set_option maxHeartbeats 4000000
set_option linter.unusedVariables false
set_option linter.unusedSimpArgs false
attribute [local irreducible] prP gP gE gF AY ixW ldc ldg ldl stc stg scW mkW apW A6 cl2 BL C5 BX
variable {w0:World}
def nU (os:List AD) (s:Int):Int:=s+8*(ob os s.toNat).gen
theorem aF {os:List AD} {x:Int} (h:0≤AA os x):x=nU os (AA os x):=by
 have hb:=A7 h
 unfold nU;omega
structure QB (os:List AD) (b:Int) (q:Que):Prop where
 qi:QI os (AA os b) q
 rid: ∀s,inQ q s→AA os (nU os s)=s
theorem QB.nil (os:List AD) (b:Int):QB os b []:=⟨QI.nil _ _,fun s h=>by simp [inQ] at h⟩
theorem QB.add {os:List AD} {b:Int} {q:Que} {p:Int} (h:QB os b q) (x:Int):QB os b (PI (AA os b) q p (AA os x)):=by
 refine ⟨h.qi.add fun h0=>dK h0,fun s hs=> ?_⟩
 rcases eG hs with hs | ⟨rfl,h0,_⟩
 ·exact h.rid s hs
 ·rw [←aF h0]
end Go.Proofs.YthapfcoajahegaaDoor.P
namespace Go.Proofs.YthapfcoajahegaaDoor.P
open Go Go.Proofs.YthapfcoajahegaaDoor Go.Proofs.YthapfcoajahegaaDoor.Eng
set_option linter.unusedVariables false
set_option maxHeartbeats 4000000
set_option linter.unusedVariables false
set_option linter.unusedSimpArgs false
attribute [local irreducible] prP gP gE gF AY ixW ldc ldg ldl stc stg scW mkW apW A6 cl2 BL C5 BX
variable {w0:World}
theorem R7 {α:Type} {f:Nat→List α} {x:α}: ∀{n:Nat},x∈pick f n↔ ∃i,i<n∧x∈f i
 | 0=>by simp [pick]
 | n+1=>by
   rw [pick,List.mem_append,R7]
   constructor
   ·rintro (⟨i,h1,h2⟩ | h)
    ·exact ⟨i,by omega,h2⟩
    ·exact ⟨n,by omega,h⟩
   ·rintro ⟨i,h1,h2⟩
    rcases Nat.lt_or_ge i n with h | h
    ·exact .inl ⟨i,h,h2⟩
    ·have:i=n:=by omega
     subst this;exact .inr h2
theorem hZ {os:List AD} {k:Nat} (hol:os.length=8) (k8:k<8) (kv:(ob os k).live=true):CV k (ob os k).gen∈aA os:=
 R7.2 ⟨k,by omega,by unfold lE;rw [if_pos ⟨by omega,kv⟩];simp⟩
theorem gH {os:List AD} (h: ∀k,k<8→(ob os k).live=false):aA os=[]:=by
 refine List.eq_nil_iff_forall_not_mem.2 fun x hx=> ?_
 obtain ⟨i,_,hi⟩:=R7.1 hx
 unfold lE at hi
 split at hi
 ·rename_i hh
  have:=h i (by omega)
  rw [hh.2] at this;cases this
 ·cases hi
structure Sub (a b:List AD):Prop where
 la:a.length=8
 lb:b.length=8
 lv: ∀i,i<8→(ob b i).live=true→(ob a i).live=true∧(ob b i).gen=(ob a i).gen
theorem Sub.refl {a:List AD} (h:a.length=8):Sub a a:=⟨h,h,fun _ _ h=>⟨h,rfl⟩⟩
theorem Sub.trans {a b c:List AD} (h:Sub a b) (h':Sub b c):Sub a c:=⟨h.la,h'.lb,fun i hi hv=>by
 obtain ⟨x,y⟩:=h'.lv i hi hv
 obtain ⟨u,v⟩:=h.lv i hi x
 exact ⟨u,by rw [y,v]⟩⟩
theorem Sub.slot {a b:List AD} (h:Sub a b) {x:Int} {k:Nat} (hs:AA b x=(k:Int)):AA a x=(k:Int):=by
 have hb:=A7 (l:=b) (id:=x) (by omega)
 have ek:(AA b x).toNat=k:=by omega
 rw [ek] at hb
 obtain ⟨_,b1,b2,k8,kv,kg⟩:=hb
 obtain ⟨u,v⟩:=h.lv k k8 kv
 have e:(x % 8).toNat=k:=by omega
 rw [I1 b1 h.la (by have:=h.la;omega) (by rw [e];exact u) (by rw [e, ←v];exact kg)]
 omega
abbrev hr_ (os:List AD) (k:Nat):Int:=(ob os k).holds+(ob os k).roots
theorem DX.hr0 {x:Hp} (hk:DX x) {id:Int} {k:Nat} (hs:AA x.AG id=(k:Int)):(0≤(ob x.AG k).holds∧(ob x.AG k).holds≤20)∧(0≤(ob x.AG k).roots∧(ob x.AG k).roots≤20):=(hk.hp.QY hs).2.2.2
theorem qR {os:List AD} {buf:List Int} {ns:Nat} {id:Int} {k:Nat} (h:HP os ns buf []) (hk:AA os id=(k:Int)) {v:AD} (ev:v={ob os k with holds:=v.holds,roots:=v.roots}) (v4:0≤v.holds∧v.holds≤20) (v5:0≤v.roots∧v.roots≤20) (hs:v.holds+v.roots+1=hr_ os k):
  J3 (os.set k v) (H8 (os.set k v) buf [id]).1 (H8 (os.set k v) buf [id]).2.2:=by
 have hls:0≤AA os id:=by omega
 obtain ⟨c1,c2,c3,_,_⟩:=h.QY hk
 have e1:v.count=(ob os k).count:=by rw [ev]
 have h1:=h.upd (pd':=[id]) (v:=v) hk (by rw [ev]) (by rw [ev]) (by rw [ev]) v4 v5 (by rw [ev]) (by rw [ev]) (by simp only [List.count_singleton_self];simp only [hr_] at hs;omega) (by omega) (fun x hx=>by simp [Ne.symm hx]) (by simpa using hls)
 exact X0 h1
theorem pL {x:Hp} (hk:DX x) {id kd:Int} {k:Nat} {s:ByteArray} (hs:AA x.AG id=(k:Int)) (h0:hr_ x.AG k≠0) (hkd:(kd=6∧(ob x.AG k).holds=0)∨(kd=3∧(ob x.AG k).holds≠0)):
  (BO x ⟨kd,id,0,0,s⟩).2.code=0∧Sub x.AG (BO x ⟨kd,id,0,0,s⟩).1.AG∧ ∀i,i<8→(ob (BO x ⟨kd,id,0,0,s⟩).1.AG i).live=true→hr_ (BO x ⟨kd,id,0,0,s⟩).1.AG i=hr_ x.AG i-(if i=k then 1 else 0):=by
 have hp:=hk.hp
 have hol:=hk.ol
 obtain ⟨b1,b2⟩:=hk.hr0 hs
 have k8:k<8:=(hp.me hs).1
 have hkl:k<x.AG.length:=by omega
 have e:AA x.AG id=((k:Nat):Int):=hs
 have fin: ∀v:AD,v={ob x.AG k with holds:=v.holds,roots:=v.roots}→(0≤v.holds∧v.holds≤20)→(0≤v.roots∧v.roots≤20)→v.holds+v.roots+1=hr_ x.AG k→
   Sub x.AG (H8 (x.AG.set k v) x.buffer [id]).1∧ ∀i,i<8→(ob (H8 (x.AG.set k v) x.buffer [id]).1 i).live=true→hr_ (H8 (x.AG.set k v) x.buffer [id]).1 i=hr_ x.AG i-(if i=k then 1 else 0):=fun v ev v4 v5 hsum=>by
  have R:=qR hp hs ev v4 v5 hsum
  have eo: ∀i,ob (x.AG.set k v) i=if i=k then v else ob x.AG i:=fun i=>D9 hkl
  refine ⟨⟨hol,R.len,fun i hi hv=> ?_⟩,fun i hi hv=> ?_⟩
  ·obtain ⟨a,_⟩:=R.sm i hi hv
   have g:=R.gn i hi
   rw [eo] at a g
   split at a
   ·rename_i he;subst he
    rw [if_pos rfl] at g
    have vl:v.live=(ob x.AG i).live:=by rw [ev]
    have vg:v.gen=(ob x.AG i).gen:=by rw [ev]
    exact ⟨by rw [←vl];exact a,by rw [g,vg]⟩
   ·rename_i he
    rw [if_neg he] at g
    exact ⟨a,g⟩
  ·obtain ⟨_,_,a,b,_⟩:=R.sm i hi hv
   simp only [hr_]
   rw [a,b,eo]
   split
   ·rename_i he;subst he;simp only [hr_] at hsum;omega
   ·omega
 rcases hkd with ⟨rfl,hz⟩ | ⟨rfl,hz⟩
 ·have es:BO x ⟨6,id,0,0,s⟩=(⟨(EU x.AG x.buffer 6 id).1,x.CY,(EU x.AG x.buffer 6 id).2.1,x.sites⟩,(EU x.AG x.buffer 6 id).2.2):=by simp [BO]
  have hr:(ob x.AG k).roots≠0:=by simp only [hr_] at h0;omega
  have eh:EU x.AG x.buffer 6 id=OS (H8 (x.AG.set k {ob x.AG k with roots:=(ob x.AG k).roots-1}) x.buffer [id]):=by
   unfold EU
   rw [e,Int.toNat_natCast,if_neg (by omega),if_neg (by decide),if_neg (by decide),if_neg (by decide),if_neg hr]
  rw [es,eh]
  exact ⟨rfl,fin _ rfl (by simp only;omega) (by simp only;omega) (by simp only [hr_];omega)⟩
 ·have es:BO x ⟨3,id,0,0,s⟩=(⟨(EU x.AG x.buffer 3 id).1,x.CY,(EU x.AG x.buffer 3 id).2.1,x.sites⟩,(EU x.AG x.buffer 3 id).2.2):=by simp [BO]
  have eh:EU x.AG x.buffer 3 id=OS (H8 (x.AG.set k {ob x.AG k with holds:=(ob x.AG k).holds-1}) x.buffer [id]):=by
   unfold EU
   rw [e,Int.toNat_natCast,if_neg (by omega),if_neg (by decide),if_neg (by decide),if_pos rfl,if_neg hz]
  rw [es,eh]
  exact ⟨rfl,fin _ rfl (by simp only;omega) (by simp only;omega) (by simp only [hr_];omega)⟩
theorem iD (x:Hp) (s:ByteArray):BO x ⟨10,0,0,0,s⟩=(⟨(JM x.AG x.buffer).1,x.CY,[],x.sites⟩,⟨0,0,(JM x.AG x.buffer).2⟩):=by simp [BO]
structure mI (h0:Hp) (i:Nat) (x:Hp):Prop where
 ok:DX x
 gd:Gd x.AG x.buffer
 sub:Sub h0.AG x.AG
 dn: ∀j,j<i→ ∀k:Nat,AA x.AG (gI (aA h0.AG) j)=(k:Int)→hr_ x.AG k=0
theorem mI.drop {h0 x:Hp} {i:Nat} (h:mI h0 i x) {id kd:Int} {k:Nat} {s:ByteArray} (hs:AA x.AG id=(k:Int)) (hz:hr_ x.AG k≠0) (hkd:(kd=6∧(ob x.AG k).holds=0)∨(kd=3∧(ob x.AG k).holds≠0)):
  (BO x ⟨kd,id,0,0,s⟩).2.code=0∧mI h0 i (BO x ⟨kd,id,0,0,s⟩).1∧ ∀v:Int, ∀m:Nat,AA (BO x ⟨kd,id,0,0,s⟩).1.AG v=(m:Int)→AA x.AG v=(m:Int)∧hr_ (BO x ⟨kd,id,0,0,s⟩).1.AG m=hr_ x.AG m-(if m=k then 1 else 0):=by
 obtain ⟨c,S,H⟩:=pL (s:=s) h.ok hs hz hkd
 have back: ∀v:Int, ∀m:Nat,AA (BO x ⟨kd,id,0,0,s⟩).1.AG v=(m:Int)→AA x.AG v=(m:Int)∧hr_ (BO x ⟨kd,id,0,0,s⟩).1.AG m=hr_ x.AG m-(if m=k then 1 else 0):=fun v m hm=>by
  have hl:=LY hm
  exact ⟨S.slot hm,H m hl.1 hl.2⟩
 refine ⟨c,⟨h.ok.step,h.ok.gd h.gd,h.sub.trans S,fun j hj m hm=> ?_⟩,back⟩
 obtain ⟨a,b⟩:=back _ m hm
 have z:=h.dn j hj m a
 have p:=h.ok.step.hr0 hm
 simp only [hr_] at b z p ⊢
 split at b <;> omega
theorem mI.fin {h0 x:Hp} (h:mI h0 (aA h0.AG).length x) (s:ByteArray):aA (BO x ⟨10,0,0,0,s⟩).1.AG=[]:=by
 rw [iD]
 have hp:=h.ok.hp
 have R:=iX hp h.gd
 refine gH fun k k8=> ?_
 cases hv:(ob (JM x.AG x.buffer).1 k).live with
 | false=>rfl
 | true=>
   exfalso
   obtain ⟨e,he,_⟩:=(R.lv k k8).1 hv
   obtain ⟨u,v⟩:=h.sub.lv e he.lt he.lv
   have hm:=hZ h.sub.la he.lt u
   rw [←v] at hm
   obtain ⟨j,hj,ej⟩:=List.getElem_of_mem hm
   rw [G3 hj] at ej
   have hoe:=(hp.obj e he.lt)
   have sl:=I3 h.ok.ol he.lt he.lv (hoe.lv he.lv).1 hoe.gen.2
   rw [←ej] at sl
   have z:=h.dn j hj e sl
   have p:=he.pos
   simp only [hr_] at z;omega
end Go.Proofs.YthapfcoajahegaaDoor.P
namespace Go.Proofs.YthapfcoajahegaaDoor.P
open Go Go.Proofs.YthapfcoajahegaaDoor Go.Proofs.YthapfcoajahegaaDoor.Eng
set_option linter.unusedVariables false
set_option maxHeartbeats 4000000
set_option linter.unusedVariables false
set_option linter.unusedSimpArgs false
attribute [local irreducible] prP gP gE gF AY ixW ldc ldg ldl stc stg scW mkW apW A6 cl2 BL C5 BX
variable {w0:World}
end Go.Proofs.YthapfcoajahegaaDoor.P
namespace Go.Proofs.YthapfcoajahegaaDoor.P
open Go Go.Proofs.YthapfcoajahegaaDoor Go.Proofs.YthapfcoajahegaaDoor.Eng
set_option linter.unusedVariables false
set_option maxHeartbeats 4000000
set_option linter.unusedVariables false
set_option linter.unusedSimpArgs false
attribute [local irreducible] prP gP gE gF AY ixW ldc ldg ldl stc stg scW mkW apW A6 cl2 BL C5 BX
variable {w0:World}
end Go.Proofs.YthapfcoajahegaaDoor.P
namespace Go.Proofs.YthapfcoajahegaaDoor.P
open Go Go.Proofs.YthapfcoajahegaaDoor Go.Proofs.YthapfcoajahegaaDoor.Eng
set_option linter.unusedVariables false
set_option maxHeartbeats 4000000
set_option linter.unusedVariables false
set_option linter.unusedSimpArgs false
attribute [local irreducible] prP gP gE gF AY ixW ldc ldg ldl stc stg scW mkW apW A6 cl2 BL C5 BX
variable {w0:World}
end Go.Proofs.YthapfcoajahegaaDoor.P
namespace Go.Proofs.YthapfcoajahegaaDoor.P
open Go Go.Proofs.YthapfcoajahegaaDoor Go.Proofs.YthapfcoajahegaaDoor.Eng
set_option linter.unusedVariables false
set_option maxHeartbeats 4000000
set_option linter.unusedVariables false
set_option linter.unusedSimpArgs false
attribute [local irreducible] prP gP gE gF AY ixW ldc ldg ldl stc stg scW mkW apW A6 cl2 BL C5 BX
variable {w0:World}
end Go.Proofs.YthapfcoajahegaaDoor.P
namespace Go.Proofs.YthapfcoajahegaaDoor.P
open Go Go.Proofs.YthapfcoajahegaaDoor Go.Proofs.YthapfcoajahegaaDoor.Eng
set_option linter.unusedVariables false
set_option maxHeartbeats 4000000
set_option linter.unusedVariables false
set_option linter.unusedSimpArgs false
attribute [local irreducible] prP gP gE gF AY ixW ldc ldg ldl stc stg scW mkW apW A6 cl2 BL C5 BX
variable {w0:World}
end Go.Proofs.YthapfcoajahegaaDoor.P
