/- A part of the proof. -/
import Derived.Test.YtklmcfpgdfibnaaReBfsA
import Derived.Test.YtklmcfpgdfibnaaReHpFb
namespace Go.Proofs.Ytklmcfpgdfibnaa.P
open Go Go.Proofs.Ytklmcfpgdfibnaa Go.Proofs.Ytklmcfpgdfibnaa.Eng
set_option linter.unusedVariables false
set_option maxHeartbeats 4000000
set_option linter.unusedVariables false
set_option linter.unusedSimpArgs false
attribute [local irreducible] prP gP gE gF AY ixW ldc ldg ldl stc stg scW mkW apW BD cl2 BQ CZ B9
variable {w0:World}
theorem LQ {α:Type} {f:Nat→List α} {x:α}: ∀{n:Nat},x∈pick f n↔ ∃i,i<n∧x∈f i
 | 0=>by simp [pick]
 | n+1=>by
   rw [pick,List.mem_append,LQ]
   constructor
   ·rintro (⟨i,h1,h2⟩ | h)
    ·exact ⟨i,by omega,h2⟩
    ·exact ⟨n,by omega,h⟩
   ·rintro ⟨i,h1,h2⟩
    rcases Nat.lt_or_ge i n with h | h
    ·exact .inl ⟨i,h,h2⟩
    ·have:i=n:=by omega
     subst this;exact .inr h2
theorem X5 {os:List AG} {k:Nat} (hol:os.length=8) (k8:k<8) (kv:(ob os k).live=true):B7 k (ob os k).gen∈IB os:=
 LQ.2 ⟨k,by omega,by unfold IC;rw [if_pos ⟨by omega,kv⟩];simp⟩
theorem lC {os:List AG} (h: ∀k,k<8→(ob os k).live=false):IB os=[]:=by
 refine List.eq_nil_iff_forall_not_mem.2 fun x hx=> ?_
 obtain ⟨i,_,hi⟩:=LQ.1 hx
 unfold IC at hi
 split at hi
 ·rename_i hh
  have:=h i (by omega)
  rw [hh.2] at this;cases this
 ·cases hi
structure Sub (a b:List AG):Prop where
 la:a.length=8
 lb:b.length=8
 lv: ∀i,i<8→(ob b i).live=true→(ob a i).live=true∧(ob b i).gen=(ob a i).gen
theorem Sub.refl {a:List AG} (h:a.length=8):Sub a a:=⟨h,h,fun _ _ h=>⟨h,rfl⟩⟩
theorem Sub.trans {a b c:List AG} (h:Sub a b) (h':Sub b c):Sub a c:=⟨h.la,h'.lb,fun i hi hv=>by
 obtain ⟨x,y⟩:=h'.lv i hi hv
 obtain ⟨u,v⟩:=h.lv i hi x
 exact ⟨u,by rw [y,v]⟩⟩
theorem Sub.slot {a b:List AG} (h:Sub a b) {x:Int} {k:Nat} (hs:AB b x=(k:Int)):AB a x=(k:Int):=by
 have hb:=BH (l:=b) (id:=x) (by omega)
 have ek:(AB b x).toNat=k:=by omega
 rw [ek] at hb
 obtain ⟨_,b1,b2,k8,kv,kg⟩:=hb
 obtain ⟨u,v⟩:=h.lv k k8 kv
 have e:(x % 8).toNat=k:=by omega
 rw [GG b1 h.la (by have:=h.la;omega) (by rw [e];exact u) (by rw [e, ←v];exact kg)]
 omega
abbrev hr_ (os:List AG) (k:Nat):Int:=(ob os k).holds+(ob os k).roots
theorem BW.hr0 {x:Hp} (hk:BW x) {id:Int} {k:Nat} (hs:AB x.AD id=(k:Int)):(0≤(ob x.AD k).holds∧(ob x.AD k).holds≤20)∧(0≤(ob x.AD k).roots∧(ob x.AD k).roots≤20):=(hk.hp.Q7 hs).2.2.2
theorem vS {os:List AG} {buf:List Int} {ns:Nat} {id:Int} {k:Nat} (h:HP os ns buf []) (hk:AB os id=(k:Int)) {v:AG} (ev:v={ob os k with holds:=v.holds,roots:=v.roots}) (v4:0≤v.holds∧v.holds≤20) (v5:0≤v.roots∧v.roots≤20) (hs:v.holds+v.roots+1=hr_ os k):
  NN (os.set k v) (F4 (os.set k v) buf [id]).1 (F4 (os.set k v) buf [id]).2.2:=by
 have hls:0≤AB os id:=by omega
 obtain ⟨c1,c2,c3,_,_⟩:=h.Q7 hk
 have e1:v.count=(ob os k).count:=by rw [ev]
 have h1:=h.upd (pd':=[id]) (v:=v) hk (by rw [ev]) (by rw [ev]) (by rw [ev]) v4 v5 (by rw [ev]) (by rw [ev]) (by simp only [List.count_singleton_self];simp only [hr_] at hs;omega) (by omega) (fun x hx=>by simp [Ne.symm hx]) (by simpa using hls)
 exact iB h1
theorem qX {x:Hp} (hk:BW x) {id kd:Int} {k:Nat} {s:ByteArray} (hs:AB x.AD id=(k:Int)) (h0:hr_ x.AD k≠0) (hkd:(kd=6∧(ob x.AD k).holds=0)∨(kd=3∧(ob x.AD k).holds≠0)):
  (FL x ⟨kd,id,0,0,s⟩).2.code=0∧Sub x.AD (FL x ⟨kd,id,0,0,s⟩).1.AD∧ ∀i,i<8→(ob (FL x ⟨kd,id,0,0,s⟩).1.AD i).live=true→hr_ (FL x ⟨kd,id,0,0,s⟩).1.AD i=hr_ x.AD i-(if i=k then 1 else 0):=by
 have hp:=hk.hp
 have hol:=hk.ol
 obtain ⟨b1,b2⟩:=hk.hr0 hs
 have k8:k<8:=(hp.me hs).1
 have hkl:k<x.AD.length:=by omega
 have e:AB x.AD id=((k:Nat):Int):=hs
 have fin: ∀v:AG,v={ob x.AD k with holds:=v.holds,roots:=v.roots}→(0≤v.holds∧v.holds≤20)→(0≤v.roots∧v.roots≤20)→v.holds+v.roots+1=hr_ x.AD k→
   Sub x.AD (F4 (x.AD.set k v) x.buffer [id]).1∧ ∀i,i<8→(ob (F4 (x.AD.set k v) x.buffer [id]).1 i).live=true→hr_ (F4 (x.AD.set k v) x.buffer [id]).1 i=hr_ x.AD i-(if i=k then 1 else 0):=fun v ev v4 v5 hsum=>by
  have R:=vS hp hs ev v4 v5 hsum
  have eo: ∀i,ob (x.AD.set k v) i=if i=k then v else ob x.AD i:=fun i=>EE hkl
  refine ⟨⟨hol,R.len,fun i hi hv=> ?_⟩,fun i hi hv=> ?_⟩
  ·obtain ⟨a,_⟩:=R.sm i hi hv
   have g:=R.gn i hi
   rw [eo] at a g
   split at a
   ·rename_i he;subst he
    rw [if_pos rfl] at g
    have vl:v.live=(ob x.AD i).live:=by rw [ev]
    have vg:v.gen=(ob x.AD i).gen:=by rw [ev]
    exact ⟨by rw [←vl];exact a,by rw [g,vg]⟩
   ·rename_i he
    rw [if_neg he] at g
    exact ⟨a,g⟩
  ·obtain ⟨_,_,a,b,_⟩:=R.sm i hi hv
   simp only [hr_]
   rw [a,b,eo]
   split
   ·rename_i he;subst he;simp only [hr_] at hsum;omega
   ·omega
 rcases hkd with ⟨rfl,hz⟩ | ⟨rfl,hz⟩
 ·have es:FL x ⟨6,id,0,0,s⟩=(⟨(HX x.AD x.buffer 6 id).1,x.B2,(HX x.AD x.buffer 6 id).2.1,x.sites⟩,(HX x.AD x.buffer 6 id).2.2):=by simp [FL]
  have hr:(ob x.AD k).roots≠0:=by simp only [hr_] at h0;omega
  have eh:HX x.AD x.buffer 6 id=PE (F4 (x.AD.set k {ob x.AD k with roots:=(ob x.AD k).roots-1}) x.buffer [id]):=by
   unfold HX
   rw [e,Int.toNat_natCast,if_neg (by omega),if_neg (by decide),if_neg (by decide),if_neg (by decide),if_neg hr]
  rw [es,eh]
  exact ⟨rfl,fin _ rfl (by simp only;omega) (by simp only;omega) (by simp only [hr_];omega)⟩
 ·have es:FL x ⟨3,id,0,0,s⟩=(⟨(HX x.AD x.buffer 3 id).1,x.B2,(HX x.AD x.buffer 3 id).2.1,x.sites⟩,(HX x.AD x.buffer 3 id).2.2):=by simp [FL]
  have eh:HX x.AD x.buffer 3 id=PE (F4 (x.AD.set k {ob x.AD k with holds:=(ob x.AD k).holds-1}) x.buffer [id]):=by
   unfold HX
   rw [e,Int.toNat_natCast,if_neg (by omega),if_neg (by decide),if_neg (by decide),if_pos rfl,if_neg hz]
  rw [es,eh]
  exact ⟨rfl,fin _ rfl (by simp only;omega) (by simp only;omega) (by simp only [hr_];omega)⟩
theorem lS (x:Hp) (s:ByteArray):FL x ⟨10,0,0,0,s⟩=(⟨(IE x.AD x.buffer).1,x.B2,[],x.sites⟩,⟨0,0,(IE x.AD x.buffer).2⟩):=by simp [FL]
structure oB (h0:Hp) (i:Nat) (x:Hp):Prop where
 ok:BW x
 gd:Gd x.AD x.buffer
 sub:Sub h0.AD x.AD
 dn: ∀j,j<i→ ∀k:Nat,AB x.AD (gI (IB h0.AD) j)=(k:Int)→hr_ x.AD k=0
theorem oB.drop {h0 x:Hp} {i:Nat} (h:oB h0 i x) {id kd:Int} {k:Nat} {s:ByteArray} (hs:AB x.AD id=(k:Int)) (hz:hr_ x.AD k≠0) (hkd:(kd=6∧(ob x.AD k).holds=0)∨(kd=3∧(ob x.AD k).holds≠0)):
  (FL x ⟨kd,id,0,0,s⟩).2.code=0∧oB h0 i (FL x ⟨kd,id,0,0,s⟩).1∧ ∀v:Int, ∀m:Nat,AB (FL x ⟨kd,id,0,0,s⟩).1.AD v=(m:Int)→AB x.AD v=(m:Int)∧hr_ (FL x ⟨kd,id,0,0,s⟩).1.AD m=hr_ x.AD m-(if m=k then 1 else 0):=by
 obtain ⟨c,S,H⟩:=qX (s:=s) h.ok hs hz hkd
 have back: ∀v:Int, ∀m:Nat,AB (FL x ⟨kd,id,0,0,s⟩).1.AD v=(m:Int)→AB x.AD v=(m:Int)∧hr_ (FL x ⟨kd,id,0,0,s⟩).1.AD m=hr_ x.AD m-(if m=k then 1 else 0):=fun v m hm=>by
  have hl:=JN hm
  exact ⟨S.slot hm,H m hl.1 hl.2⟩
 refine ⟨c,⟨h.ok.step,h.ok.gd h.gd,h.sub.trans S,fun j hj m hm=> ?_⟩,back⟩
 obtain ⟨a,b⟩:=back _ m hm
 have z:=h.dn j hj m a
 have p:=h.ok.step.hr0 hm
 simp only [hr_] at b z p ⊢
 split at b <;> omega
theorem oB.fin {h0 x:Hp} (h:oB h0 (IB h0.AD).length x) (s:ByteArray):IB (FL x ⟨10,0,0,0,s⟩).1.AD=[]:=by
 rw [lS]
 have hp:=h.ok.hp
 have R:=o9 hp h.gd
 refine lC fun k k8=> ?_
 cases hv:(ob (IE x.AD x.buffer).1 k).live with
 | false=>rfl
 | true=>
   exfalso
   obtain ⟨e,he,_⟩:=(R.lv k k8).1 hv
   obtain ⟨u,v⟩:=h.sub.lv e he.lt he.lv
   have hm:=X5 h.sub.la he.lt u
   rw [←v] at hm
   obtain ⟨j,hj,ej⟩:=List.getElem_of_mem hm
   rw [DB hj] at ej
   have hoe:=(hp.obj e he.lt)
   have sl:=EO h.ok.ol he.lt he.lv (hoe.lv he.lv).1 hoe.gen.2
   rw [←ej] at sl
   have z:=h.dn j hj e sl
   have p:=he.pos
   simp only [hr_] at z;omega
end Go.Proofs.Ytklmcfpgdfibnaa.P
