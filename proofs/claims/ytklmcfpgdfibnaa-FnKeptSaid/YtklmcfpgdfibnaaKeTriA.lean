/- A part of the proof. -/
import Derived.Test.YtklmcfpgdfibnaaKeBfsA
import Derived.Test.YtklmcfpgdfibnaaKeDrA
namespace Go.Proofs.Ytklmcfpgdfibnaa.P
open Go Go.Proofs.Ytklmcfpgdfibnaa Go.Proofs.Ytklmcfpgdfibnaa.Eng
set_option linter.unusedVariables false
set_option maxHeartbeats 4000000
set_option linter.unusedVariables false
set_option linter.unusedSimpArgs false
attribute [local irreducible] prP gP gE gF AX ixW ldc ldg ldl stc stg scW mkW apW BE cl2 BS DF CB
variable {w0:World}
def yL (os:List AU) (s:Int):Int:=s+8*(ob os s.toNat).gen
theorem pA {os:List AU} {x:Int} (h:0≤AB os x):x=yL os (AB os x):=by
 have hb:=BT h
 unfold yL;omega
structure QB (os:List AU) (b:Int) (q:Que):Prop where
 qi:QI os (AB os b) q
 rid: ∀s,inQ q s→AB os (yL os s)=s
theorem QB.nil (os:List AU) (b:Int):QB os b []:=⟨QI.nil _ _,fun s h=>by simp [inQ] at h⟩
theorem QB.add {os:List AU} {b:Int} {q:Que} {p:Int} (h:QB os b q) (x:Int):QB os b (J7 (AB os b) q p (AB os x)):=by
 refine ⟨h.qi.add fun h0=>WB h0,fun s hs=> ?_⟩
 rcases lS hs with hs | ⟨rfl,h0,_⟩
 ·exact h.rid s hs
 ·rw [←pA h0]
theorem O4 {l:List Int} {i:Nat} (hi:i<l.length) {α:Type} (f:α→Int→α) (a:α):(l.take (i+1)).foldl f a=f ((l.take i).foldl f a) (gI l i):=by
 rw [List.take_succ_eq_append_getElem hi,List.foldl_append,DL hi];rfl
theorem XL {os:List AU} {b:Int} {ids:List Int}: ∀i,i≤ids.length→QB os b (JL os (AB os b) (ids.take i))
 | 0,_=>by simp [JL];exact QB.nil _ _
 | i+1,hi=>by
   unfold JL
   rw [O4 (by omega)]
   exact (XL i (by omega)).add _
def nO (os:List AU) (but:Int) (q:Que) (s:Int) (l:List Int):Que:=l.foldl (fun q' f=>J7 but q' s (AB os f)) q
theorem nX {os:List AU} {but:Int} {q:Que} {s:Int}:T8 os but q s=nO os but q s (ob os s.toNat).field:=by
 unfold T8 nO BO
 generalize (ob os s.toNat).field=l
 induction l generalizing q with
 | nil=>rfl
 | cons f l ih=>
   simp only [List.map_cons,List.foldl_cons,List.filter_cons]
   by_cases h0:0≤AB os f
   ·rw [if_pos (by simpa using h0)]
    simp only [List.foldl_cons]
    exact ih
   ·rw [if_neg (by simpa using h0)]
    have e:J7 but q s (AB os f)=q:=by unfold J7;rw [if_pos (.inl (by omega))]
    rw [e]
    exact ih
end Go.Proofs.Ytklmcfpgdfibnaa.P
namespace Go.Proofs.Ytklmcfpgdfibnaa.P
open Go Go.Proofs.Ytklmcfpgdfibnaa Go.Proofs.Ytklmcfpgdfibnaa.Eng
set_option linter.unusedVariables false
set_option maxHeartbeats 4000000
set_option linter.unusedVariables false
set_option linter.unusedSimpArgs false
attribute [local irreducible] prP gP gE gF AX ixW ldc ldg ldl stc stg scW mkW apW BE cl2 BS DF CB
variable {w0:World}
theorem KU {α:Type} {f:Nat→List α} {x:α}: ∀{n:Nat},x∈pick f n↔ ∃i,i<n∧x∈f i
 | 0=>by simp [pick]
 | n+1=>by
   rw [pick,List.mem_append,KU]
   constructor
   ·rintro (⟨i,h1,h2⟩ | h)
    ·exact ⟨i,by omega,h2⟩
    ·exact ⟨n,by omega,h⟩
   ·rintro ⟨i,h1,h2⟩
    rcases Nat.lt_or_ge i n with h | h
    ·exact .inl ⟨i,h,h2⟩
    ·have:i=n:=by omega
     subst this;exact .inr h2
theorem oR {os:List AU} {k:Nat} (hol:os.length=8) (k8:k<8) (kv:(ob os k).live=true):B9 k (ob os k).gen∈TW os:=
 KU.2 ⟨k,by omega,by unfold NL;rw [if_pos ⟨by omega,kv⟩];simp⟩
theorem nD {os:List AU} (h: ∀k,k<8→(ob os k).live=false):TW os=[]:=by
 refine List.eq_nil_iff_forall_not_mem.2 fun x hx=> ?_
 obtain ⟨i,_,hi⟩:=KU.1 hx
 unfold NL at hi
 split at hi
 ·rename_i hh
  have:=h i (by omega)
  rw [hh.2] at this;cases this
 ·cases hi
structure Sub (a b:List AU):Prop where
 la:a.length=8
 lb:b.length=8
 lv: ∀i,i<8→(ob b i).live=true→(ob a i).live=true∧(ob b i).gen=(ob a i).gen
theorem Sub.refl {a:List AU} (h:a.length=8):Sub a a:=⟨h,h,fun _ _ h=>⟨h,rfl⟩⟩
theorem Sub.trans {a b c:List AU} (h:Sub a b) (h':Sub b c):Sub a c:=⟨h.la,h'.lb,fun i hi hv=>by
 obtain ⟨x,y⟩:=h'.lv i hi hv
 obtain ⟨u,v⟩:=h.lv i hi x
 exact ⟨u,by rw [y,v]⟩⟩
theorem Sub.slot {a b:List AU} (h:Sub a b) {x:Int} {k:Nat} (hs:AB b x=(k:Int)):AB a x=(k:Int):=by
 have hb:=BT (l:=b) (id:=x) (by omega)
 have ek:(AB b x).toNat=k:=by omega
 rw [ek] at hb
 obtain ⟨_,b1,b2,k8,kv,kg⟩:=hb
 obtain ⟨u,v⟩:=h.lv k k8 kv
 have e:(x % 8).toNat=k:=by omega
 rw [IK b1 h.la (by have:=h.la;omega) (by rw [e];exact u) (by rw [e, ←v];exact kg)]
 omega
abbrev hr_ (os:List AU) (k:Nat):Int:=(ob os k).holds+(ob os k).roots
theorem B1.hr0 {x:Hp} (hk:B1 x) {id:Int} {k:Nat} (hs:AB x.AD id=(k:Int)):(0≤(ob x.AD k).holds∧(ob x.AD k).holds≤20)∧(0≤(ob x.AD k).roots∧(ob x.AD k).roots≤20):=(hk.hp.S0 hs).2.2.2
theorem zP {os:List AU} {buf:List Int} {ns:Nat} {id:Int} {k:Nat} (h:HP os ns buf []) (hk:AB os id=(k:Int)) {v:AU} (ev:v={ob os k with holds:=v.holds,roots:=v.roots}) (v4:0≤v.holds∧v.holds≤20) (v5:0≤v.roots∧v.roots≤20) (hs:v.holds+v.roots+1=hr_ os k):
  HX (os.set k v) (FK (os.set k v) buf [id]).1 (FK (os.set k v) buf [id]).2.2:=by
 have hls:0≤AB os id:=by omega
 obtain ⟨c1,c2,c3,_,_⟩:=h.S0 hk
 have e1:v.count=(ob os k).count:=by rw [ev]
 have h1:=h.upd (pd':=[id]) (v:=v) hk (by rw [ev]) (by rw [ev]) (by rw [ev]) v4 v5 (by rw [ev]) (by rw [ev]) (by simp only [List.count_singleton_self];simp only [hr_] at hs;omega) (by omega) (fun x hx=>by simp [Ne.symm hx]) (by simpa using hls)
 exact dM h1
theorem wW {x:Hp} (hk:B1 x) {id kd:Int} {k:Nat} {s:ByteArray} (hs:AB x.AD id=(k:Int)) (h0:hr_ x.AD k≠0) (hkd:(kd=6∧(ob x.AD k).holds=0)∨(kd=3∧(ob x.AD k).holds≠0)):
  (CD x ⟨kd,id,0,0,s⟩).2.code=0∧Sub x.AD (CD x ⟨kd,id,0,0,s⟩).1.AD∧ ∀i,i<8→(ob (CD x ⟨kd,id,0,0,s⟩).1.AD i).live=true→hr_ (CD x ⟨kd,id,0,0,s⟩).1.AD i=hr_ x.AD i-(if i=k then 1 else 0):=by
 have hp:=hk.hp
 have hol:=hk.ol
 obtain ⟨b1,b2⟩:=hk.hr0 hs
 have k8:k<8:=(hp.me hs).1
 have hkl:k<x.AD.length:=by omega
 have e:AB x.AD id=((k:Nat):Int):=hs
 have fin: ∀v:AU,v={ob x.AD k with holds:=v.holds,roots:=v.roots}→(0≤v.holds∧v.holds≤20)→(0≤v.roots∧v.roots≤20)→v.holds+v.roots+1=hr_ x.AD k→
   Sub x.AD (FK (x.AD.set k v) x.buffer [id]).1∧ ∀i,i<8→(ob (FK (x.AD.set k v) x.buffer [id]).1 i).live=true→hr_ (FK (x.AD.set k v) x.buffer [id]).1 i=hr_ x.AD i-(if i=k then 1 else 0):=fun v ev v4 v5 hsum=>by
  have R:=zP hp hs ev v4 v5 hsum
  have eo: ∀i,ob (x.AD.set k v) i=if i=k then v else ob x.AD i:=fun i=>DZ hkl
  refine ⟨⟨hol,R.len,fun i hi hv=> ?_⟩,fun i hi hv=> ?_⟩
  ·obtain ⟨a,_⟩:=R.sm i hi hv
   have g:=R.gn i hi
   rw [eo] at a g
   split at a
   ·rename_i he;subst he
    rw [if_pos rfl] at g
    have vl:v.live=(ob x.AD i).live:=by rw [ev]
    have vg:v.gen=(ob x.AD i).gen:=by rw [ev]
    exact ⟨by rw [←vl];exact a,by rw [g,vg]⟩
   ·rename_i he
    rw [if_neg he] at g
    exact ⟨a,g⟩
  ·obtain ⟨_,_,a,b,_⟩:=R.sm i hi hv
   simp only [hr_]
   rw [a,b,eo]
   split
   ·rename_i he;subst he;simp only [hr_] at hsum;omega
   ·omega
 rcases hkd with ⟨rfl,hz⟩ | ⟨rfl,hz⟩
 ·have es:CD x ⟨6,id,0,0,s⟩=(⟨(FG x.AD x.buffer 6 id).1,x.BW,(FG x.AD x.buffer 6 id).2.1,x.sites⟩,(FG x.AD x.buffer 6 id).2.2):=by simp [CD]
  have hr:(ob x.AD k).roots≠0:=by simp only [hr_] at h0;omega
  have eh:FG x.AD x.buffer 6 id=PQ (FK (x.AD.set k {ob x.AD k with roots:=(ob x.AD k).roots-1}) x.buffer [id]):=by
   unfold FG
   rw [e,Int.toNat_natCast,if_neg (by omega),if_neg (by decide),if_neg (by decide),if_neg (by decide),if_neg hr]
  rw [es,eh]
  exact ⟨rfl,fin _ rfl (by simp only;omega) (by simp only;omega) (by simp only [hr_];omega)⟩
 ·have es:CD x ⟨3,id,0,0,s⟩=(⟨(FG x.AD x.buffer 3 id).1,x.BW,(FG x.AD x.buffer 3 id).2.1,x.sites⟩,(FG x.AD x.buffer 3 id).2.2):=by simp [CD]
  have eh:FG x.AD x.buffer 3 id=PQ (FK (x.AD.set k {ob x.AD k with holds:=(ob x.AD k).holds-1}) x.buffer [id]):=by
   unfold FG
   rw [e,Int.toNat_natCast,if_neg (by omega),if_neg (by decide),if_neg (by decide),if_pos rfl,if_neg hz]
  rw [es,eh]
  exact ⟨rfl,fin _ rfl (by simp only;omega) (by simp only;omega) (by simp only [hr_];omega)⟩
theorem nA (x:Hp) (s:ByteArray):CD x ⟨10,0,0,0,s⟩=(⟨(GZ x.AD x.buffer).1,x.BW,[],x.sites⟩,⟨0,0,(GZ x.AD x.buffer).2⟩):=by simp [CD]
structure r6 (h0:Hp) (i:Nat) (x:Hp):Prop where
 ok:B1 x
 gd:Gd x.AD x.buffer
 sub:Sub h0.AD x.AD
 dn: ∀j,j<i→ ∀k:Nat,AB x.AD (gI (TW h0.AD) j)=(k:Int)→hr_ x.AD k=0
theorem r6.drop {h0 x:Hp} {i:Nat} (h:r6 h0 i x) {id kd:Int} {k:Nat} {s:ByteArray} (hs:AB x.AD id=(k:Int)) (hz:hr_ x.AD k≠0) (hkd:(kd=6∧(ob x.AD k).holds=0)∨(kd=3∧(ob x.AD k).holds≠0)):
  (CD x ⟨kd,id,0,0,s⟩).2.code=0∧r6 h0 i (CD x ⟨kd,id,0,0,s⟩).1∧ ∀v:Int, ∀m:Nat,AB (CD x ⟨kd,id,0,0,s⟩).1.AD v=(m:Int)→AB x.AD v=(m:Int)∧hr_ (CD x ⟨kd,id,0,0,s⟩).1.AD m=hr_ x.AD m-(if m=k then 1 else 0):=by
 obtain ⟨c,S,H⟩:=wW (s:=s) h.ok hs hz hkd
 have back: ∀v:Int, ∀m:Nat,AB (CD x ⟨kd,id,0,0,s⟩).1.AD v=(m:Int)→AB x.AD v=(m:Int)∧hr_ (CD x ⟨kd,id,0,0,s⟩).1.AD m=hr_ x.AD m-(if m=k then 1 else 0):=fun v m hm=>by
  have hl:=I3 hm
  exact ⟨S.slot hm,H m hl.1 hl.2⟩
 refine ⟨c,⟨h.ok.step,h.ok.gd h.gd,h.sub.trans S,fun j hj m hm=> ?_⟩,back⟩
 obtain ⟨a,b⟩:=back _ m hm
 have z:=h.dn j hj m a
 have p:=h.ok.step.hr0 hm
 simp only [hr_] at b z p ⊢
 split at b <;> omega
theorem r6.fin {h0 x:Hp} (h:r6 h0 (TW h0.AD).length x) (s:ByteArray):TW (CD x ⟨10,0,0,0,s⟩).1.AD=[]:=by
 rw [nA]
 have hp:=h.ok.hp
 have R:=jC hp h.gd
 refine nD fun k k8=> ?_
 cases hv:(ob (GZ x.AD x.buffer).1 k).live with
 | false=>rfl
 | true=>
   exfalso
   obtain ⟨e,he,_⟩:=(R.lv k k8).1 hv
   obtain ⟨u,v⟩:=h.sub.lv e he.lt he.lv
   have hm:=oR h.sub.la he.lt u
   rw [←v] at hm
   obtain ⟨j,hj,ej⟩:=List.getElem_of_mem hm
   rw [DL hj] at ej
   have hoe:=(hp.obj e he.lt)
   have sl:=EM h.ok.ol he.lt he.lv (hoe.lv he.lv).1 hoe.gen.2
   rw [←ej] at sl
   have z:=h.dn j hj e sl
   have p:=he.pos
   simp only [hr_] at z;omega
end Go.Proofs.Ytklmcfpgdfibnaa.P
namespace Go.Proofs.Ytklmcfpgdfibnaa.P
open Go Go.Proofs.Ytklmcfpgdfibnaa Go.Proofs.Ytklmcfpgdfibnaa.Eng
set_option linter.unusedVariables false
set_option maxHeartbeats 4000000
set_option linter.unusedVariables false
set_option linter.unusedSimpArgs false
attribute [local irreducible] prP gP gE gF AX ixW ldc ldg ldl stc stg scW mkW apW BE cl2 BS DF CB
variable {w0:World}
theorem mA (os:List AU):AB os (-1)= -1:=FB (.inl (by omega))
theorem uJ {x:Hp} (hk:B1 x) {k:Nat}:RB x.AD (exts x.AD) k↔Rch x.AD k:=by
 constructor
 ·rintro ⟨v,hv,s,hs,hr⟩
  obtain ⟨i,hi,hx⟩:=KU.1 hv
  unfold ZI at hx
  split at hx
  ·rename_i hc
   rw [List.mem_singleton.1 hx] at hs
   have i8:i<8:=by omega
   have hp:=hk.hp.obj i i8
   have l:=hp.lv hc.2.1
   rw [EM hk.ol i8 hc.2.1 l.1 hp.gen.2] at hs
   have:i=s:=by omega
   subst this
   have e:=hc.2.2
   rw [JK ⟨by omega,by omega⟩] at e
   exact ⟨i,⟨i8,hc.2.1,e⟩,hr⟩
  ·cases hx
 ·rintro ⟨e,he,hr⟩
  have hp:=hk.hp.obj e he.lt
  have l:=hp.lv he.lv
  refine ⟨B9 e (ob x.AD e).gen,KU.2 ⟨e,by rw [hk.ol];exact he.lt, ?_⟩,e,EM hk.ol he.lt he.lv l.1 hp.gen.2,hr⟩
  unfold ZI
  rw [if_pos ⟨by have:=he.lt;omega,he.lv,by rw [JK ⟨by omega,by omega⟩];exact he.pos⟩]
  simp
end Go.Proofs.Ytklmcfpgdfibnaa.P
namespace Go.Proofs.Ytklmcfpgdfibnaa.P
open Go Go.Proofs.Ytklmcfpgdfibnaa Go.Proofs.Ytklmcfpgdfibnaa.Eng
set_option linter.unusedVariables false
set_option maxHeartbeats 4000000
set_option linter.unusedVariables false
set_option linter.unusedSimpArgs false
attribute [local irreducible] prP gP gE gF AX ixW ldc ldg ldl stc stg scW mkW apW BE cl2 BS DF CB
variable {w0:World}
def frQ (q:Que) (i:Nat):Int:=((q.find? fun e=>decide (e.1=(i:Int))).map (·.2)).getD 0
abbrev slQ (q:Que):List Int:=q.map (·.1)
theorem uC {q:Que} {i:Nat} (hi:i<q.length):gI (slQ q) i=gQ q i:=by
 have h2:i<(slQ q).length:=by simpa using hi
 rw [←DL h2, ←Y0 hi]
 simp [slQ]
end Go.Proofs.Ytklmcfpgdfibnaa.P
namespace Go.Proofs.Ytklmcfpgdfibnaa.P
open Go Go.Proofs.Ytklmcfpgdfibnaa Go.Proofs.Ytklmcfpgdfibnaa.Eng
set_option linter.unusedVariables false
set_option maxHeartbeats 4000000
set_option linter.unusedVariables false
set_option linter.unusedSimpArgs false
attribute [local irreducible] prP gP gE gF AX ixW ldc ldg ldl stc stg scW mkW apW BE cl2 BS DF CB
variable {w0:World}
end Go.Proofs.Ytklmcfpgdfibnaa.P
namespace Go.Proofs.Ytklmcfpgdfibnaa.P
open Go Go.Proofs.Ytklmcfpgdfibnaa Go.Proofs.Ytklmcfpgdfibnaa.Eng
set_option linter.unusedVariables false
set_option maxHeartbeats 4000000
set_option linter.unusedVariables false
set_option linter.unusedSimpArgs false
attribute [local irreducible] prP gP gE gF AX ixW ldc ldg ldl stc stg scW mkW apW BE cl2 BS DF CB
variable {w0:World}
theorem V1 {l:List Int} {K:J2} (hl:(l.length:Int)<2^62) (h:K [.bool true] []):cl2 ⟨Try.prog,w0⟩ 31 FP.sg [] [tI l,tI l] K:=by
 refine FP.cl2 ?_
 unfold FP.txt
 simp only [AI,AO,AM,AS,AH,AE,AG,AK,AN,AP,AR,AT,AQ,AL,BD,BJ,BL,BK,BM,BN,BG,A4,AZ,A6,A8,A5,A7]
 refine CM (C0 (fun hh=>hh rfl) (BH (fun i=>[iv i]) (fun _=>[]) l.length (fun _=>True) rfl rfl trivial (fun R i hi _ hR=> ?_)))
 simp only [AI,AO,AM,AS,AH,AE,AG,AK,AN,AP,AR,AT,AQ,AL,BD,BJ,BL,BK,BM,BN,BG,A4,AZ,A6,A8,A5,A7]
 refine AY (AW (fun hlt=> ?_) fun _=>h)
 have hlt:i<l.length:=by omega
 exact AJ hlt (ldI hlt (AJ hlt (ldI hlt (CM (C0 (fun hh=>hh rfl) (BA (by omega) (hR hlt trivial)))))))
end Go.Proofs.Ytklmcfpgdfibnaa.P
