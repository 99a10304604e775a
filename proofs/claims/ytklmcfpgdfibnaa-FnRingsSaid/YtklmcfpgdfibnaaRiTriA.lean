/- A part of the proof. -/
import Derived.Test.YtklmcfpgdfibnaaRiBfsA
import Derived.Test.YtklmcfpgdfibnaaRiDrA
namespace Go.Proofs.Ytklmcfpgdfibnaa.P
open Go Go.Proofs.Ytklmcfpgdfibnaa Go.Proofs.Ytklmcfpgdfibnaa.Eng
set_option linter.unusedVariables false
set_option maxHeartbeats 4000000
set_option linter.unusedVariables false
set_option linter.unusedSimpArgs false
attribute [local irreducible] prP gP gE gF AW ixW ldc ldg ldl stc stg scW mkW apW AZ cl2 BJ CH B2
variable {w0:World}
def jC (os:List AE) (s:Int):Int:=s+8*(ob os s.toNat).gen
def kG (os:List AE) (q:Que):List Int:=q.map fun e=>jC os e.1
theorem UG {os:List AE} {x:Int} (h:0≤AA os x):x=jC os (AA os x):=by
 have hb:=BH h
 unfold jC;omega
theorem aA {os:List AE} {but:Int} {q:Que} (h:QI os but q) {x:Int} (hx:0≤AA os x):x∈kG os q↔inQ q (AA os x):=by
 unfold kG inQ
 simp only [List.mem_map]
 constructor
 ·rintro ⟨e,he,hr⟩
  obtain ⟨k,h1,k8,_⟩:=h.lv e.1 (List.mem_map.2 ⟨e,he,rfl⟩)
  have:=(BH hx).2.2.1
  refine ⟨e,he, ?_⟩
  unfold jC at hr
  omega
 ·rintro ⟨e,he,hr⟩
  exact ⟨e,he,by rw [hr];exact (UG hx).symm⟩
structure QB (os:List AE) (b:Int) (q:Que):Prop where
 qi:QI os (AA os b) q
 rid: ∀s,inQ q s→AA os (jC os s)=s
theorem QB.nil (os:List AE) (b:Int):QB os b []:=⟨QI.nil _ _,fun s h=>by simp [inQ] at h⟩
theorem QB.add {os:List AE} {b:Int} {q:Que} {p:Int} (h:QB os b q) (x:Int):QB os b (G8 (AA os b) q p (AA os x)):=by
 refine ⟨h.qi.add fun h0=>TK h0,fun s hs=> ?_⟩
 rcases fX hs with hs | ⟨rfl,h0,_⟩
 ·exact h.rid s hs
 ·rw [←UG h0]
theorem H5 {l:List Int} {i:Nat} (hi:i<l.length) {α:Type} (f:α→Int→α) (a:α):(l.take (i+1)).foldl f a=f ((l.take i).foldl f a) (gI l i):=by
 rw [List.take_succ_eq_append_getElem hi,List.foldl_append,DE hi];rfl
theorem VS {os:List AE} {b:Int} {ids:List Int}: ∀i,i≤ids.length→QB os b (FB os (AA os b) (ids.take i))
 | 0,_=>by simp [FB];exact QB.nil _ _
 | i+1,hi=>by
   unfold FB
   rw [H5 (by omega)]
   exact (VS i (by omega)).add _
end Go.Proofs.Ytklmcfpgdfibnaa.P
namespace Go.Proofs.Ytklmcfpgdfibnaa.P
open Go Go.Proofs.Ytklmcfpgdfibnaa Go.Proofs.Ytklmcfpgdfibnaa.Eng
set_option linter.unusedVariables false
set_option maxHeartbeats 4000000
set_option linter.unusedVariables false
set_option linter.unusedSimpArgs false
attribute [local irreducible] prP gP gE gF AW ixW ldc ldg ldl stc stg scW mkW apW AZ cl2 BJ CH B2
variable {w0:World}
theorem JN {α:Type} {f:Nat→List α} {x:α}: ∀{n:Nat},x∈pick f n↔ ∃i,i<n∧x∈f i
 | 0=>by simp [pick]
 | n+1=>by
   rw [pick,List.mem_append,JN]
   constructor
   ·rintro (⟨i,h1,h2⟩ | h)
    ·exact ⟨i,by omega,h2⟩
    ·exact ⟨n,by omega,h⟩
   ·rintro ⟨i,h1,h2⟩
    rcases Nat.lt_or_ge i n with h | h
    ·exact .inl ⟨i,h,h2⟩
    ·have:i=n:=by omega
     subst this;exact .inr h2
theorem RW {os:List AE} {k:Nat} (hol:os.length=8) (k8:k<8) (kv:(ob os k).live=true):B6 k (ob os k).gen∈B1 os:=
 JN.2 ⟨k,by omega,by unfold EZ;rw [if_pos ⟨by omega,kv⟩];simp⟩
theorem XN {os:List AE} (h: ∀k,k<8→(ob os k).live=false):B1 os=[]:=by
 refine List.eq_nil_iff_forall_not_mem.2 fun x hx=> ?_
 obtain ⟨i,_,hi⟩:=JN.1 hx
 unfold EZ at hi
 split at hi
 ·rename_i hh
  have:=h i (by omega)
  rw [hh.2] at this;cases this
 ·cases hi
theorem I0 {a:List AE} {b c d:List T} {K:J2} (hl:(a.length:Int)≤1048576) (h:K [] [tI (B1 a)]):cl2 ⟨Try.prog,w0⟩ 40 CY.sg [] [tR tO a,b,c,d] K:=by
 refine CY.cl2 ?_
 unfold CY.txt
 simp only [AJ,AO,AS,AN,AQ,AG,AK,AI,AR,AT,AU,AM,AL,AP,BP,BU,BW,BT,BV,BS,BQ,AY,A6,A7,A4,A5,A8]
 refine BL (fun i=>[iv a.length,iv i]) (fun i=>[tI (pick (EZ a) i)]) a.length (fun i=>True) rfl rfl trivial (fun R i hi _ hR=> ?_)
 have hpl:=JV (XE a) i
 simp only [AJ,AO,AS,AN,AQ,AG,AK,AI,AR,AT,AU,AM,AL,AP,BP,BU,BW,BT,BV,BS,BQ,AY,A6,A7,A4,A5,A8]
 refine BE (BB (fun hlt=>DB ?_) fun hge=> ?_)
 ·have hlt:i<a.length:=by omega
  have hR:=hR hlt trivial
  refine BF hlt (OT hlt (BE (B9 (B9 ?_))))
  simp only [s9,sV]
  by_cases h8:(i:Int)<8
  ·refine HR h8 rfl ?_
   cases hv:(ob a i).live with
   | true=>
     have e:EZ a i=[B6 i (ob a i).gen]:=by unfold EZ;rw [if_pos ⟨by omega,hv⟩]
     refine CV (FO (GH rfl (by first | omega | (simp only [AJ,AO,AS,AN,AQ,AG,AK,AI,AR,AT,AU,AM,AL,AP,BP,BU,BW,BT,BV,BS,BQ,AY,A6,A7,A4,A5,A8];omega)) ?_))
     simp only [AJ,AO,AS,AN,AQ,AG,AK,AI,AR,AT,AU,AM,AL,AP,BP,BU,BW,BT,BV,BS,BQ,AY,A6,A7,A4,A5,A8]
     rw [F4,aF e]
     exact A9 (by omega) hR
   | false=>
     have e:EZ a i=[]:=by unfold EZ;rw [if_neg];rintro ⟨_,h⟩;rw [hv] at h;cases h
     refine C7 ?_
     simp only [AJ,AO,AS,AN,AQ,AG,AK,AI,AR,AT,AU,AM,AL,AP,BP,BU,BW,BT,BV,BS,BQ,AY,A6,A7,A4,A5,A8]
     rw [←RP e] at hR
     exact A9 (by omega) hR
  ·refine F8 h8 rfl (C7 ?_)
   have e:EZ a i=[]:=by unfold EZ;rw [if_neg];omega
   simp only [AJ,AO,AS,AN,AQ,AG,AK,AI,AR,AT,AU,AM,AL,AP,BP,BU,BW,BT,BV,BS,BQ,AY,A6,A7,A4,A5,A8]
   rw [←RP e] at hR
   exact A9 (by omega) hR
 ·have:i=a.length:=by omega
  subst this
  exact h
structure Sub (a b:List AE):Prop where
 la:a.length=8
 lb:b.length=8
 lv: ∀i,i<8→(ob b i).live=true→(ob a i).live=true∧(ob b i).gen=(ob a i).gen
theorem Sub.refl {a:List AE} (h:a.length=8):Sub a a:=⟨h,h,fun _ _ h=>⟨h,rfl⟩⟩
theorem Sub.trans {a b c:List AE} (h:Sub a b) (h':Sub b c):Sub a c:=⟨h.la,h'.lb,fun i hi hv=>by
 obtain ⟨x,y⟩:=h'.lv i hi hv
 obtain ⟨u,v⟩:=h.lv i hi x
 exact ⟨u,by rw [y,v]⟩⟩
theorem Sub.slot {a b:List AE} (h:Sub a b) {x:Int} {k:Nat} (hs:AA b x=(k:Int)):AA a x=(k:Int):=by
 have hb:=BH (l:=b) (id:=x) (by omega)
 have ek:(AA b x).toNat=k:=by omega
 rw [ek] at hb
 obtain ⟨_,b1,b2,k8,kv,kg⟩:=hb
 obtain ⟨u,v⟩:=h.lv k k8 kv
 have e:(x % 8).toNat=k:=by omega
 rw [HF b1 h.la (by have:=h.la;omega) (by rw [e];exact u) (by rw [e, ←v];exact kg)]
 omega
abbrev hr_ (os:List AE) (k:Nat):Int:=(ob os k).holds+(ob os k).roots
theorem BG.hr0 {x:Hp} (hk:BG x) {id:Int} {k:Nat} (hs:AA x.AB id=(k:Int)):(0≤(ob x.AB k).holds∧(ob x.AB k).holds≤20)∧(0≤(ob x.AB k).roots∧(ob x.AB k).roots≤20):=(hk.hp.QG hs).2.2.2
theorem u6 {os:List AE} {buf:List Int} {ns:Nat} {id:Int} {k:Nat} (h:HP os ns buf []) (hk:AA os id=(k:Int)) {v:AE} (ev:v={ob os k with holds:=v.holds,roots:=v.roots}) (v4:0≤v.holds∧v.holds≤20) (v5:0≤v.roots∧v.roots≤20) (hs:v.holds+v.roots+1=hr_ os k):
  HB (os.set k v) (GA (os.set k v) buf [id]).1 (GA (os.set k v) buf [id]).2.2:=by
 have hls:0≤AA os id:=by omega
 obtain ⟨c1,c2,c3,_,_⟩:=h.QG hk
 have e1:v.count=(ob os k).count:=by rw [ev]
 have h1:=h.upd (pd':=[id]) (v:=v) hk (by rw [ev]) (by rw [ev]) (by rw [ev]) v4 v5 (by rw [ev]) (by rw [ev]) (by simp only [List.count_singleton_self];simp only [hr_] at hs;omega) (by omega) (fun x hx=>by simp [Ne.symm hx]) (by simpa using hls)
 exact YL h1
theorem pJ {x:Hp} (hk:BG x) {id kd:Int} {k:Nat} {s:ByteArray} (hs:AA x.AB id=(k:Int)) (h0:hr_ x.AB k≠0) (hkd:(kd=6∧(ob x.AB k).holds=0)∨(kd=3∧(ob x.AB k).holds≠0)):
  (CA x ⟨kd,id,0,0,s⟩).2.code=0∧Sub x.AB (CA x ⟨kd,id,0,0,s⟩).1.AB∧ ∀i,i<8→(ob (CA x ⟨kd,id,0,0,s⟩).1.AB i).live=true→hr_ (CA x ⟨kd,id,0,0,s⟩).1.AB i=hr_ x.AB i-(if i=k then 1 else 0):=by
 have hp:=hk.hp
 have hol:=hk.ol
 obtain ⟨b1,b2⟩:=hk.hr0 hs
 have k8:k<8:=(hp.me hs).1
 have hkl:k<x.AB.length:=by omega
 have e:AA x.AB id=((k:Nat):Int):=hs
 have fin: ∀v:AE,v={ob x.AB k with holds:=v.holds,roots:=v.roots}→(0≤v.holds∧v.holds≤20)→(0≤v.roots∧v.roots≤20)→v.holds+v.roots+1=hr_ x.AB k→
   Sub x.AB (GA (x.AB.set k v) x.buffer [id]).1∧ ∀i,i<8→(ob (GA (x.AB.set k v) x.buffer [id]).1 i).live=true→hr_ (GA (x.AB.set k v) x.buffer [id]).1 i=hr_ x.AB i-(if i=k then 1 else 0):=fun v ev v4 v5 hsum=>by
  have R:=u6 hp hs ev v4 v5 hsum
  have eo: ∀i,ob (x.AB.set k v) i=if i=k then v else ob x.AB i:=fun i=>DP hkl
  refine ⟨⟨hol,R.len,fun i hi hv=> ?_⟩,fun i hi hv=> ?_⟩
  ·obtain ⟨a,_⟩:=R.sm i hi hv
   have g:=R.gn i hi
   rw [eo] at a g
   split at a
   ·rename_i he;subst he
    rw [if_pos rfl] at g
    have vl:v.live=(ob x.AB i).live:=by rw [ev]
    have vg:v.gen=(ob x.AB i).gen:=by rw [ev]
    exact ⟨by rw [←vl];exact a,by rw [g,vg]⟩
   ·rename_i he
    rw [if_neg he] at g
    exact ⟨a,g⟩
  ·obtain ⟨_,_,a,b,_⟩:=R.sm i hi hv
   simp only [hr_]
   rw [a,b,eo]
   split
   ·rename_i he;subst he;simp only [hr_] at hsum;omega
   ·omega
 rcases hkd with ⟨rfl,hz⟩ | ⟨rfl,hz⟩
 ·have es:CA x ⟨6,id,0,0,s⟩=(⟨(FT x.AB x.buffer 6 id).1,x.CB,(FT x.AB x.buffer 6 id).2.1,x.sites⟩,(FT x.AB x.buffer 6 id).2.2):=by simp [CA]
  have hr:(ob x.AB k).roots≠0:=by simp only [hr_] at h0;omega
  have eh:FT x.AB x.buffer 6 id=NH (GA (x.AB.set k {ob x.AB k with roots:=(ob x.AB k).roots-1}) x.buffer [id]):=by
   unfold FT
   rw [e,Int.toNat_natCast,if_neg (by omega),if_neg (by decide),if_neg (by decide),if_neg (by decide),if_neg hr]
  rw [es,eh]
  exact ⟨rfl,fin _ rfl (by simp only;omega) (by simp only;omega) (by simp only [hr_];omega)⟩
 ·have es:CA x ⟨3,id,0,0,s⟩=(⟨(FT x.AB x.buffer 3 id).1,x.CB,(FT x.AB x.buffer 3 id).2.1,x.sites⟩,(FT x.AB x.buffer 3 id).2.2):=by simp [CA]
  have eh:FT x.AB x.buffer 3 id=NH (GA (x.AB.set k {ob x.AB k with holds:=(ob x.AB k).holds-1}) x.buffer [id]):=by
   unfold FT
   rw [e,Int.toNat_natCast,if_neg (by omega),if_neg (by decide),if_neg (by decide),if_pos rfl,if_neg hz]
  rw [es,eh]
  exact ⟨rfl,fin _ rfl (by simp only;omega) (by simp only;omega) (by simp only [hr_];omega)⟩
theorem SG (x:Hp) (s:ByteArray):CA x ⟨10,0,0,0,s⟩=(⟨(F9 x.AB x.buffer).1,x.CB,[],x.sites⟩,⟨0,0,(F9 x.AB x.buffer).2⟩):=by simp [CA]
structure mV (h0:Hp) (i:Nat) (x:Hp):Prop where
 ok:BG x
 gd:Gd x.AB x.buffer
 sub:Sub h0.AB x.AB
 dn: ∀j,j<i→ ∀k:Nat,AA x.AB (gI (B1 h0.AB) j)=(k:Int)→hr_ x.AB k=0
theorem mV.drop {h0 x:Hp} {i:Nat} (h:mV h0 i x) {id kd:Int} {k:Nat} {s:ByteArray} (hs:AA x.AB id=(k:Int)) (hz:hr_ x.AB k≠0) (hkd:(kd=6∧(ob x.AB k).holds=0)∨(kd=3∧(ob x.AB k).holds≠0)):
  (CA x ⟨kd,id,0,0,s⟩).2.code=0∧mV h0 i (CA x ⟨kd,id,0,0,s⟩).1∧ ∀v:Int, ∀m:Nat,AA (CA x ⟨kd,id,0,0,s⟩).1.AB v=(m:Int)→AA x.AB v=(m:Int)∧hr_ (CA x ⟨kd,id,0,0,s⟩).1.AB m=hr_ x.AB m-(if m=k then 1 else 0):=by
 obtain ⟨c,S,H⟩:=pJ (s:=s) h.ok hs hz hkd
 have back: ∀v:Int, ∀m:Nat,AA (CA x ⟨kd,id,0,0,s⟩).1.AB v=(m:Int)→AA x.AB v=(m:Int)∧hr_ (CA x ⟨kd,id,0,0,s⟩).1.AB m=hr_ x.AB m-(if m=k then 1 else 0):=fun v m hm=>by
  have hl:=HS hm
  exact ⟨S.slot hm,H m hl.1 hl.2⟩
 refine ⟨c,⟨h.ok.step,h.ok.gd h.gd,h.sub.trans S,fun j hj m hm=> ?_⟩,back⟩
 obtain ⟨a,b⟩:=back _ m hm
 have z:=h.dn j hj m a
 have p:=h.ok.step.hr0 hm
 simp only [hr_] at b z p ⊢
 split at b <;> omega
theorem mV.fin {h0 x:Hp} (h:mV h0 (B1 h0.AB).length x) (s:ByteArray):B1 (CA x ⟨10,0,0,0,s⟩).1.AB=[]:=by
 rw [SG]
 have hp:=h.ok.hp
 have R:=dN hp h.gd
 refine XN fun k k8=> ?_
 cases hv:(ob (F9 x.AB x.buffer).1 k).live with
 | false=>rfl
 | true=>
   exfalso
   obtain ⟨e,he,_⟩:=(R.lv k k8).1 hv
   obtain ⟨u,v⟩:=h.sub.lv e he.lt he.lv
   have hm:=RW h.sub.la he.lt u
   rw [←v] at hm
   obtain ⟨j,hj,ej⟩:=List.getElem_of_mem hm
   rw [DE hj] at ej
   have hoe:=(hp.obj e he.lt)
   have sl:=D4 h.ok.ol he.lt he.lv (hoe.lv he.lv).1 hoe.gen.2
   rw [←ej] at sl
   have z:=h.dn j hj e sl
   have p:=he.pos
   simp only [hr_] at z;omega
end Go.Proofs.Ytklmcfpgdfibnaa.P
namespace Go.Proofs.Ytklmcfpgdfibnaa.P
open Go Go.Proofs.Ytklmcfpgdfibnaa Go.Proofs.Ytklmcfpgdfibnaa.Eng
set_option linter.unusedVariables false
set_option maxHeartbeats 4000000
set_option linter.unusedVariables false
set_option linter.unusedSimpArgs false
attribute [local irreducible] prP gP gE gF AW ixW ldc ldg ldl stc stg scW mkW apW AZ cl2 BJ CH B2
variable {w0:World}
theorem N0 {α:Type} (p:α→Bool) {f:Nat→List α}: ∀n,(pick f n).filter p=pick (fun i=>(f i).filter p) n
 | 0=>rfl
 | n+1=>by rw [pick,List.filter_append,N0 p n];rfl
def LM (os:List AE) (ids:List Int):List Int:=(B1 os).filter fun v=>decide (v∈kG os (LS os (-1) ids))
theorem YS (os:List AE):AA os (-1)= -1:=HJ (.inl (by omega))
theorem m6 (os:List AE):(exts os).length≤os.length:=JV (aV os) _
theorem qK (os:List AE): ∀v∈exts os, -1≤v∧v≤7999:=bL (fun i x hx=>by
 unfold QX at hx;split at hx
 ·rw [List.mem_singleton.1 hx];exact hH _ _
 ·cases hx) _
theorem O6 {x:Hp} (hk:BG x) {ids:List Int} {k:Nat} (k8:k<8) (kv:(ob x.AB k).live=true):B6 k (ob x.AB k).gen∈kG x.AB (LS x.AB (-1) ids)↔RB x.AB ids k:=by
 have hp:=hk.hp.obj k k8
 have hs:=D4 hk.ol k8 kv (hp.lv kv).1 hp.gen.2
 obtain ⟨h1,h2⟩:=TP x.AB (-1) ids
 rw [aA h1 (by omega),hs,h2]
 unfold c8 RB
 constructor
 ·rintro ⟨v,hv,s,e,_,hr⟩;exact ⟨v,hv,s,e,O3.1 hr⟩
 ·rintro ⟨v,hv,s,e,hr⟩;exact ⟨v,hv,s,e,by omega,O3.2 hr⟩
theorem gJ {x:Hp} (hk:BG x) {k:Nat}:RB x.AB (exts x.AB) k↔Rch x.AB k:=by
 constructor
 ·rintro ⟨v,hv,s,hs,hr⟩
  obtain ⟨i,hi,hx⟩:=JN.1 hv
  unfold QX at hx
  split at hx
  ·rename_i hc
   rw [List.mem_singleton.1 hx] at hs
   have i8:i<8:=by omega
   have hp:=hk.hp.obj i i8
   have l:=hp.lv hc.2.1
   rw [D4 hk.ol i8 hc.2.1 l.1 hp.gen.2] at hs
   have:i=s:=by omega
   subst this
   have e:=hc.2.2
   rw [G9 ⟨by omega,by omega⟩] at e
   exact ⟨i,⟨i8,hc.2.1,e⟩,hr⟩
  ·cases hx
 ·rintro ⟨e,he,hr⟩
  have hp:=hk.hp.obj e he.lt
  have l:=hp.lv he.lv
  refine ⟨B6 e (ob x.AB e).gen,JN.2 ⟨e,by rw [hk.ol];exact he.lt, ?_⟩,e,D4 hk.ol he.lt he.lv l.1 hp.gen.2,hr⟩
  unfold QX
  rw [if_pos ⟨by have:=he.lt;omega,he.lv,by rw [G9 ⟨by omega,by omega⟩];exact he.pos⟩]
  simp
def G5 (os:List AE):List Int:=(B1 os).filter fun v=>decide (v∉LM os (exts os))
theorem eO {x:Hp} (hk:BG x) (g:Gd x.AB x.buffer):G5 x.AB=SA x.AB (H7 x.AB (fun i=>(ob x.AB i).count) x.buffer) 8:=by
 have wi: ∀k,k<8→(ob x.AB k).live=true→(H7 x.AB (fun i=>(ob x.AB i).count) x.buffer k=true↔ ¬Rch x.AB k):=fun k k8 kv=>XU hk.hp g k8 kv
 have wl: ∀k,H7 x.AB (fun i=>(ob x.AB i).count) x.buffer k=true→(ob x.AB k).live=true:=fun k hw=>(H0.1 hw).1.live
 generalize H7 x.AB (fun i=>(ob x.AB i).count) x.buffer=W at wi wl
 unfold G5 SA
 have e:B1 x.AB=pick (EZ x.AB) 8:=by unfold B1;rw [hk.ol]
 rw [e,N0]
 refine MU fun i i8=> ?_
 unfold EZ
 cases hv:(ob x.AB i).live with
 | false=>
   rw [if_neg (by simp)]
   have: ¬W i=true:=fun hw=>by rw [wl i hw] at hv;cases hv
   rw [if_neg this];rfl
 | true=>
   rw [if_pos ⟨by omega,rfl⟩]
   have hin:B6 i (ob x.AB i).gen∈LM x.AB (exts x.AB)↔Rch x.AB i:=by
    unfold LM
    rw [List.mem_filter,decide_eq_true_eq,O6 hk i8 hv,gJ hk]
    exact ⟨fun hh=>hh.2,fun hh=>⟨RW hk.ol i8 hv,hh⟩⟩
   by_cases hw:W i=true
   ·rw [if_pos hw]
    have:=(wi i i8 hv).1 hw
    simp only [List.filter_cons,List.filter_nil]
    rw [if_pos (by simpa using fun hh=>this (hin.1 hh))]
   ·rw [if_neg hw]
    have:Rch x.AB i:=Classical.byContradiction fun hn=>hw ((wi i i8 hv).2 hn)
    simp only [List.filter_cons,List.filter_nil]
    rw [if_neg (by simpa using hin.2 this)]
end Go.Proofs.Ytklmcfpgdfibnaa.P
namespace Go.Proofs.Ytklmcfpgdfibnaa.P
open Go Go.Proofs.Ytklmcfpgdfibnaa Go.Proofs.Ytklmcfpgdfibnaa.Eng
set_option linter.unusedVariables false
set_option maxHeartbeats 4000000
set_option linter.unusedVariables false
set_option linter.unusedSimpArgs false
attribute [local irreducible] prP gP gE gF AW ixW ldc ldg ldl stc stg scW mkW apW AZ cl2 BJ CH B2
variable {w0:World}
def frQ (q:Que) (i:Nat):Int:=((q.find? fun e=>decide (e.1=(i:Int))).map (·.2)).getD 0
def mtQ (but:Int) (q:Que) (i:Nat):Bool:=decide (inQ q (i:Int)∨(i:Int)=but)
abbrev bxV (but:Int) (q:Que):List Value:=[I (frQ q 0),I (frQ q 1),I (frQ q 2),I (frQ q 3),I (frQ q 4),I (frQ q 5),I (frQ q 6),I (frQ q 7), .bool (mtQ but q 0), .bool (mtQ but q 1), .bool (mtQ but q 2), .bool (mtQ but q 3), .bool (mtQ but q 4), .bool (mtQ but q 5), .bool (mtQ but q 6), .bool (mtQ but q 7)]
abbrev slQ (q:Que):List Int:=q.map (·.1)
theorem cZ (k i:Nat) (a v:Value):arP (iv k) i a v=if k=i then a else v:=by
 unfold arP
 rw [BA]
 by_cases h:k=i
 ·subst h;simp
 ·rw [if_neg h]
  cases hb:Nat.beq k i with
  | true=>exact absurd (Nat.eq_of_beq_eq_true hb) h
  | false=>rfl
theorem tH {q:Que} {k:Nat} {p:Int} (h: ¬inQ q (k:Int)) (i:Nat):arP (iv k) i (I p) (I (frQ q i))=I (frQ (q++[((k:Int),p)]) i):=by
 rw [cZ]
 unfold frQ
 rw [List.find?_append]
 by_cases hi:k=i
 ·subst hi
  rw [if_pos rfl]
  have:q.find? (fun e=>decide (e.1=(k:Int)))=none:=by
   rw [List.find?_eq_none]
   intro e he hh
   exact h (List.mem_map.2 ⟨e,he,by simpa using hh⟩)
  rw [this];simp
 ·rw [if_neg hi]
  have:[((k:Int),p)].find? (fun e=>decide (e.1=(i:Int)))=none:=by
   rw [List.find?_eq_none]
   intro e he hh
   have:e=((k:Int),p):=by simpa using he
   subst this
   simp at hh
   omega
  rw [this,Option.or_none]
theorem vR {but:Int} {q:Que} {k:Nat} {p:Int} (i:Nat):arP (iv k) i (.bool true) (.bool (mtQ but q i))= .bool (mtQ but (q++[((k:Int),p)]) i):=by
 rw [cZ]
 unfold mtQ
 by_cases hi:k=i
 ·subst hi
  rw [if_pos rfl,decide_eq_true (.inl (O1.2 (.inr (by simp [inQ]))))]
 ·rw [if_neg hi]
  have e:inQ (q++[((k:Int),p)]) (i:Int)↔inQ q (i:Int):=by
   rw [O1]
   refine ⟨fun h=>h.resolve_right fun hh=> ?_, .inl⟩
   simp [inQ] at hh;omega
  simp only [e]
theorem vH {but:Int} {q:Que}: ∀k,k<8→arG [.bool (mtQ but q 0), .bool (mtQ but q 1), .bool (mtQ but q 2), .bool (mtQ but q 3), .bool (mtQ but q 4), .bool (mtQ but q 5), .bool (mtQ but q 6), .bool (mtQ but q 7)] (iv k)=some (.bool (mtQ but q k))
 | 0,_=>rfl | 1,_=>rfl | 2,_=>rfl | 3,_=>rfl | 4,_=>rfl | 5,_=>rfl | 6,_=>rfl | 7,_=>rfl
 | k+8,h=>by omega
theorem u9 {r:Option Value} {v:Value} {K:Value→Prop} (h:r=some v) (hp:plain v=true) (hk:K v):prP r K:=by subst h;exact C4 hp hk
theorem K7 {but:Int} {q:Que} {s p:Int} {K:J2} (hl:q.length≤8) (hs:s<8) (h:K (bxV but (G8 but q p s)) [tI (slQ (G8 but q p s))]):cl2 ⟨Try.prog,w0⟩ 143 C5.sg (bxV but q++[I s,I p]) [tI (slQ q)] K:=by
 refine C5.cl2 ?_
 unfold C5.txt
 have sl:(slQ q).length=q.length:=by simp
 refine BE (B9 (B9 (B9 (B9 ?_))))
 by_cases h0:s<0
 ·have e:G8 but q p s=q:=by unfold G8;rw [if_pos (.inl h0)]
  rw [e] at h
  exact J6 h0 (J6 h0 (HR h0 rfl (CV h)))
 ·obtain ⟨k,rfl⟩: ∃k:Nat,s=k:=⟨s.toNat,by omega⟩
  have k8:k<8:=by omega
  refine D9 h0 (BF k8 (D9 h0 (u9 (vH k k8) rfl (F8 h0 rfl (YQ (fun hm=> ?_) fun hm=> ?_)))))
  ·have e:G8 but q p k=q:=by
    unfold G8
    rw [if_pos]
    have:=of_decide_eq_true hm
    exact .inr (this.symm)
   rw [e] at h
   exact h
  ·have hm:=of_decide_eq_false hm
   simp only [not_or] at hm
   have e:G8 but q p k=q++[((k:Int),p)]:=by
    unfold G8
    rw [if_neg]
    simp only [not_or]
    exact ⟨h0,hm.2,hm.1⟩
   rw [e] at h
   refine BF k8 (BF k8 ?_)
   simp only [AJ,AO,AS,AN,AQ,AG,AK,AI,AR,AT,AU,AM,AL,AP,BP,BU,BW,BT,BV,BS,BQ,AY,A6,A7,A4,A5,A8]
   refine GH rfl (by first | omega | (simp only [AJ,AO,AS,AN,AQ,AG,AK,AI,AR,AT,AU,AM,AL,AP,BP,BU,BW,BT,BV,BS,BQ,AY,A6,A7,A4,A5,A8];omega)) ?_
   have es:tI (slQ q)++[T.c (I (k:Int))]=tI (slQ (q++[((k:Int),p)])):=by rw [F4];simp [slQ]
   simp only [tH hm.1,vR (p:=p)]
   rw [es]
   exact h
theorem iY {q:Que} {i:Nat} (hi:i<q.length):gI (slQ q) i=gQ q i:=by
 have h2:i<(slQ q).length:=by simpa using hi
 rw [←DE h2, ←VM hi]
 simp [slQ]
theorem fM {but:Int} {i:Nat}:mtQ but [] i=decide ((i:Int)=but):=by simp [mtQ,inQ]
theorem fY {os:List AE} {but:Int} {ids:List Int}: ∀i,i≤ids.length→QI os but (FB os but (ids.take i))
 | 0,_=>by simp [FB];exact QI.nil _ _
 | i+1,hi=>by
   unfold FB
   rw [H5 (by omega)]
   exact (fY i (by omega)).add fun h0=>TK h0
theorem sL {os:List AE} {but:Int} {q:Que} {s:Int} (hq:QI os but q) {l:List Int} (hl: ∀j∈l,j.toNat<8∧(ob os j.toNat).live=true): ∀i,i≤l.length→QI os but ((l.take i).foldl (fun q' t=>G8 but q' s t) q)∧LU q ((l.take i).foldl (fun q' t=>G8 but q' s t) q)
 | 0,_=>⟨by simpa using hq,by simp;exact .refl q⟩
 | i+1,hi=>by
   rw [H5 (by omega)]
   obtain ⟨a,b⟩:=sL hq hl i (by omega)
   exact ⟨a.add fun _=>hl _ (D6 (by omega)),b.trans .add⟩
theorem PW {x:Hp} {ids:List Int} {but:Int} {K:J2} (hx:Fits x) (hof: ∀o∈x.AB,OF o) (hids: ∀v∈ids,F64 v) (hl:ids.length≤1000) (hb: -1≤but∧but<8) (h:K (bxV but (LS x.AB but ids)) [tI (slQ (LS x.AB but ids))]):cl2 ⟨Try.prog,w0⟩ 102 EG.sg [I but] (trees x++[tI ids]) K:=by
 have ol:=hx.ol
 refine EG.cl2 ?_
 unfold EG.txt
 try simp only [trees,List.cons_append,List.nil_append]
 try simp only [AJ,AO,AS,AN,AQ,AG,AK,AI,AR,AT,AU,AM,AL,AP,BP,BU,BW,BT,BV,BS,BQ,AY,A6,A7,A4,A5,A8]
 refine iD (fun xs cs=>xs=bxV but []∧cs=[]) ?_ fun j hj=> ?_
 rotate_left
 ·refine Q3 (BB (fun h0=> ?_) fun h0=> ?_)
  ·obtain ⟨k,rfl⟩: ∃k:Nat,but=k:=⟨but.toNat,by omega⟩
   have k8:k<8:=by omega
   refine BF k8 (hj _ _ ⟨?_,rfl⟩)
   have e: ∀i:Nat,arP (iv k) i (.bool true) (.bool false)= .bool (mtQ (k:Int) [] i):=fun i=>by
    rw [cZ,fM]
    by_cases hi:k=i
    ·subst hi;simp
    ·rw [if_neg hi,decide_eq_false (by omega)]
   simp only [e]
   rfl
  ·refine hj _ _ ⟨?_,rfl⟩
   have e: ∀i:Nat,mtQ but [] i=false:=fun i=>by rw [fM];exact decide_eq_false (by omega)
   simp only [bxV,e]
   rfl
 rintro xs cs ⟨rfl,rfl⟩
 refine BL (fun i=>iv ids.length::iv i::bxV but (FB x.AB but (ids.take i))) (fun i=>[tI (slQ (FB x.AB but (ids.take i)))]) ids.length (fun _=>True) rfl rfl trivial (fun R i hi _ hR=> ?_)
 have hq:=fY (os:=x.AB) (but:=but) i hi
 obtain ⟨q,eq⟩: ∃q,FB x.AB but (ids.take i)=q:=⟨_,rfl⟩
 rw [eq] at hq ⊢
 have ql:=hq.len
 simp only [AJ,AO,AS,AN,AQ,AG,AK,AI,AR,AT,AU,AM,AL,AP,BP,BU,BW,BT,BV,BS,BQ,AY,A6,A7,A4,A5,A8]
 refine BE (BB (fun hlt=> ?_) fun hge=> ?_)
 ·have hlt:i<ids.length:=by omega
  have hR:=hR hlt trivial
  have es:FB x.AB but (ids.take (i+1))=G8 but q (-1) (AA x.AB (gI ids i)):=by
   rw [←eq];unfold FB;exact H5 hlt _ _
  rw [es] at hR
  have fid:F64 (gI ids i):=by rw [←DE hlt];exact hids _ (List.getElem_mem hlt)
  have sb:AA x.AB (gI ids i)<8:=by
   by_cases h0:0≤AA x.AB (gI ids i)
   ·have:=(BH h0).2.2.2.1;omega
   ·omega
  refine BF hlt (ldI hlt (B5 fid (by omega) (K7 (but:=but) (q:=q) (s:=AA x.AB (gI ids i)) (p:= -1) ql sb (A9 (by omega) ?_))))
  exact hR
 ·have:i=ids.length:=by omega
  subst this
  rw [List.take_length] at eq
  have h8:0<q.length→x.AB.length=8:=fun h0=>by
   have hin:=W9 h0
   rw [←eq] at hin
   obtain ⟨v,_,hv,hv0,_⟩:=(XT x.AB but ids).2.2 _ hin
   exact (BH (l:=x.AB) (id:=v) (by omega)).1
  refine IX (α:=Nat×Que) (fun s=>iv s.1::bxV but s.2) (fun s=>[tI (slQ s.2)]) (fun s=>9-s.1) (fun s=>QI x.AB but s.2∧(0<s.2.length→x.AB.length=8)∧ ∃f,8<f+s.1∧QL x.AB but f s.1 s.2=LS x.AB but ids) (0,q) rfl rfl ⟨hq,h8,9,by simp,by unfold LS;rw [eq]⟩ (fun R s hs hR=> ?_)
  clear hq ql eq h8
  obtain ⟨i,q⟩:=s
  obtain ⟨hq,h8,f,hf,hbf⟩:=hs
  simp only at hq h8 hf hbf
  have ql:=hq.len
  have sl:(slQ q).length=q.length:=by simp
  simp only [AJ,AO,AS,AN,AQ,AG,AK,AI,AR,AT,AU,AM,AL,AP,BP,BU,BW,BT,BV,BS,BQ,AY,A6,A7,A4,A5,A8]
  refine BE (BB (fun hlt=> ?_) fun hge=> ?_)
  ·have hlt':i<(slQ q).length:=by omega
   have hlt:i<q.length:=by omega
   obtain ⟨k,ek,k8,kv,kb⟩:=hq.lv _ (W9 hlt)
   obtain ⟨f,rfl⟩: ∃f',f=f'+1:=⟨f-1,by omega⟩
   have hb':=hbf
   rw [QL,if_pos hlt,ek] at hb'
   unfold SQ at hb'
   rw [Int.toNat_natCast] at hb'
   have ol8:x.AB.length=8:=h8 (by omega)
   have kl:=N7 hof (k:=k) (by omega)
   refine BF hlt' (ldI hlt' ?_)
   rw [iY hlt,ek]
   refine IT ol8 hof k8 ?_
   obtain ⟨ks,hks⟩: ∃ks,BC x.AB k=ks:=⟨_,rfl⟩
   have hkb: ∀j∈ks,j<8∧j.toNat<8∧(ob x.AB j.toNat).live=true:=fun j hj=>by
    rw [←hks] at hj
    have:=BZ hj
    exact ⟨by omega,this.2.1,this.2.2.2.2⟩
   rw [hks] at hb' kl ⊢
   simp only [AJ,AO,AS,AN,AQ,AG,AK,AI,AR,AT,AU,AM,AL,AP,BP,BU,BW,BT,BV,BS,BQ,AY,A6,A7,A4,A5,A8]
   refine BL (fun j=>iv i::iv ks.length::iv j::bxV but ((ks.take j).foldl (fun q' t=>G8 but q' k t) q)) (fun j=>[tI ks,tI (slQ ((ks.take j).foldl (fun q' t=>G8 but q' k t) q))]) ks.length (fun _=>True) rfl rfl trivial (fun R2 j hj _ hR2=> ?_)
   obtain ⟨hq2,hgr⟩:=sL (s:=(k:Int)) hq (fun j hj=>(hkb j hj).2) j hj
   obtain ⟨q2,eq2⟩: ∃q2,(ks.take j).foldl (fun q' t=>G8 but q' k t) q=q2:=⟨_,rfl⟩
   rw [eq2] at hq2 hgr ⊢
   have ql2:=hq2.len
   have sl2:(slQ q2).length=q2.length:=by simp
   have gl:=hgr.len
   simp only [AJ,AO,AS,AN,AQ,AG,AK,AI,AR,AT,AU,AM,AL,AP,BP,BU,BW,BT,BV,BS,BQ,AY,A6,A7,A4,A5,A8]
   refine BE (BB (fun hlj=> ?_) fun hgj=> ?_)
   ·have hlj:j<ks.length:=by omega
    have hR2:=hR2 hlj trivial
    rw [H5 hlj,eq2] at hR2
    refine BF hlj (ldI hlj (BF (j:=i) (by omega) (ldI (by omega) ?_)))
    rw [iY (by omega),hgr.gq hlt,ek]
    exact K7 (but:=but) (q:=q2) (s:=gI ks j) (p:=(k:Int)) ql2 (hkb _ (D6 hlj)).1 (A9 (by omega) hR2)
   ·have:j=ks.length:=by omega
    subst this
    rw [List.take_length] at eq2
    rw [eq2] at hb'
    exact A9 (by omega) (hR (i+1,q2) ⟨hq2,fun _=>ol8,f,by simp only at hf ⊢;omega,hb'⟩ (by simp only;omega))
  ·rw [←hbf] at h
   cases f with
   | zero=>exact h
   | succ f=>rw [QL,if_neg (by omega)] at h;exact h
end Go.Proofs.Ytklmcfpgdfibnaa.P
namespace Go.Proofs.Ytklmcfpgdfibnaa.P
open Go Go.Proofs.Ytklmcfpgdfibnaa Go.Proofs.Ytklmcfpgdfibnaa.Eng
set_option linter.unusedVariables false
set_option maxHeartbeats 4000000
set_option linter.unusedVariables false
set_option linter.unusedSimpArgs false
attribute [local irreducible] prP gP gE gF AW ixW ldc ldg ldl stc stg scW mkW apW AZ cl2 BJ CH B2
variable {w0:World}
def J3 (os:List AE) (q:Que) (i:Nat):List Int:=if (i:Int)∈slQ q then [B6 i (ob os i).gen] else []
theorem PZ {x:Hp} {but:Int} {q:Que} {K:J2} (hq:QI x.AB but q) (hol:0<q.length→x.AB.length=8) (h:K (bxV but q) [tI (pick (J3 x.AB q) 8)]):cl2 ⟨Try.prog,w0⟩ 103 C9.sg (bxV but q) (tI (slQ q)::trees x) K:=by
 have ql:=hq.len
 have sl:(slQ q).length=q.length:=by simp
 refine C9.cl2 ?_
 unfold C9.txt
 refine BL (fun i=>iv i::bxV but q) (fun i=>[tI (pick (J3 x.AB q) i)]) 8 (fun _=>True) rfl rfl trivial (fun R i hi _ hR=> ?_)
 have pl:(pick (J3 x.AB q) i).length≤i:=JV (fun i=>by unfold J3;split <;> simp) i
 try simp only [trees]
 simp only [AJ,AO,AS,AN,AQ,AG,AK,AI,AR,AT,AU,AM,AL,AP,BP,BU,BW,BT,BV,BS,BQ,AY,A6,A7,A4,A5,A8]
 refine BE (BB (fun hlt=>DB ?_) fun hge=> ?_)
 ·have hlt:i<8:=by omega
  have hR:=hR hlt trivial
  rw [pick] at hR
  refine FV (x:=(i:Int)) (by omega) (BB (fun hm=> ?_) fun hm=> ?_)
  ·have e:J3 x.AB q i=[B6 i (ob x.AB i).gen]:=by unfold J3;rw [if_pos hm]
   rw [e, ←F4] at hR
   have ol:=hol (by rw [←sl];exact List.length_pos_of_mem hm)
   have il:i<x.AB.length:=by omega
   exact BF il (JX il (by decide) rfl (FO (GH rfl (by first | omega | (simp only [AJ,AO,AS,AN,AQ,AG,AK,AI,AR,AT,AU,AM,AL,AP,BP,BU,BW,BT,BV,BS,BQ,AY,A6,A7,A4,A5,A8];omega)) (A9 (by omega) hR))))
  ·have e:J3 x.AB q i=[]:=by unfold J3;rw [if_neg hm]
   rw [e,List.append_nil] at hR
   exact A9 (by omega) hR
 ·have:i=8:=by omega
  subst this
  exact h
theorem Z1 {x:Hp} (hk:BG x) (ids:List Int):pick (J3 x.AB (LS x.AB (-1) ids)) 8=LM x.AB ids:=by
 unfold LM
 have e:B1 x.AB=pick (EZ x.AB) 8:=by unfold B1;rw [hk.ol]
 rw [e,N0]
 refine MU fun i i8=> ?_
 obtain ⟨h1,h2⟩:=TP x.AB (-1) ids
 cases hv:(ob x.AB i).live with
 | false=>
   have a:J3 x.AB (LS x.AB (-1) ids) i=[]:=by
    unfold J3
    rw [if_neg]
    intro hm
    obtain ⟨k,e1,_,kv,_⟩:=h1.lv _ hm
    have:i=k:=by omega
    subst this
    rw [hv] at kv;cases kv
   have b:EZ x.AB i=[]:=by
    unfold EZ
    rw [if_neg]
    rintro ⟨_,h⟩
    rw [hv] at h;cases h
   rw [a,b];rfl
 | true=>
   have b:EZ x.AB i=[B6 i (ob x.AB i).gen]:=by
    unfold EZ
    rw [if_pos ⟨by omega,hv⟩]
   rw [b]
   unfold J3
   have hi:(i:Int)∈slQ (LS x.AB (-1) ids)↔B6 i (ob x.AB i).gen∈kG x.AB (LS x.AB (-1) ids):=by
    have hp:=hk.hp.obj i i8
    have hs:=D4 hk.ol i8 hv (hp.lv hv).1 hp.gen.2
    rw [aA h1 (by omega),hs];exact Iff.rfl
   by_cases hm:(i:Int)∈slQ (LS x.AB (-1) ids)
   ·rw [if_pos hm]
    simp only [List.filter_cons,List.filter_nil]
    rw [if_pos (by simpa using hi.1 hm)]
   ·rw [if_neg hm]
    simp only [List.filter_cons,List.filter_nil]
    rw [if_neg (by simpa using fun hh=>hm (hi.2 hh))]
theorem RZ {x:Hp} {ids:List Int} {K:J2} (hk:BG x) (hids: ∀v∈ids,F64 v) (hl:ids.length≤1000) (h:K [] [tI (LM x.AB ids)]):cl2 ⟨Try.prog,w0⟩ 34 DY.sg [] (trees x++[tI ids]) K:=by
 have hof:=(hk.st hk.Y5).of
 refine DY.cl2 ?_
 unfold DY.txt
 refine PW (x:=x) (but:= -1) hk.fits hof hids hl (by omega) ?_
 refine PZ (x:=x) (but:= -1) (q:=LS x.AB (-1) ids) (TP _ _ _).1 (fun _=>hk.ol) ?_
 rw [Z1 hk]
 exact h
theorem LK {x:Hp} {K:J2} (hk:BG x) (h:K [] [tI (G5 x.AB)]):cl2 ⟨Try.prog,w0⟩ 27 DM.sg [] (trees x) K:=by
 have ol:=hk.ol
 have fits:=hk.fits
 refine DM.cl2 ?_
 unfold DM.txt
 try simp only [trees]
 try simp only [AJ,AO,AS,AN,AQ,AG,AK,AI,AR,AT,AU,AM,AL,AP,BP,BU,BW,BT,BV,BS,BQ,AY,A6,A7,A4,A5,A8]
 have el:=m6 x.AB
 refine DN (HI (by omega) (RR fits.ol (RZ (x:=x) hk (fun v hv=>BM (by have:=qK _ v hv;omega)) (by omega) (I0 fits.ol ?_))))
 unfold G5 at h
 obtain ⟨m,hm⟩: ∃m,B1 x.AB=m:=⟨_,rfl⟩
 obtain ⟨r,hr⟩: ∃r,LM x.AB (exts x.AB)=r:=⟨_,rfl⟩
 have ml:m.length≤8:=by have:=KF x.AB;rw [hm] at this;omega
 have rl:r.length≤8:=by rw [←hr];unfold LM;rw [hm];exact Nat.le_trans (List.length_filter_le _ _) ml
 rw [hm,hr] at h ⊢
 simp only [AJ,AO,AS,AN,AQ,AG,AK,AI,AR,AT,AU,AM,AL,AP,BP,BU,BW,BT,BV,BS,BQ,AY,A6,A7,A4,A5,A8]
 refine BL (fun i=>[iv m.length,iv i]) (fun i=>[tI r,tI ((m.take i).filter fun v=>decide (v∉r)),tI m]) m.length (fun _=>True) rfl rfl trivial (fun R i hi _ hR=> ?_)
 have fl:((m.take i).filter fun v=>decide (v∉r)).length≤m.length:=Nat.le_trans (List.length_filter_le _ _) (List.length_take_le' _ _)
 simp only [AJ,AO,AS,AN,AQ,AG,AK,AI,AR,AT,AU,AM,AL,AP,BP,BU,BW,BT,BV,BS,BQ,AY,A6,A7,A4,A5,A8]
 refine BE (BB (fun hlt=>DB ?_) fun hge=> ?_)
 ·have hlt:i<m.length:=by omega
  have hR:=hR hlt trivial
  rw [List.take_succ_eq_append_getElem hlt,List.filter_append,DE hlt] at hR
  refine BF hlt (ldI hlt (FV (by omega) (HZ (BB (fun hm=> ?_) fun hm=> ?_))))
  ·have e:[gI m i].filter (fun v=>decide (v∉r))=[gI m i]:=by simp [hm]
   rw [e, ←F4] at hR
   exact GH rfl (by omega) (A9 (by omega) hR)
  ·have e:[gI m i].filter (fun v=>decide (v∉r))=[]:=by simpa using hm
   rw [e,List.append_nil] at hR
   exact A9 (by omega) hR
 ·have:i=m.length:=by omega
  subst this
  rw [List.take_length]
  exact h
theorem WH {x:Hp} {K:J2} (hk:BG x) (h:K [iv (G5 x.AB).length] []):cl2 ⟨Try.prog,w0⟩ 37 FM.sg [] (trees x) K:=by
 refine FM.cl2 ?_
 unfold FM.txt
 refine LK hk ?_
 try simp only [AJ,AO,AS,AN,AQ,AG,AK,AI,AR,AT,AU,AM,AL,AP,BP,BU,BW,BT,BV,BS,BQ,AY,A6,A7,A4,A5,A8]
 exact h
end Go.Proofs.Ytklmcfpgdfibnaa.P
namespace Go.Proofs.Ytklmcfpgdfibnaa.P
open Go Go.Proofs.Ytklmcfpgdfibnaa Go.Proofs.Ytklmcfpgdfibnaa.Eng
set_option linter.unusedVariables false
set_option maxHeartbeats 4000000
set_option linter.unusedVariables false
set_option linter.unusedSimpArgs false
attribute [local irreducible] prP gP gE gF AW ixW ldc ldg ldl stc stg scW mkW apW AZ cl2 BJ CH B2
variable {w0:World}
end Go.Proofs.Ytklmcfpgdfibnaa.P
