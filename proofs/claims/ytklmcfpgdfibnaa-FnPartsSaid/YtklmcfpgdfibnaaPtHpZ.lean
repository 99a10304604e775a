/- A part of the proof. -/
import Derived.Test.YtklmcfpgdfibnaaPtGdA
namespace Go.Proofs.Ytklmcfpgdfibnaa.P
open Go Go.Proofs.Ytklmcfpgdfibnaa Go.Proofs.Ytklmcfpgdfibnaa.Eng
set_option linter.unusedVariables false
section
variable {os:List AU} {ns:Nat} {buf pd pd':List Int} {k:Nat} {id:Int}
theorem HP.me (h:HP os ns buf pd) (hk:AB os id=(k:Int)):k<8∧(ob os k).live=true∧id=CH k (ob os k).gen:=by
 have hb:=BL (l:=os) (id:=id) (by omega)
 have e:(AB os id).toNat=k:=by omega
 rw [e] at hb
 have ho:=h.obj k hb.2.2.2.1
 exact ⟨hb.2.2.2.1,hb.2.2.2.2.1,M5 hk (ho.lv hb.2.2.2.2.1).1 ho.gen.2⟩
theorem HP.upd (h:HP os ns buf pd) (hk:AB os id=(k:Int)) {v:AU} (v1:v.live=(ob os k).live) (v2:v.gen=(ob os k).gen) (v3:v.site=(ob os k).site) (v4:0≤v.holds∧v.holds≤20) (v5:0≤v.roots∧v.roots≤20) (v6:v.field=(ob os k).field) (v7:v.purple=(ob os k).purple) (vc:v.count=v.holds+v.roots+CE os id+pd'.count id) (vb:1≤v.count∧v.count≤1000) (hp: ∀x,x≠id→pd'.count x=pd.count x) (hl: ∀x∈pd',0≤AB os x):HP (os.set k v) ns buf pd':=by
 obtain ⟨k8,kv,kid⟩:=h.me hk
 have hok:=h.obj k k8
 have kg1:=(hok.lv kv).1
 have kg2:=hok.gen.2
 have hol:=h.ol
 have hkl:k<os.length:=by omega
 have sl: ∀x,AB (os.set k v) x=AB os x:=fun x=>GS (by simp) fun i hi=>by
  rw [G3 hkl];split
  ·rename_i he;subst he;exact ⟨v1,v2⟩
  ·exact ⟨rfl,rfl⟩
 have ed: ∀x,CE (os.set k v) x=CE os x:=fun x=>OT (by simp) fun i hi=>by
  rw [G3 hkl];split
  ·rename_i he;subst he;exact ⟨v1,v6⟩
  ·exact ⟨rfl,rfl⟩
 refine ⟨by simpa using hol,fun i hi=> ?_,h.bnd,fun x hx=>by rw [sl];exact h.blv x hx,fun x hx=>by rw [sl];exact hl x hx⟩
 have ho:=h.obj i hi
 by_cases hik:i=k
 ·subst hik
  have e:ob (os.set i v) i=v:=by rw [G3 hkl,if_pos rfl]
  obtain ⟨g1,g2,g3,g4,g5,g6,g7⟩:=ho.lv kv
  refine ⟨by rw [e,v2];exact ho.gen,by rw [e,v6];exact ho.len,by rw [e];exact vb.2,fun f hf hne=> ?_,fun hd=> ?_,fun _=> ?_⟩
  ·rw [e,v6] at hf;rw [e,v1,sl];exact ho.lead f hf hne
  ·rw [e,v1,kv] at hd;cases hd
  ·rw [e,v2,v3,ed,v7, ←kid]
   rw [←kid] at g7
   exact ⟨g1,g2,v4,v5,vc,vb.1,g7⟩
 ·have e:ob (os.set k v) i=ob os i:=by rw [G3 hkl,if_neg hik]
  refine ⟨by rw [e];exact ho.gen,by rw [e];exact ho.len,by rw [e];exact ho.cb,fun f hf hne=> ?_,fun hd=> ?_,fun hv=> ?_⟩
  ·rw [e] at hf;rw [e,sl];exact ho.lead f hf hne
  ·rw [e] at hd ⊢;exact ho.dead hd
  ·rw [e] at hv ⊢
   obtain ⟨g1,g2,g3,g4,g5,g6,g7⟩:=ho.lv hv
   have hne:CH i (ob os i).gen≠id:=by rw [kid];exact UE hi k8 g1 ho.gen.2 kg1 kg2 hik
   exact ⟨g1,g2,g3,g4,by rw [ed,hp _ hne];exact g5,g6,g7⟩
theorem HP.VA (h:HP os ns buf []) (hk:AB os id=(k:Int)):(ob os k).count=(ob os k).holds+(ob os k).roots+CE os id∧1≤(ob os k).count∧(ob os k).count≤64∧(0≤(ob os k).holds∧(ob os k).holds≤20)∧(0≤(ob os k).roots∧(ob os k).roots≤20):=by
 obtain ⟨k8,kv,kid⟩:=h.me hk
 obtain ⟨_,_,g3,g4,g5,g6,_⟩:=(h.obj k k8).lv kv
 rw [←kid] at g5
 have hed:=MY (l:=os) (id:=id) (b:=3) fun o ho'=>by
  obtain ⟨i,hi,rfl⟩:=List.getElem_of_mem ho'
  rw [DN hi,(h.obj i (by have:=h.ol;omega)).len];omega
 have hol:=h.ol
 simp only [List.count_nil] at g5
 exact ⟨by omega,g6,by omega,g3,g4⟩
theorem aS {os:List AU} {id:Int} {k:Nat} {v:AU} (hk:AB os id=(k:Int)) (hkl:k<os.length) (v1:v.live=(ob os k).live) (v2:v.gen=(ob os k).gen):DJ (os.set k v) id=os.set k {v with count:=w64 (v.count+1)}:=by
 have sl:AB (os.set k v) id=k:=by
  rw [←hk]
  exact GS (by simp) fun i hi=>by
   rw [G3 hkl];split
   ·rename_i he;subst he;exact ⟨v1,v2⟩
   ·exact ⟨rfl,rfl⟩
 have e:ob (os.set k v) k=v:=by rw [G3 hkl,if_pos rfl]
 unfold DJ
 rw [sl,if_neg (by omega),Int.toNat_natCast,e,List.set_set]
def OL (a b:List AU):Prop:=b.length=a.length∧ ∀i,(ob b i).live=(ob a i).live∧(ob b i).gen=(ob a i).gen∧(ob b i).site=(ob a i).site
theorem OL.set {os:List AU} {k:Nat} {v:AU} (hk:k<os.length) (h1:v.live=(ob os k).live) (h2:v.gen=(ob os k).gen) (h3:v.site=(ob os k).site):OL os (os.set k v):=by
 refine ⟨by simp,fun i=> ?_⟩
 rw [G3 hk];split
 ·rename_i he;subst he;exact ⟨h1,h2,h3⟩
 ·exact ⟨rfl,rfl,rfl⟩
def Mid (os:List AU) (ns:Nat) (buf:List Int) (r:List AU×List Int×An):Prop:=
 (∃c:Int,(1≤c∧c≤6)∧r=(os,buf,⟨c,0,[]⟩))∨(∃os1,HP os1 ns buf []∧OL os os1∧(Gd os buf→Gd os1 buf)∧r=(os1,buf,⟨0,0,[]⟩))∨
 ∃os1 x,HP os1 ns buf [x]∧OL os os1∧(Gd os buf→Gd os1 (buf++[x]))∧r=SB (GR os1 buf [x])
theorem Mid.ok {r:List AU×List Int×An} (h:HP os ns buf []) (m:Mid os ns buf r):HP r.1 ns r.2.1 []:=by
 rcases m with ⟨c,_,rfl⟩ | ⟨os1,h1,_,_,rfl⟩ | ⟨os1,x,h1,_,_,rfl⟩
 ·exact h
 ·exact h1
 ·exact HP.GR h1
theorem HP.b6 (h:HP os ns buf []) {kd:Int}:Mid os ns buf (HZ os buf kd id):=by
 unfold HZ
 by_cases hs:AB os id<0
 ·rw [if_pos hs];exact .inl ⟨1,by decide,rfl⟩
 rw [if_neg hs]
 obtain ⟨k,hk⟩: ∃k:Nat,AB os id=(k:Int):=⟨(AB os id).toNat,by omega⟩
 rw [hk,Int.toNat_natCast]
 obtain ⟨c1,c2,c3,c4,c5⟩:=h.VA hk
 have hkl:k<os.length:=by have:=(h.me hk).1;have:=h.ol;omega
 have ew:w64 ((ob os k).count+1)=(ob os k).count+1:=LO ⟨by omega,by omega⟩
 have hls:0≤AB os id:=by omega
 split
 ·split
  ·exact .inl ⟨4,by decide,rfl⟩
  ·simp only
   rw [aS hk hkl]
   ·simp only [ew]
    refine .inr (.inl ⟨_, ?_, ?_, ?_,rfl⟩)
    ·exact h.upd hk rfl rfl rfl (by simp only;omega) (by simp only;omega) rfl rfl (by simp only [List.count_nil];omega) (by simp only;omega) (fun _ _=>rfl) (by simp)
    ·exact OL.set hkl rfl rfl rfl
    ·exact fun g=>g.hold hkl rfl rfl rfl (.inl (by simp only;omega)) fun _ h=>h
   ·rfl
   ·rfl
 ·split
  ·split
   ·exact .inl ⟨4,by decide,rfl⟩
   ·simp only
    rw [aS hk hkl]
    ·simp only [ew]
     refine .inr (.inl ⟨_, ?_, ?_, ?_,rfl⟩)
     ·exact h.upd hk rfl rfl rfl (by simp only;omega) (by simp only;omega) rfl rfl (by simp only [List.count_nil];omega) (by simp only;omega) (fun _ _=>rfl) (by simp)
     ·exact OL.set hkl rfl rfl rfl
     ·exact fun g=>g.hold hkl rfl rfl rfl (.inl (by simp only;omega)) fun _ h=>h
    ·rfl
    ·rfl
  ·split
   ·split
    ·exact .inl ⟨5,by decide,rfl⟩
    ·refine .inr (.inr ⟨_,_, ?_, ?_, ?_,rfl⟩)
     ·exact h.upd (pd':=[id]) hk rfl rfl rfl (by simp only;omega) (by simp only;omega) rfl rfl (by simp only [List.count_singleton_self];omega) (by simp only;omega) (fun x hx=>by simp [Ne.symm hx]) (by simpa using hls)
     ·exact OL.set hkl rfl rfl rfl
     ·exact fun g=>g.hold hkl rfl rfl rfl (.inr ⟨id,by simp,hk⟩) fun _ h=>List.mem_append_left _ h
   ·split
    ·exact .inl ⟨5,by decide,rfl⟩
    ·refine .inr (.inr ⟨_,_, ?_, ?_, ?_,rfl⟩)
     ·exact h.upd (pd':=[id]) hk rfl rfl rfl (by simp only;omega) (by simp only;omega) rfl rfl (by simp only [List.count_singleton_self];omega) (by simp only;omega) (fun x hx=>by simp [Ne.symm hx]) (by simpa using hls)
     ·exact OL.set hkl rfl rfl rfl
     ·exact fun g=>g.hold hkl rfl rfl rfl (.inr ⟨id,by simp,hk⟩) fun _ h=>List.mem_append_left _ h
theorem HP.hold (h:HP os ns buf []) {kd:Int}:HP (HZ os buf kd id).1 ns (HZ os buf kd id).2.1 []:=h.b6.ok h
theorem jX {os:List AU} {c:Int} {i:Nat} (hol:os.length=8):(ob (DJ os c) i).count=if AB os c=(i:Int) then w64 ((ob os i).count+1) else (ob os i).count:=by
 unfold DJ
 split
 ·rw [if_neg (by omega)]
 ·have hb:=BL (l:=os) (id:=c) (by omega)
  rw [G3 (by omega)]
  by_cases hi:i=(AB os c).toNat
  ·rw [if_pos hi,if_pos (by omega), ←hi]
  ·rw [if_neg hi,if_neg (by omega)]
theorem HP.XN (h:HP os ns buf []) {a b c:Int}:Mid os ns buf (FP os buf a b c):=by
 unfold FP
 by_cases hs:AB os a<0∨(c≠ -1∧AB os c<0)
 ·rw [if_pos hs];exact .inl ⟨1,by decide,rfl⟩
 rw [if_neg hs]
 by_cases hb: ¬(0≤b∧b≤2)
 ·rw [if_pos hb];exact .inl ⟨2,by decide,rfl⟩
 rw [if_neg hb]
 obtain ⟨k,hk⟩: ∃k:Nat,AB os a=(k:Int):=⟨(AB os a).toNat,by omega⟩
 rw [hk,Int.toNat_natCast]
 obtain ⟨j,hj⟩: ∃j:Nat,b.toNat=j:=⟨_,rfl⟩
 rw [hj]
 obtain ⟨k8,kv,kid⟩:=h.me hk
 have hok:=h.obj k k8
 have hol:=h.ol
 have hkl:k<os.length:=by omega
 have gl:=NN os c
 have hkg:k<(DJ os c).length:=by omega
 have jl:j<(ob os k).field.length:=by rw [hok.len];omega
 have gob:=fun i=>WS (os:=os) (id:=c) (i:=i)
 obtain ⟨os2,hos2⟩: ∃os2,os2=(DJ os c).set k {ob (DJ os c) k with field:=(ob os k).field.set j c}:=⟨_,rfl⟩
 rw [←hos2]
 have eo: ∀i,ob os2 i=if i=k then {ob (DJ os c) k with field:=(ob os k).field.set j c} else ob (DJ os c) i:=fun i=>by rw [hos2];exact G3 hkg
 have l2:os2.length=os.length:=by rw [hos2,List.length_set,gl]
 have same: ∀i,(ob os2 i).live=(ob os i).live∧(ob os2 i).gen=(ob os i).gen∧(ob os2 i).site=(ob os i).site∧(ob os2 i).holds=(ob os i).holds∧(ob os2 i).roots=(ob os i).roots∧(ob os2 i).purple=(ob os i).purple:=fun i=>by
  obtain ⟨q1,q2,q3,q4,q5,_,q7⟩:=gob i
  rw [eo];split
  ·rename_i he;subst he;exact ⟨q1,q2,q3,q4,q5,q7⟩
  ·exact ⟨q1,q2,q3,q4,q5,q7⟩
 have sml:OL os os2:=⟨l2,fun i=>⟨(same i).1,(same i).2.1,(same i).2.2.1⟩⟩
 have sl: ∀x,AB os2 x=AB os x:=fun x=>GS l2 fun i hi=>⟨(same i).1,(same i).2.1⟩
 have cn: ∀i,(ob os2 i).count=if AB os c=(i:Int) then w64 ((ob os i).count+1) else (ob os i).count:=fun i=>by
  rw [eo, ←jX hol];split
  ·rename_i he;subst he;rfl
  ·rfl
 have fdk:(ob os2 k).field=(ob os k).field.set j c:=by rw [eo,if_pos rfl]
 have fdo: ∀i,i≠k→(ob os2 i).field=(ob os i).field:=fun i hi=>by rw [eo,if_neg hi];exact (gob i).2.2.2.2.2.1
 obtain ⟨was,hwas⟩: ∃w,gI (ob os k).field j=w:=⟨_,rfl⟩
 rw [hwas]
 have hwm:was∈(ob os k).field:=by rw [←hwas];exact DT jl
 have eg: ∀x,CE (DJ os c) x=CE os x:=fun x=>OT gl fun i hi=>⟨(gob i).1,(gob i).2.2.2.2.2.1⟩
 have ed: ∀x,(CE os2 x:Int)+(if was=x then 1 else 0)=CE os x+(if c=x then 1 else 0):=fun x=>by
  have e:=SR (os:=DJ os c) (v:={ob (DJ os c) k with field:=(ob os k).field.set j c}) (id:=x) hkg
  rw [←hos2,eg,I7 (by rw [(gob k).1];exact kv),I7 (by simp only;rw [(gob k).1];exact kv),(gob k).2.2.2.2.2.1] at e
  simp only at e
  have ec:=List.count_set (a:=c) (b:=x) jl
  rw [EN jl,hwas] at ec
  have hcp:was=x→0<(ob os k).field.count x:=fun he=>List.count_pos_iff.2 (he ▸ hwm)
  simp only [beq_iff_eq] at ec
  by_cases h1:was=x
  ·have:=hcp h1
   by_cases h2:c=x
   ·rw [if_pos h1,if_pos h2] at ec ⊢;omega
   ·rw [if_pos h1,if_neg h2] at ec ⊢;omega
  ·by_cases h2:c=x
   ·rw [if_neg h1,if_pos h2] at ec ⊢;omega
   ·rw [if_neg h1,if_neg h2] at ec ⊢;omega
 have key: ∀pd':List Int,(∀x,8≤x→(pd'.count x:Int)=if was=x then 1 else 0)→(∀x∈pd',0≤AB os x)→HP os2 ns buf pd':=fun pd' hp hpl=>by
  refine ⟨by omega,fun i hi=> ?_,h.bnd,fun x hx=>by rw [sl];exact h.blv x hx,fun x hx=>by rw [sl];exact hpl x hx⟩
  have ho:=h.obj i hi
  obtain ⟨q1,q2,q3,q4,q5,q7⟩:=same i
  have hc8:AB os c=(i:Int)→(ob os i).live=true∧c=CH i (ob os i).gen:=fun hh=>⟨(h.me hh).2.1,(h.me hh).2.2⟩
  have wc: ∀(hv:(ob os i).live=true),(ob os2 i).count=(ob os i).count+if c=CH i (ob os i).gen then 1 else 0:=fun hv=>by
   have hsid:=H7 hol hi hv (ho.lv hv).1 ho.gen.2
   have:=ho.cb;have:=(ho.lv hv).2.2.2.2.2.1
   rw [cn]
   by_cases hh:AB os c=(i:Int)
   ·rw [if_pos hh,if_pos (hc8 hh).2,LO ⟨by omega,by omega⟩]
   ·rw [if_neg hh,if_neg fun he=>hh (by rw [he];exact hsid)];omega
  refine ⟨by rw [q2];exact ho.gen, ?_, ?_,fun f hf hne=> ?_,fun hd=> ?_,fun hv=> ?_⟩
  ·by_cases hik:i=k
   ·rw [hik,fdk,List.length_set];exact hok.len
   ·rw [fdo i hik];exact ho.len
  ·cases hv:(ob os i).live with
   | true=>
     have hcl:=(h.VA (H7 hol hi hv (ho.lv hv).1 ho.gen.2)).2.2.1
     rw [wc hv];split <;> omega
   | false=>
     rw [cn,if_neg fun hh=>by have:=(hc8 hh).1;rw [hv] at this;cases this]
     exact ho.cb
  ·rw [q1,sl]
   by_cases hik:i=k
   ·subst hik
    rw [fdk] at hf
    rcases List.mem_or_eq_of_mem_set hf with hf | rfl
    ·exact ho.lead f hf hne
    ·exact ⟨kv,by omega⟩
   ·rw [fdo i hik] at hf;exact ho.lead f hf hne
  ·rw [q1] at hd
   rw [q3,q4,q5,q7,cn,if_neg fun hh=>by have:=(hc8 hh).1;rw [hd] at this;cases this]
   exact ho.dead hd
  ·rw [q1] at hv
   obtain ⟨g1,g2,g3,g4,g5,g6,g7⟩:=ho.lv hv
   have hid8:8≤CH i (ob os i).gen:=by rw [H3 hi g1 ho.gen.2];omega
   have e1:=ed (CH i (ob os i).gen)
   have e2:=hp _ hid8
   have e3:=wc hv
   simp only [List.count_nil] at g5
   rw [q2,q3,q4,q5,q7,e3]
   refine ⟨g1,g2,g3,g4, ?_, ?_,g7⟩
   ·rw [e2]
    split <;> split at e1 <;> simp_all <;> omega
   ·split <;> omega
 have gd2: ∀L':List Int,(0≤AB os was→was∈L')→(∀x∈buf,x∈L')→Gd os buf→Gd os2 L':=fun L' hw hL g=>
  g.vT (w:=was) (fun i=>⟨(same i).1.symm,(same i).2.2.2.1.symm,(same i).2.2.2.2.1.symm⟩) sl (fun y x hx=>by
    obtain ⟨h0,f,hf,hs⟩:=M8.1 hx
    by_cases hy:y=k
    ·subst hy
     by_cases hfw:f=was
     ·right;rw [sl, ←hfw,hs]
     ·left
      refine M8.2 ⟨h0,f, ?_,by rw [sl];exact hs⟩
      rw [fdk]
      obtain ⟨i,hi,rfl⟩:=List.getElem_of_mem hf
      have hij:j≠i:=fun he=>hfw (by subst he;rw [EN hi];exact hwas)
      exact List.mem_iff_getElem.2 ⟨i,by simpa using hi,List.getElem_set_ne hij _⟩
    ·left
     exact M8.2 ⟨h0,f,by rw [fdo y hy];exact hf,by rw [sl];exact hs⟩) (by rw [sl];exact hw) hL
 split
 ·rename_i hw
  exact .inr (.inl ⟨_,key [] (fun x hx=>by rw [if_neg (by omega)];rfl) (by simp),sml,gd2 buf (fun hh=>by rw [hw] at hh;exact absurd hh (by rw [HS (.inl (by omega))];omega)) fun _ h=>h,rfl⟩)
 ·rename_i hw
  exact .inr (.inr ⟨_,_,key [was] (fun x hx=>by rw [List.count_singleton];by_cases he:was=x <;> simp [he]) (by simpa using (hok.lead was hwm hw).2),sml,gd2 (buf++[was]) (fun _=>by simp) fun _ h=>List.mem_append_left _ h,rfl⟩)
theorem HP.store (h:HP os ns buf []) {a b c:Int}:HP (FP os buf a b c).1 ns (FP os buf a b c).2.1 []:=h.XN.ok h
theorem lC {l:List Nat} (h: ∀n∈l,n=0):l.sum=0:=by
 induction l with
 | nil=>rfl
 | cons x l ih=>rw [List.sum_cons,h x (by simp),ih fun n hn=>h n (by simp [hn])]
theorem HP.put (h:HP os ns buf []) (k8:k<8) (hd:(ob os k).live=false) (hg:(ob os k).gen<999) {t:Int} {ns':Nat} (hn:ns≤ns') (ht:0≤t∧t≤(ns':Int)-1):HP (os.set k (KY ((ob os k).gen+1) t)) ns' buf []:=by
 have hol:=h.ol
 have hkl:k<os.length:=by omega
 have hgk:=(h.obj k k8).gen
 have eo: ∀i,ob (os.set k (KY ((ob os k).gen+1) t)) i=if i=k then KY ((ob os k).gen+1) t else ob os i:=fun i=>G3 hkl
 have sl: ∀x,0≤AB os x→AB (os.set k (KY ((ob os k).gen+1) t)) x=AB os x:=fun x hx=>by
  have hb:=BL hx
  have hne:(x % 8).toNat≠k:=fun he=>by
   have:=hb.2.2.2.2.1
   have e:(AB os x).toNat=k:=by omega
   rw [e,hd] at this;cases this
  simp only [AB,List.length_set]
  rw [eo,if_neg hne]
 have ed: ∀x,0≤x→CE (os.set k (KY ((ob os k).gen+1) t)) x=CE os x:=fun x hx=>by
  have e:=SR (os:=os) (v:=KY ((ob os k).gen+1) t) (id:=x) hkl
  rw [PW hd,I7 (o:=KY ((ob os k).gen+1) t) rfl] at e
  have:(KY ((ob os k).gen+1) t).field.count x=0:=List.count_eq_zero.2 fun hm=>by simp [KY,OD] at hm;omega
  omega
 have nosl: ∀x,0≤AB os x→x≠CH k ((ob os k).gen+1):=fun x hx he=>by
  have hb:=BL hx
  rw [H3 k8 (by omega) (by omega)] at he
  have e:(AB os x).toNat=k:=by omega
  have:=hb.2.2.2.2.1
  rw [e,hd] at this;cases this
 refine ⟨by simpa using hol,fun i hi=> ?_,h.bnd,fun x hx=>by rw [sl x (h.blv x hx)];exact h.blv x hx,by simp⟩
 have ho:=h.obj i hi
 by_cases hik:i=k
 ·subst hik
  have e:ob (os.set i (KY ((ob os i).gen+1) t)) i=KY ((ob os i).gen+1) t:=by rw [eo,if_pos rfl]
  refine ⟨by rw [e];simp only [KY];omega,by rw [e];rfl,by rw [e];simp [KY],fun f hf hne=> ?_,fun hh=>(by rw [e] at hh;cases hh),fun _=> ?_⟩
  ·rw [e] at hf;simp [KY,OD] at hf;exact absurd hf hne
  ·rw [e]
   simp only [KY]
   have hz:CE os (CH i ((ob os i).gen+1))=0:=by
    unfold CE
    refine lC fun n hn=> ?_
    obtain ⟨o,ho',rfl⟩:=List.mem_map.1 hn
    obtain ⟨j,hj,rfl⟩:=List.getElem_of_mem ho'
    rw [DN hj]
    cases hv:(ob os j).live with
    | false=>exact PW hv
    | true=>
      rw [I7 hv]
      refine List.count_eq_zero.2 fun hm=> ?_
      have hpos:CH i ((ob os i).gen+1)≠ -1:=by rw [H3 k8 (by omega) (by omega)];omega
      exact nosl _ ((h.obj j (by omega)).lead _ hm hpos).2 rfl
   have hed:=ed (CH i ((ob os i).gen+1)) (by rw [H3 k8 (by omega) (by omega)];omega)
   have hed2:CE (os.set i (KY ((ob os i).gen+1) t)) (CH i ((ob os i).gen+1))=0:=by rw [hed,hz]
   simp only [KY] at hed2
   refine ⟨by omega,ht,by omega,by omega,by rw [hed2];simp,by omega,⟨fun hh=>(by cases hh),fun hm=>absurd rfl (nosl _ (h.blv _ hm))⟩⟩
 ·have e:ob (os.set k (KY ((ob os k).gen+1) t)) i=ob os i:=by rw [eo,if_neg hik]
  refine ⟨by rw [e];exact ho.gen,by rw [e];exact ho.len,by rw [e];exact ho.cb,fun f hf hne=> ?_,fun hh=> ?_,fun hv=> ?_⟩
  ·rw [e] at hf;have:=ho.lead f hf hne;rw [e,sl f this.2];exact this
  ·rw [e] at hh ⊢;exact ho.dead hh
  ·rw [e] at hv ⊢
   obtain ⟨g1,g2,g3,g4,g5,g6,g7⟩:=ho.lv hv
   exact ⟨g1,by omega,g3,g4,by rw [ed _ (by rw [H3 hi g1 ho.gen.2];omega)];exact g5,g6,g7⟩
end
theorem at_mem {l:List ByteArray} {s:ByteArray}:at_ l s<0↔s∉l:=by
 unfold at_;split
 ·rename_i h;simp [h]
 ·rename_i h;simp [h]
theorem J7.snoc {l:List ByteArray} {s:ByteArray} (h:J7 l) (h6:l.length<6) (hs:1≤(s.size:Int)∧(s.size:Int)≤8) (hn:s∉l):J7 (l++[s]):=by
 have e: ∀i,i<l.length→gS (l++[s]) i=gS l i:=fun i hi=>by
  rw [←SD (by simp;omega), ←SD hi,List.getElem_append_left hi]
 have e2:gS (l++[s]) l.length=s:=by rw [←SD (by simp)];simp
 refine ⟨by simp;omega,fun i hi=> ?_,fun i hi=> ?_⟩
 ·by_cases hl:i<l.length
  ·rw [e i hl];exact h.sz i hl
  ·have:i=l.length:=by simp at hi;omega
   rw [this,e2];exact hs
 ·by_cases hl:i<l.length
  ·rw [e i hl,List.take_append_of_le_length (by omega)];exact h.one i hl
  ·have:i=l.length:=by simp at hi;omega
   rw [this,e2];simpa using hn
theorem kU {os:List AU} {buf:List Int} {ss:List ByteArray} {s:ByteArray} (h:HP os ss.length buf []) (hs:J7 ss):HP (FF os ss s).1 (FF os ss s).2.1.length buf []∧J7 (FF os ss s).2.1:=by
 unfold FF
 by_cases hb: ¬(1≤(s.size:Int)∧(s.size:Int)≤8)
 ·rw [if_pos hb];exact ⟨h,hs⟩
 rw [if_neg hb]
 by_cases hf:CF os<0
 ·rw [if_pos hf];exact ⟨h,hs⟩
 rw [if_neg hf]
 obtain ⟨f1,f2,f3⟩:=OR hf
 have hol:=h.ol
 simp only [IQ,Bool.and_eq_true,Bool.not_eq_true',decide_eq_true_eq] at f3
 have hg:=(h.obj (CF os).toNat (by omega)).gen
 have ew:w64 ((ob os (CF os).toNat).gen+1)=(ob os (CF os).toNat).gen+1:=LO ⟨by omega,by omega⟩
 by_cases h6:at_ ss s<0∧6≤ss.length
 ·rw [if_pos h6];exact ⟨h,hs⟩
 rw [if_neg h6,ew]
 simp only
 by_cases ha:at_ ss s<0
 ·rw [if_pos ha,if_pos ha]
  exact ⟨h.put (by omega) f3.1 f3.2 (by simp) (by simp),hs.snoc (by omega) (Decidable.not_not.1 hb) (at_mem.1 ha)⟩
 ·rw [if_neg ha,if_neg ha]
  have hm:s∈ss:=Decidable.byContradiction fun hn=>ha (at_mem.2 hn)
  have hat:at_ ss s≤(ss.length:Int)-1:=by
   unfold at_;rw [if_pos hm]
   have:=List.idxOf_lt_length_of_mem hm
   omega
  exact ⟨h.put (by omega) f3.1 f3.2 (Nat.le_refl _) ⟨by omega,hat⟩,hs⟩
end Go.Proofs.Ytklmcfpgdfibnaa.P
namespace Go.Proofs.Ytklmcfpgdfibnaa.P
open Go Go.Proofs.Ytklmcfpgdfibnaa Go.Proofs.Ytklmcfpgdfibnaa.Eng
set_option linter.unusedVariables false
theorem iU {g:Nat→AU} {id:Int}:(CE (mk8 g) id:Int)=GN 8 fun k=>(NA id (g k):Int):=by
 simp only [CE,mk8,List.map_map]
 simp [List.range_succ,GN]
 omega
section
variable {os:List AU} {ns:Nat} {buf:List Int} {i j k:Nat}
theorem HP.vX (h:HP os ns buf []) (hk:k<8) (hj:j<8) (hv:(ob os j).live=true):E os k j=NA (CH j (ob os j).gen) (ob os k):=by
 have hoj:=h.obj j hj
 have g1:=(hoj.lv hv).1
 have e1:(BN os k).count (j:Int)=(ob os k).field.count (CH j (ob os j).gen):=by
  unfold BN
  rw [List.count_filter (by simp),List.count_eq_countP,List.countP_map,List.count_eq_countP]
  refine List.countP_congr fun f hf=> ?_
  simp only [Function.comp,beq_iff_eq]
  constructor
  ·intro he;exact M5 he g1 hoj.gen.2
  ·intro he;rw [he];exact H7 h.ol hj hv g1 hoj.gen.2
 unfold E
 rw [e1]
 cases hd:(ob os k).live with
 | true=>rw [I7 hd]
 | false=>
   rw [PW hd,List.count_eq_zero.2 fun hm=> ?_]
   have hne:CH j (ob os j).gen≠ -1:=by rw [H3 hj g1 hoj.gen.2];omega
   have:=((h.obj k hk).lead _ hm hne).1
   rw [hd] at this;cases this
theorem HP.fH (h:HP os ns buf []) (hj:j<8) (hv:(ob os j).live=true):(CE os (CH j (ob os j).gen):Int)=S os (fun _=>true) j:=by
 have e:CE os (CH j (ob os j).gen)=CE (mk8 (ob os)) (CH j (ob os j).gen):=by rw [←UR h.ol]
 rw [e,iU]
 exact KE fun k hk=>by rw [if_pos rfl,h.vX hk hj hv]
theorem RB.live (h:RB os buf k):(ob os k).live=true:=by
 obtain ⟨b,_,s,hs,hr⟩:=h
 have hb:=BL (l:=os) (id:=b) (by omega)
 have e:(AB os b).toNat=s:=by omega
 rw [e] at hb
 exact hr.closed (P:=fun k=>(ob os k).live=true) hb.2.2.2.2.1 fun _ _ _ hj=>(CY hj).2.2.2.2
theorem uV {P:Nat→Bool} (hk:k<8) (hp:P k=true):E os k j≤S os P j:=by
 have:=SZ (n:=8) (k0:=k) (f:=fun x=>if x=k then 0 else if P x then E os x j else 0) (g:=fun x=>if P x then E os x j else 0) hk fun x hx hne=>by simp [hne]
 have h0:0≤GN 8 fun x=>if x=k then 0 else if P x then E os x j else 0:=by
  have:=LY (n:=8) (f:=fun _=>0) (g:=fun x=>if x=k then 0 else if P x then E os x j else 0) fun x hx=>by
   split
   ·exact Int.le_refl _
   ·split
    ·exact SK _ _ _
    ·exact Int.le_refl _
  rw [JZ (fun _ _=>rfl)] at this;exact this
 simp only [hp,if_true] at this
 unfold S;omega
theorem HP.ext (h:HP os ns buf []) (hj:j<8) (hv:(ob os j).live=true):EX os (fun i=>(ob os i).count) (QC os buf) j↔0<(ob os j).holds+(ob os j).roots+S os (fun k=> !QC os buf k) j:=by
 have hcl:=h.VA (H7 h.ol hj hv ((h.obj j hj).lv hv).1 (h.obj j hj).gen.2)
 have e1:=h.fH hj hv
 have e2:=ZX (os:=os) (P:=QC os buf) (i:=j)
 have n1:0≤S os (QC os buf) j:=by
  have:=LY (n:=8) (f:=fun _=>0) (g:=fun x=>if QC os buf x then E os x j else 0) fun x hx=>by
   split
   ·exact SK _ _ _
   ·exact Int.le_refl _
  rw [JZ (fun _ _=>rfl)] at this;exact this
 have n2:0≤S os (fun k=> !QC os buf k) j:=by
  have:=LY (n:=8) (f:=fun _=>0) (g:=fun x=>if (!QC os buf x) then E os x j else 0) fun x hx=>by
   split
   ·exact SK _ _ _
   ·exact Int.le_refl _
  rw [JZ (fun _ _=>rfl)] at this;exact this
 unfold EX
 simp only
 rw [LO ⟨by omega,by omega⟩]
 omega
theorem qZ {P:Nat→Bool} (h:0<S os P j): ∃k,k<8∧P k=true∧0<E os k j:=by
 refine Classical.byContradiction fun hn=> ?_
 have:S os P j=0:=JZ fun k hk=>by
  cases hp:P k with
  | false=>simp
  | true=>
    have:=SK os k j
    have: ¬0<E os k j:=fun hh=>hn ⟨k,hk,hp,hh⟩
    simp;omega
 omega
theorem nT (h:0<E os k j):(j:Int)∈BN os k:=by
 unfold E at h;exact List.count_pos_iff.1 (by omega)
theorem sH (h:HP os ns buf []) (hk:k<8) {f:Int} (hf:f∈(ob os k).field) (hj:AB os f=(j:Int)):(j:Int)∈BN os k:=by
 unfold BN
 exact List.mem_filter.2 ⟨List.mem_map.2 ⟨f,hf,hj⟩,by simp⟩
theorem nD (h:HP os ns buf []) {W:Nat→Bool} (hW:W=JR os (fun i=>(ob os i).count) buf) (hk:k<8) (hw:W k=false) (hj:j<8) (hm:(j:Int)∈BN os k):W j=false:=by
 cases hwj:W j with
 | false=>rfl
 | true=>
   exfalso
   have hjl:(ob os j).live=true:=by have:=(CY hm).2.2.2.2;rwa [Int.toNat_natCast] at this
   rw [hW,KM] at hwj
   obtain ⟨hr,hn⟩:=hwj
   by_cases hrk:RB os buf k
   ·have hex: ∃x,Out os (fun i=>(ob os i).count) buf x∧Reach os x k:=Classical.byContradiction fun hh=>by
     have:=KM.2 (⟨hrk,hh⟩:RB os buf k∧ ¬ ∃x,Out os (fun i=>(ob os i).count) buf x∧Reach os x k)
     rw [←hW,hw] at this;cases this
    obtain ⟨x,hx,hxk⟩:=hex
    exact hn ⟨x,hx,by have:=Reach.step hxk hm;rwa [Int.toNat_natCast] at this⟩
   ·refine hn ⟨j,⟨hj,hr,(h.ext hj hjl).2 ?_⟩, .refl⟩
    have e:=uV (os:=os) (P:=fun k=> !QC os buf k) (j:=j) hk (by simp [Z6.2 hrk])
    have hE:0<E os k j:=by unfold E;have:=List.count_pos_iff.2 hm;omega
    have hcl:=h.VA (H7 h.ol hj hjl ((h.obj j hj).lv hjl).1 (h.obj j hj).gen.2)
    omega
theorem jU (h:HP os ns buf []) {W:Nat→Bool} (hW:W=JR os (fun i=>(ob os i).count) buf) (hi:i<8) (hv:(ob os i).live=true) (hw:W i=false) (h0:(ob os i).holds+(ob os i).roots=0): ∃p,p<8∧(ob os p).live=true∧W p=false∧CH i (ob os i).gen∈(ob os p).field:=by
 have hoi:=h.obj i hi
 have g1:=(hoi.lv hv).1
 have back: ∀p,p<8→(i:Int)∈BN os p→(ob os p).live=true∧CH i (ob os i).gen∈(ob os p).field:=fun p hp hm=>by
  unfold BN at hm
  obtain ⟨h1,_⟩:=List.mem_filter.1 hm
  obtain ⟨f,hf,he⟩:=List.mem_map.1 h1
  have hid:=M5 he g1 hoi.gen.2
  rw [hid] at hf
  have hne:CH i (ob os i).gen≠ -1:=by rw [H3 hi g1 hoi.gen.2];omega
  exact ⟨((h.obj p hp).lead _ hf hne).1,hf⟩
 have hcl:=h.VA (H7 h.ol hi hv g1 hoi.gen.2)
 have hes:=h.fH hi hv
 have notRB: ∀p, ¬RB os buf p→W p=false:=fun p hp=>by
  cases hwp:W p with
  | false=>rfl
  | true=>rw [hW,KM] at hwp;exact absurd hwp.1 hp
 by_cases hri:RB os buf i
 ·have hex: ∃x,Out os (fun i=>(ob os i).count) buf x∧Reach os x i:=Classical.byContradiction fun hh=>by
   have:=KM.2 (⟨hri,hh⟩:RB os buf i∧ ¬ ∃x,Out os (fun i=>(ob os i).count) buf x∧Reach os x i)
   rw [←hW,hw] at this;cases this
  obtain ⟨y,hy,hyi⟩:=hex
  generalize hii:i=i' at hyi
  cases hyi with
  | refl=>
    subst hii
    have:=(h.ext hi hv).1 hy.2.2
    obtain ⟨p,hp,hpp,hE⟩:=qZ (os:=os) (P:=fun k=> !QC os buf k) (j:=i) (by omega)
    have hpn: ¬RB os buf p:=by simp only [Bool.not_eq_true'] at hpp;exact Z6.1 hpp
    obtain ⟨b1,b2⟩:=back p hp (nT hE)
    exact ⟨p,hp,b1,notRB p hpn,b2⟩
  | step hyp hj=>
    rename_i p jj
    have hjb:=CY hj
    have hji:jj=(i:Int):=by omega
    rw [hji] at hj
    have hp8:p<8:=hyp.lt hy.1
    obtain ⟨b1,b2⟩:=back p hp8 hj
    refine ⟨p,hp8,b1, ?_,by rw [←hii];exact b2⟩
    cases hwp:W p with
    | false=>rfl
    | true=>rw [hW,KM] at hwp;exact absurd ⟨y,hy,hyp⟩ hwp.2
 ·obtain ⟨p,hp,_,hE⟩:=qZ (os:=os) (P:=fun _=>true) (j:=i) (by omega)
  obtain ⟨b1,b2⟩:=back p hp (nT hE)
  refine ⟨p,hp,b1,notRB p fun hr=>hri ?_,b2⟩
  have:=hr.next (nT hE)
  rwa [Int.toNat_natCast] at this
theorem HP.oO (h:HP os ns buf []):HP (LJ os buf).1 ns [] []:=by
 unfold LJ
 obtain ⟨W,hW⟩: ∃W,W=JR os (fun i=>(ob os i).count) buf:=⟨_,rfl⟩
 rw [←hW]
 simp only
 have hol:=h.ol
 have wl: ∀k,W k=true→(ob os k).live=true:=fun k hk=>by rw [hW,KM] at hk;exact RB.live hk.1
 have mo: ∀i,i<8→W i=false→DE os W i={ob os i with purple:=false}:=fun i hi hw=>by unfold DE;rw [if_neg (by rw [hw];decide)]
 have mw: ∀i,W i=true→DE os W i=B6 (ob os i).gen:=fun i hw=>by unfold DE;rw [if_pos hw]
 have fo: ∀i,i<8→ob (mk8 (GF os W)) i=GF os W i:=fun i hi=>HV hi
 have fs:=fun i=>OZ os W i
 have live: ∀i,i<8→(ob (mk8 (GF os W)) i).live=true→(ob os i).live=true∧W i=false:=fun i hi hv=>by
  rw [fo i hi,(fs i).1] at hv
  cases hw:W i with
  | true=>rw [mw i hw] at hv;cases hv
  | false=>rw [mo i hi hw] at hv;exact ⟨hv,rfl⟩
 have sl: ∀f, ∀j:Nat,AB os f=(j:Int)→W j=false→AB (mk8 (GF os W)) f=(j:Int):=fun f j hj hw=>by
  have hb:=BL (l:=os) (id:=f) (by omega)
  have e:(AB os f).toNat=j:=by omega
  rw [e] at hb
  have hmj:(f % 8).toNat=j:=by omega
  rw [K7 hb.2.1 (CG _) (by rw [CG];omega) (by rw [hmj,fo j hb.2.2.2.1,(fs j).1,mo j hb.2.2.2.1 hw];exact hb.2.2.2.2.1) (by rw [hmj,fo j hb.2.2.2.1,(fs j).2.1,mo j hb.2.2.2.1 hw];exact hb.2.2.2.2.2)]
  omega
 have edm: ∀x,CE (mk8 (GF os W)) x=CE (mk8 (DE os W)) x:=fun x=>OT (by rw [CG,CG]) fun i hi=>by
  rw [CG] at hi
  rw [HV hi,HV hi];exact ⟨(fs i).1,(fs i).2.2⟩
 have edl: ∀x,CE (mk8 (DE os W)) x≤24:=fun x=>by
  have:=MY (l:=mk8 (DE os W)) (id:=x) (b:=3) fun o ho=>by
   obtain ⟨i,hi,rfl⟩:=T9 ho
   cases hw:W i with
   | true=>rw [mw i hw];simp [B6,OD]
   | false=>rw [mo i hi hw];have:=(h.obj i hi).len;simp only;omega
  rw [CG] at this;exact this
 refine ⟨CG _,fun i hi=> ?_,List.nodup_nil,by simp,by simp⟩
 have ho:=h.obj i hi
 cases hw:W i with
 | true=>
   have e:ob (mk8 (GF os W)) i=B6 (ob os i).gen:=by
    rw [fo i hi];unfold GF;rw [mw i hw,if_neg (by simp [B6])]
   refine ⟨by rw [e];exact ho.gen,by rw [e];rfl,by rw [e];simp [B6],fun f hf hne=> ?_,fun _=>by rw [e];exact ⟨rfl,rfl,rfl,rfl,rfl⟩,fun hv=>by rw [e] at hv;cases hv⟩
   rw [e] at hf;simp [B6,OD] at hf;exact absurd hf hne
 | false=>
   have lead: ∀f∈(ob os i).field,f≠ -1→(ob os i).live=true∧0≤AB (mk8 (GF os W)) f:=fun f hf hne=>by
    have hl:=ho.lead f hf hne
    obtain ⟨j,hj⟩: ∃j:Nat,AB os f=(j:Int):=⟨(AB os f).toNat,by omega⟩
    have hb:=BL (l:=os) (id:=f) (by omega)
    have hwj:=nD h hW hi hw (by omega) (sH h hi hf hj)
    rw [sl f j hj hwj]
    exact ⟨hl.1,by omega⟩
   cases hv:(ob os i).live with
   | false=>
     have e:ob (mk8 (GF os W)) i={ob os i with purple:=false}:=by
      rw [fo i hi];unfold GF;rw [mo i hi hw,if_neg (by simp only;rw [hv];decide)]
     have hd:=ho.dead hv
     refine ⟨by rw [e];exact ho.gen,by rw [e];exact ho.len,by rw [e];exact ho.cb,fun f hf hne=> ?_,fun _=>by rw [e];exact ⟨hd.1,hd.2.1,hd.2.2.1,hd.2.2.2.1,rfl⟩,fun hh=> ?_⟩
     ·rw [e] at hf ⊢;exact lead f hf hne
     ·rw [e] at hh;simp only at hh;rw [hv] at hh;cases hh
   | true=>
     obtain ⟨g1,g2,g3,g4,g5,g6,g7⟩:=ho.lv hv
     have hin:inE (mk8 (DE os W)) i=CE (mk8 (DE os W)) (CH i (ob os i).gen):=by
      have:=RQ (os:=mk8 (DE os W)) (CG _) hi (by rw [HV hi,mo i hi hw];exact hv)
      rw [HV hi,mo i hi hw] at this;exact this
     have hed:=edl (CH i (ob os i).gen)
     have ew:w64 (w64 ((ob os i).holds+(ob os i).roots)+CE (mk8 (DE os W)) (CH i (ob os i).gen))=(ob os i).holds+(ob os i).roots+CE (mk8 (DE os W)) (CH i (ob os i).gen):=by
      rw [ME];exact LO ⟨by omega,by omega⟩
     have e:ob (mk8 (GF os W)) i={ob os i with purple:=false,count:=(ob os i).holds+(ob os i).roots+CE (mk8 (DE os W)) (CH i (ob os i).gen)}:=by
      rw [fo i hi];unfold GF;rw [mo i hi hw,if_pos (by exact hv),hin]
      simp only
      rw [ew]
     have hpos:1≤(ob os i).holds+(ob os i).roots+CE (mk8 (DE os W)) (CH i (ob os i).gen):=by
      by_cases h0:(ob os i).holds+(ob os i).roots=0
      ·obtain ⟨p,hp,pl,pw,pm⟩:=jU h hW hi hv hw h0
       have h1:NA (CH i (ob os i).gen) (DE os W p)≤CE (mk8 (DE os W)) (CH i (ob os i).gen):=by
        unfold CE
        exact l7 (List.mem_map.2 ⟨DE os W p,by rw [←HV (f:=DE os W) hp, ←DN (by rw [CG];exact hp)];exact List.getElem_mem _,rfl⟩)
       rw [mo p hp pw,I7 (by exact pl)] at h1
       have:=List.count_pos_iff.2 pm
       simp only at h1
       omega
      ·omega
     refine ⟨by rw [e];exact ho.gen,by rw [e];exact ho.len,by rw [e];simp only;omega,fun f hf hne=> ?_,fun hd=> ?_,fun _=> ?_⟩
     ·rw [e] at hf ⊢;exact lead f hf hne
     ·rw [e] at hd;simp only at hd;rw [hv] at hd;cases hd
     ·rw [e,edm]
      exact ⟨g1,g2,g3,g4,by simp,hpos,by simp⟩
end
end Go.Proofs.Ytklmcfpgdfibnaa.P
