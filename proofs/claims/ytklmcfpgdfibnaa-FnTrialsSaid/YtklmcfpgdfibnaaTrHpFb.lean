/- A part of the proof. -/
import Derived.Test.YtklmcfpgdfibnaaTrGdA
import Derived.Test.YtklmcfpgdfibnaaChecked
import Derived.Test.YtklmcfpgdfibnaaTrEngM2
import Derived.KernelRfl
namespace Go.Proofs.Ytklmcfpgdfibnaa.P
open Go Go.Proofs.Ytklmcfpgdfibnaa Go.Proofs.Ytklmcfpgdfibnaa.Eng
set_option linter.unusedVariables false
section
variable {os:List AG} {ns:Nat} {buf pd pd':List Int} {k:Nat} {id:Int}
theorem HP.me (h:HP os ns buf pd) (hk:AA os id=(k:Int)):k<8∧(ob os k).live=true∧id=CC k (ob os k).gen:=by
 have hb:=BD (l:=os) (id:=id) (by omega)
 have e:(AA os id).toNat=k:=by omega
 rw [e] at hb
 have ho:=h.obj k hb.2.2.2.1
 exact ⟨hb.2.2.2.1,hb.2.2.2.2.1,MN hk (ho.lv hb.2.2.2.2.1).1 ho.gen.2⟩
theorem HP.upd (h:HP os ns buf pd) (hk:AA os id=(k:Int)) {v:AG} (v1:v.live=(ob os k).live) (v2:v.gen=(ob os k).gen) (v3:v.site=(ob os k).site) (v4:0≤v.holds∧v.holds≤20) (v5:0≤v.roots∧v.roots≤20) (v6:v.field=(ob os k).field) (v7:v.purple=(ob os k).purple) (vc:v.count=v.holds+v.roots+CE os id+pd'.count id) (vb:1≤v.count∧v.count≤1000) (hp: ∀x,x≠id→pd'.count x=pd.count x) (hl: ∀x∈pd',0≤AA os x):HP (os.set k v) ns buf pd':=by
 obtain ⟨k8,kv,kid⟩:=h.me hk
 have hok:=h.obj k k8
 have kg1:=(hok.lv kv).1
 have kg2:=hok.gen.2
 have hol:=h.ol
 have hkl:k<os.length:=by omega
 have sl: ∀x,AA (os.set k v) x=AA os x:=fun x=>FD (by simp) fun i hi=>by
  rw [D4 hkl];split
  ·rename_i he;subst he;exact ⟨v1,v2⟩
  ·exact ⟨rfl,rfl⟩
 have ed: ∀x,CE (os.set k v) x=CE os x:=fun x=>ON (by simp) fun i hi=>by
  rw [D4 hkl];split
  ·rename_i he;subst he;exact ⟨v1,v6⟩
  ·exact ⟨rfl,rfl⟩
 refine ⟨by simpa using hol,fun i hi=> ?_,h.bnd,fun x hx=>by rw [sl];exact h.blv x hx,fun x hx=>by rw [sl];exact hl x hx⟩
 have ho:=h.obj i hi
 by_cases hik:i=k
 ·subst hik
  have e:ob (os.set i v) i=v:=by rw [D4 hkl,if_pos rfl]
  obtain ⟨g1,g2,g3,g4,g5,g6,g7⟩:=ho.lv kv
  refine ⟨by rw [e,v2];exact ho.gen,by rw [e,v6];exact ho.len,by rw [e];exact vb.2,fun f hf hne=> ?_,fun hd=> ?_,fun _=> ?_⟩
  ·rw [e,v6] at hf;rw [e,v1,sl];exact ho.lead f hf hne
  ·rw [e,v1,kv] at hd;cases hd
  ·rw [e,v2,v3,ed,v7, ←kid]
   rw [←kid] at g7
   exact ⟨g1,g2,v4,v5,vc,vb.1,g7⟩
 ·have e:ob (os.set k v) i=ob os i:=by rw [D4 hkl,if_neg hik]
  refine ⟨by rw [e];exact ho.gen,by rw [e];exact ho.len,by rw [e];exact ho.cb,fun f hf hne=> ?_,fun hd=> ?_,fun hv=> ?_⟩
  ·rw [e] at hf;rw [e,sl];exact ho.lead f hf hne
  ·rw [e] at hd ⊢;exact ho.dead hd
  ·rw [e] at hv ⊢
   obtain ⟨g1,g2,g3,g4,g5,g6,g7⟩:=ho.lv hv
   have hne:CC i (ob os i).gen≠id:=by rw [kid];exact Y6 hi k8 g1 ho.gen.2 kg1 kg2 hik
   exact ⟨g1,g2,g3,g4,by rw [ed,hp _ hne];exact g5,g6,g7⟩
theorem HP.P9 (h:HP os ns buf []) (hk:AA os id=(k:Int)):(ob os k).count=(ob os k).holds+(ob os k).roots+CE os id∧1≤(ob os k).count∧(ob os k).count≤64∧(0≤(ob os k).holds∧(ob os k).holds≤20)∧(0≤(ob os k).roots∧(ob os k).roots≤20):=by
 obtain ⟨k8,kv,kid⟩:=h.me hk
 obtain ⟨_,_,g3,g4,g5,g6,_⟩:=(h.obj k k8).lv kv
 rw [←kid] at g5
 have hed:=OI (l:=os) (id:=id) (b:=3) fun o ho'=>by
  obtain ⟨i,hi,rfl⟩:=List.getElem_of_mem ho'
  rw [DB hi,(h.obj i (by have:=h.ol;omega)).len];omega
 have hol:=h.ol
 simp only [List.count_nil] at g5
 exact ⟨by omega,g6,by omega,g3,g4⟩
theorem bA {os:List AG} {id:Int} {k:Nat} {v:AG} (hk:AA os id=(k:Int)) (hkl:k<os.length) (v1:v.live=(ob os k).live) (v2:v.gen=(ob os k).gen):D5 (os.set k v) id=os.set k {v with count:=w64 (v.count+1)}:=by
 have sl:AA (os.set k v) id=k:=by
  rw [←hk]
  exact FD (by simp) fun i hi=>by
   rw [D4 hkl];split
   ·rename_i he;subst he;exact ⟨v1,v2⟩
   ·exact ⟨rfl,rfl⟩
 have e:ob (os.set k v) k=v:=by rw [D4 hkl,if_pos rfl]
 unfold D5
 rw [sl,if_neg (by omega),Int.toNat_natCast,e,List.set_set]
def NW (a b:List AG):Prop:=b.length=a.length∧ ∀i,(ob b i).live=(ob a i).live∧(ob b i).gen=(ob a i).gen∧(ob b i).site=(ob a i).site
theorem NW.set {os:List AG} {k:Nat} {v:AG} (hk:k<os.length) (h1:v.live=(ob os k).live) (h2:v.gen=(ob os k).gen) (h3:v.site=(ob os k).site):NW os (os.set k v):=by
 refine ⟨by simp,fun i=> ?_⟩
 rw [D4 hk];split
 ·rename_i he;subst he;exact ⟨h1,h2,h3⟩
 ·exact ⟨rfl,rfl,rfl⟩
def Mid (os:List AG) (ns:Nat) (buf:List Int) (r:List AG×List Int×An):Prop:=
 (∃c:Int,(1≤c∧c≤6)∧r=(os,buf,⟨c,0,[]⟩))∨(∃os1,HP os1 ns buf []∧NW os os1∧(Gd os buf→Gd os1 buf)∧r=(os1,buf,⟨0,0,[]⟩))∨
 ∃os1 x,HP os1 ns buf [x]∧NW os os1∧(Gd os buf→Gd os1 (buf++[x]))∧r=NS (FP os1 buf [x])
theorem Mid.ok {r:List AG×List Int×An} (h:HP os ns buf []) (m:Mid os ns buf r):HP r.1 ns r.2.1 []:=by
 rcases m with ⟨c,_,rfl⟩ | ⟨os1,h1,_,_,rfl⟩ | ⟨os1,x,h1,_,_,rfl⟩
 ·exact h
 ·exact h1
 ·exact HP.FP h1
theorem Mid.gd {r:List AG×List Int×An} (g:Gd os buf) (m:Mid os ns buf r):Gd r.1 r.2.1:=by
 rcases m with ⟨c,_,rfl⟩ | ⟨os1,h1,_,h2,rfl⟩ | ⟨os1,x,h1,_,h2,rfl⟩
 ·exact g
 ·exact h2 g
 ·exact o9 h1 (h2 g)
theorem HP.bC (h:HP os ns buf []) {kd:Int}:Mid os ns buf (G4 os buf kd id):=by
 unfold G4
 by_cases hs:AA os id<0
 ·rw [if_pos hs];exact .inl ⟨1,by decide,rfl⟩
 rw [if_neg hs]
 obtain ⟨k,hk⟩: ∃k:Nat,AA os id=(k:Int):=⟨(AA os id).toNat,by omega⟩
 rw [hk,Int.toNat_natCast]
 obtain ⟨c1,c2,c3,c4,c5⟩:=h.P9 hk
 have hkl:k<os.length:=by have:=(h.me hk).1;have:=h.ol;omega
 have ew:w64 ((ob os k).count+1)=(ob os k).count+1:=G8 ⟨by omega,by omega⟩
 have hls:0≤AA os id:=by omega
 split
 ·split
  ·exact .inl ⟨4,by decide,rfl⟩
  ·simp only
   rw [bA hk hkl]
   ·simp only [ew]
    refine .inr (.inl ⟨_, ?_, ?_, ?_,rfl⟩)
    ·exact h.upd hk rfl rfl rfl (by simp only;omega) (by simp only;omega) rfl rfl (by simp only [List.count_nil];omega) (by simp only;omega) (fun _ _=>rfl) (by simp)
    ·exact NW.set hkl rfl rfl rfl
    ·exact fun g=>g.hold hkl rfl rfl rfl (.inl (by simp only;omega)) fun _ h=>h
   ·rfl
   ·rfl
 ·split
  ·split
   ·exact .inl ⟨4,by decide,rfl⟩
   ·simp only
    rw [bA hk hkl]
    ·simp only [ew]
     refine .inr (.inl ⟨_, ?_, ?_, ?_,rfl⟩)
     ·exact h.upd hk rfl rfl rfl (by simp only;omega) (by simp only;omega) rfl rfl (by simp only [List.count_nil];omega) (by simp only;omega) (fun _ _=>rfl) (by simp)
     ·exact NW.set hkl rfl rfl rfl
     ·exact fun g=>g.hold hkl rfl rfl rfl (.inl (by simp only;omega)) fun _ h=>h
    ·rfl
    ·rfl
  ·split
   ·split
    ·exact .inl ⟨5,by decide,rfl⟩
    ·refine .inr (.inr ⟨_,_, ?_, ?_, ?_,rfl⟩)
     ·exact h.upd (pd':=[id]) hk rfl rfl rfl (by simp only;omega) (by simp only;omega) rfl rfl (by simp only [List.count_singleton_self];omega) (by simp only;omega) (fun x hx=>by simp [Ne.symm hx]) (by simpa using hls)
     ·exact NW.set hkl rfl rfl rfl
     ·exact fun g=>g.hold hkl rfl rfl rfl (.inr ⟨id,by simp,hk⟩) fun _ h=>List.mem_append_left _ h
   ·split
    ·exact .inl ⟨5,by decide,rfl⟩
    ·refine .inr (.inr ⟨_,_, ?_, ?_, ?_,rfl⟩)
     ·exact h.upd (pd':=[id]) hk rfl rfl rfl (by simp only;omega) (by simp only;omega) rfl rfl (by simp only [List.count_singleton_self];omega) (by simp only;omega) (fun x hx=>by simp [Ne.symm hx]) (by simpa using hls)
     ·exact NW.set hkl rfl rfl rfl
     ·exact fun g=>g.hold hkl rfl rfl rfl (.inr ⟨id,by simp,hk⟩) fun _ h=>List.mem_append_left _ h
theorem HP.hold (h:HP os ns buf []) {kd:Int}:HP (G4 os buf kd id).1 ns (G4 os buf kd id).2.1 []:=h.bC.ok h
theorem iW {os:List AG} {c:Int} {i:Nat} (hol:os.length=8):(ob (D5 os c) i).count=if AA os c=(i:Int) then w64 ((ob os i).count+1) else (ob os i).count:=by
 unfold D5
 split
 ·rw [if_neg (by omega)]
 ·have hb:=BD (l:=os) (id:=c) (by omega)
  rw [D4 (by omega)]
  by_cases hi:i=(AA os c).toNat
  ·rw [if_pos hi,if_pos (by omega), ←hi]
  ·rw [if_neg hi,if_neg (by omega)]
theorem HP.XO (h:HP os ns buf []) {a b c:Int}:Mid os ns buf (I9 os buf a b c):=by
 unfold I9
 by_cases hs:AA os a<0∨(c≠ -1∧AA os c<0)
 ·rw [if_pos hs];exact .inl ⟨1,by decide,rfl⟩
 rw [if_neg hs]
 by_cases hb: ¬(0≤b∧b≤2)
 ·rw [if_pos hb];exact .inl ⟨2,by decide,rfl⟩
 rw [if_neg hb]
 obtain ⟨k,hk⟩: ∃k:Nat,AA os a=(k:Int):=⟨(AA os a).toNat,by omega⟩
 rw [hk,Int.toNat_natCast]
 obtain ⟨j,hj⟩: ∃j:Nat,b.toNat=j:=⟨_,rfl⟩
 rw [hj]
 obtain ⟨k8,kv,kid⟩:=h.me hk
 have hok:=h.obj k k8
 have hol:=h.ol
 have hkl:k<os.length:=by omega
 have gl:=XF os c
 have hkg:k<(D5 os c).length:=by omega
 have jl:j<(ob os k).field.length:=by rw [hok.len];omega
 have gob:=fun i=>Z7 (os:=os) (id:=c) (i:=i)
 obtain ⟨os2,hos2⟩: ∃os2,os2=(D5 os c).set k {ob (D5 os c) k with field:=(ob os k).field.set j c}:=⟨_,rfl⟩
 rw [←hos2]
 have eo: ∀i,ob os2 i=if i=k then {ob (D5 os c) k with field:=(ob os k).field.set j c} else ob (D5 os c) i:=fun i=>by rw [hos2];exact D4 hkg
 have l2:os2.length=os.length:=by rw [hos2,List.length_set,gl]
 have same: ∀i,(ob os2 i).live=(ob os i).live∧(ob os2 i).gen=(ob os i).gen∧(ob os2 i).site=(ob os i).site∧(ob os2 i).holds=(ob os i).holds∧(ob os2 i).roots=(ob os i).roots∧(ob os2 i).purple=(ob os i).purple:=fun i=>by
  obtain ⟨q1,q2,q3,q4,q5,_,q7⟩:=gob i
  rw [eo];split
  ·rename_i he;subst he;exact ⟨q1,q2,q3,q4,q5,q7⟩
  ·exact ⟨q1,q2,q3,q4,q5,q7⟩
 have sml:NW os os2:=⟨l2,fun i=>⟨(same i).1,(same i).2.1,(same i).2.2.1⟩⟩
 have sl: ∀x,AA os2 x=AA os x:=fun x=>FD l2 fun i hi=>⟨(same i).1,(same i).2.1⟩
 have cn: ∀i,(ob os2 i).count=if AA os c=(i:Int) then w64 ((ob os i).count+1) else (ob os i).count:=fun i=>by
  rw [eo, ←iW hol];split
  ·rename_i he;subst he;rfl
  ·rfl
 have fdk:(ob os2 k).field=(ob os k).field.set j c:=by rw [eo,if_pos rfl]
 have fdo: ∀i,i≠k→(ob os2 i).field=(ob os i).field:=fun i hi=>by rw [eo,if_neg hi];exact (gob i).2.2.2.2.2.1
 obtain ⟨was,hwas⟩: ∃w,gI (ob os k).field j=w:=⟨_,rfl⟩
 rw [hwas]
 have hwm:was∈(ob os k).field:=by rw [←hwas];exact DU jl
 have eg: ∀x,CE (D5 os c) x=CE os x:=fun x=>ON gl fun i hi=>⟨(gob i).1,(gob i).2.2.2.2.2.1⟩
 have ed: ∀x,(CE os2 x:Int)+(if was=x then 1 else 0)=CE os x+(if c=x then 1 else 0):=fun x=>by
  have e:=O3 (os:=D5 os c) (v:={ob (D5 os c) k with field:=(ob os k).field.set j c}) (id:=x) hkg
  rw [←hos2,eg,H8 (by rw [(gob k).1];exact kv),H8 (by simp only;rw [(gob k).1];exact kv),(gob k).2.2.2.2.2.1] at e
  simp only at e
  have ec:=List.count_set (a:=c) (b:=x) jl
  rw [DA jl,hwas] at ec
  have hcp:was=x→0<(ob os k).field.count x:=fun he=>List.count_pos_iff.2 (he ▸ hwm)
  simp only [beq_iff_eq] at ec
  by_cases h1:was=x
  ·have:=hcp h1
   by_cases h2:c=x
   ·rw [if_pos h1,if_pos h2] at ec ⊢;omega
   ·rw [if_pos h1,if_neg h2] at ec ⊢;omega
  ·by_cases h2:c=x
   ·rw [if_neg h1,if_pos h2] at ec ⊢;omega
   ·rw [if_neg h1,if_neg h2] at ec ⊢;omega
 have key: ∀pd':List Int,(∀x,8≤x→(pd'.count x:Int)=if was=x then 1 else 0)→(∀x∈pd',0≤AA os x)→HP os2 ns buf pd':=fun pd' hp hpl=>by
  refine ⟨by omega,fun i hi=> ?_,h.bnd,fun x hx=>by rw [sl];exact h.blv x hx,fun x hx=>by rw [sl];exact hpl x hx⟩
  have ho:=h.obj i hi
  obtain ⟨q1,q2,q3,q4,q5,q7⟩:=same i
  have hc8:AA os c=(i:Int)→(ob os i).live=true∧c=CC i (ob os i).gen:=fun hh=>⟨(h.me hh).2.1,(h.me hh).2.2⟩
  have wc: ∀(hv:(ob os i).live=true),(ob os2 i).count=(ob os i).count+if c=CC i (ob os i).gen then 1 else 0:=fun hv=>by
   have hsid:=FA hol hi hv (ho.lv hv).1 ho.gen.2
   have:=ho.cb;have:=(ho.lv hv).2.2.2.2.2.1
   rw [cn]
   by_cases hh:AA os c=(i:Int)
   ·rw [if_pos hh,if_pos (hc8 hh).2,G8 ⟨by omega,by omega⟩]
   ·rw [if_neg hh,if_neg fun he=>hh (by rw [he];exact hsid)];omega
  refine ⟨by rw [q2];exact ho.gen, ?_, ?_,fun f hf hne=> ?_,fun hd=> ?_,fun hv=> ?_⟩
  ·by_cases hik:i=k
   ·rw [hik,fdk,List.length_set];exact hok.len
   ·rw [fdo i hik];exact ho.len
  ·cases hv:(ob os i).live with
   | true=>
     have hcl:=(h.P9 (FA hol hi hv (ho.lv hv).1 ho.gen.2)).2.2.1
     rw [wc hv];split <;> omega
   | false=>
     rw [cn,if_neg fun hh=>by have:=(hc8 hh).1;rw [hv] at this;cases this]
     exact ho.cb
  ·rw [q1,sl]
   by_cases hik:i=k
   ·subst hik
    rw [fdk] at hf
    rcases List.mem_or_eq_of_mem_set hf with hf | rfl
    ·exact ho.lead f hf hne
    ·exact ⟨kv,by omega⟩
   ·rw [fdo i hik] at hf;exact ho.lead f hf hne
  ·rw [q1] at hd
   rw [q3,q4,q5,q7,cn,if_neg fun hh=>by have:=(hc8 hh).1;rw [hd] at this;cases this]
   exact ho.dead hd
  ·rw [q1] at hv
   obtain ⟨g1,g2,g3,g4,g5,g6,g7⟩:=ho.lv hv
   have hid8:8≤CC i (ob os i).gen:=by rw [GV hi g1 ho.gen.2];omega
   have e1:=ed (CC i (ob os i).gen)
   have e2:=hp _ hid8
   have e3:=wc hv
   simp only [List.count_nil] at g5
   rw [q2,q3,q4,q5,q7,e3]
   refine ⟨g1,g2,g3,g4, ?_, ?_,g7⟩
   ·rw [e2]
    split <;> split at e1 <;> simp_all <;> omega
   ·split <;> omega
 have gd2: ∀L':List Int,(0≤AA os was→was∈L')→(∀x∈buf,x∈L')→Gd os buf→Gd os2 L':=fun L' hw hL g=>
  g.uX (w:=was) (fun i=>⟨(same i).1.symm,(same i).2.2.2.1.symm,(same i).2.2.2.2.1.symm⟩) sl (fun y x hx=>by
    obtain ⟨h0,f,hf,hs⟩:=GP.1 hx
    by_cases hy:y=k
    ·subst hy
     by_cases hfw:f=was
     ·right;rw [sl, ←hfw,hs]
     ·left
      refine GP.2 ⟨h0,f, ?_,by rw [sl];exact hs⟩
      rw [fdk]
      obtain ⟨i,hi,rfl⟩:=List.getElem_of_mem hf
      have hij:j≠i:=fun he=>hfw (by subst he;rw [DA hi];exact hwas)
      exact List.mem_iff_getElem.2 ⟨i,by simpa using hi,List.getElem_set_ne hij _⟩
    ·left
     exact GP.2 ⟨h0,f,by rw [fdo y hy];exact hf,by rw [sl];exact hs⟩) (by rw [sl];exact hw) hL
 split
 ·rename_i hw
  exact .inr (.inl ⟨_,key [] (fun x hx=>by rw [if_neg (by omega)];rfl) (by simp),sml,gd2 buf (fun hh=>by rw [hw] at hh;exact absurd hh (by rw [EN (.inl (by omega))];omega)) fun _ h=>h,rfl⟩)
 ·rename_i hw
  exact .inr (.inr ⟨_,_,key [was] (fun x hx=>by rw [List.count_singleton];by_cases he:was=x <;> simp [he]) (by simpa using (hok.lead was hwm hw).2),sml,gd2 (buf++[was]) (fun _=>by simp) fun _ h=>List.mem_append_left _ h,rfl⟩)
theorem HP.store (h:HP os ns buf []) {a b c:Int}:HP (I9 os buf a b c).1 ns (I9 os buf a b c).2.1 []:=h.XO.ok h
theorem jL {l:List Nat} (h: ∀n∈l,n=0):l.sum=0:=by
 induction l with
 | nil=>rfl
 | cons x l ih=>rw [List.sum_cons,h x (by simp),ih fun n hn=>h n (by simp [hn])]
theorem HP.put (h:HP os ns buf []) (k8:k<8) (hd:(ob os k).live=false) (hg:(ob os k).gen<999) {t:Int} {ns':Nat} (hn:ns≤ns') (ht:0≤t∧t≤(ns':Int)-1):HP (os.set k (I5 ((ob os k).gen+1) t)) ns' buf []:=by
 have hol:=h.ol
 have hkl:k<os.length:=by omega
 have hgk:=(h.obj k k8).gen
 have eo: ∀i,ob (os.set k (I5 ((ob os k).gen+1) t)) i=if i=k then I5 ((ob os k).gen+1) t else ob os i:=fun i=>D4 hkl
 have sl: ∀x,0≤AA os x→AA (os.set k (I5 ((ob os k).gen+1) t)) x=AA os x:=fun x hx=>by
  have hb:=BD hx
  have hne:(x % 8).toNat≠k:=fun he=>by
   have:=hb.2.2.2.2.1
   have e:(AA os x).toNat=k:=by omega
   rw [e,hd] at this;cases this
  simp only [AA,List.length_set]
  rw [eo,if_neg hne]
 have ed: ∀x,0≤x→CE (os.set k (I5 ((ob os k).gen+1) t)) x=CE os x:=fun x hx=>by
  have e:=O3 (os:=os) (v:=I5 ((ob os k).gen+1) t) (id:=x) hkl
  rw [OY hd,H8 (o:=I5 ((ob os k).gen+1) t) rfl] at e
  have:(I5 ((ob os k).gen+1) t).field.count x=0:=List.count_eq_zero.2 fun hm=>by simp [I5,PF] at hm;omega
  omega
 have nosl: ∀x,0≤AA os x→x≠CC k ((ob os k).gen+1):=fun x hx he=>by
  have hb:=BD hx
  rw [GV k8 (by omega) (by omega)] at he
  have e:(AA os x).toNat=k:=by omega
  have:=hb.2.2.2.2.1
  rw [e,hd] at this;cases this
 refine ⟨by simpa using hol,fun i hi=> ?_,h.bnd,fun x hx=>by rw [sl x (h.blv x hx)];exact h.blv x hx,by simp⟩
 have ho:=h.obj i hi
 by_cases hik:i=k
 ·subst hik
  have e:ob (os.set i (I5 ((ob os i).gen+1) t)) i=I5 ((ob os i).gen+1) t:=by rw [eo,if_pos rfl]
  refine ⟨by rw [e];simp only [I5];omega,by rw [e];rfl,by rw [e];simp [I5],fun f hf hne=> ?_,fun hh=>(by rw [e] at hh;cases hh),fun _=> ?_⟩
  ·rw [e] at hf;simp [I5,PF] at hf;exact absurd hf hne
  ·rw [e]
   simp only [I5]
   have hz:CE os (CC i ((ob os i).gen+1))=0:=by
    unfold CE
    refine jL fun n hn=> ?_
    obtain ⟨o,ho',rfl⟩:=List.mem_map.1 hn
    obtain ⟨j,hj,rfl⟩:=List.getElem_of_mem ho'
    rw [DB hj]
    cases hv:(ob os j).live with
    | false=>exact OY hv
    | true=>
      rw [H8 hv]
      refine List.count_eq_zero.2 fun hm=> ?_
      have hpos:CC i ((ob os i).gen+1)≠ -1:=by rw [GV k8 (by omega) (by omega)];omega
      exact nosl _ ((h.obj j (by omega)).lead _ hm hpos).2 rfl
   have hed:=ed (CC i ((ob os i).gen+1)) (by rw [GV k8 (by omega) (by omega)];omega)
   have hed2:CE (os.set i (I5 ((ob os i).gen+1) t)) (CC i ((ob os i).gen+1))=0:=by rw [hed,hz]
   simp only [I5] at hed2
   refine ⟨by omega,ht,by omega,by omega,by rw [hed2];simp,by omega,⟨fun hh=>(by cases hh),fun hm=>absurd rfl (nosl _ (h.blv _ hm))⟩⟩
 ·have e:ob (os.set k (I5 ((ob os k).gen+1) t)) i=ob os i:=by rw [eo,if_neg hik]
  refine ⟨by rw [e];exact ho.gen,by rw [e];exact ho.len,by rw [e];exact ho.cb,fun f hf hne=> ?_,fun hh=> ?_,fun hv=> ?_⟩
  ·rw [e] at hf;have:=ho.lead f hf hne;rw [e,sl f this.2];exact this
  ·rw [e] at hh ⊢;exact ho.dead hh
  ·rw [e] at hv ⊢
   obtain ⟨g1,g2,g3,g4,g5,g6,g7⟩:=ho.lv hv
   exact ⟨g1,by omega,g3,g4,by rw [ed _ (by rw [GV hi g1 ho.gen.2];omega)];exact g5,g6,g7⟩
end
theorem at_mem {l:List ByteArray} {s:ByteArray}:at_ l s<0↔s∉l:=by
 unfold at_;split
 ·rename_i h;simp [h]
 ·rename_i h;simp [h]
theorem LB.snoc {l:List ByteArray} {s:ByteArray} (h:LB l) (h6:l.length<6) (hs:1≤(s.size:Int)∧(s.size:Int)≤8) (hn:s∉l):LB (l++[s]):=by
 have e: ∀i,i<l.length→gS (l++[s]) i=gS l i:=fun i hi=>by
  rw [←RF (by simp;omega), ←RF hi,List.getElem_append_left hi]
 have e2:gS (l++[s]) l.length=s:=by rw [←RF (by simp)];simp
 refine ⟨by simp;omega,fun i hi=> ?_,fun i hi=> ?_⟩
 ·by_cases hl:i<l.length
  ·rw [e i hl];exact h.sz i hl
  ·have:i=l.length:=by simp at hi;omega
   rw [this,e2];exact hs
 ·by_cases hl:i<l.length
  ·rw [e i hl,List.take_append_of_le_length (by omega)];exact h.one i hl
  ·have:i=l.length:=by simp at hi;omega
   rw [this,e2];simpa using hn
theorem mE {os:List AG} {buf:List Int} {ss:List ByteArray} {s:ByteArray} (h:HP os ss.length buf []) (hs:LB ss):HP (H5 os ss s).1 (H5 os ss s).2.1.length buf []∧LB (H5 os ss s).2.1:=by
 unfold H5
 by_cases hb: ¬(1≤(s.size:Int)∧(s.size:Int)≤8)
 ·rw [if_pos hb];exact ⟨h,hs⟩
 rw [if_neg hb]
 by_cases hf:CM os<0
 ·rw [if_pos hf];exact ⟨h,hs⟩
 rw [if_neg hf]
 obtain ⟨f1,f2,f3⟩:=N4 hf
 have hol:=h.ol
 simp only [K6,Bool.and_eq_true,Bool.not_eq_true',decide_eq_true_eq] at f3
 have hg:=(h.obj (CM os).toNat (by omega)).gen
 have ew:w64 ((ob os (CM os).toNat).gen+1)=(ob os (CM os).toNat).gen+1:=G8 ⟨by omega,by omega⟩
 by_cases h6:at_ ss s<0∧6≤ss.length
 ·rw [if_pos h6];exact ⟨h,hs⟩
 rw [if_neg h6,ew]
 simp only
 by_cases ha:at_ ss s<0
 ·rw [if_pos ha,if_pos ha]
  exact ⟨h.put (by omega) f3.1 f3.2 (by simp) (by simp),hs.snoc (by omega) (Decidable.not_not.1 hb) (at_mem.1 ha)⟩
 ·rw [if_neg ha,if_neg ha]
  have hm:s∈ss:=Decidable.byContradiction fun hn=>ha (at_mem.2 hn)
  have hat:at_ ss s≤(ss.length:Int)-1:=by
   unfold at_;rw [if_pos hm]
   have:=List.idxOf_lt_length_of_mem hm
   omega
  exact ⟨h.put (by omega) f3.1 f3.2 (Nat.le_refl _) ⟨by omega,hat⟩,hs⟩
end Go.Proofs.Ytklmcfpgdfibnaa.P
namespace Go.Proofs.Ytklmcfpgdfibnaa.P
open Go Go.Proofs.Ytklmcfpgdfibnaa Go.Proofs.Ytklmcfpgdfibnaa.Eng
set_option linter.unusedVariables false
theorem hC {g:Nat→AG} {id:Int}:(CE (mk8 g) id:Int)=DL 8 fun k=>(KF id (g k):Int):=by
 simp only [CE,mk8,List.map_map]
 simp [List.range_succ,DL]
 omega
section
variable {os:List AG} {ns:Nat} {buf:List Int} {i j k:Nat}
theorem HP.sK (h:HP os ns buf []) (hk:k<8) (hj:j<8) (hv:(ob os j).live=true):E os k j=KF (CC j (ob os j).gen) (ob os k):=by
 have hoj:=h.obj j hj
 have g1:=(hoj.lv hv).1
 have e1:(BE os k).count (j:Int)=(ob os k).field.count (CC j (ob os j).gen):=by
  unfold BE
  rw [List.count_filter (by simp),List.count_eq_countP,List.countP_map,List.count_eq_countP]
  refine List.countP_congr fun f hf=> ?_
  simp only [Function.comp,beq_iff_eq]
  constructor
  ·intro he;exact MN he g1 hoj.gen.2
  ·intro he;rw [he];exact FA h.ol hj hv g1 hoj.gen.2
 unfold E
 rw [e1]
 cases hd:(ob os k).live with
 | true=>rw [H8 hd]
 | false=>
   rw [OY hd,List.count_eq_zero.2 fun hm=> ?_]
   have hne:CC j (ob os j).gen≠ -1:=by rw [GV hj g1 hoj.gen.2];omega
   have:=((h.obj k hk).lead _ hm hne).1
   rw [hd] at this;cases this
theorem HP.eK (h:HP os ns buf []) (hj:j<8) (hv:(ob os j).live=true):(CE os (CC j (ob os j).gen):Int)=S os (fun _=>true) j:=by
 have e:CE os (CC j (ob os j).gen)=CE (mk8 (ob os)) (CC j (ob os j).gen):=by rw [←aE h.ol]
 rw [e,hC]
 exact JX fun k hk=>by rw [if_pos rfl,h.sK hk hj hv]
theorem RB.live (h:RB os buf k):(ob os k).live=true:=by
 obtain ⟨b,_,s,hs,hr⟩:=h
 have hb:=BD (l:=os) (id:=b) (by omega)
 have e:(AA os b).toNat=s:=by omega
 rw [e] at hb
 exact hr.closed (P:=fun k=>(ob os k).live=true) hb.2.2.2.2.1 fun _ _ _ hj=>(B5 hj).2.2.2.2
theorem pR {P:Nat→Bool} (hk:k<8) (hp:P k=true):E os k j≤S os P j:=by
 have:=RV (n:=8) (k0:=k) (f:=fun x=>if x=k then 0 else if P x then E os x j else 0) (g:=fun x=>if P x then E os x j else 0) hk fun x hx hne=>by simp [hne]
 have h0:0≤DL 8 fun x=>if x=k then 0 else if P x then E os x j else 0:=by
  have:=JR (n:=8) (f:=fun _=>0) (g:=fun x=>if x=k then 0 else if P x then E os x j else 0) fun x hx=>by
   split
   ·exact Int.le_refl _
   ·split
    ·exact IW _ _ _
    ·exact Int.le_refl _
  rw [H4 (fun _ _=>rfl)] at this;exact this
 simp only [hp,if_true] at this
 unfold S;omega
theorem HP.ext (h:HP os ns buf []) (hj:j<8) (hv:(ob os j).live=true):EX os (fun i=>(ob os i).count) (MY os buf) j↔0<(ob os j).holds+(ob os j).roots+S os (fun k=> !MY os buf k) j:=by
 have hcl:=h.P9 (FA h.ol hj hv ((h.obj j hj).lv hv).1 (h.obj j hj).gen.2)
 have e1:=h.eK hj hv
 have e2:=XZ (os:=os) (P:=MY os buf) (i:=j)
 have n1:0≤S os (MY os buf) j:=by
  have:=JR (n:=8) (f:=fun _=>0) (g:=fun x=>if MY os buf x then E os x j else 0) fun x hx=>by
   split
   ·exact IW _ _ _
   ·exact Int.le_refl _
  rw [H4 (fun _ _=>rfl)] at this;exact this
 have n2:0≤S os (fun k=> !MY os buf k) j:=by
  have:=JR (n:=8) (f:=fun _=>0) (g:=fun x=>if (!MY os buf x) then E os x j else 0) fun x hx=>by
   split
   ·exact IW _ _ _
   ·exact Int.le_refl _
  rw [H4 (fun _ _=>rfl)] at this;exact this
 unfold EX
 simp only
 rw [G8 ⟨by omega,by omega⟩]
 omega
theorem kU {P:Nat→Bool} (h:0<S os P j): ∃k,k<8∧P k=true∧0<E os k j:=by
 refine Classical.byContradiction fun hn=> ?_
 have:S os P j=0:=H4 fun k hk=>by
  cases hp:P k with
  | false=>simp
  | true=>
    have:=IW os k j
    have: ¬0<E os k j:=fun hh=>hn ⟨k,hk,hp,hh⟩
    simp;omega
 omega
theorem gJ (h:0<E os k j):(j:Int)∈BE os k:=by
 unfold E at h;exact List.count_pos_iff.1 (by omega)
theorem qC (h:HP os ns buf []) (hk:k<8) {f:Int} (hf:f∈(ob os k).field) (hj:AA os f=(j:Int)):(j:Int)∈BE os k:=by
 unfold BE
 exact List.mem_filter.2 ⟨List.mem_map.2 ⟨f,hf,hj⟩,by simp⟩
theorem l9 (h:HP os ns buf []) {W:Nat→Bool} (hW:W=HN os (fun i=>(ob os i).count) buf) (hk:k<8) (hw:W k=false) (hj:j<8) (hm:(j:Int)∈BE os k):W j=false:=by
 cases hwj:W j with
 | false=>rfl
 | true=>
   exfalso
   have hjl:(ob os j).live=true:=by have:=(B5 hm).2.2.2.2;rwa [Int.toNat_natCast] at this
   rw [hW,HS] at hwj
   obtain ⟨hr,hn⟩:=hwj
   by_cases hrk:RB os buf k
   ·have hex: ∃x,Out os (fun i=>(ob os i).count) buf x∧Reach os x k:=Classical.byContradiction fun hh=>by
     have:=HS.2 (⟨hrk,hh⟩:RB os buf k∧ ¬ ∃x,Out os (fun i=>(ob os i).count) buf x∧Reach os x k)
     rw [←hW,hw] at this;cases this
    obtain ⟨x,hx,hxk⟩:=hex
    exact hn ⟨x,hx,by have:=Reach.step hxk hm;rwa [Int.toNat_natCast] at this⟩
   ·refine hn ⟨j,⟨hj,hr,(h.ext hj hjl).2 ?_⟩, .refl⟩
    have e:=pR (os:=os) (P:=fun k=> !MY os buf k) (j:=j) hk (by simp [QC.2 hrk])
    have hE:0<E os k j:=by unfold E;have:=List.count_pos_iff.2 hm;omega
    have hcl:=h.P9 (FA h.ol hj hjl ((h.obj j hj).lv hjl).1 (h.obj j hj).gen.2)
    omega
theorem hU (h:HP os ns buf []) {W:Nat→Bool} (hW:W=HN os (fun i=>(ob os i).count) buf) (hi:i<8) (hv:(ob os i).live=true) (hw:W i=false) (h0:(ob os i).holds+(ob os i).roots=0): ∃p,p<8∧(ob os p).live=true∧W p=false∧CC i (ob os i).gen∈(ob os p).field:=by
 have hoi:=h.obj i hi
 have g1:=(hoi.lv hv).1
 have back: ∀p,p<8→(i:Int)∈BE os p→(ob os p).live=true∧CC i (ob os i).gen∈(ob os p).field:=fun p hp hm=>by
  unfold BE at hm
  obtain ⟨h1,_⟩:=List.mem_filter.1 hm
  obtain ⟨f,hf,he⟩:=List.mem_map.1 h1
  have hid:=MN he g1 hoi.gen.2
  rw [hid] at hf
  have hne:CC i (ob os i).gen≠ -1:=by rw [GV hi g1 hoi.gen.2];omega
  exact ⟨((h.obj p hp).lead _ hf hne).1,hf⟩
 have hcl:=h.P9 (FA h.ol hi hv g1 hoi.gen.2)
 have hes:=h.eK hi hv
 have notRB: ∀p, ¬RB os buf p→W p=false:=fun p hp=>by
  cases hwp:W p with
  | false=>rfl
  | true=>rw [hW,HS] at hwp;exact absurd hwp.1 hp
 by_cases hri:RB os buf i
 ·have hex: ∃x,Out os (fun i=>(ob os i).count) buf x∧Reach os x i:=Classical.byContradiction fun hh=>by
   have:=HS.2 (⟨hri,hh⟩:RB os buf i∧ ¬ ∃x,Out os (fun i=>(ob os i).count) buf x∧Reach os x i)
   rw [←hW,hw] at this;cases this
  obtain ⟨y,hy,hyi⟩:=hex
  generalize hii:i=i' at hyi
  cases hyi with
  | refl=>
    subst hii
    have:=(h.ext hi hv).1 hy.2.2
    obtain ⟨p,hp,hpp,hE⟩:=kU (os:=os) (P:=fun k=> !MY os buf k) (j:=i) (by omega)
    have hpn: ¬RB os buf p:=by simp only [Bool.not_eq_true'] at hpp;exact QC.1 hpp
    obtain ⟨b1,b2⟩:=back p hp (gJ hE)
    exact ⟨p,hp,b1,notRB p hpn,b2⟩
  | step hyp hj=>
    rename_i p jj
    have hjb:=B5 hj
    have hji:jj=(i:Int):=by omega
    rw [hji] at hj
    have hp8:p<8:=hyp.lt hy.1
    obtain ⟨b1,b2⟩:=back p hp8 hj
    refine ⟨p,hp8,b1, ?_,by rw [←hii];exact b2⟩
    cases hwp:W p with
    | false=>rfl
    | true=>rw [hW,HS] at hwp;exact absurd ⟨y,hy,hyp⟩ hwp.2
 ·obtain ⟨p,hp,_,hE⟩:=kU (os:=os) (P:=fun _=>true) (j:=i) (by omega)
  obtain ⟨b1,b2⟩:=back p hp (gJ hE)
  refine ⟨p,hp,b1,notRB p fun hr=>hri ?_,b2⟩
  have:=hr.next (gJ hE)
  rwa [Int.toNat_natCast] at this
theorem HP.oF (h:HP os ns buf []):HP (HU os buf).1 ns [] []:=by
 unfold HU
 obtain ⟨W,hW⟩: ∃W,W=HN os (fun i=>(ob os i).count) buf:=⟨_,rfl⟩
 rw [←hW]
 simp only
 have hol:=h.ol
 have wl: ∀k,W k=true→(ob os k).live=true:=fun k hk=>by rw [hW,HS] at hk;exact RB.live hk.1
 have mo: ∀i,i<8→W i=false→DV os W i={ob os i with purple:=false}:=fun i hi hw=>by unfold DV;rw [if_neg (by rw [hw];decide)]
 have mw: ∀i,W i=true→DV os W i=B8 (ob os i).gen:=fun i hw=>by unfold DV;rw [if_pos hw]
 have fo: ∀i,i<8→ob (mk8 (GF os W)) i=GF os W i:=fun i hi=>H3 hi
 have fs:=fun i=>U8 os W i
 have live: ∀i,i<8→(ob (mk8 (GF os W)) i).live=true→(ob os i).live=true∧W i=false:=fun i hi hv=>by
  rw [fo i hi,(fs i).1] at hv
  cases hw:W i with
  | true=>rw [mw i hw] at hv;cases hv
  | false=>rw [mo i hi hw] at hv;exact ⟨hv,rfl⟩
 have sl: ∀f, ∀j:Nat,AA os f=(j:Int)→W j=false→AA (mk8 (GF os W)) f=(j:Int):=fun f j hj hw=>by
  have hb:=BD (l:=os) (id:=f) (by omega)
  have e:(AA os f).toNat=j:=by omega
  rw [e] at hb
  have hmj:(f % 8).toNat=j:=by omega
  rw [G5 hb.2.1 (C7 _) (by rw [C7];omega) (by rw [hmj,fo j hb.2.2.2.1,(fs j).1,mo j hb.2.2.2.1 hw];exact hb.2.2.2.2.1) (by rw [hmj,fo j hb.2.2.2.1,(fs j).2.1,mo j hb.2.2.2.1 hw];exact hb.2.2.2.2.2)]
  omega
 have edm: ∀x,CE (mk8 (GF os W)) x=CE (mk8 (DV os W)) x:=fun x=>ON (by rw [C7,C7]) fun i hi=>by
  rw [C7] at hi
  rw [H3 hi,H3 hi];exact ⟨(fs i).1,(fs i).2.2⟩
 have edl: ∀x,CE (mk8 (DV os W)) x≤24:=fun x=>by
  have:=OI (l:=mk8 (DV os W)) (id:=x) (b:=3) fun o ho=>by
   obtain ⟨i,hi,rfl⟩:=eB ho
   cases hw:W i with
   | true=>rw [mw i hw];simp [B8,PF]
   | false=>rw [mo i hi hw];have:=(h.obj i hi).len;simp only;omega
  rw [C7] at this;exact this
 refine ⟨C7 _,fun i hi=> ?_,List.nodup_nil,by simp,by simp⟩
 have ho:=h.obj i hi
 cases hw:W i with
 | true=>
   have e:ob (mk8 (GF os W)) i=B8 (ob os i).gen:=by
    rw [fo i hi];unfold GF;rw [mw i hw,if_neg (by simp [B8])]
   refine ⟨by rw [e];exact ho.gen,by rw [e];rfl,by rw [e];simp [B8],fun f hf hne=> ?_,fun _=>by rw [e];exact ⟨rfl,rfl,rfl,rfl,rfl⟩,fun hv=>by rw [e] at hv;cases hv⟩
   rw [e] at hf;simp [B8,PF] at hf;exact absurd hf hne
 | false=>
   have lead: ∀f∈(ob os i).field,f≠ -1→(ob os i).live=true∧0≤AA (mk8 (GF os W)) f:=fun f hf hne=>by
    have hl:=ho.lead f hf hne
    obtain ⟨j,hj⟩: ∃j:Nat,AA os f=(j:Int):=⟨(AA os f).toNat,by omega⟩
    have hb:=BD (l:=os) (id:=f) (by omega)
    have hwj:=l9 h hW hi hw (by omega) (qC h hi hf hj)
    rw [sl f j hj hwj]
    exact ⟨hl.1,by omega⟩
   cases hv:(ob os i).live with
   | false=>
     have e:ob (mk8 (GF os W)) i={ob os i with purple:=false}:=by
      rw [fo i hi];unfold GF;rw [mo i hi hw,if_neg (by simp only;rw [hv];decide)]
     have hd:=ho.dead hv
     refine ⟨by rw [e];exact ho.gen,by rw [e];exact ho.len,by rw [e];exact ho.cb,fun f hf hne=> ?_,fun _=>by rw [e];exact ⟨hd.1,hd.2.1,hd.2.2.1,hd.2.2.2.1,rfl⟩,fun hh=> ?_⟩
     ·rw [e] at hf ⊢;exact lead f hf hne
     ·rw [e] at hh;simp only at hh;rw [hv] at hh;cases hh
   | true=>
     obtain ⟨g1,g2,g3,g4,g5,g6,g7⟩:=ho.lv hv
     have hin:inE (mk8 (DV os W)) i=CE (mk8 (DV os W)) (CC i (ob os i).gen):=by
      have:=Q8 (os:=mk8 (DV os W)) (C7 _) hi (by rw [H3 hi,mo i hi hw];exact hv)
      rw [H3 hi,mo i hi hw] at this;exact this
     have hed:=edl (CC i (ob os i).gen)
     have ew:w64 (w64 ((ob os i).holds+(ob os i).roots)+CE (mk8 (DV os W)) (CC i (ob os i).gen))=(ob os i).holds+(ob os i).roots+CE (mk8 (DV os W)) (CC i (ob os i).gen):=by
      rw [LL];exact G8 ⟨by omega,by omega⟩
     have e:ob (mk8 (GF os W)) i={ob os i with purple:=false,count:=(ob os i).holds+(ob os i).roots+CE (mk8 (DV os W)) (CC i (ob os i).gen)}:=by
      rw [fo i hi];unfold GF;rw [mo i hi hw,if_pos (by exact hv),hin]
      simp only
      rw [ew]
     have hpos:1≤(ob os i).holds+(ob os i).roots+CE (mk8 (DV os W)) (CC i (ob os i).gen):=by
      by_cases h0:(ob os i).holds+(ob os i).roots=0
      ·obtain ⟨p,hp,pl,pw,pm⟩:=hU h hW hi hv hw h0
       have h1:KF (CC i (ob os i).gen) (DV os W p)≤CE (mk8 (DV os W)) (CC i (ob os i).gen):=by
        unfold CE
        exact mD (List.mem_map.2 ⟨DV os W p,by rw [←H3 (f:=DV os W) hp, ←DB (by rw [C7];exact hp)];exact List.getElem_mem _,rfl⟩)
       rw [mo p hp pw,H8 (by exact pl)] at h1
       have:=List.count_pos_iff.2 pm
       simp only at h1
       omega
      ·omega
     refine ⟨by rw [e];exact ho.gen,by rw [e];exact ho.len,by rw [e];simp only;omega,fun f hf hne=> ?_,fun hd=> ?_,fun _=> ?_⟩
     ·rw [e] at hf ⊢;exact lead f hf hne
     ·rw [e] at hd;simp only at hd;rw [hv] at hd;cases hd
     ·rw [e,edm]
      exact ⟨g1,g2,g3,g4,by simp,hpos,by simp⟩
end
end Go.Proofs.Ytklmcfpgdfibnaa.P
namespace Go.Proofs.Ytklmcfpgdfibnaa.P
open Go Go.Proofs.Ytklmcfpgdfibnaa Go.Proofs.Ytklmcfpgdfibnaa.Eng
set_option linter.unusedVariables false
set_option maxHeartbeats 4000000
set_option linter.unusedVariables false
set_option linter.unusedSimpArgs false
attribute [local irreducible] prP gP gE gF AX ixW ldc ldg ldl stc stg scW mkW apW BF cl2 BS DK CW
variable {w0:World}
abbrev tC (ws:List Wk):Prop:= ∀i,i<8→((wk ws i).used=false→(wk ws i).target=0)∧((wk ws i).used=true→8≤(wk ws i).target∧(wk ws i).target≤7999)
theorem lS {l:List Wk} {i k:Nat} {o:Wk} (hk:k<l.length):wk (l.set k o) i=if i=k then o else wk l i:=by
 unfold wk
 by_cases h:i=k
 ·subst h
  rw [if_pos rfl,List.getD_eq_getElem?_getD,List.getElem?_set_self hk];rfl
 ·rw [if_neg h,List.getD_eq_getElem?_getD,List.getElem?_set_ne (Ne.symm h),List.getD_eq_getElem?_getD]
theorem BZ.step {h:Hp} {o:Op5} (hk:BZ h):BZ (E9 h o).1:=by
 have hp:=hk.hp
 have hw:tC h.B3:=hk.weak
 have hwl:=hk.wl
 unfold E9
 split
 ·obtain ⟨a,b⟩:=mE (s:=o.site) hp hk.sites
  exact HP.ok a hk.wl b hw
 ·split
  ·exact HP.ok (hp.hold (kd:=o.kind) (id:=o.a)) hk.wl hk.sites hw
  ·split
   ·exact HP.ok (hp.store (a:=o.a) (b:=o.b) (c:=o.c)) hk.wl hk.sites hw
   ·split
    ·refine HP.ok hp (jT.1.trans hk.wl) hk.sites ?_
     unfold OC
     split
     ·exact hw
     ·rename_i hs
      split
      ·exact hw
      ·rename_i hf
       obtain ⟨f1,f2,f3⟩:=gW hf
       intro i hi
       rw [lS f1]
       split
       ·have hb:=BD (l:=h.AD) (id:=o.a) (by omega)
        have:=(hk.obj (AA h.AD o.a).toNat hb.2.2.2.1).gen
        exact ⟨fun hh=>(by cases hh),fun _=>⟨hb.2.1,by simp only;omega⟩⟩
       ·exact hw i hi
    ·split
     ·refine HP.ok hp (bT.1.trans hk.wl) hk.sites ?_
      unfold IP
      split
      ·exact hw
      ·rename_i hb
       split
       ·exact hw
       ·split
        ·intro i hi
         rw [lS (by omega)]
         split
         ·exact ⟨fun _=>rfl,fun hh=>(by cases hh)⟩
         ·exact hw i hi
        ·split
         ·exact hw
         ·exact hw
     ·split
      ·exact HP.ok hp.oF hk.wl hk.sites hw
      ·exact hk
theorem CU {x:Int} (h: -1000000≤x∧x≤1000000):F64 x:=⟨by omega,by omega⟩
theorem BZ.aA {h:Hp} (hk:BZ h) {x:Int} (hx:0≤AA h.AD x):8≤x∧x≤7999:=by
 have hb:=BD hx
 have:=(hk.obj (AA h.AD x).toNat hb.2.2.2.1).gen
 exact ⟨hb.2.1,by omega⟩
theorem BZ.KK {h:Hp} (hk:BZ h):S9 h:=by
 have hp:=hk.hp
 refine ⟨fun o ho=> ?_,fun w hw=> ?_,fun b hb=>CU (by have:=hk.aA (hk.UT hb);omega)⟩
 ·obtain ⟨i,hi,rfl⟩:=List.getElem_of_mem ho
  have hi8:i<8:=by have:=hk.ol;omega
  rw [DB hi]
  have hoi:=hp.obj i hi8
  have hg:=hoi.gen
  have hcb:=hoi.cb
  have hsl:=hk.sites.len
  have hr:=hk.hr i
  have hfd: ∀f∈(ob h.AD i).field,F64 f:=fun f hf=>by
   by_cases h1:f= -1
   ·subst h1;exact CU (by omega)
   ·exact CU (by have:=hk.aA (hoi.lead f hf h1).2;omega)
  cases hv:(ob h.AD i).live with
  | false=>
    have:=hoi.dead hv
    exact ⟨CU (by omega),CU (by omega),CU (by omega),CU (by omega),CU (by omega),hfd⟩
  | true=>
    have:=hoi.lv hv
    exact ⟨CU (by omega),CU (by omega),CU (by omega),CU (by omega),CU (by omega),hfd⟩
 ·obtain ⟨i,hi,rfl⟩:=List.getElem_of_mem hw
  rw [ZS hi]
  have:=hk.weak i (by have:=hk.wl;omega)
  cases hu:(wk h.B3 i).used with
  | false=>have:=this.1 hu;exact CU (by omega)
  | true=>have:=this.2 hu;exact CU (by omega)
theorem BZ.fits {h:Hp} (hk:BZ h):Fits h:=(hk.st hk.KK).fits
def hp0:Hp:=⟨List.replicate 8 (B8 0),List.replicate 8 ⟨false,0⟩,[],[]⟩
theorem kR:BZ hp0:=by
 have eo: ∀i,i<8→ob hp0.AD i=B8 0:=fun i hi=>by
  unfold hp0 ob;simp only;rw [List.getD_eq_getElem?_getD,List.getElem?_replicate,if_pos hi];rfl
 have ew: ∀i,i<8→wk hp0.B3 i=⟨false,0⟩:=fun i hi=>by
  unfold hp0 wk;simp only;rw [List.getD_eq_getElem?_getD,List.getElem?_replicate,if_pos hi];rfl
 refine ⟨by simp [hp0],by simp [hp0],⟨by simp [hp0],fun i hi=>by simp [hp0] at hi,fun i hi=>by simp [hp0] at hi⟩,fun i hi=> ?_,fun i hi=> ?_,fun i hi=>by simp [hp0] at hi⟩
 ·have e:=eo i hi
  refine ⟨by rw [e];simp [B8],by rw [e];rfl,fun j hj hne=> ?_,fun _=>by rw [e];exact ⟨rfl,rfl,rfl,rfl,rfl⟩,fun hv=>(by rw [e] at hv;cases hv)⟩
  rw [e] at hne
  exfalso;apply hne
  simp only [B8,PF]
  rcases j with _ | _ | _ | j
  ·rfl
  ·rfl
  ·rfl
  ·omega
 ·rw [ew i hi];exact ⟨fun _=>rfl,fun hh=>(by cases hh)⟩
noncomputable def I3 (l:List Op5):Nat→Hp×List An
 | 0=>(hp0,[])
 | i+1=>((E9 (I3 l i).1 (po l i)).1,(I3 l i).2++[(E9 (I3 l i).1 (po l i)).2])
theorem NU (l:List Op5): ∀i,BZ (I3 l i).1∧(I3 l i).2.length=i
 | 0=>⟨kR,rfl⟩
 | i+1=>⟨(NU l i).1.step,by simp only [I3,List.length_append,List.length_singleton,(NU l i).2]⟩
end Go.Proofs.Ytklmcfpgdfibnaa.P
namespace Go.Proofs.Ytklmcfpgdfibnaa.P
open Go Go.Proofs.Ytklmcfpgdfibnaa Go.Proofs.Ytklmcfpgdfibnaa.Eng
set_option linter.unusedVariables false
set_option maxRecDepth 100000
theorem lF {α:Type} {f:α→List T} {e:Nat} [hr:Rw f e] {l:List α} {i:Nat} (hi:i<l.length) {c:Nat} {t:T} {y:α} {K:List T→Prop} (hc:c<e) (hy:f y=(f l[i]).set c t) (h:K (tR f (l.set i y))):stg (tR f l) [] (AB (iv i)*e+c) [t] K:=by
 rw [AZ]
 have hlt:i*e+c<(tR f l).length:=by
  rw [VD]
  have:(i+1)*e≤l.length*e:=Nat.mul_le_mul_right _ hi
  rw [Nat.add_mul] at this;omega
 refine ⟨⟨_,rfl, ?_⟩, ?_⟩
 ·simp only [List.length_singleton];omega
 ·have:L6 (tR f l) [] (i*e+c) [t]=tR f (l.set i y):=by
   simp only [L6,node,HL]
   rw [UN hlt,bY hi hc hy]
  rw [this];exact h
end Go.Proofs.Ytklmcfpgdfibnaa.P
namespace Go.Proofs.Ytklmcfpgdfibnaa.P
open Go Go.Proofs.Ytklmcfpgdfibnaa Go.Proofs.Ytklmcfpgdfibnaa.Eng
set_option linter.unusedVariables false
set_option maxHeartbeats 4000000
set_option linter.unusedVariables false
set_option linter.unusedSimpArgs false
attribute [local irreducible] prP gP gE gF AX ixW ldc ldg ldl stc stg scW mkW apW BF cl2 BS DK CW
variable {w0:World}
theorem tK (o:Op5):tv (nxT (tP o) 0)=I o.kind:=rfl
theorem tL (o:Op5):tv (nxT (tP o) 1)=I o.a:=rfl
theorem tM (o:Op5):tv (nxT (tP o) 2)=I o.b:=rfl
theorem s7 (o:Op5):tv (nxT (tP o) 3)=I o.c:=rfl
theorem uC (o:Op5):tv (nxT (tP o) 4)= .string o.site:=rfl
theorem OM {K:J2} (h:K [] (trees hp0)):cl2 ⟨Try.prog,w0⟩ 74 DQ.sg [] [] K:=by
 refine DQ.cl2 ?_
 unfold DQ.txt
 refine jW (n:=8) (by omega) (jW (n:=8) (by omega) ?_)
 have e0:R6 (AB (iv 8)) [T.c (.bool false),T.c (.int .i64 0)]=tR tW (List.replicate 8 ⟨false,0⟩):=by
  rw [AZ];exact fN (f:=tW) 8 ⟨false,0⟩
 have e1:R6 (AB (iv 8)) [T.c (.bool false),T.c (.int .i64 0),T.c (.int .i64 0),T.c (.int .i64 0),T.c (.int .i64 0),T.c (.int .i64 0),T.l 1 [],T.c (.bool false)]=tR tO (List.replicate 8 ⟨false,0,0,0,0,0,[],false⟩):=by
  rw [AZ];exact fN (f:=tO) 8 ⟨false,0,0,0,0,0,[],false⟩
 rw [e0,e1]
 have s0:List.replicate 8 (⟨false,0,0,0,0,0,[],false⟩:AG)=mk8 fun i=>if i<0 then B8 0 else ⟨false,0,0,0,0,0,[],false⟩:=rfl
 rw [s0]
 refine BG (fun i=>[iv i]) (fun i=>[tR tO (mk8 fun k=>if k<i then B8 0 else ⟨false,0,0,0,0,0,[],false⟩),tR tW (List.replicate 8 ⟨false,0⟩)]) 8 (fun _=>True) rfl rfl trivial (fun R i hi hP hR=> ?_)
 simp only [AJ,AT,AL,AR,AS,AE,AI,AU,AK,AN,AO,AQ,AM,AP,BJ,BO,BL,BM,BN,BP,BK,A9,A4,A6,A7,A8,A5]
 simp only [C7]
 refine BA (AW (fun hlt=> ?_) fun hge=> ?_)
 ·have hlt:i<8:=by omega
  replace hR:=hR hlt trivial
  refine HW (AH hlt ?_)
  have hml:i<(mk8 fun k=>if k<i then B8 0 else ⟨false,0,0,0,0,0,[],false⟩).length:=by rw [C7];exact hlt
  have hoi:(mk8 fun k=>if k<i then B8 0 else ⟨false,0,0,0,0,0,[],false⟩)[i]=⟨false,0,0,0,0,0,[],false⟩:=by rw [DB hml,H3 hlt,if_neg (by omega)]
  refine lF (f:=tO) (c:=6) (y:=B8 0) hml (by decide) (by rw [hoi];rfl) ?_
  rw [YB hlt,MJ (g:=fun k=>if k<i+1 then B8 0 else ⟨false,0,0,0,0,0,[],false⟩) fun k hk=>by
   by_cases h1:k=i
   ·rw [if_pos h1,if_pos (by omega)]
   ·rw [if_neg h1]
    by_cases h2:k<i
    ·rw [if_pos h2,if_pos (by omega)]
    ·rw [if_neg h2,if_neg (by omega)]]
  exact BB (by omega) hR
 ·have:i=8:=by omega
  subst this
  exact h
theorem aP {l:List Op5} {K:J2} (hl:(l.length:Int)≤2^40) (ho: ∀o∈l,OpF o) (h:K [] (trees (I3 l (min l.length 400)).1++[tR tA (I3 l (min l.length 400)).2])):cl2 ⟨Try.prog,w0⟩ 44 HG.sg [] [tR tP l] K:=by
 refine HG.cl2 ?_
 unfold HG.txt
 refine OM ?_
 simp only [AJ,AT,AL,AR,AS,AE,AI,AU,AK,AN,AO,AQ,AM,AP,BJ,BO,BL,BM,BN,BP,BK,A9,A4,A6,A7,A8,A5]
 refine BG (fun i=>[iv i]) (fun i=>[tR tA (I3 l i).2,tR tO (I3 l i).1.AD,tR tW (I3 l i).1.B3,tI (I3 l i).1.buffer,tS (I3 l i).1.sites]) (min l.length 400) (fun _=>True) rfl rfl trivial (fun R i hi hP hR=> ?_)
 obtain ⟨ok,pl⟩:=NU l i
 simp only [AJ,AT,AL,AR,AS,AE,AI,AU,AK,AN,AO,AQ,AM,AP,BJ,BO,BL,BM,BN,BP,BK,A9,A4,A6,A7,A8,A5]
 refine BA (BX (LD (fun hlt=> ?_) fun hge=> ?_))
 rotate_left
 ·refine FM hge rfl (CB ?_)
  have:i=min l.length 400:=by omega
  subst this
  exact h
 refine BA (FG hlt rfl (AW (fun h4=> ?_) fun h4=> ?_))
 ·have hll:i<l.length:=by omega
  replace hR:=hR (by omega) trivial
  have hof:OpF (po l i):=by rw [←pW hll];exact ho _ (List.getElem_mem hll)
  simp only [I3] at hR
  refine AH hll (sB hll ?_)
  simp only [tK,tL,tM,s7,uC]
  refine QE ok.fits ok.KK hof.a hof.c ?_
  rw [VQ ok]
  refine pJ (by rw [pl];omega) (BB (by omega) ?_)
  rw [←pA] at hR
  exact hR
 ·have:i=min l.length 400:=by omega
  subst this
  exact h
end Go.Proofs.Ytklmcfpgdfibnaa.P
namespace Go.Proofs.Ytklmcfpgdfibnaa.P
open Go Go.Proofs.Ytklmcfpgdfibnaa Go.Proofs.Ytklmcfpgdfibnaa.Eng
set_option linter.unusedVariables false
structure MP (os0 os:List AG) (freed:List Int):Prop where
 l0:os0.length=8
 len:os.length=8
 gn: ∀i,i<8→(ob os i).gen=(ob os0 i).gen
 sm: ∀i,i<8→(ob os i).live=true→(ob os0 i).live=true∧(ob os i).site=(ob os0 i).site∧(ob os i).holds=(ob os0 i).holds∧(ob os i).roots=(ob os0 i).roots∧(ob os i).field=(ob os0 i).field
 dd: ∀i,i<8→(ob os i).live=false→(ob os0 i).live=true→ob os i=B8 (ob os0 i).gen
 d0: ∀i,i<8→(ob os0 i).live=false→ob os i=ob os0 i
 fr: ∀x,x∈freed↔0≤AA os0 x∧AA os x<0
 nd:freed.Nodup
 ct:lvs os+freed.length=lvs os0
theorem MP.refl {os:List AG} (h:os.length=8):MP os os []:=⟨h,h,fun _ _=>rfl,fun i _ hv=>⟨hv,rfl,rfl,rfl,rfl⟩,fun i _ h1 h2=>(by rw [h1] at h2;cases h2),fun _ _ _=>rfl,fun x=>⟨fun hx=>(by simp at hx),fun ⟨a,b⟩=>by omega⟩,List.nodup_nil,by simp⟩
theorem MP.dec {os0 os:List AG} {freed:List Int} {k:Nat} {v:AG} (h:MP os0 os freed) (hk:k<8) (kv:(ob os k).live=true) (v1:v.live=true) (v2:v.gen=(ob os k).gen) (v3:v.site=(ob os k).site) (v4:v.holds=(ob os k).holds) (v5:v.roots=(ob os k).roots) (v6:v.field=(ob os k).field):MP os0 (os.set k v) freed:=by
 have hl:=h.len
 have eo: ∀i,ob (os.set k v) i=if i=k then v else ob os i:=fun i=>D4 (by omega)
 have sl: ∀x,AA (os.set k v) x=AA os x:=fun x=>FD (by simp) fun i _=>by
  rw [eo];split
  ·rename_i he;subst he;exact ⟨by rw [v1,kv],v2⟩
  ·exact ⟨rfl,rfl⟩
 refine ⟨h.l0,by simp [hl],fun i hi=> ?_,fun i hi hv=> ?_,fun i hi hv=> ?_,fun i hi hv=> ?_,fun x=>by rw [sl];exact h.fr x,h.nd, ?_⟩
 ·rw [eo];split
  ·rename_i he;subst he;rw [v2];exact h.gn i hi
  ·exact h.gn i hi
 ·rw [eo] at hv ⊢
  by_cases he:i=k
  ·subst he
   rw [if_pos rfl,v3,v4,v5,v6]
   exact h.sm i hi kv
  ·rw [if_neg he] at hv ⊢;exact h.sm i hi hv
 ·rw [eo] at hv ⊢
  by_cases he:i=k
  ·rw [if_pos he,v1] at hv;cases hv
  ·rw [if_neg he] at hv ⊢;exact h.dd i hi hv
 ·rw [eo]
  by_cases he:i=k
  ·subst he
   have:=(h.sm i hi kv).1
   rw [hv] at this;cases this
  ·rw [if_neg he];exact h.d0 i hi hv
 ·have:=QN (os:=os) (k:=k) (by omega) kv v
  rw [v1,if_pos rfl] at this
  have:=h.ct;omega
theorem MP.free {os0 os:List AG} {freed:List Int} {k:Nat} {id:Int} (h:MP os0 os freed) (hk:AA os id=(k:Int)):MP os0 (os.set k (B8 (ob os k).gen)) (freed++[id]):=by
 have hl:=h.len
 have hb:=BD (l:=os) (id:=id) (by omega)
 have ek:(AA os id).toNat=k:=by omega
 rw [ek] at hb
 obtain ⟨_,b1,b2,k8,kv,kg⟩:=hb
 have eo: ∀i,ob (os.set k (B8 (ob os k).gen)) i=if i=k then B8 (ob os k).gen else ob os i:=fun i=>D4 (by omega)
 have s0:AA os0 id=(k:Int):=by
  have e:(id % 8).toNat=k:=by omega
  rw [G5 (by omega) h.l0 (by have:=h.l0;omega) (by rw [e];exact (h.sm k k8 kv).1) (by rw [e, ←h.gn k k8];exact kg)]
  omega
 have sx: ∀x,AA (os.set k (B8 (ob os k).gen)) x=if x=id then -1 else AA os x:=fun x=>by
  by_cases hx:x=id
  ·subst hx
   rw [if_pos rfl]
   have e:(x % 8).toNat=k:=by omega
   exact GZ (by simp only [List.length_set];omega) (.inl (by rw [e,eo,if_pos rfl];rfl))
  ·rw [if_neg hx]
   by_cases h8:x<8∨os.length≠8
   ·rw [EN h8,EN (by simpa using h8)]
   ·have hln:(x % 8).toNat<os.length:=by omega
    by_cases he:(x % 8).toNat=k
    ·have hg:(ob os (x % 8).toNat).gen≠x/8:=fun hg=>hx (by rw [he,kg] at hg;omega)
     rw [GZ hln (.inr hg),GZ (by simpa using hln) (.inl (by rw [he,eo,if_pos rfl];rfl))]
    ·unfold AA
     rw [if_neg h8,if_neg (by simpa using h8),eo,if_neg he]
 refine ⟨h.l0,by simp [hl],fun i hi=> ?_,fun i hi hv=> ?_,fun i hi hv h0=> ?_,fun i hi hv=> ?_,fun x=> ?_, ?_, ?_⟩
 ·rw [eo];split
  ·rename_i he;subst he;exact h.gn i hi
  ·exact h.gn i hi
 ·rw [eo] at hv ⊢
  by_cases he:i=k
  ·rw [if_pos he] at hv;cases hv
  ·rw [if_neg he] at hv ⊢;exact h.sm i hi hv
 ·rw [eo] at hv ⊢
  by_cases he:i=k
  ·subst he;rw [if_pos rfl,h.gn i hi]
  ·rw [if_neg he] at hv ⊢;exact h.dd i hi hv h0
 ·rw [eo]
  by_cases he:i=k
  ·subst he
   have:=(h.sm i hi kv).1
   rw [hv] at this;cases this
  ·rw [if_neg he];exact h.d0 i hi hv
 ·rw [List.mem_append,List.mem_singleton,h.fr,sx]
  by_cases hx:x=id
  ·subst hx
   rw [if_pos rfl]
   exact ⟨fun _=>⟨by omega,by omega⟩,fun _=> .inr rfl⟩
  ·rw [if_neg hx]
   exact ⟨fun hh=>hh.resolve_right hx, .inl⟩
 ·refine List.nodup_append.2 ⟨h.nd,by simp,fun a ha b hb'=> ?_⟩
  rw [List.mem_singleton.1 hb']
  rintro rfl
  have:=((h.fr a).1 ha).2
  omega
 ·have:=QN (os:=os) (k:=k) (by omega) kv (B8 (ob os k).gen)
  rw [if_neg (by simp [B8])] at this
  have:=h.ct
  rw [List.length_append,List.length_singleton];omega
theorem m0 {ns:Nat} {os0:List AG}: ∀(f:Nat) {os:List AG} {buf todo freed:List Int},HP os ns buf todo→freed.length+lvs os≤8→todo.length+4*lvs os<f→MP os0 os freed→MP os0 (HT f os buf freed todo).1 (HT f os buf freed todo).2.2:=by
 intro f
 induction f with
 | zero=>intro os buf todo freed _ _ h;omega
 | succ f ih=>
   intro os buf todo freed h h8 hf hR
   cases todo with
   | nil=>exact hR
   | cons id pd=>
     have hs:=h.pd id (by simp)
     obtain ⟨k,hk⟩: ∃k:Nat,AA os id=(k:Int):=⟨(AA os id).toNat,by omega⟩
     obtain ⟨k8,kv,kid,kg1,kg2,kid8,kc,kc1,kF⟩:=h.at hk
     have hkl:k<os.length:=by have:=h.ol;omega
     simp only [HT,hk,Int.toNat_natCast]
     rw [if_neg (by omega),if_neg (by omega)]
     have ew:w64 ((ob os k).count-1)=(ob os k).count-1:=G8 ⟨by omega,by have:=kF.2;omega⟩
     rw [ew]
     have lset:=QN hkl kv
     have lvd: ∀v:AG,v.live=true→lvs (os.set k v)=lvs os:=fun v hv=>by
      have:=lset v
      rw [if_pos hv] at this;omega
     simp only [List.length_cons] at hf
     by_cases hc:(ob os k).count-1>0
     ·rw [if_pos hc]
      have hpk:=((h.obj k k8).lv kv).2.2.2.2.2.2
      rw [←kid] at hpk
      by_cases hp:(ob os k).purple=true
      ·rw [if_pos hp]
       exact ih (h.dec hk rfl rfl rfl rfl rfl rfl rfl (by simp only;omega) (fun x _=>Iff.rfl) hpk h.bnd) (by rw [lvd] <;> first | omega | exact kv) (by rw [lvd] <;> first | omega | exact kv) (hR.dec k8 kv kv rfl rfl rfl rfl rfl)
      ·rw [if_neg hp]
       have hni:id∉buf:=fun hm=>hp (hpk.2 hm)
       exact ih (h.dec hk rfl rfl rfl rfl rfl rfl rfl (by simp only;omega) (fun x hx=>by simp [hx]) (by simp) (List.nodup_append.2 ⟨h.bnd,by simp,fun a ha b hb=>by
        have hb:b=id:=by simpa using hb
        subst hb;intro he;exact hni (he ▸ ha)⟩)) (by rw [lvd] <;> first | omega | exact kv) (by rw [lvd] <;> first | omega | exact kv) (hR.dec k8 kv kv rfl rfl rfl rfl rfl)
     ·rw [if_neg hc]
      have hl:=lset (B8 (ob os k).gen)
      rw [if_neg (by simp [B8])] at hl
      have hfl:=List.length_filter_le (fun x=>decide (0≤x)) (ob os k).field
      rw [(h.obj k k8).len] at hfl
      exact ih (h.free hk (by omega)) (by rw [List.length_append,List.length_singleton];omega) (by rw [List.length_append];omega) (hR.free hk)
theorem dX {ns:Nat} {os:List AG} {buf:List Int} {x:Int} (h:HP os ns buf [x]):MP os (FP os buf [x]).1 (FP os buf [x]).2.2:=by
 have hol:=h.ol
 have:=YG hol
 exact m0 _ h (by simp only [List.length_nil];omega) (by simp only [List.length_singleton];omega) (MP.refl hol)
end Go.Proofs.Ytklmcfpgdfibnaa.P
namespace Go.Proofs.Ytklmcfpgdfibnaa.P
open Go Go.Proofs.Ytklmcfpgdfibnaa Go.Proofs.Ytklmcfpgdfibnaa.Eng
set_option linter.unusedVariables false
theorem X9 (s g:Int): -1≤CC s g∧CC s g≤7999:=by unfold CC;split <;> omega
structure a9 (h:Hp) (r:Hp×An):Prop where
 code:0≤r.2.code∧r.2.code≤6
 val: -1≤r.2.val∧r.2.val≤7999
 ref:r.2.code≠0→r.1=h∧r.2.freed=[]
 fr: ∀x∈r.2.freed,0≤AA h.AD x∧AA r.1.AD x<0
 nd:r.2.freed.Nodup
 len:r.2.freed.length≤8
theorem a9.plain {h h':Hp} {c v:Int} (hc:0≤c∧c≤6) (hv: -1≤v∧v≤7999) (hr:c≠0→h'=h):a9 h (h',⟨c,v,[]⟩):=⟨hc,hv,fun hh=>⟨hr hh,rfl⟩,by simp,List.nodup_nil,by simp⟩
theorem NW.slot {a b:List AG} (h:NW a b) (x:Int):AA b x=AA a x:=FD h.1 fun i _=>⟨(h.2 i).1,(h.2 i).2.1⟩
theorem Mid.step {h:Hp} {r:List AG×List Int×An} (m:Mid h.AD h.sites.length h.buffer r):a9 h (⟨r.1,h.B3,r.2.1,h.sites⟩,r.2.2):=by
 rcases m with ⟨c,hc,rfl⟩ | ⟨os1,h1,_,_,rfl⟩ | ⟨os1,x,h1,hs,_,rfl⟩
 ·exact a9.plain ⟨by omega,by omega⟩ (by omega) fun _=>rfl
 ·exact a9.plain (by decide) (by omega) fun hh=>absurd rfl hh
 ·have R:=dX h1
  have h8:=YG h1.ol
  have hct:=R.ct
  refine ⟨⟨by simp [NS],by simp [NS]⟩,⟨by simp [NS],by simp [NS]⟩,fun hh=>absurd rfl hh,fun x hx=> ?_,R.nd,by simp only [NS];omega⟩
  obtain ⟨a,b⟩:=(R.fr x).1 hx
  rw [hs.slot] at a
  exact ⟨a,b⟩
end Go.Proofs.Ytklmcfpgdfibnaa.P
