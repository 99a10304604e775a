/- A part of the proof. -/
import Derived.Test.YtklmcfpgdfibnaaWaGdA
import Derived.Test.YtklmcfpgdfibnaaChecked
import Derived.Test.YtklmcfpgdfibnaaWaEngM2
import Derived.KernelRfl
namespace Go.Proofs.Ytklmcfpgdfibnaa.P
open Go Go.Proofs.Ytklmcfpgdfibnaa Go.Proofs.Ytklmcfpgdfibnaa.Eng
set_option linter.unusedVariables false
section
variable {os:List AE} {ns:Nat} {buf pd pd':List Int} {k:Nat} {id:Int}
theorem HP.me (h:HP os ns buf pd) (hk:AA os id=(k:Int)):k<8∧(ob os k).live=true∧id=B6 k (ob os k).gen:=by
 have hb:=BF (l:=os) (id:=id) (by omega)
 have e:(AA os id).toNat=k:=by omega
 rw [e] at hb
 have ho:=h.obj k hb.2.2.2.1
 exact ⟨hb.2.2.2.1,hb.2.2.2.2.1,M8 hk (ho.lv hb.2.2.2.2.1).1 ho.gen.2⟩
theorem HP.upd (h:HP os ns buf pd) (hk:AA os id=(k:Int)) {v:AE} (v1:v.live=(ob os k).live) (v2:v.gen=(ob os k).gen) (v3:v.site=(ob os k).site) (v4:0≤v.holds∧v.holds≤20) (v5:0≤v.roots∧v.roots≤20) (v6:v.field=(ob os k).field) (v7:v.purple=(ob os k).purple) (vc:v.count=v.holds+v.roots+CD os id+pd'.count id) (vb:1≤v.count∧v.count≤1000) (hp: ∀x,x≠id→pd'.count x=pd.count x) (hl: ∀x∈pd',0≤AA os x):HP (os.set k v) ns buf pd':=by
 obtain ⟨k8,kv,kid⟩:=h.me hk
 have hok:=h.obj k k8
 have kg1:=(hok.lv kv).1
 have kg2:=hok.gen.2
 have hol:=h.ol
 have hkl:k<os.length:=by omega
 have sl: ∀x,AA (os.set k v) x=AA os x:=fun x=>EE (by simp) fun i hi=>by
  rw [DY hkl];split
  ·rename_i he;subst he;exact ⟨v1,v2⟩
  ·exact ⟨rfl,rfl⟩
 have ed: ∀x,CD (os.set k v) x=CD os x:=fun x=>OA (by simp) fun i hi=>by
  rw [DY hkl];split
  ·rename_i he;subst he;exact ⟨v1,v6⟩
  ·exact ⟨rfl,rfl⟩
 refine ⟨by simpa using hol,fun i hi=> ?_,h.bnd,fun x hx=>by rw [sl];exact h.blv x hx,fun x hx=>by rw [sl];exact hl x hx⟩
 have ho:=h.obj i hi
 by_cases hik:i=k
 ·subst hik
  have e:ob (os.set i v) i=v:=by rw [DY hkl,if_pos rfl]
  obtain ⟨g1,g2,g3,g4,g5,g6,g7⟩:=ho.lv kv
  refine ⟨by rw [e,v2];exact ho.gen,by rw [e,v6];exact ho.len,by rw [e];exact vb.2,fun f hf hne=> ?_,fun hd=> ?_,fun _=> ?_⟩
  ·rw [e,v6] at hf;rw [e,v1,sl];exact ho.lead f hf hne
  ·rw [e,v1,kv] at hd;cases hd
  ·rw [e,v2,v3,ed,v7, ←kid]
   rw [←kid] at g7
   exact ⟨g1,g2,v4,v5,vc,vb.1,g7⟩
 ·have e:ob (os.set k v) i=ob os i:=by rw [DY hkl,if_neg hik]
  refine ⟨by rw [e];exact ho.gen,by rw [e];exact ho.len,by rw [e];exact ho.cb,fun f hf hne=> ?_,fun hd=> ?_,fun hv=> ?_⟩
  ·rw [e] at hf;rw [e,sl];exact ho.lead f hf hne
  ·rw [e] at hd ⊢;exact ho.dead hd
  ·rw [e] at hv ⊢
   obtain ⟨g1,g2,g3,g4,g5,g6,g7⟩:=ho.lv hv
   have hne:B6 i (ob os i).gen≠id:=by rw [kid];exact ZR hi k8 g1 ho.gen.2 kg1 kg2 hik
   exact ⟨g1,g2,g3,g4,by rw [ed,hp _ hne];exact g5,g6,g7⟩
theorem HP.P7 (h:HP os ns buf []) (hk:AA os id=(k:Int)):(ob os k).count=(ob os k).holds+(ob os k).roots+CD os id∧1≤(ob os k).count∧(ob os k).count≤64∧(0≤(ob os k).holds∧(ob os k).holds≤20)∧(0≤(ob os k).roots∧(ob os k).roots≤20):=by
 obtain ⟨k8,kv,kid⟩:=h.me hk
 obtain ⟨_,_,g3,g4,g5,g6,_⟩:=(h.obj k k8).lv kv
 rw [←kid] at g5
 have hed:=OQ (l:=os) (id:=id) (b:=3) fun o ho'=>by
  obtain ⟨i,hi,rfl⟩:=List.getElem_of_mem ho'
  rw [DC hi,(h.obj i (by have:=h.ol;omega)).len];omega
 have hol:=h.ol
 simp only [List.count_nil] at g5
 exact ⟨by omega,g6,by omega,g3,g4⟩
theorem bG {os:List AE} {id:Int} {k:Nat} {v:AE} (hk:AA os id=(k:Int)) (hkl:k<os.length) (v1:v.live=(ob os k).live) (v2:v.gen=(ob os k).gen):DZ (os.set k v) id=os.set k {v with count:=w64 (v.count+1)}:=by
 have sl:AA (os.set k v) id=k:=by
  rw [←hk]
  exact EE (by simp) fun i hi=>by
   rw [DY hkl];split
   ·rename_i he;subst he;exact ⟨v1,v2⟩
   ·exact ⟨rfl,rfl⟩
 have e:ob (os.set k v) k=v:=by rw [DY hkl,if_pos rfl]
 unfold DZ
 rw [sl,if_neg (by omega),Int.toNat_natCast,e,List.set_set]
def N5 (a b:List AE):Prop:=b.length=a.length∧ ∀i,(ob b i).live=(ob a i).live∧(ob b i).gen=(ob a i).gen∧(ob b i).site=(ob a i).site
theorem N5.set {os:List AE} {k:Nat} {v:AE} (hk:k<os.length) (h1:v.live=(ob os k).live) (h2:v.gen=(ob os k).gen) (h3:v.site=(ob os k).site):N5 os (os.set k v):=by
 refine ⟨by simp,fun i=> ?_⟩
 rw [DY hk];split
 ·rename_i he;subst he;exact ⟨h1,h2,h3⟩
 ·exact ⟨rfl,rfl,rfl⟩
def Mid (os:List AE) (ns:Nat) (buf:List Int) (r:List AE×List Int×An):Prop:=
 (∃c:Int,(1≤c∧c≤6)∧r=(os,buf,⟨c,0,[]⟩))∨(∃os1,HP os1 ns buf []∧N5 os os1∧(Gd os buf→Gd os1 buf)∧r=(os1,buf,⟨0,0,[]⟩))∨
 ∃os1 x,HP os1 ns buf [x]∧N5 os os1∧(Gd os buf→Gd os1 (buf++[x]))∧r=OU (FH os1 buf [x])
theorem Mid.ok {r:List AE×List Int×An} (h:HP os ns buf []) (m:Mid os ns buf r):HP r.1 ns r.2.1 []:=by
 rcases m with ⟨c,_,rfl⟩ | ⟨os1,h1,_,_,rfl⟩ | ⟨os1,x,h1,_,_,rfl⟩
 ·exact h
 ·exact h1
 ·exact HP.FH h1
theorem Mid.gd {r:List AE×List Int×An} (g:Gd os buf) (m:Mid os ns buf r):Gd r.1 r.2.1:=by
 rcases m with ⟨c,_,rfl⟩ | ⟨os1,h1,_,h2,rfl⟩ | ⟨os1,x,h1,_,h2,rfl⟩
 ·exact g
 ·exact h2 g
 ·exact qS h1 (h2 g)
theorem HP.aN (h:HP os ns buf []) {kd:Int}:Mid os ns buf (G8 os buf kd id):=by
 unfold G8
 by_cases hs:AA os id<0
 ·rw [if_pos hs];exact .inl ⟨1,by decide,rfl⟩
 rw [if_neg hs]
 obtain ⟨k,hk⟩: ∃k:Nat,AA os id=(k:Int):=⟨(AA os id).toNat,by omega⟩
 rw [hk,Int.toNat_natCast]
 obtain ⟨c1,c2,c3,c4,c5⟩:=h.P7 hk
 have hkl:k<os.length:=by have:=(h.me hk).1;have:=h.ol;omega
 have ew:w64 ((ob os k).count+1)=(ob os k).count+1:=I8 ⟨by omega,by omega⟩
 have hls:0≤AA os id:=by omega
 split
 ·split
  ·exact .inl ⟨4,by decide,rfl⟩
  ·simp only
   rw [bG hk hkl]
   ·simp only [ew]
    refine .inr (.inl ⟨_, ?_, ?_, ?_,rfl⟩)
    ·exact h.upd hk rfl rfl rfl (by simp only;omega) (by simp only;omega) rfl rfl (by simp only [List.count_nil];omega) (by simp only;omega) (fun _ _=>rfl) (by simp)
    ·exact N5.set hkl rfl rfl rfl
    ·exact fun g=>g.hold hkl rfl rfl rfl (.inl (by simp only;omega)) fun _ h=>h
   ·rfl
   ·rfl
 ·split
  ·split
   ·exact .inl ⟨4,by decide,rfl⟩
   ·simp only
    rw [bG hk hkl]
    ·simp only [ew]
     refine .inr (.inl ⟨_, ?_, ?_, ?_,rfl⟩)
     ·exact h.upd hk rfl rfl rfl (by simp only;omega) (by simp only;omega) rfl rfl (by simp only [List.count_nil];omega) (by simp only;omega) (fun _ _=>rfl) (by simp)
     ·exact N5.set hkl rfl rfl rfl
     ·exact fun g=>g.hold hkl rfl rfl rfl (.inl (by simp only;omega)) fun _ h=>h
    ·rfl
    ·rfl
  ·split
   ·split
    ·exact .inl ⟨5,by decide,rfl⟩
    ·refine .inr (.inr ⟨_,_, ?_, ?_, ?_,rfl⟩)
     ·exact h.upd (pd':=[id]) hk rfl rfl rfl (by simp only;omega) (by simp only;omega) rfl rfl (by simp only [List.count_singleton_self];omega) (by simp only;omega) (fun x hx=>by simp [Ne.symm hx]) (by simpa using hls)
     ·exact N5.set hkl rfl rfl rfl
     ·exact fun g=>g.hold hkl rfl rfl rfl (.inr ⟨id,by simp,hk⟩) fun _ h=>List.mem_append_left _ h
   ·split
    ·exact .inl ⟨5,by decide,rfl⟩
    ·refine .inr (.inr ⟨_,_, ?_, ?_, ?_,rfl⟩)
     ·exact h.upd (pd':=[id]) hk rfl rfl rfl (by simp only;omega) (by simp only;omega) rfl rfl (by simp only [List.count_singleton_self];omega) (by simp only;omega) (fun x hx=>by simp [Ne.symm hx]) (by simpa using hls)
     ·exact N5.set hkl rfl rfl rfl
     ·exact fun g=>g.hold hkl rfl rfl rfl (.inr ⟨id,by simp,hk⟩) fun _ h=>List.mem_append_left _ h
theorem HP.hold (h:HP os ns buf []) {kd:Int}:HP (G8 os buf kd id).1 ns (G8 os buf kd id).2.1 []:=h.aN.ok h
theorem jD {os:List AE} {c:Int} {i:Nat} (hol:os.length=8):(ob (DZ os c) i).count=if AA os c=(i:Int) then w64 ((ob os i).count+1) else (ob os i).count:=by
 unfold DZ
 split
 ·rw [if_neg (by omega)]
 ·have hb:=BF (l:=os) (id:=c) (by omega)
  rw [DY (by omega)]
  by_cases hi:i=(AA os c).toNat
  ·rw [if_pos hi,if_pos (by omega), ←hi]
  ·rw [if_neg hi,if_neg (by omega)]
theorem HP.W5 (h:HP os ns buf []) {a b c:Int}:Mid os ns buf (JK os buf a b c):=by
 unfold JK
 by_cases hs:AA os a<0∨(c≠ -1∧AA os c<0)
 ·rw [if_pos hs];exact .inl ⟨1,by decide,rfl⟩
 rw [if_neg hs]
 by_cases hb: ¬(0≤b∧b≤2)
 ·rw [if_pos hb];exact .inl ⟨2,by decide,rfl⟩
 rw [if_neg hb]
 obtain ⟨k,hk⟩: ∃k:Nat,AA os a=(k:Int):=⟨(AA os a).toNat,by omega⟩
 rw [hk,Int.toNat_natCast]
 obtain ⟨j,hj⟩: ∃j:Nat,b.toNat=j:=⟨_,rfl⟩
 rw [hj]
 obtain ⟨k8,kv,kid⟩:=h.me hk
 have hok:=h.obj k k8
 have hol:=h.ol
 have hkl:k<os.length:=by omega
 have gl:=XL os c
 have hkg:k<(DZ os c).length:=by omega
 have jl:j<(ob os k).field.length:=by rw [hok.len];omega
 have gob:=fun i=>bU (os:=os) (id:=c) (i:=i)
 obtain ⟨os2,hos2⟩: ∃os2,os2=(DZ os c).set k {ob (DZ os c) k with field:=(ob os k).field.set j c}:=⟨_,rfl⟩
 rw [←hos2]
 have eo: ∀i,ob os2 i=if i=k then {ob (DZ os c) k with field:=(ob os k).field.set j c} else ob (DZ os c) i:=fun i=>by rw [hos2];exact DY hkg
 have l2:os2.length=os.length:=by rw [hos2,List.length_set,gl]
 have same: ∀i,(ob os2 i).live=(ob os i).live∧(ob os2 i).gen=(ob os i).gen∧(ob os2 i).site=(ob os i).site∧(ob os2 i).holds=(ob os i).holds∧(ob os2 i).roots=(ob os i).roots∧(ob os2 i).purple=(ob os i).purple:=fun i=>by
  obtain ⟨q1,q2,q3,q4,q5,_,q7⟩:=gob i
  rw [eo];split
  ·rename_i he;subst he;exact ⟨q1,q2,q3,q4,q5,q7⟩
  ·exact ⟨q1,q2,q3,q4,q5,q7⟩
 have sml:N5 os os2:=⟨l2,fun i=>⟨(same i).1,(same i).2.1,(same i).2.2.1⟩⟩
 have sl: ∀x,AA os2 x=AA os x:=fun x=>EE l2 fun i hi=>⟨(same i).1,(same i).2.1⟩
 have cn: ∀i,(ob os2 i).count=if AA os c=(i:Int) then w64 ((ob os i).count+1) else (ob os i).count:=fun i=>by
  rw [eo, ←jD hol];split
  ·rename_i he;subst he;rfl
  ·rfl
 have fdk:(ob os2 k).field=(ob os k).field.set j c:=by rw [eo,if_pos rfl]
 have fdo: ∀i,i≠k→(ob os2 i).field=(ob os i).field:=fun i hi=>by rw [eo,if_neg hi];exact (gob i).2.2.2.2.2.1
 obtain ⟨was,hwas⟩: ∃w,gI (ob os k).field j=w:=⟨_,rfl⟩
 rw [hwas]
 have hwm:was∈(ob os k).field:=by rw [←hwas];exact C7 jl
 have eg: ∀x,CD (DZ os c) x=CD os x:=fun x=>OA gl fun i hi=>⟨(gob i).1,(gob i).2.2.2.2.2.1⟩
 have ed: ∀x,(CD os2 x:Int)+(if was=x then 1 else 0)=CD os x+(if c=x then 1 else 0):=fun x=>by
  have e:=PC (os:=DZ os c) (v:={ob (DZ os c) k with field:=(ob os k).field.set j c}) (id:=x) hkg
  rw [←hos2,eg,ID (by rw [(gob k).1];exact kv),ID (by simp only;rw [(gob k).1];exact kv),(gob k).2.2.2.2.2.1] at e
  simp only at e
  have ec:=List.count_set (a:=c) (b:=x) jl
  rw [DB jl,hwas] at ec
  have hcp:was=x→0<(ob os k).field.count x:=fun he=>List.count_pos_iff.2 (he ▸ hwm)
  simp only [beq_iff_eq] at ec
  by_cases h1:was=x
  ·have:=hcp h1
   by_cases h2:c=x
   ·rw [if_pos h1,if_pos h2] at ec ⊢;omega
   ·rw [if_pos h1,if_neg h2] at ec ⊢;omega
  ·by_cases h2:c=x
   ·rw [if_neg h1,if_pos h2] at ec ⊢;omega
   ·rw [if_neg h1,if_neg h2] at ec ⊢;omega
 have key: ∀pd':List Int,(∀x,8≤x→(pd'.count x:Int)=if was=x then 1 else 0)→(∀x∈pd',0≤AA os x)→HP os2 ns buf pd':=fun pd' hp hpl=>by
  refine ⟨by omega,fun i hi=> ?_,h.bnd,fun x hx=>by rw [sl];exact h.blv x hx,fun x hx=>by rw [sl];exact hpl x hx⟩
  have ho:=h.obj i hi
  obtain ⟨q1,q2,q3,q4,q5,q7⟩:=same i
  have hc8:AA os c=(i:Int)→(ob os i).live=true∧c=B6 i (ob os i).gen:=fun hh=>⟨(h.me hh).2.1,(h.me hh).2.2⟩
  have wc: ∀(hv:(ob os i).live=true),(ob os2 i).count=(ob os i).count+if c=B6 i (ob os i).gen then 1 else 0:=fun hv=>by
   have hsid:=EZ hol hi hv (ho.lv hv).1 ho.gen.2
   have:=ho.cb;have:=(ho.lv hv).2.2.2.2.2.1
   rw [cn]
   by_cases hh:AA os c=(i:Int)
   ·rw [if_pos hh,if_pos (hc8 hh).2,I8 ⟨by omega,by omega⟩]
   ·rw [if_neg hh,if_neg fun he=>hh (by rw [he];exact hsid)];omega
  refine ⟨by rw [q2];exact ho.gen, ?_, ?_,fun f hf hne=> ?_,fun hd=> ?_,fun hv=> ?_⟩
  ·by_cases hik:i=k
   ·rw [hik,fdk,List.length_set];exact hok.len
   ·rw [fdo i hik];exact ho.len
  ·cases hv:(ob os i).live with
   | true=>
     have hcl:=(h.P7 (EZ hol hi hv (ho.lv hv).1 ho.gen.2)).2.2.1
     rw [wc hv];split <;> omega
   | false=>
     rw [cn,if_neg fun hh=>by have:=(hc8 hh).1;rw [hv] at this;cases this]
     exact ho.cb
  ·rw [q1,sl]
   by_cases hik:i=k
   ·subst hik
    rw [fdk] at hf
    rcases List.mem_or_eq_of_mem_set hf with hf | rfl
    ·exact ho.lead f hf hne
    ·exact ⟨kv,by omega⟩
   ·rw [fdo i hik] at hf;exact ho.lead f hf hne
  ·rw [q1] at hd
   rw [q3,q4,q5,q7,cn,if_neg fun hh=>by have:=(hc8 hh).1;rw [hd] at this;cases this]
   exact ho.dead hd
  ·rw [q1] at hv
   obtain ⟨g1,g2,g3,g4,g5,g6,g7⟩:=ho.lv hv
   have hid8:8≤B6 i (ob os i).gen:=by rw [F4 hi g1 ho.gen.2];omega
   have e1:=ed (B6 i (ob os i).gen)
   have e2:=hp _ hid8
   have e3:=wc hv
   simp only [List.count_nil] at g5
   rw [q2,q3,q4,q5,q7,e3]
   refine ⟨g1,g2,g3,g4, ?_, ?_,g7⟩
   ·rw [e2]
    split <;> split at e1 <;> simp_all <;> omega
   ·split <;> omega
 have gd2: ∀L':List Int,(0≤AA os was→was∈L')→(∀x∈buf,x∈L')→Gd os buf→Gd os2 L':=fun L' hw hL g=>
  g.xQ (w:=was) (fun i=>⟨(same i).1.symm,(same i).2.2.2.1.symm,(same i).2.2.2.2.1.symm⟩) sl (fun y x hx=>by
    obtain ⟨h0,f,hf,hs⟩:=FG.1 hx
    by_cases hy:y=k
    ·subst hy
     by_cases hfw:f=was
     ·right;rw [sl, ←hfw,hs]
     ·left
      refine FG.2 ⟨h0,f, ?_,by rw [sl];exact hs⟩
      rw [fdk]
      obtain ⟨i,hi,rfl⟩:=List.getElem_of_mem hf
      have hij:j≠i:=fun he=>hfw (by subst he;rw [DB hi];exact hwas)
      exact List.mem_iff_getElem.2 ⟨i,by simpa using hi,List.getElem_set_ne hij _⟩
    ·left
     exact FG.2 ⟨h0,f,by rw [fdo y hy];exact hf,by rw [sl];exact hs⟩) (by rw [sl];exact hw) hL
 split
 ·rename_i hw
  exact .inr (.inl ⟨_,key [] (fun x hx=>by rw [if_neg (by omega)];rfl) (by simp),sml,gd2 buf (fun hh=>by rw [hw] at hh;exact absurd hh (by rw [EH (.inl (by omega))];omega)) fun _ h=>h,rfl⟩)
 ·rename_i hw
  exact .inr (.inr ⟨_,_,key [was] (fun x hx=>by rw [List.count_singleton];by_cases he:was=x <;> simp [he]) (by simpa using (hok.lead was hwm hw).2),sml,gd2 (buf++[was]) (fun _=>by simp) fun _ h=>List.mem_append_left _ h,rfl⟩)
theorem HP.store (h:HP os ns buf []) {a b c:Int}:HP (JK os buf a b c).1 ns (JK os buf a b c).2.1 []:=h.W5.ok h
theorem mE {l:List Nat} (h: ∀n∈l,n=0):l.sum=0:=by
 induction l with
 | nil=>rfl
 | cons x l ih=>rw [List.sum_cons,h x (by simp),ih fun n hn=>h n (by simp [hn])]
theorem HP.put (h:HP os ns buf []) (k8:k<8) (hd:(ob os k).live=false) (hg:(ob os k).gen<999) {t:Int} {ns':Nat} (hn:ns≤ns') (ht:0≤t∧t≤(ns':Int)-1):HP (os.set k (JI ((ob os k).gen+1) t)) ns' buf []:=by
 have hol:=h.ol
 have hkl:k<os.length:=by omega
 have hgk:=(h.obj k k8).gen
 have eo: ∀i,ob (os.set k (JI ((ob os k).gen+1) t)) i=if i=k then JI ((ob os k).gen+1) t else ob os i:=fun i=>DY hkl
 have sl: ∀x,0≤AA os x→AA (os.set k (JI ((ob os k).gen+1) t)) x=AA os x:=fun x hx=>by
  have hb:=BF hx
  have hne:(x % 8).toNat≠k:=fun he=>by
   have:=hb.2.2.2.2.1
   have e:(AA os x).toNat=k:=by omega
   rw [e,hd] at this;cases this
  simp only [AA,List.length_set]
  rw [eo,if_neg hne]
 have ed: ∀x,0≤x→CD (os.set k (JI ((ob os k).gen+1) t)) x=CD os x:=fun x hx=>by
  have e:=PC (os:=os) (v:=JI ((ob os k).gen+1) t) (id:=x) hkl
  rw [PE hd,ID (o:=JI ((ob os k).gen+1) t) rfl] at e
  have:(JI ((ob os k).gen+1) t).field.count x=0:=List.count_eq_zero.2 fun hm=>by simp [JI,P2] at hm;omega
  omega
 have nosl: ∀x,0≤AA os x→x≠B6 k ((ob os k).gen+1):=fun x hx he=>by
  have hb:=BF hx
  rw [F4 k8 (by omega) (by omega)] at he
  have e:(AA os x).toNat=k:=by omega
  have:=hb.2.2.2.2.1
  rw [e,hd] at this;cases this
 refine ⟨by simpa using hol,fun i hi=> ?_,h.bnd,fun x hx=>by rw [sl x (h.blv x hx)];exact h.blv x hx,by simp⟩
 have ho:=h.obj i hi
 by_cases hik:i=k
 ·subst hik
  have e:ob (os.set i (JI ((ob os i).gen+1) t)) i=JI ((ob os i).gen+1) t:=by rw [eo,if_pos rfl]
  refine ⟨by rw [e];simp only [JI];omega,by rw [e];rfl,by rw [e];simp [JI],fun f hf hne=> ?_,fun hh=>(by rw [e] at hh;cases hh),fun _=> ?_⟩
  ·rw [e] at hf;simp [JI,P2] at hf;exact absurd hf hne
  ·rw [e]
   simp only [JI]
   have hz:CD os (B6 i ((ob os i).gen+1))=0:=by
    unfold CD
    refine mE fun n hn=> ?_
    obtain ⟨o,ho',rfl⟩:=List.mem_map.1 hn
    obtain ⟨j,hj,rfl⟩:=List.getElem_of_mem ho'
    rw [DC hj]
    cases hv:(ob os j).live with
    | false=>exact PE hv
    | true=>
      rw [ID hv]
      refine List.count_eq_zero.2 fun hm=> ?_
      have hpos:B6 i ((ob os i).gen+1)≠ -1:=by rw [F4 k8 (by omega) (by omega)];omega
      exact nosl _ ((h.obj j (by omega)).lead _ hm hpos).2 rfl
   have hed:=ed (B6 i ((ob os i).gen+1)) (by rw [F4 k8 (by omega) (by omega)];omega)
   have hed2:CD (os.set i (JI ((ob os i).gen+1) t)) (B6 i ((ob os i).gen+1))=0:=by rw [hed,hz]
   simp only [JI] at hed2
   refine ⟨by omega,ht,by omega,by omega,by rw [hed2];simp,by omega,⟨fun hh=>(by cases hh),fun hm=>absurd rfl (nosl _ (h.blv _ hm))⟩⟩
 ·have e:ob (os.set k (JI ((ob os k).gen+1) t)) i=ob os i:=by rw [eo,if_neg hik]
  refine ⟨by rw [e];exact ho.gen,by rw [e];exact ho.len,by rw [e];exact ho.cb,fun f hf hne=> ?_,fun hh=> ?_,fun hv=> ?_⟩
  ·rw [e] at hf;have:=ho.lead f hf hne;rw [e,sl f this.2];exact this
  ·rw [e] at hh ⊢;exact ho.dead hh
  ·rw [e] at hv ⊢
   obtain ⟨g1,g2,g3,g4,g5,g6,g7⟩:=ho.lv hv
   exact ⟨g1,by omega,g3,g4,by rw [ed _ (by rw [F4 hi g1 ho.gen.2];omega)];exact g5,g6,g7⟩
end
theorem at_mem {l:List ByteArray} {s:ByteArray}:at_ l s<0↔s∉l:=by
 unfold at_;split
 ·rename_i h;simp [h]
 ·rename_i h;simp [h]
theorem LY.snoc {l:List ByteArray} {s:ByteArray} (h:LY l) (h6:l.length<6) (hs:1≤(s.size:Int)∧(s.size:Int)≤8) (hn:s∉l):LY (l++[s]):=by
 have e: ∀i,i<l.length→gS (l++[s]) i=gS l i:=fun i hi=>by
  rw [←RM (by simp;omega), ←RM hi,List.getElem_append_left hi]
 have e2:gS (l++[s]) l.length=s:=by rw [←RM (by simp)];simp
 refine ⟨by simp;omega,fun i hi=> ?_,fun i hi=> ?_⟩
 ·by_cases hl:i<l.length
  ·rw [e i hl];exact h.sz i hl
  ·have:i=l.length:=by simp at hi;omega
   rw [this,e2];exact hs
 ·by_cases hl:i<l.length
  ·rw [e i hl,List.take_append_of_le_length (by omega)];exact h.one i hl
  ·have:i=l.length:=by simp at hi;omega
   rw [this,e2];simpa using hn
theorem lT {os:List AE} {buf:List Int} {ss:List ByteArray} {s:ByteArray} (h:HP os ss.length buf []) (hs:LY ss):HP (H4 os ss s).1 (H4 os ss s).2.1.length buf []∧LY (H4 os ss s).2.1:=by
 unfold H4
 by_cases hb: ¬(1≤(s.size:Int)∧(s.size:Int)≤8)
 ·rw [if_pos hb];exact ⟨h,hs⟩
 rw [if_neg hb]
 by_cases hf:CT os<0
 ·rw [if_pos hf];exact ⟨h,hs⟩
 rw [if_neg hf]
 obtain ⟨f1,f2,f3⟩:=N9 hf
 have hol:=h.ol
 simp only [K8,Bool.and_eq_true,Bool.not_eq_true',decide_eq_true_eq] at f3
 have hg:=(h.obj (CT os).toNat (by omega)).gen
 have ew:w64 ((ob os (CT os).toNat).gen+1)=(ob os (CT os).toNat).gen+1:=I8 ⟨by omega,by omega⟩
 by_cases h6:at_ ss s<0∧6≤ss.length
 ·rw [if_pos h6];exact ⟨h,hs⟩
 rw [if_neg h6,ew]
 simp only
 by_cases ha:at_ ss s<0
 ·rw [if_pos ha,if_pos ha]
  exact ⟨h.put (by omega) f3.1 f3.2 (by simp) (by simp),hs.snoc (by omega) (Decidable.not_not.1 hb) (at_mem.1 ha)⟩
 ·rw [if_neg ha,if_neg ha]
  have hm:s∈ss:=Decidable.byContradiction fun hn=>ha (at_mem.2 hn)
  have hat:at_ ss s≤(ss.length:Int)-1:=by
   unfold at_;rw [if_pos hm]
   have:=List.idxOf_lt_length_of_mem hm
   omega
  exact ⟨h.put (by omega) f3.1 f3.2 (Nat.le_refl _) ⟨by omega,hat⟩,hs⟩
end Go.Proofs.Ytklmcfpgdfibnaa.P
namespace Go.Proofs.Ytklmcfpgdfibnaa.P
open Go Go.Proofs.Ytklmcfpgdfibnaa Go.Proofs.Ytklmcfpgdfibnaa.Eng
set_option linter.unusedVariables false
theorem iU {g:Nat→AE} {id:Int}:(CD (mk8 g) id:Int)=FV 8 fun k=>(KW id (g k):Int):=by
 simp only [CD,mk8,List.map_map]
 simp [List.range_succ,FV]
 omega
section
variable {os:List AE} {ns:Nat} {buf:List Int} {i j k:Nat}
theorem HP.w5 (h:HP os ns buf []) (hk:k<8) (hj:j<8) (hv:(ob os j).live=true):E os k j=KW (B6 j (ob os j).gen) (ob os k):=by
 have hoj:=h.obj j hj
 have g1:=(hoj.lv hv).1
 have e1:(BG os k).count (j:Int)=(ob os k).field.count (B6 j (ob os j).gen):=by
  unfold BG
  rw [List.count_filter (by simp),List.count_eq_countP,List.countP_map,List.count_eq_countP]
  refine List.countP_congr fun f hf=> ?_
  simp only [Function.comp,beq_iff_eq]
  constructor
  ·intro he;exact M8 he g1 hoj.gen.2
  ·intro he;rw [he];exact EZ h.ol hj hv g1 hoj.gen.2
 unfold E
 rw [e1]
 cases hd:(ob os k).live with
 | true=>rw [ID hd]
 | false=>
   rw [PE hd,List.count_eq_zero.2 fun hm=> ?_]
   have hne:B6 j (ob os j).gen≠ -1:=by rw [F4 hj g1 hoj.gen.2];omega
   have:=((h.obj k hk).lead _ hm hne).1
   rw [hd] at this;cases this
theorem HP.iG (h:HP os ns buf []) (hj:j<8) (hv:(ob os j).live=true):(CD os (B6 j (ob os j).gen):Int)=S os (fun _=>true) j:=by
 have e:CD os (B6 j (ob os j).gen)=CD (mk8 (ob os)) (B6 j (ob os j).gen):=by rw [←bH h.ol]
 rw [e,iU]
 exact JY fun k hk=>by rw [if_pos rfl,h.w5 hk hj hv]
theorem RB.live (h:RB os buf k):(ob os k).live=true:=by
 obtain ⟨b,_,s,hs,hr⟩:=h
 have hb:=BF (l:=os) (id:=b) (by omega)
 have e:(AA os b).toNat=s:=by omega
 rw [e] at hb
 exact hr.closed (P:=fun k=>(ob os k).live=true) hb.2.2.2.2.1 fun _ _ _ hj=>(B4 hj).2.2.2.2
theorem qZ {P:Nat→Bool} (hk:k<8) (hp:P k=true):E os k j≤S os P j:=by
 have:=SV (n:=8) (k0:=k) (f:=fun x=>if x=k then 0 else if P x then E os x j else 0) (g:=fun x=>if P x then E os x j else 0) hk fun x hx hne=>by simp [hne]
 have h0:0≤FV 8 fun x=>if x=k then 0 else if P x then E os x j else 0:=by
  have:=JX (n:=8) (f:=fun _=>0) (g:=fun x=>if x=k then 0 else if P x then E os x j else 0) fun x hx=>by
   split
   ·exact Int.le_refl _
   ·split
    ·exact OM _ _ _
    ·exact Int.le_refl _
  rw [H5 (fun _ _=>rfl)] at this;exact this
 simp only [hp,if_true] at this
 unfold S;omega
theorem HP.ext (h:HP os ns buf []) (hj:j<8) (hv:(ob os j).live=true):EX os (fun i=>(ob os i).count) (NL os buf) j↔0<(ob os j).holds+(ob os j).roots+S os (fun k=> !NL os buf k) j:=by
 have hcl:=h.P7 (EZ h.ol hj hv ((h.obj j hj).lv hv).1 (h.obj j hj).gen.2)
 have e1:=h.iG hj hv
 have e2:=YQ (os:=os) (P:=NL os buf) (i:=j)
 have n1:0≤S os (NL os buf) j:=by
  have:=JX (n:=8) (f:=fun _=>0) (g:=fun x=>if NL os buf x then E os x j else 0) fun x hx=>by
   split
   ·exact OM _ _ _
   ·exact Int.le_refl _
  rw [H5 (fun _ _=>rfl)] at this;exact this
 have n2:0≤S os (fun k=> !NL os buf k) j:=by
  have:=JX (n:=8) (f:=fun _=>0) (g:=fun x=>if (!NL os buf x) then E os x j else 0) fun x hx=>by
   split
   ·exact OM _ _ _
   ·exact Int.le_refl _
  rw [H5 (fun _ _=>rfl)] at this;exact this
 unfold EX
 simp only
 rw [I8 ⟨by omega,by omega⟩]
 omega
theorem nA {P:Nat→Bool} (h:0<S os P j): ∃k,k<8∧P k=true∧0<E os k j:=by
 refine Classical.byContradiction fun hn=> ?_
 have:S os P j=0:=H5 fun k hk=>by
  cases hp:P k with
  | false=>simp
  | true=>
    have:=OM os k j
    have: ¬0<E os k j:=fun hh=>hn ⟨k,hk,hp,hh⟩
    simp;omega
 omega
theorem fI (h:0<E os k j):(j:Int)∈BG os k:=by
 unfold E at h;exact List.count_pos_iff.1 (by omega)
theorem uC (h:HP os ns buf []) (hk:k<8) {f:Int} (hf:f∈(ob os k).field) (hj:AA os f=(j:Int)):(j:Int)∈BG os k:=by
 unfold BG
 exact List.mem_filter.2 ⟨List.mem_map.2 ⟨f,hf,hj⟩,by simp⟩
theorem kZ (h:HP os ns buf []) {W:Nat→Bool} (hW:W=K2 os (fun i=>(ob os i).count) buf) (hk:k<8) (hw:W k=false) (hj:j<8) (hm:(j:Int)∈BG os k):W j=false:=by
 cases hwj:W j with
 | false=>rfl
 | true=>
   exfalso
   have hjl:(ob os j).live=true:=by have:=(B4 hm).2.2.2.2;rwa [Int.toNat_natCast] at this
   rw [hW,IQ] at hwj
   obtain ⟨hr,hn⟩:=hwj
   by_cases hrk:RB os buf k
   ·have hex: ∃x,Out os (fun i=>(ob os i).count) buf x∧Reach os x k:=Classical.byContradiction fun hh=>by
     have:=IQ.2 (⟨hrk,hh⟩:RB os buf k∧ ¬ ∃x,Out os (fun i=>(ob os i).count) buf x∧Reach os x k)
     rw [←hW,hw] at this;cases this
    obtain ⟨x,hx,hxk⟩:=hex
    exact hn ⟨x,hx,by have:=Reach.step hxk hm;rwa [Int.toNat_natCast] at this⟩
   ·refine hn ⟨j,⟨hj,hr,(h.ext hj hjl).2 ?_⟩, .refl⟩
    have e:=qZ (os:=os) (P:=fun k=> !NL os buf k) (j:=j) hk (by simp [SS.2 hrk])
    have hE:0<E os k j:=by unfold E;have:=List.count_pos_iff.2 hm;omega
    have hcl:=h.P7 (EZ h.ol hj hjl ((h.obj j hj).lv hjl).1 (h.obj j hj).gen.2)
    omega
theorem iZ (h:HP os ns buf []) {W:Nat→Bool} (hW:W=K2 os (fun i=>(ob os i).count) buf) (hi:i<8) (hv:(ob os i).live=true) (hw:W i=false) (h0:(ob os i).holds+(ob os i).roots=0): ∃p,p<8∧(ob os p).live=true∧W p=false∧B6 i (ob os i).gen∈(ob os p).field:=by
 have hoi:=h.obj i hi
 have g1:=(hoi.lv hv).1
 have back: ∀p,p<8→(i:Int)∈BG os p→(ob os p).live=true∧B6 i (ob os i).gen∈(ob os p).field:=fun p hp hm=>by
  unfold BG at hm
  obtain ⟨h1,_⟩:=List.mem_filter.1 hm
  obtain ⟨f,hf,he⟩:=List.mem_map.1 h1
  have hid:=M8 he g1 hoi.gen.2
  rw [hid] at hf
  have hne:B6 i (ob os i).gen≠ -1:=by rw [F4 hi g1 hoi.gen.2];omega
  exact ⟨((h.obj p hp).lead _ hf hne).1,hf⟩
 have hcl:=h.P7 (EZ h.ol hi hv g1 hoi.gen.2)
 have hes:=h.iG hi hv
 have notRB: ∀p, ¬RB os buf p→W p=false:=fun p hp=>by
  cases hwp:W p with
  | false=>rfl
  | true=>rw [hW,IQ] at hwp;exact absurd hwp.1 hp
 by_cases hri:RB os buf i
 ·have hex: ∃x,Out os (fun i=>(ob os i).count) buf x∧Reach os x i:=Classical.byContradiction fun hh=>by
   have:=IQ.2 (⟨hri,hh⟩:RB os buf i∧ ¬ ∃x,Out os (fun i=>(ob os i).count) buf x∧Reach os x i)
   rw [←hW,hw] at this;cases this
  obtain ⟨y,hy,hyi⟩:=hex
  generalize hii:i=i' at hyi
  cases hyi with
  | refl=>
    subst hii
    have:=(h.ext hi hv).1 hy.2.2
    obtain ⟨p,hp,hpp,hE⟩:=nA (os:=os) (P:=fun k=> !NL os buf k) (j:=i) (by omega)
    have hpn: ¬RB os buf p:=by simp only [Bool.not_eq_true'] at hpp;exact SS.1 hpp
    obtain ⟨b1,b2⟩:=back p hp (fI hE)
    exact ⟨p,hp,b1,notRB p hpn,b2⟩
  | step hyp hj=>
    rename_i p jj
    have hjb:=B4 hj
    have hji:jj=(i:Int):=by omega
    rw [hji] at hj
    have hp8:p<8:=hyp.lt hy.1
    obtain ⟨b1,b2⟩:=back p hp8 hj
    refine ⟨p,hp8,b1, ?_,by rw [←hii];exact b2⟩
    cases hwp:W p with
    | false=>rfl
    | true=>rw [hW,IQ] at hwp;exact absurd ⟨y,hy,hyp⟩ hwp.2
 ·obtain ⟨p,hp,_,hE⟩:=nA (os:=os) (P:=fun _=>true) (j:=i) (by omega)
  obtain ⟨b1,b2⟩:=back p hp (fI hE)
  refine ⟨p,hp,b1,notRB p fun hr=>hri ?_,b2⟩
  have:=hr.next (fI hE)
  rwa [Int.toNat_natCast] at this
theorem HP.qU (h:HP os ns buf []):HP (HZ os buf).1 ns [] []:=by
 unfold HZ
 obtain ⟨W,hW⟩: ∃W,W=K2 os (fun i=>(ob os i).count) buf:=⟨_,rfl⟩
 rw [←hW]
 simp only
 have hol:=h.ol
 have wl: ∀k,W k=true→(ob os k).live=true:=fun k hk=>by rw [hW,IQ] at hk;exact RB.live hk.1
 have mo: ∀i,i<8→W i=false→DS os W i={ob os i with purple:=false}:=fun i hi hw=>by unfold DS;rw [if_neg (by rw [hw];decide)]
 have mw: ∀i,W i=true→DS os W i=B8 (ob os i).gen:=fun i hw=>by unfold DS;rw [if_pos hw]
 have fo: ∀i,i<8→ob (mk8 (GD os W)) i=GD os W i:=fun i hi=>H7 hi
 have fs:=fun i=>WD os W i
 have live: ∀i,i<8→(ob (mk8 (GD os W)) i).live=true→(ob os i).live=true∧W i=false:=fun i hi hv=>by
  rw [fo i hi,(fs i).1] at hv
  cases hw:W i with
  | true=>rw [mw i hw] at hv;cases hv
  | false=>rw [mo i hi hw] at hv;exact ⟨hv,rfl⟩
 have sl: ∀f, ∀j:Nat,AA os f=(j:Int)→W j=false→AA (mk8 (GD os W)) f=(j:Int):=fun f j hj hw=>by
  have hb:=BF (l:=os) (id:=f) (by omega)
  have e:(AA os f).toNat=j:=by omega
  rw [e] at hb
  have hmj:(f % 8).toNat=j:=by omega
  rw [HC hb.2.1 (C5 _) (by rw [C5];omega) (by rw [hmj,fo j hb.2.2.2.1,(fs j).1,mo j hb.2.2.2.1 hw];exact hb.2.2.2.2.1) (by rw [hmj,fo j hb.2.2.2.1,(fs j).2.1,mo j hb.2.2.2.1 hw];exact hb.2.2.2.2.2)]
  omega
 have edm: ∀x,CD (mk8 (GD os W)) x=CD (mk8 (DS os W)) x:=fun x=>OA (by rw [C5,C5]) fun i hi=>by
  rw [C5] at hi
  rw [H7 hi,H7 hi];exact ⟨(fs i).1,(fs i).2.2⟩
 have edl: ∀x,CD (mk8 (DS os W)) x≤24:=fun x=>by
  have:=OQ (l:=mk8 (DS os W)) (id:=x) (b:=3) fun o ho=>by
   obtain ⟨i,hi,rfl⟩:=gY ho
   cases hw:W i with
   | true=>rw [mw i hw];simp [B8,P2]
   | false=>rw [mo i hi hw];have:=(h.obj i hi).len;simp only;omega
  rw [C5] at this;exact this
 refine ⟨C5 _,fun i hi=> ?_,List.nodup_nil,by simp,by simp⟩
 have ho:=h.obj i hi
 cases hw:W i with
 | true=>
   have e:ob (mk8 (GD os W)) i=B8 (ob os i).gen:=by
    rw [fo i hi];unfold GD;rw [mw i hw,if_neg (by simp [B8])]
   refine ⟨by rw [e];exact ho.gen,by rw [e];rfl,by rw [e];simp [B8],fun f hf hne=> ?_,fun _=>by rw [e];exact ⟨rfl,rfl,rfl,rfl,rfl⟩,fun hv=>by rw [e] at hv;cases hv⟩
   rw [e] at hf;simp [B8,P2] at hf;exact absurd hf hne
 | false=>
   have lead: ∀f∈(ob os i).field,f≠ -1→(ob os i).live=true∧0≤AA (mk8 (GD os W)) f:=fun f hf hne=>by
    have hl:=ho.lead f hf hne
    obtain ⟨j,hj⟩: ∃j:Nat,AA os f=(j:Int):=⟨(AA os f).toNat,by omega⟩
    have hb:=BF (l:=os) (id:=f) (by omega)
    have hwj:=kZ h hW hi hw (by omega) (uC h hi hf hj)
    rw [sl f j hj hwj]
    exact ⟨hl.1,by omega⟩
   cases hv:(ob os i).live with
   | false=>
     have e:ob (mk8 (GD os W)) i={ob os i with purple:=false}:=by
      rw [fo i hi];unfold GD;rw [mo i hi hw,if_neg (by simp only;rw [hv];decide)]
     have hd:=ho.dead hv
     refine ⟨by rw [e];exact ho.gen,by rw [e];exact ho.len,by rw [e];exact ho.cb,fun f hf hne=> ?_,fun _=>by rw [e];exact ⟨hd.1,hd.2.1,hd.2.2.1,hd.2.2.2.1,rfl⟩,fun hh=> ?_⟩
     ·rw [e] at hf ⊢;exact lead f hf hne
     ·rw [e] at hh;simp only at hh;rw [hv] at hh;cases hh
   | true=>
     obtain ⟨g1,g2,g3,g4,g5,g6,g7⟩:=ho.lv hv
     have hin:inE (mk8 (DS os W)) i=CD (mk8 (DS os W)) (B6 i (ob os i).gen):=by
      have:=Q4 (os:=mk8 (DS os W)) (C5 _) hi (by rw [H7 hi,mo i hi hw];exact hv)
      rw [H7 hi,mo i hi hw] at this;exact this
     have hed:=edl (B6 i (ob os i).gen)
     have ew:w64 (w64 ((ob os i).holds+(ob os i).roots)+CD (mk8 (DS os W)) (B6 i (ob os i).gen))=(ob os i).holds+(ob os i).roots+CD (mk8 (DS os W)) (B6 i (ob os i).gen):=by
      rw [LO];exact I8 ⟨by omega,by omega⟩
     have e:ob (mk8 (GD os W)) i={ob os i with purple:=false,count:=(ob os i).holds+(ob os i).roots+CD (mk8 (DS os W)) (B6 i (ob os i).gen)}:=by
      rw [fo i hi];unfold GD;rw [mo i hi hw,if_pos (by exact hv),hin]
      simp only
      rw [ew]
     have hpos:1≤(ob os i).holds+(ob os i).roots+CD (mk8 (DS os W)) (B6 i (ob os i).gen):=by
      by_cases h0:(ob os i).holds+(ob os i).roots=0
      ·obtain ⟨p,hp,pl,pw,pm⟩:=iZ h hW hi hv hw h0
       have h1:KW (B6 i (ob os i).gen) (DS os W p)≤CD (mk8 (DS os W)) (B6 i (ob os i).gen):=by
        unfold CD
        exact kO (List.mem_map.2 ⟨DS os W p,by rw [←H7 (f:=DS os W) hp, ←DC (by rw [C5];exact hp)];exact List.getElem_mem _,rfl⟩)
       rw [mo p hp pw,ID (by exact pl)] at h1
       have:=List.count_pos_iff.2 pm
       simp only at h1
       omega
      ·omega
     refine ⟨by rw [e];exact ho.gen,by rw [e];exact ho.len,by rw [e];simp only;omega,fun f hf hne=> ?_,fun hd=> ?_,fun _=> ?_⟩
     ·rw [e] at hf ⊢;exact lead f hf hne
     ·rw [e] at hd;simp only at hd;rw [hv] at hd;cases hd
     ·rw [e,edm]
      exact ⟨g1,g2,g3,g4,by simp,hpos,by simp⟩
end
end Go.Proofs.Ytklmcfpgdfibnaa.P
namespace Go.Proofs.Ytklmcfpgdfibnaa.P
open Go Go.Proofs.Ytklmcfpgdfibnaa Go.Proofs.Ytklmcfpgdfibnaa.Eng
set_option linter.unusedVariables false
set_option maxHeartbeats 4000000
set_option linter.unusedVariables false
set_option linter.unusedSimpArgs false
attribute [local irreducible] prP gP gE gF AX ixW ldc ldg ldl stc stg scW mkW apW BE cl2 BK C2 CI
variable {w0:World}
abbrev uU (ws:List Wk):Prop:= ∀i,i<8→((wk ws i).used=false→(wk ws i).target=0)∧((wk ws i).used=true→8≤(wk ws i).target∧(wk ws i).target≤7999)
theorem nF {l:List Wk} {i k:Nat} {o:Wk} (hk:k<l.length):wk (l.set k o) i=if i=k then o else wk l i:=by
 unfold wk
 by_cases h:i=k
 ·subst h
  rw [if_pos rfl,List.getD_eq_getElem?_getD,List.getElem?_set_self hk];rfl
 ·rw [if_neg h,List.getD_eq_getElem?_getD,List.getElem?_set_ne (Ne.symm h),List.getD_eq_getElem?_getD]
theorem BW.step {h:Hp} {o:Op5} (hk:BW h):BW (EY h o).1:=by
 have hp:=hk.hp
 have hw:uU h.B2:=hk.weak
 have hwl:=hk.wl
 unfold EY
 split
 ·obtain ⟨a,b⟩:=lT (s:=o.site) hp hk.sites
  exact HP.ok a hk.wl b hw
 ·split
  ·exact HP.ok (hp.hold (kd:=o.kind) (id:=o.a)) hk.wl hk.sites hw
  ·split
   ·exact HP.ok (hp.store (a:=o.a) (b:=o.b) (c:=o.c)) hk.wl hk.sites hw
   ·split
    ·refine HP.ok hp (nV.1.trans hk.wl) hk.sites ?_
     unfold OK
     split
     ·exact hw
     ·rename_i hs
      split
      ·exact hw
      ·rename_i hf
       obtain ⟨f1,f2,f3⟩:=iP hf
       intro i hi
       rw [nF f1]
       split
       ·have hb:=BF (l:=h.AB) (id:=o.a) (by omega)
        have:=(hk.obj (AA h.AB o.a).toNat hb.2.2.2.1).gen
        exact ⟨fun hh=>(by cases hh),fun _=>⟨hb.2.1,by simp only;omega⟩⟩
       ·exact hw i hi
    ·split
     ·refine HP.ok hp (c8.1.trans hk.wl) hk.sites ?_
      unfold IV
      split
      ·exact hw
      ·rename_i hb
       split
       ·exact hw
       ·split
        ·intro i hi
         rw [nF (by omega)]
         split
         ·exact ⟨fun _=>rfl,fun hh=>(by cases hh)⟩
         ·exact hw i hi
        ·split
         ·exact hw
         ·exact hw
     ·split
      ·exact HP.ok hp.qU hk.wl hk.sites hw
      ·exact hk
theorem CB {x:Int} (h: -1000000≤x∧x≤1000000):F64 x:=⟨by omega,by omega⟩
theorem BW.VP {h:Hp} (hk:BW h) {x:Int} (hx:0≤AA h.AB x):8≤x∧x≤7999:=by
 have hb:=BF hx
 have:=(hk.obj (AA h.AB x).toNat hb.2.2.2.1).gen
 exact ⟨hb.2.1,by omega⟩
theorem BW.IH {h:Hp} (hk:BW h):TL h:=by
 have hp:=hk.hp
 refine ⟨fun o ho=> ?_,fun w hw=> ?_,fun b hb=>CB (by have:=hk.VP (hk.U8 hb);omega)⟩
 ·obtain ⟨i,hi,rfl⟩:=List.getElem_of_mem ho
  have hi8:i<8:=by have:=hk.ol;omega
  rw [DC hi]
  have hoi:=hp.obj i hi8
  have hg:=hoi.gen
  have hcb:=hoi.cb
  have hsl:=hk.sites.len
  have hr:=hk.hr i
  have hfd: ∀f∈(ob h.AB i).field,F64 f:=fun f hf=>by
   by_cases h1:f= -1
   ·subst h1;exact CB (by omega)
   ·exact CB (by have:=hk.VP (hoi.lead f hf h1).2;omega)
  cases hv:(ob h.AB i).live with
  | false=>
    have:=hoi.dead hv
    exact ⟨CB (by omega),CB (by omega),CB (by omega),CB (by omega),CB (by omega),hfd⟩
  | true=>
    have:=hoi.lv hv
    exact ⟨CB (by omega),CB (by omega),CB (by omega),CB (by omega),CB (by omega),hfd⟩
 ·obtain ⟨i,hi,rfl⟩:=List.getElem_of_mem hw
  rw [bK hi]
  have:=hk.weak i (by have:=hk.wl;omega)
  cases hu:(wk h.B2 i).used with
  | false=>have:=this.1 hu;exact CB (by omega)
  | true=>have:=this.2 hu;exact CB (by omega)
theorem BW.fits {h:Hp} (hk:BW h):Fits h:=(hk.st hk.IH).fits
def hp0:Hp:=⟨List.replicate 8 (B8 0),List.replicate 8 ⟨false,0⟩,[],[]⟩
theorem nI:BW hp0:=by
 have eo: ∀i,i<8→ob hp0.AB i=B8 0:=fun i hi=>by
  unfold hp0 ob;simp only;rw [List.getD_eq_getElem?_getD,List.getElem?_replicate,if_pos hi];rfl
 have ew: ∀i,i<8→wk hp0.B2 i=⟨false,0⟩:=fun i hi=>by
  unfold hp0 wk;simp only;rw [List.getD_eq_getElem?_getD,List.getElem?_replicate,if_pos hi];rfl
 refine ⟨by simp [hp0],by simp [hp0],⟨by simp [hp0],fun i hi=>by simp [hp0] at hi,fun i hi=>by simp [hp0] at hi⟩,fun i hi=> ?_,fun i hi=> ?_,fun i hi=>by simp [hp0] at hi⟩
 ·have e:=eo i hi
  refine ⟨by rw [e];simp [B8],by rw [e];rfl,fun j hj hne=> ?_,fun _=>by rw [e];exact ⟨rfl,rfl,rfl,rfl,rfl⟩,fun hv=>(by rw [e] at hv;cases hv)⟩
  rw [e] at hne
  exfalso;apply hne
  simp only [B8,P2]
  rcases j with _ | _ | _ | j
  ·rfl
  ·rfl
  ·rfl
  ·omega
 ·rw [ew i hi];exact ⟨fun _=>rfl,fun hh=>(by cases hh)⟩
noncomputable def I3 (l:List Op5):Nat→Hp×List An
 | 0=>(hp0,[])
 | i+1=>((EY (I3 l i).1 (po l i)).1,(I3 l i).2++[(EY (I3 l i).1 (po l i)).2])
theorem OC (l:List Op5): ∀i,BW (I3 l i).1∧(I3 l i).2.length=i
 | 0=>⟨nI,rfl⟩
 | i+1=>⟨(OC l i).1.step,by simp only [I3,List.length_append,List.length_singleton,(OC l i).2]⟩
end Go.Proofs.Ytklmcfpgdfibnaa.P
namespace Go.Proofs.Ytklmcfpgdfibnaa.P
open Go Go.Proofs.Ytklmcfpgdfibnaa Go.Proofs.Ytklmcfpgdfibnaa.Eng
set_option linter.unusedVariables false
set_option maxRecDepth 100000
theorem mI {α:Type} {f:α→List T} {e:Nat} [hr:Rw f e] {l:List α} {i:Nat} (hi:i<l.length) {c:Nat} {t:T} {y:α} {K:List T→Prop} (hc:c<e) (hy:f y=(f l[i]).set c t) (h:K (tR f (l.set i y))):stg (tR f l) [] (AD (iv i)*e+c) [t] K:=by
 rw [AW]
 have hlt:i*e+c<(tR f l).length:=by
  rw [VV]
  have:(i+1)*e≤l.length*e:=Nat.mul_le_mul_right _ hi
  rw [Nat.add_mul] at this;omega
 refine ⟨⟨_,rfl, ?_⟩, ?_⟩
 ·simp only [List.length_singleton];omega
 ·have:IZ (tR f l) [] (i*e+c) [t]=tR f (l.set i y):=by
   simp only [IZ,node,GF]
   rw [UE hlt,dL hi hc hy]
  rw [this];exact h
end Go.Proofs.Ytklmcfpgdfibnaa.P
namespace Go.Proofs.Ytklmcfpgdfibnaa.P
open Go Go.Proofs.Ytklmcfpgdfibnaa Go.Proofs.Ytklmcfpgdfibnaa.Eng
set_option linter.unusedVariables false
set_option maxHeartbeats 4000000
set_option linter.unusedVariables false
set_option linter.unusedSimpArgs false
attribute [local irreducible] prP gP gE gF AX ixW ldc ldg ldl stc stg scW mkW apW BE cl2 BK C2 CI
variable {w0:World}
theorem wS (o:Op5):tv (nxT (tP o) 0)=I o.kind:=rfl
theorem vH (o:Op5):tv (nxT (tP o) 1)=I o.a:=rfl
theorem vL (o:Op5):tv (nxT (tP o) 2)=I o.b:=rfl
theorem vD (o:Op5):tv (nxT (tP o) 3)=I o.c:=rfl
theorem u5 (o:Op5):tv (nxT (tP o) 4)= .string o.site:=rfl
theorem N7 {K:J2} (h:K [] (trees hp0)):cl2 ⟨Try.prog,w0⟩ 74 DQ.sg [] [] K:=by
 refine DQ.cl2 ?_
 unfold DQ.txt
 refine lN (n:=8) (by omega) (lN (n:=8) (by omega) ?_)
 have e0:PO (AD (iv 8)) [T.c (.bool false),T.c (.int .i64 0)]=tR tW (List.replicate 8 ⟨false,0⟩):=by
  rw [AW];exact fS (f:=tW) 8 ⟨false,0⟩
 have e1:PO (AD (iv 8)) [T.c (.bool false),T.c (.int .i64 0),T.c (.int .i64 0),T.c (.int .i64 0),T.c (.int .i64 0),T.c (.int .i64 0),T.l 1 [],T.c (.bool false)]=tR tO (List.replicate 8 ⟨false,0,0,0,0,0,[],false⟩):=by
  rw [AW];exact fS (f:=tO) 8 ⟨false,0,0,0,0,0,[],false⟩
 rw [e0,e1]
 have s0:List.replicate 8 (⟨false,0,0,0,0,0,[],false⟩:AE)=mk8 fun i=>if i<0 then B8 0 else ⟨false,0,0,0,0,0,[],false⟩:=rfl
 rw [s0]
 refine BJ (fun i=>[iv i]) (fun i=>[tR tO (mk8 fun k=>if k<i then B8 0 else ⟨false,0,0,0,0,0,[],false⟩),tR tW (List.replicate 8 ⟨false,0⟩)]) 8 (fun _=>True) rfl rfl trivial (fun R i hi hP hR=> ?_)
 simp only [AI,AU,AL,AR,AQ,AG,AJ,AK,AO,AP,AN,AT,AS,AM,BH,BP,BS,BM,BQ,BN,BL,A6,A5,A4,A7,A8,A9]
 simp only [C5]
 refine BA (AZ (fun hlt=> ?_) fun hge=> ?_)
 ·have hlt:i<8:=by omega
  replace hR:=hR hlt trivial
  refine HV (AH hlt ?_)
  have hml:i<(mk8 fun k=>if k<i then B8 0 else ⟨false,0,0,0,0,0,[],false⟩).length:=by rw [C5];exact hlt
  have hoi:(mk8 fun k=>if k<i then B8 0 else ⟨false,0,0,0,0,0,[],false⟩)[i]=⟨false,0,0,0,0,0,[],false⟩:=by rw [DC hml,H7 hlt,if_neg (by omega)]
  refine mI (f:=tO) (c:=6) (y:=B8 0) hml (by decide) (by rw [hoi];rfl) ?_
  rw [YT hlt,MW (g:=fun k=>if k<i+1 then B8 0 else ⟨false,0,0,0,0,0,[],false⟩) fun k hk=>by
   by_cases h1:k=i
   ·rw [if_pos h1,if_pos (by omega)]
   ·rw [if_neg h1]
    by_cases h2:k<i
    ·rw [if_pos h2,if_pos (by omega)]
    ·rw [if_neg h2,if_neg (by omega)]]
  exact BB (by omega) hR
 ·have:i=8:=by omega
  subst this
  exact h
theorem bB {l:List Op5} {K:J2} (hl:(l.length:Int)≤2^40) (ho: ∀o∈l,OpF o) (h:K [] (trees (I3 l (min l.length 400)).1++[tR tA (I3 l (min l.length 400)).2])):cl2 ⟨Try.prog,w0⟩ 44 HH.sg [] [tR tP l] K:=by
 refine HH.cl2 ?_
 unfold HH.txt
 refine N7 ?_
 simp only [AI,AU,AL,AR,AQ,AG,AJ,AK,AO,AP,AN,AT,AS,AM,BH,BP,BS,BM,BQ,BN,BL,A6,A5,A4,A7,A8,A9]
 refine BJ (fun i=>[iv i]) (fun i=>[tR tA (I3 l i).2,tR tO (I3 l i).1.AB,tR tW (I3 l i).1.B2,tI (I3 l i).1.buffer,tS (I3 l i).1.sites]) (min l.length 400) (fun _=>True) rfl rfl trivial (fun R i hi hP hR=> ?_)
 obtain ⟨ok,pl⟩:=OC l i
 simp only [AI,AU,AL,AR,AQ,AG,AJ,AK,AO,AP,AN,AT,AS,AM,BH,BP,BS,BM,BQ,BN,BL,A6,A5,A4,A7,A8,A9]
 refine BA (BO (LP (fun hlt=> ?_) fun hge=> ?_))
 rotate_left
 ·refine EC hge rfl (CE ?_)
  have:i=min l.length 400:=by omega
  subst this
  exact h
 refine BA (D9 hlt rfl (AZ (fun h4=> ?_) fun h4=> ?_))
 ·have hll:i<l.length:=by omega
  replace hR:=hR (by omega) trivial
  have hof:OpF (po l i):=by rw [←rR hll];exact ho _ (List.getElem_mem hll)
  simp only [I3] at hR
  refine AH hll (uF hll ?_)
  simp only [wS,vH,vL,vD,u5]
  refine RI ok.fits ok.IH hof.a hof.c ?_
  rw [V6 ok]
  refine rF (by rw [pl];omega) (BB (by omega) ?_)
  rw [←pF] at hR
  exact hR
 ·have:i=min l.length 400:=by omega
  subst this
  exact h
end Go.Proofs.Ytklmcfpgdfibnaa.P
namespace Go.Proofs.Ytklmcfpgdfibnaa.P
open Go Go.Proofs.Ytklmcfpgdfibnaa Go.Proofs.Ytklmcfpgdfibnaa.Eng
set_option linter.unusedVariables false
structure MQ (os0 os:List AE) (freed:List Int):Prop where
 l0:os0.length=8
 len:os.length=8
 gn: ∀i,i<8→(ob os i).gen=(ob os0 i).gen
 sm: ∀i,i<8→(ob os i).live=true→(ob os0 i).live=true∧(ob os i).site=(ob os0 i).site∧(ob os i).holds=(ob os0 i).holds∧(ob os i).roots=(ob os0 i).roots∧(ob os i).field=(ob os0 i).field
 dd: ∀i,i<8→(ob os i).live=false→(ob os0 i).live=true→ob os i=B8 (ob os0 i).gen
 d0: ∀i,i<8→(ob os0 i).live=false→ob os i=ob os0 i
 fr: ∀x,x∈freed↔0≤AA os0 x∧AA os x<0
 nd:freed.Nodup
 ct:lvs os+freed.length=lvs os0
theorem MQ.refl {os:List AE} (h:os.length=8):MQ os os []:=⟨h,h,fun _ _=>rfl,fun i _ hv=>⟨hv,rfl,rfl,rfl,rfl⟩,fun i _ h1 h2=>(by rw [h1] at h2;cases h2),fun _ _ _=>rfl,fun x=>⟨fun hx=>(by simp at hx),fun ⟨a,b⟩=>by omega⟩,List.nodup_nil,by simp⟩
theorem MQ.dec {os0 os:List AE} {freed:List Int} {k:Nat} {v:AE} (h:MQ os0 os freed) (hk:k<8) (kv:(ob os k).live=true) (v1:v.live=true) (v2:v.gen=(ob os k).gen) (v3:v.site=(ob os k).site) (v4:v.holds=(ob os k).holds) (v5:v.roots=(ob os k).roots) (v6:v.field=(ob os k).field):MQ os0 (os.set k v) freed:=by
 have hl:=h.len
 have eo: ∀i,ob (os.set k v) i=if i=k then v else ob os i:=fun i=>DY (by omega)
 have sl: ∀x,AA (os.set k v) x=AA os x:=fun x=>EE (by simp) fun i _=>by
  rw [eo];split
  ·rename_i he;subst he;exact ⟨by rw [v1,kv],v2⟩
  ·exact ⟨rfl,rfl⟩
 refine ⟨h.l0,by simp [hl],fun i hi=> ?_,fun i hi hv=> ?_,fun i hi hv=> ?_,fun i hi hv=> ?_,fun x=>by rw [sl];exact h.fr x,h.nd, ?_⟩
 ·rw [eo];split
  ·rename_i he;subst he;rw [v2];exact h.gn i hi
  ·exact h.gn i hi
 ·rw [eo] at hv ⊢
  by_cases he:i=k
  ·subst he
   rw [if_pos rfl,v3,v4,v5,v6]
   exact h.sm i hi kv
  ·rw [if_neg he] at hv ⊢;exact h.sm i hi hv
 ·rw [eo] at hv ⊢
  by_cases he:i=k
  ·rw [if_pos he,v1] at hv;cases hv
  ·rw [if_neg he] at hv ⊢;exact h.dd i hi hv
 ·rw [eo]
  by_cases he:i=k
  ·subst he
   have:=(h.sm i hi kv).1
   rw [hv] at this;cases this
  ·rw [if_neg he];exact h.d0 i hi hv
 ·have:=R0 (os:=os) (k:=k) (by omega) kv v
  rw [v1,if_pos rfl] at this
  have:=h.ct;omega
theorem MQ.free {os0 os:List AE} {freed:List Int} {k:Nat} {id:Int} (h:MQ os0 os freed) (hk:AA os id=(k:Int)):MQ os0 (os.set k (B8 (ob os k).gen)) (freed++[id]):=by
 have hl:=h.len
 have hb:=BF (l:=os) (id:=id) (by omega)
 have ek:(AA os id).toNat=k:=by omega
 rw [ek] at hb
 obtain ⟨_,b1,b2,k8,kv,kg⟩:=hb
 have eo: ∀i,ob (os.set k (B8 (ob os k).gen)) i=if i=k then B8 (ob os k).gen else ob os i:=fun i=>DY (by omega)
 have s0:AA os0 id=(k:Int):=by
  have e:(id % 8).toNat=k:=by omega
  rw [HC (by omega) h.l0 (by have:=h.l0;omega) (by rw [e];exact (h.sm k k8 kv).1) (by rw [e, ←h.gn k k8];exact kg)]
  omega
 have sx: ∀x,AA (os.set k (B8 (ob os k).gen)) x=if x=id then -1 else AA os x:=fun x=>by
  by_cases hx:x=id
  ·subst hx
   rw [if_pos rfl]
   have e:(x % 8).toNat=k:=by omega
   exact HE (by simp only [List.length_set];omega) (.inl (by rw [e,eo,if_pos rfl];rfl))
  ·rw [if_neg hx]
   by_cases h8:x<8∨os.length≠8
   ·rw [EH h8,EH (by simpa using h8)]
   ·have hln:(x % 8).toNat<os.length:=by omega
    by_cases he:(x % 8).toNat=k
    ·have hg:(ob os (x % 8).toNat).gen≠x/8:=fun hg=>hx (by rw [he,kg] at hg;omega)
     rw [HE hln (.inr hg),HE (by simpa using hln) (.inl (by rw [he,eo,if_pos rfl];rfl))]
    ·unfold AA
     rw [if_neg h8,if_neg (by simpa using h8),eo,if_neg he]
 refine ⟨h.l0,by simp [hl],fun i hi=> ?_,fun i hi hv=> ?_,fun i hi hv h0=> ?_,fun i hi hv=> ?_,fun x=> ?_, ?_, ?_⟩
 ·rw [eo];split
  ·rename_i he;subst he;exact h.gn i hi
  ·exact h.gn i hi
 ·rw [eo] at hv ⊢
  by_cases he:i=k
  ·rw [if_pos he] at hv;cases hv
  ·rw [if_neg he] at hv ⊢;exact h.sm i hi hv
 ·rw [eo] at hv ⊢
  by_cases he:i=k
  ·subst he;rw [if_pos rfl,h.gn i hi]
  ·rw [if_neg he] at hv ⊢;exact h.dd i hi hv h0
 ·rw [eo]
  by_cases he:i=k
  ·subst he
   have:=(h.sm i hi kv).1
   rw [hv] at this;cases this
  ·rw [if_neg he];exact h.d0 i hi hv
 ·rw [List.mem_append,List.mem_singleton,h.fr,sx]
  by_cases hx:x=id
  ·subst hx
   rw [if_pos rfl]
   exact ⟨fun _=>⟨by omega,by omega⟩,fun _=> .inr rfl⟩
  ·rw [if_neg hx]
   exact ⟨fun hh=>hh.resolve_right hx, .inl⟩
 ·refine List.nodup_append.2 ⟨h.nd,by simp,fun a ha b hb'=> ?_⟩
  rw [List.mem_singleton.1 hb']
  rintro rfl
  have:=((h.fr a).1 ha).2
  omega
 ·have:=R0 (os:=os) (k:=k) (by omega) kv (B8 (ob os k).gen)
  rw [if_neg (by simp [B8])] at this
  have:=h.ct
  rw [List.length_append,List.length_singleton];omega
theorem p7 {ns:Nat} {os0:List AE}: ∀(f:Nat) {os:List AE} {buf todo freed:List Int},HP os ns buf todo→freed.length+lvs os≤8→todo.length+4*lvs os<f→MQ os0 os freed→MQ os0 (HW f os buf freed todo).1 (HW f os buf freed todo).2.2:=by
 intro f
 induction f with
 | zero=>intro os buf todo freed _ _ h;omega
 | succ f ih=>
   intro os buf todo freed h h8 hf hR
   cases todo with
   | nil=>exact hR
   | cons id pd=>
     have hs:=h.pd id (by simp)
     obtain ⟨k,hk⟩: ∃k:Nat,AA os id=(k:Int):=⟨(AA os id).toNat,by omega⟩
     obtain ⟨k8,kv,kid,kg1,kg2,kid8,kc,kc1,kF⟩:=h.at hk
     have hkl:k<os.length:=by have:=h.ol;omega
     simp only [HW,hk,Int.toNat_natCast]
     rw [if_neg (by omega),if_neg (by omega)]
     have ew:w64 ((ob os k).count-1)=(ob os k).count-1:=I8 ⟨by omega,by have:=kF.2;omega⟩
     rw [ew]
     have lset:=R0 hkl kv
     have lvd: ∀v:AE,v.live=true→lvs (os.set k v)=lvs os:=fun v hv=>by
      have:=lset v
      rw [if_pos hv] at this;omega
     simp only [List.length_cons] at hf
     by_cases hc:(ob os k).count-1>0
     ·rw [if_pos hc]
      have hpk:=((h.obj k k8).lv kv).2.2.2.2.2.2
      rw [←kid] at hpk
      by_cases hp:(ob os k).purple=true
      ·rw [if_pos hp]
       exact ih (h.dec hk rfl rfl rfl rfl rfl rfl rfl (by simp only;omega) (fun x _=>Iff.rfl) hpk h.bnd) (by rw [lvd] <;> first | omega | exact kv) (by rw [lvd] <;> first | omega | exact kv) (hR.dec k8 kv kv rfl rfl rfl rfl rfl)
      ·rw [if_neg hp]
       have hni:id∉buf:=fun hm=>hp (hpk.2 hm)
       exact ih (h.dec hk rfl rfl rfl rfl rfl rfl rfl (by simp only;omega) (fun x hx=>by simp [hx]) (by simp) (List.nodup_append.2 ⟨h.bnd,by simp,fun a ha b hb=>by
        have hb:b=id:=by simpa using hb
        subst hb;intro he;exact hni (he ▸ ha)⟩)) (by rw [lvd] <;> first | omega | exact kv) (by rw [lvd] <;> first | omega | exact kv) (hR.dec k8 kv kv rfl rfl rfl rfl rfl)
     ·rw [if_neg hc]
      have hl:=lset (B8 (ob os k).gen)
      rw [if_neg (by simp [B8])] at hl
      have hfl:=List.length_filter_le (fun x=>decide (0≤x)) (ob os k).field
      rw [(h.obj k k8).len] at hfl
      exact ih (h.free hk (by omega)) (by rw [List.length_append,List.length_singleton];omega) (by rw [List.length_append];omega) (hR.free hk)
theorem hS {ns:Nat} {os:List AE} {buf:List Int} {x:Int} (h:HP os ns buf [x]):MQ os (FH os buf [x]).1 (FH os buf [x]).2.2:=by
 have hol:=h.ol
 have:=Y6 hol
 exact p7 _ h (by simp only [List.length_nil];omega) (by simp only [List.length_singleton];omega) (MQ.refl hol)
end Go.Proofs.Ytklmcfpgdfibnaa.P
namespace Go.Proofs.Ytklmcfpgdfibnaa.P
open Go Go.Proofs.Ytklmcfpgdfibnaa Go.Proofs.Ytklmcfpgdfibnaa.Eng
set_option linter.unusedVariables false
theorem ZA (s g:Int): -1≤B6 s g∧B6 s g≤7999:=by unfold B6;split <;> omega
structure Z4 (h:Hp) (r:Hp×An):Prop where
 code:0≤r.2.code∧r.2.code≤6
 val: -1≤r.2.val∧r.2.val≤7999
 ref:r.2.code≠0→r.1=h∧r.2.freed=[]
 fr: ∀x∈r.2.freed,0≤AA h.AB x∧AA r.1.AB x<0
 nd:r.2.freed.Nodup
 len:r.2.freed.length≤8
theorem Z4.plain {h h':Hp} {c v:Int} (hc:0≤c∧c≤6) (hv: -1≤v∧v≤7999) (hr:c≠0→h'=h):Z4 h (h',⟨c,v,[]⟩):=⟨hc,hv,fun hh=>⟨hr hh,rfl⟩,by simp,List.nodup_nil,by simp⟩
theorem N5.slot {a b:List AE} (h:N5 a b) (x:Int):AA b x=AA a x:=EE h.1 fun i _=>⟨(h.2 i).1,(h.2 i).2.1⟩
theorem Mid.step {h:Hp} {r:List AE×List Int×An} (m:Mid h.AB h.sites.length h.buffer r):Z4 h (⟨r.1,h.B2,r.2.1,h.sites⟩,r.2.2):=by
 rcases m with ⟨c,hc,rfl⟩ | ⟨os1,h1,_,_,rfl⟩ | ⟨os1,x,h1,hs,_,rfl⟩
 ·exact Z4.plain ⟨by omega,by omega⟩ (by omega) fun _=>rfl
 ·exact Z4.plain (by decide) (by omega) fun hh=>absurd rfl hh
 ·have R:=hS h1
  have h8:=Y6 h1.ol
  have hct:=R.ct
  refine ⟨⟨by simp [OU],by simp [OU]⟩,⟨by simp [OU],by simp [OU]⟩,fun hh=>absurd rfl hh,fun x hx=> ?_,R.nd,by simp only [OU];omega⟩
  obtain ⟨a,b⟩:=(R.fr x).1 hx
  rw [hs.slot] at a
  exact ⟨a,b⟩
end Go.Proofs.Ytklmcfpgdfibnaa.P
