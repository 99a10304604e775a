/- A part of the proof. -/
import Derived.Test.YtklmcfpgdfibnaaRiGdA
import Derived.Test.YtklmcfpgdfibnaaChecked
import Derived.Test.YtklmcfpgdfibnaaRiEngM2
import Derived.KernelRfl
namespace Go.Proofs.Ytklmcfpgdfibnaa.P
open Go Go.Proofs.Ytklmcfpgdfibnaa Go.Proofs.Ytklmcfpgdfibnaa.Eng
set_option linter.unusedVariables false
section
variable {os:List AE} {ns:Nat} {buf pd pd':List Int} {k:Nat} {id:Int}
theorem HP.me (h:HP os ns buf pd) (hk:AA os id=(k:Int)):k<8∧(ob os k).live=true∧id=B6 k (ob os k).gen:=by
 have hb:=BH (l:=os) (id:=id) (by omega)
 have e:(AA os id).toNat=k:=by omega
 rw [e] at hb
 have ho:=h.obj k hb.2.2.2.1
 exact ⟨hb.2.2.2.1,hb.2.2.2.2.1,MF hk (ho.lv hb.2.2.2.2.1).1 ho.gen.2⟩
theorem HP.upd (h:HP os ns buf pd) (hk:AA os id=(k:Int)) {v:AE} (v1:v.live=(ob os k).live) (v2:v.gen=(ob os k).gen) (v3:v.site=(ob os k).site) (v4:0≤v.holds∧v.holds≤20) (v5:0≤v.roots∧v.roots≤20) (v6:v.field=(ob os k).field) (v7:v.purple=(ob os k).purple) (vc:v.count=v.holds+v.roots+CD os id+pd'.count id) (vb:1≤v.count∧v.count≤1000) (hp: ∀x,x≠id→pd'.count x=pd.count x) (hl: ∀x∈pd',0≤AA os x):HP (os.set k v) ns buf pd':=by
 obtain ⟨k8,kv,kid⟩:=h.me hk
 have hok:=h.obj k k8
 have kg1:=(hok.lv kv).1
 have kg2:=hok.gen.2
 have hol:=h.ol
 have hkl:k<os.length:=by omega
 have sl: ∀x,AA (os.set k v) x=AA os x:=fun x=>D5 (by simp) fun i hi=>by
  rw [DP hkl];split
  ·rename_i he;subst he;exact ⟨v1,v2⟩
  ·exact ⟨rfl,rfl⟩
 have ed: ∀x,CD (os.set k v) x=CD os x:=fun x=>NP (by simp) fun i hi=>by
  rw [DP hkl];split
  ·rename_i he;subst he;exact ⟨v1,v6⟩
  ·exact ⟨rfl,rfl⟩
 refine ⟨by simpa using hol,fun i hi=> ?_,h.bnd,fun x hx=>by rw [sl];exact h.blv x hx,fun x hx=>by rw [sl];exact hl x hx⟩
 have ho:=h.obj i hi
 by_cases hik:i=k
 ·subst hik
  have e:ob (os.set i v) i=v:=by rw [DP hkl,if_pos rfl]
  obtain ⟨g1,g2,g3,g4,g5,g6,g7⟩:=ho.lv kv
  refine ⟨by rw [e,v2];exact ho.gen,by rw [e,v6];exact ho.len,by rw [e];exact vb.2,fun f hf hne=> ?_,fun hd=> ?_,fun _=> ?_⟩
  ·rw [e,v6] at hf;rw [e,v1,sl];exact ho.lead f hf hne
  ·rw [e,v1,kv] at hd;cases hd
  ·rw [e,v2,v3,ed,v7, ←kid]
   rw [←kid] at g7
   exact ⟨g1,g2,v4,v5,vc,vb.1,g7⟩
 ·have e:ob (os.set k v) i=ob os i:=by rw [DP hkl,if_neg hik]
  refine ⟨by rw [e];exact ho.gen,by rw [e];exact ho.len,by rw [e];exact ho.cb,fun f hf hne=> ?_,fun hd=> ?_,fun hv=> ?_⟩
  ·rw [e] at hf;rw [e,sl];exact ho.lead f hf hne
  ·rw [e] at hd ⊢;exact ho.dead hd
  ·rw [e] at hv ⊢
   obtain ⟨g1,g2,g3,g4,g5,g6,g7⟩:=ho.lv hv
   have hne:B6 i (ob os i).gen≠id:=by rw [kid];exact XX hi k8 g1 ho.gen.2 kg1 kg2 hik
   exact ⟨g1,g2,g3,g4,by rw [ed,hp _ hne];exact g5,g6,g7⟩
theorem HP.QG (h:HP os ns buf []) (hk:AA os id=(k:Int)):(ob os k).count=(ob os k).holds+(ob os k).roots+CD os id∧1≤(ob os k).count∧(ob os k).count≤64∧(0≤(ob os k).holds∧(ob os k).holds≤20)∧(0≤(ob os k).roots∧(ob os k).roots≤20):=by
 obtain ⟨k8,kv,kid⟩:=h.me hk
 obtain ⟨_,_,g3,g4,g5,g6,_⟩:=(h.obj k k8).lv kv
 rw [←kid] at g5
 have hed:=OL (l:=os) (id:=id) (b:=3) fun o ho'=>by
  obtain ⟨i,hi,rfl⟩:=List.getElem_of_mem ho'
  rw [DQ hi,(h.obj i (by have:=h.ol;omega)).len];omega
 have hol:=h.ol
 simp only [List.count_nil] at g5
 exact ⟨by omega,g6,by omega,g3,g4⟩
theorem cJ {os:List AE} {id:Int} {k:Nat} {v:AE} (hk:AA os id=(k:Int)) (hkl:k<os.length) (v1:v.live=(ob os k).live) (v2:v.gen=(ob os k).gen):EO (os.set k v) id=os.set k {v with count:=w64 (v.count+1)}:=by
 have sl:AA (os.set k v) id=k:=by
  rw [←hk]
  exact D5 (by simp) fun i hi=>by
   rw [DP hkl];split
   ·rename_i he;subst he;exact ⟨v1,v2⟩
   ·exact ⟨rfl,rfl⟩
 have e:ob (os.set k v) k=v:=by rw [DP hkl,if_pos rfl]
 unfold EO
 rw [sl,if_neg (by omega),Int.toNat_natCast,e,List.set_set]
def LZ (a b:List AE):Prop:=b.length=a.length∧ ∀i,(ob b i).live=(ob a i).live∧(ob b i).gen=(ob a i).gen∧(ob b i).site=(ob a i).site
theorem LZ.set {os:List AE} {k:Nat} {v:AE} (hk:k<os.length) (h1:v.live=(ob os k).live) (h2:v.gen=(ob os k).gen) (h3:v.site=(ob os k).site):LZ os (os.set k v):=by
 refine ⟨by simp,fun i=> ?_⟩
 rw [DP hk];split
 ·rename_i he;subst he;exact ⟨h1,h2,h3⟩
 ·exact ⟨rfl,rfl,rfl⟩
def Mid (os:List AE) (ns:Nat) (buf:List Int) (r:List AE×List Int×An):Prop:=
 (∃c:Int,(1≤c∧c≤6)∧r=(os,buf,⟨c,0,[]⟩))∨(∃os1,HP os1 ns buf []∧LZ os os1∧(Gd os buf→Gd os1 buf)∧r=(os1,buf,⟨0,0,[]⟩))∨
 ∃os1 x,HP os1 ns buf [x]∧LZ os os1∧(Gd os buf→Gd os1 (buf++[x]))∧r=NH (GA os1 buf [x])
def jL (G:List AE→Prop) (os:List AE) (ns:Nat) (buf:List Int) (r:List AE×List Int×An):Prop:=
 (∃c:Int,(1≤c∧c≤6)∧r=(os,buf,⟨c,0,[]⟩))∨(∃os1,HP os1 ns buf []∧LZ os os1∧(Gd os buf→Gd os1 buf)∧G os1∧r=(os1,buf,⟨0,0,[]⟩))∨
 ∃os1 x,HP os1 ns buf [x]∧LZ os os1∧(Gd os buf→Gd os1 (buf++[x]))∧G os1∧r=NH (GA os1 buf [x])
theorem jL.mid {G:List AE→Prop} {r:List AE×List Int×An} (m:jL G os ns buf r):Mid os ns buf r:=by
 rcases m with ⟨c,h,rfl⟩ | ⟨os1,h1,h2,h3,_,rfl⟩ | ⟨os1,x,h1,h2,h3,_,rfl⟩
 ·exact .inl ⟨c,h,rfl⟩
 ·exact .inr (.inl ⟨os1,h1,h2,h3,rfl⟩)
 ·exact .inr (.inr ⟨os1,x,h1,h2,h3,rfl⟩)
def hdM (kd v:Int):Int:=if kd=2 then v+1 else if kd=3 then v-1 else v
def rtM (kd v:Int):Int:=if kd=5 then v+1 else if kd=2∨kd=3 then v else v-1
def V5 (os os1:List AE) (kd id:Int):Prop:= ∀i:Nat,(ob os1 i).live=(ob os i).live∧(ob os1 i).gen=(ob os i).gen∧(ob os1 i).field=(ob os i).field∧(ob os1 i).holds=(if AA os id=(i:Int) then hdM kd (ob os i).holds else (ob os i).holds)∧(ob os1 i).roots=if AA os id=(i:Int) then rtM kd (ob os i).roots else (ob os i).roots
theorem V5.mk {k:Nat} {v:AE} {kd:Int} (hk:AA os id=(k:Int)) (hkl:k<os.length) (v1:v.live=(ob os k).live) (v2:v.gen=(ob os k).gen) (v3:v.field=(ob os k).field) (v4:v.holds=hdM kd (ob os k).holds) (v5:v.roots=rtM kd (ob os k).roots):V5 os (os.set k v) kd id:=fun i=>by
 rw [DP hkl]
 by_cases hi:i=k
 ·subst hi
  rw [if_pos rfl,if_pos hk,if_pos hk]
  exact ⟨v1,v2,v3,v4,v5⟩
 ·rw [if_neg hi,if_neg (by omega),if_neg (by omega)]
  exact ⟨rfl,rfl,rfl,rfl,rfl⟩
def dG (os os1:List AE) (a b c:Int):Prop:= ∀i:Nat,(ob os1 i).live=(ob os i).live∧(ob os1 i).gen=(ob os i).gen∧(ob os1 i).holds=(ob os i).holds∧(ob os1 i).roots=(ob os i).roots∧(ob os1 i).field=if AA os a=(i:Int) then (ob os i).field.set b.toNat c else (ob os i).field
theorem Mid.ok {r:List AE×List Int×An} (h:HP os ns buf []) (m:Mid os ns buf r):HP r.1 ns r.2.1 []:=by
 rcases m with ⟨c,_,rfl⟩ | ⟨os1,h1,_,_,rfl⟩ | ⟨os1,x,h1,_,_,rfl⟩
 ·exact h
 ·exact h1
 ·exact HP.GA h1
theorem Mid.gd {r:List AE×List Int×An} (g:Gd os buf) (m:Mid os ns buf r):Gd r.1 r.2.1:=by
 rcases m with ⟨c,_,rfl⟩ | ⟨os1,h1,_,h2,rfl⟩ | ⟨os1,x,h1,_,h2,rfl⟩
 ·exact g
 ·exact h2 g
 ·exact rI h1 (h2 g)
theorem HP.XG (h:HP os ns buf []) {kd:Int}:jL (fun os1=>V5 os os1 kd id) os ns buf (FT os buf kd id):=by
 unfold FT
 by_cases hs:AA os id<0
 ·rw [if_pos hs];exact .inl ⟨1,by decide,rfl⟩
 rw [if_neg hs]
 obtain ⟨k,hk⟩: ∃k:Nat,AA os id=(k:Int):=⟨(AA os id).toNat,by omega⟩
 rw [hk,Int.toNat_natCast]
 obtain ⟨c1,c2,c3,c4,c5⟩:=h.QG hk
 have hkl:k<os.length:=by have:=(h.me hk).1;have:=h.ol;omega
 have ew:w64 ((ob os k).count+1)=(ob os k).count+1:=G9 ⟨by omega,by omega⟩
 have hls:0≤AA os id:=by omega
 split
 ·split
  ·exact .inl ⟨4,by decide,rfl⟩
  ·simp only
   rw [cJ hk hkl]
   ·simp only [ew]
    refine .inr (.inl ⟨_, ?_, ?_, ?_, ?_,rfl⟩)
    ·exact h.upd hk rfl rfl rfl (by simp only;omega) (by simp only;omega) rfl rfl (by simp only [List.count_nil];omega) (by simp only;omega) (fun _ _=>rfl) (by simp)
    ·exact LZ.set hkl rfl rfl rfl
    ·exact fun g=>g.hold hkl rfl rfl rfl (.inl (by simp only;omega)) fun _ h=>h
    ·exact V5.mk hk hkl rfl rfl rfl (by simp [hdM, *]) (by simp [rtM, *])
   ·rfl
   ·rfl
 ·split
  ·split
   ·exact .inl ⟨4,by decide,rfl⟩
   ·simp only
    rw [cJ hk hkl]
    ·simp only [ew]
     refine .inr (.inl ⟨_, ?_, ?_, ?_, ?_,rfl⟩)
     ·exact h.upd hk rfl rfl rfl (by simp only;omega) (by simp only;omega) rfl rfl (by simp only [List.count_nil];omega) (by simp only;omega) (fun _ _=>rfl) (by simp)
     ·exact LZ.set hkl rfl rfl rfl
     ·exact fun g=>g.hold hkl rfl rfl rfl (.inl (by simp only;omega)) fun _ h=>h
     ·exact V5.mk hk hkl rfl rfl rfl (by simp [hdM, *]) (by simp [rtM, *])
    ·rfl
    ·rfl
  ·split
   ·split
    ·exact .inl ⟨5,by decide,rfl⟩
    ·refine .inr (.inr ⟨_,_, ?_, ?_, ?_, ?_,rfl⟩)
     ·exact h.upd (pd':=[id]) hk rfl rfl rfl (by simp only;omega) (by simp only;omega) rfl rfl (by simp only [List.count_singleton_self];omega) (by simp only;omega) (fun x hx=>by simp [Ne.symm hx]) (by simpa using hls)
     ·exact LZ.set hkl rfl rfl rfl
     ·exact fun g=>g.hold hkl rfl rfl rfl (.inr ⟨id,by simp,hk⟩) fun _ h=>List.mem_append_left _ h
     ·exact V5.mk hk hkl rfl rfl rfl (by simp [hdM, *]) (by simp [rtM, *])
   ·split
    ·exact .inl ⟨5,by decide,rfl⟩
    ·refine .inr (.inr ⟨_,_, ?_, ?_, ?_, ?_,rfl⟩)
     ·exact h.upd (pd':=[id]) hk rfl rfl rfl (by simp only;omega) (by simp only;omega) rfl rfl (by simp only [List.count_singleton_self];omega) (by simp only;omega) (fun x hx=>by simp [Ne.symm hx]) (by simpa using hls)
     ·exact LZ.set hkl rfl rfl rfl
     ·exact fun g=>g.hold hkl rfl rfl rfl (.inr ⟨id,by simp,hk⟩) fun _ h=>List.mem_append_left _ h
     ·exact V5.mk hk hkl rfl rfl rfl (by simp [hdM, *]) (by simp [rtM, *])
theorem HP.bP (h:HP os ns buf []) {kd:Int}:Mid os ns buf (FT os buf kd id):=h.XG.mid
theorem HP.hold (h:HP os ns buf []) {kd:Int}:HP (FT os buf kd id).1 ns (FT os buf kd id).2.1 []:=h.bP.ok h
theorem kO {os:List AE} {c:Int} {i:Nat} (hol:os.length=8):(ob (EO os c) i).count=if AA os c=(i:Int) then w64 ((ob os i).count+1) else (ob os i).count:=by
 unfold EO
 split
 ·rw [if_neg (by omega)]
 ·have hb:=BH (l:=os) (id:=c) (by omega)
  rw [DP (by omega)]
  by_cases hi:i=(AA os c).toNat
  ·rw [if_pos hi,if_pos (by omega), ←hi]
  ·rw [if_neg hi,if_neg (by omega)]
theorem HP.dW (h:HP os ns buf []) {a b c:Int}:jL (fun os1=>dG os os1 a b c) os ns buf (GP os buf a b c):=by
 unfold GP
 by_cases hs:AA os a<0∨(c≠ -1∧AA os c<0)
 ·rw [if_pos hs];exact .inl ⟨1,by decide,rfl⟩
 rw [if_neg hs]
 by_cases hb: ¬(0≤b∧b≤2)
 ·rw [if_pos hb];exact .inl ⟨2,by decide,rfl⟩
 rw [if_neg hb]
 obtain ⟨k,hk⟩: ∃k:Nat,AA os a=(k:Int):=⟨(AA os a).toNat,by omega⟩
 rw [hk,Int.toNat_natCast]
 obtain ⟨j,hj⟩: ∃j:Nat,b.toNat=j:=⟨_,rfl⟩
 rw [hj]
 obtain ⟨k8,kv,kid⟩:=h.me hk
 have hok:=h.obj k k8
 have hol:=h.ol
 have hkl:k<os.length:=by omega
 have gl:=SJ os c
 have hkg:k<(EO os c).length:=by omega
 have jl:j<(ob os k).field.length:=by rw [hok.len];omega
 have gob:=fun i=>VA (os:=os) (id:=c) (i:=i)
 obtain ⟨os2,hos2⟩: ∃os2,os2=(EO os c).set k {ob (EO os c) k with field:=(ob os k).field.set j c}:=⟨_,rfl⟩
 rw [←hos2]
 have eo: ∀i,ob os2 i=if i=k then {ob (EO os c) k with field:=(ob os k).field.set j c} else ob (EO os c) i:=fun i=>by rw [hos2];exact DP hkg
 have l2:os2.length=os.length:=by rw [hos2,List.length_set,gl]
 have same: ∀i,(ob os2 i).live=(ob os i).live∧(ob os2 i).gen=(ob os i).gen∧(ob os2 i).site=(ob os i).site∧(ob os2 i).holds=(ob os i).holds∧(ob os2 i).roots=(ob os i).roots∧(ob os2 i).purple=(ob os i).purple:=fun i=>by
  obtain ⟨q1,q2,q3,q4,q5,_,q7⟩:=gob i
  rw [eo];split
  ·rename_i he;subst he;exact ⟨q1,q2,q3,q4,q5,q7⟩
  ·exact ⟨q1,q2,q3,q4,q5,q7⟩
 have sml:LZ os os2:=⟨l2,fun i=>⟨(same i).1,(same i).2.1,(same i).2.2.1⟩⟩
 have sl: ∀x,AA os2 x=AA os x:=fun x=>D5 l2 fun i hi=>⟨(same i).1,(same i).2.1⟩
 have cn: ∀i,(ob os2 i).count=if AA os c=(i:Int) then w64 ((ob os i).count+1) else (ob os i).count:=fun i=>by
  rw [eo, ←kO hol];split
  ·rename_i he;subst he;rfl
  ·rfl
 have fdk:(ob os2 k).field=(ob os k).field.set j c:=by rw [eo,if_pos rfl]
 have fdo: ∀i,i≠k→(ob os2 i).field=(ob os i).field:=fun i hi=>by rw [eo,if_neg hi];exact (gob i).2.2.2.2.2.1
 obtain ⟨was,hwas⟩: ∃w,gI (ob os k).field j=w:=⟨_,rfl⟩
 rw [hwas]
 have hwm:was∈(ob os k).field:=by rw [←hwas];exact D6 jl
 have eg: ∀x,CD (EO os c) x=CD os x:=fun x=>NP gl fun i hi=>⟨(gob i).1,(gob i).2.2.2.2.2.1⟩
 have ed: ∀x,(CD os2 x:Int)+(if was=x then 1 else 0)=CD os x+(if c=x then 1 else 0):=fun x=>by
  have e:=RX (os:=EO os c) (v:={ob (EO os c) k with field:=(ob os k).field.set j c}) (id:=x) hkg
  rw [←hos2,eg,HN (by rw [(gob k).1];exact kv),HN (by simp only;rw [(gob k).1];exact kv),(gob k).2.2.2.2.2.1] at e
  simp only at e
  have ec:=List.count_set (a:=c) (b:=x) jl
  rw [DE jl,hwas] at ec
  have hcp:was=x→0<(ob os k).field.count x:=fun he=>List.count_pos_iff.2 (he ▸ hwm)
  simp only [beq_iff_eq] at ec
  by_cases h1:was=x
  ·have:=hcp h1
   by_cases h2:c=x
   ·rw [if_pos h1,if_pos h2] at ec ⊢;omega
   ·rw [if_pos h1,if_neg h2] at ec ⊢;omega
  ·by_cases h2:c=x
   ·rw [if_neg h1,if_pos h2] at ec ⊢;omega
   ·rw [if_neg h1,if_neg h2] at ec ⊢;omega
 have key: ∀pd':List Int,(∀x,8≤x→(pd'.count x:Int)=if was=x then 1 else 0)→(∀x∈pd',0≤AA os x)→HP os2 ns buf pd':=fun pd' hp hpl=>by
  refine ⟨by omega,fun i hi=> ?_,h.bnd,fun x hx=>by rw [sl];exact h.blv x hx,fun x hx=>by rw [sl];exact hpl x hx⟩
  have ho:=h.obj i hi
  obtain ⟨q1,q2,q3,q4,q5,q7⟩:=same i
  have hc8:AA os c=(i:Int)→(ob os i).live=true∧c=B6 i (ob os i).gen:=fun hh=>⟨(h.me hh).2.1,(h.me hh).2.2⟩
  have wc: ∀(hv:(ob os i).live=true),(ob os2 i).count=(ob os i).count+if c=B6 i (ob os i).gen then 1 else 0:=fun hv=>by
   have hsid:=D4 hol hi hv (ho.lv hv).1 ho.gen.2
   have:=ho.cb;have:=(ho.lv hv).2.2.2.2.2.1
   rw [cn]
   by_cases hh:AA os c=(i:Int)
   ·rw [if_pos hh,if_pos (hc8 hh).2,G9 ⟨by omega,by omega⟩]
   ·rw [if_neg hh,if_neg fun he=>hh (by rw [he];exact hsid)];omega
  refine ⟨by rw [q2];exact ho.gen, ?_, ?_,fun f hf hne=> ?_,fun hd=> ?_,fun hv=> ?_⟩
  ·by_cases hik:i=k
   ·rw [hik,fdk,List.length_set];exact hok.len
   ·rw [fdo i hik];exact ho.len
  ·cases hv:(ob os i).live with
   | true=>
     have hcl:=(h.QG (D4 hol hi hv (ho.lv hv).1 ho.gen.2)).2.2.1
     rw [wc hv];split <;> omega
   | false=>
     rw [cn,if_neg fun hh=>by have:=(hc8 hh).1;rw [hv] at this;cases this]
     exact ho.cb
  ·rw [q1,sl]
   by_cases hik:i=k
   ·subst hik
    rw [fdk] at hf
    rcases List.mem_or_eq_of_mem_set hf with hf | rfl
    ·exact ho.lead f hf hne
    ·exact ⟨kv,by omega⟩
   ·rw [fdo i hik] at hf;exact ho.lead f hf hne
  ·rw [q1] at hd
   rw [q3,q4,q5,q7,cn,if_neg fun hh=>by have:=(hc8 hh).1;rw [hd] at this;cases this]
   exact ho.dead hd
  ·rw [q1] at hv
   obtain ⟨g1,g2,g3,g4,g5,g6,g7⟩:=ho.lv hv
   have hid8:8≤B6 i (ob os i).gen:=by rw [GN hi g1 ho.gen.2];omega
   have e1:=ed (B6 i (ob os i).gen)
   have e2:=hp _ hid8
   have e3:=wc hv
   simp only [List.count_nil] at g5
   rw [q2,q3,q4,q5,q7,e3]
   refine ⟨g1,g2,g3,g4, ?_, ?_,g7⟩
   ·rw [e2]
    split <;> split at e1 <;> simp_all <;> omega
   ·split <;> omega
 have gd2: ∀L':List Int,(0≤AA os was→was∈L')→(∀x∈buf,x∈L')→Gd os buf→Gd os2 L':=fun L' hw hL g=>
  g.y0 (w:=was) (fun i=>⟨(same i).1.symm,(same i).2.2.2.1.symm,(same i).2.2.2.2.1.symm⟩) sl (fun y x hx=>by
    obtain ⟨h0,f,hf,hs⟩:=EI.1 hx
    by_cases hy:y=k
    ·subst hy
     by_cases hfw:f=was
     ·right;rw [sl, ←hfw,hs]
     ·left
      refine EI.2 ⟨h0,f, ?_,by rw [sl];exact hs⟩
      rw [fdk]
      obtain ⟨i,hi,rfl⟩:=List.getElem_of_mem hf
      have hij:j≠i:=fun he=>hfw (by subst he;rw [DE hi];exact hwas)
      exact List.mem_iff_getElem.2 ⟨i,by simpa using hi,List.getElem_set_ne hij _⟩
    ·left
     exact EI.2 ⟨h0,f,by rw [fdo y hy];exact hf,by rw [sl];exact hs⟩) (by rw [sl];exact hw) hL
 have stg:dG os os2 a b c:=fun i=>by
  refine ⟨(same i).1,(same i).2.1,(same i).2.2.2.1,(same i).2.2.2.2.1, ?_⟩
  rw [hk,hj]
  by_cases hi:i=k
  ·subst hi;rw [if_pos rfl];exact fdk
  ·rw [if_neg (by omega)];exact fdo i hi
 split
 ·rename_i hw
  exact .inr (.inl ⟨_,key [] (fun x hx=>by rw [if_neg (by omega)];rfl) (by simp),sml,gd2 buf (fun hh=>by rw [hw] at hh;exact absurd hh (by rw [HJ (.inl (by omega))];omega)) fun _ h=>h,stg,rfl⟩)
 ·rename_i hw
  exact .inr (.inr ⟨_,_,key [was] (fun x hx=>by rw [List.count_singleton];by_cases he:was=x <;> simp [he]) (by simpa using (hok.lead was hwm hw).2),sml,gd2 (buf++[was]) (fun _=>by simp) fun _ h=>List.mem_append_left _ h,stg,rfl⟩)
theorem HP.WO (h:HP os ns buf []) {a b c:Int}:Mid os ns buf (GP os buf a b c):=h.dW.mid
theorem HP.store (h:HP os ns buf []) {a b c:Int}:HP (GP os buf a b c).1 ns (GP os buf a b c).2.1 []:=h.WO.ok h
theorem lZ {l:List Nat} (h: ∀n∈l,n=0):l.sum=0:=by
 induction l with
 | nil=>rfl
 | cons x l ih=>rw [List.sum_cons,h x (by simp),ih fun n hn=>h n (by simp [hn])]
theorem HP.put (h:HP os ns buf []) (k8:k<8) (hd:(ob os k).live=false) (hg:(ob os k).gen<999) {t:Int} {ns':Nat} (hn:ns≤ns') (ht:0≤t∧t≤(ns':Int)-1):HP (os.set k (IE ((ob os k).gen+1) t)) ns' buf []:=by
 have hol:=h.ol
 have hkl:k<os.length:=by omega
 have hgk:=(h.obj k k8).gen
 have eo: ∀i,ob (os.set k (IE ((ob os k).gen+1) t)) i=if i=k then IE ((ob os k).gen+1) t else ob os i:=fun i=>DP hkl
 have sl: ∀x,0≤AA os x→AA (os.set k (IE ((ob os k).gen+1) t)) x=AA os x:=fun x hx=>by
  have hb:=BH hx
  have hne:(x % 8).toNat≠k:=fun he=>by
   have:=hb.2.2.2.2.1
   have e:(AA os x).toNat=k:=by omega
   rw [e,hd] at this;cases this
  simp only [AA,List.length_set]
  rw [eo,if_neg hne]
 have ed: ∀x,0≤x→CD (os.set k (IE ((ob os k).gen+1) t)) x=CD os x:=fun x hx=>by
  have e:=RX (os:=os) (v:=IE ((ob os k).gen+1) t) (id:=x) hkl
  rw [L9 hd,HN (o:=IE ((ob os k).gen+1) t) rfl] at e
  have:(IE ((ob os k).gen+1) t).field.count x=0:=List.count_eq_zero.2 fun hm=>by simp [IE,G4] at hm;omega
  omega
 have nosl: ∀x,0≤AA os x→x≠B6 k ((ob os k).gen+1):=fun x hx he=>by
  have hb:=BH hx
  rw [GN k8 (by omega) (by omega)] at he
  have e:(AA os x).toNat=k:=by omega
  have:=hb.2.2.2.2.1
  rw [e,hd] at this;cases this
 refine ⟨by simpa using hol,fun i hi=> ?_,h.bnd,fun x hx=>by rw [sl x (h.blv x hx)];exact h.blv x hx,by simp⟩
 have ho:=h.obj i hi
 by_cases hik:i=k
 ·subst hik
  have e:ob (os.set i (IE ((ob os i).gen+1) t)) i=IE ((ob os i).gen+1) t:=by rw [eo,if_pos rfl]
  refine ⟨by rw [e];simp only [IE];omega,by rw [e];rfl,by rw [e];simp [IE],fun f hf hne=> ?_,fun hh=>(by rw [e] at hh;cases hh),fun _=> ?_⟩
  ·rw [e] at hf;simp [IE,G4] at hf;exact absurd hf hne
  ·rw [e]
   simp only [IE]
   have hz:CD os (B6 i ((ob os i).gen+1))=0:=by
    unfold CD
    refine lZ fun n hn=> ?_
    obtain ⟨o,ho',rfl⟩:=List.mem_map.1 hn
    obtain ⟨j,hj,rfl⟩:=List.getElem_of_mem ho'
    rw [DQ hj]
    cases hv:(ob os j).live with
    | false=>exact L9 hv
    | true=>
      rw [HN hv]
      refine List.count_eq_zero.2 fun hm=> ?_
      have hpos:B6 i ((ob os i).gen+1)≠ -1:=by rw [GN k8 (by omega) (by omega)];omega
      exact nosl _ ((h.obj j (by omega)).lead _ hm hpos).2 rfl
   have hed:=ed (B6 i ((ob os i).gen+1)) (by rw [GN k8 (by omega) (by omega)];omega)
   have hed2:CD (os.set i (IE ((ob os i).gen+1) t)) (B6 i ((ob os i).gen+1))=0:=by rw [hed,hz]
   simp only [IE] at hed2
   refine ⟨by omega,ht,by omega,by omega,by rw [hed2];simp,by omega,⟨fun hh=>(by cases hh),fun hm=>absurd rfl (nosl _ (h.blv _ hm))⟩⟩
 ·have e:ob (os.set k (IE ((ob os k).gen+1) t)) i=ob os i:=by rw [eo,if_neg hik]
  refine ⟨by rw [e];exact ho.gen,by rw [e];exact ho.len,by rw [e];exact ho.cb,fun f hf hne=> ?_,fun hh=> ?_,fun hv=> ?_⟩
  ·rw [e] at hf;have:=ho.lead f hf hne;rw [e,sl f this.2];exact this
  ·rw [e] at hh ⊢;exact ho.dead hh
  ·rw [e] at hv ⊢
   obtain ⟨g1,g2,g3,g4,g5,g6,g7⟩:=ho.lv hv
   exact ⟨g1,by omega,g3,g4,by rw [ed _ (by rw [GN hi g1 ho.gen.2];omega)];exact g5,g6,g7⟩
end
theorem at_mem {l:List ByteArray} {s:ByteArray}:at_ l s<0↔s∉l:=by
 unfold at_;split
 ·rename_i h;simp [h]
 ·rename_i h;simp [h]
theorem J9.snoc {l:List ByteArray} {s:ByteArray} (h:J9 l) (h6:l.length<6) (hs:1≤(s.size:Int)∧(s.size:Int)≤8) (hn:s∉l):J9 (l++[s]):=by
 have e: ∀i,i<l.length→gS (l++[s]) i=gS l i:=fun i hi=>by
  rw [←bJ (by simp;omega), ←bJ hi,List.getElem_append_left hi]
 have e2:gS (l++[s]) l.length=s:=by rw [←bJ (by simp)];simp
 refine ⟨by simp;omega,fun i hi=> ?_,fun i hi=> ?_⟩
 ·by_cases hl:i<l.length
  ·rw [e i hl];exact h.sz i hl
  ·have:i=l.length:=by simp at hi;omega
   rw [this,e2];exact hs
 ·by_cases hl:i<l.length
  ·rw [e i hl,List.take_append_of_le_length (by omega)];exact h.one i hl
  ·have:i=l.length:=by simp at hi;omega
   rw [this,e2];simpa using hn
theorem nQ {os:List AE} {buf:List Int} {ss:List ByteArray} {s:ByteArray} (h:HP os ss.length buf []) (hs:J9 ss):HP (HE os ss s).1 (HE os ss s).2.1.length buf []∧J9 (HE os ss s).2.1:=by
 unfold HE
 by_cases hb: ¬(1≤(s.size:Int)∧(s.size:Int)≤8)
 ·rw [if_pos hb];exact ⟨h,hs⟩
 rw [if_neg hb]
 by_cases hf:CM os<0
 ·rw [if_pos hf];exact ⟨h,hs⟩
 rw [if_neg hf]
 obtain ⟨f1,f2,f3⟩:=NV hf
 have hol:=h.ol
 simp only [I5,Bool.and_eq_true,Bool.not_eq_true',decide_eq_true_eq] at f3
 have hg:=(h.obj (CM os).toNat (by omega)).gen
 have ew:w64 ((ob os (CM os).toNat).gen+1)=(ob os (CM os).toNat).gen+1:=G9 ⟨by omega,by omega⟩
 by_cases h6:at_ ss s<0∧6≤ss.length
 ·rw [if_pos h6];exact ⟨h,hs⟩
 rw [if_neg h6,ew]
 simp only
 by_cases ha:at_ ss s<0
 ·rw [if_pos ha,if_pos ha]
  exact ⟨h.put (by omega) f3.1 f3.2 (by simp) (by simp),hs.snoc (by omega) (Decidable.not_not.1 hb) (at_mem.1 ha)⟩
 ·rw [if_neg ha,if_neg ha]
  have hm:s∈ss:=Decidable.byContradiction fun hn=>ha (at_mem.2 hn)
  have hat:at_ ss s≤(ss.length:Int)-1:=by
   unfold at_;rw [if_pos hm]
   have:=List.idxOf_lt_length_of_mem hm
   omega
  exact ⟨h.put (by omega) f3.1 f3.2 (Nat.le_refl _) ⟨by omega,hat⟩,hs⟩
end Go.Proofs.Ytklmcfpgdfibnaa.P
namespace Go.Proofs.Ytklmcfpgdfibnaa.P
open Go Go.Proofs.Ytklmcfpgdfibnaa Go.Proofs.Ytklmcfpgdfibnaa.Eng
set_option linter.unusedVariables false
theorem kC {g:Nat→AE} {id:Int}:(CD (mk8 g) id:Int)=FP 8 fun k=>(NA id (g k):Int):=by
 simp only [CD,mk8,List.map_map]
 simp [List.range_succ,FP]
 omega
section
variable {os:List AE} {ns:Nat} {buf:List Int} {i j k:Nat}
theorem HP.y7 (h:HP os ns buf []) (hk:k<8) (hj:j<8) (hv:(ob os j).live=true):E os k j=NA (B6 j (ob os j).gen) (ob os k):=by
 have hoj:=h.obj j hj
 have g1:=(hoj.lv hv).1
 have e1:(BC os k).count (j:Int)=(ob os k).field.count (B6 j (ob os j).gen):=by
  unfold BC
  rw [List.count_filter (by simp),List.count_eq_countP,List.countP_map,List.count_eq_countP]
  refine List.countP_congr fun f hf=> ?_
  simp only [Function.comp,beq_iff_eq]
  constructor
  ·intro he;exact MF he g1 hoj.gen.2
  ·intro he;rw [he];exact D4 h.ol hj hv g1 hoj.gen.2
 unfold E
 rw [e1]
 cases hd:(ob os k).live with
 | true=>rw [HN hd]
 | false=>
   rw [L9 hd,List.count_eq_zero.2 fun hm=> ?_]
   have hne:B6 j (ob os j).gen≠ -1:=by rw [GN hj g1 hoj.gen.2];omega
   have:=((h.obj k hk).lead _ hm hne).1
   rw [hd] at this;cases this
theorem HP.fP (h:HP os ns buf []) (hj:j<8) (hv:(ob os j).live=true):(CD os (B6 j (ob os j).gen):Int)=S os (fun _=>true) j:=by
 have e:CD os (B6 j (ob os j).gen)=CD (mk8 (ob os)) (B6 j (ob os j).gen):=by rw [←Z3 h.ol]
 rw [e,kC]
 exact JT fun k hk=>by rw [if_pos rfl,h.y7 hk hj hv]
theorem RB.live (h:RB os buf k):(ob os k).live=true:=by
 obtain ⟨b,_,s,hs,hr⟩:=h
 have hb:=BH (l:=os) (id:=b) (by omega)
 have e:(AA os b).toNat=s:=by omega
 rw [e] at hb
 exact hr.closed (P:=fun k=>(ob os k).live=true) hb.2.2.2.2.1 fun _ _ _ hj=>(BZ hj).2.2.2.2
theorem sX {P:Nat→Bool} (hk:k<8) (hp:P k=true):E os k j≤S os P j:=by
 have:=R5 (n:=8) (k0:=k) (f:=fun x=>if x=k then 0 else if P x then E os x j else 0) (g:=fun x=>if P x then E os x j else 0) hk fun x hx hne=>by simp [hne]
 have h0:0≤FP 8 fun x=>if x=k then 0 else if P x then E os x j else 0:=by
  have:=JM (n:=8) (f:=fun _=>0) (g:=fun x=>if x=k then 0 else if P x then E os x j else 0) fun x hx=>by
   split
   ·exact Int.le_refl _
   ·split
    ·exact OI _ _ _
    ·exact Int.le_refl _
  rw [H8 (fun _ _=>rfl)] at this;exact this
 simp only [hp,if_true] at this
 unfold S;omega
theorem HP.ext (h:HP os ns buf []) (hj:j<8) (hv:(ob os j).live=true):EX os (fun i=>(ob os i).count) (MY os buf) j↔0<(ob os j).holds+(ob os j).roots+S os (fun k=> !MY os buf k) j:=by
 have hcl:=h.QG (D4 h.ol hj hv ((h.obj j hj).lv hv).1 (h.obj j hj).gen.2)
 have e1:=h.fP hj hv
 have e2:=YK (os:=os) (P:=MY os buf) (i:=j)
 have n1:0≤S os (MY os buf) j:=by
  have:=JM (n:=8) (f:=fun _=>0) (g:=fun x=>if MY os buf x then E os x j else 0) fun x hx=>by
   split
   ·exact OI _ _ _
   ·exact Int.le_refl _
  rw [H8 (fun _ _=>rfl)] at this;exact this
 have n2:0≤S os (fun k=> !MY os buf k) j:=by
  have:=JM (n:=8) (f:=fun _=>0) (g:=fun x=>if (!MY os buf x) then E os x j else 0) fun x hx=>by
   split
   ·exact OI _ _ _
   ·exact Int.le_refl _
  rw [H8 (fun _ _=>rfl)] at this;exact this
 unfold EX
 simp only
 rw [G9 ⟨by omega,by omega⟩]
 omega
theorem mZ {P:Nat→Bool} (h:0<S os P j): ∃k,k<8∧P k=true∧0<E os k j:=by
 refine Classical.byContradiction fun hn=> ?_
 have:S os P j=0:=H8 fun k hk=>by
  cases hp:P k with
  | false=>simp
  | true=>
    have:=OI os k j
    have: ¬0<E os k j:=fun hh=>hn ⟨k,hk,hp,hh⟩
    simp;omega
 omega
theorem iG (h:0<E os k j):(j:Int)∈BC os k:=by
 unfold E at h;exact List.count_pos_iff.1 (by omega)
theorem uS (h:HP os ns buf []) (hk:k<8) {f:Int} (hf:f∈(ob os k).field) (hj:AA os f=(j:Int)):(j:Int)∈BC os k:=by
 unfold BC
 exact List.mem_filter.2 ⟨List.mem_map.2 ⟨f,hf,hj⟩,by simp⟩
theorem n7 (h:HP os ns buf []) {W:Nat→Bool} (hW:W=H7 os (fun i=>(ob os i).count) buf) (hk:k<8) (hw:W k=false) (hj:j<8) (hm:(j:Int)∈BC os k):W j=false:=by
 cases hwj:W j with
 | false=>rfl
 | true=>
   exfalso
   have hjl:(ob os j).live=true:=by have:=(BZ hm).2.2.2.2;rwa [Int.toNat_natCast] at this
   rw [hW,H0] at hwj
   obtain ⟨hr,hn⟩:=hwj
   by_cases hrk:RB os buf k
   ·have hex: ∃x,Out os (fun i=>(ob os i).count) buf x∧Reach os x k:=Classical.byContradiction fun hh=>by
     have:=H0.2 (⟨hrk,hh⟩:RB os buf k∧ ¬ ∃x,Out os (fun i=>(ob os i).count) buf x∧Reach os x k)
     rw [←hW,hw] at this;cases this
    obtain ⟨x,hx,hxk⟩:=hex
    exact hn ⟨x,hx,by have:=Reach.step hxk hm;rwa [Int.toNat_natCast] at this⟩
   ·refine hn ⟨j,⟨hj,hr,(h.ext hj hjl).2 ?_⟩, .refl⟩
    have e:=sX (os:=os) (P:=fun k=> !MY os buf k) (j:=j) hk (by simp [SE.2 hrk])
    have hE:0<E os k j:=by unfold E;have:=List.count_pos_iff.2 hm;omega
    have hcl:=h.QG (D4 h.ol hj hjl ((h.obj j hj).lv hjl).1 (h.obj j hj).gen.2)
    omega
theorem jU (h:HP os ns buf []) {W:Nat→Bool} (hW:W=H7 os (fun i=>(ob os i).count) buf) (hi:i<8) (hv:(ob os i).live=true) (hw:W i=false) (h0:(ob os i).holds+(ob os i).roots=0): ∃p,p<8∧(ob os p).live=true∧W p=false∧B6 i (ob os i).gen∈(ob os p).field:=by
 have hoi:=h.obj i hi
 have g1:=(hoi.lv hv).1
 have back: ∀p,p<8→(i:Int)∈BC os p→(ob os p).live=true∧B6 i (ob os i).gen∈(ob os p).field:=fun p hp hm=>by
  unfold BC at hm
  obtain ⟨h1,_⟩:=List.mem_filter.1 hm
  obtain ⟨f,hf,he⟩:=List.mem_map.1 h1
  have hid:=MF he g1 hoi.gen.2
  rw [hid] at hf
  have hne:B6 i (ob os i).gen≠ -1:=by rw [GN hi g1 hoi.gen.2];omega
  exact ⟨((h.obj p hp).lead _ hf hne).1,hf⟩
 have hcl:=h.QG (D4 h.ol hi hv g1 hoi.gen.2)
 have hes:=h.fP hi hv
 have notRB: ∀p, ¬RB os buf p→W p=false:=fun p hp=>by
  cases hwp:W p with
  | false=>rfl
  | true=>rw [hW,H0] at hwp;exact absurd hwp.1 hp
 by_cases hri:RB os buf i
 ·have hex: ∃x,Out os (fun i=>(ob os i).count) buf x∧Reach os x i:=Classical.byContradiction fun hh=>by
   have:=H0.2 (⟨hri,hh⟩:RB os buf i∧ ¬ ∃x,Out os (fun i=>(ob os i).count) buf x∧Reach os x i)
   rw [←hW,hw] at this;cases this
  obtain ⟨y,hy,hyi⟩:=hex
  generalize hii:i=i' at hyi
  cases hyi with
  | refl=>
    subst hii
    have:=(h.ext hi hv).1 hy.2.2
    obtain ⟨p,hp,hpp,hE⟩:=mZ (os:=os) (P:=fun k=> !MY os buf k) (j:=i) (by omega)
    have hpn: ¬RB os buf p:=by simp only [Bool.not_eq_true'] at hpp;exact SE.1 hpp
    obtain ⟨b1,b2⟩:=back p hp (iG hE)
    exact ⟨p,hp,b1,notRB p hpn,b2⟩
  | step hyp hj=>
    rename_i p jj
    have hjb:=BZ hj
    have hji:jj=(i:Int):=by omega
    rw [hji] at hj
    have hp8:p<8:=hyp.lt hy.1
    obtain ⟨b1,b2⟩:=back p hp8 hj
    refine ⟨p,hp8,b1, ?_,by rw [←hii];exact b2⟩
    cases hwp:W p with
    | false=>rfl
    | true=>rw [hW,H0] at hwp;exact absurd ⟨y,hy,hyp⟩ hwp.2
 ·obtain ⟨p,hp,_,hE⟩:=mZ (os:=os) (P:=fun _=>true) (j:=i) (by omega)
  obtain ⟨b1,b2⟩:=back p hp (iG hE)
  refine ⟨p,hp,b1,notRB p fun hr=>hri ?_,b2⟩
  have:=hr.next (iG hE)
  rwa [Int.toNat_natCast] at this
theorem HP.yU (h:HP os ns buf []):HP (F9 os buf).1 ns [] []:=by
 unfold F9
 obtain ⟨W,hW⟩: ∃W,W=H7 os (fun i=>(ob os i).count) buf:=⟨_,rfl⟩
 rw [←hW]
 simp only
 have hol:=h.ol
 have wl: ∀k,W k=true→(ob os k).live=true:=fun k hk=>by rw [hW,H0] at hk;exact RB.live hk.1
 have mo: ∀i,i<8→W i=false→FF os W i={ob os i with purple:=false}:=fun i hi hw=>by unfold FF;rw [if_neg (by rw [hw];decide)]
 have mw: ∀i,W i=true→FF os W i=B7 (ob os i).gen:=fun i hw=>by unfold FF;rw [if_pos hw]
 have fo: ∀i,i<8→ob (mk8 (GC os W)) i=GC os W i:=fun i hi=>JF hi
 have fs:=fun i=>UI os W i
 have live: ∀i,i<8→(ob (mk8 (GC os W)) i).live=true→(ob os i).live=true∧W i=false:=fun i hi hv=>by
  rw [fo i hi,(fs i).1] at hv
  cases hw:W i with
  | true=>rw [mw i hw] at hv;cases hv
  | false=>rw [mo i hi hw] at hv;exact ⟨hv,rfl⟩
 have sl: ∀f, ∀j:Nat,AA os f=(j:Int)→W j=false→AA (mk8 (GC os W)) f=(j:Int):=fun f j hj hw=>by
  have hb:=BH (l:=os) (id:=f) (by omega)
  have e:(AA os f).toNat=j:=by omega
  rw [e] at hb
  have hmj:(f % 8).toNat=j:=by omega
  rw [HF hb.2.1 (DS _) (by rw [DS];omega) (by rw [hmj,fo j hb.2.2.2.1,(fs j).1,mo j hb.2.2.2.1 hw];exact hb.2.2.2.2.1) (by rw [hmj,fo j hb.2.2.2.1,(fs j).2.1,mo j hb.2.2.2.1 hw];exact hb.2.2.2.2.2)]
  omega
 have edm: ∀x,CD (mk8 (GC os W)) x=CD (mk8 (FF os W)) x:=fun x=>NP (by rw [DS,DS]) fun i hi=>by
  rw [DS] at hi
  rw [JF hi,JF hi];exact ⟨(fs i).1,(fs i).2.2⟩
 have edl: ∀x,CD (mk8 (FF os W)) x≤24:=fun x=>by
  have:=OL (l:=mk8 (FF os W)) (id:=x) (b:=3) fun o ho=>by
   obtain ⟨i,hi,rfl⟩:=gV ho
   cases hw:W i with
   | true=>rw [mw i hw];simp [B7,G4]
   | false=>rw [mo i hi hw];have:=(h.obj i hi).len;simp only;omega
  rw [DS] at this;exact this
 refine ⟨DS _,fun i hi=> ?_,List.nodup_nil,by simp,by simp⟩
 have ho:=h.obj i hi
 cases hw:W i with
 | true=>
   have e:ob (mk8 (GC os W)) i=B7 (ob os i).gen:=by
    rw [fo i hi];unfold GC;rw [mw i hw,if_neg (by simp [B7])]
   refine ⟨by rw [e];exact ho.gen,by rw [e];rfl,by rw [e];simp [B7],fun f hf hne=> ?_,fun _=>by rw [e];exact ⟨rfl,rfl,rfl,rfl,rfl⟩,fun hv=>by rw [e] at hv;cases hv⟩
   rw [e] at hf;simp [B7,G4] at hf;exact absurd hf hne
 | false=>
   have lead: ∀f∈(ob os i).field,f≠ -1→(ob os i).live=true∧0≤AA (mk8 (GC os W)) f:=fun f hf hne=>by
    have hl:=ho.lead f hf hne
    obtain ⟨j,hj⟩: ∃j:Nat,AA os f=(j:Int):=⟨(AA os f).toNat,by omega⟩
    have hb:=BH (l:=os) (id:=f) (by omega)
    have hwj:=n7 h hW hi hw (by omega) (uS h hi hf hj)
    rw [sl f j hj hwj]
    exact ⟨hl.1,by omega⟩
   cases hv:(ob os i).live with
   | false=>
     have e:ob (mk8 (GC os W)) i={ob os i with purple:=false}:=by
      rw [fo i hi];unfold GC;rw [mo i hi hw,if_neg (by simp only;rw [hv];decide)]
     have hd:=ho.dead hv
     refine ⟨by rw [e];exact ho.gen,by rw [e];exact ho.len,by rw [e];exact ho.cb,fun f hf hne=> ?_,fun _=>by rw [e];exact ⟨hd.1,hd.2.1,hd.2.2.1,hd.2.2.2.1,rfl⟩,fun hh=> ?_⟩
     ·rw [e] at hf ⊢;exact lead f hf hne
     ·rw [e] at hh;simp only at hh;rw [hv] at hh;cases hh
   | true=>
     obtain ⟨g1,g2,g3,g4,g5,g6,g7⟩:=ho.lv hv
     have hin:inE (mk8 (FF os W)) i=CD (mk8 (FF os W)) (B6 i (ob os i).gen):=by
      have:=RF (os:=mk8 (FF os W)) (DS _) hi (by rw [JF hi,mo i hi hw];exact hv)
      rw [JF hi,mo i hi hw] at this;exact this
     have hed:=edl (B6 i (ob os i).gen)
     have ew:w64 (w64 ((ob os i).holds+(ob os i).roots)+CD (mk8 (FF os W)) (B6 i (ob os i).gen))=(ob os i).holds+(ob os i).roots+CD (mk8 (FF os W)) (B6 i (ob os i).gen):=by
      rw [LC];exact G9 ⟨by omega,by omega⟩
     have e:ob (mk8 (GC os W)) i={ob os i with purple:=false,count:=(ob os i).holds+(ob os i).roots+CD (mk8 (FF os W)) (B6 i (ob os i).gen)}:=by
      rw [fo i hi];unfold GC;rw [mo i hi hw,if_pos (by exact hv),hin]
      simp only
      rw [ew]
     have hpos:1≤(ob os i).holds+(ob os i).roots+CD (mk8 (FF os W)) (B6 i (ob os i).gen):=by
      by_cases h0:(ob os i).holds+(ob os i).roots=0
      ·obtain ⟨p,hp,pl,pw,pm⟩:=jU h hW hi hv hw h0
       have h1:NA (B6 i (ob os i).gen) (FF os W p)≤CD (mk8 (FF os W)) (B6 i (ob os i).gen):=by
        unfold CD
        exact kY (List.mem_map.2 ⟨FF os W p,by rw [←JF (f:=FF os W) hp, ←DQ (by rw [DS];exact hp)];exact List.getElem_mem _,rfl⟩)
       rw [mo p hp pw,HN (by exact pl)] at h1
       have:=List.count_pos_iff.2 pm
       simp only at h1
       omega
      ·omega
     refine ⟨by rw [e];exact ho.gen,by rw [e];exact ho.len,by rw [e];simp only;omega,fun f hf hne=> ?_,fun hd=> ?_,fun _=> ?_⟩
     ·rw [e] at hf ⊢;exact lead f hf hne
     ·rw [e] at hd;simp only at hd;rw [hv] at hd;cases hd
     ·rw [e,edm]
      exact ⟨g1,g2,g3,g4,by simp,hpos,by simp⟩
end
end Go.Proofs.Ytklmcfpgdfibnaa.P
namespace Go.Proofs.Ytklmcfpgdfibnaa.P
open Go Go.Proofs.Ytklmcfpgdfibnaa Go.Proofs.Ytklmcfpgdfibnaa.Eng
set_option linter.unusedVariables false
set_option maxHeartbeats 4000000
set_option linter.unusedVariables false
set_option linter.unusedSimpArgs false
attribute [local irreducible] prP gP gE gF AW ixW ldc ldg ldl stc stg scW mkW apW AZ cl2 BJ CH B2
variable {w0:World}
abbrev wO (ws:List Wk):Prop:= ∀i,i<8→((wk ws i).used=false→(wk ws i).target=0)∧((wk ws i).used=true→8≤(wk ws i).target∧(wk ws i).target≤7999)
theorem oL {l:List Wk} {i k:Nat} {o:Wk} (hk:k<l.length):wk (l.set k o) i=if i=k then o else wk l i:=by
 unfold wk
 by_cases h:i=k
 ·subst h
  rw [if_pos rfl,List.getD_eq_getElem?_getD,List.getElem?_set_self hk];rfl
 ·rw [if_neg h,List.getD_eq_getElem?_getD,List.getElem?_set_ne (Ne.symm h),List.getD_eq_getElem?_getD]
theorem BG.step {h:Hp} {o:Op5} (hk:BG h):BG (CA h o).1:=by
 have hp:=hk.hp
 have hw:wO h.CB:=hk.weak
 have hwl:=hk.wl
 unfold CA
 split
 ·obtain ⟨a,b⟩:=nQ (s:=o.site) hp hk.sites
  exact HP.ok a hk.wl b hw
 ·split
  ·exact HP.ok (hp.hold (kd:=o.kind) (id:=o.a)) hk.wl hk.sites hw
  ·split
   ·exact HP.ok (hp.store (a:=o.a) (b:=o.b) (c:=o.c)) hk.wl hk.sites hw
   ·split
    ·refine HP.ok hp (mF.1.trans hk.wl) hk.sites ?_
     unfold OC
     split
     ·exact hw
     ·rename_i hs
      split
      ·exact hw
      ·rename_i hf
       obtain ⟨f1,f2,f3⟩:=XM hf
       intro i hi
       rw [oL f1]
       split
       ·have hb:=BH (l:=h.AB) (id:=o.a) (by omega)
        have:=(hk.obj (AA h.AB o.a).toNat hb.2.2.2.1).gen
        exact ⟨fun hh=>(by cases hh),fun _=>⟨hb.2.1,by simp only;omega⟩⟩
       ·exact hw i hi
    ·split
     ·refine HP.ok hp (eV.1.trans hk.wl) hk.sites ?_
      unfold IZ
      split
      ·exact hw
      ·rename_i hb
       split
       ·exact hw
       ·split
        ·intro i hi
         rw [oL (by omega)]
         split
         ·exact ⟨fun _=>rfl,fun hh=>(by cases hh)⟩
         ·exact hw i hi
        ·split
         ·exact hw
         ·exact hw
     ·split
      ·exact HP.ok hp.yU hk.wl hk.sites hw
      ·exact hk
theorem BM {x:Int} (h: -1000000≤x∧x≤1000000):F64 x:=⟨by omega,by omega⟩
theorem BG.MO {h:Hp} (hk:BG h) {x:Int} (hx:0≤AA h.AB x):8≤x∧x≤7999:=by
 have hb:=BH hx
 have:=(hk.obj (AA h.AB x).toNat hb.2.2.2.1).gen
 exact ⟨hb.2.1,by omega⟩
theorem BG.Y5 {h:Hp} (hk:BG h):QR h:=by
 have hp:=hk.hp
 refine ⟨fun o ho=> ?_,fun w hw=> ?_,fun b hb=>BM (by have:=hk.MO (hk.UZ hb);omega)⟩
 ·obtain ⟨i,hi,rfl⟩:=List.getElem_of_mem ho
  have hi8:i<8:=by have:=hk.ol;omega
  rw [DQ hi]
  have hoi:=hp.obj i hi8
  have hg:=hoi.gen
  have hcb:=hoi.cb
  have hsl:=hk.sites.len
  have hr:=hk.hr i
  have hfd: ∀f∈(ob h.AB i).field,F64 f:=fun f hf=>by
   by_cases h1:f= -1
   ·subst h1;exact BM (by omega)
   ·exact BM (by have:=hk.MO (hoi.lead f hf h1).2;omega)
  cases hv:(ob h.AB i).live with
  | false=>
    have:=hoi.dead hv
    exact ⟨BM (by omega),BM (by omega),BM (by omega),BM (by omega),BM (by omega),hfd⟩
  | true=>
    have:=hoi.lv hv
    exact ⟨BM (by omega),BM (by omega),BM (by omega),BM (by omega),BM (by omega),hfd⟩
 ·obtain ⟨i,hi,rfl⟩:=List.getElem_of_mem hw
  rw [cG hi]
  have:=hk.weak i (by have:=hk.wl;omega)
  cases hu:(wk h.CB i).used with
  | false=>have:=this.1 hu;exact BM (by omega)
  | true=>have:=this.2 hu;exact BM (by omega)
theorem BG.fits {h:Hp} (hk:BG h):Fits h:=(hk.st hk.Y5).fits
def hp0:Hp:=⟨List.replicate 8 (B7 0),List.replicate 8 ⟨false,0⟩,[],[]⟩
theorem uY:BG hp0:=by
 have eo: ∀i,i<8→ob hp0.AB i=B7 0:=fun i hi=>by
  unfold hp0 ob;simp only;rw [List.getD_eq_getElem?_getD,List.getElem?_replicate,if_pos hi];rfl
 have ew: ∀i,i<8→wk hp0.CB i=⟨false,0⟩:=fun i hi=>by
  unfold hp0 wk;simp only;rw [List.getD_eq_getElem?_getD,List.getElem?_replicate,if_pos hi];rfl
 refine ⟨by simp [hp0],by simp [hp0],⟨by simp [hp0],fun i hi=>by simp [hp0] at hi,fun i hi=>by simp [hp0] at hi⟩,fun i hi=> ?_,fun i hi=> ?_,fun i hi=>by simp [hp0] at hi⟩
 ·have e:=eo i hi
  refine ⟨by rw [e];simp [B7],by rw [e];rfl,fun j hj hne=> ?_,fun _=>by rw [e];exact ⟨rfl,rfl,rfl,rfl,rfl⟩,fun hv=>(by rw [e] at hv;cases hv)⟩
  rw [e] at hne
  exfalso;apply hne
  simp only [B7,G4]
  rcases j with _ | _ | _ | j
  ·rfl
  ·rfl
  ·rfl
  ·omega
 ·rw [ew i hi];exact ⟨fun _=>rfl,fun hh=>(by cases hh)⟩
noncomputable def EY (l:List Op5):Nat→Hp×List An
 | 0=>(hp0,[])
 | i+1=>((CA (EY l i).1 (po l i)).1,(EY l i).2++[(CA (EY l i).1 (po l i)).2])
theorem L8 (l:List Op5): ∀i,BG (EY l i).1∧(EY l i).2.length=i
 | 0=>⟨uY,rfl⟩
 | i+1=>⟨(L8 l i).1.step,by simp only [EY,List.length_append,List.length_singleton,(L8 l i).2]⟩
end Go.Proofs.Ytklmcfpgdfibnaa.P
namespace Go.Proofs.Ytklmcfpgdfibnaa.P
open Go Go.Proofs.Ytklmcfpgdfibnaa Go.Proofs.Ytklmcfpgdfibnaa.Eng
set_option linter.unusedVariables false
set_option maxRecDepth 100000
def cK (C:Ctx) (a0:Value) (K:Value→Q):Q:=
 pr (lnL a0) fun t5_1=>
 pr (mn t5_1 (.int .i64 400)) fun t6_2=>
 pr (scL 5 a0 none (some t6_2)) fun t7_3=>
 K t7_3
theorem dA {w0:World} {a0:Value} {K:Value→Q} {s:Eng.St} (h:cK ⟨Try.prog,w0⟩ a0 K s):cl ⟨Try.prog,w0⟩ 105 [a0] K s:=
 WV (C:=⟨Try.prog,w0⟩) (f:=105) (fn:=Try.f105) [] Try.func105 (by kernel_rfl) (by kernel_rfl) (by kernel_rfl) h
theorem VK {w0:World} {n:Nat} {K:Value→Prop} (h:K (iv (min n 400))):CH ⟨Try.prog,w0⟩ 105 5 n K:=by
 refine ⟨min n 400,Nat.min_le_left _ _,fun s u v hu hv=> ?_,h⟩
 have hm:mn (iv n) (.int .i64 400)=some (iv (min n 400)):=by
  have:(if (400:Int)<(n:Int) then (400:Int) else n)=((min n 400:Nat):Int):=by split <;> omega
  show some (Value.int .i64 (if (400:Int)<(n:Int) then (400:Int) else n))=_
  rw [this];rfl
 have hl:lnL u=some (iv n):=by
  rcases hu with ⟨rfl,rfl⟩ | ⟨a,b,rfl⟩
  ·rfl
  ·rfl
 obtain ⟨v',s',g,rfl,rfl⟩:=dA (w0:=w0) (a0:=u) (K:=fun v' s'=>v'=v∧s'=s) (s:=s) ⟨iv n,hl,⟨iv (min n 400),hm,⟨v,hv,rfl,rfl⟩⟩⟩
 exact g
end Go.Proofs.Ytklmcfpgdfibnaa.P
namespace Go.Proofs.Ytklmcfpgdfibnaa.P
open Go Go.Proofs.Ytklmcfpgdfibnaa Go.Proofs.Ytklmcfpgdfibnaa.Eng
set_option linter.unusedVariables false
set_option maxHeartbeats 4000000
set_option linter.unusedVariables false
set_option linter.unusedSimpArgs false
attribute [local irreducible] prP gP gE gF AW ixW ldc ldg ldl stc stg scW mkW apW AZ cl2 BJ CH B2
variable {w0:World}
theorem yJ (o:Op5):tv (nxT (tP o) 0)=I o.kind:=rfl
theorem xJ (o:Op5):tv (nxT (tP o) 1)=I o.a:=rfl
theorem wX (o:Op5):tv (nxT (tP o) 2)=I o.b:=rfl
theorem wU (o:Op5):tv (nxT (tP o) 3)=I o.c:=rfl
theorem xZ (o:Op5):tv (nxT (tP o) 4)= .string o.site:=rfl
theorem U9 {K:J2} (h:K [] (trees hp0)):cl2 ⟨Try.prog,w0⟩ 77 EW.sg [] [] K:=by
 refine EW.cl2 ?_
 unfold EW.txt
 refine tU (n:=8) (by omega) ?_
 have e0:VT (AD (iv 8)) [T.c (.bool false),T.c (.int .i64 0)]=tR tW (List.replicate 8 ⟨false,0⟩):=by
  rw [BA];exact qM (f:=tW) 8 ⟨false,0⟩
 rw [e0]
 refine BL (fun i=>[iv i]) (fun i=>[tR tO (List.replicate i (B7 0)),tR tW (List.replicate 8 ⟨false,0⟩)]) 8 (fun _=>True) rfl rfl trivial (fun R i hi hP hR=> ?_)
 have hln:(List.replicate i (B7 0)).length=i:=List.length_replicate
 simp only [AJ,AO,AS,AN,AQ,AG,AK,AI,AR,AT,AU,AM,AL,AP,BP,BU,BW,BT,BV,BS,BQ,AY,A6,A7,A4,A5,A8]
 refine BE (BB (fun hlt=> ?_) fun hge=> ?_)
 ·have hlt:i<8:=by omega
  replace hR:=hR hlt trivial
  rw [List.replicate_succ', ←iI] at hR
  exact OK (XC (by rw [hln];omega) (A9 (by omega) hR))
 ·have:i=8:=by omega
  subst this
  exact h
theorem aZ {l:List Op5} {K:J2} (hl:(l.length:Int)≤2^40) (ho: ∀o∈l,OpF o) (h:K [] (trees (EY l (min l.length 400)).1++[tR tA (EY l (min l.length 400)).2])):cl2 ⟨Try.prog,w0⟩ 39 HQ.sg [] [tR tP l] K:=by
 refine HQ.cl2 ?_
 unfold HQ.txt
 refine U9 ?_
 simp only [AJ,AO,AS,AN,AQ,AG,AK,AI,AR,AT,AU,AM,AL,AP,BP,BU,BW,BT,BV,BS,BQ,AY,A6,A7,A4,A5,A8]
 refine VK ?_
 simp only [BA]
 refine BL (fun i=>[iv (min l.length 400),iv 0,iv (min l.length 400),iv i]) (fun i=>[tR tA (EY l i).2,tR tO (EY l i).1.AB,tR tW (EY l i).1.CB,tI (EY l i).1.buffer,tS (EY l i).1.sites]) (min l.length 400) (fun _=>True) rfl rfl trivial (fun R i hi hP hR=> ?_)
 obtain ⟨ok,pl⟩:=L8 l i
 simp only [AJ,AO,AS,AN,AQ,AG,AK,AI,AR,AT,AU,AM,AL,AP,BP,BU,BW,BT,BV,BS,BQ,AY,A6,A7,A4,A5,A8]
 simp only [BA]
 refine BE (BB (fun hlt=> ?_) fun hge=> ?_)
 ·have hlt:i<min l.length 400:=by omega
  have hll:i<l.length:=by omega
  replace hR:=hR hlt trivial
  have hof:OpF (po l i):=by rw [←sY hll];exact ho _ (List.getElem_mem hll)
  simp only [EY] at hR
  refine BF hlt ?_
  rw [Nat.zero_add]
  refine uO hll ?_
  simp only [yJ,xJ,wX,wU,xZ]
  refine QM ok ok.Y5 hof.a hof.c (XC (by rw [pl];omega) (A9 (by omega) ?_))
  rw [←pX] at hR
  exact hR
 ·have:i=min l.length 400:=by omega
  subst this
  exact h
end Go.Proofs.Ytklmcfpgdfibnaa.P
namespace Go.Proofs.Ytklmcfpgdfibnaa.P
open Go Go.Proofs.Ytklmcfpgdfibnaa Go.Proofs.Ytklmcfpgdfibnaa.Eng
set_option linter.unusedVariables false
structure HB (os0 os:List AE) (freed:List Int):Prop where
 l0:os0.length=8
 len:os.length=8
 gn: ∀i,i<8→(ob os i).gen=(ob os0 i).gen
 sm: ∀i,i<8→(ob os i).live=true→(ob os0 i).live=true∧(ob os i).site=(ob os0 i).site∧(ob os i).holds=(ob os0 i).holds∧(ob os i).roots=(ob os0 i).roots∧(ob os i).field=(ob os0 i).field
 dd: ∀i,i<8→(ob os i).live=false→(ob os0 i).live=true→ob os i=B7 (ob os0 i).gen
 d0: ∀i,i<8→(ob os0 i).live=false→ob os i=ob os0 i
 fr: ∀x,x∈freed↔0≤AA os0 x∧AA os x<0
 nd:freed.Nodup
 ct:lvs os+freed.length=lvs os0
theorem HB.refl {os:List AE} (h:os.length=8):HB os os []:=⟨h,h,fun _ _=>rfl,fun i _ hv=>⟨hv,rfl,rfl,rfl,rfl⟩,fun i _ h1 h2=>(by rw [h1] at h2;cases h2),fun _ _ _=>rfl,fun x=>⟨fun hx=>(by simp at hx),fun ⟨a,b⟩=>by omega⟩,List.nodup_nil,by simp⟩
theorem HB.dec {os0 os:List AE} {freed:List Int} {k:Nat} {v:AE} (h:HB os0 os freed) (hk:k<8) (kv:(ob os k).live=true) (v1:v.live=true) (v2:v.gen=(ob os k).gen) (v3:v.site=(ob os k).site) (v4:v.holds=(ob os k).holds) (v5:v.roots=(ob os k).roots) (v6:v.field=(ob os k).field):HB os0 (os.set k v) freed:=by
 have hl:=h.len
 have eo: ∀i,ob (os.set k v) i=if i=k then v else ob os i:=fun i=>DP (by omega)
 have sl: ∀x,AA (os.set k v) x=AA os x:=fun x=>D5 (by simp) fun i _=>by
  rw [eo];split
  ·rename_i he;subst he;exact ⟨by rw [v1,kv],v2⟩
  ·exact ⟨rfl,rfl⟩
 refine ⟨h.l0,by simp [hl],fun i hi=> ?_,fun i hi hv=> ?_,fun i hi hv=> ?_,fun i hi hv=> ?_,fun x=>by rw [sl];exact h.fr x,h.nd, ?_⟩
 ·rw [eo];split
  ·rename_i he;subst he;rw [v2];exact h.gn i hi
  ·exact h.gn i hi
 ·rw [eo] at hv ⊢
  by_cases he:i=k
  ·subst he
   rw [if_pos rfl,v3,v4,v5,v6]
   exact h.sm i hi kv
  ·rw [if_neg he] at hv ⊢;exact h.sm i hi hv
 ·rw [eo] at hv ⊢
  by_cases he:i=k
  ·rw [if_pos he,v1] at hv;cases hv
  ·rw [if_neg he] at hv ⊢;exact h.dd i hi hv
 ·rw [eo]
  by_cases he:i=k
  ·subst he
   have:=(h.sm i hi kv).1
   rw [hv] at this;cases this
  ·rw [if_neg he];exact h.d0 i hi hv
 ·have:=OW (os:=os) (k:=k) (by omega) kv v
  rw [v1,if_pos rfl] at this
  have:=h.ct;omega
theorem HB.free {os0 os:List AE} {freed:List Int} {k:Nat} {id:Int} (h:HB os0 os freed) (hk:AA os id=(k:Int)):HB os0 (os.set k (B7 (ob os k).gen)) (freed++[id]):=by
 have hl:=h.len
 have hb:=BH (l:=os) (id:=id) (by omega)
 have ek:(AA os id).toNat=k:=by omega
 rw [ek] at hb
 obtain ⟨_,b1,b2,k8,kv,kg⟩:=hb
 have eo: ∀i,ob (os.set k (B7 (ob os k).gen)) i=if i=k then B7 (ob os k).gen else ob os i:=fun i=>DP (by omega)
 have s0:AA os0 id=(k:Int):=by
  have e:(id % 8).toNat=k:=by omega
  rw [HF (by omega) h.l0 (by have:=h.l0;omega) (by rw [e];exact (h.sm k k8 kv).1) (by rw [e, ←h.gn k k8];exact kg)]
  omega
 have sx: ∀x,AA (os.set k (B7 (ob os k).gen)) x=if x=id then -1 else AA os x:=fun x=>by
  by_cases hx:x=id
  ·subst hx
   rw [if_pos rfl]
   have e:(x % 8).toNat=k:=by omega
   exact JG (by simp only [List.length_set];omega) (.inl (by rw [e,eo,if_pos rfl];rfl))
  ·rw [if_neg hx]
   by_cases h8:x<8∨os.length≠8
   ·rw [HJ h8,HJ (by simpa using h8)]
   ·have hln:(x % 8).toNat<os.length:=by omega
    by_cases he:(x % 8).toNat=k
    ·have hg:(ob os (x % 8).toNat).gen≠x/8:=fun hg=>hx (by rw [he,kg] at hg;omega)
     rw [JG hln (.inr hg),JG (by simpa using hln) (.inl (by rw [he,eo,if_pos rfl];rfl))]
    ·unfold AA
     rw [if_neg h8,if_neg (by simpa using h8),eo,if_neg he]
 refine ⟨h.l0,by simp [hl],fun i hi=> ?_,fun i hi hv=> ?_,fun i hi hv h0=> ?_,fun i hi hv=> ?_,fun x=> ?_, ?_, ?_⟩
 ·rw [eo];split
  ·rename_i he;subst he;exact h.gn i hi
  ·exact h.gn i hi
 ·rw [eo] at hv ⊢
  by_cases he:i=k
  ·rw [if_pos he] at hv;cases hv
  ·rw [if_neg he] at hv ⊢;exact h.sm i hi hv
 ·rw [eo] at hv ⊢
  by_cases he:i=k
  ·subst he;rw [if_pos rfl,h.gn i hi]
  ·rw [if_neg he] at hv ⊢;exact h.dd i hi hv h0
 ·rw [eo]
  by_cases he:i=k
  ·subst he
   have:=(h.sm i hi kv).1
   rw [hv] at this;cases this
  ·rw [if_neg he];exact h.d0 i hi hv
 ·rw [List.mem_append,List.mem_singleton,h.fr,sx]
  by_cases hx:x=id
  ·subst hx
   rw [if_pos rfl]
   exact ⟨fun _=>⟨by omega,by omega⟩,fun _=> .inr rfl⟩
  ·rw [if_neg hx]
   exact ⟨fun hh=>hh.resolve_right hx, .inl⟩
 ·refine List.nodup_append.2 ⟨h.nd,by simp,fun a ha b hb'=> ?_⟩
  rw [List.mem_singleton.1 hb']
  rintro rfl
  have:=((h.fr a).1 ha).2
  omega
 ·have:=OW (os:=os) (k:=k) (by omega) kv (B7 (ob os k).gen)
  rw [if_neg (by simp [B7])] at this
  have:=h.ct
  rw [List.length_append,List.length_singleton];omega
theorem qV {ns:Nat} {os0:List AE}: ∀(f:Nat) {os:List AE} {buf todo freed:List Int},HP os ns buf todo→freed.length+lvs os≤8→todo.length+4*lvs os<f→HB os0 os freed→HB os0 (HC f os buf freed todo).1 (HC f os buf freed todo).2.2:=by
 intro f
 induction f with
 | zero=>intro os buf todo freed _ _ h;omega
 | succ f ih=>
   intro os buf todo freed h h8 hf hR
   cases todo with
   | nil=>exact hR
   | cons id pd=>
     have hs:=h.pd id (by simp)
     obtain ⟨k,hk⟩: ∃k:Nat,AA os id=(k:Int):=⟨(AA os id).toNat,by omega⟩
     obtain ⟨k8,kv,kid,kg1,kg2,kid8,kc,kc1,kF⟩:=h.at hk
     have hkl:k<os.length:=by have:=h.ol;omega
     simp only [HC,hk,Int.toNat_natCast]
     rw [if_neg (by omega),if_neg (by omega)]
     have ew:w64 ((ob os k).count-1)=(ob os k).count-1:=G9 ⟨by omega,by have:=kF.2;omega⟩
     rw [ew]
     have lset:=OW hkl kv
     have lvd: ∀v:AE,v.live=true→lvs (os.set k v)=lvs os:=fun v hv=>by
      have:=lset v
      rw [if_pos hv] at this;omega
     simp only [List.length_cons] at hf
     by_cases hc:(ob os k).count-1>0
     ·rw [if_pos hc]
      have hpk:=((h.obj k k8).lv kv).2.2.2.2.2.2
      rw [←kid] at hpk
      by_cases hp:(ob os k).purple=true
      ·rw [if_pos hp]
       exact ih (h.dec hk rfl rfl rfl rfl rfl rfl rfl (by simp only;omega) (fun x _=>Iff.rfl) hpk h.bnd) (by rw [lvd] <;> first | omega | exact kv) (by rw [lvd] <;> first | omega | exact kv) (hR.dec k8 kv kv rfl rfl rfl rfl rfl)
      ·rw [if_neg hp]
       have hni:id∉buf:=fun hm=>hp (hpk.2 hm)
       exact ih (h.dec hk rfl rfl rfl rfl rfl rfl rfl (by simp only;omega) (fun x hx=>by simp [hx]) (by simp) (List.nodup_append.2 ⟨h.bnd,by simp,fun a ha b hb=>by
        have hb:b=id:=by simpa using hb
        subst hb;intro he;exact hni (he ▸ ha)⟩)) (by rw [lvd] <;> first | omega | exact kv) (by rw [lvd] <;> first | omega | exact kv) (hR.dec k8 kv kv rfl rfl rfl rfl rfl)
     ·rw [if_neg hc]
      have hl:=lset (B7 (ob os k).gen)
      rw [if_neg (by simp [B7])] at hl
      have hfl:=List.length_filter_le (fun x=>decide (0≤x)) (ob os k).field
      rw [(h.obj k k8).len] at hfl
      exact ih (h.free hk (by omega)) (by rw [List.length_append,List.length_singleton];omega) (by rw [List.length_append];omega) (hR.free hk)
theorem YL {ns:Nat} {os:List AE} {buf:List Int} {x:Int} (h:HP os ns buf [x]):HB os (GA os buf [x]).1 (GA os buf [x]).2.2:=by
 have hol:=h.ol
 have:=UP hol
 exact qV _ h (by simp only [List.length_nil];omega) (by simp only [List.length_singleton];omega) (HB.refl hol)
end Go.Proofs.Ytklmcfpgdfibnaa.P
