/- A part of the proof. -/
import Derived.Test.YtklmcfpgdfibnaaNwWireF
import Derived.Test.YtklmcfpgdfibnaaNwRowO
import Derived.Test.YtklmcfpgdfibnaaNwWireH
import Derived.Test.YtklmcfpgdfibnaaNwTxtH
namespace Go.Proofs.Ytklmcfpgdfibnaa.P
open Go Go.Proofs.Ytklmcfpgdfibnaa Go.Proofs.Ytklmcfpgdfibnaa.Eng
set_option maxHeartbeats 4000000
set_option linter.unusedVariables false
set_option linter.unusedSimpArgs false
attribute [local irreducible] prP gP gE gF AV ixW ldc ldg ldl stc stg scW mkW apW BL cl2 BS EC CX
variable {w0:World}
end Go.Proofs.Ytklmcfpgdfibnaa.P
namespace Go.Proofs.Ytklmcfpgdfibnaa.P
open Go Go.Proofs.Ytklmcfpgdfibnaa Go.Proofs.Ytklmcfpgdfibnaa.Eng
set_option maxHeartbeats 4000000
set_option linter.unusedVariables false
set_option linter.unusedSimpArgs false
attribute [local irreducible] prP gP gE gF AV ixW ldc ldg ldl stc stg scW mkW apW BL cl2 BS EC CX
variable {w0:World}
theorem l7 (n:Int) (l:List ByteArray) (s:ByteArray):(L9 n l s).a.freed.length≤8∧(L9 n l s).sites.length≤l.length+1∧(L9 n l s).o.site.size≤s.size+8:=by
 unfold L9
 split
 ·exact ⟨Nat.zero_le _,Nat.le_succ _,Nat.zero_le _⟩
 ·rename_i e he
  split
  ·rename_i hok
   have h1:=UE n l e.1 e.2
   refine ⟨?_,h1.2, ?_⟩
   ·rcases Nat.lt_or_ge 8 e.2.freed.length with h | h
    ·exact absurd (b9 h) hok.1
    ·exact h
   ·have hne:=hok.1
    rw [J9,eV] at hne
    split at hne
    ·rename_i hk
     simp only [okE,rV,Bool.and_eq_true,decide_eq_true_eq] at hk
     simp only;omega
    ·exact absurd rfl hne
  ·exact ⟨Nat.zero_le _,Nat.le_succ _,Nat.zero_le _⟩
structure vJ (n:Int) (l:List ByteArray):Prop where
 n:F64 n
 len:(l.length:Int)<2^63
 all: ∀s∈l,(s.size:Int)<2^63
def dcd (ps:List ByteArray):Nat→Option (List Op5×List An×Int×List ByteArray)
 | 0=>some ([],[],0,[])
 | i+1=>match dcd ps i with
   | none=>none
   | some q=>if (L9 q.2.2.1 q.2.2.2 (gS ps i)).ok=true then some (q.1++[(L9 q.2.2.1 q.2.2.2 (gS ps i)).o],q.2.1++[(L9 q.2.2.1 q.2.2.2 (gS ps i)).a],(L9 q.2.2.1 q.2.2.2 (gS ps i)).last,(L9 q.2.2.1 q.2.2.2 (gS ps i)).sites) else none
structure DcI (ps:List ByteArray) (q:Nat×List Op5×List An×Int×List ByteArray):Prop where
 eq:dcd ps q.1=some q.2
 le:q.1≤ps.length
 ol:q.2.1.length=q.1
 al:q.2.2.1.length=q.1
 sl:q.2.2.2.2.length≤q.1
 fr: ∀a∈q.2.2.1,a.freed.length≤8
theorem DcI.next {ps:List ByteArray} {q:Nat×List Op5×List An×Int×List ByteArray} (h:DcI ps q) (hlt:q.1<ps.length) (hok:(L9 q.2.2.2.1 q.2.2.2.2 (gS ps q.1)).ok=true):
  DcI ps (q.1+1,q.2.1++[(L9 q.2.2.2.1 q.2.2.2.2 (gS ps q.1)).o],q.2.2.1++[(L9 q.2.2.2.1 q.2.2.2.2 (gS ps q.1)).a],(L9 q.2.2.2.1 q.2.2.2.2 (gS ps q.1)).last,(L9 q.2.2.2.1 q.2.2.2.2 (gS ps q.1)).sites):=by
 obtain ⟨h1,h2,h3,h4,h5,h6⟩:=h
 have hb:=l7 q.2.2.2.1 q.2.2.2.2 (gS ps q.1)
 refine ⟨by rw [dcd,h1];exact if_pos hok,hlt,by simp [h3],by simp [h4],by simp only;omega,fun a ha=> ?_⟩
 rcases List.mem_append.1 ha with ha | ha
 ·exact h6 a ha
 ·rw [List.mem_singleton.1 ha];exact hb.1
theorem DcI.zero (ps:List ByteArray):DcI ps (0,[],[],0,[]):=⟨rfl,Nat.zero_le _,rfl,rfl,Nat.le_refl _,by simp⟩
theorem oN (l:List Op5) (x:Op5):tR tP l++[T.c (I x.kind), .c (I x.a), .c (I x.b), .c (I x.c), .c (.string x.site)]=tR tP (l++[x]):=YU l x
theorem oI (l:List An) (x:An):tR tA l++[T.c (I x.code), .c (I x.val), .l 1 (tI x.freed)]=tR tA (l++[x]):=YU l x
end Go.Proofs.Ytklmcfpgdfibnaa.P
namespace Go.Proofs.Ytklmcfpgdfibnaa.P
open Go Go.Proofs.Ytklmcfpgdfibnaa Go.Proofs.Ytklmcfpgdfibnaa.Eng
set_option linter.unusedVariables false
set_option maxHeartbeats 4000000
set_option linter.unusedVariables false
set_option linter.unusedSimpArgs false
attribute [local irreducible] prP gP gE gF AV ixW ldc ldg ldl stc stg scW mkW apW BL cl2 BS EC CX
variable {w0:World}
structure Small (h:Hp) (a:An):Prop where
 fits:Fits h
 fr:a.freed.length≤9
theorem OF.holds {o:AU} {v:Int} (h:OF o):OF {o with holds:=v}:=⟨h.gen,h.len,h.fld⟩
theorem OF.roots {o:AU} {v:Int} (h:OF o):OF {o with roots:=v}:=⟨h.gen,h.len,h.fld⟩
theorem jW {os:List AU} {ws:List Wk} {id:Int}:(KJ os ws id).1.length=ws.length∧(KJ os ws id).2.freed=[]:=by
 unfold KJ
 split
 ·exact ⟨rfl,rfl⟩
 ·split
  ·exact ⟨rfl,rfl⟩
  ·exact ⟨by simp,rfl⟩
theorem dJ {os:List AU} {ws:List Wk} {kd k:Int}:(GO os ws kd k).1.length=ws.length∧(GO os ws kd k).2.freed=[]:=by
 unfold GO
 split
 ·exact ⟨rfl,rfl⟩
 ·split
  ·exact ⟨rfl,rfl⟩
  ·split
   ·exact ⟨by simp,rfl⟩
   ·split
    ·exact ⟨rfl,rfl⟩
    ·exact ⟨rfl,rfl⟩
end Go.Proofs.Ytklmcfpgdfibnaa.P
namespace Go.Proofs.Ytklmcfpgdfibnaa.P
open Go Go.Proofs.Ytklmcfpgdfibnaa Go.Proofs.Ytklmcfpgdfibnaa.Eng
set_option linter.unusedVariables false
theorem HK {k:Nat} {g:Int} (hk:k<8) (h1:1≤g) (h2:g≤999):CM k g=k+8*g:=by unfold CM;rw [if_pos ⟨⟨by omega,by omega⟩,h1,h2⟩]
theorem IV {os:List AU} {k:Nat} (hol:os.length=8) (hk:k<8) (hv:(ob os k).live=true) (h1:1≤(ob os k).gen) (h2:(ob os k).gen≤999):AB os (CM k (ob os k).gen)=k:=by
 rw [HK hk h1 h2]
 have e1:((k:Int)+8*(ob os k).gen) % 8=k:=by omega
 have e2:((k:Int)+8*(ob os k).gen)/8=(ob os k).gen:=by omega
 have e3:(((k:Int)+8*(ob os k).gen) % 8).toNat=k:=by omega
 rw [JQ (by omega) hol (by omega) (by rw [e3];exact hv) (by rw [e3,e2]),e1]
theorem MO {os:List AU} {k:Nat} {x:Int} (h:AB os x=(k:Int)) (h1:1≤(ob os k).gen) (h2:(ob os k).gen≤999):x=CM k (ob os k).gen:=by
 have hb:=BN (l:=os) (id:=x) (by omega)
 have e:(AB os x).toNat=k:=by omega
 rw [e] at hb
 rw [HK (by omega) h1 h2];omega
theorem GC {a b:List AU} {x:Int} (hl:a.length=b.length) (h: ∀i,i<a.length→(ob a i).live=(ob b i).live∧(ob a i).gen=(ob b i).gen):AB a x=AB b x:=by
 simp only [AB,hl]
 by_cases hx:x<8∨b.length≠8
 ·rw [if_pos hx,if_pos hx]
 ·rw [if_neg hx,if_neg hx]
  have:=h (x % 8).toNat (by omega)
  rw [this.1,this.2]
theorem SS {os:List AU} {k:Nat} {v:AU} {id:Int} (hk:k<os.length):CD (os.set k v) id+M7 id (ob os k)=CD os id+M7 id v:=by
 unfold CD
 rw [List.map_set]
 have hk':k<(os.map (M7 id)).length:=by simpa using hk
 have e:ob os k=os[k]:=(DH hk).symm
 have h1: ∀(l:List Nat) (k v:Nat) (hk:k<l.length),(l.set k v).sum+l[k]=l.sum+v:=by
  intro l
  induction l with
  | nil=>intro k v hk;simp at hk
  | cons x l ih=>
    intro k v hk
    cases k with
    | zero=>simp;omega
    | succ k=>
      have:=ih k v (by simpa using hk)
      simp only [List.set_cons_succ,List.sum_cons,List.getElem_cons_succ];omega
 have:=h1 (os.map (M7 id)) k (M7 id v) hk'
 rw [List.getElem_map] at this
 rw [e];exact this
structure u7 (os:List AU) (ns:Nat) (buf pd:List Int) (i:Nat):Prop where
 gen:0≤(ob os i).gen∧(ob os i).gen≤999
 len:(ob os i).field.length=3
 cb:(ob os i).count≤1000
 lead: ∀f∈(ob os i).field,f≠ -1→(ob os i).live=true∧0≤AB os f
 dead:(ob os i).live=false→(ob os i).site=0∧(ob os i).holds=0∧(ob os i).roots=0∧(ob os i).count=0∧(ob os i).purple=false
 lv:(ob os i).live=true→1≤(ob os i).gen∧(0≤(ob os i).site∧(ob os i).site≤(ns:Int)-1)∧(0≤(ob os i).holds∧(ob os i).holds≤20)∧(0≤(ob os i).roots∧(ob os i).roots≤20)∧
  (ob os i).count=(ob os i).holds+(ob os i).roots+CD os (CM i (ob os i).gen)+pd.count (CM i (ob os i).gen)∧1≤(ob os i).count∧((ob os i).purple=true↔CM i (ob os i).gen∈buf)
structure HP (os:List AU) (ns:Nat) (buf pd:List Int):Prop where
 ol:os.length=8
 obj: ∀i,i<8→u7 os ns buf pd i
 bnd:buf.Nodup
 blv: ∀x∈buf,0≤AB os x
 pd: ∀x∈pd,0≤AB os x
theorem RL {os:List AU} {i:Nat} (hol:os.length=8) (hi:i<8) (hv:(ob os i).live=true):inE os i=CD os (CM i (ob os i).gen):=by
 unfold inE
 rw [if_pos ⟨⟨by omega,by omega⟩,by rw [Int.toNat_natCast];exact hv⟩,Int.toNat_natCast]
theorem DB.hp {h:Hp} (hk:DB h):HP h.BB h.sites.length h.buffer []:=by
 refine ⟨hk.ol,fun i hi=> ?_,hk.bnd,fun x hx=>hk.VQ hx,by simp⟩
 have ho:=hk.obj i hi
 refine ⟨ho.gen,ho.len, ?_,fun f hf hne=> ?_,ho.dead,fun hv=> ?_⟩
 ·cases hv:(ob h.BB i).live with
  | false=>have:=ho.dead hv;omega
  | true=>
    have hed:=M4 (l:=h.BB) (id:=CM i (ob h.BB i).gen) (b:=3) fun o ho'=>by
     obtain ⟨j,hj,rfl⟩:=List.getElem_of_mem ho'
     rw [DH hj,(hk.obj j (by have:=hk.ol;omega)).len];omega
    have e:=(ho.lv hv).2.2.2.2.1
    rw [RL hk.ol hi hv] at e
    have:=(ho.lv hv).2.2.1;have:=(ho.lv hv).2.2.2.1
    have hol:=hk.ol
    omega
 ·obtain ⟨j,hj,rfl⟩:=List.getElem_of_mem hf
  rw [EE hj] at hne ⊢
  exact ho.lead j (by have:=ho.len;omega) hne
 ·obtain ⟨a,b,c,d,e,f,g⟩:=ho.lv hv
  rw [RL hk.ol hi hv] at e
  refine ⟨a,b,c,d,by rw [e];simp,f,by rw [g];simp⟩
theorem HP.ok {os:List AU} {buf:List Int} {ws:List Wk} {ss:List ByteArray} (h:HP os ss.length buf []) (hw:ws.length=8) (hs:L8 ss) (hwk: ∀i,i<8→((wk ws i).used=false→(wk ws i).target=0)∧((wk ws i).used=true→8≤(wk ws i).target∧(wk ws i).target≤7999)):DB ⟨os,ws,buf,ss⟩:=by
 refine ⟨h.ol,hw,hs,fun i hi=> ?_,hwk,fun i hi=>⟨h.blv _ (DV hi),fun hm=> ?_⟩⟩
 ·have ho:=h.obj i hi
  refine ⟨ho.gen,ho.len,fun j hj hne=>ho.lead _ (DV (by have:=ho.len;omega)) hne,ho.dead,fun hv=> ?_⟩
  obtain ⟨a,b,c,d,e,f,g⟩:=ho.lv hv
  refine ⟨a,b,c,d, ?_,f, ?_⟩
  ·have:=RL h.ol hi hv
   simp only at this ⊢
   rw [this,e];simp
  ·simp only
   cases hp:(ob os i).purple with
   | true=>exact (decide_eq_true (g.1 hp)).symm
   | false=>exact (decide_eq_false fun hm=>by have:=g.2 hm;rw [hp] at this;cases this).symm
 ·have hi:i<buf.length:=hi
  have hnd:=List.pairwise_iff_getElem.1 h.bnd
  obtain ⟨j,hj,he⟩:=List.mem_take_iff_getElem.1 hm
  have hj2:j<i:=by omega
  exact hnd j i (by omega) hi hj2 (by rw [he,EE hi])
theorem IX {id:Int} {o:AU} (h:o.live=true):M7 id o=o.field.count id:=by unfold M7;rw [if_pos h]
theorem O9 {id:Int} {o:AU} (h:o.live=false):M7 id o=0:=by unfold M7;rw [if_neg (by rw [h];decide)]
theorem mY {l:List Nat} {x:Nat} (h:x∈l):x≤l.sum:=by
 induction l with
 | nil=>simp at h
 | cons y l ih=>
   rw [List.sum_cons]
   rcases List.mem_cons.1 h with rfl | h
   ·omega
   ·have:=ih h;omega
theorem UQ {os:List AU} {id:Int} (h:CD os id=0) {i:Nat} (hi:i<os.length) (hv:(ob os i).live=true):id∉(ob os i).field:=by
 intro hm
 have h1:M7 id (ob os i)≤CD os id:=by
  unfold CD
  rw [←DH hi]
  exact mY (List.mem_map.2 ⟨_,List.getElem_mem hi,rfl⟩)
 rw [IX hv] at h1
 have:=List.count_pos_iff.2 hm
 omega
section
variable {os:List AU} {ns:Nat} {buf pd:List Int} {k:Nat} {id:Int}
theorem HP.at (h:HP os ns buf (id::pd)) (hk:AB os id=(k:Int)):k<8∧(ob os k).live=true∧id=CM k (ob os k).gen∧1≤(ob os k).gen∧(ob os k).gen≤999∧8≤id∧(ob os k).count=(ob os k).holds+(ob os k).roots+CD os id+pd.count id+1∧1≤(ob os k).count∧F64 (ob os k).count:=by
 have hb:=BN (l:=os) (id:=id) (by omega)
 have e:(AB os id).toNat=k:=by omega
 rw [e] at hb
 have ho:=h.obj k hb.2.2.2.1
 obtain ⟨g1,_,g3,g4,g5,g6,_⟩:=ho.lv hb.2.2.2.2.1
 have hid:=MO hk g1 ho.gen.2
 rw [←hid,List.count_cons_self] at g5
 have:=ho.cb
 exact ⟨hb.2.2.2.1,hb.2.2.2.2.1,hid,g1,ho.gen.2,hb.2.1,by rw [g5];omega,g6,⟨by omega,by omega⟩⟩
theorem ZF {i:Nat} {g g':Int} (hi:i<8) (hk:k<8) (h1:1≤g) (h2:g≤999) (h3:1≤g') (h4:g'≤999) (h:i≠k):CM i g≠CM k g':=by
 rw [HK hi h1 h2,HK hk h3 h4];omega
theorem HP.dec (h:HP os ns buf (id::pd)) (hk:AB os id=(k:Int)) {v:AU} {buf':List Int} (v1:v.live=(ob os k).live) (v2:v.gen=(ob os k).gen) (v3:v.site=(ob os k).site) (v4:v.holds=(ob os k).holds) (v5:v.roots=(ob os k).roots) (v6:v.field=(ob os k).field) (vc:v.count=(ob os k).count-1) (vp:1≤v.count) (hb: ∀x,x≠id→(x∈buf'↔x∈buf)) (hp:v.purple=true↔id∈buf') (hn:buf'.Nodup):HP (os.set k v) ns buf' pd:=by
 obtain ⟨k8,kv,kid,kg1,kg2,kid8,kc,kc1,_⟩:=h.at hk
 have hol:=h.ol
 have hkl:k<os.length:=by omega
 have same: ∀i,i<(os.set k v).length→(ob (os.set k v) i).live=(ob os i).live∧(ob (os.set k v) i).gen=(ob os i).gen:=fun i hi=>by
  rw [FQ hkl];split
  ·rename_i he;subst he;exact ⟨v1,v2⟩
  ·exact ⟨rfl,rfl⟩
 have sl: ∀x,AB (os.set k v) x=AB os x:=fun x=>GC (by simp) same
 have ed: ∀x,CD (os.set k v) x=CD os x:=fun x=>O1 (by simp) fun i hi=>by
  rw [FQ hkl];split
  ·rename_i he;subst he;exact ⟨v1,v6⟩
  ·exact ⟨rfl,rfl⟩
 refine ⟨by simpa using hol,fun i hi=> ?_,hn,fun x hx=> ?_,fun x hx=>by rw [sl];exact h.pd x (by simp [hx])⟩
 ·have ho:=h.obj i hi
  by_cases hik:i=k
  ·subst hik
   have e:ob (os.set i v) i=v:=by rw [FQ hkl,if_pos rfl]
   obtain ⟨g1,g2,g3,g4,g5,g6,g7⟩:=ho.lv kv
   refine ⟨by rw [e,v2];exact ho.gen,by rw [e,v6];exact ho.len,by rw [e,vc];have:=ho.cb;omega,fun f hf hne=> ?_,fun hd=> ?_,fun _=> ?_⟩
   ·rw [e,v6] at hf;rw [e,v1,sl];exact ho.lead f hf hne
   ·rw [e,v1,kv] at hd;cases hd
   ·rw [e,v2,v3,v4,v5,ed, ←kid]
    exact ⟨g1,g2,g3,g4,by rw [vc];omega,vp,hp⟩
  ·have e:ob (os.set k v) i=ob os i:=by rw [FQ hkl,if_neg hik]
   refine ⟨by rw [e];exact ho.gen,by rw [e];exact ho.len,by rw [e];exact ho.cb,fun f hf hne=> ?_,fun hd=> ?_,fun hv=> ?_⟩
   ·rw [e] at hf;rw [e,sl];exact ho.lead f hf hne
   ·rw [e] at hd ⊢;exact ho.dead hd
   ·rw [e] at hv ⊢
    obtain ⟨g1,g2,g3,g4,g5,g6,g7⟩:=ho.lv hv
    have hne:CM i (ob os i).gen≠id:=by rw [kid];exact ZF hi k8 g1 ho.gen.2 kg1 kg2 hik
    rw [List.count_cons_of_ne (Ne.symm hne)] at g5
    exact ⟨g1,g2,g3,g4,by rw [ed];exact g5,g6,g7.trans (hb _ hne).symm⟩
 ·rw [sl]
  by_cases hxi:x=id
  ·subst hxi;omega
  ·exact h.blv x ((hb x hxi).1 hx)
theorem HP.free (h:HP os ns buf (id::pd)) (hk:AB os id=(k:Int)) (hc:(ob os k).count≤1):HP (os.set k (B4 (ob os k).gen)) ns (buf.filter fun x=>decide (x≠id)) (pd++(ob os k).field.filter fun x=>decide (0≤x)):=by
 obtain ⟨k8,kv,kid,kg1,kg2,kid8,kc,kc1,_⟩:=h.at hk
 have hol:=h.ol
 have hkl:k<os.length:=by omega
 have hok:=h.obj k k8
 obtain ⟨_,_,hh,hr,_,_,_⟩:=hok.lv kv
 have e0:CD os id=0:=by omega
 have p0:pd.count id=0:=by omega
 have hnf: ∀i,i<8→(ob os i).live=true→id∉(ob os i).field:=fun i hi hv=>UQ e0 (by omega) hv
 have eo: ∀i,ob (os.set k (B4 (ob os k).gen)) i=if i=k then B4 (ob os k).gen else ob os i:=fun i=>FQ hkl
 have sl: ∀x,x≠id→AB (os.set k (B4 (ob os k).gen)) x=AB os x:=fun x hx=>by
  simp only [AB,List.length_set]
  by_cases h8:x<8∨os.length≠8
  ·rw [if_pos h8,if_pos h8]
  ·rw [if_neg h8,if_neg h8,eo]
   by_cases hxk:(x % 8).toNat=k
   ·rw [if_pos hxk,if_neg (by simp [B4]),if_neg fun hh=> ?_]
    rw [hxk] at hh
    rw [HK k8 kg1 kg2] at kid
    omega
   ·rw [if_neg hxk]
 have ed: ∀x,(CD os x:Int)=CD (os.set k (B4 (ob os k).gen)) x+(ob os k).field.count x:=fun x=>by
  have e:=SS (os:=os) (v:=B4 (ob os k).gen) (id:=x) hkl
  rw [IX kv,O9 (o:=B4 (ob os k).gen) rfl] at e
  omega
 refine ⟨by simpa using hol,fun i hi=> ?_,h.bnd.filter _,fun x hx=> ?_,fun x hx=> ?_⟩
 ·have ho:=h.obj i hi
  by_cases hik:i=k
  ·subst hik
   have e:ob (os.set i (B4 (ob os i).gen)) i=B4 (ob os i).gen:=by rw [eo,if_pos rfl]
   refine ⟨by rw [e];exact ho.gen,by rw [e];rfl,by rw [e];simp [B4],fun f hf hne=> ?_,fun _=>by rw [e];exact ⟨rfl,rfl,rfl,rfl,rfl⟩,fun hv=>by rw [e] at hv;cases hv⟩
   rw [e] at hf
   simp [B4,N9] at hf
   exact absurd hf hne
  ·have e:ob (os.set k (B4 (ob os k).gen)) i=ob os i:=by rw [eo,if_neg hik]
   refine ⟨by rw [e];exact ho.gen,by rw [e];exact ho.len,by rw [e];exact ho.cb,fun f hf hne=> ?_,fun hd=> ?_,fun hv=> ?_⟩
   ·rw [e] at hf
    have hl:=ho.lead f hf hne
    rw [e,sl f fun he=>hnf i hi hl.1 (he ▸ hf)]
    exact hl
   ·rw [e] at hd ⊢;exact ho.dead hd
   ·rw [e] at hv ⊢
    obtain ⟨g1,g2,g3,g4,g5,g6,g7⟩:=ho.lv hv
    have hne:CM i (ob os i).gen≠id:=by rw [kid];exact ZF hi k8 g1 ho.gen.2 kg1 kg2 hik
    rw [List.count_cons_of_ne (Ne.symm hne),ed] at g5
    have hpos:0≤CM i (ob os i).gen:=by rw [HK hi g1 ho.gen.2];omega
    have ef:((ob os k).field.filter fun x=>decide (0≤x)).count (CM i (ob os i).gen)=(ob os k).field.count (CM i (ob os i).gen):=List.count_filter (by simpa using hpos)
    refine ⟨g1,g2,g3,g4,by rw [List.count_append,ef];omega,g6,g7.trans ?_⟩
    simp [List.mem_filter,hne]
 ·obtain ⟨h1,h2⟩:=List.mem_filter.1 hx
  have hne:x≠id:=by simpa using h2
  rw [sl x hne];exact h.blv x h1
 ·rcases List.mem_append.1 hx with hx | hx
  ·have hne:x≠id:=fun he=>by
    subst he
    have:=List.count_pos_iff.2 hx
    omega
   rw [sl x hne];exact h.pd x (by simp [hx])
  ·obtain ⟨h1,h2⟩:=List.mem_filter.1 hx
   have h2:0≤x:=by simpa using h2
   rw [sl x fun he=>hnf k k8 kv (he ▸ h1)]
   exact (hok.lead x h1 (by omega)).2
end
def lvs (os:List AU):Nat:=os.countP (·.live)
theorem TT {os:List AU} {k:Nat} (hk:k<os.length) (kv:(ob os k).live=true) (v:AU):lvs (os.set k v)+1=lvs os+if v.live=true then 1 else 0:=by
 unfold lvs
 have e:=List.countP_set (p:=fun o:AU=>o.live) (a:=v) hk
 have hp:0<os.countP (fun o:AU=>o.live):=List.countP_pos_iff.2 ⟨os[k],List.getElem_mem hk,by rw [DH hk];exact kv⟩
 rw [e,DH hk,kv]
 simp only [if_true]
 omega
theorem dN {os:List AU} (h:os.length=8):lvs os≤8:=by
 have:=List.countP_le_length (p:=fun o:AU=>o.live) (l:=os)
 unfold lvs;omega
theorem HP.vA {ns:Nat}: ∀(f:Nat) {os:List AU} {buf todo freed:List Int},HP os ns buf todo→freed.length+lvs os≤8→todo.length+4*lvs os<f→HP (JJ f os buf freed todo).1 ns (JJ f os buf freed todo).2.1 []:=by
 intro f
 induction f with
 | zero=>intro os buf todo freed _ _ h;omega
 | succ f ih=>
   intro os buf todo freed h h8 hf
   cases todo with
   | nil=>exact h
   | cons id pd=>
     have hs:=h.pd id (by simp)
     obtain ⟨k,hk⟩: ∃k:Nat,AB os id=(k:Int):=⟨(AB os id).toNat,by omega⟩
     obtain ⟨k8,kv,kid,kg1,kg2,kid8,kc,kc1,kF⟩:=h.at hk
     have hkl:k<os.length:=by have:=h.ol;omega
     simp only [JJ,hk,Int.toNat_natCast]
     rw [if_neg (by omega),if_neg (by omega)]
     have ew:w64 ((ob os k).count-1)=(ob os k).count-1:=KF ⟨by omega,by have:=kF.2;omega⟩
     rw [ew]
     have lset:=TT hkl kv
     have lvd: ∀v:AU,v.live=true→lvs (os.set k v)=lvs os:=fun v hv=>by
      have:=lset v
      rw [if_pos hv] at this;omega
     simp only [List.length_cons] at hf
     by_cases hc:(ob os k).count-1>0
     ·rw [if_pos hc]
      have hpk:=((h.obj k k8).lv kv).2.2.2.2.2.2
      rw [←kid] at hpk
      by_cases hp:(ob os k).purple=true
      ·rw [if_pos hp]
       exact ih (h.dec hk rfl rfl rfl rfl rfl rfl rfl (by simp only;omega) (fun x _=>Iff.rfl) hpk h.bnd) (by rw [lvd] <;> first | omega | exact kv) (by rw [lvd] <;> first | omega | exact kv)
      ·rw [if_neg hp]
       have hni:id∉buf:=fun hm=>hp (hpk.2 hm)
       exact ih (h.dec hk rfl rfl rfl rfl rfl rfl rfl (by simp only;omega) (fun x hx=>by simp [hx]) (by simp) (List.nodup_append.2 ⟨h.bnd,by simp,fun a ha b hb=>by
        have hb:b=id:=by simpa using hb
        subst hb;intro he;exact hni (he ▸ ha)⟩)) (by rw [lvd] <;> first | omega | exact kv) (by rw [lvd] <;> first | omega | exact kv)
     ·rw [if_neg hc]
      have hl:=lset (B4 (ob os k).gen)
      rw [if_neg (by simp [B4])] at hl
      have hfl:=List.length_filter_le (fun x=>decide (0≤x)) (ob os k).field
      rw [(h.obj k k8).len] at hfl
      exact ih (h.free hk (by omega)) (by rw [List.length_append,List.length_singleton];omega) (by rw [List.length_append];omega)
theorem HP.HD {ns:Nat} {os:List AU} {buf:List Int} {x:Int} (h:HP os ns buf [x]):HP (HD os buf [x]).1 ns (HD os buf [x]).2.1 []:=by
 have hol:=h.ol
 have:=dN hol
 exact HP.vA _ h (by simp only [List.length_nil];omega) (by simp only [List.length_singleton];omega)
end Go.Proofs.Ytklmcfpgdfibnaa.P
