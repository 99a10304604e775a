/- A part of the proof. -/
import Derived.Test.YtklmcfpgdfibnaaWaWireH
import Derived.Test.YtklmcfpgdfibnaaWaRowO
import Derived.Test.YtklmcfpgdfibnaaWaTxtH
namespace Go.Proofs.Ytklmcfpgdfibnaa.P
open Go Go.Proofs.Ytklmcfpgdfibnaa Go.Proofs.Ytklmcfpgdfibnaa.Eng
set_option maxHeartbeats 4000000
set_option linter.unusedVariables false
set_option linter.unusedSimpArgs false
attribute [local irreducible] prP gP gE gF AX ixW ldc ldg ldl stc stg scW mkW apW BE cl2 BK C2 CI
variable {w0:World}
end Go.Proofs.Ytklmcfpgdfibnaa.P
namespace Go.Proofs.Ytklmcfpgdfibnaa.P
open Go Go.Proofs.Ytklmcfpgdfibnaa Go.Proofs.Ytklmcfpgdfibnaa.Eng
set_option maxHeartbeats 4000000
set_option linter.unusedVariables false
set_option linter.unusedSimpArgs false
attribute [local irreducible] prP gP gE gF AX ixW ldc ldg ldl stc stg scW mkW apW BE cl2 BK C2 CI
variable {w0:World}
theorem lQ (n:Int) (l:List ByteArray) (s:ByteArray):(LU n l s).a.freed.length≤8∧(LU n l s).sites.length≤l.length+1∧(LU n l s).o.site.size≤s.size+8:=by
 unfold LU
 split
 ·exact ⟨Nat.zero_le _,Nat.le_succ _,Nat.zero_le _⟩
 ·rename_i e he
  split
  ·rename_i hok
   have h1:=UX n l e.1 e.2
   refine ⟨?_,h1.2, ?_⟩
   ·rcases Nat.lt_or_ge 8 e.2.freed.length with h | h
    ·exact absurd (eS h) hok.1
    ·exact h
   ·have hne:=hok.1
    rw [J6,gT] at hne
    split at hne
    ·rename_i hk
     simp only [okE,sN,Bool.and_eq_true,decide_eq_true_eq] at hk
     simp only;omega
    ·exact absurd rfl hne
  ·exact ⟨Nat.zero_le _,Nat.le_succ _,Nat.zero_le _⟩
structure xV (n:Int) (l:List ByteArray):Prop where
 n:F64 n
 len:(l.length:Int)<2^63
 all: ∀s∈l,(s.size:Int)<2^63
def dcd (ps:List ByteArray):Nat→Option (List Op5×List An×Int×List ByteArray)
 | 0=>some ([],[],0,[])
 | i+1=>match dcd ps i with
   | none=>none
   | some q=>if (LU q.2.2.1 q.2.2.2 (gS ps i)).ok=true then some (q.1++[(LU q.2.2.1 q.2.2.2 (gS ps i)).o],q.2.1++[(LU q.2.2.1 q.2.2.2 (gS ps i)).a],(LU q.2.2.1 q.2.2.2 (gS ps i)).last,(LU q.2.2.1 q.2.2.2 (gS ps i)).sites) else none
structure DcI (ps:List ByteArray) (q:Nat×List Op5×List An×Int×List ByteArray):Prop where
 eq:dcd ps q.1=some q.2
 le:q.1≤ps.length
 ol:q.2.1.length=q.1
 al:q.2.2.1.length=q.1
 sl:q.2.2.2.2.length≤q.1
 fr: ∀a∈q.2.2.1,a.freed.length≤8
theorem DcI.next {ps:List ByteArray} {q:Nat×List Op5×List An×Int×List ByteArray} (h:DcI ps q) (hlt:q.1<ps.length) (hok:(LU q.2.2.2.1 q.2.2.2.2 (gS ps q.1)).ok=true):
  DcI ps (q.1+1,q.2.1++[(LU q.2.2.2.1 q.2.2.2.2 (gS ps q.1)).o],q.2.2.1++[(LU q.2.2.2.1 q.2.2.2.2 (gS ps q.1)).a],(LU q.2.2.2.1 q.2.2.2.2 (gS ps q.1)).last,(LU q.2.2.2.1 q.2.2.2.2 (gS ps q.1)).sites):=by
 obtain ⟨h1,h2,h3,h4,h5,h6⟩:=h
 have hb:=lQ q.2.2.2.1 q.2.2.2.2 (gS ps q.1)
 refine ⟨by rw [dcd,h1];exact if_pos hok,hlt,by simp [h3],by simp [h4],by simp only;omega,fun a ha=> ?_⟩
 rcases List.mem_append.1 ha with ha | ha
 ·exact h6 a ha
 ·rw [List.mem_singleton.1 ha];exact hb.1
theorem DcI.zero (ps:List ByteArray):DcI ps (0,[],[],0,[]):=⟨rfl,Nat.zero_le _,rfl,rfl,Nat.le_refl _,by simp⟩
theorem qD (l:List Op5) (x:Op5):tR tP l++[T.c (I x.kind), .c (I x.a), .c (I x.b), .c (I x.c), .c (.string x.site)]=tR tP (l++[x]):=YE l x
theorem pF (l:List An) (x:An):tR tA l++[T.c (I x.code), .c (I x.val), .l 1 (tI x.freed)]=tR tA (l++[x]):=YE l x
end Go.Proofs.Ytklmcfpgdfibnaa.P
namespace Go.Proofs.Ytklmcfpgdfibnaa.P
open Go Go.Proofs.Ytklmcfpgdfibnaa Go.Proofs.Ytklmcfpgdfibnaa.Eng
set_option linter.unusedVariables false
set_option maxHeartbeats 4000000
set_option linter.unusedVariables false
set_option linter.unusedSimpArgs false
attribute [local irreducible] prP gP gE gF AX ixW ldc ldg ldl stc stg scW mkW apW BE cl2 BK C2 CI
variable {w0:World}
structure Small (h:Hp) (a:An):Prop where
 fits:Fits h
 fr:a.freed.length≤9
theorem OF.holds {o:AE} {v:Int} (h:OF o):OF {o with holds:=v}:=⟨h.gen,h.len,h.fld⟩
theorem OF.roots {o:AE} {v:Int} (h:OF o):OF {o with roots:=v}:=⟨h.gen,h.len,h.fld⟩
theorem nV {os:List AE} {ws:List Wk} {id:Int}:(OK os ws id).1.length=ws.length∧(OK os ws id).2.freed=[]:=by
 unfold OK
 split
 ·exact ⟨rfl,rfl⟩
 ·split
  ·exact ⟨rfl,rfl⟩
  ·exact ⟨by simp,rfl⟩
theorem c8 {os:List AE} {ws:List Wk} {kd k:Int}:(IV os ws kd k).1.length=ws.length∧(IV os ws kd k).2.freed=[]:=by
 unfold IV
 split
 ·exact ⟨rfl,rfl⟩
 ·split
  ·exact ⟨rfl,rfl⟩
  ·split
   ·exact ⟨by simp,rfl⟩
   ·split
    ·exact ⟨rfl,rfl⟩
    ·exact ⟨rfl,rfl⟩
end Go.Proofs.Ytklmcfpgdfibnaa.P
namespace Go.Proofs.Ytklmcfpgdfibnaa.P
open Go Go.Proofs.Ytklmcfpgdfibnaa Go.Proofs.Ytklmcfpgdfibnaa.Eng
set_option linter.unusedVariables false
theorem F4 {k:Nat} {g:Int} (hk:k<8) (h1:1≤g) (h2:g≤999):B6 k g=k+8*g:=by unfold B6;rw [if_pos ⟨⟨by omega,by omega⟩,h1,h2⟩]
theorem EZ {os:List AE} {k:Nat} (hol:os.length=8) (hk:k<8) (hv:(ob os k).live=true) (h1:1≤(ob os k).gen) (h2:(ob os k).gen≤999):AA os (B6 k (ob os k).gen)=k:=by
 rw [F4 hk h1 h2]
 have e1:((k:Int)+8*(ob os k).gen) % 8=k:=by omega
 have e2:((k:Int)+8*(ob os k).gen)/8=(ob os k).gen:=by omega
 have e3:(((k:Int)+8*(ob os k).gen) % 8).toNat=k:=by omega
 rw [HC (by omega) hol (by omega) (by rw [e3];exact hv) (by rw [e3,e2]),e1]
theorem M8 {os:List AE} {k:Nat} {x:Int} (h:AA os x=(k:Int)) (h1:1≤(ob os k).gen) (h2:(ob os k).gen≤999):x=B6 k (ob os k).gen:=by
 have hb:=BF (l:=os) (id:=x) (by omega)
 have e:(AA os x).toNat=k:=by omega
 rw [e] at hb
 rw [F4 (by omega) h1 h2];omega
theorem EE {a b:List AE} {x:Int} (hl:a.length=b.length) (h: ∀i,i<a.length→(ob a i).live=(ob b i).live∧(ob a i).gen=(ob b i).gen):AA a x=AA b x:=by
 simp only [AA,hl]
 by_cases hx:x<8∨b.length≠8
 ·rw [if_pos hx,if_pos hx]
 ·rw [if_neg hx,if_neg hx]
  have:=h (x % 8).toNat (by omega)
  rw [this.1,this.2]
theorem PC {os:List AE} {k:Nat} {v:AE} {id:Int} (hk:k<os.length):CD (os.set k v) id+KW id (ob os k)=CD os id+KW id v:=by
 unfold CD
 rw [List.map_set]
 have hk':k<(os.map (KW id)).length:=by simpa using hk
 have e:ob os k=os[k]:=(DC hk).symm
 have h1: ∀(l:List Nat) (k v:Nat) (hk:k<l.length),(l.set k v).sum+l[k]=l.sum+v:=by
  intro l
  induction l with
  | nil=>intro k v hk;simp at hk
  | cons x l ih=>
    intro k v hk
    cases k with
    | zero=>simp;omega
    | succ k=>
      have:=ih k v (by simpa using hk)
      simp only [List.set_cons_succ,List.sum_cons,List.getElem_cons_succ];omega
 have:=h1 (os.map (KW id)) k (KW id v) hk'
 rw [List.getElem_map] at this
 rw [e];exact this
structure xF (os:List AE) (ns:Nat) (buf pd:List Int) (i:Nat):Prop where
 gen:0≤(ob os i).gen∧(ob os i).gen≤999
 len:(ob os i).field.length=3
 cb:(ob os i).count≤1000
 lead: ∀f∈(ob os i).field,f≠ -1→(ob os i).live=true∧0≤AA os f
 dead:(ob os i).live=false→(ob os i).site=0∧(ob os i).holds=0∧(ob os i).roots=0∧(ob os i).count=0∧(ob os i).purple=false
 lv:(ob os i).live=true→1≤(ob os i).gen∧(0≤(ob os i).site∧(ob os i).site≤(ns:Int)-1)∧(0≤(ob os i).holds∧(ob os i).holds≤20)∧(0≤(ob os i).roots∧(ob os i).roots≤20)∧
  (ob os i).count=(ob os i).holds+(ob os i).roots+CD os (B6 i (ob os i).gen)+pd.count (B6 i (ob os i).gen)∧1≤(ob os i).count∧((ob os i).purple=true↔B6 i (ob os i).gen∈buf)
structure HP (os:List AE) (ns:Nat) (buf pd:List Int):Prop where
 ol:os.length=8
 obj: ∀i,i<8→xF os ns buf pd i
 bnd:buf.Nodup
 blv: ∀x∈buf,0≤AA os x
 pd: ∀x∈pd,0≤AA os x
theorem Q4 {os:List AE} {i:Nat} (hol:os.length=8) (hi:i<8) (hv:(ob os i).live=true):inE os i=CD os (B6 i (ob os i).gen):=by
 unfold inE
 rw [if_pos ⟨⟨by omega,by omega⟩,by rw [Int.toNat_natCast];exact hv⟩,Int.toNat_natCast]
theorem BW.hp {h:Hp} (hk:BW h):HP h.AB h.sites.length h.buffer []:=by
 refine ⟨hk.ol,fun i hi=> ?_,hk.bnd,fun x hx=>hk.U8 hx,by simp⟩
 have ho:=hk.obj i hi
 refine ⟨ho.gen,ho.len, ?_,fun f hf hne=> ?_,ho.dead,fun hv=> ?_⟩
 ·cases hv:(ob h.AB i).live with
  | false=>have:=ho.dead hv;omega
  | true=>
    have hed:=OQ (l:=h.AB) (id:=B6 i (ob h.AB i).gen) (b:=3) fun o ho'=>by
     obtain ⟨j,hj,rfl⟩:=List.getElem_of_mem ho'
     rw [DC hj,(hk.obj j (by have:=hk.ol;omega)).len];omega
    have e:=(ho.lv hv).2.2.2.2.1
    rw [Q4 hk.ol hi hv] at e
    have:=(ho.lv hv).2.2.1;have:=(ho.lv hv).2.2.2.1
    have hol:=hk.ol
    omega
 ·obtain ⟨j,hj,rfl⟩:=List.getElem_of_mem hf
  rw [DB hj] at hne ⊢
  exact ho.lead j (by have:=ho.len;omega) hne
 ·obtain ⟨a,b,c,d,e,f,g⟩:=ho.lv hv
  rw [Q4 hk.ol hi hv] at e
  refine ⟨a,b,c,d,by rw [e];simp,f,by rw [g];simp⟩
theorem HP.ok {os:List AE} {buf:List Int} {ws:List Wk} {ss:List ByteArray} (h:HP os ss.length buf []) (hw:ws.length=8) (hs:LY ss) (hwk: ∀i,i<8→((wk ws i).used=false→(wk ws i).target=0)∧((wk ws i).used=true→8≤(wk ws i).target∧(wk ws i).target≤7999)):BW ⟨os,ws,buf,ss⟩:=by
 refine ⟨h.ol,hw,hs,fun i hi=> ?_,hwk,fun i hi=>⟨h.blv _ (C7 hi),fun hm=> ?_⟩⟩
 ·have ho:=h.obj i hi
  refine ⟨ho.gen,ho.len,fun j hj hne=>ho.lead _ (C7 (by have:=ho.len;omega)) hne,ho.dead,fun hv=> ?_⟩
  obtain ⟨a,b,c,d,e,f,g⟩:=ho.lv hv
  refine ⟨a,b,c,d, ?_,f, ?_⟩
  ·have:=Q4 h.ol hi hv
   simp only at this ⊢
   rw [this,e];simp
  ·simp only
   cases hp:(ob os i).purple with
   | true=>exact (decide_eq_true (g.1 hp)).symm
   | false=>exact (decide_eq_false fun hm=>by have:=g.2 hm;rw [hp] at this;cases this).symm
 ·have hi:i<buf.length:=hi
  have hnd:=List.pairwise_iff_getElem.1 h.bnd
  obtain ⟨j,hj,he⟩:=List.mem_take_iff_getElem.1 hm
  have hj2:j<i:=by omega
  exact hnd j i (by omega) hi hj2 (by rw [he,DB hi])
theorem ID {id:Int} {o:AE} (h:o.live=true):KW id o=o.field.count id:=by unfold KW;rw [if_pos h]
theorem PE {id:Int} {o:AE} (h:o.live=false):KW id o=0:=by unfold KW;rw [if_neg (by rw [h];decide)]
theorem kO {l:List Nat} {x:Nat} (h:x∈l):x≤l.sum:=by
 induction l with
 | nil=>simp at h
 | cons y l ih=>
   rw [List.sum_cons]
   rcases List.mem_cons.1 h with rfl | h
   ·omega
   ·have:=ih h;omega
theorem VM {os:List AE} {id:Int} (h:CD os id=0) {i:Nat} (hi:i<os.length) (hv:(ob os i).live=true):id∉(ob os i).field:=by
 intro hm
 have h1:KW id (ob os i)≤CD os id:=by
  unfold CD
  rw [←DC hi]
  exact kO (List.mem_map.2 ⟨_,List.getElem_mem hi,rfl⟩)
 rw [ID hv] at h1
 have:=List.count_pos_iff.2 hm
 omega
section
variable {os:List AE} {ns:Nat} {buf pd:List Int} {k:Nat} {id:Int}
theorem HP.at (h:HP os ns buf (id::pd)) (hk:AA os id=(k:Int)):k<8∧(ob os k).live=true∧id=B6 k (ob os k).gen∧1≤(ob os k).gen∧(ob os k).gen≤999∧8≤id∧(ob os k).count=(ob os k).holds+(ob os k).roots+CD os id+pd.count id+1∧1≤(ob os k).count∧F64 (ob os k).count:=by
 have hb:=BF (l:=os) (id:=id) (by omega)
 have e:(AA os id).toNat=k:=by omega
 rw [e] at hb
 have ho:=h.obj k hb.2.2.2.1
 obtain ⟨g1,_,g3,g4,g5,g6,_⟩:=ho.lv hb.2.2.2.2.1
 have hid:=M8 hk g1 ho.gen.2
 rw [←hid,List.count_cons_self] at g5
 have:=ho.cb
 exact ⟨hb.2.2.2.1,hb.2.2.2.2.1,hid,g1,ho.gen.2,hb.2.1,by rw [g5];omega,g6,⟨by omega,by omega⟩⟩
theorem ZR {i:Nat} {g g':Int} (hi:i<8) (hk:k<8) (h1:1≤g) (h2:g≤999) (h3:1≤g') (h4:g'≤999) (h:i≠k):B6 i g≠B6 k g':=by
 rw [F4 hi h1 h2,F4 hk h3 h4];omega
theorem HP.dec (h:HP os ns buf (id::pd)) (hk:AA os id=(k:Int)) {v:AE} {buf':List Int} (v1:v.live=(ob os k).live) (v2:v.gen=(ob os k).gen) (v3:v.site=(ob os k).site) (v4:v.holds=(ob os k).holds) (v5:v.roots=(ob os k).roots) (v6:v.field=(ob os k).field) (vc:v.count=(ob os k).count-1) (vp:1≤v.count) (hb: ∀x,x≠id→(x∈buf'↔x∈buf)) (hp:v.purple=true↔id∈buf') (hn:buf'.Nodup):HP (os.set k v) ns buf' pd:=by
 obtain ⟨k8,kv,kid,kg1,kg2,kid8,kc,kc1,_⟩:=h.at hk
 have hol:=h.ol
 have hkl:k<os.length:=by omega
 have same: ∀i,i<(os.set k v).length→(ob (os.set k v) i).live=(ob os i).live∧(ob (os.set k v) i).gen=(ob os i).gen:=fun i hi=>by
  rw [DY hkl];split
  ·rename_i he;subst he;exact ⟨v1,v2⟩
  ·exact ⟨rfl,rfl⟩
 have sl: ∀x,AA (os.set k v) x=AA os x:=fun x=>EE (by simp) same
 have ed: ∀x,CD (os.set k v) x=CD os x:=fun x=>OA (by simp) fun i hi=>by
  rw [DY hkl];split
  ·rename_i he;subst he;exact ⟨v1,v6⟩
  ·exact ⟨rfl,rfl⟩
 refine ⟨by simpa using hol,fun i hi=> ?_,hn,fun x hx=> ?_,fun x hx=>by rw [sl];exact h.pd x (by simp [hx])⟩
 ·have ho:=h.obj i hi
  by_cases hik:i=k
  ·subst hik
   have e:ob (os.set i v) i=v:=by rw [DY hkl,if_pos rfl]
   obtain ⟨g1,g2,g3,g4,g5,g6,g7⟩:=ho.lv kv
   refine ⟨by rw [e,v2];exact ho.gen,by rw [e,v6];exact ho.len,by rw [e,vc];have:=ho.cb;omega,fun f hf hne=> ?_,fun hd=> ?_,fun _=> ?_⟩
   ·rw [e,v6] at hf;rw [e,v1,sl];exact ho.lead f hf hne
   ·rw [e,v1,kv] at hd;cases hd
   ·rw [e,v2,v3,v4,v5,ed, ←kid]
    exact ⟨g1,g2,g3,g4,by rw [vc];omega,vp,hp⟩
  ·have e:ob (os.set k v) i=ob os i:=by rw [DY hkl,if_neg hik]
   refine ⟨by rw [e];exact ho.gen,by rw [e];exact ho.len,by rw [e];exact ho.cb,fun f hf hne=> ?_,fun hd=> ?_,fun hv=> ?_⟩
   ·rw [e] at hf;rw [e,sl];exact ho.lead f hf hne
   ·rw [e] at hd ⊢;exact ho.dead hd
   ·rw [e] at hv ⊢
    obtain ⟨g1,g2,g3,g4,g5,g6,g7⟩:=ho.lv hv
    have hne:B6 i (ob os i).gen≠id:=by rw [kid];exact ZR hi k8 g1 ho.gen.2 kg1 kg2 hik
    rw [List.count_cons_of_ne (Ne.symm hne)] at g5
    exact ⟨g1,g2,g3,g4,by rw [ed];exact g5,g6,g7.trans (hb _ hne).symm⟩
 ·rw [sl]
  by_cases hxi:x=id
  ·subst hxi;omega
  ·exact h.blv x ((hb x hxi).1 hx)
theorem HP.free (h:HP os ns buf (id::pd)) (hk:AA os id=(k:Int)) (hc:(ob os k).count≤1):HP (os.set k (B8 (ob os k).gen)) ns (buf.filter fun x=>decide (x≠id)) (pd++(ob os k).field.filter fun x=>decide (0≤x)):=by
 obtain ⟨k8,kv,kid,kg1,kg2,kid8,kc,kc1,_⟩:=h.at hk
 have hol:=h.ol
 have hkl:k<os.length:=by omega
 have hok:=h.obj k k8
 obtain ⟨_,_,hh,hr,_,_,_⟩:=hok.lv kv
 have e0:CD os id=0:=by omega
 have p0:pd.count id=0:=by omega
 have hnf: ∀i,i<8→(ob os i).live=true→id∉(ob os i).field:=fun i hi hv=>VM e0 (by omega) hv
 have eo: ∀i,ob (os.set k (B8 (ob os k).gen)) i=if i=k then B8 (ob os k).gen else ob os i:=fun i=>DY hkl
 have sl: ∀x,x≠id→AA (os.set k (B8 (ob os k).gen)) x=AA os x:=fun x hx=>by
  simp only [AA,List.length_set]
  by_cases h8:x<8∨os.length≠8
  ·rw [if_pos h8,if_pos h8]
  ·rw [if_neg h8,if_neg h8,eo]
   by_cases hxk:(x % 8).toNat=k
   ·rw [if_pos hxk,if_neg (by simp [B8]),if_neg fun hh=> ?_]
    rw [hxk] at hh
    rw [F4 k8 kg1 kg2] at kid
    omega
   ·rw [if_neg hxk]
 have ed: ∀x,(CD os x:Int)=CD (os.set k (B8 (ob os k).gen)) x+(ob os k).field.count x:=fun x=>by
  have e:=PC (os:=os) (v:=B8 (ob os k).gen) (id:=x) hkl
  rw [ID kv,PE (o:=B8 (ob os k).gen) rfl] at e
  omega
 refine ⟨by simpa using hol,fun i hi=> ?_,h.bnd.filter _,fun x hx=> ?_,fun x hx=> ?_⟩
 ·have ho:=h.obj i hi
  by_cases hik:i=k
  ·subst hik
   have e:ob (os.set i (B8 (ob os i).gen)) i=B8 (ob os i).gen:=by rw [eo,if_pos rfl]
   refine ⟨by rw [e];exact ho.gen,by rw [e];rfl,by rw [e];simp [B8],fun f hf hne=> ?_,fun _=>by rw [e];exact ⟨rfl,rfl,rfl,rfl,rfl⟩,fun hv=>by rw [e] at hv;cases hv⟩
   rw [e] at hf
   simp [B8,P2] at hf
   exact absurd hf hne
  ·have e:ob (os.set k (B8 (ob os k).gen)) i=ob os i:=by rw [eo,if_neg hik]
   refine ⟨by rw [e];exact ho.gen,by rw [e];exact ho.len,by rw [e];exact ho.cb,fun f hf hne=> ?_,fun hd=> ?_,fun hv=> ?_⟩
   ·rw [e] at hf
    have hl:=ho.lead f hf hne
    rw [e,sl f fun he=>hnf i hi hl.1 (he ▸ hf)]
    exact hl
   ·rw [e] at hd ⊢;exact ho.dead hd
   ·rw [e] at hv ⊢
    obtain ⟨g1,g2,g3,g4,g5,g6,g7⟩:=ho.lv hv
    have hne:B6 i (ob os i).gen≠id:=by rw [kid];exact ZR hi k8 g1 ho.gen.2 kg1 kg2 hik
    rw [List.count_cons_of_ne (Ne.symm hne),ed] at g5
    have hpos:0≤B6 i (ob os i).gen:=by rw [F4 hi g1 ho.gen.2];omega
    have ef:((ob os k).field.filter fun x=>decide (0≤x)).count (B6 i (ob os i).gen)=(ob os k).field.count (B6 i (ob os i).gen):=List.count_filter (by simpa using hpos)
    refine ⟨g1,g2,g3,g4,by rw [List.count_append,ef];omega,g6,g7.trans ?_⟩
    simp [List.mem_filter,hne]
 ·obtain ⟨h1,h2⟩:=List.mem_filter.1 hx
  have hne:x≠id:=by simpa using h2
  rw [sl x hne];exact h.blv x h1
 ·rcases List.mem_append.1 hx with hx | hx
  ·have hne:x≠id:=fun he=>by
    subst he
    have:=List.count_pos_iff.2 hx
    omega
   rw [sl x hne];exact h.pd x (by simp [hx])
  ·obtain ⟨h1,h2⟩:=List.mem_filter.1 hx
   have h2:0≤x:=by simpa using h2
   rw [sl x fun he=>hnf k k8 kv (he ▸ h1)]
   exact (hok.lead x h1 (by omega)).2
end
def lvs (os:List AE):Nat:=os.countP (·.live)
theorem R0 {os:List AE} {k:Nat} (hk:k<os.length) (kv:(ob os k).live=true) (v:AE):lvs (os.set k v)+1=lvs os+if v.live=true then 1 else 0:=by
 unfold lvs
 have e:=List.countP_set (p:=fun o:AE=>o.live) (a:=v) hk
 have hp:0<os.countP (fun o:AE=>o.live):=List.countP_pos_iff.2 ⟨os[k],List.getElem_mem hk,by rw [DC hk];exact kv⟩
 rw [e,DC hk,kv]
 simp only [if_true]
 omega
theorem Y6 {os:List AE} (h:os.length=8):lvs os≤8:=by
 have:=List.countP_le_length (p:=fun o:AE=>o.live) (l:=os)
 unfold lvs;omega
theorem HP.xO {ns:Nat}: ∀(f:Nat) {os:List AE} {buf todo freed:List Int},HP os ns buf todo→freed.length+lvs os≤8→todo.length+4*lvs os<f→HP (HW f os buf freed todo).1 ns (HW f os buf freed todo).2.1 []:=by
 intro f
 induction f with
 | zero=>intro os buf todo freed _ _ h;omega
 | succ f ih=>
   intro os buf todo freed h h8 hf
   cases todo with
   | nil=>exact h
   | cons id pd=>
     have hs:=h.pd id (by simp)
     obtain ⟨k,hk⟩: ∃k:Nat,AA os id=(k:Int):=⟨(AA os id).toNat,by omega⟩
     obtain ⟨k8,kv,kid,kg1,kg2,kid8,kc,kc1,kF⟩:=h.at hk
     have hkl:k<os.length:=by have:=h.ol;omega
     simp only [HW,hk,Int.toNat_natCast]
     rw [if_neg (by omega),if_neg (by omega)]
     have ew:w64 ((ob os k).count-1)=(ob os k).count-1:=I8 ⟨by omega,by have:=kF.2;omega⟩
     rw [ew]
     have lset:=R0 hkl kv
     have lvd: ∀v:AE,v.live=true→lvs (os.set k v)=lvs os:=fun v hv=>by
      have:=lset v
      rw [if_pos hv] at this;omega
     simp only [List.length_cons] at hf
     by_cases hc:(ob os k).count-1>0
     ·rw [if_pos hc]
      have hpk:=((h.obj k k8).lv kv).2.2.2.2.2.2
      rw [←kid] at hpk
      by_cases hp:(ob os k).purple=true
      ·rw [if_pos hp]
       exact ih (h.dec hk rfl rfl rfl rfl rfl rfl rfl (by simp only;omega) (fun x _=>Iff.rfl) hpk h.bnd) (by rw [lvd] <;> first | omega | exact kv) (by rw [lvd] <;> first | omega | exact kv)
      ·rw [if_neg hp]
       have hni:id∉buf:=fun hm=>hp (hpk.2 hm)
       exact ih (h.dec hk rfl rfl rfl rfl rfl rfl rfl (by simp only;omega) (fun x hx=>by simp [hx]) (by simp) (List.nodup_append.2 ⟨h.bnd,by simp,fun a ha b hb=>by
        have hb:b=id:=by simpa using hb
        subst hb;intro he;exact hni (he ▸ ha)⟩)) (by rw [lvd] <;> first | omega | exact kv) (by rw [lvd] <;> first | omega | exact kv)
     ·rw [if_neg hc]
      have hl:=lset (B8 (ob os k).gen)
      rw [if_neg (by simp [B8])] at hl
      have hfl:=List.length_filter_le (fun x=>decide (0≤x)) (ob os k).field
      rw [(h.obj k k8).len] at hfl
      exact ih (h.free hk (by omega)) (by rw [List.length_append,List.length_singleton];omega) (by rw [List.length_append];omega)
theorem HP.FH {ns:Nat} {os:List AE} {buf:List Int} {x:Int} (h:HP os ns buf [x]):HP (FH os buf [x]).1 ns (FH os buf [x]).2.1 []:=by
 have hol:=h.ol
 have:=Y6 hol
 exact HP.xO _ h (by simp only [List.length_nil];omega) (by simp only [List.length_singleton];omega)
end Go.Proofs.Ytklmcfpgdfibnaa.P
namespace Go.Proofs.Ytklmcfpgdfibnaa.P
open Go Go.Proofs.Ytklmcfpgdfibnaa Go.Proofs.Ytklmcfpgdfibnaa.Eng
set_option linter.unusedVariables false
structure lR (os:List AE) (e:Nat):Prop where
 lt:e<8
 lv:(ob os e).live=true
 pos:0<(ob os e).holds+(ob os e).roots
def Cov (os:List AE) (L:List Int) (k:Nat):Prop:=(∃e,lR os e∧Reach os e k)∨ ∃x∈L, ∃s:Nat,AA os x=(s:Int)∧Reach os s k
def Gd (os:List AE) (L:List Int):Prop:= ∀k,k<8→(ob os k).live=true→Cov os L k
theorem Cov.mono {os:List AE} {L L':List Int} {k:Nat} (h: ∀x∈L,0≤AA os x→x∈L'):Cov os L k→Cov os L' k
 | .inl h'=> .inl h'
 | .inr ⟨x,hx,s,hs,hr⟩=> .inr ⟨x,h x hx (by omega),s,hs,hr⟩
theorem Gd.mono {os:List AE} {L L':List Int} (g:Gd os L) (h: ∀x∈L,0≤AA os x→x∈L'):Gd os L':=fun k hk hv=>(g k hk hv).mono h
theorem Reach.live {os:List AE} {s k:Nat} (h:Reach os s k) (hs:s<8∧(ob os s).live=true):k<8∧(ob os k).live=true:=
 h.closed (P:=fun k=>k<8∧(ob os k).live=true) hs fun _ _ _ hj=>⟨(B4 hj).2.1,(B4 hj).2.2.2.2⟩
theorem KL {os:List AE} {x:Int} {s:Nat} (h:AA os x=(s:Int)):s<8∧(ob os s).live=true:=by
 have hb:=BF (l:=os) (id:=x) (by omega)
 have e:(AA os x).toNat=s:=by omega
 rw [e] at hb
 exact ⟨hb.2.2.2.1,hb.2.2.2.2.1⟩
theorem FG {os:List AE} {k:Nat} {x:Int}:x∈BG os k↔0≤x∧ ∃f∈(ob os k).field,AA os f=x:=by
 unfold BG
 simp only [List.mem_filter,List.mem_map,decide_eq_true_eq]
 exact ⟨fun ⟨h1,h2⟩=>⟨h2,h1⟩,fun ⟨h1,h2⟩=>⟨h2,h1⟩⟩
theorem Reach.JL {a b:List AE} {s k:Nat} {P:Nat→Prop} (h:Reach a s k) (hs:P s) (hc: ∀y,P y→ ∀j∈BG a y,j∈BG b y∧P j.toNat):Reach b s k∧P k:=by
 induction h with
 | refl=>exact ⟨.refl,hs⟩
 | step _ hj ih=>
   obtain ⟨h1,h2⟩:=hc _ ih.2 _ hj
   exact ⟨.step ih.1 h1,h2⟩
theorem iT {a b:List AE} (hl:a.length=b.length) (h: ∀i,(ob a i).live=(ob b i).live∧(ob a i).gen=(ob b i).gen∧(ob a i).field=(ob b i).field) (k:Nat):BG a k=BG b k:=by
 unfold BG
 rw [(h k).2.2]
 have:AA a=AA b:=funext fun x=>EE hl fun i _=>⟨(h i).1,(h i).2.1⟩
 rw [this]
theorem Gd.upd {a b:List AE} {L L':List Int} (g:Gd a L) (hl:a.length=b.length) (h: ∀i,(ob a i).live=(ob b i).live∧(ob a i).gen=(ob b i).gen∧(ob a i).field=(ob b i).field)
  (hx: ∀e,lR a e→lR b e∨ ∃x∈L',AA b x=(e:Int)) (hL: ∀x∈L,0≤AA a x→x∈L'):Gd b L':=fun k hk hv=>by
 have kr: ∀{s y},Reach a s y→Reach b s y:=fun hr=>(hr.JL (P:=fun _=>True) trivial fun y _ j hj=>⟨by rw [←iT hl h];exact hj,trivial⟩).1
 have sl: ∀x,AA b x=AA a x:=fun x=>(EE hl fun i _=>⟨(h i).1,(h i).2.1⟩).symm
 rcases g k hk (by rw [(h k).1];exact hv) with ⟨e,he,hr⟩ | ⟨x,hxL,s,hs,hr⟩
 ·rcases hx e he with he | ⟨x,hx,hs⟩
  ·exact .inl ⟨e,he,kr hr⟩
  ·exact .inr ⟨x,hx,e,hs,kr hr⟩
 ·exact .inr ⟨x,hL x hxL (by omega),s,by rw [sl];exact hs,kr hr⟩
theorem Gd.xQ {a b:List AE} {L L':List Int} {w:Int} (g:Gd a L) (h: ∀i,(ob a i).live=(ob b i).live∧(ob a i).holds=(ob b i).holds∧(ob a i).roots=(ob b i).roots) (sl: ∀x,AA b x=AA a x)
  (hk: ∀y, ∀j∈BG a y,j∈BG b y∨j=AA b w) (hw:0≤AA b w→w∈L') (hL: ∀x∈L,x∈L'):Gd b L':=fun k k8 kv=>by
 have kr: ∀{s y},Reach a s y→Reach b s y∨ ∃t:Nat,AA b w=(t:Int)∧Reach b t y:=fun hr=>by
  induction hr with
  | refl=>exact .inl .refl
  | step hr hj ih=>
    rename_i y j
    have h0:=(B4 hj).1
    rcases hk _ _ hj with h1 | h1
    ·rcases ih with ih | ⟨t,ht,ih⟩
     ·exact .inl (.step ih h1)
     ·exact .inr ⟨t,ht, .step ih h1⟩
    ·exact .inr ⟨j.toNat,by omega, .refl⟩
 have fin: ∀{s},Reach a s k→(Reach b s k→Cov b L' k)→Cov b L' k:=fun hr hc=>by
  rcases kr hr with hr | ⟨t,ht,hr⟩
  ·exact hc hr
  ·exact .inr ⟨w,hw (by omega),t,ht,hr⟩
 rcases g k k8 (by rw [(h k).1];exact kv) with ⟨e,he,hr⟩ | ⟨x,hx,s,hs,hr⟩
 ·exact fin hr fun hr=> .inl ⟨e,⟨he.lt,by rw [←(h e).1];exact he.lv,by rw [←(h e).2.1, ←(h e).2.2];exact he.pos⟩,hr⟩
 ·exact fin hr fun hr=> .inr ⟨x,hL x hx,s,by rw [sl];exact hs,hr⟩
theorem Gd.hold {os:List AE} {L L':List Int} {k:Nat} {v:AE} (g:Gd os L) (hk:k<os.length) (v1:v.live=(ob os k).live) (v2:v.gen=(ob os k).gen) (v3:v.field=(ob os k).field) (hx:0<v.holds+v.roots∨ ∃x∈L',AA os x=(k:Int)) (hL: ∀x∈L,x∈L'):Gd (os.set k v) L':=by
 have eo: ∀i,ob (os.set k v) i=if i=k then v else ob os i:=fun i=>DY hk
 have sm: ∀i,(ob os i).live=(ob (os.set k v) i).live∧(ob os i).gen=(ob (os.set k v) i).gen∧(ob os i).field=(ob (os.set k v) i).field:=fun i=>by
  rw [eo];split
  ·rename_i hh;subst hh;exact ⟨v1.symm,v2.symm,v3.symm⟩
  ·exact ⟨rfl,rfl,rfl⟩
 refine g.upd (by simp) sm (fun e he=> ?_) fun x h _=>hL x h
 by_cases hek:e=k
 ·rcases hx with hx | ⟨x,hx,hs⟩
  ·exact .inl ⟨he.lt,by rw [←(sm e).1];exact he.lv,by rw [eo,if_pos hek];exact hx⟩
  ·exact .inr ⟨x,hx,by rw [←EE (by simp) fun i _=>⟨(sm i).1,(sm i).2.1⟩,hek];exact hs⟩
 ·exact .inl ⟨he.lt,by rw [←(sm e).1];exact he.lv,by rw [eo,if_neg hek];exact he.pos⟩
section
variable {os:List AE} {ns:Nat} {buf pd:List Int} {id:Int} {k:Nat}
theorem Gd.free (h:HP os ns buf (id::pd)) (hk:AA os id=(k:Int)) (hc:(ob os k).count≤1) (g:Gd os (buf++id::pd)):
  Gd (os.set k (B8 (ob os k).gen)) ((buf.filter fun x=>decide (x≠id))++(pd++(ob os k).field.filter fun x=>decide (0≤x))):=by
 obtain ⟨k8,kv,kid,kg1,kg2,kid8,kc,kc1,kF⟩:=h.at hk
 have hol:=h.ol
 have hlv:=(h.obj k k8).lv kv
 have he0:CD os id=0:=by omega
 have eo: ∀i,ob (os.set k (B8 (ob os k).gen)) i=if i=k then B8 (ob os k).gen else ob os i:=fun i=>DY (by omega)
 have nof: ∀p,p<8→(ob os p).live=true→id∉(ob os p).field:=fun p hp hv=>VM he0 (by omega) hv
 have only: ∀x,AA os x=(k:Int)→x=id:=fun x hx=>by rw [M8 hx kg1 kg2,kid]
 have sl: ∀x,x≠id→AA (os.set k (B8 (ob os k).gen)) x=AA os x:=fun x hne=>by
  by_cases h8:x<8∨os.length≠8
  ·rw [EH h8,EH (by simpa using h8)]
  ·by_cases he:(x % 8).toNat=k
   ·have hnk:AA os x≠(k:Int):=fun hh=>hne (only x hh)
    have hneg:AA os x= -1:=by
     have hb:=BF (l:=os) (id:=x)
     unfold AA at hnk hb ⊢
     rw [if_neg h8] at hnk hb ⊢
     split
     ·rename_i hy
      rw [if_pos hy] at hnk
      omega
     ·rfl
    rw [hneg,HE (by rw [List.length_set];omega) (.inl (by rw [he,eo,if_pos rfl];rfl))]
   ·unfold AA
    rw [if_neg h8,if_neg (by simpa using h8),eo,if_neg he]
 have kk: ∀y,(y<8∧(ob os y).live=true∧y≠k)→ ∀j∈BG os y,j∈BG (os.set k (B8 (ob os k).gen)) y∧(j.toNat<8∧(ob os j.toNat).live=true∧j.toNat≠k):=fun y ⟨y8,yv,yk⟩ j hj=>by
  have hb:=B4 hj
  obtain ⟨h0,f,hf,hs⟩:=FG.1 hj
  have hfi:f≠id:=fun he=>nof y y8 yv (he ▸ hf)
  refine ⟨FG.2 ⟨h0,f, ?_,by rw [sl f hfi];exact hs⟩,hb.2.1,hb.2.2.2.2,fun hjk=>hfi (only f (by omega))⟩
  rw [eo,if_neg yk];exact hf
 have c1: ∀{s y},Reach os s y→(s<8∧(ob os s).live=true∧s≠k)→Reach (os.set k (B8 (ob os k).gen)) s y:=fun hr hs=>(hr.JL (P:=fun y=>y<8∧(ob os y).live=true∧y≠k) hs kk).1
 have c2: ∀{y},Reach os k y→y=k∨ ∃x∈(ob os k).field.filter fun x=>decide (0≤x), ∃s:Nat,AA (os.set k (B8 (ob os k).gen)) x=(s:Int)∧Reach (os.set k (B8 (ob os k).gen)) s y∧(y<8∧(ob os y).live=true∧y≠k):=fun {y} hr=>by
  induction hr with
  | refl=>exact .inl rfl
  | step hr' hj ih=>
    rename_i y j
    right
    rcases ih with rfl | ⟨x,hx,s,hs,hr,hy⟩
    ·have hb:=B4 hj
     obtain ⟨h0,f,hf,hs⟩:=FG.1 hj
     have hfi:f≠id:=fun he=>nof y k8 kv (he ▸ hf)
     have hfb:=BF (l:=os) (id:=f) (by omega)
     refine ⟨f,List.mem_filter.2 ⟨hf,by simp;omega⟩,j.toNat,by rw [sl f hfi];omega, .refl,hb.2.1,hb.2.2.2.2,fun hjk=>hfi (only f (by omega))⟩
    ·obtain ⟨h1,h2⟩:=kk y hy _ hj
     exact ⟨x,hx,s,hs, .step hr h1,h2⟩
 intro y y8 yv
 rw [eo] at yv
 by_cases hyk:y=k
 ·rw [if_pos hyk] at yv;cases yv
 rw [if_neg hyk] at yv
 rcases g y y8 yv with ⟨e,he,hr⟩ | ⟨x,hx,s,hs,hr⟩
 ·have hek:e≠k:=fun hh=>by have:=he.pos;rw [hh] at this;omega
  exact .inl ⟨e,⟨he.lt,by rw [eo,if_neg hek];exact he.lv,by rw [eo,if_neg hek];exact he.pos⟩,c1 hr ⟨he.lt,he.lv,hek⟩⟩
 ·have sv:=KL hs
  by_cases hsk:s=k
  ·subst hsk
   rcases c2 hr with h' | ⟨x,hx,s',hs',hr',_⟩
   ·exact absurd h' hyk
   ·exact .inr ⟨x,by simp only [List.mem_append];exact .inr (.inr hx),s',hs',hr'⟩
  ·have hxi:x≠id:=fun hh=>hsk (by rw [hh,hk] at hs;omega)
   refine .inr ⟨x, ?_,s,by rw [sl x hxi];exact hs,c1 hr ⟨sv.1,sv.2,hsk⟩⟩
   rcases List.mem_append.1 hx with hx | hx
   ·exact List.mem_append_left _ (List.mem_filter.2 ⟨hx,by simpa using hxi⟩)
   ·rcases List.mem_cons.1 hx with hx | hx
    ·exact absurd hx hxi
    ·simp [hx]
end
theorem pE {ns:Nat}: ∀(f:Nat) {os:List AE} {buf todo freed:List Int},HP os ns buf todo→freed.length+lvs os≤8→todo.length+4*lvs os<f→Gd os (buf++todo)→Gd (HW f os buf freed todo).1 (HW f os buf freed todo).2.1:=by
 intro f
 induction f with
 | zero=>intro os buf todo freed _ _ h;omega
 | succ f ih=>
   intro os buf todo freed h h8 hf g
   cases todo with
   | nil=>
     have g':Gd os buf:=by simpa using g
     exact g'
   | cons id pd=>
     have hs:=h.pd id (by simp)
     obtain ⟨k,hk⟩: ∃k:Nat,AA os id=(k:Int):=⟨(AA os id).toNat,by omega⟩
     obtain ⟨k8,kv,kid,kg1,kg2,kid8,kc,kc1,kF⟩:=h.at hk
     have hkl:k<os.length:=by have:=h.ol;omega
     simp only [HW,hk,Int.toNat_natCast]
     rw [if_neg (by omega),if_neg (by omega)]
     have ew:w64 ((ob os k).count-1)=(ob os k).count-1:=I8 ⟨by omega,by have:=kF.2;omega⟩
     rw [ew]
     have lset:=R0 hkl kv
     have lvd: ∀v:AE,v.live=true→lvs (os.set k v)=lvs os:=fun v hv=>by
      have:=lset v
      rw [if_pos hv] at this;omega
     have gd: ∀(v:AE) (L':List Int),v.live=(ob os k).live→v.gen=(ob os k).gen→v.field=(ob os k).field→v.holds=(ob os k).holds→v.roots=(ob os k).roots→(∀x∈buf++id::pd,x∈L')→Gd (os.set k v) L':=fun v L' v1 v2 v3 v4 v5 hL=>by
      have eo: ∀i,ob (os.set k v) i=if i=k then v else ob os i:=fun i=>DY hkl
      refine g.upd (by simp) (fun i=> ?_) (fun e he=> .inl ⟨he.lt, ?_, ?_⟩) fun x hx _=>hL x hx
      ·rw [eo];split
       ·rename_i hh;subst hh;exact ⟨v1.symm,v2.symm,v3.symm⟩
       ·exact ⟨rfl,rfl,rfl⟩
      ·rw [eo];split
       ·rw [v1];exact kv
       ·exact he.lv
      ·rw [eo];split
       ·rename_i hh;subst hh;rw [v4,v5];exact he.pos
       ·exact he.pos
     simp only [List.length_cons] at hf
     by_cases hc:(ob os k).count-1>0
     ·rw [if_pos hc]
      have hpk:=((h.obj k k8).lv kv).2.2.2.2.2.2
      rw [←kid] at hpk
      by_cases hp:(ob os k).purple=true
      ·rw [if_pos hp]
       refine ih (h.dec hk rfl rfl rfl rfl rfl rfl rfl (by simp only;omega) (fun x _=>Iff.rfl) hpk h.bnd) (by rw [lvd] <;> first | omega | exact kv) (by rw [lvd] <;> first | omega | exact kv) (gd _ _ rfl rfl rfl rfl rfl fun x hx=> ?_)
       rcases List.mem_append.1 hx with hx | hx
       ·exact List.mem_append_left _ hx
       ·rcases List.mem_cons.1 hx with rfl | hx
        ·exact List.mem_append_left _ (hpk.1 hp)
        ·exact List.mem_append_right _ hx
      ·rw [if_neg hp]
       have hni:id∉buf:=fun hm=>hp (hpk.2 hm)
       exact ih (h.dec hk rfl rfl rfl rfl rfl rfl rfl (by simp only;omega) (fun x hx=>by simp [hx]) (by simp) (List.nodup_append.2 ⟨h.bnd,by simp,fun a ha b hb=>by
        have hb:b=id:=by simpa using hb
        subst hb;intro he;exact hni (he ▸ ha)⟩)) (by rw [lvd] <;> first | omega | exact kv) (by rw [lvd] <;> first | omega | exact kv) (gd _ _ rfl rfl rfl rfl rfl fun x hx=>by simpa using hx)
     ·rw [if_neg hc]
      have hl:=lset (B8 (ob os k).gen)
      rw [if_neg (by simp [B8])] at hl
      have hfl:=List.length_filter_le (fun x=>decide (0≤x)) (ob os k).field
      rw [(h.obj k k8).len] at hfl
      exact ih (h.free hk (by omega)) (by rw [List.length_append,List.length_singleton];omega) (by rw [List.length_append];omega) (g.free h hk (by omega))
theorem qS {ns:Nat} {os:List AE} {buf:List Int} {x:Int} (h:HP os ns buf [x]) (g:Gd os (buf++[x])):Gd (FH os buf [x]).1 (FH os buf [x]).2.1:=by
 have hol:=h.ol
 have:=Y6 hol
 exact pE _ h (by simp only [List.length_nil];omega) (by simp only [List.length_singleton];omega) g
end Go.Proofs.Ytklmcfpgdfibnaa.P
