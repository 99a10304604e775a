/- A part of the proof. -/
import Derived.Test.YtklmcfpgdfibnaaPtWireF
import Derived.Test.YtklmcfpgdfibnaaPtRowO
import Derived.Test.YtklmcfpgdfibnaaPtWireH
import Derived.Test.YtklmcfpgdfibnaaPtTxtH
namespace Go.Proofs.Ytklmcfpgdfibnaa.P
open Go Go.Proofs.Ytklmcfpgdfibnaa Go.Proofs.Ytklmcfpgdfibnaa.Eng
set_option maxHeartbeats 4000000
set_option linter.unusedVariables false
set_option linter.unusedSimpArgs false
attribute [local irreducible] prP gP gE gF AW ixW ldc ldg ldl stc stg scW mkW apW BK cl2 BW EI CM
variable {w0:World}
end Go.Proofs.Ytklmcfpgdfibnaa.P
namespace Go.Proofs.Ytklmcfpgdfibnaa.P
open Go Go.Proofs.Ytklmcfpgdfibnaa Go.Proofs.Ytklmcfpgdfibnaa.Eng
set_option maxHeartbeats 4000000
set_option linter.unusedVariables false
set_option linter.unusedSimpArgs false
attribute [local irreducible] prP gP gE gF AW ixW ldc ldg ldl stc stg scW mkW apW BK cl2 BW EI CM
variable {w0:World}
theorem nX (n:Int) (l:List ByteArray) (s:ByteArray):(MF n l s).a.freed.length≤8∧(MF n l s).sites.length≤l.length+1∧(MF n l s).o.site.size≤s.size+8:=by
 unfold MF
 split
 ·exact ⟨Nat.zero_le _,Nat.le_succ _,Nat.zero_le _⟩
 ·rename_i e he
  split
  ·rename_i hok
   have h1:=VZ n l e.1 e.2
   refine ⟨?_,h1.2, ?_⟩
   ·rcases Nat.lt_or_ge 8 e.2.freed.length with h | h
    ·exact absurd (dA h) hok.1
    ·exact h
   ·have hne:=hok.1
    rw [KF,hH] at hne
    split at hne
    ·rename_i hk
     simp only [okE,sD,Bool.and_eq_true,decide_eq_true_eq] at hk
     simp only;omega
    ·exact absurd rfl hne
  ·exact ⟨Nat.zero_le _,Nat.le_succ _,Nat.zero_le _⟩
structure wF (n:Int) (l:List ByteArray):Prop where
 n:F64 n
 len:(l.length:Int)<2^63
 all: ∀s∈l,(s.size:Int)<2^63
def dcd (ps:List ByteArray):Nat→Option (List Op5×List An×Int×List ByteArray)
 | 0=>some ([],[],0,[])
 | i+1=>match dcd ps i with
   | none=>none
   | some q=>if (MF q.2.2.1 q.2.2.2 (gS ps i)).ok=true then some (q.1++[(MF q.2.2.1 q.2.2.2 (gS ps i)).o],q.2.1++[(MF q.2.2.1 q.2.2.2 (gS ps i)).a],(MF q.2.2.1 q.2.2.2 (gS ps i)).last,(MF q.2.2.1 q.2.2.2 (gS ps i)).sites) else none
structure DcI (ps:List ByteArray) (q:Nat×List Op5×List An×Int×List ByteArray):Prop where
 eq:dcd ps q.1=some q.2
 le:q.1≤ps.length
 ol:q.2.1.length=q.1
 al:q.2.2.1.length=q.1
 sl:q.2.2.2.2.length≤q.1
 fr: ∀a∈q.2.2.1,a.freed.length≤8
theorem DcI.next {ps:List ByteArray} {q:Nat×List Op5×List An×Int×List ByteArray} (h:DcI ps q) (hlt:q.1<ps.length) (hok:(MF q.2.2.2.1 q.2.2.2.2 (gS ps q.1)).ok=true):
  DcI ps (q.1+1,q.2.1++[(MF q.2.2.2.1 q.2.2.2.2 (gS ps q.1)).o],q.2.2.1++[(MF q.2.2.2.1 q.2.2.2.2 (gS ps q.1)).a],(MF q.2.2.2.1 q.2.2.2.2 (gS ps q.1)).last,(MF q.2.2.2.1 q.2.2.2.2 (gS ps q.1)).sites):=by
 obtain ⟨h1,h2,h3,h4,h5,h6⟩:=h
 have hb:=nX q.2.2.2.1 q.2.2.2.2 (gS ps q.1)
 refine ⟨by rw [dcd,h1];exact if_pos hok,hlt,by simp [h3],by simp [h4],by simp only;omega,fun a ha=> ?_⟩
 rcases List.mem_append.1 ha with ha | ha
 ·exact h6 a ha
 ·rw [List.mem_singleton.1 ha];exact hb.1
theorem DcI.zero (ps:List ByteArray):DcI ps (0,[],[],0,[]):=⟨rfl,Nat.zero_le _,rfl,rfl,Nat.le_refl _,by simp⟩
theorem qI (l:List Op5) (x:Op5):tR tP l++[T.c (I x.kind), .c (I x.a), .c (I x.b), .c (I x.c), .c (.string x.site)]=tR tP (l++[x]):=ZF l x
theorem pC (l:List An) (x:An):tR tA l++[T.c (I x.code), .c (I x.val), .l 1 (tI x.freed)]=tR tA (l++[x]):=ZF l x
end Go.Proofs.Ytklmcfpgdfibnaa.P
namespace Go.Proofs.Ytklmcfpgdfibnaa.P
open Go Go.Proofs.Ytklmcfpgdfibnaa Go.Proofs.Ytklmcfpgdfibnaa.Eng
set_option linter.unusedVariables false
set_option maxHeartbeats 4000000
set_option linter.unusedVariables false
set_option linter.unusedSimpArgs false
attribute [local irreducible] prP gP gE gF AW ixW ldc ldg ldl stc stg scW mkW apW BK cl2 BW EI CM
variable {w0:World}
theorem nA: ∀(f:Nat) {os:List AU} {buf freed todo:List Int},os.length=8→(∀o∈os,OF o)→freed.length≤9→(HO f os buf freed todo).1.length=8∧(∀o∈(HO f os buf freed todo).1,OF o)∧(HO f os buf freed todo).2.1.length≤buf.length+f∧(HO f os buf freed todo).2.2.length≤9:=by
 intro f
 induction f with
 | zero=>intro os buf freed todo h1 h2 h3;exact ⟨h1,h2,by simp [HO],h3⟩
 | succ f ih=>
   intro os buf freed todo h1 h2 h3
   cases todo with
   | nil=>exact ⟨h1,h2,by simp [HO],h3⟩
   | cons id l=>
     simp only [HO]
     by_cases h8:freed.length>8
     ·rw [if_pos h8];exact ⟨h1,h2,by simp only;omega,h3⟩
     rw [if_neg h8]
     by_cases hs:AB os id<0
     ·rw [if_pos hs]
      have:=ih (buf:=buf) (todo:=l) h1 h2 h3
      exact ⟨this.1,this.2.1,by omega,this.2.2.2⟩
     rw [if_neg hs]
     have hk:=BL (l:=os) (id:=id) (by omega)
     have ho:=h2 _ (GG (l:=os) (i:=(AB os id).toNat) (by omega))
     by_cases hc:w64 ((ob os (AB os id).toNat).count-1)>0
     ·rw [if_pos hc]
      by_cases hp:(ob os (AB os id).toNat).purple=true
      ·rw [if_pos hp]
       have:=ih (buf:=buf) (freed:=freed) (todo:=l) (os:=os.set (AB os id).toNat {ob os (AB os id).toNat with count:=w64 ((ob os (AB os id).toNat).count-1)}) (by simpa using h1) (G6 h2 ⟨ho.gen,ho.len,ho.fld⟩) h3
       exact ⟨this.1,this.2.1,Nat.le_trans this.2.2.1 (by omega),this.2.2.2⟩
      ·rw [if_neg hp]
       have:=ih (buf:=buf++[id]) (freed:=freed) (todo:=l) (os:=os.set (AB os id).toNat {ob os (AB os id).toNat with count:=w64 ((ob os (AB os id).toNat).count-1),purple:=true}) (by simpa using h1) (G6 h2 ⟨ho.gen,ho.len,ho.fld⟩) h3
       exact ⟨this.1,this.2.1,Nat.le_trans this.2.2.1 (by rw [List.length_append,List.length_singleton];omega),this.2.2.2⟩
     ·rw [if_neg hc]
      have hb:=List.length_filter_le (fun x=>decide (x≠id)) buf
      have:=ih (buf:=buf.filter fun x=>decide (x≠id)) (freed:=freed++[id]) (todo:=l++(ob os (AB os id).toNat).field.filter fun x=>decide (0≤x)) (os:=os.set (AB os id).toNat (B6 (ob os (AB os id).toNat).gen)) (by simpa using h1) (G6 h2 (OF.free ho.gen)) (by rw [List.length_append,List.length_singleton];omega)
      exact ⟨this.1,this.2.1,by omega,this.2.2.2⟩
structure Small (h:Hp) (a:An):Prop where
 fits:Fits h
 fr:a.freed.length≤9
theorem Small.mk' {h:Hp} {a:An} (h1:h.A8.length=8) (h2: ∀o∈h.A8,OF o) (h3:h.B2.length=8) (h4:h.buffer.length≤1000) (h5:h.sites.length≤7) (h6: ∀s∈h.sites,(s.size:Int)≤1048576) (h7:a.freed.length≤9):Small h a:=
 ⟨⟨by omega,fun o ho=>by have:=(h2 o ho).len;omega,by omega,by omega,by omega,h6⟩,h7⟩
theorem jB {os:List AU} {ss:List ByteArray} {s:ByteArray} (h1:os.length=8) (h2: ∀o∈os,OF o) (h5:ss.length≤6) (h6: ∀s∈ss,(s.size:Int)≤1048576):(FF os ss s).1.length=8∧(∀o∈(FF os ss s).1,OF o)∧(FF os ss s).2.1.length≤7∧(∀s'∈(FF os ss s).2.1,(s'.size:Int)≤1048576)∧(FF os ss s).2.2.freed=[]:=by
 unfold FF
 by_cases hb: ¬(1≤(s.size:Int)∧(s.size:Int)≤8)
 ·rw [if_pos hb];exact ⟨h1,h2,by simp only;omega,h6,rfl⟩
 rw [if_neg hb]
 by_cases hf:CF os<0
 ·rw [if_pos hf];exact ⟨h1,h2,by simp only;omega,h6,rfl⟩
 rw [if_neg hf]
 split
 ·exact ⟨h1,h2,by simp only;omega,h6,rfl⟩
 ·refine ⟨by simpa using h1,G6 h2 ⟨cE _,rfl,by simp [KY,OD,F64]⟩, ?_, ?_,rfl⟩
  ·simp only;split
   ·rw [List.length_append,List.length_singleton];omega
   ·omega
  ·simp only;split
   ·intro s' hs'
    rcases List.mem_append.1 hs' with h | h
    ·exact h6 s' h
    ·have:s'=s:=by simpa using h
     subst this;omega
   ·exact h6
theorem VP {os:List AU} {buf:List Int} {x:Int} (h1:os.length=8) (h2: ∀o∈os,OF o):(GR os buf [x]).1.length=8∧(∀o∈(GR os buf [x]).1,OF o)∧(GR os buf [x]).2.1.length≤buf.length+38∧(GR os buf [x]).2.2.length≤9:=nA _ h1 h2 (by simp)
theorem OF.holds {o:AU} {v:Int} (h:OF o):OF {o with holds:=v}:=⟨h.gen,h.len,h.fld⟩
theorem OF.roots {o:AU} {v:Int} (h:OF o):OF {o with roots:=v}:=⟨h.gen,h.len,h.fld⟩
theorem nS {os:List AU} {buf:List Int} {kd id:Int} (h1:os.length=8) (h2: ∀o∈os,OF o):(HZ os buf kd id).1.length=8∧(∀o∈(HZ os buf kd id).1,OF o)∧(HZ os buf kd id).2.1.length≤buf.length+38∧(HZ os buf kd id).2.2.freed.length≤9:=by
 unfold HZ
 by_cases hs:AB os id<0
 ·rw [if_pos hs];exact ⟨h1,h2,by simp only;omega,by simp⟩
 rw [if_neg hs]
 have hk:=BL (l:=os) (id:=id) (by omega)
 have ho:=h2 _ (GG (l:=os) (i:=(AB os id).toNat) (by omega))
 have a1: ∀{v:AU},OF v→(os.set (AB os id).toNat v).length=8∧ ∀o∈os.set (AB os id).toNat v,OF o:=fun hv=>⟨by simpa using h1,G6 h2 hv⟩
 have a2: ∀{v:AU},OF v→(DJ (os.set (AB os id).toNat v) id).length=8∧ ∀o∈DJ (os.set (AB os id).toNat v) id,OF o:=fun hv=>⟨by rw [NN];simpa using h1,RH (G6 h2 hv)⟩
 split
 ·split
  ·exact ⟨h1,h2,by simp only;omega,by simp⟩
  ·exact ⟨(a2 (OF.holds ho)).1,(a2 (OF.holds ho)).2,by simp only;omega,by simp⟩
 ·split
  ·split
   ·exact ⟨h1,h2,by simp only;omega,by simp⟩
   ·exact ⟨(a2 (OF.roots ho)).1,(a2 (OF.roots ho)).2,by simp only;omega,by simp⟩
  ·split
   ·split
    ·exact ⟨h1,h2,by simp only;omega,by simp⟩
    ·exact VP (a1 (OF.holds ho)).1 (a1 (OF.holds ho)).2
   ·split
    ·exact ⟨h1,h2,by simp only;omega,by simp⟩
    ·exact VP (a1 (OF.roots ho)).1 (a1 (OF.roots ho)).2
theorem jD {os:List AU} {buf:List Int} {a b c:Int} (h1:os.length=8) (h2: ∀o∈os,OF o) (hc:F64 c):(FP os buf a b c).1.length=8∧(∀o∈(FP os buf a b c).1,OF o)∧(FP os buf a b c).2.1.length≤buf.length+38∧(FP os buf a b c).2.2.freed.length≤9:=by
 unfold FP
 by_cases hs:AB os a<0∨(c≠ -1∧AB os c<0)
 ·rw [if_pos hs];exact ⟨h1,h2,by simp only;omega,by simp⟩
 rw [if_neg hs]
 have hk:=BL (l:=os) (id:=a) (by omega)
 have ho:=h2 _ (GG (l:=os) (i:=(AB os a).toNat) (by omega))
 have gl:=NN os c
 have gof:=RH (id:=c) h2
 have hg:=gof _ (GG (l:=DJ os c) (i:=(AB os a).toNat) (by omega))
 have a1:((DJ os c).set (AB os a).toNat {ob (DJ os c) (AB os a).toNat with field:=(ob os (AB os a).toNat).field.set b.toNat c}).length=8∧ ∀o∈(DJ os c).set (AB os a).toNat {ob (DJ os c) (AB os a).toNat with field:=(ob os (AB os a).toNat).field.set b.toNat c},OF o:=⟨by rw [List.length_set];omega,G6 gof (OF.put hg (by rw [List.length_set];exact ho.len) fun x hx=>(List.mem_or_eq_of_mem_set hx).elim (ho.fld x) fun he=>he ▸ hc)⟩
 split
 ·exact ⟨h1,h2,by simp only;omega,by simp⟩
 ·split
  ·exact ⟨a1.1,a1.2,by simp only;omega,by simp⟩
  ·exact VP a1.1 a1.2
theorem bL {os:List AU} {ws:List Wk} {id:Int}:(KJ os ws id).1.length=ws.length∧(KJ os ws id).2.freed=[]:=by
 unfold KJ
 split
 ·exact ⟨rfl,rfl⟩
 ·split
  ·exact ⟨rfl,rfl⟩
  ·exact ⟨by simp,rfl⟩
theorem U7 {os:List AU} {ws:List Wk} {kd k:Int}:(GK os ws kd k).1.length=ws.length∧(GK os ws kd k).2.freed=[]:=by
 unfold GK
 split
 ·exact ⟨rfl,rfl⟩
 ·split
  ·exact ⟨rfl,rfl⟩
  ·split
   ·exact ⟨by simp,rfl⟩
   ·split
    ·exact ⟨rfl,rfl⟩
    ·exact ⟨rfl,rfl⟩
theorem nG {os:List AU} {buf:List Int} (h1:os.length=8) (h2: ∀o∈os,OF o):(LJ os buf).1.length=8∧(∀o∈(LJ os buf).1,OF o)∧(LJ os buf).2.length≤8:=by
 unfold LJ
 refine ⟨CG _,fun o ho=> ?_,JI (fun i=>by split <;> simp) 8⟩
 obtain ⟨i,hi,rfl⟩:=T9 ho
 have hoi:=h2 _ (GG (l:=os) (i:=i) (by omega))
 have hm:OF (DE os (JR os (fun i=>(ob os i).count) buf) i):=by
  unfold DE
  split
  ·exact OF.free hoi.gen
  ·exact ⟨hoi.gen,hoi.len,hoi.fld⟩
 unfold GF
 split
 ·exact ⟨hm.gen,hm.len,hm.fld⟩
 ·exact hm
theorem nZ {h:Hp} {o:Op5} (st:St h) (hc:F64 o.c):Small (HC h o).1 (HC h o).2:=by
 have hb:=st.bl;have h5:=st.sl
 unfold HC
 split
 ·obtain ⟨a1,a2,a3,a4,a5⟩:=jB (s:=o.site) st.ol st.of st.sl st.ss
  exact Small.mk' a1 a2 st.wl (by simp only;omega) a3 a4 (by simp only [a5];simp)
 ·split
  ·obtain ⟨a1,a2,a3,a4⟩:=nS (buf:=h.buffer) (kd:=o.kind) (id:=o.a) st.ol st.of
   exact Small.mk' a1 a2 st.wl (by simp only;omega) (by simp only;omega) st.ss a4
  ·split
   ·obtain ⟨a1,a2,a3,a4⟩:=jD (buf:=h.buffer) (a:=o.a) (b:=o.b) st.ol st.of hc
    exact Small.mk' a1 a2 st.wl (by simp only;omega) (by simp only;omega) st.ss a4
   ·split
    ·obtain ⟨a1,a2⟩:=bL (os:=h.A8) (ws:=h.B2) (id:=o.a)
     exact Small.mk' st.ol st.of (a1.trans st.wl) (by simp only;omega) (by simp only;omega) st.ss (by simp only [a2];simp)
    ·split
     ·obtain ⟨a1,a2⟩:=U7 (os:=h.A8) (ws:=h.B2) (kd:=o.kind) (k:=o.a)
      exact Small.mk' st.ol st.of (a1.trans st.wl) (by simp only;omega) (by simp only;omega) st.ss (by simp only [a2];simp)
     ·split
      ·obtain ⟨a1,a2,a3⟩:=nG (buf:=h.buffer) st.ol st.of
       exact Small.mk' a1 a2 st.wl (by simp) (by simp only;omega) st.ss (by simp only;omega)
      ·exact Small.mk' st.ol st.of st.wl (by simp only;omega) (by simp only;omega) st.ss (by simp)
end Go.Proofs.Ytklmcfpgdfibnaa.P
namespace Go.Proofs.Ytklmcfpgdfibnaa.P
open Go Go.Proofs.Ytklmcfpgdfibnaa Go.Proofs.Ytklmcfpgdfibnaa.Eng
set_option linter.unusedVariables false
theorem H3 {k:Nat} {g:Int} (hk:k<8) (h1:1≤g) (h2:g≤999):CH k g=k+8*g:=by unfold CH;rw [if_pos ⟨⟨by omega,by omega⟩,h1,h2⟩]
theorem H7 {os:List AU} {k:Nat} (hol:os.length=8) (hk:k<8) (hv:(ob os k).live=true) (h1:1≤(ob os k).gen) (h2:(ob os k).gen≤999):AB os (CH k (ob os k).gen)=k:=by
 rw [H3 hk h1 h2]
 have e1:((k:Int)+8*(ob os k).gen) % 8=k:=by omega
 have e2:((k:Int)+8*(ob os k).gen)/8=(ob os k).gen:=by omega
 have e3:(((k:Int)+8*(ob os k).gen) % 8).toNat=k:=by omega
 rw [K7 (by omega) hol (by omega) (by rw [e3];exact hv) (by rw [e3,e2]),e1]
theorem M5 {os:List AU} {k:Nat} {x:Int} (h:AB os x=(k:Int)) (h1:1≤(ob os k).gen) (h2:(ob os k).gen≤999):x=CH k (ob os k).gen:=by
 have hb:=BL (l:=os) (id:=x) (by omega)
 have e:(AB os x).toNat=k:=by omega
 rw [e] at hb
 rw [H3 (by omega) h1 h2];omega
theorem GS {a b:List AU} {x:Int} (hl:a.length=b.length) (h: ∀i,i<a.length→(ob a i).live=(ob b i).live∧(ob a i).gen=(ob b i).gen):AB a x=AB b x:=by
 simp only [AB,hl]
 by_cases hx:x<8∨b.length≠8
 ·rw [if_pos hx,if_pos hx]
 ·rw [if_neg hx,if_neg hx]
  have:=h (x % 8).toNat (by omega)
  rw [this.1,this.2]
theorem SR {os:List AU} {k:Nat} {v:AU} {id:Int} (hk:k<os.length):CE (os.set k v) id+NA id (ob os k)=CE os id+NA id v:=by
 unfold CE
 rw [List.map_set]
 have hk':k<(os.map (NA id)).length:=by simpa using hk
 have e:ob os k=os[k]:=(DN hk).symm
 have h1: ∀(l:List Nat) (k v:Nat) (hk:k<l.length),(l.set k v).sum+l[k]=l.sum+v:=by
  intro l
  induction l with
  | nil=>intro k v hk;simp at hk
  | cons x l ih=>
    intro k v hk
    cases k with
    | zero=>simp;omega
    | succ k=>
      have:=ih k v (by simpa using hk)
      simp only [List.set_cons_succ,List.sum_cons,List.getElem_cons_succ];omega
 have:=h1 (os.map (NA id)) k (NA id v) hk'
 rw [List.getElem_map] at this
 rw [e];exact this
structure vJ (os:List AU) (ns:Nat) (buf pd:List Int) (i:Nat):Prop where
 gen:0≤(ob os i).gen∧(ob os i).gen≤999
 len:(ob os i).field.length=3
 cb:(ob os i).count≤1000
 lead: ∀f∈(ob os i).field,f≠ -1→(ob os i).live=true∧0≤AB os f
 dead:(ob os i).live=false→(ob os i).site=0∧(ob os i).holds=0∧(ob os i).roots=0∧(ob os i).count=0∧(ob os i).purple=false
 lv:(ob os i).live=true→1≤(ob os i).gen∧(0≤(ob os i).site∧(ob os i).site≤(ns:Int)-1)∧(0≤(ob os i).holds∧(ob os i).holds≤20)∧(0≤(ob os i).roots∧(ob os i).roots≤20)∧
  (ob os i).count=(ob os i).holds+(ob os i).roots+CE os (CH i (ob os i).gen)+pd.count (CH i (ob os i).gen)∧1≤(ob os i).count∧((ob os i).purple=true↔CH i (ob os i).gen∈buf)
structure HP (os:List AU) (ns:Nat) (buf pd:List Int):Prop where
 ol:os.length=8
 obj: ∀i,i<8→vJ os ns buf pd i
 bnd:buf.Nodup
 blv: ∀x∈buf,0≤AB os x
 pd: ∀x∈pd,0≤AB os x
theorem RQ {os:List AU} {i:Nat} (hol:os.length=8) (hi:i<8) (hv:(ob os i).live=true):inE os i=CE os (CH i (ob os i).gen):=by
 unfold inE
 rw [if_pos ⟨⟨by omega,by omega⟩,by rw [Int.toNat_natCast];exact hv⟩,Int.toNat_natCast]
theorem C0.hp {h:Hp} (hk:C0 h):HP h.A8 h.sites.length h.buffer []:=by
 refine ⟨hk.ol,fun i hi=> ?_,hk.bnd,fun x hx=>hk.VJ hx,by simp⟩
 have ho:=hk.obj i hi
 refine ⟨ho.gen,ho.len, ?_,fun f hf hne=> ?_,ho.dead,fun hv=> ?_⟩
 ·cases hv:(ob h.A8 i).live with
  | false=>have:=ho.dead hv;omega
  | true=>
    have hed:=MY (l:=h.A8) (id:=CH i (ob h.A8 i).gen) (b:=3) fun o ho'=>by
     obtain ⟨j,hj,rfl⟩:=List.getElem_of_mem ho'
     rw [DN hj,(hk.obj j (by have:=hk.ol;omega)).len];omega
    have e:=(ho.lv hv).2.2.2.2.1
    rw [RQ hk.ol hi hv] at e
    have:=(ho.lv hv).2.2.1;have:=(ho.lv hv).2.2.2.1
    have hol:=hk.ol
    omega
 ·obtain ⟨j,hj,rfl⟩:=List.getElem_of_mem hf
  rw [EN hj] at hne ⊢
  exact ho.lead j (by have:=ho.len;omega) hne
 ·obtain ⟨a,b,c,d,e,f,g⟩:=ho.lv hv
  rw [RQ hk.ol hi hv] at e
  refine ⟨a,b,c,d,by rw [e];simp,f,by rw [g];simp⟩
theorem HP.ok {os:List AU} {buf:List Int} {ws:List Wk} {ss:List ByteArray} (h:HP os ss.length buf []) (hw:ws.length=8) (hs:J7 ss) (hwk: ∀i,i<8→((wk ws i).used=false→(wk ws i).target=0)∧((wk ws i).used=true→8≤(wk ws i).target∧(wk ws i).target≤7999)):C0 ⟨os,ws,buf,ss⟩:=by
 refine ⟨h.ol,hw,hs,fun i hi=> ?_,hwk,fun i hi=>⟨h.blv _ (DT hi),fun hm=> ?_⟩⟩
 ·have ho:=h.obj i hi
  refine ⟨ho.gen,ho.len,fun j hj hne=>ho.lead _ (DT (by have:=ho.len;omega)) hne,ho.dead,fun hv=> ?_⟩
  obtain ⟨a,b,c,d,e,f,g⟩:=ho.lv hv
  refine ⟨a,b,c,d, ?_,f, ?_⟩
  ·have:=RQ h.ol hi hv
   simp only at this ⊢
   rw [this,e];simp
  ·simp only
   cases hp:(ob os i).purple with
   | true=>exact (decide_eq_true (g.1 hp)).symm
   | false=>exact (decide_eq_false fun hm=>by have:=g.2 hm;rw [hp] at this;cases this).symm
 ·have hi:i<buf.length:=hi
  have hnd:=List.pairwise_iff_getElem.1 h.bnd
  obtain ⟨j,hj,he⟩:=List.mem_take_iff_getElem.1 hm
  have hj2:j<i:=by omega
  exact hnd j i (by omega) hi hj2 (by rw [he,EN hi])
theorem I7 {id:Int} {o:AU} (h:o.live=true):NA id o=o.field.count id:=by unfold NA;rw [if_pos h]
theorem PW {id:Int} {o:AU} (h:o.live=false):NA id o=0:=by unfold NA;rw [if_neg (by rw [h];decide)]
theorem l7 {l:List Nat} {x:Nat} (h:x∈l):x≤l.sum:=by
 induction l with
 | nil=>simp at h
 | cons y l ih=>
   rw [List.sum_cons]
   rcases List.mem_cons.1 h with rfl | h
   ·omega
   ·have:=ih h;omega
theorem VE {os:List AU} {id:Int} (h:CE os id=0) {i:Nat} (hi:i<os.length) (hv:(ob os i).live=true):id∉(ob os i).field:=by
 intro hm
 have h1:NA id (ob os i)≤CE os id:=by
  unfold CE
  rw [←DN hi]
  exact l7 (List.mem_map.2 ⟨_,List.getElem_mem hi,rfl⟩)
 rw [I7 hv] at h1
 have:=List.count_pos_iff.2 hm
 omega
section
variable {os:List AU} {ns:Nat} {buf pd:List Int} {k:Nat} {id:Int}
theorem HP.at (h:HP os ns buf (id::pd)) (hk:AB os id=(k:Int)):k<8∧(ob os k).live=true∧id=CH k (ob os k).gen∧1≤(ob os k).gen∧(ob os k).gen≤999∧8≤id∧(ob os k).count=(ob os k).holds+(ob os k).roots+CE os id+pd.count id+1∧1≤(ob os k).count∧F64 (ob os k).count:=by
 have hb:=BL (l:=os) (id:=id) (by omega)
 have e:(AB os id).toNat=k:=by omega
 rw [e] at hb
 have ho:=h.obj k hb.2.2.2.1
 obtain ⟨g1,_,g3,g4,g5,g6,_⟩:=ho.lv hb.2.2.2.2.1
 have hid:=M5 hk g1 ho.gen.2
 rw [←hid,List.count_cons_self] at g5
 have:=ho.cb
 exact ⟨hb.2.2.2.1,hb.2.2.2.2.1,hid,g1,ho.gen.2,hb.2.1,by rw [g5];omega,g6,⟨by omega,by omega⟩⟩
theorem UE {i:Nat} {g g':Int} (hi:i<8) (hk:k<8) (h1:1≤g) (h2:g≤999) (h3:1≤g') (h4:g'≤999) (h:i≠k):CH i g≠CH k g':=by
 rw [H3 hi h1 h2,H3 hk h3 h4];omega
theorem HP.dec (h:HP os ns buf (id::pd)) (hk:AB os id=(k:Int)) {v:AU} {buf':List Int} (v1:v.live=(ob os k).live) (v2:v.gen=(ob os k).gen) (v3:v.site=(ob os k).site) (v4:v.holds=(ob os k).holds) (v5:v.roots=(ob os k).roots) (v6:v.field=(ob os k).field) (vc:v.count=(ob os k).count-1) (vp:1≤v.count) (hb: ∀x,x≠id→(x∈buf'↔x∈buf)) (hp:v.purple=true↔id∈buf') (hn:buf'.Nodup):HP (os.set k v) ns buf' pd:=by
 obtain ⟨k8,kv,kid,kg1,kg2,kid8,kc,kc1,_⟩:=h.at hk
 have hol:=h.ol
 have hkl:k<os.length:=by omega
 have same: ∀i,i<(os.set k v).length→(ob (os.set k v) i).live=(ob os i).live∧(ob (os.set k v) i).gen=(ob os i).gen:=fun i hi=>by
  rw [G3 hkl];split
  ·rename_i he;subst he;exact ⟨v1,v2⟩
  ·exact ⟨rfl,rfl⟩
 have sl: ∀x,AB (os.set k v) x=AB os x:=fun x=>GS (by simp) same
 have ed: ∀x,CE (os.set k v) x=CE os x:=fun x=>OT (by simp) fun i hi=>by
  rw [G3 hkl];split
  ·rename_i he;subst he;exact ⟨v1,v6⟩
  ·exact ⟨rfl,rfl⟩
 refine ⟨by simpa using hol,fun i hi=> ?_,hn,fun x hx=> ?_,fun x hx=>by rw [sl];exact h.pd x (by simp [hx])⟩
 ·have ho:=h.obj i hi
  by_cases hik:i=k
  ·subst hik
   have e:ob (os.set i v) i=v:=by rw [G3 hkl,if_pos rfl]
   obtain ⟨g1,g2,g3,g4,g5,g6,g7⟩:=ho.lv kv
   refine ⟨by rw [e,v2];exact ho.gen,by rw [e,v6];exact ho.len,by rw [e,vc];have:=ho.cb;omega,fun f hf hne=> ?_,fun hd=> ?_,fun _=> ?_⟩
   ·rw [e,v6] at hf;rw [e,v1,sl];exact ho.lead f hf hne
   ·rw [e,v1,kv] at hd;cases hd
   ·rw [e,v2,v3,v4,v5,ed, ←kid]
    exact ⟨g1,g2,g3,g4,by rw [vc];omega,vp,hp⟩
  ·have e:ob (os.set k v) i=ob os i:=by rw [G3 hkl,if_neg hik]
   refine ⟨by rw [e];exact ho.gen,by rw [e];exact ho.len,by rw [e];exact ho.cb,fun f hf hne=> ?_,fun hd=> ?_,fun hv=> ?_⟩
   ·rw [e] at hf;rw [e,sl];exact ho.lead f hf hne
   ·rw [e] at hd ⊢;exact ho.dead hd
   ·rw [e] at hv ⊢
    obtain ⟨g1,g2,g3,g4,g5,g6,g7⟩:=ho.lv hv
    have hne:CH i (ob os i).gen≠id:=by rw [kid];exact UE hi k8 g1 ho.gen.2 kg1 kg2 hik
    rw [List.count_cons_of_ne (Ne.symm hne)] at g5
    exact ⟨g1,g2,g3,g4,by rw [ed];exact g5,g6,g7.trans (hb _ hne).symm⟩
 ·rw [sl]
  by_cases hxi:x=id
  ·subst hxi;omega
  ·exact h.blv x ((hb x hxi).1 hx)
theorem HP.free (h:HP os ns buf (id::pd)) (hk:AB os id=(k:Int)) (hc:(ob os k).count≤1):HP (os.set k (B6 (ob os k).gen)) ns (buf.filter fun x=>decide (x≠id)) (pd++(ob os k).field.filter fun x=>decide (0≤x)):=by
 obtain ⟨k8,kv,kid,kg1,kg2,kid8,kc,kc1,_⟩:=h.at hk
 have hol:=h.ol
 have hkl:k<os.length:=by omega
 have hok:=h.obj k k8
 obtain ⟨_,_,hh,hr,_,_,_⟩:=hok.lv kv
 have e0:CE os id=0:=by omega
 have p0:pd.count id=0:=by omega
 have hnf: ∀i,i<8→(ob os i).live=true→id∉(ob os i).field:=fun i hi hv=>VE e0 (by omega) hv
 have eo: ∀i,ob (os.set k (B6 (ob os k).gen)) i=if i=k then B6 (ob os k).gen else ob os i:=fun i=>G3 hkl
 have sl: ∀x,x≠id→AB (os.set k (B6 (ob os k).gen)) x=AB os x:=fun x hx=>by
  simp only [AB,List.length_set]
  by_cases h8:x<8∨os.length≠8
  ·rw [if_pos h8,if_pos h8]
  ·rw [if_neg h8,if_neg h8,eo]
   by_cases hxk:(x % 8).toNat=k
   ·rw [if_pos hxk,if_neg (by simp [B6]),if_neg fun hh=> ?_]
    rw [hxk] at hh
    rw [H3 k8 kg1 kg2] at kid
    omega
   ·rw [if_neg hxk]
 have ed: ∀x,(CE os x:Int)=CE (os.set k (B6 (ob os k).gen)) x+(ob os k).field.count x:=fun x=>by
  have e:=SR (os:=os) (v:=B6 (ob os k).gen) (id:=x) hkl
  rw [I7 kv,PW (o:=B6 (ob os k).gen) rfl] at e
  omega
 refine ⟨by simpa using hol,fun i hi=> ?_,h.bnd.filter _,fun x hx=> ?_,fun x hx=> ?_⟩
 ·have ho:=h.obj i hi
  by_cases hik:i=k
  ·subst hik
   have e:ob (os.set i (B6 (ob os i).gen)) i=B6 (ob os i).gen:=by rw [eo,if_pos rfl]
   refine ⟨by rw [e];exact ho.gen,by rw [e];rfl,by rw [e];simp [B6],fun f hf hne=> ?_,fun _=>by rw [e];exact ⟨rfl,rfl,rfl,rfl,rfl⟩,fun hv=>by rw [e] at hv;cases hv⟩
   rw [e] at hf
   simp [B6,OD] at hf
   exact absurd hf hne
  ·have e:ob (os.set k (B6 (ob os k).gen)) i=ob os i:=by rw [eo,if_neg hik]
   refine ⟨by rw [e];exact ho.gen,by rw [e];exact ho.len,by rw [e];exact ho.cb,fun f hf hne=> ?_,fun hd=> ?_,fun hv=> ?_⟩
   ·rw [e] at hf
    have hl:=ho.lead f hf hne
    rw [e,sl f fun he=>hnf i hi hl.1 (he ▸ hf)]
    exact hl
   ·rw [e] at hd ⊢;exact ho.dead hd
   ·rw [e] at hv ⊢
    obtain ⟨g1,g2,g3,g4,g5,g6,g7⟩:=ho.lv hv
    have hne:CH i (ob os i).gen≠id:=by rw [kid];exact UE hi k8 g1 ho.gen.2 kg1 kg2 hik
    rw [List.count_cons_of_ne (Ne.symm hne),ed] at g5
    have hpos:0≤CH i (ob os i).gen:=by rw [H3 hi g1 ho.gen.2];omega
    have ef:((ob os k).field.filter fun x=>decide (0≤x)).count (CH i (ob os i).gen)=(ob os k).field.count (CH i (ob os i).gen):=List.count_filter (by simpa using hpos)
    refine ⟨g1,g2,g3,g4,by rw [List.count_append,ef];omega,g6,g7.trans ?_⟩
    simp [List.mem_filter,hne]
 ·obtain ⟨h1,h2⟩:=List.mem_filter.1 hx
  have hne:x≠id:=by simpa using h2
  rw [sl x hne];exact h.blv x h1
 ·rcases List.mem_append.1 hx with hx | hx
  ·have hne:x≠id:=fun he=>by
    subst he
    have:=List.count_pos_iff.2 hx
    omega
   rw [sl x hne];exact h.pd x (by simp [hx])
  ·obtain ⟨h1,h2⟩:=List.mem_filter.1 hx
   have h2:0≤x:=by simpa using h2
   rw [sl x fun he=>hnf k k8 kv (he ▸ h1)]
   exact (hok.lead x h1 (by omega)).2
end
def lvs (os:List AU):Nat:=os.countP (·.live)
theorem UL {os:List AU} {k:Nat} (hk:k<os.length) (kv:(ob os k).live=true) (v:AU):lvs (os.set k v)+1=lvs os+if v.live=true then 1 else 0:=by
 unfold lvs
 have e:=List.countP_set (p:=fun o:AU=>o.live) (a:=v) hk
 have hp:0<os.countP (fun o:AU=>o.live):=List.countP_pos_iff.2 ⟨os[k],List.getElem_mem hk,by rw [DN hk];exact kv⟩
 rw [e,DN hk,kv]
 simp only [if_true]
 omega
theorem eJ {os:List AU} (h:os.length=8):lvs os≤8:=by
 have:=List.countP_le_length (p:=fun o:AU=>o.live) (l:=os)
 unfold lvs;omega
theorem HP.vI {ns:Nat}: ∀(f:Nat) {os:List AU} {buf todo freed:List Int},HP os ns buf todo→freed.length+lvs os≤8→todo.length+4*lvs os<f→HP (HO f os buf freed todo).1 ns (HO f os buf freed todo).2.1 []:=by
 intro f
 induction f with
 | zero=>intro os buf todo freed _ _ h;omega
 | succ f ih=>
   intro os buf todo freed h h8 hf
   cases todo with
   | nil=>exact h
   | cons id pd=>
     have hs:=h.pd id (by simp)
     obtain ⟨k,hk⟩: ∃k:Nat,AB os id=(k:Int):=⟨(AB os id).toNat,by omega⟩
     obtain ⟨k8,kv,kid,kg1,kg2,kid8,kc,kc1,kF⟩:=h.at hk
     have hkl:k<os.length:=by have:=h.ol;omega
     simp only [HO,hk,Int.toNat_natCast]
     rw [if_neg (by omega),if_neg (by omega)]
     have ew:w64 ((ob os k).count-1)=(ob os k).count-1:=LO ⟨by omega,by have:=kF.2;omega⟩
     rw [ew]
     have lset:=UL hkl kv
     have lvd: ∀v:AU,v.live=true→lvs (os.set k v)=lvs os:=fun v hv=>by
      have:=lset v
      rw [if_pos hv] at this;omega
     simp only [List.length_cons] at hf
     by_cases hc:(ob os k).count-1>0
     ·rw [if_pos hc]
      have hpk:=((h.obj k k8).lv kv).2.2.2.2.2.2
      rw [←kid] at hpk
      by_cases hp:(ob os k).purple=true
      ·rw [if_pos hp]
       exact ih (h.dec hk rfl rfl rfl rfl rfl rfl rfl (by simp only;omega) (fun x _=>Iff.rfl) hpk h.bnd) (by rw [lvd] <;> first | omega | exact kv) (by rw [lvd] <;> first | omega | exact kv)
      ·rw [if_neg hp]
       have hni:id∉buf:=fun hm=>hp (hpk.2 hm)
       exact ih (h.dec hk rfl rfl rfl rfl rfl rfl rfl (by simp only;omega) (fun x hx=>by simp [hx]) (by simp) (List.nodup_append.2 ⟨h.bnd,by simp,fun a ha b hb=>by
        have hb:b=id:=by simpa using hb
        subst hb;intro he;exact hni (he ▸ ha)⟩)) (by rw [lvd] <;> first | omega | exact kv) (by rw [lvd] <;> first | omega | exact kv)
     ·rw [if_neg hc]
      have hl:=lset (B6 (ob os k).gen)
      rw [if_neg (by simp [B6])] at hl
      have hfl:=List.length_filter_le (fun x=>decide (0≤x)) (ob os k).field
      rw [(h.obj k k8).len] at hfl
      exact ih (h.free hk (by omega)) (by rw [List.length_append,List.length_singleton];omega) (by rw [List.length_append];omega)
theorem HP.GR {ns:Nat} {os:List AU} {buf:List Int} {x:Int} (h:HP os ns buf [x]):HP (GR os buf [x]).1 ns (GR os buf [x]).2.1 []:=by
 have hol:=h.ol
 have:=eJ hol
 exact HP.vI _ h (by simp only [List.length_nil];omega) (by simp only [List.length_singleton];omega)
end Go.Proofs.Ytklmcfpgdfibnaa.P
