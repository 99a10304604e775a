/- A part of the proof. -/
import Derived.Test.YtnhicpkhkaihoaaGreatFaWireD
import Derived.Test.YtnhicpkhkaihoaaGreatFaRowO
import Derived.Test.YtnhicpkhkaihoaaGreatFaWireH
import Derived.Test.YtnhicpkhkaihoaaGreatFaTxtH
namespace Go.Proofs.YtnhicpkhkaihoaaGreat.P
open Go Go.Proofs.YtnhicpkhkaihoaaGreat Go.Proofs.YtnhicpkhkaihoaaGreat.Eng
set_option maxHeartbeats 4000000
set_option linter.unusedVariables false
set_option linter.unusedSimpArgs false
attribute [local irreducible] prP gP gE gF AU ixW ldc ldg ldl stc stg scW mkW apW BG cl2 BX GP CZ
variable {w0:World}
end Go.Proofs.YtnhicpkhkaihoaaGreat.P
namespace Go.Proofs.YtnhicpkhkaihoaaGreat.P
open Go Go.Proofs.YtnhicpkhkaihoaaGreat Go.Proofs.YtnhicpkhkaihoaaGreat.Eng
set_option maxHeartbeats 4000000
set_option linter.unusedVariables false
set_option linter.unusedSimpArgs false
attribute [local irreducible] prP gP gE gF AU ixW ldc ldg ldl stc stg scW mkW apW BG cl2 BX GP CZ
variable {w0:World}
theorem wJ (n:Int) (l:List ByteArray) (s:ByteArray):(CC n l s).a.freed.length≤8∧(CC n l s).sites.length≤l.length+1∧(CC n l s).o.site.size≤s.size+8:=by
 unfold CC
 split
 ·exact ⟨Nat.zero_le _,Nat.le_succ _,Nat.zero_le _⟩
 ·rename_i e he
  split
  ·rename_i hok
   have h1:=U1 n l e.1 e.2
   refine ⟨?_,h1.2, ?_⟩
   ·rcases Nat.lt_or_ge 8 e.2.freed.length with h | h
    ·exact absurd (ZU h) hok.1
    ·exact h
   ·have hne:=hok.1
    rw [HE,MI] at hne
    split at hne
    ·rename_i hk
     simp only [okE,cY,Bool.and_eq_true,decide_eq_true_eq] at hk
     simp only;omega
    ·exact absurd rfl hne
  ·exact ⟨Nat.zero_le _,Nat.le_succ _,Nat.zero_le _⟩
structure Gj (n:Int) (l:List ByteArray):Prop where
 n:F64 n
 len:(l.length:Int)<2^63
 all: ∀s∈l,(s.size:Int)<2^63
def dcd (ps:List ByteArray):Nat→Option (List Op5×List An×Int×List ByteArray)
 | 0=>some ([],[],0,[])
 | i+1=>match dcd ps i with
   | none=>none
   | some q=>if (CC q.2.2.1 q.2.2.2 (gS ps i)).ok=true then some (q.1++[(CC q.2.2.1 q.2.2.2 (gS ps i)).o],q.2.1++[(CC q.2.2.1 q.2.2.2 (gS ps i)).a],(CC q.2.2.1 q.2.2.2 (gS ps i)).last,(CC q.2.2.1 q.2.2.2 (gS ps i)).sites) else none
theorem Z8 {ps:List ByteArray} {i:Nat} (h:dcd ps i=none): ∀k,i≤k→dcd ps k=none
 | 0,hk=>by
   have:i=0:=by omega
   subst this;exact h
 | k+1,hk=>by
   rcases Nat.lt_or_ge k i with h1 | h1
   ·have:i=k+1:=by omega
    subst this;exact h
   ·rw [dcd,Z8 h k h1]
def decode (s:ByteArray):List Op5×List An×Int:=if (rl s).2≠0 then ([],[],1) else match dcd (rl s).1 (rl s).1.length with
 | none=>([],[],2)
 | some q=>(q.1,q.2.1,0)
structure DcI (ps:List ByteArray) (q:Nat×List Op5×List An×Int×List ByteArray):Prop where
 eq:dcd ps q.1=some q.2
 le:q.1≤ps.length
 ol:q.2.1.length=q.1
 al:q.2.2.1.length=q.1
 sl:q.2.2.2.2.length≤q.1
 fr: ∀a∈q.2.2.1,a.freed.length≤8
theorem DcI.next {ps:List ByteArray} {q:Nat×List Op5×List An×Int×List ByteArray} (h:DcI ps q) (hlt:q.1<ps.length) (hok:(CC q.2.2.2.1 q.2.2.2.2 (gS ps q.1)).ok=true):
  DcI ps (q.1+1,q.2.1++[(CC q.2.2.2.1 q.2.2.2.2 (gS ps q.1)).o],q.2.2.1++[(CC q.2.2.2.1 q.2.2.2.2 (gS ps q.1)).a],(CC q.2.2.2.1 q.2.2.2.2 (gS ps q.1)).last,(CC q.2.2.2.1 q.2.2.2.2 (gS ps q.1)).sites):=by
 obtain ⟨h1,h2,h3,h4,h5,h6⟩:=h
 have hb:=wJ q.2.2.2.1 q.2.2.2.2 (gS ps q.1)
 refine ⟨by rw [dcd,h1];exact if_pos hok,hlt,by simp [h3],by simp [h4],by simp only;omega,fun a ha=> ?_⟩
 rcases List.mem_append.1 ha with ha | ha
 ·exact h6 a ha
 ·rw [List.mem_singleton.1 ha];exact hb.1
theorem DcI.zero (ps:List ByteArray):DcI ps (0,[],[],0,[]):=⟨rfl,Nat.zero_le _,rfl,rfl,Nat.le_refl _,by simp⟩
theorem XI {ps:List ByteArray}: ∀(i:Nat) q,i≤ps.length→dcd ps i=some q→DcI ps (i,q)
 | 0,q,_,h=>by
   simp only [dcd,Option.some.injEq] at h
   subst h;exact DcI.zero ps
 | i+1,q,hi,h=>by
   rw [dcd] at h
   split at h
   ·cases h
   ·rename_i p hp
    split at h
    ·rename_i hok
     cases h
     exact (XI i p (by omega) hp).next (by simp only;omega) hok
    ·cases h
theorem W4 (s:ByteArray):(decode s).1.length≤s.size+1∧(decode s).2.1.length≤s.size+1∧ ∀a∈(decode s).2.1,a.freed.length≤8:=by
 have hl:=(mV s).1
 unfold decode
 split
 ·simp
 ·split
  ·simp
  ·rename_i q hq
   obtain ⟨h1,h2,h3,h4,h5,h6⟩:=XI _ q (Nat.le_refl _) hq
   simp only at h2 h3 h4 h6
   exact ⟨by simp only;omega,by simp only;omega,h6⟩
theorem V7 (l:List Op5) (x:Op5):tR tP l++[T.c (I x.kind), .c (I x.a), .c (I x.b), .c (I x.c), .c (.string x.site)]=tR tP (l++[x]):=e7 l x
theorem VQ (l:List An) (x:An):tR tA l++[T.c (I x.code), .c (I x.val), .l 1 (tI x.freed)]=tR tA (l++[x]):=e7 l x
theorem UA {s:ByteArray} {K:J2} (hs:(s.size:Int)<2^30) (h:K [I (decode s).2.2] [tR tP (decode s).1,tR tA (decode s).2.1]):cl2 ⟨Tryz.prog,w0⟩ 14 GX.sg [.string s] [] K:=by
 refine GX.cl2 ?_
 unfold GX.txt
 have hl:=mV s
 refine bL (by omega) (B9 (AG (fun h0=> ?_) fun h0=> ?_))
 ·rw [decode,if_pos h0] at h;exact h
 ·rw [decode,if_neg h0] at h
  generalize (rl s).1=ps at hl h ⊢
  simp only [AK,AS,AJ,AI,AM,AE,AH,AN,AO,AP,AL,AR,AT,AQ,BB,BE,BI,BH,BK,BJ,BF,AX,A4,AY,A1,AZ,A5]
  refine CQ (α:=Nat×List Op5×List An×Int×List ByteArray) (fun q=>[iv ps.length,iv q.1,I q.2.2.2.1]) (fun q=>[tR tP q.2.1,tR tA q.2.2.1,tS ps,tS q.2.2.2.2]) (fun q=>ps.length-q.1) (DcI ps) (0,[],[],0,[]) rfl rfl (DcI.zero ps) (fun R q hq hR=> ?_)
  obtain ⟨h1,h2,h3,h4,h5,h6⟩:=id hq
  simp only [AK,AS,AJ,AI,AM,AE,AH,AN,AO,AP,AL,AR,AT,AQ,BB,BE,BI,BH,BK,BJ,BF,AX,A4,AY,A1,AZ,A5]
  refine AV (AG (fun hlt=> ?_) fun hge=> ?_)
  ·have hlt:q.1<ps.length:=by omega
   have hz:=hl.2 _ (fK hlt)
   have hn:=fun hok=>hR _ (hq.next hlt hok) (by simp only;omega)
   simp only at hn
   refine AW hlt (ldS hlt (W3 (by omega) (by omega) (BU ?_)))
   cases hok:(CC q.2.2.2.1 q.2.2.2.2 (gS ps q.1)).ok with
   | false=>
     refine BP ?_
     have:dcd ps (q.1+1)=none:=by rw [dcd,h1];exact if_neg (by rw [hok];decide)
     rw [Z8 this ps.length hlt] at h;exact h
   | true=>
     refine BT (DP rfl (by first | omega | (simp only [AK,AS,AJ,AI,AM,AE,AH,AN,AO,AP,AL,AR,AT,AQ,BB,BE,BI,BH,BK,BJ,BF,AX,A4,AY,A1,AZ,A5];omega)) (X2 (by first | omega | (simp only [AK,AS,AJ,AI,AM,AE,AH,AN,AO,AP,AL,AR,AT,AQ,BB,BE,BI,BH,BK,BJ,BF,AX,A4,AY,A1,AZ,A5];omega)) (A6 (by omega) ?_)))
     have:=hn hok
     rw [←V7, ←VQ] at this
     exact this
  ·have he:q.1=ps.length:=by omega
   rw [he] at h1
   rw [h1] at h;exact h
theorem UJ {s:ByteArray} {K:J2} (hs:(s.size:Int)<2^30) (h:K [I (decode s).2.2] [tR tP (decode s).1,tR tA (decode s).2.1]):cl2 ⟨Tryz.prog,w0⟩ 19 G7.sg [.string s] [] K:=by
 refine G7.cl2 ?_
 unfold G7.txt
 have hl:=mV s
 refine aK (by omega) (B9 (AG (fun h0=> ?_) fun h0=> ?_))
 ·rw [decode,if_pos h0] at h;exact h
 ·rw [decode,if_neg h0] at h
  generalize (rl s).1=ps at hl h ⊢
  simp only [AK,AS,AJ,AI,AM,AE,AH,AN,AO,AP,AL,AR,AT,AQ,BB,BE,BI,BH,BK,BJ,BF,AX,A4,AY,A1,AZ,A5]
  refine CQ (α:=Nat×List Op5×List An×Int×List ByteArray) (fun q=>[iv q.1,I q.2.2.2.1]) (fun q=>[tS ps,tR tP q.2.1,tR tA q.2.2.1,tS q.2.2.2.2]) (fun q=>ps.length-q.1) (DcI ps) (0,[],[],0,[]) rfl rfl (DcI.zero ps) (fun R q hq hR=> ?_)
  obtain ⟨h1,h2,h3,h4,h5,h6⟩:=id hq
  simp only [AK,AS,AJ,AI,AM,AE,AH,AN,AO,AP,AL,AR,AT,AQ,BB,BE,BI,BH,BK,BJ,BF,AX,A4,AY,A1,AZ,A5]
  refine AV (AG (fun hlt=> ?_) fun hge=> ?_)
  ·have hlt:q.1<ps.length:=by omega
   have hz:=hl.2 _ (fK hlt)
   have hn:=fun hok=>hR _ (hq.next hlt hok) (by simp only;omega)
   simp only at hn
   refine AW hlt (ldS hlt (XK (by omega) (by omega) (BU ?_)))
   cases hok:(CC q.2.2.2.1 q.2.2.2.2 (gS ps q.1)).ok with
   | false=>
     refine BP ?_
     have:dcd ps (q.1+1)=none:=by rw [dcd,h1];exact if_neg (by rw [hok];decide)
     rw [Z8 this ps.length hlt] at h;exact h
   | true=>
     refine BT (DP rfl (by first | omega | (simp only [AK,AS,AJ,AI,AM,AE,AH,AN,AO,AP,AL,AR,AT,AQ,BB,BE,BI,BH,BK,BJ,BF,AX,A4,AY,A1,AZ,A5];omega)) (X2 (by first | omega | (simp only [AK,AS,AJ,AI,AM,AE,AH,AN,AO,AP,AL,AR,AT,AQ,BB,BE,BI,BH,BK,BJ,BF,AX,A4,AY,A1,AZ,A5];omega)) (A6 (by omega) ?_)))
     have:=hn hok
     rw [←V7, ←VQ] at this
     exact this
  ·have he:q.1=ps.length:=by omega
   rw [he] at h1
   rw [h1] at h;exact h
end Go.Proofs.YtnhicpkhkaihoaaGreat.P
namespace Go.Proofs.YtnhicpkhkaihoaaGreat.P
open Go Go.Proofs.YtnhicpkhkaihoaaGreat Go.Proofs.YtnhicpkhkaihoaaGreat.Eng
set_option linter.unusedVariables false
set_option maxHeartbeats 4000000
set_option linter.unusedVariables false
set_option linter.unusedSimpArgs false
attribute [local irreducible] prP gP gE gF AU ixW ldc ldg ldl stc stg scW mkW apW BG cl2 BX GP CZ
variable {w0:World}
theorem vH: ∀(f:Nat) {os:List A7} {buf freed todo:List Int},os.length=8→(∀o∈os,OF o)→freed.length≤9→(J3 f os buf freed todo).1.length=8∧(∀o∈(J3 f os buf freed todo).1,OF o)∧(J3 f os buf freed todo).2.1.length≤buf.length+f∧(J3 f os buf freed todo).2.2.length≤9:=by
 intro f
 induction f with
 | zero=>intro os buf freed todo h1 h2 h3;exact ⟨h1,h2,by simp [J3],h3⟩
 | succ f ih=>
   intro os buf freed todo h1 h2 h3
   cases todo with
   | nil=>exact ⟨h1,h2,by simp [J3],h3⟩
   | cons id l=>
     simp only [J3]
     by_cases h8:freed.length>8
     ·rw [if_pos h8];exact ⟨h1,h2,by simp only;omega,h3⟩
     rw [if_neg h8]
     by_cases hs:AD os id<0
     ·rw [if_pos hs]
      have:=ih (buf:=buf) (todo:=l) h1 h2 h3
      exact ⟨this.1,this.2.1,by omega,this.2.2.2⟩
     rw [if_neg hs]
     have hk:=BV (l:=os) (id:=id) (by omega)
     have ho:=h2 _ (IM (l:=os) (i:=(AD os id).toNat) (by omega))
     by_cases hc:w64 ((ob os (AD os id).toNat).count-1)>0
     ·rw [if_pos hc]
      by_cases hp:(ob os (AD os id).toNat).purple=true
      ·rw [if_pos hp]
       have:=ih (buf:=buf) (freed:=freed) (todo:=l) (os:=os.set (AD os id).toNat {ob os (AD os id).toNat with count:=w64 ((ob os (AD os id).toNat).count-1)}) (by simpa using h1) (JF h2 ⟨ho.gen,ho.len,ho.fld⟩) h3
       exact ⟨this.1,this.2.1,Nat.le_trans this.2.2.1 (by omega),this.2.2.2⟩
      ·rw [if_neg hp]
       have:=ih (buf:=buf++[id]) (freed:=freed) (todo:=l) (os:=os.set (AD os id).toNat {ob os (AD os id).toNat with count:=w64 ((ob os (AD os id).toNat).count-1),purple:=true}) (by simpa using h1) (JF h2 ⟨ho.gen,ho.len,ho.fld⟩) h3
       exact ⟨this.1,this.2.1,Nat.le_trans this.2.2.1 (by rw [List.length_append,List.length_singleton];omega),this.2.2.2⟩
     ·rw [if_neg hc]
      have hb:=List.length_filter_le (fun x=>decide (x≠id)) buf
      have:=ih (buf:=buf.filter fun x=>decide (x≠id)) (freed:=freed++[id]) (todo:=l++(ob os (AD os id).toNat).field.filter fun x=>decide (0≤x)) (os:=os.set (AD os id).toNat (CT (ob os (AD os id).toNat).gen)) (by simpa using h1) (JF h2 (OF.free ho.gen)) (by rw [List.length_append,List.length_singleton];omega)
      exact ⟨this.1,this.2.1,by omega,this.2.2.2⟩
structure Small (h:Hp) (a:An):Prop where
 fits:Fits h
 fr:a.freed.length≤9
theorem Small.mk' {h:Hp} {a:An} (h1:h.BD.length=8) (h2: ∀o∈h.BD,OF o) (h3:h.B8.length=8) (h4:h.buffer.length≤1000) (h5:h.sites.length≤7) (h6: ∀s∈h.sites,(s.size:Int)≤1048576) (h7:a.freed.length≤9):Small h a:=
 ⟨⟨by omega,fun o ho=>by have:=(h2 o ho).len;omega,by omega,by omega,by omega,h6⟩,h7⟩
theorem rV {os:List A7} {ss:List ByteArray} {s:ByteArray} (h1:os.length=8) (h2: ∀o∈os,OF o) (h5:ss.length≤6) (h6: ∀s∈ss,(s.size:Int)≤1048576):(HG os ss s).1.length=8∧(∀o∈(HG os ss s).1,OF o)∧(HG os ss s).2.1.length≤7∧(∀s'∈(HG os ss s).2.1,(s'.size:Int)≤1048576)∧(HG os ss s).2.2.freed=[]:=by
 unfold HG
 by_cases hb: ¬(1≤(s.size:Int)∧(s.size:Int)≤8)
 ·rw [if_pos hb];exact ⟨h1,h2,by simp only;omega,h6,rfl⟩
 rw [if_neg hb]
 by_cases hf:CX os<0
 ·rw [if_pos hf];exact ⟨h1,h2,by simp only;omega,h6,rfl⟩
 rw [if_neg hf]
 split
 ·exact ⟨h1,h2,by simp only;omega,h6,rfl⟩
 ·refine ⟨by simpa using h1,JF h2 ⟨lA _,rfl,by simp [N8,RN,F64]⟩, ?_, ?_,rfl⟩
  ·simp only;split
   ·rw [List.length_append,List.length_singleton];omega
   ·omega
  ·simp only;split
   ·intro s' hs'
    rcases List.mem_append.1 hs' with h | h
    ·exact h6 s' h
    ·have:s'=s:=by simpa using h
     subst this;omega
   ·exact h6
theorem a9 {os:List A7} {buf:List Int} {x:Int} (h1:os.length=8) (h2: ∀o∈os,OF o):(IQ os buf [x]).1.length=8∧(∀o∈(IQ os buf [x]).1,OF o)∧(IQ os buf [x]).2.1.length≤buf.length+38∧(IQ os buf [x]).2.2.length≤9:=vH _ h1 h2 (by simp)
theorem OF.holds {o:A7} {v:Int} (h:OF o):OF {o with holds:=v}:=⟨h.gen,h.len,h.fld⟩
theorem OF.roots {o:A7} {v:Int} (h:OF o):OF {o with roots:=v}:=⟨h.gen,h.len,h.fld⟩
theorem vB {os:List A7} {buf:List Int} {kd id:Int} (h1:os.length=8) (h2: ∀o∈os,OF o):(KA os buf kd id).1.length=8∧(∀o∈(KA os buf kd id).1,OF o)∧(KA os buf kd id).2.1.length≤buf.length+38∧(KA os buf kd id).2.2.freed.length≤9:=by
 unfold KA
 by_cases hs:AD os id<0
 ·rw [if_pos hs];exact ⟨h1,h2,by simp only;omega,by simp⟩
 rw [if_neg hs]
 have hk:=BV (l:=os) (id:=id) (by omega)
 have ho:=h2 _ (IM (l:=os) (i:=(AD os id).toNat) (by omega))
 have a1: ∀{v:A7},OF v→(os.set (AD os id).toNat v).length=8∧ ∀o∈os.set (AD os id).toNat v,OF o:=fun hv=>⟨by simpa using h1,JF h2 hv⟩
 have a2: ∀{v:A7},OF v→(EE (os.set (AD os id).toNat v) id).length=8∧ ∀o∈EE (os.set (AD os id).toNat v) id,OF o:=fun hv=>⟨by rw [QS];simpa using h1,V5 (JF h2 hv)⟩
 split
 ·split
  ·exact ⟨h1,h2,by simp only;omega,by simp⟩
  ·exact ⟨(a2 (OF.holds ho)).1,(a2 (OF.holds ho)).2,by simp only;omega,by simp⟩
 ·split
  ·split
   ·exact ⟨h1,h2,by simp only;omega,by simp⟩
   ·exact ⟨(a2 (OF.roots ho)).1,(a2 (OF.roots ho)).2,by simp only;omega,by simp⟩
  ·split
   ·split
    ·exact ⟨h1,h2,by simp only;omega,by simp⟩
    ·exact a9 (a1 (OF.holds ho)).1 (a1 (OF.holds ho)).2
   ·split
    ·exact ⟨h1,h2,by simp only;omega,by simp⟩
    ·exact a9 (a1 (OF.roots ho)).1 (a1 (OF.roots ho)).2
theorem rQ {os:List A7} {buf:List Int} {a b c:Int} (h1:os.length=8) (h2: ∀o∈os,OF o) (hc:F64 c):(HZ os buf a b c).1.length=8∧(∀o∈(HZ os buf a b c).1,OF o)∧(HZ os buf a b c).2.1.length≤buf.length+38∧(HZ os buf a b c).2.2.freed.length≤9:=by
 unfold HZ
 by_cases hs:AD os a<0∨(c≠ -1∧AD os c<0)
 ·rw [if_pos hs];exact ⟨h1,h2,by simp only;omega,by simp⟩
 rw [if_neg hs]
 have hk:=BV (l:=os) (id:=a) (by omega)
 have ho:=h2 _ (IM (l:=os) (i:=(AD os a).toNat) (by omega))
 have gl:=QS os c
 have gof:=V5 (id:=c) h2
 have hg:=gof _ (IM (l:=EE os c) (i:=(AD os a).toNat) (by omega))
 have a1:((EE os c).set (AD os a).toNat {ob (EE os c) (AD os a).toNat with field:=(ob os (AD os a).toNat).field.set b.toNat c}).length=8∧ ∀o∈(EE os c).set (AD os a).toNat {ob (EE os c) (AD os a).toNat with field:=(ob os (AD os a).toNat).field.set b.toNat c},OF o:=⟨by rw [List.length_set];omega,JF gof (OF.put hg (by rw [List.length_set];exact ho.len) fun x hx=>(List.mem_or_eq_of_mem_set hx).elim (ho.fld x) fun he=>he ▸ hc)⟩
 split
 ·exact ⟨h1,h2,by simp only;omega,by simp⟩
 ·split
  ·exact ⟨a1.1,a1.2,by simp only;omega,by simp⟩
  ·exact a9 a1.1 a1.2
theorem kW {os:List A7} {ws:List Wk} {id:Int}:(NX os ws id).1.length=ws.length∧(NX os ws id).2.freed=[]:=by
 unfold NX
 split
 ·exact ⟨rfl,rfl⟩
 ·split
  ·exact ⟨rfl,rfl⟩
  ·exact ⟨by simp,rfl⟩
theorem ZE {os:List A7} {ws:List Wk} {kd k:Int}:(JB os ws kd k).1.length=ws.length∧(JB os ws kd k).2.freed=[]:=by
 unfold JB
 split
 ·exact ⟨rfl,rfl⟩
 ·split
  ·exact ⟨rfl,rfl⟩
  ·split
   ·exact ⟨by simp,rfl⟩
   ·split
    ·exact ⟨rfl,rfl⟩
    ·exact ⟨rfl,rfl⟩
theorem uC {os:List A7} {buf:List Int} (h1:os.length=8) (h2: ∀o∈os,OF o):(PL os buf).1.length=8∧(∀o∈(PL os buf).1,OF o)∧(PL os buf).2.length≤8:=by
 unfold PL
 refine ⟨C1 _,fun o ho=> ?_,NG (fun i=>by split <;> simp) 8⟩
 obtain ⟨i,hi,rfl⟩:=Y3 ho
 have hoi:=h2 _ (IM (l:=os) (i:=i) (by omega))
 have hm:OF (EF os (PC os (fun i=>(ob os i).count) buf) i):=by
  unfold EF
  split
  ·exact OF.free hoi.gen
  ·exact ⟨hoi.gen,hoi.len,hoi.fld⟩
 unfold I3
 split
 ·exact ⟨hm.gen,hm.len,hm.fld⟩
 ·exact hm
theorem ZB {h:Hp} {o:Op5} (st:St h) (hc:F64 o.c):Small (JL h o).1 (JL h o).2:=by
 have hb:=st.bl;have h5:=st.sl
 unfold JL
 split
 ·obtain ⟨a1,a2,a3,a4,a5⟩:=rV (s:=o.site) st.ol st.of st.sl st.ss
  exact Small.mk' a1 a2 st.wl (by simp only;omega) a3 a4 (by simp only [a5];simp)
 ·split
  ·obtain ⟨a1,a2,a3,a4⟩:=vB (buf:=h.buffer) (kd:=o.kind) (id:=o.a) st.ol st.of
   exact Small.mk' a1 a2 st.wl (by simp only;omega) (by simp only;omega) st.ss a4
  ·split
   ·obtain ⟨a1,a2,a3,a4⟩:=rQ (buf:=h.buffer) (a:=o.a) (b:=o.b) st.ol st.of hc
    exact Small.mk' a1 a2 st.wl (by simp only;omega) (by simp only;omega) st.ss a4
   ·split
    ·obtain ⟨a1,a2⟩:=kW (os:=h.BD) (ws:=h.B8) (id:=o.a)
     exact Small.mk' st.ol st.of (a1.trans st.wl) (by simp only;omega) (by simp only;omega) st.ss (by simp only [a2];simp)
    ·split
     ·obtain ⟨a1,a2⟩:=ZE (os:=h.BD) (ws:=h.B8) (kd:=o.kind) (k:=o.a)
      exact Small.mk' st.ol st.of (a1.trans st.wl) (by simp only;omega) (by simp only;omega) st.ss (by simp only [a2];simp)
     ·split
      ·obtain ⟨a1,a2,a3⟩:=uC (buf:=h.buffer) st.ol st.of
       exact Small.mk' a1 a2 st.wl (by simp) (by simp only;omega) st.ss (by simp only;omega)
      ·exact Small.mk' st.ol st.of st.wl (by simp only;omega) (by simp only;omega) st.ss (by simp)
end Go.Proofs.YtnhicpkhkaihoaaGreat.P
namespace Go.Proofs.YtnhicpkhkaihoaaGreat.P
open Go Go.Proofs.YtnhicpkhkaihoaaGreat Go.Proofs.YtnhicpkhkaihoaaGreat.Eng
set_option linter.unusedVariables false
theorem KP {k:Nat} {g:Int} (hk:k<8) (h1:1≤g) (h2:g≤999):C8 k g=k+8*g:=by unfold C8;rw [if_pos ⟨⟨by omega,by omega⟩,h1,h2⟩]
theorem LM {os:List A7} {k:Nat} (hol:os.length=8) (hk:k<8) (hv:(ob os k).live=true) (h1:1≤(ob os k).gen) (h2:(ob os k).gen≤999):AD os (C8 k (ob os k).gen)=k:=by
 rw [KP hk h1 h2]
 have e1:((k:Int)+8*(ob os k).gen) % 8=k:=by omega
 have e2:((k:Int)+8*(ob os k).gen)/8=(ob os k).gen:=by omega
 have e3:(((k:Int)+8*(ob os k).gen) % 8).toNat=k:=by omega
 rw [OI (by omega) hol (by omega) (by rw [e3];exact hv) (by rw [e3,e2]),e1]
theorem TI {os:List A7} {k:Nat} {x:Int} (h:AD os x=(k:Int)) (h1:1≤(ob os k).gen) (h2:(ob os k).gen≤999):x=C8 k (ob os k).gen:=by
 have hb:=BV (l:=os) (id:=x) (by omega)
 have e:(AD os x).toNat=k:=by omega
 rw [e] at hb
 rw [KP (by omega) h1 h2];omega
theorem LU {a b:List A7} {x:Int} (hl:a.length=b.length) (h: ∀i,i<a.length→(ob a i).live=(ob b i).live∧(ob a i).gen=(ob b i).gen):AD a x=AD b x:=by
 simp only [AD,hl]
 by_cases hx:x<8∨b.length≠8
 ·rw [if_pos hx,if_pos hx]
 ·rw [if_neg hx,if_neg hx]
  have:=h (x % 8).toNat (by omega)
  rw [this.1,this.2]
theorem XE {os:List A7} {k:Nat} {v:A7} {id:Int} (hk:k<os.length):CY (os.set k v) id+QQ id (ob os k)=CY os id+QQ id v:=by
 unfold CY
 rw [List.map_set]
 have hk':k<(os.map (QQ id)).length:=by simpa using hk
 have e:ob os k=os[k]:=(EG hk).symm
 have h1: ∀(l:List Nat) (k v:Nat) (hk:k<l.length),(l.set k v).sum+l[k]=l.sum+v:=by
  intro l
  induction l with
  | nil=>intro k v hk;simp at hk
  | cons x l ih=>
    intro k v hk
    cases k with
    | zero=>simp;omega
    | succ k=>
      have:=ih k v (by simpa using hk)
      simp only [List.set_cons_succ,List.sum_cons,List.getElem_cons_succ];omega
 have:=h1 (os.map (QQ id)) k (QQ id v) hk'
 rw [List.getElem_map] at this
 rw [e];exact this
structure Fs (os:List A7) (ns:Nat) (buf pd:List Int) (i:Nat):Prop where
 gen:0≤(ob os i).gen∧(ob os i).gen≤999
 len:(ob os i).field.length=3
 cb:(ob os i).count≤1000
 lead: ∀f∈(ob os i).field,f≠ -1→(ob os i).live=true∧0≤AD os f
 dead:(ob os i).live=false→(ob os i).site=0∧(ob os i).holds=0∧(ob os i).roots=0∧(ob os i).count=0∧(ob os i).purple=false
 lv:(ob os i).live=true→1≤(ob os i).gen∧(0≤(ob os i).site∧(ob os i).site≤(ns:Int)-1)∧(0≤(ob os i).holds∧(ob os i).holds≤20)∧(0≤(ob os i).roots∧(ob os i).roots≤20)∧
  (ob os i).count=(ob os i).holds+(ob os i).roots+CY os (C8 i (ob os i).gen)+pd.count (C8 i (ob os i).gen)∧1≤(ob os i).count∧((ob os i).purple=true↔C8 i (ob os i).gen∈buf)
structure HP (os:List A7) (ns:Nat) (buf pd:List Int):Prop where
 ol:os.length=8
 obj: ∀i,i<8→Fs os ns buf pd i
 bnd:buf.Nodup
 blv: ∀x∈buf,0≤AD os x
 pd: ∀x∈pd,0≤AD os x
theorem VI {os:List A7} {i:Nat} (hol:os.length=8) (hi:i<8) (hv:(ob os i).live=true):inE os i=CY os (C8 i (ob os i).gen):=by
 unfold inE
 rw [if_pos ⟨⟨by omega,by omega⟩,by rw [Int.toNat_natCast];exact hv⟩,Int.toNat_natCast]
theorem DU.hp {h:Hp} (hk:DU h):HP h.BD h.sites.length h.buffer []:=by
 refine ⟨hk.ol,fun i hi=> ?_,hk.bnd,fun x hx=>hk.bF hx,by simp⟩
 have ho:=hk.obj i hi
 refine ⟨ho.gen,ho.len, ?_,fun f hf hne=> ?_,ho.dead,fun hv=> ?_⟩
 ·cases hv:(ob h.BD i).live with
  | false=>have:=ho.dead hv;omega
  | true=>
    have hed:=QA (l:=h.BD) (id:=C8 i (ob h.BD i).gen) (b:=3) fun o ho'=>by
     obtain ⟨j,hj,rfl⟩:=List.getElem_of_mem ho'
     rw [EG hj,(hk.obj j (by have:=hk.ol;omega)).len];omega
    have e:=(ho.lv hv).2.2.2.2.1
    rw [VI hk.ol hi hv] at e
    have:=(ho.lv hv).2.2.1;have:=(ho.lv hv).2.2.2.1
    have hol:=hk.ol
    omega
 ·obtain ⟨j,hj,rfl⟩:=List.getElem_of_mem hf
  rw [GD hj] at hne ⊢
  exact ho.lead j (by have:=ho.len;omega) hne
 ·obtain ⟨a,b,c,d,e,f,g⟩:=ho.lv hv
  rw [VI hk.ol hi hv] at e
  refine ⟨a,b,c,d,by rw [e];simp,f,by rw [g];simp⟩
theorem HP.ok {os:List A7} {buf:List Int} {ws:List Wk} {ss:List ByteArray} (h:HP os ss.length buf []) (hw:ws.length=8) (hs:NB ss) (hwk: ∀i,i<8→((wk ws i).used=false→(wk ws i).target=0)∧((wk ws i).used=true→8≤(wk ws i).target∧(wk ws i).target≤7999)):DU ⟨os,ws,buf,ss⟩:=by
 refine ⟨h.ol,hw,hs,fun i hi=> ?_,hwk,fun i hi=>⟨h.blv _ (FD hi),fun hm=> ?_⟩⟩
 ·have ho:=h.obj i hi
  refine ⟨ho.gen,ho.len,fun j hj hne=>ho.lead _ (FD (by have:=ho.len;omega)) hne,ho.dead,fun hv=> ?_⟩
  obtain ⟨a,b,c,d,e,f,g⟩:=ho.lv hv
  refine ⟨a,b,c,d, ?_,f, ?_⟩
  ·have:=VI h.ol hi hv
   simp only at this ⊢
   rw [this,e];simp
  ·simp only
   cases hp:(ob os i).purple with
   | true=>exact (decide_eq_true (g.1 hp)).symm
   | false=>exact (decide_eq_false fun hm=>by have:=g.2 hm;rw [hp] at this;cases this).symm
 ·have hi:i<buf.length:=hi
  have hnd:=List.pairwise_iff_getElem.1 h.bnd
  obtain ⟨j,hj,he⟩:=List.mem_take_iff_getElem.1 hm
  have hj2:j<i:=by omega
  exact hnd j i (by omega) hi hj2 (by rw [he,GD hi])
theorem LQ {id:Int} {o:A7} (h:o.live=true):QQ id o=o.field.count id:=by unfold QQ;rw [if_pos h]
theorem TQ {id:Int} {o:A7} (h:o.live=false):QQ id o=0:=by unfold QQ;rw [if_neg (by rw [h];decide)]
theorem uJ {l:List Nat} {x:Nat} (h:x∈l):x≤l.sum:=by
 induction l with
 | nil=>simp at h
 | cons y l ih=>
   rw [List.sum_cons]
   rcases List.mem_cons.1 h with rfl | h
   ·omega
   ·have:=ih h;omega
theorem mZ {os:List A7} {id:Int} (h:CY os id=0) {i:Nat} (hi:i<os.length) (hv:(ob os i).live=true):id∉(ob os i).field:=by
 intro hm
 have h1:QQ id (ob os i)≤CY os id:=by
  unfold CY
  rw [←EG hi]
  exact uJ (List.mem_map.2 ⟨_,List.getElem_mem hi,rfl⟩)
 rw [LQ hv] at h1
 have:=List.count_pos_iff.2 hm
 omega
section
variable {os:List A7} {ns:Nat} {buf pd:List Int} {k:Nat} {id:Int}
theorem HP.at (h:HP os ns buf (id::pd)) (hk:AD os id=(k:Int)):k<8∧(ob os k).live=true∧id=C8 k (ob os k).gen∧1≤(ob os k).gen∧(ob os k).gen≤999∧8≤id∧(ob os k).count=(ob os k).holds+(ob os k).roots+CY os id+pd.count id+1∧1≤(ob os k).count∧F64 (ob os k).count:=by
 have hb:=BV (l:=os) (id:=id) (by omega)
 have e:(AD os id).toNat=k:=by omega
 rw [e] at hb
 have ho:=h.obj k hb.2.2.2.1
 obtain ⟨g1,_,g3,g4,g5,g6,_⟩:=ho.lv hb.2.2.2.2.1
 have hid:=TI hk g1 ho.gen.2
 rw [←hid,List.count_cons_self] at g5
 have:=ho.cb
 exact ⟨hb.2.2.2.1,hb.2.2.2.2.1,hid,g1,ho.gen.2,hb.2.1,by rw [g5];omega,g6,⟨by omega,by omega⟩⟩
theorem gW {i:Nat} {g g':Int} (hi:i<8) (hk:k<8) (h1:1≤g) (h2:g≤999) (h3:1≤g') (h4:g'≤999) (h:i≠k):C8 i g≠C8 k g':=by
 rw [KP hi h1 h2,KP hk h3 h4];omega
theorem HP.dec (h:HP os ns buf (id::pd)) (hk:AD os id=(k:Int)) {v:A7} {buf':List Int} (v1:v.live=(ob os k).live) (v2:v.gen=(ob os k).gen) (v3:v.site=(ob os k).site) (v4:v.holds=(ob os k).holds) (v5:v.roots=(ob os k).roots) (v6:v.field=(ob os k).field) (vc:v.count=(ob os k).count-1) (vp:1≤v.count) (hb: ∀x,x≠id→(x∈buf'↔x∈buf)) (hp:v.purple=true↔id∈buf') (hn:buf'.Nodup):HP (os.set k v) ns buf' pd:=by
 obtain ⟨k8,kv,kid,kg1,kg2,kid8,kc,kc1,_⟩:=h.at hk
 have hol:=h.ol
 have hkl:k<os.length:=by omega
 have same: ∀i,i<(os.set k v).length→(ob (os.set k v) i).live=(ob os i).live∧(ob (os.set k v) i).gen=(ob os i).gen:=fun i hi=>by
  rw [JY hkl];split
  ·rename_i he;subst he;exact ⟨v1,v2⟩
  ·exact ⟨rfl,rfl⟩
 have sl: ∀x,AD (os.set k v) x=AD os x:=fun x=>LU (by simp) same
 have ed: ∀x,CY (os.set k v) x=CY os x:=fun x=>SK (by simp) fun i hi=>by
  rw [JY hkl];split
  ·rename_i he;subst he;exact ⟨v1,v6⟩
  ·exact ⟨rfl,rfl⟩
 refine ⟨by simpa using hol,fun i hi=> ?_,hn,fun x hx=> ?_,fun x hx=>by rw [sl];exact h.pd x (by simp [hx])⟩
 ·have ho:=h.obj i hi
  by_cases hik:i=k
  ·subst hik
   have e:ob (os.set i v) i=v:=by rw [JY hkl,if_pos rfl]
   obtain ⟨g1,g2,g3,g4,g5,g6,g7⟩:=ho.lv kv
   refine ⟨by rw [e,v2];exact ho.gen,by rw [e,v6];exact ho.len,by rw [e,vc];have:=ho.cb;omega,fun f hf hne=> ?_,fun hd=> ?_,fun _=> ?_⟩
   ·rw [e,v6] at hf;rw [e,v1,sl];exact ho.lead f hf hne
   ·rw [e,v1,kv] at hd;cases hd
   ·rw [e,v2,v3,v4,v5,ed, ←kid]
    exact ⟨g1,g2,g3,g4,by rw [vc];omega,vp,hp⟩
  ·have e:ob (os.set k v) i=ob os i:=by rw [JY hkl,if_neg hik]
   refine ⟨by rw [e];exact ho.gen,by rw [e];exact ho.len,by rw [e];exact ho.cb,fun f hf hne=> ?_,fun hd=> ?_,fun hv=> ?_⟩
   ·rw [e] at hf;rw [e,sl];exact ho.lead f hf hne
   ·rw [e] at hd ⊢;exact ho.dead hd
   ·rw [e] at hv ⊢
    obtain ⟨g1,g2,g3,g4,g5,g6,g7⟩:=ho.lv hv
    have hne:C8 i (ob os i).gen≠id:=by rw [kid];exact gW hi k8 g1 ho.gen.2 kg1 kg2 hik
    rw [List.count_cons_of_ne (Ne.symm hne)] at g5
    exact ⟨g1,g2,g3,g4,by rw [ed];exact g5,g6,g7.trans (hb _ hne).symm⟩
 ·rw [sl]
  by_cases hxi:x=id
  ·subst hxi;omega
  ·exact h.blv x ((hb x hxi).1 hx)
theorem HP.free (h:HP os ns buf (id::pd)) (hk:AD os id=(k:Int)) (hc:(ob os k).count≤1):HP (os.set k (CT (ob os k).gen)) ns (buf.filter fun x=>decide (x≠id)) (pd++(ob os k).field.filter fun x=>decide (0≤x)):=by
 obtain ⟨k8,kv,kid,kg1,kg2,kid8,kc,kc1,_⟩:=h.at hk
 have hol:=h.ol
 have hkl:k<os.length:=by omega
 have hok:=h.obj k k8
 obtain ⟨_,_,hh,hr,_,_,_⟩:=hok.lv kv
 have e0:CY os id=0:=by omega
 have p0:pd.count id=0:=by omega
 have hnf: ∀i,i<8→(ob os i).live=true→id∉(ob os i).field:=fun i hi hv=>mZ e0 (by omega) hv
 have eo: ∀i,ob (os.set k (CT (ob os k).gen)) i=if i=k then CT (ob os k).gen else ob os i:=fun i=>JY hkl
 have sl: ∀x,x≠id→AD (os.set k (CT (ob os k).gen)) x=AD os x:=fun x hx=>by
  simp only [AD,List.length_set]
  by_cases h8:x<8∨os.length≠8
  ·rw [if_pos h8,if_pos h8]
  ·rw [if_neg h8,if_neg h8,eo]
   by_cases hxk:(x % 8).toNat=k
   ·rw [if_pos hxk,if_neg (by simp [CT]),if_neg fun hh=> ?_]
    rw [hxk] at hh
    rw [KP k8 kg1 kg2] at kid
    omega
   ·rw [if_neg hxk]
 have ed: ∀x,(CY os x:Int)=CY (os.set k (CT (ob os k).gen)) x+(ob os k).field.count x:=fun x=>by
  have e:=XE (os:=os) (v:=CT (ob os k).gen) (id:=x) hkl
  rw [LQ kv,TQ (o:=CT (ob os k).gen) rfl] at e
  omega
 refine ⟨by simpa using hol,fun i hi=> ?_,h.bnd.filter _,fun x hx=> ?_,fun x hx=> ?_⟩
 ·have ho:=h.obj i hi
  by_cases hik:i=k
  ·subst hik
   have e:ob (os.set i (CT (ob os i).gen)) i=CT (ob os i).gen:=by rw [eo,if_pos rfl]
   refine ⟨by rw [e];exact ho.gen,by rw [e];rfl,by rw [e];simp [CT],fun f hf hne=> ?_,fun _=>by rw [e];exact ⟨rfl,rfl,rfl,rfl,rfl⟩,fun hv=>by rw [e] at hv;cases hv⟩
   rw [e] at hf
   simp [CT,RN] at hf
   exact absurd hf hne
  ·have e:ob (os.set k (CT (ob os k).gen)) i=ob os i:=by rw [eo,if_neg hik]
   refine ⟨by rw [e];exact ho.gen,by rw [e];exact ho.len,by rw [e];exact ho.cb,fun f hf hne=> ?_,fun hd=> ?_,fun hv=> ?_⟩
   ·rw [e] at hf
    have hl:=ho.lead f hf hne
    rw [e,sl f fun he=>hnf i hi hl.1 (he ▸ hf)]
    exact hl
   ·rw [e] at hd ⊢;exact ho.dead hd
   ·rw [e] at hv ⊢
    obtain ⟨g1,g2,g3,g4,g5,g6,g7⟩:=ho.lv hv
    have hne:C8 i (ob os i).gen≠id:=by rw [kid];exact gW hi k8 g1 ho.gen.2 kg1 kg2 hik
    rw [List.count_cons_of_ne (Ne.symm hne),ed] at g5
    have hpos:0≤C8 i (ob os i).gen:=by rw [KP hi g1 ho.gen.2];omega
    have ef:((ob os k).field.filter fun x=>decide (0≤x)).count (C8 i (ob os i).gen)=(ob os k).field.count (C8 i (ob os i).gen):=List.count_filter (by simpa using hpos)
    refine ⟨g1,g2,g3,g4,by rw [List.count_append,ef];omega,g6,g7.trans ?_⟩
    simp [List.mem_filter,hne]
 ·obtain ⟨h1,h2⟩:=List.mem_filter.1 hx
  have hne:x≠id:=by simpa using h2
  rw [sl x hne];exact h.blv x h1
 ·rcases List.mem_append.1 hx with hx | hx
  ·have hne:x≠id:=fun he=>by
    subst he
    have:=List.count_pos_iff.2 hx
    omega
   rw [sl x hne];exact h.pd x (by simp [hx])
  ·obtain ⟨h1,h2⟩:=List.mem_filter.1 hx
   have h2:0≤x:=by simpa using h2
   rw [sl x fun he=>hnf k k8 kv (he ▸ h1)]
   exact (hok.lead x h1 (by omega)).2
end
def lvs (os:List A7):Nat:=os.countP (·.live)
theorem HP.Fe {ns:Nat}: ∀(f:Nat) {os:List A7} {buf todo freed:List Int},HP os ns buf todo→freed.length+lvs os≤8→todo.length+4*lvs os<f→HP (J3 f os buf freed todo).1 ns (J3 f os buf freed todo).2.1 []:=by
 intro f
 induction f with
 | zero=>intro os buf todo freed _ _ h;omega
 | succ f ih=>
   intro os buf todo freed h h8 hf
   cases todo with
   | nil=>exact h
   | cons id pd=>
     have hs:=h.pd id (by simp)
     obtain ⟨k,hk⟩: ∃k:Nat,AD os id=(k:Int):=⟨(AD os id).toNat,by omega⟩
     obtain ⟨k8,kv,kid,kg1,kg2,kid8,kc,kc1,kF⟩:=h.at hk
     have hkl:k<os.length:=by have:=h.ol;omega
     simp only [J3,hk,Int.toNat_natCast]
     rw [if_neg (by omega),if_neg (by omega)]
     have ew:w64 ((ob os k).count-1)=(ob os k).count-1:=OG ⟨by omega,by have:=kF.2;omega⟩
     rw [ew]
     have lset: ∀v:A7,lvs (os.set k v)+1=lvs os+if v.live=true then 1 else 0:=fun v=>by
      unfold lvs
      have e:=List.countP_set (p:=fun o:A7=>o.live) (a:=v) hkl
      have hp:0<os.countP (fun o:A7=>o.live):=List.countP_pos_iff.2 ⟨os[k],List.getElem_mem hkl,by rw [EG hkl];exact kv⟩
      rw [e,EG hkl,kv]
      simp only [if_true]
      omega
     have lvd: ∀v:A7,v.live=true→lvs (os.set k v)=lvs os:=fun v hv=>by
      have:=lset v
      rw [if_pos hv] at this;omega
     simp only [List.length_cons] at hf
     by_cases hc:(ob os k).count-1>0
     ·rw [if_pos hc]
      have hpk:=((h.obj k k8).lv kv).2.2.2.2.2.2
      rw [←kid] at hpk
      by_cases hp:(ob os k).purple=true
      ·rw [if_pos hp]
       exact ih (h.dec hk rfl rfl rfl rfl rfl rfl rfl (by simp only;omega) (fun x _=>Iff.rfl) hpk h.bnd) (by rw [lvd] <;> first | omega | exact kv) (by rw [lvd] <;> first | omega | exact kv)
      ·rw [if_neg hp]
       have hni:id∉buf:=fun hm=>hp (hpk.2 hm)
       exact ih (h.dec hk rfl rfl rfl rfl rfl rfl rfl (by simp only;omega) (fun x hx=>by simp [hx]) (by simp) (List.nodup_append.2 ⟨h.bnd,by simp,fun a ha b hb=>by
        have hb:b=id:=by simpa using hb
        subst hb;intro he;exact hni (he ▸ ha)⟩)) (by rw [lvd] <;> first | omega | exact kv) (by rw [lvd] <;> first | omega | exact kv)
     ·rw [if_neg hc]
      have hl:=lset (CT (ob os k).gen)
      rw [if_neg (by simp [CT])] at hl
      have hfl:=List.length_filter_le (fun x=>decide (0≤x)) (ob os k).field
      rw [(h.obj k k8).len] at hfl
      exact ih (h.free hk (by omega)) (by rw [List.length_append,List.length_singleton];omega) (by rw [List.length_append];omega)
theorem HP.IQ {ns:Nat} {os:List A7} {buf:List Int} {x:Int} (h:HP os ns buf [x]):HP (IQ os buf [x]).1 ns (IQ os buf [x]).2.1 []:=by
 have:=List.countP_le_length (p:=fun o:A7=>o.live) (l:=os)
 have hol:=h.ol
 exact HP.Fe _ h (by unfold lvs;simp only [List.length_nil];omega) (by unfold lvs;simp only [List.length_singleton];omega)
end Go.Proofs.YtnhicpkhkaihoaaGreat.P
