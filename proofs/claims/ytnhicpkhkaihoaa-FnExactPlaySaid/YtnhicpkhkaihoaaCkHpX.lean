/- A part of the proof. -/
import Derived.Test.YtnhicpkhkaihoaaCkWireD
import Derived.Test.YtnhicpkhkaihoaaCkRowO
import Derived.Test.YtnhicpkhkaihoaaCkWireH
import Derived.Test.YtnhicpkhkaihoaaCkTxtH
namespace Go.Proofs.Ytnhicpkhkaihoaa.P
open Go Go.Proofs.Ytnhicpkhkaihoaa Go.Proofs.Ytnhicpkhkaihoaa.Eng
set_option maxHeartbeats 4000000
set_option linter.unusedVariables false
set_option linter.unusedSimpArgs false
attribute [local irreducible] prP gP gE gF AU ixW ldc ldg ldl stc stg scW mkW apW BD cl2 BW FR DK
variable {w0:World}
theorem eB {o:Op5} {z:Int} {K:J2} (hs:(o.site.size:Int)<2^63) (hz:0≤z∧z≤2^62) (h0:K [I (-1)] []) (h1:(o.site.size:Int)≤z→K [I (z-o.site.size)] []):cl2 ⟨Try.prog,w0⟩ 61 ID.sg [I o.kind,I o.a,I o.b,I o.c, .string o.site,I z] [] K:=by
 refine ID.cl2 ?_
 unfold ID.txt
 repeat' (first | refine AV ?_ | refine UY ?_ | refine C1 ⟨by omega,by omega⟩ ?_ | refine AW (fun _=> ?_) (fun _=> ?_))
 ·exact h0
 ·exact h1 (by omega)
theorem ZY {z:Int} {l:List Op5} {K:J2} (hl:uH l) (hz:0≤z∧z≤2^62) (h0:K [I (-1)] []) (h1: ∀r,0≤r→r≤z→(l.length:Int)≤z→K [I r] []):cl2 ⟨Try.prog,w0⟩ 24 HM.sg [I z] [tR tP l] K:=by
 have hln:=hl.len
 refine HM.cl2 ?_
 unfold HM.txt
 simp only [AI,AM,AP,AR,AT,AD,AH,AL,AK,AO,AQ,AJ,AS,AN,BE,BJ,BH,BK,BI,BG,BF,A1,AZ,A5,A7,A6,A4]
 repeat' (first | refine AV ?_ | refine C1 ⟨by omega,by omega⟩ ?_ | refine AW (fun _=> ?_) (fun _=> ?_))
 ·exact h0
 ·refine FF (α:=Int×Nat) (fun p=>[I p.1,iv p.2]) (fun _=>[]) (fun p=>l.length-p.2) (fun p=>0≤p.1∧p.1≤z∧p.2≤l.length) (z-l.length,0) rfl rfl ⟨by simp only;omega,by simp only;omega,Nat.zero_le _⟩ (fun R p hp hR=> ?_)
  obtain ⟨r,i⟩:=p
  obtain ⟨p1,p2,p3⟩:=hp
  simp only at p1 p2 p3
  simp only [AI,AM,AP,AR,AT,AD,AH,AL,AK,AO,AQ,AJ,AS,AN,BE,BJ,BH,BK,BI,BG,BF,A1,AZ,A5,A7,A6,A4]
  refine AV (AW (fun hlt=> ?_) fun hge=> ?_)
  ·have hlt:i<l.length:=by simpa using hlt
   have hsz:=(hl.all _ (List.getElem_mem hlt)).s
   rw [dZ hlt] at hsz
   refine AG hlt (eZ hlt ?_)
   refine eB hsz ⟨p1,by omega⟩ ?_ fun h=> ?_
   ·repeat' (first | refine B4 ?_ | refine AV ?_)
    exact h0
   ·replace h:((po l i).site.size:Int)≤r:=h
    repeat' (first | refine B2 (by first | with_reducible assumption | omega) ?_ | refine AV ?_ | refine A8 (by omega) ?_ | simp only [AI,AM,AP,AR,AT,AD,AH,AL,AK,AO,AQ,AJ,AS,AN,BE,BJ,BH,BK,BI,BG,BF,A1,AZ,A5,A7,A6,A4])
    exact hR (r-(po l i).site.size,i+1) ⟨by simp only;omega,by simp only;omega,hlt⟩ (by simp only;omega)
  ·exact h1 r p1 p2 (by omega)
end Go.Proofs.Ytnhicpkhkaihoaa.P
namespace Go.Proofs.Ytnhicpkhkaihoaa.P
open Go Go.Proofs.Ytnhicpkhkaihoaa Go.Proofs.Ytnhicpkhkaihoaa.Eng
set_option maxHeartbeats 4000000
set_option linter.unusedVariables false
set_option linter.unusedSimpArgs false
attribute [local irreducible] prP gP gE gF AU ixW ldc ldg ldl stc stg scW mkW apW BD cl2 BW FR DK
variable {w0:World}
theorem mO (n:Int) (l:List ByteArray) (s:ByteArray):(MG n l s).a.freed.length≤8∧(MG n l s).sites.length≤l.length+1∧(MG n l s).o.site.size≤s.size+8:=by
 unfold MG
 split
 ·exact ⟨Nat.zero_le _,Nat.le_succ _,Nat.zero_le _⟩
 ·rename_i e he
  split
  ·rename_i hok
   have h1:=WE n l e.1 e.2
   refine ⟨?_,h1.2, ?_⟩
   ·rcases Nat.lt_or_ge 8 e.2.freed.length with h | h
    ·exact absurd (fP h) hok.1
    ·exact h
   ·have hne:=hok.1
    rw [KE,hD] at hne
    split at hne
    ·rename_i hk
     simp only [okE,sP,Bool.and_eq_true,decide_eq_true_eq] at hk
     simp only;omega
    ·exact absurd rfl hne
  ·exact ⟨Nat.zero_le _,Nat.le_succ _,Nat.zero_le _⟩
structure wM (n:Int) (l:List ByteArray):Prop where
 n:F64 n
 len:(l.length:Int)<2^63
 all: ∀s∈l,(s.size:Int)<2^63
def dcd (ps:List ByteArray):Nat→Option (List Op5×List An×Int×List ByteArray)
 | 0=>some ([],[],0,[])
 | i+1=>match dcd ps i with
   | none=>none
   | some q=>if (MG q.2.2.1 q.2.2.2 (gS ps i)).ok=true then some (q.1++[(MG q.2.2.1 q.2.2.2 (gS ps i)).o],q.2.1++[(MG q.2.2.1 q.2.2.2 (gS ps i)).a],(MG q.2.2.1 q.2.2.2 (gS ps i)).last,(MG q.2.2.1 q.2.2.2 (gS ps i)).sites) else none
structure DcI (ps:List ByteArray) (q:Nat×List Op5×List An×Int×List ByteArray):Prop where
 eq:dcd ps q.1=some q.2
 le:q.1≤ps.length
 ol:q.2.1.length=q.1
 al:q.2.2.1.length=q.1
 sl:q.2.2.2.2.length≤q.1
 fr: ∀a∈q.2.2.1,a.freed.length≤8
theorem DcI.next {ps:List ByteArray} {q:Nat×List Op5×List An×Int×List ByteArray} (h:DcI ps q) (hlt:q.1<ps.length) (hok:(MG q.2.2.2.1 q.2.2.2.2 (gS ps q.1)).ok=true):
  DcI ps (q.1+1,q.2.1++[(MG q.2.2.2.1 q.2.2.2.2 (gS ps q.1)).o],q.2.2.1++[(MG q.2.2.2.1 q.2.2.2.2 (gS ps q.1)).a],(MG q.2.2.2.1 q.2.2.2.2 (gS ps q.1)).last,(MG q.2.2.2.1 q.2.2.2.2 (gS ps q.1)).sites):=by
 obtain ⟨h1,h2,h3,h4,h5,h6⟩:=h
 have hb:=mO q.2.2.2.1 q.2.2.2.2 (gS ps q.1)
 refine ⟨by rw [dcd,h1];exact if_pos hok,hlt,by simp [h3],by simp [h4],by simp only;omega,fun a ha=> ?_⟩
 rcases List.mem_append.1 ha with ha | ha
 ·exact h6 a ha
 ·rw [List.mem_singleton.1 ha];exact hb.1
theorem DcI.zero (ps:List ByteArray):DcI ps (0,[],[],0,[]):=⟨rfl,Nat.zero_le _,rfl,rfl,Nat.le_refl _,by simp⟩
theorem jQ (l:List An) (x:An):tR tA l++[T.c (I x.code), .c (I x.val), .l 1 (tI x.freed)]=tR tA (l++[x]):=iT l x
end Go.Proofs.Ytnhicpkhkaihoaa.P
namespace Go.Proofs.Ytnhicpkhkaihoaa.P
open Go Go.Proofs.Ytnhicpkhkaihoaa Go.Proofs.Ytnhicpkhkaihoaa.Eng
set_option linter.unusedVariables false
set_option maxHeartbeats 4000000
set_option linter.unusedVariables false
set_option linter.unusedSimpArgs false
attribute [local irreducible] prP gP gE gF AU ixW ldc ldg ldl stc stg scW mkW apW BD cl2 BW FR DK
variable {w0:World}
theorem lZ: ∀(f:Nat) {os:List AX} {buf freed todo:List Int},os.length=8→(∀o∈os,OF o)→freed.length≤9→(IK f os buf freed todo).1.length=8∧(∀o∈(IK f os buf freed todo).1,OF o)∧(IK f os buf freed todo).2.1.length≤buf.length+f∧(IK f os buf freed todo).2.2.length≤9:=by
 intro f
 induction f with
 | zero=>intro os buf freed todo h1 h2 h3;exact ⟨h1,h2,by simp [IK],h3⟩
 | succ f ih=>
   intro os buf freed todo h1 h2 h3
   cases todo with
   | nil=>exact ⟨h1,h2,by simp [IK],h3⟩
   | cons id l=>
     simp only [IK]
     by_cases h8:freed.length>8
     ·rw [if_pos h8];exact ⟨h1,h2,by simp only;omega,h3⟩
     rw [if_neg h8]
     by_cases hs:AB os id<0
     ·rw [if_pos hs]
      have:=ih (buf:=buf) (todo:=l) h1 h2 h3
      exact ⟨this.1,this.2.1,by omega,this.2.2.2⟩
     rw [if_neg hs]
     have hk:=BL (l:=os) (id:=id) (by omega)
     have ho:=h2 _ (GK (l:=os) (i:=(AB os id).toNat) (by omega))
     by_cases hc:w64 ((ob os (AB os id).toNat).count-1)>0
     ·rw [if_pos hc]
      by_cases hp:(ob os (AB os id).toNat).purple=true
      ·rw [if_pos hp]
       have:=ih (buf:=buf) (freed:=freed) (todo:=l) (os:=os.set (AB os id).toNat {ob os (AB os id).toNat with count:=w64 ((ob os (AB os id).toNat).count-1)}) (by simpa using h1) (HA h2 ⟨ho.gen,ho.len,ho.fld⟩) h3
       exact ⟨this.1,this.2.1,Nat.le_trans this.2.2.1 (by omega),this.2.2.2⟩
      ·rw [if_neg hp]
       have:=ih (buf:=buf++[id]) (freed:=freed) (todo:=l) (os:=os.set (AB os id).toNat {ob os (AB os id).toNat with count:=w64 ((ob os (AB os id).toNat).count-1),purple:=true}) (by simpa using h1) (HA h2 ⟨ho.gen,ho.len,ho.fld⟩) h3
       exact ⟨this.1,this.2.1,Nat.le_trans this.2.2.1 (by rw [List.length_append,List.length_singleton];omega),this.2.2.2⟩
     ·rw [if_neg hc]
      have hb:=List.length_filter_le (fun x=>decide (x≠id)) buf
      have:=ih (buf:=buf.filter fun x=>decide (x≠id)) (freed:=freed++[id]) (todo:=l++(ob os (AB os id).toNat).field.filter fun x=>decide (0≤x)) (os:=os.set (AB os id).toNat (CO (ob os (AB os id).toNat).gen)) (by simpa using h1) (HA h2 (OF.free ho.gen)) (by rw [List.length_append,List.length_singleton];omega)
      exact ⟨this.1,this.2.1,by omega,this.2.2.2⟩
structure Small (h:Hp) (a:An):Prop where
 fits:Fits h
 fr:a.freed.length≤9
theorem Small.mk' {h:Hp} {a:An} (h1:h.BB.length=8) (h2: ∀o∈h.BB,OF o) (h3:h.B5.length=8) (h4:h.buffer.length≤1000) (h5:h.sites.length≤7) (h6: ∀s∈h.sites,(s.size:Int)≤1048576) (h7:a.freed.length≤9):Small h a:=
 ⟨⟨by omega,fun o ho=>by have:=(h2 o ho).len;omega,by omega,by omega,by omega,h6⟩,h7⟩
theorem kZ {os:List AX} {ss:List ByteArray} {s:ByteArray} (h1:os.length=8) (h2: ∀o∈os,OF o) (h5:ss.length≤6) (h6: ∀s∈ss,(s.size:Int)≤1048576):(FN os ss s).1.length=8∧(∀o∈(FN os ss s).1,OF o)∧(FN os ss s).2.1.length≤7∧(∀s'∈(FN os ss s).2.1,(s'.size:Int)≤1048576)∧(FN os ss s).2.2.freed=[]:=by
 unfold FN
 by_cases hb: ¬(1≤(s.size:Int)∧(s.size:Int)≤8)
 ·rw [if_pos hb];exact ⟨h1,h2,by simp only;omega,h6,rfl⟩
 rw [if_neg hb]
 by_cases hf:CB os<0
 ·rw [if_pos hf];exact ⟨h1,h2,by simp only;omega,h6,rfl⟩
 rw [if_neg hf]
 split
 ·exact ⟨h1,h2,by simp only;omega,h6,rfl⟩
 ·refine ⟨by simpa using h1,HA h2 ⟨jX _,rfl,by simp [K5,ON,F64]⟩, ?_, ?_,rfl⟩
  ·simp only;split
   ·rw [List.length_append,List.length_singleton];omega
   ·omega
  ·simp only;split
   ·intro s' hs'
    rcases List.mem_append.1 hs' with h | h
    ·exact h6 s' h
    ·have:s'=s:=by simpa using h
     subst this;omega
   ·exact h6
theorem VY {os:List AX} {buf:List Int} {x:Int} (h1:os.length=8) (h2: ∀o∈os,OF o):(G6 os buf [x]).1.length=8∧(∀o∈(G6 os buf [x]).1,OF o)∧(G6 os buf [x]).2.1.length≤buf.length+38∧(G6 os buf [x]).2.2.length≤9:=lZ _ h1 h2 (by simp)
theorem OF.holds {o:AX} {v:Int} (h:OF o):OF {o with holds:=v}:=⟨h.gen,h.len,h.fld⟩
theorem OF.roots {o:AX} {v:Int} (h:OF o):OF {o with roots:=v}:=⟨h.gen,h.len,h.fld⟩
theorem nI {os:List AX} {buf:List Int} {kd id:Int} (h1:os.length=8) (h2: ∀o∈os,OF o):(H8 os buf kd id).1.length=8∧(∀o∈(H8 os buf kd id).1,OF o)∧(H8 os buf kd id).2.1.length≤buf.length+38∧(H8 os buf kd id).2.2.freed.length≤9:=by
 unfold H8
 by_cases hs:AB os id<0
 ·rw [if_pos hs];exact ⟨h1,h2,by simp only;omega,by simp⟩
 rw [if_neg hs]
 have hk:=BL (l:=os) (id:=id) (by omega)
 have ho:=h2 _ (GK (l:=os) (i:=(AB os id).toNat) (by omega))
 have a1: ∀{v:AX},OF v→(os.set (AB os id).toNat v).length=8∧ ∀o∈os.set (AB os id).toNat v,OF o:=fun hv=>⟨by simpa using h1,HA h2 hv⟩
 have a2: ∀{v:AX},OF v→(DF (os.set (AB os id).toNat v) id).length=8∧ ∀o∈DF (os.set (AB os id).toNat v) id,OF o:=fun hv=>⟨by rw [NH];simpa using h1,SJ (HA h2 hv)⟩
 split
 ·split
  ·exact ⟨h1,h2,by simp only;omega,by simp⟩
  ·exact ⟨(a2 (OF.holds ho)).1,(a2 (OF.holds ho)).2,by simp only;omega,by simp⟩
 ·split
  ·split
   ·exact ⟨h1,h2,by simp only;omega,by simp⟩
   ·exact ⟨(a2 (OF.roots ho)).1,(a2 (OF.roots ho)).2,by simp only;omega,by simp⟩
  ·split
   ·split
    ·exact ⟨h1,h2,by simp only;omega,by simp⟩
    ·exact VY (a1 (OF.holds ho)).1 (a1 (OF.holds ho)).2
   ·split
    ·exact ⟨h1,h2,by simp only;omega,by simp⟩
    ·exact VY (a1 (OF.roots ho)).1 (a1 (OF.roots ho)).2
theorem j8 {os:List AX} {buf:List Int} {a b c:Int} (h1:os.length=8) (h2: ∀o∈os,OF o) (hc:F64 c):(GG os buf a b c).1.length=8∧(∀o∈(GG os buf a b c).1,OF o)∧(GG os buf a b c).2.1.length≤buf.length+38∧(GG os buf a b c).2.2.freed.length≤9:=by
 unfold GG
 by_cases hs:AB os a<0∨(c≠ -1∧AB os c<0)
 ·rw [if_pos hs];exact ⟨h1,h2,by simp only;omega,by simp⟩
 rw [if_neg hs]
 have hk:=BL (l:=os) (id:=a) (by omega)
 have ho:=h2 _ (GK (l:=os) (i:=(AB os a).toNat) (by omega))
 have gl:=NH os c
 have gof:=SJ (id:=c) h2
 have hg:=gof _ (GK (l:=DF os c) (i:=(AB os a).toNat) (by omega))
 have a1:((DF os c).set (AB os a).toNat {ob (DF os c) (AB os a).toNat with field:=(ob os (AB os a).toNat).field.set b.toNat c}).length=8∧ ∀o∈(DF os c).set (AB os a).toNat {ob (DF os c) (AB os a).toNat with field:=(ob os (AB os a).toNat).field.set b.toNat c},OF o:=⟨by rw [List.length_set];omega,HA gof (OF.put hg (by rw [List.length_set];exact ho.len) fun x hx=>(List.mem_or_eq_of_mem_set hx).elim (ho.fld x) fun he=>he ▸ hc)⟩
 split
 ·exact ⟨h1,h2,by simp only;omega,by simp⟩
 ·split
  ·exact ⟨a1.1,a1.2,by simp only;omega,by simp⟩
  ·exact VY a1.1 a1.2
theorem dT {os:List AX} {ws:List Wk} {id:Int}:(KV os ws id).1.length=ws.length∧(KV os ws id).2.freed=[]:=by
 unfold KV
 split
 ·exact ⟨rfl,rfl⟩
 ·split
  ·exact ⟨rfl,rfl⟩
  ·exact ⟨by simp,rfl⟩
theorem V1 {os:List AX} {ws:List Wk} {kd k:Int}:(G8 os ws kd k).1.length=ws.length∧(G8 os ws kd k).2.freed=[]:=by
 unfold G8
 split
 ·exact ⟨rfl,rfl⟩
 ·split
  ·exact ⟨rfl,rfl⟩
  ·split
   ·exact ⟨by simp,rfl⟩
   ·split
    ·exact ⟨rfl,rfl⟩
    ·exact ⟨rfl,rfl⟩
theorem lT {os:List AX} {buf:List Int} (h1:os.length=8) (h2: ∀o∈os,OF o):(MR os buf).1.length=8∧(∀o∈(MR os buf).1,OF o)∧(MR os buf).2.length≤8:=by
 unfold MR
 refine ⟨CF _,fun o ho=> ?_,LD (fun i=>by split <;> simp) 8⟩
 obtain ⟨i,hi,rfl⟩:=U1 ho
 have hoi:=h2 _ (GK (l:=os) (i:=i) (by omega))
 have hm:OF (DH os (LJ os (fun i=>(ob os i).count) buf) i):=by
  unfold DH
  split
  ·exact OF.free hoi.gen
  ·exact ⟨hoi.gen,hoi.len,hoi.fld⟩
 unfold GS
 split
 ·exact ⟨hm.gen,hm.len,hm.fld⟩
 ·exact hm
theorem nS {h:Hp} {o:Op5} (st:St h) (hc:F64 o.c):Small (JG h o).1 (JG h o).2:=by
 have hb:=st.bl;have h5:=st.sl
 unfold JG
 split
 ·obtain ⟨a1,a2,a3,a4,a5⟩:=kZ (s:=o.site) st.ol st.of st.sl st.ss
  exact Small.mk' a1 a2 st.wl (by simp only;omega) a3 a4 (by simp only [a5];simp)
 ·split
  ·obtain ⟨a1,a2,a3,a4⟩:=nI (buf:=h.buffer) (kd:=o.kind) (id:=o.a) st.ol st.of
   exact Small.mk' a1 a2 st.wl (by simp only;omega) (by simp only;omega) st.ss a4
  ·split
   ·obtain ⟨a1,a2,a3,a4⟩:=j8 (buf:=h.buffer) (a:=o.a) (b:=o.b) st.ol st.of hc
    exact Small.mk' a1 a2 st.wl (by simp only;omega) (by simp only;omega) st.ss a4
   ·split
    ·obtain ⟨a1,a2⟩:=dT (os:=h.BB) (ws:=h.B5) (id:=o.a)
     exact Small.mk' st.ol st.of (a1.trans st.wl) (by simp only;omega) (by simp only;omega) st.ss (by simp only [a2];simp)
    ·split
     ·obtain ⟨a1,a2⟩:=V1 (os:=h.BB) (ws:=h.B5) (kd:=o.kind) (k:=o.a)
      exact Small.mk' st.ol st.of (a1.trans st.wl) (by simp only;omega) (by simp only;omega) st.ss (by simp only [a2];simp)
     ·split
      ·obtain ⟨a1,a2,a3⟩:=lT (buf:=h.buffer) st.ol st.of
       exact Small.mk' a1 a2 st.wl (by simp) (by simp only;omega) st.ss (by simp only;omega)
      ·exact Small.mk' st.ol st.of st.wl (by simp only;omega) (by simp only;omega) st.ss (by simp)
end Go.Proofs.Ytnhicpkhkaihoaa.P
namespace Go.Proofs.Ytnhicpkhkaihoaa.P
open Go Go.Proofs.Ytnhicpkhkaihoaa Go.Proofs.Ytnhicpkhkaihoaa.Eng
set_option linter.unusedVariables false
theorem IB {k:Nat} {g:Int} (hk:k<8) (h1:1≤g) (h2:g≤999):CQ k g=k+8*g:=by unfold CQ;rw [if_pos ⟨⟨by omega,by omega⟩,h1,h2⟩]
theorem JA {os:List AX} {k:Nat} (hol:os.length=8) (hk:k<8) (hv:(ob os k).live=true) (h1:1≤(ob os k).gen) (h2:(ob os k).gen≤999):AB os (CQ k (ob os k).gen)=k:=by
 rw [IB hk h1 h2]
 have e1:((k:Int)+8*(ob os k).gen) % 8=k:=by omega
 have e2:((k:Int)+8*(ob os k).gen)/8=(ob os k).gen:=by omega
 have e3:(((k:Int)+8*(ob os k).gen) % 8).toNat=k:=by omega
 rw [OJ (by omega) hol (by omega) (by rw [e3];exact hv) (by rw [e3,e2]),e1]
theorem P6 {os:List AX} {k:Nat} {x:Int} (h:AB os x=(k:Int)) (h1:1≤(ob os k).gen) (h2:(ob os k).gen≤999):x=CQ k (ob os k).gen:=by
 have hb:=BL (l:=os) (id:=x) (by omega)
 have e:(AB os x).toNat=k:=by omega
 rw [e] at hb
 rw [IB (by omega) h1 h2];omega
theorem MF {a b:List AX} {x:Int} (hl:a.length=b.length) (h: ∀i,i<a.length→(ob a i).live=(ob b i).live∧(ob a i).gen=(ob b i).gen):AB a x=AB b x:=by
 simp only [AB,hl]
 by_cases hx:x<8∨b.length≠8
 ·rw [if_pos hx,if_pos hx]
 ·rw [if_neg hx,if_neg hx]
  have:=h (x % 8).toNat (by omega)
  rw [this.1,this.2]
theorem TG {os:List AX} {k:Nat} {v:AX} {id:Int} (hk:k<os.length):CC (os.set k v) id+NS id (ob os k)=CC os id+NS id v:=by
 unfold CC
 rw [List.map_set]
 have hk':k<(os.map (NS id)).length:=by simpa using hk
 have e:ob os k=os[k]:=(DU hk).symm
 have h1: ∀(l:List Nat) (k v:Nat) (hk:k<l.length),(l.set k v).sum+l[k]=l.sum+v:=by
  intro l
  induction l with
  | nil=>intro k v hk;simp at hk
  | cons x l ih=>
    intro k v hk
    cases k with
    | zero=>simp;omega
    | succ k=>
      have:=ih k v (by simpa using hk)
      simp only [List.set_cons_succ,List.sum_cons,List.getElem_cons_succ];omega
 have:=h1 (os.map (NS id)) k (NS id v) hk'
 rw [List.getElem_map] at this
 rw [e];exact this
structure vS (os:List AX) (ns:Nat) (buf pd:List Int) (i:Nat):Prop where
 gen:0≤(ob os i).gen∧(ob os i).gen≤999
 len:(ob os i).field.length=3
 cb:(ob os i).count≤1000
 lead: ∀f∈(ob os i).field,f≠ -1→(ob os i).live=true∧0≤AB os f
 dead:(ob os i).live=false→(ob os i).site=0∧(ob os i).holds=0∧(ob os i).roots=0∧(ob os i).count=0∧(ob os i).purple=false
 lv:(ob os i).live=true→1≤(ob os i).gen∧(0≤(ob os i).site∧(ob os i).site≤(ns:Int)-1)∧(0≤(ob os i).holds∧(ob os i).holds≤20)∧(0≤(ob os i).roots∧(ob os i).roots≤20)∧
  (ob os i).count=(ob os i).holds+(ob os i).roots+CC os (CQ i (ob os i).gen)+pd.count (CQ i (ob os i).gen)∧1≤(ob os i).count∧((ob os i).purple=true↔CQ i (ob os i).gen∈buf)
structure HP (os:List AX) (ns:Nat) (buf pd:List Int):Prop where
 ol:os.length=8
 obj: ∀i,i<8→vS os ns buf pd i
 bnd:buf.Nodup
 blv: ∀x∈buf,0≤AB os x
 pd: ∀x∈pd,0≤AB os x
theorem R6 {os:List AX} {i:Nat} (hol:os.length=8) (hi:i<8) (hv:(ob os i).live=true):inE os i=CC os (CQ i (ob os i).gen):=by
 unfold inE
 rw [if_pos ⟨⟨by omega,by omega⟩,by rw [Int.toNat_natCast];exact hv⟩,Int.toNat_natCast]
theorem DO.hp {h:Hp} (hk:DO h):HP h.BB h.sites.length h.buffer []:=by
 refine ⟨hk.ol,fun i hi=> ?_,hk.bnd,fun x hx=>hk.VL hx,by simp⟩
 have ho:=hk.obj i hi
 refine ⟨ho.gen,ho.len, ?_,fun f hf hne=> ?_,ho.dead,fun hv=> ?_⟩
 ·cases hv:(ob h.BB i).live with
  | false=>have:=ho.dead hv;omega
  | true=>
    have hed:=NY (l:=h.BB) (id:=CQ i (ob h.BB i).gen) (b:=3) fun o ho'=>by
     obtain ⟨j,hj,rfl⟩:=List.getElem_of_mem ho'
     rw [DU hj,(hk.obj j (by have:=hk.ol;omega)).len];omega
    have e:=(ho.lv hv).2.2.2.2.1
    rw [R6 hk.ol hi hv] at e
    have:=(ho.lv hv).2.2.1;have:=(ho.lv hv).2.2.2.1
    have hol:=hk.ol
    omega
 ·obtain ⟨j,hj,rfl⟩:=List.getElem_of_mem hf
  rw [FQ hj] at hne ⊢
  exact ho.lead j (by have:=ho.len;omega) hne
 ·obtain ⟨a,b,c,d,e,f,g⟩:=ho.lv hv
  rw [R6 hk.ol hi hv] at e
  refine ⟨a,b,c,d,by rw [e];simp,f,by rw [g];simp⟩
theorem HP.ok {os:List AX} {buf:List Int} {ws:List Wk} {ss:List ByteArray} (h:HP os ss.length buf []) (hw:ws.length=8) (hs:MS ss) (hwk: ∀i,i<8→((wk ws i).used=false→(wk ws i).target=0)∧((wk ws i).used=true→8≤(wk ws i).target∧(wk ws i).target≤7999)):DO ⟨os,ws,buf,ss⟩:=by
 refine ⟨h.ol,hw,hs,fun i hi=> ?_,hwk,fun i hi=>⟨h.blv _ (EG hi),fun hm=> ?_⟩⟩
 ·have ho:=h.obj i hi
  refine ⟨ho.gen,ho.len,fun j hj hne=>ho.lead _ (EG (by have:=ho.len;omega)) hne,ho.dead,fun hv=> ?_⟩
  obtain ⟨a,b,c,d,e,f,g⟩:=ho.lv hv
  refine ⟨a,b,c,d, ?_,f, ?_⟩
  ·have:=R6 h.ol hi hv
   simp only at this ⊢
   rw [this,e];simp
  ·simp only
   cases hp:(ob os i).purple with
   | true=>exact (decide_eq_true (g.1 hp)).symm
   | false=>exact (decide_eq_false fun hm=>by have:=g.2 hm;rw [hp] at this;cases this).symm
 ·have hi:i<buf.length:=hi
  have hnd:=List.pairwise_iff_getElem.1 h.bnd
  obtain ⟨j,hj,he⟩:=List.mem_take_iff_getElem.1 hm
  have hj2:j<i:=by omega
  exact hnd j i (by omega) hi hj2 (by rw [he,FQ hi])
theorem I2 {id:Int} {o:AX} (h:o.live=true):NS id o=o.field.count id:=by unfold NS;rw [if_pos h]
theorem P8 {id:Int} {o:AX} (h:o.live=false):NS id o=0:=by unfold NS;rw [if_neg (by rw [h];decide)]
theorem m7 {l:List Nat} {x:Nat} (h:x∈l):x≤l.sum:=by
 induction l with
 | nil=>simp at h
 | cons y l ih=>
   rw [List.sum_cons]
   rcases List.mem_cons.1 h with rfl | h
   ·omega
   ·have:=ih h;omega
theorem fQ {os:List AX} {id:Int} (h:CC os id=0) {i:Nat} (hi:i<os.length) (hv:(ob os i).live=true):id∉(ob os i).field:=by
 intro hm
 have h1:NS id (ob os i)≤CC os id:=by
  unfold CC
  rw [←DU hi]
  exact m7 (List.mem_map.2 ⟨_,List.getElem_mem hi,rfl⟩)
 rw [I2 hv] at h1
 have:=List.count_pos_iff.2 hm
 omega
section
variable {os:List AX} {ns:Nat} {buf pd:List Int} {k:Nat} {id:Int}
theorem HP.at (h:HP os ns buf (id::pd)) (hk:AB os id=(k:Int)):k<8∧(ob os k).live=true∧id=CQ k (ob os k).gen∧1≤(ob os k).gen∧(ob os k).gen≤999∧8≤id∧(ob os k).count=(ob os k).holds+(ob os k).roots+CC os id+pd.count id+1∧1≤(ob os k).count∧F64 (ob os k).count:=by
 have hb:=BL (l:=os) (id:=id) (by omega)
 have e:(AB os id).toNat=k:=by omega
 rw [e] at hb
 have ho:=h.obj k hb.2.2.2.1
 obtain ⟨g1,_,g3,g4,g5,g6,_⟩:=ho.lv hb.2.2.2.2.1
 have hid:=P6 hk g1 ho.gen.2
 rw [←hid,List.count_cons_self] at g5
 have:=ho.cb
 exact ⟨hb.2.2.2.1,hb.2.2.2.2.1,hid,g1,ho.gen.2,hb.2.1,by rw [g5];omega,g6,⟨by omega,by omega⟩⟩
theorem aE {i:Nat} {g g':Int} (hi:i<8) (hk:k<8) (h1:1≤g) (h2:g≤999) (h3:1≤g') (h4:g'≤999) (h:i≠k):CQ i g≠CQ k g':=by
 rw [IB hi h1 h2,IB hk h3 h4];omega
theorem HP.dec (h:HP os ns buf (id::pd)) (hk:AB os id=(k:Int)) {v:AX} {buf':List Int} (v1:v.live=(ob os k).live) (v2:v.gen=(ob os k).gen) (v3:v.site=(ob os k).site) (v4:v.holds=(ob os k).holds) (v5:v.roots=(ob os k).roots) (v6:v.field=(ob os k).field) (vc:v.count=(ob os k).count-1) (vp:1≤v.count) (hb: ∀x,x≠id→(x∈buf'↔x∈buf)) (hp:v.purple=true↔id∈buf') (hn:buf'.Nodup):HP (os.set k v) ns buf' pd:=by
 obtain ⟨k8,kv,kid,kg1,kg2,kid8,kc,kc1,_⟩:=h.at hk
 have hol:=h.ol
 have hkl:k<os.length:=by omega
 have same: ∀i,i<(os.set k v).length→(ob (os.set k v) i).live=(ob os i).live∧(ob (os.set k v) i).gen=(ob os i).gen:=fun i hi=>by
  rw [IL hkl];split
  ·rename_i he;subst he;exact ⟨v1,v2⟩
  ·exact ⟨rfl,rfl⟩
 have sl: ∀x,AB (os.set k v) x=AB os x:=fun x=>MF (by simp) same
 have ed: ∀x,CC (os.set k v) x=CC os x:=fun x=>PD (by simp) fun i hi=>by
  rw [IL hkl];split
  ·rename_i he;subst he;exact ⟨v1,v6⟩
  ·exact ⟨rfl,rfl⟩
 refine ⟨by simpa using hol,fun i hi=> ?_,hn,fun x hx=> ?_,fun x hx=>by rw [sl];exact h.pd x (by simp [hx])⟩
 ·have ho:=h.obj i hi
  by_cases hik:i=k
  ·subst hik
   have e:ob (os.set i v) i=v:=by rw [IL hkl,if_pos rfl]
   obtain ⟨g1,g2,g3,g4,g5,g6,g7⟩:=ho.lv kv
   refine ⟨by rw [e,v2];exact ho.gen,by rw [e,v6];exact ho.len,by rw [e,vc];have:=ho.cb;omega,fun f hf hne=> ?_,fun hd=> ?_,fun _=> ?_⟩
   ·rw [e,v6] at hf;rw [e,v1,sl];exact ho.lead f hf hne
   ·rw [e,v1,kv] at hd;cases hd
   ·rw [e,v2,v3,v4,v5,ed, ←kid]
    exact ⟨g1,g2,g3,g4,by rw [vc];omega,vp,hp⟩
  ·have e:ob (os.set k v) i=ob os i:=by rw [IL hkl,if_neg hik]
   refine ⟨by rw [e];exact ho.gen,by rw [e];exact ho.len,by rw [e];exact ho.cb,fun f hf hne=> ?_,fun hd=> ?_,fun hv=> ?_⟩
   ·rw [e] at hf;rw [e,sl];exact ho.lead f hf hne
   ·rw [e] at hd ⊢;exact ho.dead hd
   ·rw [e] at hv ⊢
    obtain ⟨g1,g2,g3,g4,g5,g6,g7⟩:=ho.lv hv
    have hne:CQ i (ob os i).gen≠id:=by rw [kid];exact aE hi k8 g1 ho.gen.2 kg1 kg2 hik
    rw [List.count_cons_of_ne (Ne.symm hne)] at g5
    exact ⟨g1,g2,g3,g4,by rw [ed];exact g5,g6,g7.trans (hb _ hne).symm⟩
 ·rw [sl]
  by_cases hxi:x=id
  ·subst hxi;omega
  ·exact h.blv x ((hb x hxi).1 hx)
theorem HP.free (h:HP os ns buf (id::pd)) (hk:AB os id=(k:Int)) (hc:(ob os k).count≤1):HP (os.set k (CO (ob os k).gen)) ns (buf.filter fun x=>decide (x≠id)) (pd++(ob os k).field.filter fun x=>decide (0≤x)):=by
 obtain ⟨k8,kv,kid,kg1,kg2,kid8,kc,kc1,_⟩:=h.at hk
 have hol:=h.ol
 have hkl:k<os.length:=by omega
 have hok:=h.obj k k8
 obtain ⟨_,_,hh,hr,_,_,_⟩:=hok.lv kv
 have e0:CC os id=0:=by omega
 have p0:pd.count id=0:=by omega
 have hnf: ∀i,i<8→(ob os i).live=true→id∉(ob os i).field:=fun i hi hv=>fQ e0 (by omega) hv
 have eo: ∀i,ob (os.set k (CO (ob os k).gen)) i=if i=k then CO (ob os k).gen else ob os i:=fun i=>IL hkl
 have sl: ∀x,x≠id→AB (os.set k (CO (ob os k).gen)) x=AB os x:=fun x hx=>by
  simp only [AB,List.length_set]
  by_cases h8:x<8∨os.length≠8
  ·rw [if_pos h8,if_pos h8]
  ·rw [if_neg h8,if_neg h8,eo]
   by_cases hxk:(x % 8).toNat=k
   ·rw [if_pos hxk,if_neg (by simp [CO]),if_neg fun hh=> ?_]
    rw [hxk] at hh
    rw [IB k8 kg1 kg2] at kid
    omega
   ·rw [if_neg hxk]
 have ed: ∀x,(CC os x:Int)=CC (os.set k (CO (ob os k).gen)) x+(ob os k).field.count x:=fun x=>by
  have e:=TG (os:=os) (v:=CO (ob os k).gen) (id:=x) hkl
  rw [I2 kv,P8 (o:=CO (ob os k).gen) rfl] at e
  omega
 refine ⟨by simpa using hol,fun i hi=> ?_,h.bnd.filter _,fun x hx=> ?_,fun x hx=> ?_⟩
 ·have ho:=h.obj i hi
  by_cases hik:i=k
  ·subst hik
   have e:ob (os.set i (CO (ob os i).gen)) i=CO (ob os i).gen:=by rw [eo,if_pos rfl]
   refine ⟨by rw [e];exact ho.gen,by rw [e];rfl,by rw [e];simp [CO],fun f hf hne=> ?_,fun _=>by rw [e];exact ⟨rfl,rfl,rfl,rfl,rfl⟩,fun hv=>by rw [e] at hv;cases hv⟩
   rw [e] at hf
   simp [CO,ON] at hf
   exact absurd hf hne
  ·have e:ob (os.set k (CO (ob os k).gen)) i=ob os i:=by rw [eo,if_neg hik]
   refine ⟨by rw [e];exact ho.gen,by rw [e];exact ho.len,by rw [e];exact ho.cb,fun f hf hne=> ?_,fun hd=> ?_,fun hv=> ?_⟩
   ·rw [e] at hf
    have hl:=ho.lead f hf hne
    rw [e,sl f fun he=>hnf i hi hl.1 (he ▸ hf)]
    exact hl
   ·rw [e] at hd ⊢;exact ho.dead hd
   ·rw [e] at hv ⊢
    obtain ⟨g1,g2,g3,g4,g5,g6,g7⟩:=ho.lv hv
    have hne:CQ i (ob os i).gen≠id:=by rw [kid];exact aE hi k8 g1 ho.gen.2 kg1 kg2 hik
    rw [List.count_cons_of_ne (Ne.symm hne),ed] at g5
    have hpos:0≤CQ i (ob os i).gen:=by rw [IB hi g1 ho.gen.2];omega
    have ef:((ob os k).field.filter fun x=>decide (0≤x)).count (CQ i (ob os i).gen)=(ob os k).field.count (CQ i (ob os i).gen):=List.count_filter (by simpa using hpos)
    refine ⟨g1,g2,g3,g4,by rw [List.count_append,ef];omega,g6,g7.trans ?_⟩
    simp [List.mem_filter,hne]
 ·obtain ⟨h1,h2⟩:=List.mem_filter.1 hx
  have hne:x≠id:=by simpa using h2
  rw [sl x hne];exact h.blv x h1
 ·rcases List.mem_append.1 hx with hx | hx
  ·have hne:x≠id:=fun he=>by
    subst he
    have:=List.count_pos_iff.2 hx
    omega
   rw [sl x hne];exact h.pd x (by simp [hx])
  ·obtain ⟨h1,h2⟩:=List.mem_filter.1 hx
   have h2:0≤x:=by simpa using h2
   rw [sl x fun he=>hnf k k8 kv (he ▸ h1)]
   exact (hok.lead x h1 (by omega)).2
end
def lvs (os:List AX):Nat:=os.countP (·.live)
theorem HP.wJ {ns:Nat}: ∀(f:Nat) {os:List AX} {buf todo freed:List Int},HP os ns buf todo→freed.length+lvs os≤8→todo.length+4*lvs os<f→HP (IK f os buf freed todo).1 ns (IK f os buf freed todo).2.1 []:=by
 intro f
 induction f with
 | zero=>intro os buf todo freed _ _ h;omega
 | succ f ih=>
   intro os buf todo freed h h8 hf
   cases todo with
   | nil=>exact h
   | cons id pd=>
     have hs:=h.pd id (by simp)
     obtain ⟨k,hk⟩: ∃k:Nat,AB os id=(k:Int):=⟨(AB os id).toNat,by omega⟩
     obtain ⟨k8,kv,kid,kg1,kg2,kid8,kc,kc1,kF⟩:=h.at hk
     have hkl:k<os.length:=by have:=h.ol;omega
     simp only [IK,hk,Int.toNat_natCast]
     rw [if_neg (by omega),if_neg (by omega)]
     have ew:w64 ((ob os k).count-1)=(ob os k).count-1:=M4 ⟨by omega,by have:=kF.2;omega⟩
     rw [ew]
     have lset: ∀v:AX,lvs (os.set k v)+1=lvs os+if v.live=true then 1 else 0:=fun v=>by
      unfold lvs
      have e:=List.countP_set (p:=fun o:AX=>o.live) (a:=v) hkl
      have hp:0<os.countP (fun o:AX=>o.live):=List.countP_pos_iff.2 ⟨os[k],List.getElem_mem hkl,by rw [DU hkl];exact kv⟩
      rw [e,DU hkl,kv]
      simp only [if_true]
      omega
     have lvd: ∀v:AX,v.live=true→lvs (os.set k v)=lvs os:=fun v hv=>by
      have:=lset v
      rw [if_pos hv] at this;omega
     simp only [List.length_cons] at hf
     by_cases hc:(ob os k).count-1>0
     ·rw [if_pos hc]
      have hpk:=((h.obj k k8).lv kv).2.2.2.2.2.2
      rw [←kid] at hpk
      by_cases hp:(ob os k).purple=true
      ·rw [if_pos hp]
       exact ih (h.dec hk rfl rfl rfl rfl rfl rfl rfl (by simp only;omega) (fun x _=>Iff.rfl) hpk h.bnd) (by rw [lvd] <;> first | omega | exact kv) (by rw [lvd] <;> first | omega | exact kv)
      ·rw [if_neg hp]
       have hni:id∉buf:=fun hm=>hp (hpk.2 hm)
       exact ih (h.dec hk rfl rfl rfl rfl rfl rfl rfl (by simp only;omega) (fun x hx=>by simp [hx]) (by simp) (List.nodup_append.2 ⟨h.bnd,by simp,fun a ha b hb=>by
        have hb:b=id:=by simpa using hb
        subst hb;intro he;exact hni (he ▸ ha)⟩)) (by rw [lvd] <;> first | omega | exact kv) (by rw [lvd] <;> first | omega | exact kv)
     ·rw [if_neg hc]
      have hl:=lset (CO (ob os k).gen)
      rw [if_neg (by simp [CO])] at hl
      have hfl:=List.length_filter_le (fun x=>decide (0≤x)) (ob os k).field
      rw [(h.obj k k8).len] at hfl
      exact ih (h.free hk (by omega)) (by rw [List.length_append,List.length_singleton];omega) (by rw [List.length_append];omega)
theorem HP.G6 {ns:Nat} {os:List AX} {buf:List Int} {x:Int} (h:HP os ns buf [x]):HP (G6 os buf [x]).1 ns (G6 os buf [x]).2.1 []:=by
 have:=List.countP_le_length (p:=fun o:AX=>o.live) (l:=os)
 have hol:=h.ol
 exact HP.wJ _ h (by unfold lvs;simp only [List.length_nil];omega) (by unfold lvs;simp only [List.length_singleton];omega)
end Go.Proofs.Ytnhicpkhkaihoaa.P
