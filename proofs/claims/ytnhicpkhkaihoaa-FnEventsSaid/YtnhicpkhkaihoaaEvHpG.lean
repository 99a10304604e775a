/- A part of the proof. -/
import Derived.Test.YtnhicpkhkaihoaaEvTxtE
namespace Go.Proofs.Ytnhicpkhkaihoaa.P
open Go Go.Proofs.Ytnhicpkhkaihoaa Go.Proofs.Ytnhicpkhkaihoaa.Eng
set_option linter.unusedVariables false
def szB (s:ByteArray):Bool:=decide ((s.size:Int)≤8)
def LB (l:List ByteArray):Bool:=l.all szB&&decide l.Nodup
def SY (n:Int) (l:List ByteArray):Bool:=(I2 n&&decide (l.length≤400))&&LB l
theorem SR {l:List ByteArray} {i:Nat} (hi:i<l.length):LB (l.take (i+1))=true↔LB (l.take i)=true∧szB l[i]=true∧l[i]∉l.take i:=by
 rw [List.take_succ_eq_append_getElem hi]
 simp only [LB,Bool.and_eq_true,decide_eq_true_eq,List.all_append,List.all_cons,List.all_nil,Bool.and_true,List.nodup_append,List.nodup_cons,List.not_mem_nil,not_false_eq_true,List.nodup_nil,and_true,true_and,List.mem_singleton]
 constructor
 ·rintro ⟨⟨h1,h2⟩,h3,h4⟩
  exact ⟨⟨h1,h3⟩,h2,fun hm=>h4 _ hm _ rfl rfl⟩
 ·rintro ⟨⟨h1,h2⟩,h3,h4⟩
  exact ⟨⟨h1,h3⟩,h2,fun a ha b hb he=>h4 (by rw [←hb, ←he];exact ha)⟩
theorem WU {l:List ByteArray} {i:Nat} (hi:i<l.length) (h:szB l[i]=false∨l[i]∈l.take i):LB l=false:=by
 cases hg:LB l
 ·rfl
 ·exfalso
  have:LB (l.take (i+1))=true:=by
   simp only [LB,Bool.and_eq_true,decide_eq_true_eq] at hg ⊢
   refine ⟨?_,hg.2.sublist (List.take_sublist _ _)⟩
   rw [List.all_eq_true] at hg ⊢
   exact fun x hx=>hg.1 x (List.mem_of_mem_take hx)
  obtain ⟨_,h1,h2⟩:=(SR hi).1 this
  rcases h with h | h
  ·rw [h] at h1;cases h1
  ·exact h2 h
theorem T6 {w0:World} {n:Int} {l:List ByteArray} {K:J2} (hl:(l.length:Int)<2^62) (h:K [.bool (SY n l)] []):cl2 ⟨Try.prog,w0⟩ 120 EE.sg [I n] [tS l] K:=by
 refine EE.cl2 ?_
 unfold EE.txt
 simp only [AG]
 refine BF (fun i=>[iv i,I n]) (fun _=>[]) l.length (fun i=>LB (l.take i)=true) rfl rfl (by simp [LB]) (fun R i hi hP hR=> ?_)
 refine KR (AH (fun hlt=> ?_) fun hge=> ?_)
 ·refine AK hlt (QO hlt (G8 (GR (b:=8) (AH (fun hb=> ?_) fun hb=> ?_))))
  ·have:LB l=false:=WU hlt (.inl (by simp [szB];omega))
   rw [SY,this,Bool.and_false] at h;exact h
  ·have hs:szB l[i]=true:=by simp [szB];omega
   refine BF (fun j=>[iv i,iv j,I n]) (fun _=>[]) i (fun j=>l[i]∉l.take j) rfl rfl (by simp) (fun R2 j hj hP2 hR2=> ?_)
   refine KR (AH (fun hlt2=> ?_) fun hge2=> ?_)
   ·have hjl:j<l.length:=by omega
    refine AK hjl (QO hjl (AK hlt (QO hlt (SK (V8 (fun he=> ?_) fun hne=> ?_)))))
    ·have:LB l=false:=WU hlt (.inr (by rw [←he];exact List.mem_take_iff_getElem.2 ⟨j,by omega,rfl⟩))
     rw [SY,this,Bool.and_false] at h;exact h
    ·exact BD (by omega) (hR2 hlt2 (QP hjl hP2 hne))
   ·have:j=i:=by omega
    subst this
    exact BD (by omega) (hR hlt ((SR hlt).2 ⟨hP,hs,hP2⟩))
 ·have:i=l.length:=by omega
  subst this
  rw [List.take_length] at hP
  refine FR (F7 (F7 (F7 (KL (fun _ K hk=>YV (b:=400) hk) ?_))))
  rw [SY,hP,Bool.and_true] at h;exact h
theorem dL {n i:Nat} (hi:i≤n) {K:Value→Value→Prop} (h:K (iv 0) (iv i)):scW n none (some (iv i)) K:=
 ⟨0,i,rfl,by simp [bnd,iv],Nat.zero_le _,hi,h⟩
theorem rH {a b:Bool} {x:Value} {m1:(Value→Prop)→Prop} {m2:Value→(Value→Prop)→Prop} {K:Value→Prop} (h1:a=false→ ∀K:Value→Prop,K x→m1 K) (h2:a=false→ ∀K:Value→Prop,K (.bool b)→m2 x K) (h:K (.bool (a||b))):
  gP (.bool a) false m1 fun x=>gE (.bool a) (gP (.bool a) false (m2 x) fun t=>prP (pk (.bool a) (.bool true) t) K):=by
 cases a
 ·exact .inl ⟨rfl,h1 rfl _ (F7 (.inl ⟨rfl,h2 rfl _ (BC rfl (by simpa using h))⟩))⟩
 ·exact .inr ⟨.inl rfl,F7 (.inr ⟨.inl rfl,BC rfl h⟩)⟩
theorem Y9 {w0:World} {n:Int} {l:List ByteArray} {K:J2} (hl:(l.length:Int)<2^62) (h:K [.bool (SY n l)] []):cl2 ⟨Try.prog,w0⟩ 113 G6.sg [I n] [tS l] K:=by
 refine G6.cl2 ?_
 unfold G6.txt
 simp only [AG]
 refine BF (fun i=>[iv l.length,iv i,I n]) (fun _=>[]) l.length (fun i=>LB (l.take i)=true) rfl rfl (by simp [LB]) (fun R i hi hP hR=> ?_)
 refine KR (AH (fun hlt=> ?_) fun hge=> ?_)
 ·refine AK hlt (QO hlt (G8 (GR (b:=8) (F7 (F7 (F7 (rH (x:=two (iv 0) (iv i)) (b:=decide (l[i]∈l.take i)) (fun _ K hk=>dL hi hk) (fun _ K hk=> ?_) ?_)))))))
  ·have e:H4 (tS l) [] (AA (bI (two (iv 0) (iv i)))*1) (AA (a9 (two (iv 0) (iv i)))*1)=tS (l.take i):=by
    have h1:AA (bI (two (iv 0) (iv i)))=0:=rfl
    have h2:AA (a9 (two (iv 0) (iv i)))=i:=AY i
    rw [h1,h2];simp [H4,node,tS,List.map_take]
   rw [e]
   exact VM (by simp;omega) hk
  ·refine IF (fun hb=> ?_) fun hb=> ?_
   ·have:LB l=false:=WU hlt (by
     rw [Bool.or_eq_true,decide_eq_true_eq,decide_eq_true_eq] at hb
     exact hb.imp (fun h=>by simp [szB];omega) id)
    rw [SY,this,Bool.and_false] at h;exact h
   ·rw [Bool.or_eq_false_iff,decide_eq_false_iff_not,decide_eq_false_iff_not] at hb
    exact BD (by omega) (hR hlt ((SR hlt).2 ⟨hP,by simp [szB];omega,hb.2⟩))
 ·have:i=l.length:=by omega
  subst this
  rw [List.take_length] at hP
  refine HE (F7 (F7 (F7 (KL (fun _ K hk=>YV (b:=400) hk) ?_))))
  rw [SY,hP,Bool.and_true] at h;exact h
def OE (l:List ByteArray) (s:ByteArray):ByteArray:=if s∈l then V (at_ l s+1) else V 0++ST s
def XG (l:List ByteArray) (s:ByteArray):List ByteArray:=if s∈l then l else l++[s]
theorem UY {w0:World} {n:Value} {l:List ByteArray} {s:ByteArray} {K:J2} (hl:l.length<2^40) (h:K [.string (OE l s),n] [tS (XG l s)]):cl2 ⟨Try.prog,w0⟩ 121 FH.sg [n, .string s] [tS l] K:=by
 refine FH.cl2 ?_
 unfold FH.txt
 simp only [AG,List.nil_append]
 refine RZ (Q8 l) (by simp [cnt];omega) ?_
 refine BF (fun i=>[.string s,iv i,n, .int .i64 0,n]) (fun _=>[tS l]) l.length (fun i=>s∉l.take i) rfl rfl (by simp) (fun R i hi hP hR=> ?_)
 refine KR (AH (fun hlt=> ?_) fun hge=> ?_)
 ·refine AK hlt (QO hlt (SK (V8 (fun he=> ?_) fun hne=> ?_)))
  ·have hm:s∈l:=he ▸ List.getElem_mem hlt
   rw [OE,XG,if_pos hm,if_pos hm,iK hlt hP he] at h
   refine BD (by omega) (J1 (n:=Int.ofNat (i+1)) ⟨by simp only [Int.ofNat_eq_natCast];omega,by simp only [Int.ofNat_eq_natCast];omega⟩ ?_)
   exact h
  ·exact BD (by omega) (hR hlt (QP hlt hP hne))
 ·have:i=l.length:=by omega
  subst this
  rw [List.take_length] at hP
  rw [OE,XG,if_neg hP,if_neg hP] at h
  have hc:cnt 1 (nxc [tS l] 0)=l.length:=AG l
  rw [hc]
  have h1:=IE 0
  have h2:=ZJ s
  refine RZ rfl (by simp [cnt];omega) (J1 ⟨by omega,by omega⟩ (UA (CI (by omega) ?_)))
  have e:nxc [tS l] 0++[T.c (nx [.string s,iv l.length,n, .int .i64 0,n] 0)]=tS (l++[s]):=by simp [tS,nxc,nx]
  rw [e];exact h
end Go.Proofs.Ytnhicpkhkaihoaa.P
namespace Go.Proofs.Ytnhicpkhkaihoaa.P
open Go Go.Proofs.Ytnhicpkhkaihoaa Go.Proofs.Ytnhicpkhkaihoaa.Eng
set_option maxHeartbeats 4000000
set_option linter.unusedVariables false
set_option linter.unusedSimpArgs false
attribute [local irreducible] prP gP gE gF AI ixW ldc ldg ldl stc stg scW mkW apW BG cl2 BZ EZ DS
variable {w0:World}
theorem oJ {a:List AX} {i:Nat} (hi:i<a.length):tR tO (a.take i)++[T.c (.bool (ob a i).live), .c (I (ob a i).gen), .c (I (ob a i).site), .c (I (ob a i).holds), .c (I (ob a i).roots), .c (I (ob a i).count), .l 1 (tI (ob a i).field), .c (.bool (ob a i).purple)]=tR tO (a.take (i+1)):=by
 rw [List.take_succ_eq_append_getElem hi,DY hi]
 exact pM _ (ob a i)
theorem J4 {h:Hp} {K:J2} (hf:Fits h) (hk:K [] (trees h)):cl2 ⟨Try.prog,w0⟩ 134 CZ.sg [] (trees h) K:=by
 obtain ⟨a,b,c,d⟩:=h
 have g1:=hf.ol;have g2:=hf.wl;have g3:=hf.sl;have g4:=hf.bl
 simp only at g1 g2 g3 g4
 refine CZ.cl2 ?_
 unfold CZ.txt
 simp only [AJ,AQ,AL,AR,AO,AE,AG,AU,AN,AS,AV,AP,AM,AT,BN,BS,BV,BT,BW,BU,BO,A9,A6,A4,A7,A8,A5]
 refine GW (pB _) (by simp only [cnt,List.length_nil];omega) (GW (PW _) (by omega) (GW (Q8 _) (by omega) ?_))
 refine BF (fun i=>[iv i]) (fun i=>[tR tO (a.take i),tR tW b,tI c,tS d]) a.length (fun _=>True) rfl rfl trivial (fun R i hi hP hR=> ?_)
 simp only [AJ,AQ,AL,AR,AO,AE,AG,AU,AN,AS,AV,AP,AM,AT,BN,BS,BV,BT,BW,BU,BO,A9,A6,A4,A7,A8,A5]
 refine A1 (AH (fun hlt=> ?_) fun hge=> ?_)
 ·have hlt:i<a.length:=by omega
  have hfo:((ob a i).field.length:Int)≤1048576:=vC (l:=a) hf.of hlt
  have hln:(a.take i).length=i:=by simp;omega
  replace hR:=hR hlt trivial
  refine AK hlt (dM hlt ?_)
  rw [LG hlt]
  refine GW (PW _) (by first | omega | (simp only [AJ,AQ,AL,AR,AO,AE,AG,AU,AN,AS,AV,AP,AM,AT,BN,BS,BV,BT,BW,BU,BO,A9,A6,A4,A7,A8,A5];omega)) (qO (by rw [hln];omega) (BD (by omega) ?_))
  rw [←oJ hlt] at hR
  exact hR
 ·have:i=a.length:=by omega
  subst this
  rw [List.take_length];exact hk
structure MG (l:List ByteArray):Prop where
 len:l.length≤6
 sz: ∀i,i<l.length→1≤((gS l i).size:Int)∧((gS l i).size:Int)≤8
 one: ∀i,i<l.length→gS l i∉l.take i
theorem dU {l:List ByteArray} {i:Nat} {x:ByteArray} (hi:i<l.length) (h:x∉l.take i) (hn:gS l i≠x):x∉l.take (i+1):=by
 rw [List.take_succ_eq_append_getElem hi,P4 hi]
 simp only [List.mem_append,List.mem_singleton,not_or]
 exact ⟨h,fun he=>hn he.symm⟩
structure TL (h:Hp) (i:Nat):Prop where
 gen:0≤(ob h.BB i).gen∧(ob h.BB i).gen≤999
 len:(ob h.BB i).field.length=3
 lead: ∀j,j<3→gI (ob h.BB i).field j≠ -1→(ob h.BB i).live=true∧0≤AB h.BB (gI (ob h.BB i).field j)
 dead:(ob h.BB i).live=false→(ob h.BB i).site=0∧(ob h.BB i).holds=0∧(ob h.BB i).roots=0∧(ob h.BB i).count=0∧(ob h.BB i).purple=false
 lv:(ob h.BB i).live=true→1≤(ob h.BB i).gen∧(0≤(ob h.BB i).site∧(ob h.BB i).site≤(h.sites.length:Int)-1)∧(0≤(ob h.BB i).holds∧(ob h.BB i).holds≤20)∧(0≤(ob h.BB i).roots∧(ob h.BB i).roots≤20)∧
  (ob h.BB i).count=(ob h.BB i).holds+(ob h.BB i).roots+inE h.BB i∧1≤(ob h.BB i).count∧(ob h.BB i).purple=decide (CU i (ob h.BB i).gen∈h.buffer)
structure C7 (h:Hp):Prop where
 ol:h.BB.length=8
 wl:h.B9.length=8
 sites:MG h.sites
 obj: ∀i,i<8→TL h i
 weak: ∀i,i<8→((wk h.B9 i).used=false→(wk h.B9 i).target=0)∧((wk h.B9 i).used=true→8≤(wk h.B9 i).target∧(wk h.B9 i).target≤7999)
 buf: ∀i,i<h.buffer.length→0≤AB h.BB (gI h.buffer i)∧gI h.buffer i∉h.buffer.take i
theorem qC {l:List Int} {P:Int→Prop} (h0:P 0) (h: ∀x∈l,P x) (i:Nat):P (gI l i):=by
 by_cases hi:i<l.length
 ·rw [←GQ hi];exact h _ (List.getElem_mem hi)
 ·unfold gI;rw [List.getD_eq_getElem?_getD,List.getElem?_eq_none (by omega)];exact h0
theorem WD:F64 0:=⟨by omega,by omega⟩
theorem VO.ob {h:Hp} (hn:VO h) (i:Nat):F64 (ob h.BB i).gen∧F64 (ob h.BB i).site∧F64 (ob h.BB i).holds∧F64 (ob h.BB i).roots∧F64 (ob h.BB i).count∧ ∀f∈(ob h.BB i).field,F64 f:=by
 by_cases hi:i<h.BB.length
 ·rw [←DY hi];exact hn.obj _ (List.getElem_mem hi)
 ·unfold Eng.ob;rw [List.getD_eq_getElem?_getD,List.getElem?_eq_none (by omega)]
  exact ⟨WD,WD,WD,WD,WD,fun f hf=>by simp at hf⟩
theorem VO.fld {h:Hp} (hn:VO h) (i j:Nat):F64 (gI (Eng.ob h.BB i).field j):=qC WD (hn.ob i).2.2.2.2.2 j
theorem VO.bf {h:Hp} (hn:VO h) (i:Nat):F64 (gI h.buffer i):=qC WD hn.buf i
theorem rJ {l:List AX} (hl:(l.length:Int)≤1048576) (hf: ∀o∈l,(o.field.length:Int)≤1048576) (s:Int):0≤inE l s∧inE l s≤2^40:=by
 rw [inE];split
 ·have he:=OM (l:=l) (id:=CU s (ob l s.toNat).gen) (b:=1048576) fun o ho=>by have:=hf o ho;omega
  have hmul:l.length*1048576≤1048576*1048576:=Nat.mul_le_mul_right _ (by omega)
  omega
 ·omega
end Go.Proofs.Ytnhicpkhkaihoaa.P
namespace Go.Proofs.Ytnhicpkhkaihoaa.P
open Go Go.Proofs.Ytnhicpkhkaihoaa Go.Proofs.Ytnhicpkhkaihoaa.Eng
set_option maxHeartbeats 4000000
set_option linter.unusedVariables false
set_option linter.unusedSimpArgs false
attribute [local irreducible] prP gP gE gF AI ixW ldc ldg ldl stc stg scW mkW apW BG cl2 BZ EZ DS
variable {w0:World}
end Go.Proofs.Ytnhicpkhkaihoaa.P
namespace Go.Proofs.Ytnhicpkhkaihoaa.P
open Go Go.Proofs.Ytnhicpkhkaihoaa Go.Proofs.Ytnhicpkhkaihoaa.Eng
set_option linter.unusedVariables false
theorem vE {n:Nat} (hn:1≤n) {K:Value→Value→Prop} (h:K (iv 1) (iv (n-1))):scW n (some (.int .i64 1)) none K:=⟨1,n,rfl,rfl,hn,Nat.le_refl _,h⟩
set_option maxHeartbeats 4000000
set_option linter.unusedVariables false
set_option linter.unusedSimpArgs false
attribute [local irreducible] prP gP gE gF AI ixW ldc ldg ldl stc stg scW mkW apW BG cl2 BZ EZ DS
variable {w0:World}
def O9:List Int:=[-1, -1, -1]
def DT (g:Int):AX:=⟨false,g,0,0,0,0,O9,false⟩
def IC:Nat→List AX→List Int→List Int→List Int→List AX×List Int×List Int
 | 0,os,buf,freed,_=>(os,buf,freed)
 | f+1,os,buf,freed,todo=>match todo with
   | []=>(os,buf,freed)
   | id::todo=>if freed.length>8 then (os,buf,freed) else
     if AB os id<0 then IC f os buf freed todo else
     if w64 ((ob os (AB os id).toNat).count-1)>0 then
      (if (ob os (AB os id).toNat).purple=true then IC f (os.set (AB os id).toNat {ob os (AB os id).toNat with count:=w64 ((ob os (AB os id).toNat).count-1)}) buf freed todo
       else IC f (os.set (AB os id).toNat {ob os (AB os id).toNat with count:=w64 ((ob os (AB os id).toNat).count-1),purple:=true}) (buf++[id]) freed todo)
     else IC f (os.set (AB os id).toNat (DT (ob os (AB os id).toNat).gen)) (buf.filter fun x=>decide (x≠id)) (freed++[id]) (todo++(ob os (AB os id).toNat).field.filter fun x=>decide (0≤x))
def mu (freed todo:List Int):Nat:=todo.length+4*(9-freed.length)
def HM (os:List AX) (buf ids:List Int):List AX×List Int×List Int:=IC (ids.length+37) os buf [] ids
theorem BQ {l:List AX} {id:Int} (h:0≤AB l id):l.length=8∧8≤id∧AB l id=id % 8∧(AB l id).toNat<8∧(ob l (AB l id).toNat).live=true∧(ob l (AB l id).toNat).gen=id/8:=by
 unfold AB at h ⊢
 split at h
 ·omega
 ·split at h
  ·rename_i h1 h2
   rw [if_neg h1,if_pos h2]
   exact ⟨by omega,by omega,rfl,by omega,h2.1,h2.2⟩
  ·omega
structure OF (o:AX):Prop where
 gen:F64 o.gen
 len:o.field.length=3
 fld: ∀f∈o.field,F64 f
theorem OF.free {g:Int} (h:F64 g):OF (DT g):=⟨h,rfl,by simp [DT,O9,F64]⟩
theorem H0 {l:List AX} {P:AX→Prop} {i:Nat} {o:AX} (h: ∀x∈l,P x) (ho:P o): ∀x∈l.set i o,P x:=fun x hx=>(List.mem_or_eq_of_mem_set hx).elim (h x) fun he=>he ▸ ho
structure LsI (R:List AX×List Int×List Int) (M:Nat) (q:List AX×List Int×List Int×List Int×Nat):Prop where
 ol:q.1.length=8
 of: ∀o∈q.1,OF o
 fr:q.2.2.1.length≤9
 off:q.2.2.2.2≤q.2.2.2.1.length
 td: ∀x∈q.2.2.2.1.drop q.2.2.2.2,F64 x
 sz:q.2.1.length+mu q.2.2.1 (q.2.2.2.1.drop q.2.2.2.2)≤M
 go: ∃f,mu q.2.2.1 (q.2.2.2.1.drop q.2.2.2.2)<f∧IC f q.1 q.2.1 q.2.2.1 (q.2.2.2.1.drop q.2.2.2.2)=R
theorem SX {l:List Int} {x:Int} {K:J2} (hl:(l.length:Int)≤2^40) (h:K [] [tI (l.filter fun y=>decide (y≠x))]):cl2 ⟨Try.prog,w0⟩ 224 DV.sg [I x] [tI l] K:=by
 refine DV.cl2 ?_
 unfold DV.txt
 simp only [AJ,AQ,AL,AR,AO,AE,AG,AU,AN,AS,AV,AP,AM,AT,BN,BS,BV,BT,BW,BU,BO,A9,A6,A4,A7,A8,A5]
 refine BF (fun i=>[I x,iv i]) (fun i=>[tI ((l.take i).filter fun y=>decide (y≠x))]) l.length (fun _=>True) rfl rfl trivial (fun R i hi _ hR=> ?_)
 have hln:=List.length_filter_le (fun y=>decide (y≠x)) (l.take i)
 have hlt2:(l.take i).length≤i:=by simp;omega
 simp only [AJ,AQ,AL,AR,AO,AE,AG,AU,AN,AS,AV,AP,AM,AT,BN,BS,BV,BT,BW,BU,BO,A9,A6,A4,A7,A8,A5]
 refine A1 (AH (fun hlt=> ?_) fun hge=> ?_)
 ·have hlt:i<l.length:=by omega
  replace hR:=hR hlt trivial
  rw [List.take_succ_eq_append_getElem hlt,List.filter_append,GQ hlt] at hR
  refine BX (AK hlt (ldI hlt (DR (AH (fun he=> ?_) fun he=> ?_))))
  ·refine AK hlt (ldI hlt (GW rfl (by omega) (BD (by omega) ?_)))
   have e:([gI l i].filter fun y=>decide (y≠x))=[gI l i]:=by simp [he]
   rw [e, ←HL] at hR;exact hR
  ·refine BD (by omega) ?_
   have e:([gI l i].filter fun y=>decide (y≠x))=[]:=by simp at he;simp [he]
   rw [e,List.append_nil] at hR;exact hR
 ·have:i=l.length:=by omega
  subst this
  rw [List.take_length];exact h
theorem sF {l:List Int} {a:Nat} {K:Value→Prop} (ha:a<l.length) (h:K (I (gI l a))):ldc (tI l) [] (a+AA (iv 0)*1) K:=by
 have e:a+AA (iv 0)*1=AA (iv a)*1:=by rw [AY,AY];omega
 rw [e];exact ldI ha h
theorem drop_cons {l:List Int} {a:Nat} (ha:a<l.length):l.drop a=gI l a::l.drop (a+1):=by rw [List.drop_eq_getElem_cons ha,GQ ha]
theorem gR {freed todo:List Int} {x:Int}:mu freed (x::todo)=mu freed todo+1:=by simp only [mu,List.length_cons];omega
theorem HX {l:List AX} {i:Nat} (h:i<l.length):ob l i∈l:=by rw [←DY h];exact List.getElem_mem h
theorem qQ {l:List AX} {i:Nat} (h:i<l.length):tR tO l=tR tO (l.set i (ob l i)):=by rw [←DY h];exact pJ h
theorem LsI.start {os:List AX} {buf ids:List Int} (hol:os.length=8) (hof: ∀o∈os,OF o) (hid: ∀x∈ids,F64 x):LsI (HM os buf ids) (buf.length+ids.length+36) (os,buf,[],ids,0):=
 ⟨hol,hof,Nat.zero_le _,Nat.zero_le _,by simpa using hid,by simp only [mu,List.drop_zero,List.length_nil];omega,ids.length+37,by simp only [mu,List.drop_zero,List.length_nil];omega,rfl⟩
section
variable {R:List AX×List Int×List Int} {M:Nat} {os:List AX} {buf freed row:List Int} {off:Nat}
theorem LsI.stop (h:LsI R M (os,buf,freed,row,off)) (hs:row.length≤off∨8<freed.length):R=(os,buf,freed):=by
 obtain ⟨_,_,_,_,_,_,f,hf,go⟩:=h
 simp only at hf go
 obtain ⟨f,rfl⟩: ∃f',f=f'+1:=⟨f-1,by omega⟩
 rcases hs with hs | hs
 ·rw [List.drop_of_length_le hs] at go
  rw [←go];rfl
 ·rw [←go]
  cases row.drop off with
  | nil=>rfl
  | cons x l=>simp only [IC,if_pos hs]
theorem LsI.step (h:LsI R M (os,buf,freed,row,off)) (hlt:off<row.length) (hfr:freed.length≤8):F64 (gI row off)∧ ∃f,mu freed (row.drop (off+1))<f∧IC (f+1) os buf freed (gI row off::row.drop (off+1))=R∧buf.length+mu freed (row.drop (off+1))+1≤M∧ ∀x∈row.drop (off+1),F64 x:=by
 obtain ⟨_,_,_,_,td,sz,f,hf,go⟩:=h
 simp only at td sz hf go
 rw [drop_cons hlt] at td sz hf go
 rw [gR] at sz hf
 obtain ⟨f,rfl⟩: ∃f',f=f'+1:=⟨f-1,by omega⟩
 exact ⟨td _ (by simp),f,by omega,go,by omega,fun x hx=>td x (by simp [hx])⟩
theorem LsI.skip (h:LsI R M (os,buf,freed,row,off)) (hlt:off<row.length) (hfr:freed.length≤8) (hs:AB os (gI row off)<0):LsI R M (os,buf,freed,row,off+1):=by
 obtain ⟨_,f,h1,h2,h3,h4⟩:=h.step hlt hfr
 rw [IC] at h2
 simp only at h2
 rw [if_neg (by omega),if_pos hs] at h2
 exact ⟨h.ol,h.of,h.fr,hlt,h4,by simp only;omega,f,h1,h2⟩
theorem LsI.M5 (h:LsI R M (os,buf,freed,row,off)) (hlt:off<row.length) (hfr:freed.length≤8) (hs:0≤AB os (gI row off)) (hc:w64 ((ob os (AB os (gI row off)).toNat).count-1)>0) (hp:(ob os (AB os (gI row off)).toNat).purple=true):
  LsI R M (os.set (AB os (gI row off)).toNat {ob os (AB os (gI row off)).toNat with count:=w64 ((ob os (AB os (gI row off)).toNat).count-1)},buf,freed,row,off+1):=by
 obtain ⟨_,f,h1,h2,h3,h4⟩:=h.step hlt hfr
 have hk:=BQ hs
 have ho:=h.of _ (HX (l:=os) (i:=(AB os (gI row off)).toNat) (by omega))
 rw [IC] at h2
 simp only at h2
 rw [if_neg (by omega),if_neg (by omega),if_pos hc,if_pos hp] at h2
 exact ⟨by simp only [List.length_set];exact h.ol,H0 h.of ⟨ho.gen,ho.len,ho.fld⟩,h.fr,hlt,h4,by simp only;omega,f,h1,h2⟩
theorem LsI.put (h:LsI R M (os,buf,freed,row,off)) (hlt:off<row.length) (hfr:freed.length≤8) (hs:0≤AB os (gI row off)) (hc:w64 ((ob os (AB os (gI row off)).toNat).count-1)>0) (hp:(ob os (AB os (gI row off)).toNat).purple=false):
  LsI R M (os.set (AB os (gI row off)).toNat {ob os (AB os (gI row off)).toNat with count:=w64 ((ob os (AB os (gI row off)).toNat).count-1),purple:=true},buf++[gI row off],freed,row,off+1):=by
 obtain ⟨_,f,h1,h2,h3,h4⟩:=h.step hlt hfr
 have hk:=BQ hs
 have ho:=h.of _ (HX (l:=os) (i:=(AB os (gI row off)).toNat) (by omega))
 rw [IC] at h2
 simp only at h2
 rw [if_neg (by omega),if_neg (by omega),if_pos hc,if_neg (by rw [hp];decide)] at h2
 exact ⟨by simp only [List.length_set];exact h.ol,H0 h.of ⟨ho.gen,ho.len,ho.fld⟩,h.fr,hlt,h4,by simp only [List.length_append,List.length_singleton];omega,f,h1,h2⟩
theorem LsI.free (h:LsI R M (os,buf,freed,row,off)) (hlt:off<row.length) (hfr:freed.length≤8) (hs:0≤AB os (gI row off)) (hc: ¬w64 ((ob os (AB os (gI row off)).toNat).count-1)>0) {row':List Int} {off':Nat} (hrow:row'.drop off'=row.drop (off+1)++(ob os (AB os (gI row off)).toNat).field.filter fun x=>decide (0≤x)) (hle:off'≤row'.length):
  LsI R M (os.set (AB os (gI row off)).toNat (DT (ob os (AB os (gI row off)).toNat).gen),buf.filter fun x=>decide (x≠gI row off),freed++[gI row off],row',off'):=by
 obtain ⟨_,f,h1,h2,h3,h4⟩:=h.step hlt hfr
 have hk:=BQ hs
 have ho:=h.of _ (HX (l:=os) (i:=(AB os (gI row off)).toNat) (by omega))
 have hfl:=List.length_filter_le (fun x=>decide (0≤x)) (ob os (AB os (gI row off)).toNat).field
 have hbl:=List.length_filter_le (fun x=>decide (x≠gI row off)) buf
 rw [ho.len] at hfl
 rw [IC] at h2
 simp only at h2
 rw [if_neg (by omega),if_neg (by omega),if_neg hc] at h2
 have hmu:mu (freed++[gI row off]) (row'.drop off')≤mu freed (row.drop (off+1)):=by
  rw [hrow];simp only [mu,List.length_append,List.length_singleton];omega
 refine ⟨by simp only [List.length_set];exact h.ol,H0 h.of (OF.free ho.gen),by simp only [List.length_append,List.length_singleton];omega,hle,fun x hx=> ?_,by simp only;omega,f,by simp only;omega,by rw [←h2,hrow]⟩
 simp only at hx
 rw [hrow] at hx
 rcases List.mem_append.1 hx with hx | hx
 ·exact h4 x hx
 ·exact ho.fld x (List.mem_filter.1 hx).1
end
section
variable {cur:List AX} {k:Nat} {y:AX}
theorem mQ (hk:k<cur.length):IM (tR tO (cur.set k y)) [k*8+6]=tI y.field:=by have:=U7 (y:=y) hk;rwa [AY] at this
theorem p5 {i:Nat} {K:Value→Prop} (hk:k<cur.length) (hi:i<y.field.length) (h:K (I (gI y.field i))):ldc (tR tO (cur.set k y)) [k*8+6] i K:=by
 have:=QX (l:=cur.set k y) (i:=k) (j:=i) (K:=K) (by simpa using hk) (by rw [←DY (by simpa using hk),List.getElem_set_self];exact hi) (by rw [←DY (by simpa using hk),List.getElem_set_self];exact h)
 simpa only [AY,Nat.mul_one] using this
theorem uA {K:Value→Prop} (hk:k<cur.length) (h:K (I y.gen)):ldc (tR tO (cur.set k y)) [] (k*8+1) K:=by
 have:=RU (f:=tO) (K:=K) (c:=1) (y:=y) hk (by decide) rfl h
 rwa [AY] at this
theorem uX {ts:List T} {z:AX} {K:List T→Prop} (hk:k<cur.length) (hy:ts=tO z) (h:K (tR tO (cur.set k z))):stg (tR tO (cur.set k y)) [] (k*8) ts K:=by
 have:=TA (f:=tO) (l:=cur.set k y) (K:=K) (by simpa using hk) hy (by rw [List.set_set];exact h)
 rwa [AY] at this
theorem RN (l:List Int) (a m:Nat):H4 (tI l) [] a m=tI ((l.drop a).take m):=by simp [H4,node,tI,List.map_drop,List.map_take]
end
end Go.Proofs.Ytnhicpkhkaihoaa.P
