/- A part of the proof. -/
import Derived.Test.YtnhicpkhkaihoaaGreatRcTxtE
namespace Go.Proofs.YtnhicpkhkaihoaaGreat.P
open Go Go.Proofs.YtnhicpkhkaihoaaGreat Go.Proofs.YtnhicpkhkaihoaaGreat.Eng
set_option linter.unusedVariables false
def szB (s:ByteArray):Bool:=decide ((s.size:Int)≤8)
def NF (l:List ByteArray):Bool:=l.all szB&&decide l.Nodup
def VH (n:Int) (l:List ByteArray):Bool:=(LG n&&decide (l.length≤400))&&NF l
theorem VZ {l:List ByteArray} {i:Nat} (hi:i<l.length):NF (l.take (i+1))=true↔NF (l.take i)=true∧szB l[i]=true∧l[i]∉l.take i:=by
 rw [List.take_succ_eq_append_getElem hi]
 simp only [NF,Bool.and_eq_true,decide_eq_true_eq,List.all_append,List.all_cons,List.all_nil,Bool.and_true,List.nodup_append,List.nodup_cons,List.not_mem_nil,not_false_eq_true,List.nodup_nil,and_true,true_and,List.mem_singleton]
 constructor
 ·rintro ⟨⟨h1,h2⟩,h3,h4⟩
  exact ⟨⟨h1,h3⟩,h2,fun hm=>h4 _ hm _ rfl rfl⟩
 ·rintro ⟨⟨h1,h2⟩,h3,h4⟩
  exact ⟨⟨h1,h3⟩,h2,fun a ha b hb he=>h4 (by rw [←hb, ←he];exact ha)⟩
theorem ZA {l:List ByteArray} {i:Nat} (hi:i<l.length) (h:szB l[i]=false∨l[i]∈l.take i):NF l=false:=by
 cases hg:NF l
 ·rfl
 ·exfalso
  have:NF (l.take (i+1))=true:=by
   simp only [NF,Bool.and_eq_true,decide_eq_true_eq] at hg ⊢
   refine ⟨?_,hg.2.sublist (List.take_sublist _ _)⟩
   rw [List.all_eq_true] at hg ⊢
   exact fun x hx=>hg.1 x (List.mem_of_mem_take hx)
  obtain ⟨_,h1,h2⟩:=(VZ hi).1 this
  rcases h with h | h
  ·rw [h] at h1;cases h1
  ·exact h2 h
theorem W7 {w0:World} {n:Int} {l:List ByteArray} {K:J2} (hl:(l.length:Int)<2^62) (h:K [.bool (VH n l)] []):cl2 ⟨Tryz.prog,w0⟩ 133 FY.sg [I n] [tS l] K:=by
 refine FY.cl2 ?_
 unfold FY.txt
 simp only [AI]
 refine AY (fun i=>[iv i,I n]) (fun _=>[]) l.length (fun i=>NF (l.take i)=true) rfl rfl (by simp [NF]) (fun R i hi hP hR=> ?_)
 refine IS (AW (fun hlt=> ?_) fun hge=> ?_)
 ·refine AH hlt (OU hlt (HE (GD (b:=8) (AW (fun hb=> ?_) fun hb=> ?_))))
  ·have:NF l=false:=ZA hlt (.inl (by simp [szB];omega))
   rw [VH,this,Bool.and_false] at h;exact h
  ·have hs:szB l[i]=true:=by simp [szB];omega
   refine AY (fun j=>[iv i,iv j,I n]) (fun _=>[]) i (fun j=>l[i]∉l.take j) rfl rfl (by simp) (fun R2 j hj hP2 hR2=> ?_)
   refine IS (AW (fun hlt2=> ?_) fun hge2=> ?_)
   ·have hjl:j<l.length:=by omega
    refine AH hjl (OU hjl (AH hlt (OU hlt (UN (ZL (fun he=> ?_) fun hne=> ?_)))))
    ·have:NF l=false:=ZA hlt (.inr (by rw [←he];exact List.mem_take_iff_getElem.2 ⟨j,by omega,rfl⟩))
     rw [VH,this,Bool.and_false] at h;exact h
    ·exact AX (by omega) (hR2 hlt2 (TE hjl hP2 hne))
   ·have:j=i:=by omega
    subst this
    exact AX (by omega) (hR hlt ((VZ hlt).2 ⟨hP,hs,hP2⟩))
 ·have:i=l.length:=by omega
  subst this
  rw [List.take_length] at hP
  refine G8 (HL (HL (HL (MH (fun _ K hk=>eC (b:=400) hk) ?_))))
  rw [VH,hP,Bool.and_true] at h;exact h
theorem lL {n i:Nat} (hi:i≤n) {K:Value→Value→Prop} (h:K (iv 0) (iv i)):scW n none (some (iv i)) K:=
 ⟨0,i,rfl,by simp [bnd,iv],Nat.zero_le _,hi,h⟩
theorem yS {a b:Bool} {x:Value} {m1:(Value→Prop)→Prop} {m2:Value→(Value→Prop)→Prop} {K:Value→Prop} (h1:a=false→ ∀K:Value→Prop,K x→m1 K) (h2:a=false→ ∀K:Value→Prop,K (.bool b)→m2 x K) (h:K (.bool (a||b))):
  gP (.bool a) false m1 fun x=>gE (.bool a) (gP (.bool a) false (m2 x) fun t=>prP (pk (.bool a) (.bool true) t) K):=by
 cases a
 ·exact .inl ⟨rfl,h1 rfl _ (HL (.inl ⟨rfl,h2 rfl _ (BD rfl (by simpa using h))⟩))⟩
 ·exact .inr ⟨.inl rfl,HL (.inr ⟨.inl rfl,BD rfl h⟩)⟩
theorem eE {w0:World} {n:Int} {l:List ByteArray} {K:J2} (hl:(l.length:Int)<2^62) (h:K [.bool (VH n l)] []):cl2 ⟨Tryz.prog,w0⟩ 89 I0.sg [I n] [tS l] K:=by
 refine I0.cl2 ?_
 unfold I0.txt
 simp only [AI]
 refine AY (fun i=>[iv l.length,iv i,I n]) (fun _=>[]) l.length (fun i=>NF (l.take i)=true) rfl rfl (by simp [NF]) (fun R i hi hP hR=> ?_)
 refine IS (AW (fun hlt=> ?_) fun hge=> ?_)
 ·refine AH hlt (OU hlt (HE (GD (b:=8) (HL (HL (HL (yS (x:=two (iv 0) (iv i)) (b:=decide (l[i]∈l.take i)) (fun _ K hk=>lL hi hk) (fun _ K hk=> ?_) ?_)))))))
  ·have e:JE (tS l) [] (AA (jC (two (iv 0) (iv i)))*1) (AA (iB (two (iv 0) (iv i)))*1)=tS (l.take i):=by
    have h1:AA (jC (two (iv 0) (iv i)))=0:=rfl
    have h2:AA (iB (two (iv 0) (iv i)))=i:=A1 i
    rw [h1,h2];simp [JE,node,tS,List.map_take]
   rw [e]
   exact YO (by simp;omega) hk
  ·refine JJ (fun hb=> ?_) fun hb=> ?_
   ·have:NF l=false:=ZA hlt (by
     rw [Bool.or_eq_true,decide_eq_true_eq,decide_eq_true_eq] at hb
     exact hb.imp (fun h=>by simp [szB];omega) id)
    rw [VH,this,Bool.and_false] at h;exact h
   ·rw [Bool.or_eq_false_iff,decide_eq_false_iff_not,decide_eq_false_iff_not] at hb
    exact AX (by omega) (hR hlt ((VZ hlt).2 ⟨hP,by simp [szB];omega,hb.2⟩))
 ·have:i=l.length:=by omega
  subst this
  rw [List.take_length] at hP
  refine IZ (HL (HL (HL (MH (fun _ K hk=>eC (b:=400) hk) ?_))))
  rw [VH,hP,Bool.and_true] at h;exact h
def U7 (l:List ByteArray) (s:ByteArray):ByteArray:=if s∈l then V (at_ l s+1) else V 0++ST s
def bC (l:List ByteArray) (s:ByteArray):List ByteArray:=if s∈l then l else l++[s]
theorem Y1 {w0:World} {n:Value} {l:List ByteArray} {s:ByteArray} {K:J2} (hl:l.length<2^40) (h:K [.string (U7 l s),n] [tS (bC l s)]):cl2 ⟨Tryz.prog,w0⟩ 134 GQ.sg [n, .string s] [tS l] K:=by
 refine GQ.cl2 ?_
 unfold GQ.txt
 simp only [AI,List.nil_append]
 refine UX (RZ l) (by simp [cnt];omega) ?_
 refine AY (fun i=>[.string s,iv i,n, .int .i64 0,n]) (fun _=>[tS l]) l.length (fun i=>s∉l.take i) rfl rfl (by simp) (fun R i hi hP hR=> ?_)
 refine IS (AW (fun hlt=> ?_) fun hge=> ?_)
 ·refine AH hlt (OU hlt (UN (ZL (fun he=> ?_) fun hne=> ?_)))
  ·have hm:s∈l:=he ▸ List.getElem_mem hlt
   rw [U7,bC,if_pos hm,if_pos hm,mZ hlt hP he] at h
   refine AX (by omega) (KF (n:=Int.ofNat (i+1)) ⟨by simp only [Int.ofNat_eq_natCast];omega,by simp only [Int.ofNat_eq_natCast];omega⟩ ?_)
   exact h
  ·exact AX (by omega) (hR hlt (TE hlt hP hne))
 ·have:i=l.length:=by omega
  subst this
  rw [List.take_length] at hP
  rw [U7,bC,if_neg hP,if_neg hP] at h
  have hc:cnt 1 (nxc [tS l] 0)=l.length:=AI l
  rw [hc]
  have h1:=HI 0
  have h2:=fU s
  refine UX rfl (by simp [cnt];omega) (KF ⟨by omega,by omega⟩ (WW (B8 (by omega) ?_)))
  have e:nxc [tS l] 0++[T.c (nx [.string s,iv l.length,n, .int .i64 0,n] 0)]=tS (l++[s]):=by simp [tS,nxc,nx]
  rw [e];exact h
end Go.Proofs.YtnhicpkhkaihoaaGreat.P
namespace Go.Proofs.YtnhicpkhkaihoaaGreat.P
open Go Go.Proofs.YtnhicpkhkaihoaaGreat Go.Proofs.YtnhicpkhkaihoaaGreat.Eng
set_option maxHeartbeats 4000000
set_option linter.unusedVariables false
set_option linter.unusedSimpArgs false
attribute [local irreducible] prP gP gE gF AG ixW ldc ldg ldl stc stg scW mkW apW BB cl2 BY FT DG
variable {w0:World}
theorem nE {a:List AZ} {i:Nat} (hi:i<a.length):tR tO (a.take i)++[T.c (.bool (ob a i).live), .c (I (ob a i).gen), .c (I (ob a i).site), .c (I (ob a i).holds), .c (I (ob a i).roots), .c (I (ob a i).count), .l 1 (tI (ob a i).field), .c (.bool (ob a i).purple)]=tR tO (a.take (i+1)):=by
 rw [List.take_succ_eq_append_getElem hi,D9 hi]
 exact mK _ (ob a i)
theorem W5 {h:Hp} {K:J2} (hf:Fits h) (hk:K [] (trees h)):cl2 ⟨Tryz.prog,w0⟩ 83 FL.sg [] (trees h) K:=by
 obtain ⟨a,b,c,d⟩:=h
 have g1:=hf.ol;have g2:=hf.wl;have g3:=hf.sl;have g4:=hf.bl
 simp only at g1 g2 g3 g4
 refine FL.cl2 ?_
 unfold FL.txt
 simp only [AK,AQ,AN,AP,AS,AE,AI,AU,AL,AV,AT,AM,AR,AO,BF,BM,BL,BI,BK,BJ,BG,A7,A4,A5,A8,A6,A9]
 refine FC (fJ _) (by omega) (I6 (by omega) (U8 (by omega) ?_))
 refine AY (fun i=>[iv a.length,iv i]) (fun i=>[tR tO (a.take i),tR tW b,tI c,tS d]) a.length (fun _=>True) rfl rfl trivial (fun R i hi hP hR=> ?_)
 simp only [AK,AQ,AN,AP,AS,AE,AI,AU,AL,AV,AT,AM,AR,AO,BF,BM,BL,BI,BK,BJ,BG,A7,A4,A5,A8,A6,A9]
 refine AJ (AW (fun hlt=> ?_) fun hge=> ?_)
 ·have hlt:i<a.length:=by omega
  have hfo:((ob a i).field.length:Int)≤1048576:=w9 (l:=a) hf.of hlt
  have hln:(a.take i).length=i:=by simp;omega
  replace hR:=hR hlt trivial
  refine AH hlt (RF hlt ?_)
  rw [I8 hlt]
  refine I6 (by omega) (iF (by rw [hln];omega) (AX (by omega) ?_))
  rw [←nE hlt] at hR
  exact hR
 ·have:i=a.length:=by omega
  subst this
  rw [List.take_length];exact hk
theorem LY {h:Hp} {K:J2} (hf:Fits h) (hk:K [] (trees h)):cl2 ⟨Tryz.prog,w0⟩ 103 DD.sg [] (trees h) K:=by
 obtain ⟨a,b,c,d⟩:=h
 have g1:=hf.ol;have g2:=hf.wl;have g3:=hf.sl;have g4:=hf.bl
 simp only at g1 g2 g3 g4
 refine DD.cl2 ?_
 unfold DD.txt
 simp only [AK,AQ,AN,AP,AS,AE,AI,AU,AL,AV,AT,AM,AR,AO,BF,BM,BL,BI,BK,BJ,BG,A7,A4,A5,A8,A6,A9]
 refine FC (fJ _) (by simp only [cnt,List.length_nil];omega) (FC (ON _) (by omega) (FC (RZ _) (by omega) ?_))
 refine AY (fun i=>[iv i]) (fun i=>[tR tO (a.take i),tR tW b,tI c,tS d]) a.length (fun _=>True) rfl rfl trivial (fun R i hi hP hR=> ?_)
 simp only [AK,AQ,AN,AP,AS,AE,AI,AU,AL,AV,AT,AM,AR,AO,BF,BM,BL,BI,BK,BJ,BG,A7,A4,A5,A8,A6,A9]
 refine AJ (AW (fun hlt=> ?_) fun hge=> ?_)
 ·have hlt:i<a.length:=by omega
  have hfo:((ob a i).field.length:Int)≤1048576:=w9 (l:=a) hf.of hlt
  have hln:(a.take i).length=i:=by simp;omega
  replace hR:=hR hlt trivial
  refine AH hlt (RF hlt ?_)
  rw [I8 hlt]
  refine FC (ON _) (by first | omega | (simp only [AK,AQ,AN,AP,AS,AE,AI,AU,AL,AV,AT,AM,AR,AO,BF,BM,BL,BI,BK,BJ,BG,A7,A4,A5,A8,A6,A9];omega)) (iF (by rw [hln];omega) (AX (by omega) ?_))
  rw [←nE hlt] at hR
  exact hR
 ·have:i=a.length:=by omega
  subst this
  rw [List.take_length];exact hk
structure OB (l:List ByteArray):Prop where
 len:l.length≤6
 sz: ∀i,i<l.length→1≤((gS l i).size:Int)∧((gS l i).size:Int)≤8
 one: ∀i,i<l.length→gS l i∉l.take i
theorem lR {l:List ByteArray} {i:Nat} {x:ByteArray} (hi:i<l.length) (h:x∉l.take i) (hn:gS l i≠x):x∉l.take (i+1):=by
 rw [List.take_succ_eq_append_getElem hi,S7 hi]
 simp only [List.mem_append,List.mem_singleton,not_or]
 exact ⟨h,fun he=>hn he.symm⟩
structure WO (h:Hp) (i:Nat):Prop where
 gen:0≤(ob h.BC i).gen∧(ob h.BC i).gen≤999
 len:(ob h.BC i).field.length=3
 lead: ∀j,j<3→gI (ob h.BC i).field j≠ -1→(ob h.BC i).live=true∧0≤AB h.BC (gI (ob h.BC i).field j)
 dead:(ob h.BC i).live=false→(ob h.BC i).site=0∧(ob h.BC i).holds=0∧(ob h.BC i).roots=0∧(ob h.BC i).count=0∧(ob h.BC i).purple=false
 lv:(ob h.BC i).live=true→1≤(ob h.BC i).gen∧(0≤(ob h.BC i).site∧(ob h.BC i).site≤(h.sites.length:Int)-1)∧(0≤(ob h.BC i).holds∧(ob h.BC i).holds≤20)∧(0≤(ob h.BC i).roots∧(ob h.BC i).roots≤20)∧
  (ob h.BC i).count=(ob h.BC i).holds+(ob h.BC i).roots+inE h.BC i∧1≤(ob h.BC i).count∧(ob h.BC i).purple=decide (C0 i (ob h.BC i).gen∈h.buffer)
structure DZ (h:Hp):Prop where
 ol:h.BC.length=8
 wl:h.B9.length=8
 sites:OB h.sites
 obj: ∀i,i<8→WO h i
 weak: ∀i,i<8→((wk h.B9 i).used=false→(wk h.B9 i).target=0)∧((wk h.B9 i).used=true→8≤(wk h.B9 i).target∧(wk h.B9 i).target≤7999)
 buf: ∀i,i<h.buffer.length→0≤AB h.BC (gI h.buffer i)∧gI h.buffer i∉h.buffer.take i
theorem xA {l:List Int} {P:Int→Prop} (h0:P 0) (h: ∀x∈l,P x) (i:Nat):P (gI l i):=by
 by_cases hi:i<l.length
 ·rw [←GG hi];exact h _ (List.getElem_mem hi)
 ·unfold gI;rw [List.getD_eq_getElem?_getD,List.getElem?_eq_none (by omega)];exact h0
theorem YU:F64 0:=⟨by omega,by omega⟩
theorem Z3.ob {h:Hp} (hn:Z3 h) (i:Nat):F64 (ob h.BC i).gen∧F64 (ob h.BC i).site∧F64 (ob h.BC i).holds∧F64 (ob h.BC i).roots∧F64 (ob h.BC i).count∧ ∀f∈(ob h.BC i).field,F64 f:=by
 by_cases hi:i<h.BC.length
 ·rw [←D9 hi];exact hn.obj _ (List.getElem_mem hi)
 ·unfold Eng.ob;rw [List.getD_eq_getElem?_getD,List.getElem?_eq_none (by omega)]
  exact ⟨YU,YU,YU,YU,YU,fun f hf=>by simp at hf⟩
theorem Z3.fld {h:Hp} (hn:Z3 h) (i j:Nat):F64 (gI (Eng.ob h.BC i).field j):=xA YU (hn.ob i).2.2.2.2.2 j
theorem Z3.bf {h:Hp} (hn:Z3 h) (i:Nat):F64 (gI h.buffer i):=xA YU hn.buf i
theorem yB {l:List AZ} (hl:(l.length:Int)≤1048576) (hf: ∀o∈l,(o.field.length:Int)≤1048576) (s:Int):0≤inE l s∧inE l s≤2^40:=by
 rw [inE];split
 ·have he:=PJ (l:=l) (id:=C0 s (ob l s.toNat).gen) (b:=1048576) fun o ho=>by have:=hf o ho;omega
  have hmul:l.length*1048576≤1048576*1048576:=Nat.mul_le_mul_right _ (by omega)
  omega
 ·omega
end Go.Proofs.YtnhicpkhkaihoaaGreat.P
namespace Go.Proofs.YtnhicpkhkaihoaaGreat.P
open Go Go.Proofs.YtnhicpkhkaihoaaGreat Go.Proofs.YtnhicpkhkaihoaaGreat.Eng
set_option maxHeartbeats 4000000
set_option linter.unusedVariables false
set_option linter.unusedSimpArgs false
attribute [local irreducible] prP gP gE gF AG ixW ldc ldg ldl stc stg scW mkW apW BB cl2 BY FT DG
variable {w0:World}
end Go.Proofs.YtnhicpkhkaihoaaGreat.P
namespace Go.Proofs.YtnhicpkhkaihoaaGreat.P
open Go Go.Proofs.YtnhicpkhkaihoaaGreat Go.Proofs.YtnhicpkhkaihoaaGreat.Eng
set_option linter.unusedVariables false
theorem wV {n:Nat} (hn:1≤n) {K:Value→Value→Prop} (h:K (iv 1) (iv (n-1))):scW n (some (.int .i64 1)) none K:=⟨1,n,rfl,rfl,hn,Nat.le_refl _,h⟩
set_option maxHeartbeats 4000000
set_option linter.unusedVariables false
set_option linter.unusedSimpArgs false
attribute [local irreducible] prP gP gE gF AG ixW ldc ldg ldl stc stg scW mkW apW BB cl2 BY FT DG
variable {w0:World}
def QK:List Int:=[-1, -1, -1]
def CV (g:Int):AZ:=⟨false,g,0,0,0,0,QK,false⟩
def J5:Nat→List AZ→List Int→List Int→List Int→List AZ×List Int×List Int
 | 0,os,buf,freed,_=>(os,buf,freed)
 | f+1,os,buf,freed,todo=>match todo with
   | []=>(os,buf,freed)
   | id::todo=>if freed.length>8 then (os,buf,freed) else
     if AB os id<0 then J5 f os buf freed todo else
     if w64 ((ob os (AB os id).toNat).count-1)>0 then
      (if (ob os (AB os id).toNat).purple=true then J5 f (os.set (AB os id).toNat {ob os (AB os id).toNat with count:=w64 ((ob os (AB os id).toNat).count-1)}) buf freed todo
       else J5 f (os.set (AB os id).toNat {ob os (AB os id).toNat with count:=w64 ((ob os (AB os id).toNat).count-1),purple:=true}) (buf++[id]) freed todo)
     else J5 f (os.set (AB os id).toNat (CV (ob os (AB os id).toNat).gen)) (buf.filter fun x=>decide (x≠id)) (freed++[id]) (todo++(ob os (AB os id).toNat).field.filter fun x=>decide (0≤x))
def mu (freed todo:List Int):Nat:=todo.length+4*(9-freed.length)
def IA (os:List AZ) (buf ids:List Int):List AZ×List Int×List Int:=J5 (ids.length+37) os buf [] ids
theorem BN {l:List AZ} {id:Int} (h:0≤AB l id):l.length=8∧8≤id∧AB l id=id % 8∧(AB l id).toNat<8∧(ob l (AB l id).toNat).live=true∧(ob l (AB l id).toNat).gen=id/8:=by
 unfold AB at h ⊢
 split at h
 ·omega
 ·split at h
  ·rename_i h1 h2
   rw [if_neg h1,if_pos h2]
   exact ⟨by omega,by omega,rfl,by omega,h2.1,h2.2⟩
  ·omega
structure OF (o:AZ):Prop where
 gen:F64 o.gen
 len:o.field.length=3
 fld: ∀f∈o.field,F64 f
theorem OF.free {g:Int} (h:F64 g):OF (CV g):=⟨h,rfl,by simp [CV,QK,F64]⟩
theorem IG {l:List AZ} {P:AZ→Prop} {i:Nat} {o:AZ} (h: ∀x∈l,P x) (ho:P o): ∀x∈l.set i o,P x:=fun x hx=>(List.mem_or_eq_of_mem_set hx).elim (h x) fun he=>he ▸ ho
structure LsI (R:List AZ×List Int×List Int) (M:Nat) (q:List AZ×List Int×List Int×List Int×Nat):Prop where
 ol:q.1.length=8
 of: ∀o∈q.1,OF o
 fr:q.2.2.1.length≤9
 off:q.2.2.2.2≤q.2.2.2.1.length
 td: ∀x∈q.2.2.2.1.drop q.2.2.2.2,F64 x
 sz:q.2.1.length+mu q.2.2.1 (q.2.2.2.1.drop q.2.2.2.2)≤M
 go: ∃f,mu q.2.2.1 (q.2.2.2.1.drop q.2.2.2.2)<f∧J5 f q.1 q.2.1 q.2.2.1 (q.2.2.2.1.drop q.2.2.2.2)=R
theorem YL {l:List Int} {x:Int} {K:J2} (hl:(l.length:Int)≤2^40) (h:K [] [tI (l.filter fun y=>decide (y≠x))]):cl2 ⟨Tryz.prog,w0⟩ 189 GK.sg [I x] [tI l] K:=by
 refine GK.cl2 ?_
 unfold GK.txt
 simp only [AK,AQ,AN,AP,AS,AE,AI,AU,AL,AV,AT,AM,AR,AO,BF,BM,BL,BI,BK,BJ,BG,A7,A4,A5,A8,A6,A9]
 refine AY (fun i=>[I x,iv l.length,iv i]) (fun i=>[tI ((l.take i).filter fun y=>decide (y≠x))]) l.length (fun _=>True) rfl rfl trivial (fun R i hi _ hR=> ?_)
 have hln:=List.length_filter_le (fun y=>decide (y≠x)) (l.take i)
 have hlt2:(l.take i).length≤i:=by simp;omega
 simp only [AK,AQ,AN,AP,AS,AE,AI,AU,AL,AV,AT,AM,AR,AO,BF,BM,BL,BI,BK,BJ,BG,A7,A4,A5,A8,A6,A9]
 refine AJ (AW (fun hlt=> ?_) fun hge=> ?_)
 ·have hlt:i<l.length:=by omega
  replace hR:=hR hlt trivial
  rw [List.take_succ_eq_append_getElem hlt,List.filter_append,GG hlt] at hR
  refine BV (AH hlt (ldI hlt (B5 (AW (fun he=> ?_) fun he=> ?_))))
  ·refine FC rfl (by omega) (AX (by omega) ?_)
   have e:([gI l i].filter fun y=>decide (y≠x))=[gI l i]:=by simp [he]
   rw [e, ←FW] at hR;exact hR
  ·refine AX (by omega) ?_
   have e:([gI l i].filter fun y=>decide (y≠x))=[]:=by simp at he;simp [he]
   rw [e,List.append_nil] at hR;exact hR
 ·have:i=l.length:=by omega
  subst this
  rw [List.take_length];exact h
theorem V3 {l:List Int} {x:Int} {K:J2} (hl:(l.length:Int)≤2^40) (h:K [] [tI (l.filter fun y=>decide (y≠x))]):cl2 ⟨Tryz.prog,w0⟩ 184 ER.sg [I x] [tI l] K:=by
 refine ER.cl2 ?_
 unfold ER.txt
 simp only [AK,AQ,AN,AP,AS,AE,AI,AU,AL,AV,AT,AM,AR,AO,BF,BM,BL,BI,BK,BJ,BG,A7,A4,A5,A8,A6,A9]
 refine AY (fun i=>[I x,iv i]) (fun i=>[tI ((l.take i).filter fun y=>decide (y≠x))]) l.length (fun _=>True) rfl rfl trivial (fun R i hi _ hR=> ?_)
 have hln:=List.length_filter_le (fun y=>decide (y≠x)) (l.take i)
 have hlt2:(l.take i).length≤i:=by simp;omega
 simp only [AK,AQ,AN,AP,AS,AE,AI,AU,AL,AV,AT,AM,AR,AO,BF,BM,BL,BI,BK,BJ,BG,A7,A4,A5,A8,A6,A9]
 refine AJ (AW (fun hlt=> ?_) fun hge=> ?_)
 ·have hlt:i<l.length:=by omega
  replace hR:=hR hlt trivial
  rw [List.take_succ_eq_append_getElem hlt,List.filter_append,GG hlt] at hR
  refine BV (AH hlt (ldI hlt (B5 (AW (fun he=> ?_) fun he=> ?_))))
  ·refine AH hlt (ldI hlt (FC rfl (by omega) (AX (by omega) ?_)))
   have e:([gI l i].filter fun y=>decide (y≠x))=[gI l i]:=by simp [he]
   rw [e, ←FW] at hR;exact hR
  ·refine AX (by omega) ?_
   have e:([gI l i].filter fun y=>decide (y≠x))=[]:=by simp at he;simp [he]
   rw [e,List.append_nil] at hR;exact hR
 ·have:i=l.length:=by omega
  subst this
  rw [List.take_length];exact h
theorem QV {g:Value} {K:J2} (h:K [.bool false,g,I 0,I 0,I 0,I 0, .bool false] [tI QK]):cl2 ⟨Tryz.prog,w0⟩ 82 HM.sg [g] [] K:=HM.cl2 h
theorem qO {l:List Int} {a:Nat} {K:Value→Prop} (ha:a<l.length) (h:K (I (gI l a))):ldc (tI l) [] (a+AA (iv 0)*1) K:=by
 have e:a+AA (iv 0)*1=AA (iv a)*1:=by rw [A1,A1];omega
 rw [e];exact ldI ha h
theorem drop_cons {l:List Int} {a:Nat} (ha:a<l.length):l.drop a=gI l a::l.drop (a+1):=by rw [List.drop_eq_getElem_cons ha,GG ha]
theorem fO {freed todo:List Int} {x:Int}:mu freed (x::todo)=mu freed todo+1:=by simp only [mu,List.length_cons];omega
theorem HK {l:List AZ} {i:Nat} (h:i<l.length):ob l i∈l:=by rw [←D9 h];exact List.getElem_mem h
theorem nL {l:List AZ} {i:Nat} (h:i<l.length):tR tO l=tR tO (l.set i (ob l i)):=by rw [←D9 h];exact UU h
theorem LsI.start {os:List AZ} {buf ids:List Int} (hol:os.length=8) (hof: ∀o∈os,OF o) (hid: ∀x∈ids,F64 x):LsI (IA os buf ids) (buf.length+ids.length+36) (os,buf,[],ids,0):=
 ⟨hol,hof,Nat.zero_le _,Nat.zero_le _,by simpa using hid,by simp only [mu,List.drop_zero,List.length_nil];omega,ids.length+37,by simp only [mu,List.drop_zero,List.length_nil];omega,rfl⟩
section
variable {R:List AZ×List Int×List Int} {M:Nat} {os:List AZ} {buf freed row:List Int} {off:Nat}
theorem LsI.stop (h:LsI R M (os,buf,freed,row,off)) (hs:row.length≤off∨8<freed.length):R=(os,buf,freed):=by
 obtain ⟨_,_,_,_,_,_,f,hf,go⟩:=h
 simp only at hf go
 obtain ⟨f,rfl⟩: ∃f',f=f'+1:=⟨f-1,by omega⟩
 rcases hs with hs | hs
 ·rw [List.drop_of_length_le hs] at go
  rw [←go];rfl
 ·rw [←go]
  cases row.drop off with
  | nil=>rfl
  | cons x l=>simp only [J5,if_pos hs]
theorem LsI.step (h:LsI R M (os,buf,freed,row,off)) (hlt:off<row.length) (hfr:freed.length≤8):F64 (gI row off)∧ ∃f,mu freed (row.drop (off+1))<f∧J5 (f+1) os buf freed (gI row off::row.drop (off+1))=R∧buf.length+mu freed (row.drop (off+1))+1≤M∧ ∀x∈row.drop (off+1),F64 x:=by
 obtain ⟨_,_,_,_,td,sz,f,hf,go⟩:=h
 simp only at td sz hf go
 rw [drop_cons hlt] at td sz hf go
 rw [fO] at sz hf
 obtain ⟨f,rfl⟩: ∃f',f=f'+1:=⟨f-1,by omega⟩
 exact ⟨td _ (by simp),f,by omega,go,by omega,fun x hx=>td x (by simp [hx])⟩
theorem LsI.skip (h:LsI R M (os,buf,freed,row,off)) (hlt:off<row.length) (hfr:freed.length≤8) (hs:AB os (gI row off)<0):LsI R M (os,buf,freed,row,off+1):=by
 obtain ⟨_,f,h1,h2,h3,h4⟩:=h.step hlt hfr
 rw [J5] at h2
 simp only at h2
 rw [if_neg (by omega),if_pos hs] at h2
 exact ⟨h.ol,h.of,h.fr,hlt,h4,by simp only;omega,f,h1,h2⟩
theorem LsI.NW (h:LsI R M (os,buf,freed,row,off)) (hlt:off<row.length) (hfr:freed.length≤8) (hs:0≤AB os (gI row off)) (hc:w64 ((ob os (AB os (gI row off)).toNat).count-1)>0) (hp:(ob os (AB os (gI row off)).toNat).purple=true):
  LsI R M (os.set (AB os (gI row off)).toNat {ob os (AB os (gI row off)).toNat with count:=w64 ((ob os (AB os (gI row off)).toNat).count-1)},buf,freed,row,off+1):=by
 obtain ⟨_,f,h1,h2,h3,h4⟩:=h.step hlt hfr
 have hk:=BN hs
 have ho:=h.of _ (HK (l:=os) (i:=(AB os (gI row off)).toNat) (by omega))
 rw [J5] at h2
 simp only at h2
 rw [if_neg (by omega),if_neg (by omega),if_pos hc,if_pos hp] at h2
 exact ⟨by simp only [List.length_set];exact h.ol,IG h.of ⟨ho.gen,ho.len,ho.fld⟩,h.fr,hlt,h4,by simp only;omega,f,h1,h2⟩
theorem LsI.put (h:LsI R M (os,buf,freed,row,off)) (hlt:off<row.length) (hfr:freed.length≤8) (hs:0≤AB os (gI row off)) (hc:w64 ((ob os (AB os (gI row off)).toNat).count-1)>0) (hp:(ob os (AB os (gI row off)).toNat).purple=false):
  LsI R M (os.set (AB os (gI row off)).toNat {ob os (AB os (gI row off)).toNat with count:=w64 ((ob os (AB os (gI row off)).toNat).count-1),purple:=true},buf++[gI row off],freed,row,off+1):=by
 obtain ⟨_,f,h1,h2,h3,h4⟩:=h.step hlt hfr
 have hk:=BN hs
 have ho:=h.of _ (HK (l:=os) (i:=(AB os (gI row off)).toNat) (by omega))
 rw [J5] at h2
 simp only at h2
 rw [if_neg (by omega),if_neg (by omega),if_pos hc,if_neg (by rw [hp];decide)] at h2
 exact ⟨by simp only [List.length_set];exact h.ol,IG h.of ⟨ho.gen,ho.len,ho.fld⟩,h.fr,hlt,h4,by simp only [List.length_append,List.length_singleton];omega,f,h1,h2⟩
theorem LsI.free (h:LsI R M (os,buf,freed,row,off)) (hlt:off<row.length) (hfr:freed.length≤8) (hs:0≤AB os (gI row off)) (hc: ¬w64 ((ob os (AB os (gI row off)).toNat).count-1)>0) {row':List Int} {off':Nat} (hrow:row'.drop off'=row.drop (off+1)++(ob os (AB os (gI row off)).toNat).field.filter fun x=>decide (0≤x)) (hle:off'≤row'.length):
  LsI R M (os.set (AB os (gI row off)).toNat (CV (ob os (AB os (gI row off)).toNat).gen),buf.filter fun x=>decide (x≠gI row off),freed++[gI row off],row',off'):=by
 obtain ⟨_,f,h1,h2,h3,h4⟩:=h.step hlt hfr
 have hk:=BN hs
 have ho:=h.of _ (HK (l:=os) (i:=(AB os (gI row off)).toNat) (by omega))
 have hfl:=List.length_filter_le (fun x=>decide (0≤x)) (ob os (AB os (gI row off)).toNat).field
 have hbl:=List.length_filter_le (fun x=>decide (x≠gI row off)) buf
 rw [ho.len] at hfl
 rw [J5] at h2
 simp only at h2
 rw [if_neg (by omega),if_neg (by omega),if_neg hc] at h2
 have hmu:mu (freed++[gI row off]) (row'.drop off')≤mu freed (row.drop (off+1)):=by
  rw [hrow];simp only [mu,List.length_append,List.length_singleton];omega
 refine ⟨by simp only [List.length_set];exact h.ol,IG h.of (OF.free ho.gen),by simp only [List.length_append,List.length_singleton];omega,hle,fun x hx=> ?_,by simp only;omega,f,by simp only;omega,by rw [←h2,hrow]⟩
 simp only at hx
 rw [hrow] at hx
 rcases List.mem_append.1 hx with hx | hx
 ·exact h4 x hx
 ·exact ho.fld x (List.mem_filter.1 hx).1
end
section
variable {cur:List AZ} {k:Nat} {y:AZ}
theorem mV (hk:k<cur.length):FE (tR tO (cur.set k y)) [k*8+6]=tI y.field:=by have:=NV (y:=y) hk;rwa [A1] at this
theorem rM {i:Nat} {K:Value→Prop} (hk:k<cur.length) (hi:i<y.field.length) (h:K (I (gI y.field i))):ldc (tR tO (cur.set k y)) [k*8+6] i K:=by
 have:=OY (l:=cur.set k y) (i:=k) (j:=i) (K:=K) (by simpa using hk) (by rw [←D9 (by simpa using hk),List.getElem_set_self];exact hi) (by rw [←D9 (by simpa using hk),List.getElem_set_self];exact h)
 simpa only [A1,Nat.mul_one] using this
theorem wO {K:Value→Prop} (hk:k<cur.length) (h:K (I y.gen)):ldc (tR tO (cur.set k y)) [] (k*8+1) K:=by
 have:=JA (f:=tO) (K:=K) (c:=1) (y:=y) hk (by decide) rfl h
 rwa [A1] at this
theorem wN {ts:List T} {z:AZ} {K:List T→Prop} (hk:k<cur.length) (hy:ts=tO z) (h:K (tR tO (cur.set k z))):stg (tR tO (cur.set k y)) [] (k*8) ts K:=by
 have:=MN (f:=tO) (l:=cur.set k y) (K:=K) (by simpa using hk) hy (by rw [List.set_set];exact h)
 rwa [A1] at this
theorem QZ (l:List Int) (a m:Nat):JE (tI l) [] a m=tI ((l.drop a).take m):=by simp [JE,node,tI,List.map_drop,List.map_take]
end
theorem RG {os:List AZ} {buf ids:List Int} {b d:List T} {K:J2} (hol:os.length=8) (hof: ∀o∈os,OF o) (hb:buf.length≤2^30) (hi:ids.length≤2^30) (hid: ∀x∈ids,F64 x) (h:K [] [tI (IA os buf ids).2.2,tR tO (IA os buf ids).1,tI (IA os buf ids).2.1]):cl2 ⟨Tryz.prog,w0⟩ 170 C6.sg [] [tR tO os,b,tI buf,d,tI ids] K:=by
 refine C6.cl2 ?_
 unfold C6.txt
 refine I6 (by omega) ?_
 obtain ⟨R,hR0⟩: ∃R,IA os buf ids=R:=⟨_,rfl⟩
 have st:=LsI.start (buf:=buf) hol hof hid
 rw [hR0] at st h
 simp only [AK,AQ,AN,AP,AS,AE,AI,AU,AL,AV,AT,AM,AR,AO,BF,BM,BL,BI,BK,BJ,BG,A7,A4,A5,A8,A6,A9]
 refine DX (α:=List AZ×List Int×List Int×List Int×Nat) (fun q=>[iv (q.2.2.2.1.length-q.2.2.2.2),iv q.2.2.2.2]) (fun q=>[tI q.2.2.1,tI q.2.2.2.1,tR tO q.1,tI q.2.1]) (fun q=>mu q.2.2.1 (q.2.2.2.1.drop q.2.2.2.2)) (LsI R (buf.length+ids.length+36)) (os,buf,[],ids,0) rfl rfl st (fun Rr q hq hR=> ?_)
 obtain ⟨os,bf,freed,row,off⟩:=q
 have hq':LsI R (buf.length+ids.length+36) (os,bf,freed,row,off):=hq
 obtain ⟨ol,of,fr,ofl,td,sz,_⟩:=id hq'
 simp only at ol of fr ofl td sz
 have hmz:mu freed (row.drop off)=(row.length-off)+4*(9-freed.length):=by simp [mu]
 simp only [AK,AQ,AN,AP,AS,AE,AI,AU,AL,AV,AT,AM,AR,AO,BF,BM,BL,BI,BK,BJ,BG,A7,A4,A5,A8,A6,A9]
 simp only [A1]
 refine GD (B2 (B2 (NT (fun hlt=> ?_) fun hge=> ?_)))
 rotate_left
 ·refine EJ hge rfl (BO ?_)
  have:=hq'.stop (.inl (by
   have: ¬(((row.length-off:Nat):Int)>0):=hge
   omega))
  rw [this] at h;exact h
 have hlt':off<row.length:=by
  have:((row.length-off:Nat):Int)>0:=hlt
  omega
 refine FB (EE hlt rfl (AW (fun h8=> ?_) fun h8=> ?_))
 rotate_left
 ·have:=hq'.stop (.inr (by omega))
  rw [this] at h;exact h
 have h8':freed.length≤8:=by omega
 obtain ⟨hidf,_⟩:=hq'.step hlt' h8'
 refine AH (j:=0) (by omega) (qO hlt' (wV (by omega) (DF hidf (by omega) ?_)))
 have e1:off+AA (iv 1)*1=off+1:=by rw [A1]
 have e2:row.length-off-1=row.length-(off+1):=by omega
 simp only [A1,e2,Nat.mul_one,BF]
 have mu1:mu freed (row.drop (off+1))<mu freed (row.drop off):=by rw [drop_cons hlt',fO];omega
 refine AJ (AW (fun hs=>hR (os,bf,freed,row,off+1) (hq'.skip hlt' h8' hs) mu1) fun hs=> ?_)
 have hs':0≤AB os (gI row off):=by omega
 have hk:=BN hs'
 have n1:=hq'.NW hlt' h8' hs'
 have n2:=hq'.put hlt' h8' hs'
 have n3:=fun hc row' off'=>hq'.free hlt' h8' hs' hc (row':=row') (off':=off')
 have hobf:=of _ (HK (l:=os) (i:=(AB os (gI row off)).toNat) (by omega))
 generalize hgid:gI row off=id at*
 obtain ⟨k,hkk⟩: ∃k,(AB os id).toNat=k:=⟨_,rfl⟩
 have hkI:AB os id=(k:Int):=by omega
 rw [hkk] at hk n1 n2 n3 hobf
 rw [hkI]
 have hkl:k<os.length:=by omega
 rw [nL hkl]
 generalize ho:ob os k=o at*
 refine AH (by omega) (JA (i:=k) hkl (by decide) rfl (YH (HD hkl ?_)))
 generalize hcc:w64 (o.count-1)=c at*
 refine JA (v:=I c) (i:=k) hkl (by decide) rfl ?_
 refine GD (B2 (B2 (B2 (NT (fun hc=> ?_) fun hc=> ?_))))
 ·refine JA (v:= .bool o.purple) (i:=k) hkl (by decide) rfl (KQ hc (BP (EE hc rfl ?_)))
  cases hp:o.purple with
  | false=>
    refine B3 (MR hkl (FC rfl (by omega) ?_))
    have:=hR _ (n2 hc hp) (by simp only;exact mu1)
    simp only at this
    rw [←FW] at this
    exact this
  | true=>
    refine BO (JA (v:=I c) (i:=k) hkl (by decide) rfl (FB (BZ (by omega) ?_)))
    have:=hR _ (n1 hc hp) (by simp only;exact mu1)
    simp only [hp] at this
    exact this
 ·refine QJ hc (EJ hc rfl (BO (JA (v:=I c) (i:=k) hkl (by decide) rfl (FB (CZ (by omega) (FC rfl (by omega) (R9 (i:=k) hkl (by decide) rfl ?_)))))))
  rw [NV hkl,AE]
  have hfl:o.field.length=3:=hobf.len
  rw [hfl]
  refine DX (α:=Nat×List Int×Nat) (fun q=>[iv (q.2.1.length-q.2.2),iv q.2.2,I id,iv (k*8),iv (k*8+6),iv 3,iv q.1]) (fun q=>[tI (freed++[id]),tI q.2.1,tR tO (os.set k {o with count:=c}),tI bf]) (fun q=>3-q.1) (fun q=>q.1≤3∧q.2.2≤q.2.1.length∧q.2.1.drop q.2.2=row.drop (off+1)++(o.field.take q.1).filter fun x=>decide (0≤x)) (0,row,off+1) ?_ ?_ ⟨by omega,hlt',by simp⟩ (fun R2 q hq2 hR2=> ?_)
  ·rfl
  ·simp only [FW]
  obtain ⟨i,rw',of'⟩:=q
  obtain ⟨hi3,hof',hdr⟩:=hq2
  simp only at hi3 hof' hdr
  have hrl:rw'.length-of'≤row.length-(off+1)+3:=by
   have e:=congrArg List.length hdr
   have:=List.length_filter_le (fun x=>decide (0≤x)) (o.field.take i)
   simp only [List.length_drop,List.length_append,List.length_take] at e this
   omega
  simp only [AK,AQ,AN,AP,AS,AE,AI,AU,AL,AV,AT,AM,AR,AO,BF,BM,BL,BI,BK,BJ,BG,A7,A4,A5,A8,A6,A9]
  simp only [A1]
  refine AJ (AW (fun hlt=> ?_) fun hge=> ?_)
  ·have hlt:i<o.field.length:=by omega
   have hfx:=hobf.fld _ (EZ hlt)
   refine BV ?_
   simp only [mV hkl,AE,QZ]
   have ed:(rw'.drop of').take (rw'.length-of')=rw'.drop of':=by rw [←List.length_drop,List.take_length]
   rw [ed]
   have ea:tI (rw'.drop of')++[T.c (I (gI o.field i))]=tI (rw'.drop of'++[gI o.field i]):=FW _ _
   refine AH hlt (rM hkl hlt ?_)
   simp only [A1]
   refine JT (AW (fun hp=> ?_) fun hp=> ?_)
   ·refine FC rfl (by omega) ?_
    have:=hR2 (i+1,rw'.drop of'++[gI o.field i],0) ⟨by simp only;omega,by simp only;omega,by simp only [List.drop_zero];rw [hdr,List.take_succ_eq_append_getElem hlt,List.filter_append, ←List.append_assoc,GG hlt];congr 1;simp [hp]⟩ (by simp only;omega)
    refine AX (by omega) ?_
    rw [ea]
    simp only [AK,AQ,AN,AP,AS,AE,AI,AU,AL,AV,AT,AM,AR,AO,BF,BM,BL,BI,BK,BJ,BG,A7,A4,A5,A8,A6,A9]
    simp only [A1]
    exact this
   ·have:=hR2 (i+1,rw',of') ⟨by simp only;omega,hof',by simp only;rw [hdr,List.take_succ_eq_append_getElem hlt,List.filter_append, ←List.append_assoc,GG hlt];simp;omega⟩ (by simp only;omega)
    refine AX (by omega) ?_
    simp only [AK,AQ,AN,AP,AS,AE,AI,AU,AL,AV,AT,AM,AR,AO,BF,BM,BL,BI,BK,BJ,BG,A7,A4,A5,A8,A6,A9]
    simp only [A1]
    exact this
  ·have:i=o.field.length:=by omega
   subst this
   rw [List.take_length] at hdr
   refine YL (by omega) (wO hkl (QV (wN hkl (z:=CV o.gen) rfl ?_)))
   exact hR _ (n3 hc _ _ hdr hof') (by simp only;rw [hdr];simp only [mu,List.length_append,List.length_singleton] at mu1 ⊢;have:=List.length_filter_le (fun x=>decide (0≤x)) o.field;omega)
end Go.Proofs.YtnhicpkhkaihoaaGreat.P
