/- A part of the proof. -/
import Derived.Test.YtnhicpkhkaihoaaGreatFtTxtE
namespace Go.Proofs.YtnhicpkhkaihoaaGreat.P
open Go Go.Proofs.YtnhicpkhkaihoaaGreat Go.Proofs.YtnhicpkhkaihoaaGreat.Eng
set_option linter.unusedVariables false
def szB (s:ByteArray):Bool:=decide ((s.size:Int)≤8)
def MC (l:List ByteArray):Bool:=l.all szB&&decide l.Nodup
def TI (n:Int) (l:List ByteArray):Bool:=(KW n&&decide (l.length≤400))&&MC l
theorem WD {l:List ByteArray} {i:Nat} (hi:i<l.length):MC (l.take (i+1))=true↔MC (l.take i)=true∧szB l[i]=true∧l[i]∉l.take i:=by
 rw [List.take_succ_eq_append_getElem hi]
 simp only [MC,Bool.and_eq_true,decide_eq_true_eq,List.all_append,List.all_cons,List.all_nil,Bool.and_true,List.nodup_append,List.nodup_cons,List.not_mem_nil,not_false_eq_true,List.nodup_nil,and_true,true_and,List.mem_singleton]
 constructor
 ·rintro ⟨⟨h1,h2⟩,h3,h4⟩
  exact ⟨⟨h1,h3⟩,h2,fun hm=>h4 _ hm _ rfl rfl⟩
 ·rintro ⟨⟨h1,h2⟩,h3,h4⟩
  exact ⟨⟨h1,h3⟩,h2,fun a ha b hb he=>h4 (by rw [←hb, ←he];exact ha)⟩
theorem ZP {l:List ByteArray} {i:Nat} (hi:i<l.length) (h:szB l[i]=false∨l[i]∈l.take i):MC l=false:=by
 cases hg:MC l
 ·rfl
 ·exfalso
  have:MC (l.take (i+1))=true:=by
   simp only [MC,Bool.and_eq_true,decide_eq_true_eq] at hg ⊢
   refine ⟨?_,hg.2.sublist (List.take_sublist _ _)⟩
   rw [List.all_eq_true] at hg ⊢
   exact fun x hx=>hg.1 x (List.mem_of_mem_take hx)
  obtain ⟨_,h1,h2⟩:=(WD hi).1 this
  rcases h with h | h
  ·rw [h] at h1;cases h1
  ·exact h2 h
theorem XR {w0:World} {n:Int} {l:List ByteArray} {K:J2} (hl:(l.length:Int)<2^62) (h:K [.bool (TI n l)] []):cl2 ⟨Tryz.prog,w0⟩ 133 GO.sg [I n] [tS l] K:=by
 refine GO.cl2 ?_
 unfold GO.txt
 simp only [AG]
 refine A8 (fun i=>[iv i,I n]) (fun _=>[]) l.length (fun i=>MC (l.take i)=true) rfl rfl (by simp [MC]) (fun R i hi hP hR=> ?_)
 refine MX (AT (fun hlt=> ?_) fun hge=> ?_)
 ·refine AU hlt (UD hlt (DX (GN (b:=8) (AT (fun hb=> ?_) fun hb=> ?_))))
  ·have:MC l=false:=ZP hlt (.inl (by simp [szB];omega))
   rw [TI,this,Bool.and_false] at h;exact h
  ·have hs:szB l[i]=true:=by simp [szB];omega
   refine A8 (fun j=>[iv i,iv j,I n]) (fun _=>[]) i (fun j=>l[i]∉l.take j) rfl rfl (by simp) (fun R2 j hj hP2 hR2=> ?_)
   refine MX (AT (fun hlt2=> ?_) fun hge2=> ?_)
   ·have hjl:j<l.length:=by omega
    refine AU hjl (UD hjl (AU hlt (UD hlt (VN (bD (fun he=> ?_) fun hne=> ?_)))))
    ·have:MC l=false:=ZP hlt (.inr (by rw [←he];exact List.mem_take_iff_getElem.2 ⟨j,by omega,rfl⟩))
     rw [TI,this,Bool.and_false] at h;exact h
    ·exact A6 (by omega) (hR2 hlt2 (UP hjl hP2 hne))
   ·have:j=i:=by omega
    subst this
    exact A6 (by omega) (hR hlt ((WD hlt).2 ⟨hP,hs,hP2⟩))
 ·have:i=l.length:=by omega
  subst this
  rw [List.take_length] at hP
  refine HQ (HX (HX (HX (NH (fun _ K hk=>gB (b:=400) hk) ?_))))
  rw [TI,hP,Bool.and_true] at h;exact h
theorem aU {n i:Nat} (hi:i≤n) {K:Value→Value→Prop} (h:K (iv 0) (iv i)):scW n none (some (iv i)) K:=
 ⟨0,i,rfl,by simp [bnd,iv],Nat.zero_le _,hi,h⟩
theorem Bc {a b:Bool} {x:Value} {m1:(Value→Prop)→Prop} {m2:Value→(Value→Prop)→Prop} {K:Value→Prop} (h1:a=false→ ∀K:Value→Prop,K x→m1 K) (h2:a=false→ ∀K:Value→Prop,K (.bool b)→m2 x K) (h:K (.bool (a||b))):
  gP (.bool a) false m1 fun x=>gE (.bool a) (gP (.bool a) false (m2 x) fun t=>prP (pk (.bool a) (.bool true) t) K):=by
 cases a
 ·exact .inl ⟨rfl,h1 rfl _ (HX (.inl ⟨rfl,h2 rfl _ (BK rfl (by simpa using h))⟩))⟩
 ·exact .inr ⟨.inl rfl,HX (.inr ⟨.inl rfl,BK rfl h⟩)⟩
theorem gL {w0:World} {n:Int} {l:List ByteArray} {K:J2} (hl:(l.length:Int)<2^62) (h:K [.bool (TI n l)] []):cl2 ⟨Tryz.prog,w0⟩ 89 JB.sg [I n] [tS l] K:=by
 refine JB.cl2 ?_
 unfold JB.txt
 simp only [AG]
 refine A8 (fun i=>[iv l.length,iv i,I n]) (fun _=>[]) l.length (fun i=>MC (l.take i)=true) rfl rfl (by simp [MC]) (fun R i hi hP hR=> ?_)
 refine MX (AT (fun hlt=> ?_) fun hge=> ?_)
 ·refine AU hlt (UD hlt (DX (GN (b:=8) (HX (HX (HX (Bc (x:=two (iv 0) (iv i)) (b:=decide (l[i]∈l.take i)) (fun _ K hk=>aU hi hk) (fun _ K hk=> ?_) ?_)))))))
  ·have e:IP (tS l) [] (AA (UT (two (iv 0) (iv i)))*1) (AA (VM (two (iv 0) (iv i)))*1)=tS (l.take i):=by
    have h1:AA (UT (two (iv 0) (iv i)))=0:=rfl
    have h2:AA (VM (two (iv 0) (iv i)))=i:=A9 i
    rw [h1,h2];simp [IP,node,tS,List.map_take]
   rw [e]
   exact Q9 (by simp;omega) hk
  ·refine JI (fun hb=> ?_) fun hb=> ?_
   ·have:MC l=false:=ZP hlt (by
     rw [Bool.or_eq_true,decide_eq_true_eq,decide_eq_true_eq] at hb
     exact hb.imp (fun h=>by simp [szB];omega) id)
    rw [TI,this,Bool.and_false] at h;exact h
   ·rw [Bool.or_eq_false_iff,decide_eq_false_iff_not,decide_eq_false_iff_not] at hb
    exact A6 (by omega) (hR hlt ((WD hlt).2 ⟨hP,by simp [szB];omega,hb.2⟩))
 ·have:i=l.length:=by omega
  subst this
  rw [List.take_length] at hP
  refine I8 (HX (HX (HX (NH (fun _ K hk=>gB (b:=400) hk) ?_))))
  rw [TI,hP,Bool.and_true] at h;exact h
def Q0 (l:List ByteArray) (s:ByteArray):ByteArray:=if s∈l then V (at_ l s+1) else V 0++ST s
def UM (l:List ByteArray) (s:ByteArray):List ByteArray:=if s∈l then l else l++[s]
theorem ZV {w0:World} {n:Value} {l:List ByteArray} {s:ByteArray} {K:J2} (hl:l.length<2^40) (h:K [.string (Q0 l s),n] [tS (UM l s)]):cl2 ⟨Tryz.prog,w0⟩ 134 HA.sg [n, .string s] [tS l] K:=by
 refine HA.cl2 ?_
 unfold HA.txt
 simp only [AG,List.nil_append]
 refine U4 (S8 l) (by simp [cnt];omega) ?_
 refine A8 (fun i=>[.string s,iv i,n, .int .i64 0,n]) (fun _=>[tS l]) l.length (fun i=>s∉l.take i) rfl rfl (by simp) (fun R i hi hP hR=> ?_)
 refine MX (AT (fun hlt=> ?_) fun hge=> ?_)
 ·refine AU hlt (UD hlt (VN (bD (fun he=> ?_) fun hne=> ?_)))
  ·have hm:s∈l:=he ▸ List.getElem_mem hlt
   rw [Q0,UM,if_pos hm,if_pos hm,oH hlt hP he] at h
   refine A6 (by omega) (K6 (n:=Int.ofNat (i+1)) ⟨by simp only [Int.ofNat_eq_natCast];omega,by simp only [Int.ofNat_eq_natCast];omega⟩ ?_)
   exact h
  ·exact A6 (by omega) (hR hlt (UP hlt hP hne))
 ·have:i=l.length:=by omega
  subst this
  rw [List.take_length] at hP
  rw [Q0,UM,if_neg hP,if_neg hP] at h
  have hc:cnt 1 (nxc [tS l] 0)=l.length:=AG l
  rw [hc]
  have h1:=H0 0
  have h2:=fF s
  refine U4 rfl (by simp [cnt];omega) (K6 ⟨by omega,by omega⟩ (XV (CH (by omega) ?_)))
  have e:nxc [tS l] 0++[T.c (nx [.string s,iv l.length,n, .int .i64 0,n] 0)]=tS (l++[s]):=by simp [tS,nxc,nx]
  rw [e];exact h
end Go.Proofs.YtnhicpkhkaihoaaGreat.P
namespace Go.Proofs.YtnhicpkhkaihoaaGreat.P
open Go Go.Proofs.YtnhicpkhkaihoaaGreat Go.Proofs.YtnhicpkhkaihoaaGreat.Eng
set_option maxHeartbeats 4000000
set_option linter.unusedVariables false
set_option linter.unusedSimpArgs false
attribute [local irreducible] prP gP gE gF AV ixW ldc ldg ldl stc stg scW mkW apW BC cl2 BW F6 C2
variable {w0:World}
theorem pL {a:List A7} {i:Nat} (hi:i<a.length):tR tO (a.take i)++[T.c (.bool (ob a i).live), .c (I (ob a i).gen), .c (I (ob a i).site), .c (I (ob a i).holds), .c (I (ob a i).roots), .c (I (ob a i).count), .l 1 (tI (ob a i).field), .c (.bool (ob a i).purple)]=tR tO (a.take (i+1)):=by
 rw [List.take_succ_eq_append_getElem hi,D6 hi]
 exact oR _ (ob a i)
theorem QZ {h:Hp} {K:J2} (hf:Fits h) (hk:K [] (trees h)):cl2 ⟨Tryz.prog,w0⟩ 83 EE.sg [] (trees h) K:=by
 obtain ⟨a,b,c,d⟩:=h
 have g1:=hf.ol;have g2:=hf.wl;have g3:=hf.sl;have g4:=hf.bl
 simp only at g1 g2 g3 g4
 refine EE.cl2 ?_
 unfold EE.txt
 simp only [AI,AL,AH,AJ,AM,AE,AG,AR,AP,AN,AQ,AO,AS,AK,BD,BF,BI,BJ,BH,BG,BE,A1,AZ,AY,AX,A4,A5]
 refine EB (eM _) (by omega) (JP (by omega) (WY (by omega) ?_))
 refine A8 (fun i=>[iv a.length,iv i]) (fun i=>[tR tO (a.take i),tR tW b,tI c,tS d]) a.length (fun _=>True) rfl rfl trivial (fun R i hi hP hR=> ?_)
 simp only [AI,AL,AH,AJ,AM,AE,AG,AR,AP,AN,AQ,AO,AS,AK,BD,BF,BI,BJ,BH,BG,BE,A1,AZ,AY,AX,A4,A5]
 refine AW (AT (fun hlt=> ?_) fun hge=> ?_)
 ·have hlt:i<a.length:=by omega
  have hfo:((ob a i).field.length:Int)≤1048576:=zF (l:=a) hf.of hlt
  have hln:(a.take i).length=i:=by simp;omega
  replace hR:=hR hlt trivial
  refine AU hlt (OJ hlt ?_)
  rw [IK hlt]
  refine JP (by omega) (Y8 (by rw [hln];omega) (A6 (by omega) ?_))
  rw [←pL hlt] at hR
  exact hR
 ·have:i=a.length:=by omega
  subst this
  rw [List.take_length];exact hk
theorem MT {h:Hp} {K:J2} (hf:Fits h) (hk:K [] (trees h)):cl2 ⟨Tryz.prog,w0⟩ 103 DL.sg [] (trees h) K:=by
 obtain ⟨a,b,c,d⟩:=h
 have g1:=hf.ol;have g2:=hf.wl;have g3:=hf.sl;have g4:=hf.bl
 simp only at g1 g2 g3 g4
 refine DL.cl2 ?_
 unfold DL.txt
 simp only [AI,AL,AH,AJ,AM,AE,AG,AR,AP,AN,AQ,AO,AS,AK,BD,BF,BI,BJ,BH,BG,BE,A1,AZ,AY,AX,A4,A5]
 refine EB (eM _) (by simp only [cnt,List.length_nil];omega) (EB (O1 _) (by omega) (EB (S8 _) (by omega) ?_))
 refine A8 (fun i=>[iv i]) (fun i=>[tR tO (a.take i),tR tW b,tI c,tS d]) a.length (fun _=>True) rfl rfl trivial (fun R i hi hP hR=> ?_)
 simp only [AI,AL,AH,AJ,AM,AE,AG,AR,AP,AN,AQ,AO,AS,AK,BD,BF,BI,BJ,BH,BG,BE,A1,AZ,AY,AX,A4,A5]
 refine AW (AT (fun hlt=> ?_) fun hge=> ?_)
 ·have hlt:i<a.length:=by omega
  have hfo:((ob a i).field.length:Int)≤1048576:=zF (l:=a) hf.of hlt
  have hln:(a.take i).length=i:=by simp;omega
  replace hR:=hR hlt trivial
  refine AU hlt (OJ hlt ?_)
  rw [IK hlt]
  refine EB (O1 _) (by first | omega | (simp only [AI,AL,AH,AJ,AM,AE,AG,AR,AP,AN,AQ,AO,AS,AK,BD,BF,BI,BJ,BH,BG,BE,A1,AZ,AY,AX,A4,A5];omega)) (Y8 (by rw [hln];omega) (A6 (by omega) ?_))
  rw [←pL hlt] at hR
  exact hR
 ·have:i=a.length:=by omega
  subst this
  rw [List.take_length];exact hk
structure M4 (l:List ByteArray):Prop where
 len:l.length≤6
 sz: ∀i,i<l.length→1≤((gS l i).size:Int)∧((gS l i).size:Int)≤8
 one: ∀i,i<l.length→gS l i∉l.take i
theorem mI {l:List ByteArray} {i:Nat} {x:ByteArray} (hi:i<l.length) (h:x∉l.take i) (hn:gS l i≠x):x∉l.take (i+1):=by
 rw [List.take_succ_eq_append_getElem hi,PT hi]
 simp only [List.mem_append,List.mem_singleton,not_or]
 exact ⟨h,fun he=>hn he.symm⟩
theorem aZ {l:List ByteArray} {K:J2} (hl:(l.length:Int)<2^62) (h1:M4 l→K [.bool true] []) (h2: ¬M4 l→K [.bool false] []):cl2 ⟨Tryz.prog,w0⟩ 145 HE.sg [] [tS l] K:=by
 refine HE.cl2 ?_
 unfold HE.txt
 simp only [AI,AL,AH,AJ,AM,AE,AG,AR,AP,AN,AQ,AO,AS,AK,BD,BF,BI,BJ,BH,BG,BE,A1,AZ,AY,AX,A4,A5]
 refine A8 (fun i=>[iv l.length,iv i]) (fun _=>[]) l.length (fun i=> ∀k,k<i→(1≤((gS l k).size:Int)∧((gS l k).size:Int)≤8)∧gS l k∉l.take k) rfl rfl (fun k hk=>by omega) (fun R i hi hP hR=> ?_)
 simp only [AI,AL,AH,AJ,AM,AE,AG,AR,AP,AN,AQ,AO,AS,AK,BD,BF,BI,BJ,BH,BG,BE,A1,AZ,AY,AX,A4,A5]
 refine AW (AT (fun hlt=> ?_) fun hge=> ?_)
 ·have hlt:i<l.length:=by omega
  refine AU hlt (ldS hlt (DX (F8 (CP (BM (BM (IN (fun hb=> ?_) fun hb=> ?_)))))))
  ·refine aU (by omega) (BM (GA hb ?_))
   have e:IP (tS l) [] (AA (UT (two (iv 0) (iv i)))*1) (AA (VM (two (iv 0) (iv i)))*1)=tS (l.take i):=by
    have h1:AA (UT (two (iv 0) (iv i)))=0:=rfl
    have h2:AA (VM (two (iv 0) (iv i)))=i:=A9 i
    rw [h1,h2];simp [IP,node,tS,List.map_take]
   rw [e]
   refine Q9 (by simp;omega) (CJ hb rfl (AT (fun hm=>h2 fun hk=>hk.one i hlt hm) fun hm=> ?_))
   refine A6 (by omega) (hR hlt fun k hk=> ?_)
   rcases Nat.lt_succ_iff_lt_or_eq.1 hk with h3 | rfl
   ·exact hP k h3
   ·exact ⟨Decidable.not_not.1 hb,hm⟩
  ·exact BM (JZ hb (CL hb rfl (BQ (h2 fun hk=>hb (hk.sz i hlt)))))
 ·have:i=l.length:=by omega
  subst this
  refine EA ?_
  by_cases h6:(l.length:Int)≤6
  ·rw [decide_eq_true h6]
   exact h1 ⟨by omega,fun i hi=>(hP i hi).1,fun i hi=>(hP i hi).2⟩
  ·rw [decide_eq_false h6]
   exact h2 fun hk=>by have:=hk.len;omega
structure P6 (h:Hp) (i:Nat):Prop where
 gen:0≤(ob h.BA i).gen∧(ob h.BA i).gen≤999
 len:(ob h.BA i).field.length=3
 lead: ∀j,j<3→gI (ob h.BA i).field j≠ -1→(ob h.BA i).live=true∧0≤AB h.BA (gI (ob h.BA i).field j)
 dead:(ob h.BA i).live=false→(ob h.BA i).site=0∧(ob h.BA i).holds=0∧(ob h.BA i).roots=0∧(ob h.BA i).count=0∧(ob h.BA i).purple=false
 lv:(ob h.BA i).live=true→1≤(ob h.BA i).gen∧(0≤(ob h.BA i).site∧(ob h.BA i).site≤(h.sites.length:Int)-1)∧(0≤(ob h.BA i).holds∧(ob h.BA i).holds≤20)∧(0≤(ob h.BA i).roots∧(ob h.BA i).roots≤20)∧
  (ob h.BA i).count=(ob h.BA i).holds+(ob h.BA i).roots+inE h.BA i∧1≤(ob h.BA i).count∧(ob h.BA i).purple=decide (CU i (ob h.BA i).gen∈h.buffer)
structure DH (h:Hp):Prop where
 ol:h.BA.length=8
 wl:h.B7.length=8
 sites:M4 h.sites
 obj: ∀i,i<8→P6 h i
 weak: ∀i,i<8→((wk h.B7 i).used=false→(wk h.B7 i).target=0)∧((wk h.B7 i).used=true→8≤(wk h.B7 i).target∧(wk h.B7 i).target≤7999)
 buf: ∀i,i<h.buffer.length→0≤AB h.BA (gI h.buffer i)∧gI h.buffer i∉h.buffer.take i
theorem zT {l:List Int} {P:Int→Prop} (h0:P 0) (h: ∀x∈l,P x) (i:Nat):P (gI l i):=by
 by_cases hi:i<l.length
 ·rw [←G3 hi];exact h _ (List.getElem_mem hi)
 ·unfold gI;rw [List.getD_eq_getElem?_getD,List.getElem?_eq_none (by omega)];exact h0
theorem YS:F64 0:=⟨by omega,by omega⟩
theorem VT.ob {h:Hp} (hn:VT h) (i:Nat):F64 (ob h.BA i).gen∧F64 (ob h.BA i).site∧F64 (ob h.BA i).holds∧F64 (ob h.BA i).roots∧F64 (ob h.BA i).count∧ ∀f∈(ob h.BA i).field,F64 f:=by
 by_cases hi:i<h.BA.length
 ·rw [←D6 hi];exact hn.obj _ (List.getElem_mem hi)
 ·unfold Eng.ob;rw [List.getD_eq_getElem?_getD,List.getElem?_eq_none (by omega)]
  exact ⟨YS,YS,YS,YS,YS,fun f hf=>by simp at hf⟩
theorem VT.fld {h:Hp} (hn:VT h) (i j:Nat):F64 (gI (Eng.ob h.BA i).field j):=zT YS (hn.ob i).2.2.2.2.2 j
theorem VT.bf {h:Hp} (hn:VT h) (i:Nat):F64 (gI h.buffer i):=zT YS hn.buf i
theorem sU {l:List A7} (hl:(l.length:Int)≤1048576) (hf: ∀o∈l,(o.field.length:Int)≤1048576) (s:Int):0≤inE l s∧inE l s≤2^40:=by
 rw [inE];split
 ·have he:=QH (l:=l) (id:=CU s (ob l s.toNat).gen) (b:=1048576) fun o ho=>by have:=hf o ho;omega
  have hmul:l.length*1048576≤1048576*1048576:=Nat.mul_le_mul_right _ (by omega)
  omega
 ·omega
theorem gQ {h:Hp} {i:Nat} {K:J2} (hf:Fits h) (hn:VT h) (hi:i<h.BA.length) (h1:P6 h i→K [.bool true] []) (h2: ¬P6 h i→K [.bool false] []):cl2 ⟨Tryz.prog,w0⟩ 146 I5.sg [I i] (trees h) K:=by
 have g1:=hf.ol;have g3:=hf.sl;have g4:=hf.bl
 refine I5.cl2 ?_
 unfold I5.txt
 simp only [AI,AL,AH,AJ,AM,AE,AG,AR,AP,AN,AQ,AO,AS,AK,BD,BF,BI,BJ,BH,BG,BE,A1,AZ,AY,AX,A4,A5]
 refine AU hi (OJ hi ?_)
 rw [IK hi,AE]
 have hfo:=gK hf.of i
 have hnum:=hn.ob i
 obtain ⟨⟨n1,n2⟩,⟨n3,n4⟩,_,_,⟨n5,n6⟩,_⟩:=hnum
 have hib:=sU hf.ol hf.of i
 refine F8 (CP (BM (BM (BM (IN (fun hg=> ?_) fun hg=> ?_)))))
 rotate_left
 ·exact CL hg rfl (BQ (h2 fun hk=>hg hk.gen))
 refine CB (CJ hg rfl (AT (fun h3=>h2 fun hk=>by have:=hk.len;omega) fun h3=> ?_))
 have hl3:(ob h.BA i).field.length=3:=by omega
 have hg:0≤(ob h.BA i).gen∧(ob h.BA i).gen≤999:=Decidable.not_not.1 hg
 rw [hl3]
 refine A8 (fun j=>[iv i,iv (AA (iv i)*8+6),iv 3,iv j, .bool (ob h.BA i).live,I (ob h.BA i).gen,I (ob h.BA i).site,I (ob h.BA i).holds,I (ob h.BA i).roots,I (ob h.BA i).count,iv (AA (iv i)*8+6), .bool (ob h.BA i).purple]) (fun _=>[]) 3 (fun j=> ∀k,k<j→gI (ob h.BA i).field k≠ -1→(ob h.BA i).live=true∧0≤AB h.BA (gI (ob h.BA i).field k)) rfl rfl (fun k hk=>by omega) (fun R j hj hP hR=> ?_)
 simp only [AI,AL,AH,AJ,AM,AE,AG,AR,AP,AN,AQ,AO,AS,AK,BD,BF,BI,BJ,BH,BG,BE,A1,AZ,AY,AX,A4,A5]
 rw [A9 (AA (iv i)*8+6),IK hi,AE,hl3]
 refine AW (AT (fun hlt=> ?_) fun hge=> ?_)
 ·have hlt:j<3:=by omega
  refine AU hlt (N8 hi (by omega) ?_)
  repeat' (first | refine C5 (hn.fld i j) (by omega) ?_ | refine BM ?_ | refine RS ?_ | refine sQ ?_ | refine Dk (by first | with_reducible assumption | omega) ?_ | refine Cv (by first | with_reducible assumption | omega) ?_ | refine HV (by first | with_reducible assumption | omega) ?_ | refine ME (by first | with_reducible assumption | omega) ?_ | refine SG (by with_reducible assumption) ?_ | refine e7 (by with_reducible assumption) ?_ | refine qO (by with_reducible assumption) rfl ?_ | refine vX (by with_reducible assumption) rfl ?_ | refine CL (by first | with_reducible assumption | omega) rfl ?_ | refine CJ (by first | with_reducible assumption | omega) rfl ?_ | refine BQ ?_ | refine BT ?_ | refine AW ?_ | refine CB ?_ | refine A6 (by omega) ?_ | refine AT (fun _=> ?_) (fun _=> ?_) | refine IQ (fun _=> ?_) (fun _=> ?_) | refine pJ (fun _=> ?_) (fun _=> ?_) | refine BP ?_)
  all_goals first
   | (refine hR hlt fun k hk hne=> ?_
      rcases Nat.lt_succ_iff_lt_or_eq.1 hk with h4 | rfl
      ·exact hP k h4 hne
      ·first
       | exact absurd hne (by assumption)
       | exact ⟨by simp_all,by omega⟩)
   | (refine h2 fun hk=> ?_
      have h4:=hk.lead j hlt (by assumption)
      first
       | omega
       | simp_all)
 ·have hj3:j=3:=by omega
  subst hj3
  cases hv:(ob h.BA i).live with
  | false=>
    have mk:(ob h.BA i).site=0→(ob h.BA i).holds=0→(ob h.BA i).roots=0→(ob h.BA i).count=0→(ob h.BA i).purple=false→P6 h i:=fun a b c d e=>⟨hg,hl3,hP,fun _=>⟨a,b,c,d,e⟩,fun hh=>by rw [hv] at hh;cases hh⟩
    refine BP (BQ ?_)
    cases hpu:(ob h.BA i).purple
    ·repeat' (first | refine BM ?_ | refine NM ?_ | refine CL (by first | with_reducible assumption | omega) rfl ?_ | refine CJ (by first | with_reducible assumption | omega) rfl ?_ | refine UH rfl ?_ | refine BL ?_ | refine IQ (fun _=> ?_) (fun _=> ?_) | refine BP ?_)
     all_goals first
      | exact h1 (mk (by assumption) (by assumption) (by assumption) (by assumption) hpu)
      | (refine h2 fun hk=> ?_
         have h4:=hk.dead hv
         omega)
    ·repeat' (first | refine BM ?_ | refine NM ?_ | refine CL (by first | with_reducible assumption | omega) rfl ?_ | refine CJ (by first | with_reducible assumption | omega) rfl ?_ | refine UH rfl ?_ | refine BL ?_ | refine IQ (fun _=> ?_) (fun _=> ?_) | refine BP ?_)
     all_goals
      refine h2 fun hk=> ?_
      have h4:=hk.dead hv
      rw [hpu] at h4
      first
       | omega
       | exact absurd h4.2.2.2.2 (by decide)
  | true=>
    refine BP (BT ?_)
    have fin:1≤(ob h.BA i).gen→(0≤(ob h.BA i).site∧(ob h.BA i).site≤(h.sites.length:Int)-1)→(0≤(ob h.BA i).holds∧(ob h.BA i).holds≤20)→(0≤(ob h.BA i).roots∧(ob h.BA i).roots≤20)→(ob h.BA i).count=(ob h.BA i).holds+(ob h.BA i).roots+inE h.BA i→1≤(ob h.BA i).count→K [.bool (decide ((ob h.BA i).purple=decide (CU i (ob h.BA i).gen∈h.buffer)))] []:=fun a b c d e f=>by
     by_cases hp:(ob h.BA i).purple=decide (CU i (ob h.BA i).gen∈h.buffer)
     ·rw [decide_eq_true hp]
      exact h1 ⟨hg,hl3,hP,fun hh=>(by rw [hv] at hh;cases hh),fun _=>⟨a,b,c,d,e,f,hp⟩⟩
     ·rw [decide_eq_false hp]
      exact h2 fun hk=>hp (hk.lv hv).2.2.2.2.2.2
    have no: ∀{P:Prop}, ¬P→(P6 h i→P)→K [.bool false] []:=fun hp hi=>h2 fun hk=>hp (hi hk)
    repeat' (first | refine F8 ?_ | refine R1 ⟨by omega,by omega⟩ (by omega) hf.of ?_ | refine NF ?_ | refine TZ (by omega) ?_ | refine BM ?_ | refine NM ?_ | refine HV (by first | with_reducible assumption | omega) ?_ | refine ME (by first | with_reducible assumption | omega) ?_ | refine CL (by first | with_reducible assumption | omega) rfl ?_ | refine CJ (by first | with_reducible assumption | omega) rfl ?_ | refine UH rfl ?_ | refine EA ?_ | refine BL ?_ | refine CW ⟨by omega,by omega⟩ ?_ | refine DZ ⟨by omega,by omega⟩ ?_ | refine xD ?_ | refine IQ (fun _=> ?_) (fun _=> ?_))
    all_goals first
     | exact fin (by assumption) (by assumption) (by assumption) (by assumption) (by assumption) (by assumption)
     | (refine h2 fun hk=> ?_
        have h4:=hk.lv hv
        omega)
end Go.Proofs.YtnhicpkhkaihoaaGreat.P
namespace Go.Proofs.YtnhicpkhkaihoaaGreat.P
open Go Go.Proofs.YtnhicpkhkaihoaaGreat Go.Proofs.YtnhicpkhkaihoaaGreat.Eng
set_option maxHeartbeats 4000000
set_option linter.unusedVariables false
set_option linter.unusedSimpArgs false
attribute [local irreducible] prP gP gE gF AV ixW ldc ldg ldl stc stg scW mkW apW BC cl2 BW F6 C2
variable {w0:World}
theorem bS {h:Hp} {K:J2} (hf:Fits h) (hn:VT h) (h1:DH h→K [.bool true] []) (h2: ¬DH h→K [.bool false] []):cl2 ⟨Tryz.prog,w0⟩ 84 H8.sg [] (trees h) K:=by
 have g1:=hf.ol;have g2:=hf.wl;have g3:=hf.sl;have g4:=hf.bl
 refine H8.cl2 ?_
 unfold H8.txt
 simp only [AI,AL,AH,AJ,AM,AE,AG,AR,AP,AN,AQ,AO,AS,AK,BD,BF,BI,BJ,BH,BG,BE,A1,AZ,AY,AX,A4,A5]
 refine CB (BM (BM (BM (IN (fun ho=> ?_) fun ho=> ?_))))
 rotate_left
 ·refine CL ho rfl (BM (BM (O7 (O7 (TL rfl (BQ (h2 fun hk=>ho (by have:=hk.ol;omega))))))))
 refine CB (CJ ho rfl (BM (BM (IN (fun hw=> ?_) fun hw=> ?_))))
 rotate_left
 ·exact JZ hw (CL hw rfl (BQ (h2 fun hk=>hw (by have:=hk.wl;omega))))
 refine aZ (by omega) (fun hs=> ?_) fun hs=> ?_
 rotate_left
 ·exact GA hw (BP (CJ hw rfl (BQ (h2 fun hk=>hs hk.sites))))
 refine GA hw (BP (CJ hw rfl (BT ?_)))
 have o8:h.BA.length=8:=by omega
 have w8:h.B7.length=8:=by omega
 refine A8 (fun i=>[iv h.BA.length,iv i]) (fun _=>[]) h.BA.length (fun i=> ∀k,k<i→P6 h k) rfl rfl (fun k hk=>by omega) (fun R i hi hP hR=> ?_)
 refine AW (AT (fun hlt=> ?_) fun hge=> ?_)
 ·have hlt:i<h.BA.length:=by omega
  refine gQ hf hn hlt (fun hk=>BP (BT (A6 (by omega) (hR hlt fun k hki=> ?_)))) fun hk=>BP (BQ (h2 fun hh=>hk (hh.obj i (by omega))))
  rcases Nat.lt_succ_iff_lt_or_eq.1 hki with h4 | rfl
  ·exact hP k h4
  ·exact hk
 have hi8:i=8:=by omega
 subst hi8
 refine A8 (fun i=>[iv h.B7.length,iv i]) (fun _=>[]) h.B7.length (fun i=> ∀k,k<i→((wk h.B7 k).used=false→(wk h.B7 k).target=0)∧((wk h.B7 k).used=true→8≤(wk h.B7 k).target∧(wk h.B7 k).target≤7999)) rfl rfl (fun k hk=>by omega) (fun R2 i hi hP2 hR2=> ?_)
 refine AW (AT (fun hlt=> ?_) fun hge=> ?_)
 ·have hlt:i<h.B7.length:=by omega
  refine AU hlt (Z1 hlt ?_)
  have stepR:=fun hk=>hR2 hlt fun k hki=>(Nat.lt_succ_iff_lt_or_eq.1 hki).elim (hP2 k) fun he=>he ▸ hk
  cases hu:(wk h.B7 i).used with
  | false=>
    refine BP ?_
    repeat' (first | refine BM ?_ | refine RS ?_ | refine YZ ?_ | refine RZ (by first | with_reducible assumption | omega) ?_ | refine WK (by first | with_reducible assumption | omega) ?_ | refine M7 ?_ | refine JZ (by first | with_reducible assumption | omega) ?_ | refine GA (by first | with_reducible assumption | omega) ?_ | refine yU (by with_reducible assumption) ?_ | refine qO (by with_reducible assumption) rfl ?_ | refine vX (by with_reducible assumption) rfl ?_ | refine CL (by first | with_reducible assumption | omega) rfl ?_ | refine CJ (by first | with_reducible assumption | omega) rfl ?_ | refine UH rfl ?_ | refine BQ ?_ | refine BT ?_ | refine CB ?_ | refine A6 (by omega) ?_ | refine lZ (fun _=> ?_) (fun _=> ?_) | refine tL (fun _=> ?_) (fun _=> ?_) | simp only [AI,AL,AH,AJ,AM,AE,AG,AR,AP,AN,AQ,AO,AS,AK,BD,BF,BI,BJ,BH,BG,BE,A1,AZ,AY,AX,A4,A5])
    all_goals first
     | (refine stepR ⟨fun _=> ?_,fun hh=>(by rw [hu] at hh;cases hh)⟩
        first
         | omega
         | (simp_all;done))
     | (refine h2 fun hk=> ?_
        have h4:=(hk.weak i (by omega)).1 hu
        first
         | omega
         | (simp_all;done))
  | true=>
    refine BP ?_
    repeat' (first | refine F8 ?_ | refine BM ?_ | refine RS ?_ | refine YZ ?_ | refine RZ (by first | with_reducible assumption | omega) ?_ | refine WK (by first | with_reducible assumption | omega) ?_ | refine M7 ?_ | refine JZ (by first | with_reducible assumption | omega) ?_ | refine GA (by first | with_reducible assumption | omega) ?_ | refine SG (by with_reducible assumption) ?_ | refine qO (by with_reducible assumption) rfl ?_ | refine vX (by with_reducible assumption) rfl ?_ | refine CL (by first | with_reducible assumption | omega) rfl ?_ | refine CJ (by first | with_reducible assumption | omega) rfl ?_ | refine UH rfl ?_ | refine BQ ?_ | refine CX (by first | with_reducible assumption | omega) ?_ | refine CB ?_ | refine CP ?_ | refine A6 (by omega) ?_ | refine AT (fun _=> ?_) (fun _=> ?_) | refine lZ (fun _=> ?_) (fun _=> ?_) | refine tL (fun _=> ?_) (fun _=> ?_) | simp only [AI,AL,AH,AJ,AM,AE,AG,AR,AP,AN,AQ,AO,AS,AK,BD,BF,BI,BJ,BH,BG,BE,A1,AZ,AY,AX,A4,A5])
    all_goals first
     | (refine stepR ⟨fun hh=>(by rw [hu] at hh;cases hh),fun _=> ?_⟩
        first
         | omega
         | (simp_all;done))
     | (refine h2 fun hk=> ?_
        have h4:=(hk.weak i (by omega)).2 hu
        first
         | omega
         | (simp_all;done))
 have hi8:i=8:=by omega
 subst hi8
 refine A8 (fun i=>[iv h.buffer.length,iv i]) (fun _=>[]) h.buffer.length (fun i=> ∀k,k<i→0≤AB h.BA (gI h.buffer k)∧gI h.buffer k∉h.buffer.take k) rfl rfl (fun k hk=>by omega) (fun R3 i hi hP3 hR3=> ?_)
 simp only [AI,AL,AH,AJ,AM,AE,AG,AR,AP,AN,AQ,AO,AS,AK,BD,BF,BI,BJ,BH,BG,BE,A1,AZ,AY,AX,A4,A5]
 refine AW (AT (fun hlt=> ?_) fun hge=> ?_)
 ·have hlt:i<h.buffer.length:=by omega
  have e:IP (tI h.buffer) [] (AA (UT (two (iv 0) (iv i)))*1) (AA (VM (two (iv 0) (iv i)))*1)=tI (h.buffer.take i):=by
   have h1:AA (UT (two (iv 0) (iv i)))=0:=rfl
   have h2:AA (VM (two (iv 0) (iv i)))=i:=A9 i
   rw [h1,h2];simp [IP,node,tI,List.map_take]
  refine AU hlt (ldI hlt (C5 (hn.bf i) (by omega) (AW (BM (BM (BM (IN (fun hb=> ?_) fun hb=> ?_)))))))
  ·refine aU (by omega) (BM (GA hb ?_))
   rw [e]
   refine TZ (by simp;omega) (CJ hb rfl (AT (fun hm=>h2 fun hk=>(hk.buf i hlt).2 hm) fun hm=> ?_))
   refine A6 (by omega) (hR3 hlt fun k hk=> ?_)
   rcases Nat.lt_succ_iff_lt_or_eq.1 hk with h3 | rfl
   ·exact hP3 k h3
   ·exact ⟨by omega,hm⟩
  ·exact BM (JZ hb (CL hb rfl (BQ (h2 fun hk=>by have:=(hk.buf i hlt).1;omega))))
 ·have hib:i=h.buffer.length:=by omega
  subst hib
  exact h1 ⟨o8,w8,hs,fun i hi=>hP i hi,fun i hi=>hP2 i hi,fun i hi=>hP3 i hi⟩
end Go.Proofs.YtnhicpkhkaihoaaGreat.P
namespace Go.Proofs.YtnhicpkhkaihoaaGreat.P
open Go Go.Proofs.YtnhicpkhkaihoaaGreat Go.Proofs.YtnhicpkhkaihoaaGreat.Eng
set_option linter.unusedVariables false
theorem zQ {n:Nat} (hn:1≤n) {K:Value→Value→Prop} (h:K (iv 1) (iv (n-1))):scW n (some (.int .i64 1)) none K:=⟨1,n,rfl,rfl,hn,Nat.le_refl _,h⟩
set_option maxHeartbeats 4000000
set_option linter.unusedVariables false
set_option linter.unusedSimpArgs false
attribute [local irreducible] prP gP gE gF AV ixW ldc ldg ldl stc stg scW mkW apW BC cl2 BW F6 C2
variable {w0:World}
def Q4:List Int:=[-1, -1, -1]
def CI (g:Int):A7:=⟨false,g,0,0,0,0,Q4,false⟩
def JM:Nat→List A7→List Int→List Int→List Int→List A7×List Int×List Int
 | 0,os,buf,freed,_=>(os,buf,freed)
 | f+1,os,buf,freed,todo=>match todo with
   | []=>(os,buf,freed)
   | id::todo=>if freed.length>8 then (os,buf,freed) else
     if AB os id<0 then JM f os buf freed todo else
     if w64 ((ob os (AB os id).toNat).count-1)>0 then
      (if (ob os (AB os id).toNat).purple=true then JM f (os.set (AB os id).toNat {ob os (AB os id).toNat with count:=w64 ((ob os (AB os id).toNat).count-1)}) buf freed todo
       else JM f (os.set (AB os id).toNat {ob os (AB os id).toNat with count:=w64 ((ob os (AB os id).toNat).count-1),purple:=true}) (buf++[id]) freed todo)
     else JM f (os.set (AB os id).toNat (CI (ob os (AB os id).toNat).gen)) (buf.filter fun x=>decide (x≠id)) (freed++[id]) (todo++(ob os (AB os id).toNat).field.filter fun x=>decide (0≤x))
def mu (freed todo:List Int):Nat:=todo.length+4*(9-freed.length)
def H5 (os:List A7) (buf ids:List Int):List A7×List Int×List Int:=JM (ids.length+37) os buf [] ids
theorem BU {l:List A7} {id:Int} (h:0≤AB l id):l.length=8∧8≤id∧AB l id=id % 8∧(AB l id).toNat<8∧(ob l (AB l id).toNat).live=true∧(ob l (AB l id).toNat).gen=id/8:=by
 unfold AB at h ⊢
 split at h
 ·omega
 ·split at h
  ·rename_i h1 h2
   rw [if_neg h1,if_pos h2]
   exact ⟨by omega,by omega,rfl,by omega,h2.1,h2.2⟩
  ·omega
structure OF (o:A7):Prop where
 gen:F64 o.gen
 len:o.field.length=3
 fld: ∀f∈o.field,F64 f
theorem OF.free {g:Int} (h:F64 g):OF (CI g):=⟨h,rfl,by simp [CI,Q4,F64]⟩
theorem IT {l:List A7} {P:A7→Prop} {i:Nat} {o:A7} (h: ∀x∈l,P x) (ho:P o): ∀x∈l.set i o,P x:=fun x hx=>(List.mem_or_eq_of_mem_set hx).elim (h x) fun he=>he ▸ ho
structure LsI (R:List A7×List Int×List Int) (M:Nat) (q:List A7×List Int×List Int×List Int×Nat):Prop where
 ol:q.1.length=8
 of: ∀o∈q.1,OF o
 fr:q.2.2.1.length≤9
 off:q.2.2.2.2≤q.2.2.2.1.length
 td: ∀x∈q.2.2.2.1.drop q.2.2.2.2,F64 x
 sz:q.2.1.length+mu q.2.2.1 (q.2.2.2.1.drop q.2.2.2.2)≤M
 go: ∃f,mu q.2.2.1 (q.2.2.2.1.drop q.2.2.2.2)<f∧JM f q.1 q.2.1 q.2.2.1 (q.2.2.2.1.drop q.2.2.2.2)=R
theorem Z4 {l:List Int} {x:Int} {K:J2} (hl:(l.length:Int)≤2^40) (h:K [] [tI (l.filter fun y=>decide (y≠x))]):cl2 ⟨Tryz.prog,w0⟩ 189 HM.sg [I x] [tI l] K:=by
 refine HM.cl2 ?_
 unfold HM.txt
 simp only [AI,AL,AH,AJ,AM,AE,AG,AR,AP,AN,AQ,AO,AS,AK,BD,BF,BI,BJ,BH,BG,BE,A1,AZ,AY,AX,A4,A5]
 refine A8 (fun i=>[I x,iv l.length,iv i]) (fun i=>[tI ((l.take i).filter fun y=>decide (y≠x))]) l.length (fun _=>True) rfl rfl trivial (fun R i hi _ hR=> ?_)
 have hln:=List.length_filter_le (fun y=>decide (y≠x)) (l.take i)
 have hlt2:(l.take i).length≤i:=by simp;omega
 simp only [AI,AL,AH,AJ,AM,AE,AG,AR,AP,AN,AQ,AO,AS,AK,BD,BF,BI,BJ,BH,BG,BE,A1,AZ,AY,AX,A4,A5]
 refine AW (AT (fun hlt=> ?_) fun hge=> ?_)
 ·have hlt:i<l.length:=by omega
  replace hR:=hR hlt trivial
  rw [List.take_succ_eq_append_getElem hlt,List.filter_append,G3 hlt] at hR
  refine BS (AU hlt (ldI hlt (CB (AT (fun he=> ?_) fun he=> ?_))))
  ·refine EB rfl (by omega) (A6 (by omega) ?_)
   have e:([gI l i].filter fun y=>decide (y≠x))=[gI l i]:=by simp [he]
   rw [e, ←FE] at hR;exact hR
  ·refine A6 (by omega) ?_
   have e:([gI l i].filter fun y=>decide (y≠x))=[]:=by simp at he;simp [he]
   rw [e,List.append_nil] at hR;exact hR
 ·have:i=l.length:=by omega
  subst this
  rw [List.take_length];exact h
theorem WM {l:List Int} {x:Int} {K:J2} (hl:(l.length:Int)≤2^40) (h:K [] [tI (l.filter fun y=>decide (y≠x))]):cl2 ⟨Tryz.prog,w0⟩ 184 FT.sg [I x] [tI l] K:=by
 refine FT.cl2 ?_
 unfold FT.txt
 simp only [AI,AL,AH,AJ,AM,AE,AG,AR,AP,AN,AQ,AO,AS,AK,BD,BF,BI,BJ,BH,BG,BE,A1,AZ,AY,AX,A4,A5]
 refine A8 (fun i=>[I x,iv i]) (fun i=>[tI ((l.take i).filter fun y=>decide (y≠x))]) l.length (fun _=>True) rfl rfl trivial (fun R i hi _ hR=> ?_)
 have hln:=List.length_filter_le (fun y=>decide (y≠x)) (l.take i)
 have hlt2:(l.take i).length≤i:=by simp;omega
 simp only [AI,AL,AH,AJ,AM,AE,AG,AR,AP,AN,AQ,AO,AS,AK,BD,BF,BI,BJ,BH,BG,BE,A1,AZ,AY,AX,A4,A5]
 refine AW (AT (fun hlt=> ?_) fun hge=> ?_)
 ·have hlt:i<l.length:=by omega
  replace hR:=hR hlt trivial
  rw [List.take_succ_eq_append_getElem hlt,List.filter_append,G3 hlt] at hR
  refine BS (AU hlt (ldI hlt (CB (AT (fun he=> ?_) fun he=> ?_))))
  ·refine AU hlt (ldI hlt (EB rfl (by omega) (A6 (by omega) ?_)))
   have e:([gI l i].filter fun y=>decide (y≠x))=[gI l i]:=by simp [he]
   rw [e, ←FE] at hR;exact hR
  ·refine A6 (by omega) ?_
   have e:([gI l i].filter fun y=>decide (y≠x))=[]:=by simp at he;simp [he]
   rw [e,List.append_nil] at hR;exact hR
 ·have:i=l.length:=by omega
  subst this
  rw [List.take_length];exact h
theorem RM {g:Value} {K:J2} (h:K [.bool false,g,I 0,I 0,I 0,I 0, .bool false] [tI Q4]):cl2 ⟨Tryz.prog,w0⟩ 82 H4.sg [g] [] K:=H4.cl2 h
theorem uH {l:List Int} {a:Nat} {K:Value→Prop} (ha:a<l.length) (h:K (I (gI l a))):ldc (tI l) [] (a+AA (iv 0)*1) K:=by
 have e:a+AA (iv 0)*1=AA (iv a)*1:=by rw [A9,A9];omega
 rw [e];exact ldI ha h
theorem drop_cons {l:List Int} {a:Nat} (ha:a<l.length):l.drop a=gI l a::l.drop (a+1):=by rw [List.drop_eq_getElem_cons ha,G3 ha]
theorem dU {freed todo:List Int} {x:Int}:mu freed (x::todo)=mu freed todo+1:=by simp only [mu,List.length_cons];omega
theorem HY {l:List A7} {i:Nat} (h:i<l.length):ob l i∈l:=by rw [←D6 h];exact List.getElem_mem h
theorem oY {l:List A7} {i:Nat} (h:i<l.length):tR tO l=tR tO (l.set i (ob l i)):=by rw [←D6 h];exact xI h
theorem LsI.start {os:List A7} {buf ids:List Int} (hol:os.length=8) (hof: ∀o∈os,OF o) (hid: ∀x∈ids,F64 x):LsI (H5 os buf ids) (buf.length+ids.length+36) (os,buf,[],ids,0):=
 ⟨hol,hof,Nat.zero_le _,Nat.zero_le _,by simpa using hid,by simp only [mu,List.drop_zero,List.length_nil];omega,ids.length+37,by simp only [mu,List.drop_zero,List.length_nil];omega,rfl⟩
section
variable {R:List A7×List Int×List Int} {M:Nat} {os:List A7} {buf freed row:List Int} {off:Nat}
theorem LsI.stop (h:LsI R M (os,buf,freed,row,off)) (hs:row.length≤off∨8<freed.length):R=(os,buf,freed):=by
 obtain ⟨_,_,_,_,_,_,f,hf,go⟩:=h
 simp only at hf go
 obtain ⟨f,rfl⟩: ∃f',f=f'+1:=⟨f-1,by omega⟩
 rcases hs with hs | hs
 ·rw [List.drop_of_length_le hs] at go
  rw [←go];rfl
 ·rw [←go]
  cases row.drop off with
  | nil=>rfl
  | cons x l=>simp only [JM,if_pos hs]
theorem LsI.step (h:LsI R M (os,buf,freed,row,off)) (hlt:off<row.length) (hfr:freed.length≤8):F64 (gI row off)∧ ∃f,mu freed (row.drop (off+1))<f∧JM (f+1) os buf freed (gI row off::row.drop (off+1))=R∧buf.length+mu freed (row.drop (off+1))+1≤M∧ ∀x∈row.drop (off+1),F64 x:=by
 obtain ⟨_,_,_,_,td,sz,f,hf,go⟩:=h
 simp only at td sz hf go
 rw [drop_cons hlt] at td sz hf go
 rw [dU] at sz hf
 obtain ⟨f,rfl⟩: ∃f',f=f'+1:=⟨f-1,by omega⟩
 exact ⟨td _ (by simp),f,by omega,go,by omega,fun x hx=>td x (by simp [hx])⟩
theorem LsI.skip (h:LsI R M (os,buf,freed,row,off)) (hlt:off<row.length) (hfr:freed.length≤8) (hs:AB os (gI row off)<0):LsI R M (os,buf,freed,row,off+1):=by
 obtain ⟨_,f,h1,h2,h3,h4⟩:=h.step hlt hfr
 rw [JM] at h2
 simp only at h2
 rw [if_neg (by omega),if_pos hs] at h2
 exact ⟨h.ol,h.of,h.fr,hlt,h4,by simp only;omega,f,h1,h2⟩
theorem LsI.OH (h:LsI R M (os,buf,freed,row,off)) (hlt:off<row.length) (hfr:freed.length≤8) (hs:0≤AB os (gI row off)) (hc:w64 ((ob os (AB os (gI row off)).toNat).count-1)>0) (hp:(ob os (AB os (gI row off)).toNat).purple=true):
  LsI R M (os.set (AB os (gI row off)).toNat {ob os (AB os (gI row off)).toNat with count:=w64 ((ob os (AB os (gI row off)).toNat).count-1)},buf,freed,row,off+1):=by
 obtain ⟨_,f,h1,h2,h3,h4⟩:=h.step hlt hfr
 have hk:=BU hs
 have ho:=h.of _ (HY (l:=os) (i:=(AB os (gI row off)).toNat) (by omega))
 rw [JM] at h2
 simp only at h2
 rw [if_neg (by omega),if_neg (by omega),if_pos hc,if_pos hp] at h2
 exact ⟨by simp only [List.length_set];exact h.ol,IT h.of ⟨ho.gen,ho.len,ho.fld⟩,h.fr,hlt,h4,by simp only;omega,f,h1,h2⟩
theorem LsI.put (h:LsI R M (os,buf,freed,row,off)) (hlt:off<row.length) (hfr:freed.length≤8) (hs:0≤AB os (gI row off)) (hc:w64 ((ob os (AB os (gI row off)).toNat).count-1)>0) (hp:(ob os (AB os (gI row off)).toNat).purple=false):
  LsI R M (os.set (AB os (gI row off)).toNat {ob os (AB os (gI row off)).toNat with count:=w64 ((ob os (AB os (gI row off)).toNat).count-1),purple:=true},buf++[gI row off],freed,row,off+1):=by
 obtain ⟨_,f,h1,h2,h3,h4⟩:=h.step hlt hfr
 have hk:=BU hs
 have ho:=h.of _ (HY (l:=os) (i:=(AB os (gI row off)).toNat) (by omega))
 rw [JM] at h2
 simp only at h2
 rw [if_neg (by omega),if_neg (by omega),if_pos hc,if_neg (by rw [hp];decide)] at h2
 exact ⟨by simp only [List.length_set];exact h.ol,IT h.of ⟨ho.gen,ho.len,ho.fld⟩,h.fr,hlt,h4,by simp only [List.length_append,List.length_singleton];omega,f,h1,h2⟩
theorem LsI.free (h:LsI R M (os,buf,freed,row,off)) (hlt:off<row.length) (hfr:freed.length≤8) (hs:0≤AB os (gI row off)) (hc: ¬w64 ((ob os (AB os (gI row off)).toNat).count-1)>0) {row':List Int} {off':Nat} (hrow:row'.drop off'=row.drop (off+1)++(ob os (AB os (gI row off)).toNat).field.filter fun x=>decide (0≤x)) (hle:off'≤row'.length):
  LsI R M (os.set (AB os (gI row off)).toNat (CI (ob os (AB os (gI row off)).toNat).gen),buf.filter fun x=>decide (x≠gI row off),freed++[gI row off],row',off'):=by
 obtain ⟨_,f,h1,h2,h3,h4⟩:=h.step hlt hfr
 have hk:=BU hs
 have ho:=h.of _ (HY (l:=os) (i:=(AB os (gI row off)).toNat) (by omega))
 have hfl:=List.length_filter_le (fun x=>decide (0≤x)) (ob os (AB os (gI row off)).toNat).field
 have hbl:=List.length_filter_le (fun x=>decide (x≠gI row off)) buf
 rw [ho.len] at hfl
 rw [JM] at h2
 simp only at h2
 rw [if_neg (by omega),if_neg (by omega),if_neg hc] at h2
 have hmu:mu (freed++[gI row off]) (row'.drop off')≤mu freed (row.drop (off+1)):=by
  rw [hrow];simp only [mu,List.length_append,List.length_singleton];omega
 refine ⟨by simp only [List.length_set];exact h.ol,IT h.of (OF.free ho.gen),by simp only [List.length_append,List.length_singleton];omega,hle,fun x hx=> ?_,by simp only;omega,f,by simp only;omega,by rw [←h2,hrow]⟩
 simp only at hx
 rw [hrow] at hx
 rcases List.mem_append.1 hx with hx | hx
 ·exact h4 x hx
 ·exact ho.fld x (List.mem_filter.1 hx).1
end
section
variable {cur:List A7} {k:Nat} {y:A7}
theorem nF (hk:k<cur.length):G4 (tR tO (cur.set k y)) [k*8+6]=tI y.field:=by have:=RU (y:=y) hk;rwa [A9] at this
theorem wN {i:Nat} {K:Value→Prop} (hk:k<cur.length) (hi:i<y.field.length) (h:K (I (gI y.field i))):ldc (tR tO (cur.set k y)) [k*8+6] i K:=by
 have:=N8 (l:=cur.set k y) (i:=k) (j:=i) (K:=K) (by simpa using hk) (by rw [←D6 (by simpa using hk),List.getElem_set_self];exact hi) (by rw [←D6 (by simpa using hk),List.getElem_set_self];exact h)
 simpa only [A9,Nat.mul_one] using this
theorem zJ {K:Value→Prop} (hk:k<cur.length) (h:K (I y.gen)):ldc (tR tO (cur.set k y)) [] (k*8+1) K:=by
 have:=JX (f:=tO) (K:=K) (c:=1) (y:=y) hk (by decide) rfl h
 rwa [A9] at this
theorem zP {ts:List T} {z:A7} {K:List T→Prop} (hk:k<cur.length) (hy:ts=tO z) (h:K (tR tO (cur.set k z))):stg (tR tO (cur.set k y)) [] (k*8) ts K:=by
 have:=OA (f:=tO) (l:=cur.set k y) (K:=K) (by simpa using hk) hy (by rw [List.set_set];exact h)
 rwa [A9] at this
theorem SP (l:List Int) (a m:Nat):IP (tI l) [] a m=tI ((l.drop a).take m):=by simp [IP,node,tI,List.map_drop,List.map_take]
end
theorem SU {os:List A7} {buf ids:List Int} {b d:List T} {K:J2} (hol:os.length=8) (hof: ∀o∈os,OF o) (hb:buf.length≤2^30) (hi:ids.length≤2^30) (hid: ∀x∈ids,F64 x) (h:K [] [tI (H5 os buf ids).2.2,tR tO (H5 os buf ids).1,tI (H5 os buf ids).2.1]):cl2 ⟨Tryz.prog,w0⟩ 170 DS.sg [] [tR tO os,b,tI buf,d,tI ids] K:=by
 refine DS.cl2 ?_
 unfold DS.txt
 refine JP (by omega) ?_
 obtain ⟨R,hR0⟩: ∃R,H5 os buf ids=R:=⟨_,rfl⟩
 have st:=LsI.start (buf:=buf) hol hof hid
 rw [hR0] at st h
 simp only [AI,AL,AH,AJ,AM,AE,AG,AR,AP,AN,AQ,AO,AS,AK,BD,BF,BI,BJ,BH,BG,BE,A1,AZ,AY,AX,A4,A5]
 refine DK (α:=List A7×List Int×List Int×List Int×Nat) (fun q=>[iv (q.2.2.2.1.length-q.2.2.2.2),iv q.2.2.2.2]) (fun q=>[tI q.2.2.1,tI q.2.2.2.1,tR tO q.1,tI q.2.1]) (fun q=>mu q.2.2.1 (q.2.2.2.1.drop q.2.2.2.2)) (LsI R (buf.length+ids.length+36)) (os,buf,[],ids,0) rfl rfl st (fun Rr q hq hR=> ?_)
 obtain ⟨os,bf,freed,row,off⟩:=q
 have hq':LsI R (buf.length+ids.length+36) (os,bf,freed,row,off):=hq
 obtain ⟨ol,of,fr,ofl,td,sz,_⟩:=id hq'
 simp only at ol of fr ofl td sz
 have hmz:mu freed (row.drop off)=(row.length-off)+4*(9-freed.length):=by simp [mu]
 simp only [AI,AL,AH,AJ,AM,AE,AG,AR,AP,AN,AQ,AO,AS,AK,BD,BF,BI,BJ,BH,BG,BE,A1,AZ,AY,AX,A4,A5]
 simp only [A9]
 refine GN (BM (BM (IQ (fun hlt=> ?_) fun hge=> ?_)))
 rotate_left
 ·refine CJ hge rfl (BT ?_)
  have:=hq'.stop (.inl (by
   have: ¬(((row.length-off:Nat):Int)>0):=hge
   omega))
  rw [this] at h;exact h
 have hlt':off<row.length:=by
  have:((row.length-off:Nat):Int)>0:=hlt
  omega
 refine EA (CL hlt rfl (AT (fun h8=> ?_) fun h8=> ?_))
 rotate_left
 ·have:=hq'.stop (.inr (by omega))
  rw [this] at h;exact h
 have h8':freed.length≤8:=by omega
 obtain ⟨hidf,_⟩:=hq'.step hlt' h8'
 refine AU (j:=0) (by omega) (uH hlt' (zQ (by omega) (C5 hidf (by omega) ?_)))
 have e1:off+AA (iv 1)*1=off+1:=by rw [A9]
 have e2:row.length-off-1=row.length-(off+1):=by omega
 simp only [A9,e2,Nat.mul_one,BD]
 have mu1:mu freed (row.drop (off+1))<mu freed (row.drop off):=by rw [drop_cons hlt',dU];omega
 refine AW (AT (fun hs=>hR (os,bf,freed,row,off+1) (hq'.skip hlt' h8' hs) mu1) fun hs=> ?_)
 have hs':0≤AB os (gI row off):=by omega
 have hk:=BU hs'
 have n1:=hq'.OH hlt' h8' hs'
 have n2:=hq'.put hlt' h8' hs'
 have n3:=fun hc row' off'=>hq'.free hlt' h8' hs' hc (row':=row') (off':=off')
 have hobf:=of _ (HY (l:=os) (i:=(AB os (gI row off)).toNat) (by omega))
 generalize hgid:gI row off=id at*
 obtain ⟨k,hkk⟩: ∃k,(AB os id).toNat=k:=⟨_,rfl⟩
 have hkI:AB os id=(k:Int):=by omega
 rw [hkk] at hk n1 n2 n3 hobf
 rw [hkI]
 have hkl:k<os.length:=by omega
 rw [oY hkl]
 generalize ho:ob os k=o at*
 refine AU (by omega) (JX (i:=k) hkl (by decide) rfl (Z6 (IY hkl ?_)))
 generalize hcc:w64 (o.count-1)=c at*
 refine JX (v:=I c) (i:=k) hkl (by decide) rfl ?_
 refine GN (BM (BM (BM (IQ (fun hc=> ?_) fun hc=> ?_))))
 ·refine JX (v:= .bool o.purple) (i:=k) hkl (by decide) rfl (HV hc (BP (CL hc rfl ?_)))
  cases hp:o.purple with
  | false=>
    refine BQ (Q1 hkl (EB rfl (by omega) ?_))
    have:=hR _ (n2 hc hp) (by simp only;exact mu1)
    simp only at this
    rw [←FE] at this
    exact this
  | true=>
    refine BT (JX (v:=I c) (i:=k) hkl (by decide) rfl (EA (C7 (by omega) ?_)))
    have:=hR _ (n1 hc hp) (by simp only;exact mu1)
    simp only [hp] at this
    exact this
 ·refine ME hc (CJ hc rfl (BT (JX (v:=I c) (i:=k) hkl (by decide) rfl (EA (CX (by omega) (EB rfl (by omega) (YJ (i:=k) hkl (by decide) rfl ?_)))))))
  rw [RU hkl,AE]
  have hfl:o.field.length=3:=hobf.len
  rw [hfl]
  refine DK (α:=Nat×List Int×Nat) (fun q=>[iv (q.2.1.length-q.2.2),iv q.2.2,I id,iv (k*8),iv (k*8+6),iv 3,iv q.1]) (fun q=>[tI (freed++[id]),tI q.2.1,tR tO (os.set k {o with count:=c}),tI bf]) (fun q=>3-q.1) (fun q=>q.1≤3∧q.2.2≤q.2.1.length∧q.2.1.drop q.2.2=row.drop (off+1)++(o.field.take q.1).filter fun x=>decide (0≤x)) (0,row,off+1) ?_ ?_ ⟨by omega,hlt',by simp⟩ (fun R2 q hq2 hR2=> ?_)
  ·rfl
  ·simp only [FE]
  obtain ⟨i,rw',of'⟩:=q
  obtain ⟨hi3,hof',hdr⟩:=hq2
  simp only at hi3 hof' hdr
  have hrl:rw'.length-of'≤row.length-(off+1)+3:=by
   have e:=congrArg List.length hdr
   have:=List.length_filter_le (fun x=>decide (0≤x)) (o.field.take i)
   simp only [List.length_drop,List.length_append,List.length_take] at e this
   omega
  simp only [AI,AL,AH,AJ,AM,AE,AG,AR,AP,AN,AQ,AO,AS,AK,BD,BF,BI,BJ,BH,BG,BE,A1,AZ,AY,AX,A4,A5]
  simp only [A9]
  refine AW (AT (fun hlt=> ?_) fun hge=> ?_)
  ·have hlt:i<o.field.length:=by omega
   have hfx:=hobf.fld _ (ER hlt)
   refine BS ?_
   simp only [nF hkl,AE,SP]
   have ed:(rw'.drop of').take (rw'.length-of')=rw'.drop of':=by rw [←List.length_drop,List.take_length]
   rw [ed]
   have ea:tI (rw'.drop of')++[T.c (I (gI o.field i))]=tI (rw'.drop of'++[gI o.field i]):=FE _ _
   refine AU hlt (wN hkl hlt ?_)
   simp only [A9]
   refine I4 (AT (fun hp=> ?_) fun hp=> ?_)
   ·refine EB rfl (by omega) ?_
    have:=hR2 (i+1,rw'.drop of'++[gI o.field i],0) ⟨by simp only;omega,by simp only;omega,by simp only [List.drop_zero];rw [hdr,List.take_succ_eq_append_getElem hlt,List.filter_append, ←List.append_assoc,G3 hlt];congr 1;simp [hp]⟩ (by simp only;omega)
    refine A6 (by omega) ?_
    rw [ea]
    simp only [AI,AL,AH,AJ,AM,AE,AG,AR,AP,AN,AQ,AO,AS,AK,BD,BF,BI,BJ,BH,BG,BE,A1,AZ,AY,AX,A4,A5]
    simp only [A9]
    exact this
   ·have:=hR2 (i+1,rw',of') ⟨by simp only;omega,hof',by simp only;rw [hdr,List.take_succ_eq_append_getElem hlt,List.filter_append, ←List.append_assoc,G3 hlt];simp;omega⟩ (by simp only;omega)
    refine A6 (by omega) ?_
    simp only [AI,AL,AH,AJ,AM,AE,AG,AR,AP,AN,AQ,AO,AS,AK,BD,BF,BI,BJ,BH,BG,BE,A1,AZ,AY,AX,A4,A5]
    simp only [A9]
    exact this
  ·have:i=o.field.length:=by omega
   subst this
   rw [List.take_length] at hdr
   refine Z4 (by omega) (zJ hkl (RM (zP hkl (z:=CI o.gen) rfl ?_)))
   exact hR _ (n3 hc _ _ hdr hof') (by simp only;rw [hdr];simp only [mu,List.length_append,List.length_singleton] at mu1 ⊢;have:=List.length_filter_le (fun x=>decide (0≤x)) o.field;omega)
end Go.Proofs.YtnhicpkhkaihoaaGreat.P
