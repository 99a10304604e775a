/- A part of the proof. -/
import Derived.Test.YtnhicpkhkaihoaaGreatFaTxtE
namespace Go.Proofs.YtnhicpkhkaihoaaGreat.P
open Go Go.Proofs.YtnhicpkhkaihoaaGreat Go.Proofs.YtnhicpkhkaihoaaGreat.Eng
set_option linter.unusedVariables false
def szB (s:ByteArray):Bool:=decide ((s.size:Int)≤8)
def ON (l:List ByteArray):Bool:=l.all szB&&decide l.Nodup
def W9 (n:Int) (l:List ByteArray):Bool:=(MH n&&decide (l.length≤400))&&ON l
theorem XJ {l:List ByteArray} {i:Nat} (hi:i<l.length):ON (l.take (i+1))=true↔ON (l.take i)=true∧szB l[i]=true∧l[i]∉l.take i:=by
 rw [List.take_succ_eq_append_getElem hi]
 simp only [ON,Bool.and_eq_true,decide_eq_true_eq,List.all_append,List.all_cons,List.all_nil,Bool.and_true,List.nodup_append,List.nodup_cons,List.not_mem_nil,not_false_eq_true,List.nodup_nil,and_true,true_and,List.mem_singleton]
 constructor
 ·rintro ⟨⟨h1,h2⟩,h3,h4⟩
  exact ⟨⟨h1,h3⟩,h2,fun hm=>h4 _ hm _ rfl rfl⟩
 ·rintro ⟨⟨h1,h2⟩,h3,h4⟩
  exact ⟨⟨h1,h3⟩,h2,fun a ha b hb he=>h4 (by rw [←hb, ←he];exact ha)⟩
theorem aR {l:List ByteArray} {i:Nat} (hi:i<l.length) (h:szB l[i]=false∨l[i]∈l.take i):ON l=false:=by
 cases hg:ON l
 ·rfl
 ·exfalso
  have:ON (l.take (i+1))=true:=by
   simp only [ON,Bool.and_eq_true,decide_eq_true_eq] at hg ⊢
   refine ⟨?_,hg.2.sublist (List.take_sublist _ _)⟩
   rw [List.all_eq_true] at hg ⊢
   exact fun x hx=>hg.1 x (List.mem_of_mem_take hx)
  obtain ⟨_,h1,h2⟩:=(XJ hi).1 this
  rcases h with h | h
  ·rw [h] at h1;cases h1
  ·exact h2 h
theorem YL {w0:World} {n:Int} {l:List ByteArray} {K:J2} (hl:(l.length:Int)<2^62) (h:K [.bool (W9 n l)] []):cl2 ⟨Tryz.prog,w0⟩ 133 GV.sg [I n] [tS l] K:=by
 refine GV.cl2 ?_
 unfold GV.txt
 simp only [AH]
 refine A9 (fun i=>[iv i,I n]) (fun _=>[]) l.length (fun i=>ON (l.take i)=true) rfl rfl (by simp [ON]) (fun R i hi hP hR=> ?_)
 refine L6 (AG (fun hlt=> ?_) fun hge=> ?_)
 ·refine AW hlt (U5 hlt (CJ (FJ (b:=8) (AG (fun hb=> ?_) fun hb=> ?_))))
  ·have:ON l=false:=aR hlt (.inl (by simp [szB];omega))
   rw [W9,this,Bool.and_false] at h;exact h
  ·have hs:szB l[i]=true:=by simp [szB];omega
   refine A9 (fun j=>[iv i,iv j,I n]) (fun _=>[]) i (fun j=>l[i]∉l.take j) rfl rfl (by simp) (fun R2 j hj hP2 hR2=> ?_)
   refine L6 (AG (fun hlt2=> ?_) fun hge2=> ?_)
   ·have hjl:j<l.length:=by omega
    refine AW hjl (U5 hjl (AW hlt (U5 hlt (V0 (aC (fun he=> ?_) fun hne=> ?_)))))
    ·have:ON l=false:=aR hlt (.inr (by rw [←he];exact List.mem_take_iff_getElem.2 ⟨j,by omega,rfl⟩))
     rw [W9,this,Bool.and_false] at h;exact h
    ·exact A6 (by omega) (hR2 hlt2 (UR hjl hP2 hne))
   ·have:j=i:=by omega
    subst this
    exact A6 (by omega) (hR hlt ((XJ hlt).2 ⟨hP,hs,hP2⟩))
 ·have:i=l.length:=by omega
  subst this
  rw [List.take_length] at hP
  refine H7 (IJ (IJ (IJ (NS (fun _ K hk=>fJ (b:=400) hk) ?_))))
  rw [W9,hP,Bool.and_true] at h;exact h
theorem bQ {n i:Nat} (hi:i≤n) {K:Value→Value→Prop} (h:K (iv 0) (iv i)):scW n none (some (iv i)) K:=
 ⟨0,i,rfl,by simp [bnd,iv],Nat.zero_le _,hi,h⟩
theorem Cq {a b:Bool} {x:Value} {m1:(Value→Prop)→Prop} {m2:Value→(Value→Prop)→Prop} {K:Value→Prop} (h1:a=false→ ∀K:Value→Prop,K x→m1 K) (h2:a=false→ ∀K:Value→Prop,K (.bool b)→m2 x K) (h:K (.bool (a||b))):
  gP (.bool a) false m1 fun x=>gE (.bool a) (gP (.bool a) false (m2 x) fun t=>prP (pk (.bool a) (.bool true) t) K):=by
 cases a
 ·exact .inl ⟨rfl,h1 rfl _ (IJ (.inl ⟨rfl,h2 rfl _ (BL rfl (by simpa using h))⟩))⟩
 ·exact .inr ⟨.inl rfl,IJ (.inr ⟨.inl rfl,BL rfl h⟩)⟩
theorem hC {w0:World} {n:Int} {l:List ByteArray} {K:J2} (hl:(l.length:Int)<2^62) (h:K [.bool (W9 n l)] []):cl2 ⟨Tryz.prog,w0⟩ 89 JW.sg [I n] [tS l] K:=by
 refine JW.cl2 ?_
 unfold JW.txt
 simp only [AH]
 refine A9 (fun i=>[iv l.length,iv i,I n]) (fun _=>[]) l.length (fun i=>ON (l.take i)=true) rfl rfl (by simp [ON]) (fun R i hi hP hR=> ?_)
 refine L6 (AG (fun hlt=> ?_) fun hge=> ?_)
 ·refine AW hlt (U5 hlt (CJ (FJ (b:=8) (IJ (IJ (IJ (Cq (x:=two (iv 0) (iv i)) (b:=decide (l[i]∈l.take i)) (fun _ K hk=>bQ hi hk) (fun _ K hk=> ?_) ?_)))))))
  ·have e:I9 (tS l) [] (AA (VD (two (iv 0) (iv i)))*1) (AA (V9 (two (iv 0) (iv i)))*1)=tS (l.take i):=by
    have h1:AA (VD (two (iv 0) (iv i)))=0:=rfl
    have h2:AA (V9 (two (iv 0) (iv i)))=i:=A8 i
    rw [h1,h2];simp [I9,node,tS,List.map_take]
   rw [e]
   exact SR (by simp;omega) hk
  ·refine JJ (fun hb=> ?_) fun hb=> ?_
   ·have:ON l=false:=aR hlt (by
     rw [Bool.or_eq_true,decide_eq_true_eq,decide_eq_true_eq] at hb
     exact hb.imp (fun h=>by simp [szB];omega) id)
    rw [W9,this,Bool.and_false] at h;exact h
   ·rw [Bool.or_eq_false_iff,decide_eq_false_iff_not,decide_eq_false_iff_not] at hb
    exact A6 (by omega) (hR hlt ((XJ hlt).2 ⟨hP,by simp [szB];omega,hb.2⟩))
 ·have:i=l.length:=by omega
  subst this
  rw [List.take_length] at hP
  refine JQ (IJ (IJ (IJ (NS (fun _ K hk=>fJ (b:=400) hk) ?_))))
  rw [W9,hP,Bool.and_true] at h;exact h
def SD (l:List ByteArray) (s:ByteArray):ByteArray:=if s∈l then V (at_ l s+1) else V 0++ST s
def cJ (l:List ByteArray) (s:ByteArray):List ByteArray:=if s∈l then l else l++[s]
theorem aG {w0:World} {n:Value} {l:List ByteArray} {s:ByteArray} {K:J2} (hl:l.length<2^40) (h:K [.string (SD l s),n] [tS (cJ l s)]):cl2 ⟨Tryz.prog,w0⟩ 134 HX.sg [n, .string s] [tS l] K:=by
 refine HX.cl2 ?_
 unfold HX.txt
 simp only [AH,List.nil_append]
 refine VO (RG l) (by simp [cnt];omega) ?_
 refine A9 (fun i=>[.string s,iv i,n, .int .i64 0,n]) (fun _=>[tS l]) l.length (fun i=>s∉l.take i) rfl rfl (by simp) (fun R i hi hP hR=> ?_)
 refine L6 (AG (fun hlt=> ?_) fun hge=> ?_)
 ·refine AW hlt (U5 hlt (V0 (aC (fun he=> ?_) fun hne=> ?_)))
  ·have hm:s∈l:=he ▸ List.getElem_mem hlt
   rw [SD,cJ,if_pos hm,if_pos hm,pR hlt hP he] at h
   refine A6 (by omega) (KF (n:=Int.ofNat (i+1)) ⟨by simp only [Int.ofNat_eq_natCast];omega,by simp only [Int.ofNat_eq_natCast];omega⟩ ?_)
   exact h
  ·exact A6 (by omega) (hR hlt (UR hlt hP hne))
 ·have:i=l.length:=by omega
  subst this
  rw [List.take_length] at hP
  rw [SD,cJ,if_neg hP,if_neg hP] at h
  have hc:cnt 1 (nxc [tS l] 0)=l.length:=AH l
  rw [hc]
  have h1:=IK 0
  have h2:=fN s
  refine VO rfl (by simp [cnt];omega) (KF ⟨by omega,by omega⟩ (X8 (CB (by omega) ?_)))
  have e:nxc [tS l] 0++[T.c (nx [.string s,iv l.length,n, .int .i64 0,n] 0)]=tS (l++[s]):=by simp [tS,nxc,nx]
  rw [e];exact h
end Go.Proofs.YtnhicpkhkaihoaaGreat.P
namespace Go.Proofs.YtnhicpkhkaihoaaGreat.P
open Go Go.Proofs.YtnhicpkhkaihoaaGreat Go.Proofs.YtnhicpkhkaihoaaGreat.Eng
set_option maxHeartbeats 4000000
set_option linter.unusedVariables false
set_option linter.unusedSimpArgs false
attribute [local irreducible] prP gP gE gF AU ixW ldc ldg ldl stc stg scW mkW apW BG cl2 BX GP CZ
variable {w0:World}
theorem qE {a:List A7} {i:Nat} (hi:i<a.length):tR tO (a.take i)++[T.c (.bool (ob a i).live), .c (I (ob a i).gen), .c (I (ob a i).site), .c (I (ob a i).holds), .c (I (ob a i).roots), .c (I (ob a i).count), .l 1 (tI (ob a i).field), .c (.bool (ob a i).purple)]=tR tO (a.take (i+1)):=by
 rw [List.take_succ_eq_append_getElem hi,EG hi]
 exact p9 _ (ob a i)
theorem RL {h:Hp} {K:J2} (hf:Fits h) (hk:K [] (trees h)):cl2 ⟨Tryz.prog,w0⟩ 83 EO.sg [] (trees h) K:=by
 obtain ⟨a,b,c,d⟩:=h
 have g1:=hf.ol;have g2:=hf.wl;have g3:=hf.sl;have g4:=hf.bl
 simp only at g1 g2 g3 g4
 refine EO.cl2 ?_
 unfold EO.txt
 simp only [AK,AS,AJ,AI,AM,AE,AH,AN,AO,AP,AL,AR,AT,AQ,BB,BE,BI,BH,BK,BJ,BF,AX,A4,AY,A1,AZ,A5]
 refine DP (fD _) (by omega) (J6 (by omega) (WS (by omega) ?_))
 refine A9 (fun i=>[iv a.length,iv i]) (fun i=>[tR tO (a.take i),tR tW b,tI c,tS d]) a.length (fun _=>True) rfl rfl trivial (fun R i hi hP hR=> ?_)
 simp only [AK,AS,AJ,AI,AM,AE,AH,AN,AO,AP,AL,AR,AT,AQ,BB,BE,BI,BH,BK,BJ,BF,AX,A4,AY,A1,AZ,A5]
 refine AV (AG (fun hlt=> ?_) fun hge=> ?_)
 ·have hlt:i<a.length:=by omega
  have hfo:((ob a i).field.length:Int)≤1048576:=Ax (l:=a) hf.of hlt
  have hln:(a.take i).length=i:=by simp;omega
  replace hR:=hR hlt trivial
  refine AW hlt (OM hlt ?_)
  rw [I5 hlt]
  refine J6 (by omega) (X2 (by rw [hln];omega) (A6 (by omega) ?_))
  rw [←qE hlt] at hR
  exact hR
 ·have:i=a.length:=by omega
  subst this
  rw [List.take_length];exact hk
theorem M4 {h:Hp} {K:J2} (hf:Fits h) (hk:K [] (trees h)):cl2 ⟨Tryz.prog,w0⟩ 103 DW.sg [] (trees h) K:=by
 obtain ⟨a,b,c,d⟩:=h
 have g1:=hf.ol;have g2:=hf.wl;have g3:=hf.sl;have g4:=hf.bl
 simp only at g1 g2 g3 g4
 refine DW.cl2 ?_
 unfold DW.txt
 simp only [AK,AS,AJ,AI,AM,AE,AH,AN,AO,AP,AL,AR,AT,AQ,BB,BE,BI,BH,BK,BJ,BF,AX,A4,AY,A1,AZ,A5]
 refine DP (fD _) (by simp only [cnt,List.length_nil];omega) (DP (PQ _) (by omega) (DP (RG _) (by omega) ?_))
 refine A9 (fun i=>[iv i]) (fun i=>[tR tO (a.take i),tR tW b,tI c,tS d]) a.length (fun _=>True) rfl rfl trivial (fun R i hi hP hR=> ?_)
 simp only [AK,AS,AJ,AI,AM,AE,AH,AN,AO,AP,AL,AR,AT,AQ,BB,BE,BI,BH,BK,BJ,BF,AX,A4,AY,A1,AZ,A5]
 refine AV (AG (fun hlt=> ?_) fun hge=> ?_)
 ·have hlt:i<a.length:=by omega
  have hfo:((ob a i).field.length:Int)≤1048576:=Ax (l:=a) hf.of hlt
  have hln:(a.take i).length=i:=by simp;omega
  replace hR:=hR hlt trivial
  refine AW hlt (OM hlt ?_)
  rw [I5 hlt]
  refine DP (PQ _) (by first | omega | (simp only [AK,AS,AJ,AI,AM,AE,AH,AN,AO,AP,AL,AR,AT,AQ,BB,BE,BI,BH,BK,BJ,BF,AX,A4,AY,A1,AZ,A5];omega)) (X2 (by rw [hln];omega) (A6 (by omega) ?_))
  rw [←qE hlt] at hR
  exact hR
 ·have:i=a.length:=by omega
  subst this
  rw [List.take_length];exact hk
structure NB (l:List ByteArray):Prop where
 len:l.length≤6
 sz: ∀i,i<l.length→1≤((gS l i).size:Int)∧((gS l i).size:Int)≤8
 one: ∀i,i<l.length→gS l i∉l.take i
theorem nD {l:List ByteArray} {i:Nat} {x:ByteArray} (hi:i<l.length) (h:x∉l.take i) (hn:gS l i≠x):x∉l.take (i+1):=by
 rw [List.take_succ_eq_append_getElem hi,O0 hi]
 simp only [List.mem_append,List.mem_singleton,not_or]
 exact ⟨h,fun he=>hn he.symm⟩
theorem Z0 {l:List ByteArray} {K:J2} (hl:(l.length:Int)<2^62) (h1:NB l→K [.bool true] []) (h2: ¬NB l→K [.bool false] []):cl2 ⟨Tryz.prog,w0⟩ 145 HS.sg [] [tS l] K:=by
 refine HS.cl2 ?_
 unfold HS.txt
 simp only [AK,AS,AJ,AI,AM,AE,AH,AN,AO,AP,AL,AR,AT,AQ,BB,BE,BI,BH,BK,BJ,BF,AX,A4,AY,A1,AZ,A5]
 refine A9 (fun i=>[iv l.length,iv i]) (fun _=>[]) l.length (fun i=> ∀k,k<i→(1≤((gS l k).size:Int)∧((gS l k).size:Int)≤8)∧gS l k∉l.take k) rfl rfl (fun k hk=>by omega) (fun R i hi hP hR=> ?_)
 simp only [AK,AS,AJ,AI,AM,AE,AH,AN,AO,AP,AL,AR,AT,AQ,BB,BE,BI,BH,BK,BJ,BF,AX,A4,AY,A1,AZ,A5]
 refine AV (AG (fun hlt=> ?_) fun hge=> ?_)
 ·have hlt:i<l.length:=by omega
  refine AW hlt (ldS hlt (CJ (GA (CP (BM (BM (F5 (fun hb=> ?_) fun hb=> ?_)))))))
  ·refine bQ (by omega) (BM (EP hb ?_))
   have e:I9 (tS l) [] (AA (VD (two (iv 0) (iv i)))*1) (AA (V9 (two (iv 0) (iv i)))*1)=tS (l.take i):=by
    have h1:AA (VD (two (iv 0) (iv i)))=0:=rfl
    have h2:AA (V9 (two (iv 0) (iv i)))=i:=A8 i
    rw [h1,h2];simp [I9,node,tS,List.map_take]
   rw [e]
   refine SR (by simp;omega) (CD hb rfl (AG (fun hm=>h2 fun hk=>hk.one i hlt hm) fun hm=> ?_))
   refine A6 (by omega) (hR hlt fun k hk=> ?_)
   rcases Nat.lt_succ_iff_lt_or_eq.1 hk with h3 | rfl
   ·exact hP k h3
   ·exact ⟨Decidable.not_not.1 hb,hm⟩
  ·exact BM (I8 hb (CI hb rfl (BP (h2 fun hk=>hb (hk.sz i hlt)))))
 ·have:i=l.length:=by omega
  subst this
  refine DV ?_
  by_cases h6:(l.length:Int)≤6
  ·rw [decide_eq_true h6]
   exact h1 ⟨by omega,fun i hi=>(hP i hi).1,fun i hi=>(hP i hi).2⟩
  ·rw [decide_eq_false h6]
   exact h2 fun hk=>by have:=hk.len;omega
structure QR (h:Hp) (i:Nat):Prop where
 gen:0≤(ob h.BD i).gen∧(ob h.BD i).gen≤999
 len:(ob h.BD i).field.length=3
 lead: ∀j,j<3→gI (ob h.BD i).field j≠ -1→(ob h.BD i).live=true∧0≤AD h.BD (gI (ob h.BD i).field j)
 dead:(ob h.BD i).live=false→(ob h.BD i).site=0∧(ob h.BD i).holds=0∧(ob h.BD i).roots=0∧(ob h.BD i).count=0∧(ob h.BD i).purple=false
 lv:(ob h.BD i).live=true→1≤(ob h.BD i).gen∧(0≤(ob h.BD i).site∧(ob h.BD i).site≤(h.sites.length:Int)-1)∧(0≤(ob h.BD i).holds∧(ob h.BD i).holds≤20)∧(0≤(ob h.BD i).roots∧(ob h.BD i).roots≤20)∧
  (ob h.BD i).count=(ob h.BD i).holds+(ob h.BD i).roots+inE h.BD i∧1≤(ob h.BD i).count∧(ob h.BD i).purple=decide (C8 i (ob h.BD i).gen∈h.buffer)
structure DU (h:Hp):Prop where
 ol:h.BD.length=8
 wl:h.B8.length=8
 sites:NB h.sites
 obj: ∀i,i<8→QR h i
 weak: ∀i,i<8→((wk h.B8 i).used=false→(wk h.B8 i).target=0)∧((wk h.B8 i).used=true→8≤(wk h.B8 i).target∧(wk h.B8 i).target≤7999)
 buf: ∀i,i<h.buffer.length→0≤AD h.BD (gI h.buffer i)∧gI h.buffer i∉h.buffer.take i
theorem Au {l:List Int} {P:Int→Prop} (h0:P 0) (h: ∀x∈l,P x) (i:Nat):P (gI l i):=by
 by_cases hi:i<l.length
 ·rw [←GD hi];exact h _ (List.getElem_mem hi)
 ·unfold gI;rw [List.getD_eq_getElem?_getD,List.getElem?_eq_none (by omega)];exact h0
theorem ZK:F64 0:=⟨by omega,by omega⟩
theorem VN.ob {h:Hp} (hn:VN h) (i:Nat):F64 (ob h.BD i).gen∧F64 (ob h.BD i).site∧F64 (ob h.BD i).holds∧F64 (ob h.BD i).roots∧F64 (ob h.BD i).count∧ ∀f∈(ob h.BD i).field,F64 f:=by
 by_cases hi:i<h.BD.length
 ·rw [←EG hi];exact hn.obj _ (List.getElem_mem hi)
 ·unfold Eng.ob;rw [List.getD_eq_getElem?_getD,List.getElem?_eq_none (by omega)]
  exact ⟨ZK,ZK,ZK,ZK,ZK,fun f hf=>by simp at hf⟩
theorem VN.fld {h:Hp} (hn:VN h) (i j:Nat):F64 (gI (Eng.ob h.BD i).field j):=Au ZK (hn.ob i).2.2.2.2.2 j
theorem VN.bf {h:Hp} (hn:VN h) (i:Nat):F64 (gI h.buffer i):=Au ZK hn.buf i
theorem w6 {l:List A7} (hl:(l.length:Int)≤1048576) (hf: ∀o∈l,(o.field.length:Int)≤1048576) (s:Int):0≤inE l s∧inE l s≤2^40:=by
 rw [inE];split
 ·have he:=QA (l:=l) (id:=C8 s (ob l s.toNat).gen) (b:=1048576) fun o ho=>by have:=hf o ho;omega
  have hmul:l.length*1048576≤1048576*1048576:=Nat.mul_le_mul_right _ (by omega)
  omega
 ·omega
theorem gH {h:Hp} {i:Nat} {K:J2} (hf:Fits h) (hn:VN h) (hi:i<h.BD.length) (h1:QR h i→K [.bool true] []) (h2: ¬QR h i→K [.bool false] []):cl2 ⟨Tryz.prog,w0⟩ 146 JZ.sg [I i] (trees h) K:=by
 have g1:=hf.ol;have g3:=hf.sl;have g4:=hf.bl
 refine JZ.cl2 ?_
 unfold JZ.txt
 simp only [AK,AS,AJ,AI,AM,AE,AH,AN,AO,AP,AL,AR,AT,AQ,BB,BE,BI,BH,BK,BJ,BF,AX,A4,AY,A1,AZ,A5]
 refine AW hi (OM hi ?_)
 rw [I5 hi,AE]
 have hfo:=iF hf.of i
 have hnum:=hn.ob i
 obtain ⟨⟨n1,n2⟩,⟨n3,n4⟩,_,_,⟨n5,n6⟩,_⟩:=hnum
 have hib:=w6 hf.ol hf.of i
 refine GA (CP (BM (BM (BM (F5 (fun hg=> ?_) fun hg=> ?_)))))
 rotate_left
 ·exact CI hg rfl (BP (h2 fun hk=>hg hk.gen))
 refine B9 (CD hg rfl (AG (fun h3=>h2 fun hk=>by have:=hk.len;omega) fun h3=> ?_))
 have hl3:(ob h.BD i).field.length=3:=by omega
 have hg:0≤(ob h.BD i).gen∧(ob h.BD i).gen≤999:=Decidable.not_not.1 hg
 rw [hl3]
 refine A9 (fun j=>[iv i,iv (AA (iv i)*8+6),iv 3,iv j, .bool (ob h.BD i).live,I (ob h.BD i).gen,I (ob h.BD i).site,I (ob h.BD i).holds,I (ob h.BD i).roots,I (ob h.BD i).count,iv (AA (iv i)*8+6), .bool (ob h.BD i).purple]) (fun _=>[]) 3 (fun j=> ∀k,k<j→gI (ob h.BD i).field k≠ -1→(ob h.BD i).live=true∧0≤AD h.BD (gI (ob h.BD i).field k)) rfl rfl (fun k hk=>by omega) (fun R j hj hP hR=> ?_)
 simp only [AK,AS,AJ,AI,AM,AE,AH,AN,AO,AP,AL,AR,AT,AQ,BB,BE,BI,BH,BK,BJ,BF,AX,A4,AY,A1,AZ,A5]
 rw [A8 (AA (iv i)*8+6),I5 hi,AE,hl3]
 refine AV (AG (fun hlt=> ?_) fun hge=> ?_)
 ·have hlt:j<3:=by omega
  refine AW hlt (OL hi (by omega) ?_)
  repeat' (first | refine DC (hn.fld i j) (by omega) ?_ | refine BM ?_ | refine RT ?_ | refine vI ?_ | refine Ba (by first | with_reducible assumption | omega) ?_ | refine Dw (by first | with_reducible assumption | omega) ?_ | refine IF (by first | with_reducible assumption | omega) ?_ | refine LP (by first | with_reducible assumption | omega) ?_ | refine S4 (by with_reducible assumption) ?_ | refine gU (by with_reducible assumption) ?_ | refine rC (by with_reducible assumption) rfl ?_ | refine vT (by with_reducible assumption) rfl ?_ | refine CI (by first | with_reducible assumption | omega) rfl ?_ | refine CD (by first | with_reducible assumption | omega) rfl ?_ | refine BP ?_ | refine BT ?_ | refine AV ?_ | refine B9 ?_ | refine A6 (by omega) ?_ | refine AG (fun _=> ?_) (fun _=> ?_) | refine IG (fun _=> ?_) (fun _=> ?_) | refine oZ (fun _=> ?_) (fun _=> ?_) | refine BU ?_)
  all_goals first
   | (refine hR hlt fun k hk hne=> ?_
      rcases Nat.lt_succ_iff_lt_or_eq.1 hk with h4 | rfl
      ·exact hP k h4 hne
      ·first
       | exact absurd hne (by assumption)
       | exact ⟨by simp_all,by omega⟩)
   | (refine h2 fun hk=> ?_
      have h4:=hk.lead j hlt (by assumption)
      first
       | omega
       | simp_all)
 ·have hj3:j=3:=by omega
  subst hj3
  cases hv:(ob h.BD i).live with
  | false=>
    have mk:(ob h.BD i).site=0→(ob h.BD i).holds=0→(ob h.BD i).roots=0→(ob h.BD i).count=0→(ob h.BD i).purple=false→QR h i:=fun a b c d e=>⟨hg,hl3,hP,fun _=>⟨a,b,c,d,e⟩,fun hh=>by rw [hv] at hh;cases hh⟩
    refine BU (BP ?_)
    cases hpu:(ob h.BD i).purple
    ·repeat' (first | refine BM ?_ | refine NF ?_ | refine CI (by first | with_reducible assumption | omega) rfl ?_ | refine CD (by first | with_reducible assumption | omega) rfl ?_ | refine VA rfl ?_ | refine BA ?_ | refine IG (fun _=> ?_) (fun _=> ?_) | refine BU ?_)
     all_goals first
      | exact h1 (mk (by assumption) (by assumption) (by assumption) (by assumption) hpu)
      | (refine h2 fun hk=> ?_
         have h4:=hk.dead hv
         omega)
    ·repeat' (first | refine BM ?_ | refine NF ?_ | refine CI (by first | with_reducible assumption | omega) rfl ?_ | refine CD (by first | with_reducible assumption | omega) rfl ?_ | refine VA rfl ?_ | refine BA ?_ | refine IG (fun _=> ?_) (fun _=> ?_) | refine BU ?_)
     all_goals
      refine h2 fun hk=> ?_
      have h4:=hk.dead hv
      rw [hpu] at h4
      first
       | omega
       | exact absurd h4.2.2.2.2 (by decide)
  | true=>
    refine BU (BT ?_)
    have fin:1≤(ob h.BD i).gen→(0≤(ob h.BD i).site∧(ob h.BD i).site≤(h.sites.length:Int)-1)→(0≤(ob h.BD i).holds∧(ob h.BD i).holds≤20)→(0≤(ob h.BD i).roots∧(ob h.BD i).roots≤20)→(ob h.BD i).count=(ob h.BD i).holds+(ob h.BD i).roots+inE h.BD i→1≤(ob h.BD i).count→K [.bool (decide ((ob h.BD i).purple=decide (C8 i (ob h.BD i).gen∈h.buffer)))] []:=fun a b c d e f=>by
     by_cases hp:(ob h.BD i).purple=decide (C8 i (ob h.BD i).gen∈h.buffer)
     ·rw [decide_eq_true hp]
      exact h1 ⟨hg,hl3,hP,fun hh=>(by rw [hv] at hh;cases hh),fun _=>⟨a,b,c,d,e,f,hp⟩⟩
     ·rw [decide_eq_false hp]
      exact h2 fun hk=>hp (hk.lv hv).2.2.2.2.2.2
    have no: ∀{P:Prop}, ¬P→(QR h i→P)→K [.bool false] []:=fun hp hi=>h2 fun hk=>hp (hi hk)
    repeat' (first | refine GA ?_ | refine SS ⟨by omega,by omega⟩ (by omega) hf.of ?_ | refine NI ?_ | refine UH (by omega) ?_ | refine BM ?_ | refine NF ?_ | refine IF (by first | with_reducible assumption | omega) ?_ | refine LP (by first | with_reducible assumption | omega) ?_ | refine CI (by first | with_reducible assumption | omega) rfl ?_ | refine CD (by first | with_reducible assumption | omega) rfl ?_ | refine VA rfl ?_ | refine DV ?_ | refine BA ?_ | refine B3 ⟨by omega,by omega⟩ ?_ | refine DO ⟨by omega,by omega⟩ ?_ | refine qI ?_ | refine IG (fun _=> ?_) (fun _=> ?_))
    all_goals first
     | exact fin (by assumption) (by assumption) (by assumption) (by assumption) (by assumption) (by assumption)
     | (refine h2 fun hk=> ?_
        have h4:=hk.lv hv
        omega)
end Go.Proofs.YtnhicpkhkaihoaaGreat.P
namespace Go.Proofs.YtnhicpkhkaihoaaGreat.P
open Go Go.Proofs.YtnhicpkhkaihoaaGreat Go.Proofs.YtnhicpkhkaihoaaGreat.Eng
set_option maxHeartbeats 4000000
set_option linter.unusedVariables false
set_option linter.unusedSimpArgs false
attribute [local irreducible] prP gP gE gF AU ixW ldc ldg ldl stc stg scW mkW apW BG cl2 BX GP CZ
variable {w0:World}
theorem cI {h:Hp} {K:J2} (hf:Fits h) (hn:VN h) (h1:DU h→K [.bool true] []) (h2: ¬DU h→K [.bool false] []):cl2 ⟨Tryz.prog,w0⟩ 84 IU.sg [] (trees h) K:=by
 have g1:=hf.ol;have g2:=hf.wl;have g3:=hf.sl;have g4:=hf.bl
 refine IU.cl2 ?_
 unfold IU.txt
 simp only [AK,AS,AJ,AI,AM,AE,AH,AN,AO,AP,AL,AR,AT,AQ,BB,BE,BI,BH,BK,BJ,BF,AX,A4,AY,A1,AZ,A5]
 refine B9 (BM (BM (BM (F5 (fun ho=> ?_) fun ho=> ?_))))
 rotate_left
 ·refine CI ho rfl (BM (BM (NH (NH (RF rfl (BP (h2 fun hk=>ho (by have:=hk.ol;omega))))))))
 refine B9 (CD ho rfl (BM (BM (F5 (fun hw=> ?_) fun hw=> ?_))))
 rotate_left
 ·exact I8 hw (CI hw rfl (BP (h2 fun hk=>hw (by have:=hk.wl;omega))))
 refine Z0 (by omega) (fun hs=> ?_) fun hs=> ?_
 rotate_left
 ·exact EP hw (BU (CD hw rfl (BP (h2 fun hk=>hs hk.sites))))
 refine EP hw (BU (CD hw rfl (BT ?_)))
 have o8:h.BD.length=8:=by omega
 have w8:h.B8.length=8:=by omega
 refine A9 (fun i=>[iv h.BD.length,iv i]) (fun _=>[]) h.BD.length (fun i=> ∀k,k<i→QR h k) rfl rfl (fun k hk=>by omega) (fun R i hi hP hR=> ?_)
 refine AV (AG (fun hlt=> ?_) fun hge=> ?_)
 ·have hlt:i<h.BD.length:=by omega
  refine gH hf hn hlt (fun hk=>BU (BT (A6 (by omega) (hR hlt fun k hki=> ?_)))) fun hk=>BU (BP (h2 fun hh=>hk (hh.obj i (by omega))))
  rcases Nat.lt_succ_iff_lt_or_eq.1 hki with h4 | rfl
  ·exact hP k h4
  ·exact hk
 have hi8:i=8:=by omega
 subst hi8
 refine A9 (fun i=>[iv h.B8.length,iv i]) (fun _=>[]) h.B8.length (fun i=> ∀k,k<i→((wk h.B8 k).used=false→(wk h.B8 k).target=0)∧((wk h.B8 k).used=true→8≤(wk h.B8 k).target∧(wk h.B8 k).target≤7999)) rfl rfl (fun k hk=>by omega) (fun R2 i hi hP2 hR2=> ?_)
 refine AV (AG (fun hlt=> ?_) fun hge=> ?_)
 ·have hlt:i<h.B8.length:=by omega
  refine AW hlt (ZO hlt ?_)
  have stepR:=fun hk=>hR2 hlt fun k hki=>(Nat.lt_succ_iff_lt_or_eq.1 hki).elim (hP2 k) fun he=>he ▸ hk
  cases hu:(wk h.B8 i).used with
  | false=>
    refine BU ?_
    repeat' (first | refine BM ?_ | refine RT ?_ | refine bE ?_ | refine S9 (by first | with_reducible assumption | omega) ?_ | refine XH (by first | with_reducible assumption | omega) ?_ | refine NV ?_ | refine I8 (by first | with_reducible assumption | omega) ?_ | refine EP (by first | with_reducible assumption | omega) ?_ | refine yE (by with_reducible assumption) ?_ | refine rC (by with_reducible assumption) rfl ?_ | refine vT (by with_reducible assumption) rfl ?_ | refine CI (by first | with_reducible assumption | omega) rfl ?_ | refine CD (by first | with_reducible assumption | omega) rfl ?_ | refine VA rfl ?_ | refine BP ?_ | refine BT ?_ | refine B9 ?_ | refine A6 (by omega) ?_ | refine mF (fun _=> ?_) (fun _=> ?_) | refine tZ (fun _=> ?_) (fun _=> ?_) | simp only [AK,AS,AJ,AI,AM,AE,AH,AN,AO,AP,AL,AR,AT,AQ,BB,BE,BI,BH,BK,BJ,BF,AX,A4,AY,A1,AZ,A5])
    all_goals first
     | (refine stepR ⟨fun _=> ?_,fun hh=>(by rw [hu] at hh;cases hh)⟩
        first
         | omega
         | (simp_all;done))
     | (refine h2 fun hk=> ?_
        have h4:=(hk.weak i (by omega)).1 hu
        first
         | omega
         | (simp_all;done))
  | true=>
    refine BU ?_
    repeat' (first | refine GA ?_ | refine BM ?_ | refine RT ?_ | refine bE ?_ | refine S9 (by first | with_reducible assumption | omega) ?_ | refine XH (by first | with_reducible assumption | omega) ?_ | refine NV ?_ | refine I8 (by first | with_reducible assumption | omega) ?_ | refine EP (by first | with_reducible assumption | omega) ?_ | refine S4 (by with_reducible assumption) ?_ | refine rC (by with_reducible assumption) rfl ?_ | refine vT (by with_reducible assumption) rfl ?_ | refine CI (by first | with_reducible assumption | omega) rfl ?_ | refine CD (by first | with_reducible assumption | omega) rfl ?_ | refine VA rfl ?_ | refine BP ?_ | refine CM (by first | with_reducible assumption | omega) ?_ | refine B9 ?_ | refine CP ?_ | refine A6 (by omega) ?_ | refine AG (fun _=> ?_) (fun _=> ?_) | refine mF (fun _=> ?_) (fun _=> ?_) | refine tZ (fun _=> ?_) (fun _=> ?_) | simp only [AK,AS,AJ,AI,AM,AE,AH,AN,AO,AP,AL,AR,AT,AQ,BB,BE,BI,BH,BK,BJ,BF,AX,A4,AY,A1,AZ,A5])
    all_goals first
     | (refine stepR ⟨fun hh=>(by rw [hu] at hh;cases hh),fun _=> ?_⟩
        first
         | omega
         | (simp_all;done))
     | (refine h2 fun hk=> ?_
        have h4:=(hk.weak i (by omega)).2 hu
        first
         | omega
         | (simp_all;done))
 have hi8:i=8:=by omega
 subst hi8
 refine A9 (fun i=>[iv h.buffer.length,iv i]) (fun _=>[]) h.buffer.length (fun i=> ∀k,k<i→0≤AD h.BD (gI h.buffer k)∧gI h.buffer k∉h.buffer.take k) rfl rfl (fun k hk=>by omega) (fun R3 i hi hP3 hR3=> ?_)
 simp only [AK,AS,AJ,AI,AM,AE,AH,AN,AO,AP,AL,AR,AT,AQ,BB,BE,BI,BH,BK,BJ,BF,AX,A4,AY,A1,AZ,A5]
 refine AV (AG (fun hlt=> ?_) fun hge=> ?_)
 ·have hlt:i<h.buffer.length:=by omega
  have e:I9 (tI h.buffer) [] (AA (VD (two (iv 0) (iv i)))*1) (AA (V9 (two (iv 0) (iv i)))*1)=tI (h.buffer.take i):=by
   have h1:AA (VD (two (iv 0) (iv i)))=0:=rfl
   have h2:AA (V9 (two (iv 0) (iv i)))=i:=A8 i
   rw [h1,h2];simp [I9,node,tI,List.map_take]
  refine AW hlt (ldI hlt (DC (hn.bf i) (by omega) (AV (BM (BM (BM (F5 (fun hb=> ?_) fun hb=> ?_)))))))
  ·refine bQ (by omega) (BM (EP hb ?_))
   rw [e]
   refine UH (by simp;omega) (CD hb rfl (AG (fun hm=>h2 fun hk=>(hk.buf i hlt).2 hm) fun hm=> ?_))
   refine A6 (by omega) (hR3 hlt fun k hk=> ?_)
   rcases Nat.lt_succ_iff_lt_or_eq.1 hk with h3 | rfl
   ·exact hP3 k h3
   ·exact ⟨by omega,hm⟩
  ·exact BM (I8 hb (CI hb rfl (BP (h2 fun hk=>by have:=(hk.buf i hlt).1;omega))))
 ·have hib:i=h.buffer.length:=by omega
  subst hib
  exact h1 ⟨o8,w8,hs,fun i hi=>hP i hi,fun i hi=>hP2 i hi,fun i hi=>hP3 i hi⟩
end Go.Proofs.YtnhicpkhkaihoaaGreat.P
namespace Go.Proofs.YtnhicpkhkaihoaaGreat.P
open Go Go.Proofs.YtnhicpkhkaihoaaGreat Go.Proofs.YtnhicpkhkaihoaaGreat.Eng
set_option linter.unusedVariables false
theorem Ak {n:Nat} (hn:1≤n) {K:Value→Value→Prop} (h:K (iv 1) (iv (n-1))):scW n (some (.int .i64 1)) none K:=⟨1,n,rfl,rfl,hn,Nat.le_refl _,h⟩
set_option maxHeartbeats 4000000
set_option linter.unusedVariables false
set_option linter.unusedSimpArgs false
attribute [local irreducible] prP gP gE gF AU ixW ldc ldg ldl stc stg scW mkW apW BG cl2 BX GP CZ
variable {w0:World}
def RN:List Int:=[-1, -1, -1]
def CT (g:Int):A7:=⟨false,g,0,0,0,0,RN,false⟩
def J3:Nat→List A7→List Int→List Int→List Int→List A7×List Int×List Int
 | 0,os,buf,freed,_=>(os,buf,freed)
 | f+1,os,buf,freed,todo=>match todo with
   | []=>(os,buf,freed)
   | id::todo=>if freed.length>8 then (os,buf,freed) else
     if AD os id<0 then J3 f os buf freed todo else
     if w64 ((ob os (AD os id).toNat).count-1)>0 then
      (if (ob os (AD os id).toNat).purple=true then J3 f (os.set (AD os id).toNat {ob os (AD os id).toNat with count:=w64 ((ob os (AD os id).toNat).count-1)}) buf freed todo
       else J3 f (os.set (AD os id).toNat {ob os (AD os id).toNat with count:=w64 ((ob os (AD os id).toNat).count-1),purple:=true}) (buf++[id]) freed todo)
     else J3 f (os.set (AD os id).toNat (CT (ob os (AD os id).toNat).gen)) (buf.filter fun x=>decide (x≠id)) (freed++[id]) (todo++(ob os (AD os id).toNat).field.filter fun x=>decide (0≤x))
def mu (freed todo:List Int):Nat:=todo.length+4*(9-freed.length)
def IQ (os:List A7) (buf ids:List Int):List A7×List Int×List Int:=J3 (ids.length+37) os buf [] ids
theorem BV {l:List A7} {id:Int} (h:0≤AD l id):l.length=8∧8≤id∧AD l id=id % 8∧(AD l id).toNat<8∧(ob l (AD l id).toNat).live=true∧(ob l (AD l id).toNat).gen=id/8:=by
 unfold AD at h ⊢
 split at h
 ·omega
 ·split at h
  ·rename_i h1 h2
   rw [if_neg h1,if_pos h2]
   exact ⟨by omega,by omega,rfl,by omega,h2.1,h2.2⟩
  ·omega
structure OF (o:A7):Prop where
 gen:F64 o.gen
 len:o.field.length=3
 fld: ∀f∈o.field,F64 f
theorem OF.free {g:Int} (h:F64 g):OF (CT g):=⟨h,rfl,by simp [CT,RN,F64]⟩
theorem JF {l:List A7} {P:A7→Prop} {i:Nat} {o:A7} (h: ∀x∈l,P x) (ho:P o): ∀x∈l.set i o,P x:=fun x hx=>(List.mem_or_eq_of_mem_set hx).elim (h x) fun he=>he ▸ ho
structure LsI (R:List A7×List Int×List Int) (M:Nat) (q:List A7×List Int×List Int×List Int×Nat):Prop where
 ol:q.1.length=8
 of: ∀o∈q.1,OF o
 fr:q.2.2.1.length≤9
 off:q.2.2.2.2≤q.2.2.2.1.length
 td: ∀x∈q.2.2.2.1.drop q.2.2.2.2,F64 x
 sz:q.2.1.length+mu q.2.2.1 (q.2.2.2.1.drop q.2.2.2.2)≤M
 go: ∃f,mu q.2.2.1 (q.2.2.2.1.drop q.2.2.2.2)<f∧J3 f q.1 q.2.1 q.2.2.1 (q.2.2.2.1.drop q.2.2.2.2)=R
theorem cD {l:List Int} {x:Int} {K:J2} (hl:(l.length:Int)≤2^40) (h:K [] [tI (l.filter fun y=>decide (y≠x))]):cl2 ⟨Tryz.prog,w0⟩ 189 HK.sg [I x] [tI l] K:=by
 refine HK.cl2 ?_
 unfold HK.txt
 simp only [AK,AS,AJ,AI,AM,AE,AH,AN,AO,AP,AL,AR,AT,AQ,BB,BE,BI,BH,BK,BJ,BF,AX,A4,AY,A1,AZ,A5]
 refine A9 (fun i=>[I x,iv l.length,iv i]) (fun i=>[tI ((l.take i).filter fun y=>decide (y≠x))]) l.length (fun _=>True) rfl rfl trivial (fun R i hi _ hR=> ?_)
 have hln:=List.length_filter_le (fun y=>decide (y≠x)) (l.take i)
 have hlt2:(l.take i).length≤i:=by simp;omega
 simp only [AK,AS,AJ,AI,AM,AE,AH,AN,AO,AP,AL,AR,AT,AQ,BB,BE,BI,BH,BK,BJ,BF,AX,A4,AY,A1,AZ,A5]
 refine AV (AG (fun hlt=> ?_) fun hge=> ?_)
 ·have hlt:i<l.length:=by omega
  replace hR:=hR hlt trivial
  rw [List.take_succ_eq_append_getElem hlt,List.filter_append,GD hlt] at hR
  refine BS (AW hlt (ldI hlt (B9 (AG (fun he=> ?_) fun he=> ?_))))
  ·refine DP rfl (by omega) (A6 (by omega) ?_)
   have e:([gI l i].filter fun y=>decide (y≠x))=[gI l i]:=by simp [he]
   rw [e, ←E9] at hR;exact hR
  ·refine A6 (by omega) ?_
   have e:([gI l i].filter fun y=>decide (y≠x))=[]:=by simp at he;simp [he]
   rw [e,List.append_nil] at hR;exact hR
 ·have:i=l.length:=by omega
  subst this
  rw [List.take_length];exact h
theorem XM {l:List Int} {x:Int} {K:J2} (hl:(l.length:Int)≤2^40) (h:K [] [tI (l.filter fun y=>decide (y≠x))]):cl2 ⟨Tryz.prog,w0⟩ 184 FR.sg [I x] [tI l] K:=by
 refine FR.cl2 ?_
 unfold FR.txt
 simp only [AK,AS,AJ,AI,AM,AE,AH,AN,AO,AP,AL,AR,AT,AQ,BB,BE,BI,BH,BK,BJ,BF,AX,A4,AY,A1,AZ,A5]
 refine A9 (fun i=>[I x,iv i]) (fun i=>[tI ((l.take i).filter fun y=>decide (y≠x))]) l.length (fun _=>True) rfl rfl trivial (fun R i hi _ hR=> ?_)
 have hln:=List.length_filter_le (fun y=>decide (y≠x)) (l.take i)
 have hlt2:(l.take i).length≤i:=by simp;omega
 simp only [AK,AS,AJ,AI,AM,AE,AH,AN,AO,AP,AL,AR,AT,AQ,BB,BE,BI,BH,BK,BJ,BF,AX,A4,AY,A1,AZ,A5]
 refine AV (AG (fun hlt=> ?_) fun hge=> ?_)
 ·have hlt:i<l.length:=by omega
  replace hR:=hR hlt trivial
  rw [List.take_succ_eq_append_getElem hlt,List.filter_append,GD hlt] at hR
  refine BS (AW hlt (ldI hlt (B9 (AG (fun he=> ?_) fun he=> ?_))))
  ·refine AW hlt (ldI hlt (DP rfl (by omega) (A6 (by omega) ?_)))
   have e:([gI l i].filter fun y=>decide (y≠x))=[gI l i]:=by simp [he]
   rw [e, ←E9] at hR;exact hR
  ·refine A6 (by omega) ?_
   have e:([gI l i].filter fun y=>decide (y≠x))=[]:=by simp at he;simp [he]
   rw [e,List.append_nil] at hR;exact hR
 ·have:i=l.length:=by omega
  subst this
  rw [List.take_length];exact h
theorem SU {g:Value} {K:J2} (h:K [.bool false,g,I 0,I 0,I 0,I 0, .bool false] [tI RN]):cl2 ⟨Tryz.prog,w0⟩ 82 IN.sg [g] [] K:=IN.cl2 h
theorem vO {l:List Int} {a:Nat} {K:Value→Prop} (ha:a<l.length) (h:K (I (gI l a))):ldc (tI l) [] (a+AA (iv 0)*1) K:=by
 have e:a+AA (iv 0)*1=AA (iv a)*1:=by rw [A8,A8];omega
 rw [e];exact ldI ha h
theorem drop_cons {l:List Int} {a:Nat} (ha:a<l.length):l.drop a=gI l a::l.drop (a+1):=by rw [List.drop_eq_getElem_cons ha,GD ha]
theorem gC {freed todo:List Int} {x:Int}:mu freed (x::todo)=mu freed todo+1:=by simp only [mu,List.length_cons];omega
theorem IM {l:List A7} {i:Nat} (h:i<l.length):ob l i∈l:=by rw [←EG h];exact List.getElem_mem h
theorem oO {l:List A7} {i:Nat} (h:i<l.length):tR tO l=tR tO (l.set i (ob l i)):=by rw [←EG h];exact yT h
theorem LsI.start {os:List A7} {buf ids:List Int} (hol:os.length=8) (hof: ∀o∈os,OF o) (hid: ∀x∈ids,F64 x):LsI (IQ os buf ids) (buf.length+ids.length+36) (os,buf,[],ids,0):=
 ⟨hol,hof,Nat.zero_le _,Nat.zero_le _,by simpa using hid,by simp only [mu,List.drop_zero,List.length_nil];omega,ids.length+37,by simp only [mu,List.drop_zero,List.length_nil];omega,rfl⟩
section
variable {R:List A7×List Int×List Int} {M:Nat} {os:List A7} {buf freed row:List Int} {off:Nat}
theorem LsI.stop (h:LsI R M (os,buf,freed,row,off)) (hs:row.length≤off∨8<freed.length):R=(os,buf,freed):=by
 obtain ⟨_,_,_,_,_,_,f,hf,go⟩:=h
 simp only at hf go
 obtain ⟨f,rfl⟩: ∃f',f=f'+1:=⟨f-1,by omega⟩
 rcases hs with hs | hs
 ·rw [List.drop_of_length_le hs] at go
  rw [←go];rfl
 ·rw [←go]
  cases row.drop off with
  | nil=>rfl
  | cons x l=>simp only [J3,if_pos hs]
theorem LsI.step (h:LsI R M (os,buf,freed,row,off)) (hlt:off<row.length) (hfr:freed.length≤8):F64 (gI row off)∧ ∃f,mu freed (row.drop (off+1))<f∧J3 (f+1) os buf freed (gI row off::row.drop (off+1))=R∧buf.length+mu freed (row.drop (off+1))+1≤M∧ ∀x∈row.drop (off+1),F64 x:=by
 obtain ⟨_,_,_,_,td,sz,f,hf,go⟩:=h
 simp only at td sz hf go
 rw [drop_cons hlt] at td sz hf go
 rw [gC] at sz hf
 obtain ⟨f,rfl⟩: ∃f',f=f'+1:=⟨f-1,by omega⟩
 exact ⟨td _ (by simp),f,by omega,go,by omega,fun x hx=>td x (by simp [hx])⟩
theorem LsI.skip (h:LsI R M (os,buf,freed,row,off)) (hlt:off<row.length) (hfr:freed.length≤8) (hs:AD os (gI row off)<0):LsI R M (os,buf,freed,row,off+1):=by
 obtain ⟨_,f,h1,h2,h3,h4⟩:=h.step hlt hfr
 rw [J3] at h2
 simp only at h2
 rw [if_neg (by omega),if_pos hs] at h2
 exact ⟨h.ol,h.of,h.fr,hlt,h4,by simp only;omega,f,h1,h2⟩
theorem LsI.OH (h:LsI R M (os,buf,freed,row,off)) (hlt:off<row.length) (hfr:freed.length≤8) (hs:0≤AD os (gI row off)) (hc:w64 ((ob os (AD os (gI row off)).toNat).count-1)>0) (hp:(ob os (AD os (gI row off)).toNat).purple=true):
  LsI R M (os.set (AD os (gI row off)).toNat {ob os (AD os (gI row off)).toNat with count:=w64 ((ob os (AD os (gI row off)).toNat).count-1)},buf,freed,row,off+1):=by
 obtain ⟨_,f,h1,h2,h3,h4⟩:=h.step hlt hfr
 have hk:=BV hs
 have ho:=h.of _ (IM (l:=os) (i:=(AD os (gI row off)).toNat) (by omega))
 rw [J3] at h2
 simp only at h2
 rw [if_neg (by omega),if_neg (by omega),if_pos hc,if_pos hp] at h2
 exact ⟨by simp only [List.length_set];exact h.ol,JF h.of ⟨ho.gen,ho.len,ho.fld⟩,h.fr,hlt,h4,by simp only;omega,f,h1,h2⟩
theorem LsI.put (h:LsI R M (os,buf,freed,row,off)) (hlt:off<row.length) (hfr:freed.length≤8) (hs:0≤AD os (gI row off)) (hc:w64 ((ob os (AD os (gI row off)).toNat).count-1)>0) (hp:(ob os (AD os (gI row off)).toNat).purple=false):
  LsI R M (os.set (AD os (gI row off)).toNat {ob os (AD os (gI row off)).toNat with count:=w64 ((ob os (AD os (gI row off)).toNat).count-1),purple:=true},buf++[gI row off],freed,row,off+1):=by
 obtain ⟨_,f,h1,h2,h3,h4⟩:=h.step hlt hfr
 have hk:=BV hs
 have ho:=h.of _ (IM (l:=os) (i:=(AD os (gI row off)).toNat) (by omega))
 rw [J3] at h2
 simp only at h2
 rw [if_neg (by omega),if_neg (by omega),if_pos hc,if_neg (by rw [hp];decide)] at h2
 exact ⟨by simp only [List.length_set];exact h.ol,JF h.of ⟨ho.gen,ho.len,ho.fld⟩,h.fr,hlt,h4,by simp only [List.length_append,List.length_singleton];omega,f,h1,h2⟩
theorem LsI.free (h:LsI R M (os,buf,freed,row,off)) (hlt:off<row.length) (hfr:freed.length≤8) (hs:0≤AD os (gI row off)) (hc: ¬w64 ((ob os (AD os (gI row off)).toNat).count-1)>0) {row':List Int} {off':Nat} (hrow:row'.drop off'=row.drop (off+1)++(ob os (AD os (gI row off)).toNat).field.filter fun x=>decide (0≤x)) (hle:off'≤row'.length):
  LsI R M (os.set (AD os (gI row off)).toNat (CT (ob os (AD os (gI row off)).toNat).gen),buf.filter fun x=>decide (x≠gI row off),freed++[gI row off],row',off'):=by
 obtain ⟨_,f,h1,h2,h3,h4⟩:=h.step hlt hfr
 have hk:=BV hs
 have ho:=h.of _ (IM (l:=os) (i:=(AD os (gI row off)).toNat) (by omega))
 have hfl:=List.length_filter_le (fun x=>decide (0≤x)) (ob os (AD os (gI row off)).toNat).field
 have hbl:=List.length_filter_le (fun x=>decide (x≠gI row off)) buf
 rw [ho.len] at hfl
 rw [J3] at h2
 simp only at h2
 rw [if_neg (by omega),if_neg (by omega),if_neg hc] at h2
 have hmu:mu (freed++[gI row off]) (row'.drop off')≤mu freed (row.drop (off+1)):=by
  rw [hrow];simp only [mu,List.length_append,List.length_singleton];omega
 refine ⟨by simp only [List.length_set];exact h.ol,JF h.of (OF.free ho.gen),by simp only [List.length_append,List.length_singleton];omega,hle,fun x hx=> ?_,by simp only;omega,f,by simp only;omega,by rw [←h2,hrow]⟩
 simp only at hx
 rw [hrow] at hx
 rcases List.mem_append.1 hx with hx | hx
 ·exact h4 x hx
 ·exact ho.fld x (List.mem_filter.1 hx).1
end
section
variable {cur:List A7} {k:Nat} {y:A7}
theorem qU (hk:k<cur.length):HF (tR tO (cur.set k y)) [k*8+6]=tI y.field:=by have:=SV (y:=y) hk;rwa [A8] at this
theorem vX {i:Nat} {K:Value→Prop} (hk:k<cur.length) (hi:i<y.field.length) (h:K (I (gI y.field i))):ldc (tR tO (cur.set k y)) [k*8+6] i K:=by
 have:=OL (l:=cur.set k y) (i:=k) (j:=i) (K:=K) (by simpa using hk) (by rw [←EG (by simpa using hk),List.getElem_set_self];exact hi) (by rw [←EG (by simpa using hk),List.getElem_set_self];exact h)
 simpa only [A8,Nat.mul_one] using this
theorem Ai {K:Value→Prop} (hk:k<cur.length) (h:K (I y.gen)):ldc (tR tO (cur.set k y)) [] (k*8+1) K:=by
 have:=J9 (f:=tO) (K:=K) (c:=1) (y:=y) hk (by decide) rfl h
 rwa [A8] at this
theorem Aj {ts:List T} {z:A7} {K:List T→Prop} (hk:k<cur.length) (hy:ts=tO z) (h:K (tR tO (cur.set k z))):stg (tR tO (cur.set k y)) [] (k*8) ts K:=by
 have:=OD (f:=tO) (l:=cur.set k y) (K:=K) (by simpa using hk) hy (by rw [List.set_set];exact h)
 rwa [A8] at this
theorem SJ (l:List Int) (a m:Nat):I9 (tI l) [] a m=tI ((l.drop a).take m):=by simp [I9,node,tI,List.map_drop,List.map_take]
end
theorem R6 {os:List A7} {buf ids:List Int} {b d:List T} {K:J2} (hol:os.length=8) (hof: ∀o∈os,OF o) (hb:buf.length≤2^30) (hi:ids.length≤2^30) (hid: ∀x∈ids,F64 x) (h:K [] [tI (IQ os buf ids).2.2,tR tO (IQ os buf ids).1,tI (IQ os buf ids).2.1]):cl2 ⟨Tryz.prog,w0⟩ 170 D7.sg [] [tR tO os,b,tI buf,d,tI ids] K:=by
 refine D7.cl2 ?_
 unfold D7.txt
 refine J6 (by omega) ?_
 obtain ⟨R,hR0⟩: ∃R,IQ os buf ids=R:=⟨_,rfl⟩
 have st:=LsI.start (buf:=buf) hol hof hid
 rw [hR0] at st h
 simp only [AK,AS,AJ,AI,AM,AE,AH,AN,AO,AP,AL,AR,AT,AQ,BB,BE,BI,BH,BK,BJ,BF,AX,A4,AY,A1,AZ,A5]
 refine CQ (α:=List A7×List Int×List Int×List Int×Nat) (fun q=>[iv (q.2.2.2.1.length-q.2.2.2.2),iv q.2.2.2.2]) (fun q=>[tI q.2.2.1,tI q.2.2.2.1,tR tO q.1,tI q.2.1]) (fun q=>mu q.2.2.1 (q.2.2.2.1.drop q.2.2.2.2)) (LsI R (buf.length+ids.length+36)) (os,buf,[],ids,0) rfl rfl st (fun Rr q hq hR=> ?_)
 obtain ⟨os,bf,freed,row,off⟩:=q
 have hq':LsI R (buf.length+ids.length+36) (os,bf,freed,row,off):=hq
 obtain ⟨ol,of,fr,ofl,td,sz,_⟩:=id hq'
 simp only at ol of fr ofl td sz
 have hmz:mu freed (row.drop off)=(row.length-off)+4*(9-freed.length):=by simp [mu]
 simp only [AK,AS,AJ,AI,AM,AE,AH,AN,AO,AP,AL,AR,AT,AQ,BB,BE,BI,BH,BK,BJ,BF,AX,A4,AY,A1,AZ,A5]
 simp only [A8]
 refine FJ (BM (BM (IG (fun hlt=> ?_) fun hge=> ?_)))
 rotate_left
 ·refine CD hge rfl (BT ?_)
  have:=hq'.stop (.inl (by
   have: ¬(((row.length-off:Nat):Int)>0):=hge
   omega))
  rw [this] at h;exact h
 have hlt':off<row.length:=by
  have:((row.length-off:Nat):Int)>0:=hlt
  omega
 refine DV (CI hlt rfl (AG (fun h8=> ?_) fun h8=> ?_))
 rotate_left
 ·have:=hq'.stop (.inr (by omega))
  rw [this] at h;exact h
 have h8':freed.length≤8:=by omega
 obtain ⟨hidf,_⟩:=hq'.step hlt' h8'
 refine AW (j:=0) (by omega) (vO hlt' (Ak (by omega) (DC hidf (by omega) ?_)))
 have e1:off+AA (iv 1)*1=off+1:=by rw [A8]
 have e2:row.length-off-1=row.length-(off+1):=by omega
 simp only [A8,e2,Nat.mul_one,BB]
 have mu1:mu freed (row.drop (off+1))<mu freed (row.drop off):=by rw [drop_cons hlt',gC];omega
 refine AV (AG (fun hs=>hR (os,bf,freed,row,off+1) (hq'.skip hlt' h8' hs) mu1) fun hs=> ?_)
 have hs':0≤AD os (gI row off):=by omega
 have hk:=BV hs'
 have n1:=hq'.OH hlt' h8' hs'
 have n2:=hq'.put hlt' h8' hs'
 have n3:=fun hc row' off'=>hq'.free hlt' h8' hs' hc (row':=row') (off':=off')
 have hobf:=of _ (IM (l:=os) (i:=(AD os (gI row off)).toNat) (by omega))
 generalize hgid:gI row off=id at*
 obtain ⟨k,hkk⟩: ∃k,(AD os id).toNat=k:=⟨_,rfl⟩
 have hkI:AD os id=(k:Int):=by omega
 rw [hkk] at hk n1 n2 n3 hobf
 rw [hkI]
 have hkl:k<os.length:=by omega
 rw [oO hkl]
 generalize ho:ob os k=o at*
 refine AW (by omega) (J9 (i:=k) hkl (by decide) rfl (bH (JE hkl ?_)))
 generalize hcc:w64 (o.count-1)=c at*
 refine J9 (v:=I c) (i:=k) hkl (by decide) rfl ?_
 refine FJ (BM (BM (BM (IG (fun hc=> ?_) fun hc=> ?_))))
 ·refine J9 (v:= .bool o.purple) (i:=k) hkl (by decide) rfl (IF hc (BU (CI hc rfl ?_)))
  cases hp:o.purple with
  | false=>
    refine BP (RO hkl (DP rfl (by omega) ?_))
    have:=hR _ (n2 hc hp) (by simp only;exact mu1)
    simp only at this
    rw [←E9] at this
    exact this
  | true=>
    refine BT (J9 (v:=I c) (i:=k) hkl (by decide) rfl (DV (C3 (by omega) ?_)))
    have:=hR _ (n1 hc hp) (by simp only;exact mu1)
    simp only [hp] at this
    exact this
 ·refine LP hc (CD hc rfl (BT (J9 (v:=I c) (i:=k) hkl (by decide) rfl (DV (CM (by omega) (DP rfl (by omega) (YU (i:=k) hkl (by decide) rfl ?_)))))))
  rw [SV hkl,AE]
  have hfl:o.field.length=3:=hobf.len
  rw [hfl]
  refine CQ (α:=Nat×List Int×Nat) (fun q=>[iv (q.2.1.length-q.2.2),iv q.2.2,I id,iv (k*8),iv (k*8+6),iv 3,iv q.1]) (fun q=>[tI (freed++[id]),tI q.2.1,tR tO (os.set k {o with count:=c}),tI bf]) (fun q=>3-q.1) (fun q=>q.1≤3∧q.2.2≤q.2.1.length∧q.2.1.drop q.2.2=row.drop (off+1)++(o.field.take q.1).filter fun x=>decide (0≤x)) (0,row,off+1) ?_ ?_ ⟨by omega,hlt',by simp⟩ (fun R2 q hq2 hR2=> ?_)
  ·rfl
  ·simp only [E9]
  obtain ⟨i,rw',of'⟩:=q
  obtain ⟨hi3,hof',hdr⟩:=hq2
  simp only at hi3 hof' hdr
  have hrl:rw'.length-of'≤row.length-(off+1)+3:=by
   have e:=congrArg List.length hdr
   have:=List.length_filter_le (fun x=>decide (0≤x)) (o.field.take i)
   simp only [List.length_drop,List.length_append,List.length_take] at e this
   omega
  simp only [AK,AS,AJ,AI,AM,AE,AH,AN,AO,AP,AL,AR,AT,AQ,BB,BE,BI,BH,BK,BJ,BF,AX,A4,AY,A1,AZ,A5]
  simp only [A8]
  refine AV (AG (fun hlt=> ?_) fun hge=> ?_)
  ·have hlt:i<o.field.length:=by omega
   have hfx:=hobf.fld _ (FD hlt)
   refine BS ?_
   simp only [qU hkl,AE,SJ]
   have ed:(rw'.drop of').take (rw'.length-of')=rw'.drop of':=by rw [←List.length_drop,List.take_length]
   rw [ed]
   have ea:tI (rw'.drop of')++[T.c (I (gI o.field i))]=tI (rw'.drop of'++[gI o.field i]):=E9 _ _
   refine AW hlt (vX hkl hlt ?_)
   simp only [A8]
   refine JA (AG (fun hp=> ?_) fun hp=> ?_)
   ·refine DP rfl (by omega) ?_
    have:=hR2 (i+1,rw'.drop of'++[gI o.field i],0) ⟨by simp only;omega,by simp only;omega,by simp only [List.drop_zero];rw [hdr,List.take_succ_eq_append_getElem hlt,List.filter_append, ←List.append_assoc,GD hlt];congr 1;simp [hp]⟩ (by simp only;omega)
    refine A6 (by omega) ?_
    rw [ea]
    simp only [AK,AS,AJ,AI,AM,AE,AH,AN,AO,AP,AL,AR,AT,AQ,BB,BE,BI,BH,BK,BJ,BF,AX,A4,AY,A1,AZ,A5]
    simp only [A8]
    exact this
   ·have:=hR2 (i+1,rw',of') ⟨by simp only;omega,hof',by simp only;rw [hdr,List.take_succ_eq_append_getElem hlt,List.filter_append, ←List.append_assoc,GD hlt];simp;omega⟩ (by simp only;omega)
    refine A6 (by omega) ?_
    simp only [AK,AS,AJ,AI,AM,AE,AH,AN,AO,AP,AL,AR,AT,AQ,BB,BE,BI,BH,BK,BJ,BF,AX,A4,AY,A1,AZ,A5]
    simp only [A8]
    exact this
  ·have:i=o.field.length:=by omega
   subst this
   rw [List.take_length] at hdr
   refine cD (by omega) (Ai hkl (SU (Aj hkl (z:=CT o.gen) rfl ?_)))
   exact hR _ (n3 hc _ _ hdr hof') (by simp only;rw [hdr];simp only [mu,List.length_append,List.length_singleton] at mu1 ⊢;have:=List.length_filter_le (fun x=>decide (0≤x)) o.field;omega)
end Go.Proofs.YtnhicpkhkaihoaaGreat.P
