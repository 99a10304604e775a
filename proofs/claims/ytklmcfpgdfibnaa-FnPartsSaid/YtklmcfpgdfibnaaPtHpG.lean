/- A part of the proof. -/
import Derived.Test.YtklmcfpgdfibnaaPtTxtE
namespace Go.Proofs.Ytklmcfpgdfibnaa.P
open Go Go.Proofs.Ytklmcfpgdfibnaa Go.Proofs.Ytklmcfpgdfibnaa.Eng
set_option linter.unusedVariables false
def szB (s:ByteArray):Bool:=decide ((s.size:Int)≤8)
def uL (l:List ByteArray):Bool:=l.all szB&&decide l.Nodup
def uZ (n:Int) (l:List ByteArray):Bool:=(PH n&&decide (l.length≤400))&&uL l
theorem Z9 {n i:Nat} (hi:i≤n) {K:Value→Value→Prop} (h:K (iv 0) (iv i)):scW n none (some (iv i)) K:=
 ⟨0,i,rfl,by simp [bnd,iv],Nat.zero_le _,hi,h⟩
def kR (l:List ByteArray) (s:ByteArray):ByteArray:=if s∈l then V (at_ l s+1) else V 0++ST s
def uK (l:List ByteArray) (s:ByteArray):List ByteArray:=if s∈l then l else l++[s]
end Go.Proofs.Ytklmcfpgdfibnaa.P
namespace Go.Proofs.Ytklmcfpgdfibnaa.P
open Go Go.Proofs.Ytklmcfpgdfibnaa Go.Proofs.Ytklmcfpgdfibnaa.Eng
set_option maxHeartbeats 4000000
set_option linter.unusedVariables false
set_option linter.unusedSimpArgs false
attribute [local irreducible] prP gP gE gF AW ixW ldc ldg ldl stc stg scW mkW apW BK cl2 BW EI CM
variable {w0:World}
theorem hI {a:List AU} {i:Nat} (hi:i<a.length):tR tO (a.take i)++[T.c (.bool (ob a i).live), .c (I (ob a i).gen), .c (I (ob a i).site), .c (I (ob a i).holds), .c (I (ob a i).roots), .c (I (ob a i).count), .l 1 (tI (ob a i).field), .c (.bool (ob a i).purple)]=tR tO (a.take (i+1)):=by
 rw [List.take_succ_eq_append_getElem hi,DN hi]
 exact iJ _ (ob a i)
theorem N9 {h:Hp} {K:J2} (hf:Fits h) (hk:K [] (trees h)):cl2 ⟨Try.prog,w0⟩ 97 DM.sg [] (trees h) K:=by
 obtain ⟨a,b,c,d⟩:=h
 have g1:=hf.ol;have g2:=hf.wl;have g3:=hf.sl;have g4:=hf.bl
 simp only at g1 g2 g3 g4
 refine DM.cl2 ?_
 unfold DM.txt
 simp only [AG,AM,AK,AP,AI,AD,AE,AR,AQ,AO,AL,AJ,AN,AH,BC,BF,BJ,BG,BH,BI,BE,A6,A7,A1,A4,A5,AZ]
 refine EM (YT _) (by omega) (HN (by omega) (TD (by omega) ?_))
 refine BB (fun i=>[iv a.length,iv i]) (fun i=>[tR tO (a.take i),tR tW b,tI c,tS d]) a.length (fun _=>True) rfl rfl trivial (fun R i hi hP hR=> ?_)
 simp only [AG,AM,AK,AP,AI,AD,AE,AR,AQ,AO,AL,AJ,AN,AH,BC,BF,BJ,BG,BH,BI,BE,A6,A7,A1,A4,A5,AZ]
 refine AX (AV (fun hlt=> ?_) fun hge=> ?_)
 ·have hlt:i<a.length:=by omega
  have hfo:((ob a i).field.length:Int)≤1048576:=qP (l:=a) hf.of hlt
  have hln:(a.take i).length=i:=by simp;omega
  replace hR:=hR hlt trivial
  refine AT hlt (K9 hlt ?_)
  rw [GZ hlt]
  refine HN (by omega) (fD (by rw [hln];omega) (BA (by omega) ?_))
  rw [←hI hlt] at hR
  exact hR
 ·have:i=a.length:=by omega
  subst this
  rw [List.take_length];exact hk
theorem KA {h:Hp} {K:J2} (hf:Fits h) (hk:K [] (trees h)):cl2 ⟨Try.prog,w0⟩ 122 DB.sg [] (trees h) K:=by
 obtain ⟨a,b,c,d⟩:=h
 have g1:=hf.ol;have g2:=hf.wl;have g3:=hf.sl;have g4:=hf.bl
 simp only at g1 g2 g3 g4
 refine DB.cl2 ?_
 unfold DB.txt
 simp only [AG,AM,AK,AP,AI,AD,AE,AR,AQ,AO,AL,AJ,AN,AH,BC,BF,BJ,BG,BH,BI,BE,A6,A7,A1,A4,A5,AZ]
 refine EM (YT _) (by simp only [cnt,List.length_nil];omega) (EM (MG _) (by omega) (EM (ZW _) (by omega) ?_))
 refine BB (fun i=>[iv i]) (fun i=>[tR tO (a.take i),tR tW b,tI c,tS d]) a.length (fun _=>True) rfl rfl trivial (fun R i hi hP hR=> ?_)
 simp only [AG,AM,AK,AP,AI,AD,AE,AR,AQ,AO,AL,AJ,AN,AH,BC,BF,BJ,BG,BH,BI,BE,A6,A7,A1,A4,A5,AZ]
 refine AX (AV (fun hlt=> ?_) fun hge=> ?_)
 ·have hlt:i<a.length:=by omega
  have hfo:((ob a i).field.length:Int)≤1048576:=qP (l:=a) hf.of hlt
  have hln:(a.take i).length=i:=by simp;omega
  replace hR:=hR hlt trivial
  refine AT hlt (K9 hlt ?_)
  rw [GZ hlt]
  refine EM (MG _) (by first | omega | (simp only [AG,AM,AK,AP,AI,AD,AE,AR,AQ,AO,AL,AJ,AN,AH,BC,BF,BJ,BG,BH,BI,BE,A6,A7,A1,A4,A5,AZ];omega)) (fD (by rw [hln];omega) (BA (by omega) ?_))
  rw [←hI hlt] at hR
  exact hR
 ·have:i=a.length:=by omega
  subst this
  rw [List.take_length];exact hk
structure J7 (l:List ByteArray):Prop where
 len:l.length≤6
 sz: ∀i,i<l.length→1≤((gS l i).size:Int)∧((gS l i).size:Int)≤8
 one: ∀i,i<l.length→gS l i∉l.take i
theorem eK {l:List ByteArray} {i:Nat} {x:ByteArray} (hi:i<l.length) (h:x∉l.take i) (hn:gS l i≠x):x∉l.take (i+1):=by
 rw [List.take_succ_eq_append_getElem hi,SD hi]
 simp only [List.mem_append,List.mem_singleton,not_or]
 exact ⟨h,fun he=>hn he.symm⟩
theorem VI {l:List ByteArray} {K:J2} (hl:(l.length:Int)<2^62) (h1:J7 l→K [.bool true] []) (h2: ¬J7 l→K [.bool false] []):cl2 ⟨Try.prog,w0⟩ 129 FM.sg [] [tS l] K:=by
 refine FM.cl2 ?_
 unfold FM.txt
 simp only [AG,AM,AK,AP,AI,AD,AE,AR,AQ,AO,AL,AJ,AN,AH,BC,BF,BJ,BG,BH,BI,BE,A6,A7,A1,A4,A5,AZ]
 refine BB (fun i=>[iv l.length,iv i]) (fun _=>[]) l.length (fun i=> ∀k,k<i→(1≤((gS l k).size:Int)∧((gS l k).size:Int)≤8)∧gS l k∉l.take k) rfl rfl (fun k hk=>by omega) (fun R i hi hP hR=> ?_)
 simp only [AG,AM,AK,AP,AI,AD,AE,AR,AQ,AO,AL,AJ,AN,AH,BC,BF,BJ,BG,BH,BI,BE,A6,A7,A1,A4,A5,AZ]
 refine AX (AV (fun hlt=> ?_) fun hge=> ?_)
 ·have hlt:i<l.length:=by omega
  refine AT hlt (ldS hlt (UK (GI (DI (BO (BO (JF (fun hb=> ?_) fun hb=> ?_)))))))
  ·refine Z9 (by omega) (BO (F5 hb ?_))
   have e:GD (tS l) [] (AA (Q9 (two (iv 0) (iv i)))*1) (AA (RV (two (iv 0) (iv i)))*1)=tS (l.take i):=by
    have h1:AA (Q9 (two (iv 0) (iv i)))=0:=rfl
    have h2:AA (RV (two (iv 0) (iv i)))=i:=AY i
    rw [h1,h2];simp [GD,node,tS,List.map_take]
   rw [e]
   refine VD (by simp;omega) (C5 hb rfl (AV (fun hm=>h2 fun hk=>hk.one i hlt hm) fun hm=> ?_))
   refine BA (by omega) (hR hlt fun k hk=> ?_)
   rcases Nat.lt_succ_iff_lt_or_eq.1 hk with h3 | rfl
   ·exact hP k h3
   ·exact ⟨Decidable.not_not.1 hb,hm⟩
  ·exact BO (KG hb (C4 hb rfl (BX (h2 fun hk=>hb (hk.sz i hlt)))))
 ·have:i=l.length:=by omega
  subst this
  refine GQ ?_
  by_cases h6:(l.length:Int)≤6
  ·rw [decide_eq_true h6]
   exact h1 ⟨by omega,fun i hi=>(hP i hi).1,fun i hi=>(hP i hi).2⟩
  ·rw [decide_eq_false h6]
   exact h2 fun hk=>by have:=hk.len;omega
structure NC (h:Hp) (i:Nat):Prop where
 gen:0≤(ob h.A8 i).gen∧(ob h.A8 i).gen≤999
 len:(ob h.A8 i).field.length=3
 lead: ∀j,j<3→gI (ob h.A8 i).field j≠ -1→(ob h.A8 i).live=true∧0≤AB h.A8 (gI (ob h.A8 i).field j)
 dead:(ob h.A8 i).live=false→(ob h.A8 i).site=0∧(ob h.A8 i).holds=0∧(ob h.A8 i).roots=0∧(ob h.A8 i).count=0∧(ob h.A8 i).purple=false
 lv:(ob h.A8 i).live=true→1≤(ob h.A8 i).gen∧(0≤(ob h.A8 i).site∧(ob h.A8 i).site≤(h.sites.length:Int)-1)∧(0≤(ob h.A8 i).holds∧(ob h.A8 i).holds≤20)∧(0≤(ob h.A8 i).roots∧(ob h.A8 i).roots≤20)∧
  (ob h.A8 i).count=(ob h.A8 i).holds+(ob h.A8 i).roots+inE h.A8 i∧1≤(ob h.A8 i).count∧(ob h.A8 i).purple=decide (CH i (ob h.A8 i).gen∈h.buffer)
structure C0 (h:Hp):Prop where
 ol:h.A8.length=8
 wl:h.B2.length=8
 sites:J7 h.sites
 obj: ∀i,i<8→NC h i
 weak: ∀i,i<8→((wk h.B2 i).used=false→(wk h.B2 i).target=0)∧((wk h.B2 i).used=true→8≤(wk h.B2 i).target∧(wk h.B2 i).target≤7999)
 buf: ∀i,i<h.buffer.length→0≤AB h.A8 (gI h.buffer i)∧gI h.buffer i∉h.buffer.take i
theorem qK {l:List Int} {P:Int→Prop} (h0:P 0) (h: ∀x∈l,P x) (i:Nat):P (gI l i):=by
 by_cases hi:i<l.length
 ·rw [←EN hi];exact h _ (List.getElem_mem hi)
 ·unfold gI;rw [List.getD_eq_getElem?_getD,List.getElem?_eq_none (by omega)];exact h0
theorem WU:F64 0:=⟨by omega,by omega⟩
theorem SL.ob {h:Hp} (hn:SL h) (i:Nat):F64 (ob h.A8 i).gen∧F64 (ob h.A8 i).site∧F64 (ob h.A8 i).holds∧F64 (ob h.A8 i).roots∧F64 (ob h.A8 i).count∧ ∀f∈(ob h.A8 i).field,F64 f:=by
 by_cases hi:i<h.A8.length
 ·rw [←DN hi];exact hn.obj _ (List.getElem_mem hi)
 ·unfold Eng.ob;rw [List.getD_eq_getElem?_getD,List.getElem?_eq_none (by omega)]
  exact ⟨WU,WU,WU,WU,WU,fun f hf=>by simp at hf⟩
theorem SL.fld {h:Hp} (hn:SL h) (i j:Nat):F64 (gI (Eng.ob h.A8 i).field j):=qK WU (hn.ob i).2.2.2.2.2 j
theorem SL.bf {h:Hp} (hn:SL h) (i:Nat):F64 (gI h.buffer i):=qK WU hn.buf i
theorem nH {l:List AU} (hl:(l.length:Int)≤1048576) (hf: ∀o∈l,(o.field.length:Int)≤1048576) (s:Int):0≤inE l s∧inE l s≤2^40:=by
 rw [inE];split
 ·have he:=MY (l:=l) (id:=CH s (ob l s.toNat).gen) (b:=1048576) fun o ho=>by have:=hf o ho;omega
  have hmul:l.length*1048576≤1048576*1048576:=Nat.mul_le_mul_right _ (by omega)
  omega
 ·omega
theorem ZA {h:Hp} {i:Nat} {K:J2} (hf:Fits h) (hn:SL h) (hi:i<h.A8.length) (h1:NC h i→K [.bool true] []) (h2: ¬NC h i→K [.bool false] []):cl2 ⟨Try.prog,w0⟩ 130 HH.sg [I i] (trees h) K:=by
 have g1:=hf.ol;have g3:=hf.sl;have g4:=hf.bl
 refine HH.cl2 ?_
 unfold HH.txt
 simp only [AG,AM,AK,AP,AI,AD,AE,AR,AQ,AO,AL,AJ,AN,AH,BC,BF,BJ,BG,BH,BI,BE,A6,A7,A1,A4,A5,AZ]
 refine AT hi (K9 hi ?_)
 rw [GZ hi,AD]
 have hfo:=Z5 hf.of i
 have hnum:=hn.ob i
 obtain ⟨⟨n1,n2⟩,⟨n3,n4⟩,_,_,⟨n5,n6⟩,_⟩:=hnum
 have hib:=nH hf.ol hf.of i
 refine GI (DI (BO (BO (BO (JF (fun hg=> ?_) fun hg=> ?_)))))
 rotate_left
 ·exact C4 hg rfl (BX (h2 fun hk=>hg hk.gen))
 refine B8 (C5 hg rfl (AV (fun h3=>h2 fun hk=>by have:=hk.len;omega) fun h3=> ?_))
 have hl3:(ob h.A8 i).field.length=3:=by omega
 have hg:0≤(ob h.A8 i).gen∧(ob h.A8 i).gen≤999:=Decidable.not_not.1 hg
 rw [hl3]
 refine BB (fun j=>[iv i,iv (AA (iv i)*8+6),iv 3,iv j, .bool (ob h.A8 i).live,I (ob h.A8 i).gen,I (ob h.A8 i).site,I (ob h.A8 i).holds,I (ob h.A8 i).roots,I (ob h.A8 i).count,iv (AA (iv i)*8+6), .bool (ob h.A8 i).purple]) (fun _=>[]) 3 (fun j=> ∀k,k<j→gI (ob h.A8 i).field k≠ -1→(ob h.A8 i).live=true∧0≤AB h.A8 (gI (ob h.A8 i).field k)) rfl rfl (fun k hk=>by omega) (fun R j hj hP hR=> ?_)
 simp only [AG,AM,AK,AP,AI,AD,AE,AR,AQ,AO,AL,AJ,AN,AH,BC,BF,BJ,BG,BH,BI,BE,A6,A7,A1,A4,A5,AZ]
 rw [AY (AA (iv i)*8+6),GZ hi,AD,hl3]
 refine AX (AV (fun hlt=> ?_) fun hge=> ?_)
 ·have hlt:j<3:=by omega
  refine AT hlt (L4 hi (by omega) ?_)
  repeat' (first | refine CQ (hn.fld i j) (by omega) ?_ | refine BO ?_ | refine PD ?_ | refine m5 ?_ | refine uU (by first | with_reducible assumption | omega) ?_ | refine uB (by first | with_reducible assumption | omega) ?_ | refine H4 (by first | with_reducible assumption | omega) ?_ | refine ML (by first | with_reducible assumption | omega) ?_ | refine O8 (by with_reducible assumption) ?_ | refine Z3 (by with_reducible assumption) ?_ | refine j8 (by with_reducible assumption) rfl ?_ | refine lJ (by with_reducible assumption) rfl ?_ | refine C4 (by first | with_reducible assumption | omega) rfl ?_ | refine C5 (by first | with_reducible assumption | omega) rfl ?_ | refine BX ?_ | refine BU ?_ | refine AX ?_ | refine B8 ?_ | refine BA (by omega) ?_ | refine AV (fun _=> ?_) (fun _=> ?_) | refine I1 (fun _=> ?_) (fun _=> ?_) | refine hC (fun _=> ?_) (fun _=> ?_) | refine B1 ?_)
  all_goals first
   | (refine hR hlt fun k hk hne=> ?_
      rcases Nat.lt_succ_iff_lt_or_eq.1 hk with h4 | rfl
      ·exact hP k h4 hne
      ·first
       | exact absurd hne (by assumption)
       | exact ⟨by simp_all,by omega⟩)
   | (refine h2 fun hk=> ?_
      have h4:=hk.lead j hlt (by assumption)
      first
       | omega
       | simp_all)
 ·have hj3:j=3:=by omega
  subst hj3
  cases hv:(ob h.A8 i).live with
  | false=>
    have mk:(ob h.A8 i).site=0→(ob h.A8 i).holds=0→(ob h.A8 i).roots=0→(ob h.A8 i).count=0→(ob h.A8 i).purple=false→NC h i:=fun a b c d e=>⟨hg,hl3,hP,fun _=>⟨a,b,c,d,e⟩,fun hh=>by rw [hv] at hh;cases hh⟩
    refine B1 (BX ?_)
    cases hpu:(ob h.A8 i).purple
    ·repeat' (first | refine BO ?_ | refine K8 ?_ | refine C4 (by first | with_reducible assumption | omega) rfl ?_ | refine C5 (by first | with_reducible assumption | omega) rfl ?_ | refine TU rfl ?_ | refine BM ?_ | refine I1 (fun _=> ?_) (fun _=> ?_) | refine B1 ?_)
     all_goals first
      | exact h1 (mk (by assumption) (by assumption) (by assumption) (by assumption) hpu)
      | (refine h2 fun hk=> ?_
         have h4:=hk.dead hv
         omega)
    ·repeat' (first | refine BO ?_ | refine K8 ?_ | refine C4 (by first | with_reducible assumption | omega) rfl ?_ | refine C5 (by first | with_reducible assumption | omega) rfl ?_ | refine TU rfl ?_ | refine BM ?_ | refine I1 (fun _=> ?_) (fun _=> ?_) | refine B1 ?_)
     all_goals
      refine h2 fun hk=> ?_
      have h4:=hk.dead hv
      rw [hpu] at h4
      first
       | omega
       | exact absurd h4.2.2.2.2 (by decide)
  | true=>
    refine B1 (BU ?_)
    have fin:1≤(ob h.A8 i).gen→(0≤(ob h.A8 i).site∧(ob h.A8 i).site≤(h.sites.length:Int)-1)→(0≤(ob h.A8 i).holds∧(ob h.A8 i).holds≤20)→(0≤(ob h.A8 i).roots∧(ob h.A8 i).roots≤20)→(ob h.A8 i).count=(ob h.A8 i).holds+(ob h.A8 i).roots+inE h.A8 i→1≤(ob h.A8 i).count→K [.bool (decide ((ob h.A8 i).purple=decide (CH i (ob h.A8 i).gen∈h.buffer)))] []:=fun a b c d e f=>by
     by_cases hp:(ob h.A8 i).purple=decide (CH i (ob h.A8 i).gen∈h.buffer)
     ·rw [decide_eq_true hp]
      exact h1 ⟨hg,hl3,hP,fun hh=>(by rw [hv] at hh;cases hh),fun _=>⟨a,b,c,d,e,f,hp⟩⟩
     ·rw [decide_eq_false hp]
      exact h2 fun hk=>hp (hk.lv hv).2.2.2.2.2.2
    have no: ∀{P:Prop}, ¬P→(NC h i→P)→K [.bool false] []:=fun hp hi=>h2 fun hk=>hp (hi hk)
    repeat' (first | refine GI ?_ | refine OJ ⟨by omega,by omega⟩ (by omega) hf.of ?_ | refine KH ?_ | refine QR (by omega) ?_ | refine BO ?_ | refine K8 ?_ | refine H4 (by first | with_reducible assumption | omega) ?_ | refine ML (by first | with_reducible assumption | omega) ?_ | refine C4 (by first | with_reducible assumption | omega) rfl ?_ | refine C5 (by first | with_reducible assumption | omega) rfl ?_ | refine TU rfl ?_ | refine GQ ?_ | refine BM ?_ | refine D4 ⟨by omega,by omega⟩ ?_ | refine H2 ⟨by omega,by omega⟩ ?_ | refine qC ?_ | refine I1 (fun _=> ?_) (fun _=> ?_))
    all_goals first
     | exact fin (by assumption) (by assumption) (by assumption) (by assumption) (by assumption) (by assumption)
     | (refine h2 fun hk=> ?_
        have h4:=hk.lv hv
        omega)
end Go.Proofs.Ytklmcfpgdfibnaa.P
namespace Go.Proofs.Ytklmcfpgdfibnaa.P
open Go Go.Proofs.Ytklmcfpgdfibnaa Go.Proofs.Ytklmcfpgdfibnaa.Eng
set_option maxHeartbeats 4000000
set_option linter.unusedVariables false
set_option linter.unusedSimpArgs false
attribute [local irreducible] prP gP gE gF AW ixW ldc ldg ldl stc stg scW mkW apW BK cl2 BW EI CM
variable {w0:World}
theorem XC {h:Hp} {K:J2} (hf:Fits h) (hn:SL h) (h1:C0 h→K [.bool true] []) (h2: ¬C0 h→K [.bool false] []):cl2 ⟨Try.prog,w0⟩ 82 GU.sg [] (trees h) K:=by
 have g1:=hf.ol;have g2:=hf.wl;have g3:=hf.sl;have g4:=hf.bl
 refine GU.cl2 ?_
 unfold GU.txt
 simp only [AG,AM,AK,AP,AI,AD,AE,AR,AQ,AO,AL,AJ,AN,AH,BC,BF,BJ,BG,BH,BI,BE,A6,A7,A1,A4,A5,AZ]
 refine B8 (BO (BO (BO (JF (fun ho=> ?_) fun ho=> ?_))))
 rotate_left
 ·refine C4 ho rfl (BO (BO (QP (QP (V3 rfl (BX (h2 fun hk=>ho (by have:=hk.ol;omega))))))))
 refine B8 (C5 ho rfl (BO (BO (JF (fun hw=> ?_) fun hw=> ?_))))
 rotate_left
 ·exact KG hw (C4 hw rfl (BX (h2 fun hk=>hw (by have:=hk.wl;omega))))
 refine VI (by omega) (fun hs=> ?_) fun hs=> ?_
 rotate_left
 ·exact F5 hw (B1 (C5 hw rfl (BX (h2 fun hk=>hs hk.sites))))
 refine F5 hw (B1 (C5 hw rfl (BU ?_)))
 have o8:h.A8.length=8:=by omega
 have w8:h.B2.length=8:=by omega
 refine BB (fun i=>[iv h.A8.length,iv i]) (fun _=>[]) h.A8.length (fun i=> ∀k,k<i→NC h k) rfl rfl (fun k hk=>by omega) (fun R i hi hP hR=> ?_)
 refine AX (AV (fun hlt=> ?_) fun hge=> ?_)
 ·have hlt:i<h.A8.length:=by omega
  refine ZA hf hn hlt (fun hk=>B1 (BU (BA (by omega) (hR hlt fun k hki=> ?_)))) fun hk=>B1 (BX (h2 fun hh=>hk (hh.obj i (by omega))))
  rcases Nat.lt_succ_iff_lt_or_eq.1 hki with h4 | rfl
  ·exact hP k h4
  ·exact hk
 have hi8:i=8:=by omega
 subst hi8
 refine BB (fun i=>[iv h.B2.length,iv i]) (fun _=>[]) h.B2.length (fun i=> ∀k,k<i→((wk h.B2 k).used=false→(wk h.B2 k).target=0)∧((wk h.B2 k).used=true→8≤(wk h.B2 k).target∧(wk h.B2 k).target≤7999)) rfl rfl (fun k hk=>by omega) (fun R2 i hi hP2 hR2=> ?_)
 refine AX (AV (fun hlt=> ?_) fun hge=> ?_)
 ·have hlt:i<h.B2.length:=by omega
  refine AT hlt (VU hlt ?_)
  have stepR:=fun hk=>hR2 hlt fun k hki=>(Nat.lt_succ_iff_lt_or_eq.1 hki).elim (hP2 k) fun he=>he ▸ hk
  cases hu:(wk h.B2 i).used with
  | false=>
    refine B1 ?_
    repeat' (first | refine BO ?_ | refine PD ?_ | refine VK ?_ | refine PG (by first | with_reducible assumption | omega) ?_ | refine TA (by first | with_reducible assumption | omega) ?_ | refine NB ?_ | refine KG (by first | with_reducible assumption | omega) ?_ | refine F5 (by first | with_reducible assumption | omega) ?_ | refine o7 (by with_reducible assumption) ?_ | refine j8 (by with_reducible assumption) rfl ?_ | refine lJ (by with_reducible assumption) rfl ?_ | refine C4 (by first | with_reducible assumption | omega) rfl ?_ | refine C5 (by first | with_reducible assumption | omega) rfl ?_ | refine TU rfl ?_ | refine BX ?_ | refine BU ?_ | refine B8 ?_ | refine BA (by omega) ?_ | refine eG (fun _=> ?_) (fun _=> ?_) | refine kZ (fun _=> ?_) (fun _=> ?_) | simp only [AG,AM,AK,AP,AI,AD,AE,AR,AQ,AO,AL,AJ,AN,AH,BC,BF,BJ,BG,BH,BI,BE,A6,A7,A1,A4,A5,AZ])
    all_goals first
     | (refine stepR ⟨fun _=> ?_,fun hh=>(by rw [hu] at hh;cases hh)⟩
        first
         | omega
         | (simp_all;done))
     | (refine h2 fun hk=> ?_
        have h4:=(hk.weak i (by omega)).1 hu
        first
         | omega
         | (simp_all;done))
  | true=>
    refine B1 ?_
    repeat' (first | refine GI ?_ | refine BO ?_ | refine PD ?_ | refine VK ?_ | refine PG (by first | with_reducible assumption | omega) ?_ | refine TA (by first | with_reducible assumption | omega) ?_ | refine NB ?_ | refine KG (by first | with_reducible assumption | omega) ?_ | refine F5 (by first | with_reducible assumption | omega) ?_ | refine O8 (by with_reducible assumption) ?_ | refine j8 (by with_reducible assumption) rfl ?_ | refine lJ (by with_reducible assumption) rfl ?_ | refine C4 (by first | with_reducible assumption | omega) rfl ?_ | refine C5 (by first | with_reducible assumption | omega) rfl ?_ | refine TU rfl ?_ | refine BX ?_ | refine DA (by first | with_reducible assumption | omega) ?_ | refine B8 ?_ | refine DI ?_ | refine BA (by omega) ?_ | refine AV (fun _=> ?_) (fun _=> ?_) | refine eG (fun _=> ?_) (fun _=> ?_) | refine kZ (fun _=> ?_) (fun _=> ?_) | simp only [AG,AM,AK,AP,AI,AD,AE,AR,AQ,AO,AL,AJ,AN,AH,BC,BF,BJ,BG,BH,BI,BE,A6,A7,A1,A4,A5,AZ])
    all_goals first
     | (refine stepR ⟨fun hh=>(by rw [hu] at hh;cases hh),fun _=> ?_⟩
        first
         | omega
         | (simp_all;done))
     | (refine h2 fun hk=> ?_
        have h4:=(hk.weak i (by omega)).2 hu
        first
         | omega
         | (simp_all;done))
 have hi8:i=8:=by omega
 subst hi8
 refine BB (fun i=>[iv h.buffer.length,iv i]) (fun _=>[]) h.buffer.length (fun i=> ∀k,k<i→0≤AB h.A8 (gI h.buffer k)∧gI h.buffer k∉h.buffer.take k) rfl rfl (fun k hk=>by omega) (fun R3 i hi hP3 hR3=> ?_)
 simp only [AG,AM,AK,AP,AI,AD,AE,AR,AQ,AO,AL,AJ,AN,AH,BC,BF,BJ,BG,BH,BI,BE,A6,A7,A1,A4,A5,AZ]
 refine AX (AV (fun hlt=> ?_) fun hge=> ?_)
 ·have hlt:i<h.buffer.length:=by omega
  have e:GD (tI h.buffer) [] (AA (Q9 (two (iv 0) (iv i)))*1) (AA (RV (two (iv 0) (iv i)))*1)=tI (h.buffer.take i):=by
   have h1:AA (Q9 (two (iv 0) (iv i)))=0:=rfl
   have h2:AA (RV (two (iv 0) (iv i)))=i:=AY i
   rw [h1,h2];simp [GD,node,tI,List.map_take]
  refine AT hlt (ldI hlt (CQ (hn.bf i) (by omega) (AX (BO (BO (BO (JF (fun hb=> ?_) fun hb=> ?_)))))))
  ·refine Z9 (by omega) (BO (F5 hb ?_))
   rw [e]
   refine QR (by simp;omega) (C5 hb rfl (AV (fun hm=>h2 fun hk=>(hk.buf i hlt).2 hm) fun hm=> ?_))
   refine BA (by omega) (hR3 hlt fun k hk=> ?_)
   rcases Nat.lt_succ_iff_lt_or_eq.1 hk with h3 | rfl
   ·exact hP3 k h3
   ·exact ⟨by omega,hm⟩
  ·exact BO (KG hb (C4 hb rfl (BX (h2 fun hk=>by have:=(hk.buf i hlt).1;omega))))
 ·have hib:i=h.buffer.length:=by omega
  subst hib
  exact h1 ⟨o8,w8,hs,fun i hi=>hP i hi,fun i hi=>hP2 i hi,fun i hi=>hP3 i hi⟩
end Go.Proofs.Ytklmcfpgdfibnaa.P
namespace Go.Proofs.Ytklmcfpgdfibnaa.P
open Go Go.Proofs.Ytklmcfpgdfibnaa Go.Proofs.Ytklmcfpgdfibnaa.Eng
set_option linter.unusedVariables false
theorem qV {n:Nat} (hn:1≤n) {K:Value→Value→Prop} (h:K (iv 1) (iv (n-1))):scW n (some (.int .i64 1)) none K:=⟨1,n,rfl,rfl,hn,Nat.le_refl _,h⟩
set_option maxHeartbeats 4000000
set_option linter.unusedVariables false
set_option linter.unusedSimpArgs false
attribute [local irreducible] prP gP gE gF AW ixW ldc ldg ldl stc stg scW mkW apW BK cl2 BW EI CM
variable {w0:World}
def OD:List Int:=[-1, -1, -1]
def B6 (g:Int):AU:=⟨false,g,0,0,0,0,OD,false⟩
def HO:Nat→List AU→List Int→List Int→List Int→List AU×List Int×List Int
 | 0,os,buf,freed,_=>(os,buf,freed)
 | f+1,os,buf,freed,todo=>match todo with
   | []=>(os,buf,freed)
   | id::todo=>if freed.length>8 then (os,buf,freed) else
     if AB os id<0 then HO f os buf freed todo else
     if w64 ((ob os (AB os id).toNat).count-1)>0 then
      (if (ob os (AB os id).toNat).purple=true then HO f (os.set (AB os id).toNat {ob os (AB os id).toNat with count:=w64 ((ob os (AB os id).toNat).count-1)}) buf freed todo
       else HO f (os.set (AB os id).toNat {ob os (AB os id).toNat with count:=w64 ((ob os (AB os id).toNat).count-1),purple:=true}) (buf++[id]) freed todo)
     else HO f (os.set (AB os id).toNat (B6 (ob os (AB os id).toNat).gen)) (buf.filter fun x=>decide (x≠id)) (freed++[id]) (todo++(ob os (AB os id).toNat).field.filter fun x=>decide (0≤x))
def mu (freed todo:List Int):Nat:=todo.length+4*(9-freed.length)
def GR (os:List AU) (buf ids:List Int):List AU×List Int×List Int:=HO (ids.length+37) os buf [] ids
theorem BL {l:List AU} {id:Int} (h:0≤AB l id):l.length=8∧8≤id∧AB l id=id % 8∧(AB l id).toNat<8∧(ob l (AB l id).toNat).live=true∧(ob l (AB l id).toNat).gen=id/8:=by
 unfold AB at h ⊢
 split at h
 ·omega
 ·split at h
  ·rename_i h1 h2
   rw [if_neg h1,if_pos h2]
   exact ⟨by omega,by omega,rfl,by omega,h2.1,h2.2⟩
  ·omega
structure OF (o:AU):Prop where
 gen:F64 o.gen
 len:o.field.length=3
 fld: ∀f∈o.field,F64 f
theorem OF.free {g:Int} (h:F64 g):OF (B6 g):=⟨h,rfl,by simp [B6,OD,F64]⟩
theorem G6 {l:List AU} {P:AU→Prop} {i:Nat} {o:AU} (h: ∀x∈l,P x) (ho:P o): ∀x∈l.set i o,P x:=fun x hx=>(List.mem_or_eq_of_mem_set hx).elim (h x) fun he=>he ▸ ho
structure LsI (R:List AU×List Int×List Int) (M:Nat) (q:List AU×List Int×List Int×List Int×Nat):Prop where
 ol:q.1.length=8
 of: ∀o∈q.1,OF o
 fr:q.2.2.1.length≤9
 off:q.2.2.2.2≤q.2.2.2.1.length
 td: ∀x∈q.2.2.2.1.drop q.2.2.2.2,F64 x
 sz:q.2.1.length+mu q.2.2.1 (q.2.2.2.1.drop q.2.2.2.2)≤M
 go: ∃f,mu q.2.2.1 (q.2.2.2.1.drop q.2.2.2.2)<f∧HO f q.1 q.2.1 q.2.2.1 (q.2.2.2.1.drop q.2.2.2.2)=R
theorem WR {l:List Int} {x:Int} {K:J2} (hl:(l.length:Int)≤2^40) (h:K [] [tI (l.filter fun y=>decide (y≠x))]):cl2 ⟨Try.prog,w0⟩ 172 FV.sg [I x] [tI l] K:=by
 refine FV.cl2 ?_
 unfold FV.txt
 simp only [AG,AM,AK,AP,AI,AD,AE,AR,AQ,AO,AL,AJ,AN,AH,BC,BF,BJ,BG,BH,BI,BE,A6,A7,A1,A4,A5,AZ]
 refine BB (fun i=>[I x,iv l.length,iv i]) (fun i=>[tI ((l.take i).filter fun y=>decide (y≠x))]) l.length (fun _=>True) rfl rfl trivial (fun R i hi _ hR=> ?_)
 have hln:=List.length_filter_le (fun y=>decide (y≠x)) (l.take i)
 have hlt2:(l.take i).length≤i:=by simp;omega
 simp only [AG,AM,AK,AP,AI,AD,AE,AR,AQ,AO,AL,AJ,AN,AH,BC,BF,BJ,BG,BH,BI,BE,A6,A7,A1,A4,A5,AZ]
 refine AX (AV (fun hlt=> ?_) fun hge=> ?_)
 ·have hlt:i<l.length:=by omega
  replace hR:=hR hlt trivial
  rw [List.take_succ_eq_append_getElem hlt,List.filter_append,EN hlt] at hR
  refine BP (AT hlt (ldI hlt (B8 (AV (fun he=> ?_) fun he=> ?_))))
  ·refine EM rfl (by omega) (BA (by omega) ?_)
   have e:([gI l i].filter fun y=>decide (y≠x))=[gI l i]:=by simp [he]
   rw [e, ←EG] at hR;exact hR
  ·refine BA (by omega) ?_
   have e:([gI l i].filter fun y=>decide (y≠x))=[]:=by simp at he;simp [he]
   rw [e,List.append_nil] at hR;exact hR
 ·have:i=l.length:=by omega
  subst this
  rw [List.take_length];exact h
theorem SS {l:List Int} {x:Int} {K:J2} (hl:(l.length:Int)≤2^40) (h:K [] [tI (l.filter fun y=>decide (y≠x))]):cl2 ⟨Try.prog,w0⟩ 167 D5.sg [I x] [tI l] K:=by
 refine D5.cl2 ?_
 unfold D5.txt
 simp only [AG,AM,AK,AP,AI,AD,AE,AR,AQ,AO,AL,AJ,AN,AH,BC,BF,BJ,BG,BH,BI,BE,A6,A7,A1,A4,A5,AZ]
 refine BB (fun i=>[I x,iv i]) (fun i=>[tI ((l.take i).filter fun y=>decide (y≠x))]) l.length (fun _=>True) rfl rfl trivial (fun R i hi _ hR=> ?_)
 have hln:=List.length_filter_le (fun y=>decide (y≠x)) (l.take i)
 have hlt2:(l.take i).length≤i:=by simp;omega
 simp only [AG,AM,AK,AP,AI,AD,AE,AR,AQ,AO,AL,AJ,AN,AH,BC,BF,BJ,BG,BH,BI,BE,A6,A7,A1,A4,A5,AZ]
 refine AX (AV (fun hlt=> ?_) fun hge=> ?_)
 ·have hlt:i<l.length:=by omega
  replace hR:=hR hlt trivial
  rw [List.take_succ_eq_append_getElem hlt,List.filter_append,EN hlt] at hR
  refine BP (AT hlt (ldI hlt (B8 (AV (fun he=> ?_) fun he=> ?_))))
  ·refine AT hlt (ldI hlt (EM rfl (by omega) (BA (by omega) ?_)))
   have e:([gI l i].filter fun y=>decide (y≠x))=[gI l i]:=by simp [he]
   rw [e, ←EG] at hR;exact hR
  ·refine BA (by omega) ?_
   have e:([gI l i].filter fun y=>decide (y≠x))=[]:=by simp at he;simp [he]
   rw [e,List.append_nil] at hR;exact hR
 ·have:i=l.length:=by omega
  subst this
  rw [List.take_length];exact h
theorem OM {g:Value} {K:J2} (h:K [.bool false,g,I 0,I 0,I 0,I 0, .bool false] [tI OD]):cl2 ⟨Try.prog,w0⟩ 99 GH.sg [g] [] K:=GH.cl2 h
theorem lL {l:List Int} {a:Nat} {K:Value→Prop} (ha:a<l.length) (h:K (I (gI l a))):ldc (tI l) [] (a+AA (iv 0)*1) K:=by
 have e:a+AA (iv 0)*1=AA (iv a)*1:=by rw [AY,AY];omega
 rw [e];exact ldI ha h
theorem drop_cons {l:List Int} {a:Nat} (ha:a<l.length):l.drop a=gI l a::l.drop (a+1):=by rw [List.drop_eq_getElem_cons ha,EN ha]
theorem YV {freed todo:List Int} {x:Int}:mu freed (x::todo)=mu freed todo+1:=by simp only [mu,List.length_cons];omega
theorem GG {l:List AU} {i:Nat} (h:i<l.length):ob l i∈l:=by rw [←DN h];exact List.getElem_mem h
theorem gT {l:List AU} {i:Nat} (h:i<l.length):tR tO l=tR tO (l.set i (ob l i)):=by rw [←DN h];exact pO h
theorem LsI.start {os:List AU} {buf ids:List Int} (hol:os.length=8) (hof: ∀o∈os,OF o) (hid: ∀x∈ids,F64 x):LsI (GR os buf ids) (buf.length+ids.length+36) (os,buf,[],ids,0):=
 ⟨hol,hof,Nat.zero_le _,Nat.zero_le _,by simpa using hid,by simp only [mu,List.drop_zero,List.length_nil];omega,ids.length+37,by simp only [mu,List.drop_zero,List.length_nil];omega,rfl⟩
section
variable {R:List AU×List Int×List Int} {M:Nat} {os:List AU} {buf freed row:List Int} {off:Nat}
theorem LsI.stop (h:LsI R M (os,buf,freed,row,off)) (hs:row.length≤off∨8<freed.length):R=(os,buf,freed):=by
 obtain ⟨_,_,_,_,_,_,f,hf,go⟩:=h
 simp only at hf go
 obtain ⟨f,rfl⟩: ∃f',f=f'+1:=⟨f-1,by omega⟩
 rcases hs with hs | hs
 ·rw [List.drop_of_length_le hs] at go
  rw [←go];rfl
 ·rw [←go]
  cases row.drop off with
  | nil=>rfl
  | cons x l=>simp only [HO,if_pos hs]
theorem LsI.step (h:LsI R M (os,buf,freed,row,off)) (hlt:off<row.length) (hfr:freed.length≤8):F64 (gI row off)∧ ∃f,mu freed (row.drop (off+1))<f∧HO (f+1) os buf freed (gI row off::row.drop (off+1))=R∧buf.length+mu freed (row.drop (off+1))+1≤M∧ ∀x∈row.drop (off+1),F64 x:=by
 obtain ⟨_,_,_,_,td,sz,f,hf,go⟩:=h
 simp only at td sz hf go
 rw [drop_cons hlt] at td sz hf go
 rw [YV] at sz hf
 obtain ⟨f,rfl⟩: ∃f',f=f'+1:=⟨f-1,by omega⟩
 exact ⟨td _ (by simp),f,by omega,go,by omega,fun x hx=>td x (by simp [hx])⟩
theorem LsI.skip (h:LsI R M (os,buf,freed,row,off)) (hlt:off<row.length) (hfr:freed.length≤8) (hs:AB os (gI row off)<0):LsI R M (os,buf,freed,row,off+1):=by
 obtain ⟨_,f,h1,h2,h3,h4⟩:=h.step hlt hfr
 rw [HO] at h2
 simp only at h2
 rw [if_neg (by omega),if_pos hs] at h2
 exact ⟨h.ol,h.of,h.fr,hlt,h4,by simp only;omega,f,h1,h2⟩
theorem LsI.KK (h:LsI R M (os,buf,freed,row,off)) (hlt:off<row.length) (hfr:freed.length≤8) (hs:0≤AB os (gI row off)) (hc:w64 ((ob os (AB os (gI row off)).toNat).count-1)>0) (hp:(ob os (AB os (gI row off)).toNat).purple=true):
  LsI R M (os.set (AB os (gI row off)).toNat {ob os (AB os (gI row off)).toNat with count:=w64 ((ob os (AB os (gI row off)).toNat).count-1)},buf,freed,row,off+1):=by
 obtain ⟨_,f,h1,h2,h3,h4⟩:=h.step hlt hfr
 have hk:=BL hs
 have ho:=h.of _ (GG (l:=os) (i:=(AB os (gI row off)).toNat) (by omega))
 rw [HO] at h2
 simp only at h2
 rw [if_neg (by omega),if_neg (by omega),if_pos hc,if_pos hp] at h2
 exact ⟨by simp only [List.length_set];exact h.ol,G6 h.of ⟨ho.gen,ho.len,ho.fld⟩,h.fr,hlt,h4,by simp only;omega,f,h1,h2⟩
theorem LsI.put (h:LsI R M (os,buf,freed,row,off)) (hlt:off<row.length) (hfr:freed.length≤8) (hs:0≤AB os (gI row off)) (hc:w64 ((ob os (AB os (gI row off)).toNat).count-1)>0) (hp:(ob os (AB os (gI row off)).toNat).purple=false):
  LsI R M (os.set (AB os (gI row off)).toNat {ob os (AB os (gI row off)).toNat with count:=w64 ((ob os (AB os (gI row off)).toNat).count-1),purple:=true},buf++[gI row off],freed,row,off+1):=by
 obtain ⟨_,f,h1,h2,h3,h4⟩:=h.step hlt hfr
 have hk:=BL hs
 have ho:=h.of _ (GG (l:=os) (i:=(AB os (gI row off)).toNat) (by omega))
 rw [HO] at h2
 simp only at h2
 rw [if_neg (by omega),if_neg (by omega),if_pos hc,if_neg (by rw [hp];decide)] at h2
 exact ⟨by simp only [List.length_set];exact h.ol,G6 h.of ⟨ho.gen,ho.len,ho.fld⟩,h.fr,hlt,h4,by simp only [List.length_append,List.length_singleton];omega,f,h1,h2⟩
theorem LsI.free (h:LsI R M (os,buf,freed,row,off)) (hlt:off<row.length) (hfr:freed.length≤8) (hs:0≤AB os (gI row off)) (hc: ¬w64 ((ob os (AB os (gI row off)).toNat).count-1)>0) {row':List Int} {off':Nat} (hrow:row'.drop off'=row.drop (off+1)++(ob os (AB os (gI row off)).toNat).field.filter fun x=>decide (0≤x)) (hle:off'≤row'.length):
  LsI R M (os.set (AB os (gI row off)).toNat (B6 (ob os (AB os (gI row off)).toNat).gen),buf.filter fun x=>decide (x≠gI row off),freed++[gI row off],row',off'):=by
 obtain ⟨_,f,h1,h2,h3,h4⟩:=h.step hlt hfr
 have hk:=BL hs
 have ho:=h.of _ (GG (l:=os) (i:=(AB os (gI row off)).toNat) (by omega))
 have hfl:=List.length_filter_le (fun x=>decide (0≤x)) (ob os (AB os (gI row off)).toNat).field
 have hbl:=List.length_filter_le (fun x=>decide (x≠gI row off)) buf
 rw [ho.len] at hfl
 rw [HO] at h2
 simp only at h2
 rw [if_neg (by omega),if_neg (by omega),if_neg hc] at h2
 have hmu:mu (freed++[gI row off]) (row'.drop off')≤mu freed (row.drop (off+1)):=by
  rw [hrow];simp only [mu,List.length_append,List.length_singleton];omega
 refine ⟨by simp only [List.length_set];exact h.ol,G6 h.of (OF.free ho.gen),by simp only [List.length_append,List.length_singleton];omega,hle,fun x hx=> ?_,by simp only;omega,f,by simp only;omega,by rw [←h2,hrow]⟩
 simp only at hx
 rw [hrow] at hx
 rcases List.mem_append.1 hx with hx | hx
 ·exact h4 x hx
 ·exact ho.fld x (List.mem_filter.1 hx).1
end
section
variable {cur:List AU} {k:Nat} {y:AU}
theorem fY (hk:k<cur.length):FL (tR tO (cur.set k y)) [k*8+6]=tI y.field:=by have:=OP (y:=y) hk;rwa [AY] at this
theorem l5 {i:Nat} {K:Value→Prop} (hk:k<cur.length) (hi:i<y.field.length) (h:K (I (gI y.field i))):ldc (tR tO (cur.set k y)) [k*8+6] i K:=by
 have:=L4 (l:=cur.set k y) (i:=k) (j:=i) (K:=K) (by simpa using hk) (by rw [←DN (by simpa using hk),List.getElem_set_self];exact hi) (by rw [←DN (by simpa using hk),List.getElem_set_self];exact h)
 simpa only [AY,Nat.mul_one] using this
theorem qO {K:Value→Prop} (hk:k<cur.length) (h:K (I y.gen)):ldc (tR tO (cur.set k y)) [] (k*8+1) K:=by
 have:=H0 (f:=tO) (K:=K) (c:=1) (y:=y) hk (by decide) rfl h
 rwa [AY] at this
theorem qS {ts:List T} {z:AU} {K:List T→Prop} (hk:k<cur.length) (hy:ts=tO z) (h:K (tR tO (cur.set k z))):stg (tR tO (cur.set k y)) [] (k*8) ts K:=by
 have:=LZ (f:=tO) (l:=cur.set k y) (K:=K) (by simpa using hk) hy (by rw [List.set_set];exact h)
 rwa [AY] at this
theorem OU (l:List Int) (a m:Nat):GD (tI l) [] a m=tI ((l.drop a).take m):=by simp [GD,node,tI,List.map_drop,List.map_take]
end
theorem OK {os:List AU} {buf ids:List Int} {b d:List T} {K:J2} (hol:os.length=8) (hof: ∀o∈os,OF o) (hb:buf.length≤2^30) (hi:ids.length≤2^30) (hid: ∀x∈ids,F64 x) (h:K [] [tI (GR os buf ids).2.2,tR tO (GR os buf ids).1,tI (GR os buf ids).2.1]):cl2 ⟨Try.prog,w0⟩ 164 C6.sg [] [tR tO os,b,tI buf,d,tI ids] K:=by
 refine C6.cl2 ?_
 unfold C6.txt
 refine HN (by omega) ?_
 obtain ⟨R,hR0⟩: ∃R,GR os buf ids=R:=⟨_,rfl⟩
 have st:=LsI.start (buf:=buf) hol hof hid
 rw [hR0] at st h
 simp only [AG,AM,AK,AP,AI,AD,AE,AR,AQ,AO,AL,AJ,AN,AH,BC,BF,BJ,BG,BH,BI,BE,A6,A7,A1,A4,A5,AZ]
 refine FD (α:=List AU×List Int×List Int×List Int×Nat) (fun q=>[iv (q.2.2.2.1.length-q.2.2.2.2),iv q.2.2.2.2]) (fun q=>[tI q.2.2.1,tI q.2.2.2.1,tR tO q.1,tI q.2.1]) (fun q=>mu q.2.2.1 (q.2.2.2.1.drop q.2.2.2.2)) (LsI R (buf.length+ids.length+36)) (os,buf,[],ids,0) rfl rfl st (fun Rr q hq hR=> ?_)
 obtain ⟨os,bf,freed,row,off⟩:=q
 have hq':LsI R (buf.length+ids.length+36) (os,bf,freed,row,off):=hq
 obtain ⟨ol,of,fr,ofl,td,sz,_⟩:=id hq'
 simp only at ol of fr ofl td sz
 have hmz:mu freed (row.drop off)=(row.length-off)+4*(9-freed.length):=by simp [mu]
 simp only [AG,AM,AK,AP,AI,AD,AE,AR,AQ,AO,AL,AJ,AN,AH,BC,BF,BJ,BG,BH,BI,BE,A6,A7,A1,A4,A5,AZ]
 simp only [AY]
 refine IF (BO (BO (I1 (fun hlt=> ?_) fun hge=> ?_)))
 rotate_left
 ·refine C5 hge rfl (BU ?_)
  have:=hq'.stop (.inl (by
   have: ¬(((row.length-off:Nat):Int)>0):=hge
   omega))
  rw [this] at h;exact h
 have hlt':off<row.length:=by
  have:((row.length-off:Nat):Int)>0:=hlt
  omega
 refine GQ (C4 hlt rfl (AV (fun h8=> ?_) fun h8=> ?_))
 rotate_left
 ·have:=hq'.stop (.inr (by omega))
  rw [this] at h;exact h
 have h8':freed.length≤8:=by omega
 obtain ⟨hidf,_⟩:=hq'.step hlt' h8'
 refine AT (j:=0) (by omega) (lL hlt' (qV (by omega) (CQ hidf (by omega) ?_)))
 have e1:off+AA (iv 1)*1=off+1:=by rw [AY]
 have e2:row.length-off-1=row.length-(off+1):=by omega
 simp only [AY,e2,Nat.mul_one,BC]
 have mu1:mu freed (row.drop (off+1))<mu freed (row.drop off):=by rw [drop_cons hlt',YV];omega
 refine AX (AV (fun hs=>hR (os,bf,freed,row,off+1) (hq'.skip hlt' h8' hs) mu1) fun hs=> ?_)
 have hs':0≤AB os (gI row off):=by omega
 have hk:=BL hs'
 have n1:=hq'.KK hlt' h8' hs'
 have n2:=hq'.put hlt' h8' hs'
 have n3:=fun hc row' off'=>hq'.free hlt' h8' hs' hc (row':=row') (off':=off')
 have hobf:=of _ (GG (l:=os) (i:=(AB os (gI row off)).toNat) (by omega))
 generalize hgid:gI row off=id at*
 obtain ⟨k,hkk⟩: ∃k,(AB os id).toNat=k:=⟨_,rfl⟩
 have hkI:AB os id=(k:Int):=by omega
 rw [hkk] at hk n1 n2 n3 hobf
 rw [hkI]
 have hkl:k<os.length:=by omega
 rw [gT hkl]
 generalize ho:ob os k=o at*
 refine AT (by omega) (H0 (i:=k) hkl (by decide) rfl (V5 (G8 hkl ?_)))
 generalize hcc:w64 (o.count-1)=c at*
 refine H0 (v:=I c) (i:=k) hkl (by decide) rfl ?_
 refine IF (BO (BO (BO (I1 (fun hc=> ?_) fun hc=> ?_))))
 ·refine H0 (v:= .bool o.purple) (i:=k) hkl (by decide) rfl (H4 hc (B1 (C4 hc rfl ?_)))
  cases hp:o.purple with
  | false=>
    refine BX (OE hkl (EM rfl (by omega) ?_))
    have:=hR _ (n2 hc hp) (by simp only;exact mu1)
    simp only at this
    rw [←EG] at this
    exact this
  | true=>
    refine BU (H0 (v:=I c) (i:=k) hkl (by decide) rfl (GQ (DQ (by omega) ?_)))
    have:=hR _ (n1 hc hp) (by simp only;exact mu1)
    simp only [hp] at this
    exact this
 ·refine ML hc (C5 hc rfl (BU (H0 (v:=I c) (i:=k) hkl (by decide) rfl (GQ (DA (by omega) (EM rfl (by omega) (UB (i:=k) hkl (by decide) rfl ?_)))))))
  rw [OP hkl,AD]
  have hfl:o.field.length=3:=hobf.len
  rw [hfl]
  refine FD (α:=Nat×List Int×Nat) (fun q=>[iv (q.2.1.length-q.2.2),iv q.2.2,I id,iv (k*8),iv (k*8+6),iv 3,iv q.1]) (fun q=>[tI (freed++[id]),tI q.2.1,tR tO (os.set k {o with count:=c}),tI bf]) (fun q=>3-q.1) (fun q=>q.1≤3∧q.2.2≤q.2.1.length∧q.2.1.drop q.2.2=row.drop (off+1)++(o.field.take q.1).filter fun x=>decide (0≤x)) (0,row,off+1) ?_ ?_ ⟨by omega,hlt',by simp⟩ (fun R2 q hq2 hR2=> ?_)
  ·rfl
  ·simp only [EG]
  obtain ⟨i,rw',of'⟩:=q
  obtain ⟨hi3,hof',hdr⟩:=hq2
  simp only at hi3 hof' hdr
  have hrl:rw'.length-of'≤row.length-(off+1)+3:=by
   have e:=congrArg List.length hdr
   have:=List.length_filter_le (fun x=>decide (0≤x)) (o.field.take i)
   simp only [List.length_drop,List.length_append,List.length_take] at e this
   omega
  simp only [AG,AM,AK,AP,AI,AD,AE,AR,AQ,AO,AL,AJ,AN,AH,BC,BF,BJ,BG,BH,BI,BE,A6,A7,A1,A4,A5,AZ]
  simp only [AY]
  refine AX (AV (fun hlt=> ?_) fun hge=> ?_)
  ·have hlt:i<o.field.length:=by omega
   have hfx:=hobf.fld _ (DT hlt)
   refine BP ?_
   simp only [fY hkl,AD,OU]
   have ed:(rw'.drop of').take (rw'.length-of')=rw'.drop of':=by rw [←List.length_drop,List.take_length]
   rw [ed]
   have ea:tI (rw'.drop of')++[T.c (I (gI o.field i))]=tI (rw'.drop of'++[gI o.field i]):=EG _ _
   refine AT hlt (l5 hkl hlt ?_)
   simp only [AY]
   refine K3 (AV (fun hp=> ?_) fun hp=> ?_)
   ·refine EM rfl (by omega) ?_
    have:=hR2 (i+1,rw'.drop of'++[gI o.field i],0) ⟨by simp only;omega,by simp only;omega,by simp only [List.drop_zero];rw [hdr,List.take_succ_eq_append_getElem hlt,List.filter_append, ←List.append_assoc,EN hlt];congr 1;simp [hp]⟩ (by simp only;omega)
    refine BA (by omega) ?_
    rw [ea]
    simp only [AG,AM,AK,AP,AI,AD,AE,AR,AQ,AO,AL,AJ,AN,AH,BC,BF,BJ,BG,BH,BI,BE,A6,A7,A1,A4,A5,AZ]
    simp only [AY]
    exact this
   ·have:=hR2 (i+1,rw',of') ⟨by simp only;omega,hof',by simp only;rw [hdr,List.take_succ_eq_append_getElem hlt,List.filter_append, ←List.append_assoc,EN hlt];simp;omega⟩ (by simp only;omega)
    refine BA (by omega) ?_
    simp only [AG,AM,AK,AP,AI,AD,AE,AR,AQ,AO,AL,AJ,AN,AH,BC,BF,BJ,BG,BH,BI,BE,A6,A7,A1,A4,A5,AZ]
    simp only [AY]
    exact this
  ·have:i=o.field.length:=by omega
   subst this
   rw [List.take_length] at hdr
   refine WR (by omega) (qO hkl (OM (qS hkl (z:=B6 o.gen) rfl ?_)))
   exact hR _ (n3 hc _ _ hdr hof') (by simp only;rw [hdr];simp only [mu,List.length_append,List.length_singleton] at mu1 ⊢;have:=List.length_filter_le (fun x=>decide (0≤x)) o.field;omega)
end Go.Proofs.Ytklmcfpgdfibnaa.P
