/- A part of the proof. -/
import Derived.Test.YtnhicpkhkaihoaaGreatRcHpI
namespace Go.Proofs.YtnhicpkhkaihoaaGreat.P
open Go Go.Proofs.YtnhicpkhkaihoaaGreat Go.Proofs.YtnhicpkhkaihoaaGreat.Eng
set_option linter.unusedVariables false
set_option maxHeartbeats 4000000
set_option linter.unusedVariables false
set_option linter.unusedSimpArgs false
attribute [local irreducible] prP gP gE gF AG ixW ldc ldg ldl stc stg scW mkW apW BB cl2 BY FT DG
variable {w0:World}
def O2 (n:Nat) (p:Nat→Bool):Int:=match (List.range n).find? p with
 | some i=>(i:Int)
 | none=> -1
theorem OO {n i:Nat} {p:Nat→Bool} (hi:i<n) (h:p i=true) (hb: ∀k,k<i→p k=false):O2 n p=i:=by
 have:(List.range n).find? p=some i:=List.find?_range_eq_some.2 ⟨h,List.mem_range.2 hi,fun j hj=>by rw [hb j hj];rfl⟩
 rw [O2,this]
theorem SB {n:Nat} {p:Nat→Bool} (hb: ∀k,k<n→p k=false):O2 n p= -1:=by
 have:(List.range n).find? p=none:=List.find?_range_eq_none.2 fun j hj=>by rw [hb j hj];rfl
 rw [O2,this]
theorem U3 (n:Nat) (p:Nat→Bool):(O2 n p= -1∧ ∀k,k<n→p k=false)∨ ∃i,i<n∧O2 n p=(i:Int)∧p i=true∧ ∀k,k<i→p k=false:=by
 cases h:(List.range n).find? p with
 | none=>exact .inl ⟨by rw [O2,h],fun k hk=>by have:=List.find?_range_eq_none.1 h k hk;simpa using this⟩
 | some i=>
   obtain ⟨h1,h2,h3⟩:=List.find?_range_eq_some.1 h
   exact .inr ⟨i,List.mem_range.1 h2,by rw [O2,h],h1,fun k hk=>by have:=h3 k hk;simpa using this⟩
def KC (os:List AZ) (i:Nat):Bool:= !(ob os i).live&&decide ((ob os i).gen<999)
def CF (os:List AZ):Int:=O2 os.length (KC os)
def J7 (ws:List Wk):Int:=O2 ws.length fun i=> !(wk ws i).used
theorem W4 {os:List AZ} {b c d:List T} {K:J2} (hol:os.length=8) (h:K [I (CF os)] []):cl2 ⟨Tryz.prog,w0⟩ 167 FU.sg [] [tR tO os,b,c,d] K:=by
 refine FU.cl2 ?_
 unfold FU.txt
 simp only [AK,AQ,AN,AP,AS,AE,AI,AU,AL,AV,AT,AM,AR,AO,BF,BM,BL,BI,BK,BJ,BG,A7,A4,A5,A8,A6,A9]
 refine AY (fun i=>[iv os.length,iv i]) (fun _=>[]) os.length (fun i=> ∀k,k<i→KC os k=false) rfl rfl (fun k hk=>by omega) (fun R i hi hP hR=> ?_)
 simp only [AK,AQ,AN,AP,AS,AE,AI,AU,AL,AV,AT,AM,AR,AO,BF,BM,BL,BI,BK,BJ,BG,A7,A4,A5,A8,A6,A9]
 refine AJ (AW (fun hlt=> ?_) fun hge=> ?_)
 ·have hlt:i<os.length:=by omega
  refine AH hlt (RF hlt ?_)
  simp only [pX,p9]
  have no:KC os i=false→R [iv os.length,iv (i+1)] []:=fun hn=>hR hlt fun k hk=>(Nat.lt_succ_iff_lt_or_eq.1 hk).elim (hP k) fun he=>he ▸ hn
  have yes:KC os i=true→K [iv i] []:=fun hy=>by unfold CF at h;rw [OO hlt hy hP] at h;exact h
  cases hv:(ob os i).live with
  | false=>
    repeat' (first | refine B2 ?_ | refine QM ?_ | refine KQ (by first | with_reducible assumption | omega) ?_ | refine EE (by first | with_reducible assumption | omega) rfl ?_ | refine aP rfl ?_ | refine AJ ?_ | refine AX (by omega) ?_ | refine AW (fun _=> ?_) (fun _=> ?_) | refine BP ?_)
    ·exact yes (by simp [KC,hv];omega)
    ·exact no (by simp [KC,hv];omega)
  | true=>
    repeat' (first | refine B2 ?_ | refine QO ?_ | refine KQ (by first | with_reducible assumption | omega) ?_ | refine EE (by first | with_reducible assumption | omega) rfl ?_ | refine oI rfl ?_ | refine BO ?_ | refine AJ ?_ | refine AX (by omega) ?_ | refine BP ?_)
    all_goals exact no (by simp [KC,hv])
 ·have:i=os.length:=by omega
  subst this
  unfold CF at h
  rw [SB hP] at h;exact h
theorem XB {os:List AZ} {b c d:List T} {K:J2} (hol:os.length=8) (h:K [I (CF os)] []):cl2 ⟨Tryz.prog,w0⟩ 157 F5.sg [] [tR tO os,b,c,d] K:=by
 refine F5.cl2 ?_
 unfold F5.txt
 simp only [AK,AQ,AN,AP,AS,AE,AI,AU,AL,AV,AT,AM,AR,AO,BF,BM,BL,BI,BK,BJ,BG,A7,A4,A5,A8,A6,A9]
 refine AY (fun i=>[iv i]) (fun _=>[]) os.length (fun i=> ∀k,k<i→KC os k=false) rfl rfl (fun k hk=>by omega) (fun R i hi hP hR=> ?_)
 simp only [AK,AQ,AN,AP,AS,AE,AI,AU,AL,AV,AT,AM,AR,AO,BF,BM,BL,BI,BK,BJ,BG,A7,A4,A5,A8,A6,A9]
 refine AJ (B2 (NT (fun hlt=> ?_) fun hge=> ?_))
 ·have hlt':i<os.length:=by omega
  refine AJ (EE hlt rfl (CZ (by omega) ?_))
  have no:KC os i=false→R [iv (i+1)] []:=fun hn=>hR hlt' fun k hk=>(Nat.lt_succ_iff_lt_or_eq.1 hk).elim (hP k) fun he=>he ▸ hn
  have yes:KC os i=true→K [iv i] []:=fun hy=>by unfold CF at h;rw [OO hlt' hy hP] at h;exact h
  refine AH hlt' ?_
  cases hv:(ob os i).live with
  | false=>
    refine MT (v:= .bool false) hlt' (by simp [tO,hv]) (BP ?_)
    repeat' (first | refine AH hlt' ?_ | refine JF (v:=I (ob os i).gen) hlt' (by decide) rfl ?_ | refine B2 ?_ | refine QM ?_ | refine aP rfl ?_ | refine AJ ?_ | refine AX (by omega) ?_ | refine AW (fun _=> ?_) (fun _=> ?_))
    ·exact yes (by simp [KC,hv];omega)
    ·exact no (by simp [KC,hv];omega)
  | true=>
    refine MT (v:= .bool true) hlt' (by simp [tO,hv]) (BP ?_)
    repeat' (first | refine B2 ?_ | refine QO ?_ | refine oI rfl ?_ | refine BO ?_ | refine AX (by omega) ?_)
    all_goals exact no (by simp [KC,hv])
 ·refine EJ hge rfl (BO ?_)
  have:i=os.length:=by omega
  subst this
  unfold CF at h
  rw [SB hP] at h;exact h
theorem XC {ws:List Wk} {K:J2} (hol:ws.length=8) (h:K [I (J7 ws)] []):cl2 ⟨Tryz.prog,w0⟩ 171 FN.sg [] [tR tW ws] K:=by
 refine FN.cl2 ?_
 unfold FN.txt
 simp only [AK,AQ,AN,AP,AS,AE,AI,AU,AL,AV,AT,AM,AR,AO,BF,BM,BL,BI,BK,BJ,BG,A7,A4,A5,A8,A6,A9]
 refine AY (fun i=>[iv ws.length,iv i]) (fun _=>[]) ws.length (fun i=> ∀k,k<i→(!(wk ws k).used)=false) rfl rfl (fun k hk=>by omega) (fun R i hi hP hR=> ?_)
 simp only [AK,AQ,AN,AP,AS,AE,AI,AU,AL,AV,AT,AM,AR,AO,BF,BM,BL,BI,BK,BJ,BG,A7,A4,A5,A8,A6,A9]
 refine AJ (AW (fun hlt=> ?_) fun hge=> ?_)
 ·have hlt:i<ws.length:=by omega
  refine AH hlt (qN hlt ?_)
  simp only [wQ]
  cases hv:(wk ws i).used with
  | false=>
    refine BP (B3 ?_)
    unfold J7 at h
    rw [OO hlt (by rw [hv];rfl) hP] at h;exact h
  | true=>
    refine BP (BO (AX (by omega) (hR hlt fun k hk=> ?_)))
    rcases Nat.lt_succ_iff_lt_or_eq.1 hk with h3 | rfl
    ·exact hP k h3
    ·rw [hv];rfl
 ·have:i=ws.length:=by omega
  subst this
  unfold J7 at h
  rw [SB hP] at h;exact h
theorem B7 {n:Int} {K:J2} (h:K [I n,I 0] [[]]):cl2 ⟨Tryz.prog,w0⟩ 85 BX.sg [I n] [] K:=BX.cl2 h
def MX (g s:Int):AZ:=⟨true,g,s,1,0,1,QK,false⟩
def GJ (os:List AZ) (ss:List ByteArray) (s:ByteArray):List AZ×List ByteArray×An:=
 if ¬(1≤(s.size:Int)∧(s.size:Int)≤8) then (os,ss,⟨2,0,[]⟩)
 else if CF os<0 then (os,ss,⟨3,0,[]⟩)
 else if at_ ss s<0∧6≤ss.length then (os,ss,⟨6,0,[]⟩)
 else (os.set (CF os).toNat (MX (w64 ((ob os (CF os).toNat).gen+1)) (if at_ ss s<0 then ss.length else at_ ss s)),(if at_ ss s<0 then ss++[s] else ss),⟨0,C0 (CF os) (w64 ((ob os (CF os).toNat).gen+1)),[]⟩)
theorem RM {os:List AZ} (h: ¬CF os<0):(CF os).toNat<os.length∧CF os=((CF os).toNat:Int)∧KC os (CF os).toNat=true:=by
 rcases U3 os.length (KC os) with ⟨h1,_⟩ | ⟨i,h1,h2,h3,_⟩
 ·unfold CF at h;omega
 ·have e:CF os=i:=h2
  have e2:(CF os).toNat=i:=by omega
  rw [e2];exact ⟨h1,e,h3⟩
theorem eB {os:List AZ} {b c:List T} {ss:List ByteArray} {s:ByteArray} {K:J2} (hol:os.length=8) (hsl:ss.length≤6) (h:K [I (GJ os ss s).2.2.code,I (GJ os ss s).2.2.val] [tI (GJ os ss s).2.2.freed,tR tO (GJ os ss s).1,tS (GJ os ss s).2.1]):cl2 ⟨Tryz.prog,w0⟩ 126 D5.sg [.string s] [tR tO os,b,c,tS ss] K:=by
 refine D5.cl2 ?_
 unfold D5.txt
 refine W4 hol (OS (by omega) (BV ?_))
 simp only [AK,AQ,AN,AP,AS,AE,AI,AU,AL,AV,AT,AM,AR,AO,BF,BM,BL,BI,BK,BJ,BG,A7,A4,A5,A8,A6,A9]
 unfold GJ at h
 refine HE (IH (CM (AW (fun hb=> ?_) fun hb=> ?_)))
 ·rw [if_pos hb] at h
  exact B7 h
 rw [if_neg hb] at h
 refine AJ (AW (fun hf=> ?_) fun hf=> ?_)
 ·rw [if_pos hf] at h
  exact B7 h
 rw [if_neg hf] at h
 obtain ⟨f1,f2,f3⟩:=RM hf
 refine AJ ?_
 by_cases ha:at_ ss s<0
 ·by_cases h6:6≤ss.length
  ·rw [if_pos ⟨ha,h6⟩] at h
   repeat' (first | exact B7 h | refine B2 ?_ | refine KQ (by first | with_reducible assumption | omega) ?_ | refine EE (by first | with_reducible assumption | omega) rfl ?_ | refine CZ (by first | with_reducible assumption | omega) ?_ | refine FB ?_)
   all_goals omega
  ·rw [if_neg (by omega),if_pos ha,if_pos ha] at h
   repeat' (first | refine B2 ?_ | refine KQ (by first | with_reducible assumption | omega) ?_ | refine EE (by first | with_reducible assumption | omega) rfl ?_ | refine CZ (by first | with_reducible assumption | omega) ?_ | refine BZ (by first | with_reducible assumption | omega) ?_ | refine AJ ?_ | refine FB ?_ | refine I5 ?_ | refine WH (by omega) (by omega) ?_ | refine JF (by omega) (by decide) rfl ?_ | refine FC (by first | exact ON _ | exact RZ _ | exact fJ _ | exact uC _ | rfl) (by omega) ?_)
   exact MN (y:=MX (w64 ((ob os (CF os).toNat).gen+1)) ss.length) (by omega) rfl (OC (by rw [←XJ] at h;exact h))
 ·rw [if_neg (by omega),if_neg ha,if_neg ha] at h
  repeat' (first | refine B2 ?_ | refine QJ (by first | with_reducible assumption | omega) ?_ | refine EJ (by first | with_reducible assumption | omega) rfl ?_ | refine BO ?_ | refine BZ (by first | with_reducible assumption | omega) ?_ | refine AJ ?_ | refine I5 ?_ | refine WH (by omega) (by omega) ?_ | refine JF (by omega) (by decide) rfl ?_)
  exact MN (y:=MX (w64 ((ob os (CF os).toNat).gen+1)) (at_ ss s)) (by omega) rfl (OC h)
theorem uQ {l:List ByteArray} {x s:ByteArray} (h:x∉l):at_ (l++[x]) s=if x=s then (l.length:Int) else at_ l s:=by
 unfold at_
 by_cases hs:s∈l
 ·rw [if_pos (List.mem_append_left _ hs),if_pos hs,List.idxOf_append,if_pos hs,if_neg (show ¬x=s from fun he=>h (he ▸ hs))]
 ·by_cases hx:x=s
  ·rw [if_pos (by simp [hx]),if_pos hx,List.idxOf_append,if_neg hs]
   simp [hx]
  ·rw [if_neg (by simp [hs,Ne.symm hx]),if_neg hx,if_neg hs]
theorem YA {os:List AZ} {b c:List T} {ss:List ByteArray} {s:ByteArray} {k1 k2 k3 k4:Int} {K:J2} (hol:os.length=8) (hss:OB ss) (h:K [I (GJ os ss s).2.2.code,I (GJ os ss s).2.2.val] [tR tO (GJ os ss s).1,tS (GJ os ss s).2.1,tI (GJ os ss s).2.2.freed]):cl2 ⟨Tryz.prog,w0⟩ 104 GM.sg [I k1,I k2,I k3,I k4, .string s] [tR tO os,b,c,tS ss] K:=by
 have hsl:=hss.len
 refine GM.cl2 ?_
 unfold GM.txt
 unfold GJ at h
 refine HE (DA (CM (AW (fun hb=> ?_) fun hb=> ?_)))
 ·rw [if_pos hb] at h
  exact h
 rw [if_neg hb] at h
 refine XB hol (AJ (AW (fun hf=> ?_) fun hf=> ?_))
 ·rw [if_pos hf] at h
  exact h
 rw [if_neg hf] at h
 obtain ⟨f1,f2,f3⟩:=RM hf
 refine AY (fun i=>[I (CF os),I (at_ (ss.take i) s),iv i,I k1,I k2,I k3,I k4, .string s,I 0,I 0]) (fun _=>[tR tO os,tS ss]) ss.length (fun i=>True) rfl rfl trivial (fun R i hi hP hR=> ?_)
 simp only [AK,AQ,AN,AP,AS,AE,AI,AU,AL,AV,AT,AM,AR,AO,BF,BM,BL,BI,BK,BJ,BG,A7,A4,A5,A8,A6,A9]
 simp only [BG,yO,yD,yF]
 refine AJ (AW (fun hlt=> ?_) fun hge=> ?_)
 ·have hlt:i<ss.length:=by omega
  replace hR:=hR hlt trivial
  have hone:=hss.one i hlt
  rw [List.take_succ_eq_append_getElem hlt,S7 hlt,uQ hone] at hR
  refine BV (AH hlt (ldS hlt (Q2 (AW (fun he=> ?_) fun he=> ?_))))
  ·rw [if_pos he,List.length_take,Nat.min_eq_left hi] at hR
   exact AX (by omega) hR
  ·rw [if_neg he] at hR
   exact AX (by omega) hR
 ·have:i=ss.length:=by omega
  subst this
  rw [List.take_length]
  refine AJ ?_
  by_cases ha:at_ ss s<0
  ·by_cases h6:6≤ss.length
   ·rw [if_pos ⟨ha,h6⟩] at h
    repeat' (first | exact h | refine B2 ?_ | refine KQ (by first | with_reducible assumption | omega) ?_ | refine EE (by first | with_reducible assumption | omega) rfl ?_ | refine CZ (by first | with_reducible assumption | omega) ?_ | refine FB ?_)
    all_goals omega
   ·rw [if_neg (by omega),if_pos ha,if_pos ha] at h
    refine B2 (B2 (B2 (KQ ha (JT (EE ha rfl (BZ (by omega) (BV (AJ (CZ ha (FC rfl (by omega) ?_))))))))))
    repeat' (first | refine KE ?_ | refine I5 ?_ | refine WH (by omega) (by omega) ?_ | refine JF (by omega) (by decide) rfl ?_ | simp only [AK,AQ,AN,AP,AS,AE,AI,AU,AL,AV,AT,AM,AR,AO,BF,BM,BL,BI,BK,BJ,BG,A7,A4,A5,A8,A6,A9])
    rw [←XJ] at h
    exact MN (y:=MX (w64 ((ob os (CF os).toNat).gen+1)) ss.length) (by omega) rfl (MG h)
  ·rw [if_neg (by omega),if_neg ha,if_neg ha] at h
   refine B2 (B2 (B2 (QJ ha (EJ ha rfl (BO (BV (AJ (BZ (by omega) ?_))))))))
   repeat' (first | refine KE ?_ | refine I5 ?_ | refine WH (by omega) (by omega) ?_ | refine JF (by omega) (by decide) rfl ?_ | simp only [AK,AQ,AN,AP,AS,AE,AI,AU,AL,AV,AT,AM,AR,AO,BF,BM,BL,BI,BK,BJ,BG,A7,A4,A5,A8,A6,A9])
   exact MN (y:=MX (w64 ((ob os (CF os).toNat).gen+1)) (at_ ss s)) (by omega) rfl (MG h)
def sT (r:List AZ×List Int×List Int):List AZ×List Int×An:=(r.1,r.2.1,⟨0,0,r.2.2⟩)
def JQ (os:List AZ) (buf:List Int) (kind id:Int):List AZ×List Int×An:=
 if AB os id<0 then (os,buf,⟨1,0,[]⟩) else
 if kind=2 then
  if (ob os (AB os id).toNat).holds=20 then (os,buf,⟨4,0,[]⟩) else (DQ (os.set (AB os id).toNat {ob os (AB os id).toNat with holds:=(ob os (AB os id).toNat).holds+1}) id,buf,⟨0,0,[]⟩)
 else if kind=5 then
  if (ob os (AB os id).toNat).roots=20 then (os,buf,⟨4,0,[]⟩) else (DQ (os.set (AB os id).toNat {ob os (AB os id).toNat with roots:=(ob os (AB os id).toNat).roots+1}) id,buf,⟨0,0,[]⟩)
 else if kind=3 then
  if (ob os (AB os id).toNat).holds=0 then (os,buf,⟨5,0,[]⟩) else sT (IA (os.set (AB os id).toNat {ob os (AB os id).toNat with holds:=(ob os (AB os id).toNat).holds-1}) buf [id])
 else
  if (ob os (AB os id).toNat).roots=0 then (os,buf,⟨5,0,[]⟩) else sT (IA (os.set (AB os id).toNat {ob os (AB os id).toNat with roots:=(ob os (AB os id).toNat).roots-1}) buf [id])
theorem stH {os:List AZ} {k:Nat} {v:Int} {K:List T→Prop} (hk:k<os.length) (h:K (tR tO (os.set k {ob os k with holds:=v}))):stc (tR tO os) [] (AA (iv (AA (iv k)*8+3))) (I v) K:=by
 rw [A1 (AA (iv k)*8+3), ←D9 hk] at*;exact cN hk h
theorem stR {os:List AZ} {k:Nat} {v:Int} {K:List T→Prop} (hk:k<os.length) (h:K (tR tO (os.set k {ob os k with roots:=v}))):stc (tR tO os) [] (AA (iv (AA (iv k)*8+4))) (I v) K:=by
 rw [A1 (AA (iv k)*8+4), ←D9 hk] at*;exact VU hk (by decide) rfl rfl h
theorem YI {os:List AZ} {buf:List Int} {b d:List T} {kind id:Int} {K:J2} (hol:os.length=8) (hof: ∀o∈os,OF o) (hb:buf.length≤100) (hid:F64 id) (hkd:kind=2∨kind=3∨kind=5∨kind=6) (hr: ∀i,(0≤(ob os i).holds∧(ob os i).holds≤20)∧(0≤(ob os i).roots∧(ob os i).roots≤20)) (h:K [I (JQ os buf kind id).2.2.code,I (JQ os buf kind id).2.2.val] [tI (JQ os buf kind id).2.2.freed,tR tO (JQ os buf kind id).1,tI (JQ os buf kind id).2.1]):cl2 ⟨Tryz.prog,w0⟩ 127 C5.sg [I kind,I id] [tR tO os,b,tI buf,d] K:=by
 refine C5.cl2 ?_
 unfold C5.txt
 simp only [AK,AQ,AN,AP,AS,AE,AI,AU,AL,AV,AT,AM,AR,AO,BF,BM,BL,BI,BK,BJ,BG,A7,A4,A5,A8,A6,A9]
 unfold JQ at h
 refine DF hid (by omega) (AJ (AW (fun hs=> ?_) fun hs=> ?_))
 ·rw [if_pos hs] at h
  exact B7 h
 rw [if_neg hs] at h
 have hkb:=BN (l:=os) (id:=id) (by omega)
 obtain ⟨k,hkk⟩: ∃k,(AB os id).toNat=k:=⟨_,rfl⟩
 have hkI:AB os id=(k:Int):=by omega
 rw [hkk] at h hkb
 have hkl:k<os.length:=by omega
 have hrk:=hr k
 have ho:=hof _ (HK (l:=os) (i:=k) (by omega))
 obtain ⟨⟨r1,r2⟩,r3,r4⟩:=hrk
 rw [BF,hkI]
 refine AH (by omega) (BV ?_)
 simp only [AK,AQ,AN,AP,AS,AE,AI,AU,AL,AV,AT,AM,AR,AO,BF,BM,BL,BI,BK,BJ,BG,A7,A4,A5,A8,A6,A9]
 rcases hkd with rfl | rfl | rfl | rfl
 ·simp only [if_true] at h
  repeat' (first | refine B2 ?_ | refine QI ?_ | refine WI ?_ | refine EE (by first | with_reducible assumption | omega) rfl ?_ | refine EJ (by first | with_reducible assumption | omega) rfl ?_ | refine B3 ?_ | refine BO ?_ | refine BW ?_ | refine CC ⟨by omega,by omega⟩ ?_ | refine JF (by omega) (by decide) rfl ?_ | refine AW (fun _=> ?_) (fun _=> ?_))
  ·rename_i h20
   rw [if_pos h20] at h
   exact B7 h
  ·rename_i h20
   rw [if_neg h20] at h
   exact stH hkl (RI hid (by simpa using hol) h)
 ·simp only [if_neg (show ¬(3:Int)=2 by decide),if_neg (show ¬(3:Int)=5 by decide),if_true] at h
  repeat' (first | refine B2 ?_ | refine QI ?_ | refine EJ (by first | with_reducible assumption | omega) rfl ?_ | refine BO ?_ | refine BW ?_ | refine CC ⟨by omega,by omega⟩ ?_ | refine JF (by omega) (by decide) rfl ?_ | refine AW (fun _=> ?_) (fun _=> ?_))
  ·rename_i h20
   rw [if_pos h20] at h
   exact B7 h
  ·rename_i h20
   rw [if_neg h20] at h
   exact stH hkl (RG (buf:=buf) (ids:=[id]) (by simpa using hol) (IG hof ⟨ho.gen,ho.len,ho.fld⟩) (by omega) (by simp) (by simpa using hid) h)
 ·simp only [if_neg (show ¬(5:Int)=2 by decide),if_true] at h
  repeat' (first | refine B2 ?_ | refine QI ?_ | refine WI ?_ | refine EE (by first | with_reducible assumption | omega) rfl ?_ | refine EJ (by first | with_reducible assumption | omega) rfl ?_ | refine B3 ?_ | refine BW ?_ | refine CC ⟨by omega,by omega⟩ ?_ | refine AH (by omega) ?_ | refine JF (by omega) (by decide) rfl ?_ | refine AW (fun _=> ?_) (fun _=> ?_))
  ·rename_i h20
   rw [if_pos h20] at h
   exact B7 h
  ·rename_i h20
   rw [if_neg h20] at h
   exact stR hkl (RI hid (by simpa using hol) h)
 ·simp only [if_neg (show ¬(6:Int)=2 by decide),if_neg (show ¬(6:Int)=5 by decide),if_neg (show ¬(6:Int)=3 by decide)] at h
  repeat' (first | refine B2 ?_ | refine QI ?_ | refine EJ (by first | with_reducible assumption | omega) rfl ?_ | refine B3 ?_ | refine BO ?_ | refine BW ?_ | refine CC ⟨by omega,by omega⟩ ?_ | refine AH (by omega) ?_ | refine JF (by omega) (by decide) rfl ?_ | refine AW (fun _=> ?_) (fun _=> ?_))
  ·rename_i h20
   rw [if_pos h20] at h
   exact B7 h
  ·rename_i h20
   rw [if_neg h20] at h
   exact stR hkl (RG (buf:=buf) (ids:=[id]) (by simpa using hol) (IG hof ⟨ho.gen,ho.len,ho.fld⟩) (by omega) (by simp) (by simpa using hid) h)
theorem y9 {os:List AZ} {k:Nat} {v:Int} {K:List T→Prop} (hk:k<os.length) (h:K (tR tO (os.set k {ob os k with holds:=v}))):stc (tR tO os) [] (AA (iv k)*8+3) (I v) K:=by
 rw [←D9 hk] at h;exact cN hk h
theorem zP {os:List AZ} {k:Nat} {v:Int} {K:List T→Prop} (hk:k<os.length) (h:K (tR tO (os.set k {ob os k with roots:=v}))):stc (tR tO os) [] (AA (iv k)*8+4) (I v) K:=by
 rw [←D9 hk] at h;exact VU hk (by decide) rfl rfl h
theorem St.set {h:Hp} {os:List AZ} (st:St h) (hl:os.length=h.BC.length) (ho: ∀o∈os,OF o):St {h with BC:=os}:=⟨by have:=st.ol;simp only;omega,st.wl,st.sl,st.bl,ho,st.ss,st.wf,st.bf⟩
theorem aU {h:Hp} {kind id b c:Int} {s:ByteArray} {K:J2} (st:St h) (hid:F64 id) (hkd:kind=2∨kind=3∨kind=5∨kind=6) (hr: ∀i,(0≤(ob h.BC i).holds∧(ob h.BC i).holds≤20)∧(0≤(ob h.BC i).roots∧(ob h.BC i).roots≤20)) (hK:K [I (JQ h.BC h.buffer kind id).2.2.code,I (JQ h.BC h.buffer kind id).2.2.val] [tR tO (JQ h.BC h.buffer kind id).1,tR tW h.B9,tI (JQ h.BC h.buffer kind id).2.1,tS h.sites,tI (JQ h.BC h.buffer kind id).2.2.freed]):cl2 ⟨Tryz.prog,w0⟩ 105 HZ.sg [I kind,I id,I b,I c, .string s] (trees h) K:=by
 refine HZ.cl2 ?_
 unfold HZ.txt
 obtain ⟨os,ws,buf,ss⟩:=h
 have hol:os.length=8:=st.ol
 have hof: ∀o∈os,OF o:=st.of
 simp only at hr hK
 simp only [trees]
 simp only [AK,AQ,AN,AP,AS,AE,AI,AU,AL,AV,AT,AM,AR,AO,BF,BM,BL,BI,BK,BJ,BG,A7,A4,A5,A8,A6,A9]
 unfold JQ at hK
 refine CP hid (by omega) (AJ (AW (fun hs=> ?_) fun hs=> ?_))
 ·rw [if_pos hs] at hK
  exact hK
 rw [if_neg hs] at hK
 have hkb:=BN (l:=os) (id:=id) (by omega)
 obtain ⟨k,hkk⟩: ∃k,(AB os id).toNat=k:=⟨_,rfl⟩
 have hkI:AB os id=(k:Int):=by omega
 rw [hkk] at hK hkb
 have hkl:k<os.length:=by omega
 have hrk:=hr k
 have ho:=hof _ (HK (l:=os) (i:=k) (by omega))
 obtain ⟨⟨r1,r2⟩,r3,r4⟩:=hrk
 rw [BF,hkI]
 refine AH (by omega) (RF hkl (BV (BV ?_)))
 simp only [pX,p9,wY,wL,wT,rI,wG]
 have gn: ∀{os':List AZ} {K:J2},os'.length=os.length→(∀o∈os',OF o)→K [] [tR tO (DQ os' id),tR tW ws,tI buf,tS ss]→cl2 ⟨Tryz.prog,w0⟩ 158 GF.sg [I id] [tR tO os',tR tW ws,tI buf,tS ss] K:=fun hl ho hk=>WD (St.set st hl ho) hid hk
 have ls: ∀{os':List AZ} {K:J2},os'.length=os.length→(∀o∈os',OF o)→K [] [tR tO (IA os' buf [id]).1,tR tW ws,tI (IA os' buf [id]).2.1,tS ss,tI (IA os' buf [id]).2.2]→cl2 ⟨Tryz.prog,w0⟩ 159 G9.sg [] [tR tO os',tR tW ws,tI buf,tS ss,tI [id]] K:=fun hl ho hk=>WC (St.set st hl ho) (by simp) (by simpa using hid) hk
 rcases hkd with rfl | rfl | rfl | rfl
 ·simp only [if_true] at hK
  by_cases h20:(ob os k).holds=20
  ·rw [if_pos h20] at hK
   repeat' (first | refine B2 ?_ | refine QM ?_ | refine EE (by first | with_reducible assumption | omega) rfl ?_ | refine CZ (by first | with_reducible assumption | omega) ?_ | refine FB ?_ | refine BW ?_ | simp only [AK,AQ,AN,AP,AS,AE,AI,AU,AL,AV,AT,AM,AR,AO,BF,BM,BL,BI,BK,BJ,BG,A7,A4,A5,A8,A6,A9])
   exact hK
  ·rw [if_neg h20] at hK
   repeat' (first | refine BV ?_ | refine B2 ?_ | refine QM ?_ | refine QO ?_ | refine EE (by first | with_reducible assumption | omega) rfl ?_ | refine EJ (by first | with_reducible assumption | omega) rfl ?_ | refine B3 ?_ | refine BO ?_ | refine BZ (by first | with_reducible assumption | omega) ?_ | refine FB ?_ | refine BW ?_ | refine CC ⟨by omega,by omega⟩ ?_ | refine AH (by omega) ?_ | simp only [AK,AQ,AN,AP,AS,AE,AI,AU,AL,AV,AT,AM,AR,AO,BF,BM,BL,BI,BK,BJ,BG,A7,A4,A5,A8,A6,A9])
   exact y9 hkl (gn (by simp) (IG hof ⟨ho.gen,ho.len,ho.fld⟩) hK)
 ·simp only [if_neg (show ¬(3:Int)=2 by decide),if_neg (show ¬(3:Int)=5 by decide),if_true] at hK
  by_cases h20:(ob os k).holds=0
  ·rw [if_pos h20] at hK
   repeat' (first | refine BV ?_ | refine B2 ?_ | refine QM ?_ | refine QO ?_ | refine EE (by first | with_reducible assumption | omega) rfl ?_ | refine EJ (by first | with_reducible assumption | omega) rfl ?_ | refine BO ?_ | refine CZ (by first | with_reducible assumption | omega) ?_ | refine AJ ?_ | refine BW ?_ | simp only [AK,AQ,AN,AP,AS,AE,AI,AU,AL,AV,AT,AM,AR,AO,BF,BM,BL,BI,BK,BJ,BG,A7,A4,A5,A8,A6,A9])
   exact hK
  ·rw [if_neg h20] at hK
   repeat' (first | refine BV ?_ | refine B2 ?_ | refine QM ?_ | refine QO ?_ | refine EE (by first | with_reducible assumption | omega) rfl ?_ | refine EJ (by first | with_reducible assumption | omega) rfl ?_ | refine B3 ?_ | refine BO ?_ | refine BZ (by first | with_reducible assumption | omega) ?_ | refine AJ ?_ | refine BW ?_ | refine CC ⟨by omega,by omega⟩ ?_ | refine AH (by omega) ?_ | simp only [AK,AQ,AN,AP,AS,AE,AI,AU,AL,AV,AT,AM,AR,AO,BF,BM,BL,BI,BK,BJ,BG,A7,A4,A5,A8,A6,A9])
   exact y9 hkl (ls (by simp) (IG hof ⟨ho.gen,ho.len,ho.fld⟩) hK)
 ·simp only [if_neg (show ¬(5:Int)=2 by decide),if_true] at hK
  by_cases h20:(ob os k).roots=20
  ·rw [if_pos h20] at hK
   repeat' (first | refine B2 ?_ | refine QM ?_ | refine QO ?_ | refine EE (by first | with_reducible assumption | omega) rfl ?_ | refine EJ (by first | with_reducible assumption | omega) rfl ?_ | refine BO ?_ | refine CZ (by first | with_reducible assumption | omega) ?_ | refine FB ?_ | refine BW ?_ | simp only [AK,AQ,AN,AP,AS,AE,AI,AU,AL,AV,AT,AM,AR,AO,BF,BM,BL,BI,BK,BJ,BG,A7,A4,A5,A8,A6,A9])
   exact hK
  ·rw [if_neg h20] at hK
   repeat' (first | refine BV ?_ | refine B2 ?_ | refine QM ?_ | refine QO ?_ | refine EE (by first | with_reducible assumption | omega) rfl ?_ | refine EJ (by first | with_reducible assumption | omega) rfl ?_ | refine B3 ?_ | refine BO ?_ | refine BZ (by first | with_reducible assumption | omega) ?_ | refine FB ?_ | refine BW ?_ | refine CC ⟨by omega,by omega⟩ ?_ | refine AH (by omega) ?_ | simp only [AK,AQ,AN,AP,AS,AE,AI,AU,AL,AV,AT,AM,AR,AO,BF,BM,BL,BI,BK,BJ,BG,A7,A4,A5,A8,A6,A9])
   exact zP hkl (gn (by simp) (IG hof ⟨ho.gen,ho.len,ho.fld⟩) hK)
 ·simp only [if_neg (show ¬(6:Int)=2 by decide),if_neg (show ¬(6:Int)=5 by decide),if_neg (show ¬(6:Int)=3 by decide)] at hK
  by_cases h20:(ob os k).roots=0
  ·rw [if_pos h20] at hK
   repeat' (first | refine BV ?_ | refine B2 ?_ | refine QM ?_ | refine QO ?_ | refine EE (by first | with_reducible assumption | omega) rfl ?_ | refine EJ (by first | with_reducible assumption | omega) rfl ?_ | refine BO ?_ | refine CZ (by first | with_reducible assumption | omega) ?_ | refine AJ ?_ | refine BW ?_ | simp only [AK,AQ,AN,AP,AS,AE,AI,AU,AL,AV,AT,AM,AR,AO,BF,BM,BL,BI,BK,BJ,BG,A7,A4,A5,A8,A6,A9])
   exact hK
  ·rw [if_neg h20] at hK
   repeat' (first | refine BV ?_ | refine B2 ?_ | refine QM ?_ | refine QO ?_ | refine EE (by first | with_reducible assumption | omega) rfl ?_ | refine EJ (by first | with_reducible assumption | omega) rfl ?_ | refine BO ?_ | refine BZ (by first | with_reducible assumption | omega) ?_ | refine AJ ?_ | refine BW ?_ | refine CC ⟨by omega,by omega⟩ ?_ | refine AH (by omega) ?_ | simp only [AK,AQ,AN,AP,AS,AE,AI,AU,AL,AV,AT,AM,AR,AO,BF,BM,BL,BI,BK,BJ,BG,A7,A4,A5,A8,A6,A9])
   exact zP hkl (ls (by simp) (IG hof ⟨ho.gen,ho.len,ho.fld⟩) hK)
end Go.Proofs.YtnhicpkhkaihoaaGreat.P
namespace Go.Proofs.YtnhicpkhkaihoaaGreat.P
open Go Go.Proofs.YtnhicpkhkaihoaaGreat Go.Proofs.YtnhicpkhkaihoaaGreat.Eng
set_option linter.unusedVariables false
set_option maxHeartbeats 4000000
set_option linter.unusedVariables false
set_option linter.unusedSimpArgs false
attribute [local irreducible] prP gP gE gF AG ixW ldc ldg ldl stc stg scW mkW apW BB cl2 BY FT DG
variable {w0:World}
def HC (os:List AZ) (buf:List Int) (a b c:Int):List AZ×List Int×An:=
 if AB os a<0∨(c≠ -1∧AB os c<0) then (os,buf,⟨1,0,[]⟩) else
 if ¬(0≤b∧b≤2) then (os,buf,⟨2,0,[]⟩) else
 if gI (ob os (AB os a).toNat).field b.toNat= -1 then
  ((DQ os c).set (AB os a).toNat {ob (DQ os c) (AB os a).toNat with field:=(ob os (AB os a).toNat).field.set b.toNat c},buf,⟨0,0,[]⟩)
 else sT (IA ((DQ os c).set (AB os a).toNat {ob (DQ os c) (AB os a).toNat with field:=(ob os (AB os a).toNat).field.set b.toNat c}) buf [gI (ob os (AB os a).toNat).field b.toNat])
theorem J8 {l:List AZ} {i k:Nat} {o:AZ} (hk:k<l.length):ob (l.set k o) i=if i=k then o else ob l i:=by
 unfold ob
 by_cases h:i=k
 ·subst h
  rw [if_pos rfl,List.getD_eq_getElem?_getD,List.getElem?_set_self hk];rfl
 ·rw [if_neg h,List.getD_eq_getElem?_getD,List.getElem?_set_ne (Ne.symm h),List.getD_eq_getElem?_getD]
theorem aJ {os:List AZ} {id:Int} {i:Nat}:(ob (DQ os id) i).live=(ob os i).live∧(ob (DQ os id) i).gen=(ob os i).gen∧(ob (DQ os id) i).site=(ob os i).site∧(ob (DQ os id) i).holds=(ob os i).holds∧(ob (DQ os id) i).roots=(ob os i).roots∧(ob (DQ os id) i).field=(ob os i).field∧(ob (DQ os id) i).purple=(ob os i).purple:=by
 unfold DQ
 split
 ·exact ⟨rfl,rfl,rfl,rfl,rfl,rfl,rfl⟩
 ·have hk:=BN (l:=os) (id:=id) (by omega)
  rw [J8 (by omega)]
  split
  ·rename_i h;subst h;exact ⟨rfl,rfl,rfl,rfl,rfl,rfl,rfl⟩
  ·exact ⟨rfl,rfl,rfl,rfl,rfl,rfl,rfl⟩
theorem stF {os:List AZ} {k j:Nat} {v:Int} {K:List T→Prop} (hk:k<os.length) (hj:j<(ob os k).field.length) (h:K (tR tO (os.set k {ob os k with field:=(ob os k).field.set j v}))):stc (tR tO os) [AA (iv k)*8+6] (AA (iv j)*1) (I v) K:=by
 rw [←D9 hk] at h hj;exact pF hk hj h
theorem OF.put {o:AZ} {m:List Int} (h:OF o) (hl:m.length=3) (hf: ∀x∈m,F64 x):OF {o with field:=m}:=⟨h.gen,hl,hf⟩
theorem eG {os:List AZ} {buf:List Int} {b d:List T} {a0 a1 a2 a3:Int} {s:ByteArray} {K:J2} (hol:os.length=8) (hof: ∀o∈os,OF o) (hb:buf.length≤100) (h1:F64 a1) (h3:F64 a3) (h:K [I (HC os buf a1 a2 a3).2.2.code,I (HC os buf a1 a2 a3).2.2.val] [tI (HC os buf a1 a2 a3).2.2.freed,tR tO (HC os buf a1 a2 a3).1,tI (HC os buf a1 a2 a3).2.1]):cl2 ⟨Tryz.prog,w0⟩ 128 D6.sg [I a0,I a1,I a2,I a3, .string s] [tR tO os,b,tI buf,d] K:=by
 refine D6.cl2 ?_
 unfold D6.txt
 unfold HC at h
 refine DF h1 (by omega) ?_
 by_cases hs:AB os a1<0
 ·rw [if_pos (.inl hs)] at h
  repeat' (first | exact B7 h | refine B2 ?_ | refine wF ?_ | refine dP (by first | with_reducible assumption | omega) ?_ | refine NJ (by first | with_reducible assumption | omega) ?_ | refine EE (by first | with_reducible assumption | omega) rfl ?_ | refine B3 ?_ | refine AJ ?_)
 have hkb:=BN (l:=os) (id:=a1) (by omega)
 by_cases hc:a3≠ -1∧AB os a3<0
 ·obtain ⟨hc1,hc2⟩:=hc
  rw [if_pos (.inr ⟨hc1,hc2⟩)] at h
  repeat' (first | refine DF h3 (by omega) ?_ | exact B7 h | refine B2 ?_ | refine V7 ?_ | refine V6 (by first | with_reducible assumption | omega) ?_ | refine KQ (by first | with_reducible assumption | omega) ?_ | refine JG (by first | with_reducible assumption | omega) ?_ | refine EE (by first | with_reducible assumption | omega) rfl ?_ | refine EJ (by first | with_reducible assumption | omega) rfl ?_ | refine CZ (by first | with_reducible assumption | omega) ?_ | refine AJ ?_ | refine B5 ?_)
 rw [if_neg (by omega)] at h
 by_cases hb2: ¬(0≤a2∧a2≤2)
 ·rw [if_pos hb2] at h
  repeat' (first | refine DF h3 (by omega) ?_ | refine IH ?_ | exact B7 h | refine B2 ?_ | refine V7 ?_ | refine V6 (by first | with_reducible assumption | omega) ?_ | refine KQ (by first | with_reducible assumption | omega) ?_ | refine QJ (by first | with_reducible assumption | omega) ?_ | refine JG (by first | with_reducible assumption | omega) ?_ | refine EE (by first | with_reducible assumption | omega) rfl ?_ | refine EJ (by first | with_reducible assumption | omega) rfl ?_ | refine BO ?_ | refine CZ (by first | with_reducible assumption | omega) ?_ | refine BZ (by first | with_reducible assumption | omega) ?_ | refine AJ ?_ | refine B5 ?_ | refine CM ?_ | refine NT (fun _=> ?_) (fun _=> ?_))
 rw [if_neg hb2] at h
 obtain ⟨k,hkk⟩: ∃k,(AB os a1).toNat=k:=⟨_,rfl⟩
 have hkI:AB os a1=(k:Int):=by omega
 rw [hkk] at h hkb
 obtain ⟨j,rfl⟩: ∃j:Nat,a2=j:=⟨a2.toNat,by omega⟩
 rw [Int.toNat_natCast] at h
 have hkl:k<os.length:=by omega
 have ho:=hof _ (HK (l:=os) (i:=k) (by omega))
 obtain ⟨_,_,_,_,_,gf,_⟩:=aJ (os:=os) (id:=a3) (i:=k)
 have gl:=PG os a3
 have gof:=UJ (id:=a3) hof
 have jl:j<(ob os k).field.length:=by rw [ho.len];omega
 rw [hkI]
 repeat' (first | refine DF h3 (by omega) ?_ | refine IH ?_ | refine RI h3 hol ?_ | refine B2 ?_ | refine V7 ?_ | refine lE ?_ | refine QI ?_ | refine KQ (by first | with_reducible assumption | omega) ?_ | refine QJ (by first | with_reducible assumption | omega) ?_ | refine EE (by first | with_reducible assumption | omega) rfl ?_ | refine EJ (by first | with_reducible assumption | omega) rfl ?_ | refine BO ?_ | refine BZ (by first | with_reducible assumption | omega) ?_ | refine AJ ?_ | refine B5 ?_ | refine CM ?_ | refine AH (by omega) ?_ | refine fG (by omega) ?_ | refine NT (fun _=> ?_) (fun _=> ?_) | simp only [AK,AQ,AN,AP,AS,AE,AI,AU,AL,AV,AT,AM,AR,AO,BF,BM,BL,BI,BK,BJ,BG,A7,A4,A5,A8,A6,A9])
 all_goals
  refine AH (by rw [I8 (by omega),AE,gf];exact jl) (OY (by omega) (by rw [gf];exact jl) (AH (by omega) ?_))
  rw [gf]
  refine OW (f:=tO) (i:=k) (by omega) (by decide) rfl ?_
  refine AH (by rw [I8 (by omega),AE,gf];exact jl) (stF (by omega) (by rw [gf];exact jl) ?_)
  rw [gf]
  refine BW (AW (fun he=> ?_) fun he=> ?_)
  ·rw [if_pos he] at h;exact h
  ·rw [if_neg he] at h
   exact RG (buf:=buf) (ids:=[gI (ob os k).field j]) (by simpa using gl.trans hol) (IG gof (OF.put (gof _ (HK (by omega))) (by rw [List.length_set];exact ho.len) fun x hx=>(List.mem_or_eq_of_mem_set hx).elim (ho.fld x) fun he=>he ▸ h3)) (by omega) (by simp) (by simpa using ho.fld _ (EZ jl)) h
theorem Z6 {h:Hp} {a0 a1 a2 a3:Int} {s:ByteArray} {K:J2} (st:St h) (h1:F64 a1) (h3:F64 a3) (hfd: ∀i, ∀f∈(ob h.BC i).field,f= -1∨0≤f) (hK:K [I (HC h.BC h.buffer a1 a2 a3).2.2.code,I (HC h.BC h.buffer a1 a2 a3).2.2.val] [tR tO (HC h.BC h.buffer a1 a2 a3).1,tR tW h.B9,tI (HC h.BC h.buffer a1 a2 a3).2.1,tS h.sites,tI (HC h.BC h.buffer a1 a2 a3).2.2.freed]):cl2 ⟨Tryz.prog,w0⟩ 106 GN.sg [I a0,I a1,I a2,I a3, .string s] (trees h) K:=by
 refine GN.cl2 ?_
 unfold GN.txt
 obtain ⟨os,ws,buf,ss⟩:=h
 have hol:os.length=8:=st.ol
 have hof: ∀o∈os,OF o:=st.of
 simp only at hK hfd
 simp only [trees]
 unfold HC at hK
 have gn: ∀{K:J2},K [] [tR tO (DQ os a3),tR tW ws,tI buf,tS ss]→cl2 ⟨Tryz.prog,w0⟩ 158 GF.sg [I a3] [tR tO os,tR tW ws,tI buf,tS ss] K:=fun hk=>WD st h3 hk
 have ls: ∀{os':List AZ} {x:Int} {K:J2},os'.length=os.length→(∀o∈os',OF o)→F64 x→K [] [tR tO (IA os' buf [x]).1,tR tW ws,tI (IA os' buf [x]).2.1,tS ss,tI (IA os' buf [x]).2.2]→cl2 ⟨Tryz.prog,w0⟩ 159 G9.sg [] [tR tO os',tR tW ws,tI buf,tS ss,tI [x]] K:=fun hl ho hx hk=>WC (St.set st hl ho) (by simp) (by simpa using hx) hk
 refine CP h1 (by omega) ?_
 by_cases hs:AB os a1<0
 ·rw [if_pos (.inl hs)] at hK
  repeat' (first | exact hK | refine B2 ?_ | refine wF ?_ | refine dP (by first | with_reducible assumption | omega) ?_ | refine NJ (by first | with_reducible assumption | omega) ?_ | refine EE (by first | with_reducible assumption | omega) rfl ?_ | refine B3 ?_ | refine AJ ?_)
 have hkb:=BN (l:=os) (id:=a1) (by omega)
 by_cases hc:a3≠ -1∧AB os a3<0
 ·obtain ⟨hc1,hc2⟩:=hc
  rw [if_pos (.inr ⟨hc1,hc2⟩)] at hK
  repeat' (first | refine CP h3 (by omega) ?_ | exact hK | refine B2 ?_ | refine V7 ?_ | refine V6 (by first | with_reducible assumption | omega) ?_ | refine KQ (by first | with_reducible assumption | omega) ?_ | refine JG (by first | with_reducible assumption | omega) ?_ | refine EE (by first | with_reducible assumption | omega) rfl ?_ | refine EJ (by first | with_reducible assumption | omega) rfl ?_ | refine CZ (by first | with_reducible assumption | omega) ?_ | refine AJ ?_ | refine B5 ?_)
 rw [if_neg (by omega)] at hK
 by_cases hb2: ¬(0≤a2∧a2≤2)
 ·rw [if_pos hb2] at hK
  repeat' (first | refine CP h3 (by omega) ?_ | refine DA ?_ | exact hK | refine B2 ?_ | refine V7 ?_ | refine V6 (by first | with_reducible assumption | omega) ?_ | refine KQ (by first | with_reducible assumption | omega) ?_ | refine QJ (by first | with_reducible assumption | omega) ?_ | refine JG (by first | with_reducible assumption | omega) ?_ | refine EE (by first | with_reducible assumption | omega) rfl ?_ | refine EJ (by first | with_reducible assumption | omega) rfl ?_ | refine BO ?_ | refine CZ (by first | with_reducible assumption | omega) ?_ | refine BZ (by first | with_reducible assumption | omega) ?_ | refine AJ ?_ | refine B5 ?_ | refine CM ?_ | refine NT (fun _=> ?_) (fun _=> ?_))
 rw [if_neg hb2] at hK
 obtain ⟨k,hkk⟩: ∃k,(AB os a1).toNat=k:=⟨_,rfl⟩
 have hkI:AB os a1=(k:Int):=by omega
 rw [hkk] at hK hkb
 obtain ⟨j,rfl⟩: ∃j:Nat,a2=j:=⟨a2.toNat,by omega⟩
 rw [Int.toNat_natCast] at hK
 have hkl:k<os.length:=by omega
 have ho:=hof _ (HK (l:=os) (i:=k) (by omega))
 obtain ⟨_,_,_,_,_,gf,_⟩:=aJ (os:=os) (id:=a3) (i:=k)
 have gl:=PG os a3
 have gof:=UJ (id:=a3) hof
 have jl:j<(ob os k).field.length:=by rw [ho.len];omega
 have hold:=hfd k _ (EZ jl)
 rw [hkI]
 repeat' (first | refine CP h3 (by omega) ?_ | refine DA ?_ | refine B2 ?_ | refine V7 ?_ | refine lE ?_ | refine QI ?_ | refine KQ (by first | with_reducible assumption | omega) ?_ | refine QJ (by first | with_reducible assumption | omega) ?_ | refine EE (by first | with_reducible assumption | omega) rfl ?_ | refine EJ (by first | with_reducible assumption | omega) rfl ?_ | refine BO ?_ | refine BZ (by first | with_reducible assumption | omega) ?_ | refine AJ ?_ | refine B5 ?_ | refine CM ?_ | refine AH (by omega) ?_ | refine fG (by omega) ?_ | refine NT (fun _=> ?_) (fun _=> ?_) | simp only [AK,AQ,AN,AP,AS,AE,AI,AU,AL,AV,AT,AM,AR,AO,BF,BM,BL,BI,BK,BJ,BG,A7,A4,A5,A8,A6,A9])
 all_goals
  refine AH (by rw [I8 (by omega),AE];exact jl) (OY (by omega) jl (BV ?_))
  simp only [AK,AQ,AN,AP,AS,AE,AI,AU,AL,AV,AT,AM,AR,AO,BF,BM,BL,BI,BK,BJ,BG,A7,A4,A5,A8,A6,A9]
  refine JT (AW (fun hge=>gn ?_) fun hlt=> ?_)
  ·simp only [AK,AQ,AN,AP,AS,AE,AI,AU,AL,AV,AT,AM,AR,AO,BF,BM,BL,BI,BK,BJ,BG,A7,A4,A5,A8,A6,A9]
   refine AH (by omega) (OW (f:=tO) (i:=k) (by omega) (by decide) rfl ?_)
   refine AH (by rw [I8 (by omega),AE,gf];exact jl) (stF (by omega) (by rw [gf];exact jl) ?_)
   rw [gf]
   refine AJ (AW (fun he=> ?_) fun he=> ?_)
   ·rw [if_pos (by omega)] at hK;exact hK
   ·rw [if_neg (by omega)] at hK
    exact ls (by simpa using gl) (IG gof (OF.put (gof _ (HK (by omega))) (by rw [List.length_set];exact ho.len) fun x hx=>(List.mem_or_eq_of_mem_set hx).elim (ho.fld x) fun he=>he ▸ h3)) (ho.fld _ (EZ jl)) hK
  ·have e0:DQ os a3=os:=by unfold DQ;rw [if_pos];rw [PM (by omega)];decide
   rw [e0] at hK
   refine AH (by omega) (OW (f:=tO) (i:=k) (by omega) (by decide) rfl ?_)
   refine AH (by rw [I8 (by omega),AE];exact jl) (stF (by omega) jl ?_)
   refine AJ (AW (fun he=> ?_) fun he=> ?_)
   ·rw [if_pos (by omega)] at hK;exact hK
   ·rw [if_neg (by omega)] at hK
    exact ls (by simp) (IG hof (OF.put ho (by rw [List.length_set];exact ho.len) fun x hx=>(List.mem_or_eq_of_mem_set hx).elim (ho.fld x) fun he=>he ▸ h3)) (ho.fld _ (EZ jl)) hK
def MS (os:List AZ) (ws:List Wk) (id:Int):List Wk×An:=
 if AB os id<0 then (ws,⟨1,0,[]⟩) else if J7 ws<0 then (ws,⟨3,0,[]⟩) else (ws.set (J7 ws).toNat ⟨true,id⟩,⟨0,J7 ws,[]⟩)
def IB (os:List AZ) (ws:List Wk) (kind k:Int):List Wk×An:=
 if ¬(0≤k∧k≤(ws.length:Int)-1) then (ws,⟨2,0,[]⟩) else
 if (wk ws k.toNat).used=false then (ws,⟨2,0,[]⟩) else
 if kind=9 then (ws.set k.toNat ⟨false,0⟩,⟨0,0,[]⟩) else
 if AB os (wk ws k.toNat).target<0 then (ws,⟨0, -1,[]⟩) else (ws,⟨0,(wk ws k.toNat).target,[]⟩)
theorem bX {ws:List Wk} (h: ¬J7 ws<0):(J7 ws).toNat<ws.length∧J7 ws=((J7 ws).toNat:Int)∧(wk ws (J7 ws).toNat).used=false:=by
 rcases U3 ws.length (fun i=> !(wk ws i).used) with ⟨h1,_⟩ | ⟨i,h1,h2,h3,_⟩
 ·unfold J7 at h;omega
 ·have e:J7 ws=i:=h2
  have e2:(J7 ws).toNat=i:=by omega
  rw [e2];exact ⟨h1,e,by simpa using h3⟩
theorem gH {os:List AZ} {ws:List Wk} {c d:List T} {id:Int} {K:J2} (hol:os.length=8) (hwl:ws.length=8) (hid:F64 id) (h:K [I (MS os ws id).2.code,I (MS os ws id).2.val] [tI (MS os ws id).2.freed,tR tW (MS os ws id).1]):cl2 ⟨Tryz.prog,w0⟩ 129 EU.sg [I id] [tR tO os,tR tW ws,c,d] K:=by
 refine EU.cl2 ?_
 unfold EU.txt
 unfold MS at h
 simp only [AK,AQ,AN,AP,AS,AE,AI,AU,AL,AV,AT,AM,AR,AO,BF,BM,BL,BI,BK,BJ,BG,A7,A4,A5,A8,A6,A9]
 refine XC hwl (DF hid (by omega) (AJ (AW (fun hs=> ?_) fun hs=> ?_)))
 ·rw [if_pos hs] at h;exact B7 h
 rw [if_neg hs] at h
 refine AJ (AW (fun hf=> ?_) fun hf=> ?_)
 ·rw [if_pos hf] at h;exact B7 h
 rw [if_neg hf] at h
 obtain ⟨f1,f2,f3⟩:=bX hf
 simp only [AK,AQ,AN,AP,AS,AE,AI,AU,AL,AV,AT,AM,AR,AO,BF,BM,BL,BI,BK,BJ,BG,A7,A4,A5,A8,A6,A9]
 rw [f2] at h ⊢
 rw [Int.toNat_natCast] at h
 exact AH f1 (MN (f:=tW) f1 (y:=⟨true,id⟩) rfl h)
theorem aT {os:List AZ} {ws:List Wk} {c d:List T} {kind k:Int} {K:J2} (hol:os.length=8) (hwl:ws.length=8) (hk:F64 k) (hwf: ∀w∈ws,F64 w.target) (h:K [I (IB os ws kind k).2.code,I (IB os ws kind k).2.val] [tI (IB os ws kind k).2.freed,tR tW (IB os ws kind k).1]):cl2 ⟨Tryz.prog,w0⟩ 130 DJ.sg [I kind,I k] [tR tO os,tR tW ws,c,d] K:=by
 refine DJ.cl2 ?_
 unfold DJ.txt
 unfold IB at h
 simp only [AK,AQ,AN,AP,AS,AE,AI,AU,AL,AV,AT,AM,AR,AO,BF,BM,BL,BI,BK,BJ,BG,A7,A4,A5,A8,A6,A9]
 refine EI ⟨by omega,by omega⟩ (IH (CM ?_))
 by_cases hb: ¬(0≤k∧k≤(ws.length:Int)-1)
 ·rw [if_pos hb] at h
  repeat' (first | exact B7 h | refine B2 ?_ | refine NJ (by first | with_reducible assumption | omega) ?_ | refine EE (by first | with_reducible assumption | omega) rfl ?_ | refine B3 ?_)
 rw [if_neg hb] at h
 obtain ⟨j,rfl⟩: ∃j:Nat,k=j:=⟨k.toNat,by omega⟩
 rw [Int.toNat_natCast] at h
 have jl:j<ws.length:=by omega
 have hw:=hwf _ (List.getElem_mem jl)
 rw [cS jl] at hw
 cases hu:(wk ws j).used with
 | false=>
   rw [if_pos hu] at h
   repeat' (first | refine RY (v:= .bool false) jl (by simp [tW,hu]) ?_ | exact B7 h | refine B2 ?_ | refine JG (by first | with_reducible assumption | omega) ?_ | refine EJ (by first | with_reducible assumption | omega) rfl ?_ | refine B3 ?_ | refine AH (by omega) ?_ | refine BP ?_)
 | true=>
   rw [if_neg (by rw [hu];decide)] at h
   repeat' (first | refine RY (v:= .bool true) jl (by simp [tW,hu]) ?_ | refine DF hw (by omega) ?_ | refine B2 ?_ | refine JG (by first | with_reducible assumption | omega) ?_ | refine EJ (by first | with_reducible assumption | omega) rfl ?_ | refine BO ?_ | refine AJ ?_ | refine BW ?_ | refine AH (by omega) ?_ | refine qB (by omega) (by decide) rfl ?_ | refine AW (fun _=> ?_) (fun _=> ?_) | refine BP ?_)
   ·rename_i hh
    rw [if_pos hh] at h
    exact MN (f:=tW) jl (y:=⟨false,0⟩) rfl h
   ·rename_i hh hs
    rw [if_neg hh,if_pos hs] at h
    exact h
   ·rename_i hh hs
    rw [if_neg hh,if_neg hs] at h
    exact h
theorem bH {os:List AZ} {ws:List Wk} {cc d:List T} {kind k b c:Int} {s:ByteArray} {K:J2} (hol:os.length=8) (hwl:ws.length=8) (hk:F64 k) (hwf: ∀w∈ws,F64 w.target) (h7:kind=7→K [I (MS os ws k).2.code,I (MS os ws k).2.val] [tR tW (MS os ws k).1,tI (MS os ws k).2.freed]) (h:kind≠7→K [I (IB os ws kind k).2.code,I (IB os ws kind k).2.val] [tR tW (IB os ws kind k).1,tI (IB os ws kind k).2.freed]):cl2 ⟨Tryz.prog,w0⟩ 107 HS.sg [I kind,I k,I b,I c, .string s] [tR tO os,tR tW ws,cc,d] K:=by
 refine HS.cl2 ?_
 unfold HS.txt
 simp only [AK,AQ,AN,AP,AS,AE,AI,AU,AL,AV,AT,AM,AR,AO,BF,BM,BL,BI,BK,BJ,BG,A7,A4,A5,A8,A6,A9]
 refine BW (AW (fun he=> ?_) fun he=> ?_)
 ·replace h:=h7 he
  clear h7
  unfold MS at h
  refine CP hk (by omega) (AJ (AW (fun hs=> ?_) fun hs=> ?_))
  ·rw [if_pos hs] at h;exact h
  rw [if_neg hs] at h
  refine AY (fun i=>[iv i,I kind,I k,I b,I c, .string s,I 0,I 0]) (fun _=>[tR tW ws]) ws.length (fun i=> ∀j,j<i→(!(wk ws j).used)=false) rfl rfl (fun k hk=>by omega) (fun R i hi hP hR=> ?_)
  simp only [AK,AQ,AN,AP,AS,AE,AI,AU,AL,AV,AT,AM,AR,AO,BF,BM,BL,BI,BK,BJ,BG,A7,A4,A5,A8,A6,A9]
  refine AJ (AW (fun hlt=> ?_) fun hge=> ?_)
  ·have hlt:i<ws.length:=by omega
   cases hv:(wk ws i).used with
   | false=>
     refine AH hlt (RY (v:= .bool false) hlt (by simp [tW,hv]) (BP (B3 (AH hlt ?_))))
     unfold J7 at h
     rw [OO hlt (by rw [hv];rfl) hP,if_neg (by omega),Int.toNat_natCast] at h
     exact MN (f:=tW) hlt (y:=⟨true,k⟩) rfl h
   | true=>
     refine AH hlt (RY (v:= .bool true) hlt (by simp [tW,hv]) (BP (BO (AX (by omega) (hR hlt fun k hk=> ?_)))))
     rcases Nat.lt_succ_iff_lt_or_eq.1 hk with h3 | rfl
     ·exact hP k h3
     ·rw [hv];rfl
  ·have:i=ws.length:=by omega
   subst this
   unfold J7 at h
   rw [SB hP,if_pos (by decide)] at h;exact h
 ·replace h:=h he
  clear h7
  unfold IB at h
  refine EI ⟨by omega,by omega⟩ (DA (CM ?_))
  by_cases hb: ¬(0≤k∧k≤(ws.length:Int)-1)
  ·rw [if_pos hb] at h
   repeat' (first | exact h | refine B2 ?_ | refine NJ (by first | with_reducible assumption | omega) ?_ | refine EE (by first | with_reducible assumption | omega) rfl ?_ | refine B3 ?_)
  rw [if_neg hb] at h
  obtain ⟨j,rfl⟩: ∃j:Nat,k=j:=⟨k.toNat,by omega⟩
  rw [Int.toNat_natCast] at h
  have jl:j<ws.length:=by omega
  have hw:=hwf _ (List.getElem_mem jl)
  rw [cS jl] at hw
  cases hu:(wk ws j).used with
  | false=>
    rw [if_pos hu] at h
    repeat' (first | refine RY (v:= .bool false) jl (by simp [tW,hu]) ?_ | exact h | refine B2 ?_ | refine JG (by first | with_reducible assumption | omega) ?_ | refine EJ (by first | with_reducible assumption | omega) rfl ?_ | refine B3 ?_ | refine AH (by omega) ?_ | refine BP ?_)
  | true=>
    rw [if_neg (by rw [hu];decide)] at h
    repeat' (first | refine RY (v:= .bool true) jl (by simp [tW,hu]) ?_ | refine CP hw (by omega) ?_ | refine B2 ?_ | refine JG (by first | with_reducible assumption | omega) ?_ | refine EJ (by first | with_reducible assumption | omega) rfl ?_ | refine BO ?_ | refine AJ ?_ | refine BW ?_ | refine AH (by omega) ?_ | refine qB (by omega) (by decide) rfl ?_ | refine AW (fun _=> ?_) (fun _=> ?_) | refine BP ?_)
    ·rename_i hh
     rw [if_pos hh] at h
     exact MN (f:=tW) jl (y:=⟨false,0⟩) rfl h
    ·rename_i hh hs
     rw [if_neg hh,if_pos hs] at h
     exact h
    ·rename_i hh hs
     rw [if_neg hh,if_neg hs] at h
     exact h
end Go.Proofs.YtnhicpkhkaihoaaGreat.P
