/- A part of the proof. -/
import Derived.Test.YtnhicpkhkaihoaaGreatRpHpI
namespace Go.Proofs.YtnhicpkhkaihoaaGreat.P
open Go Go.Proofs.YtnhicpkhkaihoaaGreat Go.Proofs.YtnhicpkhkaihoaaGreat.Eng
set_option linter.unusedVariables false
set_option maxHeartbeats 4000000
set_option linter.unusedVariables false
set_option linter.unusedSimpArgs false
attribute [local irreducible] prP gP gE gF AG ixW ldc ldg ldl stc stg scW mkW apW BA cl2 B6 G8 C3
variable {w0:World}
def P5 (n:Nat) (p:Nat→Bool):Int:=match (List.range n).find? p with
 | some i=>(i:Int)
 | none=> -1
theorem PI {n i:Nat} {p:Nat→Bool} (hi:i<n) (h:p i=true) (hb: ∀k,k<i→p k=false):P5 n p=i:=by
 have:(List.range n).find? p=some i:=List.find?_range_eq_some.2 ⟨h,List.mem_range.2 hi,fun j hj=>by rw [hb j hj];rfl⟩
 rw [P5,this]
theorem TV {n:Nat} {p:Nat→Bool} (hb: ∀k,k<n→p k=false):P5 n p= -1:=by
 have:(List.range n).find? p=none:=List.find?_range_eq_none.2 fun j hj=>by rw [hb j hj];rfl
 rw [P5,this]
theorem VE (n:Nat) (p:Nat→Bool):(P5 n p= -1∧ ∀k,k<n→p k=false)∨ ∃i,i<n∧P5 n p=(i:Int)∧p i=true∧ ∀k,k<i→p k=false:=by
 cases h:(List.range n).find? p with
 | none=>exact .inl ⟨by rw [P5,h],fun k hk=>by have:=List.find?_range_eq_none.1 h k hk;simpa using this⟩
 | some i=>
   obtain ⟨h1,h2,h3⟩:=List.find?_range_eq_some.1 h
   exact .inr ⟨i,List.mem_range.1 h2,by rw [P5,h],h1,fun k hk=>by have:=h3 k hk;simpa using this⟩
def LB (os:List A8) (i:Nat):Bool:= !(ob os i).live&&decide ((ob os i).gen<999)
def CP (os:List A8):Int:=P5 os.length (LB os)
def K9 (ws:List Wk):Int:=P5 ws.length fun i=> !(wk ws i).used
theorem YK {os:List A8} {b c d:List T} {K:J2} (hol:os.length=8) (h:K [I (CP os)] []):cl2 ⟨Tryz.prog,w0⟩ 167 GM.sg [] [tR tO os,b,c,d] K:=by
 refine GM.cl2 ?_
 unfold GM.txt
 simp only [AM,AT,AL,AK,AN,AE,AI,AV,AU,AS,AP,AQ,AO,AR,BD,BE,BH,BG,BJ,BL,BF,AZ,A6,A1,AY,A5,A4]
 refine A7 (fun i=>[iv os.length,iv i]) (fun _=>[]) os.length (fun i=> ∀k,k<i→LB os k=false) rfl rfl (fun k hk=>by omega) (fun R i hi hP hR=> ?_)
 simp only [AM,AT,AL,AK,AN,AE,AI,AV,AU,AS,AP,AQ,AO,AR,BD,BE,BH,BG,BJ,BL,BF,AZ,A6,A1,AY,A5,A4]
 refine AJ (AH (fun hlt=> ?_) fun hge=> ?_)
 ·have hlt:i<os.length:=by omega
  refine AW hlt (RI hlt ?_)
  simp only [sO,uA]
  have no:LB os i=false→R [iv os.length,iv (i+1)] []:=fun hn=>hR hlt fun k hk=>(Nat.lt_succ_iff_lt_or_eq.1 hk).elim (hP k) fun he=>he ▸ hn
  have yes:LB os i=true→K [iv i] []:=fun hy=>by unfold CP at h;rw [PI hlt hy hP] at h;exact h
  cases hv:(ob os i).live with
  | false=>
    repeat' (first | refine BM ?_ | refine RP ?_ | refine JA (by first | with_reducible assumption | omega) ?_ | refine CL (by first | with_reducible assumption | omega) rfl ?_ | refine RW rfl ?_ | refine AJ ?_ | refine AX (by omega) ?_ | refine AH (fun _=> ?_) (fun _=> ?_) | refine BN ?_)
    ·exact yes (by simp [LB,hv];omega)
    ·exact no (by simp [LB,hv];omega)
  | true=>
    repeat' (first | refine BM ?_ | refine M9 ?_ | refine JA (by first | with_reducible assumption | omega) ?_ | refine CL (by first | with_reducible assumption | omega) rfl ?_ | refine WB rfl ?_ | refine BQ ?_ | refine AJ ?_ | refine AX (by omega) ?_ | refine BN ?_)
    all_goals exact no (by simp [LB,hv])
 ·have:i=os.length:=by omega
  subst this
  unfold CP at h
  rw [TV hP] at h;exact h
theorem YO {os:List A8} {b c d:List T} {K:J2} (hol:os.length=8) (h:K [I (CP os)] []):cl2 ⟨Tryz.prog,w0⟩ 157 GH.sg [] [tR tO os,b,c,d] K:=by
 refine GH.cl2 ?_
 unfold GH.txt
 simp only [AM,AT,AL,AK,AN,AE,AI,AV,AU,AS,AP,AQ,AO,AR,BD,BE,BH,BG,BJ,BL,BF,AZ,A6,A1,AY,A5,A4]
 refine A7 (fun i=>[iv i]) (fun _=>[]) os.length (fun i=> ∀k,k<i→LB os k=false) rfl rfl (fun k hk=>by omega) (fun R i hi hP hR=> ?_)
 simp only [AM,AT,AL,AK,AN,AE,AI,AV,AU,AS,AP,AQ,AO,AR,BD,BE,BH,BG,BJ,BL,BF,AZ,A6,A1,AY,A5,A4]
 refine AJ (BM (JR (fun hlt=> ?_) fun hge=> ?_))
 ·have hlt':i<os.length:=by omega
  refine AJ (CL hlt rfl (CT (by omega) ?_))
  have no:LB os i=false→R [iv (i+1)] []:=fun hn=>hR hlt' fun k hk=>(Nat.lt_succ_iff_lt_or_eq.1 hk).elim (hP k) fun he=>he ▸ hn
  have yes:LB os i=true→K [iv i] []:=fun hy=>by unfold CP at h;rw [PI hlt' hy hP] at h;exact h
  refine AW hlt' ?_
  cases hv:(ob os i).live with
  | false=>
    refine N8 (v:= .bool false) hlt' (by simp [tO,hv]) (BN ?_)
    repeat' (first | refine AW hlt' ?_ | refine KM (v:=I (ob os i).gen) hlt' (by decide) rfl ?_ | refine BM ?_ | refine RP ?_ | refine RW rfl ?_ | refine AJ ?_ | refine AX (by omega) ?_ | refine AH (fun _=> ?_) (fun _=> ?_))
    ·exact yes (by simp [LB,hv];omega)
    ·exact no (by simp [LB,hv];omega)
  | true=>
    refine N8 (v:= .bool true) hlt' (by simp [tO,hv]) (BN ?_)
    repeat' (first | refine BM ?_ | refine M9 ?_ | refine WB rfl ?_ | refine BQ ?_ | refine AX (by omega) ?_)
    all_goals exact no (by simp [LB,hv])
 ·refine CJ hge rfl (BQ ?_)
  have:i=os.length:=by omega
  subst this
  unfold CP at h
  rw [TV hP] at h;exact h
theorem YT {ws:List Wk} {K:J2} (hol:ws.length=8) (h:K [I (K9 ws)] []):cl2 ⟨Tryz.prog,w0⟩ 171 GJ.sg [] [tR tW ws] K:=by
 refine GJ.cl2 ?_
 unfold GJ.txt
 simp only [AM,AT,AL,AK,AN,AE,AI,AV,AU,AS,AP,AQ,AO,AR,BD,BE,BH,BG,BJ,BL,BF,AZ,A6,A1,AY,A5,A4]
 refine A7 (fun i=>[iv ws.length,iv i]) (fun _=>[]) ws.length (fun i=> ∀k,k<i→(!(wk ws k).used)=false) rfl rfl (fun k hk=>by omega) (fun R i hi hP hR=> ?_)
 simp only [AM,AT,AL,AK,AN,AE,AI,AV,AU,AS,AP,AQ,AO,AR,BD,BE,BH,BG,BJ,BL,BF,AZ,A6,A1,AY,A5,A4]
 refine AJ (AH (fun hlt=> ?_) fun hge=> ?_)
 ·have hlt:i<ws.length:=by omega
  refine AW hlt (nD hlt ?_)
  simp only [y7]
  cases hv:(wk ws i).used with
  | false=>
    refine BN (BS ?_)
    unfold K9 at h
    rw [PI hlt (by rw [hv];rfl) hP] at h;exact h
  | true=>
    refine BN (BQ (AX (by omega) (hR hlt fun k hk=> ?_)))
    rcases Nat.lt_succ_iff_lt_or_eq.1 hk with h3 | rfl
    ·exact hP k h3
    ·rw [hv];rfl
 ·have:i=ws.length:=by omega
  subst this
  unfold K9 at h
  rw [TV hP] at h;exact h
theorem CB {n:Int} {K:J2} (h:K [I n,I 0] [[]]):cl2 ⟨Tryz.prog,w0⟩ 85 BW.sg [I n] [] K:=BW.cl2 h
def N5 (g s:Int):A8:=⟨true,g,s,1,0,1,RT,false⟩
def HE (os:List A8) (ss:List ByteArray) (s:ByteArray):List A8×List ByteArray×An:=
 if ¬(1≤(s.size:Int)∧(s.size:Int)≤8) then (os,ss,⟨2,0,[]⟩)
 else if CP os<0 then (os,ss,⟨3,0,[]⟩)
 else if at_ ss s<0∧6≤ss.length then (os,ss,⟨6,0,[]⟩)
 else (os.set (CP os).toNat (N5 (w64 ((ob os (CP os).toNat).gen+1)) (if at_ ss s<0 then ss.length else at_ ss s)),(if at_ ss s<0 then ss++[s] else ss),⟨0,DB (CP os) (w64 ((ob os (CP os).toNat).gen+1)),[]⟩)
theorem SQ {os:List A8} (h: ¬CP os<0):(CP os).toNat<os.length∧CP os=((CP os).toNat:Int)∧LB os (CP os).toNat=true:=by
 rcases VE os.length (LB os) with ⟨h1,_⟩ | ⟨i,h1,h2,h3,_⟩
 ·unfold CP at h;omega
 ·have e:CP os=i:=h2
  have e2:(CP os).toNat=i:=by omega
  rw [e2];exact ⟨h1,e,h3⟩
theorem gW {os:List A8} {b c:List T} {ss:List ByteArray} {s:ByteArray} {K:J2} (hol:os.length=8) (hsl:ss.length≤6) (h:K [I (HE os ss s).2.2.code,I (HE os ss s).2.2.val] [tI (HE os ss s).2.2.freed,tR tO (HE os ss s).1,tS (HE os ss s).2.1]):cl2 ⟨Tryz.prog,w0⟩ 126 EU.sg [.string s] [tR tO os,b,c,tS ss] K:=by
 refine EU.cl2 ?_
 unfold EU.txt
 refine YK hol (P0 (by omega) (B4 ?_))
 simp only [AM,AT,AL,AK,AN,AE,AI,AV,AU,AS,AP,AQ,AO,AR,BD,BE,BH,BG,BJ,BL,BF,AZ,A6,A1,AY,A5,A4]
 unfold HE at h
 refine CM (HB (CF (AH (fun hb=> ?_) fun hb=> ?_)))
 ·rw [if_pos hb] at h
  exact CB h
 rw [if_neg hb] at h
 refine AJ (AH (fun hf=> ?_) fun hf=> ?_)
 ·rw [if_pos hf] at h
  exact CB h
 rw [if_neg hf] at h
 obtain ⟨f1,f2,f3⟩:=SQ hf
 refine AJ ?_
 by_cases ha:at_ ss s<0
 ·by_cases h6:6≤ss.length
  ·rw [if_pos ⟨ha,h6⟩] at h
   repeat' (first | exact CB h | refine BM ?_ | refine JA (by first | with_reducible assumption | omega) ?_ | refine CL (by first | with_reducible assumption | omega) rfl ?_ | refine CT (by first | with_reducible assumption | omega) ?_ | refine FE ?_)
   all_goals omega
  ·rw [if_neg (by omega),if_pos ha,if_pos ha] at h
   repeat' (first | refine BM ?_ | refine JA (by first | with_reducible assumption | omega) ?_ | refine CL (by first | with_reducible assumption | omega) rfl ?_ | refine CT (by first | with_reducible assumption | omega) ?_ | refine BV (by first | with_reducible assumption | omega) ?_ | refine AJ ?_ | refine FE ?_ | refine E9 ?_ | refine UE (by omega) (by omega) ?_ | refine KM (by omega) (by decide) rfl ?_ | refine D8 (by first | exact PK _ | exact RM _ | exact gO _ | exact xQ _ | rfl) (by omega) ?_)
   exact OM (y:=N5 (w64 ((ob os (CP os).toNat).gen+1)) ss.length) (by omega) rfl (NJ (by rw [←ZM] at h;exact h))
 ·rw [if_neg (by omega),if_neg ha,if_neg ha] at h
  repeat' (first | refine BM ?_ | refine L5 (by first | with_reducible assumption | omega) ?_ | refine CJ (by first | with_reducible assumption | omega) rfl ?_ | refine BQ ?_ | refine BV (by first | with_reducible assumption | omega) ?_ | refine AJ ?_ | refine E9 ?_ | refine UE (by omega) (by omega) ?_ | refine KM (by omega) (by decide) rfl ?_)
  exact OM (y:=N5 (w64 ((ob os (CP os).toNat).gen+1)) (at_ ss s)) (by omega) rfl (NJ h)
theorem xV {l:List ByteArray} {x s:ByteArray} (h:x∉l):at_ (l++[x]) s=if x=s then (l.length:Int) else at_ l s:=by
 unfold at_
 by_cases hs:s∈l
 ·rw [if_pos (List.mem_append_left _ hs),if_pos hs,List.idxOf_append,if_pos hs,if_neg (show ¬x=s from fun he=>h (he ▸ hs))]
 ·by_cases hx:x=s
  ·rw [if_pos (by simp [hx]),if_pos hx,List.idxOf_append,if_neg hs]
   simp [hx]
  ·rw [if_neg (by simp [hs,Ne.symm hx]),if_neg hx,if_neg hs]
theorem bT {os:List A8} {b c:List T} {ss:List ByteArray} {s:ByteArray} {k1 k2 k3 k4:Int} {K:J2} (hol:os.length=8) (hss:M7 ss) (h:K [I (HE os ss s).2.2.code,I (HE os ss s).2.2.val] [tR tO (HE os ss s).1,tS (HE os ss s).2.1,tI (HE os ss s).2.2.freed]):cl2 ⟨Tryz.prog,w0⟩ 104 HI.sg [I k1,I k2,I k3,I k4, .string s] [tR tO os,b,c,tS ss] K:=by
 have hsl:=hss.len
 refine HI.cl2 ?_
 unfold HI.txt
 unfold HE at h
 refine CM (DU (CF (AH (fun hb=> ?_) fun hb=> ?_)))
 ·rw [if_pos hb] at h
  exact h
 rw [if_neg hb] at h
 refine YO hol (AJ (AH (fun hf=> ?_) fun hf=> ?_))
 ·rw [if_pos hf] at h
  exact h
 rw [if_neg hf] at h
 obtain ⟨f1,f2,f3⟩:=SQ hf
 refine A7 (fun i=>[I (CP os),I (at_ (ss.take i) s),iv i,I k1,I k2,I k3,I k4, .string s,I 0,I 0]) (fun _=>[tR tO os,tS ss]) ss.length (fun i=>True) rfl rfl trivial (fun R i hi hP hR=> ?_)
 simp only [AM,AT,AL,AK,AN,AE,AI,AV,AU,AS,AP,AQ,AO,AR,BD,BE,BH,BG,BJ,BL,BF,AZ,A6,A1,AY,A5,A4]
 simp only [BF,Ae,Ad,Au]
 refine AJ (AH (fun hlt=> ?_) fun hge=> ?_)
 ·have hlt:i<ss.length:=by omega
  replace hR:=hR hlt trivial
  have hone:=hss.one i hlt
  rw [List.take_succ_eq_append_getElem hlt,U7 hlt,xV hone] at hR
  refine B4 (AW hlt (ldS hlt (KN (AH (fun he=> ?_) fun he=> ?_))))
  ·rw [if_pos he,List.length_take,Nat.min_eq_left hi] at hR
   exact AX (by omega) hR
  ·rw [if_neg he] at hR
   exact AX (by omega) hR
 ·have:i=ss.length:=by omega
  subst this
  rw [List.take_length]
  refine AJ ?_
  by_cases ha:at_ ss s<0
  ·by_cases h6:6≤ss.length
   ·rw [if_pos ⟨ha,h6⟩] at h
    repeat' (first | exact h | refine BM ?_ | refine JA (by first | with_reducible assumption | omega) ?_ | refine CL (by first | with_reducible assumption | omega) rfl ?_ | refine CT (by first | with_reducible assumption | omega) ?_ | refine FE ?_)
    all_goals omega
   ·rw [if_neg (by omega),if_pos ha,if_pos ha] at h
    refine BM (BM (BM (JA ha (JD (CL ha rfl (BV (by omega) (B4 (AJ (CT ha (D8 rfl (by omega) ?_))))))))))
    repeat' (first | refine LI ?_ | refine E9 ?_ | refine UE (by omega) (by omega) ?_ | refine KM (by omega) (by decide) rfl ?_ | simp only [AM,AT,AL,AK,AN,AE,AI,AV,AU,AS,AP,AQ,AO,AR,BD,BE,BH,BG,BJ,BL,BF,AZ,A6,A1,AY,A5,A4])
    rw [←ZM] at h
    exact OM (y:=N5 (w64 ((ob os (CP os).toNat).gen+1)) ss.length) (by omega) rfl (NC h)
  ·rw [if_neg (by omega),if_neg ha,if_neg ha] at h
   refine BM (BM (BM (L5 ha (CJ ha rfl (BQ (B4 (AJ (BV (by omega) ?_))))))))
   repeat' (first | refine LI ?_ | refine E9 ?_ | refine UE (by omega) (by omega) ?_ | refine KM (by omega) (by decide) rfl ?_ | simp only [AM,AT,AL,AK,AN,AE,AI,AV,AU,AS,AP,AQ,AO,AR,BD,BE,BH,BG,BJ,BL,BF,AZ,A6,A1,AY,A5,A4])
   exact OM (y:=N5 (w64 ((ob os (CP os).toNat).gen+1)) (at_ ss s)) (by omega) rfl (NC h)
def u9 (r:List A8×List Int×List Int):List A8×List Int×An:=(r.1,r.2.1,⟨0,0,r.2.2⟩)
def KP (os:List A8) (buf:List Int) (kind id:Int):List A8×List Int×An:=
 if AD os id<0 then (os,buf,⟨1,0,[]⟩) else
 if kind=2 then
  if (ob os (AD os id).toNat).holds=20 then (os,buf,⟨4,0,[]⟩) else (EA (os.set (AD os id).toNat {ob os (AD os id).toNat with holds:=(ob os (AD os id).toNat).holds+1}) id,buf,⟨0,0,[]⟩)
 else if kind=5 then
  if (ob os (AD os id).toNat).roots=20 then (os,buf,⟨4,0,[]⟩) else (EA (os.set (AD os id).toNat {ob os (AD os id).toNat with roots:=(ob os (AD os id).toNat).roots+1}) id,buf,⟨0,0,[]⟩)
 else if kind=3 then
  if (ob os (AD os id).toNat).holds=0 then (os,buf,⟨5,0,[]⟩) else u9 (I9 (os.set (AD os id).toNat {ob os (AD os id).toNat with holds:=(ob os (AD os id).toNat).holds-1}) buf [id])
 else
  if (ob os (AD os id).toNat).roots=0 then (os,buf,⟨5,0,[]⟩) else u9 (I9 (os.set (AD os id).toNat {ob os (AD os id).toNat with roots:=(ob os (AD os id).toNat).roots-1}) buf [id])
theorem stH {os:List A8} {k:Nat} {v:Int} {K:List T→Prop} (hk:k<os.length) (h:K (tR tO (os.set k {ob os k with holds:=v}))):stc (tR tO os) [] (AA (iv (AA (iv k)*8+3))) (I v) K:=by
 rw [A9 (AA (iv k)*8+3), ←EW hk] at*;exact fK hk h
theorem stR {os:List A8} {k:Nat} {v:Int} {K:List T→Prop} (hk:k<os.length) (h:K (tR tO (os.set k {ob os k with roots:=v}))):stc (tR tO os) [] (AA (iv (AA (iv k)*8+4))) (I v) K:=by
 rw [A9 (AA (iv k)*8+4), ←EW hk] at*;exact XP hk (by decide) rfl rfl h
theorem cS {os:List A8} {buf:List Int} {b d:List T} {kind id:Int} {K:J2} (hol:os.length=8) (hof: ∀o∈os,OF o) (hb:buf.length≤100) (hid:F64 id) (hkd:kind=2∨kind=3∨kind=5∨kind=6) (hr: ∀i,(0≤(ob os i).holds∧(ob os i).holds≤20)∧(0≤(ob os i).roots∧(ob os i).roots≤20)) (h:K [I (KP os buf kind id).2.2.code,I (KP os buf kind id).2.2.val] [tI (KP os buf kind id).2.2.freed,tR tO (KP os buf kind id).1,tI (KP os buf kind id).2.1]):cl2 ⟨Tryz.prog,w0⟩ 127 DL.sg [I kind,I id] [tR tO os,b,tI buf,d] K:=by
 refine DL.cl2 ?_
 unfold DL.txt
 simp only [AM,AT,AL,AK,AN,AE,AI,AV,AU,AS,AP,AQ,AO,AR,BD,BE,BH,BG,BJ,BL,BF,AZ,A6,A1,AY,A5,A4]
 unfold KP at h
 refine C6 hid (by omega) (AJ (AH (fun hs=> ?_) fun hs=> ?_))
 ·rw [if_pos hs] at h
  exact CB h
 rw [if_neg hs] at h
 have hkb:=BT (l:=os) (id:=id) (by omega)
 obtain ⟨k,hkk⟩: ∃k,(AD os id).toNat=k:=⟨_,rfl⟩
 have hkI:AD os id=(k:Int):=by omega
 rw [hkk] at h hkb
 have hkl:k<os.length:=by omega
 have hrk:=hr k
 have ho:=hof _ (IH (l:=os) (i:=k) (by omega))
 obtain ⟨⟨r1,r2⟩,r3,r4⟩:=hrk
 rw [BD,hkI]
 refine AW (by omega) (B4 ?_)
 simp only [AM,AT,AL,AK,AN,AE,AI,AV,AU,AS,AP,AQ,AO,AR,BD,BE,BH,BG,BJ,BL,BF,AZ,A6,A1,AY,A5,A4]
 rcases hkd with rfl | rfl | rfl | rfl
 ·simp only [if_true] at h
  repeat' (first | refine BM ?_ | refine OW ?_ | refine NB ?_ | refine CL (by first | with_reducible assumption | omega) rfl ?_ | refine CJ (by first | with_reducible assumption | omega) rfl ?_ | refine BS ?_ | refine BQ ?_ | refine BI ?_ | refine BX ⟨by omega,by omega⟩ ?_ | refine KM (by omega) (by decide) rfl ?_ | refine AH (fun _=> ?_) (fun _=> ?_))
  ·rename_i h20
   rw [if_pos h20] at h
   exact CB h
  ·rename_i h20
   rw [if_neg h20] at h
   exact stH hkl (R0 hid (by simpa using hol) h)
 ·simp only [if_neg (show ¬(3:Int)=2 by decide),if_neg (show ¬(3:Int)=5 by decide),if_true] at h
  repeat' (first | refine BM ?_ | refine OW ?_ | refine CJ (by first | with_reducible assumption | omega) rfl ?_ | refine BQ ?_ | refine BI ?_ | refine BX ⟨by omega,by omega⟩ ?_ | refine KM (by omega) (by decide) rfl ?_ | refine AH (fun _=> ?_) (fun _=> ?_))
  ·rename_i h20
   rw [if_pos h20] at h
   exact CB h
  ·rename_i h20
   rw [if_neg h20] at h
   exact stH hkl (TA (buf:=buf) (ids:=[id]) (by simpa using hol) (JK hof ⟨ho.gen,ho.len,ho.fld⟩) (by omega) (by simp) (by simpa using hid) h)
 ·simp only [if_neg (show ¬(5:Int)=2 by decide),if_true] at h
  repeat' (first | refine BM ?_ | refine OW ?_ | refine NB ?_ | refine CL (by first | with_reducible assumption | omega) rfl ?_ | refine CJ (by first | with_reducible assumption | omega) rfl ?_ | refine BS ?_ | refine BI ?_ | refine BX ⟨by omega,by omega⟩ ?_ | refine AW (by omega) ?_ | refine KM (by omega) (by decide) rfl ?_ | refine AH (fun _=> ?_) (fun _=> ?_))
  ·rename_i h20
   rw [if_pos h20] at h
   exact CB h
  ·rename_i h20
   rw [if_neg h20] at h
   exact stR hkl (R0 hid (by simpa using hol) h)
 ·simp only [if_neg (show ¬(6:Int)=2 by decide),if_neg (show ¬(6:Int)=5 by decide),if_neg (show ¬(6:Int)=3 by decide)] at h
  repeat' (first | refine BM ?_ | refine OW ?_ | refine CJ (by first | with_reducible assumption | omega) rfl ?_ | refine BS ?_ | refine BQ ?_ | refine BI ?_ | refine BX ⟨by omega,by omega⟩ ?_ | refine AW (by omega) ?_ | refine KM (by omega) (by decide) rfl ?_ | refine AH (fun _=> ?_) (fun _=> ?_))
  ·rename_i h20
   rw [if_pos h20] at h
   exact CB h
  ·rename_i h20
   rw [if_neg h20] at h
   exact stR hkl (TA (buf:=buf) (ids:=[id]) (by simpa using hol) (JK hof ⟨ho.gen,ho.len,ho.fld⟩) (by omega) (by simp) (by simpa using hid) h)
theorem By {os:List A8} {k:Nat} {v:Int} {K:List T→Prop} (hk:k<os.length) (h:K (tR tO (os.set k {ob os k with holds:=v}))):stc (tR tO os) [] (AA (iv k)*8+3) (I v) K:=by
 rw [←EW hk] at h;exact fK hk h
theorem Cr {os:List A8} {k:Nat} {v:Int} {K:List T→Prop} (hk:k<os.length) (h:K (tR tO (os.set k {ob os k with roots:=v}))):stc (tR tO os) [] (AA (iv k)*8+4) (I v) K:=by
 rw [←EW hk] at h;exact XP hk (by decide) rfl rfl h
theorem St.set {h:Hp} {os:List A8} (st:St h) (hl:os.length=h.BC.length) (ho: ∀o∈os,OF o):St {h with BC:=os}:=⟨by have:=st.ol;simp only;omega,st.wl,st.sl,st.bl,ho,st.ss,st.wf,st.bf⟩
theorem dM {h:Hp} {kind id b c:Int} {s:ByteArray} {K:J2} (st:St h) (hid:F64 id) (hkd:kind=2∨kind=3∨kind=5∨kind=6) (hr: ∀i,(0≤(ob h.BC i).holds∧(ob h.BC i).holds≤20)∧(0≤(ob h.BC i).roots∧(ob h.BC i).roots≤20)) (hK:K [I (KP h.BC h.buffer kind id).2.2.code,I (KP h.BC h.buffer kind id).2.2.val] [tR tO (KP h.BC h.buffer kind id).1,tR tW h.B8,tI (KP h.BC h.buffer kind id).2.1,tS h.sites,tI (KP h.BC h.buffer kind id).2.2.freed]):cl2 ⟨Tryz.prog,w0⟩ 105 I3.sg [I kind,I id,I b,I c, .string s] (trees h) K:=by
 refine I3.cl2 ?_
 unfold I3.txt
 obtain ⟨os,ws,buf,ss⟩:=h
 have hol:os.length=8:=st.ol
 have hof: ∀o∈os,OF o:=st.of
 simp only at hr hK
 simp only [trees]
 simp only [AM,AT,AL,AK,AN,AE,AI,AV,AU,AS,AP,AQ,AO,AR,BD,BE,BH,BG,BJ,BL,BF,AZ,A6,A1,AY,A5,A4]
 unfold KP at hK
 refine C4 hid (by omega) (AJ (AH (fun hs=> ?_) fun hs=> ?_))
 ·rw [if_pos hs] at hK
  exact hK
 rw [if_neg hs] at hK
 have hkb:=BT (l:=os) (id:=id) (by omega)
 obtain ⟨k,hkk⟩: ∃k,(AD os id).toNat=k:=⟨_,rfl⟩
 have hkI:AD os id=(k:Int):=by omega
 rw [hkk] at hK hkb
 have hkl:k<os.length:=by omega
 have hrk:=hr k
 have ho:=hof _ (IH (l:=os) (i:=k) (by omega))
 obtain ⟨⟨r1,r2⟩,r3,r4⟩:=hrk
 rw [BD,hkI]
 refine AW (by omega) (RI hkl (B4 (B4 ?_)))
 simp only [sO,uA,zK,zN,zB,wL,y6]
 have gn: ∀{os':List A8} {K:J2},os'.length=os.length→(∀o∈os',OF o)→K [] [tR tO (EA os' id),tR tW ws,tI buf,tS ss]→cl2 ⟨Tryz.prog,w0⟩ 158 HA.sg [I id] [tR tO os',tR tW ws,tI buf,tS ss] K:=fun hl ho hk=>X5 (St.set st hl ho) hid hk
 have ls: ∀{os':List A8} {K:J2},os'.length=os.length→(∀o∈os',OF o)→K [] [tR tO (I9 os' buf [id]).1,tR tW ws,tI (I9 os' buf [id]).2.1,tS ss,tI (I9 os' buf [id]).2.2]→cl2 ⟨Tryz.prog,w0⟩ 159 H8.sg [] [tR tO os',tR tW ws,tI buf,tS ss,tI [id]] K:=fun hl ho hk=>X9 (St.set st hl ho) (by simp) (by simpa using hid) hk
 rcases hkd with rfl | rfl | rfl | rfl
 ·simp only [if_true] at hK
  by_cases h20:(ob os k).holds=20
  ·rw [if_pos h20] at hK
   repeat' (first | refine BM ?_ | refine RP ?_ | refine CL (by first | with_reducible assumption | omega) rfl ?_ | refine CT (by first | with_reducible assumption | omega) ?_ | refine FE ?_ | refine BI ?_ | simp only [AM,AT,AL,AK,AN,AE,AI,AV,AU,AS,AP,AQ,AO,AR,BD,BE,BH,BG,BJ,BL,BF,AZ,A6,A1,AY,A5,A4])
   exact hK
  ·rw [if_neg h20] at hK
   repeat' (first | refine B4 ?_ | refine BM ?_ | refine RP ?_ | refine M9 ?_ | refine CL (by first | with_reducible assumption | omega) rfl ?_ | refine CJ (by first | with_reducible assumption | omega) rfl ?_ | refine BS ?_ | refine BQ ?_ | refine BV (by first | with_reducible assumption | omega) ?_ | refine FE ?_ | refine BI ?_ | refine BX ⟨by omega,by omega⟩ ?_ | refine AW (by omega) ?_ | simp only [AM,AT,AL,AK,AN,AE,AI,AV,AU,AS,AP,AQ,AO,AR,BD,BE,BH,BG,BJ,BL,BF,AZ,A6,A1,AY,A5,A4])
   exact By hkl (gn (by simp) (JK hof ⟨ho.gen,ho.len,ho.fld⟩) hK)
 ·simp only [if_neg (show ¬(3:Int)=2 by decide),if_neg (show ¬(3:Int)=5 by decide),if_true] at hK
  by_cases h20:(ob os k).holds=0
  ·rw [if_pos h20] at hK
   repeat' (first | refine B4 ?_ | refine BM ?_ | refine RP ?_ | refine M9 ?_ | refine CL (by first | with_reducible assumption | omega) rfl ?_ | refine CJ (by first | with_reducible assumption | omega) rfl ?_ | refine BQ ?_ | refine CT (by first | with_reducible assumption | omega) ?_ | refine AJ ?_ | refine BI ?_ | simp only [AM,AT,AL,AK,AN,AE,AI,AV,AU,AS,AP,AQ,AO,AR,BD,BE,BH,BG,BJ,BL,BF,AZ,A6,A1,AY,A5,A4])
   exact hK
  ·rw [if_neg h20] at hK
   repeat' (first | refine B4 ?_ | refine BM ?_ | refine RP ?_ | refine M9 ?_ | refine CL (by first | with_reducible assumption | omega) rfl ?_ | refine CJ (by first | with_reducible assumption | omega) rfl ?_ | refine BS ?_ | refine BQ ?_ | refine BV (by first | with_reducible assumption | omega) ?_ | refine AJ ?_ | refine BI ?_ | refine BX ⟨by omega,by omega⟩ ?_ | refine AW (by omega) ?_ | simp only [AM,AT,AL,AK,AN,AE,AI,AV,AU,AS,AP,AQ,AO,AR,BD,BE,BH,BG,BJ,BL,BF,AZ,A6,A1,AY,A5,A4])
   exact By hkl (ls (by simp) (JK hof ⟨ho.gen,ho.len,ho.fld⟩) hK)
 ·simp only [if_neg (show ¬(5:Int)=2 by decide),if_true] at hK
  by_cases h20:(ob os k).roots=20
  ·rw [if_pos h20] at hK
   repeat' (first | refine BM ?_ | refine RP ?_ | refine M9 ?_ | refine CL (by first | with_reducible assumption | omega) rfl ?_ | refine CJ (by first | with_reducible assumption | omega) rfl ?_ | refine BQ ?_ | refine CT (by first | with_reducible assumption | omega) ?_ | refine FE ?_ | refine BI ?_ | simp only [AM,AT,AL,AK,AN,AE,AI,AV,AU,AS,AP,AQ,AO,AR,BD,BE,BH,BG,BJ,BL,BF,AZ,A6,A1,AY,A5,A4])
   exact hK
  ·rw [if_neg h20] at hK
   repeat' (first | refine B4 ?_ | refine BM ?_ | refine RP ?_ | refine M9 ?_ | refine CL (by first | with_reducible assumption | omega) rfl ?_ | refine CJ (by first | with_reducible assumption | omega) rfl ?_ | refine BS ?_ | refine BQ ?_ | refine BV (by first | with_reducible assumption | omega) ?_ | refine FE ?_ | refine BI ?_ | refine BX ⟨by omega,by omega⟩ ?_ | refine AW (by omega) ?_ | simp only [AM,AT,AL,AK,AN,AE,AI,AV,AU,AS,AP,AQ,AO,AR,BD,BE,BH,BG,BJ,BL,BF,AZ,A6,A1,AY,A5,A4])
   exact Cr hkl (gn (by simp) (JK hof ⟨ho.gen,ho.len,ho.fld⟩) hK)
 ·simp only [if_neg (show ¬(6:Int)=2 by decide),if_neg (show ¬(6:Int)=5 by decide),if_neg (show ¬(6:Int)=3 by decide)] at hK
  by_cases h20:(ob os k).roots=0
  ·rw [if_pos h20] at hK
   repeat' (first | refine B4 ?_ | refine BM ?_ | refine RP ?_ | refine M9 ?_ | refine CL (by first | with_reducible assumption | omega) rfl ?_ | refine CJ (by first | with_reducible assumption | omega) rfl ?_ | refine BQ ?_ | refine CT (by first | with_reducible assumption | omega) ?_ | refine AJ ?_ | refine BI ?_ | simp only [AM,AT,AL,AK,AN,AE,AI,AV,AU,AS,AP,AQ,AO,AR,BD,BE,BH,BG,BJ,BL,BF,AZ,A6,A1,AY,A5,A4])
   exact hK
  ·rw [if_neg h20] at hK
   repeat' (first | refine B4 ?_ | refine BM ?_ | refine RP ?_ | refine M9 ?_ | refine CL (by first | with_reducible assumption | omega) rfl ?_ | refine CJ (by first | with_reducible assumption | omega) rfl ?_ | refine BQ ?_ | refine BV (by first | with_reducible assumption | omega) ?_ | refine AJ ?_ | refine BI ?_ | refine BX ⟨by omega,by omega⟩ ?_ | refine AW (by omega) ?_ | simp only [AM,AT,AL,AK,AN,AE,AI,AV,AU,AS,AP,AQ,AO,AR,BD,BE,BH,BG,BJ,BL,BF,AZ,A6,A1,AY,A5,A4])
   exact Cr hkl (ls (by simp) (JK hof ⟨ho.gen,ho.len,ho.fld⟩) hK)
end Go.Proofs.YtnhicpkhkaihoaaGreat.P
namespace Go.Proofs.YtnhicpkhkaihoaaGreat.P
open Go Go.Proofs.YtnhicpkhkaihoaaGreat Go.Proofs.YtnhicpkhkaihoaaGreat.Eng
set_option linter.unusedVariables false
set_option maxHeartbeats 4000000
set_option linter.unusedVariables false
set_option linter.unusedSimpArgs false
attribute [local irreducible] prP gP gE gF AG ixW ldc ldg ldl stc stg scW mkW apW BA cl2 B6 G8 C3
variable {w0:World}
def H9 (os:List A8) (buf:List Int) (a b c:Int):List A8×List Int×An:=
 if AD os a<0∨(c≠ -1∧AD os c<0) then (os,buf,⟨1,0,[]⟩) else
 if ¬(0≤b∧b≤2) then (os,buf,⟨2,0,[]⟩) else
 if gI (ob os (AD os a).toNat).field b.toNat= -1 then
  ((EA os c).set (AD os a).toNat {ob (EA os c) (AD os a).toNat with field:=(ob os (AD os a).toNat).field.set b.toNat c},buf,⟨0,0,[]⟩)
 else u9 (I9 ((EA os c).set (AD os a).toNat {ob (EA os c) (AD os a).toNat with field:=(ob os (AD os a).toNat).field.set b.toNat c}) buf [gI (ob os (AD os a).toNat).field b.toNat])
theorem LF {l:List A8} {i k:Nat} {o:A8} (hk:k<l.length):ob (l.set k o) i=if i=k then o else ob l i:=by
 unfold ob
 by_cases h:i=k
 ·subst h
  rw [if_pos rfl,List.getD_eq_getElem?_getD,List.getElem?_set_self hk];rfl
 ·rw [if_neg h,List.getD_eq_getElem?_getD,List.getElem?_set_ne (Ne.symm h),List.getD_eq_getElem?_getD]
theorem bL {os:List A8} {id:Int} {i:Nat}:(ob (EA os id) i).live=(ob os i).live∧(ob (EA os id) i).gen=(ob os i).gen∧(ob (EA os id) i).site=(ob os i).site∧(ob (EA os id) i).holds=(ob os i).holds∧(ob (EA os id) i).roots=(ob os i).roots∧(ob (EA os id) i).field=(ob os i).field∧(ob (EA os id) i).purple=(ob os i).purple:=by
 unfold EA
 split
 ·exact ⟨rfl,rfl,rfl,rfl,rfl,rfl,rfl⟩
 ·have hk:=BT (l:=os) (id:=id) (by omega)
  rw [LF (by omega)]
  split
  ·rename_i h;subst h;exact ⟨rfl,rfl,rfl,rfl,rfl,rfl,rfl⟩
  ·exact ⟨rfl,rfl,rfl,rfl,rfl,rfl,rfl⟩
theorem stF {os:List A8} {k j:Nat} {v:Int} {K:List T→Prop} (hk:k<os.length) (hj:j<(ob os k).field.length) (h:K (tR tO (os.set k {ob os k with field:=(ob os k).field.set j v}))):stc (tR tO os) [AA (iv k)*8+6] (AA (iv j)*1) (I v) K:=by
 rw [←EW hk] at h hj;exact sH hk hj h
theorem OF.put {o:A8} {m:List Int} (h:OF o) (hl:m.length=3) (hf: ∀x∈m,F64 x):OF {o with field:=m}:=⟨h.gen,hl,hf⟩
theorem gT {os:List A8} {buf:List Int} {b d:List T} {a0 a1 a2 a3:Int} {s:ByteArray} {K:J2} (hol:os.length=8) (hof: ∀o∈os,OF o) (hb:buf.length≤100) (h1:F64 a1) (h3:F64 a3) (h:K [I (H9 os buf a1 a2 a3).2.2.code,I (H9 os buf a1 a2 a3).2.2.val] [tI (H9 os buf a1 a2 a3).2.2.freed,tR tO (H9 os buf a1 a2 a3).1,tI (H9 os buf a1 a2 a3).2.1]):cl2 ⟨Tryz.prog,w0⟩ 128 ET.sg [I a0,I a1,I a2,I a3, .string s] [tR tO os,b,tI buf,d] K:=by
 refine ET.cl2 ?_
 unfold ET.txt
 unfold H9 at h
 refine C6 h1 (by omega) ?_
 by_cases hs:AD os a1<0
 ·rw [if_pos (.inl hs)] at h
  repeat' (first | exact CB h | refine BM ?_ | refine s5 ?_ | refine WS (by first | with_reducible assumption | omega) ?_ | refine JL (by first | with_reducible assumption | omega) ?_ | refine CL (by first | with_reducible assumption | omega) rfl ?_ | refine BS ?_ | refine AJ ?_)
 have hkb:=BT (l:=os) (id:=a1) (by omega)
 by_cases hc:a3≠ -1∧AD os a3<0
 ·obtain ⟨hc1,hc2⟩:=hc
  rw [if_pos (.inr ⟨hc1,hc2⟩)] at h
  repeat' (first | refine C6 h3 (by omega) ?_ | exact CB h | refine BM ?_ | refine SL ?_ | refine SW (by first | with_reducible assumption | omega) ?_ | refine JA (by first | with_reducible assumption | omega) ?_ | refine F8 (by first | with_reducible assumption | omega) ?_ | refine CL (by first | with_reducible assumption | omega) rfl ?_ | refine CJ (by first | with_reducible assumption | omega) rfl ?_ | refine CT (by first | with_reducible assumption | omega) ?_ | refine AJ ?_ | refine B2 ?_)
 rw [if_neg (by omega)] at h
 by_cases hb2: ¬(0≤a2∧a2≤2)
 ·rw [if_pos hb2] at h
  repeat' (first | refine C6 h3 (by omega) ?_ | refine HB ?_ | exact CB h | refine BM ?_ | refine SL ?_ | refine SW (by first | with_reducible assumption | omega) ?_ | refine JA (by first | with_reducible assumption | omega) ?_ | refine L5 (by first | with_reducible assumption | omega) ?_ | refine F8 (by first | with_reducible assumption | omega) ?_ | refine CL (by first | with_reducible assumption | omega) rfl ?_ | refine CJ (by first | with_reducible assumption | omega) rfl ?_ | refine BQ ?_ | refine CT (by first | with_reducible assumption | omega) ?_ | refine BV (by first | with_reducible assumption | omega) ?_ | refine AJ ?_ | refine B2 ?_ | refine CF ?_ | refine JR (fun _=> ?_) (fun _=> ?_))
 rw [if_neg hb2] at h
 obtain ⟨k,hkk⟩: ∃k,(AD os a1).toNat=k:=⟨_,rfl⟩
 have hkI:AD os a1=(k:Int):=by omega
 rw [hkk] at h hkb
 obtain ⟨j,rfl⟩: ∃j:Nat,a2=j:=⟨a2.toNat,by omega⟩
 rw [Int.toNat_natCast] at h
 have hkl:k<os.length:=by omega
 have ho:=hof _ (IH (l:=os) (i:=k) (by omega))
 obtain ⟨_,_,_,_,_,gf,_⟩:=bL (os:=os) (id:=a3) (i:=k)
 have gl:=QQ os a3
 have gof:=U5 (id:=a3) hof
 have jl:j<(ob os k).field.length:=by rw [ho.len];omega
 rw [hkI]
 repeat' (first | refine C6 h3 (by omega) ?_ | refine HB ?_ | refine R0 h3 hol ?_ | refine BM ?_ | refine SL ?_ | refine bZ ?_ | refine OW ?_ | refine JA (by first | with_reducible assumption | omega) ?_ | refine L5 (by first | with_reducible assumption | omega) ?_ | refine CL (by first | with_reducible assumption | omega) rfl ?_ | refine CJ (by first | with_reducible assumption | omega) rfl ?_ | refine BQ ?_ | refine BV (by first | with_reducible assumption | omega) ?_ | refine AJ ?_ | refine B2 ?_ | refine CF ?_ | refine AW (by omega) ?_ | refine jJ (by omega) ?_ | refine JR (fun _=> ?_) (fun _=> ?_) | simp only [AM,AT,AL,AK,AN,AE,AI,AV,AU,AS,AP,AQ,AO,AR,BD,BE,BH,BG,BJ,BL,BF,AZ,A6,A1,AY,A5,A4])
 all_goals
  refine AW (by rw [JJ (by omega),AE,gf];exact jl) (ON (by omega) (by rw [gf];exact jl) (AW (by omega) ?_))
  rw [gf]
  refine P4 (f:=tO) (i:=k) (by omega) (by decide) rfl ?_
  refine AW (by rw [JJ (by omega),AE,gf];exact jl) (stF (by omega) (by rw [gf];exact jl) ?_)
  rw [gf]
  refine BI (AH (fun he=> ?_) fun he=> ?_)
  ·rw [if_pos he] at h;exact h
  ·rw [if_neg he] at h
   exact TA (buf:=buf) (ids:=[gI (ob os k).field j]) (by simpa using gl.trans hol) (JK gof (OF.put (gof _ (IH (by omega))) (by rw [List.length_set];exact ho.len) fun x hx=>(List.mem_or_eq_of_mem_set hx).elim (ho.fld x) fun he=>he ▸ h3)) (by omega) (by simp) (by simpa using ho.fld _ (FZ jl)) h
theorem aA {h:Hp} {a0 a1 a2 a3:Int} {s:ByteArray} {K:J2} (st:St h) (h1:F64 a1) (h3:F64 a3) (hfd: ∀i, ∀f∈(ob h.BC i).field,f= -1∨0≤f) (hK:K [I (H9 h.BC h.buffer a1 a2 a3).2.2.code,I (H9 h.BC h.buffer a1 a2 a3).2.2.val] [tR tO (H9 h.BC h.buffer a1 a2 a3).1,tR tW h.B8,tI (H9 h.BC h.buffer a1 a2 a3).2.1,tS h.sites,tI (H9 h.BC h.buffer a1 a2 a3).2.2.freed]):cl2 ⟨Tryz.prog,w0⟩ 106 HW.sg [I a0,I a1,I a2,I a3, .string s] (trees h) K:=by
 refine HW.cl2 ?_
 unfold HW.txt
 obtain ⟨os,ws,buf,ss⟩:=h
 have hol:os.length=8:=st.ol
 have hof: ∀o∈os,OF o:=st.of
 simp only at hK hfd
 simp only [trees]
 unfold H9 at hK
 have gn: ∀{K:J2},K [] [tR tO (EA os a3),tR tW ws,tI buf,tS ss]→cl2 ⟨Tryz.prog,w0⟩ 158 HA.sg [I a3] [tR tO os,tR tW ws,tI buf,tS ss] K:=fun hk=>X5 st h3 hk
 have ls: ∀{os':List A8} {x:Int} {K:J2},os'.length=os.length→(∀o∈os',OF o)→F64 x→K [] [tR tO (I9 os' buf [x]).1,tR tW ws,tI (I9 os' buf [x]).2.1,tS ss,tI (I9 os' buf [x]).2.2]→cl2 ⟨Tryz.prog,w0⟩ 159 H8.sg [] [tR tO os',tR tW ws,tI buf,tS ss,tI [x]] K:=fun hl ho hx hk=>X9 (St.set st hl ho) (by simp) (by simpa using hx) hk
 refine C4 h1 (by omega) ?_
 by_cases hs:AD os a1<0
 ·rw [if_pos (.inl hs)] at hK
  repeat' (first | exact hK | refine BM ?_ | refine s5 ?_ | refine WS (by first | with_reducible assumption | omega) ?_ | refine JL (by first | with_reducible assumption | omega) ?_ | refine CL (by first | with_reducible assumption | omega) rfl ?_ | refine BS ?_ | refine AJ ?_)
 have hkb:=BT (l:=os) (id:=a1) (by omega)
 by_cases hc:a3≠ -1∧AD os a3<0
 ·obtain ⟨hc1,hc2⟩:=hc
  rw [if_pos (.inr ⟨hc1,hc2⟩)] at hK
  repeat' (first | refine C4 h3 (by omega) ?_ | exact hK | refine BM ?_ | refine SL ?_ | refine SW (by first | with_reducible assumption | omega) ?_ | refine JA (by first | with_reducible assumption | omega) ?_ | refine F8 (by first | with_reducible assumption | omega) ?_ | refine CL (by first | with_reducible assumption | omega) rfl ?_ | refine CJ (by first | with_reducible assumption | omega) rfl ?_ | refine CT (by first | with_reducible assumption | omega) ?_ | refine AJ ?_ | refine B2 ?_)
 rw [if_neg (by omega)] at hK
 by_cases hb2: ¬(0≤a2∧a2≤2)
 ·rw [if_pos hb2] at hK
  repeat' (first | refine C4 h3 (by omega) ?_ | refine DU ?_ | exact hK | refine BM ?_ | refine SL ?_ | refine SW (by first | with_reducible assumption | omega) ?_ | refine JA (by first | with_reducible assumption | omega) ?_ | refine L5 (by first | with_reducible assumption | omega) ?_ | refine F8 (by first | with_reducible assumption | omega) ?_ | refine CL (by first | with_reducible assumption | omega) rfl ?_ | refine CJ (by first | with_reducible assumption | omega) rfl ?_ | refine BQ ?_ | refine CT (by first | with_reducible assumption | omega) ?_ | refine BV (by first | with_reducible assumption | omega) ?_ | refine AJ ?_ | refine B2 ?_ | refine CF ?_ | refine JR (fun _=> ?_) (fun _=> ?_))
 rw [if_neg hb2] at hK
 obtain ⟨k,hkk⟩: ∃k,(AD os a1).toNat=k:=⟨_,rfl⟩
 have hkI:AD os a1=(k:Int):=by omega
 rw [hkk] at hK hkb
 obtain ⟨j,rfl⟩: ∃j:Nat,a2=j:=⟨a2.toNat,by omega⟩
 rw [Int.toNat_natCast] at hK
 have hkl:k<os.length:=by omega
 have ho:=hof _ (IH (l:=os) (i:=k) (by omega))
 obtain ⟨_,_,_,_,_,gf,_⟩:=bL (os:=os) (id:=a3) (i:=k)
 have gl:=QQ os a3
 have gof:=U5 (id:=a3) hof
 have jl:j<(ob os k).field.length:=by rw [ho.len];omega
 have hold:=hfd k _ (FZ jl)
 rw [hkI]
 repeat' (first | refine C4 h3 (by omega) ?_ | refine DU ?_ | refine BM ?_ | refine SL ?_ | refine bZ ?_ | refine OW ?_ | refine JA (by first | with_reducible assumption | omega) ?_ | refine L5 (by first | with_reducible assumption | omega) ?_ | refine CL (by first | with_reducible assumption | omega) rfl ?_ | refine CJ (by first | with_reducible assumption | omega) rfl ?_ | refine BQ ?_ | refine BV (by first | with_reducible assumption | omega) ?_ | refine AJ ?_ | refine B2 ?_ | refine CF ?_ | refine AW (by omega) ?_ | refine jJ (by omega) ?_ | refine JR (fun _=> ?_) (fun _=> ?_) | simp only [AM,AT,AL,AK,AN,AE,AI,AV,AU,AS,AP,AQ,AO,AR,BD,BE,BH,BG,BJ,BL,BF,AZ,A6,A1,AY,A5,A4])
 all_goals
  refine AW (by rw [JJ (by omega),AE];exact jl) (ON (by omega) jl (B4 ?_))
  simp only [AM,AT,AL,AK,AN,AE,AI,AV,AU,AS,AP,AQ,AO,AR,BD,BE,BH,BG,BJ,BL,BF,AZ,A6,A1,AY,A5,A4]
  refine JD (AH (fun hge=>gn ?_) fun hlt=> ?_)
  ·simp only [AM,AT,AL,AK,AN,AE,AI,AV,AU,AS,AP,AQ,AO,AR,BD,BE,BH,BG,BJ,BL,BF,AZ,A6,A1,AY,A5,A4]
   refine AW (by omega) (P4 (f:=tO) (i:=k) (by omega) (by decide) rfl ?_)
   refine AW (by rw [JJ (by omega),AE,gf];exact jl) (stF (by omega) (by rw [gf];exact jl) ?_)
   rw [gf]
   refine AJ (AH (fun he=> ?_) fun he=> ?_)
   ·rw [if_pos (by omega)] at hK;exact hK
   ·rw [if_neg (by omega)] at hK
    exact ls (by simpa using gl) (JK gof (OF.put (gof _ (IH (by omega))) (by rw [List.length_set];exact ho.len) fun x hx=>(List.mem_or_eq_of_mem_set hx).elim (ho.fld x) fun he=>he ▸ h3)) (ho.fld _ (FZ jl)) hK
  ·have e0:EA os a3=os:=by unfold EA;rw [if_pos];rw [QH (by omega)];decide
   rw [e0] at hK
   refine AW (by omega) (P4 (f:=tO) (i:=k) (by omega) (by decide) rfl ?_)
   refine AW (by rw [JJ (by omega),AE];exact jl) (stF (by omega) jl ?_)
   refine AJ (AH (fun he=> ?_) fun he=> ?_)
   ·rw [if_pos (by omega)] at hK;exact hK
   ·rw [if_neg (by omega)] at hK
    exact ls (by simp) (JK hof (OF.put ho (by rw [List.length_set];exact ho.len) fun x hx=>(List.mem_or_eq_of_mem_set hx).elim (ho.fld x) fun he=>he ▸ h3)) (ho.fld _ (FZ jl)) hK
def NX (os:List A8) (ws:List Wk) (id:Int):List Wk×An:=
 if AD os id<0 then (ws,⟨1,0,[]⟩) else if K9 ws<0 then (ws,⟨3,0,[]⟩) else (ws.set (K9 ws).toNat ⟨true,id⟩,⟨0,K9 ws,[]⟩)
def JE (os:List A8) (ws:List Wk) (kind k:Int):List Wk×An:=
 if ¬(0≤k∧k≤(ws.length:Int)-1) then (ws,⟨2,0,[]⟩) else
 if (wk ws k.toNat).used=false then (ws,⟨2,0,[]⟩) else
 if kind=9 then (ws.set k.toNat ⟨false,0⟩,⟨0,0,[]⟩) else
 if AD os (wk ws k.toNat).target<0 then (ws,⟨0, -1,[]⟩) else (ws,⟨0,(wk ws k.toNat).target,[]⟩)
theorem eD {ws:List Wk} (h: ¬K9 ws<0):(K9 ws).toNat<ws.length∧K9 ws=((K9 ws).toNat:Int)∧(wk ws (K9 ws).toNat).used=false:=by
 rcases VE ws.length (fun i=> !(wk ws i).used) with ⟨h1,_⟩ | ⟨i,h1,h2,h3,_⟩
 ·unfold K9 at h;omega
 ·have e:K9 ws=i:=h2
  have e2:(K9 ws).toNat=i:=by omega
  rw [e2];exact ⟨h1,e,by simpa using h3⟩
theorem l7 {os:List A8} {ws:List Wk} {c d:List T} {id:Int} {K:J2} (hol:os.length=8) (hwl:ws.length=8) (hid:F64 id) (h:K [I (NX os ws id).2.code,I (NX os ws id).2.val] [tI (NX os ws id).2.freed,tR tW (NX os ws id).1]):cl2 ⟨Tryz.prog,w0⟩ 129 FK.sg [I id] [tR tO os,tR tW ws,c,d] K:=by
 refine FK.cl2 ?_
 unfold FK.txt
 unfold NX at h
 simp only [AM,AT,AL,AK,AN,AE,AI,AV,AU,AS,AP,AQ,AO,AR,BD,BE,BH,BG,BJ,BL,BF,AZ,A6,A1,AY,A5,A4]
 refine YT hwl (C6 hid (by omega) (AJ (AH (fun hs=> ?_) fun hs=> ?_)))
 ·rw [if_pos hs] at h;exact CB h
 rw [if_neg hs] at h
 refine AJ (AH (fun hf=> ?_) fun hf=> ?_)
 ·rw [if_pos hf] at h;exact CB h
 rw [if_neg hf] at h
 obtain ⟨f1,f2,f3⟩:=eD hf
 simp only [AM,AT,AL,AK,AN,AE,AI,AV,AU,AS,AP,AQ,AO,AR,BD,BE,BH,BG,BJ,BL,BF,AZ,A6,A1,AY,A5,A4]
 rw [f2] at h ⊢
 rw [Int.toNat_natCast] at h
 exact AW f1 (OM (f:=tW) f1 (y:=⟨true,id⟩) rfl h)
theorem dX {os:List A8} {ws:List Wk} {c d:List T} {kind k:Int} {K:J2} (hol:os.length=8) (hwl:ws.length=8) (hk:F64 k) (hwf: ∀w∈ws,F64 w.target) (h:K [I (JE os ws kind k).2.code,I (JE os ws kind k).2.val] [tI (JE os ws kind k).2.freed,tR tW (JE os ws kind k).1]):cl2 ⟨Tryz.prog,w0⟩ 130 D6.sg [I kind,I k] [tR tO os,tR tW ws,c,d] K:=by
 refine D6.cl2 ?_
 unfold D6.txt
 unfold JE at h
 simp only [AM,AT,AL,AK,AN,AE,AI,AV,AU,AS,AP,AQ,AO,AR,BD,BE,BH,BG,BJ,BL,BF,AZ,A6,A1,AY,A5,A4]
 refine DM ⟨by omega,by omega⟩ (HB (CF ?_))
 by_cases hb: ¬(0≤k∧k≤(ws.length:Int)-1)
 ·rw [if_pos hb] at h
  repeat' (first | exact CB h | refine BM ?_ | refine JL (by first | with_reducible assumption | omega) ?_ | refine CL (by first | with_reducible assumption | omega) rfl ?_ | refine BS ?_)
 rw [if_neg hb] at h
 obtain ⟨j,rfl⟩: ∃j:Nat,k=j:=⟨k.toNat,by omega⟩
 rw [Int.toNat_natCast] at h
 have jl:j<ws.length:=by omega
 have hw:=hwf _ (List.getElem_mem jl)
 rw [eT jl] at hw
 cases hu:(wk ws j).used with
 | false=>
   rw [if_pos hu] at h
   repeat' (first | refine TM (v:= .bool false) jl (by simp [tW,hu]) ?_ | exact CB h | refine BM ?_ | refine F8 (by first | with_reducible assumption | omega) ?_ | refine CJ (by first | with_reducible assumption | omega) rfl ?_ | refine BS ?_ | refine AW (by omega) ?_ | refine BN ?_)
 | true=>
   rw [if_neg (by rw [hu];decide)] at h
   repeat' (first | refine TM (v:= .bool true) jl (by simp [tW,hu]) ?_ | refine C6 hw (by omega) ?_ | refine BM ?_ | refine F8 (by first | with_reducible assumption | omega) ?_ | refine CJ (by first | with_reducible assumption | omega) rfl ?_ | refine BQ ?_ | refine AJ ?_ | refine BI ?_ | refine AW (by omega) ?_ | refine sT (by omega) (by decide) rfl ?_ | refine AH (fun _=> ?_) (fun _=> ?_) | refine BN ?_)
   ·rename_i hh
    rw [if_pos hh] at h
    exact OM (f:=tW) jl (y:=⟨false,0⟩) rfl h
   ·rename_i hh hs
    rw [if_neg hh,if_pos hs] at h
    exact h
   ·rename_i hh hs
    rw [if_neg hh,if_neg hs] at h
    exact h
theorem dC {os:List A8} {ws:List Wk} {cc d:List T} {kind k b c:Int} {s:ByteArray} {K:J2} (hol:os.length=8) (hwl:ws.length=8) (hk:F64 k) (hwf: ∀w∈ws,F64 w.target) (h7:kind=7→K [I (NX os ws k).2.code,I (NX os ws k).2.val] [tR tW (NX os ws k).1,tI (NX os ws k).2.freed]) (h:kind≠7→K [I (JE os ws kind k).2.code,I (JE os ws kind k).2.val] [tR tW (JE os ws kind k).1,tI (JE os ws kind k).2.freed]):cl2 ⟨Tryz.prog,w0⟩ 107 IU.sg [I kind,I k,I b,I c, .string s] [tR tO os,tR tW ws,cc,d] K:=by
 refine IU.cl2 ?_
 unfold IU.txt
 simp only [AM,AT,AL,AK,AN,AE,AI,AV,AU,AS,AP,AQ,AO,AR,BD,BE,BH,BG,BJ,BL,BF,AZ,A6,A1,AY,A5,A4]
 refine BI (AH (fun he=> ?_) fun he=> ?_)
 ·replace h:=h7 he
  clear h7
  unfold NX at h
  refine C4 hk (by omega) (AJ (AH (fun hs=> ?_) fun hs=> ?_))
  ·rw [if_pos hs] at h;exact h
  rw [if_neg hs] at h
  refine A7 (fun i=>[iv i,I kind,I k,I b,I c, .string s,I 0,I 0]) (fun _=>[tR tW ws]) ws.length (fun i=> ∀j,j<i→(!(wk ws j).used)=false) rfl rfl (fun k hk=>by omega) (fun R i hi hP hR=> ?_)
  simp only [AM,AT,AL,AK,AN,AE,AI,AV,AU,AS,AP,AQ,AO,AR,BD,BE,BH,BG,BJ,BL,BF,AZ,A6,A1,AY,A5,A4]
  refine AJ (AH (fun hlt=> ?_) fun hge=> ?_)
  ·have hlt:i<ws.length:=by omega
   cases hv:(wk ws i).used with
   | false=>
     refine AW hlt (TM (v:= .bool false) hlt (by simp [tW,hv]) (BN (BS (AW hlt ?_))))
     unfold K9 at h
     rw [PI hlt (by rw [hv];rfl) hP,if_neg (by omega),Int.toNat_natCast] at h
     exact OM (f:=tW) hlt (y:=⟨true,k⟩) rfl h
   | true=>
     refine AW hlt (TM (v:= .bool true) hlt (by simp [tW,hv]) (BN (BQ (AX (by omega) (hR hlt fun k hk=> ?_)))))
     rcases Nat.lt_succ_iff_lt_or_eq.1 hk with h3 | rfl
     ·exact hP k h3
     ·rw [hv];rfl
  ·have:i=ws.length:=by omega
   subst this
   unfold K9 at h
   rw [TV hP,if_pos (by decide)] at h;exact h
 ·replace h:=h he
  clear h7
  unfold JE at h
  refine DM ⟨by omega,by omega⟩ (DU (CF ?_))
  by_cases hb: ¬(0≤k∧k≤(ws.length:Int)-1)
  ·rw [if_pos hb] at h
   repeat' (first | exact h | refine BM ?_ | refine JL (by first | with_reducible assumption | omega) ?_ | refine CL (by first | with_reducible assumption | omega) rfl ?_ | refine BS ?_)
  rw [if_neg hb] at h
  obtain ⟨j,rfl⟩: ∃j:Nat,k=j:=⟨k.toNat,by omega⟩
  rw [Int.toNat_natCast] at h
  have jl:j<ws.length:=by omega
  have hw:=hwf _ (List.getElem_mem jl)
  rw [eT jl] at hw
  cases hu:(wk ws j).used with
  | false=>
    rw [if_pos hu] at h
    repeat' (first | refine TM (v:= .bool false) jl (by simp [tW,hu]) ?_ | exact h | refine BM ?_ | refine F8 (by first | with_reducible assumption | omega) ?_ | refine CJ (by first | with_reducible assumption | omega) rfl ?_ | refine BS ?_ | refine AW (by omega) ?_ | refine BN ?_)
  | true=>
    rw [if_neg (by rw [hu];decide)] at h
    repeat' (first | refine TM (v:= .bool true) jl (by simp [tW,hu]) ?_ | refine C4 hw (by omega) ?_ | refine BM ?_ | refine F8 (by first | with_reducible assumption | omega) ?_ | refine CJ (by first | with_reducible assumption | omega) rfl ?_ | refine BQ ?_ | refine AJ ?_ | refine BI ?_ | refine AW (by omega) ?_ | refine sT (by omega) (by decide) rfl ?_ | refine AH (fun _=> ?_) (fun _=> ?_) | refine BN ?_)
    ·rename_i hh
     rw [if_pos hh] at h
     exact OM (f:=tW) jl (y:=⟨false,0⟩) rfl h
    ·rename_i hh hs
     rw [if_neg hh,if_pos hs] at h
     exact h
    ·rename_i hh hs
     rw [if_neg hh,if_neg hs] at h
     exact h
end Go.Proofs.YtnhicpkhkaihoaaGreat.P
