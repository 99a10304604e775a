/- A part of the proof. -/
import Derived.Test.YtnhicpkhkaihoaaEvHpI
namespace Go.Proofs.Ytnhicpkhkaihoaa.P
open Go Go.Proofs.Ytnhicpkhkaihoaa Go.Proofs.Ytnhicpkhkaihoaa.Eng
set_option linter.unusedVariables false
set_option maxHeartbeats 4000000
set_option linter.unusedVariables false
set_option linter.unusedSimpArgs false
attribute [local irreducible] prP gP gE gF AI ixW ldc ldg ldl stc stg scW mkW apW BG cl2 BZ EZ DS
variable {w0:World}
def MU (n:Nat) (p:Nat→Bool):Int:=match (List.range n).find? p with
 | some i=>(i:Int)
 | none=> -1
theorem TF {n i:Nat} {p:Nat→Bool} (hi:i<n) (h:p i=true) (hb: ∀k,k<i→p k=false):MU n p=i:=by
 have:(List.range n).find? p=some i:=List.find?_range_eq_some.2 ⟨h,List.mem_range.2 hi,fun j hj=>by rw [hb j hj];rfl⟩
 rw [MU,this]
theorem XO {n:Nat} {p:Nat→Bool} (hb: ∀k,k<n→p k=false):MU n p= -1:=by
 have:(List.range n).find? p=none:=List.find?_range_eq_none.2 fun j hj=>by rw [hb j hj];rfl
 rw [MU,this]
theorem R8 (n:Nat) (p:Nat→Bool):(MU n p= -1∧ ∀k,k<n→p k=false)∨ ∃i,i<n∧MU n p=(i:Int)∧p i=true∧ ∀k,k<i→p k=false:=by
 cases h:(List.range n).find? p with
 | none=>exact .inl ⟨by rw [MU,h],fun k hk=>by have:=List.find?_range_eq_none.1 h k hk;simpa using this⟩
 | some i=>
   obtain ⟨h1,h2,h3⟩:=List.find?_range_eq_some.1 h
   exact .inr ⟨i,List.mem_range.1 h2,by rw [MU,h],h1,fun k hk=>by have:=h3 k hk;simpa using this⟩
def ML (os:List AX) (i:Nat):Bool:= !(ob os i).live&&decide ((ob os i).gen<999)
def CT (os:List AX):Int:=MU os.length (ML os)
def JW (ws:List Wk):Int:=MU ws.length fun i=> !(wk ws i).used
theorem UB {os:List AX} {b c d:List T} {K:J2} (hol:os.length=8) (h:K [I (CT os)] []):cl2 ⟨Try.prog,w0⟩ 191 EI.sg [] [tR tO os,b,c,d] K:=by
 refine EI.cl2 ?_
 unfold EI.txt
 simp only [AJ,AQ,AL,AR,AO,AE,AG,AU,AN,AS,AV,AP,AM,AT,BN,BS,BV,BT,BW,BU,BO,A9,A6,A4,A7,A8,A5]
 refine BF (fun i=>[iv i]) (fun _=>[]) os.length (fun i=> ∀k,k<i→ML os k=false) rfl rfl (fun k hk=>by omega) (fun R i hi hP hR=> ?_)
 simp only [AJ,AQ,AL,AR,AO,AE,AG,AU,AN,AS,AV,AP,AM,AT,BN,BS,BV,BT,BW,BU,BO,A9,A6,A4,A7,A8,A5]
 refine A1 (BP (LJ (fun hlt=> ?_) fun hge=> ?_))
 ·have hlt':i<os.length:=by omega
  refine A1 (EY hlt rfl (GF (by omega) ?_))
  have no:ML os i=false→R [iv (i+1)] []:=fun hn=>hR hlt' fun k hk=>(Nat.lt_succ_iff_lt_or_eq.1 hk).elim (hP k) fun he=>he ▸ hn
  have yes:ML os i=true→K [iv i] []:=fun hy=>by unfold CT at h;rw [TF hlt' hy hP] at h;exact h
  refine AK hlt' ?_
  cases hv:(ob os i).live with
  | false=>
    refine LY (v:= .bool false) hlt' (by simp [tO,hv]) (B6 ?_)
    repeat' (first | refine AK hlt' ?_ | refine NY (v:=I (ob os i).gen) hlt' (by decide) rfl ?_ | refine BP ?_ | refine OP ?_ | refine TZ rfl ?_ | refine A1 ?_ | refine BD (by omega) ?_ | refine AH (fun _=> ?_) (fun _=> ?_))
    ·exact yes (by simp [ML,hv];omega)
    ·exact no (by simp [ML,hv];omega)
  | true=>
    refine LY (v:= .bool true) hlt' (by simp [tO,hv]) (B6 ?_)
    repeat' (first | refine BP ?_ | refine QG ?_ | refine ZW rfl ?_ | refine CD ?_ | refine BD (by omega) ?_)
    all_goals exact no (by simp [ML,hv])
 ·refine FV hge rfl (CD ?_)
  have:i=os.length:=by omega
  subst this
  unfold CT at h
  rw [XO hP] at h;exact h
def LX (g s:Int):AX:=⟨true,g,s,1,0,1,O9,false⟩
def HA (os:List AX) (ss:List ByteArray) (s:ByteArray):List AX×List ByteArray×An:=
 if ¬(1≤(s.size:Int)∧(s.size:Int)≤8) then (os,ss,⟨2,0,[]⟩)
 else if CT os<0 then (os,ss,⟨3,0,[]⟩)
 else if at_ ss s<0∧6≤ss.length then (os,ss,⟨6,0,[]⟩)
 else (os.set (CT os).toNat (LX (w64 ((ob os (CT os).toNat).gen+1)) (if at_ ss s<0 then ss.length else at_ ss s)),(if at_ ss s<0 then ss++[s] else ss),⟨0,CU (CT os) (w64 ((ob os (CT os).toNat).gen+1)),[]⟩)
theorem TK {os:List AX} (h: ¬CT os<0):(CT os).toNat<os.length∧CT os=((CT os).toNat:Int)∧ML os (CT os).toNat=true:=by
 rcases R8 os.length (ML os) with ⟨h1,_⟩ | ⟨i,h1,h2,h3,_⟩
 ·unfold CT at h;omega
 ·have e:CT os=i:=h2
  have e2:(CT os).toNat=i:=by omega
  rw [e2];exact ⟨h1,e,h3⟩
theorem oK {l:List ByteArray} {x s:ByteArray} (h:x∉l):at_ (l++[x]) s=if x=s then (l.length:Int) else at_ l s:=by
 unfold at_
 by_cases hs:s∈l
 ·rw [if_pos (List.mem_append_left _ hs),if_pos hs,List.idxOf_append,if_pos hs,if_neg (show ¬x=s from fun he=>h (he ▸ hs))]
 ·by_cases hx:x=s
  ·rw [if_pos (by simp [hx]),if_pos hx,List.idxOf_append,if_neg hs]
   simp [hx]
  ·rw [if_neg (by simp [hs,Ne.symm hx]),if_neg hx,if_neg hs]
theorem VX {os:List AX} {b c:List T} {ss:List ByteArray} {s:ByteArray} {k1 k2 k3 k4:Int} {K:J2} (hol:os.length=8) (hss:MG ss) (h:K [I (HA os ss s).2.2.code,I (HA os ss s).2.2.val] [tR tO (HA os ss s).1,tS (HA os ss s).2.1,tI (HA os ss s).2.2.freed]):cl2 ⟨Try.prog,w0⟩ 136 FN.sg [I k1,I k2,I k3,I k4, .string s] [tR tO os,b,c,tS ss] K:=by
 have hsl:=hss.len
 refine FN.cl2 ?_
 unfold FN.txt
 unfold HA at h
 refine G8 (DO (HH (AH (fun hb=> ?_) fun hb=> ?_)))
 ·rw [if_pos hb] at h
  exact h
 rw [if_neg hb] at h
 refine UB hol (A1 (AH (fun hf=> ?_) fun hf=> ?_))
 ·rw [if_pos hf] at h
  exact h
 rw [if_neg hf] at h
 obtain ⟨f1,f2,f3⟩:=TK hf
 refine BF (fun i=>[I (CT os),I (at_ (ss.take i) s),iv i,I k1,I k2,I k3,I k4, .string s,I 0,I 0]) (fun _=>[tR tO os,tS ss]) ss.length (fun i=>True) rfl rfl trivial (fun R i hi hP hR=> ?_)
 simp only [AJ,AQ,AL,AR,AO,AE,AG,AU,AN,AS,AV,AP,AM,AT,BN,BS,BV,BT,BW,BU,BO,A9,A6,A4,A7,A8,A5]
 simp only [BO,qZ,rX,s7]
 refine A1 (AH (fun hlt=> ?_) fun hge=> ?_)
 ·have hlt:i<ss.length:=by omega
  replace hR:=hR hlt trivial
  have hone:=hss.one i hlt
  rw [List.take_succ_eq_append_getElem hlt,P4 hlt,oK hone] at hR
  refine BX (AK hlt (ldS hlt (OK (AH (fun he=> ?_) fun he=> ?_))))
  ·rw [if_pos he,List.length_take,Nat.min_eq_left hi] at hR
   exact BD (by omega) hR
  ·rw [if_neg he] at hR
   exact BD (by omega) hR
 ·have:i=ss.length:=by omega
  subst this
  rw [List.take_length]
  refine A1 ?_
  by_cases ha:at_ ss s<0
  ·by_cases h6:6≤ss.length
   ·rw [if_pos ⟨ha,h6⟩] at h
    repeat' (first | exact h | refine BP ?_ | refine MC (by first | with_reducible assumption | omega) ?_ | refine EY (by first | with_reducible assumption | omega) rfl ?_ | refine GF (by first | with_reducible assumption | omega) ?_ | refine G7 ?_)
    all_goals omega
   ·rw [if_neg (by omega),if_pos ha,if_pos ha] at h
    refine BP (BP (BP (MC ha (JI (EY ha rfl (FF (by omega) (BX (A1 (GF ha (GW rfl (by omega) ?_))))))))))
    repeat' (first | refine IL ?_ | refine GS ?_ | refine TH (by omega) (by omega) ?_ | refine NY (by omega) (by decide) rfl ?_ | simp only [AJ,AQ,AL,AR,AO,AE,AG,AU,AN,AS,AV,AP,AM,AT,BN,BS,BV,BT,BW,BU,BO,A9,A6,A4,A7,A8,A5])
    rw [←gB] at h
    exact TA (y:=LX (w64 ((ob os (CT os).toNat).gen+1)) ss.length) (by omega) rfl (IV h)
  ·rw [if_neg (by omega),if_neg ha,if_neg ha] at h
   refine BP (BP (BP (TG ha (FV ha rfl (CD (BX (A1 (FF (by omega) ?_))))))))
   repeat' (first | refine IL ?_ | refine GS ?_ | refine TH (by omega) (by omega) ?_ | refine NY (by omega) (by decide) rfl ?_ | simp only [AJ,AQ,AL,AR,AO,AE,AG,AU,AN,AS,AV,AP,AM,AT,BN,BS,BV,BT,BW,BU,BO,A9,A6,A4,A7,A8,A5])
   exact TA (y:=LX (w64 ((ob os (CT os).toNat).gen+1)) (at_ ss s)) (by omega) rfl (IV h)
def lF (r:List AX×List Int×List Int):List AX×List Int×An:=(r.1,r.2.1,⟨0,0,r.2.2⟩)
def KH (os:List AX) (buf:List Int) (kind id:Int):List AX×List Int×An:=
 if AB os id<0 then (os,buf,⟨1,0,[]⟩) else
 if kind=2 then
  if (ob os (AB os id).toNat).holds=20 then (os,buf,⟨4,0,[]⟩) else (DG (os.set (AB os id).toNat {ob os (AB os id).toNat with holds:=(ob os (AB os id).toNat).holds+1}) id,buf,⟨0,0,[]⟩)
 else if kind=5 then
  if (ob os (AB os id).toNat).roots=20 then (os,buf,⟨4,0,[]⟩) else (DG (os.set (AB os id).toNat {ob os (AB os id).toNat with roots:=(ob os (AB os id).toNat).roots+1}) id,buf,⟨0,0,[]⟩)
 else if kind=3 then
  if (ob os (AB os id).toNat).holds=0 then (os,buf,⟨5,0,[]⟩) else lF (HM (os.set (AB os id).toNat {ob os (AB os id).toNat with holds:=(ob os (AB os id).toNat).holds-1}) buf [id])
 else
  if (ob os (AB os id).toNat).roots=0 then (os,buf,⟨5,0,[]⟩) else lF (HM (os.set (AB os id).toNat {ob os (AB os id).toNat with roots:=(ob os (AB os id).toNat).roots-1}) buf [id])
theorem vB {os:List AX} {k:Nat} {v:Int} {K:List T→Prop} (hk:k<os.length) (h:K (tR tO (os.set k {ob os k with holds:=v}))):stc (tR tO os) [] (AA (iv k)*8+3) (I v) K:=by
 rw [←DY hk] at h;exact jQ hk h
theorem vA {os:List AX} {k:Nat} {v:Int} {K:List T→Prop} (hk:k<os.length) (h:K (tR tO (os.set k {ob os k with roots:=v}))):stc (tR tO os) [] (AA (iv k)*8+4) (I v) K:=by
 rw [←DY hk] at h;exact ZO hk (by decide) rfl rfl h
theorem St.set {h:Hp} {os:List AX} (st:St h) (hl:os.length=h.BB.length) (ho: ∀o∈os,OF o):St {h with BB:=os}:=⟨by have:=st.ol;simp only;omega,st.wl,st.sl,st.bl,ho,st.ss,st.wf,st.bf⟩
theorem XA {h:Hp} {kind id b c:Int} {s:ByteArray} {K:J2} (st:St h) (hid:F64 id) (hkd:kind=2∨kind=3∨kind=5∨kind=6) (hr: ∀i,(0≤(ob h.BB i).holds∧(ob h.BB i).holds≤20)∧(0≤(ob h.BB i).roots∧(ob h.BB i).roots≤20)) (hK:K [I (KH h.BB h.buffer kind id).2.2.code,I (KH h.BB h.buffer kind id).2.2.val] [tR tO (KH h.BB h.buffer kind id).1,tR tW h.B9,tI (KH h.BB h.buffer kind id).2.1,tS h.sites,tI (KH h.BB h.buffer kind id).2.2.freed]):cl2 ⟨Try.prog,w0⟩ 137 GH.sg [I kind,I id,I b,I c, .string s] (trees h) K:=by
 refine GH.cl2 ?_
 unfold GH.txt
 obtain ⟨os,ws,buf,ss⟩:=h
 have hol:os.length=8:=st.ol
 have hof: ∀o∈os,OF o:=st.of
 simp only at hr hK
 simp only [trees]
 simp only [AJ,AQ,AL,AR,AO,AE,AG,AU,AN,AS,AV,AP,AM,AT,BN,BS,BV,BT,BW,BU,BO,A9,A6,A4,A7,A8,A5]
 unfold KH at hK
 refine CF hid (by omega) (A1 (AH (fun hs=> ?_) fun hs=> ?_))
 ·rw [if_pos hs] at hK
  exact hK
 rw [if_neg hs] at hK
 have hkb:=BQ (l:=os) (id:=id) (by omega)
 obtain ⟨k,hkk⟩: ∃k,(AB os id).toNat=k:=⟨_,rfl⟩
 have hkI:AB os id=(k:Int):=by omega
 rw [hkk] at hK hkb
 have hkl:k<os.length:=by omega
 have hrk:=hr k
 have ho:=hof _ (HX (l:=os) (i:=k) (by omega))
 obtain ⟨⟨r1,r2⟩,r3,r4⟩:=hrk
 rw [BN,hkI]
 refine AK (by omega) (dM hkl (BX (BX ?_)))
 simp only [p8,qL,qT,qI,qJ,qK,p9]
 have gn: ∀{os':List AX} {K:J2},os'.length=os.length→(∀o∈os',OF o)→K [] [tR tO (DG os' id),tR tW ws,tI buf,tS ss]→cl2 ⟨Try.prog,w0⟩ 192 EU.sg [I id] [tR tO os',tR tW ws,tI buf,tS ss] K:=fun hl ho hk=>TM (St.set st hl ho) hid hk
 have ls: ∀{os':List AX} {K:J2},os'.length=os.length→(∀o∈os',OF o)→K [] [tR tO (HM os' buf [id]).1,tR tW ws,tI (HM os' buf [id]).2.1,tS ss,tI (HM os' buf [id]).2.2]→cl2 ⟨Try.prog,w0⟩ 193 FW.sg [] [tR tO os',tR tW ws,tI buf,tS ss,tI [id]] K:=fun hl ho hk=>TS (St.set st hl ho) (by simp) (by simpa using hid) hk
 rcases hkd with rfl | rfl | rfl | rfl
 ·simp only [if_true] at hK
  by_cases h20:(ob os k).holds=20
  ·rw [if_pos h20] at hK
   repeat' (first | refine BP ?_ | refine OP ?_ | refine EY (by first | with_reducible assumption | omega) rfl ?_ | refine GF (by first | with_reducible assumption | omega) ?_ | refine G7 ?_ | refine BI ?_ | simp only [AJ,AQ,AL,AR,AO,AE,AG,AU,AN,AS,AV,AP,AM,AT,BN,BS,BV,BT,BW,BU,BO,A9,A6,A4,A7,A8,A5])
   exact hK
  ·rw [if_neg h20] at hK
   repeat' (first | refine BX ?_ | refine BP ?_ | refine OP ?_ | refine QG ?_ | refine EY (by first | with_reducible assumption | omega) rfl ?_ | refine FV (by first | with_reducible assumption | omega) rfl ?_ | refine CQ ?_ | refine CD ?_ | refine FF (by first | with_reducible assumption | omega) ?_ | refine G7 ?_ | refine BI ?_ | refine CV ⟨by omega,by omega⟩ ?_ | refine AK (by omega) ?_ | simp only [AJ,AQ,AL,AR,AO,AE,AG,AU,AN,AS,AV,AP,AM,AT,BN,BS,BV,BT,BW,BU,BO,A9,A6,A4,A7,A8,A5])
   exact vB hkl (gn (by simp) (H0 hof ⟨ho.gen,ho.len,ho.fld⟩) hK)
 ·simp only [if_neg (show ¬(3:Int)=2 by decide),if_neg (show ¬(3:Int)=5 by decide),if_true] at hK
  by_cases h20:(ob os k).holds=0
  ·rw [if_pos h20] at hK
   repeat' (first | refine BX ?_ | refine BP ?_ | refine OP ?_ | refine QG ?_ | refine EY (by first | with_reducible assumption | omega) rfl ?_ | refine FV (by first | with_reducible assumption | omega) rfl ?_ | refine CD ?_ | refine GF (by first | with_reducible assumption | omega) ?_ | refine A1 ?_ | refine BI ?_ | simp only [AJ,AQ,AL,AR,AO,AE,AG,AU,AN,AS,AV,AP,AM,AT,BN,BS,BV,BT,BW,BU,BO,A9,A6,A4,A7,A8,A5])
   exact hK
  ·rw [if_neg h20] at hK
   repeat' (first | refine BX ?_ | refine BP ?_ | refine OP ?_ | refine QG ?_ | refine EY (by first | with_reducible assumption | omega) rfl ?_ | refine FV (by first | with_reducible assumption | omega) rfl ?_ | refine CQ ?_ | refine CD ?_ | refine FF (by first | with_reducible assumption | omega) ?_ | refine A1 ?_ | refine BI ?_ | refine CV ⟨by omega,by omega⟩ ?_ | refine AK (by omega) ?_ | simp only [AJ,AQ,AL,AR,AO,AE,AG,AU,AN,AS,AV,AP,AM,AT,BN,BS,BV,BT,BW,BU,BO,A9,A6,A4,A7,A8,A5])
   exact vB hkl (ls (by simp) (H0 hof ⟨ho.gen,ho.len,ho.fld⟩) hK)
 ·simp only [if_neg (show ¬(5:Int)=2 by decide),if_true] at hK
  by_cases h20:(ob os k).roots=20
  ·rw [if_pos h20] at hK
   repeat' (first | refine BP ?_ | refine OP ?_ | refine QG ?_ | refine EY (by first | with_reducible assumption | omega) rfl ?_ | refine FV (by first | with_reducible assumption | omega) rfl ?_ | refine CD ?_ | refine GF (by first | with_reducible assumption | omega) ?_ | refine G7 ?_ | refine BI ?_ | simp only [AJ,AQ,AL,AR,AO,AE,AG,AU,AN,AS,AV,AP,AM,AT,BN,BS,BV,BT,BW,BU,BO,A9,A6,A4,A7,A8,A5])
   exact hK
  ·rw [if_neg h20] at hK
   repeat' (first | refine BX ?_ | refine BP ?_ | refine OP ?_ | refine QG ?_ | refine EY (by first | with_reducible assumption | omega) rfl ?_ | refine FV (by first | with_reducible assumption | omega) rfl ?_ | refine CQ ?_ | refine CD ?_ | refine FF (by first | with_reducible assumption | omega) ?_ | refine G7 ?_ | refine BI ?_ | refine CV ⟨by omega,by omega⟩ ?_ | refine AK (by omega) ?_ | simp only [AJ,AQ,AL,AR,AO,AE,AG,AU,AN,AS,AV,AP,AM,AT,BN,BS,BV,BT,BW,BU,BO,A9,A6,A4,A7,A8,A5])
   exact vA hkl (gn (by simp) (H0 hof ⟨ho.gen,ho.len,ho.fld⟩) hK)
 ·simp only [if_neg (show ¬(6:Int)=2 by decide),if_neg (show ¬(6:Int)=5 by decide),if_neg (show ¬(6:Int)=3 by decide)] at hK
  by_cases h20:(ob os k).roots=0
  ·rw [if_pos h20] at hK
   repeat' (first | refine BX ?_ | refine BP ?_ | refine OP ?_ | refine QG ?_ | refine EY (by first | with_reducible assumption | omega) rfl ?_ | refine FV (by first | with_reducible assumption | omega) rfl ?_ | refine CD ?_ | refine GF (by first | with_reducible assumption | omega) ?_ | refine A1 ?_ | refine BI ?_ | simp only [AJ,AQ,AL,AR,AO,AE,AG,AU,AN,AS,AV,AP,AM,AT,BN,BS,BV,BT,BW,BU,BO,A9,A6,A4,A7,A8,A5])
   exact hK
  ·rw [if_neg h20] at hK
   repeat' (first | refine BX ?_ | refine BP ?_ | refine OP ?_ | refine QG ?_ | refine EY (by first | with_reducible assumption | omega) rfl ?_ | refine FV (by first | with_reducible assumption | omega) rfl ?_ | refine CD ?_ | refine FF (by first | with_reducible assumption | omega) ?_ | refine A1 ?_ | refine BI ?_ | refine CV ⟨by omega,by omega⟩ ?_ | refine AK (by omega) ?_ | simp only [AJ,AQ,AL,AR,AO,AE,AG,AU,AN,AS,AV,AP,AM,AT,BN,BS,BV,BT,BW,BU,BO,A9,A6,A4,A7,A8,A5])
   exact vA hkl (ls (by simp) (H0 hof ⟨ho.gen,ho.len,ho.fld⟩) hK)
end Go.Proofs.Ytnhicpkhkaihoaa.P
namespace Go.Proofs.Ytnhicpkhkaihoaa.P
open Go Go.Proofs.Ytnhicpkhkaihoaa Go.Proofs.Ytnhicpkhkaihoaa.Eng
set_option linter.unusedVariables false
set_option maxHeartbeats 4000000
set_option linter.unusedVariables false
set_option linter.unusedSimpArgs false
attribute [local irreducible] prP gP gE gF AI ixW ldc ldg ldl stc stg scW mkW apW BG cl2 BZ EZ DS
variable {w0:World}
def H2 (os:List AX) (buf:List Int) (a b c:Int):List AX×List Int×An:=
 if AB os a<0∨(c≠ -1∧AB os c<0) then (os,buf,⟨1,0,[]⟩) else
 if ¬(0≤b∧b≤2) then (os,buf,⟨2,0,[]⟩) else
 if gI (ob os (AB os a).toNat).field b.toNat= -1 then
  ((DG os c).set (AB os a).toNat {ob (DG os c) (AB os a).toNat with field:=(ob os (AB os a).toNat).field.set b.toNat c},buf,⟨0,0,[]⟩)
 else lF (HM ((DG os c).set (AB os a).toNat {ob (DG os c) (AB os a).toNat with field:=(ob os (AB os a).toNat).field.set b.toNat c}) buf [gI (ob os (AB os a).toNat).field b.toNat])
theorem IG {l:List AX} {i k:Nat} {o:AX} (hk:k<l.length):ob (l.set k o) i=if i=k then o else ob l i:=by
 unfold ob
 by_cases h:i=k
 ·subst h
  rw [if_pos rfl,List.getD_eq_getElem?_getD,List.getElem?_set_self hk];rfl
 ·rw [if_neg h,List.getD_eq_getElem?_getD,List.getElem?_set_ne (Ne.symm h),List.getD_eq_getElem?_getD]
theorem bW {os:List AX} {id:Int} {i:Nat}:(ob (DG os id) i).live=(ob os i).live∧(ob (DG os id) i).gen=(ob os i).gen∧(ob (DG os id) i).site=(ob os i).site∧(ob (DG os id) i).holds=(ob os i).holds∧(ob (DG os id) i).roots=(ob os i).roots∧(ob (DG os id) i).field=(ob os i).field∧(ob (DG os id) i).purple=(ob os i).purple:=by
 unfold DG
 split
 ·exact ⟨rfl,rfl,rfl,rfl,rfl,rfl,rfl⟩
 ·have hk:=BQ (l:=os) (id:=id) (by omega)
  rw [IG (by omega)]
  split
  ·rename_i h;subst h;exact ⟨rfl,rfl,rfl,rfl,rfl,rfl,rfl⟩
  ·exact ⟨rfl,rfl,rfl,rfl,rfl,rfl,rfl⟩
theorem stF {os:List AX} {k j:Nat} {v:Int} {K:List T→Prop} (hk:k<os.length) (hj:j<(ob os k).field.length) (h:K (tR tO (os.set k {ob os k with field:=(ob os k).field.set j v}))):stc (tR tO os) [AA (iv k)*8+6] (AA (iv j)*1) (I v) K:=by
 rw [←DY hk] at h hj;exact iZ hk hj h
theorem OF.put {o:AX} {m:List Int} (h:OF o) (hl:m.length=3) (hf: ∀x∈m,F64 x):OF {o with field:=m}:=⟨h.gen,hl,hf⟩
theorem W4 {h:Hp} {a0 a1 a2 a3:Int} {s:ByteArray} {K:J2} (st:St h) (h1:F64 a1) (h3:F64 a3) (hfd: ∀i, ∀f∈(ob h.BB i).field,f= -1∨0≤f) (hK:K [I (H2 h.BB h.buffer a1 a2 a3).2.2.code,I (H2 h.BB h.buffer a1 a2 a3).2.2.val] [tR tO (H2 h.BB h.buffer a1 a2 a3).1,tR tW h.B9,tI (H2 h.BB h.buffer a1 a2 a3).2.1,tS h.sites,tI (H2 h.BB h.buffer a1 a2 a3).2.2.freed]):cl2 ⟨Try.prog,w0⟩ 138 FL.sg [I a0,I a1,I a2,I a3, .string s] (trees h) K:=by
 refine FL.cl2 ?_
 unfold FL.txt
 obtain ⟨os,ws,buf,ss⟩:=h
 have hol:os.length=8:=st.ol
 have hof: ∀o∈os,OF o:=st.of
 simp only at hK hfd
 simp only [trees]
 unfold H2 at hK
 have gn: ∀{K:J2},K [] [tR tO (DG os a3),tR tW ws,tI buf,tS ss]→cl2 ⟨Try.prog,w0⟩ 192 EU.sg [I a3] [tR tO os,tR tW ws,tI buf,tS ss] K:=fun hk=>TM st h3 hk
 have ls: ∀{os':List AX} {x:Int} {K:J2},os'.length=os.length→(∀o∈os',OF o)→F64 x→K [] [tR tO (HM os' buf [x]).1,tR tW ws,tI (HM os' buf [x]).2.1,tS ss,tI (HM os' buf [x]).2.2]→cl2 ⟨Try.prog,w0⟩ 193 FW.sg [] [tR tO os',tR tW ws,tI buf,tS ss,tI [x]] K:=fun hl ho hx hk=>TS (St.set st hl ho) (by simp) (by simpa using hx) hk
 refine CF h1 (by omega) ?_
 by_cases hs:AB os a1<0
 ·rw [if_pos (.inl hs)] at hK
  repeat' (first | exact hK | refine BP ?_ | refine uF ?_ | refine dB (by first | with_reducible assumption | omega) ?_ | refine SG (by first | with_reducible assumption | omega) ?_ | refine EY (by first | with_reducible assumption | omega) rfl ?_ | refine CQ ?_ | refine A1 ?_)
 have hkb:=BQ (l:=os) (id:=a1) (by omega)
 by_cases hc:a3≠ -1∧AB os a3<0
 ·obtain ⟨hc1,hc2⟩:=hc
  rw [if_pos (.inr ⟨hc1,hc2⟩)] at hK
  repeat' (first | refine CF h3 (by omega) ?_ | exact hK | refine BP ?_ | refine cR ?_ | refine ZU (by first | with_reducible assumption | omega) ?_ | refine MC (by first | with_reducible assumption | omega) ?_ | refine I5 (by first | with_reducible assumption | omega) ?_ | refine EY (by first | with_reducible assumption | omega) rfl ?_ | refine FV (by first | with_reducible assumption | omega) rfl ?_ | refine GF (by first | with_reducible assumption | omega) ?_ | refine A1 ?_ | refine DR ?_)
 rw [if_neg (by omega)] at hK
 by_cases hb2: ¬(0≤a2∧a2≤2)
 ·rw [if_pos hb2] at hK
  repeat' (first | refine CF h3 (by omega) ?_ | refine DO ?_ | exact hK | refine BP ?_ | refine cR ?_ | refine ZU (by first | with_reducible assumption | omega) ?_ | refine MC (by first | with_reducible assumption | omega) ?_ | refine TG (by first | with_reducible assumption | omega) ?_ | refine I5 (by first | with_reducible assumption | omega) ?_ | refine EY (by first | with_reducible assumption | omega) rfl ?_ | refine FV (by first | with_reducible assumption | omega) rfl ?_ | refine CD ?_ | refine GF (by first | with_reducible assumption | omega) ?_ | refine FF (by first | with_reducible assumption | omega) ?_ | refine A1 ?_ | refine DR ?_ | refine HH ?_ | refine LJ (fun _=> ?_) (fun _=> ?_))
 rw [if_neg hb2] at hK
 obtain ⟨k,hkk⟩: ∃k,(AB os a1).toNat=k:=⟨_,rfl⟩
 have hkI:AB os a1=(k:Int):=by omega
 rw [hkk] at hK hkb
 obtain ⟨j,rfl⟩: ∃j:Nat,a2=j:=⟨a2.toNat,by omega⟩
 rw [Int.toNat_natCast] at hK
 have hkl:k<os.length:=by omega
 have ho:=hof _ (HX (l:=os) (i:=k) (by omega))
 obtain ⟨_,_,_,_,_,gf,_⟩:=bW (os:=os) (id:=a3) (i:=k)
 have gl:=PH os a3
 have gof:=WK (id:=a3) hof
 have jl:j<(ob os k).field.length:=by rw [ho.len];omega
 have hold:=hfd k _ (F6 jl)
 rw [hkI]
 repeat' (first | refine CF h3 (by omega) ?_ | refine DO ?_ | refine BP ?_ | refine cR ?_ | refine mB ?_ | refine O2 ?_ | refine MC (by first | with_reducible assumption | omega) ?_ | refine TG (by first | with_reducible assumption | omega) ?_ | refine EY (by first | with_reducible assumption | omega) rfl ?_ | refine FV (by first | with_reducible assumption | omega) rfl ?_ | refine CD ?_ | refine FF (by first | with_reducible assumption | omega) ?_ | refine A1 ?_ | refine DR ?_ | refine HH ?_ | refine AK (by omega) ?_ | refine eT (by omega) ?_ | refine LJ (fun _=> ?_) (fun _=> ?_) | simp only [AJ,AQ,AL,AR,AO,AE,AG,AU,AN,AS,AV,AP,AM,AT,BN,BS,BV,BT,BW,BU,BO,A9,A6,A4,A7,A8,A5])
 all_goals
  refine AK (by rw [LG (by omega),AE];exact jl) (QX (by omega) jl (BX ?_))
  simp only [AJ,AQ,AL,AR,AO,AE,AG,AU,AN,AS,AV,AP,AM,AT,BN,BS,BV,BT,BW,BU,BO,A9,A6,A4,A7,A8,A5]
  refine JI (AH (fun hge=>gn ?_) fun hlt=> ?_)
  ·simp only [AJ,AQ,AL,AR,AO,AE,AG,AU,AN,AS,AV,AP,AM,AT,BN,BS,BV,BT,BW,BU,BO,A9,A6,A4,A7,A8,A5]
   refine AK (by omega) (SQ (f:=tO) (i:=k) (by omega) (by decide) rfl ?_)
   refine AK (by rw [LG (by omega),AE,gf];exact jl) (stF (by omega) (by rw [gf];exact jl) ?_)
   rw [gf]
   refine A1 (AH (fun he=> ?_) fun he=> ?_)
   ·rw [if_pos (by omega)] at hK;exact hK
   ·rw [if_neg (by omega)] at hK
    exact ls (by simpa using gl) (H0 gof (OF.put (gof _ (HX (by omega))) (by rw [List.length_set];exact ho.len) fun x hx=>(List.mem_or_eq_of_mem_set hx).elim (ho.fld x) fun he=>he ▸ h3)) (ho.fld _ (F6 jl)) hK
  ·have e0:DG os a3=os:=by unfold DG;rw [if_pos];rw [S4 (by omega)];decide
   rw [e0] at hK
   refine AK (by omega) (SQ (f:=tO) (i:=k) (by omega) (by decide) rfl ?_)
   refine AK (by rw [LG (by omega),AE];exact jl) (stF (by omega) jl ?_)
   refine A1 (AH (fun he=> ?_) fun he=> ?_)
   ·rw [if_pos (by omega)] at hK;exact hK
   ·rw [if_neg (by omega)] at hK
    exact ls (by simp) (H0 hof (OF.put ho (by rw [List.length_set];exact ho.len) fun x hx=>(List.mem_or_eq_of_mem_set hx).elim (ho.fld x) fun he=>he ▸ h3)) (ho.fld _ (F6 jl)) hK
def OL (os:List AX) (ws:List Wk) (id:Int):List Wk×An:=
 if AB os id<0 then (ws,⟨1,0,[]⟩) else if JW ws<0 then (ws,⟨3,0,[]⟩) else (ws.set (JW ws).toNat ⟨true,id⟩,⟨0,JW ws,[]⟩)
def JA (os:List AX) (ws:List Wk) (kind k:Int):List Wk×An:=
 if ¬(0≤k∧k≤(ws.length:Int)-1) then (ws,⟨2,0,[]⟩) else
 if (wk ws k.toNat).used=false then (ws,⟨2,0,[]⟩) else
 if kind=9 then (ws.set k.toNat ⟨false,0⟩,⟨0,0,[]⟩) else
 if AB os (wk ws k.toNat).target<0 then (ws,⟨0, -1,[]⟩) else (ws,⟨0,(wk ws k.toNat).target,[]⟩)
theorem j5 {ws:List Wk} (h: ¬JW ws<0):(JW ws).toNat<ws.length∧JW ws=((JW ws).toNat:Int)∧(wk ws (JW ws).toNat).used=false:=by
 rcases R8 ws.length (fun i=> !(wk ws i).used) with ⟨h1,_⟩ | ⟨i,h1,h2,h3,_⟩
 ·unfold JW at h;omega
 ·have e:JW ws=i:=h2
  have e2:(JW ws).toNat=i:=by omega
  rw [e2];exact ⟨h1,e,by simpa using h3⟩
theorem XD {os:List AX} {ws:List Wk} {cc d:List T} {kind k b c:Int} {s:ByteArray} {K:J2} (hol:os.length=8) (hwl:ws.length=8) (hk:F64 k) (hwf: ∀w∈ws,F64 w.target) (h7:kind=7→K [I (OL os ws k).2.code,I (OL os ws k).2.val] [tR tW (OL os ws k).1,tI (OL os ws k).2.freed]) (h:kind≠7→K [I (JA os ws kind k).2.code,I (JA os ws kind k).2.val] [tR tW (JA os ws kind k).1,tI (JA os ws kind k).2.freed]):cl2 ⟨Try.prog,w0⟩ 139 GG.sg [I kind,I k,I b,I c, .string s] [tR tO os,tR tW ws,cc,d] K:=by
 refine GG.cl2 ?_
 unfold GG.txt
 simp only [AJ,AQ,AL,AR,AO,AE,AG,AU,AN,AS,AV,AP,AM,AT,BN,BS,BV,BT,BW,BU,BO,A9,A6,A4,A7,A8,A5]
 refine BI (AH (fun he=> ?_) fun he=> ?_)
 ·replace h:=h7 he
  clear h7
  unfold OL at h
  refine CF hk (by omega) (A1 (AH (fun hs=> ?_) fun hs=> ?_))
  ·rw [if_pos hs] at h;exact h
  rw [if_neg hs] at h
  refine BF (fun i=>[iv i,I kind,I k,I b,I c, .string s,I 0,I 0]) (fun _=>[tR tW ws]) ws.length (fun i=> ∀j,j<i→(!(wk ws j).used)=false) rfl rfl (fun k hk=>by omega) (fun R i hi hP hR=> ?_)
  simp only [AJ,AQ,AL,AR,AO,AE,AG,AU,AN,AS,AV,AP,AM,AT,BN,BS,BV,BT,BW,BU,BO,A9,A6,A4,A7,A8,A5]
  refine A1 (AH (fun hlt=> ?_) fun hge=> ?_)
  ·have hlt:i<ws.length:=by omega
   cases hv:(wk ws i).used with
   | false=>
     refine AK hlt (UM (v:= .bool false) hlt (by simp [tW,hv]) (B6 (CQ (AK hlt ?_))))
     unfold JW at h
     rw [TF hlt (by rw [hv];rfl) hP,if_neg (by omega),Int.toNat_natCast] at h
     exact TA (f:=tW) hlt (y:=⟨true,k⟩) rfl h
   | true=>
     refine AK hlt (UM (v:= .bool true) hlt (by simp [tW,hv]) (B6 (CD (BD (by omega) (hR hlt fun k hk=> ?_)))))
     rcases Nat.lt_succ_iff_lt_or_eq.1 hk with h3 | rfl
     ·exact hP k h3
     ·rw [hv];rfl
  ·have:i=ws.length:=by omega
   subst this
   unfold JW at h
   rw [XO hP,if_pos (by decide)] at h;exact h
 ·replace h:=h he
  clear h7
  unfold JA at h
  refine DW ⟨by omega,by omega⟩ (DO (HH ?_))
  by_cases hb: ¬(0≤k∧k≤(ws.length:Int)-1)
  ·rw [if_pos hb] at h
   repeat' (first | exact h | refine BP ?_ | refine SG (by first | with_reducible assumption | omega) ?_ | refine EY (by first | with_reducible assumption | omega) rfl ?_ | refine CQ ?_)
  rw [if_neg hb] at h
  obtain ⟨j,rfl⟩: ∃j:Nat,k=j:=⟨k.toNat,by omega⟩
  rw [Int.toNat_natCast] at h
  have jl:j<ws.length:=by omega
  have hw:=hwf _ (List.getElem_mem jl)
  rw [bU jl] at hw
  cases hu:(wk ws j).used with
  | false=>
    rw [if_pos hu] at h
    repeat' (first | refine UM (v:= .bool false) jl (by simp [tW,hu]) ?_ | exact h | refine BP ?_ | refine I5 (by first | with_reducible assumption | omega) ?_ | refine FV (by first | with_reducible assumption | omega) rfl ?_ | refine CQ ?_ | refine AK (by omega) ?_ | refine B6 ?_)
  | true=>
    rw [if_neg (by rw [hu];decide)] at h
    repeat' (first | refine UM (v:= .bool true) jl (by simp [tW,hu]) ?_ | refine CF hw (by omega) ?_ | refine BP ?_ | refine I5 (by first | with_reducible assumption | omega) ?_ | refine FV (by first | with_reducible assumption | omega) rfl ?_ | refine CD ?_ | refine A1 ?_ | refine BI ?_ | refine AK (by omega) ?_ | refine sV (by omega) (by decide) rfl ?_ | refine AH (fun _=> ?_) (fun _=> ?_) | refine B6 ?_)
    ·rename_i hh
     rw [if_pos hh] at h
     exact TA (f:=tW) jl (y:=⟨false,0⟩) rfl h
    ·rename_i hh hs
     rw [if_neg hh,if_pos hs] at h
     exact h
    ·rename_i hh hs
     rw [if_neg hh,if_neg hs] at h
     exact h
end Go.Proofs.Ytnhicpkhkaihoaa.P
