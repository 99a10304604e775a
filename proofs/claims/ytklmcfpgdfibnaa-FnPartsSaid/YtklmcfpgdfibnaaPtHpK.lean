/- A part of the proof. -/
import Derived.Test.YtklmcfpgdfibnaaPtHpI
namespace Go.Proofs.Ytklmcfpgdfibnaa.P
open Go Go.Proofs.Ytklmcfpgdfibnaa Go.Proofs.Ytklmcfpgdfibnaa.Eng
set_option linter.unusedVariables false
set_option maxHeartbeats 4000000
set_option linter.unusedVariables false
set_option linter.unusedSimpArgs false
attribute [local irreducible] prP gP gE gF AW ixW ldc ldg ldl stc stg scW mkW apW BK cl2 BW EI CM
variable {w0:World}
def MT (n:Nat) (p:Nat→Bool):Int:=match (List.range n).find? p with
 | some i=>(i:Int)
 | none=> -1
theorem MH {n i:Nat} {p:Nat→Bool} (hi:i<n) (h:p i=true) (hb: ∀k,k<i→p k=false):MT n p=i:=by
 have:(List.range n).find? p=some i:=List.find?_range_eq_some.2 ⟨h,List.mem_range.2 hi,fun j hj=>by rw [hb j hj];rfl⟩
 rw [MT,this]
theorem PQ {n:Nat} {p:Nat→Bool} (hb: ∀k,k<n→p k=false):MT n p= -1:=by
 have:(List.range n).find? p=none:=List.find?_range_eq_none.2 fun j hj=>by rw [hb j hj];rfl
 rw [MT,this]
theorem SO (n:Nat) (p:Nat→Bool):(MT n p= -1∧ ∀k,k<n→p k=false)∨ ∃i,i<n∧MT n p=(i:Int)∧p i=true∧ ∀k,k<i→p k=false:=by
 cases h:(List.range n).find? p with
 | none=>exact .inl ⟨by rw [MT,h],fun k hk=>by have:=List.find?_range_eq_none.1 h k hk;simpa using this⟩
 | some i=>
   obtain ⟨h1,h2,h3⟩:=List.find?_range_eq_some.1 h
   exact .inr ⟨i,List.mem_range.1 h2,by rw [MT,h],h1,fun k hk=>by have:=h3 k hk;simpa using this⟩
def IQ (os:List AU) (i:Nat):Bool:= !(ob os i).live&&decide ((ob os i).gen<999)
def CF (os:List AU):Int:=MT os.length (IQ os)
def IT (ws:List Wk):Int:=MT ws.length fun i=> !(wk ws i).used
theorem T3 {os:List AU} {b c d:List T} {K:J2} (hol:os.length=8) (h:K [I (CF os)] []):cl2 ⟨Try.prog,w0⟩ 75 ES.sg [] [tR tO os,b,c,d] K:=by
 refine ES.cl2 ?_
 unfold ES.txt
 simp only [AG,AM,AK,AP,AI,AD,AE,AR,AQ,AO,AL,AJ,AN,AH,BC,BF,BJ,BG,BH,BI,BE,A6,A7,A1,A4,A5,AZ]
 refine BB (fun i=>[iv os.length,iv i]) (fun _=>[]) os.length (fun i=> ∀k,k<i→IQ os k=false) rfl rfl (fun k hk=>by omega) (fun R i hi hP hR=> ?_)
 simp only [AG,AM,AK,AP,AI,AD,AE,AR,AQ,AO,AL,AJ,AN,AH,BC,BF,BJ,BG,BH,BI,BE,A6,A7,A1,A4,A5,AZ]
 refine AX (AV (fun hlt=> ?_) fun hge=> ?_)
 ·have hlt:i<os.length:=by omega
  refine AT hlt (K9 hlt ?_)
  simp only [gX,iF]
  have no:IQ os i=false→R [iv os.length,iv (i+1)] []:=fun hn=>hR hlt fun k hk=>(Nat.lt_succ_iff_lt_or_eq.1 hk).elim (hP k) fun he=>he ▸ hn
  have yes:IQ os i=true→K [iv i] []:=fun hy=>by unfold CF at h;rw [MH hlt hy hP] at h;exact h
  cases hv:(ob os i).live with
  | false=>
    repeat' (first | refine BO ?_ | refine N7 ?_ | refine H4 (by first | with_reducible assumption | omega) ?_ | refine C4 (by first | with_reducible assumption | omega) rfl ?_ | refine V3 rfl ?_ | refine AX ?_ | refine BA (by omega) ?_ | refine AV (fun _=> ?_) (fun _=> ?_) | refine B1 ?_)
    ·exact yes (by simp [IQ,hv];omega)
    ·exact no (by simp [IQ,hv];omega)
  | true=>
    repeat' (first | refine BO ?_ | refine K8 ?_ | refine H4 (by first | with_reducible assumption | omega) ?_ | refine C4 (by first | with_reducible assumption | omega) rfl ?_ | refine TU rfl ?_ | refine BU ?_ | refine AX ?_ | refine BA (by omega) ?_ | refine B1 ?_)
    all_goals exact no (by simp [IQ,hv])
 ·have:i=os.length:=by omega
  subst this
  unfold CF at h
  rw [PQ hP] at h;exact h
theorem T4 {os:List AU} {b c d:List T} {K:J2} (hol:os.length=8) (h:K [I (CF os)] []):cl2 ⟨Try.prog,w0⟩ 152 EY.sg [] [tR tO os,b,c,d] K:=by
 refine EY.cl2 ?_
 unfold EY.txt
 simp only [AG,AM,AK,AP,AI,AD,AE,AR,AQ,AO,AL,AJ,AN,AH,BC,BF,BJ,BG,BH,BI,BE,A6,A7,A1,A4,A5,AZ]
 refine BB (fun i=>[iv i]) (fun _=>[]) os.length (fun i=> ∀k,k<i→IQ os k=false) rfl rfl (fun k hk=>by omega) (fun R i hi hP hR=> ?_)
 simp only [AG,AM,AK,AP,AI,AD,AE,AR,AQ,AO,AL,AJ,AN,AH,BC,BF,BJ,BG,BH,BI,BE,A6,A7,A1,A4,A5,AZ]
 refine AX (BO (I1 (fun hlt=> ?_) fun hge=> ?_))
 ·have hlt':i<os.length:=by omega
  refine AX (C4 hlt rfl (DA (by omega) ?_))
  have no:IQ os i=false→R [iv (i+1)] []:=fun hn=>hR hlt' fun k hk=>(Nat.lt_succ_iff_lt_or_eq.1 hk).elim (hP k) fun he=>he ▸ hn
  have yes:IQ os i=true→K [iv i] []:=fun hy=>by unfold CF at h;rw [MH hlt' hy hP] at h;exact h
  refine AT hlt' ?_
  cases hv:(ob os i).live with
  | false=>
    refine KB (v:= .bool false) hlt' (by simp [tO,hv]) (B1 ?_)
    repeat' (first | refine AT hlt' ?_ | refine HX (v:=I (ob os i).gen) hlt' (by decide) rfl ?_ | refine BO ?_ | refine N7 ?_ | refine V3 rfl ?_ | refine AX ?_ | refine BA (by omega) ?_ | refine AV (fun _=> ?_) (fun _=> ?_))
    ·exact yes (by simp [IQ,hv];omega)
    ·exact no (by simp [IQ,hv];omega)
  | true=>
    refine KB (v:= .bool true) hlt' (by simp [tO,hv]) (B1 ?_)
    repeat' (first | refine BO ?_ | refine K8 ?_ | refine TU rfl ?_ | refine BU ?_ | refine BA (by omega) ?_)
    all_goals exact no (by simp [IQ,hv])
 ·refine C5 hge rfl (BU ?_)
  have:i=os.length:=by omega
  subst this
  unfold CF at h
  rw [PQ hP] at h;exact h
theorem TZ {ws:List Wk} {K:J2} (hol:ws.length=8) (h:K [I (IT ws)] []):cl2 ⟨Try.prog,w0⟩ 165 EW.sg [] [tR tW ws] K:=by
 refine EW.cl2 ?_
 unfold EW.txt
 simp only [AG,AM,AK,AP,AI,AD,AE,AR,AQ,AO,AL,AJ,AN,AH,BC,BF,BJ,BG,BH,BI,BE,A6,A7,A1,A4,A5,AZ]
 refine BB (fun i=>[iv ws.length,iv i]) (fun _=>[]) ws.length (fun i=> ∀k,k<i→(!(wk ws k).used)=false) rfl rfl (fun k hk=>by omega) (fun R i hi hP hR=> ?_)
 simp only [AG,AM,AK,AP,AI,AD,AE,AR,AQ,AO,AL,AJ,AN,AH,BC,BF,BJ,BG,BH,BI,BE,A6,A7,A1,A4,A5,AZ]
 refine AX (AV (fun hlt=> ?_) fun hge=> ?_)
 ·have hlt:i<ws.length:=by omega
  refine AT hlt (VU hlt ?_)
  simp only [mA]
  cases hv:(wk ws i).used with
  | false=>
    refine B1 (BX ?_)
    unfold IT at h
    rw [MH hlt (by rw [hv];rfl) hP] at h;exact h
  | true=>
    refine B1 (BU (BA (by omega) (hR hlt fun k hk=> ?_)))
    rcases Nat.lt_succ_iff_lt_or_eq.1 hk with h3 | rfl
    ·exact hP k h3
    ·rw [hv];rfl
 ·have:i=ws.length:=by omega
  subst this
  unfold IT at h
  rw [PQ hP] at h;exact h
theorem B4 {n:Int} {K:J2} (h:K [I n,I 0] [[]]):cl2 ⟨Try.prog,w0⟩ 107 BS.sg [I n] [] K:=BS.cl2 h
def KY (g s:Int):AU:=⟨true,g,s,1,0,1,OD,false⟩
def FF (os:List AU) (ss:List ByteArray) (s:ByteArray):List AU×List ByteArray×An:=
 if ¬(1≤(s.size:Int)∧(s.size:Int)≤8) then (os,ss,⟨2,0,[]⟩)
 else if CF os<0 then (os,ss,⟨3,0,[]⟩)
 else if at_ ss s<0∧6≤ss.length then (os,ss,⟨6,0,[]⟩)
 else (os.set (CF os).toNat (KY (w64 ((ob os (CF os).toNat).gen+1)) (if at_ ss s<0 then ss.length else at_ ss s)),(if at_ ss s<0 then ss++[s] else ss),⟨0,CH (CF os) (w64 ((ob os (CF os).toNat).gen+1)),[]⟩)
theorem OR {os:List AU} (h: ¬CF os<0):(CF os).toNat<os.length∧CF os=((CF os).toNat:Int)∧IQ os (CF os).toNat=true:=by
 rcases SO os.length (IQ os) with ⟨h1,_⟩ | ⟨i,h1,h2,h3,_⟩
 ·unfold CF at h;omega
 ·have e:CF os=i:=h2
  have e2:(CF os).toNat=i:=by omega
  rw [e2];exact ⟨h1,e,h3⟩
theorem Y7 {os:List AU} {b c:List T} {ss:List ByteArray} {s:ByteArray} {K:J2} (hol:os.length=8) (hsl:ss.length≤6) (h:K [I (FF os ss s).2.2.code,I (FF os ss s).2.2.val] [tI (FF os ss s).2.2.freed,tR tO (FF os ss s).1,tS (FF os ss s).2.1]):cl2 ⟨Try.prog,w0⟩ 144 DO.sg [.string s] [tR tO os,b,c,tS ss] K:=by
 refine DO.cl2 ?_
 unfold DO.txt
 refine T3 hol (QF (by omega) (BP ?_))
 simp only [AG,AM,AK,AP,AI,AD,AE,AR,AQ,AO,AL,AJ,AN,AH,BC,BF,BJ,BG,BH,BI,BE,A6,A7,A1,A4,A5,AZ]
 unfold FF at h
 refine UK (GI (DI (AV (fun hb=> ?_) fun hb=> ?_)))
 ·rw [if_pos hb] at h
  exact B4 h
 rw [if_neg hb] at h
 refine AX (AV (fun hf=> ?_) fun hf=> ?_)
 ·rw [if_pos hf] at h
  exact B4 h
 rw [if_neg hf] at h
 obtain ⟨f1,f2,f3⟩:=OR hf
 refine AX ?_
 by_cases ha:at_ ss s<0
 ·by_cases h6:6≤ss.length
  ·rw [if_pos ⟨ha,h6⟩] at h
   repeat' (first | exact B4 h | refine BO ?_ | refine H4 (by first | with_reducible assumption | omega) ?_ | refine C4 (by first | with_reducible assumption | omega) rfl ?_ | refine DA (by first | with_reducible assumption | omega) ?_ | refine GQ ?_)
   all_goals omega
  ·rw [if_neg (by omega),if_pos ha,if_pos ha] at h
   repeat' (first | refine BO ?_ | refine H4 (by first | with_reducible assumption | omega) ?_ | refine C4 (by first | with_reducible assumption | omega) rfl ?_ | refine DA (by first | with_reducible assumption | omega) ?_ | refine DQ (by first | with_reducible assumption | omega) ?_ | refine AX ?_ | refine GQ ?_ | refine GA ?_ | refine PB (by omega) (by omega) ?_ | refine HX (by omega) (by decide) rfl ?_ | refine EM (by first | exact MG _ | exact ZW _ | exact YT _ | exact oD _ | rfl) (by omega) ?_)
   exact LZ (y:=KY (w64 ((ob os (CF os).toNat).gen+1)) ss.length) (by omega) rfl (KH (by rw [←fX] at h;exact h))
 ·rw [if_neg (by omega),if_neg ha,if_neg ha] at h
  repeat' (first | refine BO ?_ | refine ML (by first | with_reducible assumption | omega) ?_ | refine C5 (by first | with_reducible assumption | omega) rfl ?_ | refine BU ?_ | refine DQ (by first | with_reducible assumption | omega) ?_ | refine AX ?_ | refine GA ?_ | refine PB (by omega) (by omega) ?_ | refine HX (by omega) (by decide) rfl ?_)
  exact LZ (y:=KY (w64 ((ob os (CF os).toNat).gen+1)) (at_ ss s)) (by omega) rfl (KH h)
theorem pX {l:List ByteArray} {x s:ByteArray} (h:x∉l):at_ (l++[x]) s=if x=s then (l.length:Int) else at_ l s:=by
 unfold at_
 by_cases hs:s∈l
 ·rw [if_pos (List.mem_append_left _ hs),if_pos hs,List.idxOf_append,if_pos hs,if_neg (show ¬x=s from fun he=>h (he ▸ hs))]
 ·by_cases hx:x=s
  ·rw [if_pos (by simp [hx]),if_pos hx,List.idxOf_append,if_neg hs]
   simp [hx]
  ·rw [if_neg (by simp [hs,Ne.symm hx]),if_neg hx,if_neg hs]
theorem WX {os:List AU} {b c:List T} {ss:List ByteArray} {s:ByteArray} {k1 k2 k3 k4:Int} {K:J2} (hol:os.length=8) (hss:J7 ss) (h:K [I (FF os ss s).2.2.code,I (FF os ss s).2.2.val] [tR tO (FF os ss s).1,tS (FF os ss s).2.1,tI (FF os ss s).2.2.freed]):cl2 ⟨Try.prog,w0⟩ 123 FU.sg [I k1,I k2,I k3,I k4, .string s] [tR tO os,b,c,tS ss] K:=by
 have hsl:=hss.len
 refine FU.cl2 ?_
 unfold FU.txt
 unfold FF at h
 refine UK (DX (DI (AV (fun hb=> ?_) fun hb=> ?_)))
 ·rw [if_pos hb] at h
  exact h
 rw [if_neg hb] at h
 refine T4 hol (AX (AV (fun hf=> ?_) fun hf=> ?_))
 ·rw [if_pos hf] at h
  exact h
 rw [if_neg hf] at h
 obtain ⟨f1,f2,f3⟩:=OR hf
 refine BB (fun i=>[I (CF os),I (at_ (ss.take i) s),iv i,I k1,I k2,I k3,I k4, .string s,I 0,I 0]) (fun _=>[tR tO os,tS ss]) ss.length (fun i=>True) rfl rfl trivial (fun R i hi hP hR=> ?_)
 simp only [AG,AM,AK,AP,AI,AD,AE,AR,AQ,AO,AL,AJ,AN,AH,BC,BF,BJ,BG,BH,BI,BE,A6,A7,A1,A4,A5,AZ]
 simp only [BE,rY,rN,rO]
 refine AX (AV (fun hlt=> ?_) fun hge=> ?_)
 ·have hlt:i<ss.length:=by omega
  replace hR:=hR hlt trivial
  have hone:=hss.one i hlt
  rw [List.take_succ_eq_append_getElem hlt,SD hlt,pX hone] at hR
  refine BP (AT hlt (ldS hlt (bO (AV (fun he=> ?_) fun he=> ?_))))
  ·rw [if_pos he,List.length_take,Nat.min_eq_left hi] at hR
   exact BA (by omega) hR
  ·rw [if_neg he] at hR
   exact BA (by omega) hR
 ·have:i=ss.length:=by omega
  subst this
  rw [List.take_length]
  refine AX ?_
  by_cases ha:at_ ss s<0
  ·by_cases h6:6≤ss.length
   ·rw [if_pos ⟨ha,h6⟩] at h
    repeat' (first | exact h | refine BO ?_ | refine H4 (by first | with_reducible assumption | omega) ?_ | refine C4 (by first | with_reducible assumption | omega) rfl ?_ | refine DA (by first | with_reducible assumption | omega) ?_ | refine GQ ?_)
    all_goals omega
   ·rw [if_neg (by omega),if_pos ha,if_pos ha] at h
    refine BO (BO (BO (H4 ha (K3 (C4 ha rfl (DQ (by omega) (BP (AX (DA ha (EM rfl (by omega) ?_))))))))))
    repeat' (first | refine IV ?_ | refine GA ?_ | refine PB (by omega) (by omega) ?_ | refine HX (by omega) (by decide) rfl ?_ | simp only [AG,AM,AK,AP,AI,AD,AE,AR,AQ,AO,AL,AJ,AN,AH,BC,BF,BJ,BG,BH,BI,BE,A6,A7,A1,A4,A5,AZ])
    rw [←fX] at h
    exact LZ (y:=KY (w64 ((ob os (CF os).toNat).gen+1)) ss.length) (by omega) rfl (I6 h)
  ·rw [if_neg (by omega),if_neg ha,if_neg ha] at h
   refine BO (BO (BO (ML ha (C5 ha rfl (BU (BP (AX (DQ (by omega) ?_))))))))
   repeat' (first | refine IV ?_ | refine GA ?_ | refine PB (by omega) (by omega) ?_ | refine HX (by omega) (by decide) rfl ?_ | simp only [AG,AM,AK,AP,AI,AD,AE,AR,AQ,AO,AL,AJ,AN,AH,BC,BF,BJ,BG,BH,BI,BE,A6,A7,A1,A4,A5,AZ])
   exact LZ (y:=KY (w64 ((ob os (CF os).toNat).gen+1)) (at_ ss s)) (by omega) rfl (I6 h)
def SB (r:List AU×List Int×List Int):List AU×List Int×An:=(r.1,r.2.1,⟨0,0,r.2.2⟩)
def HZ (os:List AU) (buf:List Int) (kind id:Int):List AU×List Int×An:=
 if AB os id<0 then (os,buf,⟨1,0,[]⟩) else
 if kind=2 then
  if (ob os (AB os id).toNat).holds=20 then (os,buf,⟨4,0,[]⟩) else (DJ (os.set (AB os id).toNat {ob os (AB os id).toNat with holds:=(ob os (AB os id).toNat).holds+1}) id,buf,⟨0,0,[]⟩)
 else if kind=5 then
  if (ob os (AB os id).toNat).roots=20 then (os,buf,⟨4,0,[]⟩) else (DJ (os.set (AB os id).toNat {ob os (AB os id).toNat with roots:=(ob os (AB os id).toNat).roots+1}) id,buf,⟨0,0,[]⟩)
 else if kind=3 then
  if (ob os (AB os id).toNat).holds=0 then (os,buf,⟨5,0,[]⟩) else SB (GR (os.set (AB os id).toNat {ob os (AB os id).toNat with holds:=(ob os (AB os id).toNat).holds-1}) buf [id])
 else
  if (ob os (AB os id).toNat).roots=0 then (os,buf,⟨5,0,[]⟩) else SB (GR (os.set (AB os id).toNat {ob os (AB os id).toNat with roots:=(ob os (AB os id).toNat).roots-1}) buf [id])
theorem stH {os:List AU} {k:Nat} {v:Int} {K:List T→Prop} (hk:k<os.length) (h:K (tR tO (os.set k {ob os k with holds:=v}))):stc (tR tO os) [] (AA (iv (AA (iv k)*8+3))) (I v) K:=by
 rw [AY (AA (iv k)*8+3), ←DN hk] at*;exact X2 hk h
theorem stR {os:List AU} {k:Nat} {v:Int} {K:List T→Prop} (hk:k<os.length) (h:K (tR tO (os.set k {ob os k with roots:=v}))):stc (tR tO os) [] (AA (iv (AA (iv k)*8+4))) (I v) K:=by
 rw [AY (AA (iv k)*8+4), ←DN hk] at*;exact S5 hk (by decide) rfl rfl h
theorem WB {os:List AU} {buf:List Int} {b d:List T} {kind id:Int} {K:J2} (hol:os.length=8) (hof: ∀o∈os,OF o) (hb:buf.length≤100) (hid:F64 id) (hkd:kind=2∨kind=3∨kind=5∨kind=6) (hr: ∀i,(0≤(ob os i).holds∧(ob os i).holds≤20)∧(0≤(ob os i).roots∧(ob os i).roots≤20)) (h:K [I (HZ os buf kind id).2.2.code,I (HZ os buf kind id).2.2.val] [tI (HZ os buf kind id).2.2.freed,tR tO (HZ os buf kind id).1,tI (HZ os buf kind id).2.1]):cl2 ⟨Try.prog,w0⟩ 145 C1.sg [I kind,I id] [tR tO os,b,tI buf,d] K:=by
 refine C1.cl2 ?_
 unfold C1.txt
 simp only [AG,AM,AK,AP,AI,AD,AE,AR,AQ,AO,AL,AJ,AN,AH,BC,BF,BJ,BG,BH,BI,BE,A6,A7,A1,A4,A5,AZ]
 unfold HZ at h
 refine CQ hid (by omega) (AX (AV (fun hs=> ?_) fun hs=> ?_))
 ·rw [if_pos hs] at h
  exact B4 h
 rw [if_neg hs] at h
 have hkb:=BL (l:=os) (id:=id) (by omega)
 obtain ⟨k,hkk⟩: ∃k,(AB os id).toNat=k:=⟨_,rfl⟩
 have hkI:AB os id=(k:Int):=by omega
 rw [hkk] at h hkb
 have hkl:k<os.length:=by omega
 have hrk:=hr k
 have ho:=hof _ (GG (l:=os) (i:=k) (by omega))
 obtain ⟨⟨r1,r2⟩,r3,r4⟩:=hrk
 rw [BC,hkI]
 refine AT (by omega) (BP ?_)
 simp only [AG,AM,AK,AP,AI,AD,AE,AR,AQ,AO,AL,AJ,AN,AH,BC,BF,BJ,BG,BH,BI,BE,A6,A7,A1,A4,A5,AZ]
 rcases hkd with rfl | rfl | rfl | rfl
 ·simp only [if_true] at h
  repeat' (first | refine BO ?_ | refine NB ?_ | refine QP ?_ | refine C4 (by first | with_reducible assumption | omega) rfl ?_ | refine C5 (by first | with_reducible assumption | omega) rfl ?_ | refine BX ?_ | refine BU ?_ | refine BM ?_ | refine D4 ⟨by omega,by omega⟩ ?_ | refine HX (by omega) (by decide) rfl ?_ | refine AV (fun _=> ?_) (fun _=> ?_))
  ·rename_i h20
   rw [if_pos h20] at h
   exact B4 h
  ·rename_i h20
   rw [if_neg h20] at h
   exact stH hkl (PK hid (by simpa using hol) h)
 ·simp only [if_neg (show ¬(3:Int)=2 by decide),if_neg (show ¬(3:Int)=5 by decide),if_true] at h
  repeat' (first | refine BO ?_ | refine NB ?_ | refine C5 (by first | with_reducible assumption | omega) rfl ?_ | refine BU ?_ | refine BM ?_ | refine D4 ⟨by omega,by omega⟩ ?_ | refine HX (by omega) (by decide) rfl ?_ | refine AV (fun _=> ?_) (fun _=> ?_))
  ·rename_i h20
   rw [if_pos h20] at h
   exact B4 h
  ·rename_i h20
   rw [if_neg h20] at h
   exact stH hkl (OK (buf:=buf) (ids:=[id]) (by simpa using hol) (G6 hof ⟨ho.gen,ho.len,ho.fld⟩) (by omega) (by simp) (by simpa using hid) h)
 ·simp only [if_neg (show ¬(5:Int)=2 by decide),if_true] at h
  repeat' (first | refine BO ?_ | refine NB ?_ | refine QP ?_ | refine C4 (by first | with_reducible assumption | omega) rfl ?_ | refine C5 (by first | with_reducible assumption | omega) rfl ?_ | refine BX ?_ | refine BM ?_ | refine D4 ⟨by omega,by omega⟩ ?_ | refine AT (by omega) ?_ | refine HX (by omega) (by decide) rfl ?_ | refine AV (fun _=> ?_) (fun _=> ?_))
  ·rename_i h20
   rw [if_pos h20] at h
   exact B4 h
  ·rename_i h20
   rw [if_neg h20] at h
   exact stR hkl (PK hid (by simpa using hol) h)
 ·simp only [if_neg (show ¬(6:Int)=2 by decide),if_neg (show ¬(6:Int)=5 by decide),if_neg (show ¬(6:Int)=3 by decide)] at h
  repeat' (first | refine BO ?_ | refine NB ?_ | refine C5 (by first | with_reducible assumption | omega) rfl ?_ | refine BX ?_ | refine BU ?_ | refine BM ?_ | refine D4 ⟨by omega,by omega⟩ ?_ | refine AT (by omega) ?_ | refine HX (by omega) (by decide) rfl ?_ | refine AV (fun _=> ?_) (fun _=> ?_))
  ·rename_i h20
   rw [if_pos h20] at h
   exact B4 h
  ·rename_i h20
   rw [if_neg h20] at h
   exact stR hkl (OK (buf:=buf) (ids:=[id]) (by simpa using hol) (G6 hof ⟨ho.gen,ho.len,ho.fld⟩) (by omega) (by simp) (by simpa using hid) h)
theorem tE {os:List AU} {k:Nat} {v:Int} {K:List T→Prop} (hk:k<os.length) (h:K (tR tO (os.set k {ob os k with holds:=v}))):stc (tR tO os) [] (AA (iv k)*8+3) (I v) K:=by
 rw [←DN hk] at h;exact X2 hk h
theorem u5 {os:List AU} {k:Nat} {v:Int} {K:List T→Prop} (hk:k<os.length) (h:K (tR tO (os.set k {ob os k with roots:=v}))):stc (tR tO os) [] (AA (iv k)*8+4) (I v) K:=by
 rw [←DN hk] at h;exact S5 hk (by decide) rfl rfl h
theorem St.set {h:Hp} {os:List AU} (st:St h) (hl:os.length=h.A8.length) (ho: ∀o∈os,OF o):St {h with A8:=os}:=⟨by have:=st.ol;simp only;omega,st.wl,st.sl,st.bl,ho,st.ss,st.wf,st.bf⟩
theorem XJ {h:Hp} {kind id b c:Int} {s:ByteArray} {K:J2} (st:St h) (hid:F64 id) (hkd:kind=2∨kind=3∨kind=5∨kind=6) (hr: ∀i,(0≤(ob h.A8 i).holds∧(ob h.A8 i).holds≤20)∧(0≤(ob h.A8 i).roots∧(ob h.A8 i).roots≤20)) (hK:K [I (HZ h.A8 h.buffer kind id).2.2.code,I (HZ h.A8 h.buffer kind id).2.2.val] [tR tO (HZ h.A8 h.buffer kind id).1,tR tW h.B2,tI (HZ h.A8 h.buffer kind id).2.1,tS h.sites,tI (HZ h.A8 h.buffer kind id).2.2.freed]):cl2 ⟨Try.prog,w0⟩ 124 GX.sg [I kind,I id,I b,I c, .string s] (trees h) K:=by
 refine GX.cl2 ?_
 unfold GX.txt
 obtain ⟨os,ws,buf,ss⟩:=h
 have hol:os.length=8:=st.ol
 have hof: ∀o∈os,OF o:=st.of
 simp only at hr hK
 simp only [trees]
 simp only [AG,AM,AK,AP,AI,AD,AE,AR,AQ,AO,AL,AJ,AN,AH,BC,BF,BJ,BG,BH,BI,BE,A6,A7,A1,A4,A5,AZ]
 unfold HZ at hK
 refine CP hid (by omega) (AX (AV (fun hs=> ?_) fun hs=> ?_))
 ·rw [if_pos hs] at hK
  exact hK
 rw [if_neg hs] at hK
 have hkb:=BL (l:=os) (id:=id) (by omega)
 obtain ⟨k,hkk⟩: ∃k,(AB os id).toNat=k:=⟨_,rfl⟩
 have hkI:AB os id=(k:Int):=by omega
 rw [hkk] at hK hkb
 have hkl:k<os.length:=by omega
 have hrk:=hr k
 have ho:=hof _ (GG (l:=os) (i:=k) (by omega))
 obtain ⟨⟨r1,r2⟩,r3,r4⟩:=hrk
 rw [BC,hkI]
 refine AT (by omega) (K9 hkl (BP (BP ?_)))
 simp only [gX,iF,lX,mN,lY,iL,nO]
 have gn: ∀{os':List AU} {K:J2},os'.length=os.length→(∀o∈os',OF o)→K [] [tR tO (DJ os' id),tR tW ws,tI buf,tS ss]→cl2 ⟨Try.prog,w0⟩ 153 FJ.sg [I id] [tR tO os',tR tW ws,tI buf,tS ss] K:=fun hl ho hk=>TI (St.set st hl ho) hid hk
 have ls: ∀{os':List AU} {K:J2},os'.length=os.length→(∀o∈os',OF o)→K [] [tR tO (GR os' buf [id]).1,tR tW ws,tI (GR os' buf [id]).2.1,tS ss,tI (GR os' buf [id]).2.2]→cl2 ⟨Try.prog,w0⟩ 154 F7.sg [] [tR tO os',tR tW ws,tI buf,tS ss,tI [id]] K:=fun hl ho hk=>TQ (St.set st hl ho) (by simp) (by simpa using hid) hk
 rcases hkd with rfl | rfl | rfl | rfl
 ·simp only [if_true] at hK
  by_cases h20:(ob os k).holds=20
  ·rw [if_pos h20] at hK
   repeat' (first | refine BO ?_ | refine N7 ?_ | refine C4 (by first | with_reducible assumption | omega) rfl ?_ | refine DA (by first | with_reducible assumption | omega) ?_ | refine GQ ?_ | refine BM ?_ | simp only [AG,AM,AK,AP,AI,AD,AE,AR,AQ,AO,AL,AJ,AN,AH,BC,BF,BJ,BG,BH,BI,BE,A6,A7,A1,A4,A5,AZ])
   exact hK
  ·rw [if_neg h20] at hK
   repeat' (first | refine BP ?_ | refine BO ?_ | refine N7 ?_ | refine K8 ?_ | refine C4 (by first | with_reducible assumption | omega) rfl ?_ | refine C5 (by first | with_reducible assumption | omega) rfl ?_ | refine BX ?_ | refine BU ?_ | refine DQ (by first | with_reducible assumption | omega) ?_ | refine GQ ?_ | refine BM ?_ | refine D4 ⟨by omega,by omega⟩ ?_ | refine AT (by omega) ?_ | simp only [AG,AM,AK,AP,AI,AD,AE,AR,AQ,AO,AL,AJ,AN,AH,BC,BF,BJ,BG,BH,BI,BE,A6,A7,A1,A4,A5,AZ])
   exact tE hkl (gn (by simp) (G6 hof ⟨ho.gen,ho.len,ho.fld⟩) hK)
 ·simp only [if_neg (show ¬(3:Int)=2 by decide),if_neg (show ¬(3:Int)=5 by decide),if_true] at hK
  by_cases h20:(ob os k).holds=0
  ·rw [if_pos h20] at hK
   repeat' (first | refine BP ?_ | refine BO ?_ | refine N7 ?_ | refine K8 ?_ | refine C4 (by first | with_reducible assumption | omega) rfl ?_ | refine C5 (by first | with_reducible assumption | omega) rfl ?_ | refine BU ?_ | refine DA (by first | with_reducible assumption | omega) ?_ | refine AX ?_ | refine BM ?_ | simp only [AG,AM,AK,AP,AI,AD,AE,AR,AQ,AO,AL,AJ,AN,AH,BC,BF,BJ,BG,BH,BI,BE,A6,A7,A1,A4,A5,AZ])
   exact hK
  ·rw [if_neg h20] at hK
   repeat' (first | refine BP ?_ | refine BO ?_ | refine N7 ?_ | refine K8 ?_ | refine C4 (by first | with_reducible assumption | omega) rfl ?_ | refine C5 (by first | with_reducible assumption | omega) rfl ?_ | refine BX ?_ | refine BU ?_ | refine DQ (by first | with_reducible assumption | omega) ?_ | refine AX ?_ | refine BM ?_ | refine D4 ⟨by omega,by omega⟩ ?_ | refine AT (by omega) ?_ | simp only [AG,AM,AK,AP,AI,AD,AE,AR,AQ,AO,AL,AJ,AN,AH,BC,BF,BJ,BG,BH,BI,BE,A6,A7,A1,A4,A5,AZ])
   exact tE hkl (ls (by simp) (G6 hof ⟨ho.gen,ho.len,ho.fld⟩) hK)
 ·simp only [if_neg (show ¬(5:Int)=2 by decide),if_true] at hK
  by_cases h20:(ob os k).roots=20
  ·rw [if_pos h20] at hK
   repeat' (first | refine BO ?_ | refine N7 ?_ | refine K8 ?_ | refine C4 (by first | with_reducible assumption | omega) rfl ?_ | refine C5 (by first | with_reducible assumption | omega) rfl ?_ | refine BU ?_ | refine DA (by first | with_reducible assumption | omega) ?_ | refine GQ ?_ | refine BM ?_ | simp only [AG,AM,AK,AP,AI,AD,AE,AR,AQ,AO,AL,AJ,AN,AH,BC,BF,BJ,BG,BH,BI,BE,A6,A7,A1,A4,A5,AZ])
   exact hK
  ·rw [if_neg h20] at hK
   repeat' (first | refine BP ?_ | refine BO ?_ | refine N7 ?_ | refine K8 ?_ | refine C4 (by first | with_reducible assumption | omega) rfl ?_ | refine C5 (by first | with_reducible assumption | omega) rfl ?_ | refine BX ?_ | refine BU ?_ | refine DQ (by first | with_reducible assumption | omega) ?_ | refine GQ ?_ | refine BM ?_ | refine D4 ⟨by omega,by omega⟩ ?_ | refine AT (by omega) ?_ | simp only [AG,AM,AK,AP,AI,AD,AE,AR,AQ,AO,AL,AJ,AN,AH,BC,BF,BJ,BG,BH,BI,BE,A6,A7,A1,A4,A5,AZ])
   exact u5 hkl (gn (by simp) (G6 hof ⟨ho.gen,ho.len,ho.fld⟩) hK)
 ·simp only [if_neg (show ¬(6:Int)=2 by decide),if_neg (show ¬(6:Int)=5 by decide),if_neg (show ¬(6:Int)=3 by decide)] at hK
  by_cases h20:(ob os k).roots=0
  ·rw [if_pos h20] at hK
   repeat' (first | refine BP ?_ | refine BO ?_ | refine N7 ?_ | refine K8 ?_ | refine C4 (by first | with_reducible assumption | omega) rfl ?_ | refine C5 (by first | with_reducible assumption | omega) rfl ?_ | refine BU ?_ | refine DA (by first | with_reducible assumption | omega) ?_ | refine AX ?_ | refine BM ?_ | simp only [AG,AM,AK,AP,AI,AD,AE,AR,AQ,AO,AL,AJ,AN,AH,BC,BF,BJ,BG,BH,BI,BE,A6,A7,A1,A4,A5,AZ])
   exact hK
  ·rw [if_neg h20] at hK
   repeat' (first | refine BP ?_ | refine BO ?_ | refine N7 ?_ | refine K8 ?_ | refine C4 (by first | with_reducible assumption | omega) rfl ?_ | refine C5 (by first | with_reducible assumption | omega) rfl ?_ | refine BU ?_ | refine DQ (by first | with_reducible assumption | omega) ?_ | refine AX ?_ | refine BM ?_ | refine D4 ⟨by omega,by omega⟩ ?_ | refine AT (by omega) ?_ | simp only [AG,AM,AK,AP,AI,AD,AE,AR,AQ,AO,AL,AJ,AN,AH,BC,BF,BJ,BG,BH,BI,BE,A6,A7,A1,A4,A5,AZ])
   exact u5 hkl (ls (by simp) (G6 hof ⟨ho.gen,ho.len,ho.fld⟩) hK)
end Go.Proofs.Ytklmcfpgdfibnaa.P
namespace Go.Proofs.Ytklmcfpgdfibnaa.P
open Go Go.Proofs.Ytklmcfpgdfibnaa Go.Proofs.Ytklmcfpgdfibnaa.Eng
set_option linter.unusedVariables false
set_option maxHeartbeats 4000000
set_option linter.unusedVariables false
set_option linter.unusedSimpArgs false
attribute [local irreducible] prP gP gE gF AW ixW ldc ldg ldl stc stg scW mkW apW BK cl2 BW EI CM
variable {w0:World}
def FP (os:List AU) (buf:List Int) (a b c:Int):List AU×List Int×An:=
 if AB os a<0∨(c≠ -1∧AB os c<0) then (os,buf,⟨1,0,[]⟩) else
 if ¬(0≤b∧b≤2) then (os,buf,⟨2,0,[]⟩) else
 if gI (ob os (AB os a).toNat).field b.toNat= -1 then
  ((DJ os c).set (AB os a).toNat {ob (DJ os c) (AB os a).toNat with field:=(ob os (AB os a).toNat).field.set b.toNat c},buf,⟨0,0,[]⟩)
 else SB (GR ((DJ os c).set (AB os a).toNat {ob (DJ os c) (AB os a).toNat with field:=(ob os (AB os a).toNat).field.set b.toNat c}) buf [gI (ob os (AB os a).toNat).field b.toNat])
theorem G3 {l:List AU} {i k:Nat} {o:AU} (hk:k<l.length):ob (l.set k o) i=if i=k then o else ob l i:=by
 unfold ob
 by_cases h:i=k
 ·subst h
  rw [if_pos rfl,List.getD_eq_getElem?_getD,List.getElem?_set_self hk];rfl
 ·rw [if_neg h,List.getD_eq_getElem?_getD,List.getElem?_set_ne (Ne.symm h),List.getD_eq_getElem?_getD]
theorem WS {os:List AU} {id:Int} {i:Nat}:(ob (DJ os id) i).live=(ob os i).live∧(ob (DJ os id) i).gen=(ob os i).gen∧(ob (DJ os id) i).site=(ob os i).site∧(ob (DJ os id) i).holds=(ob os i).holds∧(ob (DJ os id) i).roots=(ob os i).roots∧(ob (DJ os id) i).field=(ob os i).field∧(ob (DJ os id) i).purple=(ob os i).purple:=by
 unfold DJ
 split
 ·exact ⟨rfl,rfl,rfl,rfl,rfl,rfl,rfl⟩
 ·have hk:=BL (l:=os) (id:=id) (by omega)
  rw [G3 (by omega)]
  split
  ·rename_i h;subst h;exact ⟨rfl,rfl,rfl,rfl,rfl,rfl,rfl⟩
  ·exact ⟨rfl,rfl,rfl,rfl,rfl,rfl,rfl⟩
theorem stF {os:List AU} {k j:Nat} {v:Int} {K:List T→Prop} (hk:k<os.length) (hj:j<(ob os k).field.length) (h:K (tR tO (os.set k {ob os k with field:=(ob os k).field.set j v}))):stc (tR tO os) [AA (iv k)*8+6] (AA (iv j)*1) (I v) K:=by
 rw [←DN hk] at h hj;exact iY hk hj h
theorem OF.put {o:AU} {m:List Int} (h:OF o) (hl:m.length=3) (hf: ∀x∈m,F64 x):OF {o with field:=m}:=⟨h.gen,hl,hf⟩
theorem ZZ {os:List AU} {buf:List Int} {b d:List T} {a0 a1 a2 a3:Int} {s:ByteArray} {K:J2} (hol:os.length=8) (hof: ∀o∈os,OF o) (hb:buf.length≤100) (h1:F64 a1) (h3:F64 a3) (h:K [I (FP os buf a1 a2 a3).2.2.code,I (FP os buf a1 a2 a3).2.2.val] [tI (FP os buf a1 a2 a3).2.2.freed,tR tO (FP os buf a1 a2 a3).1,tI (FP os buf a1 a2 a3).2.1]):cl2 ⟨Try.prog,w0⟩ 146 DP.sg [I a0,I a1,I a2,I a3, .string s] [tR tO os,b,tI buf,d] K:=by
 refine DP.cl2 ?_
 unfold DP.txt
 unfold FP at h
 refine CQ h1 (by omega) ?_
 by_cases hs:AB os a1<0
 ·rw [if_pos (.inl hs)] at h
  repeat' (first | exact B4 h | refine BO ?_ | refine m5 ?_ | refine TA (by first | with_reducible assumption | omega) ?_ | refine KG (by first | with_reducible assumption | omega) ?_ | refine C4 (by first | with_reducible assumption | omega) rfl ?_ | refine BX ?_ | refine AX ?_)
 have hkb:=BL (l:=os) (id:=a1) (by omega)
 by_cases hc:a3≠ -1∧AB os a3<0
 ·obtain ⟨hc1,hc2⟩:=hc
  rw [if_pos (.inr ⟨hc1,hc2⟩)] at h
  repeat' (first | refine CQ h3 (by omega) ?_ | exact B4 h | refine BO ?_ | refine PD ?_ | refine PG (by first | with_reducible assumption | omega) ?_ | refine H4 (by first | with_reducible assumption | omega) ?_ | refine F5 (by first | with_reducible assumption | omega) ?_ | refine C4 (by first | with_reducible assumption | omega) rfl ?_ | refine C5 (by first | with_reducible assumption | omega) rfl ?_ | refine DA (by first | with_reducible assumption | omega) ?_ | refine AX ?_ | refine B8 ?_)
 rw [if_neg (by omega)] at h
 by_cases hb2: ¬(0≤a2∧a2≤2)
 ·rw [if_pos hb2] at h
  repeat' (first | refine CQ h3 (by omega) ?_ | refine GI ?_ | exact B4 h | refine BO ?_ | refine PD ?_ | refine PG (by first | with_reducible assumption | omega) ?_ | refine H4 (by first | with_reducible assumption | omega) ?_ | refine ML (by first | with_reducible assumption | omega) ?_ | refine F5 (by first | with_reducible assumption | omega) ?_ | refine C4 (by first | with_reducible assumption | omega) rfl ?_ | refine C5 (by first | with_reducible assumption | omega) rfl ?_ | refine BU ?_ | refine DA (by first | with_reducible assumption | omega) ?_ | refine DQ (by first | with_reducible assumption | omega) ?_ | refine AX ?_ | refine B8 ?_ | refine DI ?_ | refine I1 (fun _=> ?_) (fun _=> ?_))
 rw [if_neg hb2] at h
 obtain ⟨k,hkk⟩: ∃k,(AB os a1).toNat=k:=⟨_,rfl⟩
 have hkI:AB os a1=(k:Int):=by omega
 rw [hkk] at h hkb
 obtain ⟨j,rfl⟩: ∃j:Nat,a2=j:=⟨a2.toNat,by omega⟩
 rw [Int.toNat_natCast] at h
 have hkl:k<os.length:=by omega
 have ho:=hof _ (GG (l:=os) (i:=k) (by omega))
 obtain ⟨_,_,_,_,_,gf,_⟩:=WS (os:=os) (id:=a3) (i:=k)
 have gl:=NN os a3
 have gof:=RH (id:=a3) hof
 have jl:j<(ob os k).field.length:=by rw [ho.len];omega
 rw [hkI]
 repeat' (first | refine CQ h3 (by omega) ?_ | refine GI ?_ | refine PK h3 hol ?_ | refine BO ?_ | refine PD ?_ | refine VK ?_ | refine NB ?_ | refine H4 (by first | with_reducible assumption | omega) ?_ | refine ML (by first | with_reducible assumption | omega) ?_ | refine C4 (by first | with_reducible assumption | omega) rfl ?_ | refine C5 (by first | with_reducible assumption | omega) rfl ?_ | refine BU ?_ | refine DQ (by first | with_reducible assumption | omega) ?_ | refine AX ?_ | refine B8 ?_ | refine DI ?_ | refine AT (by omega) ?_ | refine aF (by omega) ?_ | refine I1 (fun _=> ?_) (fun _=> ?_) | simp only [AG,AM,AK,AP,AI,AD,AE,AR,AQ,AO,AL,AJ,AN,AH,BC,BF,BJ,BG,BH,BI,BE,A6,A7,A1,A4,A5,AZ])
 all_goals
  refine AT (by rw [GZ (by omega),AD,gf];exact jl) (L4 (by omega) (by rw [gf];exact jl) (AT (by omega) ?_))
  rw [gf]
  refine PA (f:=tO) (i:=k) (by omega) (by decide) rfl ?_
  refine AT (by rw [GZ (by omega),AD,gf];exact jl) (stF (by omega) (by rw [gf];exact jl) ?_)
  rw [gf]
  refine BM (AV (fun he=> ?_) fun he=> ?_)
  ·rw [if_pos he] at h;exact h
  ·rw [if_neg he] at h
   exact OK (buf:=buf) (ids:=[gI (ob os k).field j]) (by simpa using gl.trans hol) (G6 gof (OF.put (gof _ (GG (by omega))) (by rw [List.length_set];exact ho.len) fun x hx=>(List.mem_or_eq_of_mem_set hx).elim (ho.fld x) fun he=>he ▸ h3)) (by omega) (by simp) (by simpa using ho.fld _ (DT jl)) h
theorem VN {h:Hp} {a0 a1 a2 a3:Int} {s:ByteArray} {K:J2} (st:St h) (h1:F64 a1) (h3:F64 a3) (hfd: ∀i, ∀f∈(ob h.A8 i).field,f= -1∨0≤f) (hK:K [I (FP h.A8 h.buffer a1 a2 a3).2.2.code,I (FP h.A8 h.buffer a1 a2 a3).2.2.val] [tR tO (FP h.A8 h.buffer a1 a2 a3).1,tR tW h.B2,tI (FP h.A8 h.buffer a1 a2 a3).2.1,tS h.sites,tI (FP h.A8 h.buffer a1 a2 a3).2.2.freed]):cl2 ⟨Try.prog,w0⟩ 125 FZ.sg [I a0,I a1,I a2,I a3, .string s] (trees h) K:=by
 refine FZ.cl2 ?_
 unfold FZ.txt
 obtain ⟨os,ws,buf,ss⟩:=h
 have hol:os.length=8:=st.ol
 have hof: ∀o∈os,OF o:=st.of
 simp only at hK hfd
 simp only [trees]
 unfold FP at hK
 have gn: ∀{K:J2},K [] [tR tO (DJ os a3),tR tW ws,tI buf,tS ss]→cl2 ⟨Try.prog,w0⟩ 153 FJ.sg [I a3] [tR tO os,tR tW ws,tI buf,tS ss] K:=fun hk=>TI st h3 hk
 have ls: ∀{os':List AU} {x:Int} {K:J2},os'.length=os.length→(∀o∈os',OF o)→F64 x→K [] [tR tO (GR os' buf [x]).1,tR tW ws,tI (GR os' buf [x]).2.1,tS ss,tI (GR os' buf [x]).2.2]→cl2 ⟨Try.prog,w0⟩ 154 F7.sg [] [tR tO os',tR tW ws,tI buf,tS ss,tI [x]] K:=fun hl ho hx hk=>TQ (St.set st hl ho) (by simp) (by simpa using hx) hk
 refine CP h1 (by omega) ?_
 by_cases hs:AB os a1<0
 ·rw [if_pos (.inl hs)] at hK
  repeat' (first | exact hK | refine BO ?_ | refine m5 ?_ | refine TA (by first | with_reducible assumption | omega) ?_ | refine KG (by first | with_reducible assumption | omega) ?_ | refine C4 (by first | with_reducible assumption | omega) rfl ?_ | refine BX ?_ | refine AX ?_)
 have hkb:=BL (l:=os) (id:=a1) (by omega)
 by_cases hc:a3≠ -1∧AB os a3<0
 ·obtain ⟨hc1,hc2⟩:=hc
  rw [if_pos (.inr ⟨hc1,hc2⟩)] at hK
  repeat' (first | refine CP h3 (by omega) ?_ | exact hK | refine BO ?_ | refine PD ?_ | refine PG (by first | with_reducible assumption | omega) ?_ | refine H4 (by first | with_reducible assumption | omega) ?_ | refine F5 (by first | with_reducible assumption | omega) ?_ | refine C4 (by first | with_reducible assumption | omega) rfl ?_ | refine C5 (by first | with_reducible assumption | omega) rfl ?_ | refine DA (by first | with_reducible assumption | omega) ?_ | refine AX ?_ | refine B8 ?_)
 rw [if_neg (by omega)] at hK
 by_cases hb2: ¬(0≤a2∧a2≤2)
 ·rw [if_pos hb2] at hK
  repeat' (first | refine CP h3 (by omega) ?_ | refine DX ?_ | exact hK | refine BO ?_ | refine PD ?_ | refine PG (by first | with_reducible assumption | omega) ?_ | refine H4 (by first | with_reducible assumption | omega) ?_ | refine ML (by first | with_reducible assumption | omega) ?_ | refine F5 (by first | with_reducible assumption | omega) ?_ | refine C4 (by first | with_reducible assumption | omega) rfl ?_ | refine C5 (by first | with_reducible assumption | omega) rfl ?_ | refine BU ?_ | refine DA (by first | with_reducible assumption | omega) ?_ | refine DQ (by first | with_reducible assumption | omega) ?_ | refine AX ?_ | refine B8 ?_ | refine DI ?_ | refine I1 (fun _=> ?_) (fun _=> ?_))
 rw [if_neg hb2] at hK
 obtain ⟨k,hkk⟩: ∃k,(AB os a1).toNat=k:=⟨_,rfl⟩
 have hkI:AB os a1=(k:Int):=by omega
 rw [hkk] at hK hkb
 obtain ⟨j,rfl⟩: ∃j:Nat,a2=j:=⟨a2.toNat,by omega⟩
 rw [Int.toNat_natCast] at hK
 have hkl:k<os.length:=by omega
 have ho:=hof _ (GG (l:=os) (i:=k) (by omega))
 obtain ⟨_,_,_,_,_,gf,_⟩:=WS (os:=os) (id:=a3) (i:=k)
 have gl:=NN os a3
 have gof:=RH (id:=a3) hof
 have jl:j<(ob os k).field.length:=by rw [ho.len];omega
 have hold:=hfd k _ (DT jl)
 rw [hkI]
 repeat' (first | refine CP h3 (by omega) ?_ | refine DX ?_ | refine BO ?_ | refine PD ?_ | refine VK ?_ | refine NB ?_ | refine H4 (by first | with_reducible assumption | omega) ?_ | refine ML (by first | with_reducible assumption | omega) ?_ | refine C4 (by first | with_reducible assumption | omega) rfl ?_ | refine C5 (by first | with_reducible assumption | omega) rfl ?_ | refine BU ?_ | refine DQ (by first | with_reducible assumption | omega) ?_ | refine AX ?_ | refine B8 ?_ | refine DI ?_ | refine AT (by omega) ?_ | refine aF (by omega) ?_ | refine I1 (fun _=> ?_) (fun _=> ?_) | simp only [AG,AM,AK,AP,AI,AD,AE,AR,AQ,AO,AL,AJ,AN,AH,BC,BF,BJ,BG,BH,BI,BE,A6,A7,A1,A4,A5,AZ])
 all_goals
  refine AT (by rw [GZ (by omega),AD];exact jl) (L4 (by omega) jl (BP ?_))
  simp only [AG,AM,AK,AP,AI,AD,AE,AR,AQ,AO,AL,AJ,AN,AH,BC,BF,BJ,BG,BH,BI,BE,A6,A7,A1,A4,A5,AZ]
  refine K3 (AV (fun hge=>gn ?_) fun hlt=> ?_)
  ·simp only [AG,AM,AK,AP,AI,AD,AE,AR,AQ,AO,AL,AJ,AN,AH,BC,BF,BJ,BG,BH,BI,BE,A6,A7,A1,A4,A5,AZ]
   refine AT (by omega) (PA (f:=tO) (i:=k) (by omega) (by decide) rfl ?_)
   refine AT (by rw [GZ (by omega),AD,gf];exact jl) (stF (by omega) (by rw [gf];exact jl) ?_)
   rw [gf]
   refine AX (AV (fun he=> ?_) fun he=> ?_)
   ·rw [if_pos (by omega)] at hK;exact hK
   ·rw [if_neg (by omega)] at hK
    exact ls (by simpa using gl) (G6 gof (OF.put (gof _ (GG (by omega))) (by rw [List.length_set];exact ho.len) fun x hx=>(List.mem_or_eq_of_mem_set hx).elim (ho.fld x) fun he=>he ▸ h3)) (ho.fld _ (DT jl)) hK
  ·have e0:DJ os a3=os:=by unfold DJ;rw [if_pos];rw [HS (by omega)];decide
   rw [e0] at hK
   refine AT (by omega) (PA (f:=tO) (i:=k) (by omega) (by decide) rfl ?_)
   refine AT (by rw [GZ (by omega),AD];exact jl) (stF (by omega) jl ?_)
   refine AX (AV (fun he=> ?_) fun he=> ?_)
   ·rw [if_pos (by omega)] at hK;exact hK
   ·rw [if_neg (by omega)] at hK
    exact ls (by simp) (G6 hof (OF.put ho (by rw [List.length_set];exact ho.len) fun x hx=>(List.mem_or_eq_of_mem_set hx).elim (ho.fld x) fun he=>he ▸ h3)) (ho.fld _ (DT jl)) hK
def KJ (os:List AU) (ws:List Wk) (id:Int):List Wk×An:=
 if AB os id<0 then (ws,⟨1,0,[]⟩) else if IT ws<0 then (ws,⟨3,0,[]⟩) else (ws.set (IT ws).toNat ⟨true,id⟩,⟨0,IT ws,[]⟩)
def GK (os:List AU) (ws:List Wk) (kind k:Int):List Wk×An:=
 if ¬(0≤k∧k≤(ws.length:Int)-1) then (ws,⟨2,0,[]⟩) else
 if (wk ws k.toNat).used=false then (ws,⟨2,0,[]⟩) else
 if kind=9 then (ws.set k.toNat ⟨false,0⟩,⟨0,0,[]⟩) else
 if AB os (wk ws k.toNat).target<0 then (ws,⟨0, -1,[]⟩) else (ws,⟨0,(wk ws k.toNat).target,[]⟩)
theorem S1 {ws:List Wk} (h: ¬IT ws<0):(IT ws).toNat<ws.length∧IT ws=((IT ws).toNat:Int)∧(wk ws (IT ws).toNat).used=false:=by
 rcases SO ws.length (fun i=> !(wk ws i).used) with ⟨h1,_⟩ | ⟨i,h1,h2,h3,_⟩
 ·unfold IT at h;omega
 ·have e:IT ws=i:=h2
  have e2:(IT ws).toNat=i:=by omega
  rw [e2];exact ⟨h1,e,by simpa using h3⟩
theorem a7 {os:List AU} {ws:List Wk} {c d:List T} {id:Int} {K:J2} (hol:os.length=8) (hwl:ws.length=8) (hid:F64 id) (h:K [I (KJ os ws id).2.code,I (KJ os ws id).2.val] [tI (KJ os ws id).2.freed,tR tW (KJ os ws id).1]):cl2 ⟨Try.prog,w0⟩ 147 D6.sg [I id] [tR tO os,tR tW ws,c,d] K:=by
 refine D6.cl2 ?_
 unfold D6.txt
 unfold KJ at h
 simp only [AG,AM,AK,AP,AI,AD,AE,AR,AQ,AO,AL,AJ,AN,AH,BC,BF,BJ,BG,BH,BI,BE,A6,A7,A1,A4,A5,AZ]
 refine TZ hwl (CQ hid (by omega) (AX (AV (fun hs=> ?_) fun hs=> ?_)))
 ·rw [if_pos hs] at h;exact B4 h
 rw [if_neg hs] at h
 refine AX (AV (fun hf=> ?_) fun hf=> ?_)
 ·rw [if_pos hf] at h;exact B4 h
 rw [if_neg hf] at h
 obtain ⟨f1,f2,f3⟩:=S1 hf
 simp only [AG,AM,AK,AP,AI,AD,AE,AR,AQ,AO,AL,AJ,AN,AH,BC,BF,BJ,BG,BH,BI,BE,A6,A7,A1,A4,A5,AZ]
 rw [f2] at h ⊢
 rw [Int.toNat_natCast] at h
 exact AT f1 (LZ (f:=tW) f1 (y:=⟨true,id⟩) rfl h)
theorem XE {os:List AU} {ws:List Wk} {c d:List T} {kind k:Int} {K:J2} (hol:os.length=8) (hwl:ws.length=8) (hk:F64 k) (hwf: ∀w∈ws,F64 w.target) (h:K [I (GK os ws kind k).2.code,I (GK os ws kind k).2.val] [tI (GK os ws kind k).2.freed,tR tW (GK os ws kind k).1]):cl2 ⟨Try.prog,w0⟩ 148 DH.sg [I kind,I k] [tR tO os,tR tW ws,c,d] K:=by
 refine DH.cl2 ?_
 unfold DH.txt
 unfold GK at h
 simp only [AG,AM,AK,AP,AI,AD,AE,AR,AQ,AO,AL,AJ,AN,AH,BC,BF,BJ,BG,BH,BI,BE,A6,A7,A1,A4,A5,AZ]
 refine H2 ⟨by omega,by omega⟩ (GI (DI ?_))
 by_cases hb: ¬(0≤k∧k≤(ws.length:Int)-1)
 ·rw [if_pos hb] at h
  repeat' (first | exact B4 h | refine BO ?_ | refine KG (by first | with_reducible assumption | omega) ?_ | refine C4 (by first | with_reducible assumption | omega) rfl ?_ | refine BX ?_)
 rw [if_neg hb] at h
 obtain ⟨j,rfl⟩: ∃j:Nat,k=j:=⟨k.toNat,by omega⟩
 rw [Int.toNat_natCast] at h
 have jl:j<ws.length:=by omega
 have hw:=hwf _ (List.getElem_mem jl)
 rw [YK jl] at hw
 cases hu:(wk ws j).used with
 | false=>
   rw [if_pos hu] at h
   repeat' (first | refine P1 (v:= .bool false) jl (by simp [tW,hu]) ?_ | exact B4 h | refine BO ?_ | refine F5 (by first | with_reducible assumption | omega) ?_ | refine C5 (by first | with_reducible assumption | omega) rfl ?_ | refine BX ?_ | refine AT (by omega) ?_ | refine B1 ?_)
 | true=>
   rw [if_neg (by rw [hu];decide)] at h
   repeat' (first | refine P1 (v:= .bool true) jl (by simp [tW,hu]) ?_ | refine CQ hw (by omega) ?_ | refine BO ?_ | refine F5 (by first | with_reducible assumption | omega) ?_ | refine C5 (by first | with_reducible assumption | omega) rfl ?_ | refine BU ?_ | refine AX ?_ | refine BM ?_ | refine AT (by omega) ?_ | refine kT (by omega) (by decide) rfl ?_ | refine AV (fun _=> ?_) (fun _=> ?_) | refine B1 ?_)
   ·rename_i hh
    rw [if_pos hh] at h
    exact LZ (f:=tW) jl (y:=⟨false,0⟩) rfl h
   ·rename_i hh hs
    rw [if_neg hh,if_pos hs] at h
    exact h
   ·rename_i hh hs
    rw [if_neg hh,if_neg hs] at h
    exact h
theorem W9 {os:List AU} {ws:List Wk} {cc d:List T} {kind k b c:Int} {s:ByteArray} {K:J2} (hol:os.length=8) (hwl:ws.length=8) (hk:F64 k) (hwf: ∀w∈ws,F64 w.target) (h7:kind=7→K [I (KJ os ws k).2.code,I (KJ os ws k).2.val] [tR tW (KJ os ws k).1,tI (KJ os ws k).2.freed]) (h:kind≠7→K [I (GK os ws kind k).2.code,I (GK os ws kind k).2.val] [tR tW (GK os ws kind k).1,tI (GK os ws kind k).2.freed]):cl2 ⟨Try.prog,w0⟩ 126 GO.sg [I kind,I k,I b,I c, .string s] [tR tO os,tR tW ws,cc,d] K:=by
 refine GO.cl2 ?_
 unfold GO.txt
 simp only [AG,AM,AK,AP,AI,AD,AE,AR,AQ,AO,AL,AJ,AN,AH,BC,BF,BJ,BG,BH,BI,BE,A6,A7,A1,A4,A5,AZ]
 refine BM (AV (fun he=> ?_) fun he=> ?_)
 ·replace h:=h7 he
  clear h7
  unfold KJ at h
  refine CP hk (by omega) (AX (AV (fun hs=> ?_) fun hs=> ?_))
  ·rw [if_pos hs] at h;exact h
  rw [if_neg hs] at h
  refine BB (fun i=>[iv i,I kind,I k,I b,I c, .string s,I 0,I 0]) (fun _=>[tR tW ws]) ws.length (fun i=> ∀j,j<i→(!(wk ws j).used)=false) rfl rfl (fun k hk=>by omega) (fun R i hi hP hR=> ?_)
  simp only [AG,AM,AK,AP,AI,AD,AE,AR,AQ,AO,AL,AJ,AN,AH,BC,BF,BJ,BG,BH,BI,BE,A6,A7,A1,A4,A5,AZ]
  refine AX (AV (fun hlt=> ?_) fun hge=> ?_)
  ·have hlt:i<ws.length:=by omega
   cases hv:(wk ws i).used with
   | false=>
     refine AT hlt (P1 (v:= .bool false) hlt (by simp [tW,hv]) (B1 (BX (AT hlt ?_))))
     unfold IT at h
     rw [MH hlt (by rw [hv];rfl) hP,if_neg (by omega),Int.toNat_natCast] at h
     exact LZ (f:=tW) hlt (y:=⟨true,k⟩) rfl h
   | true=>
     refine AT hlt (P1 (v:= .bool true) hlt (by simp [tW,hv]) (B1 (BU (BA (by omega) (hR hlt fun k hk=> ?_)))))
     rcases Nat.lt_succ_iff_lt_or_eq.1 hk with h3 | rfl
     ·exact hP k h3
     ·rw [hv];rfl
  ·have:i=ws.length:=by omega
   subst this
   unfold IT at h
   rw [PQ hP,if_pos (by decide)] at h;exact h
 ·replace h:=h he
  clear h7
  unfold GK at h
  refine H2 ⟨by omega,by omega⟩ (DX (DI ?_))
  by_cases hb: ¬(0≤k∧k≤(ws.length:Int)-1)
  ·rw [if_pos hb] at h
   repeat' (first | exact h | refine BO ?_ | refine KG (by first | with_reducible assumption | omega) ?_ | refine C4 (by first | with_reducible assumption | omega) rfl ?_ | refine BX ?_)
  rw [if_neg hb] at h
  obtain ⟨j,rfl⟩: ∃j:Nat,k=j:=⟨k.toNat,by omega⟩
  rw [Int.toNat_natCast] at h
  have jl:j<ws.length:=by omega
  have hw:=hwf _ (List.getElem_mem jl)
  rw [YK jl] at hw
  cases hu:(wk ws j).used with
  | false=>
    rw [if_pos hu] at h
    repeat' (first | refine P1 (v:= .bool false) jl (by simp [tW,hu]) ?_ | exact h | refine BO ?_ | refine F5 (by first | with_reducible assumption | omega) ?_ | refine C5 (by first | with_reducible assumption | omega) rfl ?_ | refine BX ?_ | refine AT (by omega) ?_ | refine B1 ?_)
  | true=>
    rw [if_neg (by rw [hu];decide)] at h
    repeat' (first | refine P1 (v:= .bool true) jl (by simp [tW,hu]) ?_ | refine CP hw (by omega) ?_ | refine BO ?_ | refine F5 (by first | with_reducible assumption | omega) ?_ | refine C5 (by first | with_reducible assumption | omega) rfl ?_ | refine BU ?_ | refine AX ?_ | refine BM ?_ | refine AT (by omega) ?_ | refine kT (by omega) (by decide) rfl ?_ | refine AV (fun _=> ?_) (fun _=> ?_) | refine B1 ?_)
    ·rename_i hh
     rw [if_pos hh] at h
     exact LZ (f:=tW) jl (y:=⟨false,0⟩) rfl h
    ·rename_i hh hs
     rw [if_neg hh,if_pos hs] at h
     exact h
    ·rename_i hh hs
     rw [if_neg hh,if_neg hs] at h
     exact h
end Go.Proofs.Ytklmcfpgdfibnaa.P
