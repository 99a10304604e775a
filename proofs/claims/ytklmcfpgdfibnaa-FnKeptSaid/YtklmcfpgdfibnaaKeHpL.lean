/- A part of the proof. -/
import Derived.Test.YtklmcfpgdfibnaaKeHpI
namespace Go.Proofs.Ytklmcfpgdfibnaa.P
open Go Go.Proofs.Ytklmcfpgdfibnaa Go.Proofs.Ytklmcfpgdfibnaa.Eng
set_option linter.unusedVariables false
set_option maxHeartbeats 4000000
set_option linter.unusedVariables false
set_option linter.unusedSimpArgs false
attribute [local irreducible] prP gP gE gF AX ixW ldc ldg ldl stc stg scW mkW apW BE cl2 BS DF CB
variable {w0:World}
def N6 (n:Nat) (p:Nat→Bool):Int:=match (List.range n).find? p with
 | some i=>(i:Int)
 | none=> -1
theorem JH {n i:Nat} {p:Nat→Bool} (hi:i<n) (h:p i=true) (hb: ∀k,k<i→p k=false):N6 n p=i:=by
 have:(List.range n).find? p=some i:=List.find?_range_eq_some.2 ⟨h,List.mem_range.2 hi,fun j hj=>by rw [hb j hj];rfl⟩
 rw [N6,this]
theorem LP {n:Nat} {p:Nat→Bool} (hb: ∀k,k<n→p k=false):N6 n p= -1:=by
 have:(List.range n).find? p=none:=List.find?_range_eq_none.2 fun j hj=>by rw [hb j hj];rfl
 rw [N6,this]
theorem PN (n:Nat) (p:Nat→Bool):(N6 n p= -1∧ ∀k,k<n→p k=false)∨ ∃i,i<n∧N6 n p=(i:Int)∧p i=true∧ ∀k,k<i→p k=false:=by
 cases h:(List.range n).find? p with
 | none=>exact .inl ⟨by rw [N6,h],fun k hk=>by have:=List.find?_range_eq_none.1 h k hk;simpa using this⟩
 | some i=>
   obtain ⟨h1,h2,h3⟩:=List.find?_range_eq_some.1 h
   exact .inr ⟨i,List.mem_range.1 h2,by rw [N6,h],h1,fun k hk=>by have:=h3 k hk;simpa using this⟩
def F6 (os:List AU) (i:Nat):Bool:= !(ob os i).live&&decide ((ob os i).gen<999)
def B8 (os:List AU):Int:=N6 os.length (F6 os)
def I8 (ws:List Wk):Int:=N6 ws.length fun i=> !(wk ws i).used
theorem VZ {os:List AU} {b c d:List T} {K:J2} (hol:os.length=8) (h:K [I (B8 os)] []):cl2 ⟨Try.prog,w0⟩ 75 FZ.sg [] [tR tO os,b,c,d] K:=by
 refine FZ.cl2 ?_
 unfold FZ.txt
 simp only [AI,AO,AM,AS,AH,AE,AG,AK,AN,AP,AR,AT,AQ,AL,BD,BJ,BL,BK,BM,BN,BG,A4,AZ,A6,A8,A5,A7]
 refine BH (fun i=>[iv os.length,iv i]) (fun _=>[]) os.length (fun i=> ∀k,k<i→F6 os k=false) rfl rfl (fun k hk=>by omega) (fun R i hi hP hR=> ?_)
 simp only [AI,AO,AM,AS,AH,AE,AG,AK,AN,AP,AR,AT,AQ,AL,BD,BJ,BL,BK,BM,BN,BG,A4,AZ,A6,A8,A5,A7]
 refine AY (AW (fun hlt=> ?_) fun hge=> ?_)
 ·have hlt:i<os.length:=by omega
  refine AJ hlt (OC hlt ?_)
  simp only [sQ,qL]
  have no:F6 os i=false→R [iv os.length,iv (i+1)] []:=fun hn=>hR hlt fun k hk=>(Nat.lt_succ_iff_lt_or_eq.1 hk).elim (hP k) fun he=>he ▸ hn
  have yes:F6 os i=true→K [iv i] []:=fun hy=>by unfold B8 at h;rw [JH hlt hy hP] at h;exact h
  cases hv:(ob os i).live with
  | false=>
    repeat' (first | refine BC ?_ | refine H4 ?_ | refine FF (by first | with_reducible assumption | omega) ?_ | refine C4 (by first | with_reducible assumption | omega) rfl ?_ | refine P9 rfl ?_ | refine AY ?_ | refine BA (by omega) ?_ | refine AW (fun _=> ?_) (fun _=> ?_) | refine B2 ?_)
    ·exact yes (by simp [F6,hv];omega)
    ·exact no (by simp [F6,hv];omega)
  | true=>
    repeat' (first | refine BC ?_ | refine HC ?_ | refine FF (by first | with_reducible assumption | omega) ?_ | refine C4 (by first | with_reducible assumption | omega) rfl ?_ | refine P5 rfl ?_ | refine BU ?_ | refine AY ?_ | refine BA (by omega) ?_ | refine B2 ?_)
    all_goals exact no (by simp [F6,hv])
 ·have:i=os.length:=by omega
  subst this
  unfold B8 at h
  rw [LP hP] at h;exact h
theorem V8 {os:List AU} {b c d:List T} {K:J2} (hol:os.length=8) (h:K [I (B8 os)] []):cl2 ⟨Try.prog,w0⟩ 152 FU.sg [] [tR tO os,b,c,d] K:=by
 refine FU.cl2 ?_
 unfold FU.txt
 simp only [AI,AO,AM,AS,AH,AE,AG,AK,AN,AP,AR,AT,AQ,AL,BD,BJ,BL,BK,BM,BN,BG,A4,AZ,A6,A8,A5,A7]
 refine BH (fun i=>[iv i]) (fun _=>[]) os.length (fun i=> ∀k,k<i→F6 os k=false) rfl rfl (fun k hk=>by omega) (fun R i hi hP hR=> ?_)
 simp only [AI,AO,AM,AS,AH,AE,AG,AK,AN,AP,AR,AT,AQ,AL,BD,BJ,BL,BK,BM,BN,BG,A4,AZ,A6,A8,A5,A7]
 refine AY (BC (J1 (fun hlt=> ?_) fun hge=> ?_))
 ·have hlt':i<os.length:=by omega
  refine AY (C4 hlt rfl (CY (by omega) ?_))
  have no:F6 os i=false→R [iv (i+1)] []:=fun hn=>hR hlt' fun k hk=>(Nat.lt_succ_iff_lt_or_eq.1 hk).elim (hP k) fun he=>he ▸ hn
  have yes:F6 os i=true→K [iv i] []:=fun hy=>by unfold B8 at h;rw [JH hlt' hy hP] at h;exact h
  refine AJ hlt' ?_
  cases hv:(ob os i).live with
  | false=>
    refine LU (v:= .bool false) hlt' (by simp [tO,hv]) (B2 ?_)
    repeat' (first | refine AJ hlt' ?_ | refine H0 (v:=I (ob os i).gen) hlt' (by decide) rfl ?_ | refine BC ?_ | refine H4 ?_ | refine P9 rfl ?_ | refine AY ?_ | refine BA (by omega) ?_ | refine AW (fun _=> ?_) (fun _=> ?_))
    ·exact yes (by simp [F6,hv];omega)
    ·exact no (by simp [F6,hv];omega)
  | true=>
    refine LU (v:= .bool true) hlt' (by simp [tO,hv]) (B2 ?_)
    repeat' (first | refine BC ?_ | refine HC ?_ | refine P5 rfl ?_ | refine BU ?_ | refine BA (by omega) ?_)
    all_goals exact no (by simp [F6,hv])
 ·refine CZ hge rfl (BU ?_)
  have:i=os.length:=by omega
  subst this
  unfold B8 at h
  rw [LP hP] at h;exact h
theorem V0 {ws:List Wk} {K:J2} (hol:ws.length=8) (h:K [I (I8 ws)] []):cl2 ⟨Try.prog,w0⟩ 165 FT.sg [] [tR tW ws] K:=by
 refine FT.cl2 ?_
 unfold FT.txt
 simp only [AI,AO,AM,AS,AH,AE,AG,AK,AN,AP,AR,AT,AQ,AL,BD,BJ,BL,BK,BM,BN,BG,A4,AZ,A6,A8,A5,A7]
 refine BH (fun i=>[iv ws.length,iv i]) (fun _=>[]) ws.length (fun i=> ∀k,k<i→(!(wk ws k).used)=false) rfl rfl (fun k hk=>by omega) (fun R i hi hP hR=> ?_)
 simp only [AI,AO,AM,AS,AH,AE,AG,AK,AN,AP,AR,AT,AQ,AL,BD,BJ,BL,BK,BM,BN,BG,A4,AZ,A6,A8,A5,A7]
 refine AY (AW (fun hlt=> ?_) fun hge=> ?_)
 ·have hlt:i<ws.length:=by omega
  refine AJ hlt (hQ hlt ?_)
  simp only [xI]
  cases hv:(wk ws i).used with
  | false=>
    refine B2 (BV ?_)
    unfold I8 at h
    rw [JH hlt (by rw [hv];rfl) hP] at h;exact h
  | true=>
    refine B2 (BU (BA (by omega) (hR hlt fun k hk=> ?_)))
    rcases Nat.lt_succ_iff_lt_or_eq.1 hk with h3 | rfl
    ·exact hP k h3
    ·rw [hv];rfl
 ·have:i=ws.length:=by omega
  subst this
  unfold I8 at h
  rw [LP hP] at h;exact h
theorem CF {n:Int} {K:J2} (h:K [I n,I 0] [[]]):cl2 ⟨Try.prog,w0⟩ 107 B6.sg [I n] [] K:=B6.cl2 h
def K9 (g s:Int):AU:=⟨true,g,s,1,0,1,MX,false⟩
def DD (os:List AU) (ss:List ByteArray) (s:ByteArray):List AU×List ByteArray×An:=
 if ¬(1≤(s.size:Int)∧(s.size:Int)≤8) then (os,ss,⟨2,0,[]⟩)
 else if B8 os<0 then (os,ss,⟨3,0,[]⟩)
 else if at_ ss s<0∧6≤ss.length then (os,ss,⟨6,0,[]⟩)
 else (os.set (B8 os).toNat (K9 (w64 ((ob os (B8 os).toNat).gen+1)) (if at_ ss s<0 then ss.length else at_ ss s)),(if at_ ss s<0 then ss++[s] else ss),⟨0,B9 (B8 os) (w64 ((ob os (B8 os).toNat).gen+1)),[]⟩)
theorem ME {os:List AU} (h: ¬B8 os<0):(B8 os).toNat<os.length∧B8 os=((B8 os).toNat:Int)∧F6 os (B8 os).toNat=true:=by
 rcases PN os.length (F6 os) with ⟨h1,_⟩ | ⟨i,h1,h2,h3,_⟩
 ·unfold B8 at h;omega
 ·have e:B8 os=i:=h2
  have e2:(B8 os).toNat=i:=by omega
  rw [e2];exact ⟨h1,e,h3⟩
theorem bJ {os:List AU} {b c:List T} {ss:List ByteArray} {s:ByteArray} {K:J2} (hol:os.length=8) (hsl:ss.length≤6) (h:K [I (DD os ss s).2.2.code,I (DD os ss s).2.2.val] [tI (DD os ss s).2.2.freed,tR tO (DD os ss s).1,tS (DD os ss s).2.1]):cl2 ⟨Try.prog,w0⟩ 144 D7.sg [.string s] [tR tO os,b,c,tS ss] K:=by
 refine D7.cl2 ?_
 unfold D7.txt
 refine VZ hol (SX (by omega) (BP ?_))
 simp only [AI,AO,AM,AS,AH,AE,AG,AK,AN,AP,AR,AT,AQ,AL,BD,BJ,BL,BK,BM,BN,BG,A4,AZ,A6,A8,A5,A7]
 unfold DD at h
 refine T2 (HH (CQ (AW (fun hb=> ?_) fun hb=> ?_)))
 ·rw [if_pos hb] at h
  exact CF h
 rw [if_neg hb] at h
 refine AY (AW (fun hf=> ?_) fun hf=> ?_)
 ·rw [if_pos hf] at h
  exact CF h
 rw [if_neg hf] at h
 obtain ⟨f1,f2,f3⟩:=ME hf
 refine AY ?_
 by_cases ha:at_ ss s<0
 ·by_cases h6:6≤ss.length
  ·rw [if_pos ⟨ha,h6⟩] at h
   repeat' (first | exact CF h | refine BC ?_ | refine FF (by first | with_reducible assumption | omega) ?_ | refine C4 (by first | with_reducible assumption | omega) rfl ?_ | refine CY (by first | with_reducible assumption | omega) ?_ | refine HR ?_)
   all_goals omega
  ·rw [if_neg (by omega),if_pos ha,if_pos ha] at h
   repeat' (first | refine BC ?_ | refine FF (by first | with_reducible assumption | omega) ?_ | refine C4 (by first | with_reducible assumption | omega) rfl ?_ | refine CY (by first | with_reducible assumption | omega) ?_ | refine C0 (by first | with_reducible assumption | omega) ?_ | refine AY ?_ | refine HR ?_ | refine GH ?_ | refine Q8 (by omega) (by omega) ?_ | refine H0 (by omega) (by decide) rfl ?_ | refine DC (by first | exact KZ _ | exact TS _ | exact UQ _ | exact w3 _ | rfl) (by omega) ?_)
   exact KF (y:=K9 (w64 ((ob os (B8 os).toNat).gen+1)) ss.length) (by omega) rfl (MC (by rw [←WQ] at h;exact h))
 ·rw [if_neg (by omega),if_neg ha,if_neg ha] at h
  repeat' (first | refine BC ?_ | refine IB (by first | with_reducible assumption | omega) ?_ | refine CZ (by first | with_reducible assumption | omega) rfl ?_ | refine BU ?_ | refine C0 (by first | with_reducible assumption | omega) ?_ | refine AY ?_ | refine GH ?_ | refine Q8 (by omega) (by omega) ?_ | refine H0 (by omega) (by decide) rfl ?_)
  exact KF (y:=K9 (w64 ((ob os (B8 os).toNat).gen+1)) (at_ ss s)) (by omega) rfl (MC h)
theorem uO {l:List ByteArray} {x s:ByteArray} (h:x∉l):at_ (l++[x]) s=if x=s then (l.length:Int) else at_ l s:=by
 unfold at_
 by_cases hs:s∈l
 ·rw [if_pos (List.mem_append_left _ hs),if_pos hs,List.idxOf_append,if_pos hs,if_neg (show ¬x=s from fun he=>h (he ▸ hs))]
 ·by_cases hx:x=s
  ·rw [if_pos (by simp [hx]),if_pos hx,List.idxOf_append,if_neg hs]
   simp [hx]
  ·rw [if_neg (by simp [hs,Ne.symm hx]),if_neg hx,if_neg hs]
theorem YA {os:List AU} {b c:List T} {ss:List ByteArray} {s:ByteArray} {k1 k2 k3 k4:Int} {K:J2} (hol:os.length=8) (hss:LZ ss) (h:K [I (DD os ss s).2.2.code,I (DD os ss s).2.2.val] [tR tO (DD os ss s).1,tS (DD os ss s).2.1,tI (DD os ss s).2.2.freed]):cl2 ⟨Try.prog,w0⟩ 123 GJ.sg [I k1,I k2,I k3,I k4, .string s] [tR tO os,b,c,tS ss] K:=by
 have hsl:=hss.len
 refine GJ.cl2 ?_
 unfold GJ.txt
 unfold DD at h
 refine T2 (CN (CQ (AW (fun hb=> ?_) fun hb=> ?_)))
 ·rw [if_pos hb] at h
  exact h
 rw [if_neg hb] at h
 refine V8 hol (AY (AW (fun hf=> ?_) fun hf=> ?_))
 ·rw [if_pos hf] at h
  exact h
 rw [if_neg hf] at h
 obtain ⟨f1,f2,f3⟩:=ME hf
 refine BH (fun i=>[I (B8 os),I (at_ (ss.take i) s),iv i,I k1,I k2,I k3,I k4, .string s,I 0,I 0]) (fun _=>[tR tO os,tS ss]) ss.length (fun i=>True) rfl rfl trivial (fun R i hi hP hR=> ?_)
 simp only [AI,AO,AM,AS,AH,AE,AG,AK,AN,AP,AR,AT,AQ,AL,BD,BJ,BL,BK,BM,BN,BG,A4,AZ,A6,A8,A5,A7]
 simp only [BG,qT,pW,zZ]
 refine AY (AW (fun hlt=> ?_) fun hge=> ?_)
 ·have hlt:i<ss.length:=by omega
  replace hR:=hR hlt trivial
  have hone:=hss.one i hlt
  rw [List.take_succ_eq_append_getElem hlt,QK hlt,uO hone] at hR
  refine BP (AJ hlt (ldS hlt (gK (AW (fun he=> ?_) fun he=> ?_))))
  ·rw [if_pos he,List.length_take,Nat.min_eq_left hi] at hR
   exact BA (by omega) hR
  ·rw [if_neg he] at hR
   exact BA (by omega) hR
 ·have:i=ss.length:=by omega
  subst this
  rw [List.take_length]
  refine AY ?_
  by_cases ha:at_ ss s<0
  ·by_cases h6:6≤ss.length
   ·rw [if_pos ⟨ha,h6⟩] at h
    repeat' (first | exact h | refine BC ?_ | refine FF (by first | with_reducible assumption | omega) ?_ | refine C4 (by first | with_reducible assumption | omega) rfl ?_ | refine CY (by first | with_reducible assumption | omega) ?_ | refine HR ?_)
    all_goals omega
   ·rw [if_neg (by omega),if_pos ha,if_pos ha] at h
    refine BC (BC (BC (FF ha (JW (C4 ha rfl (C0 (by omega) (BP (AY (CY ha (DC rfl (by omega) ?_))))))))))
    repeat' (first | refine GX ?_ | refine GH ?_ | refine Q8 (by omega) (by omega) ?_ | refine H0 (by omega) (by decide) rfl ?_ | simp only [AI,AO,AM,AS,AH,AE,AG,AK,AN,AP,AR,AT,AQ,AL,BD,BJ,BL,BK,BM,BN,BG,A4,AZ,A6,A8,A5,A7])
    rw [←WQ] at h
    exact KF (y:=K9 (w64 ((ob os (B8 os).toNat).gen+1)) ss.length) (by omega) rfl (FD h)
  ·rw [if_neg (by omega),if_neg ha,if_neg ha] at h
   refine BC (BC (BC (IB ha (CZ ha rfl (BU (BP (AY (C0 (by omega) ?_))))))))
   repeat' (first | refine GX ?_ | refine GH ?_ | refine Q8 (by omega) (by omega) ?_ | refine H0 (by omega) (by decide) rfl ?_ | simp only [AI,AO,AM,AS,AH,AE,AG,AK,AN,AP,AR,AT,AQ,AL,BD,BJ,BL,BK,BM,BN,BG,A4,AZ,A6,A8,A5,A7])
   exact KF (y:=K9 (w64 ((ob os (B8 os).toNat).gen+1)) (at_ ss s)) (by omega) rfl (FD h)
def PQ (r:List AU×List Int×List Int):List AU×List Int×An:=(r.1,r.2.1,⟨0,0,r.2.2⟩)
def FG (os:List AU) (buf:List Int) (kind id:Int):List AU×List Int×An:=
 if AB os id<0 then (os,buf,⟨1,0,[]⟩) else
 if kind=2 then
  if (ob os (AB os id).toNat).holds=20 then (os,buf,⟨4,0,[]⟩) else (FE (os.set (AB os id).toNat {ob os (AB os id).toNat with holds:=(ob os (AB os id).toNat).holds+1}) id,buf,⟨0,0,[]⟩)
 else if kind=5 then
  if (ob os (AB os id).toNat).roots=20 then (os,buf,⟨4,0,[]⟩) else (FE (os.set (AB os id).toNat {ob os (AB os id).toNat with roots:=(ob os (AB os id).toNat).roots+1}) id,buf,⟨0,0,[]⟩)
 else if kind=3 then
  if (ob os (AB os id).toNat).holds=0 then (os,buf,⟨5,0,[]⟩) else PQ (FK (os.set (AB os id).toNat {ob os (AB os id).toNat with holds:=(ob os (AB os id).toNat).holds-1}) buf [id])
 else
  if (ob os (AB os id).toNat).roots=0 then (os,buf,⟨5,0,[]⟩) else PQ (FK (os.set (AB os id).toNat {ob os (AB os id).toNat with roots:=(ob os (AB os id).toNat).roots-1}) buf [id])
theorem stH {os:List AU} {k:Nat} {v:Int} {K:List T→Prop} (hk:k<os.length) (h:K (tR tO (os.set k {ob os k with holds:=v}))):stc (tR tO os) [] (AA (iv (AA (iv k)*8+3))) (I v) K:=by
 rw [A9 (AA (iv k)*8+3), ←DH hk] at*;exact aO hk h
theorem stR {os:List AU} {k:Nat} {v:Int} {K:List T→Prop} (hk:k<os.length) (h:K (tR tO (os.set k {ob os k with roots:=v}))):stc (tR tO os) [] (AA (iv (AA (iv k)*8+4))) (I v) K:=by
 rw [A9 (AA (iv k)*8+4), ←DH hk] at*;exact OB hk (by decide) rfl rfl h
theorem WY {os:List AU} {buf:List Int} {b d:List T} {kind id:Int} {K:J2} (hol:os.length=8) (hof: ∀o∈os,OF o) (hb:buf.length≤100) (hid:F64 id) (hkd:kind=2∨kind=3∨kind=5∨kind=6) (hr: ∀i,(0≤(ob os i).holds∧(ob os i).holds≤20)∧(0≤(ob os i).roots∧(ob os i).roots≤20)) (h:K [I (FG os buf kind id).2.2.code,I (FG os buf kind id).2.2.val] [tI (FG os buf kind id).2.2.freed,tR tO (FG os buf kind id).1,tI (FG os buf kind id).2.1]):cl2 ⟨Try.prog,w0⟩ 145 DK.sg [I kind,I id] [tR tO os,b,tI buf,d] K:=by
 refine DK.cl2 ?_
 unfold DK.txt
 simp only [AI,AO,AM,AS,AH,AE,AG,AK,AN,AP,AR,AT,AQ,AL,BD,BJ,BL,BK,BM,BN,BG,A4,AZ,A6,A8,A5,A7]
 unfold FG at h
 refine C5 hid (by omega) (AY (AW (fun hs=> ?_) fun hs=> ?_))
 ·rw [if_pos hs] at h
  exact CF h
 rw [if_neg hs] at h
 have hkb:=BT (l:=os) (id:=id) (by omega)
 obtain ⟨k,hkk⟩: ∃k,(AB os id).toNat=k:=⟨_,rfl⟩
 have hkI:AB os id=(k:Int):=by omega
 rw [hkk] at h hkb
 have hkl:k<os.length:=by omega
 have hrk:=hr k
 have ho:=hof _ (JJ (l:=os) (i:=k) (by omega))
 obtain ⟨⟨r1,r2⟩,r3,r4⟩:=hrk
 rw [BD,hkI]
 refine AJ (by omega) (BP ?_)
 simp only [AI,AO,AM,AS,AH,AE,AG,AK,AN,AP,AR,AT,AQ,AL,BD,BJ,BL,BK,BM,BN,BG,A4,AZ,A6,A8,A5,A7]
 rcases hkd with rfl | rfl | rfl | rfl
 ·simp only [if_true] at h
  repeat' (first | refine BC ?_ | refine K7 ?_ | refine L5 ?_ | refine C4 (by first | with_reducible assumption | omega) rfl ?_ | refine CZ (by first | with_reducible assumption | omega) rfl ?_ | refine BV ?_ | refine BU ?_ | refine BF ?_ | refine DN ⟨by omega,by omega⟩ ?_ | refine H0 (by omega) (by decide) rfl ?_ | refine AW (fun _=> ?_) (fun _=> ?_))
  ·rename_i h20
   rw [if_pos h20] at h
   exact CF h
  ·rename_i h20
   rw [if_neg h20] at h
   exact stH hkl (Q4 hid (by simpa using hol) h)
 ·simp only [if_neg (show ¬(3:Int)=2 by decide),if_neg (show ¬(3:Int)=5 by decide),if_true] at h
  repeat' (first | refine BC ?_ | refine K7 ?_ | refine CZ (by first | with_reducible assumption | omega) rfl ?_ | refine BU ?_ | refine BF ?_ | refine DN ⟨by omega,by omega⟩ ?_ | refine H0 (by omega) (by decide) rfl ?_ | refine AW (fun _=> ?_) (fun _=> ?_))
  ·rename_i h20
   rw [if_pos h20] at h
   exact CF h
  ·rename_i h20
   rw [if_neg h20] at h
   exact stH hkl (Q5 (buf:=buf) (ids:=[id]) (by simpa using hol) (LH hof ⟨ho.gen,ho.len,ho.fld⟩) (by omega) (by simp) (by simpa using hid) h)
 ·simp only [if_neg (show ¬(5:Int)=2 by decide),if_true] at h
  repeat' (first | refine BC ?_ | refine K7 ?_ | refine L5 ?_ | refine C4 (by first | with_reducible assumption | omega) rfl ?_ | refine CZ (by first | with_reducible assumption | omega) rfl ?_ | refine BV ?_ | refine BF ?_ | refine DN ⟨by omega,by omega⟩ ?_ | refine AJ (by omega) ?_ | refine H0 (by omega) (by decide) rfl ?_ | refine AW (fun _=> ?_) (fun _=> ?_))
  ·rename_i h20
   rw [if_pos h20] at h
   exact CF h
  ·rename_i h20
   rw [if_neg h20] at h
   exact stR hkl (Q4 hid (by simpa using hol) h)
 ·simp only [if_neg (show ¬(6:Int)=2 by decide),if_neg (show ¬(6:Int)=5 by decide),if_neg (show ¬(6:Int)=3 by decide)] at h
  repeat' (first | refine BC ?_ | refine K7 ?_ | refine CZ (by first | with_reducible assumption | omega) rfl ?_ | refine BV ?_ | refine BU ?_ | refine BF ?_ | refine DN ⟨by omega,by omega⟩ ?_ | refine AJ (by omega) ?_ | refine H0 (by omega) (by decide) rfl ?_ | refine AW (fun _=> ?_) (fun _=> ?_))
  ·rename_i h20
   rw [if_pos h20] at h
   exact CF h
  ·rename_i h20
   rw [if_neg h20] at h
   exact stR hkl (Q5 (buf:=buf) (ids:=[id]) (by simpa using hol) (LH hof ⟨ho.gen,ho.len,ho.fld⟩) (by omega) (by simp) (by simpa using hid) h)
theorem Bf {os:List AU} {k:Nat} {v:Int} {K:List T→Prop} (hk:k<os.length) (h:K (tR tO (os.set k {ob os k with holds:=v}))):stc (tR tO os) [] (AA (iv k)*8+3) (I v) K:=by
 rw [←DH hk] at h;exact aO hk h
theorem Bt {os:List AU} {k:Nat} {v:Int} {K:List T→Prop} (hk:k<os.length) (h:K (tR tO (os.set k {ob os k with roots:=v}))):stc (tR tO os) [] (AA (iv k)*8+4) (I v) K:=by
 rw [←DH hk] at h;exact OB hk (by decide) rfl rfl h
theorem St.set {h:Hp} {os:List AU} (st:St h) (hl:os.length=h.AD.length) (ho: ∀o∈os,OF o):St {h with AD:=os}:=⟨by have:=st.ol;simp only;omega,st.wl,st.sl,st.bl,ho,st.ss,st.wf,st.bf⟩
theorem ZR {h:Hp} {kind id b c:Int} {s:ByteArray} {K:J2} (st:St h) (hid:F64 id) (hkd:kind=2∨kind=3∨kind=5∨kind=6) (hr: ∀i,(0≤(ob h.AD i).holds∧(ob h.AD i).holds≤20)∧(0≤(ob h.AD i).roots∧(ob h.AD i).roots≤20)) (hK:K [I (FG h.AD h.buffer kind id).2.2.code,I (FG h.AD h.buffer kind id).2.2.val] [tR tO (FG h.AD h.buffer kind id).1,tR tW h.BW,tI (FG h.AD h.buffer kind id).2.1,tS h.sites,tI (FG h.AD h.buffer kind id).2.2.freed]):cl2 ⟨Try.prog,w0⟩ 124 HS.sg [I kind,I id,I b,I c, .string s] (trees h) K:=by
 refine HS.cl2 ?_
 unfold HS.txt
 obtain ⟨os,ws,buf,ss⟩:=h
 have hol:os.length=8:=st.ol
 have hof: ∀o∈os,OF o:=st.of
 simp only at hr hK
 simp only [trees]
 simp only [AI,AO,AM,AS,AH,AE,AG,AK,AN,AP,AR,AT,AQ,AL,BD,BJ,BL,BK,BM,BN,BG,A4,AZ,A6,A8,A5,A7]
 unfold FG at hK
 refine CW hid (by omega) (AY (AW (fun hs=> ?_) fun hs=> ?_))
 ·rw [if_pos hs] at hK
  exact hK
 rw [if_neg hs] at hK
 have hkb:=BT (l:=os) (id:=id) (by omega)
 obtain ⟨k,hkk⟩: ∃k,(AB os id).toNat=k:=⟨_,rfl⟩
 have hkI:AB os id=(k:Int):=by omega
 rw [hkk] at hK hkb
 have hkl:k<os.length:=by omega
 have hrk:=hr k
 have ho:=hof _ (JJ (l:=os) (i:=k) (by omega))
 obtain ⟨⟨r1,r2⟩,r3,r4⟩:=hrk
 rw [BD,hkI]
 refine AJ (by omega) (OC hkl (BP (BP ?_)))
 simp only [sQ,qL,xS,xF,xD,qI,xH]
 have gn: ∀{os':List AU} {K:J2},os'.length=os.length→(∀o∈os',OF o)→K [] [tR tO (FE os' id),tR tW ws,tI buf,tS ss]→cl2 ⟨Try.prog,w0⟩ 153 GG.sg [I id] [tR tO os',tR tW ws,tI buf,tS ss] K:=fun hl ho hk=>VQ (St.set st hl ho) hid hk
 have ls: ∀{os':List AU} {K:J2},os'.length=os.length→(∀o∈os',OF o)→K [] [tR tO (FK os' buf [id]).1,tR tW ws,tI (FK os' buf [id]).2.1,tS ss,tI (FK os' buf [id]).2.2]→cl2 ⟨Try.prog,w0⟩ 154 G6.sg [] [tR tO os',tR tW ws,tI buf,tS ss,tI [id]] K:=fun hl ho hk=>VF (St.set st hl ho) (by simp) (by simpa using hid) hk
 rcases hkd with rfl | rfl | rfl | rfl
 ·simp only [if_true] at hK
  by_cases h20:(ob os k).holds=20
  ·rw [if_pos h20] at hK
   repeat' (first | refine BC ?_ | refine H4 ?_ | refine C4 (by first | with_reducible assumption | omega) rfl ?_ | refine CY (by first | with_reducible assumption | omega) ?_ | refine HR ?_ | refine BF ?_ | simp only [AI,AO,AM,AS,AH,AE,AG,AK,AN,AP,AR,AT,AQ,AL,BD,BJ,BL,BK,BM,BN,BG,A4,AZ,A6,A8,A5,A7])
   exact hK
  ·rw [if_neg h20] at hK
   repeat' (first | refine BP ?_ | refine BC ?_ | refine H4 ?_ | refine HC ?_ | refine C4 (by first | with_reducible assumption | omega) rfl ?_ | refine CZ (by first | with_reducible assumption | omega) rfl ?_ | refine BV ?_ | refine BU ?_ | refine C0 (by first | with_reducible assumption | omega) ?_ | refine HR ?_ | refine BF ?_ | refine DN ⟨by omega,by omega⟩ ?_ | refine AJ (by omega) ?_ | simp only [AI,AO,AM,AS,AH,AE,AG,AK,AN,AP,AR,AT,AQ,AL,BD,BJ,BL,BK,BM,BN,BG,A4,AZ,A6,A8,A5,A7])
   exact Bf hkl (gn (by simp) (LH hof ⟨ho.gen,ho.len,ho.fld⟩) hK)
 ·simp only [if_neg (show ¬(3:Int)=2 by decide),if_neg (show ¬(3:Int)=5 by decide),if_true] at hK
  by_cases h20:(ob os k).holds=0
  ·rw [if_pos h20] at hK
   repeat' (first | refine BP ?_ | refine BC ?_ | refine H4 ?_ | refine HC ?_ | refine C4 (by first | with_reducible assumption | omega) rfl ?_ | refine CZ (by first | with_reducible assumption | omega) rfl ?_ | refine BU ?_ | refine CY (by first | with_reducible assumption | omega) ?_ | refine AY ?_ | refine BF ?_ | simp only [AI,AO,AM,AS,AH,AE,AG,AK,AN,AP,AR,AT,AQ,AL,BD,BJ,BL,BK,BM,BN,BG,A4,AZ,A6,A8,A5,A7])
   exact hK
  ·rw [if_neg h20] at hK
   repeat' (first | refine BP ?_ | refine BC ?_ | refine H4 ?_ | refine HC ?_ | refine C4 (by first | with_reducible assumption | omega) rfl ?_ | refine CZ (by first | with_reducible assumption | omega) rfl ?_ | refine BV ?_ | refine BU ?_ | refine C0 (by first | with_reducible assumption | omega) ?_ | refine AY ?_ | refine BF ?_ | refine DN ⟨by omega,by omega⟩ ?_ | refine AJ (by omega) ?_ | simp only [AI,AO,AM,AS,AH,AE,AG,AK,AN,AP,AR,AT,AQ,AL,BD,BJ,BL,BK,BM,BN,BG,A4,AZ,A6,A8,A5,A7])
   exact Bf hkl (ls (by simp) (LH hof ⟨ho.gen,ho.len,ho.fld⟩) hK)
 ·simp only [if_neg (show ¬(5:Int)=2 by decide),if_true] at hK
  by_cases h20:(ob os k).roots=20
  ·rw [if_pos h20] at hK
   repeat' (first | refine BC ?_ | refine H4 ?_ | refine HC ?_ | refine C4 (by first | with_reducible assumption | omega) rfl ?_ | refine CZ (by first | with_reducible assumption | omega) rfl ?_ | refine BU ?_ | refine CY (by first | with_reducible assumption | omega) ?_ | refine HR ?_ | refine BF ?_ | simp only [AI,AO,AM,AS,AH,AE,AG,AK,AN,AP,AR,AT,AQ,AL,BD,BJ,BL,BK,BM,BN,BG,A4,AZ,A6,A8,A5,A7])
   exact hK
  ·rw [if_neg h20] at hK
   repeat' (first | refine BP ?_ | refine BC ?_ | refine H4 ?_ | refine HC ?_ | refine C4 (by first | with_reducible assumption | omega) rfl ?_ | refine CZ (by first | with_reducible assumption | omega) rfl ?_ | refine BV ?_ | refine BU ?_ | refine C0 (by first | with_reducible assumption | omega) ?_ | refine HR ?_ | refine BF ?_ | refine DN ⟨by omega,by omega⟩ ?_ | refine AJ (by omega) ?_ | simp only [AI,AO,AM,AS,AH,AE,AG,AK,AN,AP,AR,AT,AQ,AL,BD,BJ,BL,BK,BM,BN,BG,A4,AZ,A6,A8,A5,A7])
   exact Bt hkl (gn (by simp) (LH hof ⟨ho.gen,ho.len,ho.fld⟩) hK)
 ·simp only [if_neg (show ¬(6:Int)=2 by decide),if_neg (show ¬(6:Int)=5 by decide),if_neg (show ¬(6:Int)=3 by decide)] at hK
  by_cases h20:(ob os k).roots=0
  ·rw [if_pos h20] at hK
   repeat' (first | refine BP ?_ | refine BC ?_ | refine H4 ?_ | refine HC ?_ | refine C4 (by first | with_reducible assumption | omega) rfl ?_ | refine CZ (by first | with_reducible assumption | omega) rfl ?_ | refine BU ?_ | refine CY (by first | with_reducible assumption | omega) ?_ | refine AY ?_ | refine BF ?_ | simp only [AI,AO,AM,AS,AH,AE,AG,AK,AN,AP,AR,AT,AQ,AL,BD,BJ,BL,BK,BM,BN,BG,A4,AZ,A6,A8,A5,A7])
   exact hK
  ·rw [if_neg h20] at hK
   repeat' (first | refine BP ?_ | refine BC ?_ | refine H4 ?_ | refine HC ?_ | refine C4 (by first | with_reducible assumption | omega) rfl ?_ | refine CZ (by first | with_reducible assumption | omega) rfl ?_ | refine BU ?_ | refine C0 (by first | with_reducible assumption | omega) ?_ | refine AY ?_ | refine BF ?_ | refine DN ⟨by omega,by omega⟩ ?_ | refine AJ (by omega) ?_ | simp only [AI,AO,AM,AS,AH,AE,AG,AK,AN,AP,AR,AT,AQ,AL,BD,BJ,BL,BK,BM,BN,BG,A4,AZ,A6,A8,A5,A7])
   exact Bt hkl (ls (by simp) (LH hof ⟨ho.gen,ho.len,ho.fld⟩) hK)
end Go.Proofs.Ytklmcfpgdfibnaa.P
namespace Go.Proofs.Ytklmcfpgdfibnaa.P
open Go Go.Proofs.Ytklmcfpgdfibnaa Go.Proofs.Ytklmcfpgdfibnaa.Eng
set_option linter.unusedVariables false
set_option maxHeartbeats 4000000
set_option linter.unusedVariables false
set_option linter.unusedSimpArgs false
attribute [local irreducible] prP gP gE gF AX ixW ldc ldg ldl stc stg scW mkW apW BE cl2 BS DF CB
variable {w0:World}
def EO (os:List AU) (buf:List Int) (a b c:Int):List AU×List Int×An:=
 if AB os a<0∨(c≠ -1∧AB os c<0) then (os,buf,⟨1,0,[]⟩) else
 if ¬(0≤b∧b≤2) then (os,buf,⟨2,0,[]⟩) else
 if gI (ob os (AB os a).toNat).field b.toNat= -1 then
  ((FE os c).set (AB os a).toNat {ob (FE os c) (AB os a).toNat with field:=(ob os (AB os a).toNat).field.set b.toNat c},buf,⟨0,0,[]⟩)
 else PQ (FK ((FE os c).set (AB os a).toNat {ob (FE os c) (AB os a).toNat with field:=(ob os (AB os a).toNat).field.set b.toNat c}) buf [gI (ob os (AB os a).toNat).field b.toNat])
theorem DZ {l:List AU} {i k:Nat} {o:AU} (hk:k<l.length):ob (l.set k o) i=if i=k then o else ob l i:=by
 unfold ob
 by_cases h:i=k
 ·subst h
  rw [if_pos rfl,List.getD_eq_getElem?_getD,List.getElem?_set_self hk];rfl
 ·rw [if_neg h,List.getD_eq_getElem?_getD,List.getElem?_set_ne (Ne.symm h),List.getD_eq_getElem?_getD]
theorem YH {os:List AU} {id:Int} {i:Nat}:(ob (FE os id) i).live=(ob os i).live∧(ob (FE os id) i).gen=(ob os i).gen∧(ob (FE os id) i).site=(ob os i).site∧(ob (FE os id) i).holds=(ob os i).holds∧(ob (FE os id) i).roots=(ob os i).roots∧(ob (FE os id) i).field=(ob os i).field∧(ob (FE os id) i).purple=(ob os i).purple:=by
 unfold FE
 split
 ·exact ⟨rfl,rfl,rfl,rfl,rfl,rfl,rfl⟩
 ·have hk:=BT (l:=os) (id:=id) (by omega)
  rw [DZ (by omega)]
  split
  ·rename_i h;subst h;exact ⟨rfl,rfl,rfl,rfl,rfl,rfl,rfl⟩
  ·exact ⟨rfl,rfl,rfl,rfl,rfl,rfl,rfl⟩
theorem stF {os:List AU} {k j:Nat} {v:Int} {K:List T→Prop} (hk:k<os.length) (hj:j<(ob os k).field.length) (h:K (tR tO (os.set k {ob os k with field:=(ob os k).field.set j v}))):stc (tR tO os) [AA (iv k)*8+6] (AA (iv j)*1) (I v) K:=by
 rw [←DH hk] at h hj;exact oB hk hj h
theorem OF.put {o:AU} {m:List Int} (h:OF o) (hl:m.length=3) (hf: ∀x∈m,F64 x):OF {o with field:=m}:=⟨h.gen,hl,hf⟩
theorem bX {os:List AU} {buf:List Int} {b d:List T} {a0 a1 a2 a3:Int} {s:ByteArray} {K:J2} (hol:os.length=8) (hof: ∀o∈os,OF o) (hb:buf.length≤100) (h1:F64 a1) (h3:F64 a3) (h:K [I (EO os buf a1 a2 a3).2.2.code,I (EO os buf a1 a2 a3).2.2.val] [tI (EO os buf a1 a2 a3).2.2.freed,tR tO (EO os buf a1 a2 a3).1,tI (EO os buf a1 a2 a3).2.1]):cl2 ⟨Try.prog,w0⟩ 146 D8.sg [I a0,I a1,I a2,I a3, .string s] [tR tO os,b,tI buf,d] K:=by
 refine D8.cl2 ?_
 unfold D8.txt
 unfold EO at h
 refine C5 h1 (by omega) ?_
 by_cases hs:AB os a1<0
 ·rw [if_pos (.inl hs)] at h
  repeat' (first | exact CF h | refine BC ?_ | refine lW ?_ | refine S1 (by first | with_reducible assumption | omega) ?_ | refine J3 (by first | with_reducible assumption | omega) ?_ | refine C4 (by first | with_reducible assumption | omega) rfl ?_ | refine BV ?_ | refine AY ?_)
 have hkb:=BT (l:=os) (id:=a1) (by omega)
 by_cases hc:a3≠ -1∧AB os a3<0
 ·obtain ⟨hc1,hc2⟩:=hc
  rw [if_pos (.inr ⟨hc1,hc2⟩)] at h
  repeat' (first | refine C5 h3 (by omega) ?_ | exact CF h | refine BC ?_ | refine PW ?_ | refine O8 (by first | with_reducible assumption | omega) ?_ | refine FF (by first | with_reducible assumption | omega) ?_ | refine EC (by first | with_reducible assumption | omega) ?_ | refine C4 (by first | with_reducible assumption | omega) rfl ?_ | refine CZ (by first | with_reducible assumption | omega) rfl ?_ | refine CY (by first | with_reducible assumption | omega) ?_ | refine AY ?_ | refine CM ?_)
 rw [if_neg (by omega)] at h
 by_cases hb2: ¬(0≤a2∧a2≤2)
 ·rw [if_pos hb2] at h
  repeat' (first | refine C5 h3 (by omega) ?_ | refine HH ?_ | exact CF h | refine BC ?_ | refine PW ?_ | refine O8 (by first | with_reducible assumption | omega) ?_ | refine FF (by first | with_reducible assumption | omega) ?_ | refine IB (by first | with_reducible assumption | omega) ?_ | refine EC (by first | with_reducible assumption | omega) ?_ | refine C4 (by first | with_reducible assumption | omega) rfl ?_ | refine CZ (by first | with_reducible assumption | omega) rfl ?_ | refine BU ?_ | refine CY (by first | with_reducible assumption | omega) ?_ | refine C0 (by first | with_reducible assumption | omega) ?_ | refine AY ?_ | refine CM ?_ | refine CQ ?_ | refine J1 (fun _=> ?_) (fun _=> ?_))
 rw [if_neg hb2] at h
 obtain ⟨k,hkk⟩: ∃k,(AB os a1).toNat=k:=⟨_,rfl⟩
 have hkI:AB os a1=(k:Int):=by omega
 rw [hkk] at h hkb
 obtain ⟨j,rfl⟩: ∃j:Nat,a2=j:=⟨a2.toNat,by omega⟩
 rw [Int.toNat_natCast] at h
 have hkl:k<os.length:=by omega
 have ho:=hof _ (JJ (l:=os) (i:=k) (by omega))
 obtain ⟨_,_,_,_,_,gf,_⟩:=YH (os:=os) (id:=a3) (i:=k)
 have gl:=UX os a3
 have gof:=eF (id:=a3) hof
 have jl:j<(ob os k).field.length:=by rw [ho.len];omega
 rw [hkI]
 repeat' (first | refine C5 h3 (by omega) ?_ | refine HH ?_ | refine Q4 h3 hol ?_ | refine BC ?_ | refine PW ?_ | refine W6 ?_ | refine K7 ?_ | refine FF (by first | with_reducible assumption | omega) ?_ | refine IB (by first | with_reducible assumption | omega) ?_ | refine C4 (by first | with_reducible assumption | omega) rfl ?_ | refine CZ (by first | with_reducible assumption | omega) rfl ?_ | refine BU ?_ | refine C0 (by first | with_reducible assumption | omega) ?_ | refine AY ?_ | refine CM ?_ | refine CQ ?_ | refine AJ (by omega) ?_ | refine XO (by omega) ?_ | refine J1 (fun _=> ?_) (fun _=> ?_) | simp only [AI,AO,AM,AS,AH,AE,AG,AK,AN,AP,AR,AT,AQ,AL,BD,BJ,BL,BK,BM,BN,BG,A4,AZ,A6,A8,A5,A7])
 all_goals
  refine AJ (by rw [HG (by omega),AE,gf];exact jl) (NG (by omega) (by rw [gf];exact jl) (AJ (by omega) ?_))
  rw [gf]
  refine PH (f:=tO) (i:=k) (by omega) (by decide) rfl ?_
  refine AJ (by rw [HG (by omega),AE,gf];exact jl) (stF (by omega) (by rw [gf];exact jl) ?_)
  rw [gf]
  refine BF (AW (fun he=> ?_) fun he=> ?_)
  ·rw [if_pos he] at h;exact h
  ·rw [if_neg he] at h
   exact Q5 (buf:=buf) (ids:=[gI (ob os k).field j]) (by simpa using gl.trans hol) (LH gof (OF.put (gof _ (JJ (by omega))) (by rw [List.length_set];exact ho.len) fun x hx=>(List.mem_or_eq_of_mem_set hx).elim (ho.fld x) fun he=>he ▸ h3)) (by omega) (by simp) (by simpa using ho.fld _ (DS jl)) h
theorem W8 {h:Hp} {a0 a1 a2 a3:Int} {s:ByteArray} {K:J2} (st:St h) (h1:F64 a1) (h3:F64 a3) (hfd: ∀i, ∀f∈(ob h.AD i).field,f= -1∨0≤f) (hK:K [I (EO h.AD h.buffer a1 a2 a3).2.2.code,I (EO h.AD h.buffer a1 a2 a3).2.2.val] [tR tO (EO h.AD h.buffer a1 a2 a3).1,tR tW h.BW,tI (EO h.AD h.buffer a1 a2 a3).2.1,tS h.sites,tI (EO h.AD h.buffer a1 a2 a3).2.2.freed]):cl2 ⟨Try.prog,w0⟩ 125 GN.sg [I a0,I a1,I a2,I a3, .string s] (trees h) K:=by
 refine GN.cl2 ?_
 unfold GN.txt
 obtain ⟨os,ws,buf,ss⟩:=h
 have hol:os.length=8:=st.ol
 have hof: ∀o∈os,OF o:=st.of
 simp only at hK hfd
 simp only [trees]
 unfold EO at hK
 have gn: ∀{K:J2},K [] [tR tO (FE os a3),tR tW ws,tI buf,tS ss]→cl2 ⟨Try.prog,w0⟩ 153 GG.sg [I a3] [tR tO os,tR tW ws,tI buf,tS ss] K:=fun hk=>VQ st h3 hk
 have ls: ∀{os':List AU} {x:Int} {K:J2},os'.length=os.length→(∀o∈os',OF o)→F64 x→K [] [tR tO (FK os' buf [x]).1,tR tW ws,tI (FK os' buf [x]).2.1,tS ss,tI (FK os' buf [x]).2.2]→cl2 ⟨Try.prog,w0⟩ 154 G6.sg [] [tR tO os',tR tW ws,tI buf,tS ss,tI [x]] K:=fun hl ho hx hk=>VF (St.set st hl ho) (by simp) (by simpa using hx) hk
 refine CW h1 (by omega) ?_
 by_cases hs:AB os a1<0
 ·rw [if_pos (.inl hs)] at hK
  repeat' (first | exact hK | refine BC ?_ | refine lW ?_ | refine S1 (by first | with_reducible assumption | omega) ?_ | refine J3 (by first | with_reducible assumption | omega) ?_ | refine C4 (by first | with_reducible assumption | omega) rfl ?_ | refine BV ?_ | refine AY ?_)
 have hkb:=BT (l:=os) (id:=a1) (by omega)
 by_cases hc:a3≠ -1∧AB os a3<0
 ·obtain ⟨hc1,hc2⟩:=hc
  rw [if_pos (.inr ⟨hc1,hc2⟩)] at hK
  repeat' (first | refine CW h3 (by omega) ?_ | exact hK | refine BC ?_ | refine PW ?_ | refine O8 (by first | with_reducible assumption | omega) ?_ | refine FF (by first | with_reducible assumption | omega) ?_ | refine EC (by first | with_reducible assumption | omega) ?_ | refine C4 (by first | with_reducible assumption | omega) rfl ?_ | refine CZ (by first | with_reducible assumption | omega) rfl ?_ | refine CY (by first | with_reducible assumption | omega) ?_ | refine AY ?_ | refine CM ?_)
 rw [if_neg (by omega)] at hK
 by_cases hb2: ¬(0≤a2∧a2≤2)
 ·rw [if_pos hb2] at hK
  repeat' (first | refine CW h3 (by omega) ?_ | refine CN ?_ | exact hK | refine BC ?_ | refine PW ?_ | refine O8 (by first | with_reducible assumption | omega) ?_ | refine FF (by first | with_reducible assumption | omega) ?_ | refine IB (by first | with_reducible assumption | omega) ?_ | refine EC (by first | with_reducible assumption | omega) ?_ | refine C4 (by first | with_reducible assumption | omega) rfl ?_ | refine CZ (by first | with_reducible assumption | omega) rfl ?_ | refine BU ?_ | refine CY (by first | with_reducible assumption | omega) ?_ | refine C0 (by first | with_reducible assumption | omega) ?_ | refine AY ?_ | refine CM ?_ | refine CQ ?_ | refine J1 (fun _=> ?_) (fun _=> ?_))
 rw [if_neg hb2] at hK
 obtain ⟨k,hkk⟩: ∃k,(AB os a1).toNat=k:=⟨_,rfl⟩
 have hkI:AB os a1=(k:Int):=by omega
 rw [hkk] at hK hkb
 obtain ⟨j,rfl⟩: ∃j:Nat,a2=j:=⟨a2.toNat,by omega⟩
 rw [Int.toNat_natCast] at hK
 have hkl:k<os.length:=by omega
 have ho:=hof _ (JJ (l:=os) (i:=k) (by omega))
 obtain ⟨_,_,_,_,_,gf,_⟩:=YH (os:=os) (id:=a3) (i:=k)
 have gl:=UX os a3
 have gof:=eF (id:=a3) hof
 have jl:j<(ob os k).field.length:=by rw [ho.len];omega
 have hold:=hfd k _ (DS jl)
 rw [hkI]
 repeat' (first | refine CW h3 (by omega) ?_ | refine CN ?_ | refine BC ?_ | refine PW ?_ | refine W6 ?_ | refine K7 ?_ | refine FF (by first | with_reducible assumption | omega) ?_ | refine IB (by first | with_reducible assumption | omega) ?_ | refine C4 (by first | with_reducible assumption | omega) rfl ?_ | refine CZ (by first | with_reducible assumption | omega) rfl ?_ | refine BU ?_ | refine C0 (by first | with_reducible assumption | omega) ?_ | refine AY ?_ | refine CM ?_ | refine CQ ?_ | refine AJ (by omega) ?_ | refine XO (by omega) ?_ | refine J1 (fun _=> ?_) (fun _=> ?_) | simp only [AI,AO,AM,AS,AH,AE,AG,AK,AN,AP,AR,AT,AQ,AL,BD,BJ,BL,BK,BM,BN,BG,A4,AZ,A6,A8,A5,A7])
 all_goals
  refine AJ (by rw [HG (by omega),AE];exact jl) (NG (by omega) jl (BP ?_))
  simp only [AI,AO,AM,AS,AH,AE,AG,AK,AN,AP,AR,AT,AQ,AL,BD,BJ,BL,BK,BM,BN,BG,A4,AZ,A6,A8,A5,A7]
  refine JW (AW (fun hge=>gn ?_) fun hlt=> ?_)
  ·simp only [AI,AO,AM,AS,AH,AE,AG,AK,AN,AP,AR,AT,AQ,AL,BD,BJ,BL,BK,BM,BN,BG,A4,AZ,A6,A8,A5,A7]
   refine AJ (by omega) (PH (f:=tO) (i:=k) (by omega) (by decide) rfl ?_)
   refine AJ (by rw [HG (by omega),AE,gf];exact jl) (stF (by omega) (by rw [gf];exact jl) ?_)
   rw [gf]
   refine AY (AW (fun he=> ?_) fun he=> ?_)
   ·rw [if_pos (by omega)] at hK;exact hK
   ·rw [if_neg (by omega)] at hK
    exact ls (by simpa using gl) (LH gof (OF.put (gof _ (JJ (by omega))) (by rw [List.length_set];exact ho.len) fun x hx=>(List.mem_or_eq_of_mem_set hx).elim (ho.fld x) fun he=>he ▸ h3)) (ho.fld _ (DS jl)) hK
  ·have e0:FE os a3=os:=by unfold FE;rw [if_pos];rw [FB (by omega)];decide
   rw [e0] at hK
   refine AJ (by omega) (PH (f:=tO) (i:=k) (by omega) (by decide) rfl ?_)
   refine AJ (by rw [HG (by omega),AE];exact jl) (stF (by omega) jl ?_)
   refine AY (AW (fun he=> ?_) fun he=> ?_)
   ·rw [if_pos (by omega)] at hK;exact hK
   ·rw [if_neg (by omega)] at hK
    exact ls (by simp) (LH hof (OF.put ho (by rw [List.length_set];exact ho.len) fun x hx=>(List.mem_or_eq_of_mem_set hx).elim (ho.fld x) fun he=>he ▸ h3)) (ho.fld _ (DS jl)) hK
def HO (os:List AU) (ws:List Wk) (id:Int):List Wk×An:=
 if AB os id<0 then (ws,⟨1,0,[]⟩) else if I8 ws<0 then (ws,⟨3,0,[]⟩) else (ws.set (I8 ws).toNat ⟨true,id⟩,⟨0,I8 ws,[]⟩)
def CX (os:List AU) (ws:List Wk) (kind k:Int):List Wk×An:=
 if ¬(0≤k∧k≤(ws.length:Int)-1) then (ws,⟨2,0,[]⟩) else
 if (wk ws k.toNat).used=false then (ws,⟨2,0,[]⟩) else
 if kind=9 then (ws.set k.toNat ⟨false,0⟩,⟨0,0,[]⟩) else
 if AB os (wk ws k.toNat).target<0 then (ws,⟨0, -1,[]⟩) else (ws,⟨0,(wk ws k.toNat).target,[]⟩)
theorem U7 {ws:List Wk} (h: ¬I8 ws<0):(I8 ws).toNat<ws.length∧I8 ws=((I8 ws).toNat:Int)∧(wk ws (I8 ws).toNat).used=false:=by
 rcases PN ws.length (fun i=> !(wk ws i).used) with ⟨h1,_⟩ | ⟨i,h1,h2,h3,_⟩
 ·unfold I8 at h;omega
 ·have e:I8 ws=i:=h2
  have e2:(I8 ws).toNat=i:=by omega
  rw [e2];exact ⟨h1,e,by simpa using h3⟩
theorem gG {os:List AU} {ws:List Wk} {c d:List T} {id:Int} {K:J2} (hol:os.length=8) (hwl:ws.length=8) (hid:F64 id) (h:K [I (HO os ws id).2.code,I (HO os ws id).2.val] [tI (HO os ws id).2.freed,tR tW (HO os ws id).1]):cl2 ⟨Try.prog,w0⟩ 147 EY.sg [I id] [tR tO os,tR tW ws,c,d] K:=by
 refine EY.cl2 ?_
 unfold EY.txt
 unfold HO at h
 simp only [AI,AO,AM,AS,AH,AE,AG,AK,AN,AP,AR,AT,AQ,AL,BD,BJ,BL,BK,BM,BN,BG,A4,AZ,A6,A8,A5,A7]
 refine V0 hwl (C5 hid (by omega) (AY (AW (fun hs=> ?_) fun hs=> ?_)))
 ·rw [if_pos hs] at h;exact CF h
 rw [if_neg hs] at h
 refine AY (AW (fun hf=> ?_) fun hf=> ?_)
 ·rw [if_pos hf] at h;exact CF h
 rw [if_neg hf] at h
 obtain ⟨f1,f2,f3⟩:=U7 hf
 simp only [AI,AO,AM,AS,AH,AE,AG,AK,AN,AP,AR,AT,AQ,AL,BD,BJ,BL,BK,BM,BN,BG,A4,AZ,A6,A8,A5,A7]
 rw [f2] at h ⊢
 rw [Int.toNat_natCast] at h
 exact AJ f1 (KF (f:=tW) f1 (y:=⟨true,id⟩) rfl h)
theorem ZS {os:List AU} {ws:List Wk} {c d:List T} {kind k:Int} {K:J2} (hol:os.length=8) (hwl:ws.length=8) (hk:F64 k) (hwf: ∀w∈ws,F64 w.target) (h:K [I (CX os ws kind k).2.code,I (CX os ws kind k).2.val] [tI (CX os ws kind k).2.freed,tR tW (CX os ws kind k).1]):cl2 ⟨Try.prog,w0⟩ 148 DX.sg [I kind,I k] [tR tO os,tR tW ws,c,d] K:=by
 refine DX.cl2 ?_
 unfold DX.txt
 unfold CX at h
 simp only [AI,AO,AM,AS,AH,AE,AG,AK,AN,AP,AR,AT,AQ,AL,BD,BJ,BL,BK,BM,BN,BG,A4,AZ,A6,A8,A5,A7]
 refine FJ ⟨by omega,by omega⟩ (HH (CQ ?_))
 by_cases hb: ¬(0≤k∧k≤(ws.length:Int)-1)
 ·rw [if_pos hb] at h
  repeat' (first | exact CF h | refine BC ?_ | refine J3 (by first | with_reducible assumption | omega) ?_ | refine C4 (by first | with_reducible assumption | omega) rfl ?_ | refine BV ?_)
 rw [if_neg hb] at h
 obtain ⟨j,rfl⟩: ∃j:Nat,k=j:=⟨k.toNat,by omega⟩
 rw [Int.toNat_natCast] at h
 have jl:j<ws.length:=by omega
 have hw:=hwf _ (List.getElem_mem jl)
 rw [XU jl] at hw
 cases hu:(wk ws j).used with
 | false=>
   rw [if_pos hu] at h
   repeat' (first | refine LY (v:= .bool false) jl (by simp [tW,hu]) ?_ | exact CF h | refine BC ?_ | refine EC (by first | with_reducible assumption | omega) ?_ | refine CZ (by first | with_reducible assumption | omega) rfl ?_ | refine BV ?_ | refine AJ (by omega) ?_ | refine B2 ?_)
 | true=>
   rw [if_neg (by rw [hu];decide)] at h
   repeat' (first | refine LY (v:= .bool true) jl (by simp [tW,hu]) ?_ | refine C5 hw (by omega) ?_ | refine BC ?_ | refine EC (by first | with_reducible assumption | omega) ?_ | refine CZ (by first | with_reducible assumption | omega) rfl ?_ | refine BU ?_ | refine AY ?_ | refine BF ?_ | refine AJ (by omega) ?_ | refine jP (by omega) (by decide) rfl ?_ | refine AW (fun _=> ?_) (fun _=> ?_) | refine B2 ?_)
   ·rename_i hh
    rw [if_pos hh] at h
    exact KF (f:=tW) jl (y:=⟨false,0⟩) rfl h
   ·rename_i hh hs
    rw [if_neg hh,if_pos hs] at h
    exact h
   ·rename_i hh hs
    rw [if_neg hh,if_neg hs] at h
    exact h
theorem ZK {os:List AU} {ws:List Wk} {cc d:List T} {kind k b c:Int} {s:ByteArray} {K:J2} (hol:os.length=8) (hwl:ws.length=8) (hk:F64 k) (hwf: ∀w∈ws,F64 w.target) (h7:kind=7→K [I (HO os ws k).2.code,I (HO os ws k).2.val] [tR tW (HO os ws k).1,tI (HO os ws k).2.freed]) (h:kind≠7→K [I (CX os ws kind k).2.code,I (CX os ws kind k).2.val] [tR tW (CX os ws kind k).1,tI (CX os ws kind k).2.freed]):cl2 ⟨Try.prog,w0⟩ 126 HU.sg [I kind,I k,I b,I c, .string s] [tR tO os,tR tW ws,cc,d] K:=by
 refine HU.cl2 ?_
 unfold HU.txt
 simp only [AI,AO,AM,AS,AH,AE,AG,AK,AN,AP,AR,AT,AQ,AL,BD,BJ,BL,BK,BM,BN,BG,A4,AZ,A6,A8,A5,A7]
 refine BF (AW (fun he=> ?_) fun he=> ?_)
 ·replace h:=h7 he
  clear h7
  unfold HO at h
  refine CW hk (by omega) (AY (AW (fun hs=> ?_) fun hs=> ?_))
  ·rw [if_pos hs] at h;exact h
  rw [if_neg hs] at h
  refine BH (fun i=>[iv i,I kind,I k,I b,I c, .string s,I 0,I 0]) (fun _=>[tR tW ws]) ws.length (fun i=> ∀j,j<i→(!(wk ws j).used)=false) rfl rfl (fun k hk=>by omega) (fun R i hi hP hR=> ?_)
  simp only [AI,AO,AM,AS,AH,AE,AG,AK,AN,AP,AR,AT,AQ,AL,BD,BJ,BL,BK,BM,BN,BG,A4,AZ,A6,A8,A5,A7]
  refine AY (AW (fun hlt=> ?_) fun hge=> ?_)
  ·have hlt:i<ws.length:=by omega
   cases hv:(wk ws i).used with
   | false=>
     refine AJ hlt (LY (v:= .bool false) hlt (by simp [tW,hv]) (B2 (BV (AJ hlt ?_))))
     unfold I8 at h
     rw [JH hlt (by rw [hv];rfl) hP,if_neg (by omega),Int.toNat_natCast] at h
     exact KF (f:=tW) hlt (y:=⟨true,k⟩) rfl h
   | true=>
     refine AJ hlt (LY (v:= .bool true) hlt (by simp [tW,hv]) (B2 (BU (BA (by omega) (hR hlt fun k hk=> ?_)))))
     rcases Nat.lt_succ_iff_lt_or_eq.1 hk with h3 | rfl
     ·exact hP k h3
     ·rw [hv];rfl
  ·have:i=ws.length:=by omega
   subst this
   unfold I8 at h
   rw [LP hP,if_pos (by decide)] at h;exact h
 ·replace h:=h he
  clear h7
  unfold CX at h
  refine FJ ⟨by omega,by omega⟩ (CN (CQ ?_))
  by_cases hb: ¬(0≤k∧k≤(ws.length:Int)-1)
  ·rw [if_pos hb] at h
   repeat' (first | exact h | refine BC ?_ | refine J3 (by first | with_reducible assumption | omega) ?_ | refine C4 (by first | with_reducible assumption | omega) rfl ?_ | refine BV ?_)
  rw [if_neg hb] at h
  obtain ⟨j,rfl⟩: ∃j:Nat,k=j:=⟨k.toNat,by omega⟩
  rw [Int.toNat_natCast] at h
  have jl:j<ws.length:=by omega
  have hw:=hwf _ (List.getElem_mem jl)
  rw [XU jl] at hw
  cases hu:(wk ws j).used with
  | false=>
    rw [if_pos hu] at h
    repeat' (first | refine LY (v:= .bool false) jl (by simp [tW,hu]) ?_ | exact h | refine BC ?_ | refine EC (by first | with_reducible assumption | omega) ?_ | refine CZ (by first | with_reducible assumption | omega) rfl ?_ | refine BV ?_ | refine AJ (by omega) ?_ | refine B2 ?_)
  | true=>
    rw [if_neg (by rw [hu];decide)] at h
    repeat' (first | refine LY (v:= .bool true) jl (by simp [tW,hu]) ?_ | refine CW hw (by omega) ?_ | refine BC ?_ | refine EC (by first | with_reducible assumption | omega) ?_ | refine CZ (by first | with_reducible assumption | omega) rfl ?_ | refine BU ?_ | refine AY ?_ | refine BF ?_ | refine AJ (by omega) ?_ | refine jP (by omega) (by decide) rfl ?_ | refine AW (fun _=> ?_) (fun _=> ?_) | refine B2 ?_)
    ·rename_i hh
     rw [if_pos hh] at h
     exact KF (f:=tW) jl (y:=⟨false,0⟩) rfl h
    ·rename_i hh hs
     rw [if_neg hh,if_pos hs] at h
     exact h
    ·rename_i hh hs
     rw [if_neg hh,if_neg hs] at h
     exact h
end Go.Proofs.Ytklmcfpgdfibnaa.P
namespace Go.Proofs.Ytklmcfpgdfibnaa.P
open Go Go.Proofs.Ytklmcfpgdfibnaa Go.Proofs.Ytklmcfpgdfibnaa.Eng
set_option linter.unusedVariables false
theorem rP (n:Int):w64 n=(n+9223372036854775808) % 18446744073709551616-9223372036854775808:=by
 simp only [w64,IntKind.wrap,IntKind.bits,IntKind.signed]
 simp
 split <;> omega
theorem NT (a b:Int):w64 (w64 a+b)=w64 (a+b):=by simp only [rP];omega
theorem lU (a:Int):F64 (w64 a):=by rw [rP];exact ⟨by omega,by omega⟩
def HT:Nat→(Nat→Int)→Int
 | 0,_=>0
 | n+1,f=>HT n f+f n
theorem L9 {n:Nat} {f g:Nat→Int} (h: ∀k,k<n→f k=g k):HT n f=HT n g:=by
 induction n with
 | zero=>rfl
 | succ n ih=>simp only [HT];rw [ih fun k hk=>h k (by omega),h n (by omega)]
theorem VE {n k0:Nat} {f g:Nat→Int} (hk:k0<n) (h: ∀k,k<n→k≠k0→f k=g k):HT n g=HT n f+(g k0-f k0):=by
 induction n with
 | zero=>omega
 | succ n ih=>
   simp only [HT]
   by_cases he:k0=n
   ·subst he
    rw [L9 (g:=g) fun k hk=>h k (by omega) (by omega)];omega
   ·rw [ih (by omega) fun k hk hne=>h k (by omega) hne,h n (by omega) (by omega)];omega
theorem nZ {n:Nat} {f g:Nat→Int}:HT n (fun k=>f k+g k)=HT n f+HT n g:=by
 induction n with
 | zero=>rfl
 | succ n ih=>simp only [HT,ih];omega
theorem KG {n:Nat} {f:Nat→Int} (h: ∀k,k<n→f k=0):HT n f=0:=by
 induction n with
 | zero=>rfl
 | succ n ih=>simp only [HT];rw [ih fun k hk=>h k (by omega),h n (by omega)];rfl
theorem MD {n:Nat} {f g:Nat→Int} (h: ∀k,k<n→f k≤g k):HT n f≤HT n g:=by
 induction n with
 | zero=>exact Int.le_refl _
 | succ n ih=>simp only [HT];have:=ih fun k hk=>h k (by omega);have:=h n (by omega);omega
theorem EE {l:List Int} {i k:Nat} {v:Int} (hk:k<l.length):gI (l.set k v) i=if i=k then v else gI l i:=by
 unfold gI
 by_cases h:i=k
 ·subst h
  rw [if_pos rfl,List.getD_eq_getElem?_getD,List.getElem?_set_self hk];rfl
 ·rw [if_neg h,List.getD_eq_getElem?_getD,List.getElem?_set_ne (Ne.symm h),List.getD_eq_getElem?_getD]
def BO (os:List AU) (k:Nat):List Int:=((ob os k).field.map (AB os)).filter fun x=>decide (0≤x)
def E (os:List AU) (k i:Nat):Int:=((BO os k).count (i:Int):Nat)
theorem CG {os:List AU} {k:Nat} {x:Int} (h:x∈BO os k):0≤x∧x.toNat<8∧x=(x.toNat:Int)∧os.length=8∧(ob os x.toNat).live=true:=by
 obtain ⟨h1,h2⟩:=List.mem_filter.1 h
 obtain ⟨f,_,rfl⟩:=List.mem_map.1 h1
 have h2:0≤AB os f:=by simpa using h2
 have:=BT h2
 exact ⟨h2,this.2.2.2.1,by omega,this.1,this.2.2.2.2.1⟩
theorem OP {os:List AU} (hof: ∀o∈os,OF o) {k:Nat} (hk:k<os.length):(BO os k).length≤3:=by
 have:=List.length_filter_le (fun x=>decide (0≤x)) ((ob os k).field.map (AB os))
 rw [List.length_map,(hof _ (JJ hk)).len] at this
 exact this
theorem P8 (os:List AU) (k i:Nat):0≤E os k i:=Int.natCast_nonneg _
theorem yV {os:List AU} {k i:Nat} (h:(i:Int)∉BO os k):E os k i=0:=by
 unfold E;rw [List.count_eq_zero.2 h];rfl
inductive Reach (os:List AU) (s:Nat):Nat→Prop
 | refl:Reach os s s
 | step {k:Nat} {j:Int}:Reach os s k→j∈BO os k→Reach os s j.toNat
theorem Reach.trans {os:List AU} {a b c:Nat} (h:Reach os a b) (g:Reach os b c):Reach os a c:=by
 induction g with
 | refl=>exact h
 | step _ hj ih=>exact .step ih hj
theorem Reach.closed {os:List AU} {P:Nat→Prop} {s k:Nat} (h:Reach os s k) (hs:P s) (hc: ∀k,P k→ ∀j∈BO os k,P j.toNat):P k:=by
 induction h with
 | refl=>exact hs
 | step _ hj ih=>exact hc _ ih _ hj
theorem Reach.lt {os:List AU} {s k:Nat} (h:Reach os s k) (hs:s<8):k<8:=h.closed (P:=fun k=>k<8) hs fun _ _ _ hj=>(CG hj).2.1
def S (os:List AU) (P:Nat→Bool) (i:Nat):Int:=HT 8 fun k=>if P k then E os k i else 0
theorem kP {os:List AU} {P Q:Nat→Bool} {i:Nat} (h: ∀k,k<8→P k=Q k):S os P i=S os Q i:=L9 fun k hk=>by rw [h k hk]
theorem qN {os:List AU} {P Q:Nat→Bool} {i k0:Nat} (hk:k0<8) (h0:P k0=false) (h1:Q k0=true) (h: ∀k,k<8→k≠k0→P k=Q k):S os Q i=S os P i+E os k0 i:=by
 unfold S
 rw [VE (n:=8) (f:=fun k=>if P k then E os k i else 0) (g:=fun k=>if Q k then E os k i else 0) hk fun k hk hne=>by rw [h k hk hne]]
 simp only [h0,h1];simp
theorem dJ {os:List AU} {P:Nat→Bool} {i:Nat}:S os P i+S os (fun k=> !P k) i=S os (fun _=>true) i:=by
 unfold S
 rw [←nZ]
 refine L9 fun k hk=> ?_
 cases h:P k <;> simp [h]
def isC (col:List Int) (c:Int) (k:Nat):Bool:=decide (gI col k=c)
theorem RI {col:List Int} {c:Int} {k s:Nat} (hs:s<col.length):isC (col.set s c) c k=(decide (k=s)||isC col c k):=by
 unfold isC
 rw [EE hs]
 by_cases h:k=s
 ·simp [h]
 ·simp [h]
def KR (col:List Int) (c:Int):Nat:=(HT 8 fun k=>if isC col c k then 0 else 1).toNat
theorem mP {a b:List Int} {c:Int} (h: ∀k,k<8→gI a k=c→gI b k=c):KR b c≤KR a c:=by
 have:HT 8 (fun k=>if isC b c k then 0 else 1)≤HT 8 (fun k=>if isC a c k then 0 else 1):=MD fun k hk=>by
  by_cases h1:gI a k=c
  ·simp [isC,h1,h k hk h1]
  ·by_cases h3:gI b k=c <;> simp [isC,h1,h3]
 unfold KR;omega
theorem MN {a b:List Int} {c:Int} {s:Nat} (hs:s<8) (h0:gI a s≠c) (h1:gI b s=c) (h: ∀k,k<8→gI a k=c→gI b k=c):KR b c<KR a c:=by
 have hle:HT 8 (fun k=>if isC b c k then 0 else 1)≤HT 8 (fun k=>if isC a c k∨k=s then 0 else 1):=MD fun k hk=>by
  by_cases h2:gI a k=c
  ·simp [isC,h2,h k hk h2]
  ·by_cases hks:k=s
   ·subst hks;simp [isC,h1]
   ·by_cases h3:gI b k=c <;> simp [isC,h2,h3,hks]
 have hu:=VE (n:=8) (k0:=s) (f:=fun k=>if isC a c k∨k=s then (0:Int) else 1) (g:=fun k=>if isC a c k then (0:Int) else 1) hs fun k hk hne=>by simp [hne]
 have e1:isC a c s=false:=by simp [isC,h0]
 simp only [e1,or_true,if_true] at hu
 have h3:0≤HT 8 (fun k=>if isC b c k then (0:Int) else 1):=by
  have:=MD (n:=8) (f:=fun _=>0) (g:=fun k=>if isC b c k then (0:Int) else 1) fun k hk=>by split <;> simp
  rw [KG (fun _ _=>rfl)] at this;exact this
 simp only [Bool.false_eq_true,if_false] at hu
 unfold KR;omega
theorem UZ (col:List Int) (c:Int):KR col c≤8:=by
 have:HT 8 (fun k=>if isC col c k then (0:Int) else 1)≤HT 8 (fun _=>1):=MD fun k hk=>by split <;> simp
 have e:HT 8 (fun _=>(1:Int))=8:=rfl
 unfold KR;omega
structure KY (os:List AU) (c m:Int) (cs col cs' col':List Int) (s:Nat):Prop where
 len:cs'.length=8∧col'.length=8
 f: ∀i,i<8→F64 (gI cs' i)
 IT: ∀k,k<8→gI col k=c→gI col' k=c
 only: ∀k,k<8→gI col' k≠c→gI col' k=gI col k
 got:gI col' s=c
 clo: ∀k,k<8→gI col' k=c→gI col k≠c→Reach os s k∧ ∀j∈BO os k,gI col' j.toNat=c
 cnt: ∀i,i<8→gI cs' i=w64 (gI cs i+m*(S os (isC col' c) i-S os (isC col c) i))
theorem KY.refl {os:List AU} {c m:Int} {cs col:List Int} {s:Nat} (h1:cs.length=8) (h2:col.length=8) (hf: ∀i,i<8→F64 (gI cs i)) (hs:gI col s=c):KY os c m cs col cs col s:=
 ⟨⟨h1,h2⟩,hf,fun _ _ h=>h,fun _ _ _=>rfl,hs,fun _ _ h1 h2=>absurd h1 h2,fun i hi=>by rw [Int.sub_self,Int.mul_zero,Int.add_zero,JK (hf i hi)]⟩
end Go.Proofs.Ytklmcfpgdfibnaa.P
