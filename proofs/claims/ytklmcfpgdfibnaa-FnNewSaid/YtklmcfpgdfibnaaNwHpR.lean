/- A part of the proof. -/
import Derived.Test.YtklmcfpgdfibnaaNwHpO
namespace Go.Proofs.Ytklmcfpgdfibnaa.P
open Go Go.Proofs.Ytklmcfpgdfibnaa Go.Proofs.Ytklmcfpgdfibnaa.Eng
set_option linter.unusedVariables false
set_option maxHeartbeats 4000000
set_option linter.unusedVariables false
set_option linter.unusedSimpArgs false
attribute [local irreducible] prP gP gE gF AV ixW ldc ldg ldl stc stg scW mkW apW BL cl2 BS EC CX
variable {w0:World}
theorem TO {os:List AU} {b c' d:List T} {cs col:List Int} {id:Int} {K:J2} (hol:os.length=8) (hof: ∀o∈os,OF o) (h1:cs.length=8) (h2:col.length=8) (hf: ∀i,i<8→F64 (gI cs i)) (hno:AB os id<0→K [] [tI cs,tI col]) (h: ∀s:Nat,AB os id=s→s<8→ ∀cs' col',I3 os 1 (-1) cs col cs' col' s→K [] [tI cs',tI col']):cl2 ⟨Try.prog,w0⟩ 57 EK.sg [I (AB os id)] [tR tO os,b,c',d,tI cs,tI col] K:=by
 refine EK.cl2 ?_
 unfold EK.txt
 refine NC (by omega) (by omega) (BO (P2 hol h1 h2 (fun hs=>BY (hno hs)) fun hs=>B6 ?_))
 have hk:=BN hs
 obtain ⟨s,hss⟩: ∃s,(AB os id).toNat=s:=⟨_,rfl⟩
 have hsI:AB os id=(s:Int):=by omega
 have hs:s<8:=hss ▸ hk.2.2.2.1
 rw [hsI]
 exact QY hol hof ⟨by omega,by omega⟩ ⟨by omega,by omega⟩ 8 (SD _ _) hs h1 h2 hf fun cs' col' p=>h s hsI hs _ _ p
def EX (os:List AU) (ct:Nat→Int) (C:Nat→Bool) (x:Nat):Prop:=w64 (ct x-S os C x)>0
structure SN (os:List AU) (ct:Nat→Int) (C:Nat→Bool) (cs col:List Int):Prop where
 len:cs.length=8∧col.length=8
 f: ∀i,i<8→F64 (gI cs i)
 rng: ∀k,k<8→gI col k=0∨gI col k=1∨gI col k=2
 out: ∀k,k<8→C k=false→gI col k=0
 cnt: ∀i,i<8→gI cs i=w64 (ct i-S os (fun k=> !isC col 0 k) i)
 blk: ∀k,k<8→C k=true→gI col k=0→(∃x,x<8∧C x=true∧EX os ct C x∧Reach os x k)∧ ∀j∈BM os k,gI col j.toNat=0
 wht: ∀k,k<8→gI col k=2→ ¬EX os ct C k
structure P7 (os:List AU) (ct:Nat→Int) (C:Nat→Bool) (col cs' col':List Int) (s:Nat):Prop where
 si:SN os ct C cs' col'
 ng: ∀k,k<8→gI col k≠1→gI col' k≠1
 got:gI col' s≠1
 wk: ∀k,k<8→gI col' k=2→gI col k=2∨ ∀j∈BM os k,gI col' j.toNat≠1
section
variable {os:List AU} {ct:Nat→Int} {C:Nat→Bool} {cs col cs' col':List Int} {s:Nat}
theorem SN.pE (h:SN os ct C cs col) (hs:s<8) (hg:gI col s=1):gI cs s>0↔EX os ct C s:=by
 have e:S os (fun k=> !isC col 0 k) s=S os C s:=by
  refine KC fun b hb=> ?_
  by_cases h0:gI col b=0
  ·have e1:isC col 0 b=true:=by simp [isC,h0]
   simp only [e1]
   cases hc:C b with
   | false=>simp
   | true=>
     have e2:E os b s=0:=qJ fun hm=>by
      have:=(h.blk b hb hc h0).2 _ hm
      rw [Int.toNat_natCast,hg] at this;omega
     simp [e2]
  ·have e1:isC col 0 b=false:=by simp [isC,h0]
   simp only [e1]
   cases hc:C b with
   | false=>exact absurd (h.out b hb hc) h0
   | true=>simp
 rw [h.cnt s hs,e];rfl
theorem SN.inC (h:SN os ct C cs col) (hs:s<8) (hg:gI col s≠0):C s=true:=by
 cases hc:C s with
 | false=>exact absurd (h.out s hs hc) hg
 | true=>rfl
theorem SN.black (h:SN os ct C cs col) (hs:s<8) (hg:gI col s=1) (he:EX os ct C s) (p:I3 os 0 1 cs col cs' col' s):P7 os ct C col cs' col' s:=by
 refine ⟨⟨p.len,p.f,fun k hk=> ?_,fun k hk hc=>p.IL k hk (h.out k hk hc),fun i hi=> ?_,fun k hk hc h0=> ?_,fun k hk h2=> ?_⟩,fun k hk h1=> ?_,by rw [p.got];decide,fun k hk h2=> .inl ?_⟩
 ·by_cases h0:gI col' k=0
  ·exact .inl h0
  ·rw [p.only k hk h0];exact h.rng k hk
 ·rw [p.cnt i hi,h.cnt i hi,LY]
  congr 1
  have e1:=YF (os:=os) (P:=isC col' 0) (i:=i)
  have e2:=YF (os:=os) (P:=isC col 0) (i:=i)
  omega
 ·by_cases h3:gI col k=0
  ·obtain ⟨g1,g2⟩:=h.blk k hk hc h3
   exact ⟨g1,fun j hj=>p.IL _ (CQ hj).2.1 (g2 j hj)⟩
  ·obtain ⟨g1,g2⟩:=p.clo k hk h0 h3
   exact ⟨⟨s,hs,h.inC hs (by omega),he,g1⟩,g2⟩
 ·have:=p.only k hk (by omega)
  exact h.wht k hk (by omega)
 ·by_cases h0:gI col' k=0
  ·omega
  ·rw [p.only k hk h0];exact h1
 ·have:=p.only k hk (by omega)
  omega
theorem SN.fZ (h:SN os ct C cs col) (hs:s<8) (hg:gI col s=1) (he: ¬EX os ct C s):SN os ct C cs (col.set s 2):=by
 have hl:=h.len
 have e: ∀k,gI (col.set s 2) k=if k=s then 2 else gI col k:=fun k=>DY (by omega)
 refine ⟨⟨hl.1,by simpa using hl.2⟩,h.f,fun k hk=> ?_,fun k hk hc=> ?_,fun i hi=> ?_,fun k hk hc h0=> ?_,fun k hk h2=> ?_⟩
 ·rw [e];split
  ·exact .inr (.inr rfl)
  ·exact h.rng k hk
 ·rw [e];split
  ·rename_i hks;subst hks;have:=h.out k hk hc;omega
  ·exact h.out k hk hc
 ·rw [h.cnt i hi]
  congr 2
  refine gT fun k hk=> ?_
  simp only [isC,e]
  split
  ·rename_i hks;subst hks;simp [hg]
  ·rfl
 ·rw [e] at h0
  split at h0
  ·omega
  ·obtain ⟨g1,g2⟩:=h.blk k hk hc h0
   refine ⟨g1,fun j hj=> ?_⟩
   rw [e];split
   ·rename_i hjs;have:=g2 j hj;rw [hjs] at this;omega
   ·exact g2 j hj
 ·rw [e] at h2
  split at h2
  ·rename_i hks;subst hks;exact he
  ·exact h.wht k hk h2
theorem SN.same (h:SN os ct C cs col) (hg:gI col s≠1):P7 os ct C col cs col s:=⟨h,fun _ _ h=>h,hg,fun _ _ h=> .inl h⟩
end
structure OK (os:List AU) (ct:Nat→Int) (C:Nat→Bool) (col:List Int) (s:Nat) (q:Nat×List Int×List Int):Prop where
 j:q.1≤(BM os s).length
 si:SN os ct C q.2.1 q.2.2
 ng: ∀k,k<8→gI col k≠1∨k=s→gI q.2.2 k≠1
 wk: ∀k,k<8→k≠s→gI q.2.2 k=2→gI col k=2∨ ∀j∈BM os k,gI q.2.2 j.toNat≠1
 done: ∀x∈(BM os s).take q.1,gI q.2.2 x.toNat≠1
section
variable {os:List AU} {ct:Nat→Int} {C:Nat→Bool} {cs col cs1 col1 cs2 col2:List Int} {s j:Nat}
theorem OK.start (h:SN os ct C cs col) (hs:s<8) (hg:gI col s=1) (he: ¬EX os ct C s):OK os ct C col s (0,cs,col.set s 2):=by
 have hl:=h.len
 have e: ∀k,gI (col.set s 2) k=if k=s then 2 else gI col k:=fun k=>DY (by omega)
 refine ⟨Nat.zero_le _,h.fZ hs hg he,fun k hk hh=> ?_,fun k hk hne h2=> ?_,fun x hx=>by simp at hx⟩
 ·simp only;rw [e];split
  ·decide
  ·rename_i hh2;exact hh.resolve_right hh2
 ·simp only at h2;rw [e,if_neg hne] at h2;exact .inl h2
theorem OK.step (h:OK os ct C col s (j,cs1,col1)) (hj:j<(BM os s).length) (p:P7 os ct C col1 cs2 col2 (gI (BM os s) j).toNat):OK os ct C col s (j+1,cs2,col2):=by
 refine ⟨by simp only;omega,p.si,fun k hk hh=>p.ng k hk (h.ng k hk hh),fun k hk hne h2=> ?_,fun x hx=> ?_⟩
 ·rcases p.wk k hk h2 with h3 | h3
  ·exact (h.wk k hk hne h3).imp_right fun g y hy=>p.ng _ (CQ hy).2.1 (g y hy)
  ·exact .inr h3
 ·simp only at hx ⊢
  rw [List.take_succ_eq_append_getElem hj,List.mem_append,List.mem_singleton] at hx
  rcases hx with hx | rfl
  ·exact p.ng _ (CQ (List.mem_of_mem_take hx)).2.1 (h.done x hx)
  ·rw [EE hj];exact p.got
theorem OK.stop (hs:s<8) (h:OK os ct C col s ((BM os s).length,cs1,col1)):P7 os ct C col cs1 col1 s:=by
 refine ⟨h.si,fun k hk hh=>h.ng k hk (.inl hh),h.ng s hs (.inr rfl),fun k hk h2=> ?_⟩
 by_cases hks:k=s
 ·subst hks
  exact .inr fun y hy=>h.done y (by simp only;rw [List.take_length];exact hy)
 ·exact h.wk k hk hks h2
end
theorem a7 {os:List AU} {b c' d:List T} {ct:Nat→Int} {C:Nat→Bool} (hol:os.length=8) (hof: ∀o∈os,OF o): ∀(n:Nat) {cs col:List Int} {s:Nat} {K:J2},8-I2 col 1≤n→s<8→SN os ct C cs col→(∀cs' col',P7 os ct C col cs' col' s→K [] [tI cs',tI col'])→cl2 ⟨Try.prog,w0⟩ 117 CB.sg [I s] [tI cs,tI col,tR tO os,b,c',d] K:=by
 intro n
 induction n with
 | zero=>
   intro cs col s K hn hs si h
   have hl:=si.len
   have:gI col s≠1:=fun hg=>by
    have:=KL (a:=col.set s 2) (b:=col) (c:=1) hs (by rw [DY (by omega)];simp) hg fun k hk hh=>by
     rw [DY (by omega)] at hh
     split at hh
     ·omega
     ·exact hh
    have:=SD (col.set s 2) 1
    omega
   refine CB.cl2 ?_
   unfold CB.txt
   simp only [AG,AK,AN,AM,AI,AD,AE,AP,AO,AJ,AQ,AR,AL,AH,BE,BJ,BH,BG,BK,BI,BF,A4,A8,A7,A6,A5,AZ]
   refine AS (by omega) (ldI (by omega) (CN (DC this (h _ _ (si.same this)))))
 | succ n ih=>
   intro cs col s K hn hs si h
   have hl:=si.len
   refine CB.cl2 ?_
   unfold CB.txt
   simp only [AG,AK,AN,AM,AI,AD,AE,AP,AO,AJ,AQ,AR,AL,AH,BE,BJ,BH,BG,BK,BI,BF,A4,A8,A7,A6,A5,AZ]
   refine AS (by omega) (ldI (by omega) (CN (AW (fun hg=>h _ _ (si.same hg)) fun hg=> ?_)))
   have hg:gI col s=1:=Decidable.not_not.1 hg
   refine AS (by omega) (ldI (by omega) (IJ (AW (fun he=> ?_) fun he=> ?_)))
   ·have he:=(si.pE hs hg).1 he
    exact QY hol hof ⟨by omega,by omega⟩ ⟨by omega,by omega⟩ 8 (SD _ _) hs hl.1 hl.2 si.f fun cs' col' p=>h _ _ (si.black hs hg he p)
   have he:=fun hx=>he ((si.pE hs hg).2 hx)
   refine AS (by omega) (WK (v:=2) (by omega) (OV hol hof hs ?_))
   have hkl:=MZ hof (k:=s) (by omega)
   refine EI (α:=Nat×List Int×List Int) (fun q=>[iv (BM os s).length,iv q.1]) (fun q=>[tI (BM os s),tI q.2.1,tI q.2.2]) (fun q=>(BM os s).length-q.1) (OK os ct C col s) (0,cs,col.set s 2) (by simp only [AG,AK,AN,AM,AI,AD,AE,AP,AO,AJ,AQ,AR,AL,AH,BE,BJ,BH,BG,BK,BI,BF,A4,A8,A7,A6,A5,AZ];rfl) rfl (OK.start si hs hg he) (fun R q hq hR=> ?_)
   obtain ⟨j,cs1,col1⟩:=q
   have hj:=hq.j
   simp only at hj
   simp only [AG,AK,AN,AM,AI,AD,AE,AP,AO,AJ,AQ,AR,AL,AH,BE,BJ,BH,BG,BK,BI,BF,A4,A8,A7,A6,A5,AZ]
   refine AX (AW (fun hlt=> ?_) fun hge=> ?_)
   ·have hlt:j<(BM os s).length:=by omega
    obtain ⟨x1,x2,x3,_⟩:=CQ (DV hlt)
    have hmiss:8-I2 col1 1≤n:=by
     have:=KL (a:=col1) (b:=col) (c:=1) hs (hq.ng s hs (.inr rfl)) hg fun k hk hh=>by
      by_cases h3:gI col k=1
      ·exact h3
      ·exact absurd hh (hq.ng k hk (.inl h3))
     have:=SD col1 1
     omega
    have stp:=fun cs2 col2=>OK.step (cs2:=cs2) (col2:=col2) hq hlt
    obtain ⟨x,hx⟩: ∃x,(gI (BM os s) j).toNat=x:=⟨_,rfl⟩
    rw [hx] at x2 x3 stp
    refine AS hlt (ldI hlt ?_)
    rw [x3]
    refine ih hmiss x2 hq.si fun cs2 col2 p=> ?_
    exact BA (by omega) (hR (j+1,cs2,col2) (stp _ _ p) (by simp only;omega))
   ·have:j=(BM os s).length:=by omega
    subst this
    exact h _ _ (OK.stop hs hq)
end Go.Proofs.Ytklmcfpgdfibnaa.P
namespace Go.Proofs.Ytklmcfpgdfibnaa.P
open Go Go.Proofs.Ytklmcfpgdfibnaa Go.Proofs.Ytklmcfpgdfibnaa.Eng
set_option linter.unusedVariables false
set_option maxHeartbeats 4000000
set_option linter.unusedVariables false
set_option linter.unusedSimpArgs false
attribute [local irreducible] prP gP gE gF AV ixW ldc ldg ldl stc stg scW mkW apW BL cl2 BS EC CX
variable {w0:World}
theorem TP {os:List AU} {b c' d:List T} {cs col:List Int} {ct:Nat→Int} {C:Nat→Bool} {id:Int} {K:J2} (hol:os.length=8) (hof: ∀o∈os,OF o) (si:SN os ct C cs col) (hno:AB os id<0→K [] [tI cs,tI col]) (h: ∀s:Nat,AB os id=s→s<8→ ∀cs' col',P7 os ct C col cs' col' s→K [] [tI cs',tI col']):cl2 ⟨Try.prog,w0⟩ 59 EN.sg [I (AB os id)] [tR tO os,b,c',d,tI cs,tI col] K:=by
 have hl:=si.len
 refine EN.cl2 ?_
 unfold EN.txt
 refine NC (by omega) (by omega) (BO (P2 hol hl.1 hl.2 (fun hs=>BY (hno hs)) fun hs=>B6 ?_))
 have hk:=BN hs
 obtain ⟨s,hss⟩: ∃s,(AB os id).toNat=s:=⟨_,rfl⟩
 have hsI:AB os id=(s:Int):=by omega
 have hs:s<8:=hss ▸ hk.2.2.2.1
 rw [hsI]
 exact a7 hol hof 8 (by omega) hs si fun cs' col' p=>h s hsI hs _ _ p
structure LF (os:List AU) (ct:Nat→Int) (C:Nat→Bool) (col0:List Int) (s:Nat) (todo cs col:List Int):Prop where
 si:SN os ct C cs col
 ng: ∀k,k<8→gI col0 k≠1→gI col k≠1
 wk: ∀k,k<8→gI col k=2→gI col0 k=2∨ ∀j∈BM os k,gI col j.toNat≠1∨j∈todo
 got:gI col s≠1∨(s:Int)∈todo
 td: ∀x∈todo,0≤x∧x.toNat<8
 sz:todo.length+4*(8-I2 col 1)≤40
section
variable {os:List AU} {ct:Nat→Int} {C:Nat→Bool} {col0 cs col cs' col' todo:List Int} {s k:Nat}
theorem LF.stop (h:LF os ct C col0 s [] cs col):P7 os ct C col0 cs col s:=
 ⟨h.si,h.ng,h.got.resolve_right (by simp),fun k hk h2=>(h.wk k hk h2).imp_right fun g j hj=>(g j hj).resolve_right (by simp)⟩
theorem PH {x:Int} (hl:todo.length>0) (hk:gI todo (todo.length-1)=(k:Int)) (h:x∈todo):x∈todo.dropLast∨x=(k:Int):=by
 rw [XN hl,List.mem_append,List.mem_singleton,hk] at h;exact h
theorem LF.drop (h:LF os ct C col0 s todo cs col) (hl:todo.length>0) (hk:gI todo (todo.length-1)=(k:Int)) (hc:gI col k≠1):LF os ct C col0 s todo.dropLast cs col:=by
 refine ⟨h.si,h.ng,fun x hx h2=>(h.wk x hx h2).imp_right fun g j hj=> ?_, ?_,fun x hx=>h.td x (List.dropLast_subset _ hx),by have:=h.sz;rw [List.length_dropLast];omega⟩
 ·rcases g j hj with g | g
  ·exact .inl g
  ·rcases PH hl hk g with g | rfl
   ·exact .inr g
   ·rw [Int.toNat_natCast];exact .inl hc
 ·rcases h.got with g | g
  ·exact .inl g
  ·rcases PH hl hk g with g | g
   ·exact .inr g
   ·have:s=k:=by omega
    subst this;exact .inl hc
theorem LF.black (h:LF os ct C col0 s todo cs col) (hl:todo.length>0) (hk:gI todo (todo.length-1)=(k:Int)) (p:P7 os ct C col cs' col' k):LF os ct C col0 s todo.dropLast cs' col':=by
 have hm:I2 col 1≤I2 col' 1:=gA (a:=col') (b:=col) fun y hy h1=>Decidable.byContradiction fun hh=>p.ng y hy hh h1
 refine ⟨p.si,fun x hx h1=>p.ng x hx (h.ng x hx h1),fun x hx h2=> ?_, ?_,fun x hx=>h.td x (List.dropLast_subset _ hx),by have:=h.sz;rw [List.length_dropLast];omega⟩
 ·rcases p.wk x hx h2 with h3 | h3
  ·refine (h.wk x hx h3).imp_right fun g j hj=> ?_
   rcases g j hj with g | g
   ·exact .inl (p.ng _ (CQ hj).2.1 g)
   ·rcases PH hl hk g with g | rfl
    ·exact .inr g
    ·rw [Int.toNat_natCast];exact .inl p.got
  ·exact .inr fun j hj=> .inl (h3 j hj)
 ·rcases h.got with g | g
  ·by_cases hs:s<8
   ·exact .inl (p.ng s hs g)
   ·have e:gI col' s=0:=by
     unfold gI;rw [List.getD_eq_getElem?_getD,List.getElem?_eq_none (by have:=p.si.len.2;omega)];rfl
    rw [e];exact .inl (by decide)
  ·rcases PH hl hk g with g | g
   ·exact .inr g
   ·have:s=k:=by omega
    subst this;exact .inl p.got
theorem LF.fZ (hof: ∀o∈os,OF o) (hol:os.length=8) (h:LF os ct C col0 s todo cs col) (hl:todo.length>0) (hk:gI todo (todo.length-1)=(k:Int)) (k8:k<8) (hg:gI col k=1) (he: ¬EX os ct C k):LF os ct C col0 s (todo.dropLast++BM os k) cs (col.set k 2)∧(todo.dropLast++BM os k).length+4*(8-I2 (col.set k 2) 1)<todo.length+4*(8-I2 col 1):=by
 have hlen:=h.si.len
 have e: ∀x,gI (col.set k 2) x=if x=k then 2 else gI col x:=fun x=>DY (by omega)
 have n1: ∀x,gI col x≠1∨x=k→gI (col.set k 2) x≠1:=fun x hx=>by
  rw [e];split
  ·decide
  ·rename_i hh;exact hx.resolve_right hh
 have hkl:=MZ hof (k:=k) (by omega)
 have hm:I2 col 1<I2 (col.set k 2) 1:=KL (a:=col.set k 2) (b:=col) k8 (n1 k (.inr rfl)) hg fun y hy h1=>Decidable.byContradiction fun hh=>n1 y (.inl hh) h1
 have hm8:=SD (col.set k 2) 1
 have hsz:=h.sz
 refine ⟨⟨h.si.fZ k8 hg he,fun x hx h1=>n1 x (.inl (h.ng x hx h1)),fun x hx h2=> ?_, ?_,fun x hx=> ?_,by rw [List.length_append,List.length_dropLast];omega⟩,by rw [List.length_append,List.length_dropLast];omega⟩
 ·by_cases hxk:x=k
  ·subst hxk
   exact .inr fun j hj=> .inr (List.mem_append_right _ hj)
  ·rw [e,if_neg hxk] at h2
   refine (h.wk x hx h2).imp_right fun g j hj=> ?_
   rcases g j hj with g | g
   ·exact .inl (n1 _ (.inl g))
   ·rcases PH hl hk g with g | rfl
    ·exact .inr (List.mem_append_left _ g)
    ·rw [Int.toNat_natCast];exact .inl (n1 _ (.inr rfl))
 ·rcases h.got with g | g
  ·exact .inl (n1 _ (.inl g))
  ·rcases PH hl hk g with g | g
   ·exact .inr (List.mem_append_left _ g)
   ·exact .inl (n1 _ (.inr (by omega)))
 ·rcases List.mem_append.1 hx with hx | hx
  ·exact h.td x (List.dropLast_subset _ hx)
  ·exact ⟨(CQ hx).1,(CQ hx).2.1⟩
theorem LF.start (si:SN os ct C cs col) (hs:s<8):LF os ct C col s [(s:Int)] cs col:=
 ⟨si,fun _ _ h=>h,fun _ _ h=> .inl h, .inr (by simp),fun x hx=>by have hx:x=(s:Int):=by simpa using hx
                                                                  subst hx;rw [Int.toNat_natCast];exact ⟨by omega,hs⟩,by simp only [List.length_singleton];omega⟩
end
theorem TC {os:List AU} {b c' d:List T} {cs col:List Int} {ct:Nat→Int} {C:Nat→Bool} {id:Int} {K:J2} (hol:os.length=8) (hof: ∀o∈os,OF o) (si:SN os ct C cs col) (hno:AB os id<0→K [] [tI cs,tI col]) (h: ∀s:Nat,AB os id=s→s<8→ ∀cs' col',P7 os ct C col cs' col' s→K [] [tI cs',tI col']):cl2 ⟨Try.prog,w0⟩ 157 ES.sg [I (AB os id)] [tR tO os,b,c',d,tI cs,tI col] K:=by
 have hl:=si.len
 refine ES.cl2 ?_
 unfold ES.txt
 refine P1 (by omega) (by omega) (S8 hol hl.1 hl.2 (fun hs=>CT (B6 (hno hs))) fun hs=> ?_)
 have hk:=BN hs
 obtain ⟨s,hss⟩: ∃s,(AB os id).toNat=s:=⟨_,rfl⟩
 have hsI:AB os id=(s:Int):=by omega
 have hs:s<8:=hss ▸ hk.2.2.2.1
 replace h:=h s hsI hs
 clear hno
 rw [hsI]
 refine CT (BY ?_)
 refine EI (α:=List Int×Nat×List Int×List Int×List Int) (fun q=>[iv q.2.2.1.length,iv q.2.1]) (fun q=>[tI q.1,tI q.2.2.2.1,tI q.2.2.2.2]) (fun q=>q.2.2.1.length+4*(8-I2 q.2.2.2.2 1)) (fun q=>Vw q.1 q.2.1 q.2.2.1∧LF os ct C col s q.2.2.1 q.2.2.2.1 q.2.2.2.2) ([(s:Int)],0,[(s:Int)],cs,col) rfl rfl ⟨Vw.new _,LF.start si hs⟩ (fun R q hq hR=> ?_)
 obtain ⟨row,off,todo,cs1,col1⟩:=q
 obtain ⟨vw,wk⟩:=hq
 simp only at vw wk
 have hsz:=wk.sz
 have hbd:=vw.bd
 have hlen:=wk.si.len
 simp only [AG,AK,AN,AM,AI,AD,AE,AP,AO,AJ,AQ,AR,AL,AH,BE,BJ,BH,BG,BK,BI,BF,A4,A8,A7,A6,A5,AZ]
 simp only [AY]
 refine IJ (AW (fun hlt=> ?_) fun hge=> ?_)
 ·have hlt:todo.length>0:=by omega
  obtain ⟨k,hk⟩: ∃k,(gI todo (todo.length-1)).toNat=k:=⟨_,rfl⟩
  have ht:=wk.td _ (DV (l:=todo) (i:=todo.length-1) (by omega))
  have e1:gI todo (todo.length-1)=(k:Int):=by omega
  have k8:k<8:=hk ▸ ht.2
  have ev:((todo.length:Int)-1)=((todo.length-1:Nat):Int):=by omega
  refine H8 ⟨by omega,by omega⟩ ?_
  rw [ev]
  refine AS (by omega) ?_
  have eg:=vw.get (j:=todo.length-1) (by omega)
  have el:ldc (tI row) [] (off+AA (iv (todo.length-1))*1)=ldc (tI row) [] (AA (iv (off+(todo.length-1)))*1):=by rw [AY,AY];congr 1;omega
  rw [el]
  refine ldI (by omega) ?_
  rw [eg,e1]
  refine H8 ⟨by omega,by omega⟩ ?_
  rw [ev]
  have kc:k<cs1.length:=by omega
  have kl:k<col1.length:=by omega
  have le:todo.dropLast.length=todo.length-1:=List.length_dropLast
  refine cB (by omega) (AS kl (ldI kl (CN (AW (fun hg=> ?_) fun hg=> ?_))))
  ·have:=hR (row,off,todo.dropLast,cs1,col1) ⟨vw.pop,wk.drop hlt e1 hg⟩ (by simp only;omega)
   simp only [le] at this
   simp only [AY,Nat.zero_mul,Nat.add_zero]
   exact this
  have hg:gI col1 k=1:=Decidable.not_not.1 hg
  refine AS kc (ldI kc (IJ (AW (fun he=> ?_) fun he=> ?_)))
  ·have he:=(wk.si.pE k8 hg).1 he
   refine VD hol hof k8 hlen.1 hlen.2 wk.si.f (by omega) fun cs' col' p=> ?_
   have sr:=wk.si.black k8 hg he p
   have hm:I2 col1 1≤I2 col' 1:=gA (a:=col') (b:=col1) fun y hy h1=>Decidable.byContradiction fun hh=>sr.ng y hy hh h1
   have:=hR (row,off,todo.dropLast,cs',col') ⟨vw.pop,wk.black hlt e1 sr⟩ (by simp only;omega)
   simp only [le] at this
   simp only [AY,Nat.zero_mul,Nat.add_zero]
   exact this
  ·have he:=fun hx=>he ((wk.si.pE k8 hg).2 hx)
   have hkl:=MZ hof (k:=k) (by omega)
   obtain ⟨w1,w2⟩:=wk.fZ hof hol hlt e1 k8 hg he
   refine AS kl (WK (v:=2) kl (ME hol hof k8 ?_))
   simp only [AG,AK,AN,AM,AI,AD,AE,AP,AO,AJ,AQ,AR,AL,AH,BE,BJ,BH,BG,BK,BI,BF,A4,A8,A7,A6,A5,AZ]
   simp only [AY,Nat.zero_mul,Nat.add_zero,Nat.mul_one,ON]
   refine EH (LZ _) (by omega) ?_
   have ep:=vw.pop.vw
   rw [le] at ep
   rw [ep]
   have:=hR (todo.dropLast++BM os k,0,todo.dropLast++BM os k,cs1,col1.set k 2) ⟨Vw.new _,w1⟩ w2
   have ea:tI todo.dropLast++tI (BM os k)=tI (todo.dropLast++BM os k):=by simp [tI]
   rw [ea,AD]
   exact this
 ·have:todo=[]:=List.length_eq_zero_iff.1 (by omega)
  subst this
  exact h _ _ wk.stop
end Go.Proofs.Ytklmcfpgdfibnaa.P
namespace Go.Proofs.Ytklmcfpgdfibnaa.P
open Go Go.Proofs.Ytklmcfpgdfibnaa Go.Proofs.Ytklmcfpgdfibnaa.Eng
set_option linter.unusedVariables false
def RB (os:List AU) (ids:List Int) (k:Nat):Prop:= ∃b∈ids, ∃s:Nat,AB os b=(s:Int)∧Reach os s k
theorem RB.next {os:List AU} {ids:List Int} {k:Nat} {j:Int} (h:RB os ids k) (hj:j∈BM os k):RB os ids j.toNat:=by
 obtain ⟨b,hb,s,hs,hr⟩:=h
 exact ⟨b,hb,s,hs, .step hr hj⟩
theorem RB.lt {os:List AU} {ids:List Int} {k:Nat} (h:RB os ids k):k<8:=by
 obtain ⟨b,_,s,hs,hr⟩:=h
 have:=BN (l:=os) (id:=b) (by omega)
 exact hr.lt (by omega)
theorem RB.snoc {os:List AU} {ids:List Int} {b:Int} {k:Nat}:RB os (ids++[b]) k↔RB os ids k∨ ∃s:Nat,AB os b=(s:Int)∧Reach os s k:=by
 constructor
 ·rintro ⟨x,hx,h⟩
  rcases List.mem_append.1 hx with hx | hx
  ·exact .inl ⟨x,hx,h⟩
  ·have hx:x=b:=by simpa using hx
   subst hx;exact .inr h
 ·rintro (⟨x,hx,h⟩ | h)
  ·exact ⟨x,List.mem_append_left _ hx,h⟩
  ·exact ⟨b,by simp,h⟩
structure MK (os:List AU) (ct:Nat→Int) (ids:List Int) (cs col:List Int):Prop where
 len:cs.length=8∧col.length=8
 f: ∀i,i<8→F64 (gI cs i)
 one: ∀k,k<8→gI col k=1→RB os ids k
 zero: ∀k,k<8→gI col k≠1→gI col k=0∧ ¬RB os ids k
 cnt: ∀i,i<8→gI cs i=w64 (ct i-S os (isC col 1) i)
section
variable {os:List AU} {ct:Nat→Int} {ids:List Int} {cs col cs' col':List Int} {b:Int} {s:Nat}
theorem MK.none (h:MK os ct ids cs col) (hb:AB os b<0):MK os ct (ids++[b]) cs col:=by
 refine ⟨h.len,h.f,fun k hk h1=>RB.snoc.2 (.inl (h.one k hk h1)),fun k hk h1=>⟨(h.zero k hk h1).1,fun hr=> ?_⟩,h.cnt⟩
 rcases RB.snoc.1 hr with hr | ⟨s,hs,_⟩
 ·exact (h.zero k hk h1).2 hr
 ·omega
theorem MK.some (h:MK os ct ids cs col) (hb:AB os b=(s:Int)) (hs:s<8) (p:I3 os 1 (-1) cs col cs' col' s):MK os ct (ids++[b]) cs' col':=by
 have cl: ∀k,Reach os s k→k<8∧gI col' k=1:=fun k hr=>hr.closed (P:=fun k=>k<8∧gI col' k=1) ⟨hs,p.got⟩ fun x hx j hj=>by
  refine ⟨(CQ hj).2.1, ?_⟩
  by_cases h1:gI col x=1
  ·refine p.IL _ (CQ hj).2.1 (Decidable.byContradiction fun hn=> ?_)
   exact (h.zero _ (CQ hj).2.1 hn).2 ((h.one x hx.1 h1).next hj)
  ·exact (p.clo x hx.1 hx.2 h1).2 j hj
 refine ⟨p.len,p.f,fun k hk h1=>RB.snoc.2 ?_,fun k hk h1=> ?_,fun i hi=> ?_⟩
 ·by_cases h0:gI col k=1
  ·exact .inl (h.one k hk h0)
  ·exact .inr ⟨s,hb,(p.clo k hk h1 h0).1⟩
 ·have e:=p.only k hk h1
  have h2:gI col k≠1:=by rw [←e];exact h1
  obtain ⟨z1,z2⟩:=h.zero k hk h2
  refine ⟨by rw [e];exact z1,fun hr=> ?_⟩
  rcases RB.snoc.1 hr with hr | ⟨s',hs',hr⟩
  ·exact z2 hr
  ·have:s'=s:=by omega
   subst this
   exact h1 (cl k hr).2
 ·rw [p.cnt i hi,h.cnt i hi,LY]
  congr 1
  omega
end
open Classical in
noncomputable def PZ (os:List AU) (buf:List Int) (k:Nat):Bool:=decide (RB os buf k)
def Out (os:List AU) (ct:Nat→Int) (buf:List Int) (x:Nat):Prop:=x<8∧RB os buf x∧EX os ct (PZ os buf) x
open Classical in
noncomputable def KX (os:List AU) (ct:Nat→Int) (buf:List Int) (k:Nat):Bool:=decide (RB os buf k∧ ¬ ∃x,Out os ct buf x∧Reach os x k)
theorem V4 {os:List AU} {buf:List Int} {k:Nat}:PZ os buf k=true↔RB os buf k:=by unfold PZ;simp
theorem YH {os:List AU} {buf:List Int} {k:Nat}:PZ os buf k=false↔ ¬RB os buf k:=by unfold PZ;simp
theorem LB {os:List AU} {ct:Nat→Int} {buf:List Int} {k:Nat}:KX os ct buf k=true↔RB os buf k∧ ¬ ∃x,Out os ct buf x∧Reach os x k:=by unfold KX;simp
structure SC (os:List AU) (ct:Nat→Int) (buf:List Int) (ids:List Int) (cs col:List Int):Prop where
 si:SN os ct (PZ os buf) cs col
 got: ∀b∈ids, ∀s:Nat,AB os b=(s:Int)→gI col s≠1
 wk: ∀k,k<8→gI col k=2→ ∀j∈BM os k,gI col j.toNat≠1
section
variable {os:List AU} {ct:Nat→Int} {buf ids:List Int} {cs col cs' col':List Int} {b:Int} {s:Nat}
theorem SC.start (h:MK os ct buf cs col):SC os ct buf [] cs col:=by
 refine ⟨⟨h.len,h.f,fun k hk=> ?_,fun k hk hc=> ?_,fun i hi=> ?_,fun k hk hc h0=> ?_,fun k hk h2=> ?_⟩,fun b hb=>by simp at hb,fun k hk h2=> ?_⟩
 ·by_cases h1:gI col k=1
  ·exact .inr (.inl h1)
  ·exact .inl (h.zero k hk h1).1
 ·exact (h.zero k hk fun h1=>YH.1 hc (h.one k hk h1)).1
 ·rw [h.cnt i hi]
  congr 2
  refine gT fun k hk=> ?_
  by_cases h1:gI col k=1
  ·simp [isC,h1]
  ·simp [isC,(h.zero k hk h1).1]
 ·exact absurd (V4.1 hc) (h.zero k hk (by omega)).2
 ·have:=(h.zero k hk (by omega)).1;omega
 ·have:=(h.zero k hk (by omega)).1;omega
theorem SC.none (h:SC os ct buf ids cs col) (hb:AB os b<0):SC os ct buf (ids++[b]) cs col:=
 ⟨h.si,fun x hx s hs=>by
   rcases List.mem_append.1 hx with hx | hx
   ·exact h.got x hx s hs
   ·have hx:x=b:=by simpa using hx
    subst hx;omega,h.wk⟩
theorem SC.some (h:SC os ct buf ids cs col) (hb:AB os b=(s:Int)) (hs:s<8) (p:P7 os ct (PZ os buf) col cs' col' s):SC os ct buf (ids++[b]) cs' col':=by
 refine ⟨p.si,fun x hx t ht=> ?_,fun k hk h2=> ?_⟩
 ·rcases List.mem_append.1 hx with hx | hx
  ·have:=BN (l:=os) (id:=x) (by omega)
   exact p.ng t (by omega) (h.got x hx t ht)
  ·have hx:x=b:=by simpa using hx
   subst hx
   have:t=s:=by omega
   subst this;exact p.got
 ·rcases p.wk k hk h2 with h3 | h3
  ·exact fun j hj=>p.ng _ (CQ hj).2.1 (h.wk k hk h3 j hj)
  ·exact h3
theorem SC.stop (h:SC os ct buf buf cs col): ∀k,k<8→(gI col k=2↔KX os ct buf k=true):=by
 have ng: ∀k,RB os buf k→gI col k≠1:=fun k hr=>by
  obtain ⟨b,hb,s,hs,hr⟩:=hr
  have hb8:=BN (l:=os) (id:=b) (by omega)
  have:=hr.closed (P:=fun k=>(k<8∧RB os buf k)∧gI col k≠1) ⟨⟨by omega,b,hb,s,hs, .refl⟩,h.got b hb s hs⟩ fun x hx j hj=>by
   refine ⟨⟨(CQ hj).2.1,hx.1.2.next hj⟩, ?_⟩
   rcases h.si.rng x hx.1.1 with h0 | h1 | h2
   ·have:=(h.si.blk x hx.1.1 (V4.2 hx.1.2) h0).2 j hj;omega
   ·exact absurd h1 hx.2
   ·exact h.wk x hx.1.1 h2 j hj
  exact this.2
 intro k hk
 rw [LB]
 constructor
 ·intro h2
  have hr:RB os buf k:=Classical.byContradiction fun hn=>by
   have:=h.si.out k hk (YH.2 hn);omega
  refine ⟨hr, ?_⟩
  rintro ⟨x,⟨hx8,hx,he⟩,hxk⟩
  have:=hxk.closed (P:=fun k=>(k<8∧RB os buf k)∧gI col k=0) ⟨⟨hx8,hx⟩,by
   rcases h.si.rng x hx8 with h0 | h1 | h2
   ·exact h0
   ·exact absurd h1 (ng x hx)
   ·exact absurd he (h.si.wht x hx8 h2)⟩ fun y hy j hj=>⟨⟨(CQ hj).2.1,hy.1.2.next hj⟩,(h.si.blk y hy.1.1 (V4.2 hy.1.2) hy.2).2 j hj⟩
  omega
 ·rintro ⟨hr,hn⟩
  rcases h.si.rng k hk with h0 | h1 | h2
  ·obtain ⟨x,x8,xc,xe,xr⟩:=(h.si.blk k hk (V4.2 hr) h0).1
   exact absurd ⟨x,⟨x8,V4.1 xc,xe⟩,xr⟩ hn
  ·exact absurd h1 (ng k hr)
  ·exact h2
end
def mk8 (f:Nat→AU):List AU:=(List.range 8).map f
theorem CH (f:Nat→AU):(mk8 f).length=8:=by simp [mk8]
theorem HI {f:Nat→AU} {i:Nat} (h:i<8):ob (mk8 f) i=f i:=by
 rw [←DH (by rw [CH];exact h)];simp [mk8]
theorem IU {f g:Nat→AU} (h: ∀i,i<8→f i=g i):mk8 f=mk8 g:=List.map_congr_left fun i hi=>h i (List.mem_range.1 hi)
theorem U8 {os:List AU} (h:os.length=8):os=mk8 (ob os):=by
 apply List.ext_getElem (by rw [CH,h])
 intro i h1 h2
 rw [DH h1,DH h2,HI (by omega)]
theorem NM {f:Nat→AU} {k:Nat} {v:AU} (hk:k<8):(mk8 f).set k v=mk8 fun i=>if i=k then v else f i:=by
 apply List.ext_getElem (by simp [CH])
 intro i h1 h2
 have hi:i<8:=by rw [CH] at h2;exact h2
 rw [DH h1,DH h2,FQ (by rw [CH];exact hk),HI hi,HI hi]
theorem ZI {f:Nat→AU} {o:AU} (h:o∈mk8 f): ∃i,i<8∧o=f i:=by
 obtain ⟨i,hi,rfl⟩:=List.mem_map.1 h
 exact ⟨i,List.mem_range.1 hi,rfl⟩
theorem O1 {a b:List AU} {id:Int} (hl:a.length=b.length) (h: ∀i,i<a.length→(ob a i).live=(ob b i).live∧(ob a i).field=(ob b i).field):CD a id=CD b id:=by
 unfold CD
 congr 1
 apply List.ext_getElem (by simp [hl])
 intro i h1 h2
 simp only [List.length_map] at h1 h2
 rw [List.getElem_map,List.getElem_map,DH h1,DH h2]
 unfold M7
 rw [(h i h1).1,(h i h1).2]
theorem kU {a b:List AU} {s:Int} (hl:a.length=b.length) (h: ∀i,i<a.length→(ob a i).live=(ob b i).live∧(ob a i).gen=(ob b i).gen∧(ob a i).field=(ob b i).field):inE a s=inE b s:=by
 unfold inE
 by_cases hs:0≤s∧s≤(a.length:Int)-1
 ·have hi:=h s.toNat (by omega)
  rw [hi.1,hi.2.1,O1 hl fun i hi=>⟨(h i hi).1,(h i hi).2.2⟩,hl]
 ·rw [if_neg (fun hh=>hs hh.1),if_neg (fun hh=>hs (by rw [hl];exact hh.1))]
def C7 (os:List AU) (W:Nat→Bool) (i:Nat):AU:=if W i=true then B4 (ob os i).gen else {ob os i with purple:=false}
def FF (os:List AU) (W:Nat→Bool) (i:Nat):AU:=if (C7 os W i).live=true then {C7 os W i with count:=w64 (w64 ((C7 os W i).holds+(C7 os W i).roots)+inE (mk8 (C7 os W)) i)} else C7 os W i
def CJ (W:Nat→Bool):Nat→List Int:=pick fun i=>if W i=true then [(i:Int)] else []
def JX (os:List AU) (W:Nat→Bool):Nat→List Int:=pick fun i=>if W i=true then [CM i (ob os i).gen] else []
theorem lE {α β:Type} {f:Nat→List α} {h:α→β} (n:Nat):(pick f n).map h=pick (fun i=>(f i).map h) n:=by
 induction n with
 | zero=>rfl
 | succ n ih=>simp only [pick,List.map_append,ih]
theorem bY {α:Type} {f g:Nat→List α} {n:Nat} (h: ∀i,i<n→f i=g i):pick f n=pick g n:=by
 induction n with
 | zero=>rfl
 | succ n ih=>simp only [pick];rw [ih fun i hi=>h i (by omega),h n (by omega)]
theorem YN (os:List AU) (W:Nat→Bool) (n:Nat):(CJ W n).map (fun x=>CM x (ob os x.toNat).gen)=JX os W n:=by
 unfold CJ JX
 rw [lE]
 refine bY fun i hi=> ?_
 split <;> simp
theorem LG {W:Nat→Bool} {n:Nat} {x:Int}:x∈CJ W n↔ ∃i:Nat,i<n∧x=i∧W i=true:=by
 unfold CJ
 induction n with
 | zero=>simp [pick]
 | succ n ih=>
   simp only [pick,List.mem_append,ih]
   constructor
   ·rintro (⟨i,h1,h2,h3⟩ | h)
    ·exact ⟨i,by omega,h2,h3⟩
    ·split at h
     ·rename_i hw;exact ⟨n,by omega,by simpa using h,hw⟩
     ·simp at h
   ·rintro ⟨i,h1,h2,h3⟩
    by_cases hi:i=n
    ·subst hi;right;rw [if_pos h3];simp [h2]
    ·exact .inl ⟨i,by omega,h2,h3⟩
noncomputable def N4 (os:List AU) (buf:List Int):List AU×List Int:=
 (mk8 (FF os (KX os (fun i=>(ob os i).count) buf)),JX os (KX os (fun i=>(ob os i).count) buf) 8)
end Go.Proofs.Ytklmcfpgdfibnaa.P
