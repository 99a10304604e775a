/- A part of the proof. -/
import Derived.Test.YtklmcfpgdfibnaaRtHpL
namespace Go.Proofs.Ytklmcfpgdfibnaa.P
open Go Go.Proofs.Ytklmcfpgdfibnaa Go.Proofs.Ytklmcfpgdfibnaa.Eng
set_option linter.unusedVariables false
set_option maxHeartbeats 4000000
set_option linter.unusedVariables false
set_option linter.unusedSimpArgs false
attribute [local irreducible] prP gP gE gF AX ixW ldc ldg ldl stc stg scW mkW apW BN cl2 BV EN CJ
variable {w0:World}
theorem YD {os:List AV} {l:List Int} {i:Nat} (hi:i<l.length):((l.take (i+1)).map (AB os)).filter (fun x=>decide (0≤x))=((l.take i).map (AB os)).filter (fun x=>decide (0≤x))++(if 0≤AB os (gI l i) then [AB os (gI l i)] else []):=by
 rw [List.take_succ_eq_append_getElem hi,List.map_append,List.filter_append,D4 hi]
 congr 1
 by_cases h:0≤AB os (gI l i) <;> simp [h]
theorem PY {os:List AV} {b c d:List T} {k:Nat} {K:J2} (hol:os.length=8) (hof: ∀o∈os,OF o) (hk:k<8) (h:K [] [tI (BP os k)]):cl2 ⟨Try.prog,w0⟩ 118 EF.sg [I k] [tR tO os,b,c,d] K:=by
 have hkl:k<os.length:=by omega
 have ho:=hof _ (H9 hkl)
 refine EF.cl2 ?_
 unfold EF.txt
 simp only [AH,AR,AN,AS,AJ,AD,AG,AP,AO,AK,AM,AL,AI,AQ,BD,BI,BH,BJ,BG,BF,BE,A5,AZ,A4,A6,A7,AY]
 refine AT hkl (O5 (f:=tO) (i:=k) hkl (by decide) rfl ?_)
 rw [GO hkl,AD,ho.len]
 refine BC (fun i=>[iv (AA (iv k)*8+6),iv 3,iv i]) (fun i=>[tI ((((ob os k).field.take i).map (AB os)).filter fun x=>decide (0≤x))]) 3 (fun _=>True) rfl rfl trivial (fun R i hi hP hR=> ?_)
 have hln:=List.length_filter_le (fun x=>decide (0≤x)) (((ob os k).field.take i).map (AB os))
 have hl2:(((ob os k).field.take i).map (AB os)).length≤i:=by simp;omega
 simp only [AH,AR,AN,AS,AJ,AD,AG,AP,AO,AK,AM,AL,AI,AQ,BD,BI,BH,BJ,BG,BF,BE,A5,AZ,A4,A6,A7,AY]
 rw [A9 (AA (iv k)*8+6),GO hkl,AD]
 refine A8 (AW (fun hlt=> ?_) fun hge=> ?_)
 ·have hlt:i<(ob os k).field.length:=by have:=ho.len;omega
  replace hR:=hR (by omega) trivial
  rw [YD hlt] at hR
  refine BQ (AT hlt (MB hkl hlt (CM (ho.fld _ (DW hlt)) (by omega) (LG (AW (fun hs=> ?_) fun hs=> ?_)))))
  ·rw [if_pos hs, ←EB] at hR
   refine EJ rfl (by omega) (BA (by omega) ?_)
   exact hR
  ·rw [if_neg hs,List.append_nil] at hR
   exact BA (by omega) hR
 ·have:i=3:=by omega
  subst this
  have e:(ob os k).field.take 3=(ob os k).field:=List.take_of_length_le (by rw [ho.len];omega)
  rw [e];exact h
theorem M9 {os:List AV} {b c d:List T} {k:Nat} {K:J2} (hol:os.length=8) (hof: ∀o∈os,OF o) (hk:k<8) (h:K [] [tI (BP os k)]):cl2 ⟨Try.prog,w0⟩ 170 D5.sg [I k] [tR tO os,b,c,d] K:=by
 have hkl:k<os.length:=by omega
 have ho:=hof _ (H9 hkl)
 refine D5.cl2 ?_
 unfold D5.txt
 simp only [AH,AR,AN,AS,AJ,AD,AG,AP,AO,AK,AM,AL,AI,AQ,BD,BI,BH,BJ,BG,BF,BE,A5,AZ,A4,A6,A7,AY]
 refine BC (fun i=>[I k,iv i]) (fun i=>[tI ((((ob os k).field.take i).map (AB os)).filter fun x=>decide (0≤x))]) 3 (fun _=>True) rfl rfl trivial (fun R i hi hP hR=> ?_)
 have hln:=List.length_filter_le (fun x=>decide (0≤x)) (((ob os k).field.take i).map (AB os))
 have hl2:(((ob os k).field.take i).map (AB os)).length≤i:=by simp;omega
 simp only [AH,AR,AN,AS,AJ,AD,AG,AP,AO,AK,AM,AL,AI,AQ,BD,BI,BH,BJ,BG,BF,BE,A5,AZ,A4,A6,A7,AY]
 refine AT hkl (O5 (f:=tO) (i:=k) hkl (by decide) rfl ?_)
 rw [GO hkl,AD,ho.len]
 refine A8 (AW (fun hlt=> ?_) fun hge=> ?_)
 ·have hlt:i<(ob os k).field.length:=by have:=ho.len;omega
  replace hR:=hR (by omega) trivial
  rw [YD hlt] at hR
  refine BQ (AT hkl (O5 (f:=tO) (i:=k) hkl (by decide) rfl ?_))
  rw [GO hkl,AD]
  refine AT hlt (MB hkl hlt (CL (ho.fld _ (DW hlt)) (by omega) (LG (AW (fun hs=> ?_) fun hs=> ?_))))
  ·rw [if_pos hs, ←EB] at hR
   refine EJ rfl (by omega) (BA (by omega) ?_)
   exact hR
  ·rw [if_neg hs,List.append_nil] at hR
   exact BA (by omega) hR
 ·have:i=3:=by omega
  subst this
  have e:(ob os k).field.take 3=(ob os k).field:=List.take_of_length_le (by rw [ho.len];omega)
  rw [e];exact h
theorem XV {l:List Int} {i:Nat} {v:Int} {K:List T→Prop} (hi:i<l.length) (h:K (tI (l.set i v))):stc (tI l) [] (AA (iv i)*1) (I v) K:=s7 hi h
structure LX (os:List AV) (c m:Int) (cs col:List Int) (s:Nat) (q:Nat×List Int×List Int):Prop where
 j:q.1≤(BP os s).length
 len:q.2.1.length=8∧q.2.2.length=8
 f: ∀i,i<8→F64 (gI q.2.1 i)
 JN: ∀k,k<8→gI col k=c∨k=s→gI q.2.2 k=c
 only: ∀k,k<8→gI q.2.2 k≠c→gI q.2.2 k=gI col k
 clo: ∀k,k<8→k≠s→gI q.2.2 k=c→gI col k≠c→Reach os s k∧ ∀j∈BP os k,gI q.2.2 j.toNat=c
 done: ∀x∈(BP os s).take q.1,gI q.2.2 x.toNat=c
 cnt: ∀i,i<8→gI q.2.1 i=w64 (gI cs i+m*(S os (isC q.2.2 c) i-S os (isC col c) i-(((BP os s).drop q.1).count (i:Int):Nat)))
theorem LX.start {os:List AV} {c m:Int} {cs col:List Int} {s:Nat} (hs:s<8) (h1:cs.length=8) (h2:col.length=8) (hf: ∀i,i<8→F64 (gI cs i)) (h0:gI col s≠c):LX os c m cs col s (0,cs,col.set s c):=by
 refine ⟨Nat.zero_le _,⟨h1,by simpa using h2⟩,hf,fun k hk h=> ?_,fun k hk h=> ?_,fun k hk hne h3 h4=> ?_,fun x hx=>by simp at hx,fun i hi=> ?_⟩
 ·simp only;rw [EI (by omega)];split
  ·rfl
  ·rename_i hh;exact h.resolve_right hh
 ·simp only at h ⊢;rw [EI (by omega)] at h ⊢;split
  ·rename_i hh;rw [if_pos hh] at h;exact absurd rfl h
  ·rfl
 ·simp only at h3;rw [EI (by omega),if_neg hne] at h3;exact absurd h3 h4
 ·simp only
  have e:=lQ (os:=os) (P:=isC col c) (Q:=isC (col.set s c) c) (i:=i) hs (by simp [isC,h0]) (by rw [P5 (by omega)];simp) fun k hk hne=>by rw [P5 (by omega)];simp [hne]
  rw [e,List.drop_zero]
  have:(((BP os s).count (i:Int):Nat):Int)=E os s i:=rfl
  rw [this]
  have e2:S os (isC col c) i+E os s i-S os (isC col c) i-E os s i=0:=by omega
  rw [e2,Int.mul_zero,Int.add_zero,KC (hf i hi)]
theorem LX.step {os:List AV} {c m:Int} {cs col:List Int} {s:Nat} {j:Nat} {cs1 col1 cs2 col2:List Int} (hs:s<8) (h:LX os c m cs col s (j,cs1,col1)) (hj:j<(BP os s).length) (p:JT os c m (cs1.set (gI (BP os s) j).toNat (w64 (gI cs1 (gI (BP os s) j).toNat+m))) col1 cs2 col2 (gI (BP os s) j).toNat):LX os c m cs col s (j+1,cs2,col2):=by
 have hx:=CO (DW hj)
 have l1:=h.len
 refine ⟨by simp only;omega,p.len,p.f,fun k hk hh=>p.JN k hk (h.JN k hk hh),fun k hk hne=> ?_,fun k hk hne h3 h4=> ?_,fun x hx=> ?_,fun i hi=> ?_⟩
 ·have e:=p.only k hk hne
  simp only at hne ⊢
  rw [e]
  exact h.only k hk (by simp only;rw [←e];exact hne)
 ·by_cases h5:gI col1 k=c
  ·obtain ⟨g1,g2⟩:=h.clo k hk hne h5 h4
   exact ⟨g1,fun y hy=>p.JN _ (CO hy).2.1 (g2 y hy)⟩
  ·obtain ⟨g1,g2⟩:=p.clo k hk h3 h5
   exact ⟨Reach.trans (.step .refl (DW hj)) g1,g2⟩
 ·simp only at hx ⊢
  rw [List.take_succ_eq_append_getElem hj,List.mem_append,List.mem_singleton] at hx
  rcases hx with hx | rfl
  ·exact p.JN _ (CO (List.mem_of_mem_take hx)).2.1 (h.done x hx)
  ·rw [D4 hj];exact p.got
 ·have e1:=p.cnt i hi
  have e2:=h.cnt i hi
  simp only at e1 e2 ⊢
  rw [EI (by have:=h.len.1;simp only at this;omega)] at e1
  have e3:(((BP os s).drop j).count (i:Int):Int)=(if i=(gI (BP os s) j).toNat then 1 else 0)+(((BP os s).drop (j+1)).count (i:Int):Int):=by
   rw [drop_cons hj,List.count_cons]
   by_cases hh:i=(gI (BP os s) j).toNat
   ·have:(gI (BP os s) j==(i:Int))=true:=by simp;omega
    rw [if_pos hh,this];simp;omega
   ·have:(gI (BP os s) j==(i:Int))=false:=by simp;omega
    rw [if_neg hh,this];simp
  rw [e1]
  by_cases hh:i=(gI (BP os s) j).toNat
  ·rw [if_pos hh, ←hh,e2,MM,Int.add_assoc,MM]
   rw [if_pos hh] at e3
   congr 1
   rw [e3]
   generalize S os (isC col2 c) i=a
   generalize S os (isC col1 c) i=b
   generalize S os (isC col c) i=d
   generalize ((List.drop (j+1) (BP os s)).count (i:Int):Int)=e
   simp only [Int.mul_sub,Int.mul_add,Int.mul_one];omega
  ·rw [if_neg hh,e2,MM]
   rw [if_neg hh] at e3
   congr 1
   rw [e3]
   generalize S os (isC col2 c) i=a
   generalize S os (isC col1 c) i=b
   generalize S os (isC col c) i=d
   generalize ((List.drop (j+1) (BP os s)).count (i:Int):Int)=e
   simp only [Int.mul_sub,Int.mul_add,Int.mul_zero];omega
theorem LX.stop {os:List AV} {c m:Int} {cs col:List Int} {s:Nat} {cs1 col1:List Int} (hs:s<8) (h:LX os c m cs col s ((BP os s).length,cs1,col1)):JT os c m cs col cs1 col1 s:=by
 refine ⟨h.len,h.f,fun k hk hh=>h.JN k hk (.inl hh),h.only,h.JN s hs (.inr rfl),fun k hk h3 h4=> ?_,fun i hi=> ?_⟩
 ·by_cases hks:k=s
  ·subst hks
   exact ⟨.refl,fun y hy=>h.done y (by simp only;rw [List.take_length];exact hy)⟩
  ·exact h.clo k hk hks h3 h4
 ·have:=h.cnt i hi
  simp only [List.drop_length,List.count_nil] at this
  rw [this];simp
theorem S1 {os:List AV} {b c' d:List T} {c m:Int} (hol:os.length=8) (hof: ∀o∈os,OF o) (hc:F64 c) (hm:F64 m): ∀(n:Nat) {cs col:List Int} {s:Nat} {K:J2},JM col c≤n→s<8→cs.length=8→col.length=8→(∀i,i<8→F64 (gI cs i))→(∀cs' col',JT os c m cs col cs' col' s→K [] [tI cs',tI col'])→cl2 ⟨Try.prog,w0⟩ 116 B6.sg [I s,I c,I m] [tI cs,tI col,tR tO os,b,c',d] K:=by
 intro n
 induction n with
 | zero=>
   intro cs col s K hn hs h1 h2 hf h
   refine B6.cl2 ?_
   unfold B6.txt
   simp only [AH,AR,AN,AS,AJ,AD,AG,AP,AO,AK,AM,AL,AI,AQ,BD,BI,BH,BJ,BG,BF,BE,A5,AZ,A4,A6,A7,AY]
   refine AT (by omega) (ldI (by omega) (BM (AW (fun he=>h _ _ (JT.refl h1 h2 hf he)) fun he=> ?_)))
   have:=LM (a:=col) (b:=col.set s c) (c:=c) hs he (by rw [EI (by omega)];simp) fun k hk hh=>by rw [EI (by omega)];split <;> first | rfl | exact hh
   exact absurd this (by omega)
 | succ n ih=>
   intro cs col s K hn hs h1 h2 hf h
   refine B6.cl2 ?_
   unfold B6.txt
   simp only [AH,AR,AN,AS,AJ,AD,AG,AP,AO,AK,AM,AL,AI,AQ,BD,BI,BH,BJ,BG,BF,BE,A5,AZ,A4,A6,A7,AY]
   refine AT (by omega) (ldI (by omega) (BM (AW (fun he=>h _ _ (JT.refl h1 h2 hf he)) fun he=> ?_)))
   refine AT (by omega) (XV (by omega) (PY hol hof hs ?_))
   simp only [AH,AR,AN,AS,AJ,AD,AG,AP,AO,AK,AM,AL,AI,AQ,BD,BI,BH,BJ,BG,BF,BE,A5,AZ,A4,A6,A7,AY]
   have hkl:=NL hof (k:=s) (by omega)
   refine FP (α:=Nat×List Int×List Int) (fun q=>[I c,I m,iv (BP os s).length,iv q.1]) (fun q=>[tI (BP os s),tI q.2.1,tI q.2.2]) (fun q=>(BP os s).length-q.1) (LX os c m cs col s) (0,cs,col.set s c) rfl rfl (LX.start hs h1 h2 hf he) (fun R q hq hR=> ?_)
   obtain ⟨j,cs1,col1⟩:=q
   have hj:=hq.j
   have hl:=hq.len
   simp only at hj hl
   simp only [AH,AR,AN,AS,AJ,AD,AG,AP,AO,AK,AM,AL,AI,AQ,BD,BI,BH,BJ,BG,BF,BE,A5,AZ,A4,A6,A7,AY]
   refine A8 (AW (fun hlt=> ?_) fun hge=> ?_)
   ·have hlt:j<(BP os s).length:=by omega
    obtain ⟨x1,x2,x3,_⟩:=CO (DW hlt)
    have hmiss:JM col1 c≤n:=by
     have:=LM (a:=col) (b:=col1) (c:=c) hs he (hq.JN s hs (.inr rfl)) fun k hk hh=>hq.JN k hk (.inl hh)
     omega
    have stp:=fun cs2 col2=>LX.step (cs2:=cs2) (col2:=col2) hs hq hlt
    obtain ⟨x,hx⟩: ∃x,(gI (BP os s) j).toNat=x:=⟨_,rfl⟩
    rw [hx] at x2 x3 stp
    refine AT hlt (ldI hlt ?_)
    rw [x3]
    refine AT (by omega) (ldI (by omega) (GJ (AT (by omega) (XV (by omega) ?_))))
    refine ih hmiss x2 (by simpa using hl.1) hl.2 (fun i hi=> ?_) fun cs2 col2 p=> ?_
    ·rw [EI (by omega)];split
     ·exact iU _
     ·exact hq.f i hi
    ·exact BA (by omega) (hR (j+1,cs2,col2) (stp _ _ p) (by simp only;omega))
   ·have:j=(BP os s).length:=by omega
    subst this
    exact h _ _ (LX.stop hs hq)
end Go.Proofs.Ytklmcfpgdfibnaa.P
namespace Go.Proofs.Ytklmcfpgdfibnaa.P
open Go Go.Proofs.Ytklmcfpgdfibnaa Go.Proofs.Ytklmcfpgdfibnaa.Eng
set_option linter.unusedVariables false
set_option maxHeartbeats 4000000
set_option linter.unusedVariables false
set_option linter.unusedSimpArgs false
attribute [local irreducible] prP gP gE gF AX ixW ldc ldg ldl stc stg scW mkW apW BN cl2 BV EN CJ
variable {w0:World}
def W (os:List AV):List Int→Nat→Int
 | [],_=>0
 | x::l,i=>E os x.toNat i+W os l i
theorem rH (os:List AV) (a b:List Int) (i:Nat):W os (a++b) i=W os a i+W os b i:=by
 induction a with
 | nil=>simp [W]
 | cons x a ih=>simp only [List.cons_append,W,ih];omega
structure Vw (row:List Int) (off:Nat) (todo:List Int):Prop where
 bd:off+todo.length≤row.length
 vw:(row.drop off).take todo.length=todo
theorem Vw.get {row todo:List Int} {off j:Nat} (h:Vw row off todo) (hj:j<todo.length):gI row (off+j)=gI todo j:=by
 have e:=congrArg (fun l=>l[j]?) h.vw
 simp only [List.getElem?_take,hj,if_true,List.getElem?_drop] at e
 unfold gI
 rw [List.getD_eq_getElem?_getD,List.getD_eq_getElem?_getD,e]
theorem Vw.pop {row todo:List Int} {off:Nat} (h:Vw row off todo):Vw row off todo.dropLast:=by
 refine ⟨by have:=h.bd;rw [List.length_dropLast];omega, ?_⟩
 have e:=congrArg List.dropLast h.vw
 rw [List.dropLast_eq_take,List.take_take] at e
 rw [List.length_dropLast, ←e,List.length_take,List.length_drop]
 have:=h.bd
 congr 1;omega
theorem Vw.new (todo:List Int):Vw todo 0 todo:=⟨by omega,by simp⟩
theorem YZ {todo:List Int} (h:todo.length>0):todo=todo.dropLast++[gI todo (todo.length-1)]:=by
 have hne:todo≠[]:=fun he=>by rw [he] at h;simp at h
 have:=(List.dropLast_concat_getLast hne).symm
 rw [List.getLast_eq_getElem hne,D4 (by omega)] at this
 exact this
structure O6 (os:List AV) (c m:Int) (cs0 col0:List Int) (s:Nat) (todo cs col:List Int):Prop where
 len:cs.length=8∧col.length=8
 f: ∀i,i<8→F64 (gI cs i)
 JN: ∀k,k<8→gI col0 k=c→gI col k=c
 only: ∀k,k<8→gI col k≠c→gI col k=gI col0 k
 got:gI col s=c
 td: ∀x∈todo,0≤x∧x.toNat<8∧gI col x.toNat=c∧gI col0 x.toNat≠c∧Reach os s x.toNat
 nd:todo.Nodup
 clo: ∀k,k<8→gI col k=c→gI col0 k≠c→Reach os s k∧((k:Int)∈todo∨ ∀j∈BP os k,gI col j.toNat=c)
 cnt: ∀i,i<8→gI cs i=w64 (gI cs0 i+m*(S os (isC col c) i-S os (isC col0 c) i-W os todo i))
 sz:todo.length+JM col c≤8
structure PO (os:List AV) (c m:Int) (cs0 col0:List Int) (s:Nat) (k j:Nat) (todo cs col:List Int):Prop where
 len:cs.length=8∧col.length=8
 f: ∀i,i<8→F64 (gI cs i)
 JN: ∀k,k<8→gI col0 k=c→gI col k=c
 only: ∀k,k<8→gI col k≠c→gI col k=gI col0 k
 got:gI col s=c
 td: ∀x∈todo,0≤x∧x.toNat<8∧gI col x.toNat=c∧gI col0 x.toNat≠c∧Reach os s x.toNat
 nd:todo.Nodup
 me:k<8∧Reach os s k
 clo: ∀x,x<8→x≠k→gI col x=c→gI col0 x≠c→Reach os s x∧((x:Int)∈todo∨ ∀j∈BP os x,gI col j.toNat=c)
 done: ∀x∈(BP os k).take j,gI col x.toNat=c
 cnt: ∀i,i<8→gI cs i=w64 (gI cs0 i+m*(S os (isC col c) i-S os (isC col0 c) i-W os todo i-(((BP os k).drop j).count (i:Int):Nat)))
 sz:todo.length+JM col c≤8
section
variable {os:List AV} {c m:Int} {cs0 col0 cs col todo:List Int} {s k j:Nat}
theorem O6.start (hs:s<8) (h1:cs0.length=8) (h2:col0.length=8) (hf: ∀i,i<8→F64 (gI cs0 i)) (h0:gI col0 s≠c):O6 os c m cs0 col0 s [(s:Int)] cs0 (col0.set s c):=by
 have hkeep: ∀k,k<8→gI col0 k=c→gI (col0.set s c) k=c:=fun k hk h=>by rw [EI (by omega)];split <;> first | rfl | exact h
 have hgot:gI (col0.set s c) s=c:=by rw [EI (by omega)];simp
 refine ⟨⟨h1,by simpa using h2⟩,hf,hkeep,fun k hk h=> ?_,hgot,fun x hx=> ?_,by simp,fun k hk h3 h4=> ?_,fun i hi=> ?_, ?_⟩
 ·rw [EI (by omega)] at h ⊢;split
  ·rename_i hh;rw [if_pos hh] at h;exact absurd rfl h
  ·rfl
 ·have hx:x=(s:Int):=by simpa using hx
  subst hx
  rw [Int.toNat_natCast]
  exact ⟨by omega,hs,hgot,h0, .refl⟩
 ·rw [EI (by omega)] at h3
  by_cases hh:k=s
  ·subst hh;exact ⟨.refl, .inl (by simp)⟩
  ·rw [if_neg hh] at h3;exact absurd h3 h4
 ·have e:=lQ (os:=os) (P:=isC col0 c) (Q:=isC (col0.set s c) c) (i:=i) hs (by simp [isC,h0]) (by rw [P5 (by omega)];simp) fun k hk hne=>by rw [P5 (by omega)];simp [hne]
  simp only [W,Int.toNat_natCast]
  rw [e]
  have e2:S os (isC col0 c) i+E os s i-S os (isC col0 c) i-(E os s i+0)=0:=by omega
  rw [e2,Int.mul_zero,Int.add_zero,KC (hf i hi)]
 ·have:=LM hs h0 hgot hkeep
  have:=TV col0 c
  simp only [List.length_singleton];omega
theorem O6.stop (h:O6 os c m cs0 col0 s [] cs col):JT os c m cs0 col0 cs col s:=
 ⟨h.len,h.f,h.JN,h.only,h.got,fun k hk h3 h4=>⟨(h.clo k hk h3 h4).1,(h.clo k hk h3 h4).2.resolve_left (by simp)⟩,fun i hi=>by have:=h.cnt i hi;simp only [W,Int.sub_zero] at this;exact this⟩
theorem O6.pop (h:O6 os c m cs0 col0 s todo cs col) (hl:todo.length>0) (hk:(gI todo (todo.length-1)).toNat=k):gI todo (todo.length-1)=(k:Int)∧k<8∧PO os c m cs0 col0 s k 0 todo.dropLast cs col:=by
 have e:=YZ hl
 have hm:gI todo (todo.length-1)∈todo:=DW (by omega)
 obtain ⟨t1,t2,t3,t4,t5⟩:=h.td _ hm
 rw [hk] at t2 t3 t4 t5
 have e2:gI todo (todo.length-1)=(k:Int):=by omega
 rw [e2] at e
 have hnd:=h.nd
 rw [e,List.nodup_append] at hnd
 refine ⟨e2,t2,h.len,h.f,h.JN,h.only,h.got,fun x hx=>h.td x (List.dropLast_subset _ hx),hnd.1,⟨t2,t5⟩,fun x hx hne h3 h4=> ?_,by simp,fun i hi=> ?_, ?_⟩
 ·obtain ⟨g1,g2⟩:=h.clo x hx h3 h4
  refine ⟨g1,g2.imp_left fun g=> ?_⟩
  rw [e,List.mem_append,List.mem_singleton] at g
  exact g.resolve_right (by omega)
 ·rw [h.cnt i hi]
  have:W os todo i=W os todo.dropLast i+E os k i:=by
   conv=>lhs;rw [e]
   rw [rH];simp [W]
  rw [this,List.drop_zero]
  congr 3
  have e3:(((BP os k).count (i:Int):Nat):Int)=E os k i:=rfl
  rw [e3];omega
 ·have:=h.sz
  rw [List.length_dropLast];omega
theorem PO.stop (h:PO os c m cs0 col0 s k (BP os k).length todo cs col):O6 os c m cs0 col0 s todo cs col:=by
 refine ⟨h.len,h.f,h.JN,h.only,h.got,h.td,h.nd,fun x hx h3 h4=> ?_,fun i hi=> ?_,h.sz⟩
 ·by_cases hk:x=k
  ·subst hk
   exact ⟨h.me.2, .inr fun y hy=>h.done y (by rw [List.take_length];exact hy)⟩
  ·exact h.clo x hx hk h3 h4
 ·have:=h.cnt i hi
  simp only [List.drop_length,List.count_nil] at this
  rw [this];simp
theorem cQ {l:List Int} {j i:Nat} {x:Nat} (hj:j<l.length) (hx:gI l j=(x:Int)):((l.drop j).count (i:Int):Int)=(if i=x then 1 else 0)+((l.drop (j+1)).count (i:Int):Int):=by
 rw [drop_cons hj,List.count_cons,hx]
 by_cases hh:i=x
 ·have:((x:Int)==(i:Int))=true:=by simp;omega
  rw [if_pos hh,this];simp;omega
 ·have:((x:Int)==(i:Int))=false:=by simp;omega
  rw [if_neg hh,this];simp
theorem PO.old (h:PO os c m cs0 col0 s k j todo cs col) (hj:j<(BP os k).length) {x:Nat} (hx:gI (BP os k) j=(x:Int)) (hc:gI col x=c):PO os c m cs0 col0 s k (j+1) todo (cs.set x (w64 (gI cs x+m))) col:=by
 have x8:x<8:=by have:=(CO (DW hj)).2.1;rw [hx] at this;simpa using this
 have hl:=h.len
 refine ⟨⟨by simpa using hl.1,hl.2⟩,fun i hi=> ?_,h.JN,h.only,h.got,h.td,h.nd,h.me,h.clo,fun y hy=> ?_,fun i hi=> ?_,h.sz⟩
 ·rw [EI (by omega)];split
  ·exact iU _
  ·exact h.f i hi
 ·rw [List.take_succ_eq_append_getElem hj,List.mem_append,List.mem_singleton] at hy
  rcases hy with hy | rfl
  ·exact h.done y hy
  ·rw [D4 hj,hx,Int.toNat_natCast];exact hc
 ·rw [EI (by omega)]
  have e2:=h.cnt i hi
  have e3:=cQ (i:=i) hj hx
  by_cases hh:i=x
  ·rw [if_pos hh, ←hh,e2,MM]
   rw [if_pos hh] at e3
   congr 1
   rw [e3]
   generalize S os (isC col c) i=a
   generalize S os (isC col0 c) i=b
   generalize W os todo i=d
   generalize ((List.drop (j+1) (BP os k)).count (i:Int):Int)=e
   simp only [Int.mul_sub,Int.mul_add,Int.mul_one];omega
  ·rw [if_neg hh,e2]
   rw [if_neg hh] at e3
   rw [e3,Int.zero_add]
theorem PO.new (h:PO os c m cs0 col0 s k j todo cs col) (hj:j<(BP os k).length) {x:Nat} (hx:gI (BP os k) j=(x:Int)) (hc:gI col x≠c):PO os c m cs0 col0 s k (j+1) (todo++[(x:Int)]) (cs.set x (w64 (gI cs x+m))) (col.set x c):=by
 have x8:x<8:=by have:=(CO (DW hj)).2.1;rw [hx] at this;simpa using this
 have hl:=h.len
 have hgot:gI (col.set x c) x=c:=by rw [EI (by omega)];simp
 have kp: ∀y,gI col y=c→gI (col.set x c) y=c:=fun y hy=>by rw [EI (by omega)];split <;> first | rfl | exact hy
 have hrx:Reach os s x:=by have:=Reach.step h.me.2 (DW hj);rw [hx] at this;simpa using this
 have h0x:gI col0 x≠c:=fun he=>hc (h.JN x x8 he)
 refine ⟨⟨by simpa using hl.1,by simpa using hl.2⟩,fun i hi=> ?_,fun y hy he=>kp y (h.JN y hy he),fun y hy he=> ?_,kp s h.got,fun y hy=> ?_, ?_,h.me,fun y hy hne h3 h4=> ?_,fun y hy=> ?_,fun i hi=> ?_, ?_⟩
 ·rw [EI (by omega)];split
  ·exact iU _
  ·exact h.f i hi
 ·rw [EI (by omega)] at he ⊢
  split
  ·rename_i hh;rw [if_pos hh] at he;exact absurd rfl he
  ·rename_i hh;rw [if_neg hh] at he;exact h.only y hy he
 ·rw [List.mem_append,List.mem_singleton] at hy
  rcases hy with hy | rfl
  ·obtain ⟨a1,a2,a3,a4,a5⟩:=h.td y hy
   exact ⟨a1,a2,kp _ a3,a4,a5⟩
  ·rw [Int.toNat_natCast]
   exact ⟨by omega,x8,hgot,h0x,hrx⟩
 ·rw [List.nodup_append]
  refine ⟨h.nd,by simp,fun a ha b hb=> ?_⟩
  have hb:b=(x:Int):=by simpa using hb
  subst hb
  intro he
  subst he
  exact hc (by have:=(h.td _ ha).2.2.1;rwa [Int.toNat_natCast] at this)
 ·by_cases hyx:y=x
  ·subst hyx;exact ⟨hrx, .inl (by simp)⟩
  ·rw [EI (by omega),if_neg hyx] at h3
   obtain ⟨g1,g2⟩:=h.clo y hy hne h3 h4
   exact ⟨g1,g2.elim (fun g=> .inl (List.mem_append_left _ g)) fun g=> .inr fun z hz=>kp _ (g z hz)⟩
 ·rw [List.take_succ_eq_append_getElem hj,List.mem_append,List.mem_singleton] at hy
  rcases hy with hy | rfl
  ·exact kp _ (h.done y hy)
  ·rw [D4 hj,hx,Int.toNat_natCast];exact hgot
 ·rw [EI (by omega)]
  have e2:=h.cnt i hi
  have e3:=cQ (i:=i) hj hx
  have e:=lQ (os:=os) (P:=isC col c) (Q:=isC (col.set x c) c) (i:=i) x8 (by simp [isC,hc]) (by rw [P5 (by omega)];simp) fun k hk hne=>by rw [P5 (by omega)];simp [hne]
  have ew:W os (todo++[(x:Int)]) i=W os todo i+E os x i:=by rw [rH];simp [W]
  rw [e,ew]
  by_cases hh:i=x
  ·rw [if_pos hh, ←hh,e2,MM]
   rw [if_pos hh] at e3
   congr 1
   rw [e3,hh]
   generalize S os (isC col c) x=a
   generalize S os (isC col0 c) x=b
   generalize W os todo x=d
   generalize E os x x=g
   generalize ((List.drop (j+1) (BP os k)).count (x:Int):Int)=e
   have:a+g-b-(d+g)-e=a-b-d-(1+e)+1:=by omega
   rw [this,Int.mul_add,Int.mul_one];omega
  ·rw [if_neg hh,e2]
   rw [if_neg hh] at e3
   rw [e3]
   congr 3
   omega
 ·have:=LM (c:=c) x8 hc hgot fun y _ hy=>kp y hy
  have:=h.sz
  simp only [List.length_append,List.length_singleton];omega
end
end Go.Proofs.Ytklmcfpgdfibnaa.P
namespace Go.Proofs.Ytklmcfpgdfibnaa.P
open Go Go.Proofs.Ytklmcfpgdfibnaa Go.Proofs.Ytklmcfpgdfibnaa.Eng
set_option linter.unusedVariables false
set_option maxHeartbeats 4000000
set_option linter.unusedVariables false
set_option linter.unusedSimpArgs false
attribute [local irreducible] prP gP gE gF AX ixW ldc ldg ldl stc stg scW mkW apW BN cl2 BV EN CJ
variable {w0:World}
theorem NB {a b:List Int} {K:J2} (h1:a.length≤100) (h2:b.length≤100) (h:K [] [tI a,tI b]):cl2 ⟨Try.prog,w0⟩ 114 C9.sg [] [tI a,tI b] K:=by
 refine C9.cl2 ?_
 unfold C9.txt
 exact HW (by omega) (HW (by omega) h)
theorem Q6 {a b:List Int} {K:J2} (h1:a.length≤100) (h2:b.length≤100) (h:K [] [tI a,tI b]):cl2 ⟨Try.prog,w0⟩ 168 FL.sg [] [tI a,tI b] K:=by
 refine FL.cl2 ?_
 unfold FL.txt
 rw [List.nil_append,List.nil_append]
 simp only [AH,AR,AN,AS,AJ,AD,AG,AP,AO,AK,AM,AL,AI,AQ,BD,BI,BH,BJ,BG,BF,BE,A5,AZ,A4,A6,A7,AY]
 exact EJ (MI _) (by first | omega | (simp only [cnt,List.length_nil];omega)) (EJ (MI _) (by first | omega | (simp only [cnt,List.length_nil];omega)) h)
theorem RF {os:List AV} {b c d:List T} {cs col:List Int} {id:Int} {K:J2} (hol:os.length=8) (h1:cs.length=8) (h2:col.length=8) (hno:AB os id<0→K [.bool false] []) (hyes:0≤AB os id→K [.bool true] []):cl2 ⟨Try.prog,w0⟩ 115 FM.sg [I (AB os id)] [tR tO os,b,c,d,tI cs,tI col] K:=by
 refine FM.cl2 ?_
 unfold FM.txt
 simp only [AH,AR,AN,AS,AJ,AD,AG,AP,AO,AK,AM,AL,AI,AQ,BD,BI,BH,BJ,BG,BF,BE,A5,AZ,A4,A6,A7,AY]
 refine BM ?_
 have e1:(os.length:Int)=8:=by omega
 have e2:(cs.length:Int)=8:=by omega
 have e3:(col.length:Int)=8:=by omega
 by_cases hs:AB os id<0
 ·have:=hno hs
  repeat' (first | refine GR ?_ | refine BK ?_ | refine H8 (by first | with_reducible assumption | omega) ?_ | refine ML (by first | with_reducible assumption | omega) ?_ | refine C6 (by first | with_reducible assumption | omega) rfl ?_ | refine C2 (by first | with_reducible assumption | omega) rfl ?_ | refine BM ?_)
  all_goals first | exact this | omega
 ·have:=hyes (by omega)
  have hk:=BO (l:=os) (id:=id) (by omega)
  obtain ⟨k,hkk⟩: ∃k,(AB os id).toNat=k:=⟨_,rfl⟩
  have hkI:AB os id=(k:Int):=by omega
  rw [hkk] at hk
  rw [hkI]
  have hkl:k<os.length:=by omega
  repeat' (first | refine KR (v:= .bool true) hkl (by simp [tO,hk.2.2.2.2.1]) ?_ | refine GR ?_ | refine BK ?_ | refine H8 (by first | with_reducible assumption | omega) ?_ | refine C6 (by first | with_reducible assumption | omega) rfl ?_ | refine BM ?_ | refine AT (by omega) ?_)
  all_goals first | exact this | omega
theorem T4 {os:List AV} {b c d:List T} {cs col:List Int} {id:Int} {K:J2} (hol:os.length=8) (h1:cs.length=8) (h2:col.length=8) (hno:AB os id<0→K [.bool false] []) (hyes:0≤AB os id→K [.bool true] []):cl2 ⟨Try.prog,w0⟩ 169 HC.sg [I (AB os id)] [tR tO os,b,c,d,tI cs,tI col] K:=by
 refine HC.cl2 ?_
 unfold HC.txt
 simp only [AH,AR,AN,AS,AJ,AD,AG,AP,AO,AK,AM,AL,AI,AQ,BD,BI,BH,BJ,BG,BF,BE,A5,AZ,A4,A6,A7,AY]
 refine BM ?_
 have e1:(os.length:Int)=8:=by omega
 have e2:(cs.length:Int)=8:=by omega
 have e3:(col.length:Int)=8:=by omega
 by_cases hs:AB os id<0
 ·have:=hno hs
  repeat' (first | refine D9 ?_ | refine BK ?_ | refine H8 (by first | with_reducible assumption | omega) ?_ | refine ML (by first | with_reducible assumption | omega) ?_ | refine C6 (by first | with_reducible assumption | omega) rfl ?_ | refine C2 (by first | with_reducible assumption | omega) rfl ?_ | refine BM ?_)
  all_goals first | exact this | omega
 ·have:=hyes (by omega)
  have hk:=BO (l:=os) (id:=id) (by omega)
  obtain ⟨k,hkk⟩: ∃k,(AB os id).toNat=k:=⟨_,rfl⟩
  have hkI:AB os id=(k:Int):=by omega
  rw [hkk] at hk
  rw [hkI]
  have hkl:k<os.length:=by omega
  repeat' (first | refine KR (v:= .bool true) hkl (by simp [tO,hk.2.2.2.2.1]) ?_ | refine D9 ?_ | refine BK ?_ | refine H8 (by first | with_reducible assumption | omega) ?_ | refine C6 (by first | with_reducible assumption | omega) rfl ?_ | refine BM ?_ | refine AT (by omega) ?_)
  all_goals first | exact this | omega
theorem XH {n i:Nat} (hi:i≤n) {K:Value→Value→Prop} (h:K (iv 0) (iv i)):scW n none (some (.int .i64 i)) K:=aP hi h
theorem WE {os:List AV} {b c' d:List T} {cs col:List Int} {s:Nat} {K:J2} (hol:os.length=8) (hof: ∀o∈os,OF o) (hs:s<8) (h1:cs.length=8) (h2:col.length=8) (hf: ∀i,i<8→F64 (gI cs i)) (h0:gI col s≠0) (h: ∀cs' col',JT os 0 1 cs col cs' col' s→K [] [tI cs',tI col']):cl2 ⟨Try.prog,w0⟩ 171 F6.sg [I s] [tR tO os,b,c',d,tI cs,tI col] K:=by
 refine F6.cl2 ?_
 unfold F6.txt
 simp only [AH,AR,AN,AS,AJ,AD,AG,AP,AO,AK,AM,AL,AI,AQ,BD,BI,BH,BJ,BG,BF,BE,A5,AZ,A4,A6,A7,AY]
 refine AT (by omega) (XV (v:=0) (by omega) ?_)
 refine FP (α:=List Int×Nat×List Int×List Int×List Int) (fun q=>[iv q.2.2.1.length,iv q.2.1]) (fun q=>[tI q.1,tI q.2.2.2.1,tI q.2.2.2.2]) (fun q=>q.2.2.1.length+2*JM q.2.2.2.2 0) (fun q=>Vw q.1 q.2.1 q.2.2.1∧O6 os 0 1 cs col s q.2.2.1 q.2.2.2.1 q.2.2.2.2) ([(s:Int)],0,[(s:Int)],cs,col.set s 0) rfl rfl ⟨Vw.new _,O6.start hs h1 h2 hf h0⟩ (fun R q hq hR=> ?_)
 obtain ⟨row,off,todo,cs1,col1⟩:=q
 obtain ⟨vw,wk⟩:=hq
 simp only at vw wk
 have hsz:=wk.sz
 have hbd:=vw.bd
 simp only [AH,AR,AN,AS,AJ,AD,AG,AP,AO,AK,AM,AL,AI,AQ,BD,BI,BH,BJ,BG,BF,BE,A5,AZ,A4,A6,A7,AY]
 simp only [A9]
 refine I7 (AW (fun hlt=> ?_) fun hge=> ?_)
 ·have hlt:todo.length>0:=by omega
  obtain ⟨k,hk⟩: ∃k,(gI todo (todo.length-1)).toNat=k:=⟨_,rfl⟩
  obtain ⟨e1,k8,wj⟩:=wk.pop hlt hk
  have ev:((todo.length:Int)-1)=((todo.length-1:Nat):Int):=by omega
  refine H6 ⟨by omega,by omega⟩ ?_
  rw [ev]
  refine AT (by omega) ?_
  have eg:=vw.get (j:=todo.length-1) (by omega)
  have el:ldc (tI row) [] (off+AA (iv (todo.length-1))*1)=ldc (tI row) [] (AA (iv (off+(todo.length-1)))*1):=by rw [A9,A9];congr 1;omega
  rw [el]
  refine ldI (by omega) ?_
  rw [eg,e1]
  refine H6 ⟨by omega,by omega⟩ ?_
  rw [ev]
  refine XH (by omega) (M9 hol hof k8 ?_)
  have hkl:=NL hof (k:=k) (by omega)
  refine FP (α:=Nat×List Int×Nat×List Int×List Int×List Int) (fun q=>[iv q.2.2.2.1.length,iv q.2.2.1,iv q.1]) (fun q=>[tI q.2.1,tI (BP os k),tI q.2.2.2.2.1,tI q.2.2.2.2.2]) (fun q=>(BP os k).length-q.1) (fun q=>q.1≤(BP os k).length∧Vw q.2.1 q.2.2.1 q.2.2.2.1∧PO os 0 1 cs col s k q.1 q.2.2.2.1 q.2.2.2.2.1 q.2.2.2.2.2∧q.2.2.2.1.length+2*JM q.2.2.2.2.2 0<todo.length+2*JM col1 0) (0,row,off,todo.dropLast,cs1,col1) ?_ rfl ⟨Nat.zero_le _,vw.pop,wj,by simp only [List.length_dropLast];omega⟩ (fun R2 q hq hR2=> ?_)
  ·simp only [List.length_dropLast,A9,Nat.zero_mul,Nat.add_zero];rfl
  obtain ⟨j,row2,off2,todo2,cs2,col2⟩:=q
  obtain ⟨hj,vw2,wj2,hms⟩:=hq
  simp only at hj vw2 wj2 hms
  have hsz2:=wj2.sz
  have hbd2:=vw2.bd
  have hl2:=wj2.len
  simp only [AH,AR,AN,AS,AJ,AD,AG,AP,AO,AK,AM,AL,AI,AQ,BD,BI,BH,BJ,BG,BF,BE,A5,AZ,A4,A6,A7,AY]
  simp only [A9]
  refine A8 (AW (fun hlj=> ?_) fun hgj=> ?_)
  ·have hlj:j<(BP os k).length:=by omega
   obtain ⟨x,hx⟩: ∃x,(gI (BP os k) j).toNat=x:=⟨_,rfl⟩
   obtain ⟨x1,x2,x3,_⟩:=CO (DW hlj)
   rw [hx] at x2 x3
   have xc:x<cs2.length:=by omega
   have xl:x<col2.length:=by omega
   refine BQ (AT hlj (ldI hlj (AT hlj (ldI hlj ?_))))
   rw [x3]
   refine AT xc (ldI xc (GJ (AT xc (XV xc (AT hlj (ldI hlj ?_))))))
   rw [x3]
   refine AT xl (ldI xl (CA (AW (fun hne=> ?_) fun heq=> ?_)))
   ·refine AT hlj (ldI hlj ?_)
    rw [x3]
    refine AT xl (XV (v:=0) xl (AT hlj (ldI hlj ?_)))
    rw [x3]
    have wn:=wj2.new hlj x3 hne
    have:=LM (a:=col2) (b:=col2.set x 0) (c:=0) x2 hne (by rw [EI xl];simp) fun y _ hy=>by rw [EI xl];split <;> first | rfl | exact hy
    refine EJ rfl (by omega) (BA (by omega) ?_)
    have:=hR2 (j+1,todo2++[(x:Int)],0,todo2++[(x:Int)],_,_) ⟨by simp only;omega,Vw.new _,wn,by simp only [List.length_append,List.length_singleton];omega⟩ (by simp only;omega)
    simp only [Nat.mul_one,PF,vw2.vw]
    have ea:tI todo2++[T.c (I (x:Int))]=tI (todo2++[(x:Int)]):=EB _ _
    rw [ea]
    simp only [AH,AR,AN,AS,AJ,AD,AG,AP,AO,AK,AM,AL,AI,AQ,BD,BI,BH,BJ,BG,BF,BE,A5,AZ,A4,A6,A7,AY]
    simp only [A9]
    exact this
   ·have heq:gI col2 x=0:=Decidable.not_not.1 heq
    have wo:=wj2.old hlj x3 heq
    refine BA (by omega) ?_
    have:=hR2 (j+1,row2,off2,todo2,_,_) ⟨by simp only;omega,vw2,wo,hms⟩ (by simp only;omega)
    simp only [AH,AR,AN,AS,AJ,AD,AG,AP,AO,AK,AM,AL,AI,AQ,BD,BI,BH,BJ,BG,BF,BE,A5,AZ,A4,A6,A7,AY]
    simp only [A9]
    exact this
  ·have:j=(BP os k).length:=by omega
   subst this
   have:=hR (row2,off2,todo2,cs2,col2) ⟨vw2,wj2.stop⟩ hms
   exact this
 ·have:todo=[]:=List.length_eq_zero_iff.1 (by omega)
  subst this
  exact h _ _ wk.stop
theorem UI {os:List AV} {b c' d:List T} {cs col:List Int} {id:Int} {K:J2} (hol:os.length=8) (hof: ∀o∈os,OF o) (h1:cs.length=8) (h2:col.length=8) (hf: ∀i,i<8→F64 (gI cs i)) (hno:AB os id<0→K [] [tI cs,tI col]) (h: ∀s:Nat,AB os id=s→s<8→ ∀cs' col',JT os 1 (-1) cs col cs' col' s→K [] [tI cs',tI col']):cl2 ⟨Try.prog,w0⟩ 156 E9.sg [I (AB os id)] [tR tO os,b,c',d,tI cs,tI col] K:=by
 refine E9.cl2 ?_
 unfold E9.txt
 refine Q6 (by omega) (by omega) (T4 hol h1 h2 (fun hs=> ?_) fun hs=> ?_)
 ·replace hno:=hno hs
  repeat' (first | refine BK ?_ | refine QV ?_ | refine PX rfl ?_ | refine B2 ?_ | refine B4 ?_ | simp only [AH,AR,AN,AS,AJ,AD,AG,AP,AO,AK,AM,AL,AI,AQ,BD,BI,BH,BJ,BG,BF,BE,A5,AZ,A4,A6,A7,AY])
  all_goals exact hno
 have hk:=BO hs
 obtain ⟨s,hss⟩: ∃s,(AB os id).toNat=s:=⟨_,rfl⟩
 have hsI:AB os id=(s:Int):=by omega
 have hs:s<8:=hss ▸ hk.2.2.2.1
 replace h:=h s hsI hs
 clear hno
 rw [hsI]
 refine B4 ?_
 have hsl:s<col.length:=by omega
 simp only [AH,AR,AN,AS,AJ,AD,AG,AP,AO,AK,AM,AL,AI,AQ,BD,BI,BH,BJ,BG,BF,BE,A5,AZ,A4,A6,A7,AY]
 refine BK (BK (BK (NU (AT hsl ?_))))
 refine NU (ldI hsl (NU (BM (TJ rfl ?_))))
 refine AW (fun he=>h _ _ (JT.refl h1 h2 hf he)) fun h0=> ?_
 refine AT (by omega) (XV (v:=1) (by omega) ?_)
 refine FP (α:=List Int×Nat×List Int×List Int×List Int) (fun q=>[iv q.2.2.1.length,iv q.2.1]) (fun q=>[tI q.1,tI q.2.2.2.1,tI q.2.2.2.2]) (fun q=>q.2.2.1.length+2*JM q.2.2.2.2 1) (fun q=>Vw q.1 q.2.1 q.2.2.1∧O6 os 1 (-1) cs col s q.2.2.1 q.2.2.2.1 q.2.2.2.2) ([(s:Int)],0,[(s:Int)],cs,col.set s 1) rfl rfl ⟨Vw.new _,O6.start hs h1 h2 hf h0⟩ (fun R q hq hR=> ?_)
 obtain ⟨row,off,todo,cs1,col1⟩:=q
 obtain ⟨vw,wk⟩:=hq
 simp only at vw wk
 have hsz:=wk.sz
 have hbd:=vw.bd
 simp only [AH,AR,AN,AS,AJ,AD,AG,AP,AO,AK,AM,AL,AI,AQ,BD,BI,BH,BJ,BG,BF,BE,A5,AZ,A4,A6,A7,AY]
 simp only [A9]
 refine I7 (AW (fun hlt=> ?_) fun hge=> ?_)
 ·have hlt:todo.length>0:=by omega
  obtain ⟨k,hk⟩: ∃k,(gI todo (todo.length-1)).toNat=k:=⟨_,rfl⟩
  obtain ⟨e1,k8,wj⟩:=wk.pop hlt hk
  have ev:((todo.length:Int)-1)=((todo.length-1:Nat):Int):=by omega
  refine H6 ⟨by omega,by omega⟩ ?_
  rw [ev]
  refine AT (by omega) ?_
  have eg:=vw.get (j:=todo.length-1) (by omega)
  have el:ldc (tI row) [] (off+AA (iv (todo.length-1))*1)=ldc (tI row) [] (AA (iv (off+(todo.length-1)))*1):=by rw [A9,A9];congr 1;omega
  rw [el]
  refine ldI (by omega) ?_
  rw [eg,e1]
  refine H6 ⟨by omega,by omega⟩ ?_
  rw [ev]
  refine XH (by omega) (M9 hol hof k8 ?_)
  have hkl:=NL hof (k:=k) (by omega)
  refine FP (α:=Nat×List Int×Nat×List Int×List Int×List Int) (fun q=>[iv q.2.2.2.1.length,iv q.2.2.1,iv q.1]) (fun q=>[tI q.2.1,tI (BP os k),tI q.2.2.2.2.1,tI q.2.2.2.2.2]) (fun q=>(BP os k).length-q.1) (fun q=>q.1≤(BP os k).length∧Vw q.2.1 q.2.2.1 q.2.2.2.1∧PO os 1 (-1) cs col s k q.1 q.2.2.2.1 q.2.2.2.2.1 q.2.2.2.2.2∧q.2.2.2.1.length+2*JM q.2.2.2.2.2 1<todo.length+2*JM col1 1) (0,row,off,todo.dropLast,cs1,col1) ?_ rfl ⟨Nat.zero_le _,vw.pop,wj,by simp only [List.length_dropLast];omega⟩ (fun R2 q hq hR2=> ?_)
  ·simp only [List.length_dropLast,A9,Nat.zero_mul,Nat.add_zero];rfl
  obtain ⟨j,row2,off2,todo2,cs2,col2⟩:=q
  obtain ⟨hj,vw2,wj2,hms⟩:=hq
  simp only at hj vw2 wj2 hms
  have hsz2:=wj2.sz
  have hbd2:=vw2.bd
  have hl2:=wj2.len
  simp only [AH,AR,AN,AS,AJ,AD,AG,AP,AO,AK,AM,AL,AI,AQ,BD,BI,BH,BJ,BG,BF,BE,A5,AZ,A4,A6,A7,AY]
  simp only [A9]
  refine A8 (AW (fun hlj=> ?_) fun hgj=> ?_)
  ·have hlj:j<(BP os k).length:=by omega
   obtain ⟨x,hx⟩: ∃x,(gI (BP os k) j).toNat=x:=⟨_,rfl⟩
   obtain ⟨x1,x2,x3,_⟩:=CO (DW hlj)
   rw [hx] at x2 x3
   have xc:x<cs2.length:=by omega
   have xl:x<col2.length:=by omega
   refine BQ (AT hlj (ldI hlj (AT hlj (ldI hlj ?_))))
   rw [x3]
   refine AT xc (ldI xc (VC (AT xc (XV xc (AT hlj (ldI hlj ?_))))))
   rw [x3]
   refine AT xl (ldI xl (CA (AW (fun hne=> ?_) fun heq=> ?_)))
   ·refine AT hlj (ldI hlj ?_)
    rw [x3]
    refine AT xl (XV (v:=1) xl (AT hlj (ldI hlj ?_)))
    rw [x3]
    have wn:=wj2.new hlj x3 hne
    have:=LM (a:=col2) (b:=col2.set x 1) (c:=1) x2 hne (by rw [EI xl];simp) fun y _ hy=>by rw [EI xl];split <;> first | rfl | exact hy
    refine EJ rfl (by omega) (BA (by omega) ?_)
    have:=hR2 (j+1,todo2++[(x:Int)],0,todo2++[(x:Int)],_,_) ⟨by simp only;omega,Vw.new _,wn,by simp only [List.length_append,List.length_singleton];omega⟩ (by simp only;omega)
    simp only [Nat.mul_one,PF,vw2.vw]
    have ea:tI todo2++[T.c (I (x:Int))]=tI (todo2++[(x:Int)]):=EB _ _
    rw [ea]
    simp only [AH,AR,AN,AS,AJ,AD,AG,AP,AO,AK,AM,AL,AI,AQ,BD,BI,BH,BJ,BG,BF,BE,A5,AZ,A4,A6,A7,AY]
    simp only [A9]
    exact this
   ·have heq:gI col2 x=1:=Decidable.not_not.1 heq
    have wo:=wj2.old hlj x3 heq
    refine BA (by omega) ?_
    have:=hR2 (j+1,row2,off2,todo2,_,_) ⟨by simp only;omega,vw2,wo,hms⟩ (by simp only;omega)
    simp only [AH,AR,AN,AS,AJ,AD,AG,AP,AO,AK,AM,AL,AI,AQ,BD,BI,BH,BJ,BG,BF,BE,A5,AZ,A4,A6,A7,AY]
    simp only [A9]
    exact this
  ·have:j=(BP os k).length:=by omega
   subst this
   have:=hR (row2,off2,todo2,cs2,col2) ⟨vw2,wj2.stop⟩ hms
   exact this
 ·have:todo=[]:=List.length_eq_zero_iff.1 (by omega)
  subst this
  exact h _ _ wk.stop
end Go.Proofs.Ytklmcfpgdfibnaa.P
namespace Go.Proofs.Ytklmcfpgdfibnaa.P
open Go Go.Proofs.Ytklmcfpgdfibnaa Go.Proofs.Ytklmcfpgdfibnaa.Eng
set_option linter.unusedVariables false
set_option maxHeartbeats 4000000
set_option linter.unusedVariables false
set_option linter.unusedSimpArgs false
attribute [local irreducible] prP gP gE gF AX ixW ldc ldg ldl stc stg scW mkW apW BN cl2 BV EN CJ
variable {w0:World}
theorem UM {os:List AV} {b c' d:List T} {cs col:List Int} {id:Int} {K:J2} (hol:os.length=8) (hof: ∀o∈os,OF o) (h1:cs.length=8) (h2:col.length=8) (hf: ∀i,i<8→F64 (gI cs i)) (hno:AB os id<0→K [] [tI cs,tI col]) (h: ∀s:Nat,AB os id=s→s<8→ ∀cs' col',JT os 1 (-1) cs col cs' col' s→K [] [tI cs',tI col']):cl2 ⟨Try.prog,w0⟩ 57 FG.sg [I (AB os id)] [tR tO os,b,c',d,tI cs,tI col] K:=by
 refine FG.cl2 ?_
 unfold FG.txt
 refine NB (by omega) (by omega) (BQ (RF hol h1 h2 (fun hs=>BU (hno hs)) fun hs=>B2 ?_))
 have hk:=BO hs
 obtain ⟨s,hss⟩: ∃s,(AB os id).toNat=s:=⟨_,rfl⟩
 have hsI:AB os id=(s:Int):=by omega
 have hs:s<8:=hss ▸ hk.2.2.2.1
 rw [hsI]
 exact S1 hol hof ⟨by omega,by omega⟩ ⟨by omega,by omega⟩ 8 (TV _ _) hs h1 h2 hf fun cs' col' p=>h s hsI hs _ _ p
def EX (os:List AV) (ct:Nat→Int) (C:Nat→Bool) (x:Nat):Prop:=w64 (ct x-S os C x)>0
structure SN (os:List AV) (ct:Nat→Int) (C:Nat→Bool) (cs col:List Int):Prop where
 len:cs.length=8∧col.length=8
 f: ∀i,i<8→F64 (gI cs i)
 rng: ∀k,k<8→gI col k=0∨gI col k=1∨gI col k=2
 out: ∀k,k<8→C k=false→gI col k=0
 cnt: ∀i,i<8→gI cs i=w64 (ct i-S os (fun k=> !isC col 0 k) i)
 blk: ∀k,k<8→C k=true→gI col k=0→(∃x,x<8∧C x=true∧EX os ct C x∧Reach os x k)∧ ∀j∈BP os k,gI col j.toNat=0
 wht: ∀k,k<8→gI col k=2→ ¬EX os ct C k
structure QU (os:List AV) (ct:Nat→Int) (C:Nat→Bool) (col cs' col':List Int) (s:Nat):Prop where
 si:SN os ct C cs' col'
 ng: ∀k,k<8→gI col k≠1→gI col' k≠1
 got:gI col' s≠1
 wk: ∀k,k<8→gI col' k=2→gI col k=2∨ ∀j∈BP os k,gI col' j.toNat≠1
section
variable {os:List AV} {ct:Nat→Int} {C:Nat→Bool} {cs col cs' col':List Int} {s:Nat}
theorem SN.o7 (h:SN os ct C cs col) (hs:s<8) (hg:gI col s=1):gI cs s>0↔EX os ct C s:=by
 have e:S os (fun k=> !isC col 0 k) s=S os C s:=by
  refine K8 fun b hb=> ?_
  by_cases h0:gI col b=0
  ·have e1:isC col 0 b=true:=by simp [isC,h0]
   simp only [e1]
   cases hc:C b with
   | false=>simp
   | true=>
     have e2:E os b s=0:=tG fun hm=>by
      have:=(h.blk b hb hc h0).2 _ hm
      rw [Int.toNat_natCast,hg] at this;omega
     simp [e2]
  ·have e1:isC col 0 b=false:=by simp [isC,h0]
   simp only [e1]
   cases hc:C b with
   | false=>exact absurd (h.out b hb hc) h0
   | true=>simp
 rw [h.cnt s hs,e];rfl
theorem SN.inC (h:SN os ct C cs col) (hs:s<8) (hg:gI col s≠0):C s=true:=by
 cases hc:C s with
 | false=>exact absurd (h.out s hs hc) hg
 | true=>rfl
theorem SN.black (h:SN os ct C cs col) (hs:s<8) (hg:gI col s=1) (he:EX os ct C s) (p:JT os 0 1 cs col cs' col' s):QU os ct C col cs' col' s:=by
 refine ⟨⟨p.len,p.f,fun k hk=> ?_,fun k hk hc=>p.JN k hk (h.out k hk hc),fun i hi=> ?_,fun k hk hc h0=> ?_,fun k hk h2=> ?_⟩,fun k hk h1=> ?_,by rw [p.got];decide,fun k hk h2=> .inl ?_⟩
 ·by_cases h0:gI col' k=0
  ·exact .inl h0
  ·rw [p.only k hk h0];exact h.rng k hk
 ·rw [p.cnt i hi,h.cnt i hi,MM]
  congr 1
  have e1:=ZR (os:=os) (P:=isC col' 0) (i:=i)
  have e2:=ZR (os:=os) (P:=isC col 0) (i:=i)
  omega
 ·by_cases h3:gI col k=0
  ·obtain ⟨g1,g2⟩:=h.blk k hk hc h3
   exact ⟨g1,fun j hj=>p.JN _ (CO hj).2.1 (g2 j hj)⟩
  ·obtain ⟨g1,g2⟩:=p.clo k hk h0 h3
   exact ⟨⟨s,hs,h.inC hs (by omega),he,g1⟩,g2⟩
 ·have:=p.only k hk (by omega)
  exact h.wht k hk (by omega)
 ·by_cases h0:gI col' k=0
  ·omega
  ·rw [p.only k hk h0];exact h1
 ·have:=p.only k hk (by omega)
  omega
theorem SN.fU (h:SN os ct C cs col) (hs:s<8) (hg:gI col s=1) (he: ¬EX os ct C s):SN os ct C cs (col.set s 2):=by
 have hl:=h.len
 have e: ∀k,gI (col.set s 2) k=if k=s then 2 else gI col k:=fun k=>EI (by omega)
 refine ⟨⟨hl.1,by simpa using hl.2⟩,h.f,fun k hk=> ?_,fun k hk hc=> ?_,fun i hi=> ?_,fun k hk hc h0=> ?_,fun k hk h2=> ?_⟩
 ·rw [e];split
  ·exact .inr (.inr rfl)
  ·exact h.rng k hk
 ·rw [e];split
  ·rename_i hks;subst hks;have:=h.out k hk hc;omega
  ·exact h.out k hk hc
 ·rw [h.cnt i hi]
  congr 2
  refine fP fun k hk=> ?_
  simp only [isC,e]
  split
  ·rename_i hks;subst hks;simp [hg]
  ·rfl
 ·rw [e] at h0
  split at h0
  ·omega
  ·obtain ⟨g1,g2⟩:=h.blk k hk hc h0
   refine ⟨g1,fun j hj=> ?_⟩
   rw [e];split
   ·rename_i hjs;have:=g2 j hj;rw [hjs] at this;omega
   ·exact g2 j hj
 ·rw [e] at h2
  split at h2
  ·rename_i hks;subst hks;exact he
  ·exact h.wht k hk h2
theorem SN.same (h:SN os ct C cs col) (hg:gI col s≠1):QU os ct C col cs col s:=⟨h,fun _ _ h=>h,hg,fun _ _ h=> .inl h⟩
end
structure O4 (os:List AV) (ct:Nat→Int) (C:Nat→Bool) (col:List Int) (s:Nat) (q:Nat×List Int×List Int):Prop where
 j:q.1≤(BP os s).length
 si:SN os ct C q.2.1 q.2.2
 ng: ∀k,k<8→gI col k≠1∨k=s→gI q.2.2 k≠1
 wk: ∀k,k<8→k≠s→gI q.2.2 k=2→gI col k=2∨ ∀j∈BP os k,gI q.2.2 j.toNat≠1
 done: ∀x∈(BP os s).take q.1,gI q.2.2 x.toNat≠1
section
variable {os:List AV} {ct:Nat→Int} {C:Nat→Bool} {cs col cs1 col1 cs2 col2:List Int} {s j:Nat}
theorem O4.start (h:SN os ct C cs col) (hs:s<8) (hg:gI col s=1) (he: ¬EX os ct C s):O4 os ct C col s (0,cs,col.set s 2):=by
 have hl:=h.len
 have e: ∀k,gI (col.set s 2) k=if k=s then 2 else gI col k:=fun k=>EI (by omega)
 refine ⟨Nat.zero_le _,h.fU hs hg he,fun k hk hh=> ?_,fun k hk hne h2=> ?_,fun x hx=>by simp at hx⟩
 ·simp only;rw [e];split
  ·decide
  ·rename_i hh2;exact hh.resolve_right hh2
 ·simp only at h2;rw [e,if_neg hne] at h2;exact .inl h2
theorem O4.step (h:O4 os ct C col s (j,cs1,col1)) (hj:j<(BP os s).length) (p:QU os ct C col1 cs2 col2 (gI (BP os s) j).toNat):O4 os ct C col s (j+1,cs2,col2):=by
 refine ⟨by simp only;omega,p.si,fun k hk hh=>p.ng k hk (h.ng k hk hh),fun k hk hne h2=> ?_,fun x hx=> ?_⟩
 ·rcases p.wk k hk h2 with h3 | h3
  ·exact (h.wk k hk hne h3).imp_right fun g y hy=>p.ng _ (CO hy).2.1 (g y hy)
  ·exact .inr h3
 ·simp only at hx ⊢
  rw [List.take_succ_eq_append_getElem hj,List.mem_append,List.mem_singleton] at hx
  rcases hx with hx | rfl
  ·exact p.ng _ (CO (List.mem_of_mem_take hx)).2.1 (h.done x hx)
  ·rw [D4 hj];exact p.got
theorem O4.stop (hs:s<8) (h:O4 os ct C col s ((BP os s).length,cs1,col1)):QU os ct C col cs1 col1 s:=by
 refine ⟨h.si,fun k hk hh=>h.ng k hk (.inl hh),h.ng s hs (.inr rfl),fun k hk h2=> ?_⟩
 by_cases hks:k=s
 ·subst hks
  exact .inr fun y hy=>h.done y (by simp only;rw [List.take_length];exact hy)
 ·exact h.wk k hk hks h2
end
theorem aT {os:List AV} {b c' d:List T} {ct:Nat→Int} {C:Nat→Bool} (hol:os.length=8) (hof: ∀o∈os,OF o): ∀(n:Nat) {cs col:List Int} {s:Nat} {K:J2},8-JM col 1≤n→s<8→SN os ct C cs col→(∀cs' col',QU os ct C col cs' col' s→K [] [tI cs',tI col'])→cl2 ⟨Try.prog,w0⟩ 117 CF.sg [I s] [tI cs,tI col,tR tO os,b,c',d] K:=by
 intro n
 induction n with
 | zero=>
   intro cs col s K hn hs si h
   have hl:=si.len
   have:gI col s≠1:=fun hg=>by
    have:=LM (a:=col.set s 2) (b:=col) (c:=1) hs (by rw [EI (by omega)];simp) hg fun k hk hh=>by
     rw [EI (by omega)] at hh
     split at hh
     ·omega
     ·exact hh
    have:=TV (col.set s 2) 1
    omega
   refine CF.cl2 ?_
   unfold CF.txt
   simp only [AH,AR,AN,AS,AJ,AD,AG,AP,AO,AK,AM,AL,AI,AQ,BD,BI,BH,BJ,BG,BF,BE,A5,AZ,A4,A6,A7,AY]
   refine AT (by omega) (ldI (by omega) (CA (C3 this (h _ _ (si.same this)))))
 | succ n ih=>
   intro cs col s K hn hs si h
   have hl:=si.len
   refine CF.cl2 ?_
   unfold CF.txt
   simp only [AH,AR,AN,AS,AJ,AD,AG,AP,AO,AK,AM,AL,AI,AQ,BD,BI,BH,BJ,BG,BF,BE,A5,AZ,A4,A6,A7,AY]
   refine AT (by omega) (ldI (by omega) (CA (AW (fun hg=>h _ _ (si.same hg)) fun hg=> ?_)))
   have hg:gI col s=1:=Decidable.not_not.1 hg
   refine AT (by omega) (ldI (by omega) (I7 (AW (fun he=> ?_) fun he=> ?_)))
   ·have he:=(si.o7 hs hg).1 he
    exact S1 hol hof ⟨by omega,by omega⟩ ⟨by omega,by omega⟩ 8 (TV _ _) hs hl.1 hl.2 si.f fun cs' col' p=>h _ _ (si.black hs hg he p)
   have he:=fun hx=>he ((si.o7 hs hg).2 hx)
   refine AT (by omega) (XV (v:=2) (by omega) (PY hol hof hs ?_))
   have hkl:=NL hof (k:=s) (by omega)
   refine FP (α:=Nat×List Int×List Int) (fun q=>[iv (BP os s).length,iv q.1]) (fun q=>[tI (BP os s),tI q.2.1,tI q.2.2]) (fun q=>(BP os s).length-q.1) (O4 os ct C col s) (0,cs,col.set s 2) (by simp only [AH,AR,AN,AS,AJ,AD,AG,AP,AO,AK,AM,AL,AI,AQ,BD,BI,BH,BJ,BG,BF,BE,A5,AZ,A4,A6,A7,AY];rfl) rfl (O4.start si hs hg he) (fun R q hq hR=> ?_)
   obtain ⟨j,cs1,col1⟩:=q
   have hj:=hq.j
   simp only at hj
   simp only [AH,AR,AN,AS,AJ,AD,AG,AP,AO,AK,AM,AL,AI,AQ,BD,BI,BH,BJ,BG,BF,BE,A5,AZ,A4,A6,A7,AY]
   refine A8 (AW (fun hlt=> ?_) fun hge=> ?_)
   ·have hlt:j<(BP os s).length:=by omega
    obtain ⟨x1,x2,x3,_⟩:=CO (DW hlt)
    have hmiss:8-JM col1 1≤n:=by
     have:=LM (a:=col1) (b:=col) (c:=1) hs (hq.ng s hs (.inr rfl)) hg fun k hk hh=>by
      by_cases h3:gI col k=1
      ·exact h3
      ·exact absurd hh (hq.ng k hk (.inl h3))
     have:=TV col1 1
     omega
    have stp:=fun cs2 col2=>O4.step (cs2:=cs2) (col2:=col2) hq hlt
    obtain ⟨x,hx⟩: ∃x,(gI (BP os s) j).toNat=x:=⟨_,rfl⟩
    rw [hx] at x2 x3 stp
    refine AT hlt (ldI hlt ?_)
    rw [x3]
    refine ih hmiss x2 hq.si fun cs2 col2 p=> ?_
    exact BA (by omega) (hR (j+1,cs2,col2) (stp _ _ p) (by simp only;omega))
   ·have:j=(BP os s).length:=by omega
    subst this
    exact h _ _ (O4.stop hs hq)
end Go.Proofs.Ytklmcfpgdfibnaa.P
namespace Go.Proofs.Ytklmcfpgdfibnaa.P
open Go Go.Proofs.Ytklmcfpgdfibnaa Go.Proofs.Ytklmcfpgdfibnaa.Eng
set_option linter.unusedVariables false
set_option maxHeartbeats 4000000
set_option linter.unusedVariables false
set_option linter.unusedSimpArgs false
attribute [local irreducible] prP gP gE gF AX ixW ldc ldg ldl stc stg scW mkW apW BN cl2 BV EN CJ
variable {w0:World}
theorem UO {os:List AV} {b c' d:List T} {cs col:List Int} {ct:Nat→Int} {C:Nat→Bool} {id:Int} {K:J2} (hol:os.length=8) (hof: ∀o∈os,OF o) (si:SN os ct C cs col) (hno:AB os id<0→K [] [tI cs,tI col]) (h: ∀s:Nat,AB os id=s→s<8→ ∀cs' col',QU os ct C col cs' col' s→K [] [tI cs',tI col']):cl2 ⟨Try.prog,w0⟩ 59 FB.sg [I (AB os id)] [tR tO os,b,c',d,tI cs,tI col] K:=by
 have hl:=si.len
 refine FB.cl2 ?_
 unfold FB.txt
 refine NB (by omega) (by omega) (BQ (RF hol hl.1 hl.2 (fun hs=>BU (hno hs)) fun hs=>B2 ?_))
 have hk:=BO hs
 obtain ⟨s,hss⟩: ∃s,(AB os id).toNat=s:=⟨_,rfl⟩
 have hsI:AB os id=(s:Int):=by omega
 have hs:s<8:=hss ▸ hk.2.2.2.1
 rw [hsI]
 exact aT hol hof 8 (by omega) hs si fun cs' col' p=>h s hsI hs _ _ p
structure LS (os:List AV) (ct:Nat→Int) (C:Nat→Bool) (col0:List Int) (s:Nat) (todo cs col:List Int):Prop where
 si:SN os ct C cs col
 ng: ∀k,k<8→gI col0 k≠1→gI col k≠1
 wk: ∀k,k<8→gI col k=2→gI col0 k=2∨ ∀j∈BP os k,gI col j.toNat≠1∨j∈todo
 got:gI col s≠1∨(s:Int)∈todo
 td: ∀x∈todo,0≤x∧x.toNat<8
 sz:todo.length+4*(8-JM col 1)≤40
section
variable {os:List AV} {ct:Nat→Int} {C:Nat→Bool} {col0 cs col cs' col' todo:List Int} {s k:Nat}
theorem LS.stop (h:LS os ct C col0 s [] cs col):QU os ct C col0 cs col s:=
 ⟨h.si,h.ng,h.got.resolve_right (by simp),fun k hk h2=>(h.wk k hk h2).imp_right fun g j hj=>(g j hj).resolve_right (by simp)⟩
theorem QJ {x:Int} (hl:todo.length>0) (hk:gI todo (todo.length-1)=(k:Int)) (h:x∈todo):x∈todo.dropLast∨x=(k:Int):=by
 rw [YZ hl,List.mem_append,List.mem_singleton,hk] at h;exact h
theorem LS.drop (h:LS os ct C col0 s todo cs col) (hl:todo.length>0) (hk:gI todo (todo.length-1)=(k:Int)) (hc:gI col k≠1):LS os ct C col0 s todo.dropLast cs col:=by
 refine ⟨h.si,h.ng,fun x hx h2=>(h.wk x hx h2).imp_right fun g j hj=> ?_, ?_,fun x hx=>h.td x (List.dropLast_subset _ hx),by have:=h.sz;rw [List.length_dropLast];omega⟩
 ·rcases g j hj with g | g
  ·exact .inl g
  ·rcases QJ hl hk g with g | rfl
   ·exact .inr g
   ·rw [Int.toNat_natCast];exact .inl hc
 ·rcases h.got with g | g
  ·exact .inl g
  ·rcases QJ hl hk g with g | g
   ·exact .inr g
   ·have:s=k:=by omega
    subst this;exact .inl hc
theorem LS.black (h:LS os ct C col0 s todo cs col) (hl:todo.length>0) (hk:gI todo (todo.length-1)=(k:Int)) (p:QU os ct C col cs' col' k):LS os ct C col0 s todo.dropLast cs' col':=by
 have hm:JM col 1≤JM col' 1:=gA (a:=col') (b:=col) fun y hy h1=>Decidable.byContradiction fun hh=>p.ng y hy hh h1
 refine ⟨p.si,fun x hx h1=>p.ng x hx (h.ng x hx h1),fun x hx h2=> ?_, ?_,fun x hx=>h.td x (List.dropLast_subset _ hx),by have:=h.sz;rw [List.length_dropLast];omega⟩
 ·rcases p.wk x hx h2 with h3 | h3
  ·refine (h.wk x hx h3).imp_right fun g j hj=> ?_
   rcases g j hj with g | g
   ·exact .inl (p.ng _ (CO hj).2.1 g)
   ·rcases QJ hl hk g with g | rfl
    ·exact .inr g
    ·rw [Int.toNat_natCast];exact .inl p.got
  ·exact .inr fun j hj=> .inl (h3 j hj)
 ·rcases h.got with g | g
  ·by_cases hs:s<8
   ·exact .inl (p.ng s hs g)
   ·have e:gI col' s=0:=by
     unfold gI;rw [List.getD_eq_getElem?_getD,List.getElem?_eq_none (by have:=p.si.len.2;omega)];rfl
    rw [e];exact .inl (by decide)
  ·rcases QJ hl hk g with g | g
   ·exact .inr g
   ·have:s=k:=by omega
    subst this;exact .inl p.got
theorem LS.fU (hof: ∀o∈os,OF o) (hol:os.length=8) (h:LS os ct C col0 s todo cs col) (hl:todo.length>0) (hk:gI todo (todo.length-1)=(k:Int)) (k8:k<8) (hg:gI col k=1) (he: ¬EX os ct C k):LS os ct C col0 s (todo.dropLast++BP os k) cs (col.set k 2)∧(todo.dropLast++BP os k).length+4*(8-JM (col.set k 2) 1)<todo.length+4*(8-JM col 1):=by
 have hlen:=h.si.len
 have e: ∀x,gI (col.set k 2) x=if x=k then 2 else gI col x:=fun x=>EI (by omega)
 have n1: ∀x,gI col x≠1∨x=k→gI (col.set k 2) x≠1:=fun x hx=>by
  rw [e];split
  ·decide
  ·rename_i hh;exact hx.resolve_right hh
 have hkl:=NL hof (k:=k) (by omega)
 have hm:JM col 1<JM (col.set k 2) 1:=LM (a:=col.set k 2) (b:=col) k8 (n1 k (.inr rfl)) hg fun y hy h1=>Decidable.byContradiction fun hh=>n1 y (.inl hh) h1
 have hm8:=TV (col.set k 2) 1
 have hsz:=h.sz
 refine ⟨⟨h.si.fU k8 hg he,fun x hx h1=>n1 x (.inl (h.ng x hx h1)),fun x hx h2=> ?_, ?_,fun x hx=> ?_,by rw [List.length_append,List.length_dropLast];omega⟩,by rw [List.length_append,List.length_dropLast];omega⟩
 ·by_cases hxk:x=k
  ·subst hxk
   exact .inr fun j hj=> .inr (List.mem_append_right _ hj)
  ·rw [e,if_neg hxk] at h2
   refine (h.wk x hx h2).imp_right fun g j hj=> ?_
   rcases g j hj with g | g
   ·exact .inl (n1 _ (.inl g))
   ·rcases QJ hl hk g with g | rfl
    ·exact .inr (List.mem_append_left _ g)
    ·rw [Int.toNat_natCast];exact .inl (n1 _ (.inr rfl))
 ·rcases h.got with g | g
  ·exact .inl (n1 _ (.inl g))
  ·rcases QJ hl hk g with g | g
   ·exact .inr (List.mem_append_left _ g)
   ·exact .inl (n1 _ (.inr (by omega)))
 ·rcases List.mem_append.1 hx with hx | hx
  ·exact h.td x (List.dropLast_subset _ hx)
  ·exact ⟨(CO hx).1,(CO hx).2.1⟩
theorem LS.start (si:SN os ct C cs col) (hs:s<8):LS os ct C col s [(s:Int)] cs col:=
 ⟨si,fun _ _ h=>h,fun _ _ h=> .inl h, .inr (by simp),fun x hx=>by have hx:x=(s:Int):=by simpa using hx
                                                                  subst hx;rw [Int.toNat_natCast];exact ⟨by omega,hs⟩,by simp only [List.length_singleton];omega⟩
end
theorem UJ {os:List AV} {b c' d:List T} {cs col:List Int} {ct:Nat→Int} {C:Nat→Bool} {id:Int} {K:J2} (hol:os.length=8) (hof: ∀o∈os,OF o) (si:SN os ct C cs col) (hno:AB os id<0→K [] [tI cs,tI col]) (h: ∀s:Nat,AB os id=s→s<8→ ∀cs' col',QU os ct C col cs' col' s→K [] [tI cs',tI col']):cl2 ⟨Try.prog,w0⟩ 157 FD.sg [I (AB os id)] [tR tO os,b,c',d,tI cs,tI col] K:=by
 have hl:=si.len
 refine FD.cl2 ?_
 unfold FD.txt
 refine Q6 (by omega) (by omega) (T4 hol hl.1 hl.2 (fun hs=>B4 (B2 (hno hs))) fun hs=> ?_)
 have hk:=BO hs
 obtain ⟨s,hss⟩: ∃s,(AB os id).toNat=s:=⟨_,rfl⟩
 have hsI:AB os id=(s:Int):=by omega
 have hs:s<8:=hss ▸ hk.2.2.2.1
 replace h:=h s hsI hs
 clear hno
 rw [hsI]
 refine B4 (BU ?_)
 refine FP (α:=List Int×Nat×List Int×List Int×List Int) (fun q=>[iv q.2.2.1.length,iv q.2.1]) (fun q=>[tI q.1,tI q.2.2.2.1,tI q.2.2.2.2]) (fun q=>q.2.2.1.length+4*(8-JM q.2.2.2.2 1)) (fun q=>Vw q.1 q.2.1 q.2.2.1∧LS os ct C col s q.2.2.1 q.2.2.2.1 q.2.2.2.2) ([(s:Int)],0,[(s:Int)],cs,col) rfl rfl ⟨Vw.new _,LS.start si hs⟩ (fun R q hq hR=> ?_)
 obtain ⟨row,off,todo,cs1,col1⟩:=q
 obtain ⟨vw,wk⟩:=hq
 simp only at vw wk
 have hsz:=wk.sz
 have hbd:=vw.bd
 have hlen:=wk.si.len
 simp only [AH,AR,AN,AS,AJ,AD,AG,AP,AO,AK,AM,AL,AI,AQ,BD,BI,BH,BJ,BG,BF,BE,A5,AZ,A4,A6,A7,AY]
 simp only [A9]
 refine I7 (AW (fun hlt=> ?_) fun hge=> ?_)
 ·have hlt:todo.length>0:=by omega
  obtain ⟨k,hk⟩: ∃k,(gI todo (todo.length-1)).toNat=k:=⟨_,rfl⟩
  have ht:=wk.td _ (DW (l:=todo) (i:=todo.length-1) (by omega))
  have e1:gI todo (todo.length-1)=(k:Int):=by omega
  have k8:k<8:=hk ▸ ht.2
  have ev:((todo.length:Int)-1)=((todo.length-1:Nat):Int):=by omega
  refine H6 ⟨by omega,by omega⟩ ?_
  rw [ev]
  refine AT (by omega) ?_
  have eg:=vw.get (j:=todo.length-1) (by omega)
  have el:ldc (tI row) [] (off+AA (iv (todo.length-1))*1)=ldc (tI row) [] (AA (iv (off+(todo.length-1)))*1):=by rw [A9,A9];congr 1;omega
  rw [el]
  refine ldI (by omega) ?_
  rw [eg,e1]
  refine H6 ⟨by omega,by omega⟩ ?_
  rw [ev]
  have kc:k<cs1.length:=by omega
  have kl:k<col1.length:=by omega
  have le:todo.dropLast.length=todo.length-1:=List.length_dropLast
  refine XH (by omega) (AT kl (ldI kl (CA (AW (fun hg=> ?_) fun hg=> ?_))))
  ·have:=hR (row,off,todo.dropLast,cs1,col1) ⟨vw.pop,wk.drop hlt e1 hg⟩ (by simp only;omega)
   simp only [le] at this
   simp only [A9,Nat.zero_mul,Nat.add_zero]
   exact this
  have hg:gI col1 k=1:=Decidable.not_not.1 hg
  refine AT kc (ldI kc (I7 (AW (fun he=> ?_) fun he=> ?_)))
  ·have he:=(wk.si.o7 k8 hg).1 he
   refine WE hol hof k8 hlen.1 hlen.2 wk.si.f (by omega) fun cs' col' p=> ?_
   have sr:=wk.si.black k8 hg he p
   have hm:JM col1 1≤JM col' 1:=gA (a:=col') (b:=col1) fun y hy h1=>Decidable.byContradiction fun hh=>sr.ng y hy hh h1
   have:=hR (row,off,todo.dropLast,cs',col') ⟨vw.pop,wk.black hlt e1 sr⟩ (by simp only;omega)
   simp only [le] at this
   simp only [A9,Nat.zero_mul,Nat.add_zero]
   exact this
  ·have he:=fun hx=>he ((wk.si.o7 k8 hg).2 hx)
   have hkl:=NL hof (k:=k) (by omega)
   obtain ⟨w1,w2⟩:=wk.fU hof hol hlt e1 k8 hg he
   refine AT kl (XV (v:=2) kl (M9 hol hof k8 ?_))
   simp only [AH,AR,AN,AS,AJ,AD,AG,AP,AO,AK,AM,AL,AI,AQ,BD,BI,BH,BJ,BG,BF,BE,A5,AZ,A4,A6,A7,AY]
   simp only [A9,Nat.zero_mul,Nat.add_zero,Nat.mul_one,PF]
   refine EJ (MI _) (by omega) ?_
   have ep:=vw.pop.vw
   rw [le] at ep
   rw [ep]
   have:=hR (todo.dropLast++BP os k,0,todo.dropLast++BP os k,cs1,col1.set k 2) ⟨Vw.new _,w1⟩ w2
   have ea:tI todo.dropLast++tI (BP os k)=tI (todo.dropLast++BP os k):=by simp [tI]
   rw [ea,AD]
   exact this
 ·have:todo=[]:=List.length_eq_zero_iff.1 (by omega)
  subst this
  exact h _ _ wk.stop
end Go.Proofs.Ytklmcfpgdfibnaa.P
