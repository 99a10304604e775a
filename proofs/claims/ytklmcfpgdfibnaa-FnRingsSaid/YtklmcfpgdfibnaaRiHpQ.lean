/- A part of the proof. -/
import Derived.Test.YtklmcfpgdfibnaaRiHpL
namespace Go.Proofs.Ytklmcfpgdfibnaa.P
open Go Go.Proofs.Ytklmcfpgdfibnaa Go.Proofs.Ytklmcfpgdfibnaa.Eng
set_option linter.unusedVariables false
set_option maxHeartbeats 4000000
set_option linter.unusedVariables false
set_option linter.unusedSimpArgs false
attribute [local irreducible] prP gP gE gF AW ixW ldc ldg ldl stc stg scW mkW apW AZ cl2 BJ CH B2
variable {w0:World}
theorem kT {os:List AE} {l:List Int} {i:Nat} (hi:i<l.length):((l.take (i+1)).map (AA os)).filter (fun x=>decide (0≤x))=((l.take i).map (AA os)).filter (fun x=>decide (0≤x))++(if 0≤AA os (gI l i) then [AA os (gI l i)] else []):=by
 rw [List.take_succ_eq_append_getElem hi,List.map_append,List.filter_append,DE hi]
 congr 1
 by_cases h:0≤AA os (gI l i) <;> simp [h]
theorem IT {os:List AE} {b c d:List T} {k:Nat} {K:J2} (hol:os.length=8) (hof: ∀o∈os,OF o) (hk:k<8) (h:K [] [tI (BC os k)]):cl2 ⟨Try.prog,w0⟩ 118 CN.sg [I k] [tR tO os,b,c,d] K:=by
 have hkl:k<os.length:=by omega
 have ho:=hof _ (JY hkl)
 refine CN.cl2 ?_
 unfold CN.txt
 simp only [AJ,AO,AS,AN,AQ,AG,AK,AI,AR,AT,AU,AM,AL,AP,BP,BU,BW,BT,BV,BS,BQ,AY,A6,A7,A4,A5,A8]
 refine BF hkl (ZL (f:=tO) (i:=k) hkl (by decide) rfl ?_)
 rw [MW hkl,AG,ho.len]
 refine BL (fun i=>[iv (AD (iv k)*8+6),iv 3,iv i]) (fun i=>[tI ((((ob os k).field.take i).map (AA os)).filter fun x=>decide (0≤x))]) 3 (fun _=>True) rfl rfl trivial (fun R i hi hP hR=> ?_)
 have hln:=List.length_filter_le (fun x=>decide (0≤x)) (((ob os k).field.take i).map (AA os))
 have hl2:(((ob os k).field.take i).map (AA os)).length≤i:=by simp;omega
 simp only [AJ,AO,AS,AN,AQ,AG,AK,AI,AR,AT,AU,AM,AL,AP,BP,BU,BW,BT,BV,BS,BQ,AY,A6,A7,A4,A5,A8]
 rw [BA (AD (iv k)*8+6),MW hkl,AG]
 refine BE (BB (fun hlt=> ?_) fun hge=> ?_)
 ·have hlt:i<(ob os k).field.length:=by have:=ho.len;omega
  replace hR:=hR (by omega) trivial
  rw [kT hlt] at hR
  refine DB (BF hlt (VL hkl hlt (B5 (ho.fld _ (D6 hlt)) (by omega) (Q3 (BB (fun hs=> ?_) fun hs=> ?_)))))
  ·rw [if_pos hs, ←F4] at hR
   refine GH rfl (by omega) (A9 (by omega) ?_)
   exact hR
  ·rw [if_neg hs,List.append_nil] at hR
   exact A9 (by omega) hR
 ·have:i=3:=by omega
  subst this
  have e:(ob os k).field.take 3=(ob os k).field:=List.take_of_length_le (by rw [ho.len];omega)
  rw [e];exact h
theorem vA {l:List Int} {i:Nat} {v:Int} {K:List T→Prop} (hi:i<l.length) (h:K (tI (l.set i v))):stc (tI l) [] (AD (iv i)*1) (I v) K:=vC hi h
structure KI (os:List AE) (c m:Int) (cs col:List Int) (s:Nat) (q:Nat×List Int×List Int):Prop where
 j:q.1≤(BC os s).length
 len:q.2.1.length=8∧q.2.2.length=8
 f: ∀i,i<8→F64 (gI q.2.1 i)
 II: ∀k,k<8→gI col k=c∨k=s→gI q.2.2 k=c
 only: ∀k,k<8→gI q.2.2 k≠c→gI q.2.2 k=gI col k
 clo: ∀k,k<8→k≠s→gI q.2.2 k=c→gI col k≠c→Reach os s k∧ ∀j∈BC os k,gI q.2.2 j.toNat=c
 done: ∀x∈(BC os s).take q.1,gI q.2.2 x.toNat=c
 cnt: ∀i,i<8→gI q.2.1 i=w64 (gI cs i+m*(S os (isC q.2.2 c) i-S os (isC col c) i-(((BC os s).drop q.1).count (i:Int):Nat)))
theorem KI.start {os:List AE} {c m:Int} {cs col:List Int} {s:Nat} (hs:s<8) (h1:cs.length=8) (h2:col.length=8) (hf: ∀i,i<8→F64 (gI cs i)) (h0:gI col s≠c):KI os c m cs col s (0,cs,col.set s c):=by
 refine ⟨Nat.zero_le _,⟨h1,by simpa using h2⟩,hf,fun k hk h=> ?_,fun k hk h=> ?_,fun k hk hne h3 h4=> ?_,fun x hx=>by simp at hx,fun i hi=> ?_⟩
 ·simp only;rw [EP (by omega)];split
  ·rfl
  ·rename_i hh;exact h.resolve_right hh
 ·simp only at h ⊢;rw [EP (by omega)] at h ⊢;split
  ·rename_i hh;rw [if_pos hh] at h;exact absurd rfl h
  ·rfl
 ·simp only at h3;rw [EP (by omega),if_neg hne] at h3;exact absurd h3 h4
 ·simp only
  have e:=nT (os:=os) (P:=isC col c) (Q:=isC (col.set s c) c) (i:=i) hs (by simp [isC,h0]) (by rw [O9 (by omega)];simp) fun k hk hne=>by rw [O9 (by omega)];simp [hne]
  rw [e,List.drop_zero]
  have:(((BC os s).count (i:Int):Nat):Int)=E os s i:=rfl
  rw [this]
  have e2:S os (isC col c) i+E os s i-S os (isC col c) i-E os s i=0:=by omega
  rw [e2,Int.mul_zero,Int.add_zero,G9 (hf i hi)]
theorem KI.step {os:List AE} {c m:Int} {cs col:List Int} {s:Nat} {j:Nat} {cs1 col1 cs2 col2:List Int} (hs:s<8) (h:KI os c m cs col s (j,cs1,col1)) (hj:j<(BC os s).length) (p:KH os c m (cs1.set (gI (BC os s) j).toNat (w64 (gI cs1 (gI (BC os s) j).toNat+m))) col1 cs2 col2 (gI (BC os s) j).toNat):KI os c m cs col s (j+1,cs2,col2):=by
 have hx:=BZ (D6 hj)
 have l1:=h.len
 refine ⟨by simp only;omega,p.len,p.f,fun k hk hh=>p.II k hk (h.II k hk hh),fun k hk hne=> ?_,fun k hk hne h3 h4=> ?_,fun x hx=> ?_,fun i hi=> ?_⟩
 ·have e:=p.only k hk hne
  simp only at hne ⊢
  rw [e]
  exact h.only k hk (by simp only;rw [←e];exact hne)
 ·by_cases h5:gI col1 k=c
  ·obtain ⟨g1,g2⟩:=h.clo k hk hne h5 h4
   exact ⟨g1,fun y hy=>p.II _ (BZ hy).2.1 (g2 y hy)⟩
  ·obtain ⟨g1,g2⟩:=p.clo k hk h3 h5
   exact ⟨Reach.trans (.step .refl (D6 hj)) g1,g2⟩
 ·simp only at hx ⊢
  rw [List.take_succ_eq_append_getElem hj,List.mem_append,List.mem_singleton] at hx
  rcases hx with hx | rfl
  ·exact p.II _ (BZ (List.mem_of_mem_take hx)).2.1 (h.done x hx)
  ·rw [DE hj];exact p.got
 ·have e1:=p.cnt i hi
  have e2:=h.cnt i hi
  simp only at e1 e2 ⊢
  rw [EP (by have:=h.len.1;simp only at this;omega)] at e1
  have e3:(((BC os s).drop j).count (i:Int):Int)=(if i=(gI (BC os s) j).toNat then 1 else 0)+(((BC os s).drop (j+1)).count (i:Int):Int):=by
   rw [drop_cons hj,List.count_cons]
   by_cases hh:i=(gI (BC os s) j).toNat
   ·have:(gI (BC os s) j==(i:Int))=true:=by simp;omega
    rw [if_pos hh,this];simp;omega
   ·have:(gI (BC os s) j==(i:Int))=false:=by simp;omega
    rw [if_neg hh,this];simp
  rw [e1]
  by_cases hh:i=(gI (BC os s) j).toNat
  ·rw [if_pos hh, ←hh,e2,LC,Int.add_assoc,LC]
   rw [if_pos hh] at e3
   congr 1
   rw [e3]
   generalize S os (isC col2 c) i=a
   generalize S os (isC col1 c) i=b
   generalize S os (isC col c) i=d
   generalize ((List.drop (j+1) (BC os s)).count (i:Int):Int)=e
   simp only [Int.mul_sub,Int.mul_add,Int.mul_one];omega
  ·rw [if_neg hh,e2,LC]
   rw [if_neg hh] at e3
   congr 1
   rw [e3]
   generalize S os (isC col2 c) i=a
   generalize S os (isC col1 c) i=b
   generalize S os (isC col c) i=d
   generalize ((List.drop (j+1) (BC os s)).count (i:Int):Int)=e
   simp only [Int.mul_sub,Int.mul_add,Int.mul_zero];omega
theorem KI.stop {os:List AE} {c m:Int} {cs col:List Int} {s:Nat} {cs1 col1:List Int} (hs:s<8) (h:KI os c m cs col s ((BC os s).length,cs1,col1)):KH os c m cs col cs1 col1 s:=by
 refine ⟨h.len,h.f,fun k hk hh=>h.II k hk (.inl hh),h.only,h.II s hs (.inr rfl),fun k hk h3 h4=> ?_,fun i hi=> ?_⟩
 ·by_cases hks:k=s
  ·subst hks
   exact ⟨.refl,fun y hy=>h.done y (by simp only;rw [List.take_length];exact hy)⟩
  ·exact h.clo k hk hks h3 h4
 ·have:=h.cnt i hi
  simp only [List.drop_length,List.count_nil] at this
  rw [this];simp
theorem RA {os:List AE} {b c' d:List T} {c m:Int} (hol:os.length=8) (hof: ∀o∈os,OF o) (hc:F64 c) (hm:F64 m): ∀(n:Nat) {cs col:List Int} {s:Nat} {K:J2},LP col c≤n→s<8→cs.length=8→col.length=8→(∀i,i<8→F64 (gI cs i))→(∀cs' col',KH os c m cs col cs' col' s→K [] [tI cs',tI col'])→cl2 ⟨Try.prog,w0⟩ 116 BX.sg [I s,I c,I m] [tI cs,tI col,tR tO os,b,c',d] K:=by
 intro n
 induction n with
 | zero=>
   intro cs col s K hn hs h1 h2 hf h
   refine BX.cl2 ?_
   unfold BX.txt
   simp only [AJ,AO,AS,AN,AQ,AG,AK,AI,AR,AT,AU,AM,AL,AP,BP,BU,BW,BT,BV,BS,BQ,AY,A6,A7,A4,A5,A8]
   refine BF (by omega) (ldI (by omega) (CT (BB (fun he=>h _ _ (KH.refl h1 h2 hf he)) fun he=> ?_)))
   have:=M6 (a:=col) (b:=col.set s c) (c:=c) hs he (by rw [EP (by omega)];simp) fun k hk hh=>by rw [EP (by omega)];split <;> first | rfl | exact hh
   exact absurd this (by omega)
 | succ n ih=>
   intro cs col s K hn hs h1 h2 hf h
   refine BX.cl2 ?_
   unfold BX.txt
   simp only [AJ,AO,AS,AN,AQ,AG,AK,AI,AR,AT,AU,AM,AL,AP,BP,BU,BW,BT,BV,BS,BQ,AY,A6,A7,A4,A5,A8]
   refine BF (by omega) (ldI (by omega) (CT (BB (fun he=>h _ _ (KH.refl h1 h2 hf he)) fun he=> ?_)))
   refine BF (by omega) (vA (by omega) (IT hol hof hs ?_))
   simp only [AJ,AO,AS,AN,AQ,AG,AK,AI,AR,AT,AU,AM,AL,AP,BP,BU,BW,BT,BV,BS,BQ,AY,A6,A7,A4,A5,A8]
   have hkl:=N7 hof (k:=s) (by omega)
   refine IX (α:=Nat×List Int×List Int) (fun q=>[I c,I m,iv (BC os s).length,iv q.1]) (fun q=>[tI (BC os s),tI q.2.1,tI q.2.2]) (fun q=>(BC os s).length-q.1) (KI os c m cs col s) (0,cs,col.set s c) rfl rfl (KI.start hs h1 h2 hf he) (fun R q hq hR=> ?_)
   obtain ⟨j,cs1,col1⟩:=q
   have hj:=hq.j
   have hl:=hq.len
   simp only at hj hl
   simp only [AJ,AO,AS,AN,AQ,AG,AK,AI,AR,AT,AU,AM,AL,AP,BP,BU,BW,BT,BV,BS,BQ,AY,A6,A7,A4,A5,A8]
   refine BE (BB (fun hlt=> ?_) fun hge=> ?_)
   ·have hlt:j<(BC os s).length:=by omega
    obtain ⟨x1,x2,x3,_⟩:=BZ (D6 hlt)
    have hmiss:LP col1 c≤n:=by
     have:=M6 (a:=col) (b:=col1) (c:=c) hs he (hq.II s hs (.inr rfl)) fun k hk hh=>hq.II k hk (.inl hh)
     omega
    have stp:=fun cs2 col2=>KI.step (cs2:=cs2) (col2:=col2) hs hq hlt
    obtain ⟨x,hx⟩: ∃x,(gI (BC os s) j).toNat=x:=⟨_,rfl⟩
    rw [hx] at x2 x3 stp
    refine BF hlt (ldI hlt ?_)
    rw [x3]
    refine BF (by omega) (ldI (by omega) (KM (BF (by omega) (vA (by omega) ?_))))
    refine ih hmiss x2 (by simpa using hl.1) hl.2 (fun i hi=> ?_) fun cs2 col2 p=> ?_
    ·rw [EP (by omega)];split
     ·exact mC _
     ·exact hq.f i hi
    ·exact A9 (by omega) (hR (j+1,cs2,col2) (stp _ _ p) (by simp only;omega))
   ·have:j=(BC os s).length:=by omega
    subst this
    exact h _ _ (KI.stop hs hq)
end Go.Proofs.Ytklmcfpgdfibnaa.P
namespace Go.Proofs.Ytklmcfpgdfibnaa.P
open Go Go.Proofs.Ytklmcfpgdfibnaa Go.Proofs.Ytklmcfpgdfibnaa.Eng
set_option linter.unusedVariables false
set_option maxHeartbeats 4000000
set_option linter.unusedVariables false
set_option linter.unusedSimpArgs false
attribute [local irreducible] prP gP gE gF AW ixW ldc ldg ldl stc stg scW mkW apW AZ cl2 BJ CH B2
variable {w0:World}
def W (os:List AE):List Int→Nat→Int
 | [],_=>0
 | x::l,i=>E os x.toNat i+W os l i
theorem xE (os:List AE) (a b:List Int) (i:Nat):W os (a++b) i=W os a i+W os b i:=by
 induction a with
 | nil=>simp [W]
 | cons x a ih=>simp only [List.cons_append,W,ih];omega
structure Vw (row:List Int) (off:Nat) (todo:List Int):Prop where
 bd:off+todo.length≤row.length
 vw:(row.drop off).take todo.length=todo
theorem Vw.get {row todo:List Int} {off j:Nat} (h:Vw row off todo) (hj:j<todo.length):gI row (off+j)=gI todo j:=by
 have e:=congrArg (fun l=>l[j]?) h.vw
 simp only [List.getElem?_take,hj,if_true,List.getElem?_drop] at e
 unfold gI
 rw [List.getD_eq_getElem?_getD,List.getD_eq_getElem?_getD,e]
theorem Vw.new (todo:List Int):Vw todo 0 todo:=⟨by omega,by simp⟩
theorem jW {todo:List Int} (h:todo.length>0):todo=todo.dropLast++[gI todo (todo.length-1)]:=by
 have hne:todo≠[]:=fun he=>by rw [he] at h;simp at h
 have:=(List.dropLast_concat_getLast hne).symm
 rw [List.getLast_eq_getElem hne,DE (by omega)] at this
 exact this
structure bX (os:List AE) (c m:Int) (cs0 col0:List Int) (s:Nat) (todo cs col:List Int):Prop where
 len:cs.length=8∧col.length=8
 f: ∀i,i<8→F64 (gI cs i)
 II: ∀k,k<8→gI col0 k=c→gI col k=c
 only: ∀k,k<8→gI col k≠c→gI col k=gI col0 k
 got:gI col s=c
 td: ∀x∈todo,0≤x∧x.toNat<8∧gI col x.toNat=c∧gI col0 x.toNat≠c∧Reach os s x.toNat
 nd:todo.Nodup
 clo: ∀k,k<8→gI col k=c→gI col0 k≠c→Reach os s k∧((k:Int)∈todo∨ ∀j∈BC os k,gI col j.toNat=c)
 cnt: ∀i,i<8→gI cs i=w64 (gI cs0 i+m*(S os (isC col c) i-S os (isC col0 c) i-W os todo i))
 sz:todo.length+LP col c≤8
structure SU (os:List AE) (c m:Int) (cs0 col0:List Int) (s:Nat) (k j:Nat) (todo cs col:List Int):Prop where
 len:cs.length=8∧col.length=8
 f: ∀i,i<8→F64 (gI cs i)
 II: ∀k,k<8→gI col0 k=c→gI col k=c
 only: ∀k,k<8→gI col k≠c→gI col k=gI col0 k
 got:gI col s=c
 td: ∀x∈todo,0≤x∧x.toNat<8∧gI col x.toNat=c∧gI col0 x.toNat≠c∧Reach os s x.toNat
 nd:todo.Nodup
 me:k<8∧Reach os s k
 clo: ∀x,x<8→x≠k→gI col x=c→gI col0 x≠c→Reach os s x∧((x:Int)∈todo∨ ∀j∈BC os x,gI col j.toNat=c)
 done: ∀x∈(BC os k).take j,gI col x.toNat=c
 cnt: ∀i,i<8→gI cs i=w64 (gI cs0 i+m*(S os (isC col c) i-S os (isC col0 c) i-W os todo i-(((BC os k).drop j).count (i:Int):Nat)))
 sz:todo.length+LP col c≤8
section
variable {os:List AE} {c m:Int} {cs0 col0 cs col todo:List Int} {s k j:Nat}
theorem bX.start (hs:s<8) (h1:cs0.length=8) (h2:col0.length=8) (hf: ∀i,i<8→F64 (gI cs0 i)) (h0:gI col0 s≠c):bX os c m cs0 col0 s [(s:Int)] cs0 (col0.set s c):=by
 have hkeep: ∀k,k<8→gI col0 k=c→gI (col0.set s c) k=c:=fun k hk h=>by rw [EP (by omega)];split <;> first | rfl | exact h
 have hgot:gI (col0.set s c) s=c:=by rw [EP (by omega)];simp
 refine ⟨⟨h1,by simpa using h2⟩,hf,hkeep,fun k hk h=> ?_,hgot,fun x hx=> ?_,by simp,fun k hk h3 h4=> ?_,fun i hi=> ?_, ?_⟩
 ·rw [EP (by omega)] at h ⊢;split
  ·rename_i hh;rw [if_pos hh] at h;exact absurd rfl h
  ·rfl
 ·have hx:x=(s:Int):=by simpa using hx
  subst hx
  rw [Int.toNat_natCast]
  exact ⟨by omega,hs,hgot,h0, .refl⟩
 ·rw [EP (by omega)] at h3
  by_cases hh:k=s
  ·subst hh;exact ⟨.refl, .inl (by simp)⟩
  ·rw [if_neg hh] at h3;exact absurd h3 h4
 ·have e:=nT (os:=os) (P:=isC col0 c) (Q:=isC (col0.set s c) c) (i:=i) hs (by simp [isC,h0]) (by rw [O9 (by omega)];simp) fun k hk hne=>by rw [O9 (by omega)];simp [hne]
  simp only [W,Int.toNat_natCast]
  rw [e]
  have e2:S os (isC col0 c) i+E os s i-S os (isC col0 c) i-(E os s i+0)=0:=by omega
  rw [e2,Int.mul_zero,Int.add_zero,G9 (hf i hi)]
 ·have:=M6 hs h0 hgot hkeep
  have:=RU col0 c
  simp only [List.length_singleton];omega
theorem bX.stop (h:bX os c m cs0 col0 s [] cs col):KH os c m cs0 col0 cs col s:=
 ⟨h.len,h.f,h.II,h.only,h.got,fun k hk h3 h4=>⟨(h.clo k hk h3 h4).1,(h.clo k hk h3 h4).2.resolve_left (by simp)⟩,fun i hi=>by have:=h.cnt i hi;simp only [W,Int.sub_zero] at this;exact this⟩
theorem SU.stop (h:SU os c m cs0 col0 s k (BC os k).length todo cs col):bX os c m cs0 col0 s todo cs col:=by
 refine ⟨h.len,h.f,h.II,h.only,h.got,h.td,h.nd,fun x hx h3 h4=> ?_,fun i hi=> ?_,h.sz⟩
 ·by_cases hk:x=k
  ·subst hk
   exact ⟨h.me.2, .inr fun y hy=>h.done y (by rw [List.take_length];exact hy)⟩
  ·exact h.clo x hx hk h3 h4
 ·have:=h.cnt i hi
  simp only [List.drop_length,List.count_nil] at this
  rw [this];simp
theorem Z9 {l:List Int} {j i:Nat} {x:Nat} (hj:j<l.length) (hx:gI l j=(x:Int)):((l.drop j).count (i:Int):Int)=(if i=x then 1 else 0)+((l.drop (j+1)).count (i:Int):Int):=by
 rw [drop_cons hj,List.count_cons,hx]
 by_cases hh:i=x
 ·have:((x:Int)==(i:Int))=true:=by simp;omega
  rw [if_pos hh,this];simp;omega
 ·have:((x:Int)==(i:Int))=false:=by simp;omega
  rw [if_neg hh,this];simp
theorem SU.old (h:SU os c m cs0 col0 s k j todo cs col) (hj:j<(BC os k).length) {x:Nat} (hx:gI (BC os k) j=(x:Int)) (hc:gI col x=c):SU os c m cs0 col0 s k (j+1) todo (cs.set x (w64 (gI cs x+m))) col:=by
 have x8:x<8:=by have:=(BZ (D6 hj)).2.1;rw [hx] at this;simpa using this
 have hl:=h.len
 refine ⟨⟨by simpa using hl.1,hl.2⟩,fun i hi=> ?_,h.II,h.only,h.got,h.td,h.nd,h.me,h.clo,fun y hy=> ?_,fun i hi=> ?_,h.sz⟩
 ·rw [EP (by omega)];split
  ·exact mC _
  ·exact h.f i hi
 ·rw [List.take_succ_eq_append_getElem hj,List.mem_append,List.mem_singleton] at hy
  rcases hy with hy | rfl
  ·exact h.done y hy
  ·rw [DE hj,hx,Int.toNat_natCast];exact hc
 ·rw [EP (by omega)]
  have e2:=h.cnt i hi
  have e3:=Z9 (i:=i) hj hx
  by_cases hh:i=x
  ·rw [if_pos hh, ←hh,e2,LC]
   rw [if_pos hh] at e3
   congr 1
   rw [e3]
   generalize S os (isC col c) i=a
   generalize S os (isC col0 c) i=b
   generalize W os todo i=d
   generalize ((List.drop (j+1) (BC os k)).count (i:Int):Int)=e
   simp only [Int.mul_sub,Int.mul_add,Int.mul_one];omega
  ·rw [if_neg hh,e2]
   rw [if_neg hh] at e3
   rw [e3,Int.zero_add]
theorem SU.new (h:SU os c m cs0 col0 s k j todo cs col) (hj:j<(BC os k).length) {x:Nat} (hx:gI (BC os k) j=(x:Int)) (hc:gI col x≠c):SU os c m cs0 col0 s k (j+1) (todo++[(x:Int)]) (cs.set x (w64 (gI cs x+m))) (col.set x c):=by
 have x8:x<8:=by have:=(BZ (D6 hj)).2.1;rw [hx] at this;simpa using this
 have hl:=h.len
 have hgot:gI (col.set x c) x=c:=by rw [EP (by omega)];simp
 have kp: ∀y,gI col y=c→gI (col.set x c) y=c:=fun y hy=>by rw [EP (by omega)];split <;> first | rfl | exact hy
 have hrx:Reach os s x:=by have:=Reach.step h.me.2 (D6 hj);rw [hx] at this;simpa using this
 have h0x:gI col0 x≠c:=fun he=>hc (h.II x x8 he)
 refine ⟨⟨by simpa using hl.1,by simpa using hl.2⟩,fun i hi=> ?_,fun y hy he=>kp y (h.II y hy he),fun y hy he=> ?_,kp s h.got,fun y hy=> ?_, ?_,h.me,fun y hy hne h3 h4=> ?_,fun y hy=> ?_,fun i hi=> ?_, ?_⟩
 ·rw [EP (by omega)];split
  ·exact mC _
  ·exact h.f i hi
 ·rw [EP (by omega)] at he ⊢
  split
  ·rename_i hh;rw [if_pos hh] at he;exact absurd rfl he
  ·rename_i hh;rw [if_neg hh] at he;exact h.only y hy he
 ·rw [List.mem_append,List.mem_singleton] at hy
  rcases hy with hy | rfl
  ·obtain ⟨a1,a2,a3,a4,a5⟩:=h.td y hy
   exact ⟨a1,a2,kp _ a3,a4,a5⟩
  ·rw [Int.toNat_natCast]
   exact ⟨by omega,x8,hgot,h0x,hrx⟩
 ·rw [List.nodup_append]
  refine ⟨h.nd,by simp,fun a ha b hb=> ?_⟩
  have hb:b=(x:Int):=by simpa using hb
  subst hb
  intro he
  subst he
  exact hc (by have:=(h.td _ ha).2.2.1;rwa [Int.toNat_natCast] at this)
 ·by_cases hyx:y=x
  ·subst hyx;exact ⟨hrx, .inl (by simp)⟩
  ·rw [EP (by omega),if_neg hyx] at h3
   obtain ⟨g1,g2⟩:=h.clo y hy hne h3 h4
   exact ⟨g1,g2.elim (fun g=> .inl (List.mem_append_left _ g)) fun g=> .inr fun z hz=>kp _ (g z hz)⟩
 ·rw [List.take_succ_eq_append_getElem hj,List.mem_append,List.mem_singleton] at hy
  rcases hy with hy | rfl
  ·exact kp _ (h.done y hy)
  ·rw [DE hj,hx,Int.toNat_natCast];exact hgot
 ·rw [EP (by omega)]
  have e2:=h.cnt i hi
  have e3:=Z9 (i:=i) hj hx
  have e:=nT (os:=os) (P:=isC col c) (Q:=isC (col.set x c) c) (i:=i) x8 (by simp [isC,hc]) (by rw [O9 (by omega)];simp) fun k hk hne=>by rw [O9 (by omega)];simp [hne]
  have ew:W os (todo++[(x:Int)]) i=W os todo i+E os x i:=by rw [xE];simp [W]
  rw [e,ew]
  by_cases hh:i=x
  ·rw [if_pos hh, ←hh,e2,LC]
   rw [if_pos hh] at e3
   congr 1
   rw [e3,hh]
   generalize S os (isC col c) x=a
   generalize S os (isC col0 c) x=b
   generalize W os todo x=d
   generalize E os x x=g
   generalize ((List.drop (j+1) (BC os k)).count (x:Int):Int)=e
   have:a+g-b-(d+g)-e=a-b-d-(1+e)+1:=by omega
   rw [this,Int.mul_add,Int.mul_one];omega
  ·rw [if_neg hh,e2]
   rw [if_neg hh] at e3
   rw [e3]
   congr 3
   omega
 ·have:=M6 (c:=c) x8 hc hgot fun y _ hy=>kp y hy
  have:=h.sz
  simp only [List.length_append,List.length_singleton];omega
end
end Go.Proofs.Ytklmcfpgdfibnaa.P
namespace Go.Proofs.Ytklmcfpgdfibnaa.P
open Go Go.Proofs.Ytklmcfpgdfibnaa Go.Proofs.Ytklmcfpgdfibnaa.Eng
set_option linter.unusedVariables false
set_option maxHeartbeats 4000000
set_option linter.unusedVariables false
set_option linter.unusedSimpArgs false
attribute [local irreducible] prP gP gE gF AW ixW ldc ldg ldl stc stg scW mkW apW AZ cl2 BJ CH B2
variable {w0:World}
theorem ME {a b:List Int} {K:J2} (h1:a.length≤100) (h2:b.length≤100) (h:K [] [tI a,tI b]):cl2 ⟨Try.prog,w0⟩ 114 C3.sg [] [tI a,tI b] K:=by
 refine C3.cl2 ?_
 unfold C3.txt
 exact GV (by omega) (GV (by omega) h)
theorem PX {os:List AE} {b c d:List T} {cs col:List Int} {id:Int} {K:J2} (hol:os.length=8) (h1:cs.length=8) (h2:col.length=8) (hno:AA os id<0→K [.bool false] []) (hyes:0≤AA os id→K [.bool true] []):cl2 ⟨Try.prog,w0⟩ 115 EJ.sg [I (AA os id)] [tR tO os,b,c,d,tI cs,tI col] K:=by
 refine EJ.cl2 ?_
 unfold EJ.txt
 simp only [AJ,AO,AS,AN,AQ,AG,AK,AI,AR,AT,AU,AM,AL,AP,BP,BU,BW,BT,BV,BS,BQ,AY,A6,A7,A4,A5,A8]
 refine CT ?_
 have e1:(os.length:Int)=8:=by omega
 have e2:(cs.length:Int)=8:=by omega
 have e3:(col.length:Int)=8:=by omega
 by_cases hs:AA os id<0
 ·have:=hno hs
  repeat' (first | refine FG ?_ | refine B9 ?_ | refine NI (by first | with_reducible assumption | omega) ?_ | refine V0 (by first | with_reducible assumption | omega) ?_ | refine HR (by first | with_reducible assumption | omega) rfl ?_ | refine F8 (by first | with_reducible assumption | omega) rfl ?_ | refine CT ?_)
  all_goals first | exact this | omega
 ·have:=hyes (by omega)
  have hk:=BH (l:=os) (id:=id) (by omega)
  obtain ⟨k,hkk⟩: ∃k,(AA os id).toNat=k:=⟨_,rfl⟩
  have hkI:AA os id=(k:Int):=by omega
  rw [hkk] at hk
  rw [hkI]
  have hkl:k<os.length:=by omega
  repeat' (first | refine fL (v:= .bool true) hkl (by simp [tO,hk.2.2.2.2.1]) ?_ | refine FG ?_ | refine B9 ?_ | refine NI (by first | with_reducible assumption | omega) ?_ | refine HR (by first | with_reducible assumption | omega) rfl ?_ | refine CT ?_ | refine BF (by omega) ?_)
  all_goals first | exact this | omega
end Go.Proofs.Ytklmcfpgdfibnaa.P
namespace Go.Proofs.Ytklmcfpgdfibnaa.P
open Go Go.Proofs.Ytklmcfpgdfibnaa Go.Proofs.Ytklmcfpgdfibnaa.Eng
set_option linter.unusedVariables false
set_option maxHeartbeats 4000000
set_option linter.unusedVariables false
set_option linter.unusedSimpArgs false
attribute [local irreducible] prP gP gE gF AW ixW ldc ldg ldl stc stg scW mkW apW AZ cl2 BJ CH B2
variable {w0:World}
theorem TC {os:List AE} {b c' d:List T} {cs col:List Int} {id:Int} {K:J2} (hol:os.length=8) (hof: ∀o∈os,OF o) (h1:cs.length=8) (h2:col.length=8) (hf: ∀i,i<8→F64 (gI cs i)) (hno:AA os id<0→K [] [tI cs,tI col]) (h: ∀s:Nat,AA os id=s→s<8→ ∀cs' col',KH os 1 (-1) cs col cs' col' s→K [] [tI cs',tI col']):cl2 ⟨Try.prog,w0⟩ 57 EE.sg [I (AA os id)] [tR tO os,b,c',d,tI cs,tI col] K:=by
 refine EE.cl2 ?_
 unfold EE.txt
 refine ME (by omega) (by omega) (DB (PX hol h1 h2 (fun hs=>C7 (hno hs)) fun hs=>CV ?_))
 have hk:=BH hs
 obtain ⟨s,hss⟩: ∃s,(AA os id).toNat=s:=⟨_,rfl⟩
 have hsI:AA os id=(s:Int):=by omega
 have hs:s<8:=hss ▸ hk.2.2.2.1
 rw [hsI]
 exact RA hol hof ⟨by omega,by omega⟩ ⟨by omega,by omega⟩ 8 (RU _ _) hs h1 h2 hf fun cs' col' p=>h s hsI hs _ _ p
def EX (os:List AE) (ct:Nat→Int) (C:Nat→Bool) (x:Nat):Prop:=w64 (ct x-S os C x)>0
structure SN (os:List AE) (ct:Nat→Int) (C:Nat→Bool) (cs col:List Int):Prop where
 len:cs.length=8∧col.length=8
 f: ∀i,i<8→F64 (gI cs i)
 rng: ∀k,k<8→gI col k=0∨gI col k=1∨gI col k=2
 out: ∀k,k<8→C k=false→gI col k=0
 cnt: ∀i,i<8→gI cs i=w64 (ct i-S os (fun k=> !isC col 0 k) i)
 blk: ∀k,k<8→C k=true→gI col k=0→(∃x,x<8∧C x=true∧EX os ct C x∧Reach os x k)∧ ∀j∈BC os k,gI col j.toNat=0
 wht: ∀k,k<8→gI col k=2→ ¬EX os ct C k
structure Q6 (os:List AE) (ct:Nat→Int) (C:Nat→Bool) (col cs' col':List Int) (s:Nat):Prop where
 si:SN os ct C cs' col'
 ng: ∀k,k<8→gI col k≠1→gI col' k≠1
 got:gI col' s≠1
 wk: ∀k,k<8→gI col' k=2→gI col k=2∨ ∀j∈BC os k,gI col' j.toNat≠1
section
variable {os:List AE} {ct:Nat→Int} {C:Nat→Bool} {cs col cs' col':List Int} {s:Nat}
theorem SN.wW (h:SN os ct C cs col) (hs:s<8) (hg:gI col s=1):gI cs s>0↔EX os ct C s:=by
 have e:S os (fun k=> !isC col 0 k) s=S os C s:=by
  refine JT fun b hb=> ?_
  by_cases h0:gI col b=0
  ·have e1:isC col 0 b=true:=by simp [isC,h0]
   simp only [e1]
   cases hc:C b with
   | false=>simp
   | true=>
     have e2:E os b s=0:=uB fun hm=>by
      have:=(h.blk b hb hc h0).2 _ hm
      rw [Int.toNat_natCast,hg] at this;omega
     simp [e2]
  ·have e1:isC col 0 b=false:=by simp [isC,h0]
   simp only [e1]
   cases hc:C b with
   | false=>exact absurd (h.out b hb hc) h0
   | true=>simp
 rw [h.cnt s hs,e];rfl
theorem SN.inC (h:SN os ct C cs col) (hs:s<8) (hg:gI col s≠0):C s=true:=by
 cases hc:C s with
 | false=>exact absurd (h.out s hs hc) hg
 | true=>rfl
theorem SN.black (h:SN os ct C cs col) (hs:s<8) (hg:gI col s=1) (he:EX os ct C s) (p:KH os 0 1 cs col cs' col' s):Q6 os ct C col cs' col' s:=by
 refine ⟨⟨p.len,p.f,fun k hk=> ?_,fun k hk hc=>p.II k hk (h.out k hk hc),fun i hi=> ?_,fun k hk hc h0=> ?_,fun k hk h2=> ?_⟩,fun k hk h1=> ?_,by rw [p.got];decide,fun k hk h2=> .inl ?_⟩
 ·by_cases h0:gI col' k=0
  ·exact .inl h0
  ·rw [p.only k hk h0];exact h.rng k hk
 ·rw [p.cnt i hi,h.cnt i hi,LC]
  congr 1
  have e1:=YK (os:=os) (P:=isC col' 0) (i:=i)
  have e2:=YK (os:=os) (P:=isC col 0) (i:=i)
  omega
 ·by_cases h3:gI col k=0
  ·obtain ⟨g1,g2⟩:=h.blk k hk hc h3
   exact ⟨g1,fun j hj=>p.II _ (BZ hj).2.1 (g2 j hj)⟩
  ·obtain ⟨g1,g2⟩:=p.clo k hk h0 h3
   exact ⟨⟨s,hs,h.inC hs (by omega),he,g1⟩,g2⟩
 ·have:=p.only k hk (by omega)
  exact h.wht k hk (by omega)
 ·by_cases h0:gI col' k=0
  ·omega
  ·rw [p.only k hk h0];exact h1
 ·have:=p.only k hk (by omega)
  omega
theorem SN.lF (h:SN os ct C cs col) (hs:s<8) (hg:gI col s=1) (he: ¬EX os ct C s):SN os ct C cs (col.set s 2):=by
 have hl:=h.len
 have e: ∀k,gI (col.set s 2) k=if k=s then 2 else gI col k:=fun k=>EP (by omega)
 refine ⟨⟨hl.1,by simpa using hl.2⟩,h.f,fun k hk=> ?_,fun k hk hc=> ?_,fun i hi=> ?_,fun k hk hc h0=> ?_,fun k hk h2=> ?_⟩
 ·rw [e];split
  ·exact .inr (.inr rfl)
  ·exact h.rng k hk
 ·rw [e];split
  ·rename_i hks;subst hks;have:=h.out k hk hc;omega
  ·exact h.out k hk hc
 ·rw [h.cnt i hi]
  congr 2
  refine fS fun k hk=> ?_
  simp only [isC,e]
  split
  ·rename_i hks;subst hks;simp [hg]
  ·rfl
 ·rw [e] at h0
  split at h0
  ·omega
  ·obtain ⟨g1,g2⟩:=h.blk k hk hc h0
   refine ⟨g1,fun j hj=> ?_⟩
   rw [e];split
   ·rename_i hjs;have:=g2 j hj;rw [hjs] at this;omega
   ·exact g2 j hj
 ·rw [e] at h2
  split at h2
  ·rename_i hks;subst hks;exact he
  ·exact h.wht k hk h2
theorem SN.same (h:SN os ct C cs col) (hg:gI col s≠1):Q6 os ct C col cs col s:=⟨h,fun _ _ h=>h,hg,fun _ _ h=> .inl h⟩
end
structure N6 (os:List AE) (ct:Nat→Int) (C:Nat→Bool) (col:List Int) (s:Nat) (q:Nat×List Int×List Int):Prop where
 j:q.1≤(BC os s).length
 si:SN os ct C q.2.1 q.2.2
 ng: ∀k,k<8→gI col k≠1∨k=s→gI q.2.2 k≠1
 wk: ∀k,k<8→k≠s→gI q.2.2 k=2→gI col k=2∨ ∀j∈BC os k,gI q.2.2 j.toNat≠1
 done: ∀x∈(BC os s).take q.1,gI q.2.2 x.toNat≠1
section
variable {os:List AE} {ct:Nat→Int} {C:Nat→Bool} {cs col cs1 col1 cs2 col2:List Int} {s j:Nat}
theorem N6.start (h:SN os ct C cs col) (hs:s<8) (hg:gI col s=1) (he: ¬EX os ct C s):N6 os ct C col s (0,cs,col.set s 2):=by
 have hl:=h.len
 have e: ∀k,gI (col.set s 2) k=if k=s then 2 else gI col k:=fun k=>EP (by omega)
 refine ⟨Nat.zero_le _,h.lF hs hg he,fun k hk hh=> ?_,fun k hk hne h2=> ?_,fun x hx=>by simp at hx⟩
 ·simp only;rw [e];split
  ·decide
  ·rename_i hh2;exact hh.resolve_right hh2
 ·simp only at h2;rw [e,if_neg hne] at h2;exact .inl h2
theorem N6.step (h:N6 os ct C col s (j,cs1,col1)) (hj:j<(BC os s).length) (p:Q6 os ct C col1 cs2 col2 (gI (BC os s) j).toNat):N6 os ct C col s (j+1,cs2,col2):=by
 refine ⟨by simp only;omega,p.si,fun k hk hh=>p.ng k hk (h.ng k hk hh),fun k hk hne h2=> ?_,fun x hx=> ?_⟩
 ·rcases p.wk k hk h2 with h3 | h3
  ·exact (h.wk k hk hne h3).imp_right fun g y hy=>p.ng _ (BZ hy).2.1 (g y hy)
  ·exact .inr h3
 ·simp only at hx ⊢
  rw [List.take_succ_eq_append_getElem hj,List.mem_append,List.mem_singleton] at hx
  rcases hx with hx | rfl
  ·exact p.ng _ (BZ (List.mem_of_mem_take hx)).2.1 (h.done x hx)
  ·rw [DE hj];exact p.got
theorem N6.stop (hs:s<8) (h:N6 os ct C col s ((BC os s).length,cs1,col1)):Q6 os ct C col cs1 col1 s:=by
 refine ⟨h.si,fun k hk hh=>h.ng k hk (.inl hh),h.ng s hs (.inr rfl),fun k hk h2=> ?_⟩
 by_cases hks:k=s
 ·subst hks
  exact .inr fun y hy=>h.done y (by simp only;rw [List.take_length];exact hy)
 ·exact h.wk k hk hks h2
end
theorem cO {os:List AE} {b c' d:List T} {ct:Nat→Int} {C:Nat→Bool} (hol:os.length=8) (hof: ∀o∈os,OF o): ∀(n:Nat) {cs col:List Int} {s:Nat} {K:J2},8-LP col 1≤n→s<8→SN os ct C cs col→(∀cs' col',Q6 os ct C col cs' col' s→K [] [tI cs',tI col'])→cl2 ⟨Try.prog,w0⟩ 117 CE.sg [I s] [tI cs,tI col,tR tO os,b,c',d] K:=by
 intro n
 induction n with
 | zero=>
   intro cs col s K hn hs si h
   have hl:=si.len
   have:gI col s≠1:=fun hg=>by
    have:=M6 (a:=col.set s 2) (b:=col) (c:=1) hs (by rw [EP (by omega)];simp) hg fun k hk hh=>by
     rw [EP (by omega)] at hh
     split at hh
     ·omega
     ·exact hh
    have:=RU (col.set s 2) 1
    omega
   refine CE.cl2 ?_
   unfold CE.txt
   simp only [AJ,AO,AS,AN,AQ,AG,AK,AI,AR,AT,AU,AM,AL,AP,BP,BU,BW,BT,BV,BS,BQ,AY,A6,A7,A4,A5,A8]
   refine BF (by omega) (ldI (by omega) (DN (IY this (h _ _ (si.same this)))))
 | succ n ih=>
   intro cs col s K hn hs si h
   have hl:=si.len
   refine CE.cl2 ?_
   unfold CE.txt
   simp only [AJ,AO,AS,AN,AQ,AG,AK,AI,AR,AT,AU,AM,AL,AP,BP,BU,BW,BT,BV,BS,BQ,AY,A6,A7,A4,A5,A8]
   refine BF (by omega) (ldI (by omega) (DN (BB (fun hg=>h _ _ (si.same hg)) fun hg=> ?_)))
   have hg:gI col s=1:=Decidable.not_not.1 hg
   refine BF (by omega) (ldI (by omega) (RD (BB (fun he=> ?_) fun he=> ?_)))
   ·have he:=(si.wW hs hg).1 he
    exact RA hol hof ⟨by omega,by omega⟩ ⟨by omega,by omega⟩ 8 (RU _ _) hs hl.1 hl.2 si.f fun cs' col' p=>h _ _ (si.black hs hg he p)
   have he:=fun hx=>he ((si.wW hs hg).2 hx)
   refine BF (by omega) (vA (v:=2) (by omega) (IT hol hof hs ?_))
   have hkl:=N7 hof (k:=s) (by omega)
   refine IX (α:=Nat×List Int×List Int) (fun q=>[iv (BC os s).length,iv q.1]) (fun q=>[tI (BC os s),tI q.2.1,tI q.2.2]) (fun q=>(BC os s).length-q.1) (N6 os ct C col s) (0,cs,col.set s 2) (by simp only [AJ,AO,AS,AN,AQ,AG,AK,AI,AR,AT,AU,AM,AL,AP,BP,BU,BW,BT,BV,BS,BQ,AY,A6,A7,A4,A5,A8];rfl) rfl (N6.start si hs hg he) (fun R q hq hR=> ?_)
   obtain ⟨j,cs1,col1⟩:=q
   have hj:=hq.j
   simp only at hj
   simp only [AJ,AO,AS,AN,AQ,AG,AK,AI,AR,AT,AU,AM,AL,AP,BP,BU,BW,BT,BV,BS,BQ,AY,A6,A7,A4,A5,A8]
   refine BE (BB (fun hlt=> ?_) fun hge=> ?_)
   ·have hlt:j<(BC os s).length:=by omega
    obtain ⟨x1,x2,x3,_⟩:=BZ (D6 hlt)
    have hmiss:8-LP col1 1≤n:=by
     have:=M6 (a:=col1) (b:=col) (c:=1) hs (hq.ng s hs (.inr rfl)) hg fun k hk hh=>by
      by_cases h3:gI col k=1
      ·exact h3
      ·exact absurd hh (hq.ng k hk (.inl h3))
     have:=RU col1 1
     omega
    have stp:=fun cs2 col2=>N6.step (cs2:=cs2) (col2:=col2) hq hlt
    obtain ⟨x,hx⟩: ∃x,(gI (BC os s) j).toNat=x:=⟨_,rfl⟩
    rw [hx] at x2 x3 stp
    refine BF hlt (ldI hlt ?_)
    rw [x3]
    refine ih hmiss x2 hq.si fun cs2 col2 p=> ?_
    exact A9 (by omega) (hR (j+1,cs2,col2) (stp _ _ p) (by simp only;omega))
   ·have:j=(BC os s).length:=by omega
    subst this
    exact h _ _ (N6.stop hs hq)
end Go.Proofs.Ytklmcfpgdfibnaa.P
namespace Go.Proofs.Ytklmcfpgdfibnaa.P
open Go Go.Proofs.Ytklmcfpgdfibnaa Go.Proofs.Ytklmcfpgdfibnaa.Eng
set_option linter.unusedVariables false
set_option maxHeartbeats 4000000
set_option linter.unusedVariables false
set_option linter.unusedSimpArgs false
attribute [local irreducible] prP gP gE gF AW ixW ldc ldg ldl stc stg scW mkW apW AZ cl2 BJ CH B2
variable {w0:World}
theorem S5 {os:List AE} {b c' d:List T} {cs col:List Int} {ct:Nat→Int} {C:Nat→Bool} {id:Int} {K:J2} (hol:os.length=8) (hof: ∀o∈os,OF o) (si:SN os ct C cs col) (hno:AA os id<0→K [] [tI cs,tI col]) (h: ∀s:Nat,AA os id=s→s<8→ ∀cs' col',Q6 os ct C col cs' col' s→K [] [tI cs',tI col']):cl2 ⟨Try.prog,w0⟩ 59 EC.sg [I (AA os id)] [tR tO os,b,c',d,tI cs,tI col] K:=by
 have hl:=si.len
 refine EC.cl2 ?_
 unfold EC.txt
 refine ME (by omega) (by omega) (DB (PX hol hl.1 hl.2 (fun hs=>C7 (hno hs)) fun hs=>CV ?_))
 have hk:=BH hs
 obtain ⟨s,hss⟩: ∃s,(AA os id).toNat=s:=⟨_,rfl⟩
 have hsI:AA os id=(s:Int):=by omega
 have hs:s<8:=hss ▸ hk.2.2.2.1
 rw [hsI]
 exact cO hol hof 8 (by omega) hs si fun cs' col' p=>h s hsI hs _ _ p
structure L6 (os:List AE) (ct:Nat→Int) (C:Nat→Bool) (col0:List Int) (s:Nat) (todo cs col:List Int):Prop where
 si:SN os ct C cs col
 ng: ∀k,k<8→gI col0 k≠1→gI col k≠1
 wk: ∀k,k<8→gI col k=2→gI col0 k=2∨ ∀j∈BC os k,gI col j.toNat≠1∨j∈todo
 got:gI col s≠1∨(s:Int)∈todo
 td: ∀x∈todo,0≤x∧x.toNat<8
 sz:todo.length+4*(8-LP col 1)≤40
section
variable {os:List AE} {ct:Nat→Int} {C:Nat→Bool} {col0 cs col cs' col' todo:List Int} {s k:Nat}
theorem L6.stop (h:L6 os ct C col0 s [] cs col):Q6 os ct C col0 cs col s:=
 ⟨h.si,h.ng,h.got.resolve_right (by simp),fun k hk h2=>(h.wk k hk h2).imp_right fun g j hj=>(g j hj).resolve_right (by simp)⟩
theorem OX {x:Int} (hl:todo.length>0) (hk:gI todo (todo.length-1)=(k:Int)) (h:x∈todo):x∈todo.dropLast∨x=(k:Int):=by
 rw [jW hl,List.mem_append,List.mem_singleton,hk] at h;exact h
theorem L6.drop (h:L6 os ct C col0 s todo cs col) (hl:todo.length>0) (hk:gI todo (todo.length-1)=(k:Int)) (hc:gI col k≠1):L6 os ct C col0 s todo.dropLast cs col:=by
 refine ⟨h.si,h.ng,fun x hx h2=>(h.wk x hx h2).imp_right fun g j hj=> ?_, ?_,fun x hx=>h.td x (List.dropLast_subset _ hx),by have:=h.sz;rw [List.length_dropLast];omega⟩
 ·rcases g j hj with g | g
  ·exact .inl g
  ·rcases OX hl hk g with g | rfl
   ·exact .inr g
   ·rw [Int.toNat_natCast];exact .inl hc
 ·rcases h.got with g | g
  ·exact .inl g
  ·rcases OX hl hk g with g | g
   ·exact .inr g
   ·have:s=k:=by omega
    subst this;exact .inl hc
theorem L6.black (h:L6 os ct C col0 s todo cs col) (hl:todo.length>0) (hk:gI todo (todo.length-1)=(k:Int)) (p:Q6 os ct C col cs' col' k):L6 os ct C col0 s todo.dropLast cs' col':=by
 have hm:LP col 1≤LP col' 1:=rU (a:=col') (b:=col) fun y hy h1=>Decidable.byContradiction fun hh=>p.ng y hy hh h1
 refine ⟨p.si,fun x hx h1=>p.ng x hx (h.ng x hx h1),fun x hx h2=> ?_, ?_,fun x hx=>h.td x (List.dropLast_subset _ hx),by have:=h.sz;rw [List.length_dropLast];omega⟩
 ·rcases p.wk x hx h2 with h3 | h3
  ·refine (h.wk x hx h3).imp_right fun g j hj=> ?_
   rcases g j hj with g | g
   ·exact .inl (p.ng _ (BZ hj).2.1 g)
   ·rcases OX hl hk g with g | rfl
    ·exact .inr g
    ·rw [Int.toNat_natCast];exact .inl p.got
  ·exact .inr fun j hj=> .inl (h3 j hj)
 ·rcases h.got with g | g
  ·by_cases hs:s<8
   ·exact .inl (p.ng s hs g)
   ·have e:gI col' s=0:=by
     unfold gI;rw [List.getD_eq_getElem?_getD,List.getElem?_eq_none (by have:=p.si.len.2;omega)];rfl
    rw [e];exact .inl (by decide)
  ·rcases OX hl hk g with g | g
   ·exact .inr g
   ·have:s=k:=by omega
    subst this;exact .inl p.got
theorem L6.lF (hof: ∀o∈os,OF o) (hol:os.length=8) (h:L6 os ct C col0 s todo cs col) (hl:todo.length>0) (hk:gI todo (todo.length-1)=(k:Int)) (k8:k<8) (hg:gI col k=1) (he: ¬EX os ct C k):L6 os ct C col0 s (todo.dropLast++BC os k) cs (col.set k 2)∧(todo.dropLast++BC os k).length+4*(8-LP (col.set k 2) 1)<todo.length+4*(8-LP col 1):=by
 have hlen:=h.si.len
 have e: ∀x,gI (col.set k 2) x=if x=k then 2 else gI col x:=fun x=>EP (by omega)
 have n1: ∀x,gI col x≠1∨x=k→gI (col.set k 2) x≠1:=fun x hx=>by
  rw [e];split
  ·decide
  ·rename_i hh;exact hx.resolve_right hh
 have hkl:=N7 hof (k:=k) (by omega)
 have hm:LP col 1<LP (col.set k 2) 1:=M6 (a:=col.set k 2) (b:=col) k8 (n1 k (.inr rfl)) hg fun y hy h1=>Decidable.byContradiction fun hh=>n1 y (.inl hh) h1
 have hm8:=RU (col.set k 2) 1
 have hsz:=h.sz
 refine ⟨⟨h.si.lF k8 hg he,fun x hx h1=>n1 x (.inl (h.ng x hx h1)),fun x hx h2=> ?_, ?_,fun x hx=> ?_,by rw [List.length_append,List.length_dropLast];omega⟩,by rw [List.length_append,List.length_dropLast];omega⟩
 ·by_cases hxk:x=k
  ·subst hxk
   exact .inr fun j hj=> .inr (List.mem_append_right _ hj)
  ·rw [e,if_neg hxk] at h2
   refine (h.wk x hx h2).imp_right fun g j hj=> ?_
   rcases g j hj with g | g
   ·exact .inl (n1 _ (.inl g))
   ·rcases OX hl hk g with g | rfl
    ·exact .inr (List.mem_append_left _ g)
    ·rw [Int.toNat_natCast];exact .inl (n1 _ (.inr rfl))
 ·rcases h.got with g | g
  ·exact .inl (n1 _ (.inl g))
  ·rcases OX hl hk g with g | g
   ·exact .inr (List.mem_append_left _ g)
   ·exact .inl (n1 _ (.inr (by omega)))
 ·rcases List.mem_append.1 hx with hx | hx
  ·exact h.td x (List.dropLast_subset _ hx)
  ·exact ⟨(BZ hx).1,(BZ hx).2.1⟩
theorem L6.start (si:SN os ct C cs col) (hs:s<8):L6 os ct C col s [(s:Int)] cs col:=
 ⟨si,fun _ _ h=>h,fun _ _ h=> .inl h, .inr (by simp),fun x hx=>by have hx:x=(s:Int):=by simpa using hx
                                                                  subst hx;rw [Int.toNat_natCast];exact ⟨by omega,hs⟩,by simp only [List.length_singleton];omega⟩
end
end Go.Proofs.Ytklmcfpgdfibnaa.P
